/- RecordAlike: part of the proof: contracts of the functions that the law reaches, and the law. No conditions beyond the given statement's own. -/
import Derived.Test.YtilebidefogaiaaGreatDoorW6
open Bool renaming not_eq_true' → EU, or_eq_true → F1, not_true → F7, false_eq_true → Ei
open List.Perm renaming eq_of_pairwise → HN
open List renaming pairwise_mergeSort → GX, mergeSort_perm → GI, map_cons → EH, mem_cons → Eg, mem_cons_of_mem → EM, mem_map → D3, foldl_cons → EJ, length → Dw, length_map → Fh, length_cons → Ef, map → Dt, foldl → D1, getElem?_eq_some_iff → DA, getElem?_eq_getElem → DT, zip_cons_cons → Jf, range → Et, getD → D9, replicate → D5, mem_range'_1 → HB, range' → EL, filterMap_cons → GJ, flatMap_cons → HX, mem_flatMap → Ht, mem_of_getElem? → Eo, filterMap_cons_none → Ia, filter_cons → FB, filterMap_cons_some → Ib, filter_eq_nil_iff → FD, mem_filter → Fw
open Go.Proofs.Tryz renaming prog → Du, f24 → IU, f56 → IV, f4 → Hg
open Go.Vi.AttT renaming row → Dy
open Go.Vi.SeenT renaming row → EA
open Go.Vi.CourseT renaming row → DF
open Go.Vi.SysT renaming row → DJ
open Go.Vi.FactT renaming row → DE
open Go.Vi.Ev renaming castH → DI, sym0 → DX, glob0 → D7, frameX → F2
open Go.Vi.D renaming tup → Es, agg → EB, mapRL → El, mapR → DR, any → EN, grd → Gx
open Go.Vi.WorldT renaming l → Eb
open Go.Exit renaming exit → Ea, ret → E7, normal → DQ
open Go.IntKind renaming i64 → Dz, wrap → DG
open Go.Vi.CW renaming cast → DU, symX → DV, each → Hy
open Go.Vi.PtT renaming row → FM
open Go.Vi.ReadT renaming row → H9
open Option.some renaming injEq → Dv
open Int renaming toNat → DN
open Go Go.Proofs
namespace Go.Vi
set_option maxRecDepth 100000
set_option maxHeartbeats 4000000
theorem oB (a b : SeenT) : leS a b = true ↔ a.course ≤ b.course := by
 unfold leS
 rw [EU, ox]; omega
theorem qB (a b c : SeenT) (h1 : leS a b = true) (h2 : leS b c = true) : leS a c = true := by rw [oB] at *; omega
theorem qC (a b : SeenT) : (leS a b || leS b a) = true := by
 rw [F1, oB, oB]; omega
def CC (l : List SeenT) : Prop := ∀ x ∈ l, ∀ y ∈ l, x.course = y.course → x = y
theorem uK {l l' : List SeenT} (hp : l.Perm l') (hd : CC l') : l.mergeSort leS = l'.mergeSort leS := by
 refine HN (le := fun a b => leS a b = true) ?_ (GX qB qC _) (GX qB qC _) ((GI _ _).trans (hp.trans (GI _ _).symm))
 intro a b ha hb h1 h2
 have ha' : a ∈ l' := hp.mem_iff.1 (by simpa using ha)
 have hb' : b ∈ l' := by simpa using hb
 rw [oB] at h1 h2
 exact hd a ha' b hb' (by omega)
def SmOk (m : SM) : Prop := (m.map (·.1)).Nodup ∧ ∀ e ∈ m, e.2.course = e.1
theorem jj (m : SM) (k : Int) (v : SeenT) : (bX m k v).map (·.1) = if k ∈ m.map (·.1) then m.map (·.1) else m.map (·.1) ++ [k] := by
 induction m with
 | nil => simp [bX]
 | cons e m ih =>
  obtain ⟨a, x⟩ := e
  unfold bX
  by_cases h : a = k
  ·subst h; simp
  ·have h' : ¬ k = a := fun e => h e.symm
   simp only [h, if_false, EH, ih, Eg, h', false_or]
   split <;> simp
theorem smPut_mem {m : SM} {k : Int} {v : SeenT} {e : Int × SeenT} (h : e ∈ bX m k v) : e = (k, v) ∨ e ∈ m := by
 induction m with
 | nil => simp [bX] at h; exact .inl h
 | cons a m ih =>
  obtain ⟨a, x⟩ := a
  unfold bX at h
  split at h
  ·rcases Eg.1 h with h | h
   ·exact .inl h
   ·exact .inr (EM _ h)
  ·rcases Eg.1 h with h | h
   ·exact .inr (h ▸ List.mem_cons_self ..)
   ·exact (ih h).imp id (EM _)
theorem SmOk.put {m : SM} (h : SmOk m) {k : Int} {v : SeenT} (hv : v.course = k) : SmOk (bX m k v) := by
 refine ⟨?_, fun e he => ?_⟩
 ·rw [jj]
  split
  ·exact h.1
  ·rename_i hk
   rw [List.nodup_append]
   refine ⟨h.1, by simp, fun a ha b hb => ?_⟩
   simp at hb; subst hb
   exact fun e => hk (e ▸ ha)
 ·rcases smPut_mem he with rfl | he
  ·exact hv
  ·exact h.2 e he
theorem SmOk.dist {m : SM} (h : SmOk m) : CC (smV m) := by
 intro x hx y hy hxy
 obtain ⟨⟨k, s⟩, he, rfl⟩ := D3.1 hx
 obtain ⟨⟨k', s'⟩, he', rfl⟩ := D3.1 hy
 have h1 := h.2 _ he
 have h2 := h.2 _ he'
 simp only at h1 h2 hxy
 have hk : k = k' := by rw [← h1, ← h2, hxy]
 subst hk
 have key : ∀ (m : SM), (m.map (·.1)).Nodup → (k, s) ∈ m → (k, s') ∈ m → s = s' := by
  intro m
  induction m with
  | nil => intro _ h; simp at h
  | cons a m ih =>
   intro hn ha hb
   simp only [EH, List.nodup_cons] at hn
   rcases Eg.1 ha with rfl | ha2
   ·rcases Eg.1 hb with hb | hb
    ·cases hb; rfl
    ·exact absurd (show k ∈ m.map (·.1) from D3.2 ⟨(k, s'), hb, rfl⟩) hn.1
   ·rcases Eg.1 hb with rfl | hb2
    ·exact absurd (show k ∈ m.map (·.1) from D3.2 ⟨(k, s), ha2, rfl⟩) hn.1
    ·exact ih hn.2 ha2 hb2
 exact key m h.1 he he'
theorem qD {m1 m2 : IM} : ∀ (l : List Int) (x : SeenT), (l.foldl (xF m1 m2) x).course = x.course
 | [], _ => rfl
 | c :: l, x => by
  rw [EJ, qD l]
  unfold xF
  cases decide (gI m1 c > 0) <;> rfl
theorem xl {w : WorldT} {known term : Int} {m1 m2 : IM} : ∀ (ns : List Int) (s : RSM), SmOk s.2 → SmOk (ns.foldl (nbF w known term m1 m2) s).2 ∧ (ns.foldl (nbF w known term m1 m2) s).2.length ≤ s.2.length + ns.length
 | [], s, h => ⟨h, by simp⟩
 | n :: ns, s, h => by
  have h1 : SmOk (nbF w known term m1 m2 s n).2 := by
   unfold nbF
   cases decide ((seenOf w known term m1 m2 s.2 n).tries > 0)
   ·exact h
   ·exact h.put (qD _ _)
  have h2 : (nbF w known term m1 m2 s n).2.length ≤ s.2.length + 1 := by
   unfold nbF
   cases decide ((seenOf w known term m1 m2 s.2 n).tries > 0)
   ·simp
   ·have := congrArg Dw (jj s.2 n (seenOf w known term m1 m2 s.2 n))
    simp only [Fh] at this
    simp only [cond_true]
    rw [this]
    split <;> simp
  have h3 := xl (w := w) (known := known) (term := term) (m1 := m1) (m2 := m2) ns _ h1
  refine ⟨h3.1, ?_⟩
  have := h3.2
  simp only [EJ, Ef]
  omega
theorem tP : ∀ (now : List Int) (s : Int × SM) {s' : Int × SM}, SmOk s.2 → co snF now s = .inl s' → SmOk s'.2 ∧ s'.2.length ≤ s.2.length + now.length
 | [], s, s', h, he => by simp only [co, Sum.inl.injEq] at he; subst he; exact ⟨h, by simp⟩
 | c :: now, s, s', h, he => by
  simp only [co, snF] at he
  cases hk : Dn s.1 c <;> rw [hk] at he
  ·simp at he
  ·simp only [cond_true] at he
   have h3 := tP now _ (h.put (k := c) (v := ⟨c, 0, -1, true⟩) rfl) he
   have := congrArg Dw (jj s.2 c ⟨c, 0, -1, true⟩)
   simp only [Fh] at this
   refine ⟨h3.1, ?_⟩
   have h4 := h3.2
   simp only [Ef] at h4 ⊢
   have h5 : (bX s.2 c ⟨c, 0, -1, true⟩).length ≤ s.2.length + 1 := by rw [this]; split <;> simp
   omega
def sitX (la : List AttT) : Unit ⊕ Int := if (bZ la).2 != 0 then .inr (bZ la).2 else if (db la).2.2 != 0 then .inr (db la).2.2 else .inl ()
def uL (w : WorldT) (rs : List ReadT) (la : List AttT) (l : List SeenT) : Exit × AS := ck .ret (fun _ : Unit => pwE w rs la l) (fun e : Int => (.ret, pwX w e)) (sitX la)
theorem xm (w : WorldT) (rs : List ReadT) (la : List AttT) (l : List SeenT) : (uL w rs la l).1 = .ret := by
 unfold uL; cases sitX la <;> rfl
theorem CD {w : WorldT} {known st : Int} {sm : SM} {rs : List ReadT} {la : List AttT} {as_ : List (List Dp)} {m1 m2 : IM} (hla : aj la) (hok : SmOk sm) (hsm : sm.length ≤ 1000000) :
  CW Du Γk [] false (rL (i3 Tryz.f19) 4) (nbE w known st sm rs (la.map Dy) as_ m1 m2) (uL w rs la (smV sm)).1 (uL w rs la (smV sm)).2 := by
 rw [xm]
 refine Cz hsm fun l bs hp => ?_
 have hd : CC l := fun x hx y hy => hok.dist x (hp.mem_iff.1 hx) y (hp.mem_iff.1 hy)
 have hl : l.length < 4611686018427387904 := by
  have := hp.length_eq
  simp only [smV, Fh] at this
  omega
 have hs := uK hp hok.dist
 unfold uL sitX
 cases h1 : ((bZ la).2 != 0)
 ·cases h2 : ((db la).2.2 != 0)
  ·have := pw_c (w := w) (known := known) (st := st) (sm := sm) (rs := rs) hla (as_ := as_) (m1 := m1) (m2 := m2) (bs := bs) hl hd h1 h2
   rw [pwE, hs] at this
   exact this
  ·exact pw_b (w := w) (known := known) (st := st) (sm := sm) (rs := rs) hla (as_ := as_) (m1 := m1) (m2 := m2) (bs := bs) hl hd h1 h2
 ·exact pw_a (w := w) (known := known) (st := st) (sm := sm) (rs := rs) hla (as_ := as_) (m1 := m1) (m2 := m2) (bs := bs) hl hd h1
def nf (e : Int) : D := .tup [.agg [dl, int 0, int 0, int 0], dl, int e]
def sitOk (seen : List SeenT) (earned n d : Int) (rs : List ReadT) : D := .tup [.agg [ab (seen.map EA), int earned, int n, int d], ab (rdR rs), int 0]
noncomputable abbrev ng (w : WorldT) : List Blk := [.var [ab (Dt DF w.c), ab w.p, ab (Dt DJ w.s), ab (Dt DE w.f)], .var [nq, int 0, int 0, int 0]]
theorem CE {w : WorldT} {st term known : Int} {now : List Int} (hb : (!(decide (st ≥ 0) && decide (st ≤ 19999)) || !(decide (term ≥ 0) && decide (term ≤ 1023))) = true) (h : List Blk) : (Ev Du Γk 19 [.agg w.l, int st, int term, int known, ab (now.map fun n => [vi n])] h (nf 150) h) := by
 exact DI (DX (d := Es [EB [nq, int 0, int 0, int 0], nq, int 150]) pok [.val (bool (decide (st ≥ 0) && decide (st ≤ 19999))), .val (bool (decide (term ≥ 0) && decide (term ≤ 1023))), .b true] (by kernel_rfl) (.c (D7 (Γ' := Γk) (@de st 0 19999 (ng w))) (.c (gd (!!(decide (st ≥ 0) && decide (st ≤ 19999))) (D7 (Γ' := Γk) (@de term 0 1023 (ng w)))) (.c hb .n))) rfl rfl h) (by rfl) (by rfl)
def jJ (w : WorldT) (known term : Int) (aa : List AttT) (rs : List ReadT) (sm : SM) : RSM := (ae w.f known).foldl (nbF w known term (aH aa).1 (aH aa).2) (rs, sm)
def si (w : WorldT) (known term : Int) (now : List Int) (rr qq : List ReadT) (aa la : List AttT) (ee : Int) : D := match snR now with
 | .inr _ => nf 150
 | .inl s => match (ee != 0) with
  | true => nf ee
  | false => match sitX la with
   | .inr e => nf e
   | .inl _ => sitOk ((smV (jJ w known term aa (rr ++ qq ++ [rdN]) s.2).2).mergeSort leS) (mnI (bZ la).1 10000) (db la).1 (db la).2.1 (jJ w known term aa (rr ++ qq ++ [rdN]) s.2).1
theorem bH {w : WorldT} {known term : Int} {m1 m2 : IM} {ns : List Int} {rs : List ReadT} {now : List Int} {s : Int × SM} (h : snR now = .inl s) : SmOk (ns.foldl (nbF w known term m1 m2) (rs, s.2)).2 :=
 (xl ns (rs, s.2) (tP now (-1, []) ⟨by simp, by simp⟩ h).1).1
theorem bB {w : WorldT} {known term : Int} {m1 m2 : IM} {ns : List Int} {rs : List ReadT} {now : List Int} {s : Int × SM} (hn : now.length ≤ 1000) (hs : ns.length ≤ 1000) (h : snR now = .inl s) : (ns.foldl (nbF w known term m1 m2) (rs, s.2)).2.length ≤ 1000000 := by
 have h1 := (xl (w := w) (known := known) (term := term) (m1 := m1) (m2 := m2) ns (rs, s.2) (tP now (-1, []) ⟨by simp, by simp⟩ h).1).2
 have h2 := (tP now (-1, []) ⟨by simp, by simp⟩ h).2
 simp only [List.length_nil, Nat.zero_add] at h1 h2
 omega
noncomputable abbrev c4 (w : WorldT) : List Blk := [.var [ab (Dt DF w.c), ab w.p, ab (Dt DJ w.s), ab (Dt DE w.f)], .var [nq, int 0, int 0, int 0]]
theorem sit_a {w : WorldT} (hw : w.ok) {st term known : Int} {now : List Int} (hn : now.length ≤ 1000) (hl : aj now) (hN : (ae w.f known).length ≤ 100) (hN2 : (ae w.f known).length ≤ 1000) {rr qq : List ReadT} {aa la : List AttT} {ee : Int} (haa : aj aa) (hla : aj la) (hrs : (rr ++ qq ++ [rdN]).length ≤ 800000000) (hrq : (rr ++ qq).length ≤ 999999000)
  (hof : Ev Du Γk 60 [.ref (.ptr 0 0), int st, int term] (lkH w known [] 0) (.agg [int st, ab (aa.map Dy)]) (lkH w known rr 1)) (hcnt : Ev Du Γk 61 [.ref (.ptr 0 0), ab (aa.map Dy), int term] (lkH w known rr 0) (.tup [ab (la.map Dy), int ee]) (lkH w known (rr ++ qq) 1))
  (hb : (!(decide (st ≥ 0) && decide (st ≤ 19999)) || !(decide (term ≥ 0) && decide (term ≤ 1023))) = false) (h : List Blk) : (Ev Du Γk 19 [.agg w.l, int st, int term, int known, ab (now.map fun n => [vi n])] h (si w known term now rr qq aa la ee) h) := by
 have hl0 := (@sn_cw (w) (st) (term) (known) (now) (hl))
 unfold Cb at hl0
 revert hl0
 cases ho1 : snR now with
 | inl o1_0_0 =>
  intro hl0
  cases hc2 : ee != 0
  ·have hl3 := (@st_cw (w) (known) (st) (term) (o1_0_0.snd) (rr ++ qq) (Dt Dy la) (aa) (haa))
   have hl4 := (@nb_cw (w) (hw) (known) (st) (term) (hN) (o1_0_0.snd) (rr ++ qq ++ [rdN]) (hrs) (Dt Dy la) (Dt Dy aa) ((aH aa).fst) ((aH aa).snd))
   have hl5 := (@CD (w) (known) (st) ((D1 (nbF w known term (aH aa).fst (aH aa).snd) (rr ++ qq ++ [rdN], o1_0_0.snd) (ae w.f known)).snd) ((D1 (nbF w known term (aH aa).fst (aH aa).snd) (rr ++ qq ++ [rdN], o1_0_0.snd) (ae w.f known)).fst) (la) (Dt Dy aa) ((aH aa).fst) ((aH aa).snd) (hla) (by first | assumption | rfl | omega | exact bH (by assumption) | exact bB hn hN2 (by assumption) | exact af _ _ | exact aG _ _ _ | exact aF _ _ _ | exact aR | exact bu | exact ah) (by first | assumption | rfl | omega | exact bH (by assumption) | exact bB hn hN2 (by assumption) | exact af _ _ | exact aG _ _ _ | exact aF _ _ _ | exact aR | exact bu | exact ah))
   unfold uL at hl5
   revert hl5
   cases ho6 : sitX la with
   | inl o6_0_0 =>
    intro hl5
    let v0 : List D := [.ref (.vec 4 0), ab (Dt DF w.c), ab w.p, ab (Dt DJ w.s), ab (Dt DE w.f), int known]
    let v1 := D1 (nbF w known term (aH aa).fst (aH aa).snd) (rr ++ qq ++ [rdN], o1_0_0.snd) (ae w.f known)
    let v2 : List D := [.ref (.vec 4 1), ab (Dt DF w.c), ab w.p, ab (Dt DJ w.s), ab (Dt DE w.f), int known]
    let v4 : List D := [int st, ab (Dt Dy aa)]
    let v3 : List Blk := [.var (Eb w), .var [nq, int 0, int 0, int 0], .map (aP 0 o1_0_0.snd) (Dw o1_0_0.snd), .var v0, .vec (ai (rdR (rr ++ qq))) 0 5, .var v4, .map (aq 0 (aH aa).fst) (Dw (aH aa).fst), .map (aq 0 (aH aa).snd) (Dw (aH aa).snd)]
    let v5 : List Blk := [.var (Eb w), .var [nq, int 0, int 0, int 0], .map (aP 0 o1_0_0.snd) (Dw o1_0_0.snd), .var v2, .vec (ai (rdR (rr ++ qq ++ [rdN]))) 1 5, .var v4, .map (aq 0 (aH aa).fst) (Dw (aH aa).fst), .map (aq 0 (aH aa).snd) (Dw (aH aa).snd)]
    let v6 : List Blk := [.var (Eb w), .var [nq, int 0, int 0, int 0], .map (aP 0 o1_0_0.snd) (Dw o1_0_0.snd), .var v2, .vec (ai (rdR (rr ++ qq))) 1 5, .var v4]
    let v7 : List Blk := [.var (Eb w), .var [nq, int 0, int 0, int 0], .map (aP 0 o1_0_0.snd) (Dw o1_0_0.snd), .var v0, .vec (ai (rdR rr)) 0 5, .var v4]
    let v8 : List D := [ab (Dt EA (List.mergeSort (smV v1.snd) leS)), int (mnI (bZ la).fst 10000), int (db la).fst, int (db la).snd.fst]
    let v9 : List Blk := [.var (Eb w), .var [nq, int 0, int 0, int 0], .map (aP 0 o1_0_0.snd) (Dw o1_0_0.snd), .var v2, .vec (ai (rdR rr)) 1 5]
    let v10 : List Blk := [.var (Eb w), .var [nq, int 0, int 0, int 0], .map (aP 0 o1_0_0.snd) (Dw o1_0_0.snd), .var v0, .vec [] 0 5]
    refine DI (DX (d := Es [EB v8, ab (rdR v1.fst), int 0]) pok [.val (bool (decide (st ≥ 0) && decide (st ≤ 19999))), .val (bool (decide (term ≥ 0) && decide (term ≤ 1023))), .b false, .sum [1, 2, 3, 5, 10, 11, 12, 13, 14, 42, 43, 44] (Ea 0) { t := mkT 190 0 [(1, int st), (2, int term), (3, int known), (5, .ref (.ptr 0 0)), (10, .ref (.ptr 1 0)), (11, nq), (12, int 0), (13, .ref (.mp 2))], h := [.var (Eb w), .var [nq, int 0, int 0, int 0], .map (aP 0 o1_0_0.snd) (Dw o1_0_0.snd)], m := [] }, .nx 1, .st (.nilC 3 0 5), .call (EB v4) v9, .st (.ren 4 0), .call (Es [ab (Dt Dy la), int ee]) v6, .b false, .st (.ren 4 0), .sum [2, 10, 11, 13, 17, 19, 20, 21, 80, 81, 82] (Ea 2) { t := mkT 190 0 [(2, int term), (10, .ref (.ptr 1 0)), (11, nq), (13, .ref (.mp 2)), (17, .ref (.ptr 3 0)), (19, ab (Dt Dy la)), (20, .ref (.mp 6)), (21, .ref (.mp 7))], h := v3, m := [] }, .call (ab (Dt (fun n => [vi n]) (ae w.f known))) v5, .st (.ren 4 0), .sum [2, 10, 11, 13, 17, 19, 20, 21, 102, 103, 104] (Ea 4) { t := mkT 190 0 [(10, .ref (.ptr 1 0)), (11, nq), (13, .ref (.mp 2)), (17, .ref (.ptr 3 0)), (19, ab (Dt Dy la))], h := [.var (Eb w), .var [nq, int 0, int 0, int 0], .map (aP 0 v1.snd) (Dw v1.snd), .var v0, .vec (ai (rdR v1.fst)) 0 5, .var v4, .map (aq 0 (aH aa).fst) (Dw (aH aa).fst), .map (aq 0 (aH aa).snd) (Dw (aH aa).snd)], m := [] }, .ssum [10, 11, 13, 17, 19] E7 { t := mkT 190 0 [(10, .ref (.ptr 1 0)), (11, ab (rdR v1.fst)), (12, int 0)], h := [.var (Eb w), .var v8] }] (by kernel_rfl) (.c (D7 (Γ' := Γk) (@de st 0 19999 (c4 w))) (.c (gd (!!(decide (st ≥ 0) && decide (st ≤ 19999))) (D7 (Γ' := Γk) (@de term 0 1023 (c4 w)))) (.c hb (.c hl0 (.c (show Ev Du Γk 60 [.ref (.ptr 3 0), int st, int term] v10 (EB v4) v9 from (DI (F2 (args := [.ref (.ptr 3 0), int st, int term]) (H := v10) [3, 4] (@hof) (by kernel_rfl) (by kernel_rfl) (by kernel_rfl) ⟨(by subst v0 v1 v2 v4 v3 v5 v6 v7 v8 v9 v10; first | rfl | exact al _ _ | first | assumption | rfl | omega | exact bH (by subst v0 v1 v2 v4 v3 v5 v6 v7 v8 v9 v10; assumption) | exact bB hn hN2 (by subst v0 v1 v2 v4 v3 v5 v6 v7 v8 v9 v10; assumption) | exact af _ _ | exact aG _ _ _ | exact aF _ _ _ | exact aR | exact bu | exact ah), trivial⟩ ⟨(by subst v0 v1 v2 v4 v3 v5 v6 v7 v8 v9 v10; first | rfl | exact al _ _ | first | assumption | rfl | omega | exact bH (by subst v0 v1 v2 v4 v3 v5 v6 v7 v8 v9 v10; assumption) | exact bB hn hN2 (by subst v0 v1 v2 v4 v3 v5 v6 v7 v8 v9 v10; assumption) | exact af _ _ | exact aG _ _ _ | exact aF _ _ _ | exact aR | exact bu | exact ah), trivial⟩) (by kernel_rfl) (by kernel_rfl))) (.c (show Dt (El (au 4 1 0)) (ai (rdR rr)) = ai (rdR rr) from ?_) (.c (show Dt (fun e => (DR (au 4 1 0) e.fst, DR (au 4 1 0) e.snd.fst, e.snd.snd)) (aP 0 o1_0_0.snd) = aP 0 o1_0_0.snd from ?_) (.c (show Ev Du Γk 61 [.ref (.ptr 3 0), ab (Dt Dy aa), int term] v7 (Es [ab (Dt Dy la), int ee]) v6 from (DI (F2 (args := [.ref (.ptr 3 0), ab (Dt Dy aa), int term]) (H := v7) [3, 4] (@hcnt) (by kernel_rfl) (by kernel_rfl) (by kernel_rfl) ⟨(by subst v0 v1 v2 v4 v3 v5 v6 v7 v8 v9 v10; first | rfl | exact al _ _ | first | assumption | rfl | omega | exact bH (by subst v0 v1 v2 v4 v3 v5 v6 v7 v8 v9 v10; assumption) | exact bB hn hN2 (by subst v0 v1 v2 v4 v3 v5 v6 v7 v8 v9 v10; assumption) | exact af _ _ | exact aG _ _ _ | exact aF _ _ _ | exact aR | exact bu | exact ah), trivial⟩ ⟨(by subst v0 v1 v2 v4 v3 v5 v6 v7 v8 v9 v10; first | rfl | exact al _ _ | first | assumption | rfl | omega | exact bH (by subst v0 v1 v2 v4 v3 v5 v6 v7 v8 v9 v10; assumption) | exact bB hn hN2 (by subst v0 v1 v2 v4 v3 v5 v6 v7 v8 v9 v10; assumption) | exact af _ _ | exact aG _ _ _ | exact aF _ _ _ | exact aR | exact bu | exact ah), trivial⟩) (by kernel_rfl) (by kernel_rfl))) (.c hc2 (.c (show Dt (El (au 4 1 0)) (ai (rdR (rr ++ qq))) = ai (rdR (rr ++ qq)) from ?_) (.c (show Dt (fun e => (DR (au 4 1 0) e.fst, DR (au 4 1 0) e.snd.fst, e.snd.snd)) (aP 0 o1_0_0.snd) = aP 0 o1_0_0.snd from ?_) (.c hl3 (.c (show Ev Du Γk 62 [.ref (.ptr 3 0)] v3 (ab (Dt (fun n => [vi n]) (ae w.f known))) v5 from (DI (F2 (args := [.ref (.ptr 3 0)]) (H := v3) [3, 4] (@oo w hw known (rr ++ qq) hrq) (by kernel_rfl) (by kernel_rfl) (by kernel_rfl) ⟨(by subst v0 v1 v2 v4 v3 v5 v6 v7 v8 v9 v10; first | rfl | exact al _ _ | first | assumption | rfl | omega | exact bH (by subst v0 v1 v2 v4 v3 v5 v6 v7 v8 v9 v10; assumption) | exact bB hn hN2 (by subst v0 v1 v2 v4 v3 v5 v6 v7 v8 v9 v10; assumption) | exact af _ _ | exact aG _ _ _ | exact aF _ _ _ | exact aR | exact bu | exact ah), trivial⟩ ⟨(by subst v0 v1 v2 v4 v3 v5 v6 v7 v8 v9 v10; first | rfl | exact al _ _ | first | assumption | rfl | omega | exact bH (by subst v0 v1 v2 v4 v3 v5 v6 v7 v8 v9 v10; assumption) | exact bB hn hN2 (by subst v0 v1 v2 v4 v3 v5 v6 v7 v8 v9 v10; assumption) | exact af _ _ | exact aG _ _ _ | exact aF _ _ _ | exact aR | exact bu | exact ah), trivial⟩) (by kernel_rfl) (by kernel_rfl))) (.c (show Dt (El (au 4 1 0)) (ai (rdR (rr ++ qq ++ [rdN]))) = ai (rdR (rr ++ qq ++ [rdN])) from ?_) (.c (show Dt (fun e => (DR (au 4 1 0) e.fst, DR (au 4 1 0) e.snd.fst, e.snd.snd)) (aP 0 o1_0_0.snd) = aP 0 o1_0_0.snd from ?_) (.c (show Dt (fun e => (DR (au 4 1 0) e.fst, DR (au 4 1 0) e.snd.fst, e.snd.snd)) (aq 0 (aH aa).fst) = aq 0 (aH aa).fst from ?_) (.c (show Dt (fun e => (DR (au 4 1 0) e.fst, DR (au 4 1 0) e.snd.fst, e.snd.snd)) (aq 0 (aH aa).snd) = aq 0 (aH aa).snd from ?_) (.c hl4 (.c hl5 .n))))))))))))))))))) rfl rfl h) (by subst v0 v1 v2 v4 v3 v5 v6 v7 v8 v9 v10; first | (simp only [si, ho1, hc2, ho6]; first | done | rfl) | (simp_all [si]; done)) (by rfl) <;> subst v0 v1 v2 v4 v3 v5 v6 v7 v8 v9 v10 <;> (first | assumption | rfl | omega | exact bH (by assumption) | exact bB hn hN2 (by assumption) | exact af _ _ | exact aG _ _ _ | exact aF _ _ _ | exact aR | exact bu | exact ah)
   | inr o6_1_0 =>
    intro hl5
    let v0 : List D := [.ref (.vec 4 0), ab (Dt DF w.c), ab w.p, ab (Dt DJ w.s), ab (Dt DE w.f), int known]
    let v1 : List D := [.ref (.vec 4 1), ab (Dt DF w.c), ab w.p, ab (Dt DJ w.s), ab (Dt DE w.f), int known]
    let v3 : List D := [int st, ab (Dt Dy aa)]
    let v2 : List Blk := [.var (Eb w), .var [nq, int 0, int 0, int 0], .map (aP 0 o1_0_0.snd) (Dw o1_0_0.snd), .var v0, .vec (ai (rdR (rr ++ qq))) 0 5, .var v3, .map (aq 0 (aH aa).fst) (Dw (aH aa).fst), .map (aq 0 (aH aa).snd) (Dw (aH aa).snd)]
    let v4 : List Blk := [.var (Eb w), .var [nq, int 0, int 0, int 0], .map (aP 0 o1_0_0.snd) (Dw o1_0_0.snd), .var v1, .vec (ai (rdR (rr ++ qq ++ [rdN]))) 1 5, .var v3, .map (aq 0 (aH aa).fst) (Dw (aH aa).fst), .map (aq 0 (aH aa).snd) (Dw (aH aa).snd)]
    let v5 := D1 (nbF w known term (aH aa).fst (aH aa).snd) (rr ++ qq ++ [rdN], o1_0_0.snd) (ae w.f known)
    let v6 : List Blk := [.var (Eb w), .var [nq, int 0, int 0, int 0], .map (aP 0 o1_0_0.snd) (Dw o1_0_0.snd), .var v1, .vec (ai (rdR (rr ++ qq))) 1 5, .var v3]
    let v7 : List Blk := [.var (Eb w), .var [nq, int 0, int 0, int 0], .map (aP 0 o1_0_0.snd) (Dw o1_0_0.snd), .var v0, .vec (ai (rdR rr)) 0 5, .var v3]
    let v8 : List Blk := [.var (Eb w), .var [nq, int 0, int 0, int 0], .map (aP 0 o1_0_0.snd) (Dw o1_0_0.snd), .var v1, .vec (ai (rdR rr)) 1 5]
    let v9 : List Blk := [.var (Eb w), .var [nq, int 0, int 0, int 0], .map (aP 0 o1_0_0.snd) (Dw o1_0_0.snd), .var v0, .vec [] 0 5]
    refine DI (DX (d := Es [EB [nq, int 0, int 0, int 0], nq, int o6_1_0]) pok [.val (bool (decide (st ≥ 0) && decide (st ≤ 19999))), .val (bool (decide (term ≥ 0) && decide (term ≤ 1023))), .b false, .sum [1, 2, 3, 5, 10, 11, 12, 13, 14, 42, 43, 44] (Ea 0) { t := mkT 190 0 [(1, int st), (2, int term), (3, int known), (5, .ref (.ptr 0 0)), (10, .ref (.ptr 1 0)), (11, nq), (12, int 0), (13, .ref (.mp 2))], h := [.var (Eb w), .var [nq, int 0, int 0, int 0], .map (aP 0 o1_0_0.snd) (Dw o1_0_0.snd)], m := [] }, .nx 1, .st (.nilC 3 0 5), .call (EB v3) v8, .st (.ren 4 0), .call (Es [ab (Dt Dy la), int ee]) v6, .b false, .st (.ren 4 0), .sum [2, 10, 11, 13, 17, 19, 20, 21, 80, 81, 82] (Ea 2) { t := mkT 190 0 [(2, int term), (10, .ref (.ptr 1 0)), (11, nq), (13, .ref (.mp 2)), (17, .ref (.ptr 3 0)), (19, ab (Dt Dy la)), (20, .ref (.mp 6)), (21, .ref (.mp 7))], h := v2, m := [] }, .call (ab (Dt (fun n => [vi n]) (ae w.f known))) v4, .st (.ren 4 0), .sum [2, 10, 11, 13, 17, 19, 20, 21, 102, 103, 104] (Ea 4) { t := mkT 190 0 [(10, .ref (.ptr 1 0)), (11, nq), (13, .ref (.mp 2)), (17, .ref (.ptr 3 0)), (19, ab (Dt Dy la))], h := [.var (Eb w), .var [nq, int 0, int 0, int 0], .map (aP 0 v5.snd) (Dw v5.snd), .var v0, .vec (ai (rdR v5.fst)) 0 5, .var v3, .map (aq 0 (aH aa).fst) (Dw (aH aa).fst), .map (aq 0 (aH aa).snd) (Dw (aH aa).snd)], m := [] }, .ssum [10, 11, 13, 17, 19] E7 { t := mkT 190 0 [(10, .ref (.ptr 1 0)), (11, nq), (12, int o6_1_0)], h := (c4 w) }] (by kernel_rfl) (.c (D7 (Γ' := Γk) (@de st 0 19999 (c4 w))) (.c (gd (!!(decide (st ≥ 0) && decide (st ≤ 19999))) (D7 (Γ' := Γk) (@de term 0 1023 (c4 w)))) (.c hb (.c hl0 (.c (show Ev Du Γk 60 [.ref (.ptr 3 0), int st, int term] v9 (EB v3) v8 from (DI (F2 (args := [.ref (.ptr 3 0), int st, int term]) (H := v9) [3, 4] (@hof) (by kernel_rfl) (by kernel_rfl) (by kernel_rfl) ⟨(by subst v0 v1 v3 v2 v4 v5 v6 v7 v8 v9; first | rfl | exact al _ _ | first | assumption | rfl | omega | exact bH (by subst v0 v1 v3 v2 v4 v5 v6 v7 v8 v9; assumption) | exact bB hn hN2 (by subst v0 v1 v3 v2 v4 v5 v6 v7 v8 v9; assumption) | exact af _ _ | exact aG _ _ _ | exact aF _ _ _ | exact aR | exact bu | exact ah), trivial⟩ ⟨(by subst v0 v1 v3 v2 v4 v5 v6 v7 v8 v9; first | rfl | exact al _ _ | first | assumption | rfl | omega | exact bH (by subst v0 v1 v3 v2 v4 v5 v6 v7 v8 v9; assumption) | exact bB hn hN2 (by subst v0 v1 v3 v2 v4 v5 v6 v7 v8 v9; assumption) | exact af _ _ | exact aG _ _ _ | exact aF _ _ _ | exact aR | exact bu | exact ah), trivial⟩) (by kernel_rfl) (by kernel_rfl))) (.c (show Dt (El (au 4 1 0)) (ai (rdR rr)) = ai (rdR rr) from ?_) (.c (show Dt (fun e => (DR (au 4 1 0) e.fst, DR (au 4 1 0) e.snd.fst, e.snd.snd)) (aP 0 o1_0_0.snd) = aP 0 o1_0_0.snd from ?_) (.c (show Ev Du Γk 61 [.ref (.ptr 3 0), ab (Dt Dy aa), int term] v7 (Es [ab (Dt Dy la), int ee]) v6 from (DI (F2 (args := [.ref (.ptr 3 0), ab (Dt Dy aa), int term]) (H := v7) [3, 4] (@hcnt) (by kernel_rfl) (by kernel_rfl) (by kernel_rfl) ⟨(by subst v0 v1 v3 v2 v4 v5 v6 v7 v8 v9; first | rfl | exact al _ _ | first | assumption | rfl | omega | exact bH (by subst v0 v1 v3 v2 v4 v5 v6 v7 v8 v9; assumption) | exact bB hn hN2 (by subst v0 v1 v3 v2 v4 v5 v6 v7 v8 v9; assumption) | exact af _ _ | exact aG _ _ _ | exact aF _ _ _ | exact aR | exact bu | exact ah), trivial⟩ ⟨(by subst v0 v1 v3 v2 v4 v5 v6 v7 v8 v9; first | rfl | exact al _ _ | first | assumption | rfl | omega | exact bH (by subst v0 v1 v3 v2 v4 v5 v6 v7 v8 v9; assumption) | exact bB hn hN2 (by subst v0 v1 v3 v2 v4 v5 v6 v7 v8 v9; assumption) | exact af _ _ | exact aG _ _ _ | exact aF _ _ _ | exact aR | exact bu | exact ah), trivial⟩) (by kernel_rfl) (by kernel_rfl))) (.c hc2 (.c (show Dt (El (au 4 1 0)) (ai (rdR (rr ++ qq))) = ai (rdR (rr ++ qq)) from ?_) (.c (show Dt (fun e => (DR (au 4 1 0) e.fst, DR (au 4 1 0) e.snd.fst, e.snd.snd)) (aP 0 o1_0_0.snd) = aP 0 o1_0_0.snd from ?_) (.c hl3 (.c (show Ev Du Γk 62 [.ref (.ptr 3 0)] v2 (ab (Dt (fun n => [vi n]) (ae w.f known))) v4 from (DI (F2 (args := [.ref (.ptr 3 0)]) (H := v2) [3, 4] (@oo w hw known (rr ++ qq) hrq) (by kernel_rfl) (by kernel_rfl) (by kernel_rfl) ⟨(by subst v0 v1 v3 v2 v4 v5 v6 v7 v8 v9; first | rfl | exact al _ _ | first | assumption | rfl | omega | exact bH (by subst v0 v1 v3 v2 v4 v5 v6 v7 v8 v9; assumption) | exact bB hn hN2 (by subst v0 v1 v3 v2 v4 v5 v6 v7 v8 v9; assumption) | exact af _ _ | exact aG _ _ _ | exact aF _ _ _ | exact aR | exact bu | exact ah), trivial⟩ ⟨(by subst v0 v1 v3 v2 v4 v5 v6 v7 v8 v9; first | rfl | exact al _ _ | first | assumption | rfl | omega | exact bH (by subst v0 v1 v3 v2 v4 v5 v6 v7 v8 v9; assumption) | exact bB hn hN2 (by subst v0 v1 v3 v2 v4 v5 v6 v7 v8 v9; assumption) | exact af _ _ | exact aG _ _ _ | exact aF _ _ _ | exact aR | exact bu | exact ah), trivial⟩) (by kernel_rfl) (by kernel_rfl))) (.c (show Dt (El (au 4 1 0)) (ai (rdR (rr ++ qq ++ [rdN]))) = ai (rdR (rr ++ qq ++ [rdN])) from ?_) (.c (show Dt (fun e => (DR (au 4 1 0) e.fst, DR (au 4 1 0) e.snd.fst, e.snd.snd)) (aP 0 o1_0_0.snd) = aP 0 o1_0_0.snd from ?_) (.c (show Dt (fun e => (DR (au 4 1 0) e.fst, DR (au 4 1 0) e.snd.fst, e.snd.snd)) (aq 0 (aH aa).fst) = aq 0 (aH aa).fst from ?_) (.c (show Dt (fun e => (DR (au 4 1 0) e.fst, DR (au 4 1 0) e.snd.fst, e.snd.snd)) (aq 0 (aH aa).snd) = aq 0 (aH aa).snd from ?_) (.c hl4 (.c hl5 .n))))))))))))))))))) rfl rfl h) (by subst v0 v1 v3 v2 v4 v5 v6 v7 v8 v9; first | (simp only [si, ho1, hc2, ho6]; first | done | rfl) | (simp_all [si]; done)) (by rfl) <;> subst v0 v1 v3 v2 v4 v5 v6 v7 v8 v9 <;> (first | assumption | rfl | omega | exact bH (by assumption) | exact bB hn hN2 (by assumption) | exact af _ _ | exact aG _ _ _ | exact aF _ _ _ | exact aR | exact bu | exact ah)
  ·let v0 : List D := [.ref (.vec 4 1), ab (Dt DF w.c), ab w.p, ab (Dt DJ w.s), ab (Dt DE w.f), int known]
   let v1 : List D := [.ref (.vec 4 0), ab (Dt DF w.c), ab w.p, ab (Dt DJ w.s), ab (Dt DE w.f), int known]
   let v4 : List Blk := [.var (Eb w), .var [nq, int 0, int 0, int 0], .map (aP 0 o1_0_0.snd) (Dw o1_0_0.snd), .var v0, .vec (ai (rdR rr)) 1 5]
   let v5 : List Blk := [.var (Eb w), .var [nq, int 0, int 0, int 0], .map (aP 0 o1_0_0.snd) (Dw o1_0_0.snd), .var v1, .vec [] 0 5]
   let v6 : List D := [int st, ab (Dt Dy aa)]
   let v2 : List Blk := [.var (Eb w), .var [nq, int 0, int 0, int 0], .map (aP 0 o1_0_0.snd) (Dw o1_0_0.snd), .var v0, .vec (ai (rdR (rr ++ qq))) 1 5, .var v6]
   let v3 : List Blk := [.var (Eb w), .var [nq, int 0, int 0, int 0], .map (aP 0 o1_0_0.snd) (Dw o1_0_0.snd), .var v1, .vec (ai (rdR rr)) 0 5, .var v6]
   refine DI (DX (d := Es [EB [nq, int 0, int 0, int 0], nq, int ee]) pok [.val (bool (decide (st ≥ 0) && decide (st ≤ 19999))), .val (bool (decide (term ≥ 0) && decide (term ≤ 1023))), .b false, .sum [1, 2, 3, 5, 10, 11, 12, 13, 14, 42, 43, 44] (Ea 0) { t := mkT 190 0 [(1, int st), (2, int term), (3, int known), (5, .ref (.ptr 0 0)), (10, .ref (.ptr 1 0)), (11, nq), (12, int 0), (13, .ref (.mp 2))], h := [.var (Eb w), .var [nq, int 0, int 0, int 0], .map (aP 0 o1_0_0.snd) (Dw o1_0_0.snd)], m := [] }, .nx 1, .st (.nilC 3 0 5), .call (EB v6) v4, .st (.ren 4 0), .call (Es [ab (Dt Dy la), int ee]) v2, .b true] (by kernel_rfl) (.c (D7 (Γ' := Γk) (@de st 0 19999 (c4 w))) (.c (gd (!!(decide (st ≥ 0) && decide (st ≤ 19999))) (D7 (Γ' := Γk) (@de term 0 1023 (c4 w)))) (.c hb (.c hl0 (.c (show Ev Du Γk 60 [.ref (.ptr 3 0), int st, int term] v5 (EB v6) v4 from (DI (F2 (args := [.ref (.ptr 3 0), int st, int term]) (H := v5) [3, 4] (@hof) (by kernel_rfl) (by kernel_rfl) (by kernel_rfl) ⟨?_, trivial⟩ ⟨?_, trivial⟩) (by kernel_rfl) (by kernel_rfl))) (.c (show Dt (El (au 4 1 0)) (ai (rdR rr)) = ai (rdR rr) from (by subst v0 v1 v4 v5 v6 v2 v3; first | assumption | rfl | omega | exact bH (by subst v0 v1 v4 v5 v6 v2 v3; assumption) | exact bB hn hN2 (by subst v0 v1 v4 v5 v6 v2 v3; assumption) | exact af _ _ | exact aG _ _ _ | exact aF _ _ _ | exact aR | exact bu | exact ah)) (.c (show Dt (fun e => (DR (au 4 1 0) e.fst, DR (au 4 1 0) e.snd.fst, e.snd.snd)) (aP 0 o1_0_0.snd) = aP 0 o1_0_0.snd from (by subst v0 v1 v4 v5 v6 v2 v3; first | assumption | rfl | omega | exact bH (by subst v0 v1 v4 v5 v6 v2 v3; assumption) | exact bB hn hN2 (by subst v0 v1 v4 v5 v6 v2 v3; assumption) | exact af _ _ | exact aG _ _ _ | exact aF _ _ _ | exact aR | exact bu | exact ah)) (.c (show Ev Du Γk 61 [.ref (.ptr 3 0), ab (Dt Dy aa), int term] v3 (Es [ab (Dt Dy la), int ee]) v2 from (DI (F2 (args := [.ref (.ptr 3 0), ab (Dt Dy aa), int term]) (H := v3) [3, 4] (@hcnt) (by kernel_rfl) (by kernel_rfl) (by kernel_rfl) ⟨?_, trivial⟩ ⟨?_, trivial⟩) (by kernel_rfl) (by kernel_rfl))) (.c hc2 .n))))))))) rfl rfl h) (by subst v0 v1 v4 v5 v6 v2 v3; first | (simp only [si, ho1, hc2]; first | done | rfl) | (simp_all [si]; done)) (by rfl) <;> subst v0 v1 v4 v5 v6 v2 v3 <;> (first | rfl | exact al _ _ | first | assumption | rfl | omega | exact bH (by assumption) | exact bB hn hN2 (by assumption) | exact af _ _ | exact aG _ _ _ | exact aF _ _ _ | exact aR | exact bu | exact ah)
 | inr o1_1_0 =>
  intro hl0
  exact DI (DX (d := Es [EB [nq, int 0, int 0, int 0], nq, int 150]) pok [.val (bool (decide (st ≥ 0) && decide (st ≤ 19999))), .val (bool (decide (term ≥ 0) && decide (term ≤ 1023))), .b false, .sum [1, 2, 3, 5, 10, 11, 12, 13, 14, 42, 43, 44] (E7) { t := mkT 190 0 [(10, .ref (.ptr 1 0)), (11, nq), (12, int 150)], h := (c4 w), m := [] }] (by kernel_rfl) (.c (D7 (Γ' := Γk) (@de st 0 19999 (c4 w))) (.c (gd (!!(decide (st ≥ 0) && decide (st ≤ 19999))) (D7 (Γ' := Γk) (@de term 0 1023 (c4 w)))) (.c hb (.c hl0 .n)))) rfl rfl h) (by first | (simp only [si, ho1]; first | done | rfl) | (simp_all [si]; done)) (by rfl)
end Go.Vi
open Go Go.Proofs
namespace Go.Vi
set_option maxRecDepth 100000
set_option maxHeartbeats 4000000
def cF (w : WorldT) : Bool := decide ((w.f.map DE).length ≤ (30 : Int)) && decide ((w.c.map DF).length ≤ (20 : Int)) && decide (w.p.length ≤ (8 : Int)) && decide ((w.s.map DJ).length ≤ (6 : Int))
theorem ef {w : WorldT} (h : List Blk) : (Ev Du Γ0 18 [.agg w.l] h (bool (cF w)) h) := by
 exact DI (DX (d := bool (decide ((↑(Dw (Dt DE w.f)) : Int) ≤ 30) && decide ((↑(Dw (Dt DF w.c)) : Int) ≤ 20) && decide ((↑(Dw w.p) : Int) ≤ 8) && decide ((↑(Dw (Dt DJ w.s)) : Int) ≤ 6))) pok [] (by kernel_rfl) .n rfl rfl h) (by rfl) (by rfl)
def sj (a b : AttT) : Bool := !(a.course == b.course && (a.term == b.term && (a.grade == b.grade && (a.campus == b.campus && (a.credits == b.credits && true)))))
abbrev smS (l l2 : List (List Dp)) (i : Int) : AS := { t := mkT 26 0 [(0, ab l), (1, ab l2), (4, bool false), (5, int i)], h := [], m := [] }
abbrev smX : Unit → Exit × AS := fun _ => (.ret, { t := mkT 26 0 [(4, bool false)], h := [], m := [] })
def smF (p : AttT × AttT) (_ : Unit) : Unit ⊕ Unit := bif sj p.1 p.2 then .inr () else .inl ()
theorem CF {l l2 : List (List Dp)} {a b : AttT} {i : Nat} (hr : aM (i : Int) l a.row 5) (hr2 : aM (i : Int) l2 b.row 5) (hlt : decide ((i : Int) < (l.length : Int)) = true) (hw : Dz.wrap ((i : Int) + 1) = ((i + 1 : Nat) : Int)) : (CW Du Γ0 [] false (sub IU 0) (smS l l2 i) (ad (fun _ => smS l l2 ((i + 1 : Nat) : Int)) smX (smF (a, b) ())).1 (ad (fun _ => smS l l2 ((i + 1 : Nat) : Int)) smX (smF (a, b) ())).2) := by
 cases hc0 : !(a.course == b.course && (a.term == b.term && (a.grade == b.grade && (a.campus == b.campus && (a.credits == b.credits && true)))))
 ·refine DU (DV (s' := { t := mkT 26 0 [(0, ab l), (1, ab l2), (4, bool false), (5, int (DG Dz ((↑i : Int) + 1)))], h := [], m := [] }) (e := DQ) pok [.st (.mask [0, 1, 4, 5])] [.b true, .row (Dy a), .row (Dy b), .b false] (by kernel_rfl) (.c hlt (.c hr (.c hr2 (.c hc0 .n))))) ?_ ?_ <;> (first | (have hh : sj a b = true := hc0; simp only [smF, hh, cond_true, ad]; first | done | rfl) | (have hh : sj a b = false := hc0; simp only [smF, hh, cond_false, ad, hw]; first | done | rfl))
 ·refine DU (DV (s' := { t := mkT 26 0 [(4, bool false)], h := [], m := [] }) (e := E7) pok [.st (.mask [4])] [.b true, .row (Dy a), .row (Dy b), .b true] (by kernel_rfl) (.c hlt (.c hr (.c hr2 (.c hc0 .n))))) ?_ ?_ <;> (first | (have hh : sj a b = true := hc0; simp only [smF, hh, cond_true, ad]; first | done | rfl) | (have hh : sj a b = false := hc0; simp only [smF, hh, cond_false, ad, hw]; first | done | rfl))
theorem CG {l l2 : List (List Dp)} {i : Nat} (hlt : decide ((i : Int) < (l.length : Int)) = false) : (CW Du Γ0 [] false (sub IU 0) (smS l l2 i) (.exit 0) { t := mkT 26 0 [], h := [], m := [] }) := by
 exact DU (DV (s' := { t := mkT 26 0 [], h := [], m := [] }) (e := Ea 0) pok [.st (.mask [])] [.b false] (by kernel_rfl) (.c hlt .n)) (by rfl) (by rfl)
def CH (l l2 : List AttT) : Exit × AS := ck (.exit 0) (fun _ : Unit => { t := mkT 26 0 [], h := [], m := [] }) smX (co smF (l.zip l2) ())
theorem sm_cw {l l2 : List AttT} (he : l.length = l2.length) (hl : aj l) :
  CW Du Γ0 [] false (.loop (sub IU 0)) (smS (l.map Dy) (l2.map Dy) 0) (CH l l2).1 (CH l l2).2 := by
 have hlen : (l.zip l2).length = l.length := by simp [he]
 have := Hy (P := Du) (Γ := Γ0) (h0 := []) (rd := false) (c := sub IU 0) (l.zip l2) smF (fun i _ => smS (l.map Dy) (l2.map Dy) (i : Int)) (.exit 0) (fun _ : Unit => { t := mkT 26 0 [], h := [], m := [] }) smX (fun _ _ => True) (by simp) (fun _ => by simp) ?_ ?_ () trivial
 ·exact this
 ·intro i p u hp _
  obtain ⟨hi, hpe⟩ := DA.1 hp
  rw [hlen] at hi
  have h1 : l[i]? = some p.1 := by subst hpe; simp [DT hi]
  have h2 : l2[i]? = some p.2 := by subst hpe; simp [DT (he ▸ hi)]
  exact ⟨fun _ _ => trivial, CF (rowAt h1 rfl) (rowAt h2 rfl) (lt_len Dy hi) (wrap_succ hi hl)⟩
 ·intro u _
  rw [hlen]
  exact CG (bS Dy l)
def qE (l l2 : List AttT) : Bool := match co smF (l.zip l2) () with
 | .inl _ => true
 | .inr _ => false
theorem CI {l l2 : List AttT} (he : l.length = l2.length) (hl : aj l) (hn : (((l.map Dy).length : Int) != ((l2.map Dy).length : Int)) = false) (h : List Blk) : (Ev Du Γ0 24 [ab (l.map Dy), ab (l2.map Dy)] h (bool (qE l l2)) h) := by
 have hl0 := (@sm_cw (l) (l2) (he) (hl))
 unfold CH at hl0
 revert hl0
 cases ho1 : co smF (List.zip l l2) () with
 | inl o1_0_0 =>
  intro hl0
  exact DI (DX (d := bool true) pok [.b false, .sum [0, 1, 4, 5] (Ea 0) { t := mkT 26 0 [], h := [], m := [] }] (by kernel_rfl) (.c hn (.c hl0 .n)) rfl rfl h) (by simp only [qE, ho1]; first | done | rfl) (by rfl)
 | inr o1_1_0 =>
  intro hl0
  exact DI (DX (d := bool false) pok [.b false, .sum [0, 1, 4, 5] (E7) { t := mkT 26 0 [(4, bool false)], h := [], m := [] }] (by kernel_rfl) (.c hn (.c hl0 .n)) rfl rfl h) (by simp only [qE, ho1]; first | done | rfl) (by rfl)
theorem sk (l : List AttT) : qE l l = true := by
 have key : ∀ l : List AttT, co smF (l.zip l) () = .inl () := by
  intro l
  induction l with
  | nil => rfl
  | cons a l ih =>
   have : sj a a = false := by simp [sj]
   simp only [Jf, co, smF, this, cond_false]
   exact ih
 simp [qE, key]
theorem qF {l l2 : List AttT} (he : l = l2) (hl : aj l) (h : List Blk) : Ev Du Γ0 24 [ab (l.map Dy), ab (l2.map Dy)] h (bool true) h := by
 subst he
 have := CI (l := l) (l2 := l) rfl hl (by simp) h
 rwa [sk] at this
theorem ma {l : List AttT} {rs : List (List Dp)} (he : rs = l.map Dy) (hl : aj l) (h : List Blk) : Ev Du Γ0 24 [ab (l.map Dy), ab rs] h (bool true) h := by
 subst he
 exact qF rfl hl h
end Go.Vi
open Go Go.Proofs
namespace Go.Vi
set_option maxRecDepth 100000
set_option maxHeartbeats 4000000
end Go.Vi
open Go Go.Proofs
namespace Go.Vi
set_option maxRecDepth 100000
set_option maxHeartbeats 40000
def few (s : Vi.Sys) : Bool := decide (Dz.wrap (Dz.wrap (Dz.wrap (((s.classes.map Cls.row).length : Int) + ((s.fees.map FeeT.row).length : Int)) + ((s.honours.map Cls.row).length : Int)) + (s.clauses.length : Int)) ≤ 40)
end Go.Vi
open Go Go.Proofs
namespace Go.Vi
set_option maxRecDepth 100000
set_option maxHeartbeats 0
end Go.Vi
open Go Go.Proofs
namespace Go.Vi
set_option maxRecDepth 100000
set_option maxHeartbeats 4000000
attribute [local irreducible] few
end Go.Vi
open Go Go.Proofs
namespace Go.Vi
set_option maxRecDepth 100000
end Go.Vi
open Go Go.Proofs
namespace Go.Vi
set_option maxRecDepth 100000
structure WorldT.ok0 (w : WorldT) : Prop where
 c : ∀ x ∈ w.c, x.ok
 s : ∀ x ∈ w.s, x.ok
 lc : aj w.c
 ls : aj w.s
 i : ∀ f ∈ w.f, f.ok
end Go.Vi
open Go Go.Proofs
namespace Go.Vi
set_option maxRecDepth 100000
set_option maxHeartbeats 4000000
def sn (a b : PtT) : Bool := a.term == b.term && (a.value == b.value && true)
def epF (p : PtT × PtT) (_ : Unit) : Unit ⊕ Unit := if (!sn p.1 p.2) = true then .inr () else .inl ()
abbrev epX : Unit → Exit × AS := fun _ => (.ret, { t := mkT 26 0 [(4, bool false)], h := [], m := [] })
abbrev epS (xs ys : List (List Dp)) (i : Int) : AS := { t := mkT 26 0 [(0, ab xs), (1, ab ys), (4, bool false), (12, int xs.length), (13, int i)], h := [], m := [] }
theorem CJ {xs ys : List (List Dp)} {i : Nat} {a b : PtT} (hr : aM (i : Int) xs a.row 2) (hr' : aM (i : Int) ys b.row 2) (hlt : decide ((i : Int) < (xs.length : Int)) = true) (hw : Dz.wrap ((i : Int) + 1) = ((i + 1 : Nat) : Int)) : (CW Du Γ0 [] false (sub Tryz.f110 0) (epS xs ys i) (ad (fun _ => epS xs ys ((i + 1 : Nat) : Int)) epX (epF (a, b) ())).1 (ad (fun _ => epS xs ys ((i + 1 : Nat) : Int)) epX (epF (a, b) ())).2) := by
 cases hc0 : !(a.term == b.term && (a.value == b.value && true))
 ·exact DU (DV (s' := { t := mkT 26 0 [(0, ab xs), (1, ab ys), (4, bool false), (12, int (↑(Dw xs) : Int)), (13, int (DG Dz ((↑i : Int) + 1)))], h := [], m := [] }) (e := DQ) pok [.st (.mask [0, 1, 4, 12, 13])] [.b true, .row [vi a.term, vi a.value], .row [vi b.term, vi b.value], .b false] (by kernel_rfl) (.c hlt (.c hr (.c hr' (.c hc0 .n))))) (by (first | (have hk : (!sn a b) = true := hc0; simp [epF, ad, hw, hk]; done) | (have hk : (!sn a b) = false := hc0; simp only [epF, ad, hk]; rfl) | (have hk : (!sn a b) = false := hc0; simp [epF, ad, hw, hk]; done))) (by (first | (have hk : (!sn a b) = true := hc0; simp [epF, ad, hw, hk]; done) | (have hk : (!sn a b) = false := hc0; simp only [epF, ad, hw, hk]; rfl) | (have hk : (!sn a b) = false := hc0; simp [epF, ad, hw, hk]; done)))
 ·exact DU (DV (s' := { t := mkT 26 0 [(4, bool false)], h := [], m := [] }) (e := E7) pok [.st (.mask [4])] [.b true, .row [vi a.term, vi a.value], .row [vi b.term, vi b.value], .b true] (by kernel_rfl) (.c hlt (.c hr (.c hr' (.c hc0 .n))))) (by (first | (have hk : (!sn a b) = true := hc0; simp [epF, ad, hk]; done) | (have hk : (!sn a b) = false := hc0; simp only [epF, ad, hw, hk]; rfl) | (have hk : (!sn a b) = false := hc0; simp [epF, ad, hw, hk]; done))) (by (first | (have hk : (!sn a b) = true := hc0; simp [epF, ad, hk]; done) | (have hk : (!sn a b) = false := hc0; simp only [epF, ad, hw, hk]; rfl) | (have hk : (!sn a b) = false := hc0; simp [epF, ad, hw, hk]; done)))
theorem CK {xs ys : List (List Dp)} {i : Nat} (hlt : decide ((i : Int) < (xs.length : Int)) = false) : (CW Du Γ0 [] false (sub Tryz.f110 0) (epS xs ys i) (.exit 0) { t := mkT 26 0 [(4, bool false)], h := [], m := [] }) := by
 exact DU (DV (s' := { t := mkT 26 0 [(4, bool false)], h := [], m := [] }) (e := Ea 0) pok [.st (.mask [4])] [.b false] (by kernel_rfl) (.c hlt .n)) (by rfl) (by rfl)
def epR (xs ys : List PtT) : Unit ⊕ Unit := co epF (xs.zip ys) ()
theorem ep_cw {xs ys : List PtT} (hl : aj xs) (he : (((xs.map FM).length : Int) != ((ys.map FM).length : Int)) = false) :
  CW Du Γ0 [] false (.loop (sub Tryz.f110 0)) (epS (xs.map FM) (ys.map FM) 0) (ck (.exit 0) (fun _ : Unit => { t := mkT 26 0 [(4, bool false)], h := [], m := [] }) epX (epR xs ys)).1 (ck (.exit 0) (fun _ : Unit => { t := mkT 26 0 [(4, bool false)], h := [], m := [] }) epX (epR xs ys)).2 := by
 have hlen : xs.length = ys.length := by simp at he; omega
 have hz : (xs.zip ys).length = xs.length := by simp [hlen]
 refine Hy (xs.zip ys) epF (fun i _ => epS (xs.map FM) (ys.map FM) (i : Int)) (.exit 0) (fun _ => { t := mkT 26 0 [(4, bool false)], h := [], m := [] }) epX (fun _ _ => True) (by simp) (fun _ => by simp []) ?_ ?_ () trivial
 ·intro i p u hp _
  obtain ⟨hi, he⟩ := DA.1 hp
  have hx : i < xs.length := by omega
  have hy : i < ys.length := by omega
  have h1 : xs[i]? = some p.1 := by subst he; simp [hx]
  have h2 : ys[i]? = some p.2 := by subst he; simp [hy]
  exact ⟨fun _ _ => trivial, CJ (a := p.1) (b := p.2) (rowAt h1 rfl) (rowAt h2 rfl) (lt_len _ hx) (wrap_succ hx hl)⟩
 ·intro u _
  rw [hz]
  exact CK (bS _ xs)
def eqPts (xs ys : List PtT) : Bool := if (((xs.map FM).length : Int) != ((ys.map FM).length : Int)) = true then false else match epR xs ys with | .inl _ => true | .inr _ => false
theorem xn {xs ys : List PtT} (hl : aj xs) (h : List Blk) : (Ev Du Γ0 110 [ab (xs.map FM), ab (ys.map FM)] h (bool (eqPts xs ys)) h) := by
 cases hc0 : (↑(Dw (Dt FM xs)) : Int) != (↑(Dw (Dt FM ys)) : Int)
 ·have hl1 := (@ep_cw (xs) (ys) (hl) (hc0))
  revert hl1
  cases ho2 : epR xs ys with
  | inl o2_0_0 =>
   intro hl1
   exact DI (DX (d := bool true) pok [.b false, .sum [0, 1, 4, 12, 13] (Ea 0) { t := mkT 26 0 [(4, bool false)], h := [], m := [] }] (by kernel_rfl) (.c hc0 (.c hl1 .n)) rfl rfl h) (by simp only [eqPts, hc0, ho2]; rfl) (by rfl)
  | inr o2_1_0 =>
   intro hl1
   exact DI (DX (d := bool false) pok [.b false, .sum [0, 1, 4, 12, 13] (E7) { t := mkT 26 0 [(4, bool false)], h := [], m := [] }] (by kernel_rfl) (.c hc0 (.c hl1 .n)) rfl rfl h) (by simp only [eqPts, hc0, ho2]; rfl) (by rfl)
 ·exact DI (DX (d := bool false) pok [.b true] (by kernel_rfl) (.c hc0 .n) rfl rfl h) (by simp only [eqPts, hc0]; rfl) (by rfl)
def ptsAt (l : List FactT) (r : ReadT) (known : Int) : List PtT := bi r.kind r.sub r.obj r.frm r.til known l
abbrev alS (l rs : List (List Dp)) (a b : Int) (i : Int) : AS := { t := mkT 38 0 [(0, ab l), (2, int a), (3, int b), (8, bool false), (11, ab rs), (12, int rs.length), (13, int i)], h := [], m := [] }
abbrev alX : Unit → Exit × AS := fun _ => (.ret, { t := mkT 38 0 [(8, bool false)], h := [], m := [] })
def alF (l : List FactT) (a b : Int) (r : ReadT) (_ : Unit) : Unit ⊕ Unit := bif eqPts (ptsAt l r a) (ptsAt l r b) then .inl () else .inr ()
theorem fX {r : ReadT} {known : Int} {l : List FactT} (hl : aj l) (h : List Blk) : Ev Du Γ0 111 [ab (l.map DE), .agg [int r.kind, int r.sub, int r.obj], int r.frm, int r.til, int known] h (ab ((ptsAt l r known).map FM)) h := qp hl h
attribute [local irreducible] ptsAt eqPts
theorem al_t {b : Bool} (h : (!b) = false) : b = true := by cases b <;> simp_all
theorem al_f {b : Bool} (h : (!b) = true) : b = false := by cases b <;> simp_all
noncomputable abbrev dA (r : ReadT) : List Blk := [.var [int r.kind, int r.sub, int r.obj, int r.frm, int r.til]]
theorem CL {l : List FactT} {rs : List (List Dp)} {a b : Int} {r : ReadT} {i : Nat} (hl : aj l) (hs : aj (ptsAt l r a)) (hr : aM (i : Int) rs r.row 5) (hlt : decide ((i : Int) < (rs.length : Int)) = true) (hw : Dz.wrap ((i : Int) + 1) = ((i + 1 : Nat) : Int)) : (CW Du Γ0 [] false (sub IV 0) (alS (l.map DE) rs a b i) (ad (fun _ => alS (l.map DE) rs a b ((i + 1 : Nat) : Int)) alX (alF l a b r ())).1 (ad (fun _ => alS (l.map DE) rs a b ((i + 1 : Nat) : Int)) alX (alF l a b r ())).2) := by
 cases hc0 : !eqPts (ptsAt l r a) (ptsAt l r b)
 ·refine DU (DV (s' := { t := mkT 38 0 [(0, ab (Dt DE l)), (2, int a), (3, int b), (8, bool false), (11, ab rs), (12, int (↑(Dw rs) : Int)), (13, int (DG Dz ((↑i : Int) + 1)))], h := [], m := [] }) (e := DQ) pok [.st (.mask [0, 2, 3, 8, 11, 12, 13]), .st (.trim 0)] [.b true, .row [vi r.kind, vi r.sub, vi r.obj, vi r.frm, vi r.til], .val (ab (Dt FM (ptsAt l r a))), .val (ab (Dt FM (ptsAt l r b))), .val (bool (eqPts (ptsAt l r a) (ptsAt l r b))), .b false] (by kernel_rfl) (.c hlt (.c hr (.c (@fX r a l hl (dA r)) (.c (@fX r b l hl (dA r)) (.c (@xn (ptsAt l r a) (ptsAt l r b) hs (dA r)) (.c hc0 .n))))))) ?_ ?_ <;> (first | (have hh : eqPts (ptsAt l r a) (ptsAt l r b) = true := al_t hc0; simp only [alF, hh, cond_true, ad, hw]; first | done | rfl) | (have hh : eqPts (ptsAt l r a) (ptsAt l r b) = false := al_f hc0; simp only [alF, hh, cond_false, ad]; first | done | rfl))
 ·refine DU (DV (s' := { t := mkT 38 0 [(8, bool false)], h := [], m := [] }) (e := E7) pok [.st (.mask [8]), .st (.trim 0)] [.b true, .row [vi r.kind, vi r.sub, vi r.obj, vi r.frm, vi r.til], .val (ab (Dt FM (ptsAt l r a))), .val (ab (Dt FM (ptsAt l r b))), .val (bool (eqPts (ptsAt l r a) (ptsAt l r b))), .b true] (by kernel_rfl) (.c hlt (.c hr (.c (@fX r a l hl (dA r)) (.c (@fX r b l hl (dA r)) (.c (@xn (ptsAt l r a) (ptsAt l r b) hs (dA r)) (.c hc0 .n))))))) ?_ ?_ <;> (first | (have hh : eqPts (ptsAt l r a) (ptsAt l r b) = true := al_t hc0; simp only [alF, hh, cond_true, ad, hw]; first | done | rfl) | (have hh : eqPts (ptsAt l r a) (ptsAt l r b) = false := al_f hc0; simp only [alF, hh, cond_false, ad]; first | done | rfl))
theorem CM {l rs : List (List Dp)} {a b : Int} {i : Nat} (hlt : decide ((i : Int) < (rs.length : Int)) = false) : (CW Du Γ0 [] false (sub IV 0) (alS l rs a b i) (.exit 0) { t := mkT 38 0 [], h := [], m := [] }) := by
 exact DU (DV (s' := { t := mkT 38 0 [], h := [], m := [] }) (e := Ea 0) pok [.st (.mask []), .st (.trim 0)] [.b false] (by kernel_rfl) (.c hlt .n)) (by rfl) (by rfl)
def CN (l : List FactT) (rs : List ReadT) (a b : Int) : Exit × AS := ck (.exit 0) (fun _ : Unit => { t := mkT 38 0 [], h := [], m := [] }) alX (co (alF l a b) rs ())
theorem so {l : List FactT} {r : ReadT} {a : Int} : aj (ptsAt l r a) := by
 have := bf (kk := r.kind) (ks := r.sub) (ko := r.obj) (frm := r.frm) (to := r.til) (known := a) (l := l)
 unfold ptsAt aj; omega
theorem al_cw {l : List FactT} {rs : List ReadT} {a b : Int} (hl : aj l) (hs : aj rs) :
  CW Du Γ0 [] false (.loop (sub IV 0)) (alS (l.map DE) (rdR rs) a b 0) (CN l rs a b).1 (CN l rs a b).2 := by
 have := Hy (P := Du) (Γ := Γ0) (h0 := []) (rd := false) (c := sub IV 0) rs (alF l a b) (fun i _ => alS (l.map DE) (rdR rs) a b (i : Int)) (.exit 0) (fun _ : Unit => { t := mkT 38 0 [], h := [], m := [] }) alX (fun _ _ => True) (by simp) (fun _ => by simp) ?_ ?_ () trivial
 ·exact this
 ·intro i p u hp _
  have hi := (DA.1 hp).1
  exact ⟨fun _ _ => trivial, CL hl so (rowAt hp rfl) (lt_len H9 hi) (wrap_succ hi hs)⟩
 ·intro u _
  exact CM (bS H9 rs)
def ff (l : List FactT) (rs : List ReadT) (a b : Int) : Bool := match co (alF l a b) rs () with
 | .inl _ => true
 | .inr _ => false
theorem oC {l : List FactT} {rs : List ReadT} {a b : Int} (hl : aj l) (hs : aj rs) (h : List Blk) : (Ev Du Γ0 56 [ab (l.map DE), ab (rdR rs), int a, int b] h (bool (ff l rs a b)) h) := by
 have hl0 := (@al_cw (l) (rs) (a) (b) (hl) (hs))
 unfold CN at hl0
 revert hl0
 cases ho1 : co (alF l a b) rs () with
 | inl o1_0_0 =>
  intro hl0
  exact DI (DX (d := bool true) pok [.sum [0, 2, 3, 8, 11, 12, 13] (Ea 0) { t := mkT 38 0 [], h := [], m := [] }] (by kernel_rfl) (.c hl0 .n) rfl rfl h) (by simp only [ff, ho1]; first | done | rfl) (by rfl)
 | inr o1_1_0 =>
  intro hl0
  exact DI (DX (d := bool false) pok [.sum [0, 2, 3, 8, 11, 12, 13] (E7) { t := mkT 38 0 [(8, bool false)], h := [], m := [] }] (by kernel_rfl) (.c hl0 .n) rfl rfl h) (by simp only [ff, ho1]; first | done | rfl) (by rfl)
theorem xp {l : List FactT} {rs : List ReadT} {a b : Int} : ff l rs a b = rs.all fun r => eqPts (ptsAt l r a) (ptsAt l r b) := by
 unfold ff
 induction rs with
 | nil => rfl
 | cons r rs ih =>
  simp only [co, alF, List.all_cons]
  cases eqPts (ptsAt l r a) (ptsAt l r b)
  ·rfl
  ·simpa using ih
theorem zj {a b : List PtT} (h : eqPts a b = true) : a = b := by
 unfold eqPts at h
 split at h
 ·cases h
 ·rename_i hn
  have hlen : a.length = b.length := by simp at hn; omega
  have key : ∀ {a b : List PtT}, a.length = b.length → co epF (a.zip b) () = .inl () → a = b := by
   intro a
   induction a with
   | nil => intro b hb _; cases b; rfl; simp at hb
   | cons x a ih =>
    intro b hb hf
    cases b with
    | nil => simp at hb
    | cons y b =>
     simp only [Jf, co, epF] at hf
     split at hf
     ·rename_i h1
      split at h1
      ·cases h1
      ·rename_i h2
       have e : sn x y = true := by simpa using h2
       simp only [sn, Bool.and_true, Bool.and_eq_true, beq_iff_eq] at e
       have : x = y := by cases x; cases y; simp_all
       rw [this, ih (by simpa using hb) hf]
     ·cases hf
  unfold epR at h
  split at h
  ·rename_i u hu; exact key hlen hu
  ·cases h
end Go.Vi
open Go Go.Proofs
namespace Go.Vi
set_option maxRecDepth 100000
set_option maxHeartbeats 4000000
abbrev srS (l : List (List Dp)) (i : Int) : AS := { t := mkT 26 0 [(0, ab l), (1, ab l), (4, bool false), (5, int i)], h := [], m := [] }
theorem rdself (r : ReadT) : (!(r.kind == r.kind && (r.sub == r.sub && (r.obj == r.obj && true)) && (r.frm == r.frm && (r.til == r.til && true)))) = false := by simp
theorem zk {l : List (List Dp)} {r : ReadT} {i : Nat} (hr : aM (i : Int) l r.row 5) (hz : (!(r.kind == r.kind && (r.sub == r.sub && (r.obj == r.obj && true)) && (r.frm == r.frm && (r.til == r.til && true)))) = false) (hlt : decide ((i : Int) < (l.length : Int)) = true) (hw : Dz.wrap ((i : Int) + 1) = ((i + 1 : Nat) : Int)) : (CW Du Γ0 [] false (sub Tryz.f22 0) (srS l i) .normal (srS l ((i + 1 : Nat) : Int))) := by
 refine DU (DV (s' := { t := mkT 26 0 [(0, ab l), (1, ab l), (4, bool false), (5, int (DG Dz ((↑i : Int) + 1)))], h := [], m := [] }) (e := DQ) pok [.st (.mask [0, 1, 4, 5])] [.b true, .row [vi r.kind, vi r.sub, vi r.obj, vi r.frm, vi r.til], .row [vi r.kind, vi r.sub, vi r.obj, vi r.frm, vi r.til], .b false] (by kernel_rfl) (.c hlt (.c hr (.c hr (.c hz .n))))) ?_ ?_ <;> (first | rfl | (rw [hw]))
theorem zl {l : List (List Dp)} {i : Nat} (hlt : decide ((i : Int) < (l.length : Int)) = false) : (CW Du Γ0 [] false (sub Tryz.f22 0) (srS l i) (.exit 0) { t := mkT 26 0 [], h := [], m := [] }) := by
 exact DU (DV (s' := { t := mkT 26 0 [], h := [], m := [] }) (e := Ea 0) pok [.st (.mask [])] [.b false] (by kernel_rfl) (.c hlt .n)) (by rfl) (by rfl)
theorem srr_cw {l : List ReadT} (hl : aj l) : CW Du Γ0 [] false (.loop (sub Tryz.f22 0)) (srS (rdR l) 0) (.exit 0) { t := mkT 26 0 [], h := [], m := [] } := by
 refine CW.loopN l.length (fun i => srS (rdR l) (i : Int)) (by simp) (fun i hi => ?_) ?_
 ·exact zk (rowAt (DT hi) rfl) (rdself _) (lt_len H9 hi) (wrap_succ hi hl)
 ·exact zl (bS H9 l)
theorem lB {l : List ReadT} (hl : aj l) (hn : (((rdR l).length : Int) != ((rdR l).length : Int)) = false) (h : List Blk) : (Ev Du Γ0 22 [ab (rdR l), ab (rdR l)] h (bool true) h) := by
 have hl0 := (@srr_cw (l) (hl))
 exact DI (DX (d := bool true) pok [.b false, .sum [0, 1, 4, 5] (Ea 0) { t := mkT 26 0 [], h := [], m := [] }] (by kernel_rfl) (.c hn (.c hl0 .n)) rfl rfl h) (by rfl) (by rfl)
abbrev ssS (l : List (List Dp)) (e n d : Int) (i : Int) : AS := { t := mkT 45 0 [(2, .ref (.ptr 0 0)), (3, .ref (.ptr 1 0)), (4, bool false), (5, int i)], h := [.var [ab l, int e, int n, int d], .var [ab l, int e, int n, int d]], m := [] }
theorem seself (x : SeenT) : (!(x.course == x.course && (x.tries == x.tries && (x.best == x.best && (x.now == x.now && true))))) = false := by simp
theorem zm {l : List (List Dp)} {e n d : Int} {x : SeenT} {i : Nat} (hr : aM (i : Int) l x.row 4) (hz : (!(x.course == x.course && (x.tries == x.tries && (x.best == x.best && (x.now == x.now && true))))) = false) (hlt : decide ((i : Int) < (l.length : Int)) = true) (hw : Dz.wrap ((i : Int) + 1) = ((i + 1 : Nat) : Int)) : (CW Du Γ0 [] false (sub Tryz.f21 0) (ssS l e n d i) .normal (ssS l e n d ((i + 1 : Nat) : Int))) := by
 refine DU (DV (s' := { t := mkT 45 0 [(2, .ref (.ptr 0 0)), (3, .ref (.ptr 1 0)), (4, bool false), (5, int (DG Dz ((↑i : Int) + 1)))], h := [.var [ab l, int e, int n, int d], .var [ab l, int e, int n, int d]], m := [] }) (e := DQ) pok [.st (.mask [2, 3, 4, 5])] [.b true, .row [vi x.course, vi x.tries, vi x.best, Dp.v (Value.bool x.now)], .row [vi x.course, vi x.tries, vi x.best, Dp.v (Value.bool x.now)], .b false] (by kernel_rfl) (.c hlt (.c hr (.c hr (.c hz .n))))) ?_ ?_ <;> (first | rfl | (rw [hw]))
theorem zn {l : List (List Dp)} {e n d : Int} {i : Nat} (hlt : decide ((i : Int) < (l.length : Int)) = false) : (CW Du Γ0 [] false (sub Tryz.f21 0) (ssS l e n d i) (.exit 0) { t := mkT 45 0 [], h := [], m := [] }) := by
 exact DU (DV (s' := { t := mkT 45 0 [], h := [], m := [] }) (e := Ea 0) pok [.st (.mask []), .st (.trim 0)] [.b false] (by kernel_rfl) (.c hlt .n)) (by rfl) (by rfl)
theorem sst_cw {l : List SeenT} {e n d : Int} (hl : aj l) : CW Du Γ0 [] false (.loop (sub Tryz.f21 0)) (ssS (l.map EA) e n d 0) (.exit 0) { t := mkT 45 0 [], h := [], m := [] } := by
 refine CW.loopN l.length (fun i => ssS (l.map EA) e n d (i : Int)) (by simp) (fun i hi => ?_) ?_
 ·exact zm (rowAt (DT hi) rfl) (seself _) (lt_len EA hi) (wrap_succ hi hl)
 ·exact zn (bS EA l)
theorem uM {l : List SeenT} {e n d : Int} (hl : aj l) (h : List Blk) : (Ev Du Γ0 21 [.agg [ab (l.map EA), int e, int n, int d], .agg [ab (l.map EA), int e, int n, int d]] h (bool true) h) := by
 cases hc0 : (↑(Dw (Dt EA l)) : Int) != (↑(Dw (Dt EA l)) : Int) || e != e || !(n == n && (d == d && true))
 ·have hl1 := (@sst_cw (l) (e) (n) (d) (hl))
  exact DI (DX (d := bool true) pok [.b false, .sum [2, 3, 4, 5] (Ea 0) { t := mkT 45 0 [], h := [], m := [] }] (by kernel_rfl) (.c hc0 (.c hl1 .n)) rfl rfl h) (by first | rfl | (exfalso; simp at hc0; done)) (by rfl)
 ·exact DI (DX (d := bool false) pok [.b true] (by kernel_rfl) (.c hc0 .n) rfl rfl h) (by first | rfl | (exfalso; simp at hc0; done)) (by rfl)
noncomputable abbrev qG (r : RecT) : List Blk := [.var [int r.st, ab (Dt Dy r.a)], .var [int r.st, ab (Dt Dy r.a)]]
theorem xq {r : RecT} (hs : ∀ h, Ev Du Γ0 24 [ab (r.a.map Dy), ab (r.a.map Dy)] h (bool true) h) (h : List Blk) : (Ev Du Γ0 29 [.agg [int r.st, ab (r.a.map Dy)], .agg [int r.st, ab (r.a.map Dy)]] h (bool true) h) := by
 exact DI (DX (d := bool (r.st == r.st && true)) pok [.val (bool true)] (by kernel_rfl) (.c (gd (r.st == r.st) (@hs (qG r))) .n) rfl rfl h) (by first | rfl | simp) (by rfl)
theorem uN {st : Int} {l : List AttT} (hl : aj l) (h : List Blk) : Ev Du Γ0 29 [.agg [int st, ab (l.map Dy)], .agg [int st, ab (l.map Dy)]] h (bool true) h := xq (r := ⟨st, l⟩) (fun h => qF rfl hl h) h
theorem rdne (l : List ReadT) : (((rdR l).length : Int) != ((rdR l).length : Int)) = false := by simp
noncomputable abbrev qH (w : WorldT) : List Blk := [.var [ab (Dt DF w.c), ab w.p, ab (Dt DJ w.s), ab (Dt DE w.f)]]
theorem ra_out {w : WorldT} {st term a b : Int} {now : List Int} (hsane : ∀ h, Ev Du Γk 17 [] h (bool true) h) (ho : (!cF w || decide (((now.map fun n => [vi n]).length : Int) > 10)) = true) (h : List Blk) : (Ev Du Γk 13 [.agg w.l, int st, int term, int a, int b, ab (now.map fun n => [vi n])] h (bool true) h) := by
 exact DI (DX (d := bool true) pok [.val (bool true), .b false, .val (bool (cF w)), .b true] (by kernel_rfl) (.c (@hsane (qH w)) (.c (show (!true) = false from rfl) (.c (D7 (Γ' := Γk) (@ef w (qH w))) (.c ho .n)))) rfl rfl h) (by rfl) (by rfl)
noncomputable abbrev lC (w : WorldT) : List Blk := [.var [ab (Dt DF w.c), ab w.p, ab (Dt DJ w.s), ab (Dt DE w.f)]]
theorem ra_err {w : WorldT} {st term a b : Int} {now : List Int} (hsane : ∀ h, Ev Du Γk 17 [] h (bool true) h) (ho : (!cF w || decide (((now.map fun n => [vi n]).length : Int) > 10)) = false) {e : Int} (he : (e != 0) = true) (hs : ∀ h, Ev Du Γk 19 [.agg w.l, int st, int term, int a, ab (now.map fun n => [vi n])] h (.tup [.agg [dl, int 0, int 0, int 0], dl, int e]) h) (h : List Blk) : (Ev Du Γk 13 [.agg w.l, int st, int term, int a, int b, ab (now.map fun n => [vi n])] h (bool true) h) := by
 exact DI (DX (d := bool true) pok [.val (bool true), .b false, .val (bool (cF w)), .b false, .val (Es [EB [nq, int 0, int 0, int 0], nq, int e]), .g false, .g false, .g false, .g false, .g false, .g false, .g false, .ov 55 (bool true), .b true] (by kernel_rfl) (.c (@hsane (lC w)) (.c (show (!true) = false from rfl) (.c (D7 (Γ' := Γk) (@ef w (lC w))) (.c ho (.c (@hs (lC w)) (.c (show ((e != 0) == false) = false from (by rw [he]; rfl)) (.c (show ((e != 0) == false) = false from (by rw [he]; rfl)) (.c (show ((e != 0) == false) = false from (by rw [he]; rfl)) (.c (show ((e != 0) == false) = false from (by rw [he]; rfl)) (.c (show ((e != 0) == false) = false from (by rw [he]; rfl)) (.c (show ((e != 0) == false) = false from (by rw [he]; rfl)) (.c (show ((e != 0) == false) = false from (by rw [he]; rfl)) (.c (show aX (bool (e != 0)) (bool true) (D.p (Dp.v (Value.tuple { toList := [] }))) (bool true) from (bz he rfl)) (.c (show true = true from rfl) .n)))))))))))))) rfl rfl h) (by first | rfl | simp_all) (by rfl)
noncomputable abbrev zo (w : WorldT) (l : List SeenT) (e : Int) (n : Int) (d : Int) : List Blk := [.var [ab (Dt DF w.c), ab w.p, ab (Dt DJ w.s), ab (Dt DE w.f)], .var [ab (Dt EA l), int e, int n, int d]]
noncomputable abbrev oD (w : WorldT) : List Blk := [.var [ab (Dt DF w.c), ab w.p, ab (Dt DJ w.s), ab (Dt DE w.f)]]
theorem ra_no {w : WorldT} (hf : aj w.f) {st term a b : Int} {now : List Int} (hsane : ∀ h, Ev Du Γk 17 [] h (bool true) h) (ho : (!cF w || decide (((now.map fun n => [vi n]).length : Int) > 10)) = false) {l : List SeenT} {e n d : Int} {q : List ReadT} (hq : aj q) (hs : ∀ h, Ev Du Γk 19 [.agg w.l, int st, int term, int a, ab (now.map fun n => [vi n])] h (.tup [.agg [ab (l.map EA), int e, int n, int d], ab (rdR q), int 0]) h) (hal : ((0 : Int) != 0 || !ff w.f q a b) = true) (h : List Blk) : (Ev Du Γk 13 [.agg w.l, int st, int term, int a, int b, ab (now.map fun n => [vi n])] h (bool true) h) := by
 exact DI (DX (d := bool true) pok [.val (bool true), .b false, .val (bool (cF w)), .b false, .val (Es [EB [ab (Dt EA l), int e, int n, int d], ab (rdR q), int 0]), .val (bool (ff w.f q a b)), .b true] (by kernel_rfl) (.c (@hsane (oD w)) (.c (show (!true) = false from rfl) (.c (D7 (Γ' := Γk) (@ef w (oD w))) (.c ho (.c (@hs (oD w)) (.c (gd (!0 != 0) (D7 (Γ' := Γk) (@oC (w.f) q a b hf hq (zo w l e n d)))) (.c hal .n))))))) rfl rfl h) (by first | rfl | simp_all) (by rfl)
noncomputable abbrev jY (w : WorldT) (st : Int) (l : List SeenT) (e : Int) (n : Int) (d : Int) (r : List AttT) : List Blk := [.var [ab (Dt DF w.c), ab w.p, ab (Dt DJ w.s), ab (Dt DE w.f)], .var [ab (Dt EA l), int e, int n, int d], .var [ab (Dt EA l), int e, int n, int d], .var [int st, ab (Dt Dy r)], .var [int st, ab (Dt Dy r)]]
noncomputable abbrev zp (w : WorldT) (st : Int) (l : List SeenT) (e : Int) (n : Int) (d : Int) (r : List AttT) : List Blk := [.var [ab (Dt DF w.c), ab w.p, ab (Dt DJ w.s), ab (Dt DE w.f)], .var [ab (Dt EA l), int e, int n, int d], .var [ab (Dt EA l), int e, int n, int d], .var [int st, ab (Dt Dy r)]]
noncomputable abbrev zq (w : WorldT) (l : List SeenT) (e : Int) (n : Int) (d : Int) : List Blk := [.var [ab (Dt DF w.c), ab w.p, ab (Dt DJ w.s), ab (Dt DE w.f)], .var [ab (Dt EA l), int e, int n, int d], .var [ab (Dt EA l), int e, int n, int d]]
noncomputable abbrev oE (w : WorldT) (l : List SeenT) (e : Int) (n : Int) (d : Int) : List Blk := [.var [ab (Dt DF w.c), ab w.p, ab (Dt DJ w.s), ab (Dt DE w.f)], .var [ab (Dt EA l), int e, int n, int d]]
noncomputable abbrev fY (w : WorldT) : List Blk := [.var [ab (Dt DF w.c), ab w.p, ab (Dt DJ w.s), ab (Dt DE w.f)]]
theorem ra_ok {w : WorldT} (hf : aj w.f) {st term a b : Int} {now : List Int} (hsane : ∀ h, Ev Du Γk 17 [] h (bool true) h) (ho : (!cF w || decide (((now.map fun n => [vi n]).length : Int) > 10)) = false) {l : List SeenT} {e n d : Int} {q q2 : List ReadT} {r : List AttT} (hl : aj l) (hq : aj q) (hq2 : aj q2) (hr : aj r) (hn1 : (((rdR q).length : Int) != ((rdR q).length : Int)) = false) (hn2 : (((rdR q2).length : Int) != ((rdR q2).length : Int)) = false)
  (hs : ∀ h, Ev Du Γk 19 [.agg w.l, int st, int term, int a, ab (now.map fun n => [vi n])] h (.tup [.agg [ab (l.map EA), int e, int n, int d], ab (rdR q), int 0]) h)
  (hs2 : ∀ h, Ev Du Γk 19 [.agg w.l, int st, int term, int b, ab (now.map fun n => [vi n])] h (.tup [.agg [ab (l.map EA), int e, int n, int d], ab (rdR q), int 0]) h)
  (hr1 : ∀ h, Ev Du Γk 23 [.agg w.l, int st, int term, int a] h (.tup [.agg [int st, ab (r.map Dy)], ab (rdR q2), int 0]) h) (hr2 : ∀ h, Ev Du Γk 23 [.agg w.l, int st, int term, int b] h (.tup [.agg [int st, ab (r.map Dy)], ab (rdR q2), int 0]) h)
  (h : List Blk) : (Ev Du Γk 13 [.agg w.l, int st, int term, int a, int b, ab (now.map fun n => [vi n])] h (bool true) h) := by
 cases hc0 : 0 != 0 || !ff w.f q a b
 ·let v0 := Es [EB [ab (Dt EA l), int e, int n, int d], ab (rdR q), int 0]
  let v1 := Es [EB [int st, ab (Dt Dy r)], ab (rdR q2), int 0]
  exact DI (DX (d := bool (0 == 0 && 0 == 0 && 0 == 0 && true && true && true && true)) pok [.val (bool true), .b false, .val (bool (cF w)), .b false, .val v0, .val (bool (ff w.f q a b)), .b false, .val v0, .val v1, .val v1, .val (bool true), .val (bool true), .val (bool true), .val (bool true)] (by kernel_rfl) (.c (@hsane (fY w)) (.c (show (!true) = false from rfl) (.c (D7 (Γ' := Γk) (@ef w (fY w))) (.c ho (.c (@hs (fY w)) (.c (gd (!0 != 0) (D7 (Γ' := Γk) (@oC (w.f) q a b hf hq (oE w l e n d)))) (.c hc0 (.c (@hs2 (oE w l e n d)) (.c (@hr1 (zq w l e n d)) (.c (@hr2 (zp w st l e n d r)) (.c (gd (0 == 0 && 0 == 0 && 0 == 0) (D7 (Γ' := Γk) (@uM l e n d hl (jY w st l e n d r)))) (.c (gd (0 == 0 && 0 == 0 && 0 == 0 && true) (D7 (Γ' := Γk) (@lB q hq hn1 (jY w st l e n d r)))) (.c (gd (0 == 0 && 0 == 0 && 0 == 0 && true && true) (D7 (Γ' := Γk) (@uN st r hr (jY w st l e n d r)))) (.c (gd (0 == 0 && 0 == 0 && 0 == 0 && true && true && true) (D7 (Γ' := Γk) (@lB q2 hq2 hn2 (jY w st l e n d r)))) .n)))))))))))))) rfl rfl h) (by subst v0 v1; first | rfl | simp_all) (by rfl)
 ·exact DI (DX (d := bool true) pok [.val (bool true), .b false, .val (bool (cF w)), .b false, .val (Es [EB [ab (Dt EA l), int e, int n, int d], ab (rdR q), int 0]), .val (bool (ff w.f q a b)), .b true] (by kernel_rfl) (.c (@hsane (fY w)) (.c (show (!true) = false from rfl) (.c (D7 (Γ' := Γk) (@ef w (fY w))) (.c ho (.c (@hs (fY w)) (.c (gd (!0 != 0) (D7 (Γ' := Γk) (@oC (w.f) q a b hf hq (oE w l e n d)))) (.c hc0 .n))))))) rfl rfl h) (by first | rfl | simp_all) (by rfl)
end Go.Vi
open Go Go.Proofs
namespace Go.Vi
set_option maxRecDepth 100000
def xr : List Dp → Option FactT
 | [.v (.int .i64 a), .v (.int .i64 b), .v (.int .i64 c), .v (.int .i64 d), .v (.int .i64 e), .v (.int .i64 f), .v (.int .i64 g), .v (.int .i64 i)] => some ⟨a, b, c, d, e, f, g, i⟩
 | _ => none
def lD : List (List Dp) → Option (List FactT)
 | [] => some []
 | r :: rs => match xr r, lD rs with
  | some x, some xs => some (x :: xs)
  | _, _ => none
theorem xt {r : List Dp} {f : FactT} (h : xr r = some f) : r = f.row := by
 unfold xr at h
 split at h
 ·cases h; rfl
 ·simp at h
theorem nh : ∀ {rs : List (List Dp)} {fs : List FactT}, lD rs = some fs → rs = fs.map DE
 | [], fs, h => by simp only [lD, Dv] at h; subst h; rfl
 | r :: rs, fs, h => by
  simp only [lD] at h
  split at h
  ·rename_i x xs h1 h2
   simp only [Dv] at h
   subst h
   rw [xt h1, nh h2]; rfl
  ·simp at h
def Ds (s : VS) (n : Nat) : Int := bif s.2.getD n false then maxV (s.1.getD n default).value else -1
def oG (kk ks ko known : Int) (l : List FactT) : List Int := (Et 1024).map (Ds (l.foldl (vaGo kk ks ko known) vZ))
theorem uO (s : VS) (rs : List Int) (h : rs.length = 1024) (n i : Nat) : (vlStep s rs n).getD i 0 = if i = n ∧ n < 1024 then Ds s n else rs.getD i 0 := by
 unfold Ds vlStep
 by_cases hn : n < 1024
 ·by_cases hi : i = n
  ·subst hi
   cases s.2.getD i false <;> simp [D9, h, hn]
  ·have hi' : n ≠ i := fun e => hi e.symm
   cases s.2.getD n false <;> simp [D9, hi, hi']
 ·cases s.2.getD n false <;> simp [D9, hn, List.set_eq_of_length_le (show rs.length ≤ n by omega)]
theorem uP (s : VS) (rs : List Int) (n : Nat) : (vlStep s rs n).length = rs.length := by
 unfold vlStep; cases s.2.getD n false <;> simp
theorem nj (kk ks ko known : Int) (l : List FactT) : valuesR kk ks ko known l = oG kk ks ko known l := by
 unfold valuesR oG qm
 generalize l.foldl (vaGo kk ks ko known) vZ = s
 have hz : (D5 1024 (0 : Int)).length = 1024 := List.length_replicate ..
 have hz2 : ∀ i, (D5 1024 (0 : Int)).getD i 0 = 0 := fun i => by
  rw [D9, List.getElem?_replicate]; split <;> rfl
 revert hz hz2
 generalize D5 1024 (0 : Int) = z
 intro hz hz2
 have key : ∀ m, m ≤ 1024 → ((Et m).foldl (vlStep s) z).length = 1024 ∧ ∀ i, ((Et m).foldl (vlStep s) z).getD i 0 = if i < m then Ds s i else 0 := by
  intro m
  induction m with
  | zero => intro _; exact ⟨hz, fun i => by rw [if_neg (Nat.not_lt_zero i)]; exact hz2 i⟩
  | succ m ih =>
   intro hm
   obtain ⟨h1, h2⟩ := ih (by omega)
   rw [List.range_succ, List.foldl_append]
   simp only [EJ, List.foldl_nil]
   refine ⟨by rw [uP]; exact h1, fun i => ?_⟩
   rw [uO s _ h1, h2]
   by_cases hi : i = m
   ·subst hi
    rw [if_pos ⟨rfl, by omega⟩, if_pos (by omega)]
   ·rw [if_neg (fun h => hi h.1)]
    by_cases hlt : i < m
    ·rw [if_pos hlt, if_pos (by omega)]
    ·rw [if_neg hlt, if_neg (by omega)]
 obtain ⟨h1, h2⟩ := key 1024 (Nat.le_refl _)
 refine List.ext_getElem (by rw [h1]; simp) fun i hi1 hi2 => ?_
 have := h2 i
 rw [D9, DT hi1] at this
 rw [h1] at hi1
 rw [if_pos hi1] at this
 simpa using this
def Av (n : Nat) : Bool := Nat.blt n 1000000
def wvGo (args : List D) (h : List Blk) : List D → Option CR
 | [.p (.sl rows), .agg [.p (.v (.int .i64 kk)), .p (.v (.int .i64 ks)), .p (.v (.int .i64 ko))], .p (.v (.int .i64 known))] => match lD rows with
  | some l => match Av l.length with
   | true => some (.ret (.agg ((oG kk ks ko known l).map int)) h)
   | false => none
  | none => none
 | _ => none
def wv : FnF := fun f args h => match Nat.beq f 159 with
 | true => wvGo args h (xW h args)
 | false => none
theorem qI : ∀ l : List Int, rO (l.map int) = true
 | [] => rfl
 | _ :: l => by simp [rO, i5, qI l]
theorem xu (l : List Int) : (ba l).flatten = l.map int := by
 unfold ba
 induction l with
 | nil => rfl
 | cons a l ih => simp only [EH, List.flatten_cons, ih]; rfl
theorem uQ {Γ : am} : xV Du Γ wv := by
 intro f args h r hw
 unfold wv at hw
 split at hw
 ·rename_i hf
  have hf := Nat.eq_of_beq_eq_true hf
  subst hf
  refine ⟨by kernel_rfl, ?_⟩
  unfold wvGo at hw
  split at hw
  ·rename_i rows kk ks ko known hfr
   split at hw
   ·rename_i l hl
    split at hw
    ·rename_i hs
     cases hw
     refine VRes.of_ev (Ev.frzArgs (by rw [hfr]; rfl) (qI _) ?_)
     rw [hfr, nh hl]
     have hsh : aj l := by
      unfold Av at hs
      have : l.length < 1000000 := by simpa [Nat.blt_eq] using hs
      unfold aj; omega
     have := qo (kk := kk) (ks := ks) (ko := ko) (known := known) hsh []
     rw [xu, nj] at this
     exact D7 this
    ·simp at hw
   ·simp at hw
  ·simp at hw
 ·simp at hw
end Go.Vi
open Go Go.Proofs
namespace Go.Vi
theorem oH {α : Type} {l : List α} {n t : Nat} {x z : α} (hn : n < l.length) : (l.set n x).getD t z = if t = n then x else l.getD t z := by
 by_cases h : t = n
 ·subst h; simp [D9, hn]
 ·have : n ≠ t := fun e => h e.symm
  simp [D9, h, this]
theorem xv {f : FactT} {s : VS} (hs : s.ok) {n t : Nat} (hn : n < 1024) : ((fe f s n).1.getD t default, (fe f s n).2.getD t false) = if t = n ∧ vaHit f (s.1.getD t default) (s.2.getD t false) = true then (f, true) else (s.1.getD t default, s.2.getD t false) := by
 unfold fe
 by_cases ht : t = n
 ·subst ht
  cases h : vaHit f (s.1.getD t default) (s.2.getD t false)
  ·simp
  ·simp only [cond_true, and_self, if_true]
   rw [oH (by rw [hs.1]; exact hn), oH (by rw [hs.2]; exact hn)]
   simp
 ·cases h : vaHit f (s.1.getD n default) (s.2.getD n false)
  ·simp [ht]
  ·simp only [cond_true, ht, false_and, if_false]
   rw [oH (by rw [hs.1]; exact hn), oH (by rw [hs.2]; exact hn)]
   simp [ht]
theorem nk {f : FactT} {t : Nat} : ∀ (ns : List Nat) (s : VS), s.ok → ns.Nodup → (∀ n ∈ ns, n < 1024) → ((ns.foldl (fe f) s).1.getD t default, (ns.foldl (fe f) s).2.getD t false) = if t ∈ ns ∧ vaHit f (s.1.getD t default) (s.2.getD t false) = true then (f, true) else (s.1.getD t default, s.2.getD t false)
 | [], s, _, _, _ => by simp
 | n :: ns, s, hs, hd, hb => by
  rw [List.nodup_cons] at hd
  have hn := hb n (by simp)
  have h1 := xv (f := f) hs (t := t) hn
  have h2 := nk (f := f) (t := t) ns (fe f s n) (vaStep_ok n hs) hd.2 (fun m hm => hb m (by simp [hm]))
  rw [EJ, h2]
  have e1 := congrArg Prod.fst h1
  have e2 := congrArg Prod.snd h1
  simp only at e1 e2
  by_cases ht : t = n
  ·subst ht
   rw [if_neg (fun h => hd.1 h.1), h1]
   simp
  ·simp only [ht, false_and, if_false] at e1 e2
   rw [e1, e2]
   simp [ht]
theorem CO {kk ks ko known : Int} {t : Nat} (ht : t < 1024) (f : FactT) {s : VS} (hs : s.ok) : ((vaGo kk ks ko known s f).1.getD t default, (vaGo kk ks ko known s f).2.getD t false) = qT kk ks ko (t : Int) known (s.1.getD t default, s.2.getD t false) f := by
 unfold vaGo qT
 cases ofIs kk ks ko known f
 ·rfl
 ·simp only [cond_true]
  unfold vaF wE
  have hlo : 0 ≤ BA f ∧ (BA f = f.frm ∨ (BA f = 0 ∧ f.frm ≤ 0)) := by unfold BA; simp; split <;> omega
  have hhi : uA f ≤ 1024 ∧ (uA f = f.til ∨ (uA f = 1024 ∧ 1024 ≤ f.til)) := by unfold uA; split <;> omega
  rw [nk _ _ hs (List.nodup_range' ..) (by intro n hn; rw [HB] at hn; omega)]
  unfold b4 ut
  have hm : (t ∈ EL (BA f).toNat (uA f - BA f).toNat) ↔ f.frm ≤ (t : Int) ∧ (t : Int) < f.til := by
   rw [HB]; omega
  have hv : (!s.2.getD t false || decide (orI (aW f.known (s.1.getD t default).known) (aW f.no (s.1.getD t default).no) ≥ 0)) = vaHit f (s.1.getD t default) (s.2.getD t false) := rfl
  rw [hv]
  by_cases h1 : f.frm ≤ (t : Int) ∧ (t : Int) < f.til
  ·cases h2 : vaHit f (s.1.getD t default) (s.2.getD t false)
   ·simp
   ·simp [hm.2 h1, h1.1, h1.2]
  ·rw [if_neg (fun h => h1 (hm.1 h.1))]
   have : (decide (f.frm ≤ (t : Int)) && decide ((t : Int) < f.til)) = false := by
    cases hq : (decide (f.frm ≤ (t : Int)) && decide ((t : Int) < f.til))
    ·rfl
    ·simp at hq; exact absurd hq h1
   simp [this]
theorem xw {kk ks ko known : Int} {t : Nat} (ht : t < 1024) : ∀ (l : List FactT) (s : VS), s.ok → ((l.foldl (vaGo kk ks ko known) s).1.getD t default, (l.foldl (vaGo kk ks ko known) s).2.getD t false) = l.foldl (qT kk ks ko (t : Int) known) (s.1.getD t default, s.2.getD t false)
 | [], _, _ => rfl
 | f :: l, s, hs => by
  rw [EJ, EJ, xw ht l _ (vaGo_ok f hs), CO ht f hs]
theorem sq {kk ks ko known : Int} {l : List FactT} {t : Nat} (ht : t < 1024) : (valuesR kk ks ko known l).getD t 0 = Ds (l.foldl (vaGo kk ks ko known) vZ) t := by
 rw [nj]
 unfold oG
 simp [D9, ht]
theorem xx {α : Type} {n t : Nat} {x z : α} (h : t < n) : (D5 n x).getD t z = x := by simp [D9, h]
def atV (v : Int) : Int × Bool := bif decide (v < 0) then (0, false) else (v, true)
theorem qJ {kk ks ko known : Int} {l : List FactT} {t : Nat} (ht : t < 1024) : atR kk ks ko (t : Int) known l = atV ((valuesR kk ks ko known l).getD t 0) := by
 have h := xw (kk := kk) (ks := ks) (ko := ko) (known := known) ht l vZ BG
 have hz : (vZ.1.getD t default, vZ.2.getD t false) = (fz, false) := by unfold vZ; rw [xx ht, xx ht]
 rw [hz] at h
 rw [sq ht]
 unfold atR Ds
 rw [← h]
 simp only
 cases (l.foldl (vaGo kk ks ko known) vZ).2.getD t false
 ·rfl
 ·simp only [F7, Bool.false_or, cond_true, maxV, if_true, atV]
  generalize ((l.foldl (vaGo kk ks ko known) vZ).1.getD t default).value = v
  by_cases hv : v < 0
  ·simp only [hv, decide_true, cond_true]
   split
   ·rfl
   ·simp [hv]
  ·have : ¬ -1 > v := by omega
   simp [hv, this]
theorem nl {kk ks ko known : Int} {l : List FactT} {t : Nat} (ht : t < 1024) : bi kk ks ko (t : Int) ((t : Int) + 1) known l = (ptO (valuesR kk ks ko known l) t).toList := by
 unfold bi
 rw [oq]
 have h1 : ptLo (t : Int) = (t : Int) := by unfold ptLo; simp; omega
 have h2 : tu ((t : Int) + 1) = (t : Int) + 1 := by unfold tu; split <;> omega
 rw [h1, h2]
 have h3 : ((t : Int) + 1 - (t : Int)).toNat = 1 := by omega
 rw [h3]
 simp only [Int.toNat_natCast, List.range'_one, GJ, List.filterMap_nil]
 cases ptO (valuesR kk ks ko known l) t <;> rfl
theorem oI {kk ks ko a b term : Int} {l : List FactT} (h0 : 0 ≤ term) (h1 : term ≤ 1023) (h : bi kk ks ko term (term + 1) a l = bi kk ks ko term (term + 1) b l) : atR kk ks ko term a l = atR kk ks ko term b l := by
 obtain ⟨t, rfl⟩ : ∃ t : Nat, term = (t : Int) := ⟨term.toNat, by omega⟩
 have ht : t < 1024 := by omega
 rw [nl ht, nl ht] at h
 rw [qJ ht, qJ ht]
 generalize (valuesR kk ks ko a l) = x at h ⊢
 generalize (valuesR kk ks ko b l) = y at h ⊢
 unfold ptO at h
 unfold atV
 generalize x.getD t 0 = p at h ⊢
 generalize y.getD t 0 = q at h ⊢
 cases hx : decide (p ≥ 0) <;> cases hy : decide (q ≥ 0) <;> rw [hx, hy] at h <;> simp at h hx hy
 ·simp [hx, hy]
 ·rw [h]
def AlikeP (l : List FactT) (rs : List ReadT) (a b : Int) : Prop := ∀ r ∈ rs, ptsAt l r a = ptsAt l r b
theorem xy {l : List FactT} {rs : List ReadT} {a b : Int} (h : ff l rs a b = true) : AlikeP l rs a b := by
 intro r hr
 rw [xp, List.all_eq_true] at h
 exact zj (h r hr)
theorem AlikeP.rd {l : List FactT} {kk ks ko term a b : Int} (h : AlikeP l (rdT kk ks ko term) a b) (ht : outB term = false) : atR kk ks ko term a l = atR kk ks ko term b l := by
 have hr : 0 ≤ term ∧ term ≤ 1023 := by simpa [outB] using ht
 have hw : Dz.wrap (term + 1) = term + 1 := wrap_i64 (by omega) (by omega)
 have := h ⟨kk, ks, ko, term, Dz.wrap (term + 1)⟩ (by unfold rdT; rw [ht]; simp)
 rw [hw] at this
 exact oI hr.1 hr.2 this
theorem jA {w : WorldT} {n term a b : Int} (h : AlikeP w.f (rdT 1 n 0 term) a b) : ac w n term a = ac w n term b := by
 unfold ac
 cases ht : outB term
 ·simp only; rw [h.rd ht]
 ·rfl
theorem io {w : WorldT} {a b : Int} (h : AlikeP w.f [rdN] a b) : ae w.f a = ae w.f b := by
 have h1 : bi 12 0 0 0 (0 + 1) a w.f = bi 12 0 0 0 (0 + 1) b w.f := h rdN (by simp)
 have := oI (by omega) (by omega) h1
 unfold ae wA
 rw [this]
theorem eo {α β : Type} {f g : α → List β} : ∀ {l : List α}, (∀ x ∈ l, f x = g x) → l.flatMap f = l.flatMap g
 | [], _ => rfl
 | x :: l, h => by rw [HX, HX, h x (by simp), eo fun y hy => h y (by simp [hy])]
theorem fg {α β : Type} {f g : α → Option β} : ∀ {l : List α}, (∀ x ∈ l, f x = g x) → l.filterMap f = l.filterMap g
 | [], _ => rfl
 | x :: l, h => by rw [GJ, GJ, h x (by simp), fg fun y hy => h y (by simp [hy])]
theorem zr {w : WorldT} {a b st term n : Int} (h : AlikeP w.f (b7 w a st term n) a b) : b7 w a st term n = b7 w b st term n ∧ dg w a st term n = dg w b st term n := by
 have hp : l9 w a st term n = l9 w b st term n := h ⟨5, st, n, 0, term⟩ (by simp [b7])
 refine ⟨by unfold b7; rw [hp], ?_⟩
 unfold dg
 rw [← hp]
 refine fg fun p hpm => ?_
 unfold Dk
 cases hb : attBad p
 ·simp only [cond_false]
  have : ac w n p.term a = ac w n p.term b := jA fun r hr => h r (by
   unfold b7
   refine EM _ (Ht.2 ⟨p, hpm, ?_⟩)
   unfold rdO; rw [hb]; exact hr)
  unfold y2
  rw [this]
 ·rfl
theorem xz {w : WorldT} {a b st term : Int} (h : AlikeP w.f (aN w a st term) a b) : aN w a st term = aN w b st term ∧ dm w a st term = dm w b st term := by
 have hn := io (w := w) (a := a) (b := b) fun r hr => h r (by unfold aN; simp only [List.mem_singleton] at hr; simp [hr])
 have key : ∀ n ∈ ae w.f a, b7 w a st term n = b7 w b st term n ∧ dg w a st term n = dg w b st term n := fun n hm => zr fun r hr => h r (by unfold aN; exact EM _ (Ht.2 ⟨n, hm, hr⟩))
 unfold aN dm eG
 rw [← hn, eo fun n hm => (key n hm).1, eo fun n hm => (key n hm).2]
 exact ⟨rfl, rfl⟩
end Go.Vi
open Go Go.Proofs
namespace Go.Vi
set_option maxRecDepth 100000
set_option maxHeartbeats 4000000
abbrev rpH (w : WorldT) (st : Int) (a b : List (List Dp)) : List Blk := [.var w.l, .var [int st, ab a], .var [int st, ab b]]
abbrev rpS (w : WorldT) (st term : Int) (a b : List (List Dp)) (n i : Int) : AS := { t := mkT 101 0 [(2, int term), (10, bool false), (11, .ref (.ptr 1 0)), (14, .ref (.ptr 2 0)), (17, int n), (18, int i)], h := rpH w st a b, m := [] }
abbrev rpE (w : WorldT) (st term : Int) (a b : List (List Dp)) (n : Int) : AS := { t := mkT 101 0 [(2, int term), (10, bool false), (14, .ref (.ptr 2 0)), (17, int n)], h := rpH w st a b, m := [] }
theorem zt {w : WorldT} {st term : Int} {a b : List (List Dp)} {x : AttT} {n : Int} {i : Nat} (hr : aM (i : Int) a x.row 5) (hlt : decide ((i : Int) < n) = true) (hx : decide (x.term ≥ term) = false) (hw : Dz.wrap ((i : Int) + 1) = ((i + 1 : Nat) : Int)) : (CW Du Γk [] false (sub Hg 0) (rpS w st term a b n i) .normal (rpS w st term a b n ((i + 1 : Nat) : Int))) := by
 refine DU (DV (s' := { t := mkT 101 0 [(2, int term), (10, bool false), (11, .ref (.ptr 1 0)), (14, .ref (.ptr 2 0)), (17, int n), (18, int (DG Dz ((↑i : Int) + 1)))], h := [.var [ab (Dt DF w.c), ab w.p, ab (Dt DJ w.s), ab (Dt DE w.f)], .var [int st, ab a], .var [int st, ab b]], m := [] }) (e := DQ) pok [.st (.mask [2, 10, 11, 14, 17, 18])] [.b true, .row (Dy x), .b false] (by kernel_rfl) (.c hlt (.c hr (.c hx .n)))) ?_ ?_ <;> (first | rfl | (simp only [hw]; rfl))
theorem zu {w : WorldT} {st term : Int} {a b : List (List Dp)} {n : Int} {i : Nat} (hlt : decide ((i : Int) < n) = false) : (CW Du Γk [] false (sub Hg 0) (rpS w st term a b n i) (.exit 0) (rpE w st term a b n)) := by
 exact DU (DV (s' := { t := mkT 101 0 [(2, int term), (10, bool false), (14, .ref (.ptr 2 0)), (17, int n)], h := [.var [ab (Dt DF w.c), ab w.p, ab (Dt DJ w.s), ab (Dt DE w.f)], .var [int st, ab a], .var [int st, ab b]], m := [] }) (e := Ea 0) pok [.st (.mask [2, 10, 14, 17])] [.b false] (by kernel_rfl) (.c hlt .n)) (by rfl) (by rfl)
theorem rp0_cw {w : WorldT} {st term : Int} {a : List AttT} {b : List (List Dp)} (hl : aj a) (hx : ∀ x ∈ a, x.term < term) :
  CW Du Γk [] false (.loop (sub Hg 0)) (rpS w st term (a.map Dy) b (a.map Dy).length 0) (.exit 0) (rpE w st term (a.map Dy) b (a.map Dy).length) := by
 have := Hy (P := Du) (Γ := Γk) (h0 := []) (rd := false) (c := sub Hg 0) (σ := Unit) (ρ := Empty) a (fun _ _ => .inl ()) (fun i _ => rpS w st term (a.map Dy) b (a.map Dy).length (i : Int)) (.exit 0) (fun _ => rpE w st term (a.map Dy) b (a.map Dy).length) (fun r => r.elim) (fun _ _ => True) (by simp) (fun r => r.elim) ?_ ?_ () trivial
 ·rw [aY] at this
  exact this
 ·intro i x u hp _
  have hi := (DA.1 hp).1
  exact ⟨fun _ _ => trivial, zt (rowAt hp rfl) (lt_len Dy hi) (decide_eq_false (by have := hx x (Eo hp); omega)) (wrap_succ hi hl)⟩
 ·intro u _
  exact zu (bS Dy a)
abbrev rqS (w : WorldT) (st term : Int) (a b : List (List Dp)) (i : Int) : AS := { t := mkT 101 0 [(2, int term), (10, bool false), (14, .ref (.ptr 2 0)), (19, int i)], h := rpH w st a b, m := [] }
theorem CP {w : WorldT} {st term : Int} {a b : List (List Dp)} {x : AttT} {i i' : Int} (hr : aM i b x.row 5) (hlt : decide (i < (b.length : Int)) = true) (hx : decide (x.term < term) = false) (hw : Dz.wrap (i + 1) = i') : (CW Du Γk [] false (sub Hg 1) (rqS w st term a b i) .normal (rqS w st term a b i')) := by
 refine DU (DV (s' := { t := mkT 101 0 [(2, int term), (10, bool false), (14, .ref (.ptr 2 0)), (19, int (DG Dz (i + 1)))], h := [.var [ab (Dt DF w.c), ab w.p, ab (Dt DJ w.s), ab (Dt DE w.f)], .var [int st, ab a], .var [int st, ab b]], m := [] }) (e := DQ) pok [.st (.mask [2, 10, 14, 19])] [.b true, .row (Dy x), .b false] (by kernel_rfl) (.c hlt (.c hr (.c hx .n)))) ?_ ?_ <;> (first | rfl | (simp only [hw]; rfl))
theorem CQ {w : WorldT} {st term : Int} {a b : List (List Dp)} {i : Int} (hlt : decide (i < (b.length : Int)) = false) : (CW Du Γk [] false (sub Hg 1) (rqS w st term a b i) (.exit 2) { t := mkT 101 0 [], h := rpH w st a b, m := [] }) := by
 exact DU (DV (s' := { t := mkT 101 0 [], h := [.var [ab (Dt DF w.c), ab w.p, ab (Dt DJ w.s), ab (Dt DE w.f)], .var [int st, ab a], .var [int st, ab b]], m := [] }) (e := Ea 2) pok [.st (.mask [])] [.b false] (by kernel_rfl) (.c hlt .n)) (by rfl) (by rfl)
theorem rq_cw {w : WorldT} {st term : Int} {a b : List AttT} {rs : List (List Dp)} (hb : aj (a ++ b)) (hx : ∀ x ∈ b, term ≤ x.term) :
  CW Du Γk [] false (.loop (sub Hg 1)) (rqS w st term rs ((a ++ b).map Dy) (a.map Dy).length) (.exit 2) { t := mkT 101 0 [], h := rpH w st rs ((a ++ b).map Dy), m := [] } := by
 have hlen : ((a ++ b).map Dy).length = a.length + b.length := by simp
 have hs : (a ++ b).length < 4611686018427387904 := by have := hb; unfold aj at this; omega
 have := Hy (P := Du) (Γ := Γk) (h0 := []) (rd := false) (c := sub Hg 1) (σ := Unit) (ρ := Empty) b (fun _ _ => .inl ()) (fun i _ => rqS w st term rs ((a ++ b).map Dy) (((a.length + i : Nat)) : Int)) (.exit 2) (fun _ => { t := mkT 101 0 [], h := rpH w st rs ((a ++ b).map Dy), m := [] }) (fun r => r.elim) (fun _ _ => True) (by simp) (fun r => r.elim) ?_ ?_ () trivial
 ·rw [aY] at this
  rw [Fh]
  exact this
 ·intro i x u hp _
  obtain ⟨hi, hxe⟩ := DA.1 hp
  have h2 : (a ++ b)[a.length + i]? = some x := by rw [List.getElem?_append_right (by omega)]; simpa using hp
  refine ⟨fun _ _ => trivial, CP (rowAt h2 rfl) (decide_eq_true (by rw [hlen]; omega)) (decide_eq_false (by have := hx x (Eo hp); omega)) ?_⟩
  rw [wrap_i64 (by omega) (by simp at hs; omega)]
  omega
 ·intro u _
  exact CQ (decide_eq_false (by rw [hlen]; omega))
end Go.Vi
open Go Go.Proofs
namespace Go.Vi
theorem cT {α β : Type} (g : α → Option β) (q : β → Bool) (q' : α → Bool) (h : ∀ a b, g a = some b → q b = q' a) : ∀ l : List α, (l.filterMap g).filter q = (l.filter q').filterMap g
 | [] => rfl
 | a :: l => by
  have ih := cT g q q' h l
  cases hg : g a with
  | none =>
   rw [Ia hg, ih, FB]
   cases q' a
   ·rfl
   ·simp only [if_true]; rw [Ia hg]
  | some b =>
   rw [Ib hg, FB, FB, h a b hg, ih]
   cases q' a
   ·rfl
   ·simp only [if_true]; rw [Ib hg]
theorem zw (n m : Nat) (q : Nat → Bool) (hmn : m ≤ n) (hq : ∀ k, k < n → (q k = true ↔ k < m)) : (EL 0 n).filter q = EL 0 m := by
 have e : EL 0 n = EL 0 m ++ EL m (n - m) := by
  have := List.range'_append_1 (s := 0) (m := m) (n := n - m)
  rw [Nat.zero_add] at this
  rw [this]
  congr 1; omega
 rw [e, List.filter_append]
 have h1 : (EL 0 m).filter q = EL 0 m := List.filter_eq_self.2 fun k hk => by
  have : k < m := by simpa using hk
  exact (hq k (by omega)).2 this
 have h2 : (EL m (n - m)).filter q = [] := FD.2 fun k hk => by
  have := HB.1 hk
  intro hc
  have := (hq k (by omega)).1 hc
  omega
 rw [h1, h2, List.append_nil]
theorem uR {w : WorldT} {known st term later n : Int} (h : term ≤ later) : (l9 w known st later n).filter (fun p => decide (p.term < term)) = l9 w known st term n := by
 unfold l9 bi
 have h0 : ptLo 0 = 0 := rfl
 rw [h0, oq, oq]
 rw [cT (q' := fun k : Nat => decide ((k : Int) < term))]
 ·congr 1
  simp only [Int.toNat_zero, Int.sub_zero]
  refine zw _ _ _ ?_ ?_
  ·unfold tu; split <;> split <;> omega
  ·intro k hk
   rw [decide_eq_true_eq]
   unfold tu at hk ⊢
   split at hk <;> split <;> omega
 ·intro k p hp
  unfold ptO at hp
  cases hc : decide ((valuesR 5 st n known w.f).getD k 0 ≥ 0) <;> rw [hc] at hp <;> simp at hp
  subst hp; rfl
theorem sr {w : WorldT} {known st term later n : Int} (h : term ≤ later) : (dg w known st later n).filter (fun a => decide (a.term < term)) = dg w known st term n := by
 unfold dg
 rw [cT (q' := fun p => decide (p.term < term)), uR h]
 intro p a ha
 unfold Dk at ha
 cases hb : attBad p <;> rw [hb] at ha <;> simp at ha
 subst ha; rfl
theorem lE {w : WorldT} {known st term later : Int} (h : term ≤ later) : (eG w known st later).filter (fun a => decide (a.term < term)) = eG w known st term := by
 unfold eG
 rw [List.filter_flatMap]
 congr 1
 funext n
 exact sr h
theorem lF (a b : AttT) : leA a b = true ↔ (a.term < b.term ∨ (a.term = b.term ∧ a.course ≤ b.course)) := by
 have h1 : leA a b = true ↔ (ltOf BI) b a = false := by unfold leA; simp
 rw [h1, om]
 omega
theorem xA (a b c : AttT) (h1 : leA a b = true) (h2 : leA b c = true) : leA a c = true := by
 rw [lF] at *; omega
theorem xB (a b : AttT) : (leA a b || leA b a) = true := by
 rw [F1, lF, lF]; omega
theorem gt {w : WorldT} {known st term : Int} : (dm w known st term).Pairwise fun a b => leA a b = true := GX xA xB _
theorem recA_perm {w : WorldT} {known st term : Int} : (dm w known st term).Perm (eG w known st term) := GI _ _
theorem qK {w : WorldT} {known st term later : Int} (h : term ≤ later) : (dm w known st later).filter (fun a => decide (a.term < term)) = dm w known st term := by
 refine HN (le := fun a b => leA a b = true) ?_ ((gt).filter _) gt ?_
 ·intro a b ha hb h1 h2
  rw [lF] at h1 h2
  have ha' : a ∈ eG w known st later := recA_perm.mem_iff.1 (Fw.1 ha).1
  have hb' : b ∈ eG w known st later := by
   have := recA_perm.mem_iff.1 hb
   rw [← lE h] at this
   exact (Fw.1 this).1
  exact tC a ha' b hb' (by omega) (by omega)
 ·have := (recA_perm (w := w) (known := known) (st := st) (term := later)).filter (fun a => decide (a.term < term))
  rw [lE h] at this
  exact this.trans recA_perm.symm
theorem jB (t : Int) : ∀ l : List AttT, (l.Pairwise fun a b => leA a b = true) → l = l.filter (fun a => decide (a.term < t)) ++ l.filter (fun a => !decide (a.term < t))
 | [], _ => rfl
 | a :: l, h => by
  rw [List.pairwise_cons] at h
  have ih := jB t l h.2
  by_cases ha : a.term < t
  ·simp only [FB, ha, decide_true, if_true, F7, Ei, if_false, List.cons_append]
   rw [← ih]
  ·have hno : l.filter (fun a => decide (a.term < t)) = [] := FD.2 fun b hb => by
    have := h.1 b hb
    rw [lF] at this
    simp only [decide_eq_true_eq]; omega
   simp only [FB, ha, decide_false, Ei, if_false, Bool.not_false, if_true]
   rw [hno] at ih ⊢
   rw [List.nil_append] at ih ⊢
   rw [← ih]
theorem uS {w : WorldT} {known st term later : Int} (h : term ≤ later) : ∃ rest, dm w known st later = dm w known st term ++ rest ∧ (∀ a ∈ dm w known st term, a.term < term) ∧ ∀ a ∈ rest, term ≤ a.term := by
 refine ⟨(dm w known st later).filter (fun a => !decide (a.term < term)), ?_, ?_, ?_⟩
 ·have := jB term _ (gt (w := w) (known := known) (st := st) (term := later))
  rw [qK h] at this
  exact this
 ·intro a ha
  rw [← qK h] at ha
  simpa using (Fw.1 ha).2
 ·intro a ha
  have := (Fw.1 ha).2
  simp only [EU, decide_eq_false_iff_not] at this
  omega
end Go.Vi
open Go Go.Proofs
namespace Go.Vi
set_option maxRecDepth 100000
set_option maxHeartbeats 4000000
noncomputable abbrev qL (w : WorldT) : List Blk := [.var [ab (Dt DF w.c), ab w.p, ab (Dt DJ w.s), ab (Dt DE w.f)]]
theorem rp_out {w : WorldT} {st term later known : Int} (hsane : ∀ h, Ev Du Γk 17 [] h (bool true) h) (ho : (!cF w || decide (later < term)) = true) (h : List Blk) : (Ev Du Γk 4 [.agg w.l, int st, int term, int later, int known] h (bool true) h) := by
 exact DI (DX (d := bool true) pok [.val (bool true), .b false, .val (bool (cF w)), .b true] (by kernel_rfl) (.c (@hsane (qL w)) (.c (show (!true) = false from rfl) (.c (D7 (Γ' := Γk) (@ef w (qL w))) (.c ho .n)))) rfl rfl h) (by rfl) (by rfl)
noncomputable abbrev xC (w : WorldT) (ra : RecT) : List Blk := [.var [ab (Dt DF w.c), ab w.p, ab (Dt DJ w.s), ab (Dt DE w.f)], .var [int ra.st, ab (Dt Dy ra.a)]]
noncomputable abbrev lG (w : WorldT) : List Blk := [.var [ab (Dt DF w.c), ab w.p, ab (Dt DJ w.s), ab (Dt DE w.f)]]
theorem rp_err {w : WorldT} {st term later known : Int} {ra rb : RecT} {qa qb : List ReadT} {ea eb : Int} (hsane : ∀ h, Ev Du Γk 17 [] h (bool true) h) (ho : (!cF w || decide (later < term)) = false) (he : (ea != 0 || eb != 0) = true)
 (h1 : ∀ h, Ev Du Γk 23 [.agg w.l, int st, int term, int known] h (.tup [.agg ra.l, ab (rdR qa), int ea]) h) (h2 : ∀ h, Ev Du Γk 23 [.agg w.l, int st, int later, int known] h (.tup [.agg rb.l, ab (rdR qb), int eb]) h) (h : List Blk) : (Ev Du Γk 4 [.agg w.l, int st, int term, int later, int known] h (bool true) h) := by
 exact DI (DX (d := bool true) pok [.val (bool true), .b false, .val (bool (cF w)), .b false, .val (Es [EB [int ra.st, ab (Dt Dy ra.a)], ab (rdR qa), int ea]), .val (Es [EB [int rb.st, ab (Dt Dy rb.a)], ab (rdR qb), int eb]), .b true] (by kernel_rfl) (.c (@hsane (lG w)) (.c (show (!true) = false from rfl) (.c (D7 (Γ' := Γk) (@ef w (lG w))) (.c ho (.c (@h1 (lG w)) (.c (@h2 (xC w ra)) (.c he .n))))))) rfl rfl h) (by rfl) (by rfl)
noncomputable abbrev oJ (w : WorldT) (s2 : Int) (a : List AttT) (rest : List AttT) : List Blk := [.var [ab (Dt DF w.c), ab w.p, ab (Dt DJ w.s), ab (Dt DE w.f)], .var [int s2, ab (Dt Dy a)], .var [int s2, ab (Dt Dy (a ++ rest))]]
noncomputable abbrev zx (w : WorldT) (s2 : Int) (a : List AttT) : List Blk := [.var [ab (Dt DF w.c), ab w.p, ab (Dt DJ w.s), ab (Dt DE w.f)], .var [int s2, ab (Dt Dy a)]]
noncomputable abbrev oK (w : WorldT) : List Blk := [.var [ab (Dt DF w.c), ab w.p, ab (Dt DJ w.s), ab (Dt DE w.f)]]
theorem rp_ok {w : WorldT} {st s2 term later known : Int} {a rest : List AttT} {qa qb : List ReadT} (hsane : ∀ h, Ev Du Γk 17 [] h (bool true) h) (ho : (!cF w || decide (later < term)) = false) (hl : aj a) (hs : aj (a ++ rest)) (hx : ∀ x ∈ a, x.term < term) (hy : ∀ x ∈ rest, term ≤ x.term)
 (hsame : ∀ h, Ev Du Γk 24 [ab (a.map Dy), ab (List.take (DN ((a.map Dy).length : Int) - DN 0) (List.drop (DN 0) ((a ++ rest).map Dy)))] h (bool true) h)
 (hlen : (decide ((((a ++ rest).map Dy).length : Int) < ((a.map Dy).length : Int)) || !true) = false)
 (h1 : ∀ h, Ev Du Γk 23 [.agg w.l, int st, int term, int known] h (.tup [.agg [int s2, ab (a.map Dy)], ab (rdR qa), int 0]) h) (h2 : ∀ h, Ev Du Γk 23 [.agg w.l, int st, int later, int known] h (.tup [.agg [int s2, ab ((a ++ rest).map Dy)], ab (rdR qb), int 0]) h) (h : List Blk) : (Ev Du Γk 4 [.agg w.l, int st, int term, int later, int known] h (bool true) h) := by
 have hl0 := (@rp0_cw (w) (s2) (term) (a) (Dt Dy (a ++ rest)) (hl) (hx))
 have hl1 := (@rq_cw (w) (s2) (term) (a) (rest) (Dt Dy a) (hs) (hy))
 let v0 := Dt Dy (a ++ rest)
 let v1 := Dw (Dt Dy a)
 let v2 : List D := [int s2, ab (Dt Dy a)]
 exact DI (DX (d := bool true) pok [.val (bool true), .b false, .val (bool (cF w)), .b false, .val (Es [EB v2, ab (rdR qa), int 0]), .val (Es [EB [int s2, ab v0], ab (rdR qb), int 0]), .b false, .val (bool true), .b false, .sum [2, 10, 11, 14, 17, 18] (Ea 0) { t := mkT 101 0 [(2, int term), (10, bool false), (14, .ref (.ptr 2 0)), (17, int (↑v1 : Int))], h := (oJ w s2 a rest), m := [] }, .sum [2, 10, 14, 19] (Ea 2) { t := mkT 101 0 [], h := (oJ w s2 a rest), m := [] }] (by kernel_rfl) (.c (@hsane (oK w)) (.c (show (!true) = false from rfl) (.c (D7 (Γ' := Γk) (@ef w (oK w))) (.c ho (.c (@h1 (oK w)) (.c (@h2 (zx w s2 a)) (.c (show (0 != 0 || 0 != 0) = false from rfl) (.c (show (!decide ((↑(Dw v0) : Int) < (↑v1 : Int))) = true → (uW 0 (↑v1 : Int) (Dw v0) && true && (true || Option.isSome (Option.map (evalD Γk (Dt d7 (EB (Eb w) :: int st :: int term :: int later :: int known :: .ref (.ptr 0 0) :: EN :: EN :: EN :: EN :: bool false :: .ref (.ptr 1 0) :: ab (rdR qa) :: int 0 :: .ref (.ptr 2 0) :: ab (rdR qb) :: int 0 :: int (↑v1 : Int) :: EN :: EN :: bool true :: (bool !true) :: EB (Eb w) :: bool (cF w) :: (bool !cF w) :: (bool !cF w) :: Gx (!!cF w) (int later) :: Gx (!!cF w) (int term) :: Gx (!!cF w) (bool (decide (later < term))) :: bool (!cF w || decide (later < term)) :: Es [EB v2, ab (rdR qa), int 0] :: EB (Eb w) :: int st :: int term :: int known :: mkT 66 0 [(0, Es [EB v2, ab (rdR qa), int 0]), (1, EB v2), (2, ab (rdR qa)), (3, int 0), (4, Es [EB [int s2, ab v0], ab (rdR qb), int 0]), (5, EB (Eb w)), (6, int st), (7, int later), (8, int known), (9, Es [EB [int s2, ab v0], ab (rdR qb), int 0]), (10, EB [int s2, ab v0]), (11, ab (rdR qb)), (12, int 0), (13, int 0), (14, bool (0 != 0)), (15, bool (0 != 0)), (16, Gx (!0 != 0) (int 0)), (17, Gx (!0 != 0) (bool (0 != 0))), (18, bool (0 != 0 || 0 != 0)), (19, .ref (.ptr 1 1)), (20, ab (Dt Dy a)), (21, int (↑v1 : Int)), (22, .ref (.ptr 2 1)), (23, ab v0), (24, int (↑(Dw v0) : Int)), (25, int (↑v1 : Int)), (26, bool (decide ((↑(Dw v0) : Int) < (↑v1 : Int)))), (27, bool (decide ((↑(Dw v0) : Int) < (↑v1 : Int)))), (28, Gx (!decide ((↑(Dw v0) : Int) < (↑v1 : Int))) (.ref (.ptr 1 1))), (29, Gx (!decide ((↑(Dw v0) : Int) < (↑v1 : Int))) (ab (Dt Dy a))), (30, Gx (!decide ((↑(Dw v0) : Int) < (↑v1 : Int))) (.ref (.ptr 2 1))), (31, Gx (!decide ((↑(Dw v0) : Int) < (↑v1 : Int))) (ab v0)), (32, Gx (!decide ((↑(Dw v0) : Int) < (↑v1 : Int))) (int (↑v1 : Int)))]))) (some (Operand.tmp 67)))) && List.all v0 fun r => decide (Dw r = 5)) = true from (fun hg => (by subst v0 v1 v2; first | assumption | rfl | (simp_all; done) | (simp [uW, Dy]; done) | (simp [uW, Dy]; omega)))) (.c (gd (!decide ((↑(Dw v0) : Int) < (↑v1 : Int))) (@hsame (oJ w s2 a rest))) (.c hlen (.c hl0 (.c hl1 .n)))))))))))) rfl rfl h) (by rfl) (by rfl)
end Go.Vi
