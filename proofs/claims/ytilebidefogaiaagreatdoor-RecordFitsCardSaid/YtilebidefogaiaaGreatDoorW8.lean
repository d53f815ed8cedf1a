/- RecordFits: part of the proof: contracts of the functions that the law reaches, and the law. No conditions beyond the given statement's own. -/
import Derived.Test.YtilebidefogaiaaGreatDoorW7
open Go.IntKind renaming i64 → Dj, wrap → Dr
open Go.Proofs.Tryz renaming prog → Dg, f15 → Ix
open List renaming map → De, getElem?_eq_some_iff → Dm, getElem?_eq_none_iff → HQ, length_map → EW, foldl_cons → Ex, mem_cons_of_mem → Eg, mem_cons_self → Ed, mergeSort_perm → FE, pairwise_cons → GA, length_nil → Fp, length_cons → DZ
open Go.Vi.CourseT renaming row → Dt
open Go.Vi.SysT renaming row → Dw
open Go.Vi.FactT renaming row → Ds
open Go.Vi.AttT renaming row → Dk
open Go.Vi.Ev renaming castH → Dv, glob0 → DW
open Go.Vi.SeenT renaming row → Ez
open Bool renaming and_eq_true → Dl, or_eq_false_iff → EG, not_eq_false' → Gp
open Nat renaming gcd → Eu
open Int renaming natAbs_natCast → Hi, eq_ofNat_of_zero_le → H4
open Go Go.Proofs
namespace Go.Vi
set_option maxRecDepth 100000
set_option maxHeartbeats 4000000
def fiEq (a x : AttT) : Bool := a.course == x.course && (a.term == x.term && (a.grade == x.grade && (a.campus == x.campus && (a.credits == x.credits && true))))
abbrev fiH (w : WorldT) (st : Int) (as_ sn : List (List Dp)) (e n d : Int) : List Blk := [.var w.l, .var [int st, ab as_], .var [ab sn, int e, int n, int d]]
abbrev fiS (w : WorldT) (st : Int) (as_ sn l : List (List Dp)) (e n d : Int) (i t : Int) : AS := { t := mkT 115 0 [(10, bool false), (11, .ref (.ptr 1 0)), (13, int 0), (14, .ref (.ptr 2 0)), (17, ab l), (19, int 0), (20, int t), (21, int i)], h := fiH w st as_ sn e n d, m := [] }
abbrev fiE (w : WorldT) (st : Int) (as_ sn l : List (List Dp)) (e n d : Int) (t : Int) : AS := { t := mkT 115 0 [(10, bool false), (13, int 0), (14, .ref (.ptr 2 0)), (17, ab l), (19, int 0), (20, int t)], h := fiH w st as_ sn e n d, m := [] }
def fiF (l : List AttT) (a : AttT) (t : Nat) : Nat ⊕ Nat := match l[t]? with
 | none => .inr t
 | some x => .inl (bif fiEq a x then t + 1 else t)
theorem CT {w : WorldT} {st e n d : Int} {as_ sn l : List (List Dp)} {a x : AttT} {i t : Nat} (hr : aM (i : Int) as_ a.row 5) (hx : aM (t : Int) l x.row 5) (hlt : (decide ((i : Int) < (as_.length : Int)) && decide ((t : Int) < (l.length : Int))) = true) (hw : Dj.wrap ((i : Int) + 1) = ((i + 1 : Nat) : Int)) (hw2 : Dj.wrap ((t : Int) + 1) = ((t + 1 : Nat) : Int)) : (CW Dg Γk [] false (sub Ix 0) (fiS w st as_ sn l e n d i t) .normal (fiS w st as_ sn l e n d ((i + 1 : Nat) : Int) ((bif fiEq a x then t + 1 else t : Nat) : Int))) := by
 cases hc0 : a.course == x.course && (a.term == x.term && (a.grade == x.grade && (a.campus == x.campus && (a.credits == x.credits && true))))
 ·refine CW.cast (CW.symX (s' := { t := mkT 115 0 [(10, bool false), (11, .ref (.ptr 1 0)), (13, int 0), (14, .ref (.ptr 2 0)), (17, ab l), (19, int 0), (20, int (↑t : Int)), (21, int (Dr Dj ((↑i : Int) + 1)))], h := [.var [ab (De Dt w.c), ab w.p, ab (De Dw w.s), ab (De Ds w.f)], .var [int st, ab as_], .var [ab sn, int e, int n, int d]], m := [] }) (e := Exit.normal) pok [.st (.mask [10, 11, 13, 14, 17, 19, 20, 21])] [.b true, .row (Dk a), .row (Dk x), .b false] (by kernel_rfl) (.c hlt (.c hr (.c hx (.c hc0 .n))))) ?_ ?_ <;> (first | (have hh : fiEq a x = true := hc0; simp only [hh, cond_true, hw, hw2]; first | done | rfl) | (have hh : fiEq a x = false := hc0; simp only [hh, cond_false, hw]; first | done | rfl) | rfl)
 ·refine CW.cast (CW.symX (s' := { t := mkT 115 0 [(10, bool false), (11, .ref (.ptr 1 0)), (13, int 0), (14, .ref (.ptr 2 0)), (17, ab l), (19, int 0), (20, int (Dr Dj ((↑t : Int) + 1))), (21, int (Dr Dj ((↑i : Int) + 1)))], h := [.var [ab (De Dt w.c), ab w.p, ab (De Dw w.s), ab (De Ds w.f)], .var [int st, ab as_], .var [ab sn, int e, int n, int d]], m := [] }) (e := Exit.normal) pok [.st (.mask [10, 11, 13, 14, 17, 19, 20, 21])] [.b true, .row (Dk a), .row (Dk x), .b true] (by kernel_rfl) (.c hlt (.c hr (.c hx (.c hc0 .n))))) ?_ ?_ <;> (first | (have hh : fiEq a x = true := hc0; simp only [hh, cond_true, hw, hw2]; first | done | rfl) | (have hh : fiEq a x = false := hc0; simp only [hh, cond_false, hw]; first | done | rfl) | rfl)
theorem xz {w : WorldT} {st e n d : Int} {as_ sn l : List (List Dp)} {i t : Nat} (hlt : (decide ((i : Int) < (as_.length : Int)) && decide ((t : Int) < (l.length : Int))) = false) : (CW Dg Γk [] false (sub Ix 0) (fiS w st as_ sn l e n d i t) (.exit 0) (fiE w st as_ sn l e n d t)) := by
 exact CW.cast (CW.symX (s' := { t := mkT 115 0 [(10, bool false), (13, int 0), (14, .ref (.ptr 2 0)), (17, ab l), (19, int 0), (20, int (↑t : Int))], h := [.var [ab (De Dt w.c), ab w.p, ab (De Dw w.s), ab (De Ds w.f)], .var [int st, ab as_], .var [ab sn, int e, int n, int d]], m := [] }) (e := Exit.exit 0) pok [.st (.mask [10, 13, 14, 17, 19, 20])] [.b false] (by kernel_rfl) (.c hlt .n)) (by rfl) (by rfl)
def fiN (as_ l : List AttT) : Nat := match forL (fiF l) as_ 0 with
 | .inl t => t
 | .inr t => t
theorem fi_cw {w : WorldT} {st e n d : Int} {sn : List (List Dp)} {as_ l : List AttT} (ha : al as_) (hl : al l) :
  CW Dg Γk [] false (.loop (sub Ix 0)) (fiS w st (as_.map Dk) sn (l.map Dk) e n d 0 0) (.exit 0) (fiE w st (as_.map Dk) sn (l.map Dk) e n d (fiN as_ l : Nat)) := by
 have := CW.each (P := Dg) (Γ := Γk) (h0 := []) (rd := false) (c := sub Ix 0) as_ (fiF l) (fun i t => fiS w st (as_.map Dk) sn (l.map Dk) e n d (i : Int) (t : Int)) (.exit 0) (fun t => fiE w st (as_.map Dk) sn (l.map Dk) e n d (t : Int))
  (fun t : Nat => (.exit 0, fiE w st (as_.map Dk) sn (l.map Dk) e n d (t : Int))) (fun _ _ => True) (by simp) (fun _ => by simp) ?_ ?_ 0 trivial
 ·have key : cG (.exit 0) (fun t : Nat => fiE w st (as_.map Dk) sn (l.map Dk) e n d (t : Int)) (fun t : Nat => (.exit 0, fiE w st (as_.map Dk) sn (l.map Dk) e n d (t : Int))) (forL (fiF l) as_ 0) = (.exit 0, fiE w st (as_.map Dk) sn (l.map Dk) e n d (fiN as_ l : Nat)) := by
   unfold fiN
   cases forL (fiF l) as_ 0 <;> rfl
  rw [key] at this
  exact this
 ·intro i a t hia _
  have hi := (Dm.1 hia).1
  refine ⟨fun _ _ => trivial, ?_⟩
  unfold fiF
  cases hx : l[t]? with
  | none =>
   have ht := HQ.1 hx
   refine xz ?_
   rw [Bool.and_eq_false_iff]
   right
   simp only [EW, decide_eq_false_iff_not]
   omega
  | some x =>
   have ht := (Dm.1 hx).1
   exact CT (rowAt hia rfl) (rowAt hx rfl) (by rw [lt_len Dk hi, lt_len Dk ht]; rfl) (wrap_succ hi ha) (wrap_succ ht hl)
 ·intro t _
  refine xz ?_
  rw [cw Dk as_]; rfl
noncomputable abbrev qE (w : WorldT) : List Blk := [.var [ab (De Dt w.c), ab w.p, ab (De Dw w.s), ab (De Ds w.f)]]
theorem fi_out {w : WorldT} {st term known : Int} {now : List Int} (hsane : ∀ h, Ev Dg Γk 17 [] h (bool true) h) (ho : (!jC w || decide (((now.map fun n => [vi n]).length : Int) > 10)) = true) (h : List Blk) : (Ev Dg Γk 15 [.agg w.l, int st, int term, int known, ab (now.map fun n => [vi n])] h (bool true) h) := by
 exact Dv (Ev.sym0 (d := bool true) pok [.val (bool true), .b false, .val (bool (jC w)), .b true] (by kernel_rfl) (.c (@hsane (qE w)) (.c (show (!true) = false from rfl) (.c (DW (Γ' := Γk) (@oy w (qE w))) (.c ho .n)))) rfl rfl h) (by rfl) (by rfl)
noncomputable abbrev qF (w : WorldT) (s0 : Int) (r : List AttT) : List Blk := [.var [ab (De Dt w.c), ab w.p, ab (De Dw w.s), ab (De Ds w.f)], .var [int s0, ab (De Dk r)]]
noncomputable abbrev lC (w : WorldT) : List Blk := [.var [ab (De Dt w.c), ab w.p, ab (De Dw w.s), ab (De Ds w.f)]]
theorem fi_err {w : WorldT} {st term known : Int} {now : List Int} (hsane : ∀ h, Ev Dg Γk 17 [] h (bool true) h) (ho : (!jC w || decide (((now.map fun n => [vi n]).length : Int) > 10)) = false) {s0 e0 e ec : Int} {r : List AttT} {q : List ReadT} (he : (e != 0) = true)
  (hr : ∀ h, Ev Dg Γk 23 [.agg w.l, int st, int term, int known] h (.tup [.agg [int s0, ab (r.map Dk)], ab (rdR q), int e0]) h) (hc : ∀ h, Ev Dg Γk 30 [.agg [int s0, ab (r.map Dk)]] h (int ec) h) (hb : (e0 == 0 && ec != 0) = false)
  (hs : ∀ h, Ev Dg Γk 19 [.agg w.l, int st, int term, int known, ab (now.map fun n => [vi n])] h (.tup [.agg [dt, int 0, int 0, int 0], dt, int e]) h) (h : List Blk) : (Ev Dg Γk 15 [.agg w.l, int st, int term, int known, ab (now.map fun n => [vi n])] h (bool true) h) := by
 exact Dv (Ev.sym0 (d := bool ((↑0 : Int) == 0)) pok [.val (bool true), .b false, .val (bool (jC w)), .b false, .val (D.tup [D.agg [int s0, ab (De Dk r)], ab (rdR q), int e0]), .val (int ec), .b false, .val (D.tup [D.agg [nq, int 0, int 0, int 0], nq, int e]), .b true] (by kernel_rfl) (.c (@hsane (lC w)) (.c (show (!true) = false from rfl) (.c (DW (Γ' := Γk) (@oy w (lC w))) (.c ho (.c (@hr (lC w)) (.c (gd (e0 == 0) (@hc (qF w s0 r))) (.c hb (.c (@hs (qF w s0 r)) (.c he .n))))))))) rfl rfl h) (by first | rfl | simp_all) (by rfl)
noncomputable abbrev oH (w : WorldT) (st : Int) (e : Int) (n : Int) (d : Int) (r : List AttT) (sn : List SeenT) : List Blk := [.var [ab (De Dt w.c), ab w.p, ab (De Dw w.s), ab (De Ds w.f)], .var [int st, ab (De Dk r)], .var [ab (De Ez sn), int e, int n, int d]]
noncomputable abbrev tG (w : WorldT) (st : Int) (r : List AttT) : List Blk := [.var [ab (De Dt w.c), ab w.p, ab (De Dw w.s), ab (De Ds w.f)], .var [int st, ab (De Dk r)]]
noncomputable abbrev oI (w : WorldT) : List Blk := [.var [ab (De Dt w.c), ab w.p, ab (De Dw w.s), ab (De Ds w.f)]]
theorem fi_ok {w : WorldT} {st term known : Int} {now : List Int} (hsane : ∀ h, Ev Dg Γk 17 [] h (bool true) h) (ho : (!jC w || decide (((now.map fun n => [vi n]).length : Int) > 10)) = false) {e n d : Int} {r l : List AttT} {q q2 q3 : List ReadT} {sn : List SeenT} (ha : al r) (hl : al l)
  (hr : ∀ h, Ev Dg Γk 23 [.agg w.l, int st, int term, int known] h (.tup [.agg [int st, ab (r.map Dk)], ab (rdR q), int 0]) h) (hc : ∀ h, Ev Dg Γk 30 [.agg [int st, ab (r.map Dk)]] h (int 0) h)
  (hs : ∀ h, Ev Dg Γk 19 [.agg w.l, int st, int term, int known, ab (now.map fun n => [vi n])] h (.tup [.agg [ab (sn.map Ez), int e, int n, int d], ab (rdR q2), int 0]) h)
  (hcn : ∀ h, Ev Dg Γk 53 [.agg w.l, .agg [int st, ab (r.map Dk)], int term, int known] h (.tup [ab (l.map Dk), ab (rdR q3), int 0]) h)
  (hf : ∀ h, Ev Dg Γk 58 [.agg [ab (sn.map Ez), int e, int n, int d]] h (int 0) h) (hN : fiN r l = l.length) (h : List Blk) : (Ev Dg Γk 15 [.agg w.l, int st, int term, int known, ab (now.map fun n => [vi n])] h (bool true) h) := by
 have hl0 := (@fi_cw (w) (st) (e) (n) (d) (De Ez sn) (r) (l) (ha) (hl))
 exact Dv (Ev.sym0 (d := bool (0 == 0 && 0 == 0 && (↑(fiN r l) : Int) == (↑(List.length (De Dk l)) : Int) && 0 == 0)) pok [.val (bool true), .b false, .val (bool (jC w)), .b false, .val (D.tup [D.agg [int st, ab (De Dk r)], ab (rdR q), int 0]), .val (int 0), .b false, .val (D.tup [D.agg [ab (De Ez sn), int e, int n, int d], ab (rdR q2), int 0]), .b false, .val (D.tup [ab (De Dk l), ab (rdR q3), int 0]), .sum [10, 11, 13, 14, 17, 19, 20, 21] (Exit.exit 0) { t := mkT 115 0 [(10, bool false), (13, int 0), (14, .ref (.ptr 2 0)), (17, ab (De Dk l)), (19, int 0), (20, int (↑(fiN r l) : Int))], h := (oH w st e n d r sn), m := [] }, .val (int 0)] (by kernel_rfl) (.c (@hsane (oI w)) (.c (show (!true) = false from rfl) (.c (DW (Γ' := Γk) (@oy w (oI w))) (.c ho (.c (@hr (oI w)) (.c (gd (0 == 0) (@hc (tG w st r))) (.c (show (0 == 0 && 0 != 0) = false from rfl) (.c (@hs (tG w st r)) (.c (show (0 != 0) = false from rfl) (.c (@hcn (oH w st e n d r sn)) (.c hl0 (.c (gd (0 == 0 && 0 == 0 && (↑(fiN r l) : Int) == (↑(List.length (De Dk l)) : Int)) (@hf (oH w st e n d r sn))) .n)))))))))))) rfl rfl h) (by first | rfl | (simp only [hN, EW]; simp; done) | simp_all) (by rfl)
end Go.Vi
open Go Go.Proofs
namespace Go.Vi
theorem xA {kk ks ko k : Int} {l : List FactT} {t : Nat} (ht : t < 1024) : (b6 kk ks ko k l).getD t 0 = (let r := l.foldl (ofGo kk ks ko (t : Int) k) (fz, false); bif r.2 then C7 r.1.value else -1) := by
 have h := xg (kk := kk) (ks := ks) (ko := ko) (known := k) ht l vZ Bq
 have hz : (vZ.1.getD t default, vZ.2.getD t false) = (fz, false) := by unfold vZ; rw [xh ht, xh ht]
 rw [hz] at h
 rw [rX ht]
 unfold Dd
 rw [← h]
end Go.Vi
open Go Go.Proofs
namespace Go.Vi
set_option maxRecDepth 100000
set_option maxHeartbeats 1000000
theorem zu (a x : AttT) : fiEq a x = true ↔ a = x := by
 cases a; cases x; simp [fiEq]
theorem xB (l : List AttT) : ∀ (as_ : List AttT) (t : Nat), (l.drop t).Sublist as_ → t ≤ l.length → (match forL (fiF l) as_ t with | .inl t => t | .inr t => t) = l.length
 | [], t, h, ht => by
  have h1 := List.drop_eq_nil_iff.1 (List.sublist_nil.1 h)
  simp only [forL]; omega
 | a :: as_, t, h, ht => by
  unfold forL fiF
  cases hx : l[t]? with
  | none =>
   have := HQ.1 hx
   simp only; omega
  | some x =>
   obtain ⟨hi, he⟩ := Dm.1 hx
   have hd : l.drop t = x :: l.drop (t + 1) := by rw [List.drop_eq_getElem_cons hi, he]
   simp only
   rw [hd] at h
   cases hq : fiEq a x
   ·have hne : a ≠ x := fun e => by rw [(zu a x).2 e] at hq; simp at hq
    simp only [cond_false]
    refine xB l as_ t ?_ ht
    rw [hd]
    cases h with
    | cons _ h => exact h
    | cons_cons _ h => exact absurd rfl hne
   ·simp only [cond_true]
    refine xB l as_ (t + 1) ?_ hi
    cases h with
    | cons _ h => exact (List.sublist_cons_self ..).trans h
    | cons_cons _ h => exact h
theorem CU {as_ l : List AttT} (h : l.Sublist as_) : fiN as_ l = l.length := xB l as_ 0 (by simpa using h) (Nat.zero_le _)
theorem qG (m2 : IM) : ∀ (l : List (AttT × Nat)) (out : List AttT), l.foldl (fun out e => cgF m2 e out) out = out ++ (l.filter fun e => cgHit m2 e.2 e.1).map (·.1)
 | [], out => by simp
 | e :: l, out => by
  rw [Ex, qG m2 l, List.filter_cons]
  unfold cgF
  cases cgHit m2 e.2 e.1 <;> simp
theorem xC (l : List AttT) (m2 : IM) : (om l m2).Sublist l := by
 unfold om
 rw [qG, List.nil_append]
 have h := (List.filter_sublist (p := fun e : AttT × Nat => cgHit m2 e.2 e.1) (l := l.zipIdx)).map (·.1)
 simpa using h
theorem zw (l : List AttT) (rp : List Int) : (lV l rp).1.Sublist l := by
 unfold lV
 cases decide (di l = 0)
 ·simp
 ·cases decide (rp.length = l.length)
  ·simp
  ·simp only [cond_true]
   split
   ·exact xC _ _
   ·simp
theorem xD {kk ks ko t k B : Int} : ∀ (l : List FactT) (s : FactT × Bool), s.1.value ≤ B → (∀ f ∈ l, f.value ≤ B) → (l.foldl (ofGo kk ks ko t k) s).1.value ≤ B
 | [], s, h, _ => h
 | f :: l, s, h, hl => by
  rw [Ex]
  refine xD l _ ?_ fun g hg => hl g (Eg _ hg)
  unfold ofGo b4
  cases ofIs kk ks ko k f
  ·exact h
  ·cases atHit t s.1 s.2 f
   ·exact h
   ·exact hl f (Ed ..)
theorem xE {w : WorldT} (hw : w.ok) {kk ks ko k : Int} {t : Nat} (ht : t < 1024) : (b6 kk ks ko k w.f).getD t 0 ≤ 9223372036854775807 := by
 rw [xA ht]
 have := xD (kk := kk) (ks := ks) (ko := ko) (t := t) (k := k) (B := 9223372036854775807) w.f (fz, false) (by decide) fun f hf => (hw.i f hf).2.2.2.1.2
 simp only
 cases (w.f.foldl (ofGo kk ks ko (t : Int) k) (fz, false)).2
 ·simp
 ·simp only [cond_true]; unfold C7; simp; split <;> omega
theorem CV (to : Int) : ur to ≤ 1024 ∧ ur to ≤ to := by unfold ur; split <;> omega
theorem pts_in {w : WorldT} (hw : w.ok) {known st term n : Int} {p : PtT} (hp : p ∈ rS w known st term n) : 0 ≤ p.term ∧ p.term < 1024 ∧ p.term < term ∧ 0 ≤ p.value ∧ p.value ≤ 9223372036854775807 := by
 unfold rS cg at hp
 rw [wF] at hp
 obtain ⟨m, hm, he⟩ := List.mem_filterMap.1 hp
 obtain ⟨i, hi, rfl⟩ := List.mem_range'.1 hm
 have h0 : ptLo 0 = 0 := by simp [ptLo]
 have h1 := CV term
 rw [h0] at hi he
 simp only [Int.toNat_zero, Int.sub_zero, Nat.zero_add, Nat.one_mul] at hi he
 unfold ptO at he
 have h2 := xE hw (kk := 5) (ks := st) (ko := n) (k := known) (t := i) (by omega)
 cases hb : decide ((b6 5 st n known w.f).getD i 0 ≥ 0) <;> rw [hb] at he <;> simp at he
 subst he
 simp only [decide_eq_true_eq] at hb
 simp only [List.getD_eq_getElem?_getD] at h2 hb
 refine ⟨by simp only; omega, by simp only; omega, by simp only; omega, ?_, ?_⟩ <;> simp only <;> omega
theorem Af {many : Int} : ∀ (fs : List FactT) (l : List Int), (∀ n ∈ l, 0 ≤ n ∧ n ≤ 4095) → ∀ n ∈ nuG (forL (nuF many) fs l), 0 ≤ n ∧ n ≤ 4095
 | [], l, h => by simpa [forL, nuG] using h
 | f :: fs, l, h => by
  simp only [forL]
  cases hf : nuF many f l with
  | inl l' =>
   refine Af fs l' ?_
   unfold nuF at hf
   split at hf
   ·simp at hf
   ·simp at hf; subst hf
    cases hn : isNew f l
    ·simpa using h
    ·simp only [cond_true]
     unfold isNew at hn
     simp only [Dl, decide_eq_true_eq] at hn
     intro n hm
     rcases List.mem_append.1 hm with hm | hm
     ·exact h n hm
     ·simp at hm; subst hm; omega
  | inr l' =>
   have : l' = l := by
    unfold nuF at hf; split at hf
    ·simp at hf; exact hf.symm
    ·simp at hf
   subst this
   exact h
theorem ng {fs : List FactT} {known : Int} : ∀ n ∈ ah fs known, 0 ≤ n ∧ n ≤ 4095 := by
 intro n hn
 unfold ah tb at hn
 exact Af fs [] (by simp) n ((FE _ _).mem_iff.1 hn)
theorem lY {w : WorldT} {n t known : Int} : 0 ≤ (ac w n t known).1.credits ∧ (ac w n t known).1.credits ≤ 60 := by
 unfold ac
 cases outB t with
 | true => simp [CourseT.zero]
 | false =>
  simp only
  unfold n9
  cases hb : fV w.c (b5 n) (atR 1 n 0 t known w.f) with
  | true => simp [CourseT.zero]
  | false =>
   have h := (wi hb).2.1
   simp only [b5, dR, inB, Dl, decide_eq_true_eq] at h
   simp only; omega
theorem Ag {w : WorldT} (hw : w.ok) {known st term : Int} {a : AttT} (ha : a ∈ fF w known st term) : rV a = true ∧ a.term < term := by
 unfold fF at ha
 obtain ⟨n, hn, ha⟩ := List.mem_flatMap.1 ha
 obtain ⟨_, p, hp, hb, rfl⟩ := cL ha
 have h1 := ng n hn
 obtain ⟨t1, t2, t3, v1, v2⟩ := pts_in hw hp
 have h3 := lY (w := w) (n := n) (t := p.term) (known := known)
 have hd : Dj.wrap (Int.tdiv p.value 16) = p.value / 16 := by
  rw [Int.tdiv_eq_ediv_of_nonneg v1, wrap_i64 (by omega) (by omega)]
 have hm : Int.tmod p.value 16 = p.value % 16 := Int.tmod_eq_emod_of_nonneg v1
 unfold attBad at hb
 rw [hd, hm] at hb
 simp only [EG, decide_eq_false_iff_not] at hb
 refine ⟨?_, t3⟩
 simp only [rV, wB, inB, Dl, decide_eq_true_eq, hd, hm]
 omega
theorem xG {w : WorldT} {known st term : Int} : (fF w known st term).Pairwise fun a b => ¬ (a.term = b.term ∧ a.course = b.course) := by
 unfold fF
 rw [List.pairwise_flatMap]
 refine ⟨fun n _ => ?_, ?_⟩
 ·unfold hJ
  refine List.Pairwise.filterMap (R := fun p q : PtT => p.term < q.term) (C8 w known n) ?_ mS
  intro p q hpq a ha b hb e
  unfold C8 at ha hb
  cases h1 : attBad p <;> rw [h1] at ha <;> simp at ha
  cases h2 : attBad q <;> rw [h2] at hb <;> simp at hb
  subst ha; subst hb
  have := e.1
  simp only [wB] at this
  omega
 ·refine List.Pairwise.imp ?_ lU
  intro n m hne x hx y hy e
  rw [(cL hx).1, (cL hy).1] at e
  exact hne e.2
theorem sc {w : WorldT} {known st term : Int} : (ek w known st term).Pairwise fun a b => uL a b < 0 := by
 have h1 := rY (w := w) (known := known) (st := st) (term := term)
 have h2 : (ek w known st term).Pairwise fun a b => ¬ (a.term = b.term ∧ a.course = b.course) := (recA_perm.pairwise_iff (fun {a b} h e => h ⟨e.1.symm, e.2.symm⟩)).2 xG
 refine (h1.and h2).imp ?_
 intro a b ⟨ha, hb⟩
 rw [oB] at ha
 have := (rK a b).2 (by omega)
 unfold ltOf at this
 simpa using this
theorem tH : ∀ (l : List AttT) (o : Option AttT), (∀ x ∈ l, rV x = true) → (l.Pairwise fun a b => uL a b < 0) → (∀ b, o = some b → ∀ x ∈ l, uL b x < 0) → ((o :: l.map some).zip l).any (fun p => fd p.1 p.2) = false
 | [], _, _, _, _ => by simp
 | a :: l, o, h, hp, ho => by
  rw [List.map_cons, List.zip_cons_cons, List.any_cons, EG]
  rw [GA] at hp
  refine ⟨?_, tH l (some a) (fun x hx => h x (Eg _ hx)) hp.2 (fun b e x hx => by cases e; exact hp.1 x hx)⟩
  unfold fd
  rw [h a (Ed ..)]
  cases o with
  | none => rfl
  | some b =>
   have := ho b rfl a (Ed ..)
   simp; omega
theorem nh {w : WorldT} (hw : w.ok) {known st term : Int} (h0 : 0 ≤ st) (h1 : st ≤ 19999) : bo ⟨st, ek w known st term⟩ = 0 := by
 unfold bo
 have h3 : (jA (ek w known st term)).any (fun p => fd p.1 p.2) = false := tH _ none (fun x hx => (Ag hw (recA_perm.mem_iff.1 hx)).1) sc (fun b e => by cases e)
 have h2 := rk_any (jA (ek w known st term))
 rw [h3] at h2
 have hb : (!(decide (st ≥ 0) && decide (st ≤ 19999))) = false := by simp; omega
 simp only [hb, cond_false]
 cases h : forL rkF (jA (ek w known st term)) () with
 | inl u => rfl
 | inr u => rw [h] at h2; simp at h2
end Go.Vi
open Go Go.Proofs
namespace Go.Vi
set_option maxRecDepth 100000
set_option maxHeartbeats 1000000
theorem xH {a : AttT} (h : oO a = true) : 0 ≤ a.grade ∧ a.grade ≤ 12 ∧ 0 ≤ a.credits ∧ a.credits ≤ 60 := by
 simp only [oO, inB, Dl, decide_eq_true_eq] at h
 omega
theorem tI {l : List AttT} (h : (di l != 0) = false) : ∀ a ∈ l, oO a = true := by
 intro a ha
 unfold di at h
 cases hb : l.any (fun a => !oO a)
 ·have := List.any_eq_false.1 hb a ha
  simpa using this
 ·rw [hb] at h; simp at h
theorem zx {g c : Int} (h0 : 0 ≤ g) (h1 : g ≤ 12) (h2 : 0 ≤ c) : 0 ≤ g * c ∧ g * c ≤ 12 * c := ⟨Int.mul_nonneg h0 h2, Int.mul_le_mul_of_nonneg_right h1 h2⟩
theorem su_bd : ∀ (l : List AttT) (s : Int × Int) (k : Nat), (∀ a ∈ l, oO a = true) → 0 ≤ s.1 → s.1 ≤ 60 * k → 0 ≤ s.2 → s.2 ≤ 12 * s.1 → l.length + k ≤ 1000000000000 →
  0 ≤ (l.foldl suF s).1 ∧ (l.foldl suF s).1 ≤ 60000000000000 ∧ 0 ≤ (l.foldl suF s).2 ∧ (l.foldl suF s).2 ≤ 12 * (l.foldl suF s).1
 | [], s, k, _, h1, h2, h3, h4, h5 => ⟨h1, by simp only [List.foldl_nil, Fp] at *; omega, h3, h4⟩
 | a :: l, s, k, h, h1, h2, h3, h4, h5 => by
  obtain ⟨g0, g1, c0, c1⟩ := xH (h a (Ed ..))
  obtain ⟨m0, m1⟩ := zx g0 g1 c0
  simp only [DZ] at h5
  have e1 : Dj.wrap (s.1 + a.credits) = s.1 + a.credits := wrap_i64 (by omega) (by omega)
  have e2 : Dj.wrap (a.grade * a.credits) = a.grade * a.credits := wrap_i64 (by omega) (by omega)
  have e3 : Dj.wrap (s.2 + a.grade * a.credits) = s.2 + a.grade * a.credits := wrap_i64 (by omega) (by omega)
  have e : suF s a = (s.1 + a.credits, s.2 + a.grade * a.credits) := by unfold suF; rw [e2, e1, e3]
  rw [Ex, e]
  exact su_bd l _ (k + 1) (fun x hx => h x (Eg _ hx)) (by simp only; omega) (by simp only; omega) (by simp only; omega) (by simp only; omega) (by omega)
theorem zy {p c : Nat} (hc : 0 < c) (hp : p ≤ 12 * c) (h1 : c / Eu c p ≤ 1073741824) (h2 : p / Eu c p ≤ 1073741824) : iZ ((p / Eu c p : Nat) : Int) ((c / Eu c p : Nat) : Int) = true := by
 have hg : 0 < Eu c p := Nat.gcd_pos_of_pos_left _ hc
 have d1 : 0 < c / Eu c p := Nat.div_pos (Nat.le_of_dvd hc (Nat.gcd_dvd_left c p)) hg
 have d2 : p / Eu c p ≤ 12 * (c / Eu c p) := by
  rw [← Nat.mul_div_assoc _ (Nat.gcd_dvd_left c p)]
  exact Nat.div_le_div_right hp
 have d3 : Eu (c / Eu c p) (p / Eu c p) = 1 := Nat.gcd_div_gcd_div_gcd_of_pos_left hc
 generalize c / Eu c p = C at *
 generalize p / Eu c p = Q at *
 have hb : C6 (Q : Int) (C : Int) = false := by
  unfold C6
  simp only [Hi, d3]
  simp only [EG, decide_eq_false_iff_not]
  refine ⟨⟨⟨⟨by omega, by omega⟩, by omega⟩, by omega⟩, rfl⟩
 unfold iZ uh
 rw [hb, wrap_i64 (by omega) (by omega)]
 simp
 omega
theorem xI {n : Nat} (h : n < 18446744073709551616) : IntKind.u64.wrap (n : Int) = n := by
 rw [IntKind.wrap_u64]; omega
theorem CX {l : List AttT} (hl : l.length ≤ 1000000000000) (h : (bR l).2.2 = 0) : iZ (bR l).1 (bR l).2.1 = true := by
 unfold bR at h ⊢
 cases he : (di l != 0)
 ·have hs : gm l = ((l.foldl suF (0, 0)).1, (l.foldl suF (0, 0)).2, 0) := by unfold gm; rw [he]
  obtain ⟨c0, c1, p0, p1⟩ := su_bd l (0, 0) 0 (tI he) (by simp) (by simp) (by simp) (by simp) (by omega)
  rw [hs] at h ⊢
  simp only at h ⊢
  generalize (l.foldl suF (0, 0)).1 = c at *
  generalize (l.foldl suF (0, 0)).2 = p at *
  unfold lW at h ⊢
  simp only [bne_self_eq_false] at h ⊢
  cases hc : (c == 0)
  ·rw [hc] at h
   simp only at h ⊢
   have hc' : c ≠ 0 := by simpa using hc
   unfold gp at h ⊢
   rw [hc] at h ⊢
   simp only at h ⊢
   cases hb : gl p c
   ·rw [hb] at h
    simp only at h ⊢
    have hsg : wU p c = false := by
     unfold wU
     have : decide (p < 0) = false := decide_eq_false (by omega)
     have h2 : decide (c < 0) = false := decide_eq_false (by omega)
     rw [this, h2]; rfl
    rw [hsg]
    simp only
    obtain ⟨C, rfl⟩ := H4 c0
    obtain ⟨P, rfl⟩ := H4 p0
    have q1 : P / Eu C P ≤ P := Nat.div_le_self ..
    have q2 : C / Eu C P ≤ C := Nat.div_le_self ..
    have n1 : nwN (P : Int) (C : Int) = ((P / Eu C P : Nat) : Int) := by
     unfold nwN
     simp only [Hi]
     rw [← Int.ofNat_tdiv, xI (by omega)]
    have n2 : nwD (P : Int) (C : Int) = ((C / Eu C P : Nat) : Int) := by
     unfold nwD
     simp only [Hi]
     rw [← Int.ofNat_tdiv, xI (by omega)]
    unfold gl at hb
    rw [n1, n2] at hb ⊢
    simp only [EG, decide_eq_false_iff_not] at hb
    have w1 : ∀ Q : Nat, Q ≤ P → Dj.wrap (Q : Int) = Q := fun Q h => wrap_i64 (by omega) (by omega)
    have w2 : ∀ Q : Nat, Q ≤ C → Dj.wrap (Q : Int) = Q := fun Q h => wrap_i64 (by omega) (by omega)
    rw [w1 _ q1, w2 _ q2]
    exact zy (by omega) (by omega) (by omega) (by omega)
   ·rw [hb] at h; simp at h
  ·simp only
   decide
 ·have hs : gm l = (0, 0, di l) := by unfold gm; rw [he]
  rw [hs] at h
  unfold lW at h
  rw [he] at h
  simp only at h
  simp at he
  exact absurd h he
theorem ea_bd : ∀ (l : List AttT) (c : Int) (k : Nat), (∀ a ∈ l, oO a = true) → 0 ≤ c → c ≤ 60 * k → l.length + k ≤ 1000000000000 → 0 ≤ l.foldl eaF c
 | [], _, _, _, h, _, _ => h
 | a :: l, c, k, h, h1, h2, h3 => by
  obtain ⟨g0, g1, c0, c1⟩ := xH (h a (Ed ..))
  simp only [DZ] at h3
  rw [Ex]
  have e1 : Dj.wrap (c + a.credits) = c + a.credits := wrap_i64 (by omega) (by omega)
  have : 0 ≤ eaF c a ∧ eaF c a ≤ 60 * ((k + 1 : Nat) : Int) := by
   unfold eaF eaG
   rw [e1]
   cases decide (a.grade > 0) <;> simp only <;> omega
  exact ea_bd l _ (k + 1) (fun x hx => h x (Eg _ hx)) this.1 this.2 (by omega)
theorem CY {l : List AttT} (hl : l.length ≤ 1000000000000) : 0 ≤ (bG l).1 := by
 unfold bG
 cases he : (di l != 0)
 ·exact ea_bd l 0 0 (tI he) (by simp) (by simp) (by omega)
 ·simp
end Go.Vi
open Go Go.Proofs
namespace Go.Vi
set_option maxRecDepth 100000
set_option maxHeartbeats 1000000
theorem gI_put (m : IM) (k v c : Int) : gI (aK m k v) c = if k = c then v else gI m c := by
 unfold gI
 rw [qr]
 split <;> rfl
theorem st_bd : ∀ (l : List AttT) (s : IM × IM) (k : Nat), (∀ a ∈ l, 0 ≤ a.grade ∧ a.grade ≤ 12) → (∀ c, 0 ≤ gI s.1 c ∧ gI s.1 c ≤ k ∧ 0 ≤ gI s.2 c ∧ gI s.2 c ≤ 12) → l.length + k ≤ 1000000000000 →
  ∀ c, 0 ≤ gI (l.foldl stF s).1 c ∧ gI (l.foldl stF s).1 c ≤ 1000000000000 ∧ 0 ≤ gI (l.foldl stF s).2 c ∧ gI (l.foldl stF s).2 c ≤ 12
 | [], s, k, _, h, hk => fun c => by
  have := h c
  simp only [List.foldl_nil, Fp] at *
  omega
 | a :: l, s, k, hl, h, hk => by
  rw [Ex]
  simp only [DZ] at hk
  refine st_bd l _ (k + 1) (fun x hx => hl x (Eg _ hx)) ?_ (by omega)
  intro c
  have h1 := h c
  have h2 := h a.course
  have h3 := hl a (Ed ..)
  have e1 : Dj.wrap (gI s.1 a.course + 1) = gI s.1 a.course + 1 := wrap_i64 (by omega) (by omega)
  unfold stF
  simp only [gI_put, e1]
  unfold mxI
  (repeat' split) <;> omega
def ea (x : SeenT) : Prop := 0 ≤ x.course ∧ x.course ≤ 4095 ∧ 0 ≤ x.tries ∧ x.tries ≤ 100 ∧ -1 ≤ x.best ∧ x.best ≤ 12 ∧ (0 ≤ x.best ↔ 1 ≤ x.tries)
theorem xF_ok {m1 m2 : IM} (hm : ∀ c, 0 ≤ gI m1 c ∧ gI m1 c ≤ 1000000000000 ∧ 0 ≤ gI m2 c ∧ gI m2 c ≤ 12) : ∀ (l : List Int) (x : SeenT), ea x → ea (l.foldl (xF m1 m2) x)
 | [], _, h => h
 | c :: l, x, h => by
  rw [Ex]
  refine xF_ok hm l _ ?_
  have h1 := hm c
  obtain ⟨a1, a2, a3, a4, a5, a6, a7⟩ := h
  unfold xF
  cases hb : decide (gI m1 c > 0)
  ·exact ⟨a1, a2, a3, a4, a5, a6, a7⟩
  ·simp only [decide_eq_true_eq] at hb
   have e1 : Dj.wrap (x.tries + gI m1 c) = x.tries + gI m1 c := wrap_i64 (by omega) (by omega)
   simp only [cond_true]
   unfold ea
   simp only [e1]
   unfold mnI mxI
   refine ⟨a1, a2, ?_, ?_, ?_, ?_, ?_⟩ <;> (repeat' split) <;> omega
theorem Ah {m : SM} {k : Int} {v : SeenT} (h : ∀ e ∈ m, ea e.2) (hv : ea v) : ∀ e ∈ b7 m k v, ea e.2 := by
 intro e he
 rcases smPut_mem he with rfl | he
 ·exact hv
 ·exact h e he
theorem xJ {w : WorldT} {known term : Int} {m1 m2 : IM} (hm : ∀ c, 0 ≤ gI m1 c ∧ gI m1 c ≤ 1000000000000 ∧ 0 ≤ gI m2 c ∧ gI m2 c ≤ 12) : ∀ (ns : List Int) (s : RSM), (∀ n ∈ ns, 0 ≤ n ∧ n ≤ 4095) → (∀ e ∈ s.2, ea e.2) → ∀ e ∈ (ns.foldl (nbF w known term m1 m2) s).2, ea e.2
 | [], _, _, h => h
 | n :: ns, s, hn, h => by
  rw [Ex]
  refine xJ hm ns _ (fun x hx => hn x (Eg _ hx)) ?_
  have h0 := hn n (Ed ..)
  unfold nbF
  cases decide ((seenOf w known term m1 m2 s.2 n).tries > 0)
  ·exact h
  ·refine Ah h ?_
   unfold seenOf
   refine xF_ok hm _ _ ?_
   unfold ea
   simp only
   omega
theorem xK : ∀ (now : List Int) (s : Int × SM) {s' : Int × SM}, -1 ≤ s.1 → s.1 ≤ 4095 → (∀ e ∈ s.2, ea e.2) → forL snF now s = .inl s' → ∀ e ∈ s'.2, ea e.2
 | [], s, s', _, _, h, he => by simp only [forL, Sum.inl.injEq] at he; subst he; exact h
 | c :: now, s, s', h0, h1, h, he => by
  simp only [forL, snF] at he
  cases hk : Ab s.1 c <;> rw [hk] at he
  ·simp at he
  ·simp only [cond_true] at he
   unfold Ab at hk
   rw [wrap_i64 (by omega) (by omega)] at hk
   simp only [Dl, decide_eq_true_eq] at hk
   refine xK now _ (by simp only; omega) (by simp only; omega) (Ah h ?_) he
   unfold ea
   simp only
   omega
theorem sd {m : SM} (h : SmOk m) : (smV m).Pairwise fun a b => a.course ≠ b.course := by
 have e : (smV m).map SeenT.course = m.map (·.1) := by
  unfold smV
  rw [List.map_map]
  exact List.map_congr_left fun x hx => h.2 x hx
 have := h.1
 rw [← e] at this
 exact List.pairwise_map.1 this
theorem se {m : SM} (h : SmOk m) : ((smV m).mergeSort leS).Pairwise fun a b => a.course < b.course := by
 have h1 := List.pairwise_mergeSort lu lv (smV m)
 have h2 : ((smV m).mergeSort leS).Pairwise fun a b => a.course ≠ b.course := ((FE _ _).pairwise_iff (fun {a b} h e => h e.symm)).2 (sd h)
 refine (h1.and h2).imp ?_
 intro a b ⟨ha, hb⟩
 rw [lr] at ha
 omega
theorem Ai : ∀ (l : List SeenT) (last : Int), (∀ x ∈ l, ea x ∧ last < x.course) → (l.Pairwise fun a b => a.course < b.course) → ∃ s, forL ftF l last = .inl s
 | [], last, _, _ => ⟨last, rfl⟩
 | x :: l, last, h, hp => by
  rw [GA] at hp
  obtain ⟨⟨a1, a2, a3, a4, a5, a6, a7⟩, hx⟩ := h x (Ed ..)
  have hb : oG last x = false := by
   unfold oG
   have : decide (x.best ≥ 0) = decide (x.tries ≥ 1) := by
    rw [decide_eq_decide]; exact a7
   rw [this]
   simp
   omega
  simp only [forL, ftF, hb, cond_false]
  exact Ai l x.course (fun y hy => ⟨(h y (Eg _ hy)).1, hp.1 y hy⟩) hp.2
theorem CZ {m : SM} {e n d : Int} (hm : SmOk m) (hs : ∀ x ∈ m, ea x.2) (he : 0 ≤ e ∧ e ≤ 10000) (hd : iZ n d = true) : lX ((smV m).mergeSort leS) e n d = 0 := by
 obtain ⟨s, h⟩ := Ai ((smV m).mergeSort leS) (-1) (fun x hx => by
  have hx' := (FE _ _).mem_iff.1 hx
  obtain ⟨y, hy, rfl⟩ := List.mem_map.1 hx'
  have := hs y hy
  exact ⟨this, by have := this.1; omega⟩) (se hm)
 unfold lX
 rw [h, hd]
 have : (!(decide (e ≥ 0) && decide (e ≤ 10000))) = false := by simp; omega
 simp [this]
end Go.Vi
open Go Go.Proofs
namespace Go.Vi
set_option maxRecDepth 100000
set_option maxHeartbeats 1000000
theorem C0 {w : WorldT} (hk : w.ok) {st term known : Int} {now : List Int} {s : Int × SM} (hsn : snR now = .inl s) {rs : List ReadT} {e n d : Int} (he : 0 ≤ e ∧ e ≤ 10000) (hd : iZ n d = true) :
  lX ((smV (ox w known term (ek w known st term) rs s.2).2).mergeSort leS) e n d = 0 := by
 refine CZ (bE hsn) ?_ he hd
 unfold ox
 have h1 := ow hk (known := known) (st := st) (term := term)
 refine xJ (fun c => ?_) _ _ ng (xK now (-1, []) (by simp) (by simp) (by simp) hsn)
 refine st_bd (ek w known st term) ([], []) 0 (fun a ha => ?_) (fun c => by simp [gI, imGet]) (by omega) c
 have := (Ag hk (recA_perm.mem_iff.1 ha)).1
 simp only [rV, inB, Dl, decide_eq_true_eq] at this
 omega
theorem zz {la : List AttT} {u : Unit} (h : sitX la = .inl u) : (bR la).2.2 = 0 := by
 unfold sitX at h
 split at h
 ·simp at h
 ·split at h
  ·simp at h
  ·rename_i h2; simpa using h2
theorem oJ {w : WorldT} (hw : w.ok0) {st term known : Int} {now : List Int} (h : List Blk) : Ev Dg Γk 15 [.agg w.l, int st, int term, int known, ab (now.map fun n => [vi n])] h (bool true) h := by
 cases ho : (!jC w || decide (((now.map fun n => [vi n]).length : Int) > 10))
 ·have hr := ho
  simp only [EG, Gp, decide_eq_false_iff_not, EW] at hr
  have hk := hw.few hr.1
  have hnow : now.length ≤ 1000 := by omega
  have hN := oC hr.1 known
  have h1 := ow hk (known := known) (st := st) (term := term)
  have hs := fun h => uG hk (st := st) (term := term) (known := known) hnow (by omega) h
  have hro := fun h => rof_ev hk (st := st) (term := term) (known := known) h
  have hlen : al (tj w st term known).1.a := by
   unfold tj
   cases badOf st term
   ·simp only; unfold al; omega
   ·simp [al]
  have hck : ∀ h, Ev Dg Γk 30 [.agg [int (tj w st term known).1.st, ab ((tj w st term known).1.a.map Dk)]] h (int (bo (tj w st term known).1)) h := fun h => DW (fR (r := (tj w st term known).1) hlen h)
  have hbd : ((tj w st term known).2.2 == 0 && bo (tj w st term known).1 != 0) = false := by
   unfold tj
   cases hb : badOf st term
   ·unfold badOf at hb
    simp only [EG, Gp, Dl, decide_eq_true_eq] at hb
    simp only
    rw [nh hk (by omega) (by omega)]; rfl
   ·rfl
  have err : ∀ e : Int, (e != 0) = true → ze w st term known now = m9 e → Ev Dg Γk 15 [.agg w.l, int st, int term, int known, ab (now.map fun n => [vi n])] h (bool true) h := fun e he hE =>
   fi_err lx ho he hro hck hbd (fun h => by have := hs h; rw [hE] at this; exact this) h
  cases hb : (!(decide (st ≥ 0) && decide (st ≤ 19999)) || !(decide (term ≥ 0) && decide (term ≤ 1023)))
  ·cases hsn : snR now with
   | inr u => exact err 150 rfl (by unfold ze tB; rw [hb]; simp only [hsn])
   | inl s =>
    cases hee : ((cnA w known st term).2 != 0)
    ·cases hx : sitX (cnA w known st term).1 with
     | inr e => exact err e (zf hx) (by unfold ze tB; rw [hb]; simp only [hsn, hee, hx])
     | inl u =>
      have hE : ze w st term known now = sitOk ((smV (ox w known term (ek w known st term) (cq w known st term ++ jb term (ek w known st term) ++ [rdN]) s.2).2).mergeSort leS) (mnI (bG (cnA w known st term).1).1 10000) (bR (cnA w known st term).1).1 (bR (cnA w known st term).1).2.1 (ox w known term (ek w known st term) (cq w known st term ++ jb term (ek w known st term) ++ [rdN]) s.2).1 := by
       unfold ze tB; rw [hb]; simp only [hsn, hee, hx]
      have hin : 0 ≤ st ∧ st ≤ 19999 ∧ 0 ≤ term ∧ term ≤ 1023 := by
       simp only [EG, Gp, Dl, decide_eq_true_eq] at hb
       omega
      have hgood : tj w st term known = (⟨st, ek w known st term⟩, cq w known st term, 0) := by
       unfold tj badOf
       have : (!(decide (st ≥ 0) && decide (st ≤ 19999)) || !(decide (term ≥ 0) && decide (term ≤ 1024))) = false := by
        simp only [EG, Gp, Dl, decide_eq_true_eq]
        omega
       rw [this]
      have hchk := nh hk (known := known) (term := term) hin.1 hin.2.1
      rw [hgood] at hro hck
      simp only [hchk] at hro hck
      have hla : (cnA w known st term).1.length ≤ (ek w known st term).length := w7 (ek w known st term) (lG w known term (ek w known st term))
      have hlaS : al (cnA w known st term).1 := by unfold al; omega
      have hrc : wT w ⟨st, ek w known st term⟩ term known = ((cnA w known st term).1, jb term (ek w known st term), 0) := by
       unfold wT ig
       have : (bo ⟨st, ek w known st term⟩ != 0 || !(decide (term ≥ 0) && decide (term ≤ 1023))) = false := by
        rw [hchk]; simp; omega
       rw [this]
       unfold rcX
       simp only
       rw [hee]
      have hcn := fun h => BU hk (r := ⟨st, ek w known st term⟩) (by simp only; omega) (term := term) (known := known) h
      rw [hrc] at hcn
      simp only at hcn
      have hsl : al ((smV (ox w known term (ek w known st term) (cq w known st term ++ jb term (ek w known st term) ++ [rdN]) s.2).2).mergeSort leS) := by
       have := bF (w := w) (known := known) (term := term) (m1 := (aH (ek w known st term)).1) (m2 := (aH (ek w known st term)).2) (ns := ah w.f known) (rs := cq w known st term ++ jb term (ek w known st term) ++ [rdN]) hnow (by omega) hsn
       unfold al
       simp only [List.length_mergeSort, smV, EW]
       unfold ox
       omega
      have hm0 := CY (l := (cnA w known st term).1) (by omega)
      have hmn : 0 ≤ mnI (bG (cnA w known st term).1).1 10000 ∧ mnI (bG (cnA w known st term).1).1 10000 ≤ 10000 := by
       unfold mnI; split <;> omega
      have hf : ∀ h, Ev Dg Γk 58 [.agg [ab (((smV (ox w known term (ek w known st term) (cq w known st term ++ jb term (ek w known st term) ++ [rdN]) s.2).2).mergeSort leS).map Ez), int (mnI (bG (cnA w known st term).1).1 10000), int (bR (cnA w known st term).1).1, int (bR (cnA w known st term).1).2.1]] h (int 0) h := fun h => by
       have := zt (e := mnI (bG (cnA w known st term).1).1 10000) hsl (qx (cnA w known st term).1).1 (qx (cnA w known st term).1).2 h
       rw [C0 hk hsn hmn (CX (by omega) (zz hx))] at this
       exact DW this
      rw [hE] at hs
      exact fi_ok lx ho (r := ek w known st term) (l := (cnA w known st term).1) (by unfold al; omega) hlaS hro hck hs hcn hf (CU (zw _ _)) h
    ·exact err _ hee (by unfold ze tB; rw [hb]; simp only [hsn, hee])
  ·exact err 150 rfl (by unfold ze; rw [hb])
 ·exact fi_out lx ho h
end Go.Vi
