/- RecordFits: part of the proof: contracts of the functions that the law reaches, and the law. No conditions beyond the given statement's own. -/
import Derived.Test.YtilebidefogaiaaGreatDoorW5
open Go.IntKind renaming i64 → Dj, wrap → Dr, u64 → Fu
open Go.Proofs.Tryz renaming prog → Dg, f19 → EE, f108 → ER, f158 → Gk, f54 → EV
open List renaming map → De, length → Dh, getElem?_eq_some_iff → Dm, foldl → DJ, length_append → E7, mem_map → DL, mergeSort → Ey, mem_cons → D2, length_cons → DZ, map_cons → En
open Go.Vi.CourseT renaming row → Dt
open Go.Vi.SysT renaming row → Dw
open Go.Vi.FactT renaming row → Ds
open Go.Vi.CW renaming cast → DN, symX → DP, each → Hg
open Go.Exit renaming normal → DE, ret → EY, exit → Ea
open Go.Vi.WorldT renaming l → DY
open Go.Vi.Ev renaming glob0 → DW, castH → Dv, sym0 → DR
open Go.Vi.D renaming agg → EB, mapRL → D6, mapR → DC, tup → Em, fn → EA
open Go.Vi.AttT renaming row → Dk
open Go.Vi.Blk renaming inn → Dy
open Go.Vi.SeenT renaming row → Ez
open Int renaming tdiv → Ga, natAbs → D5
open Nat renaming gcd → Eu
open Go.LoopState renaming ready → DM, busy → ES, exhausted → Ee
open Go.Fn renaming func → DG
open Go Go.Proofs
namespace Go.Vi
set_option maxRecDepth 100000
set_option maxHeartbeats 4000000
abbrev Da : Blk := .var [dt, int 0, int 0, int 0]
abbrev snS (w : WorldT) (st term known : Int) (ns : List (List Dp)) (last : Int) (sm : SM) (i : Int) : AS :=
 { t := mkT 190 0 [(1, int st), (2, int term), (3, int known), (5, .ref (.ptr 0 0)), (10, .ref (.ptr 1 0)), (11, dt), (12, int 0), (13, .ref (.mp 2)), (14, int last), (42, ab ns), (43, int ns.length), (44, int i)], h := [.var w.l, Da, smB sm], m := [] }
abbrev snE (w : WorldT) (st term known : Int) (sm : SM) : AS :=
 { t := mkT 190 0 [(1, int st), (2, int term), (3, int known), (5, .ref (.ptr 0 0)), (10, .ref (.ptr 1 0)), (11, dt), (12, int 0), (13, .ref (.mp 2))], h := [.var w.l, Da, smB sm], m := [] }
abbrev snX (w : WorldT) : Unit → Exit × AS := fun _ => (.ret, { t := mkT 190 0 [(10, .ref (.ptr 1 0)), (11, dt), (12, int 150)], h := [.var w.l, Da], m := [] })
def Ab (last c : Int) : Bool := decide (c ≥ Dj.wrap (last + 1)) && decide (c ≤ 4095)
def snF (c : Int) (s : Int × SM) : (Int × SM) ⊕ Unit := bif Ab s.1 c then .inl (c, b7 s.2 c ⟨c, 0, -1, true⟩) else .inr ()
theorem bn_t {b : Bool} (h : (!b) = false) : b = true := by cases b <;> simp_all
theorem bn_f {b : Bool} (h : (!b) = true) : b = false := by cases b <;> simp_all
theorem upS {h : List Blk} {m : SM} {c : Int} {v : SeenT} (hb : h[2]? = some (smB m)) : ap Dg h 117 (.ref (.mp 2)) (int c) (seD v) = some (h.set 2 (smB (b7 m c v))) := wJ (kt := 3) (et := 115) (by kernel_rfl) (by kernel_rfl) hb
theorem lkS {h : List Blk} {m : SM} {c : Int} (hb : h[2]? = some (smB m)) : ar Dg h 117 (.ref (.mp 2)) (int c) false = some (seD ((jB m c).getD uy)) := uz (kt := 3) (et := 115) (by kernel_rfl) (by kernel_rfl) (by kernel_rfl) hb
noncomputable abbrev jc (w : WorldT) (sm : SM) : List Blk := [.var [ab (De Dt w.c), ab w.p, ab (De Dw w.s), ab (De Ds w.f)], .var [nq, int 0, int 0, int 0], .map (aQ 0 sm) (Dh sm)]
theorem BW {w : WorldT} {st term known : Int} {ns : List (List Dp)} {last c : Int} {sm : SM} {i : Nat} (hr : aM (i : Int) ns [vi c] 1) (hlt : decide ((i : Int) < (ns.length : Int)) = true) (hw : Dj.wrap ((i : Int) + 1) = ((i + 1 : Nat) : Int)) : (CW Dg Γk [] false (sub EE 0) (snS w st term known ns last sm i) (ad (fun s : Int × SM => snS w st term known ns s.1 s.2 ((i + 1 : Nat) : Int)) (snX w) (snF c (last, sm))).1 (ad (fun s : Int × SM => snS w st term known ns s.1 s.2 ((i + 1 : Nat) : Int)) (snX w) (snF c (last, sm))).2) := by
 cases hc0 : !(decide (c ≥ Dr Dj (last + 1)) && decide (c ≤ 4095))
 ·let v0 := Dh (b7 sm c { course := c, tries := 0, best := -1, now := true })
  refine DN (DP (s' := { t := mkT 190 0 [(1, int st), (2, int term), (3, int known), (5, .ref (.ptr 0 0)), (10, .ref (.ptr 1 0)), (11, nq), (12, int 0), (13, .ref (.mp 2)), (14, int c), (42, ab ns), (43, int (↑(Dh ns) : Int)), (44, int (Dr Dj ((↑i : Int) + 1)))], h := [.var [ab (De Dt w.c), ab w.p, ab (De Dw w.s), ab (De Ds w.f)], .var [nq, int 0, int 0, int 0], .map (aQ 0 (b7 sm c { course := c, tries := 0, best := -1, now := true })) v0], m := [] }) (e := DE) pok [.st (.mask [1, 2, 3, 5, 10, 11, 12, 13, 14, 42, 43, 44])] [.b true, .row [vi c], .val (bool (decide (c ≥ Dr Dj (last + 1)) && decide (c ≤ 4095))), .b false, .oh 10055 D.any [.var (DY w), Da, smB (b7 sm c { course := c, tries := 0, best := -1, now := true })]] (by kernel_rfl) (.c hlt (.c hr (.c (DW (Γ' := Γk) (@aO c (Dr Dj (last + 1)) 4095 (jc w sm))) (.c hc0 (.c (show ap Dg (jc w sm) 117 (.ref (.mp 2)) (int c) (EB [int c, int 0, int (-1), bool true]) = some [.var (DY w), .var [nq, int 0, int 0, int 0], .map (aQ 0 (b7 sm c { course := c, tries := 0, best := -1, now := true })) v0] from (by subst v0; first | assumption | rfl | exact upS (v := ⟨c, 0, -1, true⟩) rfl | exact bB)) .n)))))) ?_ ?_ <;> subst v0 <;> (first | (have hh : Ab last c = true := bn_t hc0; simp only [snF, hh, cond_true, ad, hw]; first | done | rfl) | (have hh : Ab last c = false := bn_f hc0; simp only [snF, hh, cond_false, ad]; first | done | rfl))
 ·refine DN (DP (s' := { t := mkT 190 0 [(10, .ref (.ptr 1 0)), (11, nq), (12, int 150)], h := [.var [ab (De Dt w.c), ab w.p, ab (De Dw w.s), ab (De Ds w.f)], .var [nq, int 0, int 0, int 0]], m := [] }) (e := EY) pok [.st (.mask [10, 11, 12]), .st (.trim 2)] [.b true, .row [vi c], .val (bool (decide (c ≥ Dr Dj (last + 1)) && decide (c ≤ 4095))), .b true] (by kernel_rfl) (.c hlt (.c hr (.c (DW (Γ' := Γk) (@aO c (Dr Dj (last + 1)) 4095 (jc w sm))) (.c hc0 .n))))) ?_ ?_ <;> (first | (have hh : Ab last c = true := bn_t hc0; simp only [snF, hh, cond_true, ad, hw]; first | done | rfl) | (have hh : Ab last c = false := bn_f hc0; simp only [snF, hh, cond_false, ad]; first | done | rfl))
theorem BX {w : WorldT} {st term known : Int} {ns : List (List Dp)} {last : Int} {sm : SM} {i : Nat} (hlt : decide ((i : Int) < (ns.length : Int)) = false) : (CW Dg Γk [] false (sub EE 0) (snS w st term known ns last sm i) (.exit 0) (snE w st term known sm)) := by
 exact DN (DP (s' := { t := mkT 190 0 [(1, int st), (2, int term), (3, int known), (5, .ref (.ptr 0 0)), (10, .ref (.ptr 1 0)), (11, nq), (12, int 0), (13, .ref (.mp 2))], h := [.var [ab (De Dt w.c), ab w.p, ab (De Dw w.s), ab (De Ds w.f)], .var [nq, int 0, int 0, int 0], .map (aQ 0 sm) (Dh sm)], m := [] }) (e := Ea 0) pok [.st (.mask [1, 2, 3, 5, 10, 11, 12, 13])] [.b false] (by kernel_rfl) (.c hlt .n)) (by rfl) (by rfl)
def snR (now : List Int) : (Int × SM) ⊕ Unit := forL snF now (-1, [])
def BZ (w : WorldT) (st term known : Int) (now : List Int) : Exit × AS := cG (.exit 0) (fun s : Int × SM => snE w st term known s.2) (snX w) (snR now)
theorem sn_cw {w : WorldT} {st term known : Int} {now : List Int} (hl : al now) :
  CW Dg Γk [] false (.loop (sub EE 0)) (snS w st term known (now.map fun n => [vi n]) (-1) [] 0) (BZ w st term known now).1 (BZ w st term known now).2 := by
 refine Hg now snF (fun i s => snS w st term known (now.map fun n => [vi n]) s.1 s.2 (i : Int)) (.exit 0) (fun s => snE w st term known s.2) (snX w) (fun _ _ => True) (by simp) (fun _ => by simp []) ?_ ?_ (-1, []) trivial
 ·intro i c s hc _
  have hi := (Dm.1 hc).1
  exact ⟨fun _ _ => trivial, BW (rowAt (row := fun n => [vi n]) hc rfl) (lt_len (fun n => [vi n]) hi) (wrap_succ hi hl)⟩
 ·intro s _
  exact BX (cw (fun n => [vi n]) now)
abbrev siK (w : WorldT) (known : Int) (e : Nat) : Blk := .var [.ref (.vec 4 e), ab (w.c.map Dt), ab w.p, ab (w.s.map Dw), ab (w.f.map Ds), int known]
abbrev siH (w : WorldT) (known st : Int) (sm : SM) (rs : List ReadT) (e : Nat) (as_ : List (List Dp)) (m1 m2 : IM) : List Blk :=
 [.var w.l, Da, smB sm, siK w known e, .vec (ai (rdR rs)) e 5, .var [int st, ab as_], imB m1, imB m2]
abbrev stS (w : WorldT) (known st term : Int) (sm : SM) (rs : List ReadT) (cs as_ : List (List Dp)) (m1 m2 : IM) (i : Int) : AS :=
 { t := mkT 190 0 [(2, int term), (10, .ref (.ptr 1 0)), (11, dt), (13, .ref (.mp 2)), (17, .ref (.ptr 3 0)), (19, ab cs), (20, .ref (.mp 6)), (21, .ref (.mp 7)), (80, ab as_), (81, int as_.length), (82, int i)], h := siH w known st sm rs 0 as_ m1 m2, m := [] }
abbrev stE (w : WorldT) (known st term : Int) (sm : SM) (rs : List ReadT) (cs as_ : List (List Dp)) (m1 m2 : IM) : AS :=
 { t := mkT 190 0 [(2, int term), (10, .ref (.ptr 1 0)), (11, dt), (13, .ref (.mp 2)), (17, .ref (.ptr 3 0)), (19, ab cs), (20, .ref (.mp 6)), (21, .ref (.mp 7))], h := siH w known st sm rs 0 as_ m1 m2, m := [] }
def gI (m : IM) (c : Int) : Int := (imGet m c).getD 0
def stF (s : IM × IM) (a : AttT) : IM × IM := (aK s.1 a.course (Dj.wrap (gI s.1 a.course + 1)), aK s.2 a.course (mxI (gI s.2 a.course) a.grade))
theorem lk6 {h : List Blk} {m : IM} {c : Int} (hb : h[6]? = some (imB m)) : ar Dg h 125 (.ref (.mp 6)) (int c) false = some (int (gI m c)) := mX (kt := 3) (et := 3) (by kernel_rfl) (by kernel_rfl) (by kernel_rfl) hb
theorem lk7 {h : List Blk} {m : IM} {c : Int} (hb : h[7]? = some (imB m)) : ar Dg h 125 (.ref (.mp 7)) (int c) false = some (int (gI m c)) := mX (kt := 3) (et := 3) (by kernel_rfl) (by kernel_rfl) (by kernel_rfl) hb
theorem up6 {h : List Blk} {m : IM} {c v : Int} (hb : h[6]? = some (imB m)) : ap Dg h 125 (.ref (.mp 6)) (int c) (int v) = some (h.set 6 (imB (aK m c v))) := ib (kt := 3) (et := 3) (by kernel_rfl) (by kernel_rfl) hb
theorem up7 {h : List Blk} {m : IM} {c v : Int} (hb : h[7]? = some (imB m)) : ap Dg h 125 (.ref (.mp 7)) (int c) (int v) = some (h.set 7 (imB (aK m c v))) := ib (kt := 3) (et := 3) (by kernel_rfl) (by kernel_rfl) hb
theorem B0 {w : WorldT} {known st term : Int} {sm : SM} {rs : List ReadT} {cs as_ : List (List Dp)} {m1 m2 : IM} {a : AttT} {i : Nat} (hr : aM (i : Int) as_ a.row 5) (hlt : decide ((i : Int) < (as_.length : Int)) = true) (hw : Dj.wrap ((i : Int) + 1) = ((i + 1 : Nat) : Int)) : (CW Dg Γk [] false (sub EE 1) (stS w known st term sm rs cs as_ m1 m2 i) .normal (stS w known st term sm rs cs as_ (stF (m1, m2) a).1 (stF (m1, m2) a).2 ((i + 1 : Nat) : Int))) := by
 let v0 : List D := [.ref (.vec 4 0), ab (De Dt w.c), ab w.p, ab (De Dw w.s), ab (De Ds w.f), int known]
 let v3 : List D := [int a.course, int a.term, int a.grade, int a.campus, int a.credits]
 let v2 : List Blk := [.var (DY w), .var [nq, int 0, int 0, int 0], .map (aQ 0 sm) (Dh sm), .var v0, .vec (ai (rdR rs)) 0 5, .var [int st, ab as_], .map (aq 0 m1) (Dh m1), .map (aq 0 m2) (Dh m2), .var v3]
 let v4 := Dh (stF (m1, m2) a).fst
 let v1 : List Blk := [.var (DY w), .var [nq, int 0, int 0, int 0], .map (aQ 0 sm) (Dh sm), .var v0, .vec (ai (rdR rs)) 0 5, .var [int st, ab as_], .map (aq 0 (stF (m1, m2) a).fst) v4, .map (aq 0 m2) (Dh m2), .var v3]
 let v5 := Dh (stF (m1, m2) a).snd
 refine DN (DP (s' := { t := mkT 190 0 [(2, int term), (10, .ref (.ptr 1 0)), (11, nq), (13, .ref (.mp 2)), (17, .ref (.ptr 3 0)), (19, ab cs), (20, .ref (.mp 6)), (21, .ref (.mp 7)), (80, ab as_), (81, int (↑(Dh as_) : Int)), (82, int (Dr Dj ((↑i : Int) + 1)))], h := [.var [ab (De Dt w.c), ab w.p, ab (De Dw w.s), ab (De Ds w.f)], .var [nq, int 0, int 0, int 0], .map (aQ 0 sm) (Dh sm), .var v0, .vec (ai (rdR rs)) 0 5, .var [int st, ab as_], .map (aq 0 (stF (m1, m2) a).fst) v4, .map (aq 0 (stF (m1, m2) a).snd) v5], m := [] }) (e := DE) pok [.st (.mask [2, 10, 11, 13, 17, 19, 20, 21, 80, 81, 82]), .st (.trimV 8)] [.b true, .row (Dk a), .ov 89 (int (gI m1 a.course)), .oh 10086 D.any (siH w known st sm rs 0 as_ (stF (m1, m2) a).fst m2 ++ [.var (De D.p (Dk a))]), .ov 97 (int (gI m2 a.course)), .oh 10091 D.any (siH w known st sm rs 0 as_ (stF (m1, m2) a).fst (stF (m1, m2) a).snd ++ [.var (De D.p (Dk a))])] (by kernel_rfl) (.c hlt (.c hr (.c (show ar Dg v2 125 (.ref (.mp 6)) (int a.course) false = some (int (gI m1 a.course)) from ?_) (.c (show ap Dg v2 125 (.ref (.mp 6)) (int a.course) (int (Dr Dj (gI m1 a.course + 1))) = some v1 from ?_) (.c (show ar Dg v1 125 (.ref (.mp 7)) (int a.course) false = some (int (gI m2 a.course)) from ?_) (.c (show ap Dg v1 125 (.ref (.mp 7)) (int a.course) (int (if true = true then if a.grade > gI m2 a.course then a.grade else gI m2 a.course else if a.grade < gI m2 a.course then a.grade else gI m2 a.course)) = some [.var (DY w), .var [nq, int 0, int 0, int 0], .map (aQ 0 sm) (Dh sm), .var v0, .vec (ai (rdR rs)) 0 5, .var [int st, ab as_], .map (aq 0 (stF (m1, m2) a).fst) v4, .map (aq 0 (stF (m1, m2) a).snd) v5, .var v3] from ?_) (.c (show Dy 8 (.var (DY w)) = true from rfl) (.c (show Dy 8 (.var [nq, int 0, int 0, int 0]) = true from rfl) (.c (show Dy 8 (.map (aQ 0 sm) (Dh sm)) = true from ?_) (.c (show Dy 8 (.var v0) = true from rfl) (.c (show Dy 8 (.vec (ai (rdR rs)) 0 5) = true from ?_) (.c (show Dy 8 (.var [int st, ab as_]) = true from rfl) (.c (show Dy 8 (.map (aq 0 (stF (m1, m2) a).fst) v4) = true from ?_) (.c (show Dy 8 (.map (aq 0 (stF (m1, m2) a).snd) v5) = true from ?_) .n))))))))))))))) (by subst v0 v3 v2 v4 v1 v5; first | rfl | (simp only [hw]; rfl)) (by subst v0 v3 v2 v4 v1 v5; first | rfl | (simp only [hw]; rfl)) <;> subst v0 v3 v2 v4 v1 v5 <;> (first | assumption | rfl | exact lk6 rfl | exact lk7 rfl | exact up6 rfl | exact up7 rfl | exact aU | exact bB | exact af)
theorem B1 {w : WorldT} {known st term : Int} {sm : SM} {rs : List ReadT} {cs as_ : List (List Dp)} {m1 m2 : IM} {i : Nat} (hlt : decide ((i : Int) < (as_.length : Int)) = false) : (CW Dg Γk [] false (sub EE 1) (stS w known st term sm rs cs as_ m1 m2 i) (.exit 2) (stE w known st term sm rs cs as_ m1 m2)) := by
 exact DN (DP (s' := { t := mkT 190 0 [(2, int term), (10, .ref (.ptr 1 0)), (11, nq), (13, .ref (.mp 2)), (17, .ref (.ptr 3 0)), (19, ab cs), (20, .ref (.mp 6)), (21, .ref (.mp 7))], h := [.var [ab (De Dt w.c), ab w.p, ab (De Dw w.s), ab (De Ds w.f)], .var [nq, int 0, int 0, int 0], .map (aQ 0 sm) (Dh sm), .var [.ref (.vec 4 0), ab (De Dt w.c), ab w.p, ab (De Dw w.s), ab (De Ds w.f), int known], .vec (ai (rdR rs)) 0 5, .var [int st, ab as_], .map (aq 0 m1) (Dh m1), .map (aq 0 m2) (Dh m2)], m := [] }) (e := Ea 2) pok [.st (.mask [2, 10, 11, 13, 17, 19, 20, 21])] [.b false] (by kernel_rfl) (.c hlt .n)) (by rfl) (by rfl)
def aH (l : List AttT) : IM × IM := l.foldl stF ([], [])
theorem st_cw {w : WorldT} {known st term : Int} {sm : SM} {rs : List ReadT} {cs : List (List Dp)} {l : List AttT} (hl : al l) :
  CW Dg Γk [] false (.loop (sub EE 1)) (stS w known st term sm rs cs (l.map Dk) [] [] 0) (.exit 2) (stE w known st term sm rs cs (l.map Dk) (aH l).1 (aH l).2) := by
 have := Hg (P := Dg) (Γ := Γk) (h0 := []) (rd := false) (c := sub EE 1) (σ := IM × IM) (ρ := Empty) l (fun a s => .inl (stF s a))
  (fun i s => stS w known st term sm rs cs (l.map Dk) s.1 s.2 (i : Int)) (.exit 2) (fun s => stE w known st term sm rs cs (l.map Dk) s.1 s.2) (fun r => r.elim) (fun _ _ => True) (by simp) (fun r => r.elim) ?_ ?_ ([], []) trivial
 ·rw [bh] at this
  exact this
 ·intro i a s ha _
  have hi := (Dm.1 ha).1
  exact ⟨fun _ _ => trivial, B0 (rowAt ha rfl) (lt_len Dk hi) (wrap_succ hi hl)⟩
 ·intro s _
  exact B1 (cw Dk l)
end Go.Vi
open Go Go.Proofs
namespace Go.Vi
set_option maxRecDepth 100000
set_option maxHeartbeats 4000000
def xF (m1 m2 : IM) (x : SeenT) (c : Int) : SeenT := bif decide (gI m1 c > 0) then ⟨x.course, mnI (Dj.wrap (x.tries + gI m1 c)) 100, mxI x.best (gI m2 c), x.now⟩ else x
abbrev sqS (w : WorldT) (known st term : Int) (sm : SM) (rs : List ReadT) (ep : Nat) (cs as_ ns es : List (List Dp)) (m1 m2 : IM) (n : Int) (i : Int) (x : SeenT) (k : Int) : AS :=
 { t := mkT 190 0 [(2, int term), (10, .ref (.ptr 1 0)), (11, dt), (13, .ref (.mp 2)), (17, .ref (.ptr 3 0)), (19, ab cs), (20, .ref (.mp 6)), (21, .ref (.mp 7)), (25, int n), (26, .ref (.ptr 8 0)), (102, ab ns), (103, int ns.length), (104, int i), (116, ab es), (117, int es.length), (118, int k)], h := siH w known st sm rs ep as_ m1 m2 ++ [.var (x.row.map .p)], m := [] }
abbrev sqE (w : WorldT) (known st term : Int) (sm : SM) (rs : List ReadT) (ep : Nat) (cs as_ ns : List (List Dp)) (m1 m2 : IM) (n : Int) (i : Int) (x : SeenT) : AS :=
 { t := mkT 190 0 [(2, int term), (10, .ref (.ptr 1 0)), (11, dt), (13, .ref (.mp 2)), (17, .ref (.ptr 3 0)), (19, ab cs), (20, .ref (.mp 6)), (21, .ref (.mp 7)), (25, int n), (26, .ref (.ptr 8 0)), (102, ab ns), (103, int ns.length), (104, int i)], h := siH w known st sm rs ep as_ m1 m2 ++ [.var (x.row.map .p)], m := [] }
theorem B2 {w : WorldT} {known st term : Int} {sm : SM} {rs : List ReadT} {cs as_ ns es : List (List Dp)} {m1 m2 : IM} {n i c : Int} {x : SeenT} {k : Nat} (hr : aM (k : Int) es [vi c] 1) (hlt : decide ((k : Int) < (es.length : Int)) = true) (hw : Dj.wrap ((k : Int) + 1) = ((k + 1 : Nat) : Int)) : (CW Dg Γk [] false (sub EE 3) (sqS w known st term sm rs 1 cs as_ ns es m1 m2 n i x k) .normal (sqS w known st term sm rs 1 cs as_ ns es m1 m2 n i (xF m1 m2 x c) ((k + 1 : Nat) : Int))) := by
 cases hc0 : decide (gI m1 c > 0)
 ·let v0 : List D := [.ref (.vec 4 1), ab (De Dt w.c), ab w.p, ab (De Dw w.s), ab (De Ds w.f), int known]
  refine DN (DP (s' := { t := mkT 190 0 [(2, int term), (10, .ref (.ptr 1 0)), (11, nq), (13, .ref (.mp 2)), (17, .ref (.ptr 3 0)), (19, ab cs), (20, .ref (.mp 6)), (21, .ref (.mp 7)), (25, int n), (26, .ref (.ptr 8 0)), (102, ab ns), (103, int (↑(Dh ns) : Int)), (104, int i), (116, ab es), (117, int (↑(Dh es) : Int)), (118, int (Dr Dj ((↑k : Int) + 1)))], h := [.var [ab (De Dt w.c), ab w.p, ab (De Dw w.s), ab (De Ds w.f)], .var [nq, int 0, int 0, int 0], .map (aQ 0 sm) (Dh sm), .var v0, .vec (ai (rdR rs)) 1 5, .var [int st, ab as_], .map (aq 0 m1) (Dh m1), .map (aq 0 m2) (Dh m2), .var [int x.course, int x.tries, int x.best, bool x.now]], m := [] }) (e := DE) pok [.st (.mask [2, 10, 11, 13, 17, 19, 20, 21, 25, 26, 102, 103, 104, 116, 117, 118])] [.b true, .row [vi c], .ov 124 (int (gI m1 c)), .b false] (by kernel_rfl) (.c hlt (.c hr (.c (show ar Dg [.var (DY w), .var [nq, int 0, int 0, int 0], .map (aQ 0 sm) (Dh sm), .var v0, .vec (ai (rdR rs)) 1 5, .var [int st, ab as_], .map (aq 0 m1) (Dh m1), .map (aq 0 m2) (Dh m2), .var [int x.course, int x.tries, int x.best, bool x.now]] 125 (.ref (.mp 6)) (int c) false = some (int (gI m1 c)) from (by subst v0; first | assumption | rfl | exact lk6 rfl | exact lk7 rfl)) (.c hc0 .n))))) ?_ ?_ <;> subst v0 <;> (first | rfl | (have hh : decide (gI m1 c > 0) = true := hc0; simp only [hw, xF, hh, cond_true]; first | done | rfl) | (have hh : decide (gI m1 c > 0) = false := hc0; simp only [hw, xF, hh, cond_false]; first | done | rfl))
 ·let v0 : List D := [.ref (.vec 4 1), ab (De Dt w.c), ab w.p, ab (De Dw w.s), ab (De Ds w.f), int known]
  let v1 : List Blk := [.var (DY w), .var [nq, int 0, int 0, int 0], .map (aQ 0 sm) (Dh sm), .var v0, .vec (ai (rdR rs)) 1 5, .var [int st, ab as_], .map (aq 0 m1) (Dh m1), .map (aq 0 m2) (Dh m2), .var [int x.course, int x.tries, int x.best, bool x.now]]
  refine DN (DP (s' := { t := mkT 190 0 [(2, int term), (10, .ref (.ptr 1 0)), (11, nq), (13, .ref (.mp 2)), (17, .ref (.ptr 3 0)), (19, ab cs), (20, .ref (.mp 6)), (21, .ref (.mp 7)), (25, int n), (26, .ref (.ptr 8 0)), (102, ab ns), (103, int (↑(Dh ns) : Int)), (104, int i), (116, ab es), (117, int (↑(Dh es) : Int)), (118, int (Dr Dj ((↑k : Int) + 1)))], h := [.var [ab (De Dt w.c), ab w.p, ab (De Dw w.s), ab (De Ds w.f)], .var [nq, int 0, int 0, int 0], .map (aQ 0 sm) (Dh sm), .var v0, .vec (ai (rdR rs)) 1 5, .var [int st, ab as_], .map (aq 0 m1) (Dh m1), .map (aq 0 m2) (Dh m2), .var [int x.course, int (if false = true then if 100 > Dr Dj (x.tries + gI m1 c) then 100 else Dr Dj (x.tries + gI m1 c) else if 100 < Dr Dj (x.tries + gI m1 c) then 100 else Dr Dj (x.tries + gI m1 c)), int (if true = true then if gI m2 c > x.best then gI m2 c else x.best else if gI m2 c < x.best then gI m2 c else x.best), bool x.now]], m := [] }) (e := DE) pok [.st (.mask [2, 10, 11, 13, 17, 19, 20, 21, 25, 26, 102, 103, 104, 116, 117, 118])] [.b true, .row [vi c], .ov 124 (int (gI m1 c)), .b true, .ov 130 (int (gI m1 c)), .ov 138 (int (gI m2 c))] (by kernel_rfl) (.c hlt (.c hr (.c (show ar Dg v1 125 (.ref (.mp 6)) (int c) false = some (int (gI m1 c)) from (by subst v0 v1; first | assumption | rfl | exact lk6 rfl | exact lk7 rfl)) (.c hc0 (.c (show ar Dg v1 125 (.ref (.mp 6)) (int c) false = some (int (gI m1 c)) from (by subst v0 v1; first | assumption | rfl | exact lk6 rfl | exact lk7 rfl)) (.c (show ar Dg [.var (DY w), .var [nq, int 0, int 0, int 0], .map (aQ 0 sm) (Dh sm), .var v0, .vec (ai (rdR rs)) 1 5, .var [int st, ab as_], .map (aq 0 m1) (Dh m1), .map (aq 0 m2) (Dh m2), .var [int x.course, int (if false = true then if 100 > Dr Dj (x.tries + gI m1 c) then 100 else Dr Dj (x.tries + gI m1 c) else if 100 < Dr Dj (x.tries + gI m1 c) then 100 else Dr Dj (x.tries + gI m1 c)), int x.best, bool x.now]] 125 (.ref (.mp 7)) (int c) false = some (int (gI m2 c)) from (by subst v0 v1; first | assumption | rfl | exact lk6 rfl | exact lk7 rfl)) .n))))))) ?_ ?_ <;> subst v0 v1 <;> (first | rfl | (have hh : decide (gI m1 c > 0) = true := hc0; simp only [hw, xF, hh, cond_true]; first | done | rfl) | (have hh : decide (gI m1 c > 0) = false := hc0; simp only [hw, xF, hh, cond_false]; first | done | rfl))
theorem B3 {w : WorldT} {known st term : Int} {sm : SM} {rs : List ReadT} {cs as_ ns es : List (List Dp)} {m1 m2 : IM} {n i : Int} {x : SeenT} {k : Nat} (hlt : decide ((k : Int) < (es.length : Int)) = false) : (CW Dg Γk [] false (sub EE 3) (sqS w known st term sm rs 1 cs as_ ns es m1 m2 n i x k) (.exit 6) (sqE w known st term sm rs 1 cs as_ ns m1 m2 n i x)) := by
 exact DN (DP (s' := { t := mkT 190 0 [(2, int term), (10, .ref (.ptr 1 0)), (11, nq), (13, .ref (.mp 2)), (17, .ref (.ptr 3 0)), (19, ab cs), (20, .ref (.mp 6)), (21, .ref (.mp 7)), (25, int n), (26, .ref (.ptr 8 0)), (102, ab ns), (103, int (↑(Dh ns) : Int)), (104, int i)], h := [.var [ab (De Dt w.c), ab w.p, ab (De Dw w.s), ab (De Ds w.f)], .var [nq, int 0, int 0, int 0], .map (aQ 0 sm) (Dh sm), .var [.ref (.vec 4 1), ab (De Dt w.c), ab w.p, ab (De Dw w.s), ab (De Ds w.f), int known], .vec (ai (rdR rs)) 1 5, .var [int st, ab as_], .map (aq 0 m1) (Dh m1), .map (aq 0 m2) (Dh m2), .var [int x.course, int x.tries, int x.best, bool x.now]], m := [] }) (e := Ea 6) pok [.st (.mask [2, 10, 11, 13, 17, 19, 20, 21, 25, 26, 102, 103, 104])] [.b false] (by kernel_rfl) (.c hlt .n)) (by rfl) (by rfl)
theorem sq_cw {w : WorldT} {known st term : Int} {sm : SM} {rs : List ReadT} {cs as_ ns : List (List Dp)} {es : List Int} (he : al es) {m1 m2 : IM} {n i : Int} {x : SeenT} :
  CW Dg Γk [] false (.loop (sub EE 3)) (sqS w known st term sm rs 1 cs as_ ns (es.map fun n => [vi n]) m1 m2 n i x 0) (.exit 6) (sqE w known st term sm rs 1 cs as_ ns m1 m2 n i (es.foldl (xF m1 m2) x)) := by
 have := Hg (P := Dg) (Γ := Γk) (h0 := []) (rd := false) (c := sub EE 3) (σ := SeenT) (ρ := Empty) es (fun c x => .inl (xF m1 m2 x c))
  (fun k x => sqS w known st term sm rs 1 cs as_ ns (es.map fun n => [vi n]) m1 m2 n i x (k : Int)) (.exit 6) (fun x => sqE w known st term sm rs 1 cs as_ ns m1 m2 n i x) (fun r => r.elim) (fun _ _ => True) (by simp) (fun r => r.elim) ?_ ?_ x trivial
 ·rw [bh] at this
  exact this
 ·intro k c x hc _
  have hi := (Dm.1 hc).1
  exact ⟨fun _ _ => trivial, B2 (rowAt (row := fun n => [vi n]) hc rfl) (lt_len (fun n => [vi n]) hi) (wrap_succ hi he)⟩
 ·intro x _
  exact B3 (cw (fun n => [vi n]) es)
end Go.Vi
open Go Go.Proofs
namespace Go.Vi
set_option maxRecDepth 100000
set_option maxHeartbeats 4000000
abbrev nbS (w : WorldT) (known st term : Int) (sm : SM) (rs : List ReadT) (cs as_ ns : List (List Dp)) (m1 m2 : IM) (i : Int) : AS :=
 { t := mkT 190 0 [(2, int term), (10, .ref (.ptr 1 0)), (11, dt), (13, .ref (.mp 2)), (17, .ref (.ptr 3 0)), (19, ab cs), (20, .ref (.mp 6)), (21, .ref (.mp 7)), (102, ab ns), (103, int ns.length), (104, int i)], h := siH w known st sm rs 0 as_ m1 m2, m := [] }
abbrev nbE (w : WorldT) (known st : Int) (sm : SM) (rs : List ReadT) (cs as_ : List (List Dp)) (m1 m2 : IM) : AS :=
 { t := mkT 190 0 [(10, .ref (.ptr 1 0)), (11, dt), (13, .ref (.mp 2)), (17, .ref (.ptr 3 0)), (19, ab cs)], h := siH w known st sm rs 0 as_ m1 m2, m := [] }
abbrev RSM := List ReadT × SM
def seenOf (w : WorldT) (known term : Int) (m1 m2 : IM) (sm : SM) (n : Int) : SeenT := (bA w n term known).2.foldl (xF m1 m2) ⟨n, 0, -1, ((jB sm n).getD uy).now⟩
def nbF (w : WorldT) (known term : Int) (m1 m2 : IM) (s : RSM) (n : Int) : RSM :=
 (s.1 ++ (bA w n term known).1, bif decide ((seenOf w known term m1 m2 s.2 n).tries > 0) then b7 s.2 n (seenOf w known term m1 m2 s.2 n) else s.2)
theorem Db {h : List Blk} {m : SM} {c : Int} {v : SeenT} (hb : h[2]? = some (smB m)) : ap Dg h 117 (.ref (.mp 2)) (int c) (.agg (v.row.map .p)) = some (h.set 2 (smB (b7 m c v))) := upS hb
theorem Dc {h : List Blk} {m : SM} {c : Int} {v : SeenT} (hb : h[2]? = some (smB m)) (hv : (jB m c).getD uy = v) : ar Dg h 117 (.ref (.mp 2)) (int c) false = some (.agg [int v.course, int v.tries, int v.best, bool v.now]) := by
 rw [← hv]; exact lkS hb
noncomputable abbrev fS (w : WorldT) (known : Int) (st : Int) (term : Int) (sm : SM) (rs : List ReadT) (as_ : List (List Dp)) (m1 : IM) (m2 : IM) (n : Int) (v : SeenT) : List Blk := [.var [ab (De Dt w.c), ab w.p, ab (De Dw w.s), ab (De Ds w.f)], .var [nq, int 0, int 0, int 0], .map (aQ 0 sm) (Dh sm), .var [.ref (.vec 4 1), ab (De Dt w.c), ab w.p, ab (De Dw w.s), ab (De Ds w.f), int known], .vec (ai (rdR (rs ++ (bA w n term known).fst))) 1 5, .var [int st, ab as_], .map (aq 0 m1) (Dh m1), .map (aq 0 m2) (Dh m2), .var [int n, int 0, int (-1), bool v.now]]
noncomputable abbrev fT (w : WorldT) (known : Int) (st : Int) (sm : SM) (rs : List ReadT) (as_ : List (List Dp)) (m1 : IM) (m2 : IM) (n : Int) (v : SeenT) : List Blk := [.var [ab (De Dt w.c), ab w.p, ab (De Dw w.s), ab (De Ds w.f)], .var [nq, int 0, int 0, int 0], .map (aQ 0 sm) (Dh sm), .var [.ref (.vec 4 0), ab (De Dt w.c), ab w.p, ab (De Dw w.s), ab (De Ds w.f), int known], .vec (ai (rdR rs)) 0 5, .var [int st, ab as_], .map (aq 0 m1) (Dh m1), .map (aq 0 m2) (Dh m2), .var [int n, int 0, int (-1), bool v.now]]
theorem nb_body {w : WorldT} (hw : w.ok) {known st term : Int} (hN : (ah w.f known).length ≤ 1000) {sm : SM} {rs : List ReadT} {cs as_ ns : List (List Dp)} {m1 m2 : IM} {n : Int} {v : SeenT} (hv : (jB sm n).getD uy = v) {i : Nat} (hr : aM (i : Int) ns [vi n] 1) (hlt : decide ((i : Int) < (ns.length : Int)) = true) (hwr : Dj.wrap ((i : Int) + 1) = ((i + 1 : Nat) : Int)) (hb : rs.length ≤ 900000000) (hs : al (bA w n term known).2) : (CW Dg Γk [] false (sub EE 2) (nbS w known st term sm rs cs as_ ns m1 m2 i) .normal (nbS w known st term (nbF w known term m1 m2 (rs, sm) n).2 (nbF w known term m1 m2 (rs, sm) n).1 cs as_ ns m1 m2 ((i + 1 : Nat) : Int))) := by
 have hl0 := (@sq_cw (w) (known) (st) (term) (sm) (rs ++ (bA w n term known).fst) (cs) (as_) (ns) ((bA w n term known).snd) (hs) (m1) (m2) (n) ((↑i : Int)) ({ course := n, tries := 0, best := -1, now := v.now }))
 cases hc1 : decide ((DJ (xF m1 m2) { course := n, tries := 0, best := -1, now := v.now } (bA w n term known).snd).tries > 0)
 ·let v0 : List D := [.ref (.vec 4 0), ab (De Dt w.c), ab w.p, ab (De Dw w.s), ab (De Ds w.f), int known]
  let v1 : List D := [.ref (.vec 4 1), ab (De Dt w.c), ab w.p, ab (De Dw w.s), ab (De Ds w.f), int known]
  let v2 := EB [int v.course, int v.tries, int v.best, bool v.now]
  refine DN (DP (s' := { t := mkT 190 0 [(2, int term), (10, .ref (.ptr 1 0)), (11, nq), (13, .ref (.mp 2)), (17, .ref (.ptr 3 0)), (19, ab cs), (20, .ref (.mp 6)), (21, .ref (.mp 7)), (102, ab ns), (103, int (↑(Dh ns) : Int)), (104, int (Dr Dj ((↑i : Int) + 1)))], h := [.var [ab (De Dt w.c), ab w.p, ab (De Dw w.s), ab (De Ds w.f)], .var [nq, int 0, int 0, int 0], .map (aQ 0 sm) (Dh sm), .var v0, .vec (ai (rdR (rs ++ (bA w n term known).fst))) 0 5, .var [int st, ab as_], .map (aq 0 m1) (Dh m1), .map (aq 0 m2) (Dh m2)], m := [] }) (e := DE) pok [.st (.mask [2, 10, 11, 13, 17, 19, 20, 21, 102, 103, 104]), .st (.ren 4 0), .st (.trimV 8)] [.b true, .row [vi n], .ov 111 v2, .call (ab (De (fun n => [vi n]) (bA w n term known).snd)) (fS w known st term sm rs as_ m1 m2 n v), .sum [2, 10, 11, 13, 17, 19, 20, 21, 25, 26, 102, 103, 104, 116, 117, 118] (Ea 6) { t := mkT 190 0 [(2, int term), (10, .ref (.ptr 1 0)), (11, nq), (13, .ref (.mp 2)), (17, .ref (.ptr 3 0)), (19, ab cs), (20, .ref (.mp 6)), (21, .ref (.mp 7)), (25, int n), (26, .ref (.ptr 8 0)), (102, ab ns), (103, int (↑(Dh ns) : Int)), (104, int (↑i : Int))], h := [.var (DY w), .var [nq, int 0, int 0, int 0], .map (aQ 0 sm) (Dh sm), .var v1, .vec (ai (rdR (rs ++ (bA w n term known).fst))) 1 5, .var [int st, ab as_], .map (aq 0 m1) (Dh m1), .map (aq 0 m2) (Dh m2), .var [int (DJ (xF m1 m2) { course := n, tries := 0, best := -1, now := v.now } (bA w n term known).snd).course, int (DJ (xF m1 m2) { course := n, tries := 0, best := -1, now := v.now } (bA w n term known).snd).tries, int (DJ (xF m1 m2) { course := n, tries := 0, best := -1, now := v.now } (bA w n term known).snd).best, bool (DJ (xF m1 m2) { course := n, tries := 0, best := -1, now := v.now } (bA w n term known).snd).now]], m := [] }, .b false] (by kernel_rfl) (.c hlt (.c hr (.c (show ar Dg [.var (DY w), .var [nq, int 0, int 0, int 0], .map (aQ 0 sm) (Dh sm), .var v0, .vec (ai (rdR rs)) 0 5, .var [int st, ab as_], .map (aq 0 m1) (Dh m1), .map (aq 0 m2) (Dh m2)] 117 (.ref (.mp 2)) (int n) false = some v2 from ?_) (.c (show Ev Dg Γk 63 [.ref (.ptr 3 0), int n, int term] (fT w known st sm rs as_ m1 m2 n v) (ab (De (fun n => [vi n]) (bA w n term known).snd)) (fS w known st term sm rs as_ m1 m2 n v) from (Dv (Ev.frameX (args := [.ref (.ptr 3 0), int n, int term]) (H := (fT w known st sm rs as_ m1 m2 n v)) [3, 4] (@mW w hw known n term hN rs ?_) (by kernel_rfl) (by kernel_rfl) (by kernel_rfl) ⟨(by subst v0 v1 v2; first | rfl | exact ak _ _ | first | assumption | rfl | omega | exact Dc rfl hv | exact Db rfl | exact aU | exact bB | exact af | exact ae _ _ | exact aG _ _ _ | exact aF _ _ _), trivial⟩ ⟨(by subst v0 v1 v2; first | rfl | exact ak _ _ | first | assumption | rfl | omega | exact Dc rfl hv | exact Db rfl | exact aU | exact bB | exact af | exact ae _ _ | exact aG _ _ _ | exact aF _ _ _), trivial⟩) (by kernel_rfl) (by kernel_rfl))) (.c hl0 (.c hc1 (.c (show De (D6 (au 4 1 0)) (ai (rdR (rs ++ (bA w n term known).fst))) = ai (rdR (rs ++ (bA w n term known).fst)) from ?_) (.c (show De (fun e => (DC (au 4 1 0) e.fst, DC (au 4 1 0) e.snd.fst, e.snd.snd)) (aQ 0 sm) = aQ 0 sm from ?_) (.c (show De (fun e => (DC (au 4 1 0) e.fst, DC (au 4 1 0) e.snd.fst, e.snd.snd)) (aq 0 m1) = aq 0 m1 from ?_) (.c (show De (fun e => (DC (au 4 1 0) e.fst, DC (au 4 1 0) e.snd.fst, e.snd.snd)) (aq 0 m2) = aq 0 m2 from ?_) (.c (show Dy 8 (match 0 == 4 with | true => .vec (ai (rdR (rs ++ (bA w n term known).fst))) 0 5 | false => keepX (au 4 1 0) (.var (DY w))) = true from rfl) (.c (show Dy 8 (match 0 + 1 == 4 with | true => .vec (ai (rdR (rs ++ (bA w n term known).fst))) 0 5 | false => keepX (au 4 1 0) (.var [nq, int 0, int 0, int 0])) = true from rfl) (.c (show Dy 8 (match 0 + 1 + 1 == 4 with | true => .vec (ai (rdR (rs ++ (bA w n term known).fst))) 0 5 | false => keepX (au 4 1 0) (.map (aQ 0 sm) (Dh sm))) = true from ?_) (.c (show Dy 8 (match 0 + 1 + 1 + 1 == 4 with | true => .vec (ai (rdR (rs ++ (bA w n term known).fst))) 0 5 | false => keepX (au 4 1 0) (.var v1)) = true from rfl) (.c (show Dy 8 (match 0 + 1 + 1 + 1 + 1 == 4 with | true => .vec (ai (rdR (rs ++ (bA w n term known).fst))) 0 5 | false => keepX (au 4 1 0) (.vec (ai (rdR (rs ++ (bA w n term known).fst))) 1 5)) = true from ?_) (.c (show Dy 8 (match 0 + 1 + 1 + 1 + 1 + 1 == 4 with | true => .vec (ai (rdR (rs ++ (bA w n term known).fst))) 0 5 | false => keepX (au 4 1 0) (.var [int st, ab as_])) = true from rfl) (.c (show Dy 8 (match 0 + 1 + 1 + 1 + 1 + 1 + 1 == 4 with | true => .vec (ai (rdR (rs ++ (bA w n term known).fst))) 0 5 | false => keepX (au 4 1 0) (.map (aq 0 m1) (Dh m1))) = true from ?_) (.c (show Dy 8 (match 0 + 1 + 1 + 1 + 1 + 1 + 1 + 1 == 4 with | true => .vec (ai (rdR (rs ++ (bA w n term known).fst))) 0 5 | false => keepX (au 4 1 0) (.map (aq 0 m2) (Dh m2))) = true from ?_) .n))))))))))))))))))) (by subst v0 v1 v2; first | rfl | (subst hv; first | (have hh : decide ((seenOf w known term m1 m2 sm n).tries > 0) = true := hc1; simp only [hwr, nbF, hh, cond_true]; first | done | rfl) | (have hh : decide ((seenOf w known term m1 m2 sm n).tries > 0) = false := hc1; simp only [hwr, nbF, hh, cond_false]; first | done | rfl))) (by subst v0 v1 v2; first | rfl | (subst hv; first | (have hh : decide ((seenOf w known term m1 m2 sm n).tries > 0) = true := hc1; simp only [hwr, nbF, hh, cond_true]; first | done | rfl) | (have hh : decide ((seenOf w known term m1 m2 sm n).tries > 0) = false := hc1; simp only [hwr, nbF, hh, cond_false]; first | done | rfl))) <;> subst v0 v1 v2 <;> (first | assumption | rfl | omega | exact Dc rfl hv | exact Db rfl | exact aU | exact bB | exact af | exact ae _ _ | exact aG _ _ _ | exact aF _ _ _)
 ·let v0 : List D := [.ref (.vec 4 1), ab (De Dt w.c), ab w.p, ab (De Dw w.s), ab (De Ds w.f), int known]
  let v1 : List D := [.ref (.vec 4 0), ab (De Dt w.c), ab w.p, ab (De Dw w.s), ab (De Ds w.f), int known]
  let v2 := EB [int v.course, int v.tries, int v.best, bool v.now]
  refine DN (DP (s' := { t := mkT 190 0 [(2, int term), (10, .ref (.ptr 1 0)), (11, nq), (13, .ref (.mp 2)), (17, .ref (.ptr 3 0)), (19, ab cs), (20, .ref (.mp 6)), (21, .ref (.mp 7)), (102, ab ns), (103, int (↑(Dh ns) : Int)), (104, int (Dr Dj ((↑i : Int) + 1)))], h := [.var [ab (De Dt w.c), ab w.p, ab (De Dw w.s), ab (De Ds w.f)], .var [nq, int 0, int 0, int 0], .map (aQ 0 (b7 sm n (DJ (xF m1 m2) { course := n, tries := 0, best := -1, now := v.now } (bA w n term known).snd))) (Dh (b7 sm n (DJ (xF m1 m2) { course := n, tries := 0, best := -1, now := v.now } (bA w n term known).snd))), .var v1, .vec (ai (rdR (rs ++ (bA w n term known).fst))) 0 5, .var [int st, ab as_], .map (aq 0 m1) (Dh m1), .map (aq 0 m2) (Dh m2)], m := [] }) (e := DE) pok [.st (.mask [2, 10, 11, 13, 17, 19, 20, 21, 102, 103, 104]), .st (.ren 4 0), .st (.trimV 8)] [.b true, .row [vi n], .ov 111 v2, .call (ab (De (fun n => [vi n]) (bA w n term known).snd)) (fS w known st term sm rs as_ m1 m2 n v), .sum [2, 10, 11, 13, 17, 19, 20, 21, 25, 26, 102, 103, 104, 116, 117, 118] (Ea 6) { t := mkT 190 0 [(2, int term), (10, .ref (.ptr 1 0)), (11, nq), (13, .ref (.mp 2)), (17, .ref (.ptr 3 0)), (19, ab cs), (20, .ref (.mp 6)), (21, .ref (.mp 7)), (25, int n), (26, .ref (.ptr 8 0)), (102, ab ns), (103, int (↑(Dh ns) : Int)), (104, int (↑i : Int))], h := [.var (DY w), .var [nq, int 0, int 0, int 0], .map (aQ 0 sm) (Dh sm), .var v0, .vec (ai (rdR (rs ++ (bA w n term known).fst))) 1 5, .var [int st, ab as_], .map (aq 0 m1) (Dh m1), .map (aq 0 m2) (Dh m2), .var [int (DJ (xF m1 m2) { course := n, tries := 0, best := -1, now := v.now } (bA w n term known).snd).course, int (DJ (xF m1 m2) { course := n, tries := 0, best := -1, now := v.now } (bA w n term known).snd).tries, int (DJ (xF m1 m2) { course := n, tries := 0, best := -1, now := v.now } (bA w n term known).snd).best, bool (DJ (xF m1 m2) { course := n, tries := 0, best := -1, now := v.now } (bA w n term known).snd).now]], m := [] }, .b true, .oh 10145 D.any (siH w known st (b7 sm n (DJ (xF m1 m2) { course := n, tries := 0, best := -1, now := v.now } (bA w n term known).snd)) (rs ++ (bA w n term known).fst) 1 as_ m1 m2 ++ [.var (De D.p (Ez (DJ (xF m1 m2) { course := n, tries := 0, best := -1, now := v.now } (bA w n term known).snd)))])] (by kernel_rfl) (.c hlt (.c hr (.c (show ar Dg [.var (DY w), .var [nq, int 0, int 0, int 0], .map (aQ 0 sm) (Dh sm), .var v1, .vec (ai (rdR rs)) 0 5, .var [int st, ab as_], .map (aq 0 m1) (Dh m1), .map (aq 0 m2) (Dh m2)] 117 (.ref (.mp 2)) (int n) false = some v2 from ?_) (.c (show Ev Dg Γk 63 [.ref (.ptr 3 0), int n, int term] (fT w known st sm rs as_ m1 m2 n v) (ab (De (fun n => [vi n]) (bA w n term known).snd)) (fS w known st term sm rs as_ m1 m2 n v) from (Dv (Ev.frameX (args := [.ref (.ptr 3 0), int n, int term]) (H := (fT w known st sm rs as_ m1 m2 n v)) [3, 4] (@mW w hw known n term hN rs ?_) (by kernel_rfl) (by kernel_rfl) (by kernel_rfl) ⟨(by subst v0 v1 v2; first | rfl | exact ak _ _ | first | assumption | rfl | omega | exact Dc rfl hv | exact Db rfl | exact aU | exact bB | exact af | exact ae _ _ | exact aG _ _ _ | exact aF _ _ _), trivial⟩ ⟨(by subst v0 v1 v2; first | rfl | exact ak _ _ | first | assumption | rfl | omega | exact Dc rfl hv | exact Db rfl | exact aU | exact bB | exact af | exact ae _ _ | exact aG _ _ _ | exact aF _ _ _), trivial⟩) (by kernel_rfl) (by kernel_rfl))) (.c hl0 (.c hc1 (.c (show ap Dg [.var (DY w), .var [nq, int 0, int 0, int 0], .map (aQ 0 sm) (Dh sm), .var v0, .vec (ai (rdR (rs ++ (bA w n term known).fst))) 1 5, .var [int st, ab as_], .map (aq 0 m1) (Dh m1), .map (aq 0 m2) (Dh m2), .var [int (DJ (xF m1 m2) { course := n, tries := 0, best := -1, now := v.now } (bA w n term known).snd).course, int (DJ (xF m1 m2) { course := n, tries := 0, best := -1, now := v.now } (bA w n term known).snd).tries, int (DJ (xF m1 m2) { course := n, tries := 0, best := -1, now := v.now } (bA w n term known).snd).best, bool (DJ (xF m1 m2) { course := n, tries := 0, best := -1, now := v.now } (bA w n term known).snd).now]] 117 (.ref (.mp 2)) (int n) (EB [int (DJ (xF m1 m2) { course := n, tries := 0, best := -1, now := v.now } (bA w n term known).snd).course, int (DJ (xF m1 m2) { course := n, tries := 0, best := -1, now := v.now } (bA w n term known).snd).tries, int (DJ (xF m1 m2) { course := n, tries := 0, best := -1, now := v.now } (bA w n term known).snd).best, bool (DJ (xF m1 m2) { course := n, tries := 0, best := -1, now := v.now } (bA w n term known).snd).now]) = some [.var (DY w), .var [nq, int 0, int 0, int 0], .map (aQ 0 (b7 sm n (DJ (xF m1 m2) { course := n, tries := 0, best := -1, now := v.now } (bA w n term known).snd))) (Dh (b7 sm n (DJ (xF m1 m2) { course := n, tries := 0, best := -1, now := v.now } (bA w n term known).snd))), .var v0, .vec (ai (rdR (rs ++ (bA w n term known).fst))) 1 5, .var [int st, ab as_], .map (aq 0 m1) (Dh m1), .map (aq 0 m2) (Dh m2), .var [int (DJ (xF m1 m2) { course := n, tries := 0, best := -1, now := v.now } (bA w n term known).snd).course, int (DJ (xF m1 m2) { course := n, tries := 0, best := -1, now := v.now } (bA w n term known).snd).tries, int (DJ (xF m1 m2) { course := n, tries := 0, best := -1, now := v.now } (bA w n term known).snd).best, bool (DJ (xF m1 m2) { course := n, tries := 0, best := -1, now := v.now } (bA w n term known).snd).now]] from ?_) (.c (show De (D6 (au 4 1 0)) (ai (rdR (rs ++ (bA w n term known).fst))) = ai (rdR (rs ++ (bA w n term known).fst)) from ?_) (.c (show De (fun e => (DC (au 4 1 0) e.fst, DC (au 4 1 0) e.snd.fst, e.snd.snd)) (aQ 0 (b7 sm n (DJ (xF m1 m2) { course := n, tries := 0, best := -1, now := v.now } (bA w n term known).snd))) = aQ 0 (b7 sm n (DJ (xF m1 m2) { course := n, tries := 0, best := -1, now := v.now } (bA w n term known).snd)) from ?_) (.c (show De (fun e => (DC (au 4 1 0) e.fst, DC (au 4 1 0) e.snd.fst, e.snd.snd)) (aq 0 m1) = aq 0 m1 from ?_) (.c (show De (fun e => (DC (au 4 1 0) e.fst, DC (au 4 1 0) e.snd.fst, e.snd.snd)) (aq 0 m2) = aq 0 m2 from ?_) (.c (show Dy 8 (match 0 == 4 with | true => .vec (ai (rdR (rs ++ (bA w n term known).fst))) 0 5 | false => keepX (au 4 1 0) (.var (DY w))) = true from rfl) (.c (show Dy 8 (match 0 + 1 == 4 with | true => .vec (ai (rdR (rs ++ (bA w n term known).fst))) 0 5 | false => keepX (au 4 1 0) (.var [nq, int 0, int 0, int 0])) = true from rfl) (.c (show Dy 8 (match 0 + 1 + 1 == 4 with | true => .vec (ai (rdR (rs ++ (bA w n term known).fst))) 0 5 | false => keepX (au 4 1 0) (.map (aQ 0 (b7 sm n (DJ (xF m1 m2) { course := n, tries := 0, best := -1, now := v.now } (bA w n term known).snd))) (Dh (b7 sm n (DJ (xF m1 m2) { course := n, tries := 0, best := -1, now := v.now } (bA w n term known).snd))))) = true from ?_) (.c (show Dy 8 (match 0 + 1 + 1 + 1 == 4 with | true => .vec (ai (rdR (rs ++ (bA w n term known).fst))) 0 5 | false => keepX (au 4 1 0) (.var v0)) = true from rfl) (.c (show Dy 8 (match 0 + 1 + 1 + 1 + 1 == 4 with | true => .vec (ai (rdR (rs ++ (bA w n term known).fst))) 0 5 | false => keepX (au 4 1 0) (.vec (ai (rdR (rs ++ (bA w n term known).fst))) 1 5)) = true from ?_) (.c (show Dy 8 (match 0 + 1 + 1 + 1 + 1 + 1 == 4 with | true => .vec (ai (rdR (rs ++ (bA w n term known).fst))) 0 5 | false => keepX (au 4 1 0) (.var [int st, ab as_])) = true from rfl) (.c (show Dy 8 (match 0 + 1 + 1 + 1 + 1 + 1 + 1 == 4 with | true => .vec (ai (rdR (rs ++ (bA w n term known).fst))) 0 5 | false => keepX (au 4 1 0) (.map (aq 0 m1) (Dh m1))) = true from ?_) (.c (show Dy 8 (match 0 + 1 + 1 + 1 + 1 + 1 + 1 + 1 == 4 with | true => .vec (ai (rdR (rs ++ (bA w n term known).fst))) 0 5 | false => keepX (au 4 1 0) (.map (aq 0 m2) (Dh m2))) = true from ?_) .n)))))))))))))))))))) (by subst v0 v1 v2; first | rfl | (subst hv; first | (have hh : decide ((seenOf w known term m1 m2 sm n).tries > 0) = true := hc1; simp only [hwr, nbF, hh, cond_true]; first | done | rfl) | (have hh : decide ((seenOf w known term m1 m2 sm n).tries > 0) = false := hc1; simp only [hwr, nbF, hh, cond_false]; first | done | rfl))) (by subst v0 v1 v2; first | rfl | (subst hv; first | (have hh : decide ((seenOf w known term m1 m2 sm n).tries > 0) = true := hc1; simp only [hwr, nbF, hh, cond_true]; first | done | rfl) | (have hh : decide ((seenOf w known term m1 m2 sm n).tries > 0) = false := hc1; simp only [hwr, nbF, hh, cond_false]; first | done | rfl))) <;> subst v0 v1 v2 <;> (first | assumption | rfl | omega | exact Dc rfl hv | exact Db rfl | exact aU | exact bB | exact af | exact ae _ _ | exact aG _ _ _ | exact aF _ _ _)
theorem B4 {w : WorldT} {known st term : Int} {sm : SM} {rs : List ReadT} {cs as_ ns : List (List Dp)} {m1 m2 : IM} {i : Nat} (hlt : decide ((i : Int) < (ns.length : Int)) = false) : (CW Dg Γk [] false (sub EE 2) (nbS w known st term sm rs cs as_ ns m1 m2 i) (.exit 4) (nbE w known st sm rs cs as_ m1 m2)) := by
 exact DN (DP (s' := { t := mkT 190 0 [(10, .ref (.ptr 1 0)), (11, nq), (13, .ref (.mp 2)), (17, .ref (.ptr 3 0)), (19, ab cs)], h := [.var [ab (De Dt w.c), ab w.p, ab (De Dw w.s), ab (De Ds w.f)], .var [nq, int 0, int 0, int 0], .map (aQ 0 sm) (Dh sm), .var [.ref (.vec 4 0), ab (De Dt w.c), ab w.p, ab (De Dw w.s), ab (De Ds w.f), int known], .vec (ai (rdR rs)) 0 5, .var [int st, ab as_], .map (aq 0 m1) (Dh m1), .map (aq 0 m2) (Dh m2)], m := [] }) (e := Ea 4) pok [.st (.mask [10, 11, 13, 17, 19])] [.b false] (by kernel_rfl) (.c hlt .n)) (by rfl) (by rfl)
theorem nb_cw {w : WorldT} (hw : w.ok) {known st term : Int} (hN : (ah w.f known).length ≤ 100) {sm : SM} {rs : List ReadT} (hb : rs.length ≤ 800000000) {cs as_ : List (List Dp)} {m1 m2 : IM} :
  CW Dg Γk [] false (.loop (sub EE 2)) (nbS w known st term sm rs cs as_ ((ah w.f known).map fun n => [vi n]) m1 m2 0) (.exit 4) (nbE w known st ((ah w.f known).foldl (nbF w known term m1 m2) (rs, sm)).2 ((ah w.f known).foldl (nbF w known term m1 m2) (rs, sm)).1 cs as_ m1 m2) := by
 have hl : al (ah w.f known) := by unfold al; omega
 have := Hg (P := Dg) (Γ := Γk) (h0 := []) (rd := false) (c := sub EE 2) (σ := RSM) (ρ := Empty) (ah w.f known) (fun n s => .inl (nbF w known term m1 m2 s n))
  (fun i s => nbS w known st term s.2 s.1 cs as_ ((ah w.f known).map fun n => [vi n]) m1 m2 (i : Int)) (.exit 4) (fun s => nbE w known st s.2 s.1 cs as_ m1 m2) (fun r => r.elim) (fun i s => s.1.length ≤ rs.length + i * 1001001) (by simp) (fun r => r.elim) ?_ ?_ (rs, sm) (by simp)
 ·rw [bh] at this
  exact this
 ·intro i n s hn hs
  have hi := (Dm.1 hn).1
  have hq := tl (w := w) (c := n) (term := term) (known := known) (by omega)
  refine ⟨fun s' h => by cases h; simp only [nbF, E7]; omega, nb_body hw (by omega) rfl (rowAt (row := fun n => [vi n]) hn rfl) (lt_len (fun n => [vi n]) hi) (wrap_succ hi hl) (by omega) (by unfold al; omega)⟩
 ·intro s _
  exact B4 (cw (fun n => [vi n]) _)
end Go.Vi
open Go Go.Proofs
namespace Go.Vi
set_option maxRecDepth 100000
set_option maxHeartbeats 4000000
def nwN (n d : Int) : Int := Fu.wrap (Ga (n.natAbs : Int) (Eu d.natAbs n.natAbs : Int))
def nwD (n d : Int) : Int := Fu.wrap (Ga (d.natAbs : Int) (Eu d.natAbs n.natAbs : Int))
def gl (n d : Int) : Bool := decide (nwN n d > 1073741824) || decide (nwD n d > 1073741824)
def wU (n d : Int) : Bool := !(decide (n < 0) == decide (d < 0))
def gp (n d : Int) : Int × Int × Int := match d == 0 with
 | true => (0, 0, 1)
 | false => match gl n d with
  | true => (0, 0, 2)
  | false => match wU n d with
   | true => (Dj.wrap (0 - Dj.wrap (nwN n d)), Dj.wrap (nwD n d), 0)
   | false => (Dj.wrap (nwN n d), Dj.wrap (nwD n d), 0)
theorem B5 {n d : Int} (h : (d == 0) = false) : ((Eu d.natAbs n.natAbs : Nat) : Int) ≠ 0 := by
 have : d ≠ 0 := by simpa using h
 intro h0
 have : Eu d.natAbs n.natAbs = 0 := by exact_mod_cast h0
 have := Nat.eq_zero_of_gcd_eq_zero_left this
 omega
theorem B6 {n d : Int} (hn : I64 n) (hd : I64 d) (h : List Blk) : (Ev Dg Γ0 109 [int n, int d] h (.tup [.agg [int (gp n d).1, int (gp n d).2.1], int (gp n d).2.2]) h) := by
 cases hc0 : d == 0
 ·cases hc1 : decide (Dr Fu (Ga (↑(D5 n) : Int) (↑(Eu (D5 d) (D5 n)) : Int)) > 1073741824) || decide (Dr Fu (Ga (↑(D5 d) : Int) (↑(Eu (D5 d) (D5 n)) : Int)) > 1073741824)
  ·cases hc2 : !decide (n < 0) == decide (d < 0)
   ·refine Dv (DR (d := Em [EB [int (Dr Dj (Dr Fu (Ga (↑(D5 n) : Int) (↑(Eu (D5 d) (D5 n)) : Int)))), int (Dr Dj (Dr Fu (Ga (↑(D5 d) : Int) (↑(Eu (D5 d) (D5 n)) : Int))))], int 0]) pok [.b false, .val (u64 (↑(Eu (D5 d) (D5 n)) : Int)), .val (u64 (↑(D5 n) : Int)), .val (u64 (↑(D5 d) : Int)), .b false, .b false] (by kernel_rfl) (.c hc0 (.c (@gW n d hn hd ([.var [int 0, int 0]])) (.c (@fy n hn ([.var [int 0, int 0]])) (.c (show (!decide ((↑(Eu (D5 d) (D5 n)) : Int) = 0)) = true from ?_) (.c (@fy d hd ([.var [int 0, int 0]])) (.c (show (!decide ((↑(Eu (D5 d) (D5 n)) : Int) = 0)) = true from ?_) (.c hc1 (.c hc2 .n)))))))) rfl rfl h) (by first | (have z0 : (d == 0) = true := hc0; simp only [gp, z0]; first | done | rfl) | (have z0 : (d == 0) = false := hc0; have z1 : gl n d = true := hc1; simp only [gp, z0, z1]; first | done | rfl) | (have z0 : (d == 0) = false := hc0; have z1 : gl n d = false := hc1; have z2 : wU n d = true := hc2; simp only [gp, z0, z1, z2]; first | done | rfl) | (have z0 : (d == 0) = false := hc0; have z1 : gl n d = false := hc1; have z2 : wU n d = false := hc2; simp only [gp, z0, z1, z2]; first | done | rfl)) (by rfl) <;> (first | assumption | rfl | (have h9 := B5 (n := n) (by assumption); simp []; done) | (simp_all; done))
   ·refine Dv (DR (d := Em [EB [int (Dr Dj (0 - Dr Dj (Dr Fu (Ga (↑(D5 n) : Int) (↑(Eu (D5 d) (D5 n)) : Int))))), int (Dr Dj (Dr Fu (Ga (↑(D5 d) : Int) (↑(Eu (D5 d) (D5 n)) : Int))))], int 0]) pok [.b false, .val (u64 (↑(Eu (D5 d) (D5 n)) : Int)), .val (u64 (↑(D5 n) : Int)), .val (u64 (↑(D5 d) : Int)), .b false, .b true] (by kernel_rfl) (.c hc0 (.c (@gW n d hn hd ([.var [int 0, int 0]])) (.c (@fy n hn ([.var [int 0, int 0]])) (.c (show (!decide ((↑(Eu (D5 d) (D5 n)) : Int) = 0)) = true from ?_) (.c (@fy d hd ([.var [int 0, int 0]])) (.c (show (!decide ((↑(Eu (D5 d) (D5 n)) : Int) = 0)) = true from ?_) (.c hc1 (.c hc2 .n)))))))) rfl rfl h) (by first | (have z0 : (d == 0) = true := hc0; simp only [gp, z0]; first | done | rfl) | (have z0 : (d == 0) = false := hc0; have z1 : gl n d = true := hc1; simp only [gp, z0, z1]; first | done | rfl) | (have z0 : (d == 0) = false := hc0; have z1 : gl n d = false := hc1; have z2 : wU n d = true := hc2; simp only [gp, z0, z1, z2]; first | done | rfl) | (have z0 : (d == 0) = false := hc0; have z1 : gl n d = false := hc1; have z2 : wU n d = false := hc2; simp only [gp, z0, z1, z2]; first | done | rfl)) (by rfl) <;> (first | assumption | rfl | (have h9 := B5 (n := n) (by assumption); simp []; done) | (simp_all; done))
  ·refine Dv (DR (d := Em [EB [int 0, int 0], int 2]) pok [.b false, .val (u64 (↑(Eu (D5 d) (D5 n)) : Int)), .val (u64 (↑(D5 n) : Int)), .val (u64 (↑(D5 d) : Int)), .b true] (by kernel_rfl) (.c hc0 (.c (@gW n d hn hd ([.var [int 0, int 0]])) (.c (@fy n hn ([.var [int 0, int 0]])) (.c (show (!decide ((↑(Eu (D5 d) (D5 n)) : Int) = 0)) = true from ?_) (.c (@fy d hd ([.var [int 0, int 0]])) (.c (show (!decide ((↑(Eu (D5 d) (D5 n)) : Int) = 0)) = true from ?_) (.c hc1 .n))))))) rfl rfl h) (by first | (have z0 : (d == 0) = true := hc0; simp only [gp, z0]; first | done | rfl) | (have z0 : (d == 0) = false := hc0; have z1 : gl n d = true := hc1; simp only [gp, z0, z1]; first | done | rfl) | (have z0 : (d == 0) = false := hc0; have z1 : gl n d = false := hc1; have z2 : wU n d = true := hc2; simp only [gp, z0, z1, z2]; first | done | rfl) | (have z0 : (d == 0) = false := hc0; have z1 : gl n d = false := hc1; have z2 : wU n d = false := hc2; simp only [gp, z0, z1, z2]; first | done | rfl)) (by rfl) <;> (first | assumption | rfl | (have h9 := B5 (n := n) (by assumption); simp []; done) | (simp_all; done))
 ·exact Dv (DR (d := Em [EB [int 0, int 0], int 1]) pok [.b true] (by kernel_rfl) (.c hc0 .n) rfl rfl h) (by first | (have z0 : (d == 0) = true := hc0; simp only [gp, z0]; first | done | rfl) | (have z0 : (d == 0) = false := hc0; have z1 : gl n d = true := hc1; simp only [gp, z0, z1]; first | done | rfl) | (have z0 : (d == 0) = false := hc0; have z1 : gl n d = false := hc1; have z2 : wU n d = true := hc2; simp only [gp, z0, z1, z2]; first | done | rfl) | (have z0 : (d == 0) = false := hc0; have z1 : gl n d = false := hc1; have z2 : wU n d = false := hc2; simp only [gp, z0, z1, z2]; first | done | rfl)) (by rfl)
abbrev suT : List D := mkT 26 0 [(2, .ref (.ptr 0 0)), (3, .ref (.ptr 1 0)), (13, .fn (.func 158) [] [.ref (.ptr 2 0)])]
noncomputable abbrev suL (st : LoopState) : Blk := .loop st none 0 suT #[14, 15] (aC (sub ER 0)) (aj (sub ER 0))
noncomputable abbrev suH (c p : Int) (l : List (List Dp)) (st : LoopState) (more : List Blk) : List Blk := [.var [int c], .var [int p], .var [ab l], .defd, suL st] ++ more
abbrev suU (g c : Int) : List D := mkT 26 0 [(2, .ref (.ptr 0 0)), (3, .ref (.ptr 1 0)), (5, int g), (6, int c)]
def suF (s : Int × Int) (a : AttT) : Int × Int := (Dj.wrap (s.1 + a.credits), Dj.wrap (s.2 + Dj.wrap (a.grade * a.credits)))
theorem su_asg {c p g x : Int} {l : List (List Dp)} {r : List D} : (CW Dg Γ0 (suH c p l .ready [.var r]) true (aC (sub ER 0)) { t := d6 suT [(14, int g), (15, int x)], h := suH c p l .ready [.var r], m := [] } .normal { t := suU g x, h := suH c p l .ready [.var r], m := [] }) := by
 exact DN (DP (s' := { t := mkT 26 0 [(2, .ref (.ptr 0 0)), (3, .ref (.ptr 1 0)), (5, int g), (6, int x)], h := [.var [int c], .var [int p], .var [ab l], .defd, .loop DM none 0 (mkT 26 0 [(2, .ref (.ptr 0 0)), (3, .ref (.ptr 1 0)), (13, EA (DG 158) [] [.ref (.ptr 2 0)])]) { toList := [14, 15] } (aC (sub ER 0)) (aj (sub ER 0)), .var r], m := [] }) (e := DE) pok [.st (.mask [2, 3, 5, 6])] [] (by kernel_rfl) .n) (by rfl) (by rfl)
theorem B7 {c p g x : Int} {l : List (List Dp)} {r : List D} : (CW Dg Γ0 (suH c p l .ready [.var r]) true (aj (sub ER 0)) { t := suU g x, h := suH c p l .busy [.var r], m := [] } .normal { t := mkT 26 0 [], h := suH (Dj.wrap (c + x)) (Dj.wrap (p + Dj.wrap (g * x))) l .busy [.var r], m := [] }) := by
 exact DN (DP (s' := { t := mkT 26 0 [], h := [.var [int (Dr Dj (c + x))], .var [int (Dr Dj (p + Dr Dj (g * x)))], .var [ab l], .defd, .loop ES none 0 (mkT 26 0 [(2, .ref (.ptr 0 0)), (3, .ref (.ptr 1 0)), (13, EA (DG 158) [] [.ref (.ptr 2 0)])]) { toList := [14, 15] } (aC (sub ER 0)) (aj (sub ER 0)), .var r], m := [] }) (e := DE) pok [.st (.mask [])] [] (by kernel_rfl) .n) (by rfl) (by rfl)
theorem B8 {c p g x : Int} {l : List (List Dp)} {r : List D} : Iv Dg Γ0 (.ref (.yl 4)) [int g, int x] (suH c p l .ready [.var r]) (bool true) (suH (Dj.wrap (c + x)) (Dj.wrap (p + Dj.wrap (g * x))) l .ready [.var r]) :=
 Iv.round (h1 := suH c p l .ready [.var r]) rfl rfl su_asg rfl B7 rfl
abbrev swT (fs : List (List Dp)) (i : Int) : List D := mkT 19 0 [(0, .ref (.yl 4)), (5, ab fs), (6, int fs.length), (7, int i)]
theorem B9 {c p c0 p0 : Int} {l : List (List Dp)} {a : AttT} {i : Nat} (hr : aM (i : Int) l a.row 5) (hlt : decide ((i : Int) < (l.length : Int)) = true) (hw : Dj.wrap ((i : Int) + 1) = ((i + 1 : Nat) : Int)) : (CW Dg Γ0 (suH c0 p0 l .ready []) false (sub Gk 0) { t := swT l i, h := suH c p l .ready [], m := [] } .normal { t := swT l ((i + 1 : Nat) : Int), h := suH (suF (c, p) a).1 (suF (c, p) a).2 l .ready [], m := [] }) := by
 let v0 : List D := [int (Dr Dj (p + Dr Dj (a.grade * a.credits)))]
 let v1 : List D := [int a.course, int a.term, int a.grade, int a.campus, int a.credits]
 refine DN (DP (s' := { t := mkT 19 0 [(0, .ref (.yl 4)), (5, ab l), (6, int (↑(Dh l) : Int)), (7, int (Dr Dj ((↑i : Int) + 1)))], h := [.var [int (Dr Dj (c + a.credits))], .var v0, .var [ab l], .defd, .loop DM none 0 (mkT 26 0 [(2, .ref (.ptr 0 0)), (3, .ref (.ptr 1 0)), (13, EA (DG 158) [] [.ref (.ptr 2 0)])]) { toList := [14, 15] } (aC (sub ER 0)) (aj (sub ER 0))], m := [] }) (e := DE) pok [.st (.mask [0, 5, 6, 7]), .st (.trim 5)] [.b true, .row (Dk a), .inv (bool true) [.var [int (Dr Dj (c + a.credits))], .var v0, .var [ab l], .defd, .loop DM none 0 (mkT 26 0 [(2, .ref (.ptr 0 0)), (3, .ref (.ptr 1 0)), (13, EA (DG 158) [] [.ref (.ptr 2 0)])]) { toList := [14, 15] } (aC (sub ER 0)) (aj (sub ER 0)), .var v1], .b false] (by kernel_rfl) (.c hlt (.c hr (.c (@B8 c p (a.grade) (a.credits) l (v1)) (.c (show (!true) = false from rfl) .n))))) ?_ ?_ <;> subst v0 v1 <;> (first | rfl | (simp only [hw]; rfl))
theorem Ca {c p c0 p0 : Int} {l : List (List Dp)} {i : Nat} (hlt : decide ((i : Int) < (l.length : Int)) = false) : (CW Dg Γ0 (suH c0 p0 l .ready []) false (sub Gk 0) { t := swT l i, h := suH c p l .ready [], m := [] } (.exit 0) { t := mkT 19 0 [], h := suH c p l .ready [], m := [] }) := by
 exact DN (DP (s' := { t := mkT 19 0 [], h := [.var [int c], .var [int p], .var [ab l], .defd, .loop DM none 0 (mkT 26 0 [(2, .ref (.ptr 0 0)), (3, .ref (.ptr 1 0)), (13, EA (DG 158) [] [.ref (.ptr 2 0)])]) { toList := [14, 15] } (aC (sub ER 0)) (aj (sub ER 0))], m := [] }) (e := Ea 0) pok [.st (.mask [])] [.b false] (by kernel_rfl) (.c hlt .n)) (by rfl) (by rfl)
theorem sw_cw {c0 p0 : Int} {l : List AttT} (hl : al l) :
  CW Dg Γ0 (suH c0 p0 (l.map Dk) .ready []) false (.loop (sub Gk 0)) { t := swT (l.map Dk) 0, h := suH c0 p0 (l.map Dk) .ready [], m := [] } (.exit 0)
   { t := mkT 19 0 [], h := suH (l.foldl suF (c0, p0)).1 (l.foldl suF (c0, p0)).2 (l.map Dk) .ready [], m := [] } := by
 have := Hg (P := Dg) (Γ := Γ0) (h0 := suH c0 p0 (l.map Dk) .ready []) (rd := false) (c := sub Gk 0) (σ := Int × Int) (ρ := Empty) l (fun f s => .inl (suF s f))
  (fun i s => { t := swT (l.map Dk) (i : Int), h := suH s.1 s.2 (l.map Dk) .ready [], m := [] }) (.exit 0) (fun s => { t := mkT 19 0 [], h := suH s.1 s.2 (l.map Dk) .ready [], m := [] }) (fun r => r.elim)
  (fun _ _ => True) (by simp) (fun r => r.elim) ?_ ?_ (c0, p0) trivial
 ·rw [bh] at this
  exact this
 ·intro i f s hf _
  have hi := (Dm.1 hf).1
  exact ⟨fun _ _ => trivial, B9 (rowAt hf rfl) (lt_len _ hi) (wrap_succ hi hl)⟩
 ·intro s _
  exact Ca (cw _ l)
theorem wV {c0 p0 : Int} {l : List AttT} (hl : al l) : (Ev Dg Γ0 158 [.ref (.yl 4), .ref (.ptr 2 0)] (suH c0 p0 (l.map Dk) .ready []) (.tup []) (suH (l.foldl suF (c0, p0)).1 (l.foldl suF (c0, p0)).2 (l.map Dk) .ready [])) := by
 have hl0 := (@sw_cw (c0) (p0) (l) (hl))
 let v0 : List Blk := [.var [int (DJ suF (c0, p0) l).fst], .var [int (DJ suF (c0, p0) l).snd], .var [ab (De Dk l)], .defd, .loop DM none 0 (mkT 26 0 [(2, .ref (.ptr 0 0)), (3, .ref (.ptr 1 0)), (13, EA (DG 158) [] [.ref (.ptr 2 0)])]) { toList := [14, 15] } (aC (sub ER 0)) (aj (sub ER 0))]
 exact Dv (Ev.of_sym (h' := v0) (d := Em []) pok [.sum [0, 5, 6, 7] (Ea 0) { t := mkT 19 0 [], h := v0, m := [] }] (by kernel_rfl) (.c hl0 .n)) (by rfl) (by rfl)
theorem y3 {c0 p0 : Int} {l : List AttT} (hl : al l) : CW Dg Γ0 [] false (sub ER 0) { t := suT, h := [.var [int c0], .var [int p0], .var [ab (l.map Dk)]], m := [] } .normal
  { t := suT, h := suH (l.foldl suF (c0, p0)).1 (l.foldl suF (c0, p0)).2 (l.map Dk) .exhausted [], m := [3] } := by
 exact CW.rangeFunc (f := 158) (fi := []) (ca := [.ref (.ptr 2 0)]) pok (s := { t := suT, h := [.var [int c0], .var [int p0], .var [ab (l.map Dk)]], m := [] }) (g := .tmp 13) (ps := #[14, 15]) (asg := aC (sub ER 0)) (body := aj (sub ER 0)) rfl (by kernel_rfl) (wV hl) rfl
def gm (l : List AttT) : Int × Int × Int := match di l != 0 with
 | true => (0, 0, di l)
 | false => ((l.foldl suF (0, 0)).1, (l.foldl suF (0, 0)).2, 0)
theorem Cb {l : List AttT} (hl : al l) (h : List Blk) : (Ev Dg Γ0 108 [ab (l.map Dk)] h (.tup [int (gm l).1, int (gm l).2.1, int (gm l).2.2]) h) := by
 cases hc0 : di l != 0
 ·have hl1 := (@y3 (0) (0) (l) (hl))
  exact Dv (DR (d := Em [int (DJ suF (0, 0) l).fst, int (DJ suF (0, 0) l).snd, int 0]) pok [.val (int (di l)), .b false, .inl, .sum [2, 3, 13] (DE) { t := mkT 26 0 [(2, .ref (.ptr 0 0)), (3, .ref (.ptr 1 0)), (13, EA (DG 158) [] [.ref (.ptr 2 0)])], h := [.var [int (DJ suF (0, 0) l).fst], .var [int (DJ suF (0, 0) l).snd], .var [ab (De Dk l)], .defd, .loop Ee none 0 (mkT 26 0 [(2, .ref (.ptr 0 0)), (3, .ref (.ptr 1 0)), (13, EA (DG 158) [] [.ref (.ptr 2 0)])]) { toList := [14, 15] } (aC (sub ER 0)) (aj (sub ER 0))], m := [3] }] (by kernel_rfl) (.c (@dg l hl ([.var [int 0], .var [int 0]])) (.c hc0 (.c hl1 (.e (int (DJ suF (0, 0) l).fst) (.e (int (DJ suF (0, 0) l).snd) (.e (int (DJ suF (0, 0) l).snd) .n)))))) rfl rfl h) (by simp only [gm, hc0]; first | done | rfl) (by rfl)
 ·exact Dv (DR (d := Em [int 0, int 0, int (di l)]) pok [.val (int (di l)), .b true] (by kernel_rfl) (.c (@dg l hl ([.var [int 0], .var [int 0]])) (.c hc0 .n)) rfl rfl h) (by simp only [gm, hc0]; first | done | rfl) (by rfl)
theorem jQ (x : Int) : I64 (Dj.wrap x) := by
 unfold I64
 rw [IntKind.wrap_i64]
 omega
theorem Cc (s : Int × Int) (a : AttT) : I64 (suF s a).1 ∧ I64 (suF s a).2 := ⟨jQ _, jQ _⟩
theorem mY : ∀ (l : List AttT) (s : Int × Int), I64 s.1 ∧ I64 s.2 → I64 (l.foldl suF s).1 ∧ I64 (l.foldl suF s).2
 | [], _, h => h
 | a :: l, s, _ => mY l (suF s a) (Cc s a)
theorem lm : I64 0 := by unfold I64; omega
theorem qv (l : List AttT) : I64 (gm l).1 ∧ I64 (gm l).2.1 := by
 unfold gm
 cases di l != 0
 ·exact mY l (0, 0) ⟨lm, lm⟩
 ·exact ⟨lm, lm⟩
def lW (c p e : Int) : Int × Int × Int := match e != 0 with
 | true => (0, 0, e)
 | false => match c == 0 with
  | true => (0, 1, 0)
  | false => gp p c
def bR (l : List AttT) : Int × Int × Int := lW (gm l).1 (gm l).2.1 (gm l).2.2
theorem mean_a {l : List AttT} {c p e : Int} (hc : I64 c) (hp : I64 p) (hs : ∀ h, Ev Dg Γ0 108 [ab (l.map Dk)] h (.tup [int c, int p, int e]) h) (h : List Blk) : (Ev Dg Γ0 55 [ab (l.map Dk)] h (.tup [.agg [int (lW c p e).1, int (lW c p e).2.1], int (lW c p e).2.2]) h) := by
 cases hc0 : e != 0
 ·cases hc1 : c == 0
  ·exact Dv (DR (d := Em [EB [int (gp p c).fst, int (gp p c).snd.fst], int (gp p c).snd.snd]) pok [.val (Em [int c, int p, int e]), .b false, .b false, .val (Em [EB [int (gp p c).fst, int (gp p c).snd.fst], int (gp p c).snd.snd])] (by kernel_rfl) (.c (@hs ([.var [int 0, int 0]])) (.c hc0 (.c hc1 (.c (@B6 p c hp hc ([.var [int 0, int 0]])) .n)))) rfl rfl h) (by simp only [lW, hc0, hc1]; first | done | rfl) (by rfl)
  ·exact Dv (DR (d := Em [EB [int 0, int 1], int 0]) pok [.val (Em [int c, int p, int e]), .b false, .b true] (by kernel_rfl) (.c (@hs ([.var [int 0, int 0]])) (.c hc0 (.c hc1 .n))) rfl rfl h) (by simp only [lW, hc0, hc1]; first | done | rfl) (by rfl)
 ·exact Dv (DR (d := Em [EB [int 0, int 0], int e]) pok [.val (Em [int c, int p, int e]), .b true] (by kernel_rfl) (.c (@hs ([.var [int 0, int 0]])) (.c hc0 .n)) rfl rfl h) (by simp only [lW, hc0]; first | done | rfl) (by rfl)
theorem qw {l : List AttT} (hl : al l) (h : List Blk) : Ev Dg Γ0 55 [ab (l.map Dk)] h (.tup [.agg [int (bR l).1, int (bR l).2.1], int (bR l).2.2]) h :=
 mean_a (qv l).1 (qv l).2 (fun h => Cb hl h) h
theorem y4 (n d : Int) : I64 (gp n d).1 ∧ I64 (gp n d).2.1 := by
 unfold gp
 split
 ·exact ⟨lm, lm⟩
 ·split
  ·exact ⟨lm, lm⟩
  ·split <;> exact ⟨jQ _, jQ _⟩
theorem qx (l : List AttT) : I64 (bR l).1 ∧ I64 (bR l).2.1 := by
 unfold bR lW
 split
 ·exact ⟨lm, lm⟩
 ·split
  ·exact ⟨lm, by unfold I64; simp⟩
  ·exact y4 _ _
abbrev eaT : List D := mkT 21 0 [(2, .ref (.ptr 0 0)), (12, .fn (.func 158) [] [.ref (.ptr 1 0)])]
noncomputable abbrev eaL (st : LoopState) : Blk := .loop st none 0 eaT #[13, 14] (aC (sub EV 0)) (aj (sub EV 0))
noncomputable abbrev eaH (c : Int) (l : List (List Dp)) (st : LoopState) (more : List Blk) : List Blk := [.var [int c], .var [ab l], .defd, eaL st] ++ more
abbrev eaU (g c : Int) : List D := mkT 21 0 [(2, .ref (.ptr 0 0)), (4, int g), (5, int c)]
def eaG (c g x : Int) : Int := match decide (g > 0) with | true => Dj.wrap (c + x) | false => c
def eaF (c : Int) (a : AttT) : Int := eaG c a.grade a.credits
theorem ea_asg {c g x : Int} {l : List (List Dp)} {r : List D} : (CW Dg Γ0 (eaH c l .ready [.var r]) true (aC (sub EV 0)) { t := d6 eaT [(13, int g), (14, int x)], h := eaH c l .ready [.var r], m := [] } .normal { t := eaU g x, h := eaH c l .ready [.var r], m := [] }) := by
 exact DN (DP (s' := { t := mkT 21 0 [(2, .ref (.ptr 0 0)), (4, int g), (5, int x)], h := [.var [int c], .var [ab l], .defd, .loop DM none 0 (mkT 21 0 [(2, .ref (.ptr 0 0)), (12, EA (DG 158) [] [.ref (.ptr 1 0)])]) { toList := [13, 14] } (aC (sub EV 0)) (aj (sub EV 0)), .var r], m := [] }) (e := DE) pok [.st (.mask [2, 4, 5])] [] (by kernel_rfl) .n) (by rfl) (by rfl)
theorem Cd {c g x : Int} {l : List (List Dp)} {r : List D} : (CW Dg Γ0 (eaH c l .ready [.var r]) true (aj (sub EV 0)) { t := eaU g x, h := eaH c l .busy [.var r], m := [] } .normal { t := mkT 21 0 [], h := eaH (eaG c g x) l .busy [.var r], m := [] }) := by
 cases hc0 : decide (g > 0)
 ·exact DN (DP (s' := { t := mkT 21 0 [], h := [.var [int c], .var [ab l], .defd, .loop ES none 0 (mkT 21 0 [(2, .ref (.ptr 0 0)), (12, EA (DG 158) [] [.ref (.ptr 1 0)])]) { toList := [13, 14] } (aC (sub EV 0)) (aj (sub EV 0)), .var r], m := [] }) (e := DE) pok [.st (.mask [])] [.b false] (by kernel_rfl) (.c hc0 .n)) (by simp only []; first | done | rfl) (by simp only [eaG, hc0]; first | done | rfl)
 ·exact DN (DP (s' := { t := mkT 21 0 [], h := [.var [int (Dr Dj (c + x))], .var [ab l], .defd, .loop ES none 0 (mkT 21 0 [(2, .ref (.ptr 0 0)), (12, EA (DG 158) [] [.ref (.ptr 1 0)])]) { toList := [13, 14] } (aC (sub EV 0)) (aj (sub EV 0)), .var r], m := [] }) (e := DE) pok [.st (.mask [])] [.b true] (by kernel_rfl) (.c hc0 .n)) (by simp only []; first | done | rfl) (by simp only [eaG, hc0]; first | done | rfl)
theorem Ce {c g x : Int} {l : List (List Dp)} {r : List D} : Iv Dg Γ0 (.ref (.yl 3)) [int g, int x] (eaH c l .ready [.var r]) (bool true) (eaH (eaG c g x) l .ready [.var r]) :=
 Iv.round (h1 := eaH c l .ready [.var r]) rfl rfl ea_asg rfl Cd rfl
abbrev ewT (fs : List (List Dp)) (i : Int) : List D := mkT 19 0 [(0, .ref (.yl 3)), (5, ab fs), (6, int fs.length), (7, int i)]
theorem Cf {c c0 : Int} {l : List (List Dp)} {a : AttT} {i : Nat} (hr : aM (i : Int) l a.row 5) (hlt : decide ((i : Int) < (l.length : Int)) = true) (hw : Dj.wrap ((i : Int) + 1) = ((i + 1 : Nat) : Int)) : (CW Dg Γ0 (eaH c0 l .ready []) false (sub Gk 0) { t := ewT l i, h := eaH c l .ready [], m := [] } .normal { t := ewT l ((i + 1 : Nat) : Int), h := eaH (eaF c a) l .ready [], m := [] }) := by
 let v0 : List D := [int a.course, int a.term, int a.grade, int a.campus, int a.credits]
 refine DN (DP (s' := { t := mkT 19 0 [(0, .ref (.yl 3)), (5, ab l), (6, int (↑(Dh l) : Int)), (7, int (Dr Dj ((↑i : Int) + 1)))], h := [.var [int (eaG c a.grade a.credits)], .var [ab l], .defd, .loop DM none 0 (mkT 21 0 [(2, .ref (.ptr 0 0)), (12, EA (DG 158) [] [.ref (.ptr 1 0)])]) { toList := [13, 14] } (aC (sub EV 0)) (aj (sub EV 0))], m := [] }) (e := DE) pok [.st (.mask [0, 5, 6, 7]), .st (.trim 4)] [.b true, .row (Dk a), .inv (bool true) [.var [int (eaG c a.grade a.credits)], .var [ab l], .defd, .loop DM none 0 (mkT 21 0 [(2, .ref (.ptr 0 0)), (12, EA (DG 158) [] [.ref (.ptr 1 0)])]) { toList := [13, 14] } (aC (sub EV 0)) (aj (sub EV 0)), .var v0], .b false] (by kernel_rfl) (.c hlt (.c hr (.c (@Ce c (a.grade) (a.credits) l (v0)) (.c (show (!true) = false from rfl) .n))))) ?_ ?_ <;> subst v0 <;> (first | rfl | (simp only [hw]; rfl))
theorem Cg {c c0 : Int} {l : List (List Dp)} {i : Nat} (hlt : decide ((i : Int) < (l.length : Int)) = false) : (CW Dg Γ0 (eaH c0 l .ready []) false (sub Gk 0) { t := ewT l i, h := eaH c l .ready [], m := [] } (.exit 0) { t := mkT 19 0 [], h := eaH c l .ready [], m := [] }) := by
 exact DN (DP (s' := { t := mkT 19 0 [], h := [.var [int c], .var [ab l], .defd, .loop DM none 0 (mkT 21 0 [(2, .ref (.ptr 0 0)), (12, EA (DG 158) [] [.ref (.ptr 1 0)])]) { toList := [13, 14] } (aC (sub EV 0)) (aj (sub EV 0))], m := [] }) (e := Ea 0) pok [.st (.mask [])] [.b false] (by kernel_rfl) (.c hlt .n)) (by rfl) (by rfl)
theorem ew_cw {c0 : Int} {l : List AttT} (hl : al l) :
  CW Dg Γ0 (eaH c0 (l.map Dk) .ready []) false (.loop (sub Gk 0)) { t := ewT (l.map Dk) 0, h := eaH c0 (l.map Dk) .ready [], m := [] } (.exit 0)
   { t := mkT 19 0 [], h := eaH (l.foldl eaF c0) (l.map Dk) .ready [], m := [] } := by
 have := Hg (P := Dg) (Γ := Γ0) (h0 := eaH c0 (l.map Dk) .ready []) (rd := false) (c := sub Gk 0) (σ := Int) (ρ := Empty) l (fun f s => .inl (eaF s f))
  (fun i s => { t := ewT (l.map Dk) (i : Int), h := eaH s (l.map Dk) .ready [], m := [] }) (.exit 0) (fun s => { t := mkT 19 0 [], h := eaH s (l.map Dk) .ready [], m := [] }) (fun r => r.elim)
  (fun _ _ => True) (by simp) (fun r => r.elim) ?_ ?_ c0 trivial
 ·rw [bh] at this
  exact this
 ·intro i f s hf _
  have hi := (Dm.1 hf).1
  exact ⟨fun _ _ => trivial, Cf (rowAt hf rfl) (lt_len _ hi) (wrap_succ hi hl)⟩
 ·intro s _
  exact Cg (cw _ l)
theorem wW {c0 : Int} {l : List AttT} (hl : al l) : (Ev Dg Γ0 158 [.ref (.yl 3), .ref (.ptr 1 0)] (eaH c0 (l.map Dk) .ready []) (.tup []) (eaH (l.foldl eaF c0) (l.map Dk) .ready [])) := by
 have hl0 := (@ew_cw (c0) (l) (hl))
 let v0 : List Blk := [.var [int (DJ eaF c0 l)], .var [ab (De Dk l)], .defd, .loop DM none 0 (mkT 21 0 [(2, .ref (.ptr 0 0)), (12, EA (DG 158) [] [.ref (.ptr 1 0)])]) { toList := [13, 14] } (aC (sub EV 0)) (aj (sub EV 0))]
 exact Dv (Ev.of_sym (h' := v0) (d := Em []) pok [.sum [0, 5, 6, 7] (Ea 0) { t := mkT 19 0 [], h := v0, m := [] }] (by kernel_rfl) (.c hl0 .n)) (by rfl) (by rfl)
theorem y5 {c0 : Int} {l : List AttT} (hl : al l) : CW Dg Γ0 [] false (sub EV 0) { t := eaT, h := [.var [int c0], .var [ab (l.map Dk)]], m := [] } .normal
  { t := eaT, h := eaH (l.foldl eaF c0) (l.map Dk) .exhausted [], m := [2] } := by
 exact CW.rangeFunc (f := 158) (fi := []) (ca := [.ref (.ptr 1 0)]) pok (s := { t := eaT, h := [.var [int c0], .var [ab (l.map Dk)]], m := [] }) (g := .tmp 12) (ps := #[13, 14]) (asg := aC (sub EV 0)) (body := aj (sub EV 0)) rfl (by kernel_rfl) (wW hl) rfl
def bG (l : List AttT) : Int × Int := match di l != 0 with
 | true => (0, di l)
 | false => (l.foldl eaF 0, 0)
theorem ln {l : List AttT} (hl : al l) (h : List Blk) : (Ev Dg Γ0 54 [ab (l.map Dk)] h (.tup [int (bG l).1, int (bG l).2]) h) := by
 cases hc0 : di l != 0
 ·have hl1 := (@y5 (0) (l) (hl))
  exact Dv (DR (d := Em [int (DJ eaF 0 l), int 0]) pok [.val (int (di l)), .b false, .inl, .sum [2, 12] (DE) { t := mkT 21 0 [(2, .ref (.ptr 0 0)), (12, EA (DG 158) [] [.ref (.ptr 1 0)])], h := [.var [int (DJ eaF 0 l)], .var [ab (De Dk l)], .defd, .loop Ee none 0 (mkT 21 0 [(2, .ref (.ptr 0 0)), (12, EA (DG 158) [] [.ref (.ptr 1 0)])]) { toList := [13, 14] } (aC (sub EV 0)) (aj (sub EV 0))], m := [2] }] (by kernel_rfl) (.c (@dg l hl ([.var [int 0]])) (.c hc0 (.c hl1 .n))) rfl rfl h) (by simp only [bG, hc0]; first | done | rfl) (by rfl)
 ·exact Dv (DR (d := Em [int 0, int (di l)]) pok [.val (int (di l)), .b true] (by kernel_rfl) (.c (@dg l hl ([.var [int 0]])) (.c hc0 .n)) rfl rfl h) (by simp only [bG, hc0]; first | done | rfl) (by rfl)
end Go.Vi
open Go Go.Proofs
namespace Go.Vi
set_option maxRecDepth 100000
set_option maxHeartbeats 4000000
def y6 (e : D × D × Nat) : SeenT := match e.2.1 with
 | .agg [.p (.v (.int _ a)), .p (.v (.int _ b)), .p (.v (.int _ c)), .p (.v (.bool d))] => ⟨a, b, c, d⟩
 | _ => uy
abbrev mpH (w : WorldT) (known st : Int) (sm : SM) (rs : List ReadT) (as_ : List (List Dp)) (m1 m2 : IM) (l : List SeenT) (bs : List Nat) : List Blk :=
 [.var w.l, .var [.ref (.vec 8 0), int 0, int 0, int 0], smB sm, siK w known 0, .vec (ai (rdR rs)) 0 5, .var [int st, ab as_], imB m1, imB m2, .vec (aW l) 0 4, .mit (some 2) sm.length bs sm.length]
abbrev mpT (cs : List (List Dp)) : List (Nat × D) := [(10, .ref (.ptr 1 0)), (11, dt), (17, .ref (.ptr 3 0)), (19, ab cs), (150, .ref (.it 9))]
theorem wX (l : List SeenT) (f : Ref → D) : (aW l).map (D6 f) = aW l := by
 rw [List.map_map]; exact List.map_congr_left fun a _ => rfl
theorem wY {n : Nat} {l : List SeenT} {e sz : Nat} : Dy n (.vec (aW l) e sz) = true := by
 show (aW l).all (D.innL n) = true
 rw [List.all_eq_true]
 intro r hr
 obtain ⟨x, _, rfl⟩ := DL.1 hr
 rfl
theorem oq (l : List SeenT) (x : SeenT) : aW l ++ [[int x.course, int x.tries, int x.best, bool x.now]] = aW (l ++ [x]) := by simp [aW, Ez]
theorem wZ (l : List SeenT) : aW l = (l.map Ez).map (De D.p) := by simp [aW]
def Ac : Code → Code
 | .seq _ (.seq _ r) => r
 | _ => .skip
theorem Ch {w : WorldT} {known st : Int} {sm : SM} {rs : List ReadT} {cs as_ : List (List Dp)} {m1 m2 : IM} {l : List SeenT} {bs : List Nat} {k : Int} {x : SeenT} (hl : l.length ≤ 1000000) (he : fX (mpH w known st sm rs as_ m1 m2 l bs) (.ref (.it 9)) = some (.tup [int k, .agg [int x.course, int x.tries, int x.best, bool x.now]])) : (CW Dg Γk [] false (Ac (sub EE 4)) { t := mkT 190 0 (mpT cs ++ [(151, .tup [bool true, int k, seD x]), (152, bool true)]), h := mpH w known st sm rs as_ m1 m2 l bs, m := [] } .normal { t := mkT 190 0 (mpT cs), h := mpH w known st sm rs as_ m1 m2 (l ++ [x]) bs, m := [] }) := by
 let v0 : List D := [int x.course, int x.tries, int x.best, bool x.now]
 let v1 : List D := [.ref (.vec 4 0), ab (De Dt w.c), ab w.p, ab (De Dw w.s), ab (De Ds w.f), int known]
 refine DN (DP (s' := { t := mkT 190 0 [(10, .ref (.ptr 1 0)), (11, nq), (17, .ref (.ptr 3 0)), (19, ab cs), (150, .ref (.it 9))], h := [.var [ab (De Dt w.c), ab w.p, ab (De Dw w.s), ab (De Ds w.f)], .var [.ref (.vec 8 0), int 0, int 0, int 0], .map (aQ 0 sm) (Dh sm), .var v1, .vec (ai (rdR rs)) 0 5, .var [int st, ab as_], .map (aq 0 m1) (Dh m1), .map (aq 0 m2) (Dh m2), .vec (aW l ++ [v0]) 0 4, .mit (some 2) (Dh sm) bs (Dh sm)], m := [] }) (e := DE) pok [.st (.mask [10, 11, 17, 19, 150]), .st (.ren 8 0), .st (.trimV 10)] [.ov 153 (Em [int k, EB v0])] (by kernel_rfl) (.c (show fX [.var (DY w), .var [.ref (.vec 8 0), int 0, int 0, int 0], .map (aQ 0 sm) (Dh sm), .var v1, .vec (ai (rdR rs)) 0 5, .var [int st, ab as_], .map (aq 0 m1) (Dh m1), .map (aq 0 m2) (Dh m2), .vec (aW l) 0 4, .mit (some 2) (Dh sm) bs (Dh sm)] (.ref (.it 9)) = some (Em [int k, EB v0]) from ?_) (.c (show (List.all [v0] (bC 4) && roomOk (Dh (aW l) + Dh [v0]) 32) = true from ?_) (.c (show De (D6 (au 8 1 0)) (aW l ++ [v0]) = aW l ++ [v0] from ?_) (.c (show De (fun e => (DC (au 8 1 0) e.fst, DC (au 8 1 0) e.snd.fst, e.snd.snd)) (aQ 0 sm) = aQ 0 sm from ?_) (.c (show De (D6 (au 8 1 0)) (ai (rdR rs)) = ai (rdR rs) from ?_) (.c (show De (fun e => (DC (au 8 1 0) e.fst, DC (au 8 1 0) e.snd.fst, e.snd.snd)) (aq 0 m1) = aq 0 m1 from ?_) (.c (show De (fun e => (DC (au 8 1 0) e.fst, DC (au 8 1 0) e.snd.fst, e.snd.snd)) (aq 0 m2) = aq 0 m2 from ?_) (.c (show [v0] = [v0] from rfl) (.c (show Dy 10 (match 0 == 8 with | true => .vec (aW l ++ [v0]) 0 4 | false => keepX (au 8 1 0) (.var (DY w))) = true from rfl) (.c (show Dy 10 (match 0 + 1 == 8 with | true => .vec (aW l ++ [v0]) 0 4 | false => keepX (au 8 1 0) (.var [.ref (.vec 8 1), int 0, int 0, int 0])) = true from rfl) (.c (show Dy 10 (match 0 + 1 + 1 == 8 with | true => .vec (aW l ++ [v0]) 0 4 | false => keepX (au 8 1 0) (.map (aQ 0 sm) (Dh sm))) = true from ?_) (.c (show Dy 10 (match 0 + 1 + 1 + 1 == 8 with | true => .vec (aW l ++ [v0]) 0 4 | false => keepX (au 8 1 0) (.var v1)) = true from rfl) (.c (show Dy 10 (match 0 + 1 + 1 + 1 + 1 == 8 with | true => .vec (aW l ++ [v0]) 0 4 | false => keepX (au 8 1 0) (.vec (ai (rdR rs)) 0 5)) = true from ?_) (.c (show Dy 10 (match 0 + 1 + 1 + 1 + 1 + 1 == 8 with | true => .vec (aW l ++ [v0]) 0 4 | false => keepX (au 8 1 0) (.var [int st, ab as_])) = true from rfl) (.c (show Dy 10 (match 0 + 1 + 1 + 1 + 1 + 1 + 1 == 8 with | true => .vec (aW l ++ [v0]) 0 4 | false => keepX (au 8 1 0) (.map (aq 0 m1) (Dh m1))) = true from ?_) (.c (show Dy 10 (match 0 + 1 + 1 + 1 + 1 + 1 + 1 + 1 == 8 with | true => .vec (aW l ++ [v0]) 0 4 | false => keepX (au 8 1 0) (.map (aq 0 m2) (Dh m2))) = true from ?_) (.c (show Dy 10 (match 0 + 1 + 1 + 1 + 1 + 1 + 1 + 1 + 1 == 8 with | true => .vec (aW l ++ [v0]) 0 4 | false => keepX (au 8 1 0) (.vec (aW l ++ [v0]) 1 4)) = true from ?_) (.c (show Dy 10 (match 0 + 1 + 1 + 1 + 1 + 1 + 1 + 1 + 1 + 1 == 8 with | true => .vec (aW l ++ [v0]) 0 4 | false => keepX (au 8 1 0) (.mit (some 2) (Dh sm) bs (Dh sm))) = true from rfl) .n))))))))))))))))))) (by subst v0 v1; first | rfl | (simp only [oq]; first | done | rfl)) (by subst v0 v1; first | rfl | (simp only [oq]; first | done | rfl)) <;> subst v0 v1 <;> (first | assumption | rfl | exact he | exact aU | exact bB | exact af | exact wY | exact ae _ _ | exact aG _ _ _ | exact aF _ _ _ | exact wX _ _ | (rw [oq]; exact wX _ _) | (simp only [oq]; exact wY) | (simp [bC, D.one, Value.oneCell', roomOk]; omega))
theorem lp {x0 x1 x2 x3 x4 x5 x6 x7 x9 : Blk} {l : List SeenT} (hl : l.length < 4611686018427387904) (hT : ∀ x ∈ l, ∀ y ∈ l, x.course = y.course → x = y) :
  Ev Dg Γ0 64 [.ref (.vec 8 0), .p (.v (.func (.func 65) #[] #[]))] [x0, x1, x2, x3, x4, x5, x6, x7, .vec (aW l) 0 4, x9] (.tup []) [x0, x1, x2, x3, x4, x5, x6, x7, .vec (aW (l.mergeSort leS)) 0 4, x9] :=
 rW (h := [x0, x1, x2, x3, x4, x5, x6, x7, .vec (aW l) 0 4, x9]) (b := 8) rfl hl hT
abbrev pwS (w : WorldT) (known st : Int) (sm : SM) (rs : List ReadT) (la : List AttT) (as_ : List (List Dp)) (m1 m2 : IM) (l : List SeenT) (bs : List Nat) : AS :=
 { t := mkT 190 0 (mpT (la.map Dk) ++ [(151, .tup [bool false]), (152, bool false)]), h := mpH w known st sm rs as_ m1 m2 l bs, m := [] }
abbrev pwX (w : WorldT) (e : Int) : AS := { t := mkT 190 0 [(10, .ref (.ptr 1 0)), (11, dt), (12, int e)], h := [.var w.l, Da], m := [] }
abbrev pwE (w : WorldT) (rs : List ReadT) (la : List AttT) (l : List SeenT) : AS :=
 { t := mkT 190 0 [(10, .ref (.ptr 1 0)), (11, ab (rdR rs)), (12, int 0)], h := [.var w.l, .var [ab ((l.mergeSort leS).map Ez), int (mnI (bG la).1 10000), int (bR la).1, int (bR la).2.1]], m := [] }
noncomputable abbrev Ci (w : WorldT) (known : Int) (st : Int) (sm : SM) (rs : List ReadT) (as_ : List (List Dp)) (m1 : IM) (m2 : IM) (l : List SeenT) (bs : List Nat) : List Blk := [.var [ab (De Dt w.c), ab w.p, ab (De Dw w.s), ab (De Ds w.f)], .var [ab (De Ez (Ey l leS)), int 0, int 0, int 0], .map (aQ 0 sm) (Dh sm), .var [.ref (.vec 4 0), ab (De Dt w.c), ab w.p, ab (De Dw w.s), ab (De Ds w.f), int known], .vec (ai (rdR rs)) 0 5, .var [int st, ab as_], .map (aq 0 m1) (Dh m1), .map (aq 0 m2) (Dh m2), .gone, .mit (some 2) (Dh sm) bs (Dh sm)]
theorem pw_a {w : WorldT} {known st : Int} {sm : SM} {rs : List ReadT} {la : List AttT} (hla : al la) {as_ : List (List Dp)} {m1 m2 : IM} {l : List SeenT} {bs : List Nat} (hl : l.length < 4611686018427387904) (hT : ∀ x ∈ l, ∀ y ∈ l, x.course = y.course → x = y) (h1 : ((bG la).2 != 0) = true) : (CW Dg Γk [] false (pP (iW EE) 4) (pwS w known st sm rs la as_ m1 m2 l bs) .ret (pwX w (bG la).2)) := by
 let v0 := De Ez (Ey l leS)
 let v1 : List D := [.ref (.vec 4 0), ab (De Dt w.c), ab w.p, ab (De Dw w.s), ab (De Ds w.f), int known]
 refine DN (DP (s' := { t := mkT 190 0 [(10, .ref (.ptr 1 0)), (11, nq), (12, int (bG la).snd)], h := [.var [ab (De Dt w.c), ab w.p, ab (De Dw w.s), ab (De Ds w.f)], .var [nq, int 0, int 0, int 0]], m := [] }) (e := EY) pok [.st (.mask [10, 11, 12]), .st (.trim 2)] [.call (Em []) [.var (DY w), .var [.ref (.vec 8 0), int 0, int 0, int 0], .map (aQ 0 sm) (Dh sm), .var v1, .vec (ai (rdR rs)) 0 5, .var [int st, ab as_], .map (aq 0 m1) (Dh m1), .map (aq 0 m2) (Dh m2), .vec (aW (Ey l leS)) 0 4, .mit (some 2) (Dh sm) bs (Dh sm)], .st (.frz 8 v0), .val (Em [int (bG la).fst, int (bG la).snd]), .b true] (by kernel_rfl) (.c (DW (Γ' := Γk) (@lp (.var (DY w)) (.var [.ref (.vec 8 0), int 0, int 0, int 0]) (.map (aQ 0 sm) (Dh sm)) (.var v1) (.vec (ai (rdR rs)) 0 5) (.var [int st, ab as_]) (.map (aq 0 m1) (Dh m1)) (.map (aq 0 m2) (Dh m2)) (.mit (some 2) (Dh sm) bs (Dh sm)) l hl hT)) (.c (show aW (Ey l leS) = De (fun x => De D.p x) v0 from ?_) (.c (show De (fun e => (DC (dh 8 0 v0) e.fst, DC (dh 8 0 v0) e.snd.fst, e.snd.snd)) (aQ 0 sm) = aQ 0 sm from ?_) (.c (show De (D6 (dh 8 0 v0)) (ai (rdR rs)) = ai (rdR rs) from ?_) (.c (show De (fun e => (DC (dh 8 0 v0) e.fst, DC (dh 8 0 v0) e.snd.fst, e.snd.snd)) (aq 0 m1) = aq 0 m1 from ?_) (.c (show De (fun e => (DC (dh 8 0 v0) e.fst, DC (dh 8 0 v0) e.snd.fst, e.snd.snd)) (aq 0 m2) = aq 0 m2 from ?_) (.c (DW (Γ' := Γk) (@ln la hla (Ci w known st sm rs as_ m1 m2 l bs))) (.c h1 .n))))))))) (by rfl) (by rfl) <;> subst v0 v1 <;> (first | assumption | rfl | exact hT | exact wZ _ | exact ae _ _ | exact aG _ _ _ | exact aF _ _ _)
noncomputable abbrev Cj (w : WorldT) (known : Int) (st : Int) (sm : SM) (rs : List ReadT) (la : List AttT) (as_ : List (List Dp)) (m1 : IM) (m2 : IM) (l : List SeenT) (bs : List Nat) : List Blk := [.var [ab (De Dt w.c), ab w.p, ab (De Dw w.s), ab (De Ds w.f)], .var [ab (De Ez (Ey l leS)), int (if false = true then if 10000 > (bG la).fst then 10000 else (bG la).fst else if 10000 < (bG la).fst then 10000 else (bG la).fst), int 0, int 0], .map (aQ 0 sm) (Dh sm), .var [.ref (.vec 4 0), ab (De Dt w.c), ab w.p, ab (De Dw w.s), ab (De Ds w.f), int known], .vec (ai (rdR rs)) 0 5, .var [int st, ab as_], .map (aq 0 m1) (Dh m1), .map (aq 0 m2) (Dh m2), .gone, .mit (some 2) (Dh sm) bs (Dh sm)]
noncomputable abbrev Ck (w : WorldT) (known : Int) (st : Int) (sm : SM) (rs : List ReadT) (as_ : List (List Dp)) (m1 : IM) (m2 : IM) (l : List SeenT) (bs : List Nat) : List Blk := [.var [ab (De Dt w.c), ab w.p, ab (De Dw w.s), ab (De Ds w.f)], .var [ab (De Ez (Ey l leS)), int 0, int 0, int 0], .map (aQ 0 sm) (Dh sm), .var [.ref (.vec 4 0), ab (De Dt w.c), ab w.p, ab (De Dw w.s), ab (De Ds w.f), int known], .vec (ai (rdR rs)) 0 5, .var [int st, ab as_], .map (aq 0 m1) (Dh m1), .map (aq 0 m2) (Dh m2), .gone, .mit (some 2) (Dh sm) bs (Dh sm)]
theorem pw_b {w : WorldT} {known st : Int} {sm : SM} {rs : List ReadT} {la : List AttT} (hla : al la) {as_ : List (List Dp)} {m1 m2 : IM} {l : List SeenT} {bs : List Nat} (hl : l.length < 4611686018427387904) (hT : ∀ x ∈ l, ∀ y ∈ l, x.course = y.course → x = y) (h1 : ((bG la).2 != 0) = false) (h2 : ((bR la).2.2 != 0) = true) : (CW Dg Γk [] false (pP (iW EE) 4) (pwS w known st sm rs la as_ m1 m2 l bs) .ret (pwX w (bR la).2.2)) := by
 let v0 := De Ez (Ey l leS)
 let v1 : List D := [.ref (.vec 4 0), ab (De Dt w.c), ab w.p, ab (De Dw w.s), ab (De Ds w.f), int known]
 refine DN (DP (s' := { t := mkT 190 0 [(10, .ref (.ptr 1 0)), (11, nq), (12, int (bR la).snd.snd)], h := [.var [ab (De Dt w.c), ab w.p, ab (De Dw w.s), ab (De Ds w.f)], .var [nq, int 0, int 0, int 0]], m := [] }) (e := EY) pok [.st (.mask [10, 11, 12]), .st (.trim 2)] [.call (Em []) [.var (DY w), .var [.ref (.vec 8 0), int 0, int 0, int 0], .map (aQ 0 sm) (Dh sm), .var v1, .vec (ai (rdR rs)) 0 5, .var [int st, ab as_], .map (aq 0 m1) (Dh m1), .map (aq 0 m2) (Dh m2), .vec (aW (Ey l leS)) 0 4, .mit (some 2) (Dh sm) bs (Dh sm)], .st (.frz 8 v0), .val (Em [int (bG la).fst, int (bG la).snd]), .b false, .val (Em [EB [int (bR la).fst, int (bR la).snd.fst], int (bR la).snd.snd]), .b true] (by kernel_rfl) (.c (DW (Γ' := Γk) (@lp (.var (DY w)) (.var [.ref (.vec 8 0), int 0, int 0, int 0]) (.map (aQ 0 sm) (Dh sm)) (.var v1) (.vec (ai (rdR rs)) 0 5) (.var [int st, ab as_]) (.map (aq 0 m1) (Dh m1)) (.map (aq 0 m2) (Dh m2)) (.mit (some 2) (Dh sm) bs (Dh sm)) l hl hT)) (.c (show aW (Ey l leS) = De (fun x => De D.p x) v0 from ?_) (.c (show De (fun e => (DC (dh 8 0 v0) e.fst, DC (dh 8 0 v0) e.snd.fst, e.snd.snd)) (aQ 0 sm) = aQ 0 sm from ?_) (.c (show De (D6 (dh 8 0 v0)) (ai (rdR rs)) = ai (rdR rs) from ?_) (.c (show De (fun e => (DC (dh 8 0 v0) e.fst, DC (dh 8 0 v0) e.snd.fst, e.snd.snd)) (aq 0 m1) = aq 0 m1 from ?_) (.c (show De (fun e => (DC (dh 8 0 v0) e.fst, DC (dh 8 0 v0) e.snd.fst, e.snd.snd)) (aq 0 m2) = aq 0 m2 from ?_) (.c (DW (Γ' := Γk) (@ln la hla (Ck w known st sm rs as_ m1 m2 l bs))) (.c h1 (.c (DW (Γ' := Γk) (@qw la hla (Cj w known st sm rs la as_ m1 m2 l bs))) (.c h2 .n))))))))))) (by rfl) (by rfl) <;> subst v0 v1 <;> (first | assumption | rfl | exact hT | exact wZ _ | exact ae _ _ | exact aG _ _ _ | exact aF _ _ _)
noncomputable abbrev Cl (w : WorldT) (known : Int) (st : Int) (sm : SM) (rs : List ReadT) (la : List AttT) (as_ : List (List Dp)) (m1 : IM) (m2 : IM) (l : List SeenT) (bs : List Nat) : List Blk := [.var [ab (De Dt w.c), ab w.p, ab (De Dw w.s), ab (De Ds w.f)], .var [ab (De Ez (Ey l leS)), int (if false = true then if 10000 > (bG la).fst then 10000 else (bG la).fst else if 10000 < (bG la).fst then 10000 else (bG la).fst), int 0, int 0], .map (aQ 0 sm) (Dh sm), .var [.ref (.vec 4 0), ab (De Dt w.c), ab w.p, ab (De Dw w.s), ab (De Ds w.f), int known], .vec (ai (rdR rs)) 0 5, .var [int st, ab as_], .map (aq 0 m1) (Dh m1), .map (aq 0 m2) (Dh m2), .gone, .mit (some 2) (Dh sm) bs (Dh sm)]
noncomputable abbrev Cm (w : WorldT) (known : Int) (st : Int) (sm : SM) (rs : List ReadT) (as_ : List (List Dp)) (m1 : IM) (m2 : IM) (l : List SeenT) (bs : List Nat) : List Blk := [.var [ab (De Dt w.c), ab w.p, ab (De Dw w.s), ab (De Ds w.f)], .var [ab (De Ez (Ey l leS)), int 0, int 0, int 0], .map (aQ 0 sm) (Dh sm), .var [.ref (.vec 4 0), ab (De Dt w.c), ab w.p, ab (De Dw w.s), ab (De Ds w.f), int known], .vec (ai (rdR rs)) 0 5, .var [int st, ab as_], .map (aq 0 m1) (Dh m1), .map (aq 0 m2) (Dh m2), .gone, .mit (some 2) (Dh sm) bs (Dh sm)]
theorem pw_c {w : WorldT} {known st : Int} {sm : SM} {rs : List ReadT} {la : List AttT} (hla : al la) {as_ : List (List Dp)} {m1 m2 : IM} {l : List SeenT} {bs : List Nat} (hl : l.length < 4611686018427387904) (hT : ∀ x ∈ l, ∀ y ∈ l, x.course = y.course → x = y) (h1 : ((bG la).2 != 0) = false) (h2 : ((bR la).2.2 != 0) = false) : (CW Dg Γk [] false (pP (iW EE) 4) (pwS w known st sm rs la as_ m1 m2 l bs) .ret (pwE w rs la l)) := by
 let v0 := De Ez (Ey l leS)
 let v1 : List D := [ab v0, int (if false = true then if 10000 > (bG la).fst then 10000 else (bG la).fst else if 10000 < (bG la).fst then 10000 else (bG la).fst), int (bR la).fst, int (bR la).snd.fst]
 let v2 : List D := [.ref (.vec 4 0), ab (De Dt w.c), ab w.p, ab (De Dw w.s), ab (De Ds w.f), int known]
 refine DN (DP (s' := { t := mkT 190 0 [(10, .ref (.ptr 1 0)), (11, ab (rdR rs)), (12, int 0)], h := [.var [ab (De Dt w.c), ab w.p, ab (De Dw w.s), ab (De Ds w.f)], .var v1], m := [] }) (e := EY) pok [.st (.mask [10, 11, 12]), .st (.trim 2)] [.call (Em []) [.var (DY w), .var [.ref (.vec 8 0), int 0, int 0, int 0], .map (aQ 0 sm) (Dh sm), .var v2, .vec (ai (rdR rs)) 0 5, .var [int st, ab as_], .map (aq 0 m1) (Dh m1), .map (aq 0 m2) (Dh m2), .vec (aW (Ey l leS)) 0 4, .mit (some 2) (Dh sm) bs (Dh sm)], .st (.frz 8 v0), .val (Em [int (bG la).fst, int (bG la).snd]), .b false, .val (Em [EB [int (bR la).fst, int (bR la).snd.fst], int (bR la).snd.snd]), .b false, .st (.frz 4 (rdR rs))] (by kernel_rfl) (.c (DW (Γ' := Γk) (@lp (.var (DY w)) (.var [.ref (.vec 8 0), int 0, int 0, int 0]) (.map (aQ 0 sm) (Dh sm)) (.var v2) (.vec (ai (rdR rs)) 0 5) (.var [int st, ab as_]) (.map (aq 0 m1) (Dh m1)) (.map (aq 0 m2) (Dh m2)) (.mit (some 2) (Dh sm) bs (Dh sm)) l hl hT)) (.c (show aW (Ey l leS) = De (fun x => De D.p x) v0 from ?_) (.c (show De (fun e => (DC (dh 8 0 v0) e.fst, DC (dh 8 0 v0) e.snd.fst, e.snd.snd)) (aQ 0 sm) = aQ 0 sm from ?_) (.c (show De (D6 (dh 8 0 v0)) (ai (rdR rs)) = ai (rdR rs) from ?_) (.c (show De (fun e => (DC (dh 8 0 v0) e.fst, DC (dh 8 0 v0) e.snd.fst, e.snd.snd)) (aq 0 m1) = aq 0 m1 from ?_) (.c (show De (fun e => (DC (dh 8 0 v0) e.fst, DC (dh 8 0 v0) e.snd.fst, e.snd.snd)) (aq 0 m2) = aq 0 m2 from ?_) (.c (DW (Γ' := Γk) (@ln la hla (Cm w known st sm rs as_ m1 m2 l bs))) (.c h1 (.c (DW (Γ' := Γk) (@qw la hla (Cl w known st sm rs la as_ m1 m2 l bs))) (.c h2 (.c (show ai (rdR rs) = De (fun x => De D.p x) (rdR rs) from ?_) (.c (show De (fun e => (DC (dh 4 0 (rdR rs)) e.fst, DC (dh 4 0 (rdR rs)) e.snd.fst, e.snd.snd)) (aQ 0 sm) = aQ 0 sm from ?_) (.c (show De (fun e => (DC (dh 4 0 (rdR rs)) e.fst, DC (dh 4 0 (rdR rs)) e.snd.fst, e.snd.snd)) (aq 0 m1) = aq 0 m1 from ?_) (.c (show De (fun e => (DC (dh 4 0 (rdR rs)) e.fst, DC (dh 4 0 (rdR rs)) e.snd.fst, e.snd.snd)) (aq 0 m2) = aq 0 m2 from ?_) (.e (EB v1) (.e (.ref (.ptr 3 0)) (.e (.ref (.ptr 3 0)) (.e (.ref (.ptr 3 0)) (.e (.ref (.ptr 3 0)) (.e (ab (rdR rs)) (.e (ab (rdR rs)) .n)))))))))))))))))))))) (by rfl) (by rfl) <;> subst v0 v1 v2 <;> (first | assumption | rfl | exact hT | exact wZ _ | exact z7 _ | exact ae _ _ | exact aG _ _ _ | exact aF _ _ _)
def w5 : Code → Code
 | .seq (.seq a _) _ => a
 | _ => .skip
theorem y7 {w : WorldT} {known st : Int} {sm : SM} {rs : List ReadT} {cs as_ : List (List Dp)} {m1 m2 : IM} : (CW Dg Γk [] false (w5 (rq (iW EE) 4)) (nbE w known st sm rs cs as_ m1 m2) .normal { t := mkT 190 0 (mpT cs), h := mpH w known st sm rs as_ m1 m2 [] [], m := [] }) := by
 exact DN (DP (s' := { t := mkT 190 0 [(10, .ref (.ptr 1 0)), (11, nq), (17, .ref (.ptr 3 0)), (19, ab cs), (150, .ref (.it 9))], h := [.var [ab (De Dt w.c), ab w.p, ab (De Dw w.s), ab (De Ds w.f)], .var [.ref (.vec 8 0), int 0, int 0, int 0], .map (aQ 0 sm) (Dh sm), .var [.ref (.vec 4 0), ab (De Dt w.c), ab w.p, ab (De Dw w.s), ab (De Ds w.f), int known], .vec (ai (rdR rs)) 0 5, .var [int st, ab as_], .map (aq 0 m1) (Dh m1), .map (aq 0 m2) (Dh m2), .vec [] 0 4, .mit (some 2) (Dh sm) [] (Dh sm)], m := [] }) (e := DE) pok [.st (.mask [10, 11, 17, 19, 150])] [.st (.nilC 1 0 4)] (by kernel_rfl) .n) (by rfl) (by rfl)
end Go.Vi
open Go Go.Proofs
namespace Go.Vi
set_option maxRecDepth 100000
set_option maxHeartbeats 4000000
def opAt (c : Code) (i : Nat) : Oper := match c with
 | .seq (.region _ ops _) _ => ops.toList.getD i default
 | _ => default
theorem uA : rq (iW EE) 4 = .seq (.seq (w5 (rq (iW EE) 4)) (.block 8 (.loop (.seq (.region 40 #[opAt (sub EE 4) 0, opAt (sub EE 4) 1] false) (.seq (.cond (.tmp 152) .skip (.exit 8)) (Ac (sub EE 4))))))) (pP (iW EE) 4) := by kernel_rfl
theorem ot : ∀ (n i : Nat) (l : List (Nat × D)), (mkT n i l).length = n
 | 0, _, _ => rfl
 | n + 1, i, [] => by simp [mkT, ot n]
 | n + 1, i, (k, d) :: l => by
  unfold mkT
  split <;> simp [ot n]
def smV (m : SM) : List SeenT := m.map (·.2)
theorem ou : ∀ {m : SM} {j : Nat} {e : D × D × Nat}, e ∈ aQ j m → ∃ k s, e = (int k, seD s, e.2.2) ∧ j ≤ e.2.2 ∧ e.2.2 < j + m.length
 | [], _, _, h => by simp [aQ] at h
 | (k, s) :: m, j, e, h => by
  simp only [aQ, D2] at h
  rcases h with rfl | h
  ·exact ⟨k, s, rfl, by simp, by simp⟩
  ·obtain ⟨k', s', h1, h2, h3⟩ := ou h
   refine ⟨k', s', h1, by omega, by simp only [DZ]; omega⟩
theorem gn : ∀ (m : SM) (j : Nat), bH (aQ j m) = List.range' j m.length
 | [], _ => rfl
 | (k, s) :: m, j => by
  have := gn m (j + 1)
  simp only [bH] at this
  simp only [bH, aQ, En, DZ, List.range'_succ, this]
theorem qy : ∀ (m : SM) (j : Nat), (aQ j m).map y6 = smV m
 | [], _ => rfl
 | (k, s) :: m, j => by
  have := qy m (j + 1)
  simp only [aQ, En, this, smV]
  rfl
theorem lq : ∀ {l : List (D × D × Nat)} {e : D × D × Nat}, (bH l).Nodup → e ∈ l → l.find? (fun x => x.2.2 == e.2.2) = some e
 | a :: l, e, hn, he => by
  rw [List.find?_cons]
  simp only [bH, En, List.nodup_cons] at hn
  rcases D2.1 he with rfl | he
  ·simp
  ·have : (a.2.2 == e.2.2) = false := by
    simp only [beq_eq_false_iff_ne, ne_eq]
    intro hh
    exact hn.1 (hh ▸ DL.2 ⟨e, he, rfl⟩)
   rw [this]
   exact lq hn.2 he
abbrev mpS (w : WorldT) (known st : Int) (sm : SM) (rs : List ReadT) (la : List AttT) (as_ : List (List Dp)) (m1 m2 : IM) (pre : List (D × D × Nat)) : AS :=
 { t := mkT 190 0 (mpT (la.map Dk)), h := mpH w known st sm rs as_ m1 m2 (pre.map y6) (bH pre), m := [] }
theorem Cn {w : WorldT} {known st : Int} {sm : SM} {rs : List ReadT} {la : List AttT} {as_ : List (List Dp)} {m1 m2 : IM} {sF : AS} (hsm : sm.length ≤ 1000000)
  (hpost : ∀ (l : List SeenT) (bs : List Nat), l.Perm (smV sm) → CW Dg Γk [] false (pP (iW EE) 4) (pwS w known st sm rs la as_ m1 m2 l bs) .ret sF) :
  CW Dg Γk [] false (rq (iW EE) 4) (nbE w known st sm rs (la.map Dk) as_ m1 m2) .ret sF := by
 intro X r hX hr
 rw [uA]
 have hnd : (bH (aQ 0 sm)).Nodup := by rw [gn]; exact List.nodup_range'
 refine VW.seq (VW.seq (VW.mono (y7 X r hX hr) ?_))
 rintro e0 s0 ⟨rfl, rfl⟩
 show VW Dg Γk X r _ _ (mpS w known st sm rs la as_ m1 m2 [])
 refine (VW.block (VW.mapLoop (kvs := aQ 0 sm) (clock := sm.length) (b := 9) (mb := 2) (x1 := 151) (x2 := 152) (it := .tmp 150) (mpS w known st sm rs la as_ m1 m2) (by kernel_rfl) (by kernel_rfl) (by kernel_rfl) (by kernel_rfl) (by kernel_rfl) (by kernel_rfl) ?_ ?_ hnd ?_ ?_))
 ·intro pre
  exact ⟨by simp [ot], by simp [ot], rfl, rfl, rfl, rfl, fun _ => rfl⟩
 ·intro e he
  obtain ⟨_, _, _, _, h⟩ := ou he
  omega
 ·intro pre e post hp
  have hem : e ∈ aQ 0 sm := hp.mem_iff.1 (by simp)
  obtain ⟨k, s, h1, _, _⟩ := ou hem
  have hlen : pre.length ≤ 1000000 := by
   have := hp.length_eq
   have h2 : (aQ 0 sm).length = sm.length := by have := congrArg Dh (gn sm 0); simpa [bH] using this
   simp only [E7, DZ] at this
   omega
  have hen : fX (mpH w known st sm rs as_ m1 m2 (pre.map y6) (bH (pre ++ [e]))) (.ref (.it 9)) = some (.tup [int k, .agg [int s.course, int s.tries, int s.best, bool s.now]]) := by
   have hl : (bH (pre ++ [e])).getLast? = some e.2.2 := by simp [bH]
   have hf := lq hnd hem
   unfold fX
   simp only [mpH, List.getElem?_cons_succ, List.getElem?_cons_zero, hl, smB, if_true, hf, Option.map_some]
   rw [h1]; rfl
  have hb := Ch (w := w) (known := known) (st := st) (sm := sm) (rs := rs) (cs := la.map Dk) (as_ := as_) (m1 := m1) (m2 := m2) (l := pre.map y6) (bs := bH (pre ++ [e])) (k := k) (x := s) (by simpa using hlen) hen X r hX hr
  have hse : (pre ++ [e]).map y6 = pre.map y6 ++ [s] := by rw [List.map_append, h1]; rfl
  have he1 : e.1 = int k := by rw [h1]
  have he2 : e.2.1 = seD s := by rw [h1]
  rw [he1, he2]
  refine VW.mono hb ?_
  rintro e' s' ⟨rfl, rfl⟩
  refine ⟨rfl, ?_⟩
  show _ = ({ t := _, h := mpH w known st sm rs as_ m1 m2 ((pre ++ [e]).map y6) (bH (pre ++ [e])), m := [] } : AS)
  rw [hse]
 ·intro pre hp
  have hperm : (pre.map y6).Perm (smV sm) := by rw [← qy sm 0]; exact hp.map _
  exact hpost (pre.map y6) (bH pre) hperm X r hX hr
end Go.Vi
open Go Go.Proofs
namespace Go.Vi
set_option maxRecDepth 100000
set_option maxHeartbeats 4000000
theorem ow {w : WorldT} (hw : w.ok) {known st term : Int} : (ek w known st term).length ≤ 70656000 := by
 have := mU hw (known := known) (st := st) (term := term)
 unfold ek
 simpa using this
theorem Co (m : IM) (e : AttT × Nat) (out : List AttT) : (cgF m e out).length ≤ out.length + 1 := by
 unfold cgF; cases cgHit m e.2 e.1 <;> simp
theorem mZ (m : IM) : ∀ (l : List (AttT × Nat)) (out : List AttT), (l.foldl (fun out e => cgF m e out) out).length ≤ out.length + l.length
 | [], _ => by simp
 | e :: l, out => by
  have h1 := mZ m l (cgF m e out)
  have h2 := Co m e out
  simp only [List.foldl_cons, DZ]; omega
theorem w6 (l : List AttT) (m : IM) : (om l m).length ≤ l.length := by
 have := mZ m l.zipIdx []
 simpa [om] using this
theorem w7 (l : List AttT) (rp : List Int) : (lV l rp).1.length ≤ l.length := by
 unfold lV
 cases decide (di l = 0)
 ·simp
 ·cases decide (rp.length = l.length)
  ·simp
  ·simp only [cond_true]
   split
   ·exact w6 _ _
   ·simp
end Go.Vi
