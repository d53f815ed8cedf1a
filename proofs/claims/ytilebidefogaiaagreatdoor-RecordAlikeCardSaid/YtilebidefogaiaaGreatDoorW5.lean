/- RecordAlike: part of the proof: contracts of the functions that the law reaches, and the law. No conditions beyond the given statement's own. -/
import Derived.Test.YtilebidefogaiaaGreatDoorW4
open Go.Vi.AttT renaming row → Dy
open Go.Proofs.Tryz renaming prog → Du, f118 → FI, f61 → IT, f19 → EW
open Int renaming toNat → DN
open Option renaming isSome → DS, getD → Em
open List renaming getD → D9, length → Dw, map → Dt, getElem?_eq_some_iff → DA, getElem?_eq_getElem → DT, length_zipIdx → Je, replicate → D5
open Go.Vi.D renaming p → GW, tup → Es, any → EN, mapRL → El, mapR → DR
open Go.Vi.Dp renaming v → F9
open Go.Value renaming nilFunc → Ej, oneCell' → Ez
open Go.IntKind renaming i64 → Dz, wrap → DG
open Go.Vi.CW renaming cast → DU, symX → DV, each → Hy
open Go.Exit renaming normal → DQ, ret → E7, exit → Ea
open Go.Vi.Blk renaming inn → DL
open Go.Vi.Ev renaming castH → DI, sym0 → DX, glob0 → D7
open Go.Vi.CourseT renaming row → DF
open Go.Vi.SysT renaming row → DJ
open Go.Vi.FactT renaming row → DE
open Go.Vi.RuleT renaming fl → DC
open Go.Vi.WorldT renaming l → Eb
open Go Go.Proofs
namespace Go.Vi
set_option maxRecDepth 100000
set_option maxHeartbeats 4000000
abbrev caH (m1 m2 : IM) : List Blk := [.var w7, imB m1, imB m2]
abbrev caS (l : List AttT) (rp : List (List Dp)) (m1 m2 : IM) (i : Int) : AS :=
 { t := mkT 135 0 [(0, ab (l.map Dy)), (1, ab rp), (4, dl), (5, int 0), (6, .ref (.ptr 0 0)), (7, .ref (.mp 1)), (8, .ref (.mp 2)), (32, ab (l.map Dy)), (33, int (l.map Dy).length), (34, int i)], h := caH m1 m2, m := [] }
theorem lk1 {h : List Blk} {m : IM} {c : Int} (hb : h[1]? = some (imB m)) : ar Du h 125 (.ref (.mp 1)) (int c) true = some (.tup [int ((imGet m c).getD 0), bool (imGet m c).isSome]) := qv (kt := 3) (et := 3) (by kernel_rfl) (by kernel_rfl) (by kernel_rfl) hb
theorem lk2 {h : List Blk} {m : IM} {c : Int} (hb : h[2]? = some (imB m)) : ar Du h 125 (.ref (.mp 2)) (int c) true = some (.tup [int ((imGet m c).getD 0), bool (imGet m c).isSome]) := qv (kt := 3) (et := 3) (by kernel_rfl) (by kernel_rfl) (by kernel_rfl) hb
theorem up1 {h : List Blk} {m : IM} {c v : Int} (hb : h[1]? = some (imB m)) : ap Du h 125 (.ref (.mp 1)) (int c) (int v) = some (h.set 1 (imB (aL m c v))) := ij (kt := 3) (et := 3) (by kernel_rfl) (by kernel_rfl) hb
theorem up2 {h : List Blk} {m : IM} {c v : Int} (hb : h[2]? = some (imB m)) : ap Du h 125 (.ref (.mp 2)) (int c) (int v) = some (h.set 2 (imB (aL m c v))) := ij (kt := 3) (et := 3) (by kernel_rfl) (by kernel_rfl) hb
def bG (r : Int) (o : Option Int) : Bool := !(decide (r ≥ 0) && decide (r ≤ 2)) || (o.isSome && (o.getD 0 != r))
def rep0 (a b : AttT) : Bool := decide (a.grade > b.grade) || (a.grade == b.grade && decide (a.term < b.term))
def rep1 (a b : AttT) : Bool := decide (a.term ≥ b.term)
def repB (r : Int) (a b : AttT) : Bool := if r = 0 then rep0 a b else rep1 a b
def cq (l : List AttT) (r : Int) (a : AttT) (o : Option Int) : Bool := (r == 0 || r == 1) && (!o.isSome || repB r a (l.getD (DN (o.getD 0)) default))
def caF (l : List AttT) (i : Int) (r : Int) (a : AttT) (s : IM × IM) : (IM × IM) ⊕ Unit := match bG r (imGet s.1 a.course) with
 | true => .inr ()
 | false => .inl (aL s.1 a.course r, match cq l r a (imGet s.2 a.course) with | true => aL s.2 a.course i | false => s.2)
abbrev caX : Unit → Exit × AS := fun _ => (.ret, { t := mkT 135 0 [(4, dl), (5, int 1)], h := [], m := [] })
theorem caHit0 {l : List AttT} {a : AttT} {o : Option Int} : cq l 0 a o = (true && (!DS o || (decide (a.grade > (D9 l (DN (Em o 0)) default).grade) || (a.grade == (D9 l (DN (Em o 0)) default).grade && decide (a.term < (D9 l (DN (Em o 0)) default).term))))) := by simp [cq, repB, rep0]
theorem caHit1 {l : List AttT} {a : AttT} {o : Option Int} : cq l 1 a o = (true && (!DS o || decide (a.term ≥ (D9 l (DN (Em o 0)) default).term))) := by simp [cq, repB, rep1]
theorem w8 {l : List AttT} {a : AttT} {o : Option Int} : cq l 2 a o = false := by simp [cq]
noncomputable abbrev e9 (m1 : IM) (m2 : IM) (a : AttT) : List Blk := [.var [bool true, fq 208, bool true, fq 209, bool false, GW (F9 Ej)], .map (aq 0 (aL m1 a.course 0)) (Dw (aL m1 a.course 0)), .map (aq 0 m2) (Dw m2), .var [int a.course, int a.term, int a.grade, int a.campus, int a.credits]]
noncomputable abbrev d9 (m1 : IM) (m2 : IM) (a : AttT) : List Blk := [.var [bool true, fq 208, bool true, fq 209, bool false, GW (F9 Ej)], .map (aq 0 m1) (Dw m1), .map (aq 0 m2) (Dw m2), .var [int a.course, int a.term, int a.grade, int a.campus, int a.credits]]
theorem ca_b0 {l : List AttT} {rp : List (List Dp)} {m1 m2 : IM} {i : Nat} {a : AttT} (hm : ∀ v, imGet m2 a.course = some v → 0 ≤ v ∧ v < (l.length : Int)) (hr : aM (i : Int) (l.map Dy) a.row 5) (hq : aM (i : Int) rp [vi 0] 1) (hlt : decide ((i : Int) < ((l.map Dy).length : Int)) = true) (hw : Dz.wrap ((i : Int) + 1) = ((i + 1 : Nat) : Int)) : (CW Du Γ0 [] false (sub FI 0) (caS l rp m1 m2 i) (ad (fun s => caS l rp s.1 s.2 ((i + 1 : Nat) : Int)) caX (caF l i 0 a (m1, m2))).1 (ad (fun s => caS l rp s.1 s.2 ((i + 1 : Nat) : Int)) caX (caF l i 0 a (m1, m2))).2) := by
 cases hc0 : !(decide (0 ≥ 0) && decide (0 ≤ 2)) || DS (imGet m1 a.course) && Em (imGet m1 a.course) 0 != 0
 ·cases hc1 : true && (!DS (imGet m2 a.course) || (decide (a.grade > (D9 l (DN (Em (imGet m2 a.course) 0)) default).grade) || a.grade == (D9 l (DN (Em (imGet m2 a.course) 0)) default).grade && decide (a.term < (D9 l (DN (Em (imGet m2 a.course) 0)) default).term)))
  ·let v0 := D9 l (DN (Em (imGet m2 a.course) 0)) default
   let v1 := Es [int (Em (imGet m1 a.course) 0), bool (DS (imGet m1 a.course))]
   let v2 := Es [int (Em (imGet m2 a.course) 0), bool (DS (imGet m2 a.course))]
   refine DU (DV (s' := { t := mkT 135 0 [(0, ab (Dt Dy l)), (1, ab rp), (4, nq), (5, int 0), (6, .ref (.ptr 0 0)), (7, .ref (.mp 1)), (8, .ref (.mp 2)), (32, ab (Dt Dy l)), (33, int (↑(Dw (Dt Dy l)) : Int)), (34, int (DG Dz ((↑i : Int) + 1)))], h := [.var [bool true, fq 208, bool true, fq 209, bool false, GW (F9 Ej)], .map (aq 0 (aL m1 a.course 0)) (Dw (aL m1 a.course 0)), .map (aq 0 m2) (Dw m2)], m := [] }) (e := DQ) pok [.st (.mask [0, 1, 4, 5, 6, 7, 8, 32, 33, 34]), .st (.trimV 3)] [.b true, .row (Dy a), .ov 43 v1, .row [vi 0], .val (bool (decide (0 ≥ 0) && decide (0 ≤ 2))), .row [vi 0], .b false, .row [vi 0], .oh 10063 EN (caH (aL m1 a.course 0) m2 ++ [.var (Dt GW (Dy a))]), .ov 74 v2, .row [vi 0], .row [vi 0], .row (Dy v0), .val (bool (decide (a.grade > v0.grade) || a.grade == v0.grade && decide (a.term < v0.term))), .b false] (by kernel_rfl) (.c hlt (.c hr (.c (show ar Du (d9 m1 m2 a) 125 (.ref (.mp 1)) (int a.course) true = some v1 from ?_) (.c hq (.c (@cD 0 0 2 (d9 m1 m2 a)) (.c (show (!!(decide (0 ≥ 0) && decide (0 ≤ 2)) && DS (imGet m1 a.course)) = true → aM (↑i : Int) rp [vi 0] 1 from (fun hg => hq)) (.c hc0 (.c hq (.c (show ap Du (d9 m1 m2 a) 125 (.ref (.mp 1)) (int a.course) (int 0) = some (e9 m1 m2 a) from ?_) (.e (.ref (.ptr 3 0)) (.e (int a.course) (.c (show ar Du (e9 m1 m2 a) 125 (.ref (.mp 2)) (int a.course) true = some v2 from ?_) (.c hq (.c (show inR 0 3 = true from rfl) (.c (show (true && !!DS (imGet m2 a.course)) = true → aM (↑i : Int) rp [vi 0] 1 from (fun hg => hq)) (.c (show (true && !!DS (imGet m2 a.course)) = true → inR 0 3 = true from (fun hg => rfl)) (.c (show (true && !!DS (imGet m2 a.course)) = true → aM (Em (imGet m2 a.course) 0) (Dt Dy l) (Dy v0) 5 from (fun hg => ?_)) (.c (gd (true && !!DS (imGet m2 a.course)) (@w4 a v0 (e9 m1 m2 a))) (.c hc1 (.c (show DL 3 (.var [bool true, fq 208, bool true, fq 209, bool false, GW (F9 Ej)]) = true from rfl) (.c (show DL 3 (.map (aq 0 (aL m1 a.course 0)) (Dw (aL m1 a.course 0))) = true from ?_) (.c (show DL 3 (.map (aq 0 m2) (Dw m2)) = true from ?_) .n))))))))))))))))))))))) (by subst v0 v1 v2; first | (have h1 : bG 0 (imGet m1 a.course) = true := hc0; simp only [caF, h1, ad]; first | done | rfl) | (have h1 : bG 0 (imGet m1 a.course) = false := hc0; have h2 : cq l 0 a (imGet m2 a.course) = true := caHit0.trans hc1; simp only [caF, h1, h2, ad, hw]; first | done | rfl) | (have h1 : bG 0 (imGet m1 a.course) = false := hc0; have h2 : cq l 0 a (imGet m2 a.course) = false := caHit0.trans hc1; simp only [caF, h1, h2, ad]; first | done | rfl)) (by subst v0 v1 v2; first | (have h1 : bG 0 (imGet m1 a.course) = true := hc0; simp only [caF, h1, ad]; first | done | rfl) | (have h1 : bG 0 (imGet m1 a.course) = false := hc0; have h2 : cq l 0 a (imGet m2 a.course) = true := caHit0.trans hc1; simp only [caF, h1, h2, ad, hw]; first | done | rfl) | (have h1 : bG 0 (imGet m1 a.course) = false := hc0; have h2 : cq l 0 a (imGet m2 a.course) = false := caHit0.trans hc1; simp only [caF, h1, h2, ad, hw]; first | done | rfl)) <;> subst v0 v1 v2 <;> (first | assumption | rfl | exact lk1 rfl | exact lk2 rfl | exact up1 rfl | exact up2 rfl | exact aR | (refine bk (fun _ => rfl) ?_ ?_ <;> (cases hz : imGet m2 a.course <;> simp_all; done)) | (simp_all; done))
  ·let v0 := D9 l (DN (Em (imGet m2 a.course) 0)) default
   let v1 := Es [int (Em (imGet m1 a.course) 0), bool (DS (imGet m1 a.course))]
   let v2 := Es [int (Em (imGet m2 a.course) 0), bool (DS (imGet m2 a.course))]
   let v3 := Dw (aL m1 a.course 0)
   refine DU (DV (s' := { t := mkT 135 0 [(0, ab (Dt Dy l)), (1, ab rp), (4, nq), (5, int 0), (6, .ref (.ptr 0 0)), (7, .ref (.mp 1)), (8, .ref (.mp 2)), (32, ab (Dt Dy l)), (33, int (↑(Dw (Dt Dy l)) : Int)), (34, int (DG Dz ((↑i : Int) + 1)))], h := [.var [bool true, fq 208, bool true, fq 209, bool false, GW (F9 Ej)], .map (aq 0 (aL m1 a.course 0)) v3, .map (aq 0 (aL m2 a.course (↑i : Int))) (Dw (aL m2 a.course (↑i : Int)))], m := [] }) (e := DQ) pok [.st (.mask [0, 1, 4, 5, 6, 7, 8, 32, 33, 34]), .st (.trimV 3)] [.b true, .row (Dy a), .ov 43 v1, .row [vi 0], .val (bool (decide (0 ≥ 0) && decide (0 ≤ 2))), .row [vi 0], .b false, .row [vi 0], .oh 10063 EN (caH (aL m1 a.course 0) m2 ++ [.var (Dt GW (Dy a))]), .ov 74 v2, .row [vi 0], .row [vi 0], .row (Dy v0), .val (bool (decide (a.grade > v0.grade) || a.grade == v0.grade && decide (a.term < v0.term))), .b true, .oh 10103 EN (caH (aL m1 a.course 0) (aL m2 a.course (↑i : Int)) ++ [.var (Dt GW (Dy a))])] (by kernel_rfl) (.c hlt (.c hr (.c (show ar Du (d9 m1 m2 a) 125 (.ref (.mp 1)) (int a.course) true = some v1 from ?_) (.c hq (.c (@cD 0 0 2 (d9 m1 m2 a)) (.c (show (!!(decide (0 ≥ 0) && decide (0 ≤ 2)) && DS (imGet m1 a.course)) = true → aM (↑i : Int) rp [vi 0] 1 from (fun hg => hq)) (.c hc0 (.c hq (.c (show ap Du (d9 m1 m2 a) 125 (.ref (.mp 1)) (int a.course) (int 0) = some (e9 m1 m2 a) from ?_) (.e (.ref (.ptr 3 0)) (.e (int a.course) (.c (show ar Du (e9 m1 m2 a) 125 (.ref (.mp 2)) (int a.course) true = some v2 from ?_) (.c hq (.c (show inR 0 3 = true from rfl) (.c (show (true && !!DS (imGet m2 a.course)) = true → aM (↑i : Int) rp [vi 0] 1 from (fun hg => hq)) (.c (show (true && !!DS (imGet m2 a.course)) = true → inR 0 3 = true from (fun hg => rfl)) (.c (show (true && !!DS (imGet m2 a.course)) = true → aM (Em (imGet m2 a.course) 0) (Dt Dy l) (Dy v0) 5 from (fun hg => ?_)) (.c (gd (true && !!DS (imGet m2 a.course)) (@w4 a v0 (e9 m1 m2 a))) (.c hc1 (.c (show ap Du (e9 m1 m2 a) 125 (.ref (.mp 2)) (int a.course) (int (↑i : Int)) = some [.var [bool true, fq 208, bool true, fq 209, bool false, GW (F9 Ej)], .map (aq 0 (aL m1 a.course 0)) v3, .map (aq 0 (aL m2 a.course (↑i : Int))) (Dw (aL m2 a.course (↑i : Int))), .var [int a.course, int a.term, int a.grade, int a.campus, int a.credits]] from ?_) (.c (show DL 3 (.var [bool true, fq 208, bool true, fq 209, bool false, GW (F9 Ej)]) = true from rfl) (.c (show DL 3 (.map (aq 0 (aL m1 a.course 0)) v3) = true from ?_) (.c (show DL 3 (.map (aq 0 (aL m2 a.course (↑i : Int))) (Dw (aL m2 a.course (↑i : Int)))) = true from ?_) .n)))))))))))))))))))))))) (by subst v0 v1 v2 v3; first | (have h1 : bG 0 (imGet m1 a.course) = true := hc0; simp only [caF, h1, ad]; first | done | rfl) | (have h1 : bG 0 (imGet m1 a.course) = false := hc0; have h2 : cq l 0 a (imGet m2 a.course) = true := caHit0.trans hc1; simp only [caF, h1, h2, ad]; first | done | rfl) | (have h1 : bG 0 (imGet m1 a.course) = false := hc0; have h2 : cq l 0 a (imGet m2 a.course) = false := caHit0.trans hc1; simp only [caF, h1, h2, ad, hw]; first | done | rfl)) (by subst v0 v1 v2 v3; first | (have h1 : bG 0 (imGet m1 a.course) = true := hc0; simp only [caF, h1, ad]; first | done | rfl) | (have h1 : bG 0 (imGet m1 a.course) = false := hc0; have h2 : cq l 0 a (imGet m2 a.course) = true := caHit0.trans hc1; simp only [caF, h1, h2, ad, hw]; first | done | rfl) | (have h1 : bG 0 (imGet m1 a.course) = false := hc0; have h2 : cq l 0 a (imGet m2 a.course) = false := caHit0.trans hc1; simp only [caF, h1, h2, ad, hw]; first | done | rfl)) <;> subst v0 v1 v2 v3 <;> (first | assumption | rfl | exact lk1 rfl | exact lk2 rfl | exact up1 rfl | exact up2 rfl | exact aR | (refine bk (fun _ => rfl) ?_ ?_ <;> (cases hz : imGet m2 a.course <;> simp_all; done)) | (simp_all; done))
 ·let v0 := Es [int (Em (imGet m1 a.course) 0), bool (DS (imGet m1 a.course))]
  refine DU (DV (s' := { t := mkT 135 0 [(4, nq), (5, int 1)], h := [], m := [] }) (e := E7) pok [.st (.mask [4, 5]), .st (.trimV 0)] [.b true, .row (Dy a), .ov 43 v0, .row [vi 0], .val (bool (decide (0 ≥ 0) && decide (0 ≤ 2))), .row [vi 0], .b true] (by kernel_rfl) (.c hlt (.c hr (.c (show ar Du (d9 m1 m2 a) 125 (.ref (.mp 1)) (int a.course) true = some v0 from (by subst v0; first | assumption | rfl | exact lk1 rfl | exact lk2 rfl | exact up1 rfl | exact up2 rfl | exact aR | (refine bk (fun _ => rfl) ?_ ?_ <;> (cases hz : imGet m2 a.course <;> simp_all; done)) | (simp_all; done))) (.c hq (.c (@cD 0 0 2 (d9 m1 m2 a)) (.c (show (!!(decide (0 ≥ 0) && decide (0 ≤ 2)) && DS (imGet m1 a.course)) = true → aM (↑i : Int) rp [vi 0] 1 from (fun hg => hq)) (.c hc0 .n)))))))) ?_ ?_ <;> subst v0 <;> (first | (have h1 : bG 0 (imGet m1 a.course) = true := hc0; simp only [caF, h1, ad]; first | done | rfl) | (have h1 : bG 0 (imGet m1 a.course) = false := hc0; have h2 : cq l 0 a (imGet m2 a.course) = true := caHit0.trans hc1; simp only [caF, h1, h2, ad, hw]; first | done | rfl) | (have h1 : bG 0 (imGet m1 a.course) = false := hc0; have h2 : cq l 0 a (imGet m2 a.course) = false := caHit0.trans hc1; simp only [caF, h1, h2, ad, hw]; first | done | rfl))
noncomputable abbrev fa (m1 : IM) (m2 : IM) (a : AttT) : List Blk := [.var [bool true, fq 208, bool true, fq 209, bool false, GW (F9 Ej)], .map (aq 0 (aL m1 a.course 1)) (Dw (aL m1 a.course 1)), .map (aq 0 m2) (Dw m2), .var [int a.course, int a.term, int a.grade, int a.campus, int a.credits]]
noncomputable abbrev ed (m1 : IM) (m2 : IM) (a : AttT) : List Blk := [.var [bool true, fq 208, bool true, fq 209, bool false, GW (F9 Ej)], .map (aq 0 m1) (Dw m1), .map (aq 0 m2) (Dw m2), .var [int a.course, int a.term, int a.grade, int a.campus, int a.credits]]
theorem ca_b1 {l : List AttT} {rp : List (List Dp)} {m1 m2 : IM} {i : Nat} {a : AttT} (hm : ∀ v, imGet m2 a.course = some v → 0 ≤ v ∧ v < (l.length : Int)) (hr : aM (i : Int) (l.map Dy) a.row 5) (hq : aM (i : Int) rp [vi 1] 1) (hlt : decide ((i : Int) < ((l.map Dy).length : Int)) = true) (hw : Dz.wrap ((i : Int) + 1) = ((i + 1 : Nat) : Int)) : (CW Du Γ0 [] false (sub FI 0) (caS l rp m1 m2 i) (ad (fun s => caS l rp s.1 s.2 ((i + 1 : Nat) : Int)) caX (caF l i 1 a (m1, m2))).1 (ad (fun s => caS l rp s.1 s.2 ((i + 1 : Nat) : Int)) caX (caF l i 1 a (m1, m2))).2) := by
 cases hc0 : !(decide (1 ≥ 0) && decide (1 ≤ 2)) || DS (imGet m1 a.course) && Em (imGet m1 a.course) 0 != 1
 ·cases hc1 : true && (!DS (imGet m2 a.course) || decide (a.term ≥ (D9 l (DN (Em (imGet m2 a.course) 0)) default).term))
  ·let v0 := D9 l (DN (Em (imGet m2 a.course) 0)) default
   let v1 := Es [int (Em (imGet m1 a.course) 0), bool (DS (imGet m1 a.course))]
   let v2 := Es [int (Em (imGet m2 a.course) 0), bool (DS (imGet m2 a.course))]
   refine DU (DV (s' := { t := mkT 135 0 [(0, ab (Dt Dy l)), (1, ab rp), (4, nq), (5, int 0), (6, .ref (.ptr 0 0)), (7, .ref (.mp 1)), (8, .ref (.mp 2)), (32, ab (Dt Dy l)), (33, int (↑(Dw (Dt Dy l)) : Int)), (34, int (DG Dz ((↑i : Int) + 1)))], h := [.var [bool true, fq 208, bool true, fq 209, bool false, GW (F9 Ej)], .map (aq 0 (aL m1 a.course 1)) (Dw (aL m1 a.course 1)), .map (aq 0 m2) (Dw m2)], m := [] }) (e := DQ) pok [.st (.mask [0, 1, 4, 5, 6, 7, 8, 32, 33, 34]), .st (.trimV 3)] [.b true, .row (Dy a), .ov 43 v1, .row [vi 1], .val (bool (decide (1 ≥ 0) && decide (1 ≤ 2))), .row [vi 1], .b false, .row [vi 1], .oh 10063 EN (caH (aL m1 a.course 1) m2 ++ [.var (Dt GW (Dy a))]), .ov 74 v2, .row [vi 1], .row [vi 1], .row (Dy v0), .val (bool (decide (a.term ≥ v0.term))), .b false] (by kernel_rfl) (.c hlt (.c hr (.c (show ar Du (ed m1 m2 a) 125 (.ref (.mp 1)) (int a.course) true = some v1 from ?_) (.c hq (.c (@cD 1 0 2 (ed m1 m2 a)) (.c (show (!!(decide (1 ≥ 0) && decide (1 ≤ 2)) && DS (imGet m1 a.course)) = true → aM (↑i : Int) rp [vi 1] 1 from (fun hg => hq)) (.c hc0 (.c hq (.c (show ap Du (ed m1 m2 a) 125 (.ref (.mp 1)) (int a.course) (int 1) = some (fa m1 m2 a) from ?_) (.e (.ref (.ptr 3 0)) (.e (int a.course) (.c (show ar Du (fa m1 m2 a) 125 (.ref (.mp 2)) (int a.course) true = some v2 from ?_) (.c hq (.c (show inR 1 3 = true from rfl) (.c (show (true && !!DS (imGet m2 a.course)) = true → aM (↑i : Int) rp [vi 1] 1 from (fun hg => hq)) (.c (show (true && !!DS (imGet m2 a.course)) = true → inR 1 3 = true from (fun hg => rfl)) (.c (show (true && !!DS (imGet m2 a.course)) = true → aM (Em (imGet m2 a.course) 0) (Dt Dy l) (Dy v0) 5 from (fun hg => ?_)) (.c (gd (true && !!DS (imGet m2 a.course)) (@w6 a v0 (fa m1 m2 a))) (.c hc1 (.c (show DL 3 (.var [bool true, fq 208, bool true, fq 209, bool false, GW (F9 Ej)]) = true from rfl) (.c (show DL 3 (.map (aq 0 (aL m1 a.course 1)) (Dw (aL m1 a.course 1))) = true from ?_) (.c (show DL 3 (.map (aq 0 m2) (Dw m2)) = true from ?_) .n))))))))))))))))))))))) (by subst v0 v1 v2; first | (have h1 : bG 1 (imGet m1 a.course) = true := hc0; simp only [caF, h1, ad]; first | done | rfl) | (have h1 : bG 1 (imGet m1 a.course) = false := hc0; have h2 : cq l 1 a (imGet m2 a.course) = true := caHit1.trans hc1; simp only [caF, h1, h2, ad, hw]; first | done | rfl) | (have h1 : bG 1 (imGet m1 a.course) = false := hc0; have h2 : cq l 1 a (imGet m2 a.course) = false := caHit1.trans hc1; simp only [caF, h1, h2, ad]; first | done | rfl)) (by subst v0 v1 v2; first | (have h1 : bG 1 (imGet m1 a.course) = true := hc0; simp only [caF, h1, ad]; first | done | rfl) | (have h1 : bG 1 (imGet m1 a.course) = false := hc0; have h2 : cq l 1 a (imGet m2 a.course) = true := caHit1.trans hc1; simp only [caF, h1, h2, ad, hw]; first | done | rfl) | (have h1 : bG 1 (imGet m1 a.course) = false := hc0; have h2 : cq l 1 a (imGet m2 a.course) = false := caHit1.trans hc1; simp only [caF, h1, h2, ad, hw]; first | done | rfl)) <;> subst v0 v1 v2 <;> (first | assumption | rfl | exact lk1 rfl | exact lk2 rfl | exact up1 rfl | exact up2 rfl | exact aR | (refine bk (fun _ => rfl) ?_ ?_ <;> (cases hz : imGet m2 a.course <;> simp_all; done)) | (simp_all; done))
  ·let v0 := D9 l (DN (Em (imGet m2 a.course) 0)) default
   let v1 := Es [int (Em (imGet m1 a.course) 0), bool (DS (imGet m1 a.course))]
   let v2 := Es [int (Em (imGet m2 a.course) 0), bool (DS (imGet m2 a.course))]
   let v3 := Dw (aL m1 a.course 1)
   refine DU (DV (s' := { t := mkT 135 0 [(0, ab (Dt Dy l)), (1, ab rp), (4, nq), (5, int 0), (6, .ref (.ptr 0 0)), (7, .ref (.mp 1)), (8, .ref (.mp 2)), (32, ab (Dt Dy l)), (33, int (↑(Dw (Dt Dy l)) : Int)), (34, int (DG Dz ((↑i : Int) + 1)))], h := [.var [bool true, fq 208, bool true, fq 209, bool false, GW (F9 Ej)], .map (aq 0 (aL m1 a.course 1)) v3, .map (aq 0 (aL m2 a.course (↑i : Int))) (Dw (aL m2 a.course (↑i : Int)))], m := [] }) (e := DQ) pok [.st (.mask [0, 1, 4, 5, 6, 7, 8, 32, 33, 34]), .st (.trimV 3)] [.b true, .row (Dy a), .ov 43 v1, .row [vi 1], .val (bool (decide (1 ≥ 0) && decide (1 ≤ 2))), .row [vi 1], .b false, .row [vi 1], .oh 10063 EN (caH (aL m1 a.course 1) m2 ++ [.var (Dt GW (Dy a))]), .ov 74 v2, .row [vi 1], .row [vi 1], .row (Dy v0), .val (bool (decide (a.term ≥ v0.term))), .b true, .oh 10103 EN (caH (aL m1 a.course 1) (aL m2 a.course (↑i : Int)) ++ [.var (Dt GW (Dy a))])] (by kernel_rfl) (.c hlt (.c hr (.c (show ar Du (ed m1 m2 a) 125 (.ref (.mp 1)) (int a.course) true = some v1 from ?_) (.c hq (.c (@cD 1 0 2 (ed m1 m2 a)) (.c (show (!!(decide (1 ≥ 0) && decide (1 ≤ 2)) && DS (imGet m1 a.course)) = true → aM (↑i : Int) rp [vi 1] 1 from (fun hg => hq)) (.c hc0 (.c hq (.c (show ap Du (ed m1 m2 a) 125 (.ref (.mp 1)) (int a.course) (int 1) = some (fa m1 m2 a) from ?_) (.e (.ref (.ptr 3 0)) (.e (int a.course) (.c (show ar Du (fa m1 m2 a) 125 (.ref (.mp 2)) (int a.course) true = some v2 from ?_) (.c hq (.c (show inR 1 3 = true from rfl) (.c (show (true && !!DS (imGet m2 a.course)) = true → aM (↑i : Int) rp [vi 1] 1 from (fun hg => hq)) (.c (show (true && !!DS (imGet m2 a.course)) = true → inR 1 3 = true from (fun hg => rfl)) (.c (show (true && !!DS (imGet m2 a.course)) = true → aM (Em (imGet m2 a.course) 0) (Dt Dy l) (Dy v0) 5 from (fun hg => ?_)) (.c (gd (true && !!DS (imGet m2 a.course)) (@w6 a v0 (fa m1 m2 a))) (.c hc1 (.c (show ap Du (fa m1 m2 a) 125 (.ref (.mp 2)) (int a.course) (int (↑i : Int)) = some [.var [bool true, fq 208, bool true, fq 209, bool false, GW (F9 Ej)], .map (aq 0 (aL m1 a.course 1)) v3, .map (aq 0 (aL m2 a.course (↑i : Int))) (Dw (aL m2 a.course (↑i : Int))), .var [int a.course, int a.term, int a.grade, int a.campus, int a.credits]] from ?_) (.c (show DL 3 (.var [bool true, fq 208, bool true, fq 209, bool false, GW (F9 Ej)]) = true from rfl) (.c (show DL 3 (.map (aq 0 (aL m1 a.course 1)) v3) = true from ?_) (.c (show DL 3 (.map (aq 0 (aL m2 a.course (↑i : Int))) (Dw (aL m2 a.course (↑i : Int)))) = true from ?_) .n)))))))))))))))))))))))) (by subst v0 v1 v2 v3; first | (have h1 : bG 1 (imGet m1 a.course) = true := hc0; simp only [caF, h1, ad]; first | done | rfl) | (have h1 : bG 1 (imGet m1 a.course) = false := hc0; have h2 : cq l 1 a (imGet m2 a.course) = true := caHit1.trans hc1; simp only [caF, h1, h2, ad]; first | done | rfl) | (have h1 : bG 1 (imGet m1 a.course) = false := hc0; have h2 : cq l 1 a (imGet m2 a.course) = false := caHit1.trans hc1; simp only [caF, h1, h2, ad, hw]; first | done | rfl)) (by subst v0 v1 v2 v3; first | (have h1 : bG 1 (imGet m1 a.course) = true := hc0; simp only [caF, h1, ad]; first | done | rfl) | (have h1 : bG 1 (imGet m1 a.course) = false := hc0; have h2 : cq l 1 a (imGet m2 a.course) = true := caHit1.trans hc1; simp only [caF, h1, h2, ad, hw]; first | done | rfl) | (have h1 : bG 1 (imGet m1 a.course) = false := hc0; have h2 : cq l 1 a (imGet m2 a.course) = false := caHit1.trans hc1; simp only [caF, h1, h2, ad, hw]; first | done | rfl)) <;> subst v0 v1 v2 v3 <;> (first | assumption | rfl | exact lk1 rfl | exact lk2 rfl | exact up1 rfl | exact up2 rfl | exact aR | (refine bk (fun _ => rfl) ?_ ?_ <;> (cases hz : imGet m2 a.course <;> simp_all; done)) | (simp_all; done))
 ·let v0 := Es [int (Em (imGet m1 a.course) 0), bool (DS (imGet m1 a.course))]
  refine DU (DV (s' := { t := mkT 135 0 [(4, nq), (5, int 1)], h := [], m := [] }) (e := E7) pok [.st (.mask [4, 5]), .st (.trimV 0)] [.b true, .row (Dy a), .ov 43 v0, .row [vi 1], .val (bool (decide (1 ≥ 0) && decide (1 ≤ 2))), .row [vi 1], .b true] (by kernel_rfl) (.c hlt (.c hr (.c (show ar Du (ed m1 m2 a) 125 (.ref (.mp 1)) (int a.course) true = some v0 from (by subst v0; first | assumption | rfl | exact lk1 rfl | exact lk2 rfl | exact up1 rfl | exact up2 rfl | exact aR | (refine bk (fun _ => rfl) ?_ ?_ <;> (cases hz : imGet m2 a.course <;> simp_all; done)) | (simp_all; done))) (.c hq (.c (@cD 1 0 2 (ed m1 m2 a)) (.c (show (!!(decide (1 ≥ 0) && decide (1 ≤ 2)) && DS (imGet m1 a.course)) = true → aM (↑i : Int) rp [vi 1] 1 from (fun hg => hq)) (.c hc0 .n)))))))) ?_ ?_ <;> subst v0 <;> (first | (have h1 : bG 1 (imGet m1 a.course) = true := hc0; simp only [caF, h1, ad]; first | done | rfl) | (have h1 : bG 1 (imGet m1 a.course) = false := hc0; have h2 : cq l 1 a (imGet m2 a.course) = true := caHit1.trans hc1; simp only [caF, h1, h2, ad, hw]; first | done | rfl) | (have h1 : bG 1 (imGet m1 a.course) = false := hc0; have h2 : cq l 1 a (imGet m2 a.course) = false := caHit1.trans hc1; simp only [caF, h1, h2, ad, hw]; first | done | rfl))
noncomputable abbrev ik (m1 : IM) (m2 : IM) (a : AttT) : List Blk := [.var [bool true, fq 208, bool true, fq 209, bool false, GW (F9 Ej)], .map (aq 0 m1) (Dw m1), .map (aq 0 m2) (Dw m2), .var [int a.course, int a.term, int a.grade, int a.campus, int a.credits]]
theorem ca_b2 {l : List AttT} {rp : List (List Dp)} {m1 m2 : IM} {i : Nat} {a : AttT} (hr : aM (i : Int) (l.map Dy) a.row 5) (hq : aM (i : Int) rp [vi 2] 1) (hlt : decide ((i : Int) < ((l.map Dy).length : Int)) = true) (hw : Dz.wrap ((i : Int) + 1) = ((i + 1 : Nat) : Int)) : (CW Du Γ0 [] false (sub FI 0) (caS l rp m1 m2 i) (ad (fun s => caS l rp s.1 s.2 ((i + 1 : Nat) : Int)) caX (caF l i 2 a (m1, m2))).1 (ad (fun s => caS l rp s.1 s.2 ((i + 1 : Nat) : Int)) caX (caF l i 2 a (m1, m2))).2) := by
 cases hc0 : !(decide (2 ≥ 0) && decide (2 ≤ 2)) || DS (imGet m1 a.course) && Em (imGet m1 a.course) 0 != 2
 ·let v1 := Es [int (Em (imGet m1 a.course) 0), bool (DS (imGet m1 a.course))]
  let v2 := Es [int (Em (imGet m2 a.course) 0), bool (DS (imGet m2 a.course))]
  let v3 := Dw (aL m1 a.course 2)
  let v0 : List Blk := [.var [bool true, fq 208, bool true, fq 209, bool false, GW (F9 Ej)], .map (aq 0 (aL m1 a.course 2)) v3, .map (aq 0 m2) (Dw m2), .var [int a.course, int a.term, int a.grade, int a.campus, int a.credits]]
  refine DU (DV (s' := { t := mkT 135 0 [(0, ab (Dt Dy l)), (1, ab rp), (4, nq), (5, int 0), (6, .ref (.ptr 0 0)), (7, .ref (.mp 1)), (8, .ref (.mp 2)), (32, ab (Dt Dy l)), (33, int (↑(Dw (Dt Dy l)) : Int)), (34, int (DG Dz ((↑i : Int) + 1)))], h := [.var [bool true, fq 208, bool true, fq 209, bool false, GW (F9 Ej)], .map (aq 0 (aL m1 a.course 2)) v3, .map (aq 0 m2) (Dw m2)], m := [] }) (e := DQ) pok [.st (.mask [0, 1, 4, 5, 6, 7, 8, 32, 33, 34]), .st (.trimV 3)] [.b true, .row (Dy a), .ov 43 v1, .row [vi 2], .val (bool (decide (2 ≥ 0) && decide (2 ≤ 2))), .row [vi 2], .b false, .row [vi 2], .oh 10063 EN (caH (aL m1 a.course 2) m2 ++ [.var (Dt GW (Dy a))]), .ov 74 v2, .row [vi 2], .g false, .g false, .g false, .g false, .g false, .g false, .g false, .g false, .g false, .g false, .g false, .g false, .g false, .g false, .g false, .g false, .g false, .ov 102 (bool false), .b false] (by kernel_rfl) (.c hlt (.c hr (.c (show ar Du (ik m1 m2 a) 125 (.ref (.mp 1)) (int a.course) true = some v1 from ?_) (.c hq (.c (@cD 2 0 2 (ik m1 m2 a)) (.c (show (!!(decide (2 ≥ 0) && decide (2 ≤ 2)) && DS (imGet m1 a.course)) = true → aM (↑i : Int) rp [vi 2] 1 from (fun hg => hq)) (.c hc0 (.c hq (.c (show ap Du (ik m1 m2 a) 125 (.ref (.mp 1)) (int a.course) (int 2) = some v0 from ?_) (.e (.ref (.ptr 3 0)) (.e (int a.course) (.c (show ar Du v0 125 (.ref (.mp 2)) (int a.course) true = some v2 from ?_) (.c hq (.c (show inR 2 3 = true from rfl) (.c (show (false == true) = false from rfl) (.c (show (false == true) = false from rfl) (.c (show (false == true) = false from rfl) (.c (show false = false from rfl) (.c (show false = false from rfl) (.c (show false = false from rfl) (.c (show false = false from rfl) (.c (show false = false from rfl) (.c (show false = false from rfl) (.c (show false = false from rfl) (.c (show false = false from rfl) (.c (show false = false from rfl) (.c (show false = false from rfl) (.c (show false = false from rfl) (.c (show false = false from rfl) (.c (show false = false from rfl) (.c (show (false == true) = false from rfl) (.c (show aX (bool false) (GW (F9 (Value.tuple { toList := [] }))) (bool false) (bool false) from (bU rfl rfl)) (.c (show false = false from rfl) (.c (show DL 3 (.var [bool true, fq 208, bool true, fq 209, bool false, GW (F9 Ej)]) = true from rfl) (.c (show DL 3 (.map (aq 0 (aL m1 a.course 2)) v3) = true from ?_) (.c (show DL 3 (.map (aq 0 m2) (Dw m2)) = true from ?_) .n))))))))))))))))))))))))))))))))))))) (by subst v1 v2 v3 v0; first | (have h1 : bG 2 (imGet m1 a.course) = true := hc0; simp only [caF, h1, ad]; first | done | rfl) | (have h1 : bG 2 (imGet m1 a.course) = false := hc0; have h2 : cq l 2 a (imGet m2 a.course) = false := w8; simp only [caF, h1, h2, ad]; first | done | rfl)) (by subst v1 v2 v3 v0; first | (have h1 : bG 2 (imGet m1 a.course) = true := hc0; simp only [caF, h1, ad]; first | done | rfl) | (have h1 : bG 2 (imGet m1 a.course) = false := hc0; have h2 : cq l 2 a (imGet m2 a.course) = false := w8; simp only [caF, h1, h2, ad, hw]; first | done | rfl)) <;> subst v1 v2 v3 v0 <;> (first | assumption | rfl | exact lk1 rfl | exact lk2 rfl | exact up1 rfl | exact up2 rfl | exact aR | (refine bk (fun _ => rfl) ?_ ?_ <;> (cases hz : imGet m2 a.course <;> simp_all; done)) | (simp_all; done))
 ·let v0 := Es [int (Em (imGet m1 a.course) 0), bool (DS (imGet m1 a.course))]
  refine DU (DV (s' := { t := mkT 135 0 [(4, nq), (5, int 1)], h := [], m := [] }) (e := E7) pok [.st (.mask [4, 5]), .st (.trimV 0)] [.b true, .row (Dy a), .ov 43 v0, .row [vi 2], .val (bool (decide (2 ≥ 0) && decide (2 ≤ 2))), .row [vi 2], .b true] (by kernel_rfl) (.c hlt (.c hr (.c (show ar Du (ik m1 m2 a) 125 (.ref (.mp 1)) (int a.course) true = some v0 from (by subst v0; first | assumption | rfl | exact lk1 rfl | exact lk2 rfl | exact up1 rfl | exact up2 rfl | exact aR | (refine bk (fun _ => rfl) ?_ ?_ <;> (cases hz : imGet m2 a.course <;> simp_all; done)) | (simp_all; done))) (.c hq (.c (@cD 2 0 2 (ik m1 m2 a)) (.c (show (!!(decide (2 ≥ 0) && decide (2 ≤ 2)) && DS (imGet m1 a.course)) = true → aM (↑i : Int) rp [vi 2] 1 from (fun hg => hq)) (.c hc0 .n)))))))) ?_ ?_ <;> subst v0 <;> (first | (have h1 : bG 2 (imGet m1 a.course) = true := hc0; simp only [caF, h1, ad]; first | done | rfl) | (have h1 : bG 2 (imGet m1 a.course) = false := hc0; have h2 : cq l 2 a (imGet m2 a.course) = false := w8; simp only [caF, h1, h2, ad, hw]; first | done | rfl))
noncomputable abbrev tL (m1 : IM) (m2 : IM) (a : AttT) : List Blk := [.var [bool true, fq 208, bool true, fq 209, bool false, GW (F9 Ej)], .map (aq 0 m1) (Dw m1), .map (aq 0 m2) (Dw m2), .var [int a.course, int a.term, int a.grade, int a.campus, int a.credits]]
theorem ca_bX {l : List AttT} {rp : List (List Dp)} {m1 m2 : IM} {i : Nat} {a : AttT} {r : Int} (hx : (!(decide (r ≥ 0) && decide (r ≤ 2)) || DS (imGet m1 a.course) && Em (imGet m1 a.course) 0 != r) = true) (hr : aM (i : Int) (l.map Dy) a.row 5) (hq : aM (i : Int) rp [vi r] 1) (hlt : decide ((i : Int) < ((l.map Dy).length : Int)) = true) (hw : Dz.wrap ((i : Int) + 1) = ((i + 1 : Nat) : Int)) : (CW Du Γ0 [] false (sub FI 0) (caS l rp m1 m2 i) (ad (fun s => caS l rp s.1 s.2 ((i + 1 : Nat) : Int)) caX (caF l i r a (m1, m2))).1 (ad (fun s => caS l rp s.1 s.2 ((i + 1 : Nat) : Int)) caX (caF l i r a (m1, m2))).2) := by
 let v0 := Es [int (Em (imGet m1 a.course) 0), bool (DS (imGet m1 a.course))]
 exact DU (DV (s' := { t := mkT 135 0 [(4, nq), (5, int 1)], h := [], m := [] }) (e := E7) pok [.st (.mask [4, 5]), .st (.trimV 0)] [.b true, .row (Dy a), .ov 43 v0, .row [vi r], .val (bool (decide (r ≥ 0) && decide (r ≤ 2))), .row [vi r], .b true] (by kernel_rfl) (.c hlt (.c hr (.c (show ar Du (tL m1 m2 a) 125 (.ref (.mp 1)) (int a.course) true = some v0 from (by subst v0; first | assumption | rfl | exact lk1 rfl | exact lk2 rfl | exact up1 rfl | exact up2 rfl | exact aR | (refine bk (fun _ => rfl) ?_ ?_ <;> (cases hz : imGet m2 a.course <;> simp_all; done)) | (simp_all; done))) (.c hq (.c (@cD r 0 2 (tL m1 m2 a)) (.c (show (!!(decide (r ≥ 0) && decide (r ≤ 2)) && DS (imGet m1 a.course)) = true → aM (↑i : Int) rp [vi r] 1 from (fun hg => hq)) (.c hx .n)))))))) (by subst v0; (have h1 : bG r (imGet m1 a.course) = true := hx); simp only [caF, h1, ad]; first | done | rfl) (by subst v0; (have h1 : bG r (imGet m1 a.course) = true := hx); simp only [caF, h1, ad]; first | done | rfl) <;> subst v0
end Go.Vi
open Go Go.Proofs
namespace Go.Vi
set_option maxRecDepth 100000
set_option maxHeartbeats 4000000
theorem B1 {l : List AttT} {rp : List (List Dp)} {m1 m2 : IM} {i : Nat} (hlt : decide ((i : Int) < ((l.map Dy).length : Int)) = false) : (CW Du Γ0 [] false (sub FI 0) (caS l rp m1 m2 i) (.exit 0) { t := mkT 135 0 [(0, ab (l.map Dy)), (4, dl), (5, int 0), (8, .ref (.mp 2))], h := caH m1 m2, m := [] }) := by
 exact DU (DV (s' := { t := mkT 135 0 [(0, ab (Dt Dy l)), (4, nq), (5, int 0), (8, .ref (.mp 2))], h := [.var [bool true, fq 208, bool true, fq 209, bool false, GW (F9 Ej)], .map (aq 0 m1) (Dw m1), .map (aq 0 m2) (Dw m2)], m := [] }) (e := Ea 0) pok [.st (.mask [0, 4, 5, 8])] [.b false] (by kernel_rfl) (.c hlt .n)) (by rfl) (by rfl)
abbrev CaE := (AttT × Int) × Nat
def caE (l : List AttT) (e : CaE) (s : IM × IM) : (IM × IM) ⊕ Unit := caF l (e.2 : Int) e.1.2 e.1.1 s
def caL (l : List AttT) (rp : List Int) : List CaE := (l.zip rp).zipIdx
abbrev caZ (l : List AttT) (s : IM × IM) : AS := { t := mkT 135 0 [(0, ab (l.map Dy)), (4, dl), (5, int 0), (8, .ref (.mp 2))], h := caH s.1 s.2, m := [] }
def B2 (l : List AttT) (rp : List Int) : Exit × AS := ck (.exit 0) (caZ l) caX (co (caE l) (caL l rp) ([], []))
theorem ca_cw {l : List AttT} (hl : aj l) {rp : List Int} (hr : rp.length = l.length) :
  CW Du Γ0 [] false (.loop (sub FI 0)) (caS l (rp.map fun n => [vi n]) [] [] 0) (B2 l rp).1 (B2 l rp).2 := by
 have hlen : (caL l rp).length = l.length := by simp [caL, hr]
 have := Hy (P := Du) (Γ := Γ0) (h0 := []) (rd := false) (c := sub FI 0) (caL l rp) (caE l) (fun i s => caS l (rp.map fun n => [vi n]) s.1 s.2 (i : Int)) (.exit 0) (caZ l) caX
  (fun _ s => ∀ c v, imGet s.2 c = some v → 0 ≤ v ∧ v < (l.length : Int)) (by simp) (fun _ => by simp) ?_ ?_ ([], []) (by intro c v h; simp [imGet] at h)
 ·exact this
 ·rintro i ⟨⟨a, r⟩, n⟩ ⟨m1, m2⟩ hp hinv
  obtain ⟨hi, he⟩ := DA.1 hp
  rw [hlen] at hi
  have hi' : i < rp.length := by omega
  have e1 : n = i ∧ a = l[i] ∧ r = rp[i] := by
   have e2 := he.symm
   simp [caL] at e2
   obtain ⟨⟨x1, x2⟩, x3⟩ := e2
   exact ⟨x3, x1, x2⟩
  obtain ⟨rfl, ha, hrr⟩ := e1
  have h1 : l[n]? = some a := by rw [ha]; exact DT hi
  have h2 : rp[n]? = some r := by rw [hrr]; exact DT hi'
  have q1 := rowAt (row := Dy) (sz := 5) h1 rfl
  have q2 := rowAt (row := fun n : Int => [vi n]) (sz := 1) h2 rfl
  have q3 := lt_len Dy hi
  have q4 := wrap_succ hi hl
  refine ⟨fun s' h => ?_, ?_⟩
  ·simp only [caE, caF] at h
   split at h
   ·simp at h
   ·simp only [Sum.inl.injEq] at h
    subst h
    intro c v hc
    simp only at hc
    split at hc
    ·rw [wX] at hc
     split at hc
     ·simp only [Option.some.injEq] at hc; subst hc; omega
     ·exact hinv c v hc
    ·exact hinv c v hc
  ·simp only [caE]
   by_cases hb : (!(decide (r ≥ 0) && decide (r ≤ 2))) = true
   ·exact ca_bX (by rw [hb]; rfl) q1 q2 q3 q4
   ·have : r = 0 ∨ r = 1 ∨ r = 2 := by simp at hb; omega
    rcases this with h0 | h0 | h0
    ·rw [h0] at q2 ⊢; exact ca_b0 (fun v hv => hinv _ v hv) q1 q2 q3 q4
    ·rw [h0] at q2 ⊢; exact ca_b1 (fun v hv => hinv _ v hv) q1 q2 q3 q4
    ·rw [h0] at q2 ⊢; exact ca_b2 q1 q2 q3 q4
 ·rintro ⟨m1, m2⟩ _
  rw [hlen]
  exact B1 (bS Dy l)
abbrev cgH (m1 m2 : IM) (out : List AttT) : List Blk := [.var w7, imB m1, imB m2, .vec (ai (out.map Dy)) 0 5]
abbrev cgS (l : List AttT) (m1 m2 : IM) (out : List AttT) (i : Int) : AS :=
 { t := mkT 135 0 [(4, .ref (.vec 3 0)), (5, int 0), (8, .ref (.mp 2)), (108, ab (l.map Dy)), (109, int (l.map Dy).length), (110, int i)], h := cgH m1 m2 out, m := [] }
def cgHit (m2 : IM) (i : Nat) (a : AttT) : Bool := !(imGet m2 a.course).isSome || ((imGet m2 a.course).getD 0 == (i : Int))
def cgF (m2 : IM) (e : AttT × Nat) (out : List AttT) : List AttT := bif cgHit m2 e.2 e.1 then out ++ [e.1] else out
theorem B3 {l : List AttT} {m1 m2 : IM} {out : List AttT} {i : Nat} {a : AttT} (hr : aM (i : Int) (l.map Dy) a.row 5) (hlt : decide ((i : Int) < ((l.map Dy).length : Int)) = true) (hw : Dz.wrap ((i : Int) + 1) = ((i + 1 : Nat) : Int)) (ho : out.length ≤ 1000000000) : (CW Du Γ0 [] false (sub FI 1) (cgS l m1 m2 out i) .normal (cgS l m1 m2 (cgF m2 (a, i) out) ((i + 1 : Nat) : Int))) := by
 cases hc0 : !DS (imGet m2 a.course) || Em (imGet m2 a.course) 0 == (↑i : Int)
 ·let v0 := Es [int (Em (imGet m2 a.course) 0), bool (DS (imGet m2 a.course))]
  refine DU (DV (s' := { t := mkT 135 0 [(4, .ref (.vec 3 0)), (5, int 0), (8, .ref (.mp 2)), (108, ab (Dt Dy l)), (109, int (↑(Dw (Dt Dy l)) : Int)), (110, int (DG Dz ((↑i : Int) + 1)))], h := [.var [bool true, fq 208, bool true, fq 209, bool false, GW (F9 Ej)], .map (aq 0 m1) (Dw m1), .map (aq 0 m2) (Dw m2), .vec (ai (Dt Dy out)) 0 5], m := [] }) (e := DQ) pok [.st (.mask [4, 5, 8, 108, 109, 110]), .st (.ren 3 0), .st (.trimV 4)] [.b true, .row (Dy a), .ov 119 v0, .b false] (by kernel_rfl) (.c hlt (.c hr (.c (show ar Du [.var [bool true, fq 208, bool true, fq 209, bool false, GW (F9 Ej)], .map (aq 0 m1) (Dw m1), .map (aq 0 m2) (Dw m2), .vec (ai (Dt Dy out)) 0 5, .var [int a.course, int a.term, int a.grade, int a.campus, int a.credits]] 125 (.ref (.mp 2)) (int a.course) true = some v0 from ?_) (.c hc0 (.c (show Dt (El (au 3 0 0)) (ai (Dt Dy out)) = ai (Dt Dy out) from ?_) (.c (show Dt (fun e => (DR (au 3 0 0) e.fst, DR (au 3 0 0) e.snd.fst, e.snd.snd)) (aq 0 m1) = aq 0 m1 from ?_) (.c (show Dt (fun e => (DR (au 3 0 0) e.fst, DR (au 3 0 0) e.snd.fst, e.snd.snd)) (aq 0 m2) = aq 0 m2 from ?_) (.c (show DL 4 (match 0 == 3 with | true => .vec (ai (Dt Dy out)) 0 5 | false => keepX (au 3 0 0) (.var [bool true, fq 208, bool true, fq 209, bool false, GW (F9 Ej)])) = true from rfl) (.c (show DL 4 (match 0 + 1 == 3 with | true => .vec (ai (Dt Dy out)) 0 5 | false => keepX (au 3 0 0) (.map (aq 0 m1) (Dw m1))) = true from ?_) (.c (show DL 4 (match 0 + 1 + 1 == 3 with | true => .vec (ai (Dt Dy out)) 0 5 | false => keepX (au 3 0 0) (.map (aq 0 m2) (Dw m2))) = true from ?_) (.c (show DL 4 (match 0 + 1 + 1 + 1 == 3 with | true => .vec (ai (Dt Dy out)) 0 5 | false => keepX (au 3 0 0) (.vec (ai (Dt Dy out)) 0 5)) = true from ?_) .n)))))))))))) (by subst v0; first | (have hh : cgHit m2 i a = true := hc0; simp only [cgF, hh, cond_true, hw, be]; first | done | rfl) | (have hh : cgHit m2 i a = false := hc0; simp only []; first | done | rfl)) (by subst v0; first | (have hh : cgHit m2 i a = true := hc0; simp only [cgF, hh, cond_true, hw, be]; first | done | rfl) | (have hh : cgHit m2 i a = false := hc0; simp only [cgF, hh, cond_false, hw]; first | done | rfl)) <;> subst v0 <;> (first | assumption | rfl | omega | exact lk2 rfl | exact aR | exact af _ _ | exact ah | exact aF _ _ _ | (rw [be]; exact af _ _) | (rw [be]; exact ah) | (simp [bw, D.one, Ez, roomOk]; omega))
 ·let v0 : List D := [int a.course, int a.term, int a.grade, int a.campus, int a.credits]
  let v1 := Es [int (Em (imGet m2 a.course) 0), bool (DS (imGet m2 a.course))]
  refine DU (DV (s' := { t := mkT 135 0 [(4, .ref (.vec 3 0)), (5, int 0), (8, .ref (.mp 2)), (108, ab (Dt Dy l)), (109, int (↑(Dw (Dt Dy l)) : Int)), (110, int (DG Dz ((↑i : Int) + 1)))], h := [.var [bool true, fq 208, bool true, fq 209, bool false, GW (F9 Ej)], .map (aq 0 m1) (Dw m1), .map (aq 0 m2) (Dw m2), .vec (ai (Dt Dy out) ++ [v0]) 0 5], m := [] }) (e := DQ) pok [.st (.mask [4, 5, 8, 108, 109, 110]), .st (.ren 3 0), .st (.trimV 4)] [.b true, .row (Dy a), .ov 119 v1, .b true] (by kernel_rfl) (.c hlt (.c hr (.c (show ar Du [.var [bool true, fq 208, bool true, fq 209, bool false, GW (F9 Ej)], .map (aq 0 m1) (Dw m1), .map (aq 0 m2) (Dw m2), .vec (ai (Dt Dy out)) 0 5, .var v0] 125 (.ref (.mp 2)) (int a.course) true = some v1 from ?_) (.c hc0 (.c (show (List.all [v0] (bw 5) && roomOk (Dw (ai (Dt Dy out)) + Dw [v0]) 40) = true from ?_) (.c (show Dt (El (au 3 1 0)) (ai (Dt Dy out) ++ [v0]) = ai (Dt Dy out) ++ [v0] from ?_) (.c (show Dt (fun e => (DR (au 3 1 0) e.fst, DR (au 3 1 0) e.snd.fst, e.snd.snd)) (aq 0 m1) = aq 0 m1 from ?_) (.c (show Dt (fun e => (DR (au 3 1 0) e.fst, DR (au 3 1 0) e.snd.fst, e.snd.snd)) (aq 0 m2) = aq 0 m2 from ?_) (.c (show [v0] = [v0] from rfl) (.c (show DL 4 (match 0 == 3 with | true => .vec (ai (Dt Dy out) ++ [v0]) 0 5 | false => keepX (au 3 1 0) (.var [bool true, fq 208, bool true, fq 209, bool false, GW (F9 Ej)])) = true from rfl) (.c (show DL 4 (match 0 + 1 == 3 with | true => .vec (ai (Dt Dy out) ++ [v0]) 0 5 | false => keepX (au 3 1 0) (.map (aq 0 m1) (Dw m1))) = true from ?_) (.c (show DL 4 (match 0 + 1 + 1 == 3 with | true => .vec (ai (Dt Dy out) ++ [v0]) 0 5 | false => keepX (au 3 1 0) (.map (aq 0 m2) (Dw m2))) = true from ?_) (.c (show DL 4 (match 0 + 1 + 1 + 1 == 3 with | true => .vec (ai (Dt Dy out) ++ [v0]) 0 5 | false => keepX (au 3 1 0) (.vec (ai (Dt Dy out) ++ [v0]) 1 5)) = true from ?_) .n)))))))))))))) (by subst v0 v1; first | (have hh : cgHit m2 i a = true := hc0; simp only []; first | done | rfl) | (have hh : cgHit m2 i a = false := hc0; simp only [cgF, hh, cond_false, hw]; first | done | rfl)) (by subst v0 v1; first | (have hh : cgHit m2 i a = true := hc0; simp only [cgF, hh, cond_true, hw, be]; first | done | rfl) | (have hh : cgHit m2 i a = false := hc0; simp only [cgF, hh, cond_false, hw]; first | done | rfl)) <;> subst v0 v1 <;> (first | assumption | rfl | omega | exact lk2 rfl | exact aR | exact af _ _ | exact ah | exact aF _ _ _ | (rw [be]; exact af _ _) | (rw [be]; exact ah) | (simp [bw, D.one, Ez, roomOk]; omega))
theorem B4 {l : List AttT} {m1 m2 : IM} {out : List AttT} {i : Nat} (hlt : decide ((i : Int) < ((l.map Dy).length : Int)) = false) : (CW Du Γ0 [] false (sub FI 1) (cgS l m1 m2 out i) (.exit 2) { t := mkT 135 0 [(4, .ref (.vec 3 0)), (5, int 0)], h := cgH m1 m2 out, m := [] }) := by
 exact DU (DV (s' := { t := mkT 135 0 [(4, .ref (.vec 3 0)), (5, int 0)], h := [.var [bool true, fq 208, bool true, fq 209, bool false, GW (F9 Ej)], .map (aq 0 m1) (Dw m1), .map (aq 0 m2) (Dw m2), .vec (ai (Dt Dy out)) 0 5], m := [] }) (e := Ea 2) pok [.st (.mask [4, 5])] [.b false] (by kernel_rfl) (.c hlt .n)) (by rfl) (by rfl)
def sg (l : List AttT) (m2 : IM) : List AttT := l.zipIdx.foldl (fun out e => cgF m2 e out) []
theorem cg_cw {l : List AttT} (hl : l.length ≤ 900000000) {m1 m2 : IM} :
  CW Du Γ0 [] false (.loop (sub FI 1)) (cgS l m1 m2 [] 0) (.exit 2) { t := mkT 135 0 [(4, .ref (.vec 3 0)), (5, int 0)], h := cgH m1 m2 (sg l m2), m := [] } := by
 have hs : aj l := by unfold aj; omega
 have := Hy (P := Du) (Γ := Γ0) (h0 := []) (rd := false) (c := sub FI 1) (σ := List AttT) (ρ := Empty) l.zipIdx (fun e out => .inl (cgF m2 e out))
  (fun i out => cgS l m1 m2 out (i : Int)) (.exit 2) (fun out => { t := mkT 135 0 [(4, .ref (.vec 3 0)), (5, int 0)], h := cgH m1 m2 out, m := [] }) (fun r => r.elim)
  (fun i out => out.length ≤ i) (by simp) (fun r => r.elim) ?_ ?_ [] (by simp)
 ·rw [aY (fun out e => cgF m2 e out)] at this
  exact this
 ·rintro i ⟨a, n⟩ out hp hout
  obtain ⟨hi, he⟩ := DA.1 hp
  simp only [Je] at hi
  have e1 : a = l[i] ∧ n = i := by simpa [eq_comm] using he.symm
  obtain ⟨ha, rfl⟩ := e1
  have h1 : l[n]? = some a := by rw [ha]; exact DT hi
  refine ⟨fun s' h => ?_, B3 (rowAt h1 rfl) (lt_len Dy hi) (wrap_succ hi hs) (by omega)⟩
  cases h
  unfold cgF
  cases cgHit m2 n a <;> simp <;> omega
 ·intro out _
  rw [Je]
  exact B4 (bS Dy l)
end Go.Vi
open Go Go.Proofs
namespace Go.Vi
set_option maxRecDepth 100000
set_option maxHeartbeats 4000000
def caR (l : List AttT) (rp : List Int) : (IM × IM) ⊕ Unit := co (caE l) (caL l rp) ([], [])
theorem tM {l : List AttT} {rp : List Int} : B2 l rp = ck (.exit 0) (caZ l) caX (caR l rp) := rfl
def qw (l : List AttT) (rp : List Int) : List AttT × Int :=
 bif decide (dT l = 0) then (bif decide (rp.length = l.length) then (match caR l rp with | .inl s => (sg l s.2, 0) | .inr _ => ([], 1)) else ([], 1)) else ([], dT l)
theorem y6 {l : List AttT} {rp : List Int} (h : (dT l != 0) = true) : qw l rp = ([], dT l) := by
 have h' : dT l ≠ 0 := by simpa using h
 simp [qw, h']
theorem y7 {l : List AttT} {rp : List Int} (h1 : (dT l != 0) = false) (h2 : rp.length ≠ l.length) : qw l rp = ([], 1) := by
 have h' : dT l = 0 := by simpa using h1
 simp [qw, h', h2]
theorem y8 {l : List AttT} {rp : List Int} (h1 : (dT l != 0) = false) (h2 : rp.length = l.length) {u : Unit} (h3 : caR l rp = .inr u) : qw l rp = ([], 1) := by
 have h' : dT l = 0 := by simpa using h1
 simp [qw, h', h2, h3]
theorem B5 {l : List AttT} {rp : List Int} (h1 : (dT l != 0) = false) (h2 : rp.length = l.length) {s : IM × IM} (h3 : caR l rp = .inl s) : qw l rp = (sg l s.2, 0) := by
 have h' : dT l = 0 := by simpa using h1
 simp [qw, h', h2, h3]
theorem len_ne {l : List AttT} {rp : List Int} (h2 : rp.length ≠ l.length) : (((rp.map fun n => [vi n]).length : Int) != ((l.map Dy).length : Int)) = true := by
 simp; omega
theorem As {l : List AttT} {rp : List Int} (h2 : rp.length = l.length) : (((rp.map fun n => [vi n]).length : Int) != ((l.map Dy).length : Int)) = false := by
 simp; omega
theorem y9 (b n : Nat) (rows : List (List Dp)) (m : IM) (k : Nat) : (aq k m).map (fun e => (DR (dc b n rows) e.1, DR (dc b n rows) e.2.1, e.2.2)) = aq k m := by
 induction m generalizing k with
 | nil => rfl
 | cons e m ih => simp only [aq, List.map_cons, ih]; rfl
theorem za (l : List AttT) : ai (l.map Dy) = (l.map Dy).map (Dt GW) := by simp [ai]
theorem cnt_e1 {l : List AttT} {rp : List Int} (hs : aj l) (hz : (dT l != 0) = true) (h : List Blk) : (Ev Du Γ0 118 [ab (l.map Dy), ab (rp.map fun n => [vi n])] h (.tup [ab [], int (dT l)]) h) := by
 exact DI (Ev.nilW (DX (d := Es [nq, int (dT l)]) pok [.val (int (dT l)), .b true] (by kernel_rfl) (.c (@da l hs ([])) (.c hz .n)) rfl rfl h)) (by rfl) (by rfl)
theorem cnt_e2 {l : List AttT} {rp : List Int} (hs : aj l) (hz : (dT l != 0) = false) (hne : (((rp.map fun n => [vi n]).length : Int) != ((l.map Dy).length : Int)) = true) (h : List Blk) : (Ev Du Γ0 118 [ab (l.map Dy), ab (rp.map fun n => [vi n])] h (.tup [ab [], int 1]) h) := by
 exact DI (Ev.nilW (DX (d := Es [nq, int 1]) pok [.val (int (dT l)), .b false, .b true] (by kernel_rfl) (.c (@da l hs ([])) (.c hz (.c hne .n))) rfl rfl h)) (by rfl) (by rfl)
theorem aErr0 {l : List AttT} (hz : (dT l != 0) = false) : dT l = 0 := by simpa using hz
abbrev caS2 (l : List AttT) (rp : List (List Dp)) (z : Int) : AS :=
 { t := mkT 135 0 [(0, ab (l.map Dy)), (1, ab rp), (4, dl), (5, int z), (6, .ref (.ptr 0 0)), (7, .ref (.mp 1)), (8, .ref (.mp 2)), (32, ab (l.map Dy)), (33, int (l.map Dy).length), (34, int 0)], h := caH [] [], m := [] }
theorem w9 {l : List AttT} (hs : aj l) {rp : List Int} (hr : rp.length = l.length) {u : Unit} (hc : caR l rp = .inr u) (hz : (dT l != 0) = false) :
  CW Du Γ0 [] false (.loop (sub FI 0)) (caS2 l (rp.map fun n => [vi n]) (dT l)) .ret { t := mkT 135 0 [(4, dl), (5, int 1)], h := [], m := [] } := by
 have := ca_cw hs hr
 rw [tM, hc] at this
 rw [aErr0 hz]
 exact this
theorem cnt_e3 {l : List AttT} {rp : List Int} (hs : aj l) (hr : rp.length = l.length) {u : Unit} (hc : caR l rp = .inr u) (hz : (dT l != 0) = false) (hne : (((rp.map fun n => [vi n]).length : Int) != ((l.map Dy).length : Int)) = false) (h : List Blk) : (Ev Du Γ0 118 [ab (l.map Dy), ab (rp.map fun n => [vi n])] h (.tup [ab [], int 1]) h) := by
 have hl0 := (@w9 (l) (hs) (rp) (hr) (u) (hc) (hz))
 exact DI (Ev.nilW (DX (d := Es [nq, int 1]) pok [.val (int (dT l)), .b false, .b false, .val (D.agg [bool true, fq 208, bool true, fq 209, bool false, GW (F9 Ej)]), .sum [0, 1, 4, 5, 6, 7, 8, 32, 33, 34] (E7) { t := mkT 135 0 [(4, nq), (5, int 1)], h := [], m := [] }] (by kernel_rfl) (.c (@da l hs ([])) (.c hz (.c hne (.c (@tK ([])) (.c hl0 .n))))) rfl rfl h)) (by rfl) (by rfl)
theorem zb {l : List AttT} (hs : aj l) {rp : List Int} (hr : rp.length = l.length) {m1 m2 : IM} (hc : caR l rp = .inl (m1, m2)) (hz : (dT l != 0) = false) :
  CW Du Γ0 [] false (.loop (sub FI 0)) (caS2 l (rp.map fun n => [vi n]) (dT l)) (.exit 0) (caZ l (m1, m2)) := by
 have := ca_cw hs hr
 rw [tM, hc] at this
 rw [aErr0 hz]
 exact this
theorem cnt_ok {l : List AttT} {rp : List Int} (hs : aj l) (hl : l.length ≤ 900000000) (hr : rp.length = l.length) {m1 m2 : IM} (hc : caR l rp = .inl (m1, m2)) (hz : (dT l != 0) = false) (hne : (((rp.map fun n => [vi n]).length : Int) != ((l.map Dy).length : Int)) = false) (h : List Blk) : (Ev Du Γ0 118 [ab (l.map Dy), ab (rp.map fun n => [vi n])] h (.tup [ab ((sg l m2).map Dy), int 0]) h) := by
 have hl0 := (@zb (l) (hs) (rp) (hr) (m1) (m2) (hc) (hz))
 have hl1 := (@cg_cw (l) (hl) (m1) (m2))
 let v0 := Dt Dy (sg l m2)
 refine DI (Ev.nilW (DX (d := Es [ab v0, int 0]) pok [.val (int (dT l)), .b false, .b false, .val (D.agg [bool true, fq 208, bool true, fq 209, bool false, GW (F9 Ej)]), .sum [0, 1, 4, 5, 6, 7, 8, 32, 33, 34] (Ea 0) { t := mkT 135 0 [(0, ab (Dt Dy l)), (4, nq), (5, int 0), (8, .ref (.mp 2))], h := [.var [bool true, fq 208, bool true, fq 209, bool false, GW (F9 Ej)], .map (aq 0 m1) (Dw (m1, m2).fst), .map (aq 0 m2) (Dw (m1, m2).snd)], m := [] }, .nx 1, .st (.nilT 4 5), .sum [4, 5, 8, 108, 109, 110] (Ea 2) { t := mkT 135 0 [(4, .ref (.vec 3 0)), (5, int 0)], h := [.var [bool true, fq 208, bool true, fq 209, bool false, GW (F9 Ej)], .map (aq 0 m1) (Dw m1), .map (aq 0 m2) (Dw m2), .vec (ai v0) 0 5], m := [] }, .st (.mask [4, 5]), .st (.frz 3 v0), .st (.trimV 0)] (by kernel_rfl) (.c (@da l hs ([])) (.c hz (.c hne (.c (@tK ([])) (.c hl0 (.c hl1 (.c (show ai v0 = Dt (fun x => Dt GW x) v0 from ?_) (.c (show Dt (fun e => (DR (dc 3 0 v0) e.fst, DR (dc 3 0 v0) e.snd.fst, e.snd.snd)) (aq 0 m1) = aq 0 m1 from ?_) (.c (show Dt (fun e => (DR (dc 3 0 v0) e.fst, DR (dc 3 0 v0) e.snd.fst, e.snd.snd)) (aq 0 m2) = aq 0 m2 from ?_) .n))))))))) rfl rfl h)) (by rfl) (by rfl) <;> subst v0 <;> (first | assumption | rfl | exact za _ | exact y9 _ _ _ _ _)
theorem cnt_ev {l : List AttT} (hl : l.length ≤ 900000000) {rp : List Int} (h : List Blk) : Ev Du Γ0 118 [ab (l.map Dy), ab (rp.map fun n => [vi n])] h (.tup [ab ((qw l rp).1.map Dy), int (qw l rp).2]) h := by
 have hs : aj l := by unfold aj; omega
 cases hz : (dT l != 0)
 ·by_cases hr : rp.length = l.length
  ·cases hc : caR l rp with
   | inl s => obtain ⟨m1, m2⟩ := s; rw [B5 hz hr hc]; exact cnt_ok hs hl hr hc hz (As hr) h
   | inr u => rw [y8 hz hr hc]; exact cnt_e3 hs hr hc hz (As hr) h
  ·rw [y7 hz hr]; exact cnt_e2 hs hz (len_ne hr) h
 ·rw [y6 hz]; exact cnt_e1 hs hz h
end Go.Vi
open Go Go.Proofs
namespace Go.Vi
set_option maxRecDepth 100000
set_option maxHeartbeats 4000000
abbrev cvV (xs : List Int) : List (List D) := ai (xs.map fun n => [vi n])
abbrev cvS (w : WorldT) (known term : Int) (as_ : List (List Dp)) (rs : List ReadT) (xs : List Int) (i : Int) : AS :=
 { t := mkT 36 0 [(0, .ref (.ptr 0 0)), (1, ab as_), (2, int term), (8, .ref (.vec 2 0)), (14, ab as_), (15, int as_.length), (16, int i)], h := lkH w known rs 1 ++ [.vec (cvV xs) 0 1], m := [] }
theorem il {h : List Blk} {xs : List Int} {i : Nat} {v : Int} (hb : h[2]? = some (.vec (cvV xs) 0 1)) (hi : i < xs.length) : bM Du h 3 (.ref (.vp 2 0 (DN (i : Int)) 0)) (int v) = some (h.set 2 (.vec (cvV (xs.set i v)) 0 1)) := by
 have e1 : (cvV xs)[DN (i : Int)]? = some [int xs[i]] := by simp [hi]
 have e2 : szOf Du 3 = some 1 := by kernel_rfl
 have e3 : (cvV xs).set (DN (i : Int)) [int v] = cvV (xs.set i v) := by simp [List.map_set]
 unfold bM
 simp only [int, D.cells, e2, hb, e1]
 rw [← e3]
 rfl
theorem qx {xs : List Int} {i : Nat} (hi : i < xs.length) : inR (i : Int) (cvV xs).length = true := by
 simp [inR]; omega
noncomputable abbrev jg (w : WorldT) (known : Int) (term : Int) (a : AttT) (rs : List ReadT) (xs : List Int) : List Blk := [.var [.ref (.vec 1 2), ab (Dt DF w.c), ab w.p, ab (Dt DJ w.s), ab (Dt DE w.f), int known], .vec (ai (rdR (rs ++ rdT 1 a.course 0 term))) 2 5, .vec (cvV xs) 0 1, .var [int a.course, int a.term, int a.grade, int a.campus, int a.credits]]
theorem B6 {w : WorldT} (hw : w.ok) {known term : Int} {as_ : List (List Dp)} {a : AttT} {rs0 rs : List ReadT} {xs : List Int} {i : Nat} (hi : i < xs.length) (hr : aM (i : Int) as_ a.row 5) (hlt : decide ((i : Int) < (as_.length : Int)) = true) (hwr : Dz.wrap ((i : Int) + 1) = ((i + 1 : Nat) : Int)) (hb : rs.length ≤ 999998000) : (CW Du Γk (lkH w known rs0 0) false (sub IT 0) (cvS w known term as_ rs xs i) .normal (cvS w known term as_ (rs ++ rdT 1 a.course 0 term) (xs.set i (ac w a.course term known).1.rep) ((i + 1 : Nat) : Int))) := by
 let v0 := D.agg [aA (ac w a.course term known).fst.name, int (ac w a.course term known).fst.number, int (ac w a.course term known).fst.credits, int (ac w a.course term known).fst.rep, int (DC (ac w a.course term known).fst.need).op, int (DC (ac w a.course term known).fst.need).c, aA (DC (ac w a.course term known).fst.need).nm, int (DC (ac w a.course term known).fst.need).n, int (DC (ac w a.course term known).fst.need).d, ab (DC (ac w a.course term known).fst.need).ks, int (DC (ac w a.course term known).fst.bar).op, int (DC (ac w a.course term known).fst.bar).c, aA (DC (ac w a.course term known).fst.bar).nm, int (DC (ac w a.course term known).fst.bar).n, int (DC (ac w a.course term known).fst.bar).d, ab (DC (ac w a.course term known).fst.bar).ks]
 let v1 : List D := [.ref (.vec 1 1), ab (Dt DF w.c), ab w.p, ab (Dt DJ w.s), ab (Dt DE w.f), int known]
 let v2 := List.set xs i (ac w a.course term known).fst.rep
 let v3 : List D := [.ref (.vec 1 2), ab (Dt DF w.c), ab w.p, ab (Dt DJ w.s), ab (Dt DE w.f), int known]
 let v4 : List D := [int a.course, int a.term, int a.grade, int a.campus, int a.credits]
 let v5 : List Blk := [.var v1, .vec (ai (rdR rs)) 1 5, .vec (cvV xs) 0 1, .var v4]
 refine DU (DV (s' := { t := mkT 36 0 [(0, .ref (.ptr 0 0)), (1, ab as_), (2, int term), (8, .ref (.vec 2 0)), (14, ab as_), (15, int (↑(Dw as_) : Int)), (16, int (DG Dz ((↑i : Int) + 1)))], h := [.var v1, .vec (ai (rdR (rs ++ rdT 1 a.course 0 term))) 1 5, .vec (cvV v2) 0 1], m := [] }) (e := DQ) pok [.st (.mask [0, 1, 2, 8, 14, 15, 16]), .st (.ren 1 1), .st (.trimV 3)] [.b true, .row (Dy a), .call v0 (jg w known term a rs xs), .oh 10029 EN (lkH w known (rs ++ rdT 1 a.course 0 term) 2 ++ [.vec (cvV v2) 0 1, .var (Dt GW (Dy a))])] (by kernel_rfl) (.c hlt (.c hr (.c (show Ev Du Γk 116 [.ref (.ptr 0 0), int a.course, int term] v5 v0 (jg w known term a rs xs) from (DI (Ev.frameX (args := [.ref (.ptr 0 0), int a.course, int term]) (H := v5) [0, 1] (Ev.upX [0, 1] (@ln w hw known (a.course) term rs ?_) (by kernel_rfl) ⟨(by subst v0 v1 v2 v3 v4 v5; first | rfl | exact al _ _ | first | assumption | rfl | omega | exact il rfl hi | exact qx hi | exact af _ _ | exact ah), trivial⟩ ⟨(by subst v0 v1 v2 v3 v4 v5; first | rfl | exact al _ _ | first | assumption | rfl | omega | exact il rfl hi | exact qx hi | exact af _ _ | exact ah), trivial⟩) (by kernel_rfl) (by kernel_rfl) (by kernel_rfl) ⟨(by subst v0 v1 v2 v3 v4 v5; first | rfl | exact al _ _ | first | assumption | rfl | omega | exact il rfl hi | exact qx hi | exact af _ _ | exact ah), trivial⟩ ⟨(by subst v0 v1 v2 v3 v4 v5; first | rfl | exact al _ _ | first | assumption | rfl | omega | exact il rfl hi | exact qx hi | exact af _ _ | exact ah), trivial⟩) (by kernel_rfl) (by kernel_rfl))) (.c (show inR (↑i : Int) (Dw (cvV xs)) = true from ?_) (.c (show bM Du (jg w known term a rs xs) 3 (.ref (.vp 2 0 (DN (↑i : Int)) 0)) (int (ac w a.course term known).fst.rep) = some [.var v3, .vec (ai (rdR (rs ++ rdT 1 a.course 0 term))) 2 5, .vec (cvV v2) 0 1, .var v4] from ?_) (.c (show Dt (El (au 1 2 1)) (ai (rdR (rs ++ rdT 1 a.course 0 term))) = ai (rdR (rs ++ rdT 1 a.course 0 term)) from ?_) (.c (show Dt (El (au 1 2 1)) (cvV v2) = cvV v2 from ?_) (.c (show DL 3 (match 0 == 1 with | true => .vec (ai (rdR (rs ++ rdT 1 a.course 0 term))) 1 5 | false => keepX (au 1 2 1) (.var v3)) = true from rfl) (.c (show DL 3 (match 0 + 1 == 1 with | true => .vec (ai (rdR (rs ++ rdT 1 a.course 0 term))) 1 5 | false => keepX (au 1 2 1) (.vec (ai (rdR (rs ++ rdT 1 a.course 0 term))) 2 5)) = true from ?_) (.c (show DL 3 (match 0 + 1 + 1 == 1 with | true => .vec (ai (rdR (rs ++ rdT 1 a.course 0 term))) 1 5 | false => keepX (au 1 2 1) (.vec (cvV v2) 0 1)) = true from ?_) .n))))))))))) (by subst v0 v1 v2 v3 v4 v5; first | rfl | (simp only [hwr]; rfl)) (by subst v0 v1 v2 v3 v4 v5; first | rfl | (simp only [hwr]; rfl)) <;> subst v0 v1 v2 v3 v4 v5 <;> (first | assumption | rfl | omega | exact il rfl hi | exact qx hi | exact af _ _ | exact ah)
theorem B7 {w : WorldT} {known term : Int} {as_ : List (List Dp)} {rs0 rs : List ReadT} {xs : List Int} {i : Nat} (hlt : decide ((i : Int) < (as_.length : Int)) = false) : (CW Du Γk (lkH w known rs0 0) false (sub IT 0) (cvS w known term as_ rs xs i) (.exit 0) { t := mkT 36 0 [(1, ab as_), (8, .ref (.vec 2 0))], h := lkH w known rs 1 ++ [.vec (cvV xs) 0 1], m := [] }) := by
 exact DU (DV (s' := { t := mkT 36 0 [(1, ab as_), (8, .ref (.vec 2 0))], h := [.var [.ref (.vec 1 1), ab (Dt DF w.c), ab w.p, ab (Dt DJ w.s), ab (Dt DE w.f), int known], .vec (ai (rdR rs)) 1 5, .vec (cvV xs) 0 1], m := [] }) (e := Ea 0) pok [.st (.mask [1, 8])] [.b false] (by kernel_rfl) (.c hlt .n)) (by rfl) (by rfl)
def lS (w : WorldT) (known term : Int) (l : List AttT) : List Int := l.map fun a => (ac w a.course term known).1.rep
def gb (term : Int) (l : List AttT) : List ReadT := l.flatMap fun a => rdT 1 a.course 0 term
theorem jX (term : Int) : ∀ l : List AttT, (gb term l).length ≤ l.length
 | [] => by simp [gb]
 | a :: l => by have := jX term l; have := rdT_len 1 a.course 0 term; simp only [gb, List.flatMap_cons, List.length_append, List.length_cons] at *; omega
theorem B8 {f : AttT → Int} {l : List AttT} {i : Nat} {a : AttT} (hi : i < l.length) (ha : l[i]? = some a) : ((l.take i).map f ++ D5 (l.length - i) 0).set i (f a) = (l.take (i + 1)).map f ++ D5 (l.length - (i + 1)) 0 := by
 have e1 : l.length - i = (l.length - (i + 1)) + 1 := by omega
 rw [List.set_append_right _ _ (by simp; omega), List.take_add_one, ha, e1, List.replicate_succ]
 have : i - ((l.take i).map f).length = 0 := by simp; omega
 rw [this]
 simp
theorem cv_cw {w : WorldT} (hw : w.ok) {known term : Int} {l : List AttT} (hl : l.length ≤ 90000000) {rs0 rs : List ReadT} (hb : rs.length ≤ 900000000) {V : List (List D)} (hV : V = cvV (D5 l.length 0)) :
  CW Du Γk (lkH w known rs0 0) false (.loop (sub IT 0)) { t := mkT 36 0 [(0, .ref (.ptr 0 0)), (1, ab (l.map Dy)), (2, int term), (8, .ref (.vec 2 0)), (14, ab (l.map Dy)), (15, int (l.map Dy).length), (16, int 0)], h := lkH w known rs 1 ++ [.vec V 0 1], m := [] } (.exit 0) { t := mkT 36 0 [(1, ab (l.map Dy)), (8, .ref (.vec 2 0))], h := lkH w known (rs ++ gb term l) 1 ++ [.vec (cvV (lS w known term l)) 0 1], m := [] } := by
 subst hV
 have hs : aj l := by unfold aj; omega
 have := CW.loopN (P := Du) (Γ := Γk) (h0 := lkH w known rs0 0) (rd := false) (c := sub IT 0) l.length
  (fun i => cvS w known term (l.map Dy) (rs ++ gb term (l.take i)) ((l.take i).map (fun a => (ac w a.course term known).1.rep) ++ D5 (l.length - i) 0) (i : Int)) (e := .exit 0) (s' := { t := mkT 36 0 [(1, ab (l.map Dy)), (8, .ref (.vec 2 0))], h := lkH w known (rs ++ gb term l) 1 ++ [.vec (cvV (lS w known term l)) 0 1], m := [] }) (by simp) ?_ ?_
 ·have e0 : rs ++ gb term (l.take 0) = rs := by simp [gb]
  have e1 : (l.take 0).map (fun a => (ac w a.course term known).1.rep) ++ D5 (l.length - 0) 0 = D5 l.length 0 := by simp
  simp only [e0, e1] at this
  exact this
 ·intro i hi
  have ha : l[i]? = some l[i] := DT hi
  have key := B6 hw (known := known) (term := term) (rs0 := rs0) (rs := rs ++ gb term (l.take i)) (xs := (l.take i).map (fun a => (ac w a.course term known).1.rep) ++ D5 (l.length - i) 0) (i := i) (by simp; omega) (rowAt ha rfl) (lt_len Dy hi) (wrap_succ hi hs) (by have := jX term (l.take i); simp at *; omega)
  rw [B8 (f := fun a => (ac w a.course term known).1.rep) hi ha] at key
  have e2 : gb term (l.take (i + 1)) = gb term (l.take i) ++ rdT 1 l[i].course 0 term := by
   unfold gb; rw [List.take_add_one, ha, Option.toList_some, List.flatMap_append, List.flatMap_singleton]
  rw [e2, ← List.append_assoc]
  exact key
 ·have := B7 (w := w) (known := known) (term := term) (as_ := l.map Dy) (rs0 := rs0) (rs := rs ++ gb term l) (xs := lS w known term l) (i := l.length) (bS Dy l)
  have e3 : l.map (fun a => (ac w a.course term known).1.rep) ++ D5 (l.length - l.length) 0 = lS w known term l := by simp [lS]
  simp only [List.take_length, e3]
  exact this
theorem makeV (l : List AttT) : D5 (DN ((l.map Dy).length : Int)) [int 0] = cvV (D5 l.length 0) := by simp []
theorem xa (f : Ref → D) (n : Nat) : (D5 n [int 0]).map (El f) = D5 n [int 0] := by rw [List.map_replicate]; rfl
theorem xd (xs : List Int) : cvV xs = (xs.map fun n => [vi n]).map (Dt GW) := by simp []
noncomputable abbrev lw (w : WorldT) (known : Int) (term : Int) (l : List AttT) (rs : List ReadT) : List Blk := [.var [.ref (.vec 1 1), ab (Dt DF w.c), ab w.p, ab (Dt DJ w.s), ab (Dt DE w.f), int known], .vec (ai (rdR (rs ++ gb term l))) 1 5]
theorem zc {w : WorldT} (hw : w.ok) {known term : Int} {l : List AttT} (hl : l.length ≤ 90000000) {rs : List ReadT} (hb : rs.length ≤ 900000000) : (Ev Du Γk 61 [.ref (.ptr 0 0), ab (l.map Dy), int term] (lkH w known rs 0) (.tup [ab ((qw l (lS w known term l)).1.map Dy), int (qw l (lS w known term l)).2]) (lkH w known (rs ++ gb term l) 1)) := by
 have hl0 := (@cv_cw (w) (hw) (known) (term) (l) (hl) (rs) (rs) (hb) (D5 (DN (↑(Dw (Dt Dy l)) : Int)) (Dt lit (Value.cells (Value.int Dz 0)).toList)) (by first | assumption | rfl | omega | exact makeV _ | exact xa _ _ | exact xd _ | exact af _ _ | exact ah | (simp; omega)))
 let v0 := Dw (Dt Dy l)
 let v1 : List D := [.ref (.vec 1 1), ab (Dt DF w.c), ab w.p, ab (Dt DJ w.s), ab (Dt DE w.f), int known]
 let v2 : List D := [ab (Dt Dy (qw l (lS w known term l)).fst), int (qw l (lS w known term l)).snd]
 let v3 := Dt lit (Value.cells (Value.int Dz 0)).toList
 refine DI (Ev.of_sym (h' := (lw w known term l rs)) (d := Es v2) pok [.nx 3, .st (.ren 1 1), .sum [0, 1, 2, 8, 14, 15, 16] (Ea 0) { t := mkT 36 0 [(1, ab (Dt Dy l)), (8, .ref (.vec 2 0))], h := [.var v1, .vec (ai (rdR (rs ++ gb term l))) 1 5, .vec (cvV (lS w known term l)) 0 1], m := [] }, .st (.mask [1, 8]), .st (.frz 2 (Dt (fun n => [vi n]) (lS w known term l))), .st (.trimV 2), .val (Es v2)] (by kernel_rfl) (.c (show (decide (0 ≤ (↑v0 : Int)) && decide ((↑v0 : Int) ≤ (↑v0 : Int)) && decide ((↑v0 : Int) * (↑8 : Int) ≤ 281474976710656) && decide ((↑v0 : Int) ≤ 281474976710656)) = true from ?_) (.c (show Dt (El (au 1 0 1)) (ai (rdR rs)) = ai (rdR rs) from ?_) (.c (show Dt (El (au 1 0 1)) (D5 (DN (↑v0 : Int)) v3) = D5 (DN (↑v0 : Int)) v3 from ?_) (.c hl0 (.c (show cvV (lS w known term l) = Dt (fun x => Dt GW x) (Dt (fun n => [vi n]) (lS w known term l)) from ?_) (.c (show Dt (El (dc 2 0 (Dt (fun n => [vi n]) (lS w known term l)))) (ai (rdR (rs ++ gb term l))) = ai (rdR (rs ++ gb term l)) from ?_) (.c (show DL 2 (match 0 == 2 with | true => .gone | false => keepX (dc 2 0 (Dt (fun n => [vi n]) (lS w known term l))) (.var v1)) = true from rfl) (.c (show DL 2 (match 0 + 1 == 2 with | true => .gone | false => keepX (dc 2 0 (Dt (fun n => [vi n]) (lS w known term l))) (.vec (ai (rdR (rs ++ gb term l))) 1 5)) = true from ?_) (.c (D7 (Γ' := Γk) (@cnt_ev l ?_ (lS w known term l) (lw w known term l rs))) .n)))))))))) (by rfl) (by rfl) <;> subst v0 v1 v2 v3 <;> (first | assumption | rfl | omega | exact makeV _ | exact xa _ _ | exact xd _ | exact af _ _ | exact ah | (simp; omega))
end Go.Vi
open Go Go.Proofs
namespace Go.Vi
set_option maxRecDepth 100000
set_option maxHeartbeats 4000000
end Go.Vi
open Go Go.Proofs
namespace Go.Vi
set_option maxRecDepth 100000
set_option maxHeartbeats 4000000
abbrev Dm : Blk := .var [dl, int 0, int 0, int 0]
abbrev snS (w : WorldT) (st term known : Int) (ns : List (List Dp)) (last : Int) (sm : SM) (i : Int) : AS :=
 { t := mkT 190 0 [(1, int st), (2, int term), (3, int known), (5, .ref (.ptr 0 0)), (10, .ref (.ptr 1 0)), (11, dl), (12, int 0), (13, .ref (.mp 2)), (14, int last), (42, ab ns), (43, int ns.length), (44, int i)], h := [.var w.l, Dm, smB sm], m := [] }
abbrev snE (w : WorldT) (st term known : Int) (sm : SM) : AS :=
 { t := mkT 190 0 [(1, int st), (2, int term), (3, int known), (5, .ref (.ptr 0 0)), (10, .ref (.ptr 1 0)), (11, dl), (12, int 0), (13, .ref (.mp 2))], h := [.var w.l, Dm, smB sm], m := [] }
abbrev snX (w : WorldT) : Unit → Exit × AS := fun _ => (.ret, { t := mkT 190 0 [(10, .ref (.ptr 1 0)), (11, dl), (12, int 150)], h := [.var w.l, Dm], m := [] })
def Dn (last c : Int) : Bool := decide (c ≥ Dz.wrap (last + 1)) && decide (c ≤ 4095)
def snF (c : Int) (s : Int × SM) : (Int × SM) ⊕ Unit := bif Dn s.1 c then .inl (c, bX s.2 c ⟨c, 0, -1, true⟩) else .inr ()
theorem bn_t {b : Bool} (h : (!b) = false) : b = true := by cases b <;> simp_all
theorem bn_f {b : Bool} (h : (!b) = true) : b = false := by cases b <;> simp_all
theorem upS {h : List Blk} {m : SM} {c : Int} {v : SeenT} (hb : h[2]? = some (smB m)) : ap Du h 117 (.ref (.mp 2)) (int c) (seD v) = some (h.set 2 (smB (bX m c v))) := wW (kt := 3) (et := 115) (by kernel_rfl) (by kernel_rfl) hb
theorem lkS {h : List Blk} {m : SM} {c : Int} (hb : h[2]? = some (smB m)) : ar Du h 117 (.ref (.mp 2)) (int c) false = some (seD ((jI m c).getD uH)) := uI (kt := 3) (et := 115) (by kernel_rfl) (by kernel_rfl) (by kernel_rfl) hb
noncomputable abbrev jh (w : WorldT) (sm : SM) : List Blk := [.var [ab (Dt DF w.c), ab w.p, ab (Dt DJ w.s), ab (Dt DE w.f)], .var [nq, int 0, int 0, int 0], .map (aP 0 sm) (Dw sm)]
theorem B9 {w : WorldT} {st term known : Int} {ns : List (List Dp)} {last c : Int} {sm : SM} {i : Nat} (hr : aM (i : Int) ns [vi c] 1) (hlt : decide ((i : Int) < (ns.length : Int)) = true) (hw : Dz.wrap ((i : Int) + 1) = ((i + 1 : Nat) : Int)) : (CW Du Γk [] false (sub EW 0) (snS w st term known ns last sm i) (ad (fun s : Int × SM => snS w st term known ns s.1 s.2 ((i + 1 : Nat) : Int)) (snX w) (snF c (last, sm))).1 (ad (fun s : Int × SM => snS w st term known ns s.1 s.2 ((i + 1 : Nat) : Int)) (snX w) (snF c (last, sm))).2) := by
 cases hc0 : !(decide (c ≥ DG Dz (last + 1)) && decide (c ≤ 4095))
 ·let v0 := Dw (bX sm c { course := c, tries := 0, best := -1, now := true })
  refine DU (DV (s' := { t := mkT 190 0 [(1, int st), (2, int term), (3, int known), (5, .ref (.ptr 0 0)), (10, .ref (.ptr 1 0)), (11, nq), (12, int 0), (13, .ref (.mp 2)), (14, int c), (42, ab ns), (43, int (↑(Dw ns) : Int)), (44, int (DG Dz ((↑i : Int) + 1)))], h := [.var [ab (Dt DF w.c), ab w.p, ab (Dt DJ w.s), ab (Dt DE w.f)], .var [nq, int 0, int 0, int 0], .map (aP 0 (bX sm c { course := c, tries := 0, best := -1, now := true })) v0], m := [] }) (e := DQ) pok [.st (.mask [1, 2, 3, 5, 10, 11, 12, 13, 14, 42, 43, 44])] [.b true, .row [vi c], .val (bool (decide (c ≥ DG Dz (last + 1)) && decide (c ≤ 4095))), .b false, .oh 10055 EN [.var (Eb w), Dm, smB (bX sm c { course := c, tries := 0, best := -1, now := true })]] (by kernel_rfl) (.c hlt (.c hr (.c (D7 (Γ' := Γk) (@de c (DG Dz (last + 1)) 4095 (jh w sm))) (.c hc0 (.c (show ap Du (jh w sm) 117 (.ref (.mp 2)) (int c) (D.agg [int c, int 0, int (-1), bool true]) = some [.var (Eb w), .var [nq, int 0, int 0, int 0], .map (aP 0 (bX sm c { course := c, tries := 0, best := -1, now := true })) v0] from (by subst v0; first | assumption | rfl | exact upS (v := ⟨c, 0, -1, true⟩) rfl | exact bu)) .n)))))) ?_ ?_ <;> subst v0 <;> (first | (have hh : Dn last c = true := bn_t hc0; simp only [snF, hh, cond_true, ad, hw]; first | done | rfl) | (have hh : Dn last c = false := bn_f hc0; simp only [snF, hh, cond_false, ad]; first | done | rfl))
 ·refine DU (DV (s' := { t := mkT 190 0 [(10, .ref (.ptr 1 0)), (11, nq), (12, int 150)], h := [.var [ab (Dt DF w.c), ab w.p, ab (Dt DJ w.s), ab (Dt DE w.f)], .var [nq, int 0, int 0, int 0]], m := [] }) (e := E7) pok [.st (.mask [10, 11, 12]), .st (.trim 2)] [.b true, .row [vi c], .val (bool (decide (c ≥ DG Dz (last + 1)) && decide (c ≤ 4095))), .b true] (by kernel_rfl) (.c hlt (.c hr (.c (D7 (Γ' := Γk) (@de c (DG Dz (last + 1)) 4095 (jh w sm))) (.c hc0 .n))))) ?_ ?_ <;> (first | (have hh : Dn last c = true := bn_t hc0; simp only [snF, hh, cond_true, ad, hw]; first | done | rfl) | (have hh : Dn last c = false := bn_f hc0; simp only [snF, hh, cond_false, ad]; first | done | rfl))
theorem Ca {w : WorldT} {st term known : Int} {ns : List (List Dp)} {last : Int} {sm : SM} {i : Nat} (hlt : decide ((i : Int) < (ns.length : Int)) = false) : (CW Du Γk [] false (sub EW 0) (snS w st term known ns last sm i) (.exit 0) (snE w st term known sm)) := by
 exact DU (DV (s' := { t := mkT 190 0 [(1, int st), (2, int term), (3, int known), (5, .ref (.ptr 0 0)), (10, .ref (.ptr 1 0)), (11, nq), (12, int 0), (13, .ref (.mp 2))], h := [.var [ab (Dt DF w.c), ab w.p, ab (Dt DJ w.s), ab (Dt DE w.f)], .var [nq, int 0, int 0, int 0], .map (aP 0 sm) (Dw sm)], m := [] }) (e := Ea 0) pok [.st (.mask [1, 2, 3, 5, 10, 11, 12, 13])] [.b false] (by kernel_rfl) (.c hlt .n)) (by rfl) (by rfl)
def snR (now : List Int) : (Int × SM) ⊕ Unit := co snF now (-1, [])
def Cb (w : WorldT) (st term known : Int) (now : List Int) : Exit × AS := ck (.exit 0) (fun s : Int × SM => snE w st term known s.2) (snX w) (snR now)
theorem sn_cw {w : WorldT} {st term known : Int} {now : List Int} (hl : aj now) :
  CW Du Γk [] false (.loop (sub EW 0)) (snS w st term known (now.map fun n => [vi n]) (-1) [] 0) (Cb w st term known now).1 (Cb w st term known now).2 := by
 refine Hy now snF (fun i s => snS w st term known (now.map fun n => [vi n]) s.1 s.2 (i : Int)) (.exit 0) (fun s => snE w st term known s.2) (snX w) (fun _ _ => True) (by simp) (fun _ => by simp []) ?_ ?_ (-1, []) trivial
 ·intro i c s hc _
  have hi := (DA.1 hc).1
  exact ⟨fun _ _ => trivial, B9 (rowAt (row := fun n => [vi n]) hc rfl) (lt_len (fun n => [vi n]) hi) (wrap_succ hi hl)⟩
 ·intro s _
  exact Ca (bS (fun n => [vi n]) now)
abbrev siK (w : WorldT) (known : Int) (e : Nat) : Blk := .var [.ref (.vec 4 e), ab (w.c.map DF), ab w.p, ab (w.s.map DJ), ab (w.f.map DE), int known]
abbrev siH (w : WorldT) (known st : Int) (sm : SM) (rs : List ReadT) (e : Nat) (as_ : List (List Dp)) (m1 m2 : IM) : List Blk :=
 [.var w.l, Dm, smB sm, siK w known e, .vec (ai (rdR rs)) e 5, .var [int st, ab as_], imB m1, imB m2]
abbrev stS (w : WorldT) (known st term : Int) (sm : SM) (rs : List ReadT) (cs as_ : List (List Dp)) (m1 m2 : IM) (i : Int) : AS :=
 { t := mkT 190 0 [(2, int term), (10, .ref (.ptr 1 0)), (11, dl), (13, .ref (.mp 2)), (17, .ref (.ptr 3 0)), (19, ab cs), (20, .ref (.mp 6)), (21, .ref (.mp 7)), (80, ab as_), (81, int as_.length), (82, int i)], h := siH w known st sm rs 0 as_ m1 m2, m := [] }
abbrev stE (w : WorldT) (known st term : Int) (sm : SM) (rs : List ReadT) (cs as_ : List (List Dp)) (m1 m2 : IM) : AS :=
 { t := mkT 190 0 [(2, int term), (10, .ref (.ptr 1 0)), (11, dl), (13, .ref (.mp 2)), (17, .ref (.ptr 3 0)), (19, ab cs), (20, .ref (.mp 6)), (21, .ref (.mp 7))], h := siH w known st sm rs 0 as_ m1 m2, m := [] }
def gI (m : IM) (c : Int) : Int := (imGet m c).getD 0
def stF (s : IM × IM) (a : AttT) : IM × IM := (aL s.1 a.course (Dz.wrap (gI s.1 a.course + 1)), aL s.2 a.course (mxI (gI s.2 a.course) a.grade))
theorem lk6 {h : List Blk} {m : IM} {c : Int} (hb : h[6]? = some (imB m)) : ar Du h 125 (.ref (.mp 6)) (int c) false = some (int (gI m c)) := nc (kt := 3) (et := 3) (by kernel_rfl) (by kernel_rfl) (by kernel_rfl) hb
theorem lk7 {h : List Blk} {m : IM} {c : Int} (hb : h[7]? = some (imB m)) : ar Du h 125 (.ref (.mp 7)) (int c) false = some (int (gI m c)) := nc (kt := 3) (et := 3) (by kernel_rfl) (by kernel_rfl) (by kernel_rfl) hb
theorem up6 {h : List Blk} {m : IM} {c v : Int} (hb : h[6]? = some (imB m)) : ap Du h 125 (.ref (.mp 6)) (int c) (int v) = some (h.set 6 (imB (aL m c v))) := ij (kt := 3) (et := 3) (by kernel_rfl) (by kernel_rfl) hb
theorem up7 {h : List Blk} {m : IM} {c v : Int} (hb : h[7]? = some (imB m)) : ap Du h 125 (.ref (.mp 7)) (int c) (int v) = some (h.set 7 (imB (aL m c v))) := ij (kt := 3) (et := 3) (by kernel_rfl) (by kernel_rfl) hb
theorem Cc {w : WorldT} {known st term : Int} {sm : SM} {rs : List ReadT} {cs as_ : List (List Dp)} {m1 m2 : IM} {a : AttT} {i : Nat} (hr : aM (i : Int) as_ a.row 5) (hlt : decide ((i : Int) < (as_.length : Int)) = true) (hw : Dz.wrap ((i : Int) + 1) = ((i + 1 : Nat) : Int)) : (CW Du Γk [] false (sub EW 1) (stS w known st term sm rs cs as_ m1 m2 i) .normal (stS w known st term sm rs cs as_ (stF (m1, m2) a).1 (stF (m1, m2) a).2 ((i + 1 : Nat) : Int))) := by
 let v0 : List D := [.ref (.vec 4 0), ab (Dt DF w.c), ab w.p, ab (Dt DJ w.s), ab (Dt DE w.f), int known]
 let v3 : List D := [int a.course, int a.term, int a.grade, int a.campus, int a.credits]
 let v2 : List Blk := [.var (Eb w), .var [nq, int 0, int 0, int 0], .map (aP 0 sm) (Dw sm), .var v0, .vec (ai (rdR rs)) 0 5, .var [int st, ab as_], .map (aq 0 m1) (Dw m1), .map (aq 0 m2) (Dw m2), .var v3]
 let v4 := Dw (stF (m1, m2) a).fst
 let v1 : List Blk := [.var (Eb w), .var [nq, int 0, int 0, int 0], .map (aP 0 sm) (Dw sm), .var v0, .vec (ai (rdR rs)) 0 5, .var [int st, ab as_], .map (aq 0 (stF (m1, m2) a).fst) v4, .map (aq 0 m2) (Dw m2), .var v3]
 let v5 := Dw (stF (m1, m2) a).snd
 refine DU (DV (s' := { t := mkT 190 0 [(2, int term), (10, .ref (.ptr 1 0)), (11, nq), (13, .ref (.mp 2)), (17, .ref (.ptr 3 0)), (19, ab cs), (20, .ref (.mp 6)), (21, .ref (.mp 7)), (80, ab as_), (81, int (↑(Dw as_) : Int)), (82, int (DG Dz ((↑i : Int) + 1)))], h := [.var [ab (Dt DF w.c), ab w.p, ab (Dt DJ w.s), ab (Dt DE w.f)], .var [nq, int 0, int 0, int 0], .map (aP 0 sm) (Dw sm), .var v0, .vec (ai (rdR rs)) 0 5, .var [int st, ab as_], .map (aq 0 (stF (m1, m2) a).fst) v4, .map (aq 0 (stF (m1, m2) a).snd) v5], m := [] }) (e := DQ) pok [.st (.mask [2, 10, 11, 13, 17, 19, 20, 21, 80, 81, 82]), .st (.trimV 8)] [.b true, .row (Dy a), .ov 89 (int (gI m1 a.course)), .oh 10086 EN (siH w known st sm rs 0 as_ (stF (m1, m2) a).fst m2 ++ [.var (Dt GW (Dy a))]), .ov 97 (int (gI m2 a.course)), .oh 10091 EN (siH w known st sm rs 0 as_ (stF (m1, m2) a).fst (stF (m1, m2) a).snd ++ [.var (Dt GW (Dy a))])] (by kernel_rfl) (.c hlt (.c hr (.c (show ar Du v2 125 (.ref (.mp 6)) (int a.course) false = some (int (gI m1 a.course)) from ?_) (.c (show ap Du v2 125 (.ref (.mp 6)) (int a.course) (int (DG Dz (gI m1 a.course + 1))) = some v1 from ?_) (.c (show ar Du v1 125 (.ref (.mp 7)) (int a.course) false = some (int (gI m2 a.course)) from ?_) (.c (show ap Du v1 125 (.ref (.mp 7)) (int a.course) (int (if true = true then if a.grade > gI m2 a.course then a.grade else gI m2 a.course else if a.grade < gI m2 a.course then a.grade else gI m2 a.course)) = some [.var (Eb w), .var [nq, int 0, int 0, int 0], .map (aP 0 sm) (Dw sm), .var v0, .vec (ai (rdR rs)) 0 5, .var [int st, ab as_], .map (aq 0 (stF (m1, m2) a).fst) v4, .map (aq 0 (stF (m1, m2) a).snd) v5, .var v3] from ?_) (.c (show DL 8 (.var (Eb w)) = true from rfl) (.c (show DL 8 (.var [nq, int 0, int 0, int 0]) = true from rfl) (.c (show DL 8 (.map (aP 0 sm) (Dw sm)) = true from ?_) (.c (show DL 8 (.var v0) = true from rfl) (.c (show DL 8 (.vec (ai (rdR rs)) 0 5) = true from ?_) (.c (show DL 8 (.var [int st, ab as_]) = true from rfl) (.c (show DL 8 (.map (aq 0 (stF (m1, m2) a).fst) v4) = true from ?_) (.c (show DL 8 (.map (aq 0 (stF (m1, m2) a).snd) v5) = true from ?_) .n))))))))))))))) (by subst v0 v3 v2 v4 v1 v5; first | rfl | (simp only [hw]; rfl)) (by subst v0 v3 v2 v4 v1 v5; first | rfl | (simp only [hw]; rfl)) <;> subst v0 v3 v2 v4 v1 v5 <;> (first | assumption | rfl | exact lk6 rfl | exact lk7 rfl | exact up6 rfl | exact up7 rfl | exact aR | exact bu | exact ah)
theorem Cd {w : WorldT} {known st term : Int} {sm : SM} {rs : List ReadT} {cs as_ : List (List Dp)} {m1 m2 : IM} {i : Nat} (hlt : decide ((i : Int) < (as_.length : Int)) = false) : (CW Du Γk [] false (sub EW 1) (stS w known st term sm rs cs as_ m1 m2 i) (.exit 2) (stE w known st term sm rs cs as_ m1 m2)) := by
 exact DU (DV (s' := { t := mkT 190 0 [(2, int term), (10, .ref (.ptr 1 0)), (11, nq), (13, .ref (.mp 2)), (17, .ref (.ptr 3 0)), (19, ab cs), (20, .ref (.mp 6)), (21, .ref (.mp 7))], h := [.var [ab (Dt DF w.c), ab w.p, ab (Dt DJ w.s), ab (Dt DE w.f)], .var [nq, int 0, int 0, int 0], .map (aP 0 sm) (Dw sm), .var [.ref (.vec 4 0), ab (Dt DF w.c), ab w.p, ab (Dt DJ w.s), ab (Dt DE w.f), int known], .vec (ai (rdR rs)) 0 5, .var [int st, ab as_], .map (aq 0 m1) (Dw m1), .map (aq 0 m2) (Dw m2)], m := [] }) (e := Ea 2) pok [.st (.mask [2, 10, 11, 13, 17, 19, 20, 21])] [.b false] (by kernel_rfl) (.c hlt .n)) (by rfl) (by rfl)
def aH (l : List AttT) : IM × IM := l.foldl stF ([], [])
theorem st_cw {w : WorldT} {known st term : Int} {sm : SM} {rs : List ReadT} {cs : List (List Dp)} {l : List AttT} (hl : aj l) :
  CW Du Γk [] false (.loop (sub EW 1)) (stS w known st term sm rs cs (l.map Dy) [] [] 0) (.exit 2) (stE w known st term sm rs cs (l.map Dy) (aH l).1 (aH l).2) := by
 have := Hy (P := Du) (Γ := Γk) (h0 := []) (rd := false) (c := sub EW 1) (σ := IM × IM) (ρ := Empty) l (fun a s => .inl (stF s a))
  (fun i s => stS w known st term sm rs cs (l.map Dy) s.1 s.2 (i : Int)) (.exit 2) (fun s => stE w known st term sm rs cs (l.map Dy) s.1 s.2) (fun r => r.elim) (fun _ _ => True) (by simp) (fun r => r.elim) ?_ ?_ ([], []) trivial
 ·rw [aY] at this
  exact this
 ·intro i a s ha _
  have hi := (DA.1 ha).1
  exact ⟨fun _ _ => trivial, Cc (rowAt ha rfl) (lt_len Dy hi) (wrap_succ hi hl)⟩
 ·intro s _
  exact Cd (bS Dy l)
end Go.Vi
open Go Go.Proofs
namespace Go.Vi
set_option maxRecDepth 100000
set_option maxHeartbeats 4000000
def xF (m1 m2 : IM) (x : SeenT) (c : Int) : SeenT := bif decide (gI m1 c > 0) then ⟨x.course, mnI (Dz.wrap (x.tries + gI m1 c)) 100, mxI x.best (gI m2 c), x.now⟩ else x
abbrev sqS (w : WorldT) (known st term : Int) (sm : SM) (rs : List ReadT) (ep : Nat) (cs as_ ns es : List (List Dp)) (m1 m2 : IM) (n : Int) (i : Int) (x : SeenT) (k : Int) : AS :=
 { t := mkT 190 0 [(2, int term), (10, .ref (.ptr 1 0)), (11, dl), (13, .ref (.mp 2)), (17, .ref (.ptr 3 0)), (19, ab cs), (20, .ref (.mp 6)), (21, .ref (.mp 7)), (25, int n), (26, .ref (.ptr 8 0)), (102, ab ns), (103, int ns.length), (104, int i), (116, ab es), (117, int es.length), (118, int k)], h := siH w known st sm rs ep as_ m1 m2 ++ [.var (x.row.map .p)], m := [] }
abbrev sqE (w : WorldT) (known st term : Int) (sm : SM) (rs : List ReadT) (ep : Nat) (cs as_ ns : List (List Dp)) (m1 m2 : IM) (n : Int) (i : Int) (x : SeenT) : AS :=
 { t := mkT 190 0 [(2, int term), (10, .ref (.ptr 1 0)), (11, dl), (13, .ref (.mp 2)), (17, .ref (.ptr 3 0)), (19, ab cs), (20, .ref (.mp 6)), (21, .ref (.mp 7)), (25, int n), (26, .ref (.ptr 8 0)), (102, ab ns), (103, int ns.length), (104, int i)], h := siH w known st sm rs ep as_ m1 m2 ++ [.var (x.row.map .p)], m := [] }
theorem Ce {w : WorldT} {known st term : Int} {sm : SM} {rs : List ReadT} {cs as_ ns es : List (List Dp)} {m1 m2 : IM} {n i c : Int} {x : SeenT} {k : Nat} (hr : aM (k : Int) es [vi c] 1) (hlt : decide ((k : Int) < (es.length : Int)) = true) (hw : Dz.wrap ((k : Int) + 1) = ((k + 1 : Nat) : Int)) : (CW Du Γk [] false (sub EW 3) (sqS w known st term sm rs 1 cs as_ ns es m1 m2 n i x k) .normal (sqS w known st term sm rs 1 cs as_ ns es m1 m2 n i (xF m1 m2 x c) ((k + 1 : Nat) : Int))) := by
 cases hc0 : decide (gI m1 c > 0)
 ·let v0 : List D := [.ref (.vec 4 1), ab (Dt DF w.c), ab w.p, ab (Dt DJ w.s), ab (Dt DE w.f), int known]
  refine DU (DV (s' := { t := mkT 190 0 [(2, int term), (10, .ref (.ptr 1 0)), (11, nq), (13, .ref (.mp 2)), (17, .ref (.ptr 3 0)), (19, ab cs), (20, .ref (.mp 6)), (21, .ref (.mp 7)), (25, int n), (26, .ref (.ptr 8 0)), (102, ab ns), (103, int (↑(Dw ns) : Int)), (104, int i), (116, ab es), (117, int (↑(Dw es) : Int)), (118, int (DG Dz ((↑k : Int) + 1)))], h := [.var [ab (Dt DF w.c), ab w.p, ab (Dt DJ w.s), ab (Dt DE w.f)], .var [nq, int 0, int 0, int 0], .map (aP 0 sm) (Dw sm), .var v0, .vec (ai (rdR rs)) 1 5, .var [int st, ab as_], .map (aq 0 m1) (Dw m1), .map (aq 0 m2) (Dw m2), .var [int x.course, int x.tries, int x.best, bool x.now]], m := [] }) (e := DQ) pok [.st (.mask [2, 10, 11, 13, 17, 19, 20, 21, 25, 26, 102, 103, 104, 116, 117, 118])] [.b true, .row [vi c], .ov 124 (int (gI m1 c)), .b false] (by kernel_rfl) (.c hlt (.c hr (.c (show ar Du [.var (Eb w), .var [nq, int 0, int 0, int 0], .map (aP 0 sm) (Dw sm), .var v0, .vec (ai (rdR rs)) 1 5, .var [int st, ab as_], .map (aq 0 m1) (Dw m1), .map (aq 0 m2) (Dw m2), .var [int x.course, int x.tries, int x.best, bool x.now]] 125 (.ref (.mp 6)) (int c) false = some (int (gI m1 c)) from (by subst v0; first | assumption | rfl | exact lk6 rfl | exact lk7 rfl)) (.c hc0 .n))))) ?_ ?_ <;> subst v0 <;> (first | rfl | (have hh : decide (gI m1 c > 0) = true := hc0; simp only [hw, xF, hh, cond_true]; first | done | rfl) | (have hh : decide (gI m1 c > 0) = false := hc0; simp only [hw, xF, hh, cond_false]; first | done | rfl))
 ·let v0 : List D := [.ref (.vec 4 1), ab (Dt DF w.c), ab w.p, ab (Dt DJ w.s), ab (Dt DE w.f), int known]
  let v1 : List Blk := [.var (Eb w), .var [nq, int 0, int 0, int 0], .map (aP 0 sm) (Dw sm), .var v0, .vec (ai (rdR rs)) 1 5, .var [int st, ab as_], .map (aq 0 m1) (Dw m1), .map (aq 0 m2) (Dw m2), .var [int x.course, int x.tries, int x.best, bool x.now]]
  refine DU (DV (s' := { t := mkT 190 0 [(2, int term), (10, .ref (.ptr 1 0)), (11, nq), (13, .ref (.mp 2)), (17, .ref (.ptr 3 0)), (19, ab cs), (20, .ref (.mp 6)), (21, .ref (.mp 7)), (25, int n), (26, .ref (.ptr 8 0)), (102, ab ns), (103, int (↑(Dw ns) : Int)), (104, int i), (116, ab es), (117, int (↑(Dw es) : Int)), (118, int (DG Dz ((↑k : Int) + 1)))], h := [.var [ab (Dt DF w.c), ab w.p, ab (Dt DJ w.s), ab (Dt DE w.f)], .var [nq, int 0, int 0, int 0], .map (aP 0 sm) (Dw sm), .var v0, .vec (ai (rdR rs)) 1 5, .var [int st, ab as_], .map (aq 0 m1) (Dw m1), .map (aq 0 m2) (Dw m2), .var [int x.course, int (if false = true then if 100 > DG Dz (x.tries + gI m1 c) then 100 else DG Dz (x.tries + gI m1 c) else if 100 < DG Dz (x.tries + gI m1 c) then 100 else DG Dz (x.tries + gI m1 c)), int (if true = true then if gI m2 c > x.best then gI m2 c else x.best else if gI m2 c < x.best then gI m2 c else x.best), bool x.now]], m := [] }) (e := DQ) pok [.st (.mask [2, 10, 11, 13, 17, 19, 20, 21, 25, 26, 102, 103, 104, 116, 117, 118])] [.b true, .row [vi c], .ov 124 (int (gI m1 c)), .b true, .ov 130 (int (gI m1 c)), .ov 138 (int (gI m2 c))] (by kernel_rfl) (.c hlt (.c hr (.c (show ar Du v1 125 (.ref (.mp 6)) (int c) false = some (int (gI m1 c)) from (by subst v0 v1; first | assumption | rfl | exact lk6 rfl | exact lk7 rfl)) (.c hc0 (.c (show ar Du v1 125 (.ref (.mp 6)) (int c) false = some (int (gI m1 c)) from (by subst v0 v1; first | assumption | rfl | exact lk6 rfl | exact lk7 rfl)) (.c (show ar Du [.var (Eb w), .var [nq, int 0, int 0, int 0], .map (aP 0 sm) (Dw sm), .var v0, .vec (ai (rdR rs)) 1 5, .var [int st, ab as_], .map (aq 0 m1) (Dw m1), .map (aq 0 m2) (Dw m2), .var [int x.course, int (if false = true then if 100 > DG Dz (x.tries + gI m1 c) then 100 else DG Dz (x.tries + gI m1 c) else if 100 < DG Dz (x.tries + gI m1 c) then 100 else DG Dz (x.tries + gI m1 c)), int x.best, bool x.now]] 125 (.ref (.mp 7)) (int c) false = some (int (gI m2 c)) from (by subst v0 v1; first | assumption | rfl | exact lk6 rfl | exact lk7 rfl)) .n))))))) ?_ ?_ <;> subst v0 v1 <;> (first | rfl | (have hh : decide (gI m1 c > 0) = true := hc0; simp only [hw, xF, hh, cond_true]; first | done | rfl) | (have hh : decide (gI m1 c > 0) = false := hc0; simp only [hw, xF, hh, cond_false]; first | done | rfl))
theorem Cf {w : WorldT} {known st term : Int} {sm : SM} {rs : List ReadT} {cs as_ ns es : List (List Dp)} {m1 m2 : IM} {n i : Int} {x : SeenT} {k : Nat} (hlt : decide ((k : Int) < (es.length : Int)) = false) : (CW Du Γk [] false (sub EW 3) (sqS w known st term sm rs 1 cs as_ ns es m1 m2 n i x k) (.exit 6) (sqE w known st term sm rs 1 cs as_ ns m1 m2 n i x)) := by
 exact DU (DV (s' := { t := mkT 190 0 [(2, int term), (10, .ref (.ptr 1 0)), (11, nq), (13, .ref (.mp 2)), (17, .ref (.ptr 3 0)), (19, ab cs), (20, .ref (.mp 6)), (21, .ref (.mp 7)), (25, int n), (26, .ref (.ptr 8 0)), (102, ab ns), (103, int (↑(Dw ns) : Int)), (104, int i)], h := [.var [ab (Dt DF w.c), ab w.p, ab (Dt DJ w.s), ab (Dt DE w.f)], .var [nq, int 0, int 0, int 0], .map (aP 0 sm) (Dw sm), .var [.ref (.vec 4 1), ab (Dt DF w.c), ab w.p, ab (Dt DJ w.s), ab (Dt DE w.f), int known], .vec (ai (rdR rs)) 1 5, .var [int st, ab as_], .map (aq 0 m1) (Dw m1), .map (aq 0 m2) (Dw m2), .var [int x.course, int x.tries, int x.best, bool x.now]], m := [] }) (e := Ea 6) pok [.st (.mask [2, 10, 11, 13, 17, 19, 20, 21, 25, 26, 102, 103, 104])] [.b false] (by kernel_rfl) (.c hlt .n)) (by rfl) (by rfl)
theorem sq_cw {w : WorldT} {known st term : Int} {sm : SM} {rs : List ReadT} {cs as_ ns : List (List Dp)} {es : List Int} (he : aj es) {m1 m2 : IM} {n i : Int} {x : SeenT} :
  CW Du Γk [] false (.loop (sub EW 3)) (sqS w known st term sm rs 1 cs as_ ns (es.map fun n => [vi n]) m1 m2 n i x 0) (.exit 6) (sqE w known st term sm rs 1 cs as_ ns m1 m2 n i (es.foldl (xF m1 m2) x)) := by
 have := Hy (P := Du) (Γ := Γk) (h0 := []) (rd := false) (c := sub EW 3) (σ := SeenT) (ρ := Empty) es (fun c x => .inl (xF m1 m2 x c))
  (fun k x => sqS w known st term sm rs 1 cs as_ ns (es.map fun n => [vi n]) m1 m2 n i x (k : Int)) (.exit 6) (fun x => sqE w known st term sm rs 1 cs as_ ns m1 m2 n i x) (fun r => r.elim) (fun _ _ => True) (by simp) (fun r => r.elim) ?_ ?_ x trivial
 ·rw [aY] at this
  exact this
 ·intro k c x hc _
  have hi := (DA.1 hc).1
  exact ⟨fun _ _ => trivial, Ce (rowAt (row := fun n => [vi n]) hc rfl) (lt_len (fun n => [vi n]) hi) (wrap_succ hi he)⟩
 ·intro x _
  exact Cf (bS (fun n => [vi n]) es)
end Go.Vi
