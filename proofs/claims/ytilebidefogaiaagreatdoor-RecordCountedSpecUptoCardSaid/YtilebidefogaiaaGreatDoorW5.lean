/- RecordCountedSpecUpto: part of the proof: contracts of the functions that the law reaches, and the law. No conditions beyond the given statement's own. -/
import Derived.Test.YtilebidefogaiaaGreatDoorW4
open Go.Vi.AttT renaming row → za
open Go.Proofs.Tryz renaming prog → y6, f118 → A1, f112 → AZ, f61 → D1
open Int renaming toNat → zh
open Option renaming isSome → zq, getD → zK, map_eq_some_iff → ze, isSome_some → DZ, getD_some → Aa
open List renaming getD → zi, length → zf, map → y9, getElem?_eq_some_iff → zc, getElem?_eq_getElem → zp, length_zipIdx → Ei, getElem?_zipIdx → Bh, getElem?_zip_eq_some → AG, map_cons → AH, any_eq_true → Dg, mem_iff_getElem? → Ar, getElem?_take_of_lt → Dm, foldl_cons → Dw, replicate → zz, take_add_one → C8
open Go.Vi.D renaming p → Bc, tup → Av, any → C6, mapRL → Am, mapR → Al
open Go.Vi.Dp renaming v → Ba
open Go.Value renaming nilFunc → zH, oneCell' → Bs
open Go.IntKind renaming i64 → zb, wrap → zg
open Go.Vi.CW renaming cast → zt, symX → zu
open Go.Exit renaming normal → zr, ret → Ai, exit → zQ
open Go.Vi.Blk renaming inn → zE
open Go.Vi.Ev renaming castH → zk, nilW → Bi, sym0 → zm, frameX → DN, glob0 → zV
open Bool renaming or_eq_true → A3, and_eq_true → zd, eq_iff_iff → BF, true_and → Ad, not_true → Bw
open Go.Vi.CourseT renaming row → zS
open Go.Vi.SysT renaming row → zZ
open Go.Vi.FactT renaming row → zo
open Go.Vi.RuleT renaming fl → y7
open Go Go.Proofs
namespace Go.Vi
set_option maxRecDepth 100000
set_option maxHeartbeats 4000000
abbrev caH (m1 m2 : IM) : List Blk := [.var tL, imB m1, imB m2]
abbrev caS (l : List AttT) (rp : List (List Dp)) (m1 m2 : IM) (i : Int) : AS :=
 { t := mkT 135 0 [(0, aa (l.map za)), (1, aa rp), (4, ei), (5, int 0), (6, .ref (.ptr 0 0)), (7, .ref (.mp 1)), (8, .ref (.mp 2)), (32, aa (l.map za)), (33, int (l.map za).length), (34, int i)], h := caH m1 m2, m := [] }
theorem lk1 {h : List Blk} {m : IM} {c : Int} (hb : h[1]? = some (imB m)) : aG y6 h 125 (.ref (.mp 1)) (int c) true = some (.tup [int ((imGet m c).getD 0), bool (imGet m c).isSome]) := nO (kt := 3) (et := 3) (by kernel_rfl) (by kernel_rfl) (by kernel_rfl) hb
theorem lk2 {h : List Blk} {m : IM} {c : Int} (hb : h[2]? = some (imB m)) : aG y6 h 125 (.ref (.mp 2)) (int c) true = some (.tup [int ((imGet m c).getD 0), bool (imGet m c).isSome]) := nO (kt := 3) (et := 3) (by kernel_rfl) (by kernel_rfl) (by kernel_rfl) hb
theorem up1 {h : List Blk} {m : IM} {c v : Int} (hb : h[1]? = some (imB m)) : aL y6 h 125 (.ref (.mp 1)) (int c) (int v) = some (h.set 1 (imB (aE m c v))) := nP (kt := 3) (et := 3) (by kernel_rfl) (by kernel_rfl) hb
theorem up2 {h : List Blk} {m : IM} {c v : Int} (hb : h[2]? = some (imB m)) : aL y6 h 125 (.ref (.mp 2)) (int c) (int v) = some (h.set 2 (imB (aE m c v))) := nP (kt := 3) (et := 3) (by kernel_rfl) (by kernel_rfl) hb
def a7 (r : Int) (o : Option Int) : Bool := !(decide (r ≥ 0) && decide (r ≤ 2)) || (o.isSome && (o.getD 0 != r))
def rep0 (a b : AttT) : Bool := decide (a.grade > b.grade) || (a.grade == b.grade && decide (a.term < b.term))
def rep1 (a b : AttT) : Bool := decide (a.term ≥ b.term)
def yQ (r : Int) (a b : AttT) : Bool := if r = 0 then rep0 a b else rep1 a b
def bm (l : List AttT) (r : Int) (a : AttT) (o : Option Int) : Bool := (r == 0 || r == 1) && (!o.isSome || yQ r a (l.getD (zh (o.getD 0)) default))
def caF (l : List AttT) (i : Int) (r : Int) (a : AttT) (s : IM × IM) : (IM × IM) ⊕ Unit := match a7 r (imGet s.1 a.course) with
 | true => .inr ()
 | false => .inl (aE s.1 a.course r, match bm l r a (imGet s.2 a.course) with | true => aE s.2 a.course i | false => s.2)
abbrev caX : Unit → Exit × AS := fun _ => (.ret, { t := mkT 135 0 [(4, ei), (5, int 1)], h := [], m := [] })
theorem caHit0 {l : List AttT} {a : AttT} {o : Option Int} : bm l 0 a o = (true && (!zq o || (decide (a.grade > (zi l (zh (zK o 0)) default).grade) || (a.grade == (zi l (zh (zK o 0)) default).grade && decide (a.term < (zi l (zh (zK o 0)) default).term))))) := by simp [bm, yQ, rep0]
theorem caHit1 {l : List AttT} {a : AttT} {o : Option Int} : bm l 1 a o = (true && (!zq o || decide (a.term ≥ (zi l (zh (zK o 0)) default).term))) := by simp [bm, yQ, rep1]
theorem tV {l : List AttT} {a : AttT} {o : Option Int} : bm l 2 a o = false := by simp [bm]
noncomputable abbrev d6 (m1 : IM) (m2 : IM) (a : AttT) : List Blk := [.var [bool true, fq 208, bool true, fq 209, bool false, Bc (Ba zH)], .map (aW 0 (aE m1 a.course 0)) (zf (aE m1 a.course 0)), .map (aW 0 m2) (zf m2), .var [int a.course, int a.term, int a.grade, int a.campus, int a.credits]]
noncomputable abbrev dh (m1 : IM) (m2 : IM) (a : AttT) : List Blk := [.var [bool true, fq 208, bool true, fq 209, bool false, Bc (Ba zH)], .map (aW 0 m1) (zf m1), .map (aW 0 m2) (zf m2), .var [int a.course, int a.term, int a.grade, int a.campus, int a.credits]]
theorem ca_b0 {l : List AttT} {rp : List (List Dp)} {m1 m2 : IM} {i : Nat} {a : AttT} (hm : ∀ v, imGet m2 a.course = some v → 0 ≤ v ∧ v < (l.length : Int)) (hr : aj (i : Int) (l.map za) a.row 5) (hq : aj (i : Int) rp [vi 0] 1) (hlt : decide ((i : Int) < ((l.map za).length : Int)) = true) (hw : zb.wrap ((i : Int) + 1) = ((i + 1 : Nat) : Int)) : (CW y6 Γ0 [] false (sub A1 0) (caS l rp m1 m2 i) (ad (fun s => caS l rp s.1 s.2 ((i + 1 : Nat) : Int)) caX (caF l i 0 a (m1, m2))).1 (ad (fun s => caS l rp s.1 s.2 ((i + 1 : Nat) : Int)) caX (caF l i 0 a (m1, m2))).2) := by
 cases hc0 : !(decide (0 ≥ 0) && decide (0 ≤ 2)) || zq (imGet m1 a.course) && zK (imGet m1 a.course) 0 != 0
 ·cases hc1 : true && (!zq (imGet m2 a.course) || (decide (a.grade > (zi l (zh (zK (imGet m2 a.course) 0)) default).grade) || a.grade == (zi l (zh (zK (imGet m2 a.course) 0)) default).grade && decide (a.term < (zi l (zh (zK (imGet m2 a.course) 0)) default).term)))
  ·let v0 := zi l (zh (zK (imGet m2 a.course) 0)) default
   let v1 := Av [int (zK (imGet m1 a.course) 0), bool (zq (imGet m1 a.course))]
   let v2 := Av [int (zK (imGet m2 a.course) 0), bool (zq (imGet m2 a.course))]
   refine zt (zu (s' := { t := mkT 135 0 [(0, aa (y9 za l)), (1, aa rp), (4, nq), (5, int 0), (6, .ref (.ptr 0 0)), (7, .ref (.mp 1)), (8, .ref (.mp 2)), (32, aa (y9 za l)), (33, int (↑(zf (y9 za l)) : Int)), (34, int (zg zb ((↑i : Int) + 1)))], h := [.var [bool true, fq 208, bool true, fq 209, bool false, Bc (Ba zH)], .map (aW 0 (aE m1 a.course 0)) (zf (aE m1 a.course 0)), .map (aW 0 m2) (zf m2)], m := [] }) (e := zr) pok [.st (.mask [0, 1, 4, 5, 6, 7, 8, 32, 33, 34]), .st (.trimV 3)] [.b true, .row (za a), .ov 43 v1, .row [vi 0], .val (bool (decide (0 ≥ 0) && decide (0 ≤ 2))), .row [vi 0], .b false, .row [vi 0], .oh 10063 C6 (caH (aE m1 a.course 0) m2 ++ [.var (y9 Bc (za a))]), .ov 74 v2, .row [vi 0], .row [vi 0], .row (za v0), .val (bool (decide (a.grade > v0.grade) || a.grade == v0.grade && decide (a.term < v0.term))), .b false] (by kernel_rfl) (.c hlt (.c hr (.c (show aG y6 (dh m1 m2 a) 125 (.ref (.mp 1)) (int a.course) true = some v1 from ?_) (.c hq (.c (@bZ 0 0 2 (dh m1 m2 a)) (.c (show (!!(decide (0 ≥ 0) && decide (0 ≤ 2)) && zq (imGet m1 a.course)) = true → aj (↑i : Int) rp [vi 0] 1 from (fun hg => hq)) (.c hc0 (.c hq (.c (show aL y6 (dh m1 m2 a) 125 (.ref (.mp 1)) (int a.course) (int 0) = some (d6 m1 m2 a) from ?_) (.e (.ref (.ptr 3 0)) (.e (int a.course) (.c (show aG y6 (d6 m1 m2 a) 125 (.ref (.mp 2)) (int a.course) true = some v2 from ?_) (.c hq (.c (show inR 0 3 = true from rfl) (.c (show (true && !!zq (imGet m2 a.course)) = true → aj (↑i : Int) rp [vi 0] 1 from (fun hg => hq)) (.c (show (true && !!zq (imGet m2 a.course)) = true → inR 0 3 = true from (fun hg => rfl)) (.c (show (true && !!zq (imGet m2 a.course)) = true → aj (zK (imGet m2 a.course) 0) (y9 za l) (za v0) 5 from (fun hg => ?_)) (.c (gd (true && !!zq (imGet m2 a.course)) (@tJ a v0 (d6 m1 m2 a))) (.c hc1 (.c (show zE 3 (.var [bool true, fq 208, bool true, fq 209, bool false, Bc (Ba zH)]) = true from rfl) (.c (show zE 3 (.map (aW 0 (aE m1 a.course 0)) (zf (aE m1 a.course 0))) = true from ?_) (.c (show zE 3 (.map (aW 0 m2) (zf m2)) = true from ?_) .n))))))))))))))))))))))) (by subst v0 v1 v2; first | (have h1 : a7 0 (imGet m1 a.course) = true := hc0; simp only [caF, h1, ad]; first | done | rfl) | (have h1 : a7 0 (imGet m1 a.course) = false := hc0; have h2 : bm l 0 a (imGet m2 a.course) = true := caHit0.trans hc1; simp only [caF, h1, h2, ad, hw]; first | done | rfl) | (have h1 : a7 0 (imGet m1 a.course) = false := hc0; have h2 : bm l 0 a (imGet m2 a.course) = false := caHit0.trans hc1; simp only [caF, h1, h2, ad]; first | done | rfl)) (by subst v0 v1 v2; first | (have h1 : a7 0 (imGet m1 a.course) = true := hc0; simp only [caF, h1, ad]; first | done | rfl) | (have h1 : a7 0 (imGet m1 a.course) = false := hc0; have h2 : bm l 0 a (imGet m2 a.course) = true := caHit0.trans hc1; simp only [caF, h1, h2, ad, hw]; first | done | rfl) | (have h1 : a7 0 (imGet m1 a.course) = false := hc0; have h2 : bm l 0 a (imGet m2 a.course) = false := caHit0.trans hc1; simp only [caF, h1, h2, ad, hw]; first | done | rfl)) <;> subst v0 v1 v2 <;> (first | assumption | rfl | exact lk1 rfl | exact lk2 rfl | exact up1 rfl | exact up2 rfl | exact eD | (refine aK (fun _ => rfl) ?_ ?_ <;> (cases hz : imGet m2 a.course <;> simp_all; done)) | (simp_all; done))
  ·let v0 := zi l (zh (zK (imGet m2 a.course) 0)) default
   let v1 := Av [int (zK (imGet m1 a.course) 0), bool (zq (imGet m1 a.course))]
   let v2 := Av [int (zK (imGet m2 a.course) 0), bool (zq (imGet m2 a.course))]
   let v3 := zf (aE m1 a.course 0)
   refine zt (zu (s' := { t := mkT 135 0 [(0, aa (y9 za l)), (1, aa rp), (4, nq), (5, int 0), (6, .ref (.ptr 0 0)), (7, .ref (.mp 1)), (8, .ref (.mp 2)), (32, aa (y9 za l)), (33, int (↑(zf (y9 za l)) : Int)), (34, int (zg zb ((↑i : Int) + 1)))], h := [.var [bool true, fq 208, bool true, fq 209, bool false, Bc (Ba zH)], .map (aW 0 (aE m1 a.course 0)) v3, .map (aW 0 (aE m2 a.course (↑i : Int))) (zf (aE m2 a.course (↑i : Int)))], m := [] }) (e := zr) pok [.st (.mask [0, 1, 4, 5, 6, 7, 8, 32, 33, 34]), .st (.trimV 3)] [.b true, .row (za a), .ov 43 v1, .row [vi 0], .val (bool (decide (0 ≥ 0) && decide (0 ≤ 2))), .row [vi 0], .b false, .row [vi 0], .oh 10063 C6 (caH (aE m1 a.course 0) m2 ++ [.var (y9 Bc (za a))]), .ov 74 v2, .row [vi 0], .row [vi 0], .row (za v0), .val (bool (decide (a.grade > v0.grade) || a.grade == v0.grade && decide (a.term < v0.term))), .b true, .oh 10103 C6 (caH (aE m1 a.course 0) (aE m2 a.course (↑i : Int)) ++ [.var (y9 Bc (za a))])] (by kernel_rfl) (.c hlt (.c hr (.c (show aG y6 (dh m1 m2 a) 125 (.ref (.mp 1)) (int a.course) true = some v1 from ?_) (.c hq (.c (@bZ 0 0 2 (dh m1 m2 a)) (.c (show (!!(decide (0 ≥ 0) && decide (0 ≤ 2)) && zq (imGet m1 a.course)) = true → aj (↑i : Int) rp [vi 0] 1 from (fun hg => hq)) (.c hc0 (.c hq (.c (show aL y6 (dh m1 m2 a) 125 (.ref (.mp 1)) (int a.course) (int 0) = some (d6 m1 m2 a) from ?_) (.e (.ref (.ptr 3 0)) (.e (int a.course) (.c (show aG y6 (d6 m1 m2 a) 125 (.ref (.mp 2)) (int a.course) true = some v2 from ?_) (.c hq (.c (show inR 0 3 = true from rfl) (.c (show (true && !!zq (imGet m2 a.course)) = true → aj (↑i : Int) rp [vi 0] 1 from (fun hg => hq)) (.c (show (true && !!zq (imGet m2 a.course)) = true → inR 0 3 = true from (fun hg => rfl)) (.c (show (true && !!zq (imGet m2 a.course)) = true → aj (zK (imGet m2 a.course) 0) (y9 za l) (za v0) 5 from (fun hg => ?_)) (.c (gd (true && !!zq (imGet m2 a.course)) (@tJ a v0 (d6 m1 m2 a))) (.c hc1 (.c (show aL y6 (d6 m1 m2 a) 125 (.ref (.mp 2)) (int a.course) (int (↑i : Int)) = some [.var [bool true, fq 208, bool true, fq 209, bool false, Bc (Ba zH)], .map (aW 0 (aE m1 a.course 0)) v3, .map (aW 0 (aE m2 a.course (↑i : Int))) (zf (aE m2 a.course (↑i : Int))), .var [int a.course, int a.term, int a.grade, int a.campus, int a.credits]] from ?_) (.c (show zE 3 (.var [bool true, fq 208, bool true, fq 209, bool false, Bc (Ba zH)]) = true from rfl) (.c (show zE 3 (.map (aW 0 (aE m1 a.course 0)) v3) = true from ?_) (.c (show zE 3 (.map (aW 0 (aE m2 a.course (↑i : Int))) (zf (aE m2 a.course (↑i : Int)))) = true from ?_) .n)))))))))))))))))))))))) (by subst v0 v1 v2 v3; first | (have h1 : a7 0 (imGet m1 a.course) = true := hc0; simp only [caF, h1, ad]; first | done | rfl) | (have h1 : a7 0 (imGet m1 a.course) = false := hc0; have h2 : bm l 0 a (imGet m2 a.course) = true := caHit0.trans hc1; simp only [caF, h1, h2, ad]; first | done | rfl) | (have h1 : a7 0 (imGet m1 a.course) = false := hc0; have h2 : bm l 0 a (imGet m2 a.course) = false := caHit0.trans hc1; simp only [caF, h1, h2, ad, hw]; first | done | rfl)) (by subst v0 v1 v2 v3; first | (have h1 : a7 0 (imGet m1 a.course) = true := hc0; simp only [caF, h1, ad]; first | done | rfl) | (have h1 : a7 0 (imGet m1 a.course) = false := hc0; have h2 : bm l 0 a (imGet m2 a.course) = true := caHit0.trans hc1; simp only [caF, h1, h2, ad, hw]; first | done | rfl) | (have h1 : a7 0 (imGet m1 a.course) = false := hc0; have h2 : bm l 0 a (imGet m2 a.course) = false := caHit0.trans hc1; simp only [caF, h1, h2, ad, hw]; first | done | rfl)) <;> subst v0 v1 v2 v3 <;> (first | assumption | rfl | exact lk1 rfl | exact lk2 rfl | exact up1 rfl | exact up2 rfl | exact eD | (refine aK (fun _ => rfl) ?_ ?_ <;> (cases hz : imGet m2 a.course <;> simp_all; done)) | (simp_all; done))
 ·let v0 := Av [int (zK (imGet m1 a.course) 0), bool (zq (imGet m1 a.course))]
  refine zt (zu (s' := { t := mkT 135 0 [(4, nq), (5, int 1)], h := [], m := [] }) (e := Ai) pok [.st (.mask [4, 5]), .st (.trimV 0)] [.b true, .row (za a), .ov 43 v0, .row [vi 0], .val (bool (decide (0 ≥ 0) && decide (0 ≤ 2))), .row [vi 0], .b true] (by kernel_rfl) (.c hlt (.c hr (.c (show aG y6 (dh m1 m2 a) 125 (.ref (.mp 1)) (int a.course) true = some v0 from (by subst v0; first | assumption | rfl | exact lk1 rfl | exact lk2 rfl | exact up1 rfl | exact up2 rfl | exact eD | (refine aK (fun _ => rfl) ?_ ?_ <;> (cases hz : imGet m2 a.course <;> simp_all; done)) | (simp_all; done))) (.c hq (.c (@bZ 0 0 2 (dh m1 m2 a)) (.c (show (!!(decide (0 ≥ 0) && decide (0 ≤ 2)) && zq (imGet m1 a.course)) = true → aj (↑i : Int) rp [vi 0] 1 from (fun hg => hq)) (.c hc0 .n)))))))) ?_ ?_ <;> subst v0 <;> (first | (have h1 : a7 0 (imGet m1 a.course) = true := hc0; simp only [caF, h1, ad]; first | done | rfl) | (have h1 : a7 0 (imGet m1 a.course) = false := hc0; have h2 : bm l 0 a (imGet m2 a.course) = true := caHit0.trans hc1; simp only [caF, h1, h2, ad, hw]; first | done | rfl) | (have h1 : a7 0 (imGet m1 a.course) = false := hc0; have h2 : bm l 0 a (imGet m2 a.course) = false := caHit0.trans hc1; simp only [caF, h1, h2, ad, hw]; first | done | rfl))
noncomputable abbrev d7 (m1 : IM) (m2 : IM) (a : AttT) : List Blk := [.var [bool true, fq 208, bool true, fq 209, bool false, Bc (Ba zH)], .map (aW 0 (aE m1 a.course 1)) (zf (aE m1 a.course 1)), .map (aW 0 m2) (zf m2), .var [int a.course, int a.term, int a.grade, int a.campus, int a.credits]]
noncomputable abbrev di (m1 : IM) (m2 : IM) (a : AttT) : List Blk := [.var [bool true, fq 208, bool true, fq 209, bool false, Bc (Ba zH)], .map (aW 0 m1) (zf m1), .map (aW 0 m2) (zf m2), .var [int a.course, int a.term, int a.grade, int a.campus, int a.credits]]
theorem ca_b1 {l : List AttT} {rp : List (List Dp)} {m1 m2 : IM} {i : Nat} {a : AttT} (hm : ∀ v, imGet m2 a.course = some v → 0 ≤ v ∧ v < (l.length : Int)) (hr : aj (i : Int) (l.map za) a.row 5) (hq : aj (i : Int) rp [vi 1] 1) (hlt : decide ((i : Int) < ((l.map za).length : Int)) = true) (hw : zb.wrap ((i : Int) + 1) = ((i + 1 : Nat) : Int)) : (CW y6 Γ0 [] false (sub A1 0) (caS l rp m1 m2 i) (ad (fun s => caS l rp s.1 s.2 ((i + 1 : Nat) : Int)) caX (caF l i 1 a (m1, m2))).1 (ad (fun s => caS l rp s.1 s.2 ((i + 1 : Nat) : Int)) caX (caF l i 1 a (m1, m2))).2) := by
 cases hc0 : !(decide (1 ≥ 0) && decide (1 ≤ 2)) || zq (imGet m1 a.course) && zK (imGet m1 a.course) 0 != 1
 ·cases hc1 : true && (!zq (imGet m2 a.course) || decide (a.term ≥ (zi l (zh (zK (imGet m2 a.course) 0)) default).term))
  ·let v0 := zi l (zh (zK (imGet m2 a.course) 0)) default
   let v1 := Av [int (zK (imGet m1 a.course) 0), bool (zq (imGet m1 a.course))]
   let v2 := Av [int (zK (imGet m2 a.course) 0), bool (zq (imGet m2 a.course))]
   refine zt (zu (s' := { t := mkT 135 0 [(0, aa (y9 za l)), (1, aa rp), (4, nq), (5, int 0), (6, .ref (.ptr 0 0)), (7, .ref (.mp 1)), (8, .ref (.mp 2)), (32, aa (y9 za l)), (33, int (↑(zf (y9 za l)) : Int)), (34, int (zg zb ((↑i : Int) + 1)))], h := [.var [bool true, fq 208, bool true, fq 209, bool false, Bc (Ba zH)], .map (aW 0 (aE m1 a.course 1)) (zf (aE m1 a.course 1)), .map (aW 0 m2) (zf m2)], m := [] }) (e := zr) pok [.st (.mask [0, 1, 4, 5, 6, 7, 8, 32, 33, 34]), .st (.trimV 3)] [.b true, .row (za a), .ov 43 v1, .row [vi 1], .val (bool (decide (1 ≥ 0) && decide (1 ≤ 2))), .row [vi 1], .b false, .row [vi 1], .oh 10063 C6 (caH (aE m1 a.course 1) m2 ++ [.var (y9 Bc (za a))]), .ov 74 v2, .row [vi 1], .row [vi 1], .row (za v0), .val (bool (decide (a.term ≥ v0.term))), .b false] (by kernel_rfl) (.c hlt (.c hr (.c (show aG y6 (di m1 m2 a) 125 (.ref (.mp 1)) (int a.course) true = some v1 from ?_) (.c hq (.c (@bZ 1 0 2 (di m1 m2 a)) (.c (show (!!(decide (1 ≥ 0) && decide (1 ≤ 2)) && zq (imGet m1 a.course)) = true → aj (↑i : Int) rp [vi 1] 1 from (fun hg => hq)) (.c hc0 (.c hq (.c (show aL y6 (di m1 m2 a) 125 (.ref (.mp 1)) (int a.course) (int 1) = some (d7 m1 m2 a) from ?_) (.e (.ref (.ptr 3 0)) (.e (int a.course) (.c (show aG y6 (d7 m1 m2 a) 125 (.ref (.mp 2)) (int a.course) true = some v2 from ?_) (.c hq (.c (show inR 1 3 = true from rfl) (.c (show (true && !!zq (imGet m2 a.course)) = true → aj (↑i : Int) rp [vi 1] 1 from (fun hg => hq)) (.c (show (true && !!zq (imGet m2 a.course)) = true → inR 1 3 = true from (fun hg => rfl)) (.c (show (true && !!zq (imGet m2 a.course)) = true → aj (zK (imGet m2 a.course) 0) (y9 za l) (za v0) 5 from (fun hg => ?_)) (.c (gd (true && !!zq (imGet m2 a.course)) (@tK a v0 (d7 m1 m2 a))) (.c hc1 (.c (show zE 3 (.var [bool true, fq 208, bool true, fq 209, bool false, Bc (Ba zH)]) = true from rfl) (.c (show zE 3 (.map (aW 0 (aE m1 a.course 1)) (zf (aE m1 a.course 1))) = true from ?_) (.c (show zE 3 (.map (aW 0 m2) (zf m2)) = true from ?_) .n))))))))))))))))))))))) (by subst v0 v1 v2; first | (have h1 : a7 1 (imGet m1 a.course) = true := hc0; simp only [caF, h1, ad]; first | done | rfl) | (have h1 : a7 1 (imGet m1 a.course) = false := hc0; have h2 : bm l 1 a (imGet m2 a.course) = true := caHit1.trans hc1; simp only [caF, h1, h2, ad, hw]; first | done | rfl) | (have h1 : a7 1 (imGet m1 a.course) = false := hc0; have h2 : bm l 1 a (imGet m2 a.course) = false := caHit1.trans hc1; simp only [caF, h1, h2, ad]; first | done | rfl)) (by subst v0 v1 v2; first | (have h1 : a7 1 (imGet m1 a.course) = true := hc0; simp only [caF, h1, ad]; first | done | rfl) | (have h1 : a7 1 (imGet m1 a.course) = false := hc0; have h2 : bm l 1 a (imGet m2 a.course) = true := caHit1.trans hc1; simp only [caF, h1, h2, ad, hw]; first | done | rfl) | (have h1 : a7 1 (imGet m1 a.course) = false := hc0; have h2 : bm l 1 a (imGet m2 a.course) = false := caHit1.trans hc1; simp only [caF, h1, h2, ad, hw]; first | done | rfl)) <;> subst v0 v1 v2 <;> (first | assumption | rfl | exact lk1 rfl | exact lk2 rfl | exact up1 rfl | exact up2 rfl | exact eD | (refine aK (fun _ => rfl) ?_ ?_ <;> (cases hz : imGet m2 a.course <;> simp_all; done)) | (simp_all; done))
  ·let v0 := zi l (zh (zK (imGet m2 a.course) 0)) default
   let v1 := Av [int (zK (imGet m1 a.course) 0), bool (zq (imGet m1 a.course))]
   let v2 := Av [int (zK (imGet m2 a.course) 0), bool (zq (imGet m2 a.course))]
   let v3 := zf (aE m1 a.course 1)
   refine zt (zu (s' := { t := mkT 135 0 [(0, aa (y9 za l)), (1, aa rp), (4, nq), (5, int 0), (6, .ref (.ptr 0 0)), (7, .ref (.mp 1)), (8, .ref (.mp 2)), (32, aa (y9 za l)), (33, int (↑(zf (y9 za l)) : Int)), (34, int (zg zb ((↑i : Int) + 1)))], h := [.var [bool true, fq 208, bool true, fq 209, bool false, Bc (Ba zH)], .map (aW 0 (aE m1 a.course 1)) v3, .map (aW 0 (aE m2 a.course (↑i : Int))) (zf (aE m2 a.course (↑i : Int)))], m := [] }) (e := zr) pok [.st (.mask [0, 1, 4, 5, 6, 7, 8, 32, 33, 34]), .st (.trimV 3)] [.b true, .row (za a), .ov 43 v1, .row [vi 1], .val (bool (decide (1 ≥ 0) && decide (1 ≤ 2))), .row [vi 1], .b false, .row [vi 1], .oh 10063 C6 (caH (aE m1 a.course 1) m2 ++ [.var (y9 Bc (za a))]), .ov 74 v2, .row [vi 1], .row [vi 1], .row (za v0), .val (bool (decide (a.term ≥ v0.term))), .b true, .oh 10103 C6 (caH (aE m1 a.course 1) (aE m2 a.course (↑i : Int)) ++ [.var (y9 Bc (za a))])] (by kernel_rfl) (.c hlt (.c hr (.c (show aG y6 (di m1 m2 a) 125 (.ref (.mp 1)) (int a.course) true = some v1 from ?_) (.c hq (.c (@bZ 1 0 2 (di m1 m2 a)) (.c (show (!!(decide (1 ≥ 0) && decide (1 ≤ 2)) && zq (imGet m1 a.course)) = true → aj (↑i : Int) rp [vi 1] 1 from (fun hg => hq)) (.c hc0 (.c hq (.c (show aL y6 (di m1 m2 a) 125 (.ref (.mp 1)) (int a.course) (int 1) = some (d7 m1 m2 a) from ?_) (.e (.ref (.ptr 3 0)) (.e (int a.course) (.c (show aG y6 (d7 m1 m2 a) 125 (.ref (.mp 2)) (int a.course) true = some v2 from ?_) (.c hq (.c (show inR 1 3 = true from rfl) (.c (show (true && !!zq (imGet m2 a.course)) = true → aj (↑i : Int) rp [vi 1] 1 from (fun hg => hq)) (.c (show (true && !!zq (imGet m2 a.course)) = true → inR 1 3 = true from (fun hg => rfl)) (.c (show (true && !!zq (imGet m2 a.course)) = true → aj (zK (imGet m2 a.course) 0) (y9 za l) (za v0) 5 from (fun hg => ?_)) (.c (gd (true && !!zq (imGet m2 a.course)) (@tK a v0 (d7 m1 m2 a))) (.c hc1 (.c (show aL y6 (d7 m1 m2 a) 125 (.ref (.mp 2)) (int a.course) (int (↑i : Int)) = some [.var [bool true, fq 208, bool true, fq 209, bool false, Bc (Ba zH)], .map (aW 0 (aE m1 a.course 1)) v3, .map (aW 0 (aE m2 a.course (↑i : Int))) (zf (aE m2 a.course (↑i : Int))), .var [int a.course, int a.term, int a.grade, int a.campus, int a.credits]] from ?_) (.c (show zE 3 (.var [bool true, fq 208, bool true, fq 209, bool false, Bc (Ba zH)]) = true from rfl) (.c (show zE 3 (.map (aW 0 (aE m1 a.course 1)) v3) = true from ?_) (.c (show zE 3 (.map (aW 0 (aE m2 a.course (↑i : Int))) (zf (aE m2 a.course (↑i : Int)))) = true from ?_) .n)))))))))))))))))))))))) (by subst v0 v1 v2 v3; first | (have h1 : a7 1 (imGet m1 a.course) = true := hc0; simp only [caF, h1, ad]; first | done | rfl) | (have h1 : a7 1 (imGet m1 a.course) = false := hc0; have h2 : bm l 1 a (imGet m2 a.course) = true := caHit1.trans hc1; simp only [caF, h1, h2, ad]; first | done | rfl) | (have h1 : a7 1 (imGet m1 a.course) = false := hc0; have h2 : bm l 1 a (imGet m2 a.course) = false := caHit1.trans hc1; simp only [caF, h1, h2, ad, hw]; first | done | rfl)) (by subst v0 v1 v2 v3; first | (have h1 : a7 1 (imGet m1 a.course) = true := hc0; simp only [caF, h1, ad]; first | done | rfl) | (have h1 : a7 1 (imGet m1 a.course) = false := hc0; have h2 : bm l 1 a (imGet m2 a.course) = true := caHit1.trans hc1; simp only [caF, h1, h2, ad, hw]; first | done | rfl) | (have h1 : a7 1 (imGet m1 a.course) = false := hc0; have h2 : bm l 1 a (imGet m2 a.course) = false := caHit1.trans hc1; simp only [caF, h1, h2, ad, hw]; first | done | rfl)) <;> subst v0 v1 v2 v3 <;> (first | assumption | rfl | exact lk1 rfl | exact lk2 rfl | exact up1 rfl | exact up2 rfl | exact eD | (refine aK (fun _ => rfl) ?_ ?_ <;> (cases hz : imGet m2 a.course <;> simp_all; done)) | (simp_all; done))
 ·let v0 := Av [int (zK (imGet m1 a.course) 0), bool (zq (imGet m1 a.course))]
  refine zt (zu (s' := { t := mkT 135 0 [(4, nq), (5, int 1)], h := [], m := [] }) (e := Ai) pok [.st (.mask [4, 5]), .st (.trimV 0)] [.b true, .row (za a), .ov 43 v0, .row [vi 1], .val (bool (decide (1 ≥ 0) && decide (1 ≤ 2))), .row [vi 1], .b true] (by kernel_rfl) (.c hlt (.c hr (.c (show aG y6 (di m1 m2 a) 125 (.ref (.mp 1)) (int a.course) true = some v0 from (by subst v0; first | assumption | rfl | exact lk1 rfl | exact lk2 rfl | exact up1 rfl | exact up2 rfl | exact eD | (refine aK (fun _ => rfl) ?_ ?_ <;> (cases hz : imGet m2 a.course <;> simp_all; done)) | (simp_all; done))) (.c hq (.c (@bZ 1 0 2 (di m1 m2 a)) (.c (show (!!(decide (1 ≥ 0) && decide (1 ≤ 2)) && zq (imGet m1 a.course)) = true → aj (↑i : Int) rp [vi 1] 1 from (fun hg => hq)) (.c hc0 .n)))))))) ?_ ?_ <;> subst v0 <;> (first | (have h1 : a7 1 (imGet m1 a.course) = true := hc0; simp only [caF, h1, ad]; first | done | rfl) | (have h1 : a7 1 (imGet m1 a.course) = false := hc0; have h2 : bm l 1 a (imGet m2 a.course) = true := caHit1.trans hc1; simp only [caF, h1, h2, ad, hw]; first | done | rfl) | (have h1 : a7 1 (imGet m1 a.course) = false := hc0; have h2 : bm l 1 a (imGet m2 a.course) = false := caHit1.trans hc1; simp only [caF, h1, h2, ad, hw]; first | done | rfl))
noncomputable abbrev f9 (m1 : IM) (m2 : IM) (a : AttT) : List Blk := [.var [bool true, fq 208, bool true, fq 209, bool false, Bc (Ba zH)], .map (aW 0 m1) (zf m1), .map (aW 0 m2) (zf m2), .var [int a.course, int a.term, int a.grade, int a.campus, int a.credits]]
theorem ca_b2 {l : List AttT} {rp : List (List Dp)} {m1 m2 : IM} {i : Nat} {a : AttT} (hr : aj (i : Int) (l.map za) a.row 5) (hq : aj (i : Int) rp [vi 2] 1) (hlt : decide ((i : Int) < ((l.map za).length : Int)) = true) (hw : zb.wrap ((i : Int) + 1) = ((i + 1 : Nat) : Int)) : (CW y6 Γ0 [] false (sub A1 0) (caS l rp m1 m2 i) (ad (fun s => caS l rp s.1 s.2 ((i + 1 : Nat) : Int)) caX (caF l i 2 a (m1, m2))).1 (ad (fun s => caS l rp s.1 s.2 ((i + 1 : Nat) : Int)) caX (caF l i 2 a (m1, m2))).2) := by
 cases hc0 : !(decide (2 ≥ 0) && decide (2 ≤ 2)) || zq (imGet m1 a.course) && zK (imGet m1 a.course) 0 != 2
 ·let v1 := Av [int (zK (imGet m1 a.course) 0), bool (zq (imGet m1 a.course))]
  let v2 := Av [int (zK (imGet m2 a.course) 0), bool (zq (imGet m2 a.course))]
  let v3 := zf (aE m1 a.course 2)
  let v0 : List Blk := [.var [bool true, fq 208, bool true, fq 209, bool false, Bc (Ba zH)], .map (aW 0 (aE m1 a.course 2)) v3, .map (aW 0 m2) (zf m2), .var [int a.course, int a.term, int a.grade, int a.campus, int a.credits]]
  refine zt (zu (s' := { t := mkT 135 0 [(0, aa (y9 za l)), (1, aa rp), (4, nq), (5, int 0), (6, .ref (.ptr 0 0)), (7, .ref (.mp 1)), (8, .ref (.mp 2)), (32, aa (y9 za l)), (33, int (↑(zf (y9 za l)) : Int)), (34, int (zg zb ((↑i : Int) + 1)))], h := [.var [bool true, fq 208, bool true, fq 209, bool false, Bc (Ba zH)], .map (aW 0 (aE m1 a.course 2)) v3, .map (aW 0 m2) (zf m2)], m := [] }) (e := zr) pok [.st (.mask [0, 1, 4, 5, 6, 7, 8, 32, 33, 34]), .st (.trimV 3)] [.b true, .row (za a), .ov 43 v1, .row [vi 2], .val (bool (decide (2 ≥ 0) && decide (2 ≤ 2))), .row [vi 2], .b false, .row [vi 2], .oh 10063 C6 (caH (aE m1 a.course 2) m2 ++ [.var (y9 Bc (za a))]), .ov 74 v2, .row [vi 2], .g false, .g false, .g false, .g false, .g false, .g false, .g false, .g false, .g false, .g false, .g false, .g false, .g false, .g false, .g false, .g false, .g false, .ov 102 (bool false), .b false] (by kernel_rfl) (.c hlt (.c hr (.c (show aG y6 (f9 m1 m2 a) 125 (.ref (.mp 1)) (int a.course) true = some v1 from ?_) (.c hq (.c (@bZ 2 0 2 (f9 m1 m2 a)) (.c (show (!!(decide (2 ≥ 0) && decide (2 ≤ 2)) && zq (imGet m1 a.course)) = true → aj (↑i : Int) rp [vi 2] 1 from (fun hg => hq)) (.c hc0 (.c hq (.c (show aL y6 (f9 m1 m2 a) 125 (.ref (.mp 1)) (int a.course) (int 2) = some v0 from ?_) (.e (.ref (.ptr 3 0)) (.e (int a.course) (.c (show aG y6 v0 125 (.ref (.mp 2)) (int a.course) true = some v2 from ?_) (.c hq (.c (show inR 2 3 = true from rfl) (.c (show (false == true) = false from rfl) (.c (show (false == true) = false from rfl) (.c (show (false == true) = false from rfl) (.c (show false = false from rfl) (.c (show false = false from rfl) (.c (show false = false from rfl) (.c (show false = false from rfl) (.c (show false = false from rfl) (.c (show false = false from rfl) (.c (show false = false from rfl) (.c (show false = false from rfl) (.c (show false = false from rfl) (.c (show false = false from rfl) (.c (show false = false from rfl) (.c (show false = false from rfl) (.c (show false = false from rfl) (.c (show (false == true) = false from rfl) (.c (show ae (bool false) (Bc (Ba (Value.tuple { toList := [] }))) (bool false) (bool false) from (am rfl rfl)) (.c (show false = false from rfl) (.c (show zE 3 (.var [bool true, fq 208, bool true, fq 209, bool false, Bc (Ba zH)]) = true from rfl) (.c (show zE 3 (.map (aW 0 (aE m1 a.course 2)) v3) = true from ?_) (.c (show zE 3 (.map (aW 0 m2) (zf m2)) = true from ?_) .n))))))))))))))))))))))))))))))))))))) (by subst v1 v2 v3 v0; first | (have h1 : a7 2 (imGet m1 a.course) = true := hc0; simp only [caF, h1, ad]; first | done | rfl) | (have h1 : a7 2 (imGet m1 a.course) = false := hc0; have h2 : bm l 2 a (imGet m2 a.course) = false := tV; simp only [caF, h1, h2, ad]; first | done | rfl)) (by subst v1 v2 v3 v0; first | (have h1 : a7 2 (imGet m1 a.course) = true := hc0; simp only [caF, h1, ad]; first | done | rfl) | (have h1 : a7 2 (imGet m1 a.course) = false := hc0; have h2 : bm l 2 a (imGet m2 a.course) = false := tV; simp only [caF, h1, h2, ad, hw]; first | done | rfl)) <;> subst v1 v2 v3 v0 <;> (first | assumption | rfl | exact lk1 rfl | exact lk2 rfl | exact up1 rfl | exact up2 rfl | exact eD | (refine aK (fun _ => rfl) ?_ ?_ <;> (cases hz : imGet m2 a.course <;> simp_all; done)) | (simp_all; done))
 ·let v0 := Av [int (zK (imGet m1 a.course) 0), bool (zq (imGet m1 a.course))]
  refine zt (zu (s' := { t := mkT 135 0 [(4, nq), (5, int 1)], h := [], m := [] }) (e := Ai) pok [.st (.mask [4, 5]), .st (.trimV 0)] [.b true, .row (za a), .ov 43 v0, .row [vi 2], .val (bool (decide (2 ≥ 0) && decide (2 ≤ 2))), .row [vi 2], .b true] (by kernel_rfl) (.c hlt (.c hr (.c (show aG y6 (f9 m1 m2 a) 125 (.ref (.mp 1)) (int a.course) true = some v0 from (by subst v0; first | assumption | rfl | exact lk1 rfl | exact lk2 rfl | exact up1 rfl | exact up2 rfl | exact eD | (refine aK (fun _ => rfl) ?_ ?_ <;> (cases hz : imGet m2 a.course <;> simp_all; done)) | (simp_all; done))) (.c hq (.c (@bZ 2 0 2 (f9 m1 m2 a)) (.c (show (!!(decide (2 ≥ 0) && decide (2 ≤ 2)) && zq (imGet m1 a.course)) = true → aj (↑i : Int) rp [vi 2] 1 from (fun hg => hq)) (.c hc0 .n)))))))) ?_ ?_ <;> subst v0 <;> (first | (have h1 : a7 2 (imGet m1 a.course) = true := hc0; simp only [caF, h1, ad]; first | done | rfl) | (have h1 : a7 2 (imGet m1 a.course) = false := hc0; have h2 : bm l 2 a (imGet m2 a.course) = false := tV; simp only [caF, h1, h2, ad, hw]; first | done | rfl))
noncomputable abbrev qr (m1 : IM) (m2 : IM) (a : AttT) : List Blk := [.var [bool true, fq 208, bool true, fq 209, bool false, Bc (Ba zH)], .map (aW 0 m1) (zf m1), .map (aW 0 m2) (zf m2), .var [int a.course, int a.term, int a.grade, int a.campus, int a.credits]]
theorem ca_bX {l : List AttT} {rp : List (List Dp)} {m1 m2 : IM} {i : Nat} {a : AttT} {r : Int} (hx : (!(decide (r ≥ 0) && decide (r ≤ 2)) || zq (imGet m1 a.course) && zK (imGet m1 a.course) 0 != r) = true) (hr : aj (i : Int) (l.map za) a.row 5) (hq : aj (i : Int) rp [vi r] 1) (hlt : decide ((i : Int) < ((l.map za).length : Int)) = true) (hw : zb.wrap ((i : Int) + 1) = ((i + 1 : Nat) : Int)) : (CW y6 Γ0 [] false (sub A1 0) (caS l rp m1 m2 i) (ad (fun s => caS l rp s.1 s.2 ((i + 1 : Nat) : Int)) caX (caF l i r a (m1, m2))).1 (ad (fun s => caS l rp s.1 s.2 ((i + 1 : Nat) : Int)) caX (caF l i r a (m1, m2))).2) := by
 let v0 := Av [int (zK (imGet m1 a.course) 0), bool (zq (imGet m1 a.course))]
 exact zt (zu (s' := { t := mkT 135 0 [(4, nq), (5, int 1)], h := [], m := [] }) (e := Ai) pok [.st (.mask [4, 5]), .st (.trimV 0)] [.b true, .row (za a), .ov 43 v0, .row [vi r], .val (bool (decide (r ≥ 0) && decide (r ≤ 2))), .row [vi r], .b true] (by kernel_rfl) (.c hlt (.c hr (.c (show aG y6 (qr m1 m2 a) 125 (.ref (.mp 1)) (int a.course) true = some v0 from (by subst v0; first | assumption | rfl | exact lk1 rfl | exact lk2 rfl | exact up1 rfl | exact up2 rfl | exact eD | (refine aK (fun _ => rfl) ?_ ?_ <;> (cases hz : imGet m2 a.course <;> simp_all; done)) | (simp_all; done))) (.c hq (.c (@bZ r 0 2 (qr m1 m2 a)) (.c (show (!!(decide (r ≥ 0) && decide (r ≤ 2)) && zq (imGet m1 a.course)) = true → aj (↑i : Int) rp [vi r] 1 from (fun hg => hq)) (.c hx .n)))))))) (by subst v0; (have h1 : a7 r (imGet m1 a.course) = true := hx); simp only [caF, h1, ad]; first | done | rfl) (by subst v0; (have h1 : a7 r (imGet m1 a.course) = true := hx); simp only [caF, h1, ad]; first | done | rfl) <;> subst v0
end Go.Vi
open Go Go.Proofs
namespace Go.Vi
set_option maxRecDepth 100000
set_option maxHeartbeats 4000000
theorem yR {l : List AttT} {rp : List (List Dp)} {m1 m2 : IM} {i : Nat} (hlt : decide ((i : Int) < ((l.map za).length : Int)) = false) : (CW y6 Γ0 [] false (sub A1 0) (caS l rp m1 m2 i) (.exit 0) { t := mkT 135 0 [(0, aa (l.map za)), (4, ei), (5, int 0), (8, .ref (.mp 2))], h := caH m1 m2, m := [] }) := by
 exact zt (zu (s' := { t := mkT 135 0 [(0, aa (y9 za l)), (4, nq), (5, int 0), (8, .ref (.mp 2))], h := [.var [bool true, fq 208, bool true, fq 209, bool false, Bc (Ba zH)], .map (aW 0 m1) (zf m1), .map (aW 0 m2) (zf m2)], m := [] }) (e := zQ 0) pok [.st (.mask [0, 4, 5, 8])] [.b false] (by kernel_rfl) (.c hlt .n)) (by rfl) (by rfl)
abbrev CaE := (AttT × Int) × Nat
def caE (l : List AttT) (e : CaE) (s : IM × IM) : (IM × IM) ⊕ Unit := caF l (e.2 : Int) e.1.2 e.1.1 s
def caL (l : List AttT) (rp : List Int) : List CaE := (l.zip rp).zipIdx
abbrev caZ (l : List AttT) (s : IM × IM) : AS := { t := mkT 135 0 [(0, aa (l.map za)), (4, ei), (5, int 0), (8, .ref (.mp 2))], h := caH s.1 s.2, m := [] }
def yS (l : List AttT) (rp : List Int) : Exit × AS := bI (.exit 0) (caZ l) caX (bp (caE l) (caL l rp) ([], []))
theorem ca_cw {l : List AttT} (hl : ak l) {rp : List Int} (hr : rp.length = l.length) :
  CW y6 Γ0 [] false (.loop (sub A1 0)) (caS l (rp.map fun n => [vi n]) [] [] 0) (yS l rp).1 (yS l rp).2 := by
 have hlen : (caL l rp).length = l.length := by simp [caL, hr]
 have := CW.each (P := y6) (Γ := Γ0) (h0 := []) (rd := false) (c := sub A1 0) (caL l rp) (caE l) (fun i s => caS l (rp.map fun n => [vi n]) s.1 s.2 (i : Int)) (.exit 0) (caZ l) caX
  (fun _ s => ∀ c v, imGet s.2 c = some v → 0 ≤ v ∧ v < (l.length : Int)) (by simp) (fun _ => by simp) ?_ ?_ ([], []) (by intro c v h; simp [imGet] at h)
 ·exact this
 ·rintro i ⟨⟨a, r⟩, n⟩ ⟨m1, m2⟩ hp hinv
  obtain ⟨hi, he⟩ := zc.1 hp
  rw [hlen] at hi
  have hi' : i < rp.length := by omega
  have e1 : n = i ∧ a = l[i] ∧ r = rp[i] := by
   have e2 := he.symm
   simp [caL] at e2
   obtain ⟨⟨x1, x2⟩, x3⟩ := e2
   exact ⟨x3, x1, x2⟩
  obtain ⟨rfl, ha, hrr⟩ := e1
  have h1 : l[n]? = some a := by rw [ha]; exact zp hi
  have h2 : rp[n]? = some r := by rw [hrr]; exact zp hi'
  have q1 := rowAt (row := za) (sz := 5) h1 rfl
  have q2 := rowAt (row := fun n : Int => [vi n]) (sz := 1) h2 rfl
  have q3 := lt_len za hi
  have q4 := wrap_succ hi hl
  refine ⟨fun s' h => ?_, ?_⟩
  ·simp only [caE, caF] at h
   split at h
   ·simp at h
   ·simp only [Sum.inl.injEq] at h
    subst h
    intro c v hc
    simp only at hc
    split at hc
    ·rw [eC] at hc
     split at hc
     ·simp only [Option.some.injEq] at hc; subst hc; omega
     ·exact hinv c v hc
    ·exact hinv c v hc
  ·simp only [caE]
   by_cases hb : (!(decide (r ≥ 0) && decide (r ≤ 2))) = true
   ·exact ca_bX (by rw [hb]; rfl) q1 q2 q3 q4
   ·have : r = 0 ∨ r = 1 ∨ r = 2 := by simp at hb; omega
    rcases this with h0 | h0 | h0
    ·rw [h0] at q2 ⊢; exact ca_b0 (fun v hv => hinv _ v hv) q1 q2 q3 q4
    ·rw [h0] at q2 ⊢; exact ca_b1 (fun v hv => hinv _ v hv) q1 q2 q3 q4
    ·rw [h0] at q2 ⊢; exact ca_b2 q1 q2 q3 q4
 ·rintro ⟨m1, m2⟩ _
  rw [hlen]
  exact yR (bN za l)
abbrev cgH (m1 m2 : IM) (out : List AttT) : List Blk := [.var tL, imB m1, imB m2, .vec (aC (out.map za)) 0 5]
abbrev cgS (l : List AttT) (m1 m2 : IM) (out : List AttT) (i : Int) : AS :=
 { t := mkT 135 0 [(4, .ref (.vec 3 0)), (5, int 0), (8, .ref (.mp 2)), (108, aa (l.map za)), (109, int (l.map za).length), (110, int i)], h := cgH m1 m2 out, m := [] }
def cgHit (m2 : IM) (i : Nat) (a : AttT) : Bool := !(imGet m2 a.course).isSome || ((imGet m2 a.course).getD 0 == (i : Int))
def cgF (m2 : IM) (e : AttT × Nat) (out : List AttT) : List AttT := bif cgHit m2 e.2 e.1 then out ++ [e.1] else out
theorem yT {l : List AttT} {m1 m2 : IM} {out : List AttT} {i : Nat} {a : AttT} (hr : aj (i : Int) (l.map za) a.row 5) (hlt : decide ((i : Int) < ((l.map za).length : Int)) = true) (hw : zb.wrap ((i : Int) + 1) = ((i + 1 : Nat) : Int)) (ho : out.length ≤ 1000000000) : (CW y6 Γ0 [] false (sub A1 1) (cgS l m1 m2 out i) .normal (cgS l m1 m2 (cgF m2 (a, i) out) ((i + 1 : Nat) : Int))) := by
 cases hc0 : !zq (imGet m2 a.course) || zK (imGet m2 a.course) 0 == (↑i : Int)
 ·let v0 := Av [int (zK (imGet m2 a.course) 0), bool (zq (imGet m2 a.course))]
  refine zt (zu (s' := { t := mkT 135 0 [(4, .ref (.vec 3 0)), (5, int 0), (8, .ref (.mp 2)), (108, aa (y9 za l)), (109, int (↑(zf (y9 za l)) : Int)), (110, int (zg zb ((↑i : Int) + 1)))], h := [.var [bool true, fq 208, bool true, fq 209, bool false, Bc (Ba zH)], .map (aW 0 m1) (zf m1), .map (aW 0 m2) (zf m2), .vec (aC (y9 za out)) 0 5], m := [] }) (e := zr) pok [.st (.mask [4, 5, 8, 108, 109, 110]), .st (.ren 3 0), .st (.trimV 4)] [.b true, .row (za a), .ov 119 v0, .b false] (by kernel_rfl) (.c hlt (.c hr (.c (show aG y6 [.var [bool true, fq 208, bool true, fq 209, bool false, Bc (Ba zH)], .map (aW 0 m1) (zf m1), .map (aW 0 m2) (zf m2), .vec (aC (y9 za out)) 0 5, .var [int a.course, int a.term, int a.grade, int a.campus, int a.credits]] 125 (.ref (.mp 2)) (int a.course) true = some v0 from ?_) (.c hc0 (.c (show y9 (Am (bH 3 0 0)) (aC (y9 za out)) = aC (y9 za out) from ?_) (.c (show y9 (fun e => (Al (bH 3 0 0) e.fst, Al (bH 3 0 0) e.snd.fst, e.snd.snd)) (aW 0 m1) = aW 0 m1 from ?_) (.c (show y9 (fun e => (Al (bH 3 0 0) e.fst, Al (bH 3 0 0) e.snd.fst, e.snd.snd)) (aW 0 m2) = aW 0 m2 from ?_) (.c (show zE 4 (match 0 == 3 with | true => .vec (aC (y9 za out)) 0 5 | false => keepX (bH 3 0 0) (.var [bool true, fq 208, bool true, fq 209, bool false, Bc (Ba zH)])) = true from rfl) (.c (show zE 4 (match 0 + 1 == 3 with | true => .vec (aC (y9 za out)) 0 5 | false => keepX (bH 3 0 0) (.map (aW 0 m1) (zf m1))) = true from ?_) (.c (show zE 4 (match 0 + 1 + 1 == 3 with | true => .vec (aC (y9 za out)) 0 5 | false => keepX (bH 3 0 0) (.map (aW 0 m2) (zf m2))) = true from ?_) (.c (show zE 4 (match 0 + 1 + 1 + 1 == 3 with | true => .vec (aC (y9 za out)) 0 5 | false => keepX (bH 3 0 0) (.vec (aC (y9 za out)) 0 5)) = true from ?_) .n)))))))))))) (by subst v0; first | (have hh : cgHit m2 i a = true := hc0; simp only [cgF, hh, cond_true, hw, bK]; first | done | rfl) | (have hh : cgHit m2 i a = false := hc0; simp only []; first | done | rfl)) (by subst v0; first | (have hh : cgHit m2 i a = true := hc0; simp only [cgF, hh, cond_true, hw, bK]; first | done | rfl) | (have hh : cgHit m2 i a = false := hc0; simp only [cgF, hh, cond_false, hw]; first | done | rfl)) <;> subst v0 <;> (first | assumption | rfl | omega | exact lk2 rfl | exact eD | exact ay _ _ | exact ax | exact mi _ _ _ | (rw [bK]; exact ay _ _) | (rw [bK]; exact ax) | (simp [dB, D.one, Bs, roomOk]; omega))
 ·let v0 : List D := [int a.course, int a.term, int a.grade, int a.campus, int a.credits]
  let v1 := Av [int (zK (imGet m2 a.course) 0), bool (zq (imGet m2 a.course))]
  refine zt (zu (s' := { t := mkT 135 0 [(4, .ref (.vec 3 0)), (5, int 0), (8, .ref (.mp 2)), (108, aa (y9 za l)), (109, int (↑(zf (y9 za l)) : Int)), (110, int (zg zb ((↑i : Int) + 1)))], h := [.var [bool true, fq 208, bool true, fq 209, bool false, Bc (Ba zH)], .map (aW 0 m1) (zf m1), .map (aW 0 m2) (zf m2), .vec (aC (y9 za out) ++ [v0]) 0 5], m := [] }) (e := zr) pok [.st (.mask [4, 5, 8, 108, 109, 110]), .st (.ren 3 0), .st (.trimV 4)] [.b true, .row (za a), .ov 119 v1, .b true] (by kernel_rfl) (.c hlt (.c hr (.c (show aG y6 [.var [bool true, fq 208, bool true, fq 209, bool false, Bc (Ba zH)], .map (aW 0 m1) (zf m1), .map (aW 0 m2) (zf m2), .vec (aC (y9 za out)) 0 5, .var v0] 125 (.ref (.mp 2)) (int a.course) true = some v1 from ?_) (.c hc0 (.c (show (List.all [v0] (dB 5) && roomOk (zf (aC (y9 za out)) + zf [v0]) 40) = true from ?_) (.c (show y9 (Am (bH 3 1 0)) (aC (y9 za out) ++ [v0]) = aC (y9 za out) ++ [v0] from ?_) (.c (show y9 (fun e => (Al (bH 3 1 0) e.fst, Al (bH 3 1 0) e.snd.fst, e.snd.snd)) (aW 0 m1) = aW 0 m1 from ?_) (.c (show y9 (fun e => (Al (bH 3 1 0) e.fst, Al (bH 3 1 0) e.snd.fst, e.snd.snd)) (aW 0 m2) = aW 0 m2 from ?_) (.c (show [v0] = [v0] from rfl) (.c (show zE 4 (match 0 == 3 with | true => .vec (aC (y9 za out) ++ [v0]) 0 5 | false => keepX (bH 3 1 0) (.var [bool true, fq 208, bool true, fq 209, bool false, Bc (Ba zH)])) = true from rfl) (.c (show zE 4 (match 0 + 1 == 3 with | true => .vec (aC (y9 za out) ++ [v0]) 0 5 | false => keepX (bH 3 1 0) (.map (aW 0 m1) (zf m1))) = true from ?_) (.c (show zE 4 (match 0 + 1 + 1 == 3 with | true => .vec (aC (y9 za out) ++ [v0]) 0 5 | false => keepX (bH 3 1 0) (.map (aW 0 m2) (zf m2))) = true from ?_) (.c (show zE 4 (match 0 + 1 + 1 + 1 == 3 with | true => .vec (aC (y9 za out) ++ [v0]) 0 5 | false => keepX (bH 3 1 0) (.vec (aC (y9 za out) ++ [v0]) 1 5)) = true from ?_) .n)))))))))))))) (by subst v0 v1; first | (have hh : cgHit m2 i a = true := hc0; simp only []; first | done | rfl) | (have hh : cgHit m2 i a = false := hc0; simp only [cgF, hh, cond_false, hw]; first | done | rfl)) (by subst v0 v1; first | (have hh : cgHit m2 i a = true := hc0; simp only [cgF, hh, cond_true, hw, bK]; first | done | rfl) | (have hh : cgHit m2 i a = false := hc0; simp only [cgF, hh, cond_false, hw]; first | done | rfl)) <;> subst v0 v1 <;> (first | assumption | rfl | omega | exact lk2 rfl | exact eD | exact ay _ _ | exact ax | exact mi _ _ _ | (rw [bK]; exact ay _ _) | (rw [bK]; exact ax) | (simp [dB, D.one, Bs, roomOk]; omega))
theorem yU {l : List AttT} {m1 m2 : IM} {out : List AttT} {i : Nat} (hlt : decide ((i : Int) < ((l.map za).length : Int)) = false) : (CW y6 Γ0 [] false (sub A1 1) (cgS l m1 m2 out i) (.exit 2) { t := mkT 135 0 [(4, .ref (.vec 3 0)), (5, int 0)], h := cgH m1 m2 out, m := [] }) := by
 exact zt (zu (s' := { t := mkT 135 0 [(4, .ref (.vec 3 0)), (5, int 0)], h := [.var [bool true, fq 208, bool true, fq 209, bool false, Bc (Ba zH)], .map (aW 0 m1) (zf m1), .map (aW 0 m2) (zf m2), .vec (aC (y9 za out)) 0 5], m := [] }) (e := zQ 2) pok [.st (.mask [4, 5])] [.b false] (by kernel_rfl) (.c hlt .n)) (by rfl) (by rfl)
def oV (l : List AttT) (m2 : IM) : List AttT := l.zipIdx.foldl (fun out e => cgF m2 e out) []
theorem cg_cw {l : List AttT} (hl : l.length ≤ 900000000) {m1 m2 : IM} :
  CW y6 Γ0 [] false (.loop (sub A1 1)) (cgS l m1 m2 [] 0) (.exit 2) { t := mkT 135 0 [(4, .ref (.vec 3 0)), (5, int 0)], h := cgH m1 m2 (oV l m2), m := [] } := by
 have hs : ak l := by unfold ak; omega
 have := CW.each (P := y6) (Γ := Γ0) (h0 := []) (rd := false) (c := sub A1 1) (σ := List AttT) (ρ := Empty) l.zipIdx (fun e out => .inl (cgF m2 e out))
  (fun i out => cgS l m1 m2 out (i : Int)) (.exit 2) (fun out => { t := mkT 135 0 [(4, .ref (.vec 3 0)), (5, int 0)], h := cgH m1 m2 out, m := [] }) (fun r => r.elim)
  (fun i out => out.length ≤ i) (by simp) (fun r => r.elim) ?_ ?_ [] (by simp)
 ·rw [cy (fun out e => cgF m2 e out)] at this
  exact this
 ·rintro i ⟨a, n⟩ out hp hout
  obtain ⟨hi, he⟩ := zc.1 hp
  simp only [Ei] at hi
  have e1 : a = l[i] ∧ n = i := by simpa [eq_comm] using he.symm
  obtain ⟨ha, rfl⟩ := e1
  have h1 : l[n]? = some a := by rw [ha]; exact zp hi
  refine ⟨fun s' h => ?_, yT (rowAt h1 rfl) (lt_len za hi) (wrap_succ hi hs) (by omega)⟩
  cases h
  unfold cgF
  cases cgHit m2 n a <;> simp <;> omega
 ·intro out _
  rw [Ei]
  exact yU (bN za l)
end Go.Vi
open Go Go.Proofs
namespace Go.Vi
set_option maxRecDepth 100000
set_option maxHeartbeats 4000000
abbrev keS (as_ rp : List (List Dp)) (out : List AttT) (i : Int) : AS := { t := mkT 123 0 [(0, aa as_), (1, aa rp), (4, ei), (5, int 0), (9, .ref (.vec 0 0)), (10, int i)], h := [.vec (aC (out.map za)) 0 5], m := [] }
def keF (l : List AttT) (p : (AttT × Int) × Nat) (out : List AttT) : List AttT := bif stays l p.1.1 p.1.2 p.2 then out ++ [p.1.1] else out
theorem yV {l : List AttT} {rp : List Int} (hl : ak l) {out : List AttT} {i : Nat} {a : AttT} {x : Int} (ha : l[i]? = some a) (hx : rp[i]? = some x) (hr : aj (i : Int) (l.map za) a.row 5) (hlt : decide ((i : Int) < ((l.map za).length : Int)) = true) (hw : zb.wrap ((i : Int) + 1) = ((i + 1 : Nat) : Int)) (ho : out.length ≤ 1000000000) : (CW y6 Γ0 [] false (sub AZ 2) (keS (l.map za) (rp.map fun n => [vi n]) out i) .normal (keS (l.map za) (rp.map fun n => [vi n]) (keF l ((a, x), i) out) ((i + 1 : Nat) : Int))) := by
 have hl0 := (@kd_cw (l) (rp) (hl) (aC (y9 za out)) (i) (a) (x) (ha) (hx))
 cases hc1 : stays l a x i
 ·refine zt (zu (s' := { t := mkT 123 0 [(0, aa (y9 za l)), (1, aa (y9 (fun n => [vi n]) rp)), (4, nq), (5, int 0), (9, .ref (.vec 0 0)), (10, int (zg zb ((↑i : Int) + 1)))], h := [.vec (aC (y9 za out)) 0 5], m := [] }) (e := zr) pok [.st (.mask [0, 1, 4, 5, 9, 10]), .st (.ren 0 0), .st (.trimV 1)] [.b true, .sum [0, 1, 4, 5, 9, 10, 11, 12] (zQ 6) { t := mkT 123 0 [(0, aa (y9 za l)), (1, aa (y9 (fun n => [vi n]) rp)), (4, nq), (5, int 0), (9, .ref (.vec 0 0)), (10, int (↑i : Int)), (11, bool (stays l a x i))], h := [.vec (aC (y9 za out)) 0 5], m := [] }, .b false] (by kernel_rfl) (.c hlt (.c hl0 (.c hc1 (.c (show y9 (Am (bH 0 0 0)) (aC (y9 za out)) = aC (y9 za out) from (by first | assumption | rfl | omega | exact ay _ _ | exact ax | (rw [bK]; exact ay _ _) | (rw [bK]; exact ax) | (simp [dB, D.one, Bs, roomOk]; omega))) (.c (show zE 1 (match 0 == 0 with | true => .vec (aC (y9 za out)) 0 5 | false => keepX (bH 0 0 0) (.vec (aC (y9 za out)) 0 5)) = true from (by first | assumption | rfl | omega | exact ay _ _ | exact ax | (rw [bK]; exact ay _ _) | (rw [bK]; exact ax) | (simp [dB, D.one, Bs, roomOk]; omega))) .n)))))) ?_ ?_ <;> (first | (have hh : stays l a x i = true := hc1; simp only [keF, hh, cond_true, hw, bK]; first | done | rfl) | (have hh : stays l a x i = false := hc1; simp only [keF, hh, cond_false, hw]; first | done | rfl))
 ·let v0 : List D := [int a.course, int a.term, int a.grade, int a.campus, int a.credits]
  refine zt (zu (s' := { t := mkT 123 0 [(0, aa (y9 za l)), (1, aa (y9 (fun n => [vi n]) rp)), (4, nq), (5, int 0), (9, .ref (.vec 0 0)), (10, int (zg zb ((↑i : Int) + 1)))], h := [.vec (aC (y9 za out) ++ [v0]) 0 5], m := [] }) (e := zr) pok [.st (.mask [0, 1, 4, 5, 9, 10]), .st (.ren 0 0), .st (.trimV 1)] [.b true, .sum [0, 1, 4, 5, 9, 10, 11, 12] (zQ 6) { t := mkT 123 0 [(0, aa (y9 za l)), (1, aa (y9 (fun n => [vi n]) rp)), (4, nq), (5, int 0), (9, .ref (.vec 0 0)), (10, int (↑i : Int)), (11, bool (stays l a x i))], h := [.vec (aC (y9 za out)) 0 5], m := [] }, .b true, .row (za a)] (by kernel_rfl) (.c hlt (.c hl0 (.c hc1 (.c hr (.c (show (List.all [v0] (dB 5) && roomOk (zf (aC (y9 za out)) + zf [v0]) 40) = true from ?_) (.c (show y9 (Am (bH 0 1 0)) (aC (y9 za out) ++ [v0]) = aC (y9 za out) ++ [v0] from ?_) (.c (show [v0] = [v0] from rfl) (.c (show zE 1 (match 0 == 0 with | true => .vec (aC (y9 za out) ++ [v0]) 0 5 | false => keepX (bH 0 1 0) (.vec (aC (y9 za out) ++ [v0]) 1 5)) = true from ?_) .n))))))))) (by subst v0; first | (have hh : stays l a x i = true := hc1; simp only []; first | done | rfl) | (have hh : stays l a x i = false := hc1; simp only [keF, hh, cond_false, hw]; first | done | rfl)) (by subst v0; first | (have hh : stays l a x i = true := hc1; simp only [keF, hh, cond_true, hw, bK]; first | done | rfl) | (have hh : stays l a x i = false := hc1; simp only [keF, hh, cond_false, hw]; first | done | rfl)) <;> subst v0 <;> (first | assumption | rfl | omega | exact ay _ _ | exact ax | (rw [bK]; exact ay _ _) | (rw [bK]; exact ax) | (simp [dB, D.one, Bs, roomOk]; omega))
theorem yW {as_ rp : List (List Dp)} {out : List AttT} {i : Nat} (hlt : decide ((i : Int) < (as_.length : Int)) = false) : (CW y6 Γ0 [] false (sub AZ 2) (keS as_ rp out i) (.exit 4) { t := mkT 123 0 [(4, ei), (5, int 0), (9, .ref (.vec 0 0))], h := [.vec (aC (out.map za)) 0 5], m := [] }) := by
 exact zt (zu (s' := { t := mkT 123 0 [(4, nq), (5, int 0), (9, .ref (.vec 0 0))], h := [.vec (aC (y9 za out)) 0 5], m := [] }) (e := zQ 4) pok [.st (.mask [4, 5, 9])] [.b false] (by kernel_rfl) (.c hlt .n)) (by rfl) (by rfl)
def vG (l : List AttT) (rp : List Int) : List AttT := (l.zip rp).zipIdx.foldl (fun out p => keF l p out) []
theorem ke_cw {l : List AttT} {rp : List Int} (hl : l.length ≤ 900000000) (hlen : rp.length = l.length) :
  CW y6 Γ0 [] false (.loop (sub AZ 2)) (keS (l.map za) (rp.map fun n => [vi n]) [] 0) (.exit 4) { t := mkT 123 0 [(4, ei), (5, int 0), (9, .ref (.vec 0 0))], h := [.vec (aC ((vG l rp).map za)) 0 5], m := [] } := by
 have hs : ak l := by unfold ak; omega
 have hlen2 : (l.zip rp).zipIdx.length = l.length := by simp; omega
 have key := CW.each (P := y6) (Γ := Γ0) (h0 := []) (rd := false) (c := sub AZ 2) (σ := List AttT) (ρ := Empty) (l.zip rp).zipIdx (fun p out => .inl (keF l p out))
  (fun i out => keS (l.map za) (rp.map fun n => [vi n]) out (i : Int)) (.exit 4) (fun out => { t := mkT 123 0 [(4, ei), (5, int 0), (9, .ref (.vec 0 0))], h := [.vec (aC (out.map za)) 0 5], m := [] }) (fun r => r.elim) (fun i out => out.length ≤ i) (by simp) (fun r => r.elim) ?_ ?_ [] (by simp)
 ·rw [cy] at key
  exact key
 ·intro i p out hp hout
  have hi := (zc.1 hp).1
  rw [hlen2] at hi
  rw [Bh] at hp
  obtain ⟨q, hq, rfl⟩ := ze.1 hp
  obtain ⟨a, x⟩ := q
  obtain ⟨ha, hx⟩ := AG.1 hq
  simp only at ha hx
  refine ⟨fun s' h => ?_, ?_⟩
  ·cases h
   unfold keF
   cases stays l a x (0 + i) <;> simp <;> omega
  ·have := yV hs ha hx (rowAt ha rfl) (lt_len za hi) (wrap_succ hi hs) (out := out) (by omega)
   simp only [Nat.zero_add]
   exact this
 ·intro out _
  rw [hlen2]
  exact yW (bN za l)
end Go.Vi
open Go Go.Proofs
namespace Go.Vi
set_option maxRecDepth 100000
set_option maxHeartbeats 4000000
def caR (l : List AttT) (rp : List Int) : (IM × IM) ⊕ Unit := bp (caE l) (caL l rp) ([], [])
theorem qt {l : List AttT} {rp : List Int} : yS l rp = bI (.exit 0) (caZ l) caX (caR l rp) := rfl
def kc (l : List AttT) (rp : List Int) : List AttT × Int :=
 bif decide (da l = 0) then (bif decide (rp.length = l.length) then (match caR l rp with | .inl s => (oV l s.2, 0) | .inr _ => ([], 1)) else ([], 1)) else ([], da l)
theorem qu {l : List AttT} {rp : List Int} (h : (da l != 0) = true) : kc l rp = ([], da l) := by
 have h' : da l ≠ 0 := by simpa using h
 simp [kc, h']
theorem vH {l : List AttT} {rp : List Int} (h1 : (da l != 0) = false) (h2 : rp.length ≠ l.length) : kc l rp = ([], 1) := by
 have h' : da l = 0 := by simpa using h1
 simp [kc, h', h2]
theorem qv {l : List AttT} {rp : List Int} (h1 : (da l != 0) = false) (h2 : rp.length = l.length) {u : Unit} (h3 : caR l rp = .inr u) : kc l rp = ([], 1) := by
 have h' : da l = 0 := by simpa using h1
 simp [kc, h', h2, h3]
theorem tW {l : List AttT} {rp : List Int} (h1 : (da l != 0) = false) (h2 : rp.length = l.length) {s : IM × IM} (h3 : caR l rp = .inl s) : kc l rp = (oV l s.2, 0) := by
 have h' : da l = 0 := by simpa using h1
 simp [kc, h', h2, h3]
theorem len_ne {l : List AttT} {rp : List Int} (h2 : rp.length ≠ l.length) : (((rp.map fun n => [vi n]).length : Int) != ((l.map za).length : Int)) = true := by
 simp; omega
theorem tX {l : List AttT} {rp : List Int} (h2 : rp.length = l.length) : (((rp.map fun n => [vi n]).length : Int) != ((l.map za).length : Int)) = false := by
 simp; omega
theorem vI (b n : Nat) (rows : List (List Dp)) (m : IM) (k : Nat) : (aW k m).map (fun e => (Al (ik b n rows) e.1, Al (ik b n rows) e.2.1, e.2.2)) = aW k m := by
 induction m generalizing k with
 | nil => rfl
 | cons e m ih => simp only [aW, AH, ih]; rfl
theorem vJ (l : List AttT) : aC (l.map za) = (l.map za).map (y9 Bc) := by simp [aC]
theorem cnt_e1 {l : List AttT} {rp : List Int} (hs : ak l) (hz : (da l != 0) = true) (h : List Blk) : (Ev y6 Γ0 118 [aa (l.map za), aa (rp.map fun n => [vi n])] h (.tup [aa [], int (da l)]) h) := by
 exact zk (Bi (zm (d := Av [nq, int (da l)]) pok [.val (int (da l)), .b true] (by kernel_rfl) (.c (@f8 l hs ([])) (.c hz .n)) rfl rfl h)) (by rfl) (by rfl)
theorem cnt_e2 {l : List AttT} {rp : List Int} (hs : ak l) (hz : (da l != 0) = false) (hne : (((rp.map fun n => [vi n]).length : Int) != ((l.map za).length : Int)) = true) (h : List Blk) : (Ev y6 Γ0 118 [aa (l.map za), aa (rp.map fun n => [vi n])] h (.tup [aa [], int 1]) h) := by
 exact zk (Bi (zm (d := Av [nq, int 1]) pok [.val (int (da l)), .b false, .b true] (by kernel_rfl) (.c (@f8 l hs ([])) (.c hz (.c hne .n))) rfl rfl h)) (by rfl) (by rfl)
theorem aErr0 {l : List AttT} (hz : (da l != 0) = false) : da l = 0 := by simpa using hz
abbrev caS2 (l : List AttT) (rp : List (List Dp)) (z : Int) : AS :=
 { t := mkT 135 0 [(0, aa (l.map za)), (1, aa rp), (4, ei), (5, int z), (6, .ref (.ptr 0 0)), (7, .ref (.mp 1)), (8, .ref (.mp 2)), (32, aa (l.map za)), (33, int (l.map za).length), (34, int 0)], h := caH [] [], m := [] }
theorem tY {l : List AttT} (hs : ak l) {rp : List Int} (hr : rp.length = l.length) {u : Unit} (hc : caR l rp = .inr u) (hz : (da l != 0) = false) :
  CW y6 Γ0 [] false (.loop (sub A1 0)) (caS2 l (rp.map fun n => [vi n]) (da l)) .ret { t := mkT 135 0 [(4, ei), (5, int 1)], h := [], m := [] } := by
 have := ca_cw hs hr
 rw [qt, hc] at this
 rw [aErr0 hz]
 exact this
theorem cnt_e3 {l : List AttT} {rp : List Int} (hs : ak l) (hr : rp.length = l.length) {u : Unit} (hc : caR l rp = .inr u) (hz : (da l != 0) = false) (hne : (((rp.map fun n => [vi n]).length : Int) != ((l.map za).length : Int)) = false) (h : List Blk) : (Ev y6 Γ0 118 [aa (l.map za), aa (rp.map fun n => [vi n])] h (.tup [aa [], int 1]) h) := by
 have hl0 := (@tY (l) (hs) (rp) (hr) (u) (hc) (hz))
 exact zk (Bi (zm (d := Av [nq, int 1]) pok [.val (int (da l)), .b false, .b false, .val (D.agg [bool true, fq 208, bool true, fq 209, bool false, Bc (Ba zH)]), .sum [0, 1, 4, 5, 6, 7, 8, 32, 33, 34] (Ai) { t := mkT 135 0 [(4, nq), (5, int 1)], h := [], m := [] }] (by kernel_rfl) (.c (@f8 l hs ([])) (.c hz (.c hne (.c (@qp ([])) (.c hl0 .n))))) rfl rfl h)) (by rfl) (by rfl)
theorem vK {l : List AttT} (hs : ak l) {rp : List Int} (hr : rp.length = l.length) {m1 m2 : IM} (hc : caR l rp = .inl (m1, m2)) (hz : (da l != 0) = false) :
  CW y6 Γ0 [] false (.loop (sub A1 0)) (caS2 l (rp.map fun n => [vi n]) (da l)) (.exit 0) (caZ l (m1, m2)) := by
 have := ca_cw hs hr
 rw [qt, hc] at this
 rw [aErr0 hz]
 exact this
theorem cnt_ok {l : List AttT} {rp : List Int} (hs : ak l) (hl : l.length ≤ 900000000) (hr : rp.length = l.length) {m1 m2 : IM} (hc : caR l rp = .inl (m1, m2)) (hz : (da l != 0) = false) (hne : (((rp.map fun n => [vi n]).length : Int) != ((l.map za).length : Int)) = false) (h : List Blk) : (Ev y6 Γ0 118 [aa (l.map za), aa (rp.map fun n => [vi n])] h (.tup [aa ((oV l m2).map za), int 0]) h) := by
 have hl0 := (@vK (l) (hs) (rp) (hr) (m1) (m2) (hc) (hz))
 have hl1 := (@cg_cw (l) (hl) (m1) (m2))
 let v0 := y9 za (oV l m2)
 refine zk (Bi (zm (d := Av [aa v0, int 0]) pok [.val (int (da l)), .b false, .b false, .val (D.agg [bool true, fq 208, bool true, fq 209, bool false, Bc (Ba zH)]), .sum [0, 1, 4, 5, 6, 7, 8, 32, 33, 34] (zQ 0) { t := mkT 135 0 [(0, aa (y9 za l)), (4, nq), (5, int 0), (8, .ref (.mp 2))], h := [.var [bool true, fq 208, bool true, fq 209, bool false, Bc (Ba zH)], .map (aW 0 m1) (zf (m1, m2).fst), .map (aW 0 m2) (zf (m1, m2).snd)], m := [] }, .nx 1, .st (.nilT 4 5), .sum [4, 5, 8, 108, 109, 110] (zQ 2) { t := mkT 135 0 [(4, .ref (.vec 3 0)), (5, int 0)], h := [.var [bool true, fq 208, bool true, fq 209, bool false, Bc (Ba zH)], .map (aW 0 m1) (zf m1), .map (aW 0 m2) (zf m2), .vec (aC v0) 0 5], m := [] }, .st (.mask [4, 5]), .st (.frz 3 v0), .st (.trimV 0)] (by kernel_rfl) (.c (@f8 l hs ([])) (.c hz (.c hne (.c (@qp ([])) (.c hl0 (.c hl1 (.c (show aC v0 = y9 (fun x => y9 Bc x) v0 from ?_) (.c (show y9 (fun e => (Al (ik 3 0 v0) e.fst, Al (ik 3 0 v0) e.snd.fst, e.snd.snd)) (aW 0 m1) = aW 0 m1 from ?_) (.c (show y9 (fun e => (Al (ik 3 0 v0) e.fst, Al (ik 3 0 v0) e.snd.fst, e.snd.snd)) (aW 0 m2) = aW 0 m2 from ?_) .n))))))))) rfl rfl h)) (by rfl) (by rfl) <;> subst v0 <;> (first | assumption | rfl | exact vJ _ | exact vI _ _ _ _ _)
theorem cnt_ev {l : List AttT} (hl : l.length ≤ 900000000) {rp : List Int} (h : List Blk) : Ev y6 Γ0 118 [aa (l.map za), aa (rp.map fun n => [vi n])] h (.tup [aa ((kc l rp).1.map za), int (kc l rp).2]) h := by
 have hs : ak l := by unfold ak; omega
 cases hz : (da l != 0)
 ·by_cases hr : rp.length = l.length
  ·cases hc : caR l rp with
   | inl s => obtain ⟨m1, m2⟩ := s; rw [tW hz hr hc]; exact cnt_ok hs hl hr hc hz (tX hr) h
   | inr u => rw [qv hz hr hc]; exact cnt_e3 hs hr hc hz (tX hr) h
  ·rw [vH hz hr]; exact cnt_e2 hs hz (len_ne hr) h
 ·rw [qu hz]; exact cnt_e1 hs hz h
end Go.Vi
open Go Go.Proofs
namespace Go.Vi
set_option maxRecDepth 100000
set_option maxHeartbeats 4000000
def ia (l : List AttT) (rp : List Int) : List AttT × Int := match da l != 0 with
 | true => ([], da l)
 | false => match ((rp.map fun n => [vi n]).length : Int) != ((l.map za).length : Int) with
  | true => ([], 1)
  | false => match koR l rp with
   | .inr _ => ([], 1)
   | .inl _ => (vG l rp, 0)
theorem yX {l : List AttT} {rp : List Int} (hl : l.length ≤ 900000000) (hs : ak l) (hlen : rp.length = l.length) (hck : ∀ h, Ev y6 Γ0 130 [aa (l.map za)] h (int (da l)) h) (h : List Blk) : (Ev y6 Γ0 112 [aa (l.map za), aa (rp.map fun n => [vi n])] h (.tup [aa ((ia l rp).1.map za), int (ia l rp).2]) h) := by
 cases hc0 : da l != 0
 ·cases hc1 : (↑(zf (y9 (fun n => [vi n]) rp)) : Int) != (↑(zf (y9 za l)) : Int)
  ·have hl2 := (@ko_cw (l) (rp) (hs) (hlen))
   unfold yN at hl2
   revert hl2
   cases ho3 : koR l rp with
   | inl o3_0_0 =>
    intro hl2
    have hl4 := (@ke_cw (l) (rp) (hl) (hlen))
    let v0 := y9 za (vG l rp)
    exact zk (Bi (zm (d := Av [aa v0, int 0]) pok [.val (int (da l)), .b false, .b false, .sum [0, 1, 4, 5, 7] (zQ 0) { t := mkT 123 0 [(0, aa (y9 za l)), (1, aa (y9 (fun n => [vi n]) rp)), (4, nq), (5, int 0)], h := [], m := [] }, .nx 2, .st (.ren 0 0), .sum [0, 1, 4, 5, 9, 10] (zQ 4) { t := mkT 123 0 [(4, nq), (5, int 0), (9, .ref (.vec 0 0))], h := [.vec (aC v0) 0 5], m := [] }, .st (.frz 0 v0)] (by kernel_rfl) (.c (@hck ([])) (.c hc0 (.c hc1 (.c hl2 (.c (show ([] : List (List D)) = [] from rfl) (.c hl4 (.c (show aC v0 = y9 (fun x => y9 Bc x) v0 from (by subst v0; first | assumption | rfl | omega | exact ay _ _ | exact ax)) .n))))))) rfl rfl h)) (by subst v0; simp only [ia, hc0, hc1, ho3]; first | done | rfl) (by rfl)
   | inr o3_1_0 =>
    intro hl2
    exact zk (Bi (zm (d := Av [nq, int 1]) pok [.val (int (da l)), .b false, .b false, .sum [0, 1, 4, 5, 7] (Ai) { t := mkT 123 0 [(4, nq), (5, int 1)], h := [], m := [] }] (by kernel_rfl) (.c (@hck ([])) (.c hc0 (.c hc1 (.c hl2 .n)))) rfl rfl h)) (by simp only [ia, hc0, hc1, ho3]; first | done | rfl) (by rfl)
  ·exact zk (Bi (zm (d := Av [nq, int 1]) pok [.val (int (da l)), .b false, .b true] (by kernel_rfl) (.c (@hck ([])) (.c hc0 (.c hc1 .n))) rfl rfl h)) (by simp only [ia, hc0, hc1]; first | done | rfl) (by rfl)
 ·exact zk (Bi (zm (d := Av [nq, int (da l)]) pok [.val (int (da l)), .b true] (by kernel_rfl) (.c (@hck ([])) (.c hc0 .n)) rfl rfl h)) (by simp only [ia, hc0]; first | done | rfl) (by rfl)
end Go.Vi
open Go Go.Proofs
namespace Go.Vi
set_option maxRecDepth 100000
set_option maxHeartbeats 1000000
theorem mj (a b : AttT) (kind i k : Int) : bet a b kind i k = true ↔ (kind = 0 ∧ (a.grade > b.grade ∨ (a.grade = b.grade ∧ (a.term < b.term ∨ (a.term = b.term ∧ i < k))))) ∨ (kind ≠ 0 ∧ (a.term > b.term ∨ (a.term = b.term ∧ i > k))) := by
 unfold bet
 cases h0 : kind == 0 <;> cases h1 : a.grade != b.grade <;> cases h2 : a.term != b.term <;>
  simp only [beq_iff_eq, beq_eq_false_iff_ne, bne_iff_ne, bne_eq_false_iff_eq, ne_eq] at h0 h1 h2 <;> simp only [decide_eq_true_eq] <;> omega
theorem tZ {a b : AttT} {kind i k : Int} (h : bet a b kind i k = true) : bet b a kind k i = false := by
 cases hb : bet b a kind k i
 ·rfl
 ·rw [mj] at h hb; omega
theorem t3 {a b c : AttT} {kind i j k : Int} (h1 : bet a b kind i j = true) (h2 : bet b c kind j k = true) : bet a c kind i k = true := by
 rw [mj] at h1 h2 ⊢; omega
theorem t4 {a b : AttT} {x : Int} {n j : Nat} (hx : x = 0 ∨ x = 1) (hj : j < n) : (yQ x a b = true → bet a b x n j = true) ∧ (yQ x a b = false → bet b a x j n = true) := by
 rw [mj, mj]
 rcases hx with rfl | rfl
 ·have e : yQ 0 a b = rep0 a b := rfl
  rw [e, ← Bool.not_eq_true]
  simp only [rep0, A3, zd, decide_eq_true_eq, beq_iff_eq]
  refine ⟨fun h => .inl ⟨trivial, ?_⟩, fun h => .inl ⟨trivial, ?_⟩⟩ <;> omega
 ·have e : yQ 1 a b = rep1 a b := rfl
  rw [e, ← Bool.not_eq_true]
  simp only [rep1, decide_eq_true_eq]
  constructor <;> intro h <;> omega
structure CInv (l : List AttT) (rp : List Int) (n : Nat) (s : IM × IM) : Prop where
 a1 : ∀ k, k < n → ∀ b v, l[k]? = some b → rp[k]? = some v → imGet s.1 b.course = some v
 a2 : ∀ c v, imGet s.1 c = some v → ∃ k b, k < n ∧ l[k]? = some b ∧ rp[k]? = some v ∧ b.course = c
 b1 : ∀ c j, imGet s.2 c = some j → ∃ (k : Nat) (b : AttT) (v : Int), j = (k : Int) ∧ k < n ∧ l[k]? = some b ∧ rp[k]? = some v ∧ b.course = c ∧ v ≠ 2 ∧ ∀ m, m < n → m ≠ k → ∀ b' v', l[m]? = some b' → rp[m]? = some v' → b'.course = c → bet b b' v k m = true
 b2 : ∀ c, imGet s.2 c = none → ∀ k, k < n → ∀ b v, l[k]? = some b → rp[k]? = some v → b.course = c → v = 2
theorem yY (l : List AttT) (rp : List Int) (i : Nat) (a : AttT) (x : Int) : kcR l rp i a x = bif (((l.zip rp).take i).any fun p => clash a p.1 x p.2) then .inr () else .inl () := by
 unfold kcR
 generalize (l.zip rp).take i = z
 induction z with
 | nil => rfl
 | cons p z ih =>
  simp only [bp, kcF, List.any_cons]
  cases clash a p.1 x p.2
  ·simpa using ih
  ·rfl
theorem c_step {l : List AttT} {rp : List Int} {n : Nat} {s : IM × IM} {a : AttT} {x : Int} (hi : CInv l rp n s) (ha : l[n]? = some a) (hx : rp[n]? = some x) :
  (koF l rp ((a, x), n) () = .inr () ∧ caE l ((a, x), n) s = .inr ()) ∨ (koF l rp ((a, x), n) () = .inl () ∧ ∃ s', caE l ((a, x), n) s = .inl s' ∧ CInv l rp (n + 1) s') := by
 have hbad : koF l rp ((a, x), n) () = bif a7 x (imGet s.1 a.course) then .inr () else .inl () := by
  unfold koF a7
  simp only
  rw [yY]
  have e1 : (decide (x < 0) || decide (x > 2)) = !(decide (x ≥ 0) && decide (x ≤ 2)) := by
   rw [BF]; simp only [A3, decide_eq_true_eq, Bool.not_eq_true', Bool.and_eq_false_iff, decide_eq_false_iff_not]; omega
  have e2 : (((l.zip rp).take n).any fun p => clash a p.1 x p.2) = ((imGet s.1 a.course).isSome && ((imGet s.1 a.course).getD 0 != x)) := by
   rw [BF, Dg]
   constructor
   ·rintro ⟨p, hp, hc⟩
    obtain ⟨k, hk⟩ := Ar.1 hp
    have hkn : k < n := by
     have := (zc.1 hk).1
     rw [List.length_take] at this; omega
    rw [Dm hkn] at hk
    obtain ⟨h1, h2⟩ := AG.1 hk
    simp only [clash, zd, beq_iff_eq, bne_iff_ne] at hc
    rw [hc.1, hi.a1 k hkn _ _ h1 h2]
    simpa using fun h => hc.2 h.symm
   ·intro h
    cases hg : imGet s.1 a.course with
    | none => rw [hg] at h; simp at h
    | some v =>
     rw [hg] at h
     obtain ⟨k, b, hk, h1, h2, h3⟩ := hi.a2 _ _ hg
     refine ⟨(b, v), Ar.2 ⟨k, ?_⟩, ?_⟩
     ·rw [Dm hk]; exact AG.2 ⟨h1, h2⟩
     ·have : v ≠ x := by simpa using h
      simp [clash, h3, Ne.symm this]
  rw [e1, e2]
  cases !(decide (x ≥ 0) && decide (x ≤ 2)) <;> rfl
 rw [hbad]
 show _ ∨ (_ ∧ ∃ s', caF l (n : Int) x a s = _ ∧ _)
 have hE : caE l ((a, x), n) s = caF l (n : Int) x a s := rfl
 rw [hE]
 unfold caF
 cases hb : a7 x (imGet s.1 a.course)
 ·refine .inr ⟨rfl, _, rfl, ?_⟩
  unfold a7 at hb
  simp only [Bool.or_eq_false_iff, Bool.not_eq_false', zd, decide_eq_true_eq] at hb
  obtain ⟨hr, hcl⟩ := hb
  have same : ∀ k, k < n → ∀ b v, l[k]? = some b → rp[k]? = some v → b.course = a.course → v = x := by
   intro k hk b v h1 h2 h3
   have := hi.a1 k hk b v h1 h2
   rw [h3] at this
   rw [this] at hcl
   simpa using hcl
  constructor
  ·intro k hk b v h1 h2
   simp only [eC]
   split
   ·rename_i hc
    by_cases hkn : k = n
    ·subst hkn; rw [h2] at hx; rw [← hx]
    ·rw [same k (by omega) b v h1 h2 hc.symm]
   ·rename_i hc
    by_cases hkn : k = n
    ·subst hkn; rw [h1] at ha; cases ha; exact absurd rfl hc
    ·exact hi.a1 k (by omega) b v h1 h2
  ·intro c v hg
   simp only [eC] at hg
   split at hg
   ·rename_i hc
    cases hg
    exact ⟨n, a, by omega, ha, hx, hc⟩
   ·obtain ⟨k, b, hk, h1, h2, h3⟩ := hi.a2 c v hg
    exact ⟨k, b, by omega, h1, h2, h3⟩
  ·intro c j hg
   simp only at hg
   cases hh : bm l x a (imGet s.2 a.course) <;> rw [hh] at hg <;> simp only at hg
   ·obtain ⟨k, b, v, rfl, hk, h1, h2, h3, h4, h5⟩ := hi.b1 c j hg
    refine ⟨k, b, v, rfl, by omega, h1, h2, h3, h4, fun m hm hmk b' v' q1 q2 q3 => ?_⟩
    by_cases hmn : m = n
    ·subst hmn
     rw [ha] at q1; cases q1
     have hvx : v = x := same k hk b v h1 h2 (h3.trans q3.symm)
     subst hvx
     unfold bm at hh
     rw [q3, hg] at hh
     have h01 : v = 0 ∨ v = 1 := by omega
     have e01 : (v == 0 || v == 1) = true := by rcases h01 with rfl | rfl <;> rfl
     have hgd : l.getD k default = b := by rw [zi, h1]; rfl
     simp only [e01, Ad, DZ, Bw, Bool.false_or, Aa, Int.toNat_natCast, hgd] at hh
     exact (t4 h01 hk).2 hh
    ·exact h5 m (by omega) hmk b' v' q1 q2 q3
   ·rw [eC] at hg
    unfold bm at hh
    simp only [zd, A3, beq_iff_eq] at hh
    obtain ⟨h01, hh⟩ := hh
    split at hg
    ·rename_i hc
     cases hg
     refine ⟨n, a, x, rfl, by omega, ha, hx, hc, by omega, fun m hm hmn b' v' q1 q2 q3 => ?_⟩
     have hm' : m < n := by omega
     have hv' := same m hm' b' v' q1 q2 (q3.trans hc.symm)
     cases hg2 : imGet s.2 a.course with
     | none => have := hi.b2 _ hg2 m hm' b' v' q1 q2 (q3.trans hc.symm); omega
     | some j =>
      obtain ⟨k, b, v, rfl, hk, h1, h2, h3, h4, h5⟩ := hi.b1 _ j hg2
      have hvx : v = x := same k hk b v h1 h2 h3
      subst hvx
      have hgd : l.getD k default = b := by rw [zi, h1]; rfl
      rw [hg2] at hh
      simp only [DZ, Bw, Bool.false_eq_true, false_or, Aa, Int.toNat_natCast, hgd] at hh
      have t1 := (t4 h01 hk).1 hh
      by_cases hmk : m = k
      ·subst hmk; rw [h1] at q1; cases q1; exact t1
      ·exact t3 t1 (h5 m hm' hmk b' v' q1 q2 (q3.trans hc.symm))
    ·obtain ⟨k, b, v, rfl, hk, h1, h2, h3, h4, h5⟩ := hi.b1 c j hg
     rename_i hc
     refine ⟨k, b, v, rfl, by omega, h1, h2, h3, h4, fun m hm hmk b' v' q1 q2 q3 => ?_⟩
     by_cases hmn : m = n
     ·subst hmn; rw [ha] at q1; cases q1; exact absurd q3 hc
     ·exact h5 m (by omega) hmk b' v' q1 q2 q3
  ·intro c hg k hk b v h1 h2 h3
   simp only at hg
   have hg0 : imGet s.2 c = none ∧ (a.course = c → x = 2) := by
    cases hh : bm l x a (imGet s.2 a.course) <;> rw [hh] at hg <;> simp only at hg
    ·refine ⟨hg, fun hc => ?_⟩
     subst hc
     unfold bm at hh
     rw [hg] at hh
     simp at hh
     omega
    ·rw [eC] at hg
     split at hg
     ·cases hg
     ·rename_i hc; exact ⟨hg, fun e => absurd e hc⟩
   by_cases hkn : k = n
   ·subst hkn; rw [ha] at h1; rw [hx] at h2; cases h1; cases h2; exact hg0.2 h3
   ·exact hi.b2 c hg0.1 k (by omega) b v h1 h2 h3
 ·exact .inl ⟨rfl, rfl⟩
theorem c_run {l : List AttT} {rp : List Int} (hlen : rp.length = l.length) : ∀ (z : List (AttT × Int)) (n : Nat) (s : IM × IM), (l.zip rp).drop n = z → n ≤ l.length → CInv l rp n s →
  (bp (koF l rp) (z.zipIdx n) () = .inr () ∧ bp (caE l) (z.zipIdx n) s = .inr ()) ∨ (bp (koF l rp) (z.zipIdx n) () = .inl () ∧ ∃ s', bp (caE l) (z.zipIdx n) s = .inl s' ∧ CInv l rp l.length s')
 | [], n, s, hz, hn, hi => by
  have : (l.zip rp).length ≤ n := List.drop_eq_nil_iff.1 hz
  rw [List.length_zip] at this
  obtain rfl : n = l.length := by omega
  exact .inr ⟨rfl, s, rfl, hi⟩
 | (a, x) :: z, n, s, hz, hn, hi => by
  have h1 : (l.zip rp)[n]? = some (a, x) := by
   have := congrArg List.head? hz
   rw [List.head?_drop] at this
   exact this
  obtain ⟨ha, hx⟩ := AG.1 h1
  have hn' := (zc.1 ha).1
  have hz' : (l.zip rp).drop (n + 1) = z := by rw [← List.drop_drop, hz]; rfl
  rw [List.zipIdx_cons]
  simp only [bp]
  rcases c_step hi ha hx with ⟨e1, e2⟩ | ⟨e1, s', e2, hi'⟩
  ·rw [e1, e2]; exact .inl ⟨rfl, rfl⟩
  ·rw [e1, e2]; exact c_run hlen z (n + 1) s' hz' hn' hi'
theorem t5 (l : List AttT) (a : AttT) (x : Int) (i : Nat) : stays l a x i = !(l.zipIdx.any fun p => outBy a p.1 x (p.2 : Int) (i : Int)) := by
 have key : ∀ (z : List (AttT × Nat)) (c : Bool), z.foldl (kdG a x i) c = (c && !(z.any fun p => outBy a p.1 x (p.2 : Int) (i : Int))) := by
  intro z
  induction z with
  | nil => simp
  | cons p z ih =>
   intro c
   rw [Dw, ih, List.any_cons]
   unfold kdG
   cases outBy a p.1 x (p.2 : Int) (i : Int) <;> cases c <;> simp
 unfold stays
 rw [key, Ad]
theorem t6 {l : List AttT} {rp : List Int} {s : IM × IM} (hlen : rp.length = l.length) (hi : CInv l rp l.length s) {i : Nat} {a : AttT} {x : Int} (ha : l[i]? = some a) (hx : rp[i]? = some x) : cgHit s.2 i a = stays l a x i := by
 have hil := (zc.1 ha).1
 have get : ∀ {p : AttT × Nat}, p ∈ l.zipIdx → l[p.2]? = some p.1 := by
  intro p hp
  obtain ⟨k, hk⟩ := Ar.1 hp
  rw [Bh] at hk
  obtain ⟨b, hb, rfl⟩ := ze.1 hk
  simpa using hb
 rw [t5]
 unfold cgHit
 cases hg : imGet s.2 a.course with
 | none =>
  have h2 := hi.b2 _ hg i hil a x ha hx rfl
  have : (l.zipIdx.any fun p => outBy a p.1 x (p.2 : Int) (i : Int)) = false := by
   rw [List.any_eq_false]; intro p _; simp [outBy, h2]
  rw [this]; rfl
 | some j =>
  obtain ⟨k, b, v, rfl, hk, h1, h2, h3, h4, h5⟩ := hi.b1 _ j hg
  have hvx : v = x := by
   have e1 := hi.a1 k hk b v h1 h2
   have e2 := hi.a1 i hil a x ha hx
   rw [h3, e2] at e1
   exact (Option.some.inj e1).symm
  subst hvx
  by_cases hki : k = i
  ·subst hki
   rw [ha] at h1; cases h1
   have : (l.zipIdx.any fun p => outBy a p.1 v (p.2 : Int) (k : Int)) = false := by
    rw [List.any_eq_false]
    intro p hp
    have hp' := get hp
    have hpl := (zc.1 hp').1
    unfold outBy
    by_cases hpk : p.2 = k
    ·simp [hpk]
    ·by_cases hc : p.1.course = a.course
     ·have := tZ (h5 p.2 hpl hpk p.1 _ hp' (zp (by omega)) hc)
      simp [this]
     ·simp [hc]
   rw [this]; simp
  ·have : (l.zipIdx.any fun p => outBy a p.1 v (p.2 : Int) (i : Int)) = true := by
    rw [Dg]
    refine ⟨(b, k), Ar.2 ⟨k, by rw [Bh, h1]; simp⟩, ?_⟩
    have e := h5 i hil (Ne.symm hki) a v ha hx rfl
    have e2 : ((k : Int) != (i : Int)) = true := by rw [bne_iff_ne]; omega
    have e3 : (v != 2) = true := by simpa using h4
    simp only [outBy, e, e2, e3, h3, beq_self_eq_true, Bool.and_true]
   rw [this]
   have : ¬ (k : Int) = (i : Int) := by omega
   simpa using this
theorem nR {l : List AttT} {m2 : IM} : ∀ (z : List (AttT × Int)) (n : Nat) (out : List AttT), (∀ p ∈ z.zipIdx n, cgHit m2 p.2 p.1.1 = stays l p.1.1 p.1.2 p.2) →
  (z.zipIdx n).foldl (fun out p => keF l p out) out = ((z.map (·.1)).zipIdx n).foldl (fun out e => cgF m2 e out) out
 | [], _, _, _ => rfl
 | (a, x) :: z, n, out, h => by
  simp only [List.zipIdx_cons, AH, Dw] at h ⊢
  rw [nR z (n + 1) _ fun p hp => h p (List.mem_cons_of_mem _ hp)]
  have h0 := h ((a, x), n) (List.mem_cons_self ..)
  unfold keF cgF
  simp only at h0 ⊢
  rw [h0]
theorem vL {l : List AttT} {rp : List Int} (hlen : rp.length = l.length) : ia l rp = kc l rp := by
 unfold ia
 cases hz : (da l != 0)
 ·simp only [tX hlen]
  have h0 : CInv l rp 0 ([], []) := ⟨fun k hk => absurd hk (Nat.not_lt_zero _), fun c v h => by simp [imGet] at h, fun c j h => by simp [imGet] at h, fun c _ k hk => absurd hk (Nat.not_lt_zero _)⟩
  rcases c_run hlen (l.zip rp) 0 ([], []) rfl (Nat.zero_le _) h0 with ⟨e1, e2⟩ | ⟨e1, s, e2, hi⟩
  ·have e1' : koR l rp = .inr () := e1
   have e2' : caR l rp = .inr () := e2
   rw [e1', qv hz hlen e2']
  ·have e1' : koR l rp = .inl () := e1
   have e2' : caR l rp = .inl s := e2
   rw [e1', tW hz hlen e2']
   simp only
   congr 1
   unfold vG oV
   have hm : (l.zip rp).map (·.1) = l := List.map_fst_zip (by omega)
   have := nR (l := l) (m2 := s.2) (l.zip rp) 0 [] fun p hp => by
    obtain ⟨k, hk⟩ := Ar.1 hp
    rw [Bh] at hk
    obtain ⟨q, hq, rfl⟩ := ze.1 hk
    obtain ⟨h1, h2⟩ := AG.1 hq
    simp only [Nat.zero_add]
    exact t6 hlen hi h1 h2
   rw [hm] at this
   exact this
 ·simp only [qu hz]
end Go.Vi
open Go Go.Proofs
namespace Go.Vi
set_option maxRecDepth 100000
set_option maxHeartbeats 4000000
abbrev cvV (xs : List Int) : List (List D) := aC (xs.map fun n => [vi n])
abbrev cvS (w : WorldT) (known term : Int) (as_ : List (List Dp)) (rs : List ReadT) (xs : List Int) (i : Int) : AS :=
 { t := mkT 36 0 [(0, .ref (.ptr 0 0)), (1, aa as_), (2, int term), (8, .ref (.vec 2 0)), (14, aa as_), (15, int as_.length), (16, int i)], h := lkH w known rs 1 ++ [.vec (cvV xs) 0 1], m := [] }
theorem ga {h : List Blk} {xs : List Int} {i : Nat} {v : Int} (hb : h[2]? = some (.vec (cvV xs) 0 1)) (hi : i < xs.length) : bA y6 h 3 (.ref (.vp 2 0 (zh (i : Int)) 0)) (int v) = some (h.set 2 (.vec (cvV (xs.set i v)) 0 1)) := by
 have e1 : (cvV xs)[zh (i : Int)]? = some [int xs[i]] := by simp [hi]
 have e2 : szOf y6 3 = some 1 := by kernel_rfl
 have e3 : (cvV xs).set (zh (i : Int)) [int v] = cvV (xs.set i v) := by simp [List.map_set]
 unfold bA
 simp only [int, D.cells, e2, hb, e1]
 rw [← e3]
 rfl
theorem nS {xs : List Int} {i : Nat} (hi : i < xs.length) : inR (i : Int) (cvV xs).length = true := by
 simp [inR]; omega
noncomputable abbrev gR (w : WorldT) (known : Int) (term : Int) (a : AttT) (rs : List ReadT) (xs : List Int) : List Blk := [.var [.ref (.vec 1 2), aa (y9 zS w.c), aa w.p, aa (y9 zZ w.s), aa (y9 zo w.f), int known], .vec (aC (rdR (rs ++ rdT 1 a.course 0 term))) 2 5, .vec (cvV xs) 0 1, .var [int a.course, int a.term, int a.grade, int a.campus, int a.credits]]
theorem yZ {w : WorldT} (hw : w.ok) {known term : Int} {as_ : List (List Dp)} {a : AttT} {rs0 rs : List ReadT} {xs : List Int} {i : Nat} (hi : i < xs.length) (hr : aj (i : Int) as_ a.row 5) (hlt : decide ((i : Int) < (as_.length : Int)) = true) (hwr : zb.wrap ((i : Int) + 1) = ((i + 1 : Nat) : Int)) (hb : rs.length ≤ 999998000) : (CW y6 Γk (lkH w known rs0 0) false (sub D1 0) (cvS w known term as_ rs xs i) .normal (cvS w known term as_ (rs ++ rdT 1 a.course 0 term) (xs.set i (ab w a.course term known).1.rep) ((i + 1 : Nat) : Int))) := by
 let v0 := D.agg [ai (ab w a.course term known).fst.name, int (ab w a.course term known).fst.number, int (ab w a.course term known).fst.credits, int (ab w a.course term known).fst.rep, int (y7 (ab w a.course term known).fst.need).op, int (y7 (ab w a.course term known).fst.need).c, ai (y7 (ab w a.course term known).fst.need).nm, int (y7 (ab w a.course term known).fst.need).n, int (y7 (ab w a.course term known).fst.need).d, aa (y7 (ab w a.course term known).fst.need).ks, int (y7 (ab w a.course term known).fst.bar).op, int (y7 (ab w a.course term known).fst.bar).c, ai (y7 (ab w a.course term known).fst.bar).nm, int (y7 (ab w a.course term known).fst.bar).n, int (y7 (ab w a.course term known).fst.bar).d, aa (y7 (ab w a.course term known).fst.bar).ks]
 let v1 : List D := [.ref (.vec 1 1), aa (y9 zS w.c), aa w.p, aa (y9 zZ w.s), aa (y9 zo w.f), int known]
 let v2 := List.set xs i (ab w a.course term known).fst.rep
 let v3 : List D := [.ref (.vec 1 2), aa (y9 zS w.c), aa w.p, aa (y9 zZ w.s), aa (y9 zo w.f), int known]
 let v4 : List D := [int a.course, int a.term, int a.grade, int a.campus, int a.credits]
 let v5 : List Blk := [.var v1, .vec (aC (rdR rs)) 1 5, .vec (cvV xs) 0 1, .var v4]
 refine zt (zu (s' := { t := mkT 36 0 [(0, .ref (.ptr 0 0)), (1, aa as_), (2, int term), (8, .ref (.vec 2 0)), (14, aa as_), (15, int (↑(zf as_) : Int)), (16, int (zg zb ((↑i : Int) + 1)))], h := [.var v1, .vec (aC (rdR (rs ++ rdT 1 a.course 0 term))) 1 5, .vec (cvV v2) 0 1], m := [] }) (e := zr) pok [.st (.mask [0, 1, 2, 8, 14, 15, 16]), .st (.ren 1 1), .st (.trimV 3)] [.b true, .row (za a), .call v0 (gR w known term a rs xs), .oh 10029 C6 (lkH w known (rs ++ rdT 1 a.course 0 term) 2 ++ [.vec (cvV v2) 0 1, .var (y9 Bc (za a))])] (by kernel_rfl) (.c hlt (.c hr (.c (show Ev y6 Γk 116 [.ref (.ptr 0 0), int a.course, int term] v5 v0 (gR w known term a rs xs) from (zk (DN (args := [.ref (.ptr 0 0), int a.course, int term]) (H := v5) [0, 1] (Ev.upX [0, 1] (@oU w hw known (a.course) term rs ?_) (by kernel_rfl) ⟨(by subst v0 v1 v2 v3 v4 v5; first | rfl | exact bM _ _ | first | assumption | rfl | omega | exact ga rfl hi | exact nS hi | exact ay _ _ | exact ax), trivial⟩ ⟨(by subst v0 v1 v2 v3 v4 v5; first | rfl | exact bM _ _ | first | assumption | rfl | omega | exact ga rfl hi | exact nS hi | exact ay _ _ | exact ax), trivial⟩) (by kernel_rfl) (by kernel_rfl) (by kernel_rfl) ⟨(by subst v0 v1 v2 v3 v4 v5; first | rfl | exact bM _ _ | first | assumption | rfl | omega | exact ga rfl hi | exact nS hi | exact ay _ _ | exact ax), trivial⟩ ⟨(by subst v0 v1 v2 v3 v4 v5; first | rfl | exact bM _ _ | first | assumption | rfl | omega | exact ga rfl hi | exact nS hi | exact ay _ _ | exact ax), trivial⟩) (by kernel_rfl) (by kernel_rfl))) (.c (show inR (↑i : Int) (zf (cvV xs)) = true from ?_) (.c (show bA y6 (gR w known term a rs xs) 3 (.ref (.vp 2 0 (zh (↑i : Int)) 0)) (int (ab w a.course term known).fst.rep) = some [.var v3, .vec (aC (rdR (rs ++ rdT 1 a.course 0 term))) 2 5, .vec (cvV v2) 0 1, .var v4] from ?_) (.c (show y9 (Am (bH 1 2 1)) (aC (rdR (rs ++ rdT 1 a.course 0 term))) = aC (rdR (rs ++ rdT 1 a.course 0 term)) from ?_) (.c (show y9 (Am (bH 1 2 1)) (cvV v2) = cvV v2 from ?_) (.c (show zE 3 (match 0 == 1 with | true => .vec (aC (rdR (rs ++ rdT 1 a.course 0 term))) 1 5 | false => keepX (bH 1 2 1) (.var v3)) = true from rfl) (.c (show zE 3 (match 0 + 1 == 1 with | true => .vec (aC (rdR (rs ++ rdT 1 a.course 0 term))) 1 5 | false => keepX (bH 1 2 1) (.vec (aC (rdR (rs ++ rdT 1 a.course 0 term))) 2 5)) = true from ?_) (.c (show zE 3 (match 0 + 1 + 1 == 1 with | true => .vec (aC (rdR (rs ++ rdT 1 a.course 0 term))) 1 5 | false => keepX (bH 1 2 1) (.vec (cvV v2) 0 1)) = true from ?_) .n))))))))))) (by subst v0 v1 v2 v3 v4 v5; first | rfl | (simp only [hwr]; rfl)) (by subst v0 v1 v2 v3 v4 v5; first | rfl | (simp only [hwr]; rfl)) <;> subst v0 v1 v2 v3 v4 v5 <;> (first | assumption | rfl | omega | exact ga rfl hi | exact nS hi | exact ay _ _ | exact ax)
theorem y1 {w : WorldT} {known term : Int} {as_ : List (List Dp)} {rs0 rs : List ReadT} {xs : List Int} {i : Nat} (hlt : decide ((i : Int) < (as_.length : Int)) = false) : (CW y6 Γk (lkH w known rs0 0) false (sub D1 0) (cvS w known term as_ rs xs i) (.exit 0) { t := mkT 36 0 [(1, aa as_), (8, .ref (.vec 2 0))], h := lkH w known rs 1 ++ [.vec (cvV xs) 0 1], m := [] }) := by
 exact zt (zu (s' := { t := mkT 36 0 [(1, aa as_), (8, .ref (.vec 2 0))], h := [.var [.ref (.vec 1 1), aa (y9 zS w.c), aa w.p, aa (y9 zZ w.s), aa (y9 zo w.f), int known], .vec (aC (rdR rs)) 1 5, .vec (cvV xs) 0 1], m := [] }) (e := zQ 0) pok [.st (.mask [1, 8])] [.b false] (by kernel_rfl) (.c hlt .n)) (by rfl) (by rfl)
def cP (w : WorldT) (known term : Int) (l : List AttT) : List Int := l.map fun a => (ab w a.course term known).1.rep
def c8 (term : Int) (l : List AttT) : List ReadT := l.flatMap fun a => rdT 1 a.course 0 term
theorem iH (term : Int) : ∀ l : List AttT, (c8 term l).length ≤ l.length
 | [] => by simp [c8]
 | a :: l => by have := iH term l; have := jJ 1 a.course 0 term; simp only [c8, List.flatMap_cons, List.length_append, List.length_cons] at *; omega
theorem y2 {f : AttT → Int} {l : List AttT} {i : Nat} {a : AttT} (hi : i < l.length) (ha : l[i]? = some a) : ((l.take i).map f ++ zz (l.length - i) 0).set i (f a) = (l.take (i + 1)).map f ++ zz (l.length - (i + 1)) 0 := by
 have e1 : l.length - i = (l.length - (i + 1)) + 1 := by omega
 rw [List.set_append_right _ _ (by simp; omega), C8, ha, e1, List.replicate_succ]
 have : i - ((l.take i).map f).length = 0 := by simp; omega
 rw [this]
 simp
theorem cv_cw {w : WorldT} (hw : w.ok) {known term : Int} {l : List AttT} (hl : l.length ≤ 90000000) {rs0 rs : List ReadT} (hb : rs.length ≤ 900000000) {V : List (List D)} (hV : V = cvV (zz l.length 0)) :
  CW y6 Γk (lkH w known rs0 0) false (.loop (sub D1 0)) { t := mkT 36 0 [(0, .ref (.ptr 0 0)), (1, aa (l.map za)), (2, int term), (8, .ref (.vec 2 0)), (14, aa (l.map za)), (15, int (l.map za).length), (16, int 0)], h := lkH w known rs 1 ++ [.vec V 0 1], m := [] } (.exit 0) { t := mkT 36 0 [(1, aa (l.map za)), (8, .ref (.vec 2 0))], h := lkH w known (rs ++ c8 term l) 1 ++ [.vec (cvV (cP w known term l)) 0 1], m := [] } := by
 subst hV
 have hs : ak l := by unfold ak; omega
 have := CW.loopN (P := y6) (Γ := Γk) (h0 := lkH w known rs0 0) (rd := false) (c := sub D1 0) l.length
  (fun i => cvS w known term (l.map za) (rs ++ c8 term (l.take i)) ((l.take i).map (fun a => (ab w a.course term known).1.rep) ++ zz (l.length - i) 0) (i : Int)) (e := .exit 0) (s' := { t := mkT 36 0 [(1, aa (l.map za)), (8, .ref (.vec 2 0))], h := lkH w known (rs ++ c8 term l) 1 ++ [.vec (cvV (cP w known term l)) 0 1], m := [] }) (by simp) ?_ ?_
 ·have e0 : rs ++ c8 term (l.take 0) = rs := by simp [c8]
  have e1 : (l.take 0).map (fun a => (ab w a.course term known).1.rep) ++ zz (l.length - 0) 0 = zz l.length 0 := by simp
  simp only [e0, e1] at this
  exact this
 ·intro i hi
  have ha : l[i]? = some l[i] := zp hi
  have key := yZ hw (known := known) (term := term) (rs0 := rs0) (rs := rs ++ c8 term (l.take i)) (xs := (l.take i).map (fun a => (ab w a.course term known).1.rep) ++ zz (l.length - i) 0) (i := i) (by simp; omega) (rowAt ha rfl) (lt_len za hi) (wrap_succ hi hs) (by have := iH term (l.take i); simp at *; omega)
  rw [y2 (f := fun a => (ab w a.course term known).1.rep) hi ha] at key
  have e2 : c8 term (l.take (i + 1)) = c8 term (l.take i) ++ rdT 1 l[i].course 0 term := by
   unfold c8; rw [C8, ha, Option.toList_some, List.flatMap_append, List.flatMap_singleton]
  rw [e2, ← List.append_assoc]
  exact key
 ·have := y1 (w := w) (known := known) (term := term) (as_ := l.map za) (rs0 := rs0) (rs := rs ++ c8 term l) (xs := cP w known term l) (i := l.length) (bN za l)
  have e3 : l.map (fun a => (ab w a.course term known).1.rep) ++ zz (l.length - l.length) 0 = cP w known term l := by simp [cP]
  simp only [List.take_length, e3]
  exact this
theorem makeV (l : List AttT) : zz (zh ((l.map za).length : Int)) [int 0] = cvV (zz l.length 0) := by simp []
theorem t7 (f : Ref → D) (n : Nat) : (zz n [int 0]).map (Am f) = zz n [int 0] := by rw [List.map_replicate]; rfl
theorem ml (xs : List Int) : cvV xs = (xs.map fun n => [vi n]).map (y9 Bc) := by simp []
noncomputable abbrev jN (w : WorldT) (known : Int) (term : Int) (l : List AttT) (rs : List ReadT) : List Blk := [.var [.ref (.vec 1 1), aa (y9 zS w.c), aa w.p, aa (y9 zZ w.s), aa (y9 zo w.f), int known], .vec (aC (rdR (rs ++ c8 term l))) 1 5]
theorem vM {w : WorldT} (hw : w.ok) {known term : Int} {l : List AttT} (hl : l.length ≤ 90000000) {rs : List ReadT} (hb : rs.length ≤ 900000000) : (Ev y6 Γk 61 [.ref (.ptr 0 0), aa (l.map za), int term] (lkH w known rs 0) (.tup [aa ((kc l (cP w known term l)).1.map za), int (kc l (cP w known term l)).2]) (lkH w known (rs ++ c8 term l) 1)) := by
 have hl0 := (@cv_cw (w) (hw) (known) (term) (l) (hl) (rs) (rs) (hb) (zz (zh (↑(zf (y9 za l)) : Int)) (y9 lit (Value.cells (Value.int zb 0)).toList)) (by first | assumption | rfl | omega | exact makeV _ | exact t7 _ _ | exact ml _ | exact ay _ _ | exact ax | (simp; omega)))
 let v0 := zf (y9 za l)
 let v1 : List D := [.ref (.vec 1 1), aa (y9 zS w.c), aa w.p, aa (y9 zZ w.s), aa (y9 zo w.f), int known]
 let v2 : List D := [aa (y9 za (kc l (cP w known term l)).fst), int (kc l (cP w known term l)).snd]
 let v3 := y9 lit (Value.cells (Value.int zb 0)).toList
 refine zk (Ev.of_sym (h' := (jN w known term l rs)) (d := Av v2) pok [.nx 3, .st (.ren 1 1), .sum [0, 1, 2, 8, 14, 15, 16] (zQ 0) { t := mkT 36 0 [(1, aa (y9 za l)), (8, .ref (.vec 2 0))], h := [.var v1, .vec (aC (rdR (rs ++ c8 term l))) 1 5, .vec (cvV (cP w known term l)) 0 1], m := [] }, .st (.mask [1, 8]), .st (.frz 2 (y9 (fun n => [vi n]) (cP w known term l))), .st (.trimV 2), .val (Av v2)] (by kernel_rfl) (.c (show (decide (0 ≤ (↑v0 : Int)) && decide ((↑v0 : Int) ≤ (↑v0 : Int)) && decide ((↑v0 : Int) * (↑8 : Int) ≤ 281474976710656) && decide ((↑v0 : Int) ≤ 281474976710656)) = true from ?_) (.c (show y9 (Am (bH 1 0 1)) (aC (rdR rs)) = aC (rdR rs) from ?_) (.c (show y9 (Am (bH 1 0 1)) (zz (zh (↑v0 : Int)) v3) = zz (zh (↑v0 : Int)) v3 from ?_) (.c hl0 (.c (show cvV (cP w known term l) = y9 (fun x => y9 Bc x) (y9 (fun n => [vi n]) (cP w known term l)) from ?_) (.c (show y9 (Am (ik 2 0 (y9 (fun n => [vi n]) (cP w known term l)))) (aC (rdR (rs ++ c8 term l))) = aC (rdR (rs ++ c8 term l)) from ?_) (.c (show zE 2 (match 0 == 2 with | true => .gone | false => keepX (ik 2 0 (y9 (fun n => [vi n]) (cP w known term l))) (.var v1)) = true from rfl) (.c (show zE 2 (match 0 + 1 == 2 with | true => .gone | false => keepX (ik 2 0 (y9 (fun n => [vi n]) (cP w known term l))) (.vec (aC (rdR (rs ++ c8 term l))) 1 5)) = true from ?_) (.c (zV (Γ' := Γk) (@cnt_ev l ?_ (cP w known term l) (jN w known term l rs))) .n)))))))))) (by rfl) (by rfl) <;> subst v0 v1 v2 v3 <;> (first | assumption | rfl | omega | exact makeV _ | exact t7 _ _ | exact ml _ | exact ay _ _ | exact ax | (simp; omega))
end Go.Vi
open Go Go.Proofs
namespace Go.Vi
set_option maxRecDepth 100000
set_option maxHeartbeats 4000000
def cC (r : RecT) (term : Int) : Bool := aI r != 0 || !(decide (term ≥ 0) && decide (term ≤ 1023))
def rcX (b : Bool) (e : Int) (L : List AttT) (rr : List ReadT) : List AttT × List ReadT × Int := match b with
 | true => ([], [], 150)
 | false => match (e != 0) with
  | true => ([], [], e)
  | false => (L, rr, 0)
noncomputable abbrev gb (w : WorldT) (r : RecT) (known : Int) (rr : List ReadT) : List Blk := [.var [aa (y9 zS w.c), aa w.p, aa (y9 zZ w.s), aa (y9 zo w.f)], .var [int r.st, aa (y9 za r.a)], .var [.ref (.vec 3 1), aa (y9 zS w.c), aa w.p, aa (y9 zZ w.s), aa (y9 zo w.f), int known], .vec (aC (rdR rr)) 1 5]
noncomputable abbrev ge (w : WorldT) (r : RecT) (known : Int) : List Blk := [.var [aa (y9 zS w.c), aa w.p, aa (y9 zZ w.s), aa (y9 zo w.f)], .var [int r.st, aa (y9 za r.a)], .var [.ref (.vec 3 0), aa (y9 zS w.c), aa w.p, aa (y9 zZ w.s), aa (y9 zo w.f), int known], .vec [] 0 5]
noncomputable abbrev dJ (w : WorldT) (r : RecT) : List Blk := [.var [aa (y9 zS w.c), aa w.p, aa (y9 zZ w.s), aa (y9 zo w.f)], .var [int r.st, aa (y9 za r.a)]]
theorem rcnt_a {w : WorldT} {r : RecT} (hr : ak r.a) {term known e : Int} {rr : List ReadT} {L : List AttT} (hc : Ev y6 Γk 61 [.ref (.ptr 0 0), aa (r.a.map za), int term] (lkH w known [] 0) (.tup [aa (L.map za), int e]) (lkH w known rr 1)) (h : List Blk) : (Ev y6 Γk 53 [.agg w.l, .agg r.l, int term, int known] h (.tup [aa ((rcX (cC r term) e L rr).1.map za), aa (rdR (rcX (cC r term) e L rr).2.1), int (rcX (cC r term) e L rr).2.2]) h) := by
 cases hc0 : aI r != 0 || !(decide (term ≥ 0) && decide (term ≤ 1023))
 ·cases hc1 : e != 0
  ·refine zk (Bi (zm (d := Av [aa (y9 za L), aa (rdR rr), int 0]) pok [.val (int (aI r)), .val (bool (decide (term ≥ 0) && decide (term ≤ 1023))), .b false, .nx 1, .st (.nilC 2 0 5), .call (Av [aa (y9 za L), int e]) (gb w r known rr), .st (.frz 3 (rdR rr)), .b false] (by kernel_rfl) (.c (zV (Γ' := Γk) (@gQ r hr (dJ w r))) (.c (gd (!aI r != 0) (zV (Γ' := Γk) (@a8 term 0 1023 (dJ w r)))) (.c hc0 (.c (show Ev y6 Γk 61 [.ref (.ptr 2 0), aa (y9 za r.a), int term] (ge w r known) (Av [aa (y9 za L), int e]) (gb w r known rr) from (zk (DN (args := [.ref (.ptr 2 0), aa (y9 za r.a), int term]) (H := (ge w r known)) [2, 3] (@hc) (by kernel_rfl) (by kernel_rfl) (by kernel_rfl) ⟨?_, trivial⟩ ⟨?_, trivial⟩) (by kernel_rfl) (by kernel_rfl))) (.c (show aC (rdR rr) = y9 (fun x => y9 Bc x) (rdR rr) from (by first | assumption | rfl | omega | exact ay _ _ | exact ax)) (.c hc1 .n)))))) rfl rfl h)) (by first | (have hh : cC r term = true := hc0; simp only [rcX, hh]; rfl) | (have hh : cC r term = false := hc0; have h2 : (e != 0) = true := hc1; simp only [rcX, hh, h2]; rfl) | (have hh : cC r term = false := hc0; have h2 : (e != 0) = false := hc1; simp only [rcX, hh, h2]; rfl)) (by rfl) <;> (first | rfl | exact bM _ _ | first | assumption | rfl | omega | exact ay _ _ | exact ax)
  ·refine zk (Bi (zm (d := Av [nq, nq, int e]) pok [.val (int (aI r)), .val (bool (decide (term ≥ 0) && decide (term ≤ 1023))), .b false, .nx 1, .st (.nilC 2 0 5), .call (Av [aa (y9 za L), int e]) (gb w r known rr), .st (.frz 3 (rdR rr)), .b true] (by kernel_rfl) (.c (zV (Γ' := Γk) (@gQ r hr (dJ w r))) (.c (gd (!aI r != 0) (zV (Γ' := Γk) (@a8 term 0 1023 (dJ w r)))) (.c hc0 (.c (show Ev y6 Γk 61 [.ref (.ptr 2 0), aa (y9 za r.a), int term] (ge w r known) (Av [aa (y9 za L), int e]) (gb w r known rr) from (zk (DN (args := [.ref (.ptr 2 0), aa (y9 za r.a), int term]) (H := (ge w r known)) [2, 3] (@hc) (by kernel_rfl) (by kernel_rfl) (by kernel_rfl) ⟨?_, trivial⟩ ⟨?_, trivial⟩) (by kernel_rfl) (by kernel_rfl))) (.c (show aC (rdR rr) = y9 (fun x => y9 Bc x) (rdR rr) from (by first | assumption | rfl | omega | exact ay _ _ | exact ax)) (.c hc1 .n)))))) rfl rfl h)) (by first | (have hh : cC r term = true := hc0; simp only [rcX, hh]; rfl) | (have hh : cC r term = false := hc0; have h2 : (e != 0) = true := hc1; simp only [rcX, hh, h2]; rfl) | (have hh : cC r term = false := hc0; have h2 : (e != 0) = false := hc1; simp only [rcX, hh, h2]; rfl)) (by rfl) <;> (first | rfl | exact bM _ _ | first | assumption | rfl | omega | exact ay _ _ | exact ax)
 ·exact zk (Bi (zm (d := Av [nq, nq, int 150]) pok [.val (int (aI r)), .val (bool (decide (term ≥ 0) && decide (term ≤ 1023))), .b true] (by kernel_rfl) (.c (zV (Γ' := Γk) (@gQ r hr (dJ w r))) (.c (gd (!aI r != 0) (zV (Γ' := Γk) (@a8 term 0 1023 (dJ w r)))) (.c hc0 .n))) rfl rfl h)) (by first | (have hh : cC r term = true := hc0; simp only [rcX, hh]; rfl) | (have hh : cC r term = false := hc0; have h2 : (e != 0) = true := hc1; simp only [rcX, hh, h2]; rfl) | (have hh : cC r term = false := hc0; have h2 : (e != 0) = false := hc1; simp only [rcX, hh, h2]; rfl)) (by rfl)
def oW (w : WorldT) (r : RecT) (term known : Int) : List AttT × List ReadT × Int :=
 rcX (cC r term) (kc r.a (cP w known term r.a)).2 (kc r.a (cP w known term r.a)).1 (c8 term r.a)
theorem y3 {w : WorldT} (hw : w.ok) {r : RecT} (hr : r.a.length ≤ 90000000) {term known : Int} (h : List Blk) : Ev y6 Γk 53 [.agg w.l, .agg r.l, int term, int known] h (.tup [aa ((oW w r term known).1.map za), aa (rdR (oW w r term known).2.1), int (oW w r term known).2.2]) h :=
 rcnt_a (by unfold ak; omega) (by have := vM hw (known := known) (term := term) (l := r.a) hr (rs := []) (by simp); simpa using this) h
end Go.Vi
