/- RecordCountedSpecUpto: part of the proof: contracts of the functions that the law reaches, and the law. No conditions beyond the given statement's own. -/
import Derived.Test.YtilebidefogaiaaGreatDoorW3
open List renaming mem_map → zI, map → y9, length → zf, map_append → Bl, getD → zi, getElem?_eq_some_iff → zc, getElem?_eq_getElem → zp, getElem?_zip_eq_some → AG, getElem?_zipIdx → Bh
open Go.Vi.CourseT renaming row → zS
open Go.Vi.SysT renaming row → zZ
open Go.Vi.FactT renaming row → zo
open Go.Proofs.Tryz renaming prog → y6, f30 → C9, f130 → Dv, f31 → CF, f112 → AZ
open Go.Vi.Ev renaming castH → zk, sym0 → zm
open Bool renaming and_eq_true → zd, eq_iff_iff → BF, false_and → zT, and_false → zU, and_self → zX
open Go.IntKind renaming i64 → zb, wrap → zg
open Go.Vi.D renaming agg → AQ
open Go.Vi.RuleT renaming fl → y7
open Go.Vi.AttT renaming row → za
open Int renaming toNat → zh
open Go.Vi.CW renaming cast → zt, symX → zu, each → Cz
open Go.Exit renaming normal → zr, ret → Ai, exit → zQ
open Prod renaming fst → DY
open Option.some renaming injEq → y5
open Nat renaming zero_add → A6
open Go.Value renaming tuple → Ah
open Option renaming map_eq_some_iff → ze
open Go Go.Proofs
namespace Go.Vi
set_option maxRecDepth 100000
set_option maxHeartbeats 4000000
structure ReadT where
 kind : Int
 sub : Int
 obj : Int
 frm : Int
 til : Int
 deriving Inhabited, DecidableEq
def ReadT.row (r : ReadT) : List Dp := [vi r.kind, vi r.sub, vi r.obj, vi r.frm, vi r.til]
abbrev rdR (l : List ReadT) : List (List Dp) := l.map ReadT.row
theorem yD (l : List ReadT) : (aC (rdR l)).all (dB 5) = true := by
 rw [List.all_eq_true]
 intro r hr
 obtain ⟨x, hx, rfl⟩ := zI.1 hr
 obtain ⟨y, _, rfl⟩ := zI.1 hx
 rfl
theorem tG (l m : List ReadT) : aC (rdR l) ++ aC (rdR m) = aC (rdR (l ++ m)) := by simp [aC]
abbrev lkH (w : WorldT) (known : Int) (rs : List ReadT) (e : Nat) : List Blk := [.var [.ref (.vec 1 e), aa (w.c.map zS), aa w.p, aa (w.s.map zZ), aa (w.f.map zo), int known], .vec (aC (rdR rs)) e 5]
theorem vt {w : WorldT} {known : Int} {rs qs : List ReadT} (hb : rs.length + qs.length ≤ 1000000000) : (Ev y6 Γk 119 [.ref (.ptr 0 0), aa (rdR qs)] (lkH w known rs 0) (.tup []) (lkH w known (rs ++ qs) 1)) := by
 refine zk (Ev.of_sym (h' := [.var [.ref (.vec 1 1), aa (y9 zS w.c), aa w.p, aa (y9 zZ w.s), aa (y9 zo w.f), int known], .vec (aC (rdR rs) ++ y9 (fun x => y9 D.p x) (rdR qs)) 1 5]) (d := D.tup []) pok [] (by kernel_rfl) (.c (show (List.all (y9 (fun x => y9 D.p x) (rdR qs)) (dB 5) && roomOk (zf (aC (rdR rs)) + zf (y9 (fun x => y9 D.p x) (rdR qs))) 40) = true from (by first | assumption | rfl | omega | (simp only [yD, roomOk, Bool.true_and, zd, decide_eq_true_eq, List.length_map]; omega))) .n)) ?_ ?_ <;> (first | rfl | (simp only [lkH, rdR, aC, Bl]; rfl) | (simp only [lkH, rdR, aC, Bl]; done))
def rdT (kk ks ko term : Int) : List ReadT := match outB term with
 | true => []
 | false => [⟨kk, ks, ko, term, zb.wrap (term + 1)⟩]
theorem tH (kk ks ko term : Int) : f4 kk ks ko term = rdR (rdT kk ks ko term) := by
 unfold f4 rdT
 cases outB term <;> rfl
theorem jJ (kk ks ko term : Int) : (rdT kk ks ko term).length ≤ 1 := by unfold rdT; cases outB term <;> simp
theorem gP {w : WorldT} (hw : w.ok) {n term known : Int} (h : List Blk) : Ev y6 Γk 161 [.agg w.l, int n, int term, int known] h (.tup [ag (ab w n term known).1.row, aa (rdR (rdT 1 n 0 term)), bool (ab w n term known).2]) h := by
 rw [← tH]; exact rn hw h
noncomputable abbrev kb (w : WorldT) (known : Int) (rs : List ReadT) : List Blk := [.var [.ref (.vec 1 0), aa (y9 zS w.c), aa w.p, aa (y9 zZ w.s), aa (y9 zo w.f), int known], .vec (aC (rdR rs)) 0 5, .var [ai { data := #[] }, int 0, int 0, int 0, int 0, int 0, ai { data := #[] }, int 0, int 0, nq, int 0, int 0, ai { data := #[] }, int 0, int 0, nq], .var [ai { data := #[] }, int 0, int 0, int 0, int 0, int 0, ai { data := #[] }, int 0, int 0, nq, int 0, int 0, ai { data := #[] }, int 0, int 0, nq]]
noncomputable abbrev cr (w : WorldT) (known : Int) (rs : List ReadT) : List Blk := [.var [.ref (.vec 1 0), aa (y9 zS w.c), aa w.p, aa (y9 zZ w.s), aa (y9 zo w.f), int known], .vec (aC (rdR rs)) 0 5, .var [ai { data := #[] }, int 0, int 0, int 0, int 0, int 0, ai { data := #[] }, int 0, int 0, nq, int 0, int 0, ai { data := #[] }, int 0, int 0, nq]]
noncomputable abbrev uC (w : WorldT) (known : Int) (n : Int) (term : Int) : List D := [AQ [aa (y9 zS w.c), aa w.p, aa (y9 zZ w.s), aa (y9 zo w.f)], int n, int term, int known]
theorem oU {w : WorldT} (hw : w.ok) {known n term : Int} {rs : List ReadT} (hb : rs.length ≤ 999999000) : (Ev y6 Γk 116 [.ref (.ptr 0 0), int n, int term] (lkH w known rs 0) (ag (ab w n term known).1.row) (lkH w known (rs ++ rdT 1 n 0 term) 1)) := by
 let v1 : List Blk := [.var [.ref (.vec 1 0), aa (y9 zS w.c), aa w.p, aa (y9 zZ w.s), aa (y9 zo w.f), int known], .vec (aC (rdR rs)) 0 5, .var [ai { data := #[] }, int 0, int 0, int 0, int 0, int 0, ai { data := #[] }, int 0, int 0, nq, int 0, int 0, ai { data := #[] }, int 0, int 0, nq], .var [ai (ab w n term known).fst.name, int (ab w n term known).fst.number, int (ab w n term known).fst.credits, int (ab w n term known).fst.rep, int (y7 (ab w n term known).fst.need).op, int (y7 (ab w n term known).fst.need).c, ai (y7 (ab w n term known).fst.need).nm, int (y7 (ab w n term known).fst.need).n, int (y7 (ab w n term known).fst.need).d, aa (y7 (ab w n term known).fst.need).ks, int (y7 (ab w n term known).fst.bar).op, int (y7 (ab w n term known).fst.bar).c, ai (y7 (ab w n term known).fst.bar).nm, int (y7 (ab w n term known).fst.bar).n, int (y7 (ab w n term known).fst.bar).d, aa (y7 (ab w n term known).fst.bar).ks]]
 let v2 : List D := [.ref (.vec 1 1), aa (y9 zS w.c), aa w.p, aa (y9 zZ w.s), aa (y9 zo w.f), int known]
 let v0 : List Blk := [.var v2, .vec (aC (rdR (rs ++ rdT 1 n 0 term))) 1 5, .var [ai { data := #[] }, int 0, int 0, int 0, int 0, int 0, ai { data := #[] }, int 0, int 0, nq, int 0, int 0, ai { data := #[] }, int 0, int 0, nq], .var [ai (ab w n term known).fst.name, int (ab w n term known).fst.number, int (ab w n term known).fst.credits, int (ab w n term known).fst.rep, int (y7 (ab w n term known).fst.need).op, int (y7 (ab w n term known).fst.need).c, ai (y7 (ab w n term known).fst.need).nm, int (y7 (ab w n term known).fst.need).n, int (y7 (ab w n term known).fst.need).d, aa (y7 (ab w n term known).fst.need).ks, int (y7 (ab w n term known).fst.bar).op, int (y7 (ab w n term known).fst.bar).c, ai (y7 (ab w n term known).fst.bar).nm, int (y7 (ab w n term known).fst.bar).n, int (y7 (ab w n term known).fst.bar).d, aa (y7 (ab w n term known).fst.bar).ks]]
 refine zk (Ev.post (d2 := AQ [ai (ab w n term known).fst.name, int (ab w n term known).fst.number, int (ab w n term known).fst.credits, int (ab w n term known).fst.rep, int (y7 (ab w n term known).fst.need).op, int (y7 (ab w n term known).fst.need).c, ai (y7 (ab w n term known).fst.need).nm, int (y7 (ab w n term known).fst.need).n, int (y7 (ab w n term known).fst.need).d, aa (y7 (ab w n term known).fst.need).ks, int (y7 (ab w n term known).fst.bar).op, int (y7 (ab w n term known).fst.bar).c, ai (y7 (ab w n term known).fst.bar).nm, int (y7 (ab w n term known).fst.bar).n, int (y7 (ab w n term known).fst.bar).d, aa (y7 (ab w n term known).fst.bar).ks]) (h2 := [.var v2, .vec (aC (rdR (rs ++ rdT 1 n 0 term))) 1 5]) (φ := [Blk.inn 2 (.var v2) = true, Blk.inn 2 (.vec (aC (rdR (rs ++ rdT 1 n 0 term))) 1 5) = true]) [.st (.trimV 2)] (Ev.of_sym (h' := [.var v2, .vec (aC (rdR (rs ++ rdT 1 n 0 term))) 1 5, .var [ai (ab w n term known).fst.name, int (ab w n term known).fst.number, int (ab w n term known).fst.credits, int (ab w n term known).fst.rep, int (y7 (ab w n term known).fst.need).op, int (y7 (ab w n term known).fst.need).c, ai (y7 (ab w n term known).fst.need).nm, int (y7 (ab w n term known).fst.need).n, int (y7 (ab w n term known).fst.need).d, aa (y7 (ab w n term known).fst.need).ks, int (y7 (ab w n term known).fst.bar).op, int (y7 (ab w n term known).fst.bar).c, ai (y7 (ab w n term known).fst.bar).nm, int (y7 (ab w n term known).fst.bar).n, int (y7 (ab w n term known).fst.bar).d, aa (y7 (ab w n term known).fst.bar).ks], .var [ai (ab w n term known).fst.name, int (ab w n term known).fst.number, int (ab w n term known).fst.credits, int (ab w n term known).fst.rep, int (y7 (ab w n term known).fst.need).op, int (y7 (ab w n term known).fst.need).c, ai (y7 (ab w n term known).fst.need).nm, int (y7 (ab w n term known).fst.need).n, int (y7 (ab w n term known).fst.need).d, aa (y7 (ab w n term known).fst.need).ks, int (y7 (ab w n term known).fst.bar).op, int (y7 (ab w n term known).fst.bar).c, ai (y7 (ab w n term known).fst.bar).nm, int (y7 (ab w n term known).fst.bar).n, int (y7 (ab w n term known).fst.bar).d, aa (y7 (ab w n term known).fst.bar).ks]]) (d := AQ [ai (ab w n term known).fst.name, int (ab w n term known).fst.number, int (ab w n term known).fst.credits, int (ab w n term known).fst.rep, int (y7 (ab w n term known).fst.need).op, int (y7 (ab w n term known).fst.need).c, ai (y7 (ab w n term known).fst.need).nm, int (y7 (ab w n term known).fst.need).n, int (y7 (ab w n term known).fst.need).d, aa (y7 (ab w n term known).fst.need).ks, int (y7 (ab w n term known).fst.bar).op, int (y7 (ab w n term known).fst.bar).c, ai (y7 (ab w n term known).fst.bar).nm, int (y7 (ab w n term known).fst.bar).n, int (y7 (ab w n term known).fst.bar).d, aa (y7 (ab w n term known).fst.bar).ks]) pok [.val (D.tup [AQ [ai (ab w n term known).fst.name, int (ab w n term known).fst.number, int (ab w n term known).fst.credits, int (ab w n term known).fst.rep, int (y7 (ab w n term known).fst.need).op, int (y7 (ab w n term known).fst.need).c, ai (y7 (ab w n term known).fst.need).nm, int (y7 (ab w n term known).fst.need).n, int (y7 (ab w n term known).fst.need).d, aa (y7 (ab w n term known).fst.need).ks, int (y7 (ab w n term known).fst.bar).op, int (y7 (ab w n term known).fst.bar).c, ai (y7 (ab w n term known).fst.bar).nm, int (y7 (ab w n term known).fst.bar).n, int (y7 (ab w n term known).fst.bar).d, aa (y7 (ab w n term known).fst.bar).ks], aa (rdR (rdT 1 n 0 term)), bool (ab w n term known).snd]), .call (D.tup []) v0] (by kernel_rfl) (.c (@gP w hw n term known (cr w known rs)) (.e (.ref (.ptr 0 0)) (.e (.ref (.ptr 0 0)) (.e (.ref (.ptr 0 1)) (.e (.ref (.ptr 0 1)) (.e (AQ (WorldT.l w)) (.e (AQ (WorldT.l w)) (.e (.ref (.ptr 0 0)) (.e (.ref (.ptr 0 0)) (.e (.ref (.ptr 0 5)) (.e (.ref (.ptr 0 5)) (.e (int known) (.e (int known) (.c (show (cr w known rs) = (cr w known rs) from rfl) (.c (@gP w hw n term known (cr w known rs)) (.c (@gP w hw n term known (kb w known rs)) (.c (show Ev y6 Γk 119 [.ref (.ptr 0 0), aa (rdR (rdT 1 n 0 term))] v1 (D.tup []) v0 from (zk (Ev.frameX (args := [.ref (.ptr 0 0), aa (rdR (rdT 1 n 0 term))]) (H := v1) [0, 1] (@vt w known rs (rdT 1 n 0 term) (by subst v1 v2 v0; first | assumption | rfl | omega | exact iG _ _ | exact ax | (have := jJ 1 n 0 term; omega) | (simp; omega))) (by kernel_rfl) (by kernel_rfl) (by kernel_rfl) ⟨?_, trivial⟩ ⟨?_, trivial⟩) (by kernel_rfl) (by kernel_rfl))) .n)))))))))))))))))) (by kernel_rfl) ⟨rfl, (by subst v1 v2 v0; first | assumption | rfl | omega | exact iG _ _ | exact ax | (have := jJ 1 n 0 term; omega) | (simp; omega)), trivial⟩) (by subst v1 v2 v0; first | rfl | (simp only [lkH, rdR, aC, Bl]; rfl) | (simp only [lkH, rdR, aC, Bl]; done)) (by subst v1 v2 v0; first | rfl | (simp only [lkH, rdR, aC, Bl]; rfl) | (simp only [lkH, rdR, aC, Bl]; done)) <;> subst v1 v2 v0 <;> (first | rfl | exact bM _ _ | first | assumption | rfl | omega | exact iG _ _ | exact ax | (have := jJ 1 n 0 term; omega) | (simp; omega))
end Go.Vi
open Go Go.Proofs
namespace Go.Vi
set_option maxRecDepth 100000
set_option maxHeartbeats 4000000
theorem bK (l : List AttT) (a b c d e : Int) : aC (l.map za) ++ [[int a, int b, int c, int d, int e]] = aC ((l ++ [AttT.mk a b c d e]).map za) := by simp [za]
end Go.Vi
open Go Go.Proofs
namespace Go.Vi
end Go.Vi
open Go Go.Proofs
namespace Go.Vi
set_option maxRecDepth 100000
set_option maxHeartbeats 4000000
structure RecT where
 st : Int
 a : List AttT
def RecT.l (r : RecT) : List D := [int r.st, aa (r.a.map za)]
def vu (a : AttT) : Bool := inB a.course 0 4095 && inB a.term 0 1023 && inB a.grade 0 12 && inB a.campus 0 6 && inB a.credits 0 60
def f7 (o : Option AttT) (a : AttT) : Bool := !vu a || (match o with | none => false | some b => decide (yA b a ≥ 0))
abbrev rkS (st : Int) (as_ : List (List Dp)) (i : Int) : AS := { t := mkT 61 0 [(1, .ref (.ptr 0 0)), (2, int 0), (10, aa as_), (11, int as_.length), (12, int i)], h := [.var [int st, aa as_]], m := [] }
abbrev rkX : Unit → Exit × AS := fun _ => (.ret, { t := mkT 61 0 [(2, int 150)], h := [], m := [] })
def rkF (p : Option AttT × AttT) (_ : Unit) : Unit ⊕ Unit := bif f7 p.1 p.2 then .inr () else .inl ()
theorem rk0 {a : AttT} {x : Bool} : (!(decide (a.course ≥ 0) && decide (a.course ≤ 4095)) || !(decide (a.term ≥ 0) && decide (a.term ≤ 1023)) || !(decide (a.grade ≥ 0) && decide (a.grade ≤ 12)) || !(decide (a.campus ≥ 0) && decide (a.campus ≤ 6)) || !(decide (a.credits ≥ 0) && decide (a.credits ≤ 60)) || decide ((0 : Int) > 0) && x) = f7 none a := by simp [f7, vu, inB]
theorem rk1 {a b : AttT} {i : Nat} : (!(decide (a.course ≥ 0) && decide (a.course ≤ 4095)) || !(decide (a.term ≥ 0) && decide (a.term ≤ 1023)) || !(decide (a.grade ≥ 0) && decide (a.grade ≤ 12)) || !(decide (a.campus ≥ 0) && decide (a.campus ≤ 6)) || !(decide (a.credits ≥ 0) && decide (a.credits ≤ 60)) || decide (((i + 1 : Nat) : Int) > 0) && decide (orI (aF b.term a.term) (aF b.course a.course) ≥ 0)) = f7 (some b) a := by
 have : decide (((i + 1 : Nat) : Int) > 0) = true := decide_eq_true (by omega)
 rw [this]
 simp [f7, vu, inB, yA]
noncomputable abbrev aO (st : Int) (l : List AttT) (a : AttT) : List Blk := [.var [int st, aa (y9 za l)], .var [int a.course, int a.term, int a.grade, int a.campus, int a.credits]]
theorem vv {st : Int} {l : List AttT} {a : AttT} (hr : aj 0 (l.map za) a.row 5) (hlt : decide ((0 : Int) < ((l.map za).length : Int)) = true) : (CW y6 Γ0 [] false (sub C9 0) (rkS st (l.map za) 0) (ad (fun _ => rkS st (l.map za) 1) rkX (rkF (none, a) ())).1 (ad (fun _ => rkS st (l.map za) 1) rkX (rkF (none, a) ())).2) := by
 cases hc0 : !(decide (a.course ≥ 0) && decide (a.course ≤ 4095)) || !(decide (a.term ≥ 0) && decide (a.term ≤ 1023)) || !(decide (a.grade ≥ 0) && decide (a.grade ≤ 12)) || !(decide (a.campus ≥ 0) && decide (a.campus ≤ 6)) || !(decide (a.credits ≥ 0) && decide (a.credits ≤ 60)) || decide (0 > 0) && decide (orI (aF (zi l (zh (zg zb (0 - 1))) default).term a.term) (aF (zi l (zh (zg zb (0 - 1))) default).course a.course) ≥ 0)
 ·let v0 := zi l (zh (zg zb (0 - 1))) default
  refine zt (zu (s' := { t := mkT 61 0 [(1, .ref (.ptr 0 0)), (2, int 0), (10, aa (y9 za l)), (11, int (↑(zf (y9 za l)) : Int)), (12, int (zg zb (0 + 1)))], h := [.var [int st, aa (y9 za l)]], m := [] }) (e := zr) pok [.st (.mask [1, 2, 10, 11, 12]), .st (.trim 1)] [.b true, .row (za a), .val (bool (decide (a.course ≥ 0) && decide (a.course ≤ 4095))), .val (bool (decide (a.term ≥ 0) && decide (a.term ≤ 1023))), .val (bool (decide (a.grade ≥ 0) && decide (a.grade ≤ 12))), .val (bool (decide (a.campus ≥ 0) && decide (a.campus ≤ 6))), .val (bool (decide (a.credits ≥ 0) && decide (a.credits ≤ 60))), .row (za v0), .val (int (orI (aF v0.term a.term) (aF v0.course a.course))), .b false] (by kernel_rfl) (.c hlt (.c hr (.c (@a8 (a.course) 0 4095 (aO st l a)) (.c (gd (!!(decide (a.course ≥ 0) && decide (a.course ≤ 4095))) (@a8 (a.term) 0 1023 (aO st l a))) (.c (gd (!(!(decide (a.course ≥ 0) && decide (a.course ≤ 4095)) || !(decide (a.term ≥ 0) && decide (a.term ≤ 1023)))) (@a8 (a.grade) 0 12 (aO st l a))) (.c (gd (!(!(decide (a.course ≥ 0) && decide (a.course ≤ 4095)) || !(decide (a.term ≥ 0) && decide (a.term ≤ 1023)) || !(decide (a.grade ≥ 0) && decide (a.grade ≤ 12)))) (@a8 (a.campus) 0 6 (aO st l a))) (.c (gd (!(!(decide (a.course ≥ 0) && decide (a.course ≤ 4095)) || !(decide (a.term ≥ 0) && decide (a.term ≤ 1023)) || !(decide (a.grade ≥ 0) && decide (a.grade ≤ 12)) || !(decide (a.campus ≥ 0) && decide (a.campus ≤ 6)))) (@a8 (a.credits) 0 60 (aO st l a))) (.c (show (!(!(decide (a.course ≥ 0) && decide (a.course ≤ 4095)) || !(decide (a.term ≥ 0) && decide (a.term ≤ 1023)) || !(decide (a.grade ≥ 0) && decide (a.grade ≤ 12)) || !(decide (a.campus ≥ 0) && decide (a.campus ≤ 6)) || !(decide (a.credits ≥ 0) && decide (a.credits ≤ 60))) && decide (0 > 0)) = true → aj (zg zb (0 - 1)) (y9 za l) (za v0) 5 from (fun hg => (by subst v0; first | assumption | rfl | (exfalso; simp at hg; done) | (simp_all; done)))) (.c (gd (!(!(decide (a.course ≥ 0) && decide (a.course ≤ 4095)) || !(decide (a.term ≥ 0) && decide (a.term ≤ 1023)) || !(decide (a.grade ≥ 0) && decide (a.grade ≤ 12)) || !(decide (a.campus ≥ 0) && decide (a.campus ≤ 6)) || !(decide (a.credits ≥ 0) && decide (a.credits ≤ 60))) && decide (0 > 0)) (@iE v0 a (aO st l a))) (.c hc0 .n))))))))))) ?_ ?_ <;> subst v0 <;> (first | (have hh : f7 none a = true := rk0.symm.trans hc0; simp only [rkF, hh, cond_true]; first | done | rfl) | (have hh : f7 none a = false := rk0.symm.trans hc0; simp only [rkF, hh, cond_false]; first | done | rfl))
 ·let v0 := zi l (zh (zg zb (0 - 1))) default
  refine zt (zu (s' := { t := mkT 61 0 [(2, int 150)], h := [], m := [] }) (e := Ai) pok [.st (.mask [2]), .st (.trim 0)] [.b true, .row (za a), .val (bool (decide (a.course ≥ 0) && decide (a.course ≤ 4095))), .val (bool (decide (a.term ≥ 0) && decide (a.term ≤ 1023))), .val (bool (decide (a.grade ≥ 0) && decide (a.grade ≤ 12))), .val (bool (decide (a.campus ≥ 0) && decide (a.campus ≤ 6))), .val (bool (decide (a.credits ≥ 0) && decide (a.credits ≤ 60))), .row (za v0), .val (int (orI (aF v0.term a.term) (aF v0.course a.course))), .b true] (by kernel_rfl) (.c hlt (.c hr (.c (@a8 (a.course) 0 4095 (aO st l a)) (.c (gd (!!(decide (a.course ≥ 0) && decide (a.course ≤ 4095))) (@a8 (a.term) 0 1023 (aO st l a))) (.c (gd (!(!(decide (a.course ≥ 0) && decide (a.course ≤ 4095)) || !(decide (a.term ≥ 0) && decide (a.term ≤ 1023)))) (@a8 (a.grade) 0 12 (aO st l a))) (.c (gd (!(!(decide (a.course ≥ 0) && decide (a.course ≤ 4095)) || !(decide (a.term ≥ 0) && decide (a.term ≤ 1023)) || !(decide (a.grade ≥ 0) && decide (a.grade ≤ 12)))) (@a8 (a.campus) 0 6 (aO st l a))) (.c (gd (!(!(decide (a.course ≥ 0) && decide (a.course ≤ 4095)) || !(decide (a.term ≥ 0) && decide (a.term ≤ 1023)) || !(decide (a.grade ≥ 0) && decide (a.grade ≤ 12)) || !(decide (a.campus ≥ 0) && decide (a.campus ≤ 6)))) (@a8 (a.credits) 0 60 (aO st l a))) (.c (show (!(!(decide (a.course ≥ 0) && decide (a.course ≤ 4095)) || !(decide (a.term ≥ 0) && decide (a.term ≤ 1023)) || !(decide (a.grade ≥ 0) && decide (a.grade ≤ 12)) || !(decide (a.campus ≥ 0) && decide (a.campus ≤ 6)) || !(decide (a.credits ≥ 0) && decide (a.credits ≤ 60))) && decide (0 > 0)) = true → aj (zg zb (0 - 1)) (y9 za l) (za v0) 5 from (fun hg => (by subst v0; first | assumption | rfl | (exfalso; simp at hg; done) | (simp_all; done)))) (.c (gd (!(!(decide (a.course ≥ 0) && decide (a.course ≤ 4095)) || !(decide (a.term ≥ 0) && decide (a.term ≤ 1023)) || !(decide (a.grade ≥ 0) && decide (a.grade ≤ 12)) || !(decide (a.campus ≥ 0) && decide (a.campus ≤ 6)) || !(decide (a.credits ≥ 0) && decide (a.credits ≤ 60))) && decide (0 > 0)) (@iE v0 a (aO st l a))) (.c hc0 .n))))))))))) ?_ ?_ <;> subst v0 <;> (first | (have hh : f7 none a = true := rk0.symm.trans hc0; simp only [rkF, hh, cond_true]; first | done | rfl) | (have hh : f7 none a = false := rk0.symm.trans hc0; simp only [rkF, hh, cond_false]; first | done | rfl))
noncomputable abbrev aP (st : Int) (as_ : List (List Dp)) (a : AttT) : List Blk := [.var [int st, aa as_], .var [int a.course, int a.term, int a.grade, int a.campus, int a.credits]]
theorem vw {st : Int} {as_ : List (List Dp)} {a b : AttT} {i : Nat} (hr : aj ((i + 1 : Nat) : Int) as_ a.row 5) (hb : aj (zb.wrap (((i + 1 : Nat) : Int) - 1)) as_ b.row 5) (hlt : decide (((i + 1 : Nat) : Int) < (as_.length : Int)) = true) (hw : zb.wrap (((i + 1 : Nat) : Int) + 1) = ((i + 1 + 1 : Nat) : Int)) : (CW y6 Γ0 [] false (sub C9 0) (rkS st as_ ((i + 1 : Nat) : Int)) (ad (fun _ => rkS st as_ ((i + 1 + 1 : Nat) : Int)) rkX (rkF (some b, a) ())).1 (ad (fun _ => rkS st as_ ((i + 1 + 1 : Nat) : Int)) rkX (rkF (some b, a) ())).2) := by
 cases hc0 : !(decide (a.course ≥ 0) && decide (a.course ≤ 4095)) || !(decide (a.term ≥ 0) && decide (a.term ≤ 1023)) || !(decide (a.grade ≥ 0) && decide (a.grade ≤ 12)) || !(decide (a.campus ≥ 0) && decide (a.campus ≤ 6)) || !(decide (a.credits ≥ 0) && decide (a.credits ≤ 60)) || decide ((↑(i + 1) : Int) > 0) && decide (orI (aF b.term a.term) (aF b.course a.course) ≥ 0)
 ·refine zt (zu (s' := { t := mkT 61 0 [(1, .ref (.ptr 0 0)), (2, int 0), (10, aa as_), (11, int (↑(zf as_) : Int)), (12, int (zg zb ((↑(i + 1) : Int) + 1)))], h := [.var [int st, aa as_]], m := [] }) (e := zr) pok [.st (.mask [1, 2, 10, 11, 12]), .st (.trim 1)] [.b true, .row (za a), .val (bool (decide (a.course ≥ 0) && decide (a.course ≤ 4095))), .val (bool (decide (a.term ≥ 0) && decide (a.term ≤ 1023))), .val (bool (decide (a.grade ≥ 0) && decide (a.grade ≤ 12))), .val (bool (decide (a.campus ≥ 0) && decide (a.campus ≤ 6))), .val (bool (decide (a.credits ≥ 0) && decide (a.credits ≤ 60))), .row (za b), .val (int (orI (aF b.term a.term) (aF b.course a.course))), .b false] (by kernel_rfl) (.c hlt (.c hr (.c (@a8 (a.course) 0 4095 (aP st as_ a)) (.c (gd (!!(decide (a.course ≥ 0) && decide (a.course ≤ 4095))) (@a8 (a.term) 0 1023 (aP st as_ a))) (.c (gd (!(!(decide (a.course ≥ 0) && decide (a.course ≤ 4095)) || !(decide (a.term ≥ 0) && decide (a.term ≤ 1023)))) (@a8 (a.grade) 0 12 (aP st as_ a))) (.c (gd (!(!(decide (a.course ≥ 0) && decide (a.course ≤ 4095)) || !(decide (a.term ≥ 0) && decide (a.term ≤ 1023)) || !(decide (a.grade ≥ 0) && decide (a.grade ≤ 12)))) (@a8 (a.campus) 0 6 (aP st as_ a))) (.c (gd (!(!(decide (a.course ≥ 0) && decide (a.course ≤ 4095)) || !(decide (a.term ≥ 0) && decide (a.term ≤ 1023)) || !(decide (a.grade ≥ 0) && decide (a.grade ≤ 12)) || !(decide (a.campus ≥ 0) && decide (a.campus ≤ 6)))) (@a8 (a.credits) 0 60 (aP st as_ a))) (.c (show (!(!(decide (a.course ≥ 0) && decide (a.course ≤ 4095)) || !(decide (a.term ≥ 0) && decide (a.term ≤ 1023)) || !(decide (a.grade ≥ 0) && decide (a.grade ≤ 12)) || !(decide (a.campus ≥ 0) && decide (a.campus ≤ 6)) || !(decide (a.credits ≥ 0) && decide (a.credits ≤ 60))) && decide ((↑(i + 1) : Int) > 0)) = true → aj (zg zb ((↑(i + 1) : Int) - 1)) as_ (za b) 5 from (fun hg => hb)) (.c (gd (!(!(decide (a.course ≥ 0) && decide (a.course ≤ 4095)) || !(decide (a.term ≥ 0) && decide (a.term ≤ 1023)) || !(decide (a.grade ≥ 0) && decide (a.grade ≤ 12)) || !(decide (a.campus ≥ 0) && decide (a.campus ≤ 6)) || !(decide (a.credits ≥ 0) && decide (a.credits ≤ 60))) && decide ((↑(i + 1) : Int) > 0)) (@iE b a (aP st as_ a))) (.c hc0 .n))))))))))) ?_ ?_ <;> (first | (have hh : f7 (some b) a = true := (rk1 (i := i)).symm.trans hc0; simp only [rkF, hh, cond_true]; first | done | rfl) | (have hh : f7 (some b) a = false := (rk1 (i := i)).symm.trans hc0; simp only [rkF, hh, cond_false]; first | done | rfl | (rw [hw]; rfl)))
 ·refine zt (zu (s' := { t := mkT 61 0 [(2, int 150)], h := [], m := [] }) (e := Ai) pok [.st (.mask [2]), .st (.trim 0)] [.b true, .row (za a), .val (bool (decide (a.course ≥ 0) && decide (a.course ≤ 4095))), .val (bool (decide (a.term ≥ 0) && decide (a.term ≤ 1023))), .val (bool (decide (a.grade ≥ 0) && decide (a.grade ≤ 12))), .val (bool (decide (a.campus ≥ 0) && decide (a.campus ≤ 6))), .val (bool (decide (a.credits ≥ 0) && decide (a.credits ≤ 60))), .row (za b), .val (int (orI (aF b.term a.term) (aF b.course a.course))), .b true] (by kernel_rfl) (.c hlt (.c hr (.c (@a8 (a.course) 0 4095 (aP st as_ a)) (.c (gd (!!(decide (a.course ≥ 0) && decide (a.course ≤ 4095))) (@a8 (a.term) 0 1023 (aP st as_ a))) (.c (gd (!(!(decide (a.course ≥ 0) && decide (a.course ≤ 4095)) || !(decide (a.term ≥ 0) && decide (a.term ≤ 1023)))) (@a8 (a.grade) 0 12 (aP st as_ a))) (.c (gd (!(!(decide (a.course ≥ 0) && decide (a.course ≤ 4095)) || !(decide (a.term ≥ 0) && decide (a.term ≤ 1023)) || !(decide (a.grade ≥ 0) && decide (a.grade ≤ 12)))) (@a8 (a.campus) 0 6 (aP st as_ a))) (.c (gd (!(!(decide (a.course ≥ 0) && decide (a.course ≤ 4095)) || !(decide (a.term ≥ 0) && decide (a.term ≤ 1023)) || !(decide (a.grade ≥ 0) && decide (a.grade ≤ 12)) || !(decide (a.campus ≥ 0) && decide (a.campus ≤ 6)))) (@a8 (a.credits) 0 60 (aP st as_ a))) (.c (show (!(!(decide (a.course ≥ 0) && decide (a.course ≤ 4095)) || !(decide (a.term ≥ 0) && decide (a.term ≤ 1023)) || !(decide (a.grade ≥ 0) && decide (a.grade ≤ 12)) || !(decide (a.campus ≥ 0) && decide (a.campus ≤ 6)) || !(decide (a.credits ≥ 0) && decide (a.credits ≤ 60))) && decide ((↑(i + 1) : Int) > 0)) = true → aj (zg zb ((↑(i + 1) : Int) - 1)) as_ (za b) 5 from (fun hg => hb)) (.c (gd (!(!(decide (a.course ≥ 0) && decide (a.course ≤ 4095)) || !(decide (a.term ≥ 0) && decide (a.term ≤ 1023)) || !(decide (a.grade ≥ 0) && decide (a.grade ≤ 12)) || !(decide (a.campus ≥ 0) && decide (a.campus ≤ 6)) || !(decide (a.credits ≥ 0) && decide (a.credits ≤ 60))) && decide ((↑(i + 1) : Int) > 0)) (@iE b a (aP st as_ a))) (.c hc0 .n))))))))))) ?_ ?_ <;> (first | (have hh : f7 (some b) a = true := (rk1 (i := i)).symm.trans hc0; simp only [rkF, hh, cond_true]; first | done | rfl) | (have hh : f7 (some b) a = false := (rk1 (i := i)).symm.trans hc0; simp only [rkF, hh, cond_false]; first | done | rfl | (rw [hw]; rfl)))
theorem yE {st : Int} {as_ : List (List Dp)} {i : Nat} (hlt : decide ((i : Int) < (as_.length : Int)) = false) : (CW y6 Γ0 [] false (sub C9 0) (rkS st as_ i) (.exit 0) { t := mkT 61 0 [(2, int 0)], h := [], m := [] }) := by
 exact zt (zu (s' := { t := mkT 61 0 [(2, int 0)], h := [], m := [] }) (e := zQ 0) pok [.st (.mask [2]), .st (.trim 0)] [.b false] (by kernel_rfl) (.c hlt .n)) (by rfl) (by rfl)
def ej (l : List AttT) : List (Option AttT × AttT) := (none :: l.map some).zip l
def yF (l : List AttT) : Exit × AS := bI (.exit 0) (fun _ : Unit => { t := mkT 61 0 [(2, int 0)], h := [], m := [] }) rkX (bp rkF (ej l) ())
theorem rk_cw {st : Int} {l : List AttT} (hl : ak l) :
  CW y6 Γ0 [] false (.loop (sub C9 0)) (rkS st (l.map za) 0) (yF l).1 (yF l).2 := by
 have hlen : (ej l).length = l.length := by simp [ej]
 have := Cz (P := y6) (Γ := Γ0) (h0 := []) (rd := false) (c := sub C9 0) (ej l) rkF (fun i _ => rkS st (l.map za) (i : Int)) (.exit 0) (fun _ : Unit => { t := mkT 61 0 [(2, int 0)], h := [], m := [] }) rkX (fun _ _ => True) (by simp) (fun _ => by simp) ?_ ?_ () trivial
 ·exact this
 ·intro i p u hp _
  obtain ⟨hi, he⟩ := zc.1 hp
  rw [hlen] at hi
  have h2 : l[i]? = some p.2 := by subst he; simp [ej, zp hi]
  refine ⟨fun _ _ => trivial, ?_⟩
  obtain ⟨o, a⟩ := p
  cases i with
  | zero =>
   have ho : o = none := by have := congrArg DY he; simpa [ej] using this.symm
   subst ho
   exact vv (rowAt h2 rfl) (lt_len za hi)
  | succ i =>
   have h1 : l[i]? = some (l[i]'(by omega)) := zp _
   have ho : o = some (l[i]'(by omega)) := by have := congrArg DY he; simpa [ej] using this.symm
   subst ho
   refine vw (rowAt h2 rfl) ?_ (lt_len za hi) (wrap_succ hi hl)
   have : zb.wrap (((i + 1 : Nat) : Int) - 1) = (i : Int) := by
    have := hl; unfold ak at this
    rw [wrap_i64 (by omega) (by omega)]; omega
   rw [this]
   exact rowAt h1 rfl
 ·intro u _
  rw [hlen]
  exact yE (bN za l)
def aI (r : RecT) : Int := bif !(decide (r.st ≥ 0) && decide (r.st ≤ 19999)) then 150 else match bp rkF (ej r.a) () with | .inl _ => 0 | .inr _ => 150
theorem gQ {r : RecT} (hl : ak r.a) (h : List Blk) : (Ev y6 Γ0 30 [.agg r.l] h (int (aI r)) h) := by
 cases hc0 : !(decide (r.st ≥ 0) && decide (r.st ≤ 19999))
 ·have hl1 := (@rk_cw (r.st) (r.a) (hl))
  unfold yF at hl1
  revert hl1
  cases ho2 : bp rkF (ej r.a) () with
  | inl o2_0_0 =>
   intro hl1
   exact zk (zm (d := int 0) pok [.val (bool (decide (r.st ≥ 0) && decide (r.st ≤ 19999))), .b false, .sum [1, 2, 10, 11, 12] (zQ 0) { t := mkT 61 0 [(2, int 0)], h := [], m := [] }] (by kernel_rfl) (.c (@a8 (r.st) 0 19999 ([.var [int r.st, aa (y9 za r.a)]])) (.c hc0 (.c hl1 .n))) rfl rfl h) (by simp only [aI, hc0, ho2, cond_false]) (by rfl)
  | inr o2_1_0 =>
   intro hl1
   exact zk (zm (d := int 150) pok [.val (bool (decide (r.st ≥ 0) && decide (r.st ≤ 19999))), .b false, .sum [1, 2, 10, 11, 12] (Ai) { t := mkT 61 0 [(2, int 150)], h := [], m := [] }] (by kernel_rfl) (.c (@a8 (r.st) 0 19999 ([.var [int r.st, aa (y9 za r.a)]])) (.c hc0 (.c hl1 .n))) rfl rfl h) (by simp only [aI, hc0, ho2, cond_false]) (by rfl)
 ·exact zk (zm (d := int 150) pok [.val (bool (decide (r.st ≥ 0) && decide (r.st ≤ 19999))), .b true] (by kernel_rfl) (.c (@a8 (r.st) 0 19999 ([.var [int r.st, aa (y9 za r.a)]])) (.c hc0 .n)) rfl rfl h) (by simp only [aI, hc0, cond_true]) (by rfl)
end Go.Vi
open Go Go.Proofs
namespace Go.Vi
abbrev IM := List (Int × Int)
def aW : Nat → IM → List (D × D × Nat)
 | _, [] => []
 | j, (k, v) :: l => (int k, int v, j) :: aW (j + 1) l
def imB (l : IM) : Blk := .map (aW 0 l) l.length
def imGet : IM → Int → Option Int
 | [], _ => none
 | (a, v) :: l, k => if a = k then some v else imGet l k
def aE : IM → Int → Int → IM
 | [], k, v => [(k, v)]
 | (a, x) :: l, k, v => if a = k then (k, v) :: l else (a, x) :: aE l k v
theorem eC (l : IM) (k v k' : Int) : imGet (aE l k v) k' = if k = k' then some v else imGet l k' := by
 induction l with
 | nil => simp [aE, imGet]
 | cons e l ih =>
  obtain ⟨a, x⟩ := e
  unfold aE
  by_cases h : a = k
  ·subst h
   simp only [if_true, imGet]
   by_cases h2 : a = k' <;> simp [h2]
  ·simp only [h, if_false, imGet, ih]
   by_cases h2 : a = k'
   ·subst h2; simp [Ne.symm h]
   ·simp [h2]
def uD : IM → Int → Nat → Option (Nat × D)
 | [], _, _ => none
 | (a, v) :: l, k, i => if a = k then some (i, int v) else uD l k (i + 1)
theorem jK (k : Int) : ∀ (l : IM) (j i : Nat), dC (int k) (aW j l) i = some (uD l k i)
 | [], _, _ => rfl
 | (a, v) :: l, j, i => by
  simp only [aW, dC, uD]
  by_cases h : a = k
  ·subst h; simp [iO]
  ·have : iO (int k) (int a) = some false := by
    have h2 : ¬ k = a := fun e => h e.symm
    simp [iO, h2]
   rw [this]
   simp only [h, if_false]
   exact jK k l (j + 1) (i + 1)
theorem jL {k : Int} : ∀ {l : IM} {i : Nat}, uD l k i = none → imGet l k = none ∧ ∀ v, aE l k v = l ++ [(k, v)]
 | [], _, _ => by simp [imGet, aE]
 | (a, x) :: l, i, h => by
  unfold uD at h
  split at h
  ·simp at h
  ·rename_i hne
   obtain ⟨h1, h2⟩ := jL h
   simp only [imGet, aE, hne, if_false, h1, true_and]
   intro v; rw [h2]; rfl
theorem jM {k : Int} : ∀ {l : IM} {i j n : Nat} {d : D}, uD l k i = some (n, d) → ∃ v, d = int v ∧ imGet l k = some v ∧ i ≤ n ∧ ((aW j l)[n - i]?).map (fun e => e.2.2) = some (j + (n - i)) ∧ ∀ x, aW j (aE l k x) = (aW j l).set (n - i) (int k, int x, j + (n - i)) ∧ (aE l k x).length = l.length
 | [], _, _, _, _, h => by simp [uD] at h
 | (a, x) :: l, i, j, n, d, h => by
  unfold uD at h
  split at h
  ·rename_i ha
   simp only [y5, Prod.mk.injEq] at h
   obtain ⟨rfl, rfl⟩ := h
   exact ⟨x, rfl, by simp [imGet, ha], Nat.le_refl _, by simp [aW], fun y => by simp [aE, ha, aW]⟩
  ·rename_i ha
   obtain ⟨v, h1, h2, h3, h4, h5⟩ := jM (j := j + 1) h
   have e : n - i = (n - (i + 1)) + 1 := by omega
   refine ⟨v, h1, by simp [imGet, ha, h2], by omega, ?_, fun y => ?_⟩
   ·rw [e]; simp only [aW, List.getElem?_cons_succ, h4]; congr 1; omega
   ·obtain ⟨h6, h7⟩ := h5 y
    simp only [aE, ha, if_false, aW, h6]
    rw [e, List.set_cons_succ]
    refine ⟨?_, by simp [h7]⟩
    rw [show j + 1 + (n - (i + 1)) = j + (n - (i + 1) + 1) by omega]
theorem nO {P : Program} {h : List Blk} {t : TypeId} {b : Nat} {l : IM} {c : Int} {kt et : TypeId} (hk : dl P kt (int c) = true) (ht : P.underlying t = some (.map kt et)) (hz : iI P et = some (.int .i64 0)) (hb : h[b]? = some (imB l)) :
  aG P h t (.ref (.mp b)) (int c) true = some (.tup [int ((imGet l c).getD 0), bool (imGet l c).isSome]) := by
 unfold aG
 simp only [ht, mG, hb, imB, hk, if_true, hz, jK]
 cases hi : uD l c 0 with
 | none =>
  rw [(jL hi).1]; rfl
 | some p =>
  obtain ⟨n, d⟩ := p
  obtain ⟨v, rfl, h2, _⟩ := jM (j := 0) hi
  rw [h2]; rfl
theorem qn (k v : Int) : ∀ (l : IM) (j : Nat), aW j (l ++ [(k, v)]) = aW j l ++ [(int k, int v, j + l.length)]
 | [], j => by simp [aW]
 | (a, x) :: l, j => by
  simp only [List.cons_append, aW, qn k v l (j + 1), List.length_cons]
  rw [show j + 1 + l.length = j + (l.length + 1) by omega]
theorem nP {P : Program} {h : List Blk} {t : TypeId} {b : Nat} {l : IM} {c v : Int} {kt et : TypeId} (hk : dl P kt (int c) = true) (ht : P.underlying t = some (.map kt et)) (hb : h[b]? = some (imB l)) :
  aL P h t (.ref (.mp b)) (int c) (int v) = some (h.set b (imB (aE l c v))) := by
 unfold aL
 simp only [ht, hb, imB, hk, if_true, jK]
 cases hi : uD l c 0 with
 | none =>
  simp only [(jL hi).2 v, qn]
  simp
 | some p =>
  obtain ⟨n, d⟩ := p
  obtain ⟨x, rfl, _, _, h4, h5⟩ := jM (j := 0) hi
  obtain ⟨h6, h7⟩ := h5 v
  simp only [Nat.sub_zero, A6] at h4 h6
  cases hn : (aW 0 l)[n]? with
  | none => rw [hn] at h4; simp at h4
  | some e =>
   rw [hn] at h4
   obtain ⟨e1, e2, e3⟩ := e
   simp only [Option.map_some, y5] at h4
   subst h4
   simp only [h6, h7]
   rw [hn]
theorem mi (f : Ref → D) : ∀ (l : IM) (j : Nat), (aW j l).map (fun e => (D.mapR f e.1, D.mapR f e.2.1, e.2.2)) = aW j l
 | [], _ => rfl
 | (a, x) :: l, j => by simp only [aW, List.map_cons, mi f l (j + 1)]; rfl
theorem qo (n : Nat) : ∀ (l : IM) (j : Nat), ((aW j l).all fun e => D.inn n e.1 && D.inn n e.2.1) = true
 | [], _ => rfl
 | (a, x) :: l, j => by simp only [aW, List.all_cons, qo n l (j + 1)]; rfl
theorem eD {n : Nat} {l : IM} : Blk.inn n (imB l) = true := qo n l 0
end Go.Vi
open Go Go.Proofs
namespace Go.Vi
set_option maxRecDepth 100000
set_option maxHeartbeats 4000000
theorem tI {l : List AttT} (h : List Blk) : ∀ c ∈ l, Iv y6 Γ0 (.p (.v (.func (.func 156) #[] #[]))) [ag c.row] h (bool (!attB c)) h := fun c _ => Iv.of (f := 156) (fi := []) (ca := []) pok (by kernel_rfl) (by kernel_rfl) (sZ h)
def da (l : List AttT) : Int := bif l.any (fun a => !attB a) then 150 else 0
theorem vz {l : List AttT} (hl : ak l) (hf : ∀ c ∈ l, Iv y6 Γ0 (.p (.v (.func (.func 156) #[] #[]))) [ag c.row] [] (bool (!attB c)) []) (h : List Blk) : (Ev y6 Γ0 106 [aa (l.map za)] h (int (da l)) h) := by
 cases hc0 : List.any l fun c => !attB c
 ·exact zk (zm (d := int 0) pok [.val (bool (List.any l fun c => !attB c)), .b false] (by kernel_rfl) (.c (@wE l hl (fq 156) ([]) (fun c => !attB c) hf) (.c hc0 .n)) rfl rfl h) (by simp only [da, hc0, cond_false]) (by rfl)
 ·exact zk (zm (d := int 150) pok [.val (bool (List.any l fun c => !attB c)), .b true] (by kernel_rfl) (.c (@wE l hl (fq 156) ([]) (fun c => !attB c) hf) (.c hc0 .n)) rfl rfl h) (by simp only [da, hc0, cond_true]) (by rfl)
theorem f8 {l : List AttT} (hl : ak l) (h : List Blk) : Ev y6 Γ0 106 [aa (l.map za)] h (int (da l)) h := vz hl (tI []) h
theorem tJ {a b : AttT} (h : List Blk) : (Ev y6 Γ0 208 [ag a.row, ag b.row] h (bool (decide (a.grade > b.grade) || (a.grade == b.grade && decide (a.term < b.term)))) h) := by
 exact zk (zm (d := bool (decide (a.grade > b.grade) || a.grade == b.grade && decide (a.term < b.term))) pok [] (by kernel_rfl) .n rfl rfl h) (by rfl) (by rfl)
theorem tK {a b : AttT} (h : List Blk) : (Ev y6 Γ0 209 [ag a.row, ag b.row] h (bool (decide (a.term ≥ b.term))) h) := by
 exact zk (zm (d := bool (decide (a.term ≥ b.term))) pok [] (by kernel_rfl) .n rfl rfl h) (by rfl) (by rfl)
abbrev tL : List D := [bool true, fnv 208, bool true, fnv 209, bool false, lit .nilFunc]
theorem qp (h : List Blk) : (Ev y6 Γ0 163 [] h (.agg tL) h) := by
 exact zk (zm (d := AQ [bool true, fq 208, bool true, fq 209, bool false, D.p (Dp.v Value.nilFunc)]) pok [] (by kernel_rfl) .n rfl rfl h) (by rfl) (by rfl)
end Go.Vi
open Go Go.Proofs
namespace Go.Vi
set_option maxRecDepth 100000
set_option maxHeartbeats 4000000
abbrev c15S (as_ : List (List Dp)) (i : Int) : AS := { t := mkT 16 0 [(0, aa as_), (2, int 0), (3, int i)], h := [], m := [] }
abbrev c15E : AS := { t := mkT 16 0 [], h := [], m := [] }
abbrev c15X : Unit → Exit × AS := fun _ => (.ret, { t := mkT 16 0 [(2, int 150)], h := [], m := [] })
def yG (a : AttT) (_ : Unit) : Unit ⊕ Unit := bif attB a then .inl () else .inr ()
theorem vA {as_ : List (List Dp)} {a : AttT} {v : Bool} {i : Nat} (hr : aj (i : Int) as_ a.row 5) (hlt : decide ((i : Int) < (as_.length : Int)) = true) (hw : zb.wrap ((i : Int) + 1) = ((i + 1 : Nat) : Int)) (hb : (!v) = false) (hv : ∀ h, Ev y6 Γ0 80 [ag a.row] h (bool v) h) : (CW y6 Γ0 [] false (sub Dv 0) (c15S as_ i) .normal (c15S as_ ((i + 1 : Nat) : Int))) := by
 refine zt (zu (s' := { t := mkT 16 0 [(0, aa as_), (2, int 0), (3, int (zg zb ((↑i : Int) + 1)))], h := [], m := [] }) (e := zr) pok [.st (.mask [0, 2, 3])] [.b true, .row (za a), .val (bool v), .b false] (by kernel_rfl) (.c hlt (.c hr (.c (@hv ([])) (.c hb .n))))) ?_ ?_ <;> (first | rfl | (rw [hw]))
theorem tM {as_ : List (List Dp)} {a : AttT} {v : Bool} {i : Nat} (hr : aj (i : Int) as_ a.row 5) (hlt : decide ((i : Int) < (as_.length : Int)) = true) (hb : (!v) = true) (hv : ∀ h, Ev y6 Γ0 80 [ag a.row] h (bool v) h) : (CW y6 Γ0 [] false (sub Dv 0) (c15S as_ i) .ret { t := mkT 16 0 [(2, int 150)], h := [], m := [] }) := by
 exact zt (zu (s' := { t := mkT 16 0 [(2, int 150)], h := [], m := [] }) (e := Ai) pok [.st (.mask [2])] [.b true, .row (za a), .val (bool v), .b true] (by kernel_rfl) (.c hlt (.c hr (.c (@hv ([])) (.c hb .n))))) (by rfl) (by rfl)
theorem vB {as_ : List (List Dp)} {i : Nat} (hlt : decide ((i : Int) < (as_.length : Int)) = false) : (CW y6 Γ0 [] false (sub Dv 0) (c15S as_ i) (.exit 0) c15E) := by
 exact zt (zu (s' := { t := mkT 16 0 [], h := [], m := [] }) (e := zQ 0) pok [.st (.mask [])] [.b false] (by kernel_rfl) (.c hlt .n)) (by rfl) (by rfl)
theorem attV (a : AttT) : attB a = (decide (a.course ≥ 0) && decide (a.course < 4096) && decide (a.term ≥ 0) && decide (a.term < 1024) && decide (a.grade ≥ 0) && decide (a.grade ≤ 12) && decide (a.campus ≥ 0) && decide (a.campus < 7) && decide (a.credits ≥ 0) && decide (a.credits ≤ 60)) := by
 rw [BF]
 simp only [attB, inB, zd, decide_eq_true_eq]
 omega
theorem tN (a : AttT) (h : List Blk) : Ev y6 Γ0 80 [ag a.row] h (bool (attB a)) h := by
 rw [attV]; exact s4 h
def tP (l : List AttT) : Exit × AS := bI (.exit 0) (fun _ : Unit => c15E) c15X (bp yG l ())
theorem c15_cw {l : List AttT} (hl : ak l) :
  CW y6 Γ0 [] false (.loop (sub Dv 0)) (c15S (l.map za) 0) (tP l).1 (tP l).2 := by
 refine Cz l yG (fun i _ => c15S (l.map za) (i : Int)) (.exit 0) (fun _ => c15E) c15X (fun _ _ => True) (by simp) (fun _ => by simp []) ?_ ?_ () trivial
 ·intro i a _ ha _
  have hi := (zc.1 ha).1
  refine ⟨fun _ _ => trivial, ?_⟩
  have hv := tN a
  unfold yG
  cases hb : attB a
  ·rw [hb] at hv
   exact tM (rowAt ha rfl) (lt_len za hi) rfl hv
  ·rw [hb] at hv
   exact vA (rowAt ha rfl) (lt_len za hi) (wrap_succ hi hl) rfl hv
 ·intro _ _
  exact vB (bN za l)
def tQ (l : List AttT) : Int := match bp yG l () with | .inl _ => 0 | .inr _ => 150
theorem rq {l : List AttT} (hl : ak l) (h : List Blk) : (Ev y6 Γ0 130 [aa (l.map za)] h (int (tQ l)) h) := by
 have hl0 := (@c15_cw (l) (hl))
 unfold tP at hl0
 revert hl0
 cases ho1 : bp yG l () with
 | inl o1_0_0 =>
  intro hl0
  exact zk (zm (d := int 0) pok [.sum [0, 2, 3] (zQ 0) { t := mkT 16 0 [], h := [], m := [] }] (by kernel_rfl) (.c hl0 .n) rfl rfl h) (by simp only [tQ, ho1]) (by rfl)
 | inr o1_1_0 =>
  intro hl0
  exact zk (zm (d := int 150) pok [.sum [0, 2, 3] (Ai) { t := mkT 16 0 [(2, int 150)], h := [], m := [] }] (by kernel_rfl) (.c hl0 .n) rfl rfl h) (by simp only [tQ, ho1]) (by rfl)
theorem vC (l : List AttT) : tQ l = da l := by
 have key : ∀ l : List AttT, bp yG l () = bif l.any (fun a => !attB a) then .inr () else .inl () := by
  intro l
  induction l with
  | nil => rfl
  | cons a l ih =>
   simp only [bp, yG, List.any_cons]
   cases attB a
   ·rfl
   ·simpa using ih
 unfold tQ da
 rw [key]
 cases l.any fun a => !attB a <;> rfl
end Go.Vi
open Go Go.Proofs
namespace Go.Vi
set_option maxRecDepth 100000
set_option maxHeartbeats 4000000
abbrev vD (st : Int) (as_ : List (List Dp)) (i : Int) : AS := { t := mkT 52 0 [(1, .ref (.ptr 0 0)), (2, int 0), (3, int i)], h := [.var [int st, aa as_]], m := [] }
abbrev c16E : AS := { t := mkT 52 0 [], h := [], m := [] }
abbrev c16R : AS := { t := mkT 52 0 [(2, int 150)], h := [], m := [] }
abbrev c16X : Unit → Exit × AS := fun _ => (.ret, c16R)
def ordW (b a : AttT) : Bool := decide (b.term > a.term) || (b.term == a.term && decide (b.course ≥ a.course))
def wQ (p : Option AttT × AttT) (_ : Unit) : Unit ⊕ Unit := bif attB p.2 then (match p.1 with | none => .inl () | some b => bif ordW b p.2 then .inr () else .inl ()) else .inr ()
noncomputable abbrev tR (st : Int) (as_ : List (List Dp)) (a : AttT) : List Blk := [.var [int st, aa as_], .var [int a.course, int a.term, int a.grade, int a.campus, int a.credits]]
theorem c16_b0 {st : Int} {as_ : List (List Dp)} {a : AttT} {v : Bool} (hr : aj 0 as_ a.row 5) (hlt : decide ((0 : Int) < (as_.length : Int)) = true) (hb : (!v) = false) (hv : ∀ h, Ev y6 Γ0 80 [ag a.row] h (bool v) h) : (CW y6 Γ0 [] false (sub CF 0) (vD st as_ 0) .normal (vD st as_ 1)) := by
 exact zt (zu (s' := { t := mkT 52 0 [(1, .ref (.ptr 0 0)), (2, int 0), (3, int (zg zb (0 + 1)))], h := [.var [int st, aa as_]], m := [] }) (e := zr) pok [.st (.mask [1, 2, 3]), .st (.trim 1)] [.b true, .row (za a), .val (bool v), .b false, .b false] (by kernel_rfl) (.c hlt (.c hr (.c (@hv (tR st as_ a)) (.c hb (.c (show decide (0 > 0) = false from rfl) .n)))))) (by rfl) (by rfl)
noncomputable abbrev tS (st : Int) (as_ : List (List Dp)) (a : AttT) : List Blk := [.var [int st, aa as_], .var [int a.course, int a.term, int a.grade, int a.campus, int a.credits]]
theorem c16_bX {st : Int} {as_ : List (List Dp)} {a : AttT} {v : Bool} {i : Nat} (hr : aj (i : Int) as_ a.row 5) (hlt : decide ((i : Int) < (as_.length : Int)) = true) (hb : (!v) = true) (hv : ∀ h, Ev y6 Γ0 80 [ag a.row] h (bool v) h) : (CW y6 Γ0 [] false (sub CF 0) (vD st as_ i) .ret c16R) := by
 exact zt (zu (s' := { t := mkT 52 0 [(2, int 150)], h := [], m := [] }) (e := Ai) pok [.st (.mask [2]), .st (.trim 0)] [.b true, .row (za a), .val (bool v), .b true] (by kernel_rfl) (.c hlt (.c hr (.c (@hv (tS st as_ a)) (.c hb .n))))) (by rfl) (by rfl)
noncomputable abbrev tT (st : Int) (as_ : List (List Dp)) (a : AttT) : List Blk := [.var [int st, aa as_], .var [int a.course, int a.term, int a.grade, int a.campus, int a.credits]]
theorem c16_b1 {st : Int} {as_ : List (List Dp)} {a b : AttT} {v : Bool} {i : Nat} (hr : aj ((i + 1 : Nat) : Int) as_ a.row 5) (hr2 : aj (zb.wrap (((i + 1 : Nat) : Int) - 1)) as_ b.row 5) (hlt : decide (((i + 1 : Nat) : Int) < (as_.length : Int)) = true) (hgt : decide (((i + 1 : Nat) : Int) > 0) = true) (hw : zb.wrap (((i + 1 : Nat) : Int) + 1) = ((i + 1 + 1 : Nat) : Int)) (hb : (!v) = false) (ho : (decide (b.term > a.term) || (b.term == a.term && decide (b.course ≥ a.course))) = false) (hv : ∀ h, Ev y6 Γ0 80 [ag a.row] h (bool v) h) : (CW y6 Γ0 [] false (sub CF 0) (vD st as_ ((i + 1 : Nat) : Int)) .normal (vD st as_ ((i + 1 + 1 : Nat) : Int))) := by
 refine zt (zu (s' := { t := mkT 52 0 [(1, .ref (.ptr 0 0)), (2, int 0), (3, int (zg zb ((↑(i + 1) : Int) + 1)))], h := [.var [int st, aa as_]], m := [] }) (e := zr) pok [.st (.mask [1, 2, 3]), .st (.trim 1)] [.b true, .row (za a), .val (bool v), .b false, .b true, .row (za b), .b false] (by kernel_rfl) (.c hlt (.c hr (.c (@hv (tT st as_ a)) (.c hb (.c hgt (.c hr2 (.c ho .n)))))))) ?_ ?_ <;> (first | rfl | (rw [hw]))
noncomputable abbrev ru (st : Int) (as_ : List (List Dp)) (a : AttT) : List Blk := [.var [int st, aa as_], .var [int a.course, int a.term, int a.grade, int a.campus, int a.credits]]
theorem yH {st : Int} {as_ : List (List Dp)} {a b : AttT} {v : Bool} {i : Nat} (hr : aj ((i + 1 : Nat) : Int) as_ a.row 5) (hr2 : aj (zb.wrap (((i + 1 : Nat) : Int) - 1)) as_ b.row 5) (hlt : decide (((i + 1 : Nat) : Int) < (as_.length : Int)) = true) (hgt : decide (((i + 1 : Nat) : Int) > 0) = true) (hb : (!v) = false) (ho : (decide (b.term > a.term) || (b.term == a.term && decide (b.course ≥ a.course))) = true) (hv : ∀ h, Ev y6 Γ0 80 [ag a.row] h (bool v) h) : (CW y6 Γ0 [] false (sub CF 0) (vD st as_ ((i + 1 : Nat) : Int)) .ret c16R) := by
 exact zt (zu (s' := { t := mkT 52 0 [(2, int 150)], h := [], m := [] }) (e := Ai) pok [.st (.mask [2]), .st (.trim 0)] [.b true, .row (za a), .val (bool v), .b false, .b true, .row (za b), .b true] (by kernel_rfl) (.c hlt (.c hr (.c (@hv (ru st as_ a)) (.c hb (.c hgt (.c hr2 (.c ho .n)))))))) (by rfl) (by rfl)
theorem vE {st : Int} {as_ : List (List Dp)} {i : Nat} (hlt : decide ((i : Int) < (as_.length : Int)) = false) : (CW y6 Γ0 [] false (sub CF 0) (vD st as_ i) (.exit 0) c16E) := by
 exact zt (zu (s' := { t := mkT 52 0 [], h := [], m := [] }) (e := zQ 0) pok [.st (.mask []), .st (.trim 0)] [.b false] (by kernel_rfl) (.c hlt .n)) (by rfl) (by rfl)
def tU (l : List AttT) : Exit × AS := bI (.exit 0) (fun _ : Unit => c16E) c16X (bp wQ (ej l) ())
theorem c16_cw {st : Int} {l : List AttT} (hl : ak l) :
  CW y6 Γ0 [] false (.loop (sub CF 0)) (vD st (l.map za) 0) (tU l).1 (tU l).2 := by
 have hlen : (ej l).length = l.length := by simp [ej]
 refine Cz (ej l) wQ (fun i _ => vD st (l.map za) (i : Int)) (.exit 0) (fun _ => c16E) c16X (fun _ _ => True) (by simp) (fun _ => by simp []) ?_ ?_ () trivial
 ·intro i p u hp _
  obtain ⟨hi, he⟩ := zc.1 hp
  rw [hlen] at hi
  have h2 : l[i]? = some p.2 := by subst he; simp [ej, zp hi]
  refine ⟨fun _ _ => trivial, ?_⟩
  obtain ⟨o, a⟩ := p
  have hv := tN a
  unfold wQ
  simp only
  cases hb : attB a
  ·rw [hb] at hv
   exact c16_bX (rowAt h2 rfl) (lt_len za hi) rfl hv
  ·rw [hb] at hv
   cases i with
   | zero =>
    have ho : o = none := by have := congrArg DY he; simpa [ej] using this.symm
    subst ho
    exact c16_b0 (rowAt h2 rfl) (lt_len za hi) rfl hv
   | succ i =>
    have h1 : l[i]? = some (l[i]'(by omega)) := zp _
    have ho : o = some (l[i]'(by omega)) := by have := congrArg DY he; simpa [ej] using this.symm
    subst ho
    have hr2 : aj (zb.wrap (((i + 1 : Nat) : Int) - 1)) (l.map za) (l[i]'(by omega)).row 5 := by
     have : zb.wrap (((i + 1 : Nat) : Int) - 1) = (i : Int) := by
      have := hl; unfold ak at this
      rw [wrap_i64 (by omega) (by omega)]; omega
     rw [this]
     exact rowAt h1 rfl
    simp only [cond_true]
    cases hq : ordW (l[i]'(by omega)) a
    ·exact c16_b1 (rowAt h2 rfl) hr2 (lt_len za hi) (decide_eq_true (by omega)) (wrap_succ hi hl) rfl hq hv
    ·exact yH (rowAt h2 rfl) hr2 (lt_len za hi) (decide_eq_true (by omega)) rfl hq hv
 ·intro u _
  rw [hlen]
  exact vE (bN za l)
def eR (r : RecT) : Int := bif !(decide (r.st ≥ 0) && decide (r.st ≤ 19999)) then 150 else match bp wQ (ej r.a) () with | .inl _ => 0 | .inr _ => 150
theorem rz {r : RecT} (hl : ak r.a) (h : List Blk) : (Ev y6 Γ0 31 [.agg r.l] h (int (eR r)) h) := by
 cases hc0 : !(decide (r.st ≥ 0) && decide (r.st ≤ 19999))
 ·have hl1 := (@c16_cw (r.st) (r.a) (hl))
  unfold tU at hl1
  revert hl1
  cases ho2 : bp wQ (ej r.a) () with
  | inl o2_0_0 =>
   intro hl1
   exact zk (zm (d := int 0) pok [.val (bool (decide (r.st ≥ 0) && decide (r.st ≤ 19999))), .b false, .sum [1, 2, 3] (zQ 0) { t := mkT 52 0 [], h := [], m := [] }] (by kernel_rfl) (.c (@kW (r.st) 0 19999 ([.var [int r.st, aa (y9 za r.a)]])) (.c hc0 (.c hl1 .n))) rfl rfl h) (by simp only [eR, hc0, ho2, cond_false]) (by rfl)
  | inr o2_1_0 =>
   intro hl1
   exact zk (zm (d := int 150) pok [.val (bool (decide (r.st ≥ 0) && decide (r.st ≤ 19999))), .b false, .sum [1, 2, 3] (Ai) { t := mkT 52 0 [(2, int 150)], h := [], m := [] }] (by kernel_rfl) (.c (@kW (r.st) 0 19999 ([.var [int r.st, aa (y9 za r.a)]])) (.c hc0 (.c hl1 .n))) rfl rfl h) (by simp only [eR, hc0, ho2, cond_false]) (by rfl)
 ·exact zk (zm (d := int 150) pok [.val (bool (decide (r.st ≥ 0) && decide (r.st ≤ 19999))), .b true] (by kernel_rfl) (.c (@kW (r.st) 0 19999 ([.var [int r.st, aa (y9 za r.a)]])) (.c hc0 .n)) rfl rfl h) (by simp only [eR, hc0, cond_true]) (by rfl)
theorem ord_W (b a : AttT) : decide (yA b a ≥ 0) = ordW b a := by
 have h : (ltOf yA) b a = false ↔ ¬ (b.term < a.term ∨ (b.term = a.term ∧ b.course < a.course)) := yC b a
 unfold ltOf at h
 rw [decide_eq_false_iff_not] at h
 rw [BF, decide_eq_true_eq]
 simp only [ordW, Bool.or_eq_true, zd, decide_eq_true_eq, beq_iff_eq]
 omega
theorem c16_rk (p : Option AttT × AttT) : wQ p () = rkF p () := by
 obtain ⟨o, a⟩ := p
 have : vu a = attB a := rfl
 unfold wQ rkF f7
 simp only [this]
 cases attB a
 ·rfl
 ·cases o with
  | none => rfl
  | some b =>
   simp only [ord_W, cond_true, Bool.not_true, Bool.false_or]
theorem rA (r : RecT) : eR r = aI r := by
 have e : wQ = rkF := by
  funext p u
  exact c16_rk p
 unfold eR aI
 rw [e]
 try rfl
end Go.Vi
open Go Go.Proofs
namespace Go.Vi
set_option maxRecDepth 100000
set_option maxHeartbeats 4000000
def bet (a b : AttT) (kind k i : Int) : Bool := match kind == 0 with
 | true => match a.grade != b.grade with
  | true => decide (a.grade > b.grade)
  | false => match a.term != b.term with
   | true => decide (a.term < b.term)
   | false => decide (k < i)
 | false => match a.term != b.term with
  | true => decide (a.term > b.term)
  | false => decide (k > i)
theorem nQ {as_ : List (List Dp)} {a b : AttT} {kind k i : Int} (ha : aj k as_ a.row 5) (hb : aj i as_ b.row 5) (h : List Blk) : (Ev y6 Γ0 160 [aa as_, int kind, int k, int i] h (bool (bet a b kind k i)) h) := by
 cases hc0 : kind == 0
 ·cases hc1 : a.term != b.term
  ·exact zk (zm (d := bool (decide (k > i))) pok [.row (za a), .row (za b), .b false, .b false] (by kernel_rfl) (.c ha (.c hb (.c hc0 (.c hc1 .n)))) rfl rfl h) (by simp only [bet, hc0, hc1]; first | done | rfl) (by rfl)
  ·exact zk (zm (d := bool (decide (a.term > b.term))) pok [.row (za a), .row (za b), .b false, .b true] (by kernel_rfl) (.c ha (.c hb (.c hc0 (.c hc1 .n)))) rfl rfl h) (by simp only [bet, hc0, hc1]; first | done | rfl) (by rfl)
 ·cases hc1 : a.grade != b.grade
  ·cases hc2 : a.term != b.term
   ·exact zk (zm (d := bool (decide (k < i))) pok [.row (za a), .row (za b), .b true, .b false, .b false] (by kernel_rfl) (.c ha (.c hb (.c hc0 (.c hc1 (.c hc2 .n))))) rfl rfl h) (by simp only [bet, hc0, hc1, hc2]; first | done | rfl) (by rfl)
   ·exact zk (zm (d := bool (decide (a.term < b.term))) pok [.row (za a), .row (za b), .b true, .b false, .b true] (by kernel_rfl) (.c ha (.c hb (.c hc0 (.c hc1 (.c hc2 .n))))) rfl rfl h) (by simp only [bet, hc0, hc1, hc2]; first | done | rfl) (by rfl)
  ·exact zk (zm (d := bool (decide (a.grade > b.grade))) pok [.row (za a), .row (za b), .b true, .b true] (by kernel_rfl) (.c ha (.c hb (.c hc0 (.c hc1 .n)))) rfl rfl h) (by simp only [bet, hc0, hc1]; first | done | rfl) (by rfl)
theorem qq {l : List (List Dp)} (h : List Blk) : (Ev y6 Γ0 25 [aa l] h (bool (decide ((l.length : Int) ≤ 40))) h) := by
 exact zk (zm (d := bool (decide ((↑(zf l) : Int) ≤ 40))) pok [] (by kernel_rfl) .n rfl rfl h) (by rfl) (by rfl)
end Go.Vi
open Go Go.Proofs
namespace Go.Vi
set_option maxRecDepth 100000
set_option maxHeartbeats 4000000
abbrev kcS (as_ rp : List (List Dp)) (i k : Int) : AS := { t := mkT 123 0 [(0, aa as_), (1, aa rp), (4, ei), (5, int 0), (7, int i), (8, int k)], h := [], m := [] }
abbrev kiS (as_ rp : List (List Dp)) (i : Int) : AS := { t := mkT 123 0 [(0, aa as_), (1, aa rp), (4, ei), (5, int 0), (7, int i)], h := [], m := [] }
abbrev kiR : AS := { t := mkT 123 0 [(4, ei), (5, int 1)], h := [], m := [] }
def clash (a b : AttT) (x y : Int) : Bool := a.course == b.course && x != y
theorem yI {as_ rp : List (List Dp)} {a b : AttT} {x y : Int} {i k : Nat} (ha : aj (i : Int) as_ a.row 5) (hb : aj (k : Int) as_ b.row 5) (hx : aj (i : Int) rp [vi x] 1) (hy : aj (k : Int) rp [vi y] 1) (hlt : decide ((k : Int) < (i : Int)) = true) (hw : zb.wrap ((k : Int) + 1) = ((k + 1 : Nat) : Int)) (hc : (a.course == b.course && x != y) = false) : (CW y6 Γ0 [] false (sub AZ 1) (kcS as_ rp i k) .normal (kcS as_ rp i ((k + 1 : Nat) : Int))) := by
 cases hc0 : a.course == b.course
 ·refine zt (zu (s' := { t := mkT 123 0 [(0, aa as_), (1, aa rp), (4, nq), (5, int 0), (7, int (↑i : Int)), (8, int (zg zb ((↑k : Int) + 1)))], h := [], m := [] }) (e := zr) pok [.st (.mask [0, 1, 4, 5, 7, 8])] [.b true, .row (za a), .row (za b), .g false, .g false, .g false, .g false, .g false, .g false, .g false, .g false, .g false, .ov 67 (bool false), .b false] (by kernel_rfl) (.c hlt (.c ha (.c hb (.c (show ((a.course == b.course) == true) = false from (by rw [hc0]; rfl)) (.c (show ((a.course == b.course) == true) = false from (by rw [hc0]; rfl)) (.c (show ((a.course == b.course) == true) = false from (by rw [hc0]; rfl)) (.c (show ((a.course == b.course) == true) = false from (by rw [hc0]; rfl)) (.c (show ((a.course == b.course) == true) = false from (by rw [hc0]; rfl)) (.c (show ((a.course == b.course) == true) = false from (by rw [hc0]; rfl)) (.c (show ((a.course == b.course) == true) = false from (by rw [hc0]; rfl)) (.c (show ((a.course == b.course) == true) = false from (by rw [hc0]; rfl)) (.c (show ((a.course == b.course) == true) = false from (by rw [hc0]; rfl)) (.c (show ae (bool (a.course == b.course)) (D.p (Dp.v (Ah { toList := [] }))) (bool false) (bool false) from (am hc0 rfl)) (.c (show false = false from rfl) .n))))))))))))))) ?_ ?_ <;> (first | rfl | (rw [hw]) | (simp_all; done))
 ·cases hc1 : x != y
  ·refine zt (zu (s' := { t := mkT 123 0 [(0, aa as_), (1, aa rp), (4, nq), (5, int 0), (7, int (↑i : Int)), (8, int (zg zb ((↑k : Int) + 1)))], h := [], m := [] }) (e := zr) pok [.st (.mask [0, 1, 4, 5, 7, 8])] [.b true, .row (za a), .row (za b), .g true, .g true, .g true, .row [vi x], .g true, .g true, .g true, .g true, .row [vi y], .g true, .g true, .ov 67 (bool (x != y)), .b false] (by kernel_rfl) (.c hlt (.c ha (.c hb (.c (show ((a.course == b.course) == true) = true from (by rw [hc0]; rfl)) (.c (show ((a.course == b.course) == true) = true from (by rw [hc0]; rfl)) (.c (show ((a.course == b.course) == true) = true from (by rw [hc0]; rfl)) (.c hx (.c (show ((a.course == b.course) == true) = true from (by rw [hc0]; rfl)) (.c (show ((a.course == b.course) == true) = true from (by rw [hc0]; rfl)) (.c (show ((a.course == b.course) == true) = true from (by rw [hc0]; rfl)) (.c (show ((a.course == b.course) == true) = true from (by rw [hc0]; rfl)) (.c hy (.c (show ((a.course == b.course) == true) = true from (by rw [hc0]; rfl)) (.c (show ((a.course == b.course) == true) = true from (by rw [hc0]; rfl)) (.c (show ae (bool (a.course == b.course)) (bool (x != y)) (bool false) (bool (x != y)) from (af hc0 rfl)) (.c hc1 .n))))))))))))))))) ?_ ?_ <;> (first | rfl | (rw [hw]) | (simp_all; done))
  ·refine zt (zu (s' := { t := mkT 123 0 [(0, aa as_), (1, aa rp), (4, nq), (5, int 1), (7, int (↑i : Int)), (8, int (↑k : Int))], h := [], m := [] }) (e := Ai) pok [.st (.mask [0, 1, 4, 5, 7, 8])] [.b true, .row (za a), .row (za b), .g true, .g true, .g true, .row [vi x], .g true, .g true, .g true, .g true, .row [vi y], .g true, .g true, .ov 67 (bool (x != y)), .b true] (by kernel_rfl) (.c hlt (.c ha (.c hb (.c (show ((a.course == b.course) == true) = true from (by rw [hc0]; rfl)) (.c (show ((a.course == b.course) == true) = true from (by rw [hc0]; rfl)) (.c (show ((a.course == b.course) == true) = true from (by rw [hc0]; rfl)) (.c hx (.c (show ((a.course == b.course) == true) = true from (by rw [hc0]; rfl)) (.c (show ((a.course == b.course) == true) = true from (by rw [hc0]; rfl)) (.c (show ((a.course == b.course) == true) = true from (by rw [hc0]; rfl)) (.c (show ((a.course == b.course) == true) = true from (by rw [hc0]; rfl)) (.c hy (.c (show ((a.course == b.course) == true) = true from (by rw [hc0]; rfl)) (.c (show ((a.course == b.course) == true) = true from (by rw [hc0]; rfl)) (.c (show ae (bool (a.course == b.course)) (bool (x != y)) (bool false) (bool (x != y)) from (af hc0 rfl)) (.c hc1 .n))))))))))))))))) ?_ ?_ <;> (first | rfl | (rw [hw]) | (simp_all; done))
theorem yJ {as_ rp : List (List Dp)} {i : Nat} {k : Int} (hlt : decide (k < (i : Int)) = false) : (CW y6 Γ0 [] false (sub AZ 1) (kcS as_ rp i k) (.exit 2) (kiS as_ rp i)) := by
 exact zt (zu (s' := { t := mkT 123 0 [(0, aa as_), (1, aa rp), (4, nq), (5, int 0), (7, int (↑i : Int))], h := [], m := [] }) (e := zQ 2) pok [.st (.mask [0, 1, 4, 5, 7])] [.b false] (by kernel_rfl) (.c hlt .n)) (by rfl) (by rfl)
theorem vF {as_ rp : List (List Dp)} {a b : AttT} {x y : Int} {i k : Nat} (ha : aj (i : Int) as_ a.row 5) (hb : aj (k : Int) as_ b.row 5) (hx : aj (i : Int) rp [vi x] 1) (hy : aj (k : Int) rp [vi y] 1) (hlt : decide ((k : Int) < (i : Int)) = true) (hc1 : (a.course == b.course) = true) (hc2 : (x != y) = true) : (CW y6 Γ0 [] false (sub AZ 1) (kcS as_ rp i k) .ret kiR) := by
 refine zt (zu (s' := { t := mkT 123 0 [(4, nq), (5, int 1)], h := [], m := [] }) (e := Ai) pok [.st (.mask [4, 5])] [.b true, .row (za a), .row (za b), .g true, .g true, .g true, .row [vi x], .g true, .g true, .g true, .g true, .row [vi y], .g true, .g true, .ov 67 (bool (x != y)), .b true] (by kernel_rfl) (.c hlt (.c ha (.c hb (.c (show ((a.course == b.course) == true) = true from (by rw [hc1]; rfl)) (.c (show ((a.course == b.course) == true) = true from (by rw [hc1]; rfl)) (.c (show ((a.course == b.course) == true) = true from (by rw [hc1]; rfl)) (.c hx (.c (show ((a.course == b.course) == true) = true from (by rw [hc1]; rfl)) (.c (show ((a.course == b.course) == true) = true from (by rw [hc1]; rfl)) (.c (show ((a.course == b.course) == true) = true from (by rw [hc1]; rfl)) (.c (show ((a.course == b.course) == true) = true from (by rw [hc1]; rfl)) (.c hy (.c (show ((a.course == b.course) == true) = true from (by rw [hc1]; rfl)) (.c (show ((a.course == b.course) == true) = true from (by rw [hc1]; rfl)) (.c (show ae (bool (a.course == b.course)) (bool (x != y)) (bool false) (bool (x != y)) from (af hc1 rfl)) (.c hc2 .n))))))))))))))))) ?_ ?_ <;> (first | rfl | (simp_all; done) | (exfalso; simp_all; done))
abbrev kcX : Unit → Exit × AS := fun _ => (.ret, kiR)
def kcF (a : AttT) (x : Int) (p : AttT × Int) (_ : Unit) : Unit ⊕ Unit := bif clash a p.1 x p.2 then .inr () else .inl ()
def kcR (l : List AttT) (rp : List Int) (i : Nat) (a : AttT) (x : Int) : Unit ⊕ Unit := bp (kcF a x) ((l.zip rp).take i) ()
def yK (l : List AttT) (rp : List Int) (i : Nat) (a : AttT) (x : Int) : Exit × AS := bI (.exit 2) (fun _ : Unit => kiS (l.map za) (rp.map fun n => [vi n]) (i : Int)) kcX (kcR l rp i a x)
theorem kc_cw {l : List AttT} {rp : List Int} (hl : ak l) (hlen : rp.length = l.length) {i : Nat} {a : AttT} {x : Int} (ha : l[i]? = some a) (hx : rp[i]? = some x) :
  CW y6 Γ0 [] false (.loop (sub AZ 1)) (kcS (l.map za) (rp.map fun n => [vi n]) (i : Int) 0) (yK l rp i a x).1 (yK l rp i a x).2 := by
 have hi := (zc.1 ha).1
 have hlen2 : ((l.zip rp).take i).length = i := by simp; omega
 refine Cz ((l.zip rp).take i) (kcF a x) (fun k _ => kcS (l.map za) (rp.map fun n => [vi n]) (i : Int) (k : Int)) (.exit 2) (fun _ => kiS (l.map za) (rp.map fun n => [vi n]) (i : Int)) kcX (fun _ _ => True) (by simp) (fun _ => by simp []) ?_ ?_ () trivial
 ·intro k p _ hk _
  obtain ⟨b, y⟩ := p
  have hki := (zc.1 hk).1
  rw [hlen2] at hki
  rw [List.getElem?_take_of_lt hki] at hk
  obtain ⟨hb, hy⟩ := AG.1 hk
  simp only at hb hy
  refine ⟨fun _ _ => trivial, ?_⟩
  unfold kcF
  cases hc : clash a b x y
  ·exact yI (rowAt ha rfl) (rowAt hb rfl) (rowAt (row := fun n => [vi n]) hx rfl) (rowAt (row := fun n => [vi n]) hy rfl) (decide_eq_true (by omega)) (wrap_succ (by omega) hl) hc
  ·have h2 := hc
   unfold clash at h2
   rw [zd] at h2
   exact vF (rowAt ha rfl) (rowAt hb rfl) (rowAt (row := fun n => [vi n]) hx rfl) (rowAt (row := fun n => [vi n]) hy rfl) (decide_eq_true (by omega)) h2.1 h2.2
 ·intro _ _
  rw [hlen2]
  exact yJ (decide_eq_false (by omega))
end Go.Vi
open Go Go.Proofs
namespace Go.Vi
set_option maxRecDepth 100000
set_option maxHeartbeats 4000000
def koF (l : List AttT) (rp : List Int) (p : (AttT × Int) × Nat) (_ : Unit) : Unit ⊕ Unit := bif (decide (p.1.2 < 0) || decide (p.1.2 > 2)) then .inr () else kcR l rp p.2 p.1.1 p.1.2
theorem yL {l : List AttT} {rp : List Int} (hl : ak l) (hlen : rp.length = l.length) {i : Nat} {a : AttT} {x : Int} (ha : l[i]? = some a) (hx : rp[i]? = some x) (hr : aj (i : Int) (l.map za) a.row 5) (hr2 : aj (i : Int) (rp.map fun n => [vi n]) [vi x] 1) (hlt : decide ((i : Int) < ((l.map za).length : Int)) = true) (hw : zb.wrap ((i : Int) + 1) = ((i + 1 : Nat) : Int)) : (CW y6 Γ0 [] false (sub AZ 0) (kiS (l.map za) (rp.map fun n => [vi n]) (i : Int)) (ad (fun _ : Unit => kiS (l.map za) (rp.map fun n => [vi n]) ((i + 1 : Nat) : Int)) kcX (koF l rp ((a, x), i) ())).1 (ad (fun _ : Unit => kiS (l.map za) (rp.map fun n => [vi n]) ((i + 1 : Nat) : Int)) kcX (koF l rp ((a, x), i) ())).2) := by
 cases hc0 : decide (x < 0) || decide (x > 2)
 ·have hl1 := (@kc_cw (l) (rp) (hl) (hlen) (i) (a) (x) (ha) (hx))
  unfold yK at hl1
  revert hl1
  cases ho2 : kcR l rp i a x with
  | inl o2_0_0 =>
   intro hl1
   exact zt (zu (s' := { t := mkT 123 0 [(0, aa (y9 za l)), (1, aa (y9 (fun n => [vi n]) rp)), (4, nq), (5, int 0), (7, int (zg zb ((↑i : Int) + 1)))], h := [], m := [] }) (e := zr) pok [.st (.mask [0, 1, 4, 5, 7])] [.b true, .row [vi x], .row [vi x], .b false, .sum [0, 1, 4, 5, 7, 8] (zQ 2) { t := mkT 123 0 [(0, aa (y9 za l)), (1, aa (y9 (fun n => [vi n]) rp)), (4, nq), (5, int 0), (7, int (↑i : Int))], h := [], m := [] }] (by kernel_rfl) (.c hlt (.c hr2 (.c (show (!decide (x < 0)) = true → aj (↑i : Int) (y9 (fun n => [vi n]) rp) [vi x] 1 from (fun hg => hr2)) (.c hc0 (.c hl1 .n)))))) (by simp only [koF, hc0, ho2, cond_false]; first | done | rfl | (rw [hw]; rfl)) (by simp only [koF, hc0, ho2, cond_false]; first | done | rfl | (rw [hw]; rfl))
  | inr o2_1_0 =>
   intro hl1
   exact zt (zu (s' := { t := mkT 123 0 [(4, nq), (5, int 1)], h := [], m := [] }) (e := Ai) pok [.st (.mask [4, 5])] [.b true, .row [vi x], .row [vi x], .b false, .sum [0, 1, 4, 5, 7, 8] (Ai) { t := mkT 123 0 [(4, nq), (5, int 1)], h := [], m := [] }] (by kernel_rfl) (.c hlt (.c hr2 (.c (show (!decide (x < 0)) = true → aj (↑i : Int) (y9 (fun n => [vi n]) rp) [vi x] 1 from (fun hg => hr2)) (.c hc0 (.c hl1 .n)))))) (by simp only [koF, hc0, ho2, cond_false]; first | done | rfl | (rw [hw]; rfl)) (by simp only [koF, hc0, ho2, cond_false]; first | done | rfl | (rw [hw]; rfl))
 ·exact zt (zu (s' := { t := mkT 123 0 [(4, nq), (5, int 1)], h := [], m := [] }) (e := Ai) pok [.st (.mask [4, 5])] [.b true, .row [vi x], .row [vi x], .b true] (by kernel_rfl) (.c hlt (.c hr2 (.c (show (!decide (x < 0)) = true → aj (↑i : Int) (y9 (fun n => [vi n]) rp) [vi x] 1 from (fun hg => hr2)) (.c hc0 .n))))) (by simp only [koF, hc0, cond_true]; first | done | rfl | (rw [hw]; rfl)) (by simp only [koF, hc0, cond_true]; first | done | rfl | (rw [hw]; rfl))
theorem yM {as_ rp : List (List Dp)} {i : Nat} (hlt : decide ((i : Int) < (as_.length : Int)) = false) : (CW y6 Γ0 [] false (sub AZ 0) (kiS as_ rp i) (.exit 0) { t := mkT 123 0 [(0, aa as_), (1, aa rp), (4, ei), (5, int 0)], h := [], m := [] }) := by
 exact zt (zu (s' := { t := mkT 123 0 [(0, aa as_), (1, aa rp), (4, nq), (5, int 0)], h := [], m := [] }) (e := zQ 0) pok [.st (.mask [0, 1, 4, 5])] [.b false] (by kernel_rfl) (.c hlt .n)) (by rfl) (by rfl)
def koR (l : List AttT) (rp : List Int) : Unit ⊕ Unit := bp (koF l rp) (l.zip rp).zipIdx ()
def yN (l : List AttT) (rp : List Int) : Exit × AS := bI (.exit 0) (fun _ : Unit => { t := mkT 123 0 [(0, aa (l.map za)), (1, aa (rp.map fun n => [vi n])), (4, ei), (5, int 0)], h := [], m := [] }) kcX (koR l rp)
theorem ko_cw {l : List AttT} {rp : List Int} (hl : ak l) (hlen : rp.length = l.length) :
  CW y6 Γ0 [] false (.loop (sub AZ 0)) (kiS (l.map za) (rp.map fun n => [vi n]) 0) (yN l rp).1 (yN l rp).2 := by
 have hlen2 : (l.zip rp).zipIdx.length = l.length := by simp; omega
 refine Cz (l.zip rp).zipIdx (koF l rp) (fun i _ => kiS (l.map za) (rp.map fun n => [vi n]) (i : Int)) (.exit 0) (fun _ => { t := mkT 123 0 [(0, aa (l.map za)), (1, aa (rp.map fun n => [vi n])), (4, ei), (5, int 0)], h := [], m := [] }) kcX (fun _ _ => True) (by simp) (fun _ => by simp []) ?_ ?_ () trivial
 ·intro i p _ hp _
  have hi := (zc.1 hp).1
  rw [hlen2] at hi
  rw [Bh] at hp
  obtain ⟨q, hq, rfl⟩ := ze.1 hp
  obtain ⟨a, x⟩ := q
  obtain ⟨ha, hx⟩ := AG.1 hq
  simp only [A6] at ha hx ⊢
  exact ⟨fun _ _ => trivial, yL hl hlen ha hx (rowAt ha rfl) (rowAt (row := fun n => [vi n]) hx rfl) (lt_len za hi) (wrap_succ hi hl)⟩
 ·intro _ _
  rw [hlen2]
  exact yM (bN za l)
end Go.Vi
open Go Go.Proofs
namespace Go.Vi
set_option maxRecDepth 100000
set_option maxHeartbeats 4000000
abbrev kdS (as_ rp : List (List Dp)) (v : List (List D)) (i : Int) (c : Bool) (k : Int) : AS := { t := mkT 123 0 [(0, aa as_), (1, aa rp), (4, ei), (5, int 0), (9, .ref (.vec 0 0)), (10, int i), (11, bool c), (12, int k)], h := [.vec v 0 5], m := [] }
abbrev kdE (as_ rp : List (List Dp)) (v : List (List D)) (i : Int) (c : Bool) : AS := { t := mkT 123 0 [(0, aa as_), (1, aa rp), (4, ei), (5, int 0), (9, .ref (.vec 0 0)), (10, int i), (11, bool c)], h := [.vec v 0 5], m := [] }
def outBy (a b : AttT) (x : Int) (k i : Int) : Bool := k != i && x != 2 && b.course == a.course && bet b a x k i
theorem yO {as_ rp : List (List Dp)} {v : List (List D)} {a b : AttT} {x : Int} {c : Bool} {i k : Nat} (ha : aj (i : Int) as_ a.row 5) (hb : aj (k : Int) as_ b.row 5) (hx : aj (i : Int) rp [vi x] 1) (hlt : decide ((k : Int) < (as_.length : Int)) = true) (hw : zb.wrap ((k : Int) + 1) = ((k + 1 : Nat) : Int)) : (CW y6 Γ0 [] false (sub AZ 3) (kdS as_ rp v i c k) .normal (kdS as_ rp v i (bif outBy a b x k i then false else c) ((k + 1 : Nat) : Int))) := by
 cases hc0 : (↑k : Int) != (↑i : Int)
 ·let v0 := D.p (Dp.v (Ah { toList := [] }))
  exact zt (zu (s' := { t := mkT 123 0 [(0, aa as_), (1, aa rp), (4, nq), (5, int 0), (9, .ref (.vec 0 0)), (10, int (↑i : Int)), (11, bool c), (12, int (zg zb ((↑k : Int) + 1)))], h := [.vec v 0 5], m := [] }) (e := zr) pok [.st (.mask [0, 1, 4, 5, 9, 10, 11, 12])] [.b true, .g false, .g false, .g false, .g false, .g false, .ov 90 (bool false), .g false, .g false, .g false, .g false, .g false, .g false, .g false, .g false, .g false, .g false, .g false, .ov 103 (bool false), .g false, .g false, .g false, .g false, .g false, .g false, .g false, .g false, .ov 113 (bool false), .b false] (by kernel_rfl) (.c hlt (.c (show (((↑k : Int) != (↑i : Int)) == true) = false from (by subst v0; rw [hc0]; rfl)) (.c (show (((↑k : Int) != (↑i : Int)) == true) = false from (by subst v0; rw [hc0]; rfl)) (.c (show (((↑k : Int) != (↑i : Int)) == true) = false from (by subst v0; rw [hc0]; rfl)) (.c (show (((↑k : Int) != (↑i : Int)) == true) = false from (by subst v0; rw [hc0]; rfl)) (.c (show (((↑k : Int) != (↑i : Int)) == true) = false from (by subst v0; rw [hc0]; rfl)) (.c (show ae (bool ((↑k : Int) != (↑i : Int))) v0 (bool false) (bool false) from (am hc0 rfl)) (.c (show (false == true) = false from rfl) (.c (show (false == true) = false from rfl) (.c (show (false == true) = false from rfl) (.c (show (false == true) = false from rfl) (.c (show (false == true) = false from rfl) (.c (show (false == true) = false from rfl) (.c (show (false == true) = false from rfl) (.c (show (false == true) = false from rfl) (.c (show (false == true) = false from rfl) (.c (show (false == true) = false from rfl) (.c (show (false == true) = false from rfl) (.c (show ae (bool false) v0 (bool false) (bool false) from (am rfl rfl)) (.c (show (false == true) = false from rfl) (.c (show (false == true) = false from rfl) (.c (show (false == true) = false from rfl) (.c (show (false == true) = false from rfl) (.c (show (false == true) = false from rfl) (.c (show (false == true) = false from rfl) (.c (show (false == true) = false from rfl) (.c (show (false == true) = false from rfl) (.c (show ae (bool false) v0 (bool false) (bool false) from (am rfl rfl)) (.c (show false = false from rfl) .n)))))))))))))))))))))))))))))) (by subst v0; simp only []; first | done | rfl) (by subst v0; simp only [outBy, hw, hc0, zT, cond_false]; first | done | rfl)
 ·cases hc1 : x != 2
  ·exact zt (zu (s' := { t := mkT 123 0 [(0, aa as_), (1, aa rp), (4, nq), (5, int 0), (9, .ref (.vec 0 0)), (10, int (↑i : Int)), (11, bool c), (12, int (zg zb ((↑k : Int) + 1)))], h := [.vec v 0 5], m := [] }) (e := zr) pok [.st (.mask [0, 1, 4, 5, 9, 10, 11, 12])] [.b true, .g true, .g true, .g true, .row [vi x], .g true, .g true, .ov 90 (bool (x != 2)), .g false, .g false, .g false, .g false, .g false, .g false, .g false, .g false, .g false, .g false, .g false, .ov 103 (bool false), .g false, .g false, .g false, .g false, .g false, .g false, .g false, .g false, .ov 113 (bool false), .b false] (by kernel_rfl) (.c hlt (.c (show (((↑k : Int) != (↑i : Int)) == true) = true from (by rw [hc0]; rfl)) (.c (show (((↑k : Int) != (↑i : Int)) == true) = true from (by rw [hc0]; rfl)) (.c (show (((↑k : Int) != (↑i : Int)) == true) = true from (by rw [hc0]; rfl)) (.c hx (.c (show (((↑k : Int) != (↑i : Int)) == true) = true from (by rw [hc0]; rfl)) (.c (show (((↑k : Int) != (↑i : Int)) == true) = true from (by rw [hc0]; rfl)) (.c (show ae (bool ((↑k : Int) != (↑i : Int))) (bool (x != 2)) (bool false) (bool (x != 2)) from (af hc0 rfl)) (.c (show ((x != 2) == true) = false from (by rw [hc1]; rfl)) (.c (show ((x != 2) == true) = false from (by rw [hc1]; rfl)) (.c (show ((x != 2) == true) = false from (by rw [hc1]; rfl)) (.c (show ((x != 2) == true) = false from (by rw [hc1]; rfl)) (.c (show ((x != 2) == true) = false from (by rw [hc1]; rfl)) (.c (show ((x != 2) == true) = false from (by rw [hc1]; rfl)) (.c (show ((x != 2) == true) = false from (by rw [hc1]; rfl)) (.c (show ((x != 2) == true) = false from (by rw [hc1]; rfl)) (.c (show ((x != 2) == true) = false from (by rw [hc1]; rfl)) (.c (show ((x != 2) == true) = false from (by rw [hc1]; rfl)) (.c (show ((x != 2) == true) = false from (by rw [hc1]; rfl)) (.c (show ae (bool (x != 2)) (D.p (Dp.v (Ah { toList := [] }))) (bool false) (bool false) from (am hc1 rfl)) (.c (show (false == true) = false from rfl) (.c (show (false == true) = false from rfl) (.c (show (false == true) = false from rfl) (.c (show (false == true) = false from rfl) (.c (show (false == true) = false from rfl) (.c (show (false == true) = false from rfl) (.c (show (false == true) = false from rfl) (.c (show (false == true) = false from rfl) (.c (show ae (bool false) (D.p (Dp.v (Ah { toList := [] }))) (bool false) (bool false) from (am rfl rfl)) (.c (show false = false from rfl) .n))))))))))))))))))))))))))))))) (by simp only []; first | done | rfl) (by simp only [outBy, hw, hc0, hc1, zU, zT, cond_false]; first | done | rfl)
  ·cases hc2 : b.course == a.course
   ·exact zt (zu (s' := { t := mkT 123 0 [(0, aa as_), (1, aa rp), (4, nq), (5, int 0), (9, .ref (.vec 0 0)), (10, int (↑i : Int)), (11, bool c), (12, int (zg zb ((↑k : Int) + 1)))], h := [.vec v 0 5], m := [] }) (e := zr) pok [.st (.mask [0, 1, 4, 5, 9, 10, 11, 12])] [.b true, .g true, .g true, .g true, .row [vi x], .g true, .g true, .ov 90 (bool (x != 2)), .g true, .g true, .g true, .row (za b), .g true, .g true, .g true, .g true, .g true, .row (za a), .g true, .g true, .g true, .ov 103 (bool (b.course == a.course)), .g false, .g false, .g false, .g false, .g false, .g false, .g false, .g false, .ov 113 (bool false), .b false] (by kernel_rfl) (.c hlt (.c (show (((↑k : Int) != (↑i : Int)) == true) = true from (by rw [hc0]; rfl)) (.c (show (((↑k : Int) != (↑i : Int)) == true) = true from (by rw [hc0]; rfl)) (.c (show (((↑k : Int) != (↑i : Int)) == true) = true from (by rw [hc0]; rfl)) (.c hx (.c (show (((↑k : Int) != (↑i : Int)) == true) = true from (by rw [hc0]; rfl)) (.c (show (((↑k : Int) != (↑i : Int)) == true) = true from (by rw [hc0]; rfl)) (.c (show ae (bool ((↑k : Int) != (↑i : Int))) (bool (x != 2)) (bool false) (bool (x != 2)) from (af hc0 rfl)) (.c (show ((x != 2) == true) = true from (by rw [hc1]; rfl)) (.c (show ((x != 2) == true) = true from (by rw [hc1]; rfl)) (.c (show ((x != 2) == true) = true from (by rw [hc1]; rfl)) (.c hb (.c (show ((x != 2) == true) = true from (by rw [hc1]; rfl)) (.c (show ((x != 2) == true) = true from (by rw [hc1]; rfl)) (.c (show ((x != 2) == true) = true from (by rw [hc1]; rfl)) (.c (show ((x != 2) == true) = true from (by rw [hc1]; rfl)) (.c (show ((x != 2) == true) = true from (by rw [hc1]; rfl)) (.c ha (.c (show ((x != 2) == true) = true from (by rw [hc1]; rfl)) (.c (show ((x != 2) == true) = true from (by rw [hc1]; rfl)) (.c (show ((x != 2) == true) = true from (by rw [hc1]; rfl)) (.c (show ae (bool (x != 2)) (bool (b.course == a.course)) (bool false) (bool (b.course == a.course)) from (af hc1 rfl)) (.c (show ((b.course == a.course) == true) = false from (by rw [hc2]; rfl)) (.c (show ((b.course == a.course) == true) = false from (by rw [hc2]; rfl)) (.c (show ((b.course == a.course) == true) = false from (by rw [hc2]; rfl)) (.c (show ((b.course == a.course) == true) = false from (by rw [hc2]; rfl)) (.c (show ((b.course == a.course) == true) = false from (by rw [hc2]; rfl)) (.c (show ((b.course == a.course) == true) = false from (by rw [hc2]; rfl)) (.c (show ((b.course == a.course) == true) = false from (by rw [hc2]; rfl)) (.c (show ((b.course == a.course) == true) = false from (by rw [hc2]; rfl)) (.c (show ae (bool (b.course == a.course)) (D.p (Dp.v (Ah { toList := [] }))) (bool false) (bool false) from (am hc2 rfl)) (.c (show false = false from rfl) .n))))))))))))))))))))))))))))))))) (by simp only []; first | done | rfl) (by simp only [outBy, hw, hc0, hc1, hc2, zU, zT, zX, cond_false]; first | done | rfl)
   ·cases hc3 : bet b a x (↑k : Int) (↑i : Int)
    ·exact zt (zu (s' := { t := mkT 123 0 [(0, aa as_), (1, aa rp), (4, nq), (5, int 0), (9, .ref (.vec 0 0)), (10, int (↑i : Int)), (11, bool c), (12, int (zg zb ((↑k : Int) + 1)))], h := [.vec v 0 5], m := [] }) (e := zr) pok [.st (.mask [0, 1, 4, 5, 9, 10, 11, 12])] [.b true, .g true, .g true, .g true, .row [vi x], .g true, .g true, .ov 90 (bool (x != 2)), .g true, .g true, .g true, .row (za b), .g true, .g true, .g true, .g true, .g true, .row (za a), .g true, .g true, .g true, .ov 103 (bool (b.course == a.course)), .g true, .g true, .g true, .g true, .row [vi x], .g true, .g true, .g true, .g true, .val (bool (bet b a x (↑k : Int) (↑i : Int))), .ov 113 (bool (bet b a x (↑k : Int) (↑i : Int))), .b false] (by kernel_rfl) (.c hlt (.c (show (((↑k : Int) != (↑i : Int)) == true) = true from (by rw [hc0]; rfl)) (.c (show (((↑k : Int) != (↑i : Int)) == true) = true from (by rw [hc0]; rfl)) (.c (show (((↑k : Int) != (↑i : Int)) == true) = true from (by rw [hc0]; rfl)) (.c hx (.c (show (((↑k : Int) != (↑i : Int)) == true) = true from (by rw [hc0]; rfl)) (.c (show (((↑k : Int) != (↑i : Int)) == true) = true from (by rw [hc0]; rfl)) (.c (show ae (bool ((↑k : Int) != (↑i : Int))) (bool (x != 2)) (bool false) (bool (x != 2)) from (af hc0 rfl)) (.c (show ((x != 2) == true) = true from (by rw [hc1]; rfl)) (.c (show ((x != 2) == true) = true from (by rw [hc1]; rfl)) (.c (show ((x != 2) == true) = true from (by rw [hc1]; rfl)) (.c hb (.c (show ((x != 2) == true) = true from (by rw [hc1]; rfl)) (.c (show ((x != 2) == true) = true from (by rw [hc1]; rfl)) (.c (show ((x != 2) == true) = true from (by rw [hc1]; rfl)) (.c (show ((x != 2) == true) = true from (by rw [hc1]; rfl)) (.c (show ((x != 2) == true) = true from (by rw [hc1]; rfl)) (.c ha (.c (show ((x != 2) == true) = true from (by rw [hc1]; rfl)) (.c (show ((x != 2) == true) = true from (by rw [hc1]; rfl)) (.c (show ((x != 2) == true) = true from (by rw [hc1]; rfl)) (.c (show ae (bool (x != 2)) (bool (b.course == a.course)) (bool false) (bool (b.course == a.course)) from (af hc1 rfl)) (.c (show ((b.course == a.course) == true) = true from (by rw [hc2]; rfl)) (.c (show ((b.course == a.course) == true) = true from (by rw [hc2]; rfl)) (.c (show ((b.course == a.course) == true) = true from (by rw [hc2]; rfl)) (.c (show ((b.course == a.course) == true) = true from (by rw [hc2]; rfl)) (.c hx (.c (show ((b.course == a.course) == true) = true from (by rw [hc2]; rfl)) (.c (show ((b.course == a.course) == true) = true from (by rw [hc2]; rfl)) (.c (show ((b.course == a.course) == true) = true from (by rw [hc2]; rfl)) (.c (show ((b.course == a.course) == true) = true from (by rw [hc2]; rfl)) (.c (@nQ as_ b a x (↑k : Int) (↑i : Int) hb ha ([.vec v 0 5])) (.c (show ae (bool (b.course == a.course)) (bool (bet b a x (↑k : Int) (↑i : Int))) (bool false) (bool (bet b a x (↑k : Int) (↑i : Int))) from (af hc2 rfl)) (.c hc3 .n))))))))))))))))))))))))))))))))))) (by simp only []; first | done | rfl) (by simp only [outBy, hw, hc0, hc1, hc2, hc3, zU, zX, cond_false]; first | done | rfl)
    ·exact zt (zu (s' := { t := mkT 123 0 [(0, aa as_), (1, aa rp), (4, nq), (5, int 0), (9, .ref (.vec 0 0)), (10, int (↑i : Int)), (11, bool false), (12, int (zg zb ((↑k : Int) + 1)))], h := [.vec v 0 5], m := [] }) (e := zr) pok [.st (.mask [0, 1, 4, 5, 9, 10, 11, 12])] [.b true, .g true, .g true, .g true, .row [vi x], .g true, .g true, .ov 90 (bool (x != 2)), .g true, .g true, .g true, .row (za b), .g true, .g true, .g true, .g true, .g true, .row (za a), .g true, .g true, .g true, .ov 103 (bool (b.course == a.course)), .g true, .g true, .g true, .g true, .row [vi x], .g true, .g true, .g true, .g true, .val (bool (bet b a x (↑k : Int) (↑i : Int))), .ov 113 (bool (bet b a x (↑k : Int) (↑i : Int))), .b true] (by kernel_rfl) (.c hlt (.c (show (((↑k : Int) != (↑i : Int)) == true) = true from (by rw [hc0]; rfl)) (.c (show (((↑k : Int) != (↑i : Int)) == true) = true from (by rw [hc0]; rfl)) (.c (show (((↑k : Int) != (↑i : Int)) == true) = true from (by rw [hc0]; rfl)) (.c hx (.c (show (((↑k : Int) != (↑i : Int)) == true) = true from (by rw [hc0]; rfl)) (.c (show (((↑k : Int) != (↑i : Int)) == true) = true from (by rw [hc0]; rfl)) (.c (show ae (bool ((↑k : Int) != (↑i : Int))) (bool (x != 2)) (bool false) (bool (x != 2)) from (af hc0 rfl)) (.c (show ((x != 2) == true) = true from (by rw [hc1]; rfl)) (.c (show ((x != 2) == true) = true from (by rw [hc1]; rfl)) (.c (show ((x != 2) == true) = true from (by rw [hc1]; rfl)) (.c hb (.c (show ((x != 2) == true) = true from (by rw [hc1]; rfl)) (.c (show ((x != 2) == true) = true from (by rw [hc1]; rfl)) (.c (show ((x != 2) == true) = true from (by rw [hc1]; rfl)) (.c (show ((x != 2) == true) = true from (by rw [hc1]; rfl)) (.c (show ((x != 2) == true) = true from (by rw [hc1]; rfl)) (.c ha (.c (show ((x != 2) == true) = true from (by rw [hc1]; rfl)) (.c (show ((x != 2) == true) = true from (by rw [hc1]; rfl)) (.c (show ((x != 2) == true) = true from (by rw [hc1]; rfl)) (.c (show ae (bool (x != 2)) (bool (b.course == a.course)) (bool false) (bool (b.course == a.course)) from (af hc1 rfl)) (.c (show ((b.course == a.course) == true) = true from (by rw [hc2]; rfl)) (.c (show ((b.course == a.course) == true) = true from (by rw [hc2]; rfl)) (.c (show ((b.course == a.course) == true) = true from (by rw [hc2]; rfl)) (.c (show ((b.course == a.course) == true) = true from (by rw [hc2]; rfl)) (.c hx (.c (show ((b.course == a.course) == true) = true from (by rw [hc2]; rfl)) (.c (show ((b.course == a.course) == true) = true from (by rw [hc2]; rfl)) (.c (show ((b.course == a.course) == true) = true from (by rw [hc2]; rfl)) (.c (show ((b.course == a.course) == true) = true from (by rw [hc2]; rfl)) (.c (@nQ as_ b a x (↑k : Int) (↑i : Int) hb ha ([.vec v 0 5])) (.c (show ae (bool (b.course == a.course)) (bool (bet b a x (↑k : Int) (↑i : Int))) (bool false) (bool (bet b a x (↑k : Int) (↑i : Int))) from (af hc2 rfl)) (.c hc3 .n))))))))))))))))))))))))))))))))))) (by simp only []; first | done | rfl) (by simp only [outBy, hw, hc0, hc1, hc2, hc3, zX, cond_true]; first | done | rfl)
theorem yP {as_ rp : List (List Dp)} {v : List (List D)} {c : Bool} {i k : Nat} (hlt : decide ((k : Int) < (as_.length : Int)) = false) : (CW y6 Γ0 [] false (sub AZ 3) (kdS as_ rp v i c k) (.exit 6) (kdE as_ rp v i c)) := by
 exact zt (zu (s' := { t := mkT 123 0 [(0, aa as_), (1, aa rp), (4, nq), (5, int 0), (9, .ref (.vec 0 0)), (10, int (↑i : Int)), (11, bool c)], h := [.vec v 0 5], m := [] }) (e := zQ 6) pok [.st (.mask [0, 1, 4, 5, 9, 10, 11])] [.b false] (by kernel_rfl) (.c hlt .n)) (by rfl) (by rfl)
def kdG (a : AttT) (x : Int) (i : Nat) (c : Bool) (p : AttT × Nat) : Bool := bif outBy a p.1 x (p.2 : Int) (i : Int) then false else c
def stays (l : List AttT) (a : AttT) (x : Int) (i : Nat) : Bool := l.zipIdx.foldl (kdG a x i) true
theorem kd_cw {l : List AttT} {rp : List Int} (hl : ak l) {v : List (List D)} {i : Nat} {a : AttT} {x : Int} (ha : l[i]? = some a) (hx : rp[i]? = some x) :
  CW y6 Γ0 [] false (.loop (sub AZ 3)) (kdS (l.map za) (rp.map fun n => [vi n]) v (i : Int) true 0) (.exit 6) (kdE (l.map za) (rp.map fun n => [vi n]) v (i : Int) (stays l a x i)) := by
 have hlen2 : l.zipIdx.length = l.length := by simp
 have key := Cz (P := y6) (Γ := Γ0) (h0 := []) (rd := false) (c := sub AZ 3) (σ := Bool) (ρ := Empty) l.zipIdx (fun p c => .inl (kdG a x i c p))
  (fun k c => kdS (l.map za) (rp.map fun n => [vi n]) v (i : Int) c (k : Int)) (.exit 6) (fun c => kdE (l.map za) (rp.map fun n => [vi n]) v (i : Int) c) (fun r => r.elim) (fun _ _ => True) (by simp) (fun r => r.elim) ?_ ?_ true trivial
 ·rw [cy] at key
  exact key
 ·intro k p c hp _
  have hk := (zc.1 hp).1
  rw [hlen2] at hk
  rw [Bh] at hp
  obtain ⟨b, hb, rfl⟩ := ze.1 hp
  refine ⟨fun _ _ => trivial, ?_⟩
  have := yO (v := v) (c := c) (rowAt ha rfl) (rowAt hb rfl) (rowAt (row := fun n => [vi n]) hx rfl) (lt_len za hk) (wrap_succ hk hl)
  simp only [kdG, A6]
  exact this
 ·intro c _
  rw [hlen2]
  exact yP (bN za l)
end Go.Vi
