/- RecordOfSpecUpto: part of the proof: contracts of the functions that the law reaches, and the law. No conditions beyond the given statement's own. -/
import Derived.Test.YtilebidefogaiaaGreatDoorW4
open List renaming all_eq_true → CB, mem_map → CC, map → B6, all → Cx, length → Cb, length_map → DR, map_append → De, getElem?_eq_some_iff → Ce, foldl_cons → DG, length_cons → Di, length_nil → EE, foldl → D8, length_append → D6, mergeSort → He, filterMap_cons → HH, mem_cons → CP, getD → Cl, getElem?_eq_getElem → Cv, take → CY, drop → DU, all_append → GO
open Go.Vi.CourseT renaming row → Cp
open Go.Vi.SysT renaming row → CD
open Go.Vi.FactT renaming row → Ch
open Go.Proofs.Tryz renaming prog → B7, f60 → EX, f30 → Gv, f31 → F4, f127 → FG
open Go.Vi.Ev renaming castH → Cj, of_sym → EH, glob0 → CZ, frameX → Fs, sym0 → Cn
open Go.Vi.D renaming p → Ei, tup → DC, one → Fa, agg → Db, mapRL → C6
open Bool renaming true_and → CN, and_eq_true → Cd, eq_iff_iff → Eu
open Go.Value renaming oneCell' → CX
open Go.IntKind renaming i64 → B8, wrap → Cc
open Go.Vi.Blk renaming inn → Cz
open Go.Vi.WorldT renaming l → Dy
open Go.Vi.RuleT renaming fl → B9
open Go.Vi.PtT renaming row → Dn
open Go.Vi.AttT renaming row → Ci
open Int renaming tmod → Fp, tdiv → Fq, toNat → Cf
open Go.Vi.CW renaming cast → Ct, symX → Cu, each → Eo
open Go.Exit renaming normal → Cq, exit → CE, ret → Dv
open Nat renaming le_trans → DJ, mul_le_mul_right → Fl
open Prod renaming fst → Ht
open Go Go.Proofs
namespace Go.Vi
set_option maxRecDepth 100000
set_option maxHeartbeats 4000000
structure ReadT where
 kind : Int
 sub : Int
 obj : Int
 frm : Int
 til : Int
 deriving Inhabited, DecidableEq
def ReadT.row (r : ReadT) : List Dp := [vi r.kind, vi r.sub, vi r.obj, vi r.frm, vi r.til]
abbrev rdR (l : List ReadT) : List (List Dp) := l.map ReadT.row
theorem tT (l : List ReadT) : (ao (rdR l)).all (aO 5) = true := by
 rw [CB]
 intro r hr
 obtain ⟨x, hx, rfl⟩ := CC.1 hr
 obtain ⟨y, _, rfl⟩ := CC.1 hx
 rfl
theorem eT (l m : List ReadT) : ao (rdR l) ++ ao (rdR m) = ao (rdR (l ++ m)) := by simp [ao]
abbrev lkH (w : WorldT) (known : Int) (rs : List ReadT) (e : Nat) : List Blk := [.var [.ref (.vec 1 e), ab (w.c.map Cp), ab w.p, ab (w.s.map CD), ab (w.f.map Ch), int known], .vec (ao (rdR rs)) e 5]
theorem yC {w : WorldT} {known : Int} {rs qs : List ReadT} (hb : rs.length + qs.length ≤ 1000000000) : (Ev B7 Γk 119 [.ref (.ptr 0 0), ab (rdR qs)] (lkH w known rs 0) (.tup []) (lkH w known (rs ++ qs) 1)) := by
 refine Cj (EH (h' := [.var [.ref (.vec 1 1), ab (B6 Cp w.c), ab w.p, ab (B6 CD w.s), ab (B6 Ch w.f), int known], .vec (ao (rdR rs) ++ B6 (fun x => B6 Ei x) (rdR qs)) 1 5]) (d := DC []) pok [] (by kernel_rfl) (.c (show (Cx (B6 (fun x => B6 Ei x) (rdR qs)) (aO 5) && roomOk (Cb (ao (rdR rs)) + Cb (B6 (fun x => B6 Ei x) (rdR qs))) 40) = true from (by first | assumption | rfl | omega | (simp only [tT, roomOk, CN, Cd, decide_eq_true_eq, DR]; omega))) .n)) ?_ ?_ <;> (first | rfl | (simp only [lkH, rdR, ao, De]; rfl) | (simp only [lkH, rdR, ao, De]; done))
theorem pA {w : WorldT} {known : Int} {rs : List ReadT} {q : ReadT} (hb : rs.length ≤ 999999999) : (Ev B7 Γk 119 [.ref (.ptr 0 0), .ref (.vec 2 0)] (lkH w known rs 0 ++ [.vec [[int q.kind, int q.sub, int q.obj, int q.frm, int q.til]] 0 5]) (.tup []) (lkH w known (rs ++ [q]) 1 ++ [.vec [[int q.kind, int q.sub, int q.obj, int q.frm, int q.til]] 0 5])) := by
 let v0 : List D := [int q.kind, int q.sub, int q.obj, int q.frm, int q.til]
 refine Cj (EH (h' := [.var [.ref (.vec 1 1), ab (B6 Cp w.c), ab w.p, ab (B6 CD w.s), ab (B6 Ch w.f), int known], .vec (ao (rdR rs) ++ [v0]) 1 5, .vec [v0] 0 5]) (d := DC []) pok [] (by kernel_rfl) (.c (show (Cx [v0] (aO 5) && roomOk (Cb (ao (rdR rs)) + Cb [v0]) 40) = true from (by subst v0; first | assumption | rfl | omega | (simp [aO, Fa, CX, roomOk]; omega))) .n)) ?_ ?_ <;> subst v0 <;> (first | rfl | (simp only [lkH, rdR, ao, De]; rfl) | (simp only [lkH, rdR, ao, De]; done))
def rdN : ReadT := ⟨12, 0, 0, 0, 1⟩
theorem qT {w : WorldT} (hw : w.ok) {known : Int} (h : List Blk) : Ev B7 Γk 34 [.agg w.l, int known] h (.tup [ab ((aj w.f known).map fun n => [vi n]), .ref (.vec h.length 0)]) (h ++ [.vec (ao (rdR [rdN])) 0 5]) :=
 CZ (qQ hw.lf hw.sf h)
def rdT (kk ks ko term : Int) : List ReadT := match outB term with
 | true => []
 | false => [⟨kk, ks, ko, term, B8.wrap (term + 1)⟩]
theorem wu (kk ks ko term : Int) : gT kk ks ko term = rdR (rdT kk ks ko term) := by
 unfold gT rdT
 cases outB term <;> rfl
theorem rdT_len (kk ks ko term : Int) : (rdT kk ks ko term).length ≤ 1 := by unfold rdT; cases outB term <;> simp
theorem iP {w : WorldT} (hw : w.ok) {n term known : Int} (h : List Blk) : Ev B7 Γk 161 [.agg w.l, int n, int term, int known] h (.tup [ag (ac w n term known).1.row, ab (rdR (rdT 1 n 0 term)), bool (ac w n term known).2]) h := by
 rw [← wu]; exact tJ hw h
noncomputable abbrev kI (w : WorldT) (known : Int) (rs : List ReadT) : List Blk := [.var [.ref (.vec 1 1), ab (B6 Cp w.c), ab w.p, ab (B6 CD w.s), ab (B6 Ch w.f), int known], .vec (ao (rdR (rs ++ [rdN]))) 1 5, .vec [[int rdN.kind, int rdN.sub, int rdN.obj, int rdN.frm, int rdN.til]] 0 5]
noncomputable abbrev qU (w : WorldT) (known : Int) (rs : List ReadT) : List Blk := [.var [.ref (.vec 1 0), ab (B6 Cp w.c), ab w.p, ab (B6 CD w.s), ab (B6 Ch w.f), int known], .vec (ao (rdR rs)) 0 5, .vec [[int rdN.kind, int rdN.sub, int rdN.obj, int rdN.frm, int rdN.til]] 0 5]
noncomputable abbrev qV (w : WorldT) (known : Int) (rs : List ReadT) : List Blk := [.var [.ref (.vec 1 0), ab (B6 Cp w.c), ab w.p, ab (B6 CD w.s), ab (B6 Ch w.f), int known], .vec (ao (rdR rs)) 0 5]
theorem yD {w : WorldT} (hw : w.ok) {known : Int} {rs : List ReadT} (hb : rs.length ≤ 999999000) : (Ev B7 Γk 62 [.ref (.ptr 0 0)] (lkH w known rs 0) (ab ((aj w.f known).map fun n => [vi n])) (lkH w known (rs ++ [rdN]) 1)) := by
 let v0 : List D := [.ref (.vec 1 1), ab (B6 Cp w.c), ab w.p, ab (B6 CD w.s), ab (B6 Ch w.f), int known]
 refine Cj (Ev.post (d2 := ab (B6 (fun n => [vi n]) (aj w.f known))) (h2 := [.var v0, .vec (ao (rdR (rs ++ [rdN]))) 1 5]) (φ := [Cz 2 (.var v0) = true, Cz 2 (.vec (ao (rdR (rs ++ [rdN]))) 1 5) = true]) [.st (.trimV 2)] (EH (h' := (kI w known rs)) (d := ab (B6 (fun n => [vi n]) (aj w.f known))) pok [.call (DC [ab (B6 (fun n => [vi n]) (aj w.f known)), .ref (.vec 2 0)]) (qU w known rs), .call (DC []) (kI w known rs)] (by kernel_rfl) (.c (@qT w hw known (qV w known rs)) (.e (.ref (.ptr 0 0)) (.e (.ref (.ptr 0 1)) (.e (Db (Dy w)) (.e (.ref (.ptr 0 0)) (.e (.ref (.ptr 0 5)) (.e (int known) (.c (@pA w known rs rdN ?_) .n))))))))) (by kernel_rfl) ⟨rfl, ?_, trivial⟩) (by subst v0; first | rfl | (simp only [lkH, rdR, ao, De]; rfl) | (simp only [lkH, rdR, ao, De]; done)) (by subst v0; first | rfl | (simp only [lkH, rdR, ao, De]; rfl) | (simp only [lkH, rdR, ao, De]; done)) <;> subst v0 <;> (first | assumption | rfl | omega | exact aR _ _ | exact aq | (simp; omega) | (simp only [tT, roomOk, CN, Cd, decide_eq_true_eq, DR]; omega))
noncomputable abbrev lp (w : WorldT) (known : Int) (rs : List ReadT) : List Blk := [.var [.ref (.vec 1 0), ab (B6 Cp w.c), ab w.p, ab (B6 CD w.s), ab (B6 Ch w.f), int known], .vec (ao (rdR rs)) 0 5, .var [al { data := #[] }, int 0, int 0, int 0, int 0, int 0, al { data := #[] }, int 0, int 0, nq, int 0, int 0, al { data := #[] }, int 0, int 0, nq], .var [al { data := #[] }, int 0, int 0, int 0, int 0, int 0, al { data := #[] }, int 0, int 0, nq, int 0, int 0, al { data := #[] }, int 0, int 0, nq]]
noncomputable abbrev cO (w : WorldT) (known : Int) (rs : List ReadT) : List Blk := [.var [.ref (.vec 1 0), ab (B6 Cp w.c), ab w.p, ab (B6 CD w.s), ab (B6 Ch w.f), int known], .vec (ao (rdR rs)) 0 5, .var [al { data := #[] }, int 0, int 0, int 0, int 0, int 0, al { data := #[] }, int 0, int 0, nq, int 0, int 0, al { data := #[] }, int 0, int 0, nq]]
noncomputable abbrev xC (w : WorldT) (known : Int) (n : Int) (term : Int) : List D := [Db [ab (B6 Cp w.c), ab w.p, ab (B6 CD w.s), ab (B6 Ch w.f)], int n, int term, int known]
theorem qW {w : WorldT} (hw : w.ok) {known n term : Int} {rs : List ReadT} (hb : rs.length ≤ 999999000) : (Ev B7 Γk 116 [.ref (.ptr 0 0), int n, int term] (lkH w known rs 0) (ag (ac w n term known).1.row) (lkH w known (rs ++ rdT 1 n 0 term) 1)) := by
 let v1 : List Blk := [.var [.ref (.vec 1 0), ab (B6 Cp w.c), ab w.p, ab (B6 CD w.s), ab (B6 Ch w.f), int known], .vec (ao (rdR rs)) 0 5, .var [al { data := #[] }, int 0, int 0, int 0, int 0, int 0, al { data := #[] }, int 0, int 0, nq, int 0, int 0, al { data := #[] }, int 0, int 0, nq], .var [al (ac w n term known).fst.name, int (ac w n term known).fst.number, int (ac w n term known).fst.credits, int (ac w n term known).fst.rep, int (B9 (ac w n term known).fst.need).op, int (B9 (ac w n term known).fst.need).c, al (B9 (ac w n term known).fst.need).nm, int (B9 (ac w n term known).fst.need).n, int (B9 (ac w n term known).fst.need).d, ab (B9 (ac w n term known).fst.need).ks, int (B9 (ac w n term known).fst.bar).op, int (B9 (ac w n term known).fst.bar).c, al (B9 (ac w n term known).fst.bar).nm, int (B9 (ac w n term known).fst.bar).n, int (B9 (ac w n term known).fst.bar).d, ab (B9 (ac w n term known).fst.bar).ks]]
 let v2 : List D := [.ref (.vec 1 1), ab (B6 Cp w.c), ab w.p, ab (B6 CD w.s), ab (B6 Ch w.f), int known]
 let v0 : List Blk := [.var v2, .vec (ao (rdR (rs ++ rdT 1 n 0 term))) 1 5, .var [al { data := #[] }, int 0, int 0, int 0, int 0, int 0, al { data := #[] }, int 0, int 0, nq, int 0, int 0, al { data := #[] }, int 0, int 0, nq], .var [al (ac w n term known).fst.name, int (ac w n term known).fst.number, int (ac w n term known).fst.credits, int (ac w n term known).fst.rep, int (B9 (ac w n term known).fst.need).op, int (B9 (ac w n term known).fst.need).c, al (B9 (ac w n term known).fst.need).nm, int (B9 (ac w n term known).fst.need).n, int (B9 (ac w n term known).fst.need).d, ab (B9 (ac w n term known).fst.need).ks, int (B9 (ac w n term known).fst.bar).op, int (B9 (ac w n term known).fst.bar).c, al (B9 (ac w n term known).fst.bar).nm, int (B9 (ac w n term known).fst.bar).n, int (B9 (ac w n term known).fst.bar).d, ab (B9 (ac w n term known).fst.bar).ks]]
 refine Cj (Ev.post (d2 := Db [al (ac w n term known).fst.name, int (ac w n term known).fst.number, int (ac w n term known).fst.credits, int (ac w n term known).fst.rep, int (B9 (ac w n term known).fst.need).op, int (B9 (ac w n term known).fst.need).c, al (B9 (ac w n term known).fst.need).nm, int (B9 (ac w n term known).fst.need).n, int (B9 (ac w n term known).fst.need).d, ab (B9 (ac w n term known).fst.need).ks, int (B9 (ac w n term known).fst.bar).op, int (B9 (ac w n term known).fst.bar).c, al (B9 (ac w n term known).fst.bar).nm, int (B9 (ac w n term known).fst.bar).n, int (B9 (ac w n term known).fst.bar).d, ab (B9 (ac w n term known).fst.bar).ks]) (h2 := [.var v2, .vec (ao (rdR (rs ++ rdT 1 n 0 term))) 1 5]) (φ := [Cz 2 (.var v2) = true, Cz 2 (.vec (ao (rdR (rs ++ rdT 1 n 0 term))) 1 5) = true]) [.st (.trimV 2)] (EH (h' := [.var v2, .vec (ao (rdR (rs ++ rdT 1 n 0 term))) 1 5, .var [al (ac w n term known).fst.name, int (ac w n term known).fst.number, int (ac w n term known).fst.credits, int (ac w n term known).fst.rep, int (B9 (ac w n term known).fst.need).op, int (B9 (ac w n term known).fst.need).c, al (B9 (ac w n term known).fst.need).nm, int (B9 (ac w n term known).fst.need).n, int (B9 (ac w n term known).fst.need).d, ab (B9 (ac w n term known).fst.need).ks, int (B9 (ac w n term known).fst.bar).op, int (B9 (ac w n term known).fst.bar).c, al (B9 (ac w n term known).fst.bar).nm, int (B9 (ac w n term known).fst.bar).n, int (B9 (ac w n term known).fst.bar).d, ab (B9 (ac w n term known).fst.bar).ks], .var [al (ac w n term known).fst.name, int (ac w n term known).fst.number, int (ac w n term known).fst.credits, int (ac w n term known).fst.rep, int (B9 (ac w n term known).fst.need).op, int (B9 (ac w n term known).fst.need).c, al (B9 (ac w n term known).fst.need).nm, int (B9 (ac w n term known).fst.need).n, int (B9 (ac w n term known).fst.need).d, ab (B9 (ac w n term known).fst.need).ks, int (B9 (ac w n term known).fst.bar).op, int (B9 (ac w n term known).fst.bar).c, al (B9 (ac w n term known).fst.bar).nm, int (B9 (ac w n term known).fst.bar).n, int (B9 (ac w n term known).fst.bar).d, ab (B9 (ac w n term known).fst.bar).ks]]) (d := Db [al (ac w n term known).fst.name, int (ac w n term known).fst.number, int (ac w n term known).fst.credits, int (ac w n term known).fst.rep, int (B9 (ac w n term known).fst.need).op, int (B9 (ac w n term known).fst.need).c, al (B9 (ac w n term known).fst.need).nm, int (B9 (ac w n term known).fst.need).n, int (B9 (ac w n term known).fst.need).d, ab (B9 (ac w n term known).fst.need).ks, int (B9 (ac w n term known).fst.bar).op, int (B9 (ac w n term known).fst.bar).c, al (B9 (ac w n term known).fst.bar).nm, int (B9 (ac w n term known).fst.bar).n, int (B9 (ac w n term known).fst.bar).d, ab (B9 (ac w n term known).fst.bar).ks]) pok [.val (DC [Db [al (ac w n term known).fst.name, int (ac w n term known).fst.number, int (ac w n term known).fst.credits, int (ac w n term known).fst.rep, int (B9 (ac w n term known).fst.need).op, int (B9 (ac w n term known).fst.need).c, al (B9 (ac w n term known).fst.need).nm, int (B9 (ac w n term known).fst.need).n, int (B9 (ac w n term known).fst.need).d, ab (B9 (ac w n term known).fst.need).ks, int (B9 (ac w n term known).fst.bar).op, int (B9 (ac w n term known).fst.bar).c, al (B9 (ac w n term known).fst.bar).nm, int (B9 (ac w n term known).fst.bar).n, int (B9 (ac w n term known).fst.bar).d, ab (B9 (ac w n term known).fst.bar).ks], ab (rdR (rdT 1 n 0 term)), bool (ac w n term known).snd]), .call (DC []) v0] (by kernel_rfl) (.c (@iP w hw n term known (cO w known rs)) (.e (.ref (.ptr 0 0)) (.e (.ref (.ptr 0 0)) (.e (.ref (.ptr 0 1)) (.e (.ref (.ptr 0 1)) (.e (Db (Dy w)) (.e (Db (Dy w)) (.e (.ref (.ptr 0 0)) (.e (.ref (.ptr 0 0)) (.e (.ref (.ptr 0 5)) (.e (.ref (.ptr 0 5)) (.e (int known) (.e (int known) (.c (show (cO w known rs) = (cO w known rs) from rfl) (.c (@iP w hw n term known (cO w known rs)) (.c (@iP w hw n term known (lp w known rs)) (.c (show Ev B7 Γk 119 [.ref (.ptr 0 0), ab (rdR (rdT 1 n 0 term))] v1 (DC []) v0 from (Cj (Fs (args := [.ref (.ptr 0 0), ab (rdR (rdT 1 n 0 term))]) (H := v1) [0, 1] (@yC w known rs (rdT 1 n 0 term) (by subst v1 v2 v0; first | assumption | rfl | omega | exact aR _ _ | exact aq | (have := rdT_len 1 n 0 term; omega) | (simp; omega))) (by kernel_rfl) (by kernel_rfl) (by kernel_rfl) ⟨?_, trivial⟩ ⟨?_, trivial⟩) (by kernel_rfl) (by kernel_rfl))) .n)))))))))))))))))) (by kernel_rfl) ⟨rfl, (by subst v1 v2 v0; first | assumption | rfl | omega | exact aR _ _ | exact aq | (have := rdT_len 1 n 0 term; omega) | (simp; omega)), trivial⟩) (by subst v1 v2 v0; first | rfl | (simp only [lkH, rdR, ao, De]; rfl) | (simp only [lkH, rdR, ao, De]; done)) (by subst v1 v2 v0; first | rfl | (simp only [lkH, rdR, ao, De]; rfl) | (simp only [lkH, rdR, ao, De]; done)) <;> subst v1 v2 v0 <;> (first | rfl | exact bm _ _ | first | assumption | rfl | omega | exact aR _ _ | exact aq | (have := rdT_len 1 n 0 term; omega) | (simp; omega))
noncomputable abbrev cP (w : WorldT) (known : Int) (st : Int) (n : Int) (term : Int) (rs : List ReadT) : List Blk := [.var [.ref (.vec 1 1), ab (B6 Cp w.c), ab w.p, ab (B6 CD w.s), ab (B6 Ch w.f), int known], .vec (ao (rdR (rs ++ [{ kind := 5, sub := st, obj := n, frm := 0, til := term }]))) 1 5, .var [int 5, int st, int n], .vec [[int 5, int st, int n, int 0, int term]] 0 5]
theorem qX {w : WorldT} (hw : w.ok) {known st n term : Int} {rs : List ReadT} (hb : rs.length ≤ 999999000) : (Ev B7 Γk 115 [.ref (.ptr 0 0), int st, int n, int term] (lkH w known rs 0) (ab ((bg 5 st n 0 term known w.f).map Dn)) (lkH w known (rs ++ [⟨5, st, n, 0, term⟩]) 1)) := by
 let v0 : List Blk := [.var [.ref (.vec 1 0), ab (B6 Cp w.c), ab w.p, ab (B6 CD w.s), ab (B6 Ch w.f), int known], .vec (ao (rdR rs)) 0 5, .var [int 5, int st, int n], .vec [[int 5, int st, int n, int 0, int term]] 0 5]
 let v1 : List D := [.ref (.vec 1 1), ab (B6 Cp w.c), ab w.p, ab (B6 CD w.s), ab (B6 Ch w.f), int known]
 let v2 := B6 Dn (bg 5 st n 0 term known w.f)
 refine Cj (Ev.post (d2 := ab v2) (h2 := [.var v1, .vec (ao (rdR (rs ++ [{ kind := 5, sub := st, obj := n, frm := 0, til := term }]))) 1 5]) (φ := [Cz 2 (.var v1) = true, Cz 2 (.vec (ao (rdR (rs ++ [{ kind := 5, sub := st, obj := n, frm := 0, til := term }]))) 1 5) = true]) [.st (.trimV 2)] (EH (h' := (cP w known st n term rs)) (d := ab v2) pok [.call (DC []) (cP w known st n term rs), .val (ab v2)] (by kernel_rfl) (.c (show Ev B7 Γk 119 [.ref (.ptr 0 0), .ref (.vec 3 0)] v0 (DC []) (cP w known st n term rs) from (Cj (Fs (args := [.ref (.ptr 0 0), .ref (.vec 3 0)]) (H := v0) [0, 1, 3] (@pA w known rs ({ kind := 5, sub := st, obj := n, frm := 0, til := term }) (by subst v0 v1 v2; first | assumption | rfl | omega | exact aR _ _ | exact aq | exact hw.sf | (simp; omega) | (simp [aO, Fa, CX, roomOk]; omega))) (by kernel_rfl) (by kernel_rfl) (by kernel_rfl) ⟨?_, ?_, trivial⟩ ⟨?_, ?_, trivial⟩) (by kernel_rfl) (by kernel_rfl))) (.e (.ref (.ptr 0 0)) (.e (.ref (.ptr 0 0)) (.e (.ref (.ptr 0 0)) (.e (.ref (.ptr 0 0)) (.e (Db [int 5, int st, int n]) (.c (CZ (Γ' := Γk) (@ws 5 st n 0 term known (w.f) (by subst v0 v1 v2; first | assumption | rfl | omega | exact aR _ _ | exact aq | exact hw.sf | (simp; omega) | (simp [aO, Fa, CX, roomOk]; omega)) (cP w known st n term rs))) .n)))))))) (by kernel_rfl) ⟨rfl, (by subst v0 v1 v2; first | assumption | rfl | omega | exact aR _ _ | exact aq | exact hw.sf | (simp; omega) | (simp [aO, Fa, CX, roomOk]; omega)), trivial⟩) (by subst v0 v1 v2; first | rfl | (simp only [lkH, rdR, ao, De]; rfl) | (simp only [lkH, rdR, ao, De]; done)) (by subst v0 v1 v2; first | rfl | (simp only [lkH, rdR, ao, De]; rfl) | (simp only [lkH, rdR, ao, De]; done)) <;> subst v0 v1 v2 <;> (first | rfl | exact bm _ _ | first | assumption | rfl | omega | exact aR _ _ | exact aq | exact hw.sf | (simp; omega) | (simp [aO, Fa, CX, roomOk]; omega))
end Go.Vi
open Go Go.Proofs
namespace Go.Vi
set_option maxRecDepth 100000
set_option maxHeartbeats 4000000
theorem qY {h : List Blk} {b e : Nat} {l : List AttT} (hb : h[b]? = some (.vec (ao (l.map Ci)) e 5)) (hl : l.length < 4611686018427387904) (hT : ∀ x ∈ l, ∀ y ∈ l, x.term = y.term → x.course = y.course → x = y) :
  Ev B7 Γ0 117 [.ref (.vec b e), .p (.v (.func (.func 79) #[] #[]))] h (.tup []) (h.set b (.vec (ao ((l.mergeSort leA).map Ci)) e 5)) := by
 have e1 : ∀ l : List AttT, ao (l.map Ci) = Bt l := fun l => by simp [ao]
 rw [e1] at hb ⊢
 exact tS hb hl hT
abbrev ofH (w : WorldT) (known st : Int) (rs : List ReadT) (ats : List AttT) : List Blk := [.var [.ref (.vec 1 1), ab (w.c.map Cp), ab w.p, ab (w.s.map CD), ab (w.f.map Ch), int known], .vec (ao (rdR rs)) 1 5, .var [int st, .ref (.vec 3 0)], .vec (ao (ats.map Ci)) 0 5]
abbrev oiS (w : WorldT) (known st term : Int) (ns : List (List Dp)) (ni n : Int) (ps : List (List Dp)) (rs : List ReadT) (ats : List AttT) (j : Int) : AS :=
 { t := mkT 67 0 [(0, .ref (.ptr 0 0)), (1, int st), (2, int term), (6, .ref (.ptr 2 0)), (8, int n), (16, ab ns), (17, int ns.length), (18, int ni), (26, ab ps), (27, int ps.length), (28, int j)], h := ofH w known st rs ats, m := [] }
abbrev RA := List ReadT × List AttT
def attBad (p : PtT) : Bool := decide (Fp p.value 16 > 12) || decide (B8.wrap (Fq p.value 16) ≥ 7)
def ww (w : WorldT) (known n : Int) (p : PtT) : AttT := ⟨n, p.term, Fp p.value 16, B8.wrap (Fq p.value 16), (ac w n p.term known).1.credits⟩
def kJ (w : WorldT) (known n : Int) (s : RA) (p : PtT) : RA := bif attBad p then s else (s.1 ++ rdT 1 n 0 p.term, s.2 ++ [ww w known n p])
theorem bU (l : List AttT) (a b c d e : Int) : ao (l.map Ci) ++ [[int a, int b, int c, int d, int e]] = ao ((l ++ [AttT.mk a b c d e]).map Ci) := by simp [Ci]
theorem Bu {w : WorldT} (hw : w.ok) {known st term : Int} {ns : List (List Dp)} {ni n : Int} {ps : List (List Dp)} {rs0 rs : List ReadT} {ats : List AttT} {j : Nat} {p : PtT} (hr : aH (j : Int) ps p.row 2) (hlt : decide ((j : Int) < (ps.length : Int)) = true) (hwr : B8.wrap ((j : Int) + 1) = ((j + 1 : Nat) : Int)) (hb : rs.length ≤ 999998000) (ha : ats.length ≤ 999998000) : (CW B7 Γk (lkH w known rs0 0) false (sub EX 1) (oiS w known st term ns ni n ps rs ats j) .normal (oiS w known st term ns ni n ps (kJ w known n (rs, ats) p).1 (kJ w known n (rs, ats) p).2 ((j + 1 : Nat) : Int))) := by
 cases hc0 : decide (Fp p.value 16 > 12) || decide (Cc B8 (Fq p.value 16) ≥ 7)
 ·let v0 : List D := [int n, int p.term, int (Fp p.value 16), int (Cc B8 (Fq p.value 16)), int (ac w n p.term known).fst.credits]
  let v1 := Db [al (ac w n p.term known).fst.name, int (ac w n p.term known).fst.number, int (ac w n p.term known).fst.credits, int (ac w n p.term known).fst.rep, int (B9 (ac w n p.term known).fst.need).op, int (B9 (ac w n p.term known).fst.need).c, al (B9 (ac w n p.term known).fst.need).nm, int (B9 (ac w n p.term known).fst.need).n, int (B9 (ac w n p.term known).fst.need).d, ab (B9 (ac w n p.term known).fst.need).ks, int (B9 (ac w n p.term known).fst.bar).op, int (B9 (ac w n p.term known).fst.bar).c, al (B9 (ac w n p.term known).fst.bar).nm, int (B9 (ac w n p.term known).fst.bar).n, int (B9 (ac w n p.term known).fst.bar).d, ab (B9 (ac w n p.term known).fst.bar).ks]
  let v3 : List D := [.ref (.vec 1 1), ab (B6 Cp w.c), ab w.p, ab (B6 CD w.s), ab (B6 Ch w.f), int known]
  let v4 : List D := [.ref (.vec 1 2), ab (B6 Cp w.c), ab w.p, ab (B6 CD w.s), ab (B6 Ch w.f), int known]
  let v2 : List Blk := [.var v4, .vec (ao (rdR (rs ++ rdT 1 n 0 p.term))) 2 5, .var [int st, .ref (.vec 3 0)], .vec (ao (B6 Ci ats)) 0 5, .var [int p.term, int p.value]]
  let v5 : List Blk := [.var v3, .vec (ao (rdR rs)) 1 5, .var [int st, .ref (.vec 3 0)], .vec (ao (B6 Ci ats)) 0 5, .var [int p.term, int p.value]]
  refine Ct (Cu (s' := { t := mkT 67 0 [(0, .ref (.ptr 0 0)), (1, int st), (2, int term), (6, .ref (.ptr 2 0)), (8, int n), (16, ab ns), (17, int (↑(Cb ns) : Int)), (18, int ni), (26, ab ps), (27, int (↑(Cb ps) : Int)), (28, int (Cc B8 ((↑j : Int) + 1)))], h := [.var v3, .vec (ao (rdR (rs ++ rdT 1 n 0 p.term))) 1 5, .var [int st, .ref (.vec 3 0)], .vec (ao (B6 Ci ats) ++ [v0]) 0 5], m := [] }) (e := Cq) pok [.st (.mask [0, 1, 2, 6, 8, 16, 17, 18, 26, 27, 28]), .st (.ren 1 1), .st (.ren 3 0), .st (.trimV 4)] [.b true, .row [vi p.term, vi p.value], .b false, .call v1 v2] (by kernel_rfl) (.c hlt (.c hr (.c (show (!decide (16 = 0)) = true from rfl) (.c (show (!decide (16 = 0)) = true from rfl) (.c hc0 (.c (show Ev B7 Γk 116 [.ref (.ptr 0 0), int n, int p.term] v5 v1 v2 from (Cj (Fs (args := [.ref (.ptr 0 0), int n, int p.term]) (H := v5) [0, 1] (Ev.upX [0, 1] (@qW w hw known n (p.term) rs ?_) (by kernel_rfl) ⟨(by subst v0 v1 v3 v4 v2 v5; first | rfl | exact bm _ _ | first | assumption | rfl | omega | exact au _ _ | exact aq | (rw [bU]; exact au _ _) | (rw [bU]; exact aq) | (simp [aO, Fa, CX, roomOk]; omega)), trivial⟩ ⟨(by subst v0 v1 v3 v4 v2 v5; first | rfl | exact bm _ _ | first | assumption | rfl | omega | exact au _ _ | exact aq | (rw [bU]; exact au _ _) | (rw [bU]; exact aq) | (simp [aO, Fa, CX, roomOk]; omega)), trivial⟩) (by kernel_rfl) (by kernel_rfl) (by kernel_rfl) ⟨(by subst v0 v1 v3 v4 v2 v5; first | rfl | exact bm _ _ | first | assumption | rfl | omega | exact au _ _ | exact aq | (rw [bU]; exact au _ _) | (rw [bU]; exact aq) | (simp [aO, Fa, CX, roomOk]; omega)), trivial⟩ ⟨(by subst v0 v1 v3 v4 v2 v5; first | rfl | exact bm _ _ | first | assumption | rfl | omega | exact au _ _ | exact aq | (rw [bU]; exact au _ _) | (rw [bU]; exact aq) | (simp [aO, Fa, CX, roomOk]; omega)), trivial⟩) (by kernel_rfl) (by kernel_rfl))) (.c (show (Cx [v0] (aO 5) && roomOk (Cb (ao (B6 Ci ats)) + Cb [v0]) 40) = true from ?_) (.e (.ref (.ptr 2 1)) (.e (.ref (.ptr 2 1)) (.e (.ref (.ptr 2 1)) (.e (.ref (.vec 3 0)) (.e (.ref (.vec 3 0)) (.e (.ref (.vec 3 0)) (.e (.ref (.ptr 4 0)) (.e (.ref (.ptr 4 0)) (.e (int p.term) (.e (int p.term) (.e (.ref (.ptr 4 0)) (.e (int p.term) (.e (.ref (.ptr 2 1)) (.c (show B6 (C6 (aS 1 2 1)) (ao (rdR (rs ++ rdT 1 n 0 p.term))) = ao (rdR (rs ++ rdT 1 n 0 p.term)) from ?_) (.c (show B6 (C6 (aS 1 2 1)) (ao (B6 Ci ats) ++ [v0]) = ao (B6 Ci ats) ++ [v0] from ?_) (.c (show [v0] = [v0] from rfl) (.c (show B6 (C6 (aS 3 1 0)) (ao (B6 Ci ats) ++ [v0]) = ao (B6 Ci ats) ++ [v0] from ?_) (.c (show B6 (C6 (aS 3 1 0)) (ao (rdR (rs ++ rdT 1 n 0 p.term))) = ao (rdR (rs ++ rdT 1 n 0 p.term)) from ?_) (.c (show [v0] = [v0] from rfl) (.c (show Cz 4 (match 0 == 3 with | true => .vec (ao (B6 Ci ats) ++ [v0]) 0 5 | false => keepX (aS 3 1 0) (match 0 == 1 with | true => .vec (ao (rdR (rs ++ rdT 1 n 0 p.term))) 1 5 | false => keepX (aS 1 2 1) (.var v4))) = true from rfl) (.c (show Cz 4 (match 0 + 1 == 3 with | true => .vec (ao (B6 Ci ats) ++ [v0]) 0 5 | false => keepX (aS 3 1 0) (match 0 + 1 == 1 with | true => .vec (ao (rdR (rs ++ rdT 1 n 0 p.term))) 1 5 | false => keepX (aS 1 2 1) (.vec (ao (rdR (rs ++ rdT 1 n 0 p.term))) 2 5))) = true from ?_) (.c (show Cz 4 (match 0 + 1 + 1 == 3 with | true => .vec (ao (B6 Ci ats) ++ [v0]) 0 5 | false => keepX (aS 3 1 0) (match 0 + 1 + 1 == 1 with | true => .vec (ao (rdR (rs ++ rdT 1 n 0 p.term))) 1 5 | false => keepX (aS 1 2 1) (.var [int st, .ref (.vec 3 1)]))) = true from rfl) (.c (show Cz 4 (match 0 + 1 + 1 + 1 == 3 with | true => .vec (ao (B6 Ci ats) ++ [v0]) 0 5 | false => keepX (aS 3 1 0) (match 0 + 1 + 1 + 1 == 1 with | true => .vec (ao (rdR (rs ++ rdT 1 n 0 p.term))) 1 5 | false => keepX (aS 1 2 1) (.vec (ao (B6 Ci ats) ++ [v0]) 1 5))) = true from ?_) .n))))))))))))))))))))))))))))))) (by subst v0 v1 v3 v4 v2 v5; first | rfl | (have hh : attBad p = true := hc0; simp only [hwr, kJ, hh, cond_true]; first | done | rfl) | (have hh : attBad p = false := hc0; simp only [hwr, kJ, hh, cond_false, bU]; first | done | rfl)) (by subst v0 v1 v3 v4 v2 v5; first | rfl | (have hh : attBad p = true := hc0; simp only [hwr, kJ, hh, cond_true]; first | done | rfl) | (have hh : attBad p = false := hc0; simp only [hwr, kJ, hh, cond_false, bU]; first | done | rfl)) <;> subst v0 v1 v3 v4 v2 v5 <;> (first | assumption | rfl | omega | exact au _ _ | exact aq | (rw [bU]; exact au _ _) | (rw [bU]; exact aq) | (simp [aO, Fa, CX, roomOk]; omega))
 ·let v0 : List D := [.ref (.vec 1 1), ab (B6 Cp w.c), ab w.p, ab (B6 CD w.s), ab (B6 Ch w.f), int known]
  refine Ct (Cu (s' := { t := mkT 67 0 [(0, .ref (.ptr 0 0)), (1, int st), (2, int term), (6, .ref (.ptr 2 0)), (8, int n), (16, ab ns), (17, int (↑(Cb ns) : Int)), (18, int ni), (26, ab ps), (27, int (↑(Cb ps) : Int)), (28, int (Cc B8 ((↑j : Int) + 1)))], h := [.var v0, .vec (ao (rdR rs)) 1 5, .var [int st, .ref (.vec 3 0)], .vec (ao (B6 Ci ats)) 0 5], m := [] }) (e := Cq) pok [.st (.mask [0, 1, 2, 6, 8, 16, 17, 18, 26, 27, 28]), .st (.ren 1 1), .st (.ren 3 0), .st (.trimV 4)] [.b true, .row [vi p.term, vi p.value], .b true] (by kernel_rfl) (.c hlt (.c hr (.c (show (!decide (16 = 0)) = true from rfl) (.c (show (!decide (16 = 0)) = true from rfl) (.c hc0 (.c (show B6 (C6 (aS 1 1 1)) (ao (rdR rs)) = ao (rdR rs) from ?_) (.c (show B6 (C6 (aS 1 1 1)) (ao (B6 Ci ats)) = ao (B6 Ci ats) from ?_) (.c (show B6 (C6 (aS 3 0 0)) (ao (B6 Ci ats)) = ao (B6 Ci ats) from ?_) (.c (show B6 (C6 (aS 3 0 0)) (ao (rdR rs)) = ao (rdR rs) from ?_) (.c (show Cz 4 (match 0 == 3 with | true => .vec (ao (B6 Ci ats)) 0 5 | false => keepX (aS 3 0 0) (match 0 == 1 with | true => .vec (ao (rdR rs)) 1 5 | false => keepX (aS 1 1 1) (.var v0))) = true from rfl) (.c (show Cz 4 (match 0 + 1 == 3 with | true => .vec (ao (B6 Ci ats)) 0 5 | false => keepX (aS 3 0 0) (match 0 + 1 == 1 with | true => .vec (ao (rdR rs)) 1 5 | false => keepX (aS 1 1 1) (.vec (ao (rdR rs)) 1 5))) = true from ?_) (.c (show Cz 4 (match 0 + 1 + 1 == 3 with | true => .vec (ao (B6 Ci ats)) 0 5 | false => keepX (aS 3 0 0) (match 0 + 1 + 1 == 1 with | true => .vec (ao (rdR rs)) 1 5 | false => keepX (aS 1 1 1) (.var [int st, .ref (.vec 3 0)]))) = true from rfl) (.c (show Cz 4 (match 0 + 1 + 1 + 1 == 3 with | true => .vec (ao (B6 Ci ats)) 0 5 | false => keepX (aS 3 0 0) (match 0 + 1 + 1 + 1 == 1 with | true => .vec (ao (rdR rs)) 1 5 | false => keepX (aS 1 1 1) (.vec (ao (B6 Ci ats)) 0 5))) = true from ?_) .n)))))))))))))) (by subst v0; first | rfl | (have hh : attBad p = true := hc0; simp only [hwr, kJ, hh, cond_true]; first | done | rfl) | (have hh : attBad p = false := hc0; simp only [hwr, kJ, hh, cond_false, bU]; first | done | rfl)) (by subst v0; first | rfl | (have hh : attBad p = true := hc0; simp only [hwr, kJ, hh, cond_true]; first | done | rfl) | (have hh : attBad p = false := hc0; simp only [hwr, kJ, hh, cond_false, bU]; first | done | rfl)) <;> subst v0 <;> (first | assumption | rfl | omega | exact au _ _ | exact aq | (rw [bU]; exact au _ _) | (rw [bU]; exact aq) | (simp [aO, Fa, CX, roomOk]; omega))
theorem Bw {w : WorldT} {known st term : Int} {ns : List (List Dp)} {ni n : Int} {ps : List (List Dp)} {rs0 rs : List ReadT} {ats : List AttT} {j : Nat} (hlt : decide ((j : Int) < (ps.length : Int)) = false) : (CW B7 Γk (lkH w known rs0 0) false (sub EX 1) (oiS w known st term ns ni n ps rs ats j) (.exit 2) { t := mkT 67 0 [(0, .ref (.ptr 0 0)), (1, int st), (2, int term), (6, .ref (.ptr 2 0)), (16, ab ns), (17, int ns.length), (18, int ni)], h := ofH w known st rs ats, m := [] }) := by
 exact Ct (Cu (s' := { t := mkT 67 0 [(0, .ref (.ptr 0 0)), (1, int st), (2, int term), (6, .ref (.ptr 2 0)), (16, ab ns), (17, int (↑(Cb ns) : Int)), (18, int ni)], h := [.var [.ref (.vec 1 1), ab (B6 Cp w.c), ab w.p, ab (B6 CD w.s), ab (B6 Ch w.f), int known], .vec (ao (rdR rs)) 1 5, .var [int st, .ref (.vec 3 0)], .vec (ao (B6 Ci ats)) 0 5], m := [] }) (e := CE 2) pok [.st (.mask [0, 1, 2, 6, 16, 17, 18])] [.b false] (by kernel_rfl) (.c hlt .n)) (by rfl) (by rfl)
theorem sO {w : WorldT} {known n : Int} {s : RA} (p : PtT) : (kJ w known n s p).1.length ≤ s.1.length + 1 ∧ (kJ w known n s p).2.length ≤ s.2.length + 1 := by
 unfold kJ
 cases attBad p
 ·have := rdT_len 1 n 0 p.term
  simp; omega
 ·simp
theorem oi_cw {w : WorldT} (hw : w.ok) {known st term : Int} {ns : List (List Dp)} {ni n : Int} {ps : List PtT} (hp : ps.length ≤ 2000) {rs0 rs : List ReadT} {ats : List AttT} (hb : rs.length ≤ 999990000) (ha : ats.length ≤ 999990000) :
  CW B7 Γk (lkH w known rs0 0) false (.loop (sub EX 1)) (oiS w known st term ns ni n (ps.map Dn) rs ats 0) (.exit 2) { t := mkT 67 0 [(0, .ref (.ptr 0 0)), (1, int st), (2, int term), (6, .ref (.ptr 2 0)), (16, ab ns), (17, int ns.length), (18, int ni)], h := ofH w known st (ps.foldl (kJ w known n) (rs, ats)).1 (ps.foldl (kJ w known n) (rs, ats)).2, m := [] } := by
 have hl : am ps := by unfold am; omega
 have := Eo (P := B7) (Γ := Γk) (h0 := lkH w known rs0 0) (rd := false) (c := sub EX 1) (σ := RA) (ρ := Empty) ps (fun p s => .inl (kJ w known n s p))
  (fun j s => oiS w known st term ns ni n (ps.map Dn) s.1 s.2 (j : Int)) (.exit 2) (fun s => { t := mkT 67 0 [(0, .ref (.ptr 0 0)), (1, int st), (2, int term), (6, .ref (.ptr 2 0)), (16, ab ns), (17, int ns.length), (18, int ni)], h := ofH w known st s.1 s.2, m := [] }) (fun r => r.elim)
  (fun j s => s.1.length ≤ rs.length + j ∧ s.2.length ≤ ats.length + j) (by simp) (fun r => r.elim) ?_ ?_ (rs, ats) (by simp)
 ·rw [bw] at this
  exact this
 ·intro j p s hpj hs
  have hi := (Ce.1 hpj).1
  refine ⟨fun s' h => by cases h; have := sO (w := w) (known := known) (n := n) (s := s) p; omega, Bu hw (rowAt hpj rfl) (lt_len _ hi) (wrap_succ hi hl) (by omega) (by omega)⟩
 ·intro s _
  exact Bw (bM _ ps)
theorem aX {kk ks ko frm to known : Int} {l : List FactT} : (bg kk ks ko frm to known l).length ≤ 1024 := by
 have key : ∀ (rs : List Int) (ns : List Nat) (l : List PtT), (ns.foldl (fun l n => ptF (rs.getD n 0) n l) l).length ≤ l.length + ns.length := by
  intro rs ns
  induction ns with
  | nil => intro l; simp
  | cons n ns ih => intro l; have := ih (ptF (rs.getD n 0) n l); have h2 := qS (rs.getD n 0) n l; simp only [DG, Di]; omega
 unfold bg wr
 refine DJ (key _ _ _) ?_
 have : sN to ≤ 1024 := by unfold sN; split <;> omega
 simp only [EE, List.length_range']
 have : 0 ≤ ptLo frm := iM frm
 omega
abbrev ooS (w : WorldT) (known st term : Int) (ns : List (List Dp)) (rs : List ReadT) (ats : List AttT) (i : Int) : AS :=
 { t := mkT 67 0 [(0, .ref (.ptr 0 0)), (1, int st), (2, int term), (6, .ref (.ptr 2 0)), (16, ab ns), (17, int ns.length), (18, int i)], h := ofH w known st rs ats, m := [] }
def eV (w : WorldT) (known st term : Int) (s : RA) (n : Int) : RA := (bg 5 st n 0 term known w.f).foldl (kJ w known n) (s.1 ++ [⟨5, st, n, 0, term⟩], s.2)
noncomputable abbrev ml (w : WorldT) (known : Int) (st : Int) (rs : List ReadT) (ats : List AttT) : List Blk := [.var [.ref (.vec 1 1), ab (B6 Cp w.c), ab w.p, ab (B6 CD w.s), ab (B6 Ch w.f), int known], .vec (ao (rdR rs)) 1 5, .var [int st, .ref (.vec 3 0)], .vec (ao (B6 Ci ats)) 0 5]
theorem Bx {w : WorldT} (hw : w.ok) {known st term : Int} {ns : List (List Dp)} {n : Int} {rs0 rs : List ReadT} {ats : List AttT} {i : Nat} (hr : aH (i : Int) ns [vi n] 1) (hlt : decide ((i : Int) < (ns.length : Int)) = true) (hwr : B8.wrap ((i : Int) + 1) = ((i + 1 : Nat) : Int)) (hb : rs.length ≤ 999980000) (ha : ats.length ≤ 999980000) : (CW B7 Γk (lkH w known rs0 0) false (sub EX 0) (ooS w known st term ns rs ats i) .normal (ooS w known st term ns (eV w known st term (rs, ats) n).1 (eV w known st term (rs, ats) n).2 ((i + 1 : Nat) : Int))) := by
 have hl0 := (@oi_cw (w) (hw) (known) (st) (term) (ns) ((↑i : Int)) (n) (bg 5 st n 0 term known w.f) (by first | assumption | rfl | omega | exact au _ _ | exact DJ aX (by omega) | (simp; omega)) (rs0) (rs ++ [{ kind := 5, sub := st, obj := n, frm := 0, til := term }]) (ats) (by first | assumption | rfl | omega | exact au _ _ | exact DJ aX (by omega) | (simp; omega)) (by first | assumption | rfl | omega | exact au _ _ | exact DJ aX (by omega) | (simp; omega)))
 let v1 : List Blk := [.var [.ref (.vec 1 2), ab (B6 Cp w.c), ab w.p, ab (B6 CD w.s), ab (B6 Ch w.f), int known], .vec (ao (rdR (rs ++ [{ kind := 5, sub := st, obj := n, frm := 0, til := term }]))) 2 5, .var [int st, .ref (.vec 3 0)], .vec (ao (B6 Ci ats)) 0 5]
 let v2 := D8 (kJ w known n) (rs ++ [{ kind := 5, sub := st, obj := n, frm := 0, til := term }], ats) (bg 5 st n 0 term known w.f)
 let v0 : List Blk := [.var [.ref (.vec 1 1), ab (B6 Cp w.c), ab w.p, ab (B6 CD w.s), ab (B6 Ch w.f), int known], .vec (ao (rdR v2.fst)) 1 5, .var [int st, .ref (.vec 3 0)], .vec (ao (B6 Ci v2.snd)) 0 5]
 let v3 := ab (B6 Dn (bg 5 st n 0 term known w.f))
 refine Ct (Cu (s' := { t := mkT 67 0 [(0, .ref (.ptr 0 0)), (1, int st), (2, int term), (6, .ref (.ptr 2 0)), (16, ab ns), (17, int (↑(Cb ns) : Int)), (18, int (Cc B8 ((↑i : Int) + 1)))], h := v0, m := [] }) (e := Cq) pok [.st (.mask [0, 1, 2, 6, 16, 17, 18])] [.b true, .row [vi n], .call v3 v1, .st (.ren 1 1), .sum [0, 1, 2, 6, 8, 16, 17, 18, 26, 27, 28] (CE 2) { t := mkT 67 0 [(0, .ref (.ptr 0 0)), (1, int st), (2, int term), (6, .ref (.ptr 2 0)), (16, ab ns), (17, int (↑(Cb ns) : Int)), (18, int (↑i : Int))], h := v0, m := [] }] (by kernel_rfl) (.c hlt (.c hr (.c (show Ev B7 Γk 115 [.ref (.ptr 0 0), int st, int n, int term] (ml w known st rs ats) v3 v1 from (Cj (Fs (args := [.ref (.ptr 0 0), int st, int n, int term]) (H := (ml w known st rs ats)) [0, 1] (Ev.upX [0, 1] (@qX w hw known st n term rs (by subst v1 v2 v0 v3; first | assumption | rfl | omega | exact au _ _ | exact DJ aX (by subst v1 v2 v0 v3; omega) | (simp; omega))) (by kernel_rfl) ⟨?_, trivial⟩ ⟨?_, trivial⟩) (by kernel_rfl) (by kernel_rfl) (by kernel_rfl) ⟨?_, trivial⟩ ⟨?_, trivial⟩) (by kernel_rfl) (by kernel_rfl))) (.c (show B6 (C6 (aS 1 2 1)) (ao (rdR (rs ++ [{ kind := 5, sub := st, obj := n, frm := 0, til := term }]))) = ao (rdR (rs ++ [{ kind := 5, sub := st, obj := n, frm := 0, til := term }])) from (by subst v1 v2 v0 v3; first | assumption | rfl | omega | exact au _ _ | exact DJ aX (by subst v1 v2 v0 v3; omega) | (simp; omega))) (.c (show B6 (C6 (aS 1 2 1)) (ao (B6 Ci ats)) = ao (B6 Ci ats) from (by subst v1 v2 v0 v3; first | assumption | rfl | omega | exact au _ _ | exact DJ aX (by subst v1 v2 v0 v3; omega) | (simp; omega))) (.c hl0 .n))))))) (by subst v1 v2 v0 v3; first | rfl | (simp only [hwr]; rfl)) (by subst v1 v2 v0 v3; first | rfl | (simp only [hwr]; rfl)) <;> subst v1 v2 v0 v3 <;> (first | rfl | exact bm _ _ | first | assumption | rfl | omega | exact au _ _ | exact DJ aX (by omega) | (simp; omega))
theorem Bz {w : WorldT} {known st term : Int} {ns : List (List Dp)} {rs0 rs : List ReadT} {ats : List AttT} {i : Nat} (hlt : decide ((i : Int) < (ns.length : Int)) = false) : (CW B7 Γk (lkH w known rs0 0) false (sub EX 0) (ooS w known st term ns rs ats i) (.exit 0) { t := mkT 67 0 [(6, .ref (.ptr 2 0))], h := ofH w known st rs ats, m := [] }) := by
 exact Ct (Cu (s' := { t := mkT 67 0 [(6, .ref (.ptr 2 0))], h := [.var [.ref (.vec 1 1), ab (B6 Cp w.c), ab w.p, ab (B6 CD w.s), ab (B6 Ch w.f), int known], .vec (ao (rdR rs)) 1 5, .var [int st, .ref (.vec 3 0)], .vec (ao (B6 Ci ats)) 0 5], m := [] }) (e := CE 0) pok [.st (.mask [6])] [.b false] (by kernel_rfl) (.c hlt .n)) (by rfl) (by rfl)
theorem mm {w : WorldT} {known n : Int} : ∀ (ps : List PtT) (s : RA), (ps.foldl (kJ w known n) s).1.length ≤ s.1.length + ps.length ∧ (ps.foldl (kJ w known n) s).2.length ≤ s.2.length + ps.length
 | [], s => by simp
 | p :: ps, s => by
  have h1 := sO (w := w) (known := known) (n := n) (s := s) p
  have h2 := mm (w := w) (known := known) (n := n) ps (kJ w known n s p)
  simp only [DG, Di]
  omega
theorem wx {w : WorldT} {known st term : Int} (s : RA) (n : Int) : (eV w known st term s n).1.length ≤ s.1.length + 1025 ∧ (eV w known st term s n).2.length ≤ s.2.length + 1024 := by
 unfold eV
 have h1 := mm (w := w) (known := known) (n := n) (bg 5 st n 0 term known w.f) (s.1 ++ [⟨5, st, n, 0, term⟩], s.2)
 have h2 := aX (kk := 5) (ks := st) (ko := n) (frm := 0) (to := term) (known := known) (l := w.f)
 simp only [D6, Di, EE] at h1
 omega
theorem oo_g {w : WorldT} (hw : w.ok) {known st term : Int} {ns : List Int} (hn : ns.length ≤ 69000) {rs0 rs : List ReadT} (hb : rs.length ≤ 800000000) {ats : List AttT} (ha : ats.length ≤ 1000) :
  CW B7 Γk (lkH w known rs0 0) false (.loop (sub EX 0)) (ooS w known st term (ns.map fun n => [vi n]) rs ats 0) (.exit 0) { t := mkT 67 0 [(6, .ref (.ptr 2 0))], h := ofH w known st (ns.foldl (eV w known st term) (rs, ats)).1 (ns.foldl (eV w known st term) (rs, ats)).2, m := [] } := by
 have hl : am ns := by unfold am; omega
 have := Eo (P := B7) (Γ := Γk) (h0 := lkH w known rs0 0) (rd := false) (c := sub EX 0) (σ := RA) (ρ := Empty) ns (fun n s => .inl (eV w known st term s n))
  (fun i s => ooS w known st term (ns.map fun n => [vi n]) s.1 s.2 (i : Int)) (.exit 0) (fun s => { t := mkT 67 0 [(6, .ref (.ptr 2 0))], h := ofH w known st s.1 s.2, m := [] }) (fun r => r.elim)
  (fun i s => s.1.length ≤ rs.length + i * 1025 ∧ s.2.length ≤ ats.length + i * 1025) (by simp) (fun r => r.elim) ?_ ?_ (rs, ats) (by simp)
 ·rw [bw] at this
  exact this
 ·intro i n s hni hs
  have hi := (Ce.1 hni).1
  refine ⟨fun s' h => by cases h; have := wx (w := w) (known := known) (st := st) (term := term) s n; omega, Bx hw (rowAt (row := fun n => [vi n]) hni rfl) (lt_len (fun n => [vi n]) hi) (wrap_succ hi hl) (by omega) (by omega)⟩
 ·intro s _
  exact Bz (bM (fun n => [vi n]) ns)
theorem oo_cw {w : WorldT} (hw : w.ok) {known st term : Int} {ns : List Int} (hn : ns.length ≤ 69000) {rs0 rs : List ReadT} (hb : rs.length ≤ 800000000) :
  CW B7 Γk (lkH w known rs0 0) false (.loop (sub EX 0)) (ooS w known st term (ns.map fun n => [vi n]) rs [] 0) (.exit 0) { t := mkT 67 0 [(6, .ref (.ptr 2 0))], h := ofH w known st (ns.foldl (eV w known st term) (rs, [])).1 (ns.foldl (eV w known st term) (rs, [])).2, m := [] } := oo_g hw hn hb (by simp)
def xD (w : WorldT) (known st term : Int) (rs : List ReadT) : RA := (aj w.f known).foldl (eV w known st term) (rs ++ [rdN], [])
def qZ (w : WorldT) (known st term : Int) (rs : List ReadT) : List AttT := (xD w known st term rs).2.mergeSort leA
theorem dQ {fs : List FactT} {known : Int} : (aj fs known).length ≤ fs.length := by
 have := eK (many := wg fs known) fs []
 simp only [EE, Nat.zero_add] at this
 unfold aj cY
 simpa using this
noncomputable abbrev wy (w : WorldT) (known : Int) (st : Int) (term : Int) (rs : List ReadT) : List Blk := [.var [.ref (.vec 1 1), ab (B6 Cp w.c), ab w.p, ab (B6 CD w.s), ab (B6 Ch w.f), int known], .vec (ao (rdR (D8 (eV w known st term) (rs ++ [rdN], []) (aj w.f known)).fst)) 1 5, .var [int st, .ref (.vec 3 0)], .vec (ao (B6 Ci (D8 (eV w known st term) (rs ++ [rdN], []) (aj w.f known)).snd)) 0 5]
noncomputable abbrev wz (w : WorldT) (known : Int) (st : Int) (term : Int) (rs : List ReadT) : List Blk := [.var [.ref (.vec 1 1), ab (B6 Cp w.c), ab w.p, ab (B6 CD w.s), ab (B6 Ch w.f), int known], .vec (ao (rdR (D8 (eV w known st term) (rs ++ [rdN], []) (aj w.f known)).fst)) 1 5, .var [int st, .ref (.vec 3 0)], .vec (ao (B6 Ci (He (xD w known st term rs).snd leA))) 0 5]
theorem of_a {w : WorldT} (hw : w.ok) {known st term : Int} {rs : List ReadT} (hb : rs.length ≤ 700000000) (hn : (aj w.f known).length ≤ 69000) (hl : (xD w known st term rs).2.length < 4611686018427387904) (hT : ∀ x ∈ (xD w known st term rs).2, ∀ y ∈ (xD w known st term rs).2, x.term = y.term → x.course = y.course → x = y) : (Ev B7 Γk 60 [.ref (.ptr 0 0), int st, int term] (lkH w known rs 0) (.agg [int st, ab ((qZ w known st term rs).map Ci)]) (lkH w known (xD w known st term rs).1 1)) := by
 have hl0 := (@oo_cw (w) (hw) (known) (st) (term) (aj w.f known) (hn) (rs) (rs ++ [rdN]) (by first | assumption | rfl | omega | exact au _ _ | exact aq | (simp; omega)))
 let v0 : List D := [.ref (.vec 1 1), ab (B6 Cp w.c), ab w.p, ab (B6 CD w.s), ab (B6 Ch w.f), int known]
 let v1 := B6 Ci (qZ w known st term rs)
 let v2 := D8 (eV w known st term) (rs ++ [rdN], []) (aj w.f known)
 let v3 : List Blk := [.var [.ref (.vec 1 0), ab (B6 Cp w.c), ab w.p, ab (B6 CD w.s), ab (B6 Ch w.f), int known], .vec (ao (rdR rs)) 0 5, .var [int st, nq]]
 let v4 : List Blk := [.var v0, .vec (ao (rdR (rs ++ [rdN]))) 1 5, .var [int st, nq]]
 refine Cj (Ev.post (d2 := Db [int st, ab v1]) (h2 := [.var v0, .vec (ao (rdR v2.fst)) 1 5]) (φ := [ao (B6 Ci (He (xD w known st term rs).snd leA)) = B6 (fun x => B6 Ei x) v1, B6 (C6 (qi 3 0 v1)) (ao (rdR v2.fst)) = ao (rdR v2.fst), Cz 2 (match 0 == 3 with | true => .gone | false => keepX (qi 3 0 v1) (.var v0)) = true, Cz 2 (match 0 + 1 == 3 with | true => .gone | false => keepX (qi 3 0 v1) (.vec (ao (rdR v2.fst)) 1 5)) = true]) [.st (.frz 3 v1), .st (.trimV 2)] (EH (h' := (wz w known st term rs)) (d := Db [int st, .ref (.vec 3 0)]) pok [.call (ab (B6 (fun n => [vi n]) (aj w.f known))) v4, .st (.nilC 2 1 5), .sum [0, 1, 2, 6, 16, 17, 18] (CE 0) { t := mkT 67 0 [(6, .ref (.ptr 2 0))], h := (wy w known st term rs), m := [] }, .call (DC []) (wz w known st term rs)] (by kernel_rfl) (.c (show Ev B7 Γk 62 [.ref (.ptr 0 0)] v3 (ab (B6 (fun n => [vi n]) (aj w.f known))) v4 from (Cj (Fs (args := [.ref (.ptr 0 0)]) (H := v3) [0, 1] (@yD w hw known rs ?_) (by kernel_rfl) (by kernel_rfl) (by kernel_rfl) ⟨(by subst v0 v1 v2 v3 v4; first | rfl | exact bm _ _ | first | assumption | rfl | omega | exact au _ _ | exact aq | (simp; omega)), trivial⟩ ⟨(by subst v0 v1 v2 v3 v4; first | rfl | exact bm _ _ | first | assumption | rfl | omega | exact au _ _ | exact aq | (simp; omega)), trivial⟩) (by kernel_rfl) (by kernel_rfl))) (.c hl0 (.c (CZ (Γ' := Γk) (@qY (wy w known st term rs) 3 0 ((xD w known st term rs).snd) ?_ hl hT)) .n)))) (by kernel_rfl) ⟨?_, ?_, rfl, ?_, trivial⟩) (by rfl) (by rfl) <;> subst v0 v1 v2 v3 v4 <;> (first | assumption | rfl | omega | exact au _ _ | exact aq | (simp; omega))
end Go.Vi
open Go Go.Proofs
namespace Go.Vi
def ptO (rs : List Int) (n : Nat) : Option PtT := bif decide (rs.getD n 0 ≥ 0) then some ⟨(n : Int), rs.getD n 0⟩ else none
theorem BA (rs : List Int) (x to : Int) : wr rs x to = (List.range' x.toNat (sN to - x).toNat).filterMap (ptO rs) := by
 have key : ∀ (ns : List Nat) (l : List PtT), ns.foldl (fun l n => ptF (rs.getD n 0) n l) l = l ++ ns.filterMap (ptO rs) := by
  intro ns
  induction ns with
  | nil => intro l; simp
  | cons n ns ih =>
   intro l
   rw [DG, ih, HH]
   unfold ptF ptO
   cases decide (rs.getD n 0 ≥ 0) <;> simp
 unfold wr
 rw [key]; simp
theorem BB {rs : List Int} {x to : Int} : (wr rs x to).Pairwise fun p q => p.term < q.term := by
 rw [BA]
 refine List.Pairwise.filterMap (R := fun a b => a < b) (ptO rs) ?_ (List.pairwise_lt_range' ..)
 intro a b hab p hp q hq
 unfold ptO at hp hq
 cases h1 : decide (rs.getD a 0 ≥ 0) <;> rw [h1] at hp <;> simp at hp
 cases h2 : decide (rs.getD b 0 ≥ 0) <;> rw [h2] at hq <;> simp at hq
 subst hp; subst hq
 simp; exact hab
theorem mn {kk ks ko frm to known : Int} {l : List FactT} : (bg kk ks ko frm to known l).Pairwise fun p q => p.term < q.term := BB
theorem wA {many : Int} {f : FactT} {l l' : List Int} (hl : l.Nodup) (h : nuF many f l = .inl l') : l'.Nodup := by
 unfold nuF at h
 split at h
 ·simp at h
 ·simp only [Sum.inl.injEq] at h
  subst h
  cases hn : isNew f l
  ·simpa using hl
  ·simp only [cond_true]
   unfold isNew at hn
   simp only [Cd, Bool.not_eq_true'] at hn
   have : f.sub ∉ l := by
    have := hn.2.2.2
    intro hm
    rw [List.contains_iff_mem.2 hm] at this
    simp at this
   rw [List.nodup_append]
   refine ⟨hl, by simp, ?_⟩
   intro a ha b hb
   simp only [List.mem_singleton] at hb
   subst hb
   exact fun e => this (e ▸ ha)
theorem mo {many : Int} : ∀ (fs : List FactT) (l : List Int), l.Nodup → (nuG (forL (nuF many) fs l)).Nodup
 | [], l, h => by simpa [forL, nuG] using h
 | f :: fs, l, h => by
  simp only [forL]
  cases hf : nuF many f l with
  | inl l' => exact mo fs l' (wA h hf)
  | inr l' =>
   have : l' = l := by
    unfold nuF at hf; split at hf
    ·simp at hf; exact hf.symm
    ·simp at hf
   subst this
   exact h
theorem lq {fs : List FactT} {known : Int} : (aj fs known).Nodup := by
 unfold aj cY
 exact (List.mergeSort_perm _ _).nodup_iff.2 (mo fs [] List.nodup_nil)
def zM (w : WorldT) (known n : Int) (p : PtT) : Option AttT := bif attBad p then none else some (ww w known n p)
def rdO (n : Int) (p : PtT) : List ReadT := bif attBad p then [] else rdT 1 n 0 p.term
theorem pB (w : WorldT) (known n : Int) : ∀ (ps : List PtT) (s : RA), ps.foldl (kJ w known n) s = (s.1 ++ ps.flatMap (rdO n), s.2 ++ ps.filterMap (zM w known n))
 | [], s => by simp
 | p :: ps, s => by
  rw [DG, pB w known n ps, HH, List.flatMap_cons]
  unfold kJ zM rdO
  cases attBad p <;> simp
abbrev wB (w : WorldT) (known st term n : Int) : List PtT := bg 5 st n 0 term known w.f
def dY (w : WorldT) (known st term n : Int) : List ReadT := ⟨5, st, n, 0, term⟩ :: (wB w known st term n).flatMap (rdO n)
def fh (w : WorldT) (known st term n : Int) : List AttT := (wB w known st term n).filterMap (zM w known n)
theorem ofOut_eq (w : WorldT) (known st term : Int) (s : RA) (n : Int) : eV w known st term s n = (s.1 ++ dY w known st term n, s.2 ++ fh w known st term n) := by
 unfold eV
 rw [pB]
 simp [dY, fh]
theorem q8 (w : WorldT) (known st term : Int) (rs : List ReadT) : xD w known st term rs = (rs ++ rdN :: (aj w.f known).flatMap (dY w known st term), (aj w.f known).flatMap (fh w known st term)) := by
 have key : ∀ (ns : List Int) (s : RA), ns.foldl (eV w known st term) s = (s.1 ++ ns.flatMap (dY w known st term), s.2 ++ ns.flatMap (fh w known st term)) := by
  intro ns
  induction ns with
  | nil => intro s; simp
  | cons n ns ih => intro s; rw [DG, ih, ofOut_eq]; simp
 unfold xD
 rw [key]; simp
def eM (w : WorldT) (known st term : Int) : List ReadT := rdN :: (aj w.f known).flatMap (dY w known st term)
def dR (w : WorldT) (known st term : Int) : List AttT := (aj w.f known).flatMap (fh w known st term)
def wC (w : WorldT) (known st term : Int) : List AttT := (dR w known st term).mergeSort leA
theorem c9 {w : WorldT} {known st term n : Int} {a : AttT} (h : a ∈ fh w known st term n) : a.course = n ∧ ∃ p ∈ wB w known st term n, attBad p = false ∧ a = ww w known n p := by
 unfold fh at h
 obtain ⟨p, hp, he⟩ := List.mem_filterMap.1 h
 unfold zM at he
 cases hb : attBad p <;> rw [hb] at he <;> simp at he
 subst he
 exact ⟨rfl, p, hp, hb, rfl⟩
theorem sP {w : WorldT} {known st term : Int} : ∀ x ∈ dR w known st term, ∀ y ∈ dR w known st term, x.term = y.term → x.course = y.course → x = y := by
 intro x hx y hy ht hc
 obtain ⟨n, hn, hx⟩ := List.mem_flatMap.1 hx
 obtain ⟨n', hn', hy⟩ := List.mem_flatMap.1 hy
 obtain ⟨e1, p, hp, _, rfl⟩ := c9 hx
 obtain ⟨e2, q, hq, _, rfl⟩ := c9 hy
 have : n = n' := by rw [← e1, ← e2, hc]
 subst this
 have hpq : p = q := by
  have hinc := mn (kk := 5) (ks := st) (ko := n) (frm := 0) (to := term) (known := known) (l := w.f)
  have key : ∀ (l : List PtT), l.Pairwise (fun p q => p.term < q.term) → ∀ p ∈ l, ∀ q ∈ l, p.term = q.term → p = q := by
   intro l
   induction l with
   | nil => intro _ p hp; simp at hp
   | cons a l ih =>
    intro hl p hp q hq e
    rw [List.pairwise_cons] at hl
    rcases CP.1 hp with hp1 | hp1 <;> rcases CP.1 hq with hq1 | hq1
    ·rw [hp1, hq1]
    ·have := hl.1 q hq1; rw [hp1] at e; omega
    ·have := hl.1 p hp1; rw [hq1] at e; omega
    ·exact ih hl.2 p hp1 q hq1 e
  exact key _ hinc p hp q hq ht
 rw [hpq]
theorem eN {α β : Type} (f : α → List β) (k : Nat) : ∀ l : List α, (∀ a ∈ l, (f a).length ≤ k) → (l.flatMap f).length ≤ l.length * k
 | [], _ => by simp
 | a :: l, h => by
  have := eN f k l (fun b hb => h b (by simp [hb]))
  have h1 := h a (by simp)
  simp only [List.flatMap_cons, D6, Di, Nat.add_mul]
  omega
theorem mq {w : WorldT} (hw : w.ok) {known st term : Int} : (dR w known st term).length ≤ 70656000 := by
 have h1 := eN (fh w known st term) 1024 (aj w.f known) (fun n _ => DJ (List.length_filterMap_le ..) aX)
 have h2 := dQ (fs := w.f) (known := known)
 have h3 := hw.lf
 unfold dR
 have : (aj w.f known).length * 1024 ≤ 69000 * 1024 := Fl _ (by omega)
 omega
theorem q9 {w : WorldT} {known st term n : Int} : (dY w known st term n).length ≤ 1025 := by
 unfold dY
 have h1 := eN (rdO n) 1 (wB w known st term n) (fun p _ => by unfold rdO; cases attBad p <;> simp [rdT_len])
 have h2 := aX (kk := 5) (ks := st) (ko := n) (frm := 0) (to := term) (known := known) (l := w.f)
 simp only [Di]
 simp only [wB] at h1 ⊢
 omega
theorem pC {w : WorldT} (hw : w.ok) {known st term : Int} : (eM w known st term).length ≤ 70725001 := by
 have h1 := eN (dY w known st term) 1025 (aj w.f known) (fun n _ => q9)
 have h2 := dQ (fs := w.f) (known := known)
 have h3 := hw.lf
 unfold eM
 have : (aj w.f known).length * 1025 ≤ 69000 * 1025 := Fl _ (by omega)
 simp only [Di]
 omega
theorem yE {w : WorldT} (hw : w.ok) {known st term : Int} {rs : List ReadT} (hb : rs.length ≤ 700000000) : Ev B7 Γk 60 [.ref (.ptr 0 0), int st, int term] (lkH w known rs 0) (.agg [int st, ab ((wC w known st term).map Ci)]) (lkH w known (rs ++ eM w known st term) 1) := by
 have h := of_a hw (known := known) (st := st) (term := term) hb (DJ dQ hw.lf) (by rw [q8]; have := mq hw (known := known) (st := st) (term := term); unfold dR at this; simp only; omega) (by rw [q8]; exact sP)
 unfold qZ at h
 rw [q8] at h
 exact h
end Go.Vi
open Go Go.Proofs
namespace Go.Vi
set_option maxRecDepth 100000
set_option maxHeartbeats 4000000
theorem recOf0 {w : WorldT} (hw : w.ok) {known st term : Int} : Ev B7 Γk 60 [.ref (.ptr 0 0), int st, int term] (lkH w known [] 0) (.agg [int st, ab ((wC w known st term).map Ci)]) (lkH w known (eM w known st term) 1) := by
 have := yE hw (known := known) (st := st) (term := term) (rs := []) (by simp)
 simpa using this
def rb (st term : Int) : Bool := !(decide (st ≥ 0) && decide (st ≤ 19999)) || !(decide (term ≥ 0) && decide (term ≤ 1024))
structure RecT where
 st : Int
 a : List AttT
def RecT.l (r : RecT) : List D := [int r.st, ab (r.a.map Ci)]
def wD (w : WorldT) (st term known : Int) : RecT × List ReadT × Int := match rb st term with
 | true => (⟨0, []⟩, [], 150)
 | false => (⟨st, wC w known st term⟩, eM w known st term, 0)
def BC (st term : Int) (rr : List ReadT) (aa : List AttT) : RecT × List ReadT × Int := match rb st term with
 | true => (⟨0, []⟩, [], 150)
 | false => (⟨st, aa⟩, rr, 0)
noncomputable abbrev jv (w : WorldT) : List Blk := [.var [ab (B6 Cp w.c), ab w.p, ab (B6 CD w.s), ab (B6 Ch w.f)], .var [int 0, nq]]
theorem rof_a {w : WorldT} {st term known : Int} {rr : List ReadT} {aa : List AttT} (hof : Ev B7 Γk 60 [.ref (.ptr 0 0), int st, int term] (lkH w known [] 0) (.agg [int st, ab (aa.map Ci)]) (lkH w known rr 1)) (h : List Blk) : (Ev B7 Γk 23 [.agg w.l, int st, int term, int known] h (.tup [.agg (BC st term rr aa).1.l, ab (rdR (BC st term rr aa).2.1), int (BC st term rr aa).2.2]) h) := by
 cases hc0 : !(decide (st ≥ 0) && decide (st ≤ 19999)) || !(decide (term ≥ 0) && decide (term ≤ 1024))
 ·let v0 : List Blk := [.var (Dy w), .var [int 0, nq], .var [.ref (.vec 3 1), ab (B6 Cp w.c), ab w.p, ab (B6 CD w.s), ab (B6 Ch w.f), int known], .vec (ao (rdR rr)) 1 5]
  let v1 : List Blk := [.var (Dy w), .var [int 0, nq], .var [.ref (.vec 3 0), ab (B6 Cp w.c), ab w.p, ab (B6 CD w.s), ab (B6 Ch w.f), int known], .vec [] 0 5]
  let v2 : List D := [int st, ab (B6 Ci aa)]
  refine Cj (Ev.nilW (Cn (d := DC [Db v2, ab (rdR rr), int 0]) pok [.val (bool (decide (st ≥ 0) && decide (st ≤ 19999))), .val (bool (decide (term ≥ 0) && decide (term ≤ 1024))), .b false, .nx 1, .st (.nilC 2 0 5), .call (Db v2) v0, .st (.frz 3 (rdR rr))] (by kernel_rfl) (.c (CZ (Γ' := Γk) (@aG st 0 19999 (jv w))) (.c (gd (!!(decide (st ≥ 0) && decide (st ≤ 19999))) (CZ (Γ' := Γk) (@aG term 0 1024 (jv w)))) (.c hc0 (.c (show Ev B7 Γk 60 [.ref (.ptr 2 0), int st, int term] v1 (Db v2) v0 from (Cj (Fs (args := [.ref (.ptr 2 0), int st, int term]) (H := v1) [2, 3] (@hof) (by kernel_rfl) (by kernel_rfl) (by kernel_rfl) ⟨?_, trivial⟩ ⟨?_, trivial⟩) (by kernel_rfl) (by kernel_rfl))) (.c (show ao (rdR rr) = B6 (fun x => B6 Ei x) (rdR rr) from (by subst v0 v1 v2; first | assumption | rfl | omega | exact au _ _ | exact aq)) (.e (Db v2) (.e (.ref (.ptr 2 0)) (.e (.ref (.ptr 2 0)) (.e (.ref (.ptr 2 0)) (.e (.ref (.ptr 2 0)) (.e (ab (rdR rr)) (.e (ab (rdR rr)) .n)))))))))))) rfl rfl h)) (by subst v0 v1 v2; first | (have hh : rb st term = true := hc0; simp only [BC, hh]; rfl) | (have hh : rb st term = false := hc0; simp only [BC, hh]; rfl)) (by rfl) <;> subst v0 v1 v2 <;> (first | rfl | exact bm _ _ | first | assumption | rfl | omega | exact au _ _ | exact aq)
 ·exact Cj (Ev.nilW (Cn (d := DC [Db [int 0, nq], nq, int 150]) pok [.val (bool (decide (st ≥ 0) && decide (st ≤ 19999))), .val (bool (decide (term ≥ 0) && decide (term ≤ 1024))), .b true] (by kernel_rfl) (.c (CZ (Γ' := Γk) (@aG st 0 19999 (jv w))) (.c (gd (!!(decide (st ≥ 0) && decide (st ≤ 19999))) (CZ (Γ' := Γk) (@aG term 0 1024 (jv w)))) (.c hc0 .n))) rfl rfl h)) (by first | (have hh : rb st term = true := hc0; simp only [BC, hh]; rfl) | (have hh : rb st term = false := hc0; simp only [BC, hh]; rfl)) (by rfl)
theorem rof_ev {w : WorldT} (hw : w.ok) {st term known : Int} (h : List Blk) : Ev B7 Γk 23 [.agg w.l, int st, int term, int known] h (.tup [.agg (wD w st term known).1.l, ab (rdR (wD w st term known).2.1), int (wD w st term known).2.2]) h :=
 rof_a (recOf0 hw) h
def yF (a : AttT) : Bool := inB a.course 0 4095 && inB a.term 0 1023 && inB a.grade 0 12 && inB a.campus 0 6 && inB a.credits 0 60
def gW (o : Option AttT) (a : AttT) : Bool := !yF a || (match o with | none => false | some b => decide (uj b a ≥ 0))
abbrev rkS (st : Int) (as_ : List (List Dp)) (i : Int) : AS := { t := mkT 61 0 [(1, .ref (.ptr 0 0)), (2, int 0), (10, ab as_), (11, int as_.length), (12, int i)], h := [.var [int st, ab as_]], m := [] }
abbrev rkX : Unit → Exit × AS := fun _ => (.ret, { t := mkT 61 0 [(2, int 150)], h := [], m := [] })
def rkF (p : Option AttT × AttT) (_ : Unit) : Unit ⊕ Unit := bif gW p.1 p.2 then .inr () else .inl ()
theorem rk0 {a : AttT} {x : Bool} : (!(decide (a.course ≥ 0) && decide (a.course ≤ 4095)) || !(decide (a.term ≥ 0) && decide (a.term ≤ 1023)) || !(decide (a.grade ≥ 0) && decide (a.grade ≤ 12)) || !(decide (a.campus ≥ 0) && decide (a.campus ≤ 6)) || !(decide (a.credits ≥ 0) && decide (a.credits ≤ 60)) || decide ((0 : Int) > 0) && x) = gW none a := by simp [gW, yF, inB]
theorem rk1 {a b : AttT} {i : Nat} : (!(decide (a.course ≥ 0) && decide (a.course ≤ 4095)) || !(decide (a.term ≥ 0) && decide (a.term ≤ 1023)) || !(decide (a.grade ≥ 0) && decide (a.grade ≤ 12)) || !(decide (a.campus ≥ 0) && decide (a.campus ≤ 6)) || !(decide (a.credits ≥ 0) && decide (a.credits ≤ 60)) || decide (((i + 1 : Nat) : Int) > 0) && decide (orI (aK b.term a.term) (aK b.course a.course) ≥ 0)) = gW (some b) a := by
 have : decide (((i + 1 : Nat) : Int) > 0) = true := decide_eq_true (by omega)
 rw [this]
 simp [gW, yF, inB, uj]
noncomputable abbrev aY (st : Int) (l : List AttT) (a : AttT) : List Blk := [.var [int st, ab (B6 Ci l)], .var [int a.course, int a.term, int a.grade, int a.campus, int a.credits]]
theorem yG {st : Int} {l : List AttT} {a : AttT} (hr : aH 0 (l.map Ci) a.row 5) (hlt : decide ((0 : Int) < ((l.map Ci).length : Int)) = true) : (CW B7 Γ0 [] false (sub Gv 0) (rkS st (l.map Ci) 0) (ad (fun _ => rkS st (l.map Ci) 1) rkX (rkF (none, a) ())).1 (ad (fun _ => rkS st (l.map Ci) 1) rkX (rkF (none, a) ())).2) := by
 cases hc0 : !(decide (a.course ≥ 0) && decide (a.course ≤ 4095)) || !(decide (a.term ≥ 0) && decide (a.term ≤ 1023)) || !(decide (a.grade ≥ 0) && decide (a.grade ≤ 12)) || !(decide (a.campus ≥ 0) && decide (a.campus ≤ 6)) || !(decide (a.credits ≥ 0) && decide (a.credits ≤ 60)) || decide (0 > 0) && decide (orI (aK (Cl l (Cf (Cc B8 (0 - 1))) default).term a.term) (aK (Cl l (Cf (Cc B8 (0 - 1))) default).course a.course) ≥ 0)
 ·let v0 := Cl l (Cf (Cc B8 (0 - 1))) default
  refine Ct (Cu (s' := { t := mkT 61 0 [(1, .ref (.ptr 0 0)), (2, int 0), (10, ab (B6 Ci l)), (11, int (↑(Cb (B6 Ci l)) : Int)), (12, int (Cc B8 (0 + 1)))], h := [.var [int st, ab (B6 Ci l)]], m := [] }) (e := Cq) pok [.st (.mask [1, 2, 10, 11, 12]), .st (.trim 1)] [.b true, .row (Ci a), .val (bool (decide (a.course ≥ 0) && decide (a.course ≤ 4095))), .val (bool (decide (a.term ≥ 0) && decide (a.term ≤ 1023))), .val (bool (decide (a.grade ≥ 0) && decide (a.grade ≤ 12))), .val (bool (decide (a.campus ≥ 0) && decide (a.campus ≤ 6))), .val (bool (decide (a.credits ≥ 0) && decide (a.credits ≤ 60))), .row (Ci v0), .val (int (orI (aK v0.term a.term) (aK v0.course a.course))), .b false] (by kernel_rfl) (.c hlt (.c hr (.c (@aG (a.course) 0 4095 (aY st l a)) (.c (gd (!!(decide (a.course ≥ 0) && decide (a.course ≤ 4095))) (@aG (a.term) 0 1023 (aY st l a))) (.c (gd (!(!(decide (a.course ≥ 0) && decide (a.course ≤ 4095)) || !(decide (a.term ≥ 0) && decide (a.term ≤ 1023)))) (@aG (a.grade) 0 12 (aY st l a))) (.c (gd (!(!(decide (a.course ≥ 0) && decide (a.course ≤ 4095)) || !(decide (a.term ≥ 0) && decide (a.term ≤ 1023)) || !(decide (a.grade ≥ 0) && decide (a.grade ≤ 12)))) (@aG (a.campus) 0 6 (aY st l a))) (.c (gd (!(!(decide (a.course ≥ 0) && decide (a.course ≤ 4095)) || !(decide (a.term ≥ 0) && decide (a.term ≤ 1023)) || !(decide (a.grade ≥ 0) && decide (a.grade ≤ 12)) || !(decide (a.campus ≥ 0) && decide (a.campus ≤ 6)))) (@aG (a.credits) 0 60 (aY st l a))) (.c (show (!(!(decide (a.course ≥ 0) && decide (a.course ≤ 4095)) || !(decide (a.term ≥ 0) && decide (a.term ≤ 1023)) || !(decide (a.grade ≥ 0) && decide (a.grade ≤ 12)) || !(decide (a.campus ≥ 0) && decide (a.campus ≤ 6)) || !(decide (a.credits ≥ 0) && decide (a.credits ≤ 60))) && decide (0 > 0)) = true → aH (Cc B8 (0 - 1)) (B6 Ci l) (Ci v0) 5 from (fun hg => (by subst v0; first | assumption | rfl | (exfalso; simp at hg; done) | (simp_all; done)))) (.c (gd (!(!(decide (a.course ≥ 0) && decide (a.course ≤ 4095)) || !(decide (a.term ≥ 0) && decide (a.term ≤ 1023)) || !(decide (a.grade ≥ 0) && decide (a.grade ≤ 12)) || !(decide (a.campus ≥ 0) && decide (a.campus ≤ 6)) || !(decide (a.credits ≥ 0) && decide (a.credits ≤ 60))) && decide (0 > 0)) (@gN v0 a (aY st l a))) (.c hc0 .n))))))))))) ?_ ?_ <;> subst v0 <;> (first | (have hh : gW none a = true := rk0.symm.trans hc0; simp only [rkF, hh, cond_true]; first | done | rfl) | (have hh : gW none a = false := rk0.symm.trans hc0; simp only [rkF, hh, cond_false]; first | done | rfl))
 ·let v0 := Cl l (Cf (Cc B8 (0 - 1))) default
  refine Ct (Cu (s' := { t := mkT 61 0 [(2, int 150)], h := [], m := [] }) (e := Dv) pok [.st (.mask [2]), .st (.trim 0)] [.b true, .row (Ci a), .val (bool (decide (a.course ≥ 0) && decide (a.course ≤ 4095))), .val (bool (decide (a.term ≥ 0) && decide (a.term ≤ 1023))), .val (bool (decide (a.grade ≥ 0) && decide (a.grade ≤ 12))), .val (bool (decide (a.campus ≥ 0) && decide (a.campus ≤ 6))), .val (bool (decide (a.credits ≥ 0) && decide (a.credits ≤ 60))), .row (Ci v0), .val (int (orI (aK v0.term a.term) (aK v0.course a.course))), .b true] (by kernel_rfl) (.c hlt (.c hr (.c (@aG (a.course) 0 4095 (aY st l a)) (.c (gd (!!(decide (a.course ≥ 0) && decide (a.course ≤ 4095))) (@aG (a.term) 0 1023 (aY st l a))) (.c (gd (!(!(decide (a.course ≥ 0) && decide (a.course ≤ 4095)) || !(decide (a.term ≥ 0) && decide (a.term ≤ 1023)))) (@aG (a.grade) 0 12 (aY st l a))) (.c (gd (!(!(decide (a.course ≥ 0) && decide (a.course ≤ 4095)) || !(decide (a.term ≥ 0) && decide (a.term ≤ 1023)) || !(decide (a.grade ≥ 0) && decide (a.grade ≤ 12)))) (@aG (a.campus) 0 6 (aY st l a))) (.c (gd (!(!(decide (a.course ≥ 0) && decide (a.course ≤ 4095)) || !(decide (a.term ≥ 0) && decide (a.term ≤ 1023)) || !(decide (a.grade ≥ 0) && decide (a.grade ≤ 12)) || !(decide (a.campus ≥ 0) && decide (a.campus ≤ 6)))) (@aG (a.credits) 0 60 (aY st l a))) (.c (show (!(!(decide (a.course ≥ 0) && decide (a.course ≤ 4095)) || !(decide (a.term ≥ 0) && decide (a.term ≤ 1023)) || !(decide (a.grade ≥ 0) && decide (a.grade ≤ 12)) || !(decide (a.campus ≥ 0) && decide (a.campus ≤ 6)) || !(decide (a.credits ≥ 0) && decide (a.credits ≤ 60))) && decide (0 > 0)) = true → aH (Cc B8 (0 - 1)) (B6 Ci l) (Ci v0) 5 from (fun hg => (by subst v0; first | assumption | rfl | (exfalso; simp at hg; done) | (simp_all; done)))) (.c (gd (!(!(decide (a.course ≥ 0) && decide (a.course ≤ 4095)) || !(decide (a.term ≥ 0) && decide (a.term ≤ 1023)) || !(decide (a.grade ≥ 0) && decide (a.grade ≤ 12)) || !(decide (a.campus ≥ 0) && decide (a.campus ≤ 6)) || !(decide (a.credits ≥ 0) && decide (a.credits ≤ 60))) && decide (0 > 0)) (@gN v0 a (aY st l a))) (.c hc0 .n))))))))))) ?_ ?_ <;> subst v0 <;> (first | (have hh : gW none a = true := rk0.symm.trans hc0; simp only [rkF, hh, cond_true]; first | done | rfl) | (have hh : gW none a = false := rk0.symm.trans hc0; simp only [rkF, hh, cond_false]; first | done | rfl))
noncomputable abbrev aZ (st : Int) (as_ : List (List Dp)) (a : AttT) : List Blk := [.var [int st, ab as_], .var [int a.course, int a.term, int a.grade, int a.campus, int a.credits]]
theorem yH {st : Int} {as_ : List (List Dp)} {a b : AttT} {i : Nat} (hr : aH ((i + 1 : Nat) : Int) as_ a.row 5) (hb : aH (B8.wrap (((i + 1 : Nat) : Int) - 1)) as_ b.row 5) (hlt : decide (((i + 1 : Nat) : Int) < (as_.length : Int)) = true) (hw : B8.wrap (((i + 1 : Nat) : Int) + 1) = ((i + 1 + 1 : Nat) : Int)) : (CW B7 Γ0 [] false (sub Gv 0) (rkS st as_ ((i + 1 : Nat) : Int)) (ad (fun _ => rkS st as_ ((i + 1 + 1 : Nat) : Int)) rkX (rkF (some b, a) ())).1 (ad (fun _ => rkS st as_ ((i + 1 + 1 : Nat) : Int)) rkX (rkF (some b, a) ())).2) := by
 cases hc0 : !(decide (a.course ≥ 0) && decide (a.course ≤ 4095)) || !(decide (a.term ≥ 0) && decide (a.term ≤ 1023)) || !(decide (a.grade ≥ 0) && decide (a.grade ≤ 12)) || !(decide (a.campus ≥ 0) && decide (a.campus ≤ 6)) || !(decide (a.credits ≥ 0) && decide (a.credits ≤ 60)) || decide ((↑(i + 1) : Int) > 0) && decide (orI (aK b.term a.term) (aK b.course a.course) ≥ 0)
 ·refine Ct (Cu (s' := { t := mkT 61 0 [(1, .ref (.ptr 0 0)), (2, int 0), (10, ab as_), (11, int (↑(Cb as_) : Int)), (12, int (Cc B8 ((↑(i + 1) : Int) + 1)))], h := [.var [int st, ab as_]], m := [] }) (e := Cq) pok [.st (.mask [1, 2, 10, 11, 12]), .st (.trim 1)] [.b true, .row (Ci a), .val (bool (decide (a.course ≥ 0) && decide (a.course ≤ 4095))), .val (bool (decide (a.term ≥ 0) && decide (a.term ≤ 1023))), .val (bool (decide (a.grade ≥ 0) && decide (a.grade ≤ 12))), .val (bool (decide (a.campus ≥ 0) && decide (a.campus ≤ 6))), .val (bool (decide (a.credits ≥ 0) && decide (a.credits ≤ 60))), .row (Ci b), .val (int (orI (aK b.term a.term) (aK b.course a.course))), .b false] (by kernel_rfl) (.c hlt (.c hr (.c (@aG (a.course) 0 4095 (aZ st as_ a)) (.c (gd (!!(decide (a.course ≥ 0) && decide (a.course ≤ 4095))) (@aG (a.term) 0 1023 (aZ st as_ a))) (.c (gd (!(!(decide (a.course ≥ 0) && decide (a.course ≤ 4095)) || !(decide (a.term ≥ 0) && decide (a.term ≤ 1023)))) (@aG (a.grade) 0 12 (aZ st as_ a))) (.c (gd (!(!(decide (a.course ≥ 0) && decide (a.course ≤ 4095)) || !(decide (a.term ≥ 0) && decide (a.term ≤ 1023)) || !(decide (a.grade ≥ 0) && decide (a.grade ≤ 12)))) (@aG (a.campus) 0 6 (aZ st as_ a))) (.c (gd (!(!(decide (a.course ≥ 0) && decide (a.course ≤ 4095)) || !(decide (a.term ≥ 0) && decide (a.term ≤ 1023)) || !(decide (a.grade ≥ 0) && decide (a.grade ≤ 12)) || !(decide (a.campus ≥ 0) && decide (a.campus ≤ 6)))) (@aG (a.credits) 0 60 (aZ st as_ a))) (.c (show (!(!(decide (a.course ≥ 0) && decide (a.course ≤ 4095)) || !(decide (a.term ≥ 0) && decide (a.term ≤ 1023)) || !(decide (a.grade ≥ 0) && decide (a.grade ≤ 12)) || !(decide (a.campus ≥ 0) && decide (a.campus ≤ 6)) || !(decide (a.credits ≥ 0) && decide (a.credits ≤ 60))) && decide ((↑(i + 1) : Int) > 0)) = true → aH (Cc B8 ((↑(i + 1) : Int) - 1)) as_ (Ci b) 5 from (fun hg => hb)) (.c (gd (!(!(decide (a.course ≥ 0) && decide (a.course ≤ 4095)) || !(decide (a.term ≥ 0) && decide (a.term ≤ 1023)) || !(decide (a.grade ≥ 0) && decide (a.grade ≤ 12)) || !(decide (a.campus ≥ 0) && decide (a.campus ≤ 6)) || !(decide (a.credits ≥ 0) && decide (a.credits ≤ 60))) && decide ((↑(i + 1) : Int) > 0)) (@gN b a (aZ st as_ a))) (.c hc0 .n))))))))))) ?_ ?_ <;> (first | (have hh : gW (some b) a = true := (rk1 (i := i)).symm.trans hc0; simp only [rkF, hh, cond_true]; first | done | rfl) | (have hh : gW (some b) a = false := (rk1 (i := i)).symm.trans hc0; simp only [rkF, hh, cond_false]; first | done | rfl | (rw [hw]; rfl)))
 ·refine Ct (Cu (s' := { t := mkT 61 0 [(2, int 150)], h := [], m := [] }) (e := Dv) pok [.st (.mask [2]), .st (.trim 0)] [.b true, .row (Ci a), .val (bool (decide (a.course ≥ 0) && decide (a.course ≤ 4095))), .val (bool (decide (a.term ≥ 0) && decide (a.term ≤ 1023))), .val (bool (decide (a.grade ≥ 0) && decide (a.grade ≤ 12))), .val (bool (decide (a.campus ≥ 0) && decide (a.campus ≤ 6))), .val (bool (decide (a.credits ≥ 0) && decide (a.credits ≤ 60))), .row (Ci b), .val (int (orI (aK b.term a.term) (aK b.course a.course))), .b true] (by kernel_rfl) (.c hlt (.c hr (.c (@aG (a.course) 0 4095 (aZ st as_ a)) (.c (gd (!!(decide (a.course ≥ 0) && decide (a.course ≤ 4095))) (@aG (a.term) 0 1023 (aZ st as_ a))) (.c (gd (!(!(decide (a.course ≥ 0) && decide (a.course ≤ 4095)) || !(decide (a.term ≥ 0) && decide (a.term ≤ 1023)))) (@aG (a.grade) 0 12 (aZ st as_ a))) (.c (gd (!(!(decide (a.course ≥ 0) && decide (a.course ≤ 4095)) || !(decide (a.term ≥ 0) && decide (a.term ≤ 1023)) || !(decide (a.grade ≥ 0) && decide (a.grade ≤ 12)))) (@aG (a.campus) 0 6 (aZ st as_ a))) (.c (gd (!(!(decide (a.course ≥ 0) && decide (a.course ≤ 4095)) || !(decide (a.term ≥ 0) && decide (a.term ≤ 1023)) || !(decide (a.grade ≥ 0) && decide (a.grade ≤ 12)) || !(decide (a.campus ≥ 0) && decide (a.campus ≤ 6)))) (@aG (a.credits) 0 60 (aZ st as_ a))) (.c (show (!(!(decide (a.course ≥ 0) && decide (a.course ≤ 4095)) || !(decide (a.term ≥ 0) && decide (a.term ≤ 1023)) || !(decide (a.grade ≥ 0) && decide (a.grade ≤ 12)) || !(decide (a.campus ≥ 0) && decide (a.campus ≤ 6)) || !(decide (a.credits ≥ 0) && decide (a.credits ≤ 60))) && decide ((↑(i + 1) : Int) > 0)) = true → aH (Cc B8 ((↑(i + 1) : Int) - 1)) as_ (Ci b) 5 from (fun hg => hb)) (.c (gd (!(!(decide (a.course ≥ 0) && decide (a.course ≤ 4095)) || !(decide (a.term ≥ 0) && decide (a.term ≤ 1023)) || !(decide (a.grade ≥ 0) && decide (a.grade ≤ 12)) || !(decide (a.campus ≥ 0) && decide (a.campus ≤ 6)) || !(decide (a.credits ≥ 0) && decide (a.credits ≤ 60))) && decide ((↑(i + 1) : Int) > 0)) (@gN b a (aZ st as_ a))) (.c hc0 .n))))))))))) ?_ ?_ <;> (first | (have hh : gW (some b) a = true := (rk1 (i := i)).symm.trans hc0; simp only [rkF, hh, cond_true]; first | done | rfl) | (have hh : gW (some b) a = false := (rk1 (i := i)).symm.trans hc0; simp only [rkF, hh, cond_false]; first | done | rfl | (rw [hw]; rfl)))
theorem BD {st : Int} {as_ : List (List Dp)} {i : Nat} (hlt : decide ((i : Int) < (as_.length : Int)) = false) : (CW B7 Γ0 [] false (sub Gv 0) (rkS st as_ i) (.exit 0) { t := mkT 61 0 [(2, int 0)], h := [], m := [] }) := by
 exact Ct (Cu (s' := { t := mkT 61 0 [(2, int 0)], h := [], m := [] }) (e := CE 0) pok [.st (.mask [2]), .st (.trim 0)] [.b false] (by kernel_rfl) (.c hlt .n)) (by rfl) (by rfl)
def eW (l : List AttT) : List (Option AttT × AttT) := (none :: l.map some).zip l
def BE (l : List AttT) : Exit × AS := bn (.exit 0) (fun _ : Unit => { t := mkT 61 0 [(2, int 0)], h := [], m := [] }) rkX (forL rkF (eW l) ())
theorem rk_cw {st : Int} {l : List AttT} (hl : am l) :
  CW B7 Γ0 [] false (.loop (sub Gv 0)) (rkS st (l.map Ci) 0) (BE l).1 (BE l).2 := by
 have hlen : (eW l).length = l.length := by simp [eW]
 have := Eo (P := B7) (Γ := Γ0) (h0 := []) (rd := false) (c := sub Gv 0) (eW l) rkF (fun i _ => rkS st (l.map Ci) (i : Int)) (.exit 0) (fun _ : Unit => { t := mkT 61 0 [(2, int 0)], h := [], m := [] }) rkX (fun _ _ => True) (by simp) (fun _ => by simp) ?_ ?_ () trivial
 ·exact this
 ·intro i p u hp _
  obtain ⟨hi, he⟩ := Ce.1 hp
  rw [hlen] at hi
  have h2 : l[i]? = some p.2 := by subst he; simp [eW, Cv hi]
  refine ⟨fun _ _ => trivial, ?_⟩
  obtain ⟨o, a⟩ := p
  cases i with
  | zero =>
   have ho : o = none := by have := congrArg Ht he; simpa [eW] using this.symm
   subst ho
   exact yG (rowAt h2 rfl) (lt_len Ci hi)
  | succ i =>
   have h1 : l[i]? = some (l[i]'(by omega)) := Cv _
   have ho : o = some (l[i]'(by omega)) := by have := congrArg Ht he; simpa [eW] using this.symm
   subst ho
   refine yH (rowAt h2 rfl) ?_ (lt_len Ci hi) (wrap_succ hi hl)
   have : B8.wrap (((i + 1 : Nat) : Int) - 1) = (i : Int) := by
    have := hl; unfold am at this
    rw [wrap_i64 (by omega) (by omega)]; omega
   rw [this]
   exact rowAt h1 rfl
 ·intro u _
  rw [hlen]
  exact BD (bM Ci l)
def b7 (r : RecT) : Int := bif !(decide (r.st ≥ 0) && decide (r.st ≤ 19999)) then 150 else match forL rkF (eW r.a) () with | .inl _ => 0 | .inr _ => 150
theorem tU {r : RecT} (hl : am r.a) (h : List Blk) : (Ev B7 Γ0 30 [.agg r.l] h (int (b7 r)) h) := by
 cases hc0 : !(decide (r.st ≥ 0) && decide (r.st ≤ 19999))
 ·have hl1 := (@rk_cw (r.st) (r.a) (hl))
  unfold BE at hl1
  revert hl1
  cases ho2 : forL rkF (eW r.a) () with
  | inl o2_0_0 =>
   intro hl1
   exact Cj (Cn (d := int 0) pok [.val (bool (decide (r.st ≥ 0) && decide (r.st ≤ 19999))), .b false, .sum [1, 2, 10, 11, 12] (CE 0) { t := mkT 61 0 [(2, int 0)], h := [], m := [] }] (by kernel_rfl) (.c (@aG (r.st) 0 19999 ([.var [int r.st, ab (B6 Ci r.a)]])) (.c hc0 (.c hl1 .n))) rfl rfl h) (by simp only [b7, hc0, ho2, cond_false]) (by rfl)
  | inr o2_1_0 =>
   intro hl1
   exact Cj (Cn (d := int 150) pok [.val (bool (decide (r.st ≥ 0) && decide (r.st ≤ 19999))), .b false, .sum [1, 2, 10, 11, 12] (Dv) { t := mkT 61 0 [(2, int 150)], h := [], m := [] }] (by kernel_rfl) (.c (@aG (r.st) 0 19999 ([.var [int r.st, ab (B6 Ci r.a)]])) (.c hc0 (.c hl1 .n))) rfl rfl h) (by simp only [b7, hc0, ho2, cond_false]) (by rfl)
 ·exact Cj (Cn (d := int 150) pok [.val (bool (decide (r.st ≥ 0) && decide (r.st ≤ 19999))), .b true] (by kernel_rfl) (.c (@aG (r.st) 0 19999 ([.var [int r.st, ab (B6 Ci r.a)]])) (.c hc0 .n)) rfl rfl h) (by simp only [b7, hc0, cond_true]) (by rfl)
end Go.Vi
open Go Go.Proofs
namespace Go.Vi
end Go.Vi
open Go Go.Proofs
namespace Go.Vi
set_option maxRecDepth 100000
set_option maxHeartbeats 4000000
end Go.Vi
open Go Go.Proofs
namespace Go.Vi
set_option maxRecDepth 100000
set_option maxHeartbeats 4000000
theorem attV (a : AttT) : attB a = (decide (a.course ≥ 0) && decide (a.course < 4096) && decide (a.term ≥ 0) && decide (a.term < 1024) && decide (a.grade ≥ 0) && decide (a.grade ≤ 12) && decide (a.campus ≥ 0) && decide (a.campus < 7) && decide (a.credits ≥ 0) && decide (a.credits ≤ 60)) := by
 rw [Eu]
 simp only [attB, inB, Cd, decide_eq_true_eq]
 omega
theorem BF (a : AttT) (h : List Blk) : Ev B7 Γ0 80 [ag a.row] h (bool (attB a)) h := by
 rw [attV]; exact vB h
end Go.Vi
open Go Go.Proofs
namespace Go.Vi
set_option maxRecDepth 100000
set_option maxHeartbeats 4000000
abbrev yI (st : Int) (as_ : List (List Dp)) (i : Int) : AS := { t := mkT 52 0 [(1, .ref (.ptr 0 0)), (2, int 0), (3, int i)], h := [.var [int st, ab as_]], m := [] }
abbrev c16E : AS := { t := mkT 52 0 [], h := [], m := [] }
abbrev c16R : AS := { t := mkT 52 0 [(2, int 150)], h := [], m := [] }
abbrev c16X : Unit → Exit × AS := fun _ => (.ret, c16R)
def ordW (b a : AttT) : Bool := decide (b.term > a.term) || (b.term == a.term && decide (b.course ≥ a.course))
def zN (p : Option AttT × AttT) (_ : Unit) : Unit ⊕ Unit := bif attB p.2 then (match p.1 with | none => .inl () | some b => bif ordW b p.2 then .inr () else .inl ()) else .inr ()
noncomputable abbrev wE (st : Int) (as_ : List (List Dp)) (a : AttT) : List Blk := [.var [int st, ab as_], .var [int a.course, int a.term, int a.grade, int a.campus, int a.credits]]
theorem c16_b0 {st : Int} {as_ : List (List Dp)} {a : AttT} {v : Bool} (hr : aH 0 as_ a.row 5) (hlt : decide ((0 : Int) < (as_.length : Int)) = true) (hb : (!v) = false) (hv : ∀ h, Ev B7 Γ0 80 [ag a.row] h (bool v) h) : (CW B7 Γ0 [] false (sub F4 0) (yI st as_ 0) .normal (yI st as_ 1)) := by
 exact Ct (Cu (s' := { t := mkT 52 0 [(1, .ref (.ptr 0 0)), (2, int 0), (3, int (Cc B8 (0 + 1)))], h := [.var [int st, ab as_]], m := [] }) (e := Cq) pok [.st (.mask [1, 2, 3]), .st (.trim 1)] [.b true, .row (Ci a), .val (bool v), .b false, .b false] (by kernel_rfl) (.c hlt (.c hr (.c (@hv (wE st as_ a)) (.c hb (.c (show decide (0 > 0) = false from rfl) .n)))))) (by rfl) (by rfl)
noncomputable abbrev wF (st : Int) (as_ : List (List Dp)) (a : AttT) : List Blk := [.var [int st, ab as_], .var [int a.course, int a.term, int a.grade, int a.campus, int a.credits]]
theorem c16_bX {st : Int} {as_ : List (List Dp)} {a : AttT} {v : Bool} {i : Nat} (hr : aH (i : Int) as_ a.row 5) (hlt : decide ((i : Int) < (as_.length : Int)) = true) (hb : (!v) = true) (hv : ∀ h, Ev B7 Γ0 80 [ag a.row] h (bool v) h) : (CW B7 Γ0 [] false (sub F4 0) (yI st as_ i) .ret c16R) := by
 exact Ct (Cu (s' := { t := mkT 52 0 [(2, int 150)], h := [], m := [] }) (e := Dv) pok [.st (.mask [2]), .st (.trim 0)] [.b true, .row (Ci a), .val (bool v), .b true] (by kernel_rfl) (.c hlt (.c hr (.c (@hv (wF st as_ a)) (.c hb .n))))) (by rfl) (by rfl)
noncomputable abbrev wG (st : Int) (as_ : List (List Dp)) (a : AttT) : List Blk := [.var [int st, ab as_], .var [int a.course, int a.term, int a.grade, int a.campus, int a.credits]]
theorem c16_b1 {st : Int} {as_ : List (List Dp)} {a b : AttT} {v : Bool} {i : Nat} (hr : aH ((i + 1 : Nat) : Int) as_ a.row 5) (hr2 : aH (B8.wrap (((i + 1 : Nat) : Int) - 1)) as_ b.row 5) (hlt : decide (((i + 1 : Nat) : Int) < (as_.length : Int)) = true) (hgt : decide (((i + 1 : Nat) : Int) > 0) = true) (hw : B8.wrap (((i + 1 : Nat) : Int) + 1) = ((i + 1 + 1 : Nat) : Int)) (hb : (!v) = false) (ho : (decide (b.term > a.term) || (b.term == a.term && decide (b.course ≥ a.course))) = false) (hv : ∀ h, Ev B7 Γ0 80 [ag a.row] h (bool v) h) : (CW B7 Γ0 [] false (sub F4 0) (yI st as_ ((i + 1 : Nat) : Int)) .normal (yI st as_ ((i + 1 + 1 : Nat) : Int))) := by
 refine Ct (Cu (s' := { t := mkT 52 0 [(1, .ref (.ptr 0 0)), (2, int 0), (3, int (Cc B8 ((↑(i + 1) : Int) + 1)))], h := [.var [int st, ab as_]], m := [] }) (e := Cq) pok [.st (.mask [1, 2, 3]), .st (.trim 1)] [.b true, .row (Ci a), .val (bool v), .b false, .b true, .row (Ci b), .b false] (by kernel_rfl) (.c hlt (.c hr (.c (@hv (wG st as_ a)) (.c hb (.c hgt (.c hr2 (.c ho .n)))))))) ?_ ?_ <;> (first | rfl | (rw [hw]))
noncomputable abbrev tV (st : Int) (as_ : List (List Dp)) (a : AttT) : List Blk := [.var [int st, ab as_], .var [int a.course, int a.term, int a.grade, int a.campus, int a.credits]]
theorem BG {st : Int} {as_ : List (List Dp)} {a b : AttT} {v : Bool} {i : Nat} (hr : aH ((i + 1 : Nat) : Int) as_ a.row 5) (hr2 : aH (B8.wrap (((i + 1 : Nat) : Int) - 1)) as_ b.row 5) (hlt : decide (((i + 1 : Nat) : Int) < (as_.length : Int)) = true) (hgt : decide (((i + 1 : Nat) : Int) > 0) = true) (hb : (!v) = false) (ho : (decide (b.term > a.term) || (b.term == a.term && decide (b.course ≥ a.course))) = true) (hv : ∀ h, Ev B7 Γ0 80 [ag a.row] h (bool v) h) : (CW B7 Γ0 [] false (sub F4 0) (yI st as_ ((i + 1 : Nat) : Int)) .ret c16R) := by
 exact Ct (Cu (s' := { t := mkT 52 0 [(2, int 150)], h := [], m := [] }) (e := Dv) pok [.st (.mask [2]), .st (.trim 0)] [.b true, .row (Ci a), .val (bool v), .b false, .b true, .row (Ci b), .b true] (by kernel_rfl) (.c hlt (.c hr (.c (@hv (tV st as_ a)) (.c hb (.c hgt (.c hr2 (.c ho .n)))))))) (by rfl) (by rfl)
theorem yJ {st : Int} {as_ : List (List Dp)} {i : Nat} (hlt : decide ((i : Int) < (as_.length : Int)) = false) : (CW B7 Γ0 [] false (sub F4 0) (yI st as_ i) (.exit 0) c16E) := by
 exact Ct (Cu (s' := { t := mkT 52 0 [], h := [], m := [] }) (e := CE 0) pok [.st (.mask []), .st (.trim 0)] [.b false] (by kernel_rfl) (.c hlt .n)) (by rfl) (by rfl)
def wH (l : List AttT) : Exit × AS := bn (.exit 0) (fun _ : Unit => c16E) c16X (forL zN (eW l) ())
theorem c16_cw {st : Int} {l : List AttT} (hl : am l) :
  CW B7 Γ0 [] false (.loop (sub F4 0)) (yI st (l.map Ci) 0) (wH l).1 (wH l).2 := by
 have hlen : (eW l).length = l.length := by simp [eW]
 refine Eo (eW l) zN (fun i _ => yI st (l.map Ci) (i : Int)) (.exit 0) (fun _ => c16E) c16X (fun _ _ => True) (by simp) (fun _ => by simp []) ?_ ?_ () trivial
 ·intro i p u hp _
  obtain ⟨hi, he⟩ := Ce.1 hp
  rw [hlen] at hi
  have h2 : l[i]? = some p.2 := by subst he; simp [eW, Cv hi]
  refine ⟨fun _ _ => trivial, ?_⟩
  obtain ⟨o, a⟩ := p
  have hv := BF a
  unfold zN
  simp only
  cases hb : attB a
  ·rw [hb] at hv
   exact c16_bX (rowAt h2 rfl) (lt_len Ci hi) rfl hv
  ·rw [hb] at hv
   cases i with
   | zero =>
    have ho : o = none := by have := congrArg Ht he; simpa [eW] using this.symm
    subst ho
    exact c16_b0 (rowAt h2 rfl) (lt_len Ci hi) rfl hv
   | succ i =>
    have h1 : l[i]? = some (l[i]'(by omega)) := Cv _
    have ho : o = some (l[i]'(by omega)) := by have := congrArg Ht he; simpa [eW] using this.symm
    subst ho
    have hr2 : aH (B8.wrap (((i + 1 : Nat) : Int) - 1)) (l.map Ci) (l[i]'(by omega)).row 5 := by
     have : B8.wrap (((i + 1 : Nat) : Int) - 1) = (i : Int) := by
      have := hl; unfold am at this
      rw [wrap_i64 (by omega) (by omega)]; omega
     rw [this]
     exact rowAt h1 rfl
    simp only [cond_true]
    cases hq : ordW (l[i]'(by omega)) a
    ·exact c16_b1 (rowAt h2 rfl) hr2 (lt_len Ci hi) (decide_eq_true (by omega)) (wrap_succ hi hl) rfl hq hv
    ·exact BG (rowAt h2 rfl) hr2 (lt_len Ci hi) (decide_eq_true (by omega)) rfl hq hv
 ·intro u _
  rw [hlen]
  exact yJ (bM Ci l)
def fF (r : RecT) : Int := bif !(decide (r.st ≥ 0) && decide (r.st ≤ 19999)) then 150 else match forL zN (eW r.a) () with | .inl _ => 0 | .inr _ => 150
theorem tW {r : RecT} (hl : am r.a) (h : List Blk) : (Ev B7 Γ0 31 [.agg r.l] h (int (fF r)) h) := by
 cases hc0 : !(decide (r.st ≥ 0) && decide (r.st ≤ 19999))
 ·have hl1 := (@c16_cw (r.st) (r.a) (hl))
  unfold wH at hl1
  revert hl1
  cases ho2 : forL zN (eW r.a) () with
  | inl o2_0_0 =>
   intro hl1
   exact Cj (Cn (d := int 0) pok [.val (bool (decide (r.st ≥ 0) && decide (r.st ≤ 19999))), .b false, .sum [1, 2, 3] (CE 0) { t := mkT 52 0 [], h := [], m := [] }] (by kernel_rfl) (.c (@bb (r.st) 0 19999 ([.var [int r.st, ab (B6 Ci r.a)]])) (.c hc0 (.c hl1 .n))) rfl rfl h) (by simp only [fF, hc0, ho2, cond_false]) (by rfl)
  | inr o2_1_0 =>
   intro hl1
   exact Cj (Cn (d := int 150) pok [.val (bool (decide (r.st ≥ 0) && decide (r.st ≤ 19999))), .b false, .sum [1, 2, 3] (Dv) { t := mkT 52 0 [(2, int 150)], h := [], m := [] }] (by kernel_rfl) (.c (@bb (r.st) 0 19999 ([.var [int r.st, ab (B6 Ci r.a)]])) (.c hc0 (.c hl1 .n))) rfl rfl h) (by simp only [fF, hc0, ho2, cond_false]) (by rfl)
 ·exact Cj (Cn (d := int 150) pok [.val (bool (decide (r.st ≥ 0) && decide (r.st ≤ 19999))), .b true] (by kernel_rfl) (.c (@bb (r.st) 0 19999 ([.var [int r.st, ab (B6 Ci r.a)]])) (.c hc0 .n)) rfl rfl h) (by simp only [fF, hc0, cond_true]) (by rfl)
theorem ord_W (b a : AttT) : decide (uj b a ≥ 0) = ordW b a := by
 have h : (ltOf uj) b a = false ↔ ¬ (b.term < a.term ∨ (b.term = a.term ∧ b.course < a.course)) := kH b a
 unfold ltOf at h
 rw [decide_eq_false_iff_not] at h
 rw [Eu, decide_eq_true_eq]
 simp only [ordW, Bool.or_eq_true, Cd, decide_eq_true_eq, beq_iff_eq]
 omega
theorem c16_rk (p : Option AttT × AttT) : zN p () = rkF p () := by
 obtain ⟨o, a⟩ := p
 have : yF a = attB a := rfl
 unfold zN rkF gW
 simp only [this]
 cases attB a
 ·rfl
 ·cases o with
  | none => rfl
  | some b =>
   simp only [ord_W, cond_true, Bool.not_true, Bool.false_or]
theorem tX (r : RecT) : fF r = b7 r := by
 have e : zN = rkF := by
  funext p u
  exact c16_rk p
 unfold fF b7
 rw [e]
 try rfl
end Go.Vi
open Go Go.Proofs
namespace Go.Vi
set_option maxRecDepth 100000
set_option maxHeartbeats 4000000
def bet (a b : AttT) (kind k i : Int) : Bool := match kind == 0 with
 | true => match a.grade != b.grade with
  | true => decide (a.grade > b.grade)
  | false => match a.term != b.term with
   | true => decide (a.term < b.term)
   | false => decide (k < i)
 | false => match a.term != b.term with
  | true => decide (a.term > b.term)
  | false => decide (k > i)
theorem sQ {l : List (List Dp)} (h : List Blk) : (Ev B7 Γ0 25 [ab l] h (bool (decide ((l.length : Int) ≤ 40))) h) := by
 exact Cj (Cn (d := bool (decide ((↑(Cb l) : Int) ≤ 40))) pok [] (by kernel_rfl) .n rfl rfl h) (by rfl) (by rfl)
end Go.Vi
open Go Go.Proofs
namespace Go.Vi
set_option maxRecDepth 100000
set_option maxHeartbeats 4000000
end Go.Vi
open Go Go.Proofs
namespace Go.Vi
set_option maxRecDepth 100000
set_option maxHeartbeats 4000000
end Go.Vi
open Go Go.Proofs
namespace Go.Vi
set_option maxRecDepth 100000
set_option maxHeartbeats 4000000
def outBy (a b : AttT) (x : Int) (k i : Int) : Bool := k != i && x != 2 && b.course == a.course && bet b a x k i
def kdG (a : AttT) (x : Int) (i : Nat) (c : Bool) (p : AttT × Nat) : Bool := bif outBy a p.1 x (p.2 : Int) (i : Int) then false else c
def stays (l : List AttT) (a : AttT) (x : Int) (i : Nat) : Bool := l.zipIdx.foldl (kdG a x i) true
end Go.Vi
open Go Go.Proofs
namespace Go.Vi
set_option maxRecDepth 100000
set_option maxHeartbeats 4000000
end Go.Vi
open Go Go.Proofs
namespace Go.Vi
set_option maxRecDepth 100000
set_option maxHeartbeats 4000000
end Go.Vi
open Go Go.Proofs
namespace Go.Vi
set_option maxRecDepth 100000
set_option maxHeartbeats 4000000
end Go.Vi
open Go Go.Proofs
namespace Go.Vi
set_option maxRecDepth 100000
set_option maxHeartbeats 4000000
end Go.Vi
open Go Go.Proofs
namespace Go.Vi
set_option maxRecDepth 100000
set_option maxHeartbeats 4000000
end Go.Vi
open Go Go.Proofs
namespace Go.Vi
set_option maxRecDepth 100000
set_option maxHeartbeats 1000000
end Go.Vi
open Go Go.Proofs
namespace Go.Vi
set_option maxRecDepth 100000
set_option maxHeartbeats 4000000
abbrev bA (l : List Int) : List (List Dp) := l.map fun n => [vi n]
abbrev ctS (l : List (List Dp)) (c i : Int) : AS := { t := mkT 18 0 [(0, ab l), (1, int c), (4, bool false), (5, int i)], h := [], m := [] }
abbrev ctX : Unit → Exit × AS := fun _ => (.ret, { t := mkT 18 0 [(4, bool true)], h := [], m := [] })
def ctF (c x : Int) (_ : Unit) : Unit ⊕ Unit := bif x == c then .inr () else .inl ()
theorem BH {l : List (List Dp)} {x c : Int} {i : Nat} (hr : aH (i : Int) l [vi x] 1) (hlt : decide ((i : Int) < (l.length : Int)) = true) (hw : B8.wrap ((i : Int) + 1) = ((i + 1 : Nat) : Int)) : (CW B7 Γ0 [] false (sub Tryz.f126 0) (ctS l c i) (ad (fun _ : Unit => ctS l c ((i + 1 : Nat) : Int)) ctX (ctF c x ())).1 (ad (fun _ : Unit => ctS l c ((i + 1 : Nat) : Int)) ctX (ctF c x ())).2) := by
 cases hc0 : x == c
 ·exact Ct (Cu (s' := { t := mkT 18 0 [(0, ab l), (1, int c), (4, bool false), (5, int (Cc B8 ((↑i : Int) + 1)))], h := [], m := [] }) (e := Cq) pok [.st (.mask [0, 1, 4, 5])] [.b true, .row [vi x], .b false] (by kernel_rfl) (.c hlt (.c hr (.c hc0 .n)))) (by simp only [ctF, hc0, cond_false]; first | done | rfl | (rw [hw]; rfl)) (by simp only [ctF, hc0, cond_false]; first | done | rfl | (rw [hw]; rfl))
 ·exact Ct (Cu (s' := { t := mkT 18 0 [(4, bool true)], h := [], m := [] }) (e := Dv) pok [.st (.mask [4])] [.b true, .row [vi x], .b true] (by kernel_rfl) (.c hlt (.c hr (.c hc0 .n)))) (by simp only [ctF, hc0, cond_true]; first | done | rfl | (rw [hw]; rfl)) (by simp only [ctF, hc0, cond_true]; first | done | rfl | (rw [hw]; rfl))
theorem BI {l : List (List Dp)} {c : Int} {i : Nat} (hlt : decide ((i : Int) < (l.length : Int)) = false) : (CW B7 Γ0 [] false (sub Tryz.f126 0) (ctS l c i) (.exit 0) { t := mkT 18 0 [], h := [], m := [] }) := by
 exact Ct (Cu (s' := { t := mkT 18 0 [], h := [], m := [] }) (e := CE 0) pok [.st (.mask [])] [.b false] (by kernel_rfl) (.c hlt .n)) (by rfl) (by rfl)
def ctR (l : List Int) (c : Int) : Unit ⊕ Unit := forL (ctF c) l ()
def BJ (l : List Int) (c : Int) : Exit × AS := bn (.exit 0) (fun _ : Unit => { t := mkT 18 0 [], h := [], m := [] }) ctX (ctR l c)
theorem ct_cw {l : List Int} (hl : am l) {c : Int} : CW B7 Γ0 [] false (.loop (sub Tryz.f126 0)) (ctS (bA l) c 0) (BJ l c).1 (BJ l c).2 := by
 refine Eo l (ctF c) (fun i _ => ctS (bA l) c (i : Int)) (.exit 0) (fun _ => { t := mkT 18 0 [], h := [], m := [] }) ctX (fun _ _ => True) (by simp) (fun _ => by simp []) ?_ ?_ () trivial
 ·intro i x _ hx _
  have hi := (Ce.1 hx).1
  exact ⟨fun _ _ => trivial, BH (rowAt (row := fun n => [vi n]) hx rfl) (lt_len _ hi) (wrap_succ hi hl)⟩
 ·intro _ _
  exact BI (bM _ l)
theorem tY {l : List Int} (hl : am l) {c : Int} (h : List Blk) : (Ev B7 Γ0 126 [ab (bA l), int c] h (bool (match ctR l c with | .inl _ => false | .inr _ => true)) h) := by
 have hl0 := (@ct_cw (l) (hl) (c))
 unfold BJ at hl0
 revert hl0
 cases ho1 : ctR l c with
 | inl o1_0_0 =>
  intro hl0
  exact Cj (Cn (d := bool false) pok [.sum [0, 1, 4, 5] (CE 0) { t := mkT 18 0 [], h := [], m := [] }] (by kernel_rfl) (.c hl0 .n) rfl rfl h) (by simp only []) (by rfl)
 | inr o1_1_0 =>
  intro hl0
  exact Cj (Cn (d := bool true) pok [.sum [0, 1, 4, 5] (Dv) { t := mkT 18 0 [(4, bool true)], h := [], m := [] }] (by kernel_rfl) (.c hl0 .n) rfl rfl h) (by simp only []) (by rfl)
theorem ctR_eq (l : List Int) (c : Int) : (match ctR l c with | .inl _ => false | .inr _ => true) = l.contains c := by
 unfold ctR
 induction l with
 | nil => rfl
 | cons x l ih =>
  have e : (x == c) = (c == x) := by rw [Eu]; simp only [beq_iff_eq]; exact eq_comm
  simp only [forL, ctF, List.contains_cons, e]
  cases (c == x)
  ·simpa using ih
  ·rfl
theorem wI {l : List Int} (hl : am l) {c : Int} (h : List Blk) : Ev B7 Γ0 126 [ab (bA l), int c] h (bool (l.contains c)) h := by rw [← ctR_eq]; exact tY hl h
abbrev s7S (ls out : List (List Dp)) (i n : Int) : AS := { t := mkT 46 0 [(0, ab ls), (3, ab out), (4, int i), (5, int n)], h := [], m := [] }
abbrev s7O (ls out : List (List Dp)) (i : Int) : AS := { t := mkT 46 0 [(0, ab ls), (3, ab out), (4, int i)], h := [], m := [] }
def s7F (x y : Int) (n : Nat) : Nat ⊕ Nat := bif decide (y < x) then .inl (n + 1) else .inr n
theorem BK {ls out : List (List Dp)} {x y : Int} {i n : Nat} (hr : aH (i : Int) ls [vi x] 1) (ho : aH (n : Int) out [vi y] 1) (hlt : decide ((n : Int) < (out.length : Int)) = true) (hw : B8.wrap ((n : Int) + 1) = ((n + 1 : Nat) : Int)) : (CW B7 Γ0 [] false (sub FG 1) (s7S ls out i n) (ad (fun m : Nat => s7S ls out i m) (fun m : Nat => (.exit 2, s7S ls out i m)) (s7F x y n)).1 (ad (fun m : Nat => s7S ls out i m) (fun m : Nat => (.exit 2, s7S ls out i m)) (s7F x y n)).2) := by
 cases hc0 : decide (y < x)
 ·exact Ct (Cu (s' := { t := mkT 46 0 [(0, ab ls), (3, ab out), (4, int (↑i : Int)), (5, int (↑n : Int))], h := [], m := [] }) (e := CE 2) pok [.st (.mask [0, 3, 4, 5])] [.g true, .g true, .g true, .row [vi y], .g true, .g true, .g true, .g true, .row [vi x], .g true, .g true, .ov 27 (bool (decide (y < x))), .b false] (by kernel_rfl) (.c (show (decide ((↑n : Int) < (↑(Cb out) : Int)) == true) = true from (by rw [hlt]; rfl)) (.c (show (decide ((↑n : Int) < (↑(Cb out) : Int)) == true) = true from (by rw [hlt]; rfl)) (.c (show (decide ((↑n : Int) < (↑(Cb out) : Int)) == true) = true from (by rw [hlt]; rfl)) (.c ho (.c (show (decide ((↑n : Int) < (↑(Cb out) : Int)) == true) = true from (by rw [hlt]; rfl)) (.c (show (decide ((↑n : Int) < (↑(Cb out) : Int)) == true) = true from (by rw [hlt]; rfl)) (.c (show (decide ((↑n : Int) < (↑(Cb out) : Int)) == true) = true from (by rw [hlt]; rfl)) (.c (show (decide ((↑n : Int) < (↑(Cb out) : Int)) == true) = true from (by rw [hlt]; rfl)) (.c hr (.c (show (decide ((↑n : Int) < (↑(Cb out) : Int)) == true) = true from (by rw [hlt]; rfl)) (.c (show (decide ((↑n : Int) < (↑(Cb out) : Int)) == true) = true from (by rw [hlt]; rfl)) (.c (show ae (bool (decide ((↑n : Int) < (↑(Cb out) : Int)))) (bool (decide (y < x))) (bool false) (bool (decide (y < x))) from (af hlt rfl)) (.c hc0 .n)))))))))))))) (by simp only [s7F, hc0, cond_false]; first | done | rfl | (rw [hw]; rfl)) (by simp only [s7F, hc0, cond_false]; first | done | rfl | (rw [hw]; rfl))
 ·exact Ct (Cu (s' := { t := mkT 46 0 [(0, ab ls), (3, ab out), (4, int (↑i : Int)), (5, int (Cc B8 ((↑n : Int) + 1)))], h := [], m := [] }) (e := Cq) pok [.st (.mask [0, 3, 4, 5])] [.g true, .g true, .g true, .row [vi y], .g true, .g true, .g true, .g true, .row [vi x], .g true, .g true, .ov 27 (bool (decide (y < x))), .b true] (by kernel_rfl) (.c (show (decide ((↑n : Int) < (↑(Cb out) : Int)) == true) = true from (by rw [hlt]; rfl)) (.c (show (decide ((↑n : Int) < (↑(Cb out) : Int)) == true) = true from (by rw [hlt]; rfl)) (.c (show (decide ((↑n : Int) < (↑(Cb out) : Int)) == true) = true from (by rw [hlt]; rfl)) (.c ho (.c (show (decide ((↑n : Int) < (↑(Cb out) : Int)) == true) = true from (by rw [hlt]; rfl)) (.c (show (decide ((↑n : Int) < (↑(Cb out) : Int)) == true) = true from (by rw [hlt]; rfl)) (.c (show (decide ((↑n : Int) < (↑(Cb out) : Int)) == true) = true from (by rw [hlt]; rfl)) (.c (show (decide ((↑n : Int) < (↑(Cb out) : Int)) == true) = true from (by rw [hlt]; rfl)) (.c hr (.c (show (decide ((↑n : Int) < (↑(Cb out) : Int)) == true) = true from (by rw [hlt]; rfl)) (.c (show (decide ((↑n : Int) < (↑(Cb out) : Int)) == true) = true from (by rw [hlt]; rfl)) (.c (show ae (bool (decide ((↑n : Int) < (↑(Cb out) : Int)))) (bool (decide (y < x))) (bool false) (bool (decide (y < x))) from (af hlt rfl)) (.c hc0 .n)))))))))))))) (by simp only [s7F, hc0, cond_true]; first | done | rfl | (rw [hw]; rfl)) (by simp only [s7F, hc0, cond_true]; first | done | rfl | (rw [hw]; rfl))
theorem BL {ls out : List (List Dp)} {i : Int} {n : Nat} (hlt : decide ((n : Int) < (out.length : Int)) = false) : (CW B7 Γ0 [] false (sub FG 1) (s7S ls out i n) (.exit 2) (s7S ls out i n)) := by
 exact Ct (Cu (s' := { t := mkT 46 0 [(0, ab ls), (3, ab out), (4, int i), (5, int (↑n : Int))], h := [], m := [] }) (e := CE 2) pok [.st (.mask [0, 3, 4, 5])] [.g false, .g false, .g false, .g false, .g false, .g false, .g false, .g false, .g false, .ov 27 (bool false), .b false] (by kernel_rfl) (.c (show (decide ((↑n : Int) < (↑(Cb out) : Int)) == true) = false from (by rw [hlt]; rfl)) (.c (show (decide ((↑n : Int) < (↑(Cb out) : Int)) == true) = false from (by rw [hlt]; rfl)) (.c (show (decide ((↑n : Int) < (↑(Cb out) : Int)) == true) = false from (by rw [hlt]; rfl)) (.c (show (decide ((↑n : Int) < (↑(Cb out) : Int)) == true) = false from (by rw [hlt]; rfl)) (.c (show (decide ((↑n : Int) < (↑(Cb out) : Int)) == true) = false from (by rw [hlt]; rfl)) (.c (show (decide ((↑n : Int) < (↑(Cb out) : Int)) == true) = false from (by rw [hlt]; rfl)) (.c (show (decide ((↑n : Int) < (↑(Cb out) : Int)) == true) = false from (by rw [hlt]; rfl)) (.c (show (decide ((↑n : Int) < (↑(Cb out) : Int)) == true) = false from (by rw [hlt]; rfl)) (.c (show (decide ((↑n : Int) < (↑(Cb out) : Int)) == true) = false from (by rw [hlt]; rfl)) (.c (show ae (bool (decide ((↑n : Int) < (↑(Cb out) : Int)))) (Ei (Dp.v (Value.tuple { toList := [] }))) (bool false) (bool false) from (ai hlt rfl)) (.c (show false = false from rfl) .n)))))))))))) (by rfl) (by rfl)
def s7P (out : List Int) (x : Int) : Nat := match forL (s7F x) out 0 with | .inl n => n | .inr n => n
theorem s7_cw {ls out : List Int} (hl : am out) {i : Nat} {x : Int} (hx : ls[i]? = some x) : CW B7 Γ0 [] false (.loop (sub FG 1)) (s7S (bA ls) (bA out) i 0) (.exit 2) (s7S (bA ls) (bA out) i (s7P out x)) := by
 have := Eo (P := B7) (Γ := Γ0) (h0 := []) (rd := false) (c := sub FG 1) out (s7F x) (fun _ n => s7S (bA ls) (bA out) i (n : Int)) (.exit 2) (fun n => s7S (bA ls) (bA out) i (n : Int)) (fun n : Nat => (.exit 2, s7S (bA ls) (bA out) i (n : Int)))
  (fun k n => n = k) (by simp) (by simp) ?_ ?_ 0 rfl
 ·unfold s7P
  cases h : forL (s7F x) out 0 <;> rw [h] at this <;> exact this
 ·intro k y n hy hn
  subst hn
  have hi := (Ce.1 hy).1
  refine ⟨fun m h => ?_, BK (rowAt (row := fun n => [vi n]) hx rfl) (rowAt (row := fun n => [vi n]) hy rfl) (lt_len _ hi) (wrap_succ hi hl)⟩
  unfold s7F at h
  cases hc : decide (y < x) <;> rw [hc] at h <;> simp at h
  exact h.symm
 ·intro n hn
  subst hn
  exact BL (bM _ out)
def ul (out : List Int) (x : Int) : List Int := out.take (s7P out x) ++ [x] ++ out.drop (s7P out x)
section
variable {rows : List (List Dp)} {sz p : Nat}
theorem wJ {b : Bool} (hp : p ≤ rows.length) (hz : ∀ r ∈ rows, r.length = sz) : (kX 0 (p : Int) rows.length && true && (true || b) && rows.all fun r => decide (r.length = sz)) = true := by
 have h1 : (rows.all fun r => decide (r.length = sz)) = true := by rw [CB]; intro r hr; exact decide_eq_true (hz r hr)
 rw [h1]; simp [kX]; omega
theorem wK {b : Bool} (hp : p ≤ rows.length) (hz : ∀ r ∈ rows, r.length = sz) : (kX (p : Int) (rows.length : Int) rows.length && true && (true || b) && rows.all fun r => decide (r.length = sz)) = true := by
 have h1 : (rows.all fun r => decide (r.length = sz)) = true := by rw [CB]; intro r hr; exact decide_eq_true (hz r hr)
 rw [h1]; simp [kX]; omega
theorem zO {a b n k : Nat} (hz : ∀ r ∈ rows, aO sz (r.map Ei) = true) (hn : n * k ≤ 140737488355328) (h2 : n ≤ 4611686018427387904) : (((CY a (DU b rows)).map fun x => x.map Ei).all (aO sz) && roomOk n k) = true := by
 have h1 : ((CY a (DU b rows)).map fun x => x.map Ei).all (aO sz) = true := by
  rw [CB]
  intro r hr
  obtain ⟨x, hx, rfl⟩ := CC.1 hr
  exact hz x (List.mem_of_mem_drop (List.mem_of_mem_take hx))
 rw [h1]; simp [roomOk]; omega
theorem wL {x : List Dp} {r : List D} (hr : r = x.map Ei) : (B6 (fun x => B6 Ei x) (CY (Cf (p : Int) - Cf 0) (DU (Cf 0) rows)) ++ [r] ++ B6 (fun x => B6 Ei x) (CY (Cf (rows.length : Int) - Cf (p : Int)) (DU (Cf (p : Int)) rows))) = B6 (fun x => B6 Ei x) (rows.take p ++ [x] ++ rows.drop p) := by
 subst hr
 have e1 : Cf (p : Int) - Cf 0 = p := by simp
 have e2 : CY (Cf (rows.length : Int) - Cf (p : Int)) (DU (Cf (p : Int)) rows) = rows.drop p := by
  rw [List.take_of_length_le (by simp)]; simp
 rw [e1, e2]
 simp
end
theorem re {R : List (List Dp)} {r : List D} {n : Nat} (hr : D.innL n r = true) : ((R.map fun x => x.map Ei) ++ [r]).all (D.innL n) = true := by
 have := aR R n
 rw [GO, Cd]
 exact ⟨this, by simp [hr]⟩
theorem wM {R S : List (List Dp)} {r : List D} {n : Nat} (hr : D.innL n r = true) : ((R.map fun x => x.map Ei) ++ [r] ++ S.map fun x => x.map Ei).all (D.innL n) = true := by
 have := aR S n
 rw [GO, Cd]
 exact ⟨re hr, this⟩
theorem sR (l : List Int) : ∀ r ∈ bA l, r.length = 1 := by intro r hr; obtain ⟨x, _, rfl⟩ := CC.1 hr; rfl
theorem BM (l : List Int) : ∀ r ∈ bA l, aO 1 (r.map Ei) = true := by intro r hr; obtain ⟨x, _, rfl⟩ := CC.1 hr; rfl
theorem wN (out : List Int) (x : Int) : bA (ul out x) = (bA out).take (s7P out x) ++ [[vi x]] ++ (bA out).drop (s7P out x) := by simp [ul, List.map_take, List.map_drop]
theorem zP (out : List Int) (x : Int) : s7P out x ≤ out.length := by
 have key : ∀ (l : List Int) (n : Nat), (match forL (s7F x) l n with | .inl n => n | .inr n => n) ≤ n + l.length := by
  intro l
  induction l with
  | nil => intro n; simp [forL]
  | cons y l ih =>
   intro n
   simp only [forL, s7F, Di]
   cases decide (y < x)
   ·simp
   ·have := ih (n + 1); simp only [cond_true]; omega
 have := key out 0
 unfold s7P
 omega
end Go.Vi
