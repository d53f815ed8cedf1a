/- RecordCountedSpecUpto: part of the proof: contracts of the functions that the law reaches, and the law. No conditions beyond the given statement's own. -/
import Derived.Test.YtilebidefogaiaaGreatDoorW5
import Derived.Ground.SlsfProg
import Derived.Test.YtilebidefogaiaaGreatDoorCards
import Derived.Test.YtilebidefogaiaaGreatDoorTie
import Derived.WalkKit
import Derived.ProofKit
import Derived.OpenShut
import Derived.Deep.DeepHandedRow
import Derived.Lib.LaidTab
import Derived.LaidHandle
open Go.Vi.D renaming mapRL → Am, p → Bc, agg → AQ, tup → Av
open Go.Vi.Blk renaming inn → zE
open List renaming map → y9, all → D3, length → zf, length_map → AN, getElem?_eq_getElem → zp, length_take → BR, take_add_one → C8, getElem?_eq_some_iff → zc, range → Ab, getD → zi, replicate → zz, foldl_cons → Dw, map_cons → AH, forall_mem_cons → zW, mem_cons_self → Ak, mem_cons_of_mem → AO, mem_cons → zR, drop_drop → Cg, take_append_drop → B9, drop_zero → Da, all_cons → Bu, contains_iff_mem → DP, mem_map → zI, mem_of_getElem? → zL, getElem?_map → Az, getElem_range → Ek, mapM_cons → DI
open Go.Vi.CourseT renaming row → zS
open Go.Vi.SysT renaming row → zZ
open Go.Vi.FactT renaming row → zo
open Go.Vi.AttT renaming row → za
open Go.IntKind renaming i64 → zb, wrap → zg
open Go.Proofs.Tryz renaming prog → y6, f57 → D2, f24 → D5, underlying111 → Ej
open Go.Vi.CW renaming cast → zt, symX → zu
open Go.Exit renaming normal → zr, exit → zQ
open Go.Vi.RuleT renaming fl → y7, row → BC, fl_row → Dx
open Go.Vi.WorldT renaming l → Bx
open Bool renaming true_and → Ad, and_eq_true → zd
open Go.Value renaming oneCell' → Bs, okWide → CA
open Option renaming toList_some → D4, bind_eq_some_iff → A0, map_eq_some_iff → ze, bind_eq_bind → DQ
open Go.Vi.Ev renaming castH → zk, sym0 → zm, glob0 → zV
open Option.some renaming injEq → y5
open Go.Vi.Memo renaming okW_of → BW
open Go.Proofs.YtilebidefogaiaaGreatDoor.Rows renaming laid_sizar_rules_kinds → Bb, uptoBulk → Aj, uptoBulkAll → Bd
open Go.DataW renaming trod → BM, weights → Dk
open Prod.mk renaming injEq → y8
open Go.DataW.agg renaming injEq → D6
open Go Go.Proofs
namespace Go.Vi
set_option maxRecDepth 100000
set_option maxHeartbeats 4000000
abbrev c57H (w : WorldT) (r : RecT) (xs : List Int) (rs : List ReadT) : List Blk := [.var w.l, .var r.l, .vec (cvV xs) 0 1, .vec (aC (rdR rs)) 0 5]
abbrev y4 (w : WorldT) (r : RecT) (term known : Int) (xs : List Int) (rs : List ReadT) (i : Int) : AS := { t := mkT 71 0 [(2, int term), (3, int known), (4, .ref (.ptr 0 0)), (5, .ref (.ptr 1 0)), (11, .ref (.vec 2 0)), (12, .ref (.vec 3 0)), (13, int i)], h := c57H w r xs rs, m := [] }
theorem t8 (xs : List Int) (v : Int) : cvV xs ++ [[int v]] = cvV (xs ++ [v]) := by simp []
theorem wR (f : Ref → D) (xs : List Int) (v : Int) : (cvV xs ++ [[int v]]).map (Am f) = cvV xs ++ [[int v]] := by rw [t8]; exact ay _ _
theorem wS (n : Nat) (xs : List Int) (v : Int) (e c : Nat) : zE n (.vec (cvV xs ++ [[int v]]) e c) = true := by rw [t8]; exact ax
theorem wT (f : Ref → D) (rs qs : List ReadT) : (aC (rdR rs) ++ (rdR qs).map fun x => x.map Bc).map (Am f) = aC (rdR rs) ++ (rdR qs).map fun x => x.map Bc := by
 have : (rdR qs).map (fun x => x.map Bc) = aC (rdR qs) := rfl
 rw [this, tG]; exact ay _ _
theorem wU (n : Nat) (rs qs : List ReadT) (e c : Nat) : zE n (.vec (aC (rdR rs) ++ (rdR qs).map fun x => x.map Bc) e c) = true := by
 have : (rdR qs).map (fun x => x.map Bc) = aC (rdR qs) := rfl
 rw [this, tG]; exact ax
theorem ib {w : WorldT} {r : RecT} {term known v : Int} {xs : List Int} {rs qs : List ReadT} {j : Int} : ({ t := mkT 71 0 [(2, int term), (3, int known), (4, .ref (.ptr 0 0)), (5, .ref (.ptr 1 0)), (11, .ref (.vec 2 0)), (12, .ref (.vec 3 0)), (13, int j)], h := [.var w.l, .var r.l, .vec (cvV xs ++ [[int v]]) 0 1, .vec (aC (rdR rs) ++ (rdR qs).map fun x => x.map Bc) 0 5], m := [] } : AS) = y4 w r term known (xs ++ [v]) (rs ++ qs) j := by
 simp only [y4, c57H, ← t8, ← tG]
noncomputable abbrev jO (w : WorldT) (r : RecT) (xs : List Int) (rs : List ReadT) : List Blk := [.var [aa (y9 zS w.c), aa w.p, aa (y9 zZ w.s), aa (y9 zo w.f)], .var [int r.st, aa (y9 za r.a)], .vec (cvV xs) 0 1, .vec (aC (rdR rs)) 0 5, .var [ai { data := #[] }, int 0, int 0, int 0, int 0, int 0, ai { data := #[] }, int 0, int 0, nq, int 0, int 0, ai { data := #[] }, int 0, int 0, nq]]
noncomputable abbrev bn (w : WorldT) (r : RecT) (xs : List Int) (rs : List ReadT) : List Blk := [.var [aa (y9 zS w.c), aa w.p, aa (y9 zZ w.s), aa (y9 zo w.f)], .var [int r.st, aa (y9 za r.a)], .vec (cvV xs) 0 1, .vec (aC (rdR rs)) 0 5]
noncomputable abbrev c57_body_x2 (w : WorldT) (a : AttT) (term : Int) (known : Int) : List D := [AQ [aa (y9 zS w.c), aa w.p, aa (y9 zZ w.s), aa (y9 zo w.f)], int a.course, int term, int known]
theorem vN {w : WorldT} {r : RecT} {a : AttT} {c : CourseT} {b : Bool} {qs : List ReadT} {term known : Int} {xs : List Int} {rs : List ReadT} {i : Nat} (hx : xs.length ≤ 900000000) (hq : rs.length + qs.length ≤ 900000000) (hr : aj (i : Int) (r.a.map za) a.row 5) (hlt : decide ((i : Int) < ((r.a.map za).length : Int)) = true) (hwr : zb.wrap ((i : Int) + 1) = ((i + 1 : Nat) : Int))
 (hcall : ∀ h, Ev y6 Γ0 76 [.agg w.l, int a.course, int term, int known] h (.tup [ag c.row, aa (rdR qs), bool b]) h) (hz : b = false → c.rep = 0) : (CW y6 Γ0 [] false (sub D2 0) (y4 w r term known xs rs i) .normal (y4 w r term known (xs ++ [c.rep]) (rs ++ qs) ((i + 1 : Nat) : Int))) := by
 cases hc0 : b
 ·refine zt (zu (s' := { t := mkT 71 0 [(2, int term), (3, int known), (4, .ref (.ptr 0 0)), (5, .ref (.ptr 1 0)), (11, .ref (.vec 2 0)), (12, .ref (.vec 3 0)), (13, int (zg zb ((↑i : Int) + 1)))], h := [.var [aa (y9 zS w.c), aa w.p, aa (y9 zZ w.s), aa (y9 zo w.f)], .var [int r.st, aa (y9 za r.a)], .vec (cvV xs ++ [[int 0]]) 0 1, .vec (aC (rdR rs) ++ y9 (fun x => y9 Bc x) (rdR qs)) 0 5], m := [] }) (e := zr) pok [.st (.mask [2, 3, 4, 5, 11, 12, 13]), .st (.ren 2 0), .st (.ren 3 0), .st (.trimV 4)] [.b true, .row (za a), .val (Av [AQ [ai c.name, int c.number, int c.credits, int c.rep, int (y7 c.need).op, int (y7 c.need).c, ai (y7 c.need).nm, int (y7 c.need).n, int (y7 c.need).d, aa (y7 c.need).ks, int (y7 c.bar).op, int (y7 c.bar).c, ai (y7 c.bar).nm, int (y7 c.bar).n, int (y7 c.bar).d, aa (y7 c.bar).ks], aa (rdR qs), bool b]), .b false] (by kernel_rfl) (.c hlt (.c hr (.c (@hcall (bn w r xs rs)) (.e (AQ (Bx w)) (.e (AQ (Bx w)) (.e (.ref (.ptr 1 1)) (.e (.ref (.ptr 1 1)) (.e (aa (y9 za r.a)) (.e (aa (y9 za r.a)) (.c (show (bn w r xs rs) = (bn w r xs rs) from rfl) (.c (@hcall (bn w r xs rs)) (.c (@hcall (jO w r xs rs)) (.c (show (D3 (y9 (fun x => y9 Bc x) (rdR qs)) (dB 5) && roomOk (zf (aC (rdR rs)) + zf (y9 (fun x => y9 Bc x) (rdR qs))) 40) = true from ?_) (.c hc0 (.c (show (D3 [[int 0]] (dB 1) && roomOk (zf (cvV xs) + zf [[int 0]]) 8) = true from ?_) (.c (show y9 (Am (bH 2 1 0)) (cvV xs ++ [[int 0]]) = cvV xs ++ [[int 0]] from ?_) (.c (show y9 (Am (bH 2 1 0)) (aC (rdR rs) ++ y9 (fun x => y9 Bc x) (rdR qs)) = aC (rdR rs) ++ y9 (fun x => y9 Bc x) (rdR qs) from ?_) (.c (show [[int 0]] = [[int 0]] from rfl) (.c (show y9 (Am (bH 3 1 0)) (aC (rdR rs) ++ y9 (fun x => y9 Bc x) (rdR qs)) = aC (rdR rs) ++ y9 (fun x => y9 Bc x) (rdR qs) from ?_) (.c (show y9 (Am (bH 3 1 0)) (cvV xs ++ [[int 0]]) = cvV xs ++ [[int 0]] from ?_) (.c (show [[int 0]] = [[int 0]] from rfl) (.c (show zE 4 (match 0 == 3 with | true => .vec (aC (rdR rs) ++ y9 (fun x => y9 Bc x) (rdR qs)) 0 5 | false => keepX (bH 3 1 0) (match 0 == 2 with | true => .vec (cvV xs ++ [[int 0]]) 0 1 | false => keepX (bH 2 1 0) (.var (Bx w)))) = true from rfl) (.c (show zE 4 (match 0 + 1 == 3 with | true => .vec (aC (rdR rs) ++ y9 (fun x => y9 Bc x) (rdR qs)) 0 5 | false => keepX (bH 3 1 0) (match 0 + 1 == 2 with | true => .vec (cvV xs ++ [[int 0]]) 0 1 | false => keepX (bH 2 1 0) (.var [int r.st, aa (y9 za r.a)]))) = true from rfl) (.c (show zE 4 (match 0 + 1 + 1 == 3 with | true => .vec (aC (rdR rs) ++ y9 (fun x => y9 Bc x) (rdR qs)) 0 5 | false => keepX (bH 3 1 0) (match 0 + 1 + 1 == 2 with | true => .vec (cvV xs ++ [[int 0]]) 0 1 | false => keepX (bH 2 1 0) (.vec (cvV xs ++ [[int 0]]) 1 1))) = true from ?_) (.c (show zE 4 (match 0 + 1 + 1 + 1 == 3 with | true => .vec (aC (rdR rs) ++ y9 (fun x => y9 Bc x) (rdR qs)) 0 5 | false => keepX (bH 3 1 0) (match 0 + 1 + 1 + 1 == 2 with | true => .vec (cvV xs ++ [[int 0]]) 0 1 | false => keepX (bH 2 1 0) (.vec (aC (rdR rs) ++ y9 (fun x => y9 Bc x) (rdR qs)) 1 5))) = true from ?_) .n)))))))))))))))))))))))))) (by first | rfl | (rw [hwr]; exact ib) | (rw [hwr, hz hc0]; exact ib)) (by first | rfl | (rw [hwr]; exact ib) | (rw [hwr, hz hc0]; exact ib)) <;> (first | assumption | rfl | omega | exact wR _ _ _ | exact wT _ _ _ | exact wS _ _ _ _ _ | exact wU _ _ _ _ _ | exact ay _ _ | exact ax | (simp only [yD, roomOk, Ad, zd, decide_eq_true_eq, AN]; omega) | (simp [dB, D.one, Bs, roomOk]; omega))
 ·refine zt (zu (s' := { t := mkT 71 0 [(2, int term), (3, int known), (4, .ref (.ptr 0 0)), (5, .ref (.ptr 1 0)), (11, .ref (.vec 2 0)), (12, .ref (.vec 3 0)), (13, int (zg zb ((↑i : Int) + 1)))], h := [.var [aa (y9 zS w.c), aa w.p, aa (y9 zZ w.s), aa (y9 zo w.f)], .var [int r.st, aa (y9 za r.a)], .vec (cvV xs ++ [[int c.rep]]) 0 1, .vec (aC (rdR rs) ++ y9 (fun x => y9 Bc x) (rdR qs)) 0 5], m := [] }) (e := zr) pok [.st (.mask [2, 3, 4, 5, 11, 12, 13]), .st (.ren 2 0), .st (.ren 3 0), .st (.trimV 4)] [.b true, .row (za a), .val (Av [AQ [ai c.name, int c.number, int c.credits, int c.rep, int (y7 c.need).op, int (y7 c.need).c, ai (y7 c.need).nm, int (y7 c.need).n, int (y7 c.need).d, aa (y7 c.need).ks, int (y7 c.bar).op, int (y7 c.bar).c, ai (y7 c.bar).nm, int (y7 c.bar).n, int (y7 c.bar).d, aa (y7 c.bar).ks], aa (rdR qs), bool b]), .b true] (by kernel_rfl) (.c hlt (.c hr (.c (@hcall (bn w r xs rs)) (.e (AQ (Bx w)) (.e (AQ (Bx w)) (.e (.ref (.ptr 1 1)) (.e (.ref (.ptr 1 1)) (.e (aa (y9 za r.a)) (.e (aa (y9 za r.a)) (.c (show (bn w r xs rs) = (bn w r xs rs) from rfl) (.c (@hcall (bn w r xs rs)) (.c (@hcall (jO w r xs rs)) (.c (show (D3 (y9 (fun x => y9 Bc x) (rdR qs)) (dB 5) && roomOk (zf (aC (rdR rs)) + zf (y9 (fun x => y9 Bc x) (rdR qs))) 40) = true from ?_) (.c hc0 (.c (show (D3 [[int c.rep]] (dB 1) && roomOk (zf (cvV xs) + zf [[int c.rep]]) 8) = true from ?_) (.c (show y9 (Am (bH 2 1 0)) (cvV xs ++ [[int c.rep]]) = cvV xs ++ [[int c.rep]] from ?_) (.c (show y9 (Am (bH 2 1 0)) (aC (rdR rs) ++ y9 (fun x => y9 Bc x) (rdR qs)) = aC (rdR rs) ++ y9 (fun x => y9 Bc x) (rdR qs) from ?_) (.c (show [[int c.rep]] = [[int c.rep]] from rfl) (.c (show y9 (Am (bH 3 1 0)) (aC (rdR rs) ++ y9 (fun x => y9 Bc x) (rdR qs)) = aC (rdR rs) ++ y9 (fun x => y9 Bc x) (rdR qs) from ?_) (.c (show y9 (Am (bH 3 1 0)) (cvV xs ++ [[int c.rep]]) = cvV xs ++ [[int c.rep]] from ?_) (.c (show [[int c.rep]] = [[int c.rep]] from rfl) (.c (show zE 4 (match 0 == 3 with | true => .vec (aC (rdR rs) ++ y9 (fun x => y9 Bc x) (rdR qs)) 0 5 | false => keepX (bH 3 1 0) (match 0 == 2 with | true => .vec (cvV xs ++ [[int c.rep]]) 0 1 | false => keepX (bH 2 1 0) (.var (Bx w)))) = true from rfl) (.c (show zE 4 (match 0 + 1 == 3 with | true => .vec (aC (rdR rs) ++ y9 (fun x => y9 Bc x) (rdR qs)) 0 5 | false => keepX (bH 3 1 0) (match 0 + 1 == 2 with | true => .vec (cvV xs ++ [[int c.rep]]) 0 1 | false => keepX (bH 2 1 0) (.var [int r.st, aa (y9 za r.a)]))) = true from rfl) (.c (show zE 4 (match 0 + 1 + 1 == 3 with | true => .vec (aC (rdR rs) ++ y9 (fun x => y9 Bc x) (rdR qs)) 0 5 | false => keepX (bH 3 1 0) (match 0 + 1 + 1 == 2 with | true => .vec (cvV xs ++ [[int c.rep]]) 0 1 | false => keepX (bH 2 1 0) (.vec (cvV xs ++ [[int c.rep]]) 1 1))) = true from ?_) (.c (show zE 4 (match 0 + 1 + 1 + 1 == 3 with | true => .vec (aC (rdR rs) ++ y9 (fun x => y9 Bc x) (rdR qs)) 0 5 | false => keepX (bH 3 1 0) (match 0 + 1 + 1 + 1 == 2 with | true => .vec (cvV xs ++ [[int c.rep]]) 0 1 | false => keepX (bH 2 1 0) (.vec (aC (rdR rs) ++ y9 (fun x => y9 Bc x) (rdR qs)) 1 5))) = true from ?_) .n)))))))))))))))))))))))))) (by first | rfl | (rw [hwr]; exact ib) | (rw [hwr, hz hc0]; exact ib)) (by first | rfl | (rw [hwr]; exact ib) | (rw [hwr, hz hc0]; exact ib)) <;> (first | assumption | rfl | omega | exact wR _ _ _ | exact wT _ _ _ | exact wS _ _ _ _ _ | exact wU _ _ _ _ _ | exact ay _ _ | exact ax | (simp only [yD, roomOk, Ad, zd, decide_eq_true_eq, AN]; omega) | (simp [dB, D.one, Bs, roomOk]; omega))
theorem vO {w : WorldT} {r : RecT} {term known : Int} {xs : List Int} {rs : List ReadT} {i : Nat} (hlt : decide ((i : Int) < ((r.a.map za).length : Int)) = false) : (CW y6 Γ0 [] false (sub D2 0) (y4 w r term known xs rs i) (.exit 0) { t := mkT 71 0 [(5, .ref (.ptr 1 0)), (11, .ref (.vec 2 0)), (12, .ref (.vec 3 0))], h := c57H w r xs rs, m := [] }) := by
 exact zt (zu (s' := { t := mkT 71 0 [(5, .ref (.ptr 1 0)), (11, .ref (.vec 2 0)), (12, .ref (.vec 3 0))], h := [.var [aa (y9 zS w.c), aa w.p, aa (y9 zZ w.s), aa (y9 zo w.f)], .var [int r.st, aa (y9 za r.a)], .vec (cvV xs) 0 1, .vec (aC (rdR rs)) 0 5], m := [] }) (e := zQ 0) pok [.st (.mask [5, 11, 12])] [.b false] (by kernel_rfl) (.c hlt .n)) (by rfl) (by rfl)
theorem t9 {w : WorldT} (hw : w.ok) (hs : ∀ x ∈ w.c, x.small) {n term known : Int} (h : List Blk) : Ev y6 Γ0 76 [.agg w.l, int n, int term, int known] h (.tup [ag (ab w n term known).1.row, aa (rdR (rdT 1 n 0 term)), bool (ab w n term known).2]) h := by
 rw [← tH]; exact oS hw hs h
theorem oX {w : WorldT} {n term known : Int} (h : (ab w n term known).2 = false) : (ab w n term known).1.rep = 0 := by
 unfold ab at h ⊢
 cases ht : outB term <;> rw [ht] at h <;> simp only at h ⊢
 ·unfold fk at h ⊢
  split at h
  ·rfl
  ·simp at h
 ·rfl
theorem c57_cw {w : WorldT} (hw : w.ok) (hs : ∀ x ∈ w.c, x.small) {r : RecT} (hr : r.a.length ≤ 90000000) {term known : Int} :
  CW y6 Γ0 [] false (.loop (sub D2 0)) (y4 w r term known [] [] 0) (.exit 0) { t := mkT 71 0 [(5, .ref (.ptr 1 0)), (11, .ref (.vec 2 0)), (12, .ref (.vec 3 0))], h := c57H w r (cP w known term r.a) (c8 term r.a), m := [] } := by
 have hsh : ak r.a := by unfold ak; omega
 have := CW.loopN (P := y6) (Γ := Γ0) (h0 := []) (rd := false) (c := sub D2 0) r.a.length
  (fun i => y4 w r term known (cP w known term (r.a.take i)) (c8 term (r.a.take i)) (i : Int)) (e := .exit 0) (s' := { t := mkT 71 0 [(5, .ref (.ptr 1 0)), (11, .ref (.vec 2 0)), (12, .ref (.vec 3 0))], h := c57H w r (cP w known term r.a) (c8 term r.a), m := [] }) (by simp) ?_ ?_
 ·exact this
 ·intro i hi
  have ha : r.a[i]? = some r.a[i] := zp hi
  have h1 : (cP w known term (r.a.take i)).length ≤ 900000000 := by unfold cP; rw [AN, BR]; omega
  have h2 : (c8 term (r.a.take i)).length + (rdT 1 r.a[i].course 0 term).length ≤ 900000000 := by
   have q1 := iH term (r.a.take i)
   have q2 := jJ 1 r.a[i].course 0 term
   rw [BR] at q1
   omega
  have key := vN (w := w) (r := r) (a := r.a[i]) (c := (ab w r.a[i].course term known).1) (b := (ab w r.a[i].course term known).2) (qs := rdT 1 r.a[i].course 0 term) (xs := cP w known term (r.a.take i)) (rs := c8 term (r.a.take i)) (term := term) (known := known) h1 h2 (rowAt ha rfl) (lt_len za hi) (wrap_succ hi hsh) (fun h => t9 hw hs (n := r.a[i].course) h) oX
  have e1 : cP w known term (r.a.take (i + 1)) = cP w known term (r.a.take i) ++ [(ab w r.a[i].course term known).1.rep] := by
   unfold cP; rw [C8, ha, D4, List.map_append]; rfl
  have e2 : c8 term (r.a.take (i + 1)) = c8 term (r.a.take i) ++ rdT 1 r.a[i].course 0 term := by
   unfold c8; rw [C8, ha, D4, List.flatMap_append, List.flatMap_singleton]
  rw [e1, e2]
  exact key
 ·have := vO (w := w) (r := r) (term := term) (known := known) (xs := cP w known term (r.a.take r.a.length)) (rs := c8 term (r.a.take r.a.length)) (i := r.a.length) (bN za r.a)
  rw [List.take_length] at this ⊢
  exact this
end Go.Vi
open Go Go.Proofs
namespace Go.Vi
set_option maxRecDepth 100000
set_option maxHeartbeats 4000000
theorem check31 {r : RecT} (hl : ak r.a) (h : List Blk) : Ev y6 Γ0 31 [.agg r.l] h (int (aI r)) h := by rw [← rA]; exact rz hl h
theorem cnt112 {l : List AttT} (hl : l.length ≤ 900000000) {rp : List Int} (hlen : rp.length = l.length) (h : List Blk) : Ev y6 Γ0 112 [aa (l.map za), aa (rp.map fun n => [vi n])] h (.tup [aa ((kc l rp).1.map za), int (kc l rp).2]) h := by
 have hs : ak l := by unfold ak; omega
 rw [← vL hlen]
 exact yX hl hs hlen (fun h => by rw [← vC]; exact rq hs h) h
noncomputable abbrev bP (w : WorldT) (r : RecT) : List Blk := [.var [aa (y9 zS w.c), aa w.p, aa (y9 zZ w.s), aa (y9 zo w.f)], .var [int r.st, aa (y9 za r.a)]]
theorem cnt57_a {w : WorldT} (hw : w.ok) (hs : ∀ x ∈ w.c, x.small) {r : RecT} (hr : r.a.length ≤ 90000000) {term known e : Int} {L : List AttT} (hck : ∀ h, Ev y6 Γ0 31 [.agg r.l] h (int (aI r)) h)
 (hc : ∀ h, Ev y6 Γ0 112 [aa (r.a.map za), aa ((cP w known term r.a).map fun n => [vi n])] h (.tup [aa (L.map za), int e]) h) (h : List Blk) : (Ev y6 Γ0 57 [.agg w.l, .agg r.l, int term, int known] h (.tup [aa ((rcX (cC r term) e L (c8 term r.a)).1.map za), aa (rdR (rcX (cC r term) e L (c8 term r.a)).2.1), int (rcX (cC r term) e L (c8 term r.a)).2.2]) h) := by
 cases hc0 : aI r != 0 || !(decide (term ≥ 0) && decide (term ≤ 1023))
 ·have hl1 := (@c57_cw (w) (hw) (hs) (r) (hr) (term) (known))
  cases hc2 : e != 0
  ·refine zk (Ev.nilW (zm (d := Av [aa (y9 za L), aa (rdR (c8 term r.a)), int 0]) pok [.val (int (aI r)), .val (bool (decide (term ≥ 0) && decide (term ≤ 1023))), .b false, .nx 3, .st (.nilT 11 1), .st (.nilT 12 5), .sum [2, 3, 4, 5, 11, 12, 13] (zQ 0) { t := mkT 71 0 [(5, .ref (.ptr 1 0)), (11, .ref (.vec 2 0)), (12, .ref (.vec 3 0))], h := [.var (Bx w), .var [int r.st, aa (y9 za r.a)], .vec (cvV (cP w known term r.a)) 0 1, .vec (aC (rdR (c8 term r.a))) 0 5], m := [] }, .st (.mask [5, 11, 12]), .st (.frz 3 (rdR (c8 term r.a))), .st (.frz 2 (y9 (fun n => [vi n]) (cP w known term r.a))), .st (.trimV 2), .val (Av [aa (y9 za L), int e]), .b false] (by kernel_rfl) (.c (@hck (bP w r)) (.c (gd (!aI r != 0) (@kW term 0 1023 (bP w r))) (.c hc0 (.c hl1 (.c (show aC (rdR (c8 term r.a)) = y9 (fun x => y9 Bc x) (rdR (c8 term r.a)) from ?_) (.c (show y9 (Am (ik 3 0 (rdR (c8 term r.a)))) (cvV (cP w known term r.a)) = cvV (cP w known term r.a) from ?_) (.c (show cvV (cP w known term r.a) = y9 (fun x => y9 Bc x) (y9 (fun n => [vi n]) (cP w known term r.a)) from ?_) (.c (show zE 2 (match 0 == 2 with | true => .gone | false => keepX (ik 2 0 (y9 (fun n => [vi n]) (cP w known term r.a))) (match 0 == 3 with | true => .gone | false => keepX (ik 3 0 (rdR (c8 term r.a))) (.var (Bx w)))) = true from rfl) (.c (show zE 2 (match 0 + 1 == 2 with | true => .gone | false => keepX (ik 2 0 (y9 (fun n => [vi n]) (cP w known term r.a))) (match 0 + 1 == 3 with | true => .gone | false => keepX (ik 3 0 (rdR (c8 term r.a))) (.var [int r.st, aa (y9 za r.a)]))) = true from rfl) (.c (@hc (bP w r)) (.c hc2 .n))))))))))) rfl rfl h)) (by first | (have hh : cC r term = true := hc0; simp only [rcX, hh]; rfl) | (have hh : cC r term = false := hc0; have h2 : (e != 0) = true := hc2; simp only [rcX, hh, h2]; rfl) | (have hh : cC r term = false := hc0; have h2 : (e != 0) = false := hc2; simp only [rcX, hh, h2]; rfl)) (by rfl) <;> (first | assumption | rfl | omega | exact ml _ | exact ay _ _ | exact ax)
  ·refine zk (Ev.nilW (zm (d := Av [nq, nq, int e]) pok [.val (int (aI r)), .val (bool (decide (term ≥ 0) && decide (term ≤ 1023))), .b false, .nx 3, .st (.nilT 11 1), .st (.nilT 12 5), .sum [2, 3, 4, 5, 11, 12, 13] (zQ 0) { t := mkT 71 0 [(5, .ref (.ptr 1 0)), (11, .ref (.vec 2 0)), (12, .ref (.vec 3 0))], h := [.var (Bx w), .var [int r.st, aa (y9 za r.a)], .vec (cvV (cP w known term r.a)) 0 1, .vec (aC (rdR (c8 term r.a))) 0 5], m := [] }, .st (.mask [5, 11, 12]), .st (.frz 3 (rdR (c8 term r.a))), .st (.frz 2 (y9 (fun n => [vi n]) (cP w known term r.a))), .st (.trimV 2), .val (Av [aa (y9 za L), int e]), .b true] (by kernel_rfl) (.c (@hck (bP w r)) (.c (gd (!aI r != 0) (@kW term 0 1023 (bP w r))) (.c hc0 (.c hl1 (.c (show aC (rdR (c8 term r.a)) = y9 (fun x => y9 Bc x) (rdR (c8 term r.a)) from ?_) (.c (show y9 (Am (ik 3 0 (rdR (c8 term r.a)))) (cvV (cP w known term r.a)) = cvV (cP w known term r.a) from ?_) (.c (show cvV (cP w known term r.a) = y9 (fun x => y9 Bc x) (y9 (fun n => [vi n]) (cP w known term r.a)) from ?_) (.c (show zE 2 (match 0 == 2 with | true => .gone | false => keepX (ik 2 0 (y9 (fun n => [vi n]) (cP w known term r.a))) (match 0 == 3 with | true => .gone | false => keepX (ik 3 0 (rdR (c8 term r.a))) (.var (Bx w)))) = true from rfl) (.c (show zE 2 (match 0 + 1 == 2 with | true => .gone | false => keepX (ik 2 0 (y9 (fun n => [vi n]) (cP w known term r.a))) (match 0 + 1 == 3 with | true => .gone | false => keepX (ik 3 0 (rdR (c8 term r.a))) (.var [int r.st, aa (y9 za r.a)]))) = true from rfl) (.c (@hc (bP w r)) (.c hc2 .n))))))))))) rfl rfl h)) (by first | (have hh : cC r term = true := hc0; simp only [rcX, hh]; rfl) | (have hh : cC r term = false := hc0; have h2 : (e != 0) = true := hc2; simp only [rcX, hh, h2]; rfl) | (have hh : cC r term = false := hc0; have h2 : (e != 0) = false := hc2; simp only [rcX, hh, h2]; rfl)) (by rfl) <;> (first | assumption | rfl | omega | exact ml _ | exact ay _ _ | exact ax)
 ·exact zk (Ev.nilW (zm (d := Av [nq, nq, int 150]) pok [.val (int (aI r)), .val (bool (decide (term ≥ 0) && decide (term ≤ 1023))), .b true] (by kernel_rfl) (.c (@hck (bP w r)) (.c (gd (!aI r != 0) (@kW term 0 1023 (bP w r))) (.c hc0 .n))) rfl rfl h)) (by first | (have hh : cC r term = true := hc0; simp only [rcX, hh]; rfl) | (have hh : cC r term = false := hc0; have h2 : (e != 0) = true := hc2; simp only [rcX, hh, h2]; rfl) | (have hh : cC r term = false := hc0; have h2 : (e != 0) = false := hc2; simp only [rcX, hh, h2]; rfl)) (by rfl)
end Go.Vi
open Go Go.Proofs
namespace Go.Vi
set_option maxRecDepth 100000
set_option maxHeartbeats 4000000
end Go.Vi
open Go Go.Proofs
namespace Go.Vi
set_option maxRecDepth 100000
set_option maxHeartbeats 4000000
end Go.Vi
open Go Go.Proofs
namespace Go.Vi
set_option maxRecDepth 100000
set_option maxHeartbeats 4000000
end Go.Vi
open Go Go.Proofs Go.Shelf
namespace Go.Proofs
end Go.Proofs
namespace Go.Vi
open Go.Sort
set_option maxRecDepth 100000
set_option maxHeartbeats 4000000
end Go.Vi
open Go Go.Proofs
namespace Go.Vi
end Go.Vi
open Go Go.Proofs
namespace Go.Vi
set_option maxRecDepth 100000
set_option maxHeartbeats 4000000
end Go.Vi
open Go Go.Proofs
namespace Go.Vi
set_option maxRecDepth 100000
set_option maxHeartbeats 4000000
end Go.Vi
open Go Go.Proofs
namespace Go.Vi
set_option maxRecDepth 100000
set_option maxHeartbeats 4000000
end Go.Vi
open Go Go.Proofs
namespace Go.Vi
set_option maxRecDepth 100000
set_option maxHeartbeats 4000000
end Go.Vi
open Go Go.Proofs
namespace Go.Vi
set_option maxRecDepth 100000
set_option maxHeartbeats 4000000
end Go.Vi
open Go Go.Proofs
namespace Go.Vi
set_option maxRecDepth 100000
set_option maxHeartbeats 4000000
end Go.Vi
open Go Go.Proofs
namespace Go.Vi
set_option maxRecDepth 100000
set_option maxHeartbeats 4000000
end Go.Vi
open Go Go.Proofs
namespace Go.Vi
set_option maxRecDepth 100000
set_option maxHeartbeats 4000000
end Go.Vi
open Go Go.Proofs
namespace Go.Vi
set_option maxRecDepth 100000
set_option maxHeartbeats 4000000
def jP (w : WorldT) : Bool := decide ((w.f.map zo).length ≤ (30 : Int)) && decide ((w.c.map zS).length ≤ (20 : Int)) && decide (w.p.length ≤ (8 : Int)) && decide ((w.s.map zZ).length ≤ (6 : Int))
theorem qw {w : WorldT} (h : List Blk) : (Ev y6 Γ0 18 [.agg w.l] h (bool (jP w)) h) := by
 exact zk (zm (d := bool (decide ((↑(zf (y9 zo w.f)) : Int) ≤ 30) && decide ((↑(zf (y9 zS w.c)) : Int) ≤ 20) && decide ((↑(zf w.p) : Int) ≤ 8) && decide ((↑(zf (y9 zZ w.s)) : Int) ≤ 6))) pok [] (by kernel_rfl) .n rfl rfl h) (by rfl) (by rfl)
def oY (a b : AttT) : Bool := !(a.course == b.course && (a.term == b.term && (a.grade == b.grade && (a.campus == b.campus && (a.credits == b.credits && true)))))
abbrev smS (l l2 : List (List Dp)) (i : Int) : AS := { t := mkT 26 0 [(0, aa l), (1, aa l2), (4, bool false), (5, int i)], h := [], m := [] }
abbrev smX : Unit → Exit × AS := fun _ => (.ret, { t := mkT 26 0 [(4, bool false)], h := [], m := [] })
def smF (p : AttT × AttT) (_ : Unit) : Unit ⊕ Unit := bif oY p.1 p.2 then .inr () else .inl ()
theorem sm_body {l l2 : List (List Dp)} {a b : AttT} {i : Nat} (hr : aj (i : Int) l a.row 5) (hr2 : aj (i : Int) l2 b.row 5) (hlt : decide ((i : Int) < (l.length : Int)) = true) (hw : zb.wrap ((i : Int) + 1) = ((i + 1 : Nat) : Int)) : (CW y6 Γ0 [] false (sub D5 0) (smS l l2 i) (ad (fun _ => smS l l2 ((i + 1 : Nat) : Int)) smX (smF (a, b) ())).1 (ad (fun _ => smS l l2 ((i + 1 : Nat) : Int)) smX (smF (a, b) ())).2) := by
 cases hc0 : !(a.course == b.course && (a.term == b.term && (a.grade == b.grade && (a.campus == b.campus && (a.credits == b.credits && true)))))
 ·refine zt (zu (s' := { t := mkT 26 0 [(0, aa l), (1, aa l2), (4, bool false), (5, int (zg zb ((↑i : Int) + 1)))], h := [], m := [] }) (e := zr) pok [.st (.mask [0, 1, 4, 5])] [.b true, .row (za a), .row (za b), .b false] (by kernel_rfl) (.c hlt (.c hr (.c hr2 (.c hc0 .n))))) ?_ ?_ <;> (first | (have hh : oY a b = true := hc0; simp only [smF, hh, cond_true, ad]; first | done | rfl) | (have hh : oY a b = false := hc0; simp only [smF, hh, cond_false, ad, hw]; first | done | rfl))
 ·refine zt (zu (s' := { t := mkT 26 0 [(4, bool false)], h := [], m := [] }) (e := Exit.ret) pok [.st (.mask [4])] [.b true, .row (za a), .row (za b), .b true] (by kernel_rfl) (.c hlt (.c hr (.c hr2 (.c hc0 .n))))) ?_ ?_ <;> (first | (have hh : oY a b = true := hc0; simp only [smF, hh, cond_true, ad]; first | done | rfl) | (have hh : oY a b = false := hc0; simp only [smF, hh, cond_false, ad, hw]; first | done | rfl))
theorem sm_last {l l2 : List (List Dp)} {i : Nat} (hlt : decide ((i : Int) < (l.length : Int)) = false) : (CW y6 Γ0 [] false (sub D5 0) (smS l l2 i) (.exit 0) { t := mkT 26 0 [], h := [], m := [] }) := by
 exact zt (zu (s' := { t := mkT 26 0 [], h := [], m := [] }) (e := zQ 0) pok [.st (.mask [])] [.b false] (by kernel_rfl) (.c hlt .n)) (by rfl) (by rfl)
def smFin (l l2 : List AttT) : Exit × AS := bI (.exit 0) (fun _ : Unit => { t := mkT 26 0 [], h := [], m := [] }) smX (bp smF (l.zip l2) ())
theorem sm_cw {l l2 : List AttT} (he : l.length = l2.length) (hl : ak l) :
  CW y6 Γ0 [] false (.loop (sub D5 0)) (smS (l.map za) (l2.map za) 0) (smFin l l2).1 (smFin l l2).2 := by
 have hlen : (l.zip l2).length = l.length := by simp [he]
 have := CW.each (P := y6) (Γ := Γ0) (h0 := []) (rd := false) (c := sub D5 0) (l.zip l2) smF (fun i _ => smS (l.map za) (l2.map za) (i : Int)) (.exit 0) (fun _ : Unit => { t := mkT 26 0 [], h := [], m := [] }) smX (fun _ _ => True) (by simp) (fun _ => by simp) ?_ ?_ () trivial
 ·exact this
 ·intro i p u hp _
  obtain ⟨hi, hpe⟩ := zc.1 hp
  rw [hlen] at hi
  have h1 : l[i]? = some p.1 := by subst hpe; simp [zp hi]
  have h2 : l2[i]? = some p.2 := by subst hpe; simp [zp (he ▸ hi)]
  exact ⟨fun _ _ => trivial, sm_body (rowAt h1 rfl) (rowAt h2 rfl) (lt_len za hi) (wrap_succ hi hl)⟩
 ·intro u _
  rw [hlen]
  exact sm_last (bN za l)
def nT (l l2 : List AttT) : Bool := match bp smF (l.zip l2) () with
 | .inl _ => true
 | .inr _ => false
theorem same_in {l l2 : List AttT} (he : l.length = l2.length) (hl : ak l) (hn : (((l.map za).length : Int) != ((l2.map za).length : Int)) = false) (h : List Blk) : (Ev y6 Γ0 24 [aa (l.map za), aa (l2.map za)] h (bool (nT l l2)) h) := by
 have hl0 := (@sm_cw (l) (l2) (he) (hl))
 unfold smFin at hl0
 revert hl0
 cases ho1 : bp smF (List.zip l l2) () with
 | inl o1_0_0 =>
  intro hl0
  exact zk (zm (d := bool true) pok [.b false, .sum [0, 1, 4, 5] (zQ 0) { t := mkT 26 0 [], h := [], m := [] }] (by kernel_rfl) (.c hn (.c hl0 .n)) rfl rfl h) (by simp only [nT, ho1]; first | done | rfl) (by rfl)
 | inr o1_1_0 =>
  intro hl0
  exact zk (zm (d := bool false) pok [.b false, .sum [0, 1, 4, 5] (Exit.ret) { t := mkT 26 0 [(4, bool false)], h := [], m := [] }] (by kernel_rfl) (.c hn (.c hl0 .n)) rfl rfl h) (by simp only [nT, ho1]; first | done | rfl) (by rfl)
theorem oZ (l : List AttT) : nT l l = true := by
 have key : ∀ l : List AttT, bp smF (l.zip l) () = .inl () := by
  intro l
  induction l with
  | nil => rfl
  | cons a l ih =>
   have : oY a a = false := by simp [oY]
   simp only [List.zip_cons_cons, bp, smF, this, cond_false]
   exact ih
 simp [nT, key]
theorem ua {l l2 : List AttT} (he : l = l2) (hl : ak l) (h : List Blk) : Ev y6 Γ0 24 [aa (l.map za), aa (l2.map za)] h (bool true) h := by
 subst he
 have := same_in (l := l) (l2 := l) rfl hl (by simp) h
 rwa [oZ] at this
end Go.Vi
open Go Go.Proofs
namespace Go.Vi
set_option maxRecDepth 100000
set_option maxHeartbeats 4000000
end Go.Vi
open Go Go.Proofs
namespace Go.Vi
set_option maxRecDepth 100000
set_option maxHeartbeats 40000
def few (s : Vi.Sys) : Bool := decide (zb.wrap (zb.wrap (zb.wrap (((s.classes.map Cls.row).length : Int) + ((s.fees.map FeeT.row).length : Int)) + ((s.honours.map Cls.row).length : Int)) + (s.clauses.length : Int)) ≤ 40)
end Go.Vi
open Go Go.Proofs
namespace Go.Vi
set_option maxRecDepth 100000
set_option maxHeartbeats 0
end Go.Vi
open Go Go.Proofs
namespace Go.Vi
set_option maxRecDepth 100000
set_option maxHeartbeats 4000000
attribute [local irreducible] few
end Go.Vi
open Go Go.Proofs
namespace Go.Vi
set_option maxRecDepth 100000
end Go.Vi
open Go Go.Proofs
namespace Go.Vi
set_option maxRecDepth 100000
structure WorldT.ok0 (w : WorldT) : Prop where
 c : ∀ x ∈ w.c, x.ok
 s : ∀ x ∈ w.s, x.ok
 lc : ak w.c
 ls : ak w.s
 i : ∀ f ∈ w.f, f.ok
end Go.Vi
open Go Go.Proofs
namespace Go.Vi
set_option maxRecDepth 100000
set_option maxHeartbeats 4000000
def ptEq (a b : PtT) : Bool := a.term == b.term && (a.value == b.value && true)
def epF (p : PtT × PtT) (_ : Unit) : Unit ⊕ Unit := if (!ptEq p.1 p.2) = true then .inr () else .inl ()
def epR (xs ys : List PtT) : Unit ⊕ Unit := bp epF (xs.zip ys) ()
def eqPts (xs ys : List PtT) : Bool := if (((xs.map PtT.row).length : Int) != ((ys.map PtT.row).length : Int)) = true then false else match epR xs ys with | .inl _ => true | .inr _ => false
def ptsAt (l : List FactT) (r : ReadT) (known : Int) : List PtT := yz r.kind r.sub r.obj r.frm r.til known l
attribute [local irreducible] ptsAt eqPts
end Go.Vi
open Go Go.Proofs
namespace Go.Vi
set_option maxRecDepth 100000
set_option maxHeartbeats 4000000
abbrev srS (l : List (List Dp)) (i : Int) : AS := { t := mkT 26 0 [(0, aa l), (1, aa l), (4, bool false), (5, int i)], h := [], m := [] }
theorem rdself (r : ReadT) : (!(r.kind == r.kind && (r.sub == r.sub && (r.obj == r.obj && true)) && (r.frm == r.frm && (r.til == r.til && true)))) = false := by simp
theorem vP {l : List (List Dp)} {r : ReadT} {i : Nat} (hr : aj (i : Int) l r.row 5) (hz : (!(r.kind == r.kind && (r.sub == r.sub && (r.obj == r.obj && true)) && (r.frm == r.frm && (r.til == r.til && true)))) = false) (hlt : decide ((i : Int) < (l.length : Int)) = true) (hw : zb.wrap ((i : Int) + 1) = ((i + 1 : Nat) : Int)) : (CW y6 Γ0 [] false (sub Tryz.f22 0) (srS l i) .normal (srS l ((i + 1 : Nat) : Int))) := by
 refine zt (zu (s' := { t := mkT 26 0 [(0, aa l), (1, aa l), (4, bool false), (5, int (zg zb ((↑i : Int) + 1)))], h := [], m := [] }) (e := zr) pok [.st (.mask [0, 1, 4, 5])] [.b true, .row [vi r.kind, vi r.sub, vi r.obj, vi r.frm, vi r.til], .row [vi r.kind, vi r.sub, vi r.obj, vi r.frm, vi r.til], .b false] (by kernel_rfl) (.c hlt (.c hr (.c hr (.c hz .n))))) ?_ ?_ <;> (first | rfl | (rw [hw]))
theorem vQ {l : List (List Dp)} {i : Nat} (hlt : decide ((i : Int) < (l.length : Int)) = false) : (CW y6 Γ0 [] false (sub Tryz.f22 0) (srS l i) (.exit 0) { t := mkT 26 0 [], h := [], m := [] }) := by
 exact zt (zu (s' := { t := mkT 26 0 [], h := [], m := [] }) (e := zQ 0) pok [.st (.mask [])] [.b false] (by kernel_rfl) (.c hlt .n)) (by rfl) (by rfl)
theorem srr_cw {l : List ReadT} (hl : ak l) : CW y6 Γ0 [] false (.loop (sub Tryz.f22 0)) (srS (rdR l) 0) (.exit 0) { t := mkT 26 0 [], h := [], m := [] } := by
 refine CW.loopN l.length (fun i => srS (rdR l) (i : Int)) (by simp) (fun i hi => ?_) ?_
 ·exact vP (rowAt (zp hi) rfl) (rdself _) (lt_len ReadT.row hi) (wrap_succ hi hl)
 ·exact vQ (bN ReadT.row l)
theorem o8 {l : List ReadT} (hl : ak l) (hn : (((rdR l).length : Int) != ((rdR l).length : Int)) = false) (h : List Blk) : (Ev y6 Γ0 22 [aa (rdR l), aa (rdR l)] h (bool true) h) := by
 have hl0 := (@srr_cw (l) (hl))
 exact zk (zm (d := bool true) pok [.b false, .sum [0, 1, 4, 5] (zQ 0) { t := mkT 26 0 [], h := [], m := [] }] (by kernel_rfl) (.c hn (.c hl0 .n)) rfl rfl h) (by rfl) (by rfl)
theorem rdne (l : List ReadT) : (((rdR l).length : Int) != ((rdR l).length : Int)) = false := by simp
end Go.Vi
open Go Go.Proofs
namespace Go.Vi
set_option maxRecDepth 100000
set_option maxHeartbeats 4000000
noncomputable abbrev jQ (w : WorldT) (r : RecT) : List Blk := [.var [aa (y9 zS w.c), aa w.p, aa (y9 zZ w.s), aa (y9 zo w.f)], .var [int r.st, aa (y9 za r.a)]]
theorem cs_out {w : WorldT} {r : RecT} {term known : Int} (hsane : ∀ h, Ev y6 Γk 17 [] h (bool true) h) (ho : (!jP w || !decide (((r.a.map za).length : Int) ≤ 40)) = true) (h : List Blk) : (Ev y6 Γk 14 [.agg w.l, .agg r.l, int term, int known] h (bool true) h) := by
 exact zk (zm (d := bool true) pok [.val (bool true), .b false, .val (bool (jP w)), .val (bool (decide ((↑(zf (y9 za r.a)) : Int) ≤ 40))), .b true] (by kernel_rfl) (.c (@hsane (jQ w r)) (.c (show (!true) = false from rfl) (.c (zV (Γ' := Γk) (@qw w (jQ w r))) (.c (gd (!!jP w) (zV (Γ' := Γk) (@qq (y9 za r.a) (jQ w r)))) (.c ho .n))))) rfl rfl h) (by rfl) (by rfl)
noncomputable abbrev d8 (w : WorldT) (r : RecT) : List Blk := [.var [aa (y9 zS w.c), aa w.p, aa (y9 zZ w.s), aa (y9 zo w.f)], .var [int r.st, aa (y9 za r.a)]]
theorem cs_ok {w : WorldT} {r : RecT} {term known e : Int} {L : List AttT} {rs : List ReadT} (hsane : ∀ h, Ev y6 Γk 17 [] h (bool true) h) (ho : (!jP w || !decide (((r.a.map za).length : Int) ≤ 40)) = false) (hl : ak L) (hq : ak rs)
 (h1 : ∀ h, Ev y6 Γk 53 [.agg w.l, .agg r.l, int term, int known] h (.tup [aa (L.map za), aa (rdR rs), int e]) h)
 (h2 : ∀ h, Ev y6 Γ0 57 [.agg w.l, .agg r.l, int term, int known] h (.tup [aa (L.map za), aa (rdR rs), int e]) h)
 (h3 : ∀ h, Ev y6 Γ0 24 [aa (L.map za), aa (L.map za)] h (bool true) h) (h4 : ∀ h, Ev y6 Γ0 22 [aa (rdR rs), aa (rdR rs)] h (bool true) h) (h : List Blk) : (Ev y6 Γk 14 [.agg w.l, .agg r.l, int term, int known] h (bool true) h) := by
 let v0 := Av [aa (y9 za L), aa (rdR rs), int e]
 exact zk (zm (d := bool (true && true && e == e)) pok [.val (bool true), .b false, .val (bool (jP w)), .val (bool (decide ((↑(zf (y9 za r.a)) : Int) ≤ 40))), .b false, .val v0, .val v0, .val (bool true), .val (bool true)] (by kernel_rfl) (.c (@hsane (d8 w r)) (.c (show (!true) = false from rfl) (.c (zV (Γ' := Γk) (@qw w (d8 w r))) (.c (gd (!!jP w) (zV (Γ' := Γk) (@qq (y9 za r.a) (d8 w r)))) (.c ho (.c (@h1 (d8 w r)) (.c (zV (Γ' := Γk) (@h2 (d8 w r))) (.c (zV (Γ' := Γk) (@h3 (d8 w r))) (.c (gd true (zV (Γ' := Γk) (@h4 (d8 w r)))) .n))))))))) rfl rfl h) (by subst v0; first | rfl | simp) (by rfl)
end Go.Vi
open Go Go.Proofs
namespace Go.Vi
set_option maxRecDepth 100000
set_option maxHeartbeats 4000000
end Go.Vi
open Go Go.Proofs
namespace Go.Vi
end Go.Vi
open Go Go.Proofs
namespace Go.Vi
set_option maxRecDepth 100000
set_option maxHeartbeats 4000000
end Go.Vi
open Go Go.Proofs
namespace Go.Vi
set_option maxRecDepth 100000
def ub : List Dp → Option FactT
 | [.v (.int .i64 a), .v (.int .i64 b), .v (.int .i64 c), .v (.int .i64 d), .v (.int .i64 e), .v (.int .i64 f), .v (.int .i64 g), .v (.int .i64 i)] => some ⟨a, b, c, d, e, f, g, i⟩
 | _ => none
def jR : List (List Dp) → Option (List FactT)
 | [] => some []
 | r :: rs => match ub r, jR rs with
  | some x, some xs => some (x :: xs)
  | _, _ => none
theorem uc {r : List Dp} {f : FactT} (h : ub r = some f) : r = f.row := by
 unfold ub at h
 split at h
 ·cases h; rfl
 ·simp at h
theorem lm : ∀ {rs : List (List Dp)} {fs : List FactT}, jR rs = some fs → rs = fs.map zo
 | [], fs, h => by simp only [jR, y5] at h; subst h; rfl
 | r :: rs, fs, h => by
  simp only [jR] at h
  split at h
  ·rename_i x xs h1 h2
   simp only [y5] at h
   subst h
   rw [uc h1, lm h2]; rfl
  ·simp at h
def vlAt (s : VS) (n : Nat) : Int := bif s.2.getD n false then maxV (s.1.getD n default).value else -1
def o9 (kk ks ko known : Int) (l : List FactT) : List Int := (Ab 1024).map (vlAt (l.foldl (fo kk ks ko known) vZ))
theorem rB (s : VS) (rs : List Int) (h : rs.length = 1024) (n i : Nat) : (vlStep s rs n).getD i 0 = if i = n ∧ n < 1024 then vlAt s n else rs.getD i 0 := by
 unfold vlAt vlStep
 by_cases hn : n < 1024
 ·by_cases hi : i = n
  ·subst hi
   cases s.2.getD i false <;> simp [zi, h, hn]
  ·have hi' : n ≠ i := fun e => hi e.symm
   cases s.2.getD n false <;> simp [zi, hi, hi']
 ·cases s.2.getD n false <;> simp [zi, hn, List.set_eq_of_length_le (show rs.length ≤ n by omega)]
theorem rC (s : VS) (rs : List Int) (n : Nat) : (vlStep s rs n).length = rs.length := by
 unfold vlStep; cases s.2.getD n false <;> simp
theorem rD (kk ks ko known : Int) (l : List FactT) : dv kk ks ko known l = o9 kk ks ko known l := by
 unfold dv o9 nN
 generalize l.foldl (fo kk ks ko known) vZ = s
 have hz : (zz 1024 (0 : Int)).length = 1024 := List.length_replicate ..
 have hz2 : ∀ i, (zz 1024 (0 : Int)).getD i 0 = 0 := fun i => by
  rw [zi, List.getElem?_replicate]; split <;> rfl
 revert hz hz2
 generalize zz 1024 (0 : Int) = z
 intro hz hz2
 have key : ∀ m, m ≤ 1024 → ((Ab m).foldl (vlStep s) z).length = 1024 ∧ ∀ i, ((Ab m).foldl (vlStep s) z).getD i 0 = if i < m then vlAt s i else 0 := by
  intro m
  induction m with
  | zero => intro _; exact ⟨hz, fun i => by rw [if_neg (Nat.not_lt_zero i)]; exact hz2 i⟩
  | succ m ih =>
   intro hm
   obtain ⟨h1, h2⟩ := ih (by omega)
   rw [List.range_succ, List.foldl_append]
   simp only [Dw, List.foldl_nil]
   refine ⟨by rw [rC]; exact h1, fun i => ?_⟩
   rw [rB s _ h1, h2]
   by_cases hi : i = m
   ·subst hi
    rw [if_pos ⟨rfl, by omega⟩, if_pos (by omega)]
   ·rw [if_neg (fun h => hi h.1)]
    by_cases hlt : i < m
    ·rw [if_pos hlt, if_pos (by omega)]
    ·rw [if_neg hlt, if_neg (by omega)]
 obtain ⟨h1, h2⟩ := key 1024 (Nat.le_refl _)
 refine List.ext_getElem (by rw [h1]; simp) fun i hi1 hi2 => ?_
 have := h2 i
 rw [zi, zp hi1] at this
 rw [h1] at hi1
 rw [if_pos hi1] at this
 simpa using this
def wV (n : Nat) : Bool := Nat.blt n 1000000
def wvGo (args : List D) (h : List Blk) : List D → Option CR
 | [.p (.sl rows), .agg [.p (.v (.int .i64 kk)), .p (.v (.int .i64 ks)), .p (.v (.int .i64 ko))], .p (.v (.int .i64 known))] => match jR rows with
  | some l => match wV l.length with
   | true => some (.ret (.agg ((o9 kk ks ko known l).map int)) h)
   | false => none
  | none => none
 | _ => none
def wv : FnF := fun f args h => match Nat.beq f 159 with
 | true => wvGo args h (uz h args)
 | false => none
theorem nU : ∀ l : List Int, oE (l.map int) = true
 | [] => rfl
 | _ :: l => by simp [oE, gL, nU l]
theorem ue (l : List Int) : (bd l).flatten = l.map int := by
 unfold bd
 induction l with
 | nil => rfl
 | cons a l ih => simp only [AH, List.flatten_cons, ih]; rfl
theorem rE {Γ : ah} : ux y6 Γ wv := by
 intro f args h r hw
 unfold wv at hw
 split at hw
 ·rename_i hf
  have hf := Nat.eq_of_beq_eq_true hf
  subst hf
  refine ⟨by kernel_rfl, ?_⟩
  unfold wvGo at hw
  split at hw
  ·rename_i rows kk ks ko known hfr
   split at hw
   ·rename_i l hl
    split at hw
    ·rename_i hs
     cases hw
     refine VRes.of_ev (Ev.frzArgs (by rw [hfr]; rfl) (nU _) ?_)
     rw [hfr, lm hl]
     have hsh : ak l := by
      unfold wV at hs
      have : l.length < 1000000 := by simpa [Nat.blt_eq] using hs
      unfold ak; omega
     have := tE (kk := kk) (ks := ks) (ko := ko) (known := known) hsh []
     rw [ue, rD] at this
     exact zV this
    ·simp at hw
   ·simp at hw
  ·simp at hw
 ·simp at hw
end Go.Vi
open Go Go.Proofs
namespace Go.Vi
set_option maxRecDepth 1000000
set_option maxHeartbeats 0
def s16w0 : Memo := ⟨60, [.ref (.ptr 76 0), int 3, int 3], [.gone, .gone, .gone, .gone, .gone, .gone, .gone, .gone, .vec [[int 12, int 0, int 0, int 0, int 1]] 0 5, .var [int 3, nq], .var [int 0, nq], .var [nq, int 0, int 0, int 0], .vec [[int 7], [int 7]] 0 1, .var [nq, int 0, int 0, int 0], .gone, .gone, .gone, .gone, .gone, .gone, .gone, .gone, .gone, .vec [[int 12, int 0, int 0, int 0, int 1], [int 12, int 0, int 0, int 0, int 1]] 1 5, .gone, .gone, .gone, .gone, .var [nq, int 0, int 0, int 1], .var [int 5, int 3, int 7, int (-1), int 5, int 6, int 8, int 0], .var [int 5, int 3, int 7, int 25, int 2, int 3, int 9, int 0], .vec [[ai ⟨#[65]⟩, int 7, int 4, int 0, int 1, int 0, ai ⟨#[]⟩, int 0, int 0, nq, int 2, int 0, ai ⟨#[]⟩, int 0, int 0, nq]] 0 16, .var [.ref (.vec 31 0), nq, nq, .ref (.vec 34 0)], .var [int 0, int 1024], .vec [[int 1, int 7, int 0, int 0, int 0, int 1024, int 8, int 0], [int 12, int 0, int 0, int 1, int 0, int 1024, int 8, int 1], [int 5, int 3, int 7, int 25, int 2, int 3, int 9, int 0]] 0 8, .gone, .gone, .gone, .gone, .gone, .gone, .gone, .gone, .gone, .gone, .gone, .gone, .vec [[int 12, int 0, int 0, int 0, int 1], [int 5, int 3, int 7, int 0, int 3], [int 1, int 7, int 0, int 2, int 3]] 2 5, .gone, .gone, .gone, .gone, .gone, .gone, .gone, .gone, .vec [[int 7, int 2, int 9, int 1, int 4]] 0 5, .var [int 3, .ref (.vec 56 0)], .gone, .gone, .gone, .gone, .gone, .gone, .gone, .gone, .gone, .gone, .gone, .gone, .vec [[int 12, int 0, int 0, int 0, int 1], [int 5, int 3, int 7, int 0, int 2]] 1 5, .var [int 3, nq], .vec [[int 7]] 0 1, .var [.ref (.vec 31 0), nq, nq, .ref (.vec 34 0)], .var [nq, int 0, int 0, int 0], .map [(int 7, .agg [int 7, int 0, int (-1), bool true], 0)] 1, .var [nq, .ref (.vec 31 0), nq, nq, .ref (.vec 34 0), int 9]], .ret (.agg [int 3, .ref (.vec 95 0)]) [.gone, .gone, .gone, .gone, .gone, .gone, .gone, .gone, .vec [[int 12, int 0, int 0, int 0, int 1]] 0 5, .var [int 3, nq], .var [int 0, nq], .var [nq, int 0, int 0, int 0], .vec [[int 7], [int 7]] 0 1, .var [nq, int 0, int 0, int 0], .gone, .gone, .gone, .gone, .gone, .gone, .gone, .gone, .gone, .vec [[int 12, int 0, int 0, int 0, int 1], [int 12, int 0, int 0, int 0, int 1]] 1 5, .gone, .gone, .gone, .gone, .var [nq, int 0, int 0, int 1], .var [int 5, int 3, int 7, int (-1), int 5, int 6, int 8, int 0], .var [int 5, int 3, int 7, int 25, int 2, int 3, int 9, int 0], .vec [[ai ⟨#[65]⟩, int 7, int 4, int 0, int 1, int 0, ai ⟨#[]⟩, int 0, int 0, nq, int 2, int 0, ai ⟨#[]⟩, int 0, int 0, nq]] 0 16, .var [.ref (.vec 31 0), nq, nq, .ref (.vec 34 0)], .var [int 0, int 1024], .vec [[int 1, int 7, int 0, int 0, int 0, int 1024, int 8, int 0], [int 12, int 0, int 0, int 1, int 0, int 1024, int 8, int 1], [int 5, int 3, int 7, int 25, int 2, int 3, int 9, int 0]] 0 8, .gone, .gone, .gone, .gone, .gone, .gone, .gone, .gone, .gone, .gone, .gone, .gone, .vec [[int 12, int 0, int 0, int 0, int 1], [int 5, int 3, int 7, int 0, int 3], [int 1, int 7, int 0, int 2, int 3]] 2 5, .gone, .gone, .gone, .gone, .gone, .gone, .gone, .gone, .vec [[int 7, int 2, int 9, int 1, int 4]] 0 5, .var [int 3, .ref (.vec 56 0)], .gone, .gone, .gone, .gone, .gone, .gone, .gone, .gone, .gone, .gone, .gone, .gone, .vec [[int 12, int 0, int 0, int 0, int 1], [int 5, int 3, int 7, int 0, int 2]] 1 5, .var [int 3, nq], .vec [[int 7]] 0 1, .var [.ref (.vec 31 0), nq, nq, .ref (.vec 34 0)], .var [nq, int 0, int 0, int 0], .map [(int 7, .agg [int 7, int 0, int (-1), bool true], 0)] 1, .var [.ref (.vec 86 2), .ref (.vec 31 0), nq, nq, .ref (.vec 34 0), int 9], .gone, .gone, .gone, .gone, .gone, .gone, .gone, .gone, .gone, .vec [[int 12, int 0, int 0, int 0, int 1], [int 5, int 3, int 7, int 0, int 3], [int 1, int 7, int 0, int 2, int 3]] 2 5, .gone, .gone, .gone, .gone, .gone, .gone, .gone, .gone, .vec [[int 7, int 2, int 9, int 1, int 4]] 0 5]⟩
theorem vR : s16w0.Ok y6 Γk := BW pok rE (ms := []) (by kernel_rfl) trivial
def s16w1 : Memo := ⟨61, [.ref (.ptr 76 0), .ref (.vec 95 0), int 3], [.gone, .gone, .gone, .gone, .gone, .gone, .gone, .gone, .vec [[int 12, int 0, int 0, int 0, int 1]] 0 5, .var [int 3, nq], .var [int 0, nq], .var [nq, int 0, int 0, int 0], .vec [[int 7], [int 7]] 0 1, .var [nq, int 0, int 0, int 0], .gone, .gone, .gone, .gone, .gone, .gone, .gone, .gone, .gone, .vec [[int 12, int 0, int 0, int 0, int 1], [int 12, int 0, int 0, int 0, int 1]] 1 5, .gone, .gone, .gone, .gone, .var [nq, int 0, int 0, int 1], .var [int 5, int 3, int 7, int (-1), int 5, int 6, int 8, int 0], .var [int 5, int 3, int 7, int 25, int 2, int 3, int 9, int 0], .vec [[ai ⟨#[65]⟩, int 7, int 4, int 0, int 1, int 0, ai ⟨#[]⟩, int 0, int 0, nq, int 2, int 0, ai ⟨#[]⟩, int 0, int 0, nq]] 0 16, .var [.ref (.vec 31 0), nq, nq, .ref (.vec 34 0)], .var [int 0, int 1024], .vec [[int 1, int 7, int 0, int 0, int 0, int 1024, int 8, int 0], [int 12, int 0, int 0, int 1, int 0, int 1024, int 8, int 1], [int 5, int 3, int 7, int 25, int 2, int 3, int 9, int 0]] 0 8, .gone, .gone, .gone, .gone, .gone, .gone, .gone, .gone, .gone, .gone, .gone, .gone, .vec [[int 12, int 0, int 0, int 0, int 1], [int 5, int 3, int 7, int 0, int 3], [int 1, int 7, int 0, int 2, int 3]] 2 5, .gone, .gone, .gone, .gone, .gone, .gone, .gone, .gone, .vec [[int 7, int 2, int 9, int 1, int 4]] 0 5, .var [int 3, .ref (.vec 56 0)], .gone, .gone, .gone, .gone, .gone, .gone, .gone, .gone, .gone, .gone, .gone, .gone, .vec [[int 12, int 0, int 0, int 0, int 1], [int 5, int 3, int 7, int 0, int 2]] 1 5, .var [int 3, nq], .vec [[int 7]] 0 1, .var [.ref (.vec 31 0), nq, nq, .ref (.vec 34 0)], .var [nq, int 0, int 0, int 0], .map [(int 7, .agg [int 7, int 0, int (-1), bool true], 0)] 1, .var [.ref (.vec 86 2), .ref (.vec 31 0), nq, nq, .ref (.vec 34 0), int 9], .gone, .gone, .gone, .gone, .gone, .gone, .gone, .gone, .gone, .vec [[int 12, int 0, int 0, int 0, int 1], [int 5, int 3, int 7, int 0, int 3], [int 1, int 7, int 0, int 2, int 3]] 2 5, .gone, .gone, .gone, .gone, .gone, .gone, .gone, .gone, .vec [[int 7, int 2, int 9, int 1, int 4]] 0 5, .var [int 3, .ref (.vec 95 0)]], .ret (.tup [.ref (.vec 105 0), int 0]) [.gone, .gone, .gone, .gone, .gone, .gone, .gone, .gone, .vec [[int 12, int 0, int 0, int 0, int 1]] 0 5, .var [int 3, nq], .var [int 0, nq], .var [nq, int 0, int 0, int 0], .vec [[int 7], [int 7]] 0 1, .var [nq, int 0, int 0, int 0], .gone, .gone, .gone, .gone, .gone, .gone, .gone, .gone, .gone, .vec [[int 12, int 0, int 0, int 0, int 1], [int 12, int 0, int 0, int 0, int 1]] 1 5, .gone, .gone, .gone, .gone, .var [nq, int 0, int 0, int 1], .var [int 5, int 3, int 7, int (-1), int 5, int 6, int 8, int 0], .var [int 5, int 3, int 7, int 25, int 2, int 3, int 9, int 0], .vec [[ai ⟨#[65]⟩, int 7, int 4, int 0, int 1, int 0, ai ⟨#[]⟩, int 0, int 0, nq, int 2, int 0, ai ⟨#[]⟩, int 0, int 0, nq]] 0 16, .var [.ref (.vec 31 0), nq, nq, .ref (.vec 34 0)], .var [int 0, int 1024], .vec [[int 1, int 7, int 0, int 0, int 0, int 1024, int 8, int 0], [int 12, int 0, int 0, int 1, int 0, int 1024, int 8, int 1], [int 5, int 3, int 7, int 25, int 2, int 3, int 9, int 0]] 0 8, .gone, .gone, .gone, .gone, .gone, .gone, .gone, .gone, .gone, .gone, .gone, .gone, .vec [[int 12, int 0, int 0, int 0, int 1], [int 5, int 3, int 7, int 0, int 3], [int 1, int 7, int 0, int 2, int 3]] 2 5, .gone, .gone, .gone, .gone, .gone, .gone, .gone, .gone, .vec [[int 7, int 2, int 9, int 1, int 4]] 0 5, .var [int 3, .ref (.vec 56 0)], .gone, .gone, .gone, .gone, .gone, .gone, .gone, .gone, .gone, .gone, .gone, .gone, .vec [[int 12, int 0, int 0, int 0, int 1], [int 5, int 3, int 7, int 0, int 2]] 1 5, .var [int 3, nq], .vec [[int 7]] 0 1, .var [.ref (.vec 31 0), nq, nq, .ref (.vec 34 0)], .var [nq, int 0, int 0, int 0], .map [(int 7, .agg [int 7, int 0, int (-1), bool true], 0)] 1, .var [.ref (.vec 86 3), .ref (.vec 31 0), nq, nq, .ref (.vec 34 0), int 9], .gone, .gone, .gone, .gone, .gone, .gone, .gone, .gone, .gone, .vec [[int 12, int 0, int 0, int 0, int 1], [int 5, int 3, int 7, int 0, int 3], [int 1, int 7, int 0, int 2, int 3], [int 1, int 7, int 0, int 3, int 4]] 3 5, .gone, .gone, .gone, .gone, .gone, .gone, .gone, .gone, .vec [[int 7, int 2, int 9, int 1, int 4]] 0 5, .var [int 3, .ref (.vec 95 0)], .gone, .gone, .gone, .gone, .gone, .gone, .gone, .gone, .vec [[int 7, int 2, int 9, int 1, int 4]] 0 5]⟩
theorem vS : s16w1.Ok y6 Γk := BW pok rE (ms := []) (by kernel_rfl) trivial
def s16w2 : Memo := ⟨23, [.agg [.ref (.vec 31 0), nq, nq, .ref (.vec 34 0)], int 3, int 3, int 9], [.gone, .gone, .gone, .gone, .gone, .gone, .gone, .gone, .vec [[int 12, int 0, int 0, int 0, int 1]] 0 5, .var [int 3, nq], .var [int 0, nq], .var [nq, int 0, int 0, int 0], .vec [[int 7], [int 7]] 0 1, .var [nq, int 0, int 0, int 0], .gone, .gone, .gone, .gone, .gone, .gone, .gone, .gone, .gone, .vec [[int 12, int 0, int 0, int 0, int 1], [int 12, int 0, int 0, int 0, int 1]] 1 5, .gone, .gone, .gone, .gone, .var [nq, int 0, int 0, int 1], .var [int 5, int 3, int 7, int (-1), int 5, int 6, int 8, int 0], .var [int 5, int 3, int 7, int 25, int 2, int 3, int 9, int 0], .vec [[ai ⟨#[65]⟩, int 7, int 4, int 0, int 1, int 0, ai ⟨#[]⟩, int 0, int 0, nq, int 2, int 0, ai ⟨#[]⟩, int 0, int 0, nq]] 0 16, .var [.ref (.vec 31 0), nq, nq, .ref (.vec 34 0)], .var [int 0, int 1024], .vec [[int 1, int 7, int 0, int 0, int 0, int 1024, int 8, int 0], [int 12, int 0, int 0, int 1, int 0, int 1024, int 8, int 1], [int 5, int 3, int 7, int 25, int 2, int 3, int 9, int 0]] 0 8], .ret (.tup [.agg [int 3, .ref (.vec 56 0)], .ref (.vec 47 2), int 0]) [.gone, .gone, .gone, .gone, .gone, .gone, .gone, .gone, .vec [[int 12, int 0, int 0, int 0, int 1]] 0 5, .var [int 3, nq], .var [int 0, nq], .var [nq, int 0, int 0, int 0], .vec [[int 7], [int 7]] 0 1, .var [nq, int 0, int 0, int 0], .gone, .gone, .gone, .gone, .gone, .gone, .gone, .gone, .gone, .vec [[int 12, int 0, int 0, int 0, int 1], [int 12, int 0, int 0, int 0, int 1]] 1 5, .gone, .gone, .gone, .gone, .var [nq, int 0, int 0, int 1], .var [int 5, int 3, int 7, int (-1), int 5, int 6, int 8, int 0], .var [int 5, int 3, int 7, int 25, int 2, int 3, int 9, int 0], .vec [[ai ⟨#[65]⟩, int 7, int 4, int 0, int 1, int 0, ai ⟨#[]⟩, int 0, int 0, nq, int 2, int 0, ai ⟨#[]⟩, int 0, int 0, nq]] 0 16, .var [.ref (.vec 31 0), nq, nq, .ref (.vec 34 0)], .var [int 0, int 1024], .vec [[int 1, int 7, int 0, int 0, int 0, int 1024, int 8, int 0], [int 12, int 0, int 0, int 1, int 0, int 1024, int 8, int 1], [int 5, int 3, int 7, int 25, int 2, int 3, int 9, int 0]] 0 8, .gone, .gone, .gone, .gone, .gone, .gone, .gone, .gone, .gone, .gone, .gone, .gone, .vec [[int 12, int 0, int 0, int 0, int 1], [int 5, int 3, int 7, int 0, int 3], [int 1, int 7, int 0, int 2, int 3]] 2 5, .gone, .gone, .gone, .gone, .gone, .gone, .gone, .gone, .vec [[int 7, int 2, int 9, int 1, int 4]] 0 5]⟩
theorem vT : s16w2.Ok y6 Γk := BW pok rE (ms := []) (by kernel_rfl) trivial
def s16w3 : Memo := ⟨19, [.agg [.ref (.vec 31 0), nq, nq, .ref (.vec 34 0)], int 3, int 3, int 9, .ref (.vec 72 0)], [.gone, .gone, .gone, .gone, .gone, .gone, .gone, .gone, .vec [[int 12, int 0, int 0, int 0, int 1]] 0 5, .var [int 3, nq], .var [int 0, nq], .var [nq, int 0, int 0, int 0], .vec [[int 7], [int 7]] 0 1, .var [nq, int 0, int 0, int 0], .gone, .gone, .gone, .gone, .gone, .gone, .gone, .gone, .gone, .vec [[int 12, int 0, int 0, int 0, int 1], [int 12, int 0, int 0, int 0, int 1]] 1 5, .gone, .gone, .gone, .gone, .var [nq, int 0, int 0, int 1], .var [int 5, int 3, int 7, int (-1), int 5, int 6, int 8, int 0], .var [int 5, int 3, int 7, int 25, int 2, int 3, int 9, int 0], .vec [[ai ⟨#[65]⟩, int 7, int 4, int 0, int 1, int 0, ai ⟨#[]⟩, int 0, int 0, nq, int 2, int 0, ai ⟨#[]⟩, int 0, int 0, nq]] 0 16, .var [.ref (.vec 31 0), nq, nq, .ref (.vec 34 0)], .var [int 0, int 1024], .vec [[int 1, int 7, int 0, int 0, int 0, int 1024, int 8, int 0], [int 12, int 0, int 0, int 1, int 0, int 1024, int 8, int 1], [int 5, int 3, int 7, int 25, int 2, int 3, int 9, int 0]] 0 8, .gone, .gone, .gone, .gone, .gone, .gone, .gone, .gone, .gone, .gone, .gone, .gone, .vec [[int 12, int 0, int 0, int 0, int 1], [int 5, int 3, int 7, int 0, int 3], [int 1, int 7, int 0, int 2, int 3]] 2 5, .gone, .gone, .gone, .gone, .gone, .gone, .gone, .gone, .vec [[int 7, int 2, int 9, int 1, int 4]] 0 5, .var [int 3, .ref (.vec 56 0)], .gone, .gone, .gone, .gone, .gone, .gone, .gone, .gone, .gone, .gone, .gone, .gone, .vec [[int 12, int 0, int 0, int 0, int 1], [int 5, int 3, int 7, int 0, int 2]] 1 5, .var [int 3, nq], .vec [[int 7]] 0 1], .ret (.tup [.agg [.ref (.vec 132 0), int 4, int 9, int 1], .ref (.vec 86 5), int 0]) [.gone, .gone, .gone, .gone, .gone, .gone, .gone, .gone, .vec [[int 12, int 0, int 0, int 0, int 1]] 0 5, .var [int 3, nq], .var [int 0, nq], .var [nq, int 0, int 0, int 0], .vec [[int 7], [int 7]] 0 1, .var [nq, int 0, int 0, int 0], .gone, .gone, .gone, .gone, .gone, .gone, .gone, .gone, .gone, .vec [[int 12, int 0, int 0, int 0, int 1], [int 12, int 0, int 0, int 0, int 1]] 1 5, .gone, .gone, .gone, .gone, .var [nq, int 0, int 0, int 1], .var [int 5, int 3, int 7, int (-1), int 5, int 6, int 8, int 0], .var [int 5, int 3, int 7, int 25, int 2, int 3, int 9, int 0], .vec [[ai ⟨#[65]⟩, int 7, int 4, int 0, int 1, int 0, ai ⟨#[]⟩, int 0, int 0, nq, int 2, int 0, ai ⟨#[]⟩, int 0, int 0, nq]] 0 16, .var [.ref (.vec 31 0), nq, nq, .ref (.vec 34 0)], .var [int 0, int 1024], .vec [[int 1, int 7, int 0, int 0, int 0, int 1024, int 8, int 0], [int 12, int 0, int 0, int 1, int 0, int 1024, int 8, int 1], [int 5, int 3, int 7, int 25, int 2, int 3, int 9, int 0]] 0 8, .gone, .gone, .gone, .gone, .gone, .gone, .gone, .gone, .gone, .gone, .gone, .gone, .vec [[int 12, int 0, int 0, int 0, int 1], [int 5, int 3, int 7, int 0, int 3], [int 1, int 7, int 0, int 2, int 3]] 2 5, .gone, .gone, .gone, .gone, .gone, .gone, .gone, .gone, .vec [[int 7, int 2, int 9, int 1, int 4]] 0 5, .var [int 3, .ref (.vec 56 0)], .gone, .gone, .gone, .gone, .gone, .gone, .gone, .gone, .gone, .gone, .gone, .gone, .vec [[int 12, int 0, int 0, int 0, int 1], [int 5, int 3, int 7, int 0, int 2]] 1 5, .var [int 3, nq], .vec [[int 7]] 0 1, .gone, .gone, .gone, .gone, .gone, .gone, .gone, .gone, .gone, .gone, .gone, .gone, .gone, .vec [[int 12, int 0, int 0, int 0, int 1], [int 5, int 3, int 7, int 0, int 3], [int 1, int 7, int 0, int 2, int 3], [int 1, int 7, int 0, int 3, int 4], [int 12, int 0, int 0, int 0, int 1], [int 12, int 0, int 0, int 0, int 1]] 5 5, .gone, .gone, .gone, .gone, .gone, .gone, .gone, .gone, .gone, .gone, .gone, .gone, .gone, .gone, .gone, .gone, .gone, .gone, .gone, .gone, .gone, .gone, .gone, .gone, .gone, .gone, .gone, .gone, .gone, .gone, .gone, .gone, .gone, .gone, .gone, .gone, .gone, .gone, .gone, .gone, .gone, .gone, .gone, .gone, .gone, .vec [[int 7, int 1, int 9, bool true]] 0 4]⟩
theorem vU : s16w3.Ok y6 Γk := BW pok rE (ms := [s16w0, s16w1]) (by kernel_rfl) ⟨vR, vS, trivial⟩
def s16w4 : Memo := ⟨23, [.agg [.ref (.vec 31 0), nq, nq, .ref (.vec 34 0)], int 3, int 2, int 9], [.gone, .gone, .gone, .gone, .gone, .gone, .gone, .gone, .vec [[int 12, int 0, int 0, int 0, int 1]] 0 5, .var [int 3, nq], .var [int 0, nq], .var [nq, int 0, int 0, int 0], .vec [[int 7], [int 7]] 0 1, .var [nq, int 0, int 0, int 0], .gone, .gone, .gone, .gone, .gone, .gone, .gone, .gone, .gone, .vec [[int 12, int 0, int 0, int 0, int 1], [int 12, int 0, int 0, int 0, int 1]] 1 5, .gone, .gone, .gone, .gone, .var [nq, int 0, int 0, int 1], .var [int 5, int 3, int 7, int (-1), int 5, int 6, int 8, int 0], .var [int 5, int 3, int 7, int 25, int 2, int 3, int 9, int 0], .vec [[ai ⟨#[65]⟩, int 7, int 4, int 0, int 1, int 0, ai ⟨#[]⟩, int 0, int 0, nq, int 2, int 0, ai ⟨#[]⟩, int 0, int 0, nq]] 0 16, .var [.ref (.vec 31 0), nq, nq, .ref (.vec 34 0)], .var [int 0, int 1024], .vec [[int 1, int 7, int 0, int 0, int 0, int 1024, int 8, int 0], [int 12, int 0, int 0, int 1, int 0, int 1024, int 8, int 1], [int 5, int 3, int 7, int 25, int 2, int 3, int 9, int 0]] 0 8, .gone, .gone, .gone, .gone, .gone, .gone, .gone, .gone, .gone, .gone, .gone, .gone, .vec [[int 12, int 0, int 0, int 0, int 1], [int 5, int 3, int 7, int 0, int 3], [int 1, int 7, int 0, int 2, int 3]] 2 5, .gone, .gone, .gone, .gone, .gone, .gone, .gone, .gone, .vec [[int 7, int 2, int 9, int 1, int 4]] 0 5, .var [int 3, .ref (.vec 56 0)]], .ret (.tup [.agg [int 3, nq], .ref (.vec 70 1), int 0]) [.gone, .gone, .gone, .gone, .gone, .gone, .gone, .gone, .vec [[int 12, int 0, int 0, int 0, int 1]] 0 5, .var [int 3, nq], .var [int 0, nq], .var [nq, int 0, int 0, int 0], .vec [[int 7], [int 7]] 0 1, .var [nq, int 0, int 0, int 0], .gone, .gone, .gone, .gone, .gone, .gone, .gone, .gone, .gone, .vec [[int 12, int 0, int 0, int 0, int 1], [int 12, int 0, int 0, int 0, int 1]] 1 5, .gone, .gone, .gone, .gone, .var [nq, int 0, int 0, int 1], .var [int 5, int 3, int 7, int (-1), int 5, int 6, int 8, int 0], .var [int 5, int 3, int 7, int 25, int 2, int 3, int 9, int 0], .vec [[ai ⟨#[65]⟩, int 7, int 4, int 0, int 1, int 0, ai ⟨#[]⟩, int 0, int 0, nq, int 2, int 0, ai ⟨#[]⟩, int 0, int 0, nq]] 0 16, .var [.ref (.vec 31 0), nq, nq, .ref (.vec 34 0)], .var [int 0, int 1024], .vec [[int 1, int 7, int 0, int 0, int 0, int 1024, int 8, int 0], [int 12, int 0, int 0, int 1, int 0, int 1024, int 8, int 1], [int 5, int 3, int 7, int 25, int 2, int 3, int 9, int 0]] 0 8, .gone, .gone, .gone, .gone, .gone, .gone, .gone, .gone, .gone, .gone, .gone, .gone, .vec [[int 12, int 0, int 0, int 0, int 1], [int 5, int 3, int 7, int 0, int 3], [int 1, int 7, int 0, int 2, int 3]] 2 5, .gone, .gone, .gone, .gone, .gone, .gone, .gone, .gone, .vec [[int 7, int 2, int 9, int 1, int 4]] 0 5, .var [int 3, .ref (.vec 56 0)], .gone, .gone, .gone, .gone, .gone, .gone, .gone, .gone, .gone, .gone, .gone, .gone, .vec [[int 12, int 0, int 0, int 0, int 1], [int 5, int 3, int 7, int 0, int 2]] 1 5]⟩
theorem vV : s16w4.Ok y6 Γk := BW pok rE (ms := []) (by kernel_rfl) trivial
def s16wR : Memo := ⟨17, [], [], .ret (bool true) []⟩
theorem vW : s16wR.Ok y6 Γk := BW pok rE (ms := [s16w2, s16w3, s16w4]) (by kernel_rfl) ⟨vT, vU, vV, trivial⟩
theorem nV (h : List Blk) : Ev y6 Γk 17 [] h (bool true) h := Ev.frame0 rfl (Memo.call vW rfl) h
end Go.Vi
open Go Go.Proofs
namespace Go.Vi
set_option maxRecDepth 100000
theorem uf {w : WorldT} (h : jP w = true) : w.f.length ≤ 30 := by
 simp only [jP, zd, decide_eq_true_eq, AN] at h
 omega
theorem WorldT.ok0.few {w : WorldT} (hw : w.ok0) (h : jP w = true) : w.ok := by
 have := uf h
 exact ⟨hw.c, hw.s, by omega, hw.lc, hw.ls, hw.i⟩
end Go.Vi
open Go Go.Proofs
namespace Go.Vi
set_option maxRecDepth 100000
theorem rF (l : List AttT) (rp : List Int) : (kc l rp).1.length ≤ l.length := by
 unfold kc
 cases decide (da l = 0)
 ·simp
 ·cases decide (rp.length = l.length)
  ·simp
  ·simp only [cond_true]
   split
   ·unfold oV
    have key : ∀ (z : List (AttT × Nat)) (out : List AttT), ∀ m2, (z.foldl (fun out e => cgF m2 e out) out).length ≤ out.length + z.length := by
     intro z
     induction z with
     | nil => simp
     | cons e z ih =>
      intro out m2
      rw [Dw]
      have := ih (cgF m2 e out) m2
      have h2 : (cgF m2 e out).length ≤ out.length + 1 := by unfold cgF; cases cgHit m2 e.2 e.1 <;> simp
      simp only [List.length_cons]; omega
    have := key l.zipIdx [] (by assumption : IM × IM).2
    simpa using this
   ·simp
theorem eV {w : WorldT} (hw : w.ok0) (hs : ∀ x ∈ w.c, x.small) {r : RecT} {term known : Int} (h : List Blk) : Ev y6 Γk 14 [.agg w.l, .agg r.l, int term, int known] h (bool true) h := by
 cases ho : (!jP w || !decide (((r.a.map za).length : Int) ≤ 40))
 ·have hr := ho
  simp only [Bool.or_eq_false_iff, Bool.not_eq_false', decide_eq_true_eq, AN] at hr
  have hk := hw.few hr.1
  have hra : r.a.length ≤ 40 := by omega
  have h1 := rF r.a (cP w known term r.a)
  have h2 := iH term r.a
  have hsr : ak r.a := by unfold ak; omega
  have hL : ak (oW w r term known).1 := by unfold oW rcX ak; split <;> (try split) <;> simp <;> omega
  have hQ : ak (oW w r term known).2.1 := by unfold oW rcX ak; split <;> (try split) <;> simp <;> omega
  exact cs_ok nV ho hL hQ (fun h => y3 hk (by omega) h)
   (fun h => cnt57_a hk hs (by omega) (fun h => check31 hsr h) (fun h => cnt112 (by omega) (by simp [cP]) h) h)
   (fun h => ua rfl hL h) (fun h => o8 hQ (rdne _) h) h
 ·exact cs_out nV ho h
end Go.Vi
open Go Go.Proofs
namespace Go.Vi
set_option maxRecDepth 100000
end Go.Vi
open Go Go.Proofs
namespace Go.Vi
set_option maxRecDepth 100000
set_option maxHeartbeats 400000
end Go.Vi
open Go Go.Proofs
namespace Go.Vi
open Go.ChangeShapes Go.WideShapes Go.ChangeAt Go.RowKit Go.Proofs.YtilebidefogaiaaGreatDoor
set_option maxRecDepth 100000
theorem eF : y6.cellsOf 3 = 1 := by kernel_rfl
theorem qx : y6.cellsOf 9 = 1 := by kernel_rfl
theorem ug : y6.cellsOf 35 = 2 := by kernel_rfl
theorem cells72 : y6.cellsOf 72 = 1 := by kernel_rfl
theorem cells73 : y6.cellsOf 73 = 1 := by kernel_rfl
theorem cells74 : y6.cellsOf 74 = 1 := by kernel_rfl
theorem cells76 : y6.cellsOf 76 = 4 := by kernel_rfl
theorem cells87 : y6.cellsOf 87 = 2 := by kernel_rfl
theorem cells91 : y6.cellsOf 91 = 4 := by kernel_rfl
theorem bytes91 : y6.bytesOf 91 = 40 := by kernel_rfl
theorem bytes87 : y6.bytesOf 87 = 24 := by kernel_rfl
theorem vX : y6.bytesOf 102 = 32 := by kernel_rfl
theorem aJ {n : Nat} {ds : List Dp} (h : Shp y6 n 3 ds) : ∃ x, ds = [vi x] ∧ I64 x := by
 cases n with
 | zero => exact h.elim
 | succ n =>
  simp only [Shp, Tryz.underlying3] at h
  obtain ⟨x, rfl, hw⟩ := h
  refine ⟨x, rfl, ?_⟩
  have := bounds_i64 hw
  exact this
theorem mm {n : Nat} {ds : List Dp} (h : Shp y6 n 9 ds) : ∃ s, ds = [vs s] := by
 cases n with
 | zero => exact h.elim
 | succ n =>
  simp only [Shp, Tryz.underlying9] at h
  obtain ⟨s, rfl, _⟩ := h
  exact ⟨s, rfl⟩
theorem uh {n : Nat} {ds : List Dp} (h : Shp y6 n 35 ds) : ∃ a b, ds = [vi a, vi b] ∧ I64 a ∧ I64 b := by
 cases n with
 | zero => exact h.elim
 | succ n =>
  simp only [Shp, Tryz.underlying35, zW, eF, ug] at h
  obtain ⟨hl, h1, h2, _⟩ := h
  obtain ⟨a, e1, ha⟩ := aJ h1
  obtain ⟨b, e2, hb⟩ := aJ h2
  match ds, hl with
  | [x, y], _ =>
   simp at e1 e2
   subst e1; subst e2
   exact ⟨a, b, rfl, ha, hb⟩
theorem ui {n : Nat} {ds : List Dp} (h : Shp y6 n 91 ds) : ∃ c : Cls, ds = c.row ∧ c.ok := by
 cases n with
 | zero => exact h.elim
 | succ n =>
  simp only [Shp, Tryz.underlying91, zW, eF, qx, ug, cells91] at h
  obtain ⟨hl, h1, h2, h3, _⟩ := h
  obtain ⟨s, e1⟩ := mm h1
  obtain ⟨x, e2, hx⟩ := aJ h2
  obtain ⟨a, b, e3, ha, hb⟩ := uh h3
  match ds, hl with
  | [p, q, r, t], _ =>
   simp at e1 e2 e3
   obtain ⟨rfl, rfl⟩ := e3
   subst e1; subst e2
   exact ⟨⟨s, x, a, b⟩, rfl, hx, ha, hb⟩
theorem shp_fee {n : Nat} {ds : List Dp} (h : Shp y6 n 87 ds) : ∃ c : FeeT, ds = c.row ∧ I64 c.credits := by
 cases n with
 | zero => exact h.elim
 | succ n =>
  simp only [Shp, Tryz.underlying87, zW, eF, qx, cells87] at h
  obtain ⟨hl, h1, h2, _⟩ := h
  obtain ⟨s, e1⟩ := mm h1
  obtain ⟨x, e2, hx⟩ := aJ h2
  match ds, hl with
  | [p, q], _ =>
   simp at e1 e2
   subst e1; subst e2
   exact ⟨⟨s, x⟩, rfl, hx⟩
theorem gf {α : Type} {row : α → List Dp} {ok : α → Prop} : ∀ {es : List (List Dp)}, (∀ r ∈ es, ∃ a, r = row a ∧ ok a) → ∃ l : List α, es = l.map row ∧ ∀ a ∈ l, ok a
 | [], _ => ⟨[], rfl, by simp⟩
 | r :: es, h => by
  obtain ⟨a, rfl, ha⟩ := h r (Ak ..)
  obtain ⟨l, rfl, hl⟩ := gf (fun r hr => h r (AO _ hr))
  exact ⟨a :: l, rfl, fun b hb => (zR.1 hb).elim (fun e => e ▸ ha) (hl b)⟩
theorem eS {n k : Nat} (h : n * k ≤ reachBytes) (hk : 1 ≤ k) : n ≤ 140737488355328 := by
 have : n ≤ n * k := Nat.le_mul_of_pos_right n hk
 unfold reachBytes at h
 omega
theorem jS {n : Nat} {ds : List Dp} (h : Shp y6 n 72 ds) : ∃ l : List Cls, ds = [.sl (l.map Cls.row)] ∧ (∀ c ∈ l, c.ok) ∧ ak l := by
 cases n with
 | zero => exact h.elim
 | succ n =>
  simp only [Shp, Tryz.underlying72, bytes91] at h
  obtain ⟨es, rfl, hb, he⟩ := h
  obtain ⟨l, rfl, hl⟩ := gf (row := Cls.row) (ok := Cls.ok) (fun r hr => ui (he r hr))
  exact ⟨l, rfl, hl, by have := eS hb (by omega); simpa [ak] using this⟩
theorem vY {n : Nat} {ds : List Dp} (h : Shp y6 n 73 ds) : ∃ l : List FeeT, ds = [.sl (l.map FeeT.row)] ∧ (∀ c ∈ l, I64 c.credits) ∧ ak l := by
 cases n with
 | zero => exact h.elim
 | succ n =>
  simp only [Shp, Tryz.underlying73, bytes87] at h
  obtain ⟨es, rfl, hb, he⟩ := h
  obtain ⟨l, rfl, hl⟩ := gf (row := FeeT.row) (ok := fun c => I64 c.credits) (fun r hr => shp_fee (he r hr))
  exact ⟨l, rfl, hl, by have := eS hb (by omega); simpa [ak] using this⟩
end Go.Vi
open Go Go.Proofs
namespace Go.Vi
open Go.ChangeShapes Go.WideShapes Go.ChangeAt Go.RowKit Go.Proofs.YtilebidefogaiaaGreatDoor
set_option maxRecDepth 100000
theorem ownK : ownKnob y6.godebug = none := by kernel_rfl
theorem laidOut : laidOutB y6 = true := by kernel_rfl
def kd (a b c d : Bool) (f g : Value) : List Value := [.bool a, .bool b, .bool c, .bool d, f, g]
def kf (k : Nat) : Value := .func (.func k) #[] #[]
def kindsCells : List Value :=
 kd false false false false .nilFunc .nilFunc ++ kd false false false true (kf 257) (kf 258) ++ kd false false false true (kf 259) (kf 260) ++ kd false true false true (kf 261) (kf 262) ++
 kd false false false true (kf 263) (kf 264) ++ kd true true false false (kf 265) (kf 267) ++ kd true true false false (kf 269) (kf 270) ++ kd false true false false (kf 271) (kf 272) ++
 kd false true true false (kf 273) (kf 274) ++ kd true false false false (kf 266) (kf 275)
noncomputable def jT (os : Os) : World :=
 { World.holding y6 os ⟨#[], #[], []⟩ with heap := (World.holding y6 os ⟨#[], #[], []⟩).heap.modify 0 fun
   | .cells _ t frozen => .cells kindsCells.toArray t frozen
   | o => o }
theorem laid_met (os : Os) (args : Array Value) : laidMetH y6 [("sizar/rules.kinds", Bb)] ((jT os).forCall (fun _ _ => 0) ⟨#[], args, []⟩).memory :=
 laidMetH_of_parts3 (fuel := 8) (laidMet_nil _ _) (by kernel_rfl) (by kernel_rfl)
end Go.Vi
open Go Go.Proofs
namespace Go.Vi
open Go.ChangeShapes Go.WideShapes Go.ChangeAt Go.RowKit Go.Proofs.YtilebidefogaiaaGreatDoor
set_option maxRecDepth 100000
theorem cells22 : y6.cellsOf 22 = 1 := by kernel_rfl
theorem cells23 : y6.cellsOf 23 = 1 := by kernel_rfl
theorem cells24 : y6.cellsOf 24 = 1 := by kernel_rfl
theorem uj : y6.cellsOf 26 = 3 := by kernel_rfl
theorem cells27 : y6.cellsOf 27 = 1 := by kernel_rfl
theorem cells29 : y6.cellsOf 29 = 4 := by kernel_rfl
theorem ul : y6.cellsOf 56 = 3 := by kernel_rfl
theorem um : y6.cellsOf 58 = 2 := by kernel_rfl
theorem cells60 : y6.cellsOf 60 = 8 := by kernel_rfl
theorem un : y6.cellsOf 102 = 4 := by kernel_rfl
theorem wa : y6.cellsOf 109 = 1 := by kernel_rfl
theorem qy : y6.cellsOf 111 = 6 := by kernel_rfl
theorem wb : y6.cellsOf 113 = 16 := by kernel_rfl
theorem bytes76 : y6.bytesOf 76 = 96 := by kernel_rfl
theorem wc : y6.bytesOf 111 = 72 := by kernel_rfl
theorem we : y6.bytesOf 113 = 184 := by kernel_rfl
theorem shp_key {n : Nat} {ds : List Dp} (h : Shp y6 n 56 ds) : ∃ a b c, ds = [vi a, vi b, vi c] ∧ I64 a ∧ I64 b ∧ I64 c := by
 cases n with
 | zero => exact h.elim
 | succ n =>
  simp only [Shp, Tryz.underlying56, zW, eF, ul] at h
  obtain ⟨hl, h1, h2, h3, _⟩ := h
  obtain ⟨a, e1, ha⟩ := aJ h1
  obtain ⟨b, e2, hb⟩ := aJ h2
  obtain ⟨c, e3, hc⟩ := aJ h3
  match ds, hl with
  | [p, q, r], _ =>
   simp at e1 e2 e3
   subst e1; subst e2; subst e3
   exact ⟨a, b, c, rfl, ha, hb, hc⟩
theorem wg {n : Nat} {ds : List Dp} (h : Shp y6 n 58 ds) : ∃ a b, ds = [vi a, vi b] ∧ I64 a ∧ I64 b := by
 cases n with
 | zero => exact h.elim
 | succ n =>
  simp only [Shp, Tryz.underlying58, zW, eF, um] at h
  obtain ⟨hl, h1, h2, _⟩ := h
  obtain ⟨a, e1, ha⟩ := aJ h1
  obtain ⟨b, e2, hb⟩ := aJ h2
  match ds, hl with
  | [p, q], _ =>
   simp at e1 e2
   subst e1; subst e2
   exact ⟨a, b, rfl, ha, hb⟩
theorem wh {n : Nat} {ds : List Dp} (h : Shp y6 n 60 ds) : ∃ f : FactT, ds = f.row ∧ f.ok := by
 cases n with
 | zero => exact h.elim
 | succ n =>
  simp only [Shp, Tryz.underlying60, zW, eF, ul, um, cells60] at h
  obtain ⟨hl, h1, h2, h3, h4, h5, _⟩ := h
  obtain ⟨a, b, c, e1, ha, hb, hc⟩ := shp_key h1
  obtain ⟨d, e2, hd⟩ := aJ h2
  obtain ⟨x, y, e3, hx, hy⟩ := wg h3
  obtain ⟨k, e4, hk⟩ := aJ h4
  obtain ⟨m, e5, hm⟩ := aJ h5
  match ds, hl with
  | [p1, p2, p3, p4, p5, p6, p7, p8], _ =>
   simp at e1 e2 e3 e4 e5
   obtain ⟨rfl, rfl, rfl⟩ := e1
   obtain ⟨rfl, rfl⟩ := e3
   subst e2; subst e4; subst e5
   exact ⟨⟨a, b, c, d, x, y, k, m⟩, rfl, ha, hb, hc, hd, hx, hy, hk, hm⟩
theorem uo {n : Nat} {ds : List Dp} (h : Shp y6 n 27 ds) : ∃ l : List FactT, ds = [.sl (l.map zo)] ∧ (∀ c ∈ l, c.ok) := by
 cases n with
 | zero => exact h.elim
 | succ n =>
  simp only [Shp, Tryz.underlying27] at h
  obtain ⟨es, rfl, _, he⟩ := h
  obtain ⟨l, rfl, hl⟩ := gf (row := zo) (ok := FactT.ok) (fun r hr => wh (he r hr))
  exact ⟨l, rfl, hl⟩
theorem ln : ∀ {ks : List RuleT}, (∀ k ∈ ks, k.ok) → jF ks
 | [], _ => trivial
 | k :: ks, h => ⟨h k (Ak ..), ln fun x hx => h x (AO _ hx)⟩
theorem mn : ∀ {n : Nat} {ds : List Dp}, Shp y6 n 111 ds → ∃ r : RuleT, ds = r.row ∧ r.ok
 | 0, _, h => h.elim
 | 1, _, h => by
  simp only [Shp, Ej, zW] at h
  exact h.2.1.elim
 | n + 2, ds, h => by
  rw [Shp, Ej] at h
  simp only [zW, eF, qx, wa, qy] at h
  obtain ⟨hl, h1, h2, h3, h4, h5, h6, _⟩ := h
  obtain ⟨a, e1, ha⟩ := aJ h1
  obtain ⟨b, e2, hb⟩ := aJ h2
  obtain ⟨s, e3⟩ := mm h3
  obtain ⟨c, e4, hc⟩ := aJ h4
  obtain ⟨d, e5, hd⟩ := aJ h5
  rw [Shp, Tryz.underlying109] at h6
  simp only [wc] at h6
  obtain ⟨es, e6, hb6, he⟩ := h6
  obtain ⟨l, rfl, hk⟩ := gf (row := BC) (ok := RuleT.ok) (fun r hr => mn (he r hr))
  have hs : ak l := by have := eS hb6 (by omega); simpa [ak] using this
  match ds, hl with
  | [p1, p2, p3, p4, p5, p6], _ =>
   simp at e1 e2 e3 e4 e5 e6
   subst e1; subst e2; subst e3; subst e4; subst e5; subst e6
   refine ⟨.mk a b s c d l, ?_, ?_⟩
   ·rw [BC, dZ]
   ·rw [RuleT.ok]; exact ⟨⟨ha, hb, hc, hd, hs⟩, ln hk⟩
theorem rH {n : Nat} {ds : List Dp} (h : Shp y6 n 113 ds) : ∃ c : CourseT, ds = c.row ∧ c.ok := by
 cases n with
 | zero => exact h.elim
 | succ n =>
  rw [Shp, Tryz.underlying113] at h
  simp only [zW, eF, qx, qy, wb] at h
  obtain ⟨hl, h1, h2, h3, h4, h5, h6, _⟩ := h
  obtain ⟨s, e1⟩ := mm h1
  obtain ⟨a, e2, _⟩ := aJ h2
  obtain ⟨b, e3, _⟩ := aJ h3
  obtain ⟨c, e4, _⟩ := aJ h4
  obtain ⟨r, e5, hr⟩ := mn h5
  obtain ⟨t, e6, ht⟩ := mn h6
  rw [← Dx] at e5 e6
  match ds, hl with
  | [p1, p2, p3, p4, p5, p6, p7, p8, p9, p10, p11, p12, p13, p14, p15, p16], _ =>
   simp [RuF.row] at e1 e2 e3 e4 e5 e6
   obtain ⟨rfl, rfl, rfl, rfl, rfl, rfl⟩ := e5
   obtain ⟨rfl, rfl, rfl, rfl, rfl, rfl⟩ := e6
   subst e1; subst e2; subst e3; subst e4
   exact ⟨⟨s, a, b, c, r, t⟩, rfl, hr, ht⟩
theorem pa {n : Nat} {ds : List Dp} (h : Shp y6 n 22 ds) : ∃ l : List CourseT, ds = [.sl (l.map zS)] ∧ (∀ c ∈ l, c.ok) ∧ ak l := by
 cases n with
 | zero => exact h.elim
 | succ n =>
  simp only [Shp, Tryz.underlying22, we] at h
  obtain ⟨es, rfl, hb, he⟩ := h
  obtain ⟨l, rfl, hl⟩ := gf (row := zS) (ok := CourseT.ok) (fun r hr => rH (he r hr))
  exact ⟨l, rfl, hl, by have := eS hb (by omega); simpa [ak] using this⟩
theorem pc {n : Nat} {ds : List Dp} (h : Shp y6 n 102 ds) : ∃ c : ClauseT, ds = c.row ∧ True := by
 cases n with
 | zero => exact h.elim
 | succ n =>
  simp only [Shp, Tryz.underlying102, zW, eF, un] at h
  obtain ⟨hl, h1, h2, h3, h4, _⟩ := h
  obtain ⟨a, e1, _⟩ := aJ h1
  obtain ⟨b, e2, _⟩ := aJ h2
  obtain ⟨c, e3, _⟩ := aJ h3
  obtain ⟨d, e4, _⟩ := aJ h4
  match ds, hl with
  | [p, q, r, t], _ =>
   simp at e1 e2 e3 e4
   subst e1; subst e2; subst e3; subst e4
   exact ⟨⟨a, b, c, d⟩, rfl, trivial⟩
theorem wi {n : Nat} {ds : List Dp} (h : Shp y6 n 76 ds) : ∃ s : SysT, ds = s.row ∧ s.ok := by
 cases n with
 | zero => exact h.elim
 | succ n =>
  simp only [Shp, Tryz.underlying76, zW, cells72, cells73, cells74, cells76] at h
  obtain ⟨hl, h1, h2, h3, h4, _⟩ := h
  obtain ⟨a, e1, a1, a2⟩ := jS h1
  obtain ⟨b, e2, b1, b2⟩ := vY h2
  obtain ⟨c, e3, c1, c2⟩ := jS h3
  have h5 : ∃ l : List ClauseT, (List.take 1 (List.drop 3 ds)) = [.sl (l.map ClauseT.row)] ∧ ak l := by
   cases n with
   | zero => exact h4.elim
   | succ n =>
    simp only [Shp, Tryz.underlying74, vX] at h4
    obtain ⟨es, e, hb, he⟩ := h4
    obtain ⟨l, rfl, _⟩ := gf (row := ClauseT.row) (ok := fun _ => True) (fun r hr => pc (he r hr))
    exact ⟨l, e, by have := eS hb (by omega); simpa [ak] using this⟩
  obtain ⟨d, e4, d1⟩ := h5
  match ds, hl with
  | [p, q, r, t], _ =>
   simp at e1 e2 e3 e4
   subst e1; subst e2; subst e3; subst e4
   exact ⟨⟨a, b, c, d⟩, rfl, ⟨a1, c1, b1, a2, c2, b2, by simpa [ak, SysT.sys] using d1⟩⟩
theorem pd {n : Nat} {ds : List Dp} (h : Shp y6 n 24 ds) : ∃ l : List SysT, ds = [.sl (l.map zZ)] ∧ (∀ c ∈ l, c.ok) ∧ ak l := by
 cases n with
 | zero => exact h.elim
 | succ n =>
  simp only [Shp, Tryz.underlying24, bytes76] at h
  obtain ⟨es, rfl, hb, he⟩ := h
  obtain ⟨l, rfl, hl⟩ := gf (row := zZ) (ok := SysT.ok) (fun r hr => wi (he r hr))
  exact ⟨l, rfl, hl, by have := eS hb (by omega); simpa [ak] using this⟩
theorem uq {n : Nat} {ds : List Dp} (h : Shp y6 n 23 ds) : ∃ l, ds = [.sl l] := by
 cases n with
 | zero => exact h.elim
 | succ n =>
  simp only [Shp, Tryz.underlying23] at h
  obtain ⟨es, rfl, _⟩ := h
  exact ⟨es, rfl⟩
theorem ur {n : Nat} {ds : List Dp} (h : Shp y6 n 29 ds) : ∃ w : WorldT, ds.map .p = w.l ∧ w.ok0 := by
 cases n with
 | zero => exact h.elim
 | succ n =>
  rw [Shp, Tryz.underlying29] at h
  simp only [zW, uj, cells27, cells29] at h
  obtain ⟨hl, h1, h2, _⟩ := h
  obtain ⟨f, e4, hf⟩ := uo h2
  cases n with
  | zero => exact h1.elim
  | succ n =>
   rw [Shp, Tryz.underlying26] at h1
   simp only [zW, cells22, cells23, cells24, uj] at h1
   obtain ⟨_, g1, g2, g3, _⟩ := h1
   obtain ⟨c, e1, c1, c2⟩ := pa g1
   obtain ⟨p, e2⟩ := uq g2
   obtain ⟨s, e3, s1, s2⟩ := pd g3
   match ds, hl with
   | [x, y, z, t], _ =>
    simp at e1 e2 e3 e4
    subst e1; subst e2; subst e3; subst e4
    exact ⟨⟨c, p, s, f⟩, rfl, ⟨c1, s1, c2, s2, hf⟩⟩
end Go.Vi
open Go Go.Proofs
namespace Go.Vi
open Go.ChangeShapes Go.WideShapes Go.ChangeAt Go.RowKit Go.Proofs.YtilebidefogaiaaGreatDoor
set_option maxRecDepth 100000
def plainW : List TypeId := [3, 4, 9, 22, 23, 24, 26, 27, 29, 30, 35, 56, 58, 60, 72, 73, 74, 76, 87, 91, 102, 109, 111, 113, 294, 296, 298, 300]
theorem plain29 : qd y6 plainW = true := by kernel_rfl
end Go.Vi
open Go Go.Proofs
namespace Go.Vi
open Go.ChangeShapes Go.WideShapes Go.ChangeAt Go.RowKit Go.Proofs.YtilebidefogaiaaGreatDoor
set_option maxRecDepth 100000
mutual
def Dp.wt : Dp → Nat
 | .sl es => wtR es
 | .v _ => 0
def wtL : List Dp → Nat
 | [] => 0
 | d :: ds => d.wt + wtL ds
def wtR : List (List Dp) → Nat
 | [] => 0
 | r :: rs => 1 + wtL r + wtR rs
end
theorem ut : ∀ (a b : List Dp), wtL (a ++ b) = wtL a + wtL b
 | [], b => by simp [wtL]
 | d :: a, b => by simp only [List.cons_append, wtL, ut a b]; omega
theorem uu : ∀ {rs : List (List Dp)}, ∀ r ∈ rs, 1 + wtL r ≤ wtR rs
 | a :: rs, r, hr => by
  simp only [wtR]
  rcases zR.1 hr with rfl | hr
  ·omega
  ·have := uu r hr; omega
theorem wW {H : Type} : ∀ (rs : List (List Dp)) (ds : List (DataW H)), rs.length = ds.length → (∀ (i : Nat) r d, rs[i]? = some r → ds[i]? = some d → wtL r + 1 ≤ Aj d) → wtR rs ≤ Bd ds
 | [], _, _, _ => by simp [wtR]
 | r :: rs, [], h, _ => by simp at h
 | r :: rs, d :: ds, h, hb => by
  have h1 := hb 0 r d rfl rfl
  have h2 := wW rs ds (by simpa using h) fun i r d hr hd => hb (i + 1) r d (by simpa using hr) (by simpa using hd)
  simp only [wtR, Bd]
  omega
section
variable {w : World} {av : Nat → Prop} {P : Program}
theorem ic {cs : List Value} {S : TypeId → List Dp → Prop} {H : Type} {total : Nat} (hc : cs.length = total) : ∀ (fs : List Field) (xs : List (DataW H)) (acc : Nat), ci P fs acc total = true →
  (∀ (i : Nat) f, fs[i]? = some f → ∃ ds x, xs[i]? = some x ∧ S f.type ds ∧ RelPL w av ds ((cs.drop f.offset).take (P.cellsOf f.type)) ∧ wtL ds + 1 ≤ Aj x) →
  ∃ D, RelPL w av D (cs.drop acc) ∧ (∀ f ∈ fs, S f.type ((D.drop (f.offset - acc)).take (P.cellsOf f.type))) ∧ wtL D ≤ Bd xs
 | [], xs, acc, h, _ => by
  simp only [ci, beq_iff_eq] at h
  refine ⟨[], ?_, by simp, by simp [wtL]⟩
  rw [List.drop_of_length_le (by omega)]
  trivial
 | f :: fs, xs, acc, h, hf => by
  simp only [ci, zd, beq_iff_eq] at h
  obtain ⟨rfl, h⟩ := h
  obtain ⟨ds, x, hx, hs, hr, hb⟩ := hf 0 f rfl
  obtain ⟨y, ys, rfl⟩ : ∃ y ys, xs = y :: ys := by cases xs with
   | nil => simp at hx
   | cons y ys => exact ⟨y, ys, rfl⟩
  obtain rfl : y = x := by simpa using hx
  obtain ⟨D, hD, hS, hB⟩ := ic hc fs ys _ h fun i g hg => hf (i + 1) g (by simpa using hg)
  obtain ⟨hle, hoff⟩ := nv h
  have hlen : ds.length = P.cellsOf f.type := by
   have := hr.length
   rw [this, BR, List.length_drop]
   omega
  refine ⟨ds ++ D, ?_, fun g hg => ?_, by rw [ut]; simp only [Bd]; omega⟩
  ·have := hr.append hD
   rw [← Cg, B9] at this
   exact this
  ·rcases zR.1 hg with rfl | hg
   ·rw [Nat.sub_self, Da, List.take_append_of_le_length (by omega), ← hlen, List.take_length]
    exact hs
   ·have h1 := hoff g hg
    have hd : ∀ k, (ds ++ D).drop (ds.length + k) = D.drop k := fun k => by rw [List.drop_append]; simp
    rw [show g.offset - f.offset = ds.length + (g.offset - (f.offset + P.cellsOf f.type)) by omega, hd]
    exact hS g hg
theorem jU {H : Type} {enc : TypeId × Value → H} {spare : Nat → Bool} {ts : List TypeId} (hts : qd P ts = true) (hav : ∀ k, ¬ av k) :
  ∀ (fuel : Nat) (t : TypeId) (cs : List Value) (d : DataW H) (ps : List MemPlace), t ∈ ts → BM enc P w 0 spare true fuel t cs = some (d, ps) → (d.weights P t).all (· ≤ reachBytes) = true →
   ∃ ds, Shp P fuel t ds ∧ RelPL w av ds cs ∧ wtL ds + 1 ≤ Aj d := by
 intro fuel
 induction fuel with
 | zero => intro t cs d ps _ h; simp [BM] at h
 | succ n ih =>
  intro t cs d ps ht h hw
  have hp := u0 hts ht
  split at hp
  ·rename_i hu
   obtain ⟨b, rfl, hx⟩ := DataW.trod_bool hu h
   simp only [y8] at hx
   obtain ⟨rfl, _⟩ := hx
   exact ⟨[.v (.bool b)], by simp only [Shp, hu]; exact ⟨b, rfl⟩, by simp [RelPL, RelP], by simp [wtL, Dp.wt, Aj]⟩
  ·rename_i k hu
   obtain ⟨x, rfl, hx, hwf⟩ := DataW.trod_int hu h
   simp only [y8] at hx
   obtain ⟨rfl, _⟩ := hx
   exact ⟨[.v (.int k x)], by simp only [Shp, hu]; exact ⟨x, rfl, hwf⟩, by simp [RelPL, RelP], by simp [wtL, Dp.wt, Aj]⟩
  ·rename_i hu
   obtain ⟨s, rfl, hx, _⟩ := DataW.trod_string hu h
   simp only [y8] at hx
   obtain ⟨rfl, _⟩ := hx
   have hs : s.size ≤ reachBytes := by
    simp only [Dk, Bu, List.all_nil, Bool.and_true, decide_eq_true_eq, Array.length_toList] at hw
    exact hw
   exact ⟨[.v (.string s)], by simp only [Shp, hu]; exact ⟨s, rfl, hs⟩, by simp [RelPL, RelP], by simp [wtL, Dp.wt, Aj]⟩
  ·rename_i e hu
   simp only [zd, decide_eq_true_eq, DP] at hp
   obtain ⟨he, hpos⟩ := hp
   rcases DataW.trod_slice hu h with ⟨rfl, hx⟩ | ⟨a, len, cap, elems, rest, m, hm, rfl, hx, _, hle, _, hlen, hel, _⟩
   ·simp only [y8] at hx
    obtain ⟨rfl, _⟩ := hx
    refine ⟨[.sl []], by simp only [Shp, hu]; exact ⟨[], rfl, by simp, by simp⟩, ?_, by simp [wtL, wtR, Dp.wt, Aj]⟩
    simp only [RelPL, RelP, and_true]
    exact .inl ⟨trivial, none, 0, rfl, fun _ => rfl⟩
   ·obtain rfl : n = m := by omega
    simp only [y8] at hx
    obtain ⟨rfl, _⟩ := hx
    simp only [Dk, hu, Bu, List.all_append, zd, decide_eq_true_eq, AN] at hw
    obtain ⟨hw1, hw2, _⟩ := hw
    have key : ∀ i, i < len → ∃ ds ys, Shp P n e ds ∧ RelPL w av ds ys ∧ w.cells? 0 (a.add (i * P.cellsOf e)) (P.cellsOf e) = some ys ∧ ∀ x, elems[i]? = some x → wtL ds + 1 ≤ Aj x.1 := by
     intro i hi
     have h1 := hel i hi
     have h2 : elems[i]? = some elems[i] := zp (by omega)
     generalize elems[i] = x at h2
     rw [h2] at h1
     obtain ⟨ys, h3, h4⟩ := A0.1 h1
     obtain ⟨dx, px⟩ := x
     obtain ⟨ds, h5, h6, h7⟩ := ih e ys dx px he h4 (e7 hw2 dx (zI.2 ⟨(dx, px), zL h2, rfl⟩))
     exact ⟨ds, ys, h5, h6, h3, fun x hx => by rw [h2] at hx; cases hx; exact h7⟩
    obtain ⟨f, hf⟩ : ∃ f : Nat → List Dp, ∀ i, i < len → ∃ ys, Shp P n e (f i) ∧ RelPL w av (f i) ys ∧ w.cells? 0 (a.add (i * P.cellsOf e)) (P.cellsOf e) = some ys ∧ ∀ x, elems[i]? = some x → wtL (f i) + 1 ≤ Aj x.1 := by
     classical
     refine ⟨fun i => if hi : i < len then Classical.choose (key i hi) else [], fun i hi => ?_⟩
     simp only [dif_pos hi]
     exact Classical.choose_spec (key i hi)
    refine ⟨[.sl ((Ab len).map f)], ?_, ?_, ?_⟩
    ·simp only [Shp, hu]
     refine ⟨_, rfl, ?_, ?_⟩
     ·simp only [AN, List.length_range]
      have : len * P.bytesOf e ≤ (elems.length + rest.length) * P.bytesOf e := Nat.mul_le_mul_right _ (by omega)
      omega
     ·intro r hr
      obtain ⟨i, hi, rfl⟩ := zI.1 hr
      obtain ⟨ys, h1, _⟩ := hf i (by simpa using hi)
      exact h1
    ·simp only [RelPL, RelP, and_true]
     by_cases h0 : len = 0
     ·subst h0
      exact .inl ⟨by simp, some a, cap, rfl, by simp⟩
     ·have hsp : a.spot = none := by
       obtain ⟨ys, _, _, h3, _⟩ := hf 0 (by omega)
       obtain ⟨h4, h5⟩ := qe h3
       have h6 : ys[0]? = some ys[0] := zp (by omega)
       have h7 := h5 0 _ h6
       simp only [Nat.zero_mul, Addr.add, if_true] at h7
       unfold World.cell? at h7
       split at h7
       ·split at h7
        ·simp at h7
        ·rename_i hns
         cases hs : a.spot with
         | none => rfl
         | some _ => simp [hs] at hns
       ·simp at h7
      obtain ⟨blk, off, sp⟩ := a
      simp only at hsp
      subst hsp
      refine .inr ⟨blk, off, cap, P.cellsOf e, by simp, by simpa using hle, kT _ _ fun i r hr => ?_⟩
      simp only [Az, ze] at hr
      obtain ⟨j, hj, rfl⟩ := hr
      rw [zc] at hj
      obtain ⟨hj1, hj2⟩ := hj
      simp only [Ek] at hj2
      subst hj2
      obtain ⟨ys, h1, h2, h3, _⟩ := hf i (by simpa using hj1)
      obtain ⟨h4, h5⟩ := qe h3
      refine ⟨by rw [h2.length, h4], jE hav _ _ _ h2 fun k y hy => ?_⟩
      have := h5 k y hy
      have e1 : (((⟨blk, off, none⟩ : Addr).add (i * P.cellsOf e)).add k) = ⟨blk, off + i * P.cellsOf e + k, none⟩ := by
       rw [ck, ck]
      rwa [e1] at this
    ·have := wW ((Ab len).map f) (elems.map (·.1)) (by simp [hlen]) fun i r d hr hd => by
      simp only [Az, ze] at hr hd
      obtain ⟨j, hj, rfl⟩ := hr
      obtain ⟨x, hx, rfl⟩ := hd
      obtain ⟨hj1, hj2⟩ := zc.1 hj
      simp only [Ek] at hj2
      subst hj2
      obtain ⟨ys, _, _, _, h4⟩ := hf i (by simpa using hj1)
      exact h4 x hx
     simp only [wtL, Dp.wt, Aj]
     omega
  ·rename_i fs hu
   simp only [zd, List.all_eq_true, DP] at hp
   obtain ⟨hc, hfs⟩ := hp
   obtain ⟨xs, m, hm, hx, hlen, hxs, hel⟩ := DataW.trod_struct hu h
   obtain rfl : n = m := by omega
   simp only [y8] at hx
   obtain ⟨rfl, _⟩ := hx
   simp only [Dk, hu] at hw
   have key : ∀ (i : Nat) f, fs.toList[i]? = some f → ∃ ds x, (xs.map (·.1))[i]? = some x ∧ Shp P n f.type ds ∧ RelPL w av ds ((cs.drop f.offset).take (P.cellsOf f.type)) ∧ wtL ds + 1 ≤ Aj x := by
    intro i f hi
    have hf : f ∈ fs.toList := zL hi
    have hi' : fs[i]? = some f := by rw [← Array.getElem?_toList]; exact hi
    have hil : i < xs.length := by
     rw [hxs]
     have := (Array.getElem?_eq_some_iff.1 hi').1
     exact this
    have h1 := hel i f hi'
    have h2 : xs[i]? = some xs[i] := zp hil
    generalize xs[i] = x at h2
    rw [h2] at h1
    obtain ⟨dx, px⟩ := x
    obtain ⟨ds, g1, g2, g3⟩ := ih f.type _ dx px (hfs f hf) h1 (cn hw i f.type dx (by simp [hi]) (by simp [h2]))
    exact ⟨ds, dx, by simp [h2], g1, g2, g3⟩
   obtain ⟨D, hD, hS, hB⟩ := ic hlen fs.toList (xs.map (·.1)) 0 hc key
   rw [Da] at hD
   refine ⟨D, ?_, hD, by simp only [Aj]; omega⟩
   simp only [Shp, hu]
   refine ⟨by rw [hD.length, hlen], fun f hf => ?_⟩
   have := hS f hf
   rwa [Nat.sub_zero] at this
  ·simp at hp
end
mutual
theorem pf : ∀ r : RuleT, r.size = 1 + wtL r.row
 | .mk _ _ _ _ _ ks => by simp only [RuleT.size, BC, wtL, Dp.wt, qz ks]; omega
theorem qz : ∀ ks : List RuleT, sizeL ks = wtR (cq ks)
 | [] => rfl
 | k :: ks => by simp only [sizeL, cq, wtR, qz ks, pf k]
end
theorem wj {w : WorldT} {ds : List Dp} (h : ds.map .p = w.l) {n : Nat} (hn : wtL ds + 1 ≤ n) (hb : n ≤ 1048576) : ∀ x ∈ w.c, x.small := by
 intro x hx
 have e : ds = [.sl (w.c.map zS), .sl w.p, .sl (w.s.map zZ), .sl (w.f.map zo)] := by
  have : ds.map Bc = [Dp.sl (w.c.map zS), .sl w.p, .sl (w.s.map zZ), .sl (w.f.map zo)].map Bc := h
  exact (List.map_inj_right fun a b e => by cases e; rfl).1 this
 have h1 := uu x.row (zI.2 ⟨x, hx, rfl⟩)
 have h2 : wtL x.row = wtL x.need.row + wtL x.bar.row := by
  rw [← Dx, ← Dx]
  simp only [zS, RuF.row, wtL, Dp.wt]
  omega
 subst e
 simp only [wtL, Dp.wt] at hn
 have h3 := pf x.need
 have h4 := pf x.bar
 exact ⟨by omega, by omega⟩
theorem rI {H : Type} {enc : TypeId × Value → H} {W : World} {base : Nat} {v : Value} {d : DataW H} {p : List MemPlace}
  (hok : CA y6 W .any base 29 v) (h : DataW.Trod enc y6 W 0 (fun _ => true) true 29 v d p) (hw : (d.weights y6 29).all (· ≤ reachBytes) = true) (hb : Aj d ≤ 1048576) :
  ∃ w : WorldT, w.ok0 ∧ Rel W (avs (fun _ => False) (fun _ => none) []) (fun _ => none) [] (.agg w.l) v ∧ ∀ x ∈ w.c, x.small := by
 unfold CA at hok
 rw [Tryz.underlying29] at hok
 obtain ⟨cs, rfl, _, _⟩ := hok
 obtain ⟨fuel, hf⟩ := h
 obtain ⟨ds, h1, h2, h3⟩ := jU plain29 ma fuel 29 _ d p (by decide) hf hw
 obtain ⟨w, e, hw0⟩ := ur h1
 refine ⟨w, hw0, ?_, wj e h3 hb⟩
 rw [← e]
 simp only [Rel]
 exact ⟨cs, rfl, h2.relL⟩
end Go.Vi
open Go Go.Proofs
namespace Go.Vi
open Go.ChangeShapes Go.WideShapes Go.ChangeAt Go.RowKit Go.Proofs.YtilebidefogaiaaGreatDoor
set_option maxRecDepth 100000
theorem plain47 : qd y6 [3, 45, 47, 52] = true := by kernel_rfl
theorem cells45 : y6.cellsOf 45 = 1 := by kernel_rfl
theorem cells47 : y6.cellsOf 47 = 2 := by kernel_rfl
theorem cells52 : y6.cellsOf 52 = 5 := by kernel_rfl
theorem shp_att {n : Nat} {ds : List Dp} (h : Shp y6 n 52 ds) : ∃ a : AttT, ds = a.row ∧ True := by
 cases n with
 | zero => exact h.elim
 | succ n =>
  simp only [Shp, Tryz.underlying52, zW, eF, cells52] at h
  obtain ⟨hl, h1, h2, h3, h4, h5, _⟩ := h
  obtain ⟨a, e1, _⟩ := aJ h1
  obtain ⟨b, e2, _⟩ := aJ h2
  obtain ⟨c, e3, _⟩ := aJ h3
  obtain ⟨d, e4, _⟩ := aJ h4
  obtain ⟨e, e5, _⟩ := aJ h5
  match ds, hl with
  | [p, q, r, t, u], _ =>
   simp at e1 e2 e3 e4 e5
   subst e1; subst e2; subst e3; subst e4; subst e5
   exact ⟨⟨a, b, c, d, e⟩, rfl, trivial⟩
theorem shp_rec {n : Nat} {ds : List Dp} (h : Shp y6 n 47 ds) : ∃ r : RecT, ds.map .p = r.l := by
 cases n with
 | zero => exact h.elim
 | succ n =>
  rw [Shp, Tryz.underlying47] at h
  simp only [zW, eF, cells45, cells47] at h
  obtain ⟨hl, h1, h2, _⟩ := h
  obtain ⟨a, e1, _⟩ := aJ h1
  cases n with
  | zero => exact h2.elim
  | succ n =>
   simp only [Shp, Tryz.underlying45] at h2
   obtain ⟨es, e2, _, he⟩ := h2
   obtain ⟨l, rfl, _⟩ := gf (row := za) (ok := fun _ => True) (fun r hr => shp_att (he r hr))
   match ds, hl with
   | [p, q], _ =>
    simp at e1 e2
    subst e1; subst e2
    exact ⟨⟨a, l⟩, rfl⟩
theorem arg_rec {H : Type} {enc : TypeId × Value → H} {W : World} {base : Nat} {v : Value} {d : DataW H} {p : List MemPlace}
  (hok : CA y6 W .any base 47 v) (h : DataW.Trod enc y6 W 0 (fun _ => true) true 47 v d p) (hw : (d.weights y6 47).all (· ≤ reachBytes) = true) :
  ∃ r : RecT, Rel W (avs (fun _ => False) (fun _ => none) []) (fun _ => none) [] (.agg r.l) v := by
 unfold CA at hok
 rw [Tryz.underlying47] at hok
 obtain ⟨cs, rfl, _, _⟩ := hok
 obtain ⟨fuel, hf⟩ := h
 obtain ⟨ds, h1, h2, _⟩ := jU plain47 ma fuel 47 _ d p (by decide) hf hw
 obtain ⟨r, e⟩ := shp_rec h1
 refine ⟨r, ?_⟩
 rw [← e]
 simp only [Rel]
 exact ⟨cs, rfl, h2.relL⟩
theorem rJ {H : Type} {ds gs : List (DataW H)} {d : DataW H} (h : Rows.uptoSmall H (ds ++ gs) = true) (hd : d ∈ ds) : Aj d ≤ 1048576 := by
 have key : ∀ l : List (DataW H), d ∈ l → Aj d ≤ Bd l := by
  intro l
  induction l with
  | nil => intro h; simp at h
  | cons x l ih =>
   intro h
   simp only [Bd]
   rcases zR.1 h with rfl | h
   ·omega
   ·have := ih h; omega
 have := of_decide_eq_true h
 have := key _ (List.mem_append_left gs hd)
 omega
end Go.Vi
open Go Go.Proofs
namespace Go.Vi
open Go.ChangeShapes Go.WideShapes Go.ChangeAt Go.RowKit Go.Proofs.YtilebidefogaiaaGreatDoor
set_option maxRecDepth 100000
def lookF (P : Program) (ks : List Nat) (bs : List UInt8) : Option Nat := ks.find? fun k => match P.funcs[k]? with
 | some fn => (fn.name.toUTF8.data.toList == bs) && (P.funcNamed fn.name == some k)
 | none => false
theorem wl {s t : String} (h : s.toUTF8.data.toList = t.toUTF8.data.toList) : s = t := by
 have h1 : s.toUTF8 = t.toUTF8 := by
  cases hs : s.toUTF8; cases ht : t.toUTF8
  rw [hs, ht] at h
  congr 1
  exact Array.toList_inj.1 h
 exact String.toByteArray_inj.1 h1
theorem pg {P : Program} {ks : List Nat} {t : TypeId} {v : Value} {b : UInt8} {r : List UInt8} {k : Nat} (hv : funcToken P (t, v) = b :: r) (hk : lookF P ks (b :: r) = some k) : v = .func (.func k) #[] #[] := by
 obtain ⟨f, fn, rfl, h1, h2, h3⟩ := funcToken_tells hv
 have h4 := List.find?_some hk
 split at h4
 ·rename_i fn' hfn
  simp only [zd, beq_iff_eq] at h4
  have : fn.name = fn'.name := wl (h3.trans h4.1.symm)
  rw [this, h4.2] at h2
  cases h2
  rfl
 ·simp at h4
def expect (P : Program) (ks : List Nat) : Nat → TypeId → DataW (List UInt8) → Option (List Value)
 | 0, _, _ => none
 | n + 1, t, d => match P.underlying t with
  | some .bool => match d with
   | .lit (.bool b) => some [.bool b]
   | _ => none
  | some (.func ..) => match d with
   | .nil => some [.nilFunc]
   | .held (b :: r) => (lookF P ks (b :: r)).map fun k => [.func (.func k) #[] #[]]
   | _ => none
  | some (.struct fs) => match d with
   | .agg ds => if ci P fs.toList 0 (P.cellsOf t) then (zipE (fun f d => expect P ks n f d) (fs.toList.map (·.type)) ds) else none
   | _ => none
  | some (.array m e) => match d with
   | .agg ds => if decide (P.cellsOf t = m * P.cellsOf e) = true then zipE (fun f d => expect P ks n f d) (zz m e) ds else none
   | _ => none
  | _ => none
where
 zipE (g : TypeId → DataW (List UInt8) → Option (List Value)) : List TypeId → List (DataW (List UInt8)) → Option (List Value)
  | [], [] => some []
  | t :: ts, d :: ds => (g t d).bind fun a => (zipE g ts ds).map fun b => a ++ b
  | _, _ => none
theorem nW {P : Program} {g : TypeId → DataW (List UInt8) → Option (List Value)} {tr : TypeId → List Value → Option (DataW (List UInt8) × List MemPlace)} {cs : List Value}
  (hg : ∀ t d ys, g t d = some ys → ∀ c p, tr t c = some (d, p) → c = ys) : ∀ (fs : List Field) (acc : Nat) (xs : List (DataW (List UInt8) × List MemPlace)) (ys : List Value),
  (fs.mapM fun f => tr f.type ((cs.drop f.offset).take (P.cellsOf f.type))) = some xs → ci P fs acc cs.length = true → expect.zipE g (fs.map (·.type)) (xs.map (·.1)) = some ys → cs.drop acc = ys
 | [], acc, xs, ys, hm, hc, hz => by
  simp at hm
  subst hm
  simp [expect.zipE] at hz
  subst hz
  simp [ci] at hc
  simp [hc]
 | f :: fs, acc, xs, ys, hm, hc, hz => by
  simp only [DI, DQ, A0, Option.pure_def, y5] at hm
  obtain ⟨x, hx, xs', hxs, rfl⟩ := hm
  simp only [ci, zd, beq_iff_eq] at hc
  simp only [AH, expect.zipE, A0, ze] at hz
  obtain ⟨a, ha, b, hb, rfl⟩ := hz
  have h1 := hg _ _ _ ha _ x.2 (by rw [hx])
  have h2 := nW hg fs _ xs' b hxs hc.2 hb
  rw [← h1, ← h2, hc.1, ← Cg, B9]
theorem qA {e : TypeId} {c : Nat} {g : TypeId → DataW (List UInt8) → Option (List Value)} {tr : TypeId → List Value → Option (DataW (List UInt8) × List MemPlace)} {cs : List Value}
  (hg : ∀ t d ys, g t d = some ys → ∀ c p, tr t c = some (d, p) → c = ys) : ∀ (n k : Nat) (xs : List (DataW (List UInt8) × List MemPlace)) (ys : List Value),
  ((List.range' k n).mapM fun i => tr e ((cs.drop (i * c)).take c)) = some xs → cs.length = (k + n) * c → expect.zipE g (zz n e) (xs.map (·.1)) = some ys → cs.drop (k * c) = ys
 | 0, k, xs, ys, hm, hc, hz => by
  simp at hm
  subst hm
  simp [expect.zipE] at hz
  subst hz
  exact List.drop_eq_nil_of_le (by rw [hc]; simp)
 | n + 1, k, xs, ys, hm, hc, hz => by
  rw [List.range'_succ] at hm
  simp only [DI, DQ, A0, Option.pure_def, y5] at hm
  obtain ⟨x, hx, xs', hxs, rfl⟩ := hm
  rw [List.replicate_succ] at hz
  simp only [AH, expect.zipE, A0, ze] at hz
  obtain ⟨a, ha, b, hb, rfl⟩ := hz
  have h1 := hg _ _ _ ha _ x.2 (by rw [hx])
  have h2 := qA hg n (k + 1) xs' b hxs (by rw [hc]; congr 1; omega) hb
  rw [← h1, ← h2, Nat.add_mul, Nat.one_mul, ← Cg, B9]
theorem jV {P : Program} {ks : List Nat} {w : World} {sp : Nat → Bool} : ∀ (n : Nat) (t : TypeId) (d : DataW (List UInt8)) (ys : List Value), expect P ks n t d = some ys → ∀ (fuel : Nat) (cs : List Value) (p : List MemPlace), BM (funcToken P) P w 0 sp true fuel t cs = some (d, p) → cs = ys
 | 0, _, _, _, h => by simp [expect] at h
 | n + 1, t, d, ys, h => by
  intro fuel cs p ht
  cases fuel with
  | zero => simp [BM] at ht
  | succ fuel =>
   unfold expect at h
   unfold BM at ht
   cases hu : P.underlying t with
   | none => rw [hu] at h; simp at h
   | some td =>
    rw [hu] at h ht
    cases td with
    | bool =>
     simp only at h ht
     split at h
     ·split at ht <;> simp_all
     ·simp at h
    | func a b c =>
     simp only at h ht
     split at h
     ·split at ht <;> simp_all
     ·rename_i b r
      obtain ⟨k, hk, rfl⟩ := ze.1 h
      split at ht
      all_goals (try (simp_all; done))
      ·rename_i fn first captured _ _
       simp only [if_true, y5, y8, DataW.held.injEq] at ht
       rw [pg ht.1 hk]
     ·simp at h
    | struct fs =>
     simp only at h ht
     split at h
     ·split at h
      ·rename_i hc
       split at ht
       ·rename_i hl
        obtain ⟨xs, hxs, he⟩ := ze.1 ht
        simp only [y8, D6] at he
        obtain ⟨rfl, _⟩ := he
        have := nW (tr := fun t c => BM (funcToken P) P w 0 sp true fuel t c) (fun t d ys hg c p hp => jV n t d ys hg fuel c p hp) fs.toList 0 xs ys hxs (by rw [hl]; exact hc) h
        simpa using this
       ·simp at ht
      ·simp at h
     ·simp at h
    | array m e =>
     simp only at h ht
     split at h
     ·split at ht
      ·rename_i hl
       obtain ⟨xs, hxs, he⟩ := ze.1 ht
       simp only [y8, D6] at he
       obtain ⟨rfl, _⟩ := he
       split at h
       ·rename_i hc
        rw [List.range_eq_range'] at hxs
        have := qA (tr := fun t c => BM (funcToken P) P w 0 sp true fuel t c) (fun t d ys hg c p hp => jV n t d ys hg fuel c p hp) m 0 xs ys hxs (by rw [hl, Nat.zero_add]; exact of_decide_eq_true hc) h
        simpa using this
       ·simp at h
      ·simp at ht
     ·simp at h
    | _ => simp at h
end Go.Vi
open Go Go.Proofs
namespace Go.Vi
open Go.ChangeShapes Go.WideShapes Go.ChangeAt Go.RowKit Go.Proofs.YtilebidefogaiaaGreatDoor
set_option maxRecDepth 100000
def kindsKs : List Nat := [257, 258, 259, 260, 261, 262, 263, 264, 265, 267, 269, 270, 271, 272, 273, 274, 266, 275]
def kindsW : DataW Unit := match (Bb : DataW Unit) with
 | .iface _ d => d
 | d => d
theorem jW : y6.globalNamed "sizar/rules.kinds" = some 0 := by kernel_rfl
noncomputable def wX : TypeId := ((y6.globals[0]?).map (·.type)).getD 0
theorem rK : (y6.globals[0]?).map (·.type) = some wX := by kernel_rfl
theorem nX : expect y6 kindsKs 4 wX kindsW.funcsOut = some kindsCells := by kernel_rfl
theorem ph {W : World} (h : laidMetH y6 [("sizar/rules.kinds", Bb)] W) : ∃ cs : Array Value, W.var? y6 "sizar/rules.kinds" = some cs ∧ cs.toList = kindsCells := by
 obtain ⟨g, t, cs, fuel, p, h1, h2, h3, h4⟩ := laidMetH.funcs h (n := "sizar/rules.kinds") (d := kindsW) (List.mem_singleton.2 rfl)
 rw [jW] at h1
 cases h1
 rw [rK] at h2
 cases h2
 exact ⟨cs, h3, jV 4 _ _ _ nX fuel _ _ h4⟩
theorem lp {w : World} {av : Nat → Prop} {blk : Nat} {cs : Array Value} (hb : ∀ off, w.cell? ⟨blk, off, none⟩ = cs[off]?) (hav : ∀ k, ¬ av k) : ∀ (ys : List Value) (off : Nat), cs.toList.drop off = ys → RelCells w av blk off (ys.map .v)
 | [], _, _ => by simp [RelCells]
 | y :: ys, off, h => by
  have h1 : cs[off]? = some y := by
   have := congrArg List.head? h
   rw [List.head?_drop] at this
   simpa using this
  have h2 : cs.toList.drop (off + 1) = ys := by
   rw [← Cg, h]; rfl
  simp only [AH, RelCells]
  exact ⟨⟨hav blk, y, by rw [hb, h1], by simp [RelP]⟩, lp hb hav ys (off + 1) h2⟩
theorem uv : s5 = kindsCells.map .v := rfl
theorem uw {W : World} (h : laidMetH y6 [("sizar/rules.kinds", Bb)] W) : ∀ g cs, Γk g = some cs → RelCells W (avs (fun _ => False) (fun _ => none) []) g 0 cs := by
 intro g cs hg
 obtain ⟨xs, h1, h2⟩ := ph h
 have h0 : g = 0 ∧ cs = s5 := by
  unfold Γk at hg
  split at hg
  ·exact ⟨rfl, (Option.some.inj hg).symm⟩
  ·simp at hg
 obtain ⟨rfl, rfl⟩ := h0
 rw [uv]
 refine lp (cs := xs) (fun off => ?_) ma _ 0 (by rw [Da, h2])
 rw [World.var?, jW] at h1
 simp only [Option.bind_some] at h1
 unfold World.cell?
 split at h1
 ·rename_i c a b hh
  cases h1
  simp only [hh]
  rfl
 ·simp at h1
end Go.Vi
