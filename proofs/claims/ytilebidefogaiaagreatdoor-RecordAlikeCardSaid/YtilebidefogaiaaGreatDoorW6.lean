/- RecordAlike: part of the proof: contracts of the functions that the law reaches, and the law. No conditions beyond the given statement's own. -/
import Derived.Test.YtilebidefogaiaaGreatDoorW5
open Go.Proofs.Tryz renaming prog → Du, f19 → EW, f108 → Fa, f158 → GA, f54 → Fg
open List renaming map → Dt, length → Dw, foldl → D1, getElem?_eq_some_iff → DA, length_append → ER, mem_map → D3, mergeSort → EK, mem_cons → Eg, length_cons → Ef, map_cons → EH
open Go.Vi.CourseT renaming row → DF
open Go.Vi.SysT renaming row → DJ
open Go.Vi.FactT renaming row → DE
open Go.IntKind renaming i64 → Dz, wrap → DG, u64 → FL
open Go.Vi.D renaming agg → EB, mapRL → El, mapR → DR, tup → Es, fn → EO
open Go.Vi.CW renaming cast → DU, symX → DV
open Go.Exit renaming normal → DQ, exit → Ea, ret → E7
open Go.Vi.WorldT renaming l → Eb
open Go.Vi.Ev renaming castH → DI, sym0 → DX, glob0 → D7
open Go.Vi.Blk renaming inn → DL
open Go.Vi.SeenT renaming row → EA
open Int renaming tdiv → Gp, natAbs → Ek
open Nat renaming gcd → Ff
open Go.LoopState renaming ready → D4, busy → Fb, exhausted → Er
open Go.Fn renaming func → DW
open Go.Vi.AttT renaming row → Dy
open Go Go.Proofs
namespace Go.Vi
set_option maxRecDepth 100000
set_option maxHeartbeats 4000000
abbrev nbS (w : WorldT) (known st term : Int) (sm : SM) (rs : List ReadT) (cs as_ ns : List (List Dp)) (m1 m2 : IM) (i : Int) : AS :=
 { t := mkT 190 0 [(2, int term), (10, .ref (.ptr 1 0)), (11, dl), (13, .ref (.mp 2)), (17, .ref (.ptr 3 0)), (19, ab cs), (20, .ref (.mp 6)), (21, .ref (.mp 7)), (102, ab ns), (103, int ns.length), (104, int i)], h := siH w known st sm rs 0 as_ m1 m2, m := [] }
abbrev nbE (w : WorldT) (known st : Int) (sm : SM) (rs : List ReadT) (cs as_ : List (List Dp)) (m1 m2 : IM) : AS :=
 { t := mkT 190 0 [(10, .ref (.ptr 1 0)), (11, dl), (13, .ref (.mp 2)), (17, .ref (.ptr 3 0)), (19, ab cs)], h := siH w known st sm rs 0 as_ m1 m2, m := [] }
abbrev RSM := List ReadT × SM
def seenOf (w : WorldT) (known term : Int) (m1 m2 : IM) (sm : SM) (n : Int) : SeenT := (bg w n term known).2.foldl (xF m1 m2) ⟨n, 0, -1, ((jI sm n).getD uH).now⟩
def nbF (w : WorldT) (known term : Int) (m1 m2 : IM) (s : RSM) (n : Int) : RSM :=
 (s.1 ++ (bg w n term known).1, bif decide ((seenOf w known term m1 m2 s.2 n).tries > 0) then bX s.2 n (seenOf w known term m1 m2 s.2 n) else s.2)
theorem Dq {h : List Blk} {m : SM} {c : Int} {v : SeenT} (hb : h[2]? = some (smB m)) : ap Du h 117 (.ref (.mp 2)) (int c) (.agg (v.row.map .p)) = some (h.set 2 (smB (bX m c v))) := upS hb
theorem Dr {h : List Blk} {m : SM} {c : Int} {v : SeenT} (hb : h[2]? = some (smB m)) (hv : (jI m c).getD uH = v) : ar Du h 117 (.ref (.mp 2)) (int c) false = some (.agg [int v.course, int v.tries, int v.best, bool v.now]) := by
 rw [← hv]; exact lkS hb
noncomputable abbrev fV (w : WorldT) (known : Int) (st : Int) (term : Int) (sm : SM) (rs : List ReadT) (as_ : List (List Dp)) (m1 : IM) (m2 : IM) (n : Int) (v : SeenT) : List Blk := [.var [ab (Dt DF w.c), ab w.p, ab (Dt DJ w.s), ab (Dt DE w.f)], .var [nq, int 0, int 0, int 0], .map (aP 0 sm) (Dw sm), .var [.ref (.vec 4 1), ab (Dt DF w.c), ab w.p, ab (Dt DJ w.s), ab (Dt DE w.f), int known], .vec (ai (rdR (rs ++ (bg w n term known).fst))) 1 5, .var [int st, ab as_], .map (aq 0 m1) (Dw m1), .map (aq 0 m2) (Dw m2), .var [int n, int 0, int (-1), bool v.now]]
noncomputable abbrev fW (w : WorldT) (known : Int) (st : Int) (sm : SM) (rs : List ReadT) (as_ : List (List Dp)) (m1 : IM) (m2 : IM) (n : Int) (v : SeenT) : List Blk := [.var [ab (Dt DF w.c), ab w.p, ab (Dt DJ w.s), ab (Dt DE w.f)], .var [nq, int 0, int 0, int 0], .map (aP 0 sm) (Dw sm), .var [.ref (.vec 4 0), ab (Dt DF w.c), ab w.p, ab (Dt DJ w.s), ab (Dt DE w.f), int known], .vec (ai (rdR rs)) 0 5, .var [int st, ab as_], .map (aq 0 m1) (Dw m1), .map (aq 0 m2) (Dw m2), .var [int n, int 0, int (-1), bool v.now]]
theorem nb_body {w : WorldT} (hw : w.ok) {known st term : Int} (hN : (ae w.f known).length ≤ 1000) {sm : SM} {rs : List ReadT} {cs as_ ns : List (List Dp)} {m1 m2 : IM} {n : Int} {v : SeenT} (hv : (jI sm n).getD uH = v) {i : Nat} (hr : aM (i : Int) ns [vi n] 1) (hlt : decide ((i : Int) < (ns.length : Int)) = true) (hwr : Dz.wrap ((i : Int) + 1) = ((i + 1 : Nat) : Int)) (hb : rs.length ≤ 900000000) (hs : aj (bg w n term known).2) : (CW Du Γk [] false (sub EW 2) (nbS w known st term sm rs cs as_ ns m1 m2 i) .normal (nbS w known st term (nbF w known term m1 m2 (rs, sm) n).2 (nbF w known term m1 m2 (rs, sm) n).1 cs as_ ns m1 m2 ((i + 1 : Nat) : Int))) := by
 have hl0 := (@sq_cw (w) (known) (st) (term) (sm) (rs ++ (bg w n term known).fst) (cs) (as_) (ns) ((bg w n term known).snd) (hs) (m1) (m2) (n) ((↑i : Int)) ({ course := n, tries := 0, best := -1, now := v.now }))
 cases hc1 : decide ((D1 (xF m1 m2) { course := n, tries := 0, best := -1, now := v.now } (bg w n term known).snd).tries > 0)
 ·let v0 : List D := [.ref (.vec 4 0), ab (Dt DF w.c), ab w.p, ab (Dt DJ w.s), ab (Dt DE w.f), int known]
  let v1 : List D := [.ref (.vec 4 1), ab (Dt DF w.c), ab w.p, ab (Dt DJ w.s), ab (Dt DE w.f), int known]
  let v2 := EB [int v.course, int v.tries, int v.best, bool v.now]
  refine DU (DV (s' := { t := mkT 190 0 [(2, int term), (10, .ref (.ptr 1 0)), (11, nq), (13, .ref (.mp 2)), (17, .ref (.ptr 3 0)), (19, ab cs), (20, .ref (.mp 6)), (21, .ref (.mp 7)), (102, ab ns), (103, int (↑(Dw ns) : Int)), (104, int (DG Dz ((↑i : Int) + 1)))], h := [.var [ab (Dt DF w.c), ab w.p, ab (Dt DJ w.s), ab (Dt DE w.f)], .var [nq, int 0, int 0, int 0], .map (aP 0 sm) (Dw sm), .var v0, .vec (ai (rdR (rs ++ (bg w n term known).fst))) 0 5, .var [int st, ab as_], .map (aq 0 m1) (Dw m1), .map (aq 0 m2) (Dw m2)], m := [] }) (e := DQ) pok [.st (.mask [2, 10, 11, 13, 17, 19, 20, 21, 102, 103, 104]), .st (.ren 4 0), .st (.trimV 8)] [.b true, .row [vi n], .ov 111 v2, .call (ab (Dt (fun n => [vi n]) (bg w n term known).snd)) (fV w known st term sm rs as_ m1 m2 n v), .sum [2, 10, 11, 13, 17, 19, 20, 21, 25, 26, 102, 103, 104, 116, 117, 118] (Ea 6) { t := mkT 190 0 [(2, int term), (10, .ref (.ptr 1 0)), (11, nq), (13, .ref (.mp 2)), (17, .ref (.ptr 3 0)), (19, ab cs), (20, .ref (.mp 6)), (21, .ref (.mp 7)), (25, int n), (26, .ref (.ptr 8 0)), (102, ab ns), (103, int (↑(Dw ns) : Int)), (104, int (↑i : Int))], h := [.var (Eb w), .var [nq, int 0, int 0, int 0], .map (aP 0 sm) (Dw sm), .var v1, .vec (ai (rdR (rs ++ (bg w n term known).fst))) 1 5, .var [int st, ab as_], .map (aq 0 m1) (Dw m1), .map (aq 0 m2) (Dw m2), .var [int (D1 (xF m1 m2) { course := n, tries := 0, best := -1, now := v.now } (bg w n term known).snd).course, int (D1 (xF m1 m2) { course := n, tries := 0, best := -1, now := v.now } (bg w n term known).snd).tries, int (D1 (xF m1 m2) { course := n, tries := 0, best := -1, now := v.now } (bg w n term known).snd).best, bool (D1 (xF m1 m2) { course := n, tries := 0, best := -1, now := v.now } (bg w n term known).snd).now]], m := [] }, .b false] (by kernel_rfl) (.c hlt (.c hr (.c (show ar Du [.var (Eb w), .var [nq, int 0, int 0, int 0], .map (aP 0 sm) (Dw sm), .var v0, .vec (ai (rdR rs)) 0 5, .var [int st, ab as_], .map (aq 0 m1) (Dw m1), .map (aq 0 m2) (Dw m2)] 117 (.ref (.mp 2)) (int n) false = some v2 from ?_) (.c (show Ev Du Γk 63 [.ref (.ptr 3 0), int n, int term] (fW w known st sm rs as_ m1 m2 n v) (ab (Dt (fun n => [vi n]) (bg w n term known).snd)) (fV w known st term sm rs as_ m1 m2 n v) from (DI (Ev.frameX (args := [.ref (.ptr 3 0), int n, int term]) (H := (fW w known st sm rs as_ m1 m2 n v)) [3, 4] (@nb w hw known n term hN rs ?_) (by kernel_rfl) (by kernel_rfl) (by kernel_rfl) ⟨(by subst v0 v1 v2; first | rfl | exact al _ _ | first | assumption | rfl | omega | exact Dr rfl hv | exact Dq rfl | exact aR | exact bu | exact ah | exact af _ _ | exact aG _ _ _ | exact aF _ _ _), trivial⟩ ⟨(by subst v0 v1 v2; first | rfl | exact al _ _ | first | assumption | rfl | omega | exact Dr rfl hv | exact Dq rfl | exact aR | exact bu | exact ah | exact af _ _ | exact aG _ _ _ | exact aF _ _ _), trivial⟩) (by kernel_rfl) (by kernel_rfl))) (.c hl0 (.c hc1 (.c (show Dt (El (au 4 1 0)) (ai (rdR (rs ++ (bg w n term known).fst))) = ai (rdR (rs ++ (bg w n term known).fst)) from ?_) (.c (show Dt (fun e => (DR (au 4 1 0) e.fst, DR (au 4 1 0) e.snd.fst, e.snd.snd)) (aP 0 sm) = aP 0 sm from ?_) (.c (show Dt (fun e => (DR (au 4 1 0) e.fst, DR (au 4 1 0) e.snd.fst, e.snd.snd)) (aq 0 m1) = aq 0 m1 from ?_) (.c (show Dt (fun e => (DR (au 4 1 0) e.fst, DR (au 4 1 0) e.snd.fst, e.snd.snd)) (aq 0 m2) = aq 0 m2 from ?_) (.c (show DL 8 (match 0 == 4 with | true => .vec (ai (rdR (rs ++ (bg w n term known).fst))) 0 5 | false => keepX (au 4 1 0) (.var (Eb w))) = true from rfl) (.c (show DL 8 (match 0 + 1 == 4 with | true => .vec (ai (rdR (rs ++ (bg w n term known).fst))) 0 5 | false => keepX (au 4 1 0) (.var [nq, int 0, int 0, int 0])) = true from rfl) (.c (show DL 8 (match 0 + 1 + 1 == 4 with | true => .vec (ai (rdR (rs ++ (bg w n term known).fst))) 0 5 | false => keepX (au 4 1 0) (.map (aP 0 sm) (Dw sm))) = true from ?_) (.c (show DL 8 (match 0 + 1 + 1 + 1 == 4 with | true => .vec (ai (rdR (rs ++ (bg w n term known).fst))) 0 5 | false => keepX (au 4 1 0) (.var v1)) = true from rfl) (.c (show DL 8 (match 0 + 1 + 1 + 1 + 1 == 4 with | true => .vec (ai (rdR (rs ++ (bg w n term known).fst))) 0 5 | false => keepX (au 4 1 0) (.vec (ai (rdR (rs ++ (bg w n term known).fst))) 1 5)) = true from ?_) (.c (show DL 8 (match 0 + 1 + 1 + 1 + 1 + 1 == 4 with | true => .vec (ai (rdR (rs ++ (bg w n term known).fst))) 0 5 | false => keepX (au 4 1 0) (.var [int st, ab as_])) = true from rfl) (.c (show DL 8 (match 0 + 1 + 1 + 1 + 1 + 1 + 1 == 4 with | true => .vec (ai (rdR (rs ++ (bg w n term known).fst))) 0 5 | false => keepX (au 4 1 0) (.map (aq 0 m1) (Dw m1))) = true from ?_) (.c (show DL 8 (match 0 + 1 + 1 + 1 + 1 + 1 + 1 + 1 == 4 with | true => .vec (ai (rdR (rs ++ (bg w n term known).fst))) 0 5 | false => keepX (au 4 1 0) (.map (aq 0 m2) (Dw m2))) = true from ?_) .n))))))))))))))))))) (by subst v0 v1 v2; first | rfl | (subst hv; first | (have hh : decide ((seenOf w known term m1 m2 sm n).tries > 0) = true := hc1; simp only [hwr, nbF, hh, cond_true]; first | done | rfl) | (have hh : decide ((seenOf w known term m1 m2 sm n).tries > 0) = false := hc1; simp only [hwr, nbF, hh, cond_false]; first | done | rfl))) (by subst v0 v1 v2; first | rfl | (subst hv; first | (have hh : decide ((seenOf w known term m1 m2 sm n).tries > 0) = true := hc1; simp only [hwr, nbF, hh, cond_true]; first | done | rfl) | (have hh : decide ((seenOf w known term m1 m2 sm n).tries > 0) = false := hc1; simp only [hwr, nbF, hh, cond_false]; first | done | rfl))) <;> subst v0 v1 v2 <;> (first | assumption | rfl | omega | exact Dr rfl hv | exact Dq rfl | exact aR | exact bu | exact ah | exact af _ _ | exact aG _ _ _ | exact aF _ _ _)
 ·let v0 : List D := [.ref (.vec 4 1), ab (Dt DF w.c), ab w.p, ab (Dt DJ w.s), ab (Dt DE w.f), int known]
  let v1 : List D := [.ref (.vec 4 0), ab (Dt DF w.c), ab w.p, ab (Dt DJ w.s), ab (Dt DE w.f), int known]
  let v2 := EB [int v.course, int v.tries, int v.best, bool v.now]
  refine DU (DV (s' := { t := mkT 190 0 [(2, int term), (10, .ref (.ptr 1 0)), (11, nq), (13, .ref (.mp 2)), (17, .ref (.ptr 3 0)), (19, ab cs), (20, .ref (.mp 6)), (21, .ref (.mp 7)), (102, ab ns), (103, int (↑(Dw ns) : Int)), (104, int (DG Dz ((↑i : Int) + 1)))], h := [.var [ab (Dt DF w.c), ab w.p, ab (Dt DJ w.s), ab (Dt DE w.f)], .var [nq, int 0, int 0, int 0], .map (aP 0 (bX sm n (D1 (xF m1 m2) { course := n, tries := 0, best := -1, now := v.now } (bg w n term known).snd))) (Dw (bX sm n (D1 (xF m1 m2) { course := n, tries := 0, best := -1, now := v.now } (bg w n term known).snd))), .var v1, .vec (ai (rdR (rs ++ (bg w n term known).fst))) 0 5, .var [int st, ab as_], .map (aq 0 m1) (Dw m1), .map (aq 0 m2) (Dw m2)], m := [] }) (e := DQ) pok [.st (.mask [2, 10, 11, 13, 17, 19, 20, 21, 102, 103, 104]), .st (.ren 4 0), .st (.trimV 8)] [.b true, .row [vi n], .ov 111 v2, .call (ab (Dt (fun n => [vi n]) (bg w n term known).snd)) (fV w known st term sm rs as_ m1 m2 n v), .sum [2, 10, 11, 13, 17, 19, 20, 21, 25, 26, 102, 103, 104, 116, 117, 118] (Ea 6) { t := mkT 190 0 [(2, int term), (10, .ref (.ptr 1 0)), (11, nq), (13, .ref (.mp 2)), (17, .ref (.ptr 3 0)), (19, ab cs), (20, .ref (.mp 6)), (21, .ref (.mp 7)), (25, int n), (26, .ref (.ptr 8 0)), (102, ab ns), (103, int (↑(Dw ns) : Int)), (104, int (↑i : Int))], h := [.var (Eb w), .var [nq, int 0, int 0, int 0], .map (aP 0 sm) (Dw sm), .var v0, .vec (ai (rdR (rs ++ (bg w n term known).fst))) 1 5, .var [int st, ab as_], .map (aq 0 m1) (Dw m1), .map (aq 0 m2) (Dw m2), .var [int (D1 (xF m1 m2) { course := n, tries := 0, best := -1, now := v.now } (bg w n term known).snd).course, int (D1 (xF m1 m2) { course := n, tries := 0, best := -1, now := v.now } (bg w n term known).snd).tries, int (D1 (xF m1 m2) { course := n, tries := 0, best := -1, now := v.now } (bg w n term known).snd).best, bool (D1 (xF m1 m2) { course := n, tries := 0, best := -1, now := v.now } (bg w n term known).snd).now]], m := [] }, .b true, .oh 10145 D.any (siH w known st (bX sm n (D1 (xF m1 m2) { course := n, tries := 0, best := -1, now := v.now } (bg w n term known).snd)) (rs ++ (bg w n term known).fst) 1 as_ m1 m2 ++ [.var (Dt D.p (EA (D1 (xF m1 m2) { course := n, tries := 0, best := -1, now := v.now } (bg w n term known).snd)))])] (by kernel_rfl) (.c hlt (.c hr (.c (show ar Du [.var (Eb w), .var [nq, int 0, int 0, int 0], .map (aP 0 sm) (Dw sm), .var v1, .vec (ai (rdR rs)) 0 5, .var [int st, ab as_], .map (aq 0 m1) (Dw m1), .map (aq 0 m2) (Dw m2)] 117 (.ref (.mp 2)) (int n) false = some v2 from ?_) (.c (show Ev Du Γk 63 [.ref (.ptr 3 0), int n, int term] (fW w known st sm rs as_ m1 m2 n v) (ab (Dt (fun n => [vi n]) (bg w n term known).snd)) (fV w known st term sm rs as_ m1 m2 n v) from (DI (Ev.frameX (args := [.ref (.ptr 3 0), int n, int term]) (H := (fW w known st sm rs as_ m1 m2 n v)) [3, 4] (@nb w hw known n term hN rs ?_) (by kernel_rfl) (by kernel_rfl) (by kernel_rfl) ⟨(by subst v0 v1 v2; first | rfl | exact al _ _ | first | assumption | rfl | omega | exact Dr rfl hv | exact Dq rfl | exact aR | exact bu | exact ah | exact af _ _ | exact aG _ _ _ | exact aF _ _ _), trivial⟩ ⟨(by subst v0 v1 v2; first | rfl | exact al _ _ | first | assumption | rfl | omega | exact Dr rfl hv | exact Dq rfl | exact aR | exact bu | exact ah | exact af _ _ | exact aG _ _ _ | exact aF _ _ _), trivial⟩) (by kernel_rfl) (by kernel_rfl))) (.c hl0 (.c hc1 (.c (show ap Du [.var (Eb w), .var [nq, int 0, int 0, int 0], .map (aP 0 sm) (Dw sm), .var v0, .vec (ai (rdR (rs ++ (bg w n term known).fst))) 1 5, .var [int st, ab as_], .map (aq 0 m1) (Dw m1), .map (aq 0 m2) (Dw m2), .var [int (D1 (xF m1 m2) { course := n, tries := 0, best := -1, now := v.now } (bg w n term known).snd).course, int (D1 (xF m1 m2) { course := n, tries := 0, best := -1, now := v.now } (bg w n term known).snd).tries, int (D1 (xF m1 m2) { course := n, tries := 0, best := -1, now := v.now } (bg w n term known).snd).best, bool (D1 (xF m1 m2) { course := n, tries := 0, best := -1, now := v.now } (bg w n term known).snd).now]] 117 (.ref (.mp 2)) (int n) (EB [int (D1 (xF m1 m2) { course := n, tries := 0, best := -1, now := v.now } (bg w n term known).snd).course, int (D1 (xF m1 m2) { course := n, tries := 0, best := -1, now := v.now } (bg w n term known).snd).tries, int (D1 (xF m1 m2) { course := n, tries := 0, best := -1, now := v.now } (bg w n term known).snd).best, bool (D1 (xF m1 m2) { course := n, tries := 0, best := -1, now := v.now } (bg w n term known).snd).now]) = some [.var (Eb w), .var [nq, int 0, int 0, int 0], .map (aP 0 (bX sm n (D1 (xF m1 m2) { course := n, tries := 0, best := -1, now := v.now } (bg w n term known).snd))) (Dw (bX sm n (D1 (xF m1 m2) { course := n, tries := 0, best := -1, now := v.now } (bg w n term known).snd))), .var v0, .vec (ai (rdR (rs ++ (bg w n term known).fst))) 1 5, .var [int st, ab as_], .map (aq 0 m1) (Dw m1), .map (aq 0 m2) (Dw m2), .var [int (D1 (xF m1 m2) { course := n, tries := 0, best := -1, now := v.now } (bg w n term known).snd).course, int (D1 (xF m1 m2) { course := n, tries := 0, best := -1, now := v.now } (bg w n term known).snd).tries, int (D1 (xF m1 m2) { course := n, tries := 0, best := -1, now := v.now } (bg w n term known).snd).best, bool (D1 (xF m1 m2) { course := n, tries := 0, best := -1, now := v.now } (bg w n term known).snd).now]] from ?_) (.c (show Dt (El (au 4 1 0)) (ai (rdR (rs ++ (bg w n term known).fst))) = ai (rdR (rs ++ (bg w n term known).fst)) from ?_) (.c (show Dt (fun e => (DR (au 4 1 0) e.fst, DR (au 4 1 0) e.snd.fst, e.snd.snd)) (aP 0 (bX sm n (D1 (xF m1 m2) { course := n, tries := 0, best := -1, now := v.now } (bg w n term known).snd))) = aP 0 (bX sm n (D1 (xF m1 m2) { course := n, tries := 0, best := -1, now := v.now } (bg w n term known).snd)) from ?_) (.c (show Dt (fun e => (DR (au 4 1 0) e.fst, DR (au 4 1 0) e.snd.fst, e.snd.snd)) (aq 0 m1) = aq 0 m1 from ?_) (.c (show Dt (fun e => (DR (au 4 1 0) e.fst, DR (au 4 1 0) e.snd.fst, e.snd.snd)) (aq 0 m2) = aq 0 m2 from ?_) (.c (show DL 8 (match 0 == 4 with | true => .vec (ai (rdR (rs ++ (bg w n term known).fst))) 0 5 | false => keepX (au 4 1 0) (.var (Eb w))) = true from rfl) (.c (show DL 8 (match 0 + 1 == 4 with | true => .vec (ai (rdR (rs ++ (bg w n term known).fst))) 0 5 | false => keepX (au 4 1 0) (.var [nq, int 0, int 0, int 0])) = true from rfl) (.c (show DL 8 (match 0 + 1 + 1 == 4 with | true => .vec (ai (rdR (rs ++ (bg w n term known).fst))) 0 5 | false => keepX (au 4 1 0) (.map (aP 0 (bX sm n (D1 (xF m1 m2) { course := n, tries := 0, best := -1, now := v.now } (bg w n term known).snd))) (Dw (bX sm n (D1 (xF m1 m2) { course := n, tries := 0, best := -1, now := v.now } (bg w n term known).snd))))) = true from ?_) (.c (show DL 8 (match 0 + 1 + 1 + 1 == 4 with | true => .vec (ai (rdR (rs ++ (bg w n term known).fst))) 0 5 | false => keepX (au 4 1 0) (.var v0)) = true from rfl) (.c (show DL 8 (match 0 + 1 + 1 + 1 + 1 == 4 with | true => .vec (ai (rdR (rs ++ (bg w n term known).fst))) 0 5 | false => keepX (au 4 1 0) (.vec (ai (rdR (rs ++ (bg w n term known).fst))) 1 5)) = true from ?_) (.c (show DL 8 (match 0 + 1 + 1 + 1 + 1 + 1 == 4 with | true => .vec (ai (rdR (rs ++ (bg w n term known).fst))) 0 5 | false => keepX (au 4 1 0) (.var [int st, ab as_])) = true from rfl) (.c (show DL 8 (match 0 + 1 + 1 + 1 + 1 + 1 + 1 == 4 with | true => .vec (ai (rdR (rs ++ (bg w n term known).fst))) 0 5 | false => keepX (au 4 1 0) (.map (aq 0 m1) (Dw m1))) = true from ?_) (.c (show DL 8 (match 0 + 1 + 1 + 1 + 1 + 1 + 1 + 1 == 4 with | true => .vec (ai (rdR (rs ++ (bg w n term known).fst))) 0 5 | false => keepX (au 4 1 0) (.map (aq 0 m2) (Dw m2))) = true from ?_) .n)))))))))))))))))))) (by subst v0 v1 v2; first | rfl | (subst hv; first | (have hh : decide ((seenOf w known term m1 m2 sm n).tries > 0) = true := hc1; simp only [hwr, nbF, hh, cond_true]; first | done | rfl) | (have hh : decide ((seenOf w known term m1 m2 sm n).tries > 0) = false := hc1; simp only [hwr, nbF, hh, cond_false]; first | done | rfl))) (by subst v0 v1 v2; first | rfl | (subst hv; first | (have hh : decide ((seenOf w known term m1 m2 sm n).tries > 0) = true := hc1; simp only [hwr, nbF, hh, cond_true]; first | done | rfl) | (have hh : decide ((seenOf w known term m1 m2 sm n).tries > 0) = false := hc1; simp only [hwr, nbF, hh, cond_false]; first | done | rfl))) <;> subst v0 v1 v2 <;> (first | assumption | rfl | omega | exact Dr rfl hv | exact Dq rfl | exact aR | exact bu | exact ah | exact af _ _ | exact aG _ _ _ | exact aF _ _ _)
theorem Cg {w : WorldT} {known st term : Int} {sm : SM} {rs : List ReadT} {cs as_ ns : List (List Dp)} {m1 m2 : IM} {i : Nat} (hlt : decide ((i : Int) < (ns.length : Int)) = false) : (CW Du Γk [] false (sub EW 2) (nbS w known st term sm rs cs as_ ns m1 m2 i) (.exit 4) (nbE w known st sm rs cs as_ m1 m2)) := by
 exact DU (DV (s' := { t := mkT 190 0 [(10, .ref (.ptr 1 0)), (11, nq), (13, .ref (.mp 2)), (17, .ref (.ptr 3 0)), (19, ab cs)], h := [.var [ab (Dt DF w.c), ab w.p, ab (Dt DJ w.s), ab (Dt DE w.f)], .var [nq, int 0, int 0, int 0], .map (aP 0 sm) (Dw sm), .var [.ref (.vec 4 0), ab (Dt DF w.c), ab w.p, ab (Dt DJ w.s), ab (Dt DE w.f), int known], .vec (ai (rdR rs)) 0 5, .var [int st, ab as_], .map (aq 0 m1) (Dw m1), .map (aq 0 m2) (Dw m2)], m := [] }) (e := Ea 4) pok [.st (.mask [10, 11, 13, 17, 19])] [.b false] (by kernel_rfl) (.c hlt .n)) (by rfl) (by rfl)
theorem nb_cw {w : WorldT} (hw : w.ok) {known st term : Int} (hN : (ae w.f known).length ≤ 100) {sm : SM} {rs : List ReadT} (hb : rs.length ≤ 800000000) {cs as_ : List (List Dp)} {m1 m2 : IM} :
  CW Du Γk [] false (.loop (sub EW 2)) (nbS w known st term sm rs cs as_ ((ae w.f known).map fun n => [vi n]) m1 m2 0) (.exit 4) (nbE w known st ((ae w.f known).foldl (nbF w known term m1 m2) (rs, sm)).2 ((ae w.f known).foldl (nbF w known term m1 m2) (rs, sm)).1 cs as_ m1 m2) := by
 have hl : aj (ae w.f known) := by unfold aj; omega
 have := CW.each (P := Du) (Γ := Γk) (h0 := []) (rd := false) (c := sub EW 2) (σ := RSM) (ρ := Empty) (ae w.f known) (fun n s => .inl (nbF w known term m1 m2 s n))
  (fun i s => nbS w known st term s.2 s.1 cs as_ ((ae w.f known).map fun n => [vi n]) m1 m2 (i : Int)) (.exit 4) (fun s => nbE w known st s.2 s.1 cs as_ m1 m2) (fun r => r.elim) (fun i s => s.1.length ≤ rs.length + i * 1001001) (by simp) (fun r => r.elim) ?_ ?_ (rs, sm) (by simp)
 ·rw [aY] at this
  exact this
 ·intro i n s hn hs
  have hi := (DA.1 hn).1
  have hq := ot (w := w) (c := n) (term := term) (known := known) (by omega)
  refine ⟨fun s' h => by cases h; simp only [nbF, ER]; omega, nb_body hw (by omega) rfl (rowAt (row := fun n => [vi n]) hn rfl) (lt_len (fun n => [vi n]) hi) (wrap_succ hi hl) (by omega) (by unfold aj; omega)⟩
 ·intro s _
  exact Cg (bS (fun n => [vi n]) _)
end Go.Vi
open Go Go.Proofs
namespace Go.Vi
set_option maxRecDepth 100000
set_option maxHeartbeats 4000000
def nwN (n d : Int) : Int := FL.wrap (Gp (n.natAbs : Int) (Ff d.natAbs n.natAbs : Int))
def nwD (n d : Int) : Int := FL.wrap (Gp (d.natAbs : Int) (Ff d.natAbs n.natAbs : Int))
def ji (n d : Int) : Bool := decide (nwN n d > 1073741824) || decide (nwD n d > 1073741824)
def zd (n d : Int) : Bool := !(decide (n < 0) == decide (d < 0))
def jz (n d : Int) : Int × Int × Int := match d == 0 with
 | true => (0, 0, 1)
 | false => match ji n d with
  | true => (0, 0, 2)
  | false => match zd n d with
   | true => (Dz.wrap (0 - Dz.wrap (nwN n d)), Dz.wrap (nwD n d), 0)
   | false => (Dz.wrap (nwN n d), Dz.wrap (nwD n d), 0)
theorem Ch {n d : Int} (h : (d == 0) = false) : ((Ff d.natAbs n.natAbs : Nat) : Int) ≠ 0 := by
 have : d ≠ 0 := by simpa using h
 intro h0
 have : Ff d.natAbs n.natAbs = 0 := by exact_mod_cast h0
 have := Nat.eq_zero_of_gcd_eq_zero_left this
 omega
theorem Ci {n d : Int} (hn : I64 n) (hd : I64 d) (h : List Blk) : (Ev Du Γ0 109 [int n, int d] h (.tup [.agg [int (jz n d).1, int (jz n d).2.1], int (jz n d).2.2]) h) := by
 cases hc0 : d == 0
 ·cases hc1 : decide (DG FL (Gp (↑(Ek n) : Int) (↑(Ff (Ek d) (Ek n)) : Int)) > 1073741824) || decide (DG FL (Gp (↑(Ek d) : Int) (↑(Ff (Ek d) (Ek n)) : Int)) > 1073741824)
  ·cases hc2 : !decide (n < 0) == decide (d < 0)
   ·refine DI (DX (d := Es [EB [int (DG Dz (DG FL (Gp (↑(Ek n) : Int) (↑(Ff (Ek d) (Ek n)) : Int)))), int (DG Dz (DG FL (Gp (↑(Ek d) : Int) (↑(Ff (Ek d) (Ek n)) : Int))))], int 0]) pok [.b false, .val (u64 (↑(Ff (Ek d) (Ek n)) : Int)), .val (u64 (↑(Ek n) : Int)), .val (u64 (↑(Ek d) : Int)), .b false, .b false] (by kernel_rfl) (.c hc0 (.c (@hB n d hn hd ([.var [int 0, int 0]])) (.c (@fE n hn ([.var [int 0, int 0]])) (.c (show (!decide ((↑(Ff (Ek d) (Ek n)) : Int) = 0)) = true from ?_) (.c (@fE d hd ([.var [int 0, int 0]])) (.c (show (!decide ((↑(Ff (Ek d) (Ek n)) : Int) = 0)) = true from ?_) (.c hc1 (.c hc2 .n)))))))) rfl rfl h) (by first | (have z0 : (d == 0) = true := hc0; simp only [jz, z0]; first | done | rfl) | (have z0 : (d == 0) = false := hc0; have z1 : ji n d = true := hc1; simp only [jz, z0, z1]; first | done | rfl) | (have z0 : (d == 0) = false := hc0; have z1 : ji n d = false := hc1; have z2 : zd n d = true := hc2; simp only [jz, z0, z1, z2]; first | done | rfl) | (have z0 : (d == 0) = false := hc0; have z1 : ji n d = false := hc1; have z2 : zd n d = false := hc2; simp only [jz, z0, z1, z2]; first | done | rfl)) (by rfl) <;> (first | assumption | rfl | (have h9 := Ch (n := n) (by assumption); simp []; done) | (simp_all; done))
   ·refine DI (DX (d := Es [EB [int (DG Dz (0 - DG Dz (DG FL (Gp (↑(Ek n) : Int) (↑(Ff (Ek d) (Ek n)) : Int))))), int (DG Dz (DG FL (Gp (↑(Ek d) : Int) (↑(Ff (Ek d) (Ek n)) : Int))))], int 0]) pok [.b false, .val (u64 (↑(Ff (Ek d) (Ek n)) : Int)), .val (u64 (↑(Ek n) : Int)), .val (u64 (↑(Ek d) : Int)), .b false, .b true] (by kernel_rfl) (.c hc0 (.c (@hB n d hn hd ([.var [int 0, int 0]])) (.c (@fE n hn ([.var [int 0, int 0]])) (.c (show (!decide ((↑(Ff (Ek d) (Ek n)) : Int) = 0)) = true from ?_) (.c (@fE d hd ([.var [int 0, int 0]])) (.c (show (!decide ((↑(Ff (Ek d) (Ek n)) : Int) = 0)) = true from ?_) (.c hc1 (.c hc2 .n)))))))) rfl rfl h) (by first | (have z0 : (d == 0) = true := hc0; simp only [jz, z0]; first | done | rfl) | (have z0 : (d == 0) = false := hc0; have z1 : ji n d = true := hc1; simp only [jz, z0, z1]; first | done | rfl) | (have z0 : (d == 0) = false := hc0; have z1 : ji n d = false := hc1; have z2 : zd n d = true := hc2; simp only [jz, z0, z1, z2]; first | done | rfl) | (have z0 : (d == 0) = false := hc0; have z1 : ji n d = false := hc1; have z2 : zd n d = false := hc2; simp only [jz, z0, z1, z2]; first | done | rfl)) (by rfl) <;> (first | assumption | rfl | (have h9 := Ch (n := n) (by assumption); simp []; done) | (simp_all; done))
  ·refine DI (DX (d := Es [EB [int 0, int 0], int 2]) pok [.b false, .val (u64 (↑(Ff (Ek d) (Ek n)) : Int)), .val (u64 (↑(Ek n) : Int)), .val (u64 (↑(Ek d) : Int)), .b true] (by kernel_rfl) (.c hc0 (.c (@hB n d hn hd ([.var [int 0, int 0]])) (.c (@fE n hn ([.var [int 0, int 0]])) (.c (show (!decide ((↑(Ff (Ek d) (Ek n)) : Int) = 0)) = true from ?_) (.c (@fE d hd ([.var [int 0, int 0]])) (.c (show (!decide ((↑(Ff (Ek d) (Ek n)) : Int) = 0)) = true from ?_) (.c hc1 .n))))))) rfl rfl h) (by first | (have z0 : (d == 0) = true := hc0; simp only [jz, z0]; first | done | rfl) | (have z0 : (d == 0) = false := hc0; have z1 : ji n d = true := hc1; simp only [jz, z0, z1]; first | done | rfl) | (have z0 : (d == 0) = false := hc0; have z1 : ji n d = false := hc1; have z2 : zd n d = true := hc2; simp only [jz, z0, z1, z2]; first | done | rfl) | (have z0 : (d == 0) = false := hc0; have z1 : ji n d = false := hc1; have z2 : zd n d = false := hc2; simp only [jz, z0, z1, z2]; first | done | rfl)) (by rfl) <;> (first | assumption | rfl | (have h9 := Ch (n := n) (by assumption); simp []; done) | (simp_all; done))
 ·exact DI (DX (d := Es [EB [int 0, int 0], int 1]) pok [.b true] (by kernel_rfl) (.c hc0 .n) rfl rfl h) (by first | (have z0 : (d == 0) = true := hc0; simp only [jz, z0]; first | done | rfl) | (have z0 : (d == 0) = false := hc0; have z1 : ji n d = true := hc1; simp only [jz, z0, z1]; first | done | rfl) | (have z0 : (d == 0) = false := hc0; have z1 : ji n d = false := hc1; have z2 : zd n d = true := hc2; simp only [jz, z0, z1, z2]; first | done | rfl) | (have z0 : (d == 0) = false := hc0; have z1 : ji n d = false := hc1; have z2 : zd n d = false := hc2; simp only [jz, z0, z1, z2]; first | done | rfl)) (by rfl)
abbrev suT : List D := mkT 26 0 [(2, .ref (.ptr 0 0)), (3, .ref (.ptr 1 0)), (13, .fn (.func 158) [] [.ref (.ptr 2 0)])]
noncomputable abbrev suL (st : LoopState) : Blk := .loop st none 0 suT #[14, 15] (aC (sub Fa 0)) (ak (sub Fa 0))
noncomputable abbrev suH (c p : Int) (l : List (List Dp)) (st : LoopState) (more : List Blk) : List Blk := [.var [int c], .var [int p], .var [ab l], .defd, suL st] ++ more
abbrev suU (g c : Int) : List D := mkT 26 0 [(2, .ref (.ptr 0 0)), (3, .ref (.ptr 1 0)), (5, int g), (6, int c)]
def suF (s : Int × Int) (a : AttT) : Int × Int := (Dz.wrap (s.1 + a.credits), Dz.wrap (s.2 + Dz.wrap (a.grade * a.credits)))
theorem su_asg {c p g x : Int} {l : List (List Dp)} {r : List D} : (CW Du Γ0 (suH c p l .ready [.var r]) true (aC (sub Fa 0)) { t := d6 suT [(14, int g), (15, int x)], h := suH c p l .ready [.var r], m := [] } .normal { t := suU g x, h := suH c p l .ready [.var r], m := [] }) := by
 exact DU (DV (s' := { t := mkT 26 0 [(2, .ref (.ptr 0 0)), (3, .ref (.ptr 1 0)), (5, int g), (6, int x)], h := [.var [int c], .var [int p], .var [ab l], .defd, .loop D4 none 0 (mkT 26 0 [(2, .ref (.ptr 0 0)), (3, .ref (.ptr 1 0)), (13, EO (DW 158) [] [.ref (.ptr 2 0)])]) { toList := [14, 15] } (aC (sub Fa 0)) (ak (sub Fa 0)), .var r], m := [] }) (e := DQ) pok [.st (.mask [2, 3, 5, 6])] [] (by kernel_rfl) .n) (by rfl) (by rfl)
theorem Cj {c p g x : Int} {l : List (List Dp)} {r : List D} : (CW Du Γ0 (suH c p l .ready [.var r]) true (ak (sub Fa 0)) { t := suU g x, h := suH c p l .busy [.var r], m := [] } .normal { t := mkT 26 0 [], h := suH (Dz.wrap (c + x)) (Dz.wrap (p + Dz.wrap (g * x))) l .busy [.var r], m := [] }) := by
 exact DU (DV (s' := { t := mkT 26 0 [], h := [.var [int (DG Dz (c + x))], .var [int (DG Dz (p + DG Dz (g * x)))], .var [ab l], .defd, .loop Fb none 0 (mkT 26 0 [(2, .ref (.ptr 0 0)), (3, .ref (.ptr 1 0)), (13, EO (DW 158) [] [.ref (.ptr 2 0)])]) { toList := [14, 15] } (aC (sub Fa 0)) (ak (sub Fa 0)), .var r], m := [] }) (e := DQ) pok [.st (.mask [])] [] (by kernel_rfl) .n) (by rfl) (by rfl)
theorem Ck {c p g x : Int} {l : List (List Dp)} {r : List D} : Iv Du Γ0 (.ref (.yl 4)) [int g, int x] (suH c p l .ready [.var r]) (bool true) (suH (Dz.wrap (c + x)) (Dz.wrap (p + Dz.wrap (g * x))) l .ready [.var r]) :=
 Iv.round (h1 := suH c p l .ready [.var r]) rfl rfl su_asg rfl Cj rfl
abbrev swT (fs : List (List Dp)) (i : Int) : List D := mkT 19 0 [(0, .ref (.yl 4)), (5, ab fs), (6, int fs.length), (7, int i)]
theorem Cl {c p c0 p0 : Int} {l : List (List Dp)} {a : AttT} {i : Nat} (hr : aM (i : Int) l a.row 5) (hlt : decide ((i : Int) < (l.length : Int)) = true) (hw : Dz.wrap ((i : Int) + 1) = ((i + 1 : Nat) : Int)) : (CW Du Γ0 (suH c0 p0 l .ready []) false (sub GA 0) { t := swT l i, h := suH c p l .ready [], m := [] } .normal { t := swT l ((i + 1 : Nat) : Int), h := suH (suF (c, p) a).1 (suF (c, p) a).2 l .ready [], m := [] }) := by
 let v0 : List D := [int (DG Dz (p + DG Dz (a.grade * a.credits)))]
 let v1 : List D := [int a.course, int a.term, int a.grade, int a.campus, int a.credits]
 refine DU (DV (s' := { t := mkT 19 0 [(0, .ref (.yl 4)), (5, ab l), (6, int (↑(Dw l) : Int)), (7, int (DG Dz ((↑i : Int) + 1)))], h := [.var [int (DG Dz (c + a.credits))], .var v0, .var [ab l], .defd, .loop D4 none 0 (mkT 26 0 [(2, .ref (.ptr 0 0)), (3, .ref (.ptr 1 0)), (13, EO (DW 158) [] [.ref (.ptr 2 0)])]) { toList := [14, 15] } (aC (sub Fa 0)) (ak (sub Fa 0))], m := [] }) (e := DQ) pok [.st (.mask [0, 5, 6, 7]), .st (.trim 5)] [.b true, .row (Dy a), .inv (bool true) [.var [int (DG Dz (c + a.credits))], .var v0, .var [ab l], .defd, .loop D4 none 0 (mkT 26 0 [(2, .ref (.ptr 0 0)), (3, .ref (.ptr 1 0)), (13, EO (DW 158) [] [.ref (.ptr 2 0)])]) { toList := [14, 15] } (aC (sub Fa 0)) (ak (sub Fa 0)), .var v1], .b false] (by kernel_rfl) (.c hlt (.c hr (.c (@Ck c p (a.grade) (a.credits) l (v1)) (.c (show (!true) = false from rfl) .n))))) ?_ ?_ <;> subst v0 v1 <;> (first | rfl | (simp only [hw]; rfl))
theorem Cm {c p c0 p0 : Int} {l : List (List Dp)} {i : Nat} (hlt : decide ((i : Int) < (l.length : Int)) = false) : (CW Du Γ0 (suH c0 p0 l .ready []) false (sub GA 0) { t := swT l i, h := suH c p l .ready [], m := [] } (.exit 0) { t := mkT 19 0 [], h := suH c p l .ready [], m := [] }) := by
 exact DU (DV (s' := { t := mkT 19 0 [], h := [.var [int c], .var [int p], .var [ab l], .defd, .loop D4 none 0 (mkT 26 0 [(2, .ref (.ptr 0 0)), (3, .ref (.ptr 1 0)), (13, EO (DW 158) [] [.ref (.ptr 2 0)])]) { toList := [14, 15] } (aC (sub Fa 0)) (ak (sub Fa 0))], m := [] }) (e := Ea 0) pok [.st (.mask [])] [.b false] (by kernel_rfl) (.c hlt .n)) (by rfl) (by rfl)
theorem sw_cw {c0 p0 : Int} {l : List AttT} (hl : aj l) :
  CW Du Γ0 (suH c0 p0 (l.map Dy) .ready []) false (.loop (sub GA 0)) { t := swT (l.map Dy) 0, h := suH c0 p0 (l.map Dy) .ready [], m := [] } (.exit 0)
   { t := mkT 19 0 [], h := suH (l.foldl suF (c0, p0)).1 (l.foldl suF (c0, p0)).2 (l.map Dy) .ready [], m := [] } := by
 have := CW.each (P := Du) (Γ := Γ0) (h0 := suH c0 p0 (l.map Dy) .ready []) (rd := false) (c := sub GA 0) (σ := Int × Int) (ρ := Empty) l (fun f s => .inl (suF s f))
  (fun i s => { t := swT (l.map Dy) (i : Int), h := suH s.1 s.2 (l.map Dy) .ready [], m := [] }) (.exit 0) (fun s => { t := mkT 19 0 [], h := suH s.1 s.2 (l.map Dy) .ready [], m := [] }) (fun r => r.elim)
  (fun _ _ => True) (by simp) (fun r => r.elim) ?_ ?_ (c0, p0) trivial
 ·rw [aY] at this
  exact this
 ·intro i f s hf _
  have hi := (DA.1 hf).1
  exact ⟨fun _ _ => trivial, Cl (rowAt hf rfl) (lt_len _ hi) (wrap_succ hi hl)⟩
 ·intro s _
  exact Cm (bS _ l)
theorem xe {c0 p0 : Int} {l : List AttT} (hl : aj l) : (Ev Du Γ0 158 [.ref (.yl 4), .ref (.ptr 2 0)] (suH c0 p0 (l.map Dy) .ready []) (.tup []) (suH (l.foldl suF (c0, p0)).1 (l.foldl suF (c0, p0)).2 (l.map Dy) .ready [])) := by
 have hl0 := (@sw_cw (c0) (p0) (l) (hl))
 let v0 : List Blk := [.var [int (D1 suF (c0, p0) l).fst], .var [int (D1 suF (c0, p0) l).snd], .var [ab (Dt Dy l)], .defd, .loop D4 none 0 (mkT 26 0 [(2, .ref (.ptr 0 0)), (3, .ref (.ptr 1 0)), (13, EO (DW 158) [] [.ref (.ptr 2 0)])]) { toList := [14, 15] } (aC (sub Fa 0)) (ak (sub Fa 0))]
 exact DI (Ev.of_sym (h' := v0) (d := Es []) pok [.sum [0, 5, 6, 7] (Ea 0) { t := mkT 19 0 [], h := v0, m := [] }] (by kernel_rfl) (.c hl0 .n)) (by rfl) (by rfl)
theorem ze {c0 p0 : Int} {l : List AttT} (hl : aj l) : CW Du Γ0 [] false (sub Fa 0) { t := suT, h := [.var [int c0], .var [int p0], .var [ab (l.map Dy)]], m := [] } .normal
  { t := suT, h := suH (l.foldl suF (c0, p0)).1 (l.foldl suF (c0, p0)).2 (l.map Dy) .exhausted [], m := [3] } := by
 exact CW.rangeFunc (f := 158) (fi := []) (ca := [.ref (.ptr 2 0)]) pok (s := { t := suT, h := [.var [int c0], .var [int p0], .var [ab (l.map Dy)]], m := [] }) (g := .tmp 13) (ps := #[14, 15]) (asg := aC (sub Fa 0)) (body := ak (sub Fa 0)) rfl (by kernel_rfl) (xe hl) rfl
def lx (l : List AttT) : Int × Int × Int := match dT l != 0 with
 | true => (0, 0, dT l)
 | false => ((l.foldl suF (0, 0)).1, (l.foldl suF (0, 0)).2, 0)
theorem Cn {l : List AttT} (hl : aj l) (h : List Blk) : (Ev Du Γ0 108 [ab (l.map Dy)] h (.tup [int (lx l).1, int (lx l).2.1, int (lx l).2.2]) h) := by
 cases hc0 : dT l != 0
 ·have hl1 := (@ze (0) (0) (l) (hl))
  exact DI (DX (d := Es [int (D1 suF (0, 0) l).fst, int (D1 suF (0, 0) l).snd, int 0]) pok [.val (int (dT l)), .b false, .inl, .sum [2, 3, 13] (DQ) { t := mkT 26 0 [(2, .ref (.ptr 0 0)), (3, .ref (.ptr 1 0)), (13, EO (DW 158) [] [.ref (.ptr 2 0)])], h := [.var [int (D1 suF (0, 0) l).fst], .var [int (D1 suF (0, 0) l).snd], .var [ab (Dt Dy l)], .defd, .loop Er none 0 (mkT 26 0 [(2, .ref (.ptr 0 0)), (3, .ref (.ptr 1 0)), (13, EO (DW 158) [] [.ref (.ptr 2 0)])]) { toList := [14, 15] } (aC (sub Fa 0)) (ak (sub Fa 0))], m := [3] }] (by kernel_rfl) (.c (@da l hl ([.var [int 0], .var [int 0]])) (.c hc0 (.c hl1 (.e (int (D1 suF (0, 0) l).fst) (.e (int (D1 suF (0, 0) l).snd) (.e (int (D1 suF (0, 0) l).snd) .n)))))) rfl rfl h) (by simp only [lx, hc0]; first | done | rfl) (by rfl)
 ·exact DI (DX (d := Es [int 0, int 0, int (dT l)]) pok [.val (int (dT l)), .b true] (by kernel_rfl) (.c (@da l hl ([.var [int 0], .var [int 0]])) (.c hc0 .n)) rfl rfl h) (by simp only [lx, hc0]; first | done | rfl) (by rfl)
theorem tN (x : Int) : I64 (Dz.wrap x) := by
 unfold I64
 rw [IntKind.wrap_i64]
 omega
theorem Co (s : Int × Int) (a : AttT) : I64 (suF s a).1 ∧ I64 (suF s a).2 := ⟨tN _, tN _⟩
theorem nd : ∀ (l : List AttT) (s : Int × Int), I64 s.1 ∧ I64 s.2 → I64 (l.foldl suF s).1 ∧ I64 (l.foldl suF s).2
 | [], _, h => h
 | a :: l, s, _ => nd l (suF s a) (Co s a)
theorem zf : I64 0 := by unfold I64; omega
theorem qy (l : List AttT) : I64 (lx l).1 ∧ I64 (lx l).2.1 := by
 unfold lx
 cases dT l != 0
 ·exact nd l (0, 0) ⟨zf, zf⟩
 ·exact ⟨zf, zf⟩
def sh (c p e : Int) : Int × Int × Int := match e != 0 with
 | true => (0, 0, e)
 | false => match c == 0 with
  | true => (0, 1, 0)
  | false => jz p c
def db (l : List AttT) : Int × Int × Int := sh (lx l).1 (lx l).2.1 (lx l).2.2
theorem mean_a {l : List AttT} {c p e : Int} (hc : I64 c) (hp : I64 p) (hs : ∀ h, Ev Du Γ0 108 [ab (l.map Dy)] h (.tup [int c, int p, int e]) h) (h : List Blk) : (Ev Du Γ0 55 [ab (l.map Dy)] h (.tup [.agg [int (sh c p e).1, int (sh c p e).2.1], int (sh c p e).2.2]) h) := by
 cases hc0 : e != 0
 ·cases hc1 : c == 0
  ·exact DI (DX (d := Es [EB [int (jz p c).fst, int (jz p c).snd.fst], int (jz p c).snd.snd]) pok [.val (Es [int c, int p, int e]), .b false, .b false, .val (Es [EB [int (jz p c).fst, int (jz p c).snd.fst], int (jz p c).snd.snd])] (by kernel_rfl) (.c (@hs ([.var [int 0, int 0]])) (.c hc0 (.c hc1 (.c (@Ci p c hp hc ([.var [int 0, int 0]])) .n)))) rfl rfl h) (by simp only [sh, hc0, hc1]; first | done | rfl) (by rfl)
  ·exact DI (DX (d := Es [EB [int 0, int 1], int 0]) pok [.val (Es [int c, int p, int e]), .b false, .b true] (by kernel_rfl) (.c (@hs ([.var [int 0, int 0]])) (.c hc0 (.c hc1 .n))) rfl rfl h) (by simp only [sh, hc0, hc1]; first | done | rfl) (by rfl)
 ·exact DI (DX (d := Es [EB [int 0, int 0], int e]) pok [.val (Es [int c, int p, int e]), .b true] (by kernel_rfl) (.c (@hs ([.var [int 0, int 0]])) (.c hc0 .n)) rfl rfl h) (by simp only [sh, hc0]; first | done | rfl) (by rfl)
theorem qz {l : List AttT} (hl : aj l) (h : List Blk) : Ev Du Γ0 55 [ab (l.map Dy)] h (.tup [.agg [int (db l).1, int (db l).2.1], int (db l).2.2]) h :=
 mean_a (qy l).1 (qy l).2 (fun h => Cn hl h) h
abbrev eaT : List D := mkT 21 0 [(2, .ref (.ptr 0 0)), (12, .fn (.func 158) [] [.ref (.ptr 1 0)])]
noncomputable abbrev eaL (st : LoopState) : Blk := .loop st none 0 eaT #[13, 14] (aC (sub Fg 0)) (ak (sub Fg 0))
noncomputable abbrev eaH (c : Int) (l : List (List Dp)) (st : LoopState) (more : List Blk) : List Blk := [.var [int c], .var [ab l], .defd, eaL st] ++ more
abbrev eaU (g c : Int) : List D := mkT 21 0 [(2, .ref (.ptr 0 0)), (4, int g), (5, int c)]
def eaG (c g x : Int) : Int := match decide (g > 0) with | true => Dz.wrap (c + x) | false => c
def eaF (c : Int) (a : AttT) : Int := eaG c a.grade a.credits
theorem ea_asg {c g x : Int} {l : List (List Dp)} {r : List D} : (CW Du Γ0 (eaH c l .ready [.var r]) true (aC (sub Fg 0)) { t := d6 eaT [(13, int g), (14, int x)], h := eaH c l .ready [.var r], m := [] } .normal { t := eaU g x, h := eaH c l .ready [.var r], m := [] }) := by
 exact DU (DV (s' := { t := mkT 21 0 [(2, .ref (.ptr 0 0)), (4, int g), (5, int x)], h := [.var [int c], .var [ab l], .defd, .loop D4 none 0 (mkT 21 0 [(2, .ref (.ptr 0 0)), (12, EO (DW 158) [] [.ref (.ptr 1 0)])]) { toList := [13, 14] } (aC (sub Fg 0)) (ak (sub Fg 0)), .var r], m := [] }) (e := DQ) pok [.st (.mask [2, 4, 5])] [] (by kernel_rfl) .n) (by rfl) (by rfl)
theorem Cp {c g x : Int} {l : List (List Dp)} {r : List D} : (CW Du Γ0 (eaH c l .ready [.var r]) true (ak (sub Fg 0)) { t := eaU g x, h := eaH c l .busy [.var r], m := [] } .normal { t := mkT 21 0 [], h := eaH (eaG c g x) l .busy [.var r], m := [] }) := by
 cases hc0 : decide (g > 0)
 ·exact DU (DV (s' := { t := mkT 21 0 [], h := [.var [int c], .var [ab l], .defd, .loop Fb none 0 (mkT 21 0 [(2, .ref (.ptr 0 0)), (12, EO (DW 158) [] [.ref (.ptr 1 0)])]) { toList := [13, 14] } (aC (sub Fg 0)) (ak (sub Fg 0)), .var r], m := [] }) (e := DQ) pok [.st (.mask [])] [.b false] (by kernel_rfl) (.c hc0 .n)) (by simp only []; first | done | rfl) (by simp only [eaG, hc0]; first | done | rfl)
 ·exact DU (DV (s' := { t := mkT 21 0 [], h := [.var [int (DG Dz (c + x))], .var [ab l], .defd, .loop Fb none 0 (mkT 21 0 [(2, .ref (.ptr 0 0)), (12, EO (DW 158) [] [.ref (.ptr 1 0)])]) { toList := [13, 14] } (aC (sub Fg 0)) (ak (sub Fg 0)), .var r], m := [] }) (e := DQ) pok [.st (.mask [])] [.b true] (by kernel_rfl) (.c hc0 .n)) (by simp only []; first | done | rfl) (by simp only [eaG, hc0]; first | done | rfl)
theorem Cq {c g x : Int} {l : List (List Dp)} {r : List D} : Iv Du Γ0 (.ref (.yl 3)) [int g, int x] (eaH c l .ready [.var r]) (bool true) (eaH (eaG c g x) l .ready [.var r]) :=
 Iv.round (h1 := eaH c l .ready [.var r]) rfl rfl ea_asg rfl Cp rfl
abbrev ewT (fs : List (List Dp)) (i : Int) : List D := mkT 19 0 [(0, .ref (.yl 3)), (5, ab fs), (6, int fs.length), (7, int i)]
theorem Cr {c c0 : Int} {l : List (List Dp)} {a : AttT} {i : Nat} (hr : aM (i : Int) l a.row 5) (hlt : decide ((i : Int) < (l.length : Int)) = true) (hw : Dz.wrap ((i : Int) + 1) = ((i + 1 : Nat) : Int)) : (CW Du Γ0 (eaH c0 l .ready []) false (sub GA 0) { t := ewT l i, h := eaH c l .ready [], m := [] } .normal { t := ewT l ((i + 1 : Nat) : Int), h := eaH (eaF c a) l .ready [], m := [] }) := by
 let v0 : List D := [int a.course, int a.term, int a.grade, int a.campus, int a.credits]
 refine DU (DV (s' := { t := mkT 19 0 [(0, .ref (.yl 3)), (5, ab l), (6, int (↑(Dw l) : Int)), (7, int (DG Dz ((↑i : Int) + 1)))], h := [.var [int (eaG c a.grade a.credits)], .var [ab l], .defd, .loop D4 none 0 (mkT 21 0 [(2, .ref (.ptr 0 0)), (12, EO (DW 158) [] [.ref (.ptr 1 0)])]) { toList := [13, 14] } (aC (sub Fg 0)) (ak (sub Fg 0))], m := [] }) (e := DQ) pok [.st (.mask [0, 5, 6, 7]), .st (.trim 4)] [.b true, .row (Dy a), .inv (bool true) [.var [int (eaG c a.grade a.credits)], .var [ab l], .defd, .loop D4 none 0 (mkT 21 0 [(2, .ref (.ptr 0 0)), (12, EO (DW 158) [] [.ref (.ptr 1 0)])]) { toList := [13, 14] } (aC (sub Fg 0)) (ak (sub Fg 0)), .var v0], .b false] (by kernel_rfl) (.c hlt (.c hr (.c (@Cq c (a.grade) (a.credits) l (v0)) (.c (show (!true) = false from rfl) .n))))) ?_ ?_ <;> subst v0 <;> (first | rfl | (simp only [hw]; rfl))
theorem Cs {c c0 : Int} {l : List (List Dp)} {i : Nat} (hlt : decide ((i : Int) < (l.length : Int)) = false) : (CW Du Γ0 (eaH c0 l .ready []) false (sub GA 0) { t := ewT l i, h := eaH c l .ready [], m := [] } (.exit 0) { t := mkT 19 0 [], h := eaH c l .ready [], m := [] }) := by
 exact DU (DV (s' := { t := mkT 19 0 [], h := [.var [int c], .var [ab l], .defd, .loop D4 none 0 (mkT 21 0 [(2, .ref (.ptr 0 0)), (12, EO (DW 158) [] [.ref (.ptr 1 0)])]) { toList := [13, 14] } (aC (sub Fg 0)) (ak (sub Fg 0))], m := [] }) (e := Ea 0) pok [.st (.mask [])] [.b false] (by kernel_rfl) (.c hlt .n)) (by rfl) (by rfl)
theorem ew_cw {c0 : Int} {l : List AttT} (hl : aj l) :
  CW Du Γ0 (eaH c0 (l.map Dy) .ready []) false (.loop (sub GA 0)) { t := ewT (l.map Dy) 0, h := eaH c0 (l.map Dy) .ready [], m := [] } (.exit 0)
   { t := mkT 19 0 [], h := eaH (l.foldl eaF c0) (l.map Dy) .ready [], m := [] } := by
 have := CW.each (P := Du) (Γ := Γ0) (h0 := eaH c0 (l.map Dy) .ready []) (rd := false) (c := sub GA 0) (σ := Int) (ρ := Empty) l (fun f s => .inl (eaF s f))
  (fun i s => { t := ewT (l.map Dy) (i : Int), h := eaH s (l.map Dy) .ready [], m := [] }) (.exit 0) (fun s => { t := mkT 19 0 [], h := eaH s (l.map Dy) .ready [], m := [] }) (fun r => r.elim)
  (fun _ _ => True) (by simp) (fun r => r.elim) ?_ ?_ c0 trivial
 ·rw [aY] at this
  exact this
 ·intro i f s hf _
  have hi := (DA.1 hf).1
  exact ⟨fun _ _ => trivial, Cr (rowAt hf rfl) (lt_len _ hi) (wrap_succ hi hl)⟩
 ·intro s _
  exact Cs (bS _ l)
theorem xf {c0 : Int} {l : List AttT} (hl : aj l) : (Ev Du Γ0 158 [.ref (.yl 3), .ref (.ptr 1 0)] (eaH c0 (l.map Dy) .ready []) (.tup []) (eaH (l.foldl eaF c0) (l.map Dy) .ready [])) := by
 have hl0 := (@ew_cw (c0) (l) (hl))
 let v0 : List Blk := [.var [int (D1 eaF c0 l)], .var [ab (Dt Dy l)], .defd, .loop D4 none 0 (mkT 21 0 [(2, .ref (.ptr 0 0)), (12, EO (DW 158) [] [.ref (.ptr 1 0)])]) { toList := [13, 14] } (aC (sub Fg 0)) (ak (sub Fg 0))]
 exact DI (Ev.of_sym (h' := v0) (d := Es []) pok [.sum [0, 5, 6, 7] (Ea 0) { t := mkT 19 0 [], h := v0, m := [] }] (by kernel_rfl) (.c hl0 .n)) (by rfl) (by rfl)
theorem zg {c0 : Int} {l : List AttT} (hl : aj l) : CW Du Γ0 [] false (sub Fg 0) { t := eaT, h := [.var [int c0], .var [ab (l.map Dy)]], m := [] } .normal
  { t := eaT, h := eaH (l.foldl eaF c0) (l.map Dy) .exhausted [], m := [2] } := by
 exact CW.rangeFunc (f := 158) (fi := []) (ca := [.ref (.ptr 1 0)]) pok (s := { t := eaT, h := [.var [int c0], .var [ab (l.map Dy)]], m := [] }) (g := .tmp 12) (ps := #[13, 14]) (asg := aC (sub Fg 0)) (body := ak (sub Fg 0)) rfl (by kernel_rfl) (xf hl) rfl
def bZ (l : List AttT) : Int × Int := match dT l != 0 with
 | true => (0, dT l)
 | false => (l.foldl eaF 0, 0)
theorem ly {l : List AttT} (hl : aj l) (h : List Blk) : (Ev Du Γ0 54 [ab (l.map Dy)] h (.tup [int (bZ l).1, int (bZ l).2]) h) := by
 cases hc0 : dT l != 0
 ·have hl1 := (@zg (0) (l) (hl))
  exact DI (DX (d := Es [int (D1 eaF 0 l), int 0]) pok [.val (int (dT l)), .b false, .inl, .sum [2, 12] (DQ) { t := mkT 21 0 [(2, .ref (.ptr 0 0)), (12, EO (DW 158) [] [.ref (.ptr 1 0)])], h := [.var [int (D1 eaF 0 l)], .var [ab (Dt Dy l)], .defd, .loop Er none 0 (mkT 21 0 [(2, .ref (.ptr 0 0)), (12, EO (DW 158) [] [.ref (.ptr 1 0)])]) { toList := [13, 14] } (aC (sub Fg 0)) (ak (sub Fg 0))], m := [2] }] (by kernel_rfl) (.c (@da l hl ([.var [int 0]])) (.c hc0 (.c hl1 .n))) rfl rfl h) (by simp only [bZ, hc0]; first | done | rfl) (by rfl)
 ·exact DI (DX (d := Es [int 0, int (dT l)]) pok [.val (int (dT l)), .b true] (by kernel_rfl) (.c (@da l hl ([.var [int 0]])) (.c hc0 .n)) rfl rfl h) (by simp only [bZ, hc0]; first | done | rfl) (by rfl)
end Go.Vi
open Go Go.Proofs
namespace Go.Vi
set_option maxRecDepth 100000
set_option maxHeartbeats 4000000
def zh (e : D × D × Nat) : SeenT := match e.2.1 with
 | .agg [.p (.v (.int _ a)), .p (.v (.int _ b)), .p (.v (.int _ c)), .p (.v (.bool d))] => ⟨a, b, c, d⟩
 | _ => uH
abbrev mpH (w : WorldT) (known st : Int) (sm : SM) (rs : List ReadT) (as_ : List (List Dp)) (m1 m2 : IM) (l : List SeenT) (bs : List Nat) : List Blk :=
 [.var w.l, .var [.ref (.vec 8 0), int 0, int 0, int 0], smB sm, siK w known 0, .vec (ai (rdR rs)) 0 5, .var [int st, ab as_], imB m1, imB m2, .vec (aU l) 0 4, .mit (some 2) sm.length bs sm.length]
abbrev mpT (cs : List (List Dp)) : List (Nat × D) := [(10, .ref (.ptr 1 0)), (11, dl), (17, .ref (.ptr 3 0)), (19, ab cs), (150, .ref (.it 9))]
theorem xg (l : List SeenT) (f : Ref → D) : (aU l).map (El f) = aU l := by
 rw [List.map_map]; exact List.map_congr_left fun a _ => rfl
theorem xh {n : Nat} {l : List SeenT} {e sz : Nat} : DL n (.vec (aU l) e sz) = true := by
 show (aU l).all (D.innL n) = true
 rw [List.all_eq_true]
 intro r hr
 obtain ⟨x, _, rfl⟩ := D3.1 hr
 rfl
theorem oy (l : List SeenT) (x : SeenT) : aU l ++ [[int x.course, int x.tries, int x.best, bool x.now]] = aU (l ++ [x]) := by simp [aU, EA]
theorem xi (l : List SeenT) : aU l = (l.map EA).map (Dt D.p) := by simp [aU]
def Au : Code → Code
 | .seq _ (.seq _ r) => r
 | _ => .skip
theorem Ct {w : WorldT} {known st : Int} {sm : SM} {rs : List ReadT} {cs as_ : List (List Dp)} {m1 m2 : IM} {l : List SeenT} {bs : List Nat} {k : Int} {x : SeenT} (hl : l.length ≤ 1000000) (he : f7 (mpH w known st sm rs as_ m1 m2 l bs) (.ref (.it 9)) = some (.tup [int k, .agg [int x.course, int x.tries, int x.best, bool x.now]])) : (CW Du Γk [] false (Au (sub EW 4)) { t := mkT 190 0 (mpT cs ++ [(151, .tup [bool true, int k, seD x]), (152, bool true)]), h := mpH w known st sm rs as_ m1 m2 l bs, m := [] } .normal { t := mkT 190 0 (mpT cs), h := mpH w known st sm rs as_ m1 m2 (l ++ [x]) bs, m := [] }) := by
 let v0 : List D := [int x.course, int x.tries, int x.best, bool x.now]
 let v1 : List D := [.ref (.vec 4 0), ab (Dt DF w.c), ab w.p, ab (Dt DJ w.s), ab (Dt DE w.f), int known]
 refine DU (DV (s' := { t := mkT 190 0 [(10, .ref (.ptr 1 0)), (11, nq), (17, .ref (.ptr 3 0)), (19, ab cs), (150, .ref (.it 9))], h := [.var [ab (Dt DF w.c), ab w.p, ab (Dt DJ w.s), ab (Dt DE w.f)], .var [.ref (.vec 8 0), int 0, int 0, int 0], .map (aP 0 sm) (Dw sm), .var v1, .vec (ai (rdR rs)) 0 5, .var [int st, ab as_], .map (aq 0 m1) (Dw m1), .map (aq 0 m2) (Dw m2), .vec (aU l ++ [v0]) 0 4, .mit (some 2) (Dw sm) bs (Dw sm)], m := [] }) (e := DQ) pok [.st (.mask [10, 11, 17, 19, 150]), .st (.ren 8 0), .st (.trimV 10)] [.ov 153 (Es [int k, EB v0])] (by kernel_rfl) (.c (show f7 [.var (Eb w), .var [.ref (.vec 8 0), int 0, int 0, int 0], .map (aP 0 sm) (Dw sm), .var v1, .vec (ai (rdR rs)) 0 5, .var [int st, ab as_], .map (aq 0 m1) (Dw m1), .map (aq 0 m2) (Dw m2), .vec (aU l) 0 4, .mit (some 2) (Dw sm) bs (Dw sm)] (.ref (.it 9)) = some (Es [int k, EB v0]) from ?_) (.c (show (List.all [v0] (bw 4) && roomOk (Dw (aU l) + Dw [v0]) 32) = true from ?_) (.c (show Dt (El (au 8 1 0)) (aU l ++ [v0]) = aU l ++ [v0] from ?_) (.c (show Dt (fun e => (DR (au 8 1 0) e.fst, DR (au 8 1 0) e.snd.fst, e.snd.snd)) (aP 0 sm) = aP 0 sm from ?_) (.c (show Dt (El (au 8 1 0)) (ai (rdR rs)) = ai (rdR rs) from ?_) (.c (show Dt (fun e => (DR (au 8 1 0) e.fst, DR (au 8 1 0) e.snd.fst, e.snd.snd)) (aq 0 m1) = aq 0 m1 from ?_) (.c (show Dt (fun e => (DR (au 8 1 0) e.fst, DR (au 8 1 0) e.snd.fst, e.snd.snd)) (aq 0 m2) = aq 0 m2 from ?_) (.c (show [v0] = [v0] from rfl) (.c (show DL 10 (match 0 == 8 with | true => .vec (aU l ++ [v0]) 0 4 | false => keepX (au 8 1 0) (.var (Eb w))) = true from rfl) (.c (show DL 10 (match 0 + 1 == 8 with | true => .vec (aU l ++ [v0]) 0 4 | false => keepX (au 8 1 0) (.var [.ref (.vec 8 1), int 0, int 0, int 0])) = true from rfl) (.c (show DL 10 (match 0 + 1 + 1 == 8 with | true => .vec (aU l ++ [v0]) 0 4 | false => keepX (au 8 1 0) (.map (aP 0 sm) (Dw sm))) = true from ?_) (.c (show DL 10 (match 0 + 1 + 1 + 1 == 8 with | true => .vec (aU l ++ [v0]) 0 4 | false => keepX (au 8 1 0) (.var v1)) = true from rfl) (.c (show DL 10 (match 0 + 1 + 1 + 1 + 1 == 8 with | true => .vec (aU l ++ [v0]) 0 4 | false => keepX (au 8 1 0) (.vec (ai (rdR rs)) 0 5)) = true from ?_) (.c (show DL 10 (match 0 + 1 + 1 + 1 + 1 + 1 == 8 with | true => .vec (aU l ++ [v0]) 0 4 | false => keepX (au 8 1 0) (.var [int st, ab as_])) = true from rfl) (.c (show DL 10 (match 0 + 1 + 1 + 1 + 1 + 1 + 1 == 8 with | true => .vec (aU l ++ [v0]) 0 4 | false => keepX (au 8 1 0) (.map (aq 0 m1) (Dw m1))) = true from ?_) (.c (show DL 10 (match 0 + 1 + 1 + 1 + 1 + 1 + 1 + 1 == 8 with | true => .vec (aU l ++ [v0]) 0 4 | false => keepX (au 8 1 0) (.map (aq 0 m2) (Dw m2))) = true from ?_) (.c (show DL 10 (match 0 + 1 + 1 + 1 + 1 + 1 + 1 + 1 + 1 == 8 with | true => .vec (aU l ++ [v0]) 0 4 | false => keepX (au 8 1 0) (.vec (aU l ++ [v0]) 1 4)) = true from ?_) (.c (show DL 10 (match 0 + 1 + 1 + 1 + 1 + 1 + 1 + 1 + 1 + 1 == 8 with | true => .vec (aU l ++ [v0]) 0 4 | false => keepX (au 8 1 0) (.mit (some 2) (Dw sm) bs (Dw sm))) = true from rfl) .n))))))))))))))))))) (by subst v0 v1; first | rfl | (simp only [oy]; first | done | rfl)) (by subst v0 v1; first | rfl | (simp only [oy]; first | done | rfl)) <;> subst v0 v1 <;> (first | assumption | rfl | exact he | exact aR | exact bu | exact ah | exact xh | exact af _ _ | exact aG _ _ _ | exact aF _ _ _ | exact xg _ _ | (rw [oy]; exact xg _ _) | (simp only [oy]; exact xh) | (simp [bw, D.one, Value.oneCell', roomOk]; omega))
theorem lz {x0 x1 x2 x3 x4 x5 x6 x7 x9 : Blk} {l : List SeenT} (hl : l.length < 4611686018427387904) (hT : ∀ x ∈ l, ∀ y ∈ l, x.course = y.course → x = y) :
  Ev Du Γ0 64 [.ref (.vec 8 0), .p (.v (.func (.func 65) #[] #[]))] [x0, x1, x2, x3, x4, x5, x6, x7, .vec (aU l) 0 4, x9] (.tup []) [x0, x1, x2, x3, x4, x5, x6, x7, .vec (aU (l.mergeSort leS)) 0 4, x9] :=
 se (h := [x0, x1, x2, x3, x4, x5, x6, x7, .vec (aU l) 0 4, x9]) (b := 8) rfl hl hT
abbrev pwS (w : WorldT) (known st : Int) (sm : SM) (rs : List ReadT) (la : List AttT) (as_ : List (List Dp)) (m1 m2 : IM) (l : List SeenT) (bs : List Nat) : AS :=
 { t := mkT 190 0 (mpT (la.map Dy) ++ [(151, .tup [bool false]), (152, bool false)]), h := mpH w known st sm rs as_ m1 m2 l bs, m := [] }
abbrev pwX (w : WorldT) (e : Int) : AS := { t := mkT 190 0 [(10, .ref (.ptr 1 0)), (11, dl), (12, int e)], h := [.var w.l, Dm], m := [] }
abbrev pwE (w : WorldT) (rs : List ReadT) (la : List AttT) (l : List SeenT) : AS :=
 { t := mkT 190 0 [(10, .ref (.ptr 1 0)), (11, ab (rdR rs)), (12, int 0)], h := [.var w.l, .var [ab ((l.mergeSort leS).map EA), int (mnI (bZ la).1 10000), int (db la).1, int (db la).2.1]], m := [] }
noncomputable abbrev Cu (w : WorldT) (known : Int) (st : Int) (sm : SM) (rs : List ReadT) (as_ : List (List Dp)) (m1 : IM) (m2 : IM) (l : List SeenT) (bs : List Nat) : List Blk := [.var [ab (Dt DF w.c), ab w.p, ab (Dt DJ w.s), ab (Dt DE w.f)], .var [ab (Dt EA (EK l leS)), int 0, int 0, int 0], .map (aP 0 sm) (Dw sm), .var [.ref (.vec 4 0), ab (Dt DF w.c), ab w.p, ab (Dt DJ w.s), ab (Dt DE w.f), int known], .vec (ai (rdR rs)) 0 5, .var [int st, ab as_], .map (aq 0 m1) (Dw m1), .map (aq 0 m2) (Dw m2), .gone, .mit (some 2) (Dw sm) bs (Dw sm)]
theorem pw_a {w : WorldT} {known st : Int} {sm : SM} {rs : List ReadT} {la : List AttT} (hla : aj la) {as_ : List (List Dp)} {m1 m2 : IM} {l : List SeenT} {bs : List Nat} (hl : l.length < 4611686018427387904) (hT : ∀ x ∈ l, ∀ y ∈ l, x.course = y.course → x = y) (h1 : ((bZ la).2 != 0) = true) : (CW Du Γk [] false (pR (i3 EW) 4) (pwS w known st sm rs la as_ m1 m2 l bs) .ret (pwX w (bZ la).2)) := by
 let v0 := Dt EA (EK l leS)
 let v1 : List D := [.ref (.vec 4 0), ab (Dt DF w.c), ab w.p, ab (Dt DJ w.s), ab (Dt DE w.f), int known]
 refine DU (DV (s' := { t := mkT 190 0 [(10, .ref (.ptr 1 0)), (11, nq), (12, int (bZ la).snd)], h := [.var [ab (Dt DF w.c), ab w.p, ab (Dt DJ w.s), ab (Dt DE w.f)], .var [nq, int 0, int 0, int 0]], m := [] }) (e := E7) pok [.st (.mask [10, 11, 12]), .st (.trim 2)] [.call (Es []) [.var (Eb w), .var [.ref (.vec 8 0), int 0, int 0, int 0], .map (aP 0 sm) (Dw sm), .var v1, .vec (ai (rdR rs)) 0 5, .var [int st, ab as_], .map (aq 0 m1) (Dw m1), .map (aq 0 m2) (Dw m2), .vec (aU (EK l leS)) 0 4, .mit (some 2) (Dw sm) bs (Dw sm)], .st (.frz 8 v0), .val (Es [int (bZ la).fst, int (bZ la).snd]), .b true] (by kernel_rfl) (.c (D7 (Γ' := Γk) (@lz (.var (Eb w)) (.var [.ref (.vec 8 0), int 0, int 0, int 0]) (.map (aP 0 sm) (Dw sm)) (.var v1) (.vec (ai (rdR rs)) 0 5) (.var [int st, ab as_]) (.map (aq 0 m1) (Dw m1)) (.map (aq 0 m2) (Dw m2)) (.mit (some 2) (Dw sm) bs (Dw sm)) l hl hT)) (.c (show aU (EK l leS) = Dt (fun x => Dt D.p x) v0 from ?_) (.c (show Dt (fun e => (DR (dc 8 0 v0) e.fst, DR (dc 8 0 v0) e.snd.fst, e.snd.snd)) (aP 0 sm) = aP 0 sm from ?_) (.c (show Dt (El (dc 8 0 v0)) (ai (rdR rs)) = ai (rdR rs) from ?_) (.c (show Dt (fun e => (DR (dc 8 0 v0) e.fst, DR (dc 8 0 v0) e.snd.fst, e.snd.snd)) (aq 0 m1) = aq 0 m1 from ?_) (.c (show Dt (fun e => (DR (dc 8 0 v0) e.fst, DR (dc 8 0 v0) e.snd.fst, e.snd.snd)) (aq 0 m2) = aq 0 m2 from ?_) (.c (D7 (Γ' := Γk) (@ly la hla (Cu w known st sm rs as_ m1 m2 l bs))) (.c h1 .n))))))))) (by rfl) (by rfl) <;> subst v0 v1 <;> (first | assumption | rfl | exact hT | exact xi _ | exact af _ _ | exact aG _ _ _ | exact aF _ _ _)
noncomputable abbrev Cv (w : WorldT) (known : Int) (st : Int) (sm : SM) (rs : List ReadT) (la : List AttT) (as_ : List (List Dp)) (m1 : IM) (m2 : IM) (l : List SeenT) (bs : List Nat) : List Blk := [.var [ab (Dt DF w.c), ab w.p, ab (Dt DJ w.s), ab (Dt DE w.f)], .var [ab (Dt EA (EK l leS)), int (if false = true then if 10000 > (bZ la).fst then 10000 else (bZ la).fst else if 10000 < (bZ la).fst then 10000 else (bZ la).fst), int 0, int 0], .map (aP 0 sm) (Dw sm), .var [.ref (.vec 4 0), ab (Dt DF w.c), ab w.p, ab (Dt DJ w.s), ab (Dt DE w.f), int known], .vec (ai (rdR rs)) 0 5, .var [int st, ab as_], .map (aq 0 m1) (Dw m1), .map (aq 0 m2) (Dw m2), .gone, .mit (some 2) (Dw sm) bs (Dw sm)]
noncomputable abbrev Cw (w : WorldT) (known : Int) (st : Int) (sm : SM) (rs : List ReadT) (as_ : List (List Dp)) (m1 : IM) (m2 : IM) (l : List SeenT) (bs : List Nat) : List Blk := [.var [ab (Dt DF w.c), ab w.p, ab (Dt DJ w.s), ab (Dt DE w.f)], .var [ab (Dt EA (EK l leS)), int 0, int 0, int 0], .map (aP 0 sm) (Dw sm), .var [.ref (.vec 4 0), ab (Dt DF w.c), ab w.p, ab (Dt DJ w.s), ab (Dt DE w.f), int known], .vec (ai (rdR rs)) 0 5, .var [int st, ab as_], .map (aq 0 m1) (Dw m1), .map (aq 0 m2) (Dw m2), .gone, .mit (some 2) (Dw sm) bs (Dw sm)]
theorem pw_b {w : WorldT} {known st : Int} {sm : SM} {rs : List ReadT} {la : List AttT} (hla : aj la) {as_ : List (List Dp)} {m1 m2 : IM} {l : List SeenT} {bs : List Nat} (hl : l.length < 4611686018427387904) (hT : ∀ x ∈ l, ∀ y ∈ l, x.course = y.course → x = y) (h1 : ((bZ la).2 != 0) = false) (h2 : ((db la).2.2 != 0) = true) : (CW Du Γk [] false (pR (i3 EW) 4) (pwS w known st sm rs la as_ m1 m2 l bs) .ret (pwX w (db la).2.2)) := by
 let v0 := Dt EA (EK l leS)
 let v1 : List D := [.ref (.vec 4 0), ab (Dt DF w.c), ab w.p, ab (Dt DJ w.s), ab (Dt DE w.f), int known]
 refine DU (DV (s' := { t := mkT 190 0 [(10, .ref (.ptr 1 0)), (11, nq), (12, int (db la).snd.snd)], h := [.var [ab (Dt DF w.c), ab w.p, ab (Dt DJ w.s), ab (Dt DE w.f)], .var [nq, int 0, int 0, int 0]], m := [] }) (e := E7) pok [.st (.mask [10, 11, 12]), .st (.trim 2)] [.call (Es []) [.var (Eb w), .var [.ref (.vec 8 0), int 0, int 0, int 0], .map (aP 0 sm) (Dw sm), .var v1, .vec (ai (rdR rs)) 0 5, .var [int st, ab as_], .map (aq 0 m1) (Dw m1), .map (aq 0 m2) (Dw m2), .vec (aU (EK l leS)) 0 4, .mit (some 2) (Dw sm) bs (Dw sm)], .st (.frz 8 v0), .val (Es [int (bZ la).fst, int (bZ la).snd]), .b false, .val (Es [EB [int (db la).fst, int (db la).snd.fst], int (db la).snd.snd]), .b true] (by kernel_rfl) (.c (D7 (Γ' := Γk) (@lz (.var (Eb w)) (.var [.ref (.vec 8 0), int 0, int 0, int 0]) (.map (aP 0 sm) (Dw sm)) (.var v1) (.vec (ai (rdR rs)) 0 5) (.var [int st, ab as_]) (.map (aq 0 m1) (Dw m1)) (.map (aq 0 m2) (Dw m2)) (.mit (some 2) (Dw sm) bs (Dw sm)) l hl hT)) (.c (show aU (EK l leS) = Dt (fun x => Dt D.p x) v0 from ?_) (.c (show Dt (fun e => (DR (dc 8 0 v0) e.fst, DR (dc 8 0 v0) e.snd.fst, e.snd.snd)) (aP 0 sm) = aP 0 sm from ?_) (.c (show Dt (El (dc 8 0 v0)) (ai (rdR rs)) = ai (rdR rs) from ?_) (.c (show Dt (fun e => (DR (dc 8 0 v0) e.fst, DR (dc 8 0 v0) e.snd.fst, e.snd.snd)) (aq 0 m1) = aq 0 m1 from ?_) (.c (show Dt (fun e => (DR (dc 8 0 v0) e.fst, DR (dc 8 0 v0) e.snd.fst, e.snd.snd)) (aq 0 m2) = aq 0 m2 from ?_) (.c (D7 (Γ' := Γk) (@ly la hla (Cw w known st sm rs as_ m1 m2 l bs))) (.c h1 (.c (D7 (Γ' := Γk) (@qz la hla (Cv w known st sm rs la as_ m1 m2 l bs))) (.c h2 .n))))))))))) (by rfl) (by rfl) <;> subst v0 v1 <;> (first | assumption | rfl | exact hT | exact xi _ | exact af _ _ | exact aG _ _ _ | exact aF _ _ _)
noncomputable abbrev Cx (w : WorldT) (known : Int) (st : Int) (sm : SM) (rs : List ReadT) (la : List AttT) (as_ : List (List Dp)) (m1 : IM) (m2 : IM) (l : List SeenT) (bs : List Nat) : List Blk := [.var [ab (Dt DF w.c), ab w.p, ab (Dt DJ w.s), ab (Dt DE w.f)], .var [ab (Dt EA (EK l leS)), int (if false = true then if 10000 > (bZ la).fst then 10000 else (bZ la).fst else if 10000 < (bZ la).fst then 10000 else (bZ la).fst), int 0, int 0], .map (aP 0 sm) (Dw sm), .var [.ref (.vec 4 0), ab (Dt DF w.c), ab w.p, ab (Dt DJ w.s), ab (Dt DE w.f), int known], .vec (ai (rdR rs)) 0 5, .var [int st, ab as_], .map (aq 0 m1) (Dw m1), .map (aq 0 m2) (Dw m2), .gone, .mit (some 2) (Dw sm) bs (Dw sm)]
noncomputable abbrev Cy (w : WorldT) (known : Int) (st : Int) (sm : SM) (rs : List ReadT) (as_ : List (List Dp)) (m1 : IM) (m2 : IM) (l : List SeenT) (bs : List Nat) : List Blk := [.var [ab (Dt DF w.c), ab w.p, ab (Dt DJ w.s), ab (Dt DE w.f)], .var [ab (Dt EA (EK l leS)), int 0, int 0, int 0], .map (aP 0 sm) (Dw sm), .var [.ref (.vec 4 0), ab (Dt DF w.c), ab w.p, ab (Dt DJ w.s), ab (Dt DE w.f), int known], .vec (ai (rdR rs)) 0 5, .var [int st, ab as_], .map (aq 0 m1) (Dw m1), .map (aq 0 m2) (Dw m2), .gone, .mit (some 2) (Dw sm) bs (Dw sm)]
theorem pw_c {w : WorldT} {known st : Int} {sm : SM} {rs : List ReadT} {la : List AttT} (hla : aj la) {as_ : List (List Dp)} {m1 m2 : IM} {l : List SeenT} {bs : List Nat} (hl : l.length < 4611686018427387904) (hT : ∀ x ∈ l, ∀ y ∈ l, x.course = y.course → x = y) (h1 : ((bZ la).2 != 0) = false) (h2 : ((db la).2.2 != 0) = false) : (CW Du Γk [] false (pR (i3 EW) 4) (pwS w known st sm rs la as_ m1 m2 l bs) .ret (pwE w rs la l)) := by
 let v0 := Dt EA (EK l leS)
 let v1 : List D := [ab v0, int (if false = true then if 10000 > (bZ la).fst then 10000 else (bZ la).fst else if 10000 < (bZ la).fst then 10000 else (bZ la).fst), int (db la).fst, int (db la).snd.fst]
 let v2 : List D := [.ref (.vec 4 0), ab (Dt DF w.c), ab w.p, ab (Dt DJ w.s), ab (Dt DE w.f), int known]
 refine DU (DV (s' := { t := mkT 190 0 [(10, .ref (.ptr 1 0)), (11, ab (rdR rs)), (12, int 0)], h := [.var [ab (Dt DF w.c), ab w.p, ab (Dt DJ w.s), ab (Dt DE w.f)], .var v1], m := [] }) (e := E7) pok [.st (.mask [10, 11, 12]), .st (.trim 2)] [.call (Es []) [.var (Eb w), .var [.ref (.vec 8 0), int 0, int 0, int 0], .map (aP 0 sm) (Dw sm), .var v2, .vec (ai (rdR rs)) 0 5, .var [int st, ab as_], .map (aq 0 m1) (Dw m1), .map (aq 0 m2) (Dw m2), .vec (aU (EK l leS)) 0 4, .mit (some 2) (Dw sm) bs (Dw sm)], .st (.frz 8 v0), .val (Es [int (bZ la).fst, int (bZ la).snd]), .b false, .val (Es [EB [int (db la).fst, int (db la).snd.fst], int (db la).snd.snd]), .b false, .st (.frz 4 (rdR rs))] (by kernel_rfl) (.c (D7 (Γ' := Γk) (@lz (.var (Eb w)) (.var [.ref (.vec 8 0), int 0, int 0, int 0]) (.map (aP 0 sm) (Dw sm)) (.var v2) (.vec (ai (rdR rs)) 0 5) (.var [int st, ab as_]) (.map (aq 0 m1) (Dw m1)) (.map (aq 0 m2) (Dw m2)) (.mit (some 2) (Dw sm) bs (Dw sm)) l hl hT)) (.c (show aU (EK l leS) = Dt (fun x => Dt D.p x) v0 from ?_) (.c (show Dt (fun e => (DR (dc 8 0 v0) e.fst, DR (dc 8 0 v0) e.snd.fst, e.snd.snd)) (aP 0 sm) = aP 0 sm from ?_) (.c (show Dt (El (dc 8 0 v0)) (ai (rdR rs)) = ai (rdR rs) from ?_) (.c (show Dt (fun e => (DR (dc 8 0 v0) e.fst, DR (dc 8 0 v0) e.snd.fst, e.snd.snd)) (aq 0 m1) = aq 0 m1 from ?_) (.c (show Dt (fun e => (DR (dc 8 0 v0) e.fst, DR (dc 8 0 v0) e.snd.fst, e.snd.snd)) (aq 0 m2) = aq 0 m2 from ?_) (.c (D7 (Γ' := Γk) (@ly la hla (Cy w known st sm rs as_ m1 m2 l bs))) (.c h1 (.c (D7 (Γ' := Γk) (@qz la hla (Cx w known st sm rs la as_ m1 m2 l bs))) (.c h2 (.c (show ai (rdR rs) = Dt (fun x => Dt D.p x) (rdR rs) from ?_) (.c (show Dt (fun e => (DR (dc 4 0 (rdR rs)) e.fst, DR (dc 4 0 (rdR rs)) e.snd.fst, e.snd.snd)) (aP 0 sm) = aP 0 sm from ?_) (.c (show Dt (fun e => (DR (dc 4 0 (rdR rs)) e.fst, DR (dc 4 0 (rdR rs)) e.snd.fst, e.snd.snd)) (aq 0 m1) = aq 0 m1 from ?_) (.c (show Dt (fun e => (DR (dc 4 0 (rdR rs)) e.fst, DR (dc 4 0 (rdR rs)) e.snd.fst, e.snd.snd)) (aq 0 m2) = aq 0 m2 from ?_) (.e (EB v1) (.e (.ref (.ptr 3 0)) (.e (.ref (.ptr 3 0)) (.e (.ref (.ptr 3 0)) (.e (.ref (.ptr 3 0)) (.e (ab (rdR rs)) (.e (ab (rdR rs)) .n)))))))))))))))))))))) (by rfl) (by rfl) <;> subst v0 v1 v2 <;> (first | assumption | rfl | exact hT | exact xi _ | exact Aq _ | exact af _ _ | exact aG _ _ _ | exact aF _ _ _)
def xj : Code → Code
 | .seq (.seq a _) _ => a
 | _ => .skip
theorem zi {w : WorldT} {known st : Int} {sm : SM} {rs : List ReadT} {cs as_ : List (List Dp)} {m1 m2 : IM} : (CW Du Γk [] false (xj (rL (i3 EW) 4)) (nbE w known st sm rs cs as_ m1 m2) .normal { t := mkT 190 0 (mpT cs), h := mpH w known st sm rs as_ m1 m2 [] [], m := [] }) := by
 exact DU (DV (s' := { t := mkT 190 0 [(10, .ref (.ptr 1 0)), (11, nq), (17, .ref (.ptr 3 0)), (19, ab cs), (150, .ref (.it 9))], h := [.var [ab (Dt DF w.c), ab w.p, ab (Dt DJ w.s), ab (Dt DE w.f)], .var [.ref (.vec 8 0), int 0, int 0, int 0], .map (aP 0 sm) (Dw sm), .var [.ref (.vec 4 0), ab (Dt DF w.c), ab w.p, ab (Dt DJ w.s), ab (Dt DE w.f), int known], .vec (ai (rdR rs)) 0 5, .var [int st, ab as_], .map (aq 0 m1) (Dw m1), .map (aq 0 m2) (Dw m2), .vec [] 0 4, .mit (some 2) (Dw sm) [] (Dw sm)], m := [] }) (e := DQ) pok [.st (.mask [10, 11, 17, 19, 150])] [.st (.nilC 1 0 4)] (by kernel_rfl) .n) (by rfl) (by rfl)
end Go.Vi
open Go Go.Proofs
namespace Go.Vi
set_option maxRecDepth 100000
set_option maxHeartbeats 4000000
def opAt (c : Code) (i : Nat) : Oper := match c with
 | .seq (.region _ ops _) _ => ops.toList.getD i default
 | _ => default
theorem uJ : rL (i3 EW) 4 = .seq (.seq (xj (rL (i3 EW) 4)) (.block 8 (.loop (.seq (.region 40 #[opAt (sub EW 4) 0, opAt (sub EW 4) 1] false) (.seq (.cond (.tmp 152) .skip (.exit 8)) (Au (sub EW 4))))))) (pR (i3 EW) 4) := by kernel_rfl
theorem oz : ∀ (n i : Nat) (l : List (Nat × D)), (mkT n i l).length = n
 | 0, _, _ => rfl
 | n + 1, i, [] => by simp [mkT, oz n]
 | n + 1, i, (k, d) :: l => by
  unfold mkT
  split <;> simp [oz n]
def smV (m : SM) : List SeenT := m.map (·.2)
theorem oA : ∀ {m : SM} {j : Nat} {e : D × D × Nat}, e ∈ aP j m → ∃ k s, e = (int k, seD s, e.2.2) ∧ j ≤ e.2.2 ∧ e.2.2 < j + m.length
 | [], _, _, h => by simp [aP] at h
 | (k, s) :: m, j, e, h => by
  simp only [aP, Eg] at h
  rcases h with rfl | h
  ·exact ⟨k, s, rfl, by simp, by simp⟩
  ·obtain ⟨k', s', h1, h2, h3⟩ := oA h
   refine ⟨k', s', h1, by omega, by simp only [Ef]; omega⟩
theorem gr : ∀ (m : SM) (j : Nat), bC (aP j m) = List.range' j m.length
 | [], _ => rfl
 | (k, s) :: m, j => by
  have := gr m (j + 1)
  simp only [bC] at this
  simp only [bC, aP, EH, Ef, List.range'_succ, this]
theorem qA : ∀ (m : SM) (j : Nat), (aP j m).map zh = smV m
 | [], _ => rfl
 | (k, s) :: m, j => by
  have := qA m (j + 1)
  simp only [aP, EH, this, smV]
  rfl
theorem lA : ∀ {l : List (D × D × Nat)} {e : D × D × Nat}, (bC l).Nodup → e ∈ l → l.find? (fun x => x.2.2 == e.2.2) = some e
 | a :: l, e, hn, he => by
  rw [List.find?_cons]
  simp only [bC, EH, List.nodup_cons] at hn
  rcases Eg.1 he with rfl | he
  ·simp
  ·have : (a.2.2 == e.2.2) = false := by
    simp only [beq_eq_false_iff_ne, ne_eq]
    intro hh
    exact hn.1 (hh ▸ D3.2 ⟨e, he, rfl⟩)
   rw [this]
   exact lA hn.2 he
abbrev mpS (w : WorldT) (known st : Int) (sm : SM) (rs : List ReadT) (la : List AttT) (as_ : List (List Dp)) (m1 m2 : IM) (pre : List (D × D × Nat)) : AS :=
 { t := mkT 190 0 (mpT (la.map Dy)), h := mpH w known st sm rs as_ m1 m2 (pre.map zh) (bC pre), m := [] }
theorem Cz {w : WorldT} {known st : Int} {sm : SM} {rs : List ReadT} {la : List AttT} {as_ : List (List Dp)} {m1 m2 : IM} {sF : AS} (hsm : sm.length ≤ 1000000)
  (hpost : ∀ (l : List SeenT) (bs : List Nat), l.Perm (smV sm) → CW Du Γk [] false (pR (i3 EW) 4) (pwS w known st sm rs la as_ m1 m2 l bs) .ret sF) :
  CW Du Γk [] false (rL (i3 EW) 4) (nbE w known st sm rs (la.map Dy) as_ m1 m2) .ret sF := by
 intro X r hX hr
 rw [uJ]
 have hnd : (bC (aP 0 sm)).Nodup := by rw [gr]; exact List.nodup_range'
 refine VW.seq (VW.seq (VW.mono (zi X r hX hr) ?_))
 rintro e0 s0 ⟨rfl, rfl⟩
 show VW Du Γk X r _ _ (mpS w known st sm rs la as_ m1 m2 [])
 refine (VW.block (VW.mapLoop (kvs := aP 0 sm) (clock := sm.length) (b := 9) (mb := 2) (x1 := 151) (x2 := 152) (it := .tmp 150) (mpS w known st sm rs la as_ m1 m2) (by kernel_rfl) (by kernel_rfl) (by kernel_rfl) (by kernel_rfl) (by kernel_rfl) (by kernel_rfl) ?_ ?_ hnd ?_ ?_))
 ·intro pre
  exact ⟨by simp [oz], by simp [oz], rfl, rfl, rfl, rfl, fun _ => rfl⟩
 ·intro e he
  obtain ⟨_, _, _, _, h⟩ := oA he
  omega
 ·intro pre e post hp
  have hem : e ∈ aP 0 sm := hp.mem_iff.1 (by simp)
  obtain ⟨k, s, h1, _, _⟩ := oA hem
  have hlen : pre.length ≤ 1000000 := by
   have := hp.length_eq
   have h2 : (aP 0 sm).length = sm.length := by have := congrArg Dw (gr sm 0); simpa [bC] using this
   simp only [ER, Ef] at this
   omega
  have hen : f7 (mpH w known st sm rs as_ m1 m2 (pre.map zh) (bC (pre ++ [e]))) (.ref (.it 9)) = some (.tup [int k, .agg [int s.course, int s.tries, int s.best, bool s.now]]) := by
   have hl : (bC (pre ++ [e])).getLast? = some e.2.2 := by simp [bC]
   have hf := lA hnd hem
   unfold f7
   simp only [mpH, List.getElem?_cons_succ, List.getElem?_cons_zero, hl, smB, if_true, hf, Option.map_some]
   rw [h1]; rfl
  have hb := Ct (w := w) (known := known) (st := st) (sm := sm) (rs := rs) (cs := la.map Dy) (as_ := as_) (m1 := m1) (m2 := m2) (l := pre.map zh) (bs := bC (pre ++ [e])) (k := k) (x := s) (by simpa using hlen) hen X r hX hr
  have hse : (pre ++ [e]).map zh = pre.map zh ++ [s] := by rw [List.map_append, h1]; rfl
  have he1 : e.1 = int k := by rw [h1]
  have he2 : e.2.1 = seD s := by rw [h1]
  rw [he1, he2]
  refine VW.mono hb ?_
  rintro e' s' ⟨rfl, rfl⟩
  refine ⟨rfl, ?_⟩
  show _ = ({ t := _, h := mpH w known st sm rs as_ m1 m2 ((pre ++ [e]).map zh) (bC (pre ++ [e])), m := [] } : AS)
  rw [hse]
 ·intro pre hp
  have hperm : (pre.map zh).Perm (smV sm) := by rw [← qA sm 0]; exact hp.map _
  exact hpost (pre.map zh) (bC pre) hperm X r hX hr
end Go.Vi
open Go Go.Proofs
namespace Go.Vi
set_option maxRecDepth 100000
set_option maxHeartbeats 4000000
theorem im {w : WorldT} (hw : w.ok) {known st term : Int} : (dm w known st term).length ≤ 70656000 := by
 have := m9 hw (known := known) (st := st) (term := term)
 unfold dm
 simpa using this
theorem CA (m : IM) (e : AttT × Nat) (out : List AttT) : (cgF m e out).length ≤ out.length + 1 := by
 unfold cgF; cases cgHit m e.2 e.1 <;> simp
theorem ne (m : IM) : ∀ (l : List (AttT × Nat)) (out : List AttT), (l.foldl (fun out e => cgF m e out) out).length ≤ out.length + l.length
 | [], _ => by simp
 | e :: l, out => by
  have h1 := ne m l (cgF m e out)
  have h2 := CA m e out
  simp only [List.foldl_cons, Ef]; omega
theorem xk (l : List AttT) (m : IM) : (sg l m).length ≤ l.length := by
 have := ne m l.zipIdx []
 simpa [sg] using this
theorem CB (l : List AttT) (rp : List Int) : (qw l rp).1.length ≤ l.length := by
 unfold qw
 cases decide (dT l = 0)
 ·simp
 ·cases decide (rp.length = l.length)
  ·simp
  ·simp only [cond_true]
   split
   ·exact xk _ _
   ·simp
end Go.Vi
