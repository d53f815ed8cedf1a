/- RecordCountedSpecUpto: part of the proof: contracts of the functions that the law reaches, and the law. No conditions beyond the given statement's own. -/
import Derived.Test.YtilebidefogaiaaGreatDoorW1
open Go.Proofs.Tryz renaming prog → y6, f226 → zF, f215 → Dt, f216 → Du, f217 → CM, f124 → Ck
open Go.Vi.RuleT renaming ok → DM, mk → BL, walk → Ed, row → BC
open Go.IntKind renaming i64 → zb, wrap → zg
open Go.Vi.D renaming fn → Ap
open Go.Fn renaming func → zB
open Go.Vi.Ev renaming castH → zk, sym0 → zm
open Go.Exit renaming normal → zr, ret → Ai, exit → zQ
open Go.LoopState renaming exhausted → zY
open Go.Vi.RuF renaming formed → AB
open Bool renaming and_assoc → AA, or_eq_false_iff → A4, not_eq_false' → CU, false_and → zT, and_false → zU, true_and → Ad, and_true → AF, and_self → zX
open Go.Vi.CW renaming cast → zt, symX → zu, each → Cz
open List renaming getElem?_eq_some_iff → zc, mem_of_getElem? → zL, getD → zi, map → y9
open Nat renaming le_refl → zw
open Go.Vi.Dp renaming v → Ba
open Go.Value renaming tuple → Ah
open Go.Vi.FactT renaming row → zo
open Int renaming toNat → zh
open Go Go.Proofs
namespace Go.Vi
set_option maxRecDepth 100000
set_option maxHeartbeats 4000000
theorem qh (r0 : RuF) : ∀ (r : RuleT), r.ok → ∀ (dep m : Int), Ev y6 Γk 239 [.agg r.fl.l, int dep, .ref (.yl 6), .ref (.ptr 4 0)] (ckH r0 0 m .ready none) (bool (!(r.walk dep m).2)) (xY r0 (r.walk dep m).1 (r.walk dep m).2)
 | .mk op c nm n d ks, hr, dep, m => by
  have hok := RuleT.fl_ok hr
  simp only [DM] at hr
  have hiv := xZ (r0 := r0) (m := m) (dep := dep) hok
  have hlen : ((BL op c nm n d ks).fl.ks.length : Int) = ks.length := by simp [RuleT.fl, dZ]
  have hf : (BL op c nm n d ks).fl.formed = ac op c n d ks.length := by
   show ac op c n d ((BL op c nm n d ks).fl.ks.length : Int) = _
   rw [hlen]
  rw [hf] at hiv
  simp only [Ed]
  cases hs : fW (zb.wrap (m + 1)) dep (ac op c n d ks.length) with
  | true =>
   rw [hs] at hiv
   exact walkA hiv
  | false =>
   rw [hs] at hiv
   have := walkB (r0 := r0) (x := (BL op c nm n d ks).fl) (ks := ks) (dZ ks) hr.1.2.2.2.2 (m := m) (dep := dep) hiv (fun k hk m => qh r0 k (c7 hr.2 k hk) _ m)
   rw [ve] at this
   exact this
termination_by r => SizeOf.sizeOf r
decreasing_by
 have := List.sizeOf_lt_of_mem hk
 simp only [BL.sizeOf_spec]
 omega
noncomputable abbrev fX (x : RuF) (m' : Int) : List Blk := [.var [int x.op, int x.c, ai x.nm, int x.n, int x.d, aa x.ks], .var [int 120], .var [int m'], .var [int x.op, int x.c, ai x.nm, int x.n, int x.d, aa x.ks], .var [Ap (zB 239) [] [.ref (.ptr 4 0)]], .defd, .loop LoopState.done (some Code.ret) 0 (mkT 23 0 [(2, .ref (.ptr 1 0)), (3, .ref (.ptr 2 0)), (7, Ap (zB 240) [] [.ref (.ptr 4 0), .ref (.ptr 3 0)])]) { toList := [8, 9] } (aA (sub zF 0)) (al (sub zF 0))]
theorem rb {x : RuF} {m' : Int} (hk : Ev y6 Γk 239 [.agg x.l, int 1, .ref (.yl 6), .ref (.ptr 4 0)] (ckH x 0 0 .ready none) (bool false) (ckH x 120 m' .done (some .ret))) : (Ev y6 Γk 240 [.ref (.yl 6), .ref (.ptr 4 0), .ref (.ptr 3 0)] (ckH x 0 0 .ready none) (.tup []) (ckH x 120 m' .done (some .ret))) := by
 exact zk (Ev.of_sym (h' := (fX x m')) (d := D.tup []) pok [.call (bool false) (fX x m')] (by kernel_rfl) (.c (@hk) .n)) (by rfl) (by rfl)
noncomputable abbrev fY (x : RuF) (m' : Int) : List Blk := [.var [int x.op, int x.c, ai x.nm, int x.n, int x.d, aa x.ks], .var [int 0], .var [int m'], .var [int x.op, int x.c, ai x.nm, int x.n, int x.d, aa x.ks], .var [Ap (zB 239) [] [.ref (.ptr 4 0)]], .defd, .loop LoopState.ready none 0 (mkT 23 0 [(2, .ref (.ptr 1 0)), (3, .ref (.ptr 2 0)), (7, Ap (zB 240) [] [.ref (.ptr 4 0), .ref (.ptr 3 0)])]) { toList := [8, 9] } (aA (sub zF 0)) (al (sub zF 0))]
theorem re {x : RuF} {m' : Int} (hk : Ev y6 Γk 239 [.agg x.l, int 1, .ref (.yl 6), .ref (.ptr 4 0)] (ckH x 0 0 .ready none) (bool true) (ckH x 0 m' .ready none)) : (Ev y6 Γk 240 [.ref (.yl 6), .ref (.ptr 4 0), .ref (.ptr 3 0)] (ckH x 0 0 .ready none) (.tup []) (ckH x 0 m' .ready none)) := by
 exact zk (Ev.of_sym (h' := (fY x m')) (d := D.tup []) pok [.call (bool true) (fY x m')] (by kernel_rfl) (.c (@hk) .n)) (by rfl) (by rfl)
abbrev ckH0 (r : RuF) : List Blk := [.var r.l, .var [int 0], .var [int 0], .var r.l, .var [.fn (.func 239) [] [.ref (.ptr 4 0)]]]
theorem ckT_rf {x : RuF} {m' : Int} (hk : Ev y6 Γk 239 [.agg x.l, int 1, .ref (.yl 6), .ref (.ptr 4 0)] (ckH x 0 0 .ready none) (bool false) (ckH x 120 m' .done (some .ret))) :
  CW y6 Γk [] false (sub zF 0) { t := ckT, h := ckH0 x, m := [] } .ret { t := ckT, h := ckH x 120 m' .exhausted (some .ret), m := [5] } :=
 CW.rangeFunc (f := 240) (fi := []) (ca := [.ref (.ptr 4 0), .ref (.ptr 3 0)]) pok (s := { t := ckT, h := ckH0 x, m := [] }) (g := .tmp 7) (ps := #[8, 9]) (asg := aA (sub zF 0)) (body := al (sub zF 0)) rfl (by kernel_rfl) (rb hk) rfl
theorem ckF_rf {x : RuF} {m' : Int} (hk : Ev y6 Γk 239 [.agg x.l, int 1, .ref (.yl 6), .ref (.ptr 4 0)] (ckH x 0 0 .ready none) (bool true) (ckH x 0 m' .ready none)) :
  CW y6 Γk [] false (sub zF 0) { t := ckT, h := ckH0 x, m := [] } .normal { t := ckT, h := ckH x 0 m' .exhausted none, m := [5] } :=
 CW.rangeFunc (f := 240) (fi := []) (ca := [.ref (.ptr 4 0), .ref (.ptr 3 0)]) pok (s := { t := ckT, h := ckH0 x, m := [] }) (g := .tmp 7) (ps := #[8, 9]) (asg := aA (sub zF 0)) (body := al (sub zF 0)) rfl (by kernel_rfl) (re hk) rfl
def RuleT.bad (r : RuleT) : Bool := (r.walk 1 0).2
noncomputable def x5 (x : RuF) (p : Int × Bool) : Exit × AS := match p.2 with
 | true => (.ret, { t := ckT, h := ckH x 120 p.1 .exhausted (some .ret), m := [5] })
 | false => (.normal, { t := ckT, h := ckH x 0 p.1 .exhausted none, m := [5] })
theorem vf {r : RuleT} (hr : r.ok) {x : RuF} (hx : x = r.fl) : CW y6 Γk [] false (sub zF 0) { t := ckT, h := ckH0 x, m := [] } (x5 x (r.walk 1 0)).1 (x5 x (r.walk 1 0)).2 := by
 subst hx
 have hk := qh r.fl r hr 1 0
 unfold x5
 cases h : r.walk 1 0 with
 | mk m' b =>
  rw [h] at hk
  cases b with
  | true => exact ckT_rf hk
  | false => exact ckF_rf hk
def bf (b : Bool) : Int := match b with | true => 120 | false => 0
theorem x6 {r : RuleT} (hr : r.ok) {x : RuF} (hx : x = r.fl) (h : List Blk) : (Ev y6 Γk 226 [.agg x.l] h (int (bf r.bad)) h) := by
 have hl0 := (@vf (r) (hr) (x) (hx))
 revert hl0
 cases ho1 : Ed r 1 0 with
 | mk o1_0_0 o1_0_1 =>
  intro hl0
  revert hl0
  cases ho2 : o1_0_1 with
  | false =>
   intro hl0
   exact zk (zm (d := int 0) pok [.inl, .sum [2, 3, 7] (zr) { t := mkT 23 0 [(2, .ref (.ptr 1 0)), (3, .ref (.ptr 2 0)), (7, Ap (zB 240) [] [.ref (.ptr 4 0), .ref (.ptr 3 0)])], h := [.var [int x.op, int x.c, ai x.nm, int x.n, int x.d, aa x.ks], .var [int 0], .var [int o1_0_0], .var [int x.op, int x.c, ai x.nm, int x.n, int x.d, aa x.ks], .var [Ap (zB 239) [] [.ref (.ptr 4 0)]], .defd, .loop zY none 0 (mkT 23 0 [(2, .ref (.ptr 1 0)), (3, .ref (.ptr 2 0)), (7, Ap (zB 240) [] [.ref (.ptr 4 0), .ref (.ptr 3 0)])]) { toList := [8, 9] } (aA (sub zF 0)) (al (sub zF 0))], m := [5] }] (by kernel_rfl) (.c hl0 .n) rfl rfl h) (by simp [RuleT.bad, bf, ho1, ho2]) (by rfl)
  | true =>
   intro hl0
   exact zk (zm (d := int 120) pok [.inl, .sum [2, 3, 7] (Ai) { t := mkT 23 0 [(2, .ref (.ptr 1 0)), (3, .ref (.ptr 2 0)), (7, Ap (zB 240) [] [.ref (.ptr 4 0), .ref (.ptr 3 0)])], h := [.var [int x.op, int x.c, ai x.nm, int x.n, int x.d, aa x.ks], .var [int 120], .var [int o1_0_0], .var [int x.op, int x.c, ai x.nm, int x.n, int x.d, aa x.ks], .var [Ap (zB 239) [] [.ref (.ptr 4 0)]], .defd, .loop zY (some Code.ret) 0 (mkT 23 0 [(2, .ref (.ptr 1 0)), (3, .ref (.ptr 2 0)), (7, Ap (zB 240) [] [.ref (.ptr 4 0), .ref (.ptr 3 0)])]) { toList := [8, 9] } (aA (sub zF 0)) (al (sub zF 0))], m := [5] }] (by kernel_rfl) (.c hl0 .n) rfl rfl h) (by simp [RuleT.bad, bf, ho1, ho2]) (by rfl)
theorem fZ {r : RuleT} (hr : r.ok) (h : List Blk) : Ev y6 Γk 226 [.agg r.fl.l] h (int (bf r.bad)) h := by
 exact x6 hr rfl h
end Go.Vi
open Go Go.Proofs
namespace Go.Vi
set_option maxRecDepth 100000
set_option maxHeartbeats 4000000
def cH (n : Int) : Bool := decide (n ≥ 5) && decide (n ≤ 9)
theorem bl {n : Int} (h : List Blk) : (Ev y6 Γ0 236 [int n] h (bool (cH n)) h) := by
 exact zk (zm (d := bool (decide (n ≥ 5) && decide (n ≤ 9))) pok [] (by kernel_rfl) .n rfl rfl h) (by rfl) (by rfl)
def vg (n : Int) : Bool := decide (n ≥ 0) && decide (n < 4096)
theorem fh {n : Int} (h : List Blk) : (Ev y6 Γ0 237 [int n] h (bool (vg n)) h) := by
 exact zk (zm (d := bool (decide (n ≥ 0) && decide (n < 4096))) pok [] (by kernel_rfl) .n rfl rfl h) (by rfl) (by rfl)
theorem th {n d : Int} (hn : I64 n) (hd : I64 d) (h : List Blk) : (Ev y6 Γ0 238 [.agg [int n, int d]] h (bool (oJ n d)) h) := by
 exact zk (zm (d := bool (qf n d == 0 && decide (n ≥ 0) && decide (n ≤ zg zb (12 * d)))) pok [.val (int (qf n d))] (by kernel_rfl) (.c (@oH n d hn hd ([.var [int n, int d]])) .n) rfl rfl h) (by rfl) (by rfl)
theorem oK (c : Int) : vg c = inB c 0 4095 := by
 unfold vg inB
 congr 1
 exact decide_eq_decide.2 (by omega)
noncomputable abbrev ar (x : RuF) : List Blk := [.var [int x.op, int x.c, ai x.nm, int x.n, int x.d, aa x.ks]]
theorem fj {x : RuF} (hx : x.ok) (h : List Blk) : (Ev y6 Γ0 231 [.agg x.l] h (bool x.formed) h) := by
 cases hc0 : !(x.op == 5 || x.op == 6 || x.op == 9) && x.c != 0 || !(x.op == 3 || x.op == 5 || x.op == 6 || x.op == 7 || x.op == 8) && x.n != 0 || x.op != 8 && x.d != 0 || cH x.op && decide ((↑(List.length x.ks) : Int) > 0)
 ·cases hc1 : x.op == 1
  ·cases hc2 : x.op == 2
   ·cases hc3 : x.op == 3
    ·cases hc4 : x.op == 4
     ·cases hc5 : x.op == 5
      ·cases hc6 : x.op == 6
       ·cases hc7 : x.op == 7
        ·cases hc8 : x.op == 8
         ·cases hc9 : x.op == 9
          ·exact zk (zm (d := bool false) pok [.val (bool (cH x.op)), .b false, .b false, .b false, .b false, .b false, .b false, .b false, .b false, .b false, .b false] (by kernel_rfl) (.c (gd (!(!(x.op == 5 || x.op == 6 || x.op == 9) && x.c != 0 || !(x.op == 3 || x.op == 5 || x.op == 6 || x.op == 7 || x.op == 8) && x.n != 0 || x.op != 8 && x.d != 0)) (@bl (x.op) (ar x))) (.c hc0 (.c hc1 (.c hc2 (.c hc3 (.c hc4 (.c hc5 (.c hc6 (.c hc7 (.c hc8 (.c hc9 .n))))))))))) rfl rfl h) (by (simp_all [AB, ac, cH, AA])) (by rfl)
          ·exact zk (zm (d := bool (vg x.c)) pok [.val (bool (cH x.op)), .b false, .b false, .b false, .b false, .b false, .b false, .b false, .b false, .b false, .b true, .val (bool (vg x.c))] (by kernel_rfl) (.c (gd (!(!(x.op == 5 || x.op == 6 || x.op == 9) && x.c != 0 || !(x.op == 3 || x.op == 5 || x.op == 6 || x.op == 7 || x.op == 8) && x.n != 0 || x.op != 8 && x.d != 0)) (@bl (x.op) (ar x))) (.c hc0 (.c hc1 (.c hc2 (.c hc3 (.c hc4 (.c hc5 (.c hc6 (.c hc7 (.c hc8 (.c hc9 (.c (@fh (x.c) (ar x)) .n)))))))))))) rfl rfl h) (by (simp_all [AB, ac, oK, cH, inB, AA])) (by rfl)
         ·refine zk (zm (d := bool (oJ x.n x.d)) pok [.val (bool (cH x.op)), .b false, .b false, .b false, .b false, .b false, .b false, .b false, .b false, .b true, .val (bool (oJ x.n x.d))] (by kernel_rfl) (.c (gd (!(!(x.op == 5 || x.op == 6 || x.op == 9) && x.c != 0 || !(x.op == 3 || x.op == 5 || x.op == 6 || x.op == 7 || x.op == 8) && x.n != 0 || x.op != 8 && x.d != 0)) (@bl (x.op) (ar x))) (.c hc0 (.c hc1 (.c hc2 (.c hc3 (.c hc4 (.c hc5 (.c hc6 (.c hc7 (.c hc8 (.c (@th (x.n) (x.d) ?_ ?_ (ar x)) .n))))))))))) rfl rfl h) (by (simp_all [AB, ac, cH, AA])) (by rfl) <;> (first | assumption | exact hx.1 | exact hx.2 | rfl)
        ·exact zk (zm (d := bool (decide (x.n ≥ 0) && decide (x.n ≤ 10000))) pok [.val (bool (cH x.op)), .b false, .b false, .b false, .b false, .b false, .b false, .b false, .b true] (by kernel_rfl) (.c (gd (!(!(x.op == 5 || x.op == 6 || x.op == 9) && x.c != 0 || !(x.op == 3 || x.op == 5 || x.op == 6 || x.op == 7 || x.op == 8) && x.n != 0 || x.op != 8 && x.d != 0)) (@bl (x.op) (ar x))) (.c hc0 (.c hc1 (.c hc2 (.c hc3 (.c hc4 (.c hc5 (.c hc6 (.c hc7 .n))))))))) rfl rfl h) (by (simp_all [AB, ac, cH, inB, AA])) (by rfl)
       ·exact zk (zm (d := bool (vg x.c && decide (x.n ≥ 1) && decide (x.n ≤ 100))) pok [.val (bool (cH x.op)), .b false, .b false, .b false, .b false, .b false, .b false, .b true, .val (bool (vg x.c))] (by kernel_rfl) (.c (gd (!(!(x.op == 5 || x.op == 6 || x.op == 9) && x.c != 0 || !(x.op == 3 || x.op == 5 || x.op == 6 || x.op == 7 || x.op == 8) && x.n != 0 || x.op != 8 && x.d != 0)) (@bl (x.op) (ar x))) (.c hc0 (.c hc1 (.c hc2 (.c hc3 (.c hc4 (.c hc5 (.c hc6 (.c (@fh (x.c) (ar x)) .n))))))))) rfl rfl h) (by (simp_all [AB, ac, oK, cH, inB, AA])) (by rfl)
      ·exact zk (zm (d := bool (vg x.c && decide (x.n ≥ 0) && decide (x.n ≤ 12))) pok [.val (bool (cH x.op)), .b false, .b false, .b false, .b false, .b false, .b true, .val (bool (vg x.c))] (by kernel_rfl) (.c (gd (!(!(x.op == 5 || x.op == 6 || x.op == 9) && x.c != 0 || !(x.op == 3 || x.op == 5 || x.op == 6 || x.op == 7 || x.op == 8) && x.n != 0 || x.op != 8 && x.d != 0)) (@bl (x.op) (ar x))) (.c hc0 (.c hc1 (.c hc2 (.c hc3 (.c hc4 (.c hc5 (.c (@fh (x.c) (ar x)) .n)))))))) rfl rfl h) (by (simp_all [AB, ac, oK, cH, inB, AA])) (by rfl)
     ·exact zk (zm (d := bool ((↑(List.length x.ks) : Int) == 1)) pok [.val (bool (cH x.op)), .b false, .b false, .b false, .b false, .b true] (by kernel_rfl) (.c (gd (!(!(x.op == 5 || x.op == 6 || x.op == 9) && x.c != 0 || !(x.op == 3 || x.op == 5 || x.op == 6 || x.op == 7 || x.op == 8) && x.n != 0 || x.op != 8 && x.d != 0)) (@bl (x.op) (ar x))) (.c hc0 (.c hc1 (.c hc2 (.c hc3 (.c hc4 .n)))))) rfl rfl h) (by (simp_all [AB, ac, cH, AA])) (by rfl)
    ·exact zk (zm (d := bool (decide (x.n ≥ 0) && decide (x.n ≤ 200))) pok [.val (bool (cH x.op)), .b false, .b false, .b false, .b true] (by kernel_rfl) (.c (gd (!(!(x.op == 5 || x.op == 6 || x.op == 9) && x.c != 0 || !(x.op == 3 || x.op == 5 || x.op == 6 || x.op == 7 || x.op == 8) && x.n != 0 || x.op != 8 && x.d != 0)) (@bl (x.op) (ar x))) (.c hc0 (.c hc1 (.c hc2 (.c hc3 .n))))) rfl rfl h) (by (simp_all [AB, ac, cH, inB, AA])) (by rfl)
   ·exact zk (zm (d := bool true) pok [.val (bool (cH x.op)), .b false, .b false, .b true] (by kernel_rfl) (.c (gd (!(!(x.op == 5 || x.op == 6 || x.op == 9) && x.c != 0 || !(x.op == 3 || x.op == 5 || x.op == 6 || x.op == 7 || x.op == 8) && x.n != 0 || x.op != 8 && x.d != 0)) (@bl (x.op) (ar x))) (.c hc0 (.c hc1 (.c hc2 .n)))) rfl rfl h) (by (simp_all [AB, ac, cH, AA])) (by rfl)
  ·exact zk (zm (d := bool true) pok [.val (bool (cH x.op)), .b false, .b true, .b true] (by kernel_rfl) (.c (gd (!(!(x.op == 5 || x.op == 6 || x.op == 9) && x.c != 0 || !(x.op == 3 || x.op == 5 || x.op == 6 || x.op == 7 || x.op == 8) && x.n != 0 || x.op != 8 && x.d != 0)) (@bl (x.op) (ar x))) (.c hc0 (.c hc1 (.c hc1 .n)))) rfl rfl h) (by (simp_all [AB, ac, cH, AA])) (by rfl)
 ·exact zk (zm (d := bool false) pok [.val (bool (cH x.op)), .b true] (by kernel_rfl) (.c (gd (!(!(x.op == 5 || x.op == 6 || x.op == 9) && x.c != 0 || !(x.op == 3 || x.op == 5 || x.op == 6 || x.op == 7 || x.op == 8) && x.n != 0 || x.op != 8 && x.d != 0)) (@bl (x.op) (ar x))) (.c hc0 .n)) rfl rfl h) (by (simp_all [AB, ac, cH, AA])) (by rfl)
end Go.Vi
open Go Go.Proofs
namespace Go.Vi
set_option maxRecDepth 100000
set_option maxHeartbeats 4000000
mutual
def RuleT.size : RuleT → Nat
 | .mk _ _ _ _ _ ks => 1 + sizeL ks
def sizeL : List RuleT → Nat
 | [] => 0
 | k :: ks => k.size + sizeL ks
end
mutual
def RuleT.dep : RuleT → Nat
 | .mk _ _ _ _ _ ks => depL ks + 1
def depL : List RuleT → Nat
 | [] => 0
 | k :: ks => max k.dep (depL ks)
end
mutual
def RuleT.allF : RuleT → Bool
 | .mk op c _ n d ks => bif ac op c n d ks.length then rM ks else false
def rM : List RuleT → Bool
 | [] => true
 | k :: ks => bif k.allF then rM ks else false
end
mutual
theorem RuleT.dep_size : ∀ r : RuleT, r.dep ≤ r.size
 | .mk _ _ _ _ _ ks => by simp only [RuleT.dep, RuleT.size]; have := jG ks; omega
theorem jG : ∀ ks : List RuleT, depL ks ≤ sizeL ks
 | [] => by simp [depL, sizeL]
 | k :: ks => by simp only [depL, sizeL]; have := RuleT.dep_size k; have := jG ks; omega
end
theorem eP : ∀ {ks : List RuleT}, ∀ k ∈ ks, k.size ≤ sizeL ks
 | a :: ks, k, hk => by
  simp only [sizeL]
  rcases List.mem_cons.1 hk with rfl | hk
  ·omega
  ·have := eP k hk; omega
abbrev paS (x : RuF) (acc i : Int) : AS := { t := mkT 21 0 [(1, .ref (.ptr 0 0)), (3, int acc), (4, int i)], h := [.var x.l], m := [] }
abbrev paE (x : RuF) (acc : Int) : AS := { t := mkT 21 0 [(3, int acc)], h := [.var x.l], m := [] }
noncomputable abbrev kY (x : RuF) : List Blk := [.var [int x.op, int x.c, ai x.nm, int x.n, int x.d, aa x.ks]]
theorem x7 {x : RuF} {acc p : Int} {i : Nat} {y : RuF} (hr : aj (i : Int) x.ks y.row 6) (hlt : decide ((i : Int) < (x.ks.length : Int)) = true) (hw : zb.wrap ((i : Int) + 1) = ((i + 1 : Nat) : Int))
  (hk : ∀ h, Ev y6 Γ0 215 [.agg y.l] h (int p) h) : (CW y6 Γ0 [] false (sub Dt 0) (paS x acc i) .normal (paS x (zb.wrap (acc + p)) ((i + 1 : Nat) : Int))) := by
 refine zt (zu (s' := { t := mkT 21 0 [(1, .ref (.ptr 0 0)), (3, int (zg zb (acc + p))), (4, int (zg zb ((↑i : Int) + 1)))], h := (kY x), m := [] }) (e := zr) pok [.st (.mask [1, 3, 4])] [.b true, .row [vi y.op, vi y.c, vs y.nm, vi y.n, vi y.d, Dp.sl y.ks], .val (int p)] (by kernel_rfl) (.c hlt (.c hr (.c (@hk (kY x)) .n)))) ?_ ?_ <;> (first | rfl | (rw [hw]; rfl))
theorem x8 {x : RuF} {acc : Int} {i : Nat} (hlt : decide ((i : Int) < (x.ks.length : Int)) = false) : (CW y6 Γ0 [] false (sub Dt 0) (paS x acc i) (.exit 0) (paE x acc)) := by
 exact zt (zu (s' := { t := mkT 21 0 [(3, int acc)], h := [.var [int x.op, int x.c, ai x.nm, int x.n, int x.d, aa x.ks]], m := [] }) (e := zQ 0) pok [.st (.mask [3])] [.b false] (by kernel_rfl) (.c hlt .n)) (by rfl) (by rfl)
abbrev paF (k : RuleT) (a : Int) : Int ⊕ Empty := .inl (zb.wrap (a + (k.size : Int)))
theorem ti : ∀ (ks : List RuleT) (a : Nat), a + sizeL ks ≤ 1048576 → bp paF ks (a : Int) = .inl ((a + sizeL ks : Nat) : Int)
 | [], a, _ => by simp [bp, sizeL]
 | k :: ks, a, h => by
  simp only [sizeL] at h
  simp only [bp]
  have hw : zb.wrap ((a : Int) + (k.size : Int)) = ((a + k.size : Nat) : Int) := by rw [wrap_i64 (by omega) (by omega)]; omega
  rw [hw, ti ks (a + k.size) (by omega)]
  simp only [sizeL, Nat.add_assoc]
theorem pa_cw {x : RuF} {ks : List RuleT} (hx : x.ks = ks.map BC) (hl : ak ks) (hs : 1 + sizeL ks ≤ 1048576) (hk : ∀ k ∈ ks, ∀ h, Ev y6 Γ0 215 [.agg k.fl.l] h (int k.size) h) :
  CW y6 Γ0 [] false (.loop (sub Dt 0)) (paS x 1 0) (.exit 0) (paE x ((1 + sizeL ks : Nat) : Int)) := by
 have key := Cz (P := y6) (Γ := Γ0) (h0 := []) (rd := false) (c := sub Dt 0) ks paF (fun i (a : Int) => paS x a (i : Int)) (.exit 0) (fun a => paE x a) (fun e : Empty => e.elim) (fun _ _ => True) (by simp) (fun e => e.elim) ?_ ?_ 1 trivial
 ·rw [show (1 : Int) = ((1 : Nat) : Int) from rfl, ti ks 1 hs] at key
  exact key
 ·intro i k a hki _
  have hi := (zc.1 hki).1
  have hr : aj (i : Int) x.ks k.fl.row 6 := by rw [hx, k.fl_row]; exact rowAt hki (by cases k; rfl)
  have hlt : decide ((i : Int) < (x.ks.length : Int)) = true := by rw [hx]; exact lt_len _ hi
  exact ⟨fun _ _ => trivial, x7 hr hlt (wrap_succ hi hl) (hk k (zL hki))⟩
 ·intro a _
  exact x8 (by rw [hx]; exact bN _ ks)
theorem x9 {x : RuF} {ks : List RuleT} (hx : x.ks = ks.map BC) (hl : ak ks) (hs : 1 + sizeL ks ≤ 1048576) (hk : ∀ k ∈ ks, ∀ h, Ev y6 Γ0 215 [.agg k.fl.l] h (int k.size) h) (h : List Blk) : (Ev y6 Γ0 215 [.agg x.l] h (int ((1 + sizeL ks : Nat) : Int)) h) := by
 have hl0 := (@pa_cw (x) (ks) (hx) (hl) (hs) (hk))
 exact zk (zm (d := int (↑(1 + sizeL ks) : Int)) pok [.sum [1, 3, 4] (zQ 0) { t := mkT 21 0 [(3, int (↑(1 + sizeL ks) : Int))], h := [.var [int x.op, int x.c, ai x.nm, int x.n, int x.d, aa x.ks]], m := [] }] (by kernel_rfl) (.c hl0 .n) rfl rfl h) (by rfl) (by rfl)
abbrev deS (x : RuF) (acc i : Int) : AS := { t := mkT 22 0 [(1, .ref (.ptr 0 0)), (3, int acc), (4, int i)], h := [.var x.l], m := [] }
abbrev deE (x : RuF) (acc : Int) : AS := { t := mkT 22 0 [(3, int acc)], h := [.var x.l], m := [] }
noncomputable abbrev kZ (x : RuF) : List Blk := [.var [int x.op, int x.c, ai x.nm, int x.n, int x.d, aa x.ks]]
theorem yb {x : RuF} {acc p : Int} {i : Nat} {y : RuF} (hr : aj (i : Int) x.ks y.row 6) (hlt : decide ((i : Int) < (x.ks.length : Int)) = true) (hw : zb.wrap ((i : Int) + 1) = ((i + 1 : Nat) : Int))
  (hk : ∀ h, Ev y6 Γ0 216 [.agg y.l] h (int p) h) : (CW y6 Γ0 [] false (sub Du 0) (deS x acc i) .normal (deS x (if p > acc then p else acc) ((i + 1 : Nat) : Int))) := by
 refine zt (zu (s' := { t := mkT 22 0 [(1, .ref (.ptr 0 0)), (3, int (if true = true then if p > acc then p else acc else if p < acc then p else acc)), (4, int (zg zb ((↑i : Int) + 1)))], h := (kZ x), m := [] }) (e := zr) pok [.st (.mask [1, 3, 4])] [.b true, .row [vi y.op, vi y.c, vs y.nm, vi y.n, vi y.d, Dp.sl y.ks], .val (int p)] (by kernel_rfl) (.c hlt (.c hr (.c (@hk (kZ x)) .n)))) ?_ ?_ <;> (first | rfl | (rw [hw]; rfl) | (simp only [hw, if_true]; rfl))
theorem yc {x : RuF} {acc : Int} {i : Nat} (hlt : decide ((i : Int) < (x.ks.length : Int)) = false) : (CW y6 Γ0 [] false (sub Du 0) (deS x acc i) (.exit 0) (deE x acc)) := by
 exact zt (zu (s' := { t := mkT 22 0 [(3, int acc)], h := [.var [int x.op, int x.c, ai x.nm, int x.n, int x.d, aa x.ks]], m := [] }) (e := zQ 0) pok [.st (.mask [3])] [.b false] (by kernel_rfl) (.c hlt .n)) (by rfl) (by rfl)
abbrev deF (k : RuleT) (a : Int) : Int ⊕ Empty := .inl (if (k.dep : Int) > a then (k.dep : Int) else a)
theorem tj : ∀ (ks : List RuleT) (a : Nat), bp deF ks (a : Int) = .inl ((max a (depL ks) : Nat) : Int)
 | [], a => by simp [bp, depL]
 | k :: ks, a => by
  simp only [bp]
  have hw : (if (k.dep : Int) > (a : Int) then (k.dep : Int) else (a : Int)) = ((max a k.dep : Nat) : Int) := by split <;> omega
  rw [hw, tj ks (max a k.dep)]
  simp only [depL]
  congr 2
  omega
theorem de_cw {x : RuF} {ks : List RuleT} (hx : x.ks = ks.map BC) (hl : ak ks) (hk : ∀ k ∈ ks, ∀ h, Ev y6 Γ0 216 [.agg k.fl.l] h (int k.dep) h) :
  CW y6 Γ0 [] false (.loop (sub Du 0)) (deS x 0 0) (.exit 0) (deE x ((depL ks : Nat) : Int)) := by
 have key := Cz (P := y6) (Γ := Γ0) (h0 := []) (rd := false) (c := sub Du 0) ks deF (fun i (a : Int) => deS x a (i : Int)) (.exit 0) (fun a => deE x a) (fun e : Empty => e.elim) (fun _ _ => True) (by simp) (fun e => e.elim) ?_ ?_ 0 trivial
 ·rw [show (0 : Int) = ((0 : Nat) : Int) from rfl, tj ks 0, Nat.zero_max] at key
  exact key
 ·intro i k a hki _
  have hi := (zc.1 hki).1
  have hr : aj (i : Int) x.ks k.fl.row 6 := by rw [hx, k.fl_row]; exact rowAt hki (by cases k; rfl)
  have hlt : decide ((i : Int) < (x.ks.length : Int)) = true := by rw [hx]; exact lt_len _ hi
  exact ⟨fun _ _ => trivial, yb hr hlt (wrap_succ hi hl) (hk k (zL hki))⟩
 ·intro a _
  exact yc (by rw [hx]; exact bN _ ks)
theorem yd {x : RuF} {ks : List RuleT} (hx : x.ks = ks.map BC) (hl : ak ks) (hw : zb.wrap (((depL ks : Nat) : Int) + 1) = ((depL ks + 1 : Nat) : Int)) (hk : ∀ k ∈ ks, ∀ h, Ev y6 Γ0 216 [.agg k.fl.l] h (int k.dep) h) (h : List Blk) : (Ev y6 Γ0 216 [.agg x.l] h (int ((depL ks + 1 : Nat) : Int)) h) := by
 have hl0 := (@de_cw (x) (ks) (hx) (hl) (hk))
 exact zk (zm (d := int (zg zb ((↑(depL ks) : Int) + 1))) pok [.sum [1, 3, 4] (zQ 0) { t := mkT 22 0 [(3, int (↑(depL ks) : Int))], h := [.var [int x.op, int x.c, ai x.nm, int x.n, int x.d, aa x.ks]], m := [] }] (by kernel_rfl) (.c hl0 .n) rfl rfl h) (by first | rfl | (rw [hw])) (by rfl)
abbrev afS (x : RuF) (i : Int) : AS := { t := mkT 21 0 [(1, .ref (.ptr 0 0)), (2, bool false), (3, int i)], h := [.var x.l], m := [] }
abbrev afE : AS := { t := mkT 21 0 [(2, bool false)], h := [], m := [] }
abbrev afX : Unit → Exit × AS := fun _ => (.ret, afE)
def afF (k : RuleT) (_ : Unit) : Unit ⊕ Unit := bif k.allF then .inl () else .inr ()
noncomputable abbrev la (x : RuF) : List Blk := [.var [int x.op, int x.c, ai x.nm, int x.n, int x.d, aa x.ks]]
theorem ye {x : RuF} {b : Bool} {i : Nat} {y : RuF} (hr : aj (i : Int) x.ks y.row 6) (hlt : decide ((i : Int) < (x.ks.length : Int)) = true) (hw : zb.wrap ((i : Int) + 1) = ((i + 1 : Nat) : Int))
  (hb : (!b) = false) (hk : ∀ h, Ev y6 Γ0 217 [.agg y.l] h (bool b) h) : (CW y6 Γ0 [] false (sub CM 0) (afS x i) .normal (afS x ((i + 1 : Nat) : Int))) := by
 refine zt (zu (s' := { t := mkT 21 0 [(1, .ref (.ptr 0 0)), (2, bool false), (3, int (zg zb ((↑i : Int) + 1)))], h := (la x), m := [] }) (e := zr) pok [.st (.mask [1, 2, 3])] [.b true, .row [vi y.op, vi y.c, vs y.nm, vi y.n, vi y.d, Dp.sl y.ks], .val (bool b), .b false] (by kernel_rfl) (.c hlt (.c hr (.c (@hk (la x)) (.c hb .n))))) ?_ ?_ <;> (first | rfl | (rw [hw]; rfl))
noncomputable abbrev oL (x : RuF) : List Blk := [.var [int x.op, int x.c, ai x.nm, int x.n, int x.d, aa x.ks]]
theorem vj {x : RuF} {b : Bool} {i : Nat} {y : RuF} (hr : aj (i : Int) x.ks y.row 6) (hlt : decide ((i : Int) < (x.ks.length : Int)) = true)
  (hb : (!b) = true) (hk : ∀ h, Ev y6 Γ0 217 [.agg y.l] h (bool b) h) : (CW y6 Γ0 [] false (sub CM 0) (afS x i) .ret afE) := by
 exact zt (zu (s' := { t := mkT 21 0 [(2, bool false)], h := [], m := [] }) (e := Ai) pok [.st (.mask [2]), .st (.trim 0)] [.b true, .row [vi y.op, vi y.c, vs y.nm, vi y.n, vi y.d, Dp.sl y.ks], .val (bool b), .b true] (by kernel_rfl) (.c hlt (.c hr (.c (@hk (oL x)) (.c hb .n))))) (by rfl) (by rfl)
theorem yf {x : RuF} {i : Nat} (hlt : decide ((i : Int) < (x.ks.length : Int)) = false) : (CW y6 Γ0 [] false (sub CM 0) (afS x i) (.exit 0) afE) := by
 exact zt (zu (s' := { t := mkT 21 0 [(2, bool false)], h := [], m := [] }) (e := zQ 0) pok [.st (.mask [2]), .st (.trim 0)] [.b false] (by kernel_rfl) (.c hlt .n)) (by rfl) (by rfl)
theorem oM : ∀ ks : List RuleT, bp afF ks () = bif rM ks then .inl () else .inr ()
 | [] => rfl
 | k :: ks => by
  simp only [bp, afF, rM]
  cases k.allF
  ·rfl
  ·simp only [cond_true]; exact oM ks
def yg (ks : List RuleT) : Exit × AS := bI (.exit 0) (fun _ : Unit => afE) afX (bp afF ks ())
theorem tk {ks : List RuleT} {u : Unit} (h : bp afF ks () = .inl u) : rM ks = true := by
 rw [oM] at h; cases hb : rM ks <;> rw [hb] at h <;> simp at h ⊢
theorem tl {ks : List RuleT} {u : Unit} (h : bp afF ks () = .inr u) : rM ks = false := by
 rw [oM] at h; cases hb : rM ks <;> rw [hb] at h <;> simp at h ⊢
theorem af_cw {x : RuF} {ks : List RuleT} (hx : x.ks = ks.map BC) (hl : ak ks) (hk : ∀ k ∈ ks, ∀ h, Ev y6 Γ0 217 [.agg k.fl.l] h (bool k.allF) h) :
  CW y6 Γ0 [] false (.loop (sub CM 0)) (afS x 0) (yg ks).1 (yg ks).2 := by
 have key := Cz (P := y6) (Γ := Γ0) (h0 := []) (rd := false) (c := sub CM 0) ks afF (fun i (_ : Unit) => afS x (i : Int)) (.exit 0) (fun _ => afE) afX (fun _ _ => True) (by simp) (fun _ => by simp []) ?_ ?_ () trivial
 ·exact key
 ·intro i k _ hki _
  have hi := (zc.1 hki).1
  have hr : aj (i : Int) x.ks k.fl.row 6 := by rw [hx, k.fl_row]; exact rowAt hki (by cases k; rfl)
  have hlt : decide ((i : Int) < (x.ks.length : Int)) = true := by rw [hx]; exact lt_len _ hi
  refine ⟨fun _ _ => trivial, ?_⟩
  have hk' := hk k (zL hki)
  unfold afF
  cases hb : k.allF
  ·rw [hb] at hk'
   exact vj hr hlt rfl hk'
  ·rw [hb] at hk'
   exact ye hr hlt (wrap_succ hi hl) rfl hk'
 ·intro _ _
  exact yf (by rw [hx]; exact bN _ ks)
noncomputable abbrev allF_a_x0 (x : RuF) : List D := [D.agg [int x.op, int x.c, ai x.nm, int x.n, int x.d, aa x.ks]]
noncomputable abbrev jH (x : RuF) : List Blk := [.var [int x.op, int x.c, ai x.nm, int x.n, int x.d, aa x.ks]]
theorem allF_a {x : RuF} (hok : x.ok) {ks : List RuleT} (hx : x.ks = ks.map BC) (hl : ak ks) (hk : ∀ k ∈ ks, ∀ h, Ev y6 Γ0 217 [.agg k.fl.l] h (bool k.allF) h) (h : List Blk) : (Ev y6 Γ0 217 [.agg x.l] h (bool (bif x.formed then rM ks else false)) h) := by
 cases hc0 : !AB x
 ·have hl1 := (@af_cw (x) (ks) (hx) (hl) (hk))
  unfold yg at hl1
  revert hl1
  cases ho2 : bp afF ks () with
  | inl o2_0_0 =>
   intro hl1
   exact zk (zm (d := bool true) pok [.val (bool (AB x)), .b false, .sum [1, 2, 3] (zQ 0) { t := mkT 21 0 [(2, bool false)], h := [], m := [] }] (by kernel_rfl) (.c (@fj x hok (jH x)) (.c hc0 (.c hl1 .n))) rfl rfl h) (by first | (have e := tk (by assumption); simp_all; done) | (have e := tl (by assumption); simp_all; done) | (simp_all; done)) (by rfl)
  | inr o2_1_0 =>
   intro hl1
   exact zk (zm (d := bool false) pok [.val (bool (AB x)), .b false, .sum [1, 2, 3] (Ai) { t := mkT 21 0 [(2, bool false)], h := [], m := [] }] (by kernel_rfl) (.c (@fj x hok (jH x)) (.c hc0 (.c hl1 .n))) rfl rfl h) (by first | (have e := tk (by assumption); simp_all; done) | (have e := tl (by assumption); simp_all; done) | (simp_all; done)) (by rfl)
 ·exact zk (zm (d := bool false) pok [.val (bool (AB x)), .b true] (by kernel_rfl) (.c (@fj x hok (jH x)) (.c hc0 .n)) rfl rfl h) (by first | (have e := tk (by assumption); simp_all; done) | (have e := tl (by assumption); simp_all; done) | (simp_all; done)) (by rfl)
end Go.Vi
open Go Go.Proofs
namespace Go.Vi
set_option maxRecDepth 100000
set_option maxHeartbeats 4000000
theorem cz : ∀ ks : List RuleT, cq ks = ks.map BC
 | [] => rfl
 | k :: ks => by simp only [cq, List.map_cons, cz ks]
theorem md (r : RuleT) : 1 ≤ r.size := by cases r; simp only [RuleT.size]; omega
theorem tm : ∀ (n : Nat) (r : RuleT), r.size ≤ n → r.ok → r.size ≤ 1048576 → ∀ h, Ev y6 Γ0 215 [.agg r.fl.l] h (int (r.size : Nat)) h
 | 0, r, hn, _, _ => by have := md r; omega
 | n + 1, .mk op c nm a d ks, hn, hok, hs => fun h => by
  simp only [DM] at hok
  simp only [RuleT.size] at hn hs ⊢
  exact x9 (x := (BL op c nm a d ks).fl) (ks := ks) (cz ks) hok.1.2.2.2.2 hs (fun k hk => tm n k (by have := eP k hk; omega) (c7 hok.2 k hk) (by have := eP k hk; omega)) h
theorem tn : ∀ (n : Nat) (r : RuleT), r.size ≤ n → r.ok → r.size ≤ 1048576 → ∀ h, Ev y6 Γ0 216 [.agg r.fl.l] h (int (r.dep : Nat)) h
 | 0, r, hn, _, _ => by have := md r; omega
 | n + 1, .mk op c nm a d ks, hn, hok, hs => fun h => by
  simp only [DM] at hok
  simp only [RuleT.size] at hn hs
  simp only [RuleT.dep]
  have := jG ks
  exact yd (x := (BL op c nm a d ks).fl) (ks := ks) (cz ks) hok.1.2.2.2.2 (by rw [wrap_i64 (by omega) (by omega)]; omega) (fun k hk => tn n k (by have := eP k hk; omega) (c7 hok.2 k hk) (by have := eP k hk; omega)) h
theorem vk (ks : List RuleT) : (cq ks).length = ks.length := by rw [cz, List.length_map]
theorem wG : ∀ (n : Nat) (r : RuleT), r.size ≤ n → r.ok → ∀ h, Ev y6 Γ0 217 [.agg r.fl.l] h (bool r.allF) h
 | 0, r, hn, _ => by have := md r; omega
 | n + 1, .mk op c nm a d ks, hn, hok => fun h => by
  have hfl := RuleT.fl_ok hok
  simp only [DM] at hok
  simp only [RuleT.size] at hn
  have := allF_a (x := (BL op c nm a d ks).fl) hfl (ks := ks) (cz ks) hok.1.2.2.2.2 (fun k hk => wG n k (by have := eP k hk; omega) (c7 hok.2 k hk)) h
  have e : (BL op c nm a d ks).fl.formed = ac op c a d ks.length := by
   simp only [RuleT.fl, AB, vk]
  rw [e] at this
  exact this
def yh (p d : Int) (a : Bool) : Bool := decide (p > 200) || decide (d > 16) || !a
noncomputable abbrev wH (x : RuF) : List D := [D.agg [int x.op, int x.c, ai x.nm, int x.n, int x.d, aa x.ks]]
noncomputable abbrev bO (x : RuF) : List Blk := [.var [int x.op, int x.c, ai x.nm, int x.n, int x.d, aa x.ks]]
theorem tp {x : RuF} {p d : Int} {a : Bool} (hp : ∀ h, Ev y6 Γ0 215 [.agg x.l] h (int p) h) (hd : ∀ h, Ev y6 Γ0 216 [.agg x.l] h (int d) h) (ha : ∀ h, Ev y6 Γ0 217 [.agg x.l] h (bool a) h) (h : List Blk) : (Ev y6 Γ0 177 [.agg x.l] h (int (bf (yh p d a))) h) := by
 cases hc0 : decide (p > 200) || decide (d > 16) || !a
 ·exact zk (zm (d := int 0) pok [.val (int p), .val (int d), .val (bool a), .b false] (by kernel_rfl) (.c (@hp (bO x)) (.c (gd (!decide (p > 200)) (@hd (bO x))) (.c (gd (!(decide (p > 200) || decide (d > 16))) (@ha (bO x))) (.c hc0 .n)))) rfl rfl h) (by first | (have hh : yh p d a = true := hc0; rw [hh]; rfl) | (have hh : yh p d a = false := hc0; rw [hh]; rfl)) (by rfl)
 ·exact zk (zm (d := int 120) pok [.val (int p), .val (int d), .val (bool a), .b true] (by kernel_rfl) (.c (@hp (bO x)) (.c (gd (!decide (p > 200)) (@hd (bO x))) (.c (gd (!(decide (p > 200) || decide (d > 16))) (@ha (bO x))) (.c hc0 .n)))) rfl rfl h) (by first | (have hh : yh p d a = true := hc0; rw [hh]; rfl) | (have hh : yh p d a = false := hc0; rw [hh]; rfl)) (by rfl)
def tq (m dep : Int) (r : RuleT) : Prop := m + (r.size : Int) ≤ 200 ∧ dep + (r.dep : Int) ≤ 17 ∧ r.allF = true
def rf (m dep : Int) (ks : List RuleT) : Prop := m + (sizeL ks : Int) ≤ 200 ∧ dep + (depL ks : Int) ≤ 17 ∧ rM ks = true
mutual
theorem nK : ∀ (r : RuleT) (dep m : Int), 0 ≤ m → m + (r.size : Int) ≤ 10000000 → 0 ≤ dep → dep + (r.dep : Int) ≤ 10000001 → (tq m dep r → r.walk dep m = (m + (r.size : Int), false)) ∧ (¬ tq m dep r → (r.walk dep m).2 = true)
 | .mk op c nm a d ks, dep, m, h1, h2, h3, h4 => by
  have e1 : zb.wrap (m + 1) = m + 1 := wrap_i64 (by omega) (by omega)
  have e2 : zb.wrap (dep + 1) = dep + 1 := wrap_i64 (by omega) (by omega)
  simp only [RuleT.size, RuleT.dep] at h2 h4
  have ih := lb ks (dep + 1) (m + 1) (by omega) (by omega) (by omega) (by omega)
  simp only [Ed, e1, e2]
  unfold tq
  simp only [RuleT.size, RuleT.dep, RuleT.allF]
  cases hst : fW (m + 1) dep (ac op c a d ks.length) with
  | true =>
   simp only
   refine ⟨fun hg => ?_, fun _ => trivial⟩
   obtain ⟨g1, g2, g3⟩ := hg
   unfold fW at hst
   cases hf : ac op c a d ks.length
   ·rw [hf] at g3; simp at g3
   ·rw [hf] at hst
    simp at hst
    omega
  | false =>
   simp only
   unfold fW at hst
   simp only [A4, decide_eq_false_iff_not, CU] at hst
   obtain ⟨⟨s1, s2⟩, s3⟩ := hst
   rw [s3]
   simp only [cond_true]
   obtain ⟨i1, i2⟩ := ih (by omega) (by omega)
   unfold rf at i1 i2
   refine ⟨fun hg => ?_, fun hg => ?_⟩
   ·rw [i1 ⟨by omega, by omega, hg.2.2⟩]
    have : m + 1 + (sizeL ks : Int) = m + ((1 + sizeL ks : Nat) : Int) := by omega
    rw [this]
   ·exact i2 fun hl => hg ⟨by omega, by omega, hl.2.2⟩
theorem lb : ∀ (ks : List RuleT) (dep m : Int), 0 ≤ m → m + (sizeL ks : Int) ≤ 10000000 → 0 ≤ dep → dep + (depL ks : Int) ≤ 10000001 → m ≤ 200 → dep ≤ 17 → (rf m dep ks → walkL ks dep m = (m + (sizeL ks : Int), false)) ∧ (¬ rf m dep ks → (walkL ks dep m).2 = true)
 | [], dep, m, h1, h2, h3, h4, h5, h6 => by
  unfold rf
  simp only [sizeL, depL, rM, walkL]
  refine ⟨fun _ => by simp, fun hg => (hg ⟨by simp; omega, by simp; omega, by trivial⟩).elim⟩
 | k :: ks, dep, m, h1, h2, h3, h4, h5, h6 => by
  simp only [sizeL, depL] at h2 h4
  obtain ⟨a1, a2⟩ := nK k dep m h1 (by omega) h3 (by omega)
  unfold rf
  simp only [sizeL, depL, rM, walkL]
  by_cases hg : tq m dep k
  ·rw [a1 hg]
   simp only
   obtain ⟨g1, g2, g3⟩ := hg
   obtain ⟨b1, b2⟩ := lb ks dep (m + (k.size : Int)) (by omega) (by omega) h3 (by omega) (by omega) h6
   unfold rf at b1 b2
   rw [g3]
   simp only [cond_true]
   refine ⟨fun hh => ?_, fun hh => ?_⟩
   ·rw [b1 ⟨by omega, by omega, hh.2.2⟩]
    have : m + (k.size : Int) + (sizeL ks : Int) = m + ((k.size + sizeL ks : Nat) : Int) := by omega
    rw [this]
   ·exact b2 fun hl => hh ⟨by omega, by omega, hl.2.2⟩
  ·have ha := a2 hg
   cases hw : k.walk dep m with
   | mk m' b =>
    rw [hw] at ha
    simp only at ha
    subst ha
    simp only
    refine ⟨fun hh => (hg ?_).elim, fun _ => trivial⟩
    obtain ⟨g1, g2, g3⟩ := hh
    cases hk : k.allF
    ·rw [hk] at g3; simp at g3
    ·exact ⟨by omega, by omega, hk⟩
end
theorem vn {r : RuleT} (hs : r.size ≤ 1048576) : r.bad = yh (r.size : Nat) (r.dep : Nat) r.allF := by
 have hd := RuleT.dep_size r
 obtain ⟨h1, h2⟩ := nK r 1 0 (by omega) (by omega) (by omega) (by omega)
 unfold RuleT.bad yh
 by_cases hg : tq 0 1 r
 ·rw [h1 hg]
  obtain ⟨g1, g2, g3⟩ := hg
  rw [g3]
  have e1 : decide (((r.size : Nat) : Int) > 200) = false := decide_eq_false (by omega)
  have e2 : decide (((r.dep : Nat) : Int) > 16) = false := decide_eq_false (by omega)
  rw [e1, e2]; rfl
 ·rw [h2 hg]
  cases hb : (decide (((r.size : Nat) : Int) > 200) || decide (((r.dep : Nat) : Int) > 16) || !r.allF)
  ·simp only [A4, decide_eq_false_iff_not, CU] at hb
   exact (hg ⟨by omega, by omega, hb.2⟩).elim
  ·rfl
theorem lg {r : RuleT} (hr : r.ok) (hs : r.size ≤ 1048576) (h : List Blk) : Ev y6 Γ0 177 [.agg r.fl.l] h (int (bf r.bad)) h := by
 rw [vn hs]
 exact tp (tm _ r (zw _) hr hs) (tn _ r (zw _) hr hs) (wG _ r (zw _) hr) h
end Go.Vi
open Go Go.Proofs
namespace Go.Vi
set_option maxRecDepth 100000
set_option maxHeartbeats 4000000
end Go.Vi
open Go Go.Proofs
namespace Go.Vi
set_option maxRecDepth 100000
set_option maxHeartbeats 4000000
def befB (a b : FactT) : Bool := decide (a.known < b.known) || (a.known == b.known && decide (a.no < b.no))
theorem nL {a b : FactT} (h : List Blk) : (Ev y6 Γ0 135 [ag a.row, ag b.row] h (bool (befB a b)) h) := by
 exact zk (zm (d := bool (decide (a.known < b.known) || a.known == b.known && decide (a.no < b.no))) pok [] (by kernel_rfl) .n rfl rfl h) (by rfl) (by rfl)
end Go.Vi
open Go Go.Proofs
namespace Go.Vi
set_option maxRecDepth 100000
set_option maxHeartbeats 4000000
def eU (kk ks ko term known : Int) (f : FactT) : Bool := keyIs kk ks ko f && decide (f.frm ≤ term) && decide (term < f.til) && decide (f.known ≤ known)
abbrev a7S (kk ks ko term known : Int) (fs : List (List Dp)) (best i : Int) : AS := { t := mkT 76 0 [(0, aa fs), (2, int term), (3, int known), (5, .ref (.ptr 0 0)), (8, int 0), (9, bool false), (10, int best), (11, int i)], h := [.var [int kk, int ks, int ko]], m := [] }
theorem a7_b0 {kk ks ko term known : Int} {fs : List (List Dp)} {i : Nat} {f : FactT} (hr : aj (i : Int) fs f.row 8) (hlt : decide ((i : Int) < (fs.length : Int)) = true) (hw : zb.wrap ((i : Int) + 1) = ((i + 1 : Nat) : Int)) : (CW y6 Γ0 [] false (sub Ck 0) (a7S kk ks ko term known fs (-1) i) .normal (a7S kk ks ko term known fs (bif eU kk ks ko term known f then (i : Int) else -1) ((i + 1 : Nat) : Int))) := by
 cases hc0 : f.kind == kk && (f.sub == ks && (f.obj == ko && true))
 ·let v0 := D.p (Ba (Ah { toList := [] }))
  refine zt (zu (s' := { t := mkT 76 0 [(0, aa fs), (2, int term), (3, int known), (5, .ref (.ptr 0 0)), (8, int 0), (9, bool false), (10, int (-1)), (11, int (zg zb ((↑i : Int) + 1)))], h := [.var [int kk, int ks, int ko]], m := [] }) (e := zr) pok [.st (.mask [0, 2, 3, 5, 8, 9, 10, 11]), .st (.trim 1)] [.b true, .row [vi f.kind, vi f.sub, vi f.obj, vi f.value, vi f.frm, vi f.til, vi f.known, vi f.no], .g false, .g false, .g false, .g false, .g false, .ov 33 (bool false), .g false, .g false, .g false, .g false, .g false, .ov 40 (bool false), .g false, .g false, .g false, .g false, .ov 46 (bool false), .g false, .g false, .g false, .g false, .g false, .g false, .g false, .g false, .g false, .g false, .g false, .ov 59 (bool false), .b false] (by kernel_rfl) (.c hlt (.c hr (.c (show ((f.kind == kk && (f.sub == ks && (f.obj == ko && true))) == true) = false from (by subst v0; rw [hc0]; rfl)) (.c (show ((f.kind == kk && (f.sub == ks && (f.obj == ko && true))) == true) = false from (by subst v0; rw [hc0]; rfl)) (.c (show ((f.kind == kk && (f.sub == ks && (f.obj == ko && true))) == true) = false from (by subst v0; rw [hc0]; rfl)) (.c (show ((f.kind == kk && (f.sub == ks && (f.obj == ko && true))) == true) = false from (by subst v0; rw [hc0]; rfl)) (.c (show ((f.kind == kk && (f.sub == ks && (f.obj == ko && true))) == true) = false from (by subst v0; rw [hc0]; rfl)) (.c (show ae (bool (f.kind == kk && (f.sub == ks && (f.obj == ko && true)))) v0 (bool false) (bool false) from (am hc0 rfl)) (.c (show (false == true) = false from rfl) (.c (show (false == true) = false from rfl) (.c (show (false == true) = false from rfl) (.c (show (false == true) = false from rfl) (.c (show (false == true) = false from rfl) (.c (show ae (bool false) v0 (bool false) (bool false) from (am rfl rfl)) (.c (show (false == true) = false from rfl) (.c (show (false == true) = false from rfl) (.c (show (false == true) = false from rfl) (.c (show (false == true) = false from rfl) (.c (show ae (bool false) v0 (bool false) (bool false) from (am rfl rfl)) (.c (show (false == true) = false from rfl) (.c (show (false == true) = false from rfl) (.c (show (false == true) = false from rfl) (.c (show false = false from rfl) (.c (show false = false from rfl) (.c (show false = false from rfl) (.c (show false = false from rfl) (.c (show false = false from rfl) (.c (show false = false from rfl) (.c (show false = false from rfl) (.c (show (false == true) = false from rfl) (.c (show ae (bool false) v0 (bool false) (bool false) from (am rfl rfl)) (.c (show false = false from rfl) .n))))))))))))))))))))))))))))))))) ?_ ?_ <;> subst v0 <;> (first | rfl | (have hk : keyIs kk ks ko f = _ := hc0; simp only [eU, hk, hw, zT, cond_false]; done) | (have hk : keyIs kk ks ko f = _ := hc0; simp only [eU, hk, hw, hc0, zU, zT, Ad, AF, zX, cond_true, cond_false]; rfl))
 ·cases hc1 : decide (f.frm ≤ term)
  ·let v0 := D.p (Ba (Ah { toList := [] }))
   refine zt (zu (s' := { t := mkT 76 0 [(0, aa fs), (2, int term), (3, int known), (5, .ref (.ptr 0 0)), (8, int 0), (9, bool false), (10, int (-1)), (11, int (zg zb ((↑i : Int) + 1)))], h := [.var [int kk, int ks, int ko]], m := [] }) (e := zr) pok [.st (.mask [0, 2, 3, 5, 8, 9, 10, 11]), .st (.trim 1)] [.b true, .row [vi f.kind, vi f.sub, vi f.obj, vi f.value, vi f.frm, vi f.til, vi f.known, vi f.no], .g true, .g true, .g true, .g true, .g true, .ov 33 (bool (decide (f.frm ≤ term))), .g false, .g false, .g false, .g false, .g false, .ov 40 (bool false), .g false, .g false, .g false, .g false, .ov 46 (bool false), .g false, .g false, .g false, .g false, .g false, .g false, .g false, .g false, .g false, .g false, .g false, .ov 59 (bool false), .b false] (by kernel_rfl) (.c hlt (.c hr (.c (show ((f.kind == kk && (f.sub == ks && (f.obj == ko && true))) == true) = true from (by subst v0; rw [hc0]; rfl)) (.c (show ((f.kind == kk && (f.sub == ks && (f.obj == ko && true))) == true) = true from (by subst v0; rw [hc0]; rfl)) (.c (show ((f.kind == kk && (f.sub == ks && (f.obj == ko && true))) == true) = true from (by subst v0; rw [hc0]; rfl)) (.c (show ((f.kind == kk && (f.sub == ks && (f.obj == ko && true))) == true) = true from (by subst v0; rw [hc0]; rfl)) (.c (show ((f.kind == kk && (f.sub == ks && (f.obj == ko && true))) == true) = true from (by subst v0; rw [hc0]; rfl)) (.c (show ae (bool (f.kind == kk && (f.sub == ks && (f.obj == ko && true)))) (bool (decide (f.frm ≤ term))) (bool false) (bool (decide (f.frm ≤ term))) from (af hc0 rfl)) (.c (show (decide (f.frm ≤ term) == true) = false from (by subst v0; rw [hc1]; rfl)) (.c (show (decide (f.frm ≤ term) == true) = false from (by subst v0; rw [hc1]; rfl)) (.c (show (decide (f.frm ≤ term) == true) = false from (by subst v0; rw [hc1]; rfl)) (.c (show (decide (f.frm ≤ term) == true) = false from (by subst v0; rw [hc1]; rfl)) (.c (show (decide (f.frm ≤ term) == true) = false from (by subst v0; rw [hc1]; rfl)) (.c (show ae (bool (decide (f.frm ≤ term))) v0 (bool false) (bool false) from (am hc1 rfl)) (.c (show (false == true) = false from rfl) (.c (show (false == true) = false from rfl) (.c (show (false == true) = false from rfl) (.c (show (false == true) = false from rfl) (.c (show ae (bool false) v0 (bool false) (bool false) from (am rfl rfl)) (.c (show (false == true) = false from rfl) (.c (show (false == true) = false from rfl) (.c (show (false == true) = false from rfl) (.c (show false = false from rfl) (.c (show false = false from rfl) (.c (show false = false from rfl) (.c (show false = false from rfl) (.c (show false = false from rfl) (.c (show false = false from rfl) (.c (show false = false from rfl) (.c (show (false == true) = false from rfl) (.c (show ae (bool false) v0 (bool false) (bool false) from (am rfl rfl)) (.c (show false = false from rfl) .n))))))))))))))))))))))))))))))))) ?_ ?_ <;> subst v0 <;> (first | rfl | (have hk : keyIs kk ks ko f = _ := hc0; simp only [eU, hk, hw, hc1, zU, zT, cond_false]; done) | (have hk : keyIs kk ks ko f = _ := hc0; simp only [eU, hk, hw, hc0, hc1, zU, zT, Ad, AF, zX, cond_true, cond_false]; rfl))
  ·cases hc2 : decide (term < f.til)
   ·refine zt (zu (s' := { t := mkT 76 0 [(0, aa fs), (2, int term), (3, int known), (5, .ref (.ptr 0 0)), (8, int 0), (9, bool false), (10, int (-1)), (11, int (zg zb ((↑i : Int) + 1)))], h := [.var [int kk, int ks, int ko]], m := [] }) (e := zr) pok [.st (.mask [0, 2, 3, 5, 8, 9, 10, 11]), .st (.trim 1)] [.b true, .row [vi f.kind, vi f.sub, vi f.obj, vi f.value, vi f.frm, vi f.til, vi f.known, vi f.no], .g true, .g true, .g true, .g true, .g true, .ov 33 (bool (decide (f.frm ≤ term))), .g true, .g true, .g true, .g true, .g true, .ov 40 (bool (decide (term < f.til))), .g false, .g false, .g false, .g false, .ov 46 (bool false), .g false, .g false, .g false, .g false, .g false, .g false, .g false, .g false, .g false, .g false, .g false, .ov 59 (bool false), .b false] (by kernel_rfl) (.c hlt (.c hr (.c (show ((f.kind == kk && (f.sub == ks && (f.obj == ko && true))) == true) = true from (by rw [hc0]; rfl)) (.c (show ((f.kind == kk && (f.sub == ks && (f.obj == ko && true))) == true) = true from (by rw [hc0]; rfl)) (.c (show ((f.kind == kk && (f.sub == ks && (f.obj == ko && true))) == true) = true from (by rw [hc0]; rfl)) (.c (show ((f.kind == kk && (f.sub == ks && (f.obj == ko && true))) == true) = true from (by rw [hc0]; rfl)) (.c (show ((f.kind == kk && (f.sub == ks && (f.obj == ko && true))) == true) = true from (by rw [hc0]; rfl)) (.c (show ae (bool (f.kind == kk && (f.sub == ks && (f.obj == ko && true)))) (bool (decide (f.frm ≤ term))) (bool false) (bool (decide (f.frm ≤ term))) from (af hc0 rfl)) (.c (show (decide (f.frm ≤ term) == true) = true from (by rw [hc1]; rfl)) (.c (show (decide (f.frm ≤ term) == true) = true from (by rw [hc1]; rfl)) (.c (show (decide (f.frm ≤ term) == true) = true from (by rw [hc1]; rfl)) (.c (show (decide (f.frm ≤ term) == true) = true from (by rw [hc1]; rfl)) (.c (show (decide (f.frm ≤ term) == true) = true from (by rw [hc1]; rfl)) (.c (show ae (bool (decide (f.frm ≤ term))) (bool (decide (term < f.til))) (bool false) (bool (decide (term < f.til))) from (af hc1 rfl)) (.c (show (decide (term < f.til) == true) = false from (by rw [hc2]; rfl)) (.c (show (decide (term < f.til) == true) = false from (by rw [hc2]; rfl)) (.c (show (decide (term < f.til) == true) = false from (by rw [hc2]; rfl)) (.c (show (decide (term < f.til) == true) = false from (by rw [hc2]; rfl)) (.c (show ae (bool (decide (term < f.til))) (D.p (Ba (Ah { toList := [] }))) (bool false) (bool false) from (am hc2 rfl)) (.c (show (false == true) = false from rfl) (.c (show (false == true) = false from rfl) (.c (show (false == true) = false from rfl) (.c (show false = false from rfl) (.c (show false = false from rfl) (.c (show false = false from rfl) (.c (show false = false from rfl) (.c (show false = false from rfl) (.c (show false = false from rfl) (.c (show false = false from rfl) (.c (show (false == true) = false from rfl) (.c (show ae (bool false) (D.p (Ba (Ah { toList := [] }))) (bool false) (bool false) from (am rfl rfl)) (.c (show false = false from rfl) .n))))))))))))))))))))))))))))))))) ?_ ?_ <;> (first | rfl | (have hk : keyIs kk ks ko f = _ := hc0; simp only [eU, hk, hw, hc1, hc2, zU, zT, zX, cond_false]; done) | (have hk : keyIs kk ks ko f = _ := hc0; simp only [eU, hk, hw, hc0, hc1, hc2, zU, zT, Ad, AF, zX, cond_true, cond_false]; rfl))
   ·cases hc3 : decide (f.known ≤ known)
    ·refine zt (zu (s' := { t := mkT 76 0 [(0, aa fs), (2, int term), (3, int known), (5, .ref (.ptr 0 0)), (8, int 0), (9, bool false), (10, int (-1)), (11, int (zg zb ((↑i : Int) + 1)))], h := [.var [int kk, int ks, int ko]], m := [] }) (e := zr) pok [.st (.mask [0, 2, 3, 5, 8, 9, 10, 11]), .st (.trim 1)] [.b true, .row [vi f.kind, vi f.sub, vi f.obj, vi f.value, vi f.frm, vi f.til, vi f.known, vi f.no], .g true, .g true, .g true, .g true, .g true, .ov 33 (bool (decide (f.frm ≤ term))), .g true, .g true, .g true, .g true, .g true, .ov 40 (bool (decide (term < f.til))), .g true, .g true, .g true, .g true, .ov 46 (bool (decide (f.known ≤ known))), .g false, .g false, .g false, .g false, .g false, .g false, .g false, .g false, .g false, .g false, .g false, .ov 59 (bool false), .b false] (by kernel_rfl) (.c hlt (.c hr (.c (show ((f.kind == kk && (f.sub == ks && (f.obj == ko && true))) == true) = true from (by rw [hc0]; rfl)) (.c (show ((f.kind == kk && (f.sub == ks && (f.obj == ko && true))) == true) = true from (by rw [hc0]; rfl)) (.c (show ((f.kind == kk && (f.sub == ks && (f.obj == ko && true))) == true) = true from (by rw [hc0]; rfl)) (.c (show ((f.kind == kk && (f.sub == ks && (f.obj == ko && true))) == true) = true from (by rw [hc0]; rfl)) (.c (show ((f.kind == kk && (f.sub == ks && (f.obj == ko && true))) == true) = true from (by rw [hc0]; rfl)) (.c (show ae (bool (f.kind == kk && (f.sub == ks && (f.obj == ko && true)))) (bool (decide (f.frm ≤ term))) (bool false) (bool (decide (f.frm ≤ term))) from (af hc0 rfl)) (.c (show (decide (f.frm ≤ term) == true) = true from (by rw [hc1]; rfl)) (.c (show (decide (f.frm ≤ term) == true) = true from (by rw [hc1]; rfl)) (.c (show (decide (f.frm ≤ term) == true) = true from (by rw [hc1]; rfl)) (.c (show (decide (f.frm ≤ term) == true) = true from (by rw [hc1]; rfl)) (.c (show (decide (f.frm ≤ term) == true) = true from (by rw [hc1]; rfl)) (.c (show ae (bool (decide (f.frm ≤ term))) (bool (decide (term < f.til))) (bool false) (bool (decide (term < f.til))) from (af hc1 rfl)) (.c (show (decide (term < f.til) == true) = true from (by rw [hc2]; rfl)) (.c (show (decide (term < f.til) == true) = true from (by rw [hc2]; rfl)) (.c (show (decide (term < f.til) == true) = true from (by rw [hc2]; rfl)) (.c (show (decide (term < f.til) == true) = true from (by rw [hc2]; rfl)) (.c (show ae (bool (decide (term < f.til))) (bool (decide (f.known ≤ known))) (bool false) (bool (decide (f.known ≤ known))) from (af hc2 rfl)) (.c (show (decide (f.known ≤ known) == true) = false from (by rw [hc3]; rfl)) (.c (show (decide (f.known ≤ known) == true) = false from (by rw [hc3]; rfl)) (.c (show (decide (f.known ≤ known) == true) = false from (by rw [hc3]; rfl)) (.c (show false = false from rfl) (.c (show false = false from rfl) (.c (show false = false from rfl) (.c (show false = false from rfl) (.c (show false = false from rfl) (.c (show false = false from rfl) (.c (show false = false from rfl) (.c (show (decide (f.known ≤ known) == true) = false from (by rw [hc3]; rfl)) (.c (show ae (bool (decide (f.known ≤ known))) (D.p (Ba (Ah { toList := [] }))) (bool false) (bool false) from (am hc3 rfl)) (.c (show false = false from rfl) .n))))))))))))))))))))))))))))))))) ?_ ?_ <;> (first | rfl | (have hk : keyIs kk ks ko f = _ := hc0; simp only [eU, hk, hw, hc1, hc2, hc3, zU, zX, cond_false]; done) | (have hk : keyIs kk ks ko f = _ := hc0; simp only [eU, hk, hw, hc0, hc1, hc2, hc3, zU, zT, Ad, AF, zX, cond_true, cond_false]; rfl))
    ·refine zt (zu (s' := { t := mkT 76 0 [(0, aa fs), (2, int term), (3, int known), (5, .ref (.ptr 0 0)), (8, int 0), (9, bool false), (10, int (↑i : Int)), (11, int (zg zb ((↑i : Int) + 1)))], h := [.var [int kk, int ks, int ko]], m := [] }) (e := zr) pok [.st (.mask [0, 2, 3, 5, 8, 9, 10, 11]), .st (.trim 1)] [.b true, .row [vi f.kind, vi f.sub, vi f.obj, vi f.value, vi f.frm, vi f.til, vi f.known, vi f.no], .g true, .g true, .g true, .g true, .g true, .ov 33 (bool (decide (f.frm ≤ term))), .g true, .g true, .g true, .g true, .g true, .ov 40 (bool (decide (term < f.til))), .g true, .g true, .g true, .g true, .ov 46 (bool (decide (f.known ≤ known))), .g true, .g true, .g true, .g false, .g false, .g false, .g false, .g false, .g false, .g false, .g true, .ov 58 (bool true), .ov 59 (bool true), .b true] (by kernel_rfl) (.c hlt (.c hr (.c (show ((f.kind == kk && (f.sub == ks && (f.obj == ko && true))) == true) = true from (by rw [hc0]; rfl)) (.c (show ((f.kind == kk && (f.sub == ks && (f.obj == ko && true))) == true) = true from (by rw [hc0]; rfl)) (.c (show ((f.kind == kk && (f.sub == ks && (f.obj == ko && true))) == true) = true from (by rw [hc0]; rfl)) (.c (show ((f.kind == kk && (f.sub == ks && (f.obj == ko && true))) == true) = true from (by rw [hc0]; rfl)) (.c (show ((f.kind == kk && (f.sub == ks && (f.obj == ko && true))) == true) = true from (by rw [hc0]; rfl)) (.c (show ae (bool (f.kind == kk && (f.sub == ks && (f.obj == ko && true)))) (bool (decide (f.frm ≤ term))) (bool false) (bool (decide (f.frm ≤ term))) from (af hc0 rfl)) (.c (show (decide (f.frm ≤ term) == true) = true from (by rw [hc1]; rfl)) (.c (show (decide (f.frm ≤ term) == true) = true from (by rw [hc1]; rfl)) (.c (show (decide (f.frm ≤ term) == true) = true from (by rw [hc1]; rfl)) (.c (show (decide (f.frm ≤ term) == true) = true from (by rw [hc1]; rfl)) (.c (show (decide (f.frm ≤ term) == true) = true from (by rw [hc1]; rfl)) (.c (show ae (bool (decide (f.frm ≤ term))) (bool (decide (term < f.til))) (bool false) (bool (decide (term < f.til))) from (af hc1 rfl)) (.c (show (decide (term < f.til) == true) = true from (by rw [hc2]; rfl)) (.c (show (decide (term < f.til) == true) = true from (by rw [hc2]; rfl)) (.c (show (decide (term < f.til) == true) = true from (by rw [hc2]; rfl)) (.c (show (decide (term < f.til) == true) = true from (by rw [hc2]; rfl)) (.c (show ae (bool (decide (term < f.til))) (bool (decide (f.known ≤ known))) (bool false) (bool (decide (f.known ≤ known))) from (af hc2 rfl)) (.c (show (decide (f.known ≤ known) == true) = true from (by rw [hc3]; rfl)) (.c (show (decide (f.known ≤ known) == true) = true from (by rw [hc3]; rfl)) (.c (show (decide (f.known ≤ known) == true) = true from (by rw [hc3]; rfl)) (.c (show (decide (-1 < 0) == false) = false from rfl) (.c (show (decide (-1 < 0) == false) = false from rfl) (.c (show (decide (-1 < 0) == false) = false from rfl) (.c (show (decide (-1 < 0) == false) = false from rfl) (.c (show (decide (-1 < 0) == false) = false from rfl) (.c (show (decide (-1 < 0) == false) = false from rfl) (.c (show (decide (-1 < 0) == false) = false from rfl) (.c (show (decide (f.known ≤ known) == true) = true from (by rw [hc3]; rfl)) (.c (show ae (bool (decide (-1 < 0))) (bool true) (D.p (Ba (Ah { toList := [] }))) (bool true) from (by first | assumption | rfl | decide | omega | simp_all)) (.c (show ae (bool (decide (f.known ≤ known))) (bool true) (bool false) (bool true) from (af hc3 rfl)) (.c (show true = true from rfl) .n)))))))))))))))))))))))))))))))))) ?_ ?_ <;> (first | rfl | (have hk : keyIs kk ks ko f = _ := hc0; simp only [eU, hk, hw, hc1, hc2, hc3, zX, cond_true]; done) | (have hk : keyIs kk ks ko f = _ := hc0; simp only [eU, hk, hw, hc0, hc1, hc2, hc3, zU, zT, Ad, AF, zX, cond_true, cond_false]; rfl))
noncomputable abbrev qi (kk : Int) (ks : Int) (ko : Int) (f : FactT) : List Blk := [.var [int kk, int ks, int ko], .var [int f.kind, int f.sub, int f.obj, int f.value, int f.frm, int f.til, int f.known, int f.no]]
theorem a7_b1 {kk ks ko term known : Int} {fs : List (List Dp)} {i j : Nat} {f g : FactT} (hr : aj (i : Int) fs f.row 8) (hg : aj (j : Int) fs g.row 8) (hj : decide ((j : Int) < 0) = false) (hlt : decide ((i : Int) < (fs.length : Int)) = true) (hw : zb.wrap ((i : Int) + 1) = ((i + 1 : Nat) : Int)) : (CW y6 Γ0 [] false (sub Ck 0) (a7S kk ks ko term known fs (j : Int) i) .normal (a7S kk ks ko term known fs (bif eU kk ks ko term known f && !befB f g then (i : Int) else (j : Int)) ((i + 1 : Nat) : Int))) := by
 cases hc0 : f.kind == kk && (f.sub == ks && (f.obj == ko && true))
 ·let v0 := D.p (Ba (Ah { toList := [] }))
  refine zt (zu (s' := { t := mkT 76 0 [(0, aa fs), (2, int term), (3, int known), (5, .ref (.ptr 0 0)), (8, int 0), (9, bool false), (10, int (↑j : Int)), (11, int (zg zb ((↑i : Int) + 1)))], h := [.var [int kk, int ks, int ko]], m := [] }) (e := zr) pok [.st (.mask [0, 2, 3, 5, 8, 9, 10, 11]), .st (.trim 1)] [.b true, .row [vi f.kind, vi f.sub, vi f.obj, vi f.value, vi f.frm, vi f.til, vi f.known, vi f.no], .g false, .g false, .g false, .g false, .g false, .ov 33 (bool false), .g false, .g false, .g false, .g false, .g false, .ov 40 (bool false), .g false, .g false, .g false, .g false, .ov 46 (bool false), .g false, .g false, .g false, .g false, .g false, .g false, .g false, .g false, .g false, .g false, .g false, .ov 59 (bool false), .b false] (by kernel_rfl) (.c hlt (.c hr (.c (show ((f.kind == kk && (f.sub == ks && (f.obj == ko && true))) == true) = false from (by subst v0; rw [hc0]; rfl)) (.c (show ((f.kind == kk && (f.sub == ks && (f.obj == ko && true))) == true) = false from (by subst v0; rw [hc0]; rfl)) (.c (show ((f.kind == kk && (f.sub == ks && (f.obj == ko && true))) == true) = false from (by subst v0; rw [hc0]; rfl)) (.c (show ((f.kind == kk && (f.sub == ks && (f.obj == ko && true))) == true) = false from (by subst v0; rw [hc0]; rfl)) (.c (show ((f.kind == kk && (f.sub == ks && (f.obj == ko && true))) == true) = false from (by subst v0; rw [hc0]; rfl)) (.c (show ae (bool (f.kind == kk && (f.sub == ks && (f.obj == ko && true)))) v0 (bool false) (bool false) from (am hc0 rfl)) (.c (show (false == true) = false from rfl) (.c (show (false == true) = false from rfl) (.c (show (false == true) = false from rfl) (.c (show (false == true) = false from rfl) (.c (show (false == true) = false from rfl) (.c (show ae (bool false) v0 (bool false) (bool false) from (am rfl rfl)) (.c (show (false == true) = false from rfl) (.c (show (false == true) = false from rfl) (.c (show (false == true) = false from rfl) (.c (show (false == true) = false from rfl) (.c (show ae (bool false) v0 (bool false) (bool false) from (am rfl rfl)) (.c (show (false == true) = false from rfl) (.c (show (false == true) = false from rfl) (.c (show (false == true) = false from rfl) (.c (show false = false from rfl) (.c (show false = false from rfl) (.c (show false = false from rfl) (.c (show false = false from rfl) (.c (show false = false from rfl) (.c (show false = false from rfl) (.c (show false = false from rfl) (.c (show (false == true) = false from rfl) (.c (show ae (bool false) v0 (bool false) (bool false) from (am rfl rfl)) (.c (show false = false from rfl) .n))))))))))))))))))))))))))))))))) ?_ ?_ <;> subst v0 <;> (first | rfl | (have hk : keyIs kk ks ko f = _ := hc0; simp only [eU, hk, hw, zT, cond_false]; done) | (have hk : keyIs kk ks ko f = _ := hc0; simp only [eU, hk, hw, hc0, zU, zT, Ad, AF, zX, cond_true, cond_false]; rfl))
 ·cases hc1 : decide (f.frm ≤ term)
  ·let v0 := D.p (Ba (Ah { toList := [] }))
   refine zt (zu (s' := { t := mkT 76 0 [(0, aa fs), (2, int term), (3, int known), (5, .ref (.ptr 0 0)), (8, int 0), (9, bool false), (10, int (↑j : Int)), (11, int (zg zb ((↑i : Int) + 1)))], h := [.var [int kk, int ks, int ko]], m := [] }) (e := zr) pok [.st (.mask [0, 2, 3, 5, 8, 9, 10, 11]), .st (.trim 1)] [.b true, .row [vi f.kind, vi f.sub, vi f.obj, vi f.value, vi f.frm, vi f.til, vi f.known, vi f.no], .g true, .g true, .g true, .g true, .g true, .ov 33 (bool (decide (f.frm ≤ term))), .g false, .g false, .g false, .g false, .g false, .ov 40 (bool false), .g false, .g false, .g false, .g false, .ov 46 (bool false), .g false, .g false, .g false, .g false, .g false, .g false, .g false, .g false, .g false, .g false, .g false, .ov 59 (bool false), .b false] (by kernel_rfl) (.c hlt (.c hr (.c (show ((f.kind == kk && (f.sub == ks && (f.obj == ko && true))) == true) = true from (by subst v0; rw [hc0]; rfl)) (.c (show ((f.kind == kk && (f.sub == ks && (f.obj == ko && true))) == true) = true from (by subst v0; rw [hc0]; rfl)) (.c (show ((f.kind == kk && (f.sub == ks && (f.obj == ko && true))) == true) = true from (by subst v0; rw [hc0]; rfl)) (.c (show ((f.kind == kk && (f.sub == ks && (f.obj == ko && true))) == true) = true from (by subst v0; rw [hc0]; rfl)) (.c (show ((f.kind == kk && (f.sub == ks && (f.obj == ko && true))) == true) = true from (by subst v0; rw [hc0]; rfl)) (.c (show ae (bool (f.kind == kk && (f.sub == ks && (f.obj == ko && true)))) (bool (decide (f.frm ≤ term))) (bool false) (bool (decide (f.frm ≤ term))) from (af hc0 rfl)) (.c (show (decide (f.frm ≤ term) == true) = false from (by subst v0; rw [hc1]; rfl)) (.c (show (decide (f.frm ≤ term) == true) = false from (by subst v0; rw [hc1]; rfl)) (.c (show (decide (f.frm ≤ term) == true) = false from (by subst v0; rw [hc1]; rfl)) (.c (show (decide (f.frm ≤ term) == true) = false from (by subst v0; rw [hc1]; rfl)) (.c (show (decide (f.frm ≤ term) == true) = false from (by subst v0; rw [hc1]; rfl)) (.c (show ae (bool (decide (f.frm ≤ term))) v0 (bool false) (bool false) from (am hc1 rfl)) (.c (show (false == true) = false from rfl) (.c (show (false == true) = false from rfl) (.c (show (false == true) = false from rfl) (.c (show (false == true) = false from rfl) (.c (show ae (bool false) v0 (bool false) (bool false) from (am rfl rfl)) (.c (show (false == true) = false from rfl) (.c (show (false == true) = false from rfl) (.c (show (false == true) = false from rfl) (.c (show false = false from rfl) (.c (show false = false from rfl) (.c (show false = false from rfl) (.c (show false = false from rfl) (.c (show false = false from rfl) (.c (show false = false from rfl) (.c (show false = false from rfl) (.c (show (false == true) = false from rfl) (.c (show ae (bool false) v0 (bool false) (bool false) from (am rfl rfl)) (.c (show false = false from rfl) .n))))))))))))))))))))))))))))))))) ?_ ?_ <;> subst v0 <;> (first | rfl | (have hk : keyIs kk ks ko f = _ := hc0; simp only [eU, hk, hw, hc1, zU, zT, cond_false]; done) | (have hk : keyIs kk ks ko f = _ := hc0; simp only [eU, hk, hw, hc0, hc1, zU, zT, Ad, AF, zX, cond_true, cond_false]; rfl))
  ·cases hc2 : decide (term < f.til)
   ·refine zt (zu (s' := { t := mkT 76 0 [(0, aa fs), (2, int term), (3, int known), (5, .ref (.ptr 0 0)), (8, int 0), (9, bool false), (10, int (↑j : Int)), (11, int (zg zb ((↑i : Int) + 1)))], h := [.var [int kk, int ks, int ko]], m := [] }) (e := zr) pok [.st (.mask [0, 2, 3, 5, 8, 9, 10, 11]), .st (.trim 1)] [.b true, .row [vi f.kind, vi f.sub, vi f.obj, vi f.value, vi f.frm, vi f.til, vi f.known, vi f.no], .g true, .g true, .g true, .g true, .g true, .ov 33 (bool (decide (f.frm ≤ term))), .g true, .g true, .g true, .g true, .g true, .ov 40 (bool (decide (term < f.til))), .g false, .g false, .g false, .g false, .ov 46 (bool false), .g false, .g false, .g false, .g false, .g false, .g false, .g false, .g false, .g false, .g false, .g false, .ov 59 (bool false), .b false] (by kernel_rfl) (.c hlt (.c hr (.c (show ((f.kind == kk && (f.sub == ks && (f.obj == ko && true))) == true) = true from (by rw [hc0]; rfl)) (.c (show ((f.kind == kk && (f.sub == ks && (f.obj == ko && true))) == true) = true from (by rw [hc0]; rfl)) (.c (show ((f.kind == kk && (f.sub == ks && (f.obj == ko && true))) == true) = true from (by rw [hc0]; rfl)) (.c (show ((f.kind == kk && (f.sub == ks && (f.obj == ko && true))) == true) = true from (by rw [hc0]; rfl)) (.c (show ((f.kind == kk && (f.sub == ks && (f.obj == ko && true))) == true) = true from (by rw [hc0]; rfl)) (.c (show ae (bool (f.kind == kk && (f.sub == ks && (f.obj == ko && true)))) (bool (decide (f.frm ≤ term))) (bool false) (bool (decide (f.frm ≤ term))) from (af hc0 rfl)) (.c (show (decide (f.frm ≤ term) == true) = true from (by rw [hc1]; rfl)) (.c (show (decide (f.frm ≤ term) == true) = true from (by rw [hc1]; rfl)) (.c (show (decide (f.frm ≤ term) == true) = true from (by rw [hc1]; rfl)) (.c (show (decide (f.frm ≤ term) == true) = true from (by rw [hc1]; rfl)) (.c (show (decide (f.frm ≤ term) == true) = true from (by rw [hc1]; rfl)) (.c (show ae (bool (decide (f.frm ≤ term))) (bool (decide (term < f.til))) (bool false) (bool (decide (term < f.til))) from (af hc1 rfl)) (.c (show (decide (term < f.til) == true) = false from (by rw [hc2]; rfl)) (.c (show (decide (term < f.til) == true) = false from (by rw [hc2]; rfl)) (.c (show (decide (term < f.til) == true) = false from (by rw [hc2]; rfl)) (.c (show (decide (term < f.til) == true) = false from (by rw [hc2]; rfl)) (.c (show ae (bool (decide (term < f.til))) (D.p (Ba (Ah { toList := [] }))) (bool false) (bool false) from (am hc2 rfl)) (.c (show (false == true) = false from rfl) (.c (show (false == true) = false from rfl) (.c (show (false == true) = false from rfl) (.c (show false = false from rfl) (.c (show false = false from rfl) (.c (show false = false from rfl) (.c (show false = false from rfl) (.c (show false = false from rfl) (.c (show false = false from rfl) (.c (show false = false from rfl) (.c (show (false == true) = false from rfl) (.c (show ae (bool false) (D.p (Ba (Ah { toList := [] }))) (bool false) (bool false) from (am rfl rfl)) (.c (show false = false from rfl) .n))))))))))))))))))))))))))))))))) ?_ ?_ <;> (first | rfl | (have hk : keyIs kk ks ko f = _ := hc0; simp only [eU, hk, hw, hc1, hc2, zU, zT, zX, cond_false]; done) | (have hk : keyIs kk ks ko f = _ := hc0; simp only [eU, hk, hw, hc0, hc1, hc2, zU, zT, Ad, AF, zX, cond_true, cond_false]; rfl))
   ·cases hc3 : decide (f.known ≤ known)
    ·refine zt (zu (s' := { t := mkT 76 0 [(0, aa fs), (2, int term), (3, int known), (5, .ref (.ptr 0 0)), (8, int 0), (9, bool false), (10, int (↑j : Int)), (11, int (zg zb ((↑i : Int) + 1)))], h := [.var [int kk, int ks, int ko]], m := [] }) (e := zr) pok [.st (.mask [0, 2, 3, 5, 8, 9, 10, 11]), .st (.trim 1)] [.b true, .row [vi f.kind, vi f.sub, vi f.obj, vi f.value, vi f.frm, vi f.til, vi f.known, vi f.no], .g true, .g true, .g true, .g true, .g true, .ov 33 (bool (decide (f.frm ≤ term))), .g true, .g true, .g true, .g true, .g true, .ov 40 (bool (decide (term < f.til))), .g true, .g true, .g true, .g true, .ov 46 (bool (decide (f.known ≤ known))), .g false, .g false, .g false, .g false, .g false, .g false, .g false, .g false, .g false, .g false, .g false, .ov 59 (bool false), .b false] (by kernel_rfl) (.c hlt (.c hr (.c (show ((f.kind == kk && (f.sub == ks && (f.obj == ko && true))) == true) = true from (by rw [hc0]; rfl)) (.c (show ((f.kind == kk && (f.sub == ks && (f.obj == ko && true))) == true) = true from (by rw [hc0]; rfl)) (.c (show ((f.kind == kk && (f.sub == ks && (f.obj == ko && true))) == true) = true from (by rw [hc0]; rfl)) (.c (show ((f.kind == kk && (f.sub == ks && (f.obj == ko && true))) == true) = true from (by rw [hc0]; rfl)) (.c (show ((f.kind == kk && (f.sub == ks && (f.obj == ko && true))) == true) = true from (by rw [hc0]; rfl)) (.c (show ae (bool (f.kind == kk && (f.sub == ks && (f.obj == ko && true)))) (bool (decide (f.frm ≤ term))) (bool false) (bool (decide (f.frm ≤ term))) from (af hc0 rfl)) (.c (show (decide (f.frm ≤ term) == true) = true from (by rw [hc1]; rfl)) (.c (show (decide (f.frm ≤ term) == true) = true from (by rw [hc1]; rfl)) (.c (show (decide (f.frm ≤ term) == true) = true from (by rw [hc1]; rfl)) (.c (show (decide (f.frm ≤ term) == true) = true from (by rw [hc1]; rfl)) (.c (show (decide (f.frm ≤ term) == true) = true from (by rw [hc1]; rfl)) (.c (show ae (bool (decide (f.frm ≤ term))) (bool (decide (term < f.til))) (bool false) (bool (decide (term < f.til))) from (af hc1 rfl)) (.c (show (decide (term < f.til) == true) = true from (by rw [hc2]; rfl)) (.c (show (decide (term < f.til) == true) = true from (by rw [hc2]; rfl)) (.c (show (decide (term < f.til) == true) = true from (by rw [hc2]; rfl)) (.c (show (decide (term < f.til) == true) = true from (by rw [hc2]; rfl)) (.c (show ae (bool (decide (term < f.til))) (bool (decide (f.known ≤ known))) (bool false) (bool (decide (f.known ≤ known))) from (af hc2 rfl)) (.c (show (decide (f.known ≤ known) == true) = false from (by rw [hc3]; rfl)) (.c (show (decide (f.known ≤ known) == true) = false from (by rw [hc3]; rfl)) (.c (show (decide (f.known ≤ known) == true) = false from (by rw [hc3]; rfl)) (.c (show false = false from rfl) (.c (show false = false from rfl) (.c (show false = false from rfl) (.c (show false = false from rfl) (.c (show false = false from rfl) (.c (show false = false from rfl) (.c (show false = false from rfl) (.c (show (decide (f.known ≤ known) == true) = false from (by rw [hc3]; rfl)) (.c (show ae (bool (decide (f.known ≤ known))) (D.p (Ba (Ah { toList := [] }))) (bool false) (bool false) from (am hc3 rfl)) (.c (show false = false from rfl) .n))))))))))))))))))))))))))))))))) ?_ ?_ <;> (first | rfl | (have hk : keyIs kk ks ko f = _ := hc0; simp only [eU, hk, hw, hc1, hc2, hc3, zU, zT, zX, cond_false]; done) | (have hk : keyIs kk ks ko f = _ := hc0; simp only [eU, hk, hw, hc0, hc1, hc2, hc3, zU, zT, Ad, AF, zX, cond_true, cond_false]; rfl))
    ·cases hc4 : !befB f g
     ·refine zt (zu (s' := { t := mkT 76 0 [(0, aa fs), (2, int term), (3, int known), (5, .ref (.ptr 0 0)), (8, int 0), (9, bool false), (10, int (↑j : Int)), (11, int (zg zb ((↑i : Int) + 1)))], h := [.var [int kk, int ks, int ko]], m := [] }) (e := zr) pok [.st (.mask [0, 2, 3, 5, 8, 9, 10, 11]), .st (.trim 1)] [.b true, .row [vi f.kind, vi f.sub, vi f.obj, vi f.value, vi f.frm, vi f.til, vi f.known, vi f.no], .g true, .g true, .g true, .g true, .g true, .ov 33 (bool (decide (f.frm ≤ term))), .g true, .g true, .g true, .g true, .g true, .ov 40 (bool (decide (term < f.til))), .g true, .g true, .g true, .g true, .ov 46 (bool (decide (f.known ≤ known))), .g true, .g true, .g true, .g true, .g true, .g true, .g true, .row [vi g.kind, vi g.sub, vi g.obj, vi g.value, vi g.frm, vi g.til, vi g.known, vi g.no], .g true, .g true, .val (bool (befB f g)), .g true, .g true, .ov 58 (bool !befB f g), .ov 59 (bool !befB f g), .b false] (by kernel_rfl) (.c hlt (.c hr (.c (show ((f.kind == kk && (f.sub == ks && (f.obj == ko && true))) == true) = true from (by rw [hc0]; rfl)) (.c (show ((f.kind == kk && (f.sub == ks && (f.obj == ko && true))) == true) = true from (by rw [hc0]; rfl)) (.c (show ((f.kind == kk && (f.sub == ks && (f.obj == ko && true))) == true) = true from (by rw [hc0]; rfl)) (.c (show ((f.kind == kk && (f.sub == ks && (f.obj == ko && true))) == true) = true from (by rw [hc0]; rfl)) (.c (show ((f.kind == kk && (f.sub == ks && (f.obj == ko && true))) == true) = true from (by rw [hc0]; rfl)) (.c (show ae (bool (f.kind == kk && (f.sub == ks && (f.obj == ko && true)))) (bool (decide (f.frm ≤ term))) (bool false) (bool (decide (f.frm ≤ term))) from (af hc0 rfl)) (.c (show (decide (f.frm ≤ term) == true) = true from (by rw [hc1]; rfl)) (.c (show (decide (f.frm ≤ term) == true) = true from (by rw [hc1]; rfl)) (.c (show (decide (f.frm ≤ term) == true) = true from (by rw [hc1]; rfl)) (.c (show (decide (f.frm ≤ term) == true) = true from (by rw [hc1]; rfl)) (.c (show (decide (f.frm ≤ term) == true) = true from (by rw [hc1]; rfl)) (.c (show ae (bool (decide (f.frm ≤ term))) (bool (decide (term < f.til))) (bool false) (bool (decide (term < f.til))) from (af hc1 rfl)) (.c (show (decide (term < f.til) == true) = true from (by rw [hc2]; rfl)) (.c (show (decide (term < f.til) == true) = true from (by rw [hc2]; rfl)) (.c (show (decide (term < f.til) == true) = true from (by rw [hc2]; rfl)) (.c (show (decide (term < f.til) == true) = true from (by rw [hc2]; rfl)) (.c (show ae (bool (decide (term < f.til))) (bool (decide (f.known ≤ known))) (bool false) (bool (decide (f.known ≤ known))) from (af hc2 rfl)) (.c (show (decide (f.known ≤ known) == true) = true from (by rw [hc3]; rfl)) (.c (show (decide (f.known ≤ known) == true) = true from (by rw [hc3]; rfl)) (.c (show (decide (f.known ≤ known) == true) = true from (by rw [hc3]; rfl)) (.c (show (decide ((↑j : Int) < 0) == false) = true from rfl) (.c (show (decide ((↑j : Int) < 0) == false) = true from rfl) (.c (show (decide ((↑j : Int) < 0) == false) = true from rfl) (.c (show (decide ((↑j : Int) < 0) == false) = true from rfl) (.c hg (.c (show (decide ((↑j : Int) < 0) == false) = true from rfl) (.c (show (decide ((↑j : Int) < 0) == false) = true from rfl) (.c (@nL f g (qi kk ks ko f)) (.c (show (decide ((↑j : Int) < 0) == false) = true from rfl) (.c (show (decide (f.known ≤ known) == true) = true from (by rw [hc3]; rfl)) (.c (show ae (bool (decide ((↑j : Int) < 0))) (bool true) (bool !befB f g) (bool !befB f g) from (am hj rfl)) (.c (show ae (bool (decide (f.known ≤ known))) (bool !befB f g) (bool false) (bool !befB f g) from (af hc3 rfl)) (.c hc4 .n)))))))))))))))))))))))))))))))))))) ?_ ?_ <;> (first | rfl | (have hk : keyIs kk ks ko f = _ := hc0; simp only [eU, hk, hw, hc1, hc2, hc3, zU, zX, cond_false]; done) | (have hk : keyIs kk ks ko f = _ := hc0; simp only [eU, hk, hw, hc0, hc1, hc2, hc3, hc4, zU, zT, Ad, AF, zX, cond_true, cond_false]; rfl))
     ·refine zt (zu (s' := { t := mkT 76 0 [(0, aa fs), (2, int term), (3, int known), (5, .ref (.ptr 0 0)), (8, int 0), (9, bool false), (10, int (↑i : Int)), (11, int (zg zb ((↑i : Int) + 1)))], h := [.var [int kk, int ks, int ko]], m := [] }) (e := zr) pok [.st (.mask [0, 2, 3, 5, 8, 9, 10, 11]), .st (.trim 1)] [.b true, .row [vi f.kind, vi f.sub, vi f.obj, vi f.value, vi f.frm, vi f.til, vi f.known, vi f.no], .g true, .g true, .g true, .g true, .g true, .ov 33 (bool (decide (f.frm ≤ term))), .g true, .g true, .g true, .g true, .g true, .ov 40 (bool (decide (term < f.til))), .g true, .g true, .g true, .g true, .ov 46 (bool (decide (f.known ≤ known))), .g true, .g true, .g true, .g true, .g true, .g true, .g true, .row [vi g.kind, vi g.sub, vi g.obj, vi g.value, vi g.frm, vi g.til, vi g.known, vi g.no], .g true, .g true, .val (bool (befB f g)), .g true, .g true, .ov 58 (bool !befB f g), .ov 59 (bool !befB f g), .b true] (by kernel_rfl) (.c hlt (.c hr (.c (show ((f.kind == kk && (f.sub == ks && (f.obj == ko && true))) == true) = true from (by rw [hc0]; rfl)) (.c (show ((f.kind == kk && (f.sub == ks && (f.obj == ko && true))) == true) = true from (by rw [hc0]; rfl)) (.c (show ((f.kind == kk && (f.sub == ks && (f.obj == ko && true))) == true) = true from (by rw [hc0]; rfl)) (.c (show ((f.kind == kk && (f.sub == ks && (f.obj == ko && true))) == true) = true from (by rw [hc0]; rfl)) (.c (show ((f.kind == kk && (f.sub == ks && (f.obj == ko && true))) == true) = true from (by rw [hc0]; rfl)) (.c (show ae (bool (f.kind == kk && (f.sub == ks && (f.obj == ko && true)))) (bool (decide (f.frm ≤ term))) (bool false) (bool (decide (f.frm ≤ term))) from (af hc0 rfl)) (.c (show (decide (f.frm ≤ term) == true) = true from (by rw [hc1]; rfl)) (.c (show (decide (f.frm ≤ term) == true) = true from (by rw [hc1]; rfl)) (.c (show (decide (f.frm ≤ term) == true) = true from (by rw [hc1]; rfl)) (.c (show (decide (f.frm ≤ term) == true) = true from (by rw [hc1]; rfl)) (.c (show (decide (f.frm ≤ term) == true) = true from (by rw [hc1]; rfl)) (.c (show ae (bool (decide (f.frm ≤ term))) (bool (decide (term < f.til))) (bool false) (bool (decide (term < f.til))) from (af hc1 rfl)) (.c (show (decide (term < f.til) == true) = true from (by rw [hc2]; rfl)) (.c (show (decide (term < f.til) == true) = true from (by rw [hc2]; rfl)) (.c (show (decide (term < f.til) == true) = true from (by rw [hc2]; rfl)) (.c (show (decide (term < f.til) == true) = true from (by rw [hc2]; rfl)) (.c (show ae (bool (decide (term < f.til))) (bool (decide (f.known ≤ known))) (bool false) (bool (decide (f.known ≤ known))) from (af hc2 rfl)) (.c (show (decide (f.known ≤ known) == true) = true from (by rw [hc3]; rfl)) (.c (show (decide (f.known ≤ known) == true) = true from (by rw [hc3]; rfl)) (.c (show (decide (f.known ≤ known) == true) = true from (by rw [hc3]; rfl)) (.c (show (decide ((↑j : Int) < 0) == false) = true from rfl) (.c (show (decide ((↑j : Int) < 0) == false) = true from rfl) (.c (show (decide ((↑j : Int) < 0) == false) = true from rfl) (.c (show (decide ((↑j : Int) < 0) == false) = true from rfl) (.c hg (.c (show (decide ((↑j : Int) < 0) == false) = true from rfl) (.c (show (decide ((↑j : Int) < 0) == false) = true from rfl) (.c (@nL f g (qi kk ks ko f)) (.c (show (decide ((↑j : Int) < 0) == false) = true from rfl) (.c (show (decide (f.known ≤ known) == true) = true from (by rw [hc3]; rfl)) (.c (show ae (bool (decide ((↑j : Int) < 0))) (bool true) (bool !befB f g) (bool !befB f g) from (am hj rfl)) (.c (show ae (bool (decide (f.known ≤ known))) (bool !befB f g) (bool false) (bool !befB f g) from (af hc3 rfl)) (.c hc4 .n)))))))))))))))))))))))))))))))))))) ?_ ?_ <;> (first | rfl | (have hk : keyIs kk ks ko f = _ := hc0; simp only [eU, hk, hw, hc1, hc2, hc3, zX, cond_true]; done) | (have hk : keyIs kk ks ko f = _ := hc0; simp only [eU, hk, hw, hc0, hc1, hc2, hc3, hc4, zU, zT, Ad, AF, zX, cond_true, cond_false]; rfl))
theorem yj {kk ks ko term known best : Int} {fs : List (List Dp)} {i : Nat} (hlt : decide ((i : Int) < (fs.length : Int)) = false) : (CW y6 Γ0 [] false (sub Ck 0) (a7S kk ks ko term known fs best i) (.exit 0) { t := mkT 76 0 [(0, aa fs), (8, int 0), (9, bool false), (10, int best)], h := [.var [int kk, int ks, int ko]], m := [] }) := by
 exact zt (zu (s' := { t := mkT 76 0 [(0, aa fs), (8, int 0), (9, bool false), (10, int best)], h := [.var [int kk, int ks, int ko]], m := [] }) (e := zQ 0) pok [.st (.mask [0, 8, 9, 10])] [.b false] (by kernel_rfl) (.c hlt .n)) (by rfl) (by rfl)
def tt (s : Option (Nat × FactT)) : Int := match s with | none => -1 | some (j, _) => (j : Int)
def a7F (kk ks ko term known : Int) (f : FactT) (s : Nat × Option (Nat × FactT)) : (Nat × Option (Nat × FactT)) ⊕ Empty :=
 .inl (s.1 + 1, match s.2 with
  | none => bif eU kk ks ko term known f then some (s.1, f) else none
  | some (j, g) => bif eU kk ks ko term known f && !befB f g then some (s.1, f) else some (j, g))
def a7B (kk ks ko term known : Int) (l : List FactT) : Option (Nat × FactT) := match bp (a7F kk ks ko term known) l (0, none) with | .inl s => s.2 | .inr _ => none
theorem a7_cwl {kk ks ko term known : Int} {l : List FactT} (hl : ak l) :
  CW y6 Γ0 [] false (.loop (sub Ck 0)) (a7S kk ks ko term known (l.map zo) (-1) 0) (.exit 0) { t := mkT 76 0 [(0, aa (l.map zo)), (8, int 0), (9, bool false), (10, int (tt (a7B kk ks ko term known l)))], h := [.var [int kk, int ks, int ko]], m := [] } := by
 have := Cz (P := y6) (Γ := Γ0) (h0 := []) (rd := false) (c := sub Ck 0) l (a7F kk ks ko term known) (fun i s => a7S kk ks ko term known (l.map zo) (tt s.2) (i : Int)) (.exit 0) (fun s => { t := mkT 76 0 [(0, aa (l.map zo)), (8, int 0), (9, bool false), (10, int (tt s.2))], h := [.var [int kk, int ks, int ko]], m := [] }) (fun r => r.elim)
  (fun i s => s.1 = i ∧ ∀ j g, s.2 = some (j, g) → l[j]? = some g) (by simp) (fun r => r.elim) ?_ ?_ (0, none) ⟨rfl, by simp⟩
 ·unfold a7B
  cases h : bp (a7F kk ks ko term known) l (0, none) with
  | inl s => rw [h] at this; exact this
  | inr r => exact r.elim
 ·rintro i f ⟨n, s⟩ hf ⟨rfl, hs⟩
  have hi := (zc.1 hf).1
  refine ⟨fun s' h => ?_, ?_⟩
  ·simp only [a7F, Sum.inl.injEq] at h
   subst h
   refine ⟨rfl, fun j g hj => ?_⟩
   cases s with
   | none =>
    simp only at hj
    cases hh : eU kk ks ko term known f <;> rw [hh] at hj <;> simp at hj
    obtain ⟨rfl, rfl⟩ := hj; exact hf
   | some p =>
    obtain ⟨j0, g0⟩ := p
    simp only at hj
    cases hh : eU kk ks ko term known f && !befB f g0 <;> rw [hh] at hj <;> simp at hj
    ·obtain ⟨rfl, rfl⟩ := hj; exact hs _ _ rfl
    ·obtain ⟨rfl, rfl⟩ := hj; exact hf
  ·cases s with
   | none =>
    have := a7_b0 (kk := kk) (ks := ks) (ko := ko) (term := term) (known := known) (rowAt hf rfl) (lt_len zo hi) (wrap_succ hi hl)
    simp only [a7F, ad, tt]
    cases hh : eU kk ks ko term known f <;> rw [hh] at this <;> exact this
   | some p =>
    obtain ⟨j0, g0⟩ := p
    have := a7_b1 (kk := kk) (ks := ks) (ko := ko) (term := term) (known := known) (j := j0) (g := g0) (rowAt hf rfl) (rowAt (hs _ _ rfl) rfl) (by simp) (lt_len zo hi) (wrap_succ hi hl)
    simp only [a7F, ad, tt]
    cases hh : eU kk ks ko term known f && !befB f g0 <;> rw [hh] at this <;> exact this
 ·rintro ⟨n, s⟩ _
  exact yj (bN zo l)
end Go.Vi
open Go Go.Proofs
namespace Go.Vi
set_option maxRecDepth 100000
set_option maxHeartbeats 4000000
theorem wI (kk ks ko term known : Int) : ∀ (r l : List FactT) (s : Nat × Option (Nat × FactT)), s.1 = l.length → (∀ j g, s.2 = some (j, g) → (l ++ r)[j]? = some g) →
  ∀ s', bp (a7F kk ks ko term known) r s = .inl s' → ∀ j g, s'.2 = some (j, g) → (l ++ r)[j]? = some g
 | [], l, s, _, h2, s', h, j, g, hj => by simp only [bp, Sum.inl.injEq] at h; subst h; exact h2 j g hj
 | f :: r, l, s, h1, h2, s', h, j, g, hj => by
  simp only [bp, a7F] at h
  have := wI kk ks ko term known r (l ++ [f]) _ (by simp [h1]) (fun j g hj => ?_) s' h j g hj
  ·simpa using this
  ·have hf : (l ++ [f] ++ r)[s.1]? = some f := by rw [h1]; simp
   have e : l ++ [f] ++ r = l ++ f :: r := by simp
   obtain ⟨n, o⟩ := s
   cases o with
   | none =>
    simp only at hj
    cases hh : eU kk ks ko term known f <;> rw [hh] at hj <;> simp at hj
    obtain ⟨rfl, rfl⟩ := hj; exact hf
   | some p =>
    obtain ⟨j0, g0⟩ := p
    simp only at hj
    cases hh : eU kk ks ko term known f && !befB f g0 <;> rw [hh] at hj <;> simp at hj
    ·obtain ⟨rfl, rfl⟩ := hj; rw [e]; exact h2 _ _ rfl
    ·obtain ⟨rfl, rfl⟩ := hj; exact hf
theorem wJ {kk ks ko term known : Int} {l : List FactT} {p : Nat × FactT} (h : a7B kk ks ko term known l = some p) : l[p.1]? = some p.2 := by
 unfold a7B at h
 cases hf : bp (a7F kk ks ko term known) l (0, none) with
 | inr r => exact r.elim
 | inl s =>
  rw [hf] at h
  exact wI kk ks ko term known l [] (0, none) rfl (by simp) s hf p.1 p.2 h
theorem oO {kk ks ko term known : Int} {l : List FactT} {p : Nat × FactT} (h : a7B kk ks ko term known l = some p) : aj (p.1 : Int) (l.map zo) (l.getD (zh (p.1 : Int)) default).row 8 := by
 have := wJ h
 rw [show l.getD (zh (p.1 : Int)) default = p.2 by simp [zi, this]]
 exact rowAt this rfl
def a7Fin (kk ks ko : Int) (fs : List (List Dp)) (s : Option (Nat × FactT)) : Exit × AS := match s with
 | none => (.exit 0, { t := mkT 76 0 [(0, aa fs), (8, int 0), (9, bool false), (10, int (-1))], h := [.var [int kk, int ks, int ko]], m := [] })
 | some p => (.exit 0, { t := mkT 76 0 [(0, aa fs), (8, int 0), (9, bool false), (10, int (p.1 : Int))], h := [.var [int kk, int ks, int ko]], m := [] })
theorem a7f_cw {kk ks ko term known : Int} {l : List FactT} (hl : ak l) :
  CW y6 Γ0 [] false (.loop (sub Ck 0)) (a7S kk ks ko term known (l.map zo) (-1) 0) (a7Fin kk ks ko (l.map zo) (a7B kk ks ko term known l)).1 (a7Fin kk ks ko (l.map zo) (a7B kk ks ko term known l)).2 := by
 have := a7_cwl (kk := kk) (ks := ks) (ko := ko) (term := term) (known := known) hl
 cases h : a7B kk ks ko term known l <;> rw [h] at this <;> exact this
def uA (kk ks ko term known : Int) (l : List FactT) : Int × Bool := match a7B kk ks ko term known l with
 | none => (0, false)
 | some p => bif decide ((l.getD (zh (p.1 : Int)) default).value < 0) then (0, false) else ((l.getD (zh (p.1 : Int)) default).value, true)
theorem at7_ev {kk ks ko term known : Int} {l : List FactT} (hl : ak l) (h : List Blk) : (Ev y6 Γ0 124 [aa (l.map zo), .agg [int kk, int ks, int ko], int term, int known] h (.tup [int (uA kk ks ko term known l).1, bool (uA kk ks ko term known l).2]) h) := by
 have hl0 := (@a7f_cw (kk) (ks) (ko) (term) (known) (l) (hl))
 revert hl0
 cases ho1 : a7B kk ks ko term known l with
 | none =>
  intro hl0
  exact zk (zm (d := D.tup [int 0, bool false]) pok [.sum [0, 2, 3, 5, 8, 9, 10, 11] (zQ 0) { t := mkT 76 0 [(0, aa (y9 zo l)), (8, int 0), (9, bool false), (10, int (-1))], h := [.var [int kk, int ks, int ko]], m := [] }, .g false, .g false, .g false, .g false, .g false, .g false, .ov 70 (bool true), .b true] (by kernel_rfl) (.c hl0 (.c (show (decide (-1 < 0) == false) = false from rfl) (.c (show (decide (-1 < 0) == false) = false from rfl) (.c (show (decide (-1 < 0) == false) = false from rfl) (.c (show (decide (-1 < 0) == false) = false from rfl) (.c (show (decide (-1 < 0) == false) = false from rfl) (.c (show (decide (-1 < 0) == false) = false from rfl) (.c (show ae (bool (decide (-1 < 0))) (bool true) (D.p (Ba (Ah { toList := [] }))) (bool true) from (by first | assumption | rfl | exact af rfl rfl | exact oO ho1 | (refine am ?_ rfl; simp) | (simp; done))) (.c (show true = true from rfl) .n))))))))) rfl rfl h) (by first | (simp only [uA, ho1]; done) | (simp only [uA, ho1, cond_true, cond_false]; rfl) | (exfalso; simp_all; done) | (exfalso; simp_all; omega)) (by rfl)
 | some o1_1_0 =>
  intro hl0
  cases hc2 : decide ((zi l (zh (↑o1_1_0.fst : Int)) default).value < 0)
  ·refine zk (zm (d := D.tup [int (zi l (zh (↑o1_1_0.fst : Int)) default).value, bool true]) pok [.sum [0, 2, 3, 5, 8, 9, 10, 11] (zQ 0) { t := mkT 76 0 [(0, aa (y9 zo l)), (8, int 0), (9, bool false), (10, int (↑o1_1_0.fst : Int))], h := [.var [int kk, int ks, int ko]], m := [] }, .g true, .g true, .g true, .row [vi (zi l (zh (↑o1_1_0.fst : Int)) default).kind, vi (zi l (zh (↑o1_1_0.fst : Int)) default).sub, vi (zi l (zh (↑o1_1_0.fst : Int)) default).obj, vi (zi l (zh (↑o1_1_0.fst : Int)) default).value, vi (zi l (zh (↑o1_1_0.fst : Int)) default).frm, vi (zi l (zh (↑o1_1_0.fst : Int)) default).til, vi (zi l (zh (↑o1_1_0.fst : Int)) default).known, vi (zi l (zh (↑o1_1_0.fst : Int)) default).no], .g true, .g true, .g true, .ov 70 (bool (decide ((zi l (zh (↑o1_1_0.fst : Int)) default).value < 0))), .b false, .row [vi (zi l (zh (↑o1_1_0.fst : Int)) default).kind, vi (zi l (zh (↑o1_1_0.fst : Int)) default).sub, vi (zi l (zh (↑o1_1_0.fst : Int)) default).obj, vi (zi l (zh (↑o1_1_0.fst : Int)) default).value, vi (zi l (zh (↑o1_1_0.fst : Int)) default).frm, vi (zi l (zh (↑o1_1_0.fst : Int)) default).til, vi (zi l (zh (↑o1_1_0.fst : Int)) default).known, vi (zi l (zh (↑o1_1_0.fst : Int)) default).no]] (by kernel_rfl) (.c hl0 (.c (show (decide ((↑o1_1_0.fst : Int) < 0) == false) = true from rfl) (.c (show (decide ((↑o1_1_0.fst : Int) < 0) == false) = true from rfl) (.c (show (decide ((↑o1_1_0.fst : Int) < 0) == false) = true from rfl) (.c (show aj (↑o1_1_0.fst : Int) (y9 zo l) [vi (zi l (zh (↑o1_1_0.fst : Int)) default).kind, vi (zi l (zh (↑o1_1_0.fst : Int)) default).sub, vi (zi l (zh (↑o1_1_0.fst : Int)) default).obj, vi (zi l (zh (↑o1_1_0.fst : Int)) default).value, vi (zi l (zh (↑o1_1_0.fst : Int)) default).frm, vi (zi l (zh (↑o1_1_0.fst : Int)) default).til, vi (zi l (zh (↑o1_1_0.fst : Int)) default).known, vi (zi l (zh (↑o1_1_0.fst : Int)) default).no] 8 from ?_) (.c (show (decide ((↑o1_1_0.fst : Int) < 0) == false) = true from rfl) (.c (show (decide ((↑o1_1_0.fst : Int) < 0) == false) = true from rfl) (.c (show (decide ((↑o1_1_0.fst : Int) < 0) == false) = true from rfl) (.c (show ae (bool (decide ((↑o1_1_0.fst : Int) < 0))) (bool true) (bool (decide ((zi l (zh (↑o1_1_0.fst : Int)) default).value < 0))) (bool (decide ((zi l (zh (↑o1_1_0.fst : Int)) default).value < 0))) from ?_) (.c hc2 (.c (show aj (↑o1_1_0.fst : Int) (y9 zo l) [vi (zi l (zh (↑o1_1_0.fst : Int)) default).kind, vi (zi l (zh (↑o1_1_0.fst : Int)) default).sub, vi (zi l (zh (↑o1_1_0.fst : Int)) default).obj, vi (zi l (zh (↑o1_1_0.fst : Int)) default).value, vi (zi l (zh (↑o1_1_0.fst : Int)) default).frm, vi (zi l (zh (↑o1_1_0.fst : Int)) default).til, vi (zi l (zh (↑o1_1_0.fst : Int)) default).known, vi (zi l (zh (↑o1_1_0.fst : Int)) default).no] 8 from ?_) .n))))))))))) rfl rfl h) (by first | (simp only [uA, ho1, hc2, cond_false]; done) | (simp only [uA, ho1, hc2, cond_true, cond_false]; rfl) | (exfalso; simp_all; done) | (exfalso; simp_all; omega)) (by rfl) <;> (first | assumption | rfl | exact af rfl rfl | exact oO ho1 | (refine am ?_ rfl; simp) | (simp; done))
  ·refine zk (zm (d := D.tup [int 0, bool false]) pok [.sum [0, 2, 3, 5, 8, 9, 10, 11] (zQ 0) { t := mkT 76 0 [(0, aa (y9 zo l)), (8, int 0), (9, bool false), (10, int (↑o1_1_0.fst : Int))], h := [.var [int kk, int ks, int ko]], m := [] }, .g true, .g true, .g true, .row [vi (zi l (zh (↑o1_1_0.fst : Int)) default).kind, vi (zi l (zh (↑o1_1_0.fst : Int)) default).sub, vi (zi l (zh (↑o1_1_0.fst : Int)) default).obj, vi (zi l (zh (↑o1_1_0.fst : Int)) default).value, vi (zi l (zh (↑o1_1_0.fst : Int)) default).frm, vi (zi l (zh (↑o1_1_0.fst : Int)) default).til, vi (zi l (zh (↑o1_1_0.fst : Int)) default).known, vi (zi l (zh (↑o1_1_0.fst : Int)) default).no], .g true, .g true, .g true, .ov 70 (bool (decide ((zi l (zh (↑o1_1_0.fst : Int)) default).value < 0))), .b true] (by kernel_rfl) (.c hl0 (.c (show (decide ((↑o1_1_0.fst : Int) < 0) == false) = true from rfl) (.c (show (decide ((↑o1_1_0.fst : Int) < 0) == false) = true from rfl) (.c (show (decide ((↑o1_1_0.fst : Int) < 0) == false) = true from rfl) (.c (show aj (↑o1_1_0.fst : Int) (y9 zo l) [vi (zi l (zh (↑o1_1_0.fst : Int)) default).kind, vi (zi l (zh (↑o1_1_0.fst : Int)) default).sub, vi (zi l (zh (↑o1_1_0.fst : Int)) default).obj, vi (zi l (zh (↑o1_1_0.fst : Int)) default).value, vi (zi l (zh (↑o1_1_0.fst : Int)) default).frm, vi (zi l (zh (↑o1_1_0.fst : Int)) default).til, vi (zi l (zh (↑o1_1_0.fst : Int)) default).known, vi (zi l (zh (↑o1_1_0.fst : Int)) default).no] 8 from ?_) (.c (show (decide ((↑o1_1_0.fst : Int) < 0) == false) = true from rfl) (.c (show (decide ((↑o1_1_0.fst : Int) < 0) == false) = true from rfl) (.c (show (decide ((↑o1_1_0.fst : Int) < 0) == false) = true from rfl) (.c (show ae (bool (decide ((↑o1_1_0.fst : Int) < 0))) (bool true) (bool (decide ((zi l (zh (↑o1_1_0.fst : Int)) default).value < 0))) (bool (decide ((zi l (zh (↑o1_1_0.fst : Int)) default).value < 0))) from ?_) (.c hc2 .n)))))))))) rfl rfl h) (by first | (simp only [uA, ho1, hc2, cond_true]; done) | (simp only [uA, ho1, hc2, cond_true, cond_false]; rfl) | (exfalso; simp_all; done) | (exfalso; simp_all; omega)) (by rfl) <;> (first | assumption | rfl | exact af rfl rfl | exact oO ho1 | (refine am ?_ rfl; simp) | (simp; done))
end Go.Vi
