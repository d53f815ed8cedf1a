/- RecordFits: part of the proof: contracts of the functions that the law reaches, and the law. No conditions beyond the given statement's own. -/
import Derived.Test.YtilebidefogaiaaGreatDoorV8
import Derived.Test.YtilebidefogaiaaGreatDoorChecked
open List renaming mem_of_getElem? → Ec, getElem?_eq_some_iff → Dm, length → Dh, foldl → DJ, map → De
open Go.Proofs.Tryz renaming prog → Dg, f136 → GZ, f86 → EC, f178 → GU, f226 → DV, f239 → HV
open Go.IntKind renaming u64 → Fu, wrap → Dr, i64 → Dj
open Bool renaming false_and → Ej, false_eq_true → D8, not_eq_true' → EL
open Go.Vi.Ev renaming sym0 → DR, of_sym → FC, castH → Dv, glob0 → DW
open Nat renaming gcd → Eu
open Go.Vi.CW renaming cast → DN, symX → DP, rangeFunc → Ir
open Go.Exit renaming normal → DE, ret → EY, exit → Ea
open Go.LoopState renaming ready → DM, busy → ES, exhausted → Ee, done → Fy
open Go.Vi.D renaming fn → EA
open Go.Fn renaming func → DG
open Go.Value renaming tuple → FZ
open Go.Code renaming ret → GF
open Go Go.Proofs
namespace Go.Vi
theorem pok_of {P : Program} (h1 : P.follows .mixedOrders = true) (h2 : (P.funcs.toList.all fun fn => !(fn.name == "runtime.NumGoroutine")) = true) : POk P where
 mixed := h1
 plain f fn hf := by
  have := List.all_eq_true.1 h2 fn (by rw [← Array.getElem?_toList] at hf; exact Ec hf)
  simpa using this
abbrev int (n : Int) : D := lit (.int .i64 n)
abbrev u64 (n : Int) : D := lit (.int .u64 n)
abbrev bool (b : Bool) : D := lit (.bool b)
abbrev vi (n : Int) : Dp := .v (.int .i64 n)
abbrev vs (s : ByteArray) : Dp := .v (.string s)
abbrev aA (s : ByteArray) : D := lit (.string s)
abbrev ab (es : List (List Dp)) : D := .p (.sl es)
abbrev ag (r : List Dp) : D := .agg (r.map .p)
abbrev nq : D := lit (.slice none 0 0)
abbrev fq (k : Nat) : D := lit (.func (.func k) #[] #[])
theorem gd {p : Prop} (c : Bool) (h : p) : c = true → p := fun _ => h
abbrev Γ0 : am := fun _ => none
theorem pok : POk Dg := pok_of (by kernel_rfl) (by kernel_rfl)
end Go.Vi
open Go Go.Proofs
namespace Go.Vi
set_option maxRecDepth 100000
def I64 (n : Int) : Prop := -9223372036854775808 ≤ n ∧ n ≤ 9223372036854775807
theorem AU {n : Int} (h : I64 n) (hn : n < 0) : Fu.wrap (0 - Fu.wrap n) = (n.natAbs : Int) := by
 obtain ⟨h1, h2⟩ := h
 simp only [Dr, IntKind.bits, IntKind.signed, Ej, D8, if_false]
 omega
theorem AV {n : Int} (h : I64 n) (hn : ¬ n < 0) : Fu.wrap n = (n.natAbs : Int) := by
 obtain ⟨h1, h2⟩ := h
 simp only [Dr, IntKind.bits, IntKind.signed, Ej, D8, if_false]
 omega
theorem fy {n : Int} (hn : I64 n) (h : List Blk) : Ev Dg Γ0 147 [int n] h (u64 n.natAbs) h := by
 by_cases h0 : n < 0
 ·rw [← AU hn h0]
  exact DR pok (φ := [decide (n < 0) = true]) [.b true] (by kernel_rfl) ⟨by simpa using h0, trivial⟩ rfl rfl h
 ·rw [← AV hn h0]
  exact DR pok (φ := [decide (n < 0) = false]) [.b false] (by kernel_rfl) ⟨by simpa using h0, trivial⟩ rfl rfl h
abbrev c6 : Blk := .var [.fn (.func 146) [] [.ref (.ptr 0 0)]]
theorem AW : ∀ (y x : Nat), Ev Dg Γ0 146 [u64 x, u64 y, .ref (.ptr 0 0)] [c6] (u64 (Eu y x)) [c6] := by
 intro y
 induction y using Nat.strongRecOn with
 | _ y ih =>
  intro x
  by_cases h0 : y = 0
  ·subst h0
   rw [Nat.gcd_zero_left]
   exact FC pok (φ := [((0 : Int) == 0) = true]) [.b true] (by kernel_rfl) ⟨by simp, trivial⟩
  ·have hi := ih (x % y) (Nat.mod_lt _ (by omega)) y
   rw [← Nat.gcd_rec] at hi
   refine FC pok (φ := [((y : Int) == 0) = false, (!decide ((y : Int) = 0)) = true, Ev Dg Γ0 146 [u64 y, u64 ((x : Int).tmod y), .ref (.ptr 0 0)] [c6] (u64 (Eu y x)) [c6]]) [.b false, .val (u64 (Eu y x))] (by kernel_rfl) ⟨?_, ?_, ?_, trivial⟩
   ·simp; omega
   ·simp; omega
   ·rw [show (x : Int).tmod y = ((x % y : Nat) : Int) by rw [Int.tmod_eq_emod_of_nonneg (by omega)]; simp]
    exact hi
theorem gW {a b : Int} (ha : I64 a) (hb : I64 b) (h : List Blk) : Ev Dg Γ0 101 [int a, int b] h (u64 (Eu b.natAbs a.natAbs)) h :=
 DR pok (φ := [Ev Dg Γ0 147 [int a] [c6] (u64 a.natAbs) [c6], Ev Dg Γ0 147 [int b] [c6] (u64 b.natAbs) [c6],
   Ev Dg Γ0 146 [u64 a.natAbs, u64 b.natAbs, .ref (.ptr 0 0)] [c6] (u64 (Eu b.natAbs a.natAbs)) [c6]])
  [.val (u64 a.natAbs), .val (u64 b.natAbs), .val (u64 (Eu b.natAbs a.natAbs))] (by kernel_rfl) ⟨fy ha _, fy hb _, AW _ _, trivial⟩ rfl rfl h
def C6 (n d : Int) : Bool := decide (d < 1) || decide (d > 1073741824) || decide (n < -1073741824) || decide (n > 1073741824) || (Eu d.natAbs n.natAbs : Int) != 1
def uh (n d : Int) : Int := if C6 n d then 50 else 0
theorem yy {n d : Int} (hn : I64 n) (hd : I64 d) (h : List Blk) : Ev Dg Γ0 49 [.agg [int n, int d]] h (int (uh n d)) h := by
 have hc := gW hn hd [.var [int n, int d]]
 cases hb : C6 n d
 ·simp only [uh, hb]
  exact DR pok (φ := [(!(decide (d < 1) || decide (d > 1073741824) || decide (n < -1073741824) || decide (n > 1073741824))) = true →
    Ev Dg Γ0 101 [int n, int d] [.var [int n, int d]] (u64 (Eu d.natAbs n.natAbs)) [.var [int n, int d]], C6 n d = false])
   [.val (u64 (Eu d.natAbs n.natAbs)), .b false] (by kernel_rfl) ⟨fun _ => hc, hb, trivial⟩ rfl rfl h
 ·simp only [uh, hb]
  exact DR pok (φ := [(!(decide (d < 1) || decide (d > 1073741824) || decide (n < -1073741824) || decide (n > 1073741824))) = true →
    Ev Dg Γ0 101 [int n, int d] [.var [int n, int d]] (u64 (Eu d.natAbs n.natAbs)) [.var [int n, int d]], C6 n d = true])
   [.val (u64 (Eu d.natAbs n.natAbs)), .b true] (by kernel_rfl) ⟨fun _ => hc, hb, trivial⟩ rfl rfl h
end Go.Vi
open Go Go.Proofs
namespace Go.Vi
set_option maxRecDepth 100000
end Go.Vi
open Go Go.Proofs
namespace Go.Vi
set_option maxRecDepth 100000
set_option maxHeartbeats 20000
structure Cls where
 name : ByteArray
 earn : Int
 num : Int
 den : Int
 deriving Inhabited
def Cls.row (c : Cls) : List Dp := [vs c.name, vi c.earn, vi c.num, vi c.den]
def Cls.ok (c : Cls) : Prop := I64 c.earn ∧ I64 c.num ∧ I64 c.den
structure FeeT where
 name : ByteArray
 credits : Int
 deriving Inhabited
def FeeT.row (c : FeeT) : List Dp := [vs c.name, vi c.credits]
def al {α : Type} (l : List α) : Prop := l.length ≤ 140737488355328
theorem yz {α : Type} {row : α → List Dp} {l : List α} {n : Nat} {a : α} (h : l[n]? = some a) : (l.map row).getD n [] = row a := by
 simp [List.getD_eq_getElem?_getD, h]
theorem rowAt {α : Type} {row : α → List Dp} {l : List α} {n : Nat} {a : α} {sz : Nat} (h : l[n]? = some a) (hs : (row a).length = sz) : aM (n : Int) (l.map row) (row a) sz := by
 have := (Dm.1 h).1
 refine ⟨?_, yz h, hs⟩
 simp [inR]
 omega
end Go.Vi
open Go Go.Proofs
namespace Go.Vi
set_option maxRecDepth 100000
set_option maxHeartbeats 40000
structure Sys where
 classes : List Cls
 fees : List FeeT
 honours : List Cls
 clauses : List (List Dp)
structure Sys.ok (s : Sys) : Prop where
 c : ∀ c ∈ s.classes, c.ok
 h : ∀ c ∈ s.honours, c.ok
 f : ∀ f ∈ s.fees, I64 f.credits
 lc : al s.classes
 lh : al s.honours
 lf : al s.fees
 ll : al s.clauses
def fnv (k : Nat) : D := lit (.func (.func k) #[] #[])
end Go.Vi
open Go Go.Proofs
namespace Go.Vi
set_option maxRecDepth 100000
set_option maxHeartbeats 40000
theorem fO (a : Int) (h : List Blk) : Ev Dg Γ0 123 [int a] h (bool false) h := by
 have := DR (P := Dg) (Γ := Γ0) (f := 123) (args := [int a]) (d := bool (a != a)) pok (φ := []) [] (by kernel_rfl) trivial rfl rfl h
 simpa using this
def aR (a b : Int) : Int := if a < b then -1 else if a > b then 1 else 0
theorem cX (a b : Int) (h : List Blk) : Ev Dg Γ0 66 [int a, int b] h (int (aR a b)) h := by
 by_cases h1 : a < b
 ·simp only [aR, h1, if_true]
  exact DR pok (φ := [Ev Dg Γ0 123 [int a] [] (bool false) [], Ev Dg Γ0 123 [int b] [] (bool false) [], false = false, false = false, decide (a < b) = true])
   [.val (bool false), .val (bool false), .b false, .b false, .b true] (by kernel_rfl) ⟨fO _ _, fO _ _, rfl, rfl, decide_eq_true h1, trivial⟩ rfl rfl h
 ·by_cases h2 : a > b
  ·simp only [aR, h1, h2, if_true, if_false]
   exact DR pok (φ := [Ev Dg Γ0 123 [int a] [] (bool false) [], Ev Dg Γ0 123 [int b] [] (bool false) [], false = false, false = false, decide (a < b) = false, decide (a > b) = true])
    [.val (bool false), .val (bool false), .b false, .b false, .b false, .b true] (by kernel_rfl) ⟨fO _ _, fO _ _, rfl, rfl, decide_eq_false h1, decide_eq_true h2, trivial⟩ rfl rfl h
  ·simp only [aR, h1, h2, if_false]
   exact DR pok (φ := [Ev Dg Γ0 123 [int a] [] (bool false) [], Ev Dg Γ0 123 [int b] [] (bool false) [], false = false, false = false, decide (a < b) = false, decide (a > b) = false])
    [.val (bool false), .val (bool false), .b false, .b false, .b false, .b false] (by kernel_rfl) ⟨fO _ _, fO _ _, rfl, rfl, decide_eq_false h1, decide_eq_false h2, trivial⟩ rfl rfl h
end Go.Vi
open Go Go.Proofs
namespace Go.Vi
set_option maxRecDepth 100000
set_option maxHeartbeats 4000000
structure FactT where
 kind : Int
 sub : Int
 obj : Int
 value : Int
 frm : Int
 til : Int
 known : Int
 no : Int
 deriving Inhabited
def FactT.row (f : FactT) : List Dp := [vi f.kind, vi f.sub, vi f.obj, vi f.value, vi f.frm, vi f.til, vi f.known, vi f.no]
def FactT.ok (f : FactT) : Prop := I64 f.kind ∧ I64 f.sub ∧ I64 f.obj ∧ I64 f.value ∧ I64 f.frm ∧ I64 f.til ∧ I64 f.known ∧ I64 f.no
def orI (a b : Int) : Int := if (a != 0) = true then a else if (b != 0) = true then b else 0
abbrev orR (a b : Int) : List (List Dp) := [[vi a], [vi b]]
abbrev orS (a b : Int) (i : Int) (h : List Blk) : AS := { t := mkT 18 0 [(2, int 0), (3, int 0), (6, ab (orR a b)), (7, int 2), (8, int i)], h := h, m := [] }
theorem or_0 {a b : Int} {h0 h : List Blk} (hr : aM 0 (orR a b) [vi a] 1) (hz : (a != 0) = false) : (CW Dg Γ0 h0 false (sub GZ 0) (orS a b 0 h) .normal (orS a b 1 h)) := by
 refine DN (DP (s' := { t := mkT 18 0 [(2, int 0), (3, int 0), (6, ab [[vi a], [vi b]]), (7, int 2), (8, int (Dr Dj (0 + 1)))], h := h, m := [] }) (e := DE) pok [.st (.mask [2, 3, 6, 7, 8])] [.b true, .row [vi a], .b false] (by kernel_rfl) (.c (show decide (0 < 2) = true from rfl) (.c hr (.c hz .n)))) ?_ ?_ <;> (first | rfl | simp_all)
theorem or_1 {a b : Int} {h0 h : List Blk} (hr : aM 1 (orR a b) [vi b] 1) (hz : (b != 0) = false) : (CW Dg Γ0 h0 false (sub GZ 0) (orS a b 1 h) .normal (orS a b 2 h)) := by
 refine DN (DP (s' := { t := mkT 18 0 [(2, int 0), (3, int 0), (6, ab [[vi a], [vi b]]), (7, int 2), (8, int (Dr Dj (1 + 1)))], h := h, m := [] }) (e := DE) pok [.st (.mask [2, 3, 6, 7, 8])] [.b true, .row [vi b], .b false] (by kernel_rfl) (.c (show decide (1 < 2) = true from rfl) (.c hr (.c hz .n)))) ?_ ?_ <;> (first | rfl | simp_all)
theorem or_0r {a b : Int} {h0 h : List Blk} (hr : aM 0 (orR a b) [vi a] 1) (hz : (a != 0) = true) : (CW Dg Γ0 h0 false (sub GZ 0) (orS a b 0 h) .ret { t := mkT 18 0 [(2, int a)], h := h, m := [] }) := by
 refine DN (DP (s' := { t := mkT 18 0 [(2, int a)], h := h, m := [] }) (e := EY) pok [.st (.mask [2])] [.b true, .row [vi a], .b true] (by kernel_rfl) (.c (show decide (0 < 2) = true from rfl) (.c hr (.c hz .n)))) ?_ ?_ <;> (first | rfl | simp_all)
theorem or_1r {a b : Int} {h0 h : List Blk} (hr : aM 1 (orR a b) [vi b] 1) (hz : (b != 0) = true) : (CW Dg Γ0 h0 false (sub GZ 0) (orS a b 1 h) .ret { t := mkT 18 0 [(2, int b)], h := h, m := [] }) := by
 refine DN (DP (s' := { t := mkT 18 0 [(2, int b)], h := h, m := [] }) (e := EY) pok [.st (.mask [2])] [.b true, .row [vi b], .b true] (by kernel_rfl) (.c (show decide (1 < 2) = true from rfl) (.c hr (.c hz .n)))) ?_ ?_ <;> (first | rfl | simp_all)
theorem or_2 {a b : Int} {h0 h : List Blk} : (CW Dg Γ0 h0 false (sub GZ 0) (orS a b 2 h) (.exit 0) { t := mkT 18 0 [(2, int 0), (3, int 0)], h := h, m := [] }) := by
 refine DN (DP (s' := { t := mkT 18 0 [(2, int 0), (3, int 0)], h := h, m := [] }) (e := Ea 0) pok [.st (.mask [2, 3])] [.b false] (by kernel_rfl) (.c (show decide (2 < 2) = false from rfl) .n)) ?_ ?_ <;> (first | rfl | simp_all)
def vS (a b : Int) (h : List Blk) : Exit × AS := match a != 0 with
 | true => (.ret, { t := mkT 18 0 [(2, int a)], h := h, m := [] })
 | false => match b != 0 with
  | true => (.ret, { t := mkT 18 0 [(2, int b)], h := h, m := [] })
  | false => (.exit 0, { t := mkT 18 0 [(2, int 0), (3, int 0)], h := h, m := [] })
theorem or_cw {a b : Int} {h0 h : List Blk} : CW Dg Γ0 h0 false (.loop (sub GZ 0)) (orS a b 0 h) (vS a b h).1 (vS a b h).2 := by
 have r0 : aM 0 (orR a b) [vi a] 1 := ⟨rfl, rfl, rfl⟩
 have r1 : aM 1 (orR a b) [vi b] 1 := ⟨rfl, rfl, rfl⟩
 unfold vS
 cases ha : a != 0
 ·cases hb : b != 0
  ·refine CW.loopN 2 (fun i => orS a b i h) (by simp) (fun i hi => ?_) or_2
   match i, hi with
   | 0, _ => exact or_0 r0 ha
   | 1, _ => exact or_1 r1 hb
  ·refine CW.loopN 1 (fun i => orS a b i h) (by simp) (fun i hi => ?_) (or_1r r1 hb)
   match i, hi with
   | 0, _ => exact or_0 r0 ha
 ·exact CW.loopN 0 (fun i => orS a b i h) (by simp) (fun i hi => absurd hi (Nat.not_lt_zero i)) (or_0r r0 ha)
noncomputable abbrev dA (a : FactT) (b : FactT) : List Blk := [.var [int a.kind, int a.sub, int a.obj, int a.value, int a.frm, int a.til, int a.known, int a.no], .var [int b.kind, int b.sub, int b.obj, int b.value, int b.frm, int b.til, int b.known, int b.no]]
theorem n8 {a b : FactT} (h : List Blk) : (Ev Dg Γ0 84 [ag a.row, ag b.row] h (int (orI (aR a.known b.known) (aR a.no b.no))) h) := by
 have hl0 := (@or_cw (aR a.known b.known) (aR a.no b.no) ([.var [int a.kind, int a.sub, int a.obj, int a.value, int a.frm, int a.til, int a.known, int a.no], .var [int b.kind, int b.sub, int b.obj, int b.value, int b.frm, int b.til, int b.known, int b.no], .vec [[int (aR a.known b.known)], [int (aR a.no b.no)]] 0 1]) ([.var [int a.kind, int a.sub, int a.obj, int a.value, int a.frm, int a.til, int a.known, int a.no], .var [int b.kind, int b.sub, int b.obj, int b.value, int b.frm, int b.til, int b.known, int b.no], .gone]))
 unfold vS at hl0
 revert hl0
 cases ho1 : aR a.known b.known != 0 with
 | false =>
  intro hl0
  revert hl0
  cases ho2 : aR a.no b.no != 0 with
  | false =>
   intro hl0
   exact Dv (DR (d := int 0) pok [.val (int (aR a.known b.known)), .val (int (aR a.no b.no)), .inl, .st (.frz 2 (orR (aR a.known b.known) (aR a.no b.no))), .sum [2, 3, 6, 7, 8] (Ea 0) { t := mkT 18 0 [(2, int 0), (3, int 0)], h := [.var [int a.kind, int a.sub, int a.obj, int a.value, int a.frm, int a.til, int a.known, int a.no], .var [int b.kind, int b.sub, int b.obj, int b.value, int b.frm, int b.til, int b.known, int b.no], .gone], m := [] }] (by kernel_rfl) (.c (@cX (a.known) (b.known) (dA a b)) (.c (@cX (a.no) (b.no) (dA a b)) (.c (show [[int (aR a.known b.known)], [int (aR a.no b.no)]] = [[int (aR a.known b.known)], [int (aR a.no b.no)]] from rfl) (.c hl0 (.e (.ref (.ptr 0 6)) (.e (int a.known) (.e (.ref (.ptr 1 6)) (.e (int b.known) (.e (.ref (.ptr 0 7)) (.e (.ref (.ptr 0 7)) (.e (int a.no) (.e (int a.no) (.e (.ref (.ptr 1 7)) (.e (.ref (.ptr 1 7)) (.e (int b.no) (.e (int b.no) .n)))))))))))))))) rfl rfl h) (by simp [orI, ho1, ho2]) (by rfl)
  | true =>
   intro hl0
   exact Dv (DR (d := int (aR a.no b.no)) pok [.val (int (aR a.known b.known)), .val (int (aR a.no b.no)), .inl, .st (.frz 2 (orR (aR a.known b.known) (aR a.no b.no))), .sum [2, 3, 6, 7, 8] (EY) { t := mkT 18 0 [(2, int (aR a.no b.no))], h := [.var [int a.kind, int a.sub, int a.obj, int a.value, int a.frm, int a.til, int a.known, int a.no], .var [int b.kind, int b.sub, int b.obj, int b.value, int b.frm, int b.til, int b.known, int b.no], .gone], m := [] }] (by kernel_rfl) (.c (@cX (a.known) (b.known) (dA a b)) (.c (@cX (a.no) (b.no) (dA a b)) (.c (show [[int (aR a.known b.known)], [int (aR a.no b.no)]] = [[int (aR a.known b.known)], [int (aR a.no b.no)]] from rfl) (.c hl0 (.e (.ref (.ptr 0 6)) (.e (int a.known) (.e (.ref (.ptr 1 6)) (.e (int b.known) (.e (.ref (.ptr 0 7)) (.e (.ref (.ptr 0 7)) (.e (int a.no) (.e (int a.no) (.e (.ref (.ptr 1 7)) (.e (.ref (.ptr 1 7)) (.e (int b.no) (.e (int b.no) .n)))))))))))))))) rfl rfl h) (by simp [orI, ho1, ho2]) (by rfl)
 | true =>
  intro hl0
  exact Dv (DR (d := int (aR a.known b.known)) pok [.val (int (aR a.known b.known)), .val (int (aR a.no b.no)), .inl, .st (.frz 2 (orR (aR a.known b.known) (aR a.no b.no))), .sum [2, 3, 6, 7, 8] (EY) { t := mkT 18 0 [(2, int (aR a.known b.known))], h := [.var [int a.kind, int a.sub, int a.obj, int a.value, int a.frm, int a.til, int a.known, int a.no], .var [int b.kind, int b.sub, int b.obj, int b.value, int b.frm, int b.til, int b.known, int b.no], .gone], m := [] }] (by kernel_rfl) (.c (@cX (a.known) (b.known) (dA a b)) (.c (@cX (a.no) (b.no) (dA a b)) (.c (show [[int (aR a.known b.known)], [int (aR a.no b.no)]] = [[int (aR a.known b.known)], [int (aR a.no b.no)]] from rfl) (.c hl0 (.e (.ref (.ptr 0 6)) (.e (int a.known) (.e (.ref (.ptr 1 6)) (.e (int b.known) (.e (.ref (.ptr 0 7)) (.e (.ref (.ptr 0 7)) (.e (int a.no) (.e (int a.no) (.e (.ref (.ptr 1 7)) (.e (.ref (.ptr 1 7)) (.e (int b.no) (.e (int b.no) .n)))))))))))))))) rfl rfl h) (by simp [orI, ho1]) (by rfl)
end Go.Vi
open Go Go.Proofs
namespace Go.Vi
set_option maxRecDepth 100000
set_option maxHeartbeats 40000
theorem wrap_succ {i n : Nat} (h : i < n) (hn : n ≤ 140737488355328) : Dj.wrap ((i : Int) + 1) = ((i + 1 : Nat) : Int) := by
 rw [wrap_i64 (by omega) (by omega)]; omega
theorem lt_len {α : Type} (row : α → List Dp) {l : List α} {i : Nat} (h : i < l.length) : decide ((i : Int) < ((l.map row).length : Int)) = true := by simp; omega
theorem cw {α : Type} (row : α → List Dp) (l : List α) : decide ((l.length : Int) < ((l.map row).length : Int)) = false := by simp
end Go.Vi
open Go Go.Proofs
namespace Go.Vi
set_option maxRecDepth 100000
set_option maxHeartbeats 4000000
structure AttT where
 course : Int
 term : Int
 grade : Int
 campus : Int
 credits : Int
 deriving Inhabited
def AttT.row (a : AttT) : List Dp := [vi a.course, vi a.term, vi a.grade, vi a.campus, vi a.credits]
theorem aO {n a b : Int} (h : List Blk) : (Ev Dg Γ0 59 [int n, int a, int b] h (bool (decide (n ≥ a) && decide (n ≤ b))) h) := by
 exact Dv (DR (d := bool (decide (n ≥ a) && decide (n ≤ b))) pok [] (by kernel_rfl) .n rfl rfl h) (by rfl) (by rfl)
theorem eA {n a b : Int} (h : List Blk) : (Ev Dg Γ0 87 [int n, int a, int b] h (bool (decide (n ≥ a) && decide (n ≤ b))) h) := by
 exact Dv (DR (d := bool (decide (n ≥ a) && decide (n ≤ b))) pok [] (by kernel_rfl) .n rfl rfl h) (by rfl) (by rfl)
theorem aN {n a b : Int} (h : List Blk) : (Ev Dg Γ0 113 [int n, int a, int b] h (bool (decide (n ≥ a) && decide (n ≤ b))) h) := by
 exact Dv (DR (d := bool (decide (n ≥ a) && decide (n ≤ b))) pok [] (by kernel_rfl) .n rfl rfl h) (by rfl) (by rfl)
theorem cJ {n a b : Int} (h : List Blk) : (Ev Dg Γ0 164 [int n, int a, int b] h (bool (decide (n ≥ a) && decide (n ≤ b))) h) := by
 exact Dv (DR (d := bool (decide (a ≤ n) && decide (n ≤ b))) pok [] (by kernel_rfl) .n rfl rfl h) (by rfl) (by rfl)
noncomputable abbrev cY (a : AttT) (b : AttT) : List Blk := [.var [int a.course, int a.term, int a.grade, int a.campus, int a.credits], .var [int b.course, int b.term, int b.grade, int b.campus, int b.credits]]
theorem gX {a b : AttT} (h : List Blk) : (Ev Dg Γ0 79 [ag a.row, ag b.row] h (int (orI (aR a.term b.term) (aR a.course b.course))) h) := by
 have hl0 := (@or_cw (aR a.term b.term) (aR a.course b.course) ([.var [int a.course, int a.term, int a.grade, int a.campus, int a.credits], .var [int b.course, int b.term, int b.grade, int b.campus, int b.credits], .vec [[int (aR a.term b.term)], [int (aR a.course b.course)]] 0 1]) ([.var [int a.course, int a.term, int a.grade, int a.campus, int a.credits], .var [int b.course, int b.term, int b.grade, int b.campus, int b.credits], .gone]))
 unfold vS at hl0
 revert hl0
 cases ho1 : aR a.term b.term != 0 with
 | false =>
  intro hl0
  revert hl0
  cases ho2 : aR a.course b.course != 0 with
  | false =>
   intro hl0
   exact Dv (DR (d := int 0) pok [.val (int (aR a.term b.term)), .val (int (aR a.course b.course)), .inl, .st (.frz 2 (orR (aR a.term b.term) (aR a.course b.course))), .sum [2, 3, 6, 7, 8] (Ea 0) { t := mkT 18 0 [(2, int 0), (3, int 0)], h := [.var [int a.course, int a.term, int a.grade, int a.campus, int a.credits], .var [int b.course, int b.term, int b.grade, int b.campus, int b.credits], .gone], m := [] }] (by kernel_rfl) (.c (@cX (a.term) (b.term) (cY a b)) (.c (@cX (a.course) (b.course) (cY a b)) (.c (show [[int (aR a.term b.term)], [int (aR a.course b.course)]] = [[int (aR a.term b.term)], [int (aR a.course b.course)]] from rfl) (.c hl0 (.e (.ref (.ptr 0 1)) (.e (int a.term) (.e (.ref (.ptr 1 1)) (.e (int b.term) (.e (.ref (.ptr 0 0)) (.e (.ref (.ptr 0 0)) (.e (int a.course) (.e (int a.course) (.e (.ref (.ptr 1 0)) (.e (.ref (.ptr 1 0)) (.e (int b.course) (.e (int b.course) .n)))))))))))))))) rfl rfl h) (by simp [orI, ho1, ho2]) (by rfl)
  | true =>
   intro hl0
   exact Dv (DR (d := int (aR a.course b.course)) pok [.val (int (aR a.term b.term)), .val (int (aR a.course b.course)), .inl, .st (.frz 2 (orR (aR a.term b.term) (aR a.course b.course))), .sum [2, 3, 6, 7, 8] (EY) { t := mkT 18 0 [(2, int (aR a.course b.course))], h := [.var [int a.course, int a.term, int a.grade, int a.campus, int a.credits], .var [int b.course, int b.term, int b.grade, int b.campus, int b.credits], .gone], m := [] }] (by kernel_rfl) (.c (@cX (a.term) (b.term) (cY a b)) (.c (@cX (a.course) (b.course) (cY a b)) (.c (show [[int (aR a.term b.term)], [int (aR a.course b.course)]] = [[int (aR a.term b.term)], [int (aR a.course b.course)]] from rfl) (.c hl0 (.e (.ref (.ptr 0 1)) (.e (int a.term) (.e (.ref (.ptr 1 1)) (.e (int b.term) (.e (.ref (.ptr 0 0)) (.e (.ref (.ptr 0 0)) (.e (int a.course) (.e (int a.course) (.e (.ref (.ptr 1 0)) (.e (.ref (.ptr 1 0)) (.e (int b.course) (.e (int b.course) .n)))))))))))))))) rfl rfl h) (by simp [orI, ho1, ho2]) (by rfl)
 | true =>
  intro hl0
  exact Dv (DR (d := int (aR a.term b.term)) pok [.val (int (aR a.term b.term)), .val (int (aR a.course b.course)), .inl, .st (.frz 2 (orR (aR a.term b.term) (aR a.course b.course))), .sum [2, 3, 6, 7, 8] (EY) { t := mkT 18 0 [(2, int (aR a.term b.term))], h := [.var [int a.course, int a.term, int a.grade, int a.campus, int a.credits], .var [int b.course, int b.term, int b.grade, int b.campus, int b.credits], .gone], m := [] }] (by kernel_rfl) (.c (@cX (a.term) (b.term) (cY a b)) (.c (@cX (a.course) (b.course) (cY a b)) (.c (show [[int (aR a.term b.term)], [int (aR a.course b.course)]] = [[int (aR a.term b.term)], [int (aR a.course b.course)]] from rfl) (.c hl0 (.e (.ref (.ptr 0 1)) (.e (int a.term) (.e (.ref (.ptr 1 1)) (.e (int b.term) (.e (.ref (.ptr 0 0)) (.e (.ref (.ptr 0 0)) (.e (int a.course) (.e (int a.course) (.e (.ref (.ptr 1 0)) (.e (.ref (.ptr 1 0)) (.e (int b.course) (.e (int b.course) .n)))))))))))))))) rfl rfl h) (by simp [orI, ho1]) (by rfl)
def inB (n a b : Int) : Bool := decide (n ≥ a) && decide (n ≤ b)
def oO (a : AttT) : Bool := inB a.course 0 4095 && inB a.term 0 1023 && inB a.grade 0 12 && inB a.campus 0 6 && inB a.credits 0 60
noncomputable abbrev dP (a : AttT) : List Blk := [.var [int a.course, int a.term, int a.grade, int a.campus, int a.credits]]
theorem yA {a : AttT} (h : List Blk) : (Ev Dg Γ0 157 [ag a.row] h (bool (oO a)) h) := by
 exact Dv (DR (d := bool (decide (a.course ≥ 0) && decide (a.course ≤ 4095) && (decide (a.term ≥ 0) && decide (a.term ≤ 1023)) && (decide (a.grade ≥ 0) && decide (a.grade ≤ 12)) && (decide (a.campus ≥ 0) && decide (a.campus ≤ 6)) && (decide (a.credits ≥ 0) && decide (a.credits ≤ 60)))) pok [.val (bool (decide (a.course ≥ 0) && decide (a.course ≤ 4095))), .val (bool (decide (a.term ≥ 0) && decide (a.term ≤ 1023))), .val (bool (decide (a.grade ≥ 0) && decide (a.grade ≤ 12))), .val (bool (decide (a.campus ≥ 0) && decide (a.campus ≤ 6))), .val (bool (decide (a.credits ≥ 0) && decide (a.credits ≤ 60)))] (by kernel_rfl) (.c (@cJ (a.course) 0 4095 (dP a)) (.c (gd (decide (a.course ≥ 0) && decide (a.course ≤ 4095)) (@cJ (a.term) 0 1023 (dP a))) (.c (gd (decide (a.course ≥ 0) && decide (a.course ≤ 4095) && (decide (a.term ≥ 0) && decide (a.term ≤ 1023))) (@cJ (a.grade) 0 12 (dP a))) (.c (gd (decide (a.course ≥ 0) && decide (a.course ≤ 4095) && (decide (a.term ≥ 0) && decide (a.term ≤ 1023)) && (decide (a.grade ≥ 0) && decide (a.grade ≤ 12))) (@cJ (a.campus) 0 6 (dP a))) (.c (gd (decide (a.course ≥ 0) && decide (a.course ≤ 4095) && (decide (a.term ≥ 0) && decide (a.term ≤ 1023)) && (decide (a.grade ≥ 0) && decide (a.grade ≤ 12)) && (decide (a.campus ≥ 0) && decide (a.campus ≤ 6))) (@cJ (a.credits) 0 60 (dP a))) .n))))) rfl rfl h) (by rfl) (by rfl)
noncomputable abbrev pT (a : AttT) : List Blk := [.var [int a.course, int a.term, int a.grade, int a.campus, int a.credits]]
theorem vT {a : AttT} (h : List Blk) : (Ev Dg Γ0 156 [ag a.row] h (bool (!oO a)) h) := by
 exact Dv (DR (d := bool !oO a) pok [.val (bool (oO a))] (by kernel_rfl) (.c (@yA a (pT a)) .n) rfl rfl h) (by rfl) (by rfl)
end Go.Vi
open Go Go.Proofs
namespace Go.Vi
set_option maxRecDepth 100000
set_option maxHeartbeats 4000000
structure ClauseT where
 kind : Int
 when_ : Int
 action : Int
 til : Int
 deriving Inhabited
def ClauseT.row (a : ClauseT) : List Dp := [vi a.kind, vi a.when_, vi a.action, vi a.til]
def xaF (p : AttT → Bool) (c : AttT) (s : Nat) : Nat ⊕ Nat := if p c = true then .inr s else .inl (s + 1)
abbrev xaS (fs : List (List Dp)) (f : D) (h : List Blk) (i : Int) : AS := { t := mkT 19 0 [(0, ab fs), (1, f), (4, int 0), (7, int fs.length), (8, int i)], h := h, m := [] }
abbrev xaX (h : List Blk) : Nat → Exit × AS := fun k => (.ret, { t := mkT 19 0 [(4, int (k : Int))], h := h, m := [] })
theorem AX {fs : List (List Dp)} {i : Nat} {c : AttT} {f : D} {h : List Blk} {p : AttT → Bool} (hr : aM (i : Int) fs (AttT.row c) 5) (hlt : decide ((i : Int) < (fs.length : Int)) = true) (hw : Dj.wrap ((i : Int) + 1) = ((i + 1 : Nat) : Int)) (hi : Iv Dg Γ0 f [ag (AttT.row c)] h (bool (p c)) h) : (CW Dg Γ0 h false (sub Tryz.f196 0) (xaS fs f h i) (ad (fun _ => xaS fs f h ((i + 1 : Nat) : Int)) (xaX h) (xaF p c i)).1 (ad (fun _ => xaS fs f h ((i + 1 : Nat) : Int)) (xaX h) (xaF p c i)).2) := by
 cases hc0 : p c
 ·exact DN (DP (s' := { t := mkT 19 0 [(0, ab fs), (1, f), (4, int 0), (7, int (↑(Dh fs) : Int)), (8, int (Dr Dj ((↑i : Int) + 1)))], h := h, m := [] }) (e := DE) pok [.st (.mask [0, 1, 4, 7, 8])] [.b true, .row (AttT.row c), .ival (bool (p c)), .b false] (by kernel_rfl) (.c hlt (.c hr (.c (@hi) (.c hc0 .n))))) (by simp [xaF, ad, *]) (by simp [xaF, ad, *])
 ·exact DN (DP (s' := { t := mkT 19 0 [(4, int (↑i : Int))], h := h, m := [] }) (e := EY) pok [.st (.mask [4])] [.b true, .row (AttT.row c), .ival (bool (p c)), .b true] (by kernel_rfl) (.c hlt (.c hr (.c (@hi) (.c hc0 .n))))) (by simp [xaF, ad, *]) (by simp [xaF, ad, *])
theorem AY {fs : List (List Dp)} {i : Nat} {f : D} {h : List Blk} (hlt : decide ((i : Int) < (fs.length : Int)) = false) : (CW Dg Γ0 h false (sub Tryz.f196 0) (xaS fs f h i) (.exit 0) { t := mkT 19 0 [(4, int 0)], h := h, m := [] }) := by
 exact DN (DP (s' := { t := mkT 19 0 [(4, int 0)], h := h, m := [] }) (e := Ea 0) pok [.st (.mask [4])] [.b false] (by kernel_rfl) (.c hlt .n)) (by rfl) (by rfl)
def xaR (p : AttT → Bool) (l : List AttT) : Int := match forL (xaF p) l 0 with | .inl _ => -1 | .inr k => (k : Int)
def AZ (h : List Blk) (p : AttT → Bool) (l : List AttT) : Exit × AS := cG (.exit 0) (fun _ : Nat => { t := mkT 19 0 [(4, int 0)], h := h, m := [] }) (xaX h) (forL (xaF p) l 0)
theorem xa_cw {l : List AttT} (hl : al l) {f : D} {h : List Blk} {p : AttT → Bool} (hf : ∀ c ∈ l, Iv Dg Γ0 f [ag (AttT.row c)] h (bool (p c)) h) :
  CW Dg Γ0 h false (.loop (sub Tryz.f196 0)) (xaS (l.map AttT.row) f h 0) (AZ h p l).1 (AZ h p l).2 := by
 refine CW.each l (xaF p) (fun i _ => xaS (l.map AttT.row) f h (i : Int)) (.exit 0) _ (xaX h) (fun i s => s = i) (by simp) (fun _ => by simp) ?_ ?_ 0 rfl
 ·intro i c s hc hs
  subst hs
  have hi := (Dm.1 hc).1
  refine ⟨fun s' h => ?_, AX (rowAt hc rfl) (lt_len AttT.row hi) (wrap_succ hi hl) (hf c (Ec hc))⟩
  unfold xaF at h
  split at h <;> simp at h
  exact h.symm
 ·intro s hs
  exact AY (cw AttT.row l)
theorem xai_ev {l : List AttT} (hl : al l) {f : D} {h : List Blk} {p : AttT → Bool} (hf : ∀ c ∈ l, Iv Dg Γ0 f [ag (AttT.row c)] h (bool (p c)) h) : (Ev Dg Γ0 196 [ab (l.map AttT.row), f] h (int (xaR p l)) h) := by
 have hl0 := (@xa_cw (l) (hl) (f) (h) (p) (hf))
 unfold AZ at hl0
 revert hl0
 cases ho1 : forL (xaF p) l 0 with
 | inl o1_0_0 =>
  intro hl0
  exact Dv (FC (h' := h) (d := int (-1)) pok [.sum [0, 1, 4, 7, 8] (Ea 0) { t := mkT 19 0 [(4, int 0)], h := h, m := [] }] (by kernel_rfl) (.c hl0 .n)) (by simp [xaR, ho1]) (by simp [])
 | inr o1_1_0 =>
  intro hl0
  exact Dv (FC (h' := h) (d := int (↑o1_1_0 : Int)) pok [.sum [0, 1, 4, 7, 8] (EY) { t := mkT 19 0 [(4, int (↑o1_1_0 : Int))], h := h, m := [] }] (by kernel_rfl) (.c hl0 .n)) (by simp [xaR, ho1]) (by simp [])
theorem xa_any (p : AttT → Bool) (l : List AttT) : ∀ k : Nat, (match forL (xaF p) l k with | .inl _ => false | .inr _ => true) = l.any p := by
 induction l with
 | nil => intro k; rfl
 | cons f l ih =>
  intro k
  rw [List.any_cons]
  cases hf : p f
  ·simp only [forL, xaF, hf, D8, if_false, Bool.false_or]
   exact ih (k + 1)
  ·simp [forL, xaF, hf]
theorem xaR_ge (p : AttT → Bool) (l : List AttT) : decide (xaR p l ≥ 0) = l.any p := by
 rw [← xa_any p l 0, xaR]
 split <;> simp
theorem zR {l : List AttT} (hl : al l) {f : D} {h : List Blk} {p : AttT → Bool} (hf : ∀ c ∈ l, Iv Dg Γ0 f [ag (AttT.row c)] h (bool (p c)) h) : (Ev Dg Γ0 155 [ab (l.map AttT.row), f] h (bool (l.any p)) h) := by
 refine Dv (FC (h' := h) (d := bool (decide (xaR p l ≥ 0))) pok [.val (int (xaR p l))] (by kernel_rfl) (.c (@xai_ev l hl f h p hf) .n)) ?_ ?_ <;> (first | rfl | rw [← xaR_ge])
structure SysT where
 classes : List Cls
 fees : List FeeT
 honours : List Cls
 clauses : List ClauseT
 deriving Inhabited
def SysT.sys (s : SysT) : Vi.Sys := ⟨s.classes, s.fees, s.honours, s.clauses.map ClauseT.row⟩
def SysT.row (s : SysT) : List Dp := [.sl (s.classes.map Cls.row), .sl (s.fees.map FeeT.row), .sl (s.honours.map Cls.row), .sl (s.clauses.map ClauseT.row)]
def SysT.ok (s : SysT) : Prop := s.sys.ok
end Go.Vi
open Go Go.Proofs
namespace Go.Vi
set_option maxRecDepth 100000
set_option maxHeartbeats 4000000
abbrev kd' (a b c d : Bool) (f g : Value) : List Dp := [.v (.bool a), .v (.bool b), .v (.bool c), .v (.bool d), .v f, .v g]
abbrev kf' (k : Nat) : Value := .func (.func k) #[] #[]
def vU : List Dp :=
 kd' false false false false .nilFunc .nilFunc ++ kd' false false false true (kf' 257) (kf' 258) ++ kd' false false false true (kf' 259) (kf' 260) ++ kd' false true false true (kf' 261) (kf' 262) ++
 kd' false false false true (kf' 263) (kf' 264) ++ kd' true true false false (kf' 265) (kf' 267) ++ kd' true true false false (kf' 269) (kf' 270) ++ kd' false true false false (kf' 271) (kf' 272) ++
 kd' false true true false (kf' 273) (kf' 274) ++ kd' true false false false (kf' 266) (kf' 275)
def Γk : am := fun g => match g with | 0 => some vU | _ => none
theorem rC {a b : Int} (ha : I64 a) (hb : I64 b) (h : List Blk) : (Ev Dg Γ0 114 [.agg [int a, int b]] h (bool (uh a b == 0 && decide (a ≥ 0) && decide (a ≤ Dj.wrap (12 * b)))) h) := by
 exact Dv (DR (d := bool (uh a b == 0 && decide (a ≥ 0) && decide (a ≤ Dr Dj (12 * b)))) pok [.val (int (uh a b))] (by kernel_rfl) (.c (@yy a b ha hb ([.var [int a, int b]])) .n) rfl rfl h) (by rfl) (by rfl)
abbrev ruD (op c : Int) (nm : ByteArray) (n d : Int) (ks : List (List Dp)) : D := .agg [int op, int c, aA nm, int n, int d, ab ks]
theorem A0 {op c : Int} {nm : ByteArray} {n d : Int} {ks : List (List Dp)} (h : List Blk) : (Ev Dg Γ0 257 [ruD op c nm n d ks] h (bool true) h) := by
 exact Dv (DR (d := bool true) pok [] (by kernel_rfl) .n rfl rfl h) (by rfl) (by rfl)
theorem A1 {op c : Int} {nm : ByteArray} {n d : Int} {ks : List (List Dp)} (h : List Blk) : (Ev Dg Γ0 259 [ruD op c nm n d ks] h (bool true) h) := by
 exact Dv (DR (d := bool true) pok [] (by kernel_rfl) .n rfl rfl h) (by rfl) (by rfl)
theorem A2 {op c : Int} {nm : ByteArray} {n d : Int} {ks : List (List Dp)} (h : List Blk) : (Ev Dg Γ0 261 [ruD op c nm n d ks] h (bool (inB n 0 200)) h) := by
 exact Dv (DR (d := bool (decide (n ≥ 0) && decide (n ≤ 200))) pok [.val (bool (decide (n ≥ 0) && decide (n ≤ 200)))] (by kernel_rfl) (.c (@aN n 0 200 ([.var [int op, int c, aA nm, int n, int d, ab ks]])) .n) rfl rfl h) (by rfl) (by rfl)
theorem A3 {op c : Int} {nm : ByteArray} {n d : Int} {ks : List (List Dp)} (h : List Blk) : (Ev Dg Γ0 263 [ruD op c nm n d ks] h (bool ((ks.length : Int) == 1)) h) := by
 exact Dv (DR (d := bool ((↑(Dh ks) : Int) == 1)) pok [] (by kernel_rfl) .n rfl rfl h) (by rfl) (by rfl)
theorem rD {op c : Int} {nm : ByteArray} {n d : Int} {ks : List (List Dp)} (h : List Blk) : (Ev Dg Γ0 266 [ruD op c nm n d ks] h (bool (inB c 0 4095)) h) := by
 exact Dv (DR (d := bool (decide (c ≥ 0) && decide (c ≤ 4095))) pok [.val (bool (decide (c ≥ 0) && decide (c ≤ 4095)))] (by kernel_rfl) (.c (@aN c 0 4095 ([.var [int op, int c, aA nm, int n, int d, ab ks]])) .n) rfl rfl h) (by rfl) (by rfl)
theorem A4 {op c : Int} {nm : ByteArray} {n d : Int} {ks : List (List Dp)} (h : List Blk) : (Ev Dg Γ0 265 [ruD op c nm n d ks] h (bool (inB c 0 4095 && inB n 0 12)) h) := by
 exact Dv (DR (d := bool (inB c 0 4095 && (decide (n ≥ 0) && decide (n ≤ 12)))) pok [.val (bool (inB c 0 4095)), .val (bool (decide (n ≥ 0) && decide (n ≤ 12)))] (by kernel_rfl) (.c (@rD op c nm n d ks ([.var [int op, int c, aA nm, int n, int d, ab ks]])) (.c (gd (inB c 0 4095) (@aN n 0 12 ([.var [int op, int c, aA nm, int n, int d, ab ks]]))) .n)) rfl rfl h) (by rfl) (by rfl)
theorem A5 {op c : Int} {nm : ByteArray} {n d : Int} {ks : List (List Dp)} (h : List Blk) : (Ev Dg Γ0 269 [ruD op c nm n d ks] h (bool (inB c 0 4095 && inB n 1 100)) h) := by
 exact Dv (DR (d := bool (inB c 0 4095 && (decide (n ≥ 1) && decide (n ≤ 100)))) pok [.val (bool (inB c 0 4095)), .val (bool (decide (n ≥ 1) && decide (n ≤ 100)))] (by kernel_rfl) (.c (@rD op c nm n d ks ([.var [int op, int c, aA nm, int n, int d, ab ks]])) (.c (gd (inB c 0 4095) (@aN n 1 100 ([.var [int op, int c, aA nm, int n, int d, ab ks]]))) .n)) rfl rfl h) (by rfl) (by rfl)
theorem A6 {op c : Int} {nm : ByteArray} {n d : Int} {ks : List (List Dp)} (h : List Blk) : (Ev Dg Γ0 271 [ruD op c nm n d ks] h (bool (inB n 0 10000)) h) := by
 exact Dv (DR (d := bool (decide (n ≥ 0) && decide (n ≤ 10000))) pok [.val (bool (decide (n ≥ 0) && decide (n ≤ 10000)))] (by kernel_rfl) (.c (@aN n 0 10000 ([.var [int op, int c, aA nm, int n, int d, ab ks]])) .n) rfl rfl h) (by rfl) (by rfl)
def iZ (a b : Int) : Bool := uh a b == 0 && decide (a ≥ 0) && decide (a ≤ Dj.wrap (12 * b))
theorem A7 {op c : Int} {nm : ByteArray} {n d : Int} {ks : List (List Dp)} (hn : I64 n) (hd : I64 d) (h : List Blk) : (Ev Dg Γ0 273 [ruD op c nm n d ks] h (bool (iZ n d)) h) := by
 exact Dv (DR (d := bool (uh n d == 0 && decide (n ≥ 0) && decide (n ≤ Dr Dj (12 * d)))) pok [.val (bool (uh n d == 0 && decide (n ≥ 0) && decide (n ≤ Dr Dj (12 * d))))] (by kernel_rfl) (.c (@rC n d hn hd ([.var [int op, int c, aA nm, int n, int d, ab ks]])) .n) rfl rfl h) (by rfl) (by rfl)
def ao (op c n d k : Int) : Bool :=
 if (!(op == 5 || op == 6 || op == 9) && c != 0 || !(op == 3 || op == 5 || op == 6 || op == 7 || op == 8) && n != 0 || op != 8 && d != 0 || (decide (op ≥ 5) && decide (op ≤ 9)) && decide (k > 0)) = true then false
 else if op = 1 then true else if op = 2 then true else if op = 3 then inB n 0 200 else if op = 4 then k == 1 else if op = 5 then inB c 0 4095 && inB n 0 12
 else if op = 6 then inB c 0 4095 && inB n 1 100 else if op = 7 then inB n 0 10000 else if op = 8 then iZ n d else if op = 9 then inB c 0 4095 else false
noncomputable abbrev pU (c : Int) (nm : ByteArray) (n : Int) (d : Int) (ks : List (List Dp)) : List Blk := [.var [int 1, int c, aA nm, int n, int d, ab ks], .var [bool false, bool false, bool false, bool true, fq 257, fq 258]]
theorem vV {c : Int} {nm : ByteArray} {n d : Int} {ks : List (List Dp)} (h : List Blk) : (Ev Dg Γk 234 [ruD 1 c nm n d ks] h (bool (ao 1 c n d ks.length)) h) := by
 cases hc0 : !false && c != 0 || !false && n != 0 || !false && d != 0 || !true && decide ((↑(Dh ks) : Int) > 0)
 ·exact Dv (DR (d := bool true) pok [.val (bool (decide (1 ≥ 1) && decide (1 ≤ 9))), .b false, .b false, .val (bool true)] (by kernel_rfl) (.c (DW (Γ' := Γk) (@aN 1 1 9 ([.var [int 1, int c, aA nm, int n, int d, ab ks]]))) (.c (show (!(decide (1 ≥ 1) && decide (1 ≤ 9))) = false from rfl) (.c (show inR 1 10 = true from rfl) (.c hc0 (.c (DW (Γ' := Γk) (@A0 1 c nm n d ks (pU c nm n d ks))) .n))))) rfl rfl h) (by first | rfl | (simp [ao]; done) | (simp_all [ao]; done)) (by rfl)
 ·exact Dv (DR (d := bool false) pok [.val (bool (decide (1 ≥ 1) && decide (1 ≤ 9))), .b false, .b true] (by kernel_rfl) (.c (DW (Γ' := Γk) (@aN 1 1 9 ([.var [int 1, int c, aA nm, int n, int d, ab ks]]))) (.c (show (!(decide (1 ≥ 1) && decide (1 ≤ 9))) = false from rfl) (.c (show inR 1 10 = true from rfl) (.c hc0 .n)))) rfl rfl h) (by first | rfl | (simp [ao]; done) | (simp_all [ao]; done)) (by rfl)
noncomputable abbrev pV (c : Int) (nm : ByteArray) (n : Int) (d : Int) (ks : List (List Dp)) : List Blk := [.var [int 2, int c, aA nm, int n, int d, ab ks], .var [bool false, bool false, bool false, bool true, fq 259, fq 260]]
theorem vW {c : Int} {nm : ByteArray} {n d : Int} {ks : List (List Dp)} (h : List Blk) : (Ev Dg Γk 234 [ruD 2 c nm n d ks] h (bool (ao 2 c n d ks.length)) h) := by
 cases hc0 : !false && c != 0 || !false && n != 0 || !false && d != 0 || !true && decide ((↑(Dh ks) : Int) > 0)
 ·exact Dv (DR (d := bool true) pok [.val (bool (decide (2 ≥ 1) && decide (2 ≤ 9))), .b false, .b false, .val (bool true)] (by kernel_rfl) (.c (DW (Γ' := Γk) (@aN 2 1 9 ([.var [int 2, int c, aA nm, int n, int d, ab ks]]))) (.c (show (!(decide (2 ≥ 1) && decide (2 ≤ 9))) = false from rfl) (.c (show inR 2 10 = true from rfl) (.c hc0 (.c (DW (Γ' := Γk) (@A1 2 c nm n d ks (pV c nm n d ks))) .n))))) rfl rfl h) (by first | rfl | (simp [ao]; done) | (simp_all [ao]; done)) (by rfl)
 ·exact Dv (DR (d := bool false) pok [.val (bool (decide (2 ≥ 1) && decide (2 ≤ 9))), .b false, .b true] (by kernel_rfl) (.c (DW (Γ' := Γk) (@aN 2 1 9 ([.var [int 2, int c, aA nm, int n, int d, ab ks]]))) (.c (show (!(decide (2 ≥ 1) && decide (2 ≤ 9))) = false from rfl) (.c (show inR 2 10 = true from rfl) (.c hc0 .n)))) rfl rfl h) (by first | rfl | (simp [ao]; done) | (simp_all [ao]; done)) (by rfl)
noncomputable abbrev pW (c : Int) (nm : ByteArray) (n : Int) (d : Int) (ks : List (List Dp)) : List Blk := [.var [int 3, int c, aA nm, int n, int d, ab ks], .var [bool false, bool true, bool false, bool true, fq 261, fq 262]]
theorem vX {c : Int} {nm : ByteArray} {n d : Int} {ks : List (List Dp)} (h : List Blk) : (Ev Dg Γk 234 [ruD 3 c nm n d ks] h (bool (ao 3 c n d ks.length)) h) := by
 cases hc0 : !false && c != 0 || !true && n != 0 || !false && d != 0 || !true && decide ((↑(Dh ks) : Int) > 0)
 ·exact Dv (DR (d := bool (inB n 0 200)) pok [.val (bool (decide (3 ≥ 1) && decide (3 ≤ 9))), .b false, .b false, .val (bool (inB n 0 200))] (by kernel_rfl) (.c (DW (Γ' := Γk) (@aN 3 1 9 ([.var [int 3, int c, aA nm, int n, int d, ab ks]]))) (.c (show (!(decide (3 ≥ 1) && decide (3 ≤ 9))) = false from rfl) (.c (show inR 3 10 = true from rfl) (.c hc0 (.c (DW (Γ' := Γk) (@A2 3 c nm n d ks (pW c nm n d ks))) .n))))) rfl rfl h) (by first | rfl | (simp [ao]; done) | (simp_all [ao]; done)) (by rfl)
 ·exact Dv (DR (d := bool false) pok [.val (bool (decide (3 ≥ 1) && decide (3 ≤ 9))), .b false, .b true] (by kernel_rfl) (.c (DW (Γ' := Γk) (@aN 3 1 9 ([.var [int 3, int c, aA nm, int n, int d, ab ks]]))) (.c (show (!(decide (3 ≥ 1) && decide (3 ≤ 9))) = false from rfl) (.c (show inR 3 10 = true from rfl) (.c hc0 .n)))) rfl rfl h) (by first | rfl | (simp [ao]; done) | (simp_all [ao]; done)) (by rfl)
noncomputable abbrev pX (c : Int) (nm : ByteArray) (n : Int) (d : Int) (ks : List (List Dp)) : List Blk := [.var [int 4, int c, aA nm, int n, int d, ab ks], .var [bool false, bool false, bool false, bool true, fq 263, fq 264]]
theorem vY {c : Int} {nm : ByteArray} {n d : Int} {ks : List (List Dp)} (h : List Blk) : (Ev Dg Γk 234 [ruD 4 c nm n d ks] h (bool (ao 4 c n d ks.length)) h) := by
 cases hc0 : !false && c != 0 || !false && n != 0 || !false && d != 0 || !true && decide ((↑(Dh ks) : Int) > 0)
 ·exact Dv (DR (d := bool ((↑(Dh ks) : Int) == 1)) pok [.val (bool (decide (4 ≥ 1) && decide (4 ≤ 9))), .b false, .b false, .val (bool ((↑(Dh ks) : Int) == 1))] (by kernel_rfl) (.c (DW (Γ' := Γk) (@aN 4 1 9 ([.var [int 4, int c, aA nm, int n, int d, ab ks]]))) (.c (show (!(decide (4 ≥ 1) && decide (4 ≤ 9))) = false from rfl) (.c (show inR 4 10 = true from rfl) (.c hc0 (.c (DW (Γ' := Γk) (@A3 4 c nm n d ks (pX c nm n d ks))) .n))))) rfl rfl h) (by first | rfl | (simp [ao]; done) | (simp_all [ao]; done)) (by rfl)
 ·exact Dv (DR (d := bool false) pok [.val (bool (decide (4 ≥ 1) && decide (4 ≤ 9))), .b false, .b true] (by kernel_rfl) (.c (DW (Γ' := Γk) (@aN 4 1 9 ([.var [int 4, int c, aA nm, int n, int d, ab ks]]))) (.c (show (!(decide (4 ≥ 1) && decide (4 ≤ 9))) = false from rfl) (.c (show inR 4 10 = true from rfl) (.c hc0 .n)))) rfl rfl h) (by first | rfl | (simp [ao]; done) | (simp_all [ao]; done)) (by rfl)
noncomputable abbrev pY (c : Int) (nm : ByteArray) (n : Int) (d : Int) (ks : List (List Dp)) : List Blk := [.var [int 5, int c, aA nm, int n, int d, ab ks], .var [bool true, bool true, bool false, bool false, fq 265, fq 267]]
theorem wa {c : Int} {nm : ByteArray} {n d : Int} {ks : List (List Dp)} (h : List Blk) : (Ev Dg Γk 234 [ruD 5 c nm n d ks] h (bool (ao 5 c n d ks.length)) h) := by
 cases hc0 : !true && c != 0 || !true && n != 0 || !false && d != 0 || !false && decide ((↑(Dh ks) : Int) > 0)
 ·exact Dv (DR (d := bool (inB c 0 4095 && inB n 0 12)) pok [.val (bool (decide (5 ≥ 1) && decide (5 ≤ 9))), .b false, .b false, .val (bool (inB c 0 4095 && inB n 0 12))] (by kernel_rfl) (.c (DW (Γ' := Γk) (@aN 5 1 9 ([.var [int 5, int c, aA nm, int n, int d, ab ks]]))) (.c (show (!(decide (5 ≥ 1) && decide (5 ≤ 9))) = false from rfl) (.c (show inR 5 10 = true from rfl) (.c hc0 (.c (DW (Γ' := Γk) (@A4 5 c nm n d ks (pY c nm n d ks))) .n))))) rfl rfl h) (by first | rfl | (simp [ao]; done) | (simp_all [ao]; done)) (by rfl)
 ·exact Dv (DR (d := bool false) pok [.val (bool (decide (5 ≥ 1) && decide (5 ≤ 9))), .b false, .b true] (by kernel_rfl) (.c (DW (Γ' := Γk) (@aN 5 1 9 ([.var [int 5, int c, aA nm, int n, int d, ab ks]]))) (.c (show (!(decide (5 ≥ 1) && decide (5 ≤ 9))) = false from rfl) (.c (show inR 5 10 = true from rfl) (.c hc0 .n)))) rfl rfl h) (by first | rfl | (simp [ao]; done) | (simp_all [ao]; done)) (by rfl)
noncomputable abbrev pZ (c : Int) (nm : ByteArray) (n : Int) (d : Int) (ks : List (List Dp)) : List Blk := [.var [int 6, int c, aA nm, int n, int d, ab ks], .var [bool true, bool true, bool false, bool false, fq 269, fq 270]]
theorem wb {c : Int} {nm : ByteArray} {n d : Int} {ks : List (List Dp)} (h : List Blk) : (Ev Dg Γk 234 [ruD 6 c nm n d ks] h (bool (ao 6 c n d ks.length)) h) := by
 cases hc0 : !true && c != 0 || !true && n != 0 || !false && d != 0 || !false && decide ((↑(Dh ks) : Int) > 0)
 ·exact Dv (DR (d := bool (inB c 0 4095 && inB n 1 100)) pok [.val (bool (decide (6 ≥ 1) && decide (6 ≤ 9))), .b false, .b false, .val (bool (inB c 0 4095 && inB n 1 100))] (by kernel_rfl) (.c (DW (Γ' := Γk) (@aN 6 1 9 ([.var [int 6, int c, aA nm, int n, int d, ab ks]]))) (.c (show (!(decide (6 ≥ 1) && decide (6 ≤ 9))) = false from rfl) (.c (show inR 6 10 = true from rfl) (.c hc0 (.c (DW (Γ' := Γk) (@A5 6 c nm n d ks (pZ c nm n d ks))) .n))))) rfl rfl h) (by first | rfl | (simp [ao]; done) | (simp_all [ao]; done)) (by rfl)
 ·exact Dv (DR (d := bool false) pok [.val (bool (decide (6 ≥ 1) && decide (6 ≤ 9))), .b false, .b true] (by kernel_rfl) (.c (DW (Γ' := Γk) (@aN 6 1 9 ([.var [int 6, int c, aA nm, int n, int d, ab ks]]))) (.c (show (!(decide (6 ≥ 1) && decide (6 ≤ 9))) = false from rfl) (.c (show inR 6 10 = true from rfl) (.c hc0 .n)))) rfl rfl h) (by first | rfl | (simp [ao]; done) | (simp_all [ao]; done)) (by rfl)
noncomputable abbrev qb (c : Int) (nm : ByteArray) (n : Int) (d : Int) (ks : List (List Dp)) : List Blk := [.var [int 7, int c, aA nm, int n, int d, ab ks], .var [bool false, bool true, bool false, bool false, fq 271, fq 272]]
theorem wc {c : Int} {nm : ByteArray} {n d : Int} {ks : List (List Dp)} (h : List Blk) : (Ev Dg Γk 234 [ruD 7 c nm n d ks] h (bool (ao 7 c n d ks.length)) h) := by
 cases hc0 : !false && c != 0 || !true && n != 0 || !false && d != 0 || !false && decide ((↑(Dh ks) : Int) > 0)
 ·exact Dv (DR (d := bool (inB n 0 10000)) pok [.val (bool (decide (7 ≥ 1) && decide (7 ≤ 9))), .b false, .b false, .val (bool (inB n 0 10000))] (by kernel_rfl) (.c (DW (Γ' := Γk) (@aN 7 1 9 ([.var [int 7, int c, aA nm, int n, int d, ab ks]]))) (.c (show (!(decide (7 ≥ 1) && decide (7 ≤ 9))) = false from rfl) (.c (show inR 7 10 = true from rfl) (.c hc0 (.c (DW (Γ' := Γk) (@A6 7 c nm n d ks (qb c nm n d ks))) .n))))) rfl rfl h) (by first | rfl | (simp [ao]; done) | (simp_all [ao]; done)) (by rfl)
 ·exact Dv (DR (d := bool false) pok [.val (bool (decide (7 ≥ 1) && decide (7 ≤ 9))), .b false, .b true] (by kernel_rfl) (.c (DW (Γ' := Γk) (@aN 7 1 9 ([.var [int 7, int c, aA nm, int n, int d, ab ks]]))) (.c (show (!(decide (7 ≥ 1) && decide (7 ≤ 9))) = false from rfl) (.c (show inR 7 10 = true from rfl) (.c hc0 .n)))) rfl rfl h) (by first | rfl | (simp [ao]; done) | (simp_all [ao]; done)) (by rfl)
noncomputable abbrev qc (c : Int) (nm : ByteArray) (n : Int) (d : Int) (ks : List (List Dp)) : List Blk := [.var [int 8, int c, aA nm, int n, int d, ab ks], .var [bool false, bool true, bool true, bool false, fq 273, fq 274]]
theorem we {c : Int} {nm : ByteArray} {n d : Int} {ks : List (List Dp)} (hn : I64 n) (hd : I64 d) (h : List Blk) : (Ev Dg Γk 234 [ruD 8 c nm n d ks] h (bool (ao 8 c n d ks.length)) h) := by
 cases hc0 : !false && c != 0 || !true && n != 0 || !true && d != 0 || !false && decide ((↑(Dh ks) : Int) > 0)
 ·exact Dv (DR (d := bool (iZ n d)) pok [.val (bool (decide (8 ≥ 1) && decide (8 ≤ 9))), .b false, .b false, .val (bool (iZ n d))] (by kernel_rfl) (.c (DW (Γ' := Γk) (@aN 8 1 9 ([.var [int 8, int c, aA nm, int n, int d, ab ks]]))) (.c (show (!(decide (8 ≥ 1) && decide (8 ≤ 9))) = false from rfl) (.c (show inR 8 10 = true from rfl) (.c hc0 (.c (DW (Γ' := Γk) (@A7 8 c nm n d ks hn hd (qc c nm n d ks))) .n))))) rfl rfl h) (by first | rfl | (simp [ao]; done) | (simp_all [ao]; done)) (by rfl)
 ·exact Dv (DR (d := bool false) pok [.val (bool (decide (8 ≥ 1) && decide (8 ≤ 9))), .b false, .b true] (by kernel_rfl) (.c (DW (Γ' := Γk) (@aN 8 1 9 ([.var [int 8, int c, aA nm, int n, int d, ab ks]]))) (.c (show (!(decide (8 ≥ 1) && decide (8 ≤ 9))) = false from rfl) (.c (show inR 8 10 = true from rfl) (.c hc0 .n)))) rfl rfl h) (by first | rfl | (simp [ao]; done) | (simp_all [ao]; done)) (by rfl)
noncomputable abbrev qd (c : Int) (nm : ByteArray) (n : Int) (d : Int) (ks : List (List Dp)) : List Blk := [.var [int 9, int c, aA nm, int n, int d, ab ks], .var [bool true, bool false, bool false, bool false, fq 266, fq 275]]
theorem wg {c : Int} {nm : ByteArray} {n d : Int} {ks : List (List Dp)} (h : List Blk) : (Ev Dg Γk 234 [ruD 9 c nm n d ks] h (bool (ao 9 c n d ks.length)) h) := by
 cases hc0 : !true && c != 0 || !false && n != 0 || !false && d != 0 || !false && decide ((↑(Dh ks) : Int) > 0)
 ·exact Dv (DR (d := bool (inB c 0 4095)) pok [.val (bool (decide (9 ≥ 1) && decide (9 ≤ 9))), .b false, .b false, .val (bool (inB c 0 4095))] (by kernel_rfl) (.c (DW (Γ' := Γk) (@aN 9 1 9 ([.var [int 9, int c, aA nm, int n, int d, ab ks]]))) (.c (show (!(decide (9 ≥ 1) && decide (9 ≤ 9))) = false from rfl) (.c (show inR 9 10 = true from rfl) (.c hc0 (.c (DW (Γ' := Γk) (@rD 9 c nm n d ks (qd c nm n d ks))) .n))))) rfl rfl h) (by first | rfl | (simp [ao]; done) | (simp_all [ao]; done)) (by rfl)
 ·exact Dv (DR (d := bool false) pok [.val (bool (decide (9 ≥ 1) && decide (9 ≤ 9))), .b false, .b true] (by kernel_rfl) (.c (DW (Γ' := Γk) (@aN 9 1 9 ([.var [int 9, int c, aA nm, int n, int d, ab ks]]))) (.c (show (!(decide (9 ≥ 1) && decide (9 ≤ 9))) = false from rfl) (.c (show inR 9 10 = true from rfl) (.c hc0 .n)))) rfl rfl h) (by first | rfl | (simp [ao]; done) | (simp_all [ao]; done)) (by rfl)
theorem wh {op c : Int} {nm : ByteArray} {n d : Int} {ks : List (List Dp)} (ho : (!(decide (op ≥ 1) && decide (op ≤ 9))) = true) (h : List Blk) : (Ev Dg Γk 234 [ruD op c nm n d ks] h (bool false) h) := by
 exact Dv (DR (d := bool false) pok [.val (bool (decide (op ≥ 1) && decide (op ≤ 9))), .b true] (by kernel_rfl) (.c (DW (Γ' := Γk) (@aN op 1 9 ([.var [int op, int c, aA nm, int n, int d, ab ks]]))) (.c ho .n)) rfl rfl h) (by rfl) (by rfl)
theorem qe {op c : Int} {nm : ByteArray} {n d : Int} {ks : List (List Dp)} (hn : I64 n) (hd : I64 d) (h : List Blk) : Ev Dg Γk 234 [ruD op c nm n d ks] h (bool (ao op c n d ks.length)) h := by
 by_cases ho : (!(decide (op ≥ 1) && decide (op ≤ 9))) = true
 ·have := wh (op := op) (c := c) (nm := nm) (n := n) (d := d) (ks := ks) ho h
  have e : ao op c n d ks.length = false := by
   simp only [EL, Bool.and_eq_false_iff, decide_eq_false_iff_not] at ho
   unfold ao
   split
   ·rfl
   ·repeat' (split; · omega)
    rfl
  rw [e]; exact this
 ·have : op = 1 ∨ op = 2 ∨ op = 3 ∨ op = 4 ∨ op = 5 ∨ op = 6 ∨ op = 7 ∨ op = 8 ∨ op = 9 := by
   simp only [EL, Bool.not_eq_false, Bool.and_eq_true, decide_eq_true_eq] at ho
   omega
  rcases this with rfl | rfl | rfl | rfl | rfl | rfl | rfl | rfl | rfl
  ·exact vV h
  ·exact vW h
  ·exact vX h
  ·exact vY h
  ·exact wa h
  ·exact wb h
  ·exact wc h
  ·exact we hn hd h
  ·exact wg h
end Go.Vi
open Go Go.Proofs
namespace Go.Vi
set_option maxRecDepth 100000
set_option maxHeartbeats 4000000
abbrev fz : FactT := ⟨0, 0, 0, 0, 0, 0, 0, 0⟩
abbrev atT : List D := mkT 50 0 [(6, .ref (.ptr 1 0)), (10, .ref (.ptr 2 0)), (11, .ref (.ptr 3 0)), (16, .fn (.func 178) [] [.ref (.ptr 4 0), .ref (.ptr 5 0), .ref (.ptr 6 0)])]
noncomputable abbrev atL (st : LoopState) : Blk := .loop st none 0 atT #[17] (aC (sub EC 0)) (aj (sub EC 0))
noncomputable abbrev atH (kk ks ko term known : Int) (fs : List (List Dp)) (best : FactT) (some : Bool) (st : LoopState) (more : List Blk) : List Blk :=
 [.var [int kk, int ks, int ko], .var [int term], .var (best.row.map .p), .var [bool some], .var [ab fs], .var [int kk, int ks, int ko], .var [int known], .defd, atL st] ++ more
abbrev atU : List D := mkT 50 0 [(6, .ref (.ptr 1 0)), (10, .ref (.ptr 2 0)), (11, .ref (.ptr 3 0)), (12, .ref (.ptr 10 0))]
theorem at_asg {kk ks ko term known : Int} {fs : List (List Dp)} {best f : FactT} {some : Bool} : (CW Dg Γ0 (atH kk ks ko term known fs best some .ready [.var (f.row.map .p)]) true (aC (sub EC 0)) { t := d6 atT [(17, ag f.row)], h := atH kk ks ko term known fs best some .ready [.var (f.row.map .p)], m := [] } .normal { t := atU, h := atH kk ks ko term known fs best some .ready [.var (f.row.map .p), .var (f.row.map .p)], m := [] }) := by
 let v0 : List D := [int f.kind, int f.sub, int f.obj, int f.value, int f.frm, int f.til, int f.known, int f.no]
 exact DN (DP (s' := { t := mkT 50 0 [(6, .ref (.ptr 1 0)), (10, .ref (.ptr 2 0)), (11, .ref (.ptr 3 0)), (12, .ref (.ptr 10 0))], h := [.var [int kk, int ks, int ko], .var [int term], .var [int best.kind, int best.sub, int best.obj, int best.value, int best.frm, int best.til, int best.known, int best.no], .var [bool some], .var [ab fs], .var [int kk, int ks, int ko], .var [int known], .defd, .loop DM none 0 (mkT 50 0 [(6, .ref (.ptr 1 0)), (10, .ref (.ptr 2 0)), (11, .ref (.ptr 3 0)), (16, EA (DG 178) [] [.ref (.ptr 4 0), .ref (.ptr 5 0), .ref (.ptr 6 0)])]) { toList := [17] } (aC (sub EC 0)) (aj (sub EC 0)), .var v0, .var v0], m := [] }) (e := DE) pok [.st (.mask [6, 10, 11, 12])] [] (by kernel_rfl) .n) (by rfl) (by rfl)
def atHit (term : Int) (best : FactT) (some : Bool) (f : FactT) : Bool := decide (f.frm ≤ term) && decide (term < f.til) && (!some || decide (orI (aR f.known best.known) (aR f.no best.no) ≥ 0))
def b4 (term : Int) (best : FactT) (some : Bool) (f : FactT) : FactT × Bool := bif atHit term best some f then (f, true) else (best, some)
noncomputable abbrev i2 (kk : Int) (ks : Int) (ko : Int) (term : Int) (known : Int) (fs : List (List Dp)) (best : FactT) (f : FactT) (some : Bool) : List Blk := [.var [int kk, int ks, int ko], .var [int term], .var [int best.kind, int best.sub, int best.obj, int best.value, int best.frm, int best.til, int best.known, int best.no], .var [bool some], .var [ab fs], .var [int kk, int ks, int ko], .var [int known], .defd, .loop ES none 0 (mkT 50 0 [(6, .ref (.ptr 1 0)), (10, .ref (.ptr 2 0)), (11, .ref (.ptr 3 0)), (16, EA (DG 178) [] [.ref (.ptr 4 0), .ref (.ptr 5 0), .ref (.ptr 6 0)])]) { toList := [17] } (aC (sub EC 0)) (aj (sub EC 0)), .var [int f.kind, int f.sub, int f.obj, int f.value, int f.frm, int f.til, int f.known, int f.no], .var [int f.kind, int f.sub, int f.obj, int f.value, int f.frm, int f.til, int f.known, int f.no]]
theorem A8 {kk ks ko term known : Int} {fs : List (List Dp)} {best f : FactT} {some : Bool} : (CW Dg Γ0 (atH kk ks ko term known fs best some .ready [.var (f.row.map .p)]) true (aj (sub EC 0)) { t := atU, h := atH kk ks ko term known fs best some .busy [.var (f.row.map .p), .var (f.row.map .p)], m := [] } .normal { t := mkT 50 0 [], h := atH kk ks ko term known fs (b4 term best some f).1 (b4 term best some f).2 .busy [.var (f.row.map .p), .var (f.row.map .p)], m := [] }) := by
 cases hc0 : decide (f.frm ≤ term) && decide (term < f.til) && (!some || decide (orI (aR f.known best.known) (aR f.no best.no) ≥ 0))
 ·refine DN (DP (s' := { t := mkT 50 0 [], h := (i2 kk ks ko term known fs best f some), m := [] }) (e := DE) pok [.st (.mask [])] [.val (int (orI (aR f.known best.known) (aR f.no best.no))), .b false] (by kernel_rfl) (.c (gd (decide (f.frm ≤ term) && decide (term < f.til) && !!some) (@n8 f best (i2 kk ks ko term known fs best f some))) (.c hc0 .n))) ?_ ?_ <;> (first | rfl | (have hs : atHit term best some f = true := hc0; simp only [b4, hs, cond_true]; rfl) | (have hs : atHit term best some f = false := hc0; simp only [b4, hs, cond_false]; rfl))
 ·let v0 : List D := [int f.kind, int f.sub, int f.obj, int f.value, int f.frm, int f.til, int f.known, int f.no]
  refine DN (DP (s' := { t := mkT 50 0 [], h := [.var [int kk, int ks, int ko], .var [int term], .var v0, .var [bool true], .var [ab fs], .var [int kk, int ks, int ko], .var [int known], .defd, .loop ES none 0 (mkT 50 0 [(6, .ref (.ptr 1 0)), (10, .ref (.ptr 2 0)), (11, .ref (.ptr 3 0)), (16, EA (DG 178) [] [.ref (.ptr 4 0), .ref (.ptr 5 0), .ref (.ptr 6 0)])]) { toList := [17] } (aC (sub EC 0)) (aj (sub EC 0)), .var v0, .var v0], m := [] }) (e := DE) pok [.st (.mask [])] [.val (int (orI (aR f.known best.known) (aR f.no best.no))), .b true] (by kernel_rfl) (.c (gd (decide (f.frm ≤ term) && decide (term < f.til) && !!some) (@n8 f best (i2 kk ks ko term known fs best f some))) (.c hc0 .n))) ?_ ?_ <;> subst v0 <;> (first | rfl | (have hs : atHit term best some f = true := hc0; simp only [b4, hs, cond_true]; rfl) | (have hs : atHit term best some f = false := hc0; simp only [b4, hs, cond_false]; rfl))
theorem A9 {kk ks ko term known : Int} {fs : List (List Dp)} {best f : FactT} {some : Bool} : Iv Dg Γ0 (.ref (.yl 8)) [ag f.row] (atH kk ks ko term known fs best some .ready [.var (f.row.map .p)]) (bool true) (atH kk ks ko term known fs (b4 term best some f).1 (b4 term best some f).2 .ready [.var (f.row.map .p), .var (f.row.map .p)]) :=
 Iv.round (h1 := atH kk ks ko term known fs best some .ready [.var (f.row.map .p), .var (f.row.map .p)]) rfl rfl at_asg rfl A8 rfl
def lR (kk ks ko : Int) (f : FactT) : Bool := f.kind == kk && (f.sub == ks && (f.obj == ko && true))
def ofIs (kk ks ko known : Int) (f : FactT) : Bool := lR kk ks ko f && decide (f.known ≤ known)
abbrev ofT (fs : List (List Dp)) (i : Int) : List D := mkT 30 0 [(0, .ref (.yl 8)), (1, .ref (.ptr 4 0)), (2, .ref (.ptr 5 0)), (3, .ref (.ptr 6 0)), (7, ab fs), (8, int fs.length), (9, int i)]
theorem of_body {kk ks ko term known : Int} {fs : List (List Dp)} {best b0 f : FactT} {some s0 : Bool} {i : Nat} (hr : aM (i : Int) fs f.row 8) (hlt : decide ((i : Int) < (fs.length : Int)) = true) (hw : Dj.wrap ((i : Int) + 1) = ((i + 1 : Nat) : Int)) : (CW Dg Γ0 (atH kk ks ko term known fs b0 s0 .ready []) false (sub GU 0) { t := ofT fs i, h := atH kk ks ko term known fs best some .ready [], m := [] } .normal { t := ofT fs ((i + 1 : Nat) : Int), h := atH kk ks ko term known fs (bif ofIs kk ks ko known f then b4 term best some f else (best, some)).1 (bif ofIs kk ks ko known f then b4 term best some f else (best, some)).2 .ready [], m := [] }) := by
 cases hc0 : f.kind == kk && (f.sub == ks && (f.obj == ko && true))
 ·refine DN (DP (s' := { t := mkT 30 0 [(0, .ref (.yl 8)), (1, .ref (.ptr 4 0)), (2, .ref (.ptr 5 0)), (3, .ref (.ptr 6 0)), (7, ab fs), (8, int (↑(Dh fs) : Int)), (9, int (Dr Dj ((↑i : Int) + 1)))], h := [.var [int kk, int ks, int ko], .var [int term], .var [int best.kind, int best.sub, int best.obj, int best.value, int best.frm, int best.til, int best.known, int best.no], .var [bool some], .var [ab fs], .var [int kk, int ks, int ko], .var [int known], .defd, .loop DM none 0 (mkT 50 0 [(6, .ref (.ptr 1 0)), (10, .ref (.ptr 2 0)), (11, .ref (.ptr 3 0)), (16, EA (DG 178) [] [.ref (.ptr 4 0), .ref (.ptr 5 0), .ref (.ptr 6 0)])]) { toList := [17] } (aC (sub EC 0)) (aj (sub EC 0))], m := [] }) (e := DE) pok [.st (.mask [0, 1, 2, 3, 7, 8, 9]), .st (.trim 9)] [.b true, .row [vi f.kind, vi f.sub, vi f.obj, vi f.value, vi f.frm, vi f.til, vi f.known, vi f.no], .g false, .g false, .g false, .g false, .ov 22 (bool false), .g false, .g false, .g false, .g false, .ov 28 (bool false), .b false] (by kernel_rfl) (.c hlt (.c hr (.c (show ((f.kind == kk && (f.sub == ks && (f.obj == ko && true))) == true) = false from (by rw [hc0]; rfl)) (.c (show ((f.kind == kk && (f.sub == ks && (f.obj == ko && true))) == true) = false from (by rw [hc0]; rfl)) (.c (show ((f.kind == kk && (f.sub == ks && (f.obj == ko && true))) == true) = false from (by rw [hc0]; rfl)) (.c (show ((f.kind == kk && (f.sub == ks && (f.obj == ko && true))) == true) = false from (by rw [hc0]; rfl)) (.c (show aZ (bool (f.kind == kk && (f.sub == ks && (f.obj == ko && true)))) (D.p (Dp.v (FZ { toList := [] }))) (bool false) (bool false) from (b9 hc0 rfl)) (.c (show (false == true) = false from rfl) (.c (show (false == true) = false from rfl) (.c (show (false == true) = false from rfl) (.c (show (false == true) = false from rfl) (.c (show aZ (bool false) (D.p (Dp.v (FZ { toList := [] }))) (bool false) (bool false) from (b9 rfl rfl)) (.c (show false = false from rfl) .n)))))))))))))) ?_ ?_ <;> (first | rfl | (simp only [hw, ofIs, lR, hc0, Ej, cond_false]; rfl))
 ·cases hc1 : decide (f.known ≤ known)
  ·refine DN (DP (s' := { t := mkT 30 0 [(0, .ref (.yl 8)), (1, .ref (.ptr 4 0)), (2, .ref (.ptr 5 0)), (3, .ref (.ptr 6 0)), (7, ab fs), (8, int (↑(Dh fs) : Int)), (9, int (Dr Dj ((↑i : Int) + 1)))], h := [.var [int kk, int ks, int ko], .var [int term], .var [int best.kind, int best.sub, int best.obj, int best.value, int best.frm, int best.til, int best.known, int best.no], .var [bool some], .var [ab fs], .var [int kk, int ks, int ko], .var [int known], .defd, .loop DM none 0 (mkT 50 0 [(6, .ref (.ptr 1 0)), (10, .ref (.ptr 2 0)), (11, .ref (.ptr 3 0)), (16, EA (DG 178) [] [.ref (.ptr 4 0), .ref (.ptr 5 0), .ref (.ptr 6 0)])]) { toList := [17] } (aC (sub EC 0)) (aj (sub EC 0))], m := [] }) (e := DE) pok [.st (.mask [0, 1, 2, 3, 7, 8, 9]), .st (.trim 9)] [.b true, .row [vi f.kind, vi f.sub, vi f.obj, vi f.value, vi f.frm, vi f.til, vi f.known, vi f.no], .g true, .g true, .g true, .g true, .ov 22 (bool (decide (f.known ≤ known))), .g false, .g false, .g false, .g false, .ov 28 (bool false), .b false] (by kernel_rfl) (.c hlt (.c hr (.c (show ((f.kind == kk && (f.sub == ks && (f.obj == ko && true))) == true) = true from (by rw [hc0]; rfl)) (.c (show ((f.kind == kk && (f.sub == ks && (f.obj == ko && true))) == true) = true from (by rw [hc0]; rfl)) (.c (show ((f.kind == kk && (f.sub == ks && (f.obj == ko && true))) == true) = true from (by rw [hc0]; rfl)) (.c (show ((f.kind == kk && (f.sub == ks && (f.obj == ko && true))) == true) = true from (by rw [hc0]; rfl)) (.c (show aZ (bool (f.kind == kk && (f.sub == ks && (f.obj == ko && true)))) (bool (decide (f.known ≤ known))) (bool false) (bool (decide (f.known ≤ known))) from (bJ hc0 rfl)) (.c (show (decide (f.known ≤ known) == true) = false from (by rw [hc1]; rfl)) (.c (show (decide (f.known ≤ known) == true) = false from (by rw [hc1]; rfl)) (.c (show (decide (f.known ≤ known) == true) = false from (by rw [hc1]; rfl)) (.c (show (decide (f.known ≤ known) == true) = false from (by rw [hc1]; rfl)) (.c (show aZ (bool (decide (f.known ≤ known))) (D.p (Dp.v (FZ { toList := [] }))) (bool false) (bool false) from (b9 hc1 rfl)) (.c (show false = false from rfl) .n)))))))))))))) ?_ ?_ <;> (first | rfl | (simp only [hw, ofIs, lR, hc0, hc1, Bool.and_false, cond_false]; rfl))
  ·let v0 : List D := [int (b4 term best some f).fst.kind, int (b4 term best some f).fst.sub, int (b4 term best some f).fst.obj, int (b4 term best some f).fst.value, int (b4 term best some f).fst.frm, int (b4 term best some f).fst.til, int (b4 term best some f).fst.known, int (b4 term best some f).fst.no]
   let v1 : List D := [int f.kind, int f.sub, int f.obj, int f.value, int f.frm, int f.til, int f.known, int f.no]
   refine DN (DP (s' := { t := mkT 30 0 [(0, .ref (.yl 8)), (1, .ref (.ptr 4 0)), (2, .ref (.ptr 5 0)), (3, .ref (.ptr 6 0)), (7, ab fs), (8, int (↑(Dh fs) : Int)), (9, int (Dr Dj ((↑i : Int) + 1)))], h := [.var [int kk, int ks, int ko], .var [int term], .var v0, .var [bool (b4 term best some f).snd], .var [ab fs], .var [int kk, int ks, int ko], .var [int known], .defd, .loop DM none 0 (mkT 50 0 [(6, .ref (.ptr 1 0)), (10, .ref (.ptr 2 0)), (11, .ref (.ptr 3 0)), (16, EA (DG 178) [] [.ref (.ptr 4 0), .ref (.ptr 5 0), .ref (.ptr 6 0)])]) { toList := [17] } (aC (sub EC 0)) (aj (sub EC 0))], m := [] }) (e := DE) pok [.st (.mask [0, 1, 2, 3, 7, 8, 9]), .st (.trim 9)] [.b true, .row [vi f.kind, vi f.sub, vi f.obj, vi f.value, vi f.frm, vi f.til, vi f.known, vi f.no], .g true, .g true, .g true, .g true, .ov 22 (bool (decide (f.known ≤ known))), .g true, .g true, .g true, .inv (bool true) [.var [int kk, int ks, int ko], .var [int term], .var v0, .var [bool (b4 term best some f).snd], .var [ab fs], .var [int kk, int ks, int ko], .var [int known], .defd, .loop DM none 0 (mkT 50 0 [(6, .ref (.ptr 1 0)), (10, .ref (.ptr 2 0)), (11, .ref (.ptr 3 0)), (16, EA (DG 178) [] [.ref (.ptr 4 0), .ref (.ptr 5 0), .ref (.ptr 6 0)])]) { toList := [17] } (aC (sub EC 0)) (aj (sub EC 0)), .var v1, .var v1], .g true, .ov 28 (bool !true), .b false] (by kernel_rfl) (.c hlt (.c hr (.c (show ((f.kind == kk && (f.sub == ks && (f.obj == ko && true))) == true) = true from (by subst v0 v1; rw [hc0]; rfl)) (.c (show ((f.kind == kk && (f.sub == ks && (f.obj == ko && true))) == true) = true from (by subst v0 v1; rw [hc0]; rfl)) (.c (show ((f.kind == kk && (f.sub == ks && (f.obj == ko && true))) == true) = true from (by subst v0 v1; rw [hc0]; rfl)) (.c (show ((f.kind == kk && (f.sub == ks && (f.obj == ko && true))) == true) = true from (by subst v0 v1; rw [hc0]; rfl)) (.c (show aZ (bool (f.kind == kk && (f.sub == ks && (f.obj == ko && true)))) (bool (decide (f.known ≤ known))) (bool false) (bool (decide (f.known ≤ known))) from (bJ hc0 rfl)) (.c (show (decide (f.known ≤ known) == true) = true from (by subst v0 v1; rw [hc1]; rfl)) (.c (show (decide (f.known ≤ known) == true) = true from (by subst v0 v1; rw [hc1]; rfl)) (.c (show (decide (f.known ≤ known) == true) = true from (by subst v0 v1; rw [hc1]; rfl)) (.c (@A9 kk ks ko term known fs best f some) (.c (show (decide (f.known ≤ known) == true) = true from (by subst v0 v1; rw [hc1]; rfl)) (.c (show aZ (bool (decide (f.known ≤ known))) (bool !true) (bool false) (bool !true) from (bJ hc1 rfl)) (.c (show (!true) = false from rfl) .n))))))))))))))) ?_ ?_ <;> subst v0 v1 <;> (first | rfl | (simp only [hw, ofIs, lR, hc0, hc1, Bool.and_self, cond_true]; rfl))
theorem Ba {kk ks ko term known : Int} {fs : List (List Dp)} {best b0 : FactT} {some s0 : Bool} {i : Nat} (hlt : decide ((i : Int) < (fs.length : Int)) = false) : (CW Dg Γ0 (atH kk ks ko term known fs b0 s0 .ready []) false (sub GU 0) { t := ofT fs i, h := atH kk ks ko term known fs best some .ready [], m := [] } (.exit 0) { t := mkT 30 0 [], h := atH kk ks ko term known fs best some .ready [], m := [] }) := by
 exact DN (DP (s' := { t := mkT 30 0 [], h := [.var [int kk, int ks, int ko], .var [int term], .var [int best.kind, int best.sub, int best.obj, int best.value, int best.frm, int best.til, int best.known, int best.no], .var [bool some], .var [ab fs], .var [int kk, int ks, int ko], .var [int known], .defd, .loop DM none 0 (mkT 50 0 [(6, .ref (.ptr 1 0)), (10, .ref (.ptr 2 0)), (11, .ref (.ptr 3 0)), (16, EA (DG 178) [] [.ref (.ptr 4 0), .ref (.ptr 5 0), .ref (.ptr 6 0)])]) { toList := [17] } (aC (sub EC 0)) (aj (sub EC 0))], m := [] }) (e := Ea 0) pok [.st (.mask [])] [.b false] (by kernel_rfl) (.c hlt .n)) (by rfl) (by rfl)
def ofGo (kk ks ko term known : Int) (s : FactT × Bool) (f : FactT) : FactT × Bool := bif ofIs kk ks ko known f then b4 term s.1 s.2 f else s
theorem bh {α σ : Type} (g : σ → α → σ) : ∀ (l : List α) (s : σ), forL (fun a s => (.inl (g s a) : σ ⊕ Empty)) l s = .inl (l.foldl g s)
 | [], _ => rfl
 | a :: l, s => bh g l (g s a)
theorem of_cw {kk ks ko term known : Int} {l : List FactT} (hl : al l) {b0 : FactT} {s0 : Bool} :
  CW Dg Γ0 (atH kk ks ko term known (l.map FactT.row) b0 s0 .ready []) false (.loop (sub GU 0)) { t := ofT (l.map FactT.row) 0, h := atH kk ks ko term known (l.map FactT.row) b0 s0 .ready [], m := [] } (.exit 0)
   { t := mkT 30 0 [], h := atH kk ks ko term known (l.map FactT.row) (l.foldl (ofGo kk ks ko term known) (b0, s0)).1 (l.foldl (ofGo kk ks ko term known) (b0, s0)).2 .ready [], m := [] } := by
 have := CW.each (P := Dg) (Γ := Γ0) (h0 := atH kk ks ko term known (l.map FactT.row) b0 s0 .ready []) (rd := false) (c := sub GU 0) (σ := FactT × Bool) (ρ := Empty) l (fun f s => .inl (ofGo kk ks ko term known s f))
  (fun i s => { t := ofT (l.map FactT.row) (i : Int), h := atH kk ks ko term known (l.map FactT.row) s.1 s.2 .ready [], m := [] }) (.exit 0) (fun s => { t := mkT 30 0 [], h := atH kk ks ko term known (l.map FactT.row) s.1 s.2 .ready [], m := [] }) (fun r => r.elim)
  (fun _ _ => True) (by simp) (fun r => r.elim) ?_ ?_ (b0, s0) trivial
 ·rw [bh] at this
  exact this
 ·intro i f s hf _
  have hi := (Dm.1 hf).1
  exact ⟨fun _ _ => trivial, of_body (rowAt hf rfl) (lt_len _ hi) (wrap_succ hi hl)⟩
 ·intro s _
  exact Ba (cw _ l)
theorem yB {kk ks ko term known : Int} {l : List FactT} (hl : al l) {b0 : FactT} {s0 : Bool} : (Ev Dg Γ0 178 [.ref (.yl 8), .ref (.ptr 4 0), .ref (.ptr 5 0), .ref (.ptr 6 0)] (atH kk ks ko term known (l.map FactT.row) b0 s0 .ready []) (.tup []) (atH kk ks ko term known (l.map FactT.row) (l.foldl (ofGo kk ks ko term known) (b0, s0)).1 (l.foldl (ofGo kk ks ko term known) (b0, s0)).2 .ready [])) := by
 have hl0 := (@of_cw (kk) (ks) (ko) (term) (known) (l) (hl) (b0) (s0))
 let v1 := DJ (ofGo kk ks ko term known) (b0, s0) l
 let v0 : List Blk := [.var [int kk, int ks, int ko], .var [int term], .var [int v1.fst.kind, int v1.fst.sub, int v1.fst.obj, int v1.fst.value, int v1.fst.frm, int v1.fst.til, int v1.fst.known, int v1.fst.no], .var [bool v1.snd], .var [ab (De FactT.row l)], .var [int kk, int ks, int ko], .var [int known], .defd, .loop DM none 0 (mkT 50 0 [(6, .ref (.ptr 1 0)), (10, .ref (.ptr 2 0)), (11, .ref (.ptr 3 0)), (16, EA (DG 178) [] [.ref (.ptr 4 0), .ref (.ptr 5 0), .ref (.ptr 6 0)])]) { toList := [17] } (aC (sub EC 0)) (aj (sub EC 0))]
 exact Dv (FC (h' := v0) (d := D.tup []) pok [.sum [0, 1, 2, 3, 7, 8, 9] (Ea 0) { t := mkT 30 0 [], h := v0, m := [] }] (by kernel_rfl) (.c hl0 .n)) (by rfl) (by rfl)
noncomputable abbrev atH0 (kk ks ko term known : Int) (fs : List (List Dp)) (best : FactT) (some : Bool) : List Blk :=
 [.var [int kk, int ks, int ko], .var [int term], .var (best.row.map .p), .var [bool some], .var [ab fs], .var [int kk, int ks, int ko], .var [int known]]
theorem yC {kk ks ko term known : Int} {l : List FactT} (hl : al l) {b0 : FactT} {s0 : Bool} : CW Dg Γ0 [] false (sub EC 0) { t := atT, h := atH0 kk ks ko term known (l.map FactT.row) b0 s0, m := [] } .normal
  { t := atT, h := atH kk ks ko term known (l.map FactT.row) (l.foldl (ofGo kk ks ko term known) (b0, s0)).1 (l.foldl (ofGo kk ks ko term known) (b0, s0)).2 .exhausted [], m := [7] } := by
 exact Ir (f := 178) (fi := []) (ca := [.ref (.ptr 4 0), .ref (.ptr 5 0), .ref (.ptr 6 0)]) pok (s := { t := atT, h := atH0 kk ks ko term known (l.map FactT.row) b0 s0, m := [] }) (g := .tmp 16) (ps := #[17]) (asg := aC (sub EC 0)) (body := aj (sub EC 0)) rfl (by kernel_rfl) (yB hl) rfl
def atR (kk ks ko term known : Int) (l : List FactT) : Int × Bool :=
 let r := l.foldl (ofGo kk ks ko term known) (fz, false)
 bif !r.2 || decide (r.1.value < 0) then (0, false) else (r.1.value, true)
theorem yD {kk ks ko term known : Int} {l : List FactT} (hl : al l) (h : List Blk) : (Ev Dg Γ0 86 [ab (l.map FactT.row), .agg [int kk, int ks, int ko], int term, int known] h (.tup [int (atR kk ks ko term known l).1, bool (atR kk ks ko term known l).2]) h) := by
 have hl0 := (@yC (kk) (ks) (ko) (term) (known) (l) (hl) ({ kind := 0, sub := 0, obj := 0, value := 0, frm := 0, til := 0, known := 0, no := 0 }) (false))
 cases hc1 : !(DJ (ofGo kk ks ko term known) ({ kind := 0, sub := 0, obj := 0, value := 0, frm := 0, til := 0, known := 0, no := 0 }, false) l).snd || decide ((DJ (ofGo kk ks ko term known) ({ kind := 0, sub := 0, obj := 0, value := 0, frm := 0, til := 0, known := 0, no := 0 }, false) l).fst.value < 0)
 ·let v0 := DJ (ofGo kk ks ko term known) ({ kind := 0, sub := 0, obj := 0, value := 0, frm := 0, til := 0, known := 0, no := 0 }, false) l
  exact Dv (DR (d := D.tup [int v0.fst.value, bool true]) pok [.inl, .sum [6, 10, 11, 16] (DE) { t := mkT 50 0 [(6, .ref (.ptr 1 0)), (10, .ref (.ptr 2 0)), (11, .ref (.ptr 3 0)), (16, EA (DG 178) [] [.ref (.ptr 4 0), .ref (.ptr 5 0), .ref (.ptr 6 0)])], h := [.var [int kk, int ks, int ko], .var [int term], .var [int v0.fst.kind, int v0.fst.sub, int v0.fst.obj, int v0.fst.value, int v0.fst.frm, int v0.fst.til, int v0.fst.known, int v0.fst.no], .var [bool v0.snd], .var [ab (De FactT.row l)], .var [int kk, int ks, int ko], .var [int known], .defd, .loop Ee none 0 (mkT 50 0 [(6, .ref (.ptr 1 0)), (10, .ref (.ptr 2 0)), (11, .ref (.ptr 3 0)), (16, EA (DG 178) [] [.ref (.ptr 4 0), .ref (.ptr 5 0), .ref (.ptr 6 0)])]) { toList := [17] } (aC (sub EC 0)) (aj (sub EC 0))], m := [7] }, .b false] (by kernel_rfl) (.c hl0 (.c hc1 .n)) rfl rfl h) (by subst v0; simp only [atR, hc1, cond_false]) (by rfl)
 ·let v0 := DJ (ofGo kk ks ko term known) ({ kind := 0, sub := 0, obj := 0, value := 0, frm := 0, til := 0, known := 0, no := 0 }, false) l
  exact Dv (DR (d := D.tup [int 0, bool false]) pok [.inl, .sum [6, 10, 11, 16] (DE) { t := mkT 50 0 [(6, .ref (.ptr 1 0)), (10, .ref (.ptr 2 0)), (11, .ref (.ptr 3 0)), (16, EA (DG 178) [] [.ref (.ptr 4 0), .ref (.ptr 5 0), .ref (.ptr 6 0)])], h := [.var [int kk, int ks, int ko], .var [int term], .var [int v0.fst.kind, int v0.fst.sub, int v0.fst.obj, int v0.fst.value, int v0.fst.frm, int v0.fst.til, int v0.fst.known, int v0.fst.no], .var [bool v0.snd], .var [ab (De FactT.row l)], .var [int kk, int ks, int ko], .var [int known], .defd, .loop Ee none 0 (mkT 50 0 [(6, .ref (.ptr 1 0)), (10, .ref (.ptr 2 0)), (11, .ref (.ptr 3 0)), (16, EA (DG 178) [] [.ref (.ptr 4 0), .ref (.ptr 5 0), .ref (.ptr 6 0)])]) { toList := [17] } (aC (sub EC 0)) (aj (sub EC 0))], m := [7] }, .b true] (by kernel_rfl) (.c hl0 (.c hc1 .n)) rfl rfl h) (by subst v0; simp only [atR, hc1, cond_true]) (by rfl)
end Go.Vi
open Go Go.Proofs
namespace Go.Vi
set_option maxRecDepth 100000
set_option maxHeartbeats 4000000
inductive RuleT where
 | mk (op course : Int) (name : ByteArray) (n d : Int) (kids : List RuleT)
mutual
def RuleT.row : RuleT → List Dp
 | .mk op c nm n d ks => [vi op, vi c, vs nm, vi n, vi d, .sl (gY ks)]
def gY : List RuleT → List (List Dp)
 | [] => []
 | k :: ks => k.row :: gY ks
end
theorem eT : ∀ ks : List RuleT, gY ks = ks.map RuleT.row
 | [] => rfl
 | k :: ks => by simp [gY, eT ks]
mutual
def RuleT.ok : RuleT → Prop
 | .mk op c _ n d ks => (I64 op ∧ I64 c ∧ I64 n ∧ I64 d ∧ al ks) ∧ kQ ks
def kQ : List RuleT → Prop
 | [] => True
 | k :: ks => k.ok ∧ kQ ks
end
theorem kR : ∀ {ks : List RuleT}, kQ ks → ∀ k ∈ ks, k.ok
 | [], _, k, hk => by simp at hk
 | a :: ks, h, k, hk => by
  simp only [kQ] at h
  rcases List.mem_cons.1 hk with rfl | hk
  ·exact h.1
  ·exact kR h.2 k hk
structure RuF where
 op : Int
 c : Int
 nm : ByteArray
 n : Int
 d : Int
 ks : List (List Dp)
def RuF.row (x : RuF) : List Dp := [vi x.op, vi x.c, vs x.nm, vi x.n, vi x.d, .sl x.ks]
def RuF.l (x : RuF) : List D := [int x.op, int x.c, aA x.nm, int x.n, int x.d, ab x.ks]
def RuF.formed (x : RuF) : Bool := ao x.op x.c x.n x.d x.ks.length
def RuF.ok (x : RuF) : Prop := I64 x.n ∧ I64 x.d
def kS (n1 dep : Int) (f : Bool) : Bool := decide (n1 > 200) || decide (dep > 16) || !f
abbrev ckT : List D := mkT 23 0 [(2, .ref (.ptr 1 0)), (3, .ref (.ptr 2 0)), (7, .fn (.func 240) [] [.ref (.ptr 4 0), .ref (.ptr 3 0)])]
noncomputable abbrev ckH (r : RuF) (e n : Int) (st : LoopState) (pe : Option Code) : List Blk :=
 [.var r.l, .var [int e], .var [int n], .var r.l, .var [.fn (.func 239) [] [.ref (.ptr 4 0)]], .defd, .loop st pe 0 ckT #[8, 9] (aC (sub DV 0)) (aj (sub DV 0))]
abbrev ckU (dep : Int) : List D := mkT 23 0 [(2, .ref (.ptr 1 0)), (3, .ref (.ptr 2 0)), (4, int dep), (5, .ref (.ptr 8 0)), (7, .fn (.func 240) [] [.ref (.ptr 4 0), .ref (.ptr 3 0)])]
theorem zS {r0 : RuF} {m dep : Int} {x : RuF} : (CW Dg Γk (ckH r0 0 m .ready none ++ [.var (x.l)]) true (aC (sub DV 0)) { t := d6 ckT [(8, int dep), (9, .agg x.l)], h := ckH r0 0 m .ready none ++ [.var (x.l)], m := [] } .normal { t := ckU dep, h := ckH r0 0 m .ready none ++ [.var (x.l), .var (x.l)], m := [] }) := by
 let v0 : List D := [int r0.op, int r0.c, aA r0.nm, int r0.n, int r0.d, ab r0.ks]
 let v1 : List D := [int x.op, int x.c, aA x.nm, int x.n, int x.d, ab x.ks]
 exact DN (DP (s' := { t := mkT 23 0 [(2, .ref (.ptr 1 0)), (3, .ref (.ptr 2 0)), (4, int dep), (5, .ref (.ptr 8 0)), (7, EA (DG 240) [] [.ref (.ptr 4 0), .ref (.ptr 3 0)])], h := [.var v0, .var [int 0], .var [int m], .var v0, .var [EA (DG 239) [] [.ref (.ptr 4 0)]], .defd, .loop DM none 0 (mkT 23 0 [(2, .ref (.ptr 1 0)), (3, .ref (.ptr 2 0)), (7, EA (DG 240) [] [.ref (.ptr 4 0), .ref (.ptr 3 0)])]) { toList := [8, 9] } (aC (sub DV 0)) (aj (sub DV 0)), .var v1, .var v1], m := [] }) (e := DE) pok [.st (.mask [2, 3, 4, 5, 7])] [] (by kernel_rfl) .n) (by rfl) (by rfl)
noncomputable def lS (r0 : RuF) (m1 : Int) (more : List Blk) (b : Bool) : Exit × AS := match b with
 | true => (.ret, { t := mkT 23 0 [], h := ckH r0 120 m1 .busy none ++ more, m := [] })
 | false => (.normal, { t := mkT 23 0 [], h := ckH r0 0 m1 .busy none ++ more, m := [] })
noncomputable abbrev i3 (r0 : RuF) (m : Int) (x : RuF) : List Blk := [.var [int r0.op, int r0.c, aA r0.nm, int r0.n, int r0.d, ab r0.ks], .var [int 0], .var [int (Dr Dj (m + 1))], .var [int r0.op, int r0.c, aA r0.nm, int r0.n, int r0.d, ab r0.ks], .var [EA (DG 239) [] [.ref (.ptr 4 0)]], .defd, .loop ES none 0 (mkT 23 0 [(2, .ref (.ptr 1 0)), (3, .ref (.ptr 2 0)), (7, EA (DG 240) [] [.ref (.ptr 4 0), .ref (.ptr 3 0)])]) { toList := [8, 9] } (aC (sub DV 0)) (aj (sub DV 0)), .var [int x.op, int x.c, aA x.nm, int x.n, int x.d, ab x.ks], .var [int x.op, int x.c, aA x.nm, int x.n, int x.d, ab x.ks]]
theorem Bb {r0 : RuF} {m dep : Int} {x : RuF} (hx : x.ok) : (CW Dg Γk (ckH r0 0 m .ready none ++ [.var (x.l)]) true (aj (sub DV 0)) { t := ckU dep, h := ckH r0 0 m .busy none ++ [.var (x.l), .var (x.l)], m := [] } (lS r0 (Dj.wrap (m + 1)) [.var (x.l), .var (x.l)] (kS (Dj.wrap (m + 1)) dep (x.formed))).1 (lS r0 (Dj.wrap (m + 1)) [.var (x.l), .var (x.l)] (kS (Dj.wrap (m + 1)) dep (x.formed))).2) := by
 cases hc0 : decide (Dr Dj (m + 1) > 200) || decide (dep > 16) || !ao x.op x.c x.n x.d (↑(Dh x.ks) : Int)
 ·refine DN (DP (s' := { t := mkT 23 0 [], h := (i3 r0 m x), m := [] }) (e := DE) pok [.st (.mask [])] [.val (bool (ao x.op x.c x.n x.d (↑(Dh x.ks) : Int))), .b false] (by kernel_rfl) (.c (gd (!(decide (Dr Dj (m + 1) > 200) || decide (dep > 16))) (@qe (x.op) (x.c) (x.nm) (x.n) (x.d) (x.ks) (by first | assumption | exact hx.1 | exact hx.2 | rfl) (by first | assumption | exact hx.1 | exact hx.2 | rfl) (i3 r0 m x))) (.c hc0 .n))) ?_ ?_ <;> (first | (have hs : kS (Dj.wrap (m + 1)) dep (x.formed) = true := hc0; (first | (simp only [hs, lS]; done) | (simp only [hs, lS]; rfl))) | (have hs : kS (Dj.wrap (m + 1)) dep (x.formed) = false := hc0; (first | (simp only [hs, lS]; done) | (simp only [hs, lS]; rfl))))
 ·let v0 : List D := [int r0.op, int r0.c, aA r0.nm, int r0.n, int r0.d, ab r0.ks]
  let v1 : List D := [int x.op, int x.c, aA x.nm, int x.n, int x.d, ab x.ks]
  refine DN (DP (s' := { t := mkT 23 0 [], h := [.var v0, .var [int 120], .var [int (Dr Dj (m + 1))], .var v0, .var [EA (DG 239) [] [.ref (.ptr 4 0)]], .defd, .loop ES none 0 (mkT 23 0 [(2, .ref (.ptr 1 0)), (3, .ref (.ptr 2 0)), (7, EA (DG 240) [] [.ref (.ptr 4 0), .ref (.ptr 3 0)])]) { toList := [8, 9] } (aC (sub DV 0)) (aj (sub DV 0)), .var v1, .var v1], m := [] }) (e := EY) pok [.st (.mask [])] [.val (bool (ao x.op x.c x.n x.d (↑(Dh x.ks) : Int))), .b true] (by kernel_rfl) (.c (gd (!(decide (Dr Dj (m + 1) > 200) || decide (dep > 16))) (@qe (x.op) (x.c) (x.nm) (x.n) (x.d) (x.ks) (by subst v0 v1; first | assumption | exact hx.1 | exact hx.2 | rfl) (by subst v0 v1; first | assumption | exact hx.1 | exact hx.2 | rfl) (i3 r0 m x))) (.c hc0 .n))) ?_ ?_ <;> subst v0 v1 <;> (first | (have hs : kS (Dj.wrap (m + 1)) dep (x.formed) = true := hc0; (first | (simp only [hs, lS]; done) | (simp only [hs, lS]; rfl))) | (have hs : kS (Dj.wrap (m + 1)) dep (x.formed) = false := hc0; (first | (simp only [hs, lS]; done) | (simp only [hs, lS]; rfl))))
noncomputable def Bc (r0 : RuF) (m1 : Int) (b : Bool) : List Blk := match b with
 | true => ckH r0 120 m1 .done (some .ret)
 | false => ckH r0 0 m1 .ready none
theorem Bd {r0 : RuF} {m dep : Int} {x : RuF} (hx : x.ok) : Iv Dg Γk (.ref (.yl 6)) [int dep, .agg x.l] (ckH r0 0 m .ready none ++ [.var (x.l)]) (bool (!kS (Dj.wrap (m + 1)) dep (x.formed)))
  (Bc r0 (Dj.wrap (m + 1)) (kS (Dj.wrap (m + 1)) dep (x.formed)) ++ [.var (x.l), .var (x.l)]) := by
 have hb := Bb (r0 := r0) (m := m) (dep := dep) hx
 cases h : kS (Dj.wrap (m + 1)) dep (x.formed)
 ·rw [h] at hb
  exact Iv.round (h1 := ckH r0 0 m .ready none ++ [.var (x.l), .var (x.l)]) rfl rfl zS rfl hb rfl
 ·rw [h] at hb
  exact Iv.round (h1 := ckH r0 0 m .ready none ++ [.var (x.l), .var (x.l)]) rfl rfl zS rfl hb rfl
mutual
def RuleT.walk : RuleT → Int → Int → Int × Bool
 | .mk op c _ n d ks, dep, m => match kS (Dj.wrap (m + 1)) dep (ao op c n d ks.length) with
  | true => (Dj.wrap (m + 1), true)
  | false => walkL ks (Dj.wrap (dep + 1)) (Dj.wrap (m + 1))
def walkL : List RuleT → Int → Int → Int × Bool
 | [], _, m => (m, false)
 | k :: ks, dep, m => match k.walk dep m with
  | (m', true) => (m', true)
  | (m', false) => walkL ks dep m'
end
abbrev wkF (dep : Int) (k : RuleT) (m : Int) : Int ⊕ Int := match k.walk dep m with
 | (m', true) => .inr m'
 | (m', false) => .inl m'
theorem mI (dep : Int) : ∀ (ks : List RuleT) (m : Int), forL (wkF dep) ks m = match walkL ks dep m with | (m', true) => .inr m' | (m', false) => .inl m'
 | [], m => by simp [forL, walkL]
 | k :: ks, m => by
  simp only [forL, walkL, wkF]
  cases h : k.walk dep m with
  | mk m' b => cases b with
   | true => rfl
   | false => exact mI dep ks m'
noncomputable abbrev wkS (x r0 : RuF) (dep m i : Int) : AS := { t := mkT 30 0 [(1, int dep), (2, .ref (.yl 6)), (3, .ref (.ptr 4 0)), (7, bool false), (16, ab x.ks), (17, int x.ks.length), (18, int i)], h := ckH r0 0 m .ready none ++ [.var (x.l)], m := [] }
theorem yE {x r0 : RuF} {dep m m0 : Int} {i : Nat} {m' : Int} {y : RuF} (hr : aM (i : Int) x.ks y.row 6) (hlt : decide ((i : Int) < (x.ks.length : Int)) = true) (hw : Dj.wrap ((i : Int) + 1) = ((i + 1 : Nat) : Int))
  (hk : Ev Dg Γk 239 [.agg y.l, int (Dj.wrap (dep + 1)), .ref (.yl 6), .ref (.ptr 4 0)] (ckH r0 0 m .ready none) (bool true) (ckH r0 0 m' .ready none)) : (CW Dg Γk (ckH r0 0 m0 .ready none) false (sub HV 0) (wkS x r0 dep m i) .normal (wkS x r0 dep m' ((i + 1 : Nat) : Int))) := by
 let v2 : List D := [int r0.op, int r0.c, aA r0.nm, int r0.n, int r0.d, ab r0.ks]
 let v3 : List D := [int y.op, int y.c, aA y.nm, int y.n, int y.d, ab y.ks]
 let v4 : List D := [int x.op, int x.c, aA x.nm, int x.n, int x.d, ab x.ks]
 let v5 : List D := [.ref (.ptr 4 0), .ref (.ptr 3 0)]
 let v0 : List Blk := [.var v2, .var [int 0], .var [int m'], .var v2, .var [EA (DG 239) [] [.ref (.ptr 4 0)]], .defd, .loop DM none 0 (mkT 23 0 [(2, .ref (.ptr 1 0)), (3, .ref (.ptr 2 0)), (7, EA (DG 240) [] v5)]) { toList := [8, 9] } (aC (sub DV 0)) (aj (sub DV 0)), .var v4, .var v3]
 let v1 : List Blk := [.var v2, .var [int 0], .var [int m], .var v2, .var [EA (DG 239) [] [.ref (.ptr 4 0)]], .defd, .loop DM none 0 (mkT 23 0 [(2, .ref (.ptr 1 0)), (3, .ref (.ptr 2 0)), (7, EA (DG 240) [] v5)]) { toList := [8, 9] } (aC (sub DV 0)) (aj (sub DV 0)), .var v4, .var v3]
 refine DN (DP (s' := { t := mkT 30 0 [(1, int dep), (2, .ref (.yl 6)), (3, .ref (.ptr 4 0)), (7, bool false), (16, ab x.ks), (17, int (↑(Dh x.ks) : Int)), (18, int (Dr Dj ((↑i : Int) + 1)))], h := [.var v2, .var [int 0], .var [int m'], .var v2, .var [EA (DG 239) [] [.ref (.ptr 4 0)]], .defd, .loop DM none 0 (mkT 23 0 [(2, .ref (.ptr 1 0)), (3, .ref (.ptr 2 0)), (7, EA (DG 240) [] v5)]) { toList := [8, 9] } (aC (sub DV 0)) (aj (sub DV 0)), .var v4], m := [] }) (e := DE) pok [.st (.mask [1, 2, 3, 7, 16, 17, 18]), .st (.trim 8)] [.b true, .row [vi y.op, vi y.c, vs y.nm, vi y.n, vi y.d, Dp.sl y.ks], .call (bool true) v0, .b false] (by kernel_rfl) (.c hlt (.c hr (.c (show Ev Dg Γk 239 [D.agg v3, int (Dr Dj (dep + 1)), .ref (.yl 6), .ref (.ptr 4 0)] v1 (bool true) v0 from (Dv (Ev.frameX (args := [D.agg v3, int (Dr Dj (dep + 1)), .ref (.yl 6), .ref (.ptr 4 0)]) (H := v1) [0, 1, 2, 3, 4, 5, 6] (@hk) (by kernel_rfl) (by kernel_rfl) (by kernel_rfl) trivial trivial) (by kernel_rfl) (by kernel_rfl))) (.c (show (!true) = false from rfl) .n))))) ?_ ?_ <;> subst v2 v3 v4 v5 v0 v1 <;> (first | rfl | (rw [hw]; rfl))
noncomputable abbrev wkX (x r0 : RuF) (m : Int) : Exit × AS := (.ret, { t := mkT 30 0 [(7, bool false)], h := ckH r0 120 m .done (some .ret) ++ [.var (x.l)], m := [] })
theorem yF {x r0 : RuF} {dep m m0 : Int} {i : Nat} {m' : Int} {y : RuF} (hr : aM (i : Int) x.ks y.row 6) (hlt : decide ((i : Int) < (x.ks.length : Int)) = true)
  (hk : Ev Dg Γk 239 [.agg y.l, int (Dj.wrap (dep + 1)), .ref (.yl 6), .ref (.ptr 4 0)] (ckH r0 0 m .ready none) (bool false) (ckH r0 120 m' .done (some .ret))) : (CW Dg Γk (ckH r0 0 m0 .ready none) false (sub HV 0) (wkS x r0 dep m i) (wkX x r0 m').1 (wkX x r0 m').2) := by
 let v2 : List D := [int r0.op, int r0.c, aA r0.nm, int r0.n, int r0.d, ab r0.ks]
 let v3 : List D := [int y.op, int y.c, aA y.nm, int y.n, int y.d, ab y.ks]
 let v4 : List D := [int x.op, int x.c, aA x.nm, int x.n, int x.d, ab x.ks]
 let v5 : List D := [.ref (.ptr 4 0), .ref (.ptr 3 0)]
 let v0 : List Blk := [.var v2, .var [int 120], .var [int m'], .var v2, .var [EA (DG 239) [] [.ref (.ptr 4 0)]], .defd, .loop Fy (some GF) 0 (mkT 23 0 [(2, .ref (.ptr 1 0)), (3, .ref (.ptr 2 0)), (7, EA (DG 240) [] v5)]) { toList := [8, 9] } (aC (sub DV 0)) (aj (sub DV 0)), .var v4, .var v3]
 let v1 : List Blk := [.var v2, .var [int 0], .var [int m], .var v2, .var [EA (DG 239) [] [.ref (.ptr 4 0)]], .defd, .loop DM none 0 (mkT 23 0 [(2, .ref (.ptr 1 0)), (3, .ref (.ptr 2 0)), (7, EA (DG 240) [] v5)]) { toList := [8, 9] } (aC (sub DV 0)) (aj (sub DV 0)), .var v4, .var v3]
 exact DN (DP (s' := { t := mkT 30 0 [(7, bool false)], h := [.var v2, .var [int 120], .var [int m'], .var v2, .var [EA (DG 239) [] [.ref (.ptr 4 0)]], .defd, .loop Fy (some GF) 0 (mkT 23 0 [(2, .ref (.ptr 1 0)), (3, .ref (.ptr 2 0)), (7, EA (DG 240) [] v5)]) { toList := [8, 9] } (aC (sub DV 0)) (aj (sub DV 0)), .var v4], m := [] }) (e := EY) pok [.st (.mask [7]), .st (.trim 8)] [.b true, .row [vi y.op, vi y.c, vs y.nm, vi y.n, vi y.d, Dp.sl y.ks], .call (bool false) v0, .b true] (by kernel_rfl) (.c hlt (.c hr (.c (show Ev Dg Γk 239 [D.agg v3, int (Dr Dj (dep + 1)), .ref (.yl 6), .ref (.ptr 4 0)] v1 (bool false) v0 from (Dv (Ev.frameX (args := [D.agg v3, int (Dr Dj (dep + 1)), .ref (.yl 6), .ref (.ptr 4 0)]) (H := v1) [0, 1, 2, 3, 4, 5, 6] (@hk) (by kernel_rfl) (by kernel_rfl) (by kernel_rfl) trivial trivial) (by kernel_rfl) (by kernel_rfl))) (.c (show (!false) = true from rfl) .n))))) (by rfl) (by rfl)
theorem Be {x r0 : RuF} {dep m m0 : Int} {i : Nat} (hlt : decide ((i : Int) < (x.ks.length : Int)) = false) : (CW Dg Γk (ckH r0 0 m0 .ready none) false (sub HV 0) (wkS x r0 dep m i) (.exit 0) { t := mkT 30 0 [(7, bool false)], h := ckH r0 0 m .ready none ++ [.var (x.l)], m := [] }) := by
 let v0 : List D := [int r0.op, int r0.c, aA r0.nm, int r0.n, int r0.d, ab r0.ks]
 exact DN (DP (s' := { t := mkT 30 0 [(7, bool false)], h := [.var v0, .var [int 0], .var [int m], .var v0, .var [EA (DG 239) [] [.ref (.ptr 4 0)]], .defd, .loop DM none 0 (mkT 23 0 [(2, .ref (.ptr 1 0)), (3, .ref (.ptr 2 0)), (7, EA (DG 240) [] [.ref (.ptr 4 0), .ref (.ptr 3 0)])]) { toList := [8, 9] } (aC (sub DV 0)) (aj (sub DV 0)), .var [int x.op, int x.c, aA x.nm, int x.n, int x.d, ab x.ks]], m := [] }) (e := Ea 0) pok [.st (.mask [7]), .st (.trim 8)] [.b false] (by kernel_rfl) (.c hlt .n)) (by rfl) (by rfl)
def RuleT.fl : RuleT → RuF
 | .mk op c nm n d ks => ⟨op, c, nm, n, d, gY ks⟩
theorem RuleT.fl_row (r : RuleT) : r.fl.row = r.row := by cases r; rfl
theorem RuleT.fl_ok {r : RuleT} (h : r.ok) : r.fl.ok := by cases r; simp only [RuleT.ok] at h; exact ⟨h.1.2.2.1, h.1.2.2.2.1⟩
noncomputable def wkFin (x r0 : RuF) (p : Int ⊕ Int) : Exit × AS := cG (.exit 0) (fun m' => { t := mkT 30 0 [(7, bool false)], h := ckH r0 0 m' .ready none ++ [.var x.l], m := [] }) (fun m' => wkX x r0 m') p
theorem wk_cw {r0 x : RuF} {ks : List RuleT} (hx : x.ks = ks.map RuleT.row) (hl : al ks) {dep m m0 : Int} (hk : ∀ k ∈ ks, ∀ m, Ev Dg Γk 239 [.agg k.fl.l, int (Dj.wrap (dep + 1)), .ref (.yl 6), .ref (.ptr 4 0)] (ckH r0 0 m .ready none) (bool (!(k.walk (Dj.wrap (dep + 1)) m).2)) (Bc r0 (k.walk (Dj.wrap (dep + 1)) m).1 (k.walk (Dj.wrap (dep + 1)) m).2)) :
  CW Dg Γk (ckH r0 0 m0 .ready none) false (.loop (sub HV 0)) (wkS x r0 dep m 0) (wkFin x r0 (forL (wkF (Dj.wrap (dep + 1))) ks m)).1 (wkFin x r0 (forL (wkF (Dj.wrap (dep + 1))) ks m)).2 := by
 refine CW.each ks (wkF (Dj.wrap (dep + 1))) (fun i m => wkS x r0 dep m (i : Int)) (.exit 0) _ (fun m' => wkX x r0 m') (fun _ _ => True) (by simp) (fun _ => by simp) ?_ ?_ m trivial
 ·intro i k m hki _
  have hi := (Dm.1 hki).1
  have hr : aM (i : Int) x.ks k.fl.row 6 := by rw [hx, k.fl_row]; exact rowAt hki (by cases k; rfl)
  have hlt : decide ((i : Int) < (x.ks.length : Int)) = true := by rw [hx]; exact lt_len _ hi
  have hev := hk k (Ec hki) m
  refine ⟨fun _ _ => trivial, ?_⟩
  simp only [wkF]
  cases hw : k.walk (Dj.wrap (dep + 1)) m with
  | mk m' b =>
   rw [hw] at hev
   cases b with
   | true => exact yF hr hlt hev
   | false => exact yE hr hlt (wrap_succ hi hl) hev
 ·intro m _
  exact Be (by rw [hx]; exact cw _ ks)
theorem walkA {r0 x : RuF} {dep m m' : Int} (hi : Iv Dg Γk (.ref (.yl 6)) [int dep, .agg x.l] (ckH r0 0 m .ready none ++ [.var x.l]) (bool false) (ckH r0 120 m' .done (some .ret) ++ [.var x.l, .var x.l])) : (Ev Dg Γk 239 [.agg x.l, int dep, .ref (.yl 6), .ref (.ptr 4 0)] (ckH r0 0 m .ready none) (bool false) (ckH r0 120 m' .done (some .ret))) := by
 let v0 : List D := [int r0.op, int r0.c, aA r0.nm, int r0.n, int r0.d, ab r0.ks]
 let v1 : List D := [int x.op, int x.c, aA x.nm, int x.n, int x.d, ab x.ks]
 exact Dv (Ev.symT (h' := [.var v0, .var [int 120], .var [int m'], .var v0, .var [EA (DG 239) [] [.ref (.ptr 4 0)]], .defd, .loop Fy (some GF) 0 (mkT 23 0 [(2, .ref (.ptr 1 0)), (3, .ref (.ptr 2 0)), (7, EA (DG 240) [] [.ref (.ptr 4 0), .ref (.ptr 3 0)])]) { toList := [8, 9] } (aC (sub DV 0)) (aj (sub DV 0))]) (d := bool false) pok [.inv (bool false) [.var v0, .var [int 120], .var [int m'], .var v0, .var [EA (DG 239) [] [.ref (.ptr 4 0)]], .defd, .loop Fy (some GF) 0 (mkT 23 0 [(2, .ref (.ptr 1 0)), (3, .ref (.ptr 2 0)), (7, EA (DG 240) [] [.ref (.ptr 4 0), .ref (.ptr 3 0)])]) { toList := [8, 9] } (aC (sub DV 0)) (aj (sub DV 0)), .var v1, .var v1], .b true] (by kernel_rfl) (.c (@hi) (.c (show (!false) = true from rfl) .n))) (by rfl) (by rfl)
def ui : Int ⊕ Int → Int × Bool
 | .inl m => (m, false)
 | .inr m => (m, true)
theorem yG (dep : Int) (ks : List RuleT) (m : Int) : ui (forL (wkF dep) ks m) = walkL ks dep m := by
 rw [mI]
 cases walkL ks dep m with
 | mk m' b => cases b <;> rfl
noncomputable abbrev s7 (r0 : RuF) (x : RuF) (m' : Int) : List Blk := [.var [int r0.op, int r0.c, aA r0.nm, int r0.n, int r0.d, ab r0.ks], .var [int 0], .var [int m'], .var [int r0.op, int r0.c, aA r0.nm, int r0.n, int r0.d, ab r0.ks], .var [EA (DG 239) [] [.ref (.ptr 4 0)]], .defd, .loop DM none 0 (mkT 23 0 [(2, .ref (.ptr 1 0)), (3, .ref (.ptr 2 0)), (7, EA (DG 240) [] [.ref (.ptr 4 0), .ref (.ptr 3 0)])]) { toList := [8, 9] } (aC (sub DV 0)) (aj (sub DV 0)), .var [int x.op, int x.c, aA x.nm, int x.n, int x.d, ab x.ks], .var [int x.op, int x.c, aA x.nm, int x.n, int x.d, ab x.ks]]
theorem walkB {r0 x : RuF} {ks : List RuleT} (hx : x.ks = ks.map RuleT.row) (hl : al ks) {dep m m' : Int} (hi : Iv Dg Γk (.ref (.yl 6)) [int dep, .agg x.l] (ckH r0 0 m .ready none ++ [.var x.l]) (bool true) (ckH r0 0 m' .ready none ++ [.var x.l, .var x.l]))
  (hk : ∀ k ∈ ks, ∀ m, Ev Dg Γk 239 [.agg k.fl.l, int (Dj.wrap (dep + 1)), .ref (.yl 6), .ref (.ptr 4 0)] (ckH r0 0 m .ready none) (bool (!(k.walk (Dj.wrap (dep + 1)) m).2)) (Bc r0 (k.walk (Dj.wrap (dep + 1)) m).1 (k.walk (Dj.wrap (dep + 1)) m).2)) : (Ev Dg Γk 239 [.agg x.l, int dep, .ref (.yl 6), .ref (.ptr 4 0)] (ckH r0 0 m .ready none) (bool (!(ui (forL (wkF (Dj.wrap (dep + 1))) ks m')).2)) (Bc r0 (ui (forL (wkF (Dj.wrap (dep + 1))) ks m')).1 (ui (forL (wkF (Dj.wrap (dep + 1))) ks m')).2)) := by
 have hl0 := (@wk_cw (r0) (x) (ks) (hx) (hl) (dep) (m') (m) (hk))
 revert hl0
 cases ho1 : forL (wkF (Dr Dj (dep + 1))) ks m' with
 | inl o1_0_0 =>
  intro hl0
  let v0 : List D := [int r0.op, int r0.c, aA r0.nm, int r0.n, int r0.d, ab r0.ks]
  refine Dv (Ev.symT (h' := [.var v0, .var [int 0], .var [int o1_0_0], .var v0, .var [EA (DG 239) [] [.ref (.ptr 4 0)]], .defd, .loop DM none 0 (mkT 23 0 [(2, .ref (.ptr 1 0)), (3, .ref (.ptr 2 0)), (7, EA (DG 240) [] [.ref (.ptr 4 0), .ref (.ptr 3 0)])]) { toList := [8, 9] } (aC (sub DV 0)) (aj (sub DV 0))]) (d := bool true) pok [.inv (bool true) (s7 r0 x m'), .b false, .st (.trim 8), .sum [1, 2, 3, 7, 16, 17, 18] (Ea 0) { t := mkT 30 0 [(7, bool false)], h := [.var v0, .var [int 0], .var [int o1_0_0], .var v0, .var [EA (DG 239) [] [.ref (.ptr 4 0)]], .defd, .loop DM none 0 (mkT 23 0 [(2, .ref (.ptr 1 0)), (3, .ref (.ptr 2 0)), (7, EA (DG 240) [] [.ref (.ptr 4 0), .ref (.ptr 3 0)])]) { toList := [8, 9] } (aC (sub DV 0)) (aj (sub DV 0)), .var [int x.op, int x.c, aA x.nm, int x.n, int x.d, ab x.ks]], m := [] }] (by kernel_rfl) (.c (@hi) (.c (show (!true) = false from rfl) (.c hl0 .n)))) ?_ ?_ <;> subst v0 <;> (first | rfl | (simp only [ho1, ui, Bc]; rfl))
 | inr o1_1_0 =>
  intro hl0
  let v0 : List D := [int r0.op, int r0.c, aA r0.nm, int r0.n, int r0.d, ab r0.ks]
  refine Dv (Ev.symT (h' := [.var v0, .var [int 120], .var [int o1_1_0], .var v0, .var [EA (DG 239) [] [.ref (.ptr 4 0)]], .defd, .loop Fy (some GF) 0 (mkT 23 0 [(2, .ref (.ptr 1 0)), (3, .ref (.ptr 2 0)), (7, EA (DG 240) [] [.ref (.ptr 4 0), .ref (.ptr 3 0)])]) { toList := [8, 9] } (aC (sub DV 0)) (aj (sub DV 0))]) (d := bool false) pok [.inv (bool true) (s7 r0 x m'), .b false, .st (.trim 8), .sum [1, 2, 3, 7, 16, 17, 18] (EY) { t := mkT 30 0 [(7, bool false)], h := [.var v0, .var [int 120], .var [int o1_1_0], .var v0, .var [EA (DG 239) [] [.ref (.ptr 4 0)]], .defd, .loop Fy (some GF) 0 (mkT 23 0 [(2, .ref (.ptr 1 0)), (3, .ref (.ptr 2 0)), (7, EA (DG 240) [] [.ref (.ptr 4 0), .ref (.ptr 3 0)])]) { toList := [8, 9] } (aC (sub DV 0)) (aj (sub DV 0)), .var [int x.op, int x.c, aA x.nm, int x.n, int x.d, ab x.ks]], m := [] }] (by kernel_rfl) (.c (@hi) (.c (show (!true) = false from rfl) (.c hl0 .n)))) ?_ ?_ <;> subst v0 <;> (first | rfl | (simp only [ho1, ui, Bc]; rfl))
end Go.Vi
open Go Go.Proofs
namespace Go.Vi
set_option maxRecDepth 100000
set_option maxHeartbeats 4000000
theorem s8 (r0 : RuF) : ∀ (r : RuleT), r.ok → ∀ (dep m : Int), Ev Dg Γk 239 [.agg r.fl.l, int dep, .ref (.yl 6), .ref (.ptr 4 0)] (ckH r0 0 m .ready none) (bool (!(r.walk dep m).2)) (Bc r0 (r.walk dep m).1 (r.walk dep m).2)
 | .mk op c nm n d ks, hr, dep, m => by
  have hok := RuleT.fl_ok hr
  simp only [RuleT.ok] at hr
  have hiv := Bd (r0 := r0) (m := m) (dep := dep) hok
  have hlen : ((RuleT.mk op c nm n d ks).fl.ks.length : Int) = ks.length := by simp [RuleT.fl, eT]
  have hf : (RuleT.mk op c nm n d ks).fl.formed = ao op c n d ks.length := by
   show ao op c n d ((RuleT.mk op c nm n d ks).fl.ks.length : Int) = _
   rw [hlen]
  rw [hf] at hiv
  simp only [RuleT.walk]
  cases hs : kS (Dj.wrap (m + 1)) dep (ao op c n d ks.length) with
  | true =>
   rw [hs] at hiv
   exact walkA hiv
  | false =>
   rw [hs] at hiv
   have := walkB (r0 := r0) (x := (RuleT.mk op c nm n d ks).fl) (ks := ks) (eT ks) hr.1.2.2.2.2 (m := m) (dep := dep) hiv (fun k hk m => s8 r0 k (kR hr.2 k hk) _ m)
   rw [yG] at this
   exact this
termination_by r => SizeOf.sizeOf r
decreasing_by
 have := List.sizeOf_lt_of_mem hk
 simp only [RuleT.mk.sizeOf_spec]
 omega
noncomputable abbrev gZ (x : RuF) (m' : Int) : List Blk := [.var [int x.op, int x.c, aA x.nm, int x.n, int x.d, ab x.ks], .var [int 120], .var [int m'], .var [int x.op, int x.c, aA x.nm, int x.n, int x.d, ab x.ks], .var [EA (DG 239) [] [.ref (.ptr 4 0)]], .defd, .loop Fy (some GF) 0 (mkT 23 0 [(2, .ref (.ptr 1 0)), (3, .ref (.ptr 2 0)), (7, EA (DG 240) [] [.ref (.ptr 4 0), .ref (.ptr 3 0)])]) { toList := [8, 9] } (aC (sub DV 0)) (aj (sub DV 0))]
theorem uj {x : RuF} {m' : Int} (hk : Ev Dg Γk 239 [.agg x.l, int 1, .ref (.yl 6), .ref (.ptr 4 0)] (ckH x 0 0 .ready none) (bool false) (ckH x 120 m' .done (some .ret))) : (Ev Dg Γk 240 [.ref (.yl 6), .ref (.ptr 4 0), .ref (.ptr 3 0)] (ckH x 0 0 .ready none) (.tup []) (ckH x 120 m' .done (some .ret))) := by
 exact Dv (FC (h' := (gZ x m')) (d := D.tup []) pok [.call (bool false) (gZ x m')] (by kernel_rfl) (.c (@hk) .n)) (by rfl) (by rfl)
noncomputable abbrev g9 (x : RuF) (m' : Int) : List Blk := [.var [int x.op, int x.c, aA x.nm, int x.n, int x.d, ab x.ks], .var [int 0], .var [int m'], .var [int x.op, int x.c, aA x.nm, int x.n, int x.d, ab x.ks], .var [EA (DG 239) [] [.ref (.ptr 4 0)]], .defd, .loop DM none 0 (mkT 23 0 [(2, .ref (.ptr 1 0)), (3, .ref (.ptr 2 0)), (7, EA (DG 240) [] [.ref (.ptr 4 0), .ref (.ptr 3 0)])]) { toList := [8, 9] } (aC (sub DV 0)) (aj (sub DV 0))]
theorem ul {x : RuF} {m' : Int} (hk : Ev Dg Γk 239 [.agg x.l, int 1, .ref (.yl 6), .ref (.ptr 4 0)] (ckH x 0 0 .ready none) (bool true) (ckH x 0 m' .ready none)) : (Ev Dg Γk 240 [.ref (.yl 6), .ref (.ptr 4 0), .ref (.ptr 3 0)] (ckH x 0 0 .ready none) (.tup []) (ckH x 0 m' .ready none)) := by
 exact Dv (FC (h' := (g9 x m')) (d := D.tup []) pok [.call (bool true) (g9 x m')] (by kernel_rfl) (.c (@hk) .n)) (by rfl) (by rfl)
abbrev ckH0 (r : RuF) : List Blk := [.var r.l, .var [int 0], .var [int 0], .var r.l, .var [.fn (.func 239) [] [.ref (.ptr 4 0)]]]
theorem ckT_rf {x : RuF} {m' : Int} (hk : Ev Dg Γk 239 [.agg x.l, int 1, .ref (.yl 6), .ref (.ptr 4 0)] (ckH x 0 0 .ready none) (bool false) (ckH x 120 m' .done (some .ret))) :
  CW Dg Γk [] false (sub DV 0) { t := ckT, h := ckH0 x, m := [] } .ret { t := ckT, h := ckH x 120 m' .exhausted (some .ret), m := [5] } :=
 Ir (f := 240) (fi := []) (ca := [.ref (.ptr 4 0), .ref (.ptr 3 0)]) pok (s := { t := ckT, h := ckH0 x, m := [] }) (g := .tmp 7) (ps := #[8, 9]) (asg := aC (sub DV 0)) (body := aj (sub DV 0)) rfl (by kernel_rfl) (uj hk) rfl
theorem ckF_rf {x : RuF} {m' : Int} (hk : Ev Dg Γk 239 [.agg x.l, int 1, .ref (.yl 6), .ref (.ptr 4 0)] (ckH x 0 0 .ready none) (bool true) (ckH x 0 m' .ready none)) :
  CW Dg Γk [] false (sub DV 0) { t := ckT, h := ckH0 x, m := [] } .normal { t := ckT, h := ckH x 0 m' .exhausted none, m := [5] } :=
 Ir (f := 240) (fi := []) (ca := [.ref (.ptr 4 0), .ref (.ptr 3 0)]) pok (s := { t := ckT, h := ckH0 x, m := [] }) (g := .tmp 7) (ps := #[8, 9]) (asg := aC (sub DV 0)) (body := aj (sub DV 0)) rfl (by kernel_rfl) (ul hk) rfl
def RuleT.bad (r : RuleT) : Bool := (r.walk 1 0).2
noncomputable def Bf (x : RuF) (p : Int × Bool) : Exit × AS := match p.2 with
 | true => (.ret, { t := ckT, h := ckH x 120 p.1 .exhausted (some .ret), m := [5] })
 | false => (.normal, { t := ckT, h := ckH x 0 p.1 .exhausted none, m := [5] })
theorem yH {r : RuleT} (hr : r.ok) {x : RuF} (hx : x = r.fl) : CW Dg Γk [] false (sub DV 0) { t := ckT, h := ckH0 x, m := [] } (Bf x (r.walk 1 0)).1 (Bf x (r.walk 1 0)).2 := by
 subst hx
 have hk := s8 r.fl r hr 1 0
 unfold Bf
 cases h : r.walk 1 0 with
 | mk m' b =>
  rw [h] at hk
  cases b with
  | true => exact ckT_rf hk
  | false => exact ckF_rf hk
def dQ (b : Bool) : Int := match b with | true => 120 | false => 0
theorem Bg {r : RuleT} (hr : r.ok) {x : RuF} (hx : x = r.fl) (h : List Blk) : (Ev Dg Γk 226 [.agg x.l] h (int (dQ r.bad)) h) := by
 have hl0 := (@yH (r) (hr) (x) (hx))
 revert hl0
 cases ho1 : RuleT.walk r 1 0 with
 | mk o1_0_0 o1_0_1 =>
  intro hl0
  revert hl0
  cases ho2 : o1_0_1 with
  | false =>
   intro hl0
   exact Dv (DR (d := int 0) pok [.inl, .sum [2, 3, 7] (DE) { t := mkT 23 0 [(2, .ref (.ptr 1 0)), (3, .ref (.ptr 2 0)), (7, EA (DG 240) [] [.ref (.ptr 4 0), .ref (.ptr 3 0)])], h := [.var [int x.op, int x.c, aA x.nm, int x.n, int x.d, ab x.ks], .var [int 0], .var [int o1_0_0], .var [int x.op, int x.c, aA x.nm, int x.n, int x.d, ab x.ks], .var [EA (DG 239) [] [.ref (.ptr 4 0)]], .defd, .loop Ee none 0 (mkT 23 0 [(2, .ref (.ptr 1 0)), (3, .ref (.ptr 2 0)), (7, EA (DG 240) [] [.ref (.ptr 4 0), .ref (.ptr 3 0)])]) { toList := [8, 9] } (aC (sub DV 0)) (aj (sub DV 0))], m := [5] }] (by kernel_rfl) (.c hl0 .n) rfl rfl h) (by simp [RuleT.bad, dQ, ho1, ho2]) (by rfl)
  | true =>
   intro hl0
   exact Dv (DR (d := int 120) pok [.inl, .sum [2, 3, 7] (EY) { t := mkT 23 0 [(2, .ref (.ptr 1 0)), (3, .ref (.ptr 2 0)), (7, EA (DG 240) [] [.ref (.ptr 4 0), .ref (.ptr 3 0)])], h := [.var [int x.op, int x.c, aA x.nm, int x.n, int x.d, ab x.ks], .var [int 120], .var [int o1_0_0], .var [int x.op, int x.c, aA x.nm, int x.n, int x.d, ab x.ks], .var [EA (DG 239) [] [.ref (.ptr 4 0)]], .defd, .loop Ee (some GF) 0 (mkT 23 0 [(2, .ref (.ptr 1 0)), (3, .ref (.ptr 2 0)), (7, EA (DG 240) [] [.ref (.ptr 4 0), .ref (.ptr 3 0)])]) { toList := [8, 9] } (aC (sub DV 0)) (aj (sub DV 0))], m := [5] }] (by kernel_rfl) (.c hl0 .n) rfl rfl h) (by simp [RuleT.bad, dQ, ho1, ho2]) (by rfl)
theorem hB {r : RuleT} (hr : r.ok) (h : List Blk) : Ev Dg Γk 226 [.agg r.fl.l] h (int (dQ r.bad)) h := by
 exact Bg hr rfl h
end Go.Vi
