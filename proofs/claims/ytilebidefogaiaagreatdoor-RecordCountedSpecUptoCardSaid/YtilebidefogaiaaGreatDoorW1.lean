/- RecordCountedSpecUpto: part of the proof: contracts of the functions that the law reaches, and the law. No conditions beyond the given statement's own. -/
import Derived.Test.YtilebidefogaiaaGreatDoorV8
import Derived.Test.YtilebidefogaiaaGreatDoorChecked
open List renaming mem_of_getElem? → zL, getElem?_eq_some_iff → zc, length → zf, foldl → Br, map → y9
open Go.Proofs.Tryz renaming prog → y6, f136 → Cj, f86 → Ac, f178 → Ce, f226 → zF, f239 → Ds
open Go.IntKind renaming u64 → Dr, wrap → zg, i64 → zb
open Bool renaming false_and → zT, false_eq_true → zO, not_eq_true' → Ag
open Go.Vi.Ev renaming sym0 → zm, of_sym → Cu, castH → zk, glob0 → zV
open Nat renaming gcd → AU
open Int renaming tmod_eq_emod_of_nonneg → Dj
open Go.Vi.CW renaming cast → zt, symX → zu
open Go.Exit renaming normal → zr, ret → Ai, exit → zQ
open Go.LoopState renaming ready → zM, busy → AE, exhausted → zY, done → Bk
open Go.Vi.D renaming fn → Ap
open Go.Fn renaming func → zB
open Go.Value renaming tuple → Ah
open Go.Code renaming ret → CD
open Go Go.Proofs
namespace Go.Vi
theorem pok_of {P : Program} (h1 : P.follows .mixedOrders = true) (h2 : (P.funcs.toList.all fun fn => !(fn.name == "runtime.NumGoroutine")) = true) : POk P where
 mixed := h1
 plain f fn hf := by
  have := List.all_eq_true.1 h2 fn (by rw [← Array.getElem?_toList] at hf; exact zL hf)
  simpa using this
abbrev int (n : Int) : D := lit (.int .i64 n)
abbrev u64 (n : Int) : D := lit (.int .u64 n)
abbrev bool (b : Bool) : D := lit (.bool b)
abbrev vi (n : Int) : Dp := .v (.int .i64 n)
abbrev vs (s : ByteArray) : Dp := .v (.string s)
abbrev ai (s : ByteArray) : D := lit (.string s)
abbrev aa (es : List (List Dp)) : D := .p (.sl es)
abbrev ag (r : List Dp) : D := .agg (r.map .p)
abbrev nq : D := lit (.slice none 0 0)
abbrev fq (k : Nat) : D := lit (.func (.func k) #[] #[])
theorem gd {p : Prop} (c : Bool) (h : p) : c = true → p := fun _ => h
abbrev Γ0 : ah := fun _ => none
theorem pok : POk y6 := pok_of (by kernel_rfl) (by kernel_rfl)
end Go.Vi
open Go Go.Proofs
namespace Go.Vi
set_option maxRecDepth 100000
def I64 (n : Int) : Prop := -9223372036854775808 ≤ n ∧ n ≤ 9223372036854775807
theorem sU {n : Int} (h : I64 n) (hn : n < 0) : Dr.wrap (0 - Dr.wrap n) = (n.natAbs : Int) := by
 obtain ⟨h1, h2⟩ := h
 simp only [zg, IntKind.bits, IntKind.signed, zT, zO, if_false]
 omega
theorem sV {n : Int} (h : I64 n) (hn : ¬ n < 0) : Dr.wrap n = (n.natAbs : Int) := by
 obtain ⟨h1, h2⟩ := h
 simp only [zg, IntKind.bits, IntKind.signed, zT, zO, if_false]
 omega
theorem sW {n : Int} (hn : I64 n) (h : List Blk) : Ev y6 Γ0 147 [int n] h (u64 n.natAbs) h := by
 by_cases h0 : n < 0
 ·rw [← sU hn h0]
  exact zm pok (φ := [decide (n < 0) = true]) [.b true] (by kernel_rfl) ⟨by simpa using h0, trivial⟩ rfl rfl h
 ·rw [← sV hn h0]
  exact zm pok (φ := [decide (n < 0) = false]) [.b false] (by kernel_rfl) ⟨by simpa using h0, trivial⟩ rfl rfl h
theorem kU {n : Int} (hn : I64 n) (h : List Blk) : Ev y6 Γ0 176 [int n] h (u64 n.natAbs) h := by
 by_cases h0 : n < 0
 ·rw [← sU hn h0]
  exact zm pok (φ := [decide (n < 0) = true]) [.b true] (by kernel_rfl) ⟨by simpa using h0, trivial⟩ rfl rfl h
 ·rw [← sV hn h0]
  exact zm pok (φ := [decide (n < 0) = false]) [.b false] (by kernel_rfl) ⟨by simpa using h0, trivial⟩ rfl rfl h
abbrev co : Blk := .var [.fn (.func 146) [] [.ref (.ptr 0 0)]]
theorem xF : ∀ (y x : Nat), Ev y6 Γ0 146 [u64 x, u64 y, .ref (.ptr 0 0)] [co] (u64 (AU y x)) [co] := by
 intro y
 induction y using Nat.strongRecOn with
 | _ y ih =>
  intro x
  by_cases h0 : y = 0
  ·subst h0
   rw [Nat.gcd_zero_left]
   exact Cu pok (φ := [((0 : Int) == 0) = true]) [.b true] (by kernel_rfl) ⟨by simp, trivial⟩
  ·have hi := ih (x % y) (Nat.mod_lt _ (by omega)) y
   rw [← Nat.gcd_rec] at hi
   refine Cu pok (φ := [((y : Int) == 0) = false, (!decide ((y : Int) = 0)) = true, Ev y6 Γ0 146 [u64 y, u64 ((x : Int).tmod y), .ref (.ptr 0 0)] [co] (u64 (AU y x)) [co]]) [.b false, .val (u64 (AU y x))] (by kernel_rfl) ⟨?_, ?_, ?_, trivial⟩
   ·simp; omega
   ·simp; omega
   ·rw [show (x : Int).tmod y = ((x % y : Nat) : Int) by rw [Dj (by omega)]; simp]
    exact hi
theorem sX {a b : Int} (ha : I64 a) (hb : I64 b) (h : List Blk) : Ev y6 Γ0 101 [int a, int b] h (u64 (AU b.natAbs a.natAbs)) h :=
 zm pok (φ := [Ev y6 Γ0 147 [int a] [co] (u64 a.natAbs) [co], Ev y6 Γ0 147 [int b] [co] (u64 b.natAbs) [co],
   Ev y6 Γ0 146 [u64 a.natAbs, u64 b.natAbs, .ref (.ptr 0 0)] [co] (u64 (AU b.natAbs a.natAbs)) [co]])
  [.val (u64 a.natAbs), .val (u64 b.natAbs), .val (u64 (AU b.natAbs a.natAbs))] (by kernel_rfl) ⟨sW ha _, sW hb _, xF _ _, trivial⟩ rfl rfl h
def xG (n d : Int) : Bool := decide (d < 1) || decide (d > 1073741824) || decide (n < -1073741824) || decide (n > 1073741824) || (AU d.natAbs n.natAbs : Int) != 1
def qf (n d : Int) : Int := if xG n d then 50 else 0
theorem u1 {n d : Int} (hn : I64 n) (hd : I64 d) (h : List Blk) : Ev y6 Γ0 49 [.agg [int n, int d]] h (int (qf n d)) h := by
 have hc := sX hn hd [.var [int n, int d]]
 cases hb : xG n d
 ·simp only [qf, hb]
  exact zm pok (φ := [(!(decide (d < 1) || decide (d > 1073741824) || decide (n < -1073741824) || decide (n > 1073741824))) = true →
    Ev y6 Γ0 101 [int n, int d] [.var [int n, int d]] (u64 (AU d.natAbs n.natAbs)) [.var [int n, int d]], xG n d = false])
   [.val (u64 (AU d.natAbs n.natAbs)), .b false] (by kernel_rfl) ⟨fun _ => hc, hb, trivial⟩ rfl rfl h
 ·simp only [qf, hb]
  exact zm pok (φ := [(!(decide (d < 1) || decide (d > 1073741824) || decide (n < -1073741824) || decide (n > 1073741824))) = true →
    Ev y6 Γ0 101 [int n, int d] [.var [int n, int d]] (u64 (AU d.natAbs n.natAbs)) [.var [int n, int d]], xG n d = true])
   [.val (u64 (AU d.natAbs n.natAbs)), .b true] (by kernel_rfl) ⟨fun _ => hc, hb, trivial⟩ rfl rfl h
end Go.Vi
open Go Go.Proofs
namespace Go.Vi
set_option maxRecDepth 100000
theorem u3 (x y : Nat) : (x : Int).tmod y = ((x % y : Nat) : Int) := by
 rw [Dj (by omega)]; simp
theorem j9 (p : Nat × Nat) : CW y6 Γ0 [] false (.loop (sub Tryz.f175 0)) { t := mkT 12 0 [(0, u64 p.1), (1, u64 p.2), (4, u64 0)], h := [], m := [] } (.exit 0) { t := mkT 12 0 [(0, u64 (AU p.2 p.1)), (4, u64 0)], h := [], m := [] } := by
 refine CW.loop (fun p : Nat × Nat => { t := mkT 12 0 [(0, u64 p.1), (1, u64 p.2), (4, u64 0)], h := [], m := [] }) (fun p => (.exit 0, { t := mkT 12 0 [(0, u64 (AU p.2 p.1)), (4, u64 0)], h := [], m := [] })) (fun p => p.2) ?_ p
 rintro ⟨x, y⟩
 by_cases h0 : y = 0
 ·subst h0
  refine .inr ⟨by simp, ?_⟩
  simp only [Nat.gcd_zero_left]
  exact CW.sym pok (φ := [decide ((0 : Int) > 0) = false]) [0, 4] [.b false] (by kernel_rfl) ⟨by simp, trivial⟩
 ·refine .inl ⟨(y, x % y), Nat.mod_lt _ (by omega), by simp only [← Nat.gcd_rec], ?_⟩
  have := CW.sym (P := y6) (Γ := Γ0) (h0 := []) (rd := false) (c := sub Tryz.f175 0) (s := { t := mkT 12 0 [(0, u64 x), (1, u64 y), (4, u64 0)], h := [], m := [] }) (s' := { t := mkT 12 0 [(0, u64 y), (1, u64 ((x : Int).tmod y)), (4, u64 0)], h := [], m := [] }) (e := .normal) pok
   (φ := [decide ((y : Int) > 0) = true, (!decide ((y : Int) = 0)) = true]) [0, 1, 4] [.b true] (by kernel_rfl) ⟨by simp; omega, by simp; omega, trivial⟩
  rw [u3] at this
  exact this
theorem ny (x y : Nat) (h : List Blk) : Ev y6 Γ0 175 [u64 x, u64 y] h (u64 (AU y x)) h :=
 zm pok (φ := [CW y6 Γ0 [] false (.loop (sub Tryz.f175 0)) { t := mkT 12 0 [(0, u64 x), (1, u64 y), (4, u64 0)], h := [], m := [] } (.exit 0) { t := mkT 12 0 [(0, u64 (AU y x)), (4, u64 0)], h := [], m := [] }])
  [.sum [0,1,4,5] (.exit 0) { t := mkT 12 0 [(0, u64 (AU y x)), (4, u64 0)], h := [], m := [] }] (by kernel_rfl) ⟨j9 (x, y), trivial⟩ rfl rfl h
theorem oH {n d : Int} (hn : I64 n) (hd : I64 d) (h : List Blk) : Ev y6 Γ0 142 [.agg [int n, int d]] h (int (qf n d)) h := by
 have h1 := kU hn [.var [int n, int d]]
 have h2 := kU hd [.var [int n, int d]]
 have h3 := ny n.natAbs d.natAbs [.var [int n, int d]]
 cases hb : xG n d
 ·simp only [qf, hb]
  exact zm pok (φ := [(!(decide (d < 1) || decide (d > 1073741824) || decide (n < -1073741824) || decide (n > 1073741824))) = true →
    Ev y6 Γ0 176 [int n] [.var [int n, int d]] (u64 n.natAbs) [.var [int n, int d]],
    (!(decide (d < 1) || decide (d > 1073741824) || decide (n < -1073741824) || decide (n > 1073741824))) = true →
    Ev y6 Γ0 176 [int d] [.var [int n, int d]] (u64 d.natAbs) [.var [int n, int d]],
    (!(decide (d < 1) || decide (d > 1073741824) || decide (n < -1073741824) || decide (n > 1073741824))) = true →
    Ev y6 Γ0 175 [u64 n.natAbs, u64 d.natAbs] [.var [int n, int d]] (u64 (AU d.natAbs n.natAbs)) [.var [int n, int d]], xG n d = false])
   [.val (u64 n.natAbs), .val (u64 d.natAbs), .val (u64 (AU d.natAbs n.natAbs)), .b false] (by kernel_rfl) ⟨fun _ => h1, fun _ => h2, fun _ => h3, hb, trivial⟩ rfl rfl h
 ·simp only [qf, hb]
  exact zm pok (φ := [(!(decide (d < 1) || decide (d > 1073741824) || decide (n < -1073741824) || decide (n > 1073741824))) = true →
    Ev y6 Γ0 176 [int n] [.var [int n, int d]] (u64 n.natAbs) [.var [int n, int d]],
    (!(decide (d < 1) || decide (d > 1073741824) || decide (n < -1073741824) || decide (n > 1073741824))) = true →
    Ev y6 Γ0 176 [int d] [.var [int n, int d]] (u64 d.natAbs) [.var [int n, int d]],
    (!(decide (d < 1) || decide (d > 1073741824) || decide (n < -1073741824) || decide (n > 1073741824))) = true →
    Ev y6 Γ0 175 [u64 n.natAbs, u64 d.natAbs] [.var [int n, int d]] (u64 (AU d.natAbs n.natAbs)) [.var [int n, int d]], xG n d = true])
   [.val (u64 n.natAbs), .val (u64 d.natAbs), .val (u64 (AU d.natAbs n.natAbs)), .b true] (by kernel_rfl) ⟨fun _ => h1, fun _ => h2, fun _ => h3, hb, trivial⟩ rfl rfl h
end Go.Vi
open Go Go.Proofs
namespace Go.Vi
set_option maxRecDepth 100000
set_option maxHeartbeats 20000
structure Cls where
 name : ByteArray
 earn : Int
 num : Int
 den : Int
 deriving Inhabited
def Cls.row (c : Cls) : List Dp := [vs c.name, vi c.earn, vi c.num, vi c.den]
def Cls.ok (c : Cls) : Prop := I64 c.earn ∧ I64 c.num ∧ I64 c.den
structure FeeT where
 name : ByteArray
 credits : Int
 deriving Inhabited
def FeeT.row (c : FeeT) : List Dp := [vs c.name, vi c.credits]
def ak {α : Type} (l : List α) : Prop := l.length ≤ 140737488355328
theorem u4 {α : Type} {row : α → List Dp} {l : List α} {n : Nat} {a : α} (h : l[n]? = some a) : (l.map row).getD n [] = row a := by
 simp [List.getD_eq_getElem?_getD, h]
theorem rowAt {α : Type} {row : α → List Dp} {l : List α} {n : Nat} {a : α} {sz : Nat} (h : l[n]? = some a) (hs : (row a).length = sz) : aj (n : Int) (l.map row) (row a) sz := by
 have := (zc.1 h).1
 refine ⟨?_, u4 h, hs⟩
 simp [inR]
 omega
end Go.Vi
open Go Go.Proofs
namespace Go.Vi
set_option maxRecDepth 100000
set_option maxHeartbeats 40000
structure Sys where
 classes : List Cls
 fees : List FeeT
 honours : List Cls
 clauses : List (List Dp)
structure Sys.ok (s : Sys) : Prop where
 c : ∀ c ∈ s.classes, c.ok
 h : ∀ c ∈ s.honours, c.ok
 f : ∀ f ∈ s.fees, I64 f.credits
 lc : ak s.classes
 lh : ak s.honours
 lf : ak s.fees
 ll : ak s.clauses
def fnv (k : Nat) : D := lit (.func (.func k) #[] #[])
end Go.Vi
open Go Go.Proofs
namespace Go.Vi
set_option maxRecDepth 100000
set_option maxHeartbeats 40000
theorem eO (a : Int) (h : List Blk) : Ev y6 Γ0 123 [int a] h (bool false) h := by
 have := zm (P := y6) (Γ := Γ0) (f := 123) (args := [int a]) (d := bool (a != a)) pok (φ := []) [] (by kernel_rfl) trivial rfl rfl h
 simpa using this
def aF (a b : Int) : Int := if a < b then -1 else if a > b then 1 else 0
theorem cB (a b : Int) (h : List Blk) : Ev y6 Γ0 66 [int a, int b] h (int (aF a b)) h := by
 by_cases h1 : a < b
 ·simp only [aF, h1, if_true]
  exact zm pok (φ := [Ev y6 Γ0 123 [int a] [] (bool false) [], Ev y6 Γ0 123 [int b] [] (bool false) [], false = false, false = false, decide (a < b) = true])
   [.val (bool false), .val (bool false), .b false, .b false, .b true] (by kernel_rfl) ⟨eO _ _, eO _ _, rfl, rfl, decide_eq_true h1, trivial⟩ rfl rfl h
 ·by_cases h2 : a > b
  ·simp only [aF, h1, h2, if_true, if_false]
   exact zm pok (φ := [Ev y6 Γ0 123 [int a] [] (bool false) [], Ev y6 Γ0 123 [int b] [] (bool false) [], false = false, false = false, decide (a < b) = false, decide (a > b) = true])
    [.val (bool false), .val (bool false), .b false, .b false, .b false, .b true] (by kernel_rfl) ⟨eO _ _, eO _ _, rfl, rfl, decide_eq_false h1, decide_eq_true h2, trivial⟩ rfl rfl h
  ·simp only [aF, h1, h2, if_false]
   exact zm pok (φ := [Ev y6 Γ0 123 [int a] [] (bool false) [], Ev y6 Γ0 123 [int b] [] (bool false) [], false = false, false = false, decide (a < b) = false, decide (a > b) = false])
    [.val (bool false), .val (bool false), .b false, .b false, .b false, .b false] (by kernel_rfl) ⟨eO _ _, eO _ _, rfl, rfl, decide_eq_false h1, decide_eq_false h2, trivial⟩ rfl rfl h
end Go.Vi
open Go Go.Proofs
namespace Go.Vi
set_option maxRecDepth 100000
set_option maxHeartbeats 4000000
structure FactT where
 kind : Int
 sub : Int
 obj : Int
 value : Int
 frm : Int
 til : Int
 known : Int
 no : Int
 deriving Inhabited
def FactT.row (f : FactT) : List Dp := [vi f.kind, vi f.sub, vi f.obj, vi f.value, vi f.frm, vi f.til, vi f.known, vi f.no]
def FactT.ok (f : FactT) : Prop := I64 f.kind ∧ I64 f.sub ∧ I64 f.obj ∧ I64 f.value ∧ I64 f.frm ∧ I64 f.til ∧ I64 f.known ∧ I64 f.no
def orI (a b : Int) : Int := if (a != 0) = true then a else if (b != 0) = true then b else 0
abbrev orR (a b : Int) : List (List Dp) := [[vi a], [vi b]]
abbrev orS (a b : Int) (i : Int) (h : List Blk) : AS := { t := mkT 18 0 [(2, int 0), (3, int 0), (6, aa (orR a b)), (7, int 2), (8, int i)], h := h, m := [] }
theorem or_0 {a b : Int} {h0 h : List Blk} (hr : aj 0 (orR a b) [vi a] 1) (hz : (a != 0) = false) : (CW y6 Γ0 h0 false (sub Cj 0) (orS a b 0 h) .normal (orS a b 1 h)) := by
 refine zt (zu (s' := { t := mkT 18 0 [(2, int 0), (3, int 0), (6, aa [[vi a], [vi b]]), (7, int 2), (8, int (zg zb (0 + 1)))], h := h, m := [] }) (e := zr) pok [.st (.mask [2, 3, 6, 7, 8])] [.b true, .row [vi a], .b false] (by kernel_rfl) (.c (show decide (0 < 2) = true from rfl) (.c hr (.c hz .n)))) ?_ ?_ <;> (first | rfl | simp_all)
theorem or_1 {a b : Int} {h0 h : List Blk} (hr : aj 1 (orR a b) [vi b] 1) (hz : (b != 0) = false) : (CW y6 Γ0 h0 false (sub Cj 0) (orS a b 1 h) .normal (orS a b 2 h)) := by
 refine zt (zu (s' := { t := mkT 18 0 [(2, int 0), (3, int 0), (6, aa [[vi a], [vi b]]), (7, int 2), (8, int (zg zb (1 + 1)))], h := h, m := [] }) (e := zr) pok [.st (.mask [2, 3, 6, 7, 8])] [.b true, .row [vi b], .b false] (by kernel_rfl) (.c (show decide (1 < 2) = true from rfl) (.c hr (.c hz .n)))) ?_ ?_ <;> (first | rfl | simp_all)
theorem or_0r {a b : Int} {h0 h : List Blk} (hr : aj 0 (orR a b) [vi a] 1) (hz : (a != 0) = true) : (CW y6 Γ0 h0 false (sub Cj 0) (orS a b 0 h) .ret { t := mkT 18 0 [(2, int a)], h := h, m := [] }) := by
 refine zt (zu (s' := { t := mkT 18 0 [(2, int a)], h := h, m := [] }) (e := Ai) pok [.st (.mask [2])] [.b true, .row [vi a], .b true] (by kernel_rfl) (.c (show decide (0 < 2) = true from rfl) (.c hr (.c hz .n)))) ?_ ?_ <;> (first | rfl | simp_all)
theorem or_1r {a b : Int} {h0 h : List Blk} (hr : aj 1 (orR a b) [vi b] 1) (hz : (b != 0) = true) : (CW y6 Γ0 h0 false (sub Cj 0) (orS a b 1 h) .ret { t := mkT 18 0 [(2, int b)], h := h, m := [] }) := by
 refine zt (zu (s' := { t := mkT 18 0 [(2, int b)], h := h, m := [] }) (e := Ai) pok [.st (.mask [2])] [.b true, .row [vi b], .b true] (by kernel_rfl) (.c (show decide (1 < 2) = true from rfl) (.c hr (.c hz .n)))) ?_ ?_ <;> (first | rfl | simp_all)
theorem or_2 {a b : Int} {h0 h : List Blk} : (CW y6 Γ0 h0 false (sub Cj 0) (orS a b 2 h) (.exit 0) { t := mkT 18 0 [(2, int 0), (3, int 0)], h := h, m := [] }) := by
 refine zt (zu (s' := { t := mkT 18 0 [(2, int 0), (3, int 0)], h := h, m := [] }) (e := zQ 0) pok [.st (.mask [2, 3])] [.b false] (by kernel_rfl) (.c (show decide (2 < 2) = false from rfl) .n)) ?_ ?_ <;> (first | rfl | simp_all)
def sY (a b : Int) (h : List Blk) : Exit × AS := match a != 0 with
 | true => (.ret, { t := mkT 18 0 [(2, int a)], h := h, m := [] })
 | false => match b != 0 with
  | true => (.ret, { t := mkT 18 0 [(2, int b)], h := h, m := [] })
  | false => (.exit 0, { t := mkT 18 0 [(2, int 0), (3, int 0)], h := h, m := [] })
theorem or_cw {a b : Int} {h0 h : List Blk} : CW y6 Γ0 h0 false (.loop (sub Cj 0)) (orS a b 0 h) (sY a b h).1 (sY a b h).2 := by
 have r0 : aj 0 (orR a b) [vi a] 1 := ⟨rfl, rfl, rfl⟩
 have r1 : aj 1 (orR a b) [vi b] 1 := ⟨rfl, rfl, rfl⟩
 unfold sY
 cases ha : a != 0
 ·cases hb : b != 0
  ·refine CW.loopN 2 (fun i => orS a b i h) (by simp) (fun i hi => ?_) or_2
   match i, hi with
   | 0, _ => exact or_0 r0 ha
   | 1, _ => exact or_1 r1 hb
  ·refine CW.loopN 1 (fun i => orS a b i h) (by simp) (fun i hi => ?_) (or_1r r1 hb)
   match i, hi with
   | 0, _ => exact or_0 r0 ha
 ·exact CW.loopN 0 (fun i => orS a b i h) (by simp) (fun i hi => absurd hi (Nat.not_lt_zero i)) (or_0r r0 ha)
noncomputable abbrev cN (a : FactT) (b : FactT) : List Blk := [.var [int a.kind, int a.sub, int a.obj, int a.value, int a.frm, int a.til, int a.known, int a.no], .var [int b.kind, int b.sub, int b.obj, int b.value, int b.frm, int b.til, int b.known, int b.no]]
theorem mc {a b : FactT} (h : List Blk) : (Ev y6 Γ0 84 [ag a.row, ag b.row] h (int (orI (aF a.known b.known) (aF a.no b.no))) h) := by
 have hl0 := (@or_cw (aF a.known b.known) (aF a.no b.no) ([.var [int a.kind, int a.sub, int a.obj, int a.value, int a.frm, int a.til, int a.known, int a.no], .var [int b.kind, int b.sub, int b.obj, int b.value, int b.frm, int b.til, int b.known, int b.no], .vec [[int (aF a.known b.known)], [int (aF a.no b.no)]] 0 1]) ([.var [int a.kind, int a.sub, int a.obj, int a.value, int a.frm, int a.til, int a.known, int a.no], .var [int b.kind, int b.sub, int b.obj, int b.value, int b.frm, int b.til, int b.known, int b.no], .gone]))
 unfold sY at hl0
 revert hl0
 cases ho1 : aF a.known b.known != 0 with
 | false =>
  intro hl0
  revert hl0
  cases ho2 : aF a.no b.no != 0 with
  | false =>
   intro hl0
   exact zk (zm (d := int 0) pok [.val (int (aF a.known b.known)), .val (int (aF a.no b.no)), .inl, .st (.frz 2 (orR (aF a.known b.known) (aF a.no b.no))), .sum [2, 3, 6, 7, 8] (zQ 0) { t := mkT 18 0 [(2, int 0), (3, int 0)], h := [.var [int a.kind, int a.sub, int a.obj, int a.value, int a.frm, int a.til, int a.known, int a.no], .var [int b.kind, int b.sub, int b.obj, int b.value, int b.frm, int b.til, int b.known, int b.no], .gone], m := [] }] (by kernel_rfl) (.c (@cB (a.known) (b.known) (cN a b)) (.c (@cB (a.no) (b.no) (cN a b)) (.c (show [[int (aF a.known b.known)], [int (aF a.no b.no)]] = [[int (aF a.known b.known)], [int (aF a.no b.no)]] from rfl) (.c hl0 (.e (.ref (.ptr 0 6)) (.e (int a.known) (.e (.ref (.ptr 1 6)) (.e (int b.known) (.e (.ref (.ptr 0 7)) (.e (.ref (.ptr 0 7)) (.e (int a.no) (.e (int a.no) (.e (.ref (.ptr 1 7)) (.e (.ref (.ptr 1 7)) (.e (int b.no) (.e (int b.no) .n)))))))))))))))) rfl rfl h) (by simp [orI, ho1, ho2]) (by rfl)
  | true =>
   intro hl0
   exact zk (zm (d := int (aF a.no b.no)) pok [.val (int (aF a.known b.known)), .val (int (aF a.no b.no)), .inl, .st (.frz 2 (orR (aF a.known b.known) (aF a.no b.no))), .sum [2, 3, 6, 7, 8] (Ai) { t := mkT 18 0 [(2, int (aF a.no b.no))], h := [.var [int a.kind, int a.sub, int a.obj, int a.value, int a.frm, int a.til, int a.known, int a.no], .var [int b.kind, int b.sub, int b.obj, int b.value, int b.frm, int b.til, int b.known, int b.no], .gone], m := [] }] (by kernel_rfl) (.c (@cB (a.known) (b.known) (cN a b)) (.c (@cB (a.no) (b.no) (cN a b)) (.c (show [[int (aF a.known b.known)], [int (aF a.no b.no)]] = [[int (aF a.known b.known)], [int (aF a.no b.no)]] from rfl) (.c hl0 (.e (.ref (.ptr 0 6)) (.e (int a.known) (.e (.ref (.ptr 1 6)) (.e (int b.known) (.e (.ref (.ptr 0 7)) (.e (.ref (.ptr 0 7)) (.e (int a.no) (.e (int a.no) (.e (.ref (.ptr 1 7)) (.e (.ref (.ptr 1 7)) (.e (int b.no) (.e (int b.no) .n)))))))))))))))) rfl rfl h) (by simp [orI, ho1, ho2]) (by rfl)
 | true =>
  intro hl0
  exact zk (zm (d := int (aF a.known b.known)) pok [.val (int (aF a.known b.known)), .val (int (aF a.no b.no)), .inl, .st (.frz 2 (orR (aF a.known b.known) (aF a.no b.no))), .sum [2, 3, 6, 7, 8] (Ai) { t := mkT 18 0 [(2, int (aF a.known b.known))], h := [.var [int a.kind, int a.sub, int a.obj, int a.value, int a.frm, int a.til, int a.known, int a.no], .var [int b.kind, int b.sub, int b.obj, int b.value, int b.frm, int b.til, int b.known, int b.no], .gone], m := [] }] (by kernel_rfl) (.c (@cB (a.known) (b.known) (cN a b)) (.c (@cB (a.no) (b.no) (cN a b)) (.c (show [[int (aF a.known b.known)], [int (aF a.no b.no)]] = [[int (aF a.known b.known)], [int (aF a.no b.no)]] from rfl) (.c hl0 (.e (.ref (.ptr 0 6)) (.e (int a.known) (.e (.ref (.ptr 1 6)) (.e (int b.known) (.e (.ref (.ptr 0 7)) (.e (.ref (.ptr 0 7)) (.e (int a.no) (.e (int a.no) (.e (.ref (.ptr 1 7)) (.e (.ref (.ptr 1 7)) (.e (int b.no) (.e (int b.no) .n)))))))))))))))) rfl rfl h) (by simp [orI, ho1]) (by rfl)
end Go.Vi
open Go Go.Proofs
namespace Go.Vi
set_option maxRecDepth 100000
set_option maxHeartbeats 40000
theorem wrap_succ {i n : Nat} (h : i < n) (hn : n ≤ 140737488355328) : zb.wrap ((i : Int) + 1) = ((i + 1 : Nat) : Int) := by
 rw [wrap_i64 (by omega) (by omega)]; omega
theorem lt_len {α : Type} (row : α → List Dp) {l : List α} {i : Nat} (h : i < l.length) : decide ((i : Int) < ((l.map row).length : Int)) = true := by simp; omega
theorem bN {α : Type} (row : α → List Dp) (l : List α) : decide ((l.length : Int) < ((l.map row).length : Int)) = false := by simp
end Go.Vi
open Go Go.Proofs
namespace Go.Vi
set_option maxRecDepth 100000
set_option maxHeartbeats 4000000
structure AttT where
 course : Int
 term : Int
 grade : Int
 campus : Int
 credits : Int
 deriving Inhabited
def AttT.row (a : AttT) : List Dp := [vi a.course, vi a.term, vi a.grade, vi a.campus, vi a.credits]
theorem a8 {n a b : Int} (h : List Blk) : (Ev y6 Γ0 59 [int n, int a, int b] h (bool (decide (n ≥ a) && decide (n ≤ b))) h) := by
 exact zk (zm (d := bool (decide (n ≥ a) && decide (n ≤ b))) pok [] (by kernel_rfl) .n rfl rfl h) (by rfl) (by rfl)
theorem kV {n a b : Int} (h : List Blk) : (Ev y6 Γ0 87 [int n, int a, int b] h (bool (decide (n ≥ a) && decide (n ≤ b))) h) := by
 exact zk (zm (d := bool (decide (n ≥ a) && decide (n ≤ b))) pok [] (by kernel_rfl) .n rfl rfl h) (by rfl) (by rfl)
theorem kW {n a b : Int} (h : List Blk) : (Ev y6 Γ0 67 [int n, int a, int b] h (bool (decide (n ≥ a) && decide (n ≤ b))) h) := by
 exact zk (zm (d := bool (decide (n ≥ a) && decide (n ≤ b))) pok [] (by kernel_rfl) .n rfl rfl h) (by rfl) (by rfl)
theorem aR {n a b : Int} (h : List Blk) : (Ev y6 Γ0 113 [int n, int a, int b] h (bool (decide (n ≥ a) && decide (n ≤ b))) h) := by
 exact zk (zm (d := bool (decide (n ≥ a) && decide (n ≤ b))) pok [] (by kernel_rfl) .n rfl rfl h) (by rfl) (by rfl)
theorem ez {n a b : Int} (h : List Blk) : (Ev y6 Γ0 125 [int n, int a, int b] h (bool (decide (n ≥ a) && decide (n ≤ b))) h) := by
 exact zk (zm (d := bool (decide (n ≥ a) && decide (n ≤ b))) pok [] (by kernel_rfl) .n rfl rfl h) (by rfl) (by rfl)
theorem bZ {n a b : Int} (h : List Blk) : (Ev y6 Γ0 164 [int n, int a, int b] h (bool (decide (n ≥ a) && decide (n ≤ b))) h) := by
 exact zk (zm (d := bool (decide (a ≤ n) && decide (n ≤ b))) pok [] (by kernel_rfl) .n rfl rfl h) (by rfl) (by rfl)
noncomputable abbrev cj (a : AttT) (b : AttT) : List Blk := [.var [int a.course, int a.term, int a.grade, int a.campus, int a.credits], .var [int b.course, int b.term, int b.grade, int b.campus, int b.credits]]
theorem iE {a b : AttT} (h : List Blk) : (Ev y6 Γ0 79 [ag a.row, ag b.row] h (int (orI (aF a.term b.term) (aF a.course b.course))) h) := by
 have hl0 := (@or_cw (aF a.term b.term) (aF a.course b.course) ([.var [int a.course, int a.term, int a.grade, int a.campus, int a.credits], .var [int b.course, int b.term, int b.grade, int b.campus, int b.credits], .vec [[int (aF a.term b.term)], [int (aF a.course b.course)]] 0 1]) ([.var [int a.course, int a.term, int a.grade, int a.campus, int a.credits], .var [int b.course, int b.term, int b.grade, int b.campus, int b.credits], .gone]))
 unfold sY at hl0
 revert hl0
 cases ho1 : aF a.term b.term != 0 with
 | false =>
  intro hl0
  revert hl0
  cases ho2 : aF a.course b.course != 0 with
  | false =>
   intro hl0
   exact zk (zm (d := int 0) pok [.val (int (aF a.term b.term)), .val (int (aF a.course b.course)), .inl, .st (.frz 2 (orR (aF a.term b.term) (aF a.course b.course))), .sum [2, 3, 6, 7, 8] (zQ 0) { t := mkT 18 0 [(2, int 0), (3, int 0)], h := [.var [int a.course, int a.term, int a.grade, int a.campus, int a.credits], .var [int b.course, int b.term, int b.grade, int b.campus, int b.credits], .gone], m := [] }] (by kernel_rfl) (.c (@cB (a.term) (b.term) (cj a b)) (.c (@cB (a.course) (b.course) (cj a b)) (.c (show [[int (aF a.term b.term)], [int (aF a.course b.course)]] = [[int (aF a.term b.term)], [int (aF a.course b.course)]] from rfl) (.c hl0 (.e (.ref (.ptr 0 1)) (.e (int a.term) (.e (.ref (.ptr 1 1)) (.e (int b.term) (.e (.ref (.ptr 0 0)) (.e (.ref (.ptr 0 0)) (.e (int a.course) (.e (int a.course) (.e (.ref (.ptr 1 0)) (.e (.ref (.ptr 1 0)) (.e (int b.course) (.e (int b.course) .n)))))))))))))))) rfl rfl h) (by simp [orI, ho1, ho2]) (by rfl)
  | true =>
   intro hl0
   exact zk (zm (d := int (aF a.course b.course)) pok [.val (int (aF a.term b.term)), .val (int (aF a.course b.course)), .inl, .st (.frz 2 (orR (aF a.term b.term) (aF a.course b.course))), .sum [2, 3, 6, 7, 8] (Ai) { t := mkT 18 0 [(2, int (aF a.course b.course))], h := [.var [int a.course, int a.term, int a.grade, int a.campus, int a.credits], .var [int b.course, int b.term, int b.grade, int b.campus, int b.credits], .gone], m := [] }] (by kernel_rfl) (.c (@cB (a.term) (b.term) (cj a b)) (.c (@cB (a.course) (b.course) (cj a b)) (.c (show [[int (aF a.term b.term)], [int (aF a.course b.course)]] = [[int (aF a.term b.term)], [int (aF a.course b.course)]] from rfl) (.c hl0 (.e (.ref (.ptr 0 1)) (.e (int a.term) (.e (.ref (.ptr 1 1)) (.e (int b.term) (.e (.ref (.ptr 0 0)) (.e (.ref (.ptr 0 0)) (.e (int a.course) (.e (int a.course) (.e (.ref (.ptr 1 0)) (.e (.ref (.ptr 1 0)) (.e (int b.course) (.e (int b.course) .n)))))))))))))))) rfl rfl h) (by simp [orI, ho1, ho2]) (by rfl)
 | true =>
  intro hl0
  exact zk (zm (d := int (aF a.term b.term)) pok [.val (int (aF a.term b.term)), .val (int (aF a.course b.course)), .inl, .st (.frz 2 (orR (aF a.term b.term) (aF a.course b.course))), .sum [2, 3, 6, 7, 8] (Ai) { t := mkT 18 0 [(2, int (aF a.term b.term))], h := [.var [int a.course, int a.term, int a.grade, int a.campus, int a.credits], .var [int b.course, int b.term, int b.grade, int b.campus, int b.credits], .gone], m := [] }] (by kernel_rfl) (.c (@cB (a.term) (b.term) (cj a b)) (.c (@cB (a.course) (b.course) (cj a b)) (.c (show [[int (aF a.term b.term)], [int (aF a.course b.course)]] = [[int (aF a.term b.term)], [int (aF a.course b.course)]] from rfl) (.c hl0 (.e (.ref (.ptr 0 1)) (.e (int a.term) (.e (.ref (.ptr 1 1)) (.e (int b.term) (.e (.ref (.ptr 0 0)) (.e (.ref (.ptr 0 0)) (.e (int a.course) (.e (int a.course) (.e (.ref (.ptr 1 0)) (.e (.ref (.ptr 1 0)) (.e (int b.course) (.e (int b.course) .n)))))))))))))))) rfl rfl h) (by simp [orI, ho1]) (by rfl)
def inB (n a b : Int) : Bool := decide (n ≥ a) && decide (n ≤ b)
def attB (a : AttT) : Bool := inB a.course 0 4095 && inB a.term 0 1023 && inB a.grade 0 12 && inB a.campus 0 6 && inB a.credits 0 60
noncomputable abbrev c6 (a : AttT) : List Blk := [.var [int a.course, int a.term, int a.grade, int a.campus, int a.credits]]
theorem u5 {a : AttT} (h : List Blk) : (Ev y6 Γ0 157 [ag a.row] h (bool (attB a)) h) := by
 exact zk (zm (d := bool (decide (a.course ≥ 0) && decide (a.course ≤ 4095) && (decide (a.term ≥ 0) && decide (a.term ≤ 1023)) && (decide (a.grade ≥ 0) && decide (a.grade ≤ 12)) && (decide (a.campus ≥ 0) && decide (a.campus ≤ 6)) && (decide (a.credits ≥ 0) && decide (a.credits ≤ 60)))) pok [.val (bool (decide (a.course ≥ 0) && decide (a.course ≤ 4095))), .val (bool (decide (a.term ≥ 0) && decide (a.term ≤ 1023))), .val (bool (decide (a.grade ≥ 0) && decide (a.grade ≤ 12))), .val (bool (decide (a.campus ≥ 0) && decide (a.campus ≤ 6))), .val (bool (decide (a.credits ≥ 0) && decide (a.credits ≤ 60)))] (by kernel_rfl) (.c (@bZ (a.course) 0 4095 (c6 a)) (.c (gd (decide (a.course ≥ 0) && decide (a.course ≤ 4095)) (@bZ (a.term) 0 1023 (c6 a))) (.c (gd (decide (a.course ≥ 0) && decide (a.course ≤ 4095) && (decide (a.term ≥ 0) && decide (a.term ≤ 1023))) (@bZ (a.grade) 0 12 (c6 a))) (.c (gd (decide (a.course ≥ 0) && decide (a.course ≤ 4095) && (decide (a.term ≥ 0) && decide (a.term ≤ 1023)) && (decide (a.grade ≥ 0) && decide (a.grade ≤ 12))) (@bZ (a.campus) 0 6 (c6 a))) (.c (gd (decide (a.course ≥ 0) && decide (a.course ≤ 4095) && (decide (a.term ≥ 0) && decide (a.term ≤ 1023)) && (decide (a.grade ≥ 0) && decide (a.grade ≤ 12)) && (decide (a.campus ≥ 0) && decide (a.campus ≤ 6))) (@bZ (a.credits) 0 60 (c6 a))) .n))))) rfl rfl h) (by rfl) (by rfl)
noncomputable abbrev nz (a : AttT) : List Blk := [.var [int a.course, int a.term, int a.grade, int a.campus, int a.credits]]
theorem sZ {a : AttT} (h : List Blk) : (Ev y6 Γ0 156 [ag a.row] h (bool (!attB a)) h) := by
 exact zk (zm (d := bool !attB a) pok [.val (bool (attB a))] (by kernel_rfl) (.c (@u5 a (nz a)) .n) rfl rfl h) (by rfl) (by rfl)
theorem s4 {a : AttT} (h : List Blk) : (Ev y6 Γ0 80 [ag a.row] h (bool (decide (a.course ≥ 0) && decide (a.course < 4096) && decide (a.term ≥ 0) && decide (a.term < 1024) && decide (a.grade ≥ 0) && decide (a.grade ≤ 12) && decide (a.campus ≥ 0) && decide (a.campus < 7) && decide (a.credits ≥ 0) && decide (a.credits ≤ 60))) h) := by
 exact zk (zm (d := bool (decide (a.course ≥ 0) && decide (a.course < 4096) && decide (a.term ≥ 0) && decide (a.term < 1024) && decide (a.grade ≥ 0) && decide (a.grade ≤ 12) && decide (a.campus ≥ 0) && decide (a.campus < 7) && decide (a.credits ≥ 0) && decide (a.credits ≤ 60))) pok [] (by kernel_rfl) .n rfl rfl h) (by rfl) (by rfl)
end Go.Vi
open Go Go.Proofs
namespace Go.Vi
set_option maxRecDepth 100000
set_option maxHeartbeats 4000000
structure ClauseT where
 kind : Int
 when_ : Int
 action : Int
 til : Int
 deriving Inhabited
def ClauseT.row (a : ClauseT) : List Dp := [vi a.kind, vi a.when_, vi a.action, vi a.til]
def xaF (p : AttT → Bool) (c : AttT) (s : Nat) : Nat ⊕ Nat := if p c = true then .inr s else .inl (s + 1)
abbrev xaS (fs : List (List Dp)) (f : D) (h : List Blk) (i : Int) : AS := { t := mkT 19 0 [(0, aa fs), (1, f), (4, int 0), (7, int fs.length), (8, int i)], h := h, m := [] }
abbrev xaX (h : List Blk) : Nat → Exit × AS := fun k => (.ret, { t := mkT 19 0 [(4, int (k : Int))], h := h, m := [] })
theorem xH {fs : List (List Dp)} {i : Nat} {c : AttT} {f : D} {h : List Blk} {p : AttT → Bool} (hr : aj (i : Int) fs (AttT.row c) 5) (hlt : decide ((i : Int) < (fs.length : Int)) = true) (hw : zb.wrap ((i : Int) + 1) = ((i + 1 : Nat) : Int)) (hi : Iv y6 Γ0 f [ag (AttT.row c)] h (bool (p c)) h) : (CW y6 Γ0 h false (sub Tryz.f196 0) (xaS fs f h i) (ad (fun _ => xaS fs f h ((i + 1 : Nat) : Int)) (xaX h) (xaF p c i)).1 (ad (fun _ => xaS fs f h ((i + 1 : Nat) : Int)) (xaX h) (xaF p c i)).2) := by
 cases hc0 : p c
 ·exact zt (zu (s' := { t := mkT 19 0 [(0, aa fs), (1, f), (4, int 0), (7, int (↑(zf fs) : Int)), (8, int (zg zb ((↑i : Int) + 1)))], h := h, m := [] }) (e := zr) pok [.st (.mask [0, 1, 4, 7, 8])] [.b true, .row (AttT.row c), .ival (bool (p c)), .b false] (by kernel_rfl) (.c hlt (.c hr (.c (@hi) (.c hc0 .n))))) (by simp [xaF, ad, *]) (by simp [xaF, ad, *])
 ·exact zt (zu (s' := { t := mkT 19 0 [(4, int (↑i : Int))], h := h, m := [] }) (e := Ai) pok [.st (.mask [4])] [.b true, .row (AttT.row c), .ival (bool (p c)), .b true] (by kernel_rfl) (.c hlt (.c hr (.c (@hi) (.c hc0 .n))))) (by simp [xaF, ad, *]) (by simp [xaF, ad, *])
theorem xI {fs : List (List Dp)} {i : Nat} {f : D} {h : List Blk} (hlt : decide ((i : Int) < (fs.length : Int)) = false) : (CW y6 Γ0 h false (sub Tryz.f196 0) (xaS fs f h i) (.exit 0) { t := mkT 19 0 [(4, int 0)], h := h, m := [] }) := by
 exact zt (zu (s' := { t := mkT 19 0 [(4, int 0)], h := h, m := [] }) (e := zQ 0) pok [.st (.mask [4])] [.b false] (by kernel_rfl) (.c hlt .n)) (by rfl) (by rfl)
def xaR (p : AttT → Bool) (l : List AttT) : Int := match bp (xaF p) l 0 with | .inl _ => -1 | .inr k => (k : Int)
def xJ (h : List Blk) (p : AttT → Bool) (l : List AttT) : Exit × AS := bI (.exit 0) (fun _ : Nat => { t := mkT 19 0 [(4, int 0)], h := h, m := [] }) (xaX h) (bp (xaF p) l 0)
theorem xa_cw {l : List AttT} (hl : ak l) {f : D} {h : List Blk} {p : AttT → Bool} (hf : ∀ c ∈ l, Iv y6 Γ0 f [ag (AttT.row c)] h (bool (p c)) h) :
  CW y6 Γ0 h false (.loop (sub Tryz.f196 0)) (xaS (l.map AttT.row) f h 0) (xJ h p l).1 (xJ h p l).2 := by
 refine CW.each l (xaF p) (fun i _ => xaS (l.map AttT.row) f h (i : Int)) (.exit 0) _ (xaX h) (fun i s => s = i) (by simp) (fun _ => by simp) ?_ ?_ 0 rfl
 ·intro i c s hc hs
  subst hs
  have hi := (zc.1 hc).1
  refine ⟨fun s' h => ?_, xH (rowAt hc rfl) (lt_len AttT.row hi) (wrap_succ hi hl) (hf c (zL hc))⟩
  unfold xaF at h
  split at h <;> simp at h
  exact h.symm
 ·intro s hs
  exact xI (bN AttT.row l)
theorem xai_ev {l : List AttT} (hl : ak l) {f : D} {h : List Blk} {p : AttT → Bool} (hf : ∀ c ∈ l, Iv y6 Γ0 f [ag (AttT.row c)] h (bool (p c)) h) : (Ev y6 Γ0 196 [aa (l.map AttT.row), f] h (int (xaR p l)) h) := by
 have hl0 := (@xa_cw (l) (hl) (f) (h) (p) (hf))
 unfold xJ at hl0
 revert hl0
 cases ho1 : bp (xaF p) l 0 with
 | inl o1_0_0 =>
  intro hl0
  exact zk (Cu (h' := h) (d := int (-1)) pok [.sum [0, 1, 4, 7, 8] (zQ 0) { t := mkT 19 0 [(4, int 0)], h := h, m := [] }] (by kernel_rfl) (.c hl0 .n)) (by simp [xaR, ho1]) (by simp [])
 | inr o1_1_0 =>
  intro hl0
  exact zk (Cu (h' := h) (d := int (↑o1_1_0 : Int)) pok [.sum [0, 1, 4, 7, 8] (Ai) { t := mkT 19 0 [(4, int (↑o1_1_0 : Int))], h := h, m := [] }] (by kernel_rfl) (.c hl0 .n)) (by simp [xaR, ho1]) (by simp [])
theorem xa_any (p : AttT → Bool) (l : List AttT) : ∀ k : Nat, (match bp (xaF p) l k with | .inl _ => false | .inr _ => true) = l.any p := by
 induction l with
 | nil => intro k; rfl
 | cons f l ih =>
  intro k
  rw [List.any_cons]
  cases hf : p f
  ·simp only [bp, xaF, hf, zO, if_false, Bool.false_or]
   exact ih (k + 1)
  ·simp [bp, xaF, hf]
theorem xaR_ge (p : AttT → Bool) (l : List AttT) : decide (xaR p l ≥ 0) = l.any p := by
 rw [← xa_any p l 0, xaR]
 split <;> simp
theorem wE {l : List AttT} (hl : ak l) {f : D} {h : List Blk} {p : AttT → Bool} (hf : ∀ c ∈ l, Iv y6 Γ0 f [ag (AttT.row c)] h (bool (p c)) h) : (Ev y6 Γ0 155 [aa (l.map AttT.row), f] h (bool (l.any p)) h) := by
 refine zk (Cu (h' := h) (d := bool (decide (xaR p l ≥ 0))) pok [.val (int (xaR p l))] (by kernel_rfl) (.c (@xai_ev l hl f h p hf) .n)) ?_ ?_ <;> (first | rfl | rw [← xaR_ge])
structure SysT where
 classes : List Cls
 fees : List FeeT
 honours : List Cls
 clauses : List ClauseT
 deriving Inhabited
def SysT.sys (s : SysT) : Vi.Sys := ⟨s.classes, s.fees, s.honours, s.clauses.map ClauseT.row⟩
def SysT.row (s : SysT) : List Dp := [.sl (s.classes.map Cls.row), .sl (s.fees.map FeeT.row), .sl (s.honours.map Cls.row), .sl (s.clauses.map ClauseT.row)]
def SysT.ok (s : SysT) : Prop := s.sys.ok
end Go.Vi
open Go Go.Proofs
namespace Go.Vi
set_option maxRecDepth 100000
set_option maxHeartbeats 4000000
abbrev kd' (a b c d : Bool) (f g : Value) : List Dp := [.v (.bool a), .v (.bool b), .v (.bool c), .v (.bool d), .v f, .v g]
abbrev kf' (k : Nat) : Value := .func (.func k) #[] #[]
def s5 : List Dp :=
 kd' false false false false .nilFunc .nilFunc ++ kd' false false false true (kf' 257) (kf' 258) ++ kd' false false false true (kf' 259) (kf' 260) ++ kd' false true false true (kf' 261) (kf' 262) ++
 kd' false false false true (kf' 263) (kf' 264) ++ kd' true true false false (kf' 265) (kf' 267) ++ kd' true true false false (kf' 269) (kf' 270) ++ kd' false true false false (kf' 271) (kf' 272) ++
 kd' false true true false (kf' 273) (kf' 274) ++ kd' true false false false (kf' 266) (kf' 275)
def Γk : ah := fun g => match g with | 0 => some s5 | _ => none
theorem xK {a b : Int} (ha : I64 a) (hb : I64 b) (h : List Blk) : (Ev y6 Γ0 114 [.agg [int a, int b]] h (bool (qf a b == 0 && decide (a ≥ 0) && decide (a ≤ zb.wrap (12 * b)))) h) := by
 exact zk (zm (d := bool (qf a b == 0 && decide (a ≥ 0) && decide (a ≤ zg zb (12 * b)))) pok [.val (int (qf a b))] (by kernel_rfl) (.c (@u1 a b ha hb ([.var [int a, int b]])) .n) rfl rfl h) (by rfl) (by rfl)
abbrev ruD (op c : Int) (nm : ByteArray) (n d : Int) (ks : List (List Dp)) : D := .agg [int op, int c, ai nm, int n, int d, aa ks]
theorem xL {op c : Int} {nm : ByteArray} {n d : Int} {ks : List (List Dp)} (h : List Blk) : (Ev y6 Γ0 257 [ruD op c nm n d ks] h (bool true) h) := by
 exact zk (zm (d := bool true) pok [] (by kernel_rfl) .n rfl rfl h) (by rfl) (by rfl)
theorem xM {op c : Int} {nm : ByteArray} {n d : Int} {ks : List (List Dp)} (h : List Blk) : (Ev y6 Γ0 259 [ruD op c nm n d ks] h (bool true) h) := by
 exact zk (zm (d := bool true) pok [] (by kernel_rfl) .n rfl rfl h) (by rfl) (by rfl)
theorem xN {op c : Int} {nm : ByteArray} {n d : Int} {ks : List (List Dp)} (h : List Blk) : (Ev y6 Γ0 261 [ruD op c nm n d ks] h (bool (inB n 0 200)) h) := by
 exact zk (zm (d := bool (decide (n ≥ 0) && decide (n ≤ 200))) pok [.val (bool (decide (n ≥ 0) && decide (n ≤ 200)))] (by kernel_rfl) (.c (@aR n 0 200 ([.var [int op, int c, ai nm, int n, int d, aa ks]])) .n) rfl rfl h) (by rfl) (by rfl)
theorem xO {op c : Int} {nm : ByteArray} {n d : Int} {ks : List (List Dp)} (h : List Blk) : (Ev y6 Γ0 263 [ruD op c nm n d ks] h (bool ((ks.length : Int) == 1)) h) := by
 exact zk (zm (d := bool ((↑(zf ks) : Int) == 1)) pok [] (by kernel_rfl) .n rfl rfl h) (by rfl) (by rfl)
theorem oI {op c : Int} {nm : ByteArray} {n d : Int} {ks : List (List Dp)} (h : List Blk) : (Ev y6 Γ0 266 [ruD op c nm n d ks] h (bool (inB c 0 4095)) h) := by
 exact zk (zm (d := bool (decide (c ≥ 0) && decide (c ≤ 4095))) pok [.val (bool (decide (c ≥ 0) && decide (c ≤ 4095)))] (by kernel_rfl) (.c (@aR c 0 4095 ([.var [int op, int c, ai nm, int n, int d, aa ks]])) .n) rfl rfl h) (by rfl) (by rfl)
theorem xP {op c : Int} {nm : ByteArray} {n d : Int} {ks : List (List Dp)} (h : List Blk) : (Ev y6 Γ0 265 [ruD op c nm n d ks] h (bool (inB c 0 4095 && inB n 0 12)) h) := by
 exact zk (zm (d := bool (inB c 0 4095 && (decide (n ≥ 0) && decide (n ≤ 12)))) pok [.val (bool (inB c 0 4095)), .val (bool (decide (n ≥ 0) && decide (n ≤ 12)))] (by kernel_rfl) (.c (@oI op c nm n d ks ([.var [int op, int c, ai nm, int n, int d, aa ks]])) (.c (gd (inB c 0 4095) (@aR n 0 12 ([.var [int op, int c, ai nm, int n, int d, aa ks]]))) .n)) rfl rfl h) (by rfl) (by rfl)
theorem xQ {op c : Int} {nm : ByteArray} {n d : Int} {ks : List (List Dp)} (h : List Blk) : (Ev y6 Γ0 269 [ruD op c nm n d ks] h (bool (inB c 0 4095 && inB n 1 100)) h) := by
 exact zk (zm (d := bool (inB c 0 4095 && (decide (n ≥ 1) && decide (n ≤ 100)))) pok [.val (bool (inB c 0 4095)), .val (bool (decide (n ≥ 1) && decide (n ≤ 100)))] (by kernel_rfl) (.c (@oI op c nm n d ks ([.var [int op, int c, ai nm, int n, int d, aa ks]])) (.c (gd (inB c 0 4095) (@aR n 1 100 ([.var [int op, int c, ai nm, int n, int d, aa ks]]))) .n)) rfl rfl h) (by rfl) (by rfl)
theorem xR {op c : Int} {nm : ByteArray} {n d : Int} {ks : List (List Dp)} (h : List Blk) : (Ev y6 Γ0 271 [ruD op c nm n d ks] h (bool (inB n 0 10000)) h) := by
 exact zk (zm (d := bool (decide (n ≥ 0) && decide (n ≤ 10000))) pok [.val (bool (decide (n ≥ 0) && decide (n ≤ 10000)))] (by kernel_rfl) (.c (@aR n 0 10000 ([.var [int op, int c, ai nm, int n, int d, aa ks]])) .n) rfl rfl h) (by rfl) (by rfl)
def oJ (a b : Int) : Bool := qf a b == 0 && decide (a ≥ 0) && decide (a ≤ zb.wrap (12 * b))
theorem xS {op c : Int} {nm : ByteArray} {n d : Int} {ks : List (List Dp)} (hn : I64 n) (hd : I64 d) (h : List Blk) : (Ev y6 Γ0 273 [ruD op c nm n d ks] h (bool (oJ n d)) h) := by
 exact zk (zm (d := bool (qf n d == 0 && decide (n ≥ 0) && decide (n ≤ zg zb (12 * d)))) pok [.val (bool (qf n d == 0 && decide (n ≥ 0) && decide (n ≤ zg zb (12 * d))))] (by kernel_rfl) (.c (@xK n d hn hd ([.var [int op, int c, ai nm, int n, int d, aa ks]])) .n) rfl rfl h) (by rfl) (by rfl)
def ac (op c n d k : Int) : Bool :=
 if (!(op == 5 || op == 6 || op == 9) && c != 0 || !(op == 3 || op == 5 || op == 6 || op == 7 || op == 8) && n != 0 || op != 8 && d != 0 || (decide (op ≥ 5) && decide (op ≤ 9)) && decide (k > 0)) = true then false
 else if op = 1 then true else if op = 2 then true else if op = 3 then inB n 0 200 else if op = 4 then k == 1 else if op = 5 then inB c 0 4095 && inB n 0 12
 else if op = 6 then inB c 0 4095 && inB n 1 100 else if op = 7 then inB n 0 10000 else if op = 8 then oJ n d else if op = 9 then inB c 0 4095 else false
noncomputable abbrev nA (c : Int) (nm : ByteArray) (n : Int) (d : Int) (ks : List (List Dp)) : List Blk := [.var [int 1, int c, ai nm, int n, int d, aa ks], .var [bool false, bool false, bool false, bool true, fq 257, fq 258]]
theorem s6 {c : Int} {nm : ByteArray} {n d : Int} {ks : List (List Dp)} (h : List Blk) : (Ev y6 Γk 234 [ruD 1 c nm n d ks] h (bool (ac 1 c n d ks.length)) h) := by
 cases hc0 : !false && c != 0 || !false && n != 0 || !false && d != 0 || !true && decide ((↑(zf ks) : Int) > 0)
 ·exact zk (zm (d := bool true) pok [.val (bool (decide (1 ≥ 1) && decide (1 ≤ 9))), .b false, .b false, .val (bool true)] (by kernel_rfl) (.c (zV (Γ' := Γk) (@aR 1 1 9 ([.var [int 1, int c, ai nm, int n, int d, aa ks]]))) (.c (show (!(decide (1 ≥ 1) && decide (1 ≤ 9))) = false from rfl) (.c (show inR 1 10 = true from rfl) (.c hc0 (.c (zV (Γ' := Γk) (@xL 1 c nm n d ks (nA c nm n d ks))) .n))))) rfl rfl h) (by first | rfl | (simp [ac]; done) | (simp_all [ac]; done)) (by rfl)
 ·exact zk (zm (d := bool false) pok [.val (bool (decide (1 ≥ 1) && decide (1 ≤ 9))), .b false, .b true] (by kernel_rfl) (.c (zV (Γ' := Γk) (@aR 1 1 9 ([.var [int 1, int c, ai nm, int n, int d, aa ks]]))) (.c (show (!(decide (1 ≥ 1) && decide (1 ≤ 9))) = false from rfl) (.c (show inR 1 10 = true from rfl) (.c hc0 .n)))) rfl rfl h) (by first | rfl | (simp [ac]; done) | (simp_all [ac]; done)) (by rfl)
noncomputable abbrev nB (c : Int) (nm : ByteArray) (n : Int) (d : Int) (ks : List (List Dp)) : List Blk := [.var [int 2, int c, ai nm, int n, int d, aa ks], .var [bool false, bool false, bool false, bool true, fq 259, fq 260]]
theorem s7 {c : Int} {nm : ByteArray} {n d : Int} {ks : List (List Dp)} (h : List Blk) : (Ev y6 Γk 234 [ruD 2 c nm n d ks] h (bool (ac 2 c n d ks.length)) h) := by
 cases hc0 : !false && c != 0 || !false && n != 0 || !false && d != 0 || !true && decide ((↑(zf ks) : Int) > 0)
 ·exact zk (zm (d := bool true) pok [.val (bool (decide (2 ≥ 1) && decide (2 ≤ 9))), .b false, .b false, .val (bool true)] (by kernel_rfl) (.c (zV (Γ' := Γk) (@aR 2 1 9 ([.var [int 2, int c, ai nm, int n, int d, aa ks]]))) (.c (show (!(decide (2 ≥ 1) && decide (2 ≤ 9))) = false from rfl) (.c (show inR 2 10 = true from rfl) (.c hc0 (.c (zV (Γ' := Γk) (@xM 2 c nm n d ks (nB c nm n d ks))) .n))))) rfl rfl h) (by first | rfl | (simp [ac]; done) | (simp_all [ac]; done)) (by rfl)
 ·exact zk (zm (d := bool false) pok [.val (bool (decide (2 ≥ 1) && decide (2 ≤ 9))), .b false, .b true] (by kernel_rfl) (.c (zV (Γ' := Γk) (@aR 2 1 9 ([.var [int 2, int c, ai nm, int n, int d, aa ks]]))) (.c (show (!(decide (2 ≥ 1) && decide (2 ≤ 9))) = false from rfl) (.c (show inR 2 10 = true from rfl) (.c hc0 .n)))) rfl rfl h) (by first | rfl | (simp [ac]; done) | (simp_all [ac]; done)) (by rfl)
noncomputable abbrev nC (c : Int) (nm : ByteArray) (n : Int) (d : Int) (ks : List (List Dp)) : List Blk := [.var [int 3, int c, ai nm, int n, int d, aa ks], .var [bool false, bool true, bool false, bool true, fq 261, fq 262]]
theorem s8 {c : Int} {nm : ByteArray} {n d : Int} {ks : List (List Dp)} (h : List Blk) : (Ev y6 Γk 234 [ruD 3 c nm n d ks] h (bool (ac 3 c n d ks.length)) h) := by
 cases hc0 : !false && c != 0 || !true && n != 0 || !false && d != 0 || !true && decide ((↑(zf ks) : Int) > 0)
 ·exact zk (zm (d := bool (inB n 0 200)) pok [.val (bool (decide (3 ≥ 1) && decide (3 ≤ 9))), .b false, .b false, .val (bool (inB n 0 200))] (by kernel_rfl) (.c (zV (Γ' := Γk) (@aR 3 1 9 ([.var [int 3, int c, ai nm, int n, int d, aa ks]]))) (.c (show (!(decide (3 ≥ 1) && decide (3 ≤ 9))) = false from rfl) (.c (show inR 3 10 = true from rfl) (.c hc0 (.c (zV (Γ' := Γk) (@xN 3 c nm n d ks (nC c nm n d ks))) .n))))) rfl rfl h) (by first | rfl | (simp [ac]; done) | (simp_all [ac]; done)) (by rfl)
 ·exact zk (zm (d := bool false) pok [.val (bool (decide (3 ≥ 1) && decide (3 ≤ 9))), .b false, .b true] (by kernel_rfl) (.c (zV (Γ' := Γk) (@aR 3 1 9 ([.var [int 3, int c, ai nm, int n, int d, aa ks]]))) (.c (show (!(decide (3 ≥ 1) && decide (3 ≤ 9))) = false from rfl) (.c (show inR 3 10 = true from rfl) (.c hc0 .n)))) rfl rfl h) (by first | rfl | (simp [ac]; done) | (simp_all [ac]; done)) (by rfl)
noncomputable abbrev nD (c : Int) (nm : ByteArray) (n : Int) (d : Int) (ks : List (List Dp)) : List Blk := [.var [int 4, int c, ai nm, int n, int d, aa ks], .var [bool false, bool false, bool false, bool true, fq 263, fq 264]]
theorem s9 {c : Int} {nm : ByteArray} {n d : Int} {ks : List (List Dp)} (h : List Blk) : (Ev y6 Γk 234 [ruD 4 c nm n d ks] h (bool (ac 4 c n d ks.length)) h) := by
 cases hc0 : !false && c != 0 || !false && n != 0 || !false && d != 0 || !true && decide ((↑(zf ks) : Int) > 0)
 ·exact zk (zm (d := bool ((↑(zf ks) : Int) == 1)) pok [.val (bool (decide (4 ≥ 1) && decide (4 ≤ 9))), .b false, .b false, .val (bool ((↑(zf ks) : Int) == 1))] (by kernel_rfl) (.c (zV (Γ' := Γk) (@aR 4 1 9 ([.var [int 4, int c, ai nm, int n, int d, aa ks]]))) (.c (show (!(decide (4 ≥ 1) && decide (4 ≤ 9))) = false from rfl) (.c (show inR 4 10 = true from rfl) (.c hc0 (.c (zV (Γ' := Γk) (@xO 4 c nm n d ks (nD c nm n d ks))) .n))))) rfl rfl h) (by first | rfl | (simp [ac]; done) | (simp_all [ac]; done)) (by rfl)
 ·exact zk (zm (d := bool false) pok [.val (bool (decide (4 ≥ 1) && decide (4 ≤ 9))), .b false, .b true] (by kernel_rfl) (.c (zV (Γ' := Γk) (@aR 4 1 9 ([.var [int 4, int c, ai nm, int n, int d, aa ks]]))) (.c (show (!(decide (4 ≥ 1) && decide (4 ≤ 9))) = false from rfl) (.c (show inR 4 10 = true from rfl) (.c hc0 .n)))) rfl rfl h) (by first | rfl | (simp [ac]; done) | (simp_all [ac]; done)) (by rfl)
noncomputable abbrev nE (c : Int) (nm : ByteArray) (n : Int) (d : Int) (ks : List (List Dp)) : List Blk := [.var [int 5, int c, ai nm, int n, int d, aa ks], .var [bool true, bool true, bool false, bool false, fq 265, fq 267]]
theorem ta {c : Int} {nm : ByteArray} {n d : Int} {ks : List (List Dp)} (h : List Blk) : (Ev y6 Γk 234 [ruD 5 c nm n d ks] h (bool (ac 5 c n d ks.length)) h) := by
 cases hc0 : !true && c != 0 || !true && n != 0 || !false && d != 0 || !false && decide ((↑(zf ks) : Int) > 0)
 ·exact zk (zm (d := bool (inB c 0 4095 && inB n 0 12)) pok [.val (bool (decide (5 ≥ 1) && decide (5 ≤ 9))), .b false, .b false, .val (bool (inB c 0 4095 && inB n 0 12))] (by kernel_rfl) (.c (zV (Γ' := Γk) (@aR 5 1 9 ([.var [int 5, int c, ai nm, int n, int d, aa ks]]))) (.c (show (!(decide (5 ≥ 1) && decide (5 ≤ 9))) = false from rfl) (.c (show inR 5 10 = true from rfl) (.c hc0 (.c (zV (Γ' := Γk) (@xP 5 c nm n d ks (nE c nm n d ks))) .n))))) rfl rfl h) (by first | rfl | (simp [ac]; done) | (simp_all [ac]; done)) (by rfl)
 ·exact zk (zm (d := bool false) pok [.val (bool (decide (5 ≥ 1) && decide (5 ≤ 9))), .b false, .b true] (by kernel_rfl) (.c (zV (Γ' := Γk) (@aR 5 1 9 ([.var [int 5, int c, ai nm, int n, int d, aa ks]]))) (.c (show (!(decide (5 ≥ 1) && decide (5 ≤ 9))) = false from rfl) (.c (show inR 5 10 = true from rfl) (.c hc0 .n)))) rfl rfl h) (by first | rfl | (simp [ac]; done) | (simp_all [ac]; done)) (by rfl)
noncomputable abbrev nF (c : Int) (nm : ByteArray) (n : Int) (d : Int) (ks : List (List Dp)) : List Blk := [.var [int 6, int c, ai nm, int n, int d, aa ks], .var [bool true, bool true, bool false, bool false, fq 269, fq 270]]
theorem tb {c : Int} {nm : ByteArray} {n d : Int} {ks : List (List Dp)} (h : List Blk) : (Ev y6 Γk 234 [ruD 6 c nm n d ks] h (bool (ac 6 c n d ks.length)) h) := by
 cases hc0 : !true && c != 0 || !true && n != 0 || !false && d != 0 || !false && decide ((↑(zf ks) : Int) > 0)
 ·exact zk (zm (d := bool (inB c 0 4095 && inB n 1 100)) pok [.val (bool (decide (6 ≥ 1) && decide (6 ≤ 9))), .b false, .b false, .val (bool (inB c 0 4095 && inB n 1 100))] (by kernel_rfl) (.c (zV (Γ' := Γk) (@aR 6 1 9 ([.var [int 6, int c, ai nm, int n, int d, aa ks]]))) (.c (show (!(decide (6 ≥ 1) && decide (6 ≤ 9))) = false from rfl) (.c (show inR 6 10 = true from rfl) (.c hc0 (.c (zV (Γ' := Γk) (@xQ 6 c nm n d ks (nF c nm n d ks))) .n))))) rfl rfl h) (by first | rfl | (simp [ac]; done) | (simp_all [ac]; done)) (by rfl)
 ·exact zk (zm (d := bool false) pok [.val (bool (decide (6 ≥ 1) && decide (6 ≤ 9))), .b false, .b true] (by kernel_rfl) (.c (zV (Γ' := Γk) (@aR 6 1 9 ([.var [int 6, int c, ai nm, int n, int d, aa ks]]))) (.c (show (!(decide (6 ≥ 1) && decide (6 ≤ 9))) = false from rfl) (.c (show inR 6 10 = true from rfl) (.c hc0 .n)))) rfl rfl h) (by first | rfl | (simp [ac]; done) | (simp_all [ac]; done)) (by rfl)
noncomputable abbrev nG (c : Int) (nm : ByteArray) (n : Int) (d : Int) (ks : List (List Dp)) : List Blk := [.var [int 7, int c, ai nm, int n, int d, aa ks], .var [bool false, bool true, bool false, bool false, fq 271, fq 272]]
theorem tc {c : Int} {nm : ByteArray} {n d : Int} {ks : List (List Dp)} (h : List Blk) : (Ev y6 Γk 234 [ruD 7 c nm n d ks] h (bool (ac 7 c n d ks.length)) h) := by
 cases hc0 : !false && c != 0 || !true && n != 0 || !false && d != 0 || !false && decide ((↑(zf ks) : Int) > 0)
 ·exact zk (zm (d := bool (inB n 0 10000)) pok [.val (bool (decide (7 ≥ 1) && decide (7 ≤ 9))), .b false, .b false, .val (bool (inB n 0 10000))] (by kernel_rfl) (.c (zV (Γ' := Γk) (@aR 7 1 9 ([.var [int 7, int c, ai nm, int n, int d, aa ks]]))) (.c (show (!(decide (7 ≥ 1) && decide (7 ≤ 9))) = false from rfl) (.c (show inR 7 10 = true from rfl) (.c hc0 (.c (zV (Γ' := Γk) (@xR 7 c nm n d ks (nG c nm n d ks))) .n))))) rfl rfl h) (by first | rfl | (simp [ac]; done) | (simp_all [ac]; done)) (by rfl)
 ·exact zk (zm (d := bool false) pok [.val (bool (decide (7 ≥ 1) && decide (7 ≤ 9))), .b false, .b true] (by kernel_rfl) (.c (zV (Γ' := Γk) (@aR 7 1 9 ([.var [int 7, int c, ai nm, int n, int d, aa ks]]))) (.c (show (!(decide (7 ≥ 1) && decide (7 ≤ 9))) = false from rfl) (.c (show inR 7 10 = true from rfl) (.c hc0 .n)))) rfl rfl h) (by first | rfl | (simp [ac]; done) | (simp_all [ac]; done)) (by rfl)
noncomputable abbrev nH (c : Int) (nm : ByteArray) (n : Int) (d : Int) (ks : List (List Dp)) : List Blk := [.var [int 8, int c, ai nm, int n, int d, aa ks], .var [bool false, bool true, bool true, bool false, fq 273, fq 274]]
theorem te {c : Int} {nm : ByteArray} {n d : Int} {ks : List (List Dp)} (hn : I64 n) (hd : I64 d) (h : List Blk) : (Ev y6 Γk 234 [ruD 8 c nm n d ks] h (bool (ac 8 c n d ks.length)) h) := by
 cases hc0 : !false && c != 0 || !true && n != 0 || !true && d != 0 || !false && decide ((↑(zf ks) : Int) > 0)
 ·exact zk (zm (d := bool (oJ n d)) pok [.val (bool (decide (8 ≥ 1) && decide (8 ≤ 9))), .b false, .b false, .val (bool (oJ n d))] (by kernel_rfl) (.c (zV (Γ' := Γk) (@aR 8 1 9 ([.var [int 8, int c, ai nm, int n, int d, aa ks]]))) (.c (show (!(decide (8 ≥ 1) && decide (8 ≤ 9))) = false from rfl) (.c (show inR 8 10 = true from rfl) (.c hc0 (.c (zV (Γ' := Γk) (@xS 8 c nm n d ks hn hd (nH c nm n d ks))) .n))))) rfl rfl h) (by first | rfl | (simp [ac]; done) | (simp_all [ac]; done)) (by rfl)
 ·exact zk (zm (d := bool false) pok [.val (bool (decide (8 ≥ 1) && decide (8 ≤ 9))), .b false, .b true] (by kernel_rfl) (.c (zV (Γ' := Γk) (@aR 8 1 9 ([.var [int 8, int c, ai nm, int n, int d, aa ks]]))) (.c (show (!(decide (8 ≥ 1) && decide (8 ≤ 9))) = false from rfl) (.c (show inR 8 10 = true from rfl) (.c hc0 .n)))) rfl rfl h) (by first | rfl | (simp [ac]; done) | (simp_all [ac]; done)) (by rfl)
noncomputable abbrev nI (c : Int) (nm : ByteArray) (n : Int) (d : Int) (ks : List (List Dp)) : List Blk := [.var [int 9, int c, ai nm, int n, int d, aa ks], .var [bool true, bool false, bool false, bool false, fq 266, fq 275]]
theorem tf {c : Int} {nm : ByteArray} {n d : Int} {ks : List (List Dp)} (h : List Blk) : (Ev y6 Γk 234 [ruD 9 c nm n d ks] h (bool (ac 9 c n d ks.length)) h) := by
 cases hc0 : !true && c != 0 || !false && n != 0 || !false && d != 0 || !false && decide ((↑(zf ks) : Int) > 0)
 ·exact zk (zm (d := bool (inB c 0 4095)) pok [.val (bool (decide (9 ≥ 1) && decide (9 ≤ 9))), .b false, .b false, .val (bool (inB c 0 4095))] (by kernel_rfl) (.c (zV (Γ' := Γk) (@aR 9 1 9 ([.var [int 9, int c, ai nm, int n, int d, aa ks]]))) (.c (show (!(decide (9 ≥ 1) && decide (9 ≤ 9))) = false from rfl) (.c (show inR 9 10 = true from rfl) (.c hc0 (.c (zV (Γ' := Γk) (@oI 9 c nm n d ks (nI c nm n d ks))) .n))))) rfl rfl h) (by first | rfl | (simp [ac]; done) | (simp_all [ac]; done)) (by rfl)
 ·exact zk (zm (d := bool false) pok [.val (bool (decide (9 ≥ 1) && decide (9 ≤ 9))), .b false, .b true] (by kernel_rfl) (.c (zV (Γ' := Γk) (@aR 9 1 9 ([.var [int 9, int c, ai nm, int n, int d, aa ks]]))) (.c (show (!(decide (9 ≥ 1) && decide (9 ≤ 9))) = false from rfl) (.c (show inR 9 10 = true from rfl) (.c hc0 .n)))) rfl rfl h) (by first | rfl | (simp [ac]; done) | (simp_all [ac]; done)) (by rfl)
theorem tg {op c : Int} {nm : ByteArray} {n d : Int} {ks : List (List Dp)} (ho : (!(decide (op ≥ 1) && decide (op ≤ 9))) = true) (h : List Blk) : (Ev y6 Γk 234 [ruD op c nm n d ks] h (bool false) h) := by
 exact zk (zm (d := bool false) pok [.val (bool (decide (op ≥ 1) && decide (op ≤ 9))), .b true] (by kernel_rfl) (.c (zV (Γ' := Γk) (@aR op 1 9 ([.var [int op, int c, ai nm, int n, int d, aa ks]]))) (.c ho .n)) rfl rfl h) (by rfl) (by rfl)
theorem nJ {op c : Int} {nm : ByteArray} {n d : Int} {ks : List (List Dp)} (hn : I64 n) (hd : I64 d) (h : List Blk) : Ev y6 Γk 234 [ruD op c nm n d ks] h (bool (ac op c n d ks.length)) h := by
 by_cases ho : (!(decide (op ≥ 1) && decide (op ≤ 9))) = true
 ·have := tg (op := op) (c := c) (nm := nm) (n := n) (d := d) (ks := ks) ho h
  have e : ac op c n d ks.length = false := by
   simp only [Ag, Bool.and_eq_false_iff, decide_eq_false_iff_not] at ho
   unfold ac
   split
   ·rfl
   ·repeat' (split; · omega)
    rfl
  rw [e]; exact this
 ·have : op = 1 ∨ op = 2 ∨ op = 3 ∨ op = 4 ∨ op = 5 ∨ op = 6 ∨ op = 7 ∨ op = 8 ∨ op = 9 := by
   simp only [Ag, Bool.not_eq_false, Bool.and_eq_true, decide_eq_true_eq] at ho
   omega
  rcases this with rfl | rfl | rfl | rfl | rfl | rfl | rfl | rfl | rfl
  ·exact s6 h
  ·exact s7 h
  ·exact s8 h
  ·exact s9 h
  ·exact ta h
  ·exact tb h
  ·exact tc h
  ·exact te hn hd h
  ·exact tf h
end Go.Vi
open Go Go.Proofs
namespace Go.Vi
set_option maxRecDepth 100000
set_option maxHeartbeats 4000000
abbrev fz : FactT := ⟨0, 0, 0, 0, 0, 0, 0, 0⟩
abbrev atT : List D := mkT 50 0 [(6, .ref (.ptr 1 0)), (10, .ref (.ptr 2 0)), (11, .ref (.ptr 3 0)), (16, .fn (.func 178) [] [.ref (.ptr 4 0), .ref (.ptr 5 0), .ref (.ptr 6 0)])]
noncomputable abbrev atL (st : LoopState) : Blk := .loop st none 0 atT #[17] (aA (sub Ac 0)) (al (sub Ac 0))
noncomputable abbrev atH (kk ks ko term known : Int) (fs : List (List Dp)) (best : FactT) (some : Bool) (st : LoopState) (more : List Blk) : List Blk :=
 [.var [int kk, int ks, int ko], .var [int term], .var (best.row.map .p), .var [bool some], .var [aa fs], .var [int kk, int ks, int ko], .var [int known], .defd, atL st] ++ more
abbrev atU : List D := mkT 50 0 [(6, .ref (.ptr 1 0)), (10, .ref (.ptr 2 0)), (11, .ref (.ptr 3 0)), (12, .ref (.ptr 10 0))]
theorem at_asg {kk ks ko term known : Int} {fs : List (List Dp)} {best f : FactT} {some : Bool} : (CW y6 Γ0 (atH kk ks ko term known fs best some .ready [.var (f.row.map .p)]) true (aA (sub Ac 0)) { t := ed atT [(17, ag f.row)], h := atH kk ks ko term known fs best some .ready [.var (f.row.map .p)], m := [] } .normal { t := atU, h := atH kk ks ko term known fs best some .ready [.var (f.row.map .p), .var (f.row.map .p)], m := [] }) := by
 let v0 : List D := [int f.kind, int f.sub, int f.obj, int f.value, int f.frm, int f.til, int f.known, int f.no]
 exact zt (zu (s' := { t := mkT 50 0 [(6, .ref (.ptr 1 0)), (10, .ref (.ptr 2 0)), (11, .ref (.ptr 3 0)), (12, .ref (.ptr 10 0))], h := [.var [int kk, int ks, int ko], .var [int term], .var [int best.kind, int best.sub, int best.obj, int best.value, int best.frm, int best.til, int best.known, int best.no], .var [bool some], .var [aa fs], .var [int kk, int ks, int ko], .var [int known], .defd, .loop zM none 0 (mkT 50 0 [(6, .ref (.ptr 1 0)), (10, .ref (.ptr 2 0)), (11, .ref (.ptr 3 0)), (16, Ap (zB 178) [] [.ref (.ptr 4 0), .ref (.ptr 5 0), .ref (.ptr 6 0)])]) { toList := [17] } (aA (sub Ac 0)) (al (sub Ac 0)), .var v0, .var v0], m := [] }) (e := zr) pok [.st (.mask [6, 10, 11, 12])] [] (by kernel_rfl) .n) (by rfl) (by rfl)
def q8 (term : Int) (best : FactT) (some : Bool) (f : FactT) : Bool := decide (f.frm ≤ term) && decide (term < f.til) && (!some || decide (orI (aF f.known best.known) (aF f.no best.no) ≥ 0))
def br (term : Int) (best : FactT) (some : Bool) (f : FactT) : FactT × Bool := bif q8 term best some f then (f, true) else (best, some)
noncomputable abbrev gM (kk : Int) (ks : Int) (ko : Int) (term : Int) (known : Int) (fs : List (List Dp)) (best : FactT) (f : FactT) (some : Bool) : List Blk := [.var [int kk, int ks, int ko], .var [int term], .var [int best.kind, int best.sub, int best.obj, int best.value, int best.frm, int best.til, int best.known, int best.no], .var [bool some], .var [aa fs], .var [int kk, int ks, int ko], .var [int known], .defd, .loop AE none 0 (mkT 50 0 [(6, .ref (.ptr 1 0)), (10, .ref (.ptr 2 0)), (11, .ref (.ptr 3 0)), (16, Ap (zB 178) [] [.ref (.ptr 4 0), .ref (.ptr 5 0), .ref (.ptr 6 0)])]) { toList := [17] } (aA (sub Ac 0)) (al (sub Ac 0)), .var [int f.kind, int f.sub, int f.obj, int f.value, int f.frm, int f.til, int f.known, int f.no], .var [int f.kind, int f.sub, int f.obj, int f.value, int f.frm, int f.til, int f.known, int f.no]]
theorem xU {kk ks ko term known : Int} {fs : List (List Dp)} {best f : FactT} {some : Bool} : (CW y6 Γ0 (atH kk ks ko term known fs best some .ready [.var (f.row.map .p)]) true (al (sub Ac 0)) { t := atU, h := atH kk ks ko term known fs best some .busy [.var (f.row.map .p), .var (f.row.map .p)], m := [] } .normal { t := mkT 50 0 [], h := atH kk ks ko term known fs (br term best some f).1 (br term best some f).2 .busy [.var (f.row.map .p), .var (f.row.map .p)], m := [] }) := by
 cases hc0 : decide (f.frm ≤ term) && decide (term < f.til) && (!some || decide (orI (aF f.known best.known) (aF f.no best.no) ≥ 0))
 ·refine zt (zu (s' := { t := mkT 50 0 [], h := (gM kk ks ko term known fs best f some), m := [] }) (e := zr) pok [.st (.mask [])] [.val (int (orI (aF f.known best.known) (aF f.no best.no))), .b false] (by kernel_rfl) (.c (gd (decide (f.frm ≤ term) && decide (term < f.til) && !!some) (@mc f best (gM kk ks ko term known fs best f some))) (.c hc0 .n))) ?_ ?_ <;> (first | rfl | (have hs : q8 term best some f = true := hc0; simp only [br, hs, cond_true]; rfl) | (have hs : q8 term best some f = false := hc0; simp only [br, hs, cond_false]; rfl))
 ·let v0 : List D := [int f.kind, int f.sub, int f.obj, int f.value, int f.frm, int f.til, int f.known, int f.no]
  refine zt (zu (s' := { t := mkT 50 0 [], h := [.var [int kk, int ks, int ko], .var [int term], .var v0, .var [bool true], .var [aa fs], .var [int kk, int ks, int ko], .var [int known], .defd, .loop AE none 0 (mkT 50 0 [(6, .ref (.ptr 1 0)), (10, .ref (.ptr 2 0)), (11, .ref (.ptr 3 0)), (16, Ap (zB 178) [] [.ref (.ptr 4 0), .ref (.ptr 5 0), .ref (.ptr 6 0)])]) { toList := [17] } (aA (sub Ac 0)) (al (sub Ac 0)), .var v0, .var v0], m := [] }) (e := zr) pok [.st (.mask [])] [.val (int (orI (aF f.known best.known) (aF f.no best.no))), .b true] (by kernel_rfl) (.c (gd (decide (f.frm ≤ term) && decide (term < f.til) && !!some) (@mc f best (gM kk ks ko term known fs best f some))) (.c hc0 .n))) ?_ ?_ <;> subst v0 <;> (first | rfl | (have hs : q8 term best some f = true := hc0; simp only [br, hs, cond_true]; rfl) | (have hs : q8 term best some f = false := hc0; simp only [br, hs, cond_false]; rfl))
theorem xV {kk ks ko term known : Int} {fs : List (List Dp)} {best f : FactT} {some : Bool} : Iv y6 Γ0 (.ref (.yl 8)) [ag f.row] (atH kk ks ko term known fs best some .ready [.var (f.row.map .p)]) (bool true) (atH kk ks ko term known fs (br term best some f).1 (br term best some f).2 .ready [.var (f.row.map .p), .var (f.row.map .p)]) :=
 Iv.round (h1 := atH kk ks ko term known fs best some .ready [.var (f.row.map .p), .var (f.row.map .p)]) rfl rfl at_asg rfl xU rfl
def keyIs (kk ks ko : Int) (f : FactT) : Bool := f.kind == kk && (f.sub == ks && (f.obj == ko && true))
def ofIs (kk ks ko known : Int) (f : FactT) : Bool := keyIs kk ks ko f && decide (f.known ≤ known)
abbrev ofT (fs : List (List Dp)) (i : Int) : List D := mkT 30 0 [(0, .ref (.yl 8)), (1, .ref (.ptr 4 0)), (2, .ref (.ptr 5 0)), (3, .ref (.ptr 6 0)), (7, aa fs), (8, int fs.length), (9, int i)]
theorem of_body {kk ks ko term known : Int} {fs : List (List Dp)} {best b0 f : FactT} {some s0 : Bool} {i : Nat} (hr : aj (i : Int) fs f.row 8) (hlt : decide ((i : Int) < (fs.length : Int)) = true) (hw : zb.wrap ((i : Int) + 1) = ((i + 1 : Nat) : Int)) : (CW y6 Γ0 (atH kk ks ko term known fs b0 s0 .ready []) false (sub Ce 0) { t := ofT fs i, h := atH kk ks ko term known fs best some .ready [], m := [] } .normal { t := ofT fs ((i + 1 : Nat) : Int), h := atH kk ks ko term known fs (bif ofIs kk ks ko known f then br term best some f else (best, some)).1 (bif ofIs kk ks ko known f then br term best some f else (best, some)).2 .ready [], m := [] }) := by
 cases hc0 : f.kind == kk && (f.sub == ks && (f.obj == ko && true))
 ·refine zt (zu (s' := { t := mkT 30 0 [(0, .ref (.yl 8)), (1, .ref (.ptr 4 0)), (2, .ref (.ptr 5 0)), (3, .ref (.ptr 6 0)), (7, aa fs), (8, int (↑(zf fs) : Int)), (9, int (zg zb ((↑i : Int) + 1)))], h := [.var [int kk, int ks, int ko], .var [int term], .var [int best.kind, int best.sub, int best.obj, int best.value, int best.frm, int best.til, int best.known, int best.no], .var [bool some], .var [aa fs], .var [int kk, int ks, int ko], .var [int known], .defd, .loop zM none 0 (mkT 50 0 [(6, .ref (.ptr 1 0)), (10, .ref (.ptr 2 0)), (11, .ref (.ptr 3 0)), (16, Ap (zB 178) [] [.ref (.ptr 4 0), .ref (.ptr 5 0), .ref (.ptr 6 0)])]) { toList := [17] } (aA (sub Ac 0)) (al (sub Ac 0))], m := [] }) (e := zr) pok [.st (.mask [0, 1, 2, 3, 7, 8, 9]), .st (.trim 9)] [.b true, .row [vi f.kind, vi f.sub, vi f.obj, vi f.value, vi f.frm, vi f.til, vi f.known, vi f.no], .g false, .g false, .g false, .g false, .ov 22 (bool false), .g false, .g false, .g false, .g false, .ov 28 (bool false), .b false] (by kernel_rfl) (.c hlt (.c hr (.c (show ((f.kind == kk && (f.sub == ks && (f.obj == ko && true))) == true) = false from (by rw [hc0]; rfl)) (.c (show ((f.kind == kk && (f.sub == ks && (f.obj == ko && true))) == true) = false from (by rw [hc0]; rfl)) (.c (show ((f.kind == kk && (f.sub == ks && (f.obj == ko && true))) == true) = false from (by rw [hc0]; rfl)) (.c (show ((f.kind == kk && (f.sub == ks && (f.obj == ko && true))) == true) = false from (by rw [hc0]; rfl)) (.c (show ae (bool (f.kind == kk && (f.sub == ks && (f.obj == ko && true)))) (D.p (Dp.v (Ah { toList := [] }))) (bool false) (bool false) from (am hc0 rfl)) (.c (show (false == true) = false from rfl) (.c (show (false == true) = false from rfl) (.c (show (false == true) = false from rfl) (.c (show (false == true) = false from rfl) (.c (show ae (bool false) (D.p (Dp.v (Ah { toList := [] }))) (bool false) (bool false) from (am rfl rfl)) (.c (show false = false from rfl) .n)))))))))))))) ?_ ?_ <;> (first | rfl | (simp only [hw, ofIs, keyIs, hc0, zT, cond_false]; rfl))
 ·cases hc1 : decide (f.known ≤ known)
  ·refine zt (zu (s' := { t := mkT 30 0 [(0, .ref (.yl 8)), (1, .ref (.ptr 4 0)), (2, .ref (.ptr 5 0)), (3, .ref (.ptr 6 0)), (7, aa fs), (8, int (↑(zf fs) : Int)), (9, int (zg zb ((↑i : Int) + 1)))], h := [.var [int kk, int ks, int ko], .var [int term], .var [int best.kind, int best.sub, int best.obj, int best.value, int best.frm, int best.til, int best.known, int best.no], .var [bool some], .var [aa fs], .var [int kk, int ks, int ko], .var [int known], .defd, .loop zM none 0 (mkT 50 0 [(6, .ref (.ptr 1 0)), (10, .ref (.ptr 2 0)), (11, .ref (.ptr 3 0)), (16, Ap (zB 178) [] [.ref (.ptr 4 0), .ref (.ptr 5 0), .ref (.ptr 6 0)])]) { toList := [17] } (aA (sub Ac 0)) (al (sub Ac 0))], m := [] }) (e := zr) pok [.st (.mask [0, 1, 2, 3, 7, 8, 9]), .st (.trim 9)] [.b true, .row [vi f.kind, vi f.sub, vi f.obj, vi f.value, vi f.frm, vi f.til, vi f.known, vi f.no], .g true, .g true, .g true, .g true, .ov 22 (bool (decide (f.known ≤ known))), .g false, .g false, .g false, .g false, .ov 28 (bool false), .b false] (by kernel_rfl) (.c hlt (.c hr (.c (show ((f.kind == kk && (f.sub == ks && (f.obj == ko && true))) == true) = true from (by rw [hc0]; rfl)) (.c (show ((f.kind == kk && (f.sub == ks && (f.obj == ko && true))) == true) = true from (by rw [hc0]; rfl)) (.c (show ((f.kind == kk && (f.sub == ks && (f.obj == ko && true))) == true) = true from (by rw [hc0]; rfl)) (.c (show ((f.kind == kk && (f.sub == ks && (f.obj == ko && true))) == true) = true from (by rw [hc0]; rfl)) (.c (show ae (bool (f.kind == kk && (f.sub == ks && (f.obj == ko && true)))) (bool (decide (f.known ≤ known))) (bool false) (bool (decide (f.known ≤ known))) from (af hc0 rfl)) (.c (show (decide (f.known ≤ known) == true) = false from (by rw [hc1]; rfl)) (.c (show (decide (f.known ≤ known) == true) = false from (by rw [hc1]; rfl)) (.c (show (decide (f.known ≤ known) == true) = false from (by rw [hc1]; rfl)) (.c (show (decide (f.known ≤ known) == true) = false from (by rw [hc1]; rfl)) (.c (show ae (bool (decide (f.known ≤ known))) (D.p (Dp.v (Ah { toList := [] }))) (bool false) (bool false) from (am hc1 rfl)) (.c (show false = false from rfl) .n)))))))))))))) ?_ ?_ <;> (first | rfl | (simp only [hw, ofIs, keyIs, hc0, hc1, Bool.and_false, cond_false]; rfl))
  ·let v0 : List D := [int (br term best some f).fst.kind, int (br term best some f).fst.sub, int (br term best some f).fst.obj, int (br term best some f).fst.value, int (br term best some f).fst.frm, int (br term best some f).fst.til, int (br term best some f).fst.known, int (br term best some f).fst.no]
   let v1 : List D := [int f.kind, int f.sub, int f.obj, int f.value, int f.frm, int f.til, int f.known, int f.no]
   refine zt (zu (s' := { t := mkT 30 0 [(0, .ref (.yl 8)), (1, .ref (.ptr 4 0)), (2, .ref (.ptr 5 0)), (3, .ref (.ptr 6 0)), (7, aa fs), (8, int (↑(zf fs) : Int)), (9, int (zg zb ((↑i : Int) + 1)))], h := [.var [int kk, int ks, int ko], .var [int term], .var v0, .var [bool (br term best some f).snd], .var [aa fs], .var [int kk, int ks, int ko], .var [int known], .defd, .loop zM none 0 (mkT 50 0 [(6, .ref (.ptr 1 0)), (10, .ref (.ptr 2 0)), (11, .ref (.ptr 3 0)), (16, Ap (zB 178) [] [.ref (.ptr 4 0), .ref (.ptr 5 0), .ref (.ptr 6 0)])]) { toList := [17] } (aA (sub Ac 0)) (al (sub Ac 0))], m := [] }) (e := zr) pok [.st (.mask [0, 1, 2, 3, 7, 8, 9]), .st (.trim 9)] [.b true, .row [vi f.kind, vi f.sub, vi f.obj, vi f.value, vi f.frm, vi f.til, vi f.known, vi f.no], .g true, .g true, .g true, .g true, .ov 22 (bool (decide (f.known ≤ known))), .g true, .g true, .g true, .inv (bool true) [.var [int kk, int ks, int ko], .var [int term], .var v0, .var [bool (br term best some f).snd], .var [aa fs], .var [int kk, int ks, int ko], .var [int known], .defd, .loop zM none 0 (mkT 50 0 [(6, .ref (.ptr 1 0)), (10, .ref (.ptr 2 0)), (11, .ref (.ptr 3 0)), (16, Ap (zB 178) [] [.ref (.ptr 4 0), .ref (.ptr 5 0), .ref (.ptr 6 0)])]) { toList := [17] } (aA (sub Ac 0)) (al (sub Ac 0)), .var v1, .var v1], .g true, .ov 28 (bool !true), .b false] (by kernel_rfl) (.c hlt (.c hr (.c (show ((f.kind == kk && (f.sub == ks && (f.obj == ko && true))) == true) = true from (by subst v0 v1; rw [hc0]; rfl)) (.c (show ((f.kind == kk && (f.sub == ks && (f.obj == ko && true))) == true) = true from (by subst v0 v1; rw [hc0]; rfl)) (.c (show ((f.kind == kk && (f.sub == ks && (f.obj == ko && true))) == true) = true from (by subst v0 v1; rw [hc0]; rfl)) (.c (show ((f.kind == kk && (f.sub == ks && (f.obj == ko && true))) == true) = true from (by subst v0 v1; rw [hc0]; rfl)) (.c (show ae (bool (f.kind == kk && (f.sub == ks && (f.obj == ko && true)))) (bool (decide (f.known ≤ known))) (bool false) (bool (decide (f.known ≤ known))) from (af hc0 rfl)) (.c (show (decide (f.known ≤ known) == true) = true from (by subst v0 v1; rw [hc1]; rfl)) (.c (show (decide (f.known ≤ known) == true) = true from (by subst v0 v1; rw [hc1]; rfl)) (.c (show (decide (f.known ≤ known) == true) = true from (by subst v0 v1; rw [hc1]; rfl)) (.c (@xV kk ks ko term known fs best f some) (.c (show (decide (f.known ≤ known) == true) = true from (by subst v0 v1; rw [hc1]; rfl)) (.c (show ae (bool (decide (f.known ≤ known))) (bool !true) (bool false) (bool !true) from (af hc1 rfl)) (.c (show (!true) = false from rfl) .n))))))))))))))) ?_ ?_ <;> subst v0 v1 <;> (first | rfl | (simp only [hw, ofIs, keyIs, hc0, hc1, Bool.and_self, cond_true]; rfl))
theorem xW {kk ks ko term known : Int} {fs : List (List Dp)} {best b0 : FactT} {some s0 : Bool} {i : Nat} (hlt : decide ((i : Int) < (fs.length : Int)) = false) : (CW y6 Γ0 (atH kk ks ko term known fs b0 s0 .ready []) false (sub Ce 0) { t := ofT fs i, h := atH kk ks ko term known fs best some .ready [], m := [] } (.exit 0) { t := mkT 30 0 [], h := atH kk ks ko term known fs best some .ready [], m := [] }) := by
 exact zt (zu (s' := { t := mkT 30 0 [], h := [.var [int kk, int ks, int ko], .var [int term], .var [int best.kind, int best.sub, int best.obj, int best.value, int best.frm, int best.til, int best.known, int best.no], .var [bool some], .var [aa fs], .var [int kk, int ks, int ko], .var [int known], .defd, .loop zM none 0 (mkT 50 0 [(6, .ref (.ptr 1 0)), (10, .ref (.ptr 2 0)), (11, .ref (.ptr 3 0)), (16, Ap (zB 178) [] [.ref (.ptr 4 0), .ref (.ptr 5 0), .ref (.ptr 6 0)])]) { toList := [17] } (aA (sub Ac 0)) (al (sub Ac 0))], m := [] }) (e := zQ 0) pok [.st (.mask [])] [.b false] (by kernel_rfl) (.c hlt .n)) (by rfl) (by rfl)
def nZ (kk ks ko term known : Int) (s : FactT × Bool) (f : FactT) : FactT × Bool := bif ofIs kk ks ko known f then br term s.1 s.2 f else s
theorem cy {α σ : Type} (g : σ → α → σ) : ∀ (l : List α) (s : σ), bp (fun a s => (.inl (g s a) : σ ⊕ Empty)) l s = .inl (l.foldl g s)
 | [], _ => rfl
 | a :: l, s => cy g l (g s a)
theorem of_cw {kk ks ko term known : Int} {l : List FactT} (hl : ak l) {b0 : FactT} {s0 : Bool} :
  CW y6 Γ0 (atH kk ks ko term known (l.map FactT.row) b0 s0 .ready []) false (.loop (sub Ce 0)) { t := ofT (l.map FactT.row) 0, h := atH kk ks ko term known (l.map FactT.row) b0 s0 .ready [], m := [] } (.exit 0)
   { t := mkT 30 0 [], h := atH kk ks ko term known (l.map FactT.row) (l.foldl (nZ kk ks ko term known) (b0, s0)).1 (l.foldl (nZ kk ks ko term known) (b0, s0)).2 .ready [], m := [] } := by
 have := CW.each (P := y6) (Γ := Γ0) (h0 := atH kk ks ko term known (l.map FactT.row) b0 s0 .ready []) (rd := false) (c := sub Ce 0) (σ := FactT × Bool) (ρ := Empty) l (fun f s => .inl (nZ kk ks ko term known s f))
  (fun i s => { t := ofT (l.map FactT.row) (i : Int), h := atH kk ks ko term known (l.map FactT.row) s.1 s.2 .ready [], m := [] }) (.exit 0) (fun s => { t := mkT 30 0 [], h := atH kk ks ko term known (l.map FactT.row) s.1 s.2 .ready [], m := [] }) (fun r => r.elim)
  (fun _ _ => True) (by simp) (fun r => r.elim) ?_ ?_ (b0, s0) trivial
 ·rw [cy] at this
  exact this
 ·intro i f s hf _
  have hi := (zc.1 hf).1
  exact ⟨fun _ _ => trivial, of_body (rowAt hf rfl) (lt_len _ hi) (wrap_succ hi hl)⟩
 ·intro s _
  exact xW (bN _ l)
theorem u6 {kk ks ko term known : Int} {l : List FactT} (hl : ak l) {b0 : FactT} {s0 : Bool} : (Ev y6 Γ0 178 [.ref (.yl 8), .ref (.ptr 4 0), .ref (.ptr 5 0), .ref (.ptr 6 0)] (atH kk ks ko term known (l.map FactT.row) b0 s0 .ready []) (.tup []) (atH kk ks ko term known (l.map FactT.row) (l.foldl (nZ kk ks ko term known) (b0, s0)).1 (l.foldl (nZ kk ks ko term known) (b0, s0)).2 .ready [])) := by
 have hl0 := (@of_cw (kk) (ks) (ko) (term) (known) (l) (hl) (b0) (s0))
 let v1 := Br (nZ kk ks ko term known) (b0, s0) l
 let v0 : List Blk := [.var [int kk, int ks, int ko], .var [int term], .var [int v1.fst.kind, int v1.fst.sub, int v1.fst.obj, int v1.fst.value, int v1.fst.frm, int v1.fst.til, int v1.fst.known, int v1.fst.no], .var [bool v1.snd], .var [aa (y9 FactT.row l)], .var [int kk, int ks, int ko], .var [int known], .defd, .loop zM none 0 (mkT 50 0 [(6, .ref (.ptr 1 0)), (10, .ref (.ptr 2 0)), (11, .ref (.ptr 3 0)), (16, Ap (zB 178) [] [.ref (.ptr 4 0), .ref (.ptr 5 0), .ref (.ptr 6 0)])]) { toList := [17] } (aA (sub Ac 0)) (al (sub Ac 0))]
 exact zk (Cu (h' := v0) (d := D.tup []) pok [.sum [0, 1, 2, 3, 7, 8, 9] (zQ 0) { t := mkT 30 0 [], h := v0, m := [] }] (by kernel_rfl) (.c hl0 .n)) (by rfl) (by rfl)
noncomputable abbrev atH0 (kk ks ko term known : Int) (fs : List (List Dp)) (best : FactT) (some : Bool) : List Blk :=
 [.var [int kk, int ks, int ko], .var [int term], .var (best.row.map .p), .var [bool some], .var [aa fs], .var [int kk, int ks, int ko], .var [int known]]
theorem u7 {kk ks ko term known : Int} {l : List FactT} (hl : ak l) {b0 : FactT} {s0 : Bool} : CW y6 Γ0 [] false (sub Ac 0) { t := atT, h := atH0 kk ks ko term known (l.map FactT.row) b0 s0, m := [] } .normal
  { t := atT, h := atH kk ks ko term known (l.map FactT.row) (l.foldl (nZ kk ks ko term known) (b0, s0)).1 (l.foldl (nZ kk ks ko term known) (b0, s0)).2 .exhausted [], m := [7] } := by
 exact CW.rangeFunc (f := 178) (fi := []) (ca := [.ref (.ptr 4 0), .ref (.ptr 5 0), .ref (.ptr 6 0)]) pok (s := { t := atT, h := atH0 kk ks ko term known (l.map FactT.row) b0 s0, m := [] }) (g := .tmp 16) (ps := #[17]) (asg := aA (sub Ac 0)) (body := al (sub Ac 0)) rfl (by kernel_rfl) (u6 hl) rfl
def atR (kk ks ko term known : Int) (l : List FactT) : Int × Bool :=
 let r := l.foldl (nZ kk ks ko term known) (fz, false)
 bif !r.2 || decide (r.1.value < 0) then (0, false) else (r.1.value, true)
theorem at_ev {kk ks ko term known : Int} {l : List FactT} (hl : ak l) (h : List Blk) : (Ev y6 Γ0 86 [aa (l.map FactT.row), .agg [int kk, int ks, int ko], int term, int known] h (.tup [int (atR kk ks ko term known l).1, bool (atR kk ks ko term known l).2]) h) := by
 have hl0 := (@u7 (kk) (ks) (ko) (term) (known) (l) (hl) ({ kind := 0, sub := 0, obj := 0, value := 0, frm := 0, til := 0, known := 0, no := 0 }) (false))
 cases hc1 : !(Br (nZ kk ks ko term known) ({ kind := 0, sub := 0, obj := 0, value := 0, frm := 0, til := 0, known := 0, no := 0 }, false) l).snd || decide ((Br (nZ kk ks ko term known) ({ kind := 0, sub := 0, obj := 0, value := 0, frm := 0, til := 0, known := 0, no := 0 }, false) l).fst.value < 0)
 ·let v0 := Br (nZ kk ks ko term known) ({ kind := 0, sub := 0, obj := 0, value := 0, frm := 0, til := 0, known := 0, no := 0 }, false) l
  exact zk (zm (d := D.tup [int v0.fst.value, bool true]) pok [.inl, .sum [6, 10, 11, 16] (zr) { t := mkT 50 0 [(6, .ref (.ptr 1 0)), (10, .ref (.ptr 2 0)), (11, .ref (.ptr 3 0)), (16, Ap (zB 178) [] [.ref (.ptr 4 0), .ref (.ptr 5 0), .ref (.ptr 6 0)])], h := [.var [int kk, int ks, int ko], .var [int term], .var [int v0.fst.kind, int v0.fst.sub, int v0.fst.obj, int v0.fst.value, int v0.fst.frm, int v0.fst.til, int v0.fst.known, int v0.fst.no], .var [bool v0.snd], .var [aa (y9 FactT.row l)], .var [int kk, int ks, int ko], .var [int known], .defd, .loop zY none 0 (mkT 50 0 [(6, .ref (.ptr 1 0)), (10, .ref (.ptr 2 0)), (11, .ref (.ptr 3 0)), (16, Ap (zB 178) [] [.ref (.ptr 4 0), .ref (.ptr 5 0), .ref (.ptr 6 0)])]) { toList := [17] } (aA (sub Ac 0)) (al (sub Ac 0))], m := [7] }, .b false] (by kernel_rfl) (.c hl0 (.c hc1 .n)) rfl rfl h) (by subst v0; simp only [atR, hc1, cond_false]) (by rfl)
 ·let v0 := Br (nZ kk ks ko term known) ({ kind := 0, sub := 0, obj := 0, value := 0, frm := 0, til := 0, known := 0, no := 0 }, false) l
  exact zk (zm (d := D.tup [int 0, bool false]) pok [.inl, .sum [6, 10, 11, 16] (zr) { t := mkT 50 0 [(6, .ref (.ptr 1 0)), (10, .ref (.ptr 2 0)), (11, .ref (.ptr 3 0)), (16, Ap (zB 178) [] [.ref (.ptr 4 0), .ref (.ptr 5 0), .ref (.ptr 6 0)])], h := [.var [int kk, int ks, int ko], .var [int term], .var [int v0.fst.kind, int v0.fst.sub, int v0.fst.obj, int v0.fst.value, int v0.fst.frm, int v0.fst.til, int v0.fst.known, int v0.fst.no], .var [bool v0.snd], .var [aa (y9 FactT.row l)], .var [int kk, int ks, int ko], .var [int known], .defd, .loop zY none 0 (mkT 50 0 [(6, .ref (.ptr 1 0)), (10, .ref (.ptr 2 0)), (11, .ref (.ptr 3 0)), (16, Ap (zB 178) [] [.ref (.ptr 4 0), .ref (.ptr 5 0), .ref (.ptr 6 0)])]) { toList := [17] } (aA (sub Ac 0)) (al (sub Ac 0))], m := [7] }, .b true] (by kernel_rfl) (.c hl0 (.c hc1 .n)) rfl rfl h) (by subst v0; simp only [atR, hc1, cond_true]) (by rfl)
end Go.Vi
open Go Go.Proofs
namespace Go.Vi
set_option maxRecDepth 100000
set_option maxHeartbeats 4000000
inductive RuleT where
 | mk (op course : Int) (name : ByteArray) (n d : Int) (kids : List RuleT)
mutual
def RuleT.row : RuleT → List Dp
 | .mk op c nm n d ks => [vi op, vi c, vs nm, vi n, vi d, .sl (cq ks)]
def cq : List RuleT → List (List Dp)
 | [] => []
 | k :: ks => k.row :: cq ks
end
theorem dZ : ∀ ks : List RuleT, cq ks = ks.map RuleT.row
 | [] => rfl
 | k :: ks => by simp [cq, dZ ks]
mutual
def RuleT.ok : RuleT → Prop
 | .mk op c _ n d ks => (I64 op ∧ I64 c ∧ I64 n ∧ I64 d ∧ ak ks) ∧ jF ks
def jF : List RuleT → Prop
 | [] => True
 | k :: ks => k.ok ∧ jF ks
end
theorem c7 : ∀ {ks : List RuleT}, jF ks → ∀ k ∈ ks, k.ok
 | [], _, k, hk => by simp at hk
 | a :: ks, h, k, hk => by
  simp only [jF] at h
  rcases List.mem_cons.1 hk with rfl | hk
  ·exact h.1
  ·exact c7 h.2 k hk
structure RuF where
 op : Int
 c : Int
 nm : ByteArray
 n : Int
 d : Int
 ks : List (List Dp)
def RuF.row (x : RuF) : List Dp := [vi x.op, vi x.c, vs x.nm, vi x.n, vi x.d, .sl x.ks]
def RuF.l (x : RuF) : List D := [int x.op, int x.c, ai x.nm, int x.n, int x.d, aa x.ks]
def RuF.formed (x : RuF) : Bool := ac x.op x.c x.n x.d x.ks.length
def RuF.ok (x : RuF) : Prop := I64 x.n ∧ I64 x.d
def fW (n1 dep : Int) (f : Bool) : Bool := decide (n1 > 200) || decide (dep > 16) || !f
abbrev ckT : List D := mkT 23 0 [(2, .ref (.ptr 1 0)), (3, .ref (.ptr 2 0)), (7, .fn (.func 240) [] [.ref (.ptr 4 0), .ref (.ptr 3 0)])]
noncomputable abbrev ckH (r : RuF) (e n : Int) (st : LoopState) (pe : Option Code) : List Blk :=
 [.var r.l, .var [int e], .var [int n], .var r.l, .var [.fn (.func 239) [] [.ref (.ptr 4 0)]], .defd, .loop st pe 0 ckT #[8, 9] (aA (sub zF 0)) (al (sub zF 0))]
abbrev ckU (dep : Int) : List D := mkT 23 0 [(2, .ref (.ptr 1 0)), (3, .ref (.ptr 2 0)), (4, int dep), (5, .ref (.ptr 8 0)), (7, .fn (.func 240) [] [.ref (.ptr 4 0), .ref (.ptr 3 0)])]
theorem wF {r0 : RuF} {m dep : Int} {x : RuF} : (CW y6 Γk (ckH r0 0 m .ready none ++ [.var (x.l)]) true (aA (sub zF 0)) { t := ed ckT [(8, int dep), (9, .agg x.l)], h := ckH r0 0 m .ready none ++ [.var (x.l)], m := [] } .normal { t := ckU dep, h := ckH r0 0 m .ready none ++ [.var (x.l), .var (x.l)], m := [] }) := by
 let v0 : List D := [int r0.op, int r0.c, ai r0.nm, int r0.n, int r0.d, aa r0.ks]
 let v1 : List D := [int x.op, int x.c, ai x.nm, int x.n, int x.d, aa x.ks]
 exact zt (zu (s' := { t := mkT 23 0 [(2, .ref (.ptr 1 0)), (3, .ref (.ptr 2 0)), (4, int dep), (5, .ref (.ptr 8 0)), (7, Ap (zB 240) [] [.ref (.ptr 4 0), .ref (.ptr 3 0)])], h := [.var v0, .var [int 0], .var [int m], .var v0, .var [Ap (zB 239) [] [.ref (.ptr 4 0)]], .defd, .loop zM none 0 (mkT 23 0 [(2, .ref (.ptr 1 0)), (3, .ref (.ptr 2 0)), (7, Ap (zB 240) [] [.ref (.ptr 4 0), .ref (.ptr 3 0)])]) { toList := [8, 9] } (aA (sub zF 0)) (al (sub zF 0)), .var v1, .var v1], m := [] }) (e := zr) pok [.st (.mask [2, 3, 4, 5, 7])] [] (by kernel_rfl) .n) (by rfl) (by rfl)
noncomputable def ka (r0 : RuF) (m1 : Int) (more : List Blk) (b : Bool) : Exit × AS := match b with
 | true => (.ret, { t := mkT 23 0 [], h := ckH r0 120 m1 .busy none ++ more, m := [] })
 | false => (.normal, { t := mkT 23 0 [], h := ckH r0 0 m1 .busy none ++ more, m := [] })
noncomputable abbrev gN (r0 : RuF) (m : Int) (x : RuF) : List Blk := [.var [int r0.op, int r0.c, ai r0.nm, int r0.n, int r0.d, aa r0.ks], .var [int 0], .var [int (zg zb (m + 1))], .var [int r0.op, int r0.c, ai r0.nm, int r0.n, int r0.d, aa r0.ks], .var [Ap (zB 239) [] [.ref (.ptr 4 0)]], .defd, .loop AE none 0 (mkT 23 0 [(2, .ref (.ptr 1 0)), (3, .ref (.ptr 2 0)), (7, Ap (zB 240) [] [.ref (.ptr 4 0), .ref (.ptr 3 0)])]) { toList := [8, 9] } (aA (sub zF 0)) (al (sub zF 0)), .var [int x.op, int x.c, ai x.nm, int x.n, int x.d, aa x.ks], .var [int x.op, int x.c, ai x.nm, int x.n, int x.d, aa x.ks]]
theorem xX {r0 : RuF} {m dep : Int} {x : RuF} (hx : x.ok) : (CW y6 Γk (ckH r0 0 m .ready none ++ [.var (x.l)]) true (al (sub zF 0)) { t := ckU dep, h := ckH r0 0 m .busy none ++ [.var (x.l), .var (x.l)], m := [] } (ka r0 (zb.wrap (m + 1)) [.var (x.l), .var (x.l)] (fW (zb.wrap (m + 1)) dep (x.formed))).1 (ka r0 (zb.wrap (m + 1)) [.var (x.l), .var (x.l)] (fW (zb.wrap (m + 1)) dep (x.formed))).2) := by
 cases hc0 : decide (zg zb (m + 1) > 200) || decide (dep > 16) || !ac x.op x.c x.n x.d (↑(zf x.ks) : Int)
 ·refine zt (zu (s' := { t := mkT 23 0 [], h := (gN r0 m x), m := [] }) (e := zr) pok [.st (.mask [])] [.val (bool (ac x.op x.c x.n x.d (↑(zf x.ks) : Int))), .b false] (by kernel_rfl) (.c (gd (!(decide (zg zb (m + 1) > 200) || decide (dep > 16))) (@nJ (x.op) (x.c) (x.nm) (x.n) (x.d) (x.ks) (by first | assumption | exact hx.1 | exact hx.2 | rfl) (by first | assumption | exact hx.1 | exact hx.2 | rfl) (gN r0 m x))) (.c hc0 .n))) ?_ ?_ <;> (first | (have hs : fW (zb.wrap (m + 1)) dep (x.formed) = true := hc0; (first | (simp only [hs, ka]; done) | (simp only [hs, ka]; rfl))) | (have hs : fW (zb.wrap (m + 1)) dep (x.formed) = false := hc0; (first | (simp only [hs, ka]; done) | (simp only [hs, ka]; rfl))))
 ·let v0 : List D := [int r0.op, int r0.c, ai r0.nm, int r0.n, int r0.d, aa r0.ks]
  let v1 : List D := [int x.op, int x.c, ai x.nm, int x.n, int x.d, aa x.ks]
  refine zt (zu (s' := { t := mkT 23 0 [], h := [.var v0, .var [int 120], .var [int (zg zb (m + 1))], .var v0, .var [Ap (zB 239) [] [.ref (.ptr 4 0)]], .defd, .loop AE none 0 (mkT 23 0 [(2, .ref (.ptr 1 0)), (3, .ref (.ptr 2 0)), (7, Ap (zB 240) [] [.ref (.ptr 4 0), .ref (.ptr 3 0)])]) { toList := [8, 9] } (aA (sub zF 0)) (al (sub zF 0)), .var v1, .var v1], m := [] }) (e := Ai) pok [.st (.mask [])] [.val (bool (ac x.op x.c x.n x.d (↑(zf x.ks) : Int))), .b true] (by kernel_rfl) (.c (gd (!(decide (zg zb (m + 1) > 200) || decide (dep > 16))) (@nJ (x.op) (x.c) (x.nm) (x.n) (x.d) (x.ks) (by subst v0 v1; first | assumption | exact hx.1 | exact hx.2 | rfl) (by subst v0 v1; first | assumption | exact hx.1 | exact hx.2 | rfl) (gN r0 m x))) (.c hc0 .n))) ?_ ?_ <;> subst v0 v1 <;> (first | (have hs : fW (zb.wrap (m + 1)) dep (x.formed) = true := hc0; (first | (simp only [hs, ka]; done) | (simp only [hs, ka]; rfl))) | (have hs : fW (zb.wrap (m + 1)) dep (x.formed) = false := hc0; (first | (simp only [hs, ka]; done) | (simp only [hs, ka]; rfl))))
noncomputable def xY (r0 : RuF) (m1 : Int) (b : Bool) : List Blk := match b with
 | true => ckH r0 120 m1 .done (some .ret)
 | false => ckH r0 0 m1 .ready none
theorem xZ {r0 : RuF} {m dep : Int} {x : RuF} (hx : x.ok) : Iv y6 Γk (.ref (.yl 6)) [int dep, .agg x.l] (ckH r0 0 m .ready none ++ [.var (x.l)]) (bool (!fW (zb.wrap (m + 1)) dep (x.formed)))
  (xY r0 (zb.wrap (m + 1)) (fW (zb.wrap (m + 1)) dep (x.formed)) ++ [.var (x.l), .var (x.l)]) := by
 have hb := xX (r0 := r0) (m := m) (dep := dep) hx
 cases h : fW (zb.wrap (m + 1)) dep (x.formed)
 ·rw [h] at hb
  exact Iv.round (h1 := ckH r0 0 m .ready none ++ [.var (x.l), .var (x.l)]) rfl rfl wF rfl hb rfl
 ·rw [h] at hb
  exact Iv.round (h1 := ckH r0 0 m .ready none ++ [.var (x.l), .var (x.l)]) rfl rfl wF rfl hb rfl
mutual
def RuleT.walk : RuleT → Int → Int → Int × Bool
 | .mk op c _ n d ks, dep, m => match fW (zb.wrap (m + 1)) dep (ac op c n d ks.length) with
  | true => (zb.wrap (m + 1), true)
  | false => walkL ks (zb.wrap (dep + 1)) (zb.wrap (m + 1))
def walkL : List RuleT → Int → Int → Int × Bool
 | [], _, m => (m, false)
 | k :: ks, dep, m => match k.walk dep m with
  | (m', true) => (m', true)
  | (m', false) => walkL ks dep m'
end
abbrev wkF (dep : Int) (k : RuleT) (m : Int) : Int ⊕ Int := match k.walk dep m with
 | (m', true) => .inr m'
 | (m', false) => .inl m'
theorem kX (dep : Int) : ∀ (ks : List RuleT) (m : Int), bp (wkF dep) ks m = match walkL ks dep m with | (m', true) => .inr m' | (m', false) => .inl m'
 | [], m => by simp [bp, walkL]
 | k :: ks, m => by
  simp only [bp, walkL, wkF]
  cases h : k.walk dep m with
  | mk m' b => cases b with
   | true => rfl
   | false => exact kX dep ks m'
noncomputable abbrev wkS (x r0 : RuF) (dep m i : Int) : AS := { t := mkT 30 0 [(1, int dep), (2, .ref (.yl 6)), (3, .ref (.ptr 4 0)), (7, bool false), (16, aa x.ks), (17, int x.ks.length), (18, int i)], h := ckH r0 0 m .ready none ++ [.var (x.l)], m := [] }
theorem u9 {x r0 : RuF} {dep m m0 : Int} {i : Nat} {m' : Int} {y : RuF} (hr : aj (i : Int) x.ks y.row 6) (hlt : decide ((i : Int) < (x.ks.length : Int)) = true) (hw : zb.wrap ((i : Int) + 1) = ((i + 1 : Nat) : Int))
  (hk : Ev y6 Γk 239 [.agg y.l, int (zb.wrap (dep + 1)), .ref (.yl 6), .ref (.ptr 4 0)] (ckH r0 0 m .ready none) (bool true) (ckH r0 0 m' .ready none)) : (CW y6 Γk (ckH r0 0 m0 .ready none) false (sub Ds 0) (wkS x r0 dep m i) .normal (wkS x r0 dep m' ((i + 1 : Nat) : Int))) := by
 let v2 : List D := [int r0.op, int r0.c, ai r0.nm, int r0.n, int r0.d, aa r0.ks]
 let v3 : List D := [int y.op, int y.c, ai y.nm, int y.n, int y.d, aa y.ks]
 let v4 : List D := [int x.op, int x.c, ai x.nm, int x.n, int x.d, aa x.ks]
 let v5 : List D := [.ref (.ptr 4 0), .ref (.ptr 3 0)]
 let v0 : List Blk := [.var v2, .var [int 0], .var [int m'], .var v2, .var [Ap (zB 239) [] [.ref (.ptr 4 0)]], .defd, .loop zM none 0 (mkT 23 0 [(2, .ref (.ptr 1 0)), (3, .ref (.ptr 2 0)), (7, Ap (zB 240) [] v5)]) { toList := [8, 9] } (aA (sub zF 0)) (al (sub zF 0)), .var v4, .var v3]
 let v1 : List Blk := [.var v2, .var [int 0], .var [int m], .var v2, .var [Ap (zB 239) [] [.ref (.ptr 4 0)]], .defd, .loop zM none 0 (mkT 23 0 [(2, .ref (.ptr 1 0)), (3, .ref (.ptr 2 0)), (7, Ap (zB 240) [] v5)]) { toList := [8, 9] } (aA (sub zF 0)) (al (sub zF 0)), .var v4, .var v3]
 refine zt (zu (s' := { t := mkT 30 0 [(1, int dep), (2, .ref (.yl 6)), (3, .ref (.ptr 4 0)), (7, bool false), (16, aa x.ks), (17, int (↑(zf x.ks) : Int)), (18, int (zg zb ((↑i : Int) + 1)))], h := [.var v2, .var [int 0], .var [int m'], .var v2, .var [Ap (zB 239) [] [.ref (.ptr 4 0)]], .defd, .loop zM none 0 (mkT 23 0 [(2, .ref (.ptr 1 0)), (3, .ref (.ptr 2 0)), (7, Ap (zB 240) [] v5)]) { toList := [8, 9] } (aA (sub zF 0)) (al (sub zF 0)), .var v4], m := [] }) (e := zr) pok [.st (.mask [1, 2, 3, 7, 16, 17, 18]), .st (.trim 8)] [.b true, .row [vi y.op, vi y.c, vs y.nm, vi y.n, vi y.d, Dp.sl y.ks], .call (bool true) v0, .b false] (by kernel_rfl) (.c hlt (.c hr (.c (show Ev y6 Γk 239 [D.agg v3, int (zg zb (dep + 1)), .ref (.yl 6), .ref (.ptr 4 0)] v1 (bool true) v0 from (zk (Ev.frameX (args := [D.agg v3, int (zg zb (dep + 1)), .ref (.yl 6), .ref (.ptr 4 0)]) (H := v1) [0, 1, 2, 3, 4, 5, 6] (@hk) (by kernel_rfl) (by kernel_rfl) (by kernel_rfl) trivial trivial) (by kernel_rfl) (by kernel_rfl))) (.c (show (!true) = false from rfl) .n))))) ?_ ?_ <;> subst v2 v3 v4 v5 v0 v1 <;> (first | rfl | (rw [hw]; rfl))
noncomputable abbrev wkX (x r0 : RuF) (m : Int) : Exit × AS := (.ret, { t := mkT 30 0 [(7, bool false)], h := ckH r0 120 m .done (some .ret) ++ [.var (x.l)], m := [] })
theorem vd {x r0 : RuF} {dep m m0 : Int} {i : Nat} {m' : Int} {y : RuF} (hr : aj (i : Int) x.ks y.row 6) (hlt : decide ((i : Int) < (x.ks.length : Int)) = true)
  (hk : Ev y6 Γk 239 [.agg y.l, int (zb.wrap (dep + 1)), .ref (.yl 6), .ref (.ptr 4 0)] (ckH r0 0 m .ready none) (bool false) (ckH r0 120 m' .done (some .ret))) : (CW y6 Γk (ckH r0 0 m0 .ready none) false (sub Ds 0) (wkS x r0 dep m i) (wkX x r0 m').1 (wkX x r0 m').2) := by
 let v2 : List D := [int r0.op, int r0.c, ai r0.nm, int r0.n, int r0.d, aa r0.ks]
 let v3 : List D := [int y.op, int y.c, ai y.nm, int y.n, int y.d, aa y.ks]
 let v4 : List D := [int x.op, int x.c, ai x.nm, int x.n, int x.d, aa x.ks]
 let v5 : List D := [.ref (.ptr 4 0), .ref (.ptr 3 0)]
 let v0 : List Blk := [.var v2, .var [int 120], .var [int m'], .var v2, .var [Ap (zB 239) [] [.ref (.ptr 4 0)]], .defd, .loop Bk (some CD) 0 (mkT 23 0 [(2, .ref (.ptr 1 0)), (3, .ref (.ptr 2 0)), (7, Ap (zB 240) [] v5)]) { toList := [8, 9] } (aA (sub zF 0)) (al (sub zF 0)), .var v4, .var v3]
 let v1 : List Blk := [.var v2, .var [int 0], .var [int m], .var v2, .var [Ap (zB 239) [] [.ref (.ptr 4 0)]], .defd, .loop zM none 0 (mkT 23 0 [(2, .ref (.ptr 1 0)), (3, .ref (.ptr 2 0)), (7, Ap (zB 240) [] v5)]) { toList := [8, 9] } (aA (sub zF 0)) (al (sub zF 0)), .var v4, .var v3]
 exact zt (zu (s' := { t := mkT 30 0 [(7, bool false)], h := [.var v2, .var [int 120], .var [int m'], .var v2, .var [Ap (zB 239) [] [.ref (.ptr 4 0)]], .defd, .loop Bk (some CD) 0 (mkT 23 0 [(2, .ref (.ptr 1 0)), (3, .ref (.ptr 2 0)), (7, Ap (zB 240) [] v5)]) { toList := [8, 9] } (aA (sub zF 0)) (al (sub zF 0)), .var v4], m := [] }) (e := Ai) pok [.st (.mask [7]), .st (.trim 8)] [.b true, .row [vi y.op, vi y.c, vs y.nm, vi y.n, vi y.d, Dp.sl y.ks], .call (bool false) v0, .b true] (by kernel_rfl) (.c hlt (.c hr (.c (show Ev y6 Γk 239 [D.agg v3, int (zg zb (dep + 1)), .ref (.yl 6), .ref (.ptr 4 0)] v1 (bool false) v0 from (zk (Ev.frameX (args := [D.agg v3, int (zg zb (dep + 1)), .ref (.yl 6), .ref (.ptr 4 0)]) (H := v1) [0, 1, 2, 3, 4, 5, 6] (@hk) (by kernel_rfl) (by kernel_rfl) (by kernel_rfl) trivial trivial) (by kernel_rfl) (by kernel_rfl))) (.c (show (!false) = true from rfl) .n))))) (by rfl) (by rfl)
theorem x4 {x r0 : RuF} {dep m m0 : Int} {i : Nat} (hlt : decide ((i : Int) < (x.ks.length : Int)) = false) : (CW y6 Γk (ckH r0 0 m0 .ready none) false (sub Ds 0) (wkS x r0 dep m i) (.exit 0) { t := mkT 30 0 [(7, bool false)], h := ckH r0 0 m .ready none ++ [.var (x.l)], m := [] }) := by
 let v0 : List D := [int r0.op, int r0.c, ai r0.nm, int r0.n, int r0.d, aa r0.ks]
 exact zt (zu (s' := { t := mkT 30 0 [(7, bool false)], h := [.var v0, .var [int 0], .var [int m], .var v0, .var [Ap (zB 239) [] [.ref (.ptr 4 0)]], .defd, .loop zM none 0 (mkT 23 0 [(2, .ref (.ptr 1 0)), (3, .ref (.ptr 2 0)), (7, Ap (zB 240) [] [.ref (.ptr 4 0), .ref (.ptr 3 0)])]) { toList := [8, 9] } (aA (sub zF 0)) (al (sub zF 0)), .var [int x.op, int x.c, ai x.nm, int x.n, int x.d, aa x.ks]], m := [] }) (e := zQ 0) pok [.st (.mask [7]), .st (.trim 8)] [.b false] (by kernel_rfl) (.c hlt .n)) (by rfl) (by rfl)
def RuleT.fl : RuleT → RuF
 | .mk op c nm n d ks => ⟨op, c, nm, n, d, cq ks⟩
theorem RuleT.fl_row (r : RuleT) : r.fl.row = r.row := by cases r; rfl
theorem RuleT.fl_ok {r : RuleT} (h : r.ok) : r.fl.ok := by cases r; simp only [RuleT.ok] at h; exact ⟨h.1.2.2.1, h.1.2.2.2.1⟩
noncomputable def wkFin (x r0 : RuF) (p : Int ⊕ Int) : Exit × AS := bI (.exit 0) (fun m' => { t := mkT 30 0 [(7, bool false)], h := ckH r0 0 m' .ready none ++ [.var x.l], m := [] }) (fun m' => wkX x r0 m') p
theorem wk_cw {r0 x : RuF} {ks : List RuleT} (hx : x.ks = ks.map RuleT.row) (hl : ak ks) {dep m m0 : Int} (hk : ∀ k ∈ ks, ∀ m, Ev y6 Γk 239 [.agg k.fl.l, int (zb.wrap (dep + 1)), .ref (.yl 6), .ref (.ptr 4 0)] (ckH r0 0 m .ready none) (bool (!(k.walk (zb.wrap (dep + 1)) m).2)) (xY r0 (k.walk (zb.wrap (dep + 1)) m).1 (k.walk (zb.wrap (dep + 1)) m).2)) :
  CW y6 Γk (ckH r0 0 m0 .ready none) false (.loop (sub Ds 0)) (wkS x r0 dep m 0) (wkFin x r0 (bp (wkF (zb.wrap (dep + 1))) ks m)).1 (wkFin x r0 (bp (wkF (zb.wrap (dep + 1))) ks m)).2 := by
 refine CW.each ks (wkF (zb.wrap (dep + 1))) (fun i m => wkS x r0 dep m (i : Int)) (.exit 0) _ (fun m' => wkX x r0 m') (fun _ _ => True) (by simp) (fun _ => by simp) ?_ ?_ m trivial
 ·intro i k m hki _
  have hi := (zc.1 hki).1
  have hr : aj (i : Int) x.ks k.fl.row 6 := by rw [hx, k.fl_row]; exact rowAt hki (by cases k; rfl)
  have hlt : decide ((i : Int) < (x.ks.length : Int)) = true := by rw [hx]; exact lt_len _ hi
  have hev := hk k (zL hki) m
  refine ⟨fun _ _ => trivial, ?_⟩
  simp only [wkF]
  cases hw : k.walk (zb.wrap (dep + 1)) m with
  | mk m' b =>
   rw [hw] at hev
   cases b with
   | true => exact vd hr hlt hev
   | false => exact u9 hr hlt (wrap_succ hi hl) hev
 ·intro m _
  exact x4 (by rw [hx]; exact bN _ ks)
theorem walkA {r0 x : RuF} {dep m m' : Int} (hi : Iv y6 Γk (.ref (.yl 6)) [int dep, .agg x.l] (ckH r0 0 m .ready none ++ [.var x.l]) (bool false) (ckH r0 120 m' .done (some .ret) ++ [.var x.l, .var x.l])) : (Ev y6 Γk 239 [.agg x.l, int dep, .ref (.yl 6), .ref (.ptr 4 0)] (ckH r0 0 m .ready none) (bool false) (ckH r0 120 m' .done (some .ret))) := by
 let v0 : List D := [int r0.op, int r0.c, ai r0.nm, int r0.n, int r0.d, aa r0.ks]
 let v1 : List D := [int x.op, int x.c, ai x.nm, int x.n, int x.d, aa x.ks]
 exact zk (Ev.symT (h' := [.var v0, .var [int 120], .var [int m'], .var v0, .var [Ap (zB 239) [] [.ref (.ptr 4 0)]], .defd, .loop Bk (some CD) 0 (mkT 23 0 [(2, .ref (.ptr 1 0)), (3, .ref (.ptr 2 0)), (7, Ap (zB 240) [] [.ref (.ptr 4 0), .ref (.ptr 3 0)])]) { toList := [8, 9] } (aA (sub zF 0)) (al (sub zF 0))]) (d := bool false) pok [.inv (bool false) [.var v0, .var [int 120], .var [int m'], .var v0, .var [Ap (zB 239) [] [.ref (.ptr 4 0)]], .defd, .loop Bk (some CD) 0 (mkT 23 0 [(2, .ref (.ptr 1 0)), (3, .ref (.ptr 2 0)), (7, Ap (zB 240) [] [.ref (.ptr 4 0), .ref (.ptr 3 0)])]) { toList := [8, 9] } (aA (sub zF 0)) (al (sub zF 0)), .var v1, .var v1], .b true] (by kernel_rfl) (.c (@hi) (.c (show (!false) = true from rfl) .n))) (by rfl) (by rfl)
def q9 : Int ⊕ Int → Int × Bool
 | .inl m => (m, false)
 | .inr m => (m, true)
theorem ve (dep : Int) (ks : List RuleT) (m : Int) : q9 (bp (wkF dep) ks m) = walkL ks dep m := by
 rw [kX]
 cases walkL ks dep m with
 | mk m' b => cases b <;> rfl
noncomputable abbrev qg (r0 : RuF) (x : RuF) (m' : Int) : List Blk := [.var [int r0.op, int r0.c, ai r0.nm, int r0.n, int r0.d, aa r0.ks], .var [int 0], .var [int m'], .var [int r0.op, int r0.c, ai r0.nm, int r0.n, int r0.d, aa r0.ks], .var [Ap (zB 239) [] [.ref (.ptr 4 0)]], .defd, .loop zM none 0 (mkT 23 0 [(2, .ref (.ptr 1 0)), (3, .ref (.ptr 2 0)), (7, Ap (zB 240) [] [.ref (.ptr 4 0), .ref (.ptr 3 0)])]) { toList := [8, 9] } (aA (sub zF 0)) (al (sub zF 0)), .var [int x.op, int x.c, ai x.nm, int x.n, int x.d, aa x.ks], .var [int x.op, int x.c, ai x.nm, int x.n, int x.d, aa x.ks]]
theorem walkB {r0 x : RuF} {ks : List RuleT} (hx : x.ks = ks.map RuleT.row) (hl : ak ks) {dep m m' : Int} (hi : Iv y6 Γk (.ref (.yl 6)) [int dep, .agg x.l] (ckH r0 0 m .ready none ++ [.var x.l]) (bool true) (ckH r0 0 m' .ready none ++ [.var x.l, .var x.l]))
  (hk : ∀ k ∈ ks, ∀ m, Ev y6 Γk 239 [.agg k.fl.l, int (zb.wrap (dep + 1)), .ref (.yl 6), .ref (.ptr 4 0)] (ckH r0 0 m .ready none) (bool (!(k.walk (zb.wrap (dep + 1)) m).2)) (xY r0 (k.walk (zb.wrap (dep + 1)) m).1 (k.walk (zb.wrap (dep + 1)) m).2)) : (Ev y6 Γk 239 [.agg x.l, int dep, .ref (.yl 6), .ref (.ptr 4 0)] (ckH r0 0 m .ready none) (bool (!(q9 (bp (wkF (zb.wrap (dep + 1))) ks m')).2)) (xY r0 (q9 (bp (wkF (zb.wrap (dep + 1))) ks m')).1 (q9 (bp (wkF (zb.wrap (dep + 1))) ks m')).2)) := by
 have hl0 := (@wk_cw (r0) (x) (ks) (hx) (hl) (dep) (m') (m) (hk))
 revert hl0
 cases ho1 : bp (wkF (zg zb (dep + 1))) ks m' with
 | inl o1_0_0 =>
  intro hl0
  let v0 : List D := [int r0.op, int r0.c, ai r0.nm, int r0.n, int r0.d, aa r0.ks]
  refine zk (Ev.symT (h' := [.var v0, .var [int 0], .var [int o1_0_0], .var v0, .var [Ap (zB 239) [] [.ref (.ptr 4 0)]], .defd, .loop zM none 0 (mkT 23 0 [(2, .ref (.ptr 1 0)), (3, .ref (.ptr 2 0)), (7, Ap (zB 240) [] [.ref (.ptr 4 0), .ref (.ptr 3 0)])]) { toList := [8, 9] } (aA (sub zF 0)) (al (sub zF 0))]) (d := bool true) pok [.inv (bool true) (qg r0 x m'), .b false, .st (.trim 8), .sum [1, 2, 3, 7, 16, 17, 18] (zQ 0) { t := mkT 30 0 [(7, bool false)], h := [.var v0, .var [int 0], .var [int o1_0_0], .var v0, .var [Ap (zB 239) [] [.ref (.ptr 4 0)]], .defd, .loop zM none 0 (mkT 23 0 [(2, .ref (.ptr 1 0)), (3, .ref (.ptr 2 0)), (7, Ap (zB 240) [] [.ref (.ptr 4 0), .ref (.ptr 3 0)])]) { toList := [8, 9] } (aA (sub zF 0)) (al (sub zF 0)), .var [int x.op, int x.c, ai x.nm, int x.n, int x.d, aa x.ks]], m := [] }] (by kernel_rfl) (.c (@hi) (.c (show (!true) = false from rfl) (.c hl0 .n)))) ?_ ?_ <;> subst v0 <;> (first | rfl | (simp only [ho1, q9, xY]; rfl))
 | inr o1_1_0 =>
  intro hl0
  let v0 : List D := [int r0.op, int r0.c, ai r0.nm, int r0.n, int r0.d, aa r0.ks]
  refine zk (Ev.symT (h' := [.var v0, .var [int 120], .var [int o1_1_0], .var v0, .var [Ap (zB 239) [] [.ref (.ptr 4 0)]], .defd, .loop Bk (some CD) 0 (mkT 23 0 [(2, .ref (.ptr 1 0)), (3, .ref (.ptr 2 0)), (7, Ap (zB 240) [] [.ref (.ptr 4 0), .ref (.ptr 3 0)])]) { toList := [8, 9] } (aA (sub zF 0)) (al (sub zF 0))]) (d := bool false) pok [.inv (bool true) (qg r0 x m'), .b false, .st (.trim 8), .sum [1, 2, 3, 7, 16, 17, 18] (Ai) { t := mkT 30 0 [(7, bool false)], h := [.var v0, .var [int 120], .var [int o1_1_0], .var v0, .var [Ap (zB 239) [] [.ref (.ptr 4 0)]], .defd, .loop Bk (some CD) 0 (mkT 23 0 [(2, .ref (.ptr 1 0)), (3, .ref (.ptr 2 0)), (7, Ap (zB 240) [] [.ref (.ptr 4 0), .ref (.ptr 3 0)])]) { toList := [8, 9] } (aA (sub zF 0)) (al (sub zF 0)), .var [int x.op, int x.c, ai x.nm, int x.n, int x.d, aa x.ks]], m := [] }] (by kernel_rfl) (.c (@hi) (.c (show (!true) = false from rfl) (.c hl0 .n)))) ?_ ?_ <;> subst v0 <;> (first | rfl | (simp only [ho1, q9, xY]; rfl))
end Go.Vi
