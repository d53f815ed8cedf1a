/- StandingNames: part of the proof: contracts of the functions that the law reaches, and the law. No conditions beyond the given statement's own. -/
import Derived.Test.YtilebidefogaiaaGreatDoorW1
import Derived.Test.YtilebidefogaiaaGreatDoorCards
import Derived.Test.YtilebidefogaiaaGreatDoorTie
import Derived.WalkKit
import Derived.ProofKit
import Derived.OpenShut
import Derived.Deep.DeepHandedRow
import Derived.Lib.LaidTab
open Go Go.Proofs
namespace Go.Vi
set_option maxRecDepth 100000
set_option maxHeartbeats 8000000

abbrev nilD : D := lit (.slice none 0 0)
abbrev nmH (s : Vi.Sys) (a b c d n q : Int) (T : List D) (vs : List Blk) : List Blk := [.var s.cells, .var [int a, int b, int c, int d], .var [int n, int q], .gone, .var T] ++ vs
abbrev nmS (nm : ByteArray) (x : Int) (k : Nat) (er : List (List Dp)) (i : Int) (h : List Blk) : AS :=
  { t := mkT 182 0 [(1, strD nm), (3, int x), (5, .ref (.ptr 0 0)), (9, .ref (.ptr 2 0)), (10, bool false), (11, .ref (.ptr 4 0)), (k, rowsD' er), (k + 1, int er.length), (k + 2, int i)], h := h, m := [] }
abbrev nmE (nm : ByteArray) (x : Int) (h : List Blk) : AS :=
  { t := mkT 182 0 [(1, strD nm), (3, int x), (5, .ref (.ptr 0 0)), (9, .ref (.ptr 2 0)), (10, bool false), (11, .ref (.ptr 4 0))], h := h, m := [] }
abbrev clR (a b c d : Int) (s : Vi.Sys) : List (List Dp) := [vi a, vi b, vi c, vi d] :: s.clauses
abbrev rowN (nm : ByteArray) (c : Cls) : List D := [strD nm, int c.earn, int c.num, int c.den]

theorem nm0_body {s : Vi.Sys} {nm : ByteArray} {x a b c d n q : Int} {er : List (List Dp)} {es : List (List D)} {i : Nat} {k : Cls} (hr : RowAt (i : Int) er k.row 4) (hlt : decide ((i : Int) < (er.length : Int)) = true) (hw : IntKind.i64.wrap ((i : Int) + 1) = ((i + 1 : Nat) : Int))
    (hl : es.length ≤ 100) (hp : ∀ f, es.map (D.mapRL f) = es) (hi : ∀ k, es.all (D.innL k) = true) : (CW Tryz.prog Γ0 [] false (sub Tryz.f12 0) (nmS nm x 42 er i (nmH s a b c d n q [.ref (.vec 5 0), nilD, nilD, rowsD' (clR a b c d s)] [.vec es 0 4])) .normal (nmS nm x 42 er ((i + 1 : Nat) : Int) (nmH s a b c d n q [.ref (.vec 5 0), nilD, nilD, rowsD' (clR a b c d s)] [.vec (es ++ [rowN nm k]) 0 4]))) := by
  exact CW.cast (CW.symX (s := { t := mkT 182 0 [(1, strD nm), (3, int x), (5, .ref (.ptr 0 0)), (9, .ref (.ptr 2 0)), (10, bool false), (11, .ref (.ptr 4 0)), (42, rowsD' er), (43, int (↑(List.length er) : Int)), (44, int (↑i : Int))], h := [.var [rowsD' (List.map Cls.row s.classes), rowsD' (List.map FeeT.row s.fees), rowsD' (List.map Cls.row s.honours), rowsD' s.clauses], .var [int a, int b, int c, int d], .var [int n, int q], .gone, .var [.ref (.vec 5 0), D.p (Dp.v (Value.slice none 0 0)), D.p (Dp.v (Value.slice none 0 0)), rowsD' ([vi a, vi b, vi c, vi d] :: s.clauses)], .vec es 0 4], m := [] }) (s' := { t := mkT 182 0 [(1, strD nm), (3, int x), (5, .ref (.ptr 0 0)), (9, .ref (.ptr 2 0)), (10, bool false), (11, .ref (.ptr 4 0)), (42, rowsD' er), (43, int (↑(List.length er) : Int)), (44, int (IntKind.wrap IntKind.i64 ((↑i : Int) + 1)))], h := [.var [rowsD' (List.map Cls.row s.classes), rowsD' (List.map FeeT.row s.fees), rowsD' (List.map Cls.row s.honours), rowsD' s.clauses], .var [int a, int b, int c, int d], .var [int n, int q], .gone, .var [.ref (.vec 5 0), D.p (Dp.v (Value.slice none 0 0)), D.p (Dp.v (Value.slice none 0 0)), rowsD' ([vi a, vi b, vi c, vi d] :: s.clauses)], .vec (es ++ [[strD nm, int k.earn, int k.num, int k.den]]) 0 4], m := [] }) (e := Exit.normal) pok (φ := [decide ((↑i : Int) < (↑(List.length er) : Int)) = true, RowAt (↑i : Int) er [vs k.name, vi k.earn, vi k.num, vi k.den] 4, (List.all [[strD nm, int k.earn, int k.num, int k.den]] (rowOk 4) && roomOk (List.length es + List.length [[strD nm, int k.earn, int k.num, int k.den]]) 40) = true, List.map (D.mapRL (renR 5 1 0)) (es ++ [[strD nm, int k.earn, int k.num, int k.den]]) = es ++ [[strD nm, int k.earn, int k.num, int k.den]], [[strD nm, int k.earn, int k.num, int k.den]] = [[strD nm, int k.earn, int k.num, int k.den]], List.all (es ++ [[strD nm, int k.earn, int k.num, int k.den]]) (D.innL 6) = true]) [.st (.mask [1, 3, 5, 9, 10, 11, 42, 43, 44]), .st (.ren 5 0), .st (.trim 6)] [.b true, .row [vs k.name, vi k.earn, vi k.num, vi k.den]] (by kernel_rfl) ⟨hlt, hr, (by first | assumption | (rw [List.map_append, hp]; rfl) | (rw [List.all_append, hi]; rfl) | rfl | (simp [rowOk, D.one, Value.oneCell', roomOk]; omega) | (simp [rowOk, D.one, Value.oneCell', roomOk])), (by first | assumption | (rw [List.map_append, hp]; rfl) | (rw [List.all_append, hi]; rfl) | rfl | (simp [rowOk, D.one, Value.oneCell', roomOk]; omega) | (simp [rowOk, D.one, Value.oneCell', roomOk])), rfl, (by first | assumption | (rw [List.map_append, hp]; rfl) | (rw [List.all_append, hi]; rfl) | rfl | (simp [rowOk, D.one, Value.oneCell', roomOk]; omega) | (simp [rowOk, D.one, Value.oneCell', roomOk])), trivial⟩) (by first | rfl | (simp only [hw]; rfl)) (by first | rfl | (simp only [hw]; rfl))


theorem nm0_last {s : Vi.Sys} {nm : ByteArray} {x a b c d n q : Int} {er : List (List Dp)} {es : List (List D)} {i : Nat} (hlt : decide ((i : Int) < (er.length : Int)) = false) : (CW Tryz.prog Γ0 [] false (sub Tryz.f12 0) (nmS nm x 42 er i (nmH s a b c d n q [.ref (.vec 5 0), nilD, nilD, rowsD' (clR a b c d s)] [.vec es 0 4])) (.exit 0) (nmE nm x (nmH s a b c d n q [.ref (.vec 5 0), nilD, nilD, rowsD' (clR a b c d s)] [.vec es 0 4]))) := by
  exact CW.cast (CW.symX (s := { t := mkT 182 0 [(1, strD nm), (3, int x), (5, .ref (.ptr 0 0)), (9, .ref (.ptr 2 0)), (10, bool false), (11, .ref (.ptr 4 0)), (42, rowsD' er), (43, int (↑(List.length er) : Int)), (44, int (↑i : Int))], h := [.var [rowsD' (List.map Cls.row s.classes), rowsD' (List.map FeeT.row s.fees), rowsD' (List.map Cls.row s.honours), rowsD' s.clauses], .var [int a, int b, int c, int d], .var [int n, int q], .gone, .var [.ref (.vec 5 0), D.p (Dp.v (Value.slice none 0 0)), D.p (Dp.v (Value.slice none 0 0)), rowsD' ([vi a, vi b, vi c, vi d] :: s.clauses)], .vec es 0 4], m := [] }) (s' := { t := mkT 182 0 [(1, strD nm), (3, int x), (5, .ref (.ptr 0 0)), (9, .ref (.ptr 2 0)), (10, bool false), (11, .ref (.ptr 4 0))], h := [.var [rowsD' (List.map Cls.row s.classes), rowsD' (List.map FeeT.row s.fees), rowsD' (List.map Cls.row s.honours), rowsD' s.clauses], .var [int a, int b, int c, int d], .var [int n, int q], .gone, .var [.ref (.vec 5 0), D.p (Dp.v (Value.slice none 0 0)), D.p (Dp.v (Value.slice none 0 0)), rowsD' ([vi a, vi b, vi c, vi d] :: s.clauses)], .vec es 0 4], m := [] }) (e := Exit.exit 0) pok (φ := [decide ((↑i : Int) < (↑(List.length er) : Int)) = false]) [.st (.mask [1, 3, 5, 9, 10, 11])] [.b false] (by kernel_rfl) ⟨hlt, trivial⟩) (by rfl) (by rfl)


/-- Rows that stay as they are. -/
abbrev rowsN (nm : ByteArray) (l : List Cls) : List (List D) := l.map (rowN nm)
theorem rowsN_map (nm : ByteArray) (l : List Cls) (f : Ref → D) : (rowsN nm l).map (D.mapRL f) = rowsN nm l := by simp [rowsN, rowN, D.mapRL, D.mapR, Function.comp_def]
theorem rowsN_inn (nm : ByteArray) (l : List Cls) (k : Nat) : (rowsN nm l).all (D.innL k) = true := by simp [rowsN, rowN, D.innL, D.inn]

theorem take_succ' {α : Type} {l : List α} {i : Nat} {a : α} (h : l[i]? = some a) : l.take (i + 1) = l.take i ++ [a] := by rw [List.take_add_one, h]; rfl

theorem nm0_cw {s : Vi.Sys} {nm : ByteArray} {x a b c d n q : Int} {l : List Cls} (hl : l.length ≤ 100) :
    CW Tryz.prog Γ0 [] false (.loop (sub Tryz.f12 0)) (nmS nm x 42 (l.map Cls.row) 0 (nmH s a b c d n q [.ref (.vec 5 0), nilD, nilD, rowsD' (clR a b c d s)] [.vec [] 0 4])) (.exit 0) (nmE nm x (nmH s a b c d n q [.ref (.vec 5 0), nilD, nilD, rowsD' (clR a b c d s)] [.vec (rowsN nm l) 0 4])) := by
  have := CW.each (P := Tryz.prog) (Γ := Γ0) (h0 := []) (rd := false) (c := sub Tryz.f12 0) (σ := Unit) (ρ := Empty) l (fun _ _ => .inl ()) (fun i _ => nmS nm x 42 (l.map Cls.row) (i : Int) (nmH s a b c d n q [.ref (.vec 5 0), nilD, nilD, rowsD' (clR a b c d s)] [.vec (rowsN nm (l.take i)) 0 4]))
    (.exit 0) (fun _ => nmE nm x (nmH s a b c d n q [.ref (.vec 5 0), nilD, nilD, rowsD' (clR a b c d s)] [.vec (rowsN nm l) 0 4])) (fun r => r.elim) (fun _ _ => True) (by simp) (fun r => r.elim) ?_ ?_ () trivial
  · have e : forL (fun (_ : Cls) (_ : Unit) => (.inl () : Unit ⊕ Empty)) l () = .inl () := by
      clear this hl
      induction l with
      | nil => rfl
      | cons a l ih => exact ih
    rw [e] at this
    exact this
  · intro i k u hk _
    have hi := (List.getElem?_eq_some_iff.1 hk).1
    refine ⟨fun _ _ => trivial, ?_⟩
    have := nm0_body (s := s) (nm := nm) (x := x) (a := a) (b := b) (c := c) (d := d) (n := n) (q := q) (rowAt hk rfl) (lt_len _ hi) (wrap_succ hi (by omega)) (es := rowsN nm (l.take i)) (by simp; omega) (rowsN_map _ _) (rowsN_inn _ _)
    rw [show rowsN nm (l.take i) ++ [rowN nm k] = rowsN nm (l.take (i + 1)) by rw [take_succ' hk]; simp [rowsN]] at this
    exact this
  · intro u _
    have := nm0_last (s := s) (nm := nm) (x := x) (a := a) (b := b) (c := c) (d := d) (n := n) (q := q) (er := l.map Cls.row) (es := rowsN nm l) (i := l.length) (ge_len _ l)
    rw [List.take_length]
    exact this

/- the honours -/
abbrev rowM (nm : ByteArray) (c : Cls) : List D := [strD (c.name ++ nm), int c.earn, int c.num, int c.den]
abbrev rowsM (nm : ByteArray) (l : List Cls) : List (List D) := l.map (rowM nm)
theorem rowsM_map (nm : ByteArray) (l : List Cls) (f : Ref → D) : (rowsM nm l).map (D.mapRL f) = rowsM nm l := by simp [rowsM, rowM, D.mapRL, D.mapR, Function.comp_def]
theorem rowsM_inn (nm : ByteArray) (l : List Cls) (k : Nat) : (rowsM nm l).all (D.innL k) = true := by simp [rowsM, rowM, D.innL, D.inn]

theorem nm1_body {s : Vi.Sys} {nm : ByteArray} {x a b c d n q : Int} {er : List (List Dp)} {e1 es : List (List D)} {i : Nat} {k : Cls} (hr : RowAt (i : Int) er k.row 4) (hlt : decide ((i : Int) < (er.length : Int)) = true) (hw : IntKind.i64.wrap ((i : Int) + 1) = ((i + 1 : Nat) : Int))
    (hz : k.name.size + nm.size ≤ 9223372036854775807) (hl : es.length ≤ 100) (hp : ∀ f, es.map (D.mapRL f) = es) (hi : ∀ k, es.all (D.innL k) = true) (hp1 : ∀ f, e1.map (D.mapRL f) = e1) (hi1 : ∀ k, e1.all (D.innL k) = true) : (CW Tryz.prog Γ0 [] false (sub Tryz.f12 1) (nmS nm x 58 er i (nmH s a b c d n q [.ref (.vec 5 0), nilD, .ref (.vec 6 0), rowsD' (clR a b c d s)] [.vec e1 0 4, .vec es 0 4])) .normal (nmS nm x 58 er ((i + 1 : Nat) : Int) (nmH s a b c d n q [.ref (.vec 5 0), nilD, .ref (.vec 6 0), rowsD' (clR a b c d s)] [.vec e1 0 4, .vec (es ++ [rowM nm k]) 0 4]))) := by
  exact CW.cast (CW.symX (s := { t := mkT 182 0 [(1, strD nm), (3, int x), (5, .ref (.ptr 0 0)), (9, .ref (.ptr 2 0)), (10, bool false), (11, .ref (.ptr 4 0)), (58, rowsD' er), (59, int (↑(List.length er) : Int)), (60, int (↑i : Int))], h := [.var [rowsD' (List.map Cls.row s.classes), rowsD' (List.map FeeT.row s.fees), rowsD' (List.map Cls.row s.honours), rowsD' s.clauses], .var [int a, int b, int c, int d], .var [int n, int q], .gone, .var [.ref (.vec 5 0), D.p (Dp.v (Value.slice none 0 0)), .ref (.vec 6 0), rowsD' ([vi a, vi b, vi c, vi d] :: s.clauses)], .vec e1 0 4, .vec es 0 4], m := [] }) (s' := { t := mkT 182 0 [(1, strD nm), (3, int x), (5, .ref (.ptr 0 0)), (9, .ref (.ptr 2 0)), (10, bool false), (11, .ref (.ptr 4 0)), (58, rowsD' er), (59, int (↑(List.length er) : Int)), (60, int (IntKind.wrap IntKind.i64 ((↑i : Int) + 1)))], h := [.var [rowsD' (List.map Cls.row s.classes), rowsD' (List.map FeeT.row s.fees), rowsD' (List.map Cls.row s.honours), rowsD' s.clauses], .var [int a, int b, int c, int d], .var [int n, int q], .gone, .var [.ref (.vec 5 0), D.p (Dp.v (Value.slice none 0 0)), .ref (.vec 6 0), rowsD' ([vi a, vi b, vi c, vi d] :: s.clauses)], .vec e1 0 4, .vec (es ++ [[strD (k.name ++ nm), int k.earn, int k.num, int k.den]]) 0 4], m := [] }) (e := Exit.normal) pok (φ := [decide ((↑i : Int) < (↑(List.length er) : Int)) = true, RowAt (↑i : Int) er [vs k.name, vi k.earn, vi k.num, vi k.den] 4, decide (ByteArray.size k.name + ByteArray.size nm ≤ 9223372036854775807) = true, (List.all [[strD (k.name ++ nm), int k.earn, int k.num, int k.den]] (rowOk 4) && roomOk (List.length es + List.length [[strD (k.name ++ nm), int k.earn, int k.num, int k.den]]) 40) = true, List.map (D.mapRL (renR 6 1 0)) (es ++ [[strD (k.name ++ nm), int k.earn, int k.num, int k.den]]) = es ++ [[strD (k.name ++ nm), int k.earn, int k.num, int k.den]], List.map (D.mapRL (renR 6 1 0)) e1 = e1, [[strD (k.name ++ nm), int k.earn, int k.num, int k.den]] = [[strD (k.name ++ nm), int k.earn, int k.num, int k.den]], List.all e1 (D.innL 7) = true, List.all (es ++ [[strD (k.name ++ nm), int k.earn, int k.num, int k.den]]) (D.innL 7) = true]) [.st (.mask [1, 3, 5, 9, 10, 11, 58, 59, 60]), .st (.ren 6 0), .st (.trim 7)] [.b true, .row [vs k.name, vi k.earn, vi k.num, vi k.den]] (by kernel_rfl) ⟨hlt, hr, (by first | assumption | (rw [List.map_append, hp]; rfl) | (rw [List.all_append, hi]; rfl) | exact hp1 _ | exact hi1 _ | rfl | (simp; omega) | (simp [rowOk, D.one, Value.oneCell', roomOk]; omega) | (simp [rowOk, D.one, Value.oneCell', roomOk])), (by first | assumption | (rw [List.map_append, hp]; rfl) | (rw [List.all_append, hi]; rfl) | exact hp1 _ | exact hi1 _ | rfl | (simp; omega) | (simp [rowOk, D.one, Value.oneCell', roomOk]; omega) | (simp [rowOk, D.one, Value.oneCell', roomOk])), (by first | assumption | (rw [List.map_append, hp]; rfl) | (rw [List.all_append, hi]; rfl) | exact hp1 _ | exact hi1 _ | rfl | (simp; omega) | (simp [rowOk, D.one, Value.oneCell', roomOk]; omega) | (simp [rowOk, D.one, Value.oneCell', roomOk])), (by first | assumption | (rw [List.map_append, hp]; rfl) | (rw [List.all_append, hi]; rfl) | exact hp1 _ | exact hi1 _ | rfl | (simp; omega) | (simp [rowOk, D.one, Value.oneCell', roomOk]; omega) | (simp [rowOk, D.one, Value.oneCell', roomOk])), rfl, (by first | assumption | (rw [List.map_append, hp]; rfl) | (rw [List.all_append, hi]; rfl) | exact hp1 _ | exact hi1 _ | rfl | (simp; omega) | (simp [rowOk, D.one, Value.oneCell', roomOk]; omega) | (simp [rowOk, D.one, Value.oneCell', roomOk])), (by first | assumption | (rw [List.map_append, hp]; rfl) | (rw [List.all_append, hi]; rfl) | exact hp1 _ | exact hi1 _ | rfl | (simp; omega) | (simp [rowOk, D.one, Value.oneCell', roomOk]; omega) | (simp [rowOk, D.one, Value.oneCell', roomOk])), trivial⟩) (by first | rfl | (simp only [hw]; rfl)) (by first | rfl | (simp only [hw]; rfl))


theorem nm1_last {s : Vi.Sys} {nm : ByteArray} {x a b c d n q : Int} {er : List (List Dp)} {e1 es : List (List D)} {i : Nat} (hlt : decide ((i : Int) < (er.length : Int)) = false) : (CW Tryz.prog Γ0 [] false (sub Tryz.f12 1) (nmS nm x 58 er i (nmH s a b c d n q [.ref (.vec 5 0), nilD, .ref (.vec 6 0), rowsD' (clR a b c d s)] [.vec e1 0 4, .vec es 0 4])) (.exit 2) (nmE nm x (nmH s a b c d n q [.ref (.vec 5 0), nilD, .ref (.vec 6 0), rowsD' (clR a b c d s)] [.vec e1 0 4, .vec es 0 4]))) := by
  exact CW.cast (CW.symX (s := { t := mkT 182 0 [(1, strD nm), (3, int x), (5, .ref (.ptr 0 0)), (9, .ref (.ptr 2 0)), (10, bool false), (11, .ref (.ptr 4 0)), (58, rowsD' er), (59, int (↑(List.length er) : Int)), (60, int (↑i : Int))], h := [.var [rowsD' (List.map Cls.row s.classes), rowsD' (List.map FeeT.row s.fees), rowsD' (List.map Cls.row s.honours), rowsD' s.clauses], .var [int a, int b, int c, int d], .var [int n, int q], .gone, .var [.ref (.vec 5 0), D.p (Dp.v (Value.slice none 0 0)), .ref (.vec 6 0), rowsD' ([vi a, vi b, vi c, vi d] :: s.clauses)], .vec e1 0 4, .vec es 0 4], m := [] }) (s' := { t := mkT 182 0 [(1, strD nm), (3, int x), (5, .ref (.ptr 0 0)), (9, .ref (.ptr 2 0)), (10, bool false), (11, .ref (.ptr 4 0))], h := [.var [rowsD' (List.map Cls.row s.classes), rowsD' (List.map FeeT.row s.fees), rowsD' (List.map Cls.row s.honours), rowsD' s.clauses], .var [int a, int b, int c, int d], .var [int n, int q], .gone, .var [.ref (.vec 5 0), D.p (Dp.v (Value.slice none 0 0)), .ref (.vec 6 0), rowsD' ([vi a, vi b, vi c, vi d] :: s.clauses)], .vec e1 0 4, .vec es 0 4], m := [] }) (e := Exit.exit 2) pok (φ := [decide ((↑i : Int) < (↑(List.length er) : Int)) = false]) [.st (.mask [1, 3, 5, 9, 10, 11])] [.b false] (by kernel_rfl) ⟨hlt, trivial⟩) (by rfl) (by rfl)


theorem nm1_cw {s : Vi.Sys} {nm : ByteArray} {x a b c d n q : Int} {e1 : List (List D)} {l : List Cls} (hl : l.length ≤ 100) (hz : ∀ k ∈ l, k.name.size + nm.size ≤ 9223372036854775807) (hp1 : ∀ f, e1.map (D.mapRL f) = e1) (hi1 : ∀ k, e1.all (D.innL k) = true) :
    CW Tryz.prog Γ0 [] false (.loop (sub Tryz.f12 1)) (nmS nm x 58 (l.map Cls.row) 0 (nmH s a b c d n q [.ref (.vec 5 0), nilD, .ref (.vec 6 0), rowsD' (clR a b c d s)] [.vec e1 0 4, .vec [] 0 4])) (.exit 2) (nmE nm x (nmH s a b c d n q [.ref (.vec 5 0), nilD, .ref (.vec 6 0), rowsD' (clR a b c d s)] [.vec e1 0 4, .vec (rowsM nm l) 0 4])) := by
  have := CW.each (P := Tryz.prog) (Γ := Γ0) (h0 := []) (rd := false) (c := sub Tryz.f12 1) (σ := Unit) (ρ := Empty) l (fun _ _ => .inl ()) (fun i _ => nmS nm x 58 (l.map Cls.row) (i : Int) (nmH s a b c d n q [.ref (.vec 5 0), nilD, .ref (.vec 6 0), rowsD' (clR a b c d s)] [.vec e1 0 4, .vec (rowsM nm (l.take i)) 0 4]))
    (.exit 2) (fun _ => nmE nm x (nmH s a b c d n q [.ref (.vec 5 0), nilD, .ref (.vec 6 0), rowsD' (clR a b c d s)] [.vec e1 0 4, .vec (rowsM nm l) 0 4])) (fun r => r.elim) (fun _ _ => True) (by simp) (fun r => r.elim) ?_ ?_ () trivial
  · have e : forL (fun (_ : Cls) (_ : Unit) => (.inl () : Unit ⊕ Empty)) l () = .inl () := by
      clear this hl hz
      induction l with
      | nil => rfl
      | cons a l ih => exact ih
    rw [e] at this
    exact this
  · intro i k u hk _
    have hi := (List.getElem?_eq_some_iff.1 hk).1
    refine ⟨fun _ _ => trivial, ?_⟩
    have := nm1_body (s := s) (nm := nm) (x := x) (a := a) (b := b) (c := c) (d := d) (n := n) (q := q) (rowAt hk rfl) (lt_len _ hi) (wrap_succ hi (by omega)) (es := rowsM nm (l.take i)) (hz k (List.mem_of_getElem? hk)) (by simp; omega) (rowsM_map _ _) (rowsM_inn _ _) hp1 hi1
    rw [show rowsM nm (l.take i) ++ [rowM nm k] = rowsM nm (l.take (i + 1)) by rw [take_succ' hk]; simp [rowsM]] at this
    exact this
  · intro u _
    have := nm1_last (s := s) (nm := nm) (x := x) (a := a) (b := b) (c := c) (d := d) (n := n) (q := q) (er := l.map Cls.row) (e1 := e1) (es := rowsM nm l) (i := l.length) (ge_len _ l)
    rw [List.take_length]
    exact this

/- the fees -/
abbrev rowF (nm : ByteArray) (c : FeeT) : List D := [strD nm, int c.credits]
abbrev rowsF (nm : ByteArray) (l : List FeeT) : List (List D) := l.map (rowF nm)
theorem rowsF_map (nm : ByteArray) (l : List FeeT) (f : Ref → D) : (rowsF nm l).map (D.mapRL f) = rowsF nm l := by simp [rowsF, rowF, D.mapRL, D.mapR, Function.comp_def]
theorem rowsF_inn (nm : ByteArray) (l : List FeeT) (k : Nat) : (rowsF nm l).all (D.innL k) = true := by simp [rowsF, rowF, D.innL, D.inn]

theorem nm2_body {s : Vi.Sys} {nm : ByteArray} {x a b c d n q : Int} {er : List (List Dp)} {e1 e2 es : List (List D)} {i : Nat} {k : FeeT} (hr : RowAt (i : Int) er k.row 2) (hlt : decide ((i : Int) < (er.length : Int)) = true) (hw : IntKind.i64.wrap ((i : Int) + 1) = ((i + 1 : Nat) : Int))
    (hl : es.length ≤ 100) (hp : ∀ f, es.map (D.mapRL f) = es) (hi : ∀ k, es.all (D.innL k) = true) (hp1 : ∀ f, e1.map (D.mapRL f) = e1) (hi1 : ∀ k, e1.all (D.innL k) = true) (hp2 : ∀ f, e2.map (D.mapRL f) = e2) (hi2 : ∀ k, e2.all (D.innL k) = true) : (CW Tryz.prog Γ0 [] false (sub Tryz.f12 2) (nmS nm x 77 er i (nmH s a b c d n q [.ref (.vec 5 0), .ref (.vec 7 0), .ref (.vec 6 0), rowsD' (clR a b c d s)] [.vec e1 0 4, .vec e2 0 4, .vec es 0 2])) .normal (nmS nm x 77 er ((i + 1 : Nat) : Int) (nmH s a b c d n q [.ref (.vec 5 0), .ref (.vec 7 0), .ref (.vec 6 0), rowsD' (clR a b c d s)] [.vec e1 0 4, .vec e2 0 4, .vec (es ++ [rowF nm k]) 0 2]))) := by
  exact CW.cast (CW.symX (s := { t := mkT 182 0 [(1, strD nm), (3, int x), (5, .ref (.ptr 0 0)), (9, .ref (.ptr 2 0)), (10, bool false), (11, .ref (.ptr 4 0)), (77, rowsD' er), (78, int (↑(List.length er) : Int)), (79, int (↑i : Int))], h := [.var [rowsD' (List.map Cls.row s.classes), rowsD' (List.map FeeT.row s.fees), rowsD' (List.map Cls.row s.honours), rowsD' s.clauses], .var [int a, int b, int c, int d], .var [int n, int q], .gone, .var [.ref (.vec 5 0), .ref (.vec 7 0), .ref (.vec 6 0), rowsD' ([vi a, vi b, vi c, vi d] :: s.clauses)], .vec e1 0 4, .vec e2 0 4, .vec es 0 2], m := [] }) (s' := { t := mkT 182 0 [(1, strD nm), (3, int x), (5, .ref (.ptr 0 0)), (9, .ref (.ptr 2 0)), (10, bool false), (11, .ref (.ptr 4 0)), (77, rowsD' er), (78, int (↑(List.length er) : Int)), (79, int (IntKind.wrap IntKind.i64 ((↑i : Int) + 1)))], h := [.var [rowsD' (List.map Cls.row s.classes), rowsD' (List.map FeeT.row s.fees), rowsD' (List.map Cls.row s.honours), rowsD' s.clauses], .var [int a, int b, int c, int d], .var [int n, int q], .gone, .var [.ref (.vec 5 0), .ref (.vec 7 0), .ref (.vec 6 0), rowsD' ([vi a, vi b, vi c, vi d] :: s.clauses)], .vec e1 0 4, .vec e2 0 4, .vec (es ++ [[strD nm, int k.credits]]) 0 2], m := [] }) (e := Exit.normal) pok (φ := [decide ((↑i : Int) < (↑(List.length er) : Int)) = true, RowAt (↑i : Int) er [vs k.name, vi k.credits] 2, (List.all [[strD nm, int k.credits]] (rowOk 2) && roomOk (List.length es + List.length [[strD nm, int k.credits]]) 24) = true, List.map (D.mapRL (renR 7 1 0)) (es ++ [[strD nm, int k.credits]]) = es ++ [[strD nm, int k.credits]], List.map (D.mapRL (renR 7 1 0)) e1 = e1, List.map (D.mapRL (renR 7 1 0)) e2 = e2, [[strD nm, int k.credits]] = [[strD nm, int k.credits]], List.all e1 (D.innL 8) = true, List.all e2 (D.innL 8) = true, List.all (es ++ [[strD nm, int k.credits]]) (D.innL 8) = true]) [.st (.mask [1, 3, 5, 9, 10, 11, 77, 78, 79]), .st (.ren 7 0), .st (.trim 8)] [.b true, .row [vs k.name, vi k.credits]] (by kernel_rfl) ⟨hlt, hr, (by first | assumption | (rw [List.map_append, hp]; rfl) | (rw [List.all_append, hi]; rfl) | exact hp1 _ | exact hi1 _ | exact hp2 _ | exact hi2 _ | rfl | (simp [rowOk, D.one, Value.oneCell', roomOk]; omega) | (simp [rowOk, D.one, Value.oneCell', roomOk])), (by first | assumption | (rw [List.map_append, hp]; rfl) | (rw [List.all_append, hi]; rfl) | exact hp1 _ | exact hi1 _ | exact hp2 _ | exact hi2 _ | rfl | (simp [rowOk, D.one, Value.oneCell', roomOk]; omega) | (simp [rowOk, D.one, Value.oneCell', roomOk])), (by first | assumption | (rw [List.map_append, hp]; rfl) | (rw [List.all_append, hi]; rfl) | exact hp1 _ | exact hi1 _ | exact hp2 _ | exact hi2 _ | rfl | (simp [rowOk, D.one, Value.oneCell', roomOk]; omega) | (simp [rowOk, D.one, Value.oneCell', roomOk])), (by first | assumption | (rw [List.map_append, hp]; rfl) | (rw [List.all_append, hi]; rfl) | exact hp1 _ | exact hi1 _ | exact hp2 _ | exact hi2 _ | rfl | (simp [rowOk, D.one, Value.oneCell', roomOk]; omega) | (simp [rowOk, D.one, Value.oneCell', roomOk])), rfl, (by first | assumption | (rw [List.map_append, hp]; rfl) | (rw [List.all_append, hi]; rfl) | exact hp1 _ | exact hi1 _ | exact hp2 _ | exact hi2 _ | rfl | (simp [rowOk, D.one, Value.oneCell', roomOk]; omega) | (simp [rowOk, D.one, Value.oneCell', roomOk])), (by first | assumption | (rw [List.map_append, hp]; rfl) | (rw [List.all_append, hi]; rfl) | exact hp1 _ | exact hi1 _ | exact hp2 _ | exact hi2 _ | rfl | (simp [rowOk, D.one, Value.oneCell', roomOk]; omega) | (simp [rowOk, D.one, Value.oneCell', roomOk])), (by first | assumption | (rw [List.map_append, hp]; rfl) | (rw [List.all_append, hi]; rfl) | exact hp1 _ | exact hi1 _ | exact hp2 _ | exact hi2 _ | rfl | (simp [rowOk, D.one, Value.oneCell', roomOk]; omega) | (simp [rowOk, D.one, Value.oneCell', roomOk])), trivial⟩) (by first | rfl | (simp only [hw]; rfl)) (by first | rfl | (simp only [hw]; rfl))


theorem nm2_last {s : Vi.Sys} {nm : ByteArray} {x a b c d n q : Int} {er : List (List Dp)} {e1 e2 es : List (List D)} {i : Nat} (hlt : decide ((i : Int) < (er.length : Int)) = false) : (CW Tryz.prog Γ0 [] false (sub Tryz.f12 2) (nmS nm x 77 er i (nmH s a b c d n q [.ref (.vec 5 0), .ref (.vec 7 0), .ref (.vec 6 0), rowsD' (clR a b c d s)] [.vec e1 0 4, .vec e2 0 4, .vec es 0 2])) (.exit 4) (nmE nm x (nmH s a b c d n q [.ref (.vec 5 0), .ref (.vec 7 0), .ref (.vec 6 0), rowsD' (clR a b c d s)] [.vec e1 0 4, .vec e2 0 4, .vec es 0 2]))) := by
  exact CW.cast (CW.symX (s := { t := mkT 182 0 [(1, strD nm), (3, int x), (5, .ref (.ptr 0 0)), (9, .ref (.ptr 2 0)), (10, bool false), (11, .ref (.ptr 4 0)), (77, rowsD' er), (78, int (↑(List.length er) : Int)), (79, int (↑i : Int))], h := [.var [rowsD' (List.map Cls.row s.classes), rowsD' (List.map FeeT.row s.fees), rowsD' (List.map Cls.row s.honours), rowsD' s.clauses], .var [int a, int b, int c, int d], .var [int n, int q], .gone, .var [.ref (.vec 5 0), .ref (.vec 7 0), .ref (.vec 6 0), rowsD' ([vi a, vi b, vi c, vi d] :: s.clauses)], .vec e1 0 4, .vec e2 0 4, .vec es 0 2], m := [] }) (s' := { t := mkT 182 0 [(1, strD nm), (3, int x), (5, .ref (.ptr 0 0)), (9, .ref (.ptr 2 0)), (10, bool false), (11, .ref (.ptr 4 0))], h := [.var [rowsD' (List.map Cls.row s.classes), rowsD' (List.map FeeT.row s.fees), rowsD' (List.map Cls.row s.honours), rowsD' s.clauses], .var [int a, int b, int c, int d], .var [int n, int q], .gone, .var [.ref (.vec 5 0), .ref (.vec 7 0), .ref (.vec 6 0), rowsD' ([vi a, vi b, vi c, vi d] :: s.clauses)], .vec e1 0 4, .vec e2 0 4, .vec es 0 2], m := [] }) (e := Exit.exit 4) pok (φ := [decide ((↑i : Int) < (↑(List.length er) : Int)) = false]) [.st (.mask [1, 3, 5, 9, 10, 11])] [.b false] (by kernel_rfl) ⟨hlt, trivial⟩) (by rfl) (by rfl)


theorem nm2_cw {s : Vi.Sys} {nm : ByteArray} {x a b c d n q : Int} {e1 e2 : List (List D)} {l : List FeeT} (hl : l.length ≤ 100) (hp1 : ∀ f, e1.map (D.mapRL f) = e1) (hi1 : ∀ k, e1.all (D.innL k) = true) (hp2 : ∀ f, e2.map (D.mapRL f) = e2) (hi2 : ∀ k, e2.all (D.innL k) = true) :
    CW Tryz.prog Γ0 [] false (.loop (sub Tryz.f12 2)) (nmS nm x 77 (l.map FeeT.row) 0 (nmH s a b c d n q [.ref (.vec 5 0), .ref (.vec 7 0), .ref (.vec 6 0), rowsD' (clR a b c d s)] [.vec e1 0 4, .vec e2 0 4, .vec [] 0 2])) (.exit 4) (nmE nm x (nmH s a b c d n q [.ref (.vec 5 0), .ref (.vec 7 0), .ref (.vec 6 0), rowsD' (clR a b c d s)] [.vec e1 0 4, .vec e2 0 4, .vec (rowsF nm l) 0 2])) := by
  have := CW.each (P := Tryz.prog) (Γ := Γ0) (h0 := []) (rd := false) (c := sub Tryz.f12 2) (σ := Unit) (ρ := Empty) l (fun _ _ => .inl ()) (fun i _ => nmS nm x 77 (l.map FeeT.row) (i : Int) (nmH s a b c d n q [.ref (.vec 5 0), .ref (.vec 7 0), .ref (.vec 6 0), rowsD' (clR a b c d s)] [.vec e1 0 4, .vec e2 0 4, .vec (rowsF nm (l.take i)) 0 2]))
    (.exit 4) (fun _ => nmE nm x (nmH s a b c d n q [.ref (.vec 5 0), .ref (.vec 7 0), .ref (.vec 6 0), rowsD' (clR a b c d s)] [.vec e1 0 4, .vec e2 0 4, .vec (rowsF nm l) 0 2])) (fun r => r.elim) (fun _ _ => True) (by simp) (fun r => r.elim) ?_ ?_ () trivial
  · have e : forL (fun (_ : FeeT) (_ : Unit) => (.inl () : Unit ⊕ Empty)) l () = .inl () := by
      clear this hl
      induction l with
      | nil => rfl
      | cons a l ih => exact ih
    rw [e] at this
    exact this
  · intro i k u hk _
    have hi := (List.getElem?_eq_some_iff.1 hk).1
    refine ⟨fun _ _ => trivial, ?_⟩
    have := nm2_body (s := s) (nm := nm) (x := x) (a := a) (b := b) (c := c) (d := d) (n := n) (q := q) (rowAt hk rfl) (lt_len _ hi) (wrap_succ hi (by omega)) (es := rowsF nm (l.take i)) (by simp; omega) (rowsF_map _ _) (rowsF_inn _ _) hp1 hi1 hp2 hi2
    rw [show rowsF nm (l.take i) ++ [rowF nm k] = rowsF nm (l.take (i + 1)) by rw [take_succ' hk]; simp [rowsF]] at this
    exact this
  · intro u _
    have := nm2_last (s := s) (nm := nm) (x := x) (a := a) (b := b) (c := c) (d := d) (n := n) (q := q) (er := l.map FeeT.row) (e1 := e1) (e2 := e2) (es := rowsF nm l) (i := l.length) (ge_len _ l)
    rw [List.take_length]
    exact this

end Go.Vi
open Go Go.Proofs
namespace Go.Vi
set_option maxRecDepth 100000
set_option maxHeartbeats 8000000

abbrev reN (nm : ByteArray) (c : Cls) : Cls := ⟨nm, c.earn, c.num, c.den⟩
abbrev reM (nm : ByteArray) (c : Cls) : Cls := ⟨c.name ++ nm, c.earn, c.num, c.den⟩
abbrev reF (nm : ByteArray) (c : FeeT) : FeeT := ⟨nm, c.credits⟩
abbrev xC : Cls := ⟨⟨#[]⟩, 10000, 0, 1⟩
abbrev xF : FeeT := ⟨⟨#[]⟩, 10000⟩
abbrev sysN (s : Vi.Sys) (nm : ByteArray) (a b c d : Int) : Vi.Sys := ⟨s.classes.map (reN nm), s.fees.map (reF nm), s.honours.map (reM nm), clR a b c d s⟩
abbrev sysX (s : Vi.Sys) (nm : ByteArray) (a b c d : Int) : Vi.Sys := ⟨s.classes.map (reN nm) ++ [xC], s.fees.map (reF nm) ++ [xF], s.honours.map (reM nm), clR a b c d s⟩

def namesP (s t : Vi.Sys) (x n q : Int) : Bool :=
  (ofR s s.classes x n q).1 == (ofR t t.classes x n q).1 && (ofR s s.classes x n q).2 == (ofR t t.classes x n q).2 && (ofR s s.honours x n q).1 == (ofR t t.honours x n q).1 && (ofR s s.honours x n q).2 == (ofR t t.honours x n q).2 &&
    (feeR s x).1 == (feeR t x).1 && (feeR s x).2 == (feeR t x).2 && errS s == errS t

abbrev names0_ev_x0 (s : Sys) (a : Int) (b : Int) (c : Int) (d : Int) (n : Int) (q : Int) : List Blk := [.var [rowsD' (List.map Cls.row s.classes), rowsD' (List.map FeeT.row s.fees), rowsD' (List.map Cls.row s.honours), rowsD' s.clauses], .var [int a, int b, int c, int d], .var [int n, int q]]
theorem names0_ev {s : Vi.Sys} {nm : ByteArray} {a b c d x n q : Int} (h : List Blk) (hf : few s = false) : (Ev Tryz.prog Γ0 12 [.agg s.cells, strD nm, .agg [int a, int b, int c, int d], int x, .agg [int n, int q]] h (bool true) h) := by
  exact Ev.castH (Ev.sym0 (P := Tryz.prog) (Γ := Γ0) (f := 12) (args := [D.agg (Sys.cells s), strD nm, D.agg [int a, int b, int c, int d], int x, D.agg [int n, int q]]) (d := bool true) pok (φ := [Ev Tryz.prog Γ0 35 [] (names0_ev_x0 s a b c d n q) (bool true) (names0_ev_x0 s a b c d n q), (!true) = false, Ev Tryz.prog Γ0 36 [D.agg [rowsD' (List.map Cls.row s.classes), rowsD' (List.map FeeT.row s.fees), rowsD' (List.map Cls.row s.honours), rowsD' s.clauses]] (names0_ev_x0 s a b c d n q) (bool (few s)) (names0_ev_x0 s a b c d n q), (!few s) = true]) [.val (bool true), .b false, .val (bool (few s)), .b true] (by kernel_rfl) ⟨(@sane21_ev ((names0_ev_x0 s a b c d n q))), rfl, (@few_ev (s) ((names0_ev_x0 s a b c d n q))), (by rw [hf]; rfl), trivial⟩ rfl rfl h) (by first | rfl | simp_all) (by rfl)


abbrev names1_ev_x0 (s : Sys) (nm : ByteArray) (a : Int) (b : Int) (c : Int) (d : Int) (n : Int) (q : Int) : List Blk := [.var [rowsD' (List.map Cls.row s.classes), rowsD' (List.map FeeT.row s.fees), rowsD' (List.map Cls.row s.honours), rowsD' s.clauses], .var [int a, int b, int c, int d], .var [int n, int q], .gone, .var [rowsD' (List.map Cls.row (List.map (reN nm) s.classes)), rowsD' (List.map FeeT.row (List.map (reF nm) s.fees)), rowsD' (List.map Cls.row (List.map (reM nm) s.honours)), rowsD' ([vi a, vi b, vi c, vi d] :: s.clauses)], .gone, .gone, .gone]
abbrev names1_ev_x1 (s : Sys) (a : Int) (b : Int) (c : Int) (d : Int) (n : Int) (q : Int) : List Blk := [.var [rowsD' (List.map Cls.row s.classes), rowsD' (List.map FeeT.row s.fees), rowsD' (List.map Cls.row s.honours), rowsD' s.clauses], .var [int a, int b, int c, int d], .var [int n, int q]]
theorem names1_ev {s : Vi.Sys} {nm : ByteArray} {a b c d x n q : Int} (h : List Blk) (hf : few s = true) (hs : s.ok) (ht : (sysN s nm a b c d).ok) (hn : I64 n) (hq : I64 q) (l0 : s.classes.length ≤ 100) (l1 : s.honours.length ≤ 100) (l2 : s.fees.length ≤ 100) (l3 : s.clauses.length ≤ 100)
    (hcl : (s.clauses.map (fun r => r.map D.p)).all (rowOk 4) = true) (hz : ∀ k ∈ s.honours, k.name.size + nm.size ≤ 9223372036854775807) (hx : decide (x < 10000) = false) : (Ev Tryz.prog Γ0 12 [.agg s.cells, strD nm, .agg [int a, int b, int c, int d], int x, .agg [int n, int q]] h (bool (namesP s (sysN s nm a b c d) x n q)) h) := by
  have hl0 := (@nm0_cw (s) (nm) (x) (a) (b) (c) (d) (n) (q) (s.classes) (l0))
  have hl1 := (@nm1_cw (s) (nm) (x) (a) (b) (c) (d) (n) (q) (rowsN nm s.classes) (s.honours) (l1) (hz) (by first | assumption | (rw [hf]; rfl) | exact rowsN_map _ _ _ | exact rowsM_map _ _ _ | exact rowsF_map _ _ _ | exact rowsN_map _ _ | exact rowsM_map _ _ | exact rowsN_inn _ _ | exact rowsM_inn _ _ | rfl | (rw [List.map_map, List.map_map]; rfl) | (simp only [hcl, roomOk, List.length_map, List.length_cons, List.length_nil, Bool.and_eq_true, decide_eq_true_eq, true_and]; omega)) (by first | assumption | (rw [hf]; rfl) | exact rowsN_map _ _ _ | exact rowsM_map _ _ _ | exact rowsF_map _ _ _ | exact rowsN_map _ _ | exact rowsM_map _ _ | exact rowsN_inn _ _ | exact rowsM_inn _ _ | rfl | (rw [List.map_map, List.map_map]; rfl) | (simp only [hcl, roomOk, List.length_map, List.length_cons, List.length_nil, Bool.and_eq_true, decide_eq_true_eq, true_and]; omega)))
  have hl2 := (@nm2_cw (s) (nm) (x) (a) (b) (c) (d) (n) (q) (rowsN nm s.classes) (rowsM nm s.honours) (s.fees) (l2) (by first | assumption | (rw [hf]; rfl) | exact rowsN_map _ _ _ | exact rowsM_map _ _ _ | exact rowsF_map _ _ _ | exact rowsN_map _ _ | exact rowsM_map _ _ | exact rowsN_inn _ _ | exact rowsM_inn _ _ | rfl | (rw [List.map_map, List.map_map]; rfl) | (simp only [hcl, roomOk, List.length_map, List.length_cons, List.length_nil, Bool.and_eq_true, decide_eq_true_eq, true_and]; omega)) (by first | assumption | (rw [hf]; rfl) | exact rowsN_map _ _ _ | exact rowsM_map _ _ _ | exact rowsF_map _ _ _ | exact rowsN_map _ _ | exact rowsM_map _ _ | exact rowsN_inn _ _ | exact rowsM_inn _ _ | rfl | (rw [List.map_map, List.map_map]; rfl) | (simp only [hcl, roomOk, List.length_map, List.length_cons, List.length_nil, Bool.and_eq_true, decide_eq_true_eq, true_and]; omega)) (by first | assumption | (rw [hf]; rfl) | exact rowsN_map _ _ _ | exact rowsM_map _ _ _ | exact rowsF_map _ _ _ | exact rowsN_map _ _ | exact rowsM_map _ _ | exact rowsN_inn _ _ | exact rowsM_inn _ _ | rfl | (rw [List.map_map, List.map_map]; rfl) | (simp only [hcl, roomOk, List.length_map, List.length_cons, List.length_nil, Bool.and_eq_true, decide_eq_true_eq, true_and]; omega)) (by first | assumption | (rw [hf]; rfl) | exact rowsN_map _ _ _ | exact rowsM_map _ _ _ | exact rowsF_map _ _ _ | exact rowsN_map _ _ | exact rowsM_map _ _ | exact rowsN_inn _ _ | exact rowsM_inn _ _ | rfl | (rw [List.map_map, List.map_map]; rfl) | (simp only [hcl, roomOk, List.length_map, List.length_cons, List.length_nil, Bool.and_eq_true, decide_eq_true_eq, true_and]; omega)))
  exact Ev.castH (Ev.sym0 (P := Tryz.prog) (Γ := Γ0) (f := 12) (args := [D.agg (Sys.cells s), strD nm, D.agg [int a, int b, int c, int d], int x, D.agg [int n, int q]]) (d := bool ((ofR s s.classes x n q).fst == (ofR { classes := List.map (reN nm) s.classes, fees := List.map (reF nm) s.fees, honours := List.map (reM nm) s.honours, clauses := [vi a, vi b, vi c, vi d] :: s.clauses } (List.map (reN nm) s.classes) x n q).fst && (ofR s s.classes x n q).snd == (ofR { classes := List.map (reN nm) s.classes, fees := List.map (reF nm) s.fees, honours := List.map (reM nm) s.honours, clauses := [vi a, vi b, vi c, vi d] :: s.clauses } (List.map (reN nm) s.classes) x n q).snd && (ofR s s.honours x n q).fst == (ofR { classes := List.map (reN nm) s.classes, fees := List.map (reF nm) s.fees, honours := List.map (reM nm) s.honours, clauses := [vi a, vi b, vi c, vi d] :: s.clauses } (List.map (reM nm) s.honours) x n q).fst && (ofR s s.honours x n q).snd == (ofR { classes := List.map (reN nm) s.classes, fees := List.map (reF nm) s.fees, honours := List.map (reM nm) s.honours, clauses := [vi a, vi b, vi c, vi d] :: s.clauses } (List.map (reM nm) s.honours) x n q).snd && (feeR s x).fst == (feeR { classes := List.map (reN nm) s.classes, fees := List.map (reF nm) s.fees, honours := List.map (reM nm) s.honours, clauses := [vi a, vi b, vi c, vi d] :: s.clauses } x).fst && (feeR s x).snd == (feeR { classes := List.map (reN nm) s.classes, fees := List.map (reF nm) s.fees, honours := List.map (reM nm) s.honours, clauses := [vi a, vi b, vi c, vi d] :: s.clauses } x).snd && errS s == errS { classes := List.map (reN nm) s.classes, fees := List.map (reF nm) s.fees, honours := List.map (reM nm) s.honours, clauses := [vi a, vi b, vi c, vi d] :: s.clauses })) pok (φ := [Ev Tryz.prog Γ0 35 [] (names1_ev_x1 s a b c d n q) (bool true) (names1_ev_x1 s a b c d n q), (!true) = false, Ev Tryz.prog Γ0 36 [D.agg [rowsD' (List.map Cls.row s.classes), rowsD' (List.map FeeT.row s.fees), rowsD' (List.map Cls.row s.honours), rowsD' s.clauses]] (names1_ev_x1 s a b c d n q) (bool (few s)) (names1_ev_x1 s a b c d n q), (!few s) = false, (List.all (List.map (fun x => List.map D.p x) s.clauses) (rowOk 4) && roomOk (List.length [[int a, int b, int c, int d]] + List.length (List.map (fun x => List.map D.p x) s.clauses)) 32) = true, [int a, int b, int c, int d] :: List.map (fun x => List.map D.p x) s.clauses = [int a, int b, int c, int d] :: List.map (fun x => List.map D.p x) s.clauses, CW Tryz.prog Γ0 [] false (.loop (sub Tryz.f12 0)) { t := mkT 182 0 [(1, strD nm), (3, int x), (5, .ref (.ptr 0 0)), (9, .ref (.ptr 2 0)), (10, bool false), (11, .ref (.ptr 4 0)), (42, rowsD' (List.map Cls.row s.classes)), (43, int (↑(List.length (List.map Cls.row s.classes)) : Int)), (44, int 0)], h := [.var [rowsD' (List.map Cls.row s.classes), rowsD' (List.map FeeT.row s.fees), rowsD' (List.map Cls.row s.honours), rowsD' s.clauses], .var [int a, int b, int c, int d], .var [int n, int q], .gone, .var [.ref (.vec 5 0), D.p (Dp.v (Value.slice none 0 0)), D.p (Dp.v (Value.slice none 0 0)), rowsD' ([vi a, vi b, vi c, vi d] :: s.clauses)], .vec [] 0 4], m := [] } (Exit.exit 0) { t := mkT 182 0 [(1, strD nm), (3, int x), (5, .ref (.ptr 0 0)), (9, .ref (.ptr 2 0)), (10, bool false), (11, .ref (.ptr 4 0))], h := [.var [rowsD' (List.map Cls.row s.classes), rowsD' (List.map FeeT.row s.fees), rowsD' (List.map Cls.row s.honours), rowsD' s.clauses], .var [int a, int b, int c, int d], .var [int n, int q], .gone, .var [.ref (.vec 5 0), D.p (Dp.v (Value.slice none 0 0)), D.p (Dp.v (Value.slice none 0 0)), rowsD' ([vi a, vi b, vi c, vi d] :: s.clauses)], .vec (rowsN nm s.classes) 0 4], m := [] }, CW Tryz.prog Γ0 [] false (.loop (sub Tryz.f12 1)) { t := mkT 182 0 [(1, strD nm), (3, int x), (5, .ref (.ptr 0 0)), (9, .ref (.ptr 2 0)), (10, bool false), (11, .ref (.ptr 4 0)), (58, rowsD' (List.map Cls.row s.honours)), (59, int (↑(List.length (List.map Cls.row s.honours)) : Int)), (60, int 0)], h := [.var [rowsD' (List.map Cls.row s.classes), rowsD' (List.map FeeT.row s.fees), rowsD' (List.map Cls.row s.honours), rowsD' s.clauses], .var [int a, int b, int c, int d], .var [int n, int q], .gone, .var [.ref (.vec 5 0), D.p (Dp.v (Value.slice none 0 0)), .ref (.vec 6 0), rowsD' ([vi a, vi b, vi c, vi d] :: s.clauses)], .vec (rowsN nm s.classes) 0 4, .vec [] 0 4], m := [] } (Exit.exit 2) { t := mkT 182 0 [(1, strD nm), (3, int x), (5, .ref (.ptr 0 0)), (9, .ref (.ptr 2 0)), (10, bool false), (11, .ref (.ptr 4 0))], h := [.var [rowsD' (List.map Cls.row s.classes), rowsD' (List.map FeeT.row s.fees), rowsD' (List.map Cls.row s.honours), rowsD' s.clauses], .var [int a, int b, int c, int d], .var [int n, int q], .gone, .var [.ref (.vec 5 0), D.p (Dp.v (Value.slice none 0 0)), .ref (.vec 6 0), rowsD' ([vi a, vi b, vi c, vi d] :: s.clauses)], .vec (rowsN nm s.classes) 0 4, .vec (rowsM nm s.honours) 0 4], m := [] }, CW Tryz.prog Γ0 [] false (.loop (sub Tryz.f12 2)) { t := mkT 182 0 [(1, strD nm), (3, int x), (5, .ref (.ptr 0 0)), (9, .ref (.ptr 2 0)), (10, bool false), (11, .ref (.ptr 4 0)), (77, rowsD' (List.map FeeT.row s.fees)), (78, int (↑(List.length (List.map FeeT.row s.fees)) : Int)), (79, int 0)], h := [.var [rowsD' (List.map Cls.row s.classes), rowsD' (List.map FeeT.row s.fees), rowsD' (List.map Cls.row s.honours), rowsD' s.clauses], .var [int a, int b, int c, int d], .var [int n, int q], .gone, .var [.ref (.vec 5 0), .ref (.vec 7 0), .ref (.vec 6 0), rowsD' ([vi a, vi b, vi c, vi d] :: s.clauses)], .vec (rowsN nm s.classes) 0 4, .vec (rowsM nm s.honours) 0 4, .vec [] 0 2], m := [] } (Exit.exit 4) { t := mkT 182 0 [(1, strD nm), (3, int x), (5, .ref (.ptr 0 0)), (9, .ref (.ptr 2 0)), (10, bool false), (11, .ref (.ptr 4 0))], h := [.var [rowsD' (List.map Cls.row s.classes), rowsD' (List.map FeeT.row s.fees), rowsD' (List.map Cls.row s.honours), rowsD' s.clauses], .var [int a, int b, int c, int d], .var [int n, int q], .gone, .var [.ref (.vec 5 0), .ref (.vec 7 0), .ref (.vec 6 0), rowsD' ([vi a, vi b, vi c, vi d] :: s.clauses)], .vec (rowsN nm s.classes) 0 4, .vec (rowsM nm s.honours) 0 4, .vec (rowsF nm s.fees) 0 2], m := [] }, decide (x < 10000) = false, rowsN nm s.classes = List.map (fun x => List.map D.p x) (List.map Cls.row (List.map (reN nm) s.classes)), List.map (D.mapRL (frzR 5 0 (List.map Cls.row (List.map (reN nm) s.classes)))) (rowsM nm s.honours) = rowsM nm s.honours, List.map (D.mapRL (frzR 5 0 (List.map Cls.row (List.map (reN nm) s.classes)))) (rowsF nm s.fees) = rowsF nm s.fees, rowsM nm s.honours = List.map (fun x => List.map D.p x) (List.map Cls.row (List.map (reM nm) s.honours)), List.map (D.mapRL (frzR 6 0 (List.map Cls.row (List.map (reM nm) s.honours)))) (rowsF nm s.fees) = rowsF nm s.fees, rowsF nm s.fees = List.map (fun x => List.map D.p x) (List.map FeeT.row (List.map (reF nm) s.fees)), Ev Tryz.prog Γ0 37 [D.agg [rowsD' (List.map Cls.row s.classes), rowsD' (List.map FeeT.row s.fees), rowsD' (List.map Cls.row s.honours), rowsD' s.clauses], int x, D.agg [int n, int q]] (names1_ev_x0 s nm a b c d n q) (D.tup [int (ofR s s.classes x n q).fst, int (ofR s s.classes x n q).snd]) (names1_ev_x0 s nm a b c d n q), Ev Tryz.prog Γ0 37 [D.agg [rowsD' (List.map Cls.row (List.map (reN nm) s.classes)), rowsD' (List.map FeeT.row (List.map (reF nm) s.fees)), rowsD' (List.map Cls.row (List.map (reM nm) s.honours)), rowsD' ([vi a, vi b, vi c, vi d] :: s.clauses)], int x, D.agg [int n, int q]] (names1_ev_x0 s nm a b c d n q) (D.tup [int (ofR { classes := List.map (reN nm) s.classes, fees := List.map (reF nm) s.fees, honours := List.map (reM nm) s.honours, clauses := [vi a, vi b, vi c, vi d] :: s.clauses } (List.map (reN nm) s.classes) x n q).fst, int (ofR { classes := List.map (reN nm) s.classes, fees := List.map (reF nm) s.fees, honours := List.map (reM nm) s.honours, clauses := [vi a, vi b, vi c, vi d] :: s.clauses } (List.map (reN nm) s.classes) x n q).snd]) (names1_ev_x0 s nm a b c d n q), Ev Tryz.prog Γ0 39 [D.agg [rowsD' (List.map Cls.row s.classes), rowsD' (List.map FeeT.row s.fees), rowsD' (List.map Cls.row s.honours), rowsD' s.clauses], int x, D.agg [int n, int q]] (names1_ev_x0 s nm a b c d n q) (D.tup [int (ofR s s.honours x n q).fst, int (ofR s s.honours x n q).snd]) (names1_ev_x0 s nm a b c d n q), Ev Tryz.prog Γ0 39 [D.agg [rowsD' (List.map Cls.row (List.map (reN nm) s.classes)), rowsD' (List.map FeeT.row (List.map (reF nm) s.fees)), rowsD' (List.map Cls.row (List.map (reM nm) s.honours)), rowsD' ([vi a, vi b, vi c, vi d] :: s.clauses)], int x, D.agg [int n, int q]] (names1_ev_x0 s nm a b c d n q) (D.tup [int (ofR { classes := List.map (reN nm) s.classes, fees := List.map (reF nm) s.fees, honours := List.map (reM nm) s.honours, clauses := [vi a, vi b, vi c, vi d] :: s.clauses } (List.map (reM nm) s.honours) x n q).fst, int (ofR { classes := List.map (reN nm) s.classes, fees := List.map (reF nm) s.fees, honours := List.map (reM nm) s.honours, clauses := [vi a, vi b, vi c, vi d] :: s.clauses } (List.map (reM nm) s.honours) x n q).snd]) (names1_ev_x0 s nm a b c d n q), Ev Tryz.prog Γ0 41 [D.agg [rowsD' (List.map Cls.row s.classes), rowsD' (List.map FeeT.row s.fees), rowsD' (List.map Cls.row s.honours), rowsD' s.clauses], int x] (names1_ev_x0 s nm a b c d n q) (D.tup [int (feeR s x).fst, int (feeR s x).snd]) (names1_ev_x0 s nm a b c d n q), Ev Tryz.prog Γ0 41 [D.agg [rowsD' (List.map Cls.row (List.map (reN nm) s.classes)), rowsD' (List.map FeeT.row (List.map (reF nm) s.fees)), rowsD' (List.map Cls.row (List.map (reM nm) s.honours)), rowsD' ([vi a, vi b, vi c, vi d] :: s.clauses)], int x] (names1_ev_x0 s nm a b c d n q) (D.tup [int (feeR { classes := List.map (reN nm) s.classes, fees := List.map (reF nm) s.fees, honours := List.map (reM nm) s.honours, clauses := [vi a, vi b, vi c, vi d] :: s.clauses } x).fst, int (feeR { classes := List.map (reN nm) s.classes, fees := List.map (reF nm) s.fees, honours := List.map (reM nm) s.honours, clauses := [vi a, vi b, vi c, vi d] :: s.clauses } x).snd]) (names1_ev_x0 s nm a b c d n q), ((ofR s s.classes x n q).fst == (ofR { classes := List.map (reN nm) s.classes, fees := List.map (reF nm) s.fees, honours := List.map (reM nm) s.honours, clauses := [vi a, vi b, vi c, vi d] :: s.clauses } (List.map (reN nm) s.classes) x n q).fst && (ofR s s.classes x n q).snd == (ofR { classes := List.map (reN nm) s.classes, fees := List.map (reF nm) s.fees, honours := List.map (reM nm) s.honours, clauses := [vi a, vi b, vi c, vi d] :: s.clauses } (List.map (reN nm) s.classes) x n q).snd && (ofR s s.honours x n q).fst == (ofR { classes := List.map (reN nm) s.classes, fees := List.map (reF nm) s.fees, honours := List.map (reM nm) s.honours, clauses := [vi a, vi b, vi c, vi d] :: s.clauses } (List.map (reM nm) s.honours) x n q).fst && (ofR s s.honours x n q).snd == (ofR { classes := List.map (reN nm) s.classes, fees := List.map (reF nm) s.fees, honours := List.map (reM nm) s.honours, clauses := [vi a, vi b, vi c, vi d] :: s.clauses } (List.map (reM nm) s.honours) x n q).snd && (feeR s x).fst == (feeR { classes := List.map (reN nm) s.classes, fees := List.map (reF nm) s.fees, honours := List.map (reM nm) s.honours, clauses := [vi a, vi b, vi c, vi d] :: s.clauses } x).fst && (feeR s x).snd == (feeR { classes := List.map (reN nm) s.classes, fees := List.map (reF nm) s.fees, honours := List.map (reM nm) s.honours, clauses := [vi a, vi b, vi c, vi d] :: s.clauses } x).snd) = true → Ev Tryz.prog Γ0 43 [D.agg [rowsD' (List.map Cls.row s.classes), rowsD' (List.map FeeT.row s.fees), rowsD' (List.map Cls.row s.honours), rowsD' s.clauses]] (names1_ev_x0 s nm a b c d n q) (int (errS s)) (names1_ev_x0 s nm a b c d n q), ((ofR s s.classes x n q).fst == (ofR { classes := List.map (reN nm) s.classes, fees := List.map (reF nm) s.fees, honours := List.map (reM nm) s.honours, clauses := [vi a, vi b, vi c, vi d] :: s.clauses } (List.map (reN nm) s.classes) x n q).fst && (ofR s s.classes x n q).snd == (ofR { classes := List.map (reN nm) s.classes, fees := List.map (reF nm) s.fees, honours := List.map (reM nm) s.honours, clauses := [vi a, vi b, vi c, vi d] :: s.clauses } (List.map (reN nm) s.classes) x n q).snd && (ofR s s.honours x n q).fst == (ofR { classes := List.map (reN nm) s.classes, fees := List.map (reF nm) s.fees, honours := List.map (reM nm) s.honours, clauses := [vi a, vi b, vi c, vi d] :: s.clauses } (List.map (reM nm) s.honours) x n q).fst && (ofR s s.honours x n q).snd == (ofR { classes := List.map (reN nm) s.classes, fees := List.map (reF nm) s.fees, honours := List.map (reM nm) s.honours, clauses := [vi a, vi b, vi c, vi d] :: s.clauses } (List.map (reM nm) s.honours) x n q).snd && (feeR s x).fst == (feeR { classes := List.map (reN nm) s.classes, fees := List.map (reF nm) s.fees, honours := List.map (reM nm) s.honours, clauses := [vi a, vi b, vi c, vi d] :: s.clauses } x).fst && (feeR s x).snd == (feeR { classes := List.map (reN nm) s.classes, fees := List.map (reF nm) s.fees, honours := List.map (reM nm) s.honours, clauses := [vi a, vi b, vi c, vi d] :: s.clauses } x).snd) = true → Ev Tryz.prog Γ0 43 [D.agg [rowsD' (List.map Cls.row (List.map (reN nm) s.classes)), rowsD' (List.map FeeT.row (List.map (reF nm) s.fees)), rowsD' (List.map Cls.row (List.map (reM nm) s.honours)), rowsD' ([vi a, vi b, vi c, vi d] :: s.clauses)]] (names1_ev_x0 s nm a b c d n q) (int (errS { classes := List.map (reN nm) s.classes, fees := List.map (reF nm) s.fees, honours := List.map (reM nm) s.honours, clauses := [vi a, vi b, vi c, vi d] :: s.clauses })) (names1_ev_x0 s nm a b c d n q)]) [.val (bool true), .b false, .val (bool (few s)), .b false, .nx 2, .st (.frz 3 (clR a b c d s)), .st (.nilC 4 0 4), .sum [1, 3, 5, 9, 10, 11, 42, 43, 44] (Exit.exit 0) { t := mkT 182 0 [(1, strD nm), (3, int x), (5, .ref (.ptr 0 0)), (9, .ref (.ptr 2 0)), (10, bool false), (11, .ref (.ptr 4 0))], h := [.var [rowsD' (List.map Cls.row s.classes), rowsD' (List.map FeeT.row s.fees), rowsD' (List.map Cls.row s.honours), rowsD' s.clauses], .var [int a, int b, int c, int d], .var [int n, int q], .gone, .var [.ref (.vec 5 0), D.p (Dp.v (Value.slice none 0 0)), D.p (Dp.v (Value.slice none 0 0)), rowsD' ([vi a, vi b, vi c, vi d] :: s.clauses)], .vec (rowsN nm s.classes) 0 4], m := [] }, .nx 1, .st (.nilC 4 2 4), .sum [1, 3, 5, 9, 10, 11, 58, 59, 60] (Exit.exit 2) { t := mkT 182 0 [(1, strD nm), (3, int x), (5, .ref (.ptr 0 0)), (9, .ref (.ptr 2 0)), (10, bool false), (11, .ref (.ptr 4 0))], h := [.var [rowsD' (List.map Cls.row s.classes), rowsD' (List.map FeeT.row s.fees), rowsD' (List.map Cls.row s.honours), rowsD' s.clauses], .var [int a, int b, int c, int d], .var [int n, int q], .gone, .var [.ref (.vec 5 0), D.p (Dp.v (Value.slice none 0 0)), .ref (.vec 6 0), rowsD' ([vi a, vi b, vi c, vi d] :: s.clauses)], .vec (rowsN nm s.classes) 0 4, .vec (rowsM nm s.honours) 0 4], m := [] }, .nx 1, .st (.nilC 4 1 2), .sum [1, 3, 5, 9, 10, 11, 77, 78, 79] (Exit.exit 4) { t := mkT 182 0 [(1, strD nm), (3, int x), (5, .ref (.ptr 0 0)), (9, .ref (.ptr 2 0)), (10, bool false), (11, .ref (.ptr 4 0))], h := [.var [rowsD' (List.map Cls.row s.classes), rowsD' (List.map FeeT.row s.fees), rowsD' (List.map Cls.row s.honours), rowsD' s.clauses], .var [int a, int b, int c, int d], .var [int n, int q], .gone, .var [.ref (.vec 5 0), .ref (.vec 7 0), .ref (.vec 6 0), rowsD' ([vi a, vi b, vi c, vi d] :: s.clauses)], .vec (rowsN nm s.classes) 0 4, .vec (rowsM nm s.honours) 0 4, .vec (rowsF nm s.fees) 0 2], m := [] }, .b false, .st (.frz 5 (List.map Cls.row (List.map (reN nm) s.classes))), .st (.frz 6 (List.map Cls.row (List.map (reM nm) s.honours))), .st (.frz 7 (List.map FeeT.row (List.map (reF nm) s.fees))), .val (D.tup [int (ofR s s.classes x n q).fst, int (ofR s s.classes x n q).snd]), .val (D.tup [int (ofR { classes := List.map (reN nm) s.classes, fees := List.map (reF nm) s.fees, honours := List.map (reM nm) s.honours, clauses := [vi a, vi b, vi c, vi d] :: s.clauses } (List.map (reN nm) s.classes) x n q).fst, int (ofR { classes := List.map (reN nm) s.classes, fees := List.map (reF nm) s.fees, honours := List.map (reM nm) s.honours, clauses := [vi a, vi b, vi c, vi d] :: s.clauses } (List.map (reN nm) s.classes) x n q).snd]), .val (D.tup [int (ofR s s.honours x n q).fst, int (ofR s s.honours x n q).snd]), .val (D.tup [int (ofR { classes := List.map (reN nm) s.classes, fees := List.map (reF nm) s.fees, honours := List.map (reM nm) s.honours, clauses := [vi a, vi b, vi c, vi d] :: s.clauses } (List.map (reM nm) s.honours) x n q).fst, int (ofR { classes := List.map (reN nm) s.classes, fees := List.map (reF nm) s.fees, honours := List.map (reM nm) s.honours, clauses := [vi a, vi b, vi c, vi d] :: s.clauses } (List.map (reM nm) s.honours) x n q).snd]), .val (D.tup [int (feeR s x).fst, int (feeR s x).snd]), .val (D.tup [int (feeR { classes := List.map (reN nm) s.classes, fees := List.map (reF nm) s.fees, honours := List.map (reM nm) s.honours, clauses := [vi a, vi b, vi c, vi d] :: s.clauses } x).fst, int (feeR { classes := List.map (reN nm) s.classes, fees := List.map (reF nm) s.fees, honours := List.map (reM nm) s.honours, clauses := [vi a, vi b, vi c, vi d] :: s.clauses } x).snd]), .val (int (errS s)), .val (int (errS { classes := List.map (reN nm) s.classes, fees := List.map (reF nm) s.fees, honours := List.map (reM nm) s.honours, clauses := [vi a, vi b, vi c, vi d] :: s.clauses }))] (by kernel_rfl) ⟨(@sane21_ev ((names1_ev_x1 s a b c d n q))), rfl, (@few_ev (s) ((names1_ev_x1 s a b c d n q))), (by rw [hf]; rfl), (by first | assumption | (rw [hf]; rfl) | exact rowsN_map _ _ _ | exact rowsM_map _ _ _ | exact rowsF_map _ _ _ | exact rowsN_map _ _ | exact rowsM_map _ _ | exact rowsN_inn _ _ | exact rowsM_inn _ _ | rfl | (rw [List.map_map, List.map_map]; rfl) | (simp only [hcl, roomOk, List.length_map, List.length_cons, List.length_nil, Bool.and_eq_true, decide_eq_true_eq, true_and]; omega)), rfl, hl0, hl1, hl2, hx, (by first | assumption | (rw [hf]; rfl) | exact rowsN_map _ _ _ | exact rowsM_map _ _ _ | exact rowsF_map _ _ _ | exact rowsN_map _ _ | exact rowsM_map _ _ | exact rowsN_inn _ _ | exact rowsM_inn _ _ | rfl | (rw [List.map_map, List.map_map]; rfl) | (simp only [hcl, roomOk, List.length_map, List.length_cons, List.length_nil, Bool.and_eq_true, decide_eq_true_eq, true_and]; omega)), (by first | assumption | (rw [hf]; rfl) | exact rowsN_map _ _ _ | exact rowsM_map _ _ _ | exact rowsF_map _ _ _ | exact rowsN_map _ _ | exact rowsM_map _ _ | exact rowsN_inn _ _ | exact rowsM_inn _ _ | rfl | (rw [List.map_map, List.map_map]; rfl) | (simp only [hcl, roomOk, List.length_map, List.length_cons, List.length_nil, Bool.and_eq_true, decide_eq_true_eq, true_and]; omega)), (by first | assumption | (rw [hf]; rfl) | exact rowsN_map _ _ _ | exact rowsM_map _ _ _ | exact rowsF_map _ _ _ | exact rowsN_map _ _ | exact rowsM_map _ _ | exact rowsN_inn _ _ | exact rowsM_inn _ _ | rfl | (rw [List.map_map, List.map_map]; rfl) | (simp only [hcl, roomOk, List.length_map, List.length_cons, List.length_nil, Bool.and_eq_true, decide_eq_true_eq, true_and]; omega)), (by first | assumption | (rw [hf]; rfl) | exact rowsN_map _ _ _ | exact rowsM_map _ _ _ | exact rowsF_map _ _ _ | exact rowsN_map _ _ | exact rowsM_map _ _ | exact rowsN_inn _ _ | exact rowsM_inn _ _ | rfl | (rw [List.map_map, List.map_map]; rfl) | (simp only [hcl, roomOk, List.length_map, List.length_cons, List.length_nil, Bool.and_eq_true, decide_eq_true_eq, true_and]; omega)), (by first | assumption | (rw [hf]; rfl) | exact rowsN_map _ _ _ | exact rowsM_map _ _ _ | exact rowsF_map _ _ _ | exact rowsN_map _ _ | exact rowsM_map _ _ | exact rowsN_inn _ _ | exact rowsM_inn _ _ | rfl | (rw [List.map_map, List.map_map]; rfl) | (simp only [hcl, roomOk, List.length_map, List.length_cons, List.length_nil, Bool.and_eq_true, decide_eq_true_eq, true_and]; omega)), (by first | assumption | (rw [hf]; rfl) | exact rowsN_map _ _ _ | exact rowsM_map _ _ _ | exact rowsF_map _ _ _ | exact rowsN_map _ _ | exact rowsM_map _ _ | exact rowsN_inn _ _ | exact rowsM_inn _ _ | rfl | (rw [List.map_map, List.map_map]; rfl) | (simp only [hcl, roomOk, List.length_map, List.length_cons, List.length_nil, Bool.and_eq_true, decide_eq_true_eq, true_and]; omega)), (@class_ev (s) (hs) (x) (n) (q) (hn) (hq) ((names1_ev_x0 s nm a b c d n q))), (@class_ev ({ classes := List.map (reN nm) s.classes, fees := List.map (reF nm) s.fees, honours := List.map (reM nm) s.honours, clauses := [vi a, vi b, vi c, vi d] :: s.clauses }) (ht) (x) (n) (q) (hn) (hq) ((names1_ev_x0 s nm a b c d n q))), (@honour_ev (s) (hs) (x) (n) (q) (hn) (hq) ((names1_ev_x0 s nm a b c d n q))), (@honour_ev ({ classes := List.map (reN nm) s.classes, fees := List.map (reF nm) s.fees, honours := List.map (reM nm) s.honours, clauses := [vi a, vi b, vi c, vi d] :: s.clauses }) (ht) (x) (n) (q) (hn) (hq) ((names1_ev_x0 s nm a b c d n q))), (@fee_ev (s) (hs) (x) ((names1_ev_x0 s nm a b c d n q))), (@fee_ev ({ classes := List.map (reN nm) s.classes, fees := List.map (reF nm) s.fees, honours := List.map (reM nm) s.honours, clauses := [vi a, vi b, vi c, vi d] :: s.clauses }) (ht) (x) ((names1_ev_x0 s nm a b c d n q))), (fun hg => (@sCheck_ev (s) (hs) ((names1_ev_x0 s nm a b c d n q)))), (fun hg => (@sCheck_ev ({ classes := List.map (reN nm) s.classes, fees := List.map (reF nm) s.fees, honours := List.map (reM nm) s.honours, clauses := [vi a, vi b, vi c, vi d] :: s.clauses }) (ht) ((names1_ev_x0 s nm a b c d n q)))), trivial⟩ rfl rfl h) (by rfl) (by rfl)


abbrev names2_ev_x0 (s : Sys) (nm : ByteArray) (a : Int) (b : Int) (c : Int) (d : Int) (n : Int) (q : Int) : List Blk := [.var [rowsD' (List.map Cls.row s.classes), rowsD' (List.map FeeT.row s.fees), rowsD' (List.map Cls.row s.honours), rowsD' s.clauses], .var [int a, int b, int c, int d], .var [int n, int q], .gone, .var [rowsD' (List.map Cls.row (List.map (reN nm) s.classes ++ [xC])), rowsD' (List.map FeeT.row (List.map (reF nm) s.fees ++ [xF])), rowsD' (List.map Cls.row (List.map (reM nm) s.honours)), rowsD' ([vi a, vi b, vi c, vi d] :: s.clauses)], .gone, .gone, .gone, .vec [[strD { data := #[] }, int 10000, int 0, int 1]] 0 4, .vec [[strD { data := #[] }, int 10000]] 0 2]
abbrev names2_ev_x1 (s : Sys) (a : Int) (b : Int) (c : Int) (d : Int) (n : Int) (q : Int) : List Blk := [.var [rowsD' (List.map Cls.row s.classes), rowsD' (List.map FeeT.row s.fees), rowsD' (List.map Cls.row s.honours), rowsD' s.clauses], .var [int a, int b, int c, int d], .var [int n, int q]]
theorem names2_ev {s : Vi.Sys} {nm : ByteArray} {a b c d x n q : Int} (h : List Blk) (hf : few s = true) (hs : s.ok) (ht : (sysX s nm a b c d).ok) (hn : I64 n) (hq : I64 q) (l0 : s.classes.length ≤ 100) (l1 : s.honours.length ≤ 100) (l2 : s.fees.length ≤ 100) (l3 : s.clauses.length ≤ 100)
    (hcl : (s.clauses.map (fun r => r.map D.p)).all (rowOk 4) = true) (hz : ∀ k ∈ s.honours, k.name.size + nm.size ≤ 9223372036854775807) (hx : decide (x < 10000) = true) : (Ev Tryz.prog Γ0 12 [.agg s.cells, strD nm, .agg [int a, int b, int c, int d], int x, .agg [int n, int q]] h (bool (namesP s (sysX s nm a b c d) x n q)) h) := by
  have hl0 := (@nm0_cw (s) (nm) (x) (a) (b) (c) (d) (n) (q) (s.classes) (l0))
  have hl1 := (@nm1_cw (s) (nm) (x) (a) (b) (c) (d) (n) (q) (rowsN nm s.classes) (s.honours) (l1) (hz) (by first | assumption | (rw [hf]; rfl) | exact rowsN_map _ _ _ | exact rowsM_map _ _ _ | exact rowsF_map _ _ _ | exact rowsN_map _ _ | exact rowsM_map _ _ | exact rowsN_inn _ _ | exact rowsM_inn _ _ | rfl | (rw [List.map_map, List.map_map]; rfl) | (simp only [hcl, roomOk, List.length_map, List.length_cons, List.length_nil, Bool.and_eq_true, decide_eq_true_eq, true_and]; omega) | (rw [List.map_append, rowsF_map]; rfl) | (rw [List.map_append, List.map_append, List.map_map, List.map_map]; rfl) | (simp [rowOk, D.one, Value.oneCell', roomOk]; omega)) (by first | assumption | (rw [hf]; rfl) | exact rowsN_map _ _ _ | exact rowsM_map _ _ _ | exact rowsF_map _ _ _ | exact rowsN_map _ _ | exact rowsM_map _ _ | exact rowsN_inn _ _ | exact rowsM_inn _ _ | rfl | (rw [List.map_map, List.map_map]; rfl) | (simp only [hcl, roomOk, List.length_map, List.length_cons, List.length_nil, Bool.and_eq_true, decide_eq_true_eq, true_and]; omega) | (rw [List.map_append, rowsF_map]; rfl) | (rw [List.map_append, List.map_append, List.map_map, List.map_map]; rfl) | (simp [rowOk, D.one, Value.oneCell', roomOk]; omega)))
  have hl2 := (@nm2_cw (s) (nm) (x) (a) (b) (c) (d) (n) (q) (rowsN nm s.classes) (rowsM nm s.honours) (s.fees) (l2) (by first | assumption | (rw [hf]; rfl) | exact rowsN_map _ _ _ | exact rowsM_map _ _ _ | exact rowsF_map _ _ _ | exact rowsN_map _ _ | exact rowsM_map _ _ | exact rowsN_inn _ _ | exact rowsM_inn _ _ | rfl | (rw [List.map_map, List.map_map]; rfl) | (simp only [hcl, roomOk, List.length_map, List.length_cons, List.length_nil, Bool.and_eq_true, decide_eq_true_eq, true_and]; omega) | (rw [List.map_append, rowsF_map]; rfl) | (rw [List.map_append, List.map_append, List.map_map, List.map_map]; rfl) | (simp [rowOk, D.one, Value.oneCell', roomOk]; omega)) (by first | assumption | (rw [hf]; rfl) | exact rowsN_map _ _ _ | exact rowsM_map _ _ _ | exact rowsF_map _ _ _ | exact rowsN_map _ _ | exact rowsM_map _ _ | exact rowsN_inn _ _ | exact rowsM_inn _ _ | rfl | (rw [List.map_map, List.map_map]; rfl) | (simp only [hcl, roomOk, List.length_map, List.length_cons, List.length_nil, Bool.and_eq_true, decide_eq_true_eq, true_and]; omega) | (rw [List.map_append, rowsF_map]; rfl) | (rw [List.map_append, List.map_append, List.map_map, List.map_map]; rfl) | (simp [rowOk, D.one, Value.oneCell', roomOk]; omega)) (by first | assumption | (rw [hf]; rfl) | exact rowsN_map _ _ _ | exact rowsM_map _ _ _ | exact rowsF_map _ _ _ | exact rowsN_map _ _ | exact rowsM_map _ _ | exact rowsN_inn _ _ | exact rowsM_inn _ _ | rfl | (rw [List.map_map, List.map_map]; rfl) | (simp only [hcl, roomOk, List.length_map, List.length_cons, List.length_nil, Bool.and_eq_true, decide_eq_true_eq, true_and]; omega) | (rw [List.map_append, rowsF_map]; rfl) | (rw [List.map_append, List.map_append, List.map_map, List.map_map]; rfl) | (simp [rowOk, D.one, Value.oneCell', roomOk]; omega)) (by first | assumption | (rw [hf]; rfl) | exact rowsN_map _ _ _ | exact rowsM_map _ _ _ | exact rowsF_map _ _ _ | exact rowsN_map _ _ | exact rowsM_map _ _ | exact rowsN_inn _ _ | exact rowsM_inn _ _ | rfl | (rw [List.map_map, List.map_map]; rfl) | (simp only [hcl, roomOk, List.length_map, List.length_cons, List.length_nil, Bool.and_eq_true, decide_eq_true_eq, true_and]; omega) | (rw [List.map_append, rowsF_map]; rfl) | (rw [List.map_append, List.map_append, List.map_map, List.map_map]; rfl) | (simp [rowOk, D.one, Value.oneCell', roomOk]; omega)))
  exact Ev.castH (Ev.sym0 (P := Tryz.prog) (Γ := Γ0) (f := 12) (args := [D.agg (Sys.cells s), strD nm, D.agg [int a, int b, int c, int d], int x, D.agg [int n, int q]]) (d := bool ((ofR s s.classes x n q).fst == (ofR { classes := List.map (reN nm) s.classes ++ [xC], fees := List.map (reF nm) s.fees ++ [xF], honours := List.map (reM nm) s.honours, clauses := [vi a, vi b, vi c, vi d] :: s.clauses } (List.map (reN nm) s.classes ++ [xC]) x n q).fst && (ofR s s.classes x n q).snd == (ofR { classes := List.map (reN nm) s.classes ++ [xC], fees := List.map (reF nm) s.fees ++ [xF], honours := List.map (reM nm) s.honours, clauses := [vi a, vi b, vi c, vi d] :: s.clauses } (List.map (reN nm) s.classes ++ [xC]) x n q).snd && (ofR s s.honours x n q).fst == (ofR { classes := List.map (reN nm) s.classes ++ [xC], fees := List.map (reF nm) s.fees ++ [xF], honours := List.map (reM nm) s.honours, clauses := [vi a, vi b, vi c, vi d] :: s.clauses } (List.map (reM nm) s.honours) x n q).fst && (ofR s s.honours x n q).snd == (ofR { classes := List.map (reN nm) s.classes ++ [xC], fees := List.map (reF nm) s.fees ++ [xF], honours := List.map (reM nm) s.honours, clauses := [vi a, vi b, vi c, vi d] :: s.clauses } (List.map (reM nm) s.honours) x n q).snd && (feeR s x).fst == (feeR { classes := List.map (reN nm) s.classes ++ [xC], fees := List.map (reF nm) s.fees ++ [xF], honours := List.map (reM nm) s.honours, clauses := [vi a, vi b, vi c, vi d] :: s.clauses } x).fst && (feeR s x).snd == (feeR { classes := List.map (reN nm) s.classes ++ [xC], fees := List.map (reF nm) s.fees ++ [xF], honours := List.map (reM nm) s.honours, clauses := [vi a, vi b, vi c, vi d] :: s.clauses } x).snd && errS s == errS { classes := List.map (reN nm) s.classes ++ [xC], fees := List.map (reF nm) s.fees ++ [xF], honours := List.map (reM nm) s.honours, clauses := [vi a, vi b, vi c, vi d] :: s.clauses })) pok (φ := [Ev Tryz.prog Γ0 35 [] (names2_ev_x1 s a b c d n q) (bool true) (names2_ev_x1 s a b c d n q), (!true) = false, Ev Tryz.prog Γ0 36 [D.agg [rowsD' (List.map Cls.row s.classes), rowsD' (List.map FeeT.row s.fees), rowsD' (List.map Cls.row s.honours), rowsD' s.clauses]] (names2_ev_x1 s a b c d n q) (bool (few s)) (names2_ev_x1 s a b c d n q), (!few s) = false, (List.all (List.map (fun x => List.map D.p x) s.clauses) (rowOk 4) && roomOk (List.length [[int a, int b, int c, int d]] + List.length (List.map (fun x => List.map D.p x) s.clauses)) 32) = true, [int a, int b, int c, int d] :: List.map (fun x => List.map D.p x) s.clauses = [int a, int b, int c, int d] :: List.map (fun x => List.map D.p x) s.clauses, CW Tryz.prog Γ0 [] false (.loop (sub Tryz.f12 0)) { t := mkT 182 0 [(1, strD nm), (3, int x), (5, .ref (.ptr 0 0)), (9, .ref (.ptr 2 0)), (10, bool false), (11, .ref (.ptr 4 0)), (42, rowsD' (List.map Cls.row s.classes)), (43, int (↑(List.length (List.map Cls.row s.classes)) : Int)), (44, int 0)], h := [.var [rowsD' (List.map Cls.row s.classes), rowsD' (List.map FeeT.row s.fees), rowsD' (List.map Cls.row s.honours), rowsD' s.clauses], .var [int a, int b, int c, int d], .var [int n, int q], .gone, .var [.ref (.vec 5 0), D.p (Dp.v (Value.slice none 0 0)), D.p (Dp.v (Value.slice none 0 0)), rowsD' ([vi a, vi b, vi c, vi d] :: s.clauses)], .vec [] 0 4], m := [] } (Exit.exit 0) { t := mkT 182 0 [(1, strD nm), (3, int x), (5, .ref (.ptr 0 0)), (9, .ref (.ptr 2 0)), (10, bool false), (11, .ref (.ptr 4 0))], h := [.var [rowsD' (List.map Cls.row s.classes), rowsD' (List.map FeeT.row s.fees), rowsD' (List.map Cls.row s.honours), rowsD' s.clauses], .var [int a, int b, int c, int d], .var [int n, int q], .gone, .var [.ref (.vec 5 0), D.p (Dp.v (Value.slice none 0 0)), D.p (Dp.v (Value.slice none 0 0)), rowsD' ([vi a, vi b, vi c, vi d] :: s.clauses)], .vec (rowsN nm s.classes) 0 4], m := [] }, CW Tryz.prog Γ0 [] false (.loop (sub Tryz.f12 1)) { t := mkT 182 0 [(1, strD nm), (3, int x), (5, .ref (.ptr 0 0)), (9, .ref (.ptr 2 0)), (10, bool false), (11, .ref (.ptr 4 0)), (58, rowsD' (List.map Cls.row s.honours)), (59, int (↑(List.length (List.map Cls.row s.honours)) : Int)), (60, int 0)], h := [.var [rowsD' (List.map Cls.row s.classes), rowsD' (List.map FeeT.row s.fees), rowsD' (List.map Cls.row s.honours), rowsD' s.clauses], .var [int a, int b, int c, int d], .var [int n, int q], .gone, .var [.ref (.vec 5 0), D.p (Dp.v (Value.slice none 0 0)), .ref (.vec 6 0), rowsD' ([vi a, vi b, vi c, vi d] :: s.clauses)], .vec (rowsN nm s.classes) 0 4, .vec [] 0 4], m := [] } (Exit.exit 2) { t := mkT 182 0 [(1, strD nm), (3, int x), (5, .ref (.ptr 0 0)), (9, .ref (.ptr 2 0)), (10, bool false), (11, .ref (.ptr 4 0))], h := [.var [rowsD' (List.map Cls.row s.classes), rowsD' (List.map FeeT.row s.fees), rowsD' (List.map Cls.row s.honours), rowsD' s.clauses], .var [int a, int b, int c, int d], .var [int n, int q], .gone, .var [.ref (.vec 5 0), D.p (Dp.v (Value.slice none 0 0)), .ref (.vec 6 0), rowsD' ([vi a, vi b, vi c, vi d] :: s.clauses)], .vec (rowsN nm s.classes) 0 4, .vec (rowsM nm s.honours) 0 4], m := [] }, CW Tryz.prog Γ0 [] false (.loop (sub Tryz.f12 2)) { t := mkT 182 0 [(1, strD nm), (3, int x), (5, .ref (.ptr 0 0)), (9, .ref (.ptr 2 0)), (10, bool false), (11, .ref (.ptr 4 0)), (77, rowsD' (List.map FeeT.row s.fees)), (78, int (↑(List.length (List.map FeeT.row s.fees)) : Int)), (79, int 0)], h := [.var [rowsD' (List.map Cls.row s.classes), rowsD' (List.map FeeT.row s.fees), rowsD' (List.map Cls.row s.honours), rowsD' s.clauses], .var [int a, int b, int c, int d], .var [int n, int q], .gone, .var [.ref (.vec 5 0), .ref (.vec 7 0), .ref (.vec 6 0), rowsD' ([vi a, vi b, vi c, vi d] :: s.clauses)], .vec (rowsN nm s.classes) 0 4, .vec (rowsM nm s.honours) 0 4, .vec [] 0 2], m := [] } (Exit.exit 4) { t := mkT 182 0 [(1, strD nm), (3, int x), (5, .ref (.ptr 0 0)), (9, .ref (.ptr 2 0)), (10, bool false), (11, .ref (.ptr 4 0))], h := [.var [rowsD' (List.map Cls.row s.classes), rowsD' (List.map FeeT.row s.fees), rowsD' (List.map Cls.row s.honours), rowsD' s.clauses], .var [int a, int b, int c, int d], .var [int n, int q], .gone, .var [.ref (.vec 5 0), .ref (.vec 7 0), .ref (.vec 6 0), rowsD' ([vi a, vi b, vi c, vi d] :: s.clauses)], .vec (rowsN nm s.classes) 0 4, .vec (rowsM nm s.honours) 0 4, .vec (rowsF nm s.fees) 0 2], m := [] }, decide (x < 10000) = true, (List.all [[strD { data := #[] }, int 10000, int 0, int 1]] (rowOk 4) && roomOk (List.length (rowsN nm s.classes) + List.length [[strD { data := #[] }, int 10000, int 0, int 1]]) 40) = true, (List.all [[strD { data := #[] }, int 10000]] (rowOk 2) && roomOk (List.length (rowsF nm s.fees) + List.length [[strD { data := #[] }, int 10000]]) 24) = true, rowsN nm s.classes ++ [[strD { data := #[] }, int 10000, int 0, int 1]] = List.map (fun x => List.map D.p x) (List.map Cls.row (List.map (reN nm) s.classes ++ [xC])), List.map (D.mapRL (frzR 5 1 (List.map Cls.row (List.map (reN nm) s.classes ++ [xC])))) (rowsM nm s.honours) = rowsM nm s.honours, List.map (D.mapRL (frzR 5 1 (List.map Cls.row (List.map (reN nm) s.classes ++ [xC])))) (rowsF nm s.fees ++ [[strD { data := #[] }, int 10000]]) = rowsF nm s.fees ++ [[strD { data := #[] }, int 10000]], [[strD { data := #[] }, int 10000, int 0, int 1]] = [[strD { data := #[] }, int 10000, int 0, int 1]], [[strD { data := #[] }, int 10000]] = [[strD { data := #[] }, int 10000]], rowsM nm s.honours = List.map (fun x => List.map D.p x) (List.map Cls.row (List.map (reM nm) s.honours)), List.map (D.mapRL (frzR 6 0 (List.map Cls.row (List.map (reM nm) s.honours)))) (rowsF nm s.fees ++ [[strD { data := #[] }, int 10000]]) = rowsF nm s.fees ++ [[strD { data := #[] }, int 10000]], [[strD { data := #[] }, int 10000, int 0, int 1]] = [[strD { data := #[] }, int 10000, int 0, int 1]], [[strD { data := #[] }, int 10000]] = [[strD { data := #[] }, int 10000]], rowsF nm s.fees ++ [[strD { data := #[] }, int 10000]] = List.map (fun x => List.map D.p x) (List.map FeeT.row (List.map (reF nm) s.fees ++ [xF])), [[strD { data := #[] }, int 10000, int 0, int 1]] = [[strD { data := #[] }, int 10000, int 0, int 1]], [[strD { data := #[] }, int 10000]] = [[strD { data := #[] }, int 10000]], Ev Tryz.prog Γ0 37 [D.agg [rowsD' (List.map Cls.row s.classes), rowsD' (List.map FeeT.row s.fees), rowsD' (List.map Cls.row s.honours), rowsD' s.clauses], int x, D.agg [int n, int q]] (names2_ev_x0 s nm a b c d n q) (D.tup [int (ofR s s.classes x n q).fst, int (ofR s s.classes x n q).snd]) (names2_ev_x0 s nm a b c d n q), Ev Tryz.prog Γ0 37 [D.agg [rowsD' (List.map Cls.row (List.map (reN nm) s.classes ++ [xC])), rowsD' (List.map FeeT.row (List.map (reF nm) s.fees ++ [xF])), rowsD' (List.map Cls.row (List.map (reM nm) s.honours)), rowsD' ([vi a, vi b, vi c, vi d] :: s.clauses)], int x, D.agg [int n, int q]] (names2_ev_x0 s nm a b c d n q) (D.tup [int (ofR { classes := List.map (reN nm) s.classes ++ [xC], fees := List.map (reF nm) s.fees ++ [xF], honours := List.map (reM nm) s.honours, clauses := [vi a, vi b, vi c, vi d] :: s.clauses } (List.map (reN nm) s.classes ++ [xC]) x n q).fst, int (ofR { classes := List.map (reN nm) s.classes ++ [xC], fees := List.map (reF nm) s.fees ++ [xF], honours := List.map (reM nm) s.honours, clauses := [vi a, vi b, vi c, vi d] :: s.clauses } (List.map (reN nm) s.classes ++ [xC]) x n q).snd]) (names2_ev_x0 s nm a b c d n q), Ev Tryz.prog Γ0 39 [D.agg [rowsD' (List.map Cls.row s.classes), rowsD' (List.map FeeT.row s.fees), rowsD' (List.map Cls.row s.honours), rowsD' s.clauses], int x, D.agg [int n, int q]] (names2_ev_x0 s nm a b c d n q) (D.tup [int (ofR s s.honours x n q).fst, int (ofR s s.honours x n q).snd]) (names2_ev_x0 s nm a b c d n q), Ev Tryz.prog Γ0 39 [D.agg [rowsD' (List.map Cls.row (List.map (reN nm) s.classes ++ [xC])), rowsD' (List.map FeeT.row (List.map (reF nm) s.fees ++ [xF])), rowsD' (List.map Cls.row (List.map (reM nm) s.honours)), rowsD' ([vi a, vi b, vi c, vi d] :: s.clauses)], int x, D.agg [int n, int q]] (names2_ev_x0 s nm a b c d n q) (D.tup [int (ofR { classes := List.map (reN nm) s.classes ++ [xC], fees := List.map (reF nm) s.fees ++ [xF], honours := List.map (reM nm) s.honours, clauses := [vi a, vi b, vi c, vi d] :: s.clauses } (List.map (reM nm) s.honours) x n q).fst, int (ofR { classes := List.map (reN nm) s.classes ++ [xC], fees := List.map (reF nm) s.fees ++ [xF], honours := List.map (reM nm) s.honours, clauses := [vi a, vi b, vi c, vi d] :: s.clauses } (List.map (reM nm) s.honours) x n q).snd]) (names2_ev_x0 s nm a b c d n q), Ev Tryz.prog Γ0 41 [D.agg [rowsD' (List.map Cls.row s.classes), rowsD' (List.map FeeT.row s.fees), rowsD' (List.map Cls.row s.honours), rowsD' s.clauses], int x] (names2_ev_x0 s nm a b c d n q) (D.tup [int (feeR s x).fst, int (feeR s x).snd]) (names2_ev_x0 s nm a b c d n q), Ev Tryz.prog Γ0 41 [D.agg [rowsD' (List.map Cls.row (List.map (reN nm) s.classes ++ [xC])), rowsD' (List.map FeeT.row (List.map (reF nm) s.fees ++ [xF])), rowsD' (List.map Cls.row (List.map (reM nm) s.honours)), rowsD' ([vi a, vi b, vi c, vi d] :: s.clauses)], int x] (names2_ev_x0 s nm a b c d n q) (D.tup [int (feeR { classes := List.map (reN nm) s.classes ++ [xC], fees := List.map (reF nm) s.fees ++ [xF], honours := List.map (reM nm) s.honours, clauses := [vi a, vi b, vi c, vi d] :: s.clauses } x).fst, int (feeR { classes := List.map (reN nm) s.classes ++ [xC], fees := List.map (reF nm) s.fees ++ [xF], honours := List.map (reM nm) s.honours, clauses := [vi a, vi b, vi c, vi d] :: s.clauses } x).snd]) (names2_ev_x0 s nm a b c d n q), ((ofR s s.classes x n q).fst == (ofR { classes := List.map (reN nm) s.classes ++ [xC], fees := List.map (reF nm) s.fees ++ [xF], honours := List.map (reM nm) s.honours, clauses := [vi a, vi b, vi c, vi d] :: s.clauses } (List.map (reN nm) s.classes ++ [xC]) x n q).fst && (ofR s s.classes x n q).snd == (ofR { classes := List.map (reN nm) s.classes ++ [xC], fees := List.map (reF nm) s.fees ++ [xF], honours := List.map (reM nm) s.honours, clauses := [vi a, vi b, vi c, vi d] :: s.clauses } (List.map (reN nm) s.classes ++ [xC]) x n q).snd && (ofR s s.honours x n q).fst == (ofR { classes := List.map (reN nm) s.classes ++ [xC], fees := List.map (reF nm) s.fees ++ [xF], honours := List.map (reM nm) s.honours, clauses := [vi a, vi b, vi c, vi d] :: s.clauses } (List.map (reM nm) s.honours) x n q).fst && (ofR s s.honours x n q).snd == (ofR { classes := List.map (reN nm) s.classes ++ [xC], fees := List.map (reF nm) s.fees ++ [xF], honours := List.map (reM nm) s.honours, clauses := [vi a, vi b, vi c, vi d] :: s.clauses } (List.map (reM nm) s.honours) x n q).snd && (feeR s x).fst == (feeR { classes := List.map (reN nm) s.classes ++ [xC], fees := List.map (reF nm) s.fees ++ [xF], honours := List.map (reM nm) s.honours, clauses := [vi a, vi b, vi c, vi d] :: s.clauses } x).fst && (feeR s x).snd == (feeR { classes := List.map (reN nm) s.classes ++ [xC], fees := List.map (reF nm) s.fees ++ [xF], honours := List.map (reM nm) s.honours, clauses := [vi a, vi b, vi c, vi d] :: s.clauses } x).snd) = true → Ev Tryz.prog Γ0 43 [D.agg [rowsD' (List.map Cls.row s.classes), rowsD' (List.map FeeT.row s.fees), rowsD' (List.map Cls.row s.honours), rowsD' s.clauses]] (names2_ev_x0 s nm a b c d n q) (int (errS s)) (names2_ev_x0 s nm a b c d n q), ((ofR s s.classes x n q).fst == (ofR { classes := List.map (reN nm) s.classes ++ [xC], fees := List.map (reF nm) s.fees ++ [xF], honours := List.map (reM nm) s.honours, clauses := [vi a, vi b, vi c, vi d] :: s.clauses } (List.map (reN nm) s.classes ++ [xC]) x n q).fst && (ofR s s.classes x n q).snd == (ofR { classes := List.map (reN nm) s.classes ++ [xC], fees := List.map (reF nm) s.fees ++ [xF], honours := List.map (reM nm) s.honours, clauses := [vi a, vi b, vi c, vi d] :: s.clauses } (List.map (reN nm) s.classes ++ [xC]) x n q).snd && (ofR s s.honours x n q).fst == (ofR { classes := List.map (reN nm) s.classes ++ [xC], fees := List.map (reF nm) s.fees ++ [xF], honours := List.map (reM nm) s.honours, clauses := [vi a, vi b, vi c, vi d] :: s.clauses } (List.map (reM nm) s.honours) x n q).fst && (ofR s s.honours x n q).snd == (ofR { classes := List.map (reN nm) s.classes ++ [xC], fees := List.map (reF nm) s.fees ++ [xF], honours := List.map (reM nm) s.honours, clauses := [vi a, vi b, vi c, vi d] :: s.clauses } (List.map (reM nm) s.honours) x n q).snd && (feeR s x).fst == (feeR { classes := List.map (reN nm) s.classes ++ [xC], fees := List.map (reF nm) s.fees ++ [xF], honours := List.map (reM nm) s.honours, clauses := [vi a, vi b, vi c, vi d] :: s.clauses } x).fst && (feeR s x).snd == (feeR { classes := List.map (reN nm) s.classes ++ [xC], fees := List.map (reF nm) s.fees ++ [xF], honours := List.map (reM nm) s.honours, clauses := [vi a, vi b, vi c, vi d] :: s.clauses } x).snd) = true → Ev Tryz.prog Γ0 43 [D.agg [rowsD' (List.map Cls.row (List.map (reN nm) s.classes ++ [xC])), rowsD' (List.map FeeT.row (List.map (reF nm) s.fees ++ [xF])), rowsD' (List.map Cls.row (List.map (reM nm) s.honours)), rowsD' ([vi a, vi b, vi c, vi d] :: s.clauses)]] (names2_ev_x0 s nm a b c d n q) (int (errS { classes := List.map (reN nm) s.classes ++ [xC], fees := List.map (reF nm) s.fees ++ [xF], honours := List.map (reM nm) s.honours, clauses := [vi a, vi b, vi c, vi d] :: s.clauses })) (names2_ev_x0 s nm a b c d n q)]) [.val (bool true), .b false, .val (bool (few s)), .b false, .nx 2, .st (.frz 3 (clR a b c d s)), .st (.nilC 4 0 4), .sum [1, 3, 5, 9, 10, 11, 42, 43, 44] (Exit.exit 0) { t := mkT 182 0 [(1, strD nm), (3, int x), (5, .ref (.ptr 0 0)), (9, .ref (.ptr 2 0)), (10, bool false), (11, .ref (.ptr 4 0))], h := [.var [rowsD' (List.map Cls.row s.classes), rowsD' (List.map FeeT.row s.fees), rowsD' (List.map Cls.row s.honours), rowsD' s.clauses], .var [int a, int b, int c, int d], .var [int n, int q], .gone, .var [.ref (.vec 5 0), D.p (Dp.v (Value.slice none 0 0)), D.p (Dp.v (Value.slice none 0 0)), rowsD' ([vi a, vi b, vi c, vi d] :: s.clauses)], .vec (rowsN nm s.classes) 0 4], m := [] }, .nx 1, .st (.nilC 4 2 4), .sum [1, 3, 5, 9, 10, 11, 58, 59, 60] (Exit.exit 2) { t := mkT 182 0 [(1, strD nm), (3, int x), (5, .ref (.ptr 0 0)), (9, .ref (.ptr 2 0)), (10, bool false), (11, .ref (.ptr 4 0))], h := [.var [rowsD' (List.map Cls.row s.classes), rowsD' (List.map FeeT.row s.fees), rowsD' (List.map Cls.row s.honours), rowsD' s.clauses], .var [int a, int b, int c, int d], .var [int n, int q], .gone, .var [.ref (.vec 5 0), D.p (Dp.v (Value.slice none 0 0)), .ref (.vec 6 0), rowsD' ([vi a, vi b, vi c, vi d] :: s.clauses)], .vec (rowsN nm s.classes) 0 4, .vec (rowsM nm s.honours) 0 4], m := [] }, .nx 1, .st (.nilC 4 1 2), .sum [1, 3, 5, 9, 10, 11, 77, 78, 79] (Exit.exit 4) { t := mkT 182 0 [(1, strD nm), (3, int x), (5, .ref (.ptr 0 0)), (9, .ref (.ptr 2 0)), (10, bool false), (11, .ref (.ptr 4 0))], h := [.var [rowsD' (List.map Cls.row s.classes), rowsD' (List.map FeeT.row s.fees), rowsD' (List.map Cls.row s.honours), rowsD' s.clauses], .var [int a, int b, int c, int d], .var [int n, int q], .gone, .var [.ref (.vec 5 0), .ref (.vec 7 0), .ref (.vec 6 0), rowsD' ([vi a, vi b, vi c, vi d] :: s.clauses)], .vec (rowsN nm s.classes) 0 4, .vec (rowsM nm s.honours) 0 4, .vec (rowsF nm s.fees) 0 2], m := [] }, .b true, .nx 2, .st (.frz 5 (List.map Cls.row (List.map (reN nm) s.classes ++ [xC]))), .st (.frz 6 (List.map Cls.row (List.map (reM nm) s.honours))), .st (.frz 7 (List.map FeeT.row (List.map (reF nm) s.fees ++ [xF]))), .val (D.tup [int (ofR s s.classes x n q).fst, int (ofR s s.classes x n q).snd]), .val (D.tup [int (ofR { classes := List.map (reN nm) s.classes ++ [xC], fees := List.map (reF nm) s.fees ++ [xF], honours := List.map (reM nm) s.honours, clauses := [vi a, vi b, vi c, vi d] :: s.clauses } (List.map (reN nm) s.classes ++ [xC]) x n q).fst, int (ofR { classes := List.map (reN nm) s.classes ++ [xC], fees := List.map (reF nm) s.fees ++ [xF], honours := List.map (reM nm) s.honours, clauses := [vi a, vi b, vi c, vi d] :: s.clauses } (List.map (reN nm) s.classes ++ [xC]) x n q).snd]), .val (D.tup [int (ofR s s.honours x n q).fst, int (ofR s s.honours x n q).snd]), .val (D.tup [int (ofR { classes := List.map (reN nm) s.classes ++ [xC], fees := List.map (reF nm) s.fees ++ [xF], honours := List.map (reM nm) s.honours, clauses := [vi a, vi b, vi c, vi d] :: s.clauses } (List.map (reM nm) s.honours) x n q).fst, int (ofR { classes := List.map (reN nm) s.classes ++ [xC], fees := List.map (reF nm) s.fees ++ [xF], honours := List.map (reM nm) s.honours, clauses := [vi a, vi b, vi c, vi d] :: s.clauses } (List.map (reM nm) s.honours) x n q).snd]), .val (D.tup [int (feeR s x).fst, int (feeR s x).snd]), .val (D.tup [int (feeR { classes := List.map (reN nm) s.classes ++ [xC], fees := List.map (reF nm) s.fees ++ [xF], honours := List.map (reM nm) s.honours, clauses := [vi a, vi b, vi c, vi d] :: s.clauses } x).fst, int (feeR { classes := List.map (reN nm) s.classes ++ [xC], fees := List.map (reF nm) s.fees ++ [xF], honours := List.map (reM nm) s.honours, clauses := [vi a, vi b, vi c, vi d] :: s.clauses } x).snd]), .val (int (errS s)), .val (int (errS { classes := List.map (reN nm) s.classes ++ [xC], fees := List.map (reF nm) s.fees ++ [xF], honours := List.map (reM nm) s.honours, clauses := [vi a, vi b, vi c, vi d] :: s.clauses }))] (by kernel_rfl) ⟨(@sane21_ev ((names2_ev_x1 s a b c d n q))), rfl, (@few_ev (s) ((names2_ev_x1 s a b c d n q))), (by rw [hf]; rfl), (by first | assumption | (rw [hf]; rfl) | exact rowsN_map _ _ _ | exact rowsM_map _ _ _ | exact rowsF_map _ _ _ | exact rowsN_map _ _ | exact rowsM_map _ _ | exact rowsN_inn _ _ | exact rowsM_inn _ _ | rfl | (rw [List.map_map, List.map_map]; rfl) | (simp only [hcl, roomOk, List.length_map, List.length_cons, List.length_nil, Bool.and_eq_true, decide_eq_true_eq, true_and]; omega) | (rw [List.map_append, rowsF_map]; rfl) | (rw [List.map_append, List.map_append, List.map_map, List.map_map]; rfl) | (simp [rowOk, D.one, Value.oneCell', roomOk]; omega)), rfl, hl0, hl1, hl2, hx, (by first | assumption | (rw [hf]; rfl) | exact rowsN_map _ _ _ | exact rowsM_map _ _ _ | exact rowsF_map _ _ _ | exact rowsN_map _ _ | exact rowsM_map _ _ | exact rowsN_inn _ _ | exact rowsM_inn _ _ | rfl | (rw [List.map_map, List.map_map]; rfl) | (simp only [hcl, roomOk, List.length_map, List.length_cons, List.length_nil, Bool.and_eq_true, decide_eq_true_eq, true_and]; omega) | (rw [List.map_append, rowsF_map]; rfl) | (rw [List.map_append, List.map_append, List.map_map, List.map_map]; rfl) | (simp [rowOk, D.one, Value.oneCell', roomOk]; omega)), (by first | assumption | (rw [hf]; rfl) | exact rowsN_map _ _ _ | exact rowsM_map _ _ _ | exact rowsF_map _ _ _ | exact rowsN_map _ _ | exact rowsM_map _ _ | exact rowsN_inn _ _ | exact rowsM_inn _ _ | rfl | (rw [List.map_map, List.map_map]; rfl) | (simp only [hcl, roomOk, List.length_map, List.length_cons, List.length_nil, Bool.and_eq_true, decide_eq_true_eq, true_and]; omega) | (rw [List.map_append, rowsF_map]; rfl) | (rw [List.map_append, List.map_append, List.map_map, List.map_map]; rfl) | (simp [rowOk, D.one, Value.oneCell', roomOk]; omega)), (by first | assumption | (rw [hf]; rfl) | exact rowsN_map _ _ _ | exact rowsM_map _ _ _ | exact rowsF_map _ _ _ | exact rowsN_map _ _ | exact rowsM_map _ _ | exact rowsN_inn _ _ | exact rowsM_inn _ _ | rfl | (rw [List.map_map, List.map_map]; rfl) | (simp only [hcl, roomOk, List.length_map, List.length_cons, List.length_nil, Bool.and_eq_true, decide_eq_true_eq, true_and]; omega) | (rw [List.map_append, rowsF_map]; rfl) | (rw [List.map_append, List.map_append, List.map_map, List.map_map]; rfl) | (simp [rowOk, D.one, Value.oneCell', roomOk]; omega)), (by first | assumption | (rw [hf]; rfl) | exact rowsN_map _ _ _ | exact rowsM_map _ _ _ | exact rowsF_map _ _ _ | exact rowsN_map _ _ | exact rowsM_map _ _ | exact rowsN_inn _ _ | exact rowsM_inn _ _ | rfl | (rw [List.map_map, List.map_map]; rfl) | (simp only [hcl, roomOk, List.length_map, List.length_cons, List.length_nil, Bool.and_eq_true, decide_eq_true_eq, true_and]; omega) | (rw [List.map_append, rowsF_map]; rfl) | (rw [List.map_append, List.map_append, List.map_map, List.map_map]; rfl) | (simp [rowOk, D.one, Value.oneCell', roomOk]; omega)), (by first | assumption | (rw [hf]; rfl) | exact rowsN_map _ _ _ | exact rowsM_map _ _ _ | exact rowsF_map _ _ _ | exact rowsN_map _ _ | exact rowsM_map _ _ | exact rowsN_inn _ _ | exact rowsM_inn _ _ | rfl | (rw [List.map_map, List.map_map]; rfl) | (simp only [hcl, roomOk, List.length_map, List.length_cons, List.length_nil, Bool.and_eq_true, decide_eq_true_eq, true_and]; omega) | (rw [List.map_append, rowsF_map]; rfl) | (rw [List.map_append, List.map_append, List.map_map, List.map_map]; rfl) | (simp [rowOk, D.one, Value.oneCell', roomOk]; omega)), rfl, rfl, (by first | assumption | (rw [hf]; rfl) | exact rowsN_map _ _ _ | exact rowsM_map _ _ _ | exact rowsF_map _ _ _ | exact rowsN_map _ _ | exact rowsM_map _ _ | exact rowsN_inn _ _ | exact rowsM_inn _ _ | rfl | (rw [List.map_map, List.map_map]; rfl) | (simp only [hcl, roomOk, List.length_map, List.length_cons, List.length_nil, Bool.and_eq_true, decide_eq_true_eq, true_and]; omega) | (rw [List.map_append, rowsF_map]; rfl) | (rw [List.map_append, List.map_append, List.map_map, List.map_map]; rfl) | (simp [rowOk, D.one, Value.oneCell', roomOk]; omega)), (by first | assumption | (rw [hf]; rfl) | exact rowsN_map _ _ _ | exact rowsM_map _ _ _ | exact rowsF_map _ _ _ | exact rowsN_map _ _ | exact rowsM_map _ _ | exact rowsN_inn _ _ | exact rowsM_inn _ _ | rfl | (rw [List.map_map, List.map_map]; rfl) | (simp only [hcl, roomOk, List.length_map, List.length_cons, List.length_nil, Bool.and_eq_true, decide_eq_true_eq, true_and]; omega) | (rw [List.map_append, rowsF_map]; rfl) | (rw [List.map_append, List.map_append, List.map_map, List.map_map]; rfl) | (simp [rowOk, D.one, Value.oneCell', roomOk]; omega)), rfl, rfl, (by first | assumption | (rw [hf]; rfl) | exact rowsN_map _ _ _ | exact rowsM_map _ _ _ | exact rowsF_map _ _ _ | exact rowsN_map _ _ | exact rowsM_map _ _ | exact rowsN_inn _ _ | exact rowsM_inn _ _ | rfl | (rw [List.map_map, List.map_map]; rfl) | (simp only [hcl, roomOk, List.length_map, List.length_cons, List.length_nil, Bool.and_eq_true, decide_eq_true_eq, true_and]; omega) | (rw [List.map_append, rowsF_map]; rfl) | (rw [List.map_append, List.map_append, List.map_map, List.map_map]; rfl) | (simp [rowOk, D.one, Value.oneCell', roomOk]; omega)), rfl, rfl, (@class_ev (s) (hs) (x) (n) (q) (hn) (hq) ((names2_ev_x0 s nm a b c d n q))), (@class_ev ({ classes := List.map (reN nm) s.classes ++ [xC], fees := List.map (reF nm) s.fees ++ [xF], honours := List.map (reM nm) s.honours, clauses := [vi a, vi b, vi c, vi d] :: s.clauses }) (ht) (x) (n) (q) (hn) (hq) ((names2_ev_x0 s nm a b c d n q))), (@honour_ev (s) (hs) (x) (n) (q) (hn) (hq) ((names2_ev_x0 s nm a b c d n q))), (@honour_ev ({ classes := List.map (reN nm) s.classes ++ [xC], fees := List.map (reF nm) s.fees ++ [xF], honours := List.map (reM nm) s.honours, clauses := [vi a, vi b, vi c, vi d] :: s.clauses }) (ht) (x) (n) (q) (hn) (hq) ((names2_ev_x0 s nm a b c d n q))), (@fee_ev (s) (hs) (x) ((names2_ev_x0 s nm a b c d n q))), (@fee_ev ({ classes := List.map (reN nm) s.classes ++ [xC], fees := List.map (reF nm) s.fees ++ [xF], honours := List.map (reM nm) s.honours, clauses := [vi a, vi b, vi c, vi d] :: s.clauses }) (ht) (x) ((names2_ev_x0 s nm a b c d n q))), (fun hg => (@sCheck_ev (s) (hs) ((names2_ev_x0 s nm a b c d n q)))), (fun hg => (@sCheck_ev ({ classes := List.map (reN nm) s.classes ++ [xC], fees := List.map (reF nm) s.fees ++ [xF], honours := List.map (reM nm) s.honours, clauses := [vi a, vi b, vi c, vi d] :: s.clauses }) (ht) ((names2_ev_x0 s nm a b c d n q)))), trivial⟩ rfl rfl h) (by rfl) (by rfl)

end Go.Vi
open Go Go.Proofs
namespace Go.Vi
set_option maxRecDepth 100000

theorem lastN_map {α β : Type} (f : α → β) (p : β → Bool) (l : List α) : ∀ n, lastN p (l.map f) n = lastN (fun a => p (f a)) l n
  | 0 => rfl
  | n + 1 => by
    unfold lastN
    rw [List.getElem?_map]
    cases l[n]? with
    | none => simpa using lastN_map f p l n
    | some a => simp only [Option.map_some, lastN_map f p l n]
theorem lastIx_map {α β : Type} (f : α → β) (p : β → Bool) (l : List α) : lastIx p (l.map f) = lastIx (fun a => p (f a)) l := by
  unfold lastIx
  rw [lastN_map, List.length_map]
theorem lastN_app {α : Type} (p : α → Bool) (l m : List α) : ∀ n, n ≤ l.length → lastN p (l ++ m) n = lastN p l n
  | 0, _ => rfl
  | n + 1, h => by
    unfold lastN
    rw [List.getElem?_append_left (by omega), lastN_app p l m n (by omega)]
theorem lastIx_app {α : Type} {p : α → Bool} (l : List α) {e : α} (h : p e = false) : lastIx p (l ++ [e]) = lastIx p l := by
  unfold lastIx
  rw [List.length_append, List.length_singleton]
  conv => lhs; unfold lastN
  rw [List.getElem?_append_right (Nat.le_refl _), Nat.sub_self]
  simp only [List.getElem?_cons_zero, h, Bool.false_eq_true, if_false]
  exact lastN_app p l [e] _ (Nat.le_refl _)

theorem wrongV_x : wrongV xC = false := by decide +kernel

theorem same_of {s t : Vi.Sys} {x n q : Int} (he : errS s = errS t) (h1 : lastIx (holdsB x n q) s.classes = lastIx (holdsB x n q) t.classes) (h2 : lastIx (holdsB x n q) s.honours = lastIx (holdsB x n q) t.honours)
    (h3 : lastIx (fun f : FeeT => decide (f.credits ≤ x)) s.fees = lastIx (fun f : FeeT => decide (f.credits ≤ x)) t.fees) : namesP s t x n q = true := by
  have e1 : ofR s s.classes x n q = ofR t t.classes x n q := by unfold ofR; rw [he, h1]
  have e2 : ofR s s.honours x n q = ofR t t.honours x n q := by unfold ofR; rw [he, h2]
  have e3 : feeR s x = feeR t x := by unfold feeR; rw [he, h3]
  unfold namesP
  rw [e1, e2, e3, he]
  simp

theorem names1_true {s : Vi.Sys} (hs : s.ok) {nm : ByteArray} {a b c d : Int} (ht : (sysN s nm a b c d).ok) (x n q : Int) : namesP s (sysN s nm a b c d) x n q = true := by
  refine same_of ?_ ?_ ?_ ?_
  · rw [err_eq hs, err_eq ht]
    unfold errT badT
    simp only [List.any_map]
    rfl
  · rw [lastIx_map]; rfl
  · rw [lastIx_map]; rfl
  · rw [lastIx_map]

theorem names2_true {s : Vi.Sys} (hs : s.ok) {nm : ByteArray} {a b c d : Int} (ht : (sysX s nm a b c d).ok) {x : Int} (n q : Int) (hx : x < 10000) : namesP s (sysX s nm a b c d) x n q = true := by
  refine same_of ?_ ?_ ?_ ?_
  · rw [err_eq hs, err_eq ht]
    unfold errT badT
    simp only [List.any_append, List.any_map, List.any_cons, List.any_nil, wrongV_x, Bool.or_false, show wrongG xF = false from rfl]
    rfl
  · rw [lastIx_app _ (by simp only [holdsB, Bool.and_eq_false_imp]; intro _; simp; omega), lastIx_map]; rfl
  · rw [lastIx_map]; rfl
  · rw [lastIx_app _ (by simp; omega), lastIx_map]

/-- What more is known of a system. -/
structure Sys.more (s : Vi.Sys) : Prop where
  nm : ∀ c ∈ s.honours, c.name.size ≤ 140737488355328
  cl : (s.clauses.map (fun r => r.map D.p)).all (rowOk 4) = true

theorem few_len {s : Vi.Sys} (hs : s.ok) (h : few s = true) : s.classes.length ≤ 100 ∧ s.honours.length ≤ 100 ∧ s.fees.length ≤ 100 ∧ s.clauses.length ≤ 100 := by
  have l1 := hs.lc
  have l2 := hs.lh
  have l3 := hs.lf
  have l4 := hs.ll
  unfold Short at l1 l2 l3 l4
  unfold few at h
  simp only [List.length_map, decide_eq_true_eq] at h
  rw [wrap_i64 (n := (s.classes.length : Int) + s.fees.length) (by omega) (by omega)] at h
  rw [wrap_i64 (n := (s.classes.length : Int) + s.fees.length + s.honours.length) (by omega) (by omega)] at h
  rw [wrap_i64 (by omega) (by omega)] at h
  omega

theorem standingNames_ev {s : Vi.Sys} (hs : s.ok) (hm : s.more) {nm : ByteArray} (hz : nm.size ≤ 140737488355328) {a b c d : Int} {x n q : Int} (hn : I64 n) (hq : I64 q) (h : List Blk) :
    Ev Tryz.prog Γ0 12 [.agg s.cells, strD nm, .agg [int a, int b, int c, int d], int x, .agg [int n, int q]] h (bool true) h := by
  cases hf : few s
  · exact names0_ev h hf
  · obtain ⟨l0, l1, l2, l3⟩ := few_len hs hf
    have hz' : ∀ k ∈ s.honours, k.name.size + nm.size ≤ 9223372036854775807 := by
      intro k hk
      have := hm.nm k hk
      omega
    have h0 : I64 0 := ⟨by omega, by omega⟩
    have h1 : I64 1 := ⟨by omega, by omega⟩
    have h2 : I64 10000 := ⟨by omega, by omega⟩
    cases hx : decide (x < 10000)
    · have ht : (sysN s nm a b c d).ok := by
        refine ⟨?_, ?_, ?_, ?_, ?_, ?_, ?_⟩
        · intro k hk
          obtain ⟨k0, hk0, rfl⟩ := List.mem_map.1 hk
          exact hs.c k0 hk0
        · intro k hk
          obtain ⟨k0, hk0, rfl⟩ := List.mem_map.1 hk
          exact hs.h k0 hk0
        · intro k hk
          obtain ⟨k0, hk0, rfl⟩ := List.mem_map.1 hk
          exact hs.f k0 hk0
        · simp [Short]; omega
        · simp [Short]; omega
        · simp [Short]; omega
        · simp [Short]; omega
      have := names1_ev (nm := nm) (a := a) (b := b) (c := c) (d := d) (x := x) h hf hs ht hn hq l0 l1 l2 l3 hm.cl hz' hx
      rwa [names1_true hs ht] at this
    · have ht : (sysX s nm a b c d).ok := by
        refine ⟨?_, ?_, ?_, ?_, ?_, ?_, ?_⟩
        · intro k hk
          rcases List.mem_append.1 hk with hk | hk
          · obtain ⟨k0, hk0, rfl⟩ := List.mem_map.1 hk
            exact hs.c k0 hk0
          · simp only [List.mem_singleton] at hk
            subst hk
            exact ⟨h2, h0, h1⟩
        · intro k hk
          obtain ⟨k0, hk0, rfl⟩ := List.mem_map.1 hk
          exact hs.h k0 hk0
        · intro k hk
          rcases List.mem_append.1 hk with hk | hk
          · obtain ⟨k0, hk0, rfl⟩ := List.mem_map.1 hk
            exact hs.f k0 hk0
          · simp only [List.mem_singleton] at hk
            subst hk
            exact h2
        · simp [Short]; omega
        · simp [Short]; omega
        · simp [Short]; omega
        · simp [Short]; omega
      have := names2_ev (nm := nm) (a := a) (b := b) (c := c) (d := d) (x := x) h hf hs ht hn hq l0 l1 l2 l3 hm.cl hz' hx
      rwa [names2_true hs ht n q (by simpa using hx)] at this
end Go.Vi
open Go Go.Proofs
namespace Go.Vi
set_option maxRecDepth 100000
set_option maxHeartbeats 400000

theorem standingSpec_ev {s : Vi.Sys} (hs : s.ok) {x n d : Int} (hn : I64 n) (hd : I64 d) (h : List Blk) : Ev Tryz.prog Γ0 7 [.agg s.cells, int x, .agg [int n, int d]] h (bool true) h := by
  have e0 := sane21_ev (hLast s n d)
  have e1 := few_ev s (hLast s n d)
  cases hf : few s
  · rw [hf] at e1
    exact Ev.sym0 pok (φ := [Ev Tryz.prog Γ0 35 [] (hLast s n d) (bool true) (hLast s n d), (!true) = false, Ev Tryz.prog Γ0 36 [.agg s.cells] (hLast s n d) (bool false) (hLast s n d), (!false) = true])
      [.val (bool true), .b false, .val (bool false), .b true] (by kernel_rfl) ⟨e0, rfl, e1, rfl, trivial⟩ rfl rfl h
  · rw [hf] at e1
    have c1 := class_ev hs (earned := x) hn hd (hLast s n d)
    have c2 := rclass_ev hs (earned := x) hn hd (hLast s n d)
    have c3 := honour_ev hs (earned := x) hn hd (hLast s n d)
    have c4 := rhonour_ev hs (earned := x) hn hd (hLast s n d)
    have c5 := fee_ev hs x (hLast s n d)
    have c6 := rfee_ev hs x (hLast s n d)
    have c7 := sCheck_ev hs (hLast s n d)
    have c8 := tCheck_ev hs (hLast s n d)
    rw [class_eq hs] at c1
    rw [honour_eq hs] at c3
    rw [fee_eq hs] at c5
    rw [err_eq hs] at c7
    generalize lastR s s.classes x n d = r1 at c1 c2
    generalize lastR s s.honours x n d = r2 at c3 c4
    generalize rfeeR s x = r3 at c5 c6
    generalize errT s = r4 at c7 c8
    have key := Ev.sym0 (P := Tryz.prog) (Γ := Γ0) (f := 7) (args := [.agg s.cells, int x, .agg [int n, int d]]) (d := bool (r1.1 == r1.1 && r1.2 == r1.2 && r2.1 == r2.1 && r2.2 == r2.2 && r3.1 == r3.1 && r3.2 == r3.2 && r4 == r4)) pok
      (φ := [Ev Tryz.prog Γ0 35 [] (hLast s n d) (bool true) (hLast s n d), (!true) = false, Ev Tryz.prog Γ0 36 [.agg s.cells] (hLast s n d) (bool true) (hLast s n d), (!true) = false,
        Ev Tryz.prog Γ0 37 [.agg s.cells, int x, .agg [int n, int d]] (hLast s n d) (tupR r1) (hLast s n d), Ev Tryz.prog Γ0 38 [.agg s.cells, int x, .agg [int n, int d]] (hLast s n d) (tupR r1) (hLast s n d),
        Ev Tryz.prog Γ0 39 [.agg s.cells, int x, .agg [int n, int d]] (hLast s n d) (tupR r2) (hLast s n d), Ev Tryz.prog Γ0 40 [.agg s.cells, int x, .agg [int n, int d]] (hLast s n d) (tupR r2) (hLast s n d),
        Ev Tryz.prog Γ0 41 [.agg s.cells, int x] (hLast s n d) (tupR r3) (hLast s n d), Ev Tryz.prog Γ0 42 [.agg s.cells, int x] (hLast s n d) (tupR r3) (hLast s n d),
        (r1.1 == r1.1 && r1.2 == r1.2 && r2.1 == r2.1 && r2.2 == r2.2 && r3.1 == r3.1 && r3.2 == r3.2) = true → Ev Tryz.prog Γ0 43 [.agg s.cells] (hLast s n d) (int r4) (hLast s n d),
        (r1.1 == r1.1 && r1.2 == r1.2 && r2.1 == r2.1 && r2.2 == r2.2 && r3.1 == r3.1 && r3.2 == r3.2) = true → Ev Tryz.prog Γ0 44 [.agg s.cells] (hLast s n d) (int r4) (hLast s n d)])
      [.val (bool true), .b false, .val (bool true), .b false, .val (tupR r1), .val (tupR r1), .val (tupR r2), .val (tupR r2), .val (tupR r3), .val (tupR r3), .val (int r4), .val (int r4)] (by kernel_rfl)
      ⟨e0, rfl, e1, rfl, c1, c2, c3, c4, c5, c6, fun _ => c7, fun _ => c8, trivial⟩ rfl rfl h
    simpa using key
end Go.Vi
open Go Go.Proofs
namespace Go.Vi
open Go.ChangeShapes Go.WideShapes Go.ChangeAt Go.RowKit Go.Proofs.YtilebidefogaiaaGreatDoor
set_option maxRecDepth 100000

theorem cells3 : Tryz.prog.cellsOf 3 = 1 := by kernel_rfl
theorem cells9 : Tryz.prog.cellsOf 9 = 1 := by kernel_rfl
theorem cells35 : Tryz.prog.cellsOf 35 = 2 := by kernel_rfl
theorem cells72 : Tryz.prog.cellsOf 72 = 1 := by kernel_rfl
theorem cells73 : Tryz.prog.cellsOf 73 = 1 := by kernel_rfl
theorem cells74 : Tryz.prog.cellsOf 74 = 1 := by kernel_rfl
theorem cells76 : Tryz.prog.cellsOf 76 = 4 := by kernel_rfl
theorem cells87 : Tryz.prog.cellsOf 87 = 2 := by kernel_rfl
theorem cells91 : Tryz.prog.cellsOf 91 = 4 := by kernel_rfl
theorem bytes91 : Tryz.prog.bytesOf 91 = 40 := by kernel_rfl
theorem bytes87 : Tryz.prog.bytesOf 87 = 24 := by kernel_rfl
theorem bytes102 : Tryz.prog.bytesOf 102 = 32 := by kernel_rfl
theorem plain21 : plainB Tryz.prog [3, 9, 35, 72, 73, 74, 76, 87, 91, 102] = true := by kernel_rfl

theorem shp_int {n : Nat} {ds : List Dp} (h : Shp Tryz.prog n 3 ds) : ∃ x, ds = [vi x] ∧ I64 x := by
  cases n with
  | zero => exact h.elim
  | succ n =>
    simp only [Shp, Tryz.underlying3] at h
    obtain ⟨x, rfl, hw⟩ := h
    refine ⟨x, rfl, ?_⟩
    have := bounds_i64 hw
    exact this

theorem shp_str {n : Nat} {ds : List Dp} (h : Shp Tryz.prog n 9 ds) : ∃ s, ds = [vs s] := by
  cases n with
  | zero => exact h.elim
  | succ n =>
    simp only [Shp, Tryz.underlying9] at h
    obtain ⟨s, rfl, _⟩ := h
    exact ⟨s, rfl⟩

theorem shp_ratio {n : Nat} {ds : List Dp} (h : Shp Tryz.prog n 35 ds) : ∃ a b, ds = [vi a, vi b] ∧ I64 a ∧ I64 b := by
  cases n with
  | zero => exact h.elim
  | succ n =>
    simp only [Shp, Tryz.underlying35, List.forall_mem_cons, cells3, cells35] at h
    obtain ⟨hl, h1, h2, _⟩ := h
    obtain ⟨a, e1, ha⟩ := shp_int h1
    obtain ⟨b, e2, hb⟩ := shp_int h2
    match ds, hl with
    | [x, y], _ =>
      simp at e1 e2
      subst e1; subst e2
      exact ⟨a, b, rfl, ha, hb⟩

theorem shp_class {n : Nat} {ds : List Dp} (h : Shp Tryz.prog n 91 ds) : ∃ c : Cls, ds = c.row ∧ c.ok := by
  cases n with
  | zero => exact h.elim
  | succ n =>
    simp only [Shp, Tryz.underlying91, List.forall_mem_cons, cells3, cells9, cells35, cells91] at h
    obtain ⟨hl, h1, h2, h3, _⟩ := h
    obtain ⟨s, e1⟩ := shp_str h1
    obtain ⟨x, e2, hx⟩ := shp_int h2
    obtain ⟨a, b, e3, ha, hb⟩ := shp_ratio h3
    match ds, hl with
    | [p, q, r, t], _ =>
      simp at e1 e2 e3
      obtain ⟨rfl, rfl⟩ := e3
      subst e1; subst e2
      exact ⟨⟨s, x, a, b⟩, rfl, hx, ha, hb⟩

theorem shp_fee {n : Nat} {ds : List Dp} (h : Shp Tryz.prog n 87 ds) : ∃ c : FeeT, ds = c.row ∧ I64 c.credits := by
  cases n with
  | zero => exact h.elim
  | succ n =>
    simp only [Shp, Tryz.underlying87, List.forall_mem_cons, cells3, cells9, cells87] at h
    obtain ⟨hl, h1, h2, _⟩ := h
    obtain ⟨s, e1⟩ := shp_str h1
    obtain ⟨x, e2, hx⟩ := shp_int h2
    match ds, hl with
    | [p, q], _ =>
      simp at e1 e2
      subst e1; subst e2
      exact ⟨⟨s, x⟩, rfl, hx⟩

theorem map_of {α : Type} {row : α → List Dp} {ok : α → Prop} : ∀ {es : List (List Dp)}, (∀ r ∈ es, ∃ a, r = row a ∧ ok a) → ∃ l : List α, es = l.map row ∧ ∀ a ∈ l, ok a
  | [], _ => ⟨[], rfl, by simp⟩
  | r :: es, h => by
    obtain ⟨a, rfl, ha⟩ := h r (List.mem_cons_self ..)
    obtain ⟨l, rfl, hl⟩ := map_of (fun r hr => h r (List.mem_cons_of_mem _ hr))
    exact ⟨a :: l, rfl, fun b hb => (List.mem_cons.1 hb).elim (fun e => e ▸ ha) (hl b)⟩

theorem short_of {n k : Nat} (h : n * k ≤ reachBytes) (hk : 1 ≤ k) : n ≤ 140737488355328 := by
  have : n ≤ n * k := Nat.le_mul_of_pos_right n hk
  unfold reachBytes at h
  omega

theorem shp_classes {n : Nat} {ds : List Dp} (h : Shp Tryz.prog n 72 ds) : ∃ l : List Cls, ds = [.sl (l.map Cls.row)] ∧ (∀ c ∈ l, c.ok) ∧ Short l := by
  cases n with
  | zero => exact h.elim
  | succ n =>
    simp only [Shp, Tryz.underlying72, bytes91] at h
    obtain ⟨es, rfl, hb, he⟩ := h
    obtain ⟨l, rfl, hl⟩ := map_of (row := Cls.row) (ok := Cls.ok) (fun r hr => shp_class (he r hr))
    exact ⟨l, rfl, hl, by have := short_of hb (by omega); simpa [Short] using this⟩

theorem shp_fees {n : Nat} {ds : List Dp} (h : Shp Tryz.prog n 73 ds) : ∃ l : List FeeT, ds = [.sl (l.map FeeT.row)] ∧ (∀ c ∈ l, I64 c.credits) ∧ Short l := by
  cases n with
  | zero => exact h.elim
  | succ n =>
    simp only [Shp, Tryz.underlying73, bytes87] at h
    obtain ⟨es, rfl, hb, he⟩ := h
    obtain ⟨l, rfl, hl⟩ := map_of (row := FeeT.row) (ok := fun c => I64 c.credits) (fun r hr => shp_fee (he r hr))
    exact ⟨l, rfl, hl, by have := short_of hb (by omega); simpa [Short] using this⟩

theorem shp_clauses {n : Nat} {ds : List Dp} (h : Shp Tryz.prog n 74 ds) : ∃ l, ds = [.sl l] ∧ Short l := by
  cases n with
  | zero => exact h.elim
  | succ n =>
    simp only [Shp, Tryz.underlying74, bytes102] at h
    obtain ⟨es, rfl, hb, _⟩ := h
    exact ⟨es, rfl, short_of hb (by omega)⟩

theorem shp_sys {n : Nat} {ds : List Dp} (h : Shp Tryz.prog n 76 ds) : ∃ s : Vi.Sys, ds.map .p = s.cells ∧ s.ok := by
  cases n with
  | zero => exact h.elim
  | succ n =>
    simp only [Shp, Tryz.underlying76, List.forall_mem_cons, cells72, cells73, cells74, cells76] at h
    obtain ⟨hl, h1, h2, h3, h4, _⟩ := h
    obtain ⟨a, e1, a1, a2⟩ := shp_classes h1
    obtain ⟨b, e2, b1, b2⟩ := shp_fees h2
    obtain ⟨c, e3, c1, c2⟩ := shp_classes h3
    obtain ⟨d, e4, d1⟩ := shp_clauses h4
    match ds, hl with
    | [p, q, r, t], _ =>
      simp at e1 e2 e3 e4
      subst e1; subst e2; subst e3; subst e4
      exact ⟨⟨a, b, c, d⟩, rfl, ⟨a1, c1, b1, a2, c2, b2, d1⟩⟩

/-- A struct that comes as an argument. -/
theorem arg_struct {H : Type} {enc : TypeId × Value → H} {W : World} {base : Nat} {t : TypeId} {fs : Array Field} {v : Value} {d : DataW H} {p : List MemPlace} (hu : Tryz.prog.underlying t = some (.struct fs)) (ht : t ∈ [3, 9, 35, 72, 73, 74, 76, 87, 91, 102])
    (hok : Value.okWide Tryz.prog W .any base t v) (h : DataW.Trod enc Tryz.prog W 0 (fun _ => true) true t v d p) (hw : (d.weights Tryz.prog t).all (· ≤ reachBytes) = true) :
    ∃ n ds, Shp Tryz.prog n t ds ∧ Rel W (avs (fun _ => False) (fun _ => none) []) (fun _ => none) [] (.agg (ds.map .p)) v := by
  unfold Value.okWide at hok
  rw [hu] at hok
  obtain ⟨cs, rfl, _, _⟩ := hok
  obtain ⟨fuel, hf⟩ := h
  obtain ⟨ds, h1, h2⟩ := open_plain plain21 av_start fuel t _ d p ht hf hw
  refine ⟨fuel, ds, h1, ?_⟩
  simp only [Rel]
  exact ⟨cs, rfl, h2.relL⟩
end Go.Vi
open Go Go.Proofs
namespace Go.Vi
set_option maxRecDepth 100000

theorem cells102 : Tryz.prog.cellsOf 102 = 4 := by kernel_rfl

theorem shp_clause {n : Nat} {ds : List Dp} (h : Shp Tryz.prog n 102 ds) : ∃ a b c d, ds = [vi a, vi b, vi c, vi d] := by
  cases n with
  | zero => exact h.elim
  | succ n =>
    simp only [Shp, Tryz.underlying102, List.forall_mem_cons, cells3, cells102] at h
    obtain ⟨hl, h1, h2, h3, h4, _⟩ := h
    obtain ⟨a, e1, _⟩ := shp_int h1
    obtain ⟨b, e2, _⟩ := shp_int h2
    obtain ⟨c, e3, _⟩ := shp_int h3
    obtain ⟨d, e4, _⟩ := shp_int h4
    match ds, hl with
    | [p, q, r, t], _ =>
      simp at e1 e2 e3 e4
      subst e1; subst e2; subst e3; subst e4
      exact ⟨a, b, c, d, rfl⟩

theorem shp_str2 {n : Nat} {ds : List Dp} (h : Shp Tryz.prog n 9 ds) : ∃ s, ds = [vs s] ∧ s.size ≤ 140737488355328 := by
  cases n with
  | zero => exact h.elim
  | succ n =>
    simp only [Shp, Tryz.underlying9] at h
    obtain ⟨s, rfl, hs⟩ := h
    exact ⟨s, rfl, Nat.le_trans hs (by unfold reachBytes; omega)⟩

theorem shp_class2 {n : Nat} {ds : List Dp} (h : Shp Tryz.prog n 91 ds) : ∃ c : Cls, ds = c.row ∧ (c.ok ∧ c.name.size ≤ 140737488355328) := by
  cases n with
  | zero => exact h.elim
  | succ n =>
    simp only [Shp, Tryz.underlying91, List.forall_mem_cons, cells3, cells9, cells35, cells91] at h
    obtain ⟨hl, h1, h2, h3, _⟩ := h
    obtain ⟨s, e1, hz⟩ := shp_str2 h1
    obtain ⟨x, e2, hx⟩ := shp_int h2
    obtain ⟨a, b, e3, ha, hb⟩ := shp_ratio h3
    match ds, hl with
    | [p, q, r, t], _ =>
      simp at e1 e2 e3
      obtain ⟨rfl, rfl⟩ := e3
      subst e1; subst e2
      exact ⟨⟨s, x, a, b⟩, rfl, ⟨hx, ha, hb⟩, hz⟩

theorem shp_classes2 {n : Nat} {ds : List Dp} (h : Shp Tryz.prog n 72 ds) : ∃ l : List Cls, ds = [.sl (l.map Cls.row)] ∧ (∀ c ∈ l, c.ok ∧ c.name.size ≤ 140737488355328) ∧ Short l := by
  cases n with
  | zero => exact h.elim
  | succ n =>
    simp only [Shp, Tryz.underlying72, bytes91] at h
    obtain ⟨es, rfl, hb, he⟩ := h
    obtain ⟨l, rfl, hl⟩ := map_of (row := Cls.row) (ok := fun c => c.ok ∧ c.name.size ≤ 140737488355328) (fun r hr => shp_class2 (he r hr))
    exact ⟨l, rfl, hl, by have := short_of hb (by omega); simpa [Short] using this⟩

theorem shp_clauses2 {n : Nat} {ds : List Dp} (h : Shp Tryz.prog n 74 ds) : ∃ l : List (List Dp), ds = [.sl l] ∧ Short l ∧ (l.map (fun r => r.map D.p)).all (rowOk 4) = true := by
  cases n with
  | zero => exact h.elim
  | succ n =>
    simp only [Shp, Tryz.underlying74, bytes102] at h
    obtain ⟨es, rfl, hb, he⟩ := h
    refine ⟨es, rfl, short_of hb (by omega), ?_⟩
    rw [List.all_map, List.all_eq_true]
    intro r hr
    obtain ⟨a, b, c, d, rfl⟩ := shp_clause (he r hr)
    rfl

theorem shp_sys2 {n : Nat} {ds : List Dp} (h : Shp Tryz.prog n 76 ds) : ∃ s : Vi.Sys, ds.map .p = s.cells ∧ s.ok ∧ s.more := by
  cases n with
  | zero => exact h.elim
  | succ n =>
    simp only [Shp, Tryz.underlying76, List.forall_mem_cons, cells72, cells73, cells74, cells76] at h
    obtain ⟨hl, h1, h2, h3, h4, _⟩ := h
    obtain ⟨a, e1, a1, a2⟩ := shp_classes h1
    obtain ⟨b, e2, b1, b2⟩ := shp_fees h2
    obtain ⟨c, e3, c1, c2⟩ := shp_classes2 h3
    obtain ⟨d, e4, d1, d2⟩ := shp_clauses2 h4
    match ds, hl with
    | [p, q, r, t], _ =>
      simp at e1 e2 e3 e4
      subst e1; subst e2; subst e3; subst e4
      exact ⟨⟨a, b, c, d⟩, rfl, ⟨a1, fun k hk => (c1 k hk).1, b1, a2, c2, b2, d1⟩, ⟨fun k hk => (c1 k hk).2, d2⟩⟩
end Go.Vi
