/- RecordAlike: part of the proof: contracts of the functions that the law reaches, and the law. No conditions beyond the given statement's own. -/
import Derived.Test.YtilebidefogaiaaGreatDoorW7
import Derived.Test.YtilebidefogaiaaGreatDoorCards
import Derived.Test.YtilebidefogaiaaGreatDoorTie
import Derived.WalkKit
import Derived.ProofKit
import Derived.OpenShut
import Derived.Deep.DeepHandedRow
import Derived.Lib.LaidTab
import Derived.LaidHandle
open Go.Proofs.Tryz renaming prog → Du, underlying111 → Jg, underlying30 → HC
open Go.Vi.Memo renaming okW_of → GM
open Bool renaming and_eq_true → DB, or_eq_false_iff → Fu, not_eq_false' → GE
open List renaming length_map → Fh, length_append → ER, foldl_cons → EJ, append_assoc → G0, mem_cons_of_mem → EM, length_cons → Ef, length_nil → FF, mem_flatMap → Ht, forall_mem_cons → EE, mem_cons_self → EX, replicate → D5, mapM_cons → Iu, map_cons → EH, drop_drop → Hv, take_append_drop → IE
open Go.IntKind renaming i64 → Dz
open Go.Proofs.YtilebidefogaiaaGreatDoor.Rows renaming laid_sizar_rules_kinds → FU
open Go.Vi.CourseT renaming row → DF
open Go.Value renaming okWide → Hz
open Option renaming bind_eq_bind → ID, bind_eq_some_iff → F4, map_eq_some_iff → DD
open Option.some renaming injEq → Dv
open Go.DataW renaming trod → GL
open Prod.mk renaming injEq → Dx
open Go.DataW.agg renaming injEq → IW
open Go Go.Proofs
namespace Go.Vi
set_option maxRecDepth 1000000
set_option maxHeartbeats 0
def s16w0 : Memo := ⟨60, [.ref (.ptr 76 0), int 3, int 3], [.gone, .gone, .gone, .gone, .gone, .gone, .gone, .gone, .vec [[int 12, int 0, int 0, int 0, int 1]] 0 5, .var [int 3, nq], .var [int 0, nq], .var [nq, int 0, int 0, int 0], .vec [[int 7], [int 7]] 0 1, .var [nq, int 0, int 0, int 0], .gone, .gone, .gone, .gone, .gone, .gone, .gone, .gone, .gone, .vec [[int 12, int 0, int 0, int 0, int 1], [int 12, int 0, int 0, int 0, int 1]] 1 5, .gone, .gone, .gone, .gone, .var [nq, int 0, int 0, int 1], .var [int 5, int 3, int 7, int (-1), int 5, int 6, int 8, int 0], .var [int 5, int 3, int 7, int 25, int 2, int 3, int 9, int 0], .vec [[aA ⟨#[65]⟩, int 7, int 4, int 0, int 1, int 0, aA ⟨#[]⟩, int 0, int 0, nq, int 2, int 0, aA ⟨#[]⟩, int 0, int 0, nq]] 0 16, .var [.ref (.vec 31 0), nq, nq, .ref (.vec 34 0)], .var [int 0, int 1024], .vec [[int 1, int 7, int 0, int 0, int 0, int 1024, int 8, int 0], [int 12, int 0, int 0, int 1, int 0, int 1024, int 8, int 1], [int 5, int 3, int 7, int 25, int 2, int 3, int 9, int 0]] 0 8, .gone, .gone, .gone, .gone, .gone, .gone, .gone, .gone, .gone, .gone, .gone, .gone, .vec [[int 12, int 0, int 0, int 0, int 1], [int 5, int 3, int 7, int 0, int 3], [int 1, int 7, int 0, int 2, int 3]] 2 5, .gone, .gone, .gone, .gone, .gone, .gone, .gone, .gone, .vec [[int 7, int 2, int 9, int 1, int 4]] 0 5, .var [int 3, .ref (.vec 56 0)], .gone, .gone, .gone, .gone, .gone, .gone, .gone, .gone, .gone, .gone, .gone, .gone, .vec [[int 12, int 0, int 0, int 0, int 1], [int 5, int 3, int 7, int 0, int 2]] 1 5, .var [int 3, nq], .vec [[int 7]] 0 1, .var [.ref (.vec 31 0), nq, nq, .ref (.vec 34 0)], .var [nq, int 0, int 0, int 0], .map [(int 7, .agg [int 7, int 0, int (-1), bool true], 0)] 1, .var [nq, .ref (.vec 31 0), nq, nq, .ref (.vec 34 0), int 9]], .ret (.agg [int 3, .ref (.vec 95 0)]) [.gone, .gone, .gone, .gone, .gone, .gone, .gone, .gone, .vec [[int 12, int 0, int 0, int 0, int 1]] 0 5, .var [int 3, nq], .var [int 0, nq], .var [nq, int 0, int 0, int 0], .vec [[int 7], [int 7]] 0 1, .var [nq, int 0, int 0, int 0], .gone, .gone, .gone, .gone, .gone, .gone, .gone, .gone, .gone, .vec [[int 12, int 0, int 0, int 0, int 1], [int 12, int 0, int 0, int 0, int 1]] 1 5, .gone, .gone, .gone, .gone, .var [nq, int 0, int 0, int 1], .var [int 5, int 3, int 7, int (-1), int 5, int 6, int 8, int 0], .var [int 5, int 3, int 7, int 25, int 2, int 3, int 9, int 0], .vec [[aA ⟨#[65]⟩, int 7, int 4, int 0, int 1, int 0, aA ⟨#[]⟩, int 0, int 0, nq, int 2, int 0, aA ⟨#[]⟩, int 0, int 0, nq]] 0 16, .var [.ref (.vec 31 0), nq, nq, .ref (.vec 34 0)], .var [int 0, int 1024], .vec [[int 1, int 7, int 0, int 0, int 0, int 1024, int 8, int 0], [int 12, int 0, int 0, int 1, int 0, int 1024, int 8, int 1], [int 5, int 3, int 7, int 25, int 2, int 3, int 9, int 0]] 0 8, .gone, .gone, .gone, .gone, .gone, .gone, .gone, .gone, .gone, .gone, .gone, .gone, .vec [[int 12, int 0, int 0, int 0, int 1], [int 5, int 3, int 7, int 0, int 3], [int 1, int 7, int 0, int 2, int 3]] 2 5, .gone, .gone, .gone, .gone, .gone, .gone, .gone, .gone, .vec [[int 7, int 2, int 9, int 1, int 4]] 0 5, .var [int 3, .ref (.vec 56 0)], .gone, .gone, .gone, .gone, .gone, .gone, .gone, .gone, .gone, .gone, .gone, .gone, .vec [[int 12, int 0, int 0, int 0, int 1], [int 5, int 3, int 7, int 0, int 2]] 1 5, .var [int 3, nq], .vec [[int 7]] 0 1, .var [.ref (.vec 31 0), nq, nq, .ref (.vec 34 0)], .var [nq, int 0, int 0, int 0], .map [(int 7, .agg [int 7, int 0, int (-1), bool true], 0)] 1, .var [.ref (.vec 86 2), .ref (.vec 31 0), nq, nq, .ref (.vec 34 0), int 9], .gone, .gone, .gone, .gone, .gone, .gone, .gone, .gone, .gone, .vec [[int 12, int 0, int 0, int 0, int 1], [int 5, int 3, int 7, int 0, int 3], [int 1, int 7, int 0, int 2, int 3]] 2 5, .gone, .gone, .gone, .gone, .gone, .gone, .gone, .gone, .vec [[int 7, int 2, int 9, int 1, int 4]] 0 5]⟩
theorem zy : s16w0.Ok Du Γk := GM pok uQ (ms := []) (by kernel_rfl) trivial
def s16w1 : Memo := ⟨61, [.ref (.ptr 76 0), .ref (.vec 95 0), int 3], [.gone, .gone, .gone, .gone, .gone, .gone, .gone, .gone, .vec [[int 12, int 0, int 0, int 0, int 1]] 0 5, .var [int 3, nq], .var [int 0, nq], .var [nq, int 0, int 0, int 0], .vec [[int 7], [int 7]] 0 1, .var [nq, int 0, int 0, int 0], .gone, .gone, .gone, .gone, .gone, .gone, .gone, .gone, .gone, .vec [[int 12, int 0, int 0, int 0, int 1], [int 12, int 0, int 0, int 0, int 1]] 1 5, .gone, .gone, .gone, .gone, .var [nq, int 0, int 0, int 1], .var [int 5, int 3, int 7, int (-1), int 5, int 6, int 8, int 0], .var [int 5, int 3, int 7, int 25, int 2, int 3, int 9, int 0], .vec [[aA ⟨#[65]⟩, int 7, int 4, int 0, int 1, int 0, aA ⟨#[]⟩, int 0, int 0, nq, int 2, int 0, aA ⟨#[]⟩, int 0, int 0, nq]] 0 16, .var [.ref (.vec 31 0), nq, nq, .ref (.vec 34 0)], .var [int 0, int 1024], .vec [[int 1, int 7, int 0, int 0, int 0, int 1024, int 8, int 0], [int 12, int 0, int 0, int 1, int 0, int 1024, int 8, int 1], [int 5, int 3, int 7, int 25, int 2, int 3, int 9, int 0]] 0 8, .gone, .gone, .gone, .gone, .gone, .gone, .gone, .gone, .gone, .gone, .gone, .gone, .vec [[int 12, int 0, int 0, int 0, int 1], [int 5, int 3, int 7, int 0, int 3], [int 1, int 7, int 0, int 2, int 3]] 2 5, .gone, .gone, .gone, .gone, .gone, .gone, .gone, .gone, .vec [[int 7, int 2, int 9, int 1, int 4]] 0 5, .var [int 3, .ref (.vec 56 0)], .gone, .gone, .gone, .gone, .gone, .gone, .gone, .gone, .gone, .gone, .gone, .gone, .vec [[int 12, int 0, int 0, int 0, int 1], [int 5, int 3, int 7, int 0, int 2]] 1 5, .var [int 3, nq], .vec [[int 7]] 0 1, .var [.ref (.vec 31 0), nq, nq, .ref (.vec 34 0)], .var [nq, int 0, int 0, int 0], .map [(int 7, .agg [int 7, int 0, int (-1), bool true], 0)] 1, .var [.ref (.vec 86 2), .ref (.vec 31 0), nq, nq, .ref (.vec 34 0), int 9], .gone, .gone, .gone, .gone, .gone, .gone, .gone, .gone, .gone, .vec [[int 12, int 0, int 0, int 0, int 1], [int 5, int 3, int 7, int 0, int 3], [int 1, int 7, int 0, int 2, int 3]] 2 5, .gone, .gone, .gone, .gone, .gone, .gone, .gone, .gone, .vec [[int 7, int 2, int 9, int 1, int 4]] 0 5, .var [int 3, .ref (.vec 95 0)]], .ret (.tup [.ref (.vec 105 0), int 0]) [.gone, .gone, .gone, .gone, .gone, .gone, .gone, .gone, .vec [[int 12, int 0, int 0, int 0, int 1]] 0 5, .var [int 3, nq], .var [int 0, nq], .var [nq, int 0, int 0, int 0], .vec [[int 7], [int 7]] 0 1, .var [nq, int 0, int 0, int 0], .gone, .gone, .gone, .gone, .gone, .gone, .gone, .gone, .gone, .vec [[int 12, int 0, int 0, int 0, int 1], [int 12, int 0, int 0, int 0, int 1]] 1 5, .gone, .gone, .gone, .gone, .var [nq, int 0, int 0, int 1], .var [int 5, int 3, int 7, int (-1), int 5, int 6, int 8, int 0], .var [int 5, int 3, int 7, int 25, int 2, int 3, int 9, int 0], .vec [[aA ⟨#[65]⟩, int 7, int 4, int 0, int 1, int 0, aA ⟨#[]⟩, int 0, int 0, nq, int 2, int 0, aA ⟨#[]⟩, int 0, int 0, nq]] 0 16, .var [.ref (.vec 31 0), nq, nq, .ref (.vec 34 0)], .var [int 0, int 1024], .vec [[int 1, int 7, int 0, int 0, int 0, int 1024, int 8, int 0], [int 12, int 0, int 0, int 1, int 0, int 1024, int 8, int 1], [int 5, int 3, int 7, int 25, int 2, int 3, int 9, int 0]] 0 8, .gone, .gone, .gone, .gone, .gone, .gone, .gone, .gone, .gone, .gone, .gone, .gone, .vec [[int 12, int 0, int 0, int 0, int 1], [int 5, int 3, int 7, int 0, int 3], [int 1, int 7, int 0, int 2, int 3]] 2 5, .gone, .gone, .gone, .gone, .gone, .gone, .gone, .gone, .vec [[int 7, int 2, int 9, int 1, int 4]] 0 5, .var [int 3, .ref (.vec 56 0)], .gone, .gone, .gone, .gone, .gone, .gone, .gone, .gone, .gone, .gone, .gone, .gone, .vec [[int 12, int 0, int 0, int 0, int 1], [int 5, int 3, int 7, int 0, int 2]] 1 5, .var [int 3, nq], .vec [[int 7]] 0 1, .var [.ref (.vec 31 0), nq, nq, .ref (.vec 34 0)], .var [nq, int 0, int 0, int 0], .map [(int 7, .agg [int 7, int 0, int (-1), bool true], 0)] 1, .var [.ref (.vec 86 3), .ref (.vec 31 0), nq, nq, .ref (.vec 34 0), int 9], .gone, .gone, .gone, .gone, .gone, .gone, .gone, .gone, .gone, .vec [[int 12, int 0, int 0, int 0, int 1], [int 5, int 3, int 7, int 0, int 3], [int 1, int 7, int 0, int 2, int 3], [int 1, int 7, int 0, int 3, int 4]] 3 5, .gone, .gone, .gone, .gone, .gone, .gone, .gone, .gone, .vec [[int 7, int 2, int 9, int 1, int 4]] 0 5, .var [int 3, .ref (.vec 95 0)], .gone, .gone, .gone, .gone, .gone, .gone, .gone, .gone, .vec [[int 7, int 2, int 9, int 1, int 4]] 0 5]⟩
theorem zz : s16w1.Ok Du Γk := GM pok uQ (ms := []) (by kernel_rfl) trivial
def s16w2 : Memo := ⟨23, [.agg [.ref (.vec 31 0), nq, nq, .ref (.vec 34 0)], int 3, int 3, int 9], [.gone, .gone, .gone, .gone, .gone, .gone, .gone, .gone, .vec [[int 12, int 0, int 0, int 0, int 1]] 0 5, .var [int 3, nq], .var [int 0, nq], .var [nq, int 0, int 0, int 0], .vec [[int 7], [int 7]] 0 1, .var [nq, int 0, int 0, int 0], .gone, .gone, .gone, .gone, .gone, .gone, .gone, .gone, .gone, .vec [[int 12, int 0, int 0, int 0, int 1], [int 12, int 0, int 0, int 0, int 1]] 1 5, .gone, .gone, .gone, .gone, .var [nq, int 0, int 0, int 1], .var [int 5, int 3, int 7, int (-1), int 5, int 6, int 8, int 0], .var [int 5, int 3, int 7, int 25, int 2, int 3, int 9, int 0], .vec [[aA ⟨#[65]⟩, int 7, int 4, int 0, int 1, int 0, aA ⟨#[]⟩, int 0, int 0, nq, int 2, int 0, aA ⟨#[]⟩, int 0, int 0, nq]] 0 16, .var [.ref (.vec 31 0), nq, nq, .ref (.vec 34 0)], .var [int 0, int 1024], .vec [[int 1, int 7, int 0, int 0, int 0, int 1024, int 8, int 0], [int 12, int 0, int 0, int 1, int 0, int 1024, int 8, int 1], [int 5, int 3, int 7, int 25, int 2, int 3, int 9, int 0]] 0 8], .ret (.tup [.agg [int 3, .ref (.vec 56 0)], .ref (.vec 47 2), int 0]) [.gone, .gone, .gone, .gone, .gone, .gone, .gone, .gone, .vec [[int 12, int 0, int 0, int 0, int 1]] 0 5, .var [int 3, nq], .var [int 0, nq], .var [nq, int 0, int 0, int 0], .vec [[int 7], [int 7]] 0 1, .var [nq, int 0, int 0, int 0], .gone, .gone, .gone, .gone, .gone, .gone, .gone, .gone, .gone, .vec [[int 12, int 0, int 0, int 0, int 1], [int 12, int 0, int 0, int 0, int 1]] 1 5, .gone, .gone, .gone, .gone, .var [nq, int 0, int 0, int 1], .var [int 5, int 3, int 7, int (-1), int 5, int 6, int 8, int 0], .var [int 5, int 3, int 7, int 25, int 2, int 3, int 9, int 0], .vec [[aA ⟨#[65]⟩, int 7, int 4, int 0, int 1, int 0, aA ⟨#[]⟩, int 0, int 0, nq, int 2, int 0, aA ⟨#[]⟩, int 0, int 0, nq]] 0 16, .var [.ref (.vec 31 0), nq, nq, .ref (.vec 34 0)], .var [int 0, int 1024], .vec [[int 1, int 7, int 0, int 0, int 0, int 1024, int 8, int 0], [int 12, int 0, int 0, int 1, int 0, int 1024, int 8, int 1], [int 5, int 3, int 7, int 25, int 2, int 3, int 9, int 0]] 0 8, .gone, .gone, .gone, .gone, .gone, .gone, .gone, .gone, .gone, .gone, .gone, .gone, .vec [[int 12, int 0, int 0, int 0, int 1], [int 5, int 3, int 7, int 0, int 3], [int 1, int 7, int 0, int 2, int 3]] 2 5, .gone, .gone, .gone, .gone, .gone, .gone, .gone, .gone, .vec [[int 7, int 2, int 9, int 1, int 4]] 0 5]⟩
theorem zA : s16w2.Ok Du Γk := GM pok uQ (ms := []) (by kernel_rfl) trivial
def s16w3 : Memo := ⟨19, [.agg [.ref (.vec 31 0), nq, nq, .ref (.vec 34 0)], int 3, int 3, int 9, .ref (.vec 72 0)], [.gone, .gone, .gone, .gone, .gone, .gone, .gone, .gone, .vec [[int 12, int 0, int 0, int 0, int 1]] 0 5, .var [int 3, nq], .var [int 0, nq], .var [nq, int 0, int 0, int 0], .vec [[int 7], [int 7]] 0 1, .var [nq, int 0, int 0, int 0], .gone, .gone, .gone, .gone, .gone, .gone, .gone, .gone, .gone, .vec [[int 12, int 0, int 0, int 0, int 1], [int 12, int 0, int 0, int 0, int 1]] 1 5, .gone, .gone, .gone, .gone, .var [nq, int 0, int 0, int 1], .var [int 5, int 3, int 7, int (-1), int 5, int 6, int 8, int 0], .var [int 5, int 3, int 7, int 25, int 2, int 3, int 9, int 0], .vec [[aA ⟨#[65]⟩, int 7, int 4, int 0, int 1, int 0, aA ⟨#[]⟩, int 0, int 0, nq, int 2, int 0, aA ⟨#[]⟩, int 0, int 0, nq]] 0 16, .var [.ref (.vec 31 0), nq, nq, .ref (.vec 34 0)], .var [int 0, int 1024], .vec [[int 1, int 7, int 0, int 0, int 0, int 1024, int 8, int 0], [int 12, int 0, int 0, int 1, int 0, int 1024, int 8, int 1], [int 5, int 3, int 7, int 25, int 2, int 3, int 9, int 0]] 0 8, .gone, .gone, .gone, .gone, .gone, .gone, .gone, .gone, .gone, .gone, .gone, .gone, .vec [[int 12, int 0, int 0, int 0, int 1], [int 5, int 3, int 7, int 0, int 3], [int 1, int 7, int 0, int 2, int 3]] 2 5, .gone, .gone, .gone, .gone, .gone, .gone, .gone, .gone, .vec [[int 7, int 2, int 9, int 1, int 4]] 0 5, .var [int 3, .ref (.vec 56 0)], .gone, .gone, .gone, .gone, .gone, .gone, .gone, .gone, .gone, .gone, .gone, .gone, .vec [[int 12, int 0, int 0, int 0, int 1], [int 5, int 3, int 7, int 0, int 2]] 1 5, .var [int 3, nq], .vec [[int 7]] 0 1], .ret (.tup [.agg [.ref (.vec 132 0), int 4, int 9, int 1], .ref (.vec 86 5), int 0]) [.gone, .gone, .gone, .gone, .gone, .gone, .gone, .gone, .vec [[int 12, int 0, int 0, int 0, int 1]] 0 5, .var [int 3, nq], .var [int 0, nq], .var [nq, int 0, int 0, int 0], .vec [[int 7], [int 7]] 0 1, .var [nq, int 0, int 0, int 0], .gone, .gone, .gone, .gone, .gone, .gone, .gone, .gone, .gone, .vec [[int 12, int 0, int 0, int 0, int 1], [int 12, int 0, int 0, int 0, int 1]] 1 5, .gone, .gone, .gone, .gone, .var [nq, int 0, int 0, int 1], .var [int 5, int 3, int 7, int (-1), int 5, int 6, int 8, int 0], .var [int 5, int 3, int 7, int 25, int 2, int 3, int 9, int 0], .vec [[aA ⟨#[65]⟩, int 7, int 4, int 0, int 1, int 0, aA ⟨#[]⟩, int 0, int 0, nq, int 2, int 0, aA ⟨#[]⟩, int 0, int 0, nq]] 0 16, .var [.ref (.vec 31 0), nq, nq, .ref (.vec 34 0)], .var [int 0, int 1024], .vec [[int 1, int 7, int 0, int 0, int 0, int 1024, int 8, int 0], [int 12, int 0, int 0, int 1, int 0, int 1024, int 8, int 1], [int 5, int 3, int 7, int 25, int 2, int 3, int 9, int 0]] 0 8, .gone, .gone, .gone, .gone, .gone, .gone, .gone, .gone, .gone, .gone, .gone, .gone, .vec [[int 12, int 0, int 0, int 0, int 1], [int 5, int 3, int 7, int 0, int 3], [int 1, int 7, int 0, int 2, int 3]] 2 5, .gone, .gone, .gone, .gone, .gone, .gone, .gone, .gone, .vec [[int 7, int 2, int 9, int 1, int 4]] 0 5, .var [int 3, .ref (.vec 56 0)], .gone, .gone, .gone, .gone, .gone, .gone, .gone, .gone, .gone, .gone, .gone, .gone, .vec [[int 12, int 0, int 0, int 0, int 1], [int 5, int 3, int 7, int 0, int 2]] 1 5, .var [int 3, nq], .vec [[int 7]] 0 1, .gone, .gone, .gone, .gone, .gone, .gone, .gone, .gone, .gone, .gone, .gone, .gone, .gone, .vec [[int 12, int 0, int 0, int 0, int 1], [int 5, int 3, int 7, int 0, int 3], [int 1, int 7, int 0, int 2, int 3], [int 1, int 7, int 0, int 3, int 4], [int 12, int 0, int 0, int 0, int 1], [int 12, int 0, int 0, int 0, int 1]] 5 5, .gone, .gone, .gone, .gone, .gone, .gone, .gone, .gone, .gone, .gone, .gone, .gone, .gone, .gone, .gone, .gone, .gone, .gone, .gone, .gone, .gone, .gone, .gone, .gone, .gone, .gone, .gone, .gone, .gone, .gone, .gone, .gone, .gone, .gone, .gone, .gone, .gone, .gone, .gone, .gone, .gone, .gone, .gone, .gone, .gone, .vec [[int 7, int 1, int 9, bool true]] 0 4]⟩
theorem zB : s16w3.Ok Du Γk := GM pok uQ (ms := [s16w0, s16w1]) (by kernel_rfl) ⟨zy, zz, trivial⟩
def s16w4 : Memo := ⟨23, [.agg [.ref (.vec 31 0), nq, nq, .ref (.vec 34 0)], int 3, int 2, int 9], [.gone, .gone, .gone, .gone, .gone, .gone, .gone, .gone, .vec [[int 12, int 0, int 0, int 0, int 1]] 0 5, .var [int 3, nq], .var [int 0, nq], .var [nq, int 0, int 0, int 0], .vec [[int 7], [int 7]] 0 1, .var [nq, int 0, int 0, int 0], .gone, .gone, .gone, .gone, .gone, .gone, .gone, .gone, .gone, .vec [[int 12, int 0, int 0, int 0, int 1], [int 12, int 0, int 0, int 0, int 1]] 1 5, .gone, .gone, .gone, .gone, .var [nq, int 0, int 0, int 1], .var [int 5, int 3, int 7, int (-1), int 5, int 6, int 8, int 0], .var [int 5, int 3, int 7, int 25, int 2, int 3, int 9, int 0], .vec [[aA ⟨#[65]⟩, int 7, int 4, int 0, int 1, int 0, aA ⟨#[]⟩, int 0, int 0, nq, int 2, int 0, aA ⟨#[]⟩, int 0, int 0, nq]] 0 16, .var [.ref (.vec 31 0), nq, nq, .ref (.vec 34 0)], .var [int 0, int 1024], .vec [[int 1, int 7, int 0, int 0, int 0, int 1024, int 8, int 0], [int 12, int 0, int 0, int 1, int 0, int 1024, int 8, int 1], [int 5, int 3, int 7, int 25, int 2, int 3, int 9, int 0]] 0 8, .gone, .gone, .gone, .gone, .gone, .gone, .gone, .gone, .gone, .gone, .gone, .gone, .vec [[int 12, int 0, int 0, int 0, int 1], [int 5, int 3, int 7, int 0, int 3], [int 1, int 7, int 0, int 2, int 3]] 2 5, .gone, .gone, .gone, .gone, .gone, .gone, .gone, .gone, .vec [[int 7, int 2, int 9, int 1, int 4]] 0 5, .var [int 3, .ref (.vec 56 0)]], .ret (.tup [.agg [int 3, nq], .ref (.vec 70 1), int 0]) [.gone, .gone, .gone, .gone, .gone, .gone, .gone, .gone, .vec [[int 12, int 0, int 0, int 0, int 1]] 0 5, .var [int 3, nq], .var [int 0, nq], .var [nq, int 0, int 0, int 0], .vec [[int 7], [int 7]] 0 1, .var [nq, int 0, int 0, int 0], .gone, .gone, .gone, .gone, .gone, .gone, .gone, .gone, .gone, .vec [[int 12, int 0, int 0, int 0, int 1], [int 12, int 0, int 0, int 0, int 1]] 1 5, .gone, .gone, .gone, .gone, .var [nq, int 0, int 0, int 1], .var [int 5, int 3, int 7, int (-1), int 5, int 6, int 8, int 0], .var [int 5, int 3, int 7, int 25, int 2, int 3, int 9, int 0], .vec [[aA ⟨#[65]⟩, int 7, int 4, int 0, int 1, int 0, aA ⟨#[]⟩, int 0, int 0, nq, int 2, int 0, aA ⟨#[]⟩, int 0, int 0, nq]] 0 16, .var [.ref (.vec 31 0), nq, nq, .ref (.vec 34 0)], .var [int 0, int 1024], .vec [[int 1, int 7, int 0, int 0, int 0, int 1024, int 8, int 0], [int 12, int 0, int 0, int 1, int 0, int 1024, int 8, int 1], [int 5, int 3, int 7, int 25, int 2, int 3, int 9, int 0]] 0 8, .gone, .gone, .gone, .gone, .gone, .gone, .gone, .gone, .gone, .gone, .gone, .gone, .vec [[int 12, int 0, int 0, int 0, int 1], [int 5, int 3, int 7, int 0, int 3], [int 1, int 7, int 0, int 2, int 3]] 2 5, .gone, .gone, .gone, .gone, .gone, .gone, .gone, .gone, .vec [[int 7, int 2, int 9, int 1, int 4]] 0 5, .var [int 3, .ref (.vec 56 0)], .gone, .gone, .gone, .gone, .gone, .gone, .gone, .gone, .gone, .gone, .gone, .gone, .vec [[int 12, int 0, int 0, int 0, int 1], [int 5, int 3, int 7, int 0, int 2]] 1 5]⟩
theorem zC : s16w4.Ok Du Γk := GM pok uQ (ms := []) (by kernel_rfl) trivial
def s16wR : Memo := ⟨17, [], [], .ret (bool true) []⟩
theorem zD : s16wR.Ok Du Γk := GM pok uQ (ms := [s16w2, s16w3, s16w4]) (by kernel_rfl) ⟨zA, zB, zC, trivial⟩
theorem dS (h : List Blk) : Ev Du Γk 17 [] h (bool true) h := Ev.frame0 rfl (Memo.call zD rfl) h
end Go.Vi
open Go Go.Proofs
namespace Go.Vi
set_option maxRecDepth 100000
theorem qM {w : WorldT} (h : cF w = true) : w.f.length ≤ 30 := by
 simp only [cF, DB, decide_eq_true_eq, Fh] at h
 omega
theorem WorldT.ok0.few {w : WorldT} (hw : w.ok0) (h : cF w = true) : w.ok := by
 have := qM h
 exact ⟨hw.c, hw.s, by omega, hw.lc, hw.ls, hw.i⟩
theorem qN {w : WorldT} {st term known : Int} (h : (xZ w st term known).2.2 = 0) : xZ w st term known = (⟨st, dm w known st term⟩, aN w known st term, 0) := by
 unfold xZ at h ⊢
 split
 ·rename_i hb; rw [hb] at h; simp at h
 ·rfl
theorem zF {w : WorldT} (hw : w.ok0) {st term later known : Int} (h : List Blk) : Ev Du Γk 4 [.agg w.l, int st, int term, int later, int known] h (bool true) h := by
 cases ho : (!cF w || decide (later < term))
 ·have hr := ho
  simp only [Fu, GE, decide_eq_false_iff_not] at hr
  have hk := hw.few hr.1
  have h1 := fun h => tD hk (st := st) (term := term) (known := known) h
  have h2 := fun h => tD hk (st := st) (term := later) (known := known) h
  cases he : ((xZ w st term known).2.2 != 0 || (xZ w st later known).2.2 != 0)
  ·simp only [Fu, bne_eq_false_iff_eq] at he
   rw [qN he.1] at h1
   rw [qN he.2] at h2
   obtain ⟨rest, e1, e2, e3⟩ := uS (w := w) (known := known) (st := st) (term := term) (later := later) (by omega)
   simp only [RecT.l, e1] at h1 h2
   have hl := im hk (known := known) (st := st) (term := later)
   rw [e1] at hl
   have hl2 := im hk (known := known) (st := st) (term := term)
   have hs : aj (dm w known st term ++ rest) := by unfold aj; omega
   have hs1 : aj (dm w known st term) := by unfold aj; omega
   refine rp_ok dS ho hs1 hs e2 e3 ?_ ?_ h1 h2 h
   ·intro h
    refine Ev.glob0 (ma ?_ hs1 h)
    simp []
   ·simp only [Fh, ER, Bool.not_true, Bool.or_false, decide_eq_false_iff_not]; omega
  ·exact rp_err dS ho he h1 h2 h
 ·exact rp_out dS ho h
end Go.Vi
open Go Go.Proofs
namespace Go.Vi
set_option maxRecDepth 100000
theorem xD {w : WorldT} {term known a : Int} (s : RL) (n : Int) : ∃ t, (eqN w term known a s n).1 = s.1 ++ t := by
 unfold eqN
 cases s.2.contains n
 ·exact ⟨_, rfl⟩
 ·exact ⟨[], by simp⟩
theorem gu {w : WorldT} {term known a : Int} : ∀ (ns : List Int) (s : RL), ∃ t, (ns.foldl (eqN w term known a) s).1 = s.1 ++ t
 | [], s => ⟨[], by simp⟩
 | n :: ns, s => by
  obtain ⟨t1, h1⟩ := xD (w := w) (term := term) (known := known) (a := a) s n
  obtain ⟨t2, h2⟩ := gu (w := w) (term := term) (known := known) (a := a) ns (eqN w term known a s n)
  exact ⟨t1 ++ t2, by rw [EJ, h2, h1, G0]⟩
theorem lH {w : WorldT} {term known : Int} {ns : List Int} : ∀ (f i : Nat) (s : RL), ∃ t, (eqOut w term known ns f i s).1 = s.1 ++ t
 | 0, _, s => ⟨[], by simp [eqOut]⟩
 | f + 1, i, s => by
  cases ha : s.2[i]? with
  | none => exact ⟨[], by rw [eF ha]; simp⟩
  | some a =>
   obtain ⟨t1, h1⟩ := gu (w := w) (term := term) (known := known) (a := a) ns s
   obtain ⟨t2, h2⟩ := lH (w := w) (term := term) (known := known) (ns := ns) f (i + 1) (ib w term known ns a s)
   exact ⟨t1 ++ t2, by simp only [eqOut, ha]; rw [h2]; unfold ib; rw [h1, G0]⟩
theorem eH {l : List FactT} {p q : List ReadT} {a b : Int} (h : AlikeP l (p ++ q) a b) : AlikeP l p a b ∧ AlikeP l q a b :=
 ⟨fun r hr => h r (List.mem_append_left _ hr), fun r hr => h r (List.mem_append_right _ hr)⟩
theorem xE {w : WorldT} {term a b x : Int} (h0 : 0 ≤ term) (h1 : term ≤ 1023) (s : RL) (n : Int) (h : AlikeP w.f (eqN w term a x s n).1 a b) : eqN w term a x s n = eqN w term b x s n := by
 unfold eqN at h ⊢
 cases hc : s.2.contains n
 ·rw [hc] at h
  simp only [cond_false] at h ⊢
  have hw : Dz.wrap (term + 1) = term + 1 := wrap_i64 (by omega) (by omega)
  have h2 := (eH h).2 ⟨2, mnI x n, mxI x n, term, Dz.wrap (term + 1)⟩ (by simp)
  simp only [ptsAt, hw] at h2
  have h3 := oI h0 h1 h2
  have : eqHit w term a x n = eqHit w term b x n := by unfold eqHit; rw [h3]
  rw [this]
 ·rfl
theorem lI {w : WorldT} {term a b x : Int} (h0 : 0 ≤ term) (h1 : term ≤ 1023) : ∀ (ns : List Int) (s : RL), AlikeP w.f (ns.foldl (eqN w term a x) s).1 a b → ns.foldl (eqN w term a x) s = ns.foldl (eqN w term b x) s
 | [], _, _ => rfl
 | n :: ns, s, h => by
  rw [EJ] at h
  have h2 : AlikeP w.f (eqN w term a x s n).1 a b := by
   obtain ⟨t, ht⟩ := gu (w := w) (term := term) (known := a) (a := x) ns (eqN w term a x s n)
   rw [ht] at h
   exact (eH h).1
  have e := xE h0 h1 s n h2
  rw [EJ, EJ, ← e]
  exact lI h0 h1 ns _ h
theorem lJ {w : WorldT} {term a b : Int} {ns : List Int} (h0 : 0 ≤ term) (h1 : term ≤ 1023) : ∀ (f i : Nat) (s : RL), AlikeP w.f (eqOut w term a ns f i s).1 a b → eqOut w term a ns f i s = eqOut w term b ns f i s
 | 0, _, _, _ => rfl
 | f + 1, i, s, h => by
  cases ha : s.2[i]? with
  | none => rw [eF ha, eF ha]
  | some x =>
   simp only [eqOut, ha] at h ⊢
   have h2 : AlikeP w.f (ib w term a ns x s).1 a b := by
    obtain ⟨t, ht⟩ := lH (w := w) (term := term) (known := a) (ns := ns) f (i + 1) (ib w term a ns x s)
    rw [ht] at h
    exact (eH h).1
   have e : ib w term a ns x s = ib w term b ns x s := lI h0 h1 ns s h2
   rw [← e]
   exact lJ h0 h1 f (i + 1) _ h
theorem xG {w : WorldT} {c term a b : Int} (hn : ae w.f a = ae w.f b) (h : AlikeP w.f (bg w c term a).1 a b) : bg w c term a = bg w c term b := by
 unfold bg at h ⊢
 cases hc : (!(decide (c ≥ 0) && decide (c ≤ 4095)) || !(decide (term ≥ 0) && decide (term ≤ 1023)))
 ·rw [hc] at h
  simp only [Fu, GE, DB, decide_eq_true_eq] at hc
  simp only at h ⊢
  unfold wQ
  unfold fJ at h ⊢
  rw [← hn]
  rw [lJ hc.2.1 hc.2.2 _ _ _ h]
 ·rfl
theorem qO {w : WorldT} {known term : Int} {m1 m2 : IM} : ∀ (ns : List Int) (s : RSM), (ns.foldl (nbF w known term m1 m2) s).1 = s.1 ++ ns.flatMap fun n => (bg w n term known).1
 | [], s => by simp
 | n :: ns, s => by
  rw [EJ, qO ns]
  simp [nbF, G0]
theorem qP {w : WorldT} {term a b : Int} {m1 m2 : IM} (hn : ae w.f a = ae w.f b) : ∀ (ns : List Int) (s : RSM), (∀ n ∈ ns, AlikeP w.f (bg w n term a).1 a b) → ns.foldl (nbF w a term m1 m2) s = ns.foldl (nbF w b term m1 m2) s
 | [], _, _ => rfl
 | n :: ns, s, h => by
  have e := xG (c := n) (term := term) hn (h n (by simp))
  have e2 : nbF w a term m1 m2 s n = nbF w b term m1 m2 s n := by
   unfold nbF seenOf; rw [e]
  rw [EJ, EJ, e2]
  exact qP hn ns _ fun x hx => h x (EM _ hx)
end Go.Vi
open Go Go.Proofs
namespace Go.Vi
set_option maxRecDepth 100000
set_option maxHeartbeats 1000000
abbrev cnA (w : WorldT) (known st term : Int) : List AttT × Int := qw (dm w known st term) (lS w known term (dm w known st term))
def u0 (w : WorldT) (st term known : Int) (now : List Int) : D := match (!(decide (st ≥ 0) && decide (st ≤ 19999)) || !(decide (term ≥ 0) && decide (term ≤ 1023))) with
 | true => nf 150
 | false => si w known term now (aN w known st term) (gb term (dm w known st term)) (dm w known st term) (cnA w known st term).1 (cnA w known st term).2
theorem nn {w : WorldT} (hw : w.ok) {st term known : Int} {now : List Int} (hn : now.length ≤ 1000) (hN : (ae w.f known).length ≤ 100) (h : List Blk) : Ev Du Γk 19 [.agg w.l, int st, int term, int known, ab (now.map fun n => [vi n])] h (u0 w st term known now) h := by
 unfold u0
 cases hb : (!(decide (st ≥ 0) && decide (st ≤ 19999)) || !(decide (term ≥ 0) && decide (term ≤ 1023)))
 ·have h1 := im hw (known := known) (st := st) (term := term)
  have h2 := fK hw (known := known) (st := st) (term := term)
  have h3 := jX term (dm w known st term)
  have h4 := CB (dm w known st term) (lS w known term (dm w known st term))
  exact sit_a hw hn (by unfold aj; omega) hN (by omega) (by unfold aj; omega) (by unfold aj; omega) (by simp only [ER, Ef, FF]; omega) (by simp only [ER]; omega) (Ar hw) (zc hw (by omega) (by omega)) hb h
 ·exact CE hb h
theorem zG {la : List AttT} {e : Int} (h : sitX la = .inr e) : (e != 0) = true := by
 unfold sitX at h
 split at h
 ·rename_i h1; cases h; exact h1
 ·split at h
  ·rename_i h2; cases h; exact h2
  ·simp at h
theorem uT {w : WorldT} {term a b : Int} {l : List AttT} (h : AlikeP w.f (gb term l) a b) : lS w a term l = lS w b term l := by
 unfold lS
 refine List.map_congr_left fun x hx => ?_
 rw [jA fun r hr => h r (by unfold gb; exact Ht.2 ⟨x, hx, hr⟩)]
theorem ip {w : WorldT} (h : cF w = true) (known : Int) : (ae w.f known).length ≤ 30 := Nat.le_trans d8 (qM h)
theorem mc {w : WorldT} (hw : w.ok0) {st term a b : Int} {now : List Int} (h : List Blk) : Ev Du Γk 13 [.agg w.l, int st, int term, int a, int b, ab (now.map fun n => [vi n])] h (bool true) h := by
 cases ho : (!cF w || decide (((now.map fun n => [vi n]).length : Int) > 10))
 ·have hr := ho
  simp only [Fu, GE, decide_eq_false_iff_not, Fh] at hr
  have hk := hw.few hr.1
  have hnow : now.length ≤ 1000 := by omega
  have hNa := ip hr.1 a
  have hNb := ip hr.1 b
  have hs := fun h => nn hk (st := st) (term := term) (known := a) hnow (by omega) h
  have hs2 := fun h => nn hk (st := st) (term := term) (known := b) hnow (by omega) h
  have err : ∀ e : Int, (e != 0) = true → u0 w st term a now = nf e → Ev Du Γk 13 [.agg w.l, int st, int term, int a, int b, ab (now.map fun n => [vi n])] h (bool true) h := fun e he hE => ra_err dS ho he (fun h => by have := hs h; rw [hE] at this; exact this) h
  cases hb : (!(decide (st ≥ 0) && decide (st ≤ 19999)) || !(decide (term ≥ 0) && decide (term ≤ 1023)))
  ·cases hsn : snR now with
   | inr u => exact err 150 rfl (by unfold u0 si; rw [hb]; simp only [hsn])
   | inl s =>
    cases hee : ((cnA w a st term).2 != 0)
    ·cases hx : sitX (cnA w a st term).1 with
     | inr e => exact err e (zG hx) (by unfold u0 si; rw [hb]; simp only [hsn, hee, hx])
     | inl u =>
      have hE : u0 w st term a now = sitOk ((smV (jJ w a term (dm w a st term) (aN w a st term ++ gb term (dm w a st term) ++ [rdN]) s.2).2).mergeSort leS) (mnI (bZ (cnA w a st term).1).1 10000) (db (cnA w a st term).1).1 (db (cnA w a st term).1).2.1 (jJ w a term (dm w a st term) (aN w a st term ++ gb term (dm w a st term) ++ [rdN]) s.2).1 := by
       unfold u0 si; rw [hb]; simp only [hsn, hee, hx]
      have hq : (jJ w a term (dm w a st term) (aN w a st term ++ gb term (dm w a st term) ++ [rdN]) s.2).1 = aN w a st term ++ gb term (dm w a st term) ++ [rdN] ++ (ae w.f a).flatMap fun n => (bg w n term a).1 := qO _ _
      have hqs : aj (jJ w a term (dm w a st term) (aN w a st term ++ gb term (dm w a st term) ++ [rdN]) s.2).1 := by
       rw [hq]
       have h1 := im hk (known := a) (st := st) (term := term)
       have h2 := fK hk (known := a) (st := st) (term := term)
       have h3 := jX term (dm w a st term)
       have h4 : ∀ ns : List Int, (ns.flatMap fun n => (bg w n term a).1).length ≤ ns.length * 1001001 := by
        intro ns
        induction ns with
        | nil => simp
        | cons n ns ih =>
         have := (ot (w := w) (c := n) (term := term) (known := a) (by omega)).1
         simp only [List.flatMap_cons, ER, Ef]; omega
       have h5 := h4 (ae w.f a)
       unfold aj
       simp only [ER, Ef, FF]
       omega
      rw [hE] at hs
      cases hal : ff w.f (jJ w a term (dm w a st term) (aN w a st term ++ gb term (dm w a st term) ++ [rdN]) s.2).1 a b
      ·exact ra_no hk.sf dS ho hqs hs (by rw [hal]; rfl) h
      ·have P := xy hal
       rw [hq] at P
       obtain ⟨P1, P4⟩ := eH P
       obtain ⟨P1, P3⟩ := eH P1
       obtain ⟨P1, P2⟩ := eH P1
       obtain ⟨e1, e2⟩ := xz P1
       have e3 := io P3
       have e4 := uT P2
       have ec : cnA w a st term = cnA w b st term := by unfold cnA; rw [← e2, e4]
       have en : jJ w a term (dm w a st term) (aN w a st term ++ gb term (dm w a st term) ++ [rdN]) s.2 = jJ w b term (dm w b st term) (aN w b st term ++ gb term (dm w b st term) ++ [rdN]) s.2 := by
        unfold jJ
        rw [← e1, ← e2, ← e3]
        exact qP e3 _ _ fun n hn r hr => P4 r (Ht.2 ⟨n, hn, hr⟩)
       have hE2 : u0 w st term b now = u0 w st term a now := by
        rw [hE]
        unfold u0 si; rw [hb]; simp only [hsn, ← ec, hee, hx, ← en]
       have hgood : ∀ known, xZ w st term known = (⟨st, dm w known st term⟩, aN w known st term, 0) := fun known => by
        unfold xZ sd
        have : (!(decide (st ≥ 0) && decide (st ≤ 19999)) || !(decide (term ≥ 0) && decide (term ≤ 1024))) = false := by
         simp only [Fu, GE, DB, decide_eq_true_eq] at hb ⊢
         omega
        rw [this]
       have hr1 := fun h => tD hk (st := st) (term := term) (known := a) h
       have hr2 := fun h => tD hk (st := st) (term := term) (known := b) h
       rw [hgood a] at hr1
       rw [hgood b, ← e1, ← e2] at hr2
       simp only at hr1 hr2
       have h1 := im hk (known := a) (st := st) (term := term)
       have h2 := fK hk (known := a) (st := st) (term := term)
       have hsl : aj ((smV (jJ w a term (dm w a st term) (aN w a st term ++ gb term (dm w a st term) ++ [rdN]) s.2).2).mergeSort leS) := by
        have := bB (w := w) (known := a) (term := term) (m1 := (aH (dm w a st term)).1) (m2 := (aH (dm w a st term)).2) (ns := ae w.f a) (rs := aN w a st term ++ gb term (dm w a st term) ++ [rdN]) hnow (by omega) hsn
        unfold aj
        simp only [List.length_mergeSort, smV, Fh]
        unfold jJ
        omega
       rw [hE2, hE] at hs2
       exact ra_ok (q2 := aN w a st term) (r := dm w a st term) hk.sf dS ho hsl hqs (by unfold aj; omega) (by unfold aj; omega) (rdne _) (rdne _) hs hs2 hr1 hr2 h
    ·exact err _ hee (by unfold u0 si; rw [hb]; simp only [hsn, hee])
  ·exact err 150 rfl (by unfold u0; rw [hb])
 ·exact ra_out dS ho h
end Go.Vi
open Go Go.Proofs
namespace Go.Vi
set_option maxRecDepth 100000
end Go.Vi
open Go Go.Proofs
namespace Go.Vi
set_option maxRecDepth 100000
set_option maxHeartbeats 400000
end Go.Vi
open Go Go.Proofs
namespace Go.Vi
open Go.ChangeShapes Go.WideShapes Go.ChangeAt Go.RowKit Go.Proofs.YtilebidefogaiaaGreatDoor
set_option maxRecDepth 100000
theorem iq : Du.cellsOf 3 = 1 := by kernel_rfl
theorem tQ : Du.cellsOf 9 = 1 := by kernel_rfl
theorem xH : Du.cellsOf 35 = 2 := by kernel_rfl
theorem CS : Du.cellsOf 72 = 1 := by kernel_rfl
theorem CT : Du.cellsOf 73 = 1 := by kernel_rfl
theorem CU : Du.cellsOf 74 = 1 := by kernel_rfl
theorem CV : Du.cellsOf 76 = 4 := by kernel_rfl
theorem CX : Du.cellsOf 87 = 2 := by kernel_rfl
theorem CY : Du.cellsOf 91 = 4 := by kernel_rfl
theorem CZ : Du.bytesOf 91 = 40 := by kernel_rfl
theorem C0 : Du.bytesOf 87 = 24 := by kernel_rfl
theorem zH : Du.bytesOf 102 = 32 := by kernel_rfl
theorem bb {n : Nat} {ds : List Dp} (h : Shp Du n 3 ds) : ∃ x, ds = [vi x] ∧ I64 x := by
 cases n with
 | zero => exact h.elim
 | succ n =>
  simp only [Shp, Tryz.underlying3] at h
  obtain ⟨x, rfl, hw⟩ := h
  refine ⟨x, rfl, ?_⟩
  have := bounds_i64 hw
  exact this
theorem oL {n : Nat} {ds : List Dp} (h : Shp Du n 9 ds) : ∃ s, ds = [vs s] := by
 cases n with
 | zero => exact h.elim
 | succ n =>
  simp only [Shp, Tryz.underlying9] at h
  obtain ⟨s, rfl, _⟩ := h
  exact ⟨s, rfl⟩
theorem xI {n : Nat} {ds : List Dp} (h : Shp Du n 35 ds) : ∃ a b, ds = [vi a, vi b] ∧ I64 a ∧ I64 b := by
 cases n with
 | zero => exact h.elim
 | succ n =>
  simp only [Shp, Tryz.underlying35, EE, iq, xH] at h
  obtain ⟨hl, h1, h2, _⟩ := h
  obtain ⟨a, e1, ha⟩ := bb h1
  obtain ⟨b, e2, hb⟩ := bb h2
  match ds, hl with
  | [x, y], _ =>
   simp at e1 e2
   subst e1; subst e2
   exact ⟨a, b, rfl, ha, hb⟩
theorem xJ {n : Nat} {ds : List Dp} (h : Shp Du n 91 ds) : ∃ c : Cls, ds = c.row ∧ c.ok := by
 cases n with
 | zero => exact h.elim
 | succ n =>
  simp only [Shp, Tryz.underlying91, EE, iq, tQ, xH, CY] at h
  obtain ⟨hl, h1, h2, h3, _⟩ := h
  obtain ⟨s, e1⟩ := oL h1
  obtain ⟨x, e2, hx⟩ := bb h2
  obtain ⟨a, b, e3, ha, hb⟩ := xI h3
  match ds, hl with
  | [p, q, r, t], _ =>
   simp at e1 e2 e3
   obtain ⟨rfl, rfl⟩ := e3
   subst e1; subst e2
   exact ⟨⟨s, x, a, b⟩, rfl, hx, ha, hb⟩
theorem C1 {n : Nat} {ds : List Dp} (h : Shp Du n 87 ds) : ∃ c : FeeT, ds = c.row ∧ I64 c.credits := by
 cases n with
 | zero => exact h.elim
 | succ n =>
  simp only [Shp, Tryz.underlying87, EE, iq, tQ, CX] at h
  obtain ⟨hl, h1, h2, _⟩ := h
  obtain ⟨s, e1⟩ := oL h1
  obtain ⟨x, e2, hx⟩ := bb h2
  match ds, hl with
  | [p, q], _ =>
   simp at e1 e2
   subst e1; subst e2
   exact ⟨⟨s, x⟩, rfl, hx⟩
theorem ir {α : Type} {row : α → List Dp} {ok : α → Prop} : ∀ {es : List (List Dp)}, (∀ r ∈ es, ∃ a, r = row a ∧ ok a) → ∃ l : List α, es = l.map row ∧ ∀ a ∈ l, ok a
 | [], _ => ⟨[], rfl, by simp⟩
 | r :: es, h => by
  obtain ⟨a, rfl, ha⟩ := h r (EX ..)
  obtain ⟨l, rfl, hl⟩ := ir (fun r hr => h r (EM _ hr))
  exact ⟨a :: l, rfl, fun b hb => (List.mem_cons.1 hb).elim (fun e => e ▸ ha) (hl b)⟩
theorem fZ {n k : Nat} (h : n * k ≤ reachBytes) (hk : 1 ≤ k) : n ≤ 140737488355328 := by
 have : n ≤ n * k := Nat.le_mul_of_pos_right n hk
 unfold reachBytes at h
 omega
theorem lK {n : Nat} {ds : List Dp} (h : Shp Du n 72 ds) : ∃ l : List Cls, ds = [.sl (l.map Cls.row)] ∧ (∀ c ∈ l, c.ok) ∧ aj l := by
 cases n with
 | zero => exact h.elim
 | succ n =>
  simp only [Shp, Tryz.underlying72, CZ] at h
  obtain ⟨es, rfl, hb, he⟩ := h
  obtain ⟨l, rfl, hl⟩ := ir (row := Cls.row) (ok := Cls.ok) (fun r hr => xJ (he r hr))
  exact ⟨l, rfl, hl, by have := fZ hb (by omega); simpa [aj] using this⟩
theorem zI {n : Nat} {ds : List Dp} (h : Shp Du n 73 ds) : ∃ l : List FeeT, ds = [.sl (l.map FeeT.row)] ∧ (∀ c ∈ l, I64 c.credits) ∧ aj l := by
 cases n with
 | zero => exact h.elim
 | succ n =>
  simp only [Shp, Tryz.underlying73, C0] at h
  obtain ⟨es, rfl, hb, he⟩ := h
  obtain ⟨l, rfl, hl⟩ := ir (row := FeeT.row) (ok := fun c => I64 c.credits) (fun r hr => C1 (he r hr))
  exact ⟨l, rfl, hl, by have := fZ hb (by omega); simpa [aj] using this⟩
end Go.Vi
open Go Go.Proofs
namespace Go.Vi
open Go.ChangeShapes Go.WideShapes Go.ChangeAt Go.RowKit Go.Proofs.YtilebidefogaiaaGreatDoor
set_option maxRecDepth 100000
theorem ownK : ownKnob Du.godebug = none := by kernel_rfl
theorem C2 : laidOutB Du = true := by kernel_rfl
def kd (a b c d : Bool) (f g : Value) : List Value := [.bool a, .bool b, .bool c, .bool d, f, g]
def kf (k : Nat) : Value := .func (.func k) #[] #[]
def kindsCells : List Value :=
 kd false false false false .nilFunc .nilFunc ++ kd false false false true (kf 257) (kf 258) ++ kd false false false true (kf 259) (kf 260) ++ kd false true false true (kf 261) (kf 262) ++
 kd false false false true (kf 263) (kf 264) ++ kd true true false false (kf 265) (kf 267) ++ kd true true false false (kf 269) (kf 270) ++ kd false true false false (kf 271) (kf 272) ++
 kd false true true false (kf 273) (kf 274) ++ kd true false false false (kf 266) (kf 275)
noncomputable def lL (os : Os) : World :=
 { World.holding Du os ⟨#[], #[], []⟩ with heap := (World.holding Du os ⟨#[], #[], []⟩).heap.modify 0 fun
   | .cells _ t frozen => .cells kindsCells.toArray t frozen
   | o => o }
theorem laid_met (os : Os) (args : Array Value) : laidMetH Du [("sizar/rules.kinds", FU)] ((lL os).forCall (fun _ _ => 0) ⟨#[], args, []⟩).memory :=
 laidMetH_of_parts3 (fuel := 8) (laidMet_nil _ _) (by kernel_rfl) (by kernel_rfl)
end Go.Vi
open Go Go.Proofs
namespace Go.Vi
open Go.ChangeShapes Go.WideShapes Go.ChangeAt Go.RowKit Go.Proofs.YtilebidefogaiaaGreatDoor
set_option maxRecDepth 100000
theorem C3 : Du.cellsOf 22 = 1 := by kernel_rfl
theorem C4 : Du.cellsOf 23 = 1 := by kernel_rfl
theorem C5 : Du.cellsOf 24 = 1 := by kernel_rfl
theorem xK : Du.cellsOf 26 = 3 := by kernel_rfl
theorem C6 : Du.cellsOf 27 = 1 := by kernel_rfl
theorem C7 : Du.cellsOf 29 = 4 := by kernel_rfl
theorem xL : Du.cellsOf 56 = 3 := by kernel_rfl
theorem xM : Du.cellsOf 58 = 2 := by kernel_rfl
theorem C8 : Du.cellsOf 60 = 8 := by kernel_rfl
theorem xN : Du.cellsOf 102 = 4 := by kernel_rfl
theorem zJ : Du.cellsOf 109 = 1 := by kernel_rfl
theorem tR : Du.cellsOf 111 = 6 := by kernel_rfl
theorem zK : Du.cellsOf 113 = 16 := by kernel_rfl
theorem C9 : Du.bytesOf 76 = 96 := by kernel_rfl
theorem zL : Du.bytesOf 111 = 72 := by kernel_rfl
theorem zM : Du.bytesOf 113 = 184 := by kernel_rfl
theorem Da {n : Nat} {ds : List Dp} (h : Shp Du n 56 ds) : ∃ a b c, ds = [vi a, vi b, vi c] ∧ I64 a ∧ I64 b ∧ I64 c := by
 cases n with
 | zero => exact h.elim
 | succ n =>
  simp only [Shp, Tryz.underlying56, EE, iq, xL] at h
  obtain ⟨hl, h1, h2, h3, _⟩ := h
  obtain ⟨a, e1, ha⟩ := bb h1
  obtain ⟨b, e2, hb⟩ := bb h2
  obtain ⟨c, e3, hc⟩ := bb h3
  match ds, hl with
  | [p, q, r], _ =>
   simp at e1 e2 e3
   subst e1; subst e2; subst e3
   exact ⟨a, b, c, rfl, ha, hb, hc⟩
theorem zN {n : Nat} {ds : List Dp} (h : Shp Du n 58 ds) : ∃ a b, ds = [vi a, vi b] ∧ I64 a ∧ I64 b := by
 cases n with
 | zero => exact h.elim
 | succ n =>
  simp only [Shp, Tryz.underlying58, EE, iq, xM] at h
  obtain ⟨hl, h1, h2, _⟩ := h
  obtain ⟨a, e1, ha⟩ := bb h1
  obtain ⟨b, e2, hb⟩ := bb h2
  match ds, hl with
  | [p, q], _ =>
   simp at e1 e2
   subst e1; subst e2
   exact ⟨a, b, rfl, ha, hb⟩
theorem zO {n : Nat} {ds : List Dp} (h : Shp Du n 60 ds) : ∃ f : FactT, ds = f.row ∧ f.ok := by
 cases n with
 | zero => exact h.elim
 | succ n =>
  simp only [Shp, Tryz.underlying60, EE, iq, xL, xM, C8] at h
  obtain ⟨hl, h1, h2, h3, h4, h5, _⟩ := h
  obtain ⟨a, b, c, e1, ha, hb, hc⟩ := Da h1
  obtain ⟨d, e2, hd⟩ := bb h2
  obtain ⟨x, y, e3, hx, hy⟩ := zN h3
  obtain ⟨k, e4, hk⟩ := bb h4
  obtain ⟨m, e5, hm⟩ := bb h5
  match ds, hl with
  | [p1, p2, p3, p4, p5, p6, p7, p8], _ =>
   simp at e1 e2 e3 e4 e5
   obtain ⟨rfl, rfl, rfl⟩ := e1
   obtain ⟨rfl, rfl⟩ := e3
   subst e2; subst e4; subst e5
   exact ⟨⟨a, b, c, d, x, y, k, m⟩, rfl, ha, hb, hc, hd, hx, hy, hk, hm⟩
theorem xO {n : Nat} {ds : List Dp} (h : Shp Du n 27 ds) : ∃ l : List FactT, ds = [.sl (l.map FactT.row)] ∧ (∀ c ∈ l, c.ok) := by
 cases n with
 | zero => exact h.elim
 | succ n =>
  simp only [Shp, Tryz.underlying27] at h
  obtain ⟨es, rfl, _, he⟩ := h
  obtain ⟨l, rfl, hl⟩ := ir (row := FactT.row) (ok := FactT.ok) (fun r hr => zO (he r hr))
  exact ⟨l, rfl, hl⟩
theorem np : ∀ {ks : List RuleT}, (∀ k ∈ ks, k.ok) → kY ks
 | [], _ => trivial
 | k :: ks, h => ⟨h k (EX ..), np fun x hx => h x (EM _ hx)⟩
theorem oM : ∀ {n : Nat} {ds : List Dp}, Shp Du n 111 ds → ∃ r : RuleT, ds = r.row ∧ r.ok
 | 0, _, h => h.elim
 | 1, _, h => by
  simp only [Shp, Jg, EE] at h
  exact h.2.1.elim
 | n + 2, ds, h => by
  rw [Shp, Jg] at h
  simp only [EE, iq, tQ, zJ, tR] at h
  obtain ⟨hl, h1, h2, h3, h4, h5, h6, _⟩ := h
  obtain ⟨a, e1, ha⟩ := bb h1
  obtain ⟨b, e2, hb⟩ := bb h2
  obtain ⟨s, e3⟩ := oL h3
  obtain ⟨c, e4, hc⟩ := bb h4
  obtain ⟨d, e5, hd⟩ := bb h5
  rw [Shp, Tryz.underlying109] at h6
  simp only [zL] at h6
  obtain ⟨es, e6, hb6, he⟩ := h6
  obtain ⟨l, rfl, hk⟩ := ir (row := RuleT.row) (ok := RuleT.ok) (fun r hr => oM (he r hr))
  have hs : aj l := by have := fZ hb6 (by omega); simpa [aj] using this
  match ds, hl with
  | [p1, p2, p3, p4, p5, p6], _ =>
   simp at e1 e2 e3 e4 e5 e6
   subst e1; subst e2; subst e3; subst e4; subst e5; subst e6
   refine ⟨.mk a b s c d l, ?_, ?_⟩
   ·rw [RuleT.row, eY]
   ·rw [RuleT.ok]; exact ⟨⟨ha, hb, hc, hd, hs⟩, np hk⟩
theorem uU {n : Nat} {ds : List Dp} (h : Shp Du n 113 ds) : ∃ c : CourseT, ds = c.row ∧ c.ok := by
 cases n with
 | zero => exact h.elim
 | succ n =>
  rw [Shp, Tryz.underlying113] at h
  simp only [EE, iq, tQ, tR, zK] at h
  obtain ⟨hl, h1, h2, h3, h4, h5, h6, _⟩ := h
  obtain ⟨s, e1⟩ := oL h1
  obtain ⟨a, e2, _⟩ := bb h2
  obtain ⟨b, e3, _⟩ := bb h3
  obtain ⟨c, e4, _⟩ := bb h4
  obtain ⟨r, e5, hr⟩ := oM h5
  obtain ⟨t, e6, ht⟩ := oM h6
  rw [← RuleT.fl_row] at e5 e6
  match ds, hl with
  | [p1, p2, p3, p4, p5, p6, p7, p8, p9, p10, p11, p12, p13, p14, p15, p16], _ =>
   simp [RuF.row] at e1 e2 e3 e4 e5 e6
   obtain ⟨rfl, rfl, rfl, rfl, rfl, rfl⟩ := e5
   obtain ⟨rfl, rfl, rfl, rfl, rfl, rfl⟩ := e6
   subst e1; subst e2; subst e3; subst e4
   exact ⟨⟨s, a, b, c, r, t⟩, rfl, hr, ht⟩
theorem ss {n : Nat} {ds : List Dp} (h : Shp Du n 22 ds) : ∃ l : List CourseT, ds = [.sl (l.map DF)] ∧ (∀ c ∈ l, c.ok) ∧ aj l := by
 cases n with
 | zero => exact h.elim
 | succ n =>
  simp only [Shp, Tryz.underlying22, zM] at h
  obtain ⟨es, rfl, hb, he⟩ := h
  obtain ⟨l, rfl, hl⟩ := ir (row := DF) (ok := CourseT.ok) (fun r hr => uU (he r hr))
  exact ⟨l, rfl, hl, by have := fZ hb (by omega); simpa [aj] using this⟩
theorem su {n : Nat} {ds : List Dp} (h : Shp Du n 102 ds) : ∃ c : ClauseT, ds = c.row ∧ True := by
 cases n with
 | zero => exact h.elim
 | succ n =>
  simp only [Shp, Tryz.underlying102, EE, iq, xN] at h
  obtain ⟨hl, h1, h2, h3, h4, _⟩ := h
  obtain ⟨a, e1, _⟩ := bb h1
  obtain ⟨b, e2, _⟩ := bb h2
  obtain ⟨c, e3, _⟩ := bb h3
  obtain ⟨d, e4, _⟩ := bb h4
  match ds, hl with
  | [p, q, r, t], _ =>
   simp at e1 e2 e3 e4
   subst e1; subst e2; subst e3; subst e4
   exact ⟨⟨a, b, c, d⟩, rfl, trivial⟩
theorem zP {n : Nat} {ds : List Dp} (h : Shp Du n 76 ds) : ∃ s : SysT, ds = s.row ∧ s.ok := by
 cases n with
 | zero => exact h.elim
 | succ n =>
  simp only [Shp, Tryz.underlying76, EE, CS, CT, CU, CV] at h
  obtain ⟨hl, h1, h2, h3, h4, _⟩ := h
  obtain ⟨a, e1, a1, a2⟩ := lK h1
  obtain ⟨b, e2, b1, b2⟩ := zI h2
  obtain ⟨c, e3, c1, c2⟩ := lK h3
  have h5 : ∃ l : List ClauseT, (List.take 1 (List.drop 3 ds)) = [.sl (l.map ClauseT.row)] ∧ aj l := by
   cases n with
   | zero => exact h4.elim
   | succ n =>
    simp only [Shp, Tryz.underlying74, zH] at h4
    obtain ⟨es, e, hb, he⟩ := h4
    obtain ⟨l, rfl, _⟩ := ir (row := ClauseT.row) (ok := fun _ => True) (fun r hr => su (he r hr))
    exact ⟨l, e, by have := fZ hb (by omega); simpa [aj] using this⟩
  obtain ⟨d, e4, d1⟩ := h5
  match ds, hl with
  | [p, q, r, t], _ =>
   simp at e1 e2 e3 e4
   subst e1; subst e2; subst e3; subst e4
   exact ⟨⟨a, b, c, d⟩, rfl, ⟨a1, c1, b1, a2, c2, b2, by simpa [aj, SysT.sys] using d1⟩⟩
theorem sv {n : Nat} {ds : List Dp} (h : Shp Du n 24 ds) : ∃ l : List SysT, ds = [.sl (l.map SysT.row)] ∧ (∀ c ∈ l, c.ok) ∧ aj l := by
 cases n with
 | zero => exact h.elim
 | succ n =>
  simp only [Shp, Tryz.underlying24, C9] at h
  obtain ⟨es, rfl, hb, he⟩ := h
  obtain ⟨l, rfl, hl⟩ := ir (row := SysT.row) (ok := SysT.ok) (fun r hr => zP (he r hr))
  exact ⟨l, rfl, hl, by have := fZ hb (by omega); simpa [aj] using this⟩
theorem xP {n : Nat} {ds : List Dp} (h : Shp Du n 23 ds) : ∃ l, ds = [.sl l] := by
 cases n with
 | zero => exact h.elim
 | succ n =>
  simp only [Shp, Tryz.underlying23] at h
  obtain ⟨es, rfl, _⟩ := h
  exact ⟨es, rfl⟩
theorem xQ {n : Nat} {ds : List Dp} (h : Shp Du n 29 ds) : ∃ w : WorldT, ds.map .p = w.l ∧ w.ok0 := by
 cases n with
 | zero => exact h.elim
 | succ n =>
  rw [Shp, Tryz.underlying29] at h
  simp only [EE, xK, C6, C7] at h
  obtain ⟨hl, h1, h2, _⟩ := h
  obtain ⟨f, e4, hf⟩ := xO h2
  cases n with
  | zero => exact h1.elim
  | succ n =>
   rw [Shp, Tryz.underlying26] at h1
   simp only [EE, C3, C4, C5, xK] at h1
   obtain ⟨_, g1, g2, g3, _⟩ := h1
   obtain ⟨c, e1, c1, c2⟩ := ss g1
   obtain ⟨p, e2⟩ := xP g2
   obtain ⟨s, e3, s1, s2⟩ := sv g3
   match ds, hl with
   | [x, y, z, t], _ =>
    simp at e1 e2 e3 e4
    subst e1; subst e2; subst e3; subst e4
    exact ⟨⟨c, p, s, f⟩, rfl, ⟨c1, s1, c2, s2, hf⟩⟩
end Go.Vi
open Go Go.Proofs
namespace Go.Vi
open Go.ChangeShapes Go.WideShapes Go.ChangeAt Go.RowKit Go.Proofs.YtilebidefogaiaaGreatDoor
set_option maxRecDepth 100000
def plainW : List TypeId := [3, 4, 9, 22, 23, 24, 26, 27, 29, 30, 35, 56, 58, 60, 72, 73, 74, 76, 87, 91, 102, 109, 111, 113, 294, 296, 298, 300]
theorem Db : tj Du plainW = true := by kernel_rfl
theorem xR {H : Type} {enc : TypeId × Value → H} {W : World} {base : Nat} {v : Value} {d : DataW H} {p : List MemPlace}
  (hok : Hz Du W .any base 29 v) (h : DataW.Trod enc Du W 0 (fun _ => true) true 29 v d p) (hw : (d.weights Du 29).all (· ≤ reachBytes) = true) :
  ∃ w : WorldT, w.ok0 ∧ Rel W (avs (fun _ => False) (fun _ => none) []) (fun _ => none) [] (.agg w.l) v := by
 unfold Hz at hok
 rw [Tryz.underlying29] at hok
 obtain ⟨cs, rfl, _, _⟩ := hok
 obtain ⟨fuel, hf⟩ := h
 obtain ⟨ds, h1, h2⟩ := mQ Db od fuel 29 _ d p (by decide) hf hw
 obtain ⟨w, e, hw0⟩ := xQ h1
 refine ⟨w, hw0, ?_⟩
 rw [← e]
 simp only [Rel]
 exact ⟨cs, rfl, h2.relL⟩
end Go.Vi
open Go Go.Proofs
namespace Go.Vi
open Go.ChangeShapes Go.WideShapes Go.ChangeAt Go.RowKit Go.Proofs.YtilebidefogaiaaGreatDoor
set_option maxRecDepth 100000
def lookF (P : Program) (ks : List Nat) (bs : List UInt8) : Option Nat := ks.find? fun k => match P.funcs[k]? with
 | some fn => (fn.name.toUTF8.data.toList == bs) && (P.funcNamed fn.name == some k)
 | none => false
theorem zQ {s t : String} (h : s.toUTF8.data.toList = t.toUTF8.data.toList) : s = t := by
 have h1 : s.toUTF8 = t.toUTF8 := by
  cases hs : s.toUTF8; cases ht : t.toUTF8
  rw [hs, ht] at h
  congr 1
  exact Array.toList_inj.1 h
 exact String.toByteArray_inj.1 h1
theorem sw {P : Program} {ks : List Nat} {t : TypeId} {v : Value} {b : UInt8} {r : List UInt8} {k : Nat} (hv : funcToken P (t, v) = b :: r) (hk : lookF P ks (b :: r) = some k) : v = .func (.func k) #[] #[] := by
 obtain ⟨f, fn, rfl, h1, h2, h3⟩ := funcToken_tells hv
 have h4 := List.find?_some hk
 split at h4
 ·rename_i fn' hfn
  simp only [DB, beq_iff_eq] at h4
  have : fn.name = fn'.name := zQ (h3.trans h4.1.symm)
  rw [this, h4.2] at h2
  cases h2
  rfl
 ·simp at h4
def expect (P : Program) (ks : List Nat) : Nat → TypeId → DataW (List UInt8) → Option (List Value)
 | 0, _, _ => none
 | n + 1, t, d => match P.underlying t with
  | some .bool => match d with
   | .lit (.bool b) => some [.bool b]
   | _ => none
  | some (.func ..) => match d with
   | .nil => some [.nilFunc]
   | .held (b :: r) => (lookF P ks (b :: r)).map fun k => [.func (.func k) #[] #[]]
   | _ => none
  | some (.struct fs) => match d with
   | .agg ds => if cQ P fs.toList 0 (P.cellsOf t) then (zipE (fun f d => expect P ks n f d) (fs.toList.map (·.type)) ds) else none
   | _ => none
  | some (.array m e) => match d with
   | .agg ds => if decide (P.cellsOf t = m * P.cellsOf e) = true then zipE (fun f d => expect P ks n f d) (D5 m e) ds else none
   | _ => none
  | _ => none
where
 zipE (g : TypeId → DataW (List UInt8) → Option (List Value)) : List TypeId → List (DataW (List UInt8)) → Option (List Value)
  | [], [] => some []
  | t :: ts, d :: ds => (g t d).bind fun a => (zipE g ts ds).map fun b => a ++ b
  | _, _ => none
theorem qQ {P : Program} {g : TypeId → DataW (List UInt8) → Option (List Value)} {tr : TypeId → List Value → Option (DataW (List UInt8) × List MemPlace)} {cs : List Value}
  (hg : ∀ t d ys, g t d = some ys → ∀ c p, tr t c = some (d, p) → c = ys) : ∀ (fs : List Field) (acc : Nat) (xs : List (DataW (List UInt8) × List MemPlace)) (ys : List Value),
  (fs.mapM fun f => tr f.type ((cs.drop f.offset).take (P.cellsOf f.type))) = some xs → cQ P fs acc cs.length = true → expect.zipE g (fs.map (·.type)) (xs.map (·.1)) = some ys → cs.drop acc = ys
 | [], acc, xs, ys, hm, hc, hz => by
  simp at hm
  subst hm
  simp [expect.zipE] at hz
  subst hz
  simp [cQ] at hc
  simp [hc]
 | f :: fs, acc, xs, ys, hm, hc, hz => by
  simp only [Iu, ID, F4, Option.pure_def, Dv] at hm
  obtain ⟨x, hx, xs', hxs, rfl⟩ := hm
  simp only [cQ, DB, beq_iff_eq] at hc
  simp only [EH, expect.zipE, F4, DD] at hz
  obtain ⟨a, ha, b, hb, rfl⟩ := hz
  have h1 := hg _ _ _ ha _ x.2 (by rw [hx])
  have h2 := qQ hg fs _ xs' b hxs hc.2 hb
  rw [← h1, ← h2, hc.1, ← Hv, IE]
theorem tS {e : TypeId} {c : Nat} {g : TypeId → DataW (List UInt8) → Option (List Value)} {tr : TypeId → List Value → Option (DataW (List UInt8) × List MemPlace)} {cs : List Value}
  (hg : ∀ t d ys, g t d = some ys → ∀ c p, tr t c = some (d, p) → c = ys) : ∀ (n k : Nat) (xs : List (DataW (List UInt8) × List MemPlace)) (ys : List Value),
  ((List.range' k n).mapM fun i => tr e ((cs.drop (i * c)).take c)) = some xs → cs.length = (k + n) * c → expect.zipE g (D5 n e) (xs.map (·.1)) = some ys → cs.drop (k * c) = ys
 | 0, k, xs, ys, hm, hc, hz => by
  simp at hm
  subst hm
  simp [expect.zipE] at hz
  subst hz
  exact List.drop_eq_nil_of_le (by rw [hc]; simp)
 | n + 1, k, xs, ys, hm, hc, hz => by
  rw [List.range'_succ] at hm
  simp only [Iu, ID, F4, Option.pure_def, Dv] at hm
  obtain ⟨x, hx, xs', hxs, rfl⟩ := hm
  rw [List.replicate_succ] at hz
  simp only [EH, expect.zipE, F4, DD] at hz
  obtain ⟨a, ha, b, hb, rfl⟩ := hz
  have h1 := hg _ _ _ ha _ x.2 (by rw [hx])
  have h2 := tS hg n (k + 1) xs' b hxs (by rw [hc]; congr 1; omega) hb
  rw [← h1, ← h2, Nat.add_mul, Nat.one_mul, ← Hv, IE]
theorem lM {P : Program} {ks : List Nat} {w : World} {sp : Nat → Bool} : ∀ (n : Nat) (t : TypeId) (d : DataW (List UInt8)) (ys : List Value), expect P ks n t d = some ys → ∀ (fuel : Nat) (cs : List Value) (p : List MemPlace), GL (funcToken P) P w 0 sp true fuel t cs = some (d, p) → cs = ys
 | 0, _, _, _, h => by simp [expect] at h
 | n + 1, t, d, ys, h => by
  intro fuel cs p ht
  cases fuel with
  | zero => simp [GL] at ht
  | succ fuel =>
   unfold expect at h
   unfold GL at ht
   cases hu : P.underlying t with
   | none => rw [hu] at h; simp at h
   | some td =>
    rw [hu] at h ht
    cases td with
    | bool =>
     simp only at h ht
     split at h
     ·split at ht <;> simp_all
     ·simp at h
    | func a b c =>
     simp only at h ht
     split at h
     ·split at ht <;> simp_all
     ·rename_i b r
      obtain ⟨k, hk, rfl⟩ := DD.1 h
      split at ht
      all_goals (try (simp_all; done))
      ·rename_i fn first captured _ _
       simp only [if_true, Dv, Dx, DataW.held.injEq] at ht
       rw [sw ht.1 hk]
     ·simp at h
    | struct fs =>
     simp only at h ht
     split at h
     ·split at h
      ·rename_i hc
       split at ht
       ·rename_i hl
        obtain ⟨xs, hxs, he⟩ := DD.1 ht
        simp only [Dx, IW] at he
        obtain ⟨rfl, _⟩ := he
        have := qQ (tr := fun t c => GL (funcToken P) P w 0 sp true fuel t c) (fun t d ys hg c p hp => lM n t d ys hg fuel c p hp) fs.toList 0 xs ys hxs (by rw [hl]; exact hc) h
        simpa using this
       ·simp at ht
      ·simp at h
     ·simp at h
    | array m e =>
     simp only at h ht
     split at h
     ·split at ht
      ·rename_i hl
       obtain ⟨xs, hxs, he⟩ := DD.1 ht
       simp only [Dx, IW] at he
       obtain ⟨rfl, _⟩ := he
       split at h
       ·rename_i hc
        rw [List.range_eq_range'] at hxs
        have := tS (tr := fun t c => GL (funcToken P) P w 0 sp true fuel t c) (fun t d ys hg c p hp => lM n t d ys hg fuel c p hp) m 0 xs ys hxs (by rw [hl, Nat.zero_add]; exact of_decide_eq_true hc) h
        simpa using this
       ·simp at h
      ·simp at ht
     ·simp at h
    | _ => simp at h
end Go.Vi
open Go Go.Proofs
namespace Go.Vi
open Go.ChangeShapes Go.WideShapes Go.ChangeAt Go.RowKit Go.Proofs.YtilebidefogaiaaGreatDoor
set_option maxRecDepth 100000
def Dc : List Nat := [257, 258, 259, 260, 261, 262, 263, 264, 265, 267, 269, 270, 271, 272, 273, 274, 266, 275]
def kindsW : DataW Unit := match (FU : DataW Unit) with
 | .iface _ d => d
 | d => d
theorem lO : Du.globalNamed "sizar/rules.kinds" = some 0 := by kernel_rfl
noncomputable def Aw : TypeId := ((Du.globals[0]?).map (·.type)).getD 0
theorem uV : (Du.globals[0]?).map (·.type) = some Aw := by kernel_rfl
theorem qR : expect Du Dc 4 Aw kindsW.funcsOut = some kindsCells := by kernel_rfl
theorem sx {W : World} (h : laidMetH Du [("sizar/rules.kinds", FU)] W) : ∃ cs : Array Value, W.var? Du "sizar/rules.kinds" = some cs ∧ cs.toList = kindsCells := by
 obtain ⟨g, t, cs, fuel, p, h1, h2, h3, h4⟩ := laidMetH.funcs h (n := "sizar/rules.kinds") (d := kindsW) (List.mem_singleton.2 rfl)
 rw [lO] at h1
 cases h1
 rw [uV] at h2
 cases h2
 exact ⟨cs, h3, lM 4 _ _ _ qR fuel _ _ h4⟩
theorem nr {w : World} {av : Nat → Prop} {blk : Nat} {cs : Array Value} (hb : ∀ off, w.cell? ⟨blk, off, none⟩ = cs[off]?) (hav : ∀ k, ¬ av k) : ∀ (ys : List Value) (off : Nat), cs.toList.drop off = ys → RelCells w av blk off (ys.map .v)
 | [], _, _ => by simp [RelCells]
 | y :: ys, off, h => by
  have h1 : cs[off]? = some y := by
   have := congrArg List.head? h
   rw [List.head?_drop] at this
   simpa using this
  have h2 : cs.toList.drop (off + 1) = ys := by
   rw [← Hv, h]; rfl
  simp only [EH, RelCells]
  exact ⟨⟨hav blk, y, by rw [hb, h1], by simp [RelP]⟩, nr hb hav ys (off + 1) h2⟩
theorem xS : wn = kindsCells.map .v := rfl
theorem xU {W : World} (h : laidMetH Du [("sizar/rules.kinds", FU)] W) : ∀ g cs, Γk g = some cs → RelCells W (avs (fun _ => False) (fun _ => none) []) g 0 cs := by
 intro g cs hg
 obtain ⟨xs, h1, h2⟩ := sx h
 have h0 : g = 0 ∧ cs = wn := by
  unfold Γk at hg
  split at hg
  ·exact ⟨rfl, (Option.some.inj hg).symm⟩
  ·simp at hg
 obtain ⟨rfl, rfl⟩ := h0
 rw [xS]
 refine nr (cs := xs) (fun off => ?_) od _ 0 (by rw [List.drop_zero, h2])
 rw [World.var?, lO] at h1
 simp only [Option.bind_some] at h1
 unfold World.cell?
 split at h1
 ·rename_i c a b hh
  cases h1
  simp only [hh]
  rfl
 ·simp at h1
end Go.Vi
open Go Go.Proofs
namespace Go.Vi
open Go.ChangeShapes Go.WideShapes Go.ChangeAt Go.RowKit Go.Proofs.YtilebidefogaiaaGreatDoor
set_option maxRecDepth 100000
theorem Dd : tj Du [3, 30] = true := by kernel_rfl
theorem De : Du.bytesOf 3 = 8 := by kernel_rfl
theorem zR {n : Nat} {ds : List Dp} (h : Shp Du n 30 ds) : ∃ l : List Int, ds = [.sl (l.map fun n : Int => [vi n])] := by
 cases n with
 | zero => exact h.elim
 | succ n =>
  simp only [Shp, HC, De] at h
  obtain ⟨es, rfl, hb, he⟩ := h
  obtain ⟨l, rfl, _⟩ := ir (row := fun n : Int => [vi n]) (ok := fun _ => True) (fun r hr => by obtain ⟨x, e, _⟩ := bb (he r hr); exact ⟨x, e, trivial⟩)
  exact ⟨l, rfl⟩
theorem zS {H : Type} {enc : TypeId × Value → H} {W : World} {base : Nat} {v : Value} {d : DataW H} {p : List MemPlace}
  (hok : Hz Du W .any base 30 v) (h : DataW.Trod enc Du W 0 (fun _ => true) true 30 v d p) (hw : (d.weights Du 30).all (· ≤ reachBytes) = true) :
  ∃ now : List Int, Rel W (avs (fun _ => False) (fun _ => none) []) (fun _ => none) [] (ab (now.map fun n => [vi n])) v := by
 obtain ⟨fuel, hf⟩ := h
 unfold Hz at hok
 rw [HC] at hok
 have hc : v.cells.toList = [v] := by
  cases v <;> first | rfl | skip
  unfold Cell.okWide at hok
  rw [HC] at hok
  exact hok.elim
 rw [hc] at hf
 obtain ⟨ds, h1, h2⟩ := mQ Dd od fuel 30 _ d p (by decide) hf hw
 obtain ⟨l, rfl⟩ := zR h1
 refine ⟨l, ?_⟩
 simp only [RelPL, and_true] at h2
 simpa [ab, Rel] using h2
end Go.Vi
