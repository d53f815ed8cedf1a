/- A part of the proof; no conditions of its own. -/
import Derived.Test.YtgalafpinkflfaaGreatDoorW13
open Bool renaming true->J,false->N
open Option renaming some->G,none->Y
open Go.Vi.SOp renaming frz->zed
open Go.Vi.F2 renaming var->iI,ν->S3
open Go.Vi.D renaming agg->uT,any->ZG,ref->mW
open Go.Vi.Ref renaming ptr->J0
open Decidable renaming decide -> lL
open List renaming map -> S2, take -> TU, drop -> TP, length_map -> Uw, all -> Tq, length -> S7, mem_map -> T2, mem_of_mem_drop -> Wz, mem_of_mem_take -> XR, map_append -> Uh, all_append -> VG, length_append -> Uk, length_nil -> VF, length_cons -> Ue
open Go.Vi.L9 renaming row -> Tc
open Go.Vi.zcR renaming row -> Tj
open Go.Vi.JX renaming row -> Ta
open Go.Proofs.Tryz renaming prog -> S5
open Go.Vi.Ev renaming zlh -> Tp
open Int renaming tmod -> TY, toNat -> S9
open Go.IntKind renaming wrap -> S8, i64 -> S6
open BitVec renaming toNat -> Tu, ofInt -> Tg
open Go.Vi.D renaming p -> Us, zhz -> TL, agg -> TF
open Bool renaming and_eq_true -> Tm
open Go.Value renaming okWide -> Wg
open Go Go.Proofs
namespace Go.Vi
set_option maxRecDepth 100000
set_option maxHeartbeats 4000000
open Go.ChangeShapes Go.WideShapes Go.ChangeAt Go.RowKit Go.Proofs.YtgalafpinkflfaaGreatDoor
set_option maxRecDepth 100000
end Go.Vi
