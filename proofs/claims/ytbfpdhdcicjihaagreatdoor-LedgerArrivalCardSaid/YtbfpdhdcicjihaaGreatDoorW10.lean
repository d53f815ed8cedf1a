/- LedgerArrival: part of the proof: contracts of the functions that the law reaches, and the law. No conditions beyond the given statement's own. -/
import Derived.Test.YtbfpdhdcicjihaaGreatDoorW9
import Derived.Test.YtbfpdhdcicjihaaGreatDoorCards
import Derived.Test.YtbfpdhdcicjihaaGreatDoorTie
import Derived.WalkKit
import Derived.ProofKit
import Derived.OpenShut
import Derived.Deep.DeepHandedRow
import Derived.Lib.LaidTab
import Derived.LaidHandle
import Derived.LaidLaws
open Decidable renaming decide → Qd
open Go.Proofs.Tryz renaming prog → GV, f10 → Kf, f3 → K3, underlying22 → LB, underlying23 → LC
open List renaming map → GU, replicate → HA, map_map → Jz, mem_cons_of_mem → Jl, mem_cons_self → Ix, mem_map → HS, mem_cons → HB, not_mem_nil → JC, cons_append → KW, length_append → Hv, length_cons → HZ, length_nil → IP, length_map → HW, foldl_cons → K6, getElem?_eq_getElem → HE, mem_of_getElem? → HL, take_succ_eq_append_getElem → I4, filter_sublist → Lt, mem_filter → J7, mem_of_mem_take → Je, forall_mem_cons → Iz
open Go.Vi.MeT renaming row → Hm
open Go.Vi.GrT renaming row → Hn
open Go.Vi.BuT renaming row → G7
open Go.Vi.D renaming p → Hf, fn → Hy, agg → Hc
open Go.Vi.Dp renaming v → G2, sl → Hj
open Go.Value renaming iface → Hd, int → GW, bool → Ht, agg → Mu, slice → G8, string → My, okWide → Ly
open Go.IntKind renaming i64 → GY, wrap → G1, u8 → GZ
open Go.Fn renaming yield → Ig
open Go.Vi.Ev renaming castH → HU, frameX → Io, glob0 → Hx
open Go.Vi.Val renaming rows → Ie, rows_map → JL
open BitVec renaming ofNat → HY
open Bool renaming and_eq_true → G6
open Nat renaming le_trans → Jo
open Go.Vi.EntT renaming row → Hi
open Go.Vi.CW renaming loopN → Jb
open Int renaming tmod → Ni
open Go Go.Proofs
namespace Go.Vi
set_option maxRecDepth 100000
set_option maxHeartbeats 4000000
theorem vK{a b c d e:Int}{r1 r2 r3 r4:List (List Dp)}{s:ByteArray}:Ev GV Γ0 45 [.ref (.vec 0 0)] (H10 a b c d e r1 r2 r3 r4 s) (.agg [int 3,int 0,ad emp,.ref (.vec 3 0)]) (H10 a b c d e r1 r2 r3 r4 s++[.gone,.gone,.vec ([aG r1,ao a,ao b,ao c,ao d,ao e,aG r2,gj s,aG r3,aG r4].map dpR) 0 4]):=zz (l:=[.val r1,.num a,.num b,.num c,.num d,.num e,.val r2,.text s,.val r3,.val r4]) (by simp) (fun a b _=>bunOk a b)
noncomputable abbrev iD(e:EntT)(m:List (List Dp))(g:List (List Dp))(l:List (List Dp))(c:List (List Dp)):List Blk:=[.var [int e.time,int e.campus,int e.no,int e.kind,int e.stu,int e.obj,int e.term,int e.val,int e.frm,int e.til,ad e.text,int e.sec.id,int e.sec.course,int e.sec.term,int e.sec.campus,int e.sec.seats,aa (GU Hm e.sec.mts),aa (GU Hn e.sec.grs),aa (GU ab e.sec.labs),bool e.sec.lab,int e.req.campus,int e.req.no,int e.req.st,int e.req.kind,int e.req.time,aa (GU G7 e.req.chs),int e.req.gsec,int e.req.glab,int e.req.key,int e.r,int e.s],.var [int 0,int 0,ad {data:=#[]},nq],.var [int e.sec.id,int e.sec.course,int e.sec.term,int e.sec.campus,int e.sec.seats,aa (GU Hm e.sec.mts),aa (GU Hn e.sec.grs),aa (GU ab e.sec.labs),bool e.sec.lab],.var [int e.req.campus,int e.req.no,int e.req.st,int e.req.kind,int e.req.time,aa (GU G7 e.req.chs),int e.req.gsec,int e.req.glab,int e.req.key],.var [int 3,int 0,ad emp,aa m],.var [int 3,int 0,ad emp,aa g],.var [int 3,int 0,ad emp,aa l],.var [int 3,int 0,ad emp,aa c],.vec [[Hf (G2 (Hd 3 (GW GY e.time)))],[Hf (G2 (Hd 3 (GW GY e.campus)))],[Hf (G2 (Hd 3 (GW GY e.no)))]] 0 1,.vec [[Hf (G2 (Hd 3 (GW GY e.frm)))],[Hf (G2 (Hd 3 (GW GY e.til)))]] 0 1,.vec [[Hf (G2 (Hd 3 (GW GY e.sec.id)))],[Hf (G2 (Hd 3 (GW GY e.sec.course)))],[Hf (G2 (Hd 3 (GW GY e.sec.term)))],[Hf (G2 (Hd 3 (GW GY e.sec.campus)))],[Hf (G2 (Hd 3 (GW GY e.sec.seats)))],[Hy (Ig 104) [] [Hc [int 3,int 0,ad emp,aa m]]],[Hy (Ig 104) [] [Hc [int 3,int 0,ad emp,aa g]]],[Hy (Ig 104) [] [Hc [int 3,int 0,ad emp,aa l]]],[Hf (G2 (Hd 4 (Ht e.sec.lab)))]] 0 1,.vec [[Hf (G2 (Hd 3 (GW GY e.req.campus)))],[Hf (G2 (Hd 3 (GW GY e.req.no)))],[Hf (G2 (Hd 3 (GW GY e.req.st)))],[Hf (G2 (Hd 3 (GW GY e.req.kind)))],[Hf (G2 (Hd 3 (GW GY e.req.time)))],[Hy (Ig 104) [] [Hc [int 3,int 0,ad emp,aa c]]],[Hf (G2 (Hd 41 (Mu {toList:=[GW GY e.req.gsec,GW GY e.req.glab]})))],[Hf (G2 (Hd 3 (GW GY e.req.key)))]] 0 1]
noncomputable abbrev iG(e:EntT)(m:List (List Dp))(g:List (List Dp))(l:List (List Dp))(c:List (List Dp)):List Blk:=[.var [int e.time,int e.campus,int e.no,int e.kind,int e.stu,int e.obj,int e.term,int e.val,int e.frm,int e.til,ad e.text,int e.sec.id,int e.sec.course,int e.sec.term,int e.sec.campus,int e.sec.seats,aa (GU Hm e.sec.mts),aa (GU Hn e.sec.grs),aa (GU ab e.sec.labs),bool e.sec.lab,int e.req.campus,int e.req.no,int e.req.st,int e.req.kind,int e.req.time,aa (GU G7 e.req.chs),int e.req.gsec,int e.req.glab,int e.req.key,int e.r,int e.s],.var [int 0,int 0,ad {data:=#[]},nq],.var [int e.sec.id,int e.sec.course,int e.sec.term,int e.sec.campus,int e.sec.seats,aa (GU Hm e.sec.mts),aa (GU Hn e.sec.grs),aa (GU ab e.sec.labs),bool e.sec.lab],.var [int e.req.campus,int e.req.no,int e.req.st,int e.req.kind,int e.req.time,aa (GU G7 e.req.chs),int e.req.gsec,int e.req.glab,int e.req.key],.var [int 3,int 0,ad emp,aa m],.var [int 3,int 0,ad emp,aa g],.var [int 3,int 0,ad emp,aa l],.var [int 3,int 0,ad emp,aa c],.vec [[Hf (G2 (Hd 3 (GW GY e.time)))],[Hf (G2 (Hd 3 (GW GY e.campus)))],[Hf (G2 (Hd 3 (GW GY e.no)))]] 0 1,.vec [[Hf (G2 (Hd 3 (GW GY e.frm)))],[Hf (G2 (Hd 3 (GW GY e.til)))]] 0 1,.vec [[Hf (G2 (Hd 3 (GW GY e.sec.id)))],[Hf (G2 (Hd 3 (GW GY e.sec.course)))],[Hf (G2 (Hd 3 (GW GY e.sec.term)))],[Hf (G2 (Hd 3 (GW GY e.sec.campus)))],[Hf (G2 (Hd 3 (GW GY e.sec.seats)))],[Hy (Ig 104) [] [Hc [int 3,int 0,ad emp,aa m]]],[Hy (Ig 104) [] [Hc [int 3,int 0,ad emp,aa g]]],[Hy (Ig 104) [] [Hc [int 3,int 0,ad emp,aa l]]],[Hf (G2 (Hd 4 (Ht e.sec.lab)))]] 0 1]
noncomputable abbrev iH(e:EntT)(m:List (List Dp))(g:List (List Dp))(l:List (List Dp))(c:List (List Dp)):List Blk:=[.var [int e.time,int e.campus,int e.no,int e.kind,int e.stu,int e.obj,int e.term,int e.val,int e.frm,int e.til,ad e.text,int e.sec.id,int e.sec.course,int e.sec.term,int e.sec.campus,int e.sec.seats,aa (GU Hm e.sec.mts),aa (GU Hn e.sec.grs),aa (GU ab e.sec.labs),bool e.sec.lab,int e.req.campus,int e.req.no,int e.req.st,int e.req.kind,int e.req.time,aa (GU G7 e.req.chs),int e.req.gsec,int e.req.glab,int e.req.key,int e.r,int e.s],.var [int 0,int 0,ad {data:=#[]},nq],.var [int e.sec.id,int e.sec.course,int e.sec.term,int e.sec.campus,int e.sec.seats,aa (GU Hm e.sec.mts),aa (GU Hn e.sec.grs),aa (GU ab e.sec.labs),bool e.sec.lab],.var [int e.req.campus,int e.req.no,int e.req.st,int e.req.kind,int e.req.time,aa (GU G7 e.req.chs),int e.req.gsec,int e.req.glab,int e.req.key],.var [int 3,int 0,ad emp,aa m],.var [int 3,int 0,ad emp,aa g],.var [int 3,int 0,ad emp,aa l],.var [int 3,int 0,ad emp,aa c],.vec [[Hf (G2 (Hd 3 (GW GY e.time)))],[Hf (G2 (Hd 3 (GW GY e.campus)))],[Hf (G2 (Hd 3 (GW GY e.no)))]] 0 1,.vec [[Hf (G2 (Hd 3 (GW GY e.frm)))],[Hf (G2 (Hd 3 (GW GY e.til)))]] 0 1]
noncomputable abbrev iI(e:EntT)(m:List (List Dp))(g:List (List Dp))(l:List (List Dp))(c:List (List Dp)):List Blk:=[.var [int e.time,int e.campus,int e.no,int e.kind,int e.stu,int e.obj,int e.term,int e.val,int e.frm,int e.til,ad e.text,int e.sec.id,int e.sec.course,int e.sec.term,int e.sec.campus,int e.sec.seats,aa (GU Hm e.sec.mts),aa (GU Hn e.sec.grs),aa (GU ab e.sec.labs),bool e.sec.lab,int e.req.campus,int e.req.no,int e.req.st,int e.req.kind,int e.req.time,aa (GU G7 e.req.chs),int e.req.gsec,int e.req.glab,int e.req.key,int e.r,int e.s],.var [int 0,int 0,ad {data:=#[]},nq],.var [int e.sec.id,int e.sec.course,int e.sec.term,int e.sec.campus,int e.sec.seats,aa (GU Hm e.sec.mts),aa (GU Hn e.sec.grs),aa (GU ab e.sec.labs),bool e.sec.lab],.var [int e.req.campus,int e.req.no,int e.req.st,int e.req.kind,int e.req.time,aa (GU G7 e.req.chs),int e.req.gsec,int e.req.glab,int e.req.key],.var [int 3,int 0,ad emp,aa m],.var [int 3,int 0,ad emp,aa g],.var [int 3,int 0,ad emp,aa l],.var [int 3,int 0,ad emp,aa c],.vec [[Hf (G2 (Hd 3 (GW GY e.time)))],[Hf (G2 (Hd 3 (GW GY e.campus)))],[Hf (G2 (Hd 3 (GW GY e.no)))]] 0 1]
noncomputable abbrev xV(e:EntT)(m:List (List Dp))(g:List (List Dp))(l:List (List Dp)):List Blk:=[.var [int e.time,int e.campus,int e.no,int e.kind,int e.stu,int e.obj,int e.term,int e.val,int e.frm,int e.til,ad e.text,int e.sec.id,int e.sec.course,int e.sec.term,int e.sec.campus,int e.sec.seats,aa (GU Hm e.sec.mts),aa (GU Hn e.sec.grs),aa (GU ab e.sec.labs),bool e.sec.lab,int e.req.campus,int e.req.no,int e.req.st,int e.req.kind,int e.req.time,aa (GU G7 e.req.chs),int e.req.gsec,int e.req.glab,int e.req.key,int e.r,int e.s],.var [int 0,int 0,ad {data:=#[]},nq],.var [int e.sec.id,int e.sec.course,int e.sec.term,int e.sec.campus,int e.sec.seats,aa (GU Hm e.sec.mts),aa (GU Hn e.sec.grs),aa (GU ab e.sec.labs),bool e.sec.lab],.var [int e.req.campus,int e.req.no,int e.req.st,int e.req.kind,int e.req.time,aa (GU G7 e.req.chs),int e.req.gsec,int e.req.glab,int e.req.key],.var [int 3,int 0,ad emp,aa m],.var [int 3,int 0,ad emp,aa g],.var [int 3,int 0,ad emp,aa l]]
noncomputable abbrev xW(e:EntT)(m:List (List Dp))(g:List (List Dp)):List Blk:=[.var [int e.time,int e.campus,int e.no,int e.kind,int e.stu,int e.obj,int e.term,int e.val,int e.frm,int e.til,ad e.text,int e.sec.id,int e.sec.course,int e.sec.term,int e.sec.campus,int e.sec.seats,aa (GU Hm e.sec.mts),aa (GU Hn e.sec.grs),aa (GU ab e.sec.labs),bool e.sec.lab,int e.req.campus,int e.req.no,int e.req.st,int e.req.kind,int e.req.time,aa (GU G7 e.req.chs),int e.req.gsec,int e.req.glab,int e.req.key,int e.r,int e.s],.var [int 0,int 0,ad {data:=#[]},nq],.var [int e.sec.id,int e.sec.course,int e.sec.term,int e.sec.campus,int e.sec.seats,aa (GU Hm e.sec.mts),aa (GU Hn e.sec.grs),aa (GU ab e.sec.labs),bool e.sec.lab],.var [int e.req.campus,int e.req.no,int e.req.st,int e.req.kind,int e.req.time,aa (GU G7 e.req.chs),int e.req.gsec,int e.req.glab,int e.req.key],.var [int 3,int 0,ad emp,aa m],.var [int 3,int 0,ad emp,aa g]]
noncomputable abbrev xX(e:EntT)(m:List (List Dp)):List Blk:=[.var [int e.time,int e.campus,int e.no,int e.kind,int e.stu,int e.obj,int e.term,int e.val,int e.frm,int e.til,ad e.text,int e.sec.id,int e.sec.course,int e.sec.term,int e.sec.campus,int e.sec.seats,aa (GU Hm e.sec.mts),aa (GU Hn e.sec.grs),aa (GU ab e.sec.labs),bool e.sec.lab,int e.req.campus,int e.req.no,int e.req.st,int e.req.kind,int e.req.time,aa (GU G7 e.req.chs),int e.req.gsec,int e.req.glab,int e.req.key,int e.r,int e.s],.var [int 0,int 0,ad {data:=#[]},nq],.var [int e.sec.id,int e.sec.course,int e.sec.term,int e.sec.campus,int e.sec.seats,aa (GU Hm e.sec.mts),aa (GU Hn e.sec.grs),aa (GU ab e.sec.labs),bool e.sec.lab],.var [int e.req.campus,int e.req.no,int e.req.st,int e.req.kind,int e.req.time,aa (GU G7 e.req.chs),int e.req.gsec,int e.req.glab,int e.req.key],.var [int 3,int 0,ad emp,aa m]]
noncomputable abbrev xY(e:EntT):List Blk:=[.var [int e.time,int e.campus,int e.no,int e.kind,int e.stu,int e.obj,int e.term,int e.val,int e.frm,int e.til,ad e.text,int e.sec.id,int e.sec.course,int e.sec.term,int e.sec.campus,int e.sec.seats,aa (GU Hm e.sec.mts),aa (GU Hn e.sec.grs),aa (GU ab e.sec.labs),bool e.sec.lab,int e.req.campus,int e.req.no,int e.req.st,int e.req.kind,int e.req.time,aa (GU G7 e.req.chs),int e.req.gsec,int e.req.glab,int e.req.key,int e.r,int e.s],.var [int 0,int 0,ad {data:=#[]},nq],.var [int e.sec.id,int e.sec.course,int e.sec.term,int e.sec.campus,int e.sec.seats,aa (GU Hm e.sec.mts),aa (GU Hn e.sec.grs),aa (GU ab e.sec.labs),bool e.sec.lab],.var [int e.req.campus,int e.req.no,int e.req.st,int e.req.kind,int e.req.time,aa (GU G7 e.req.chs),int e.req.gsec,int e.req.glab,int e.req.key]]
theorem cont_b{e:EntT}{m g l c:List (List Dp)}
  (hm:∀h,Ev GV Γ0 77 [aa (e.sec.mts.map Hm),fq 78] h (liO m) h)
  (hg':∀h,Ev GV Γ0 79 [aa (e.sec.grs.map Hn),fq 80] h (liO g) h)
  (hl:∀h,Ev GV Γ0 81 [aa (e.sec.labs.map ab),fq 82] h (liO l) h)
  (hc:∀h,Ev GV Γ0 83 [aa (e.req.chs.map G7),fq 84] h (liO c) h)
  (h10:∀(a b c d e:Int) (r1 r2 r3 r4:List (List Dp)) (s:ByteArray),Ev GV Γ0 45 [.ref (.vec 0 0)] (H10 a b c d e r1 r2 r3 r4 s) (.agg [int 3,int 0,ad emp,.ref (.vec 3 0)]) (H10 a b c d e r1 r2 r3 r4 s++[.gone,.gone,.vec ([aG r1,ao a,ao b,ao c,ao d,ao e,aG r2,gj s,aG r3,aG r4].map dpR) 0 4])):(Ev GV Γ0 44 [ag e.row] [] (.agg [int 3,int 0,ad emp,.ref (.vec 15 0)]) (HA 15 .gone++[.vec ([aG [ao e.time,ao e.campus,ao e.no],ao e.kind,ao e.stu,ao e.obj,ao e.term,ao e.val,aG [ao e.frm,ao e.til],gj e.text,aG [ao e.sec.id,ao e.sec.course,ao e.sec.term,ao e.sec.campus,ao e.sec.seats,aG m,aG g,aG l,ao (bif e.sec.lab then 1 else 0)],aG [ao e.req.campus,ao e.req.no,ao e.req.st,ao e.req.kind,ao e.req.time,aG c,aG [ao e.req.gsec,ao e.req.glab],ao e.req.key]].map dpR) 0 4])):=by
 let v2:List D:=[int 3,int 0,ad emp,aa [[vi 1,vi e.req.campus,vs emp,G2 (G8 none 0 0)],[vi 1,vi e.req.no,vs emp,G2 (G8 none 0 0)],[vi 1,vi e.req.st,vs emp,G2 (G8 none 0 0)],[vi 1,vi e.req.kind,vs emp,G2 (G8 none 0 0)],[vi 1,vi e.req.time,vs emp,G2 (G8 none 0 0)],[vi 3,vi 0,vs emp,Hj c],[vi 3,vi 0,vs emp,Hj [[vi 1,vi e.req.gsec,vs emp,G2 (G8 none 0 0)],[vi 1,vi e.req.glab,vs emp,G2 (G8 none 0 0)]]],[vi 1,vi e.req.key,vs emp,G2 (G8 none 0 0)]]]
 let v3:List D:=[int 3,int 0,ad emp,aa [[vi 1,vi e.sec.id,vs emp,G2 (G8 none 0 0)],[vi 1,vi e.sec.course,vs emp,G2 (G8 none 0 0)],[vi 1,vi e.sec.term,vs emp,G2 (G8 none 0 0)],[vi 1,vi e.sec.campus,vs emp,G2 (G8 none 0 0)],[vi 1,vi e.sec.seats,vs emp,G2 (G8 none 0 0)],[vi 3,vi 0,vs emp,Hj m],[vi 3,vi 0,vs emp,Hj g],[vi 3,vi 0,vs emp,Hj l],[vi 1,vi (bif e.sec.lab then 1 else 0),vs emp,G2 (G8 none 0 0)]]]
 let v4:List D:=[int 3,int 0,ad emp,aa [[vi 1,vi e.time,vs emp,G2 (G8 none 0 0)],[vi 1,vi e.campus,vs emp,G2 (G8 none 0 0)],[vi 1,vi e.no,vs emp,G2 (G8 none 0 0)]]]
 let v5:List D:=[int e.sec.id,int e.sec.course,int e.sec.term,int e.sec.campus,int e.sec.seats,aa (GU Hm e.sec.mts),aa (GU Hn e.sec.grs),aa (GU ab e.sec.labs),bool e.sec.lab]
 let v6:List D:=[int e.time,int e.campus,int e.no,int e.kind,int e.stu,int e.obj,int e.term,int e.val,int e.frm,int e.til,ad e.text,int e.sec.id,int e.sec.course,int e.sec.term,int e.sec.campus,int e.sec.seats,aa (GU Hm e.sec.mts),aa (GU Hn e.sec.grs),aa (GU ab e.sec.labs),bool e.sec.lab,int e.req.campus,int e.req.no,int e.req.st,int e.req.kind,int e.req.time,aa (GU G7 e.req.chs),int e.req.gsec,int e.req.glab,int e.req.key,int e.r,int e.s]
 let v7:List D:=[int e.req.campus,int e.req.no,int e.req.st,int e.req.kind,int e.req.time,aa (GU G7 e.req.chs),int e.req.gsec,int e.req.glab,int e.req.key]
 let v8:List D:=[int 3,int 0,ad emp,aa [[vi 1,vi e.frm,vs emp,G2 (G8 none 0 0)],[vi 1,vi e.til,vs emp,G2 (G8 none 0 0)]]]
 let v9:List D:=[int 3,int 0,ad emp,aa c]
 let v10:List D:=[int 3,int 0,ad emp,aa m]
 let v11:List D:=[int 3,int 0,ad emp,aa g]
 let v12:List D:=[int 3,int 0,ad emp,aa l]
 let v0:List Blk:=[.var v6,.var [int 0,int 0,ad {data:=#[]},nq],.var v5,.var v7,.var v10,.var v11,.var v12,.var v9,.vec [[Hf (G2 (Hd 3 (GW GY e.time)))],[Hf (G2 (Hd 3 (GW GY e.campus)))],[Hf (G2 (Hd 3 (GW GY e.no)))]] 0 1,.vec [[Hf (G2 (Hd 3 (GW GY e.frm)))],[Hf (G2 (Hd 3 (GW GY e.til)))]] 0 1,.vec [[Hf (G2 (Hd 3 (GW GY e.sec.id)))],[Hf (G2 (Hd 3 (GW GY e.sec.course)))],[Hf (G2 (Hd 3 (GW GY e.sec.term)))],[Hf (G2 (Hd 3 (GW GY e.sec.campus)))],[Hf (G2 (Hd 3 (GW GY e.sec.seats)))],[Hy (Ig 104) [] [Hc v10]],[Hy (Ig 104) [] [Hc v11]],[Hy (Ig 104) [] [Hc v12]],[Hf (G2 (Hd 4 (Ht e.sec.lab)))]] 0 1,.vec [[Hf (G2 (Hd 3 (GW GY e.req.campus)))],[Hf (G2 (Hd 3 (GW GY e.req.no)))],[Hf (G2 (Hd 3 (GW GY e.req.st)))],[Hf (G2 (Hd 3 (GW GY e.req.kind)))],[Hf (G2 (Hd 3 (GW GY e.req.time)))],[Hy (Ig 104) [] [Hc v9]],[Hf (G2 (Hd 41 (Mu {toList:=[GW GY e.req.gsec,GW GY e.req.glab]})))],[Hf (G2 (Hd 3 (GW GY e.req.key)))]] 0 1,.vec [[Hy (Ig 104) [] [Hc v4]],[Hf (G2 (Hd 3 (GW GY e.kind)))],[Hf (G2 (Hd 3 (GW GY e.stu)))],[Hf (G2 (Hd 3 (GW GY e.obj)))],[Hf (G2 (Hd 3 (GW GY e.term)))],[Hf (G2 (Hd 3 (GW GY e.val)))],[Hy (Ig 104) [] [Hc v8]],[Hf (G2 (Hd 9 (My e.text)))],[Hy (Ig 104) [] [Hc v3]],[Hy (Ig 104) [] [Hc v2]]] 0 1,.gone,.gone,.vec [v4,[int 1,int e.kind,ad emp,nq],[int 1,int e.stu,ad emp,nq],[int 1,int e.obj,ad emp,nq],[int 1,int e.term,ad emp,nq],[int 1,int e.val,ad emp,nq],v8,[int 2,int 0,ad e.text,nq],v3,v2] 0 4]
 let v1:List Blk:=[.var v6,.var [int 0,int 0,ad {data:=#[]},nq],.var v5,.var v7,.var v10,.var v11,.var v12,.var v9,.vec [[Hf (G2 (Hd 3 (GW GY e.time)))],[Hf (G2 (Hd 3 (GW GY e.campus)))],[Hf (G2 (Hd 3 (GW GY e.no)))]] 0 1,.vec [[Hf (G2 (Hd 3 (GW GY e.frm)))],[Hf (G2 (Hd 3 (GW GY e.til)))]] 0 1,.vec [[Hf (G2 (Hd 3 (GW GY e.sec.id)))],[Hf (G2 (Hd 3 (GW GY e.sec.course)))],[Hf (G2 (Hd 3 (GW GY e.sec.term)))],[Hf (G2 (Hd 3 (GW GY e.sec.campus)))],[Hf (G2 (Hd 3 (GW GY e.sec.seats)))],[Hy (Ig 104) [] [Hc v10]],[Hy (Ig 104) [] [Hc v11]],[Hy (Ig 104) [] [Hc v12]],[Hf (G2 (Hd 4 (Ht e.sec.lab)))]] 0 1,.vec [[Hf (G2 (Hd 3 (GW GY e.req.campus)))],[Hf (G2 (Hd 3 (GW GY e.req.no)))],[Hf (G2 (Hd 3 (GW GY e.req.st)))],[Hf (G2 (Hd 3 (GW GY e.req.kind)))],[Hf (G2 (Hd 3 (GW GY e.req.time)))],[Hy (Ig 104) [] [Hc v9]],[Hf (G2 (Hd 41 (Mu {toList:=[GW GY e.req.gsec,GW GY e.req.glab]})))],[Hf (G2 (Hd 3 (GW GY e.req.key)))]] 0 1,.vec [[Hy (Ig 104) [] [Hc v4]],[Hf (G2 (Hd 3 (GW GY e.kind)))],[Hf (G2 (Hd 3 (GW GY e.stu)))],[Hf (G2 (Hd 3 (GW GY e.obj)))],[Hf (G2 (Hd 3 (GW GY e.term)))],[Hf (G2 (Hd 3 (GW GY e.val)))],[Hy (Ig 104) [] [Hc v8]],[Hf (G2 (Hd 9 (My e.text)))],[Hy (Ig 104) [] [Hc v3]],[Hy (Ig 104) [] [Hc v2]]] 0 1]
 let v13:=Hc [int e.req.gsec,int e.req.glab]
 let v14:List D:=[int 3,int 0,ad emp,.ref (.vec 15 0)]
 refine HU (Ev.goneAt [0,1,2,3,4,5,6,7,8,9,10,11,12,13,14] (Ev.of_sym (h':=[.var v6,.var v14,.var v5,.var v7,.var v10,.var v11,.var v12,.var v9,.vec [[Hf (G2 (Hd 3 (GW GY e.time)))],[Hf (G2 (Hd 3 (GW GY e.campus)))],[Hf (G2 (Hd 3 (GW GY e.no)))]] 0 1,.vec [[Hf (G2 (Hd 3 (GW GY e.frm)))],[Hf (G2 (Hd 3 (GW GY e.til)))]] 0 1,.vec [[Hf (G2 (Hd 3 (GW GY e.sec.id)))],[Hf (G2 (Hd 3 (GW GY e.sec.course)))],[Hf (G2 (Hd 3 (GW GY e.sec.term)))],[Hf (G2 (Hd 3 (GW GY e.sec.campus)))],[Hf (G2 (Hd 3 (GW GY e.sec.seats)))],[Hy (Ig 104) [] [Hc v10]],[Hy (Ig 104) [] [Hc v11]],[Hy (Ig 104) [] [Hc v12]],[Hf (G2 (Hd 4 (Ht e.sec.lab)))]] 0 1,.vec [[Hf (G2 (Hd 3 (GW GY e.req.campus)))],[Hf (G2 (Hd 3 (GW GY e.req.no)))],[Hf (G2 (Hd 3 (GW GY e.req.st)))],[Hf (G2 (Hd 3 (GW GY e.req.kind)))],[Hf (G2 (Hd 3 (GW GY e.req.time)))],[Hy (Ig 104) [] [Hc v9]],[Hf (G2 (Hd 41 (Mu {toList:=[GW GY e.req.gsec,GW GY e.req.glab]})))],[Hf (G2 (Hd 3 (GW GY e.req.key)))]] 0 1,.vec [[Hy (Ig 104) [] [Hc v4]],[Hf (G2 (Hd 3 (GW GY e.kind)))],[Hf (G2 (Hd 3 (GW GY e.stu)))],[Hf (G2 (Hd 3 (GW GY e.obj)))],[Hf (G2 (Hd 3 (GW GY e.term)))],[Hf (G2 (Hd 3 (GW GY e.val)))],[Hy (Ig 104) [] [Hc v8]],[Hf (G2 (Hd 9 (My e.text)))],[Hy (Ig 104) [] [Hc v3]],[Hy (Ig 104) [] [Hc v2]]] 0 1,.gone,.gone,.vec [v4,[int 1,int e.kind,ad emp,nq],[int 1,int e.stu,ad emp,nq],[int 1,int e.obj,ad emp,nq],[int 1,int e.term,ad emp,nq],[int 1,int e.val,ad emp,nq],v8,[int 2,int 0,ad e.text,nq],v3,v2] 0 4]) (d:=Hc v14) pok [.val (Hc v10),.val (Hc v11),.val (Hc v12),.val (Hc v9),.call (Hc v4) (iI e m g l c),.call (Hc v8) (iH e m g l c),.call (Hc v3) (iG e m g l c),.call (Hc v2) (iD e m g l c),.call (Hc v14) v0] (by kernel_rfl) (.e (.ref (.ptr 0 11)) (.e (.ref (.ptr 0 11)) (.e (.ref (.ptr 0 11)) (.e (Hc v5) (.e (Hc v5) (.e (Hc v5) (.e (.ref (.ptr 0 20)) (.e (.ref (.ptr 0 20)) (.e (.ref (.ptr 0 20)) (.e (.ref (.ptr 0 20)) (.e (Hc v7) (.e (Hc v7) (.e (Hc v7) (.e (Hc v7) (.c (@hm (xY e)) (.c (@hg' (xX e m)) (.c (@hl (xW e m g)) (.c (@hc (xV e m g l)) (.c (show Ev GV Γ0 45 [.ref (.vec 8 0)] (iI e m g l c) (Hc v4) (iI e m g l c) from(HU (Io (args:=[.ref (.vec 8 0)]) (H:=(iI e m g l c)) [8] (@uV (e.time) (e.campus) (e.no)) (by kernel_rfl) (by kernel_rfl) (by kernel_rfl) ⟨?_,trivial⟩ ⟨?_,trivial⟩) (by kernel_rfl) (by kernel_rfl))) (.c (show Ev GV Γ0 45 [.ref (.vec 9 0)] (iH e m g l c) (Hc v8) (iH e m g l c) from(HU (Io (args:=[.ref (.vec 9 0)]) (H:=(iH e m g l c)) [9] (@pH (e.frm) (e.til)) (by kernel_rfl) (by kernel_rfl) (by kernel_rfl) ⟨?_,trivial⟩ ⟨?_,trivial⟩) (by kernel_rfl) (by kernel_rfl))) (.c (show Ev GV Γ0 45 [.ref (.vec 10 0)] (iG e m g l c) (Hc v3) (iG e m g l c) from(HU (Io (args:=[.ref (.vec 10 0)]) (H:=(iG e m g l c)) [10] (@BL (e.sec.id) (e.sec.course) (e.sec.term) (e.sec.campus) (e.sec.seats) m g l (e.sec.lab)) (by kernel_rfl) (by kernel_rfl) (by kernel_rfl) ⟨?_,trivial⟩ ⟨?_,trivial⟩) (by kernel_rfl) (by kernel_rfl))) (.c (show Ev GV Γ0 45 [.ref (.vec 11 0)] (iD e m g l c) (Hc v2) (iD e m g l c) from(HU (Io (args:=[.ref (.vec 11 0)]) (H:=(iD e m g l c)) [11] (@BM (e.req.campus) (e.req.no) (e.req.st) (e.req.kind) (e.req.time) (e.req.gsec) (e.req.glab) (e.req.key) c) (by kernel_rfl) (by kernel_rfl) (by kernel_rfl) ⟨?_,trivial⟩ ⟨?_,trivial⟩) (by kernel_rfl) (by kernel_rfl))) (.c (show Ev GV Γ0 45 [.ref (.vec 12 0)] v1 (Hc v14) v0 from(HU (Io (args:=[.ref (.vec 12 0)]) (H:=v1) [12] (@h10 (e.kind) (e.stu) (e.obj) (e.term) (e.val) ([[vi 1,vi e.time,vs emp,G2 (G8 none 0 0)],[vi 1,vi e.campus,vs emp,G2 (G8 none 0 0)],[vi 1,vi e.no,vs emp,G2 (G8 none 0 0)]]) ([[vi 1,vi e.frm,vs emp,G2 (G8 none 0 0)],[vi 1,vi e.til,vs emp,G2 (G8 none 0 0)]]) ([[vi 1,vi e.sec.id,vs emp,G2 (G8 none 0 0)],[vi 1,vi e.sec.course,vs emp,G2 (G8 none 0 0)],[vi 1,vi e.sec.term,vs emp,G2 (G8 none 0 0)],[vi 1,vi e.sec.campus,vs emp,G2 (G8 none 0 0)],[vi 1,vi e.sec.seats,vs emp,G2 (G8 none 0 0)],[vi 3,vi 0,vs emp,Hj m],[vi 3,vi 0,vs emp,Hj g],[vi 3,vi 0,vs emp,Hj l],[vi 1,vi (bif e.sec.lab then 1 else 0),vs emp,G2 (G8 none 0 0)]]) ([[vi 1,vi e.req.campus,vs emp,G2 (G8 none 0 0)],[vi 1,vi e.req.no,vs emp,G2 (G8 none 0 0)],[vi 1,vi e.req.st,vs emp,G2 (G8 none 0 0)],[vi 1,vi e.req.kind,vs emp,G2 (G8 none 0 0)],[vi 1,vi e.req.time,vs emp,G2 (G8 none 0 0)],[vi 3,vi 0,vs emp,Hj c],[vi 3,vi 0,vs emp,Hj [[vi 1,vi e.req.gsec,vs emp,G2 (G8 none 0 0)],[vi 1,vi e.req.glab,vs emp,G2 (G8 none 0 0)]]],[vi 1,vi e.req.key,vs emp,G2 (G8 none 0 0)]]) (e.text)) (by kernel_rfl) (by kernel_rfl) (by kernel_rfl) ⟨?_,trivial⟩ ⟨?_,?_,trivial⟩) (by kernel_rfl) (by kernel_rfl))) (.e (.ref (.ptr 0 0)) (.e (.ref (.ptr 0 0)) (.c (show @Eq (Option D) (some (int e.time)) (some (int e.time)) from rfl) (.e (.ref (.ptr 0 0)) (.e (.ref (.ptr 0 1)) (.c (show @Eq (Option D) (some (int e.campus)) (some (int e.campus)) from rfl) (.e (.ref (.ptr 0 0)) (.e (.ref (.ptr 0 2)) (.c (show @Eq (Option D) (some (int e.no)) (some (int e.no)) from rfl) (.e (.ref (.ptr 0 3)) (.e (.ref (.ptr 0 3)) (.e (.ref (.ptr 0 3)) (.e (.ref (.ptr 0 3)) (.e (.ref (.ptr 0 3)) (.e (.ref (.ptr 0 3)) (.e (.ref (.ptr 0 3)) (.e (.ref (.ptr 0 3)) (.e (.ref (.ptr 0 3)) (.c (show @Eq (Option D) (some (int e.kind)) (some (int e.kind)) from rfl) (.c (show @Eq (Option D) (some (int e.kind)) (some (int e.kind)) from rfl) (.c (show @Eq (Option D) (some (int e.kind)) (some (int e.kind)) from rfl) (.c (show @Eq (Option D) (some (int e.kind)) (some (int e.kind)) from rfl) (.c (show @Eq (Option D) (some (int e.kind)) (some (int e.kind)) from rfl) (.c (show @Eq (Option D) (some (int e.kind)) (some (int e.kind)) from rfl) (.c (show @Eq (Option D) (some (int e.kind)) (some (int e.kind)) from rfl) (.c (show @Eq (Option D) (some (int e.kind)) (some (int e.kind)) from rfl) (.c (show @Eq (Option D) (some (int e.kind)) (some (int e.kind)) from rfl) (.e (.ref (.ptr 0 4)) (.e (.ref (.ptr 0 4)) (.e (.ref (.ptr 0 4)) (.e (.ref (.ptr 0 4)) (.e (.ref (.ptr 0 4)) (.e (.ref (.ptr 0 4)) (.e (.ref (.ptr 0 4)) (.e (.ref (.ptr 0 4)) (.e (.ref (.ptr 0 4)) (.c (show @Eq (Option D) (some (int e.stu)) (some (int e.stu)) from rfl) (.c (show @Eq (Option D) (some (int e.stu)) (some (int e.stu)) from rfl) (.c (show @Eq (Option D) (some (int e.stu)) (some (int e.stu)) from rfl) (.c (show @Eq (Option D) (some (int e.stu)) (some (int e.stu)) from rfl) (.c (show @Eq (Option D) (some (int e.stu)) (some (int e.stu)) from rfl) (.c (show @Eq (Option D) (some (int e.stu)) (some (int e.stu)) from rfl) (.c (show @Eq (Option D) (some (int e.stu)) (some (int e.stu)) from rfl) (.c (show @Eq (Option D) (some (int e.stu)) (some (int e.stu)) from rfl) (.c (show @Eq (Option D) (some (int e.stu)) (some (int e.stu)) from rfl) (.e (.ref (.ptr 0 5)) (.e (.ref (.ptr 0 5)) (.e (.ref (.ptr 0 5)) (.e (.ref (.ptr 0 5)) (.e (.ref (.ptr 0 5)) (.e (.ref (.ptr 0 5)) (.e (.ref (.ptr 0 5)) (.e (.ref (.ptr 0 5)) (.e (.ref (.ptr 0 5)) (.c (show @Eq (Option D) (some (int e.obj)) (some (int e.obj)) from rfl) (.c (show @Eq (Option D) (some (int e.obj)) (some (int e.obj)) from rfl) (.c (show @Eq (Option D) (some (int e.obj)) (some (int e.obj)) from rfl) (.c (show @Eq (Option D) (some (int e.obj)) (some (int e.obj)) from rfl) (.c (show @Eq (Option D) (some (int e.obj)) (some (int e.obj)) from rfl) (.c (show @Eq (Option D) (some (int e.obj)) (some (int e.obj)) from rfl) (.c (show @Eq (Option D) (some (int e.obj)) (some (int e.obj)) from rfl) (.c (show @Eq (Option D) (some (int e.obj)) (some (int e.obj)) from rfl) (.c (show @Eq (Option D) (some (int e.obj)) (some (int e.obj)) from rfl) (.e (.ref (.ptr 0 6)) (.e (.ref (.ptr 0 6)) (.e (.ref (.ptr 0 6)) (.e (.ref (.ptr 0 6)) (.e (.ref (.ptr 0 6)) (.e (.ref (.ptr 0 6)) (.e (.ref (.ptr 0 6)) (.e (.ref (.ptr 0 6)) (.e (.ref (.ptr 0 6)) (.c (show @Eq (Option D) (some (int e.term)) (some (int e.term)) from rfl) (.c (show @Eq (Option D) (some (int e.term)) (some (int e.term)) from rfl) (.c (show @Eq (Option D) (some (int e.term)) (some (int e.term)) from rfl) (.c (show @Eq (Option D) (some (int e.term)) (some (int e.term)) from rfl) (.c (show @Eq (Option D) (some (int e.term)) (some (int e.term)) from rfl) (.c (show @Eq (Option D) (some (int e.term)) (some (int e.term)) from rfl) (.c (show @Eq (Option D) (some (int e.term)) (some (int e.term)) from rfl) (.c (show @Eq (Option D) (some (int e.term)) (some (int e.term)) from rfl) (.c (show @Eq (Option D) (some (int e.term)) (some (int e.term)) from rfl) (.e (.ref (.ptr 0 7)) (.e (.ref (.ptr 0 7)) (.e (.ref (.ptr 0 7)) (.e (.ref (.ptr 0 7)) (.e (.ref (.ptr 0 7)) (.e (.ref (.ptr 0 7)) (.e (.ref (.ptr 0 7)) (.e (.ref (.ptr 0 7)) (.e (.ref (.ptr 0 7)) (.c (show @Eq (Option D) (some (int e.val)) (some (int e.val)) from rfl) (.c (show @Eq (Option D) (some (int e.val)) (some (int e.val)) from rfl) (.c (show @Eq (Option D) (some (int e.val)) (some (int e.val)) from rfl) (.c (show @Eq (Option D) (some (int e.val)) (some (int e.val)) from rfl) (.c (show @Eq (Option D) (some (int e.val)) (some (int e.val)) from rfl) (.c (show @Eq (Option D) (some (int e.val)) (some (int e.val)) from rfl) (.c (show @Eq (Option D) (some (int e.val)) (some (int e.val)) from rfl) (.c (show @Eq (Option D) (some (int e.val)) (some (int e.val)) from rfl) (.c (show @Eq (Option D) (some (int e.val)) (some (int e.val)) from rfl) (.e (.ref (.ptr 0 8)) (.e (.ref (.ptr 0 8)) (.e (.ref (.ptr 0 8)) (.e (.ref (.ptr 0 8)) (.e (.ref (.ptr 0 8)) (.e (.ref (.ptr 0 8)) (.c (show @Eq (Option D) (some (int e.frm)) (some (int e.frm)) from rfl) (.c (show @Eq (Option D) (some (int e.frm)) (some (int e.frm)) from rfl) (.c (show @Eq (Option D) (some (int e.frm)) (some (int e.frm)) from rfl) (.e (.ref (.ptr 0 8)) (.e (.ref (.ptr 0 8)) (.e (.ref (.ptr 0 8)) (.e (.ref (.ptr 0 9)) (.e (.ref (.ptr 0 9)) (.e (.ref (.ptr 0 9)) (.c (show @Eq (Option D) (some (int e.til)) (some (int e.til)) from rfl) (.c (show @Eq (Option D) (some (int e.til)) (some (int e.til)) from rfl) (.c (show @Eq (Option D) (some (int e.til)) (some (int e.til)) from rfl) (.e (.ref (.ptr 0 10)) (.e (.ref (.ptr 0 10)) (.e (.ref (.ptr 0 10)) (.e (.ref (.ptr 0 10)) (.e (.ref (.ptr 0 10)) (.e (.ref (.ptr 0 10)) (.e (.ref (.ptr 0 10)) (.e (.ref (.ptr 0 10)) (.e (.ref (.ptr 0 10)) (.c (show @Eq (Option D) (some (ad e.text)) (some (ad e.text)) from rfl) (.c (show @Eq (Option D) (some (ad e.text)) (some (ad e.text)) from rfl) (.c (show @Eq (Option D) (some (ad e.text)) (some (ad e.text)) from rfl) (.c (show @Eq (Option D) (some (ad e.text)) (some (ad e.text)) from rfl) (.c (show @Eq (Option D) (some (ad e.text)) (some (ad e.text)) from rfl) (.c (show @Eq (Option D) (some (ad e.text)) (some (ad e.text)) from rfl) (.c (show @Eq (Option D) (some (ad e.text)) (some (ad e.text)) from rfl) (.c (show @Eq (Option D) (some (ad e.text)) (some (ad e.text)) from rfl) (.c (show @Eq (Option D) (some (ad e.text)) (some (ad e.text)) from rfl) (.e (.ref (.ptr 2 0)) (.e (.ref (.ptr 2 0)) (.e (.ref (.ptr 2 0)) (.e (.ref (.ptr 2 0)) (.e (.ref (.ptr 2 0)) (.c (show @Eq (Option D) (some (int e.sec.id)) (some (int e.sec.id)) from rfl) (.c (show @Eq (Option D) (some (int e.sec.id)) (some (int e.sec.id)) from rfl) (.c (show @Eq (Option D) (some (int e.sec.id)) (some (int e.sec.id)) from rfl) (.c (show @Eq (Option D) (some (int e.sec.id)) (some (int e.sec.id)) from rfl) (.c (show @Eq (Option D) (some (int e.sec.id)) (some (int e.sec.id)) from rfl) (.e (.ref (.ptr 2 1)) (.e (.ref (.ptr 2 1)) (.e (.ref (.ptr 2 1)) (.e (.ref (.ptr 2 1)) (.e (.ref (.ptr 2 1)) (.c (show @Eq (Option D) (some (int e.sec.course)) (some (int e.sec.course)) from rfl) (.c (show @Eq (Option D) (some (int e.sec.course)) (some (int e.sec.course)) from rfl) (.c (show @Eq (Option D) (some (int e.sec.course)) (some (int e.sec.course)) from rfl) (.c (show @Eq (Option D) (some (int e.sec.course)) (some (int e.sec.course)) from rfl) (.c (show @Eq (Option D) (some (int e.sec.course)) (some (int e.sec.course)) from rfl) (.e (.ref (.ptr 2 2)) (.e (.ref (.ptr 2 2)) (.e (.ref (.ptr 2 2)) (.e (.ref (.ptr 2 2)) (.e (.ref (.ptr 2 2)) (.c (show @Eq (Option D) (some (int e.sec.term)) (some (int e.sec.term)) from rfl) (.c (show @Eq (Option D) (some (int e.sec.term)) (some (int e.sec.term)) from rfl) (.c (show @Eq (Option D) (some (int e.sec.term)) (some (int e.sec.term)) from rfl) (.c (show @Eq (Option D) (some (int e.sec.term)) (some (int e.sec.term)) from rfl) (.c (show @Eq (Option D) (some (int e.sec.term)) (some (int e.sec.term)) from rfl) (.e (.ref (.ptr 2 3)) (.e (.ref (.ptr 2 3)) (.e (.ref (.ptr 2 3)) (.e (.ref (.ptr 2 3)) (.e (.ref (.ptr 2 3)) (.c (show @Eq (Option D) (some (int e.sec.campus)) (some (int e.sec.campus)) from rfl) (.c (show @Eq (Option D) (some (int e.sec.campus)) (some (int e.sec.campus)) from rfl) (.c (show @Eq (Option D) (some (int e.sec.campus)) (some (int e.sec.campus)) from rfl) (.c (show @Eq (Option D) (some (int e.sec.campus)) (some (int e.sec.campus)) from rfl) (.c (show @Eq (Option D) (some (int e.sec.campus)) (some (int e.sec.campus)) from rfl) (.e (.ref (.ptr 2 4)) (.e (.ref (.ptr 2 4)) (.e (.ref (.ptr 2 4)) (.e (.ref (.ptr 2 4)) (.e (.ref (.ptr 2 4)) (.c (show @Eq (Option D) (some (int e.sec.seats)) (some (int e.sec.seats)) from rfl) (.c (show @Eq (Option D) (some (int e.sec.seats)) (some (int e.sec.seats)) from rfl) (.c (show @Eq (Option D) (some (int e.sec.seats)) (some (int e.sec.seats)) from rfl) (.c (show @Eq (Option D) (some (int e.sec.seats)) (some (int e.sec.seats)) from rfl) (.c (show @Eq (Option D) (some (int e.sec.seats)) (some (int e.sec.seats)) from rfl) (.e (Hc v10) (.e (Hc v10) (.e (Hc v10) (.e (Hc v10) (.e (Hc v10) (.e (Hc v11) (.e (Hc v11) (.e (Hc v11) (.e (Hc v11) (.e (Hc v11) (.e (Hc v12) (.e (Hc v12) (.e (Hc v12) (.e (Hc v12) (.e (Hc v12) (.e (.ref (.ptr 2 8)) (.e (.ref (.ptr 2 8)) (.e (.ref (.ptr 2 8)) (.e (.ref (.ptr 2 8)) (.e (.ref (.ptr 2 8)) (.c (show @Eq (Option D) (some (bool e.sec.lab)) (some (bool e.sec.lab)) from rfl) (.c (show @Eq (Option D) (some (bool e.sec.lab)) (some (bool e.sec.lab)) from rfl) (.c (show @Eq (Option D) (some (bool e.sec.lab)) (some (bool e.sec.lab)) from rfl) (.c (show @Eq (Option D) (some (bool e.sec.lab)) (some (bool e.sec.lab)) from rfl) (.c (show @Eq (Option D) (some (bool e.sec.lab)) (some (bool e.sec.lab)) from rfl) (.e (.ref (.ptr 3 0)) (.e (.ref (.ptr 3 0)) (.e (.ref (.ptr 3 0)) (.e (.ref (.ptr 3 0)) (.e (.ref (.ptr 3 0)) (.e (.ref (.ptr 3 0)) (.e (.ref (.ptr 3 0)) (.c (show @Eq (Option D) (some (int e.req.campus)) (some (int e.req.campus)) from rfl) (.c (show @Eq (Option D) (some (int e.req.campus)) (some (int e.req.campus)) from rfl) (.c (show @Eq (Option D) (some (int e.req.campus)) (some (int e.req.campus)) from rfl) (.c (show @Eq (Option D) (some (int e.req.campus)) (some (int e.req.campus)) from rfl) (.c (show @Eq (Option D) (some (int e.req.campus)) (some (int e.req.campus)) from rfl) (.c (show @Eq (Option D) (some (int e.req.campus)) (some (int e.req.campus)) from rfl) (.c (show @Eq (Option D) (some (int e.req.campus)) (some (int e.req.campus)) from rfl) (.e (.ref (.ptr 3 1)) (.e (.ref (.ptr 3 1)) (.e (.ref (.ptr 3 1)) (.e (.ref (.ptr 3 1)) (.e (.ref (.ptr 3 1)) (.e (.ref (.ptr 3 1)) (.e (.ref (.ptr 3 1)) (.c (show @Eq (Option D) (some (int e.req.no)) (some (int e.req.no)) from rfl) (.c (show @Eq (Option D) (some (int e.req.no)) (some (int e.req.no)) from rfl) (.c (show @Eq (Option D) (some (int e.req.no)) (some (int e.req.no)) from rfl) (.c (show @Eq (Option D) (some (int e.req.no)) (some (int e.req.no)) from rfl) (.c (show @Eq (Option D) (some (int e.req.no)) (some (int e.req.no)) from rfl) (.c (show @Eq (Option D) (some (int e.req.no)) (some (int e.req.no)) from rfl) (.c (show @Eq (Option D) (some (int e.req.no)) (some (int e.req.no)) from rfl) (.e (.ref (.ptr 3 2)) (.e (.ref (.ptr 3 2)) (.e (.ref (.ptr 3 2)) (.e (.ref (.ptr 3 2)) (.e (.ref (.ptr 3 2)) (.e (.ref (.ptr 3 2)) (.e (.ref (.ptr 3 2)) (.c (show @Eq (Option D) (some (int e.req.st)) (some (int e.req.st)) from rfl) (.c (show @Eq (Option D) (some (int e.req.st)) (some (int e.req.st)) from rfl) (.c (show @Eq (Option D) (some (int e.req.st)) (some (int e.req.st)) from rfl) (.c (show @Eq (Option D) (some (int e.req.st)) (some (int e.req.st)) from rfl) (.c (show @Eq (Option D) (some (int e.req.st)) (some (int e.req.st)) from rfl) (.c (show @Eq (Option D) (some (int e.req.st)) (some (int e.req.st)) from rfl) (.c (show @Eq (Option D) (some (int e.req.st)) (some (int e.req.st)) from rfl) (.e (.ref (.ptr 3 3)) (.e (.ref (.ptr 3 3)) (.e (.ref (.ptr 3 3)) (.e (.ref (.ptr 3 3)) (.e (.ref (.ptr 3 3)) (.e (.ref (.ptr 3 3)) (.e (.ref (.ptr 3 3)) (.c (show @Eq (Option D) (some (int e.req.kind)) (some (int e.req.kind)) from rfl) (.c (show @Eq (Option D) (some (int e.req.kind)) (some (int e.req.kind)) from rfl) (.c (show @Eq (Option D) (some (int e.req.kind)) (some (int e.req.kind)) from rfl) (.c (show @Eq (Option D) (some (int e.req.kind)) (some (int e.req.kind)) from rfl) (.c (show @Eq (Option D) (some (int e.req.kind)) (some (int e.req.kind)) from rfl) (.c (show @Eq (Option D) (some (int e.req.kind)) (some (int e.req.kind)) from rfl) (.c (show @Eq (Option D) (some (int e.req.kind)) (some (int e.req.kind)) from rfl) (.e (.ref (.ptr 3 4)) (.e (.ref (.ptr 3 4)) (.e (.ref (.ptr 3 4)) (.e (.ref (.ptr 3 4)) (.e (.ref (.ptr 3 4)) (.e (.ref (.ptr 3 4)) (.e (.ref (.ptr 3 4)) (.c (show @Eq (Option D) (some (int e.req.time)) (some (int e.req.time)) from rfl) (.c (show @Eq (Option D) (some (int e.req.time)) (some (int e.req.time)) from rfl) (.c (show @Eq (Option D) (some (int e.req.time)) (some (int e.req.time)) from rfl) (.c (show @Eq (Option D) (some (int e.req.time)) (some (int e.req.time)) from rfl) (.c (show @Eq (Option D) (some (int e.req.time)) (some (int e.req.time)) from rfl) (.c (show @Eq (Option D) (some (int e.req.time)) (some (int e.req.time)) from rfl) (.c (show @Eq (Option D) (some (int e.req.time)) (some (int e.req.time)) from rfl) (.e (Hc v9) (.e (Hc v9) (.e (Hc v9) (.e (Hc v9) (.e (Hc v9) (.e (Hc v9) (.e (Hc v9) (.e (.ref (.ptr 3 6)) (.e (.ref (.ptr 3 6)) (.e (.ref (.ptr 3 6)) (.e (.ref (.ptr 3 6)) (.e (.ref (.ptr 3 6)) (.e (.ref (.ptr 3 6)) (.e (.ref (.ptr 3 6)) (.e v13 (.e v13 (.e v13 (.e v13 (.e v13 (.e v13 (.e v13 (.e (.ref (.ptr 3 8)) (.e (.ref (.ptr 3 8)) (.e (.ref (.ptr 3 8)) (.e (.ref (.ptr 3 8)) (.e (.ref (.ptr 3 8)) (.e (.ref (.ptr 3 8)) (.e (.ref (.ptr 3 8)) (.c (show @Eq (Option D) (some (int e.req.key)) (some (int e.req.key)) from rfl) (.c (show @Eq (Option D) (some (int e.req.key)) (some (int e.req.key)) from rfl) (.c (show @Eq (Option D) (some (int e.req.key)) (some (int e.req.key)) from rfl) (.c (show @Eq (Option D) (some (int e.req.key)) (some (int e.req.key)) from rfl) (.c (show @Eq (Option D) (some (int e.req.key)) (some (int e.req.key)) from rfl) (.c (show @Eq (Option D) (some (int e.req.key)) (some (int e.req.key)) from rfl) (.c (show @Eq (Option D) (some (int e.req.key)) (some (int e.req.key)) from rfl) .n)))))))))))))))))))))))))))))))))))))))))))))))))))))))))))))))))))))))))))))))))))))))))))))))))))))))))))))))))))))))))))))))))))))))))))))))))))))))))))))))))))))))))))))))))))))))))))))))))))))))))))))))))))))))))))))))))))))))))))))))))))))))))))))))))))))))))))))))))))))))))))))))))))))))))))))))))))))))))))))))))))))))))))))))))))) (by rfl) (by rfl)<;>subst v2 v3 v4 v5 v6 v7 v8 v9 v10 v11 v12 v0 v1 v13 v14<;>(first|rfl|exact ay _ _|first|assumption|rfl|decide|omega|simp_all)
def mU(l:List Int):Val:=.list (l.map .num)
def meVv(m:MeT):Val:=mU [m.day,m.frm,m.til,m.fst,m.lst]
def grVv(m:GrT):Val:=mU [m.grp,m.seats,m.til]
def buVv(m:BuT):Val:=mU [m.sec,m.lab]
def DR(s:SecT):Val:=.list [.num s.id,.num s.course,.num s.term,.num s.campus,.num s.seats,.list (s.mts.map meVv),.list (s.grs.map grVv),.list (s.labs.map .num),.num (bif s.lab then 1 else 0)]
def rqVv(r:RqT):Val:=.list [.num r.campus,.num r.no,.num r.st,.num r.kind,.num r.time,.list (r.chs.map buVv),mU [r.gsec,r.glab],.num r.key]
def Aj(e:EntT):List Val:=[mU [e.time,e.campus,e.no],.num e.kind,.num e.stu,.num e.obj,.num e.term,.num e.val,mU [e.frm,e.til],.text e.text,DR e.sec,rqVv e.req]
def l9(e:EntT):List Val:=Aj e++[mU [e.r,e.s]]
theorem DS(l:List MeT):l.map meV=Ie (l.map meVv):=by
 rw[JL,Jz];rfl
theorem DT(l:List GrT):l.map grV=Ie (l.map grVv):=by
 rw[JL,Jz];rfl
theorem DU(l:List Int):l.map inV=Ie (l.map .num):=by
 rw[JL,Jz];rfl
theorem DV(l:List BuT):l.map buV=Ie (l.map buVv):=by
 rw[JL,Jz];rfl
theorem Ak(e:EntT):Ie (l9 e)=[aG [ao e.time,ao e.campus,ao e.no],ao e.kind,ao e.stu,ao e.obj,ao e.term,ao e.val,aG [ao e.frm,ao e.til],gj e.text,aG [ao e.sec.id,ao e.sec.course,ao e.sec.term,ao e.sec.campus,ao e.sec.seats,aG (e.sec.mts.map meV),aG (e.sec.grs.map grV),aG (e.sec.labs.map inV),ao (bif e.sec.lab then 1 else 0)],aG [ao e.req.campus,ao e.req.no,ao e.req.st,ao e.req.kind,ao e.req.time,aG (e.req.chs.map buV),aG [ao e.req.gsec,ao e.req.glab],ao e.req.key]]++[aG [ao e.r,ao e.s]]:=by
 rw[DS,DT,DU,DV]
 rfl
theorem jD:∀(l:List Val) (a n:Int),a≤n→(∀v∈l,i6 v≤n)→j1 a l≤n
 | [],a,n,h,_=>by simpa[j1] using h
 | v::l,a,n,h,hv=>by
  simp only[j1]
  refine jD l _ n ?_ (fun w hw=>hv w (Jl _ hw))
  have:=hv v (Ix ..)
  unfold mxI;split<;>omega
theorem eS(l:List Int):i6 (mU l)≤1:=by
 have:=jD (l.map .num) 0 0 (by omega) (fun v hv=>by
  obtain⟨n,_,rfl⟩:=HS.mp hv
  simp[i6])
 simp only[mU,i6];omega
theorem ky{l:List Val}{n:Int}(h0:0≤n)(h:∀v∈l,i6 v≤n):i6 (.list l)≤n+1:=by
 have:=jD l 0 n h0 h
 simp only[i6];omega
theorem dep_num(n:Int):i6 (.num n)=0:=by simp[i6]
theorem dep_text(s:ByteArray):i6 (.text s)=0:=by simp[i6]
theorem kz{α:Type}(f:α→Val)(l:List α){n:Int}(h0:0≤n)(h:∀a,i6 (f a)≤n):i6 (.list (l.map f))≤n+1 :=
 ky h0 (fun v hv=>by obtain⟨a,_,rfl⟩:=HS.mp hv;exact h a)
theorem DW(e:EntT):i6 (.list (l9 e))≤16:=by
 have n1:=eS [e.time,e.campus,e.no]
 have n2:=eS [e.frm,e.til]
 have n3:=eS [e.r,e.s]
 have n4:=eS [e.req.gsec,e.req.glab]
 have m1:=kz meVv e.sec.mts (n:=1) (by omega) (fun m=>eS _)
 have m2:=kz grVv e.sec.grs (n:=1) (by omega) (fun m=>eS _)
 have m3:=kz Val.num e.sec.labs (n:=1) (by omega) (fun m=>by simp[i6])
 have m4:=kz buVv e.req.chs (n:=1) (by omega) (fun m=>eS _)
 have s1:i6 (DR e.sec)≤3:=ky (n:=2) (by omega) (fun v hv=>by
  simp only[HB,JC,or_false] at hv
  rcases hv with rfl|rfl|rfl|rfl|rfl|rfl|rfl|rfl|rfl<;>first|omega|(rw[dep_num];omega)|(rw[dep_num];decide))
 have s2:i6 (rqVv e.req)≤3:=ky (n:=2) (by omega) (fun v hv=>by
  simp only[HB,JC,or_false] at hv
  rcases hv with rfl|rfl|rfl|rfl|rfl|rfl|rfl|rfl<;>first|omega|(rw[dep_num];omega)|(rw[dep_num];decide))
 have:=ky (l:=l9 e) (n:=3) (by omega) (fun v hv=>by
  simp only[l9,Aj,KW,List.nil_append,HB,JC,or_false] at hv
  rcases hv with rfl|rfl|rfl|rfl|rfl|rfl|rfl|rfl|rfl|rfl|rfl<;>first|omega|(rw[dep_num];omega)|(rw[dep_num];decide)|(rw[dep_text];omega)|(rw[dep_text];decide))
 omega
abbrev Al(e:EntT)(m g l c:List (List Dp)):List (List Dp):=[aG [ao e.time,ao e.campus,ao e.no],ao e.kind,ao e.stu,ao e.obj,ao e.term,ao e.val,aG [ao e.frm,ao e.til],gj e.text,aG [ao e.sec.id,ao e.sec.course,ao e.sec.term,ao e.sec.campus,ao e.sec.seats,aG m,aG g,aG l,ao (bif e.sec.lab then 1 else 0)],aG [ao e.req.campus,ao e.req.no,ao e.req.st,ao e.req.kind,ao e.req.time,aG c,aG [ao e.req.gsec,ao e.req.glab],ao e.req.key]]
noncomputable abbrev ma(e:EntT)(m:List (List Dp))(g:List (List Dp))(l:List (List Dp))(c:List (List Dp))(b:List (BitVec 8)):List Blk:=[.var [int e.time,int e.campus,int e.no,int e.kind,int e.stu,int e.obj,int e.term,int e.val,int e.frm,int e.til,ad e.text,int e.sec.id,int e.sec.course,int e.sec.term,int e.sec.campus,int e.sec.seats,aa (GU Hm e.sec.mts),aa (GU Hn e.sec.grs),aa (GU ab e.sec.labs),bool e.sec.lab,int e.req.campus,int e.req.no,int e.req.st,int e.req.kind,int e.req.time,aa (GU G7 e.req.chs),int e.req.gsec,int e.req.glab,int e.req.key,int e.r,int e.s],.gone,.gone,.gone,.gone,.gone,.gone,.gone,.gone,.gone,.gone,.gone,.gone,.gone,.gone,.gone,.gone,.var [int 3,int 0,ad emp,aa [[vi 3,vi 0,vs emp,Hj [[vi 1,vi e.time,vs emp,G2 (G8 none 0 0)],[vi 1,vi e.campus,vs emp,G2 (G8 none 0 0)],[vi 1,vi e.no,vs emp,G2 (G8 none 0 0)]]],[vi 1,vi e.kind,vs emp,G2 (G8 none 0 0)],[vi 1,vi e.stu,vs emp,G2 (G8 none 0 0)],[vi 1,vi e.obj,vs emp,G2 (G8 none 0 0)],[vi 1,vi e.term,vs emp,G2 (G8 none 0 0)],[vi 1,vi e.val,vs emp,G2 (G8 none 0 0)],[vi 3,vi 0,vs emp,Hj [[vi 1,vi e.frm,vs emp,G2 (G8 none 0 0)],[vi 1,vi e.til,vs emp,G2 (G8 none 0 0)]]],[vi 2,vi 0,vs e.text,G2 (G8 none 0 0)],[vi 3,vi 0,vs emp,Hj [[vi 1,vi e.sec.id,vs emp,G2 (G8 none 0 0)],[vi 1,vi e.sec.course,vs emp,G2 (G8 none 0 0)],[vi 1,vi e.sec.term,vs emp,G2 (G8 none 0 0)],[vi 1,vi e.sec.campus,vs emp,G2 (G8 none 0 0)],[vi 1,vi e.sec.seats,vs emp,G2 (G8 none 0 0)],[vi 3,vi 0,vs emp,Hj m],[vi 3,vi 0,vs emp,Hj g],[vi 3,vi 0,vs emp,Hj l],[vi 1,vi (bif e.sec.lab then 1 else 0),vs emp,G2 (G8 none 0 0)]]],[vi 3,vi 0,vs emp,Hj [[vi 1,vi e.req.campus,vs emp,G2 (G8 none 0 0)],[vi 1,vi e.req.no,vs emp,G2 (G8 none 0 0)],[vi 1,vi e.req.st,vs emp,G2 (G8 none 0 0)],[vi 1,vi e.req.kind,vs emp,G2 (G8 none 0 0)],[vi 1,vi e.req.time,vs emp,G2 (G8 none 0 0)],[vi 3,vi 0,vs emp,Hj c],[vi 3,vi 0,vs emp,Hj [[vi 1,vi e.req.gsec,vs emp,G2 (G8 none 0 0)],[vi 1,vi e.req.glab,vs emp,G2 (G8 none 0 0)]]],[vi 1,vi e.req.key,vs emp,G2 (G8 none 0 0)]]],[vi 3,vi 0,vs emp,Hj [[vi 1,vi e.r,vs emp,G2 (G8 none 0 0)],[vi 1,vi e.s,vs emp,G2 (G8 none 0 0)]]]]],.vec [[Hf (G2 (Hd 3 (GW GY e.r)))],[Hf (G2 (Hd 3 (GW GY e.s)))]] 0 1,.vec [[int 3,int 0,ad emp,aa [[vi 1,vi e.r,vs emp,G2 (G8 none 0 0)],[vi 1,vi e.s,vs emp,G2 (G8 none 0 0)]]]] 0 4,.var [int 3,int 0,ad emp,aa [[vi 3,vi 0,vs emp,Hj [[vi 1,vi e.time,vs emp,G2 (G8 none 0 0)],[vi 1,vi e.campus,vs emp,G2 (G8 none 0 0)],[vi 1,vi e.no,vs emp,G2 (G8 none 0 0)]]],[vi 1,vi e.kind,vs emp,G2 (G8 none 0 0)],[vi 1,vi e.stu,vs emp,G2 (G8 none 0 0)],[vi 1,vi e.obj,vs emp,G2 (G8 none 0 0)],[vi 1,vi e.term,vs emp,G2 (G8 none 0 0)],[vi 1,vi e.val,vs emp,G2 (G8 none 0 0)],[vi 3,vi 0,vs emp,Hj [[vi 1,vi e.frm,vs emp,G2 (G8 none 0 0)],[vi 1,vi e.til,vs emp,G2 (G8 none 0 0)]]],[vi 2,vi 0,vs e.text,G2 (G8 none 0 0)],[vi 3,vi 0,vs emp,Hj [[vi 1,vi e.sec.id,vs emp,G2 (G8 none 0 0)],[vi 1,vi e.sec.course,vs emp,G2 (G8 none 0 0)],[vi 1,vi e.sec.term,vs emp,G2 (G8 none 0 0)],[vi 1,vi e.sec.campus,vs emp,G2 (G8 none 0 0)],[vi 1,vi e.sec.seats,vs emp,G2 (G8 none 0 0)],[vi 3,vi 0,vs emp,Hj m],[vi 3,vi 0,vs emp,Hj g],[vi 3,vi 0,vs emp,Hj l],[vi 1,vi (bif e.sec.lab then 1 else 0),vs emp,G2 (G8 none 0 0)]]],[vi 3,vi 0,vs emp,Hj [[vi 1,vi e.req.campus,vs emp,G2 (G8 none 0 0)],[vi 1,vi e.req.no,vs emp,G2 (G8 none 0 0)],[vi 1,vi e.req.st,vs emp,G2 (G8 none 0 0)],[vi 1,vi e.req.kind,vs emp,G2 (G8 none 0 0)],[vi 1,vi e.req.time,vs emp,G2 (G8 none 0 0)],[vi 3,vi 0,vs emp,Hj c],[vi 3,vi 0,vs emp,Hj [[vi 1,vi e.req.gsec,vs emp,G2 (G8 none 0 0)],[vi 1,vi e.req.glab,vs emp,G2 (G8 none 0 0)]]],[vi 1,vi e.req.key,vs emp,G2 (G8 none 0 0)]]],[vi 3,vi 0,vs emp,Hj [[vi 1,vi e.r,vs emp,G2 (G8 none 0 0)],[vi 1,vi e.s,vs emp,G2 (G8 none 0 0)]]]]],.var [Hf (G2 Value.nilFunc),fq 102,fq 105,Hy (Fn.func 106) [] [.ref (.ptr 22 0)]],.var [.ref (.ptr 21 0)],.vec (GU byV b) 1 1]
noncomputable abbrev iJ(e:EntT)(m:List (List Dp))(g:List (List Dp))(l:List (List Dp))(c:List (List Dp)):List Blk:=[.var [int e.time,int e.campus,int e.no,int e.kind,int e.stu,int e.obj,int e.term,int e.val,int e.frm,int e.til,ad e.text,int e.sec.id,int e.sec.course,int e.sec.term,int e.sec.campus,int e.sec.seats,aa (GU Hm e.sec.mts),aa (GU Hn e.sec.grs),aa (GU ab e.sec.labs),bool e.sec.lab,int e.req.campus,int e.req.no,int e.req.st,int e.req.kind,int e.req.time,aa (GU G7 e.req.chs),int e.req.gsec,int e.req.glab,int e.req.key,int e.r,int e.s],.gone,.gone,.gone,.gone,.gone,.gone,.gone,.gone,.gone,.gone,.gone,.gone,.gone,.gone,.gone,.vec [[int 3,int 0,ad emp,aa [[vi 1,vi e.time,vs emp,G2 (G8 none 0 0)],[vi 1,vi e.campus,vs emp,G2 (G8 none 0 0)],[vi 1,vi e.no,vs emp,G2 (G8 none 0 0)]]],[int 1,int e.kind,ad emp,nq],[int 1,int e.stu,ad emp,nq],[int 1,int e.obj,ad emp,nq],[int 1,int e.term,ad emp,nq],[int 1,int e.val,ad emp,nq],[int 3,int 0,ad emp,aa [[vi 1,vi e.frm,vs emp,G2 (G8 none 0 0)],[vi 1,vi e.til,vs emp,G2 (G8 none 0 0)]]],[int 2,int 0,ad e.text,nq],[int 3,int 0,ad emp,aa [[vi 1,vi e.sec.id,vs emp,G2 (G8 none 0 0)],[vi 1,vi e.sec.course,vs emp,G2 (G8 none 0 0)],[vi 1,vi e.sec.term,vs emp,G2 (G8 none 0 0)],[vi 1,vi e.sec.campus,vs emp,G2 (G8 none 0 0)],[vi 1,vi e.sec.seats,vs emp,G2 (G8 none 0 0)],[vi 3,vi 0,vs emp,Hj m],[vi 3,vi 0,vs emp,Hj g],[vi 3,vi 0,vs emp,Hj l],[vi 1,vi (bif e.sec.lab then 1 else 0),vs emp,G2 (G8 none 0 0)]]],[int 3,int 0,ad emp,aa [[vi 1,vi e.req.campus,vs emp,G2 (G8 none 0 0)],[vi 1,vi e.req.no,vs emp,G2 (G8 none 0 0)],[vi 1,vi e.req.st,vs emp,G2 (G8 none 0 0)],[vi 1,vi e.req.kind,vs emp,G2 (G8 none 0 0)],[vi 1,vi e.req.time,vs emp,G2 (G8 none 0 0)],[vi 3,vi 0,vs emp,Hj c],[vi 3,vi 0,vs emp,Hj [[vi 1,vi e.req.gsec,vs emp,G2 (G8 none 0 0)],[vi 1,vi e.req.glab,vs emp,G2 (G8 none 0 0)]]],[vi 1,vi e.req.key,vs emp,G2 (G8 none 0 0)]]]] 0 4,.var [int 3,int 0,ad emp,.ref (.vec 16 0)],.vec [[Hf (G2 (Hd 3 (GW GY e.r)))],[Hf (G2 (Hd 3 (GW GY e.s)))]] 0 1]
noncomputable abbrev q9(e:EntT):List D:=[Hc [int e.time,int e.campus,int e.no,int e.kind,int e.stu,int e.obj,int e.term,int e.val,int e.frm,int e.til,ad e.text,int e.sec.id,int e.sec.course,int e.sec.term,int e.sec.campus,int e.sec.seats,aa (GU Hm e.sec.mts),aa (GU Hn e.sec.grs),aa (GU ab e.sec.labs),bool e.sec.lab,int e.req.campus,int e.req.no,int e.req.st,int e.req.kind,int e.req.time,aa (GU G7 e.req.chs),int e.req.gsec,int e.req.glab,int e.req.key,int e.r,int e.s]]
noncomputable abbrev mc(e:EntT):List Blk:=[.var [int e.time,int e.campus,int e.no,int e.kind,int e.stu,int e.obj,int e.term,int e.val,int e.frm,int e.til,ad e.text,int e.sec.id,int e.sec.course,int e.sec.term,int e.sec.campus,int e.sec.seats,aa (GU Hm e.sec.mts),aa (GU Hn e.sec.grs),aa (GU ab e.sec.labs),bool e.sec.lab,int e.req.campus,int e.req.no,int e.req.st,int e.req.kind,int e.req.time,aa (GU G7 e.req.chs),int e.req.gsec,int e.req.glab,int e.req.key,int e.r,int e.s]]
theorem eenc_a{e:EntT}{m g l c:List (List Dp)}{b:List (BitVec 8)}
  (hck:∀h,Ev GV Γq 15 [ag e.row] h (int 0) h)
  (hct:Ev GV Γ0 44 [ag e.row] [] (.agg [int 3,int 0,ad emp,.ref (.vec 15 0)]) (HA 15 .gone++[.vec ((Al e m g l c).map dpR) 0 4]))
  (hen:Ev GV Γ0 46 [liO (Al e m g l c++[aG [ao e.r,ao e.s]])] [] (.tup [.ref (.vec 3 1),int 0]) (encH (Al e m g l c++[aG [ao e.r,ao e.s]])++[.vec (b.map byV) 1 1])):(Ev GV Γq 28 [ag e.row] [] (.tup [byD b,int 0]) []):=by
 let v0:List D:=[int 3,int 0,ad emp,aa [[vi 3,vi 0,vs emp,Hj [[vi 1,vi e.time,vs emp,G2 (G8 none 0 0)],[vi 1,vi e.campus,vs emp,G2 (G8 none 0 0)],[vi 1,vi e.no,vs emp,G2 (G8 none 0 0)]]],[vi 1,vi e.kind,vs emp,G2 (G8 none 0 0)],[vi 1,vi e.stu,vs emp,G2 (G8 none 0 0)],[vi 1,vi e.obj,vs emp,G2 (G8 none 0 0)],[vi 1,vi e.term,vs emp,G2 (G8 none 0 0)],[vi 1,vi e.val,vs emp,G2 (G8 none 0 0)],[vi 3,vi 0,vs emp,Hj [[vi 1,vi e.frm,vs emp,G2 (G8 none 0 0)],[vi 1,vi e.til,vs emp,G2 (G8 none 0 0)]]],[vi 2,vi 0,vs e.text,G2 (G8 none 0 0)],[vi 3,vi 0,vs emp,Hj [[vi 1,vi e.sec.id,vs emp,G2 (G8 none 0 0)],[vi 1,vi e.sec.course,vs emp,G2 (G8 none 0 0)],[vi 1,vi e.sec.term,vs emp,G2 (G8 none 0 0)],[vi 1,vi e.sec.campus,vs emp,G2 (G8 none 0 0)],[vi 1,vi e.sec.seats,vs emp,G2 (G8 none 0 0)],[vi 3,vi 0,vs emp,Hj m],[vi 3,vi 0,vs emp,Hj g],[vi 3,vi 0,vs emp,Hj l],[vi 1,vi (bif e.sec.lab then 1 else 0),vs emp,G2 (G8 none 0 0)]]],[vi 3,vi 0,vs emp,Hj [[vi 1,vi e.req.campus,vs emp,G2 (G8 none 0 0)],[vi 1,vi e.req.no,vs emp,G2 (G8 none 0 0)],[vi 1,vi e.req.st,vs emp,G2 (G8 none 0 0)],[vi 1,vi e.req.kind,vs emp,G2 (G8 none 0 0)],[vi 1,vi e.req.time,vs emp,G2 (G8 none 0 0)],[vi 3,vi 0,vs emp,Hj c],[vi 3,vi 0,vs emp,Hj [[vi 1,vi e.req.gsec,vs emp,G2 (G8 none 0 0)],[vi 1,vi e.req.glab,vs emp,G2 (G8 none 0 0)]]],[vi 1,vi e.req.key,vs emp,G2 (G8 none 0 0)]]],[vi 3,vi 0,vs emp,Hj [[vi 1,vi e.r,vs emp,G2 (G8 none 0 0)],[vi 1,vi e.s,vs emp,G2 (G8 none 0 0)]]]]]
 let v1:List D:=[int 3,int 0,ad emp,aa [[vi 1,vi e.req.campus,vs emp,G2 (G8 none 0 0)],[vi 1,vi e.req.no,vs emp,G2 (G8 none 0 0)],[vi 1,vi e.req.st,vs emp,G2 (G8 none 0 0)],[vi 1,vi e.req.kind,vs emp,G2 (G8 none 0 0)],[vi 1,vi e.req.time,vs emp,G2 (G8 none 0 0)],[vi 3,vi 0,vs emp,Hj c],[vi 3,vi 0,vs emp,Hj [[vi 1,vi e.req.gsec,vs emp,G2 (G8 none 0 0)],[vi 1,vi e.req.glab,vs emp,G2 (G8 none 0 0)]]],[vi 1,vi e.req.key,vs emp,G2 (G8 none 0 0)]]]
 let v2:List D:=[int 3,int 0,ad emp,aa [[vi 1,vi e.sec.id,vs emp,G2 (G8 none 0 0)],[vi 1,vi e.sec.course,vs emp,G2 (G8 none 0 0)],[vi 1,vi e.sec.term,vs emp,G2 (G8 none 0 0)],[vi 1,vi e.sec.campus,vs emp,G2 (G8 none 0 0)],[vi 1,vi e.sec.seats,vs emp,G2 (G8 none 0 0)],[vi 3,vi 0,vs emp,Hj m],[vi 3,vi 0,vs emp,Hj g],[vi 3,vi 0,vs emp,Hj l],[vi 1,vi (bif e.sec.lab then 1 else 0),vs emp,G2 (G8 none 0 0)]]]
 let v3:List D:=[int e.time,int e.campus,int e.no,int e.kind,int e.stu,int e.obj,int e.term,int e.val,int e.frm,int e.til,ad e.text,int e.sec.id,int e.sec.course,int e.sec.term,int e.sec.campus,int e.sec.seats,aa (GU Hm e.sec.mts),aa (GU Hn e.sec.grs),aa (GU ab e.sec.labs),bool e.sec.lab,int e.req.campus,int e.req.no,int e.req.st,int e.req.kind,int e.req.time,aa (GU G7 e.req.chs),int e.req.gsec,int e.req.glab,int e.req.key,int e.r,int e.s]
 let v4:List D:=[int 3,int 0,ad emp,aa [[vi 1,vi e.r,vs emp,G2 (G8 none 0 0)],[vi 1,vi e.s,vs emp,G2 (G8 none 0 0)]]]
 let v5:List D:=[int 3,int 0,ad emp,aa [[vi 1,vi e.time,vs emp,G2 (G8 none 0 0)],[vi 1,vi e.campus,vs emp,G2 (G8 none 0 0)],[vi 1,vi e.no,vs emp,G2 (G8 none 0 0)]]]
 let v6:List D:=[int 3,int 0,ad emp,aa [[vi 1,vi e.frm,vs emp,G2 (G8 none 0 0)],[vi 1,vi e.til,vs emp,G2 (G8 none 0 0)]]]
 let v8:List Blk:=[.var v3,.gone,.gone,.gone,.gone,.gone,.gone,.gone,.gone,.gone,.gone,.gone,.gone,.gone,.gone,.gone,.gone,.var v0,.vec [[Hf (G2 (Hd 3 (GW GY e.r)))],[Hf (G2 (Hd 3 (GW GY e.s)))]] 0 1,.vec [v4] 0 4]
 let v9:List D:=[int 1,int e.kind,ad emp,nq]
 let v10:List D:=[int 1,int e.term,ad emp,nq]
 let v11:List D:=[int 1,int e.stu,ad emp,nq]
 let v12:List D:=[int 1,int e.obj,ad emp,nq]
 let v13:List D:=[int 1,int e.val,ad emp,nq]
 let v14:List D:=[int 2,int 0,ad e.text,nq]
 let v7:List Blk:=[.var v3,.gone,.gone,.gone,.gone,.gone,.gone,.gone,.gone,.gone,.gone,.gone,.gone,.gone,.gone,.gone,.vec [v5,v9,v11,v12,v10,v13,v6,v14,v2,v1] 0 4]
 let v15:=Hc [int 3,int 0,ad emp,.ref (.vec 16 0)]
 refine HU (Ev.post (d2:=D.tup [aa (GU byR b),int 0]) (h2:=[]) (φ:=[GU byV b=GU (fun x=>GU Hf x) (GU byR b),[[Hf (G2 (Hd 3 (GW GY e.r)))],[Hf (G2 (Hd 3 (GW GY e.s)))]]=[[Hf (G2 (Hd 3 (GW GY e.r)))],[Hf (G2 (Hd 3 (GW GY e.s)))]],[v4]=[v4]]) [.st (.frz 23 (GU byR b)),.st (.trim 0)] (Ev.of_sym (h':=(ma e m g l c b)) (d:=D.tup [.ref (.vec 23 1),int 0]) pok [.val (int 0),.b false,.call v15 v7,.call (Hc v4) (iJ e m g l c),.st (.frz 16 (Al e m g l c++[aG [ao e.r,ao e.s]])),.call (D.tup [.ref (.vec 23 1),int 0]) (ma e m g l c b)] (by kernel_rfl) (.c (@hck (mc e)) (.c (show(0 != 0)=false from rfl) (.c (show Ev GV Γq 44 (q9 e) (mc e) v15 v7 from(HU (Io (args:=(q9 e)) (H:=(mc e)) [] (Hx (@hct)) (by kernel_rfl) (by kernel_rfl) (by kernel_rfl) trivial ⟨?_,trivial⟩) (by kernel_rfl) (by kernel_rfl))) (.c (show Ev GV Γq 45 [.ref (.vec 18 0)] (iJ e m g l c) (Hc v4) (iJ e m g l c) from(HU (Io (args:=[.ref (.vec 18 0)]) (H:=(iJ e m g l c)) [18] (Hx (@pH (e.r) (e.s))) (by kernel_rfl) (by kernel_rfl) (by kernel_rfl) ⟨?_,trivial⟩ ⟨?_,trivial⟩) (by kernel_rfl) (by kernel_rfl))) (.c (show(List.all [v4] (rowOk 4)&&roomOk (List.length (α:=List D) [v5,v9,v11,v12,v10,v13,v6,v14,v2,v1]+List.length (α:=List D) [v4]) 56)=true from rfl) (.e (.ref (.ptr 17 3)) (.e (.ref (.ptr 17 3)) (.e (.ref (.ptr 17 3)) (.e (.ref (.ptr 17 3)) (.c (show @Eq (Option D) (some (.ref (.vec 16 0))) (some (.ref (.vec 16 0))) from rfl) (.c (show @Eq (Option D) (some (.ref (.vec 16 0))) (some (.ref (.vec 16 0))) from rfl) (.c (show @Eq (Option D) (some (.ref (.vec 16 0))) (some (.ref (.vec 16 0))) from rfl) (.c (show @Eq (Option D) (some (.ref (.vec 16 0))) (some (.ref (.vec 16 0))) from rfl) (.e (.ref (.ptr 0 29)) (.e (.ref (.ptr 0 29)) (.c (show @Eq (Option D) (some (int e.r)) (some (int e.r)) from rfl) (.e (.ref (.ptr 0 29)) (.e (.ref (.ptr 0 30)) (.c (show @Eq (Option D) (some (int e.s)) (some (int e.s)) from rfl) (.e (.ref (.ptr 17 3)) (.er [v5,v9,v11,v12,v10,v13,v6,v14,v2,v1,v4] (.er [[Hf (G2 (Hd 3 (GW GY e.r)))],[Hf (G2 (Hd 3 (GW GY e.s)))]] (.er [v4] (.c (show Ev GV Γq 46 [Hc v0] v8 (D.tup [.ref (.vec 23 1),int 0]) (ma e m g l c b) from(HU (Io (args:=[Hc v0]) (H:=v8) [] (Hx (@hen)) (by kernel_rfl) (by kernel_rfl) (by kernel_rfl) trivial ⟨?_,trivial⟩) (by kernel_rfl) (by kernel_rfl))) .n))))))))))))))))))))))))) (by kernel_rfl) ⟨(by subst v0 v1 v2 v3 v4 v5 v6 v8 v9 v10 v11 v12 v13 v14 v7 v15;first|assumption|rfl|exact aL _ _|exact aK _ _ _|exact hfz),rfl,rfl,trivial⟩) (by rfl) (by rfl)<;>subst v0 v1 v2 v3 v4 v5 v6 v8 v9 v10 v11 v12 v13 v14 v7 v15<;>(first|rfl|exact ay _ _|first|assumption|rfl|exact aL _ _|exact aK _ _ _|exact hfz)
theorem enc_num(n:Int):(encR (.num n)).length≤12:=by
 have:=kQ (pI n)
 simp only[encR,Hv,HZ,IP];omega
theorem Am(s:ByteArray):(encR (.text s)).length≤12+s.size:=by
 have:=kQ (HY 64 s.size)
 have:=pM s
 simp only[encR,Hv,HZ,IP];omega
theorem nS{n:Nat}:∀(l:List Val),(∀v∈l,(encR v).length≤n)→(ek l).length≤l.length*n
 | [],_=>by simp[ek]
 | v::l,h=>by
  have h1:=h v (by simp)
  have h2:=nS l (fun w hw=>h w (by simp[hw]))
  simp only[ek,Hv,HZ,Nat.succ_mul];omega
theorem iK{l:List Val}{n m:Nat}(hl:l.length≤m)(h:∀v∈l,(encR v).length≤n):(encR (.list l)).length≤12+m*n:=by
 have h1:=kQ (HY 64 l.length)
 have h2:=nS l h
 have h3:=Nat.mul_le_mul_right n hl
 simp only[encR,Hv,HZ,IP];omega
theorem eT(l:List Int){m:Nat}(hl:l.length≤m):(encR (mU l)).length≤12+m*12 :=
 iK (by simpa using hl) (fun v hv=>by obtain⟨n,_,rfl⟩:=HS.mp hv;exact enc_num n)
theorem pn{α:Type}(f:α→Val)(l:List α){n m:Nat}(hl:l.length≤m)(h:∀a,(encR (f a)).length≤n):(encR (.list (l.map f))).length≤12+m*n :=
 iK (by simpa using hl) (fun v hv=>by obtain⟨a,_,rfl⟩:=HS.mp hv;exact h a)
theorem rb{e:EntT}(hf:sP e=true):e.text.size≤1000∧e.sec.mts.length≤20∧e.sec.grs.length≤12∧e.sec.labs.length≤12∧e.req.chs.length≤12:=by
 simp only[sP,G6,decide_eq_true_eq,HW] at hf
 omega
theorem xZ{e:EntT}(hf:sP e=true):(encR (.list (l9 e))).length≤100000000:=by
 obtain⟨ht,hm,hg,hl,hc⟩:=rb hf
 have n1:=eT [e.time,e.campus,e.no] (m:=3) (by simp)
 have n2:=eT [e.frm,e.til] (m:=2) (by simp)
 have n3:=eT [e.r,e.s] (m:=2) (by simp)
 have n4:=eT [e.req.gsec,e.req.glab] (m:=2) (by simp)
 have t1:=Am e.text
 have m1:=pn meVv e.sec.mts (n:=72) hm (fun m=>eT _ (m:=5) (by simp))
 have m2:=pn grVv e.sec.grs (n:=48) hg (fun m=>eT _ (m:=3) (by simp))
 have m3:=pn Val.num e.sec.labs (n:=12) hl enc_num
 have m4:=pn buVv e.req.chs (n:=36) hc (fun m=>eT _ (m:=2) (by simp))
 have s1:(encR (DR e.sec)).length≤20000:=by
  refine Jo (iK (n:=2000) (m:=9) (by simp) (fun v hv=>?_)) (by decide)
  simp only[HB,JC,or_false] at hv
  rcases hv with rfl|rfl|rfl|rfl|rfl|rfl|rfl|rfl|rfl<;>first|omega|exact Jo (enc_num _) (by decide)
 have s2:(encR (rqVv e.req)).length≤20000:=by
  refine Jo (iK (n:=2000) (m:=8) (by simp) (fun v hv=>?_)) (by decide)
  simp only[HB,JC,or_false] at hv
  rcases hv with rfl|rfl|rfl|rfl|rfl|rfl|rfl|rfl<;>first|omega|exact Jo (enc_num _) (by decide)
 refine Jo (iK (n:=20000) (m:=11) (by simp[l9,Aj]) (fun v hv=>?_)) (by decide)
 simp only[l9,Aj,KW,List.nil_append,HB,JC,or_false] at hv
 rcases hv with rfl|rfl|rfl|rfl|rfl|rfl|rfl|rfl|rfl|rfl|rfl<;>first|omega|exact Jo (enc_num _) (by decide)
def Cf(e:EntT):List (BitVec 8):=encR (.list (l9 e))
theorem DX{e:EntT}(hf:sP e=true)(o:e.ok)(hv:bh e=0)(h:List Blk):Ev GV Γq 28 [ag e.row] h (.tup [byD (Cf e),int 0]) h:=by
 obtain⟨_,hm,hg,hl,hc⟩:=rb hf
 have hck (H:List Blk):=hv▸mm o H
 have hct:=cont_b (e:=e) (meE_ev (by omega)) (grE_ev (by omega)) (inE_ev (by omega)) (buE_ev (by omega)) (fun _ _ _ _ _ _ _ _ _ _=>vK)
 have hen:=zy (l9 e) (DW e) (xZ hf)
 rw[Ak] at hen
 show Ev GV Γq 28 [ag e.row] h (.tup [byD (encR (.list (l9 e))),int 0]) h
 generalize encR (.list (l9 e))=b at hen ⊢
 have h1:=eenc_a hck hct hen
 exact Ev.frame0 rfl h1 h
def dgF (x:List (BitVec 8)) (e:EntT):List (BitVec 8):=rL x (wx (dP "entry".toUTF8) (Cf e))
def dgR (l:List EntT):List (BitVec 8):=l.foldl dgF (wx (dP "ledger".toUTF8) [])
theorem dgF_1(x:List (BitVec 8))(e:EntT):(dgF x e).length=32:=by
 unfold dgF
 exact oq _ _
theorem sF:∀(l:List EntT) (x:List (BitVec 8)),x.length=32→(l.foldl dgF x).length=32
 | [],_,h=>h
 | e::l,x,h=>by
  rw[K6]
  exact sF l (dgF x e) (dgF_1 x e)
theorem dg_l{l:List EntT}{x:List (BitVec 8)}(hx:x.length=32)(hl:l.length≤16)(hf:∀e∈l,sP e=true)(o:∀e∈l,e.ok)(hv:∀e∈l,bh e=0):
  CW GV Γq [] false (.loop (sub Kf 0)) (dgS (l.map Hi) x 0) (.exit 0) {t:=mkT 36 0 [(2,.ref (.ptr 0 0)),(3,int 0)],h:=[.var ((l.foldl dgF x).map w8)],m:=[]}:=by
 have hall:l.take l.length=l:=List.take_length
 have h0:=Jb (P:=GV) (Γ:=Γq) (h0:=[]) (rd:=false) (c:=sub Kf 0) l.length (fun i=>dgS (l.map Hi) ((l.take i).foldl dgF x) (i:Int)) (e:=.exit 0) (by simp) (fun i hi=>?_) (Gc (L:=l.map Hi) (i:=l.length) (x:=(l.take l.length).foldl dgF x) (by simp))
 ·rw[hall] at h0
  exact h0
 ·have ha:l[i]? = some l[i]:=HE hi
  have hm:=HL ha
  have hr:=rowAt (row:=Hi) (sz:=31) ha rfl
  have e1:(l.take (i+1)).foldl dgF x=dgF ((l.take i).foldl dgF x) l[i]:=by
   rw[I4 hi,List.foldl_append,K6,List.foldl_nil]
  have hxl:=sF (l.take i) x hx
  have hy:=kO (dP "entry".toUTF8) (Cf l[i])
  have hz:(dgF ((l.take i).foldl dgF x) l[i]).length=32:=dgF_1 _ _
  have hb:(Cf l[i]).length≤100000000000:=by have:=xZ (hf _ hm);unfold Cf;omega
  have htg (H:List Blk):=(rJ (s:= "entry".toUTF8) hb H).glob gdq
  have hch (H:List Blk):Ev GV Γq 29 [cO ((l.take i).foldl dgF x),cO (wx (dP "entry".toUTF8) (Cf l[i]))] H (cO (dgF ((l.take i).foldl dgF x) l[i])) H:=by
   unfold dgF
   exact(BG hxl hy H).glob gdq
  show CW GV Γq [] false (sub Kf 0) (dgS (l.map Hi) ((l.take i).foldl dgF x) (i:Int)) .normal (dgS (l.map Hi) ((l.take (i+1)).foldl dgF x) ((i+1:Nat):Int))
  rw[e1]
  have hen:=DX (hf _ hm) (o _ hm) (hv _ hm)
  generalize dgF ((l.take i).foldl dgF x) l[i]=z at *
  generalize wx (dP "entry".toUTF8) (Cf l[i])=y at *
  generalize (l.take i).foldl dgF x=x1 at *
  generalize Cf l[i]=b at *
  exact Gb hr (lt_len Hi hi) (wrap_succ hi (show l.length≤_ by omega)) hen htg hch (rI (k:=0) rfl hxl) (j0 (k:=0) rfl hxl hz)
theorem yb(l:List EntT):(dgR l).length=32:=sF l _ (kO _ _)
theorem yc{l:List EntT}(hl:l.length≤16)(hf:∀e∈l,sP e=true)(o:∀e∈l,e.ok)(hv:fJ l=0)(h:List Blk):
  Ev GV Γq 10 [aa (l.map Hi)] h (.tup [cO (dgR l),int 0]) h:=by
 have hck (H:List Blk):=hv▸yS (l:=l) (show l.length≤_ by omega) o H
 have hlen:=yb l
 have ht0:=kO (dP "ledger".toUTF8) []
 have htg (H:List Blk):=(wm (s:= "ledger".toUTF8) H).glob gdq
 have hloop:=dg_l ht0 hl hf o (pB.1 hv).e
 have e0:l.foldl dgF (wx (dP "ledger".toUTF8) [])=dgR l:=rfl
 rw[e0] at hloop
 generalize dgR l=x at *
 generalize wx (dP "ledger".toUTF8) []=x0 at *
 have hfn:GV.funcs[10]? = some Kf:=by kernel_rfl
 have ht:=Gd (x:=x) (rI (k:=0) rfl hlen) (j0 (k:=0) rfl hlen hlen)
 have hw:=dig_a hck htg (wl []) (j0 (k:=0) (a:=zb32) rfl ge ht0) hloop ht
 refine Ev.of_cw0 (ds:=[cO x,int 0]) hfn (by kernel_rfl) hw (.inr rfl) rfl ?_ rfl ?_ ?_ h
 ·have e1:Kf.results.toList=[.cell 2 51,.tmp 3]:=by kernel_rfl
  rw[e1]
  have e2:=rI (hp:=[.var (x.map w8)]) (k:=0) (l:=x) rfl hlen
  have e3:(mkT 36 0 [(2,D.ref (.ptr 0 0)),(3,int 0)]).getD 2 .any=.ref (.ptr 0 0):=rfl
  have e4:(mkT 36 0 [(2,D.ref (.ptr 0 0)),(3,int 0)]).getD 3 .any=int 0:=rfl
  simp only[aR,fo,e3,e4,e2]
  try rfl
 ·rfl
 ·show D.inn 0 (.tup [cO x,int 0])=true
  simp only[D.inn,D.innL,oj,Bool.and_self]
theorem idxAt{n:EntT}:∀(y:List EntT) (k:Nat),n∈y→(∀e∈y,e.st=n.st→e=n)→∃j:Nat,forL (zE n) y k=.inr (k+j)∧y[j]? = some n
 | [],_,h,_=>by simp at h
 | a::y,k,h,hi=>by
  cases hb:kc a.st n.st with
  | true =>
   have:=hi a (by simp) (stEq_iff.1 hb)
   subst this
   exact⟨0,by unfold forL;simp only[zE,hb];rfl,rfl⟩
  | false =>
   have hne:n ≠ a:=fun e=>by subst e;rw[stEq_iff.2 rfl] at hb;cases hb
   obtain⟨j,h1,h2⟩:=idxAt y (k+1) (by simpa[hne] using h) (fun e he=>hi e (by simp[he]))
   refine⟨j+1,?_,by simpa using h2⟩
   unfold forL
   simp only[zE,hb]
   rw[h1,Nat.add_right_comm,Nat.add_assoc]
structure Part (l x:List EntT):Prop where
 s:cr x
 m:∀e∈x,e∈l
theorem Part.sub{l x:List EntT}(P:Part l x)(A:Led l):x.Sublist l:=by
 classical
 have:x=l.filter fun e=>Qd (e∈x):=iW P.s (A.f.sorted.sublist Lt) fun e=>by
  rw[J7,decide_eq_true_iff]
  exact⟨fun h=>⟨P.m e h,h⟩,fun h=>h.2⟩
 rw[this]
 exact Lt
theorem Part.led{l x:List EntT}(P:Part l x)(A:Led l):Led x :=
 ⟨Jo (P.sub A).length_le A.len,fun e he=>A.e e (P.m e he),A.f.sublist (P.sub A)⟩
theorem Part.put{l x:List EntT}{n:EntT}(P:Part l x)(A:Led l)(hn:n∈l):∃(y:List EntT) (j:Nat),Bp x n=(y,(j:Int),0)∧y[j]? = some n∧Part l y∧∀e,e∈y ↔ e∈x∨e=n:=by
 classical
 have X:=P.led A
 have hne:=A.e n hn
 have N:Led [n]:=⟨by simp,by intro e he;simp at he;subst he;exact hne,by simp[Fits]⟩
 let y:=l.filter fun e=>Qd (e∈x∨e=n)
 have hy:∀e,e∈y ↔ e∈x∨e=n:=fun e=>by
  show e∈l.filter _ ↔ _
  rw[J7,decide_eq_true_iff]
  exact⟨fun h=>h.2,fun h=>⟨h.elim (P.m e) (fun h=>h▸hn),h⟩⟩
 have hsub:y.Sublist l:=Lt
 have hj:joR x [n]=some y:=(FI X.f.sorted N.f.sorted X.e N.e y).2 ⟨⟨A.f.sorted.sublist hsub,fun e=>by rw[hy e];simp⟩,A.f.sublist hsub⟩
 obtain⟨j,h1,h2⟩:=idxAt y 0 ((hy n).2 (.inr rfl)) (fun e he hs=>n9 A.f.sorted (hsub.subset he) hn hs)
 refine⟨y,j,?_,h2,⟨A.f.sorted.sublist hsub,fun e he=>hsub.subset he⟩,hy⟩
 unfold Bp
 rw[pB.2 X,hne,hj]
 simp only[bne_self_eq_false]
 unfold idxR
 rw[h1]
 simp
def nT(x ns:List EntT):List EntT:=ns.foldl (fun x n=>(Bp x n).1) x
theorem re(x ns:List EntT)(n:EntT):nT x (ns++[n])=(Bp (nT x ns) n).1:=by
 unfold nT
 rw[List.foldl_append,K6,List.foldl_nil]
theorem iM{l:List EntT}(A:Led l):∀(ns x:List EntT),Part l x→(∀n∈ns,n∈l)→Part l (nT x ns)∧∀e,e∈nT x ns ↔ e∈x∨e∈ns
 | [],x,P,_=>⟨P,fun e=>by simp[nT]⟩
 | n::ns,x,P,h=>by
  obtain⟨y,j,h1,_,h3,h4⟩:=P.put A (h n (by simp))
  have e1:nT x (n::ns)=nT y ns:=by
   unfold nT
   rw[K6,h1]
  obtain⟨g1,g2⟩:=iM A ns y h3 (fun m hm=>h m (by simp[hm]))
  rw[e1]
  exact⟨g1,fun e=>by rw[g2 e,h4 e];simp[or_assoc]⟩
theorem Part.nil(l:List EntT):Part l []:=⟨by simp[cr],by simp⟩
theorem rf{l x:List EntT}(P:Part l x)(A:Led l)(hl:l.length≤16)(o:∀e∈l,e.ok){i:Nat}{k:Int}(hi:i<l.length)(hk:k=(i:Int)):
  Ev GV Γq 7 [int k,.ref (.ptr 2 0),.ref (.ptr 0 0)] [.var [aa (l.map Hi)],.gone,.var [aa (x.map Hi)]] (bool true) [.var [aa (l.map Hi)],.gone,.var [aa ((Bp x l[i]).1.map Hi)]]:=by
 subst hk
 have ha:l[i]? = some l[i]:=HE hi
 have hm:=HL ha
 obtain⟨y,j,h1,h2,h3,_⟩:=P.put A hm
 have hxl:=(P.sub A).length_le
 have hp (h:List Blk):=FG (l:=x) (n:=l[i]) (by omega) (fun e he=>o e (P.m e he)) (o _ hm) h
 rw[h1] at hp ⊢
 have hj:=(List.getElem?_eq_some_iff.1 h2).1
 have hs (h:List Blk):Ev GV Γ0 9 [ag l[i].row,ag l[i].row] h (bool true) h:=by
  have:=dy (a:=l[i]) (b:=l[i]) (o _ hm).m (o _ hm).g (o _ hm).l (o _ hm).c h
  rwa[(iR l[i] l[i]).2 rfl] at this
 refine ap_put (rowAt (row:=Hi) (sz:=31) ha rfl) hp ?_ (rowAt (row:=Hi) (sz:=31) h2 rfl) hs
 have e1:Qd ((j:Int)<0)=false:=by simp
 have e2:Qd ((j:Int)≥((y.map Hi).length:Int))=false:=by simp;omega
 rw[e1,e2];rfl
def ordE(l:List EntT)(n:Int):Nat:=(Ni (G1 GY n) (l.length:Int)).toNat
theorem DY{l:List EntT}(h0:0<l.length){n:Int}(hn:0≤n∧n≤255):Ni (G1 GY n) (l.length:Int)=(ordE l n:Int)∧ordE l n<l.length:=by
 unfold ordE
 have h1:G1 GY n=n:=wrap_i64 (by omega) (by omega)
 rw[h1]
 have h2:0≤Ni n (l.length:Int):=Int.tmod_nonneg _ hn.1
 have h3:Ni n (l.length:Int)<(l.length:Int):=Int.tmod_lt_of_pos _ (by omega)
 omega
def zB(l:List EntT)(os:List Int):List EntT:=os.filterMap fun n=>l[ordE l n]?
theorem An{l:List EntT}{os:List Int}:∀e∈zB l os,e∈l:=fun e he=>by
 obtain⟨n,_,h⟩:=List.mem_filterMap.mp he
 exact HL h
theorem ar_l1{l:List EntT}(A:Led l)(hl:l.length≤16)(o:∀e∈l,e.ok){os:List Int}(hos:os.length≤20)(hb:∀n∈os,0≤n∧n≤255):
  ∃x,Part l x∧CW GV Γq [] false (.loop (sub K3 0)) (arS (os.map u8R) (l.map Hi) [] 0) (.exit 0) (arE (os.map u8R) (l.map Hi) (x.map Hi)):=by
 by_cases h0:l.length=0
 ·refine⟨[],Part.nil l,?_⟩
  have:=za (O:=os.map u8R) (L:=l.map Hi) (X:=([]:List EntT).map Hi) (i:=0) (by
   have:Qd (((l.map Hi).length:Int)>0)=false:=by simp[h0]
   rw[this,Bool.and_false])
  exact Jb (P:=GV) (Γ:=Γq) (h0:=[]) (rd:=false) (c:=sub K3 0) 0 (fun i=>arS (os.map u8R) (l.map Hi) (([]:List EntT).map Hi) (i:Int)) (e:=.exit 0) (by simp) (fun i hi=>absurd hi (Nat.not_lt_zero i)) this
 ·have hp (i:Nat):Part l (nT [] (zB l (os.take i))):=(iM A _ [] (Part.nil l) (fun n hn=>An n hn)).1
  refine⟨nT [] (zB l (os.take os.length)),hp _,?_⟩
  refine Jb (P:=GV) (Γ:=Γq) (h0:=[]) (rd:=false) (c:=sub K3 0) os.length (fun i=>arS (os.map u8R) (l.map Hi) ((nT [] (zB l (os.take i))).map Hi) (i:Int)) (e:=.exit 0) (by simp) (fun i hi=>?_) (za (by
   have:Qd (((os.length:Nat):Int)<((os.map u8R).length:Int))=false:=by simp
   rw[this,Bool.false_and]))
  have ha:os[i]? = some os[i]:=HE hi
  obtain⟨h1,h2⟩:=DY (l:=l) (by omega) (hb _ (HL ha))
  have e1:zB l (os.take (i+1))=zB l (os.take i)++[l[ordE l os[i]]]:=by
   unfold zB
   rw[I4 hi,List.filterMap_append]
   simp[h2]
  have hput:=rf (hp i) A hl o h2 h1
  show CW GV Γq [] false (sub K3 0) (arS (os.map u8R) (l.map Hi) ((nT [] (zB l (os.take i))).map Hi) (i:Int)) .normal (arS (os.map u8R) (l.map Hi) ((nT [] (zB l (os.take (i+1)))).map Hi) ((i+1:Nat):Int))
  rw[e1,re]
  generalize nT [] (zB l (os.take i))=x at *
  refine FM (n:=os[i]) (rowAt (row:=u8R) (sz:=1) ha rfl) (by
   have:Qd (((l.map Hi).length:Int)=0)=false:=by rw[HW,decide_eq_false_iff_not];omega
   rw[this];rfl) (by
   have g1:Qd ((i:Int)<((os.map u8R).length:Int))=true:=by simp;omega
   have g2:Qd (((l.map Hi).length:Int)>0)=true:=by simp;omega
   rw[g1,g2];rfl) (wrap_succ hi (show os.length≤_ by omega)) ?_
  rw[HW]
  exact hput
theorem ar_l2{l x:List EntT}(P:Part l x)(A:Led l)(hl:l.length≤16)(o:∀e∈l,e.ok):
  CW GV Γq [] false (.loop (sub K3 1)) (asS (l.map Hi) (x.map Hi) (GY.wrap (((l.map Hi).length:Int) - 1))) (.exit 2) {t:=mkT 89 0 [(2,.ref (.ptr 0 0)),(5,.ref (.ptr 2 0))],h:=[.var [aa (l.map Hi)],.gone,.var [aa (l.map Hi)]],m:=[]}:=by
 have hr:∀n∈l.reverse,n∈l:=fun n hn=>List.mem_reverse.1 hn
 have hp (k:Nat):Part l (nT x (l.reverse.take k)):=(iM A _ x P (fun n hn=>hr n (Je hn))).1
 have hall:nT x (l.reverse.take l.length)=l:=by
  obtain⟨g1,g2⟩:=iM A (l.reverse.take l.length) x P (fun n hn=>hr n (Je hn))
  refine iW g1.s A.f.sorted fun e=>?_
  rw[g2 e,show l.reverse.take l.length=l.reverse from List.take_of_length_le (by simp),List.mem_reverse]
  exact⟨fun h=>h.elim (P.m e) id,.inr⟩
 have h0:=Jb (P:=GV) (Γ:=Γq) (h0:=[]) (rd:=false) (c:=sub K3 1) l.length (fun k=>asS (l.map Hi) ((nT x (l.reverse.take k)).map Hi) ((l.length:Int) - 1 - (k:Int))) (e:=.exit 2) (by simp) (fun k hk=>?_) (by
   rw[hall,show(l.length:Int) - 1 - ((l.length:Nat):Int) = -1 by omega]
   exact FO)
 ·have e0:GY.wrap (((l.map Hi).length:Int) - 1)=(l.length:Int) - 1 - ((0:Nat):Int):=by
   rw[HW,wrap_i64 (by omega) (by omega)];omega
  rw[e0]
  exact h0
 ·have hi:l.length - 1 - k<l.length:=by omega
  have e1:l.reverse.take (k+1)=l.reverse.take k++[l[l.length - 1 - k]]:=by
   rw[I4 (by simpa using hk),List.getElem_reverse]
  have e2:(l.length:Int) - 1 - (k:Int)=((l.length - 1 - k:Nat):Int):=by omega
  have e3:(l.length:Int) - 1 - ((k+1:Nat):Int)=((l.length - 1 - k:Nat):Int) - 1:=by omega
  have hput:=rf (hp k) A hl o hi rfl
  show CW GV Γq [] false (sub K3 1) (asS (l.map Hi) ((nT x (l.reverse.take k)).map Hi) ((l.length:Int) - 1 - (k:Int))) .normal (asS (l.map Hi) ((nT x (l.reverse.take (k+1))).map Hi) ((l.length:Int) - 1 - ((k+1:Nat):Int)))
  rw[e1,re,e2,e3]
  exact FN (by rw[wrap_i64 (by omega) (by omega)]) (by simp) hput
theorem kb{l:List EntT}{os:List Int}(sl:ar l)(hb:∀n∈os,0≤n∧n≤255)(h:List Blk):Ev GV Γq 3 [aa (l.map Hi),aa (os.map u8R)] h (bool true) h:=by
 have hfew:=few_ev sl
 cases hf:Ck l with
 | false =>
  rw[hf] at hfew
  exact ar_few mu hfew (fun _ h=>h.elim) h
 | true =>
  rw[hf] at hfew
  have o:=few_ok hf
  have hl:=Ge hf
  have hled:=yS (l:=l) (show l.length≤_ by omega) o
  cases hc:(!true||Qd (((os.map u8R).length:Int)>20)||fJ l != 0) with
  | true=>exact ar_bad mu hfew hled hc h
  | false =>
   have h1:=hc
   simp only[Bool.not_true,Bool.false_or,Bool.or_eq_false_iff,decide_eq_false_iff_not,HW,bne_eq_false_iff_eq] at h1
   have A:=pB.1 h1.2
   rw[h1.2] at hled hc
   have hfe:∀e∈l,sP e=true:=by
    unfold Ck at hf
    rw[G6,List.all_eq_true] at hf
    exact hf.1
   obtain⟨x,P,hl1⟩:=ar_l1 A hl o (os:=os) (by omega) hb
   have hd:=yc hl hfe o h1.2
   have hlen:=yb l
   generalize dgR l=d at hd hlen
   obtain⟨g,hg⟩:∃g:Fin 32→BitVec 8,d.map w8=w32L g:=by
    refine⟨fun i=>d.getD i.1 0,?_⟩
    match d,hlen with
    | [_,_,_,_,_,_,_,_,_,_,_,_,_,_,_,_,_,_,_,_,_,_,_,_,_,_,_,_,_,_,_,_],_=>rfl
   rw[show cO d=.agg (d.map w8) from rfl,hg] at hd
   have hs (H:List Blk):Ev GV Γ0 11 [aa (l.map Hi),aa (l.map Hi)] H (bool true) H:=by
    exact Bx sl o H
   exact ar_ok mu hfew hled hc hl1 (ar_l2 P A hl o) hd hs h
open Go.ChangeShapes Go.WideShapes Go.ChangeAt Go.RowKit Go.Proofs.YtbfpdhdcicjihaaGreatDoor
set_option maxRecDepth 100000
def I64(n:Int):Prop := -9223372036854775808≤n∧n≤9223372036854775807
theorem iO:GV.cellsOf 3=1:=by kernel_rfl
theorem cells4:GV.cellsOf 4=1:=by kernel_rfl
theorem cells9:GV.cellsOf 9=1:=by kernel_rfl
theorem yd:GV.cellsOf 31=3:=by kernel_rfl
theorem ye:GV.cellsOf 33=2:=by kernel_rfl
theorem DZ:GV.cellsOf 34=1:=by kernel_rfl
theorem D1:GV.cellsOf 35=1:=by kernel_rfl
theorem D2:GV.cellsOf 36=1:=by kernel_rfl
theorem yf:GV.cellsOf 38=9:=by kernel_rfl
theorem D3:GV.cellsOf 39=1:=by kernel_rfl
theorem yg:GV.cellsOf 41=2:=by kernel_rfl
theorem yh:GV.cellsOf 43=9:=by kernel_rfl
theorem yj:GV.cellsOf 45=2:=by kernel_rfl
theorem D4:GV.cellsOf 47=31:=by kernel_rfl
theorem Ao:GV.cellsOf 94=5:=by kernel_rfl
theorem Ap:GV.cellsOf 97=3:=by kernel_rfl
theorem bytes3:GV.bytesOf 3=8:=by kernel_rfl
theorem Aq:GV.bytesOf 94=40:=by kernel_rfl
theorem Ar:GV.bytesOf 97=24:=by kernel_rfl
theorem D5:GV.bytesOf 41=16:=by kernel_rfl
theorem D6:GV.bytesOf 47=320:=by kernel_rfl
theorem D7:tg GV [3,4,9,22,31,33,34,35,36,38,39,41,43,45,47,94,97]=true:=by kernel_rfl
theorem aC{n:Nat}{ds:List Dp}(h:Shp GV n 3 ds):∃x,ds=[vi x]∧I64 x:=by
 cases n with
 | zero=>exact h.elim
 | succ n =>
  simp only[Shp,Tryz.underlying3] at h
  obtain⟨x,rfl,hw⟩:=h
  exact⟨x,rfl,bounds_i64 hw⟩
theorem D8{n:Nat}{ds:List Dp}(h:Shp GV n 9 ds):∃s,ds=[vs s]:=by
 cases n with
 | zero=>exact h.elim
 | succ n =>
  simp only[Shp,Tryz.underlying9] at h
  obtain⟨s,rfl,_⟩:=h
  exact⟨s,rfl⟩
theorem Au{n:Nat}{ds:List Dp}(h:Shp GV n 4 ds):∃b,ds=[.v (.bool b)]:=by
 cases n with
 | zero=>exact h.elim
 | succ n =>
  simp only[Shp,Tryz.underlying4] at h
  obtain⟨b,rfl⟩:=h
  exact⟨b,rfl⟩
theorem md{α:Type}{row:α→List Dp}{ok:α→Prop}:∀{es:List (List Dp)},(∀r∈es,∃a,r=row a∧ok a)→∃l:List α,es=l.map row∧∀a∈l,ok a
 | [],_=>⟨[],rfl,by simp⟩
 | r::es,h=>by
  obtain⟨a,rfl,ha⟩:=h r (Ix ..)
  obtain⟨l,rfl,hl⟩:=md (fun r hr=>h r (Jl _ hr))
  exact⟨a::l,rfl,fun b hb=>(HB.1 hb).elim (fun e=>e▸ha) (hl b)⟩
theorem Av{n k:Nat}(h:n*k≤reachBytes)(hk:1≤k):n≤140737488355328:=by
 have:n≤n*k:=Nat.le_mul_of_pos_right n hk
 unfold reachBytes at h
 omega
theorem shp_st{n:Nat}{ds:List Dp}(h:Shp GV n 31 ds):∃a:StT,ds=a.row∧True:=by
 cases n with
 | zero=>exact h.elim
 | succ n =>
  simp only[Shp,Tryz.underlying31,Iz,iO,yd] at h
  obtain⟨hl,h1,h2,h3,_⟩:=h
  obtain⟨x1,e1,_⟩:=aC h1
  obtain⟨x2,e2,_⟩:=aC h2
  obtain⟨x3,e3,_⟩:=aC h3
  match ds,hl with
  | [p1,p2,p3],_ =>
   simp at e1 e2 e3
   subst e1;subst e2;subst e3
   exact⟨⟨x1,x2,x3⟩,rfl,trivial⟩
theorem shp_mt{n:Nat}{ds:List Dp}(h:Shp GV n 94 ds):∃a:MeT,ds=a.row∧True:=by
 cases n with
 | zero=>exact h.elim
 | succ n =>
  simp only[Shp,Tryz.underlying94,Iz,iO,Ao] at h
  obtain⟨hl,h1,h2,h3,h4,h5,_⟩:=h
  obtain⟨x1,e1,_⟩:=aC h1
  obtain⟨x2,e2,_⟩:=aC h2
  obtain⟨x3,e3,_⟩:=aC h3
  obtain⟨x4,e4,_⟩:=aC h4
  obtain⟨x5,e5,_⟩:=aC h5
  match ds,hl with
  | [p1,p2,p3,p4,p5],_ =>
   simp at e1 e2 e3 e4 e5
   subst e1;subst e2;subst e3;subst e4;subst e5
   exact⟨⟨x1,x2,x3,x4,x5⟩,rfl,trivial⟩
theorem shp_gr{n:Nat}{ds:List Dp}(h:Shp GV n 97 ds):∃a:GrT,ds=a.row∧True:=by
 cases n with
 | zero=>exact h.elim
 | succ n =>
  simp only[Shp,Tryz.underlying97,Iz,iO,Ap] at h
  obtain⟨hl,h1,h2,h3,_⟩:=h
  obtain⟨x1,e1,_⟩:=aC h1
  obtain⟨x2,e2,_⟩:=aC h2
  obtain⟨x3,e3,_⟩:=aC h3
  match ds,hl with
  | [p1,p2,p3],_ =>
   simp at e1 e2 e3
   subst e1;subst e2;subst e3
   exact⟨⟨x1,x2,x3⟩,rfl,trivial⟩
theorem Cg{n:Nat}{ds:List Dp}(h:Shp GV n 41 ds):∃a:BuT,ds=a.row∧True:=by
 cases n with
 | zero=>exact h.elim
 | succ n =>
  simp only[Shp,Tryz.underlying41,Iz,iO,yg] at h
  obtain⟨hl,h1,h2,_⟩:=h
  obtain⟨x1,e1,_⟩:=aC h1
  obtain⟨x2,e2,_⟩:=aC h2
  match ds,hl with
  | [p1,p2],_ =>
   simp at e1 e2
   subst e1;subst e2
   exact⟨⟨x1,x2⟩,rfl,trivial⟩
theorem Aw{n:Nat}{ds:List Dp}(h:Shp GV n 33 ds):∃a b,ds=[vi a,vi b]:=by
 cases n with
 | zero=>exact h.elim
 | succ n =>
  simp only[Shp,Tryz.underlying33,Iz,iO,ye] at h
  obtain⟨hl,h1,h2,_⟩:=h
  obtain⟨x1,e1,_⟩:=aC h1
  obtain⟨x2,e2,_⟩:=aC h2
  match ds,hl with
  | [p1,p2],_ =>
   simp at e1 e2
   subst e1;subst e2
   exact⟨x1,x2,rfl⟩
theorem D9{n:Nat}{ds:List Dp}(h:Shp GV n 45 ds):∃a b,ds=[vi a,vi b]:=by
 cases n with
 | zero=>exact h.elim
 | succ n =>
  simp only[Shp,Tryz.underlying45,Iz,iO,yj] at h
  obtain⟨hl,h1,h2,_⟩:=h
  obtain⟨x1,e1,_⟩:=aC h1
  obtain⟨x2,e2,_⟩:=aC h2
  match ds,hl with
  | [p1,p2],_ =>
   simp at e1 e2
   subst e1;subst e2
   exact⟨x1,x2,rfl⟩
theorem Ea{n:Nat}{ds:List Dp}(h:Shp GV n 34 ds):∃l:List MeT,ds=[.sl (l.map Hm)]:=by
 cases n with
 | zero=>exact h.elim
 | succ n =>
  simp only[Shp,Tryz.underlying34,Aq] at h
  obtain⟨es,rfl,_,he⟩:=h
  obtain⟨l,rfl,_⟩:=md (row:=Hm) (ok:=fun _=>True) (fun r hr=>shp_mt (he r hr))
  exact⟨l,rfl⟩
theorem Eb{n:Nat}{ds:List Dp}(h:Shp GV n 35 ds):∃l:List GrT,ds=[.sl (l.map Hn)]:=by
 cases n with
 | zero=>exact h.elim
 | succ n =>
  simp only[Shp,Tryz.underlying35,Ar] at h
  obtain⟨es,rfl,_,he⟩:=h
  obtain⟨l,rfl,_⟩:=md (row:=Hn) (ok:=fun _=>True) (fun r hr=>shp_gr (he r hr))
  exact⟨l,rfl⟩
theorem Ec{n:Nat}{ds:List Dp}(h:Shp GV n 39 ds):∃l:List BuT,ds=[.sl (l.map G7)]:=by
 cases n with
 | zero=>exact h.elim
 | succ n =>
  simp only[Shp,Tryz.underlying39,D5] at h
  obtain⟨es,rfl,_,he⟩:=h
  obtain⟨l,rfl,_⟩:=md (row:=G7) (ok:=fun _=>True) (fun r hr=>Cg (he r hr))
  exact⟨l,rfl⟩
theorem Ax{n:Nat}{ds:List Dp}(h:Shp GV n 36 ds):∃l:List Int,ds=[.sl (l.map ab)]:=by
 cases n with
 | zero=>exact h.elim
 | succ n =>
  simp only[Shp,Tryz.underlying36,bytes3] at h
  obtain⟨es,rfl,_,he⟩:=h
  obtain⟨l,rfl,_⟩:=md (row:=ab) (ok:=fun _=>True) (fun r hr=>by obtain⟨x,e,_⟩:=aC (he r hr);exact⟨x,e,trivial⟩)
  exact⟨l,rfl⟩
theorem Ed{n:Nat}{ds:List Dp}(h:Shp GV n 38 ds):∃s:SecT,ds=s.row:=by
 cases n with
 | zero=>exact h.elim
 | succ n =>
  simp only[Shp,Tryz.underlying38,Iz,iO,cells4,DZ,D1,D2,yf] at h
  obtain⟨hl,h1,h2,h3,h4,h5,h6,h7,h8,h9,_⟩:=h
  obtain⟨x1,e1,_⟩:=aC h1
  obtain⟨x2,e2,_⟩:=aC h2
  obtain⟨x3,e3,_⟩:=aC h3
  obtain⟨x4,e4,_⟩:=aC h4
  obtain⟨x5,e5,_⟩:=aC h5
  obtain⟨x6,e6⟩:=Ea h6
  obtain⟨x7,e7⟩:=Eb h7
  obtain⟨x8,e8⟩:=Ax h8
  obtain⟨x9,e9⟩:=Au h9
  match ds,hl with
  | [p1,p2,p3,p4,p5,p6,p7,p8,p9],_ =>
   simp at e1 e2 e3 e4 e5 e6 e7 e8 e9
   subst e1;subst e2;subst e3;subst e4;subst e5;subst e6;subst e7;subst e8;subst e9
   exact⟨⟨x1,x2,x3,x4,x5,x6,x7,x8,x9⟩,rfl⟩
theorem shp_rq{n:Nat}{ds:List Dp}(h:Shp GV n 43 ds):∃r:RqT,ds=r.row:=by
 cases n with
 | zero=>exact h.elim
 | succ n =>
  simp only[Shp,Tryz.underlying43,Iz,iO,D3,yg,yh] at h
  obtain⟨hl,h1,h2,h3,h4,h5,h6,h7,h8,_⟩:=h
  obtain⟨x1,e1,_⟩:=aC h1
  obtain⟨x2,e2,_⟩:=aC h2
  obtain⟨x3,e3,_⟩:=aC h3
  obtain⟨x4,e4,_⟩:=aC h4
  obtain⟨x5,e5,_⟩:=aC h5
  obtain⟨x6,e6⟩:=Ec h6
  obtain⟨⟨x7,x8⟩,e7,_⟩:=Cg h7
  obtain⟨x9,e9,_⟩:=aC h8
  match ds,hl with
  | [p1,p2,p3,p4,p5,p6,p7,p8,p9],_ =>
   simp[G7] at e1 e2 e3 e4 e5 e6 e7 e9
   obtain⟨e7,e8⟩:=e7
   subst e1;subst e2;subst e3;subst e4;subst e5;subst e6;subst e7;subst e8;subst e9
   exact⟨⟨x1,x2,x3,x4,x5,x6,x7,x8,x9⟩,rfl⟩
def EntT.val64(e:EntT):Prop:=e.val≤9223372036854775807
theorem bl{α:Type}(n m:Nat)(l:List α):l.drop n=(l.drop n).take m++l.drop (n+m):=by
 rw[←List.drop_drop,List.take_append_drop]
theorem Ee{n:Nat}{ds:List Dp}(h:Shp GV n 47 ds):∃e:EntT,ds=e.row∧e.val64:=by
 cases n with
 | zero=>exact h.elim
 | succ n =>
  simp only[Shp,Tryz.underlying47,Iz,iO,cells9,yd,ye,yf,yh,yj,D4] at h
  obtain⟨hl,h1,h2,h3,h4,h5,h6,h7,h8,h9,h10,h11,_⟩:=h
  obtain⟨⟨a1,a2,a3⟩,e1,_⟩:=shp_st h1
  obtain⟨x2,e2,_⟩:=aC h2
  obtain⟨x3,e3,_⟩:=aC h3
  obtain⟨x4,e4,_⟩:=aC h4
  obtain⟨x5,e5,_⟩:=aC h5
  obtain⟨x6,e6,v6⟩:=aC h6
  obtain⟨b1,b2,e7⟩:=Aw h7
  obtain⟨x8,e8⟩:=D8 h8
  obtain⟨x9,e9⟩:=Ed h9
  obtain⟨x10,e10⟩:=shp_rq h10
  obtain⟨c1,c2,e11⟩:=D9 h11
  have hd:ds=(ds.drop 0).take 3++((ds.drop 3).take 1++((ds.drop 4).take 1++((ds.drop 5).take 1++((ds.drop 6).take 1++((ds.drop 7).take 1++((ds.drop 8).take 2++((ds.drop 10).take 1++((ds.drop 11).take 9++((ds.drop 20).take 9++(ds.drop 29).take 2))))))))):=by
   have h29:ds.drop 29=(ds.drop 29).take 2:=by
    have:=bl 29 2 ds
    rw[show ds.drop (29+2)=[] from List.drop_eq_nil_of_le (by omega),List.append_nil] at this
    exact this
   rw[←h29,←bl 20 9,←bl 11 9,←bl 10 1,←bl 8 2,←bl 7 1,←bl 6 1,←bl 5 1,←bl 4 1,←bl 3 1,←bl 0 3]
   rfl
  refine⟨⟨a1,a2,a3,x2,x3,x4,x5,x6,b1,b2,x8,x9,x10,c1,c2⟩,?_,v6.2⟩
  rw[hd,e1,e2,e3,e4,e5,e6,e7,e8,e9,e10,e11]
  rfl
theorem Ay{n:Nat}{ds:List Dp}(h:Shp GV n 22 ds):∃l:List EntT,ds=[.sl (l.map Hi)]∧ar l∧∀e∈l,e.val64:=by
 cases n with
 | zero=>exact h.elim
 | succ n =>
  simp only[Shp,LB,D6] at h
  obtain⟨es,rfl,hb,he⟩:=h
  obtain⟨l,rfl,hv⟩:=md (row:=Hi) (ok:=EntT.val64) (fun r hr=>Ee (he r hr))
  exact⟨l,rfl,by have:=Av hb (by omega);simpa[ar] using this,hv⟩
theorem Az{H:Type}{enc:TypeId×Value→H}{W:World}{base:Nat}{v:Value}{d:DataW H}{p:List MemPlace}
  (hok:Ly GV W .any base 22 v) (h:DataW.Trod enc GV W 0 (fun _=>true) true 22 v d p) (hw:(d.weights GV 22).all (· ≤ reachBytes)=true) :
  ∃l:List EntT,(ar l∧∀e∈l,e.val64)∧Rel W (avs (fun _=>False) (fun _=>none) []) (fun _=>none) [] (aa (l.map Hi)) v:=by
 obtain⟨fuel,hf⟩:=h
 unfold Ly at hok
 rw[LB] at hok
 have hc:v.cells.toList=[v]:=by
  cases v<;>first|rfl|skip
  unfold Cell.okWide at hok
  rw[LB] at hok
  exact hok.elim
 rw[hc] at hf
 obtain⟨ds,h1,h2⟩:=nb D7 fP fuel 22 _ d p (by decide) hf hw
 obtain⟨l,rfl,hl⟩:=Ay h1
 refine⟨l,hl,?_⟩
 simp only[RelPL,and_true] at h2
 simpa[aa,Rel] using h2
theorem Ef:tg GV [5,23]=true:=by kernel_rfl
theorem bytes5:GV.bytesOf 5=1:=by kernel_rfl
theorem shp_u8{n:Nat}{ds:List Dp}(h:Shp GV n 5 ds):∃x:Int,ds=[.v (.int .u8 x)]∧(0≤x∧x≤255):=by
 cases n with
 | zero=>exact h.elim
 | succ n =>
  simp only[Shp,Tryz.underlying5] at h
  obtain⟨x,rfl,hw⟩:=h
  refine⟨x,rfl,?_⟩
  have h1:GZ.min≤x∧x≤GZ.max:=by simpa[Lit.wf] using hw
  have e1:GZ.min=0:=by decide
  have e2:GZ.max=255:=by decide
  omega
theorem Eg{n:Nat}{ds:List Dp}(h:Shp GV n 23 ds):∃l:List Int,ds=[.sl (l.map u8R)]∧∀x∈l,0≤x∧x≤255:=by
 cases n with
 | zero=>exact h.elim
 | succ n =>
  simp only[Shp,LC,bytes5] at h
  obtain⟨es,rfl,hb,he⟩:=h
  obtain⟨l,rfl,hv⟩:=md (row:=u8R) (ok:=fun x=>0≤x∧x≤255) (fun r hr=>shp_u8 (he r hr))
  exact⟨l,rfl,hv⟩
theorem Eh{H:Type}{enc:TypeId×Value→H}{W:World}{base:Nat}{v:Value}{d:DataW H}{p:List MemPlace}
  (hok:Ly GV W .any base 23 v) (h:DataW.Trod enc GV W 0 (fun _=>true) true 23 v d p) (hw:(d.weights GV 23).all (· ≤ reachBytes)=true) :
  ∃l:List Int,(∀x∈l,0≤x∧x≤255)∧Rel W (avs (fun _=>False) (fun _=>none) []) (fun _=>none) [] (aa (l.map u8R)) v:=by
 obtain⟨fuel,hf⟩:=h
 unfold Ly at hok
 rw[LC] at hok
 have hc:v.cells.toList=[v]:=by
  cases v<;>first|rfl|skip
  unfold Cell.okWide at hok
  rw[LC] at hok
  exact hok.elim
 rw[hc] at hf
 obtain⟨ds,h1,h2⟩:=nb Ef fP fuel 23 _ d p (by decide) hf hw
 obtain⟨l,rfl,hl⟩:=Eg h1
 refine⟨l,hl,?_⟩
 simp only[RelPL,and_true] at h2
 simpa[aa,Rel] using h2
end Go.Vi
open Go Go.Proofs
namespace Go.Vi
set_option maxHeartbeats 4000000
open Go.ChangeShapes Go.WideShapes Go.ChangeAt Go.RowKit Go.Proofs.YtbfpdhdcicjihaaGreatDoor
set_option maxRecDepth 100000
theorem ownK:ownKnob GV.godebug=none:=by kernel_rfl
theorem Ei:laidOutB GV=true:=by kernel_rfl
def kd(a b c d:Bool)(f g:Value):List Value:=[.bool a,.bool b,.bool c,.bool d,f,g]
def kf(k:Nat):Value:=.func (.func k) #[] #[]
def vL:List Value :=
 kd false false false false .nilFunc .nilFunc++kd false false false true (kf 386) (kf 387)++kd false false false true (kf 388) (kf 389)++kd false true false true (kf 390) (kf 391) ++
 kd false false false true (kf 392) (kf 393)++kd true true false false (kf 394) (kf 396)++kd true true false false (kf 398) (kf 399)++kd false true false false (kf 400) (kf 401) ++
 kd false true true false (kf 402) (kf 403)++kd true false false false (kf 395) (kf 404)
def rk4(a b:Int)(g k:Bool):List Value:=[.int .i64 a,.int .i64 b,.bool g,.bool k]
def rkCells:List Value:=rk4 0 0 false false++rk4 1 8 false true++rk4 0 0 true false++rk4 1 1 true false++rk4 1 1 false false++rk4 1 1 false false
def t8:Value:=.iface 196 (.agg #[.pointer (some ⟨5,144,none⟩)])
def u32s(l:List Int):List Value:=l.map (GW .u32)
def stCells:List Value:=u32s [1779033703,3144134277,1013904242,2773480762,1359893119,2600822924,528734635,1541459225]
def nuCells:List Value:=u32s [1116352408,1899447441,3049323471,3921009573,961987163,1508970993,2453635748,2870763221,3624381080,310598401,607225278,1426881987,1925078388,2162078206,2614888103,3248222580,3835390401,4022224774,264347078,604807628,770255983,1249150122,1555081692,1996064986,2554220882,2821834349,2952996808,3210313671,3336571891,3584528711,113926993,338241895,666307205,773529912,1294757372,1396182291,1695183700,1986661051,2177026350,2456956037,2730485921,2820302411,3259730800,3345764771,3516065817,3600352804,4094571909,275423344,430227734,506948616,659060556,883997877,958139571,1322822218,1537002063,1747873779,1955562222,2024104815,2227730452,2361852424,2428436474,2756734187,3204031479,3329325298]
def yk(cs:List Value):Obj→Obj
 | .cells _ t frozen=>.cells cs.toArray t frozen
 | o=>o
noncomputable def me(os:Os):World :=
 {World.holding GV os ⟨#[],#[],[]⟩ with heap:=(((((World.holding GV os ⟨#[],#[],[]⟩).heap.modify 0 (yk stCells)).modify 1 (yk rkCells)).modify 2 (yk nuCells)).modify 3 (yk [t8])).modify 4 (yk vL)}
abbrev laid5:List (String×DataW Unit):=[("errors.errorType",Rows.laid_errors_errorType),("sizar/digest.start",Rows.laid_sizar_digest_start),("sizar/digest.numbers",Rows.laid_sizar_digest_numbers),("sizar/requests.kinds",Rows.laid_sizar_requests_kinds),("sizar/rules.kinds",Rows.laid_sizar_rules_kinds)]
theorem laid_met(os:Os)(args:Array Value):laidMetH GV laid5 ((me os).forCall (fun _ _=>0) ⟨#[],args,[]⟩).memory :=
 laidMetH_of_parts3 (fuel:=8) (laidMet_of_run' 8 (by kernel_rfl) (by kernel_rfl)) (by kernel_rfl) (by kernel_rfl)
end Go.Vi
