/- A part of the proof; no conditions of its own. -/
import Derived.Test.YtgalafpinkflfaaGreatDoorW5
open Decidable renaming decide -> Zd
open Go.Proofs.Tryz renaming prog -> MK, f191 -> Ng, f313 -> QQ, f192 -> QY, f113 -> PR
open List renaming getElem?_eq_some_iff -> MR, length -> MO, map -> ML, set -> Oe, drop -> Od, getD -> MT, mem_of_getElem? -> Ny, replicate -> MU, drop_drop -> Rp, length_drop -> Ph, length_cons -> N3, length_append -> Oq, length_singleton -> QK, foldl_cons -> NI, mem_append -> Oz, getElem_mem -> RZ
open Go.Vi.D renaming ref -> PM, fn -> Ot, Tt -> Nt, UP -> NS, U7 -> Nm
open Prod.mk renaming injEq -> MV
open Go.Vi.By renaming row -> Nc
open Go.LoopState renaming busy -> Nu
open Go.Fn renaming func -> Nl
open Int renaming toNat -> MP, tdiv -> Nn, tdiv_eq_ediv_of_nonneg -> Qm, toNat_natCast -> Oc, tmod -> P0
open Go.Operand renaming tmp -> Pp, const -> QT
open Go.Vi.iN renaming UV -> MZ
open Go.Vi.Ev renaming WB -> Na
open Go.Vi.Iv renaming round -> Th
open Nat renaming add_sub_cancel' -> Rj
open Go.IntKind renaming i64 -> MM, wrap -> MN
open Option renaming map_some -> Pa, isNone_none -> SQ, map -> RK
open Bool renaming and_self -> Ov
open Go.Builtin renaming len -> QG
open Go.Value renaming int -> N5
open Go.Vi.MW renaming run -> Rb, seq -> SR
open BitVec renaming ofInt -> Nf, toNat -> OB
open Go Go.Proofs
namespace Go.Vi
set_option maxRecDepth 100000
set_option maxHeartbeats 4000000
section
variable {l:List Int} {b i e:Nat} {a u:Int} {h:List iN}
theorem dy(hb:h[b]? = some (.bY (al l) e 1))(ha:l[i]? = some a):aI MK h 3 (.ref (.vp b e i 0))=some (aT a):=by
 have e1:(al l)[i]? = some [aT a]:=by simp[al,ha]
 unfold aI
 simp[hb,e1]
 rfl
theorem my(hb:h[b]? = some (.bY (al l) 0 1))(hi:i<l.length):aN MK h 3 (.ref (.vp b 0 i 0)) (aT a)=some (h.set b (.bY (al (l.set i a)) 0 1)):=by
 have e1:(al l)[i]? = some [aT l[i]]:=by simp[al,hi]
 unfold aN
 simp only[hb,e1,if_true]
 simp[al,List.map_set]
 rfl
theorem sk(h0:0<=u)(ha:l[u.toNat]? = some a):TU u (al l).length=true:=by
 grind [TU,al]
theorem F9(ha:l[i]? = some a):i<l.length:=(MR.1 ha).1
theorem room8{n:Nat}(hn:n<=1000000000):Tw n 8=true:=by simp[Tw];omega
theorem vg_app(hb:h[b]? = some (.bY (al l) e 1)){k:Nat}(hk:h[k]? = some (.bY [[aT a]] 0 1))(hl:l.length<=1000000):
  TF MK h .append [32,32] [.ref (.bY b e),.ref (.bY k 0)]=some (true,PM (.bY b (e+1)),h.set b (.bY (al (l++[a])) (e+1) 1)):=by
 have h1:([[aT a]]:List (List D)).all (bf 1)=true:=rfl
 have h2:Tw ((al l).length+1) 8=true:=room8 (by rw[dD];omega)
 have h3:(eX MK 32,MK.underlying 32,U2 MK 3,bytesOf MK 3,dR MK 3)=(some 3,some (.slice 3),some 1,some 8,some [aT 0]):=by kernel_rfl
 simp only[MV] at h3
 obtain⟨h3,h4,h5,h6,h7⟩:=h3
 simp[TF,mF,h3,h5,h6,h7,Yz,Uj,hk,hb,h1,h2,jO]
theorem vs_app(hb:h[b]? = some (.bY (al l) e 1)){k i n:Nat}(hk:h[k]? = some (.bY [[aT a]] 0 1))(hl:l.length<=1000000)(TZ:i+n=l.length):
  TF MK h .append [32,32] [.ref (.vs b e i n none),.ref (.bY k 0)]=some (true,PM (.bY b (e+1)),h.set b (.bY (al (l.drop i++[a])) (e+1) 1)):=by
 have h1:([[aT a]]:List (List D)).all (bf 1)=true:=rfl
 have h2:Tw (n+1) 8=true:=room8 (by omega)
 have h3:(eX MK 32,MK.underlying 32,U2 MK 3,bytesOf MK 3,dR MK 3)=(some 3,some (.slice 3),some 1,some 8,some [aT 0]):=by kernel_rfl
 simp only[MV] at h3
 obtain⟨h3,h4,h5,h6,h7⟩:=h3
 have h8:(al l).drop i++[[aT a]]=al (l.drop i++[a]):=by simp[al,List.map_drop]
 simp[TF,mF,h3,h5,h6,h7,Yz,Uj,hk,hb,h1,h2,dD,TZ,h8]
end
abbrev ZE(v:Int):List D:=DO 59 0 [(0,.ref (.ptr 2 0)),(5,.ref (.ptr 3 0)),(6,.ref (.ptr 4 0)),(7,.ref (.ptr 8 0)),(8,aT v),(39,.fn (.func 313) [] [.ref (.ptr 9 0),.ref (.ptr 10 0)])]
abbrev usU(v r u:Int):List D:=DO 59 0 [(5,.ref (.ptr 3 0)),(6,.ref (.ptr 4 0)),(7,.ref (.ptr 8 0)),(9,aT r),(10,aT u)]
noncomputable abbrev VX(es:List By)(A:List (List Dp))(fs:List Int)(v to:Int)(by':List Int)(l:List Int)(e:Nat)(Q:D)(st:LoopState)(pd:Option Code):List iN:=usH es A fs v (.var [aT to]) (.var [.ref (.bY 6 0)]) (.bY [[aT (-1)]] 0 1) (.bY (al by') 0 1) (.bY (al l) e 1) (.var [Q]) st pd
theorem yv{es:List By}{A:List (List Dp)}{fs by' l:List Int}{v to r u:Int}{e:Nat}{Q:D}:(CW MK At (VX es A fs v to by' l e Q .ready none) true (au (sub Ng 1)) {t:=dL (ZE v) [(40,aT r),(41,aT u)],h:=VX es A fs v to by' l e Q .ready none,m:=[]} .normal {t:=usU v r u,h:=VX es A fs v to by' l e Q .ready none,m:=[]}):=by
 exact yx [.st (.mask [5,6,7,9,10])] []
theorem K8{es:List By}{A:List (List Dp)}{fs by' l:List Int}{v to r u x:Int}{e:Nat}{Q:D}(h0:0<=u)(hx:by'[u.toNat]? = some x)(hg:Zd (x>=0)=true):(CW MK At (VX es A fs v to by' l e Q .ready none) true (ai (sub Ng 1)) {t:=usU v r u,h:=VX es A fs v to by' l e Q .busy none,m:=[]} .normal {t:=DO 59 0 [],h:=VX es A fs v to by' l e Q .busy none,m:=[]}):=by
 refine yx [.st (.mask [])] [(?_:TU u (MO (al by'))=true),(?_:@Eq (Option D) (aI MK [.bY (al fs) 0 1,.T1,.var [ab (ML Nc es),.ref (.bY 0 0),ab A],.var [aT to],.var [.ref (.bY 6 0)],.bY [[aT (-1)]] 0 1,.bY (al by') 0 1,.bY (al l) e 1,.var [Q],.var [.ref (.ptr 2 0)],.var [aT v],.Ts,.loop Nu none 0 (DO 59 0 [(0,.ref (.ptr 2 0)),(5,.ref (.ptr 3 0)),(6,.ref (.ptr 4 0)),(7,.ref (.ptr 8 0)),(8,aT v),(39,Ot (Nl 313) [] [.ref (.ptr 9 0),.ref (.ptr 10 0)])]) {toList:=[40,41]} (au (sub Ng 1)) (ai (sub Ng 1))] 3 (.ref (.vp 6 0 (MP u) 0))) (some (aT x))),.a1 (.ov 45 (aT x)),.b hg]<;>(first|exact sk h0 hx|exact dy rfl hx)
theorem ub_hit{es:List By}{A:List (List Dp)}{fs by' l:List Int}{v to r u x:Int}{e:Nat}{Q:D}(h0:0<=u)(hx:by'[u.toNat]? = some x)(hg:Zd (x>=0)=false)(ht:(u==to)=true):(CW MK At (VX es A fs v to by' l e Q .ready none) true (ai (sub Ng 1)) {t:=usU v r u,h:=VX es A fs v to by' l e Q .busy none,m:=[]} (.exit 0) {t:=DO 59 0 [],h:=VX es A fs v to (by'.set u.toNat r) l e Q .busy none,m:=[]}):=by
 let v0:List iN:=[.bY (al fs) 0 1,.T1,.var [ab (ML Nc es),.ref (.bY 0 0),ab A],.var [aT to],.var [.ref (.bY 6 0)],.bY [[aT (-1)]] 0 1,.bY (al by') 0 1,.bY (al l) e 1,.var [Q],.var [.ref (.ptr 2 0)],.var [aT v],.Ts,.loop Nu none 0 (DO 59 0 [(0,.ref (.ptr 2 0)),(5,.ref (.ptr 3 0)),(6,.ref (.ptr 4 0)),(7,.ref (.ptr 8 0)),(8,aT v),(39,Ot (Nl 313) [] [.ref (.ptr 9 0),.ref (.ptr 10 0)])]) {toList:=[40,41]} (au (sub Ng 1)) (ai (sub Ng 1))]
 refine yx [.st (.mask [])] [(?_:TU u (MO (al by'))=true),(?_:@Eq (Option D) (aI MK v0 3 (.ref (.vp 6 0 (MP u) 0))) (some (aT x))),.a1 (.ov 45 (aT x)),.b hg,(?_:TU u (MO (al by'))=true),(?_:@Eq (Option (List iN)) (aN MK v0 3 (.ref (.vp 6 0 (MP u) 0)) (aT r)) (some [.bY (al fs) 0 1,.T1,.var [ab (ML Nc es),.ref (.bY 0 0),ab A],.var [aT to],.var [.ref (.bY 6 0)],.bY [[aT (-1)]] 0 1,.bY (al (Oe by' (MP u) r)) 0 1,.bY (al l) e 1,.var [Q],.var [.ref (.ptr 2 0)],.var [aT v],.Ts,.loop Nu none 0 (DO 59 0 [(0,.ref (.ptr 2 0)),(5,.ref (.ptr 3 0)),(6,.ref (.ptr 4 0)),(7,.ref (.ptr 8 0)),(8,aT v),(39,Ot (Nl 313) [] [.ref (.ptr 9 0),.ref (.ptr 10 0)])]) {toList:=[40,41]} (au (sub Ng 1)) (ai (sub Ng 1))])),.a1 (.oh 10050 D.any (VX es A fs v to (Oe by' (MP u) r) l e Q Nu none)),.b ht]<;>subst v0<;>(first|exact sk h0 hx|exact dy rfl hx|exact my rfl (F9 hx))
theorem ub_vec{es:List By}{A:List (List Dp)}{fs by' l:List Int}{v to r u x:Int}{e:Nat}(h0:0<=u)(hx:by'[u.toNat]? = some x)(hg:Zd (x>=0)=false)(ht:(u==to)=false)(hl:l.length<=1000000):(CW MK At (VX es A fs v to by' l e (.ref (.bY 7 e)) .ready none) true (ai (sub Ng 1)) {t:=usU v r u,h:=VX es A fs v to by' l e (.ref (.bY 7 e)) .busy none,m:=[]} .normal {t:=DO 59 0 [],h:=VX es A fs v to (by'.set u.toNat r) (l++[u]) (e+1) (.ref (.bY 7 (e+1))) .busy none,m:=[]}):=by
 let v1:List D:=[ab (ML Nc es),.ref (.bY 0 0),ab A]
 let v2:=Oe by' (MP u) r
 let v3:List D:=[.ref (.ptr 9 0),.ref (.ptr 10 0)]
 let v0:List iN:=[.bY (al fs) 0 1,.T1,.var v1,.var [aT to],.var [.ref (.bY 6 0)],.bY [[aT (-1)]] 0 1,.bY (al by') 0 1,.bY (al l) e 1,.var [.ref (.bY 7 e)],.var [.ref (.ptr 2 0)],.var [aT v],.Ts,.loop Nu none 0 (DO 59 0 [(0,.ref (.ptr 2 0)),(5,.ref (.ptr 3 0)),(6,.ref (.ptr 4 0)),(7,.ref (.ptr 8 0)),(8,aT v),(39,Ot (Nl 313) [] v3)]) {toList:=[40,41]} (au (sub Ng 1)) (ai (sub Ng 1))]
 refine yx [.st (.mask []),.st (.TD 13)] [(?_:TU u (MO (al by'))=true),(?_:@Eq (Option D) (aI MK v0 3 (.ref (.vp 6 0 (MP u) 0))) (some (aT x))),.a1 (.ov 45 (aT x)),.b hg,(?_:TU u (MO (al by'))=true),(?_:@Eq (Option (List iN)) (aN MK v0 3 (.ref (.vp 6 0 (MP u) 0)) (aT r)) (some [.bY (al fs) 0 1,.T1,.var v1,.var [aT to],.var [.ref (.bY 6 0)],.bY [[aT (-1)]] 0 1,.bY (al v2) 0 1,.bY (al l) e 1,.var [.ref (.bY 7 e)],.var [.ref (.ptr 2 0)],.var [aT v],.Ts,.loop Nu none 0 (DO 59 0 [(0,.ref (.ptr 2 0)),(5,.ref (.ptr 3 0)),(6,.ref (.ptr 4 0)),(7,.ref (.ptr 8 0)),(8,aT v),(39,Ot (Nl 313) [] v3)]) {toList:=[40,41]} (au (sub Ng 1)) (ai (sub Ng 1))])),.a1 (.oh 10050 D.any (VX es A fs v to v2 l e (.ref (.bY 7 e)) Nu none)),.b ht,(?_:@Eq (Option (Bool×D×List iN)) (TF MK [.bY (al fs) 0 1,.T1,.var v1,.var [aT to],.var [.ref (.bY 6 0)],.bY [[aT (-1)]] 0 1,.bY (al v2) 0 1,.bY (al l) e 1,.var [.ref (.bY 7 e)],.var [.ref (.ptr 2 0)],.var [aT v],.Ts,.loop Nu none 0 (DO 59 0 [(0,.ref (.ptr 2 0)),(5,.ref (.ptr 3 0)),(6,.ref (.ptr 4 0)),(7,.ref (.ptr 8 0)),(8,aT v),(39,Ot (Nl 313) [] v3)]) {toList:=[40,41]} (au (sub Ng 1)) (ai (sub Ng 1)),.bY [[aT u]] 0 1] Builtin.append [32,32] (ML (Bv At (DO 59 0 [(5,.ref (.ptr 3 0)),(6,.ref (.ptr 4 0)),(7,.ref (.ptr 8 0)),(9,aT r),(10,aT u),(42,.ref (.bY 6 0)),(43,aT u),(44,.ref (.vp 6 0 (MP u) 0)),(45,aT x),(46,iF (Zd (x>=0))),(47,.ref (.bY 6 0)),(48,aT u),(49,aT r),(50,.ref (.vp 6 0 (MP u) 0)),(51,aT u),(52,aT to),(53,iF (u==to)),(54,.ref (.bY 7 e)),(55,aT u),(56,.ref (.bY 13 0))])) [Pp 54,Pp 56])) (some (true,PM (.bY 7 (e+1)),[.bY (al fs) 0 1,.T1,.var v1,.var [aT to],.var [.ref (.bY 6 0)],.bY [[aT (-1)]] 0 1,.bY (al v2) 0 1,.bY (al (l++[u])) (e+1) 1,.var [.ref (.bY 7 e)],.var [.ref (.ptr 2 0)],.var [aT v],.Ts,.loop Nu none 0 (DO 59 0 [(0,.ref (.ptr 2 0)),(5,.ref (.ptr 3 0)),(6,.ref (.ptr 4 0)),(7,.ref (.ptr 8 0)),(8,aT v),(39,Ot (Nl 313) [] v3)]) {toList:=[40,41]} (au (sub Ng 1)) (ai (sub Ng 1)),.bY [[aT u]] 0 1]))),(?_:MZ 13 (.bY (al fs) 0 1)=true),bi 13 .T1,bi 13 (.var v1),bi 13 (.var [aT to]),bi 13 (.var [.ref (.bY 6 0)]),bi 13 (.bY [[aT (-1)]] 0 1),(?_:MZ 13 (.bY (al v2) 0 1)=true),(?_:MZ 13 (.bY (al (l++[u])) (e+1) 1)=true),bi 13 (.var [.ref (.bY 7 (e+1))]),bi 13 (.var [.ref (.ptr 2 0)]),bi 13 (.var [aT v]),bi 13 .Ts,bi 13 (.loop Nu none 0 (DO 59 0 [(0,.ref (.ptr 2 0)),(5,.ref (.ptr 3 0)),(6,.ref (.ptr 4 0)),(7,.ref (.ptr 8 0)),(8,aT v),(39,Ot (Nl 313) [] v3)]) {toList:=[40,41]} (au (sub Ng 1)) (ai (sub Ng 1))),.a1 (.oh 57 (.ref (.bY 7 (e+1))) (VX es A fs v to v2 (l++[u]) (e+1) (.ref (.bY 7 e)) Nu none++[.bY [[aT u]] 0 1]))]<;>subst v1 v2 v3 v0<;>(first|exact sk h0 hx|exact dy rfl hx|exact my rfl (F9 hx)|exact vg_app rfl rfl hl|exact co _ _)
theorem ub_vs{es:List By}{A:List (List Dp)}{fs by' l:List Int}{v to r u x:Int}{e i n:Nat}(h0:0<=u)(hx:by'[u.toNat]? = some x)(hg:Zd (x>=0)=false)(ht:(u==to)=false)(hl:l.length<=1000000)(TZ:i+n=l.length):(CW MK At (VX es A fs v to by' l e (.ref (.vs 7 e i n none)) .ready none) true (ai (sub Ng 1)) {t:=usU v r u,h:=VX es A fs v to by' l e (.ref (.vs 7 e i n none)) .busy none,m:=[]} .normal {t:=DO 59 0 [],h:=VX es A fs v to (by'.set u.toNat r) (l.drop i++[u]) (e+1) (.ref (.bY 7 (e+1))) .busy none,m:=[]}):=by
 let v1:List D:=[ab (ML Nc es),.ref (.bY 0 0),ab A]
 let v2:=Oe by' (MP u) r
 let v3:List D:=[.ref (.ptr 9 0),.ref (.ptr 10 0)]
 let v0:List iN:=[.bY (al fs) 0 1,.T1,.var v1,.var [aT to],.var [.ref (.bY 6 0)],.bY [[aT (-1)]] 0 1,.bY (al by') 0 1,.bY (al l) e 1,.var [.ref (.vs 7 e i n none)],.var [.ref (.ptr 2 0)],.var [aT v],.Ts,.loop Nu none 0 (DO 59 0 [(0,.ref (.ptr 2 0)),(5,.ref (.ptr 3 0)),(6,.ref (.ptr 4 0)),(7,.ref (.ptr 8 0)),(8,aT v),(39,Ot (Nl 313) [] v3)]) {toList:=[40,41]} (au (sub Ng 1)) (ai (sub Ng 1))]
 refine yx [.st (.mask []),.st (.TD 13)] [(?_:TU u (MO (al by'))=true),(?_:@Eq (Option D) (aI MK v0 3 (.ref (.vp 6 0 (MP u) 0))) (some (aT x))),.a1 (.ov 45 (aT x)),.b hg,(?_:TU u (MO (al by'))=true),(?_:@Eq (Option (List iN)) (aN MK v0 3 (.ref (.vp 6 0 (MP u) 0)) (aT r)) (some [.bY (al fs) 0 1,.T1,.var v1,.var [aT to],.var [.ref (.bY 6 0)],.bY [[aT (-1)]] 0 1,.bY (al v2) 0 1,.bY (al l) e 1,.var [.ref (.vs 7 e i n none)],.var [.ref (.ptr 2 0)],.var [aT v],.Ts,.loop Nu none 0 (DO 59 0 [(0,.ref (.ptr 2 0)),(5,.ref (.ptr 3 0)),(6,.ref (.ptr 4 0)),(7,.ref (.ptr 8 0)),(8,aT v),(39,Ot (Nl 313) [] v3)]) {toList:=[40,41]} (au (sub Ng 1)) (ai (sub Ng 1))])),.a1 (.oh 10050 D.any (VX es A fs v to v2 l e (.ref (.vs 7 e i n none)) Nu none)),.b ht,(?_:@Eq (Option (Bool×D×List iN)) (TF MK [.bY (al fs) 0 1,.T1,.var v1,.var [aT to],.var [.ref (.bY 6 0)],.bY [[aT (-1)]] 0 1,.bY (al v2) 0 1,.bY (al l) e 1,.var [.ref (.vs 7 e i n none)],.var [.ref (.ptr 2 0)],.var [aT v],.Ts,.loop Nu none 0 (DO 59 0 [(0,.ref (.ptr 2 0)),(5,.ref (.ptr 3 0)),(6,.ref (.ptr 4 0)),(7,.ref (.ptr 8 0)),(8,aT v),(39,Ot (Nl 313) [] v3)]) {toList:=[40,41]} (au (sub Ng 1)) (ai (sub Ng 1)),.bY [[aT u]] 0 1] Builtin.append [32,32] (ML (Bv At (DO 59 0 [(5,.ref (.ptr 3 0)),(6,.ref (.ptr 4 0)),(7,.ref (.ptr 8 0)),(9,aT r),(10,aT u),(42,.ref (.bY 6 0)),(43,aT u),(44,.ref (.vp 6 0 (MP u) 0)),(45,aT x),(46,iF (Zd (x>=0))),(47,.ref (.bY 6 0)),(48,aT u),(49,aT r),(50,.ref (.vp 6 0 (MP u) 0)),(51,aT u),(52,aT to),(53,iF (u==to)),(54,.ref (.vs 7 e i n none)),(55,aT u),(56,.ref (.bY 13 0))])) [Pp 54,Pp 56])) (some (true,PM (.bY 7 (e+1)),[.bY (al fs) 0 1,.T1,.var v1,.var [aT to],.var [.ref (.bY 6 0)],.bY [[aT (-1)]] 0 1,.bY (al v2) 0 1,.bY (al (Od i l++[u])) (e+1) 1,.var [.ref (.vs 7 e i n none)],.var [.ref (.ptr 2 0)],.var [aT v],.Ts,.loop Nu none 0 (DO 59 0 [(0,.ref (.ptr 2 0)),(5,.ref (.ptr 3 0)),(6,.ref (.ptr 4 0)),(7,.ref (.ptr 8 0)),(8,aT v),(39,Ot (Nl 313) [] v3)]) {toList:=[40,41]} (au (sub Ng 1)) (ai (sub Ng 1)),.bY [[aT u]] 0 1]))),(?_:MZ 13 (.bY (al fs) 0 1)=true),bi 13 .T1,bi 13 (.var v1),bi 13 (.var [aT to]),bi 13 (.var [.ref (.bY 6 0)]),bi 13 (.bY [[aT (-1)]] 0 1),(?_:MZ 13 (.bY (al v2) 0 1)=true),(?_:MZ 13 (.bY (al (Od i l++[u])) (e+1) 1)=true),bi 13 (.var [.ref (.bY 7 (e+1))]),bi 13 (.var [.ref (.ptr 2 0)]),bi 13 (.var [aT v]),bi 13 .Ts,bi 13 (.loop Nu none 0 (DO 59 0 [(0,.ref (.ptr 2 0)),(5,.ref (.ptr 3 0)),(6,.ref (.ptr 4 0)),(7,.ref (.ptr 8 0)),(8,aT v),(39,Ot (Nl 313) [] v3)]) {toList:=[40,41]} (au (sub Ng 1)) (ai (sub Ng 1))),.a1 (.oh 57 (.ref (.bY 7 (e+1))) (VX es A fs v to v2 (Od i l++[u]) (e+1) (.ref (.vs 7 e i n none)) Nu none++[.bY [[aT u]] 0 1]))]<;>subst v1 v2 v3 v0<;>(first|exact sk h0 hx|exact dy rfl hx|exact my rfl (F9 hx)|exact vs_app rfl rfl hl TZ|exact co _ _)
noncomputable abbrev usX(es:List By)(A:List (List Dp))(fs:List Int)(v to:Int)(B:List (List Dp))(by':List Int)(l:List Int)(e:Nat)(Q:D)(j:Int):AS:=usS es A fs v B (.var [aT to]) (.var [.ref (.bY 6 0)]) (.bY [[aT (-1)]] 0 1) (.bY (al by') 0 1) (.bY (al l) e 1) (.var [Q]) j
theorem usl_a{es:List By}{A:List (List Dp)}{fs by' YL l l2:List Int}{v to:Int}{e e2:Nat}{Q Q2:D}{B:List (List Dp)}(hA:ap v A [.sl B] 1)
  (Wn:CW MK At (VX es A fs v to by' l e Q .ready none) false (.loop (sub QQ 0)) (usX es A fs v to B by' l e Q 0) (.exit 0) {t:=DO 32 0 [],h:=VX es A fs v to YL l2 e2 Q2 .ready none,m:=[]}):(Ev MK At 313 [.ref (.yl 12),.ref (.ptr 9 0),.ref (.ptr 10 0)] (VX es A fs v to by' l e Q .ready none) (.Tt []) (VX es A fs v to YL l2 e2 Q2 .ready none)):=by
 have Tv:=(@Wn)
 exact Na (yF (h':=[.bY (al fs) 0 1,.T1,.var [ab (ML Nc es),.ref (.bY 0 0),ab A],.var [aT to],.var [.ref (.bY 6 0)],.bY [[aT (-1)]] 0 1,.bY (al YL) 0 1,.bY (al l2) e2 1,.var [Q2],.var [.ref (.ptr 2 0)],.var [aT v],.Ts,.loop LoopState.ready none 0 (DO 59 0 [(0,.ref (.ptr 2 0)),(5,.ref (.ptr 3 0)),(6,.ref (.ptr 4 0)),(7,.ref (.ptr 8 0)),(8,aT v),(39,Ot (Nl 313) [] [.ref (.ptr 9 0),.ref (.ptr 10 0)])]) {toList:=[40,41]} (au (sub Ng 1)) (ai (sub Ng 1))]) (d:=Nt []) [.r hA,.s [0,1,2,12,13,14] Tv]) (by rfl) (by rfl)
theorem usr_a{es:List By}{A:List (List Dp)}{fs by' YL l l2:List Int}{v to:Int}{e e2:Nat}{Q Q2:D}{B:List (List Dp)}(hA:ap v A [.sl B] 1)
  (Wn:CW MK At (VX es A fs v to by' l e Q .ready none) false (.loop (sub QQ 0)) (usX es A fs v to B by' l e Q 0) .ret {t:=DO 32 0 [],h:=VX es A fs v to YL l2 e2 Q2 .done (some (.exit 0)),m:=[]}):(Ev MK At 313 [.ref (.yl 12),.ref (.ptr 9 0),.ref (.ptr 10 0)] (VX es A fs v to by' l e Q .ready none) (.Tt []) (VX es A fs v to YL l2 e2 Q2 .done (some (.exit 0)))):=by
 have Tv:=(@Wn)
 exact Na (yF (h':=[.bY (al fs) 0 1,.T1,.var [ab (ML Nc es),.ref (.bY 0 0),ab A],.var [aT to],.var [.ref (.bY 6 0)],.bY [[aT (-1)]] 0 1,.bY (al YL) 0 1,.bY (al l2) e2 1,.var [Q2],.var [.ref (.ptr 2 0)],.var [aT v],.Ts,.loop LoopState.done (some (Code.exit 0)) 0 (DO 59 0 [(0,.ref (.ptr 2 0)),(5,.ref (.ptr 3 0)),(6,.ref (.ptr 4 0)),(7,.ref (.ptr 8 0)),(8,aT v),(39,Ot (Nl 313) [] [.ref (.ptr 9 0),.ref (.ptr 10 0)])]) {toList:=[40,41]} (au (sub Ng 1)) (ai (sub Ng 1))]) (d:=Nt []) [.r hA,.s [0,1,2,12,13,14] Tv]) (by rfl) (by rfl)
structure QF where
 vs:Bool
 e:Nat
 i:Nat
 l:List Int
def QF.d(q:QF):D:=match q.vs with
 | true=>.ref (.vs 7 q.e q.i (q.l.length-q.i) none)
 | false=>.ref (.bY 7 q.e)
def QF.list(q:QF):List Int:=match q.vs with
 | true=>q.l.drop q.i
 | false=>q.l
def QF.push(q:QF)(u:Int):QF:=⟨false,q.e+1,0,q.list++[u]⟩
def QF.Ok(q:QF)(k:Nat):Prop:=(q.vs=true->q.i<=q.l.length)/\q.l.length<=k
theorem QF.Ok.push{q:QF}{k:Nat}{u:Int}(h:q.Ok k):(q.push u).Ok (k+1):=by
 obtain⟨vs,e,i,l⟩:=q
 obtain⟨h1,h2⟩:=h
 refine⟨by simp[QF.push],?_⟩
 grind [QF.push,QF.list]
theorem QF.Ok.le{q:QF}{k k':Nat}(h:q.Ok k)(hk:k<=k'):q.Ok k':=⟨h.1,Nat.le_trans h.2 hk⟩
noncomputable abbrev Z2(es:List By)(A:List (List Dp))(fs:List Int)(v to:Int)(s:List Int×QF)(st:LoopState)(pd:Option Code):List iN:=VX es A fs v to s.1 s.2.l s.2.e s.2.d st pd
def Y3(to r u:Int)(s:List Int×QF):(List Int×QF)⊕(List Int×QF):=match Zd (s.1.getD u.toNat 0>=0) with
 | true=>.inl s
 | false=>match u==to with
  | true=>.inr (s.1.set u.toNat r,s.2)
  | false=>.inl (s.1.set u.toNat r,s.2.push u)
section
variable {es:List By} {A:List (List Dp)} {fs:List Int} {v to r u:Int} {s s':List Int×QF}
theorem ub_ivl(h0:0<=u)(hu:u.toNat<s.1.length)(hq:s.2.Ok 1000000)(h:Y3 to r u s=.inl s'):
  Iv MK At (.ref (.yl 12)) [aT r,aT u] (Z2 es A fs v to s .ready none) (iF true) (Z2 es A fs v to s' .ready none):=by
 have hx:s.1[u.toNat]? = some (s.1.getD u.toNat 0):=by simp[MT,hu]
 unfold Y3 at h
 split at h
 ·rename_i hg
  cases h
  exact Th (h1:=Z2 es A fs v to s .ready none) rfl rfl yv rfl (K8 h0 hx hg) rfl
 ·rename_i hg
  split at h
  ·cases h
  ·rename_i ht
   cases h
   obtain⟨by',vs,e,i,l⟩:=s
   cases vs with
   | false=>exact Th (h1:=VX es A fs v to by' l e (.ref (.bY 7 e)) .ready none) rfl rfl yv rfl (ub_vec h0 hx hg ht hq.2) rfl
   | true =>
    have hi:=hq.1 rfl
    exact Th (h1:=VX es A fs v to by' l e (.ref (.vs 7 e i (l.length-i) none)) .ready none) rfl rfl yv rfl (ub_vs h0 hx hg ht hq.2 (Rj hi)) rfl
theorem ub_ivr(h0:0<=u)(hu:u.toNat<s.1.length)(h:Y3 to r u s=.inr s'):
  Iv MK At (.ref (.yl 12)) [aT r,aT u] (Z2 es A fs v to s .ready none) (iF false) (Z2 es A fs v to s' .done (some (.exit 0))):=by
 have hx:s.1[u.toNat]? = some (s.1.getD u.toNat 0):=by simp[MT,hu]
 unfold Y3 at h
 split at h
 ·cases h
 ·rename_i hg
  split at h
  ·rename_i ht
   cases h
   exact Th (h1:=Z2 es A fs v to s .ready none) rfl rfl yv rfl (ub_hit h0 hx hg ht) rfl
  ·cases h
end
def Zs(r:Int):Int:=MM.wrap (Nn r 2)
def exA(es:List By)(r:Int):By:=es.getD (Zs r).toNat ⟨0,0,0⟩
def fA(fs:List Int)(r:Int):Int:=fs.getD (Zs r).toNat 0
def Vx(es:List By)(fs:List Int)(r:Int):Int:=eH r (exA es r) (fA fs r)
def fW(es:List By)(r:Int):Int:=uS r (exA es r)
def cg(m:Nat)(r:Int):Prop:=0<=r/\r<2*m
theorem jT{m:Nat}{r:Int}(h:cg m r)(hm:m<=1000000):Zs r=((r.toNat / 2:Nat):Int)/\r.toNat / 2<m:=by
 obtain⟨h1,h2⟩:=h
 have e:Nn r 2=((r.toNat / 2:Nat):Int):=by
  rw[Qm h1];omega
 refine⟨?_,by omega⟩
 unfold Zs
 rw[e,wrap_i64 (by omega) (by omega)]
section
variable {es:List By} {fs:List Int} {r:Int}
theorem CP(h:cg es.length r)(hm:es.length<=1000000):es[(Zs r).toNat]? = some (exA es r):=by
 obtain⟨h1,h2⟩:=jT h hm
 unfold exA
 grind
theorem CQ(h:cg es.length r)(hm:es.length<=1000000)(hl:fs.length=es.length):fs[(Zs r).toNat]? = some (fA fs r):=by
 obtain⟨h1,h2⟩:=jT h hm
 unfold fA
 grind
theorem sm(h:cg es.length r)(hm:es.length<=1000000):ap (MM.wrap (Nn r 2)) (es.map Nc) (exA es r).row 3:=by
 obtain⟨h1,h2⟩:=jT h hm
 have h3:=CP h hm
 show ap (Zs r) _ _ _
 rw[h1] at h3 ⊢
 rw[Oc] at h3
 exact rowAt h3 rfl
theorem oD{n:Nat}(h:cg es.length r)(hm:es.length<=1000000)(TZ:∀x∈es,dQ n x):0<=fW es r/\(fW es r).toNat<n:=by
 have:=TZ _ (Ny (CP h hm))
 obtain⟨a,b,c,d⟩:=this
 grind [fW,uS]
end
def X0(es:List By)(fs:List Int)(to r:Int)(s:List Int×QF):(List Int×QF)⊕(List Int×QF):=match Zd (Vx es fs r>0) with
 | true=>Y3 to r (fW es r) s
 | false=>.inl s
noncomputable def usFin(es:List By)(A:List (List Dp))(fs:List Int)(v to:Int):(List Int×QF)⊕(List Int×QF)->Exit×AS:=bu (.exit 0) (λs=>{t:=DO 32 0 [],h:=Z2 es A fs v to s .ready none,m:=[]}) (λs=>(.ret,{t:=DO 32 0 [],h:=Z2 es A fs v to s .done (some (.exit 0)),m:=[]}))
theorem K9{to r u:Int}{s s':List Int×QF}(h:Y3 to r u s=.inl s'){n k:Nat}(h1:s.1.length=n)(h2:s.2.Ok k):s'.1.length=n/\s'.2.Ok (k+1):=by
 unfold Y3 at h
 split at h
 ·cases h;exact⟨h1,h2.le (by omega)⟩
 ·split at h
  ·cases h
  ·cases h;exact⟨by simpa using h1,h2.push⟩
theorem CS{es:List By}{A:List (List Dp)}{fs:List Int}{v to:Int}{n:Nat}(hl:fs.length=es.length)(hm:es.length<=65536)(TZ:∀x∈es,dQ n x){B:List Int}(hB:∀r∈B,cg es.length r)(hBl:B.length<=200000)
  {s0:List Int×QF} (h1:s0.1.length=n) (h2:s0.2.Ok 100000) :
  CW MK At (Z2 es A fs v to s0 .ready none) false (.loop (sub QQ 0)) (usX es A fs v to (ay B) s0.1 s0.2.l s0.2.e s0.2.d 0) (usFin es A fs v to (Tq (X0 es fs to) B s0)).1 (usFin es A fs v to (Tq (X0 es fs to) B s0)).2:=by
 refine CW.each (P:=MK) (Γ:=At) (h0:=Z2 es A fs v to s0 .ready none) (rd:=false) (c:=sub QQ 0) (σ:=List Int×QF) (ρ:=List Int×QF) B (X0 es fs to)
  (λj s=>usX es A fs v to (ay B) s.1 s.2.l s.2.e s.2.d (j:Int)) (.exit 0) (λs=>{t:=DO 32 0 [],h:=Z2 es A fs v to s .ready none,m:=[]}) (λs=>(.ret,{t:=DO 32 0 [],h:=Z2 es A fs v to s .done (some (.exit 0)),m:=[]}))
  (λj s=>s.1.length=n/\s.2.Ok (100000+j)) (by simp) (by simp) ?_ ?_ s0 ⟨h1,h2⟩
 ·rintro j r s hj ⟨g1,g2⟩
  have hi:=(MR.1 hj).1
  have hr:=hB r (Ny hj)
  have hq:=(jT hr (by omega)).1
  have hql:=(jT hr (by omega)).2
  have hx:=sm hr (by omega)
  have hf:=CQ (fs:=fs) hr (by omega) hl
  have he:=oD hr (by omega) TZ
  have WF:=rowAt (row:=λn:Int=>[vi n]) hj rfl
  have IN:=TG (λn:Int=>[vi n]) hi
  have hw:=T4 (i:=j) hi (by omega)
  cases hc:Zd (Vx es fs r>0) with
  | false =>
   have e:X0 es fs to r s=.inl s:=by unfold X0;rw[hc]
   rw[e]
   refine⟨λs' h=>?_,us_no (x:=exA es r) (f:=fA fs r) hq hx hf (by omega) WF IN hw hc⟩
   cases h
   exact⟨g1,g2.le (by omega)⟩
  | true =>
   have e:X0 es fs to r s=Y3 to r (fW es r) s:=by unfold X0;rw[hc]
   rw[e]
   have hu:(fW es r).toNat<s.1.length:=by omega
   cases hy:Y3 to r (fW es r) s with
   | inl s' =>
    refine⟨λs2 h=>?_,us_yes (x:=exA es r) (f:=fA fs r) hq hx hf (by omega) WF IN hw hc rfl (ub_ivl (u:=fW es r) he.1 hu (g2.le (by omega)) hy)⟩
    cases h
    exact K9 hy g1 g2
   | inr s' =>
    refine⟨λs2 h=>(by cases h),us_stop (u:=0) (x:=exA es r) (f:=fA fs r) hq hx hf (by omega) WF IN hc (ub_ivr (u:=fW es r) he.1 hu hy)⟩
 ·intro s _
  exact K7 (be (λn:Int=>[vi n]) B)
section
variable {es:List By} {A:List (List Dp)} {fs:List Int} {v to:Int}
noncomputable abbrev HJ(es:List By)(A:List (List Dp))(fs:List Int)(v to:Int)(by':List Int)(l:List Int)(e:Nat)(Q:D):List iN:=[.bY (al fs) 0 1,.T1,.var [ab (es.map Nc),.ref (.bY 0 0),ab A],.var [aT to],.var [.ref (.bY 6 0)],.bY [[aT (-1)]] 0 1,.bY (al by') 0 1,.bY (al l) e 1,.var [Q],.var [.ref (.ptr 2 0)],.var [aT v]]
theorem us_rfl{h0:List iN}{n:Nat}(hl:fs.length=es.length)(hm:es.length<=65536)(TZ:∀x∈es,dQ n x){B:List Int}(hA:ap v A [.sl (ay B)] 1)(hB:∀r∈B,cg es.length r)(hBl:B.length<=200000)
  {s0 s':List Int×QF} (h1:s0.1.length=n) (h2:s0.2.Ok 100000) (hf:Tq (X0 es fs to) B s0=.inl s') :
  CW MK At h0 false (sub Ng 1) {t:=ZE v,h:=HJ es A fs v to s0.1 s0.2.l s0.2.e s0.2.d,m:=[]} .normal {t:=ZE v,h:=Z2 es A fs v to s' .exhausted none,m:=[11]}:=by
 have:=CS (A:=A) (v:=v) (to:=to) hl hm TZ hB hBl h1 h2
 rw[hf] at this
 exact CW.rangeFunc (f:=313) (fi:=[]) (ca:=[.ref (.ptr 9 0),.ref (.ptr 10 0)]) Ug (s:={t:=ZE v,h:=HJ es A fs v to s0.1 s0.2.l s0.2.e s0.2.d,m:=[]}) (g:=.tmp 39) (ps:=#[40,41]) (asg:=au (sub Ng 1)) (body:=ai (sub Ng 1)) rfl (by kernel_rfl) (usl_a hA this) rfl
theorem us_rfr{h0:List iN}{n:Nat}(hl:fs.length=es.length)(hm:es.length<=65536)(TZ:∀x∈es,dQ n x){B:List Int}(hA:ap v A [.sl (ay B)] 1)(hB:∀r∈B,cg es.length r)(hBl:B.length<=200000)
  {s0 s':List Int×QF} (h1:s0.1.length=n) (h2:s0.2.Ok 100000) (hf:Tq (X0 es fs to) B s0=.inr s') :
  CW MK At h0 false (sub Ng 1) {t:=ZE v,h:=HJ es A fs v to s0.1 s0.2.l s0.2.e s0.2.d,m:=[]} (.exit 0) {t:=ZE v,h:=Z2 es A fs v to s' .exhausted (some (.exit 0)),m:=[11]}:=by
 have:=CS (A:=A) (v:=v) (to:=to) hl hm TZ hB hBl h1 h2
 rw[hf] at this
 exact CW.rangeFunc (f:=313) (fi:=[]) (ca:=[.ref (.ptr 9 0),.ref (.ptr 10 0)]) Ug (s:={t:=ZE v,h:=HJ es A fs v to s0.1 s0.2.l s0.2.e s0.2.d,m:=[]}) (g:=.tmp 39) (ps:=#[40,41]) (asg:=au (sub Ng 1)) (body:=ai (sub Ng 1)) rfl (by kernel_rfl) (usr_a hA this) rfl
end
section
variable {l:List Int} {b i e n:Nat} {a u:Int} {h:List iN}
theorem MG:(eX MK 32,MK.underlying 32,U2 MK 3)=(some 3,some (.slice 3),some 1):=by kernel_rfl
theorem CT{c:Option Nat}(hb:h[b]? = some (.bY (al l) e 1)):TF MK h .len [32] [.ref (.vs b e i n c)]=some (true,aT (n:Int),h):=by
 have h3:=MG
 simp only[MV] at h3
 simp[TF,sM,j0,hb,keep]
theorem HK(hb:h[b]? = some (.bY (al l) e 1)):TF MK h .len [32] [.ref (.bY b e)]=some (true,aT (l.length:Int),h):=by
 have h3:=MG
 simp only[MV] at h3
 simp[TF,sM,j0,hb,keep,dD]
theorem vs_ia{c:Option Nat}(hb:h[b]? = some (.bY (al l) e 1))(hn:0<n):a7 MK h 32 (.ref (.vs b e i n c)) (aT 0)=some (true,PM (.vp b e i 0)):=by
 have h3:=MG
 simp only[MV] at h3
 have h4:TU 0 n=true:=by simp[TU];omega
 simp[a7,TY,h3.2.2,hb,h4]
theorem vg_ia(hb:h[b]? = some (.bY (al l) e 1))(hn:0<l.length):a7 MK h 32 (.ref (.bY b e)) (aT 0)=some (true,PM (.vp b e 0 0)):=by
 have h3:=MG
 simp only[MV] at h3
 have h4:TU 0 l.length=true:=by simp[TU];omega
 simp[a7,TY,h3.2.2,hb,dD,h4]
theorem vs_sl(hb:h[b]? = some (.bY (al l) e 1))(hn:0<n)(TZ:i+n=l.length):dG MK h 32 (.ref (.vs b e i n none)) (some (aT 1)) none none=some (true,PM (.vs b e (i+1) (n-1) none)):=by
 have h3:=MG
 simp only[MV] at h3
 have h4:oO 1 n n=true:=by simp[oO];omega
 have h5:¬((n:Int)=1/\¬(i+n=l.length/\True)):=by simp[TZ]
 simp only[dG,cA,Aa,h3.2.1,h3.2.2,j0,hb,if_true,U6,and_self,Pa,TY,h4,fp,dD,Oc,h5,if_false,Ov,SQ,Bool.true_or]
 rfl
theorem vg_sl(hb:h[b]? = some (.bY (al l) e 1))(hn:0<l.length):dG MK h 32 (.ref (.bY b e)) (some (aT 1)) none none=some (true,PM (.vs b e 1 (l.length-1) none)):=by
 have h3:=MG
 simp only[MV] at h3
 have h4:oO 1 l.length l.length=true:=by simp[oO];omega
 have h5:¬((l.length:Int)=1/\¬True):=by simp
 simp only[dG,cA,Aa,h3.2.1,h3.2.2,j0,hb,if_true,U6,Pa,TY,h4,fp,dD,Oc,h5,if_false,Ov,SQ,Bool.true_or,and_true,Int.reduceEq]
 rfl
end
abbrev sT:List D:=DO 59 0 [(0,.ref (.ptr 2 0)),(5,.ref (.ptr 3 0)),(6,.ref (.ptr 4 0)),(7,.ref (.ptr 8 0))]
abbrev sH(es:List By)(A:List (List Dp))(fs:List Int)(to:Int)(by':List Int)(l:List Int)(e:Nat)(Q:D):List iN:=[.bY (al fs) 0 1,.T1,.var [ab (es.map Nc),.ref (.bY 0 0),ab A],.var [aT to],.var [.ref (.bY 6 0)],.bY [[aT (-1)]] 0 1,.bY (al by') 0 1,.bY (al l) e 1,.var [Q]]
abbrev sS(es:List By)(A:List (List Dp))(fs:List Int)(to:Int)(by':List Int)(l:List Int)(e:Nat)(Q:D):AS:={t:=sT,h:=sH es A fs to by' l e Q,m:=[]}
theorem sh_end{es:List By}{A:List (List Dp)}{fs by' l:List Int}{to:Int}{e i n:Nat}(hn:Zd ((n:Int)>0)=false):(CW MK At (sH es A fs to by' l e (.ref (.vs 7 e i n none))) false (sub Ng 0) (sS es A fs to by' l e (.ref (.vs 7 e i n none))) (.exit 0) (sS es A fs to by' l e (.ref (.vs 7 e i n none)))):=by
 let v0:List iN:=[.bY (al fs) 0 1,.T1,.var [ab (ML Nc es),.ref (.bY 0 0),ab A],.var [aT to],.var [.ref (.bY 6 0)],.bY [[aT (-1)]] 0 1,.bY (al by') 0 1,.bY (al l) e 1,.var [.ref (.vs 7 e i n none)]]
 exact yx [.st (.mask [0,5,6,7])] [((by subst v0;exact CT rfl):@Eq (Option (Bool×D×List iN)) (TF MK v0 QG [32] (ML (Bv At (DO 59 0 [(0,.ref (.ptr 2 0)),(5,.ref (.ptr 3 0)),(6,.ref (.ptr 4 0)),(7,.ref (.ptr 8 0)),(29,.ref (.vs 7 e i n none))])) [Pp 29])) (some (true,aT (↑n:Int),v0))),.a1 (.ov 30 (aT (↑n:Int))),.b hn]
theorem sh_vs{es:List By}{A:List (List Dp)}{fs by' YL l l2:List Int}{v to:Int}{e e2 i n:Nat}{Q2:D}(hn:Zd ((n:Int)>0)=true)(hn0:0<n)(TZ:i+n=l.length)(hv:l[i]? = some v)
  (Wn:CW MK At (sH es A fs to by' l e (.ref (.vs 7 e i n none))) false (sub Ng 1) {t:=ZE v,h:=HJ es A fs v to by' l e (.ref (.vs 7 e (i+1) (n-1) none)),m:=[]} .normal {t:=ZE v,h:=VX es A fs v to YL l2 e2 Q2 .exhausted none,m:=[11]}):(CW MK At (sH es A fs to by' l e (.ref (.vs 7 e i n none))) false (sub Ng 0) (sS es A fs to by' l e (.ref (.vs 7 e i n none))) .normal {t:=sT,h:=VX es A fs v to YL l2 e2 Q2 .exhausted none,m:=[11]}):=by
 have Tv:=(@Wn)
 let v0:List iN:=[.bY (al fs) 0 1,.T1,.var [ab (ML Nc es),.ref (.bY 0 0),ab A],.var [aT to],.var [.ref (.bY 6 0)],.bY [[aT (-1)]] 0 1,.bY (al by') 0 1,.bY (al l) e 1,.var [.ref (.vs 7 e i n none)]]
 refine yx [.st (.mask [0,5,6,7])] [(?_:@Eq (Option (Bool×D×List iN)) (TF MK v0 QG [32] (ML (Bv At (DO 59 0 [(0,.ref (.ptr 2 0)),(5,.ref (.ptr 3 0)),(6,.ref (.ptr 4 0)),(7,.ref (.ptr 8 0)),(29,.ref (.vs 7 e i n none))])) [Pp 29])) (some (true,aT (↑n:Int),v0))),.a1 (.ov 30 (aT (↑n:Int))),.b hn,(?_:@Eq (Option (Bool×D)) (a7 MK v0 32 (.ref (.vs 7 e i n none)) (aT 0)) (some (true,PM (.vp 7 e i 0)))),(?_:@Eq (Option D) (aI MK v0 3 (.ref (.vp 7 e i 0))) (some (aT v))),(?_:@Eq (Option (Bool×D)) (dG MK v0 32 (.ref (.vs 7 e i n none)) (RK (Bv At (DO 59 0 [(0,.ref (.ptr 2 0)),(5,.ref (.ptr 3 0)),(6,.ref (.ptr 4 0)),(7,.ref (.ptr 8 0)),(8,aT v),(29,.ref (.vs 7 e i n none)),(30,aT (↑n:Int)),(31,iF (Zd ((↑n:Int)>0))),(32,.ref (.vs 7 e i n none)),(33,.ref (.vp 7 e i 0)),(34,aT v),(35,.ref (.vs 7 e i n none))])) (some (QT (N5 MM 1)))) none none) (some (true,PM (.vs 7 e (i+1) (n-1) none)))),.a1 (.ov 33 (.ref (.vp 7 e i 0))),.a1 (.ov 34 (aT v)),.a1 (.ov 36 (.ref (.vs 7 e (i+1) (n-1) none))),.a1 .inl,.s [0,5,6,7,8,39] Tv]<;>subst v0<;>(first|exact CT rfl|exact vs_ia rfl hn0|exact dy rfl hv|exact vs_sl rfl hn0 TZ)
theorem sh_vsx{es:List By}{A:List (List Dp)}{fs by' YL l l2:List Int}{v to:Int}{e e2 i n:Nat}{Q2:D}(hn:Zd ((n:Int)>0)=true)(hn0:0<n)(TZ:i+n=l.length)(hv:l[i]? = some v)
  (Wn:CW MK At (sH es A fs to by' l e (.ref (.vs 7 e i n none))) false (sub Ng 1) {t:=ZE v,h:=HJ es A fs v to by' l e (.ref (.vs 7 e (i+1) (n-1) none)),m:=[]} (.exit 0) {t:=ZE v,h:=VX es A fs v to YL l2 e2 Q2 .exhausted (some (.exit 0)),m:=[11]}):(CW MK At (sH es A fs to by' l e (.ref (.vs 7 e i n none))) false (sub Ng 0) (sS es A fs to by' l e (.ref (.vs 7 e i n none))) (.exit 0) {t:=sT,h:=VX es A fs v to YL l2 e2 Q2 .exhausted (some (.exit 0)),m:=[11]}):=by
 have Tv:=(@Wn)
 let v0:List iN:=[.bY (al fs) 0 1,.T1,.var [ab (ML Nc es),.ref (.bY 0 0),ab A],.var [aT to],.var [.ref (.bY 6 0)],.bY [[aT (-1)]] 0 1,.bY (al by') 0 1,.bY (al l) e 1,.var [.ref (.vs 7 e i n none)]]
 refine yx [.st (.mask [0,5,6,7])] [(?_:@Eq (Option (Bool×D×List iN)) (TF MK v0 QG [32] (ML (Bv At (DO 59 0 [(0,.ref (.ptr 2 0)),(5,.ref (.ptr 3 0)),(6,.ref (.ptr 4 0)),(7,.ref (.ptr 8 0)),(29,.ref (.vs 7 e i n none))])) [Pp 29])) (some (true,aT (↑n:Int),v0))),.a1 (.ov 30 (aT (↑n:Int))),.b hn,(?_:@Eq (Option (Bool×D)) (a7 MK v0 32 (.ref (.vs 7 e i n none)) (aT 0)) (some (true,PM (.vp 7 e i 0)))),(?_:@Eq (Option D) (aI MK v0 3 (.ref (.vp 7 e i 0))) (some (aT v))),(?_:@Eq (Option (Bool×D)) (dG MK v0 32 (.ref (.vs 7 e i n none)) (RK (Bv At (DO 59 0 [(0,.ref (.ptr 2 0)),(5,.ref (.ptr 3 0)),(6,.ref (.ptr 4 0)),(7,.ref (.ptr 8 0)),(8,aT v),(29,.ref (.vs 7 e i n none)),(30,aT (↑n:Int)),(31,iF (Zd ((↑n:Int)>0))),(32,.ref (.vs 7 e i n none)),(33,.ref (.vp 7 e i 0)),(34,aT v),(35,.ref (.vs 7 e i n none))])) (some (QT (N5 MM 1)))) none none) (some (true,PM (.vs 7 e (i+1) (n-1) none)))),.a1 (.ov 33 (.ref (.vp 7 e i 0))),.a1 (.ov 34 (aT v)),.a1 (.ov 36 (.ref (.vs 7 e (i+1) (n-1) none))),.a1 .inl,.s [0,5,6,7,8,39] Tv]<;>subst v0<;>(first|exact CT rfl|exact vs_ia rfl hn0|exact dy rfl hv|exact vs_sl rfl hn0 TZ)
theorem sh_vg{es:List By}{A:List (List Dp)}{fs by' YL l l2:List Int}{v to:Int}{e e2:Nat}{Q2:D}(hn:Zd ((l.length:Int)>0)=true)(hn0:0<l.length)(hv:l[0]? = some v)
  (Wn:CW MK At (sH es A fs to by' l e (.ref (.bY 7 e))) false (sub Ng 1) {t:=ZE v,h:=HJ es A fs v to by' l e (.ref (.vs 7 e 1 (l.length-1) none)),m:=[]} .normal {t:=ZE v,h:=VX es A fs v to YL l2 e2 Q2 .exhausted none,m:=[11]}):(CW MK At (sH es A fs to by' l e (.ref (.bY 7 e))) false (sub Ng 0) (sS es A fs to by' l e (.ref (.bY 7 e))) .normal {t:=sT,h:=VX es A fs v to YL l2 e2 Q2 .exhausted none,m:=[11]}):=by
 have Tv:=(@Wn)
 let v0:List iN:=[.bY (al fs) 0 1,.T1,.var [ab (ML Nc es),.ref (.bY 0 0),ab A],.var [aT to],.var [.ref (.bY 6 0)],.bY [[aT (-1)]] 0 1,.bY (al by') 0 1,.bY (al l) e 1,.var [.ref (.bY 7 e)]]
 refine yx [.st (.mask [0,5,6,7])] [(?_:@Eq (Option (Bool×D×List iN)) (TF MK v0 QG [32] (ML (Bv At (DO 59 0 [(0,.ref (.ptr 2 0)),(5,.ref (.ptr 3 0)),(6,.ref (.ptr 4 0)),(7,.ref (.ptr 8 0)),(29,.ref (.bY 7 e))])) [Pp 29])) (some (true,aT (↑(MO l):Int),v0))),.a1 (.ov 30 (aT (↑(MO l):Int))),.b hn,(?_:@Eq (Option (Bool×D)) (a7 MK v0 32 (.ref (.bY 7 e)) (aT 0)) (some (true,PM (.vp 7 e 0 0)))),(?_:@Eq (Option D) (aI MK v0 3 (.ref (.vp 7 e 0 0))) (some (aT v))),(?_:@Eq (Option (Bool×D)) (dG MK v0 32 (.ref (.bY 7 e)) (RK (Bv At (DO 59 0 [(0,.ref (.ptr 2 0)),(5,.ref (.ptr 3 0)),(6,.ref (.ptr 4 0)),(7,.ref (.ptr 8 0)),(8,aT v),(29,.ref (.bY 7 e)),(30,aT (↑(MO l):Int)),(31,iF (Zd ((↑(MO l):Int)>0))),(32,.ref (.bY 7 e)),(33,.ref (.vp 7 e 0 0)),(34,aT v),(35,.ref (.bY 7 e))])) (some (QT (N5 MM 1)))) none none) (some (true,PM (.vs 7 e 1 (MO l-1) none)))),.a1 (.ov 33 (.ref (.vp 7 e 0 0))),.a1 (.ov 34 (aT v)),.a1 (.ov 36 (.ref (.vs 7 e 1 (MO l-1) none))),.a1 .inl,.s [0,5,6,7,8,39] Tv]<;>subst v0<;>(first|exact HK rfl|exact vg_ia rfl hn0|exact dy rfl hv|exact vg_sl rfl hn0)
theorem sh_vgx{es:List By}{A:List (List Dp)}{fs by' YL l l2:List Int}{v to:Int}{e e2:Nat}{Q2:D}(hn:Zd ((l.length:Int)>0)=true)(hn0:0<l.length)(hv:l[0]? = some v)
  (Wn:CW MK At (sH es A fs to by' l e (.ref (.bY 7 e))) false (sub Ng 1) {t:=ZE v,h:=HJ es A fs v to by' l e (.ref (.vs 7 e 1 (l.length-1) none)),m:=[]} (.exit 0) {t:=ZE v,h:=VX es A fs v to YL l2 e2 Q2 .exhausted (some (.exit 0)),m:=[11]}):(CW MK At (sH es A fs to by' l e (.ref (.bY 7 e))) false (sub Ng 0) (sS es A fs to by' l e (.ref (.bY 7 e))) (.exit 0) {t:=sT,h:=VX es A fs v to YL l2 e2 Q2 .exhausted (some (.exit 0)),m:=[11]}):=by
 have Tv:=(@Wn)
 let v0:List iN:=[.bY (al fs) 0 1,.T1,.var [ab (ML Nc es),.ref (.bY 0 0),ab A],.var [aT to],.var [.ref (.bY 6 0)],.bY [[aT (-1)]] 0 1,.bY (al by') 0 1,.bY (al l) e 1,.var [.ref (.bY 7 e)]]
 refine yx [.st (.mask [0,5,6,7])] [(?_:@Eq (Option (Bool×D×List iN)) (TF MK v0 QG [32] (ML (Bv At (DO 59 0 [(0,.ref (.ptr 2 0)),(5,.ref (.ptr 3 0)),(6,.ref (.ptr 4 0)),(7,.ref (.ptr 8 0)),(29,.ref (.bY 7 e))])) [Pp 29])) (some (true,aT (↑(MO l):Int),v0))),.a1 (.ov 30 (aT (↑(MO l):Int))),.b hn,(?_:@Eq (Option (Bool×D)) (a7 MK v0 32 (.ref (.bY 7 e)) (aT 0)) (some (true,PM (.vp 7 e 0 0)))),(?_:@Eq (Option D) (aI MK v0 3 (.ref (.vp 7 e 0 0))) (some (aT v))),(?_:@Eq (Option (Bool×D)) (dG MK v0 32 (.ref (.bY 7 e)) (RK (Bv At (DO 59 0 [(0,.ref (.ptr 2 0)),(5,.ref (.ptr 3 0)),(6,.ref (.ptr 4 0)),(7,.ref (.ptr 8 0)),(8,aT v),(29,.ref (.bY 7 e)),(30,aT (↑(MO l):Int)),(31,iF (Zd ((↑(MO l):Int)>0))),(32,.ref (.bY 7 e)),(33,.ref (.vp 7 e 0 0)),(34,aT v),(35,.ref (.bY 7 e))])) (some (QT (N5 MM 1)))) none none) (some (true,PM (.vs 7 e 1 (MO l-1) none)))),.a1 (.ov 33 (.ref (.vp 7 e 0 0))),.a1 (.ov 34 (aT v)),.a1 (.ov 36 (.ref (.vs 7 e 1 (MO l-1) none))),.a1 .inl,.s [0,5,6,7,8,39] Tv]<;>subst v0<;>(first|exact HK rfl|exact vg_ia rfl hn0|exact dy rfl hv|exact vg_sl rfl hn0)
def cS:Code->Code
 | .scope c=>c
 | c=>c
theorem Ga(n:Nat):MU n [aT (-1)]=al (MU n (-1)):=by simp[al]
theorem La{n:Nat}(h1:2<=n)(hn:n<=4096):Ev MK At 271 [.ref (.bY 0 0),aT (n:Int)] [.bY [[aT (-1)]] 0 1] (.ref (.bY 1 0)) [.bY [[aT (-1)]] 0 1,.bY (al (MU n (-1))) 0 1]:=by
 rw[<-Ga];exact rep_a h1 hn
abbrev qT(Do:Int):List D:=DO 59 0 [(0,.ref (.ptr 2 0)),(1,aT Do),(5,.ref (.ptr 3 0)),(6,.ref (.ptr 4 0))]
theorem sr_0{es:List By}{A:List (List Dp)}{fs:List Int}{Do to:Int}:(CW MK At (Wp es A fs) false (cL (ar Ng)) {t:=cC Ng [.ref (.ptr 2 0),aT Do,aT to],h:=Wp es A fs,m:=[]} .normal
  {t:=qT Do,h:=Wp es A fs++[.var [aT to],.var [nq]],m:=[]}):=by
 exact yx [.st (.mask [0,1,5,6])] []
theorem sr_1{es:List By}{A:List (List Dp)}{fs:List Int}{Do to:Int}(h1:2<=A.length)(hn:A.length<=4096):(CW MK At (Wp es A fs++[.var [aT to],.var [nq]]) false (cL (cS (cR (ar Ng)))) {t:=qT Do,h:=Wp es A fs++[.var [aT to],.var [nq]],m:=[]} .normal
  {t:=qT Do,h:=Wp es A fs++[.var [aT to],.var [.ref (.bY 6 0)],.bY [[aT (-1)]] 0 1,.bY (al (MU A.length (-1))) 0 1],m:=[]}):=by
 refine yx [.st (.mask [0,1,5,6])] [.c ((fX [5] (@La (MO A) h1 hn) ⟨?_,trivial⟩ ⟨?_,?_,trivial⟩):Ev MK At 271 [.ref (.bY 5 0),aT (↑(MO A):Int)] [.bY (al fs) 0 1,.T1,.var [ab (ML Nc es),.ref (.bY 0 0),ab A],.var [aT to],.var [nq],.bY [[aT (-1)]] 0 1] (.ref (.bY 6 0)) [.bY (al fs) 0 1,.T1,.var [ab (ML Nc es),.ref (.bY 0 0),ab A],.var [aT to],.var [nq],.bY [[aT (-1)]] 0 1,.bY (al (MU (MO A) (-1))) 0 1])]<;>(first|rfl|exact bd _ _)
theorem sr_2{es:List By}{A:List (List Dp)}{fs by':List Int}{Do to x:Int}(h0:0<=Do)(hx:by'[Do.toNat]? = some x):(CW MK At (Wp es A fs++[.var [aT to],.var [.ref (.bY 6 0)],.bY [[aT (-1)]] 0 1,.bY (al by') 0 1]) false (cL (cR (cS (cR (ar Ng))))) {t:=qT Do,h:=Wp es A fs++[.var [aT to],.var [.ref (.bY 6 0)],.bY [[aT (-1)]] 0 1,.bY (al by') 0 1],m:=[]} .normal
  {t:=qT Do,h:=Wp es A fs++[.var [aT to],.var [.ref (.bY 6 0)],.bY [[aT (-1)]] 0 1,.bY (al (by'.set Do.toNat (MM.wrap (((es.map Nc).length:Int)*2)))) 0 1],m:=[]}):=by
 let v0:=MO (ML Nc es)
 refine yx [.st (.mask [0,1,5,6])] [(?_:TU Do (MO (al by'))=true),(?_:@Eq (Option (List iN)) (aN MK [.bY (al fs) 0 1,.T1,.var [ab (ML Nc es),.ref (.bY 0 0),ab A],.var [aT to],.var [.ref (.bY 6 0)],.bY [[aT (-1)]] 0 1,.bY (al by') 0 1] 3 (.ref (.vp 6 0 (MP Do) 0)) (aT (MN MM ((↑v0:Int)*2)))) (some [.bY (al fs) 0 1,.T1,.var [ab (ML Nc es),.ref (.bY 0 0),ab A],.var [aT to],.var [.ref (.bY 6 0)],.bY [[aT (-1)]] 0 1,.bY (al (Oe by' (MP Do) (MN MM ((↑v0:Int)*2)))) 0 1])),po (some (.ref (.bY 6 0))),pe (.ref (.ptr 2 0)),pe (.ref (.ptr 2 0)),po (some (ab (ML Nc es))),(?_:TU Do (MO (al by'))=true),pe (.ref (.vp 6 0 (MP Do) 0)),.a1 (.oh 10026 D.any (Wp es A fs++[.var [aT to],.var [.ref (.bY 6 0)],.bY [[aT (-1)]] 0 1,.bY (al (Oe by' (MP Do) (MN MM ((↑v0:Int)*2)))) 0 1]))]<;>subst v0<;>(first|exact sk h0 hx|exact my rfl (F9 hx))
theorem sr_3{es:List By}{A:List (List Dp)}{fs by':List Int}{Do to:Int}:(CW MK At (Wp es A fs++[.var [aT to],.var [.ref (.bY 6 0)],.bY [[aT (-1)]] 0 1,.bY (al by') 0 1]) false (cL (cR (cR (cS (cR (ar Ng)))))) {t:=qT Do,h:=Wp es A fs++[.var [aT to],.var [.ref (.bY 6 0)],.bY [[aT (-1)]] 0 1,.bY (al by') 0 1],m:=[]} .normal
  (sS es A fs to by' [Do] 0 (.ref (.bY 7 0)))):=by
 exact yx [.st (.mask [0,5,6,7])] []
theorem sr_4{es:List By}{A:List (List Dp)}{fs by' l:List Int}{to:Int}{e:Nat}{Q:D}:(CW MK At (sH es A fs to by' l e Q) false (cR (cR (cR (cR (cR (cS (cR (ar Ng)))))))) (sS es A fs to by' l e Q) .ret (sS es A fs to by' l e Q)):=by
 exact yx [.st (.mask [0,5,6,7])] []
def QF.pop(q:QF):QF:=match q.vs with
 | true=>⟨true,q.e,q.i+1,q.l⟩
 | false=>⟨true,q.e,1,q.l⟩
theorem QF.XI{q:QF}{v:Int}{rest:List Int}(h:q.list=v::rest):q.pop.list=rest:=by
 obtain⟨vs,e,i,l⟩:=q
 cases vs with
 | true =>
  simp[QF.list,QF.pop] at h ⊢
  rw[<-Rp,h]
  rfl
 | false =>
  grind [QF.list,QF.pop]
inductive Zz (UT:List (List Int)) (es:List By) (fs:List Int) (to:Int):Nat->List Int×QF->List Int×QF->Prop
 | done {s}:s.2.list=[]->Zz UT es fs to 0 s s
 | stop {s v rest f}:s.2.list=v::rest->Tq (X0 es fs to) (UT.getD v.toNat []) (s.1,s.2.pop)=.inr f->Zz UT es fs to 0 s f
 | step {s v rest s' f k}:s.2.list=v::rest->Tq (X0 es fs to) (UT.getD v.toNat []) (s.1,s.2.pop)=.inl s'->Zz UT es fs to k s' f->Zz UT es fs to (k+1) s f
def unm(l:List Int):Nat:=l.countP λx=>Zd (x<0)
structure XX (n:Nat) (s:List Int×QF):Prop where
 len:s.1.length=n
 i:s.2.vs=true->s.2.i<=s.2.l.length
 ne:s.2.vs=false->s.2.l≠[]
 mem:∀v∈s.2.list,0<=v/\v.toNat<n
 sz:s.2.l.length+unm s.1<=n+1
theorem CU{l:List Int}{i:Nat}{r:Int}(hi:i<l.length)(hx:l.getD i 0<0)(hr:0<=r):unm (l.set i r)+1=unm l:=by
 have hg:l.getD i 0=l[i]:=by simp[MT,hi]
 rw[hg] at hx
 unfold unm
 grind
theorem XX.pop{n:Nat}{s:List Int×QF}(h:XX n s){v:Int}{rest:List Int}(hv:s.2.list=v::rest):XX n (s.1,s.2.pop):=by
 have hp:=QF.XI hv
 refine⟨h.len,?_,?_,?_,?_⟩
 ·grind [QF.list,Ph,N3,QF.pop]
 ·grind [QF.pop]
 ·intro u hu
  simp[hp] at hu
  exact h.mem u (by grind)
 ·have:s.2.pop.l=s.2.l:=by
   obtain⟨by',vs,e,i,l⟩:=s
   cases vs<;>rfl
  simp only[this];exact h.sz
theorem XX.Y3{n:Nat}{to r u:Int}{s s':List Int×QF}(h:XX n s)(hr:0<=r)(h0:0<=u)(hu:u.toNat<n)(hy:Y3 to r u s=.inl s'):XX n s':=by
 unfold Vi.Y3 at hy
 split at hy
 ·grind
 ·rename_i hg
  split at hy
  ·cases hy
  ·cases hy
   have hx:s.1.getD u.toNat 0<0:=by simpa using hg
   have h1:=CU (by grind) hx hr
   have h2:s.2.list.length<=s.2.l.length:=by
    obtain⟨by',vs,e,i,l⟩:=s
    cases vs<;>simp[QF.list]
   refine⟨by simpa using h.len,by simp[QF.push],by simp[QF.push],?_,?_⟩
   ·intro v hv
    simp[QF.push,QF.list] at hv
    rcases hv with hv|rfl
    ·exact h.mem v hv
    grind
   ·have h3:=h.sz
    grind [QF.push,Oq,QK]
theorem XX.Tq{es:List By}{fs:List Int}{to:Int}{n:Nat}(hm:es.length<=65536)(TZ:∀x∈es,dQ n x):∀(B:List Int) (s s':List Int×QF),(∀r∈B,cg es.length r)->XX n s->Tq (X0 es fs to) B s=.inl s'->XX n s'
 | [],s,s',_,h,hf=>by cases hf;exact h
 | r::B,s,s',hB,h,hf=>by
  simp[Vi.Tq] at hf
  have hr:=hB r (by simp)
  have he:=oD hr (by omega) TZ
  split at hf
  ·rename_i s1 h1
   refine XX.Tq hm TZ B s1 s' (λx hx=>hB x (by simp[hx])) ?_ hf
   unfold X0 at h1
   split at h1
   ·exact h.Y3 hr.1 he.1 he.2 h1
   grind
  ·cases hf
section
variable {es:List By} {UT:List (List Int)} {fs:List Int} {to:Int} {n:Nat}
theorem yw{A:List (List Dp)}{v:Int}{s:List Int×QF}{pd:Option Code}{X:Ctx}(hX:X.h=Wp es A fs){a:Act}{w:World}(hm:MB At X {t:=sT,h:=Z2 es A fs v to s .exhausted pd,m:=[11]} a w):MB At X (sS es A fs to s.1 s.2.l s.2.e s.2.d) a w:=by
 have h1:=MB.drop (b:=11) rfl hm
 obtain⟨by',vs,e,i,l⟩:=s
 cases vs with
 | true=>exact MB.sop (o:=.trim 9) (φ:=[(al fs).all (NS 9)=true,([[aT (-1)]]:List (List D)).all (NS 9)=true,(al by').all (NS 9)=true,(al l).all (NS 9)=true]) (by rw[hX];rfl) ⟨co _ _,rfl,co _ _,co _ _,trivial⟩ h1
 | false=>exact MB.sop (o:=.trim 9) (φ:=[(al fs).all (NS 9)=true,([[aT (-1)]]:List (List D)).all (NS 9)=true,(al by').all (NS 9)=true,(al l).all (NS 9)=true]) (by rw[hX];rfl) ⟨co _ _,rfl,co _ _,co _ _,trivial⟩ h1
theorem Lb(hl:fs.length=es.length)(hm:es.length<=65536)(hn:n<=4096)(TZ:∀x∈es,dQ n x)(ha:UT.length=n)(hB:∀B∈UT,(∀r∈B,cg es.length r)/\B.length<=200000){X:Ctx}(hX:X.h=Wp es (io UT) fs)
  {k:Nat} {s f:List Int×QF} (hf:Zz UT es fs to k s f) (hs:XX n s) :
  MW MK At X (.loop (sub Ng 0)) (sS es (io UT) fs to s.1 s.2.l s.2.e s.2.d) (Det (.exit 0) (sS es (io UT) fs to f.1 f.2.l f.2.e f.2.d)):=by
 refine MW.loop (ι:=Nat×(List Int×QF)) (λp=>sS es (io UT) fs to p.2.1 p.2.2.l p.2.2.e p.2.2.d) (λ_=>(.exit 0,sS es (io UT) fs to f.1 f.2.l f.2.e f.2.d)) (λp=>p.1) (λp=>Zz UT es fs to p.1 p.2 f/\XX n p.2) ?_ (k,s) ⟨hf,hs⟩
 rintro⟨k,s⟩ ⟨hf,hs⟩
 have key:∀{v:Int} {rest:List Int},s.2.list=v::rest->ap v (io UT) [.sl (ay (UT.getD v.toNat []))] 1/\(∀r∈UT.getD v.toNat [],cg es.length r)/\(UT.getD v.toNat []).length<=200000/\(s.1,s.2.pop).2.Ok 100000:=by
  intro v rest hv
  obtain⟨v0,v1⟩:=hs.mem v (by rw[hv];simp)
  have hg:UT[v.toNat]? = some (UT.getD v.toNat []):=by simp[MT,ha,v1]
  obtain⟨b1,b2⟩:=hB _ (Ny hg)
  have hr:=rowAt (row:=λB:List Int=>[Dp.sl (lR B)]) (sz:=1) hg rfl
  rw[Int.toNat_of_nonneg v0] at hr
  have hp:=hs.pop hv
  exact⟨hr,b1,b2,hp.i,by have:=hp.sz;grind⟩
 cases hf with
 | done he =>
  refine .inr ⟨by simp,?_⟩
  obtain⟨by',vs,e,i,l⟩:=s
  cases vs with
  | true =>
   have h0:l.length-i=0:=by
    have:=congrArg MO he
    simpa[QF.list] using this
   have:=sh_end (es:=es) (A:=io UT) (fs:=fs) (by':=by') (l:=l) (to:=to) (e:=e) (i:=i) (n:=l.length-i) (by simp[h0])
   exact Rb this ⟨rfl,rfl⟩
  | false=>exact absurd he (hs.ne rfl)
 | stop hv hg =>
  rename_i v rest
  obtain⟨r1,r2,r3,r4⟩:=key hv
  refine .inr ⟨by simp,?_⟩
  have Wn:=us_rfr (A:=io UT) (s0:=(s.1,s.2.pop)) (h0:=sH es (io UT) fs to s.1 s.2.l s.2.e s.2.d) hl hm TZ r1 r2 r3 hs.len r4 hg
  refine MW.then (e:=.exit 0) (s1:={t:=sT,h:=Z2 es (io UT) fs v to f .exhausted (some (.exit 0)),m:=[11]}) ?_ (λa w hmb=>yw hX hmb) ⟨rfl,rfl⟩
  obtain⟨by',vs,e,i,l⟩:=s
  cases vs with
  | true =>
   simp[QF.list] at hv
   have hlen:=congrArg MO hv
   simp at hlen
   have hi:i<=l.length:=hs.i rfl
   have hv0:l[i]? = some v:=by
    have:=congrArg (λx=>x[0]?) hv
    simpa using this
   exact Rb (sh_vsx (i:=i) (l:=l) (n:=l.length-i) (by simp;omega) (by omega) (Rj hi) hv0 Wn) ⟨rfl,rfl⟩
  | false =>
   simp[QF.list] at hv
   have hv0:l[0]? = some v:=by rw[hv];rfl
   have hlen:0<l.length:=by rw[hv];simp
   exact Rb (sh_vgx (by grind) hlen hv0 Wn) ⟨rfl,rfl⟩
 | step hv hg hk =>
  rename_i v rest s' k'
  obtain⟨r1,r2,r3,r4⟩:=key hv
  refine .inl ⟨(k',s'),⟨hk,XX.Tq hm TZ _ _ _ r2 (hs.pop hv) hg⟩,by simp,rfl,?_⟩
  have Wn:=us_rfl (A:=io UT) (s0:=(s.1,s.2.pop)) (h0:=sH es (io UT) fs to s.1 s.2.l s.2.e s.2.d) hl hm TZ r1 r2 r3 hs.len r4 hg
  refine MW.then (e:=.normal) (s1:={t:=sT,h:=Z2 es (io UT) fs v to s' .exhausted none,m:=[11]}) ?_ (λa w hmb=>yw hX hmb) ⟨rfl,rfl⟩
  obtain⟨by',vs,e,i,l⟩:=s
  cases vs with
  | true =>
   simp[QF.list] at hv
   have hlen:=congrArg MO hv
   simp at hlen
   have hi:i<=l.length:=hs.i rfl
   have hv0:l[i]? = some v:=by
    have:=congrArg (λx=>x[0]?) hv
    simpa using this
   exact Rb (sh_vs (i:=i) (l:=l) (n:=l.length-i) (by simp;omega) (by omega) (Rj hi) hv0 Wn) ⟨rfl,rfl⟩
  | false =>
   simp[QF.list] at hv
   have hv0:l[0]? = some v:=by rw[hv];rfl
   have hlen:0<l.length:=by rw[hv];simp
   exact Rb (sh_vg (by grind) hlen hv0 Wn) ⟨rfl,rfl⟩
end
theorem MW.label{P:Program}{Γ:ao}{X:Ctx}{k:Nat}{s:AS}{Q:Exit->AS->Prop}(h:Q .normal s):MW P Γ X (.label k) s Q:=λ_ _ hs=>wpIn_label ⟨by simp,s,h,hs⟩
noncomputable abbrev cQ:Code:=cS (cR (ar Ng))
theorem Gb:ar Ng=.seq (cL (ar Ng)) (.scope (.seq (cL cQ) (.seq (cL (cR cQ)) (.seq (cL (cR (cR cQ))) (.seq (.label 0) (.seq (.block 0 (.loop (sub Ng 0))) (cR (cR (cR (cR (cR cQ))))))))))):=by kernel_rfl
def ξ(n m:Nat)(Do:Int):List Int:=(MU n (-1)).set Do.toNat (MM.wrap ((m:Int)*2))
theorem yy{es:List By}{UT:List (List Int)}{fs:List Int}{Do to:Int}{n:Nat}(hl:fs.length=es.length)(hm:es.length<=65536)(h2:2<=n)(hn:n<=4096)(TZ:∀x∈es,dQ n x)(ha:UT.length=n)(hB:∀B∈UT,(∀r∈B,cg es.length r)/\B.length<=200000)
  (X1:0<=Do/\Do.toNat<n) {k:Nat} {f:List Int×QF} (hf:Zz UT es fs to k (ξ n es.length Do,⟨false,0,0,[Do]⟩) f) :
  Ev MK At 191 [.ref (.ptr 2 0),aT Do,aT to] (Wp es (io UT) fs) (.ref (.bY 6 0)) (Wp es (io UT) fs++[.var [aT to],.var [.ref (.bY 6 0)],.bY [[aT (-1)]] 0 1,.bY (al f.1) 0 1]):=by
 have hA:(io UT).length=n:=by simpa using ha
 have YB:(MU (io UT).length (-1:Int))[Do.toNat]? = some (-1):=by
  rw[List.getElem?_replicate,if_pos (by grind)]
 have hby:(MU (io UT).length (-1:Int)).set Do.toNat (MM.wrap (((es.map Nc).length:Int)*2))=ξ n es.length Do:=by
  unfold ξ;rw[hA,List.length_map]
 have hs0:XX n (ξ n es.length Do,⟨false,0,0,[Do]⟩):=by
  refine⟨by simp[ξ],by simp,by simp,?_,?_⟩
  ·grind [QF.list,List.mem_singleton]
  ·grind [ξ,QK,unm]
 refine Ev.of_mb (fn:=Ng) (c:=ar Ng) (e:=.ret) (s:={t:=DO 59 0 [(6,.ref (.ptr 4 0))],h:=Wp es (io UT) fs++[.var [aT to],.var [.ref (.bY 6 0)],.bY [[aT (-1)]] 0 1,.bY (al f.1) 0 1],m:=[]}) rfl rfl ?_
  ⟨.inr rfl,rfl,List.nodup_nil,[.ref (.bY 6 0)],rfl,rfl,rfl⟩
 intro X hX
 rw[Gb]
 refine SR (Rb sr_0 ?_)
 show MW _ _ _ _ _ _
 refine MW.scope (SR (Rb (sr_1 (by omega) (by omega)) ?_))
 show MW _ _ _ _ _ _
 refine SR (Rb (sr_2 X1.1 YB) ?_)
 show MW _ _ _ _ _ _
 rw[hby]
 refine SR (Rb sr_3 ?_)
 show MW _ _ _ _ _ _
 refine SR (MW.label ?_)
 show MW _ _ _ _ _ _
 refine SR (MW.block (MW.mono (Lb hl hm (by omega) TZ ha hB hX hf hs0) ?_))
 rintro e s ⟨rfl,rfl⟩
 show MW _ _ _ _ _ _
 refine MW.then (Rb sr_4 ⟨rfl,rfl⟩) (λa w hmb=>?_) ⟨by simp,rfl,rfl⟩
 have h3:=MB.sop (o:=.mask [6]) (φ:=[]) rfl trivial hmb
 exact MB.sop (o:=.trim 7) (φ:=[(al fs).all (NS 7)=true,([[aT (-1)]]:List (List D)).all (NS 7)=true,(al f.1).all (NS 7)=true]) (by rw[hX];rfl) ⟨co _ _,rfl,co _ _,trivial⟩ h3
def dmnI(a b:Int):Int:=if b<a then b else a
abbrev mH(es:List By)(A:List (List Dp))(fs:List Int)(Do to:Int)(by':List Int)(least:Int):List iN :=
 [.var [aT Do],.var [aT to],.bY (al fs) 0 1,.T1,.var [ab (es.map Nc),.ref (.bY 2 0),ab A],.var [.ref (.ptr 4 0)],.var [aT to],.var [.ref (.bY 9 0)],.bY [[aT (-1)]] 0 1,.bY (al by') 0 1,.var [.ref (.bY 9 0)],.var [aT least]]
noncomputable abbrev oE(es:List By)(A:List (List Dp))(fs:List Int)(by':List Int)(Do:Int)(to:Int)(least:Int):List iN:=[.var [aT Do],.var [aT to],.bY (al fs) 0 1,.T1,.var [ab (ML Nc es),.ref (.bY 2 0),ab A],.var [.ref (.ptr 4 0)],.var [aT to],.var [.ref (.bY 9 0)],.bY [[aT (-1)]] 0 1,.bY (al by') 0 1,.var [.ref (.bY 9 0)],.var [aT least]]
theorem Gc{es:List By}{A:List (List Dp)}{fs by':List Int}{Do to least r f:Int}{x:By}{q:Nat}(hq:MM.wrap (Nn r 2)=(q:Int))(hx:ap (MM.wrap (Nn r 2)) (es.map Nc) x.row 3)(hf:fs[MP (MM.wrap (Nn r 2))]? = some f)(hl:q<fs.length):(Ev MK At 194 [aT r,.ref (.ptr 11 0),.ref (.ptr 5 0)] (mH es A fs Do to by' least) (.Tt []) (mH es A fs Do to by' (dmnI least (eH r x f)))):=by
 refine Na (yF (h':=[.var [aT Do],.var [aT to],.bY (al fs) 0 1,.T1,.var [ab (ML Nc es),.ref (.bY 2 0),ab A],.var [.ref (.ptr 4 0)],.var [aT to],.var [.ref (.bY 9 0)],.bY [[aT (-1)]] 0 1,.bY (al by') 0 1,.var [.ref (.bY 9 0)],.var [aT (if false=true then if eH r x f>least then eH r x f else least else if eH r x f<least then eH r x f else least)]]) (d:=Nt []) [.v ((fX [2,3,4] (@yr es A fs r f x q hq hx hf hl) ⟨?_,trivial⟩ ⟨?_,trivial⟩):Ev MK At 195 [.ref (.ptr 4 0),aT r] (oE es A fs by' Do to least) (aT (eH r x f)) (oE es A fs by' Do to least)),po (some (aT least)),po (some (aT least)),po (some (.ref (.ptr 4 0)))]) (by rfl) (by rfl)<;>(exact bd _ _)
theorem Lc{es:List By}{A:List (List Dp)}{fs:List Int}{r f d:Int}{q:Nat}(hq:MM.wrap (Nn r 2)=(q:Int))(hf:fs[MP (MM.wrap (Nn r 2))]? = some f)(hl:q<fs.length)(YW:MP (MM.wrap (Nn r 2))<fs.length):Ev MK At 197 [.ref (.ptr 2 0),aT r,aT d] (Wp es A fs) (.Tt []) (Wp es A (fs.set (MP (MM.wrap (Nn r 2))) (MM.wrap (f+jR r d)))):=push_a hq hf hl YW
noncomputable abbrev lG(es:List By)(A:List (List Dp))(fs:List Int)(by':List Int)(Do:Int)(to:Int)(least:Int)(r:Int)(f:Int):List iN:=[.var [aT Do],.var [aT to],.bY (al (Oe fs (MP (MN MM (Nn r 2))) (MN MM (f+jR r least)))) 0 1,.T1,.var [ab (ML Nc es),.ref (.bY 2 0),ab A],.var [.ref (.ptr 4 0)],.var [aT to],.var [.ref (.bY 9 0)],.bY [[aT (-1)]] 0 1,.bY (al by') 0 1,.var [.ref (.bY 9 0)],.var [aT least]]
noncomputable abbrev uT(es:List By)(A:List (List Dp))(fs:List Int)(by':List Int)(Do:Int)(to:Int)(least:Int):List iN:=[.var [aT Do],.var [aT to],.bY (al fs) 0 1,.T1,.var [ab (ML Nc es),.ref (.bY 2 0),ab A],.var [.ref (.ptr 4 0)],.var [aT to],.var [.ref (.bY 9 0)],.bY [[aT (-1)]] 0 1,.bY (al by') 0 1,.var [.ref (.bY 9 0)],.var [aT least]]
theorem CV{es:List By}{A:List (List Dp)}{fs by':List Int}{Do to least r f:Int}{q:Nat}(hq:MM.wrap (Nn r 2)=(q:Int))(hf:fs[MP (MM.wrap (Nn r 2))]? = some f)(hl:q<fs.length)(YW:MP (MM.wrap (Nn r 2))<fs.length):(Ev MK At 196 [aT r,.ref (.ptr 5 0),.ref (.ptr 11 0)] (mH es A fs Do to by' least) (.Tt []) (mH es A (fs.set (MP (MM.wrap (Nn r 2))) (MM.wrap (f+jR r least))) Do to by' least)):=by
 refine Na (yF (h':=(lG es A fs by' Do to least r f)) (d:=Nt []) [.c ((fX [2,3,4] (@Lc es A fs r f least q hq hf hl YW) ⟨?_,trivial⟩ ⟨?_,trivial⟩):Ev MK At 197 [.ref (.ptr 4 0),aT r,aT least] (uT es A fs by' Do to least) (Nt []) (lG es A fs by' Do to least r f))]) (by rfl) (by rfl)<;>(exact bd _ _)
def xr(r:Int):Int:=MM.wrap (Nf MM.bits r ^^^ Nf MM.bits 1).toNat
abbrev aS(es:List By)(A:List (List Dp))(fs:List Int)(Do to:Int)(by':List Int)(least v:Int)(d:D):AS:={t:=DO 24 0 [(0,d),(1,.ref (.ptr 1 0)),(2,.ref (.ptr 0 0)),(3,.ref (.ptr 5 0)),(4,.ref (.ptr 10 0)),(6,aT v)],h:=mH es A fs Do to by' least,m:=[]}
abbrev d72:D:=.fn (.func 194) [] [.ref (.ptr 11 0),.ref (.ptr 5 0)]
abbrev d74:D:=.fn (.func 196) [] [.ref (.ptr 5 0),.ref (.ptr 11 0)]
theorem yz{es:List By}{A:List (List Dp)}{fs gs by':List Int}{Do to l0 least v:Int}{d:D}(hv:(v != Do)=false):(CW MK At (mH es A gs Do to by' l0) false (sub QY 0) (aS es A fs Do to by' least v d) (.exit 0) {t:=DO 24 0 [],h:=mH es A fs Do to by' least,m:=[]}):=by
 exact yx [.st (.mask [])] [.b hv]
noncomputable abbrev iQ(es:List By)(A:List (List Dp))(fs:List Int)(by':List Int)(Do:Int)(to:Int)(least:Int)(r:Int)(f:Int)(x:By):List iN:=[.var [aT Do],.var [aT to],.bY (al fs) 0 1,.T1,.var [ab (ML Nc es),.ref (.bY 2 0),ab A],.var [.ref (.ptr 4 0)],.var [aT to],.var [.ref (.bY 9 0)],.bY [[aT (-1)]] 0 1,.bY (al by') 0 1,.var [.ref (.bY 9 0)],.var [aT (dmnI least (eH r x f))]]
noncomputable abbrev wG(es:List By)(A:List (List Dp))(fs:List Int)(by':List Int)(Do:Int)(to:Int)(least:Int):List iN:=[.var [aT Do],.var [aT to],.bY (al fs) 0 1,.T1,.var [ab (ML Nc es),.ref (.bY 2 0),ab A],.var [.ref (.ptr 4 0)],.var [aT to],.var [.ref (.bY 9 0)],.bY [[aT (-1)]] 0 1,.bY (al by') 0 1,.var [.ref (.bY 9 0)],.var [aT least]]
theorem Gd{es:List By}{A:List (List Dp)}{fs gs by':List Int}{Do to l0 least v r f:Int}{x y:By}{q:Nat}(hv:(v != Do)=true)(h0:0<=v)(hb:by'[v.toNat]? = some r)(hq:MM.wrap (Nn r 2)=(q:Int))(hx:ap (MM.wrap (Nn r 2)) (es.map Nc) x.row 3)(hf:fs[MP (MM.wrap (Nn r 2))]? = some f)(hl:q<fs.length)
  (hy:ap (MM.wrap (Nn (xr r) 2)) (es.map Nc) y.row 3):(CW MK At (mH es A gs Do to by' l0) false (sub QY 0) (aS es A fs Do to by' least v d72) .normal (aS es A fs Do to by' (dmnI least (eH r x f)) (uS (xr r) y) d72)):=by
 refine yx [.st (.mask [0,1,2,3,4,6])] [.b hv,(?_:TU v (MO (al by'))=true),(?_:@Eq (Option D) (aI MK (wG es A fs by' Do to least) 3 (.ref (.vp 9 0 (MP v) 0))) (some (aT r))),.a1 (.ov 22 (aT r)),.c (@Gc es A fs by' Do to least r f x q hq hx hf hl),(?_:TU v (MO (al by'))=true),(?_:@Eq (Option D) (aI MK (iQ es A fs by' Do to least r f x) 3 (.ref (.vp 9 0 (MP v) 0))) (some (aT r))),.a1 (.ov 15 (aT r)),.v ((fX [2,3,4] (@yu es A fs (MN MM (↑(OB (Nf 64 r ^^^ Nf 64 1)):Int)) y hy) ⟨(by exact bd _ _),trivial⟩ ⟨(by exact bd _ _),trivial⟩):Ev MK At 193 [.ref (.ptr 4 0),aT (MN MM (↑(OB (Nf 64 r ^^^ Nf 64 1)):Int))] (iQ es A fs by' Do to least r f x) (aT (uS (MN MM (↑(OB (Nf 64 r ^^^ Nf 64 1)):Int)) y)) (iQ es A fs by' Do to least r f x))]<;>(first|exact sk h0 hb|exact dy rfl hb)
noncomputable abbrev lb(es:List By)(A:List (List Dp))(fs:List Int)(by':List Int)(Do:Int)(to:Int)(least:Int)(r:Int)(f:Int):List iN:=[.var [aT Do],.var [aT to],.bY (al (Oe fs (MP (MN MM (Nn r 2))) (MN MM (f+jR r least)))) 0 1,.T1,.var [ab (ML Nc es),.ref (.bY 2 0),ab A],.var [.ref (.ptr 4 0)],.var [aT to],.var [.ref (.bY 9 0)],.bY [[aT (-1)]] 0 1,.bY (al by') 0 1,.var [.ref (.bY 9 0)],.var [aT least]]
noncomputable abbrev zR(es:List By)(A:List (List Dp))(fs:List Int)(by':List Int)(Do:Int)(to:Int)(least:Int):List iN:=[.var [aT Do],.var [aT to],.bY (al fs) 0 1,.T1,.var [ab (ML Nc es),.ref (.bY 2 0),ab A],.var [.ref (.ptr 4 0)],.var [aT to],.var [.ref (.bY 9 0)],.bY [[aT (-1)]] 0 1,.bY (al by') 0 1,.var [.ref (.bY 9 0)],.var [aT least]]
theorem Ld{es:List By}{A:List (List Dp)}{fs gs by':List Int}{Do to l0 least v r f:Int}{y:By}{q:Nat}(hv:(v != Do)=true)(h0:0<=v)(hb:by'[v.toNat]? = some r)(hq:MM.wrap (Nn r 2)=(q:Int))(hf:fs[MP (MM.wrap (Nn r 2))]? = some f)(hl:q<fs.length)(YW:MP (MM.wrap (Nn r 2))<fs.length)
  (hy:ap (MM.wrap (Nn (xr r) 2)) (es.map Nc) y.row 3):(CW MK At (mH es A gs Do to by' l0) false (sub QY 0) (aS es A fs Do to by' least v d74) .normal (aS es A (fs.set (MP (MM.wrap (Nn r 2))) (MM.wrap (f+jR r least))) Do to by' least (uS (xr r) y) d74)):=by
 refine yx [.st (.mask [0,1,2,3,4,6])] [.b hv,(?_:TU v (MO (al by'))=true),(?_:@Eq (Option D) (aI MK (zR es A fs by' Do to least) 3 (.ref (.vp 9 0 (MP v) 0))) (some (aT r))),.a1 (.ov 22 (aT r)),.c (@CV es A fs by' Do to least r f q hq hf hl YW),(?_:TU v (MO (al by'))=true),(?_:@Eq (Option D) (aI MK (lb es A fs by' Do to least r f) 3 (.ref (.vp 9 0 (MP v) 0))) (some (aT r))),.a1 (.ov 15 (aT r)),.v ((fX [2,3,4] (@yu es A (Oe fs (MP (MN MM (Nn r 2))) (MN MM (f+jR r least))) (MN MM (↑(OB (Nf 64 r ^^^ Nf 64 1)):Int)) y hy) ⟨(by exact bd _ _),trivial⟩ ⟨(by exact bd _ _),trivial⟩):Ev MK At 193 [.ref (.ptr 4 0),aT (MN MM (↑(OB (Nf 64 r ^^^ Nf 64 1)):Int))] (lb es A fs by' Do to least r f) (aT (uS (MN MM (↑(OB (Nf 64 r ^^^ Nf 64 1)):Int)) y)) (lb es A fs by' Do to least r f))]<;>(first|exact sk h0 hb|exact dy rfl hb)
theorem Le(k:Nat):k ^^^ 1=if k % 2=0 then k+1 else k-1:=by
 have h1:(k ^^^ 1) / 2=k / 2:=by rw[Nat.xor_div_two];simp
 have h2:(k ^^^ 1) % 2=(k+1) % 2:=by
  have:=@Nat.xor_mod_two_eq_one k 1
  omega
 split<;>omega
theorem Lf{m:Nat}{r:Int}(h:cg m r)(hm:m<=1000000):xr r=if r.toNat % 2=0 then r+1 else r-1:=by
 obtain⟨h0,h1⟩:=h
 obtain⟨k,rfl⟩:=Int.eq_ofNat_of_zero_le h0
 have hk:k<2000000:=by omega
 have e:(Nf MM.bits (k:Int) ^^^ Nf MM.bits 1).toNat=k ^^^ 1:=by
  rw[BitVec.toNat_xor]
  have e1:(Nf MM.bits (k:Int)).toNat=k:=by
   show(Nf 64 (k:Int)).toNat=k
   rw[BitVec.toNat_ofInt];omega
  have e2:(Nf MM.bits 1).toNat=1:=rfl
  rw[e1,e2]
 unfold xr
 rw[e,Le]
 simp
 split
 ·rw[wrap_i64 (by omega) (by omega)];omega
 ·rw[wrap_i64 (by omega) (by omega)];omega
theorem Lg{m:Nat}{r:Int}(h:cg m r)(hm:m<=1000000):cg m (xr r):=by
 rw[Lf h hm]
 obtain⟨h0,h1⟩:=h
 split<;>constructor<;>omega
inductive Path (es:List By) (by':List Int) (Do:Int):Int->List Int->Prop
 | nil:Path es by' Do Do []
 | cons {v r rs}:v≠Do->0<=v->by'[v.toNat]? = some r->cg es.length r->Path es by' Do (fW es (xr r)) rs->Path es by' Do v (r::rs)
def lsF(es:List By)(fs:List Int)(least r:Int):Int:=dmnI least (Vx es fs r)
def YS(least:Int)(fs:List Int)(r:Int):List Int:=fs.set (Zs r).toNat (MM.wrap (fA fs r+jR r least))
theorem CX(least:Int)(fs:List Int)(r:Int):(YS least fs r).length=fs.length:=by simp[YS]
theorem yA(least:Int):∀(rs:List Int) (fs:List Int),(rs.foldl (YS least) fs).length=fs.length
 | [],_=>rfl
 | r::rs,fs=>by rw[NI,yA least rs,CX]
section
variable {es:List By} {A:List (List Dp)} {fs by':List Int} {Do to:Int}
theorem Ge(hl:fs.length=es.length)(hm:es.length<=65536){gs:List Int}{l0 least v:Int}{rs:List Int}(hp:Path es by' Do v rs):
  CW MK At (mH es A gs Do to by' l0) false (.loop (sub QY 0)) (aS es A fs Do to by' least v d72) (.exit 0) {t:=DO 24 0 [],h:=mH es A fs Do to by' (rs.foldl (lsF es fs) least),m:=[]}:=by
 refine CW.loop (ι:={p:Int×Int×List Int // Path es by' Do p.1 p.2.2}) (λp=>aS es A fs Do to by' p.1.2.1 p.1.1 d72) (λp=>(.exit 0,{t:=DO 24 0 [],h:=mH es A fs Do to by' (p.1.2.2.foldl (lsF es fs) p.1.2.1),m:=[]})) (λp=>p.1.2.2.length) ?_ ⟨(v,least,rs),hp⟩
 rintro⟨⟨v,least,rs⟩,hp⟩
 cases hp with
 | nil=>exact .inr ⟨by simp,yz (by simp)⟩
 | cons h1 h2 h3 h4 h5 =>
  rename_i r rs
  have hq:=jT h4 (by omega)
  refine .inl ⟨⟨(fW es (xr r),lsF es fs least r,rs),h5⟩,by simp,rfl,?_⟩
  exact Gd (x:=exA es r) (f:=fA fs r) (by simpa using h1) h2 h3 hq.1 (sm h4 (by omega)) (CQ h4 (by omega) hl) (by omega) (sm (Lg h4 (by omega)) (by omega))
theorem Gf(hm:es.length<=65536){gs:List Int}{l0 least v:Int}{rs:List Int}(hl:fs.length=es.length)(hp:Path es by' Do v rs):
  CW MK At (mH es A gs Do to by' l0) false (.loop (sub QY 0)) (aS es A fs Do to by' least v d74) (.exit 0) {t:=DO 24 0 [],h:=mH es A (rs.foldl (YS least) fs) Do to by' least,m:=[]}:=by
 refine CW.loop (ι:={p:Int×List Int×List Int // Path es by' Do p.1 p.2.2/\p.2.1.length=es.length}) (λp=>aS es A p.1.2.1 Do to by' least p.1.1 d74) (λp=>(.exit 0,{t:=DO 24 0 [],h:=mH es A (p.1.2.2.foldl (YS least) p.1.2.1) Do to by' least,m:=[]})) (λp=>p.1.2.2.length) ?_ ⟨(v,fs,rs),hp,hl⟩
 rintro⟨⟨v,fs,rs⟩,hp,hl⟩
 simp only at hl
 cases hp with
 | nil=>exact .inr ⟨by simp,yz (by simp)⟩
 | cons h1 h2 h3 h4 h5 =>
  rename_i r rs
  have hq:=jT h4 (by omega)
  have hf:=CQ (fs:=fs) h4 (by omega) hl
  refine .inl ⟨⟨(fW es (xr r),YS least fs r,rs),h5,by rw[CX];exact hl⟩,by simp,rfl,?_⟩
  exact Ld (f:=fA fs r) (y:=exA es (xr r)) (by simpa using h1) h2 h3 hq.1 hf (show r.toNat / 2<fs.length by omega) (MR.1 hf).1 (sm (Lg h4 (by omega)) (by omega))
end
theorem al_a{es:List By}{A:List (List Dp)}{fs fs2 by':List Int}{Do to least ZP:Int}{d:D}
  (Wn:CW MK At (mH es A fs Do to by' least) false (.loop (sub QY 0)) (aS es A fs Do to by' least to d) (.exit 0) {t:=DO 24 0 [],h:=mH es A fs2 Do to by' ZP,m:=[]}):(Ev MK At 192 [d,.ref (.ptr 1 0),.ref (.ptr 0 0),.ref (.ptr 5 0),.ref (.ptr 10 0)] (mH es A fs Do to by' least) (.Tt []) (mH es A fs2 Do to by' ZP)):=by
 have Tv:=(@Wn)
 exact Na (yF (h':=[.var [aT Do],.var [aT to],.bY (al fs2) 0 1,.T1,.var [ab (ML Nc es),.ref (.bY 2 0),ab A],.var [.ref (.ptr 4 0)],.var [aT to],.var [.ref (.bY 9 0)],.bY [[aT (-1)]] 0 1,.bY (al by') 0 1,.var [.ref (.bY 9 0)],.var [aT ZP]]) (d:=Nt []) [.s [0,1,2,3,4,6] Tv]) (by rfl) (by rfl)
abbrev xT(n:Int):List D:=DO 65 0 [(0,aT n),(6,.ref (.ptr 0 0)),(7,.ref (.ptr 1 0)),(12,.ref (.ptr 5 0))]
abbrev xH(es:List By)(A:List (List Dp))(fs:List Int)(Do to:Int):List iN:=[.var [aT Do],.var [aT to],.bY (al fs) 0 1,.T1,.var [ab (es.map Nc),.ref (.bY 2 0),ab A],.var [.ref (.ptr 4 0)]]
abbrev xS(es:List By)(A:List (List Dp))(fs:List Int)(n Do to:Int):AS:={t:=xT n,h:=xH es A fs Do to,m:=[]}
noncomputable abbrev wH(es:List By)(A:List (List Dp))(fs:List Int)(Do:Int)(to:Int):List iN:=[.var [aT Do],.var [aT to],.bY (al fs) 0 1,.T1,.var [ab (ML Nc es),.ref (.bY 2 0),ab A],.var [.ref (.ptr 4 0)]]
theorem Gg{es:List By}{A:List (List Dp)}{fs fs2 by':List Int}{n Do to x l2:Int}(h0:0<=to)(hx:by'[to.toNat]? = some x)(hg:Zd (x<0)=false)
  (hs:Ev MK At 191 [.ref (.ptr 2 0),aT Do,aT to] (Wp es A fs) (.ref (.bY 6 0)) (Wp es A fs++[.var [aT to],.var [.ref (.bY 6 0)],.bY [[aT (-1)]] 0 1,.bY (al by') 0 1]))
  (h1:Ev MK At 192 [d72,.ref (.ptr 1 0),.ref (.ptr 0 0),.ref (.ptr 5 0),.ref (.ptr 10 0)] (mH es A fs Do to by' 1073741824) (.Tt []) (mH es A fs Do to by' l2))
  (h2:Ev MK At 192 [d74,.ref (.ptr 1 0),.ref (.ptr 0 0),.ref (.ptr 5 0),.ref (.ptr 10 0)] (mH es A fs Do to by' l2) (.Tt []) (mH es A fs2 Do to by' l2)):(CW MK At [] false (sub PR 0) (xS es A fs n Do to) .normal (xS es A fs2 n Do to)):=by
 refine yx [.st (.mask [0,6,7,12]),.st (.trim 6)] [.c ((fX [2,3,4] (@hs) ⟨?_,trivial⟩ ⟨?_,?_,?_,trivial⟩):Ev MK At 191 [.ref (.ptr 4 0),aT Do,aT to] (wH es A fs Do to) (.ref (.bY 9 0)) [.var [aT Do],.var [aT to],.bY (al fs) 0 1,.T1,.var [ab (ML Nc es),.ref (.bY 2 0),ab A],.var [.ref (.ptr 4 0)],.var [aT to],.var [.ref (.bY 9 0)],.bY [[aT (-1)]] 0 1,.bY (al by') 0 1]),((by exact sk h0 hx):TU to (MO (al by'))=true),((by exact dy rfl hx):@Eq (Option D) (aI MK [.var [aT Do],.var [aT to],.bY (al fs) 0 1,.T1,.var [ab (ML Nc es),.ref (.bY 2 0),ab A],.var [.ref (.ptr 4 0)],.var [aT to],.var [.ref (.bY 9 0)],.bY [[aT (-1)]] 0 1,.bY (al by') 0 1,.var [.ref (.bY 9 0)]] 3 (.ref (.vp 9 0 (MP to) 0))) (some (aT x))),.a1 (.ov 36 (aT x)),.b hg,.c (@h1),.c (@h2),((by exact co _ _):List.all (al fs2) (NS 6)=true)]<;>(first|rfl|exact bd _ _)
def pj(l:List Bool):List (List D):=l.map λb=>[iF b]
abbrev cH(l:List Bool):List (List Dp):=l.map λb=>[.v (.bool b)]
theorem Gh(f:Ref->D)(l:List Bool):(pj l).map (Nm f)=pj l:=by simp[pj,Nm,D.Tz]
theorem Gi(l:List Bool):pj l=(cH l).map (·.map .p):=by simp[pj]
theorem Gj(n:Nat):MU n [iF false]=pj (MU n false):=by simp[pj]
theorem Gk{l:List Bool}{b i:Nat}{a:Bool}{h:List iN}(hb:h[b]? = some (.bY (pj l) 0 1))(hi:i<l.length):aN MK h 4 (.ref (.vp b 0 i 0)) (iF a)=some (h.set b (.bY (pj (l.set i a)) 0 1)):=by
 have e1:(pj l)[i]? = some [iF l[i]]:=by simp[pj,hi]
 unfold aN
 simp only[hb,e1,if_true]
 simp[pj,List.map_set]
 rfl
abbrev kH(es:List By)(A:List (List Dp))(fs:List Int)(Do to:Int)(by':List Int)(cut:List Bool):List iN:=xH es A fs Do to++[.var [aT to],.var [.ref (.bY 9 0)],.bY [[aT (-1)]] 0 1,.bY (al by') 0 1,.var [.ref (.bY 9 0)],.bY (pj cut) 0 1]
abbrev kS(es:List By)(A:List (List Dp))(fs:List Int)(Do to:Int)(by':List Int)(cut:List Bool)(i:Int):AS:={t:=DO 65 0 [(9,.ref (.bY 11 0)),(12,.ref (.ptr 5 0)),(40,.ref (.bY 9 0)),(41,aT (by'.length:Int)),(42,aT i)],h:=kH es A fs Do to by' cut,m:=[]}
abbrev kE(es:List By)(A:List (List Dp))(fs:List Int)(Do to:Int)(by':List Int)(cut:List Bool):AS:={t:=DO 65 0 [(9,.ref (.bY 11 0)),(12,.ref (.ptr 5 0))],h:=kH es A fs Do to by' cut,m:=[]}
theorem Lh{es:List By}{A:List (List Dp)}{fs by':List Int}{Do to x:Int}{cut:List Bool}{i:Nat}(hx:by'[MP (i:Int)]? = some x)(IN:Zd ((i:Int)<(by'.length:Int))=true)(hw:MM.wrap ((i:Int)+1)=((i+1:Nat):Int))(hi:TU (i:Int) (al by').length=true)(hc:TU (i:Int) (pj cut).length=true)(Vs:MP (i:Int)<cut.length):(CW MK At [] false (sub PR 1) (kS es A fs Do to by' cut i) .normal (kS es A fs Do to by' (cut.set (MP (i:Int)) (Zd (x>=0))) ((i+1:Nat):Int))):=by
 let v1:List D:=[ab (ML Nc es),.ref (.bY 2 0),ab A]
 let v0:List iN:=[.var [aT Do],.var [aT to],.bY (al fs) 0 1,.T1,.var v1,.var [.ref (.ptr 4 0)],.var [aT to],.var [.ref (.bY 9 0)],.bY [[aT (-1)]] 0 1,.bY (al by') 0 1,.var [.ref (.bY 9 0)],.bY (pj cut) 0 1]
 refine yX {t:=DO 65 0 [(9,.ref (.bY 11 0)),(12,.ref (.ptr 5 0)),(40,.ref (.bY 9 0)),(41,aT (↑(MO by'):Int)),(42,aT (MN MM ((↑i:Int)+1)))],h:=[.var [aT Do],.var [aT to],.bY (al fs) 0 1,.T1,.var v1,.var [.ref (.ptr 4 0)],.var [aT to],.var [.ref (.bY 9 0)],.bY [[aT (-1)]] 0 1,.bY (al by') 0 1,.var [.ref (.bY 9 0)],.bY (pj (Oe cut (MP (↑i:Int)) (Zd (x>=0)))) 0 1],m:=[]} Exit.normal [.st (.mask [9,12,40,41,42])] [.b IN,hi,(?_:@Eq (Option D) (aI MK v0 3 (.ref (.vp 9 0 (MP (↑i:Int)) 0))) (some (aT x))),hc,(?_:@Eq (Option (List iN)) (aN MK v0 4 (.ref (.vp 11 0 (MP (↑i:Int)) 0)) (iF (Zd (x>=0)))) (some [.var [aT Do],.var [aT to],.bY (al fs) 0 1,.T1,.var v1,.var [.ref (.ptr 4 0)],.var [aT to],.var [.ref (.bY 9 0)],.bY [[aT (-1)]] 0 1,.bY (al by') 0 1,.var [.ref (.bY 9 0)],.bY (pj (Oe cut (MP (↑i:Int)) (Zd (x>=0)))) 0 1])),.a1 (.ov 46 (aT x)),.a1 (.oh 10051 D.any (kH es A fs Do to by' (Oe cut (MP (↑i:Int)) (Zd (x>=0)))))] (by subst v1 v0;grind) (by subst v1 v0;grind)<;>subst v1 v0<;>(first|exact dy rfl hx|exact Gk rfl Vs)
theorem Li{es:List By}{A:List (List Dp)}{fs by':List Int}{Do to:Int}{cut:List Bool}{i:Nat}(IN:Zd ((i:Int)<(by'.length:Int))=false):(CW MK At [] false (sub PR 1) (kS es A fs Do to by' cut i) (.exit 2) (kE es A fs Do to by' cut)):=by
 exact yx [.st (.mask [9,12])] [.b IN]
def MH(s:List Bool×Nat)(x:Int):List Bool×Nat:=(s.1.set s.2 (Zd (x>=0)),s.2+1)
def DQ(by':List Int):List Bool:=(by'.foldl MH (MU by'.length false,0)).1
theorem Lj{es:List By}{A:List (List Dp)}{fs by':List Int}{Do to:Int}(hb:by'.length<=5000):CW MK At [] false (.loop (sub PR 1)) (kS es A fs Do to by' (MU by'.length false) 0) (.exit 2) (kE es A fs Do to by' (DQ by')):=by
 have:=CW.each (P:=MK) (Γ:=At) (h0:=[]) (rd:=false) (c:=sub PR 1) (σ:=List Bool×Nat) (ρ:=Empty) by' (λx s=>.inl (MH s x))
  (λi s=>kS es A fs Do to by' s.1 (i:Int)) (.exit 2) (λs=>kE es A fs Do to by' s.1) (λr=>r.elim) (λi s=>s.2=i/\s.1.length=by'.length) (by simp) (λr=>r.elim) ?_ ?_ (MU by'.length false,0) (by simp)
 ·rw[aP] at this
  exact this
 ·rintro i x ⟨cut,k⟩ hx ⟨hk,hc⟩
  simp only at hk hc
  subst hk
  have hi:=(MR.1 hx).1
  refine⟨λs' h=>?_,Lh (by simpa using hx) (by simp;omega) (T4 hi (by omega)) (by simp[TU,al];omega) (by simp[TU,pj];omega) (by simp;omega)⟩
  grind [MH]
 ·intro s _
  exact Li (by simp)
abbrev kS0(es:List By)(A:List (List Dp))(fs:List Int)(n Do to:Int)(by':List Int):AS:={t:=DO 65 0 [(9,.ref (.bY 11 0)),(12,.ref (.ptr 5 0)),(40,.ref (.bY 9 0)),(41,aT ((al by').length:Int)),(42,aT 0)],h:=xH es A fs Do to++[.var [aT to],.var [.ref (.bY 9 0)],.bY [[aT (-1)]] 0 1,.bY (al by') 0 1,.var [.ref (.bY 9 0)],.bY (MU (MP n) [iF false]) 0 1],m:=[]}
theorem kS0_eq{es:List By}{A:List (List Dp)}{fs:List Int}{n Do to:Int}{by':List Int}(hn:MP n=by'.length):kS0 es A fs n Do to by'=kS es A fs Do to by' (MU by'.length false) 0:=by
 unfold kS0 kS kH
 rw[hn,Gj,dD]
noncomputable abbrev CY(es:List By)(A:List (List Dp))(fs:List Int)(Do:Int)(to:Int):List iN:=[.var [aT Do],.var [aT to],.bY (al fs) 0 1,.T1,.var [ab (ML Nc es),.ref (.bY 2 0),ab A],.var [.ref (.ptr 4 0)]]
theorem mx_end{es:List By}{A:List (List Dp)}{fs by':List Int}{n Do to x:Int}{cut:List Bool}(h0:0<=to)(hx:by'[to.toNat]? = some x)(hg:Zd (x<0)=true)(hn0:0<=n)(hn1:n<=4096)
  (hs:Ev MK At 191 [.ref (.ptr 2 0),aT Do,aT to] (Wp es A fs) (.ref (.bY 6 0)) (Wp es A fs++[.var [aT to],.var [.ref (.bY 6 0)],.bY [[aT (-1)]] 0 1,.bY (al by') 0 1]))
  (Wn:CW MK At [] false (.loop (sub PR 1)) (kS0 es A fs n Do to by') (.exit 2) (kE es A fs Do to by' cut)):(CW MK At [] false (sub PR 0) (xS es A fs n Do to) .ret {t:=DO 65 0 [(8,ab (ay fs)),(9,ab (cH cut)),(10,aT 0)],h:=[],m:=[]}):=by
 have Tv:=(@Wn)
 refine yx [.st (.mask [8,9,10]),.st (.Vw 2 (ay fs)),.st (.Vw 11 (cH cut)),.st (.trim 0)] [.c ((fX [2,3,4] (@hs) ⟨(by exact bd _ _),trivial⟩ ⟨(by exact bd _ _),(by rfl),(by exact bd _ _),trivial⟩):Ev MK At 191 [.ref (.ptr 4 0),aT Do,aT to] (CY es A fs Do to) (.ref (.bY 9 0)) [.var [aT Do],.var [aT to],.bY (al fs) 0 1,.T1,.var [ab (ML Nc es),.ref (.bY 2 0),ab A],.var [.ref (.ptr 4 0)],.var [aT to],.var [.ref (.bY 9 0)],.bY [[aT (-1)]] 0 1,.bY (al by') 0 1]),(?_:TU to (MO (al by'))=true),(?_:@Eq (Option D) (aI MK [.var [aT Do],.var [aT to],.bY (al fs) 0 1,.T1,.var [ab (ML Nc es),.ref (.bY 2 0),ab A],.var [.ref (.ptr 4 0)],.var [aT to],.var [.ref (.bY 9 0)],.bY [[aT (-1)]] 0 1,.bY (al by') 0 1,.var [.ref (.bY 9 0)]] 3 (.ref (.vp 9 0 (MP to) 0))) (some (aT x))),.a1 (.ov 36 (aT x)),.b hg,((by grind):(Zd (0<=n)&&Zd (n<=n)&&Zd (n*(↑1:Int)<=281474976710656)&&Zd (n<=281474976710656))=true),.s [9,12,40,41,42] Tv,(?_:al fs=ML (λx=>ML D.p x) (ay fs)),pr [[aT (-1)]],(?_:ML (Nm (ed 2 0 (ay fs))) (al by')=al by'),(?_:ML (Nm (ed 2 0 (ay fs))) (pj cut)=pj cut),(?_:pj cut=ML (λx=>ML D.p x) (cH cut)),pr [[aT (-1)]],(?_:ML (Nm (ed 11 0 (cH cut))) (al by')=al by')]<;>(first|exact sk h0 hx|exact dy rfl hx|exact sd _|exact Gi _|exact bd _ _|exact Gh _ _)
abbrev xS0(es:List By)(A:List (List Dp))(n Do to:Int):AS:={t:=xT n,h:=[.var [aT Do],.var [aT to],.bY (XU es) 0 1,.T1,.var [ab (es.map Nc),.ref (.bY 2 0),ab A],.var [.ref (.ptr 4 0)]],m:=[]}
theorem flR_eq(es:List By):XU es=al (MU es.length 0):=by simp[XU,al]
theorem xS0_eq{es:List By}{A:List (List Dp)}{n Do to:Int}:xS0 es A n Do to=xS es A (MU es.length 0) n Do to:=by
 unfold xS0 xS xH
 rw[flR_eq]
theorem nn2_a{n:Nat}{es:List By}{Do to:Int}(hn:n<=10000)(hes:es.length<=65536)(TZ:∀x∈es,dQ n x):Ev MK At 190 [aT (n:Int),ab (es.map Nc)] [.var [aT Do],.var [aT to]] (.ref (.ptr 4 0)) [.var [aT Do],.var [aT to],.bY (XU es) 0 1,.T1,.var [ab (es.map Nc),.ref (.bY 2 0),ab (io (iP n es))]]:=by
 have h1:=Ev.ε (nn_ev hn hes TZ) rfl rfl [.var [aT Do],.var [aT to]]
 have e:[iN.bY (XU es) 0 1,.T1,.var [ab (es.map Nc),.ref (.bY 0 0),ab (io (iP n es))]].map (iN.Tz (MD 2))=[.bY (XU es) 0 1,.T1,.var [ab (es.map Nc),.ref (.bY 2 0),ab (io (iP n es))]]:=by
  simp only[List.map_cons,List.map_nil,iN.Tz,CN]
  rfl
 exact Na h1 rfl (by simp_all)
theorem max_a{es:List By}{n:Nat}{Do to:Int}{fs:List Int}{cut:List Bool}
  (hnn:Ev MK At 190 [aT (n:Int),ab (es.map Nc)] [.var [aT Do],.var [aT to]] (.ref (.ptr 4 0)) [.var [aT Do],.var [aT to],.bY (XU es) 0 1,.T1,.var [ab (es.map Nc),.ref (.bY 2 0),ab (io (iP n es))]])
  (hc:∀h,Ev MK At 189 [aT (n:Int),ab (es.map Nc),aT Do,aT to] h (aT 0) h)
  (Wn:CW MK At [] false (.loop (sub PR 0)) (xS0 es (io (iP n es)) (n:Int) Do to) .ret {t:=DO 65 0 [(8,ab (ay fs)),(9,ab (cH cut)),(10,aT 0)],h:=[],m:=[]}) (h:List iN):(Ev MK At 113 [aT (n:Int),ab (es.map Nc),aT Do,aT to] h (.Tt [ab (ay fs),ab (cH cut),aT 0]) h):=by
 have Tv:=(@Wn)
 exact Na (Ev.W9 (y0 (d:=Nt [ab (ay fs),ab (cH cut),aT 0]) [.v (@hc ([.var [aT Do],.var [aT to]])),.e,.c (@hnn),.s [0,6,7,12] Tv] h)) (by rfl) (by rfl)
theorem Lk{es:List By}{n:Nat}{Do to e:Int}(hc:∀h,Ev MK At 189 [aT (n:Int),ab (es.map Nc),aT Do,aT to] h (aT e) h)(he:(e != 0)=true)(h:List iN):(Ev MK At 113 [aT (n:Int),ab (es.map Nc),aT Do,aT to] h (.Tt [ab [],ab [],aT e]) h):=by
 exact Na (Ev.W9 (y0 (d:=Nt [nq,nq,aT e]) [.v (@hc ([.var [aT Do],.var [aT to]])),.b he] h)) (by rfl) (by rfl)
abbrev bs0(n m:Nat)(Do:Int):List Int×QF:=(ξ n m Do,⟨false,0,0,[Do]⟩)
abbrev lsR(es:List By)(fs:List Int)(rs:List Int):Int:=rs.foldl (lsF es fs) 1073741824
abbrev puR(es:List By)(fs:List Int)(rs:List Int):List Int:=rs.foldl (YS (lsR es fs rs)) fs
inductive YO (UT:List (List Int)) (es:List By) (n:Nat) (Do to:Int):Nat->List Int->List Int×List Int->Prop
 | done {fs k f}:Zz UT es fs to k (bs0 n es.length Do) f->f.1.getD to.toNat 0<0->YO UT es n Do to 0 fs (fs,f.1)
 | step {fs k f rs g j}:Zz UT es fs to k (bs0 n es.length Do) f->¬f.1.getD to.toNat 0<0->Path es f.1 Do to rs->YO UT es n Do to j (puR es fs rs) g->YO UT es n Do to (j+1) fs g
def Ae{α:Type}:α⊕α->α
 | .inl s=>s
 | .inr s=>s
theorem Ll(to r u:Int)(s:List Int×QF):(Ae (Y3 to r u s)).1.length=s.1.length:=by
 grind [Ae,Y3]
theorem Lm(es:List By)(fs:List Int)(to r:Int)(s:List Int×QF):(Ae (X0 es fs to r s)).1.length=s.1.length:=by
 unfold X0
 cases Zd (Vx es fs r>0) with
 | true=>exact Ll _ _ _ _
 | false=>rfl
theorem sn{es:List By}{fs:List Int}{to:Int}:∀(B:List Int) (s:List Int×QF),(Ae (Tq (X0 es fs to) B s)).1.length=s.1.length
 | [],s=>rfl
 | r::B,s=>by
  have h1:=Lm es fs to r s
  simp[Tq]
  cases hg:X0 es fs to r s with
  | inl s1 =>
   rw[hg] at h1
   exact(sn B s1).trans h1
  | inr s1 =>
   grind
theorem Zz.len{UT:List (List Int)}{es:List By}{fs:List Int}{to:Int}{k:Nat}{s f:List Int×QF}(h:Zz UT es fs to k s f):f.1.length=s.1.length:=by
 induction h with
 | done _=>rfl
 | stop _ hg =>
  have:=congrArg (λx=>(Ae x).1.length) hg
  simp[sn] at this
  exact this.symm
 | step _ hg _ ih =>
  have:=congrArg (λx=>(Ae x).1.length) hg
  simp[sn] at this
  rw[ih];exact this.symm
def ResL(m:Nat)(A:List (List Int)):Prop:=∀B∈A,∀r∈B,cg m r
theorem ResL.set{m:Nat}{A:List (List Int)}(h:ResL m A){u:Nat}{v:Int}(hv:cg m v):ResL m (A.set u (A.getD u []++[v])):=by
 intro B hB r hr
 rcases List.mem_or_eq_of_mem_set hB with hB|rfl
 ·exact h B hB r hr
 ·rcases Oz.1 hr with hr|hr
  ·by_cases hu:u<A.length
   ·have:A.getD u []=A[u]:=by simp[MT,hu]
    rw[this] at hr
    exact h _ (RZ hu) r hr
   grind
  grind
theorem CZ(m:Nat)(hm:m<=1000000):∀(l:List By) (s:List (List Int)×Int) (i:Nat),s.2=i->i+l.length<=m->ResL m s.1->ResL m (l.foldl jZ s).1
 | [],s,_,_,_,h=>h
 | x::l,s,i,hi,hm2,h=>by
  rw[NI]
  simp at hm2
  have e1:MM.wrap (2*s.2)=2*s.2:=wrap_i64 (by omega) (by omega)
  have e2:MM.wrap (2*s.2+1)=2*s.2+1:=wrap_i64 (by omega) (by omega)
  refine CZ m hm l (jZ s x) (i+1) (by simp[jZ,hi]) (by omega) ?_
  unfold jZ
  rw[e1,e2]
  exact(h.set ⟨by omega,by omega⟩).set ⟨by omega,by omega⟩
theorem mz(n:Nat)(es:List By):(iP n es).length=n:=by unfold iP;rw[wE];simp
theorem wI(n:Nat){es:List By}(hm:es.length<=65536):∀B∈iP n es,(∀r∈B,cg es.length r)/\B.length<=200000:=by
 have h1:ResL es.length (iP n es):=CZ es.length (by omega) es _ 0 rfl (by omega) (λB hB r hr=>by grind)
 have h2:Lim (iP n es) (0+2*es.length):=wF es _ 0 (λj B hB=>by
  grind)
 intro B hB
 refine⟨h1 B hB,?_⟩
 obtain⟨j,hj⟩:=List.getElem?_of_mem hB
 have:=h2 j B hj
 omega
section
variable {es:List By} {n:Nat} {Do to:Int}
theorem Ln(hm:es.length<=65536)(h2:2<=n)(hn:n<=4096)(TZ:∀x∈es,dQ n x)(X1:0<=Do/\Do.toNat<n)(hto:0<=to/\to.toNat<n){j:Nat}{fs:List Int}{g:List Int×List Int}(hl:fs.length=es.length)(hR:YO (iP n es) es n Do to j fs g):
  CW MK At [] false (.loop (sub PR 0)) (xS es (io (iP n es)) fs (n:Int) Do to) .ret {t:=DO 65 0 [(8,ab (ay g.1)),(9,ab (cH (DQ g.2))),(10,aT 0)],h:=[],m:=[]}:=by
 refine CW.loop (ι:={p:Nat×List Int // p.2.length=es.length/\YO (iP n es) es n Do to p.1 p.2 g}) (λp=>xS es (io (iP n es)) p.1.2 (n:Int) Do to) (λ_=>(.ret,{t:=DO 65 0 [(8,ab (ay g.1)),(9,ab (cH (DQ g.2))),(10,aT 0)],h:=[],m:=[]})) (λp=>p.1.1) ?_ ⟨(j,fs),hl,hR⟩
 rintro⟨⟨j,fs⟩,hl,hR⟩
 simp only at hl hR
 cases hR with
 | done hb hx =>
  rename_i k f
  have hlen:f.1.length=n:=by rw[hb.len];simp[ξ]
  have hs:=yy hl hm h2 hn TZ (mz n es) (wI n hm) X1 hb
  have hg:f.1[to.toNat]? = some (f.1.getD to.toNat 0):=by simp[MT,hlen,hto.2]
  have hk:=Lj (es:=es) (A:=io (iP n es)) (fs:=fs) (by':=f.1) (Do:=Do) (to:=to) (by omega)
  rw[<-kS0_eq (n:=(n:Int)) (by simp[hlen])] at hk
  exact .inr ⟨by simp,mx_end hto.1 hg (by simpa using hx) (by omega) (by omega) hs hk⟩
 | step hb hx hp hr =>
  rename_i k f rs j
  have hlen:f.1.length=n:=by rw[hb.len];simp[ξ]
  have hs:=yy hl hm h2 hn TZ (mz n es) (wI n hm) X1 hb
  have hg:f.1[to.toNat]? = some (f.1.getD to.toNat 0):=by simp[MT,hlen,hto.2]
  refine .inl ⟨⟨(j,puR es fs rs),by rw[yA];exact hl,hr⟩,by simp,rfl,?_⟩
  exact Gg (fs2:=puR es fs rs) (l2:=lsR es fs rs) hto.1 hg (by simpa using hx) hs (al_a (Ge hl hm hp)) (al_a (Gf hm hl hp))
theorem Lo(hm:es.length<=65536)(h2:2<=n)(hn:n<=4096)(TZ:∀x∈es,dQ n x)(X1:0<=Do/\Do.toNat<n)(hto:0<=to/\to.toNat<n)
  (hc:∀h,Ev MK At 189 [aT (n:Int),ab (es.map Nc),aT Do,aT to] h (aT 0) h) {j:Nat} {g:List Int×List Int} (hR:YO (iP n es) es n Do to j (MU es.length 0) g) (h:List iN) :
  Ev MK At 113 [aT (n:Int),ab (es.map Nc),aT Do,aT to] h (.Tt [ab (ay g.1),ab (cH (DQ g.2)),aT 0]) h:=by
 refine max_a (nn2_a (by omega) (by omega) TZ) hc ?_ h
 rw[xS0_eq]
 exact Ln hm h2 hn TZ X1 hto (by simp) hR
end
structure YQ (es:List By) (fs:List Int):Prop where
 len:fs.length=es.length
 sz:es.length<=65536
 lo:∀i,i<es.length->0<=fs.getD i 0
 hi:∀i,i<es.length->fs.getD i 0<=(es.getD i ⟨0,0,0⟩).most
 most:∀i,i<es.length->(es.getD i ⟨0,0,0⟩).most<=1073741824
theorem oG{m:Nat}{r:Int}(h:cg m r):∃i:Nat,i<m/\(r=2*(i:Int)\/r=2*(i:Int)+1):=by
 obtain⟨h0,h1⟩:=h
 refine⟨(r / 2).toNat,by omega,?_⟩
 omega
section
variable {es:List By} {fs:List Int} {i:Nat}
theorem ix0(hi:i<100000):Zs (2*(i:Int))=(i:Int):=by
 unfold Zs
 rw[Qm (by omega),wrap_i64 (by omega) (by omega)];omega
theorem ix1(hi:i<100000):Zs (2*(i:Int)+1)=(i:Int):=by
 unfold Zs
 rw[Qm (by omega),wrap_i64 (by omega) (by omega)];omega
theorem tm0:(P0 (2*(i:Int)) 2==0)=true:=by
 grind
theorem tm1:(P0 (2*(i:Int)+1) 2==0)=false:=by
 grind
theorem tn0:(P0 (2*(i:Int)) 2==1)=false:=by
 grind
theorem tn1:(P0 (2*(i:Int)+1) 2==1)=true:=by
 grind
theorem end0(hi:i<100000):fW es (2*(i:Int))=(es.getD i ⟨0,0,0⟩).to:=by
 unfold fW uS exA
 rw[tm0,ix0 hi,Oc]
theorem end1(hi:i<100000):fW es (2*(i:Int)+1)=(es.getD i ⟨0,0,0⟩).Do:=by
 unfold fW uS exA
 rw[tm1,ix1 hi,Oc]
theorem cap1(hi:i<100000):Vx es fs (2*(i:Int)+1)=fs.getD i 0:=by
 unfold Vx eH fA
 rw[tm1,ix1 hi,Oc]
theorem cap0(h:YQ es fs)(hi:i<es.length):Vx es fs (2*(i:Int))=(es.getD i ⟨0,0,0⟩).most-fs.getD i 0:=by
 have h1:=h.lo i hi
 have h2:=h.hi i hi
 have h3:=h.most i hi
 have h4:=h.sz
 unfold Vx eH fA exA
 rw[tm0,ix0 (by omega),Oc]
 exact wrap_i64 (by omega) (by omega)
theorem xr0{m:Nat}(hi:i<m)(hm:m<=1000000):xr (2*(i:Int))=2*(i:Int)+1:=by
 rw[Lf (m:=m) ⟨by omega,by omega⟩ (by omega),if_pos (by omega)]
theorem xr1{m:Nat}(hi:i<m)(hm:m<=1000000):xr (2*(i:Int)+1)=2*(i:Int):=by
 rw[Lf (m:=m) ⟨by omega,by omega⟩ (by omega),if_neg (by omega)];omega
end
def ς(es:List By)(A:List (List Int)):Prop:=∀(v:Nat) (r:Int),r∈A.getD v []->fW es (xr r)=(v:Int)
theorem Gl{A:List (List Int)}{u v:Nat}{B:List Int}:(A.set u B).getD v []=if u=v/\u<A.length then B else A.getD v []:=by
 grind
theorem ς.set{es:List By}{A:List (List Int)}(h:ς es A){u:Nat}{r:Int}(hr:fW es (xr r)=(u:Int)):ς es (A.set u (A.getD u []++[r])):=by
 intro v x hx
 rw[Gl] at hx
 split at hx
 ·rename_i hc
  obtain⟨rfl,_⟩:=hc
  rcases Oz.1 hx with hx|hx
  ·exact h u x hx
  grind
 ·exact h v x hx
theorem C0{es:List By}(hm:es.length<=65536)(n:Nat)(TZ:∀x∈es,dQ n x):∀(l:List By) (s:List (List Int)×Int) (i:Nat),s.2=i->es.drop i=l->ς es s.1->ς es (l.foldl jZ s).1
 | [],s,_,_,_,h=>h
 | x::l,s,i,hi,hd,h=>by
  rw[NI]
  have IN:i<es.length:=by
   have:=congrArg MO hd
   simp only[Ph,N3] at this
   omega
  have hx:es[i]? = some x:=by
   have:=congrArg (λy=>y[0]?) hd
   simpa using this
  have hg:es.getD i ⟨0,0,0⟩=x:=by simp[MT,hx]
  obtain⟨x1,x2,x3,x4⟩:=TZ x (Ny hx)
  have e1:MM.wrap (2*s.2)=2*(i:Int):=by rw[hi];exact wrap_i64 (by omega) (by omega)
  have e2:MM.wrap (2*(i:Int)+1)=2*(i:Int)+1:=wrap_i64 (by omega) (by omega)
  refine C0 hm n TZ l (jZ s x) (i+1) (by simp[jZ,hi]) (by rw[<-Rp,hd];rfl) ?_
  unfold jZ
  rw[e1,e2]
  refine(h.set ?_).set ?_
  ·rw[xr0 IN (by omega),end1 (by omega),hg];omega
  ·rw[xr1 IN (by omega),end0 (by omega),hg];omega
theorem Gm{es:List By}(hm:es.length<=65536){n:Nat}(TZ:∀x∈es,dQ n x):ς es (iP n es):=by
 refine C0 hm n TZ es (MU n [],0) 0 rfl rfl ?_
 intro v r hr
 grind
def muS(s:List Int×QF):Nat:=2*unm s.1+s.2.list.length
theorem usY_mu{n:Nat}{to r u:Int}{s s':List Int×QF}(h:XX n s)(hr:0<=r)(hu:u.toNat<n)(hy:Y3 to r u s=.inl s'):muS s'<=muS s:=by
 unfold Y3 at hy
 split at hy
 ·grind
 ·rename_i hg
  split at hy
  ·cases hy
  ·cases hy
   have h1:=CU (l:=s.1) (by rw[h.len];exact hu) (by simpa using hg) hr
   grind [muS,QF.push,QF.list,Oq,QK]
theorem C1{es:List By}{fs:List Int}{to:Int}{n:Nat}(hm:es.length<=65536)(TZ:∀x∈es,dQ n x):∀(B:List Int) (s s':List Int×QF),(∀r∈B,cg es.length r)->XX n s->Tq (X0 es fs to) B s=.inl s'->muS s'<=muS s
 | [],s,s',_,h,hf=>by cases hf;grind
 | r::B,s,s',hB,h,hf=>by
  simp[Tq] at hf
  have hr:=hB r (by simp)
  have he:=oD hr (by omega) TZ
  split at hf
  ·rename_i s1 h1
   have h2:XX n s1/\muS s1<=muS s:=by
    unfold X0 at h1
    split at h1
    ·exact⟨h.Y3 hr.1 he.1 he.2 h1,usY_mu h hr.1 he.2 h1⟩
    ·grind
   exact Nat.le_trans (C1 hm TZ B s1 s' (λx hx=>hB x (by simp[hx])) h2.1 hf) h2.2
  ·cases hf
theorem HL{es:List By}{fs:List Int}{to:Int}{n:Nat}(hm:es.length<=65536)(TZ:∀x∈es,dQ n x){UT:List (List Int)}(ha:UT.length=n)(hB:∀B∈UT,∀r∈B,cg es.length r):
  ∀(m:Nat) (s:List Int×QF),muS s<m->XX n s->∃k f,Zz UT es fs to k s f
 | 0,s,h,_=>absurd h (Nat.not_lt_zero _)
 | m+1,s,h,hs=>by
  cases hl:s.2.list with
  | nil=>exact⟨0,s,.done hl⟩
  | cons v rest =>
   obtain⟨v0,v1⟩:=hs.mem v (by rw[hl];simp)
   have hr:∀r∈UT.getD v.toNat [],cg es.length r:=by
    have:UT.getD v.toNat []=UT[v.toNat]'(by omega):=by simp[MT,ha,v1]
    rw[this]
    exact hB _ (RZ _)
   cases hf:Tq (X0 es fs to) (UT.getD v.toNat []) (s.1,s.2.pop) with
   | inr f=>exact⟨0,f,.stop hl hf⟩
   | inl s' =>
    have h1:=hs.pop hl
    have h2:=XX.Tq hm TZ _ _ _ hr h1 hf
    have h3:=C1 hm TZ _ _ _ hr h1 hf
    have h4:muS (s.1,s.2.pop)+1=muS s:=by
     simp only[muS,QF.XI hl,hl,N3];omega
    obtain⟨k,f,hb⟩:=HL hm TZ ha hB m s' (by omega) h2
    exact⟨k+1,f,.step hl hf hb⟩
end Go.Vi
