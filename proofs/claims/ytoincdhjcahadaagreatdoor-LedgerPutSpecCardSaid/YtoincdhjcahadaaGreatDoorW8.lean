/- LedgerPutSpec: part of the proof: contracts of the functions that the law reaches, and the law. No conditions beyond the given statement's own. -/
import Derived.Test.YtoincdhjcahadaaGreatDoorW7
import Derived.Test.YtoincdhjcahadaaGreatDoorCards
import Derived.Test.YtoincdhjcahadaaGreatDoorTie
import Derived.WalkKit
import Derived.ProofKit
import Derived.OpenShut
import Derived.Deep.DeepHandedRow
import Derived.Lib.LaidTab
import Derived.LaidHandle
import Derived.LaidLaws
import Derived.LaidSub
import Derived.FnData
open Decidable renaming decide → Qd
open Go.Vi.D renaming p → EK, innL → Eh, tup → Ew, grd → FR, agg → Dy
open List renaming all_eq_true → DK, take → DY, drop → Ep, mem_map → Eb, mem_of_mem_drop → FG, mem_of_mem_take → FH, map → Dh, all_append → Io, length → Dl, all → DU, takeWhile_cons → Hi, getElem?_eq_some_iff → Dq, getElem?_eq_none_iff → GL, drop_eq_nil_of_le → Gg, drop_eq_getElem_cons → F0, mem_cons → DM, mem_of_getElem? → D1, mem_append → DX, take_append_drop → Gc, not_mem_nil → Gr, append_assoc → FA, length_map → Fk, getElem?_eq_getElem → D7, forall_mem_cons → EF, drop_drop → Hc, replicate → En, mapM_cons → IM, map_cons → Fm, mem_filter → Gh
open Int renaming toNat → Dz
open Bool renaming and_eq_true → Dr, true_and → Ey, false_and → Ff, and_false → EU
open Go.Vi.EntT renaming row → Dt
open Go.Vi.MeT renaming row → DA
open Go.Vi.GrT renaming row → Dx
open Go.Vi.BuT renaming row → Dn
open Go.Proofs.Tryz renaming prog → Di, f18 → Hw, f4 → IH, underlying22 → HE
open Go.Exit renaming exit → DV
open Go.Vi.Dp renaming sl → Dw, v → DS
open Go.Value renaming bool → DE, oneCell' → Iu, okWide → Hx
open Option renaming isSome → It, bind_eq_bind → IW, bind_eq_some_iff → FY, map_eq_some_iff → Du
open Go.Operand renaming tmp → DD
open Go.IntKind renaming i64 → Dk
open Go.Vi.Ev renaming glob0 → DL
open Go.Proofs.YtoincdhjcahadaaGreatDoor.Rows renaming laid_errors_errorType → H9, laid_sizar_requests_kinds → Gf
open Option.some renaming injEq → Dj, inj → F4
open Go.DataW renaming trod → GO
open Prod.mk renaming injEq → Dm
open Go.DataW.agg renaming injEq → I7
open Go Go.Proofs
namespace Go.Vi
set_option maxRecDepth 100000
set_option maxHeartbeats 4000000
theorem nS(R:List (List Dp))(n:Nat):(R.map fun x=>x.map EK).all (Eh n)=true:=by
 have h:∀x:List Dp,Eh n (x.map EK)=true:=fun x=>by
  induction x with
  | nil=>rfl
  | cons a x ih=>exact ih
 rw[List.all_map]
 exact DK.2 fun x _=>h x
section
variable {rows:List (List Dp)} {sz p:Nat}
theorem wC{b:Bool}(hp:p≤rows.length)(hz:∀r∈rows,r.length=sz):(d6 0 (p:Int) rows.length&&true&&(true||b)&&rows.all fun r=>Qd (r.length=sz))=true:=by
 have h1:(rows.all fun r=>Qd (r.length=sz))=true:=by rw[DK];intro r hr;exact decide_eq_true (hz r hr)
 rw[h1];simp[d6];omega
theorem wD{b:Bool}(hp:p≤rows.length)(hz:∀r∈rows,r.length=sz):(d6 (p:Int) (rows.length:Int) rows.length&&true&&(true||b)&&rows.all fun r=>Qd (r.length=sz))=true:=by
 have h1:(rows.all fun r=>Qd (r.length=sz))=true:=by rw[DK];intro r hr;exact decide_eq_true (hz r hr)
 rw[h1];simp[d6];omega
theorem zB{a b n k:Nat}(hz:∀r∈rows,rowOk sz (r.map EK)=true)(hn:n*k≤140737488355328)(h2:n≤4611686018427387904):(((DY a (Ep b rows)).map fun x=>x.map EK).all (rowOk sz)&&roomOk n k)=true:=by
 have h1:((DY a (Ep b rows)).map fun x=>x.map EK).all (rowOk sz)=true:=by
  rw[DK]
  intro r hr
  obtain⟨x,hx,rfl⟩:=Eb.1 hr
  exact hz x (FG (FH hx))
 rw[h1];simp[roomOk];omega
theorem wE{x:List Dp}{r:List D}(hr:r=x.map EK):(Dh (fun x=>Dh EK x) (DY (Dz (p:Int) - Dz 0) (Ep (Dz 0) rows))++[r]++Dh (fun x=>Dh EK x) (DY (Dz (rows.length:Int) - Dz (p:Int)) (Ep (Dz (p:Int)) rows)))=Dh (fun x=>Dh EK x) (rows.take p++[x]++rows.drop p):=by
 subst hr
 have e1:Dz (p:Int) - Dz 0=p:=by simp
 have e2:DY (Dz (rows.length:Int) - Dz (p:Int)) (Ep (Dz (p:Int)) rows)=rows.drop p:=by
  rw[List.take_of_length_le (by simp)];simp
 rw[e1,e2]
 simp
end
theorem qJ{R:List (List Dp)}{r:List D}{n:Nat}(hr:Eh n r=true):((R.map fun x=>x.map EK)++[r]).all (Eh n)=true:=by
 have:=nS R n
 rw[Io,Dr]
 exact⟨this,by simp[hr]⟩
theorem wF{R S:List (List Dp)}{r:List D}{n:Nat}(hr:Eh n r=true):((R.map fun x=>x.map EK)++[r]++S.map fun x=>x.map EK).all (Eh n)=true:=by
 have:=nS S n
 rw[Io,Dr]
 exact⟨qJ hr,this⟩
theorem nT(l:List EntT):∀r∈l.map Dt,r.length=31:=by intro r hr;obtain⟨x,_,rfl⟩:=Eb.1 hr;rfl
theorem wG(l:List EntT):∀r∈l.map Dt,rowOk 31 (r.map EK)=true:=by intro r hr;obtain⟨x,_,rfl⟩:=Eb.1 hr;rfl
def f9(l:List EntT)(n:EntT)(k:Nat):List EntT:=l.take k++[n]++l.drop k
theorem pO(l:List EntT)(n:EntT)(k:Nat):(f9 l n k).map Dt=(l.map Dt).take k++[n.row]++(l.map Dt).drop k:=by simp[f9,List.map_take,List.map_drop]
noncomputable abbrev sI(n:EntT):List Blk:=[.var [int n.time,int n.campus,int n.no,int n.kind,int n.stu,int n.obj,int n.term,int n.val,int n.frm,int n.til,ax n.text,int n.sec.id,int n.sec.course,int n.sec.term,int n.sec.campus,int n.sec.seats,aa (Dh DA n.sec.mts),aa (Dh Dx n.sec.grs),aa (Dh ab n.sec.labs),bool n.sec.lab,int n.req.campus,int n.req.no,int n.req.st,int n.req.kind,int n.req.time,aa (Dh Dn n.req.chs),int n.req.gsec,int n.req.glab,int n.req.key,int n.r,int n.s]]
theorem rp_c2{L:List (List Dp)}{n:EntT}{e:Int}(hck:∀h,Ev Di Γ0 13 [aa L] h (int 0) h)(hcn:∀h,Ev Di Γ0 28 [ag n.row] h (int e) h)(he:(e != 0)=true)(h:List Blk):(Ev Di Γ0 18 [aa L,ag n.row] h (.tup [nq,int 0,int e]) h):=by
 exact z0 [.val (int 0),.b false,.val (int e),.b true] (.c (@hck (sI n)) (.c (show(0 != 0)=false from rfl) (.c (@hcn (sI n)) (.c he .n)))) h
noncomputable abbrev jP(n:EntT):List Blk:=[.var [int n.time,int n.campus,int n.no,int n.kind,int n.stu,int n.obj,int n.term,int n.val,int n.frm,int n.til,ax n.text,int n.sec.id,int n.sec.course,int n.sec.term,int n.sec.campus,int n.sec.seats,aa (Dh DA n.sec.mts),aa (Dh Dx n.sec.grs),aa (Dh ab n.sec.labs),bool n.sec.lab,int n.req.campus,int n.req.no,int n.req.st,int n.req.kind,int n.req.time,aa (Dh Dn n.req.chs),int n.req.gsec,int n.req.glab,int n.req.key,int n.r,int n.s]]
theorem rp_eq{L:List (List Dp)}{n e:EntT}{k:Nat}(hck:∀h,Ev Di Γ0 13 [aa L] h (int 0) h)(hcn:∀h,Ev Di Γ0 28 [ag n.row] h (int 0) h)(hl:CW Di Γ0 [] false (.loop (sub Hw 0)) (rpS L n 0) (.exit 0) (rpS L n k))(hr:ad (k:Int) L e.row 31)(hcd2:(Qd ((k:Int)<(L.length:Int))&&(e.time==n.time&&(e.campus==n.campus&&(e.no==n.no&&true))))=true)(hsm:∀h,Ev Di Γ0 37 [ag e.row,ag n.row] h (bool true) h)(h:List Blk):(Ev Di Γ0 18 [aa L,ag n.row] h (.tup [aa L,int (k:Int),int 0]) h):=by
 have hl0:=(@hl)
 let v0:=Dh DA e.sec.mts
 let v1:=Dh Dx e.sec.grs
 let v2:=Dh ab e.sec.labs
 let v3:=Dh Dn e.req.chs
 exact z0 [.val (int 0),.b false,.val (int 0),.b false,.sum [0,3,4,5,6,8] (DV 0) {t:=mkT 80 0 [(0,aa L),(3,.ref (.ptr 0 0)),(4,nq),(5,int 0),(6,int 0),(8,int (↑k:Int))],h:=(jP n),m:=[]},.row [vi e.time,vi e.campus,vi e.no,vi e.kind,vi e.stu,vi e.obj,vi e.term,vi e.val,vi e.frm,vi e.til,vs e.text,vi e.sec.id,vi e.sec.course,vi e.sec.term,vi e.sec.campus,vi e.sec.seats,Dw v0,Dw v1,Dw v2,DS (DE e.sec.lab),vi e.req.campus,vi e.req.no,vi e.req.st,vi e.req.kind,vi e.req.time,Dw v3,vi e.req.gsec,vi e.req.glab,vi e.req.key,vi e.r,vi e.s],.b true,.row [vi e.time,vi e.campus,vi e.no,vi e.kind,vi e.stu,vi e.obj,vi e.term,vi e.val,vi e.frm,vi e.til,vs e.text,vi e.sec.id,vi e.sec.course,vi e.sec.term,vi e.sec.campus,vi e.sec.seats,Dw v0,Dw v1,Dw v2,DS (DE e.sec.lab),vi e.req.campus,vi e.req.no,vi e.req.st,vi e.req.kind,vi e.req.time,Dw v3,vi e.req.gsec,vi e.req.glab,vi e.req.key,vi e.r,vi e.s],.val (bool true),.b true] (.c (@hck (jP n)) (.c (show(0 != 0)=false from rfl) (.c (@hcn (jP n)) (.c (show(0 != 0)=false from rfl) (.c hl0 (.c (show Qd ((↑k:Int)<(↑(Dl L):Int))=true→ad (↑k:Int) L [vi e.time,vi e.campus,vi e.no,vi e.kind,vi e.stu,vi e.obj,vi e.term,vi e.val,vi e.frm,vi e.til,vs e.text,vi e.sec.id,vi e.sec.course,vi e.sec.term,vi e.sec.campus,vi e.sec.seats,Dw v0,Dw v1,Dw v2,DS (DE e.sec.lab),vi e.req.campus,vi e.req.no,vi e.req.st,vi e.req.kind,vi e.req.time,Dw v3,vi e.req.gsec,vi e.req.glab,vi e.req.key,vi e.r,vi e.s] 31 from(fun hg=>hr)) (.c hcd2 (.c hr (.c (@hsm (jP n)) (.er true .n)))))))))) h
noncomputable abbrev jQ(n:EntT):List Blk:=[.var [int n.time,int n.campus,int n.no,int n.kind,int n.stu,int n.obj,int n.term,int n.val,int n.frm,int n.til,ax n.text,int n.sec.id,int n.sec.course,int n.sec.term,int n.sec.campus,int n.sec.seats,aa (Dh DA n.sec.mts),aa (Dh Dx n.sec.grs),aa (Dh ab n.sec.labs),bool n.sec.lab,int n.req.campus,int n.req.no,int n.req.st,int n.req.kind,int n.req.time,aa (Dh Dn n.req.chs),int n.req.gsec,int n.req.glab,int n.req.key,int n.r,int n.s]]
theorem rp_cf{L:List (List Dp)}{n e:EntT}{k:Nat}(hck:∀h,Ev Di Γ0 13 [aa L] h (int 0) h)(hcn:∀h,Ev Di Γ0 28 [ag n.row] h (int 0) h)(hl:CW Di Γ0 [] false (.loop (sub Hw 0)) (rpS L n 0) (.exit 0) (rpS L n k))(hr:ad (k:Int) L e.row 31)(hcd2:(Qd ((k:Int)<(L.length:Int))&&(e.time==n.time&&(e.campus==n.campus&&(e.no==n.no&&true))))=true)(hsm:∀h,Ev Di Γ0 37 [ag e.row,ag n.row] h (bool false) h)(h:List Blk):(Ev Di Γ0 18 [aa L,ag n.row] h (.tup [nq,int 0,int 390]) h):=by
 have hl0:=(@hl)
 let v0:=Dh DA e.sec.mts
 let v1:=Dh Dx e.sec.grs
 let v2:=Dh ab e.sec.labs
 let v3:=Dh Dn e.req.chs
 exact z0 [.val (int 0),.b false,.val (int 0),.b false,.sum [0,3,4,5,6,8] (DV 0) {t:=mkT 80 0 [(0,aa L),(3,.ref (.ptr 0 0)),(4,nq),(5,int 0),(6,int 0),(8,int (↑k:Int))],h:=(jQ n),m:=[]},.row [vi e.time,vi e.campus,vi e.no,vi e.kind,vi e.stu,vi e.obj,vi e.term,vi e.val,vi e.frm,vi e.til,vs e.text,vi e.sec.id,vi e.sec.course,vi e.sec.term,vi e.sec.campus,vi e.sec.seats,Dw v0,Dw v1,Dw v2,DS (DE e.sec.lab),vi e.req.campus,vi e.req.no,vi e.req.st,vi e.req.kind,vi e.req.time,Dw v3,vi e.req.gsec,vi e.req.glab,vi e.req.key,vi e.r,vi e.s],.b true,.row [vi e.time,vi e.campus,vi e.no,vi e.kind,vi e.stu,vi e.obj,vi e.term,vi e.val,vi e.frm,vi e.til,vs e.text,vi e.sec.id,vi e.sec.course,vi e.sec.term,vi e.sec.campus,vi e.sec.seats,Dw v0,Dw v1,Dw v2,DS (DE e.sec.lab),vi e.req.campus,vi e.req.no,vi e.req.st,vi e.req.kind,vi e.req.time,Dw v3,vi e.req.gsec,vi e.req.glab,vi e.req.key,vi e.r,vi e.s],.val (bool false),.b false] (.c (@hck (jQ n)) (.c (show(0 != 0)=false from rfl) (.c (@hcn (jQ n)) (.c (show(0 != 0)=false from rfl) (.c hl0 (.c (show Qd ((↑k:Int)<(↑(Dl L):Int))=true→ad (↑k:Int) L [vi e.time,vi e.campus,vi e.no,vi e.kind,vi e.stu,vi e.obj,vi e.term,vi e.val,vi e.frm,vi e.til,vs e.text,vi e.sec.id,vi e.sec.course,vi e.sec.term,vi e.sec.campus,vi e.sec.seats,Dw v0,Dw v1,Dw v2,DS (DE e.sec.lab),vi e.req.campus,vi e.req.no,vi e.req.st,vi e.req.kind,vi e.req.time,Dw v3,vi e.req.gsec,vi e.req.glab,vi e.req.key,vi e.r,vi e.s] 31 from(fun hg=>hr)) (.c hcd2 (.c hr (.c (@hsm (jQ n)) (.er false .n)))))))))) h
noncomputable abbrev wH(n:EntT):List Blk:=[.var [int n.time,int n.campus,int n.no,int n.kind,int n.stu,int n.obj,int n.term,int n.val,int n.frm,int n.til,ax n.text,int n.sec.id,int n.sec.course,int n.sec.term,int n.sec.campus,int n.sec.seats,aa (Dh DA n.sec.mts),aa (Dh Dx n.sec.grs),aa (Dh ab n.sec.labs),bool n.sec.lab,int n.req.campus,int n.req.no,int n.req.st,int n.req.kind,int n.req.time,aa (Dh Dn n.req.chs),int n.req.gsec,int n.req.glab,int n.req.key,int n.r,int n.s],.gone,.vec [[int n.time,int n.campus,int n.no,int n.kind,int n.stu,int n.obj,int n.term,int n.val,int n.frm,int n.til,ax n.text,int n.sec.id,int n.sec.course,int n.sec.term,int n.sec.campus,int n.sec.seats,aa (Dh DA n.sec.mts),aa (Dh Dx n.sec.grs),aa (Dh ab n.sec.labs),bool n.sec.lab,int n.req.campus,int n.req.no,int n.req.st,int n.req.kind,int n.req.time,aa (Dh Dn n.req.chs),int n.req.gsec,int n.req.glab,int n.req.key,int n.r,int n.s]] 0 31]
noncomputable abbrev qK(n:EntT):List Blk:=[.var [int n.time,int n.campus,int n.no,int n.kind,int n.stu,int n.obj,int n.term,int n.val,int n.frm,int n.til,ax n.text,int n.sec.id,int n.sec.course,int n.sec.term,int n.sec.campus,int n.sec.seats,aa (Dh DA n.sec.mts),aa (Dh Dx n.sec.grs),aa (Dh ab n.sec.labs),bool n.sec.lab,int n.req.campus,int n.req.no,int n.req.st,int n.req.kind,int n.req.time,aa (Dh Dn n.req.chs),int n.req.gsec,int n.req.glab,int n.req.key,int n.r,int n.s]]
theorem rp_n{l:List EntT}{n e:EntT}{k:Nat}(hck:∀h,Ev Di Γ0 13 [aa (l.map Dt)] h (int 0) h)(hcn:∀h,Ev Di Γ0 28 [ag n.row] h (int 0) h)(hl:CW Di Γ0 [] false (.loop (sub Hw 0)) (rpS (l.map Dt) n 0) (.exit 0) (rpS (l.map Dt) n k))(hb:l.length≤1000000)(hp:k≤(l.map Dt).length)(hr:Qd ((k:Int)<((l.map Dt).length:Int))=true→ad (k:Int) (l.map Dt) e.row 31)(hcd2:(Qd ((k:Int)<((l.map Dt).length:Int))&&(e.time==n.time&&(e.campus==n.campus&&(e.no==n.no&&true))))=false)(hft:∀h,Ev Di Γ0 29 [aa ((f9 l n k).map Dt)] h (bool false) h):(Ev Di Γ0 18 [aa (l.map Dt),ag n.row] [] (.tup [nq,int 0,int 390]) []):=by
 have hl0:=(@hl)
 let v0:List D:=[int n.time,int n.campus,int n.no,int n.kind,int n.stu,int n.obj,int n.term,int n.val,int n.frm,int n.til,ax n.text,int n.sec.id,int n.sec.course,int n.sec.term,int n.sec.campus,int n.sec.seats,aa (Dh DA n.sec.mts),aa (Dh Dx n.sec.grs),aa (Dh ab n.sec.labs),bool n.sec.lab,int n.req.campus,int n.req.no,int n.req.st,int n.req.kind,int n.req.time,aa (Dh Dn n.req.chs),int n.req.gsec,int n.req.glab,int n.req.key,int n.r,int n.s]
 let v1:=Dl (Dh Dt l)
 let v3:=Ep (Dz 0) (Dh Dt l)
 let v4:=Dh DA e.sec.mts
 let v5:=Dh Dx e.sec.grs
 let v6:=Dh ab e.sec.labs
 let v7:=Dh Dn e.req.chs
 let v2:=D.ep [vi e.time,vi e.campus,vi e.no,vi e.kind,vi e.stu,vi e.obj,vi e.term,vi e.val,vi e.frm,vi e.til,vs e.text,vi e.sec.id,vi e.sec.course,vi e.sec.term,vi e.sec.campus,vi e.sec.seats,Dw v4,Dw v5,Dw v6,DS (DE e.sec.lab),vi e.req.campus,vi e.req.no,vi e.req.st,vi e.req.kind,vi e.req.time,Dw v7,vi e.req.gsec,vi e.req.glab,vi e.req.key,vi e.r,vi e.s]
 refine Ev.castH (Ev.post (d2:=Ew [nq,int 0,int 390]) (h2:=[]) (φ:=[]) [.st (.trim 0)] (Ev.of_sym (h':=(wH n)) (d:=Ew [nq,int 0,int 390]) pok [.val (int 0),.b false,.val (int 0),.b false,.sum [0,3,4,5,6,8] (DV 0) {t:=mkT 80 0 [(0,aa (Dh Dt l)),(3,.ref (.ptr 0 0)),(4,nq),(5,int 0),(6,int 0),(8,int (↑k:Int))],h:=(qK n),m:=[]},.row [vi e.time,vi e.campus,vi e.no,vi e.kind,vi e.stu,vi e.obj,vi e.term,vi e.val,vi e.frm,vi e.til,vs e.text,vi e.sec.id,vi e.sec.course,vi e.sec.term,vi e.sec.campus,vi e.sec.seats,Dw v4,Dw v5,Dw v6,DS (DE e.sec.lab),vi e.req.campus,vi e.req.no,vi e.req.st,vi e.req.kind,vi e.req.time,Dw v7,vi e.req.gsec,vi e.req.glab,vi e.req.key,vi e.r,vi e.s],.b false,.lateO,.nx 1,.st (.frz 1 (Dh Dt (f9 l n k))),.val (bool false),.b true] (by kernel_rfl) (.c (@hck (qK n)) (.c (show(0 != 0)=false from rfl) (.c (@hcn (qK n)) (.c (show(0 != 0)=false from rfl) (.c hl0 (.c (show Qd ((↑k:Int)<(↑v1:Int))=true→ad (↑k:Int) (Dh Dt l) [vi e.time,vi e.campus,vi e.no,vi e.kind,vi e.stu,vi e.obj,vi e.term,vi e.val,vi e.frm,vi e.til,vs e.text,vi e.sec.id,vi e.sec.course,vi e.sec.term,vi e.sec.campus,vi e.sec.seats,Dw v4,Dw v5,Dw v6,DS (DE e.sec.lab),vi e.req.campus,vi e.req.no,vi e.req.st,vi e.req.kind,vi e.req.time,Dw v7,vi e.req.gsec,vi e.req.glab,vi e.req.key,vi e.r,vi e.s] 31 from(fun hg=>(hr (by subst v0 v1 v3 v4 v5 v6 v7 v2;first|exact hg|(simp at hg;done)|(simp_all;done))))) (.c hcd2 (.c (show(d6 0 (↑k:Int) v1&&true&&(true||It (Option.map (evalD Γ0 (mkT 80 0 [(0,aa (Dh Dt l)),(3,.ref (.ptr 0 0)),(4,nq),(5,int 0),(6,int 0),(8,int (↑k:Int)),(37,int (↑k:Int)),(38,aa (Dh Dt l)),(39,int (↑v1:Int)),(40,bool (Qd ((↑k:Int)<(↑v1:Int)))),(41,bool (Qd ((↑k:Int)<(↑v1:Int)))),(42,FR (Qd ((↑k:Int)<(↑v1:Int))) (aa (Dh Dt l))),(43,FR (Qd ((↑k:Int)<(↑v1:Int))) (int (↑k:Int))),(44,FR (Qd ((↑k:Int)<(↑v1:Int))) v2),(45,FR (Qd ((↑k:Int)<(↑v1:Int))) v2),(46,FR (Qd ((↑k:Int)<(↑v1:Int))) (Dy [int e.time,int e.campus,int e.no])),(47,FR (Qd ((↑k:Int)<(↑v1:Int))) (.ref (.ptr 0 0))),(48,FR (Qd ((↑k:Int)<(↑v1:Int))) (Dy [int n.time,int n.campus,int n.no])),(49,FR (Qd ((↑k:Int)<(↑v1:Int))) (bool (e.time==n.time&&(e.campus==n.campus&&(e.no==n.no&&true))))),(50,bool (Qd ((↑k:Int)<(↑v1:Int))&&(e.time==n.time&&(e.campus==n.campus&&(e.no==n.no&&true))))),(60,aa (Dh Dt l)),(61,int (↑k:Int))])) (some (DD 61))))&&DU (Dh Dt l) fun r=>Qd (Dl r=31))=true from ?_) (.c (show(DU (Dh (fun x=>Dh EK x) (DY (Dz (↑k:Int) - Dz 0) v3)) (rowOk 31)&&roomOk (Dl ([]:List (List D))+Dl (Dh (fun x=>Dh EK x) (DY (Dz (↑k:Int) - Dz 0) v3))) 320)=true from ?_) (.c (show(DU [v0] (rowOk 31)&&roomOk (Dl (Dh (fun x=>Dh EK x) (DY (Dz (↑k:Int) - Dz 0) v3))+Dl [v0]) 320)=true from ?_) (.c (show DU [] (Eh 1)=true from rfl) (.c (show DU [] (Eh 2)=true from rfl) (.c (show DU [] (Eh 2)=true from rfl) (.c (show DU (Dh (fun x=>Dh EK x) (DY (Dz (↑k:Int) - Dz 0) v3)) (Eh 2)=true from ?_) (.c (show DU [] (Eh 2)=true from rfl) (.c (show DU (Dh (fun x=>Dh EK x) (DY (Dz (↑k:Int) - Dz 0) v3)) (Eh 3)=true from ?_) (.c (show DU [v0] (Eh 3)=true from rfl) (.c (show DU [] (Eh 3)=true from rfl) (.c (show DU (Dh (fun x=>Dh EK x) (DY (Dz (↑k:Int) - Dz 0) v3)++[v0]) (Eh 3)=true from ?_) (.c (show DU [v0] (Eh 3)=true from rfl) (.c (show DU [] (Eh 3)=true from rfl) (.c (show DU [v0] (Eh 1)=true from rfl) (.c (show DU [] (Eh 2)=true from rfl) (.c (show DU [v0] (Eh 2)=true from rfl) (.c (show DU (Dh (fun x=>Dh EK x) (DY (Dz (↑k:Int) - Dz 0) v3)) (Eh 2)=true from ?_) (.c (show DU [v0] (Eh 2)=true from rfl) (.c (show DU (Dh (fun x=>Dh EK x) (DY (Dz (↑k:Int) - Dz 0) v3)) (Eh 3)=true from ?_) (.c (show DU [v0] (Eh 3)=true from rfl) (.c (show DU [v0] (Eh 3)=true from rfl) (.c (show DU (Dh (fun x=>Dh EK x) (DY (Dz (↑k:Int) - Dz 0) v3)++[v0]) (Eh 3)=true from ?_) (.c (show DU [v0] (Eh 3)=true from rfl) (.c (show DU [v0] (Eh 3)=true from rfl) (.e (Dy v0) (.e (Dy v0) (.e (Dy v0) (.c (show(d6 (↑k:Int) (↑v1:Int) v1&&true&&(true||false)&&DU (Dh Dt l) fun r=>Qd (Dl r=31))=true from ?_) (.c (show(DU (Dh (fun x=>Dh EK x) (DY (Dz (↑v1:Int) - Dz (↑k:Int)) (Ep (Dz (↑k:Int)) (Dh Dt l)))) (rowOk 31)&&roomOk (Dl (Dh (fun x=>Dh EK x) (DY (Dz (↑k:Int) - Dz 0) v3)++[v0])+Dl (Dh (fun x=>Dh EK x) (DY (Dz (↑v1:Int) - Dz (↑k:Int)) (Ep (Dz (↑k:Int)) (Dh Dt l))))) 320)=true from ?_) (.c (show Dh (fun x=>Dh EK x) (DY (Dz (↑k:Int) - Dz 0) v3)++[v0]++Dh (fun x=>Dh EK x) (DY (Dz (↑v1:Int) - Dz (↑k:Int)) (Ep (Dz (↑k:Int)) (Dh Dt l)))=Dh (fun x=>Dh EK x) (Dh Dt (f9 l n k)) from ?_) (.er [v0] (.c (@hft (wH n)) (.c (show(!false)=true from rfl) .n)))))))))))))))))))))))))))))))))))))))))) (by kernel_rfl) trivial) (by rfl) (by rfl)<;>subst v0 v1 v3 v4 v5 v6 v7 v2<;>(first|assumption|rfl|exact qJ rfl|exact wF rfl|exact wC hp (nT _)|exact wD hp (nT _)|(refine zB (wG _) ?_ ?_<;>simp at hp ⊢ <;> omega)|(rw[pO];exact wE rfl)|(simp[rowOk,D.one,Iu,roomOk];omega)|exact nS _ _|(simp;done))
noncomputable abbrev wI(n:EntT):List Blk:=[.var [int n.time,int n.campus,int n.no,int n.kind,int n.stu,int n.obj,int n.term,int n.val,int n.frm,int n.til,ax n.text,int n.sec.id,int n.sec.course,int n.sec.term,int n.sec.campus,int n.sec.seats,aa (Dh DA n.sec.mts),aa (Dh Dx n.sec.grs),aa (Dh ab n.sec.labs),bool n.sec.lab,int n.req.campus,int n.req.no,int n.req.st,int n.req.kind,int n.req.time,aa (Dh Dn n.req.chs),int n.req.gsec,int n.req.glab,int n.req.key,int n.r,int n.s],.gone,.vec [[int n.time,int n.campus,int n.no,int n.kind,int n.stu,int n.obj,int n.term,int n.val,int n.frm,int n.til,ax n.text,int n.sec.id,int n.sec.course,int n.sec.term,int n.sec.campus,int n.sec.seats,aa (Dh DA n.sec.mts),aa (Dh Dx n.sec.grs),aa (Dh ab n.sec.labs),bool n.sec.lab,int n.req.campus,int n.req.no,int n.req.st,int n.req.kind,int n.req.time,aa (Dh Dn n.req.chs),int n.req.gsec,int n.req.glab,int n.req.key,int n.r,int n.s]] 0 31]
noncomputable abbrev qL(n:EntT):List Blk:=[.var [int n.time,int n.campus,int n.no,int n.kind,int n.stu,int n.obj,int n.term,int n.val,int n.frm,int n.til,ax n.text,int n.sec.id,int n.sec.course,int n.sec.term,int n.sec.campus,int n.sec.seats,aa (Dh DA n.sec.mts),aa (Dh Dx n.sec.grs),aa (Dh ab n.sec.labs),bool n.sec.lab,int n.req.campus,int n.req.no,int n.req.st,int n.req.kind,int n.req.time,aa (Dh Dn n.req.chs),int n.req.gsec,int n.req.glab,int n.req.key,int n.r,int n.s]]
theorem rp_o{l:List EntT}{n e:EntT}{k:Nat}(hck:∀h,Ev Di Γ0 13 [aa (l.map Dt)] h (int 0) h)(hcn:∀h,Ev Di Γ0 28 [ag n.row] h (int 0) h)(hl:CW Di Γ0 [] false (.loop (sub Hw 0)) (rpS (l.map Dt) n 0) (.exit 0) (rpS (l.map Dt) n k))(hb:l.length≤1000000)(hp:k≤(l.map Dt).length)(hr:Qd ((k:Int)<((l.map Dt).length:Int))=true→ad (k:Int) (l.map Dt) e.row 31)(hcd2:(Qd ((k:Int)<((l.map Dt).length:Int))&&(e.time==n.time&&(e.campus==n.campus&&(e.no==n.no&&true))))=false)(hft:∀h,Ev Di Γ0 29 [aa ((f9 l n k).map Dt)] h (bool true) h)(hbig:Qd ((((f9 l n k).map Dt).length:Int)>65536)=false):(Ev Di Γ0 18 [aa (l.map Dt),ag n.row] [] (.tup [aa ((f9 l n k).map Dt),int (k:Int),int 0]) []):=by
 have hl0:=(@hl)
 let v0:List D:=[int n.time,int n.campus,int n.no,int n.kind,int n.stu,int n.obj,int n.term,int n.val,int n.frm,int n.til,ax n.text,int n.sec.id,int n.sec.course,int n.sec.term,int n.sec.campus,int n.sec.seats,aa (Dh DA n.sec.mts),aa (Dh Dx n.sec.grs),aa (Dh ab n.sec.labs),bool n.sec.lab,int n.req.campus,int n.req.no,int n.req.st,int n.req.kind,int n.req.time,aa (Dh Dn n.req.chs),int n.req.gsec,int n.req.glab,int n.req.key,int n.r,int n.s]
 let v1:=Dl (Dh Dt l)
 let v3:=Ep (Dz 0) (Dh Dt l)
 let v4:=Dh Dt (f9 l n k)
 let v5:=Dh DA e.sec.mts
 let v6:=Dh Dx e.sec.grs
 let v7:=Dh ab e.sec.labs
 let v8:=Dh Dn e.req.chs
 let v2:=D.ep [vi e.time,vi e.campus,vi e.no,vi e.kind,vi e.stu,vi e.obj,vi e.term,vi e.val,vi e.frm,vi e.til,vs e.text,vi e.sec.id,vi e.sec.course,vi e.sec.term,vi e.sec.campus,vi e.sec.seats,Dw v5,Dw v6,Dw v7,DS (DE e.sec.lab),vi e.req.campus,vi e.req.no,vi e.req.st,vi e.req.kind,vi e.req.time,Dw v8,vi e.req.gsec,vi e.req.glab,vi e.req.key,vi e.r,vi e.s]
 refine Ev.castH (Ev.post (d2:=Ew [aa v4,int (↑k:Int),int 0]) (h2:=[]) (φ:=[]) [.st (.trim 0)] (Ev.of_sym (h':=(wI n)) (d:=Ew [aa v4,int (↑k:Int),int 0]) pok [.val (int 0),.b false,.val (int 0),.b false,.sum [0,3,4,5,6,8] (DV 0) {t:=mkT 80 0 [(0,aa (Dh Dt l)),(3,.ref (.ptr 0 0)),(4,nq),(5,int 0),(6,int 0),(8,int (↑k:Int))],h:=(qL n),m:=[]},.row [vi e.time,vi e.campus,vi e.no,vi e.kind,vi e.stu,vi e.obj,vi e.term,vi e.val,vi e.frm,vi e.til,vs e.text,vi e.sec.id,vi e.sec.course,vi e.sec.term,vi e.sec.campus,vi e.sec.seats,Dw v5,Dw v6,Dw v7,DS (DE e.sec.lab),vi e.req.campus,vi e.req.no,vi e.req.st,vi e.req.kind,vi e.req.time,Dw v8,vi e.req.gsec,vi e.req.glab,vi e.req.key,vi e.r,vi e.s],.b false,.lateO,.nx 1,.st (.frz 1 v4),.val (bool true),.b false,.b false] (by kernel_rfl) (.c (@hck (qL n)) (.c (show(0 != 0)=false from rfl) (.c (@hcn (qL n)) (.c (show(0 != 0)=false from rfl) (.c hl0 (.c (show Qd ((↑k:Int)<(↑v1:Int))=true→ad (↑k:Int) (Dh Dt l) [vi e.time,vi e.campus,vi e.no,vi e.kind,vi e.stu,vi e.obj,vi e.term,vi e.val,vi e.frm,vi e.til,vs e.text,vi e.sec.id,vi e.sec.course,vi e.sec.term,vi e.sec.campus,vi e.sec.seats,Dw v5,Dw v6,Dw v7,DS (DE e.sec.lab),vi e.req.campus,vi e.req.no,vi e.req.st,vi e.req.kind,vi e.req.time,Dw v8,vi e.req.gsec,vi e.req.glab,vi e.req.key,vi e.r,vi e.s] 31 from(fun hg=>(hr (by subst v0 v1 v3 v4 v5 v6 v7 v8 v2;first|exact hg|(simp at hg;done)|(simp_all;done))))) (.c hcd2 (.c (show(d6 0 (↑k:Int) v1&&true&&(true||It (Option.map (evalD Γ0 (mkT 80 0 [(0,aa (Dh Dt l)),(3,.ref (.ptr 0 0)),(4,nq),(5,int 0),(6,int 0),(8,int (↑k:Int)),(37,int (↑k:Int)),(38,aa (Dh Dt l)),(39,int (↑v1:Int)),(40,bool (Qd ((↑k:Int)<(↑v1:Int)))),(41,bool (Qd ((↑k:Int)<(↑v1:Int)))),(42,FR (Qd ((↑k:Int)<(↑v1:Int))) (aa (Dh Dt l))),(43,FR (Qd ((↑k:Int)<(↑v1:Int))) (int (↑k:Int))),(44,FR (Qd ((↑k:Int)<(↑v1:Int))) v2),(45,FR (Qd ((↑k:Int)<(↑v1:Int))) v2),(46,FR (Qd ((↑k:Int)<(↑v1:Int))) (Dy [int e.time,int e.campus,int e.no])),(47,FR (Qd ((↑k:Int)<(↑v1:Int))) (.ref (.ptr 0 0))),(48,FR (Qd ((↑k:Int)<(↑v1:Int))) (Dy [int n.time,int n.campus,int n.no])),(49,FR (Qd ((↑k:Int)<(↑v1:Int))) (bool (e.time==n.time&&(e.campus==n.campus&&(e.no==n.no&&true))))),(50,bool (Qd ((↑k:Int)<(↑v1:Int))&&(e.time==n.time&&(e.campus==n.campus&&(e.no==n.no&&true))))),(60,aa (Dh Dt l)),(61,int (↑k:Int))])) (some (DD 61))))&&DU (Dh Dt l) fun r=>Qd (Dl r=31))=true from ?_) (.c (show(DU (Dh (fun x=>Dh EK x) (DY (Dz (↑k:Int) - Dz 0) v3)) (rowOk 31)&&roomOk (Dl ([]:List (List D))+Dl (Dh (fun x=>Dh EK x) (DY (Dz (↑k:Int) - Dz 0) v3))) 320)=true from ?_) (.c (show(DU [v0] (rowOk 31)&&roomOk (Dl (Dh (fun x=>Dh EK x) (DY (Dz (↑k:Int) - Dz 0) v3))+Dl [v0]) 320)=true from ?_) (.c (show DU [] (Eh 1)=true from rfl) (.c (show DU [] (Eh 2)=true from rfl) (.c (show DU [] (Eh 2)=true from rfl) (.c (show DU (Dh (fun x=>Dh EK x) (DY (Dz (↑k:Int) - Dz 0) v3)) (Eh 2)=true from ?_) (.c (show DU [] (Eh 2)=true from rfl) (.c (show DU (Dh (fun x=>Dh EK x) (DY (Dz (↑k:Int) - Dz 0) v3)) (Eh 3)=true from ?_) (.c (show DU [v0] (Eh 3)=true from rfl) (.c (show DU [] (Eh 3)=true from rfl) (.c (show DU (Dh (fun x=>Dh EK x) (DY (Dz (↑k:Int) - Dz 0) v3)++[v0]) (Eh 3)=true from ?_) (.c (show DU [v0] (Eh 3)=true from rfl) (.c (show DU [] (Eh 3)=true from rfl) (.c (show DU [v0] (Eh 1)=true from rfl) (.c (show DU [] (Eh 2)=true from rfl) (.c (show DU [v0] (Eh 2)=true from rfl) (.c (show DU (Dh (fun x=>Dh EK x) (DY (Dz (↑k:Int) - Dz 0) v3)) (Eh 2)=true from ?_) (.c (show DU [v0] (Eh 2)=true from rfl) (.c (show DU (Dh (fun x=>Dh EK x) (DY (Dz (↑k:Int) - Dz 0) v3)) (Eh 3)=true from ?_) (.c (show DU [v0] (Eh 3)=true from rfl) (.c (show DU [v0] (Eh 3)=true from rfl) (.c (show DU (Dh (fun x=>Dh EK x) (DY (Dz (↑k:Int) - Dz 0) v3)++[v0]) (Eh 3)=true from ?_) (.c (show DU [v0] (Eh 3)=true from rfl) (.c (show DU [v0] (Eh 3)=true from rfl) (.e (Dy v0) (.e (Dy v0) (.e (Dy v0) (.c (show(d6 (↑k:Int) (↑v1:Int) v1&&true&&(true||false)&&DU (Dh Dt l) fun r=>Qd (Dl r=31))=true from ?_) (.c (show(DU (Dh (fun x=>Dh EK x) (DY (Dz (↑v1:Int) - Dz (↑k:Int)) (Ep (Dz (↑k:Int)) (Dh Dt l)))) (rowOk 31)&&roomOk (Dl (Dh (fun x=>Dh EK x) (DY (Dz (↑k:Int) - Dz 0) v3)++[v0])+Dl (Dh (fun x=>Dh EK x) (DY (Dz (↑v1:Int) - Dz (↑k:Int)) (Ep (Dz (↑k:Int)) (Dh Dt l))))) 320)=true from ?_) (.c (show Dh (fun x=>Dh EK x) (DY (Dz (↑k:Int) - Dz 0) v3)++[v0]++Dh (fun x=>Dh EK x) (DY (Dz (↑v1:Int) - Dz (↑k:Int)) (Ep (Dz (↑k:Int)) (Dh Dt l)))=Dh (fun x=>Dh EK x) v4 from ?_) (.er [v0] (.c (@hft (wI n)) (.c (show(!true)=false from rfl) (.c hbig .n))))))))))))))))))))))))))))))))))))))))))) (by kernel_rfl) trivial) (by rfl) (by rfl)<;>subst v0 v1 v3 v4 v5 v6 v7 v8 v2<;>(first|assumption|rfl|exact qJ rfl|exact wF rfl|exact wC hp (nT _)|exact wD hp (nT _)|(refine zB (wG _) ?_ ?_<;>simp at hp ⊢ <;> omega)|(rw[pO];exact wE rfl)|(simp[rowOk,D.one,Iu,roomOk];omega)|exact nS _ _|(simp;done))
abbrev psS(L Q:List (List Dp))(n:EntT)(i:Int):AS:={t:=mkT 77 0 [(0,aa L),(4,bool false),(5,aa Q),(6,int i)],h:=[aO n],m:=[]}
noncomputable abbrev fm(n:EntT):List Blk:=[.var [int n.time,int n.campus,int n.no,int n.kind,int n.stu,int n.obj,int n.term,int n.val,int n.frm,int n.til,ax n.text,int n.sec.id,int n.sec.course,int n.sec.term,int n.sec.campus,int n.sec.seats,aa (Dh DA n.sec.mts),aa (Dh Dx n.sec.grs),aa (Dh ab n.sec.labs),bool n.sec.lab,int n.req.campus,int n.req.no,int n.req.st,int n.req.kind,int n.req.time,aa (Dh Dn n.req.chs),int n.req.gsec,int n.req.glab,int n.req.key,int n.r,int n.s]]
theorem CF{L Q X:List (List Dp)}{n m:EntT}{ix e:Int}{i:Nat}(hr:ad (i:Int) Q m.row 31)(hlt:Qd ((i:Int)<(Q.length:Int))=true)(hw:Dk.wrap ((i:Int)+1)=((i+1:Nat):Int))(p1:∀h,Ev Di Γq 17 [aa L,ag m.row] h (.tup [aa X,int ix,int e]) h)(p2:∀h,Ev Di Γ0 18 [aa L,ag m.row] h (.tup [aa X,int ix,int e]) h)
  (hsm:∀h,Ev Di Γ0 19 [aa X,aa X] h (bool true) h) (hcd:(!true||ix != ix||e != e)=false):(CW Di Γq [] false (sub IH 0) (psS L Q n i) .normal (psS L Q n ((i+1:Nat):Int))):=by
 refine zX {t:=mkT 77 0 [(0,aa L),(4,bool false),(5,aa Q),(6,int (IntKind.wrap Dk ((↑i:Int)+1)))],h:=(fm n),m:=[]} Exit.normal [.st (.mask [0,4,5,6]),.st (.trim 1)] [.b true,.row [vi m.time,vi m.campus,vi m.no,vi m.kind,vi m.stu,vi m.obj,vi m.term,vi m.val,vi m.frm,vi m.til,vs m.text,vi m.sec.id,vi m.sec.course,vi m.sec.term,vi m.sec.campus,vi m.sec.seats,Dw (Dh DA m.sec.mts),Dw (Dh Dx m.sec.grs),Dw (Dh ab m.sec.labs),DS (DE m.sec.lab),vi m.req.campus,vi m.req.no,vi m.req.st,vi m.req.kind,vi m.req.time,Dw (Dh Dn m.req.chs),vi m.req.gsec,vi m.req.glab,vi m.req.key,vi m.r,vi m.s],.val (Ew [aa X,int ix,int e]),.row [vi m.time,vi m.campus,vi m.no,vi m.kind,vi m.stu,vi m.obj,vi m.term,vi m.val,vi m.frm,vi m.til,vs m.text,vi m.sec.id,vi m.sec.course,vi m.sec.term,vi m.sec.campus,vi m.sec.seats,Dw (Dh DA m.sec.mts),Dw (Dh Dx m.sec.grs),Dw (Dh ab m.sec.labs),DS (DE m.sec.lab),vi m.req.campus,vi m.req.no,vi m.req.st,vi m.req.kind,vi m.req.time,Dw (Dh Dn m.req.chs),vi m.req.gsec,vi m.req.glab,vi m.req.key,vi m.r,vi m.s],.val (Ew [aa X,int ix,int e]),.val (bool true),.b false] (.c hlt (.c hr (.c (@p1 (fm n)) (.c hr (.c (DL (Γ':=Γq) (@p2 (fm n))) (.c (DL (Γ':=Γq) (@hsm (fm n))) (.c hcd .n))))))) ?_ ?_<;>(first|rfl|(rw[hw]<;>rfl))
theorem CG{L Q:List (List Dp)}{n:EntT}{i:Nat}(hlt:Qd ((i:Int)<(Q.length:Int))=false):(CW Di Γq [] false (sub IH 0) (psS L Q n i) (.exit 0) {t:=mkT 77 0 [],h:=[aO n],m:=[]}):=by
 exact zx [.st (.mask [])] [.b false] (.c hlt .n)
noncomputable abbrev lg(n:EntT):List Blk:=[.var [int n.time,int n.campus,int n.no,int n.kind,int n.stu,int n.obj,int n.term,int n.val,int n.frm,int n.til,ax n.text,int n.sec.id,int n.sec.course,int n.sec.term,int n.sec.campus,int n.sec.seats,aa (Dh DA n.sec.mts),aa (Dh Dx n.sec.grs),aa (Dh ab n.sec.labs),bool n.sec.lab,int n.req.campus,int n.req.no,int n.req.st,int n.req.kind,int n.req.time,aa (Dh Dn n.req.chs),int n.req.gsec,int n.req.glab,int n.req.key,int n.r,int n.s]]
theorem ps_few{L:List (List Dp)}{n:EntT}{f fe:Bool}(hf:∀h,Ev Di Γ0 11 [aa L] h (bool f) h)(hfe:∀h,Ev Di Γ0 16 [ag n.row] h (bool fe) h)(hcd:(!f||!fe)=true)(h:List Blk):(Ev Di Γq 4 [aa L,ag n.row] h (bool true) h):=by
 exact z0 [.val (bool true),.b false,.val (bool f),.val (bool fe),.b true] (.c (@lb (lg n)) (.c (show(!true)=false from rfl) (.c (DL (Γ':=Γq) (@hf (lg n))) (.c (gd (!!f) (DL (Γ':=Γq) (@hfe (lg n)))) (.c hcd .n))))) h
noncomputable abbrev g9(n:EntT):List Blk:=[.var [int n.time,int n.campus,int n.no,int n.kind,int n.stu,int n.obj,int n.term,int n.val,int n.frm,int n.til,ax n.text,int n.sec.id,int n.sec.course,int n.sec.term,int n.sec.campus,int n.sec.seats,aa (Dh DA n.sec.mts),aa (Dh Dx n.sec.grs),aa (Dh ab n.sec.labs),bool n.sec.lab,int n.req.campus,int n.req.no,int n.req.st,int n.req.kind,int n.req.time,aa (Dh Dn n.req.chs),int n.req.gsec,int n.req.glab,int n.req.key,int n.r,int n.s]]
theorem ps_one{L:List (List Dp)}{n:EntT}(hf:∀h,Ev Di Γ0 11 [aa L] h (bool true) h)(hfe:∀h,Ev Di Γ0 16 [ag n.row] h (bool true) h)(hlen:Qd ((L.length:Int)>0)=false)(hl:CW Di Γq [] false (.loop (sub IH 0)) (psS L [n.row] n 0) (.exit 0) {t:=mkT 77 0 [],h:=[aO n],m:=[]})(h:List Blk):(Ev Di Γq 4 [aa L,ag n.row] h (bool true) h):=by
 have hl0:=(@hl)
 let v0:List D:=[int n.time,int n.campus,int n.no,int n.kind,int n.stu,int n.obj,int n.term,int n.val,int n.frm,int n.til,ax n.text,int n.sec.id,int n.sec.course,int n.sec.term,int n.sec.campus,int n.sec.seats,aa (Dh DA n.sec.mts),aa (Dh Dx n.sec.grs),aa (Dh ab n.sec.labs),bool n.sec.lab,int n.req.campus,int n.req.no,int n.req.st,int n.req.kind,int n.req.time,aa (Dh Dn n.req.chs),int n.req.gsec,int n.req.glab,int n.req.key,int n.r,int n.s]
 exact z0 [.val (bool true),.b false,.val (bool true),.val (bool true),.b false,.b false,.nx 1,.st (.frz 1 [Dt n]),.st (.mask [0,4,5,6]),.st (.trimV 1),.sum [0,4,5,6] (DV 0) {t:=mkT 77 0 [],h:=(g9 n),m:=[]}] (.c (@lb (g9 n)) (.c (show(!true)=false from rfl) (.c (DL (Γ':=Γq) (@hf (g9 n))) (.c (gd (!!true) (DL (Γ':=Γq) (@hfe (g9 n)))) (.c (show(!true||!true)=false from rfl) (.c hlen (.er [v0] (.c (show Blk.inn 1 (match 0==1 with|true=>.gone|false=>keepX (zi 1 0 [Dt n]) (.var v0))=true from rfl) (.c hl0 .n))))))))) h
noncomputable abbrev hG(n:EntT):List Blk:=[.var [int n.time,int n.campus,int n.no,int n.kind,int n.stu,int n.obj,int n.term,int n.val,int n.frm,int n.til,ax n.text,int n.sec.id,int n.sec.course,int n.sec.term,int n.sec.campus,int n.sec.seats,aa (Dh DA n.sec.mts),aa (Dh Dx n.sec.grs),aa (Dh ab n.sec.labs),bool n.sec.lab,int n.req.campus,int n.req.no,int n.req.st,int n.req.kind,int n.req.time,aa (Dh Dn n.req.chs),int n.req.gsec,int n.req.glab,int n.req.key,int n.r,int n.s]]
theorem ps_two{L:List (List Dp)}{n m:EntT}(hf:∀h,Ev Di Γ0 11 [aa L] h (bool true) h)(hfe:∀h,Ev Di Γ0 16 [ag n.row] h (bool true) h)(hlen:Qd ((L.length:Int)>0)=true)(hrm:ad (Dk.wrap (Int.tdiv (L.length:Int) 2)) L m.row 31)(hl:CW Di Γq [] false (.loop (sub IH 0)) (psS L [n.row,m.row] n 0) (.exit 0) {t:=mkT 77 0 [],h:=[aO n],m:=[]})(h:List Blk):(Ev Di Γq 4 [aa L,ag n.row] h (bool true) h):=by
 have hl0:=(@hl)
 let v0:List D:=[int m.time,int m.campus,int m.no,int m.kind,int m.stu,int m.obj,int m.term,int m.val,int m.frm,int m.til,ax m.text,int m.sec.id,int m.sec.course,int m.sec.term,int m.sec.campus,int m.sec.seats,aa (Dh DA m.sec.mts),aa (Dh Dx m.sec.grs),aa (Dh ab m.sec.labs),bool m.sec.lab,int m.req.campus,int m.req.no,int m.req.st,int m.req.kind,int m.req.time,aa (Dh Dn m.req.chs),int m.req.gsec,int m.req.glab,int m.req.key,int m.r,int m.s]
 let v1:List D:=[int n.time,int n.campus,int n.no,int n.kind,int n.stu,int n.obj,int n.term,int n.val,int n.frm,int n.til,ax n.text,int n.sec.id,int n.sec.course,int n.sec.term,int n.sec.campus,int n.sec.seats,aa (Dh DA n.sec.mts),aa (Dh Dx n.sec.grs),aa (Dh ab n.sec.labs),bool n.sec.lab,int n.req.campus,int n.req.no,int n.req.st,int n.req.kind,int n.req.time,aa (Dh Dn n.req.chs),int n.req.gsec,int n.req.glab,int n.req.key,int n.r,int n.s]
 exact z0 [.val (bool true),.b false,.val (bool true),.val (bool true),.b false,.b true,.row [vi m.time,vi m.campus,vi m.no,vi m.kind,vi m.stu,vi m.obj,vi m.term,vi m.val,vi m.frm,vi m.til,vs m.text,vi m.sec.id,vi m.sec.course,vi m.sec.term,vi m.sec.campus,vi m.sec.seats,Dw (Dh DA m.sec.mts),Dw (Dh Dx m.sec.grs),Dw (Dh ab m.sec.labs),DS (DE m.sec.lab),vi m.req.campus,vi m.req.no,vi m.req.st,vi m.req.kind,vi m.req.time,Dw (Dh Dn m.req.chs),vi m.req.gsec,vi m.req.glab,vi m.req.key,vi m.r,vi m.s],.nx 1,.st (.frz 1 [Dt n,Dt m]),.st (.mask [0,4,5,6]),.st (.trimV 1),.sum [0,4,5,6] (DV 0) {t:=mkT 77 0 [],h:=(hG n),m:=[]}] (.c (@lb (hG n)) (.c (show(!true)=false from rfl) (.c (DL (Γ':=Γq) (@hf (hG n))) (.c (gd (!!true) (DL (Γ':=Γq) (@hfe (hG n)))) (.c (show(!true||!true)=false from rfl) (.c hlen (.c (show(!Qd (2=0))=true from rfl) (.c hrm (.c (show(DU [v0] (rowOk 31)&&roomOk (Dl [v1]+Dl [v0]) 320)=true from rfl) (.er [v1,v0] (.er [v0] (.c (show Blk.inn 1 (match 0==1 with|true=>.gone|false=>keepX (zi 1 1 [Dt n,Dt m]) (.var v1))=true from rfl) (.c hl0 .n))))))))))))) h
theorem CH{α:Type}{p:α→Bool}:∀{l:List α} {i:Nat},i<(l.takeWhile p).length→∃e,l[i]? = some e∧p e=true
 | [],i,h=>by simp at h
 | a::l,i,h=>by
  rw[Hi] at h
  cases hp:p a with
  | false=>rw[hp] at h;simp at h
  | true =>
   rw[hp] at h
   cases i with
   | zero=>exact⟨a,rfl,hp⟩
   | succ i=>exact CH (l:=l) (by simpa using h)
theorem wJ{α:Type}{p:α→Bool}:∀{l:List α} {e:α},l[(l.takeWhile p).length]? = some e→p e=false
 | [],e,h=>by simp at h
 | a::l,e,h=>by
  rw[Hi] at h
  cases hp:p a with
  | false =>
   rw[hp] at h
   simp at h
   subst h
   exact hp
  | true =>
   rw[hp] at h
   exact wJ (l:=l) (by simpa using h)
theorem CI{α:Type}{p:α→Bool}:∀{l:List α},(l.takeWhile p).length≤l.length
 | []=>by simp
 | a::l=>by
  rw[Hi]
  cases p a with
  | false=>simp
  | true=>simpa using CI (l:=l)
theorem qM{n:EntT}(h:aH n=0):Led [n]:=⟨by simp,by intro e he;simp at he;subst he;exact h,by simp[Fits]⟩
def ltB(n e:EntT):Bool:=Qd (cC e.st n.st<0)
def kP(l:List EntT)(n:EntT):Nat:=(l.takeWhile (ltB n)).length
theorem wK(n e:EntT):ltB n e=true ↔ dq e.st n.st:=by
 unfold ltB
 rw[←gX]
 exact iV e.st n.st
theorem rp_cw{l:List EntT}{n:EntT}(hs:ai l):CW Di Γ0 [] false (.loop (sub Hw 0)) (rpS (l.map Dt) n 0) (.exit 0) (rpS (l.map Dt) n (kP l n:Nat)):=by
 refine CW.loopN (kP l n) (fun j=>rpS (l.map Dt) n (j:Int)) (by simp) (fun j hj=>?_) ?_
 ·obtain⟨e,he,hp⟩:=CH hj
  have hlt:=(Dq.1 he).1
  have hr:=rowAt (row:=Dt) (sz:=31) he rfl
  exact CC hr (fun h=>gS (a:=e.st) (b:=n.st) h) (by rw[lt_len Dt hlt,Ey];exact hp) (wrap_succ hlt hs)
 ·cases he:l[kP l n]? with
  | none =>
   have hge:l.length≤kP l n:=GL.1 he
   have hlt:Qd (((kP l n:Nat):Int)<(((l.map Dt).length:Nat):Int))=false:=by simp;omega
   exact CD (e:=n) (fun h=>by rw[hlt] at h;cases h) hlt (fun h=>gS (a:=n.st) (b:=n.st) h) (by rw[hlt,Ff])
  | some e =>
   have hr:=rowAt (row:=Dt) (sz:=31) he rfl
   exact CE hr (fun h=>gS (a:=e.st) (b:=n.st) h) (by have h3:ltB n e=false:=wJ he;unfold ltB at h3;rw[h3,EU])
def atK(l:List EntT)(n:EntT):Option EntT:=match l[kP l n]? with
 | none=>none
 | some e=>match fp e.st n.st with
  | true=>some e
  | false=>none
def tM(l:List EntT)(n:EntT):List EntT×Int×Int:=match bZ l != 0 with
 | true=>([],0,bZ l)
 | false=>match aH n != 0 with
  | true=>([],0,aH n)
  | false=>match atK l n with
   | some e=>match bW e n with
    | true=>(l,(kP l n:Int),0)
    | false=>([],0,390)
   | none=>match pD (f9 l n (kP l n)) with
    | true=>(f9 l n (kP l n),(kP l n:Int),0)
    | false=>([],0,390)
theorem qN{n:EntT}:∀(l:List EntT) (k i:Nat),(∀j e,j<k→l[j]? = some e→fp e.st n.st=false)→(∃e,l[k]? = some e∧fp e.st n.st=true)→forL (tS n) l i=.inr (i+k)
 | [],k,i,_,h=>by obtain⟨e,h,_⟩:=h;simp at h
 | a::l,0,i,_,h=>by
  obtain⟨e,h,hs⟩:=h
  simp at h
  subst h
  simp[forL,tS,hs]
 | a::l,k+1,i,hb,h=>by
  have h1:tS n a i=.inl (i+1):=by unfold tS;rw[hb 0 a (by omega) rfl]
  simp only[forL,h1]
  rw[qN l k (i+1) (fun j e hj he=>hb (j+1) e (by omega) (by simpa using he)) (by simpa using h)]
  congr 1
  omega
theorem kP_before{l:List EntT}{n:EntT}{j:Nat}{e:EntT}(hj:j<kP l n)(he:l[j]? = some e):dq e.st n.st:=by
 obtain⟨e',he',hp⟩:=CH hj
 rw[he] at he'
 cases he'
 exact(wK n e).1 hp
theorem yR{l:List EntT}{n:EntT}(S:bD l)(hk:atK l n=none):∀e∈l.drop (kP l n),dq n.st e.st:=by
 intro e he
 cases hd:l[kP l n]? with
 | none =>
  have hge:l.length≤kP l n:=GL.1 hd
  rw[Gg hge] at he
  cases he
 | some d =>
  have hlt:=(Dq.1 hd).1
  have hde:l[kP l n]=d:=(Dq.1 hd).2
  rw[F0 hlt,hde] at he
  have hn:¬dq d.st n.st:=fun h=>by
   have:=wJ hd
   rw[(wK n d).2 h] at this
   cases this
  have hne:n.st ≠ d.st:=fun h=>by
   unfold atK at hk
   rw[hd] at hk
   simp only[stEq_iff.2 h.symm] at hk
   cases hk
  have h1:dq n.st d.st:=sH hn hne
  rcases DM.1 he with rfl|he
  ·exact h1
  ·have hS:bD (d::l.drop (kP l n+1)):=by
    have:=S.sublist (List.drop_sublist (kP l n) l)
    rw[F0 hlt,hde] at this
    exact this
   exact gY h1 ((List.pairwise_cons.1 hS).1 e he)
theorem CJ{l:List EntT}{n:EntT}:∀e∈l.take (kP l n),dq e.st n.st:=by
 intro e he
 obtain⟨i,hi⟩:=List.mem_iff_getElem?.1 he
 rw[List.getElem?_take] at hi
 split at hi
 ·rename_i h;exact kP_before h hi
 ·cases hi
theorem yS(l:List EntT)(n:EntT):wW l n=tM l n:=by
 unfold wW tM
 cases h1:bZ l != 0 with
 | true=>rfl
 | false =>
  cases h2:aH n != 0 with
  | true=>rfl
  | false =>
   have A:=nQ.1 (show bZ l=0 by simpa using h1)
   have N:=qM (n:=n) (by simpa using h2)
   have S:=A.f.sorted
   simp only
   cases hk:atK l n with
   | some d =>
    have hk2:=hk
    unfold atK at hk2
    cases hd:l[kP l n]? with
    | none=>rw[hd] at hk2;cases hk2
    | some d' =>
     rw[hd] at hk2
     simp only at hk2
     cases hs:fp d'.st n.st with
     | false=>rw[hs] at hk2;cases hk2
     | true =>
      rw[hs] at hk2
      cases hk2
      have hm:d∈l:=D1 hd
      simp only
      cases hq:bW d n with
      | true =>
       have hdn:=(eO d n).1 hq
       have hj:joR l [n]=some l:=(lf S N.f.sorted A.e N.e l).2 ⟨⟨S,fun e=>⟨.inl,fun h=>h.elim id fun h=>by simp at h;subst h;rw[←hdn];exact hm⟩⟩,A.f⟩
       rw[hj]
       simp only
       unfold Df
       rw[qN l (kP l n) 0 (fun j e hj he=>mB (kP_before hj he)) ⟨d,hd,hs⟩]
       simp
      | false =>
       cases hj:joR l [n] with
       | none=>rfl
       | some y =>
        obtain⟨U,_⟩:=(lf S N.f.sorted A.e N.e y).1 hj
        have:=U.compat d hm n (by simp) (stEq_iff.1 hs)
        rw[(eO d n).2 this] at hq
        cases hq
   | none =>
    have hbef:=CJ (l:=l) (n:=n)
    have haft:=yR S hk
    have hS:bD (f9 l n (kP l n)):=by
     unfold f9
     refine List.pairwise_append.2 ⟨qI (S.sublist (List.take_sublist _ _)) hbef,S.sublist (List.drop_sublist _ _),fun e he g hg=>?_⟩
     rcases DX.1 he with he|he
     ·exact gY (hbef e he) (haft g hg)
     ·simp at he;subst he;exact haft g hg
    have hU:Uni l [n] (f9 l n (kP l n)):=⟨hS,fun e=>by
     have hl:e∈l ↔ e∈l.take (kP l n)∨e∈l.drop (kP l n):=by rw[←DX,Gc]
     unfold f9
     rw[hl]
     simp only[DX,DM,Gr,or_false]
     constructor
     ·rintro ((h|h)|h)<;>simp[h]
     ·rintro ((h|h)|h)<;>simp[h]⟩
    have hV:∀e∈f9 l n (kP l n),aH e=0:=hU.val A.e N.e
    simp only
    cases hf:pD (f9 l n (kP l n)) with
    | true =>
     rw[(lf S N.f.sorted A.e N.e _).2 ⟨hU,(fk hV).1 hf⟩]
     simp only
     have hidx:forL (tS n) (f9 l n (kP l n)) 0=.inr (0+kP l n):=by
      have hle:=CI (p:=ltB n) (l:=l)
      have hlt:(l.take (kP l n)).length=kP l n:=by rw[List.length_take];exact Nat.min_eq_left hle
      refine qN _ _ 0 (fun j e hj he=>?_) ⟨n,?_,stEq_iff.2 rfl⟩
      ·unfold f9 at he
       rw[FA,List.getElem?_append_left (by rw[hlt];exact hj)] at he
       exact mB (hbef e (D1 he))
      ·unfold f9
       rw[FA,List.getElem?_append_right (by rw[hlt];exact Nat.le_refl _),hlt,Nat.sub_self]
       rfl
     unfold Df
     rw[hidx]
     simp
    | false =>
     cases hj:joR l [n] with
     | none=>rfl
     | some y =>
      obtain⟨U,F⟩:=(lf S N.f.sorted A.e N.e y).1 hj
      have:y=f9 l n (kP l n):=lc U.1 hS fun e=>by rw[U.2 e,hU.2 e]
      subst this
      rw[(fk hV).2 F] at hf
      cases hf
theorem CK{l:List EntT}{n:EntT}(hs:l.length≤50000)(ol:∀e∈l,e.ok)(on:n.ok)(vl:∀e∈l,e.val≤9223372036854775807)(vn:n.val≤9223372036854775807)(h:List Blk):Ev Di Γ0 18 [aa (l.map Dt),ag n.row] h (.tup [aa ((tM l n).1.map Dt),int (tM l n).2.1,int (tM l n).2.2]) h:=by
 have sl:ai l:=by unfold ai;omega
 have c1:=fun h=>Cn (l:=l) sl ol h
 simp only[wx vl] at c1
 have c2:=fun h=>la on h
 rw[pL n vn] at c2
 unfold tM
 cases h1:bZ l != 0 with
 | true =>
  have e1:=Ev.nilW (rp_c1 (n:=n) c1 h1 h)
  exact e1
 | false =>
  have h10:bZ l=0:=by simpa using h1
  rw[h10] at c1
  cases h2:aH n != 0 with
  | true =>
   have e1:=Ev.nilW (rp_c2 c1 c2 h2 h)
   exact e1
  | false =>
   have h20:aH n=0:=by simpa using h2
   rw[h20] at c2
   have A:=nQ.1 h10
   have N:=qM h20
   have hl:=rp_cw (n:=n) sl
   simp only
   cases hk:atK l n with
   | some d =>
    have hk2:=hk
    unfold atK at hk2
    cases hd:l[kP l n]? with
    | none=>rw[hd] at hk2;cases hk2
    | some d' =>
     rw[hd] at hk2
     simp only at hk2
     cases hst:fp d'.st n.st with
     | false=>rw[hst] at hk2;cases hk2
     | true =>
      rw[hst] at hk2
      cases hk2
      have hlt:=(Dq.1 hd).1
      have hr:=rowAt (row:=Dt) (sz:=31) hd rfl
      have od:=ol d (D1 hd)
      have hcd:(Qd (((kP l n:Nat):Int)<(((l.map Dt).length:Nat):Int))&&(d.time==n.time&&(d.campus==n.campus&&(d.no==n.no&&true))))=true:=by rw[lt_len Dt hlt,Ey];exact hst
      have hsm:=fun h=>bn (a:=d) (b:=n) od.m od.g od.l od.c h
      rw[iT] at hsm
      simp only
      cases hq:bW d n with
      | true=>rw[hq] at hsm;exact rp_eq c1 c2 hl hr hcd hsm h
      | false =>
       rw[hq] at hsm
       have e1:=Ev.nilW (rp_cf c1 c2 hl hr hcd hsm h)
       exact e1
   | none =>
    have hle:kP l n≤l.length:=CI
    have hp:kP l n≤(l.map Dt).length:=by rw[Fk];exact hle
    obtain⟨d,hr,hcd⟩:∃d:EntT,(Qd (((kP l n:Nat):Int)<(((l.map Dt).length:Nat):Int))=true→ad ((kP l n:Nat):Int) (l.map Dt) d.row 31)∧(Qd (((kP l n:Nat):Int)<(((l.map Dt).length:Nat):Int))&&(d.time==n.time&&(d.campus==n.campus&&(d.no==n.no&&true))))=false:=by
     cases hd:l[kP l n]? with
     | none =>
      have hge:l.length≤kP l n:=GL.1 hd
      have hlt:Qd (((kP l n:Nat):Int)<(((l.map Dt).length:Nat):Int))=false:=by simp;omega
      exact⟨n,fun h=>(by rw[hlt] at h;cases h),by rw[hlt,Ff]⟩
     | some d =>
      refine⟨d,fun _=>rowAt (row:=Dt) (sz:=31) hd rfl,?_⟩
      cases hst:fp d.st n.st with
      | true =>
       unfold atK at hk
       rw[hd] at hk
       simp only[hst] at hk
       cases hk
      | false=>rw[show(d.time==n.time&&(d.campus==n.campus&&(d.no==n.no&&true)))=false from hst,EU]
    have hV:∀e∈f9 l n (kP l n),aH e=0:=fun e he=>by
     unfold f9 at he
     simp only[DX,DM,Gr,or_false] at he
     rcases he with (he|he)|he
     ·exact A.e e (FH he)
     ·subst he;exact h20
     ·exact A.e e (FG he)
    have hlen:(f9 l n (kP l n)).length=l.length+1:=by
     unfold f9
     simp
     omega
    have hft:=fun h=>wj (l:=f9 l n (kP l n)) (show(f9 l n (kP l n)).length≤_ by omega) h
    have hfe:(!cf [] (f9 l n (kP l n)))=pD (f9 l n (kP l n)):=(fit_eq fun e he=>⟨(my (hV e he)).2.1,(my (hV e he)).2.2.1⟩).symm
    rw[hfe] at hft
    simp only
    cases hf:pD (f9 l n (kP l n)) with
    | false =>
     rw[hf] at hft
     have e1:=Ev.nilW (rp_n c1 c2 hl (by omega) hp hr hcd hft)
     exact Ev.frame0 rfl e1 h
    | true =>
     rw[hf] at hft
     exact Ev.frame0 rfl (rp_o c1 c2 hl (by omega) hp hr hcd hft (by simp;omega)) h
theorem yT{l:List EntT}{n:EntT}(ol:∀e∈l,e.ok)(on:n.ok):(∀m∈(wW l n).1,m.ok)∧(wW l n).1.length≤l.length+1:=by
 unfold wW
 cases h1:bZ l != 0 with
 | true=>exact⟨by simp,by simp⟩
 | false =>
  cases h2:aH n != 0 with
  | true=>exact⟨by simp,by simp⟩
  | false =>
   simp only
   cases h3:joR l [n] with
   | none=>exact⟨by simp,by simp⟩
   | some w =>
    have hA:=nQ.1 (show bZ l=0 by simpa using h1)
    have N:=qM (n:=n) (by simpa using h2)
    obtain⟨U,_⟩:=(lf hA.f.sorted N.f.sorted hA.e N.e w).1 h3
    have:=wz h3
    exact⟨U.ok ol (by simpa using on),by simpa using this⟩
theorem ps_cw{l q:List EntT}{n:EntT}(ll:l.length≤16)(ol:∀e∈l,e.ok)(vl:∀e∈l,e.val≤9223372036854775807)(lq:q.length≤2)(oq:∀e∈q,e.ok)(vq:∀e∈q,e.val≤9223372036854775807):
  CW Di Γq [] false (.loop (sub IH 0)) (psS (l.map Dt) (q.map Dt) n 0) (.exit 0) {t:=mkT 77 0 [],h:=[aO n],m:=[]}:=by
 refine CW.loopN q.length (fun j=>psS (l.map Dt) (q.map Dt) n (j:Int)) (by simp) (fun j hj=>?_) (CG (aY Dt q))
 have he:q[j]? = some q[j]:=D7 hj
 have hm:q[j]∈q:=List.getElem_mem hj
 have p1:=fun h=>Cv (l:=l) (n:=q[j]) (by omega) ol (oq _ hm) h
 have p2:=fun h=>CK (l:=l) (n:=q[j]) (by omega) ol (oq _ hm) vl (vq _ hm) h
 rw[←yS] at p2
 obtain⟨om,lm⟩:=yT (l:=l) (n:=q[j]) ol (oq _ hm)
 exact CF (rowAt (row:=Dt) (sz:=31) he rfl) (lt_len Dt hj) (wrap_succ hj (show q.length≤_ by omega)) p1 p2 (fun h=>yP (show(wW l q[j]).1.length≤_ by omega) om h) (by simp)
theorem lh{l:List EntT}{n:EntT}(sl:ai l)(vl:∀e∈l,e.val≤9223372036854775807)(vn:n.val≤9223372036854775807)(h:List Blk):Ev Di Γq 4 [aa (l.map Dt),ag n.row] h (bool true) h:=by
 have f1:=fun h=>few_ev sl h
 have f2:=fun h=>wm (e:=n) h
 cases hcd:(!Cl l||!wl n) with
 | true=>exact ps_few f1 f2 hcd h
 | false =>
  simp only[Bool.or_eq_false_iff,Bool.not_eq_false'] at hcd
  rw[hcd.1] at f1
  rw[hcd.2] at f2
  have ol:=few_ok hcd.1
  have ll:=CB hcd.1
  have on:=CA hcd.2
  cases l with
  | nil=>exact ps_one f1 f2 rfl (ps_cw (l:=[]) (q:=[n]) (by simp) (by simp) (by simp) (by simp) (by simpa using on) (by simpa using vn)) h
  | cons a l =>
   have hlt:(a::l).length / 2<(a::l).length:=Nat.div_lt_self (by simp) (by omega)
   have hm:(a::l)[(a::l).length / 2]? = some (a::l)[(a::l).length / 2]:=D7 hlt
   have hmm:(a::l)[(a::l).length / 2]∈a::l:=List.getElem_mem hlt
   have hw:Dk.wrap (Int.tdiv ((((a::l).map Dt).length:Nat):Int) 2)=(((a::l).length / 2:Nat):Int):=by
    have e1:Int.tdiv ((((a::l).map Dt).length:Nat):Int) 2=(((a::l).length / 2:Nat):Int):=by
     rw[Fk];rfl
    rw[e1,wrap_i64 (by omega) (by omega)]
   refine ps_two (m:=(a::l)[(a::l).length / 2]) f1 f2 (by first|(simp;done)|(simp;omega)) (by rw[hw];exact rowAt (row:=Dt) (sz:=31) hm rfl) (ps_cw (l:=a::l) (q:=[n,(a::l)[(a::l).length / 2]]) ll ol vl (by simp) ?_ ?_) h
   ·intro e he
    rcases DM.1 he with rfl|he
    ·exact on
    ·simp only[DM,Gr,or_false] at he;rw[he];exact ol _ hmm
   ·intro e he
    rcases DM.1 he with rfl|he
    ·exact vn
    ·simp only[DM,Gr,or_false] at he;rw[he];exact vl _ hmm
open Go.ChangeShapes Go.WideShapes Go.ChangeAt Go.RowKit Go.Proofs.YtoincdhjcahadaaGreatDoor
set_option maxRecDepth 100000
def I64(n:Int):Prop := -9223372036854775808≤n∧n≤9223372036854775807
theorem hJ:Di.cellsOf 3=1:=by kernel_rfl
theorem cells4:Di.cellsOf 4=1:=by kernel_rfl
theorem cells9:Di.cellsOf 9=1:=by kernel_rfl
theorem wL:Di.cellsOf 28=3:=by kernel_rfl
theorem wM:Di.cellsOf 32=2:=by kernel_rfl
theorem CL:Di.cellsOf 33=1:=by kernel_rfl
theorem CM:Di.cellsOf 34=1:=by kernel_rfl
theorem CN:Di.cellsOf 35=1:=by kernel_rfl
theorem wN:Di.cellsOf 37=9:=by kernel_rfl
theorem CO:Di.cellsOf 38=1:=by kernel_rfl
theorem wO:Di.cellsOf 40=2:=by kernel_rfl
theorem wP:Di.cellsOf 42=9:=by kernel_rfl
theorem wQ:Di.cellsOf 44=2:=by kernel_rfl
theorem CP:Di.cellsOf 46=31:=by kernel_rfl
theorem yU:Di.cellsOf 118=5:=by kernel_rfl
theorem yV:Di.cellsOf 120=3:=by kernel_rfl
theorem bytes3:Di.bytesOf 3=8:=by kernel_rfl
theorem yW:Di.bytesOf 118=40:=by kernel_rfl
theorem yX:Di.bytesOf 120=24:=by kernel_rfl
theorem CQ:Di.bytesOf 40=16:=by kernel_rfl
theorem CS:Di.bytesOf 46=320:=by kernel_rfl
theorem wR:uZ Di [3,4,9,22,28,32,33,34,35,37,38,40,42,44,46,118,120]=true:=by kernel_rfl
theorem aw{n:Nat}{ds:List Dp}(h:Shp Di n 3 ds):∃x,ds=[vi x]∧I64 x:=by
 cases n with
 | zero=>exact h.elim
 | succ n =>
  simp only[Shp,Tryz.underlying3] at h
  obtain⟨x,rfl,hw⟩:=h
  exact⟨x,rfl,bounds_i64 hw⟩
theorem CT{n:Nat}{ds:List Dp}(h:Shp Di n 9 ds):∃s,ds=[vs s]:=by
 cases n with
 | zero=>exact h.elim
 | succ n =>
  simp only[Shp,Tryz.underlying9] at h
  obtain⟨s,rfl,_⟩:=h
  exact⟨s,rfl⟩
theorem yY{n:Nat}{ds:List Dp}(h:Shp Di n 4 ds):∃b,ds=[.v (.bool b)]:=by
 cases n with
 | zero=>exact h.elim
 | succ n =>
  simp only[Shp,Tryz.underlying4] at h
  obtain⟨b,rfl⟩:=h
  exact⟨b,rfl⟩
theorem mD{α:Type}{row:α→List Dp}{ok:α→Prop}:∀{es:List (List Dp)},(∀r∈es,∃a,r=row a∧ok a)→∃l:List α,es=l.map row∧∀a∈l,ok a
 | [],_=>⟨[],rfl,by simp⟩
 | r::es,h=>by
  obtain⟨a,rfl,ha⟩:=h r (List.mem_cons_self ..)
  obtain⟨l,rfl,hl⟩:=mD (fun r hr=>h r (List.mem_cons_of_mem _ hr))
  exact⟨a::l,rfl,fun b hb=>(DM.1 hb).elim (fun e=>e▸ha) (hl b)⟩
theorem yZ{n k:Nat}(h:n*k≤reachBytes)(hk:1≤k):n≤140737488355328:=by
 have:n≤n*k:=Nat.le_mul_of_pos_right n hk
 unfold reachBytes at h
 omega
theorem shp_st{n:Nat}{ds:List Dp}(h:Shp Di n 28 ds):∃a:StT,ds=a.row∧True:=by
 cases n with
 | zero=>exact h.elim
 | succ n =>
  simp only[Shp,Tryz.underlying28,EF,hJ,wL] at h
  obtain⟨hl,h1,h2,h3,_⟩:=h
  obtain⟨x1,e1,_⟩:=aw h1
  obtain⟨x2,e2,_⟩:=aw h2
  obtain⟨x3,e3,_⟩:=aw h3
  match ds,hl with
  | [p1,p2,p3],_ =>
   simp at e1 e2 e3
   subst e1;subst e2;subst e3
   exact⟨⟨x1,x2,x3⟩,rfl,trivial⟩
theorem shp_mt{n:Nat}{ds:List Dp}(h:Shp Di n 118 ds):∃a:MeT,ds=a.row∧True:=by
 cases n with
 | zero=>exact h.elim
 | succ n =>
  simp only[Shp,Tryz.underlying118,EF,hJ,yU] at h
  obtain⟨hl,h1,h2,h3,h4,h5,_⟩:=h
  obtain⟨x1,e1,_⟩:=aw h1
  obtain⟨x2,e2,_⟩:=aw h2
  obtain⟨x3,e3,_⟩:=aw h3
  obtain⟨x4,e4,_⟩:=aw h4
  obtain⟨x5,e5,_⟩:=aw h5
  match ds,hl with
  | [p1,p2,p3,p4,p5],_ =>
   simp at e1 e2 e3 e4 e5
   subst e1;subst e2;subst e3;subst e4;subst e5
   exact⟨⟨x1,x2,x3,x4,x5⟩,rfl,trivial⟩
theorem shp_gr{n:Nat}{ds:List Dp}(h:Shp Di n 120 ds):∃a:GrT,ds=a.row∧True:=by
 cases n with
 | zero=>exact h.elim
 | succ n =>
  simp only[Shp,Tryz.underlying120,EF,hJ,yV] at h
  obtain⟨hl,h1,h2,h3,_⟩:=h
  obtain⟨x1,e1,_⟩:=aw h1
  obtain⟨x2,e2,_⟩:=aw h2
  obtain⟨x3,e3,_⟩:=aw h3
  match ds,hl with
  | [p1,p2,p3],_ =>
   simp at e1 e2 e3
   subst e1;subst e2;subst e3
   exact⟨⟨x1,x2,x3⟩,rfl,trivial⟩
theorem zC{n:Nat}{ds:List Dp}(h:Shp Di n 40 ds):∃a:BuT,ds=a.row∧True:=by
 cases n with
 | zero=>exact h.elim
 | succ n =>
  simp only[Shp,Tryz.underlying40,EF,hJ,wO] at h
  obtain⟨hl,h1,h2,_⟩:=h
  obtain⟨x1,e1,_⟩:=aw h1
  obtain⟨x2,e2,_⟩:=aw h2
  match ds,hl with
  | [p1,p2],_ =>
   simp at e1 e2
   subst e1;subst e2
   exact⟨⟨x1,x2⟩,rfl,trivial⟩
theorem y1{n:Nat}{ds:List Dp}(h:Shp Di n 32 ds):∃a b,ds=[vi a,vi b]:=by
 cases n with
 | zero=>exact h.elim
 | succ n =>
  simp only[Shp,Tryz.underlying32,EF,hJ,wM] at h
  obtain⟨hl,h1,h2,_⟩:=h
  obtain⟨x1,e1,_⟩:=aw h1
  obtain⟨x2,e2,_⟩:=aw h2
  match ds,hl with
  | [p1,p2],_ =>
   simp at e1 e2
   subst e1;subst e2
   exact⟨x1,x2,rfl⟩
theorem CU{n:Nat}{ds:List Dp}(h:Shp Di n 44 ds):∃a b,ds=[vi a,vi b]:=by
 cases n with
 | zero=>exact h.elim
 | succ n =>
  simp only[Shp,Tryz.underlying44,EF,hJ,wQ] at h
  obtain⟨hl,h1,h2,_⟩:=h
  obtain⟨x1,e1,_⟩:=aw h1
  obtain⟨x2,e2,_⟩:=aw h2
  match ds,hl with
  | [p1,p2],_ =>
   simp at e1 e2
   subst e1;subst e2
   exact⟨x1,x2,rfl⟩
theorem CV{n:Nat}{ds:List Dp}(h:Shp Di n 33 ds):∃l:List MeT,ds=[.sl (l.map DA)]:=by
 cases n with
 | zero=>exact h.elim
 | succ n =>
  simp only[Shp,Tryz.underlying33,yW] at h
  obtain⟨es,rfl,_,he⟩:=h
  obtain⟨l,rfl,_⟩:=mD (row:=DA) (ok:=fun _=>True) (fun r hr=>shp_mt (he r hr))
  exact⟨l,rfl⟩
theorem CX{n:Nat}{ds:List Dp}(h:Shp Di n 34 ds):∃l:List GrT,ds=[.sl (l.map Dx)]:=by
 cases n with
 | zero=>exact h.elim
 | succ n =>
  simp only[Shp,Tryz.underlying34,yX] at h
  obtain⟨es,rfl,_,he⟩:=h
  obtain⟨l,rfl,_⟩:=mD (row:=Dx) (ok:=fun _=>True) (fun r hr=>shp_gr (he r hr))
  exact⟨l,rfl⟩
theorem CY{n:Nat}{ds:List Dp}(h:Shp Di n 38 ds):∃l:List BuT,ds=[.sl (l.map Dn)]:=by
 cases n with
 | zero=>exact h.elim
 | succ n =>
  simp only[Shp,Tryz.underlying38,CQ] at h
  obtain⟨es,rfl,_,he⟩:=h
  obtain⟨l,rfl,_⟩:=mD (row:=Dn) (ok:=fun _=>True) (fun r hr=>zC (he r hr))
  exact⟨l,rfl⟩
theorem y2{n:Nat}{ds:List Dp}(h:Shp Di n 35 ds):∃l:List Int,ds=[.sl (l.map ab)]:=by
 cases n with
 | zero=>exact h.elim
 | succ n =>
  simp only[Shp,Tryz.underlying35,bytes3] at h
  obtain⟨es,rfl,_,he⟩:=h
  obtain⟨l,rfl,_⟩:=mD (row:=ab) (ok:=fun _=>True) (fun r hr=>by obtain⟨x,e,_⟩:=aw (he r hr);exact⟨x,e,trivial⟩)
  exact⟨l,rfl⟩
theorem CZ{n:Nat}{ds:List Dp}(h:Shp Di n 37 ds):∃s:SecT,ds=s.row:=by
 cases n with
 | zero=>exact h.elim
 | succ n =>
  simp only[Shp,Tryz.underlying37,EF,hJ,cells4,CL,CM,CN,wN] at h
  obtain⟨hl,h1,h2,h3,h4,h5,h6,h7,h8,h9,_⟩:=h
  obtain⟨x1,e1,_⟩:=aw h1
  obtain⟨x2,e2,_⟩:=aw h2
  obtain⟨x3,e3,_⟩:=aw h3
  obtain⟨x4,e4,_⟩:=aw h4
  obtain⟨x5,e5,_⟩:=aw h5
  obtain⟨x6,e6⟩:=CV h6
  obtain⟨x7,e7⟩:=CX h7
  obtain⟨x8,e8⟩:=y2 h8
  obtain⟨x9,e9⟩:=yY h9
  match ds,hl with
  | [p1,p2,p3,p4,p5,p6,p7,p8,p9],_ =>
   simp at e1 e2 e3 e4 e5 e6 e7 e8 e9
   subst e1;subst e2;subst e3;subst e4;subst e5;subst e6;subst e7;subst e8;subst e9
   exact⟨⟨x1,x2,x3,x4,x5,x6,x7,x8,x9⟩,rfl⟩
theorem shp_rq{n:Nat}{ds:List Dp}(h:Shp Di n 42 ds):∃r:RqT,ds=r.row:=by
 cases n with
 | zero=>exact h.elim
 | succ n =>
  simp only[Shp,Tryz.underlying42,EF,hJ,CO,wO,wP] at h
  obtain⟨hl,h1,h2,h3,h4,h5,h6,h7,h8,_⟩:=h
  obtain⟨x1,e1,_⟩:=aw h1
  obtain⟨x2,e2,_⟩:=aw h2
  obtain⟨x3,e3,_⟩:=aw h3
  obtain⟨x4,e4,_⟩:=aw h4
  obtain⟨x5,e5,_⟩:=aw h5
  obtain⟨x6,e6⟩:=CY h6
  obtain⟨⟨x7,x8⟩,e7,_⟩:=zC h7
  obtain⟨x9,e9,_⟩:=aw h8
  match ds,hl with
  | [p1,p2,p3,p4,p5,p6,p7,p8,p9],_ =>
   simp[Dn] at e1 e2 e3 e4 e5 e6 e7 e9
   obtain⟨e7,e8⟩:=e7
   subst e1;subst e2;subst e3;subst e4;subst e5;subst e6;subst e7;subst e8;subst e9
   exact⟨⟨x1,x2,x3,x4,x5,x6,x7,x8,x9⟩,rfl⟩
def EntT.val64(e:EntT):Prop:=e.val≤9223372036854775807
theorem a8{α:Type}(n m:Nat)(l:List α):l.drop n=(l.drop n).take m++l.drop (n+m):=by
 rw[←Hc,Gc]
theorem wS{n:Nat}{ds:List Dp}(h:Shp Di n 46 ds):∃e:EntT,ds=e.row∧e.val64:=by
 cases n with
 | zero=>exact h.elim
 | succ n =>
  simp only[Shp,Tryz.underlying46,EF,hJ,cells9,wL,wM,wN,wP,wQ,CP] at h
  obtain⟨hl,h1,h2,h3,h4,h5,h6,h7,h8,h9,h10,h11,_⟩:=h
  obtain⟨⟨a1,a2,a3⟩,e1,_⟩:=shp_st h1
  obtain⟨x2,e2,_⟩:=aw h2
  obtain⟨x3,e3,_⟩:=aw h3
  obtain⟨x4,e4,_⟩:=aw h4
  obtain⟨x5,e5,_⟩:=aw h5
  obtain⟨x6,e6,v6⟩:=aw h6
  obtain⟨b1,b2,e7⟩:=y1 h7
  obtain⟨x8,e8⟩:=CT h8
  obtain⟨x9,e9⟩:=CZ h9
  obtain⟨x10,e10⟩:=shp_rq h10
  obtain⟨c1,c2,e11⟩:=CU h11
  have hd:ds=(ds.drop 0).take 3++((ds.drop 3).take 1++((ds.drop 4).take 1++((ds.drop 5).take 1++((ds.drop 6).take 1++((ds.drop 7).take 1++((ds.drop 8).take 2++((ds.drop 10).take 1++((ds.drop 11).take 9++((ds.drop 20).take 9++(ds.drop 29).take 2))))))))):=by
   have h29:ds.drop 29=(ds.drop 29).take 2:=by
    have:=a8 29 2 ds
    rw[show ds.drop (29+2)=[] from Gg (by omega),List.append_nil] at this
    exact this
   rw[←h29,←a8 20 9,←a8 11 9,←a8 10 1,←a8 8 2,←a8 7 1,←a8 6 1,←a8 5 1,←a8 4 1,←a8 3 1,←a8 0 3]
   rfl
  refine⟨⟨a1,a2,a3,x2,x3,x4,x5,x6,b1,b2,x8,x9,x10,c1,c2⟩,?_,v6.2⟩
  rw[hd,e1,e2,e3,e4,e5,e6,e7,e8,e9,e10,e11]
  rfl
theorem y3{n:Nat}{ds:List Dp}(h:Shp Di n 22 ds):∃l:List EntT,ds=[.sl (l.map Dt)]∧ai l∧∀e∈l,e.val64:=by
 cases n with
 | zero=>exact h.elim
 | succ n =>
  simp only[Shp,HE,CS] at h
  obtain⟨es,rfl,hb,he⟩:=h
  obtain⟨l,rfl,hv⟩:=mD (row:=Dt) (ok:=EntT.val64) (fun r hr=>wS (he r hr))
  exact⟨l,rfl,by have:=yZ hb (by omega);simpa[ai] using this,hv⟩
theorem C0{H:Type}{enc:TypeId×Value→H}{W:World}{base:Nat}{v:Value}{d:DataW H}{p:List MemPlace}
  (hok:Hx Di W .any base 46 v) (h:DataW.Trod enc Di W 0 (fun _=>true) true 46 v d p) (hw:(d.weights Di 46).all (· ≤ reachBytes)=true) :
  ∃e:EntT,e.val64∧Rel W (avs (fun _=>False) (fun _=>none) []) (fun _=>none) [] (ag e.row) v:=by
 unfold Hx at hok
 rw[Tryz.underlying46] at hok
 obtain⟨cs,rfl,_,_⟩:=hok
 obtain⟨fuel,hf⟩:=h
 obtain⟨ds,h1,h2⟩:=ml wR jz fuel 46 _ d p (by decide) hf hw
 obtain⟨e,rfl,he⟩:=wS h1
 refine⟨e,he,?_⟩
 simp only[Rel]
 exact⟨cs,rfl,h2.relL⟩
theorem y4{H:Type}{enc:TypeId×Value→H}{W:World}{base:Nat}{v:Value}{d:DataW H}{p:List MemPlace}
  (hok:Hx Di W .any base 22 v) (h:DataW.Trod enc Di W 0 (fun _=>true) true 22 v d p) (hw:(d.weights Di 22).all (· ≤ reachBytes)=true) :
  ∃l:List EntT,(ai l∧∀e∈l,e.val64)∧Rel W (avs (fun _=>False) (fun _=>none) []) (fun _=>none) [] (aa (l.map Dt)) v:=by
 obtain⟨fuel,hf⟩:=h
 unfold Hx at hok
 rw[HE] at hok
 have hc:v.cells.toList=[v]:=by
  cases v<;>first|rfl|skip
  unfold Cell.okWide at hok
  rw[HE] at hok
  exact hok.elim
 rw[hc] at hf
 obtain⟨ds,h1,h2⟩:=ml wR jz fuel 22 _ d p (by decide) hf hw
 obtain⟨l,rfl,hl⟩:=y3 h1
 refine⟨l,hl,?_⟩
 simp only[RelPL,and_true] at h2
 simpa[aa,Rel] using h2
end Go.Vi
open Go Go.Proofs
namespace Go.Vi
set_option maxHeartbeats 4000000
open Go.ChangeShapes Go.WideShapes Go.ChangeAt Go.RowKit Go.Proofs.YtoincdhjcahadaaGreatDoor
set_option maxRecDepth 100000
theorem ownK:ownKnob Di.godebug=none:=by kernel_rfl
theorem C1:laidOutB Di=true:=by kernel_rfl
def kd(a b c d:Bool)(f g:Value):List Value:=[.bool a,.bool b,.bool c,.bool d,f,g]
def kf(k:Nat):Value:=.func (.func k) #[] #[]
def tN:List Value :=
 kd false false false false .nilFunc .nilFunc++kd false false false true (kf 384) (kf 385)++kd false false false true (kf 386) (kf 387)++kd false true false true (kf 388) (kf 389) ++
 kd false false false true (kf 390) (kf 391)++kd true true false false (kf 392) (kf 394)++kd true true false false (kf 396) (kf 397)++kd false true false false (kf 398) (kf 399) ++
 kd false true true false (kf 400) (kf 401)++kd true false false false (kf 393) (kf 402)
def rk4(a b:Int)(g k:Bool):List Value:=[.int .i64 a,.int .i64 b,.bool g,.bool k]
def rkCells:List Value:=rk4 0 0 false false++rk4 1 8 false true++rk4 0 0 true false++rk4 1 1 true false++rk4 1 1 false false++rk4 1 1 false false
def sJ:Value:=.iface 157 (.agg #[.pointer (some ⟨3,111,none⟩)])
def C2(cs:List Value):Obj→Obj
 | .cells _ t frozen=>.cells cs.toArray t frozen
 | o=>o
noncomputable def li(os:Os):World :=
 {World.holding Di os ⟨#[],#[],[]⟩ with heap:=(((World.holding Di os ⟨#[],#[],[]⟩).heap.modify 0 (C2 rkCells)).modify 1 (C2 [sJ])).modify 2 (C2 tN)}
abbrev laid3:List (String×DataW Unit):=[("errors.errorType",H9),("sizar/requests.kinds",Gf),("sizar/rules.kinds",Rows.laid_sizar_rules_kinds)]
theorem laid_met(os:Os)(args:Array Value):laidMetH Di laid3 ((li os).forCall (fun _ _=>0) ⟨#[],args,[]⟩).memory :=
 laidMetH_of_parts3 (fuel:=8) (laidMet_of_run' 8 (by kernel_rfl) (by kernel_rfl)) (by kernel_rfl) (by kernel_rfl)
end Go.Vi
open Go Go.Proofs
namespace Go.Vi
set_option maxHeartbeats 4000000
open Go.ChangeShapes Go.WideShapes Go.ChangeAt Go.RowKit Go.Proofs.YtoincdhjcahadaaGreatDoor
set_option maxRecDepth 100000
def lj(P:Program):List Field→Nat→Nat→Bool
 | [],acc,n=>acc==n
 | f::fs,acc,n=>f.offset==acc&&lj P fs (acc+P.cellsOf f.type) n
def y5(g:TypeId→DataW Unit→Option (List Value)):List TypeId→List (DataW Unit)→Option (List Value)
 | [],[]=>some []
 | t::ts,d::ds=>(g t d).bind fun a=>(y5 g ts ds).map fun b=>a++b
 | _,_=>none
def mF(P:Program):Nat→TypeId→DataW Unit→Option (List Value)
 | 0,_,_=>none
 | n+1,t,d=>match P.underlying t with
  | some .bool=>match d with
   | .lit (.bool b)=>some [.bool b]
   | _=>none
  | some (.int k)=>match d with
   | .lit (.int _ x)=>some [.int k x]
   | _=>none
  | some (.struct fs)=>match d with
   | .agg ds=>if lj P fs.toList 0 (P.cellsOf t) then y5 (fun f d=>mF P n f d) (fs.toList.map (·.type)) ds else none
   | _=>none
  | some (.array m e)=>match d with
   | .agg ds=>if Qd (P.cellsOf t=m*P.cellsOf e)=true then y5 (fun f d=>mF P n f d) (En m e) ds else none
   | _=>none
  | _=>none
theorem pP{P:Program}{g:TypeId→DataW Unit→Option (List Value)}{tr:TypeId→List Value→Option (DataW Unit×List MemPlace)}{cs:List Value}
  (hg:∀t d ys,g t d=some ys→∀c p,tr t c=some (d,p)→c=ys):∀(fs:List Field) (acc:Nat) (xs:List (DataW Unit×List MemPlace)) (ys:List Value),
  (fs.mapM fun f=>tr f.type ((cs.drop f.offset).take (P.cellsOf f.type)))=some xs→lj P fs acc cs.length=true→y5 g (fs.map (·.type)) (xs.map (·.1))=some ys→cs.drop acc=ys
 | [],acc,xs,ys,hm,hc,hz=>by
  simp at hm
  subst hm
  simp[y5] at hz
  subst hz
  simp[lj] at hc
  simp[hc]
 | f::fs,acc,xs,ys,hm,hc,hz=>by
  simp only[IM,IW,FY,Option.pure_def,Dj] at hm
  obtain⟨x,hx,xs',hxs,rfl⟩:=hm
  simp only[lj,Dr,beq_iff_eq] at hc
  simp only[Fm,y5,FY,Du] at hz
  obtain⟨a,ha,b,hb,rfl⟩:=hz
  have h1:=hg _ _ _ ha _ x.2 (by rw[hx])
  have h2:=pP hg fs _ xs' b hxs hc.2 hb
  rw[←h1,←h2,hc.1,←Hc,Gc]
theorem sK{e:TypeId}{c:Nat}{g:TypeId→DataW Unit→Option (List Value)}{tr:TypeId→List Value→Option (DataW Unit×List MemPlace)}{cs:List Value}
  (hg:∀t d ys,g t d=some ys→∀c p,tr t c=some (d,p)→c=ys):∀(n k:Nat) (xs:List (DataW Unit×List MemPlace)) (ys:List Value),
  ((List.range' k n).mapM fun i=>tr e ((cs.drop (i*c)).take c))=some xs→cs.length=(k+n)*c→y5 g (En n e) (xs.map (·.1))=some ys→cs.drop (k*c)=ys
 | 0,k,xs,ys,hm,hc,hz=>by
  simp at hm
  subst hm
  simp[y5] at hz
  subst hz
  exact Gg (by rw[hc];simp)
 | n+1,k,xs,ys,hm,hc,hz=>by
  rw[List.range'_succ] at hm
  simp only[IM,IW,FY,Option.pure_def,Dj] at hm
  obtain⟨x,hx,xs',hxs,rfl⟩:=hm
  rw[List.replicate_succ] at hz
  simp only[Fm,y5,FY,Du] at hz
  obtain⟨a,ha,b,hb,rfl⟩:=hz
  have h1:=hg _ _ _ ha _ x.2 (by rw[hx])
  have h2:=sK hg n (k+1) xs' b hxs (by rw[hc];congr 1;omega) hb
  rw[←h1,←h2,Nat.add_mul,Nat.one_mul,←Hc,Gc]
theorem lk{P:Program}{w:World}{sp:Nat→Bool}:∀(n:Nat) (t:TypeId) (d:DataW Unit) (ys:List Value),mF P n t d=some ys→∀(fuel:Nat) (cs:List Value) (p:List MemPlace),GO (fun _=>()) P w 0 sp false fuel t cs=some (d,p)→cs=ys
 | 0,_,_,_,h=>by simp[mF] at h
 | n+1,t,d,ys,h=>by
  intro fuel cs p ht
  cases fuel with
  | zero=>simp[GO] at ht
  | succ fuel =>
   unfold mF at h
   unfold GO at ht
   cases hu:P.underlying t with
   | none=>rw[hu] at h;simp at h
   | some td =>
    rw[hu] at h ht
    cases td with
    | bool =>
     simp only at h ht
     split at h
     ·split at ht<;>simp_all
     ·simp at h
    | int k =>
     simp only at h ht
     split at h
     ·split at ht
      all_goals (first|(simp_all;done)|(split at ht<;>simp_all))
     ·simp at h
    | struct fs =>
     simp only at h ht
     split at h
     ·split at h
      ·rename_i hc
       split at ht
       ·rename_i hl
        obtain⟨xs,hxs,he⟩:=Du.1 ht
        simp only[Dm,I7] at he
        obtain⟨rfl,_⟩:=he
        have:=pP (tr:=fun t c=>GO (fun _=>()) P w 0 sp false fuel t c) (fun t d ys hg c p hp=>lk n t d ys hg fuel c p hp) fs.toList 0 xs ys hxs (by rw[hl];exact hc) h
        simpa using this
       ·simp at ht
      ·simp at h
     ·simp at h
    | array m e =>
     simp only at h ht
     split at h
     ·split at ht
      ·rename_i hl
       obtain⟨xs,hxs,he⟩:=Du.1 ht
       simp only[Dm,I7] at he
       obtain⟨rfl,_⟩:=he
       split at h
       ·rename_i hc
        rw[List.range_eq_range'] at hxs
        have:=sK (tr:=fun t c=>GO (fun _=>()) P w 0 sp false fuel t c) (fun t d ys hg c p hp=>lk n t d ys hg fuel c p hp) m 0 xs ys hxs (by rw[hl,Nat.zero_add];exact of_decide_eq_true hc) h
        simpa using this
       ·simp at h
      ·simp at ht
     ·simp at h
    | _=>simp at h
theorem sL:Di.globalNamed "sizar/requests.kinds" = some 0:=by kernel_rfl
noncomputable def rkT:TypeId:=((Di.globals[0]?).map (·.type)).getD 0
theorem C3:(Di.globals[0]?).map (·.type)=some rkT:=by kernel_rfl
theorem wT:mF Di 4 rkT Gf=some rkCells:=by kernel_rfl
theorem C4 {W:World} (h:laidMetH Di laid3 W):laidMet Di [("sizar/requests.kinds",Gf)] W:=(laidMetH_iff.1 h).1
theorem y6 {W:World} (h:laidMetH Di laid3 W):∃cs:Array Value,W.var? Di "sizar/requests.kinds" = some cs∧cs.toList=rkCells:=by
 obtain⟨ps,hl,_,_⟩:=C4 h
 obtain⟨g,t,cs,fuel,p,q,h1,h2,h3,h4,_⟩:=hl
 rw[sL] at h1
 cases h1
 rw[C3] at h2
 cases h2
 exact⟨cs,h3,lk 4 _ _ _ wT fuel _ _ h4⟩
theorem y7:Di.globalNamed "errors.errorType" = some 1:=by kernel_rfl
theorem et_rt:(Di.cutTypes.find? (·.1 == "internal/reflectlite.rtype")).map (·.2)=some 157:=by kernel_rfl
noncomputable def etN:Nat:=Di.types.size
theorem et_row:((List.range etN).filter fun t=>Di.rowNamed t [101,114,114,111,114])=[111]:=by kernel_rfl
theorem C5{W:World}(h:laidMetH Di laid3 W):W.cell? ⟨1,0,none⟩=some sJ:=by
 have h2:handlesMet Di (laid3.filter fun x=>x.2.handleName?.isSome) W:=(laidMetH_iff.1 h).2
 obtain⟨name,u,ty,e1,e2,e3,e4,e5⟩:=h2 ("errors.errorType",H9) (Gh.2 ⟨by simp,rfl⟩)
 have en:name=[101,114,114,111,114]:=(F4 e1).symm
 subst en
 obtain rfl:=F4 (et_rt.symm.trans e2)
 have hm:ty∈(List.range etN).filter fun t=>Di.rowNamed t [101,114,114,111,114]:=Gh.2 ⟨List.mem_range.2 e3,e4⟩
 rw[et_row] at hm
 obtain rfl:=List.mem_singleton.1 hm
 have hh:typeHandle Di 111=.pointer (some ⟨3,111,none⟩):=by kernel_rfl
 rw[hh] at e5
 show W.cell? ⟨1,0,none⟩=some (.iface 157 (.agg #[.pointer (some ⟨3,111,none⟩)]))
 simpa using World.var?_cell y7 e5 0
theorem mG{w:World}{av:Nat→Prop}{blk:Nat}{cs:Array Value}(hb:∀off,w.cell? ⟨blk,off,none⟩=cs[off]?)(hav:∀k,¬av k):∀(ys:List Value) (off:Nat),cs.toList.drop off=ys→RelCells w av blk off (ys.map .v)
 | [],_,_=>by simp[RelCells]
 | y::ys,off,h=>by
  have h1:cs[off]? = some y:=by
   have:=congrArg List.head? h
   rw[List.head?_drop] at this
   simpa using this
  have h2:cs.toList.drop (off+1)=ys:=by
   rw[←Hc,h];rfl
  simp only[Fm,RelCells]
  exact⟨⟨hav blk,y,by rw[hb,h1],by simp[RelP]⟩,mG hb hav ys (off+1) h2⟩
theorem rkD_eq:vz=rkCells.map .v:=rfl
theorem wU{W:World}(h:laidMetH Di laid3 W):∀g cs,Γq g=some cs→RelCells W (avs (fun _=>False) (fun _=>none) []) g 0 cs:=by
 intro g cs hg
 unfold Γq at hg
 split at hg
 ·have:=F4 hg
  subst this
  obtain⟨xs,h1,h2⟩:=y6 h
  rw[rkD_eq]
  exact mG (cs:=xs) (fun off=>World.var?_cell sL h1 off) jz _ 0 (by rw[List.drop_zero,h2])
 ·have:=F4 hg
  subst this
  simp only[RelCells]
  exact⟨⟨jz _,sJ,C5 h,by simp[RelP,sJ]⟩,trivial⟩
 ·cases hg
end Go.Vi
