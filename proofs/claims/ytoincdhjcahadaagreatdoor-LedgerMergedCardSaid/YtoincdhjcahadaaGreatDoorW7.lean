/- LedgerMerged: part of the proof: contracts of the functions that the law reaches, and the law. No conditions beyond the given statement's own. -/
import Derived.Test.YtoincdhjcahadaaGreatDoorW6
open Decidable renaming decide → Qd
open Go.Proofs.Tryz renaming f48 → Dg, prog → Ae, f33 → AC, f83 → BK, f32 → Dh, f17 → BT, f52 → FH, f11 → Ez
open Go.Vi.VPan renaming of_body → Fw
open List renaming nodup_nil → Er, length → Ag, map → Ad, all → DQ, take → B9, drop → Cg, length_cons → Bw, length_nil → B6, getElem?_eq_some_iff → An
open Go.IntKind renaming i64 → Ak, wrap → Av
open Int renaming toNat → AM
open Go.Vi.CW renaming out → FS, cast → AR, symX → AU, symPan → EU
open Go.Vi.VInvP renaming of_call → CB
open Go.Vi.D renaming agg → Al, fn → AO
open Go.Vi.MeT renaming row → Ar
open Go.Vi.GrT renaming row → Ap
open Go.Vi.BuT renaming row → Ai
open Go.LoopState renaming busy → Br, ready → AZ, exhausted → Dc
open Go.Fn renaming func → Aw
open Go.Exit renaming panic → Co, normal → A2, ret → Bj, exit → A1
open Go.Vi.EntT renaming st → Bf, row → Ax
open Bool renaming true_and → BI, true_or → CS, false_or → BO
open Go.Vi.Dp renaming sl → Az, v → AN
open Go.Value renaming bool → AG
open Nat renaming lt_succ_self → Cx
open Option.some renaming injEq → Af
open Go.Vi.Ev renaming castH → AB, sym0 → AF
open Go.Vi.Memo renaming ok_of → Dy
open Go Go.Proofs
namespace Go.Vi
set_option maxRecDepth 100000
set_option maxHeartbeats 4000000
theorem vQ:al Dg=.seq (.region (oG (cL (al Dg))) (bk (cL (al Dg))) false) (.cond (.tmp 5) (.region (oG (cL (cR (al Dg)))) (bk (cL (cR (al Dg)))) false) .skip):=by kernel_rfl
theorem lG:noCall.Ok Ae Γ0:=fun _ _ _ _ h=>by simp[noCall] at h
noncomputable abbrev dm0T(e:Int):List D:=mkT 9 0 [(0,bool false),(1,int e),(4,bool false),(5,bool true)]
noncomputable def dm1(e:Int):Option (Exit×List D×List Blk):=a5 Ae Γ0 noCall [] (bk (cL (cR (al Dg)))).toList (bk (cL (cR (al Dg)))).toList (dm0T e) []
noncomputable def dmC(e:Int):List PanicEntry:=match dm1 e with
 | some (.panic c,_,_)=>c
 | _=>[]
noncomputable def dmT(e:Int):List D:=match dm1 e with
 | some (_,t,_)=>t
 | _=>[]
theorem hJ(e:Int)(h:List Blk):VPan Ae Γ0 48 [bool false,int e] h fun c h'=>c=dmC e∧h'=h:=by
 refine Fw (fn:=Dg) (c:=al Dg) rfl rfl fun X _=>?_
 rw[vQ]
 refine VW.seq (VW.regionX (s:={t:=bJ Dg [bool false,int e],h:=h,m:=[]}) (t':=dm0T e) (h':=h) (e:=.normal) lG (by kernel_rfl) ?_)
 refine VW.cond (b:=true) rfl (fun _=>?_) (fun hf=>by cases hf)
 refine VW.regionX (s:={t:=dm0T e,h:=h,m:=[]}) (t':=dmT e) (h':=h) (e:=.panic (dmC e)) lG (by kernel_rfl) ?_
 exact⟨_,rfl,rfl,Er,rfl,rfl⟩
def lH(o:Oper):Operand:=match o.op with
 | .call {callee:=.value fv,.. }=>fv
 | _=>.tmp 0
def bW(o:Oper):Array Operand:=match o.op with
 | .call {args,.. }=>args
 | _=>#[]
def kB(o:Oper):Array TypeId:=match o.op with
 | .call {argTypes,.. }=>argTypes
 | _=>#[]
noncomputable abbrev r5O:Array Oper:=bk (cL (cI (al AC) 5))
noncomputable abbrev r5L:Oper:=ur r5O.toList
theorem zd:cI (al AC) 5=.seq (.region (oG (cL (cI (al AC) 5))) r5O true) (.exit 1):=by kernel_rfl
def noI:Inl:=fun _ _ _ _=>none
theorem wP:d6 Ae Γ0 noI:=fun _ _ _ _ _ _ _ _ h=>by simp[noI] at h
abbrev r5A(x:List EntT):List D:=mkT 45 0 [(4,.ref (.ptr 0 0)),(5,.ref (.ptr 7 0)),(6,int (Ak.wrap (((joV x).length:Int) - 1)))]
abbrev r5B(x:List EntT)(l n:EntT):List D:=mkT 45 0 [(4,.ref (.ptr 0 0)),(5,.ref (.ptr 7 0)),(6,int (Ak.wrap (((joV x).length:Int) - 1))),(26,.ref (.vec 3 1)),(27,int (Ak.wrap (((joV x).length:Int) - 1))),(28,.ref (.vp 3 1 (AM (Ak.wrap (((joV x).length:Int) - 1))) 0)),(29,ag l.row),(30,ag n.row),(31,bool false)]
theorem jo_r5{f:FuncId}{A B:List (List Dp)}{x:List EntT}{l n:EntT}(hi:inR (Ak.wrap (((joV x).length:Int) - 1)) (joV x).length=true)(hx:x[AM (Ak.wrap (((joV x).length:Int) - 1))]? = some l)(hsm:∀h,Ev Ae Γ0 42 [ag l.row,ag n.row] h (bool false) h):
  CW Ae Γ0 (joH f A B x 1 .ready [aY n]) true (cI (al AC) 5) {t:=r5A x,h:=joH f A B x 1 .busy [aY n,aY n],m:=[]} (.panic (dmC 390)) {t:=r5B x l n,h:=joH f A B x 1 .busy [aY n,aY n],m:=[]}:=by
 rw[zd]
 refine FS (by simp) (CW.drawPush (h1:=joH f A B x 1 .busy [aY n,aY n]) (ops:=r5O.pop) (o:=r5L) (fv:=lH r5L) (args:=bW r5L) (ats:=kB r5L) pok wP [.ov 29 (ag l.row),.val (bool false)]
  (φ:=[inR (Ak.wrap (((joV x).length:Int) - 1)) (joV x).length=true,Aa Ae 46 (joV x) 1 1 (AM (Ak.wrap (((joV x).length:Int) - 1))) 0 (ag l.row),Ev Ae Γ0 42 [ag l.row,ag n.row] (joH f A B x 1 .busy [aY n,aY n]) (bool false) (joH f A B x 1 .busy [aY n,aY n])])
  (by kernel_rfl) (by kernel_rfl) (by kernel_rfl) (by kernel_rfl) (by kernel_rfl) (by kernel_rfl) rfl (by kernel_rfl) ⟨hi,qU hx,hsm _,trivial⟩ ?_ rfl)
 have e1:evalD Γ0 (r5B x l n) (lH r5L)=.p (.v (.func (.func 48) #[] #[])):=by kernel_rfl
 have e2:(bW r5L).toList.map (evalD Γ0 (r5B x l n))=[bool false,int 390]:=by kernel_rfl
 rw[e1,e2]
 exact CB pok (f:=48) (fi:=[]) (ca:=[]) rfl (by kernel_rfl) (hJ 390 _)
theorem jo_pan{f:FuncId}{A B:List (List Dp)}{x:List EntT}{l n:EntT}{c:List PanicEntry}(_hk:Qd (Ak.wrap (((joV x).length:Int) - 1)≥0)=true)(hi:inR (Ak.wrap (((joV x).length:Int) - 1)) (joV x).length=true)(hx:x[AM (Ak.wrap (((joV x).length:Int) - 1))]? = some l)(he:(Qd (Ak.wrap (((joV x).length:Int) - 1)≥0)&&(l.st.time==n.time&&(l.st.campus==n.campus&&(l.st.no==n.no&&true))))=true)
  (hT:CW Ae Γ0 (joH f A B x 1 .ready [aY n]) true (cI (al AC) 5) {t:=r5A x,h:=joH f A B x 1 .busy [aY n,aY n],m:=[]} (.panic c) {t:=r5B x l n,h:=joH f A B x 1 .busy [aY n,aY n],m:=[]}):(CW Ae Γ0 (joH f A B x 1 .ready [aY n]) true (ae (sub AC 0)) {t:=joU,h:=joH f A B x 1 .busy [aY n,aY n],m:=[]} (.panic c) {t:=r5B x l n,h:=joH f A B x 1 .busy [aY n,aY n],m:=[]}):=by
 have hl0:=(@hT)
 exact AR (AU (s':={t:=mkT 45 0 [(4,.ref (.ptr 0 0)),(5,.ref (.ptr 7 0)),(6,int (Av Ak ((↑(Ag (joV x)):Int) - 1))),(26,.ref (.vec 3 1)),(27,int (Av Ak ((↑(Ag (joV x)):Int) - 1))),(28,.ref (.vp 3 1 (AM (Av Ak ((↑(Ag (joV x)):Int) - 1))) 0)),(29,Al [int l.time,int l.campus,int l.no,int l.kind,int l.stu,int l.obj,int l.term,int l.val,int l.frm,int l.til,ap l.text,int l.sec.id,int l.sec.course,int l.sec.term,int l.sec.campus,int l.sec.seats,aa (Ad Ar l.sec.mts),aa (Ad Ap l.sec.grs),aa (Ad ab l.sec.labs),bool l.sec.lab,int l.req.campus,int l.req.no,int l.req.st,int l.req.kind,int l.req.time,aa (Ad Ai l.req.chs),int l.req.gsec,int l.req.glab,int l.req.key,int l.r,int l.s]),(30,Al [int n.time,int n.campus,int n.no,int n.kind,int n.stu,int n.obj,int n.term,int n.val,int n.frm,int n.til,ap n.text,int n.sec.id,int n.sec.course,int n.sec.term,int n.sec.campus,int n.sec.seats,aa (Ad Ar n.sec.mts),aa (Ad Ap n.sec.grs),aa (Ad ab n.sec.labs),bool n.sec.lab,int n.req.campus,int n.req.no,int n.req.st,int n.req.kind,int n.req.time,aa (Ad Ai n.req.chs),int n.req.gsec,int n.req.glab,int n.req.key,int n.r,int n.s]),(31,bool false)],h:=[.var [.ref (.vec 3 1)],.var [aa A],.var [aa B],.vec (joV x) 1 31,.defd,.loop Br none f (mkT 45 0 [(4,.ref (.ptr 0 0)),(9,AO (Aw 83) [] [.ref (.ptr 1 0),.ref (.ptr 2 0)])]) {toList:=[10]} (aA (sub AC 0)) (ae (sub AC 0)),.var [int n.time,int n.campus,int n.no,int n.kind,int n.stu,int n.obj,int n.term,int n.val,int n.frm,int n.til,ap n.text,int n.sec.id,int n.sec.course,int n.sec.term,int n.sec.campus,int n.sec.seats,aa (Ad Ar n.sec.mts),aa (Ad Ap n.sec.grs),aa (Ad ab n.sec.labs),bool n.sec.lab,int n.req.campus,int n.req.no,int n.req.st,int n.req.kind,int n.req.time,aa (Ad Ai n.req.chs),int n.req.gsec,int n.req.glab,int n.req.key,int n.r,int n.s],.var [int n.time,int n.campus,int n.no,int n.kind,int n.stu,int n.obj,int n.term,int n.val,int n.frm,int n.til,ap n.text,int n.sec.id,int n.sec.course,int n.sec.term,int n.sec.campus,int n.sec.seats,aa (Ad Ar n.sec.mts),aa (Ad Ap n.sec.grs),aa (Ad ab n.sec.labs),bool n.sec.lab,int n.req.campus,int n.req.no,int n.req.st,int n.req.kind,int n.req.time,aa (Ad Ai n.req.chs),int n.req.gsec,int n.req.glab,int n.req.key,int n.r,int n.s]],m:=[]}) (e:=Co c) pok [] [.ov 21 (ag (StT.row (Bf l))),.b true,.ssum [4,5,6] (Co c) {t:=mkT 45 0 [(4,.ref (.ptr 0 0)),(5,.ref (.ptr 7 0)),(6,int (Av Ak ((↑(Ag (joV x)):Int) - 1))),(26,.ref (.vec 3 1)),(27,int (Av Ak ((↑(Ag (joV x)):Int) - 1))),(28,.ref (.vp 3 1 (AM (Av Ak ((↑(Ag (joV x)):Int) - 1))) 0)),(29,Al [int l.time,int l.campus,int l.no,int l.kind,int l.stu,int l.obj,int l.term,int l.val,int l.frm,int l.til,ap l.text,int l.sec.id,int l.sec.course,int l.sec.term,int l.sec.campus,int l.sec.seats,aa (Ad Ar l.sec.mts),aa (Ad Ap l.sec.grs),aa (Ad ab l.sec.labs),bool l.sec.lab,int l.req.campus,int l.req.no,int l.req.st,int l.req.kind,int l.req.time,aa (Ad Ai l.req.chs),int l.req.gsec,int l.req.glab,int l.req.key,int l.r,int l.s]),(30,Al [int n.time,int n.campus,int n.no,int n.kind,int n.stu,int n.obj,int n.term,int n.val,int n.frm,int n.til,ap n.text,int n.sec.id,int n.sec.course,int n.sec.term,int n.sec.campus,int n.sec.seats,aa (Ad Ar n.sec.mts),aa (Ad Ap n.sec.grs),aa (Ad ab n.sec.labs),bool n.sec.lab,int n.req.campus,int n.req.no,int n.req.st,int n.req.kind,int n.req.time,aa (Ad Ai n.req.chs),int n.req.gsec,int n.req.glab,int n.req.key,int n.r,int n.s]),(31,bool false)],h:=[.var [.ref (.vec 3 1)],.var [aa A],.var [aa B],.vec (joV x) 1 31,.defd,.loop Br none f (mkT 45 0 [(4,.ref (.ptr 0 0)),(9,AO (Aw 83) [] [.ref (.ptr 1 0),.ref (.ptr 2 0)])]) {toList:=[10]} (aA (sub AC 0)) (ae (sub AC 0)),.var [int n.time,int n.campus,int n.no,int n.kind,int n.stu,int n.obj,int n.term,int n.val,int n.frm,int n.til,ap n.text,int n.sec.id,int n.sec.course,int n.sec.term,int n.sec.campus,int n.sec.seats,aa (Ad Ar n.sec.mts),aa (Ad Ap n.sec.grs),aa (Ad ab n.sec.labs),bool n.sec.lab,int n.req.campus,int n.req.no,int n.req.st,int n.req.kind,int n.req.time,aa (Ad Ai n.req.chs),int n.req.gsec,int n.req.glab,int n.req.key,int n.r,int n.s],.var [int n.time,int n.campus,int n.no,int n.kind,int n.stu,int n.obj,int n.term,int n.val,int n.frm,int n.til,ap n.text,int n.sec.id,int n.sec.course,int n.sec.term,int n.sec.campus,int n.sec.seats,aa (Ad Ar n.sec.mts),aa (Ad Ap n.sec.grs),aa (Ad ab n.sec.labs),bool n.sec.lab,int n.req.campus,int n.req.no,int n.req.st,int n.req.kind,int n.req.time,aa (Ad Ai n.req.chs),int n.req.gsec,int n.req.glab,int n.req.key,int n.r,int n.s]]}] (by kernel_rfl) (.c (show Qd (Av Ak ((↑(Ag (joV x)):Int) - 1)≥0)=true→inR (Av Ak ((↑(Ag (joV x)):Int) - 1)) (Ag (joV x))=true from(fun hg=>hi)) (.c (show Qd (Av Ak ((↑(Ag (joV x)):Int) - 1)≥0)=true→bH Ae [.var [.ref (.vec 3 1)],.var [aa A],.var [aa B],.vec (joV x) 1 31,.defd,.loop Br none f (mkT 45 0 [(4,.ref (.ptr 0 0)),(9,AO (Aw 83) [] [.ref (.ptr 1 0),.ref (.ptr 2 0)])]) {toList:=[10]} (aA (sub AC 0)) (ae (sub AC 0)),.var [int n.time,int n.campus,int n.no,int n.kind,int n.stu,int n.obj,int n.term,int n.val,int n.frm,int n.til,ap n.text,int n.sec.id,int n.sec.course,int n.sec.term,int n.sec.campus,int n.sec.seats,aa (Ad Ar n.sec.mts),aa (Ad Ap n.sec.grs),aa (Ad ab n.sec.labs),bool n.sec.lab,int n.req.campus,int n.req.no,int n.req.st,int n.req.kind,int n.req.time,aa (Ad Ai n.req.chs),int n.req.gsec,int n.req.glab,int n.req.key,int n.r,int n.s],.var [int n.time,int n.campus,int n.no,int n.kind,int n.stu,int n.obj,int n.term,int n.val,int n.frm,int n.til,ap n.text,int n.sec.id,int n.sec.course,int n.sec.term,int n.sec.campus,int n.sec.seats,aa (Ad Ar n.sec.mts),aa (Ad Ap n.sec.grs),aa (Ad ab n.sec.labs),bool n.sec.lab,int n.req.campus,int n.req.no,int n.req.st,int n.req.kind,int n.req.time,aa (Ad Ai n.req.chs),int n.req.gsec,int n.req.glab,int n.req.key,int n.r,int n.s]] 28 (evalD Γ0 (Ad dd (mkT 45 0 [(4,.ref (.ptr 0 0)),(5,.ref (.ptr 7 0)),(6,int (Av Ak ((↑(Ag (joV x)):Int) - 1))),(11,.ref (.vec 3 1)),(12,int (↑(Ag (joV x)):Int)),(13,int (Av Ak ((↑(Ag (joV x)):Int) - 1))),(14,int (Av Ak ((↑(Ag (joV x)):Int) - 1))),(15,bool (Qd (Av Ak ((↑(Ag (joV x)):Int) - 1)≥0))),(16,bool (Qd (Av Ak ((↑(Ag (joV x)):Int) - 1)≥0))),(17,D.grd (Qd (Av Ak ((↑(Ag (joV x)):Int) - 1)≥0)) (.ref (.vec 3 1))),(18,D.grd (Qd (Av Ak ((↑(Ag (joV x)):Int) - 1)≥0)) (int (Av Ak ((↑(Ag (joV x)):Int) - 1)))),(19,D.grd (Qd (Av Ak ((↑(Ag (joV x)):Int) - 1)≥0)) (.ref (.vp 3 1 (AM (Av Ak ((↑(Ag (joV x)):Int) - 1))) 0))),(20,D.grd (Qd (Av Ak ((↑(Ag (joV x)):Int) - 1)≥0)) (.ref (.vp 3 1 (AM (Av Ak ((↑(Ag (joV x)):Int) - 1))) 0)))])) (Operand.tmp 20))=some (Al [int (Bf l).time,int (Bf l).campus,int (Bf l).no]) from(fun hg=>(by first|assumption|rfl|exact vK hx|exact vL hx rfl|exact bw _ _|exact bz _ _))) (.c he (.c hl0 .n))))) (by rfl) (by rfl)
theorem jo_ivp{A B:List (List Dp)}{x:List EntT}{n:EntT}(ho:∀e∈x,e.ok)(hl:x.length≤1000000)(hy:joF x n=none):VInvP Ae Γ0 (.ref (.yl 5)) [ag n.row] (joH 33 A B x 1 .ready [aY n]) fun c2 h2=>c2=dmC 390∧h2=joH 33 A B x 1 .busy [aY n,aY n]:=by
 unfold joF at hy
 cases hx:x.getLast? with
 | none=>rw[hx] at hy;cases hy
 | some l =>
  rw[hx] at hy
  obtain⟨hne,hg⟩:=qX hx
  have hpos:0<x.length:=List.length_pos_iff.2 hne
  have hw:Ak.wrap (((joV x).length:Int) - 1)=((x.length - 1:Nat):Int):=by
   rw[joV_len,wrap_i64 (by omega) (by omega)];omega
  have hk:Qd (Ak.wrap (((joV x).length:Int) - 1)≥0)=true:=by rw[hw];simp
  have hi:inR (Ak.wrap (((joV x).length:Int) - 1)) (joV x).length=true:=by rw[hw];simp[inR,joV_len];omega
  have hx2:x[AM (Ak.wrap (((joV x).length:Int) - 1))]? = some l:=by rw[hw,Int.toNat_natCast];exact hg
  simp only at hy
  cases hs:i7 l.st n.st with
  | false=>rw[hs] at hy;cases hy
  | true =>
   rw[hs] at hy
   simp only at hy
   cases hb:de l n with
   | true=>rw[hb] at hy;cases hy
   | false =>
    have hm:l∈x:=List.mem_of_getElem? hg
    have hT:=jo_r5 (f:=33) (A:=A) (B:=B) (n:=n) hi hx2 (fun h=>qW (ho l hm) hb h)
    exact tJ (h1:=joH 33 A B x 1 .ready [aY n,aY n]) (fn:=AC) (s2:={t:=r5B x l n,h:=joH 33 A B x 1 .busy [aY n,aY n],m:=[]}) rfl (by decide) rfl rfl qV rfl (jo_pan (f:=33) hk hi hx2 (by rw[hk,BI];exact hs) hT) rfl
noncomputable abbrev i6O:Array Oper:=bk (cL (cI (al BK) 6))
theorem ze:cI (al BK) 6=.seq (.region (oG (cL (cI (al BK) 6))) i6O false) (cR (cI (al BK) 6)):=by kernel_rfl
noncomputable abbrev i6L:Oper:=(i6O.toList.drop 2).headD default
abbrev i6A:List D:=mkT 49 0 [(0,.ref (.yl 5)),(5,.ref (.ptr 6 0))]
abbrev i6B(n:EntT):List D:=mkT 49 0 [(0,.ref (.yl 5)),(5,.ref (.ptr 6 0)),(45,.ref (.yl 5)),(46,ag n.row)]
theorem i6_pan{A B:List (List Dp)}{x:List EntT}{n:EntT}{c:List PanicEntry}{h0 hp:List Blk}(hm:af hp []=true)(hy:VInvP Ae Γ0 (.ref (.yl 5)) [ag n.row] (joH 33 A B x 1 .ready [aY n]) fun c2 h2=>c2=c∧h2=hp):
  CW Ae Γ0 h0 false (cI (al BK) 6) {t:=i6A,h:=joH 33 A B x 1 .ready [aY n],m:=[]} (.panic c) {t:=i6B n,h:=hp,m:=[]}:=by
 rw[ze]
 refine FS (by simp) (CW.callPan (os1:=i6O.toList.take 2) (rest:=i6O.toList.drop 3) (o:=i6L) (fv:=lH i6L) (args:=bW i6L) (ats:=kB i6L) (h1:=joH 33 A B x 1 .ready [aY n]) (by kernel_rfl) (by kernel_rfl) (by kernel_rfl) (by kernel_rfl) ?_ hm)
 have e1:evalD Γ0 (i6B n) (lH i6L)=.ref (.yl 5):=by kernel_rfl
 have e2:(bW i6L).toList.map (evalD Γ0 (i6B n))=[ag n.row]:=by kernel_rfl
 rw[e1,e2]
 exact hy
noncomputable abbrev j7(A:List (List Dp))(B:List (List Dp))(x:List EntT):List Blk:=[.var [.ref (.vec 3 1)],.var [aa A],.var [aa B],.vec (joV x) 1 31,.defd,.loop AZ none 33 (mkT 45 0 [(4,.ref (.ptr 0 0)),(9,AO (Aw 83) [] [.ref (.ptr 1 0),.ref (.ptr 2 0)])]) {toList:=[10]} (aA (sub AC 0)) (ae (sub AC 0))]
theorem it_pa1{A0 B0 A A' B:List (List Dp)}{x0 x:List EntT}{m n:EntT}{c:List PanicEntry}{hp:List Blk}(hAB:(Qd ((A.length:Int)>0)||Qd ((B.length:Int)>0))=true)(hb:Qd ((B.length:Int)>0)=false)(hra:ak 0 A n.row 31)(hrb:False→ak 0 B m.row 31)(hs:SlT A A')(hcd:(((A.length:Int)==0)||(Qd ((B.length:Int)>0)&&Qd (a6 ⟨m.time,m.campus,m.no⟩ ⟨n.time,n.campus,n.no⟩<0)))=false)
  (hT:CW Ae Γ0 (joH 33 A0 B0 x0 0 .ready []) false (cI (al BK) 6) {t:=i6A,h:=joH 33 A' B x 1 .ready [aY n],m:=[]} (.panic c) {t:=i6B n,h:=hp,m:=[]}):(CW Ae Γ0 (joH 33 A0 B0 x0 0 .ready []) false (sub BK 0) (itS 33 A B x) (.panic c) {t:=i6B n,h:=hp,m:=[]}):=by
 have hl0:=(@hT)
 exact AR (AU (s':={t:=mkT 49 0 [(0,.ref (.yl 5)),(5,.ref (.ptr 6 0)),(45,.ref (.yl 5)),(46,Al [int n.time,int n.campus,int n.no,int n.kind,int n.stu,int n.obj,int n.term,int n.val,int n.frm,int n.til,ap n.text,int n.sec.id,int n.sec.course,int n.sec.term,int n.sec.campus,int n.sec.seats,aa (Ad Ar n.sec.mts),aa (Ad Ap n.sec.grs),aa (Ad ab n.sec.labs),bool n.sec.lab,int n.req.campus,int n.req.no,int n.req.st,int n.req.kind,int n.req.time,aa (Ad Ai n.req.chs),int n.req.gsec,int n.req.glab,int n.req.key,int n.r,int n.s])],h:=hp,m:=[]}) (e:=Co c) pok [] [.b true,.row [vi m.time,vi m.campus,vi m.no,vi m.kind,vi m.stu,vi m.obj,vi m.term,vi m.val,vi m.frm,vi m.til,vs m.text,vi m.sec.id,vi m.sec.course,vi m.sec.term,vi m.sec.campus,vi m.sec.seats,Az (Ad Ar m.sec.mts),Az (Ad Ap m.sec.grs),Az (Ad ab m.sec.labs),AN (AG m.sec.lab),vi m.req.campus,vi m.req.no,vi m.req.st,vi m.req.kind,vi m.req.time,Az (Ad Ai m.req.chs),vi m.req.gsec,vi m.req.glab,vi m.req.key,vi m.r,vi m.s],.row [vi n.time,vi n.campus,vi n.no,vi n.kind,vi n.stu,vi n.obj,vi n.term,vi n.val,vi n.frm,vi n.til,vs n.text,vi n.sec.id,vi n.sec.course,vi n.sec.term,vi n.sec.campus,vi n.sec.seats,Az (Ad Ar n.sec.mts),Az (Ad Ap n.sec.grs),Az (Ad ab n.sec.labs),AN (AG n.sec.lab),vi n.req.campus,vi n.req.no,vi n.req.st,vi n.req.kind,vi n.req.time,Az (Ad Ai n.req.chs),vi n.req.gsec,vi n.req.glab,vi n.req.key,vi n.r,vi n.s],.val (int (a6 {time:=m.time,campus:=m.campus,no:=m.no} {time:=n.time,campus:=n.campus,no:=n.no})),.b false,.row [vi n.time,vi n.campus,vi n.no,vi n.kind,vi n.stu,vi n.obj,vi n.term,vi n.val,vi n.frm,vi n.til,vs n.text,vi n.sec.id,vi n.sec.course,vi n.sec.term,vi n.sec.campus,vi n.sec.seats,Az (Ad Ar n.sec.mts),Az (Ad Ap n.sec.grs),Az (Ad ab n.sec.labs),AN (AG n.sec.lab),vi n.req.campus,vi n.req.no,vi n.req.st,vi n.req.kind,vi n.req.time,Az (Ad Ai n.req.chs),vi n.req.gsec,vi n.req.glab,vi n.req.key,vi n.r,vi n.s],.ov 43 (aa A'),.ssum [0,5] (Co c) {t:=mkT 49 0 [(0,.ref (.yl 5)),(5,.ref (.ptr 6 0)),(45,.ref (.yl 5)),(46,Al [int n.time,int n.campus,int n.no,int n.kind,int n.stu,int n.obj,int n.term,int n.val,int n.frm,int n.til,ap n.text,int n.sec.id,int n.sec.course,int n.sec.term,int n.sec.campus,int n.sec.seats,aa (Ad Ar n.sec.mts),aa (Ad Ap n.sec.grs),aa (Ad ab n.sec.labs),bool n.sec.lab,int n.req.campus,int n.req.no,int n.req.st,int n.req.kind,int n.req.time,aa (Ad Ai n.req.chs),int n.req.gsec,int n.req.glab,int n.req.key,int n.r,int n.s])],h:=hp}] (by kernel_rfl) (.c hAB (.c (show(!(↑(Ag A):Int)==0&&Qd ((↑(Ag B):Int)>0))=true→ak 0 B [vi m.time,vi m.campus,vi m.no,vi m.kind,vi m.stu,vi m.obj,vi m.term,vi m.val,vi m.frm,vi m.til,vs m.text,vi m.sec.id,vi m.sec.course,vi m.sec.term,vi m.sec.campus,vi m.sec.seats,Az (Ad Ar m.sec.mts),Az (Ad Ap m.sec.grs),Az (Ad ab m.sec.labs),AN (AG m.sec.lab),vi m.req.campus,vi m.req.no,vi m.req.st,vi m.req.kind,vi m.req.time,Az (Ad Ai m.req.chs),vi m.req.gsec,vi m.req.glab,vi m.req.key,vi m.r,vi m.s] 31 from(fun hg=>(hrb (by first|exact hg|(simp at hg;done)|(simp_all;done))))) (.c (show(!(↑(Ag A):Int)==0&&Qd ((↑(Ag B):Int)>0))=true→ak 0 A [vi n.time,vi n.campus,vi n.no,vi n.kind,vi n.stu,vi n.obj,vi n.term,vi n.val,vi n.frm,vi n.til,vs n.text,vi n.sec.id,vi n.sec.course,vi n.sec.term,vi n.sec.campus,vi n.sec.seats,Az (Ad Ar n.sec.mts),Az (Ad Ap n.sec.grs),Az (Ad ab n.sec.labs),AN (AG n.sec.lab),vi n.req.campus,vi n.req.no,vi n.req.st,vi n.req.kind,vi n.req.time,Az (Ad Ai n.req.chs),vi n.req.gsec,vi n.req.glab,vi n.req.key,vi n.r,vi n.s] 31 from(fun hg=>hra)) (.c (show(!(↑(Ag A):Int)==0&&Qd ((↑(Ag B):Int)>0))=true→Ev Ae Γ0 43 [Al [int m.time,int m.campus,int m.no],Al [int n.time,int n.campus,int n.no]] (j7 A B x) (int (a6 {time:=m.time,campus:=m.campus,no:=m.no} {time:=n.time,campus:=n.campus,no:=n.no})) (j7 A B x) from(fun hg=>(@cQ ({time:=m.time,campus:=m.campus,no:=m.no}) ({time:=n.time,campus:=n.campus,no:=n.no}) ((j7 A B x))))) (.c hcd (.c hra (.c (show some (fG 1 (↑(Ag A):Int) (Ag A)&&true&&(true||false)&&DQ A fun r=>Qd (Ag r=31),aa (B9 (AM (↑(Ag A):Int) - AM 1) (Cg (AM 1) A)))=some (true,aa A') from(by first|(simp only[hAB,hb,hcd,cond_true,cond_false];done)|first|assumption|rfl|exact hs|(exfalso;simp_all;done))) (.c hl0 .n))))))))) (by rfl) (by rfl)
noncomputable abbrev j8(A:List (List Dp))(B:List (List Dp))(x:List EntT):List Blk:=[.var [.ref (.vec 3 1)],.var [aa A],.var [aa B],.vec (joV x) 1 31,.defd,.loop AZ none 33 (mkT 45 0 [(4,.ref (.ptr 0 0)),(9,AO (Aw 83) [] [.ref (.ptr 1 0),.ref (.ptr 2 0)])]) {toList:=[10]} (aA (sub AC 0)) (ae (sub AC 0))]
theorem it_pa2{A0 B0 A A' B:List (List Dp)}{x0 x:List EntT}{m n:EntT}{c:List PanicEntry}{hp:List Blk}(hAB:(Qd ((A.length:Int)>0)||Qd ((B.length:Int)>0))=true)(_hb:Qd ((B.length:Int)>0)=true)(hra:ak 0 A n.row 31)(hrb:ak 0 B m.row 31)(hs:SlT A A')(hcd:(((A.length:Int)==0)||(Qd ((B.length:Int)>0)&&Qd (a6 ⟨m.time,m.campus,m.no⟩ ⟨n.time,n.campus,n.no⟩<0)))=false)
  (hT:CW Ae Γ0 (joH 33 A0 B0 x0 0 .ready []) false (cI (al BK) 6) {t:=i6A,h:=joH 33 A' B x 1 .ready [aY n],m:=[]} (.panic c) {t:=i6B n,h:=hp,m:=[]}):(CW Ae Γ0 (joH 33 A0 B0 x0 0 .ready []) false (sub BK 0) (itS 33 A B x) (.panic c) {t:=i6B n,h:=hp,m:=[]}):=by
 have hl0:=(@hT)
 exact AR (AU (s':={t:=mkT 49 0 [(0,.ref (.yl 5)),(5,.ref (.ptr 6 0)),(45,.ref (.yl 5)),(46,Al [int n.time,int n.campus,int n.no,int n.kind,int n.stu,int n.obj,int n.term,int n.val,int n.frm,int n.til,ap n.text,int n.sec.id,int n.sec.course,int n.sec.term,int n.sec.campus,int n.sec.seats,aa (Ad Ar n.sec.mts),aa (Ad Ap n.sec.grs),aa (Ad ab n.sec.labs),bool n.sec.lab,int n.req.campus,int n.req.no,int n.req.st,int n.req.kind,int n.req.time,aa (Ad Ai n.req.chs),int n.req.gsec,int n.req.glab,int n.req.key,int n.r,int n.s])],h:=hp,m:=[]}) (e:=Co c) pok [] [.b true,.row [vi m.time,vi m.campus,vi m.no,vi m.kind,vi m.stu,vi m.obj,vi m.term,vi m.val,vi m.frm,vi m.til,vs m.text,vi m.sec.id,vi m.sec.course,vi m.sec.term,vi m.sec.campus,vi m.sec.seats,Az (Ad Ar m.sec.mts),Az (Ad Ap m.sec.grs),Az (Ad ab m.sec.labs),AN (AG m.sec.lab),vi m.req.campus,vi m.req.no,vi m.req.st,vi m.req.kind,vi m.req.time,Az (Ad Ai m.req.chs),vi m.req.gsec,vi m.req.glab,vi m.req.key,vi m.r,vi m.s],.row [vi n.time,vi n.campus,vi n.no,vi n.kind,vi n.stu,vi n.obj,vi n.term,vi n.val,vi n.frm,vi n.til,vs n.text,vi n.sec.id,vi n.sec.course,vi n.sec.term,vi n.sec.campus,vi n.sec.seats,Az (Ad Ar n.sec.mts),Az (Ad Ap n.sec.grs),Az (Ad ab n.sec.labs),AN (AG n.sec.lab),vi n.req.campus,vi n.req.no,vi n.req.st,vi n.req.kind,vi n.req.time,Az (Ad Ai n.req.chs),vi n.req.gsec,vi n.req.glab,vi n.req.key,vi n.r,vi n.s],.val (int (a6 {time:=m.time,campus:=m.campus,no:=m.no} {time:=n.time,campus:=n.campus,no:=n.no})),.b false,.row [vi n.time,vi n.campus,vi n.no,vi n.kind,vi n.stu,vi n.obj,vi n.term,vi n.val,vi n.frm,vi n.til,vs n.text,vi n.sec.id,vi n.sec.course,vi n.sec.term,vi n.sec.campus,vi n.sec.seats,Az (Ad Ar n.sec.mts),Az (Ad Ap n.sec.grs),Az (Ad ab n.sec.labs),AN (AG n.sec.lab),vi n.req.campus,vi n.req.no,vi n.req.st,vi n.req.kind,vi n.req.time,Az (Ad Ai n.req.chs),vi n.req.gsec,vi n.req.glab,vi n.req.key,vi n.r,vi n.s],.ov 43 (aa A'),.ssum [0,5] (Co c) {t:=mkT 49 0 [(0,.ref (.yl 5)),(5,.ref (.ptr 6 0)),(45,.ref (.yl 5)),(46,Al [int n.time,int n.campus,int n.no,int n.kind,int n.stu,int n.obj,int n.term,int n.val,int n.frm,int n.til,ap n.text,int n.sec.id,int n.sec.course,int n.sec.term,int n.sec.campus,int n.sec.seats,aa (Ad Ar n.sec.mts),aa (Ad Ap n.sec.grs),aa (Ad ab n.sec.labs),bool n.sec.lab,int n.req.campus,int n.req.no,int n.req.st,int n.req.kind,int n.req.time,aa (Ad Ai n.req.chs),int n.req.gsec,int n.req.glab,int n.req.key,int n.r,int n.s])],h:=hp}] (by kernel_rfl) (.c hAB (.c (show(!(↑(Ag A):Int)==0&&Qd ((↑(Ag B):Int)>0))=true→ak 0 B [vi m.time,vi m.campus,vi m.no,vi m.kind,vi m.stu,vi m.obj,vi m.term,vi m.val,vi m.frm,vi m.til,vs m.text,vi m.sec.id,vi m.sec.course,vi m.sec.term,vi m.sec.campus,vi m.sec.seats,Az (Ad Ar m.sec.mts),Az (Ad Ap m.sec.grs),Az (Ad ab m.sec.labs),AN (AG m.sec.lab),vi m.req.campus,vi m.req.no,vi m.req.st,vi m.req.kind,vi m.req.time,Az (Ad Ai m.req.chs),vi m.req.gsec,vi m.req.glab,vi m.req.key,vi m.r,vi m.s] 31 from(fun hg=>hrb)) (.c (show(!(↑(Ag A):Int)==0&&Qd ((↑(Ag B):Int)>0))=true→ak 0 A [vi n.time,vi n.campus,vi n.no,vi n.kind,vi n.stu,vi n.obj,vi n.term,vi n.val,vi n.frm,vi n.til,vs n.text,vi n.sec.id,vi n.sec.course,vi n.sec.term,vi n.sec.campus,vi n.sec.seats,Az (Ad Ar n.sec.mts),Az (Ad Ap n.sec.grs),Az (Ad ab n.sec.labs),AN (AG n.sec.lab),vi n.req.campus,vi n.req.no,vi n.req.st,vi n.req.kind,vi n.req.time,Az (Ad Ai n.req.chs),vi n.req.gsec,vi n.req.glab,vi n.req.key,vi n.r,vi n.s] 31 from(fun hg=>hra)) (.c (show(!(↑(Ag A):Int)==0&&Qd ((↑(Ag B):Int)>0))=true→Ev Ae Γ0 43 [Al [int m.time,int m.campus,int m.no],Al [int n.time,int n.campus,int n.no]] (j8 A B x) (int (a6 {time:=m.time,campus:=m.campus,no:=m.no} {time:=n.time,campus:=n.campus,no:=n.no})) (j8 A B x) from(fun hg=>(@cQ ({time:=m.time,campus:=m.campus,no:=m.no}) ({time:=n.time,campus:=n.campus,no:=n.no}) ((j8 A B x))))) (.c hcd (.c hra (.c (show some (fG 1 (↑(Ag A):Int) (Ag A)&&true&&(true||false)&&DQ A fun r=>Qd (Ag r=31),aa (B9 (AM (↑(Ag A):Int) - AM 1) (Cg (AM 1) A)))=some (true,aa A') from(by first|(simp only[hAB,hb,hcd,cond_true,cond_false];done)|first|assumption|rfl|exact hs|(exfalso;simp_all;done))) (.c hl0 .n))))))))) (by rfl) (by rfl)
noncomputable abbrev j9(A:List (List Dp))(B:List (List Dp))(x:List EntT):List Blk:=[.var [.ref (.vec 3 1)],.var [aa A],.var [aa B],.vec (joV x) 1 31,.defd,.loop AZ none 33 (mkT 45 0 [(4,.ref (.ptr 0 0)),(9,AO (Aw 83) [] [.ref (.ptr 1 0),.ref (.ptr 2 0)])]) {toList:=[10]} (aA (sub AC 0)) (ae (sub AC 0))]
theorem it_pb1{A0 B0 A B B':List (List Dp)}{x0 x:List EntT}{m n:EntT}{c:List PanicEntry}{hp:List Blk}(hAB:(Qd ((A.length:Int)>0)||Qd ((B.length:Int)>0))=true)(ha:((A.length:Int)==0)=true)(hra:False→ak 0 A n.row 31)(hrb:ak 0 B m.row 31)(hs:SlT B B')(hcd:(((A.length:Int)==0)||(Qd ((B.length:Int)>0)&&Qd (a6 ⟨m.time,m.campus,m.no⟩ ⟨n.time,n.campus,n.no⟩<0)))=true)
  (hT:CW Ae Γ0 (joH 33 A0 B0 x0 0 .ready []) false (cI (al BK) 6) {t:=i6A,h:=joH 33 A B' x 1 .ready [aY m],m:=[]} (.panic c) {t:=i6B m,h:=hp,m:=[]}):(CW Ae Γ0 (joH 33 A0 B0 x0 0 .ready []) false (sub BK 0) (itS 33 A B x) (.panic c) {t:=i6B m,h:=hp,m:=[]}):=by
 have hl0:=(@hT)
 exact AR (AU (s':={t:=mkT 49 0 [(0,.ref (.yl 5)),(5,.ref (.ptr 6 0)),(45,.ref (.yl 5)),(46,Al [int m.time,int m.campus,int m.no,int m.kind,int m.stu,int m.obj,int m.term,int m.val,int m.frm,int m.til,ap m.text,int m.sec.id,int m.sec.course,int m.sec.term,int m.sec.campus,int m.sec.seats,aa (Ad Ar m.sec.mts),aa (Ad Ap m.sec.grs),aa (Ad ab m.sec.labs),bool m.sec.lab,int m.req.campus,int m.req.no,int m.req.st,int m.req.kind,int m.req.time,aa (Ad Ai m.req.chs),int m.req.gsec,int m.req.glab,int m.req.key,int m.r,int m.s])],h:=hp,m:=[]}) (e:=Co c) pok [] [.b true,.row [vi m.time,vi m.campus,vi m.no,vi m.kind,vi m.stu,vi m.obj,vi m.term,vi m.val,vi m.frm,vi m.til,vs m.text,vi m.sec.id,vi m.sec.course,vi m.sec.term,vi m.sec.campus,vi m.sec.seats,Az (Ad Ar m.sec.mts),Az (Ad Ap m.sec.grs),Az (Ad ab m.sec.labs),AN (AG m.sec.lab),vi m.req.campus,vi m.req.no,vi m.req.st,vi m.req.kind,vi m.req.time,Az (Ad Ai m.req.chs),vi m.req.gsec,vi m.req.glab,vi m.req.key,vi m.r,vi m.s],.row [vi n.time,vi n.campus,vi n.no,vi n.kind,vi n.stu,vi n.obj,vi n.term,vi n.val,vi n.frm,vi n.til,vs n.text,vi n.sec.id,vi n.sec.course,vi n.sec.term,vi n.sec.campus,vi n.sec.seats,Az (Ad Ar n.sec.mts),Az (Ad Ap n.sec.grs),Az (Ad ab n.sec.labs),AN (AG n.sec.lab),vi n.req.campus,vi n.req.no,vi n.req.st,vi n.req.kind,vi n.req.time,Az (Ad Ai n.req.chs),vi n.req.gsec,vi n.req.glab,vi n.req.key,vi n.r,vi n.s],.val (int (a6 {time:=m.time,campus:=m.campus,no:=m.no} {time:=n.time,campus:=n.campus,no:=n.no})),.b true,.row [vi m.time,vi m.campus,vi m.no,vi m.kind,vi m.stu,vi m.obj,vi m.term,vi m.val,vi m.frm,vi m.til,vs m.text,vi m.sec.id,vi m.sec.course,vi m.sec.term,vi m.sec.campus,vi m.sec.seats,Az (Ad Ar m.sec.mts),Az (Ad Ap m.sec.grs),Az (Ad ab m.sec.labs),AN (AG m.sec.lab),vi m.req.campus,vi m.req.no,vi m.req.st,vi m.req.kind,vi m.req.time,Az (Ad Ai m.req.chs),vi m.req.gsec,vi m.req.glab,vi m.req.key,vi m.r,vi m.s],.ov 43 (aa B'),.ssum [0,5] (Co c) {t:=mkT 49 0 [(0,.ref (.yl 5)),(5,.ref (.ptr 6 0)),(45,.ref (.yl 5)),(46,Al [int m.time,int m.campus,int m.no,int m.kind,int m.stu,int m.obj,int m.term,int m.val,int m.frm,int m.til,ap m.text,int m.sec.id,int m.sec.course,int m.sec.term,int m.sec.campus,int m.sec.seats,aa (Ad Ar m.sec.mts),aa (Ad Ap m.sec.grs),aa (Ad ab m.sec.labs),bool m.sec.lab,int m.req.campus,int m.req.no,int m.req.st,int m.req.kind,int m.req.time,aa (Ad Ai m.req.chs),int m.req.gsec,int m.req.glab,int m.req.key,int m.r,int m.s])],h:=hp}] (by kernel_rfl) (.c hAB (.c (show(!(↑(Ag A):Int)==0&&Qd ((↑(Ag B):Int)>0))=true→ak 0 B [vi m.time,vi m.campus,vi m.no,vi m.kind,vi m.stu,vi m.obj,vi m.term,vi m.val,vi m.frm,vi m.til,vs m.text,vi m.sec.id,vi m.sec.course,vi m.sec.term,vi m.sec.campus,vi m.sec.seats,Az (Ad Ar m.sec.mts),Az (Ad Ap m.sec.grs),Az (Ad ab m.sec.labs),AN (AG m.sec.lab),vi m.req.campus,vi m.req.no,vi m.req.st,vi m.req.kind,vi m.req.time,Az (Ad Ai m.req.chs),vi m.req.gsec,vi m.req.glab,vi m.req.key,vi m.r,vi m.s] 31 from(fun hg=>hrb)) (.c (show(!(↑(Ag A):Int)==0&&Qd ((↑(Ag B):Int)>0))=true→ak 0 A [vi n.time,vi n.campus,vi n.no,vi n.kind,vi n.stu,vi n.obj,vi n.term,vi n.val,vi n.frm,vi n.til,vs n.text,vi n.sec.id,vi n.sec.course,vi n.sec.term,vi n.sec.campus,vi n.sec.seats,Az (Ad Ar n.sec.mts),Az (Ad Ap n.sec.grs),Az (Ad ab n.sec.labs),AN (AG n.sec.lab),vi n.req.campus,vi n.req.no,vi n.req.st,vi n.req.kind,vi n.req.time,Az (Ad Ai n.req.chs),vi n.req.gsec,vi n.req.glab,vi n.req.key,vi n.r,vi n.s] 31 from(fun hg=>(hra (by first|exact hg|(simp at hg;done)|(simp_all;done))))) (.c (show(!(↑(Ag A):Int)==0&&Qd ((↑(Ag B):Int)>0))=true→Ev Ae Γ0 43 [Al [int m.time,int m.campus,int m.no],Al [int n.time,int n.campus,int n.no]] (j9 A B x) (int (a6 {time:=m.time,campus:=m.campus,no:=m.no} {time:=n.time,campus:=n.campus,no:=n.no})) (j9 A B x) from(fun hg=>(@cQ ({time:=m.time,campus:=m.campus,no:=m.no}) ({time:=n.time,campus:=n.campus,no:=n.no}) ((j9 A B x))))) (.c hcd (.c hrb (.c (show some (fG 1 (↑(Ag B):Int) (Ag B)&&true&&(true||false)&&DQ B fun r=>Qd (Ag r=31),aa (B9 (AM (↑(Ag B):Int) - AM 1) (Cg (AM 1) B)))=some (true,aa B') from(by first|(simp only[hAB,ha,hcd,cond_true,cond_false];done)|first|assumption|rfl|exact hs|(exfalso;simp_all;done))) (.c hl0 .n))))))))) (by rfl) (by rfl)
noncomputable abbrev ka(A:List (List Dp))(B:List (List Dp))(x:List EntT):List Blk:=[.var [.ref (.vec 3 1)],.var [aa A],.var [aa B],.vec (joV x) 1 31,.defd,.loop AZ none 33 (mkT 45 0 [(4,.ref (.ptr 0 0)),(9,AO (Aw 83) [] [.ref (.ptr 1 0),.ref (.ptr 2 0)])]) {toList:=[10]} (aA (sub AC 0)) (ae (sub AC 0))]
theorem it_pb2{A0 B0 A B B':List (List Dp)}{x0 x:List EntT}{m n:EntT}{c:List PanicEntry}{hp:List Blk}(hAB:(Qd ((A.length:Int)>0)||Qd ((B.length:Int)>0))=true)(_ha:((A.length:Int)==0)=false)(_hb:Qd ((B.length:Int)>0)=true)(hra:ak 0 A n.row 31)(hrb:ak 0 B m.row 31)(hs:SlT B B')(hcd:(((A.length:Int)==0)||(Qd ((B.length:Int)>0)&&Qd (a6 ⟨m.time,m.campus,m.no⟩ ⟨n.time,n.campus,n.no⟩<0)))=true)
  (hT:CW Ae Γ0 (joH 33 A0 B0 x0 0 .ready []) false (cI (al BK) 6) {t:=i6A,h:=joH 33 A B' x 1 .ready [aY m],m:=[]} (.panic c) {t:=i6B m,h:=hp,m:=[]}):(CW Ae Γ0 (joH 33 A0 B0 x0 0 .ready []) false (sub BK 0) (itS 33 A B x) (.panic c) {t:=i6B m,h:=hp,m:=[]}):=by
 have hl0:=(@hT)
 exact AR (AU (s':={t:=mkT 49 0 [(0,.ref (.yl 5)),(5,.ref (.ptr 6 0)),(45,.ref (.yl 5)),(46,Al [int m.time,int m.campus,int m.no,int m.kind,int m.stu,int m.obj,int m.term,int m.val,int m.frm,int m.til,ap m.text,int m.sec.id,int m.sec.course,int m.sec.term,int m.sec.campus,int m.sec.seats,aa (Ad Ar m.sec.mts),aa (Ad Ap m.sec.grs),aa (Ad ab m.sec.labs),bool m.sec.lab,int m.req.campus,int m.req.no,int m.req.st,int m.req.kind,int m.req.time,aa (Ad Ai m.req.chs),int m.req.gsec,int m.req.glab,int m.req.key,int m.r,int m.s])],h:=hp,m:=[]}) (e:=Co c) pok [] [.b true,.row [vi m.time,vi m.campus,vi m.no,vi m.kind,vi m.stu,vi m.obj,vi m.term,vi m.val,vi m.frm,vi m.til,vs m.text,vi m.sec.id,vi m.sec.course,vi m.sec.term,vi m.sec.campus,vi m.sec.seats,Az (Ad Ar m.sec.mts),Az (Ad Ap m.sec.grs),Az (Ad ab m.sec.labs),AN (AG m.sec.lab),vi m.req.campus,vi m.req.no,vi m.req.st,vi m.req.kind,vi m.req.time,Az (Ad Ai m.req.chs),vi m.req.gsec,vi m.req.glab,vi m.req.key,vi m.r,vi m.s],.row [vi n.time,vi n.campus,vi n.no,vi n.kind,vi n.stu,vi n.obj,vi n.term,vi n.val,vi n.frm,vi n.til,vs n.text,vi n.sec.id,vi n.sec.course,vi n.sec.term,vi n.sec.campus,vi n.sec.seats,Az (Ad Ar n.sec.mts),Az (Ad Ap n.sec.grs),Az (Ad ab n.sec.labs),AN (AG n.sec.lab),vi n.req.campus,vi n.req.no,vi n.req.st,vi n.req.kind,vi n.req.time,Az (Ad Ai n.req.chs),vi n.req.gsec,vi n.req.glab,vi n.req.key,vi n.r,vi n.s],.val (int (a6 {time:=m.time,campus:=m.campus,no:=m.no} {time:=n.time,campus:=n.campus,no:=n.no})),.b true,.row [vi m.time,vi m.campus,vi m.no,vi m.kind,vi m.stu,vi m.obj,vi m.term,vi m.val,vi m.frm,vi m.til,vs m.text,vi m.sec.id,vi m.sec.course,vi m.sec.term,vi m.sec.campus,vi m.sec.seats,Az (Ad Ar m.sec.mts),Az (Ad Ap m.sec.grs),Az (Ad ab m.sec.labs),AN (AG m.sec.lab),vi m.req.campus,vi m.req.no,vi m.req.st,vi m.req.kind,vi m.req.time,Az (Ad Ai m.req.chs),vi m.req.gsec,vi m.req.glab,vi m.req.key,vi m.r,vi m.s],.ov 43 (aa B'),.ssum [0,5] (Co c) {t:=mkT 49 0 [(0,.ref (.yl 5)),(5,.ref (.ptr 6 0)),(45,.ref (.yl 5)),(46,Al [int m.time,int m.campus,int m.no,int m.kind,int m.stu,int m.obj,int m.term,int m.val,int m.frm,int m.til,ap m.text,int m.sec.id,int m.sec.course,int m.sec.term,int m.sec.campus,int m.sec.seats,aa (Ad Ar m.sec.mts),aa (Ad Ap m.sec.grs),aa (Ad ab m.sec.labs),bool m.sec.lab,int m.req.campus,int m.req.no,int m.req.st,int m.req.kind,int m.req.time,aa (Ad Ai m.req.chs),int m.req.gsec,int m.req.glab,int m.req.key,int m.r,int m.s])],h:=hp}] (by kernel_rfl) (.c hAB (.c (show(!(↑(Ag A):Int)==0&&Qd ((↑(Ag B):Int)>0))=true→ak 0 B [vi m.time,vi m.campus,vi m.no,vi m.kind,vi m.stu,vi m.obj,vi m.term,vi m.val,vi m.frm,vi m.til,vs m.text,vi m.sec.id,vi m.sec.course,vi m.sec.term,vi m.sec.campus,vi m.sec.seats,Az (Ad Ar m.sec.mts),Az (Ad Ap m.sec.grs),Az (Ad ab m.sec.labs),AN (AG m.sec.lab),vi m.req.campus,vi m.req.no,vi m.req.st,vi m.req.kind,vi m.req.time,Az (Ad Ai m.req.chs),vi m.req.gsec,vi m.req.glab,vi m.req.key,vi m.r,vi m.s] 31 from(fun hg=>hrb)) (.c (show(!(↑(Ag A):Int)==0&&Qd ((↑(Ag B):Int)>0))=true→ak 0 A [vi n.time,vi n.campus,vi n.no,vi n.kind,vi n.stu,vi n.obj,vi n.term,vi n.val,vi n.frm,vi n.til,vs n.text,vi n.sec.id,vi n.sec.course,vi n.sec.term,vi n.sec.campus,vi n.sec.seats,Az (Ad Ar n.sec.mts),Az (Ad Ap n.sec.grs),Az (Ad ab n.sec.labs),AN (AG n.sec.lab),vi n.req.campus,vi n.req.no,vi n.req.st,vi n.req.kind,vi n.req.time,Az (Ad Ai n.req.chs),vi n.req.gsec,vi n.req.glab,vi n.req.key,vi n.r,vi n.s] 31 from(fun hg=>hra)) (.c (show(!(↑(Ag A):Int)==0&&Qd ((↑(Ag B):Int)>0))=true→Ev Ae Γ0 43 [Al [int m.time,int m.campus,int m.no],Al [int n.time,int n.campus,int n.no]] (ka A B x) (int (a6 {time:=m.time,campus:=m.campus,no:=m.no} {time:=n.time,campus:=n.campus,no:=n.no})) (ka A B x) from(fun hg=>(@cQ ({time:=m.time,campus:=m.campus,no:=m.no}) ({time:=n.time,campus:=n.campus,no:=n.no}) ((ka A B x))))) (.c hcd (.c hrb (.c (show some (fG 1 (↑(Ag B):Int) (Ag B)&&true&&(true||false)&&DQ B fun r=>Qd (Ag r=31),aa (B9 (AM (↑(Ag B):Int) - AM 1) (Cg (AM 1) B)))=some (true,aa B') from(by first|(simp only[hAB,ha,hb,hcd,cond_true,cond_false];done)|first|assumption|rfl|exact hs|(exfalso;simp_all;done))) (.c hl0 .n))))))))) (by rfl) (by rfl)
structure Cfl where
 a:List EntT
 b:List EntT
 x:List EntT
 n:EntT
def joE:Nat→List EntT→List EntT→List EntT→Option Cfl
 | 0,_,_,_=>none
 | _+1,[],[],_=>none
 | k+1,[],m::b,x=>match joF x m with
  | some x'=>joE k [] b x'
  | none=>some ⟨[],b,x,m⟩
 | k+1,n::a,[],x=>match joF x n with
  | some x'=>joE k a [] x'
  | none=>some ⟨a,[],x,n⟩
 | k+1,n::a,m::b,x=>match Qd (a6 m.st n.st<0) with
  | true=>match joF x m with
   | some x'=>joE k (n::a) b x'
   | none=>some ⟨n::a,b,x,m⟩
  | false=>match joF x n with
   | some x'=>joE k a (m::b) x'
   | none=>some ⟨a,m::b,x,n⟩
theorem oH:∀(k:Nat) (a b x:List EntT),joG k a b x=none→∃E,joE k a b x=some E
 | 0,_,_,_,h=>by simp[joG] at h
 | _+1,[],[],_,h=>by simp[joG] at h
 | k+1,[],m::b,x,h=>by
  simp only[joG] at h
  simp only[joE]
  cases hx:joF x m with
  | none=>exact⟨_,rfl⟩
  | some x'=>rw[hx] at h;exact oH k _ _ _ h
 | k+1,n::a,[],x,h=>by
  simp only[joG] at h
  simp only[joE]
  cases hx:joF x n with
  | none=>exact⟨_,rfl⟩
  | some x'=>rw[hx] at h;exact oH k _ _ _ h
 | k+1,n::a,m::b,x,h=>by
  simp only[joG] at h
  simp only[joE]
  cases hc:Qd (a6 m.st n.st<0) with
  | true =>
   rw[hc] at h
   simp only at h ⊢
   cases hx:joF x m with
   | none=>exact⟨_,rfl⟩
   | some x'=>rw[hx] at h;exact oH k _ _ _ h
  | false =>
   rw[hc] at h
   simp only at h ⊢
   cases hx:joF x n with
   | none=>exact⟨_,rfl⟩
   | some x'=>rw[hx] at h;exact oH k _ _ _ h
structure JoC (a b x:List EntT) (k:Nat) (E:Cfl):Prop where
 kk:a.length+b.length=k
 l:x.length+a.length+b.length≤1000000
 oa:∀e∈a,e.ok
 ob:∀e∈b,e.ok
 ox:∀e∈x,e.ok
 g:joE k a b x=some E
theorem JoC.step_b{a b x x':List EntT}{E:Cfl}{m:EntT}{k:Nat}(I:JoC a (m::b) x (k+1) E)(hx:joF x m=some x')(hg:joE k a b x'=some E):JoC a b x' k E:=by
 have h1:=I.kk
 have h2:=I.l
 have h3:=eB hx
 simp only[Bw] at h1 h2
 refine⟨by omega,by omega,I.oa,fun e he=>I.ob e (by simp[he]),fun e he=>?_,hg⟩
 rcases joF_mem hx e he with h|h
 ·exact I.ox e h
 ·exact I.ob e (by simp[h])
theorem JoC.step_a{a b x x':List EntT}{E:Cfl}{n:EntT}{k:Nat}(I:JoC (n::a) b x (k+1) E)(hx:joF x n=some x')(hg:joE k a b x'=some E):JoC a b x' k E:=by
 have h1:=I.kk
 have h2:=I.l
 have h3:=eB hx
 simp only[Bw] at h1 h2
 refine⟨by omega,by omega,fun e he=>I.oa e (by simp[he]),I.ob,fun e he=>?_,hg⟩
 rcases joF_mem hx e he with h|h
 ·exact I.ox e h
 ·exact I.oa e (by simp[h])
noncomputable abbrev cfH(E:Cfl):List Blk:=joH 33 (E.a.map Ax) (E.b.map Ax) E.x 1 .busy [aY E.n,aY E.n]
theorem vR{a b x:List EntT}{n:EntT}{h0:List Blk}(ox:∀e∈x,e.ok)(hl:x.length≤1000000)(hx:joF x n=none):
  CW Ae Γ0 h0 false (cI (al BK) 6) {t:=i6A,h:=joH 33 (a.map Ax) (b.map Ax) x 1 .ready [aY n],m:=[]} (.panic (dmC 390)) {t:=i6B n,h:=cfH ⟨a,b,x,n⟩,m:=[]}:=i6_pan rfl (jo_ivp ox hl hx)
theorem jo_cwP{a b x:List EntT}{E:Cfl}{k:Nat}(I:JoC a b x k E){A0 B0:List (List Dp)}{x0:List EntT}:
  CW Ae Γ0 (joH 33 A0 B0 x0 0 .ready []) false (.loop (sub BK 0)) (itS 33 (a.map Ax) (b.map Ax) x) (.panic (dmC 390)) {t:=i6B E.n,h:=cfH E,m:=[]}:=by
 refine CW.loop (ι:={p:List EntT×List EntT×List EntT×Nat // JoC p.1 p.2.1 p.2.2.1 p.2.2.2 E}) (fun p=>itS 33 (p.1.1.map Ax) (p.1.2.1.map Ax) p.1.2.2.1) (fun _=>(.panic (dmC 390),{t:=i6B E.n,h:=cfH E,m:=[]})) (fun p=>p.1.2.2.2) ?_ ⟨(a,b,x,k),I⟩
 rintro⟨⟨a,b,x,k⟩,I⟩
 have hl:x.length≤1000000:=by have:=I.l;simp only at this;omega
 match a,b,k,I with
 | [],[],k,I =>
  have:=I.g
  cases k<;>simp[joE] at this
 | [],m::b,0,I=>have:=I.kk;simp at this
 | n::a,_,0,I=>have:=I.kk;simp at this
 | [],m::b,k+1,I =>
  have hg:=I.g
  simp only[joE] at hg
  cases hx:joF x m with
  | none =>
   rw[hx] at hg
   cases hg
   right
   refine⟨by simp,?_⟩
   exact it_pb1 (n:=m) (m:=m) (by rw[aR,Bool.or_true]) rfl (fun h=>h.elim) (na m b) (bN b m) rfl (vR (a:=[]) I.ox hl hx)
  | some x' =>
   rw[hx] at hg
   left
   refine⟨⟨([],b,x',k),I.step_b hx hg⟩,Cx k,rfl,?_⟩
   exact it_b1 (n:=m) (m:=m) (by rw[aR,Bool.or_true]) rfl (fun h=>h.elim) (na m b) (bN b m) rfl (eC I.ox hl hx)
 | n::a,[],k+1,I =>
  have hg:=I.g
  simp only[joE] at hg
  cases hx:joF x n with
  | none =>
   rw[hx] at hg
   cases hg
   right
   refine⟨by simp,?_⟩
   exact it_pa1 (n:=n) (m:=n) (by rw[aR,CS]) rfl (na n a) (fun h=>h.elim) (bN a n) (by rw[d5,BO];rfl) (vR (b:=[]) I.ox hl hx)
  | some x' =>
   rw[hx] at hg
   left
   refine⟨⟨(a,[],x',k),I.step_a hx hg⟩,Cx k,rfl,?_⟩
   exact it_a1 (n:=n) (m:=n) (by rw[aR,CS]) rfl (na n a) (fun h=>h.elim) (bN a n) (by rw[d5,BO];rfl) (eC I.ox hl hx)
 | n::a,m::b,k+1,I =>
  have hg:=I.g
  simp only[joE] at hg
  cases hc:Qd (a6 m.st n.st<0) with
  | true =>
   rw[hc] at hg
   simp only at hg
   cases hx:joF x m with
   | none =>
    rw[hx] at hg
    cases hg
    right
    refine⟨by simp,?_⟩
    exact it_pb2 (n:=n) (m:=m) (by rw[aR,CS]) (d5 n a) (aR m b) (na n a) (na m b) (bN b m) (by rw[d5,aR,BO,BI];exact hc) (vR (a:=n::a) I.ox hl hx)
   | some x' =>
    rw[hx] at hg
    left
    refine⟨⟨(n::a,b,x',k),I.step_b hx hg⟩,Cx k,rfl,?_⟩
    exact it_b2 (n:=n) (m:=m) (by rw[aR,CS]) (d5 n a) (aR m b) (na n a) (na m b) (bN b m) (by rw[d5,aR,BO,BI];exact hc) (eC I.ox hl hx)
  | false =>
   rw[hc] at hg
   simp only at hg
   cases hx:joF x n with
   | none =>
    rw[hx] at hg
    cases hg
    right
    refine⟨by simp,?_⟩
    exact it_pa2 (n:=n) (m:=m) (by rw[aR,CS]) (aR m b) (na n a) (na m b) (bN a n) (by rw[d5,aR,BO,BI];exact hc) (vR (b:=m::b) I.ox hl hx)
   | some x' =>
    rw[hx] at hg
    left
    refine⟨⟨(a,m::b,x',k),I.step_a hx hg⟩,Cx k,rfl,?_⟩
    exact it_a2 (n:=n) (m:=m) (by rw[aR,CS]) (aR m b) (na n a) (na m b) (bN a n) (by rw[d5,aR,BO,BI];exact hc) (eC I.ox hl hx)
theorem it_all{A B:List (List Dp)}{E:Cfl}{c:List PanicEntry}
  (hcw:CW Ae Γ0 (joH 33 A B [] 0 .ready []) false (.loop (sub BK 0)) (itS 33 A B []) (.panic c) {t:=i6B E.n,h:=cfH E,m:=[]}):(CW Ae Γ0 (joH 33 A B [] 0 .ready []) false (al BK) {t:=mkT 49 0 [(0,.ref (.yl 5)),(1,.ref (.ptr 1 0)),(2,.ref (.ptr 2 0))],h:=joH 33 A B [] 0 .ready [],m:=[]} (.panic c) {t:=i6B E.n,h:=cfH E,m:=[]}):=by
 have hl0:=(@hcw)
 exact AR (AU (s':={t:=mkT 49 0 [(0,.ref (.yl 5)),(5,.ref (.ptr 6 0)),(45,.ref (.yl 5)),(46,Al [int E.n.time,int E.n.campus,int E.n.no,int E.n.kind,int E.n.stu,int E.n.obj,int E.n.term,int E.n.val,int E.n.frm,int E.n.til,ap E.n.text,int E.n.sec.id,int E.n.sec.course,int E.n.sec.term,int E.n.sec.campus,int E.n.sec.seats,aa (Ad Ar E.n.sec.mts),aa (Ad Ap E.n.sec.grs),aa (Ad ab E.n.sec.labs),bool E.n.sec.lab,int E.n.req.campus,int E.n.req.no,int E.n.req.st,int E.n.req.kind,int E.n.req.time,aa (Ad Ai E.n.req.chs),int E.n.req.gsec,int E.n.req.glab,int E.n.req.key,int E.n.r,int E.n.s])],h:=[.var [.ref (.vec 3 1)],.var [aa (Ad Ax E.a)],.var [aa (Ad Ax E.b)],.vec (joV E.x) 1 31,.defd,.loop Br none 33 (mkT 45 0 [(4,.ref (.ptr 0 0)),(9,AO (Aw 83) [] [.ref (.ptr 1 0),.ref (.ptr 2 0)])]) {toList:=[10]} (aA (sub AC 0)) (ae (sub AC 0)),.var [int E.n.time,int E.n.campus,int E.n.no,int E.n.kind,int E.n.stu,int E.n.obj,int E.n.term,int E.n.val,int E.n.frm,int E.n.til,ap E.n.text,int E.n.sec.id,int E.n.sec.course,int E.n.sec.term,int E.n.sec.campus,int E.n.sec.seats,aa (Ad Ar E.n.sec.mts),aa (Ad Ap E.n.sec.grs),aa (Ad ab E.n.sec.labs),bool E.n.sec.lab,int E.n.req.campus,int E.n.req.no,int E.n.req.st,int E.n.req.kind,int E.n.req.time,aa (Ad Ai E.n.req.chs),int E.n.req.gsec,int E.n.req.glab,int E.n.req.key,int E.n.r,int E.n.s],.var [int E.n.time,int E.n.campus,int E.n.no,int E.n.kind,int E.n.stu,int E.n.obj,int E.n.term,int E.n.val,int E.n.frm,int E.n.til,ap E.n.text,int E.n.sec.id,int E.n.sec.course,int E.n.sec.term,int E.n.sec.campus,int E.n.sec.seats,aa (Ad Ar E.n.sec.mts),aa (Ad Ap E.n.sec.grs),aa (Ad ab E.n.sec.labs),bool E.n.sec.lab,int E.n.req.campus,int E.n.req.no,int E.n.req.st,int E.n.req.kind,int E.n.req.time,aa (Ad Ai E.n.req.chs),int E.n.req.gsec,int E.n.req.glab,int E.n.req.key,int E.n.r,int E.n.s]],m:=[]}) (e:=Co c) pok [] [.st (.ren 3 1),.sum [0,1,2] (Co c) {t:=mkT 49 0 [(0,.ref (.yl 5)),(5,.ref (.ptr 6 0)),(45,.ref (.yl 5)),(46,Al [int E.n.time,int E.n.campus,int E.n.no,int E.n.kind,int E.n.stu,int E.n.obj,int E.n.term,int E.n.val,int E.n.frm,int E.n.til,ap E.n.text,int E.n.sec.id,int E.n.sec.course,int E.n.sec.term,int E.n.sec.campus,int E.n.sec.seats,aa (Ad Ar E.n.sec.mts),aa (Ad Ap E.n.sec.grs),aa (Ad ab E.n.sec.labs),bool E.n.sec.lab,int E.n.req.campus,int E.n.req.no,int E.n.req.st,int E.n.req.kind,int E.n.req.time,aa (Ad Ai E.n.req.chs),int E.n.req.gsec,int E.n.req.glab,int E.n.req.key,int E.n.r,int E.n.s])],h:=[.var [.ref (.vec 3 1)],.var [aa (Ad Ax E.a)],.var [aa (Ad Ax E.b)],.vec (joV E.x) 1 31,.defd,.loop Br none 33 (mkT 45 0 [(4,.ref (.ptr 0 0)),(9,AO (Aw 83) [] [.ref (.ptr 1 0),.ref (.ptr 2 0)])]) {toList:=[10]} (aA (sub AC 0)) (ae (sub AC 0)),.var [int E.n.time,int E.n.campus,int E.n.no,int E.n.kind,int E.n.stu,int E.n.obj,int E.n.term,int E.n.val,int E.n.frm,int E.n.til,ap E.n.text,int E.n.sec.id,int E.n.sec.course,int E.n.sec.term,int E.n.sec.campus,int E.n.sec.seats,aa (Ad Ar E.n.sec.mts),aa (Ad Ap E.n.sec.grs),aa (Ad ab E.n.sec.labs),bool E.n.sec.lab,int E.n.req.campus,int E.n.req.no,int E.n.req.st,int E.n.req.kind,int E.n.req.time,aa (Ad Ai E.n.req.chs),int E.n.req.gsec,int E.n.req.glab,int E.n.req.key,int E.n.r,int E.n.s],.var [int E.n.time,int E.n.campus,int E.n.no,int E.n.kind,int E.n.stu,int E.n.obj,int E.n.term,int E.n.val,int E.n.frm,int E.n.til,ap E.n.text,int E.n.sec.id,int E.n.sec.course,int E.n.sec.term,int E.n.sec.campus,int E.n.sec.seats,aa (Ad Ar E.n.sec.mts),aa (Ad Ap E.n.sec.grs),aa (Ad ab E.n.sec.labs),bool E.n.sec.lab,int E.n.req.campus,int E.n.req.no,int E.n.req.st,int E.n.req.kind,int E.n.req.time,aa (Ad Ai E.n.req.chs),int E.n.req.gsec,int E.n.req.glab,int E.n.req.key,int E.n.r,int E.n.s]],m:=[]}] (by kernel_rfl) (.c (show([]:List (List D))=[] from rfl) (.c hl0 .n))) (by rfl) (by rfl)
theorem it_pan{a b:List EntT}{E:Cfl}(I:JoC a b [] (a.length+b.length) E):VPan Ae Γ0 83 [.ref (.yl 5),.ref (.ptr 1 0),.ref (.ptr 2 0)] (joH 33 (a.map Ax) (b.map Ax) [] 0 .ready []) fun c h'=>c=dmC 390∧h'=cfH E:=by
 refine Fw (fn:=BK) (c:=al BK) rfl rfl fun X hX a w hs=>?_
 refine wpIn_mono (it_all (jo_cwP I) X none hX (fun _=>rfl) a w hs) ?_
 rintro e a' w' ⟨h1,s,⟨rfl,rfl⟩,h2⟩
 exact⟨h1,_,⟨_,rfl,rfl,Er,rfl,rfl⟩,h2⟩
theorem jp_0{A B:List (List Dp)}:(CW Ae Γ0 [] false (cL (al AC)) {t:=mkT 45 0 [(0,aa A),(1,aa B)],h:=[],m:=[]} .normal {t:=mkT 45 0 [(0,aa A),(1,aa B),(4,.ref (.ptr 0 0))],h:=[.var [nq]],m:=[]}):=by
 exact AR (AU (s':={t:=mkT 45 0 [(0,aa A),(1,aa B),(4,.ref (.ptr 0 0))],h:=[.var [nq]],m:=[]}) (e:=A2) pok [.st (.mask [0,1,4])] [] (by kernel_rfl) .n) (by rfl) (by rfl)
theorem jp_1{A B:List (List Dp)}:(CW Ae Γ0 [] false (cL (cL (cR (al AC)))) {t:=mkT 45 0 [(0,aa A),(1,aa B),(4,.ref (.ptr 0 0))],h:=[.var [nq]],m:=[]} .normal {t:=joT,h:=y6 A B,m:=[]}):=by
 exact AR (AU (s':={t:=mkT 45 0 [(4,.ref (.ptr 0 0)),(9,AO (Aw 83) [] [.ref (.ptr 1 0),.ref (.ptr 2 0)])],h:=[.var [.ref (.vec 3 0)],.var [aa A],.var [aa B],.vec [] 0 31],m:=[]}) (e:=A2) pok [.st (.mask [4,9]),.st (.nilC 0 0 31)] [.inl] (by kernel_rfl) .n) (by rfl) (by rfl)
theorem vS:al AC=.seq (cL (al AC)) (.seq (.seq (cL (cL (cR (al AC)))) (.block 0 (.rangeFunc (.tmp 9) #[10] (aA (sub AC 0)) (ae (sub AC 0))))) (cR (cR (al AC)))):=by kernel_rfl
theorem sj{a b:List EntT}{E:Cfl}(I:JoC a b [] (a.length+b.length) E):TopF Ae Γ0 33 (al AC) {t:=bJ AC [aa (a.map Ax),aa (b.map Ax)],h:=[],m:=[]} (.panic (dmC 390)) {t:=joT,h:=cfH E,m:=[4]}:=by
 intro O w0 l0 h0 ac w hh hs
 subst hh
 rw[vS]
 refine AtF.seq ((AtF.cw (jp_0 (A:=a.map Ax) (B:=b.map Ax)) rfl hs).mono ?_)
 rintro e1 a1 w1 ⟨rfl,h1⟩
 refine⟨rfl,AtF.seqP ?_⟩
 refine AtF.seq ((AtF.cw (jp_1 (A:=a.map Ax) (B:=b.map Ax)) rfl h1).mono ?_)
 rintro e2 a2 w2 ⟨rfl,h2⟩
 refine⟨rfl,AtF.blockP ?_⟩
 refine(AtF.rangeFuncP (f:=83) (fi:=[]) (ca:=[.ref (.ptr 1 0),.ref (.ptr 2 0)]) (c0:=dmC 390) (hp:=cfH E) pok (s:={t:=joT,h:=y6 (a.map Ax) (b.map Ax),m:=[]}) (f0:=33) (g:=.tmp 9) (ps:=#[10]) (asg:=aA (sub AC 0)) (body:=ae (sub AC 0)) rfl (by kernel_rfl) (it_pan I) rfl h2).mono ?_
 rintro e3 a3 w3 ⟨rfl,h3⟩
 exact⟨_,rfl,_,rfl,rfl,h3⟩
theorem sk{a b:List EntT}(hy:joG (a.length+b.length) a b []=none)(ha:a.length+b.length≤60000)(oa:∀e∈a,e.ok)(ob:∀e∈b,e.ok):VPan Ae Γ0 33 [aa (a.map Ax),aa (b.map Ax)] [] fun c h'=>c=dmC 390∧h'=[]:=by
 obtain⟨E,hE⟩:=oH _ _ _ _ hy
 have I:JoC a b [] (a.length+b.length) E:=⟨rfl,by simp only[B6];omega,oa,ob,by simp,hE⟩
 exact(VRes.of_topF (fn:=AC) (c:=al AC) (r:=.pan (dmC 390) []) rfl rfl (sj I) rfl).pan
theorem zf{b c:Bool}(h:b=c):bool b=bool c:=by rw[h]
theorem vT:al Dh=.region (oG (al Dh)) (bk (al Dh)) false:=by kernel_rfl
noncomputable abbrev Ac:Oper:=(bk (al Dh)).toList.getLastD default
theorem mS(e:Int)(he:(e==0)=false)(h:List Blk):VPan Ae Γ0 32 [int e] h fun c h'=>c=dmC e∧h'=h:=by
 refine Fw (fn:=Dh) (c:=al Dh) rfl rfl fun X hX a w hs=>?_
 rw[vT]
 have hc:CW Ae Γ0 h false (.region (oG (al Dh)) (bk (al Dh)) false) {t:=bJ Dh [int e],h:=h,m:=[]} (.panic (dmC e)) {t:=mkT 6 0 [(0,int e),(2,int e),(3,bool (e==0)),(4,int e)],h:=h,m:=[]}:=by
  refine CW.callPan (os1:=(bk (al Dh)).toList.take 3) (rest:=[]) (o:=Ac) (fv:=lH Ac) (args:=bW Ac) (ats:=kB Ac) (h1:=h) (by kernel_rfl) (by kernel_rfl) (by kernel_rfl) (by kernel_rfl) ?_ rfl
  have e1:evalD Γ0 (mkT 6 0 [(0,int e),(2,int e),(3,bool (e==0)),(4,int e)]) (lH Ac)=.p (.v (.func (.func 48) #[] #[])):=by kernel_rfl
  have e2:(bW Ac).toList.map (evalD Γ0 (mkT 6 0 [(0,int e),(2,int e),(3,bool (e==0)),(4,int e)]))=[bool (e==0),int e]:=by kernel_rfl
  rw[e1,e2,zf he]
  exact CB pok (f:=48) (fi:=[]) (ca:=[]) rfl (by kernel_rfl) (hJ e _)
 refine wpIn_mono (hc X none hX (fun _=>rfl) a w hs) ?_
 rintro e a' w' ⟨h1,s,⟨rfl,rfl⟩,h2⟩
 exact⟨h1,_,⟨_,rfl,rfl,Er,rfl,rfl⟩,h2⟩
noncomputable abbrev jfH(y:List EntT):List Blk:=[.var [aa (y.map Ax)],.var [aa []],.var [aa []],.gone,.defd,joL 0 .exhausted]
theorem jf_blk{A B:List (List Dp)}{y:List EntT}(hrf:CW Ae Γ0 [] false (sub AC 0) {t:=joT,h:=y6 A B,m:=[]} .normal {t:=joT,h:=joH 0 [] [] y 1 .exhausted [],m:=[4]}):(CW Ae Γ0 [] false (cR (cL (cR (al AC)))) {t:=joT,h:=y6 A B,m:=[]} .normal {t:=mkT 45 0 [(4,.ref (.ptr 0 0))],h:=jfH y,m:=[4]}):=by
 have hl0:=(@hrf)
 exact AR (AU (s':={t:=mkT 45 0 [(4,.ref (.ptr 0 0))],h:=[.var [aa (Ad Ax y)],.var [aa []],.var [aa []],.gone,.defd,.loop Dc none 0 (mkT 45 0 [(4,.ref (.ptr 0 0)),(9,AO (Aw 83) [] [.ref (.ptr 1 0),.ref (.ptr 2 0)])]) {toList:=[10]} (aA (sub AC 0)) (ae (sub AC 0))],m:=[4]}) (e:=A2) pok [.st (.mask [4]),.st (.frz 3 (Ad Ax y))] [.sum [4,9] (A2) {t:=mkT 45 0 [(4,.ref (.ptr 0 0)),(9,AO (Aw 83) [] [.ref (.ptr 1 0),.ref (.ptr 2 0)])],h:=[.var [.ref (.vec 3 1)],.var [aa []],.var [aa []],.vec (joV y) 1 31,.defd,.loop Dc none 0 (mkT 45 0 [(4,.ref (.ptr 0 0)),(9,AO (Aw 83) [] [.ref (.ptr 1 0),.ref (.ptr 2 0)])]) {toList:=[10]} (aA (sub AC 0)) (ae (sub AC 0))],m:=[4]}] (by kernel_rfl) (.c hl0 (.c (show joV y=Ad (fun x=>Ad D.p x) (Ad Ax y) from(by first|assumption|rfl|exact uo _|exact bw _ _|exact bz _ _)) .n))) (by rfl) (by rfl)
noncomputable abbrev r7O:Array Oper:=bk (cL (cR (cR (al AC))))
noncomputable abbrev r7L:Oper:=(r7O.toList.drop 2).headD default
theorem zg:cR (cR (al AC))=.seq (.region (oG (cL (cR (cR (al AC))))) r7O false) (cR (cR (cR (al AC)))):=by kernel_rfl
theorem ut:al AC=.seq (cL (al AC)) (.seq (.seq (cL (cL (cR (al AC)))) (cR (cL (cR (al AC))))) (cR (cR (al AC)))):=by kernel_rfl
abbrev jfT(y:List EntT):List D:=mkT 45 0 [(4,.ref (.ptr 0 0)),(37,aa (y.map Ax)),(38,bool false)]
theorem r7_pan{y:List EntT}(hfit:∀h,Ev Ae Γ0 27 [aa (y.map Ax)] h (bool false) h):CW Ae Γ0 [] false (cR (cR (al AC))) {t:=mkT 45 0 [(4,.ref (.ptr 0 0))],h:=jfH y,m:=[4]} (.panic (dmC 390)) {t:=jfT y,h:=jfH y,m:=[4]}:=by
 rw[zg]
 refine FS (by simp) (EU (os1:=r7O.toList.take 2) (rest:=[]) (o:=r7L) (fv:=lH r7L) (args:=bW r7L) (ats:=kB r7L) (h1:=jfH y) (φ:=[Ev Ae Γ0 27 [aa (y.map Ax)] (jfH y) (bool false) (jfH y)]) pok wP [.val (bool false)] (by kernel_rfl) rfl (by kernel_rfl) ⟨hfit _,trivial⟩ (by kernel_rfl) (by kernel_rfl) ?_ rfl)
 have e1:evalD Γ0 (jfT y) (lH r7L)=.p (.v (.func (.func 48) #[] #[])):=by kernel_rfl
 have e2:(bW r7L).toList.map (evalD Γ0 (jfT y))=[bool false,int 390]:=by kernel_rfl
 rw[e1,e2]
 exact CB pok (f:=48) (fi:=[]) (ca:=[]) rfl (by kernel_rfl) (hJ 390 _)
theorem pB{a b y:List EntT}(hy:joG (a.length+b.length) a b []=some y)(ha:a.length+b.length≤60000)(oa:∀e∈a,e.ok)(ob:∀e∈b,e.ok)(hv:∀e∈y,0≤e.campus∧e.campus<7)(hf:sh y=false)(hly:y.length≤65536):VPan Ae Γ0 33 [aa (a.map Ax),aa (b.map Ax)] [] fun c h'=>c=dmC 390∧h'=[]:=by
 have hfit:∀h,Ev Ae Γ0 27 [aa (y.map Ax)] h (bool false) h:=fun h=>by
  rw[←hf]
  exact um (show y.length≤_ by omega) hv h
 have hrf:=jo_rf (a:=a) (b:=b) (y:=y) ⟨rfl,by simp only[B6];omega,oa,ob,by simp,hy⟩ (h0:=[])
 have hc:CW Ae Γ0 [] false (al AC) {t:=bJ AC [aa (a.map Ax),aa (b.map Ax)],h:=[],m:=[]} (.panic (dmC 390)) {t:=jfT y,h:=jfH y,m:=[4]}:=by
  rw[ut]
  exact CW.seq (jp_0 (A:=a.map Ax) (B:=b.map Ax)) (CW.seq (CW.seq jp_1 (jf_blk hrf)) (r7_pan hfit))
 refine(VRes.of_topF (fn:=AC) (c:=al AC) (r:=.pan (dmC 390) []) rfl rfl (c0:=dmC 390) (s':={t:=jfT y,h:=jfH y,m:=[4]}) (fun O w0 l0 h0 a w hh hs=>?_) rfl).pan
 exact AtF.cw hc hh hs
def joR(a b:List EntT):Option (List EntT):=match joG (a.length+b.length) a b [] with
 | none=>none
 | some y=>bif sh y then some y else none
theorem fE:∀(k:Nat) (a b x y:List EntT),joG k a b x=some y→(∀e∈y,e∈a∨e∈b∨e∈x)∧y.length≤x.length+a.length+b.length
 | 0,a,b,x,y,h=>by simp only[joG,Af] at h;subst h;exact⟨fun e he=>.inr (.inr he),by omega⟩
 | _+1,[],[],x,y,h=>by simp only[joG,Af] at h;subst h;exact⟨fun e he=>.inr (.inr he),by omega⟩
 | k+1,[],m::b,x,y,h=>by
  simp only[joG] at h
  cases hx:joF x m with
  | none=>rw[hx] at h;cases h
  | some x' =>
   rw[hx] at h
   obtain⟨h1,h2⟩:=fE k _ _ _ _ h
   have h3:=eB hx
   refine⟨fun e he=>?_,by simp only[Bw,B6] at *;omega⟩
   rcases h1 e he with h|h|h
   ·exact .inl h
   ·exact .inr (.inl (by simp[h]))
   ·rcases joF_mem hx e h with h|h
    ·exact .inr (.inr h)
    ·exact .inr (.inl (by simp[h]))
 | k+1,n::a,[],x,y,h=>by
  simp only[joG] at h
  cases hx:joF x n with
  | none=>rw[hx] at h;cases h
  | some x' =>
   rw[hx] at h
   obtain⟨h1,h2⟩:=fE k _ _ _ _ h
   have h3:=eB hx
   refine⟨fun e he=>?_,by simp only[Bw,B6] at *;omega⟩
   rcases h1 e he with h|h|h
   ·exact .inl (by simp[h])
   ·exact .inr (.inl h)
   ·rcases joF_mem hx e h with h|h
    ·exact .inr (.inr h)
    ·exact .inl (by simp[h])
 | k+1,n::a,m::b,x,y,h=>by
  simp only[joG] at h
  cases hc:Qd (a6 m.st n.st<0) with
  | true =>
   rw[hc] at h
   simp only at h
   cases hx:joF x m with
   | none=>rw[hx] at h;cases h
   | some x' =>
    rw[hx] at h
    obtain⟨h1,h2⟩:=fE k _ _ _ _ h
    have h3:=eB hx
    refine⟨fun e he=>?_,by simp only[Bw] at *;omega⟩
    rcases h1 e he with h|h|h
    ·exact .inl h
    ·exact .inr (.inl (by simp[h]))
    ·rcases joF_mem hx e h with h|h
     ·exact .inr (.inr h)
     ·exact .inr (.inl (by simp[h]))
  | false =>
   rw[hc] at h
   simp only at h
   cases hx:joF x n with
   | none=>rw[hx] at h;cases h
   | some x' =>
    rw[hx] at h
    obtain⟨h1,h2⟩:=fE k _ _ _ _ h
    have h3:=eB hx
    refine⟨fun e he=>?_,by simp only[Bw] at *;omega⟩
    rcases h1 e he with h|h|h
    ·exact .inl (by simp[h])
    ·exact .inr (.inl h)
    ·rcases joF_mem hx e h with h|h
     ·exact .inr (.inr h)
     ·exact .inl (by simp[h])
structure JoOk (a b:List EntT):Prop where
 l:a.length+b.length≤60000
 oa:∀e∈a,e.ok
 ob:∀e∈b,e.ok
 va:∀e∈a,0≤e.campus∧e.campus<7
 vb:∀e∈b,0≤e.campus∧e.campus<7
theorem wQ{a b y:List EntT}(J:JoOk a b)(hy:joR a b=some y)(h:List Blk):Ev Ae Γ0 33 [aa (a.map Ax),aa (b.map Ax)] h (aa (y.map Ax)) h:=by
 unfold joR at hy
 cases hg:joG (a.length+b.length) a b [] with
 | none=>rw[hg] at hy;cases hy
 | some z =>
  rw[hg] at hy
  simp only at hy
  cases hf:sh z with
  | false=>rw[hf] at hy;cases hy
  | true =>
   rw[hf] at hy
   cases hy
   obtain⟨h1,h2⟩:=fE _ _ _ _ _ hg
   have:=J.l
   refine uq hg J.l J.oa J.ob (fun e he=>?_) hf (by simp only[B6] at h2;omega) h
   rcases h1 e he with h|h|h
   ·exact J.va e h
   ·exact J.vb e h
   ·cases h
theorem uu{a b:List EntT}(J:JoOk a b)(hy:joR a b=none):VPan Ae Γ0 33 [aa (a.map Ax),aa (b.map Ax)] [] fun c h'=>c=dmC 390∧h'=[]:=by
 unfold joR at hy
 cases hg:joG (a.length+b.length) a b [] with
 | none=>exact sk hg J.l J.oa J.ob
 | some z =>
  rw[hg] at hy
  simp only at hy
  cases hf:sh z with
  | true=>rw[hf] at hy;cases hy
  | false =>
   obtain⟨h1,h2⟩:=fE _ _ _ _ _ hg
   have:=J.l
   refine pB hg J.l J.oa J.ob (fun e he=>?_) hf (by simp only[B6] at h2;omega)
   rcases h1 e he with h|h|h
   ·exact J.va e h
   ·exact J.vb e h
   ·cases h
noncomputable abbrev p2C:Code:=cR (cR (al BT))
noncomputable abbrev p2O:Array Oper:=bk (cL p2C)
noncomputable abbrev p3C:Code:=cR p2C
noncomputable abbrev p3O:Array Oper:=bk (cL p3C)
noncomputable abbrev p4C:Code:=cR p3C
noncomputable abbrev p4O:Array Oper:=bk (cL p4C)
noncomputable abbrev opN(os:Array Oper)(k:Nat):Oper:=(os.toList.drop k).headD default
theorem pC:p2C=.seq (.region (oG (cL p2C)) p2O false) p3C:=by kernel_rfl
theorem uv:p3C=.seq (.region (oG (cL p3C)) p3O false) p4C:=by kernel_rfl
theorem zh:p4C=.seq (.region (oG (cL p4C)) p4O false) (cR p4C):=by kernel_rfl
abbrev p2T(L:List (List Dp))(e:Int):List D:=mkT 23 0 [(0,aa L),(3,.ref (.ptr 0 0)),(4,nq),(5,int 0),(6,.ref (.ptr 1 0)),(9,aa L),(10,int e)]
theorem p2_pan{L:List (List Dp)}{n:EntT}{e:Int}(he:(e==0)=false)(hck:∀h,Ev Ae Γq 12 [aa L] h (int e) h):CW Ae Γq (puH n 0) false p2C {t:=puT L,h:=puH n 0,m:=[]} (.panic (dmC e)) {t:=p2T L e,h:=puH n 0,m:=[]}:=by
 rw[pC]
 refine FS (by simp) (EU (os1:=p2O.toList.take 2) (rest:=[]) (o:=opN p2O 2) (fv:=lH (opN p2O 2)) (args:=bW (opN p2O 2)) (ats:=kB (opN p2O 2)) (h1:=puH n 0) (φ:=[Ev Ae Γq 12 [aa L] (puH n 0) (int e) (puH n 0)]) pok (I:=noI) (fun _ _ _ _ _ _ _ _ h=>by simp[noI] at h) [.val (int e)] (by kernel_rfl) rfl (by kernel_rfl) ⟨hck _,trivial⟩ (by kernel_rfl) (by kernel_rfl) ?_ rfl)
 have e1:evalD Γq (p2T L e) (lH (opN p2O 2))=.p (.v (.func (.func 32) #[] #[])):=by kernel_rfl
 have e2:(bW (opN p2O 2)).toList.map (evalD Γq (p2T L e))=[int e]:=by kernel_rfl
 rw[e1,e2]
 exact CB pok (f:=32) (fi:=[]) (ca:=[]) rfl (by kernel_rfl) (mS e he _).glob0
noncomputable abbrev mT(n:EntT):List Blk:=[.var [int n.time,int n.campus,int n.no,int n.kind,int n.stu,int n.obj,int n.term,int n.val,int n.frm,int n.til,ap n.text,int n.sec.id,int n.sec.course,int n.sec.term,int n.sec.campus,int n.sec.seats,aa (Ad Ar n.sec.mts),aa (Ad Ap n.sec.grs),aa (Ad ab n.sec.labs),bool n.sec.lab,int n.req.campus,int n.req.no,int n.req.st,int n.req.kind,int n.req.time,aa (Ad Ai n.req.chs),int n.req.gsec,int n.req.glab,int n.req.key,int n.r,int n.s],.var [int 0]]
theorem p2_ok{L:List (List Dp)}{n:EntT}(hck:∀h,Ev Ae Γq 12 [aa L] h (int 0) h):(CW Ae Γq (puH n 0) false (cL (cR (cR (al BT)))) {t:=puT L,h:=puH n 0,m:=[]} .normal {t:=puT L,h:=puH n 0,m:=[]}):=by
 exact AR (AU (s':={t:=mkT 23 0 [(0,aa L),(3,.ref (.ptr 0 0)),(4,nq),(5,int 0),(6,.ref (.ptr 1 0))],h:=(mT n),m:=[]}) (e:=A2) pok [.st (.mask [0,3,4,5,6])] [.val (int 0),.val (D.tup [])] (by kernel_rfl) (.c (@hck ((mT n))) (.c (Ev.glob0 (Γ':=Γq) (@eD ((mT n)))) .n))) (by rfl) (by rfl)
abbrev p3T(L:List (List Dp))(n:EntT)(e:Int):List D:=mkT 23 0 [(0,aa L),(3,.ref (.ptr 0 0)),(4,nq),(5,int 0),(6,.ref (.ptr 1 0)),(12,ag n.row),(13,int e)]
theorem p3_pan{L:List (List Dp)}{n:EntT}{e:Int}(he:(e==0)=false)(hen:∀h,Ev Ae Γq 25 [ag n.row] h (int e) h):CW Ae Γq (puH n 0) false p3C {t:=puT L,h:=puH n 0,m:=[]} (.panic (dmC e)) {t:=p3T L n e,h:=puH n 0,m:=[]}:=by
 rw[uv]
 refine FS (by simp) (EU (os1:=p3O.toList.take 2) (rest:=[]) (o:=opN p3O 2) (fv:=lH (opN p3O 2)) (args:=bW (opN p3O 2)) (ats:=kB (opN p3O 2)) (h1:=puH n 0) (φ:=[Ev Ae Γq 25 [ag n.row] (puH n 0) (int e) (puH n 0)]) pok (I:=noI) (fun _ _ _ _ _ _ _ _ h=>by simp[noI] at h) [.val (int e)] (by kernel_rfl) rfl (by kernel_rfl) ⟨hen _,trivial⟩ (by kernel_rfl) (by kernel_rfl) ?_ rfl)
 have e1:evalD Γq (p3T L n e) (lH (opN p3O 2))=.p (.v (.func (.func 32) #[] #[])):=by kernel_rfl
 have e2:(bW (opN p3O 2)).toList.map (evalD Γq (p3T L n e))=[int e]:=by kernel_rfl
 rw[e1,e2]
 exact CB pok (f:=32) (fi:=[]) (ca:=[]) rfl (by kernel_rfl) (mS e he _).glob0
noncomputable abbrev mU(n:EntT):List Blk:=[.var [int n.time,int n.campus,int n.no,int n.kind,int n.stu,int n.obj,int n.term,int n.val,int n.frm,int n.til,ap n.text,int n.sec.id,int n.sec.course,int n.sec.term,int n.sec.campus,int n.sec.seats,aa (Ad Ar n.sec.mts),aa (Ad Ap n.sec.grs),aa (Ad ab n.sec.labs),bool n.sec.lab,int n.req.campus,int n.req.no,int n.req.st,int n.req.kind,int n.req.time,aa (Ad Ai n.req.chs),int n.req.gsec,int n.req.glab,int n.req.key,int n.r,int n.s],.var [int 0]]
theorem p3_ok{L:List (List Dp)}{n:EntT}(hen:∀h,Ev Ae Γq 25 [ag n.row] h (int 0) h):(CW Ae Γq (puH n 0) false (cL (cR (cR (cR (al BT))))) {t:=puT L,h:=puH n 0,m:=[]} .normal {t:=puT L,h:=puH n 0,m:=[]}):=by
 exact AR (AU (s':={t:=mkT 23 0 [(0,aa L),(3,.ref (.ptr 0 0)),(4,nq),(5,int 0),(6,.ref (.ptr 1 0))],h:=(mU n),m:=[]}) (e:=A2) pok [.st (.mask [0,3,4,5,6])] [.val (int 0),.val (D.tup [])] (by kernel_rfl) (.c (@hen ((mU n))) (.c (Ev.glob0 (Γ':=Γq) (@eD ((mU n)))) .n))) (by rfl) (by rfl)
abbrev p4T(L:List (List Dp))(n:EntT):List D:=mkT 23 0 [(0,aa L),(3,.ref (.ptr 0 0)),(4,nq),(5,int 0),(6,.ref (.ptr 1 0)),(15,aa L),(16,ag n.row),(17,.ref (.vec 2 0))]
abbrev p4H(n:EntT):List Blk:=[aY n,.var [int 0],.vec [n.row.map .p] 0 31]
theorem p4_pan{L:List (List Dp)}{n:EntT}(hjo:VPan Ae Γ0 33 [aa L,aa [n.row]] [] fun c h'=>c=dmC 390∧h'=[]):CW Ae Γq (puH n 0) false p4C {t:=puT L,h:=puH n 0,m:=[]} (.panic (dmC 390)) {t:=p4T L n,h:=p4H n,m:=[]}:=by
 rw[zh]
 refine FS (by simp) (EU (os1:=p4O.toList.take 3) (rest:=p4O.toList.drop 4) (o:=opN p4O 3) (fv:=lH (opN p4O 3)) (args:=bW (opN p4O 3)) (ats:=kB (opN p4O 3)) (h1:=p4H n) (φ:=[]) pok (I:=noI) (fun _ _ _ _ _ _ _ _ h=>by simp[noI] at h) [] (by kernel_rfl) rfl (by kernel_rfl) trivial (by kernel_rfl) (by kernel_rfl) ?_ rfl)
 have e1:evalD Γq (p4T L n) (lH (opN p4O 3))=.p (.v (.func (.func 33) #[] #[])):=by kernel_rfl
 have e2:(bW (opN p4O 3)).toList.map (evalD Γq (p4T L n))=[aa L,.ref (.vec 2 0)]:=by kernel_rfl
 rw[e1,e2]
 refine CB pok (f:=33) (fi:=[]) (ca:=[]) rfl (by kernel_rfl) ?_
 exact VPan.frzArgs (args:=[aa L,.ref (.vec 2 0)]) (h:=p4H n) (by rfl) hjo.glob0
theorem zi{L:List (List Dp)}{n:EntT}{e:Int}:dc Ae BT (cE Ae Γq noW 100) 0 (.panic (dmC e)) {t:=p2T L e,h:=puH n 0,m:=[]} (some (30,[.ref (.ptr 1 0)]))=some (.ret (.tup [nq,int 0,int e]) []):=by kernel_rfl
theorem zj{L:List (List Dp)}{n:EntT}{e:Int}:dc Ae BT (cE Ae Γq noW 100) 0 (.panic (dmC e)) {t:=p3T L n e,h:=puH n 0,m:=[]} (some (30,[.ref (.ptr 1 0)]))=some (.ret (.tup [nq,int 0,int e]) []):=by kernel_rfl
theorem zk{L:List (List Dp)}{n:EntT}:dc Ae BT (cE Ae Γq noW 100) 0 (.panic (dmC 390)) {t:=p4T L n,h:=p4H n,m:=[]} (some (30,[.ref (.ptr 1 0)]))=some (.ret (.tup [nq,int 0,int 390]) []):=by kernel_rfl
theorem zl{a b:RqT}(hl:aq a.chs)(he:(((a.chs.map Ai).length:Int) != ((b.chs.map Ai).length:Int))=false):
  CW Ae Γ0 [] false (.loop (sub FH 0)) (rqS a b 0) (aw (.exit 0) (fun _:Unit=>{t:=mkT 80 0 [],h:=[.var (a.row.map .p),.var (b.row.map .p)],m:=[]}) (fun _:Unit=>(.ret,rqX a b)) (qbR a.chs b.chs)).1 (aw (.exit 0) (fun _:Unit=>{t:=mkT 80 0 [],h:=[.var (a.row.map .p),.var (b.row.map .p)],m:=[]}) (fun _:Unit=>(.ret,rqX a b)) (qbR a.chs b.chs)).2:=by
 have hlen:a.chs.length=b.chs.length:=by simp at he;omega
 have hz:(a.chs.zip b.chs).length=a.chs.length:=by simp[hlen]
 refine CW.each (a.chs.zip b.chs) qbF (fun i _=>rqS a b (i:Int)) (.exit 0) _ (fun _=>(.ret,rqX a b)) (fun _ _=>True) (by simp) (fun _=>by simp) ?_ ?_ () trivial
 ·intro i p u hp _
  obtain⟨hi,he⟩:=An.1 hp
  have hx:i<a.chs.length:=by omega
  have hy:i<b.chs.length:=by omega
  have h1:a.chs[i]? = some p.1:=by subst he;simp[hx]
  have h2:b.chs[i]? = some p.2:=by subst he;simp[hy]
  refine⟨fun _ _=>trivial,?_⟩
  unfold qbF buNe
  cases hn:(!(p.1.sec==p.2.sec&&(p.1.lab==p.2.lab&&true))) with
  | true=>exact rq_bad (x:=p.1) (y:=p.2) (rowAt h1 rfl) (rowAt h2 rfl) (lt_len _ hx) hn
  | false=>exact xU (x:=p.1) (y:=p.2) (rowAt h1 rfl) (rowAt h2 rfl) (lt_len _ hx) (wrap_succ hx hl) hn
 ·intro u _
  rw[hz]
  exact xV (bE _ a.chs)
theorem rs_hd{a b:RqT}(hh:(a.campus != b.campus||a.no != b.no||a.st != b.st||a.kind != b.kind||a.time != b.time||!(a.gsec==b.gsec&&(a.glab==b.glab&&true))||a.key != b.key||(((a.chs.map Ai).length:Int) != ((b.chs.map Ai).length:Int)))=true)(h:List Blk):(Ev Ae Γ0 52 [ag a.row,ag b.row] h (bool false) h):=by
 exact AB (AF (d:=bool false) pok [.b true] (by kernel_rfl) (.c hh .n) rfl rfl h) (by rfl) (by rfl)
theorem rs_r{a b:RqT}(hh:(a.campus != b.campus||a.no != b.no||a.st != b.st||a.kind != b.kind||a.time != b.time||!(a.gsec==b.gsec&&(a.glab==b.glab&&true))||a.key != b.key||(((a.chs.map Ai).length:Int) != ((b.chs.map Ai).length:Int)))=false)(hl:CW Ae Γ0 [] false (.loop (sub FH 0)) (rqS a b 0) .ret (rqX a b))(h:List Blk):(Ev Ae Γ0 52 [ag a.row,ag b.row] h (bool false) h):=by
 have hl0:=(@hl)
 exact AB (AF (d:=bool false) pok [.b false,.sum [2,3,5] (Bj) {t:=mkT 80 0 [(4,bool false)],h:=[.var [int a.campus,int a.no,int a.st,int a.kind,int a.time,aa (Ad Ai a.chs),int a.gsec,int a.glab,int a.key],.var [int b.campus,int b.no,int b.st,int b.kind,int b.time,aa (Ad Ai b.chs),int b.gsec,int b.glab,int b.key]],m:=[]}] (by kernel_rfl) (.c hh (.c hl0 .n)) rfl rfl h) (by rfl) (by rfl)
theorem rs_e{a b:RqT}(hh:(a.campus != b.campus||a.no != b.no||a.st != b.st||a.kind != b.kind||a.time != b.time||!(a.gsec==b.gsec&&(a.glab==b.glab&&true))||a.key != b.key||(((a.chs.map Ai).length:Int) != ((b.chs.map Ai).length:Int)))=false)(hl:CW Ae Γ0 [] false (.loop (sub FH 0)) (rqS a b 0) (.exit 0) {t:=mkT 80 0 [],h:=[.var (a.row.map .p),.var (b.row.map .p)],m:=[]})(h:List Blk):(Ev Ae Γ0 52 [ag a.row,ag b.row] h (bool true) h):=by
 have hl0:=(@hl)
 exact AB (AF (d:=bool true) pok [.b false,.sum [2,3,5] (A1 0) {t:=mkT 80 0 [],h:=[.var [int a.campus,int a.no,int a.st,int a.kind,int a.time,aa (Ad Ai a.chs),int a.gsec,int a.glab,int a.key],.var [int b.campus,int b.no,int b.st,int b.kind,int b.time,aa (Ad Ai b.chs),int b.gsec,int b.glab,int b.key]],m:=[]}] (by kernel_rfl) (.c hh (.c hl0 .n)) rfl rfl h) (by rfl) (by rfl)
def iq(a b:RqT):Bool:=match (a.campus != b.campus||a.no != b.no||a.st != b.st||a.kind != b.kind||a.time != b.time||!(a.gsec==b.gsec&&(a.glab==b.glab&&true))||a.key != b.key||(((a.chs.map Ai).length:Int) != ((b.chs.map Ai).length:Int))) with
 | true=>false
 | false=>match qbR a.chs b.chs with
  | .inl _=>true
  | .inr _=>false
theorem vU{a b:RqT}(hc:aq a.chs)(h:List Blk):Ev Ae Γ0 52 [ag a.row,ag b.row] h (bool (iq a b)) h:=by
 unfold iq
 cases hh:(a.campus != b.campus||a.no != b.no||a.st != b.st||a.kind != b.kind||a.time != b.time||!(a.gsec==b.gsec&&(a.glab==b.glab&&true))||a.key != b.key||(((a.chs.map Ai).length:Int) != ((b.chs.map Ai).length:Int))) with
 | true=>exact rs_hd hh h
 | false =>
  have he:(((a.chs.map Ai).length:Int) != ((b.chs.map Ai).length:Int))=false:=by
   simp only[Bool.or_eq_false_iff] at hh;exact hh.2
  have:=zl hc he
  simp only
  cases hf:qbR a.chs b.chs with
  | inl u=>rw[hf] at this;exact rs_e hh this h
  | inr u=>rw[hf] at this;exact rs_r hh this h
def kb(a b:EntT):Bool:=rW a b&&a.kind==b.kind&&a.stu==b.stu&&a.obj==b.obj&&a.term==b.term&&a.val==b.val&&(a.frm==b.frm&&(a.til==b.til&&true))&&eqS a.text b.text&&(a.r==b.r&&(a.s==b.s&&true))&&eA a.sec b.sec&&iq a.req b.req
noncomputable abbrev bX(a:EntT)(b:EntT):List Blk:=[.var [int a.time,int a.campus,int a.no,int a.kind,int a.stu,int a.obj,int a.term,int a.val,int a.frm,int a.til,ap a.text,int a.sec.id,int a.sec.course,int a.sec.term,int a.sec.campus,int a.sec.seats,aa (Ad Ar a.sec.mts),aa (Ad Ap a.sec.grs),aa (Ad ab a.sec.labs),bool a.sec.lab,int a.req.campus,int a.req.no,int a.req.st,int a.req.kind,int a.req.time,aa (Ad Ai a.req.chs),int a.req.gsec,int a.req.glab,int a.req.key,int a.r,int a.s],.var [int b.time,int b.campus,int b.no,int b.kind,int b.stu,int b.obj,int b.term,int b.val,int b.frm,int b.til,ap b.text,int b.sec.id,int b.sec.course,int b.sec.term,int b.sec.campus,int b.sec.seats,aa (Ad Ar b.sec.mts),aa (Ad Ap b.sec.grs),aa (Ad ab b.sec.labs),bool b.sec.lab,int b.req.campus,int b.req.no,int b.req.st,int b.req.kind,int b.req.time,aa (Ad Ai b.req.chs),int b.req.gsec,int b.req.glab,int b.req.key,int b.r,int b.s]]
theorem uw{a b:EntT}(hm:aq a.sec.mts)(hgr:aq a.sec.grs)(hi:aq a.sec.labs)(hc:aq a.req.chs)(h:List Blk):(Ev Ae Γ0 37 [ag a.row,ag b.row] h (bool (kb a b)) h):=by
 exact AB (AF (d:=bool (a.time==b.time&&(a.campus==b.campus&&(a.no==b.no&&true))&&a.kind==b.kind&&a.stu==b.stu&&a.obj==b.obj&&a.term==b.term&&a.val==b.val&&(a.frm==b.frm&&(a.til==b.til&&true))&&eqS a.text b.text&&(a.r==b.r&&(a.s==b.s&&true))&&eA a.sec b.sec&&iq a.req b.req)) pok [.val (bool (eA a.sec b.sec)),.val (bool (iq a.req b.req))] (by kernel_rfl) (.c (show(a.time==b.time&&(a.campus==b.campus&&(a.no==b.no&&true))&&a.kind==b.kind&&a.stu==b.stu&&a.obj==b.obj&&a.term==b.term&&a.val==b.val&&(a.frm==b.frm&&(a.til==b.til&&true))&&eqS a.text b.text&&(a.r==b.r&&(a.s==b.s&&true)))=true→Ev Ae Γ0 51 [Al [int a.sec.id,int a.sec.course,int a.sec.term,int a.sec.campus,int a.sec.seats,aa (Ad Ar a.sec.mts),aa (Ad Ap a.sec.grs),aa (Ad ab a.sec.labs),bool a.sec.lab],Al [int b.sec.id,int b.sec.course,int b.sec.term,int b.sec.campus,int b.sec.seats,aa (Ad Ar b.sec.mts),aa (Ad Ap b.sec.grs),aa (Ad ab b.sec.labs),bool b.sec.lab]] (bX a b) (bool (eA a.sec b.sec)) (bX a b) from(fun hg=>(@vq (a.sec) (b.sec) (hm) (hgr) (hi) ((bX a b))))) (.c (show(a.time==b.time&&(a.campus==b.campus&&(a.no==b.no&&true))&&a.kind==b.kind&&a.stu==b.stu&&a.obj==b.obj&&a.term==b.term&&a.val==b.val&&(a.frm==b.frm&&(a.til==b.til&&true))&&eqS a.text b.text&&(a.r==b.r&&(a.s==b.s&&true))&&eA a.sec b.sec)=true→Ev Ae Γ0 52 [Al [int a.req.campus,int a.req.no,int a.req.st,int a.req.kind,int a.req.time,aa (Ad Ai a.req.chs),int a.req.gsec,int a.req.glab,int a.req.key],Al [int b.req.campus,int b.req.no,int b.req.st,int b.req.kind,int b.req.time,aa (Ad Ai b.req.chs),int b.req.gsec,int b.req.glab,int b.req.key]] (bX a b) (bool (iq a.req b.req)) (bX a b) from(fun hg=>(@vU (a.req) (b.req) (hc) ((bX a b))))) .n)) rfl rfl h) (by first|rfl|(simp only[kb,rW];first|done|rfl)) (by rfl)
def kC(a b:StT):Bool:=Qd (fd a b≥0)||a.campus==b.campus&&(Qd (a.time≥b.time)||Qd (a.no≥b.no))
def oI(pre:List EntT):List EntT→Bool
 | []=>false
 | e::l=>pre.any (fun x=>kC x.st e.st)||oI (pre++[e]) l
def wR(e:EntT):Bool:=Qd ((e.text.size:Int)≤1000)&&Qd (((e.sec.mts.map Ar).length:Int)≤20)&&Qd (((e.sec.grs.map Ap).length:Int)≤12)&&Qd (((e.sec.labs.map ab).length:Int)≤12)&&Qd (((e.req.chs.map Ai).length:Int)≤12)
theorem zm{e:EntT}(h:List Blk):(Ev Ae Γ0 16 [ag e.row] h (bool (wR e)) h):=by
 exact AB (AF (d:=bool (Qd ((↑(ByteArray.size e.text):Int)≤1000)&&Qd ((↑(Ag (Ad Ar e.sec.mts)):Int)≤20)&&Qd ((↑(Ag (Ad Ap e.sec.grs)):Int)≤12)&&Qd ((↑(Ag (Ad ab e.sec.labs)):Int)≤12)&&Qd ((↑(Ag (Ad Ai e.req.chs)):Int)≤12))) pok [] (by kernel_rfl) .n rfl rfl h) (by rfl) (by rfl)
abbrev fwS(l:List (List Dp))(i:Int):AS:={t:=mkT 19 0 [(0,aa l),(3,int i)],h:=[],m:=[]}
abbrev fwX:AS:={t:=mkT 19 0 [(2,bool false)],h:=[],m:=[]}
abbrev fwE(l:List (List Dp)):AS:={t:=mkT 19 0 [(0,aa l)],h:=[],m:=[]}
theorem fw_ok{l:List (List Dp)}{e:EntT}{i:Nat}(hr:ak (i:Int) l e.row 31)(hlt:Qd ((i:Int)<(l.length:Int))=true)(hw:Ak.wrap ((i:Int)+1)=((i+1:Nat):Int))(hf:∀h,Ev Ae Γ0 16 [ag e.row] h (bool true) h):(CW Ae Γ0 [] false (sub Ez 0) (fwS l i) .normal (fwS l ((i+1:Nat):Int))):=by
 refine AR (AU (s':={t:=mkT 19 0 [(0,aa l),(3,int (Av Ak ((↑i:Int)+1)))],h:=[],m:=[]}) (e:=A2) pok [.st (.mask [0,3]),.st (.trim 0)] [.b true,.row [vi e.time,vi e.campus,vi e.no,vi e.kind,vi e.stu,vi e.obj,vi e.term,vi e.val,vi e.frm,vi e.til,vs e.text,vi e.sec.id,vi e.sec.course,vi e.sec.term,vi e.sec.campus,vi e.sec.seats,Az (Ad Ar e.sec.mts),Az (Ad Ap e.sec.grs),Az (Ad ab e.sec.labs),AN (AG e.sec.lab),vi e.req.campus,vi e.req.no,vi e.req.st,vi e.req.kind,vi e.req.time,Az (Ad Ai e.req.chs),vi e.req.gsec,vi e.req.glab,vi e.req.key,vi e.r,vi e.s],.val (bool true),.b false] (by kernel_rfl) (.c hlt (.c hr (.c (@hf ([])) (.c (show(!true)=false from rfl) .n))))) ?_ ?_<;>(first|rfl|(rw[hw]<;>rfl))
theorem fw_bad{l:List (List Dp)}{e:EntT}{i:Nat}(hr:ak (i:Int) l e.row 31)(hlt:Qd ((i:Int)<(l.length:Int))=true)(hf:∀h,Ev Ae Γ0 16 [ag e.row] h (bool false) h):(CW Ae Γ0 [] false (sub Ez 0) (fwS l i) .ret fwX):=by
 exact AR (AU (s':={t:=mkT 19 0 [(2,bool false)],h:=[],m:=[]}) (e:=Bj) pok [.st (.mask [2]),.st (.trim 0)] [.b true,.row [vi e.time,vi e.campus,vi e.no,vi e.kind,vi e.stu,vi e.obj,vi e.term,vi e.val,vi e.frm,vi e.til,vs e.text,vi e.sec.id,vi e.sec.course,vi e.sec.term,vi e.sec.campus,vi e.sec.seats,Az (Ad Ar e.sec.mts),Az (Ad Ap e.sec.grs),Az (Ad ab e.sec.labs),AN (AG e.sec.lab),vi e.req.campus,vi e.req.no,vi e.req.st,vi e.req.kind,vi e.req.time,Az (Ad Ai e.req.chs),vi e.req.gsec,vi e.req.glab,vi e.req.key,vi e.r,vi e.s],.val (bool false),.b true] (by kernel_rfl) (.c hlt (.c hr (.c (@hf ([])) (.c (show(!false)=true from rfl) .n))))) (by rfl) (by rfl)
theorem zn{l:List (List Dp)}{i:Nat}(hlt:Qd ((i:Int)<(l.length:Int))=false):(CW Ae Γ0 [] false (sub Ez 0) (fwS l i) (.exit 0) (fwE l)):=by
 exact AR (AU (s':={t:=mkT 19 0 [(0,aa l)],h:=[],m:=[]}) (e:=A1 0) pok [.st (.mask [0])] [.b false] (by kernel_rfl) (.c hlt .n)) (by rfl) (by rfl)
def fwF(e:EntT)(_:Unit):Unit⊕Unit:=match wR e with
 | true=>.inl ()
 | false=>.inr ()
theorem zo{l:List EntT}(hs:aq l):CW Ae Γ0 [] false (.loop (sub Ez 0)) (fwS (l.map Ax) 0) (aw (.exit 0) (fun _:Unit=>fwE (l.map Ax)) (fun _:Unit=>(.ret,fwX)) (forL fwF l ())).1 (aw (.exit 0) (fun _:Unit=>fwE (l.map Ax)) (fun _:Unit=>(.ret,fwX)) (forL fwF l ())).2:=by
 refine CW.each l fwF (fun j _=>fwS (l.map Ax) (j:Int)) (.exit 0) _ _ (fun _ _=>True) (by simp) (fun _=>by simp) ?_ ?_ () trivial
 ·intro j e a hj _
  have hlt:=(An.1 hj).1
  have hr:=rowAt (row:=Ax) (sz:=31) hj rfl
  have hf:=fun h=>zm (e:=e) h
  refine⟨fun _ _=>trivial,?_⟩
  unfold fwF
  cases hb:wR e with
  | true=>rw[hb] at hf;exact fw_ok hr (lt_len Ax hlt) (wrap_succ hlt hs) hf
  | false=>rw[hb] at hf;exact fw_bad hr (lt_len Ax hlt) hf
 ·intro a _
  exact zn (bE Ax l)
theorem few_x{L:List (List Dp)}(hl:CW Ae Γ0 [] false (.loop (sub Ez 0)) (fwS L 0) .ret fwX)(h:List Blk):(Ev Ae Γ0 11 [aa L] h (bool false) h):=by
 have hl0:=(@hl)
 exact AB (AF (d:=bool false) pok [.sum [0,3] (Bj) {t:=mkT 19 0 [(2,bool false)],h:=[],m:=[]}] (by kernel_rfl) (.c hl0 .n) rfl rfl h) (by rfl) (by rfl)
theorem few_o{L:List (List Dp)}(hl:CW Ae Γ0 [] false (.loop (sub Ez 0)) (fwS L 0) (.exit 0) (fwE L))(h:List Blk):(Ev Ae Γ0 11 [aa L] h (bool (Qd ((L.length:Int)≤16))) h):=by
 have hl0:=(@hl)
 exact AB (AF (d:=bool (Qd ((↑(Ag L):Int)≤16))) pok [.sum [0,3] (A1 0) {t:=mkT 19 0 [(0,aa L)],h:=[],m:=[]}] (by kernel_rfl) (.c hl0 .n) rfl rfl h) (by rfl) (by rfl)
theorem ux:∀{l:List EntT},forL fwF l ()=(match l.all wR with|true=>.inl ()|false=>.inr ())
 | []=>rfl
 | e::l=>by
  unfold forL
  rw[List.all_cons]
  cases hb:wR e with
  | true=>simp only[fwF,hb,BI];exact ux
  | false=>simp only[fwF,hb];rfl
def wS(l:List EntT):Bool:=l.all wR&&Qd (((l.map Ax).length:Int)≤16)
theorem wT{l:List EntT}(hs:aq l)(h:List Blk):Ev Ae Γ0 11 [aa (l.map Ax)] h (bool (wS l)) h:=by
 have:=zo hs
 rw[ux] at this
 unfold wS
 cases hf:l.all wR with
 | true=>rw[hf] at this;rw[BI];exact few_o this h
 | false=>rw[hf] at this;exact few_x this h
theorem sm(a b:SecT):eA a b=secEq a b:=rfl
theorem uy(a b:RqT):iq a b=rqEq a b:=by
 have hq:qbB a.chs b.chs=(match (((a.chs.map Ai).length:Int) != ((b.chs.map Ai).length:Int)) with|true=>false|false=>match qbR a.chs b.chs with | .inl _=>true | .inr _=>false):=by
  unfold qbB
  cases (((a.chs.map Ai).length:Int) != ((b.chs.map Ai).length:Int))<;>rfl
 unfold iq rqEq
 rw[hq]
 simp only[bne]
 cases (((a.chs.map Ai).length:Int)==((b.chs.map Ai).length:Int))<;>cases qbR a.chs b.chs<;>cases (a.campus==b.campus)<;>cases (a.no==b.no)<;>cases (a.st==b.st)<;>cases (a.kind==b.kind)<;>cases (a.time==b.time)<;>cases (a.gsec==b.gsec&&(a.glab==b.glab&&true))<;>cases (a.key==b.key)<;>rfl
theorem sn(a b:EntT):kb a b=de a b:=by
 unfold kb de
 rw[sm,uy]
 generalize (rW a b&&a.kind==b.kind&&a.stu==b.stu&&a.obj==b.obj&&a.term==b.term&&a.val==b.val&&(a.frm==b.frm&&(a.til==b.til&&true))&&eqS a.text b.text)=x
 generalize (a.r==b.r&&(a.s==b.s&&true))=y
 cases x<;>cases y<;>cases secEq a.sec b.sec<;>cases rqEq a.req b.req<;>rfl
set_option maxRecDepth 1000000
abbrev tk(a b c k t:Int):List D:=[int a,int b,int c,int k,int 0,int 0,int t,int 0,int 0,int 0,ap ⟨#[]⟩,int 0,int 0,int 0,int 0,int 0,nq,nq,nq,bool false,int 0,int 0,int 0,int 0,int 0,nq,int 0,int 0,int 0,int 0,int 0]
def s39m0:Memo:=⟨20,[.ref (.vec 0 0),.ref (.vs 0 0 1 2 false)],[.vec [(tk 2 0 1 9 3),(tk 2 1 1 9 3),(tk 5 0 2 9 3)] 0 31,.gone,.gone,.gone,.gone,.gone,.gone,.gone,.gone,.gone,.gone,.gone,.vec [(tk 2 0 1 9 3),(tk 2 1 1 9 3),(tk 5 0 2 9 3)] 2 31,.gone,.gone,.gone,.gone,.gone,.gone,.gone,.gone,.gone,.gone,.gone,.gone,.gone,.gone,.gone,.gone,.gone,.vec [(tk 2 0 1 9 3),(tk 2 1 1 9 3),(tk 5 0 2 9 3)] 2 31,.gone,.gone,.gone,.gone,.gone,.gone],.ret (.tup [.ref (.vec 46 2),int 0]) [.vec [(tk 2 0 1 9 3),(tk 2 1 1 9 3),(tk 5 0 2 9 3)] 0 31,.gone,.gone,.gone,.gone,.gone,.gone,.gone,.gone,.gone,.gone,.gone,.vec [(tk 2 0 1 9 3),(tk 2 1 1 9 3),(tk 5 0 2 9 3)] 2 31,.gone,.gone,.gone,.gone,.gone,.gone,.gone,.gone,.gone,.gone,.gone,.gone,.gone,.gone,.gone,.gone,.gone,.vec [(tk 2 0 1 9 3),(tk 2 1 1 9 3),(tk 5 0 2 9 3)] 2 31,.gone,.gone,.gone,.gone,.gone,.gone,.gone,.gone,.gone,.gone,.gone,.gone,.gone,.gone,.gone,.vec [(tk 2 0 1 9 3),(tk 2 1 1 9 3),(tk 5 0 2 9 3)] 2 31,.gone,.gone,.gone,.gone,.gone,.gone,.gone,.gone,.gone,.gone]⟩
theorem vV:s39m0.Ok Ae Γq:=Dy pok (ms:=[]) (by kernel_rfl) trivial
def s39m1:Memo:=⟨17,[.ref (.vec 0 0),.agg (tk 2 0 9 9 3)],[.vec [(tk 2 0 1 9 3),(tk 2 1 1 9 3),(tk 5 0 2 9 3)] 0 31,.gone,.gone,.gone,.gone,.gone,.gone,.gone,.gone,.gone,.gone,.gone,.vec [(tk 2 0 1 9 3),(tk 2 1 1 9 3),(tk 5 0 2 9 3)] 2 31,.gone,.gone,.gone,.gone,.gone,.gone,.gone,.gone,.gone,.gone,.gone,.gone,.gone,.gone,.gone,.gone,.gone,.vec [(tk 2 0 1 9 3),(tk 2 1 1 9 3),(tk 5 0 2 9 3)] 2 31,.gone,.gone,.gone,.gone,.gone,.gone,.gone,.gone,.gone,.gone,.gone,.gone,.gone,.gone,.gone,.vec [(tk 2 0 1 9 3),(tk 2 1 1 9 3),(tk 5 0 2 9 3)] 2 31,.gone,.gone,.gone,.gone,.gone,.gone,.gone,.gone,.gone,.gone],.ret (.tup [nq,int 0,int 390]) [.vec [(tk 2 0 1 9 3),(tk 2 1 1 9 3),(tk 5 0 2 9 3)] 0 31,.gone,.gone,.gone,.gone,.gone,.gone,.gone,.gone,.gone,.gone,.gone,.vec [(tk 2 0 1 9 3),(tk 2 1 1 9 3),(tk 5 0 2 9 3)] 2 31,.gone,.gone,.gone,.gone,.gone,.gone,.gone,.gone,.gone,.gone,.gone,.gone,.gone,.gone,.gone,.gone,.gone,.vec [(tk 2 0 1 9 3),(tk 2 1 1 9 3),(tk 5 0 2 9 3)] 2 31,.gone,.gone,.gone,.gone,.gone,.gone,.gone,.gone,.gone,.gone,.gone,.gone,.gone,.gone,.gone,.vec [(tk 2 0 1 9 3),(tk 2 1 1 9 3),(tk 5 0 2 9 3)] 2 31,.gone,.gone,.gone,.gone,.gone,.gone,.gone,.gone,.gone,.gone]⟩
theorem vW:s39m1.Ok Ae Γq:=Dy pok (ms:=[]) (by kernel_rfl) trivial
def s39m2:Memo:=⟨17,[.ref (.vs 0 0 0 2 false),.agg (tk 5 0 2 9 3)],[.vec [(tk 2 0 1 9 3),(tk 2 1 1 9 3),(tk 5 0 2 9 3)] 0 31],.ret (.tup [.ref (.vec 12 2),int 2,int 0]) [.vec [(tk 2 0 1 9 3),(tk 2 1 1 9 3),(tk 5 0 2 9 3)] 0 31,.gone,.gone,.gone,.gone,.gone,.gone,.gone,.gone,.gone,.gone,.gone,.vec [(tk 2 0 1 9 3),(tk 2 1 1 9 3),(tk 5 0 2 9 3)] 2 31,.gone,.gone,.gone,.gone,.gone,.gone]⟩
theorem vX:s39m2.Ok Ae Γq:=Dy pok (ms:=[]) (by kernel_rfl) trivial
def s39m3:Memo:=⟨17,[.ref (.vs 0 0 1 2 false),.agg (tk 2 0 1 9 3)],[.vec [(tk 2 0 1 9 3),(tk 2 1 1 9 3),(tk 5 0 2 9 3)] 0 31,.gone,.gone,.gone,.gone,.gone,.gone,.gone,.gone,.gone,.gone,.gone,.vec [(tk 2 0 1 9 3),(tk 2 1 1 9 3),(tk 5 0 2 9 3)] 2 31,.gone,.gone,.gone,.gone,.gone,.gone],.ret (.tup [.ref (.vec 30 2),int 0,int 0]) [.vec [(tk 2 0 1 9 3),(tk 2 1 1 9 3),(tk 5 0 2 9 3)] 0 31,.gone,.gone,.gone,.gone,.gone,.gone,.gone,.gone,.gone,.gone,.gone,.vec [(tk 2 0 1 9 3),(tk 2 1 1 9 3),(tk 5 0 2 9 3)] 2 31,.gone,.gone,.gone,.gone,.gone,.gone,.gone,.gone,.gone,.gone,.gone,.gone,.gone,.gone,.gone,.gone,.gone,.vec [(tk 2 0 1 9 3),(tk 2 1 1 9 3),(tk 5 0 2 9 3)] 2 31,.gone,.gone,.gone,.gone,.gone,.gone]⟩
theorem vY:s39m3.Ok Ae Γq:=Dy pok (ms:=[]) (by kernel_rfl) trivial
def s39m4:Memo:=⟨22,[.ref (.vec 0 0),int 16],[.vec [(tk 2 0 1 9 3),(tk 2 1 1 9 3),(tk 5 0 2 9 3)] 0 31,.gone,.gone,.gone,.gone,.gone,.gone,.gone,.gone,.gone,.gone,.gone,.vec [(tk 2 0 1 9 3),(tk 2 1 1 9 3),(tk 5 0 2 9 3)] 2 31,.gone,.gone,.gone,.gone,.gone,.gone,.gone,.gone,.gone,.gone,.gone,.gone,.gone,.gone,.gone,.gone,.gone,.vec [(tk 2 0 1 9 3),(tk 2 1 1 9 3),(tk 5 0 2 9 3)] 2 31,.gone,.gone,.gone,.gone,.gone,.gone,.gone,.gone,.gone,.gone,.gone,.gone,.gone,.gone,.gone,.vec [(tk 2 0 1 9 3),(tk 2 1 1 9 3),(tk 5 0 2 9 3)] 2 31,.gone,.gone,.gone,.gone,.gone,.gone,.gone,.gone,.gone,.gone],.ret (.tup [.ref (.vec 59 0),int 0]) [.vec [(tk 2 0 1 9 3),(tk 2 1 1 9 3),(tk 5 0 2 9 3)] 0 31,.gone,.gone,.gone,.gone,.gone,.gone,.gone,.gone,.gone,.gone,.gone,.vec [(tk 2 0 1 9 3),(tk 2 1 1 9 3),(tk 5 0 2 9 3)] 2 31,.gone,.gone,.gone,.gone,.gone,.gone,.gone,.gone,.gone,.gone,.gone,.gone,.gone,.gone,.gone,.gone,.gone,.vec [(tk 2 0 1 9 3),(tk 2 1 1 9 3),(tk 5 0 2 9 3)] 2 31,.gone,.gone,.gone,.gone,.gone,.gone,.gone,.gone,.gone,.gone,.gone,.gone,.gone,.gone,.gone,.vec [(tk 2 0 1 9 3),(tk 2 1 1 9 3),(tk 5 0 2 9 3)] 2 31,.gone,.gone,.gone,.gone,.gone,.gone,.gone,.gone,.gone,.gone,.gone,.gone,.vec [(tk 2 0 1 9 3)] 0 31,.gone,.gone]⟩
theorem vZ:s39m4.Ok Ae Γq:=Dy pok (ms:=[]) (by kernel_rfl) trivial
def s39m5:Memo:=⟨12,[.ref (.vec 0 0)],[.vec [(tk 2 0 1 9 3),(tk 2 1 1 9 3),(tk 5 0 2 9 3)] 0 31,.gone,.gone,.gone,.gone,.gone,.gone,.gone,.gone,.gone,.gone,.gone,.vec [(tk 2 0 1 9 3),(tk 2 1 1 9 3),(tk 5 0 2 9 3)] 2 31,.gone,.gone,.gone,.gone,.gone,.gone,.gone,.gone,.gone,.gone,.gone,.gone,.gone,.gone,.gone,.gone,.gone,.vec [(tk 2 0 1 9 3),(tk 2 1 1 9 3),(tk 5 0 2 9 3)] 2 31,.gone,.gone,.gone,.gone,.gone,.gone,.gone,.gone,.gone,.gone,.gone,.gone,.gone,.gone,.gone,.vec [(tk 2 0 1 9 3),(tk 2 1 1 9 3),(tk 5 0 2 9 3)] 2 31,.gone,.gone,.gone,.gone,.gone,.gone,.gone,.gone,.gone,.gone,.gone,.gone,.vec [(tk 2 0 1 9 3)] 0 31,.gone,.gone],.ret (int 0) [.vec [(tk 2 0 1 9 3),(tk 2 1 1 9 3),(tk 5 0 2 9 3)] 0 31,.gone,.gone,.gone,.gone,.gone,.gone,.gone,.gone,.gone,.gone,.gone,.vec [(tk 2 0 1 9 3),(tk 2 1 1 9 3),(tk 5 0 2 9 3)] 2 31,.gone,.gone,.gone,.gone,.gone,.gone,.gone,.gone,.gone,.gone,.gone,.gone,.gone,.gone,.gone,.gone,.gone,.vec [(tk 2 0 1 9 3),(tk 2 1 1 9 3),(tk 5 0 2 9 3)] 2 31,.gone,.gone,.gone,.gone,.gone,.gone,.gone,.gone,.gone,.gone,.gone,.gone,.gone,.gone,.gone,.vec [(tk 2 0 1 9 3),(tk 2 1 1 9 3),(tk 5 0 2 9 3)] 2 31,.gone,.gone,.gone,.gone,.gone,.gone,.gone,.gone,.gone,.gone,.gone,.gone,.vec [(tk 2 0 1 9 3)] 0 31,.gone,.gone]⟩
theorem v2:s39m5.Ok Ae Γq:=Dy pok (ms:=[]) (by kernel_rfl) trivial
def s39mR:Memo:=⟨10,[],[],.ret (bool true) []⟩
theorem v3:s39mR.Ok Ae Γq:=Dy pok (ms:=[s39m0,s39m1,s39m2,s39m3,s39m4,s39m5]) (by kernel_rfl) ⟨vV,vW,vX,vY,vZ,v2,trivial⟩
theorem eG(h:List Blk):Ev Ae Γq 10 [] h (bool true) h:=Ev.frame0 rfl (Memo.call v3 rfl) h
end Go.Vi
