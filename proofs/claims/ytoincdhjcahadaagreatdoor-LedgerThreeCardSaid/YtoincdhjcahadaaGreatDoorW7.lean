/- LedgerThree: part of the proof: contracts of the functions that the law reaches, and the law. No conditions beyond the given statement's own. -/
import Derived.Test.YtoincdhjcahadaaGreatDoorW6
open Decidable renaming decide → Dd
open Go Go.Proofs
namespace Go.Vi
set_option maxRecDepth 100000
set_option maxHeartbeats 4000000
theorem jo_ivp{A B:List (List Dp)}{x:List EntT}{n:EntT}(ho:∀e∈x,e.ok)(hl:x.length≤1000000)(hy:joF x n=none):VInvP Tryz.prog Γ0 (.ref (.yl 5)) [ag n.row] (joH 33 A B x 1 .ready [evar n]) fun c2 h2=>c2=dmC 390∧h2=joH 33 A B x 1 .busy [evar n,evar n]:=by
 unfold joF at hy
 cases hx:x.getLast? with
 | none=>rw[hx] at hy;cases hy
 | some l =>
  rw[hx] at hy
  obtain⟨hne,hg⟩:=joLast hx
  have hpos:0<x.length:=List.length_pos_iff.2 hne
  have hw:IntKind.i64.wrap (((joV x).length:Int) - 1)=((x.length - 1:Nat):Int):=by
   rw[joV_len,wrap_i64 (by omega) (by omega)];omega
  have hk:Dd (IntKind.i64.wrap (((joV x).length:Int) - 1)≥0)=true:=by rw[hw];simp
  have hi:inR (IntKind.i64.wrap (((joV x).length:Int) - 1)) (joV x).length=true:=by rw[hw];simp[inR,joV_len];omega
  have hx2:x[Int.toNat (IntKind.i64.wrap (((joV x).length:Int) - 1))]? = some l:=by rw[hw,Int.toNat_natCast];exact hg
  simp only at hy
  cases hs:stEq l.st n.st with
  | false=>rw[hs] at hy;cases hy
  | true =>
   rw[hs] at hy
   simp only at hy
   cases hb:entEq l n with
   | true=>rw[hb] at hy;cases hy
   | false =>
    have hm:l∈x:=List.mem_of_getElem? hg
    have hT:=jo_r5 (f:=33) (A:=A) (B:=B) (n:=n) hi hx2 (fun h=>same_ev' (ho l hm) hb h)
    exact round_pan (h1:=joH 33 A B x 1 .ready [evar n,evar n]) (fn:=Tryz.f33) (s2:={t:=r5B x l n,h:=joH 33 A B x 1 .busy [evar n,evar n],m:=[]}) rfl (by decide) rfl rfl jo_asg rfl (jo_pan (f:=33) hk hi hx2 (by rw[hk,Bool.true_and];exact hs) hT) rfl
noncomputable abbrev i6O:Array Oper:=regOps (cL (tailC (bodyC Tryz.f83) 6))
theorem i6_code:tailC (bodyC Tryz.f83) 6=.seq (.region (idOf (cL (tailC (bodyC Tryz.f83) 6))) i6O false) (cR (tailC (bodyC Tryz.f83) 6)):=by kernel_rfl
noncomputable abbrev i6L:Oper:=(i6O.toList.drop 2).headD default
abbrev i6A:List D:=mkT 49 0 [(0,.ref (.yl 5)),(5,.ref (.ptr 6 0))]
abbrev i6B(n:EntT):List D:=mkT 49 0 [(0,.ref (.yl 5)),(5,.ref (.ptr 6 0)),(45,.ref (.yl 5)),(46,ag n.row)]
theorem i6_pan{A B:List (List Dp)}{x:List EntT}{n:EntT}{c:List PanicEntry}{h0 hp:List Blk}(hm:marksOk hp []=true)(hy:VInvP Tryz.prog Γ0 (.ref (.yl 5)) [ag n.row] (joH 33 A B x 1 .ready [evar n]) fun c2 h2=>c2=c∧h2=hp):
  CW Tryz.prog Γ0 h0 false (tailC (bodyC Tryz.f83) 6) {t:=i6A,h:=joH 33 A B x 1 .ready [evar n],m:=[]} (.panic c) {t:=i6B n,h:=hp,m:=[]}:=by
 rw[i6_code]
 refine CW.out (by simp) (CW.callPan (os1:=i6O.toList.take 2) (rest:=i6O.toList.drop 3) (o:=i6L) (fv:=opFv i6L) (args:=opArgs i6L) (ats:=opAts i6L) (h1:=joH 33 A B x 1 .ready [evar n]) (by kernel_rfl) (by kernel_rfl) (by kernel_rfl) (by kernel_rfl) ?_ hm)
 have e1:evalD Γ0 (i6B n) (opFv i6L)=.ref (.yl 5):=by kernel_rfl
 have e2:(opArgs i6L).toList.map (evalD Γ0 (i6B n))=[ag n.row]:=by kernel_rfl
 rw[e1,e2]
 exact hy
noncomputable abbrev it_pa1_x0(A:List (List Dp))(B:List (List Dp))(x:List EntT):List Blk:=[.var [.ref (.vec 3 1)],.var [rowsD' A],.var [rowsD' B],.vec (joV x) 1 31,.defd,.loop LoopState.ready none 33 (mkT 45 0 [(4,.ref (.ptr 0 0)),(9,D.fn (Fn.func 83) [] [.ref (.ptr 1 0),.ref (.ptr 2 0)])]) {toList:=[10]} (rfAsg (sub Tryz.f33 0)) (rfBody (sub Tryz.f33 0))]
theorem it_pa1{A0 B0 A A' B:List (List Dp)}{x0 x:List EntT}{m n:EntT}{c:List PanicEntry}{hp:List Blk}(hAB:(Dd ((A.length:Int)>0)||Dd ((B.length:Int)>0))=true)(hb:Dd ((B.length:Int)>0)=false)(hra:RowAt 0 A n.row 31)(hrb:False→RowAt 0 B m.row 31)(hs:SlT A A')(hcd:(((A.length:Int)==0)||(Dd ((B.length:Int)>0)&&Dd (stCmp ⟨m.time,m.campus,m.no⟩ ⟨n.time,n.campus,n.no⟩<0)))=false)
  (hT:CW Tryz.prog Γ0 (joH 33 A0 B0 x0 0 .ready []) false (tailC (bodyC Tryz.f83) 6) {t:=i6A,h:=joH 33 A' B x 1 .ready [evar n],m:=[]} (.panic c) {t:=i6B n,h:=hp,m:=[]}):(CW Tryz.prog Γ0 (joH 33 A0 B0 x0 0 .ready []) false (sub Tryz.f83 0) (itS 33 A B x) (.panic c) {t:=i6B n,h:=hp,m:=[]}):=by
 have hl0:=(@hT)
 exact CW.cast (CW.symX (s':={t:=mkT 49 0 [(0,.ref (.yl 5)),(5,.ref (.ptr 6 0)),(45,.ref (.yl 5)),(46,D.agg [int n.time,int n.campus,int n.no,int n.kind,int n.stu,int n.obj,int n.term,int n.val,int n.frm,int n.til,strD n.text,int n.sec.id,int n.sec.course,int n.sec.term,int n.sec.campus,int n.sec.seats,rowsD' (List.map MeT.row n.sec.mts),rowsD' (List.map GrT.row n.sec.grs),rowsD' (List.map intRow n.sec.labs),bool n.sec.lab,int n.req.campus,int n.req.no,int n.req.st,int n.req.kind,int n.req.time,rowsD' (List.map BuT.row n.req.chs),int n.req.gsec,int n.req.glab,int n.req.key,int n.r,int n.s])],h:=hp,m:=[]}) (e:=Exit.panic c) pok [] [.b true,.row [vi m.time,vi m.campus,vi m.no,vi m.kind,vi m.stu,vi m.obj,vi m.term,vi m.val,vi m.frm,vi m.til,vs m.text,vi m.sec.id,vi m.sec.course,vi m.sec.term,vi m.sec.campus,vi m.sec.seats,Dp.sl (List.map MeT.row m.sec.mts),Dp.sl (List.map GrT.row m.sec.grs),Dp.sl (List.map intRow m.sec.labs),Dp.v (Value.bool m.sec.lab),vi m.req.campus,vi m.req.no,vi m.req.st,vi m.req.kind,vi m.req.time,Dp.sl (List.map BuT.row m.req.chs),vi m.req.gsec,vi m.req.glab,vi m.req.key,vi m.r,vi m.s],.row [vi n.time,vi n.campus,vi n.no,vi n.kind,vi n.stu,vi n.obj,vi n.term,vi n.val,vi n.frm,vi n.til,vs n.text,vi n.sec.id,vi n.sec.course,vi n.sec.term,vi n.sec.campus,vi n.sec.seats,Dp.sl (List.map MeT.row n.sec.mts),Dp.sl (List.map GrT.row n.sec.grs),Dp.sl (List.map intRow n.sec.labs),Dp.v (Value.bool n.sec.lab),vi n.req.campus,vi n.req.no,vi n.req.st,vi n.req.kind,vi n.req.time,Dp.sl (List.map BuT.row n.req.chs),vi n.req.gsec,vi n.req.glab,vi n.req.key,vi n.r,vi n.s],.val (int (stCmp {time:=m.time,campus:=m.campus,no:=m.no} {time:=n.time,campus:=n.campus,no:=n.no})),.b false,.row [vi n.time,vi n.campus,vi n.no,vi n.kind,vi n.stu,vi n.obj,vi n.term,vi n.val,vi n.frm,vi n.til,vs n.text,vi n.sec.id,vi n.sec.course,vi n.sec.term,vi n.sec.campus,vi n.sec.seats,Dp.sl (List.map MeT.row n.sec.mts),Dp.sl (List.map GrT.row n.sec.grs),Dp.sl (List.map intRow n.sec.labs),Dp.v (Value.bool n.sec.lab),vi n.req.campus,vi n.req.no,vi n.req.st,vi n.req.kind,vi n.req.time,Dp.sl (List.map BuT.row n.req.chs),vi n.req.gsec,vi n.req.glab,vi n.req.key,vi n.r,vi n.s],.ov 43 (rowsD' A'),.ssum [0,5] (Exit.panic c) {t:=mkT 49 0 [(0,.ref (.yl 5)),(5,.ref (.ptr 6 0)),(45,.ref (.yl 5)),(46,D.agg [int n.time,int n.campus,int n.no,int n.kind,int n.stu,int n.obj,int n.term,int n.val,int n.frm,int n.til,strD n.text,int n.sec.id,int n.sec.course,int n.sec.term,int n.sec.campus,int n.sec.seats,rowsD' (List.map MeT.row n.sec.mts),rowsD' (List.map GrT.row n.sec.grs),rowsD' (List.map intRow n.sec.labs),bool n.sec.lab,int n.req.campus,int n.req.no,int n.req.st,int n.req.kind,int n.req.time,rowsD' (List.map BuT.row n.req.chs),int n.req.gsec,int n.req.glab,int n.req.key,int n.r,int n.s])],h:=hp}] (by kernel_rfl) (.c hAB (.c (show(!(↑(List.length A):Int)==0&&Dd ((↑(List.length B):Int)>0))=true→RowAt 0 B [vi m.time,vi m.campus,vi m.no,vi m.kind,vi m.stu,vi m.obj,vi m.term,vi m.val,vi m.frm,vi m.til,vs m.text,vi m.sec.id,vi m.sec.course,vi m.sec.term,vi m.sec.campus,vi m.sec.seats,Dp.sl (List.map MeT.row m.sec.mts),Dp.sl (List.map GrT.row m.sec.grs),Dp.sl (List.map intRow m.sec.labs),Dp.v (Value.bool m.sec.lab),vi m.req.campus,vi m.req.no,vi m.req.st,vi m.req.kind,vi m.req.time,Dp.sl (List.map BuT.row m.req.chs),vi m.req.gsec,vi m.req.glab,vi m.req.key,vi m.r,vi m.s] 31 from(fun hg=>(hrb (by first|exact hg|(simp at hg;done)|(simp_all;done))))) (.c (show(!(↑(List.length A):Int)==0&&Dd ((↑(List.length B):Int)>0))=true→RowAt 0 A [vi n.time,vi n.campus,vi n.no,vi n.kind,vi n.stu,vi n.obj,vi n.term,vi n.val,vi n.frm,vi n.til,vs n.text,vi n.sec.id,vi n.sec.course,vi n.sec.term,vi n.sec.campus,vi n.sec.seats,Dp.sl (List.map MeT.row n.sec.mts),Dp.sl (List.map GrT.row n.sec.grs),Dp.sl (List.map intRow n.sec.labs),Dp.v (Value.bool n.sec.lab),vi n.req.campus,vi n.req.no,vi n.req.st,vi n.req.kind,vi n.req.time,Dp.sl (List.map BuT.row n.req.chs),vi n.req.gsec,vi n.req.glab,vi n.req.key,vi n.r,vi n.s] 31 from(fun hg=>hra)) (.c (show(!(↑(List.length A):Int)==0&&Dd ((↑(List.length B):Int)>0))=true→Ev Tryz.prog Γ0 43 [D.agg [int m.time,int m.campus,int m.no],D.agg [int n.time,int n.campus,int n.no]] (it_pa1_x0 A B x) (int (stCmp {time:=m.time,campus:=m.campus,no:=m.no} {time:=n.time,campus:=n.campus,no:=n.no})) (it_pa1_x0 A B x) from(fun hg=>(@stcmp_ev ({time:=m.time,campus:=m.campus,no:=m.no}) ({time:=n.time,campus:=n.campus,no:=n.no}) ((it_pa1_x0 A B x))))) (.c hcd (.c hra (.c (show some (slOk 1 (↑(List.length A):Int) (List.length A)&&true&&(true||false)&&List.all A fun r=>Dd (List.length r=31),rowsD' (List.take (Int.toNat (↑(List.length A):Int) - Int.toNat 1) (List.drop (Int.toNat 1) A)))=some (true,rowsD' A') from(by first|(simp only[hAB,hb,hcd,cond_true,cond_false];done)|first|assumption|rfl|exact hs|(exfalso;simp_all;done))) (.c hl0 .n))))))))) (by rfl) (by rfl)
noncomputable abbrev it_pa2_x0(A:List (List Dp))(B:List (List Dp))(x:List EntT):List Blk:=[.var [.ref (.vec 3 1)],.var [rowsD' A],.var [rowsD' B],.vec (joV x) 1 31,.defd,.loop LoopState.ready none 33 (mkT 45 0 [(4,.ref (.ptr 0 0)),(9,D.fn (Fn.func 83) [] [.ref (.ptr 1 0),.ref (.ptr 2 0)])]) {toList:=[10]} (rfAsg (sub Tryz.f33 0)) (rfBody (sub Tryz.f33 0))]
theorem it_pa2{A0 B0 A A' B:List (List Dp)}{x0 x:List EntT}{m n:EntT}{c:List PanicEntry}{hp:List Blk}(hAB:(Dd ((A.length:Int)>0)||Dd ((B.length:Int)>0))=true)(hb:Dd ((B.length:Int)>0)=true)(hra:RowAt 0 A n.row 31)(hrb:RowAt 0 B m.row 31)(hs:SlT A A')(hcd:(((A.length:Int)==0)||(Dd ((B.length:Int)>0)&&Dd (stCmp ⟨m.time,m.campus,m.no⟩ ⟨n.time,n.campus,n.no⟩<0)))=false)
  (hT:CW Tryz.prog Γ0 (joH 33 A0 B0 x0 0 .ready []) false (tailC (bodyC Tryz.f83) 6) {t:=i6A,h:=joH 33 A' B x 1 .ready [evar n],m:=[]} (.panic c) {t:=i6B n,h:=hp,m:=[]}):(CW Tryz.prog Γ0 (joH 33 A0 B0 x0 0 .ready []) false (sub Tryz.f83 0) (itS 33 A B x) (.panic c) {t:=i6B n,h:=hp,m:=[]}):=by
 have hl0:=(@hT)
 exact CW.cast (CW.symX (s':={t:=mkT 49 0 [(0,.ref (.yl 5)),(5,.ref (.ptr 6 0)),(45,.ref (.yl 5)),(46,D.agg [int n.time,int n.campus,int n.no,int n.kind,int n.stu,int n.obj,int n.term,int n.val,int n.frm,int n.til,strD n.text,int n.sec.id,int n.sec.course,int n.sec.term,int n.sec.campus,int n.sec.seats,rowsD' (List.map MeT.row n.sec.mts),rowsD' (List.map GrT.row n.sec.grs),rowsD' (List.map intRow n.sec.labs),bool n.sec.lab,int n.req.campus,int n.req.no,int n.req.st,int n.req.kind,int n.req.time,rowsD' (List.map BuT.row n.req.chs),int n.req.gsec,int n.req.glab,int n.req.key,int n.r,int n.s])],h:=hp,m:=[]}) (e:=Exit.panic c) pok [] [.b true,.row [vi m.time,vi m.campus,vi m.no,vi m.kind,vi m.stu,vi m.obj,vi m.term,vi m.val,vi m.frm,vi m.til,vs m.text,vi m.sec.id,vi m.sec.course,vi m.sec.term,vi m.sec.campus,vi m.sec.seats,Dp.sl (List.map MeT.row m.sec.mts),Dp.sl (List.map GrT.row m.sec.grs),Dp.sl (List.map intRow m.sec.labs),Dp.v (Value.bool m.sec.lab),vi m.req.campus,vi m.req.no,vi m.req.st,vi m.req.kind,vi m.req.time,Dp.sl (List.map BuT.row m.req.chs),vi m.req.gsec,vi m.req.glab,vi m.req.key,vi m.r,vi m.s],.row [vi n.time,vi n.campus,vi n.no,vi n.kind,vi n.stu,vi n.obj,vi n.term,vi n.val,vi n.frm,vi n.til,vs n.text,vi n.sec.id,vi n.sec.course,vi n.sec.term,vi n.sec.campus,vi n.sec.seats,Dp.sl (List.map MeT.row n.sec.mts),Dp.sl (List.map GrT.row n.sec.grs),Dp.sl (List.map intRow n.sec.labs),Dp.v (Value.bool n.sec.lab),vi n.req.campus,vi n.req.no,vi n.req.st,vi n.req.kind,vi n.req.time,Dp.sl (List.map BuT.row n.req.chs),vi n.req.gsec,vi n.req.glab,vi n.req.key,vi n.r,vi n.s],.val (int (stCmp {time:=m.time,campus:=m.campus,no:=m.no} {time:=n.time,campus:=n.campus,no:=n.no})),.b false,.row [vi n.time,vi n.campus,vi n.no,vi n.kind,vi n.stu,vi n.obj,vi n.term,vi n.val,vi n.frm,vi n.til,vs n.text,vi n.sec.id,vi n.sec.course,vi n.sec.term,vi n.sec.campus,vi n.sec.seats,Dp.sl (List.map MeT.row n.sec.mts),Dp.sl (List.map GrT.row n.sec.grs),Dp.sl (List.map intRow n.sec.labs),Dp.v (Value.bool n.sec.lab),vi n.req.campus,vi n.req.no,vi n.req.st,vi n.req.kind,vi n.req.time,Dp.sl (List.map BuT.row n.req.chs),vi n.req.gsec,vi n.req.glab,vi n.req.key,vi n.r,vi n.s],.ov 43 (rowsD' A'),.ssum [0,5] (Exit.panic c) {t:=mkT 49 0 [(0,.ref (.yl 5)),(5,.ref (.ptr 6 0)),(45,.ref (.yl 5)),(46,D.agg [int n.time,int n.campus,int n.no,int n.kind,int n.stu,int n.obj,int n.term,int n.val,int n.frm,int n.til,strD n.text,int n.sec.id,int n.sec.course,int n.sec.term,int n.sec.campus,int n.sec.seats,rowsD' (List.map MeT.row n.sec.mts),rowsD' (List.map GrT.row n.sec.grs),rowsD' (List.map intRow n.sec.labs),bool n.sec.lab,int n.req.campus,int n.req.no,int n.req.st,int n.req.kind,int n.req.time,rowsD' (List.map BuT.row n.req.chs),int n.req.gsec,int n.req.glab,int n.req.key,int n.r,int n.s])],h:=hp}] (by kernel_rfl) (.c hAB (.c (show(!(↑(List.length A):Int)==0&&Dd ((↑(List.length B):Int)>0))=true→RowAt 0 B [vi m.time,vi m.campus,vi m.no,vi m.kind,vi m.stu,vi m.obj,vi m.term,vi m.val,vi m.frm,vi m.til,vs m.text,vi m.sec.id,vi m.sec.course,vi m.sec.term,vi m.sec.campus,vi m.sec.seats,Dp.sl (List.map MeT.row m.sec.mts),Dp.sl (List.map GrT.row m.sec.grs),Dp.sl (List.map intRow m.sec.labs),Dp.v (Value.bool m.sec.lab),vi m.req.campus,vi m.req.no,vi m.req.st,vi m.req.kind,vi m.req.time,Dp.sl (List.map BuT.row m.req.chs),vi m.req.gsec,vi m.req.glab,vi m.req.key,vi m.r,vi m.s] 31 from(fun hg=>hrb)) (.c (show(!(↑(List.length A):Int)==0&&Dd ((↑(List.length B):Int)>0))=true→RowAt 0 A [vi n.time,vi n.campus,vi n.no,vi n.kind,vi n.stu,vi n.obj,vi n.term,vi n.val,vi n.frm,vi n.til,vs n.text,vi n.sec.id,vi n.sec.course,vi n.sec.term,vi n.sec.campus,vi n.sec.seats,Dp.sl (List.map MeT.row n.sec.mts),Dp.sl (List.map GrT.row n.sec.grs),Dp.sl (List.map intRow n.sec.labs),Dp.v (Value.bool n.sec.lab),vi n.req.campus,vi n.req.no,vi n.req.st,vi n.req.kind,vi n.req.time,Dp.sl (List.map BuT.row n.req.chs),vi n.req.gsec,vi n.req.glab,vi n.req.key,vi n.r,vi n.s] 31 from(fun hg=>hra)) (.c (show(!(↑(List.length A):Int)==0&&Dd ((↑(List.length B):Int)>0))=true→Ev Tryz.prog Γ0 43 [D.agg [int m.time,int m.campus,int m.no],D.agg [int n.time,int n.campus,int n.no]] (it_pa2_x0 A B x) (int (stCmp {time:=m.time,campus:=m.campus,no:=m.no} {time:=n.time,campus:=n.campus,no:=n.no})) (it_pa2_x0 A B x) from(fun hg=>(@stcmp_ev ({time:=m.time,campus:=m.campus,no:=m.no}) ({time:=n.time,campus:=n.campus,no:=n.no}) ((it_pa2_x0 A B x))))) (.c hcd (.c hra (.c (show some (slOk 1 (↑(List.length A):Int) (List.length A)&&true&&(true||false)&&List.all A fun r=>Dd (List.length r=31),rowsD' (List.take (Int.toNat (↑(List.length A):Int) - Int.toNat 1) (List.drop (Int.toNat 1) A)))=some (true,rowsD' A') from(by first|(simp only[hAB,hb,hcd,cond_true,cond_false];done)|first|assumption|rfl|exact hs|(exfalso;simp_all;done))) (.c hl0 .n))))))))) (by rfl) (by rfl)
noncomputable abbrev it_pb1_x0(A:List (List Dp))(B:List (List Dp))(x:List EntT):List Blk:=[.var [.ref (.vec 3 1)],.var [rowsD' A],.var [rowsD' B],.vec (joV x) 1 31,.defd,.loop LoopState.ready none 33 (mkT 45 0 [(4,.ref (.ptr 0 0)),(9,D.fn (Fn.func 83) [] [.ref (.ptr 1 0),.ref (.ptr 2 0)])]) {toList:=[10]} (rfAsg (sub Tryz.f33 0)) (rfBody (sub Tryz.f33 0))]
theorem it_pb1{A0 B0 A B B':List (List Dp)}{x0 x:List EntT}{m n:EntT}{c:List PanicEntry}{hp:List Blk}(hAB:(Dd ((A.length:Int)>0)||Dd ((B.length:Int)>0))=true)(ha:((A.length:Int)==0)=true)(hra:False→RowAt 0 A n.row 31)(hrb:RowAt 0 B m.row 31)(hs:SlT B B')(hcd:(((A.length:Int)==0)||(Dd ((B.length:Int)>0)&&Dd (stCmp ⟨m.time,m.campus,m.no⟩ ⟨n.time,n.campus,n.no⟩<0)))=true)
  (hT:CW Tryz.prog Γ0 (joH 33 A0 B0 x0 0 .ready []) false (tailC (bodyC Tryz.f83) 6) {t:=i6A,h:=joH 33 A B' x 1 .ready [evar m],m:=[]} (.panic c) {t:=i6B m,h:=hp,m:=[]}):(CW Tryz.prog Γ0 (joH 33 A0 B0 x0 0 .ready []) false (sub Tryz.f83 0) (itS 33 A B x) (.panic c) {t:=i6B m,h:=hp,m:=[]}):=by
 have hl0:=(@hT)
 exact CW.cast (CW.symX (s':={t:=mkT 49 0 [(0,.ref (.yl 5)),(5,.ref (.ptr 6 0)),(45,.ref (.yl 5)),(46,D.agg [int m.time,int m.campus,int m.no,int m.kind,int m.stu,int m.obj,int m.term,int m.val,int m.frm,int m.til,strD m.text,int m.sec.id,int m.sec.course,int m.sec.term,int m.sec.campus,int m.sec.seats,rowsD' (List.map MeT.row m.sec.mts),rowsD' (List.map GrT.row m.sec.grs),rowsD' (List.map intRow m.sec.labs),bool m.sec.lab,int m.req.campus,int m.req.no,int m.req.st,int m.req.kind,int m.req.time,rowsD' (List.map BuT.row m.req.chs),int m.req.gsec,int m.req.glab,int m.req.key,int m.r,int m.s])],h:=hp,m:=[]}) (e:=Exit.panic c) pok [] [.b true,.row [vi m.time,vi m.campus,vi m.no,vi m.kind,vi m.stu,vi m.obj,vi m.term,vi m.val,vi m.frm,vi m.til,vs m.text,vi m.sec.id,vi m.sec.course,vi m.sec.term,vi m.sec.campus,vi m.sec.seats,Dp.sl (List.map MeT.row m.sec.mts),Dp.sl (List.map GrT.row m.sec.grs),Dp.sl (List.map intRow m.sec.labs),Dp.v (Value.bool m.sec.lab),vi m.req.campus,vi m.req.no,vi m.req.st,vi m.req.kind,vi m.req.time,Dp.sl (List.map BuT.row m.req.chs),vi m.req.gsec,vi m.req.glab,vi m.req.key,vi m.r,vi m.s],.row [vi n.time,vi n.campus,vi n.no,vi n.kind,vi n.stu,vi n.obj,vi n.term,vi n.val,vi n.frm,vi n.til,vs n.text,vi n.sec.id,vi n.sec.course,vi n.sec.term,vi n.sec.campus,vi n.sec.seats,Dp.sl (List.map MeT.row n.sec.mts),Dp.sl (List.map GrT.row n.sec.grs),Dp.sl (List.map intRow n.sec.labs),Dp.v (Value.bool n.sec.lab),vi n.req.campus,vi n.req.no,vi n.req.st,vi n.req.kind,vi n.req.time,Dp.sl (List.map BuT.row n.req.chs),vi n.req.gsec,vi n.req.glab,vi n.req.key,vi n.r,vi n.s],.val (int (stCmp {time:=m.time,campus:=m.campus,no:=m.no} {time:=n.time,campus:=n.campus,no:=n.no})),.b true,.row [vi m.time,vi m.campus,vi m.no,vi m.kind,vi m.stu,vi m.obj,vi m.term,vi m.val,vi m.frm,vi m.til,vs m.text,vi m.sec.id,vi m.sec.course,vi m.sec.term,vi m.sec.campus,vi m.sec.seats,Dp.sl (List.map MeT.row m.sec.mts),Dp.sl (List.map GrT.row m.sec.grs),Dp.sl (List.map intRow m.sec.labs),Dp.v (Value.bool m.sec.lab),vi m.req.campus,vi m.req.no,vi m.req.st,vi m.req.kind,vi m.req.time,Dp.sl (List.map BuT.row m.req.chs),vi m.req.gsec,vi m.req.glab,vi m.req.key,vi m.r,vi m.s],.ov 43 (rowsD' B'),.ssum [0,5] (Exit.panic c) {t:=mkT 49 0 [(0,.ref (.yl 5)),(5,.ref (.ptr 6 0)),(45,.ref (.yl 5)),(46,D.agg [int m.time,int m.campus,int m.no,int m.kind,int m.stu,int m.obj,int m.term,int m.val,int m.frm,int m.til,strD m.text,int m.sec.id,int m.sec.course,int m.sec.term,int m.sec.campus,int m.sec.seats,rowsD' (List.map MeT.row m.sec.mts),rowsD' (List.map GrT.row m.sec.grs),rowsD' (List.map intRow m.sec.labs),bool m.sec.lab,int m.req.campus,int m.req.no,int m.req.st,int m.req.kind,int m.req.time,rowsD' (List.map BuT.row m.req.chs),int m.req.gsec,int m.req.glab,int m.req.key,int m.r,int m.s])],h:=hp}] (by kernel_rfl) (.c hAB (.c (show(!(↑(List.length A):Int)==0&&Dd ((↑(List.length B):Int)>0))=true→RowAt 0 B [vi m.time,vi m.campus,vi m.no,vi m.kind,vi m.stu,vi m.obj,vi m.term,vi m.val,vi m.frm,vi m.til,vs m.text,vi m.sec.id,vi m.sec.course,vi m.sec.term,vi m.sec.campus,vi m.sec.seats,Dp.sl (List.map MeT.row m.sec.mts),Dp.sl (List.map GrT.row m.sec.grs),Dp.sl (List.map intRow m.sec.labs),Dp.v (Value.bool m.sec.lab),vi m.req.campus,vi m.req.no,vi m.req.st,vi m.req.kind,vi m.req.time,Dp.sl (List.map BuT.row m.req.chs),vi m.req.gsec,vi m.req.glab,vi m.req.key,vi m.r,vi m.s] 31 from(fun hg=>hrb)) (.c (show(!(↑(List.length A):Int)==0&&Dd ((↑(List.length B):Int)>0))=true→RowAt 0 A [vi n.time,vi n.campus,vi n.no,vi n.kind,vi n.stu,vi n.obj,vi n.term,vi n.val,vi n.frm,vi n.til,vs n.text,vi n.sec.id,vi n.sec.course,vi n.sec.term,vi n.sec.campus,vi n.sec.seats,Dp.sl (List.map MeT.row n.sec.mts),Dp.sl (List.map GrT.row n.sec.grs),Dp.sl (List.map intRow n.sec.labs),Dp.v (Value.bool n.sec.lab),vi n.req.campus,vi n.req.no,vi n.req.st,vi n.req.kind,vi n.req.time,Dp.sl (List.map BuT.row n.req.chs),vi n.req.gsec,vi n.req.glab,vi n.req.key,vi n.r,vi n.s] 31 from(fun hg=>(hra (by first|exact hg|(simp at hg;done)|(simp_all;done))))) (.c (show(!(↑(List.length A):Int)==0&&Dd ((↑(List.length B):Int)>0))=true→Ev Tryz.prog Γ0 43 [D.agg [int m.time,int m.campus,int m.no],D.agg [int n.time,int n.campus,int n.no]] (it_pb1_x0 A B x) (int (stCmp {time:=m.time,campus:=m.campus,no:=m.no} {time:=n.time,campus:=n.campus,no:=n.no})) (it_pb1_x0 A B x) from(fun hg=>(@stcmp_ev ({time:=m.time,campus:=m.campus,no:=m.no}) ({time:=n.time,campus:=n.campus,no:=n.no}) ((it_pb1_x0 A B x))))) (.c hcd (.c hrb (.c (show some (slOk 1 (↑(List.length B):Int) (List.length B)&&true&&(true||false)&&List.all B fun r=>Dd (List.length r=31),rowsD' (List.take (Int.toNat (↑(List.length B):Int) - Int.toNat 1) (List.drop (Int.toNat 1) B)))=some (true,rowsD' B') from(by first|(simp only[hAB,ha,hcd,cond_true,cond_false];done)|first|assumption|rfl|exact hs|(exfalso;simp_all;done))) (.c hl0 .n))))))))) (by rfl) (by rfl)
noncomputable abbrev it_pb2_x0(A:List (List Dp))(B:List (List Dp))(x:List EntT):List Blk:=[.var [.ref (.vec 3 1)],.var [rowsD' A],.var [rowsD' B],.vec (joV x) 1 31,.defd,.loop LoopState.ready none 33 (mkT 45 0 [(4,.ref (.ptr 0 0)),(9,D.fn (Fn.func 83) [] [.ref (.ptr 1 0),.ref (.ptr 2 0)])]) {toList:=[10]} (rfAsg (sub Tryz.f33 0)) (rfBody (sub Tryz.f33 0))]
theorem it_pb2{A0 B0 A B B':List (List Dp)}{x0 x:List EntT}{m n:EntT}{c:List PanicEntry}{hp:List Blk}(hAB:(Dd ((A.length:Int)>0)||Dd ((B.length:Int)>0))=true)(ha:((A.length:Int)==0)=false)(hb:Dd ((B.length:Int)>0)=true)(hra:RowAt 0 A n.row 31)(hrb:RowAt 0 B m.row 31)(hs:SlT B B')(hcd:(((A.length:Int)==0)||(Dd ((B.length:Int)>0)&&Dd (stCmp ⟨m.time,m.campus,m.no⟩ ⟨n.time,n.campus,n.no⟩<0)))=true)
  (hT:CW Tryz.prog Γ0 (joH 33 A0 B0 x0 0 .ready []) false (tailC (bodyC Tryz.f83) 6) {t:=i6A,h:=joH 33 A B' x 1 .ready [evar m],m:=[]} (.panic c) {t:=i6B m,h:=hp,m:=[]}):(CW Tryz.prog Γ0 (joH 33 A0 B0 x0 0 .ready []) false (sub Tryz.f83 0) (itS 33 A B x) (.panic c) {t:=i6B m,h:=hp,m:=[]}):=by
 have hl0:=(@hT)
 exact CW.cast (CW.symX (s':={t:=mkT 49 0 [(0,.ref (.yl 5)),(5,.ref (.ptr 6 0)),(45,.ref (.yl 5)),(46,D.agg [int m.time,int m.campus,int m.no,int m.kind,int m.stu,int m.obj,int m.term,int m.val,int m.frm,int m.til,strD m.text,int m.sec.id,int m.sec.course,int m.sec.term,int m.sec.campus,int m.sec.seats,rowsD' (List.map MeT.row m.sec.mts),rowsD' (List.map GrT.row m.sec.grs),rowsD' (List.map intRow m.sec.labs),bool m.sec.lab,int m.req.campus,int m.req.no,int m.req.st,int m.req.kind,int m.req.time,rowsD' (List.map BuT.row m.req.chs),int m.req.gsec,int m.req.glab,int m.req.key,int m.r,int m.s])],h:=hp,m:=[]}) (e:=Exit.panic c) pok [] [.b true,.row [vi m.time,vi m.campus,vi m.no,vi m.kind,vi m.stu,vi m.obj,vi m.term,vi m.val,vi m.frm,vi m.til,vs m.text,vi m.sec.id,vi m.sec.course,vi m.sec.term,vi m.sec.campus,vi m.sec.seats,Dp.sl (List.map MeT.row m.sec.mts),Dp.sl (List.map GrT.row m.sec.grs),Dp.sl (List.map intRow m.sec.labs),Dp.v (Value.bool m.sec.lab),vi m.req.campus,vi m.req.no,vi m.req.st,vi m.req.kind,vi m.req.time,Dp.sl (List.map BuT.row m.req.chs),vi m.req.gsec,vi m.req.glab,vi m.req.key,vi m.r,vi m.s],.row [vi n.time,vi n.campus,vi n.no,vi n.kind,vi n.stu,vi n.obj,vi n.term,vi n.val,vi n.frm,vi n.til,vs n.text,vi n.sec.id,vi n.sec.course,vi n.sec.term,vi n.sec.campus,vi n.sec.seats,Dp.sl (List.map MeT.row n.sec.mts),Dp.sl (List.map GrT.row n.sec.grs),Dp.sl (List.map intRow n.sec.labs),Dp.v (Value.bool n.sec.lab),vi n.req.campus,vi n.req.no,vi n.req.st,vi n.req.kind,vi n.req.time,Dp.sl (List.map BuT.row n.req.chs),vi n.req.gsec,vi n.req.glab,vi n.req.key,vi n.r,vi n.s],.val (int (stCmp {time:=m.time,campus:=m.campus,no:=m.no} {time:=n.time,campus:=n.campus,no:=n.no})),.b true,.row [vi m.time,vi m.campus,vi m.no,vi m.kind,vi m.stu,vi m.obj,vi m.term,vi m.val,vi m.frm,vi m.til,vs m.text,vi m.sec.id,vi m.sec.course,vi m.sec.term,vi m.sec.campus,vi m.sec.seats,Dp.sl (List.map MeT.row m.sec.mts),Dp.sl (List.map GrT.row m.sec.grs),Dp.sl (List.map intRow m.sec.labs),Dp.v (Value.bool m.sec.lab),vi m.req.campus,vi m.req.no,vi m.req.st,vi m.req.kind,vi m.req.time,Dp.sl (List.map BuT.row m.req.chs),vi m.req.gsec,vi m.req.glab,vi m.req.key,vi m.r,vi m.s],.ov 43 (rowsD' B'),.ssum [0,5] (Exit.panic c) {t:=mkT 49 0 [(0,.ref (.yl 5)),(5,.ref (.ptr 6 0)),(45,.ref (.yl 5)),(46,D.agg [int m.time,int m.campus,int m.no,int m.kind,int m.stu,int m.obj,int m.term,int m.val,int m.frm,int m.til,strD m.text,int m.sec.id,int m.sec.course,int m.sec.term,int m.sec.campus,int m.sec.seats,rowsD' (List.map MeT.row m.sec.mts),rowsD' (List.map GrT.row m.sec.grs),rowsD' (List.map intRow m.sec.labs),bool m.sec.lab,int m.req.campus,int m.req.no,int m.req.st,int m.req.kind,int m.req.time,rowsD' (List.map BuT.row m.req.chs),int m.req.gsec,int m.req.glab,int m.req.key,int m.r,int m.s])],h:=hp}] (by kernel_rfl) (.c hAB (.c (show(!(↑(List.length A):Int)==0&&Dd ((↑(List.length B):Int)>0))=true→RowAt 0 B [vi m.time,vi m.campus,vi m.no,vi m.kind,vi m.stu,vi m.obj,vi m.term,vi m.val,vi m.frm,vi m.til,vs m.text,vi m.sec.id,vi m.sec.course,vi m.sec.term,vi m.sec.campus,vi m.sec.seats,Dp.sl (List.map MeT.row m.sec.mts),Dp.sl (List.map GrT.row m.sec.grs),Dp.sl (List.map intRow m.sec.labs),Dp.v (Value.bool m.sec.lab),vi m.req.campus,vi m.req.no,vi m.req.st,vi m.req.kind,vi m.req.time,Dp.sl (List.map BuT.row m.req.chs),vi m.req.gsec,vi m.req.glab,vi m.req.key,vi m.r,vi m.s] 31 from(fun hg=>hrb)) (.c (show(!(↑(List.length A):Int)==0&&Dd ((↑(List.length B):Int)>0))=true→RowAt 0 A [vi n.time,vi n.campus,vi n.no,vi n.kind,vi n.stu,vi n.obj,vi n.term,vi n.val,vi n.frm,vi n.til,vs n.text,vi n.sec.id,vi n.sec.course,vi n.sec.term,vi n.sec.campus,vi n.sec.seats,Dp.sl (List.map MeT.row n.sec.mts),Dp.sl (List.map GrT.row n.sec.grs),Dp.sl (List.map intRow n.sec.labs),Dp.v (Value.bool n.sec.lab),vi n.req.campus,vi n.req.no,vi n.req.st,vi n.req.kind,vi n.req.time,Dp.sl (List.map BuT.row n.req.chs),vi n.req.gsec,vi n.req.glab,vi n.req.key,vi n.r,vi n.s] 31 from(fun hg=>hra)) (.c (show(!(↑(List.length A):Int)==0&&Dd ((↑(List.length B):Int)>0))=true→Ev Tryz.prog Γ0 43 [D.agg [int m.time,int m.campus,int m.no],D.agg [int n.time,int n.campus,int n.no]] (it_pb2_x0 A B x) (int (stCmp {time:=m.time,campus:=m.campus,no:=m.no} {time:=n.time,campus:=n.campus,no:=n.no})) (it_pb2_x0 A B x) from(fun hg=>(@stcmp_ev ({time:=m.time,campus:=m.campus,no:=m.no}) ({time:=n.time,campus:=n.campus,no:=n.no}) ((it_pb2_x0 A B x))))) (.c hcd (.c hrb (.c (show some (slOk 1 (↑(List.length B):Int) (List.length B)&&true&&(true||false)&&List.all B fun r=>Dd (List.length r=31),rowsD' (List.take (Int.toNat (↑(List.length B):Int) - Int.toNat 1) (List.drop (Int.toNat 1) B)))=some (true,rowsD' B') from(by first|(simp only[hAB,ha,hb,hcd,cond_true,cond_false];done)|first|assumption|rfl|exact hs|(exfalso;simp_all;done))) (.c hl0 .n))))))))) (by rfl) (by rfl)
structure Cfl where
 a:List EntT
 b:List EntT
 x:List EntT
 n:EntT
def joE:Nat→List EntT→List EntT→List EntT→Option Cfl
 | 0,_,_,_=>none
 | _+1,[],[],_=>none
 | k+1,[],m::b,x=>match joF x m with
  | some x'=>joE k [] b x'
  | none=>some ⟨[],b,x,m⟩
 | k+1,n::a,[],x=>match joF x n with
  | some x'=>joE k a [] x'
  | none=>some ⟨a,[],x,n⟩
 | k+1,n::a,m::b,x=>match Dd (stCmp m.st n.st<0) with
  | true=>match joF x m with
   | some x'=>joE k (n::a) b x'
   | none=>some ⟨n::a,b,x,m⟩
  | false=>match joF x n with
   | some x'=>joE k a (m::b) x'
   | none=>some ⟨a,m::b,x,n⟩
theorem joE_of:∀(k:Nat) (a b x:List EntT),joG k a b x=none→∃E,joE k a b x=some E
 | 0,_,_,_,h=>by simp[joG] at h
 | _+1,[],[],_,h=>by simp[joG] at h
 | k+1,[],m::b,x,h=>by
  simp only[joG] at h
  simp only[joE]
  cases hx:joF x m with
  | none=>exact⟨_,rfl⟩
  | some x'=>rw[hx] at h;exact joE_of k _ _ _ h
 | k+1,n::a,[],x,h=>by
  simp only[joG] at h
  simp only[joE]
  cases hx:joF x n with
  | none=>exact⟨_,rfl⟩
  | some x'=>rw[hx] at h;exact joE_of k _ _ _ h
 | k+1,n::a,m::b,x,h=>by
  simp only[joG] at h
  simp only[joE]
  cases hc:Dd (stCmp m.st n.st<0) with
  | true =>
   rw[hc] at h
   simp only at h ⊢
   cases hx:joF x m with
   | none=>exact⟨_,rfl⟩
   | some x'=>rw[hx] at h;exact joE_of k _ _ _ h
  | false =>
   rw[hc] at h
   simp only at h ⊢
   cases hx:joF x n with
   | none=>exact⟨_,rfl⟩
   | some x'=>rw[hx] at h;exact joE_of k _ _ _ h
structure JoC (a b x:List EntT) (k:Nat) (E:Cfl):Prop where
 kk:a.length+b.length=k
 l:x.length+a.length+b.length≤1000000
 oa:∀e∈a,e.ok
 ob:∀e∈b,e.ok
 ox:∀e∈x,e.ok
 g:joE k a b x=some E
theorem JoC.step_b{a b x x':List EntT}{E:Cfl}{m:EntT}{k:Nat}(I:JoC a (m::b) x (k+1) E)(hx:joF x m=some x')(hg:joE k a b x'=some E):JoC a b x' k E:=by
 have h1:=I.kk
 have h2:=I.l
 have h3:=joF_len hx
 simp only[List.length_cons] at h1 h2
 refine⟨by omega,by omega,I.oa,fun e he=>I.ob e (by simp[he]),fun e he=>?_,hg⟩
 rcases joF_mem hx e he with h|h
 ·exact I.ox e h
 ·exact I.ob e (by simp[h])
theorem JoC.step_a{a b x x':List EntT}{E:Cfl}{n:EntT}{k:Nat}(I:JoC (n::a) b x (k+1) E)(hx:joF x n=some x')(hg:joE k a b x'=some E):JoC a b x' k E:=by
 have h1:=I.kk
 have h2:=I.l
 have h3:=joF_len hx
 simp only[List.length_cons] at h1 h2
 refine⟨by omega,by omega,fun e he=>I.oa e (by simp[he]),I.ob,fun e he=>?_,hg⟩
 rcases joF_mem hx e he with h|h
 ·exact I.ox e h
 ·exact I.oa e (by simp[h])
noncomputable abbrev cfH(E:Cfl):List Blk:=joH 33 (E.a.map EntT.row) (E.b.map EntT.row) E.x 1 .busy [evar E.n,evar E.n]
theorem i6_at{a b x:List EntT}{n:EntT}{h0:List Blk}(ox:∀e∈x,e.ok)(hl:x.length≤1000000)(hx:joF x n=none):
  CW Tryz.prog Γ0 h0 false (tailC (bodyC Tryz.f83) 6) {t:=i6A,h:=joH 33 (a.map EntT.row) (b.map EntT.row) x 1 .ready [evar n],m:=[]} (.panic (dmC 390)) {t:=i6B n,h:=cfH ⟨a,b,x,n⟩,m:=[]}:=i6_pan rfl (jo_ivp ox hl hx)
theorem jo_cwP{a b x:List EntT}{E:Cfl}{k:Nat}(I:JoC a b x k E){A0 B0:List (List Dp)}{x0:List EntT}:
  CW Tryz.prog Γ0 (joH 33 A0 B0 x0 0 .ready []) false (.loop (sub Tryz.f83 0)) (itS 33 (a.map EntT.row) (b.map EntT.row) x) (.panic (dmC 390)) {t:=i6B E.n,h:=cfH E,m:=[]}:=by
 refine CW.loop (ι:={p:List EntT×List EntT×List EntT×Nat // JoC p.1 p.2.1 p.2.2.1 p.2.2.2 E}) (fun p=>itS 33 (p.1.1.map EntT.row) (p.1.2.1.map EntT.row) p.1.2.2.1) (fun _=>(.panic (dmC 390),{t:=i6B E.n,h:=cfH E,m:=[]})) (fun p=>p.1.2.2.2) ?_ ⟨(a,b,x,k),I⟩
 rintro⟨⟨a,b,x,k⟩,I⟩
 have hl:x.length≤1000000:=by have:=I.l;simp only at this;omega
 match a,b,k,I with
 | [],[],k,I =>
  have:=I.g
  cases k<;>simp[joE] at this
 | [],m::b,0,I=>have:=I.kk;simp at this
 | n::a,_,0,I=>have:=I.kk;simp at this
 | [],m::b,k+1,I =>
  have hg:=I.g
  simp only[joE] at hg
  cases hx:joF x m with
  | none =>
   rw[hx] at hg
   cases hg
   right
   refine⟨by simp,?_⟩
   exact it_pb1 (n:=m) (m:=m) (by rw[len_pos,Bool.or_true]) rfl (fun h=>h.elim) (row0 m b) (slT_cons b m) rfl (i6_at (a:=[]) I.ox hl hx)
  | some x' =>
   rw[hx] at hg
   left
   refine⟨⟨([],b,x',k),I.step_b hx hg⟩,Nat.lt_succ_self k,rfl,?_⟩
   exact it_b1 (n:=m) (m:=m) (by rw[len_pos,Bool.or_true]) rfl (fun h=>h.elim) (row0 m b) (slT_cons b m) rfl (joIv_ev I.ox hl hx)
 | n::a,[],k+1,I =>
  have hg:=I.g
  simp only[joE] at hg
  cases hx:joF x n with
  | none =>
   rw[hx] at hg
   cases hg
   right
   refine⟨by simp,?_⟩
   exact it_pa1 (n:=n) (m:=n) (by rw[len_pos,Bool.true_or]) rfl (row0 n a) (fun h=>h.elim) (slT_cons a n) (by rw[len_ne,Bool.false_or];rfl) (i6_at (b:=[]) I.ox hl hx)
  | some x' =>
   rw[hx] at hg
   left
   refine⟨⟨(a,[],x',k),I.step_a hx hg⟩,Nat.lt_succ_self k,rfl,?_⟩
   exact it_a1 (n:=n) (m:=n) (by rw[len_pos,Bool.true_or]) rfl (row0 n a) (fun h=>h.elim) (slT_cons a n) (by rw[len_ne,Bool.false_or];rfl) (joIv_ev I.ox hl hx)
 | n::a,m::b,k+1,I =>
  have hg:=I.g
  simp only[joE] at hg
  cases hc:Dd (stCmp m.st n.st<0) with
  | true =>
   rw[hc] at hg
   simp only at hg
   cases hx:joF x m with
   | none =>
    rw[hx] at hg
    cases hg
    right
    refine⟨by simp,?_⟩
    exact it_pb2 (n:=n) (m:=m) (by rw[len_pos,Bool.true_or]) (len_ne n a) (len_pos m b) (row0 n a) (row0 m b) (slT_cons b m) (by rw[len_ne,len_pos,Bool.false_or,Bool.true_and];exact hc) (i6_at (a:=n::a) I.ox hl hx)
   | some x' =>
    rw[hx] at hg
    left
    refine⟨⟨(n::a,b,x',k),I.step_b hx hg⟩,Nat.lt_succ_self k,rfl,?_⟩
    exact it_b2 (n:=n) (m:=m) (by rw[len_pos,Bool.true_or]) (len_ne n a) (len_pos m b) (row0 n a) (row0 m b) (slT_cons b m) (by rw[len_ne,len_pos,Bool.false_or,Bool.true_and];exact hc) (joIv_ev I.ox hl hx)
  | false =>
   rw[hc] at hg
   simp only at hg
   cases hx:joF x n with
   | none =>
    rw[hx] at hg
    cases hg
    right
    refine⟨by simp,?_⟩
    exact it_pa2 (n:=n) (m:=m) (by rw[len_pos,Bool.true_or]) (len_pos m b) (row0 n a) (row0 m b) (slT_cons a n) (by rw[len_ne,len_pos,Bool.false_or,Bool.true_and];exact hc) (i6_at (b:=m::b) I.ox hl hx)
   | some x' =>
    rw[hx] at hg
    left
    refine⟨⟨(a,m::b,x',k),I.step_a hx hg⟩,Nat.lt_succ_self k,rfl,?_⟩
    exact it_a2 (n:=n) (m:=m) (by rw[len_pos,Bool.true_or]) (len_pos m b) (row0 n a) (row0 m b) (slT_cons a n) (by rw[len_ne,len_pos,Bool.false_or,Bool.true_and];exact hc) (joIv_ev I.ox hl hx)
theorem it_all{A B:List (List Dp)}{E:Cfl}{c:List PanicEntry}
  (hcw:CW Tryz.prog Γ0 (joH 33 A B [] 0 .ready []) false (.loop (sub Tryz.f83 0)) (itS 33 A B []) (.panic c) {t:=i6B E.n,h:=cfH E,m:=[]}):(CW Tryz.prog Γ0 (joH 33 A B [] 0 .ready []) false (bodyC Tryz.f83) {t:=mkT 49 0 [(0,.ref (.yl 5)),(1,.ref (.ptr 1 0)),(2,.ref (.ptr 2 0))],h:=joH 33 A B [] 0 .ready [],m:=[]} (.panic c) {t:=i6B E.n,h:=cfH E,m:=[]}):=by
 have hl0:=(@hcw)
 exact CW.cast (CW.symX (s':={t:=mkT 49 0 [(0,.ref (.yl 5)),(5,.ref (.ptr 6 0)),(45,.ref (.yl 5)),(46,D.agg [int E.n.time,int E.n.campus,int E.n.no,int E.n.kind,int E.n.stu,int E.n.obj,int E.n.term,int E.n.val,int E.n.frm,int E.n.til,strD E.n.text,int E.n.sec.id,int E.n.sec.course,int E.n.sec.term,int E.n.sec.campus,int E.n.sec.seats,rowsD' (List.map MeT.row E.n.sec.mts),rowsD' (List.map GrT.row E.n.sec.grs),rowsD' (List.map intRow E.n.sec.labs),bool E.n.sec.lab,int E.n.req.campus,int E.n.req.no,int E.n.req.st,int E.n.req.kind,int E.n.req.time,rowsD' (List.map BuT.row E.n.req.chs),int E.n.req.gsec,int E.n.req.glab,int E.n.req.key,int E.n.r,int E.n.s])],h:=[.var [.ref (.vec 3 1)],.var [rowsD' (List.map EntT.row E.a)],.var [rowsD' (List.map EntT.row E.b)],.vec (joV E.x) 1 31,.defd,.loop LoopState.busy none 33 (mkT 45 0 [(4,.ref (.ptr 0 0)),(9,D.fn (Fn.func 83) [] [.ref (.ptr 1 0),.ref (.ptr 2 0)])]) {toList:=[10]} (rfAsg (sub Tryz.f33 0)) (rfBody (sub Tryz.f33 0)),.var [int E.n.time,int E.n.campus,int E.n.no,int E.n.kind,int E.n.stu,int E.n.obj,int E.n.term,int E.n.val,int E.n.frm,int E.n.til,strD E.n.text,int E.n.sec.id,int E.n.sec.course,int E.n.sec.term,int E.n.sec.campus,int E.n.sec.seats,rowsD' (List.map MeT.row E.n.sec.mts),rowsD' (List.map GrT.row E.n.sec.grs),rowsD' (List.map intRow E.n.sec.labs),bool E.n.sec.lab,int E.n.req.campus,int E.n.req.no,int E.n.req.st,int E.n.req.kind,int E.n.req.time,rowsD' (List.map BuT.row E.n.req.chs),int E.n.req.gsec,int E.n.req.glab,int E.n.req.key,int E.n.r,int E.n.s],.var [int E.n.time,int E.n.campus,int E.n.no,int E.n.kind,int E.n.stu,int E.n.obj,int E.n.term,int E.n.val,int E.n.frm,int E.n.til,strD E.n.text,int E.n.sec.id,int E.n.sec.course,int E.n.sec.term,int E.n.sec.campus,int E.n.sec.seats,rowsD' (List.map MeT.row E.n.sec.mts),rowsD' (List.map GrT.row E.n.sec.grs),rowsD' (List.map intRow E.n.sec.labs),bool E.n.sec.lab,int E.n.req.campus,int E.n.req.no,int E.n.req.st,int E.n.req.kind,int E.n.req.time,rowsD' (List.map BuT.row E.n.req.chs),int E.n.req.gsec,int E.n.req.glab,int E.n.req.key,int E.n.r,int E.n.s]],m:=[]}) (e:=Exit.panic c) pok [] [.st (.ren 3 1),.sum [0,1,2] (Exit.panic c) {t:=mkT 49 0 [(0,.ref (.yl 5)),(5,.ref (.ptr 6 0)),(45,.ref (.yl 5)),(46,D.agg [int E.n.time,int E.n.campus,int E.n.no,int E.n.kind,int E.n.stu,int E.n.obj,int E.n.term,int E.n.val,int E.n.frm,int E.n.til,strD E.n.text,int E.n.sec.id,int E.n.sec.course,int E.n.sec.term,int E.n.sec.campus,int E.n.sec.seats,rowsD' (List.map MeT.row E.n.sec.mts),rowsD' (List.map GrT.row E.n.sec.grs),rowsD' (List.map intRow E.n.sec.labs),bool E.n.sec.lab,int E.n.req.campus,int E.n.req.no,int E.n.req.st,int E.n.req.kind,int E.n.req.time,rowsD' (List.map BuT.row E.n.req.chs),int E.n.req.gsec,int E.n.req.glab,int E.n.req.key,int E.n.r,int E.n.s])],h:=[.var [.ref (.vec 3 1)],.var [rowsD' (List.map EntT.row E.a)],.var [rowsD' (List.map EntT.row E.b)],.vec (joV E.x) 1 31,.defd,.loop LoopState.busy none 33 (mkT 45 0 [(4,.ref (.ptr 0 0)),(9,D.fn (Fn.func 83) [] [.ref (.ptr 1 0),.ref (.ptr 2 0)])]) {toList:=[10]} (rfAsg (sub Tryz.f33 0)) (rfBody (sub Tryz.f33 0)),.var [int E.n.time,int E.n.campus,int E.n.no,int E.n.kind,int E.n.stu,int E.n.obj,int E.n.term,int E.n.val,int E.n.frm,int E.n.til,strD E.n.text,int E.n.sec.id,int E.n.sec.course,int E.n.sec.term,int E.n.sec.campus,int E.n.sec.seats,rowsD' (List.map MeT.row E.n.sec.mts),rowsD' (List.map GrT.row E.n.sec.grs),rowsD' (List.map intRow E.n.sec.labs),bool E.n.sec.lab,int E.n.req.campus,int E.n.req.no,int E.n.req.st,int E.n.req.kind,int E.n.req.time,rowsD' (List.map BuT.row E.n.req.chs),int E.n.req.gsec,int E.n.req.glab,int E.n.req.key,int E.n.r,int E.n.s],.var [int E.n.time,int E.n.campus,int E.n.no,int E.n.kind,int E.n.stu,int E.n.obj,int E.n.term,int E.n.val,int E.n.frm,int E.n.til,strD E.n.text,int E.n.sec.id,int E.n.sec.course,int E.n.sec.term,int E.n.sec.campus,int E.n.sec.seats,rowsD' (List.map MeT.row E.n.sec.mts),rowsD' (List.map GrT.row E.n.sec.grs),rowsD' (List.map intRow E.n.sec.labs),bool E.n.sec.lab,int E.n.req.campus,int E.n.req.no,int E.n.req.st,int E.n.req.kind,int E.n.req.time,rowsD' (List.map BuT.row E.n.req.chs),int E.n.req.gsec,int E.n.req.glab,int E.n.req.key,int E.n.r,int E.n.s]],m:=[]}] (by kernel_rfl) (.c (show([]:List (List D))=[] from rfl) (.c hl0 .n))) (by rfl) (by rfl)
theorem it_pan{a b:List EntT}{E:Cfl}(I:JoC a b [] (a.length+b.length) E):VPan Tryz.prog Γ0 83 [.ref (.yl 5),.ref (.ptr 1 0),.ref (.ptr 2 0)] (joH 33 (a.map EntT.row) (b.map EntT.row) [] 0 .ready []) fun c h'=>c=dmC 390∧h'=cfH E:=by
 refine VPan.of_body (fn:=Tryz.f83) (c:=bodyC Tryz.f83) rfl rfl fun X hX a w hs=>?_
 refine wpIn_mono (it_all (jo_cwP I) X none hX (fun _=>rfl) a w hs) ?_
 rintro e a' w' ⟨h1,s,⟨rfl,rfl⟩,h2⟩
 exact⟨h1,_,⟨_,rfl,rfl,List.nodup_nil,rfl,rfl⟩,h2⟩
theorem jp_0{A B:List (List Dp)}:(CW Tryz.prog Γ0 [] false (cL (bodyC Tryz.f33)) {t:=mkT 45 0 [(0,rowsD' A),(1,rowsD' B)],h:=[],m:=[]} .normal {t:=mkT 45 0 [(0,rowsD' A),(1,rowsD' B),(4,.ref (.ptr 0 0))],h:=[.var [nq]],m:=[]}):=by
 exact CW.cast (CW.symX (s':={t:=mkT 45 0 [(0,rowsD' A),(1,rowsD' B),(4,.ref (.ptr 0 0))],h:=[.var [nq]],m:=[]}) (e:=Exit.normal) pok [.st (.mask [0,1,4])] [] (by kernel_rfl) .n) (by rfl) (by rfl)
theorem jp_1{A B:List (List Dp)}:(CW Tryz.prog Γ0 [] false (cL (cL (cR (bodyC Tryz.f33)))) {t:=mkT 45 0 [(0,rowsD' A),(1,rowsD' B),(4,.ref (.ptr 0 0))],h:=[.var [nq]],m:=[]} .normal {t:=joT,h:=joH0 A B,m:=[]}):=by
 exact CW.cast (CW.symX (s':={t:=mkT 45 0 [(4,.ref (.ptr 0 0)),(9,D.fn (Fn.func 83) [] [.ref (.ptr 1 0),.ref (.ptr 2 0)])],h:=[.var [.ref (.vec 3 0)],.var [rowsD' A],.var [rowsD' B],.vec [] 0 31],m:=[]}) (e:=Exit.normal) pok [.st (.mask [4,9]),.st (.nilC 0 0 31)] [.inl] (by kernel_rfl) .n) (by rfl) (by rfl)
theorem f33_code:bodyC Tryz.f33=.seq (cL (bodyC Tryz.f33)) (.seq (.seq (cL (cL (cR (bodyC Tryz.f33)))) (.block 0 (.rangeFunc (.tmp 9) #[10] (rfAsg (sub Tryz.f33 0)) (rfBody (sub Tryz.f33 0))))) (cR (cR (bodyC Tryz.f33)))):=by kernel_rfl
theorem joined_top{a b:List EntT}{E:Cfl}(I:JoC a b [] (a.length+b.length) E):TopF Tryz.prog Γ0 33 (bodyC Tryz.f33) {t:=entryT Tryz.f33 [rowsD' (a.map EntT.row),rowsD' (b.map EntT.row)],h:=[],m:=[]} (.panic (dmC 390)) {t:=joT,h:=cfH E,m:=[4]}:=by
 intro O w0 l0 h0 ac w hh hs
 subst hh
 rw[f33_code]
 refine AtF.seq ((AtF.cw (jp_0 (A:=a.map EntT.row) (B:=b.map EntT.row)) rfl hs).mono ?_)
 rintro e1 a1 w1 ⟨rfl,h1⟩
 refine⟨rfl,AtF.seqP ?_⟩
 refine AtF.seq ((AtF.cw (jp_1 (A:=a.map EntT.row) (B:=b.map EntT.row)) rfl h1).mono ?_)
 rintro e2 a2 w2 ⟨rfl,h2⟩
 refine⟨rfl,AtF.blockP ?_⟩
 refine(AtF.rangeFuncP (f:=83) (fi:=[]) (ca:=[.ref (.ptr 1 0),.ref (.ptr 2 0)]) (c0:=dmC 390) (hp:=cfH E) pok (s:={t:=joT,h:=joH0 (a.map EntT.row) (b.map EntT.row),m:=[]}) (f0:=33) (g:=.tmp 9) (ps:=#[10]) (asg:=rfAsg (sub Tryz.f33 0)) (body:=rfBody (sub Tryz.f33 0)) rfl (by kernel_rfl) (it_pan I) rfl h2).mono ?_
 rintro e3 a3 w3 ⟨rfl,h3⟩
 exact⟨_,rfl,_,rfl,rfl,h3⟩
theorem joined_pan{a b:List EntT}(hy:joG (a.length+b.length) a b []=none)(ha:a.length+b.length≤60000)(oa:∀e∈a,e.ok)(ob:∀e∈b,e.ok):VPan Tryz.prog Γ0 33 [rowsD' (a.map EntT.row),rowsD' (b.map EntT.row)] [] fun c h'=>c=dmC 390∧h'=[]:=by
 obtain⟨E,hE⟩:=joE_of _ _ _ _ hy
 have I:JoC a b [] (a.length+b.length) E:=⟨rfl,by simp only[List.length_nil];omega,oa,ob,by simp,hE⟩
 exact(VRes.of_topF (fn:=Tryz.f33) (c:=bodyC Tryz.f33) (r:=.pan (dmC 390) []) rfl rfl (joined_top I) rfl).pan
theorem bool_of{b c:Bool}(h:b=c):bool b=bool c:=by rw[h]
theorem f32_code:bodyC Tryz.f32=.region (idOf (bodyC Tryz.f32)) (regOps (bodyC Tryz.f32)) false:=by kernel_rfl
noncomputable abbrev f32L:Oper:=(regOps (bodyC Tryz.f32)).toList.getLastD default
theorem try_pan(e:Int)(he:(e==0)=false)(h:List Blk):VPan Tryz.prog Γ0 32 [int e] h fun c h'=>c=dmC e∧h'=h:=by
 refine VPan.of_body (fn:=Tryz.f32) (c:=bodyC Tryz.f32) rfl rfl fun X hX a w hs=>?_
 rw[f32_code]
 have hc:CW Tryz.prog Γ0 h false (.region (idOf (bodyC Tryz.f32)) (regOps (bodyC Tryz.f32)) false) {t:=entryT Tryz.f32 [int e],h:=h,m:=[]} (.panic (dmC e)) {t:=mkT 6 0 [(0,int e),(2,int e),(3,bool (e==0)),(4,int e)],h:=h,m:=[]}:=by
  refine CW.callPan (os1:=(regOps (bodyC Tryz.f32)).toList.take 3) (rest:=[]) (o:=f32L) (fv:=opFv f32L) (args:=opArgs f32L) (ats:=opAts f32L) (h1:=h) (by kernel_rfl) (by kernel_rfl) (by kernel_rfl) (by kernel_rfl) ?_ rfl
  have e1:evalD Γ0 (mkT 6 0 [(0,int e),(2,int e),(3,bool (e==0)),(4,int e)]) (opFv f32L)=.p (.v (.func (.func 48) #[] #[])):=by kernel_rfl
  have e2:(opArgs f32L).toList.map (evalD Γ0 (mkT 6 0 [(0,int e),(2,int e),(3,bool (e==0)),(4,int e)]))=[bool (e==0),int e]:=by kernel_rfl
  rw[e1,e2,bool_of he]
  exact VInvP.of_call pok (f:=48) (fi:=[]) (ca:=[]) rfl (by kernel_rfl) (demand_pan e _)
 refine wpIn_mono (hc X none hX (fun _=>rfl) a w hs) ?_
 rintro e a' w' ⟨h1,s,⟨rfl,rfl⟩,h2⟩
 exact⟨h1,_,⟨_,rfl,rfl,List.nodup_nil,rfl,rfl⟩,h2⟩
noncomputable abbrev jfH(y:List EntT):List Blk:=[.var [rowsD' (y.map EntT.row)],.var [rowsD' []],.var [rowsD' []],.gone,.defd,joL 0 .exhausted]
theorem jf_blk{A B:List (List Dp)}{y:List EntT}(hrf:CW Tryz.prog Γ0 [] false (sub Tryz.f33 0) {t:=joT,h:=joH0 A B,m:=[]} .normal {t:=joT,h:=joH 0 [] [] y 1 .exhausted [],m:=[4]}):(CW Tryz.prog Γ0 [] false (cR (cL (cR (bodyC Tryz.f33)))) {t:=joT,h:=joH0 A B,m:=[]} .normal {t:=mkT 45 0 [(4,.ref (.ptr 0 0))],h:=jfH y,m:=[4]}):=by
 have hl0:=(@hrf)
 exact CW.cast (CW.symX (s':={t:=mkT 45 0 [(4,.ref (.ptr 0 0))],h:=[.var [rowsD' (List.map EntT.row y)],.var [rowsD' []],.var [rowsD' []],.gone,.defd,.loop LoopState.exhausted none 0 (mkT 45 0 [(4,.ref (.ptr 0 0)),(9,D.fn (Fn.func 83) [] [.ref (.ptr 1 0),.ref (.ptr 2 0)])]) {toList:=[10]} (rfAsg (sub Tryz.f33 0)) (rfBody (sub Tryz.f33 0))],m:=[4]}) (e:=Exit.normal) pok [.st (.mask [4]),.st (.frz 3 (List.map EntT.row y))] [.sum [4,9] (Exit.normal) {t:=mkT 45 0 [(4,.ref (.ptr 0 0)),(9,D.fn (Fn.func 83) [] [.ref (.ptr 1 0),.ref (.ptr 2 0)])],h:=[.var [.ref (.vec 3 1)],.var [rowsD' []],.var [rowsD' []],.vec (joV y) 1 31,.defd,.loop LoopState.exhausted none 0 (mkT 45 0 [(4,.ref (.ptr 0 0)),(9,D.fn (Fn.func 83) [] [.ref (.ptr 1 0),.ref (.ptr 2 0)])]) {toList:=[10]} (rfAsg (sub Tryz.f33 0)) (rfBody (sub Tryz.f33 0))],m:=[4]}] (by kernel_rfl) (.c hl0 (.c (show joV y=List.map (fun x=>List.map D.p x) (List.map EntT.row y) from(by first|assumption|rfl|exact joV_frz _|exact joV_map _ _|exact joV_inn _ _)) .n))) (by rfl) (by rfl)
noncomputable abbrev r7O:Array Oper:=regOps (cL (cR (cR (bodyC Tryz.f33))))
noncomputable abbrev r7L:Oper:=(r7O.toList.drop 2).headD default
theorem r7_code:cR (cR (bodyC Tryz.f33))=.seq (.region (idOf (cL (cR (cR (bodyC Tryz.f33))))) r7O false) (cR (cR (cR (bodyC Tryz.f33)))):=by kernel_rfl
theorem f33_code2:bodyC Tryz.f33=.seq (cL (bodyC Tryz.f33)) (.seq (.seq (cL (cL (cR (bodyC Tryz.f33)))) (cR (cL (cR (bodyC Tryz.f33))))) (cR (cR (bodyC Tryz.f33)))):=by kernel_rfl
abbrev jfT(y:List EntT):List D:=mkT 45 0 [(4,.ref (.ptr 0 0)),(37,rowsD' (y.map EntT.row)),(38,bool false)]
theorem r7_pan{y:List EntT}(hfit:∀h,Ev Tryz.prog Γ0 27 [rowsD' (y.map EntT.row)] h (bool false) h):CW Tryz.prog Γ0 [] false (cR (cR (bodyC Tryz.f33))) {t:=mkT 45 0 [(4,.ref (.ptr 0 0))],h:=jfH y,m:=[4]} (.panic (dmC 390)) {t:=jfT y,h:=jfH y,m:=[4]}:=by
 rw[r7_code]
 refine CW.out (by simp) (CW.symPan (os1:=r7O.toList.take 2) (rest:=[]) (o:=r7L) (fv:=opFv r7L) (args:=opArgs r7L) (ats:=opAts r7L) (h1:=jfH y) (φ:=[Ev Tryz.prog Γ0 27 [rowsD' (y.map EntT.row)] (jfH y) (bool false) (jfH y)]) pok noI_ok [.val (bool false)] (by kernel_rfl) rfl (by kernel_rfl) ⟨hfit _,trivial⟩ (by kernel_rfl) (by kernel_rfl) ?_ rfl)
 have e1:evalD Γ0 (jfT y) (opFv r7L)=.p (.v (.func (.func 48) #[] #[])):=by kernel_rfl
 have e2:(opArgs r7L).toList.map (evalD Γ0 (jfT y))=[bool false,int 390]:=by kernel_rfl
 rw[e1,e2]
 exact VInvP.of_call pok (f:=48) (fi:=[]) (ca:=[]) rfl (by kernel_rfl) (demand_pan 390 _)
theorem joined_pan2{a b y:List EntT}(hy:joG (a.length+b.length) a b []=some y)(ha:a.length+b.length≤60000)(oa:∀e∈a,e.ok)(ob:∀e∈b,e.ok)(hv:∀e∈y,0≤e.campus∧e.campus<7)(hf:fitB y=false)(hly:y.length≤65536):VPan Tryz.prog Γ0 33 [rowsD' (a.map EntT.row),rowsD' (b.map EntT.row)] [] fun c h'=>c=dmC 390∧h'=[]:=by
 have hfit:∀h,Ev Tryz.prog Γ0 27 [rowsD' (y.map EntT.row)] h (bool false) h:=fun h=>by
  rw[←hf]
  exact fit_ev (show y.length≤_ by omega) hv h
 have hrf:=jo_rf (a:=a) (b:=b) (y:=y) ⟨rfl,by simp only[List.length_nil];omega,oa,ob,by simp,hy⟩ (h0:=[])
 have hc:CW Tryz.prog Γ0 [] false (bodyC Tryz.f33) {t:=entryT Tryz.f33 [rowsD' (a.map EntT.row),rowsD' (b.map EntT.row)],h:=[],m:=[]} (.panic (dmC 390)) {t:=jfT y,h:=jfH y,m:=[4]}:=by
  rw[f33_code2]
  exact CW.seq (jp_0 (A:=a.map EntT.row) (B:=b.map EntT.row)) (CW.seq (CW.seq jp_1 (jf_blk hrf)) (r7_pan hfit))
 refine(VRes.of_topF (fn:=Tryz.f33) (c:=bodyC Tryz.f33) (r:=.pan (dmC 390) []) rfl rfl (c0:=dmC 390) (s':={t:=jfT y,h:=jfH y,m:=[4]}) (fun O w0 l0 h0 a w hh hs=>?_) rfl).pan
 exact AtF.cw hc hh hs
def joR(a b:List EntT):Option (List EntT):=match joG (a.length+b.length) a b [] with
 | none=>none
 | some y=>bif fitB y then some y else none
theorem joG_mem:∀(k:Nat) (a b x y:List EntT),joG k a b x=some y→(∀e∈y,e∈a∨e∈b∨e∈x)∧y.length≤x.length+a.length+b.length
 | 0,a,b,x,y,h=>by simp only[joG,Option.some.injEq] at h;subst h;exact⟨fun e he=>.inr (.inr he),by omega⟩
 | _+1,[],[],x,y,h=>by simp only[joG,Option.some.injEq] at h;subst h;exact⟨fun e he=>.inr (.inr he),by omega⟩
 | k+1,[],m::b,x,y,h=>by
  simp only[joG] at h
  cases hx:joF x m with
  | none=>rw[hx] at h;cases h
  | some x' =>
   rw[hx] at h
   obtain⟨h1,h2⟩:=joG_mem k _ _ _ _ h
   have h3:=joF_len hx
   refine⟨fun e he=>?_,by simp only[List.length_cons,List.length_nil] at *;omega⟩
   rcases h1 e he with h|h|h
   ·exact .inl h
   ·exact .inr (.inl (by simp[h]))
   ·rcases joF_mem hx e h with h|h
    ·exact .inr (.inr h)
    ·exact .inr (.inl (by simp[h]))
 | k+1,n::a,[],x,y,h=>by
  simp only[joG] at h
  cases hx:joF x n with
  | none=>rw[hx] at h;cases h
  | some x' =>
   rw[hx] at h
   obtain⟨h1,h2⟩:=joG_mem k _ _ _ _ h
   have h3:=joF_len hx
   refine⟨fun e he=>?_,by simp only[List.length_cons,List.length_nil] at *;omega⟩
   rcases h1 e he with h|h|h
   ·exact .inl (by simp[h])
   ·exact .inr (.inl h)
   ·rcases joF_mem hx e h with h|h
    ·exact .inr (.inr h)
    ·exact .inl (by simp[h])
 | k+1,n::a,m::b,x,y,h=>by
  simp only[joG] at h
  cases hc:Dd (stCmp m.st n.st<0) with
  | true =>
   rw[hc] at h
   simp only at h
   cases hx:joF x m with
   | none=>rw[hx] at h;cases h
   | some x' =>
    rw[hx] at h
    obtain⟨h1,h2⟩:=joG_mem k _ _ _ _ h
    have h3:=joF_len hx
    refine⟨fun e he=>?_,by simp only[List.length_cons] at *;omega⟩
    rcases h1 e he with h|h|h
    ·exact .inl h
    ·exact .inr (.inl (by simp[h]))
    ·rcases joF_mem hx e h with h|h
     ·exact .inr (.inr h)
     ·exact .inr (.inl (by simp[h]))
  | false =>
   rw[hc] at h
   simp only at h
   cases hx:joF x n with
   | none=>rw[hx] at h;cases h
   | some x' =>
    rw[hx] at h
    obtain⟨h1,h2⟩:=joG_mem k _ _ _ _ h
    have h3:=joF_len hx
    refine⟨fun e he=>?_,by simp only[List.length_cons] at *;omega⟩
    rcases h1 e he with h|h|h
    ·exact .inl (by simp[h])
    ·exact .inr (.inl h)
    ·rcases joF_mem hx e h with h|h
     ·exact .inr (.inr h)
     ·exact .inl (by simp[h])
structure JoOk (a b:List EntT):Prop where
 l:a.length+b.length≤60000
 oa:∀e∈a,e.ok
 ob:∀e∈b,e.ok
 va:∀e∈a,0≤e.campus∧e.campus<7
 vb:∀e∈b,0≤e.campus∧e.campus<7
theorem joX_ok{a b y:List EntT}(J:JoOk a b)(hy:joR a b=some y)(h:List Blk):Ev Tryz.prog Γ0 33 [rowsD' (a.map EntT.row),rowsD' (b.map EntT.row)] h (rowsD' (y.map EntT.row)) h:=by
 unfold joR at hy
 cases hg:joG (a.length+b.length) a b [] with
 | none=>rw[hg] at hy;cases hy
 | some z =>
  rw[hg] at hy
  simp only at hy
  cases hf:fitB z with
  | false=>rw[hf] at hy;cases hy
  | true =>
   rw[hf] at hy
   cases hy
   obtain⟨h1,h2⟩:=joG_mem _ _ _ _ _ hg
   have:=J.l
   refine joined_ev hg J.l J.oa J.ob (fun e he=>?_) hf (by simp only[List.length_nil] at h2;omega) h
   rcases h1 e he with h|h|h
   ·exact J.va e h
   ·exact J.vb e h
   ·cases h
theorem joX_pan{a b:List EntT}(J:JoOk a b)(hy:joR a b=none):VPan Tryz.prog Γ0 33 [rowsD' (a.map EntT.row),rowsD' (b.map EntT.row)] [] fun c h'=>c=dmC 390∧h'=[]:=by
 unfold joR at hy
 cases hg:joG (a.length+b.length) a b [] with
 | none=>exact joined_pan hg J.l J.oa J.ob
 | some z =>
  rw[hg] at hy
  simp only at hy
  cases hf:fitB z with
  | true=>rw[hf] at hy;cases hy
  | false =>
   obtain⟨h1,h2⟩:=joG_mem _ _ _ _ _ hg
   have:=J.l
   refine joined_pan2 hg J.l J.oa J.ob (fun e he=>?_) hf (by simp only[List.length_nil] at h2;omega)
   rcases h1 e he with h|h|h
   ·exact J.va e h
   ·exact J.vb e h
   ·cases h
noncomputable abbrev opN(os:Array Oper)(k:Nat):Oper:=(os.toList.drop k).headD default
theorem rq_each{a b:RqT}(hl:Short a.chs)(he:(((a.chs.map BuT.row).length:Int) != ((b.chs.map BuT.row).length:Int))=false):
  CW Tryz.prog Γ0 [] false (.loop (sub Tryz.f52 0)) (rqS a b 0) (eachFin (.exit 0) (fun _:Unit=>{t:=mkT 80 0 [],h:=[.var (a.row.map .p),.var (b.row.map .p)],m:=[]}) (fun _:Unit=>(.ret,rqX a b)) (qbR a.chs b.chs)).1 (eachFin (.exit 0) (fun _:Unit=>{t:=mkT 80 0 [],h:=[.var (a.row.map .p),.var (b.row.map .p)],m:=[]}) (fun _:Unit=>(.ret,rqX a b)) (qbR a.chs b.chs)).2:=by
 have hlen:a.chs.length=b.chs.length:=by simp at he;omega
 have hz:(a.chs.zip b.chs).length=a.chs.length:=by simp[hlen]
 refine CW.each (a.chs.zip b.chs) qbF (fun i _=>rqS a b (i:Int)) (.exit 0) _ (fun _=>(.ret,rqX a b)) (fun _ _=>True) (by simp) (fun _=>by simp) ?_ ?_ () trivial
 ·intro i p u hp _
  obtain⟨hi,he⟩:=List.getElem?_eq_some_iff.1 hp
  have hx:i<a.chs.length:=by omega
  have hy:i<b.chs.length:=by omega
  have h1:a.chs[i]? = some p.1:=by subst he;simp[hx]
  have h2:b.chs[i]? = some p.2:=by subst he;simp[hy]
  refine⟨fun _ _=>trivial,?_⟩
  unfold qbF buNe
  cases hn:(!(p.1.sec==p.2.sec&&(p.1.lab==p.2.lab&&true))) with
  | true=>exact rq_bad (x:=p.1) (y:=p.2) (rowAt h1 rfl) (rowAt h2 rfl) (lt_len _ hx) hn
  | false=>exact rq_body (x:=p.1) (y:=p.2) (rowAt h1 rfl) (rowAt h2 rfl) (lt_len _ hx) (wrap_succ hx hl) hn
 ·intro u _
  rw[hz]
  exact rq_last (ge_len _ a.chs)
theorem rs_hd{a b:RqT}(hh:(a.campus != b.campus||a.no != b.no||a.st != b.st||a.kind != b.kind||a.time != b.time||!(a.gsec==b.gsec&&(a.glab==b.glab&&true))||a.key != b.key||(((a.chs.map BuT.row).length:Int) != ((b.chs.map BuT.row).length:Int)))=true)(h:List Blk):(Ev Tryz.prog Γ0 52 [ag a.row,ag b.row] h (bool false) h):=by
 exact Ev.castH (Ev.sym0 (d:=bool false) pok [.b true] (by kernel_rfl) (.c hh .n) rfl rfl h) (by rfl) (by rfl)
theorem rs_r{a b:RqT}(hh:(a.campus != b.campus||a.no != b.no||a.st != b.st||a.kind != b.kind||a.time != b.time||!(a.gsec==b.gsec&&(a.glab==b.glab&&true))||a.key != b.key||(((a.chs.map BuT.row).length:Int) != ((b.chs.map BuT.row).length:Int)))=false)(hl:CW Tryz.prog Γ0 [] false (.loop (sub Tryz.f52 0)) (rqS a b 0) .ret (rqX a b))(h:List Blk):(Ev Tryz.prog Γ0 52 [ag a.row,ag b.row] h (bool false) h):=by
 have hl0:=(@hl)
 exact Ev.castH (Ev.sym0 (d:=bool false) pok [.b false,.sum [2,3,5] (Exit.ret) {t:=mkT 80 0 [(4,bool false)],h:=[.var [int a.campus,int a.no,int a.st,int a.kind,int a.time,rowsD' (List.map BuT.row a.chs),int a.gsec,int a.glab,int a.key],.var [int b.campus,int b.no,int b.st,int b.kind,int b.time,rowsD' (List.map BuT.row b.chs),int b.gsec,int b.glab,int b.key]],m:=[]}] (by kernel_rfl) (.c hh (.c hl0 .n)) rfl rfl h) (by rfl) (by rfl)
theorem rs_e{a b:RqT}(hh:(a.campus != b.campus||a.no != b.no||a.st != b.st||a.kind != b.kind||a.time != b.time||!(a.gsec==b.gsec&&(a.glab==b.glab&&true))||a.key != b.key||(((a.chs.map BuT.row).length:Int) != ((b.chs.map BuT.row).length:Int)))=false)(hl:CW Tryz.prog Γ0 [] false (.loop (sub Tryz.f52 0)) (rqS a b 0) (.exit 0) {t:=mkT 80 0 [],h:=[.var (a.row.map .p),.var (b.row.map .p)],m:=[]})(h:List Blk):(Ev Tryz.prog Γ0 52 [ag a.row,ag b.row] h (bool true) h):=by
 have hl0:=(@hl)
 exact Ev.castH (Ev.sym0 (d:=bool true) pok [.b false,.sum [2,3,5] (Exit.exit 0) {t:=mkT 80 0 [],h:=[.var [int a.campus,int a.no,int a.st,int a.kind,int a.time,rowsD' (List.map BuT.row a.chs),int a.gsec,int a.glab,int a.key],.var [int b.campus,int b.no,int b.st,int b.kind,int b.time,rowsD' (List.map BuT.row b.chs),int b.gsec,int b.glab,int b.key]],m:=[]}] (by kernel_rfl) (.c hh (.c hl0 .n)) rfl rfl h) (by rfl) (by rfl)
def rqEq37(a b:RqT):Bool:=match (a.campus != b.campus||a.no != b.no||a.st != b.st||a.kind != b.kind||a.time != b.time||!(a.gsec==b.gsec&&(a.glab==b.glab&&true))||a.key != b.key||(((a.chs.map BuT.row).length:Int) != ((b.chs.map BuT.row).length:Int))) with
 | true=>false
 | false=>match qbR a.chs b.chs with
  | .inl _=>true
  | .inr _=>false
theorem rsame_ev{a b:RqT}(hc:Short a.chs)(h:List Blk):Ev Tryz.prog Γ0 52 [ag a.row,ag b.row] h (bool (rqEq37 a b)) h:=by
 unfold rqEq37
 cases hh:(a.campus != b.campus||a.no != b.no||a.st != b.st||a.kind != b.kind||a.time != b.time||!(a.gsec==b.gsec&&(a.glab==b.glab&&true))||a.key != b.key||(((a.chs.map BuT.row).length:Int) != ((b.chs.map BuT.row).length:Int))) with
 | true=>exact rs_hd hh h
 | false =>
  have he:(((a.chs.map BuT.row).length:Int) != ((b.chs.map BuT.row).length:Int))=false:=by
   simp only[Bool.or_eq_false_iff] at hh;exact hh.2
  have:=rq_each hc he
  simp only
  cases hf:qbR a.chs b.chs with
  | inl u=>rw[hf] at this;exact rs_e hh this h
  | inr u=>rw[hf] at this;exact rs_r hh this h
def entEq37(a b:EntT):Bool:=stEqB a b&&a.kind==b.kind&&a.stu==b.stu&&a.obj==b.obj&&a.term==b.term&&a.val==b.val&&(a.frm==b.frm&&(a.til==b.til&&true))&&eqS a.text b.text&&(a.r==b.r&&(a.s==b.s&&true))&&secEq37 a.sec b.sec&&rqEq37 a.req b.req
noncomputable abbrev same37_ev_x0(a:EntT)(b:EntT):List Blk:=[.var [int a.time,int a.campus,int a.no,int a.kind,int a.stu,int a.obj,int a.term,int a.val,int a.frm,int a.til,strD a.text,int a.sec.id,int a.sec.course,int a.sec.term,int a.sec.campus,int a.sec.seats,rowsD' (List.map MeT.row a.sec.mts),rowsD' (List.map GrT.row a.sec.grs),rowsD' (List.map intRow a.sec.labs),bool a.sec.lab,int a.req.campus,int a.req.no,int a.req.st,int a.req.kind,int a.req.time,rowsD' (List.map BuT.row a.req.chs),int a.req.gsec,int a.req.glab,int a.req.key,int a.r,int a.s],.var [int b.time,int b.campus,int b.no,int b.kind,int b.stu,int b.obj,int b.term,int b.val,int b.frm,int b.til,strD b.text,int b.sec.id,int b.sec.course,int b.sec.term,int b.sec.campus,int b.sec.seats,rowsD' (List.map MeT.row b.sec.mts),rowsD' (List.map GrT.row b.sec.grs),rowsD' (List.map intRow b.sec.labs),bool b.sec.lab,int b.req.campus,int b.req.no,int b.req.st,int b.req.kind,int b.req.time,rowsD' (List.map BuT.row b.req.chs),int b.req.gsec,int b.req.glab,int b.req.key,int b.r,int b.s]]
theorem same37_ev{a b:EntT}(hm:Short a.sec.mts)(hgr:Short a.sec.grs)(hi:Short a.sec.labs)(hc:Short a.req.chs)(h:List Blk):(Ev Tryz.prog Γ0 37 [ag a.row,ag b.row] h (bool (entEq37 a b)) h):=by
 exact Ev.castH (Ev.sym0 (d:=bool (a.time==b.time&&(a.campus==b.campus&&(a.no==b.no&&true))&&a.kind==b.kind&&a.stu==b.stu&&a.obj==b.obj&&a.term==b.term&&a.val==b.val&&(a.frm==b.frm&&(a.til==b.til&&true))&&eqS a.text b.text&&(a.r==b.r&&(a.s==b.s&&true))&&secEq37 a.sec b.sec&&rqEq37 a.req b.req)) pok [.val (bool (secEq37 a.sec b.sec)),.val (bool (rqEq37 a.req b.req))] (by kernel_rfl) (.c (show(a.time==b.time&&(a.campus==b.campus&&(a.no==b.no&&true))&&a.kind==b.kind&&a.stu==b.stu&&a.obj==b.obj&&a.term==b.term&&a.val==b.val&&(a.frm==b.frm&&(a.til==b.til&&true))&&eqS a.text b.text&&(a.r==b.r&&(a.s==b.s&&true)))=true→Ev Tryz.prog Γ0 51 [D.agg [int a.sec.id,int a.sec.course,int a.sec.term,int a.sec.campus,int a.sec.seats,rowsD' (List.map MeT.row a.sec.mts),rowsD' (List.map GrT.row a.sec.grs),rowsD' (List.map intRow a.sec.labs),bool a.sec.lab],D.agg [int b.sec.id,int b.sec.course,int b.sec.term,int b.sec.campus,int b.sec.seats,rowsD' (List.map MeT.row b.sec.mts),rowsD' (List.map GrT.row b.sec.grs),rowsD' (List.map intRow b.sec.labs),bool b.sec.lab]] (same37_ev_x0 a b) (bool (secEq37 a.sec b.sec)) (same37_ev_x0 a b) from(fun hg=>(@sec37_ev (a.sec) (b.sec) (hm) (hgr) (hi) ((same37_ev_x0 a b))))) (.c (show(a.time==b.time&&(a.campus==b.campus&&(a.no==b.no&&true))&&a.kind==b.kind&&a.stu==b.stu&&a.obj==b.obj&&a.term==b.term&&a.val==b.val&&(a.frm==b.frm&&(a.til==b.til&&true))&&eqS a.text b.text&&(a.r==b.r&&(a.s==b.s&&true))&&secEq37 a.sec b.sec)=true→Ev Tryz.prog Γ0 52 [D.agg [int a.req.campus,int a.req.no,int a.req.st,int a.req.kind,int a.req.time,rowsD' (List.map BuT.row a.req.chs),int a.req.gsec,int a.req.glab,int a.req.key],D.agg [int b.req.campus,int b.req.no,int b.req.st,int b.req.kind,int b.req.time,rowsD' (List.map BuT.row b.req.chs),int b.req.gsec,int b.req.glab,int b.req.key]] (same37_ev_x0 a b) (bool (rqEq37 a.req b.req)) (same37_ev_x0 a b) from(fun hg=>(@rsame_ev (a.req) (b.req) (hc) ((same37_ev_x0 a b))))) .n)) rfl rfl h) (by first|rfl|(simp only[entEq37,stEqB];first|done|rfl)) (by rfl)
def ftBad(a b:StT):Bool:=Dd (stCmp8 a b≥0)||a.campus==b.campus&&(Dd (a.time≥b.time)||Dd (a.no≥b.no))
def unfit(pre:List EntT):List EntT→Bool
 | []=>false
 | e::l=>pre.any (fun x=>ftBad x.st e.st)||unfit (pre++[e]) l
def fewE(e:EntT):Bool:=Dd ((e.text.size:Int)≤1000)&&Dd (((e.sec.mts.map MeT.row).length:Int)≤20)&&Dd (((e.sec.grs.map GrT.row).length:Int)≤12)&&Dd (((e.sec.labs.map intRow).length:Int)≤12)&&Dd (((e.req.chs.map BuT.row).length:Int)≤12)
theorem fewe_ev{e:EntT}(h:List Blk):(Ev Tryz.prog Γ0 16 [ag e.row] h (bool (fewE e)) h):=by
 exact Ev.castH (Ev.sym0 (d:=bool (Dd ((↑(ByteArray.size e.text):Int)≤1000)&&Dd ((↑(List.length (List.map MeT.row e.sec.mts)):Int)≤20)&&Dd ((↑(List.length (List.map GrT.row e.sec.grs)):Int)≤12)&&Dd ((↑(List.length (List.map intRow e.sec.labs)):Int)≤12)&&Dd ((↑(List.length (List.map BuT.row e.req.chs)):Int)≤12))) pok [] (by kernel_rfl) .n rfl rfl h) (by rfl) (by rfl)
abbrev fwS(l:List (List Dp))(i:Int):AS:={t:=mkT 19 0 [(0,rowsD' l),(3,int i)],h:=[],m:=[]}
abbrev fwX:AS:={t:=mkT 19 0 [(2,bool false)],h:=[],m:=[]}
abbrev fwE(l:List (List Dp)):AS:={t:=mkT 19 0 [(0,rowsD' l)],h:=[],m:=[]}
theorem fw_ok{l:List (List Dp)}{e:EntT}{i:Nat}(hr:RowAt (i:Int) l e.row 31)(hlt:Dd ((i:Int)<(l.length:Int))=true)(hw:IntKind.i64.wrap ((i:Int)+1)=((i+1:Nat):Int))(hf:∀h,Ev Tryz.prog Γ0 16 [ag e.row] h (bool true) h):(CW Tryz.prog Γ0 [] false (sub Tryz.f11 0) (fwS l i) .normal (fwS l ((i+1:Nat):Int))):=by
 refine CW.cast (CW.symX (s':={t:=mkT 19 0 [(0,rowsD' l),(3,int (IntKind.wrap IntKind.i64 ((↑i:Int)+1)))],h:=[],m:=[]}) (e:=Exit.normal) pok [.st (.mask [0,3]),.st (.trim 0)] [.b true,.row [vi e.time,vi e.campus,vi e.no,vi e.kind,vi e.stu,vi e.obj,vi e.term,vi e.val,vi e.frm,vi e.til,vs e.text,vi e.sec.id,vi e.sec.course,vi e.sec.term,vi e.sec.campus,vi e.sec.seats,Dp.sl (List.map MeT.row e.sec.mts),Dp.sl (List.map GrT.row e.sec.grs),Dp.sl (List.map intRow e.sec.labs),Dp.v (Value.bool e.sec.lab),vi e.req.campus,vi e.req.no,vi e.req.st,vi e.req.kind,vi e.req.time,Dp.sl (List.map BuT.row e.req.chs),vi e.req.gsec,vi e.req.glab,vi e.req.key,vi e.r,vi e.s],.val (bool true),.b false] (by kernel_rfl) (.c hlt (.c hr (.c (@hf ([])) (.c (show(!true)=false from rfl) .n))))) ?_ ?_<;>(first|rfl|(rw[hw]<;>rfl))
theorem fw_bad{l:List (List Dp)}{e:EntT}{i:Nat}(hr:RowAt (i:Int) l e.row 31)(hlt:Dd ((i:Int)<(l.length:Int))=true)(hf:∀h,Ev Tryz.prog Γ0 16 [ag e.row] h (bool false) h):(CW Tryz.prog Γ0 [] false (sub Tryz.f11 0) (fwS l i) .ret fwX):=by
 exact CW.cast (CW.symX (s':={t:=mkT 19 0 [(2,bool false)],h:=[],m:=[]}) (e:=Exit.ret) pok [.st (.mask [2]),.st (.trim 0)] [.b true,.row [vi e.time,vi e.campus,vi e.no,vi e.kind,vi e.stu,vi e.obj,vi e.term,vi e.val,vi e.frm,vi e.til,vs e.text,vi e.sec.id,vi e.sec.course,vi e.sec.term,vi e.sec.campus,vi e.sec.seats,Dp.sl (List.map MeT.row e.sec.mts),Dp.sl (List.map GrT.row e.sec.grs),Dp.sl (List.map intRow e.sec.labs),Dp.v (Value.bool e.sec.lab),vi e.req.campus,vi e.req.no,vi e.req.st,vi e.req.kind,vi e.req.time,Dp.sl (List.map BuT.row e.req.chs),vi e.req.gsec,vi e.req.glab,vi e.req.key,vi e.r,vi e.s],.val (bool false),.b true] (by kernel_rfl) (.c hlt (.c hr (.c (@hf ([])) (.c (show(!false)=true from rfl) .n))))) (by rfl) (by rfl)
theorem fw_last{l:List (List Dp)}{i:Nat}(hlt:Dd ((i:Int)<(l.length:Int))=false):(CW Tryz.prog Γ0 [] false (sub Tryz.f11 0) (fwS l i) (.exit 0) (fwE l)):=by
 exact CW.cast (CW.symX (s':={t:=mkT 19 0 [(0,rowsD' l)],h:=[],m:=[]}) (e:=Exit.exit 0) pok [.st (.mask [0])] [.b false] (by kernel_rfl) (.c hlt .n)) (by rfl) (by rfl)
def fwF(e:EntT)(_:Unit):Unit⊕Unit:=match fewE e with
 | true=>.inl ()
 | false=>.inr ()
theorem fw_each{l:List EntT}(hs:Short l):CW Tryz.prog Γ0 [] false (.loop (sub Tryz.f11 0)) (fwS (l.map EntT.row) 0) (eachFin (.exit 0) (fun _:Unit=>fwE (l.map EntT.row)) (fun _:Unit=>(.ret,fwX)) (forL fwF l ())).1 (eachFin (.exit 0) (fun _:Unit=>fwE (l.map EntT.row)) (fun _:Unit=>(.ret,fwX)) (forL fwF l ())).2:=by
 refine CW.each l fwF (fun j _=>fwS (l.map EntT.row) (j:Int)) (.exit 0) _ _ (fun _ _=>True) (by simp) (fun _=>by simp) ?_ ?_ () trivial
 ·intro j e a hj _
  have hlt:=(List.getElem?_eq_some_iff.1 hj).1
  have hr:=rowAt (row:=EntT.row) (sz:=31) hj rfl
  have hf:=fun h=>fewe_ev (e:=e) h
  refine⟨fun _ _=>trivial,?_⟩
  unfold fwF
  cases hb:fewE e with
  | true=>rw[hb] at hf;exact fw_ok hr (lt_len EntT.row hlt) (wrap_succ hlt hs) hf
  | false=>rw[hb] at hf;exact fw_bad hr (lt_len EntT.row hlt) hf
 ·intro a _
  exact fw_last (ge_len EntT.row l)
theorem few_x{L:List (List Dp)}(hl:CW Tryz.prog Γ0 [] false (.loop (sub Tryz.f11 0)) (fwS L 0) .ret fwX)(h:List Blk):(Ev Tryz.prog Γ0 11 [rowsD' L] h (bool false) h):=by
 have hl0:=(@hl)
 exact Ev.castH (Ev.sym0 (d:=bool false) pok [.sum [0,3] (Exit.ret) {t:=mkT 19 0 [(2,bool false)],h:=[],m:=[]}] (by kernel_rfl) (.c hl0 .n) rfl rfl h) (by rfl) (by rfl)
theorem few_o{L:List (List Dp)}(hl:CW Tryz.prog Γ0 [] false (.loop (sub Tryz.f11 0)) (fwS L 0) (.exit 0) (fwE L))(h:List Blk):(Ev Tryz.prog Γ0 11 [rowsD' L] h (bool (Dd ((L.length:Int)≤16))) h):=by
 have hl0:=(@hl)
 exact Ev.castH (Ev.sym0 (d:=bool (Dd ((↑(List.length L):Int)≤16))) pok [.sum [0,3] (Exit.exit 0) {t:=mkT 19 0 [(0,rowsD' L)],h:=[],m:=[]}] (by kernel_rfl) (.c hl0 .n) rfl rfl h) (by rfl) (by rfl)
theorem fwF_all:∀{l:List EntT},forL fwF l ()=(match l.all fewE with|true=>.inl ()|false=>.inr ())
 | []=>rfl
 | e::l=>by
  unfold forL
  rw[List.all_cons]
  cases hb:fewE e with
  | true=>simp only[fwF,hb,Bool.true_and];exact fwF_all
  | false=>simp only[fwF,hb];rfl
def fewR(l:List EntT):Bool:=l.all fewE&&Dd (((l.map EntT.row).length:Int)≤16)
theorem few_ev{l:List EntT}(hs:Short l)(h:List Blk):Ev Tryz.prog Γ0 11 [rowsD' (l.map EntT.row)] h (bool (fewR l)) h:=by
 have:=fw_each hs
 rw[fwF_all] at this
 unfold fewR
 cases hf:l.all fewE with
 | true=>rw[hf] at this;rw[Bool.true_and];exact few_o this h
 | false=>rw[hf] at this;exact few_x this h
theorem secEq37_eq(a b:SecT):secEq37 a b=secEq a b:=rfl
theorem rqEq37_eq(a b:RqT):rqEq37 a b=rqEq a b:=by
 have hq:qbB a.chs b.chs=(match (((a.chs.map BuT.row).length:Int) != ((b.chs.map BuT.row).length:Int)) with|true=>false|false=>match qbR a.chs b.chs with | .inl _=>true | .inr _=>false):=by
  unfold qbB
  cases (((a.chs.map BuT.row).length:Int) != ((b.chs.map BuT.row).length:Int))<;>rfl
 unfold rqEq37 rqEq
 rw[hq]
 simp only[bne]
 cases (((a.chs.map BuT.row).length:Int)==((b.chs.map BuT.row).length:Int))<;>cases qbR a.chs b.chs<;>cases (a.campus==b.campus)<;>cases (a.no==b.no)<;>cases (a.st==b.st)<;>cases (a.kind==b.kind)<;>cases (a.time==b.time)<;>cases (a.gsec==b.gsec&&(a.glab==b.glab&&true))<;>cases (a.key==b.key)<;>rfl
theorem entEq37_eq(a b:EntT):entEq37 a b=entEq a b:=by
 unfold entEq37 entEq
 rw[secEq37_eq,rqEq37_eq]
 generalize (stEqB a b&&a.kind==b.kind&&a.stu==b.stu&&a.obj==b.obj&&a.term==b.term&&a.val==b.val&&(a.frm==b.frm&&(a.til==b.til&&true))&&eqS a.text b.text)=x
 generalize (a.r==b.r&&(a.s==b.s&&true))=y
 cases x<;>cases y<;>cases secEq a.sec b.sec<;>cases rqEq a.req b.req<;>rfl
set_option maxRecDepth 1000000
abbrev tk(a b c k t:Int):List D:=[int a,int b,int c,int k,int 0,int 0,int t,int 0,int 0,int 0,strD ⟨#[]⟩,int 0,int 0,int 0,int 0,int 0,nq,nq,nq,bool false,int 0,int 0,int 0,int 0,int 0,nq,int 0,int 0,int 0,int 0,int 0]
def s39m0:Memo:=⟨20,[.ref (.vec 0 0),.ref (.vs 0 0 1 2 false)],[.vec [(tk 2 0 1 9 3),(tk 2 1 1 9 3),(tk 5 0 2 9 3)] 0 31,.gone,.gone,.gone,.gone,.gone,.gone,.gone,.gone,.gone,.gone,.gone,.vec [(tk 2 0 1 9 3),(tk 2 1 1 9 3),(tk 5 0 2 9 3)] 2 31,.gone,.gone,.gone,.gone,.gone,.gone,.gone,.gone,.gone,.gone,.gone,.gone,.gone,.gone,.gone,.gone,.gone,.vec [(tk 2 0 1 9 3),(tk 2 1 1 9 3),(tk 5 0 2 9 3)] 2 31,.gone,.gone,.gone,.gone,.gone,.gone],.ret (.tup [.ref (.vec 46 2),int 0]) [.vec [(tk 2 0 1 9 3),(tk 2 1 1 9 3),(tk 5 0 2 9 3)] 0 31,.gone,.gone,.gone,.gone,.gone,.gone,.gone,.gone,.gone,.gone,.gone,.vec [(tk 2 0 1 9 3),(tk 2 1 1 9 3),(tk 5 0 2 9 3)] 2 31,.gone,.gone,.gone,.gone,.gone,.gone,.gone,.gone,.gone,.gone,.gone,.gone,.gone,.gone,.gone,.gone,.gone,.vec [(tk 2 0 1 9 3),(tk 2 1 1 9 3),(tk 5 0 2 9 3)] 2 31,.gone,.gone,.gone,.gone,.gone,.gone,.gone,.gone,.gone,.gone,.gone,.gone,.gone,.gone,.gone,.vec [(tk 2 0 1 9 3),(tk 2 1 1 9 3),(tk 5 0 2 9 3)] 2 31,.gone,.gone,.gone,.gone,.gone,.gone,.gone,.gone,.gone,.gone]⟩
theorem s39m0_ok:s39m0.Ok Tryz.prog Γq:=Memo.ok_of pok (ms:=[]) (by kernel_rfl) trivial
def s39m1:Memo:=⟨17,[.ref (.vec 0 0),.agg (tk 2 0 9 9 3)],[.vec [(tk 2 0 1 9 3),(tk 2 1 1 9 3),(tk 5 0 2 9 3)] 0 31,.gone,.gone,.gone,.gone,.gone,.gone,.gone,.gone,.gone,.gone,.gone,.vec [(tk 2 0 1 9 3),(tk 2 1 1 9 3),(tk 5 0 2 9 3)] 2 31,.gone,.gone,.gone,.gone,.gone,.gone,.gone,.gone,.gone,.gone,.gone,.gone,.gone,.gone,.gone,.gone,.gone,.vec [(tk 2 0 1 9 3),(tk 2 1 1 9 3),(tk 5 0 2 9 3)] 2 31,.gone,.gone,.gone,.gone,.gone,.gone,.gone,.gone,.gone,.gone,.gone,.gone,.gone,.gone,.gone,.vec [(tk 2 0 1 9 3),(tk 2 1 1 9 3),(tk 5 0 2 9 3)] 2 31,.gone,.gone,.gone,.gone,.gone,.gone,.gone,.gone,.gone,.gone],.ret (.tup [nq,int 0,int 390]) [.vec [(tk 2 0 1 9 3),(tk 2 1 1 9 3),(tk 5 0 2 9 3)] 0 31,.gone,.gone,.gone,.gone,.gone,.gone,.gone,.gone,.gone,.gone,.gone,.vec [(tk 2 0 1 9 3),(tk 2 1 1 9 3),(tk 5 0 2 9 3)] 2 31,.gone,.gone,.gone,.gone,.gone,.gone,.gone,.gone,.gone,.gone,.gone,.gone,.gone,.gone,.gone,.gone,.gone,.vec [(tk 2 0 1 9 3),(tk 2 1 1 9 3),(tk 5 0 2 9 3)] 2 31,.gone,.gone,.gone,.gone,.gone,.gone,.gone,.gone,.gone,.gone,.gone,.gone,.gone,.gone,.gone,.vec [(tk 2 0 1 9 3),(tk 2 1 1 9 3),(tk 5 0 2 9 3)] 2 31,.gone,.gone,.gone,.gone,.gone,.gone,.gone,.gone,.gone,.gone]⟩
theorem s39m1_ok:s39m1.Ok Tryz.prog Γq:=Memo.ok_of pok (ms:=[]) (by kernel_rfl) trivial
def s39m2:Memo:=⟨17,[.ref (.vs 0 0 0 2 false),.agg (tk 5 0 2 9 3)],[.vec [(tk 2 0 1 9 3),(tk 2 1 1 9 3),(tk 5 0 2 9 3)] 0 31],.ret (.tup [.ref (.vec 12 2),int 2,int 0]) [.vec [(tk 2 0 1 9 3),(tk 2 1 1 9 3),(tk 5 0 2 9 3)] 0 31,.gone,.gone,.gone,.gone,.gone,.gone,.gone,.gone,.gone,.gone,.gone,.vec [(tk 2 0 1 9 3),(tk 2 1 1 9 3),(tk 5 0 2 9 3)] 2 31,.gone,.gone,.gone,.gone,.gone,.gone]⟩
theorem s39m2_ok:s39m2.Ok Tryz.prog Γq:=Memo.ok_of pok (ms:=[]) (by kernel_rfl) trivial
def s39m3:Memo:=⟨17,[.ref (.vs 0 0 1 2 false),.agg (tk 2 0 1 9 3)],[.vec [(tk 2 0 1 9 3),(tk 2 1 1 9 3),(tk 5 0 2 9 3)] 0 31,.gone,.gone,.gone,.gone,.gone,.gone,.gone,.gone,.gone,.gone,.gone,.vec [(tk 2 0 1 9 3),(tk 2 1 1 9 3),(tk 5 0 2 9 3)] 2 31,.gone,.gone,.gone,.gone,.gone,.gone],.ret (.tup [.ref (.vec 30 2),int 0,int 0]) [.vec [(tk 2 0 1 9 3),(tk 2 1 1 9 3),(tk 5 0 2 9 3)] 0 31,.gone,.gone,.gone,.gone,.gone,.gone,.gone,.gone,.gone,.gone,.gone,.vec [(tk 2 0 1 9 3),(tk 2 1 1 9 3),(tk 5 0 2 9 3)] 2 31,.gone,.gone,.gone,.gone,.gone,.gone,.gone,.gone,.gone,.gone,.gone,.gone,.gone,.gone,.gone,.gone,.gone,.vec [(tk 2 0 1 9 3),(tk 2 1 1 9 3),(tk 5 0 2 9 3)] 2 31,.gone,.gone,.gone,.gone,.gone,.gone]⟩
theorem s39m3_ok:s39m3.Ok Tryz.prog Γq:=Memo.ok_of pok (ms:=[]) (by kernel_rfl) trivial
def s39m4:Memo:=⟨22,[.ref (.vec 0 0),int 16],[.vec [(tk 2 0 1 9 3),(tk 2 1 1 9 3),(tk 5 0 2 9 3)] 0 31,.gone,.gone,.gone,.gone,.gone,.gone,.gone,.gone,.gone,.gone,.gone,.vec [(tk 2 0 1 9 3),(tk 2 1 1 9 3),(tk 5 0 2 9 3)] 2 31,.gone,.gone,.gone,.gone,.gone,.gone,.gone,.gone,.gone,.gone,.gone,.gone,.gone,.gone,.gone,.gone,.gone,.vec [(tk 2 0 1 9 3),(tk 2 1 1 9 3),(tk 5 0 2 9 3)] 2 31,.gone,.gone,.gone,.gone,.gone,.gone,.gone,.gone,.gone,.gone,.gone,.gone,.gone,.gone,.gone,.vec [(tk 2 0 1 9 3),(tk 2 1 1 9 3),(tk 5 0 2 9 3)] 2 31,.gone,.gone,.gone,.gone,.gone,.gone,.gone,.gone,.gone,.gone],.ret (.tup [.ref (.vec 59 0),int 0]) [.vec [(tk 2 0 1 9 3),(tk 2 1 1 9 3),(tk 5 0 2 9 3)] 0 31,.gone,.gone,.gone,.gone,.gone,.gone,.gone,.gone,.gone,.gone,.gone,.vec [(tk 2 0 1 9 3),(tk 2 1 1 9 3),(tk 5 0 2 9 3)] 2 31,.gone,.gone,.gone,.gone,.gone,.gone,.gone,.gone,.gone,.gone,.gone,.gone,.gone,.gone,.gone,.gone,.gone,.vec [(tk 2 0 1 9 3),(tk 2 1 1 9 3),(tk 5 0 2 9 3)] 2 31,.gone,.gone,.gone,.gone,.gone,.gone,.gone,.gone,.gone,.gone,.gone,.gone,.gone,.gone,.gone,.vec [(tk 2 0 1 9 3),(tk 2 1 1 9 3),(tk 5 0 2 9 3)] 2 31,.gone,.gone,.gone,.gone,.gone,.gone,.gone,.gone,.gone,.gone,.gone,.gone,.vec [(tk 2 0 1 9 3)] 0 31,.gone,.gone]⟩
theorem s39m4_ok:s39m4.Ok Tryz.prog Γq:=Memo.ok_of pok (ms:=[]) (by kernel_rfl) trivial
def s39m5:Memo:=⟨12,[.ref (.vec 0 0)],[.vec [(tk 2 0 1 9 3),(tk 2 1 1 9 3),(tk 5 0 2 9 3)] 0 31,.gone,.gone,.gone,.gone,.gone,.gone,.gone,.gone,.gone,.gone,.gone,.vec [(tk 2 0 1 9 3),(tk 2 1 1 9 3),(tk 5 0 2 9 3)] 2 31,.gone,.gone,.gone,.gone,.gone,.gone,.gone,.gone,.gone,.gone,.gone,.gone,.gone,.gone,.gone,.gone,.gone,.vec [(tk 2 0 1 9 3),(tk 2 1 1 9 3),(tk 5 0 2 9 3)] 2 31,.gone,.gone,.gone,.gone,.gone,.gone,.gone,.gone,.gone,.gone,.gone,.gone,.gone,.gone,.gone,.vec [(tk 2 0 1 9 3),(tk 2 1 1 9 3),(tk 5 0 2 9 3)] 2 31,.gone,.gone,.gone,.gone,.gone,.gone,.gone,.gone,.gone,.gone,.gone,.gone,.vec [(tk 2 0 1 9 3)] 0 31,.gone,.gone],.ret (int 0) [.vec [(tk 2 0 1 9 3),(tk 2 1 1 9 3),(tk 5 0 2 9 3)] 0 31,.gone,.gone,.gone,.gone,.gone,.gone,.gone,.gone,.gone,.gone,.gone,.vec [(tk 2 0 1 9 3),(tk 2 1 1 9 3),(tk 5 0 2 9 3)] 2 31,.gone,.gone,.gone,.gone,.gone,.gone,.gone,.gone,.gone,.gone,.gone,.gone,.gone,.gone,.gone,.gone,.gone,.vec [(tk 2 0 1 9 3),(tk 2 1 1 9 3),(tk 5 0 2 9 3)] 2 31,.gone,.gone,.gone,.gone,.gone,.gone,.gone,.gone,.gone,.gone,.gone,.gone,.gone,.gone,.gone,.vec [(tk 2 0 1 9 3),(tk 2 1 1 9 3),(tk 5 0 2 9 3)] 2 31,.gone,.gone,.gone,.gone,.gone,.gone,.gone,.gone,.gone,.gone,.gone,.gone,.vec [(tk 2 0 1 9 3)] 0 31,.gone,.gone]⟩
theorem s39m5_ok:s39m5.Ok Tryz.prog Γq:=Memo.ok_of pok (ms:=[]) (by kernel_rfl) trivial
def s39mR:Memo:=⟨10,[],[],.ret (bool true) []⟩
theorem s39mR_ok:s39mR.Ok Tryz.prog Γq:=Memo.ok_of pok (ms:=[s39m0,s39m1,s39m2,s39m3,s39m4,s39m5]) (by kernel_rfl) ⟨s39m0_ok,s39m1_ok,s39m2_ok,s39m3_ok,s39m4_ok,s39m5_ok,trivial⟩
theorem sane39_ev(h:List Blk):Ev Tryz.prog Γq 10 [] h (bool true) h:=Ev.frame0 rfl (Memo.call s39mR_ok rfl) h
def StLt(a b:StT):Prop:=a.time<b.time∨(a.time=b.time∧(a.campus<b.campus∨(a.campus=b.campus∧a.no<b.no)))
theorem cmp8_cases(a b:Int):(a<b∧cmp8 a b = -1)∨(a=b∧cmp8 a b=0)∨(b<a∧cmp8 a b=1):=by
 unfold cmp8
 rcases Int.lt_trichotomy a b with h|h|h
 ·left;rw[decide_eq_true h];exact⟨h,rfl⟩
 ·right;left;subst h;simp
 ·right;right
  have h1:Dd (a<b)=false:=by simp;omega
  have h2:Dd (a>b)=true:=by simp;omega
  rw[h1,h2];exact⟨h,rfl⟩
theorem stCmp8_cases(a b:StT):(StLt a b∧stCmp8 a b = -1)∨(¬StLt a b∧¬StLt b a∧stCmp8 a b=0)∨(StLt b a∧stCmp8 a b=1):=by
 unfold stCmp8 StLt
 rcases cmp8_cases a.time b.time with ⟨h1,e1⟩|⟨h1,e1⟩|⟨h1,e1⟩<;>rw[e1]
 ·left;exact⟨.inl h1,rfl⟩
 ·rcases cmp8_cases a.campus b.campus with ⟨h2,e2⟩|⟨h2,e2⟩|⟨h2,e2⟩<;>rw[e2]
  ·left;exact⟨.inr ⟨h1,.inl h2⟩,rfl⟩
  ·rcases cmp8_cases a.no b.no with ⟨h3,e3⟩|⟨h3,e3⟩|⟨h3,e3⟩<;>rw[e3]
   ·left;exact⟨.inr ⟨h1,.inr ⟨h2,h3⟩⟩,rfl⟩
   ·right;left;exact⟨by omega,by omega,rfl⟩
   ·right;right;exact⟨by omega,rfl⟩
  ·right;right;exact⟨by omega,rfl⟩
 ·right;right;exact⟨.inl h1,rfl⟩
theorem stCmp_eq(a b:StT):stCmp a b=stCmp8 a b:=by
 unfold stCmp stEq stCmp8 firstR
 rcases cmp8_cases a.time b.time with ⟨h1,e1⟩|⟨h1,e1⟩|⟨h1,e1⟩<;>rw[e1]
 ·have:(a.time==b.time)=false:=by simp;omega
  rw[this];rfl
 ·rcases cmp8_cases a.campus b.campus with ⟨h2,e2⟩|⟨h2,e2⟩|⟨h2,e2⟩<;>rw[e2]
  ·have:(a.campus==b.campus)=false:=by simp;omega
   rw[this,Bool.false_and,Bool.and_false];rfl
  ·rcases cmp8_cases a.no b.no with ⟨h3,e3⟩|⟨h3,e3⟩|⟨h3,e3⟩<;>rw[e3]
   ·have:(a.no==b.no)=false:=by simp;omega
    rw[this,Bool.false_and,Bool.and_false,Bool.and_false];rfl
   ·rw[h1,h2,h3];simp
   ·have:(a.no==b.no)=false:=by simp;omega
    rw[this,Bool.false_and,Bool.and_false,Bool.and_false];rfl
  ·have:(a.campus==b.campus)=false:=by simp;omega
   rw[this,Bool.false_and,Bool.and_false];rfl
 ·have:(a.time==b.time)=false:=by simp;omega
  rw[this];rfl
theorem cmp_ge(a b:StT):stCmp8 a b≥0 ↔ ¬StLt a b:=by
 rcases stCmp8_cases a b with ⟨h,e⟩|⟨h,_,e⟩|⟨h,e⟩<;>rw[e]
 ·exact⟨fun h=>by omega,fun h2=>absurd h h2⟩
 ·exact⟨fun _=>h,fun _=>by omega⟩
 ·refine⟨fun _ h2=>?_,fun _=>by omega⟩
  unfold StLt at h h2
  omega
abbrev z0:StT:=⟨0,0,0⟩
structure FitI (pre:List EntT) (s:List StT×Option StT):Prop where
 n:s.1.length=7
 c:∀c:Nat,c<7→(s.1.getD c z0=z0∧∀y∈pre,y.campus ≠ c)∨∃x∈pre,s.1.getD c z0=x.st∧x.campus=c∧∀y∈pre,y.campus=c→y.time≤x.time∧y.no≤x.no
 p:(s.2=none∧pre=[])∨∃x∈pre,s.2=some x.st∧∀y∈pre,¬StLt x.st y.st
 v:∀y∈pre,1≤y.no
def prevBad(s:StT)(o:Option StT):Bool:=match o with
 | none=>false
 | some p=>Dd (stCmp p s≥0)
theorem fit_cond{pre:List EntT}{s:List StT×Option StT}(I:FitI pre s)(e:EntT)(h0:0≤e.campus)(h7:e.campus<7):
  (prevBad e.st s.2||fiB (s.1.getD e.st.campus.toNat z0) e.st)=pre.any (fun x=>ftBad x.st e.st):=by
 have hc:((e.st.campus.toNat:Nat):Int)=e.campus:=by show((e.campus.toNat:Nat):Int)=_;omega
 have hlt:e.st.campus.toNat<7:=by omega
 rw[Bool.eq_iff_iff,Bool.or_eq_true,List.any_eq_true]
 constructor
 ·rintro (h|h)
  ·rcases I.p with ⟨h1,_⟩|⟨x,hx,h1,_⟩
   ·rw[h1] at h;cases h
   ·rw[h1] at h
    refine⟨x,hx,?_⟩
    unfold ftBad
    have:Dd (stCmp8 x.st e.st≥0)=true:=by rw[←stCmp_eq];exact h
    rw[this];rfl
  ·rcases I.c _ hlt with ⟨h1,_⟩|⟨x,hx,h1,h2,_⟩
   ·rw[h1] at h;cases h
   ·rw[h1] at h
    refine⟨x,hx,?_⟩
    unfold ftBad
    have hcc:(x.st.campus==e.st.campus)=true:=by
     show(x.campus==e.campus)=true
     rw[h2,hc];simp
    unfold fiB at h
    rw[Bool.and_eq_true] at h
    rw[hcc,h.2];simp
 ·rintro⟨y,hy,h⟩
  unfold ftBad at h
  rw[Bool.or_eq_true] at h
  rcases h with h|h
  ·left
   rcases I.p with ⟨_,h1⟩|⟨x,hx,h1,h2⟩
   ·rw[h1] at hy;cases hy
   ·rw[h1]
    show Dd (stCmp x.st e.st≥0)=true
    rw[stCmp_eq]
    have ha:=(cmp_ge y.st e.st).1 (by simpa using h)
    have hb:=h2 y hy
    simp only[decide_eq_true_eq]
    rw[cmp_ge]
    unfold StLt at *
    omega
  ·right
   rw[Bool.and_eq_true] at h
   have hcc:y.campus=((e.st.campus.toNat:Nat):Int):=by rw[hc];exact eq_of_beq h.1
   rcases I.c _ hlt with ⟨_,h1⟩|⟨x,hx,h1,h2,h3⟩
   ·exact absurd hcc (h1 y hy)
   ·rw[h1]
    have ⟨ht,hn⟩:=h3 y hy hcc
    have hv:=I.v x hx
    have hor:=h.2
    rw[Bool.or_eq_true] at hor
    simp only[decide_eq_true_eq] at hor
    unfold fiB
    rw[Bool.and_eq_true,Bool.or_eq_true]
    simp only[decide_eq_true_eq]
    refine⟨?_,?_⟩
    ·show x.no>0
     omega
    ·rcases hor with ho|ho
     ·left
      show x.time≥e.st.time
      have:y.st.time=y.time:=rfl
      omega
     ·right
      show x.no≥e.st.no
      have:y.st.no=y.no:=rfl
      omega
theorem fit_next{pre:List EntT}{s:List StT×Option StT}(I:FitI pre s)(e:EntT)(h0:0≤e.campus)(h7:e.campus<7)(hn:1≤e.no)(hb:pre.any (fun x=>ftBad x.st e.st)=false):
  FitI (pre++[e]) (s.1.set e.st.campus.toNat e.st,some e.st):=by
 have hc:((e.st.campus.toNat:Nat):Int)=e.campus:=by show((e.campus.toNat:Nat):Int)=_;omega
 have hlt:e.st.campus.toNat<7:=by omega
 rw[List.any_eq_false] at hb
 have hall:∀y∈pre,StLt y.st e.st∧(y.campus=e.campus→y.time<e.time∧y.no<e.no):=by
  intro y hy
  have:=hb y hy
  unfold ftBad at this
  simp only[Bool.or_eq_true,Bool.and_eq_true,decide_eq_true_eq,beq_iff_eq,not_or,not_and] at this
  have h1:=(not_congr (cmp_ge y.st e.st)).1 this.1
  refine⟨Classical.not_not.1 h1,fun hcc=>?_⟩
  have h2:=this.2 hcc
  have e1:y.st.time=y.time:=rfl
  have e2:e.st.time=e.time:=rfl
  have e3:y.st.no=y.no:=rfl
  have e4:e.st.no=e.no:=rfl
  omega
 refine⟨by simp[I.n],?_,?_,?_⟩
 ·intro c hc7
  by_cases hce:c=e.st.campus.toNat
  ·subst hce
   right
   refine⟨e,by simp,?_,hc.symm,?_⟩
   ·rw[List.getD,List.getElem?_set_self (by rw[I.n];exact hlt)];rfl
   ·intro y hy hyc
    rw[List.mem_append] at hy
    rcases hy with hy|hy
    ·have:=(hall y hy).2 (by rw[hyc,hc]);omega
    ·simp at hy;subst hy;exact⟨Int.le_refl _,Int.le_refl _⟩
  ·have hg:(s.1.set e.st.campus.toNat e.st).getD c z0=s.1.getD c z0:=by
    rw[List.getD,List.getD,List.getElem?_set_ne (fun h=>hce h.symm)]
   simp only[hg]
   have hne:e.campus ≠ (c:Int):=by omega
   rcases I.c c hc7 with ⟨h1,h2⟩|⟨x,hx,h1,h2,h3⟩
   ·left
    refine⟨h1,fun y hy=>?_⟩
    rw[List.mem_append] at hy
    rcases hy with hy|hy
    ·exact h2 y hy
    ·simp at hy;subst hy;exact hne
   ·right
    refine⟨x,by simp[hx],h1,h2,fun y hy hyc=>?_⟩
    rw[List.mem_append] at hy
    rcases hy with hy|hy
    ·exact h3 y hy hyc
    ·simp at hy;subst hy;exact absurd hyc hne
 ·right
  refine⟨e,by simp,rfl,fun y hy=>?_⟩
  rw[List.mem_append] at hy
  rcases hy with hy|hy
  ·have:=(hall y hy).1
   unfold StLt at *
   omega
  ·simp at hy;subst hy;unfold StLt;omega
 ·intro y hy
  rw[List.mem_append] at hy
  rcases hy with hy|hy
  ·exact I.v y hy
  ·simp at hy;subst hy;exact hn
theorem fit_go:∀(l pre:List EntT) (s:List StT×Option StT),FitI pre s→(∀e∈l,(0≤e.campus∧e.campus<7)∧1≤e.no)→(match forL (fun e:EntT=>fiF e.st) l s with | .inl _=>true | .inr _=>false) = !unfit pre l
 | [],_,_,_,_=>rfl
 | e::l,pre,s,I,hv=>by
  have ⟨⟨h0,h7⟩,hn⟩:=hv e (by simp)
  have hc:=fit_cond I e h0 h7
  unfold forL
  have hF:fiF e.st s=match prevBad e.st s.2||fiB (s.1.getD e.st.campus.toNat z0) e.st with|true=>.inr s.1|false=>.inl (s.1.set e.st.campus.toNat e.st,some e.st):=by
   unfold fiF prevBad
   cases s.2<;>rfl
  simp only[hF,hc,unfit]
  cases hb:pre.any (fun x=>ftBad x.st e.st) with
  | true=>rfl
  | false=>exact fit_go l (pre++[e]) _ (fit_next I e h0 h7 hn hb) (fun x hx=>hv x (by simp[hx]))
theorem z7_getD:∀c:Nat,c<7→z7.getD c z0=z0:=by
 intro c hc
 have:c=0∨c=1∨c=2∨c=3∨c=4∨c=5∨c=6:=by omega
 rcases this with h|h|h|h|h|h|h<;>subst h<;>rfl
theorem fit_eq{l:List EntT}(hv:∀e∈l,(0≤e.campus∧e.campus<7)∧1≤e.no):fitB l = !unfit [] l :=
 fit_go l [] (z7,none) ⟨rfl,fun c hc=>.inl ⟨z7_getD c hc,fun y hy=>by cases hy⟩,.inl ⟨rfl,rfl⟩,fun y hy=>by cases hy⟩ hv
theorem few_ok{l:List EntT}(h:fewR l=true):∀e∈l,e.ok:=by
 intro e he
 unfold fewR at h
 rw[Bool.and_eq_true,List.all_eq_true] at h
 have:=h.1 e he
 simp only[fewE,Bool.and_eq_true,decide_eq_true_eq,List.length_map] at this
 exact⟨by unfold Short;omega,by unfold Short;omega,by unfold Short;omega,by unfold Short;omega⟩
def FtOk(a b:EntT):Prop:=StLt a.st b.st∧(a.campus=b.campus→a.time<b.time∧a.no<b.no)
theorem ftBad_iff(a b:EntT):ftBad a.st b.st=false ↔ FtOk a b:=by
 have e1:a.st.time=a.time:=rfl
 have e2:b.st.time=b.time:=rfl
 have e3:a.st.no=a.no:=rfl
 have e4:b.st.no=b.no:=rfl
 have e5:a.st.campus=a.campus:=rfl
 have e6:b.st.campus=b.campus:=rfl
 unfold ftBad FtOk
 rw[Bool.or_eq_false_iff,e1,e2,e3,e4,e5,e6]
 have h1:Dd (stCmp8 a.st b.st≥0)=false ↔ StLt a.st b.st:=by
  rw[decide_eq_false_iff_not,cmp_ge,Classical.not_not]
 rw[h1]
 refine and_congr_right fun _=>?_
 by_cases hc:a.campus=b.campus
 ·simp[hc]
 ·simp[hc]
def Fits(l:List EntT):Prop:=l.Pairwise FtOk
theorem unfit_iff:∀(l pre:List EntT),unfit pre l=false ↔ (∀x∈pre,∀e∈l,FtOk x e)∧Fits l
 | [],pre=>by simp[unfit,Fits]
 | e::l,pre=>by
  unfold unfit
  rw[Bool.or_eq_false_iff,unfit_iff l,List.any_eq_false]
  unfold Fits
  rw[List.pairwise_cons]
  constructor
  ·rintro⟨h1,h2,h3⟩
   refine⟨fun x hx y hy=>?_,fun y hy=>h2 e (by simp) y hy,h3⟩
   rcases List.mem_cons.1 hy with rfl|hy
   ·exact(ftBad_iff x y).1 (by simpa using h1 x hx)
   ·exact h2 x (by simp[hx]) y hy
  ·rintro⟨h1,h2,h3⟩
   refine⟨fun x hx=>by simpa using(ftBad_iff x e).2 (h1 x hx e (by simp)),fun x hx y hy=>?_,h3⟩
   rcases List.mem_append.1 hx with hx|hx
   ·exact h1 x hx y (by simp[hy])
   ·simp at hx;subst hx;exact h2 y hy
structure Led (l:List EntT):Prop where
 len:l.length≤65536
 e:∀x∈l,entErr x=0
 f:Fits l
theorem ent_in{e:EntT}(h:entErr e=0):(1≤e.time∧e.time≤1048576)∧(0≤e.campus∧e.campus<7)∧(1≤e.no∧e.no≤1048576):=stErr_in (entErr_st h)
theorem fitB_iff{l:List EntT}(h:∀e∈l,entErr e=0):fitB l=true ↔ Fits l:=by
 rw[fit_eq fun e he=>⟨(ent_in (h e he)).2.1,(ent_in (h e he)).2.2.1⟩]
 have:=unfit_iff l []
 cases hu:unfit [] l with
 | true =>
  rw[hu] at this
  refine⟨fun h=>(by cases h),fun h=>?_⟩
  have:=this.2 ⟨by simp,h⟩
  cases this
 | false=>rw[hu] at this;exact⟨fun _=>(this.1 rfl).2,fun _=>rfl⟩
theorem lcF_ok:∀{l:List EntT},(∀e∈l,entErr e=0)→forL lcF l ()=.inl ()
 | [],_=>rfl
 | e::l,h=>by
  have h1:lcF e ()=.inl ():=by unfold lcF;rw[h e (by simp)];rfl
  unfold forL
  rw[h1]
  exact lcF_ok fun x hx=>h x (by simp[hx])
theorem led_iff{l:List EntT}:ledErr l=0 ↔ Led l:=by
 unfold ledErr
 constructor
 ·intro h
  cases hb:Dd (((l.map EntT.row).length:Int)>65536) with
  | true=>rw[hb] at h;cases h
  | false =>
   rw[hb] at h
   simp only at h
   cases hf:forL lcF l () with
   | inr r =>
    rw[hf] at h
    simp only at h
    exfalso
    have:∀(l:List EntT),forL lcF l ()=.inr r→r ≠ 0:=by
     intro l
     induction l with
     | nil=>intro h;cases h
     | cons x l ih =>
      intro h2
      unfold forL at h2
      cases hb2:entErr x != 0 with
      | true =>
       simp only[lcF,hb2] at h2
       cases h2
       simpa using hb2
      | false=>simp only[lcF,hb2] at h2;exact ih h2
    exact this l hf h
   | inl u =>
    rw[hf] at h
    simp only at h
    have he:=lcF_all ⟨u,hf⟩
    refine⟨by simp at hb;omega,he,(fitB_iff he).1 ?_⟩
    cases hfb:fitB l with
    | true=>rfl
    | false=>rw[hfb] at h;cases h
 ·intro h
  have hb:Dd (((l.map EntT.row).length:Int)>65536)=false:=by have:=h.len;simp;omega
  rw[hb,lcF_ok h.e,(fitB_iff h.e).2 h.f]
  rfl
theorem lt_irr{a b:StT}(h:StLt a b):¬StLt b a:=by unfold StLt at *;omega
theorem stCmp_lt{a b:StT}(h:StLt a b):Dd (stCmp a b<0)=true:=by
 rw[stCmp_eq]
 rcases stCmp8_cases a b with ⟨_,e⟩|⟨h1,_⟩|⟨h1,_⟩
 ·rw[e];rfl
 ·exact absurd h h1
 ·exact absurd h1 (lt_irr h)
theorem stEq_iff{a b:StT}:stEq a b=true ↔ a=b:=by
 cases a;cases b
 simp[stEq]
theorem bne_not{e:Int}(h:(e != 0)=true):(e==0)=false:=by simpa using h
theorem joR_len{a b y:List EntT}(h:joR a b=some y):y.length≤a.length+b.length:=by
 unfold joR at h
 cases hg:joG (a.length+b.length) a b [] with
 | none=>rw[hg] at h;cases h
 | some z =>
  rw[hg] at h
  simp only at h
  cases hf:fitB z with
  | false=>rw[hf] at h;cases h
  | true =>
   rw[hf] at h
   cases h
   have:=(joG_mem _ _ _ _ _ hg).2
   simp only[List.length_nil] at this
   omega
abbrev meH:List Blk:=[.var [int 0]]
abbrev meT(L M:List (List Dp)):List D:=mkT 16 0 [(0,rowsD' L),(1,rowsD' M),(4,nq),(5,.ref (.ptr 0 0))]
theorem me_ok{L M y:List (List Dp)}(hck:∀h,Ev Tryz.prog Γq 12 [rowsD' L] h (int 0) h)(hcm:∀h,Ev Tryz.prog Γq 12 [rowsD' M] h (int 0) h)(hjo:∀h,Ev Tryz.prog Γ0 33 [rowsD' L,rowsD' M] h (rowsD' y) h):(CW Tryz.prog Γq meH false (cR (cR (bodyC Tryz.f20))) {t:=meT L M,h:=meH,m:=[]} .ret {t:=mkT 16 0 [(4,rowsD' y),(5,.ref (.ptr 0 0))],h:=meH,m:=[]}):=by
 exact CW.cast (CW.symX (s':={t:=mkT 16 0 [(4,rowsD' y),(5,.ref (.ptr 0 0))],h:=[.var [int 0]],m:=[]}) (e:=Exit.ret) pok [.st (.mask [4,5])] [.val (int 0),.val (D.tup []),.val (int 0),.val (D.tup []),.val (rowsD' y)] (by kernel_rfl) (.c (@hck ([.var [int 0]])) (.c (Ev.glob0 (Γ':=Γq) (@try0_ev ([.var [int 0]]))) (.c (@hcm ([.var [int 0]])) (.c (Ev.glob0 (Γ':=Γq) (@try0_ev ([.var [int 0]]))) (.c (Ev.glob0 (Γ':=Γq) (@hjo ([.var [int 0]]))) .n)))))) (by rfl) (by rfl)
theorem f20_code:bodyC Tryz.f20=.seq (.region (idOf (cL (bodyC Tryz.f20))) (regOps (cL (bodyC Tryz.f20))) false) (.seq (.region (idOf (cL (cR (bodyC Tryz.f20)))) (regOps (cL (cR (bodyC Tryz.f20)))) false) (cR (cR (bodyC Tryz.f20)))):=by kernel_rfl
abbrev m1T(L M:List (List Dp)):List D:=mkT 16 0 [(0,rowsD' L),(1,rowsD' M),(4,nq),(5,.ref (.ptr 0 0)),(6,.fn (.func 38) [] [.ref (.ptr 0 0)])]
theorem merge_top{L M:List (List Dp)}{e:Exit}{s':AS}(hrest:CW Tryz.prog Γq meH false (cR (cR (bodyC Tryz.f20))) {t:=meT L M,h:=meH,m:=[]} e s'):
  TopW Tryz.prog Γq (bodyC Tryz.f20) {t:=entryT Tryz.f20 [rowsD' L,rowsD' M],h:=[],m:=[]} e s' (some (38,[.ref (.ptr 0 0)])):=by
 rw[f20_code]
 refine TopW.seq (s1:={t:=meT L M,h:=meH,m:=[]}) (fun X=>VW.regionX (t':=meT L M) (h':=meH) (e:=.normal) noCall_ok (by kernel_rfl) ⟨rfl,rfl⟩) ?_
 exact TopW.deferH (os:=(regOps (cL (cR (bodyC Tryz.f20)))).toList.dropLast) (o:=lastOp (regOps (cL (cR (bodyC Tryz.f20)))).toList) (fv:=.tmp 6) (args:=#[]) (ats:=#[]) (t1:=m1T L M) (h1:=meH) (f:=38) (fi:=[]) (ca:=[.ref (.ptr 0 0)]) pok noCall_ok (by kernel_rfl) (by kernel_rfl) (by kernel_rfl) (by kernel_rfl) rfl (by kernel_rfl) (by kernel_rfl) (CW.pre [0,1,4,5] hrest)
noncomputable abbrev m2C:Code:=cR (cR (bodyC Tryz.f20))
noncomputable abbrev m2O:Array Oper:=regOps (cL m2C)
noncomputable abbrev m3C:Code:=cR m2C
noncomputable abbrev m3O:Array Oper:=regOps (cL m3C)
noncomputable abbrev m4C:Code:=cR m3C
noncomputable abbrev m4O:Array Oper:=regOps (cL m4C)
theorem m2_code:m2C=.seq (.region (idOf (cL m2C)) m2O false) m3C:=by kernel_rfl
theorem m3_code:m3C=.seq (.region (idOf (cL m3C)) m3O false) m4C:=by kernel_rfl
theorem m4_code:m4C=.seq (.region (idOf (cL m4C)) m4O false) (cR m4C):=by kernel_rfl
abbrev m2T(L M:List (List Dp))(e:Int):List D:=mkT 16 0 [(0,rowsD' L),(1,rowsD' M),(4,nq),(5,.ref (.ptr 0 0)),(7,rowsD' L),(8,int e)]
abbrev m3T(L M:List (List Dp))(e:Int):List D:=mkT 16 0 [(0,rowsD' L),(1,rowsD' M),(4,nq),(5,.ref (.ptr 0 0)),(10,rowsD' M),(11,int e)]
abbrev m4T(L M:List (List Dp)):List D:=mkT 16 0 [(0,rowsD' L),(1,rowsD' M),(4,nq),(5,.ref (.ptr 0 0)),(13,rowsD' L),(14,rowsD' M)]
theorem m2_pan{L M:List (List Dp)}{e:Int}(he:(e==0)=false)(hck:∀h,Ev Tryz.prog Γq 12 [rowsD' L] h (int e) h):CW Tryz.prog Γq meH false m2C {t:=meT L M,h:=meH,m:=[]} (.panic (dmC e)) {t:=m2T L M e,h:=meH,m:=[]}:=by
 rw[m2_code]
 refine CW.out (by simp) (CW.symPan (os1:=m2O.toList.take 2) (rest:=[]) (o:=opN m2O 2) (fv:=opFv (opN m2O 2)) (args:=opArgs (opN m2O 2)) (ats:=opAts (opN m2O 2)) (h1:=meH) (φ:=[Ev Tryz.prog Γq 12 [rowsD' L] meH (int e) meH]) pok (I:=noI) (fun _ _ _ _ _ _ _ _ h=>by simp[noI] at h) [.val (int e)] (by kernel_rfl) rfl (by kernel_rfl) ⟨hck _,trivial⟩ (by kernel_rfl) (by kernel_rfl) ?_ rfl)
 have e1:evalD Γq (m2T L M e) (opFv (opN m2O 2))=.p (.v (.func (.func 32) #[] #[])):=by kernel_rfl
 have e2:(opArgs (opN m2O 2)).toList.map (evalD Γq (m2T L M e))=[int e]:=by kernel_rfl
 rw[e1,e2]
 exact VInvP.of_call pok (f:=32) (fi:=[]) (ca:=[]) rfl (by kernel_rfl) (try_pan e he _).glob0
theorem m3_pan{L M:List (List Dp)}{e:Int}(he:(e==0)=false)(hck:∀h,Ev Tryz.prog Γq 12 [rowsD' M] h (int e) h):CW Tryz.prog Γq meH false m3C {t:=meT L M,h:=meH,m:=[]} (.panic (dmC e)) {t:=m3T L M e,h:=meH,m:=[]}:=by
 rw[m3_code]
 refine CW.out (by simp) (CW.symPan (os1:=m3O.toList.take 2) (rest:=[]) (o:=opN m3O 2) (fv:=opFv (opN m3O 2)) (args:=opArgs (opN m3O 2)) (ats:=opAts (opN m3O 2)) (h1:=meH) (φ:=[Ev Tryz.prog Γq 12 [rowsD' M] meH (int e) meH]) pok (I:=noI) (fun _ _ _ _ _ _ _ _ h=>by simp[noI] at h) [.val (int e)] (by kernel_rfl) rfl (by kernel_rfl) ⟨hck _,trivial⟩ (by kernel_rfl) (by kernel_rfl) ?_ rfl)
 have e1:evalD Γq (m3T L M e) (opFv (opN m3O 2))=.p (.v (.func (.func 32) #[] #[])):=by kernel_rfl
 have e2:(opArgs (opN m3O 2)).toList.map (evalD Γq (m3T L M e))=[int e]:=by kernel_rfl
 rw[e1,e2]
 exact VInvP.of_call pok (f:=32) (fi:=[]) (ca:=[]) rfl (by kernel_rfl) (try_pan e he _).glob0
theorem m2_ok{L M:List (List Dp)}(hck:∀h,Ev Tryz.prog Γq 12 [rowsD' L] h (int 0) h):(CW Tryz.prog Γq meH false (cL (cR (cR (bodyC Tryz.f20)))) {t:=meT L M,h:=meH,m:=[]} .normal {t:=meT L M,h:=meH,m:=[]}):=by
 exact CW.cast (CW.symX (s':={t:=mkT 16 0 [(0,rowsD' L),(1,rowsD' M),(4,nq),(5,.ref (.ptr 0 0))],h:=[.var [int 0]],m:=[]}) (e:=Exit.normal) pok [.st (.mask [0,1,4,5])] [.val (int 0),.val (D.tup [])] (by kernel_rfl) (.c (@hck ([.var [int 0]])) (.c (Ev.glob0 (Γ':=Γq) (@try0_ev ([.var [int 0]]))) .n))) (by rfl) (by rfl)
theorem m3_ok{L M:List (List Dp)}(hck:∀h,Ev Tryz.prog Γq 12 [rowsD' M] h (int 0) h):(CW Tryz.prog Γq meH false (cL (cR (cR (cR (bodyC Tryz.f20))))) {t:=meT L M,h:=meH,m:=[]} .normal {t:=meT L M,h:=meH,m:=[]}):=by
 exact CW.cast (CW.symX (s':={t:=mkT 16 0 [(0,rowsD' L),(1,rowsD' M),(4,nq),(5,.ref (.ptr 0 0))],h:=[.var [int 0]],m:=[]}) (e:=Exit.normal) pok [.st (.mask [0,1,4,5])] [.val (int 0),.val (D.tup [])] (by kernel_rfl) (.c (@hck ([.var [int 0]])) (.c (Ev.glob0 (Γ':=Γq) (@try0_ev ([.var [int 0]]))) .n))) (by rfl) (by rfl)
theorem m4_pan{L M:List (List Dp)}(hjo:VPan Tryz.prog Γ0 33 [rowsD' L,rowsD' M] [] fun c h'=>c=dmC 390∧h'=[]):CW Tryz.prog Γq meH false m4C {t:=meT L M,h:=meH,m:=[]} (.panic (dmC 390)) {t:=m4T L M,h:=meH,m:=[]}:=by
 rw[m4_code]
 refine CW.out (by simp) (CW.symPan (os1:=m4O.toList.take 2) (rest:=m4O.toList.drop 3) (o:=opN m4O 2) (fv:=opFv (opN m4O 2)) (args:=opArgs (opN m4O 2)) (ats:=opAts (opN m4O 2)) (h1:=meH) (φ:=[]) pok (I:=noI) (fun _ _ _ _ _ _ _ _ h=>by simp[noI] at h) [] (by kernel_rfl) rfl (by kernel_rfl) trivial (by kernel_rfl) (by kernel_rfl) ?_ rfl)
 have e1:evalD Γq (m4T L M) (opFv (opN m4O 2))=.p (.v (.func (.func 33) #[] #[])):=by kernel_rfl
 have e2:(opArgs (opN m4O 2)).toList.map (evalD Γq (m4T L M))=[rowsD' L,rowsD' M]:=by kernel_rfl
 rw[e1,e2]
 refine VInvP.of_call pok (f:=33) (fi:=[]) (ca:=[]) rfl (by kernel_rfl) ?_
 exact VPan.frzArgs (args:=[rowsD' L,rowsD' M]) (h:=meH) (by rfl) hjo.glob0
theorem me_end{y:List (List Dp)}:topEnd Tryz.prog Tryz.f20 (runDfO Tryz.prog Γq noW 100) 0 .ret {t:=mkT 16 0 [(4,rowsD' y),(5,.ref (.ptr 0 0))],h:=meH,m:=[]} (some (38,[.ref (.ptr 0 0)]))=some (.ret (.tup [rowsD' y,int 0]) []):=by kernel_rfl
theorem me_end2{L M:List (List Dp)}{e:Int}:topEnd Tryz.prog Tryz.f20 (runDfO Tryz.prog Γq noW 100) 0 (.panic (dmC e)) {t:=m2T L M e,h:=meH,m:=[]} (some (38,[.ref (.ptr 0 0)]))=some (.ret (.tup [nq,int e]) []):=by kernel_rfl
theorem me_end3{L M:List (List Dp)}{e:Int}:topEnd Tryz.prog Tryz.f20 (runDfO Tryz.prog Γq noW 100) 0 (.panic (dmC e)) {t:=m3T L M e,h:=meH,m:=[]} (some (38,[.ref (.ptr 0 0)]))=some (.ret (.tup [nq,int e]) []):=by kernel_rfl
theorem me_end4{L M:List (List Dp)}:topEnd Tryz.prog Tryz.f20 (runDfO Tryz.prog Γq noW 100) 0 (.panic (dmC 390)) {t:=m4T L M,h:=meH,m:=[]} (some (38,[.ref (.ptr 0 0)]))=some (.ret (.tup [nq,int 390]) []):=by kernel_rfl
theorem me_of{L M:List (List Dp)}{e:Exit}{s':AS}{d:D}(hrest:CW Tryz.prog Γq meH false (cR (cR (bodyC Tryz.f20))) {t:=meT L M,h:=meH,m:=[]} e s')(hend:topEnd Tryz.prog Tryz.f20 (runDfO Tryz.prog Γq noW 100) 0 e s' (some (38,[.ref (.ptr 0 0)]))=some (.ret d [])):Ev Tryz.prog Γq 20 [rowsD' L,rowsD' M] [] d [] :=
 (VRes.of_top (f:=20) (args:=[rowsD' L,rowsD' M]) (dfn:=runDfO Tryz.prog Γq noW 100) (h:=[]) (r:=.ret d []) (fn:=Tryz.f20) (c:=bodyC Tryz.f20) pok rfl rfl dfn_ok (merge_top hrest) hend).call
def meR(a b:List EntT):List EntT×Int:=match ledErr a != 0 with
 | true=>([],ledErr a)
 | false=>match ledErr b != 0 with
  | true=>([],ledErr b)
  | false=>match joR a b with
   | none=>([],390)
   | some y=>(y,0)
theorem joOk_of2{a b:List EntT}(ha:ledErr a=0)(hb:ledErr b=0)(hs:a.length+b.length≤60000)(oa:∀e∈a,e.ok)(ob:∀e∈b,e.ok):JoOk a b :=
 ⟨hs,oa,ob,fun e he=>(ent_in ((led_iff.1 ha).e e he)).2.1,fun e he=>(ent_in ((led_iff.1 hb).e e he)).2.1⟩
theorem merge_ev{a b:List EntT}(hs:a.length+b.length≤60000)(oa:∀e∈a,e.ok)(ob:∀e∈b,e.ok)(h:List Blk):Ev Tryz.prog Γq 20 [rowsD' (a.map EntT.row),rowsD' (b.map EntT.row)] h (.tup [rowsD' ((meR a b).1.map EntT.row),int (meR a b).2]) h:=by
 have hca:=fun h=>led_ev (l:=a) (show a.length≤_ by omega) oa h
 have hcb:=fun h=>led_ev (l:=b) (show b.length≤_ by omega) ob h
 unfold meR
 cases h1:ledErr a != 0 with
 | true =>
  have e1:=Ev.nilW (me_of (m2_pan (M:=b.map EntT.row) (bne_not h1) hca) me_end2)
  exact Ev.frame0 rfl e1 h
 | false =>
  have h10:ledErr a=0:=by simpa using h1
  rw[h10] at hca
  cases h2:ledErr b != 0 with
  | true =>
   have hr:CW Tryz.prog Γq meH false (cR (cR (bodyC Tryz.f20))) {t:=meT (a.map EntT.row) (b.map EntT.row),h:=meH,m:=[]} (.panic (dmC (ledErr b))) {t:=m3T (a.map EntT.row) (b.map EntT.row) (ledErr b),h:=meH,m:=[]}:=by
    show CW _ _ _ _ m2C _ _ _
    rw[m2_code]
    exact CW.seq (m2_ok hca) (m3_pan (bne_not h2) hcb)
   have e1:=Ev.nilW (me_of hr me_end3)
   exact Ev.frame0 rfl e1 h
  | false =>
   have h20:ledErr b=0:=by simpa using h2
   rw[h20] at hcb
   have J:=joOk_of2 h10 h20 hs oa ob
   simp only
   cases h3:joR a b with
   | none =>
    have hr:CW Tryz.prog Γq meH false (cR (cR (bodyC Tryz.f20))) {t:=meT (a.map EntT.row) (b.map EntT.row),h:=meH,m:=[]} (.panic (dmC 390)) {t:=m4T (a.map EntT.row) (b.map EntT.row),h:=meH,m:=[]}:=by
     show CW _ _ _ _ m2C _ _ _
     rw[m2_code]
     refine CW.seq (m2_ok hca) ?_
     rw[m3_code]
     exact CW.seq (m3_ok hcb) (m4_pan (joX_pan J h3))
    have e1:=Ev.nilW (me_of hr me_end4)
    exact Ev.frame0 rfl e1 h
   | some y=>exact Ev.frame0 rfl (me_of (me_ok hca hcb (fun h=>joX_ok J h3 h)) me_end) h
end Go.Vi
