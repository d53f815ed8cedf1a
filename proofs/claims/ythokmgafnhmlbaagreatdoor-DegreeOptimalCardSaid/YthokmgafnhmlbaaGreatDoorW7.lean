/- DegreeOptimal: part of the proof: contracts of the functions that the law reaches, and the law. No conditions beyond the given statement's own. -/
import Derived.Test.YthokmgafnhmlbaaGreatDoorW6
import Derived.Test.YthokmgafnhmlbaaGreatDoorCards
import Derived.Test.YthokmgafnhmlbaaGreatDoorTie
import Derived.WalkKit
import Derived.ProofKit
import Derived.OpenShut
import Derived.Deep.DeepHandedRow
import Derived.Lib.LaidTab
open Decidable renaming decide → Dd
open Go Go.Proofs
namespace Go.Vi
set_option maxRecDepth 100000
set_option maxHeartbeats 4000000
noncomputable abbrev b0X(p:ProgT):AS:={t:=mkT 185 0 [(6,bool false)],h:=[.var p.l],m:=[]}
theorem b0_a1{p:ProgT}{l:List AttT}{us:List UseT}{u:UseT}{i:Nat}(hr:RowAt (i:Int) (us.map UseT.row) u.row 3)(hlt:Dd ((i:Int)<((us.map UseT.row).length:Int))=true)(h1:Dd (u.att<0)=true):(CW Tryz.prog Γ0 [] false (sub Tryz.f22 0) (b0S p l us (i:Int)) .ret (b0X p)):=by
 exact CW.cast (CW.symX (s':={t:=mkT 185 0 [(6,bool false)],h:=[.var [strD p.nm,int p.number,int p.uses,int p.earn,int p.num,int p.den,rowsD' (List.map ReqT.row p.reqs)]],m:=[]}) (e:=Exit.ret) pok [.st (.mask [6]),.st (.trim 1)] [.b true,.row [vi u.att,vi u.req,vi u.cr],.g false,.g false,.g false,.g false,.g false,.ov 34 (bool true),.g false,.g false,.g false,.ov 39 (bool true),.g false,.g false,.g false,.g false,.g false,.g false,.ov 47 (bool true),.g false,.g false,.g false,.ov 52 (bool true),.g false,.g false,.g false,.g false,.g false,.g false,.g false,.g false,.g false,.ov 63 (bool true),.g false,.g false,.g false,.g false,.g false,.g false,.g false,.g false,.g false,.g false,.g false,.g false,.g false,.ov 78 (bool true),.b true] (by kernel_rfl) (.c hlt (.c hr (.c (show(Dd (u.att<0)==false)=false from(by rw[h1]<;>rfl)) (.c (show(Dd (u.att<0)==false)=false from(by rw[h1]<;>rfl)) (.c (show(Dd (u.att<0)==false)=false from(by rw[h1]<;>rfl)) (.c (show(Dd (u.att<0)==false)=false from(by rw[h1]<;>rfl)) (.c (show(Dd (u.att<0)==false)=false from(by rw[h1]<;>rfl)) (.c (show PickIs (bool (Dd (u.att<0))) (bool true) (D.p (Dp.v (Value.tuple {toList:=[]}))) (bool true) from(pickIs_t h1 rfl)) (.c (show(true==false)=false from rfl) (.c (show(true==false)=false from rfl) (.c (show(true==false)=false from rfl) (.c (show PickIs (bool true) (bool true) (D.p (Dp.v (Value.tuple {toList:=[]}))) (bool true) from(pickIs_t rfl rfl)) (.c (show(true==false)=false from rfl) (.c (show(true==false)=false from rfl) (.c (show(true==false)=false from rfl) (.c (show(true==false)=false from rfl) (.c (show(true==false)=false from rfl) (.c (show(true==false)=false from rfl) (.c (show PickIs (bool true) (bool true) (D.p (Dp.v (Value.tuple {toList:=[]}))) (bool true) from(pickIs_t rfl rfl)) (.c (show(true==false)=false from rfl) (.c (show(true==false)=false from rfl) (.c (show(true==false)=false from rfl) (.c (show PickIs (bool true) (bool true) (D.p (Dp.v (Value.tuple {toList:=[]}))) (bool true) from(pickIs_t rfl rfl)) (.c (show(true==false)=false from rfl) (.c (show(true==false)=false from rfl) (.c (show(true==false)=false from rfl) (.c (show(true==false)=false from rfl) (.c (show(true==false)=false from rfl) (.c (show(true==false)=false from rfl) (.c (show(true==false)=false from rfl) (.c (show(true==false)=false from rfl) (.c (show(true==false)=false from rfl) (.c (show PickIs (bool true) (bool true) (D.p (Dp.v (Value.tuple {toList:=[]}))) (bool true) from(pickIs_t rfl rfl)) (.c (show(true==false)=false from rfl) (.c (show(true==false)=false from rfl) (.c (show(true==false)=false from rfl) (.c (show(true==false)=false from rfl) (.c (show(true==false)=false from rfl) (.c (show(true==false)=false from rfl) (.c (show(true==false)=false from rfl) (.c (show(true==false)=false from rfl) (.c (show(true==false)=false from rfl) (.c (show(true==false)=false from rfl) (.c (show(true==false)=false from rfl) (.c (show(true==false)=false from rfl) (.c (show(true==false)=false from rfl) (.c (show PickIs (bool true) (bool true) (D.p (Dp.v (Value.tuple {toList:=[]}))) (bool true) from(pickIs_t rfl rfl)) (.c (show true=true from rfl) .n))))))))))))))))))))))))))))))))))))))))))))))))) (by rfl) (by rfl)
theorem b0_a2{p:ProgT}{l:List AttT}{us:List UseT}{u:UseT}{i:Nat}(hr:RowAt (i:Int) (us.map UseT.row) u.row 3)(hlt:Dd ((i:Int)<((us.map UseT.row).length:Int))=true)(h1:Dd (u.att<0)=false)(h2:Dd (u.att≥((l.map AttT.row).length:Int))=true):(CW Tryz.prog Γ0 [] false (sub Tryz.f22 0) (b0S p l us (i:Int)) .ret (b0X p)):=by
 exact CW.cast (CW.symX (s':={t:=mkT 185 0 [(6,bool false)],h:=[.var [strD p.nm,int p.number,int p.uses,int p.earn,int p.num,int p.den,rowsD' (List.map ReqT.row p.reqs)]],m:=[]}) (e:=Exit.ret) pok [.st (.mask [6]),.st (.trim 1)] [.b true,.row [vi u.att,vi u.req,vi u.cr],.g true,.g true,.g true,.g true,.g true,.ov 34 (bool (Dd (u.att≥(↑(List.length (List.map AttT.row l)):Int)))),.g false,.g false,.g false,.ov 39 (bool true),.g false,.g false,.g false,.g false,.g false,.g false,.ov 47 (bool true),.g false,.g false,.g false,.ov 52 (bool true),.g false,.g false,.g false,.g false,.g false,.g false,.g false,.g false,.g false,.ov 63 (bool true),.g false,.g false,.g false,.g false,.g false,.g false,.g false,.g false,.g false,.g false,.g false,.g false,.g false,.ov 78 (bool true),.b true] (by kernel_rfl) (.c hlt (.c hr (.c (show(Dd (u.att<0)==false)=true from(by rw[h1]<;>rfl)) (.c (show(Dd (u.att<0)==false)=true from(by rw[h1]<;>rfl)) (.c (show(Dd (u.att<0)==false)=true from(by rw[h1]<;>rfl)) (.c (show(Dd (u.att<0)==false)=true from(by rw[h1]<;>rfl)) (.c (show(Dd (u.att<0)==false)=true from(by rw[h1]<;>rfl)) (.c (show PickIs (bool (Dd (u.att<0))) (bool true) (bool (Dd (u.att≥(↑(List.length (List.map AttT.row l)):Int)))) (bool (Dd (u.att≥(↑(List.length (List.map AttT.row l)):Int)))) from(pickIs_f h1 rfl)) (.c (show(Dd (u.att≥(↑(List.length (List.map AttT.row l)):Int))==false)=false from(by rw[h2]<;>rfl)) (.c (show(Dd (u.att≥(↑(List.length (List.map AttT.row l)):Int))==false)=false from(by rw[h2]<;>rfl)) (.c (show(Dd (u.att≥(↑(List.length (List.map AttT.row l)):Int))==false)=false from(by rw[h2]<;>rfl)) (.c (show PickIs (bool (Dd (u.att≥(↑(List.length (List.map AttT.row l)):Int)))) (bool true) (D.p (Dp.v (Value.tuple {toList:=[]}))) (bool true) from(pickIs_t h2 rfl)) (.c (show(true==false)=false from rfl) (.c (show(true==false)=false from rfl) (.c (show(true==false)=false from rfl) (.c (show(true==false)=false from rfl) (.c (show(true==false)=false from rfl) (.c (show(true==false)=false from rfl) (.c (show PickIs (bool true) (bool true) (D.p (Dp.v (Value.tuple {toList:=[]}))) (bool true) from(pickIs_t rfl rfl)) (.c (show(true==false)=false from rfl) (.c (show(true==false)=false from rfl) (.c (show(true==false)=false from rfl) (.c (show PickIs (bool true) (bool true) (D.p (Dp.v (Value.tuple {toList:=[]}))) (bool true) from(pickIs_t rfl rfl)) (.c (show(true==false)=false from rfl) (.c (show(true==false)=false from rfl) (.c (show(true==false)=false from rfl) (.c (show(true==false)=false from rfl) (.c (show(true==false)=false from rfl) (.c (show(true==false)=false from rfl) (.c (show(true==false)=false from rfl) (.c (show(true==false)=false from rfl) (.c (show(true==false)=false from rfl) (.c (show PickIs (bool true) (bool true) (D.p (Dp.v (Value.tuple {toList:=[]}))) (bool true) from(pickIs_t rfl rfl)) (.c (show(true==false)=false from rfl) (.c (show(true==false)=false from rfl) (.c (show(true==false)=false from rfl) (.c (show(true==false)=false from rfl) (.c (show(true==false)=false from rfl) (.c (show(true==false)=false from rfl) (.c (show(true==false)=false from rfl) (.c (show(true==false)=false from rfl) (.c (show(true==false)=false from rfl) (.c (show(true==false)=false from rfl) (.c (show(true==false)=false from rfl) (.c (show(true==false)=false from rfl) (.c (show(true==false)=false from rfl) (.c (show PickIs (bool true) (bool true) (D.p (Dp.v (Value.tuple {toList:=[]}))) (bool true) from(pickIs_t rfl rfl)) (.c (show true=true from rfl) .n))))))))))))))))))))))))))))))))))))))))))))))))) (by rfl) (by rfl)
theorem b0_q1{p:ProgT}{l:List AttT}{us:List UseT}{u:UseT}{i:Nat}(hr:RowAt (i:Int) (us.map UseT.row) u.row 3)(hlt:Dd ((i:Int)<((us.map UseT.row).length:Int))=true)(h1:Dd (u.att<0)=false)(h2:Dd (u.att≥((l.map AttT.row).length:Int))=false)(h3:Dd (u.req<0)=true):(CW Tryz.prog Γ0 [] false (sub Tryz.f22 0) (b0S p l us (i:Int)) .ret (b0X p)):=by
 exact CW.cast (CW.symX (s':={t:=mkT 185 0 [(6,bool false)],h:=[.var [strD p.nm,int p.number,int p.uses,int p.earn,int p.num,int p.den,rowsD' (List.map ReqT.row p.reqs)]],m:=[]}) (e:=Exit.ret) pok [.st (.mask [6]),.st (.trim 1)] [.b true,.row [vi u.att,vi u.req,vi u.cr],.g true,.g true,.g true,.g true,.g true,.ov 34 (bool (Dd (u.att≥(↑(List.length (List.map AttT.row l)):Int)))),.g true,.g true,.g true,.ov 39 (bool (Dd (u.req<0))),.g false,.g false,.g false,.g false,.g false,.g false,.ov 47 (bool true),.g false,.g false,.g false,.ov 52 (bool true),.g false,.g false,.g false,.g false,.g false,.g false,.g false,.g false,.g false,.ov 63 (bool true),.g false,.g false,.g false,.g false,.g false,.g false,.g false,.g false,.g false,.g false,.g false,.g false,.g false,.ov 78 (bool true),.b true] (by kernel_rfl) (.c hlt (.c hr (.c (show(Dd (u.att<0)==false)=true from(by rw[h1]<;>rfl)) (.c (show(Dd (u.att<0)==false)=true from(by rw[h1]<;>rfl)) (.c (show(Dd (u.att<0)==false)=true from(by rw[h1]<;>rfl)) (.c (show(Dd (u.att<0)==false)=true from(by rw[h1]<;>rfl)) (.c (show(Dd (u.att<0)==false)=true from(by rw[h1]<;>rfl)) (.c (show PickIs (bool (Dd (u.att<0))) (bool true) (bool (Dd (u.att≥(↑(List.length (List.map AttT.row l)):Int)))) (bool (Dd (u.att≥(↑(List.length (List.map AttT.row l)):Int)))) from(pickIs_f h1 rfl)) (.c (show(Dd (u.att≥(↑(List.length (List.map AttT.row l)):Int))==false)=true from(by rw[h2]<;>rfl)) (.c (show(Dd (u.att≥(↑(List.length (List.map AttT.row l)):Int))==false)=true from(by rw[h2]<;>rfl)) (.c (show(Dd (u.att≥(↑(List.length (List.map AttT.row l)):Int))==false)=true from(by rw[h2]<;>rfl)) (.c (show PickIs (bool (Dd (u.att≥(↑(List.length (List.map AttT.row l)):Int)))) (bool true) (bool (Dd (u.req<0))) (bool (Dd (u.req<0))) from(pickIs_f h2 rfl)) (.c (show(Dd (u.req<0)==false)=false from(by rw[h3]<;>rfl)) (.c (show(Dd (u.req<0)==false)=false from(by rw[h3]<;>rfl)) (.c (show(Dd (u.req<0)==false)=false from(by rw[h3]<;>rfl)) (.c (show(Dd (u.req<0)==false)=false from(by rw[h3]<;>rfl)) (.c (show(Dd (u.req<0)==false)=false from(by rw[h3]<;>rfl)) (.c (show(Dd (u.req<0)==false)=false from(by rw[h3]<;>rfl)) (.c (show PickIs (bool (Dd (u.req<0))) (bool true) (D.p (Dp.v (Value.tuple {toList:=[]}))) (bool true) from(pickIs_t h3 rfl)) (.c (show(true==false)=false from rfl) (.c (show(true==false)=false from rfl) (.c (show(true==false)=false from rfl) (.c (show PickIs (bool true) (bool true) (D.p (Dp.v (Value.tuple {toList:=[]}))) (bool true) from(pickIs_t rfl rfl)) (.c (show(true==false)=false from rfl) (.c (show(true==false)=false from rfl) (.c (show(true==false)=false from rfl) (.c (show(true==false)=false from rfl) (.c (show(true==false)=false from rfl) (.c (show(true==false)=false from rfl) (.c (show(true==false)=false from rfl) (.c (show(true==false)=false from rfl) (.c (show(true==false)=false from rfl) (.c (show PickIs (bool true) (bool true) (D.p (Dp.v (Value.tuple {toList:=[]}))) (bool true) from(pickIs_t rfl rfl)) (.c (show(true==false)=false from rfl) (.c (show(true==false)=false from rfl) (.c (show(true==false)=false from rfl) (.c (show(true==false)=false from rfl) (.c (show(true==false)=false from rfl) (.c (show(true==false)=false from rfl) (.c (show(true==false)=false from rfl) (.c (show(true==false)=false from rfl) (.c (show(true==false)=false from rfl) (.c (show(true==false)=false from rfl) (.c (show(true==false)=false from rfl) (.c (show(true==false)=false from rfl) (.c (show(true==false)=false from rfl) (.c (show PickIs (bool true) (bool true) (D.p (Dp.v (Value.tuple {toList:=[]}))) (bool true) from(pickIs_t rfl rfl)) (.c (show true=true from rfl) .n))))))))))))))))))))))))))))))))))))))))))))))))) (by rfl) (by rfl)
theorem b0_q2{p:ProgT}{l:List AttT}{us:List UseT}{u:UseT}{i:Nat}(hr:RowAt (i:Int) (us.map UseT.row) u.row 3)(hlt:Dd ((i:Int)<((us.map UseT.row).length:Int))=true)(h1:Dd (u.att<0)=false)(h2:Dd (u.att≥((l.map AttT.row).length:Int))=false)(h3:Dd (u.req<0)=false)(h4:Dd (u.req≥((p.reqs.map ReqT.row).length:Int))=true):(CW Tryz.prog Γ0 [] false (sub Tryz.f22 0) (b0S p l us (i:Int)) .ret (b0X p)):=by
 exact CW.cast (CW.symX (s':={t:=mkT 185 0 [(6,bool false)],h:=[.var [strD p.nm,int p.number,int p.uses,int p.earn,int p.num,int p.den,rowsD' (List.map ReqT.row p.reqs)]],m:=[]}) (e:=Exit.ret) pok [.st (.mask [6]),.st (.trim 1)] [.b true,.row [vi u.att,vi u.req,vi u.cr],.g true,.g true,.g true,.g true,.g true,.ov 34 (bool (Dd (u.att≥(↑(List.length (List.map AttT.row l)):Int)))),.g true,.g true,.g true,.ov 39 (bool (Dd (u.req<0))),.g true,.g true,.g true,.g true,.g true,.g true,.ov 47 (bool (Dd (u.req≥(↑(List.length (List.map ReqT.row p.reqs)):Int)))),.g false,.g false,.g false,.ov 52 (bool true),.g false,.g false,.g false,.g false,.g false,.g false,.g false,.g false,.g false,.ov 63 (bool true),.g false,.g false,.g false,.g false,.g false,.g false,.g false,.g false,.g false,.g false,.g false,.g false,.g false,.ov 78 (bool true),.b true] (by kernel_rfl) (.c hlt (.c hr (.c (show(Dd (u.att<0)==false)=true from(by rw[h1]<;>rfl)) (.c (show(Dd (u.att<0)==false)=true from(by rw[h1]<;>rfl)) (.c (show(Dd (u.att<0)==false)=true from(by rw[h1]<;>rfl)) (.c (show(Dd (u.att<0)==false)=true from(by rw[h1]<;>rfl)) (.c (show(Dd (u.att<0)==false)=true from(by rw[h1]<;>rfl)) (.c (show PickIs (bool (Dd (u.att<0))) (bool true) (bool (Dd (u.att≥(↑(List.length (List.map AttT.row l)):Int)))) (bool (Dd (u.att≥(↑(List.length (List.map AttT.row l)):Int)))) from(pickIs_f h1 rfl)) (.c (show(Dd (u.att≥(↑(List.length (List.map AttT.row l)):Int))==false)=true from(by rw[h2]<;>rfl)) (.c (show(Dd (u.att≥(↑(List.length (List.map AttT.row l)):Int))==false)=true from(by rw[h2]<;>rfl)) (.c (show(Dd (u.att≥(↑(List.length (List.map AttT.row l)):Int))==false)=true from(by rw[h2]<;>rfl)) (.c (show PickIs (bool (Dd (u.att≥(↑(List.length (List.map AttT.row l)):Int)))) (bool true) (bool (Dd (u.req<0))) (bool (Dd (u.req<0))) from(pickIs_f h2 rfl)) (.c (show(Dd (u.req<0)==false)=true from(by rw[h3]<;>rfl)) (.c (show(Dd (u.req<0)==false)=true from(by rw[h3]<;>rfl)) (.c (show(Dd (u.req<0)==false)=true from(by rw[h3]<;>rfl)) (.c (show(Dd (u.req<0)==false)=true from(by rw[h3]<;>rfl)) (.c (show(Dd (u.req<0)==false)=true from(by rw[h3]<;>rfl)) (.c (show(Dd (u.req<0)==false)=true from(by rw[h3]<;>rfl)) (.c (show PickIs (bool (Dd (u.req<0))) (bool true) (bool (Dd (u.req≥(↑(List.length (List.map ReqT.row p.reqs)):Int)))) (bool (Dd (u.req≥(↑(List.length (List.map ReqT.row p.reqs)):Int)))) from(pickIs_f h3 rfl)) (.c (show(Dd (u.req≥(↑(List.length (List.map ReqT.row p.reqs)):Int))==false)=false from(by rw[h4]<;>rfl)) (.c (show(Dd (u.req≥(↑(List.length (List.map ReqT.row p.reqs)):Int))==false)=false from(by rw[h4]<;>rfl)) (.c (show(Dd (u.req≥(↑(List.length (List.map ReqT.row p.reqs)):Int))==false)=false from(by rw[h4]<;>rfl)) (.c (show PickIs (bool (Dd (u.req≥(↑(List.length (List.map ReqT.row p.reqs)):Int)))) (bool true) (D.p (Dp.v (Value.tuple {toList:=[]}))) (bool true) from(pickIs_t h4 rfl)) (.c (show(true==false)=false from rfl) (.c (show(true==false)=false from rfl) (.c (show(true==false)=false from rfl) (.c (show(true==false)=false from rfl) (.c (show(true==false)=false from rfl) (.c (show(true==false)=false from rfl) (.c (show(true==false)=false from rfl) (.c (show(true==false)=false from rfl) (.c (show(true==false)=false from rfl) (.c (show PickIs (bool true) (bool true) (D.p (Dp.v (Value.tuple {toList:=[]}))) (bool true) from(pickIs_t rfl rfl)) (.c (show(true==false)=false from rfl) (.c (show(true==false)=false from rfl) (.c (show(true==false)=false from rfl) (.c (show(true==false)=false from rfl) (.c (show(true==false)=false from rfl) (.c (show(true==false)=false from rfl) (.c (show(true==false)=false from rfl) (.c (show(true==false)=false from rfl) (.c (show(true==false)=false from rfl) (.c (show(true==false)=false from rfl) (.c (show(true==false)=false from rfl) (.c (show(true==false)=false from rfl) (.c (show(true==false)=false from rfl) (.c (show PickIs (bool true) (bool true) (D.p (Dp.v (Value.tuple {toList:=[]}))) (bool true) from(pickIs_t rfl rfl)) (.c (show true=true from rfl) .n))))))))))))))))))))))))))))))))))))))))))))))))) (by rfl) (by rfl)
noncomputable abbrev b0_c_x0(p:ProgT)(u:UseT):List Blk:=[.var [strD p.nm,int p.number,int p.uses,int p.earn,int p.num,int p.den,rowsD' (List.map ReqT.row p.reqs)],.var [int u.att,int u.req,int u.cr]]
theorem b0_c{p:ProgT}{l:List AttT}{us:List UseT}{u:UseT}{a:AttT}{q:ReqT}{i:Nat}(hsf:Short q.frm)(hr:RowAt (i:Int) (us.map UseT.row) u.row 3)(hlt:Dd ((i:Int)<((us.map UseT.row).length:Int))=true)(ha:RowAt u.att (l.map AttT.row) a.row 5)(hq:RowAt u.req (p.reqs.map ReqT.row) q.row 6)
  (hg:(Dd (u.att<0)||Dd (u.att≥((l.map AttT.row).length:Int))||Dd (u.req<0)||Dd (u.req≥((p.reqs.map ReqT.row).length:Int))||Dd (u.cr<1)||Dd (u.cr>a.credits)||!elB q a)=true):(CW Tryz.prog Γ0 [] false (sub Tryz.f22 0) (b0S p l us (i:Int)) .ret (b0X p)):=by
 exact CW.cast (CW.symX (s':={t:=mkT 185 0 [(6,bool false)],h:=[.var [strD p.nm,int p.number,int p.uses,int p.earn,int p.num,int p.den,rowsD' (List.map ReqT.row p.reqs)]],m:=[]}) (e:=Exit.ret) pok [.st (.mask [6]),.st (.trim 1)] [.b true,.row [vi u.att,vi u.req,vi u.cr],.row (AttT.row a),.row [vs q.nm,vi q.credits,vi q.grade,Dp.v (Value.bool q.home),Dp.sl q.names,Dp.sl (inR1 q.frm)],.row (AttT.row a),.val (bool (elB q a)),.b true] (by kernel_rfl) (.c hlt (.c hr (.c (show(!(Dd (u.att<0)||Dd (u.att≥(↑(List.length (List.map AttT.row l)):Int))||Dd (u.req<0)||Dd (u.req≥(↑(List.length (List.map ReqT.row p.reqs)):Int))||Dd (u.cr<1)))=true→RowAt u.att (List.map AttT.row l) (AttT.row a) 5 from(fun hg=>ha)) (.c (show(!(Dd (u.att<0)||Dd (u.att≥(↑(List.length (List.map AttT.row l)):Int))||Dd (u.req<0)||Dd (u.req≥(↑(List.length (List.map ReqT.row p.reqs)):Int))||Dd (u.cr<1)||Dd (u.cr>a.credits)))=true→RowAt u.req (List.map ReqT.row p.reqs) [vs q.nm,vi q.credits,vi q.grade,Dp.v (Value.bool q.home),Dp.sl q.names,Dp.sl (inR1 q.frm)] 6 from(fun hg=>hq)) (.c (show(!(Dd (u.att<0)||Dd (u.att≥(↑(List.length (List.map AttT.row l)):Int))||Dd (u.req<0)||Dd (u.req≥(↑(List.length (List.map ReqT.row p.reqs)):Int))||Dd (u.cr<1)||Dd (u.cr>a.credits)))=true→RowAt u.att (List.map AttT.row l) (AttT.row a) 5 from(fun hg=>ha)) (.c (show(!(Dd (u.att<0)||Dd (u.att≥(↑(List.length (List.map AttT.row l)):Int))||Dd (u.req<0)||Dd (u.req≥(↑(List.length (List.map ReqT.row p.reqs)):Int))||Dd (u.cr<1)||Dd (u.cr>a.credits)))=true→Ev Tryz.prog Γ0 35 [D.agg [strD q.nm,int q.credits,int q.grade,bool q.home,rowsD' q.names,rowsD' (inR1 q.frm)],(ag (AttT.row a))] (b0_c_x0 p u) (bool (elB q a)) (b0_c_x0 p u) from(fun hg=>(@fits_ev (q) (a) (hsf) ((b0_c_x0 p u))))) (.c hg .n)))))))) (by rfl) (by rfl)
noncomputable abbrev b0_o_x0(p:ProgT)(u:UseT):List Blk:=[.var [strD p.nm,int p.number,int p.uses,int p.earn,int p.num,int p.den,rowsD' (List.map ReqT.row p.reqs)],.var [int u.att,int u.req,int u.cr]]
theorem b0_o{p:ProgT}{l:List AttT}{us:List UseT}{u:UseT}{a:AttT}{q:ReqT}{w:UseT}{i:Nat}(hsf:Short q.frm)(hr:RowAt (i:Int) (us.map UseT.row) u.row 3)(hlt:Dd ((i:Int)<((us.map UseT.row).length:Int))=true)(ha:RowAt u.att (l.map AttT.row) a.row 5)(hq:RowAt u.req (p.reqs.map ReqT.row) q.row 6)
  (hg:(Dd (u.att<0)||Dd (u.att≥((l.map AttT.row).length:Int))||Dd (u.req<0)||Dd (u.req≥((p.reqs.map ReqT.row).length:Int))||Dd (u.cr<1)||Dd (u.cr>a.credits)||!elB q a)=false) (hi:Dd ((i:Int)>0)=true) (hv:RowAt (IntKind.i64.wrap ((i:Int) - 1)) (us.map UseT.row) w.row 3)
  (hs:(Dd ((i:Int)>0)&&(Dd (w.att>u.att)||w.att==u.att&&Dd (w.req≥u.req)))=true):(CW Tryz.prog Γ0 [] false (sub Tryz.f22 0) (b0S p l us (i:Int)) .ret (b0X p)):=by
 exact CW.cast (CW.symX (s':={t:=mkT 185 0 [(6,bool false)],h:=[.var [strD p.nm,int p.number,int p.uses,int p.earn,int p.num,int p.den,rowsD' (List.map ReqT.row p.reqs)]],m:=[]}) (e:=Exit.ret) pok [.st (.mask [6]),.st (.trim 1)] [.b true,.row [vi u.att,vi u.req,vi u.cr],.row (AttT.row a),.row [vs q.nm,vi q.credits,vi q.grade,Dp.v (Value.bool q.home),Dp.sl q.names,Dp.sl (inR1 q.frm)],.row (AttT.row a),.val (bool (elB q a)),.b false,.row [vi w.att,vi w.req,vi w.cr],.row [vi w.att,vi w.req,vi w.cr],.row [vi w.att,vi w.req,vi w.cr],.b true] (by kernel_rfl) (.c hlt (.c hr (.c (show(!(Dd (u.att<0)||Dd (u.att≥(↑(List.length (List.map AttT.row l)):Int))||Dd (u.req<0)||Dd (u.req≥(↑(List.length (List.map ReqT.row p.reqs)):Int))||Dd (u.cr<1)))=true→RowAt u.att (List.map AttT.row l) (AttT.row a) 5 from(fun hg=>ha)) (.c (show(!(Dd (u.att<0)||Dd (u.att≥(↑(List.length (List.map AttT.row l)):Int))||Dd (u.req<0)||Dd (u.req≥(↑(List.length (List.map ReqT.row p.reqs)):Int))||Dd (u.cr<1)||Dd (u.cr>a.credits)))=true→RowAt u.req (List.map ReqT.row p.reqs) [vs q.nm,vi q.credits,vi q.grade,Dp.v (Value.bool q.home),Dp.sl q.names,Dp.sl (inR1 q.frm)] 6 from(fun hg=>hq)) (.c (show(!(Dd (u.att<0)||Dd (u.att≥(↑(List.length (List.map AttT.row l)):Int))||Dd (u.req<0)||Dd (u.req≥(↑(List.length (List.map ReqT.row p.reqs)):Int))||Dd (u.cr<1)||Dd (u.cr>a.credits)))=true→RowAt u.att (List.map AttT.row l) (AttT.row a) 5 from(fun hg=>ha)) (.c (show(!(Dd (u.att<0)||Dd (u.att≥(↑(List.length (List.map AttT.row l)):Int))||Dd (u.req<0)||Dd (u.req≥(↑(List.length (List.map ReqT.row p.reqs)):Int))||Dd (u.cr<1)||Dd (u.cr>a.credits)))=true→Ev Tryz.prog Γ0 35 [D.agg [strD q.nm,int q.credits,int q.grade,bool q.home,rowsD' q.names,rowsD' (inR1 q.frm)],(ag (AttT.row a))] (b0_o_x0 p u) (bool (elB q a)) (b0_o_x0 p u) from(fun hg=>(@fits_ev (q) (a) (hsf) ((b0_o_x0 p u))))) (.c hg (.c (show Dd ((↑i:Int)>0)=true→RowAt (IntKind.wrap IntKind.i64 ((↑i:Int) - 1)) (List.map UseT.row us) [vi w.att,vi w.req,vi w.cr] 3 from(fun hg=>hv)) (.c (show(Dd ((↑i:Int)>0)&&!Dd (w.att>u.att))=true→RowAt (IntKind.wrap IntKind.i64 ((↑i:Int) - 1)) (List.map UseT.row us) [vi w.att,vi w.req,vi w.cr] 3 from(fun hg=>hv)) (.c (show(Dd ((↑i:Int)>0)&&!Dd (w.att>u.att)&&w.att==u.att)=true→RowAt (IntKind.wrap IntKind.i64 ((↑i:Int) - 1)) (List.map UseT.row us) [vi w.att,vi w.req,vi w.cr] 3 from(fun hg=>hv)) (.c hs .n)))))))))))) (by rfl) (by rfl)
theorem asn_f0{p:ProgT}{l:List AttT}{us:List UseT}
  (h1:CW Tryz.prog Γ0 [] false (.loop (sub Tryz.f22 0)) (b0S p l us 0) .ret (b0X p)) (h:List Blk):(Ev Tryz.prog Γ0 22 [.agg p.l,rowsD' (l.map AttT.row),rowsD' (us.map UseT.row)] h (bool false) h):=by
 have hl0:=(@h1)
 exact Ev.castH (Ev.sym0 (d:=bool false) pok [.sum [1,2,3,7] (Exit.ret) {t:=mkT 185 0 [(6,bool false)],h:=[.var [strD p.nm,int p.number,int p.uses,int p.earn,int p.num,int p.den,rowsD' (List.map ReqT.row p.reqs)]],m:=[]}] (by kernel_rfl) (.c hl0 .n) rfl rfl h) (by rfl) (by rfl)
theorem asn_f1{p:ProgT}{l:List AttT}{us:List UseT}
  (h1:CW Tryz.prog Γ0 [] false (.loop (sub Tryz.f22 0)) (b0S p l us 0) (.exit 0) (b1E p l us))
  (h2:CW Tryz.prog Γ0 [] false (.loop (sub Tryz.f22 1)) (b1S p l us 0) .ret (b0X p)) (h:List Blk):(Ev Tryz.prog Γ0 22 [.agg p.l,rowsD' (l.map AttT.row),rowsD' (us.map UseT.row)] h (bool false) h):=by
 have hl0:=(@h1)
 have hl1:=(@h2)
 exact Ev.castH (Ev.sym0 (d:=bool false) pok [.sum [1,2,3,7] (Exit.exit 0) {t:=mkT 185 0 [(1,rowsD' (List.map AttT.row l)),(2,rowsD' (List.map UseT.row us)),(3,.ref (.ptr 0 0))],h:=[.var [strD p.nm,int p.number,int p.uses,int p.earn,int p.num,int p.den,rowsD' (List.map ReqT.row p.reqs)]],m:=[]},.sum [1,2,3,9] (Exit.ret) {t:=mkT 185 0 [(6,bool false)],h:=[.var [strD p.nm,int p.number,int p.uses,int p.earn,int p.num,int p.den,rowsD' (List.map ReqT.row p.reqs)]],m:=[]}] (by kernel_rfl) (.c hl0 (.c hl1 .n)) rfl rfl h) (by rfl) (by rfl)
theorem asn_f3{p:ProgT}{l:List AttT}{us:List UseT}
  (h1:CW Tryz.prog Γ0 [] false (.loop (sub Tryz.f22 0)) (b0S p l us 0) (.exit 0) (b1E p l us))
  (h2:CW Tryz.prog Γ0 [] false (.loop (sub Tryz.f22 1)) (b1S p l us 0) (.exit 2) (b1E p l us))
  (h3:CW Tryz.prog Γ0 [] false (.loop (sub Tryz.f22 3)) (b3S p us 0) .ret (b0X p)) (h:List Blk):(Ev Tryz.prog Γ0 22 [.agg p.l,rowsD' (l.map AttT.row),rowsD' (us.map UseT.row)] h (bool false) h):=by
 have hl0:=(@h1)
 have hl1:=(@h2)
 have hl2:=(@h3)
 exact Ev.castH (Ev.sym0 (d:=bool false) pok [.sum [1,2,3,7] (Exit.exit 0) {t:=mkT 185 0 [(1,rowsD' (List.map AttT.row l)),(2,rowsD' (List.map UseT.row us)),(3,.ref (.ptr 0 0))],h:=[.var [strD p.nm,int p.number,int p.uses,int p.earn,int p.num,int p.den,rowsD' (List.map ReqT.row p.reqs)]],m:=[]},.sum [1,2,3,9] (Exit.exit 2) {t:=mkT 185 0 [(1,rowsD' (List.map AttT.row l)),(2,rowsD' (List.map UseT.row us)),(3,.ref (.ptr 0 0))],h:=[.var [strD p.nm,int p.number,int p.uses,int p.earn,int p.num,int p.den,rowsD' (List.map ReqT.row p.reqs)]],m:=[]},.sum [2,3,12] (Exit.ret) {t:=mkT 185 0 [(6,bool false)],h:=[.var [strD p.nm,int p.number,int p.uses,int p.earn,int p.num,int p.den,rowsD' (List.map ReqT.row p.reqs)]],m:=[]}] (by kernel_rfl) (.c hl0 (.c hl1 (.c hl2 .n))) rfl rfl h) (by rfl) (by rfl)
def useBad(p:ProgT)(l:List AttT)(u:UseT):Bool:=match l[u.att.toNat]?,p.reqs[u.req.toNat]? with
 | some a,some q=>Dd (u.att<0)||Dd (u.req<0)||Dd (u.cr<1)||Dd (u.cr>a.credits)||!elB q a
 | _,_=>true
def ordBad(us:List UseT)(u:UseT):Nat→Bool
 | 0=>false
 | k+1=>match us[k]? with
  | some w=>Dd (w.att>u.att)||w.att==u.att&&Dd (w.req≥u.req)
  | none=>true
theorem ordBad_s{us:List UseT}{u w:UseT}{k:Nat}(hk:us[k]? = some w):ordBad us u (k+1)=(Dd (w.att>u.att)||w.att==u.att&&Dd (w.req≥u.req)):=by
 show(match us[k]? with|some w=>Dd (w.att>u.att)||w.att==u.att&&Dd (w.req≥u.req)|none=>true)=_
 rw[hk]
def b0G(p:ProgT)(l:List AttT)(us:List UseT)(u:UseT)(i:Nat):Nat⊕Unit:=match useBad p l u||ordBad us u i with
 | true=>.inr ()
 | false=>.inl (i+1)
section
variable {p:ProgT} {l:List AttT} {us:List UseT}
theorem useBad_ok{u:UseT}(h:useBad p l u=false):UseOk p l u:=by
 unfold useBad at h
 split at h
 ·rename_i a q ha hq
  simp only[Bool.or_eq_false_iff,decide_eq_false_iff_not,Bool.not_eq_false'] at h
  exact⟨by omega,by omega,by omega,a,q,ha,hq,by omega,h.2⟩
 ·cases h
theorem b0_each(hp:p.ok)(hn:us.length≤1000):CW Tryz.prog Γ0 [] false (.loop (sub Tryz.f22 0)) (b0S p l us 0) (eachFin (.exit 0) (fun _:Nat=>b1E p l us) (fun _:Unit=>(.ret,b0X p)) (forL (b0G p l us) us 0)).1 (eachFin (.exit 0) (fun _:Nat=>b1E p l us) (fun _:Unit=>(.ret,b0X p)) (forL (b0G p l us) us 0)).2:=by
 refine CW.each us (b0G p l us) (fun i _=>b0S p l us (i:Int)) (.exit 0) _ _ (fun i s=>s=i) (by simp) (fun _=>by simp) ?_ ?_ 0 rfl
 ·intro i u s hu hs
  subst hs
  have hi:=(List.getElem?_eq_some_iff.1 hu).1
  have hr:=rowAt (row:=UseT.row) (sz:=3) hu rfl
  have hlt:=lt_len UseT.row hi
  refine⟨fun s' h=>by unfold b0G at h;split at h<;>simp at h;exact h.symm,?_⟩
  by_cases c1:u.att<0
  ·have e:b0G p l us u s=.inr ():=by
    have:useBad p l u=true:=by
     unfold useBad
     split
     ·simp[c1]
     ·rfl
    unfold b0G;rw[this];rfl
   rw[e]
   exact b0_a1 hr hlt (by simpa using c1)
  by_cases c2:u.att≥(l.length:Int)
  ·have e:b0G p l us u s=.inr ():=by
    have:useBad p l u=true:=by
     unfold useBad
     rw[List.getElem?_eq_none (show l.length≤u.att.toNat by omega)]
    unfold b0G;rw[this];rfl
   rw[e]
   exact b0_a2 hr hlt (by simpa using c1) (by simpa using c2)
  by_cases c3:u.req<0
  ·have e:b0G p l us u s=.inr ():=by
    have:useBad p l u=true:=by
     unfold useBad
     split
     ·simp[c3]
     ·rfl
    unfold b0G;rw[this];rfl
   rw[e]
   exact b0_q1 hr hlt (by simpa using c1) (by simpa using c2) (by simpa using c3)
  by_cases c4:u.req≥(p.reqs.length:Int)
  ·have e:b0G p l us u s=.inr ():=by
    have:useBad p l u=true:=by
     unfold useBad
     rw[List.getElem?_eq_none (show p.reqs.length≤u.req.toNat by omega)]
     split
     ·rename_i h;cases h
     ·rfl
    unfold b0G;rw[this];rfl
   rw[e]
   exact b0_q2 hr hlt (by simpa using c1) (by simpa using c2) (by simpa using c3) (by simpa using c4)
  have ha:l[u.att.toNat]? = some l[u.att.toNat]:=List.getElem?_eq_getElem (by omega)
  have hq:p.reqs[u.req.toNat]? = some p.reqs[u.req.toNat]:=List.getElem?_eq_getElem (by omega)
  have ra:=rowAt (row:=AttT.row) (sz:=5) ha rfl
  have rq:=rowAt (row:=ReqT.row) (sz:=6) hq rfl
  rw[Int.toNat_of_nonneg (by omega)] at ra rq
  have hsf:=(hp.rq _ (List.mem_of_getElem? hq)).sf
  have eb:useBad p l u=(Dd (u.att<0)||Dd (u.att≥((l.map AttT.row).length:Int))||Dd (u.req<0)||Dd (u.req≥((p.reqs.map ReqT.row).length:Int))||Dd (u.cr<1)||Dd (u.cr>(l[u.att.toNat]'(by omega)).credits)||!elB (p.reqs[u.req.toNat]'(by omega)) (l[u.att.toNat]'(by omega))):=by
   unfold useBad
   rw[ha,hq]
   simp only[List.length_map]
   rw[show Dd (u.att<0)=false from by simpa using c1,show Dd (u.att≥(l.length:Int))=false from by simpa using c2,show Dd (u.req<0)=false from by simpa using c3,show Dd (u.req≥(p.reqs.length:Int))=false from by simpa using c4]
   rfl
  cases hg:useBad p l u with
  | true =>
   have e:b0G p l us u s=.inr ():=by unfold b0G;rw[hg];rfl
   rw[e]
   rw[eb] at hg
   exact b0_c hsf hr hlt ra rq hg
  | false =>
   rw[eb] at hg
   cases s with
   | zero =>
    have e:b0G p l us u 0=.inl 1:=by unfold b0G;rw[eb,hg];rfl
    rw[e]
    exact b0_first hsf hr hlt (wrap_succ hi (by omega)) ra rq hg (by simp)
   | succ k =>
    have hk:us[k]? = some us[k]:=List.getElem?_eq_getElem (by omega)
    have hv:=rowAt (row:=UseT.row) (sz:=3) hk rfl
    have ew:IntKind.i64.wrap (((k+1:Nat):Int) - 1)=(k:Int):=by rw[wrap_i64 (by omega) (by omega)];omega
    rw[←ew] at hv
    have hpos:Dd (((k+1:Nat):Int)>0)=true:=by simp only[decide_eq_true_eq];omega
    cases ho:(Dd ((us[k]'(by omega)).att>u.att)||(us[k]'(by omega)).att==u.att&&Dd ((us[k]'(by omega)).req≥u.req)) with
    | true =>
     have e:b0G p l us u (k+1)=.inr ():=by
      unfold b0G;rw[ordBad_s hk,ho,Bool.or_true]
     rw[e]
     exact b0_o hsf hr hlt ra rq hg hpos hv (by rw[hpos,ho];rfl)
    | false =>
     have e:b0G p l us u (k+1)=.inl (k+1+1):=by
      unfold b0G;rw[ordBad_s hk,ho,eb,hg];rfl
     rw[e]
     exact b0_next hsf hr hlt (wrap_succ hi (by omega)) ra rq hg hpos hv (by rw[hpos,ho];rfl)
 ·intro s _
  exact b0_last (ge_len UseT.row us)
theorem b0_inl:∀(ls:List UseT) (k r:Nat),forL (b0G p l us) ls k=.inl r→∀(i:Nat) (u:UseT),ls[i]? = some u→useBad p l u=false∧ordBad us u (k+i)=false
 | [],_,_,_,_,_,h=>by simp at h
 | x::ls,k,r,h,i,u,hu=>by
  simp only[forL] at h
  cases hb:useBad p l x||ordBad us x k with
  | true =>
   have e:b0G p l us x k=.inr ():=by unfold b0G;rw[hb]
   rw[e] at h;cases h
  | false =>
   have e:b0G p l us x k=.inl (k+1):=by unfold b0G;rw[hb]
   rw[e] at h
   cases i with
   | zero =>
    simp only[List.getElem?_cons_zero,Option.some.injEq] at hu
    subst hu
    simpa using hb
   | succ i =>
    have:=b0_inl ls (k+1) r h i u (by simpa using hu)
    rw[show k+1+i=k+(i+1) by omega] at this
    exact this
theorem b1_inl:∀(ls:List AttT) (k r:Nat),forL (b1G p us) ls k=.inl r→∀(i:Nat) (a:AttT),ls[i]? = some a→sumA us ((k+i:Nat):Int)≤IntKind.i64.wrap (a.credits*p.uses)
 | [],_,_,_,_,_,h=>by simp at h
 | x::ls,k,r,h,i,u,hu=>by
  simp only[forL] at h
  cases hb:Dd (sumA us (k:Int)>IntKind.i64.wrap (x.credits*p.uses)) with
  | true =>
   have e:b1G p us x k=.inr ():=by unfold b1G;rw[hb]
   rw[e] at h;cases h
  | false =>
   have e:b1G p us x k=.inl (k+1):=by unfold b1G;rw[hb]
   rw[e] at h
   cases i with
   | zero =>
    simp only[List.getElem?_cons_zero,Option.some.injEq] at hu
    subst hu
    simp only[decide_eq_false_iff_not] at hb
    rw[Nat.add_zero];omega
   | succ i =>
    have:=b1_inl ls (k+1) r h i u (by simpa using hu)
    rw[show k+1+i=k+(i+1) by omega] at this
    exact this
theorem b3_inl:∀(ls:List ReqT) (k r:Nat),forL (b3G us) ls k=.inl r→∀(i:Nat) (q:ReqT),ls[i]? = some q→sumQ us ((k+i:Nat):Int)≤q.credits
 | [],_,_,_,_,_,h=>by simp at h
 | x::ls,k,r,h,i,u,hu=>by
  simp only[forL] at h
  cases hb:Dd (sumQ us (k:Int)>x.credits) with
  | true =>
   have e:b3G us x k=.inr ():=by unfold b3G;rw[hb]
   rw[e] at h;cases h
  | false =>
   have e:b3G us x k=.inl (k+1):=by unfold b3G;rw[hb]
   rw[e] at h
   cases i with
   | zero =>
    simp only[List.getElem?_cons_zero,Option.some.injEq] at hu
    subst hu
    simp only[decide_eq_false_iff_not] at hb
    rw[Nat.add_zero];omega
   | succ i =>
    have:=b3_inl ls (k+1) r h i u (by simpa using hu)
    rw[show k+1+i=k+(i+1) by omega] at this
    exact this
theorem asn_any(hp:p.ok)(hn:us.length≤1000)(hl:l.length≤1000)(hr:p.reqs.length≤1000):∃b:Bool,(∀h:List Blk,Ev Tryz.prog Γ0 22 [.agg p.l,rowsD' (l.map AttT.row),rowsD' (us.map UseT.row)] h (bool b) h)∧(b=true→AsnOk p l us):=by
 have h0:=b0_each (l:=l) hp hn
 cases e0:forL (b0G p l us) us 0 with
 | inr r=>rw[e0] at h0;exact⟨false,fun h=>asn_f0 h0 h,by simp⟩
 | inl r0 =>
  rw[e0] at h0
  have h1:=b1_each (p:=p) (l:=l) hn hl
  cases e1:forL (b1G p us) l 0 with
  | inr r=>rw[e1] at h1;exact⟨false,fun h=>asn_f1 h0 h1 h,by simp⟩
  | inl r1 =>
   rw[e1] at h1
   have h3:=b3_each (p:=p) hn hr
   cases e3:forL (b3G us) p.reqs 0 with
   | inr r=>rw[e3] at h3;exact⟨false,fun h=>asn_f3 h0 h1 h3 h,by simp⟩
   | inl r3 =>
    rw[e3] at h3
    refine⟨true,fun h=>asn_a h0 h1 h3 h,fun _=>⟨hn,?_,?_,?_,?_⟩⟩
    ·intro u hu
     obtain⟨i,hi⟩:=List.getElem?_of_mem hu
     exact useBad_ok (b0_inl us 0 r0 e0 i u hi).1
    ·intro i w u hw hu
     have:=(b0_inl us 0 r0 e0 (i+1) u hu).2
     rw[Nat.zero_add] at this
     rw[ordBad_s hw] at this
     simp only[Bool.or_eq_false_iff,decide_eq_false_iff_not,Bool.and_eq_false_iff,beq_eq_false_iff_ne] at this
     unfold useLt;omega
    ·intro i a ha
     have:=b1_inl l 0 r1 e1 i a ha
     rw[Nat.zero_add] at this;exact this
    ·intro i a ha
     have:=b3_inl p.reqs 0 r3 e3 i a ha
     rw[Nat.zero_add] at this;exact this
end
noncomputable abbrev op_out1_x0(p:ProgT):List Blk:=[.var [strD p.nm,int p.number,int p.uses,int p.earn,int p.num,int p.den,rowsD' (List.map ReqT.row p.reqs)]]
theorem op_out1{p:ProgT}{l:List AttT}{us:List UseT}(hsane:∀h,Ev Tryz.prog Γ0 9 [] h (bool true) h)(hfew:∀h,Ev Tryz.prog Γ0 10 [.agg p.l,rowsD' (l.map AttT.row)] h (bool false) h)(h:List Blk):(Ev Tryz.prog Γ0 8 [.agg p.l,rowsD' (l.map AttT.row),rowsD' (us.map UseT.row)] h (bool true) h):=by
 exact Ev.castH (Ev.sym0 (d:=bool true) pok [.val (bool true),.b false,.val (bool false),.g false,.g false,.g false,.ov 24 (bool true),.b true] (by kernel_rfl) (.c (@hsane ((op_out1_x0 p))) (.c (show(!true)=false from rfl) (.c (@hfew ((op_out1_x0 p))) (.c (show((!false)==false)=false from rfl) (.c (show((!false)==false)=false from rfl) (.c (show((!false)==false)=false from rfl) (.c (show PickIs (bool !false) (bool true) (D.p (Dp.v (Value.tuple {toList:=[]}))) (bool true) from(by first|assumption|rfl|decide|omega|simp_all)) (.c (show true=true from rfl) .n)))))))) rfl rfl h) (by rfl) (by rfl)
noncomputable abbrev op_out2_x0(p:ProgT):List Blk:=[.var [strD p.nm,int p.number,int p.uses,int p.earn,int p.num,int p.den,rowsD' (List.map ReqT.row p.reqs)]]
theorem op_out2{p:ProgT}{l:List AttT}{us:List UseT}(hsane:∀h,Ev Tryz.prog Γ0 9 [] h (bool true) h)(hfew:∀h,Ev Tryz.prog Γ0 10 [.agg p.l,rowsD' (l.map AttT.row)] h (bool true) h)(hu:Dd (((us.map UseT.row).length:Int)>20)=true)(h:List Blk):(Ev Tryz.prog Γ0 8 [.agg p.l,rowsD' (l.map AttT.row),rowsD' (us.map UseT.row)] h (bool true) h):=by
 exact Ev.castH (Ev.sym0 (d:=bool true) pok [.val (bool true),.b false,.val (bool true),.g true,.g true,.g true,.ov 24 (bool (Dd ((↑(List.length (List.map UseT.row us)):Int)>20))),.b true] (by kernel_rfl) (.c (@hsane ((op_out2_x0 p))) (.c (show(!true)=false from rfl) (.c (@hfew ((op_out2_x0 p))) (.c (show((!true)==false)=true from rfl) (.c (show((!true)==false)=true from rfl) (.c (show((!true)==false)=true from rfl) (.c (show PickIs (bool !true) (bool true) (bool (Dd ((↑(List.length (List.map UseT.row us)):Int)>20))) (bool (Dd ((↑(List.length (List.map UseT.row us)):Int)>20))) from(by first|assumption|rfl|decide|omega|simp_all)) (.c hu .n)))))))) rfl rfl h) (by rfl) (by rfl)
noncomputable abbrev op_bad_x0(p:ProgT):List Blk:=[.var [strD p.nm,int p.number,int p.uses,int p.earn,int p.num,int p.den,rowsD' (List.map ReqT.row p.reqs)]]
theorem op_bad{p:ProgT}{l:List AttT}{us:List UseT}{e:Int}(hsane:∀h,Ev Tryz.prog Γ0 9 [] h (bool true) h)(hfew:∀h,Ev Tryz.prog Γ0 10 [.agg p.l,rowsD' (l.map AttT.row)] h (bool true) h)(hu:Dd (((us.map UseT.row).length:Int)>20)=false)
  (haud:∀h,Ev Tryz.prog Γ0 19 [.agg p.l,rowsD' (l.map AttT.row)] h (.tup [.agg [nq,int 0,nq],int e]) h) (he:(e != 0)=true) (h:List Blk):(Ev Tryz.prog Γ0 8 [.agg p.l,rowsD' (l.map AttT.row),rowsD' (us.map UseT.row)] h (bool true) h):=by
 exact Ev.castH (Ev.sym0 (d:=bool true) pok [.val (bool true),.b false,.val (bool true),.g true,.g true,.g true,.ov 24 (bool (Dd ((↑(List.length (List.map UseT.row us)):Int)>20))),.b false,.val (D.tup [D.agg [nq,int 0,nq],int e]),.b true] (by kernel_rfl) (.c (@hsane ((op_bad_x0 p))) (.c (show(!true)=false from rfl) (.c (@hfew ((op_bad_x0 p))) (.c (show((!true)==false)=true from rfl) (.c (show((!true)==false)=true from rfl) (.c (show((!true)==false)=true from rfl) (.c (show PickIs (bool !true) (bool true) (bool (Dd ((↑(List.length (List.map UseT.row us)):Int)>20))) (bool (Dd ((↑(List.length (List.map UseT.row us)):Int)>20))) from(by first|assumption|rfl|decide|omega|simp_all)) (.c hu (.c (@haud ((op_bad_x0 p))) (.c he .n)))))))))) rfl rfl h) (by rfl) (by rfl)
noncomputable abbrev op_no_x0(p:ProgT)(ua:List UseT)(ms:Int)(cut:List Bool):List Blk:=[.var [strD p.nm,int p.number,int p.uses,int p.earn,int p.num,int p.den,rowsD' (List.map ReqT.row p.reqs)],.var [rowsD' (List.map UseT.row ua),int ms,rowsD' (rowsB cut)]]
noncomputable abbrev op_no_x1(p:ProgT)(l:List AttT):List D:=[D.agg [strD p.nm,int p.number,int p.uses,int p.earn,int p.num,int p.den,rowsD' (List.map ReqT.row p.reqs)],rowsD' (List.map AttT.row l)]
noncomputable abbrev op_no_x2(p:ProgT):List Blk:=[.var [strD p.nm,int p.number,int p.uses,int p.earn,int p.num,int p.den,rowsD' (List.map ReqT.row p.reqs)]]
theorem op_no{p:ProgT}{l:List AttT}{us ua:List UseT}{es:List EdgT}{n ms cv:Int}{cut:List Bool}(hsane:∀h,Ev Tryz.prog Γ0 9 [] h (bool true) h)(hfew:∀h,Ev Tryz.prog Γ0 10 [.agg p.l,rowsD' (l.map AttT.row)] h (bool true) h)(hu:Dd (((us.map UseT.row).length:Int)>20)=false)(hpr:p.reqs.length≤1000)
  (haud:∀h,Ev Tryz.prog Γ0 19 [.agg p.l,rowsD' (l.map AttT.row)] h (.tup [.agg [rowsD' (ua.map UseT.row),int ms,rowsD' (rowsB cut)],int 0]) h)
  (hnet:∀h,Ev Tryz.prog Γ0 16 [.agg p.l,rowsD' (l.map AttT.row)] h (.tup [int n,rowsD' (es.map EdgT.row),int 0]) h)
  (hcap:∀h,Ev Tryz.prog Γ0 25 [int n,rowsD' (es.map EdgT.row),int 0,int (IntKind.i64.wrap (n - 1)),rowsD' (rowsB cut)] h (.tup [int cv,int 0]) h)
  (hcv:(cv != IntKind.i64.wrap (totR p - ms))=false)
  (hasn:∀h,Ev Tryz.prog Γ0 22 [.agg p.l,rowsD' (l.map AttT.row),rowsD' (us.map UseT.row)] h (bool false) h) (h:List Blk):(Ev Tryz.prog Γ0 8 [.agg p.l,rowsD' (l.map AttT.row),rowsD' (us.map UseT.row)] h (bool true) h):=by
 refine Ev.castH (Ev.sym0 (d:=bool true) pok [.val (bool true),.b false,.val (bool true),.g true,.g true,.g true,.ov 24 (bool (Dd ((↑(List.length (List.map UseT.row us)):Int)>20))),.b false,.val (D.tup [D.agg [rowsD' (List.map UseT.row ua),int ms,rowsD' (rowsB cut)],int 0]),.b false,.val (D.tup [int n,rowsD' (List.map EdgT.row es),int 0]),.val (D.tup [int cv,int 0]),.g true,.g true,.ov 55 (bool (0 != 0)),.g true,.g true,.g true,.val (int (totR p)),.g true,.g true,.g true,.g true,.ov 64 (bool (cv != IntKind.wrap IntKind.i64 (totR p - ms))),.b false,.val (bool false),.g false,.g false,.g false,.g false,.g false,.g false,.g false,.g false,.ov 79 (bool true)] (by kernel_rfl) (.c (@hsane ((op_no_x2 p))) (.c (show(!true)=false from rfl) (.c (@hfew ((op_no_x2 p))) (.c (show((!true)==false)=true from rfl) (.c (show((!true)==false)=true from rfl) (.c (show((!true)==false)=true from rfl) (.c (show PickIs (bool !true) (bool true) (bool (Dd ((↑(List.length (List.map UseT.row us)):Int)>20))) (bool (Dd ((↑(List.length (List.map UseT.row us)):Int)>20))) from ?_) (.c hu (.c (@haud ((op_no_x2 p))) (.c (show(0 != 0)=false from rfl) (.c (@hnet ((op_no_x0 p ua ms cut))) (.c (@hcap ((op_no_x0 p ua ms cut))) (.c (show((0 != 0)==false)=true from rfl) (.c (show((0 != 0)==false)=true from rfl) (.c (show PickIs (bool (0 != 0)) (bool true) (bool (0 != 0)) (bool (0 != 0)) from ?_) (.c (show((0 != 0)==false)=true from rfl) (.c (show((0 != 0)==false)=true from rfl) (.c (show((0 != 0)==false)=true from rfl) (.c (@tot_ev (p) (hpr) ((op_no_x0 p ua ms cut))) (.c (show((0 != 0)==false)=true from rfl) (.c (show((0 != 0)==false)=true from rfl) (.c (show((0 != 0)==false)=true from rfl) (.c (show((0 != 0)==false)=true from rfl) (.c (show PickIs (bool (0 != 0)) (bool true) (bool (cv != IntKind.wrap IntKind.i64 (totR p - ms))) (bool (cv != IntKind.wrap IntKind.i64 (totR p - ms))) from ?_) (.c hcv (.c (@hasn ((op_no_x0 p ua ms cut))) (.c (show((!false)==false)=false from rfl) (.c (show((!false)==false)=false from rfl) (.c (show((!false)==false)=false from rfl) (.c (show((!false)==false)=false from rfl) (.c (show((!false)==false)=false from rfl) (.c (show((!false)==false)=false from rfl) (.c (show((!false)==false)=false from rfl) (.c (show((!false)==false)=false from rfl) (.c (show PickIs (bool !false) (bool true) (D.p (Dp.v (Value.tuple {toList:=[]}))) (bool true) from ?_) .n))))))))))))))))))))))))))))))))))) rfl rfl h) (by rfl) (by rfl)<;>(first|assumption|rfl|decide|omega|simp_all)
noncomputable abbrev op_ok_x0(p:ProgT)(ua:List UseT)(ms:Int)(cut:List Bool):List Blk:=[.var [strD p.nm,int p.number,int p.uses,int p.earn,int p.num,int p.den,rowsD' (List.map ReqT.row p.reqs)],.var [rowsD' (List.map UseT.row ua),int ms,rowsD' (rowsB cut)]]
noncomputable abbrev op_ok_x1(p:ProgT)(l:List AttT):List D:=[D.agg [strD p.nm,int p.number,int p.uses,int p.earn,int p.num,int p.den,rowsD' (List.map ReqT.row p.reqs)],rowsD' (List.map AttT.row l)]
noncomputable abbrev op_ok_x2(p:ProgT):List Blk:=[.var [strD p.nm,int p.number,int p.uses,int p.earn,int p.num,int p.den,rowsD' (List.map ReqT.row p.reqs)]]
theorem op_ok{p:ProgT}{l:List AttT}{us ua:List UseT}{es:List EdgT}{n ms cv:Int}{cut:List Bool}(hsane:∀h,Ev Tryz.prog Γ0 9 [] h (bool true) h)(hfew:∀h,Ev Tryz.prog Γ0 10 [.agg p.l,rowsD' (l.map AttT.row)] h (bool true) h)(hu:Dd (((us.map UseT.row).length:Int)>20)=false)(hpr:p.reqs.length≤1000)(hn:us.length≤1000)
  (haud:∀h,Ev Tryz.prog Γ0 19 [.agg p.l,rowsD' (l.map AttT.row)] h (.tup [.agg [rowsD' (ua.map UseT.row),int ms,rowsD' (rowsB cut)],int 0]) h)
  (hnet:∀h,Ev Tryz.prog Γ0 16 [.agg p.l,rowsD' (l.map AttT.row)] h (.tup [int n,rowsD' (es.map EdgT.row),int 0]) h)
  (hcap:∀h,Ev Tryz.prog Γ0 25 [int n,rowsD' (es.map EdgT.row),int 0,int (IntKind.i64.wrap (n - 1)),rowsD' (rowsB cut)] h (.tup [int cv,int 0]) h)
  (hcv:(cv != IntKind.i64.wrap (totR p - ms))=false)
  (hasn:∀h,Ev Tryz.prog Γ0 22 [.agg p.l,rowsD' (l.map AttT.row),rowsD' (us.map UseT.row)] h (bool true) h) (hge:Dd (IntKind.i64.wrap (totR p - asgR us)≥ms)=true) (h:List Blk):(Ev Tryz.prog Γ0 8 [.agg p.l,rowsD' (l.map AttT.row),rowsD' (us.map UseT.row)] h (bool true) h):=by
 refine Ev.castH (Ev.sym0 (d:=bool (Dd (IntKind.wrap IntKind.i64 (totR p - asgR us)≥ms))) pok [.val (bool true),.b false,.val (bool true),.g true,.g true,.g true,.ov 24 (bool (Dd ((↑(List.length (List.map UseT.row us)):Int)>20))),.b false,.val (D.tup [D.agg [rowsD' (List.map UseT.row ua),int ms,rowsD' (rowsB cut)],int 0]),.b false,.val (D.tup [int n,rowsD' (List.map EdgT.row es),int 0]),.val (D.tup [int cv,int 0]),.g true,.g true,.ov 55 (bool (0 != 0)),.g true,.g true,.g true,.val (int (totR p)),.g true,.g true,.g true,.g true,.ov 64 (bool (cv != IntKind.wrap IntKind.i64 (totR p - ms))),.b false,.val (bool true),.g true,.g true,.val (int (totR p)),.g true,.g true,.val (int (asgR us)),.g true,.g true,.g true,.g true,.ov 79 (bool (Dd (IntKind.wrap IntKind.i64 (totR p - asgR us)≥ms)))] (by kernel_rfl) (.c (@hsane ((op_ok_x2 p))) (.c (show(!true)=false from rfl) (.c (@hfew ((op_ok_x2 p))) (.c (show((!true)==false)=true from rfl) (.c (show((!true)==false)=true from rfl) (.c (show((!true)==false)=true from rfl) (.c (show PickIs (bool !true) (bool true) (bool (Dd ((↑(List.length (List.map UseT.row us)):Int)>20))) (bool (Dd ((↑(List.length (List.map UseT.row us)):Int)>20))) from ?_) (.c hu (.c (@haud ((op_ok_x2 p))) (.c (show(0 != 0)=false from rfl) (.c (@hnet ((op_ok_x0 p ua ms cut))) (.c (@hcap ((op_ok_x0 p ua ms cut))) (.c (show((0 != 0)==false)=true from rfl) (.c (show((0 != 0)==false)=true from rfl) (.c (show PickIs (bool (0 != 0)) (bool true) (bool (0 != 0)) (bool (0 != 0)) from ?_) (.c (show((0 != 0)==false)=true from rfl) (.c (show((0 != 0)==false)=true from rfl) (.c (show((0 != 0)==false)=true from rfl) (.c (@tot_ev (p) (hpr) ((op_ok_x0 p ua ms cut))) (.c (show((0 != 0)==false)=true from rfl) (.c (show((0 != 0)==false)=true from rfl) (.c (show((0 != 0)==false)=true from rfl) (.c (show((0 != 0)==false)=true from rfl) (.c (show PickIs (bool (0 != 0)) (bool true) (bool (cv != IntKind.wrap IntKind.i64 (totR p - ms))) (bool (cv != IntKind.wrap IntKind.i64 (totR p - ms))) from ?_) (.c hcv (.c (@hasn ((op_ok_x0 p ua ms cut))) (.c (show((!true)==false)=true from rfl) (.c (show((!true)==false)=true from rfl) (.c (@tot_ev (p) (hpr) ((op_ok_x0 p ua ms cut))) (.c (show((!true)==false)=true from rfl) (.c (show((!true)==false)=true from rfl) (.c (@asg_ev (us) (hn) ((op_ok_x0 p ua ms cut))) (.c (show((!true)==false)=true from rfl) (.c (show((!true)==false)=true from rfl) (.c (show((!true)==false)=true from rfl) (.c (show((!true)==false)=true from rfl) (.c (show PickIs (bool !true) (bool true) (bool (Dd (IntKind.wrap IntKind.i64 (totR p - asgR us)≥ms))) (bool (Dd (IntKind.wrap IntKind.i64 (totR p - asgR us)≥ms))) from ?_) .n))))))))))))))))))))))))))))))))))))) rfl rfl h) (by first|rfl|(simp only[hge];done)) (by rfl)<;>(first|assumption|rfl|decide|omega|simp_all)
section
variable {p:ProgT} {l:List AttT} {g:List Int×List Int}
theorem AudOk.aud(hp:p.ok)(h:AudOk p l g)(h0:List Blk):Ev Tryz.prog Γ0 19 [.agg p.l,rowsD' (l.map AttT.row)] h0 (.tup [.agg [rowsD' ((auR p l g.1).us.map UseT.row),int (auR p l g.1).ms,rowsD' (rowsB (cutR g.2))],int 0]) h0:=by
 obtain⟨j,hR⟩:=h.run
 exact audit_ok hp h.net hR h.flow.ok.len h0
theorem AudOk.netw(hp:p.ok)(h:AudOk p l g)(h0:List Blk):Ev Tryz.prog Γ0 16 [.agg p.l,rowsD' (l.map AttT.row)] h0 (.tup [int (nN p l:Int),rowsD' ((net3 p l).map EdgT.row),int 0]) h0:=by
 have:=net_ev hp (l:=l) (by have:=h.net.rs;omega) (by have:=h.net.ls;omega) h0
 rw[h.net.net] at this
 exact this
theorem AudOk.row(h:AudOk p l g){v:Int}(h0:0≤v)(h1:v<(nN p l:Int)):RowAt v (rowsB (cutR g.2)) [.v (.bool (cutS g.2 v))] 1:=by
 have hl:=h.len
 refine rowB h0 ?_
 rw[cutR_eq,List.getElem?_map,getD_has (d:=(0:Int)) (show v.toNat<g.2.length by omega)]
 rfl
theorem AudOk.cap(h:AudOk p l g)(h0:List Blk):Ev Tryz.prog Γ0 25 [int (nN p l:Int),rowsD' ((net3 p l).map EdgT.row),int 0,int (IntKind.i64.wrap ((nN p l:Int) - 1)),rowsD' (rowsB (cutR g.2))] h0 (.tup [int (sumC (useL g.1 (prs p l 0) l.length)),int 0]) h0:=by
 have hN:nN p l=2+l.length+p.reqs.length:=rfl
 have hls:=h.net.ls
 have hrs:=h.net.rs
 have hsz:=h.net.size
 have hw:IntKind.i64.wrap ((nN p l:Int) - 1)=(nN p l:Int) - 1:=wrap_i64 (by omega) (by omega)
 have hcl:=cp_loop (es:=net3 p l) (cut:=cutR g.2) (S:=cutS g.2) (by omega) (fun x hx=>by
  obtain⟨a,b,c,d,e⟩:=net_good h.net x hx
  have e2:(2+l.length+p.reqs.length:Nat)=nN p l:=rfl
  exact⟨h.row a (by omega),h.row (by omega) (by omega)⟩)
 rw[cpF_cut (net3 p l) 0 (fun x hx=>⟨(net_good h.net x hx).m0,(net_good h.net x hx).m1⟩) (by omega) (by omega),h.val,Int.zero_add] at hcl
 have hs:=h.row (v:=0) (by omega) (by omega)
 rw[h.src] at hs
 have ht:=h.row (v:=(nN p l:Int) - 1) (by omega) (by omega)
 rw[h.snk] at ht
 rw[hw]
 refine capac_a (fun h'=>?_) ?_ hs ht hcl h0
 ·have:=chke_ev (n:=(nN p l:Int)) (a:=0) (b:=(nN p l:Int) - 1) (l:=net3 p l) (by unfold Short;omega) h'
  rw[h.net.chk] at this
  exact this
 ·have:(rowsB (cutR g.2)).length=nN p l:=by rw[List.length_map,cutR_eq,List.length_map,h.len]
  rw[this];simp
end
theorem degreeOptimal_ev{p:ProgT}(hp:p.ok){l:List AttT}{us:List UseT}(h:List Blk):Ev Tryz.prog Γ0 8 [.agg p.l,rowsD' (l.map AttT.row),rowsD' (us.map UseT.row)] h (bool true) h:=by
 have hfew:∀h,Ev Tryz.prog Γ0 10 [.agg p.l,rowsD' (l.map AttT.row)] h (bool (fewB p ((l.map AttT.row).length:Int))) h:=few_ev hp.sr
 cases ho:fewB p ((l.map AttT.row).length:Int) with
 | false=>rw[ho] at hfew;exact op_out1 sane19_ev hfew h
 | true =>
  obtain⟨h1,h2⟩:=few_le (p:=p) (l:=l) (by rw[ho];rfl)
  rw[ho] at hfew
  cases hu:Dd (((us.map UseT.row).length:Int)>20) with
  | true=>exact op_out2 sane19_ev hfew hu h
  | false =>
   have hul:us.length≤20:=by
    rw[List.length_map] at hu
    simp only[decide_eq_false_iff_not] at hu;omega
   rcases net_err (p:=p) (l:=l) with ⟨_,e1,e2⟩|he
   ·obtain⟨g,hg⟩:=aud_ex (p:=p) (l:=l) ⟨e1,e2,h1,by omega⟩
    obtain⟨t1,t2,t3,t4,t5,t6,t7,t8⟩:=hg.tot
    have hcv:(sumC (useL g.1 (prs p l 0) l.length) != IntKind.i64.wrap (totR p - (auR p l g.1).ms))=false:=by
     rw[t1,t6,wrap_i64 (by omega) (by omega)]
     simp only[bne_eq_false_iff_eq];omega
    obtain⟨b,hb,hok⟩:=asn_any (us:=us) (l:=l) hp (by omega) (by omega) (by omega)
    cases b with
    | false=>exact op_no sane19_ev hfew hu (by omega) (hg.aud hp) (hg.netw hp) hg.cap hcv hb h
    | true =>
     have ha:=hok rfl
     have hle:=hg.opt ha
     have h0:0≤sumC us:=by
      have:=sumU_nn (F:=fun _=>true) us (fun u hm=>(ha.cr hg.net u hm).1)
      rw[sumU_true] at this;exact this
     refine op_ok sane19_ev hfew hu (by omega) (by omega) (hg.aud hp) (hg.netw hp) hg.cap hcv hb ?_ h
     rw[t1,t6,ha.asg hg.net,wrap_i64 (by omega) (by omega)]
     simp only[decide_eq_true_eq];omega
   ·refine op_bad (e:=(netR p l).2.2) sane19_ev hfew hu (audit_bad he (fun h=>net_ev hp (by omega) (by omega) h)) ?_ h
    rcases he with e|e|e<;>rw[e]<;>rfl
open Go.ChangeShapes Go.WideShapes Go.ChangeAt Go.RowKit Go.Proofs.YthokmgafnhmlbaaGreatDoor
set_option maxRecDepth 100000
theorem cells3:Tryz.prog.cellsOf 3=1:=by kernel_rfl
theorem cells4:Tryz.prog.cellsOf 4=1:=by kernel_rfl
theorem cells9:Tryz.prog.cellsOf 9=1:=by kernel_rfl
theorem cells23:Tryz.prog.cellsOf 23=2:=by kernel_rfl
theorem cells24:Tryz.prog.cellsOf 24=1:=by kernel_rfl
theorem cells26:Tryz.prog.cellsOf 26=7:=by kernel_rfl
theorem cells28:Tryz.prog.cellsOf 28=5:=by kernel_rfl
theorem cells34:Tryz.prog.cellsOf 34=1:=by kernel_rfl
theorem cells57:Tryz.prog.cellsOf 57=1:=by kernel_rfl
theorem cells59:Tryz.prog.cellsOf 59=6:=by kernel_rfl
theorem bytes3:Tryz.prog.bytesOf 3=8:=by kernel_rfl
theorem bytes28:Tryz.prog.bytesOf 28=40:=by kernel_rfl
theorem bytes59:Tryz.prog.bytesOf 59=88:=by kernel_rfl
theorem plain26:plainB Tryz.prog [3,4,9,23,24,26,28,34,37,57,59]=true:=by kernel_rfl
theorem shp_int{n:Nat}{ds:List Dp}(h:Shp Tryz.prog n 3 ds):∃x,ds=[vi x]∧I64 x:=by
 cases n with
 | zero=>exact h.elim
 | succ n =>
  simp only[Shp,Tryz.underlying3] at h
  obtain⟨x,rfl,hw⟩:=h
  refine⟨x,rfl,?_⟩
  have:=bounds_i64 hw
  exact this
theorem shp_str{n:Nat}{ds:List Dp}(h:Shp Tryz.prog n 9 ds):∃s,ds=[vs s]:=by
 cases n with
 | zero=>exact h.elim
 | succ n =>
  simp only[Shp,Tryz.underlying9] at h
  obtain⟨s,rfl,_⟩:=h
  exact⟨s,rfl⟩
theorem shp_ratio{n:Nat}{ds:List Dp}(h:Shp Tryz.prog n 23 ds):∃a b,ds=[vi a,vi b]∧I64 a∧I64 b:=by
 cases n with
 | zero=>exact h.elim
 | succ n =>
  simp only[Shp,Tryz.underlying23,List.forall_mem_cons,cells3,cells23] at h
  obtain⟨hl,h1,h2,_⟩:=h
  obtain⟨a,e1,ha⟩:=shp_int h1
  obtain⟨b,e2,hb⟩:=shp_int h2
  match ds,hl with
  | [x,y],_ =>
   simp at e1 e2
   subst e1;subst e2
   exact⟨a,b,rfl,ha,hb⟩
theorem map_of{α:Type}{row:α→List Dp}{ok:α→Prop}:∀{es:List (List Dp)},(∀r∈es,∃a,r=row a∧ok a)→∃l:List α,es=l.map row∧∀a∈l,ok a
 | [],_=>⟨[],rfl,by simp⟩
 | r::es,h=>by
  obtain⟨a,rfl,ha⟩:=h r (List.mem_cons_self ..)
  obtain⟨l,rfl,hl⟩:=map_of (fun r hr=>h r (List.mem_cons_of_mem _ hr))
  exact⟨a::l,rfl,fun b hb=>(List.mem_cons.1 hb).elim (fun e=>e▸ha) (hl b)⟩
theorem short_of{n k:Nat}(h:n*k≤reachBytes)(hk:1≤k):n≤140737488355328:=by
 have:n≤n*k:=Nat.le_mul_of_pos_right n hk
 unfold reachBytes at h
 omega
theorem shp_bool{n:Nat}{ds:List Dp}(h:Shp Tryz.prog n 4 ds):∃b,ds=[.v (.bool b)]:=by
 cases n with
 | zero=>exact h.elim
 | succ n =>
  simp only[Shp,Tryz.underlying4] at h
  obtain⟨b,rfl⟩:=h
  exact⟨b,rfl⟩
theorem shp_strs{n:Nat}{ds:List Dp}(h:Shp Tryz.prog n 57 ds):∃l,ds=[.sl l]:=by
 cases n with
 | zero=>exact h.elim
 | succ n =>
  simp only[Shp,Tryz.underlying57] at h
  obtain⟨es,rfl,_⟩:=h
  exact⟨es,rfl⟩
theorem shp_ints{n:Nat}{ds:List Dp}(h:Shp Tryz.prog n 34 ds):∃l:List Int,ds=[.sl (inR1 l)]∧Short l:=by
 cases n with
 | zero=>exact h.elim
 | succ n =>
  simp only[Shp,Tryz.underlying34,bytes3] at h
  obtain⟨es,rfl,hb,he⟩:=h
  obtain⟨l,rfl,_⟩:=map_of (row:=fun n:Int=>[vi n]) (ok:=fun _=>True) (fun r hr=>by obtain⟨x,e,_⟩:=shp_int (he r hr);exact⟨x,e,trivial⟩)
  exact⟨l,rfl,by have:=short_of hb (by omega);simpa[Short] using this⟩
theorem shp_req{n:Nat}{ds:List Dp}(h:Shp Tryz.prog n 59 ds):∃q:ReqT,ds=q.row∧q.ok:=by
 cases n with
 | zero=>exact h.elim
 | succ n =>
  simp only[Shp,Tryz.underlying59,List.forall_mem_cons,cells3,cells4,cells9,cells34,cells57,cells59] at h
  obtain⟨hl,h1,h2,h3,h4,h5,h6,_⟩:=h
  obtain⟨s,e1⟩:=shp_str h1
  obtain⟨a,e2,_⟩:=shp_int h2
  obtain⟨b,e3,_⟩:=shp_int h3
  obtain⟨c,e4⟩:=shp_bool h4
  obtain⟨d,e5⟩:=shp_strs h5
  obtain⟨f,e6,hf⟩:=shp_ints h6
  match ds,hl with
  | [p1,p2,p3,p4,p5,p6],_ =>
   simp at e1 e2 e3 e4 e5 e6
   subst e1;subst e2;subst e3;subst e4;subst e5;subst e6
   exact⟨⟨s,a,b,c,d,f⟩,rfl,⟨hf⟩⟩
theorem shp_prog{n:Nat}{ds:List Dp}(h:Shp Tryz.prog n 26 ds):∃p:ProgT,ds.map .p=p.l∧p.ok:=by
 cases n with
 | zero=>exact h.elim
 | succ n =>
  rw[Shp,Tryz.underlying26] at h
  simp only[List.forall_mem_cons,cells3,cells9,cells23,cells24,cells26] at h
  obtain⟨hl,h1,h2,h3,h4,h5,h6,_⟩:=h
  obtain⟨s,e1⟩:=shp_str h1
  obtain⟨a,e2,_⟩:=shp_int h2
  obtain⟨b,e3,_⟩:=shp_int h3
  obtain⟨c,e4,_⟩:=shp_int h4
  obtain⟨x,y,e5,hx,hy⟩:=shp_ratio h5
  cases n with
  | zero=>exact h6.elim
  | succ n =>
   simp only[Shp,Tryz.underlying24,bytes59] at h6
   obtain⟨es,e6,hb,he⟩:=h6
   obtain⟨l,rfl,hk⟩:=map_of (row:=ReqT.row) (ok:=ReqT.ok) (fun r hr=>shp_req (he r hr))
   match ds,hl with
   | [p1,p2,p3,p4,p5,p6,p7],_ =>
    simp at e1 e2 e3 e4 e5 e6
    obtain⟨rfl,rfl⟩:=e5
    subst e1;subst e2;subst e3;subst e4;subst e6
    exact⟨⟨s,a,b,c,x,y,l⟩,rfl,⟨by have:=short_of hb (by omega);simpa[Short] using this,hk,hx,hy⟩⟩
theorem shp_att{n:Nat}{ds:List Dp}(h:Shp Tryz.prog n 28 ds):∃a:AttT,ds=a.row∧True:=by
 cases n with
 | zero=>exact h.elim
 | succ n =>
  simp only[Shp,Tryz.underlying28,List.forall_mem_cons,cells3,cells28] at h
  obtain⟨hl,h1,h2,h3,h4,h5,_⟩:=h
  obtain⟨a,e1,_⟩:=shp_int h1
  obtain⟨b,e2,_⟩:=shp_int h2
  obtain⟨c,e3,_⟩:=shp_int h3
  obtain⟨d,e4,_⟩:=shp_int h4
  obtain⟨e,e5,_⟩:=shp_int h5
  match ds,hl with
  | [p,q,r,t,u],_ =>
   simp at e1 e2 e3 e4 e5
   subst e1;subst e2;subst e3;subst e4;subst e5
   exact⟨⟨a,b,c,d,e⟩,rfl,trivial⟩
theorem shp_atts{n:Nat}{ds:List Dp}(h:Shp Tryz.prog n 37 ds):∃l:List AttT,ds=[.sl (l.map AttT.row)]∧Short l:=by
 cases n with
 | zero=>exact h.elim
 | succ n =>
  simp only[Shp,Tryz.underlying37,bytes28] at h
  obtain⟨es,rfl,hb,he⟩:=h
  obtain⟨l,rfl,_⟩:=map_of (row:=AttT.row) (ok:=fun _=>True) (fun r hr=>shp_att (he r hr))
  exact⟨l,rfl,by have:=short_of hb (by omega);simpa[Short] using this⟩
theorem arg_prog{H:Type}{enc:TypeId×Value→H}{W:World}{base:Nat}{v:Value}{d:DataW H}{p:List MemPlace}
  (hok:Value.okWide Tryz.prog W .any base 26 v) (h:DataW.Trod enc Tryz.prog W 0 (fun _=>true) true 26 v d p) (hw:(d.weights Tryz.prog 26).all (· ≤ reachBytes)=true) :
  ∃r:ProgT,r.ok∧Rel W (avs (fun _=>False) (fun _=>none) []) (fun _=>none) [] (.agg r.l) v:=by
 unfold Value.okWide at hok
 rw[Tryz.underlying26] at hok
 obtain⟨cs,rfl,_,_⟩:=hok
 obtain⟨fuel,hf⟩:=h
 obtain⟨ds,h1,h2⟩:=open_plain plain26 av_start fuel 26 _ d p (by decide) hf hw
 obtain⟨r,e,hr⟩:=shp_prog h1
 refine⟨r,hr,?_⟩
 rw[←e]
 simp only[Rel]
 exact⟨cs,rfl,h2.relL⟩
theorem arg_atts{H:Type}{enc:TypeId×Value→H}{W:World}{base:Nat}{v:Value}{d:DataW H}{p:List MemPlace}
  (hok:Value.okWide Tryz.prog W .any base 37 v) (h:DataW.Trod enc Tryz.prog W 0 (fun _=>true) true 37 v d p) (hw:(d.weights Tryz.prog 37).all (· ≤ reachBytes)=true) :
  ∃l:List AttT,Short l∧Rel W (avs (fun _=>False) (fun _=>none) []) (fun _=>none) [] (rowsD' (l.map AttT.row)) v:=by
 obtain⟨fuel,hf⟩:=h
 unfold Value.okWide at hok
 rw[Tryz.underlying37] at hok
 have hc:v.cells.toList=[v]:=by
  cases v<;>first|rfl|skip
  unfold Cell.okWide at hok
  rw[Tryz.underlying37] at hok
  exact hok.elim
 rw[hc] at hf
 obtain⟨ds,h1,h2⟩:=open_plain plain26 av_start fuel 37 _ d p (by decide) hf hw
 obtain⟨l,rfl,hl⟩:=shp_atts h1
 refine⟨l,hl,?_⟩
 simp only[RelPL,and_true] at h2
 simpa[rowsD',Rel] using h2
end Go.Vi
open Go Go.Proofs
namespace Go.Vi
set_option maxHeartbeats 4000000
open Go.ChangeShapes Go.WideShapes Go.ChangeAt Go.RowKit Go.Proofs.YthokmgafnhmlbaaGreatDoor
set_option maxRecDepth 100000
theorem ownK:ownKnob Tryz.prog.godebug=none:=by kernel_rfl
theorem laidOut:laidOutB Tryz.prog=true:=by kernel_rfl
def kd(a b c d:Bool)(f g:Value):List Value:=[.bool a,.bool b,.bool c,.bool d,f,g]
def kf(k:Nat):Value:=.func (.func k) #[] #[]
def kindsCells:List Value :=
 kd false false false false .nilFunc .nilFunc++kd false false false true (kf 212) (kf 213)++kd false false false true (kf 214) (kf 215)++kd false true false true (kf 216) (kf 217) ++
 kd false false false true (kf 218) (kf 219)++kd true true false false (kf 220) (kf 222)++kd true true false false (kf 224) (kf 225)++kd false true false false (kf 226) (kf 227) ++
 kd false true true false (kf 228) (kf 230)++kd true false false false (kf 221) (kf 231)
noncomputable def laidWorld(os:Os):World :=
 {World.holding Tryz.prog os ⟨#[],#[],[]⟩ with heap:=(World.holding Tryz.prog os ⟨#[],#[],[]⟩).heap.modify 0 fun
   | .cells _ t frozen=>.cells kindsCells.toArray t frozen
   | o=>o}
theorem laid_met (os:Os) (args:Array Value):laidMetH Tryz.prog [("sizar/rules.kinds",Rows.laid_sizar_rules_kinds)] ((laidWorld os).forCall (fun _ _=>0) ⟨#[],args,[]⟩).memory :=
 laidMetH_of_parts3 (fuel:=8) (laidMet_nil _ _) (by kernel_rfl) (by kernel_rfl)
end Go.Vi
open Go Go.Proofs
namespace Go.Vi
set_option maxHeartbeats 4000000
open Go.ChangeShapes Go.WideShapes Go.ChangeAt Go.RowKit Go.Proofs.YthokmgafnhmlbaaGreatDoor
set_option maxRecDepth 100000
theorem cells90:Tryz.prog.cellsOf 90=3:=by kernel_rfl
theorem bytes90:Tryz.prog.bytesOf 90=24:=by kernel_rfl
theorem plain42:plainB Tryz.prog [3,42,90]=true:=by kernel_rfl
theorem shp_use{n:Nat}{ds:List Dp}(h:Shp Tryz.prog n 90 ds):∃a:UseT,ds=a.row∧True:=by
 cases n with
 | zero=>exact h.elim
 | succ n =>
  simp only[Shp,Tryz.underlying90,List.forall_mem_cons,cells3,cells90] at h
  obtain⟨hl,h1,h2,h3,_⟩:=h
  obtain⟨a,e1,_⟩:=shp_int h1
  obtain⟨b,e2,_⟩:=shp_int h2
  obtain⟨c,e3,_⟩:=shp_int h3
  match ds,hl with
  | [p,q,r],_ =>
   simp at e1 e2 e3
   subst e1;subst e2;subst e3
   exact⟨⟨a,b,c⟩,rfl,trivial⟩
theorem shp_uses{n:Nat}{ds:List Dp}(h:Shp Tryz.prog n 42 ds):∃l:List UseT,ds=[.sl (l.map UseT.row)]∧Short l:=by
 cases n with
 | zero=>exact h.elim
 | succ n =>
  simp only[Shp,Tryz.underlying42,bytes90] at h
  obtain⟨es,rfl,hb,he⟩:=h
  obtain⟨l,rfl,_⟩:=map_of (row:=UseT.row) (ok:=fun _=>True) (fun r hr=>shp_use (he r hr))
  exact⟨l,rfl,by have:=short_of hb (by omega);simpa[Short] using this⟩
theorem arg_uses{H:Type}{enc:TypeId×Value→H}{W:World}{base:Nat}{v:Value}{d:DataW H}{p:List MemPlace}
  (hok:Value.okWide Tryz.prog W .any base 42 v) (h:DataW.Trod enc Tryz.prog W 0 (fun _=>true) true 42 v d p) (hw:(d.weights Tryz.prog 42).all (· ≤ reachBytes)=true) :
  ∃l:List UseT,Short l∧Rel W (avs (fun _=>False) (fun _=>none) []) (fun _=>none) [] (rowsD' (l.map UseT.row)) v:=by
 obtain⟨fuel,hf⟩:=h
 unfold Value.okWide at hok
 rw[Tryz.underlying42] at hok
 have hc:v.cells.toList=[v]:=by
  cases v<;>first|rfl|skip
  unfold Cell.okWide at hok
  rw[Tryz.underlying42] at hok
  exact hok.elim
 rw[hc] at hf
 obtain⟨ds,h1,h2⟩:=open_plain plain42 av_start fuel 42 _ d p (by decide) hf hw
 obtain⟨l,rfl,hl⟩:=shp_uses h1
 refine⟨l,hl,?_⟩
 simp only[RelPL,and_true] at h2
 simpa[rowsD',Rel] using h2
end Go.Vi
