/- DegreeAuditSpec: part of the proof: contracts of the functions that the law reaches, and the law. No conditions beyond the given statement's own. -/
import Derived.Test.YthokmgafnhmlbaaGreatDoorW4
open Decidable renaming decide → Dd
open Go Go.Proofs
namespace Go.Vi
set_option maxRecDepth 100000
set_option maxHeartbeats 4000000
section
variable {l:List Bool} {b i:Nat} {a:Bool} {u:Int} {h:List Blk}
theorem vb_load(hb:h[b]? = some (.vec (vecB l) 0 1))(ha:l[i]? = some a):loadD Tryz.prog h 4 (.ref (.vp b 0 i 0))=some (bool a):=by
 have e1:(vecB l)[i]? = some [bool a]:=by simp[vecB,ha]
 unfold loadD
 simp only[hb,e1,if_true,List.drop_zero]
 rfl
theorem vb_in(h0:0≤u)(ha:l[u.toNat]? = some a):inR u (vecB l).length=true:=by
 have:=(List.getElem?_eq_some_iff.1 ha).1
 simp[inR,vecB];omega
theorem vb_lt(ha:l[i]? = some a):i<l.length:=(List.getElem?_eq_some_iff.1 ha).1
theorem vb_vp(ha:l[i]? = some a):VpIs Tryz.prog 4 (vecB l) 0 0 i 0 (bool a):=by
 have e1:(vecB l)[i]? = some [bool a]:=by simp[vecB,ha]
 unfold VpIs
 simp only[e1,if_true,List.drop_zero]
 rfl
end
abbrev rsH(met:List Bool)(by' l:List Int):List Blk:=[.vec (vecB met) 0 1,.vec (vecI by') 0 1,.vec (vecI l) 0 1]
abbrev rsT(es:List EdgT)(fs:List Int)(q v i:Int):List D:=mkT 147 0 [(1,rowsD' (es.map EdgT.row)),(2,rowsD' (inR1 fs)),(10,.ref (.vec 0 0)),(11,.ref (.vec 1 0)),(12,.ref (.vec 2 0)),(13,int q),(14,int v),(15,int i)]
abbrev rsS(es:List EdgT)(fs:List Int)(q v:Int)(met:List Bool)(by' l:List Int)(i:Int):AS:={t:=rsT es fs q v i,h:=rsH met by' l,m:=[]}
theorem rs_no{es:List EdgT}{fs by' l:List Int}{met:List Bool}{q v:Int}{i:Nat}{x:EdgT}(hr:RowAt (i:Int) (es.map EdgT.row) x.row 3)(hlt:Dd ((i:Int)<((es.map EdgT.row).length:Int))=true)(hw:IntKind.i64.wrap ((i:Int)+1)=((i+1:Nat):Int))(hv1:(x.frm==v)=false)(hv2:(x.to==v)=false):(CW Tryz.prog Γ0 [] false (sub Tryz.f77 1) (rsS es fs q v met by' l i) .normal (rsS es fs q v met by' l ((i+1:Nat):Int))):=by
 refine CW.cast (CW.symX (s':={t:=mkT 147 0 [(1,rowsD' (List.map EdgT.row es)),(2,rowsD' (inR1 fs)),(10,.ref (.vec 0 0)),(11,.ref (.vec 1 0)),(12,.ref (.vec 2 0)),(13,int q),(14,int v),(15,int (IntKind.wrap IntKind.i64 ((↑i:Int)+1)))],h:=[.vec (vecB met) 0 1,.vec (vecI by') 0 1,.vec (vecI l) 0 1],m:=[]}) (e:=Exit.normal) pok [.st (.mask [1,2,10,11,12,13,14,15])] [.b true,.row [vi x.frm,vi x.to,vi x.most],.g false,.g false,.g false,.g false,.g false,.g false,.g false,.g false,.g false,.g false,.ov 59 (bool false),.g false,.g false,.g false,.g false,.g false,.g false,.g false,.g false,.g false,.ov 70 (bool false),.b false,.row [vi x.frm,vi x.to,vi x.most],.g false,.g false,.g false,.g false,.g false,.ov 108 (bool false),.g false,.g false,.g false,.g false,.g false,.g false,.g false,.g false,.g false,.ov 119 (bool false),.b false] (by kernel_rfl) (.c hlt (.c hr (.c (show((x.frm==v)==true)=false from(by rw[hv1]<;>rfl)) (.c (show((x.frm==v)==true)=false from(by rw[hv1]<;>rfl)) (.c (show((x.frm==v)==true)=false from(by rw[hv1]<;>rfl)) (.c (show((x.frm==v)==true)=false from(by rw[hv1]<;>rfl)) (.c (show((x.frm==v)==true)=false from(by rw[hv1]<;>rfl)) (.c (show((x.frm==v)==true)=false from(by rw[hv1]<;>rfl)) (.c (show((x.frm==v)==true)=false from(by rw[hv1]<;>rfl)) (.c (show((x.frm==v)==true)=false from(by rw[hv1]<;>rfl)) (.c (show((x.frm==v)==true)=false from(by rw[hv1]<;>rfl)) (.c (show((x.frm==v)==true)=false from(by rw[hv1]<;>rfl)) (.c (show PickIs (bool (x.frm==v)) (D.p (Dp.v (Value.tuple {toList:=[]}))) (bool false) (bool false) from(pickIs_f hv1 rfl)) (.c (show(false==true)=false from rfl) (.c (show(false==true)=false from rfl) (.c (show(false==true)=false from rfl) (.c (show(false==true)=false from rfl) (.c (show(false==true)=false from rfl) (.c (show(false==true)=false from rfl) (.c (show(false==true)=false from rfl) (.c (show(false==true)=false from rfl) (.c (show(false==true)=false from rfl) (.c (show PickIs (bool false) (D.p (Dp.v (Value.tuple {toList:=[]}))) (bool false) (bool false) from(pickIs_f rfl rfl)) (.c (show false=false from rfl) (.c hr (.c (show((x.to==v)==true)=false from(by rw[hv2]<;>rfl)) (.c (show((x.to==v)==true)=false from(by rw[hv2]<;>rfl)) (.c (show((x.to==v)==true)=false from(by rw[hv2]<;>rfl)) (.c (show((x.to==v)==true)=false from(by rw[hv2]<;>rfl)) (.c (show((x.to==v)==true)=false from(by rw[hv2]<;>rfl)) (.c (show PickIs (bool (x.to==v)) (D.p (Dp.v (Value.tuple {toList:=[]}))) (bool false) (bool false) from(pickIs_f hv2 rfl)) (.c (show(false==true)=false from rfl) (.c (show(false==true)=false from rfl) (.c (show(false==true)=false from rfl) (.c (show(false==true)=false from rfl) (.c (show(false==true)=false from rfl) (.c (show(false==true)=false from rfl) (.c (show(false==true)=false from rfl) (.c (show(false==true)=false from rfl) (.c (show(false==true)=false from rfl) (.c (show PickIs (bool false) (D.p (Dp.v (Value.tuple {toList:=[]}))) (bool false) (bool false) from(pickIs_f rfl rfl)) (.c (show false=false from rfl) .n))))))))))))))))))))))))))))))))))))))))))) ?_ ?_<;>(first|rfl|(rw[hw]<;>rfl))
theorem rs_f0{es:List EdgT}{fs by' l:List Int}{met:List Bool}{q v f:Int}{i:Nat}{x:EdgT}(hr:RowAt (i:Int) (es.map EdgT.row) x.row 3)(hf:RowAt (i:Int) (inR1 fs) [vi f] 1)(hlt:Dd ((i:Int)<((es.map EdgT.row).length:Int))=true)(hw:IntKind.i64.wrap ((i:Int)+1)=((i+1:Nat):Int))(hv1:(x.frm==v)=true)(hc:Dd (f<x.most)=false)(hv2:(x.to==v)=false):(CW Tryz.prog Γ0 [] false (sub Tryz.f77 1) (rsS es fs q v met by' l i) .normal (rsS es fs q v met by' l ((i+1:Nat):Int))):=by
 refine CW.cast (CW.symX (s':={t:=mkT 147 0 [(1,rowsD' (List.map EdgT.row es)),(2,rowsD' (inR1 fs)),(10,.ref (.vec 0 0)),(11,.ref (.vec 1 0)),(12,.ref (.vec 2 0)),(13,int q),(14,int v),(15,int (IntKind.wrap IntKind.i64 ((↑i:Int)+1)))],h:=[.vec (vecB met) 0 1,.vec (vecI by') 0 1,.vec (vecI l) 0 1],m:=[]}) (e:=Exit.normal) pok [.st (.mask [1,2,10,11,12,13,14,15])] [.b true,.row [vi x.frm,vi x.to,vi x.most],.g true,.g true,.g true,.row [vi f],.g true,.g true,.g true,.g true,.row [vi x.frm,vi x.to,vi x.most],.g true,.g true,.g true,.ov 59 (bool (Dd (f<x.most))),.g false,.g false,.g false,.g false,.g false,.g false,.g false,.g false,.g false,.ov 70 (bool false),.b false,.row [vi x.frm,vi x.to,vi x.most],.g false,.g false,.g false,.g false,.g false,.ov 108 (bool false),.g false,.g false,.g false,.g false,.g false,.g false,.g false,.g false,.g false,.ov 119 (bool false),.b false] (by kernel_rfl) (.c hlt (.c hr (.c (show((x.frm==v)==true)=true from(by rw[hv1]<;>rfl)) (.c (show((x.frm==v)==true)=true from(by rw[hv1]<;>rfl)) (.c (show((x.frm==v)==true)=true from(by rw[hv1]<;>rfl)) (.c hf (.c (show((x.frm==v)==true)=true from(by rw[hv1]<;>rfl)) (.c (show((x.frm==v)==true)=true from(by rw[hv1]<;>rfl)) (.c (show((x.frm==v)==true)=true from(by rw[hv1]<;>rfl)) (.c (show((x.frm==v)==true)=true from(by rw[hv1]<;>rfl)) (.c hr (.c (show((x.frm==v)==true)=true from(by rw[hv1]<;>rfl)) (.c (show((x.frm==v)==true)=true from(by rw[hv1]<;>rfl)) (.c (show((x.frm==v)==true)=true from(by rw[hv1]<;>rfl)) (.c (show PickIs (bool (x.frm==v)) (bool (Dd (f<x.most))) (bool false) (bool (Dd (f<x.most))) from(pickIs_t hv1 rfl)) (.c (show(Dd (f<x.most)==true)=false from(by rw[hc]<;>rfl)) (.c (show(Dd (f<x.most)==true)=false from(by rw[hc]<;>rfl)) (.c (show(Dd (f<x.most)==true)=false from(by rw[hc]<;>rfl)) (.c (show(Dd (f<x.most)==true)=false from(by rw[hc]<;>rfl)) (.c (show(Dd (f<x.most)==true)=false from(by rw[hc]<;>rfl)) (.c (show(Dd (f<x.most)==true)=false from(by rw[hc]<;>rfl)) (.c (show(Dd (f<x.most)==true)=false from(by rw[hc]<;>rfl)) (.c (show(Dd (f<x.most)==true)=false from(by rw[hc]<;>rfl)) (.c (show(Dd (f<x.most)==true)=false from(by rw[hc]<;>rfl)) (.c (show PickIs (bool (Dd (f<x.most))) (D.p (Dp.v (Value.tuple {toList:=[]}))) (bool false) (bool false) from(pickIs_f hc rfl)) (.c (show false=false from rfl) (.c hr (.c (show((x.to==v)==true)=false from(by rw[hv2]<;>rfl)) (.c (show((x.to==v)==true)=false from(by rw[hv2]<;>rfl)) (.c (show((x.to==v)==true)=false from(by rw[hv2]<;>rfl)) (.c (show((x.to==v)==true)=false from(by rw[hv2]<;>rfl)) (.c (show((x.to==v)==true)=false from(by rw[hv2]<;>rfl)) (.c (show PickIs (bool (x.to==v)) (D.p (Dp.v (Value.tuple {toList:=[]}))) (bool false) (bool false) from(pickIs_f hv2 rfl)) (.c (show(false==true)=false from rfl) (.c (show(false==true)=false from rfl) (.c (show(false==true)=false from rfl) (.c (show(false==true)=false from rfl) (.c (show(false==true)=false from rfl) (.c (show(false==true)=false from rfl) (.c (show(false==true)=false from rfl) (.c (show(false==true)=false from rfl) (.c (show(false==true)=false from rfl) (.c (show PickIs (bool false) (D.p (Dp.v (Value.tuple {toList:=[]}))) (bool false) (bool false) from(pickIs_f rfl rfl)) (.c (show false=false from rfl) .n))))))))))))))))))))))))))))))))))))))))))))) ?_ ?_<;>(first|rfl|(rw[hw]<;>rfl))
theorem rs_f1{es:List EdgT}{fs by' l:List Int}{met:List Bool}{q v f:Int}{i:Nat}{x:EdgT}(hr:RowAt (i:Int) (es.map EdgT.row) x.row 3)(hf:RowAt (i:Int) (inR1 fs) [vi f] 1)(hlt:Dd ((i:Int)<((es.map EdgT.row).length:Int))=true)(hw:IntKind.i64.wrap ((i:Int)+1)=((i+1:Nat):Int))(hv1:(x.frm==v)=true)(hc:Dd (f<x.most)=true)(hv2:(x.to==v)=false)(h0:0≤x.to)(hm:met[x.to.toNat]? = some true):(CW Tryz.prog Γ0 [] false (sub Tryz.f77 1) (rsS es fs q v met by' l i) .normal (rsS es fs q v met by' l ((i+1:Nat):Int))):=by
 refine CW.cast (CW.symX (s':={t:=mkT 147 0 [(1,rowsD' (List.map EdgT.row es)),(2,rowsD' (inR1 fs)),(10,.ref (.vec 0 0)),(11,.ref (.vec 1 0)),(12,.ref (.vec 2 0)),(13,int q),(14,int v),(15,int (IntKind.wrap IntKind.i64 ((↑i:Int)+1)))],h:=[.vec (vecB met) 0 1,.vec (vecI by') 0 1,.vec (vecI l) 0 1],m:=[]}) (e:=Exit.normal) pok [.st (.mask [1,2,10,11,12,13,14,15])] [.b true,.row [vi x.frm,vi x.to,vi x.most],.g true,.g true,.g true,.row [vi f],.g true,.g true,.g true,.g true,.row [vi x.frm,vi x.to,vi x.most],.g true,.g true,.g true,.ov 59 (bool (Dd (f<x.most))),.g true,.g true,.g true,.g true,.row [vi x.frm,vi x.to,vi x.most],.g true,.g true,.g true,.g true,.ov 68 (bool true),.g true,.ov 70 (bool !true),.b false,.row [vi x.frm,vi x.to,vi x.most],.g false,.g false,.g false,.g false,.g false,.ov 108 (bool false),.g false,.g false,.g false,.g false,.g false,.g false,.g false,.g false,.g false,.ov 119 (bool false),.b false] (by kernel_rfl) (.c hlt (.c hr (.c (show((x.frm==v)==true)=true from(by rw[hv1]<;>rfl)) (.c (show((x.frm==v)==true)=true from(by rw[hv1]<;>rfl)) (.c (show((x.frm==v)==true)=true from(by rw[hv1]<;>rfl)) (.c hf (.c (show((x.frm==v)==true)=true from(by rw[hv1]<;>rfl)) (.c (show((x.frm==v)==true)=true from(by rw[hv1]<;>rfl)) (.c (show((x.frm==v)==true)=true from(by rw[hv1]<;>rfl)) (.c (show((x.frm==v)==true)=true from(by rw[hv1]<;>rfl)) (.c hr (.c (show((x.frm==v)==true)=true from(by rw[hv1]<;>rfl)) (.c (show((x.frm==v)==true)=true from(by rw[hv1]<;>rfl)) (.c (show((x.frm==v)==true)=true from(by rw[hv1]<;>rfl)) (.c (show PickIs (bool (x.frm==v)) (bool (Dd (f<x.most))) (bool false) (bool (Dd (f<x.most))) from(pickIs_t hv1 rfl)) (.c (show(Dd (f<x.most)==true)=true from(by rw[hc]<;>rfl)) (.c (show(Dd (f<x.most)==true)=true from(by rw[hc]<;>rfl)) (.c (show(Dd (f<x.most)==true)=true from(by rw[hc]<;>rfl)) (.c (show(Dd (f<x.most)==true)=true from(by rw[hc]<;>rfl)) (.c hr (.c (show(Dd (f<x.most)==true)=true from(by rw[hc]<;>rfl)) (.c (show(Dd (f<x.most)==true)=true from(by rw[hc]<;>rfl)) (.c (show(Dd (f<x.most)==true)=true from(by rw[hc]<;>rfl)) (.c (show inR x.to (List.length (vecB met))=true from ?_) (.c (show(Dd (f<x.most)==true)=true from(by rw[hc]<;>rfl)) (.c (show loadD Tryz.prog [.vec (vecB met) 0 1,.vec (vecI by') 0 1,.vec (vecI l) 0 1] 4 (.ref (.vp 0 0 (Int.toNat x.to) 0))=some (bool true) from ?_) (.c (show(Dd (f<x.most)==true)=true from(by rw[hc]<;>rfl)) (.c (show PickIs (bool (Dd (f<x.most))) (bool !true) (bool false) (bool !true) from(pickIs_t hc rfl)) (.c (show(!true)=false from rfl) (.c hr (.c (show((x.to==v)==true)=false from(by rw[hv2]<;>rfl)) (.c (show((x.to==v)==true)=false from(by rw[hv2]<;>rfl)) (.c (show((x.to==v)==true)=false from(by rw[hv2]<;>rfl)) (.c (show((x.to==v)==true)=false from(by rw[hv2]<;>rfl)) (.c (show((x.to==v)==true)=false from(by rw[hv2]<;>rfl)) (.c (show PickIs (bool (x.to==v)) (D.p (Dp.v (Value.tuple {toList:=[]}))) (bool false) (bool false) from(pickIs_f hv2 rfl)) (.c (show(false==true)=false from rfl) (.c (show(false==true)=false from rfl) (.c (show(false==true)=false from rfl) (.c (show(false==true)=false from rfl) (.c (show(false==true)=false from rfl) (.c (show(false==true)=false from rfl) (.c (show(false==true)=false from rfl) (.c (show(false==true)=false from rfl) (.c (show(false==true)=false from rfl) (.c (show PickIs (bool false) (D.p (Dp.v (Value.tuple {toList:=[]}))) (bool false) (bool false) from(pickIs_f rfl rfl)) (.c (show false=false from rfl) .n)))))))))))))))))))))))))))))))))))))))))))))))) (by first|rfl|(rw[hw]<;>rfl)) (by first|rfl|(rw[hw]<;>rfl))<;>(first|assumption|rfl|exact vb_in h0 hm|exact vb_load rfl hm|exact vb_vp hm)
theorem rs_f2{es:List EdgT}{fs by' l:List Int}{met:List Bool}{q v f b:Int}{i:Nat}{x:EdgT}(hr:RowAt (i:Int) (es.map EdgT.row) x.row 3)(hf:RowAt (i:Int) (inR1 fs) [vi f] 1)(hlt:Dd ((i:Int)<((es.map EdgT.row).length:Int))=true)(hw:IntKind.i64.wrap ((i:Int)+1)=((i+1:Nat):Int))(hv1:(x.frm==v)=true)(hc:Dd (f<x.most)=true)(hv2:(x.to==v)=false)(h0:0≤x.to)(hm:met[x.to.toNat]? = some false)(hb:by'[x.to.toNat]? = some b)(hl:l.length≤100000):(CW Tryz.prog Γ0 [] false (sub Tryz.f77 1) (rsS es fs q v met by' l i) .normal (rsS es fs q v (met.set x.to.toNat true) (by'.set x.to.toNat (IntKind.i64.wrap ((i:Int)+1))) (l++[x.to]) ((i+1:Nat):Int))):=by
 refine CW.cast (CW.symX (s':={t:=mkT 147 0 [(1,rowsD' (List.map EdgT.row es)),(2,rowsD' (inR1 fs)),(10,.ref (.vec 0 0)),(11,.ref (.vec 1 0)),(12,.ref (.vec 2 0)),(13,int q),(14,int v),(15,int (IntKind.wrap IntKind.i64 ((↑i:Int)+1)))],h:=[.vec (vecB (List.set met (Int.toNat x.to) true)) 0 1,.vec (vecI (List.set by' (Int.toNat x.to) (IntKind.wrap IntKind.i64 ((↑i:Int)+1)))) 0 1,.vec (vecI l++[[int x.to]]) 0 1],m:=[]}) (e:=Exit.normal) pok [.st (.mask [1,2,10,11,12,13,14,15]),.st (.ren 2 0),.st (.trimV 3)] [.b true,.row [vi x.frm,vi x.to,vi x.most],.g true,.g true,.g true,.row [vi f],.g true,.g true,.g true,.g true,.row [vi x.frm,vi x.to,vi x.most],.g true,.g true,.g true,.ov 59 (bool (Dd (f<x.most))),.g true,.g true,.g true,.g true,.row [vi x.frm,vi x.to,vi x.most],.g true,.g true,.g true,.g true,.ov 68 (bool false),.g true,.ov 70 (bool !false),.b true,.row [vi x.frm,vi x.to,vi x.most],.oh 10077 D.any (rsH (List.set met (Int.toNat x.to) true) by' l),.row [vi x.frm,vi x.to,vi x.most],.oh 10086 D.any (rsH (List.set met (Int.toNat x.to) true) (List.set by' (Int.toNat x.to) (IntKind.wrap IntKind.i64 ((↑i:Int)+1))) l),.row [vi x.frm,vi x.to,vi x.most],.row [vi x.frm,vi x.to,vi x.most],.g false,.g false,.g false,.g false,.g false,.ov 108 (bool false),.g false,.g false,.g false,.g false,.g false,.g false,.g false,.g false,.g false,.ov 119 (bool false),.b false] (by kernel_rfl) (.c hlt (.c hr (.c (show((x.frm==v)==true)=true from(by rw[hv1]<;>rfl)) (.c (show((x.frm==v)==true)=true from(by rw[hv1]<;>rfl)) (.c (show((x.frm==v)==true)=true from(by rw[hv1]<;>rfl)) (.c hf (.c (show((x.frm==v)==true)=true from(by rw[hv1]<;>rfl)) (.c (show((x.frm==v)==true)=true from(by rw[hv1]<;>rfl)) (.c (show((x.frm==v)==true)=true from(by rw[hv1]<;>rfl)) (.c (show((x.frm==v)==true)=true from(by rw[hv1]<;>rfl)) (.c hr (.c (show((x.frm==v)==true)=true from(by rw[hv1]<;>rfl)) (.c (show((x.frm==v)==true)=true from(by rw[hv1]<;>rfl)) (.c (show((x.frm==v)==true)=true from(by rw[hv1]<;>rfl)) (.c (show PickIs (bool (x.frm==v)) (bool (Dd (f<x.most))) (bool false) (bool (Dd (f<x.most))) from(pickIs_t hv1 rfl)) (.c (show(Dd (f<x.most)==true)=true from(by rw[hc]<;>rfl)) (.c (show(Dd (f<x.most)==true)=true from(by rw[hc]<;>rfl)) (.c (show(Dd (f<x.most)==true)=true from(by rw[hc]<;>rfl)) (.c (show(Dd (f<x.most)==true)=true from(by rw[hc]<;>rfl)) (.c hr (.c (show(Dd (f<x.most)==true)=true from(by rw[hc]<;>rfl)) (.c (show(Dd (f<x.most)==true)=true from(by rw[hc]<;>rfl)) (.c (show(Dd (f<x.most)==true)=true from(by rw[hc]<;>rfl)) (.c (show inR x.to (List.length (vecB met))=true from ?_) (.c (show(Dd (f<x.most)==true)=true from(by rw[hc]<;>rfl)) (.c (show loadD Tryz.prog [.vec (vecB met) 0 1,.vec (vecI by') 0 1,.vec (vecI l) 0 1] 4 (.ref (.vp 0 0 (Int.toNat x.to) 0))=some (bool false) from ?_) (.c (show(Dd (f<x.most)==true)=true from(by rw[hc]<;>rfl)) (.c (show PickIs (bool (Dd (f<x.most))) (bool !false) (bool false) (bool !false) from(pickIs_t hc rfl)) (.c (show(!false)=true from rfl) (.c hr (.c (show inR x.to (List.length (vecB met))=true from ?_) (.c (show storeD Tryz.prog [.vec (vecB met) 0 1,.vec (vecI by') 0 1,.vec (vecI l) 0 1] 4 (.ref (.vp 0 0 (Int.toNat x.to) 0)) (evalD Γ0 (mkT 147 0 [(1,rowsD' (List.map EdgT.row es)),(2,rowsD' (inR1 fs)),(10,.ref (.vec 0 0)),(11,.ref (.vec 1 0)),(12,.ref (.vec 2 0)),(13,int q),(14,int v),(15,int (↑i:Int)),(35,int (↑i:Int)),(36,rowsD' (List.map EdgT.row es)),(37,int (↑(List.length (List.map EdgT.row es)):Int)),(38,bool (Dd ((↑i:Int)<(↑(List.length (List.map EdgT.row es)):Int)))),(41,rowsD' (List.map EdgT.row es)),(42,int (↑i:Int)),(43,D.ep [vi x.frm,vi x.to,vi x.most]),(44,D.ep [vi x.frm,vi x.to,vi x.most]),(45,int x.frm),(46,int v),(47,bool (x.frm==v)),(48,bool (x.frm==v)),(49,rowsD' (inR1 fs)),(50,int (↑i:Int)),(51,D.ep [vi f]),(52,int f),(53,rowsD' (List.map EdgT.row es)),(54,int (↑i:Int)),(55,D.ep [vi x.frm,vi x.to,vi x.most]),(56,D.ep [vi x.most]),(57,int x.most),(58,bool (Dd (f<x.most))),(59,bool (Dd (f<x.most))),(60,bool (Dd (f<x.most))),(61,.ref (.vec 0 0)),(62,rowsD' (List.map EdgT.row es)),(63,int (↑i:Int)),(64,D.ep [vi x.frm,vi x.to,vi x.most]),(65,D.ep [vi x.to,vi x.most]),(66,int x.to),(67,.ref (.vp 0 0 (Int.toNat x.to) 0)),(68,bool false),(69,bool !false),(70,bool !false),(71,.ref (.vec 0 0)),(72,rowsD' (List.map EdgT.row es)),(73,int (↑i:Int)),(74,D.ep [vi x.frm,vi x.to,vi x.most]),(75,D.ep [vi x.to,vi x.most]),(76,int x.to),(77,.ref (.vp 0 0 (Int.toNat x.to) 0))]) (Operand.const (Value.bool true)))=some [.vec (vecB (List.set met (Int.toNat x.to) true)) 0 1,.vec (vecI by') 0 1,.vec (vecI l) 0 1] from ?_) (.c hr (.c (show inR x.to (List.length (vecI by'))=true from ?_) (.c (show storeD Tryz.prog [.vec (vecB (List.set met (Int.toNat x.to) true)) 0 1,.vec (vecI by') 0 1,.vec (vecI l) 0 1] 3 (.ref (.vp 1 0 (Int.toNat x.to) 0)) (int (IntKind.wrap IntKind.i64 ((↑i:Int)+1)))=some [.vec (vecB (List.set met (Int.toNat x.to) true)) 0 1,.vec (vecI (List.set by' (Int.toNat x.to) (IntKind.wrap IntKind.i64 ((↑i:Int)+1)))) 0 1,.vec (vecI l) 0 1] from ?_) (.c hr (.c (show(List.all [[int x.to]] (rowOk 1)&&roomOk (List.length (vecI l)+List.length [[int x.to]]) 8)=true from ?_) (.c hr (.c (show((x.to==v)==true)=false from(by rw[hv2]<;>rfl)) (.c (show((x.to==v)==true)=false from(by rw[hv2]<;>rfl)) (.c (show((x.to==v)==true)=false from(by rw[hv2]<;>rfl)) (.c (show((x.to==v)==true)=false from(by rw[hv2]<;>rfl)) (.c (show((x.to==v)==true)=false from(by rw[hv2]<;>rfl)) (.c (show PickIs (bool (x.to==v)) (D.p (Dp.v (Value.tuple {toList:=[]}))) (bool false) (bool false) from(pickIs_f hv2 rfl)) (.c (show(false==true)=false from rfl) (.c (show(false==true)=false from rfl) (.c (show(false==true)=false from rfl) (.c (show(false==true)=false from rfl) (.c (show(false==true)=false from rfl) (.c (show(false==true)=false from rfl) (.c (show(false==true)=false from rfl) (.c (show(false==true)=false from rfl) (.c (show(false==true)=false from rfl) (.c (show PickIs (bool false) (D.p (Dp.v (Value.tuple {toList:=[]}))) (bool false) (bool false) from(pickIs_f rfl rfl)) (.c (show false=false from rfl) (.c (show List.map (D.mapRL (renR 2 1 0)) (vecI l++[[int x.to]])=vecI l++[[int x.to]] from ?_) (.c (show List.map (D.mapRL (renR 2 1 0)) (vecB (List.set met (Int.toNat x.to) true))=vecB (List.set met (Int.toNat x.to) true) from ?_) (.c (show List.map (D.mapRL (renR 2 1 0)) (vecI (List.set by' (Int.toNat x.to) (IntKind.wrap IntKind.i64 ((↑i:Int)+1))))=vecI (List.set by' (Int.toNat x.to) (IntKind.wrap IntKind.i64 ((↑i:Int)+1))) from ?_) (.c (show [[int x.to]]=[[int x.to]] from rfl) (.c (show Blk.inn 3 (match 0==2 with|true=>.vec (vecI l++[[int x.to]]) 0 1|false=>keepX (renR 2 1 0) (.vec (vecB (List.set met (Int.toNat x.to) true)) 0 1))=true from ?_) (.c (show Blk.inn 3 (match 0+1==2 with|true=>.vec (vecI l++[[int x.to]]) 0 1|false=>keepX (renR 2 1 0) (.vec (vecI (List.set by' (Int.toNat x.to) (IntKind.wrap IntKind.i64 ((↑i:Int)+1)))) 0 1))=true from ?_) (.c (show Blk.inn 3 (match 0+1+1==2 with|true=>.vec (vecI l++[[int x.to]]) 0 1|false=>keepX (renR 2 1 0) (.vec (vecI l++[[int x.to]]) 1 1))=true from ?_) .n))))))))))))))))))))))))))))))))))))))))))))))))))))))))))))))) (by(simp only[vecI_app,hw];first|done|rfl)) (by(simp only[vecI_app,hw];first|done|rfl))<;>(first|assumption|rfl|exact vb_in h0 hm|exact vb_load rfl hm|exact vb_vp hm|exact vg_in h0 hb|exact vb_store rfl (vb_lt hm)|exact vg_store rfl (vg_lt hb)|exact vecI_map _ _|exact vecI_inn _ _|exact vecB_map _ _|exact vecB_inn _ _|(rw[vecI_app];exact vecI_map _ _)|(rw[vecI_app];exact vecI_inn _ _)|(simp[rowOk,D.one,Value.oneCell',roomOk,vecI_len];omega))
theorem rs_t0{es:List EdgT}{fs by' l:List Int}{met:List Bool}{q v f:Int}{i:Nat}{x:EdgT}(hr:RowAt (i:Int) (es.map EdgT.row) x.row 3)(hf:RowAt (i:Int) (inR1 fs) [vi f] 1)(hlt:Dd ((i:Int)<((es.map EdgT.row).length:Int))=true)(hw:IntKind.i64.wrap ((i:Int)+1)=((i+1:Nat):Int))(hv1:(x.frm==v)=false)(hv2:(x.to==v)=true)(hc:Dd (f>0)=false):(CW Tryz.prog Γ0 [] false (sub Tryz.f77 1) (rsS es fs q v met by' l i) .normal (rsS es fs q v met by' l ((i+1:Nat):Int))):=by
 refine CW.cast (CW.symX (s':={t:=mkT 147 0 [(1,rowsD' (List.map EdgT.row es)),(2,rowsD' (inR1 fs)),(10,.ref (.vec 0 0)),(11,.ref (.vec 1 0)),(12,.ref (.vec 2 0)),(13,int q),(14,int v),(15,int (IntKind.wrap IntKind.i64 ((↑i:Int)+1)))],h:=[.vec (vecB met) 0 1,.vec (vecI by') 0 1,.vec (vecI l) 0 1],m:=[]}) (e:=Exit.normal) pok [.st (.mask [1,2,10,11,12,13,14,15])] [.b true,.row [vi x.frm,vi x.to,vi x.most],.g false,.g false,.g false,.g false,.g false,.g false,.g false,.g false,.g false,.g false,.ov 59 (bool false),.g false,.g false,.g false,.g false,.g false,.g false,.g false,.g false,.g false,.ov 70 (bool false),.b false,.row [vi x.frm,vi x.to,vi x.most],.g true,.g true,.g true,.row [vi f],.g true,.g true,.ov 108 (bool (Dd (f>0))),.g false,.g false,.g false,.g false,.g false,.g false,.g false,.g false,.g false,.ov 119 (bool false),.b false] (by kernel_rfl) (.c hlt (.c hr (.c (show((x.frm==v)==true)=false from(by rw[hv1]<;>rfl)) (.c (show((x.frm==v)==true)=false from(by rw[hv1]<;>rfl)) (.c (show((x.frm==v)==true)=false from(by rw[hv1]<;>rfl)) (.c (show((x.frm==v)==true)=false from(by rw[hv1]<;>rfl)) (.c (show((x.frm==v)==true)=false from(by rw[hv1]<;>rfl)) (.c (show((x.frm==v)==true)=false from(by rw[hv1]<;>rfl)) (.c (show((x.frm==v)==true)=false from(by rw[hv1]<;>rfl)) (.c (show((x.frm==v)==true)=false from(by rw[hv1]<;>rfl)) (.c (show((x.frm==v)==true)=false from(by rw[hv1]<;>rfl)) (.c (show((x.frm==v)==true)=false from(by rw[hv1]<;>rfl)) (.c (show PickIs (bool (x.frm==v)) (D.p (Dp.v (Value.tuple {toList:=[]}))) (bool false) (bool false) from(pickIs_f hv1 rfl)) (.c (show(false==true)=false from rfl) (.c (show(false==true)=false from rfl) (.c (show(false==true)=false from rfl) (.c (show(false==true)=false from rfl) (.c (show(false==true)=false from rfl) (.c (show(false==true)=false from rfl) (.c (show(false==true)=false from rfl) (.c (show(false==true)=false from rfl) (.c (show(false==true)=false from rfl) (.c (show PickIs (bool false) (D.p (Dp.v (Value.tuple {toList:=[]}))) (bool false) (bool false) from(pickIs_f rfl rfl)) (.c (show false=false from rfl) (.c hr (.c (show((x.to==v)==true)=true from(by rw[hv2]<;>rfl)) (.c (show((x.to==v)==true)=true from(by rw[hv2]<;>rfl)) (.c (show((x.to==v)==true)=true from(by rw[hv2]<;>rfl)) (.c hf (.c (show((x.to==v)==true)=true from(by rw[hv2]<;>rfl)) (.c (show((x.to==v)==true)=true from(by rw[hv2]<;>rfl)) (.c (show PickIs (bool (x.to==v)) (bool (Dd (f>0))) (bool false) (bool (Dd (f>0))) from(pickIs_t hv2 rfl)) (.c (show(Dd (f>0)==true)=false from(by rw[hc]<;>rfl)) (.c (show(Dd (f>0)==true)=false from(by rw[hc]<;>rfl)) (.c (show(Dd (f>0)==true)=false from(by rw[hc]<;>rfl)) (.c (show(Dd (f>0)==true)=false from(by rw[hc]<;>rfl)) (.c (show(Dd (f>0)==true)=false from(by rw[hc]<;>rfl)) (.c (show(Dd (f>0)==true)=false from(by rw[hc]<;>rfl)) (.c (show(Dd (f>0)==true)=false from(by rw[hc]<;>rfl)) (.c (show(Dd (f>0)==true)=false from(by rw[hc]<;>rfl)) (.c (show(Dd (f>0)==true)=false from(by rw[hc]<;>rfl)) (.c (show PickIs (bool (Dd (f>0))) (D.p (Dp.v (Value.tuple {toList:=[]}))) (bool false) (bool false) from(pickIs_f hc rfl)) (.c (show false=false from rfl) .n)))))))))))))))))))))))))))))))))))))))))))) ?_ ?_<;>(first|rfl|(rw[hw]<;>rfl))
theorem rs_t1{es:List EdgT}{fs by' l:List Int}{met:List Bool}{q v f:Int}{i:Nat}{x:EdgT}(hr:RowAt (i:Int) (es.map EdgT.row) x.row 3)(hf:RowAt (i:Int) (inR1 fs) [vi f] 1)(hlt:Dd ((i:Int)<((es.map EdgT.row).length:Int))=true)(hw:IntKind.i64.wrap ((i:Int)+1)=((i+1:Nat):Int))(hv1:(x.frm==v)=false)(hv2:(x.to==v)=true)(hc:Dd (f>0)=true)(h0:0≤x.frm)(hm:met[x.frm.toNat]? = some true):(CW Tryz.prog Γ0 [] false (sub Tryz.f77 1) (rsS es fs q v met by' l i) .normal (rsS es fs q v met by' l ((i+1:Nat):Int))):=by
 refine CW.cast (CW.symX (s':={t:=mkT 147 0 [(1,rowsD' (List.map EdgT.row es)),(2,rowsD' (inR1 fs)),(10,.ref (.vec 0 0)),(11,.ref (.vec 1 0)),(12,.ref (.vec 2 0)),(13,int q),(14,int v),(15,int (IntKind.wrap IntKind.i64 ((↑i:Int)+1)))],h:=[.vec (vecB met) 0 1,.vec (vecI by') 0 1,.vec (vecI l) 0 1],m:=[]}) (e:=Exit.normal) pok [.st (.mask [1,2,10,11,12,13,14,15])] [.b true,.row [vi x.frm,vi x.to,vi x.most],.g false,.g false,.g false,.g false,.g false,.g false,.g false,.g false,.g false,.g false,.ov 59 (bool false),.g false,.g false,.g false,.g false,.g false,.g false,.g false,.g false,.g false,.ov 70 (bool false),.b false,.row [vi x.frm,vi x.to,vi x.most],.g true,.g true,.g true,.row [vi f],.g true,.g true,.ov 108 (bool (Dd (f>0))),.g true,.g true,.g true,.g true,.row [vi x.frm,vi x.to,vi x.most],.g true,.g true,.g true,.g true,.ov 117 (bool true),.g true,.ov 119 (bool !true),.b false] (by kernel_rfl) (.c hlt (.c hr (.c (show((x.frm==v)==true)=false from(by rw[hv1]<;>rfl)) (.c (show((x.frm==v)==true)=false from(by rw[hv1]<;>rfl)) (.c (show((x.frm==v)==true)=false from(by rw[hv1]<;>rfl)) (.c (show((x.frm==v)==true)=false from(by rw[hv1]<;>rfl)) (.c (show((x.frm==v)==true)=false from(by rw[hv1]<;>rfl)) (.c (show((x.frm==v)==true)=false from(by rw[hv1]<;>rfl)) (.c (show((x.frm==v)==true)=false from(by rw[hv1]<;>rfl)) (.c (show((x.frm==v)==true)=false from(by rw[hv1]<;>rfl)) (.c (show((x.frm==v)==true)=false from(by rw[hv1]<;>rfl)) (.c (show((x.frm==v)==true)=false from(by rw[hv1]<;>rfl)) (.c (show PickIs (bool (x.frm==v)) (D.p (Dp.v (Value.tuple {toList:=[]}))) (bool false) (bool false) from(pickIs_f hv1 rfl)) (.c (show(false==true)=false from rfl) (.c (show(false==true)=false from rfl) (.c (show(false==true)=false from rfl) (.c (show(false==true)=false from rfl) (.c (show(false==true)=false from rfl) (.c (show(false==true)=false from rfl) (.c (show(false==true)=false from rfl) (.c (show(false==true)=false from rfl) (.c (show(false==true)=false from rfl) (.c (show PickIs (bool false) (D.p (Dp.v (Value.tuple {toList:=[]}))) (bool false) (bool false) from(pickIs_f rfl rfl)) (.c (show false=false from rfl) (.c hr (.c (show((x.to==v)==true)=true from(by rw[hv2]<;>rfl)) (.c (show((x.to==v)==true)=true from(by rw[hv2]<;>rfl)) (.c (show((x.to==v)==true)=true from(by rw[hv2]<;>rfl)) (.c hf (.c (show((x.to==v)==true)=true from(by rw[hv2]<;>rfl)) (.c (show((x.to==v)==true)=true from(by rw[hv2]<;>rfl)) (.c (show PickIs (bool (x.to==v)) (bool (Dd (f>0))) (bool false) (bool (Dd (f>0))) from(pickIs_t hv2 rfl)) (.c (show(Dd (f>0)==true)=true from(by rw[hc]<;>rfl)) (.c (show(Dd (f>0)==true)=true from(by rw[hc]<;>rfl)) (.c (show(Dd (f>0)==true)=true from(by rw[hc]<;>rfl)) (.c (show(Dd (f>0)==true)=true from(by rw[hc]<;>rfl)) (.c hr (.c (show(Dd (f>0)==true)=true from(by rw[hc]<;>rfl)) (.c (show(Dd (f>0)==true)=true from(by rw[hc]<;>rfl)) (.c (show(Dd (f>0)==true)=true from(by rw[hc]<;>rfl)) (.c (show inR x.frm (List.length (vecB met))=true from ?_) (.c (show(Dd (f>0)==true)=true from(by rw[hc]<;>rfl)) (.c (show loadD Tryz.prog [.vec (vecB met) 0 1,.vec (vecI by') 0 1,.vec (vecI l) 0 1] 4 (.ref (.vp 0 0 (Int.toNat x.frm) 0))=some (bool true) from ?_) (.c (show(Dd (f>0)==true)=true from(by rw[hc]<;>rfl)) (.c (show PickIs (bool (Dd (f>0))) (bool !true) (bool false) (bool !true) from(pickIs_t hc rfl)) (.c (show(!true)=false from rfl) .n))))))))))))))))))))))))))))))))))))))))))))))) (by first|rfl|(rw[hw]<;>rfl)) (by first|rfl|(rw[hw]<;>rfl))<;>(first|assumption|rfl|exact vb_in h0 hm|exact vb_load rfl hm|exact vb_vp hm)
theorem rs_t2{es:List EdgT}{fs by' l:List Int}{met:List Bool}{q v f b:Int}{i:Nat}{x:EdgT}(hr:RowAt (i:Int) (es.map EdgT.row) x.row 3)(hf:RowAt (i:Int) (inR1 fs) [vi f] 1)(hlt:Dd ((i:Int)<((es.map EdgT.row).length:Int))=true)(hw:IntKind.i64.wrap ((i:Int)+1)=((i+1:Nat):Int))(hv1:(x.frm==v)=false)(hv2:(x.to==v)=true)(hc:Dd (f>0)=true)(h0:0≤x.frm)(hm:met[x.frm.toNat]? = some false)(hb:by'[x.frm.toNat]? = some b)(hl:l.length≤100000):(CW Tryz.prog Γ0 [] false (sub Tryz.f77 1) (rsS es fs q v met by' l i) .normal (rsS es fs q v (met.set x.frm.toNat true) (by'.set x.frm.toNat (IntKind.i64.wrap (0 - IntKind.i64.wrap ((i:Int)+1)))) (l++[x.frm]) ((i+1:Nat):Int))):=by
 refine CW.cast (CW.symX (s':={t:=mkT 147 0 [(1,rowsD' (List.map EdgT.row es)),(2,rowsD' (inR1 fs)),(10,.ref (.vec 0 0)),(11,.ref (.vec 1 0)),(12,.ref (.vec 2 0)),(13,int q),(14,int v),(15,int (IntKind.wrap IntKind.i64 ((↑i:Int)+1)))],h:=[.vec (vecB (List.set met (Int.toNat x.frm) true)) 0 1,.vec (vecI (List.set by' (Int.toNat x.frm) (IntKind.wrap IntKind.i64 (0 - IntKind.wrap IntKind.i64 ((↑i:Int)+1))))) 0 1,.vec (vecI l++[[int x.frm]]) 0 1],m:=[]}) (e:=Exit.normal) pok [.st (.mask [1,2,10,11,12,13,14,15]),.st (.ren 2 0),.st (.trimV 3)] [.b true,.row [vi x.frm,vi x.to,vi x.most],.g false,.g false,.g false,.g false,.g false,.g false,.g false,.g false,.g false,.g false,.ov 59 (bool false),.g false,.g false,.g false,.g false,.g false,.g false,.g false,.g false,.g false,.ov 70 (bool false),.b false,.row [vi x.frm,vi x.to,vi x.most],.g true,.g true,.g true,.row [vi f],.g true,.g true,.ov 108 (bool (Dd (f>0))),.g true,.g true,.g true,.g true,.row [vi x.frm,vi x.to,vi x.most],.g true,.g true,.g true,.g true,.ov 117 (bool false),.g true,.ov 119 (bool !false),.b true,.row [vi x.frm,vi x.to,vi x.most],.oh 10126 D.any (rsH (List.set met (Int.toNat x.frm) true) by' l),.row [vi x.frm,vi x.to,vi x.most],.oh 10136 D.any (rsH (List.set met (Int.toNat x.frm) true) (List.set by' (Int.toNat x.frm) (IntKind.wrap IntKind.i64 (0 - IntKind.wrap IntKind.i64 ((↑i:Int)+1)))) l),.row [vi x.frm,vi x.to,vi x.most]] (by kernel_rfl) (.c hlt (.c hr (.c (show((x.frm==v)==true)=false from(by rw[hv1]<;>rfl)) (.c (show((x.frm==v)==true)=false from(by rw[hv1]<;>rfl)) (.c (show((x.frm==v)==true)=false from(by rw[hv1]<;>rfl)) (.c (show((x.frm==v)==true)=false from(by rw[hv1]<;>rfl)) (.c (show((x.frm==v)==true)=false from(by rw[hv1]<;>rfl)) (.c (show((x.frm==v)==true)=false from(by rw[hv1]<;>rfl)) (.c (show((x.frm==v)==true)=false from(by rw[hv1]<;>rfl)) (.c (show((x.frm==v)==true)=false from(by rw[hv1]<;>rfl)) (.c (show((x.frm==v)==true)=false from(by rw[hv1]<;>rfl)) (.c (show((x.frm==v)==true)=false from(by rw[hv1]<;>rfl)) (.c (show PickIs (bool (x.frm==v)) (D.p (Dp.v (Value.tuple {toList:=[]}))) (bool false) (bool false) from(pickIs_f hv1 rfl)) (.c (show(false==true)=false from rfl) (.c (show(false==true)=false from rfl) (.c (show(false==true)=false from rfl) (.c (show(false==true)=false from rfl) (.c (show(false==true)=false from rfl) (.c (show(false==true)=false from rfl) (.c (show(false==true)=false from rfl) (.c (show(false==true)=false from rfl) (.c (show(false==true)=false from rfl) (.c (show PickIs (bool false) (D.p (Dp.v (Value.tuple {toList:=[]}))) (bool false) (bool false) from(pickIs_f rfl rfl)) (.c (show false=false from rfl) (.c hr (.c (show((x.to==v)==true)=true from(by rw[hv2]<;>rfl)) (.c (show((x.to==v)==true)=true from(by rw[hv2]<;>rfl)) (.c (show((x.to==v)==true)=true from(by rw[hv2]<;>rfl)) (.c hf (.c (show((x.to==v)==true)=true from(by rw[hv2]<;>rfl)) (.c (show((x.to==v)==true)=true from(by rw[hv2]<;>rfl)) (.c (show PickIs (bool (x.to==v)) (bool (Dd (f>0))) (bool false) (bool (Dd (f>0))) from(pickIs_t hv2 rfl)) (.c (show(Dd (f>0)==true)=true from(by rw[hc]<;>rfl)) (.c (show(Dd (f>0)==true)=true from(by rw[hc]<;>rfl)) (.c (show(Dd (f>0)==true)=true from(by rw[hc]<;>rfl)) (.c (show(Dd (f>0)==true)=true from(by rw[hc]<;>rfl)) (.c hr (.c (show(Dd (f>0)==true)=true from(by rw[hc]<;>rfl)) (.c (show(Dd (f>0)==true)=true from(by rw[hc]<;>rfl)) (.c (show(Dd (f>0)==true)=true from(by rw[hc]<;>rfl)) (.c (show inR x.frm (List.length (vecB met))=true from ?_) (.c (show(Dd (f>0)==true)=true from(by rw[hc]<;>rfl)) (.c (show loadD Tryz.prog [.vec (vecB met) 0 1,.vec (vecI by') 0 1,.vec (vecI l) 0 1] 4 (.ref (.vp 0 0 (Int.toNat x.frm) 0))=some (bool false) from ?_) (.c (show(Dd (f>0)==true)=true from(by rw[hc]<;>rfl)) (.c (show PickIs (bool (Dd (f>0))) (bool !false) (bool false) (bool !false) from(pickIs_t hc rfl)) (.c (show(!false)=true from rfl) (.c hr (.c (show inR x.frm (List.length (vecB met))=true from ?_) (.c (show storeD Tryz.prog [.vec (vecB met) 0 1,.vec (vecI by') 0 1,.vec (vecI l) 0 1] 4 (.ref (.vp 0 0 (Int.toNat x.frm) 0)) (evalD Γ0 (D.any::rowsD' (List.map EdgT.row es)::rowsD' (inR1 fs)::mkT 144 0 [(7,.ref (.vec 0 0)),(8,.ref (.vec 1 0)),(9,.ref (.vec 2 0)),(10,int q),(11,int v),(12,int (↑i:Int)),(32,int (↑i:Int)),(33,rowsD' (List.map EdgT.row es)),(34,int (↑(List.length (List.map EdgT.row es)):Int)),(35,bool (Dd ((↑i:Int)<(↑(List.length (List.map EdgT.row es)):Int)))),(38,rowsD' (List.map EdgT.row es)),(39,int (↑i:Int)),(40,D.ep [vi x.frm,vi x.to,vi x.most]),(41,D.ep [vi x.frm,vi x.to,vi x.most]),(42,int x.frm),(43,int v),(44,bool (x.frm==v)),(45,bool (x.frm==v)),(46,D.p (Dp.v (Value.tuple {toList:=[]}))),(47,D.p (Dp.v (Value.tuple {toList:=[]}))),(48,D.p (Dp.v (Value.tuple {toList:=[]}))),(49,D.p (Dp.v (Value.tuple {toList:=[]}))),(50,D.p (Dp.v (Value.tuple {toList:=[]}))),(51,D.p (Dp.v (Value.tuple {toList:=[]}))),(52,D.p (Dp.v (Value.tuple {toList:=[]}))),(53,D.p (Dp.v (Value.tuple {toList:=[]}))),(54,D.p (Dp.v (Value.tuple {toList:=[]}))),(55,D.p (Dp.v (Value.tuple {toList:=[]}))),(56,bool false),(57,bool false),(58,D.p (Dp.v (Value.tuple {toList:=[]}))),(59,D.p (Dp.v (Value.tuple {toList:=[]}))),(60,D.p (Dp.v (Value.tuple {toList:=[]}))),(61,D.p (Dp.v (Value.tuple {toList:=[]}))),(62,D.p (Dp.v (Value.tuple {toList:=[]}))),(63,D.p (Dp.v (Value.tuple {toList:=[]}))),(64,D.p (Dp.v (Value.tuple {toList:=[]}))),(65,D.p (Dp.v (Value.tuple {toList:=[]}))),(66,D.p (Dp.v (Value.tuple {toList:=[]}))),(67,bool false),(92,rowsD' (List.map EdgT.row es)),(93,int (↑i:Int)),(94,D.ep [vi x.frm,vi x.to,vi x.most]),(95,D.ep [vi x.to,vi x.most]),(96,int x.to),(97,int v),(98,bool (x.to==v)),(99,bool (x.to==v)),(100,rowsD' (inR1 fs)),(101,int (↑i:Int)),(102,D.ep [vi f]),(103,int f),(104,bool (Dd (f>0))),(105,bool (Dd (f>0))),(106,bool (Dd (f>0))),(107,.ref (.vec 0 0)),(108,rowsD' (List.map EdgT.row es)),(109,int (↑i:Int)),(110,D.ep [vi x.frm,vi x.to,vi x.most]),(111,D.ep [vi x.frm,vi x.to,vi x.most]),(112,int x.frm),(113,.ref (.vp 0 0 (Int.toNat x.frm) 0)),(114,bool false),(115,bool !false),(116,bool !false),(117,.ref (.vec 0 0)),(118,rowsD' (List.map EdgT.row es)),(119,int (↑i:Int)),(120,D.ep [vi x.frm,vi x.to,vi x.most]),(121,D.ep [vi x.frm,vi x.to,vi x.most]),(122,int x.frm),(123,.ref (.vp 0 0 (Int.toNat x.frm) 0))]) (Operand.const (Value.bool true)))=some [.vec (vecB (List.set met (Int.toNat x.frm) true)) 0 1,.vec (vecI by') 0 1,.vec (vecI l) 0 1] from ?_) (.c hr (.c (show inR x.frm (List.length (vecI by'))=true from ?_) (.c (show storeD Tryz.prog [.vec (vecB (List.set met (Int.toNat x.frm) true)) 0 1,.vec (vecI by') 0 1,.vec (vecI l) 0 1] 3 (.ref (.vp 1 0 (Int.toNat x.frm) 0)) (int (IntKind.wrap IntKind.i64 (0 - IntKind.wrap IntKind.i64 ((↑i:Int)+1))))=some [.vec (vecB (List.set met (Int.toNat x.frm) true)) 0 1,.vec (vecI (List.set by' (Int.toNat x.frm) (IntKind.wrap IntKind.i64 (0 - IntKind.wrap IntKind.i64 ((↑i:Int)+1))))) 0 1,.vec (vecI l) 0 1] from ?_) (.c hr (.c (show(List.all [[int x.frm]] (rowOk 1)&&roomOk (List.length (vecI l)+List.length [[int x.frm]]) 8)=true from ?_) (.c (show List.map (D.mapRL (renR 2 1 0)) (vecI l++[[int x.frm]])=vecI l++[[int x.frm]] from ?_) (.c (show List.map (D.mapRL (renR 2 1 0)) (vecB (List.set met (Int.toNat x.frm) true))=vecB (List.set met (Int.toNat x.frm) true) from ?_) (.c (show List.map (D.mapRL (renR 2 1 0)) (vecI (List.set by' (Int.toNat x.frm) (IntKind.wrap IntKind.i64 (0 - IntKind.wrap IntKind.i64 ((↑i:Int)+1)))))=vecI (List.set by' (Int.toNat x.frm) (IntKind.wrap IntKind.i64 (0 - IntKind.wrap IntKind.i64 ((↑i:Int)+1)))) from ?_) (.c (show [[int x.frm]]=[[int x.frm]] from rfl) (.c (show Blk.inn 3 (match 0==2 with|true=>.vec (vecI l++[[int x.frm]]) 0 1|false=>keepX (renR 2 1 0) (.vec (vecB (List.set met (Int.toNat x.frm) true)) 0 1))=true from ?_) (.c (show Blk.inn 3 (match 0+1==2 with|true=>.vec (vecI l++[[int x.frm]]) 0 1|false=>keepX (renR 2 1 0) (.vec (vecI (List.set by' (Int.toNat x.frm) (IntKind.wrap IntKind.i64 (0 - IntKind.wrap IntKind.i64 ((↑i:Int)+1))))) 0 1))=true from ?_) (.c (show Blk.inn 3 (match 0+1+1==2 with|true=>.vec (vecI l++[[int x.frm]]) 0 1|false=>keepX (renR 2 1 0) (.vec (vecI l++[[int x.frm]]) 1 1))=true from ?_) .n)))))))))))))))))))))))))))))))))))))))))))))))))))))))))))))) (by(simp only[vecI_app,hw];first|done|rfl)) (by(simp only[vecI_app,hw];first|done|rfl))<;>(first|assumption|rfl|exact vb_in h0 hm|exact vb_load rfl hm|exact vb_vp hm|exact vg_in h0 hb|exact vb_store rfl (vb_lt hm)|exact vg_store rfl (vg_lt hb)|exact vecI_map _ _|exact vecI_inn _ _|exact vecB_map _ _|exact vecB_inn _ _|(rw[vecI_app];exact vecI_map _ _)|(rw[vecI_app];exact vecI_inn _ _)|(simp[rowOk,D.one,Value.oneCell',roomOk,vecI_len];omega))
theorem rs_last{es:List EdgT}{fs by' l:List Int}{met:List Bool}{q v:Int}{i:Nat}(hlt:Dd ((i:Int)<((es.map EdgT.row).length:Int))=false):(CW Tryz.prog Γ0 [] false (sub Tryz.f77 1) (rsS es fs q v met by' l i) (.exit 2) {t:=mkT 147 0 [(1,rowsD' (es.map EdgT.row)),(2,rowsD' (inR1 fs)),(10,.ref (.vec 0 0)),(11,.ref (.vec 1 0)),(12,.ref (.vec 2 0)),(13,int q)],h:=rsH met by' l,m:=[]}):=by
 exact CW.cast (CW.symX (s':={t:=mkT 147 0 [(1,rowsD' (List.map EdgT.row es)),(2,rowsD' (inR1 fs)),(10,.ref (.vec 0 0)),(11,.ref (.vec 1 0)),(12,.ref (.vec 2 0)),(13,int q)],h:=[.vec (vecB met) 0 1,.vec (vecI by') 0 1,.vec (vecI l) 0 1],m:=[]}) (e:=Exit.exit 2) pok [.st (.mask [1,2,10,11,12,13])] [.b false] (by kernel_rfl) (.c hlt .n)) (by rfl) (by rfl)
structure RQ where
 met:List Bool
 by':List Int
 l:List Int
def rsStep(v:Int)(x:EdgT)(f:Int)(i:Nat)(s:RQ):RQ:=match x.frm==v with
 | true=>match Dd (f<x.most) with
  | true=>match s.met.getD x.to.toNat false with
   | true=>s
   | false=>⟨s.met.set x.to.toNat true,s.by'.set x.to.toNat (IntKind.i64.wrap ((i:Int)+1)),s.l++[x.to]⟩
  | false=>s
 | false=>match x.to==v with
  | true=>match Dd (f>0) with
   | true=>match s.met.getD x.frm.toNat false with
    | true=>s
    | false=>⟨s.met.set x.frm.toNat true,s.by'.set x.frm.toNat (IntKind.i64.wrap (0 - IntKind.i64.wrap ((i:Int)+1))),s.l++[x.frm]⟩
   | false=>s
  | false=>s
def rsF(fs:List Int)(v:Int)(s:RQ×Nat)(x:EdgT):RQ×Nat:=(rsStep v x (fs.getD s.2 0) s.2 s.1,s.2+1)
def rsIn(es:List EdgT)(fs:List Int)(v:Int)(s:RQ):RQ:=(es.foldl (rsF fs v) (s,0)).1
structure ROk (n:Nat) (s:RQ):Prop where
 m:s.met.length=n
 b:s.by'.length=n
 mem:∀v∈s.l,0≤v∧v.toNat<n
 sz:s.l.length+s.met.countP (fun x=>!x)≤n+1
theorem cnt_set{l:List Bool}{i:Nat}(hi:i<l.length)(hx:l.getD i false=false):(l.set i true).countP (fun x=>!x)+1=l.countP (fun x=>!x):=by
 have hg:l.getD i false=l[i]:=by simp[List.getD,hi]
 rw[hg] at hx
 rw[List.countP_set hi]
 have h3:0<l.countP fun x=>!x:=List.countP_pos_iff.2 ⟨l[i],List.getElem_mem hi,by simp[hx]⟩
 simp only[hx,Bool.not_false,if_true,Bool.not_true,Bool.false_eq_true,if_false]
 omega
theorem ROk.set{n:Nat}{s:RQ}(h:ROk n s){u a:Int}(h0:0≤u)(hu:u.toNat<n)(hx:s.met.getD u.toNat false=false):ROk n ⟨s.met.set u.toNat true,s.by'.set u.toNat a,s.l++[u]⟩:=by
 refine⟨by simpa using h.m,by simpa using h.b,?_,?_⟩
 ·intro v hv
  simp only[List.mem_append,List.mem_singleton] at hv
  rcases hv with hv|rfl
  ·exact h.mem v hv
  ·exact⟨h0,hu⟩
 ·have h1:=cnt_set (by rw[h.m];exact hu) hx
  have h2:=h.sz
  simp only[List.length_append,List.length_singleton]
  omega
theorem ROk.step{n:Nat}{s:RQ}(h:ROk n s){v f:Int}{x:EdgT}{i:Nat}(hx:EdgIn n x):ROk n (rsStep v x f i s):=by
 obtain⟨x1,x2,x3,x4⟩:=hx
 unfold rsStep
 cases x.frm==v with
 | true =>
  cases Dd (f<x.most) with
  | false=>exact h
  | true =>
   simp only
   cases hm:s.met.getD x.to.toNat false with
   | true=>exact h
   | false=>exact h.set x3 (by omega) hm
 | false =>
  cases x.to==v with
  | false=>exact h
  | true =>
   cases Dd (f>0) with
   | false=>exact h
   | true =>
    simp only
    cases hm:s.met.getD x.frm.toNat false with
    | true=>exact h
    | false=>exact h.set x1 (by omega) hm
theorem ROk.fold{n:Nat}{fs:List Int}{v:Int}:∀(es:List EdgT) (s:RQ×Nat),(∀x∈es,EdgIn n x)→ROk n s.1→ROk n (es.foldl (rsF fs v) s).1
 | [],_,_,h=>h
 | x::es,s,hx,h=>by
  rw[List.foldl_cons]
  exact ROk.fold es _ (fun y hy=>hx y (by simp[hy])) (h.step (hx x (by simp)))
section
variable {es:List EdgT} {fs:List Int} {n:Nat}
theorem getD_has{α:Type}{l:List α}{i:Nat}{d:α}(h:i<l.length):l[i]? = some (l.getD i d):=by simp[List.getD,h]
theorem rs_step(hl:fs.length=es.length)(hm:es.length≤1000)(hn:n≤1000){q v:Int}{s:RQ}(h:ROk n s){i:Nat}{x:EdgT}(hx:es[i]? = some x)(hin:EdgIn n x)(hne:x.frm ≠ x.to):
  CW Tryz.prog Γ0 [] false (sub Tryz.f77 1) (rsS es fs q v s.met s.by' s.l i) .normal (rsS es fs q v (rsStep v x (fs.getD i 0) i s).met (rsStep v x (fs.getD i 0) i s).by' (rsStep v x (fs.getD i 0) i s).l ((i+1:Nat):Int)):=by
 have hi:=(List.getElem?_eq_some_iff.1 hx).1
 have hr:=rowAt (row:=EdgT.row) (sz:=3) hx rfl
 have hf:=rowAt (row:=fun n:Int=>[vi n]) (sz:=1) (getD_has (d:=(0:Int)) (show i<fs.length by omega)) rfl
 have hlt:=lt_len EdgT.row hi
 have hw:=wrap_succ hi (by omega)
 obtain⟨x1,x2,x3,x4⟩:=hin
 have hsz:=h.sz
 unfold rsStep
 cases h1:x.frm==v with
 | true =>
  have h2:(x.to==v)=false:=by
   have e:x.frm=v:=by simpa using h1
   simp only[beq_eq_false_iff_ne];omega
  cases hc:Dd (fs.getD i 0<x.most) with
  | false=>exact rs_f0 hr hf hlt hw h1 hc h2
  | true =>
   have hb:=getD_has (d:=false) (show x.to.toNat<s.met.length by rw[h.m];omega)
   simp only
   cases hmt:s.met.getD x.to.toNat false with
   | true=>rw[hmt] at hb;exact rs_f1 hr hf hlt hw h1 hc h2 x3 hb
   | false =>
    rw[hmt] at hb
    exact rs_f2 hr hf hlt hw h1 hc h2 x3 hb (getD_has (d:=(0:Int)) (show x.to.toNat<s.by'.length by rw[h.b];omega)) (by omega)
 | false =>
  cases h2:x.to==v with
  | false=>exact rs_no hr hlt hw h1 h2
  | true =>
   cases hc:Dd (fs.getD i 0>0) with
   | false=>exact rs_t0 hr hf hlt hw h1 h2 hc
   | true =>
    have hb:=getD_has (d:=false) (show x.frm.toNat<s.met.length by rw[h.m];omega)
    simp only
    cases hmt:s.met.getD x.frm.toNat false with
    | true=>rw[hmt] at hb;exact rs_t1 hr hf hlt hw h1 h2 hc x1 hb
    | false =>
     rw[hmt] at hb
     exact rs_t2 hr hf hlt hw h1 h2 hc x1 hb (getD_has (d:=(0:Int)) (show x.frm.toNat<s.by'.length by rw[h.b];omega)) (by omega)
abbrev rsE(es:List EdgT)(fs:List Int)(q:Int)(s:RQ):AS:={t:=mkT 147 0 [(1,rowsD' (es.map EdgT.row)),(2,rowsD' (inR1 fs)),(10,.ref (.vec 0 0)),(11,.ref (.vec 1 0)),(12,.ref (.vec 2 0)),(13,int q)],h:=rsH s.met s.by' s.l,m:=[]}
theorem rs_loop(hl:fs.length=es.length)(hm:es.length≤1000)(hn:n≤1000)(hin:∀x∈es,EdgIn n x)(hne:∀x∈es,x.frm ≠ x.to){q v:Int}{s:RQ}(h:ROk n s):
  CW Tryz.prog Γ0 [] false (.loop (sub Tryz.f77 1)) (rsS es fs q v s.met s.by' s.l 0) (.exit 2) (rsE es fs q (rsIn es fs v s)):=by
 have:=CW.each (P:=Tryz.prog) (Γ:=Γ0) (h0:=[]) (rd:=false) (c:=sub Tryz.f77 1) (σ:=RQ×Nat) (ρ:=Empty) es (fun x s=>.inl (rsF fs v s x))
  (fun i s=>rsS es fs q v s.1.met s.1.by' s.1.l (i:Int)) (.exit 2) (fun s=>rsE es fs q s.1) (fun r=>r.elim) (fun i s=>s.2=i∧ROk n s.1) (by simp) (fun r=>r.elim) ?_ ?_ (s,0) ⟨rfl,h⟩
 ·rw[forL_fold] at this
  exact this
 ·rintro i x ⟨s,k⟩ hx ⟨hk,hs⟩
  simp only at hk hs
  subst hk
  have hx':=hin x (List.mem_of_getElem? hx)
  refine⟨fun s' h=>?_,rs_step hl hm hn hs hx hx' (hne x (List.mem_of_getElem? hx))⟩
  cases h
  exact⟨rfl,hs.step hx'⟩
 ·rintro s _
  exact rs_last (ge_len EdgT.row es)
end
abbrev roS(es:List EdgT)(fs:List Int)(s:RQ)(q:Nat):AS:={t:=mkT 147 0 [(1,rowsD' (es.map EdgT.row)),(2,rowsD' (inR1 fs)),(10,.ref (.vec 0 0)),(11,.ref (.vec 1 0)),(12,.ref (.vec 2 0)),(13,int (q:Int))],h:=rsH s.met s.by' s.l,m:=[]}
abbrev roE(s:RQ):AS:={t:=mkT 147 0 [(10,.ref (.vec 0 0)),(11,.ref (.vec 1 0))],h:=rsH s.met s.by' s.l,m:=[]}
theorem ro_body{es:List EdgT}{fs:List Int}{s s2:RQ}{q:Nat}{v:Int}(hv:s.l[Int.toNat (q:Int)]? = some v)(hlt:Dd ((q:Int)<((vecI s.l).length:Int))=true)(hq:inR (q:Int) (vecI s.l).length=true)(hw:IntKind.i64.wrap ((q:Int)+1)=((q+1:Nat):Int))
  (hcw:CW Tryz.prog Γ0 [] false (.loop (sub Tryz.f77 1)) (rsS es fs q v s.met s.by' s.l 0) (.exit 2) (rsE es fs q s2)):(CW Tryz.prog Γ0 [] false (sub Tryz.f77 0) (roS es fs s q) .normal (roS es fs s2 (q+1))):=by
 have hl0:=(@hcw)
 refine CW.cast (CW.symX (s':={t:=mkT 147 0 [(1,rowsD' (List.map EdgT.row es)),(2,rowsD' (inR1 fs)),(10,.ref (.vec 0 0)),(11,.ref (.vec 1 0)),(12,.ref (.vec 2 0)),(13,int (IntKind.wrap IntKind.i64 ((↑q:Int)+1)))],h:=[.vec (vecB s2.met) 0 1,.vec (vecI s2.by') 0 1,.vec (vecI s2.l) 0 1],m:=[]}) (e:=Exit.normal) pok [.st (.mask [1,2,10,11,12,13])] [.b true,.ov 34 (int v),.sum [1,2,10,11,12,13,14,15] (Exit.exit 2) {t:=mkT 147 0 [(1,rowsD' (List.map EdgT.row es)),(2,rowsD' (inR1 fs)),(10,.ref (.vec 0 0)),(11,.ref (.vec 1 0)),(12,.ref (.vec 2 0)),(13,int (↑q:Int))],h:=[.vec (vecB s2.met) 0 1,.vec (vecI s2.by') 0 1,.vec (vecI s2.l) 0 1],m:=[]}] (by kernel_rfl) (.c hlt (.c hq (.c (show loadD Tryz.prog [.vec (vecB s.met) 0 1,.vec (vecI s.by') 0 1,.vec (vecI s.l) 0 1] 3 (.ref (.vp 2 0 (Int.toNat (↑q:Int)) 0))=some (int v) from(by first|assumption|rfl|exact vg_load rfl hv|exact vg_vp hv|exact vecI_map _ _|exact vecI_inn _ _)) (.c hl0 .n))))) ?_ ?_<;>(first|rfl|(rw[hw]<;>rfl))
theorem ro_last{es:List EdgT}{fs:List Int}{s:RQ}{q:Nat}(hlt:Dd ((q:Int)<((vecI s.l).length:Int))=false):(CW Tryz.prog Γ0 [] false (sub Tryz.f77 0) (roS es fs s q) (.exit 0) (roE s)):=by
 exact CW.cast (CW.symX (s':={t:=mkT 147 0 [(10,.ref (.vec 0 0)),(11,.ref (.vec 1 0))],h:=[.vec (vecB s.met) 0 1,.vec (vecI s.by') 0 1,.vec (vecI s.l) 0 1],m:=[]}) (e:=Exit.exit 0) pok [.st (.mask [10,11])] [.b false] (by kernel_rfl) (.c hlt .n)) (by rfl) (by rfl)
inductive RBfs (es:List EdgT) (fs:List Int):Nat→RQ→Nat→RQ→Prop
 | done {s q}:s.l.length≤q→RBfs es fs 0 s q s
 | step {s q v f k}:s.l[q]? = some v→RBfs es fs k (rsIn es fs v s) (q+1) f→RBfs es fs (k+1) s q f
theorem ro_loop{es:List EdgT}{fs:List Int}{n:Nat}(hl:fs.length=es.length)(hm:es.length≤1000)(hn:n≤1000)(hin:∀x∈es,EdgIn n x)(hne:∀x∈es,x.frm ≠ x.to){k:Nat}{s f:RQ}{q:Nat}(h:ROk n s)(hq:q≤s.l.length)(hb:RBfs es fs k s q f):
  CW Tryz.prog Γ0 [] false (.loop (sub Tryz.f77 0)) (roS es fs s q) (.exit 0) (roE f):=by
 refine CW.loop (ι:={p:Nat×RQ×Nat // RBfs es fs p.1 p.2.1 p.2.2 f∧ROk n p.2.1}) (fun p=>roS es fs p.1.2.1 p.1.2.2) (fun _=>(.exit 0,roE f)) (fun p=>p.1.1) ?_ ⟨(k,s,q),hb,h⟩
 rintro⟨⟨k,s,q⟩,hb,h⟩
 simp only at hb h
 cases hb with
 | done hd=>exact .inr ⟨by simp,ro_last (by simp[vecI];omega)⟩
 | step hv hr =>
  rename_i v k
  have hlt:=(List.getElem?_eq_some_iff.1 hv).1
  have hsz:=h.sz
  refine .inl ⟨⟨(k,rsIn es fs v s,q+1),hr,ROk.fold es (s,0) hin h⟩,by simp,rfl,?_⟩
  exact ro_body (by simpa using hv) (by simp[vecI];omega) (by simp[inR,vecI];omega) (wrap_succ hlt (by omega)) (rs_loop hl hm hn hin hne h)
theorem vecB_rep0(n:Nat):List.replicate n [bool false]=vecB (List.replicate n false):=by simp[vecB]
theorem vecI_rep0(n:Nat):List.replicate n [int 0]=vecI (List.replicate n 0):=by simp[vecI]
theorem vb_rep_store{n:Nat}{u:Int}{h:List Blk}(hu:u.toNat<n)(hb:h[0]? = some (.vec (List.replicate n [bool false]) 0 1)):storeD Tryz.prog h 4 (.ref (.vp 0 0 u.toNat 0)) (bool true)=some (h.set 0 (.vec (vecB ((List.replicate n false).set u.toNat true)) 0 1)):=by
 rw[vecB_rep0] at hb
 exact vb_store hb (by simpa using hu)
theorem rep_inR{n:Nat}{u:Int}{r:List D}(h0:0≤u)(hu:u.toNat<n):inR u (List.replicate n r).length=true:=by simp[inR];omega
abbrev rq0(n:Nat)(frm:Int):RQ:=⟨(List.replicate n false).set frm.toNat true,List.replicate n 0,[frm]⟩
theorem rsch_a{es:List EdgT}{fs:List Int}{n:Nat}{frm:Int}{f:RQ}(hn:n≤1000)(h0:0≤frm)(hf:frm.toNat<n)(hf2:frm.toNat<(List.replicate n [bool false]).length)
  (hcw:CW Tryz.prog Γ0 [] false (.loop (sub Tryz.f77 0)) {t:=mkT 147 0 [(1,rowsD' (es.map EdgT.row)),(2,rowsD' (inR1 fs)),(10,.ref (.vec 0 0)),(11,.ref (.vec 1 0)),(12,.ref (.vec 2 0)),(13,int 0)],h:=[.vec (vecB ((List.replicate n false).set frm.toNat true)) 0 1,.vec (List.replicate n [int 0]) 0 1,.vec [[int frm]] 0 1],m:=[]} (.exit 0) (roE f)) (h:List Blk):(Ev Tryz.prog Γ0 77 [int (n:Int),rowsD' (es.map EdgT.row),rowsD' (inR1 fs),int frm] h (.tup [rowsD' (rowsB f.met),rowsD' (inR1 f.by')]) h):=by
 have hl0:=(@hcw)
 refine Ev.castH (Ev.sym0 (d:=D.tup [rowsD' (rowsB f.met),rowsD' (inR1 f.by')]) pok [.oh 10022 D.any [.vec (vecB (List.set (List.replicate n false) (Int.toNat frm) true)) 0 1,.vec (List.replicate n [int 0]) 0 1],.sum [1,2,10,11,12,13] (Exit.exit 0) {t:=mkT 147 0 [(10,.ref (.vec 0 0)),(11,.ref (.vec 1 0))],h:=[.vec (vecB f.met) 0 1,.vec (vecI f.by') 0 1,.vec (vecI f.l) 0 1],m:=[]},.st (.frz 0 (rowsB f.met)),.st (.frz 1 (inR1 f.by')),.st (.trim 0)] (by kernel_rfl) (.c (show(Dd (0≤(↑n:Int))&&Dd ((↑n:Int)≤(↑n:Int))&&Dd ((↑n:Int)*(↑1:Int)≤281474976710656)&&Dd ((↑n:Int)≤281474976710656))=true from ?_) (.c (show(Dd (0≤(↑n:Int))&&Dd ((↑n:Int)≤(↑n:Int))&&Dd ((↑n:Int)*(↑8:Int)≤281474976710656)&&Dd ((↑n:Int)≤281474976710656))=true from ?_) (.c (show inR frm (List.length (List.replicate (Int.toNat (↑n:Int)) (List.map lit (Value.cells (Value.bool false)).toList)))=true from ?_) (.c (show storeD Tryz.prog [.vec (List.replicate (Int.toNat (↑n:Int)) (List.map lit (Value.cells (Value.bool false)).toList)) 0 1,.vec (List.replicate (Int.toNat (↑n:Int)) (List.map lit (Value.cells (Value.int IntKind.i64 0)).toList)) 0 1] 4 (.ref (.vp 0 0 (Int.toNat frm) 0)) (evalD Γ0 (mkT 147 0 [(0,int (↑n:Int)),(1,rowsD' (List.map EdgT.row es)),(2,rowsD' (inR1 fs)),(3,int frm),(8,nq),(9,nq),(10,.ref (.vec 0 0)),(11,.ref (.vec 1 0)),(16,int (↑n:Int)),(17,.ref (.vec 0 0)),(18,int (↑n:Int)),(19,.ref (.vec 1 0)),(20,.ref (.vec 0 0)),(21,int frm),(22,.ref (.vp 0 0 (Int.toNat frm) 0))]) (Operand.const (Value.bool true)))=some [.vec (vecB (List.set (List.replicate n false) (Int.toNat frm) true)) 0 1,.vec (List.replicate n [int 0]) 0 1] from ?_) (.c hl0 (.c (show vecB f.met=List.map (fun x=>List.map D.p x) (rowsB f.met) from ?_) (.c (show List.map (D.mapRL (frzR 0 0 (rowsB f.met))) (vecI f.by')=vecI f.by' from ?_) (.c (show List.map (D.mapRL (frzR 0 0 (rowsB f.met))) (vecI f.l)=vecI f.l from ?_) (.c (show vecI f.by'=List.map (fun x=>List.map D.p x) (inR1 f.by') from ?_) (.c (show List.map (D.mapRL (frzR 1 0 (inR1 f.by'))) (vecI f.l)=vecI f.l from ?_) .n)))))))))) rfl rfl h) (by rfl) (by rfl)<;>(first|assumption|rfl|exact vecB_frz _|exact vecI_frz _|exact rep_inR h0 hf|exact vb_rep_store hf rfl|exact vecI_map _ _|exact vecI_inn _ _|exact vecB_map _ _|exact vecB_inn _ _|exact rep_map _ rfl|(simp;omega))
theorem rsch_ev{es:List EdgT}{fs:List Int}{n:Nat}{frm:Int}{f:RQ}{k:Nat}(hl:fs.length=es.length)(hm:es.length≤1000)(hn:n≤1000)(hin:∀x∈es,EdgIn n x)(hne:∀x∈es,x.frm ≠ x.to)(h0:0≤frm)(hf:frm.toNat<n)(hb:RBfs es fs k (rq0 n frm) 0 f)(h:List Blk):
  Ev Tryz.prog Γ0 77 [int (n:Int),rowsD' (es.map EdgT.row),rowsD' (inR1 fs),int frm] h (.tup [rowsD' (rowsB f.met),rowsD' (inR1 f.by')]) h:=by
 refine rsch_a hn h0 hf (by simpa using hf) ?_ h
 rw[vecI_rep0]
 refine ro_loop (s:=rq0 n frm) hl hm hn hin hne ⟨by simp,by simp,?_,?_⟩ (by simp) hb
 ·intro v hv
  simp only[List.mem_singleton] at hv
  subst hv;exact⟨h0,hf⟩
 ·have:=cnt_set (l:=List.replicate n false) (i:=frm.toNat) (by simpa using hf) (by simp[List.getD,hf])
  have h2:=List.countP_le_length (p:=fun x:Bool=>!x) (l:=List.replicate n false)
  simp only[List.length_replicate] at h2
  simp only[List.length_singleton];omega
structure FlOk (es:List EdgT) (fs:List Int):Prop where
 len:fs.length=es.length
 sz:es.length≤1000
 lo:∀i,i<es.length→0≤fs.getD i 0
 hi:∀i,i<es.length→fs.getD i 0≤(es.getD i ⟨0,0,0⟩).most
 most:∀i,i<es.length→(es.getD i ⟨0,0,0⟩).most≤1073741824
theorem res_cases{m:Nat}{r:Int}(h:ResOk m r):∃i:Nat,i<m∧(r=2*(i:Int)∨r=2*(i:Int)+1):=by
 obtain⟨h0,h1⟩:=h
 refine⟨(r / 2).toNat,by omega,?_⟩
 omega
section
variable {es:List EdgT} {fs:List Int} {i:Nat}
theorem ix0(hi:i<100000):ixR (2*(i:Int))=(i:Int):=by
 unfold ixR
 rw[Int.tdiv_eq_ediv_of_nonneg (by omega),wrap_i64 (by omega) (by omega)];omega
theorem ix1(hi:i<100000):ixR (2*(i:Int)+1)=(i:Int):=by
 unfold ixR
 rw[Int.tdiv_eq_ediv_of_nonneg (by omega),wrap_i64 (by omega) (by omega)];omega
theorem tm0:(Int.tmod (2*(i:Int)) 2==0)=true:=by
 rw[Int.tmod_eq_emod_of_nonneg (by omega)];simp
theorem tm1:(Int.tmod (2*(i:Int)+1) 2==0)=false:=by
 rw[Int.tmod_eq_emod_of_nonneg (by omega)]<;>simp
theorem tn0:(Int.tmod (2*(i:Int)) 2==1)=false:=by
 rw[Int.tmod_eq_emod_of_nonneg (by omega)];simp
theorem tn1:(Int.tmod (2*(i:Int)+1) 2==1)=true:=by
 rw[Int.tmod_eq_emod_of_nonneg (by omega)]<;>simp
theorem end0(hi:i<100000):endA es (2*(i:Int))=(es.getD i ⟨0,0,0⟩).to:=by
 unfold endA endE exA
 rw[tm0,ix0 hi,Int.toNat_natCast]
theorem end1(hi:i<100000):endA es (2*(i:Int)+1)=(es.getD i ⟨0,0,0⟩).frm:=by
 unfold endA endE exA
 rw[tm1,ix1 hi,Int.toNat_natCast]
theorem cap1(hi:i<100000):capA es fs (2*(i:Int)+1)=fs.getD i 0:=by
 unfold capA capE fA
 rw[tm1,ix1 hi,Int.toNat_natCast]
theorem cap0(h:FlOk es fs)(hi:i<es.length):capA es fs (2*(i:Int))=(es.getD i ⟨0,0,0⟩).most - fs.getD i 0:=by
 have h1:=h.lo i hi
 have h2:=h.hi i hi
 have h3:=h.most i hi
 have h4:=h.sz
 unfold capA capE fA exA
 rw[tm0,ix0 (by omega),Int.toNat_natCast]
 exact wrap_i64 (by omega) (by omega)
theorem xr0{m:Nat}(hi:i<m)(hm:m≤100000):xr (2*(i:Int))=2*(i:Int)+1:=by
 rw[xr_eq (m:=m) ⟨by omega,by omega⟩ (by omega),if_pos (by omega)]
theorem xr1{m:Nat}(hi:i<m)(hm:m≤100000):xr (2*(i:Int)+1)=2*(i:Int):=by
 rw[xr_eq (m:=m) ⟨by omega,by omega⟩ (by omega),if_neg (by omega)];omega
end
def AdjL(es:List EdgT)(A:List (List Int)):Prop:=∀(v:Nat) (r:Int),r∈A.getD v []→endA es (xr r)=(v:Int)
theorem getD_set{A:List (List Int)}{u v:Nat}{B:List Int}:(A.set u B).getD v []=if u=v∧u<A.length then B else A.getD v []:=by
 simp only[List.getD,List.getElem?_set]
 by_cases h:u=v
 ·subst h
  by_cases h2:u<A.length
  ·simp[h2]
  ·simp[h2]
 ·simp[h]
theorem AdjL.set{es:List EdgT}{A:List (List Int)}(h:AdjL es A){u:Nat}{r:Int}(hr:endA es (xr r)=(u:Int)):AdjL es (A.set u (A.getD u []++[r])):=by
 intro v x hx
 rw[getD_set] at hx
 split at hx
 ·rename_i hc
  obtain⟨rfl,_⟩:=hc
  rcases List.mem_append.1 hx with hx|hx
  ·exact h u x hx
  ·simp only[List.mem_singleton] at hx
   subst hx;exact hr
 ·exact h v x hx
theorem adj_law{es:List EdgT}(hm:es.length≤1000)(n:Nat)(hin:∀x∈es,EdgIn n x):∀(l:List EdgT) (s:List (List Int)×Int) (i:Nat),s.2=i→es.drop i=l→AdjL es s.1→AdjL es (l.foldl adjF s).1
 | [],s,_,_,_,h=>h
 | x::l,s,i,hi,hd,h=>by
  rw[List.foldl_cons]
  have hlt:i<es.length:=by
   have:=congrArg List.length hd
   simp only[List.length_drop,List.length_cons] at this
   omega
  have hx:es[i]? = some x:=by
   have:=congrArg (fun y=>y[0]?) hd
   simpa using this
  have hg:es.getD i ⟨0,0,0⟩=x:=by simp[List.getD,hx]
  obtain⟨x1,x2,x3,x4⟩:=hin x (List.mem_of_getElem? hx)
  have e1:IntKind.i64.wrap (2*s.2)=2*(i:Int):=by rw[hi];exact wrap_i64 (by omega) (by omega)
  have e2:IntKind.i64.wrap (2*(i:Int)+1)=2*(i:Int)+1:=wrap_i64 (by omega) (by omega)
  refine adj_law hm n hin l (adjF s x) (i+1) (by simp[adjF,hi]) (by rw[←List.drop_drop,hd];rfl) ?_
  unfold adjF
  rw[e1,e2]
  refine(h.set ?_).set ?_
  ·rw[xr0 hlt (by omega),end1 (by omega),hg];omega
  ·rw[xr1 hlt (by omega),end0 (by omega),hg];omega
theorem adjR_law{es:List EdgT}(hm:es.length≤1000){n:Nat}(hin:∀x∈es,EdgIn n x):AdjL es (adjR n es):=by
 refine adj_law hm n hin es (List.replicate n [],0) 0 rfl rfl ?_
 intro v r hr
 have:(List.replicate n ([]:List Int)).getD v []=[]:=by
  simp only[List.getD,List.getElem?_replicate]
  split<;>rfl
 rw[this] at hr;simp at hr
def muS(s:List Int×QF):Nat:=2*unm s.1+s.2.list.length
theorem usY_mu{n:Nat}{to r u:Int}{s s':List Int×QF}(h:SOk n s)(hr:0≤r)(hu:u.toNat<n)(hy:usY to r u s=.inl s'):muS s'≤muS s:=by
 unfold usY at hy
 split at hy
 ·cases hy;exact Nat.le_refl _
 ·rename_i hg
  split at hy
  ·cases hy
  ·cases hy
   have h1:=unm_set (l:=s.1) (by rw[h.len];exact hu) (by simpa using hg) hr
   simp only[muS,QF.push,QF.list,List.length_append,List.length_singleton]
   have:s.2.list.length=(match s.2.vs with|true=>s.2.l.drop s.2.i|false=>s.2.l).length:=rfl
   omega
theorem forL_mu{es:List EdgT}{fs:List Int}{to:Int}{n:Nat}(hm:es.length≤1000)(hin:∀x∈es,EdgIn n x):∀(B:List Int) (s s':List Int×QF),(∀r∈B,ResOk es.length r)→SOk n s→forL (usG es fs to) B s=.inl s'→muS s'≤muS s
 | [],s,s',_,h,hf=>by cases hf;exact Nat.le_refl _
 | r::B,s,s',hB,h,hf=>by
  simp only[forL] at hf
  have hr:=hB r (by simp)
  have he:=endA_in hr (by omega) hin
  split at hf
  ·rename_i s1 h1
   have h2:SOk n s1∧muS s1≤muS s:=by
    unfold usG at h1
    split at h1
    ·exact⟨h.usY hr.1 he.1 he.2 h1,usY_mu h hr.1 he.2 h1⟩
    ·cases h1;exact⟨h,Nat.le_refl _⟩
   exact Nat.le_trans (forL_mu hm hin B s1 s' (fun x hx=>hB x (by simp[hx])) h2.1 hf) h2.2
  ·cases hf
theorem bfs_ex{es:List EdgT}{fs:List Int}{to:Int}{n:Nat}(hm:es.length≤1000)(hin:∀x∈es,EdgIn n x){adj:List (List Int)}(ha:adj.length=n)(hB:∀B∈adj,∀r∈B,ResOk es.length r):
  ∀(m:Nat) (s:List Int×QF),muS s<m→SOk n s→∃k f,Bfs adj es fs to k s f
 | 0,s,h,_=>absurd h (Nat.not_lt_zero _)
 | m+1,s,h,hs=>by
  cases hl:s.2.list with
  | nil=>exact⟨0,s,.done hl⟩
  | cons v rest =>
   obtain⟨v0,v1⟩:=hs.mem v (by rw[hl];simp)
   have hr:∀r∈adj.getD v.toNat [],ResOk es.length r:=by
    have:adj.getD v.toNat []=adj[v.toNat]'(by omega):=by simp[List.getD,ha,v1]
    rw[this]
    exact hB _ (List.getElem_mem _)
   cases hf:forL (usG es fs to) (adj.getD v.toNat []) (s.1,s.2.pop) with
   | inr f=>exact⟨0,f,.stop hl hf⟩
   | inl s' =>
    have h1:=hs.pop hl
    have h2:=SOk.forL hm hin _ _ _ hr h1 hf
    have h3:=forL_mu hm hin _ _ _ hr h1 hf
    have h4:muS (s.1,s.2.pop)+1=muS s:=by
     simp only[muS,QF.pop_list hl,hl,List.length_cons];omega
    obtain⟨k,f,hb⟩:=bfs_ex hm hin ha hB m s' (by omega) h2
    exact⟨k+1,f,.step hl hf hb⟩
theorem getDI_set{l:List Int}{u w:Nat}{r d:Int}:(l.set u r).getD w d=if u=w∧u<l.length then r else l.getD w d:=by
 simp only[List.getD,List.getElem?_set]
 by_cases h:u=w
 ·subst h
  by_cases h2:u<l.length
  ·simp[h2]
  ·simp[h2]
 ·simp[h]
theorem usY_keep{to r u:Int}{s:List Int×QF}{w:Nat}(h:0≤s.1.getD w 0):(sumV (usY to r u s)).1.getD w 0=s.1.getD w 0:=by
 have key:s.1.getD u.toNat 0<0→(s.1.set u.toNat r).getD w 0=s.1.getD w 0:=by
  intro hx
  rw[getDI_set,if_neg]
  rintro⟨rfl,_⟩
  omega
 unfold usY
 cases hg:Dd (s.1.getD u.toNat 0≥0) with
 | true=>rfl
 | false =>
  have hx:s.1.getD u.toNat 0<0:=by simpa using hg
  cases u==to with
  | true=>exact key hx
  | false=>exact key hx
theorem usG_keep{es:List EdgT}{fs:List Int}{to r:Int}{s:List Int×QF}{w:Nat}(h:0≤s.1.getD w 0):(sumV (usG es fs to r s)).1.getD w 0=s.1.getD w 0:=by
 unfold usG
 cases Dd (capA es fs r>0) with
 | true=>exact usY_keep h
 | false=>rfl
structure TI (es:List EdgT) (fs:List Int) (n:Nat) (frm:Int) (ρ:Nat→Nat) (s:List Int×QF):Prop where
 len:s.1.length=n
 src:0≤s.1.getD frm.toNat 0
 q:∀v∈s.2.list,0≤s.1.getD v.toNat 0
 t:∀v:Nat,v<n→0≤s.1.getD v 0→(v:Int) ≠ frm→ResOk es.length (s.1.getD v 0)∧0<capA es fs (s.1.getD v 0)∧endA es (s.1.getD v 0)=(v:Int)∧0≤s.1.getD (endA es (xr (s.1.getD v 0))).toNat 0∧ρ (endA es (xr (s.1.getD v 0))).toNat<ρ v
section
variable {es:List EdgT} {fs:List Int} {n:Nat} {frm to:Int} {ρ:Nat→Nat} {s:List Int×QF}
theorem TI.set(h:TI es fs n frm ρ s){v:Nat}(hv:v<n)(hm:0≤s.1.getD v 0){r u:Int}(hr:ResOk es.length r)(hc:0<capA es fs r)(ho:endA es (xr r)=(v:Int))(hu:endA es r=u)(h0:0≤u)(hun:u.toNat<n)(hx:s.1.getD u.toNat 0<0){q:QF}
  (hq:∀w∈q.list,w=u∨w∈s.2.list):TI es fs n frm (fun w=>if w=u.toNat then ρ v+1 else ρ w) (s.1.set u.toNat r,q):=by
 have hlt:u.toNat<s.1.length:=by rw[h.len];exact hun
 have hs:(s.1.set u.toNat r).getD u.toNat 0=r:=by rw[getDI_set,if_pos ⟨rfl,hlt⟩]
 have hk:∀w,w ≠ u.toNat→(s.1.set u.toNat r).getD w 0=s.1.getD w 0:=fun w hw=>by rw[getDI_set,if_neg (fun e=>hw e.1.symm)]
 have hmk:∀w,0≤s.1.getD w 0→(s.1.set u.toNat r).getD w 0=s.1.getD w 0:=fun w hw=>hk w (by rintro rfl;omega)
 refine⟨by simpa using h.len,?_,?_,?_⟩
 ·simp only;rw[hmk _ h.src];exact h.src
 ·intro w hw
  simp only
  rcases hq w hw with rfl|hw
  ·rw[hs];exact hr.1
  ·rw[hmk _ (h.q w hw)];exact h.q w hw
 ·intro w hw hwm hwf
  simp only at hwm ⊢
  by_cases he:w=u.toNat
  ·subst he
   rw[hs]
   have hvu:v ≠ u.toNat:=by rintro rfl;omega
   refine⟨hr,hc,by omega,?_,?_⟩
   ·rw[ho,Int.toNat_natCast,hmk _ hm];exact hm
   ·rw[ho,Int.toNat_natCast,if_neg hvu,if_pos rfl];omega
  ·rw[hk w he] at hwm ⊢
   obtain⟨t1,t2,t3,t4,t5⟩:=h.t w hw hwm hwf
   have hne:(endA es (xr (s.1.getD w 0))).toNat ≠ u.toNat:=by
    intro e;rw[e] at t4;omega
   refine⟨t1,t2,t3,?_,?_⟩
   ·rw[hmk _ t4];exact t4
   ·rw[if_neg hne,if_neg he];exact t5
theorem TI.usG(hm:es.length≤1000)(hin:∀x∈es,EdgIn n x)(h:TI es fs n frm ρ s){v:Nat}(hv:v<n)(hmk:0≤s.1.getD v 0){r:Int}(hr:ResOk es.length r)(ho:endA es (xr r)=(v:Int)):∃ρ',TI es fs n frm ρ' (sumV (usG es fs to r s)):=by
 unfold Vi.usG
 cases hc:Dd (capA es fs r>0) with
 | false=>exact⟨ρ,h⟩
 | true =>
  have hc':0<capA es fs r:=by simpa using hc
  obtain⟨e0,e1⟩:=endA_in hr (by omega) hin
  show ∃ρ',TI es fs n frm ρ' (sumV (usY to r (endA es r) s))
  unfold usY
  cases hg:Dd (s.1.getD (endA es r).toNat 0≥0) with
  | true=>exact⟨ρ,h⟩
  | false =>
   have hx:s.1.getD (endA es r).toNat 0<0:=by simpa using hg
   cases endA es r==to with
   | true=>exact⟨_,h.set hv hmk hr hc' ho rfl e0 e1 hx (fun w hw=>.inr hw)⟩
   | false =>
    refine⟨_,h.set hv hmk hr hc' ho rfl e0 e1 hx (fun w hw=>?_)⟩
    simp only[QF.push,QF.list,List.mem_append,List.mem_singleton] at hw
    rcases hw with hw|hw
    ·exact .inr hw
    ·exact .inl hw
theorem TI.forL(hm:es.length≤1000)(hin:∀x∈es,EdgIn n x){v:Nat}(hv:v<n):∀(B:List Int) (ρ:Nat→Nat) (s:List Int×QF),(∀r∈B,ResOk es.length r∧endA es (xr r)=(v:Int))→TI es fs n frm ρ s→0≤s.1.getD v 0→∃ρ',TI es fs n frm ρ' (sumV (forL (Vi.usG es fs to) B s))
 | [],ρ,s,_,h,_=>⟨ρ,h⟩
 | r::B,ρ,s,hB,h,hmk=>by
  obtain⟨hr,ho⟩:=hB r (by simp)
  obtain⟨ρ1,h1⟩:=h.usG (to:=to) hm hin hv hmk hr ho
  have hk:=usG_keep (es:=es) (fs:=fs) (to:=to) (r:=r) hmk
  simp only[Vi.forL]
  cases hg:Vi.usG es fs to r s with
  | inr s1=>rw[hg] at h1;exact⟨ρ1,h1⟩
  | inl s1 =>
   rw[hg] at h1 hk
   exact TI.forL hm hin hv B ρ1 s1 (fun x hx=>hB x (by simp[hx])) h1 (by simp only[sumV] at hk;rw[hk];exact hmk)
theorem TI.bfs(hm:es.length≤1000)(hin:∀x∈es,EdgIn n x){adj:List (List Int)}(ha:adj.length=n)(hB:∀B∈adj,∀r∈B,ResOk es.length r)(hA:AdjL es adj){k:Nat}{s f:List Int×QF}(hb:Bfs adj es fs to k s f):
  ∀{ρ:Nat→Nat},SOk n s→TI es fs n frm ρ s→∃ρ',TI es fs n frm ρ' f:=by
 have key:∀{s:List Int×QF} {v:Int} {rest:List Int},SOk n s→s.2.list=v::rest→v.toNat<n∧(∀r∈adj.getD v.toNat [],ResOk es.length r∧endA es (xr r)=(v.toNat:Int)):=by
  intro s v rest hs hl
  obtain⟨v0,v1⟩:=hs.mem v (by rw[hl];simp)
  refine⟨v1,fun r hr=>⟨?_,hA v.toNat r hr⟩⟩
  have:adj.getD v.toNat []=adj[v.toNat]'(by omega):=by simp[List.getD,ha,v1]
  rw[this] at hr
  exact hB _ (List.getElem_mem _) r hr
 have pop:∀{s:List Int×QF} {v:Int} {rest:List Int} {ρ:Nat→Nat},s.2.list=v::rest→TI es fs n frm ρ s→TI es fs n frm ρ (s.1,s.2.pop):=by
  intro s v rest ρ hl h
  exact⟨h.len,h.src,fun w hw=>h.q w (by rw[QF.pop_list hl] at hw;rw[hl];simp[hw]),h.t⟩
 induction hb with
 | done _=>exact fun _ h=>⟨_,h⟩
 | stop hl hf =>
  intro ρ hs h
  obtain⟨k1,k2⟩:=key hs hl
  have hm0:=h.q _ (by rw[hl];exact List.mem_cons_self)
  obtain⟨ρ',h'⟩:=TI.forL (to:=to) hm hin k1 _ ρ _ k2 (pop hl h) hm0
  rw[hf] at h'
  exact⟨ρ',h'⟩
 | step hl hf _ ih =>
  intro ρ hs h
  obtain⟨k1,k2⟩:=key hs hl
  have hm0:=h.q _ (by rw[hl];exact List.mem_cons_self)
  obtain⟨ρ',h'⟩:=TI.forL (to:=to) hm hin k1 _ ρ _ k2 (pop hl h) hm0
  rw[hf] at h'
  exact ih (SOk.forL hm hin _ _ _ (fun r hr=>(k2 r hr).1) (hs.pop hl) hf) h'
end
inductive PathT (es:List EdgT) (fs by':List Int) (frm:Int) (ρ:Nat→Nat):Int→List Int→Prop
 | nil:PathT es fs by' frm ρ frm []
 | cons {v r rs}:v ≠ frm→0≤v→by'[v.toNat]? = some r→ResOk es.length r→0<capA es fs r→endA es r=v→ρ (endA es (xr r)).toNat<ρ v.toNat→PathT es fs by' frm ρ (endA es (xr r)) rs→PathT es fs by' frm ρ v (r::rs)
theorem PathT.path{es:List EdgT}{fs by':List Int}{frm:Int}{ρ:Nat→Nat}{v:Int}{rs:List Int}(h:PathT es fs by' frm ρ v rs):Path es by' frm v rs:=by
 induction h with
 | nil=>exact .nil
 | cons h1 h2 h3 h4 _ _ _ _ ih=>exact .cons h1 h2 h3 h4 ih
theorem path_ex{es:List EdgT}{fs:List Int}{n:Nat}{frm:Int}{ρ:Nat→Nat}{s:List Int×QF}(hm:es.length≤1000)(hin:∀x∈es,EdgIn n x)(h:TI es fs n frm ρ s):∀(m:Nat) (v:Int),ρ v.toNat<m→0≤v→v.toNat<n→0≤s.1.getD v.toNat 0→∃rs,PathT es fs s.1 frm ρ v rs
 | 0,v,h,_,_,_=>absurd h (Nat.not_lt_zero _)
 | m+1,v,hρ,v0,v1,hmk=>by
  by_cases hv:v=frm
  ·subst hv;exact⟨[],.nil⟩
  ·obtain⟨t1,t2,t3,t4,t5⟩:=h.t v.toNat v1 hmk (by omega)
   have hx:=xr_ok t1 (by omega)
   obtain⟨e0,e1⟩:=endA_in hx (by omega) hin
   obtain⟨rs,hp⟩:=path_ex hm hin h m (endA es (xr (s.1.getD v.toNat 0))) (by omega) e0 e1 t4
   have hg:s.1[v.toNat]? = some (s.1.getD v.toNat 0):=by simp[List.getD,h.len,v1]
   exact⟨_,.cons hv v0 hg t1 t2 (by rw[t3];omega) t5 hp⟩
def outL:List EdgT→List Int→Int→Int
 | x::es,f::fs,w=>(if x.frm=w then f else 0) - (if x.to=w then f else 0)+outL es fs w
 | _,_,_=>0
theorem outL_set:∀(es:List EdgT) (fs:List Int) (i:Nat) (d w:Int),fs.length=es.length→i<es.length →
  outL es (fs.set i (fs.getD i 0+d)) w=outL es fs w+((if (es.getD i ⟨0,0,0⟩).frm=w then d else 0) - (if (es.getD i ⟨0,0,0⟩).to=w then d else 0))
 | [],_,i,_,_,_,hi=>absurd hi (Nat.not_lt_zero _)
 | x::es,[],_,_,_,hl,_=>by simp at hl
 | x::es,f::fs,0,d,w,_,_=>by
  simp only[List.set_cons_zero,List.getD_cons_zero,outL]
  split<;>split<;>omega
 | x::es,f::fs,i+1,d,w,hl,hi=>by
  simp only[List.set_cons_succ,List.getD_cons_succ,outL]
  rw[outL_set es fs i d w (by simpa using hl) (by simpa using hi)]
  omega
theorem ls_fold{es:List EdgT}{fs:List Int}:∀(rs:List Int) (l0:Int),0<l0→(∀r∈rs,0<capA es fs r)→0<rs.foldl (lsF es fs) l0∧rs.foldl (lsF es fs) l0≤l0∧∀r∈rs,rs.foldl (lsF es fs) l0≤capA es fs r
 | [],l0,h,_=>⟨h,Int.le_refl _,by simp⟩
 | r::rs,l0,h,hc=>by
  have hr:=hc r (by simp)
  have h1:0<lsF es fs l0 r∧lsF es fs l0 r≤l0∧lsF es fs l0 r≤capA es fs r:=by
   unfold lsF mnI
   split<;>omega
  obtain⟨a,b,c⟩:=ls_fold rs (lsF es fs l0 r) h1.1 (fun x hx=>hc x (by simp[hx]))
  rw[List.foldl_cons]
  refine⟨a,by omega,fun x hx=>?_⟩
  rcases List.mem_cons.1 hx with rfl|hx
  ·omega
  ·exact c x hx
section
variable {es:List EdgT} {fs by':List Int} {frm:Int} {ρ:Nat→Nat}
theorem PathT.rank{v:Int}{rs:List Int}(h:PathT es fs by' frm ρ v rs):∀r∈rs,ResOk es.length r∧0<capA es fs r∧ρ (endA es r).toNat≤ρ v.toNat∧ρ (endA es (xr r)).toNat<ρ (endA es r).toNat:=by
 induction h with
 | nil=>simp
 | cons h1 h2 h3 h4 h5 h6 h7 _ ih =>
  intro r hr
  rcases List.mem_cons.1 hr with rfl|hr
  ·exact⟨h4,h5,by rw[h6];exact Nat.le_refl _,by rw[h6];exact h7⟩
  ·obtain⟨a,b,c,d⟩:=ih r hr
   exact⟨a,b,by omega,d⟩
theorem PathT.dist(hm:es.length≤1000){v r:Int}{rs:List Int}(h:PathT es fs by' frm ρ v (r::rs)):∀x∈rs,ixR x ≠ ixR r:=by
 cases h with
 | cons h1 h2 h3 h4 h5 h6 h7 h8 =>
  intro x hx e
  obtain⟨a,_,c,d⟩:=h8.rank x hx
  obtain⟨i,hi,ri⟩:=res_cases h4
  obtain⟨j,hj,rj⟩:=res_cases a
  have hij:i=j:=by
   rcases ri with rfl|rfl<;>rcases rj with rfl|rfl
   ·rw[ix0 (by omega),ix0 (by omega)] at e;omega
   ·rw[ix0 (by omega),ix1 (by omega)] at e;omega
   ·rw[ix1 (by omega),ix0 (by omega)] at e;omega
   ·rw[ix1 (by omega),ix1 (by omega)] at e;omega
  subst hij
  rcases ri with rfl|rfl<;>rcases rj with rfl|rfl
  ·rw[h6] at c;omega
  ·rw[xr0 hi (by omega)] at h7 c
   rw[xr1 hi (by omega),h6] at d
   omega
  ·rw[xr1 hi (by omega)] at h7 c
   rw[xr0 hi (by omega),h6] at d
   omega
  ·rw[h6] at c;omega
theorem push_one{gs:List Int}(h:FlOk es gs){r least:Int}(hr:ResOk es.length r)(hl:0<least)(hc:least≤capA es gs r):
  FlOk es (puF least gs r)∧∀w,outL es (puF least gs r) w=outL es gs w+((if endA es (xr r)=w then least else 0) - (if endA es r=w then least else 0)):=by
 have hs:=h.sz
 obtain⟨i,hi,hri⟩:=res_cases hr
 have h1:=h.lo i hi
 have h2:=h.hi i hi
 have h3:=h.most i hi
 have hlen:=h.len
 have key:∀d:Int,0≤gs.getD i 0+d→gs.getD i 0+d≤(es.getD i ⟨0,0,0⟩).most→FlOk es (gs.set i (gs.getD i 0+d)):=by
  intro d d0 d1
  refine⟨by simpa using hlen,hs,?_,?_,h.most⟩
  ·intro j hj
   rw[getDI_set]
   split
   ·exact d0
   ·exact h.lo j hj
  ·intro j hj
   rw[getDI_set]
   split
   ·rename_i hc;rw[←hc.1];exact d1
   ·exact h.hi j hj
 rcases hri with rfl|rfl
 ·rw[cap0 h hi] at hc
  have e:puF least gs (2*(i:Int))=gs.set i (gs.getD i 0+least):=by
   unfold puF fA pushE
   rw[ix0 (by omega),Int.toNat_natCast,tn0]
   simp only
   rw[wrap_i64 (by omega) (by omega)]
  rw[e]
  refine⟨key least (by omega) (by omega),fun w=>?_⟩
  rw[outL_set es gs i least w hlen hi,xr0 hi (by omega),end0 (by omega),end1 (by omega)]
 ·rw[cap1 (by omega)] at hc
  have e:puF least gs (2*(i:Int)+1)=gs.set i (gs.getD i 0+(-least)):=by
   unfold puF fA pushE
   rw[ix1 (by omega),Int.toNat_natCast,tn1]
   simp only
   rw[wrap_i64 (n:=0 - least) (by omega) (by omega),wrap_i64 (by omega) (by omega)]
   congr 1;omega
  rw[e]
  refine⟨key (-least) (by omega) (by omega),fun w=>?_⟩
  rw[outL_set es gs i (-least) w hlen hi,xr1 hi (by omega),end0 (by omega),end1 (by omega)]
  split<;>split<;>omega
theorem fA_pu{gs:List Int}{least r x:Int}(hr:ResOk es.length r)(hx:ResOk es.length x)(hm:es.length≤1000)(hne:ixR x ≠ ixR r):fA (puF least gs r) x=fA gs x:=by
 unfold fA puF
 rw[getDI_set,if_neg]
 rintro⟨e,_⟩
 have h1:=(ixR_eq hr (by omega)).1
 have h2:=(ixR_eq hx (by omega)).1
 rw[h1,h2] at e
 rw[h1,h2] at hne
 simp only[Int.toNat_natCast] at e
 exact hne (by rw[e])
theorem capA_fA{gs:List Int}{x:Int}(h:fA gs x=fA fs x):capA es gs x=capA es fs x:=by unfold capA;rw[h]
theorem push_path(least:Int)(hl:0<least):∀(rs:List Int) (v:Int) (gs:List Int),PathT es fs by' frm ρ v rs→FlOk es gs→(∀r∈rs,fA gs r=fA fs r)→(∀r∈rs,least≤capA es fs r) →
  FlOk es (rs.foldl (puF least) gs)∧∀w,outL es (rs.foldl (puF least) gs) w=outL es gs w+((if frm=w then least else 0) - (if v=w then least else 0))
 | [],v,gs,hp,h,_,_=>by
  cases hp
  exact⟨h,fun w=>by simp only[List.foldl_nil];omega⟩
 | r::rs,v,gs,hp,h,hf,hc=>by
  have hd:=hp.dist h.sz
  have hk:=hp.rank
  cases hp with
  | cons h1 h2 h3 h4 h5 h6 h7 h8 =>
   obtain⟨a,b⟩:=push_one h h4 hl (by rw[capA_fA (hf r (by simp))];exact hc r (by simp))
   obtain⟨c,d⟩:=push_path least hl rs _ (puF least gs r) h8 a (fun x hx=>by
    rw[fA_pu h4 (hk x (by simp[hx])).1 h.sz (hd x hx)];exact hf x (by simp[hx])) (fun x hx=>hc x (by simp[hx]))
   rw[List.foldl_cons]
   refine⟨c,fun w=>?_⟩
   rw[d w,b w,h6]
   omega
theorem aug_ok(h:FlOk es fs){v:Int}{rs:List Int}(hp:PathT es fs by' frm ρ v rs):0<lsR es fs rs∧FlOk es (puR es fs rs)∧∀w,outL es (puR es fs rs) w=outL es fs w+((if frm=w then lsR es fs rs else 0) - (if v=w then lsR es fs rs else 0)):=by
 obtain⟨a,_,c⟩:=ls_fold (es:=es) (fs:=fs) rs 1073741824 (by omega) (fun r hr=>(hp.rank r hr).2.1)
 exact⟨a,push_path _ a rs v fs hp h (fun _ _=>rfl) c⟩
end
def sumM:List EdgT→Int
 | []=>0
 | x::es=>x.most+sumM es
theorem outL_le:∀(es:List EdgT) (fs:List Int) (w:Int),(∀i,i<es.length→0≤fs.getD i 0∧fs.getD i 0≤(es.getD i ⟨0,0,0⟩).most)→outL es fs w≤sumM es
 | [],fs,w,_=>by cases fs<;>simp[outL,sumM]
 | x::es,[],w,h=>by
  have h0:=h 0 (by simp)
  have h1:=outL_le es [] w (fun i hi=>by have:=h (i+1) (by simpa using hi);simpa using this)
  simp only[List.getD_cons_zero,List.getD_nil] at h0
  have e:outL es [] w=0:=by cases es<;>rfl
  simp only[outL,sumM]
  omega
 | x::es,f::fs,w,h=>by
  have h0:=h 0 (by simp)
  have h1:=outL_le es fs w (fun i hi=>by have:=h (i+1) (by simpa using hi);simpa using this)
  simp only[List.getD_cons_zero] at h0
  simp only[outL,sumM]
  split<;>split<;>omega
section
variable {es:List EdgT} {n:Nat} {frm to:Int}
theorem bs0_ok(hfr:0≤frm∧frm.toNat<n):SOk n (bs0 n es.length frm):=by
 refine⟨by simp[by0],by simp,by simp,?_,?_⟩
 ·intro v hv
  simp only[QF.list,List.mem_singleton] at hv
  subst hv;exact hfr
 ·have h1:unm (by0 n es.length frm)≤n:=by
   have:=List.countP_le_length (p:=fun x:Int=>Dd (x<0)) (l:=by0 n es.length frm)
   unfold unm
   simpa[by0] using this
  simp only[List.length_singleton];omega
theorem bs0_ti{fs:List Int}(hm:es.length≤1000)(hfr:0≤frm∧frm.toNat<n):TI es fs n frm (fun _=>0) (bs0 n es.length frm):=by
 have h0:(by0 n es.length frm).getD frm.toNat 0=2*(es.length:Int):=by
  unfold by0
  rw[getDI_set,if_pos ⟨rfl,by simpa using hfr.2⟩,wrap_i64 (by omega) (by omega)];omega
 refine⟨by simp[by0],?_,?_,?_⟩
 ·simp only;rw[h0];omega
 ·intro v hv
  simp only[QF.list,List.mem_singleton] at hv
  subst hv
  simp only;rw[h0];omega
 ·intro v hv hmk hne
  simp only at hmk
  unfold by0 at hmk
  rw[getDI_set,if_neg (by rintro⟨e,_⟩;omega)] at hmk
  have:(List.replicate n (-1:Int)).getD v 0 = -1:=by simp[List.getD,hv]
  rw[this] at hmk
  omega
theorem srch_ex(hm:es.length≤1000)(hin:∀x∈es,EdgIn n x)(hfr:0≤frm∧frm.toNat<n)(fs:List Int):∃k f ρ,Bfs (adjR n es) es fs to k (bs0 n es.length frm) f∧TI es fs n frm ρ f:=by
 have hB:∀B∈adjR n es,∀r∈B,ResOk es.length r:=fun B hb=>(adjR_ok n hm B hb).1
 obtain⟨k,f,hb⟩:=bfs_ex (fs:=fs) (to:=to) hm hin (adjR_len n es) hB _ (bs0 n es.length frm) (Nat.lt_succ_self _) (bs0_ok hfr)
 obtain⟨ρ,hT⟩:=TI.bfs (frm:=frm) hm hin (adjR_len n es) hB (adjR_law hm hin) hb (bs0_ok hfr) (bs0_ti hm hfr)
 exact⟨k,f,ρ,hb,hT⟩
structure Flow (es:List EdgT) (frm to:Int) (fs:List Int):Prop where
 ok:FlOk es fs
 cons:∀w,w ≠ frm→w ≠ to→outL es fs w=0
theorem Flow.aug{fs by':List Int}{ρ:Nat→Nat}{rs:List Int}(h:Flow es frm to fs)(hp:PathT es fs by' frm ρ to rs):Flow es frm to (puR es fs rs):=by
 obtain⟨_,b,c⟩:=aug_ok h.ok hp
 refine⟨b,fun w h1 h2=>?_⟩
 rw[c w,if_neg (fun e=>h1 e.symm),if_neg (fun e=>h2 e.symm),h.cons w h1 h2]
 rfl
theorem max_ex(hm:es.length≤1000)(hin:∀x∈es,EdgIn n x)(hfr:0≤frm∧frm.toNat<n)(hto:0≤to∧to.toNat<n)(hne:frm ≠ to):∀(m:Nat) (fs:List Int),(sumM es - outL es fs frm).toNat<m→Flow es frm to fs →
  ∃j g,MaxR (adjR n es) es n frm to j fs g∧Flow es frm to g.1∧∃k f ρ,Bfs (adjR n es) es g.1 to k (bs0 n es.length frm) f∧TI es g.1 n frm ρ f∧f.1=g.2∧g.2.getD to.toNat 0<0
 | 0,fs,h,_=>absurd h (Nat.not_lt_zero _)
 | m+1,fs,h,hF=>by
  obtain⟨k,f,ρ,hb,hT⟩:=srch_ex (to:=to) hm hin hfr fs
  by_cases hx:f.1.getD to.toNat 0<0
  ·exact⟨0,(fs,f.1),.done hb hx,hF,k,f,ρ,hb,hT,rfl,hx⟩
  ·obtain⟨rs,hp⟩:=path_ex hm hin hT _ to (Nat.lt_succ_self _) hto.1 hto.2 (by omega)
   obtain⟨a,b,c⟩:=aug_ok hF.ok hp
   have hle:=outL_le es (puR es fs rs) frm (fun i hi=>⟨b.lo i hi,b.hi i hi⟩)
   have hc:=c frm
   rw[if_pos rfl,if_neg (fun e=>hne e.symm)] at hc
   obtain⟨j,g,h1,h2⟩:=max_ex hm hin hfr hto hne m (puR es fs rs) (by omega) (hF.aug hp)
   exact⟨j+1,g,.step hb hx hp.path h1,h2⟩
theorem flow0(hm:es.length≤1000)(h0:∀x∈es,0≤x.most∧x.most≤1073741824):Flow es frm to (List.replicate es.length 0):=by
 have hg:∀i,(List.replicate es.length (0:Int)).getD i 0=0:=by
  intro i
  simp only[List.getD,List.getElem?_replicate]
  split<;>rfl
 have hx:∀i,i<es.length→es.getD i ⟨0,0,0⟩∈es:=by
  intro i hi
  have:es.getD i ⟨0,0,0⟩=es[i]:=by simp[List.getD,hi]
  rw[this];exact List.getElem_mem hi
 refine⟨⟨by simp,hm,fun i _=>by rw[hg];exact Int.le_refl _,fun i hi=>by rw[hg];exact(h0 _ (hx i hi)).1,fun i hi=>(h0 _ (hx i hi)).2⟩,fun w _ _=>?_⟩
 have:∀(l:List EdgT),outL l (List.replicate l.length 0) w=0:=by
  intro l
  induction l with
  | nil=>rfl
  | cons x l ih=>simp only[List.length_cons,List.replicate_succ,outL,ih];split<;>split<;>rfl
 exact this es
theorem max_all(hm:es.length≤1000)(hin:∀x∈es,EdgIn n x)(h0:∀x∈es,0≤x.most∧x.most≤1073741824)(hfr:0≤frm∧frm.toNat<n)(hto:0≤to∧to.toNat<n)(hne:frm ≠ to):
  ∃j g,MaxR (adjR n es) es n frm to j (List.replicate es.length 0) g∧Flow es frm to g.1∧∃k f ρ,Bfs (adjR n es) es g.1 to k (bs0 n es.length frm) f∧TI es g.1 n frm ρ f∧f.1=g.2∧g.2.getD to.toNat 0<0 :=
 max_ex hm hin hfr hto hne _ _ (Nat.lt_succ_self _) (flow0 hm h0)
end
abbrev gmS(es:List EdgT)(fs by':List Int)(frm to least v:Int):AS:={t:=mkT 119 0 [(0,rowsD' (es.map EdgT.row)),(1,rowsD' (inR1 fs)),(2,rowsD' (inR1 by')),(3,int frm),(4,int to),(11,int least),(12,int v)],h:=[],m:=[]}
theorem gm_last{es:List EdgT}{fs by':List Int}{frm to least v:Int}(hv:(v != frm)=false):(CW Tryz.prog Γ0 [] false (sub Tryz.f78 0) (gmS es fs by' frm to least v) (.exit 0) {t:=mkT 119 0 [(0,rowsD' (es.map EdgT.row)),(1,rowsD' (inR1 fs)),(2,rowsD' (inR1 by')),(3,int frm),(4,int to),(11,int least)],h:=[],m:=[]}):=by
 exact CW.cast (CW.symX (s':={t:=mkT 119 0 [(0,rowsD' (List.map EdgT.row es)),(1,rowsD' (inR1 fs)),(2,rowsD' (inR1 by')),(3,int frm),(4,int to),(11,int least)],h:=[],m:=[]}) (e:=Exit.exit 0) pok [.st (.mask [0,1,2,3,4,11])] [.b false] (by kernel_rfl) (.c hv .n)) (by rfl) (by rfl)
theorem gm_f{es:List EdgT}{fs by':List Int}{frm to least v b f:Int}{x:EdgT}(hv:(v != frm)=true)(hb:RowAt v (inR1 by') [vi b] 1)(hg:Dd (b>0)=true)(hx:RowAt (IntKind.i64.wrap (b - 1)) (es.map EdgT.row) x.row 3)(hf:RowAt (IntKind.i64.wrap (b - 1)) (inR1 fs) [vi f] 1):(CW Tryz.prog Γ0 [] false (sub Tryz.f78 0) (gmS es fs by' frm to least v) .normal (gmS es fs by' frm to (mnI least (IntKind.i64.wrap (x.most - f))) x.frm)):=by
 exact CW.cast (CW.symX (s':={t:=mkT 119 0 [(0,rowsD' (List.map EdgT.row es)),(1,rowsD' (inR1 fs)),(2,rowsD' (inR1 by')),(3,int frm),(4,int to),(11,int (if false=true then if IntKind.wrap IntKind.i64 (x.most - f)>least then IntKind.wrap IntKind.i64 (x.most - f) else least else if IntKind.wrap IntKind.i64 (x.most - f)<least then IntKind.wrap IntKind.i64 (x.most - f) else least)),(12,int x.frm)],h:=[],m:=[]}) (e:=Exit.normal) pok [.st (.mask [0,1,2,3,4,11,12])] [.b true,.row [vi b],.b true,.row [vi b],.row [vi x.frm,vi x.to,vi x.most],.row [vi f],.row [vi x.frm,vi x.to,vi x.most]] (by kernel_rfl) (.c hv (.c hb (.c hg (.c hb (.c hx (.c hf (.c hx .n)))))))) (by rfl) (by rfl)
theorem gm_t{es:List EdgT}{fs by':List Int}{frm to least v b f:Int}{x:EdgT}(hv:(v != frm)=true)(hb:RowAt v (inR1 by') [vi b] 1)(hg:Dd (b>0)=false)(hx:RowAt (IntKind.i64.wrap (IntKind.i64.wrap (0 - b) - 1)) (es.map EdgT.row) x.row 3)(hf:RowAt (IntKind.i64.wrap (IntKind.i64.wrap (0 - b) - 1)) (inR1 fs) [vi f] 1):(CW Tryz.prog Γ0 [] false (sub Tryz.f78 0) (gmS es fs by' frm to least v) .normal (gmS es fs by' frm to (mnI least f) x.to)):=by
 exact CW.cast (CW.symX (s':={t:=mkT 119 0 [(0,rowsD' (List.map EdgT.row es)),(1,rowsD' (inR1 fs)),(2,rowsD' (inR1 by')),(3,int frm),(4,int to),(11,int (if false=true then if f>least then f else least else if f<least then f else least)),(12,int x.to)],h:=[],m:=[]}) (e:=Exit.normal) pok [.st (.mask [0,1,2,3,4,11,12])] [.b true,.row [vi b],.b false,.row [vi b],.row [vi f],.row [vi x.frm,vi x.to,vi x.most]] (by kernel_rfl) (.c hv (.c hb (.c hg (.c hb (.c hf (.c hx .n))))))) (by rfl) (by rfl)
abbrev gpS(es:List EdgT)(gs by':List Int)(frm least v:Int):AS:={t:=mkT 119 0 [(0,rowsD' (es.map EdgT.row)),(2,rowsD' (inR1 by')),(3,int frm),(11,int least),(15,.ref (.vec 0 0)),(16,int v)],h:=[.vec (vecI gs) 0 1],m:=[]}
theorem gp_last{es:List EdgT}{gs by':List Int}{frm least v:Int}(hv:(v != frm)=false):(CW Tryz.prog Γ0 [] false (sub Tryz.f78 1) (gpS es gs by' frm least v) (.exit 2) {t:=mkT 119 0 [(15,.ref (.vec 0 0))],h:=[.vec (vecI gs) 0 1],m:=[]}):=by
 exact CW.cast (CW.symX (s':={t:=mkT 119 0 [(15,.ref (.vec 0 0))],h:=[.vec (vecI gs) 0 1],m:=[]}) (e:=Exit.exit 2) pok [.st (.mask [15])] [.b false] (by kernel_rfl) (.c hv .n)) (by rfl) (by rfl)
theorem gp_f{es:List EdgT}{gs by':List Int}{frm least v b f:Int}{x:EdgT}(hv:(v != frm)=true)(hb:RowAt v (inR1 by') [vi b] 1)(hg:Dd (b>0)=true)(hx:RowAt (IntKind.i64.wrap (b - 1)) (es.map EdgT.row) x.row 3)(h0:0≤IntKind.i64.wrap (b - 1))(hf:gs[Int.toNat (IntKind.i64.wrap (b - 1))]? = some f):(CW Tryz.prog Γ0 [] false (sub Tryz.f78 1) (gpS es gs by' frm least v) .normal (gpS es (gs.set (Int.toNat (IntKind.i64.wrap (b - 1))) (IntKind.i64.wrap (f+least))) by' frm least x.frm)):=by
 refine CW.cast (CW.symX (s':={t:=mkT 119 0 [(0,rowsD' (List.map EdgT.row es)),(2,rowsD' (inR1 by')),(3,int frm),(11,int least),(15,.ref (.vec 0 0)),(16,int x.frm)],h:=[.vec (vecI (List.set gs (Int.toNat (IntKind.wrap IntKind.i64 (b - 1))) (IntKind.wrap IntKind.i64 (f+least)))) 0 1],m:=[]}) (e:=Exit.normal) pok [.st (.mask [0,2,3,11,15,16])] [.b true,.row [vi b],.b true,.row [vi b],.ov 89 (int f),.oh 10092 D.any [.vec (vecI (List.set gs (Int.toNat (IntKind.wrap IntKind.i64 (b - 1))) (IntKind.wrap IntKind.i64 (f+least)))) 0 1],.row [vi x.frm,vi x.to,vi x.most]] (by kernel_rfl) (.c hv (.c hb (.c hg (.c hb (.c (show inR (IntKind.wrap IntKind.i64 (b - 1)) (List.length (vecI gs))=true from ?_) (.c (show loadD Tryz.prog [.vec (vecI gs) 0 1] 3 (.ref (.vp 0 0 (Int.toNat (IntKind.wrap IntKind.i64 (b - 1))) 0))=some (int f) from ?_) (.c (show inR (IntKind.wrap IntKind.i64 (b - 1)) (List.length (vecI gs))=true from ?_) (.c (show storeD Tryz.prog [.vec (vecI gs) 0 1] 3 (.ref (.vp 0 0 (Int.toNat (IntKind.wrap IntKind.i64 (b - 1))) 0)) (int (IntKind.wrap IntKind.i64 (f+least)))=some [.vec (vecI (List.set gs (Int.toNat (IntKind.wrap IntKind.i64 (b - 1))) (IntKind.wrap IntKind.i64 (f+least)))) 0 1] from ?_) (.c hx .n)))))))))) (by rfl) (by rfl)<;>(first|assumption|rfl|exact vg_in h0 hf|exact vg_load rfl hf|exact vg_vp hf|exact vg_store rfl (vg_lt hf))
theorem gp_t{es:List EdgT}{gs by':List Int}{frm least v b f:Int}{x:EdgT}(hv:(v != frm)=true)(hb:RowAt v (inR1 by') [vi b] 1)(hg:Dd (b>0)=false)(hx:RowAt (IntKind.i64.wrap (IntKind.i64.wrap (0 - b) - 1)) (es.map EdgT.row) x.row 3)(h0:0≤IntKind.i64.wrap (IntKind.i64.wrap (0 - b) - 1))(hf:gs[Int.toNat (IntKind.i64.wrap (IntKind.i64.wrap (0 - b) - 1))]? = some f):(CW Tryz.prog Γ0 [] false (sub Tryz.f78 1) (gpS es gs by' frm least v) .normal (gpS es (gs.set (Int.toNat (IntKind.i64.wrap (IntKind.i64.wrap (0 - b) - 1))) (IntKind.i64.wrap (f - least))) by' frm least x.to)):=by
 refine CW.cast (CW.symX (s':={t:=mkT 119 0 [(0,rowsD' (List.map EdgT.row es)),(2,rowsD' (inR1 by')),(3,int frm),(11,int least),(15,.ref (.vec 0 0)),(16,int x.to)],h:=[.vec (vecI (List.set gs (Int.toNat (IntKind.wrap IntKind.i64 (IntKind.wrap IntKind.i64 (0 - b) - 1))) (IntKind.wrap IntKind.i64 (f - least)))) 0 1],m:=[]}) (e:=Exit.normal) pok [.st (.mask [0,2,3,11,15,16])] [.b true,.row [vi b],.b false,.row [vi b],.ov 109 (int f),.oh 10112 D.any [.vec (vecI (List.set gs (Int.toNat (IntKind.wrap IntKind.i64 (IntKind.wrap IntKind.i64 (0 - b) - 1))) (IntKind.wrap IntKind.i64 (f - least)))) 0 1],.row [vi x.frm,vi x.to,vi x.most]] (by kernel_rfl) (.c hv (.c hb (.c hg (.c hb (.c (show inR (IntKind.wrap IntKind.i64 (IntKind.wrap IntKind.i64 (0 - b) - 1)) (List.length (vecI gs))=true from ?_) (.c (show loadD Tryz.prog [.vec (vecI gs) 0 1] 3 (.ref (.vp 0 0 (Int.toNat (IntKind.wrap IntKind.i64 (IntKind.wrap IntKind.i64 (0 - b) - 1))) 0))=some (int f) from ?_) (.c (show inR (IntKind.wrap IntKind.i64 (IntKind.wrap IntKind.i64 (0 - b) - 1)) (List.length (vecI gs))=true from ?_) (.c (show storeD Tryz.prog [.vec (vecI gs) 0 1] 3 (.ref (.vp 0 0 (Int.toNat (IntKind.wrap IntKind.i64 (IntKind.wrap IntKind.i64 (0 - b) - 1))) 0)) (int (IntKind.wrap IntKind.i64 (f - least)))=some [.vec (vecI (List.set gs (Int.toNat (IntKind.wrap IntKind.i64 (IntKind.wrap IntKind.i64 (0 - b) - 1))) (IntKind.wrap IntKind.i64 (f - least)))) 0 1] from ?_) (.c hx .n)))))))))) (by rfl) (by rfl)<;>(first|assumption|rfl|exact vg_in h0 hf|exact vg_load rfl hf|exact vg_vp hf|exact vg_store rfl (vg_lt hf))
theorem vecI_p(l:List Int):(inR1 l).map (fun x=>x.map D.p)=vecI l:=(vecI_frz l).symm
theorem gm_room{fs:List Int}(h:(inR1 fs).length≤100000):(List.all (List.map (fun x=>List.map D.p x) (inR1 fs)) (rowOk 1)&&roomOk (List.length ([]:List (List D))+List.length (List.map (fun x=>List.map D.p x) (inR1 fs))) 8)=true:=by
 have h2:fs.length≤100000:=by simpa using h
 have h1:(vecI fs).all (rowOk 1)=true:=List.all_eq_true.2 fun r hr=>by
  obtain⟨a,_,rfl⟩:=List.mem_map.1 hr
  rfl
 rw[vecI_p,h1,List.length_nil,Nat.zero_add,vecI_len]
 exact room8 (by omega)
theorem gm_mp{f:Ref→D}(fs:List Int):List.map (D.mapRL f) (List.map (fun x=>List.map D.p x) (inR1 fs))=List.map (fun x=>List.map D.p x) (inR1 fs):=by rw[vecI_p];exact vecI_map _ _
theorem raug_a{es:List EdgT}{fs gs by':List Int}{frm to least:Int}(hlen:(inR1 fs).length≤100000)
  (h1:CW Tryz.prog Γ0 [] false (.loop (sub Tryz.f78 0)) (gmS es fs by' frm to 1073741824 to) (.exit 0) {t:=mkT 119 0 [(0,rowsD' (es.map EdgT.row)),(1,rowsD' (inR1 fs)),(2,rowsD' (inR1 by')),(3,int frm),(4,int to),(11,int least)],h:=[],m:=[]})
  (h2:CW Tryz.prog Γ0 [] false (.loop (sub Tryz.f78 1)) {t:=mkT 119 0 [(0,rowsD' (es.map EdgT.row)),(2,rowsD' (inR1 by')),(3,int frm),(11,int least),(15,.ref (.vec 0 0)),(16,int to)],h:=[.vec ((inR1 fs).map (·.map .p)) 0 1],m:=[]} (.exit 2) {t:=mkT 119 0 [(15,.ref (.vec 0 0))],h:=[.vec (vecI gs) 0 1],m:=[]}) (h:List Blk):(Ev Tryz.prog Γ0 78 [rowsD' (es.map EdgT.row),rowsD' (inR1 fs),rowsD' (inR1 by'),int frm,int to] h (rowsD' (inR1 gs)) h):=by
 have hl0:=(@h1)
 have hl1:=(@h2)
 refine Ev.castH (Ev.sym0 (d:=rowsD' (inR1 gs)) pok [.sum [0,1,2,3,4,11,12] (Exit.exit 0) {t:=mkT 119 0 [(0,rowsD' (List.map EdgT.row es)),(1,rowsD' (inR1 fs)),(2,rowsD' (inR1 by')),(3,int frm),(4,int to),(11,int least)],h:=[],m:=[]},.nx 2,.st (.ren 0 0),.sum [0,2,3,11,15,16] (Exit.exit 2) {t:=mkT 119 0 [(15,.ref (.vec 0 0))],h:=[.vec (vecI gs) 0 1],m:=[]},.st (.frz 0 (inR1 gs)),.st (.trim 0)] (by kernel_rfl) (.c hl0 (.c (show(List.all (List.map (fun x=>List.map D.p x) (inR1 fs)) (rowOk 1)&&roomOk (List.length ([]:List (List D))+List.length (List.map (fun x=>List.map D.p x) (inR1 fs))) 8)=true from ?_) (.c (show List.map (D.mapRL (renR 0 1 0)) (List.map (fun x=>List.map D.p x) (inR1 fs))=List.map (fun x=>List.map D.p x) (inR1 fs) from ?_) (.c hl1 (.c (show vecI gs=List.map (fun x=>List.map D.p x) (inR1 gs) from ?_) .n))))) rfl rfl h) (by rfl) (by rfl)<;>(first|assumption|rfl|exact gm_room hlen|exact gm_mp _|exact vecI_frz _|exact vecI_map _ _|exact vecI_inn _ _|(simp;omega))
def cvR(r:Int):Int:=if r % 2=0 then r / 2+1 else -(r / 2+1)
theorem wrap_addn(a b:Int):IntKind.i64.wrap (a+IntKind.i64.wrap (0 - b))=IntKind.i64.wrap (a - b):=by
 simp only[IntKind.wrap_i64];omega
theorem cv0(i:Nat):cvR (2*(i:Int))=(i:Int)+1:=by
 unfold cvR;rw[if_pos (by omega)];omega
theorem cv1(i:Nat):cvR (2*(i:Int)+1) = -((i:Int)+1):=by
 unfold cvR;rw[if_neg (by omega)];omega
section
variable {es:List EdgT} {fs by1 by':List Int} {frm to:Int} {i:Nat}
theorem lsF0{least:Int}(hi:i<100000):lsF es fs least (2*(i:Int))=mnI least (IntKind.i64.wrap ((es.getD i ⟨0,0,0⟩).most - fs.getD i 0)):=by
 unfold lsF capA capE fA exA
 rw[tm0,ix0 hi,Int.toNat_natCast]
theorem lsF1{least:Int}(hi:i<100000):lsF es fs least (2*(i:Int)+1)=mnI least (fs.getD i 0):=by
 unfold lsF
 rw[cap1 hi]
theorem puF0{least:Int}(hi:i<100000):puF least fs (2*(i:Int))=fs.set i (IntKind.i64.wrap (fs.getD i 0+least)):=by
 unfold puF pushE fA
 rw[tn0,ix0 hi,Int.toNat_natCast]
theorem puF1{least:Int}(hi:i<100000):puF least fs (2*(i:Int)+1)=fs.set i (IntKind.i64.wrap (fs.getD i 0 - least)):=by
 unfold puF pushE fA
 rw[tn1,ix1 hi,Int.toNat_natCast]
 simp only[wrap_addn]
def CvOk(m:Nat)(frm:Int)(by1 by':List Int):Prop:=∀(v r:Int),v ≠ frm→0≤v→by1[v.toNat]? = some r→ResOk m r→by'[v.toNat]? = some (cvR r)
theorem rowI{l:List Int}{v a:Int}(h0:0≤v)(h:l[v.toNat]? = some a):RowAt v (inR1 l) [vi a] 1:=by
 have:=rowAt (row:=fun n:Int=>[vi n]) (sz:=1) h rfl
 rw[Int.toNat_of_nonneg h0] at this
 exact this
theorem edE{es:List EdgT}(hi:i<es.length):es[i]? = some (es.getD i ⟨0,0,0⟩):=by simp[List.getD,hi]
theorem fsE{fs:List Int}(hi:i<fs.length):fs[i]? = some (fs.getD i 0):=by simp[List.getD,hi]
theorem gm_loop(hl:fs.length=es.length)(hm:es.length≤1000)(hc:CvOk es.length frm by1 by'){least v:Int}{rs:List Int}(hp:Path es by1 frm v rs):
  CW Tryz.prog Γ0 [] false (.loop (sub Tryz.f78 0)) (gmS es fs by' frm to least v) (.exit 0) {t:=mkT 119 0 [(0,rowsD' (es.map EdgT.row)),(1,rowsD' (inR1 fs)),(2,rowsD' (inR1 by')),(3,int frm),(4,int to),(11,int (rs.foldl (lsF es fs) least))],h:=[],m:=[]}:=by
 refine CW.loop (ι:={p:Int×Int×List Int // Path es by1 frm p.1 p.2.2}) (fun p=>gmS es fs by' frm to p.1.2.1 p.1.1) (fun p=>(.exit 0,{t:=mkT 119 0 [(0,rowsD' (es.map EdgT.row)),(1,rowsD' (inR1 fs)),(2,rowsD' (inR1 by')),(3,int frm),(4,int to),(11,int (p.1.2.2.foldl (lsF es fs) p.1.2.1))],h:=[],m:=[]})) (fun p=>p.1.2.2.length) ?_ ⟨(v,least,rs),hp⟩
 rintro⟨⟨v,least,rs⟩,hp⟩
 cases hp with
 | nil=>exact .inr ⟨by simp,gm_last (by simp)⟩
 | cons h1 h2 h3 h4 h5 =>
  rename_i r rs
  have hb:=rowI h2 (hc v r h1 h2 h3 h4)
  refine .inl ⟨⟨(endA es (xr r),lsF es fs least r,rs),h5⟩,by simp,rfl,?_⟩
  obtain⟨i,hi,hr⟩:=res_cases h4
  rcases hr with rfl|rfl
  ·rw[cv0] at hb
   have e:IntKind.i64.wrap ((i:Int)+1 - 1)=(i:Int):=by rw[wrap_i64 (by omega) (by omega)];omega
   show CW _ _ _ _ _ (gmS es fs by' frm to least v) .normal (gmS es fs by' frm to (lsF es fs least (2*(i:Int))) (endA es (xr (2*(i:Int)))))
   rw[lsF0 (by omega),xr0 hi (by omega),end1 (by omega)]
   refine gm_f (by simpa using h1) hb (by simp) ?_ ?_
   ·rw[e];exact rowAt (row:=EdgT.row) (edE hi) rfl
   ·rw[e];exact rowAt (row:=fun n:Int=>[vi n]) (fsE (by omega)) rfl
  ·rw[cv1] at hb
   have e:IntKind.i64.wrap (IntKind.i64.wrap (0 - -((i:Int)+1)) - 1)=(i:Int):=by
    rw[wrap_i64 (n:=0 - -((i:Int)+1)) (by omega) (by omega),wrap_i64 (by omega) (by omega)];omega
   show CW _ _ _ _ _ (gmS es fs by' frm to least v) .normal (gmS es fs by' frm to (lsF es fs least (2*(i:Int)+1)) (endA es (xr (2*(i:Int)+1))))
   rw[lsF1 (by omega),xr1 hi (by omega),end0 (by omega)]
   refine gm_t (by simpa using h1) hb (by simp;omega) ?_ ?_
   ·rw[e];exact rowAt (row:=EdgT.row) (edE hi) rfl
   ·rw[e];exact rowAt (row:=fun n:Int=>[vi n]) (fsE (by omega)) rfl
theorem gp_loop(hm:es.length≤1000)(hc:CvOk es.length frm by1 by'){least v:Int}{gs:List Int}(hl:gs.length=es.length){rs:List Int}(hp:Path es by1 frm v rs):
  CW Tryz.prog Γ0 [] false (.loop (sub Tryz.f78 1)) (gpS es gs by' frm least v) (.exit 2) {t:=mkT 119 0 [(15,.ref (.vec 0 0))],h:=[.vec (vecI (rs.foldl (puF least) gs)) 0 1],m:=[]}:=by
 refine CW.loop (ι:={p:Int×List Int×List Int // Path es by1 frm p.1 p.2.2∧p.2.1.length=es.length}) (fun p=>gpS es p.1.2.1 by' frm least p.1.1) (fun p=>(.exit 2,{t:=mkT 119 0 [(15,.ref (.vec 0 0))],h:=[.vec (vecI (p.1.2.2.foldl (puF least) p.1.2.1)) 0 1],m:=[]})) (fun p=>p.1.2.2.length) ?_ ⟨(v,gs,rs),hp,hl⟩
 rintro⟨⟨v,gs,rs⟩,hp,hl⟩
 simp only at hl
 cases hp with
 | nil=>exact .inr ⟨by simp,gp_last (by simp)⟩
 | cons h1 h2 h3 h4 h5 =>
  rename_i r rs
  have hb:=rowI h2 (hc v r h1 h2 h3 h4)
  refine .inl ⟨⟨(endA es (xr r),puF least gs r,rs),h5,by rw[puF_len];exact hl⟩,by simp,rfl,?_⟩
  obtain⟨i,hi,hr⟩:=res_cases h4
  rcases hr with rfl|rfl
  ·rw[cv0] at hb
   have e:IntKind.i64.wrap ((i:Int)+1 - 1)=(i:Int):=by rw[wrap_i64 (by omega) (by omega)];omega
   have:=gp_f (es:=es) (gs:=gs) (by':=by') (frm:=frm) (least:=least) (v:=v) (x:=es.getD i ⟨0,0,0⟩) (f:=gs.getD i 0) (by simpa using h1) hb (by simp) (by rw[e];exact rowAt (row:=EdgT.row) (edE hi) rfl) (by rw[e];omega) (by rw[e,Int.toNat_natCast];exact fsE (by omega))
   rw[e,Int.toNat_natCast,←puF0 (by omega)] at this
   show CW _ _ _ _ _ (gpS es gs by' frm least v) .normal (gpS es (puF least gs (2*(i:Int))) by' frm least (endA es (xr (2*(i:Int)))))
   rw[xr0 hi (by omega),end1 (by omega)]
   exact this
  ·rw[cv1] at hb
   have e:IntKind.i64.wrap (IntKind.i64.wrap (0 - -((i:Int)+1)) - 1)=(i:Int):=by
    rw[wrap_i64 (n:=0 - -((i:Int)+1)) (by omega) (by omega),wrap_i64 (by omega) (by omega)];omega
   have:=gp_t (es:=es) (gs:=gs) (by':=by') (frm:=frm) (least:=least) (v:=v) (x:=es.getD i ⟨0,0,0⟩) (f:=gs.getD i 0) (by simpa using h1) hb (by simp;omega) (by rw[e];exact rowAt (row:=EdgT.row) (edE hi) rfl) (by rw[e];omega) (by rw[e,Int.toNat_natCast];exact fsE (by omega))
   rw[e,Int.toNat_natCast,←puF1 (by omega)] at this
   show CW _ _ _ _ _ (gpS es gs by' frm least v) .normal (gpS es (puF least gs (2*(i:Int)+1)) by' frm least (endA es (xr (2*(i:Int)+1))))
   rw[xr1 hi (by omega),end0 (by omega)]
   exact this
theorem raug_ev(hl:fs.length=es.length)(hm:es.length≤1000)(hc:CvOk es.length frm by1 by'){rs:List Int}(hp:Path es by1 frm to rs)(h:List Blk):
  Ev Tryz.prog Γ0 78 [rowsD' (es.map EdgT.row),rowsD' (inR1 fs),rowsD' (inR1 by'),int frm,int to] h (rowsD' (inR1 (puR es fs rs))) h:=by
 refine raug_a (by simp;omega) (gm_loop hl hm hc hp) ?_ h
 rw[vecI_p]
 exact gp_loop hm hc hl hp
end
end Go.Vi
