/- DegreeOptimal: part of the proof: contracts of the functions that the law reaches, and the law. No conditions beyond the given statement's own. -/
import Derived.Test.YthokmgafnhmlbaaGreatDoorW2
open Decidable renaming decide → Dd
open Go Go.Proofs
namespace Go.Vi
set_option maxRecDepth 100000
set_option maxHeartbeats 4000000
theorem cap_ev{es:List EdgT}{A:List (List Dp)}{fs:List Int}{r f:Int}{x:EdgT}{q:Nat}(hq:IntKind.i64.wrap (Int.tdiv r 2)=(q:Int))(hx:RowAt (IntKind.i64.wrap (Int.tdiv r 2)) (es.map EdgT.row) x.row 3)(hf:fs[Int.toNat (IntKind.i64.wrap (Int.tdiv r 2))]? = some f)(hl:q<fs.length):Ev Tryz.prog Γ0 73 [.ref (.ptr 2 0),int r] (fwH es A fs) (int (capE r x f)) (fwH es A fs):=cap_a hq hx hf hl
theorem end_ev{es:List EdgT}{A:List (List Dp)}{fs:List Int}{r:Int}{x:EdgT}(hx:RowAt (IntKind.i64.wrap (Int.tdiv r 2)) (es.map EdgT.row) x.row 3):Ev Tryz.prog Γ0 71 [.ref (.ptr 2 0),int r] (fwH es A fs) (int (endE r x)) (fwH es A fs):=end_a hx
noncomputable abbrev usL(v:Int)(st:LoopState)(pd:Option Code):Blk:=.loop st pd 0 (mkT 59 0 [(0,.ref (.ptr 2 0)),(5,.ref (.ptr 3 0)),(6,.ref (.ptr 4 0)),(7,.ref (.ptr 8 0)),(8,int v),(39,.fn (.func 136) [] [.ref (.ptr 9 0),.ref (.ptr 10 0)])]) #[40,41] (rfAsg (sub Tryz.f69 1)) (rfBody (sub Tryz.f69 1))
noncomputable abbrev usH(es:List EdgT)(A:List (List Dp))(fs:List Int)(v:Int)(b3 b4 b5 b6 b7 b8:Blk)(st:LoopState)(pd:Option Code):List Blk:=[.vec (vecI fs) 0 1,.gone,.var [rowsD' (es.map EdgT.row),.ref (.vec 0 0),rowsD' A],b3,b4,b5,b6,b7,b8,.var [.ref (.ptr 2 0)],.var [int v],.defd,usL v st pd]
noncomputable abbrev usS(es:List EdgT)(A:List (List Dp))(fs:List Int)(v:Int)(B:List (List Dp))(b3 b4 b5 b6 b7 b8:Blk)(j:Int):AS:={t:=mkT 32 0 [(0,.ref (.yl 12)),(1,.ref (.ptr 9 0)),(2,.ref (.ptr 10 0)),(12,rowsD' B),(13,int (B.length:Int)),(14,int j)],h:=usH es A fs v b3 b4 b5 b6 b7 b8 .ready none,m:=[]}
noncomputable abbrev us_no_x0(es:List EdgT)(A:List (List Dp))(fs:List Int)(v:Int)(b3:Blk)(b4:Blk)(b5:Blk)(c6:Blk)(c7:Blk)(c8:Blk):List Blk:=[.vec (vecI fs) 0 1,.gone,.var [rowsD' (List.map EdgT.row es),.ref (.vec 0 0),rowsD' A],b3,b4,b5,c6,c7,c8,.var [.ref (.ptr 2 0)],.var [int v],.defd,.loop LoopState.ready none 0 (mkT 59 0 [(0,.ref (.ptr 2 0)),(5,.ref (.ptr 3 0)),(6,.ref (.ptr 4 0)),(7,.ref (.ptr 8 0)),(8,int v),(39,D.fn (Fn.func 136) [] [.ref (.ptr 9 0),.ref (.ptr 10 0)])]) {toList:=[40,41]} (rfAsg (sub Tryz.f69 1)) (rfBody (sub Tryz.f69 1))]
theorem us_no{es:List EdgT}{A:List (List Dp)}{fs:List Int}{v:Int}{B:List (List Dp)}{b3 b4 b5 b6 b7 b8 c6 c7 c8:Blk}{j:Nat}{r f:Int}{x:EdgT}{q:Nat}(hq:IntKind.i64.wrap (Int.tdiv r 2)=(q:Int))(hx:RowAt (IntKind.i64.wrap (Int.tdiv r 2)) (es.map EdgT.row) x.row 3)(hf:fs[Int.toNat (IntKind.i64.wrap (Int.tdiv r 2))]? = some f)(hl:q<fs.length)
  (hr:RowAt (j:Int) B [vi r] 1) (hlt:Dd ((j:Int)<(B.length:Int))=true) (hw:IntKind.i64.wrap ((j:Int)+1)=((j+1:Nat):Int)) (hc:Dd (capE r x f>0)=false):(CW Tryz.prog Γ0 (usH es A fs v b3 b4 b5 b6 b7 b8 .ready none) false (sub Tryz.f136 0) (usS es A fs v B b3 b4 b5 c6 c7 c8 j) .normal (usS es A fs v B b3 b4 b5 c6 c7 c8 ((j+1:Nat):Int))):=by
 refine CW.cast (CW.symX (s':={t:=mkT 32 0 [(0,.ref (.yl 12)),(1,.ref (.ptr 9 0)),(2,.ref (.ptr 10 0)),(12,rowsD' B),(13,int (↑(List.length B):Int)),(14,int (IntKind.wrap IntKind.i64 ((↑j:Int)+1)))],h:=(us_no_x0 es A fs v b3 b4 b5 c6 c7 c8),m:=[]}) (e:=Exit.normal) pok [.st (.mask [0,1,2,12,13,14])] [.b true,.row [vi r],.val (int (capE r x f)),.g false,.g false,.g false,.g false,.g false,.g false,.g false,.ov 30 (bool false),.b false] (by kernel_rfl) (.c hlt (.c hr (.c (show Ev Tryz.prog Γ0 73 [.ref (.ptr 2 0),int r] (us_no_x0 es A fs v b3 b4 b5 c6 c7 c8) (int (capE r x f)) (us_no_x0 es A fs v b3 b4 b5 c6 c7 c8) from(Ev.castH (Ev.frameX (args:=[.ref (.ptr 2 0),int r]) (H:=(us_no_x0 es A fs v b3 b4 b5 c6 c7 c8)) [0,1,2] (@cap_ev (es) (A) (fs) (r) (f) (x) (q) (hq) (hx) (hf) (hl)) (by kernel_rfl) (by kernel_rfl) (by kernel_rfl) ⟨?_,trivial⟩ ⟨?_,trivial⟩) (by kernel_rfl) (by kernel_rfl))) (.c (show(Dd (capE r x f>0)==true)=false from(by rw[hc]<;>rfl)) (.c (show(Dd (capE r x f>0)==true)=false from(by rw[hc]<;>rfl)) (.c (show(Dd (capE r x f>0)==true)=false from(by rw[hc]<;>rfl)) (.c (show(Dd (capE r x f>0)==true)=false from(by rw[hc]<;>rfl)) (.c (show(Dd (capE r x f>0)==true)=false from(by rw[hc]<;>rfl)) (.c (show(Dd (capE r x f>0)==true)=false from(by rw[hc]<;>rfl)) (.c (show(Dd (capE r x f>0)==true)=false from(by rw[hc]<;>rfl)) (.c (show PickIs (bool (Dd (capE r x f>0))) (D.p (Dp.v (Value.tuple {toList:=[]}))) (bool false) (bool false) from(pickIs_f hc rfl)) (.c (show false=false from rfl) .n))))))))))))) (by first|rfl|(rw[hw]<;>rfl)) (by first|rfl|(rw[hw]<;>rfl))<;>(first|rfl|exact mapRL_rows _ _|first|assumption|rfl|exact vecI_map _ _|exact vecI_inn _ _)
noncomputable abbrev us_yes_x0(es:List EdgT)(A:List (List Dp))(fs:List Int)(v:Int)(b3:Blk)(b4:Blk)(b5:Blk)(d6:Blk)(d7:Blk)(d8:Blk):List Blk:=[.vec (vecI fs) 0 1,.gone,.var [rowsD' (List.map EdgT.row es),.ref (.vec 0 0),rowsD' A],b3,b4,b5,d6,d7,d8,.var [.ref (.ptr 2 0)],.var [int v],.defd,.loop LoopState.ready none 0 (mkT 59 0 [(0,.ref (.ptr 2 0)),(5,.ref (.ptr 3 0)),(6,.ref (.ptr 4 0)),(7,.ref (.ptr 8 0)),(8,int v),(39,D.fn (Fn.func 136) [] [.ref (.ptr 9 0),.ref (.ptr 10 0)])]) {toList:=[40,41]} (rfAsg (sub Tryz.f69 1)) (rfBody (sub Tryz.f69 1))]
noncomputable abbrev us_yes_x1(es:List EdgT)(A:List (List Dp))(fs:List Int)(v:Int)(b3:Blk)(b4:Blk)(b5:Blk)(c6:Blk)(c7:Blk)(c8:Blk):List Blk:=[.vec (vecI fs) 0 1,.gone,.var [rowsD' (List.map EdgT.row es),.ref (.vec 0 0),rowsD' A],b3,b4,b5,c6,c7,c8,.var [.ref (.ptr 2 0)],.var [int v],.defd,.loop LoopState.ready none 0 (mkT 59 0 [(0,.ref (.ptr 2 0)),(5,.ref (.ptr 3 0)),(6,.ref (.ptr 4 0)),(7,.ref (.ptr 8 0)),(8,int v),(39,D.fn (Fn.func 136) [] [.ref (.ptr 9 0),.ref (.ptr 10 0)])]) {toList:=[40,41]} (rfAsg (sub Tryz.f69 1)) (rfBody (sub Tryz.f69 1))]
theorem us_yes{es:List EdgT}{A:List (List Dp)}{fs:List Int}{v:Int}{B:List (List Dp)}{b3 b4 b5 b6 b7 b8 c6 c7 c8 d6 d7 d8:Blk}{j:Nat}{r f u:Int}{x:EdgT}{q:Nat}(hq:IntKind.i64.wrap (Int.tdiv r 2)=(q:Int))(hx:RowAt (IntKind.i64.wrap (Int.tdiv r 2)) (es.map EdgT.row) x.row 3)(hf:fs[Int.toNat (IntKind.i64.wrap (Int.tdiv r 2))]? = some f)(hl:q<fs.length)
  (hr:RowAt (j:Int) B [vi r] 1) (hlt:Dd ((j:Int)<(B.length:Int))=true) (hw:IntKind.i64.wrap ((j:Int)+1)=((j+1:Nat):Int)) (hc:Dd (capE r x f>0)=true) (hu:endE r x=u)
  (hy:Iv Tryz.prog Γ0 (.ref (.yl 12)) [int r,int (endE r x)] (usH es A fs v b3 b4 b5 c6 c7 c8 .ready none) (bool true) (usH es A fs v b3 b4 b5 d6 d7 d8 .ready none)):(CW Tryz.prog Γ0 (usH es A fs v b3 b4 b5 b6 b7 b8 .ready none) false (sub Tryz.f136 0) (usS es A fs v B b3 b4 b5 c6 c7 c8 j) .normal (usS es A fs v B b3 b4 b5 d6 d7 d8 ((j+1:Nat):Int))):=by
 refine CW.cast (CW.symX (s':={t:=mkT 32 0 [(0,.ref (.yl 12)),(1,.ref (.ptr 9 0)),(2,.ref (.ptr 10 0)),(12,rowsD' B),(13,int (↑(List.length B):Int)),(14,int (IntKind.wrap IntKind.i64 ((↑j:Int)+1)))],h:=(us_yes_x0 es A fs v b3 b4 b5 d6 d7 d8),m:=[]}) (e:=Exit.normal) pok [.st (.mask [0,1,2,12,13,14])] [.b true,.row [vi r],.val (int (capE r x f)),.g true,.g true,.g true,.g true,.g true,.val (int (endE r x)),.g true,.inv (bool true) (us_yes_x0 es A fs v b3 b4 b5 d6 d7 d8),.g true,.ov 30 (bool !true),.b false] (by kernel_rfl) (.c hlt (.c hr (.c (show Ev Tryz.prog Γ0 73 [.ref (.ptr 2 0),int r] (us_yes_x1 es A fs v b3 b4 b5 c6 c7 c8) (int (capE r x f)) (us_yes_x1 es A fs v b3 b4 b5 c6 c7 c8) from(Ev.castH (Ev.frameX (args:=[.ref (.ptr 2 0),int r]) (H:=(us_yes_x1 es A fs v b3 b4 b5 c6 c7 c8)) [0,1,2] (@cap_ev (es) (A) (fs) (r) (f) (x) (q) (hq) (hx) (hf) (hl)) (by kernel_rfl) (by kernel_rfl) (by kernel_rfl) ⟨?_,trivial⟩ ⟨?_,trivial⟩) (by kernel_rfl) (by kernel_rfl))) (.c (show(Dd (capE r x f>0)==true)=true from(by rw[hc]<;>rfl)) (.c (show(Dd (capE r x f>0)==true)=true from(by rw[hc]<;>rfl)) (.c (show(Dd (capE r x f>0)==true)=true from(by rw[hc]<;>rfl)) (.c (show(Dd (capE r x f>0)==true)=true from(by rw[hc]<;>rfl)) (.c (show(Dd (capE r x f>0)==true)=true from(by rw[hc]<;>rfl)) (.c (show Ev Tryz.prog Γ0 71 [.ref (.ptr 2 0),int r] (us_yes_x1 es A fs v b3 b4 b5 c6 c7 c8) (int (endE r x)) (us_yes_x1 es A fs v b3 b4 b5 c6 c7 c8) from(Ev.castH (Ev.frameX (args:=[.ref (.ptr 2 0),int r]) (H:=(us_yes_x1 es A fs v b3 b4 b5 c6 c7 c8)) [0,1,2] (@end_ev (es) (A) (fs) (r) (x) (hx)) (by kernel_rfl) (by kernel_rfl) (by kernel_rfl) ⟨?_,trivial⟩ ⟨?_,trivial⟩) (by kernel_rfl) (by kernel_rfl))) (.c (show(Dd (capE r x f>0)==true)=true from(by rw[hc]<;>rfl)) (.c (@hy) (.c (show(Dd (capE r x f>0)==true)=true from(by rw[hc]<;>rfl)) (.c (show PickIs (bool (Dd (capE r x f>0))) (bool !true) (bool false) (bool !true) from(pickIs_t hc rfl)) (.c (show(!true)=false from rfl) .n))))))))))))))) (by first|rfl|(rw[hw]<;>rfl)) (by first|rfl|(rw[hw]<;>rfl))<;>(first|rfl|exact mapRL_rows _ _|first|assumption|rfl|exact vecI_map _ _|exact vecI_inn _ _)
noncomputable abbrev us_stop_x0(es:List EdgT)(A:List (List Dp))(fs:List Int)(v:Int)(b3:Blk)(b4:Blk)(b5:Blk)(d6:Blk)(d7:Blk)(d8:Blk):List Blk:=[.vec (vecI fs) 0 1,.gone,.var [rowsD' (List.map EdgT.row es),.ref (.vec 0 0),rowsD' A],b3,b4,b5,d6,d7,d8,.var [.ref (.ptr 2 0)],.var [int v],.defd,.loop LoopState.done (some (Code.exit 0)) 0 (mkT 59 0 [(0,.ref (.ptr 2 0)),(5,.ref (.ptr 3 0)),(6,.ref (.ptr 4 0)),(7,.ref (.ptr 8 0)),(8,int v),(39,D.fn (Fn.func 136) [] [.ref (.ptr 9 0),.ref (.ptr 10 0)])]) {toList:=[40,41]} (rfAsg (sub Tryz.f69 1)) (rfBody (sub Tryz.f69 1))]
noncomputable abbrev us_stop_x1(es:List EdgT)(A:List (List Dp))(fs:List Int)(v:Int)(b3:Blk)(b4:Blk)(b5:Blk)(c6:Blk)(c7:Blk)(c8:Blk):List Blk:=[.vec (vecI fs) 0 1,.gone,.var [rowsD' (List.map EdgT.row es),.ref (.vec 0 0),rowsD' A],b3,b4,b5,c6,c7,c8,.var [.ref (.ptr 2 0)],.var [int v],.defd,.loop LoopState.ready none 0 (mkT 59 0 [(0,.ref (.ptr 2 0)),(5,.ref (.ptr 3 0)),(6,.ref (.ptr 4 0)),(7,.ref (.ptr 8 0)),(8,int v),(39,D.fn (Fn.func 136) [] [.ref (.ptr 9 0),.ref (.ptr 10 0)])]) {toList:=[40,41]} (rfAsg (sub Tryz.f69 1)) (rfBody (sub Tryz.f69 1))]
theorem us_stop{es:List EdgT}{A:List (List Dp)}{fs:List Int}{v:Int}{B:List (List Dp)}{b3 b4 b5 b6 b7 b8 c6 c7 c8 d6 d7 d8:Blk}{j:Nat}{r f u:Int}{x:EdgT}{q:Nat}(hq:IntKind.i64.wrap (Int.tdiv r 2)=(q:Int))(hx:RowAt (IntKind.i64.wrap (Int.tdiv r 2)) (es.map EdgT.row) x.row 3)(hf:fs[Int.toNat (IntKind.i64.wrap (Int.tdiv r 2))]? = some f)(hl:q<fs.length)
  (hr:RowAt (j:Int) B [vi r] 1) (hlt:Dd ((j:Int)<(B.length:Int))=true) (hc:Dd (capE r x f>0)=true)
  (hy:Iv Tryz.prog Γ0 (.ref (.yl 12)) [int r,int (endE r x)] (usH es A fs v b3 b4 b5 c6 c7 c8 .ready none) (bool false) (usH es A fs v b3 b4 b5 d6 d7 d8 .done (some (.exit 0)))):(CW Tryz.prog Γ0 (usH es A fs v b3 b4 b5 b6 b7 b8 .ready none) false (sub Tryz.f136 0) (usS es A fs v B b3 b4 b5 c6 c7 c8 j) .ret {t:=mkT 32 0 [],h:=usH es A fs v b3 b4 b5 d6 d7 d8 .done (some (.exit 0)),m:=[]}):=by
 refine CW.cast (CW.symX (s':={t:=mkT 32 0 [],h:=(us_stop_x0 es A fs v b3 b4 b5 d6 d7 d8),m:=[]}) (e:=Exit.ret) pok [.st (.mask [])] [.b true,.row [vi r],.val (int (capE r x f)),.g true,.g true,.g true,.g true,.g true,.val (int (endE r x)),.g true,.inv (bool false) (us_stop_x0 es A fs v b3 b4 b5 d6 d7 d8),.g true,.ov 30 (bool !false),.b true] (by kernel_rfl) (.c hlt (.c hr (.c (show Ev Tryz.prog Γ0 73 [.ref (.ptr 2 0),int r] (us_stop_x1 es A fs v b3 b4 b5 c6 c7 c8) (int (capE r x f)) (us_stop_x1 es A fs v b3 b4 b5 c6 c7 c8) from(Ev.castH (Ev.frameX (args:=[.ref (.ptr 2 0),int r]) (H:=(us_stop_x1 es A fs v b3 b4 b5 c6 c7 c8)) [0,1,2] (@cap_ev (es) (A) (fs) (r) (f) (x) (q) (hq) (hx) (hf) (hl)) (by kernel_rfl) (by kernel_rfl) (by kernel_rfl) ⟨?_,trivial⟩ ⟨?_,trivial⟩) (by kernel_rfl) (by kernel_rfl))) (.c (show(Dd (capE r x f>0)==true)=true from(by rw[hc]<;>rfl)) (.c (show(Dd (capE r x f>0)==true)=true from(by rw[hc]<;>rfl)) (.c (show(Dd (capE r x f>0)==true)=true from(by rw[hc]<;>rfl)) (.c (show(Dd (capE r x f>0)==true)=true from(by rw[hc]<;>rfl)) (.c (show(Dd (capE r x f>0)==true)=true from(by rw[hc]<;>rfl)) (.c (show Ev Tryz.prog Γ0 71 [.ref (.ptr 2 0),int r] (us_stop_x1 es A fs v b3 b4 b5 c6 c7 c8) (int (endE r x)) (us_stop_x1 es A fs v b3 b4 b5 c6 c7 c8) from(Ev.castH (Ev.frameX (args:=[.ref (.ptr 2 0),int r]) (H:=(us_stop_x1 es A fs v b3 b4 b5 c6 c7 c8)) [0,1,2] (@end_ev (es) (A) (fs) (r) (x) (hx)) (by kernel_rfl) (by kernel_rfl) (by kernel_rfl) ⟨?_,trivial⟩ ⟨?_,trivial⟩) (by kernel_rfl) (by kernel_rfl))) (.c (show(Dd (capE r x f>0)==true)=true from(by rw[hc]<;>rfl)) (.c (@hy) (.c (show(Dd (capE r x f>0)==true)=true from(by rw[hc]<;>rfl)) (.c (show PickIs (bool (Dd (capE r x f>0))) (bool !false) (bool false) (bool !false) from(pickIs_t hc rfl)) (.c (show(!false)=true from rfl) .n))))))))))))))) (by rfl) (by rfl)<;>(first|rfl|exact mapRL_rows _ _|first|assumption|rfl|exact vecI_map _ _|exact vecI_inn _ _)
theorem us_last{es:List EdgT}{A:List (List Dp)}{fs:List Int}{v:Int}{B:List (List Dp)}{b3 b4 b5 b6 b7 b8 c6 c7 c8:Blk}{j:Nat}(hlt:Dd ((j:Int)<(B.length:Int))=false):(CW Tryz.prog Γ0 (usH es A fs v b3 b4 b5 b6 b7 b8 .ready none) false (sub Tryz.f136 0) (usS es A fs v B b3 b4 b5 c6 c7 c8 j) (.exit 0) {t:=mkT 32 0 [],h:=usH es A fs v b3 b4 b5 c6 c7 c8 .ready none,m:=[]}):=by
 exact CW.cast (CW.symX (s':={t:=mkT 32 0 [],h:=[.vec (vecI fs) 0 1,.gone,.var [rowsD' (List.map EdgT.row es),.ref (.vec 0 0),rowsD' A],b3,b4,b5,c6,c7,c8,.var [.ref (.ptr 2 0)],.var [int v],.defd,.loop LoopState.ready none 0 (mkT 59 0 [(0,.ref (.ptr 2 0)),(5,.ref (.ptr 3 0)),(6,.ref (.ptr 4 0)),(7,.ref (.ptr 8 0)),(8,int v),(39,D.fn (Fn.func 136) [] [.ref (.ptr 9 0),.ref (.ptr 10 0)])]) {toList:=[40,41]} (rfAsg (sub Tryz.f69 1)) (rfBody (sub Tryz.f69 1))],m:=[]}) (e:=Exit.exit 0) pok [.st (.mask [])] [.b false] (by kernel_rfl) (.c hlt .n)) (by rfl) (by rfl)
section
variable {l:List Int} {b i e:Nat} {a u:Int} {h:List Blk}
theorem vg_load(hb:h[b]? = some (.vec (vecI l) e 1))(ha:l[i]? = some a):loadD Tryz.prog h 3 (.ref (.vp b e i 0))=some (int a):=by
 have e1:(vecI l)[i]? = some [int a]:=by simp[vecI,ha]
 unfold loadD
 simp only[hb,e1,if_true,List.drop_zero]
 rfl
theorem vg_store(hb:h[b]? = some (.vec (vecI l) 0 1))(hi:i<l.length):storeD Tryz.prog h 3 (.ref (.vp b 0 i 0)) (int a)=some (h.set b (.vec (vecI (l.set i a)) 0 1)):=by
 have e1:(vecI l)[i]? = some [int l[i]]:=by simp[vecI,hi]
 unfold storeD
 simp only[hb,e1,if_true]
 simp[vecI,List.map_set]
 rfl
theorem vg_in(h0:0≤u)(ha:l[u.toNat]? = some a):inR u (vecI l).length=true:=by
 have:=(List.getElem?_eq_some_iff.1 ha).1
 simp[inR,vecI];omega
theorem vg_lt(ha:l[i]? = some a):i<l.length:=(List.getElem?_eq_some_iff.1 ha).1
theorem vg_vp(ha:l[i]? = some a):VpIs Tryz.prog 3 (vecI l) 0 0 i 0 (int a):=by
 have e1:(vecI l)[i]? = some [int a]:=by simp[vecI,ha]
 unfold VpIs
 simp only[e1,if_true,List.drop_zero]
 rfl
theorem room8{n:Nat}(hn:n≤1000000):roomOk n 8=true:=by simp[roomOk];omega
theorem vg_app(hb:h[b]? = some (.vec (vecI l) e 1)){k:Nat}(hk:h[k]? = some (.vec [[int a]] 0 1))(hl:l.length≤100000):
  builtinD Tryz.prog h .append [34,34] [.ref (.vec b e),.ref (.vec k 0)]=some (true,.ref (.vec b (e+1)),h.set b (.vec (vecI (l++[a])) (e+1) 1)):=by
 have h1:([[int a]]:List (List D)).all (rowOk 1)=true:=rfl
 have h2:roomOk ((vecI l).length+1) 8=true:=room8 (by rw[vecI_len];omega)
 have h3:(elemT Tryz.prog 34,Tryz.prog.underlying 34,szOf Tryz.prog 3,bytesOf Tryz.prog 3,zeroCs Tryz.prog 3)=(some 3,some (.slice 3),some 1,some 8,some [int 0]):=by kernel_rfl
 simp only[Prod.mk.injEq] at h3
 obtain⟨h3,h4,h5,h6,h7⟩:=h3
 simp only[builtinD,appendD,h3,h4,h5,h6,h7,isIntT,rowsD,hk,hb,if_true,List.length_singleton,Bool.false_eq_true,if_false,h1,h2,Bool.and_self,and_self,vecI_app]
theorem vs_app(hb:h[b]? = some (.vec (vecI l) e 1)){k i n:Nat}(hk:h[k]? = some (.vec [[int a]] 0 1))(hl:l.length≤100000)(hin:i+n=l.length):
  builtinD Tryz.prog h .append [34,34] [.ref (.vs b e i n false),.ref (.vec k 0)]=some (true,.ref (.vec b (e+1)),h.set b (.vec (vecI (l.drop i++[a])) (e+1) 1)):=by
 have h1:([[int a]]:List (List D)).all (rowOk 1)=true:=rfl
 have h2:roomOk (n+1) 8=true:=room8 (by omega)
 have h3:(elemT Tryz.prog 34,Tryz.prog.underlying 34,szOf Tryz.prog 3,bytesOf Tryz.prog 3,zeroCs Tryz.prog 3)=(some 3,some (.slice 3),some 1,some 8,some [int 0]):=by kernel_rfl
 simp only[Prod.mk.injEq] at h3
 obtain⟨h3,h4,h5,h6,h7⟩:=h3
 have h8:(vecI l).drop i++[[int a]]=vecI (l.drop i++[a]):=by simp[vecI,List.map_drop]
 simp only[builtinD,appendD,h3,h4,h5,h6,h7,isIntT,rowsD,hk,hb,if_true,List.length_singleton,Bool.false_eq_true,if_false,h1,h2,Bool.and_self,and_self,vecI_len,hin,h8,List.isEmpty_cons,Bool.not_false]
end
abbrev usT(v:Int):List D:=mkT 59 0 [(0,.ref (.ptr 2 0)),(5,.ref (.ptr 3 0)),(6,.ref (.ptr 4 0)),(7,.ref (.ptr 8 0)),(8,int v),(39,.fn (.func 136) [] [.ref (.ptr 9 0),.ref (.ptr 10 0)])]
abbrev usU(v r u:Int):List D:=mkT 59 0 [(5,.ref (.ptr 3 0)),(6,.ref (.ptr 4 0)),(7,.ref (.ptr 8 0)),(9,int r),(10,int u)]
noncomputable abbrev ubH(es:List EdgT)(A:List (List Dp))(fs:List Int)(v to:Int)(by':List Int)(l:List Int)(e:Nat)(Q:D)(st:LoopState)(pd:Option Code):List Blk:=usH es A fs v (.var [int to]) (.var [.ref (.vec 6 0)]) (.vec [[int (-1)]] 0 1) (.vec (vecI by') 0 1) (.vec (vecI l) e 1) (.var [Q]) st pd
theorem ub_asg{es:List EdgT}{A:List (List Dp)}{fs by' l:List Int}{v to r u:Int}{e:Nat}{Q:D}:(CW Tryz.prog Γ0 (ubH es A fs v to by' l e Q .ready none) true (rfAsg (sub Tryz.f69 1)) {t:=setAll (usT v) [(40,int r),(41,int u)],h:=ubH es A fs v to by' l e Q .ready none,m:=[]} .normal {t:=usU v r u,h:=ubH es A fs v to by' l e Q .ready none,m:=[]}):=by
 exact CW.cast (CW.symX (s':={t:=mkT 59 0 [(5,.ref (.ptr 3 0)),(6,.ref (.ptr 4 0)),(7,.ref (.ptr 8 0)),(9,int r),(10,int u)],h:=[.vec (vecI fs) 0 1,.gone,.var [rowsD' (List.map EdgT.row es),.ref (.vec 0 0),rowsD' A],.var [int to],.var [.ref (.vec 6 0)],.vec [[int (-1)]] 0 1,.vec (vecI by') 0 1,.vec (vecI l) e 1,.var [Q],.var [.ref (.ptr 2 0)],.var [int v],.defd,.loop LoopState.ready none 0 (mkT 59 0 [(0,.ref (.ptr 2 0)),(5,.ref (.ptr 3 0)),(6,.ref (.ptr 4 0)),(7,.ref (.ptr 8 0)),(8,int v),(39,D.fn (Fn.func 136) [] [.ref (.ptr 9 0),.ref (.ptr 10 0)])]) {toList:=[40,41]} (rfAsg (sub Tryz.f69 1)) (rfBody (sub Tryz.f69 1))],m:=[]}) (e:=Exit.normal) pok [.st (.mask [5,6,7,9,10])] [] (by kernel_rfl) .n) (by rfl) (by rfl)
theorem ub_skip{es:List EdgT}{A:List (List Dp)}{fs by' l:List Int}{v to r u x:Int}{e:Nat}{Q:D}(h0:0≤u)(hx:by'[u.toNat]? = some x)(hg:Dd (x≥0)=true):(CW Tryz.prog Γ0 (ubH es A fs v to by' l e Q .ready none) true (rfBody (sub Tryz.f69 1)) {t:=usU v r u,h:=ubH es A fs v to by' l e Q .busy none,m:=[]} .normal {t:=mkT 59 0 [],h:=ubH es A fs v to by' l e Q .busy none,m:=[]}):=by
 refine CW.cast (CW.symX (s':={t:=mkT 59 0 [],h:=[.vec (vecI fs) 0 1,.gone,.var [rowsD' (List.map EdgT.row es),.ref (.vec 0 0),rowsD' A],.var [int to],.var [.ref (.vec 6 0)],.vec [[int (-1)]] 0 1,.vec (vecI by') 0 1,.vec (vecI l) e 1,.var [Q],.var [.ref (.ptr 2 0)],.var [int v],.defd,.loop LoopState.busy none 0 (mkT 59 0 [(0,.ref (.ptr 2 0)),(5,.ref (.ptr 3 0)),(6,.ref (.ptr 4 0)),(7,.ref (.ptr 8 0)),(8,int v),(39,D.fn (Fn.func 136) [] [.ref (.ptr 9 0),.ref (.ptr 10 0)])]) {toList:=[40,41]} (rfAsg (sub Tryz.f69 1)) (rfBody (sub Tryz.f69 1))],m:=[]}) (e:=Exit.normal) pok [.st (.mask [])] [.ov 45 (int x),.b true] (by kernel_rfl) (.c (show inR u (List.length (vecI by'))=true from ?_) (.c (show loadD Tryz.prog [.vec (vecI fs) 0 1,.gone,.var [rowsD' (List.map EdgT.row es),.ref (.vec 0 0),rowsD' A],.var [int to],.var [.ref (.vec 6 0)],.vec [[int (-1)]] 0 1,.vec (vecI by') 0 1,.vec (vecI l) e 1,.var [Q],.var [.ref (.ptr 2 0)],.var [int v],.defd,.loop LoopState.busy none 0 (mkT 59 0 [(0,.ref (.ptr 2 0)),(5,.ref (.ptr 3 0)),(6,.ref (.ptr 4 0)),(7,.ref (.ptr 8 0)),(8,int v),(39,D.fn (Fn.func 136) [] [.ref (.ptr 9 0),.ref (.ptr 10 0)])]) {toList:=[40,41]} (rfAsg (sub Tryz.f69 1)) (rfBody (sub Tryz.f69 1))] 3 (.ref (.vp 6 0 (Int.toNat u) 0))=some (int x) from ?_) (.c hg .n)))) (by rfl) (by rfl)<;>(first|assumption|rfl|exact vg_in h0 hx|exact vg_load rfl hx)
theorem ub_hit{es:List EdgT}{A:List (List Dp)}{fs by' l:List Int}{v to r u x:Int}{e:Nat}{Q:D}(h0:0≤u)(hx:by'[u.toNat]? = some x)(hg:Dd (x≥0)=false)(ht:(u==to)=true):(CW Tryz.prog Γ0 (ubH es A fs v to by' l e Q .ready none) true (rfBody (sub Tryz.f69 1)) {t:=usU v r u,h:=ubH es A fs v to by' l e Q .busy none,m:=[]} (.exit 0) {t:=mkT 59 0 [],h:=ubH es A fs v to (by'.set u.toNat r) l e Q .busy none,m:=[]}):=by
 refine CW.cast (CW.symX (s':={t:=mkT 59 0 [],h:=[.vec (vecI fs) 0 1,.gone,.var [rowsD' (List.map EdgT.row es),.ref (.vec 0 0),rowsD' A],.var [int to],.var [.ref (.vec 6 0)],.vec [[int (-1)]] 0 1,.vec (vecI (List.set by' (Int.toNat u) r)) 0 1,.vec (vecI l) e 1,.var [Q],.var [.ref (.ptr 2 0)],.var [int v],.defd,.loop LoopState.busy none 0 (mkT 59 0 [(0,.ref (.ptr 2 0)),(5,.ref (.ptr 3 0)),(6,.ref (.ptr 4 0)),(7,.ref (.ptr 8 0)),(8,int v),(39,D.fn (Fn.func 136) [] [.ref (.ptr 9 0),.ref (.ptr 10 0)])]) {toList:=[40,41]} (rfAsg (sub Tryz.f69 1)) (rfBody (sub Tryz.f69 1))],m:=[]}) (e:=Exit.exit 0) pok [.st (.mask [])] [.ov 45 (int x),.b false,.oh 10050 D.any (ubH es A fs v to (List.set by' (Int.toNat u) r) l e Q LoopState.busy none),.b true] (by kernel_rfl) (.c (show inR u (List.length (vecI by'))=true from ?_) (.c (show loadD Tryz.prog [.vec (vecI fs) 0 1,.gone,.var [rowsD' (List.map EdgT.row es),.ref (.vec 0 0),rowsD' A],.var [int to],.var [.ref (.vec 6 0)],.vec [[int (-1)]] 0 1,.vec (vecI by') 0 1,.vec (vecI l) e 1,.var [Q],.var [.ref (.ptr 2 0)],.var [int v],.defd,.loop LoopState.busy none 0 (mkT 59 0 [(0,.ref (.ptr 2 0)),(5,.ref (.ptr 3 0)),(6,.ref (.ptr 4 0)),(7,.ref (.ptr 8 0)),(8,int v),(39,D.fn (Fn.func 136) [] [.ref (.ptr 9 0),.ref (.ptr 10 0)])]) {toList:=[40,41]} (rfAsg (sub Tryz.f69 1)) (rfBody (sub Tryz.f69 1))] 3 (.ref (.vp 6 0 (Int.toNat u) 0))=some (int x) from ?_) (.c hg (.c (show inR u (List.length (vecI by'))=true from ?_) (.c (show storeD Tryz.prog [.vec (vecI fs) 0 1,.gone,.var [rowsD' (List.map EdgT.row es),.ref (.vec 0 0),rowsD' A],.var [int to],.var [.ref (.vec 6 0)],.vec [[int (-1)]] 0 1,.vec (vecI by') 0 1,.vec (vecI l) e 1,.var [Q],.var [.ref (.ptr 2 0)],.var [int v],.defd,.loop LoopState.busy none 0 (mkT 59 0 [(0,.ref (.ptr 2 0)),(5,.ref (.ptr 3 0)),(6,.ref (.ptr 4 0)),(7,.ref (.ptr 8 0)),(8,int v),(39,D.fn (Fn.func 136) [] [.ref (.ptr 9 0),.ref (.ptr 10 0)])]) {toList:=[40,41]} (rfAsg (sub Tryz.f69 1)) (rfBody (sub Tryz.f69 1))] 3 (.ref (.vp 6 0 (Int.toNat u) 0)) (int r)=some [.vec (vecI fs) 0 1,.gone,.var [rowsD' (List.map EdgT.row es),.ref (.vec 0 0),rowsD' A],.var [int to],.var [.ref (.vec 6 0)],.vec [[int (-1)]] 0 1,.vec (vecI (List.set by' (Int.toNat u) r)) 0 1,.vec (vecI l) e 1,.var [Q],.var [.ref (.ptr 2 0)],.var [int v],.defd,.loop LoopState.busy none 0 (mkT 59 0 [(0,.ref (.ptr 2 0)),(5,.ref (.ptr 3 0)),(6,.ref (.ptr 4 0)),(7,.ref (.ptr 8 0)),(8,int v),(39,D.fn (Fn.func 136) [] [.ref (.ptr 9 0),.ref (.ptr 10 0)])]) {toList:=[40,41]} (rfAsg (sub Tryz.f69 1)) (rfBody (sub Tryz.f69 1))] from ?_) (.c ht .n))))))) (by rfl) (by rfl)<;>(first|assumption|rfl|exact vg_in h0 hx|exact vg_load rfl hx|exact vg_store rfl (vg_lt hx))
theorem ub_vec{es:List EdgT}{A:List (List Dp)}{fs by' l:List Int}{v to r u x:Int}{e:Nat}(h0:0≤u)(hx:by'[u.toNat]? = some x)(hg:Dd (x≥0)=false)(ht:(u==to)=false)(hl:l.length≤100000):(CW Tryz.prog Γ0 (ubH es A fs v to by' l e (.ref (.vec 7 e)) .ready none) true (rfBody (sub Tryz.f69 1)) {t:=usU v r u,h:=ubH es A fs v to by' l e (.ref (.vec 7 e)) .busy none,m:=[]} .normal {t:=mkT 59 0 [],h:=ubH es A fs v to (by'.set u.toNat r) (l++[u]) (e+1) (.ref (.vec 7 (e+1))) .busy none,m:=[]}):=by
 refine CW.cast (CW.symX (s':={t:=mkT 59 0 [],h:=[.vec (vecI fs) 0 1,.gone,.var [rowsD' (List.map EdgT.row es),.ref (.vec 0 0),rowsD' A],.var [int to],.var [.ref (.vec 6 0)],.vec [[int (-1)]] 0 1,.vec (vecI (List.set by' (Int.toNat u) r)) 0 1,.vec (vecI (l++[u])) (e+1) 1,.var [.ref (.vec 7 (e+1))],.var [.ref (.ptr 2 0)],.var [int v],.defd,.loop LoopState.busy none 0 (mkT 59 0 [(0,.ref (.ptr 2 0)),(5,.ref (.ptr 3 0)),(6,.ref (.ptr 4 0)),(7,.ref (.ptr 8 0)),(8,int v),(39,D.fn (Fn.func 136) [] [.ref (.ptr 9 0),.ref (.ptr 10 0)])]) {toList:=[40,41]} (rfAsg (sub Tryz.f69 1)) (rfBody (sub Tryz.f69 1))],m:=[]}) (e:=Exit.normal) pok [.st (.mask []),.st (.trimV 13)] [.ov 45 (int x),.b false,.oh 10050 D.any (ubH es A fs v to (List.set by' (Int.toNat u) r) l e (.ref (.vec 7 e)) LoopState.busy none),.b false,.oh 57 (.ref (.vec 7 (e+1))) (ubH es A fs v to (List.set by' (Int.toNat u) r) (l++[u]) (e+1) (.ref (.vec 7 e)) LoopState.busy none++[.vec [[int u]] 0 1])] (by kernel_rfl) (.c (show inR u (List.length (vecI by'))=true from ?_) (.c (show loadD Tryz.prog [.vec (vecI fs) 0 1,.gone,.var [rowsD' (List.map EdgT.row es),.ref (.vec 0 0),rowsD' A],.var [int to],.var [.ref (.vec 6 0)],.vec [[int (-1)]] 0 1,.vec (vecI by') 0 1,.vec (vecI l) e 1,.var [.ref (.vec 7 e)],.var [.ref (.ptr 2 0)],.var [int v],.defd,.loop LoopState.busy none 0 (mkT 59 0 [(0,.ref (.ptr 2 0)),(5,.ref (.ptr 3 0)),(6,.ref (.ptr 4 0)),(7,.ref (.ptr 8 0)),(8,int v),(39,D.fn (Fn.func 136) [] [.ref (.ptr 9 0),.ref (.ptr 10 0)])]) {toList:=[40,41]} (rfAsg (sub Tryz.f69 1)) (rfBody (sub Tryz.f69 1))] 3 (.ref (.vp 6 0 (Int.toNat u) 0))=some (int x) from ?_) (.c hg (.c (show inR u (List.length (vecI by'))=true from ?_) (.c (show storeD Tryz.prog [.vec (vecI fs) 0 1,.gone,.var [rowsD' (List.map EdgT.row es),.ref (.vec 0 0),rowsD' A],.var [int to],.var [.ref (.vec 6 0)],.vec [[int (-1)]] 0 1,.vec (vecI by') 0 1,.vec (vecI l) e 1,.var [.ref (.vec 7 e)],.var [.ref (.ptr 2 0)],.var [int v],.defd,.loop LoopState.busy none 0 (mkT 59 0 [(0,.ref (.ptr 2 0)),(5,.ref (.ptr 3 0)),(6,.ref (.ptr 4 0)),(7,.ref (.ptr 8 0)),(8,int v),(39,D.fn (Fn.func 136) [] [.ref (.ptr 9 0),.ref (.ptr 10 0)])]) {toList:=[40,41]} (rfAsg (sub Tryz.f69 1)) (rfBody (sub Tryz.f69 1))] 3 (.ref (.vp 6 0 (Int.toNat u) 0)) (int r)=some [.vec (vecI fs) 0 1,.gone,.var [rowsD' (List.map EdgT.row es),.ref (.vec 0 0),rowsD' A],.var [int to],.var [.ref (.vec 6 0)],.vec [[int (-1)]] 0 1,.vec (vecI (List.set by' (Int.toNat u) r)) 0 1,.vec (vecI l) e 1,.var [.ref (.vec 7 e)],.var [.ref (.ptr 2 0)],.var [int v],.defd,.loop LoopState.busy none 0 (mkT 59 0 [(0,.ref (.ptr 2 0)),(5,.ref (.ptr 3 0)),(6,.ref (.ptr 4 0)),(7,.ref (.ptr 8 0)),(8,int v),(39,D.fn (Fn.func 136) [] [.ref (.ptr 9 0),.ref (.ptr 10 0)])]) {toList:=[40,41]} (rfAsg (sub Tryz.f69 1)) (rfBody (sub Tryz.f69 1))] from ?_) (.c ht (.c (show builtinD Tryz.prog [.vec (vecI fs) 0 1,.gone,.var [rowsD' (List.map EdgT.row es),.ref (.vec 0 0),rowsD' A],.var [int to],.var [.ref (.vec 6 0)],.vec [[int (-1)]] 0 1,.vec (vecI (List.set by' (Int.toNat u) r)) 0 1,.vec (vecI l) e 1,.var [.ref (.vec 7 e)],.var [.ref (.ptr 2 0)],.var [int v],.defd,.loop LoopState.busy none 0 (mkT 59 0 [(0,.ref (.ptr 2 0)),(5,.ref (.ptr 3 0)),(6,.ref (.ptr 4 0)),(7,.ref (.ptr 8 0)),(8,int v),(39,D.fn (Fn.func 136) [] [.ref (.ptr 9 0),.ref (.ptr 10 0)])]) {toList:=[40,41]} (rfAsg (sub Tryz.f69 1)) (rfBody (sub Tryz.f69 1)),.vec [[int u]] 0 1] Builtin.append [34,34] (List.map (evalD Γ0 (mkT 59 0 [(5,.ref (.ptr 3 0)),(6,.ref (.ptr 4 0)),(7,.ref (.ptr 8 0)),(9,int r),(10,int u),(42,.ref (.vec 6 0)),(43,int u),(44,.ref (.vp 6 0 (Int.toNat u) 0)),(45,int x),(46,bool (Dd (x≥0))),(47,.ref (.vec 6 0)),(48,int u),(49,int r),(50,.ref (.vp 6 0 (Int.toNat u) 0)),(51,int u),(52,int to),(53,bool (u==to)),(54,.ref (.vec 7 e)),(55,int u),(56,.ref (.vec 13 0))])) [Operand.tmp 54,Operand.tmp 56])=some (true,.ref (.vec 7 (e+1)),[.vec (vecI fs) 0 1,.gone,.var [rowsD' (List.map EdgT.row es),.ref (.vec 0 0),rowsD' A],.var [int to],.var [.ref (.vec 6 0)],.vec [[int (-1)]] 0 1,.vec (vecI (List.set by' (Int.toNat u) r)) 0 1,.vec (vecI (l++[u])) (e+1) 1,.var [.ref (.vec 7 e)],.var [.ref (.ptr 2 0)],.var [int v],.defd,.loop LoopState.busy none 0 (mkT 59 0 [(0,.ref (.ptr 2 0)),(5,.ref (.ptr 3 0)),(6,.ref (.ptr 4 0)),(7,.ref (.ptr 8 0)),(8,int v),(39,D.fn (Fn.func 136) [] [.ref (.ptr 9 0),.ref (.ptr 10 0)])]) {toList:=[40,41]} (rfAsg (sub Tryz.f69 1)) (rfBody (sub Tryz.f69 1)),.vec [[int u]] 0 1]) from ?_) (.c (show Blk.inn 13 (.vec (vecI fs) 0 1)=true from ?_) (.c (show Blk.inn 13 .gone=true from rfl) (.c (show Blk.inn 13 (.var [rowsD' (List.map EdgT.row es),.ref (.vec 0 0),rowsD' A])=true from rfl) (.c (show Blk.inn 13 (.var [int to])=true from rfl) (.c (show Blk.inn 13 (.var [.ref (.vec 6 0)])=true from rfl) (.c (show Blk.inn 13 (.vec [[int (-1)]] 0 1)=true from rfl) (.c (show Blk.inn 13 (.vec (vecI (List.set by' (Int.toNat u) r)) 0 1)=true from ?_) (.c (show Blk.inn 13 (.vec (vecI (l++[u])) (e+1) 1)=true from ?_) (.c (show Blk.inn 13 (.var [.ref (.vec 7 (e+1))])=true from rfl) (.c (show Blk.inn 13 (.var [.ref (.ptr 2 0)])=true from rfl) (.c (show Blk.inn 13 (.var [int v])=true from rfl) (.c (show Blk.inn 13 .defd=true from rfl) (.c (show Blk.inn 13 (.loop LoopState.busy none 0 (mkT 59 0 [(0,.ref (.ptr 2 0)),(5,.ref (.ptr 3 0)),(6,.ref (.ptr 4 0)),(7,.ref (.ptr 8 0)),(8,int v),(39,D.fn (Fn.func 136) [] [.ref (.ptr 9 0),.ref (.ptr 10 0)])]) {toList:=[40,41]} (rfAsg (sub Tryz.f69 1)) (rfBody (sub Tryz.f69 1)))=true from rfl) .n))))))))))))))))))))) (by rfl) (by rfl)<;>(first|assumption|rfl|exact vg_in h0 hx|exact vg_load rfl hx|exact vg_store rfl (vg_lt hx)|exact vg_app rfl rfl hl|exact vecI_map _ _|exact vecI_inn _ _)
theorem ub_vs{es:List EdgT}{A:List (List Dp)}{fs by' l:List Int}{v to r u x:Int}{e i n:Nat}(h0:0≤u)(hx:by'[u.toNat]? = some x)(hg:Dd (x≥0)=false)(ht:(u==to)=false)(hl:l.length≤100000)(hin:i+n=l.length):(CW Tryz.prog Γ0 (ubH es A fs v to by' l e (.ref (.vs 7 e i n false)) .ready none) true (rfBody (sub Tryz.f69 1)) {t:=usU v r u,h:=ubH es A fs v to by' l e (.ref (.vs 7 e i n false)) .busy none,m:=[]} .normal {t:=mkT 59 0 [],h:=ubH es A fs v to (by'.set u.toNat r) (l.drop i++[u]) (e+1) (.ref (.vec 7 (e+1))) .busy none,m:=[]}):=by
 refine CW.cast (CW.symX (s':={t:=mkT 59 0 [],h:=[.vec (vecI fs) 0 1,.gone,.var [rowsD' (List.map EdgT.row es),.ref (.vec 0 0),rowsD' A],.var [int to],.var [.ref (.vec 6 0)],.vec [[int (-1)]] 0 1,.vec (vecI (List.set by' (Int.toNat u) r)) 0 1,.vec (vecI (List.drop i l++[u])) (e+1) 1,.var [.ref (.vec 7 (e+1))],.var [.ref (.ptr 2 0)],.var [int v],.defd,.loop LoopState.busy none 0 (mkT 59 0 [(0,.ref (.ptr 2 0)),(5,.ref (.ptr 3 0)),(6,.ref (.ptr 4 0)),(7,.ref (.ptr 8 0)),(8,int v),(39,D.fn (Fn.func 136) [] [.ref (.ptr 9 0),.ref (.ptr 10 0)])]) {toList:=[40,41]} (rfAsg (sub Tryz.f69 1)) (rfBody (sub Tryz.f69 1))],m:=[]}) (e:=Exit.normal) pok [.st (.mask []),.st (.trimV 13)] [.ov 45 (int x),.b false,.oh 10050 D.any (ubH es A fs v to (List.set by' (Int.toNat u) r) l e (.ref (.vs 7 e i n false)) LoopState.busy none),.b false,.oh 57 (.ref (.vec 7 (e+1))) (ubH es A fs v to (List.set by' (Int.toNat u) r) (List.drop i l++[u]) (e+1) (.ref (.vs 7 e i n false)) LoopState.busy none++[.vec [[int u]] 0 1])] (by kernel_rfl) (.c (show inR u (List.length (vecI by'))=true from ?_) (.c (show loadD Tryz.prog [.vec (vecI fs) 0 1,.gone,.var [rowsD' (List.map EdgT.row es),.ref (.vec 0 0),rowsD' A],.var [int to],.var [.ref (.vec 6 0)],.vec [[int (-1)]] 0 1,.vec (vecI by') 0 1,.vec (vecI l) e 1,.var [.ref (.vs 7 e i n false)],.var [.ref (.ptr 2 0)],.var [int v],.defd,.loop LoopState.busy none 0 (mkT 59 0 [(0,.ref (.ptr 2 0)),(5,.ref (.ptr 3 0)),(6,.ref (.ptr 4 0)),(7,.ref (.ptr 8 0)),(8,int v),(39,D.fn (Fn.func 136) [] [.ref (.ptr 9 0),.ref (.ptr 10 0)])]) {toList:=[40,41]} (rfAsg (sub Tryz.f69 1)) (rfBody (sub Tryz.f69 1))] 3 (.ref (.vp 6 0 (Int.toNat u) 0))=some (int x) from ?_) (.c hg (.c (show inR u (List.length (vecI by'))=true from ?_) (.c (show storeD Tryz.prog [.vec (vecI fs) 0 1,.gone,.var [rowsD' (List.map EdgT.row es),.ref (.vec 0 0),rowsD' A],.var [int to],.var [.ref (.vec 6 0)],.vec [[int (-1)]] 0 1,.vec (vecI by') 0 1,.vec (vecI l) e 1,.var [.ref (.vs 7 e i n false)],.var [.ref (.ptr 2 0)],.var [int v],.defd,.loop LoopState.busy none 0 (mkT 59 0 [(0,.ref (.ptr 2 0)),(5,.ref (.ptr 3 0)),(6,.ref (.ptr 4 0)),(7,.ref (.ptr 8 0)),(8,int v),(39,D.fn (Fn.func 136) [] [.ref (.ptr 9 0),.ref (.ptr 10 0)])]) {toList:=[40,41]} (rfAsg (sub Tryz.f69 1)) (rfBody (sub Tryz.f69 1))] 3 (.ref (.vp 6 0 (Int.toNat u) 0)) (int r)=some [.vec (vecI fs) 0 1,.gone,.var [rowsD' (List.map EdgT.row es),.ref (.vec 0 0),rowsD' A],.var [int to],.var [.ref (.vec 6 0)],.vec [[int (-1)]] 0 1,.vec (vecI (List.set by' (Int.toNat u) r)) 0 1,.vec (vecI l) e 1,.var [.ref (.vs 7 e i n false)],.var [.ref (.ptr 2 0)],.var [int v],.defd,.loop LoopState.busy none 0 (mkT 59 0 [(0,.ref (.ptr 2 0)),(5,.ref (.ptr 3 0)),(6,.ref (.ptr 4 0)),(7,.ref (.ptr 8 0)),(8,int v),(39,D.fn (Fn.func 136) [] [.ref (.ptr 9 0),.ref (.ptr 10 0)])]) {toList:=[40,41]} (rfAsg (sub Tryz.f69 1)) (rfBody (sub Tryz.f69 1))] from ?_) (.c ht (.c (show builtinD Tryz.prog [.vec (vecI fs) 0 1,.gone,.var [rowsD' (List.map EdgT.row es),.ref (.vec 0 0),rowsD' A],.var [int to],.var [.ref (.vec 6 0)],.vec [[int (-1)]] 0 1,.vec (vecI (List.set by' (Int.toNat u) r)) 0 1,.vec (vecI l) e 1,.var [.ref (.vs 7 e i n false)],.var [.ref (.ptr 2 0)],.var [int v],.defd,.loop LoopState.busy none 0 (mkT 59 0 [(0,.ref (.ptr 2 0)),(5,.ref (.ptr 3 0)),(6,.ref (.ptr 4 0)),(7,.ref (.ptr 8 0)),(8,int v),(39,D.fn (Fn.func 136) [] [.ref (.ptr 9 0),.ref (.ptr 10 0)])]) {toList:=[40,41]} (rfAsg (sub Tryz.f69 1)) (rfBody (sub Tryz.f69 1)),.vec [[int u]] 0 1] Builtin.append [34,34] (List.map (evalD Γ0 (mkT 59 0 [(5,.ref (.ptr 3 0)),(6,.ref (.ptr 4 0)),(7,.ref (.ptr 8 0)),(9,int r),(10,int u),(42,.ref (.vec 6 0)),(43,int u),(44,.ref (.vp 6 0 (Int.toNat u) 0)),(45,int x),(46,bool (Dd (x≥0))),(47,.ref (.vec 6 0)),(48,int u),(49,int r),(50,.ref (.vp 6 0 (Int.toNat u) 0)),(51,int u),(52,int to),(53,bool (u==to)),(54,.ref (.vs 7 e i n false)),(55,int u),(56,.ref (.vec 13 0))])) [Operand.tmp 54,Operand.tmp 56])=some (true,.ref (.vec 7 (e+1)),[.vec (vecI fs) 0 1,.gone,.var [rowsD' (List.map EdgT.row es),.ref (.vec 0 0),rowsD' A],.var [int to],.var [.ref (.vec 6 0)],.vec [[int (-1)]] 0 1,.vec (vecI (List.set by' (Int.toNat u) r)) 0 1,.vec (vecI (List.drop i l++[u])) (e+1) 1,.var [.ref (.vs 7 e i n false)],.var [.ref (.ptr 2 0)],.var [int v],.defd,.loop LoopState.busy none 0 (mkT 59 0 [(0,.ref (.ptr 2 0)),(5,.ref (.ptr 3 0)),(6,.ref (.ptr 4 0)),(7,.ref (.ptr 8 0)),(8,int v),(39,D.fn (Fn.func 136) [] [.ref (.ptr 9 0),.ref (.ptr 10 0)])]) {toList:=[40,41]} (rfAsg (sub Tryz.f69 1)) (rfBody (sub Tryz.f69 1)),.vec [[int u]] 0 1]) from ?_) (.c (show Blk.inn 13 (.vec (vecI fs) 0 1)=true from ?_) (.c (show Blk.inn 13 .gone=true from rfl) (.c (show Blk.inn 13 (.var [rowsD' (List.map EdgT.row es),.ref (.vec 0 0),rowsD' A])=true from rfl) (.c (show Blk.inn 13 (.var [int to])=true from rfl) (.c (show Blk.inn 13 (.var [.ref (.vec 6 0)])=true from rfl) (.c (show Blk.inn 13 (.vec [[int (-1)]] 0 1)=true from rfl) (.c (show Blk.inn 13 (.vec (vecI (List.set by' (Int.toNat u) r)) 0 1)=true from ?_) (.c (show Blk.inn 13 (.vec (vecI (List.drop i l++[u])) (e+1) 1)=true from ?_) (.c (show Blk.inn 13 (.var [.ref (.vec 7 (e+1))])=true from rfl) (.c (show Blk.inn 13 (.var [.ref (.ptr 2 0)])=true from rfl) (.c (show Blk.inn 13 (.var [int v])=true from rfl) (.c (show Blk.inn 13 .defd=true from rfl) (.c (show Blk.inn 13 (.loop LoopState.busy none 0 (mkT 59 0 [(0,.ref (.ptr 2 0)),(5,.ref (.ptr 3 0)),(6,.ref (.ptr 4 0)),(7,.ref (.ptr 8 0)),(8,int v),(39,D.fn (Fn.func 136) [] [.ref (.ptr 9 0),.ref (.ptr 10 0)])]) {toList:=[40,41]} (rfAsg (sub Tryz.f69 1)) (rfBody (sub Tryz.f69 1)))=true from rfl) .n))))))))))))))))))))) (by rfl) (by rfl)<;>(first|assumption|rfl|exact vg_in h0 hx|exact vg_load rfl hx|exact vg_store rfl (vg_lt hx)|exact vs_app rfl rfl hl hin|exact vecI_map _ _|exact vecI_inn _ _)
noncomputable abbrev usX(es:List EdgT)(A:List (List Dp))(fs:List Int)(v to:Int)(B:List (List Dp))(by':List Int)(l:List Int)(e:Nat)(Q:D)(j:Int):AS:=usS es A fs v B (.var [int to]) (.var [.ref (.vec 6 0)]) (.vec [[int (-1)]] 0 1) (.vec (vecI by') 0 1) (.vec (vecI l) e 1) (.var [Q]) j
theorem usl_a{es:List EdgT}{A:List (List Dp)}{fs by' by2 l l2:List Int}{v to:Int}{e e2:Nat}{Q Q2:D}{B:List (List Dp)}(hA:RowAt v A [.sl B] 1)
  (hcw:CW Tryz.prog Γ0 (ubH es A fs v to by' l e Q .ready none) false (.loop (sub Tryz.f136 0)) (usX es A fs v to B by' l e Q 0) (.exit 0) {t:=mkT 32 0 [],h:=ubH es A fs v to by2 l2 e2 Q2 .ready none,m:=[]}):(Ev Tryz.prog Γ0 136 [.ref (.yl 12),.ref (.ptr 9 0),.ref (.ptr 10 0)] (ubH es A fs v to by' l e Q .ready none) (.tup []) (ubH es A fs v to by2 l2 e2 Q2 .ready none)):=by
 have hl0:=(@hcw)
 exact Ev.castH (Ev.of_sym (h':=[.vec (vecI fs) 0 1,.gone,.var [rowsD' (List.map EdgT.row es),.ref (.vec 0 0),rowsD' A],.var [int to],.var [.ref (.vec 6 0)],.vec [[int (-1)]] 0 1,.vec (vecI by2) 0 1,.vec (vecI l2) e2 1,.var [Q2],.var [.ref (.ptr 2 0)],.var [int v],.defd,.loop LoopState.ready none 0 (mkT 59 0 [(0,.ref (.ptr 2 0)),(5,.ref (.ptr 3 0)),(6,.ref (.ptr 4 0)),(7,.ref (.ptr 8 0)),(8,int v),(39,D.fn (Fn.func 136) [] [.ref (.ptr 9 0),.ref (.ptr 10 0)])]) {toList:=[40,41]} (rfAsg (sub Tryz.f69 1)) (rfBody (sub Tryz.f69 1))]) (d:=D.tup []) pok [.row [Dp.sl B],.sum [0,1,2,12,13,14] (Exit.exit 0) {t:=mkT 32 0 [],h:=[.vec (vecI fs) 0 1,.gone,.var [rowsD' (List.map EdgT.row es),.ref (.vec 0 0),rowsD' A],.var [int to],.var [.ref (.vec 6 0)],.vec [[int (-1)]] 0 1,.vec (vecI by2) 0 1,.vec (vecI l2) e2 1,.var [Q2],.var [.ref (.ptr 2 0)],.var [int v],.defd,.loop LoopState.ready none 0 (mkT 59 0 [(0,.ref (.ptr 2 0)),(5,.ref (.ptr 3 0)),(6,.ref (.ptr 4 0)),(7,.ref (.ptr 8 0)),(8,int v),(39,D.fn (Fn.func 136) [] [.ref (.ptr 9 0),.ref (.ptr 10 0)])]) {toList:=[40,41]} (rfAsg (sub Tryz.f69 1)) (rfBody (sub Tryz.f69 1))],m:=[]}] (by kernel_rfl) (.c hA (.c hl0 .n))) (by rfl) (by rfl)
theorem usr_a{es:List EdgT}{A:List (List Dp)}{fs by' by2 l l2:List Int}{v to:Int}{e e2:Nat}{Q Q2:D}{B:List (List Dp)}(hA:RowAt v A [.sl B] 1)
  (hcw:CW Tryz.prog Γ0 (ubH es A fs v to by' l e Q .ready none) false (.loop (sub Tryz.f136 0)) (usX es A fs v to B by' l e Q 0) .ret {t:=mkT 32 0 [],h:=ubH es A fs v to by2 l2 e2 Q2 .done (some (.exit 0)),m:=[]}):(Ev Tryz.prog Γ0 136 [.ref (.yl 12),.ref (.ptr 9 0),.ref (.ptr 10 0)] (ubH es A fs v to by' l e Q .ready none) (.tup []) (ubH es A fs v to by2 l2 e2 Q2 .done (some (.exit 0)))):=by
 have hl0:=(@hcw)
 exact Ev.castH (Ev.of_sym (h':=[.vec (vecI fs) 0 1,.gone,.var [rowsD' (List.map EdgT.row es),.ref (.vec 0 0),rowsD' A],.var [int to],.var [.ref (.vec 6 0)],.vec [[int (-1)]] 0 1,.vec (vecI by2) 0 1,.vec (vecI l2) e2 1,.var [Q2],.var [.ref (.ptr 2 0)],.var [int v],.defd,.loop LoopState.done (some (Code.exit 0)) 0 (mkT 59 0 [(0,.ref (.ptr 2 0)),(5,.ref (.ptr 3 0)),(6,.ref (.ptr 4 0)),(7,.ref (.ptr 8 0)),(8,int v),(39,D.fn (Fn.func 136) [] [.ref (.ptr 9 0),.ref (.ptr 10 0)])]) {toList:=[40,41]} (rfAsg (sub Tryz.f69 1)) (rfBody (sub Tryz.f69 1))]) (d:=D.tup []) pok [.row [Dp.sl B],.sum [0,1,2,12,13,14] (Exit.ret) {t:=mkT 32 0 [],h:=[.vec (vecI fs) 0 1,.gone,.var [rowsD' (List.map EdgT.row es),.ref (.vec 0 0),rowsD' A],.var [int to],.var [.ref (.vec 6 0)],.vec [[int (-1)]] 0 1,.vec (vecI by2) 0 1,.vec (vecI l2) e2 1,.var [Q2],.var [.ref (.ptr 2 0)],.var [int v],.defd,.loop LoopState.done (some (Code.exit 0)) 0 (mkT 59 0 [(0,.ref (.ptr 2 0)),(5,.ref (.ptr 3 0)),(6,.ref (.ptr 4 0)),(7,.ref (.ptr 8 0)),(8,int v),(39,D.fn (Fn.func 136) [] [.ref (.ptr 9 0),.ref (.ptr 10 0)])]) {toList:=[40,41]} (rfAsg (sub Tryz.f69 1)) (rfBody (sub Tryz.f69 1))],m:=[]}] (by kernel_rfl) (.c hA (.c hl0 .n))) (by rfl) (by rfl)
structure QF where
 vs:Bool
 e:Nat
 i:Nat
 l:List Int
def QF.d(q:QF):D:=match q.vs with
 | true=>.ref (.vs 7 q.e q.i (q.l.length - q.i) false)
 | false=>.ref (.vec 7 q.e)
def QF.list(q:QF):List Int:=match q.vs with
 | true=>q.l.drop q.i
 | false=>q.l
def QF.push(q:QF)(u:Int):QF:=⟨false,q.e+1,0,q.list++[u]⟩
def QF.Ok(q:QF)(k:Nat):Prop:=(q.vs=true→q.i≤q.l.length)∧q.l.length≤k
theorem QF.Ok.push{q:QF}{k:Nat}{u:Int}(h:q.Ok k):(q.push u).Ok (k+1):=by
 obtain⟨vs,e,i,l⟩:=q
 obtain⟨h1,h2⟩:=h
 refine⟨by simp[QF.push],?_⟩
 cases vs<;>simp_all[QF.push,QF.list]<;>omega
theorem QF.Ok.le{q:QF}{k k':Nat}(h:q.Ok k)(hk:k≤k'):q.Ok k':=⟨h.1,Nat.le_trans h.2 hk⟩
noncomputable abbrev ubS(es:List EdgT)(A:List (List Dp))(fs:List Int)(v to:Int)(s:List Int×QF)(st:LoopState)(pd:Option Code):List Blk:=ubH es A fs v to s.1 s.2.l s.2.e s.2.d st pd
def usY(to r u:Int)(s:List Int×QF):(List Int×QF)⊕(List Int×QF):=match Dd (s.1.getD u.toNat 0≥0) with
 | true=>.inl s
 | false=>match u==to with
  | true=>.inr (s.1.set u.toNat r,s.2)
  | false=>.inl (s.1.set u.toNat r,s.2.push u)
section
variable {es:List EdgT} {A:List (List Dp)} {fs:List Int} {v to r u:Int} {s s':List Int×QF}
theorem ub_ivl(h0:0≤u)(hu:u.toNat<s.1.length)(hq:s.2.Ok 100000)(h:usY to r u s=.inl s'):
  Iv Tryz.prog Γ0 (.ref (.yl 12)) [int r,int u] (ubS es A fs v to s .ready none) (bool true) (ubS es A fs v to s' .ready none):=by
 have hx:s.1[u.toNat]? = some (s.1.getD u.toNat 0):=by simp[List.getD,hu]
 unfold usY at h
 split at h
 ·rename_i hg
  cases h
  exact Iv.round (h1:=ubS es A fs v to s .ready none) rfl rfl ub_asg rfl (ub_skip h0 hx hg) rfl
 ·rename_i hg
  split at h
  ·cases h
  ·rename_i ht
   cases h
   obtain⟨by',vs,e,i,l⟩:=s
   cases vs with
   | false=>exact Iv.round (h1:=ubH es A fs v to by' l e (.ref (.vec 7 e)) .ready none) rfl rfl ub_asg rfl (ub_vec h0 hx hg ht hq.2) rfl
   | true =>
    have hi:=hq.1 rfl
    exact Iv.round (h1:=ubH es A fs v to by' l e (.ref (.vs 7 e i (l.length - i) false)) .ready none) rfl rfl ub_asg rfl (ub_vs h0 hx hg ht hq.2 (Nat.add_sub_cancel' hi)) rfl
theorem ub_ivr(h0:0≤u)(hu:u.toNat<s.1.length)(h:usY to r u s=.inr s'):
  Iv Tryz.prog Γ0 (.ref (.yl 12)) [int r,int u] (ubS es A fs v to s .ready none) (bool false) (ubS es A fs v to s' .done (some (.exit 0))):=by
 have hx:s.1[u.toNat]? = some (s.1.getD u.toNat 0):=by simp[List.getD,hu]
 unfold usY at h
 split at h
 ·cases h
 ·rename_i hg
  split at h
  ·rename_i ht
   cases h
   exact Iv.round (h1:=ubS es A fs v to s .ready none) rfl rfl ub_asg rfl (ub_hit h0 hx hg ht) rfl
  ·cases h
end
def ixR(r:Int):Int:=IntKind.i64.wrap (Int.tdiv r 2)
def exA(es:List EdgT)(r:Int):EdgT:=es.getD (ixR r).toNat ⟨0,0,0⟩
def fA(fs:List Int)(r:Int):Int:=fs.getD (ixR r).toNat 0
def capA(es:List EdgT)(fs:List Int)(r:Int):Int:=capE r (exA es r) (fA fs r)
def endA(es:List EdgT)(r:Int):Int:=endE r (exA es r)
def ResOk(m:Nat)(r:Int):Prop:=0≤r∧r<2*m
theorem ixR_eq{m:Nat}{r:Int}(h:ResOk m r)(hm:m≤1000000):ixR r=((r.toNat / 2:Nat):Int)∧r.toNat / 2<m:=by
 obtain⟨h1,h2⟩:=h
 have e:Int.tdiv r 2=((r.toNat / 2:Nat):Int):=by
  rw[Int.tdiv_eq_ediv_of_nonneg h1];omega
 refine⟨?_,by omega⟩
 unfold ixR
 rw[e,wrap_i64 (by omega) (by omega)]
section
variable {es:List EdgT} {fs:List Int} {r:Int}
theorem exA_get(h:ResOk es.length r)(hm:es.length≤1000000):es[(ixR r).toNat]? = some (exA es r):=by
 obtain⟨h1,h2⟩:=ixR_eq h hm
 unfold exA
 rw[h1,Int.toNat_natCast]
 simp only[List.getD,List.getElem?_eq_getElem h2,Option.getD_some]
theorem fA_get(h:ResOk es.length r)(hm:es.length≤1000000)(hl:fs.length=es.length):fs[(ixR r).toNat]? = some (fA fs r):=by
 obtain⟨h1,h2⟩:=ixR_eq h hm
 unfold fA
 rw[h1,Int.toNat_natCast]
 simp only[List.getD,List.getElem?_eq_getElem (show r.toNat / 2<fs.length by omega),Option.getD_some]
theorem exA_row(h:ResOk es.length r)(hm:es.length≤1000000):RowAt (IntKind.i64.wrap (Int.tdiv r 2)) (es.map EdgT.row) (exA es r).row 3:=by
 obtain⟨h1,h2⟩:=ixR_eq h hm
 have h3:=exA_get h hm
 show RowAt (ixR r) _ _ _
 rw[h1] at h3 ⊢
 rw[Int.toNat_natCast] at h3
 exact rowAt h3 rfl
theorem endA_in{n:Nat}(h:ResOk es.length r)(hm:es.length≤1000000)(hin:∀x∈es,EdgIn n x):0≤endA es r∧(endA es r).toNat<n:=by
 have:=hin _ (List.mem_of_getElem? (exA_get h hm))
 obtain⟨a,b,c,d⟩:=this
 unfold endA endE
 split<;>omega
end
def usG(es:List EdgT)(fs:List Int)(to r:Int)(s:List Int×QF):(List Int×QF)⊕(List Int×QF):=match Dd (capA es fs r>0) with
 | true=>usY to r (endA es r) s
 | false=>.inl s
noncomputable def usFin(es:List EdgT)(A:List (List Dp))(fs:List Int)(v to:Int):(List Int×QF)⊕(List Int×QF)→Exit×AS:=eachFin (.exit 0) (fun s=>{t:=mkT 32 0 [],h:=ubS es A fs v to s .ready none,m:=[]}) (fun s=>(.ret,{t:=mkT 32 0 [],h:=ubS es A fs v to s .done (some (.exit 0)),m:=[]}))
theorem usY_inl{to r u:Int}{s s':List Int×QF}(h:usY to r u s=.inl s'){n k:Nat}(h1:s.1.length=n)(h2:s.2.Ok k):s'.1.length=n∧s'.2.Ok (k+1):=by
 unfold usY at h
 split at h
 ·cases h;exact⟨h1,h2.le (by omega)⟩
 ·split at h
  ·cases h
  ·cases h;exact⟨by simpa using h1,h2.push⟩
theorem us_each{es:List EdgT}{A:List (List Dp)}{fs:List Int}{v to:Int}{n:Nat}(hl:fs.length=es.length)(hm:es.length≤1000)(hin:∀x∈es,EdgIn n x){B:List Int}(hB:∀r∈B,ResOk es.length r)(hBl:B.length≤10000)
  {s0:List Int×QF} (h1:s0.1.length=n) (h2:s0.2.Ok 10000) :
  CW Tryz.prog Γ0 (ubS es A fs v to s0 .ready none) false (.loop (sub Tryz.f136 0)) (usX es A fs v to (inR1 B) s0.1 s0.2.l s0.2.e s0.2.d 0) (usFin es A fs v to (forL (usG es fs to) B s0)).1 (usFin es A fs v to (forL (usG es fs to) B s0)).2:=by
 refine CW.each (P:=Tryz.prog) (Γ:=Γ0) (h0:=ubS es A fs v to s0 .ready none) (rd:=false) (c:=sub Tryz.f136 0) (σ:=List Int×QF) (ρ:=List Int×QF) B (usG es fs to)
  (fun j s=>usX es A fs v to (inR1 B) s.1 s.2.l s.2.e s.2.d (j:Int)) (.exit 0) (fun s=>{t:=mkT 32 0 [],h:=ubS es A fs v to s .ready none,m:=[]}) (fun s=>(.ret,{t:=mkT 32 0 [],h:=ubS es A fs v to s .done (some (.exit 0)),m:=[]}))
  (fun j s=>s.1.length=n∧s.2.Ok (10000+j)) (by simp) (by simp) ?_ ?_ s0 ⟨h1,h2⟩
 ·rintro j r s hj ⟨g1,g2⟩
  have hi:=(List.getElem?_eq_some_iff.1 hj).1
  have hr:=hB r (List.mem_of_getElem? hj)
  have hq:=(ixR_eq hr (by omega)).1
  have hql:=(ixR_eq hr (by omega)).2
  have hx:=exA_row hr (by omega)
  have hf:=fA_get (fs:=fs) hr (by omega) hl
  have he:=endA_in hr (by omega) hin
  have hrow:=rowAt (row:=fun n:Int=>[vi n]) hj rfl
  have hlt:=lt_len (fun n:Int=>[vi n]) hi
  have hw:=wrap_succ (i:=j) hi (by omega)
  cases hc:Dd (capA es fs r>0) with
  | false =>
   have e:usG es fs to r s=.inl s:=by unfold usG;rw[hc]
   rw[e]
   refine⟨fun s' h=>?_,us_no (x:=exA es r) (f:=fA fs r) hq hx hf (by omega) hrow hlt hw hc⟩
   cases h
   exact⟨g1,g2.le (by omega)⟩
  | true =>
   have e:usG es fs to r s=usY to r (endA es r) s:=by unfold usG;rw[hc]
   rw[e]
   have hu:(endA es r).toNat<s.1.length:=by omega
   cases hy:usY to r (endA es r) s with
   | inl s' =>
    refine⟨fun s2 h=>?_,us_yes (x:=exA es r) (f:=fA fs r) hq hx hf (by omega) hrow hlt hw hc rfl (ub_ivl (u:=endA es r) he.1 hu (g2.le (by omega)) hy)⟩
    cases h
    exact usY_inl hy g1 g2
   | inr s' =>
    refine⟨fun s2 h=>(by cases h),us_stop (u:=0) (x:=exA es r) (f:=fA fs r) hq hx hf (by omega) hrow hlt hc (ub_ivr (u:=endA es r) he.1 hu hy)⟩
 ·intro s _
  exact us_last (ge_len (fun n:Int=>[vi n]) B)
section
variable {es:List EdgT} {A:List (List Dp)} {fs:List Int} {v to:Int}
noncomputable abbrev ubH0(es:List EdgT)(A:List (List Dp))(fs:List Int)(v to:Int)(by':List Int)(l:List Int)(e:Nat)(Q:D):List Blk:=[.vec (vecI fs) 0 1,.gone,.var [rowsD' (es.map EdgT.row),.ref (.vec 0 0),rowsD' A],.var [int to],.var [.ref (.vec 6 0)],.vec [[int (-1)]] 0 1,.vec (vecI by') 0 1,.vec (vecI l) e 1,.var [Q],.var [.ref (.ptr 2 0)],.var [int v]]
theorem us_rfl{h0:List Blk}{n:Nat}(hl:fs.length=es.length)(hm:es.length≤1000)(hin:∀x∈es,EdgIn n x){B:List Int}(hA:RowAt v A [.sl (inR1 B)] 1)(hB:∀r∈B,ResOk es.length r)(hBl:B.length≤10000)
  {s0 s':List Int×QF} (h1:s0.1.length=n) (h2:s0.2.Ok 10000) (hf:forL (usG es fs to) B s0=.inl s') :
  CW Tryz.prog Γ0 h0 false (sub Tryz.f69 1) {t:=usT v,h:=ubH0 es A fs v to s0.1 s0.2.l s0.2.e s0.2.d,m:=[]} .normal {t:=usT v,h:=ubS es A fs v to s' .exhausted none,m:=[11]}:=by
 have:=us_each (A:=A) (v:=v) (to:=to) hl hm hin hB hBl h1 h2
 rw[hf] at this
 exact CW.rangeFunc (f:=136) (fi:=[]) (ca:=[.ref (.ptr 9 0),.ref (.ptr 10 0)]) pok (s:={t:=usT v,h:=ubH0 es A fs v to s0.1 s0.2.l s0.2.e s0.2.d,m:=[]}) (g:=.tmp 39) (ps:=#[40,41]) (asg:=rfAsg (sub Tryz.f69 1)) (body:=rfBody (sub Tryz.f69 1)) rfl (by kernel_rfl) (usl_a hA this) rfl
theorem us_rfr{h0:List Blk}{n:Nat}(hl:fs.length=es.length)(hm:es.length≤1000)(hin:∀x∈es,EdgIn n x){B:List Int}(hA:RowAt v A [.sl (inR1 B)] 1)(hB:∀r∈B,ResOk es.length r)(hBl:B.length≤10000)
  {s0 s':List Int×QF} (h1:s0.1.length=n) (h2:s0.2.Ok 10000) (hf:forL (usG es fs to) B s0=.inr s') :
  CW Tryz.prog Γ0 h0 false (sub Tryz.f69 1) {t:=usT v,h:=ubH0 es A fs v to s0.1 s0.2.l s0.2.e s0.2.d,m:=[]} (.exit 0) {t:=usT v,h:=ubS es A fs v to s' .exhausted (some (.exit 0)),m:=[11]}:=by
 have:=us_each (A:=A) (v:=v) (to:=to) hl hm hin hB hBl h1 h2
 rw[hf] at this
 exact CW.rangeFunc (f:=136) (fi:=[]) (ca:=[.ref (.ptr 9 0),.ref (.ptr 10 0)]) pok (s:={t:=usT v,h:=ubH0 es A fs v to s0.1 s0.2.l s0.2.e s0.2.d,m:=[]}) (g:=.tmp 39) (ps:=#[40,41]) (asg:=rfAsg (sub Tryz.f69 1)) (body:=rfBody (sub Tryz.f69 1)) rfl (by kernel_rfl) (usr_a hA this) rfl
end
section
variable {l:List Int} {b i e n:Nat} {a u:Int} {h:List Blk}
theorem ty34:(elemT Tryz.prog 34,Tryz.prog.underlying 34,szOf Tryz.prog 3)=(some 3,some (.slice 3),some 1):=by kernel_rfl
theorem vs_len{c:Bool}(hb:h[b]? = some (.vec (vecI l) e 1)):builtinD Tryz.prog h .len [34] [.ref (.vs b e i n c)]=some (true,int (n:Int),h):=by
 have h3:=ty34
 simp only[Prod.mk.injEq] at h3
 simp only[builtinD,lenOp,h3.2.1,lenD,hb,if_true,Option.map_some,keep]
theorem vg_len(hb:h[b]? = some (.vec (vecI l) e 1)):builtinD Tryz.prog h .len [34] [.ref (.vec b e)]=some (true,int (l.length:Int),h):=by
 have h3:=ty34
 simp only[Prod.mk.injEq] at h3
 simp only[builtinD,lenOp,h3.2.1,lenD,hb,if_true,Option.map_some,keep,vecI_len]
theorem vs_ia{c:Bool}(hb:h[b]? = some (.vec (vecI l) e 1))(hn:0<n):indexAddrD Tryz.prog h 34 (.ref (.vs b e i n c)) (int 0)=some (true,.ref (.vp b e i 0)):=by
 have h3:=ty34
 simp only[Prod.mk.injEq] at h3
 have h4:inR 0 n=true:=by simp[inR];omega
 simp only[indexAddrD,intOf?,h3.2.1,h3.2.2,hb,if_true,and_self,h4,Int.toNat_zero,Nat.add_zero]
theorem vg_ia(hb:h[b]? = some (.vec (vecI l) e 1))(hn:0<l.length):indexAddrD Tryz.prog h 34 (.ref (.vec b e)) (int 0)=some (true,.ref (.vp b e 0 0)):=by
 have h3:=ty34
 simp only[Prod.mk.injEq] at h3
 have h4:inR 0 l.length=true:=by simp[inR];omega
 simp only[indexAddrD,intOf?,h3.2.1,h3.2.2,hb,if_true,and_self,vecI_len,h4,Int.toNat_zero]
theorem vs_sl(hb:h[b]? = some (.vec (vecI l) e 1))(hn:0<n)(hin:i+n=l.length):sliceD Tryz.prog h 34 (.ref (.vs b e i n false)) (some (int 1)) none none=some (true,.ref (.vs b e (i+1) (n - 1) false)):=by
 have h3:=ty34
 simp only[Prod.mk.injEq] at h3
 have h4:slOk 1 n n=true:=by simp[slOk];omega
 have h5:¬((n:Int)=1∧¬(i+n=l.length∧True)):=by simp[hin]
 simp only[sliceD,boundD,maxD,h3.2.1,h3.2.2,lenD,hb,if_true,sliceRow,and_self,Option.map_some,intOf?,h4,maxOk,vecI_len,Int.toNat_natCast,h5,if_false,clipped,Bool.false_and,Bool.or_self,Bool.and_self,Option.isNone_none,Bool.true_or]
 rfl
theorem vg_sl(hb:h[b]? = some (.vec (vecI l) e 1))(hn:0<l.length):sliceD Tryz.prog h 34 (.ref (.vec b e)) (some (int 1)) none none=some (true,.ref (.vs b e 1 (l.length - 1) false)):=by
 have h3:=ty34
 simp only[Prod.mk.injEq] at h3
 have h4:slOk 1 l.length l.length=true:=by simp[slOk];omega
 have h5:¬((l.length:Int)=1∧¬True):=by simp
 simp only[sliceD,boundD,maxD,h3.2.1,h3.2.2,lenD,hb,if_true,sliceRow,and_self,Option.map_some,intOf?,h4,maxOk,vecI_len,Int.toNat_natCast,h5,if_false,clipped,Bool.and_self,Option.isNone_none,Bool.true_or,reduceCtorEq,and_true,false_and,Int.reduceEq]
 rfl
end
abbrev sT:List D:=mkT 59 0 [(0,.ref (.ptr 2 0)),(5,.ref (.ptr 3 0)),(6,.ref (.ptr 4 0)),(7,.ref (.ptr 8 0))]
abbrev sH(es:List EdgT)(A:List (List Dp))(fs:List Int)(to:Int)(by':List Int)(l:List Int)(e:Nat)(Q:D):List Blk:=[.vec (vecI fs) 0 1,.gone,.var [rowsD' (es.map EdgT.row),.ref (.vec 0 0),rowsD' A],.var [int to],.var [.ref (.vec 6 0)],.vec [[int (-1)]] 0 1,.vec (vecI by') 0 1,.vec (vecI l) e 1,.var [Q]]
abbrev sS(es:List EdgT)(A:List (List Dp))(fs:List Int)(to:Int)(by':List Int)(l:List Int)(e:Nat)(Q:D):AS:={t:=sT,h:=sH es A fs to by' l e Q,m:=[]}
theorem sh_end{es:List EdgT}{A:List (List Dp)}{fs by' l:List Int}{to:Int}{e i n:Nat}(hn:Dd ((n:Int)>0)=false):(CW Tryz.prog Γ0 (sH es A fs to by' l e (.ref (.vs 7 e i n false))) false (sub Tryz.f69 0) (sS es A fs to by' l e (.ref (.vs 7 e i n false))) (.exit 0) (sS es A fs to by' l e (.ref (.vs 7 e i n false)))):=by
 exact CW.cast (CW.symX (s':={t:=mkT 59 0 [(0,.ref (.ptr 2 0)),(5,.ref (.ptr 3 0)),(6,.ref (.ptr 4 0)),(7,.ref (.ptr 8 0))],h:=[.vec (vecI fs) 0 1,.gone,.var [rowsD' (List.map EdgT.row es),.ref (.vec 0 0),rowsD' A],.var [int to],.var [.ref (.vec 6 0)],.vec [[int (-1)]] 0 1,.vec (vecI by') 0 1,.vec (vecI l) e 1,.var [.ref (.vs 7 e i n false)]],m:=[]}) (e:=Exit.exit 0) pok [.st (.mask [0,5,6,7])] [.ov 30 (int (↑n:Int)),.b false] (by kernel_rfl) (.c (show builtinD Tryz.prog [.vec (vecI fs) 0 1,.gone,.var [rowsD' (List.map EdgT.row es),.ref (.vec 0 0),rowsD' A],.var [int to],.var [.ref (.vec 6 0)],.vec [[int (-1)]] 0 1,.vec (vecI by') 0 1,.vec (vecI l) e 1,.var [.ref (.vs 7 e i n false)]] Builtin.len [34] (List.map (evalD Γ0 (mkT 59 0 [(0,.ref (.ptr 2 0)),(5,.ref (.ptr 3 0)),(6,.ref (.ptr 4 0)),(7,.ref (.ptr 8 0)),(29,.ref (.vs 7 e i n false))])) [Operand.tmp 29])=some (true,int (↑n:Int),[.vec (vecI fs) 0 1,.gone,.var [rowsD' (List.map EdgT.row es),.ref (.vec 0 0),rowsD' A],.var [int to],.var [.ref (.vec 6 0)],.vec [[int (-1)]] 0 1,.vec (vecI by') 0 1,.vec (vecI l) e 1,.var [.ref (.vs 7 e i n false)]]) from(by first|assumption|rfl|exact vs_len rfl)) (.c hn .n))) (by rfl) (by rfl)
theorem sh_vs{es:List EdgT}{A:List (List Dp)}{fs by' by2 l l2:List Int}{v to:Int}{e e2 i n:Nat}{Q2:D}(hn:Dd ((n:Int)>0)=true)(hn0:0<n)(hin:i+n=l.length)(hv:l[i]? = some v)
  (hcw:CW Tryz.prog Γ0 (sH es A fs to by' l e (.ref (.vs 7 e i n false))) false (sub Tryz.f69 1) {t:=usT v,h:=ubH0 es A fs v to by' l e (.ref (.vs 7 e (i+1) (n - 1) false)),m:=[]} .normal {t:=usT v,h:=ubH es A fs v to by2 l2 e2 Q2 .exhausted none,m:=[11]}):(CW Tryz.prog Γ0 (sH es A fs to by' l e (.ref (.vs 7 e i n false))) false (sub Tryz.f69 0) (sS es A fs to by' l e (.ref (.vs 7 e i n false))) .normal {t:=sT,h:=ubH es A fs v to by2 l2 e2 Q2 .exhausted none,m:=[11]}):=by
 have hl0:=(@hcw)
 refine CW.cast (CW.symX (s':={t:=mkT 59 0 [(0,.ref (.ptr 2 0)),(5,.ref (.ptr 3 0)),(6,.ref (.ptr 4 0)),(7,.ref (.ptr 8 0))],h:=[.vec (vecI fs) 0 1,.gone,.var [rowsD' (List.map EdgT.row es),.ref (.vec 0 0),rowsD' A],.var [int to],.var [.ref (.vec 6 0)],.vec [[int (-1)]] 0 1,.vec (vecI by2) 0 1,.vec (vecI l2) e2 1,.var [Q2],.var [.ref (.ptr 2 0)],.var [int v],.defd,.loop LoopState.exhausted none 0 (mkT 59 0 [(0,.ref (.ptr 2 0)),(5,.ref (.ptr 3 0)),(6,.ref (.ptr 4 0)),(7,.ref (.ptr 8 0)),(8,int v),(39,D.fn (Fn.func 136) [] [.ref (.ptr 9 0),.ref (.ptr 10 0)])]) {toList:=[40,41]} (rfAsg (sub Tryz.f69 1)) (rfBody (sub Tryz.f69 1))],m:=[11]}) (e:=Exit.normal) pok [.st (.mask [0,5,6,7])] [.ov 30 (int (↑n:Int)),.b true,.ov 33 (.ref (.vp 7 e i 0)),.ov 34 (int v),.ov 36 (.ref (.vs 7 e (i+1) (n - 1) false)),.inl,.sum [0,5,6,7,8,39] (Exit.normal) {t:=mkT 59 0 [(0,.ref (.ptr 2 0)),(5,.ref (.ptr 3 0)),(6,.ref (.ptr 4 0)),(7,.ref (.ptr 8 0)),(8,int v),(39,D.fn (Fn.func 136) [] [.ref (.ptr 9 0),.ref (.ptr 10 0)])],h:=[.vec (vecI fs) 0 1,.gone,.var [rowsD' (List.map EdgT.row es),.ref (.vec 0 0),rowsD' A],.var [int to],.var [.ref (.vec 6 0)],.vec [[int (-1)]] 0 1,.vec (vecI by2) 0 1,.vec (vecI l2) e2 1,.var [Q2],.var [.ref (.ptr 2 0)],.var [int v],.defd,.loop LoopState.exhausted none 0 (mkT 59 0 [(0,.ref (.ptr 2 0)),(5,.ref (.ptr 3 0)),(6,.ref (.ptr 4 0)),(7,.ref (.ptr 8 0)),(8,int v),(39,D.fn (Fn.func 136) [] [.ref (.ptr 9 0),.ref (.ptr 10 0)])]) {toList:=[40,41]} (rfAsg (sub Tryz.f69 1)) (rfBody (sub Tryz.f69 1))],m:=[11]}] (by kernel_rfl) (.c (show builtinD Tryz.prog [.vec (vecI fs) 0 1,.gone,.var [rowsD' (List.map EdgT.row es),.ref (.vec 0 0),rowsD' A],.var [int to],.var [.ref (.vec 6 0)],.vec [[int (-1)]] 0 1,.vec (vecI by') 0 1,.vec (vecI l) e 1,.var [.ref (.vs 7 e i n false)]] Builtin.len [34] (List.map (evalD Γ0 (mkT 59 0 [(0,.ref (.ptr 2 0)),(5,.ref (.ptr 3 0)),(6,.ref (.ptr 4 0)),(7,.ref (.ptr 8 0)),(29,.ref (.vs 7 e i n false))])) [Operand.tmp 29])=some (true,int (↑n:Int),[.vec (vecI fs) 0 1,.gone,.var [rowsD' (List.map EdgT.row es),.ref (.vec 0 0),rowsD' A],.var [int to],.var [.ref (.vec 6 0)],.vec [[int (-1)]] 0 1,.vec (vecI by') 0 1,.vec (vecI l) e 1,.var [.ref (.vs 7 e i n false)]]) from ?_) (.c hn (.c (show indexAddrD Tryz.prog [.vec (vecI fs) 0 1,.gone,.var [rowsD' (List.map EdgT.row es),.ref (.vec 0 0),rowsD' A],.var [int to],.var [.ref (.vec 6 0)],.vec [[int (-1)]] 0 1,.vec (vecI by') 0 1,.vec (vecI l) e 1,.var [.ref (.vs 7 e i n false)]] 34 (.ref (.vs 7 e i n false)) (evalD Γ0 (mkT 59 0 [(0,.ref (.ptr 2 0)),(5,.ref (.ptr 3 0)),(6,.ref (.ptr 4 0)),(7,.ref (.ptr 8 0)),(29,.ref (.vs 7 e i n false)),(30,int (↑n:Int)),(31,bool (Dd ((↑n:Int)>0))),(32,.ref (.vs 7 e i n false))]) (Operand.const (Value.int IntKind.i64 0)))=some (true,.ref (.vp 7 e i 0)) from ?_) (.c (show loadD Tryz.prog [.vec (vecI fs) 0 1,.gone,.var [rowsD' (List.map EdgT.row es),.ref (.vec 0 0),rowsD' A],.var [int to],.var [.ref (.vec 6 0)],.vec [[int (-1)]] 0 1,.vec (vecI by') 0 1,.vec (vecI l) e 1,.var [.ref (.vs 7 e i n false)]] 3 (.ref (.vp 7 e i 0))=some (int v) from ?_) (.c (show sliceD Tryz.prog [.vec (vecI fs) 0 1,.gone,.var [rowsD' (List.map EdgT.row es),.ref (.vec 0 0),rowsD' A],.var [int to],.var [.ref (.vec 6 0)],.vec [[int (-1)]] 0 1,.vec (vecI by') 0 1,.vec (vecI l) e 1,.var [.ref (.vs 7 e i n false)]] 34 (.ref (.vs 7 e i n false)) (Option.map (evalD Γ0 (mkT 59 0 [(0,.ref (.ptr 2 0)),(5,.ref (.ptr 3 0)),(6,.ref (.ptr 4 0)),(7,.ref (.ptr 8 0)),(8,int v),(29,.ref (.vs 7 e i n false)),(30,int (↑n:Int)),(31,bool (Dd ((↑n:Int)>0))),(32,.ref (.vs 7 e i n false)),(33,.ref (.vp 7 e i 0)),(34,int v),(35,.ref (.vs 7 e i n false))])) (some (Operand.const (Value.int IntKind.i64 1)))) none none=some (true,.ref (.vs 7 e (i+1) (n - 1) false)) from ?_) (.c hl0 .n))))))) (by rfl) (by rfl)<;>(first|assumption|rfl|exact vs_len rfl|exact vs_ia rfl hn0|exact vg_load rfl hv|exact vs_sl rfl hn0 hin)
theorem sh_vsx{es:List EdgT}{A:List (List Dp)}{fs by' by2 l l2:List Int}{v to:Int}{e e2 i n:Nat}{Q2:D}(hn:Dd ((n:Int)>0)=true)(hn0:0<n)(hin:i+n=l.length)(hv:l[i]? = some v)
  (hcw:CW Tryz.prog Γ0 (sH es A fs to by' l e (.ref (.vs 7 e i n false))) false (sub Tryz.f69 1) {t:=usT v,h:=ubH0 es A fs v to by' l e (.ref (.vs 7 e (i+1) (n - 1) false)),m:=[]} (.exit 0) {t:=usT v,h:=ubH es A fs v to by2 l2 e2 Q2 .exhausted (some (.exit 0)),m:=[11]}):(CW Tryz.prog Γ0 (sH es A fs to by' l e (.ref (.vs 7 e i n false))) false (sub Tryz.f69 0) (sS es A fs to by' l e (.ref (.vs 7 e i n false))) (.exit 0) {t:=sT,h:=ubH es A fs v to by2 l2 e2 Q2 .exhausted (some (.exit 0)),m:=[11]}):=by
 have hl0:=(@hcw)
 refine CW.cast (CW.symX (s':={t:=mkT 59 0 [(0,.ref (.ptr 2 0)),(5,.ref (.ptr 3 0)),(6,.ref (.ptr 4 0)),(7,.ref (.ptr 8 0))],h:=[.vec (vecI fs) 0 1,.gone,.var [rowsD' (List.map EdgT.row es),.ref (.vec 0 0),rowsD' A],.var [int to],.var [.ref (.vec 6 0)],.vec [[int (-1)]] 0 1,.vec (vecI by2) 0 1,.vec (vecI l2) e2 1,.var [Q2],.var [.ref (.ptr 2 0)],.var [int v],.defd,.loop LoopState.exhausted (some (Code.exit 0)) 0 (mkT 59 0 [(0,.ref (.ptr 2 0)),(5,.ref (.ptr 3 0)),(6,.ref (.ptr 4 0)),(7,.ref (.ptr 8 0)),(8,int v),(39,D.fn (Fn.func 136) [] [.ref (.ptr 9 0),.ref (.ptr 10 0)])]) {toList:=[40,41]} (rfAsg (sub Tryz.f69 1)) (rfBody (sub Tryz.f69 1))],m:=[11]}) (e:=Exit.exit 0) pok [.st (.mask [0,5,6,7])] [.ov 30 (int (↑n:Int)),.b true,.ov 33 (.ref (.vp 7 e i 0)),.ov 34 (int v),.ov 36 (.ref (.vs 7 e (i+1) (n - 1) false)),.inl,.sum [0,5,6,7,8,39] (Exit.exit 0) {t:=mkT 59 0 [(0,.ref (.ptr 2 0)),(5,.ref (.ptr 3 0)),(6,.ref (.ptr 4 0)),(7,.ref (.ptr 8 0)),(8,int v),(39,D.fn (Fn.func 136) [] [.ref (.ptr 9 0),.ref (.ptr 10 0)])],h:=[.vec (vecI fs) 0 1,.gone,.var [rowsD' (List.map EdgT.row es),.ref (.vec 0 0),rowsD' A],.var [int to],.var [.ref (.vec 6 0)],.vec [[int (-1)]] 0 1,.vec (vecI by2) 0 1,.vec (vecI l2) e2 1,.var [Q2],.var [.ref (.ptr 2 0)],.var [int v],.defd,.loop LoopState.exhausted (some (Code.exit 0)) 0 (mkT 59 0 [(0,.ref (.ptr 2 0)),(5,.ref (.ptr 3 0)),(6,.ref (.ptr 4 0)),(7,.ref (.ptr 8 0)),(8,int v),(39,D.fn (Fn.func 136) [] [.ref (.ptr 9 0),.ref (.ptr 10 0)])]) {toList:=[40,41]} (rfAsg (sub Tryz.f69 1)) (rfBody (sub Tryz.f69 1))],m:=[11]}] (by kernel_rfl) (.c (show builtinD Tryz.prog [.vec (vecI fs) 0 1,.gone,.var [rowsD' (List.map EdgT.row es),.ref (.vec 0 0),rowsD' A],.var [int to],.var [.ref (.vec 6 0)],.vec [[int (-1)]] 0 1,.vec (vecI by') 0 1,.vec (vecI l) e 1,.var [.ref (.vs 7 e i n false)]] Builtin.len [34] (List.map (evalD Γ0 (mkT 59 0 [(0,.ref (.ptr 2 0)),(5,.ref (.ptr 3 0)),(6,.ref (.ptr 4 0)),(7,.ref (.ptr 8 0)),(29,.ref (.vs 7 e i n false))])) [Operand.tmp 29])=some (true,int (↑n:Int),[.vec (vecI fs) 0 1,.gone,.var [rowsD' (List.map EdgT.row es),.ref (.vec 0 0),rowsD' A],.var [int to],.var [.ref (.vec 6 0)],.vec [[int (-1)]] 0 1,.vec (vecI by') 0 1,.vec (vecI l) e 1,.var [.ref (.vs 7 e i n false)]]) from ?_) (.c hn (.c (show indexAddrD Tryz.prog [.vec (vecI fs) 0 1,.gone,.var [rowsD' (List.map EdgT.row es),.ref (.vec 0 0),rowsD' A],.var [int to],.var [.ref (.vec 6 0)],.vec [[int (-1)]] 0 1,.vec (vecI by') 0 1,.vec (vecI l) e 1,.var [.ref (.vs 7 e i n false)]] 34 (.ref (.vs 7 e i n false)) (evalD Γ0 (mkT 59 0 [(0,.ref (.ptr 2 0)),(5,.ref (.ptr 3 0)),(6,.ref (.ptr 4 0)),(7,.ref (.ptr 8 0)),(29,.ref (.vs 7 e i n false)),(30,int (↑n:Int)),(31,bool (Dd ((↑n:Int)>0))),(32,.ref (.vs 7 e i n false))]) (Operand.const (Value.int IntKind.i64 0)))=some (true,.ref (.vp 7 e i 0)) from ?_) (.c (show loadD Tryz.prog [.vec (vecI fs) 0 1,.gone,.var [rowsD' (List.map EdgT.row es),.ref (.vec 0 0),rowsD' A],.var [int to],.var [.ref (.vec 6 0)],.vec [[int (-1)]] 0 1,.vec (vecI by') 0 1,.vec (vecI l) e 1,.var [.ref (.vs 7 e i n false)]] 3 (.ref (.vp 7 e i 0))=some (int v) from ?_) (.c (show sliceD Tryz.prog [.vec (vecI fs) 0 1,.gone,.var [rowsD' (List.map EdgT.row es),.ref (.vec 0 0),rowsD' A],.var [int to],.var [.ref (.vec 6 0)],.vec [[int (-1)]] 0 1,.vec (vecI by') 0 1,.vec (vecI l) e 1,.var [.ref (.vs 7 e i n false)]] 34 (.ref (.vs 7 e i n false)) (Option.map (evalD Γ0 (mkT 59 0 [(0,.ref (.ptr 2 0)),(5,.ref (.ptr 3 0)),(6,.ref (.ptr 4 0)),(7,.ref (.ptr 8 0)),(8,int v),(29,.ref (.vs 7 e i n false)),(30,int (↑n:Int)),(31,bool (Dd ((↑n:Int)>0))),(32,.ref (.vs 7 e i n false)),(33,.ref (.vp 7 e i 0)),(34,int v),(35,.ref (.vs 7 e i n false))])) (some (Operand.const (Value.int IntKind.i64 1)))) none none=some (true,.ref (.vs 7 e (i+1) (n - 1) false)) from ?_) (.c hl0 .n))))))) (by rfl) (by rfl)<;>(first|assumption|rfl|exact vs_len rfl|exact vs_ia rfl hn0|exact vg_load rfl hv|exact vs_sl rfl hn0 hin)
theorem sh_vg{es:List EdgT}{A:List (List Dp)}{fs by' by2 l l2:List Int}{v to:Int}{e e2:Nat}{Q2:D}(hn:Dd ((l.length:Int)>0)=true)(hn0:0<l.length)(hv:l[0]? = some v)
  (hcw:CW Tryz.prog Γ0 (sH es A fs to by' l e (.ref (.vec 7 e))) false (sub Tryz.f69 1) {t:=usT v,h:=ubH0 es A fs v to by' l e (.ref (.vs 7 e 1 (l.length - 1) false)),m:=[]} .normal {t:=usT v,h:=ubH es A fs v to by2 l2 e2 Q2 .exhausted none,m:=[11]}):(CW Tryz.prog Γ0 (sH es A fs to by' l e (.ref (.vec 7 e))) false (sub Tryz.f69 0) (sS es A fs to by' l e (.ref (.vec 7 e))) .normal {t:=sT,h:=ubH es A fs v to by2 l2 e2 Q2 .exhausted none,m:=[11]}):=by
 have hl0:=(@hcw)
 refine CW.cast (CW.symX (s':={t:=mkT 59 0 [(0,.ref (.ptr 2 0)),(5,.ref (.ptr 3 0)),(6,.ref (.ptr 4 0)),(7,.ref (.ptr 8 0))],h:=[.vec (vecI fs) 0 1,.gone,.var [rowsD' (List.map EdgT.row es),.ref (.vec 0 0),rowsD' A],.var [int to],.var [.ref (.vec 6 0)],.vec [[int (-1)]] 0 1,.vec (vecI by2) 0 1,.vec (vecI l2) e2 1,.var [Q2],.var [.ref (.ptr 2 0)],.var [int v],.defd,.loop LoopState.exhausted none 0 (mkT 59 0 [(0,.ref (.ptr 2 0)),(5,.ref (.ptr 3 0)),(6,.ref (.ptr 4 0)),(7,.ref (.ptr 8 0)),(8,int v),(39,D.fn (Fn.func 136) [] [.ref (.ptr 9 0),.ref (.ptr 10 0)])]) {toList:=[40,41]} (rfAsg (sub Tryz.f69 1)) (rfBody (sub Tryz.f69 1))],m:=[11]}) (e:=Exit.normal) pok [.st (.mask [0,5,6,7])] [.ov 30 (int (↑(List.length l):Int)),.b true,.ov 33 (.ref (.vp 7 e 0 0)),.ov 34 (int v),.ov 36 (.ref (.vs 7 e 1 (List.length l - 1) false)),.inl,.sum [0,5,6,7,8,39] (Exit.normal) {t:=mkT 59 0 [(0,.ref (.ptr 2 0)),(5,.ref (.ptr 3 0)),(6,.ref (.ptr 4 0)),(7,.ref (.ptr 8 0)),(8,int v),(39,D.fn (Fn.func 136) [] [.ref (.ptr 9 0),.ref (.ptr 10 0)])],h:=[.vec (vecI fs) 0 1,.gone,.var [rowsD' (List.map EdgT.row es),.ref (.vec 0 0),rowsD' A],.var [int to],.var [.ref (.vec 6 0)],.vec [[int (-1)]] 0 1,.vec (vecI by2) 0 1,.vec (vecI l2) e2 1,.var [Q2],.var [.ref (.ptr 2 0)],.var [int v],.defd,.loop LoopState.exhausted none 0 (mkT 59 0 [(0,.ref (.ptr 2 0)),(5,.ref (.ptr 3 0)),(6,.ref (.ptr 4 0)),(7,.ref (.ptr 8 0)),(8,int v),(39,D.fn (Fn.func 136) [] [.ref (.ptr 9 0),.ref (.ptr 10 0)])]) {toList:=[40,41]} (rfAsg (sub Tryz.f69 1)) (rfBody (sub Tryz.f69 1))],m:=[11]}] (by kernel_rfl) (.c (show builtinD Tryz.prog [.vec (vecI fs) 0 1,.gone,.var [rowsD' (List.map EdgT.row es),.ref (.vec 0 0),rowsD' A],.var [int to],.var [.ref (.vec 6 0)],.vec [[int (-1)]] 0 1,.vec (vecI by') 0 1,.vec (vecI l) e 1,.var [.ref (.vec 7 e)]] Builtin.len [34] (List.map (evalD Γ0 (mkT 59 0 [(0,.ref (.ptr 2 0)),(5,.ref (.ptr 3 0)),(6,.ref (.ptr 4 0)),(7,.ref (.ptr 8 0)),(29,.ref (.vec 7 e))])) [Operand.tmp 29])=some (true,int (↑(List.length l):Int),[.vec (vecI fs) 0 1,.gone,.var [rowsD' (List.map EdgT.row es),.ref (.vec 0 0),rowsD' A],.var [int to],.var [.ref (.vec 6 0)],.vec [[int (-1)]] 0 1,.vec (vecI by') 0 1,.vec (vecI l) e 1,.var [.ref (.vec 7 e)]]) from ?_) (.c hn (.c (show indexAddrD Tryz.prog [.vec (vecI fs) 0 1,.gone,.var [rowsD' (List.map EdgT.row es),.ref (.vec 0 0),rowsD' A],.var [int to],.var [.ref (.vec 6 0)],.vec [[int (-1)]] 0 1,.vec (vecI by') 0 1,.vec (vecI l) e 1,.var [.ref (.vec 7 e)]] 34 (.ref (.vec 7 e)) (evalD Γ0 (mkT 59 0 [(0,.ref (.ptr 2 0)),(5,.ref (.ptr 3 0)),(6,.ref (.ptr 4 0)),(7,.ref (.ptr 8 0)),(29,.ref (.vec 7 e)),(30,int (↑(List.length l):Int)),(31,bool (Dd ((↑(List.length l):Int)>0))),(32,.ref (.vec 7 e))]) (Operand.const (Value.int IntKind.i64 0)))=some (true,.ref (.vp 7 e 0 0)) from ?_) (.c (show loadD Tryz.prog [.vec (vecI fs) 0 1,.gone,.var [rowsD' (List.map EdgT.row es),.ref (.vec 0 0),rowsD' A],.var [int to],.var [.ref (.vec 6 0)],.vec [[int (-1)]] 0 1,.vec (vecI by') 0 1,.vec (vecI l) e 1,.var [.ref (.vec 7 e)]] 3 (.ref (.vp 7 e 0 0))=some (int v) from ?_) (.c (show sliceD Tryz.prog [.vec (vecI fs) 0 1,.gone,.var [rowsD' (List.map EdgT.row es),.ref (.vec 0 0),rowsD' A],.var [int to],.var [.ref (.vec 6 0)],.vec [[int (-1)]] 0 1,.vec (vecI by') 0 1,.vec (vecI l) e 1,.var [.ref (.vec 7 e)]] 34 (.ref (.vec 7 e)) (Option.map (evalD Γ0 (mkT 59 0 [(0,.ref (.ptr 2 0)),(5,.ref (.ptr 3 0)),(6,.ref (.ptr 4 0)),(7,.ref (.ptr 8 0)),(8,int v),(29,.ref (.vec 7 e)),(30,int (↑(List.length l):Int)),(31,bool (Dd ((↑(List.length l):Int)>0))),(32,.ref (.vec 7 e)),(33,.ref (.vp 7 e 0 0)),(34,int v),(35,.ref (.vec 7 e))])) (some (Operand.const (Value.int IntKind.i64 1)))) none none=some (true,.ref (.vs 7 e 1 (List.length l - 1) false)) from ?_) (.c hl0 .n))))))) (by rfl) (by rfl)<;>(first|assumption|rfl|exact vg_len rfl|exact vg_ia rfl hn0|exact vg_load rfl hv|exact vg_sl rfl hn0)
theorem sh_vgx{es:List EdgT}{A:List (List Dp)}{fs by' by2 l l2:List Int}{v to:Int}{e e2:Nat}{Q2:D}(hn:Dd ((l.length:Int)>0)=true)(hn0:0<l.length)(hv:l[0]? = some v)
  (hcw:CW Tryz.prog Γ0 (sH es A fs to by' l e (.ref (.vec 7 e))) false (sub Tryz.f69 1) {t:=usT v,h:=ubH0 es A fs v to by' l e (.ref (.vs 7 e 1 (l.length - 1) false)),m:=[]} (.exit 0) {t:=usT v,h:=ubH es A fs v to by2 l2 e2 Q2 .exhausted (some (.exit 0)),m:=[11]}):(CW Tryz.prog Γ0 (sH es A fs to by' l e (.ref (.vec 7 e))) false (sub Tryz.f69 0) (sS es A fs to by' l e (.ref (.vec 7 e))) (.exit 0) {t:=sT,h:=ubH es A fs v to by2 l2 e2 Q2 .exhausted (some (.exit 0)),m:=[11]}):=by
 have hl0:=(@hcw)
 refine CW.cast (CW.symX (s':={t:=mkT 59 0 [(0,.ref (.ptr 2 0)),(5,.ref (.ptr 3 0)),(6,.ref (.ptr 4 0)),(7,.ref (.ptr 8 0))],h:=[.vec (vecI fs) 0 1,.gone,.var [rowsD' (List.map EdgT.row es),.ref (.vec 0 0),rowsD' A],.var [int to],.var [.ref (.vec 6 0)],.vec [[int (-1)]] 0 1,.vec (vecI by2) 0 1,.vec (vecI l2) e2 1,.var [Q2],.var [.ref (.ptr 2 0)],.var [int v],.defd,.loop LoopState.exhausted (some (Code.exit 0)) 0 (mkT 59 0 [(0,.ref (.ptr 2 0)),(5,.ref (.ptr 3 0)),(6,.ref (.ptr 4 0)),(7,.ref (.ptr 8 0)),(8,int v),(39,D.fn (Fn.func 136) [] [.ref (.ptr 9 0),.ref (.ptr 10 0)])]) {toList:=[40,41]} (rfAsg (sub Tryz.f69 1)) (rfBody (sub Tryz.f69 1))],m:=[11]}) (e:=Exit.exit 0) pok [.st (.mask [0,5,6,7])] [.ov 30 (int (↑(List.length l):Int)),.b true,.ov 33 (.ref (.vp 7 e 0 0)),.ov 34 (int v),.ov 36 (.ref (.vs 7 e 1 (List.length l - 1) false)),.inl,.sum [0,5,6,7,8,39] (Exit.exit 0) {t:=mkT 59 0 [(0,.ref (.ptr 2 0)),(5,.ref (.ptr 3 0)),(6,.ref (.ptr 4 0)),(7,.ref (.ptr 8 0)),(8,int v),(39,D.fn (Fn.func 136) [] [.ref (.ptr 9 0),.ref (.ptr 10 0)])],h:=[.vec (vecI fs) 0 1,.gone,.var [rowsD' (List.map EdgT.row es),.ref (.vec 0 0),rowsD' A],.var [int to],.var [.ref (.vec 6 0)],.vec [[int (-1)]] 0 1,.vec (vecI by2) 0 1,.vec (vecI l2) e2 1,.var [Q2],.var [.ref (.ptr 2 0)],.var [int v],.defd,.loop LoopState.exhausted (some (Code.exit 0)) 0 (mkT 59 0 [(0,.ref (.ptr 2 0)),(5,.ref (.ptr 3 0)),(6,.ref (.ptr 4 0)),(7,.ref (.ptr 8 0)),(8,int v),(39,D.fn (Fn.func 136) [] [.ref (.ptr 9 0),.ref (.ptr 10 0)])]) {toList:=[40,41]} (rfAsg (sub Tryz.f69 1)) (rfBody (sub Tryz.f69 1))],m:=[11]}] (by kernel_rfl) (.c (show builtinD Tryz.prog [.vec (vecI fs) 0 1,.gone,.var [rowsD' (List.map EdgT.row es),.ref (.vec 0 0),rowsD' A],.var [int to],.var [.ref (.vec 6 0)],.vec [[int (-1)]] 0 1,.vec (vecI by') 0 1,.vec (vecI l) e 1,.var [.ref (.vec 7 e)]] Builtin.len [34] (List.map (evalD Γ0 (mkT 59 0 [(0,.ref (.ptr 2 0)),(5,.ref (.ptr 3 0)),(6,.ref (.ptr 4 0)),(7,.ref (.ptr 8 0)),(29,.ref (.vec 7 e))])) [Operand.tmp 29])=some (true,int (↑(List.length l):Int),[.vec (vecI fs) 0 1,.gone,.var [rowsD' (List.map EdgT.row es),.ref (.vec 0 0),rowsD' A],.var [int to],.var [.ref (.vec 6 0)],.vec [[int (-1)]] 0 1,.vec (vecI by') 0 1,.vec (vecI l) e 1,.var [.ref (.vec 7 e)]]) from ?_) (.c hn (.c (show indexAddrD Tryz.prog [.vec (vecI fs) 0 1,.gone,.var [rowsD' (List.map EdgT.row es),.ref (.vec 0 0),rowsD' A],.var [int to],.var [.ref (.vec 6 0)],.vec [[int (-1)]] 0 1,.vec (vecI by') 0 1,.vec (vecI l) e 1,.var [.ref (.vec 7 e)]] 34 (.ref (.vec 7 e)) (evalD Γ0 (mkT 59 0 [(0,.ref (.ptr 2 0)),(5,.ref (.ptr 3 0)),(6,.ref (.ptr 4 0)),(7,.ref (.ptr 8 0)),(29,.ref (.vec 7 e)),(30,int (↑(List.length l):Int)),(31,bool (Dd ((↑(List.length l):Int)>0))),(32,.ref (.vec 7 e))]) (Operand.const (Value.int IntKind.i64 0)))=some (true,.ref (.vp 7 e 0 0)) from ?_) (.c (show loadD Tryz.prog [.vec (vecI fs) 0 1,.gone,.var [rowsD' (List.map EdgT.row es),.ref (.vec 0 0),rowsD' A],.var [int to],.var [.ref (.vec 6 0)],.vec [[int (-1)]] 0 1,.vec (vecI by') 0 1,.vec (vecI l) e 1,.var [.ref (.vec 7 e)]] 3 (.ref (.vp 7 e 0 0))=some (int v) from ?_) (.c (show sliceD Tryz.prog [.vec (vecI fs) 0 1,.gone,.var [rowsD' (List.map EdgT.row es),.ref (.vec 0 0),rowsD' A],.var [int to],.var [.ref (.vec 6 0)],.vec [[int (-1)]] 0 1,.vec (vecI by') 0 1,.vec (vecI l) e 1,.var [.ref (.vec 7 e)]] 34 (.ref (.vec 7 e)) (Option.map (evalD Γ0 (mkT 59 0 [(0,.ref (.ptr 2 0)),(5,.ref (.ptr 3 0)),(6,.ref (.ptr 4 0)),(7,.ref (.ptr 8 0)),(8,int v),(29,.ref (.vec 7 e)),(30,int (↑(List.length l):Int)),(31,bool (Dd ((↑(List.length l):Int)>0))),(32,.ref (.vec 7 e)),(33,.ref (.vp 7 e 0 0)),(34,int v),(35,.ref (.vec 7 e))])) (some (Operand.const (Value.int IntKind.i64 1)))) none none=some (true,.ref (.vs 7 e 1 (List.length l - 1) false)) from ?_) (.c hl0 .n))))))) (by rfl) (by rfl)<;>(first|assumption|rfl|exact vg_len rfl|exact vg_ia rfl hn0|exact vg_load rfl hv|exact vg_sl rfl hn0)
def cS:Code→Code
 | .scope c=>c
 | c=>c
theorem vecI_rep(n:Nat):List.replicate n [int (-1)]=vecI (List.replicate n (-1)):=by simp[vecI]
theorem rept_ev{n:Nat}(h1:2≤n)(hn:n≤18):Ev Tryz.prog Γ0 105 [.ref (.vec 0 0),int (n:Int)] [.vec [[int (-1)]] 0 1] (.ref (.vec 1 0)) [.vec [[int (-1)]] 0 1,.vec (vecI (List.replicate n (-1))) 0 1]:=by
 rw[←vecI_rep];exact rep_a h1 hn
abbrev qT(frm:Int):List D:=mkT 59 0 [(0,.ref (.ptr 2 0)),(1,int frm),(5,.ref (.ptr 3 0)),(6,.ref (.ptr 4 0))]
theorem sr_0{es:List EdgT}{A:List (List Dp)}{fs:List Int}{frm to:Int}:(CW Tryz.prog Γ0 (fwH es A fs) false (cL (bodyC Tryz.f69)) {t:=entryT Tryz.f69 [.ref (.ptr 2 0),int frm,int to],h:=fwH es A fs,m:=[]} .normal
  {t:=qT frm,h:=fwH es A fs++[.var [int to],.var [nq]],m:=[]}):=by
 exact CW.cast (CW.symX (s':={t:=mkT 59 0 [(0,.ref (.ptr 2 0)),(1,int frm),(5,.ref (.ptr 3 0)),(6,.ref (.ptr 4 0))],h:=[.vec (vecI fs) 0 1,.gone,.var [rowsD' (List.map EdgT.row es),.ref (.vec 0 0),rowsD' A],.var [int to],.var [nq]],m:=[]}) (e:=Exit.normal) pok [.st (.mask [0,1,5,6])] [] (by kernel_rfl) .n) (by rfl) (by rfl)
theorem sr_1{es:List EdgT}{A:List (List Dp)}{fs:List Int}{frm to:Int}(h1:2≤A.length)(hn:A.length≤18):(CW Tryz.prog Γ0 (fwH es A fs++[.var [int to],.var [nq]]) false (cL (cS (cR (bodyC Tryz.f69)))) {t:=qT frm,h:=fwH es A fs++[.var [int to],.var [nq]],m:=[]} .normal
  {t:=qT frm,h:=fwH es A fs++[.var [int to],.var [.ref (.vec 6 0)],.vec [[int (-1)]] 0 1,.vec (vecI (List.replicate A.length (-1))) 0 1],m:=[]}):=by
 refine CW.cast (CW.symX (s':={t:=mkT 59 0 [(0,.ref (.ptr 2 0)),(1,int frm),(5,.ref (.ptr 3 0)),(6,.ref (.ptr 4 0))],h:=[.vec (vecI fs) 0 1,.gone,.var [rowsD' (List.map EdgT.row es),.ref (.vec 0 0),rowsD' A],.var [int to],.var [.ref (.vec 6 0)],.vec [[int (-1)]] 0 1,.vec (vecI (List.replicate (List.length A) (-1))) 0 1],m:=[]}) (e:=Exit.normal) pok [.st (.mask [0,1,5,6])] [.call (.ref (.vec 6 0)) [.vec (vecI fs) 0 1,.gone,.var [rowsD' (List.map EdgT.row es),.ref (.vec 0 0),rowsD' A],.var [int to],.var [nq],.vec [[int (-1)]] 0 1,.vec (vecI (List.replicate (List.length A) (-1))) 0 1]] (by kernel_rfl) (.c (show Ev Tryz.prog Γ0 105 [.ref (.vec 5 0),int (↑(List.length A):Int)] [.vec (vecI fs) 0 1,.gone,.var [rowsD' (List.map EdgT.row es),.ref (.vec 0 0),rowsD' A],.var [int to],.var [nq],.vec [[int (-1)]] 0 1] (.ref (.vec 6 0)) [.vec (vecI fs) 0 1,.gone,.var [rowsD' (List.map EdgT.row es),.ref (.vec 0 0),rowsD' A],.var [int to],.var [nq],.vec [[int (-1)]] 0 1,.vec (vecI (List.replicate (List.length A) (-1))) 0 1] from(Ev.castH (Ev.frameX (args:=[.ref (.vec 5 0),int (↑(List.length A):Int)]) (H:=[.vec (vecI fs) 0 1,.gone,.var [rowsD' (List.map EdgT.row es),.ref (.vec 0 0),rowsD' A],.var [int to],.var [nq],.vec [[int (-1)]] 0 1]) [5] (@rept_ev (List.length A) (h1) (hn)) (by kernel_rfl) (by kernel_rfl) (by kernel_rfl) ⟨?_,trivial⟩ ⟨?_,?_,trivial⟩) (by kernel_rfl) (by kernel_rfl))) .n)) (by rfl) (by rfl)<;>(first|rfl|exact mapRL_rows _ _|first|assumption|rfl|exact vecI_map _ _|exact vecI_inn _ _)
theorem sr_2{es:List EdgT}{A:List (List Dp)}{fs by':List Int}{frm to x:Int}(h0:0≤frm)(hx:by'[frm.toNat]? = some x):(CW Tryz.prog Γ0 (fwH es A fs++[.var [int to],.var [.ref (.vec 6 0)],.vec [[int (-1)]] 0 1,.vec (vecI by') 0 1]) false (cL (cR (cS (cR (bodyC Tryz.f69))))) {t:=qT frm,h:=fwH es A fs++[.var [int to],.var [.ref (.vec 6 0)],.vec [[int (-1)]] 0 1,.vec (vecI by') 0 1],m:=[]} .normal
  {t:=qT frm,h:=fwH es A fs++[.var [int to],.var [.ref (.vec 6 0)],.vec [[int (-1)]] 0 1,.vec (vecI (by'.set frm.toNat (IntKind.i64.wrap (((es.map EdgT.row).length:Int)*2)))) 0 1],m:=[]}):=by
 refine CW.cast (CW.symX (s':={t:=mkT 59 0 [(0,.ref (.ptr 2 0)),(1,int frm),(5,.ref (.ptr 3 0)),(6,.ref (.ptr 4 0))],h:=[.vec (vecI fs) 0 1,.gone,.var [rowsD' (List.map EdgT.row es),.ref (.vec 0 0),rowsD' A],.var [int to],.var [.ref (.vec 6 0)],.vec [[int (-1)]] 0 1,.vec (vecI (List.set by' (Int.toNat frm) (IntKind.wrap IntKind.i64 ((↑(List.length (List.map EdgT.row es)):Int)*2)))) 0 1],m:=[]}) (e:=Exit.normal) pok [.st (.mask [0,1,5,6])] [.oh 10026 D.any (fwH es A fs++[.var [int to],.var [.ref (.vec 6 0)],.vec [[int (-1)]] 0 1,.vec (vecI (List.set by' (Int.toNat frm) (IntKind.wrap IntKind.i64 ((↑(List.length (List.map EdgT.row es)):Int)*2)))) 0 1])] (by kernel_rfl) (.c (show inR frm (List.length (vecI by'))=true from ?_) (.c (show storeD Tryz.prog [.vec (vecI fs) 0 1,.gone,.var [rowsD' (List.map EdgT.row es),.ref (.vec 0 0),rowsD' A],.var [int to],.var [.ref (.vec 6 0)],.vec [[int (-1)]] 0 1,.vec (vecI by') 0 1] 3 (.ref (.vp 6 0 (Int.toNat frm) 0)) (int (IntKind.wrap IntKind.i64 ((↑(List.length (List.map EdgT.row es)):Int)*2)))=some [.vec (vecI fs) 0 1,.gone,.var [rowsD' (List.map EdgT.row es),.ref (.vec 0 0),rowsD' A],.var [int to],.var [.ref (.vec 6 0)],.vec [[int (-1)]] 0 1,.vec (vecI (List.set by' (Int.toNat frm) (IntKind.wrap IntKind.i64 ((↑(List.length (List.map EdgT.row es)):Int)*2)))) 0 1] from ?_) (.e (.ref (.vec 6 0)) (.e (.ref (.ptr 2 0)) (.e (.ref (.ptr 2 0)) (.e (rowsD' (List.map EdgT.row es)) (.c (show inR frm (List.length (vecI by'))=true from ?_) (.e (.ref (.vp 6 0 (Int.toNat frm) 0)) .n))))))))) (by rfl) (by rfl)<;>(first|assumption|rfl|exact vg_in h0 hx|exact vg_store rfl (vg_lt hx)|exact vecI_map _ _|exact vecI_inn _ _)
theorem sr_3{es:List EdgT}{A:List (List Dp)}{fs by':List Int}{frm to:Int}:(CW Tryz.prog Γ0 (fwH es A fs++[.var [int to],.var [.ref (.vec 6 0)],.vec [[int (-1)]] 0 1,.vec (vecI by') 0 1]) false (cL (cR (cR (cS (cR (bodyC Tryz.f69)))))) {t:=qT frm,h:=fwH es A fs++[.var [int to],.var [.ref (.vec 6 0)],.vec [[int (-1)]] 0 1,.vec (vecI by') 0 1],m:=[]} .normal
  (sS es A fs to by' [frm] 0 (.ref (.vec 7 0)))):=by
 exact CW.cast (CW.symX (s':={t:=mkT 59 0 [(0,.ref (.ptr 2 0)),(5,.ref (.ptr 3 0)),(6,.ref (.ptr 4 0)),(7,.ref (.ptr 8 0))],h:=[.vec (vecI fs) 0 1,.gone,.var [rowsD' (List.map EdgT.row es),.ref (.vec 0 0),rowsD' A],.var [int to],.var [.ref (.vec 6 0)],.vec [[int (-1)]] 0 1,.vec (vecI by') 0 1,.vec [[int frm]] 0 1,.var [.ref (.vec 7 0)]],m:=[]}) (e:=Exit.normal) pok [.st (.mask [0,5,6,7])] [] (by kernel_rfl) .n) (by rfl) (by rfl)
theorem sr_4{es:List EdgT}{A:List (List Dp)}{fs by' l:List Int}{to:Int}{e:Nat}{Q:D}:(CW Tryz.prog Γ0 (sH es A fs to by' l e Q) false (cR (cR (cR (cR (cR (cS (cR (bodyC Tryz.f69)))))))) (sS es A fs to by' l e Q) .ret (sS es A fs to by' l e Q)):=by
 exact CW.cast (CW.symX (s':={t:=mkT 59 0 [(0,.ref (.ptr 2 0)),(5,.ref (.ptr 3 0)),(6,.ref (.ptr 4 0)),(7,.ref (.ptr 8 0))],h:=[.vec (vecI fs) 0 1,.gone,.var [rowsD' (List.map EdgT.row es),.ref (.vec 0 0),rowsD' A],.var [int to],.var [.ref (.vec 6 0)],.vec [[int (-1)]] 0 1,.vec (vecI by') 0 1,.vec (vecI l) e 1,.var [Q]],m:=[]}) (e:=Exit.ret) pok [.st (.mask [0,5,6,7])] [] (by kernel_rfl) .n) (by rfl) (by rfl)
def QF.pop(q:QF):QF:=match q.vs with
 | true=>⟨true,q.e,q.i+1,q.l⟩
 | false=>⟨true,q.e,1,q.l⟩
theorem QF.pop_list{q:QF}{v:Int}{rest:List Int}(h:q.list=v::rest):q.pop.list=rest:=by
 obtain⟨vs,e,i,l⟩:=q
 cases vs with
 | true =>
  simp only[QF.list,QF.pop] at h ⊢
  rw[←List.drop_drop,h]
  rfl
 | false =>
  simp only[QF.list,QF.pop] at h ⊢
  rw[h]
  rfl
inductive Bfs (adj:List (List Int)) (es:List EdgT) (fs:List Int) (to:Int):Nat→List Int×QF→List Int×QF→Prop
 | done {s}:s.2.list=[]→Bfs adj es fs to 0 s s
 | stop {s v rest f}:s.2.list=v::rest→forL (usG es fs to) (adj.getD v.toNat []) (s.1,s.2.pop)=.inr f→Bfs adj es fs to 0 s f
 | step {s v rest s' f k}:s.2.list=v::rest→forL (usG es fs to) (adj.getD v.toNat []) (s.1,s.2.pop)=.inl s'→Bfs adj es fs to k s' f→Bfs adj es fs to (k+1) s f
def unm(l:List Int):Nat:=l.countP fun x=>Dd (x<0)
structure SOk (n:Nat) (s:List Int×QF):Prop where
 len:s.1.length=n
 i:s.2.vs=true→s.2.i≤s.2.l.length
 ne:s.2.vs=false→s.2.l ≠ []
 mem:∀v∈s.2.list,0≤v∧v.toNat<n
 sz:s.2.l.length+unm s.1≤n+1
theorem unm_set{l:List Int}{i:Nat}{r:Int}(hi:i<l.length)(hx:l.getD i 0<0)(hr:0≤r):unm (l.set i r)+1=unm l:=by
 have hg:l.getD i 0=l[i]:=by simp[List.getD,hi]
 rw[hg] at hx
 unfold unm
 rw[List.countP_set hi]
 have h1:Dd (l[i]<0)=true:=by simpa using hx
 have h2:Dd (r<0)=false:=by simpa using hr
 have h3:0<l.countP fun x=>Dd (x<0):=List.countP_pos_iff.2 ⟨l[i],List.getElem_mem hi,h1⟩
 simp only[h1,h2,if_true]
 simp only[Bool.false_eq_true,if_false]
 omega
theorem SOk.pop{n:Nat}{s:List Int×QF}(h:SOk n s){v:Int}{rest:List Int}(hv:s.2.list=v::rest):SOk n (s.1,s.2.pop):=by
 have hp:=QF.pop_list hv
 refine⟨h.len,?_,?_,?_,?_⟩
 ·intro _
  obtain⟨by',vs,e,i,l⟩:=s
  cases vs with
  | true =>
   have:=congrArg List.length hv
   simp only[QF.list,List.length_drop,List.length_cons] at this
   simp only[QF.pop];omega
  | false =>
   have:=congrArg List.length hv
   simp only[QF.list,List.length_cons] at this
   simp only[QF.pop];omega
 ·intro hf
  obtain⟨by',vs,e,i,l⟩:=s
  cases vs<;>simp[QF.pop] at hf
 ·intro u hu
  simp only[hp] at hu
  exact h.mem u (by rw[hv];exact List.mem_cons_of_mem _ hu)
 ·have:s.2.pop.l=s.2.l:=by
   obtain⟨by',vs,e,i,l⟩:=s
   cases vs<;>rfl
  simp only[this];exact h.sz
theorem SOk.usY{n:Nat}{to r u:Int}{s s':List Int×QF}(h:SOk n s)(hr:0≤r)(h0:0≤u)(hu:u.toNat<n)(hy:usY to r u s=.inl s'):SOk n s':=by
 unfold Vi.usY at hy
 split at hy
 ·cases hy;exact h
 ·rename_i hg
  split at hy
  ·cases hy
  ·cases hy
   have hx:s.1.getD u.toNat 0<0:=by simpa using hg
   have h1:=unm_set (by rw[h.len];exact hu) hx hr
   have h2:s.2.list.length≤s.2.l.length:=by
    obtain⟨by',vs,e,i,l⟩:=s
    cases vs<;>simp[QF.list]
   refine⟨by simpa using h.len,by simp[QF.push],by simp[QF.push],?_,?_⟩
   ·intro v hv
    simp only[QF.push,QF.list,List.mem_append,List.mem_singleton] at hv
    rcases hv with hv|rfl
    ·exact h.mem v hv
    ·exact⟨h0,hu⟩
   ·have h3:=h.sz
    simp only[QF.push,List.length_append,List.length_singleton]
    omega
theorem SOk.forL{es:List EdgT}{fs:List Int}{to:Int}{n:Nat}(hm:es.length≤1000)(hin:∀x∈es,EdgIn n x):∀(B:List Int) (s s':List Int×QF),(∀r∈B,ResOk es.length r)→SOk n s→forL (usG es fs to) B s=.inl s'→SOk n s'
 | [],s,s',_,h,hf=>by cases hf;exact h
 | r::B,s,s',hB,h,hf=>by
  simp only[Vi.forL] at hf
  have hr:=hB r (by simp)
  have he:=endA_in hr (by omega) hin
  split at hf
  ·rename_i s1 h1
   refine SOk.forL hm hin B s1 s' (fun x hx=>hB x (by simp[hx])) ?_ hf
   unfold usG at h1
   split at h1
   ·exact h.usY hr.1 he.1 he.2 h1
   ·cases h1;exact h
  ·cases hf
section
variable {es:List EdgT} {adj:List (List Int)} {fs:List Int} {to:Int} {n:Nat}
theorem sq_clean{A:List (List Dp)}{v:Int}{s:List Int×QF}{pd:Option Code}{X:Ctx}(hX:X.h=fwH es A fs){a:Act}{w:World}(hm:MB Γ0 X {t:=sT,h:=ubS es A fs v to s .exhausted pd,m:=[11]} a w):MB Γ0 X (sS es A fs to s.1 s.2.l s.2.e s.2.d) a w:=by
 have h1:=MB.drop (b:=11) rfl hm
 obtain⟨by',vs,e,i,l⟩:=s
 cases vs with
 | true=>exact MB.sop (o:=.trim 9) (φ:=[(vecI fs).all (D.innL 9)=true,([[int (-1)]]:List (List D)).all (D.innL 9)=true,(vecI by').all (D.innL 9)=true,(vecI l).all (D.innL 9)=true]) (by rw[hX];rfl) ⟨vecI_inn _ _,rfl,vecI_inn _ _,vecI_inn _ _,trivial⟩ h1
 | false=>exact MB.sop (o:=.trim 9) (φ:=[(vecI fs).all (D.innL 9)=true,([[int (-1)]]:List (List D)).all (D.innL 9)=true,(vecI by').all (D.innL 9)=true,(vecI l).all (D.innL 9)=true]) (by rw[hX];rfl) ⟨vecI_inn _ _,rfl,vecI_inn _ _,vecI_inn _ _,trivial⟩ h1
theorem sq_loop(hl:fs.length=es.length)(hm:es.length≤1000)(hn:n≤1000)(hin:∀x∈es,EdgIn n x)(ha:adj.length=n)(hB:∀B∈adj,(∀r∈B,ResOk es.length r)∧B.length≤10000){X:Ctx}(hX:X.h=fwH es (adjD adj) fs)
  {k:Nat} {s f:List Int×QF} (hf:Bfs adj es fs to k s f) (hs:SOk n s) :
  MW Tryz.prog Γ0 X (.loop (sub Tryz.f69 0)) (sS es (adjD adj) fs to s.1 s.2.l s.2.e s.2.d) (Det (.exit 0) (sS es (adjD adj) fs to f.1 f.2.l f.2.e f.2.d)):=by
 refine MW.loop (ι:=Nat×(List Int×QF)) (fun p=>sS es (adjD adj) fs to p.2.1 p.2.2.l p.2.2.e p.2.2.d) (fun _=>(.exit 0,sS es (adjD adj) fs to f.1 f.2.l f.2.e f.2.d)) (fun p=>p.1) (fun p=>Bfs adj es fs to p.1 p.2 f∧SOk n p.2) ?_ (k,s) ⟨hf,hs⟩
 rintro⟨k,s⟩ ⟨hf,hs⟩
 have key:∀{v:Int} {rest:List Int},s.2.list=v::rest→RowAt v (adjD adj) [.sl (inR1 (adj.getD v.toNat []))] 1∧(∀r∈adj.getD v.toNat [],ResOk es.length r)∧(adj.getD v.toNat []).length≤10000∧(s.1,s.2.pop).2.Ok 10000:=by
  intro v rest hv
  obtain⟨v0,v1⟩:=hs.mem v (by rw[hv];simp)
  have hg:adj[v.toNat]? = some (adj.getD v.toNat []):=by simp[List.getD,ha,v1]
  obtain⟨b1,b2⟩:=hB _ (List.mem_of_getElem? hg)
  have hr:=rowAt (row:=fun B:List Int=>[Dp.sl (rowsI B)]) (sz:=1) hg rfl
  rw[Int.toNat_of_nonneg v0] at hr
  have hp:=hs.pop hv
  exact⟨hr,b1,b2,hp.i,by have:=hp.sz;simp only at this ⊢;omega⟩
 cases hf with
 | done he =>
  refine .inr ⟨by simp,?_⟩
  obtain⟨by',vs,e,i,l⟩:=s
  cases vs with
  | true =>
   have h0:l.length - i=0:=by
    have:=congrArg List.length he
    simpa[QF.list] using this
   have:=sh_end (es:=es) (A:=adjD adj) (fs:=fs) (by':=by') (l:=l) (to:=to) (e:=e) (i:=i) (n:=l.length - i) (by simp[h0])
   exact MW.run this ⟨rfl,rfl⟩
  | false=>exact absurd he (hs.ne rfl)
 | stop hv hg =>
  rename_i v rest
  obtain⟨r1,r2,r3,r4⟩:=key hv
  refine .inr ⟨by simp,?_⟩
  have hcw:=us_rfr (A:=adjD adj) (s0:=(s.1,s.2.pop)) (h0:=sH es (adjD adj) fs to s.1 s.2.l s.2.e s.2.d) hl hm hin r1 r2 r3 hs.len r4 hg
  refine MW.then (e:=.exit 0) (s1:={t:=sT,h:=ubS es (adjD adj) fs v to f .exhausted (some (.exit 0)),m:=[11]}) ?_ (fun a w hmb=>sq_clean hX hmb) ⟨rfl,rfl⟩
  obtain⟨by',vs,e,i,l⟩:=s
  cases vs with
  | true =>
   simp only[QF.list] at hv
   have hlen:=congrArg List.length hv
   simp only[List.length_drop,List.length_cons] at hlen
   have hi:i≤l.length:=hs.i rfl
   have hv0:l[i]? = some v:=by
    have:=congrArg (fun x=>x[0]?) hv
    simpa using this
   exact MW.run (sh_vsx (i:=i) (l:=l) (n:=l.length - i) (by simp;omega) (by omega) (Nat.add_sub_cancel' hi) hv0 hcw) ⟨rfl,rfl⟩
  | false =>
   simp only[QF.list] at hv
   have hv0:l[0]? = some v:=by rw[hv];rfl
   have hlen:0<l.length:=by rw[hv];simp
   exact MW.run (sh_vgx (by simpa using hlen) hlen hv0 hcw) ⟨rfl,rfl⟩
 | step hv hg hk =>
  rename_i v rest s' k'
  obtain⟨r1,r2,r3,r4⟩:=key hv
  refine .inl ⟨(k',s'),⟨hk,SOk.forL hm hin _ _ _ r2 (hs.pop hv) hg⟩,by simp,rfl,?_⟩
  have hcw:=us_rfl (A:=adjD adj) (s0:=(s.1,s.2.pop)) (h0:=sH es (adjD adj) fs to s.1 s.2.l s.2.e s.2.d) hl hm hin r1 r2 r3 hs.len r4 hg
  refine MW.then (e:=.normal) (s1:={t:=sT,h:=ubS es (adjD adj) fs v to s' .exhausted none,m:=[11]}) ?_ (fun a w hmb=>sq_clean hX hmb) ⟨rfl,rfl⟩
  obtain⟨by',vs,e,i,l⟩:=s
  cases vs with
  | true =>
   simp only[QF.list] at hv
   have hlen:=congrArg List.length hv
   simp only[List.length_drop,List.length_cons] at hlen
   have hi:i≤l.length:=hs.i rfl
   have hv0:l[i]? = some v:=by
    have:=congrArg (fun x=>x[0]?) hv
    simpa using this
   exact MW.run (sh_vs (i:=i) (l:=l) (n:=l.length - i) (by simp;omega) (by omega) (Nat.add_sub_cancel' hi) hv0 hcw) ⟨rfl,rfl⟩
  | false =>
   simp only[QF.list] at hv
   have hv0:l[0]? = some v:=by rw[hv];rfl
   have hlen:0<l.length:=by rw[hv];simp
   exact MW.run (sh_vg (by simpa using hlen) hlen hv0 hcw) ⟨rfl,rfl⟩
end
theorem MW.label{P:Program}{Γ:Glob}{X:Ctx}{k:Nat}{s:AS}{Q:Exit→AS→Prop}(h:Q .normal s):MW P Γ X (.label k) s Q:=fun _ _ hs=>wpIn_label ⟨by simp,s,h,hs⟩
noncomputable abbrev cQ:Code:=cS (cR (bodyC Tryz.f69))
theorem f69_code:bodyC Tryz.f69=.seq (cL (bodyC Tryz.f69)) (.scope (.seq (cL cQ) (.seq (cL (cR cQ)) (.seq (cL (cR (cR cQ))) (.seq (.label 0) (.seq (.block 0 (.loop (sub Tryz.f69 0))) (cR (cR (cR (cR (cR cQ))))))))))):=by kernel_rfl
def by0(n m:Nat)(frm:Int):List Int:=(List.replicate n (-1)).set frm.toNat (IntKind.i64.wrap ((m:Int)*2))
theorem search_a{es:List EdgT}{adj:List (List Int)}{fs:List Int}{frm to:Int}{n:Nat}(hl:fs.length=es.length)(hm:es.length≤1000)(h2:2≤n)(hn:n≤18)(hin:∀x∈es,EdgIn n x)(ha:adj.length=n)(hB:∀B∈adj,(∀r∈B,ResOk es.length r)∧B.length≤10000)
  (hfr:0≤frm∧frm.toNat<n) {k:Nat} {f:List Int×QF} (hf:Bfs adj es fs to k (by0 n es.length frm,⟨false,0,0,[frm]⟩) f) :
  Ev Tryz.prog Γ0 69 [.ref (.ptr 2 0),int frm,int to] (fwH es (adjD adj) fs) (.ref (.vec 6 0)) (fwH es (adjD adj) fs++[.var [int to],.var [.ref (.vec 6 0)],.vec [[int (-1)]] 0 1,.vec (vecI f.1) 0 1]):=by
 have hA:(adjD adj).length=n:=by simpa using ha
 have hrep:(List.replicate (adjD adj).length (-1:Int))[frm.toNat]? = some (-1):=by
  rw[List.getElem?_replicate,if_pos (by rw[hA];exact hfr.2)]
 have hby:(List.replicate (adjD adj).length (-1:Int)).set frm.toNat (IntKind.i64.wrap (((es.map EdgT.row).length:Int)*2))=by0 n es.length frm:=by
  unfold by0;rw[hA,List.length_map]
 have hs0:SOk n (by0 n es.length frm,⟨false,0,0,[frm]⟩):=by
  refine⟨by simp[by0],by simp,by simp,?_,?_⟩
  ·intro v hv
   simp only[QF.list,List.mem_singleton] at hv
   subst hv;exact hfr
  ·have h1:unm (by0 n es.length frm)≤n:=by
    have:=List.countP_le_length (p:=fun x:Int=>Dd (x<0)) (l:=by0 n es.length frm)
    unfold unm
    simpa[by0] using this
   simp only[List.length_singleton];omega
 refine Ev.of_mb (fn:=Tryz.f69) (c:=bodyC Tryz.f69) (e:=.ret) (s:={t:=mkT 59 0 [(6,.ref (.ptr 4 0))],h:=fwH es (adjD adj) fs++[.var [int to],.var [.ref (.vec 6 0)],.vec [[int (-1)]] 0 1,.vec (vecI f.1) 0 1],m:=[]}) rfl rfl ?_
  ⟨.inr rfl,rfl,List.nodup_nil,[.ref (.vec 6 0)],rfl,rfl,rfl⟩
 intro X hX
 rw[f69_code]
 refine MW.seq (MW.run sr_0 ?_)
 show MW _ _ _ _ _ _
 refine MW.scope (MW.seq (MW.run (sr_1 (by omega) (by omega)) ?_))
 show MW _ _ _ _ _ _
 refine MW.seq (MW.run (sr_2 hfr.1 hrep) ?_)
 show MW _ _ _ _ _ _
 rw[hby]
 refine MW.seq (MW.run sr_3 ?_)
 show MW _ _ _ _ _ _
 refine MW.seq (MW.label ?_)
 show MW _ _ _ _ _ _
 refine MW.seq (MW.block (MW.mono (sq_loop hl hm (by omega) hin ha hB hX hf hs0) ?_))
 rintro e s ⟨rfl,rfl⟩
 show MW _ _ _ _ _ _
 refine MW.then (MW.run sr_4 ⟨rfl,rfl⟩) (fun a w hmb=>?_) ⟨by simp,rfl,rfl⟩
 have h3:=MB.sop (o:=.mask [6]) (φ:=[]) rfl trivial hmb
 exact MB.sop (o:=.trim 7) (φ:=[(vecI fs).all (D.innL 7)=true,([[int (-1)]]:List (List D)).all (D.innL 7)=true,(vecI f.1).all (D.innL 7)=true]) (by rw[hX];rfl) ⟨vecI_inn _ _,rfl,vecI_inn _ _,trivial⟩ h3
end Go.Vi
