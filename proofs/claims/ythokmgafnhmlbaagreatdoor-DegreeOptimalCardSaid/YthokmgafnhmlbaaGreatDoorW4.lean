/- DegreeOptimal: part of the proof: contracts of the functions that the law reaches, and the law. No conditions beyond the given statement's own. -/
import Derived.Test.YthokmgafnhmlbaaGreatDoorW3
open Decidable renaming decide → Dd
open Go Go.Proofs
namespace Go.Vi
set_option maxRecDepth 100000
set_option maxHeartbeats 4000000
def mnI(a b:Int):Int:=if b<a then b else a
abbrev mH(es:List EdgT)(A:List (List Dp))(fs:List Int)(frm to:Int)(by':List Int)(least:Int):List Blk :=
 [.var [int frm],.var [int to],.vec (vecI fs) 0 1,.gone,.var [rowsD' (es.map EdgT.row),.ref (.vec 2 0),rowsD' A],.var [.ref (.ptr 4 0)],.var [int to],.var [.ref (.vec 9 0)],.vec [[int (-1)]] 0 1,.vec (vecI by') 0 1,.var [.ref (.vec 9 0)],.var [int least]]
noncomputable abbrev least_ev_x0(es:List EdgT)(A:List (List Dp))(fs:List Int)(by':List Int)(frm:Int)(to:Int)(least:Int):List Blk:=[.var [int frm],.var [int to],.vec (vecI fs) 0 1,.gone,.var [rowsD' (List.map EdgT.row es),.ref (.vec 2 0),rowsD' A],.var [.ref (.ptr 4 0)],.var [int to],.var [.ref (.vec 9 0)],.vec [[int (-1)]] 0 1,.vec (vecI by') 0 1,.var [.ref (.vec 9 0)],.var [int least]]
theorem least_ev{es:List EdgT}{A:List (List Dp)}{fs by':List Int}{frm to least r f:Int}{x:EdgT}{q:Nat}(hq:IntKind.i64.wrap (Int.tdiv r 2)=(q:Int))(hx:RowAt (IntKind.i64.wrap (Int.tdiv r 2)) (es.map EdgT.row) x.row 3)(hf:fs[Int.toNat (IntKind.i64.wrap (Int.tdiv r 2))]? = some f)(hl:q<fs.length):(Ev Tryz.prog Γ0 72 [int r,.ref (.ptr 11 0),.ref (.ptr 5 0)] (mH es A fs frm to by' least) (.tup []) (mH es A fs frm to by' (mnI least (capE r x f)))):=by
 refine Ev.castH (Ev.of_sym (h':=[.var [int frm],.var [int to],.vec (vecI fs) 0 1,.gone,.var [rowsD' (List.map EdgT.row es),.ref (.vec 2 0),rowsD' A],.var [.ref (.ptr 4 0)],.var [int to],.var [.ref (.vec 9 0)],.vec [[int (-1)]] 0 1,.vec (vecI by') 0 1,.var [.ref (.vec 9 0)],.var [int (if false=true then if capE r x f>least then capE r x f else least else if capE r x f<least then capE r x f else least)]]) (d:=D.tup []) pok [.val (int (capE r x f))] (by kernel_rfl) (.c (show Ev Tryz.prog Γ0 73 [.ref (.ptr 4 0),int r] (least_ev_x0 es A fs by' frm to least) (int (capE r x f)) (least_ev_x0 es A fs by' frm to least) from(Ev.castH (Ev.frameX (args:=[.ref (.ptr 4 0),int r]) (H:=(least_ev_x0 es A fs by' frm to least)) [2,3,4] (@cap_ev (es) (A) (fs) (r) (f) (x) (q) (hq) (hx) (hf) (hl)) (by kernel_rfl) (by kernel_rfl) (by kernel_rfl) ⟨?_,trivial⟩ ⟨?_,trivial⟩) (by kernel_rfl) (by kernel_rfl))) (.e (int least) (.e (int least) (.e (.ref (.ptr 4 0)) .n))))) (by rfl) (by rfl)<;>(first|rfl|exact mapRL_rows _ _|first|assumption|rfl|exact vecI_map _ _|exact vecI_inn _ _)
theorem push_ev{es:List EdgT}{A:List (List Dp)}{fs:List Int}{r f d:Int}{q:Nat}(hq:IntKind.i64.wrap (Int.tdiv r 2)=(q:Int))(hf:fs[Int.toNat (IntKind.i64.wrap (Int.tdiv r 2))]? = some f)(hl:q<fs.length)(hl2:Int.toNat (IntKind.i64.wrap (Int.tdiv r 2))<fs.length):Ev Tryz.prog Γ0 75 [.ref (.ptr 2 0),int r,int d] (fwH es A fs) (.tup []) (fwH es A (fs.set (Int.toNat (IntKind.i64.wrap (Int.tdiv r 2))) (IntKind.i64.wrap (f+pushE r d)))):=push_a hq hf hl hl2
noncomputable abbrev pushes_ev_x0(es:List EdgT)(A:List (List Dp))(fs:List Int)(by':List Int)(frm:Int)(to:Int)(least:Int)(r:Int)(f:Int):List Blk:=[.var [int frm],.var [int to],.vec (vecI (List.set fs (Int.toNat (IntKind.wrap IntKind.i64 (Int.tdiv r 2))) (IntKind.wrap IntKind.i64 (f+pushE r least)))) 0 1,.gone,.var [rowsD' (List.map EdgT.row es),.ref (.vec 2 0),rowsD' A],.var [.ref (.ptr 4 0)],.var [int to],.var [.ref (.vec 9 0)],.vec [[int (-1)]] 0 1,.vec (vecI by') 0 1,.var [.ref (.vec 9 0)],.var [int least]]
noncomputable abbrev pushes_ev_x1(es:List EdgT)(A:List (List Dp))(fs:List Int)(by':List Int)(frm:Int)(to:Int)(least:Int):List Blk:=[.var [int frm],.var [int to],.vec (vecI fs) 0 1,.gone,.var [rowsD' (List.map EdgT.row es),.ref (.vec 2 0),rowsD' A],.var [.ref (.ptr 4 0)],.var [int to],.var [.ref (.vec 9 0)],.vec [[int (-1)]] 0 1,.vec (vecI by') 0 1,.var [.ref (.vec 9 0)],.var [int least]]
theorem pushes_ev{es:List EdgT}{A:List (List Dp)}{fs by':List Int}{frm to least r f:Int}{q:Nat}(hq:IntKind.i64.wrap (Int.tdiv r 2)=(q:Int))(hf:fs[Int.toNat (IntKind.i64.wrap (Int.tdiv r 2))]? = some f)(hl:q<fs.length)(hl2:Int.toNat (IntKind.i64.wrap (Int.tdiv r 2))<fs.length):(Ev Tryz.prog Γ0 74 [int r,.ref (.ptr 5 0),.ref (.ptr 11 0)] (mH es A fs frm to by' least) (.tup []) (mH es A (fs.set (Int.toNat (IntKind.i64.wrap (Int.tdiv r 2))) (IntKind.i64.wrap (f+pushE r least))) frm to by' least)):=by
 refine Ev.castH (Ev.of_sym (h':=(pushes_ev_x0 es A fs by' frm to least r f)) (d:=D.tup []) pok [.call (D.tup []) (pushes_ev_x0 es A fs by' frm to least r f)] (by kernel_rfl) (.c (show Ev Tryz.prog Γ0 75 [.ref (.ptr 4 0),int r,int least] (pushes_ev_x1 es A fs by' frm to least) (D.tup []) (pushes_ev_x0 es A fs by' frm to least r f) from(Ev.castH (Ev.frameX (args:=[.ref (.ptr 4 0),int r,int least]) (H:=(pushes_ev_x1 es A fs by' frm to least)) [2,3,4] (@push_ev (es) (A) (fs) (r) (f) (least) (q) (hq) (hf) (hl) (hl2)) (by kernel_rfl) (by kernel_rfl) (by kernel_rfl) ⟨?_,trivial⟩ ⟨?_,trivial⟩) (by kernel_rfl) (by kernel_rfl))) .n)) (by rfl) (by rfl)<;>(first|rfl|exact mapRL_rows _ _|first|assumption|rfl|exact vecI_map _ _|exact vecI_inn _ _)
def xr(r:Int):Int:=IntKind.i64.wrap (BitVec.ofInt IntKind.i64.bits r ^^^ BitVec.ofInt IntKind.i64.bits 1).toNat
abbrev aS(es:List EdgT)(A:List (List Dp))(fs:List Int)(frm to:Int)(by':List Int)(least v:Int)(d:D):AS:={t:=mkT 24 0 [(0,d),(1,.ref (.ptr 1 0)),(2,.ref (.ptr 0 0)),(3,.ref (.ptr 5 0)),(4,.ref (.ptr 10 0)),(6,int v)],h:=mH es A fs frm to by' least,m:=[]}
abbrev d72:D:=.fn (.func 72) [] [.ref (.ptr 11 0),.ref (.ptr 5 0)]
abbrev d74:D:=.fn (.func 74) [] [.ref (.ptr 5 0),.ref (.ptr 11 0)]
theorem al_last{es:List EdgT}{A:List (List Dp)}{fs gs by':List Int}{frm to l0 least v:Int}{d:D}(hv:(v != frm)=false):(CW Tryz.prog Γ0 (mH es A gs frm to by' l0) false (sub Tryz.f70 0) (aS es A fs frm to by' least v d) (.exit 0) {t:=mkT 24 0 [],h:=mH es A fs frm to by' least,m:=[]}):=by
 exact CW.cast (CW.symX (s':={t:=mkT 24 0 [],h:=[.var [int frm],.var [int to],.vec (vecI fs) 0 1,.gone,.var [rowsD' (List.map EdgT.row es),.ref (.vec 2 0),rowsD' A],.var [.ref (.ptr 4 0)],.var [int to],.var [.ref (.vec 9 0)],.vec [[int (-1)]] 0 1,.vec (vecI by') 0 1,.var [.ref (.vec 9 0)],.var [int least]],m:=[]}) (e:=Exit.exit 0) pok [.st (.mask [])] [.b false] (by kernel_rfl) (.c hv .n)) (by rfl) (by rfl)
noncomputable abbrev al_least_x0(es:List EdgT)(A:List (List Dp))(fs:List Int)(by':List Int)(frm:Int)(to:Int)(least:Int)(r:Int)(f:Int)(x:EdgT):List Blk:=[.var [int frm],.var [int to],.vec (vecI fs) 0 1,.gone,.var [rowsD' (List.map EdgT.row es),.ref (.vec 2 0),rowsD' A],.var [.ref (.ptr 4 0)],.var [int to],.var [.ref (.vec 9 0)],.vec [[int (-1)]] 0 1,.vec (vecI by') 0 1,.var [.ref (.vec 9 0)],.var [int (mnI least (capE r x f))]]
noncomputable abbrev al_least_x1(es:List EdgT)(A:List (List Dp))(fs:List Int)(by':List Int)(frm:Int)(to:Int)(least:Int):List Blk:=[.var [int frm],.var [int to],.vec (vecI fs) 0 1,.gone,.var [rowsD' (List.map EdgT.row es),.ref (.vec 2 0),rowsD' A],.var [.ref (.ptr 4 0)],.var [int to],.var [.ref (.vec 9 0)],.vec [[int (-1)]] 0 1,.vec (vecI by') 0 1,.var [.ref (.vec 9 0)],.var [int least]]
theorem al_least{es:List EdgT}{A:List (List Dp)}{fs gs by':List Int}{frm to l0 least v r f:Int}{x y:EdgT}{q:Nat}(hv:(v != frm)=true)(h0:0≤v)(hb:by'[v.toNat]? = some r)(hq:IntKind.i64.wrap (Int.tdiv r 2)=(q:Int))(hx:RowAt (IntKind.i64.wrap (Int.tdiv r 2)) (es.map EdgT.row) x.row 3)(hf:fs[Int.toNat (IntKind.i64.wrap (Int.tdiv r 2))]? = some f)(hl:q<fs.length)
  (hy:RowAt (IntKind.i64.wrap (Int.tdiv (xr r) 2)) (es.map EdgT.row) y.row 3):(CW Tryz.prog Γ0 (mH es A gs frm to by' l0) false (sub Tryz.f70 0) (aS es A fs frm to by' least v d72) .normal (aS es A fs frm to by' (mnI least (capE r x f)) (endE (xr r) y) d72)):=by
 refine CW.cast (CW.symX (s':={t:=mkT 24 0 [(0,D.fn (Fn.func 72) [] [.ref (.ptr 11 0),.ref (.ptr 5 0)]),(1,.ref (.ptr 1 0)),(2,.ref (.ptr 0 0)),(3,.ref (.ptr 5 0)),(4,.ref (.ptr 10 0)),(6,int (endE (IntKind.wrap IntKind.i64 (↑(BitVec.toNat (BitVec.ofInt 64 r ^^^ BitVec.ofInt 64 1)):Int)) y))],h:=(al_least_x0 es A fs by' frm to least r f x),m:=[]}) (e:=Exit.normal) pok [.st (.mask [0,1,2,3,4,6])] [.b true,.ov 22 (int r),.call (D.tup []) (al_least_x0 es A fs by' frm to least r f x),.ov 15 (int r),.val (int (endE (IntKind.wrap IntKind.i64 (↑(BitVec.toNat (BitVec.ofInt 64 r ^^^ BitVec.ofInt 64 1)):Int)) y))] (by kernel_rfl) (.c hv (.c (show inR v (List.length (vecI by'))=true from ?_) (.c (show loadD Tryz.prog (al_least_x1 es A fs by' frm to least) 3 (.ref (.vp 9 0 (Int.toNat v) 0))=some (int r) from ?_) (.c (@least_ev (es) (A) (fs) (by') (frm) (to) (least) (r) (f) (x) (q) (hq) (hx) (hf) (hl)) (.c (show inR v (List.length (vecI by'))=true from ?_) (.c (show loadD Tryz.prog (al_least_x0 es A fs by' frm to least r f x) 3 (evalD Γ0 [D.fn (Fn.func 72) [] [.ref (.ptr 11 0),.ref (.ptr 5 0)],.ref (.ptr 1 0),.ref (.ptr 0 0),.ref (.ptr 5 0),.ref (.ptr 10 0),D.any,int v,D.any,int v,int frm,bool (v != frm),.ref (.ptr 4 0),.ref (.vec 9 0),int v,.ref (.vp 9 0 (Int.toNat v) 0),D.any,D.any,D.any,D.fn (Fn.func 72) [] [.ref (.ptr 11 0),.ref (.ptr 5 0)],.ref (.vec 9 0),int v,.ref (.vp 9 0 (Int.toNat v) 0),int r,D.tup []] (Operand.tmp 14))=some (int r) from ?_) (.c (show Ev Tryz.prog Γ0 71 [.ref (.ptr 4 0),int (IntKind.wrap IntKind.i64 (↑(BitVec.toNat (BitVec.ofInt 64 r ^^^ BitVec.ofInt 64 1)):Int))] (al_least_x0 es A fs by' frm to least r f x) (int (endE (IntKind.wrap IntKind.i64 (↑(BitVec.toNat (BitVec.ofInt 64 r ^^^ BitVec.ofInt 64 1)):Int)) y)) (al_least_x0 es A fs by' frm to least r f x) from(Ev.castH (Ev.frameX (args:=[.ref (.ptr 4 0),int (IntKind.wrap IntKind.i64 (↑(BitVec.toNat (BitVec.ofInt 64 r ^^^ BitVec.ofInt 64 1)):Int))]) (H:=(al_least_x0 es A fs by' frm to least r f x)) [2,3,4] (@end_ev (es) (A) (fs) (IntKind.wrap IntKind.i64 (↑(BitVec.toNat (BitVec.ofInt 64 r ^^^ BitVec.ofInt 64 1)):Int)) (y) (hy)) (by kernel_rfl) (by kernel_rfl) (by kernel_rfl) ⟨(by first|rfl|exact mapRL_rows _ _|first|assumption|rfl|exact vg_in h0 hb|exact vg_load rfl hb|exact vg_vp hb|exact vecI_map _ _|exact vecI_inn _ _),trivial⟩ ⟨(by first|rfl|exact mapRL_rows _ _|first|assumption|rfl|exact vg_in h0 hb|exact vg_load rfl hb|exact vg_vp hb|exact vecI_map _ _|exact vecI_inn _ _),trivial⟩) (by kernel_rfl) (by kernel_rfl))) .n)))))))) (by rfl) (by rfl)<;>(first|assumption|rfl|exact vg_in h0 hb|exact vg_load rfl hb|exact vg_vp hb|exact vecI_map _ _|exact vecI_inn _ _)
noncomputable abbrev al_push_x0(es:List EdgT)(A:List (List Dp))(fs:List Int)(by':List Int)(frm:Int)(to:Int)(least:Int)(r:Int)(f:Int):List Blk:=[.var [int frm],.var [int to],.vec (vecI (List.set fs (Int.toNat (IntKind.wrap IntKind.i64 (Int.tdiv r 2))) (IntKind.wrap IntKind.i64 (f+pushE r least)))) 0 1,.gone,.var [rowsD' (List.map EdgT.row es),.ref (.vec 2 0),rowsD' A],.var [.ref (.ptr 4 0)],.var [int to],.var [.ref (.vec 9 0)],.vec [[int (-1)]] 0 1,.vec (vecI by') 0 1,.var [.ref (.vec 9 0)],.var [int least]]
noncomputable abbrev al_push_x1(es:List EdgT)(A:List (List Dp))(fs:List Int)(by':List Int)(frm:Int)(to:Int)(least:Int):List Blk:=[.var [int frm],.var [int to],.vec (vecI fs) 0 1,.gone,.var [rowsD' (List.map EdgT.row es),.ref (.vec 2 0),rowsD' A],.var [.ref (.ptr 4 0)],.var [int to],.var [.ref (.vec 9 0)],.vec [[int (-1)]] 0 1,.vec (vecI by') 0 1,.var [.ref (.vec 9 0)],.var [int least]]
theorem al_push{es:List EdgT}{A:List (List Dp)}{fs gs by':List Int}{frm to l0 least v r f:Int}{y:EdgT}{q:Nat}(hv:(v != frm)=true)(h0:0≤v)(hb:by'[v.toNat]? = some r)(hq:IntKind.i64.wrap (Int.tdiv r 2)=(q:Int))(hf:fs[Int.toNat (IntKind.i64.wrap (Int.tdiv r 2))]? = some f)(hl:q<fs.length)(hl2:Int.toNat (IntKind.i64.wrap (Int.tdiv r 2))<fs.length)
  (hy:RowAt (IntKind.i64.wrap (Int.tdiv (xr r) 2)) (es.map EdgT.row) y.row 3):(CW Tryz.prog Γ0 (mH es A gs frm to by' l0) false (sub Tryz.f70 0) (aS es A fs frm to by' least v d74) .normal (aS es A (fs.set (Int.toNat (IntKind.i64.wrap (Int.tdiv r 2))) (IntKind.i64.wrap (f+pushE r least))) frm to by' least (endE (xr r) y) d74)):=by
 refine CW.cast (CW.symX (s':={t:=mkT 24 0 [(0,D.fn (Fn.func 74) [] [.ref (.ptr 5 0),.ref (.ptr 11 0)]),(1,.ref (.ptr 1 0)),(2,.ref (.ptr 0 0)),(3,.ref (.ptr 5 0)),(4,.ref (.ptr 10 0)),(6,int (endE (IntKind.wrap IntKind.i64 (↑(BitVec.toNat (BitVec.ofInt 64 r ^^^ BitVec.ofInt 64 1)):Int)) y))],h:=(al_push_x0 es A fs by' frm to least r f),m:=[]}) (e:=Exit.normal) pok [.st (.mask [0,1,2,3,4,6])] [.b true,.ov 22 (int r),.call (D.tup []) (al_push_x0 es A fs by' frm to least r f),.ov 15 (int r),.val (int (endE (IntKind.wrap IntKind.i64 (↑(BitVec.toNat (BitVec.ofInt 64 r ^^^ BitVec.ofInt 64 1)):Int)) y))] (by kernel_rfl) (.c hv (.c (show inR v (List.length (vecI by'))=true from ?_) (.c (show loadD Tryz.prog (al_push_x1 es A fs by' frm to least) 3 (.ref (.vp 9 0 (Int.toNat v) 0))=some (int r) from ?_) (.c (@pushes_ev (es) (A) (fs) (by') (frm) (to) (least) (r) (f) (q) (hq) (hf) (hl) (hl2)) (.c (show inR v (List.length (vecI by'))=true from ?_) (.c (show loadD Tryz.prog (al_push_x0 es A fs by' frm to least r f) 3 (evalD Γ0 [D.fn (Fn.func 74) [] [.ref (.ptr 5 0),.ref (.ptr 11 0)],.ref (.ptr 1 0),.ref (.ptr 0 0),.ref (.ptr 5 0),.ref (.ptr 10 0),D.any,int v,D.any,int v,int frm,bool (v != frm),.ref (.ptr 4 0),.ref (.vec 9 0),int v,.ref (.vp 9 0 (Int.toNat v) 0),D.any,D.any,D.any,D.fn (Fn.func 74) [] [.ref (.ptr 5 0),.ref (.ptr 11 0)],.ref (.vec 9 0),int v,.ref (.vp 9 0 (Int.toNat v) 0),int r,D.tup []] (Operand.tmp 14))=some (int r) from ?_) (.c (show Ev Tryz.prog Γ0 71 [.ref (.ptr 4 0),int (IntKind.wrap IntKind.i64 (↑(BitVec.toNat (BitVec.ofInt 64 r ^^^ BitVec.ofInt 64 1)):Int))] (al_push_x0 es A fs by' frm to least r f) (int (endE (IntKind.wrap IntKind.i64 (↑(BitVec.toNat (BitVec.ofInt 64 r ^^^ BitVec.ofInt 64 1)):Int)) y)) (al_push_x0 es A fs by' frm to least r f) from(Ev.castH (Ev.frameX (args:=[.ref (.ptr 4 0),int (IntKind.wrap IntKind.i64 (↑(BitVec.toNat (BitVec.ofInt 64 r ^^^ BitVec.ofInt 64 1)):Int))]) (H:=(al_push_x0 es A fs by' frm to least r f)) [2,3,4] (@end_ev (es) (A) (List.set fs (Int.toNat (IntKind.wrap IntKind.i64 (Int.tdiv r 2))) (IntKind.wrap IntKind.i64 (f+pushE r least))) (IntKind.wrap IntKind.i64 (↑(BitVec.toNat (BitVec.ofInt 64 r ^^^ BitVec.ofInt 64 1)):Int)) (y) (hy)) (by kernel_rfl) (by kernel_rfl) (by kernel_rfl) ⟨(by first|rfl|exact mapRL_rows _ _|first|assumption|rfl|exact vg_in h0 hb|exact vg_load rfl hb|exact vg_vp hb|exact vecI_map _ _|exact vecI_inn _ _),trivial⟩ ⟨(by first|rfl|exact mapRL_rows _ _|first|assumption|rfl|exact vg_in h0 hb|exact vg_load rfl hb|exact vg_vp hb|exact vecI_map _ _|exact vecI_inn _ _),trivial⟩) (by kernel_rfl) (by kernel_rfl))) .n)))))))) (by rfl) (by rfl)<;>(first|assumption|rfl|exact vg_in h0 hb|exact vg_load rfl hb|exact vg_vp hb|exact vecI_map _ _|exact vecI_inn _ _)
theorem xor_one(k:Nat):k ^^^ 1=if k % 2=0 then k+1 else k - 1:=by
 have h1:(k ^^^ 1) / 2=k / 2:=by rw[Nat.xor_div_two];simp
 have h2:(k ^^^ 1) % 2=(k+1) % 2:=by
  have:=@Nat.xor_mod_two_eq_one k 1
  omega
 split<;>omega
theorem xr_eq{m:Nat}{r:Int}(h:ResOk m r)(hm:m≤1000000):xr r=if r.toNat % 2=0 then r+1 else r - 1:=by
 obtain⟨h0,h1⟩:=h
 obtain⟨k,rfl⟩:=Int.eq_ofNat_of_zero_le h0
 have hk:k<2000000:=by omega
 have e:(BitVec.ofInt IntKind.i64.bits (k:Int) ^^^ BitVec.ofInt IntKind.i64.bits 1).toNat=k ^^^ 1:=by
  rw[BitVec.toNat_xor]
  have e1:(BitVec.ofInt IntKind.i64.bits (k:Int)).toNat=k:=by
   show(BitVec.ofInt 64 (k:Int)).toNat=k
   rw[BitVec.toNat_ofInt];omega
  have e2:(BitVec.ofInt IntKind.i64.bits 1).toNat=1:=rfl
  rw[e1,e2]
 unfold xr
 rw[e,xor_one]
 simp only[Int.toNat_natCast]
 split
 ·rw[wrap_i64 (by omega) (by omega)];omega
 ·rw[wrap_i64 (by omega) (by omega)];omega
theorem xr_ok{m:Nat}{r:Int}(h:ResOk m r)(hm:m≤1000000):ResOk m (xr r):=by
 rw[xr_eq h hm]
 obtain⟨h0,h1⟩:=h
 split<;>constructor<;>omega
inductive Path (es:List EdgT) (by':List Int) (frm:Int):Int→List Int→Prop
 | nil:Path es by' frm frm []
 | cons {v r rs}:v ≠ frm→0≤v→by'[v.toNat]? = some r→ResOk es.length r→Path es by' frm (endA es (xr r)) rs→Path es by' frm v (r::rs)
def lsF(es:List EdgT)(fs:List Int)(least r:Int):Int:=mnI least (capA es fs r)
def puF(least:Int)(fs:List Int)(r:Int):List Int:=fs.set (ixR r).toNat (IntKind.i64.wrap (fA fs r+pushE r least))
theorem puF_len(least:Int)(fs:List Int)(r:Int):(puF least fs r).length=fs.length:=by simp[puF]
theorem puF_fold(least:Int):∀(rs:List Int) (fs:List Int),(rs.foldl (puF least) fs).length=fs.length
 | [],_=>rfl
 | r::rs,fs=>by rw[List.foldl_cons,puF_fold least rs,puF_len]
section
variable {es:List EdgT} {A:List (List Dp)} {fs by':List Int} {frm to:Int}
theorem al_loop1(hl:fs.length=es.length)(hm:es.length≤1000){gs:List Int}{l0 least v:Int}{rs:List Int}(hp:Path es by' frm v rs):
  CW Tryz.prog Γ0 (mH es A gs frm to by' l0) false (.loop (sub Tryz.f70 0)) (aS es A fs frm to by' least v d72) (.exit 0) {t:=mkT 24 0 [],h:=mH es A fs frm to by' (rs.foldl (lsF es fs) least),m:=[]}:=by
 refine CW.loop (ι:={p:Int×Int×List Int // Path es by' frm p.1 p.2.2}) (fun p=>aS es A fs frm to by' p.1.2.1 p.1.1 d72) (fun p=>(.exit 0,{t:=mkT 24 0 [],h:=mH es A fs frm to by' (p.1.2.2.foldl (lsF es fs) p.1.2.1),m:=[]})) (fun p=>p.1.2.2.length) ?_ ⟨(v,least,rs),hp⟩
 rintro⟨⟨v,least,rs⟩,hp⟩
 cases hp with
 | nil=>exact .inr ⟨by simp,al_last (by simp)⟩
 | cons h1 h2 h3 h4 h5 =>
  rename_i r rs
  have hq:=ixR_eq h4 (by omega)
  refine .inl ⟨⟨(endA es (xr r),lsF es fs least r,rs),h5⟩,by simp,rfl,?_⟩
  exact al_least (x:=exA es r) (f:=fA fs r) (by simpa using h1) h2 h3 hq.1 (exA_row h4 (by omega)) (fA_get h4 (by omega) hl) (by omega) (exA_row (xr_ok h4 (by omega)) (by omega))
theorem al_loop2(hm:es.length≤1000){gs:List Int}{l0 least v:Int}{rs:List Int}(hl:fs.length=es.length)(hp:Path es by' frm v rs):
  CW Tryz.prog Γ0 (mH es A gs frm to by' l0) false (.loop (sub Tryz.f70 0)) (aS es A fs frm to by' least v d74) (.exit 0) {t:=mkT 24 0 [],h:=mH es A (rs.foldl (puF least) fs) frm to by' least,m:=[]}:=by
 refine CW.loop (ι:={p:Int×List Int×List Int // Path es by' frm p.1 p.2.2∧p.2.1.length=es.length}) (fun p=>aS es A p.1.2.1 frm to by' least p.1.1 d74) (fun p=>(.exit 0,{t:=mkT 24 0 [],h:=mH es A (p.1.2.2.foldl (puF least) p.1.2.1) frm to by' least,m:=[]})) (fun p=>p.1.2.2.length) ?_ ⟨(v,fs,rs),hp,hl⟩
 rintro⟨⟨v,fs,rs⟩,hp,hl⟩
 simp only at hl
 cases hp with
 | nil=>exact .inr ⟨by simp,al_last (by simp)⟩
 | cons h1 h2 h3 h4 h5 =>
  rename_i r rs
  have hq:=ixR_eq h4 (by omega)
  have hf:=fA_get (fs:=fs) h4 (by omega) hl
  refine .inl ⟨⟨(endA es (xr r),puF least fs r,rs),h5,by rw[puF_len];exact hl⟩,by simp,rfl,?_⟩
  exact al_push (f:=fA fs r) (y:=exA es (xr r)) (by simpa using h1) h2 h3 hq.1 hf (show r.toNat / 2<fs.length by omega) (List.getElem?_eq_some_iff.1 hf).1 (exA_row (xr_ok h4 (by omega)) (by omega))
end
theorem al_a{es:List EdgT}{A:List (List Dp)}{fs fs2 by':List Int}{frm to least least2:Int}{d:D}
  (hcw:CW Tryz.prog Γ0 (mH es A fs frm to by' least) false (.loop (sub Tryz.f70 0)) (aS es A fs frm to by' least to d) (.exit 0) {t:=mkT 24 0 [],h:=mH es A fs2 frm to by' least2,m:=[]}):(Ev Tryz.prog Γ0 70 [d,.ref (.ptr 1 0),.ref (.ptr 0 0),.ref (.ptr 5 0),.ref (.ptr 10 0)] (mH es A fs frm to by' least) (.tup []) (mH es A fs2 frm to by' least2)):=by
 have hl0:=(@hcw)
 exact Ev.castH (Ev.of_sym (h':=[.var [int frm],.var [int to],.vec (vecI fs2) 0 1,.gone,.var [rowsD' (List.map EdgT.row es),.ref (.vec 2 0),rowsD' A],.var [.ref (.ptr 4 0)],.var [int to],.var [.ref (.vec 9 0)],.vec [[int (-1)]] 0 1,.vec (vecI by') 0 1,.var [.ref (.vec 9 0)],.var [int least2]]) (d:=D.tup []) pok [.sum [0,1,2,3,4,6] (Exit.exit 0) {t:=mkT 24 0 [],h:=[.var [int frm],.var [int to],.vec (vecI fs2) 0 1,.gone,.var [rowsD' (List.map EdgT.row es),.ref (.vec 2 0),rowsD' A],.var [.ref (.ptr 4 0)],.var [int to],.var [.ref (.vec 9 0)],.vec [[int (-1)]] 0 1,.vec (vecI by') 0 1,.var [.ref (.vec 9 0)],.var [int least2]],m:=[]}] (by kernel_rfl) (.c hl0 .n)) (by rfl) (by rfl)
abbrev xT(n:Int):List D:=mkT 65 0 [(0,int n),(6,.ref (.ptr 0 0)),(7,.ref (.ptr 1 0)),(12,.ref (.ptr 5 0))]
abbrev xH(es:List EdgT)(A:List (List Dp))(fs:List Int)(frm to:Int):List Blk:=[.var [int frm],.var [int to],.vec (vecI fs) 0 1,.gone,.var [rowsD' (es.map EdgT.row),.ref (.vec 2 0),rowsD' A],.var [.ref (.ptr 4 0)]]
abbrev xS(es:List EdgT)(A:List (List Dp))(fs:List Int)(n frm to:Int):AS:={t:=xT n,h:=xH es A fs frm to,m:=[]}
noncomputable abbrev mx_round_x0(es:List EdgT)(A:List (List Dp))(fs:List Int)(by':List Int)(frm:Int)(to:Int)(l2:Int):List Blk:=[.var [int frm],.var [int to],.vec (vecI fs) 0 1,.gone,.var [rowsD' (List.map EdgT.row es),.ref (.vec 2 0),rowsD' A],.var [.ref (.ptr 4 0)],.var [int to],.var [.ref (.vec 9 0)],.vec [[int (-1)]] 0 1,.vec (vecI by') 0 1,.var [.ref (.vec 9 0)],.var [int l2]]
noncomputable abbrev mx_round_x1(es:List EdgT)(A:List (List Dp))(fs:List Int)(frm:Int)(to:Int):List Blk:=[.var [int frm],.var [int to],.vec (vecI fs) 0 1,.gone,.var [rowsD' (List.map EdgT.row es),.ref (.vec 2 0),rowsD' A],.var [.ref (.ptr 4 0)]]
theorem mx_round{es:List EdgT}{A:List (List Dp)}{fs fs2 by':List Int}{n frm to x l2:Int}(h0:0≤to)(hx:by'[to.toNat]? = some x)(hg:Dd (x<0)=false)
  (hs:Ev Tryz.prog Γ0 69 [.ref (.ptr 2 0),int frm,int to] (fwH es A fs) (.ref (.vec 6 0)) (fwH es A fs++[.var [int to],.var [.ref (.vec 6 0)],.vec [[int (-1)]] 0 1,.vec (vecI by') 0 1]))
  (h1:Ev Tryz.prog Γ0 70 [d72,.ref (.ptr 1 0),.ref (.ptr 0 0),.ref (.ptr 5 0),.ref (.ptr 10 0)] (mH es A fs frm to by' 1073741824) (.tup []) (mH es A fs frm to by' l2))
  (h2:Ev Tryz.prog Γ0 70 [d74,.ref (.ptr 1 0),.ref (.ptr 0 0),.ref (.ptr 5 0),.ref (.ptr 10 0)] (mH es A fs frm to by' l2) (.tup []) (mH es A fs2 frm to by' l2)):(CW Tryz.prog Γ0 [] false (sub Tryz.f42 0) (xS es A fs n frm to) .normal (xS es A fs2 n frm to)):=by
 refine CW.cast (CW.symX (s':={t:=mkT 65 0 [(0,int n),(6,.ref (.ptr 0 0)),(7,.ref (.ptr 1 0)),(12,.ref (.ptr 5 0))],h:=[.var [int frm],.var [int to],.vec (vecI fs2) 0 1,.gone,.var [rowsD' (List.map EdgT.row es),.ref (.vec 2 0),rowsD' A],.var [.ref (.ptr 4 0)]],m:=[]}) (e:=Exit.normal) pok [.st (.mask [0,6,7,12]),.st (.trim 6)] [.call (.ref (.vec 9 0)) [.var [int frm],.var [int to],.vec (vecI fs) 0 1,.gone,.var [rowsD' (List.map EdgT.row es),.ref (.vec 2 0),rowsD' A],.var [.ref (.ptr 4 0)],.var [int to],.var [.ref (.vec 9 0)],.vec [[int (-1)]] 0 1,.vec (vecI by') 0 1],.ov 36 (int x),.b false,.call (D.tup []) (mx_round_x0 es A fs by' frm to l2),.call (D.tup []) [.var [int frm],.var [int to],.vec (vecI fs2) 0 1,.gone,.var [rowsD' (List.map EdgT.row es),.ref (.vec 2 0),rowsD' A],.var [.ref (.ptr 4 0)],.var [int to],.var [.ref (.vec 9 0)],.vec [[int (-1)]] 0 1,.vec (vecI by') 0 1,.var [.ref (.vec 9 0)],.var [int l2]]] (by kernel_rfl) (.c (show Ev Tryz.prog Γ0 69 [.ref (.ptr 4 0),int frm,int to] (mx_round_x1 es A fs frm to) (.ref (.vec 9 0)) [.var [int frm],.var [int to],.vec (vecI fs) 0 1,.gone,.var [rowsD' (List.map EdgT.row es),.ref (.vec 2 0),rowsD' A],.var [.ref (.ptr 4 0)],.var [int to],.var [.ref (.vec 9 0)],.vec [[int (-1)]] 0 1,.vec (vecI by') 0 1] from(Ev.castH (Ev.frameX (args:=[.ref (.ptr 4 0),int frm,int to]) (H:=(mx_round_x1 es A fs frm to)) [2,3,4] (@hs) (by kernel_rfl) (by kernel_rfl) (by kernel_rfl) ⟨?_,trivial⟩ ⟨?_,?_,?_,trivial⟩) (by kernel_rfl) (by kernel_rfl))) (.c (show inR to (List.length (vecI by'))=true from(by first|assumption|rfl|exact vg_in h0 hx|exact vg_load rfl hx|exact vg_vp hx|exact vecI_map _ _|exact vecI_inn _ _)) (.c (show loadD Tryz.prog [.var [int frm],.var [int to],.vec (vecI fs) 0 1,.gone,.var [rowsD' (List.map EdgT.row es),.ref (.vec 2 0),rowsD' A],.var [.ref (.ptr 4 0)],.var [int to],.var [.ref (.vec 9 0)],.vec [[int (-1)]] 0 1,.vec (vecI by') 0 1,.var [.ref (.vec 9 0)]] 3 (.ref (.vp 9 0 (Int.toNat to) 0))=some (int x) from(by first|assumption|rfl|exact vg_in h0 hx|exact vg_load rfl hx|exact vg_vp hx|exact vecI_map _ _|exact vecI_inn _ _)) (.c hg (.c (@h1) (.c (@h2) (.c (show List.all (vecI fs2) (D.innL 6)=true from(by first|assumption|rfl|exact vg_in h0 hx|exact vg_load rfl hx|exact vg_vp hx|exact vecI_map _ _|exact vecI_inn _ _)) .n)))))))) (by rfl) (by rfl)<;>(first|rfl|exact mapRL_rows _ _|first|assumption|rfl|exact vg_in h0 hx|exact vg_load rfl hx|exact vg_vp hx|exact vecI_map _ _|exact vecI_inn _ _)
def vecB(l:List Bool):List (List D):=l.map fun b=>[bool b]
abbrev rowsB(l:List Bool):List (List Dp):=l.map fun b=>[.v (.bool b)]
theorem vecB_map(f:Ref→D)(l:List Bool):(vecB l).map (D.mapRL f)=vecB l:=by simp[vecB,D.mapRL,D.mapR]
theorem vecB_inn(n:Nat)(l:List Bool):(vecB l).all (D.innL n)=true:=by simp[vecB,D.innL,D.inn]
theorem vecB_frz(l:List Bool):vecB l=(rowsB l).map (·.map .p):=by simp[vecB]
theorem vecB_rep(n:Nat):List.replicate n [bool false]=vecB (List.replicate n false):=by simp[vecB]
theorem vb_store{l:List Bool}{b i:Nat}{a:Bool}{h:List Blk}(hb:h[b]? = some (.vec (vecB l) 0 1))(hi:i<l.length):storeD Tryz.prog h 4 (.ref (.vp b 0 i 0)) (bool a)=some (h.set b (.vec (vecB (l.set i a)) 0 1)):=by
 have e1:(vecB l)[i]? = some [bool l[i]]:=by simp[vecB,hi]
 unfold storeD
 simp only[hb,e1,if_true]
 simp[vecB,List.map_set]
 rfl
abbrev kH(es:List EdgT)(A:List (List Dp))(fs:List Int)(frm to:Int)(by':List Int)(cut:List Bool):List Blk:=xH es A fs frm to++[.var [int to],.var [.ref (.vec 9 0)],.vec [[int (-1)]] 0 1,.vec (vecI by') 0 1,.var [.ref (.vec 9 0)],.vec (vecB cut) 0 1]
abbrev kS(es:List EdgT)(A:List (List Dp))(fs:List Int)(frm to:Int)(by':List Int)(cut:List Bool)(i:Int):AS:={t:=mkT 65 0 [(9,.ref (.vec 11 0)),(12,.ref (.ptr 5 0)),(40,.ref (.vec 9 0)),(41,int (by'.length:Int)),(42,int i)],h:=kH es A fs frm to by' cut,m:=[]}
abbrev kE(es:List EdgT)(A:List (List Dp))(fs:List Int)(frm to:Int)(by':List Int)(cut:List Bool):AS:={t:=mkT 65 0 [(9,.ref (.vec 11 0)),(12,.ref (.ptr 5 0))],h:=kH es A fs frm to by' cut,m:=[]}
theorem mk_body{es:List EdgT}{A:List (List Dp)}{fs by':List Int}{frm to x:Int}{cut:List Bool}{i:Nat}(hx:by'[Int.toNat (i:Int)]? = some x)(hlt:Dd ((i:Int)<(by'.length:Int))=true)(hw:IntKind.i64.wrap ((i:Int)+1)=((i+1:Nat):Int))(hi:inR (i:Int) (vecI by').length=true)(hc:inR (i:Int) (vecB cut).length=true)(hcl:Int.toNat (i:Int)<cut.length):(CW Tryz.prog Γ0 [] false (sub Tryz.f42 1) (kS es A fs frm to by' cut i) .normal (kS es A fs frm to by' (cut.set (Int.toNat (i:Int)) (Dd (x≥0))) ((i+1:Nat):Int))):=by
 refine CW.cast (CW.symX (s':={t:=mkT 65 0 [(9,.ref (.vec 11 0)),(12,.ref (.ptr 5 0)),(40,.ref (.vec 9 0)),(41,int (↑(List.length by'):Int)),(42,int (IntKind.wrap IntKind.i64 ((↑i:Int)+1)))],h:=[.var [int frm],.var [int to],.vec (vecI fs) 0 1,.gone,.var [rowsD' (List.map EdgT.row es),.ref (.vec 2 0),rowsD' A],.var [.ref (.ptr 4 0)],.var [int to],.var [.ref (.vec 9 0)],.vec [[int (-1)]] 0 1,.vec (vecI by') 0 1,.var [.ref (.vec 9 0)],.vec (vecB (List.set cut (Int.toNat (↑i:Int)) (Dd (x≥0)))) 0 1],m:=[]}) (e:=Exit.normal) pok [.st (.mask [9,12,40,41,42])] [.b true,.ov 46 (int x),.oh 10051 D.any (kH es A fs frm to by' (List.set cut (Int.toNat (↑i:Int)) (Dd (x≥0))))] (by kernel_rfl) (.c hlt (.c hi (.c (show loadD Tryz.prog [.var [int frm],.var [int to],.vec (vecI fs) 0 1,.gone,.var [rowsD' (List.map EdgT.row es),.ref (.vec 2 0),rowsD' A],.var [.ref (.ptr 4 0)],.var [int to],.var [.ref (.vec 9 0)],.vec [[int (-1)]] 0 1,.vec (vecI by') 0 1,.var [.ref (.vec 9 0)],.vec (vecB cut) 0 1] 3 (.ref (.vp 9 0 (Int.toNat (↑i:Int)) 0))=some (int x) from ?_) (.c hc (.c (show storeD Tryz.prog [.var [int frm],.var [int to],.vec (vecI fs) 0 1,.gone,.var [rowsD' (List.map EdgT.row es),.ref (.vec 2 0),rowsD' A],.var [.ref (.ptr 4 0)],.var [int to],.var [.ref (.vec 9 0)],.vec [[int (-1)]] 0 1,.vec (vecI by') 0 1,.var [.ref (.vec 9 0)],.vec (vecB cut) 0 1] 4 (.ref (.vp 11 0 (Int.toNat (↑i:Int)) 0)) (bool (Dd (x≥0)))=some [.var [int frm],.var [int to],.vec (vecI fs) 0 1,.gone,.var [rowsD' (List.map EdgT.row es),.ref (.vec 2 0),rowsD' A],.var [.ref (.ptr 4 0)],.var [int to],.var [.ref (.vec 9 0)],.vec [[int (-1)]] 0 1,.vec (vecI by') 0 1,.var [.ref (.vec 9 0)],.vec (vecB (List.set cut (Int.toNat (↑i:Int)) (Dd (x≥0)))) 0 1] from ?_) .n)))))) (by first|rfl|(rw[hw]<;>rfl)) (by first|rfl|(rw[hw]<;>rfl))<;>(first|assumption|rfl|exact vg_load rfl hx|exact vg_vp hx|exact vb_store rfl hcl|exact vecI_map _ _|exact vecI_inn _ _)
theorem mk_last{es:List EdgT}{A:List (List Dp)}{fs by':List Int}{frm to:Int}{cut:List Bool}{i:Nat}(hlt:Dd ((i:Int)<(by'.length:Int))=false):(CW Tryz.prog Γ0 [] false (sub Tryz.f42 1) (kS es A fs frm to by' cut i) (.exit 2) (kE es A fs frm to by' cut)):=by
 exact CW.cast (CW.symX (s':={t:=mkT 65 0 [(9,.ref (.vec 11 0)),(12,.ref (.ptr 5 0))],h:=[.var [int frm],.var [int to],.vec (vecI fs) 0 1,.gone,.var [rowsD' (List.map EdgT.row es),.ref (.vec 2 0),rowsD' A],.var [.ref (.ptr 4 0)],.var [int to],.var [.ref (.vec 9 0)],.vec [[int (-1)]] 0 1,.vec (vecI by') 0 1,.var [.ref (.vec 9 0)],.vec (vecB cut) 0 1],m:=[]}) (e:=Exit.exit 2) pok [.st (.mask [9,12])] [.b false] (by kernel_rfl) (.c hlt .n)) (by rfl) (by rfl)
def cutF(s:List Bool×Nat)(x:Int):List Bool×Nat:=(s.1.set s.2 (Dd (x≥0)),s.2+1)
def cutR(by':List Int):List Bool:=(by'.foldl cutF (List.replicate by'.length false,0)).1
theorem mk_loop{es:List EdgT}{A:List (List Dp)}{fs by':List Int}{frm to:Int}(hb:by'.length≤1000):CW Tryz.prog Γ0 [] false (.loop (sub Tryz.f42 1)) (kS es A fs frm to by' (List.replicate by'.length false) 0) (.exit 2) (kE es A fs frm to by' (cutR by')):=by
 have:=CW.each (P:=Tryz.prog) (Γ:=Γ0) (h0:=[]) (rd:=false) (c:=sub Tryz.f42 1) (σ:=List Bool×Nat) (ρ:=Empty) by' (fun x s=>.inl (cutF s x))
  (fun i s=>kS es A fs frm to by' s.1 (i:Int)) (.exit 2) (fun s=>kE es A fs frm to by' s.1) (fun r=>r.elim) (fun i s=>s.2=i∧s.1.length=by'.length) (by simp) (fun r=>r.elim) ?_ ?_ (List.replicate by'.length false,0) (by simp)
 ·rw[forL_fold] at this
  exact this
 ·rintro i x ⟨cut,k⟩ hx ⟨hk,hc⟩
  simp only at hk hc
  subst hk
  have hi:=(List.getElem?_eq_some_iff.1 hx).1
  refine⟨fun s' h=>?_,mk_body (by simpa using hx) (by simp;omega) (wrap_succ hi (by omega)) (by simp[inR,vecI];omega) (by simp[inR,vecB];omega) (by simp;omega)⟩
  cases h
  simpa[cutF] using hc
 ·intro s _
  exact mk_last (by simp)
abbrev kS0(es:List EdgT)(A:List (List Dp))(fs:List Int)(n frm to:Int)(by':List Int):AS:={t:=mkT 65 0 [(9,.ref (.vec 11 0)),(12,.ref (.ptr 5 0)),(40,.ref (.vec 9 0)),(41,int ((vecI by').length:Int)),(42,int 0)],h:=xH es A fs frm to++[.var [int to],.var [.ref (.vec 9 0)],.vec [[int (-1)]] 0 1,.vec (vecI by') 0 1,.var [.ref (.vec 9 0)],.vec (List.replicate (Int.toNat n) [bool false]) 0 1],m:=[]}
theorem kS0_eq{es:List EdgT}{A:List (List Dp)}{fs:List Int}{n frm to:Int}{by':List Int}(hn:Int.toNat n=by'.length):kS0 es A fs n frm to by'=kS es A fs frm to by' (List.replicate by'.length false) 0:=by
 unfold kS0 kS kH
 rw[hn,vecB_rep,vecI_len]
theorem rep_map{m:Nat}{r:List D}(f:Ref→D)(h:D.mapRL f r=r):(List.replicate m r).map (D.mapRL f)=List.replicate m r:=by simp[h]
noncomputable abbrev mx_end_x0(es:List EdgT)(A:List (List Dp))(fs:List Int)(frm:Int)(to:Int):List Blk:=[.var [int frm],.var [int to],.vec (vecI fs) 0 1,.gone,.var [rowsD' (List.map EdgT.row es),.ref (.vec 2 0),rowsD' A],.var [.ref (.ptr 4 0)]]
theorem mx_end{es:List EdgT}{A:List (List Dp)}{fs by':List Int}{n frm to x:Int}{cut:List Bool}(h0:0≤to)(hx:by'[to.toNat]? = some x)(hg:Dd (x<0)=true)(hn0:0≤n)(hn1:n≤1000)
  (hs:Ev Tryz.prog Γ0 69 [.ref (.ptr 2 0),int frm,int to] (fwH es A fs) (.ref (.vec 6 0)) (fwH es A fs++[.var [int to],.var [.ref (.vec 6 0)],.vec [[int (-1)]] 0 1,.vec (vecI by') 0 1]))
  (hcw:CW Tryz.prog Γ0 [] false (.loop (sub Tryz.f42 1)) (kS0 es A fs n frm to by') (.exit 2) (kE es A fs frm to by' cut)):(CW Tryz.prog Γ0 [] false (sub Tryz.f42 0) (xS es A fs n frm to) .ret {t:=mkT 65 0 [(8,rowsD' (inR1 fs)),(9,rowsD' (rowsB cut)),(10,int 0)],h:=[],m:=[]}):=by
 have hl0:=(@hcw)
 refine CW.cast (CW.symX (s':={t:=mkT 65 0 [(8,rowsD' (inR1 fs)),(9,rowsD' (rowsB cut)),(10,int 0)],h:=[],m:=[]}) (e:=Exit.ret) pok [.st (.mask [8,9,10]),.st (.frz 2 (inR1 fs)),.st (.frz 11 (rowsB cut)),.st (.trim 0)] [.call (.ref (.vec 9 0)) [.var [int frm],.var [int to],.vec (vecI fs) 0 1,.gone,.var [rowsD' (List.map EdgT.row es),.ref (.vec 2 0),rowsD' A],.var [.ref (.ptr 4 0)],.var [int to],.var [.ref (.vec 9 0)],.vec [[int (-1)]] 0 1,.vec (vecI by') 0 1],.ov 36 (int x),.b true,.sum [9,12,40,41,42] (Exit.exit 2) {t:=mkT 65 0 [(9,.ref (.vec 11 0)),(12,.ref (.ptr 5 0))],h:=[.var [int frm],.var [int to],.vec (vecI fs) 0 1,.gone,.var [rowsD' (List.map EdgT.row es),.ref (.vec 2 0),rowsD' A],.var [.ref (.ptr 4 0)],.var [int to],.var [.ref (.vec 9 0)],.vec [[int (-1)]] 0 1,.vec (vecI by') 0 1,.var [.ref (.vec 9 0)],.vec (vecB cut) 0 1],m:=[]}] (by kernel_rfl) (.c (show Ev Tryz.prog Γ0 69 [.ref (.ptr 4 0),int frm,int to] (mx_end_x0 es A fs frm to) (.ref (.vec 9 0)) [.var [int frm],.var [int to],.vec (vecI fs) 0 1,.gone,.var [rowsD' (List.map EdgT.row es),.ref (.vec 2 0),rowsD' A],.var [.ref (.ptr 4 0)],.var [int to],.var [.ref (.vec 9 0)],.vec [[int (-1)]] 0 1,.vec (vecI by') 0 1] from(Ev.castH (Ev.frameX (args:=[.ref (.ptr 4 0),int frm,int to]) (H:=(mx_end_x0 es A fs frm to)) [2,3,4] (@hs) (by kernel_rfl) (by kernel_rfl) (by kernel_rfl) ⟨(by first|rfl|exact mapRL_rows _ _|first|assumption|rfl|exact vg_in h0 hx|exact vg_load rfl hx|exact vg_vp hx|exact vecI_frz _|exact vecB_frz _|exact vecI_map _ _|exact vecI_inn _ _|exact vecB_map _ _|exact vecB_inn _ _|exact rep_map _ rfl|(simp;omega)),trivial⟩ ⟨(by first|rfl|exact mapRL_rows _ _|first|assumption|rfl|exact vg_in h0 hx|exact vg_load rfl hx|exact vg_vp hx|exact vecI_frz _|exact vecB_frz _|exact vecI_map _ _|exact vecI_inn _ _|exact vecB_map _ _|exact vecB_inn _ _|exact rep_map _ rfl|(simp;omega)),(by first|rfl|exact mapRL_rows _ _|first|assumption|rfl|exact vg_in h0 hx|exact vg_load rfl hx|exact vg_vp hx|exact vecI_frz _|exact vecB_frz _|exact vecI_map _ _|exact vecI_inn _ _|exact vecB_map _ _|exact vecB_inn _ _|exact rep_map _ rfl|(simp;omega)),(by first|rfl|exact mapRL_rows _ _|first|assumption|rfl|exact vg_in h0 hx|exact vg_load rfl hx|exact vg_vp hx|exact vecI_frz _|exact vecB_frz _|exact vecI_map _ _|exact vecI_inn _ _|exact vecB_map _ _|exact vecB_inn _ _|exact rep_map _ rfl|(simp;omega)),trivial⟩) (by kernel_rfl) (by kernel_rfl))) (.c (show inR to (List.length (vecI by'))=true from ?_) (.c (show loadD Tryz.prog [.var [int frm],.var [int to],.vec (vecI fs) 0 1,.gone,.var [rowsD' (List.map EdgT.row es),.ref (.vec 2 0),rowsD' A],.var [.ref (.ptr 4 0)],.var [int to],.var [.ref (.vec 9 0)],.vec [[int (-1)]] 0 1,.vec (vecI by') 0 1,.var [.ref (.vec 9 0)]] 3 (.ref (.vp 9 0 (Int.toNat to) 0))=some (int x) from ?_) (.c hg (.c (show(Dd (0≤n)&&Dd (n≤n)&&Dd (n*(↑1:Int)≤281474976710656)&&Dd (n≤281474976710656))=true from ?_) (.c hl0 (.c (show vecI fs=List.map (fun x=>List.map D.p x) (inR1 fs) from ?_) (.c (show [[int (-1)]]=[[int (-1)]] from rfl) (.c (show List.map (D.mapRL (frzR 2 0 (inR1 fs))) (vecI by')=vecI by' from ?_) (.c (show List.map (D.mapRL (frzR 2 0 (inR1 fs))) (vecB cut)=vecB cut from ?_) (.c (show vecB cut=List.map (fun x=>List.map D.p x) (rowsB cut) from ?_) (.c (show [[int (-1)]]=[[int (-1)]] from rfl) (.c (show List.map (D.mapRL (frzR 11 0 (rowsB cut))) (vecI by')=vecI by' from ?_) .n)))))))))))))) (by rfl) (by rfl)<;>(first|assumption|rfl|exact vg_in h0 hx|exact vg_load rfl hx|exact vg_vp hx|exact vecI_frz _|exact vecB_frz _|exact vecI_map _ _|exact vecI_inn _ _|exact vecB_map _ _|exact vecB_inn _ _|exact rep_map _ rfl|(simp;omega))
abbrev xS0(es:List EdgT)(A:List (List Dp))(n frm to:Int):AS:={t:=xT n,h:=[.var [int frm],.var [int to],.vec (flR es) 0 1,.gone,.var [rowsD' (es.map EdgT.row),.ref (.vec 2 0),rowsD' A],.var [.ref (.ptr 4 0)]],m:=[]}
theorem flR_eq(es:List EdgT):flR es=vecI (List.replicate es.length 0):=by simp[flR,vecI]
theorem xS0_eq{es:List EdgT}{A:List (List Dp)}{n frm to:Int}:xS0 es A n frm to=xS es A (List.replicate es.length 0) n frm to:=by
 unfold xS0 xS xH
 rw[flR_eq]
theorem nn2_a{n:Nat}{es:List EdgT}{frm to:Int}(hn:n≤10000)(hes:es.length≤10000)(hin:∀x∈es,EdgIn n x):Ev Tryz.prog Γ0 68 [int (n:Int),rowsD' (es.map EdgT.row)] [.var [int frm],.var [int to]] (.ref (.ptr 4 0)) [.var [int frm],.var [int to],.vec (flR es) 0 1,.gone,.var [rowsD' (es.map EdgT.row),.ref (.vec 2 0),rowsD' (adjD (adjR n es))]]:=by
 have h1:=Ev.frameN (nn_ev hn hes hin) rfl rfl [.var [int frm],.var [int to]]
 have e:[Blk.vec (flR es) 0 1,.gone,.var [rowsD' (es.map EdgT.row),.ref (.vec 0 0),rowsD' (adjD (adjR n es))]].map (Blk.mapR (fwd0 2))=[.vec (flR es) 0 1,.gone,.var [rowsD' (es.map EdgT.row),.ref (.vec 2 0),rowsD' (adjD (adjR n es))]]:=by
  simp only[List.map_cons,List.map_nil,Blk.mapR,flR_map]
  rfl
 exact Ev.castH h1 rfl (by rw[show [Blk.var [int frm],.var [int to]].length=2 from rfl,e];rfl)
theorem max_a{es:List EdgT}{n:Nat}{frm to:Int}{fs:List Int}{cut:List Bool}
  (hnn:Ev Tryz.prog Γ0 68 [int (n:Int),rowsD' (es.map EdgT.row)] [.var [int frm],.var [int to]] (.ref (.ptr 4 0)) [.var [int frm],.var [int to],.vec (flR es) 0 1,.gone,.var [rowsD' (es.map EdgT.row),.ref (.vec 2 0),rowsD' (adjD (adjR n es))]])
  (hc:∀h,Ev Tryz.prog Γ0 44 [int (n:Int),rowsD' (es.map EdgT.row),int frm,int to] h (int 0) h)
  (hcw:CW Tryz.prog Γ0 [] false (.loop (sub Tryz.f42 0)) (xS0 es (adjD (adjR n es)) (n:Int) frm to) .ret {t:=mkT 65 0 [(8,rowsD' (inR1 fs)),(9,rowsD' (rowsB cut)),(10,int 0)],h:=[],m:=[]}) (h:List Blk):(Ev Tryz.prog Γ0 42 [int (n:Int),rowsD' (es.map EdgT.row),int frm,int to] h (.tup [rowsD' (inR1 fs),rowsD' (rowsB cut),int 0]) h):=by
 have hl0:=(@hcw)
 exact Ev.castH (Ev.nilW (Ev.sym0 (d:=D.tup [rowsD' (inR1 fs),rowsD' (rowsB cut),int 0]) pok [.val (int 0),.b false,.call (.ref (.ptr 4 0)) [.var [int frm],.var [int to],.vec (flR es) 0 1,.gone,.var [rowsD' (List.map EdgT.row es),.ref (.vec 2 0),rowsD' (adjD (adjR n es))]],.sum [0,6,7,12] (Exit.ret) {t:=mkT 65 0 [(8,rowsD' (inR1 fs)),(9,rowsD' (rowsB cut)),(10,int 0)],h:=[],m:=[]}] (by kernel_rfl) (.c (@hc ([.var [int frm],.var [int to]])) (.c (show(0 != 0)=false from rfl) (.c (@hnn) (.c hl0 .n)))) rfl rfl h)) (by rfl) (by rfl)
abbrev bs0(n m:Nat)(frm:Int):List Int×QF:=(by0 n m frm,⟨false,0,0,[frm]⟩)
abbrev lsR(es:List EdgT)(fs:List Int)(rs:List Int):Int:=rs.foldl (lsF es fs) 1073741824
abbrev puR(es:List EdgT)(fs:List Int)(rs:List Int):List Int:=rs.foldl (puF (lsR es fs rs)) fs
inductive MaxR (adj:List (List Int)) (es:List EdgT) (n:Nat) (frm to:Int):Nat→List Int→List Int×List Int→Prop
 | done {fs k f}:Bfs adj es fs to k (bs0 n es.length frm) f→f.1.getD to.toNat 0<0→MaxR adj es n frm to 0 fs (fs,f.1)
 | step {fs k f rs g j}:Bfs adj es fs to k (bs0 n es.length frm) f→¬f.1.getD to.toNat 0<0→Path es f.1 frm to rs→MaxR adj es n frm to j (puR es fs rs) g→MaxR adj es n frm to (j+1) fs g
def sumV{α:Type}:α⊕α→α
 | .inl s=>s
 | .inr s=>s
theorem usY_len(to r u:Int)(s:List Int×QF):(sumV (usY to r u s)).1.length=s.1.length:=by
 unfold usY
 cases Dd (s.1.getD u.toNat 0≥0) with
 | true=>rfl
 | false=>cases u==to<;>simp[sumV]
theorem usG_len(es:List EdgT)(fs:List Int)(to r:Int)(s:List Int×QF):(sumV (usG es fs to r s)).1.length=s.1.length:=by
 unfold usG
 cases Dd (capA es fs r>0) with
 | true=>exact usY_len _ _ _ _
 | false=>rfl
theorem forG_len{es:List EdgT}{fs:List Int}{to:Int}:∀(B:List Int) (s:List Int×QF),(sumV (forL (usG es fs to) B s)).1.length=s.1.length
 | [],s=>rfl
 | r::B,s=>by
  have h1:=usG_len es fs to r s
  simp only[forL]
  cases hg:usG es fs to r s with
  | inl s1 =>
   rw[hg] at h1
   exact(forG_len B s1).trans h1
  | inr s1 =>
   rw[hg] at h1
   exact h1
theorem Bfs.len{adj:List (List Int)}{es:List EdgT}{fs:List Int}{to:Int}{k:Nat}{s f:List Int×QF}(h:Bfs adj es fs to k s f):f.1.length=s.1.length:=by
 induction h with
 | done _=>rfl
 | stop _ hg =>
  have:=congrArg (fun x=>(sumV x).1.length) hg
  simp only[forG_len] at this
  exact this.symm
 | step _ hg _ ih =>
  have:=congrArg (fun x=>(sumV x).1.length) hg
  simp only[forG_len] at this
  rw[ih];exact this.symm
def ResL(m:Nat)(A:List (List Int)):Prop:=∀B∈A,∀r∈B,ResOk m r
theorem ResL.set{m:Nat}{A:List (List Int)}(h:ResL m A){u:Nat}{v:Int}(hv:ResOk m v):ResL m (A.set u (A.getD u []++[v])):=by
 intro B hB r hr
 rcases List.mem_or_eq_of_mem_set hB with hB|rfl
 ·exact h B hB r hr
 ·rcases List.mem_append.1 hr with hr|hr
  ·by_cases hu:u<A.length
   ·have:A.getD u []=A[u]:=by simp[List.getD,hu]
    rw[this] at hr
    exact h _ (List.getElem_mem hu) r hr
   ·have:A.getD u []=[]:=by simp[List.getD,hu]
    rw[this] at hr;simp at hr
  ·simp only[List.mem_singleton] at hr
   subst hr;exact hv
theorem adj_res(m:Nat)(hm:m≤100000):∀(l:List EdgT) (s:List (List Int)×Int) (i:Nat),s.2=i→i+l.length≤m→ResL m s.1→ResL m (l.foldl adjF s).1
 | [],s,_,_,_,h=>h
 | x::l,s,i,hi,hm2,h=>by
  rw[List.foldl_cons]
  simp only[List.length_cons] at hm2
  have e1:IntKind.i64.wrap (2*s.2)=2*s.2:=wrap_i64 (by omega) (by omega)
  have e2:IntKind.i64.wrap (2*s.2+1)=2*s.2+1:=wrap_i64 (by omega) (by omega)
  refine adj_res m hm l (adjF s x) (i+1) (by simp[adjF,hi]) (by omega) ?_
  unfold adjF
  rw[e1,e2]
  exact(h.set ⟨by omega,by omega⟩).set ⟨by omega,by omega⟩
theorem adjR_len(n:Nat)(es:List EdgT):(adjR n es).length=n:=by unfold adjR;rw[adj_len];simp
theorem adjR_ok(n:Nat){es:List EdgT}(hm:es.length≤1000):∀B∈adjR n es,(∀r∈B,ResOk es.length r)∧B.length≤10000:=by
 have h1:ResL es.length (adjR n es):=adj_res es.length (by omega) es _ 0 rfl (by omega) (fun B hB r hr=>by rw[(List.mem_replicate.1 hB).2] at hr;simp at hr)
 have h2:Lim (adjR n es) (0+2*es.length):=adj_lim es _ 0 (fun j B hB=>by
  have:=List.mem_of_getElem? hB
  rw[(List.mem_replicate.1 this).2];simp)
 intro B hB
 refine⟨h1 B hB,?_⟩
 obtain⟨j,hj⟩:=List.getElem?_of_mem hB
 have:=h2 j B hj
 omega
section
variable {es:List EdgT} {n:Nat} {frm to:Int}
theorem mx_loop(hm:es.length≤1000)(h2:2≤n)(hn:n≤18)(hin:∀x∈es,EdgIn n x)(hfr:0≤frm∧frm.toNat<n)(hto:0≤to∧to.toNat<n){j:Nat}{fs:List Int}{g:List Int×List Int}(hl:fs.length=es.length)(hR:MaxR (adjR n es) es n frm to j fs g):
  CW Tryz.prog Γ0 [] false (.loop (sub Tryz.f42 0)) (xS es (adjD (adjR n es)) fs (n:Int) frm to) .ret {t:=mkT 65 0 [(8,rowsD' (inR1 g.1)),(9,rowsD' (rowsB (cutR g.2))),(10,int 0)],h:=[],m:=[]}:=by
 refine CW.loop (ι:={p:Nat×List Int // p.2.length=es.length∧MaxR (adjR n es) es n frm to p.1 p.2 g}) (fun p=>xS es (adjD (adjR n es)) p.1.2 (n:Int) frm to) (fun _=>(.ret,{t:=mkT 65 0 [(8,rowsD' (inR1 g.1)),(9,rowsD' (rowsB (cutR g.2))),(10,int 0)],h:=[],m:=[]})) (fun p=>p.1.1) ?_ ⟨(j,fs),hl,hR⟩
 rintro⟨⟨j,fs⟩,hl,hR⟩
 simp only at hl hR
 cases hR with
 | done hb hx =>
  rename_i k f
  have hlen:f.1.length=n:=by rw[hb.len];simp[by0]
  have hs:=search_a hl hm h2 hn hin (adjR_len n es) (adjR_ok n hm) hfr hb
  have hg:f.1[to.toNat]? = some (f.1.getD to.toNat 0):=by simp[List.getD,hlen,hto.2]
  have hk:=mk_loop (es:=es) (A:=adjD (adjR n es)) (fs:=fs) (by':=f.1) (frm:=frm) (to:=to) (by omega)
  rw[←kS0_eq (n:=(n:Int)) (by simp[hlen])] at hk
  exact .inr ⟨by simp,mx_end hto.1 hg (by simpa using hx) (by omega) (by omega) hs hk⟩
 | step hb hx hp hr =>
  rename_i k f rs j
  have hlen:f.1.length=n:=by rw[hb.len];simp[by0]
  have hs:=search_a hl hm h2 hn hin (adjR_len n es) (adjR_ok n hm) hfr hb
  have hg:f.1[to.toNat]? = some (f.1.getD to.toNat 0):=by simp[List.getD,hlen,hto.2]
  refine .inl ⟨⟨(j,puR es fs rs),by rw[puF_fold];exact hl,hr⟩,by simp,rfl,?_⟩
  exact mx_round (fs2:=puR es fs rs) (l2:=lsR es fs rs) hto.1 hg (by simpa using hx) hs (al_a (al_loop1 hl hm hp)) (al_a (al_loop2 hm hl hp))
theorem maxR_ev(hm:es.length≤1000)(h2:2≤n)(hn:n≤18)(hin:∀x∈es,EdgIn n x)(hfr:0≤frm∧frm.toNat<n)(hto:0≤to∧to.toNat<n)
  (hc:∀h,Ev Tryz.prog Γ0 44 [int (n:Int),rowsD' (es.map EdgT.row),int frm,int to] h (int 0) h) {j:Nat} {g:List Int×List Int} (hR:MaxR (adjR n es) es n frm to j (List.replicate es.length 0) g) (h:List Blk) :
  Ev Tryz.prog Γ0 42 [int (n:Int),rowsD' (es.map EdgT.row),int frm,int to] h (.tup [rowsD' (inR1 g.1),rowsD' (rowsB (cutR g.2)),int 0]) h:=by
 refine max_a (nn2_a (by omega) (by omega) hin) hc ?_ h
 rw[xS0_eq]
 exact mx_loop hm h2 hn hin hfr hto (by simp) hR
end
def xeF(p:EdgT→Bool)(c:EdgT)(s:Nat):Nat⊕Nat:=if p c=true then .inr s else .inl (s+1)
abbrev xeS(fs:List (List Dp))(f:D)(h:List Blk)(i:Int):AS:={t:=mkT 19 0 [(0,rowsD' fs),(1,f),(4,int 0),(7,int fs.length),(8,int i)],h:=h,m:=[]}
abbrev xeX(h:List Blk):Nat→Exit×AS:=fun k=>(.ret,{t:=mkT 19 0 [(4,int (k:Int))],h:=h,m:=[]})
theorem xe_body{fs:List (List Dp)}{i:Nat}{c:EdgT}{f:D}{h:List Blk}{p:EdgT→Bool}(hr:RowAt (i:Int) fs (EdgT.row c) 3)(hlt:Dd ((i:Int)<(fs.length:Int))=true)(hw:IntKind.i64.wrap ((i:Int)+1)=((i+1:Nat):Int))(hi:Iv Tryz.prog Γ0 f [ag (EdgT.row c)] h (bool (p c)) h):(CW Tryz.prog Γ0 h false (sub Tryz.f137 0) (xeS fs f h i) (bodyFin (fun _=>xeS fs f h ((i+1:Nat):Int)) (xeX h) (xeF p c i)).1 (bodyFin (fun _=>xeS fs f h ((i+1:Nat):Int)) (xeX h) (xeF p c i)).2):=by
 cases hc0:p c
 ·exact CW.cast (CW.symX (s':={t:=mkT 19 0 [(0,rowsD' fs),(1,f),(4,int 0),(7,int (↑(List.length fs):Int)),(8,int (IntKind.wrap IntKind.i64 ((↑i:Int)+1)))],h:=h,m:=[]}) (e:=Exit.normal) pok [.st (.mask [0,1,4,7,8])] [.b true,.row [vi c.frm,vi c.to,vi c.most],.ival (bool (p c)),.b false] (by kernel_rfl) (.c hlt (.c hr (.c (@hi) (.c hc0 .n))))) (by simp[xeF,bodyFin,hw, *]) (by simp[xeF,bodyFin,hw, *])
 ·exact CW.cast (CW.symX (s':={t:=mkT 19 0 [(4,int (↑i:Int))],h:=h,m:=[]}) (e:=Exit.ret) pok [.st (.mask [4])] [.b true,.row [vi c.frm,vi c.to,vi c.most],.ival (bool (p c)),.b true] (by kernel_rfl) (.c hlt (.c hr (.c (@hi) (.c hc0 .n))))) (by simp[xeF,bodyFin,hw, *]) (by simp[xeF,bodyFin,hw, *])
theorem xe_last{fs:List (List Dp)}{i:Nat}{f:D}{h:List Blk}(hlt:Dd ((i:Int)<(fs.length:Int))=false):(CW Tryz.prog Γ0 h false (sub Tryz.f137 0) (xeS fs f h i) (.exit 0) {t:=mkT 19 0 [(4,int 0)],h:=h,m:=[]}):=by
 exact CW.cast (CW.symX (s':={t:=mkT 19 0 [(4,int 0)],h:=h,m:=[]}) (e:=Exit.exit 0) pok [.st (.mask [4])] [.b false] (by kernel_rfl) (.c hlt .n)) (by rfl) (by rfl)
def xeR(p:EdgT→Bool)(l:List EdgT):Int:=match forL (xeF p) l 0 with | .inl _ => -1 | .inr k=>(k:Int)
def xeFin(h:List Blk)(p:EdgT→Bool)(l:List EdgT):Exit×AS:=eachFin (.exit 0) (fun _:Nat=>{t:=mkT 19 0 [(4,int 0)],h:=h,m:=[]}) (xeX h) (forL (xeF p) l 0)
theorem xe_cw{l:List EdgT}(hl:Short l){f:D}{h:List Blk}{p:EdgT→Bool}(hf:∀c∈l,Iv Tryz.prog Γ0 f [ag (EdgT.row c)] h (bool (p c)) h):
  CW Tryz.prog Γ0 h false (.loop (sub Tryz.f137 0)) (xeS (l.map EdgT.row) f h 0) (xeFin h p l).1 (xeFin h p l).2:=by
 refine CW.each l (xeF p) (fun i _=>xeS (l.map EdgT.row) f h (i:Int)) (.exit 0) _ (xeX h) (fun i s=>s=i) (by simp) (fun _=>by simp) ?_ ?_ 0 rfl
 ·intro i c s hc hs
  subst hs
  have hi:=(List.getElem?_eq_some_iff.1 hc).1
  refine⟨fun s' h=>?_,xe_body (rowAt (row:=EdgT.row) hc rfl) (lt_len EdgT.row hi) (wrap_succ hi hl) (hf c (List.mem_of_getElem? hc))⟩
  unfold xeF at h
  split at h<;>simp at h
  exact h.symm
 ·intro s hs
  exact xe_last (ge_len EdgT.row l)
theorem xei_ev{l:List EdgT}(hl:Short l){f:D}{h:List Blk}{p:EdgT→Bool}(hf:∀c∈l,Iv Tryz.prog Γ0 f [ag (EdgT.row c)] h (bool (p c)) h):(Ev Tryz.prog Γ0 137 [rowsD' (l.map EdgT.row),f] h (int (xeR p l)) h):=by
 have hl0:=(@xe_cw (l) (hl) (f) (h) (p) (hf))
 unfold xeFin at hl0
 revert hl0
 cases ho1:forL (xeF p) l 0 with
 | inl o1_0_0 =>
  intro hl0
  exact Ev.castH (Ev.of_sym (h':=h) (d:=int (-1)) pok [.sum [0,1,4,7,8] (Exit.exit 0) {t:=mkT 19 0 [(4,int 0)],h:=h,m:=[]}] (by kernel_rfl) (.c hl0 .n)) (by simp[xeR,ho1]) (by simp[xeR,ho1])
 | inr o1_1_0 =>
  intro hl0
  exact Ev.castH (Ev.of_sym (h':=h) (d:=int (↑o1_1_0:Int)) pok [.sum [0,1,4,7,8] (Exit.ret) {t:=mkT 19 0 [(4,int (↑o1_1_0:Int))],h:=h,m:=[]}] (by kernel_rfl) (.c hl0 .n)) (by simp[xeR,ho1]) (by simp[xeR,ho1])
theorem xeR_ge(p:EdgT→Bool)(l:List EdgT):Dd (xeR p l≥0)=l.any p:=by
 have key:∀(l:List EdgT) (s:Nat),(match forL (xeF p) l s with | .inl _=>false | .inr _=>true)=l.any p:=by
  intro l
  induction l with
  | nil=>intro s;rfl
  | cons c l ih =>
   intro s
   simp only[forL,xeF,List.any_cons]
   by_cases hp:p c=true
   ·simp[hp]
   ·simp only[hp,if_false,Bool.false_or]
    exact ih (s+1)
 rw[←key l 0]
 unfold xeR
 cases forL (xeF p) l 0<;>simp
theorem xec_ev{l:List EdgT}(hl:Short l){f:D}{h:List Blk}{p:EdgT→Bool}(hf:∀c∈l,Iv Tryz.prog Γ0 f [ag (EdgT.row c)] h (bool (p c)) h):(Ev Tryz.prog Γ0 109 [rowsD' (l.map EdgT.row),f] h (bool (l.any p)) h):=by
 refine Ev.castH (Ev.of_sym (h':=h) (d:=bool (Dd (xeR p l≥0))) pok [.val (int (xeR p l))] (by kernel_rfl) (.c (@xei_ev (l) (hl) (f) (h) (p) (hf)) .n)) ?_ ?_<;>(first|rfl|rw[←xeR_ge])
def nodB(n v:Int):Bool:=Dd (v≥0)&&Dd (v<n)
def edgBad(n:Int)(x:EdgT):Bool:=!nodB n x.frm||!nodB n x.to||x.frm==x.to||Dd (x.most<0)||Dd (x.most>1073741824)
abbrev ckH(n:Int):List Blk:=[.var [int n],.var [.fn (.func 108) [] [.ref (.ptr 0 0)]]]
theorem nod_ev{n v:Int}:(Ev Tryz.prog Γ0 108 [int v,.ref (.ptr 0 0)] (ckH n) (bool (nodB n v)) (ckH n)):=by
 exact Ev.castH (Ev.of_sym (h':=[.var [int n],.var [D.fn (Fn.func 108) [] [.ref (.ptr 0 0)]]]) (d:=bool (Dd (v≥0)&&Dd (v<n))) pok [] (by kernel_rfl) .n) (by rfl) (by rfl)
noncomputable abbrev edg_ev_x0(n:Int)(x:EdgT):List Blk:=[.var [int n],.var [D.fn (Fn.func 108) [] [.ref (.ptr 0 0)]],.var [int x.frm,int x.to,int x.most]]
theorem edg_ev{n:Int}{x:EdgT}:(Ev Tryz.prog Γ0 110 [ag x.row,.ref (.ptr 1 0)] (ckH n) (bool (edgBad n x)) (ckH n)):=by
 exact Ev.castH (Ev.post (d2:=bool (!nodB n x.frm||!nodB n x.to||x.frm==x.to||Dd (x.most<0)||Dd (x.most>1073741824))) (h2:=[.var [int n],.var [D.fn (Fn.func 108) [] [.ref (.ptr 0 0)]]]) (φ:=[]) [.st (.trim 2)] (Ev.of_sym (h':=(edg_ev_x0 n x)) (d:=bool (!nodB n x.frm||!nodB n x.to||x.frm==x.to||Dd (x.most<0)||Dd (x.most>1073741824))) pok [.val (bool (nodB n x.frm)),.val (bool (nodB n x.to))] (by kernel_rfl) (.c (show Ev Tryz.prog Γ0 108 [int x.frm,.ref (.ptr 0 0)] (edg_ev_x0 n x) (bool (nodB n x.frm)) (edg_ev_x0 n x) from(Ev.castH (Ev.frameX (args:=[int x.frm,.ref (.ptr 0 0)]) (H:=(edg_ev_x0 n x)) [0,1] (@nod_ev (n) (x.frm)) (by kernel_rfl) (by kernel_rfl) (by kernel_rfl) trivial trivial) (by kernel_rfl) (by kernel_rfl))) (.c (show(!!nodB n x.frm)=true→Ev Tryz.prog Γ0 108 [int x.to,.ref (.ptr 0 0)] (edg_ev_x0 n x) (bool (nodB n x.to)) (edg_ev_x0 n x) from(fun hg=>(Ev.castH (Ev.frameX (args:=[int x.to,.ref (.ptr 0 0)]) (H:=(edg_ev_x0 n x)) [0,1] (@nod_ev (n) (x.to)) (by kernel_rfl) (by kernel_rfl) (by kernel_rfl) trivial trivial) (by kernel_rfl) (by kernel_rfl)))) .n))) (by kernel_rfl) trivial) (by rfl) (by rfl)
theorem edi_a{n:Int}{l:List EdgT}:∀c∈l,Iv Tryz.prog Γ0 (.fn (.func 110) [] [.ref (.ptr 1 0)]) [ag (EdgT.row c)] (ckH n) (bool (edgBad n c)) (ckH n):=fun c _=>Iv.of (f:=110) (fi:=[]) (ca:=[.ref (.ptr 1 0)]) pok rfl (by kernel_rfl) edg_ev
theorem edc_ev{n:Int}{l:List EdgT}(hl:Short l):Ev Tryz.prog Γ0 109 [rowsD' (l.map EdgT.row),.fn (.func 110) [] [.ref (.ptr 1 0)]] (ckH n) (bool (l.any (edgBad n))) (ckH n):=xec_ev hl edi_a
def chkR(n:Int)(l:List EdgT):Int:=match Dd (n<2)||Dd (n>4096)||Dd (((l.map EdgT.row).length:Int)>65536) with
 | true=>180
 | false=>match l.any (edgBad n) with
  | true=>180
  | false=>0
noncomputable abbrev chk_ev_x0(n:Int):List Blk:=[.var [int n],.var [D.fn (Fn.func 108) [] [.ref (.ptr 0 0)]]]
theorem chk_ev{n:Int}{l:List EdgT}(hl:Short l)(h:List Blk):(Ev Tryz.prog Γ0 79 [int n,rowsD' (l.map EdgT.row)] h (int (chkR n l)) h):=by
 cases hc0:Dd (n<2)||Dd (n>4096)||Dd ((↑(List.length (List.map EdgT.row l)):Int)>65536)
 ·cases hc1:List.any l (edgBad n)
  ·exact Ev.castH (Ev.sym0 (d:=int 0) pok [.b false,.val (bool (List.any l (edgBad n))),.b false] (by kernel_rfl) (.c hc0 (.c (@edc_ev (n) (l) (hl)) (.c hc1 .n))) rfl rfl h) (by first|rfl|(simp only[chkR,hc0,hc1];first|done|rfl)) (by rfl)
  ·exact Ev.castH (Ev.sym0 (d:=int 180) pok [.b false,.val (bool (List.any l (edgBad n))),.b true] (by kernel_rfl) (.c hc0 (.c (@edc_ev (n) (l) (hl)) (.c hc1 .n))) rfl rfl h) (by first|rfl|(simp only[chkR,hc0,hc1];first|done|rfl)) (by rfl)
 ·exact Ev.castH (Ev.sym0 (d:=int 180) pok [.b true] (by kernel_rfl) (.c hc0 .n) rfl rfl h) (by first|rfl|(simp only[chkR,hc0];first|done|rfl)) (by rfl)
def endsBad(n a b:Int):Bool:=Dd (a<0)||Dd (a≥n)||Dd (b<0)||Dd (b≥n)||a==b
def chkE(n:Int)(l:List EdgT)(a b:Int):Int:=match chkR n l != 0 with
 | true=>chkR n l
 | false=>match endsBad n a b with
  | true=>180
  | false=>0
theorem chke_ev{n a b:Int}{l:List EdgT}(hl:Short l)(h:List Blk):(Ev Tryz.prog Γ0 44 [int n,rowsD' (l.map EdgT.row),int a,int b] h (int (chkE n l a b)) h):=by
 cases hc0:chkR n l != 0
 ·cases hc1:Dd (a<0)||Dd (a≥n)||Dd (b<0)||Dd (b≥n)||a==b
  ·exact Ev.castH (Ev.sym0 (d:=int 0) pok [.val (int (chkR n l)),.b false,.b false] (by kernel_rfl) (.c (@chk_ev (n) (l) (hl) ([])) (.c hc0 (.c hc1 .n))) rfl rfl h) (by first|rfl|(simp only[chkE,endsBad,hc0,hc1];first|done|rfl)) (by rfl)
  ·exact Ev.castH (Ev.sym0 (d:=int 180) pok [.val (int (chkR n l)),.b false,.b true] (by kernel_rfl) (.c (@chk_ev (n) (l) (hl) ([])) (.c hc0 (.c hc1 .n))) rfl rfl h) (by first|rfl|(simp only[chkE,endsBad,hc0,hc1];first|done|rfl)) (by rfl)
 ·exact Ev.castH (Ev.sym0 (d:=int (chkR n l)) pok [.val (int (chkR n l)),.b true] (by kernel_rfl) (.c (@chk_ev (n) (l) (hl) ([])) (.c hc0 .n)) rfl rfl h) (by first|rfl|(simp only[chkE,endsBad,hc0];first|done|rfl)) (by rfl)
section
variable {es:List EdgT} {fs:List Int} {n:Nat}
theorem getD_has{α:Type}{l:List α}{i:Nat}{d:α}(h:i<l.length):l[i]? = some (l.getD i d):=by simp[List.getD,h]
end
structure FlOk (es:List EdgT) (fs:List Int):Prop where
 len:fs.length=es.length
 sz:es.length≤1000
 lo:∀i,i<es.length→0≤fs.getD i 0
 hi:∀i,i<es.length→fs.getD i 0≤(es.getD i ⟨0,0,0⟩).most
 most:∀i,i<es.length→(es.getD i ⟨0,0,0⟩).most≤1073741824
theorem res_cases{m:Nat}{r:Int}(h:ResOk m r):∃i:Nat,i<m∧(r=2*(i:Int)∨r=2*(i:Int)+1):=by
 obtain⟨h0,h1⟩:=h
 refine⟨(r / 2).toNat,by omega,?_⟩
 omega
section
variable {es:List EdgT} {fs:List Int} {i:Nat}
theorem ix0(hi:i<100000):ixR (2*(i:Int))=(i:Int):=by
 unfold ixR
 rw[Int.tdiv_eq_ediv_of_nonneg (by omega),wrap_i64 (by omega) (by omega)];omega
theorem ix1(hi:i<100000):ixR (2*(i:Int)+1)=(i:Int):=by
 unfold ixR
 rw[Int.tdiv_eq_ediv_of_nonneg (by omega),wrap_i64 (by omega) (by omega)];omega
theorem tm0:(Int.tmod (2*(i:Int)) 2==0)=true:=by
 rw[Int.tmod_eq_emod_of_nonneg (by omega)];simp
theorem tm1:(Int.tmod (2*(i:Int)+1) 2==0)=false:=by
 rw[Int.tmod_eq_emod_of_nonneg (by omega)]<;>simp
theorem tn0:(Int.tmod (2*(i:Int)) 2==1)=false:=by
 rw[Int.tmod_eq_emod_of_nonneg (by omega)];simp
theorem tn1:(Int.tmod (2*(i:Int)+1) 2==1)=true:=by
 rw[Int.tmod_eq_emod_of_nonneg (by omega)]<;>simp
theorem end0(hi:i<100000):endA es (2*(i:Int))=(es.getD i ⟨0,0,0⟩).to:=by
 unfold endA endE exA
 rw[tm0,ix0 hi,Int.toNat_natCast]
theorem end1(hi:i<100000):endA es (2*(i:Int)+1)=(es.getD i ⟨0,0,0⟩).frm:=by
 unfold endA endE exA
 rw[tm1,ix1 hi,Int.toNat_natCast]
theorem cap1(hi:i<100000):capA es fs (2*(i:Int)+1)=fs.getD i 0:=by
 unfold capA capE fA
 rw[tm1,ix1 hi,Int.toNat_natCast]
theorem cap0(h:FlOk es fs)(hi:i<es.length):capA es fs (2*(i:Int))=(es.getD i ⟨0,0,0⟩).most - fs.getD i 0:=by
 have h1:=h.lo i hi
 have h2:=h.hi i hi
 have h3:=h.most i hi
 have h4:=h.sz
 unfold capA capE fA exA
 rw[tm0,ix0 (by omega),Int.toNat_natCast]
 exact wrap_i64 (by omega) (by omega)
theorem xr0{m:Nat}(hi:i<m)(hm:m≤100000):xr (2*(i:Int))=2*(i:Int)+1:=by
 rw[xr_eq (m:=m) ⟨by omega,by omega⟩ (by omega),if_pos (by omega)]
theorem xr1{m:Nat}(hi:i<m)(hm:m≤100000):xr (2*(i:Int)+1)=2*(i:Int):=by
 rw[xr_eq (m:=m) ⟨by omega,by omega⟩ (by omega),if_neg (by omega)];omega
end
def AdjL(es:List EdgT)(A:List (List Int)):Prop:=∀(v:Nat) (r:Int),r∈A.getD v []→endA es (xr r)=(v:Int)
theorem getD_set{A:List (List Int)}{u v:Nat}{B:List Int}:(A.set u B).getD v []=if u=v∧u<A.length then B else A.getD v []:=by
 simp only[List.getD,List.getElem?_set]
 by_cases h:u=v
 ·subst h
  by_cases h2:u<A.length
  ·simp[h2]
  ·simp[h2]
 ·simp[h]
theorem AdjL.set{es:List EdgT}{A:List (List Int)}(h:AdjL es A){u:Nat}{r:Int}(hr:endA es (xr r)=(u:Int)):AdjL es (A.set u (A.getD u []++[r])):=by
 intro v x hx
 rw[getD_set] at hx
 split at hx
 ·rename_i hc
  obtain⟨rfl,_⟩:=hc
  rcases List.mem_append.1 hx with hx|hx
  ·exact h u x hx
  ·simp only[List.mem_singleton] at hx
   subst hx;exact hr
 ·exact h v x hx
theorem adj_law{es:List EdgT}(hm:es.length≤1000)(n:Nat)(hin:∀x∈es,EdgIn n x):∀(l:List EdgT) (s:List (List Int)×Int) (i:Nat),s.2=i→es.drop i=l→AdjL es s.1→AdjL es (l.foldl adjF s).1
 | [],s,_,_,_,h=>h
 | x::l,s,i,hi,hd,h=>by
  rw[List.foldl_cons]
  have hlt:i<es.length:=by
   have:=congrArg List.length hd
   simp only[List.length_drop,List.length_cons] at this
   omega
  have hx:es[i]? = some x:=by
   have:=congrArg (fun y=>y[0]?) hd
   simpa using this
  have hg:es.getD i ⟨0,0,0⟩=x:=by simp[List.getD,hx]
  obtain⟨x1,x2,x3,x4⟩:=hin x (List.mem_of_getElem? hx)
  have e1:IntKind.i64.wrap (2*s.2)=2*(i:Int):=by rw[hi];exact wrap_i64 (by omega) (by omega)
  have e2:IntKind.i64.wrap (2*(i:Int)+1)=2*(i:Int)+1:=wrap_i64 (by omega) (by omega)
  refine adj_law hm n hin l (adjF s x) (i+1) (by simp[adjF,hi]) (by rw[←List.drop_drop,hd];rfl) ?_
  unfold adjF
  rw[e1,e2]
  refine(h.set ?_).set ?_
  ·rw[xr0 hlt (by omega),end1 (by omega),hg];omega
  ·rw[xr1 hlt (by omega),end0 (by omega),hg];omega
theorem adjR_law{es:List EdgT}(hm:es.length≤1000){n:Nat}(hin:∀x∈es,EdgIn n x):AdjL es (adjR n es):=by
 refine adj_law hm n hin es (List.replicate n [],0) 0 rfl rfl ?_
 intro v r hr
 have:(List.replicate n ([]:List Int)).getD v []=[]:=by
  simp only[List.getD,List.getElem?_replicate]
  split<;>rfl
 rw[this] at hr;simp at hr
def muS(s:List Int×QF):Nat:=2*unm s.1+s.2.list.length
theorem usY_mu{n:Nat}{to r u:Int}{s s':List Int×QF}(h:SOk n s)(hr:0≤r)(hu:u.toNat<n)(hy:usY to r u s=.inl s'):muS s'≤muS s:=by
 unfold usY at hy
 split at hy
 ·cases hy;exact Nat.le_refl _
 ·rename_i hg
  split at hy
  ·cases hy
  ·cases hy
   have h1:=unm_set (l:=s.1) (by rw[h.len];exact hu) (by simpa using hg) hr
   simp only[muS,QF.push,QF.list,List.length_append,List.length_singleton]
   have:s.2.list.length=(match s.2.vs with|true=>s.2.l.drop s.2.i|false=>s.2.l).length:=rfl
   omega
theorem forL_mu{es:List EdgT}{fs:List Int}{to:Int}{n:Nat}(hm:es.length≤1000)(hin:∀x∈es,EdgIn n x):∀(B:List Int) (s s':List Int×QF),(∀r∈B,ResOk es.length r)→SOk n s→forL (usG es fs to) B s=.inl s'→muS s'≤muS s
 | [],s,s',_,h,hf=>by cases hf;exact Nat.le_refl _
 | r::B,s,s',hB,h,hf=>by
  simp only[forL] at hf
  have hr:=hB r (by simp)
  have he:=endA_in hr (by omega) hin
  split at hf
  ·rename_i s1 h1
   have h2:SOk n s1∧muS s1≤muS s:=by
    unfold usG at h1
    split at h1
    ·exact⟨h.usY hr.1 he.1 he.2 h1,usY_mu h hr.1 he.2 h1⟩
    ·cases h1;exact⟨h,Nat.le_refl _⟩
   exact Nat.le_trans (forL_mu hm hin B s1 s' (fun x hx=>hB x (by simp[hx])) h2.1 hf) h2.2
  ·cases hf
theorem bfs_ex{es:List EdgT}{fs:List Int}{to:Int}{n:Nat}(hm:es.length≤1000)(hin:∀x∈es,EdgIn n x){adj:List (List Int)}(ha:adj.length=n)(hB:∀B∈adj,∀r∈B,ResOk es.length r):
  ∀(m:Nat) (s:List Int×QF),muS s<m→SOk n s→∃k f,Bfs adj es fs to k s f
 | 0,s,h,_=>absurd h (Nat.not_lt_zero _)
 | m+1,s,h,hs=>by
  cases hl:s.2.list with
  | nil=>exact⟨0,s,.done hl⟩
  | cons v rest =>
   obtain⟨v0,v1⟩:=hs.mem v (by rw[hl];simp)
   have hr:∀r∈adj.getD v.toNat [],ResOk es.length r:=by
    have:adj.getD v.toNat []=adj[v.toNat]'(by omega):=by simp[List.getD,ha,v1]
    rw[this]
    exact hB _ (List.getElem_mem _)
   cases hf:forL (usG es fs to) (adj.getD v.toNat []) (s.1,s.2.pop) with
   | inr f=>exact⟨0,f,.stop hl hf⟩
   | inl s' =>
    have h1:=hs.pop hl
    have h2:=SOk.forL hm hin _ _ _ hr h1 hf
    have h3:=forL_mu hm hin _ _ _ hr h1 hf
    have h4:muS (s.1,s.2.pop)+1=muS s:=by
     simp only[muS,QF.pop_list hl,hl,List.length_cons];omega
    obtain⟨k,f,hb⟩:=bfs_ex hm hin ha hB m s' (by omega) h2
    exact⟨k+1,f,.step hl hf hb⟩
theorem getDI_set{l:List Int}{u w:Nat}{r d:Int}:(l.set u r).getD w d=if u=w∧u<l.length then r else l.getD w d:=by
 simp only[List.getD,List.getElem?_set]
 by_cases h:u=w
 ·subst h
  by_cases h2:u<l.length
  ·simp[h2]
  ·simp[h2]
 ·simp[h]
theorem usY_keep{to r u:Int}{s:List Int×QF}{w:Nat}(h:0≤s.1.getD w 0):(sumV (usY to r u s)).1.getD w 0=s.1.getD w 0:=by
 have key:s.1.getD u.toNat 0<0→(s.1.set u.toNat r).getD w 0=s.1.getD w 0:=by
  intro hx
  rw[getDI_set,if_neg]
  rintro⟨rfl,_⟩
  omega
 unfold usY
 cases hg:Dd (s.1.getD u.toNat 0≥0) with
 | true=>rfl
 | false =>
  have hx:s.1.getD u.toNat 0<0:=by simpa using hg
  cases u==to with
  | true=>exact key hx
  | false=>exact key hx
theorem usG_keep{es:List EdgT}{fs:List Int}{to r:Int}{s:List Int×QF}{w:Nat}(h:0≤s.1.getD w 0):(sumV (usG es fs to r s)).1.getD w 0=s.1.getD w 0:=by
 unfold usG
 cases Dd (capA es fs r>0) with
 | true=>exact usY_keep h
 | false=>rfl
structure TI (es:List EdgT) (fs:List Int) (n:Nat) (frm:Int) (ρ:Nat→Nat) (s:List Int×QF):Prop where
 len:s.1.length=n
 src:0≤s.1.getD frm.toNat 0
 q:∀v∈s.2.list,0≤s.1.getD v.toNat 0
 t:∀v:Nat,v<n→0≤s.1.getD v 0→(v:Int) ≠ frm→ResOk es.length (s.1.getD v 0)∧0<capA es fs (s.1.getD v 0)∧endA es (s.1.getD v 0)=(v:Int)∧0≤s.1.getD (endA es (xr (s.1.getD v 0))).toNat 0∧ρ (endA es (xr (s.1.getD v 0))).toNat<ρ v
section
variable {es:List EdgT} {fs:List Int} {n:Nat} {frm to:Int} {ρ:Nat→Nat} {s:List Int×QF}
theorem TI.set(h:TI es fs n frm ρ s){v:Nat}(hv:v<n)(hm:0≤s.1.getD v 0){r u:Int}(hr:ResOk es.length r)(hc:0<capA es fs r)(ho:endA es (xr r)=(v:Int))(hu:endA es r=u)(h0:0≤u)(hun:u.toNat<n)(hx:s.1.getD u.toNat 0<0){q:QF}
  (hq:∀w∈q.list,w=u∨w∈s.2.list):TI es fs n frm (fun w=>if w=u.toNat then ρ v+1 else ρ w) (s.1.set u.toNat r,q):=by
 have hlt:u.toNat<s.1.length:=by rw[h.len];exact hun
 have hs:(s.1.set u.toNat r).getD u.toNat 0=r:=by rw[getDI_set,if_pos ⟨rfl,hlt⟩]
 have hk:∀w,w ≠ u.toNat→(s.1.set u.toNat r).getD w 0=s.1.getD w 0:=fun w hw=>by rw[getDI_set,if_neg (fun e=>hw e.1.symm)]
 have hmk:∀w,0≤s.1.getD w 0→(s.1.set u.toNat r).getD w 0=s.1.getD w 0:=fun w hw=>hk w (by rintro rfl;omega)
 refine⟨by simpa using h.len,?_,?_,?_⟩
 ·simp only;rw[hmk _ h.src];exact h.src
 ·intro w hw
  simp only
  rcases hq w hw with rfl|hw
  ·rw[hs];exact hr.1
  ·rw[hmk _ (h.q w hw)];exact h.q w hw
 ·intro w hw hwm hwf
  simp only at hwm ⊢
  by_cases he:w=u.toNat
  ·subst he
   rw[hs]
   have hvu:v ≠ u.toNat:=by rintro rfl;omega
   refine⟨hr,hc,by omega,?_,?_⟩
   ·rw[ho,Int.toNat_natCast,hmk _ hm];exact hm
   ·rw[ho,Int.toNat_natCast,if_neg hvu,if_pos rfl];omega
  ·rw[hk w he] at hwm ⊢
   obtain⟨t1,t2,t3,t4,t5⟩:=h.t w hw hwm hwf
   have hne:(endA es (xr (s.1.getD w 0))).toNat ≠ u.toNat:=by
    intro e;rw[e] at t4;omega
   refine⟨t1,t2,t3,?_,?_⟩
   ·rw[hmk _ t4];exact t4
   ·rw[if_neg hne,if_neg he];exact t5
theorem TI.usG(hm:es.length≤1000)(hin:∀x∈es,EdgIn n x)(h:TI es fs n frm ρ s){v:Nat}(hv:v<n)(hmk:0≤s.1.getD v 0){r:Int}(hr:ResOk es.length r)(ho:endA es (xr r)=(v:Int)):∃ρ',TI es fs n frm ρ' (sumV (usG es fs to r s)):=by
 unfold Vi.usG
 cases hc:Dd (capA es fs r>0) with
 | false=>exact⟨ρ,h⟩
 | true =>
  have hc':0<capA es fs r:=by simpa using hc
  obtain⟨e0,e1⟩:=endA_in hr (by omega) hin
  show ∃ρ',TI es fs n frm ρ' (sumV (usY to r (endA es r) s))
  unfold usY
  cases hg:Dd (s.1.getD (endA es r).toNat 0≥0) with
  | true=>exact⟨ρ,h⟩
  | false =>
   have hx:s.1.getD (endA es r).toNat 0<0:=by simpa using hg
   cases endA es r==to with
   | true=>exact⟨_,h.set hv hmk hr hc' ho rfl e0 e1 hx (fun w hw=>.inr hw)⟩
   | false =>
    refine⟨_,h.set hv hmk hr hc' ho rfl e0 e1 hx (fun w hw=>?_)⟩
    simp only[QF.push,QF.list,List.mem_append,List.mem_singleton] at hw
    rcases hw with hw|hw
    ·exact .inr hw
    ·exact .inl hw
theorem TI.forL(hm:es.length≤1000)(hin:∀x∈es,EdgIn n x){v:Nat}(hv:v<n):∀(B:List Int) (ρ:Nat→Nat) (s:List Int×QF),(∀r∈B,ResOk es.length r∧endA es (xr r)=(v:Int))→TI es fs n frm ρ s→0≤s.1.getD v 0→∃ρ',TI es fs n frm ρ' (sumV (forL (Vi.usG es fs to) B s))
 | [],ρ,s,_,h,_=>⟨ρ,h⟩
 | r::B,ρ,s,hB,h,hmk=>by
  obtain⟨hr,ho⟩:=hB r (by simp)
  obtain⟨ρ1,h1⟩:=h.usG (to:=to) hm hin hv hmk hr ho
  have hk:=usG_keep (es:=es) (fs:=fs) (to:=to) (r:=r) hmk
  simp only[Vi.forL]
  cases hg:Vi.usG es fs to r s with
  | inr s1=>rw[hg] at h1;exact⟨ρ1,h1⟩
  | inl s1 =>
   rw[hg] at h1 hk
   exact TI.forL hm hin hv B ρ1 s1 (fun x hx=>hB x (by simp[hx])) h1 (by simp only[sumV] at hk;rw[hk];exact hmk)
theorem TI.bfs(hm:es.length≤1000)(hin:∀x∈es,EdgIn n x){adj:List (List Int)}(ha:adj.length=n)(hB:∀B∈adj,∀r∈B,ResOk es.length r)(hA:AdjL es adj){k:Nat}{s f:List Int×QF}(hb:Bfs adj es fs to k s f):
  ∀{ρ:Nat→Nat},SOk n s→TI es fs n frm ρ s→∃ρ',TI es fs n frm ρ' f:=by
 have key:∀{s:List Int×QF} {v:Int} {rest:List Int},SOk n s→s.2.list=v::rest→v.toNat<n∧(∀r∈adj.getD v.toNat [],ResOk es.length r∧endA es (xr r)=(v.toNat:Int)):=by
  intro s v rest hs hl
  obtain⟨v0,v1⟩:=hs.mem v (by rw[hl];simp)
  refine⟨v1,fun r hr=>⟨?_,hA v.toNat r hr⟩⟩
  have:adj.getD v.toNat []=adj[v.toNat]'(by omega):=by simp[List.getD,ha,v1]
  rw[this] at hr
  exact hB _ (List.getElem_mem _) r hr
 have pop:∀{s:List Int×QF} {v:Int} {rest:List Int} {ρ:Nat→Nat},s.2.list=v::rest→TI es fs n frm ρ s→TI es fs n frm ρ (s.1,s.2.pop):=by
  intro s v rest ρ hl h
  exact⟨h.len,h.src,fun w hw=>h.q w (by rw[QF.pop_list hl] at hw;rw[hl];simp[hw]),h.t⟩
 induction hb with
 | done _=>exact fun _ h=>⟨_,h⟩
 | stop hl hf =>
  intro ρ hs h
  obtain⟨k1,k2⟩:=key hs hl
  have hm0:=h.q _ (by rw[hl];exact List.mem_cons_self)
  obtain⟨ρ',h'⟩:=TI.forL (to:=to) hm hin k1 _ ρ _ k2 (pop hl h) hm0
  rw[hf] at h'
  exact⟨ρ',h'⟩
 | step hl hf _ ih =>
  intro ρ hs h
  obtain⟨k1,k2⟩:=key hs hl
  have hm0:=h.q _ (by rw[hl];exact List.mem_cons_self)
  obtain⟨ρ',h'⟩:=TI.forL (to:=to) hm hin k1 _ ρ _ k2 (pop hl h) hm0
  rw[hf] at h'
  exact ih (SOk.forL hm hin _ _ _ (fun r hr=>(k2 r hr).1) (hs.pop hl) hf) h'
end
inductive PathT (es:List EdgT) (fs by':List Int) (frm:Int) (ρ:Nat→Nat):Int→List Int→Prop
 | nil:PathT es fs by' frm ρ frm []
 | cons {v r rs}:v ≠ frm→0≤v→by'[v.toNat]? = some r→ResOk es.length r→0<capA es fs r→endA es r=v→ρ (endA es (xr r)).toNat<ρ v.toNat→PathT es fs by' frm ρ (endA es (xr r)) rs→PathT es fs by' frm ρ v (r::rs)
theorem PathT.path{es:List EdgT}{fs by':List Int}{frm:Int}{ρ:Nat→Nat}{v:Int}{rs:List Int}(h:PathT es fs by' frm ρ v rs):Path es by' frm v rs:=by
 induction h with
 | nil=>exact .nil
 | cons h1 h2 h3 h4 _ _ _ _ ih=>exact .cons h1 h2 h3 h4 ih
theorem path_ex{es:List EdgT}{fs:List Int}{n:Nat}{frm:Int}{ρ:Nat→Nat}{s:List Int×QF}(hm:es.length≤1000)(hin:∀x∈es,EdgIn n x)(h:TI es fs n frm ρ s):∀(m:Nat) (v:Int),ρ v.toNat<m→0≤v→v.toNat<n→0≤s.1.getD v.toNat 0→∃rs,PathT es fs s.1 frm ρ v rs
 | 0,v,h,_,_,_=>absurd h (Nat.not_lt_zero _)
 | m+1,v,hρ,v0,v1,hmk=>by
  by_cases hv:v=frm
  ·subst hv;exact⟨[],.nil⟩
  ·obtain⟨t1,t2,t3,t4,t5⟩:=h.t v.toNat v1 hmk (by omega)
   have hx:=xr_ok t1 (by omega)
   obtain⟨e0,e1⟩:=endA_in hx (by omega) hin
   obtain⟨rs,hp⟩:=path_ex hm hin h m (endA es (xr (s.1.getD v.toNat 0))) (by omega) e0 e1 t4
   have hg:s.1[v.toNat]? = some (s.1.getD v.toNat 0):=by simp[List.getD,h.len,v1]
   exact⟨_,.cons hv v0 hg t1 t2 (by rw[t3];omega) t5 hp⟩
def outL:List EdgT→List Int→Int→Int
 | x::es,f::fs,w=>(if x.frm=w then f else 0) - (if x.to=w then f else 0)+outL es fs w
 | _,_,_=>0
theorem outL_set:∀(es:List EdgT) (fs:List Int) (i:Nat) (d w:Int),fs.length=es.length→i<es.length →
  outL es (fs.set i (fs.getD i 0+d)) w=outL es fs w+((if (es.getD i ⟨0,0,0⟩).frm=w then d else 0) - (if (es.getD i ⟨0,0,0⟩).to=w then d else 0))
 | [],_,i,_,_,_,hi=>absurd hi (Nat.not_lt_zero _)
 | x::es,[],_,_,_,hl,_=>by simp at hl
 | x::es,f::fs,0,d,w,_,_=>by
  simp only[List.set_cons_zero,List.getD_cons_zero,outL]
  split<;>split<;>omega
 | x::es,f::fs,i+1,d,w,hl,hi=>by
  simp only[List.set_cons_succ,List.getD_cons_succ,outL]
  rw[outL_set es fs i d w (by simpa using hl) (by simpa using hi)]
  omega
theorem ls_fold{es:List EdgT}{fs:List Int}:∀(rs:List Int) (l0:Int),0<l0→(∀r∈rs,0<capA es fs r)→0<rs.foldl (lsF es fs) l0∧rs.foldl (lsF es fs) l0≤l0∧∀r∈rs,rs.foldl (lsF es fs) l0≤capA es fs r
 | [],l0,h,_=>⟨h,Int.le_refl _,by simp⟩
 | r::rs,l0,h,hc=>by
  have hr:=hc r (by simp)
  have h1:0<lsF es fs l0 r∧lsF es fs l0 r≤l0∧lsF es fs l0 r≤capA es fs r:=by
   unfold lsF mnI
   split<;>omega
  obtain⟨a,b,c⟩:=ls_fold rs (lsF es fs l0 r) h1.1 (fun x hx=>hc x (by simp[hx]))
  rw[List.foldl_cons]
  refine⟨a,by omega,fun x hx=>?_⟩
  rcases List.mem_cons.1 hx with rfl|hx
  ·omega
  ·exact c x hx
section
variable {es:List EdgT} {fs by':List Int} {frm:Int} {ρ:Nat→Nat}
theorem PathT.rank{v:Int}{rs:List Int}(h:PathT es fs by' frm ρ v rs):∀r∈rs,ResOk es.length r∧0<capA es fs r∧ρ (endA es r).toNat≤ρ v.toNat∧ρ (endA es (xr r)).toNat<ρ (endA es r).toNat:=by
 induction h with
 | nil=>simp
 | cons h1 h2 h3 h4 h5 h6 h7 _ ih =>
  intro r hr
  rcases List.mem_cons.1 hr with rfl|hr
  ·exact⟨h4,h5,by rw[h6];exact Nat.le_refl _,by rw[h6];exact h7⟩
  ·obtain⟨a,b,c,d⟩:=ih r hr
   exact⟨a,b,by omega,d⟩
theorem PathT.dist(hm:es.length≤1000){v r:Int}{rs:List Int}(h:PathT es fs by' frm ρ v (r::rs)):∀x∈rs,ixR x ≠ ixR r:=by
 cases h with
 | cons h1 h2 h3 h4 h5 h6 h7 h8 =>
  intro x hx e
  obtain⟨a,_,c,d⟩:=h8.rank x hx
  obtain⟨i,hi,ri⟩:=res_cases h4
  obtain⟨j,hj,rj⟩:=res_cases a
  have hij:i=j:=by
   rcases ri with rfl|rfl<;>rcases rj with rfl|rfl
   ·rw[ix0 (by omega),ix0 (by omega)] at e;omega
   ·rw[ix0 (by omega),ix1 (by omega)] at e;omega
   ·rw[ix1 (by omega),ix0 (by omega)] at e;omega
   ·rw[ix1 (by omega),ix1 (by omega)] at e;omega
  subst hij
  rcases ri with rfl|rfl<;>rcases rj with rfl|rfl
  ·rw[h6] at c;omega
  ·rw[xr0 hi (by omega)] at h7 c
   rw[xr1 hi (by omega),h6] at d
   omega
  ·rw[xr1 hi (by omega)] at h7 c
   rw[xr0 hi (by omega),h6] at d
   omega
  ·rw[h6] at c;omega
theorem push_one{gs:List Int}(h:FlOk es gs){r least:Int}(hr:ResOk es.length r)(hl:0<least)(hc:least≤capA es gs r):
  FlOk es (puF least gs r)∧∀w,outL es (puF least gs r) w=outL es gs w+((if endA es (xr r)=w then least else 0) - (if endA es r=w then least else 0)):=by
 have hs:=h.sz
 obtain⟨i,hi,hri⟩:=res_cases hr
 have h1:=h.lo i hi
 have h2:=h.hi i hi
 have h3:=h.most i hi
 have hlen:=h.len
 have key:∀d:Int,0≤gs.getD i 0+d→gs.getD i 0+d≤(es.getD i ⟨0,0,0⟩).most→FlOk es (gs.set i (gs.getD i 0+d)):=by
  intro d d0 d1
  refine⟨by simpa using hlen,hs,?_,?_,h.most⟩
  ·intro j hj
   rw[getDI_set]
   split
   ·exact d0
   ·exact h.lo j hj
  ·intro j hj
   rw[getDI_set]
   split
   ·rename_i hc;rw[←hc.1];exact d1
   ·exact h.hi j hj
 rcases hri with rfl|rfl
 ·rw[cap0 h hi] at hc
  have e:puF least gs (2*(i:Int))=gs.set i (gs.getD i 0+least):=by
   unfold puF fA pushE
   rw[ix0 (by omega),Int.toNat_natCast,tn0]
   simp only
   rw[wrap_i64 (by omega) (by omega)]
  rw[e]
  refine⟨key least (by omega) (by omega),fun w=>?_⟩
  rw[outL_set es gs i least w hlen hi,xr0 hi (by omega),end0 (by omega),end1 (by omega)]
 ·rw[cap1 (by omega)] at hc
  have e:puF least gs (2*(i:Int)+1)=gs.set i (gs.getD i 0+(-least)):=by
   unfold puF fA pushE
   rw[ix1 (by omega),Int.toNat_natCast,tn1]
   simp only
   rw[wrap_i64 (n:=0 - least) (by omega) (by omega),wrap_i64 (by omega) (by omega)]
   congr 1;omega
  rw[e]
  refine⟨key (-least) (by omega) (by omega),fun w=>?_⟩
  rw[outL_set es gs i (-least) w hlen hi,xr1 hi (by omega),end0 (by omega),end1 (by omega)]
  split<;>split<;>omega
theorem fA_pu{gs:List Int}{least r x:Int}(hr:ResOk es.length r)(hx:ResOk es.length x)(hm:es.length≤1000)(hne:ixR x ≠ ixR r):fA (puF least gs r) x=fA gs x:=by
 unfold fA puF
 rw[getDI_set,if_neg]
 rintro⟨e,_⟩
 have h1:=(ixR_eq hr (by omega)).1
 have h2:=(ixR_eq hx (by omega)).1
 rw[h1,h2] at e
 rw[h1,h2] at hne
 simp only[Int.toNat_natCast] at e
 exact hne (by rw[e])
theorem capA_fA{gs:List Int}{x:Int}(h:fA gs x=fA fs x):capA es gs x=capA es fs x:=by unfold capA;rw[h]
theorem push_path(least:Int)(hl:0<least):∀(rs:List Int) (v:Int) (gs:List Int),PathT es fs by' frm ρ v rs→FlOk es gs→(∀r∈rs,fA gs r=fA fs r)→(∀r∈rs,least≤capA es fs r) →
  FlOk es (rs.foldl (puF least) gs)∧∀w,outL es (rs.foldl (puF least) gs) w=outL es gs w+((if frm=w then least else 0) - (if v=w then least else 0))
 | [],v,gs,hp,h,_,_=>by
  cases hp
  exact⟨h,fun w=>by simp only[List.foldl_nil];omega⟩
 | r::rs,v,gs,hp,h,hf,hc=>by
  have hd:=hp.dist h.sz
  have hk:=hp.rank
  cases hp with
  | cons h1 h2 h3 h4 h5 h6 h7 h8 =>
   obtain⟨a,b⟩:=push_one h h4 hl (by rw[capA_fA (hf r (by simp))];exact hc r (by simp))
   obtain⟨c,d⟩:=push_path least hl rs _ (puF least gs r) h8 a (fun x hx=>by
    rw[fA_pu h4 (hk x (by simp[hx])).1 h.sz (hd x hx)];exact hf x (by simp[hx])) (fun x hx=>hc x (by simp[hx]))
   rw[List.foldl_cons]
   refine⟨c,fun w=>?_⟩
   rw[d w,b w,h6]
   omega
theorem aug_ok(h:FlOk es fs){v:Int}{rs:List Int}(hp:PathT es fs by' frm ρ v rs):0<lsR es fs rs∧FlOk es (puR es fs rs)∧∀w,outL es (puR es fs rs) w=outL es fs w+((if frm=w then lsR es fs rs else 0) - (if v=w then lsR es fs rs else 0)):=by
 obtain⟨a,_,c⟩:=ls_fold (es:=es) (fs:=fs) rs 1073741824 (by omega) (fun r hr=>(hp.rank r hr).2.1)
 exact⟨a,push_path _ a rs v fs hp h (fun _ _=>rfl) c⟩
end
def sumM:List EdgT→Int
 | []=>0
 | x::es=>x.most+sumM es
theorem outL_le:∀(es:List EdgT) (fs:List Int) (w:Int),(∀i,i<es.length→0≤fs.getD i 0∧fs.getD i 0≤(es.getD i ⟨0,0,0⟩).most)→outL es fs w≤sumM es
 | [],fs,w,_=>by cases fs<;>simp[outL,sumM]
 | x::es,[],w,h=>by
  have h0:=h 0 (by simp)
  have h1:=outL_le es [] w (fun i hi=>by have:=h (i+1) (by simpa using hi);simpa using this)
  simp only[List.getD_cons_zero,List.getD_nil] at h0
  have e:outL es [] w=0:=by cases es<;>rfl
  simp only[outL,sumM]
  omega
 | x::es,f::fs,w,h=>by
  have h0:=h 0 (by simp)
  have h1:=outL_le es fs w (fun i hi=>by have:=h (i+1) (by simpa using hi);simpa using this)
  simp only[List.getD_cons_zero] at h0
  simp only[outL,sumM]
  split<;>split<;>omega
section
variable {es:List EdgT} {n:Nat} {frm to:Int}
theorem bs0_ok(hfr:0≤frm∧frm.toNat<n):SOk n (bs0 n es.length frm):=by
 refine⟨by simp[by0],by simp,by simp,?_,?_⟩
 ·intro v hv
  simp only[QF.list,List.mem_singleton] at hv
  subst hv;exact hfr
 ·have h1:unm (by0 n es.length frm)≤n:=by
   have:=List.countP_le_length (p:=fun x:Int=>Dd (x<0)) (l:=by0 n es.length frm)
   unfold unm
   simpa[by0] using this
  simp only[List.length_singleton];omega
theorem bs0_ti{fs:List Int}(hm:es.length≤1000)(hfr:0≤frm∧frm.toNat<n):TI es fs n frm (fun _=>0) (bs0 n es.length frm):=by
 have h0:(by0 n es.length frm).getD frm.toNat 0=2*(es.length:Int):=by
  unfold by0
  rw[getDI_set,if_pos ⟨rfl,by simpa using hfr.2⟩,wrap_i64 (by omega) (by omega)];omega
 refine⟨by simp[by0],?_,?_,?_⟩
 ·simp only;rw[h0];omega
 ·intro v hv
  simp only[QF.list,List.mem_singleton] at hv
  subst hv
  simp only;rw[h0];omega
 ·intro v hv hmk hne
  simp only at hmk
  unfold by0 at hmk
  rw[getDI_set,if_neg (by rintro⟨e,_⟩;omega)] at hmk
  have:(List.replicate n (-1:Int)).getD v 0 = -1:=by simp[List.getD,hv]
  rw[this] at hmk
  omega
theorem srch_ex(hm:es.length≤1000)(hin:∀x∈es,EdgIn n x)(hfr:0≤frm∧frm.toNat<n)(fs:List Int):∃k f ρ,Bfs (adjR n es) es fs to k (bs0 n es.length frm) f∧TI es fs n frm ρ f:=by
 have hB:∀B∈adjR n es,∀r∈B,ResOk es.length r:=fun B hb=>(adjR_ok n hm B hb).1
 obtain⟨k,f,hb⟩:=bfs_ex (fs:=fs) (to:=to) hm hin (adjR_len n es) hB _ (bs0 n es.length frm) (Nat.lt_succ_self _) (bs0_ok hfr)
 obtain⟨ρ,hT⟩:=TI.bfs (frm:=frm) hm hin (adjR_len n es) hB (adjR_law hm hin) hb (bs0_ok hfr) (bs0_ti hm hfr)
 exact⟨k,f,ρ,hb,hT⟩
structure Flow (es:List EdgT) (frm to:Int) (fs:List Int):Prop where
 ok:FlOk es fs
 cons:∀w,w ≠ frm→w ≠ to→outL es fs w=0
theorem Flow.aug{fs by':List Int}{ρ:Nat→Nat}{rs:List Int}(h:Flow es frm to fs)(hp:PathT es fs by' frm ρ to rs):Flow es frm to (puR es fs rs):=by
 obtain⟨_,b,c⟩:=aug_ok h.ok hp
 refine⟨b,fun w h1 h2=>?_⟩
 rw[c w,if_neg (fun e=>h1 e.symm),if_neg (fun e=>h2 e.symm),h.cons w h1 h2]
 rfl
theorem max_ex(hm:es.length≤1000)(hin:∀x∈es,EdgIn n x)(hfr:0≤frm∧frm.toNat<n)(hto:0≤to∧to.toNat<n)(hne:frm ≠ to):∀(m:Nat) (fs:List Int),(sumM es - outL es fs frm).toNat<m→Flow es frm to fs →
  ∃j g,MaxR (adjR n es) es n frm to j fs g∧Flow es frm to g.1∧∃k f ρ,Bfs (adjR n es) es g.1 to k (bs0 n es.length frm) f∧TI es g.1 n frm ρ f∧f.1=g.2∧g.2.getD to.toNat 0<0
 | 0,fs,h,_=>absurd h (Nat.not_lt_zero _)
 | m+1,fs,h,hF=>by
  obtain⟨k,f,ρ,hb,hT⟩:=srch_ex (to:=to) hm hin hfr fs
  by_cases hx:f.1.getD to.toNat 0<0
  ·exact⟨0,(fs,f.1),.done hb hx,hF,k,f,ρ,hb,hT,rfl,hx⟩
  ·obtain⟨rs,hp⟩:=path_ex hm hin hT _ to (Nat.lt_succ_self _) hto.1 hto.2 (by omega)
   obtain⟨a,b,c⟩:=aug_ok hF.ok hp
   have hle:=outL_le es (puR es fs rs) frm (fun i hi=>⟨b.lo i hi,b.hi i hi⟩)
   have hc:=c frm
   rw[if_pos rfl,if_neg (fun e=>hne e.symm)] at hc
   obtain⟨j,g,h1,h2⟩:=max_ex hm hin hfr hto hne m (puR es fs rs) (by omega) (hF.aug hp)
   exact⟨j+1,g,.step hb hx hp.path h1,h2⟩
theorem flow0(hm:es.length≤1000)(h0:∀x∈es,0≤x.most∧x.most≤1073741824):Flow es frm to (List.replicate es.length 0):=by
 have hg:∀i,(List.replicate es.length (0:Int)).getD i 0=0:=by
  intro i
  simp only[List.getD,List.getElem?_replicate]
  split<;>rfl
 have hx:∀i,i<es.length→es.getD i ⟨0,0,0⟩∈es:=by
  intro i hi
  have:es.getD i ⟨0,0,0⟩=es[i]:=by simp[List.getD,hi]
  rw[this];exact List.getElem_mem hi
 refine⟨⟨by simp,hm,fun i _=>by rw[hg];exact Int.le_refl _,fun i hi=>by rw[hg];exact(h0 _ (hx i hi)).1,fun i hi=>(h0 _ (hx i hi)).2⟩,fun w _ _=>?_⟩
 have:∀(l:List EdgT),outL l (List.replicate l.length 0) w=0:=by
  intro l
  induction l with
  | nil=>rfl
  | cons x l ih=>simp only[List.length_cons,List.replicate_succ,outL,ih];split<;>split<;>rfl
 exact this es
theorem max_all(hm:es.length≤1000)(hin:∀x∈es,EdgIn n x)(h0:∀x∈es,0≤x.most∧x.most≤1073741824)(hfr:0≤frm∧frm.toNat<n)(hto:0≤to∧to.toNat<n)(hne:frm ≠ to):
  ∃j g,MaxR (adjR n es) es n frm to j (List.replicate es.length 0) g∧Flow es frm to g.1∧∃k f ρ,Bfs (adjR n es) es g.1 to k (bs0 n es.length frm) f∧TI es g.1 n frm ρ f∧f.1=g.2∧g.2.getD to.toNat 0<0 :=
 max_ex hm hin hfr hto hne _ _ (Nat.lt_succ_self _) (flow0 hm h0)
end
section
variable {es:List EdgT} {fs by1 by':List Int} {frm to:Int} {i:Nat}
theorem edE{es:List EdgT}(hi:i<es.length):es[i]? = some (es.getD i ⟨0,0,0⟩):=by simp[List.getD,hi]
end
def adjP(v:Int):List EdgT→Nat→List Int
 | [],_=>[]
 | x::l,i=>(bif x.frm==v then [2*(i:Int)] else [])++((bif x.to==v then [2*(i:Int)+1] else [])++adjP v l (i+1))
theorem adj_p{n:Nat}:∀(l:List EdgT) (s:List (List Int)×Int) (i:Nat),s.2=i→i+l.length≤1000→s.1.length=n→(∀x∈l,EdgIn n x)→∀v:Nat,v<n→(l.foldl adjF s).1.getD v []=s.1.getD v []++adjP v l i
 | [],s,i,_,_,_,_,v,_=>by simp[adjP]
 | x::l,s,i,hi,hm,hA,hin,v,hv=>by
  rw[List.foldl_cons]
  simp only[List.length_cons] at hm
  obtain⟨x1,x2,x3,x4⟩:=hin x (by simp)
  have e1:IntKind.i64.wrap (2*s.2)=2*(i:Int):=by rw[hi];exact wrap_i64 (by omega) (by omega)
  have e2:IntKind.i64.wrap (2*(i:Int)+1)=2*(i:Int)+1:=wrap_i64 (by omega) (by omega)
  rw[adj_p l (adjF s x) (i+1) (by simp[adjF,hi]) (by omega) (by rw[adjF_len];exact hA) (fun y hy=>hin y (by simp[hy])) v hv]
  have key:(adjF s x).1.getD v []=s.1.getD v []++((bif x.frm==(v:Int) then [2*(i:Int)] else [])++(bif x.to==(v:Int) then [2*(i:Int)+1] else [])):=by
   unfold adjF
   rw[e1,e2]
   simp only[getD_set,List.length_set]
   by_cases h1:x.frm=(v:Int)
   ·by_cases h2:x.to=(v:Int)
    ·simp[h1,h2,hA,hv]
    ·have h3:¬x.to.toNat=v:=by omega
     have b2:(x.to==(v:Int))=false:=by simpa using h2
     simp[h1,b2,h3,hA,hv]
   ·have h4:¬x.frm.toNat=v:=by omega
    have b1:(x.frm==(v:Int))=false:=by simpa using h1
    by_cases h2:x.to=(v:Int)
    ·simp[b1,h2,h4,hA,hv]
    ·have h3:¬x.to.toNat=v:=by omega
     have b2:(x.to==(v:Int))=false:=by simpa using h2
     simp[b1,b2,h3,h4]
  rw[key]
  simp only[adjP,List.append_assoc]
theorem adjR_p{n:Nat}{es:List EdgT}(hm:es.length≤1000)(hin:∀x∈es,EdgIn n x){v:Nat}(hv:v<n):(adjR n es).getD v []=adjP v es 0:=by
 have h:=adj_p es (List.replicate n [],0) 0 rfl (by omega) (by simp) hin v hv
 have h0:(List.replicate n ([]:List Int)).getD v []=[]:=by simp[List.getD,hv]
 rw[h0,List.nil_append] at h
 exact h
section
variable {es:List EdgT} {fs:List Int} {to:Int} {n:Nat}
theorem usY_inl1{r u:Int}{s:List Int×QF}(h0:0≤u):usY (-1) r u s=.inl (sumV (usY (-1) r u s)):=by
 have:(u == -1)=false:=by simp only[beq_eq_false_iff_ne];omega
 unfold usY
 rw[this]
 cases Dd (s.1.getD u.toNat 0≥0)<;>rfl
def usV(es:List EdgT)(fs:List Int)(s:List Int×QF)(r:Int):List Int×QF:=sumV (usG es fs (-1) r s)
theorem usG_inl1{r:Int}{s:List Int×QF}(h0:0≤endA es r):usG es fs (-1) r s=.inl (usV es fs s r):=by
 unfold usV usG
 cases Dd (capA es fs r>0) with
 | true=>exact usY_inl1 h0
 | false=>rfl
theorem forL_inl1:∀(B:List Int) (s:List Int×QF),(∀r∈B,0≤endA es r)→forL (usG es fs (-1)) B s=.inl (B.foldl (usV es fs) s)
 | [],s,_=>rfl
 | r::B,s,h=>by
  simp only[forL,usG_inl1 (h r (by simp)),List.foldl_cons]
  exact forL_inl1 B _ (fun x hx=>h x (by simp[hx]))
theorem usY_full{r u:Int}{s s':List Int×QF}(h0:0≤u)(h:usY to r u s=.inl s'):usY (-1) r u s=.inl s':=by
 have e:(u == -1)=false:=by simp only[beq_eq_false_iff_ne];omega
 unfold usY at h ⊢
 rw[e]
 cases hd:Dd (s.1.getD u.toNat 0≥0) with
 | true=>rw[hd] at h;exact h
 | false =>
  rw[hd] at h
  cases ht:u==to with
  | true=>rw[ht] at h;cases h
  | false=>rw[ht] at h;exact h
theorem usY_stop{r u:Int}{s f:List Int×QF}(h0:0≤u)(h:usY to r u s=.inr f):∃s2,usY (-1) r u s=.inl s2∧s2.1=f.1∧f.1=s.1.set u.toNat r∧u=to:=by
 have e:(u == -1)=false:=by simp only[beq_eq_false_iff_ne];omega
 unfold usY at h ⊢
 rw[e]
 cases hd:Dd (s.1.getD u.toNat 0≥0) with
 | true=>rw[hd] at h;cases h
 | false =>
  rw[hd] at h
  cases ht:u==to with
  | true =>
   rw[ht] at h
   cases h
   exact⟨_,rfl,rfl,rfl,by simpa using ht⟩
  | false=>rw[ht] at h;cases h
theorem usG_full{r:Int}{s s':List Int×QF}(h0:0≤endA es r)(h:usG es fs to r s=.inl s'):usG es fs (-1) r s=.inl s':=by
 unfold usG at h ⊢
 cases hd:Dd (capA es fs r>0) with
 | true=>rw[hd] at h;exact usY_full h0 h
 | false=>rw[hd] at h;exact h
theorem usG_stop{r:Int}{s f:List Int×QF}(h0:0≤endA es r)(h:usG es fs to r s=.inr f):∃s2,usG es fs (-1) r s=.inl s2∧s2.1=f.1∧f.1=s.1.set to.toNat r:=by
 unfold usG at h ⊢
 cases hd:Dd (capA es fs r>0) with
 | true =>
  rw[hd] at h
  obtain⟨s2,a,b,c,d⟩:=usY_stop h0 h
  exact⟨s2,a,b,by rw[c,d]⟩
 | false=>rw[hd] at h;cases h
theorem forG_keep{to:Int}{w:Nat}:∀(B:List Int) (s:List Int×QF),0≤s.1.getD w 0→(sumV (forL (usG es fs to) B s)).1.getD w 0=s.1.getD w 0
 | [],s,_=>rfl
 | r::B,s,h=>by
  have h1:=usG_keep (es:=es) (fs:=fs) (to:=to) (r:=r) h
  simp only[forL]
  cases hg:usG es fs to r s with
  | inl s1 =>
   rw[hg] at h1
   simp only[sumV] at h1
   exact(forG_keep B s1 (by rw[h1];exact h)).trans h1
  | inr s1=>rw[hg] at h1;exact h1
theorem Bfs.keep{adj:List (List Int)}{to:Int}{k:Nat}{s f:List Int×QF}(h:Bfs adj es fs to k s f){w:Nat}:0≤s.1.getD w 0→f.1.getD w 0=s.1.getD w 0:=by
 induction h with
 | done _=>exact fun _=>rfl
 | stop hl hg =>
  rename_i s v rest f
  intro h0
  have h1:=forG_keep (es:=es) (fs:=fs) (to:=to) (w:=w) (adj.getD v.toNat []) (s.1,s.2.pop) h0
  rw[hg] at h1
  exact h1
 | step hl hg hk ih =>
  rename_i s v rest s' f k
  intro h0
  have h1:=forG_keep (es:=es) (fs:=fs) (to:=to) (w:=w) (adj.getD v.toNat []) (s.1,s.2.pop) h0
  rw[hg] at h1
  simp only[sumV] at h1
  rw[ih (by rw[h1];exact h0)]
  exact h1
theorem forL_full:∀(B:List Int) (s s':List Int×QF),(∀r∈B,0≤endA es r)→forL (usG es fs to) B s=.inl s'→forL (usG es fs (-1)) B s=.inl s'
 | [],s,s',_,h=>h
 | r::B,s,s',hB,h=>by
  simp only[forL] at h ⊢
  cases hg:usG es fs to r s with
  | inl s1 =>
   rw[hg] at h
   rw[usG_full (hB r (by simp)) hg]
   exact forL_full B s1 s' (fun x hx=>hB x (by simp[hx])) h
  | inr s1=>rw[hg] at h;cases h
theorem forL_stop:∀(B:List Int) (s f:List Int×QF),(∀r∈B,0≤r∧0≤endA es r)→forL (usG es fs to) B s=.inr f→to.toNat<s.1.length→0≤f.1.getD to.toNat 0∧∃s2,forL (usG es fs (-1)) B s=.inl s2∧∀w:Nat,0≤f.1.getD w 0→s2.1.getD w 0=f.1.getD w 0
 | [],s,f,_,h,_=>by cases h
 | r::B,s,f,hB,h,hn=>by
  simp only[forL] at h ⊢
  obtain⟨hr,he⟩:=hB r (by simp)
  cases hg:usG es fs to r s with
  | inl s1 =>
   rw[hg] at h
   rw[usG_full he hg]
   have hl:=usG_len es fs to r s
   rw[hg] at hl
   exact forL_stop B s1 f (fun x hx=>hB x (by simp[hx])) h (by simp only[sumV] at hl;omega)
  | inr s1 =>
   rw[hg] at h
   cases h
   obtain⟨s2,a,b,c⟩:=usG_stop he hg
   rw[a]
   refine⟨by rw[c,getDI_set,if_pos ⟨rfl,hn⟩];exact hr,_,forL_inl1 B s2 (fun x hx=>(hB x (by simp[hx])).2),fun w hw=>?_⟩
   have h3:=forG_keep (es:=es) (fs:=fs) (to := -1) (w:=w) B s2 (by rw[b];exact hw)
   rw[forL_inl1 B s2 (fun x hx=>(hB x (by simp[hx])).2)] at h3
   simp only[sumV] at h3
   rw[h3,b]
theorem bfs_full(hm:es.length≤1000)(hin:∀x∈es,EdgIn n x)(hto:to.toNat<n){adj:List (List Int)}(ha:adj.length=n)(hB:∀B∈adj,∀r∈B,ResOk es.length r){k:Nat}{s f:List Int×QF}(hb:Bfs adj es fs to k s f):
  SOk n s→∃k' f',Bfs adj es fs (-1) k' s f'∧(∀w:Nat,0≤f.1.getD w 0→f'.1.getD w 0=f.1.getD w 0)∧(f.1.getD to.toNat 0<0→f'=f):=by
 have key:∀{s:List Int×QF} {v:Int} {rest:List Int},SOk n s→s.2.list=v::rest→∀r∈adj.getD v.toNat [],ResOk es.length r∧0≤r∧0≤endA es r:=by
  intro s v rest hs hl r hr
  obtain⟨v0,v1⟩:=hs.mem v (by rw[hl];simp)
  have:adj.getD v.toNat []=adj[v.toNat]'(by omega):=by simp[List.getD,ha,v1]
  rw[this] at hr
  have h:=hB _ (List.getElem_mem _) r hr
  exact⟨h,h.1,(endA_in h (by omega) hin).1⟩
 induction hb with
 | done he=>exact fun _=>⟨0,_,.done he,fun _ _=>rfl,fun _=>rfl⟩
 | stop hl hf =>
  intro hs
  have hk:=key hs hl
  obtain⟨a,s2,b,c⟩:=forL_stop _ _ _ (fun r hr=>(hk r hr).2) hf (by simp only;rw[hs.len];exact hto)
  have hs2:=SOk.forL hm hin _ _ _ (fun r hr=>(hk r hr).1) (hs.pop hl) b
  obtain⟨k',f',hb'⟩:=bfs_ex (fs:=fs) (to := -1) hm hin ha hB _ s2 (Nat.lt_succ_self _) hs2
  refine⟨k'+1,f',.step hl b hb',fun w hw=>?_,fun h=>by omega⟩
  have:=hb'.keep (w:=w) (by rw[c w hw];exact hw)
  rw[this,c w hw]
 | step hl hf _ ih =>
  intro hs
  have hk:=key hs hl
  obtain⟨k',f',a,b,c⟩:=ih (SOk.forL hm hin _ _ _ (fun r hr=>(hk r hr).1) (hs.pop hl) hf)
  exact⟨k'+1,f',.step hl (forL_full _ _ _ (fun r hr=>(hk r hr).2.2) hf) a,b,c⟩
end
theorem getDG_set{α:Type}{l:List α}{u w:Nat}{r d:α}:(l.set u r).getD w d=if u=w∧u<l.length then r else l.getD w d:=by
 simp only[List.getD,List.getElem?_set]
 by_cases h:u=w
 ·subst h
  by_cases h2:u<l.length
  ·simp[h2]
  ·simp[h2]
 ·simp[h]
section
variable {es:List EdgT} {fs:List Int} {n:Nat} {frm:Int} {pos:Nat}
theorem SOk.usV(hm:es.length≤1000)(hin:∀x∈es,EdgIn n x){s:List Int×QF}{r:Int}(hr:ResOk es.length r)(h:SOk n s):SOk n (Vi.usV es fs s r):=by
 obtain⟨e0,e1⟩:=endA_in hr (by omega) hin
 have hg:=usG_inl1 (es:=es) (fs:=fs) (s:=s) e0
 unfold usG at hg
 cases hd:Dd (capA es fs r>0) with
 | true=>rw[hd] at hg;exact h.usY hr.1 e0 e1 hg
 | false =>
  rw[hd] at hg
  cases hg':Vi.usV es fs s r
  simp only[hg'] at hg
  cases hg
  exact h
end
theorem cut_fold:∀(l:List Int) (a b:List Bool) (i:Nat),a.length=i→l.length=b.length→(l.foldl cutF (a++b,i)).1=a++l.map fun x=>Dd (x≥0)
 | [],a,b,i,_,h=>by
  cases b with
  | nil=>simp
  | cons _ _=>simp at h
 | x::l,a,[],i,_,h=>by simp at h
 | x::l,a,c::b,i,hi,h=>by
  rw[List.foldl_cons]
  have e:cutF (a++c::b,i) x=((a++[Dd (x≥0)])++b,i+1):=by
   unfold cutF
   subst hi
   simp
  rw[e,cut_fold l _ b (i+1) (by simp[hi]) (by simpa using h)]
  simp
theorem cutR_eq(by':List Int):cutR by'=by'.map fun x=>Dd (x≥0):=by
 unfold cutR
 exact cut_fold by' [] _ 0 rfl (by simp)
section
variable {es:List EdgT} {n:Nat} {frm to:Int}
theorem rowB{l:List Bool}{v:Int}{a:Bool}(h0:0≤v)(h:l[v.toNat]? = some a):RowAt v (rowsB l) [.v (.bool a)] 1:=by
 have:=rowAt (row:=fun b:Bool=>[Dp.v (.bool b)]) (sz:=1) h rfl
 rw[Int.toNat_of_nonneg h0] at this
 exact this
end
end Go.Vi
