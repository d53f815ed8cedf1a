/- DegreeAuditSpec: part of the proof: contracts of the functions that the law reaches, and the law. No conditions beyond the given statement's own. -/
import Derived.Test.YthokmgafnhmlbaaGreatDoorW3
open Decidable renaming decide → Dd
open Go Go.Proofs
namespace Go.Vi
set_option maxRecDepth 100000
set_option maxHeartbeats 4000000
def mnI(a b:Int):Int:=if b<a then b else a
abbrev mH(es:List EdgT)(A:List (List Dp))(fs:List Int)(frm to:Int)(by':List Int)(least:Int):List Blk :=
 [.var [int frm],.var [int to],.vec (vecI fs) 0 1,.gone,.var [rowsD' (es.map EdgT.row),.ref (.vec 2 0),rowsD' A],.var [.ref (.ptr 4 0)],.var [int to],.var [.ref (.vec 9 0)],.vec [[int (-1)]] 0 1,.vec (vecI by') 0 1,.var [.ref (.vec 9 0)],.var [int least]]
noncomputable abbrev least_ev_x0(es:List EdgT)(A:List (List Dp))(fs:List Int)(by':List Int)(frm:Int)(to:Int)(least:Int):List Blk:=[.var [int frm],.var [int to],.vec (vecI fs) 0 1,.gone,.var [rowsD' (List.map EdgT.row es),.ref (.vec 2 0),rowsD' A],.var [.ref (.ptr 4 0)],.var [int to],.var [.ref (.vec 9 0)],.vec [[int (-1)]] 0 1,.vec (vecI by') 0 1,.var [.ref (.vec 9 0)],.var [int least]]
theorem least_ev{es:List EdgT}{A:List (List Dp)}{fs by':List Int}{frm to least r f:Int}{x:EdgT}{q:Nat}(hq:IntKind.i64.wrap (Int.tdiv r 2)=(q:Int))(hx:RowAt (IntKind.i64.wrap (Int.tdiv r 2)) (es.map EdgT.row) x.row 3)(hf:fs[Int.toNat (IntKind.i64.wrap (Int.tdiv r 2))]? = some f)(hl:q<fs.length):(Ev Tryz.prog Γ0 72 [int r,.ref (.ptr 11 0),.ref (.ptr 5 0)] (mH es A fs frm to by' least) (.tup []) (mH es A fs frm to by' (mnI least (capE r x f)))):=by
 refine Ev.castH (Ev.of_sym (h':=[.var [int frm],.var [int to],.vec (vecI fs) 0 1,.gone,.var [rowsD' (List.map EdgT.row es),.ref (.vec 2 0),rowsD' A],.var [.ref (.ptr 4 0)],.var [int to],.var [.ref (.vec 9 0)],.vec [[int (-1)]] 0 1,.vec (vecI by') 0 1,.var [.ref (.vec 9 0)],.var [int (if false=true then if capE r x f>least then capE r x f else least else if capE r x f<least then capE r x f else least)]]) (d:=D.tup []) pok [.val (int (capE r x f))] (by kernel_rfl) (.c (show Ev Tryz.prog Γ0 73 [.ref (.ptr 4 0),int r] (least_ev_x0 es A fs by' frm to least) (int (capE r x f)) (least_ev_x0 es A fs by' frm to least) from(Ev.castH (Ev.frameX (args:=[.ref (.ptr 4 0),int r]) (H:=(least_ev_x0 es A fs by' frm to least)) [2,3,4] (@cap_ev (es) (A) (fs) (r) (f) (x) (q) (hq) (hx) (hf) (hl)) (by kernel_rfl) (by kernel_rfl) (by kernel_rfl) ⟨?_,trivial⟩ ⟨?_,trivial⟩) (by kernel_rfl) (by kernel_rfl))) (.e (int least) (.e (int least) (.e (.ref (.ptr 4 0)) .n))))) (by rfl) (by rfl)<;>(first|rfl|exact mapRL_rows _ _|first|assumption|rfl|exact vecI_map _ _|exact vecI_inn _ _)
theorem push_ev{es:List EdgT}{A:List (List Dp)}{fs:List Int}{r f d:Int}{q:Nat}(hq:IntKind.i64.wrap (Int.tdiv r 2)=(q:Int))(hf:fs[Int.toNat (IntKind.i64.wrap (Int.tdiv r 2))]? = some f)(hl:q<fs.length)(hl2:Int.toNat (IntKind.i64.wrap (Int.tdiv r 2))<fs.length):Ev Tryz.prog Γ0 75 [.ref (.ptr 2 0),int r,int d] (fwH es A fs) (.tup []) (fwH es A (fs.set (Int.toNat (IntKind.i64.wrap (Int.tdiv r 2))) (IntKind.i64.wrap (f+pushE r d)))):=push_a hq hf hl hl2
noncomputable abbrev pushes_ev_x0(es:List EdgT)(A:List (List Dp))(fs:List Int)(by':List Int)(frm:Int)(to:Int)(least:Int)(r:Int)(f:Int):List Blk:=[.var [int frm],.var [int to],.vec (vecI (List.set fs (Int.toNat (IntKind.wrap IntKind.i64 (Int.tdiv r 2))) (IntKind.wrap IntKind.i64 (f+pushE r least)))) 0 1,.gone,.var [rowsD' (List.map EdgT.row es),.ref (.vec 2 0),rowsD' A],.var [.ref (.ptr 4 0)],.var [int to],.var [.ref (.vec 9 0)],.vec [[int (-1)]] 0 1,.vec (vecI by') 0 1,.var [.ref (.vec 9 0)],.var [int least]]
noncomputable abbrev pushes_ev_x1(es:List EdgT)(A:List (List Dp))(fs:List Int)(by':List Int)(frm:Int)(to:Int)(least:Int):List Blk:=[.var [int frm],.var [int to],.vec (vecI fs) 0 1,.gone,.var [rowsD' (List.map EdgT.row es),.ref (.vec 2 0),rowsD' A],.var [.ref (.ptr 4 0)],.var [int to],.var [.ref (.vec 9 0)],.vec [[int (-1)]] 0 1,.vec (vecI by') 0 1,.var [.ref (.vec 9 0)],.var [int least]]
theorem pushes_ev{es:List EdgT}{A:List (List Dp)}{fs by':List Int}{frm to least r f:Int}{q:Nat}(hq:IntKind.i64.wrap (Int.tdiv r 2)=(q:Int))(hf:fs[Int.toNat (IntKind.i64.wrap (Int.tdiv r 2))]? = some f)(hl:q<fs.length)(hl2:Int.toNat (IntKind.i64.wrap (Int.tdiv r 2))<fs.length):(Ev Tryz.prog Γ0 74 [int r,.ref (.ptr 5 0),.ref (.ptr 11 0)] (mH es A fs frm to by' least) (.tup []) (mH es A (fs.set (Int.toNat (IntKind.i64.wrap (Int.tdiv r 2))) (IntKind.i64.wrap (f+pushE r least))) frm to by' least)):=by
 refine Ev.castH (Ev.of_sym (h':=(pushes_ev_x0 es A fs by' frm to least r f)) (d:=D.tup []) pok [.call (D.tup []) (pushes_ev_x0 es A fs by' frm to least r f)] (by kernel_rfl) (.c (show Ev Tryz.prog Γ0 75 [.ref (.ptr 4 0),int r,int least] (pushes_ev_x1 es A fs by' frm to least) (D.tup []) (pushes_ev_x0 es A fs by' frm to least r f) from(Ev.castH (Ev.frameX (args:=[.ref (.ptr 4 0),int r,int least]) (H:=(pushes_ev_x1 es A fs by' frm to least)) [2,3,4] (@push_ev (es) (A) (fs) (r) (f) (least) (q) (hq) (hf) (hl) (hl2)) (by kernel_rfl) (by kernel_rfl) (by kernel_rfl) ⟨?_,trivial⟩ ⟨?_,trivial⟩) (by kernel_rfl) (by kernel_rfl))) .n)) (by rfl) (by rfl)<;>(first|rfl|exact mapRL_rows _ _|first|assumption|rfl|exact vecI_map _ _|exact vecI_inn _ _)
def xr(r:Int):Int:=IntKind.i64.wrap (BitVec.ofInt IntKind.i64.bits r ^^^ BitVec.ofInt IntKind.i64.bits 1).toNat
abbrev aS(es:List EdgT)(A:List (List Dp))(fs:List Int)(frm to:Int)(by':List Int)(least v:Int)(d:D):AS:={t:=mkT 24 0 [(0,d),(1,.ref (.ptr 1 0)),(2,.ref (.ptr 0 0)),(3,.ref (.ptr 5 0)),(4,.ref (.ptr 10 0)),(6,int v)],h:=mH es A fs frm to by' least,m:=[]}
abbrev d72:D:=.fn (.func 72) [] [.ref (.ptr 11 0),.ref (.ptr 5 0)]
abbrev d74:D:=.fn (.func 74) [] [.ref (.ptr 5 0),.ref (.ptr 11 0)]
theorem al_last{es:List EdgT}{A:List (List Dp)}{fs gs by':List Int}{frm to l0 least v:Int}{d:D}(hv:(v != frm)=false):(CW Tryz.prog Γ0 (mH es A gs frm to by' l0) false (sub Tryz.f70 0) (aS es A fs frm to by' least v d) (.exit 0) {t:=mkT 24 0 [],h:=mH es A fs frm to by' least,m:=[]}):=by
 exact CW.cast (CW.symX (s':={t:=mkT 24 0 [],h:=[.var [int frm],.var [int to],.vec (vecI fs) 0 1,.gone,.var [rowsD' (List.map EdgT.row es),.ref (.vec 2 0),rowsD' A],.var [.ref (.ptr 4 0)],.var [int to],.var [.ref (.vec 9 0)],.vec [[int (-1)]] 0 1,.vec (vecI by') 0 1,.var [.ref (.vec 9 0)],.var [int least]],m:=[]}) (e:=Exit.exit 0) pok [.st (.mask [])] [.b false] (by kernel_rfl) (.c hv .n)) (by rfl) (by rfl)
noncomputable abbrev al_least_x0(es:List EdgT)(A:List (List Dp))(fs:List Int)(by':List Int)(frm:Int)(to:Int)(least:Int)(r:Int)(f:Int)(x:EdgT):List Blk:=[.var [int frm],.var [int to],.vec (vecI fs) 0 1,.gone,.var [rowsD' (List.map EdgT.row es),.ref (.vec 2 0),rowsD' A],.var [.ref (.ptr 4 0)],.var [int to],.var [.ref (.vec 9 0)],.vec [[int (-1)]] 0 1,.vec (vecI by') 0 1,.var [.ref (.vec 9 0)],.var [int (mnI least (capE r x f))]]
noncomputable abbrev al_least_x1(es:List EdgT)(A:List (List Dp))(fs:List Int)(by':List Int)(frm:Int)(to:Int)(least:Int):List Blk:=[.var [int frm],.var [int to],.vec (vecI fs) 0 1,.gone,.var [rowsD' (List.map EdgT.row es),.ref (.vec 2 0),rowsD' A],.var [.ref (.ptr 4 0)],.var [int to],.var [.ref (.vec 9 0)],.vec [[int (-1)]] 0 1,.vec (vecI by') 0 1,.var [.ref (.vec 9 0)],.var [int least]]
theorem al_least{es:List EdgT}{A:List (List Dp)}{fs gs by':List Int}{frm to l0 least v r f:Int}{x y:EdgT}{q:Nat}(hv:(v != frm)=true)(h0:0≤v)(hb:by'[v.toNat]? = some r)(hq:IntKind.i64.wrap (Int.tdiv r 2)=(q:Int))(hx:RowAt (IntKind.i64.wrap (Int.tdiv r 2)) (es.map EdgT.row) x.row 3)(hf:fs[Int.toNat (IntKind.i64.wrap (Int.tdiv r 2))]? = some f)(hl:q<fs.length)
  (hy:RowAt (IntKind.i64.wrap (Int.tdiv (xr r) 2)) (es.map EdgT.row) y.row 3):(CW Tryz.prog Γ0 (mH es A gs frm to by' l0) false (sub Tryz.f70 0) (aS es A fs frm to by' least v d72) .normal (aS es A fs frm to by' (mnI least (capE r x f)) (endE (xr r) y) d72)):=by
 refine CW.cast (CW.symX (s':={t:=mkT 24 0 [(0,D.fn (Fn.func 72) [] [.ref (.ptr 11 0),.ref (.ptr 5 0)]),(1,.ref (.ptr 1 0)),(2,.ref (.ptr 0 0)),(3,.ref (.ptr 5 0)),(4,.ref (.ptr 10 0)),(6,int (endE (IntKind.wrap IntKind.i64 (↑(BitVec.toNat (BitVec.ofInt 64 r ^^^ BitVec.ofInt 64 1)):Int)) y))],h:=(al_least_x0 es A fs by' frm to least r f x),m:=[]}) (e:=Exit.normal) pok [.st (.mask [0,1,2,3,4,6])] [.b true,.ov 22 (int r),.call (D.tup []) (al_least_x0 es A fs by' frm to least r f x),.ov 15 (int r),.val (int (endE (IntKind.wrap IntKind.i64 (↑(BitVec.toNat (BitVec.ofInt 64 r ^^^ BitVec.ofInt 64 1)):Int)) y))] (by kernel_rfl) (.c hv (.c (show inR v (List.length (vecI by'))=true from ?_) (.c (show loadD Tryz.prog (al_least_x1 es A fs by' frm to least) 3 (.ref (.vp 9 0 (Int.toNat v) 0))=some (int r) from ?_) (.c (@least_ev (es) (A) (fs) (by') (frm) (to) (least) (r) (f) (x) (q) (hq) (hx) (hf) (hl)) (.c (show inR v (List.length (vecI by'))=true from ?_) (.c (show loadD Tryz.prog (al_least_x0 es A fs by' frm to least r f x) 3 (evalD Γ0 [D.fn (Fn.func 72) [] [.ref (.ptr 11 0),.ref (.ptr 5 0)],.ref (.ptr 1 0),.ref (.ptr 0 0),.ref (.ptr 5 0),.ref (.ptr 10 0),D.any,int v,D.any,int v,int frm,bool (v != frm),.ref (.ptr 4 0),.ref (.vec 9 0),int v,.ref (.vp 9 0 (Int.toNat v) 0),D.any,D.any,D.any,D.fn (Fn.func 72) [] [.ref (.ptr 11 0),.ref (.ptr 5 0)],.ref (.vec 9 0),int v,.ref (.vp 9 0 (Int.toNat v) 0),int r,D.tup []] (Operand.tmp 14))=some (int r) from ?_) (.c (show Ev Tryz.prog Γ0 71 [.ref (.ptr 4 0),int (IntKind.wrap IntKind.i64 (↑(BitVec.toNat (BitVec.ofInt 64 r ^^^ BitVec.ofInt 64 1)):Int))] (al_least_x0 es A fs by' frm to least r f x) (int (endE (IntKind.wrap IntKind.i64 (↑(BitVec.toNat (BitVec.ofInt 64 r ^^^ BitVec.ofInt 64 1)):Int)) y)) (al_least_x0 es A fs by' frm to least r f x) from(Ev.castH (Ev.frameX (args:=[.ref (.ptr 4 0),int (IntKind.wrap IntKind.i64 (↑(BitVec.toNat (BitVec.ofInt 64 r ^^^ BitVec.ofInt 64 1)):Int))]) (H:=(al_least_x0 es A fs by' frm to least r f x)) [2,3,4] (@end_ev (es) (A) (fs) (IntKind.wrap IntKind.i64 (↑(BitVec.toNat (BitVec.ofInt 64 r ^^^ BitVec.ofInt 64 1)):Int)) (y) (hy)) (by kernel_rfl) (by kernel_rfl) (by kernel_rfl) ⟨(by first|rfl|exact mapRL_rows _ _|first|assumption|rfl|exact vg_in h0 hb|exact vg_load rfl hb|exact vg_vp hb|exact vecI_map _ _|exact vecI_inn _ _),trivial⟩ ⟨(by first|rfl|exact mapRL_rows _ _|first|assumption|rfl|exact vg_in h0 hb|exact vg_load rfl hb|exact vg_vp hb|exact vecI_map _ _|exact vecI_inn _ _),trivial⟩) (by kernel_rfl) (by kernel_rfl))) .n)))))))) (by rfl) (by rfl)<;>(first|assumption|rfl|exact vg_in h0 hb|exact vg_load rfl hb|exact vg_vp hb|exact vecI_map _ _|exact vecI_inn _ _)
noncomputable abbrev al_push_x0(es:List EdgT)(A:List (List Dp))(fs:List Int)(by':List Int)(frm:Int)(to:Int)(least:Int)(r:Int)(f:Int):List Blk:=[.var [int frm],.var [int to],.vec (vecI (List.set fs (Int.toNat (IntKind.wrap IntKind.i64 (Int.tdiv r 2))) (IntKind.wrap IntKind.i64 (f+pushE r least)))) 0 1,.gone,.var [rowsD' (List.map EdgT.row es),.ref (.vec 2 0),rowsD' A],.var [.ref (.ptr 4 0)],.var [int to],.var [.ref (.vec 9 0)],.vec [[int (-1)]] 0 1,.vec (vecI by') 0 1,.var [.ref (.vec 9 0)],.var [int least]]
noncomputable abbrev al_push_x1(es:List EdgT)(A:List (List Dp))(fs:List Int)(by':List Int)(frm:Int)(to:Int)(least:Int):List Blk:=[.var [int frm],.var [int to],.vec (vecI fs) 0 1,.gone,.var [rowsD' (List.map EdgT.row es),.ref (.vec 2 0),rowsD' A],.var [.ref (.ptr 4 0)],.var [int to],.var [.ref (.vec 9 0)],.vec [[int (-1)]] 0 1,.vec (vecI by') 0 1,.var [.ref (.vec 9 0)],.var [int least]]
theorem al_push{es:List EdgT}{A:List (List Dp)}{fs gs by':List Int}{frm to l0 least v r f:Int}{y:EdgT}{q:Nat}(hv:(v != frm)=true)(h0:0≤v)(hb:by'[v.toNat]? = some r)(hq:IntKind.i64.wrap (Int.tdiv r 2)=(q:Int))(hf:fs[Int.toNat (IntKind.i64.wrap (Int.tdiv r 2))]? = some f)(hl:q<fs.length)(hl2:Int.toNat (IntKind.i64.wrap (Int.tdiv r 2))<fs.length)
  (hy:RowAt (IntKind.i64.wrap (Int.tdiv (xr r) 2)) (es.map EdgT.row) y.row 3):(CW Tryz.prog Γ0 (mH es A gs frm to by' l0) false (sub Tryz.f70 0) (aS es A fs frm to by' least v d74) .normal (aS es A (fs.set (Int.toNat (IntKind.i64.wrap (Int.tdiv r 2))) (IntKind.i64.wrap (f+pushE r least))) frm to by' least (endE (xr r) y) d74)):=by
 refine CW.cast (CW.symX (s':={t:=mkT 24 0 [(0,D.fn (Fn.func 74) [] [.ref (.ptr 5 0),.ref (.ptr 11 0)]),(1,.ref (.ptr 1 0)),(2,.ref (.ptr 0 0)),(3,.ref (.ptr 5 0)),(4,.ref (.ptr 10 0)),(6,int (endE (IntKind.wrap IntKind.i64 (↑(BitVec.toNat (BitVec.ofInt 64 r ^^^ BitVec.ofInt 64 1)):Int)) y))],h:=(al_push_x0 es A fs by' frm to least r f),m:=[]}) (e:=Exit.normal) pok [.st (.mask [0,1,2,3,4,6])] [.b true,.ov 22 (int r),.call (D.tup []) (al_push_x0 es A fs by' frm to least r f),.ov 15 (int r),.val (int (endE (IntKind.wrap IntKind.i64 (↑(BitVec.toNat (BitVec.ofInt 64 r ^^^ BitVec.ofInt 64 1)):Int)) y))] (by kernel_rfl) (.c hv (.c (show inR v (List.length (vecI by'))=true from ?_) (.c (show loadD Tryz.prog (al_push_x1 es A fs by' frm to least) 3 (.ref (.vp 9 0 (Int.toNat v) 0))=some (int r) from ?_) (.c (@pushes_ev (es) (A) (fs) (by') (frm) (to) (least) (r) (f) (q) (hq) (hf) (hl) (hl2)) (.c (show inR v (List.length (vecI by'))=true from ?_) (.c (show loadD Tryz.prog (al_push_x0 es A fs by' frm to least r f) 3 (evalD Γ0 [D.fn (Fn.func 74) [] [.ref (.ptr 5 0),.ref (.ptr 11 0)],.ref (.ptr 1 0),.ref (.ptr 0 0),.ref (.ptr 5 0),.ref (.ptr 10 0),D.any,int v,D.any,int v,int frm,bool (v != frm),.ref (.ptr 4 0),.ref (.vec 9 0),int v,.ref (.vp 9 0 (Int.toNat v) 0),D.any,D.any,D.any,D.fn (Fn.func 74) [] [.ref (.ptr 5 0),.ref (.ptr 11 0)],.ref (.vec 9 0),int v,.ref (.vp 9 0 (Int.toNat v) 0),int r,D.tup []] (Operand.tmp 14))=some (int r) from ?_) (.c (show Ev Tryz.prog Γ0 71 [.ref (.ptr 4 0),int (IntKind.wrap IntKind.i64 (↑(BitVec.toNat (BitVec.ofInt 64 r ^^^ BitVec.ofInt 64 1)):Int))] (al_push_x0 es A fs by' frm to least r f) (int (endE (IntKind.wrap IntKind.i64 (↑(BitVec.toNat (BitVec.ofInt 64 r ^^^ BitVec.ofInt 64 1)):Int)) y)) (al_push_x0 es A fs by' frm to least r f) from(Ev.castH (Ev.frameX (args:=[.ref (.ptr 4 0),int (IntKind.wrap IntKind.i64 (↑(BitVec.toNat (BitVec.ofInt 64 r ^^^ BitVec.ofInt 64 1)):Int))]) (H:=(al_push_x0 es A fs by' frm to least r f)) [2,3,4] (@end_ev (es) (A) (List.set fs (Int.toNat (IntKind.wrap IntKind.i64 (Int.tdiv r 2))) (IntKind.wrap IntKind.i64 (f+pushE r least))) (IntKind.wrap IntKind.i64 (↑(BitVec.toNat (BitVec.ofInt 64 r ^^^ BitVec.ofInt 64 1)):Int)) (y) (hy)) (by kernel_rfl) (by kernel_rfl) (by kernel_rfl) ⟨(by first|rfl|exact mapRL_rows _ _|first|assumption|rfl|exact vg_in h0 hb|exact vg_load rfl hb|exact vg_vp hb|exact vecI_map _ _|exact vecI_inn _ _),trivial⟩ ⟨(by first|rfl|exact mapRL_rows _ _|first|assumption|rfl|exact vg_in h0 hb|exact vg_load rfl hb|exact vg_vp hb|exact vecI_map _ _|exact vecI_inn _ _),trivial⟩) (by kernel_rfl) (by kernel_rfl))) .n)))))))) (by rfl) (by rfl)<;>(first|assumption|rfl|exact vg_in h0 hb|exact vg_load rfl hb|exact vg_vp hb|exact vecI_map _ _|exact vecI_inn _ _)
theorem xor_one(k:Nat):k ^^^ 1=if k % 2=0 then k+1 else k - 1:=by
 have h1:(k ^^^ 1) / 2=k / 2:=by rw[Nat.xor_div_two];simp
 have h2:(k ^^^ 1) % 2=(k+1) % 2:=by
  have:=@Nat.xor_mod_two_eq_one k 1
  omega
 split<;>omega
theorem xr_eq{m:Nat}{r:Int}(h:ResOk m r)(hm:m≤1000000):xr r=if r.toNat % 2=0 then r+1 else r - 1:=by
 obtain⟨h0,h1⟩:=h
 obtain⟨k,rfl⟩:=Int.eq_ofNat_of_zero_le h0
 have hk:k<2000000:=by omega
 have e:(BitVec.ofInt IntKind.i64.bits (k:Int) ^^^ BitVec.ofInt IntKind.i64.bits 1).toNat=k ^^^ 1:=by
  rw[BitVec.toNat_xor]
  have e1:(BitVec.ofInt IntKind.i64.bits (k:Int)).toNat=k:=by
   show(BitVec.ofInt 64 (k:Int)).toNat=k
   rw[BitVec.toNat_ofInt];omega
  have e2:(BitVec.ofInt IntKind.i64.bits 1).toNat=1:=rfl
  rw[e1,e2]
 unfold xr
 rw[e,xor_one]
 simp only[Int.toNat_natCast]
 split
 ·rw[wrap_i64 (by omega) (by omega)];omega
 ·rw[wrap_i64 (by omega) (by omega)];omega
theorem xr_ok{m:Nat}{r:Int}(h:ResOk m r)(hm:m≤1000000):ResOk m (xr r):=by
 rw[xr_eq h hm]
 obtain⟨h0,h1⟩:=h
 split<;>constructor<;>omega
inductive Path (es:List EdgT) (by':List Int) (frm:Int):Int→List Int→Prop
 | nil:Path es by' frm frm []
 | cons {v r rs}:v ≠ frm→0≤v→by'[v.toNat]? = some r→ResOk es.length r→Path es by' frm (endA es (xr r)) rs→Path es by' frm v (r::rs)
def lsF(es:List EdgT)(fs:List Int)(least r:Int):Int:=mnI least (capA es fs r)
def puF(least:Int)(fs:List Int)(r:Int):List Int:=fs.set (ixR r).toNat (IntKind.i64.wrap (fA fs r+pushE r least))
theorem puF_len(least:Int)(fs:List Int)(r:Int):(puF least fs r).length=fs.length:=by simp[puF]
theorem puF_fold(least:Int):∀(rs:List Int) (fs:List Int),(rs.foldl (puF least) fs).length=fs.length
 | [],_=>rfl
 | r::rs,fs=>by rw[List.foldl_cons,puF_fold least rs,puF_len]
section
variable {es:List EdgT} {A:List (List Dp)} {fs by':List Int} {frm to:Int}
theorem al_loop1(hl:fs.length=es.length)(hm:es.length≤1000){gs:List Int}{l0 least v:Int}{rs:List Int}(hp:Path es by' frm v rs):
  CW Tryz.prog Γ0 (mH es A gs frm to by' l0) false (.loop (sub Tryz.f70 0)) (aS es A fs frm to by' least v d72) (.exit 0) {t:=mkT 24 0 [],h:=mH es A fs frm to by' (rs.foldl (lsF es fs) least),m:=[]}:=by
 refine CW.loop (ι:={p:Int×Int×List Int // Path es by' frm p.1 p.2.2}) (fun p=>aS es A fs frm to by' p.1.2.1 p.1.1 d72) (fun p=>(.exit 0,{t:=mkT 24 0 [],h:=mH es A fs frm to by' (p.1.2.2.foldl (lsF es fs) p.1.2.1),m:=[]})) (fun p=>p.1.2.2.length) ?_ ⟨(v,least,rs),hp⟩
 rintro⟨⟨v,least,rs⟩,hp⟩
 cases hp with
 | nil=>exact .inr ⟨by simp,al_last (by simp)⟩
 | cons h1 h2 h3 h4 h5 =>
  rename_i r rs
  have hq:=ixR_eq h4 (by omega)
  refine .inl ⟨⟨(endA es (xr r),lsF es fs least r,rs),h5⟩,by simp,rfl,?_⟩
  exact al_least (x:=exA es r) (f:=fA fs r) (by simpa using h1) h2 h3 hq.1 (exA_row h4 (by omega)) (fA_get h4 (by omega) hl) (by omega) (exA_row (xr_ok h4 (by omega)) (by omega))
theorem al_loop2(hm:es.length≤1000){gs:List Int}{l0 least v:Int}{rs:List Int}(hl:fs.length=es.length)(hp:Path es by' frm v rs):
  CW Tryz.prog Γ0 (mH es A gs frm to by' l0) false (.loop (sub Tryz.f70 0)) (aS es A fs frm to by' least v d74) (.exit 0) {t:=mkT 24 0 [],h:=mH es A (rs.foldl (puF least) fs) frm to by' least,m:=[]}:=by
 refine CW.loop (ι:={p:Int×List Int×List Int // Path es by' frm p.1 p.2.2∧p.2.1.length=es.length}) (fun p=>aS es A p.1.2.1 frm to by' least p.1.1 d74) (fun p=>(.exit 0,{t:=mkT 24 0 [],h:=mH es A (p.1.2.2.foldl (puF least) p.1.2.1) frm to by' least,m:=[]})) (fun p=>p.1.2.2.length) ?_ ⟨(v,fs,rs),hp,hl⟩
 rintro⟨⟨v,fs,rs⟩,hp,hl⟩
 simp only at hl
 cases hp with
 | nil=>exact .inr ⟨by simp,al_last (by simp)⟩
 | cons h1 h2 h3 h4 h5 =>
  rename_i r rs
  have hq:=ixR_eq h4 (by omega)
  have hf:=fA_get (fs:=fs) h4 (by omega) hl
  refine .inl ⟨⟨(endA es (xr r),puF least fs r,rs),h5,by rw[puF_len];exact hl⟩,by simp,rfl,?_⟩
  exact al_push (f:=fA fs r) (y:=exA es (xr r)) (by simpa using h1) h2 h3 hq.1 hf (show r.toNat / 2<fs.length by omega) (List.getElem?_eq_some_iff.1 hf).1 (exA_row (xr_ok h4 (by omega)) (by omega))
end
theorem al_a{es:List EdgT}{A:List (List Dp)}{fs fs2 by':List Int}{frm to least least2:Int}{d:D}
  (hcw:CW Tryz.prog Γ0 (mH es A fs frm to by' least) false (.loop (sub Tryz.f70 0)) (aS es A fs frm to by' least to d) (.exit 0) {t:=mkT 24 0 [],h:=mH es A fs2 frm to by' least2,m:=[]}):(Ev Tryz.prog Γ0 70 [d,.ref (.ptr 1 0),.ref (.ptr 0 0),.ref (.ptr 5 0),.ref (.ptr 10 0)] (mH es A fs frm to by' least) (.tup []) (mH es A fs2 frm to by' least2)):=by
 have hl0:=(@hcw)
 exact Ev.castH (Ev.of_sym (h':=[.var [int frm],.var [int to],.vec (vecI fs2) 0 1,.gone,.var [rowsD' (List.map EdgT.row es),.ref (.vec 2 0),rowsD' A],.var [.ref (.ptr 4 0)],.var [int to],.var [.ref (.vec 9 0)],.vec [[int (-1)]] 0 1,.vec (vecI by') 0 1,.var [.ref (.vec 9 0)],.var [int least2]]) (d:=D.tup []) pok [.sum [0,1,2,3,4,6] (Exit.exit 0) {t:=mkT 24 0 [],h:=[.var [int frm],.var [int to],.vec (vecI fs2) 0 1,.gone,.var [rowsD' (List.map EdgT.row es),.ref (.vec 2 0),rowsD' A],.var [.ref (.ptr 4 0)],.var [int to],.var [.ref (.vec 9 0)],.vec [[int (-1)]] 0 1,.vec (vecI by') 0 1,.var [.ref (.vec 9 0)],.var [int least2]],m:=[]}] (by kernel_rfl) (.c hl0 .n)) (by rfl) (by rfl)
abbrev xT(n:Int):List D:=mkT 65 0 [(0,int n),(6,.ref (.ptr 0 0)),(7,.ref (.ptr 1 0)),(12,.ref (.ptr 5 0))]
abbrev xH(es:List EdgT)(A:List (List Dp))(fs:List Int)(frm to:Int):List Blk:=[.var [int frm],.var [int to],.vec (vecI fs) 0 1,.gone,.var [rowsD' (es.map EdgT.row),.ref (.vec 2 0),rowsD' A],.var [.ref (.ptr 4 0)]]
abbrev xS(es:List EdgT)(A:List (List Dp))(fs:List Int)(n frm to:Int):AS:={t:=xT n,h:=xH es A fs frm to,m:=[]}
noncomputable abbrev mx_round_x0(es:List EdgT)(A:List (List Dp))(fs:List Int)(by':List Int)(frm:Int)(to:Int)(l2:Int):List Blk:=[.var [int frm],.var [int to],.vec (vecI fs) 0 1,.gone,.var [rowsD' (List.map EdgT.row es),.ref (.vec 2 0),rowsD' A],.var [.ref (.ptr 4 0)],.var [int to],.var [.ref (.vec 9 0)],.vec [[int (-1)]] 0 1,.vec (vecI by') 0 1,.var [.ref (.vec 9 0)],.var [int l2]]
noncomputable abbrev mx_round_x1(es:List EdgT)(A:List (List Dp))(fs:List Int)(frm:Int)(to:Int):List Blk:=[.var [int frm],.var [int to],.vec (vecI fs) 0 1,.gone,.var [rowsD' (List.map EdgT.row es),.ref (.vec 2 0),rowsD' A],.var [.ref (.ptr 4 0)]]
theorem mx_round{es:List EdgT}{A:List (List Dp)}{fs fs2 by':List Int}{n frm to x l2:Int}(h0:0≤to)(hx:by'[to.toNat]? = some x)(hg:Dd (x<0)=false)
  (hs:Ev Tryz.prog Γ0 69 [.ref (.ptr 2 0),int frm,int to] (fwH es A fs) (.ref (.vec 6 0)) (fwH es A fs++[.var [int to],.var [.ref (.vec 6 0)],.vec [[int (-1)]] 0 1,.vec (vecI by') 0 1]))
  (h1:Ev Tryz.prog Γ0 70 [d72,.ref (.ptr 1 0),.ref (.ptr 0 0),.ref (.ptr 5 0),.ref (.ptr 10 0)] (mH es A fs frm to by' 1073741824) (.tup []) (mH es A fs frm to by' l2))
  (h2:Ev Tryz.prog Γ0 70 [d74,.ref (.ptr 1 0),.ref (.ptr 0 0),.ref (.ptr 5 0),.ref (.ptr 10 0)] (mH es A fs frm to by' l2) (.tup []) (mH es A fs2 frm to by' l2)):(CW Tryz.prog Γ0 [] false (sub Tryz.f42 0) (xS es A fs n frm to) .normal (xS es A fs2 n frm to)):=by
 refine CW.cast (CW.symX (s':={t:=mkT 65 0 [(0,int n),(6,.ref (.ptr 0 0)),(7,.ref (.ptr 1 0)),(12,.ref (.ptr 5 0))],h:=[.var [int frm],.var [int to],.vec (vecI fs2) 0 1,.gone,.var [rowsD' (List.map EdgT.row es),.ref (.vec 2 0),rowsD' A],.var [.ref (.ptr 4 0)]],m:=[]}) (e:=Exit.normal) pok [.st (.mask [0,6,7,12]),.st (.trim 6)] [.call (.ref (.vec 9 0)) [.var [int frm],.var [int to],.vec (vecI fs) 0 1,.gone,.var [rowsD' (List.map EdgT.row es),.ref (.vec 2 0),rowsD' A],.var [.ref (.ptr 4 0)],.var [int to],.var [.ref (.vec 9 0)],.vec [[int (-1)]] 0 1,.vec (vecI by') 0 1],.ov 36 (int x),.b false,.call (D.tup []) (mx_round_x0 es A fs by' frm to l2),.call (D.tup []) [.var [int frm],.var [int to],.vec (vecI fs2) 0 1,.gone,.var [rowsD' (List.map EdgT.row es),.ref (.vec 2 0),rowsD' A],.var [.ref (.ptr 4 0)],.var [int to],.var [.ref (.vec 9 0)],.vec [[int (-1)]] 0 1,.vec (vecI by') 0 1,.var [.ref (.vec 9 0)],.var [int l2]]] (by kernel_rfl) (.c (show Ev Tryz.prog Γ0 69 [.ref (.ptr 4 0),int frm,int to] (mx_round_x1 es A fs frm to) (.ref (.vec 9 0)) [.var [int frm],.var [int to],.vec (vecI fs) 0 1,.gone,.var [rowsD' (List.map EdgT.row es),.ref (.vec 2 0),rowsD' A],.var [.ref (.ptr 4 0)],.var [int to],.var [.ref (.vec 9 0)],.vec [[int (-1)]] 0 1,.vec (vecI by') 0 1] from(Ev.castH (Ev.frameX (args:=[.ref (.ptr 4 0),int frm,int to]) (H:=(mx_round_x1 es A fs frm to)) [2,3,4] (@hs) (by kernel_rfl) (by kernel_rfl) (by kernel_rfl) ⟨?_,trivial⟩ ⟨?_,?_,?_,trivial⟩) (by kernel_rfl) (by kernel_rfl))) (.c (show inR to (List.length (vecI by'))=true from(by first|assumption|rfl|exact vg_in h0 hx|exact vg_load rfl hx|exact vg_vp hx|exact vecI_map _ _|exact vecI_inn _ _)) (.c (show loadD Tryz.prog [.var [int frm],.var [int to],.vec (vecI fs) 0 1,.gone,.var [rowsD' (List.map EdgT.row es),.ref (.vec 2 0),rowsD' A],.var [.ref (.ptr 4 0)],.var [int to],.var [.ref (.vec 9 0)],.vec [[int (-1)]] 0 1,.vec (vecI by') 0 1,.var [.ref (.vec 9 0)]] 3 (.ref (.vp 9 0 (Int.toNat to) 0))=some (int x) from(by first|assumption|rfl|exact vg_in h0 hx|exact vg_load rfl hx|exact vg_vp hx|exact vecI_map _ _|exact vecI_inn _ _)) (.c hg (.c (@h1) (.c (@h2) (.c (show List.all (vecI fs2) (D.innL 6)=true from(by first|assumption|rfl|exact vg_in h0 hx|exact vg_load rfl hx|exact vg_vp hx|exact vecI_map _ _|exact vecI_inn _ _)) .n)))))))) (by rfl) (by rfl)<;>(first|rfl|exact mapRL_rows _ _|first|assumption|rfl|exact vg_in h0 hx|exact vg_load rfl hx|exact vg_vp hx|exact vecI_map _ _|exact vecI_inn _ _)
def vecB(l:List Bool):List (List D):=l.map fun b=>[bool b]
abbrev rowsB(l:List Bool):List (List Dp):=l.map fun b=>[.v (.bool b)]
theorem vecB_map(f:Ref→D)(l:List Bool):(vecB l).map (D.mapRL f)=vecB l:=by simp[vecB,D.mapRL,D.mapR]
theorem vecB_inn(n:Nat)(l:List Bool):(vecB l).all (D.innL n)=true:=by simp[vecB,D.innL,D.inn]
theorem vecB_frz(l:List Bool):vecB l=(rowsB l).map (·.map .p):=by simp[vecB]
theorem vecB_rep(n:Nat):List.replicate n [bool false]=vecB (List.replicate n false):=by simp[vecB]
theorem vb_store{l:List Bool}{b i:Nat}{a:Bool}{h:List Blk}(hb:h[b]? = some (.vec (vecB l) 0 1))(hi:i<l.length):storeD Tryz.prog h 4 (.ref (.vp b 0 i 0)) (bool a)=some (h.set b (.vec (vecB (l.set i a)) 0 1)):=by
 have e1:(vecB l)[i]? = some [bool l[i]]:=by simp[vecB,hi]
 unfold storeD
 simp only[hb,e1,if_true]
 simp[vecB,List.map_set]
 rfl
abbrev kH(es:List EdgT)(A:List (List Dp))(fs:List Int)(frm to:Int)(by':List Int)(cut:List Bool):List Blk:=xH es A fs frm to++[.var [int to],.var [.ref (.vec 9 0)],.vec [[int (-1)]] 0 1,.vec (vecI by') 0 1,.var [.ref (.vec 9 0)],.vec (vecB cut) 0 1]
abbrev kS(es:List EdgT)(A:List (List Dp))(fs:List Int)(frm to:Int)(by':List Int)(cut:List Bool)(i:Int):AS:={t:=mkT 65 0 [(9,.ref (.vec 11 0)),(12,.ref (.ptr 5 0)),(40,.ref (.vec 9 0)),(41,int (by'.length:Int)),(42,int i)],h:=kH es A fs frm to by' cut,m:=[]}
abbrev kE(es:List EdgT)(A:List (List Dp))(fs:List Int)(frm to:Int)(by':List Int)(cut:List Bool):AS:={t:=mkT 65 0 [(9,.ref (.vec 11 0)),(12,.ref (.ptr 5 0))],h:=kH es A fs frm to by' cut,m:=[]}
theorem mk_body{es:List EdgT}{A:List (List Dp)}{fs by':List Int}{frm to x:Int}{cut:List Bool}{i:Nat}(hx:by'[Int.toNat (i:Int)]? = some x)(hlt:Dd ((i:Int)<(by'.length:Int))=true)(hw:IntKind.i64.wrap ((i:Int)+1)=((i+1:Nat):Int))(hi:inR (i:Int) (vecI by').length=true)(hc:inR (i:Int) (vecB cut).length=true)(hcl:Int.toNat (i:Int)<cut.length):(CW Tryz.prog Γ0 [] false (sub Tryz.f42 1) (kS es A fs frm to by' cut i) .normal (kS es A fs frm to by' (cut.set (Int.toNat (i:Int)) (Dd (x≥0))) ((i+1:Nat):Int))):=by
 refine CW.cast (CW.symX (s':={t:=mkT 65 0 [(9,.ref (.vec 11 0)),(12,.ref (.ptr 5 0)),(40,.ref (.vec 9 0)),(41,int (↑(List.length by'):Int)),(42,int (IntKind.wrap IntKind.i64 ((↑i:Int)+1)))],h:=[.var [int frm],.var [int to],.vec (vecI fs) 0 1,.gone,.var [rowsD' (List.map EdgT.row es),.ref (.vec 2 0),rowsD' A],.var [.ref (.ptr 4 0)],.var [int to],.var [.ref (.vec 9 0)],.vec [[int (-1)]] 0 1,.vec (vecI by') 0 1,.var [.ref (.vec 9 0)],.vec (vecB (List.set cut (Int.toNat (↑i:Int)) (Dd (x≥0)))) 0 1],m:=[]}) (e:=Exit.normal) pok [.st (.mask [9,12,40,41,42])] [.b true,.ov 46 (int x),.oh 10051 D.any (kH es A fs frm to by' (List.set cut (Int.toNat (↑i:Int)) (Dd (x≥0))))] (by kernel_rfl) (.c hlt (.c hi (.c (show loadD Tryz.prog [.var [int frm],.var [int to],.vec (vecI fs) 0 1,.gone,.var [rowsD' (List.map EdgT.row es),.ref (.vec 2 0),rowsD' A],.var [.ref (.ptr 4 0)],.var [int to],.var [.ref (.vec 9 0)],.vec [[int (-1)]] 0 1,.vec (vecI by') 0 1,.var [.ref (.vec 9 0)],.vec (vecB cut) 0 1] 3 (.ref (.vp 9 0 (Int.toNat (↑i:Int)) 0))=some (int x) from ?_) (.c hc (.c (show storeD Tryz.prog [.var [int frm],.var [int to],.vec (vecI fs) 0 1,.gone,.var [rowsD' (List.map EdgT.row es),.ref (.vec 2 0),rowsD' A],.var [.ref (.ptr 4 0)],.var [int to],.var [.ref (.vec 9 0)],.vec [[int (-1)]] 0 1,.vec (vecI by') 0 1,.var [.ref (.vec 9 0)],.vec (vecB cut) 0 1] 4 (.ref (.vp 11 0 (Int.toNat (↑i:Int)) 0)) (bool (Dd (x≥0)))=some [.var [int frm],.var [int to],.vec (vecI fs) 0 1,.gone,.var [rowsD' (List.map EdgT.row es),.ref (.vec 2 0),rowsD' A],.var [.ref (.ptr 4 0)],.var [int to],.var [.ref (.vec 9 0)],.vec [[int (-1)]] 0 1,.vec (vecI by') 0 1,.var [.ref (.vec 9 0)],.vec (vecB (List.set cut (Int.toNat (↑i:Int)) (Dd (x≥0)))) 0 1] from ?_) .n)))))) (by first|rfl|(rw[hw]<;>rfl)) (by first|rfl|(rw[hw]<;>rfl))<;>(first|assumption|rfl|exact vg_load rfl hx|exact vg_vp hx|exact vb_store rfl hcl|exact vecI_map _ _|exact vecI_inn _ _)
theorem mk_last{es:List EdgT}{A:List (List Dp)}{fs by':List Int}{frm to:Int}{cut:List Bool}{i:Nat}(hlt:Dd ((i:Int)<(by'.length:Int))=false):(CW Tryz.prog Γ0 [] false (sub Tryz.f42 1) (kS es A fs frm to by' cut i) (.exit 2) (kE es A fs frm to by' cut)):=by
 exact CW.cast (CW.symX (s':={t:=mkT 65 0 [(9,.ref (.vec 11 0)),(12,.ref (.ptr 5 0))],h:=[.var [int frm],.var [int to],.vec (vecI fs) 0 1,.gone,.var [rowsD' (List.map EdgT.row es),.ref (.vec 2 0),rowsD' A],.var [.ref (.ptr 4 0)],.var [int to],.var [.ref (.vec 9 0)],.vec [[int (-1)]] 0 1,.vec (vecI by') 0 1,.var [.ref (.vec 9 0)],.vec (vecB cut) 0 1],m:=[]}) (e:=Exit.exit 2) pok [.st (.mask [9,12])] [.b false] (by kernel_rfl) (.c hlt .n)) (by rfl) (by rfl)
def cutF(s:List Bool×Nat)(x:Int):List Bool×Nat:=(s.1.set s.2 (Dd (x≥0)),s.2+1)
def cutR(by':List Int):List Bool:=(by'.foldl cutF (List.replicate by'.length false,0)).1
theorem mk_loop{es:List EdgT}{A:List (List Dp)}{fs by':List Int}{frm to:Int}(hb:by'.length≤1000):CW Tryz.prog Γ0 [] false (.loop (sub Tryz.f42 1)) (kS es A fs frm to by' (List.replicate by'.length false) 0) (.exit 2) (kE es A fs frm to by' (cutR by')):=by
 have:=CW.each (P:=Tryz.prog) (Γ:=Γ0) (h0:=[]) (rd:=false) (c:=sub Tryz.f42 1) (σ:=List Bool×Nat) (ρ:=Empty) by' (fun x s=>.inl (cutF s x))
  (fun i s=>kS es A fs frm to by' s.1 (i:Int)) (.exit 2) (fun s=>kE es A fs frm to by' s.1) (fun r=>r.elim) (fun i s=>s.2=i∧s.1.length=by'.length) (by simp) (fun r=>r.elim) ?_ ?_ (List.replicate by'.length false,0) (by simp)
 ·rw[forL_fold] at this
  exact this
 ·rintro i x ⟨cut,k⟩ hx ⟨hk,hc⟩
  simp only at hk hc
  subst hk
  have hi:=(List.getElem?_eq_some_iff.1 hx).1
  refine⟨fun s' h=>?_,mk_body (by simpa using hx) (by simp;omega) (wrap_succ hi (by omega)) (by simp[inR,vecI];omega) (by simp[inR,vecB];omega) (by simp;omega)⟩
  cases h
  simpa[cutF] using hc
 ·intro s _
  exact mk_last (by simp)
abbrev kS0(es:List EdgT)(A:List (List Dp))(fs:List Int)(n frm to:Int)(by':List Int):AS:={t:=mkT 65 0 [(9,.ref (.vec 11 0)),(12,.ref (.ptr 5 0)),(40,.ref (.vec 9 0)),(41,int ((vecI by').length:Int)),(42,int 0)],h:=xH es A fs frm to++[.var [int to],.var [.ref (.vec 9 0)],.vec [[int (-1)]] 0 1,.vec (vecI by') 0 1,.var [.ref (.vec 9 0)],.vec (List.replicate (Int.toNat n) [bool false]) 0 1],m:=[]}
theorem kS0_eq{es:List EdgT}{A:List (List Dp)}{fs:List Int}{n frm to:Int}{by':List Int}(hn:Int.toNat n=by'.length):kS0 es A fs n frm to by'=kS es A fs frm to by' (List.replicate by'.length false) 0:=by
 unfold kS0 kS kH
 rw[hn,vecB_rep,vecI_len]
theorem rep_map{m:Nat}{r:List D}(f:Ref→D)(h:D.mapRL f r=r):(List.replicate m r).map (D.mapRL f)=List.replicate m r:=by simp[h]
noncomputable abbrev mx_end_x0(es:List EdgT)(A:List (List Dp))(fs:List Int)(frm:Int)(to:Int):List Blk:=[.var [int frm],.var [int to],.vec (vecI fs) 0 1,.gone,.var [rowsD' (List.map EdgT.row es),.ref (.vec 2 0),rowsD' A],.var [.ref (.ptr 4 0)]]
theorem mx_end{es:List EdgT}{A:List (List Dp)}{fs by':List Int}{n frm to x:Int}{cut:List Bool}(h0:0≤to)(hx:by'[to.toNat]? = some x)(hg:Dd (x<0)=true)(hn0:0≤n)(hn1:n≤1000)
  (hs:Ev Tryz.prog Γ0 69 [.ref (.ptr 2 0),int frm,int to] (fwH es A fs) (.ref (.vec 6 0)) (fwH es A fs++[.var [int to],.var [.ref (.vec 6 0)],.vec [[int (-1)]] 0 1,.vec (vecI by') 0 1]))
  (hcw:CW Tryz.prog Γ0 [] false (.loop (sub Tryz.f42 1)) (kS0 es A fs n frm to by') (.exit 2) (kE es A fs frm to by' cut)):(CW Tryz.prog Γ0 [] false (sub Tryz.f42 0) (xS es A fs n frm to) .ret {t:=mkT 65 0 [(8,rowsD' (inR1 fs)),(9,rowsD' (rowsB cut)),(10,int 0)],h:=[],m:=[]}):=by
 have hl0:=(@hcw)
 refine CW.cast (CW.symX (s':={t:=mkT 65 0 [(8,rowsD' (inR1 fs)),(9,rowsD' (rowsB cut)),(10,int 0)],h:=[],m:=[]}) (e:=Exit.ret) pok [.st (.mask [8,9,10]),.st (.frz 2 (inR1 fs)),.st (.frz 11 (rowsB cut)),.st (.trim 0)] [.call (.ref (.vec 9 0)) [.var [int frm],.var [int to],.vec (vecI fs) 0 1,.gone,.var [rowsD' (List.map EdgT.row es),.ref (.vec 2 0),rowsD' A],.var [.ref (.ptr 4 0)],.var [int to],.var [.ref (.vec 9 0)],.vec [[int (-1)]] 0 1,.vec (vecI by') 0 1],.ov 36 (int x),.b true,.sum [9,12,40,41,42] (Exit.exit 2) {t:=mkT 65 0 [(9,.ref (.vec 11 0)),(12,.ref (.ptr 5 0))],h:=[.var [int frm],.var [int to],.vec (vecI fs) 0 1,.gone,.var [rowsD' (List.map EdgT.row es),.ref (.vec 2 0),rowsD' A],.var [.ref (.ptr 4 0)],.var [int to],.var [.ref (.vec 9 0)],.vec [[int (-1)]] 0 1,.vec (vecI by') 0 1,.var [.ref (.vec 9 0)],.vec (vecB cut) 0 1],m:=[]}] (by kernel_rfl) (.c (show Ev Tryz.prog Γ0 69 [.ref (.ptr 4 0),int frm,int to] (mx_end_x0 es A fs frm to) (.ref (.vec 9 0)) [.var [int frm],.var [int to],.vec (vecI fs) 0 1,.gone,.var [rowsD' (List.map EdgT.row es),.ref (.vec 2 0),rowsD' A],.var [.ref (.ptr 4 0)],.var [int to],.var [.ref (.vec 9 0)],.vec [[int (-1)]] 0 1,.vec (vecI by') 0 1] from(Ev.castH (Ev.frameX (args:=[.ref (.ptr 4 0),int frm,int to]) (H:=(mx_end_x0 es A fs frm to)) [2,3,4] (@hs) (by kernel_rfl) (by kernel_rfl) (by kernel_rfl) ⟨(by first|rfl|exact mapRL_rows _ _|first|assumption|rfl|exact vg_in h0 hx|exact vg_load rfl hx|exact vg_vp hx|exact vecI_frz _|exact vecB_frz _|exact vecI_map _ _|exact vecI_inn _ _|exact vecB_map _ _|exact vecB_inn _ _|exact rep_map _ rfl|(simp;omega)),trivial⟩ ⟨(by first|rfl|exact mapRL_rows _ _|first|assumption|rfl|exact vg_in h0 hx|exact vg_load rfl hx|exact vg_vp hx|exact vecI_frz _|exact vecB_frz _|exact vecI_map _ _|exact vecI_inn _ _|exact vecB_map _ _|exact vecB_inn _ _|exact rep_map _ rfl|(simp;omega)),(by first|rfl|exact mapRL_rows _ _|first|assumption|rfl|exact vg_in h0 hx|exact vg_load rfl hx|exact vg_vp hx|exact vecI_frz _|exact vecB_frz _|exact vecI_map _ _|exact vecI_inn _ _|exact vecB_map _ _|exact vecB_inn _ _|exact rep_map _ rfl|(simp;omega)),(by first|rfl|exact mapRL_rows _ _|first|assumption|rfl|exact vg_in h0 hx|exact vg_load rfl hx|exact vg_vp hx|exact vecI_frz _|exact vecB_frz _|exact vecI_map _ _|exact vecI_inn _ _|exact vecB_map _ _|exact vecB_inn _ _|exact rep_map _ rfl|(simp;omega)),trivial⟩) (by kernel_rfl) (by kernel_rfl))) (.c (show inR to (List.length (vecI by'))=true from ?_) (.c (show loadD Tryz.prog [.var [int frm],.var [int to],.vec (vecI fs) 0 1,.gone,.var [rowsD' (List.map EdgT.row es),.ref (.vec 2 0),rowsD' A],.var [.ref (.ptr 4 0)],.var [int to],.var [.ref (.vec 9 0)],.vec [[int (-1)]] 0 1,.vec (vecI by') 0 1,.var [.ref (.vec 9 0)]] 3 (.ref (.vp 9 0 (Int.toNat to) 0))=some (int x) from ?_) (.c hg (.c (show(Dd (0≤n)&&Dd (n≤n)&&Dd (n*(↑1:Int)≤281474976710656)&&Dd (n≤281474976710656))=true from ?_) (.c hl0 (.c (show vecI fs=List.map (fun x=>List.map D.p x) (inR1 fs) from ?_) (.c (show [[int (-1)]]=[[int (-1)]] from rfl) (.c (show List.map (D.mapRL (frzR 2 0 (inR1 fs))) (vecI by')=vecI by' from ?_) (.c (show List.map (D.mapRL (frzR 2 0 (inR1 fs))) (vecB cut)=vecB cut from ?_) (.c (show vecB cut=List.map (fun x=>List.map D.p x) (rowsB cut) from ?_) (.c (show [[int (-1)]]=[[int (-1)]] from rfl) (.c (show List.map (D.mapRL (frzR 11 0 (rowsB cut))) (vecI by')=vecI by' from ?_) .n)))))))))))))) (by rfl) (by rfl)<;>(first|assumption|rfl|exact vg_in h0 hx|exact vg_load rfl hx|exact vg_vp hx|exact vecI_frz _|exact vecB_frz _|exact vecI_map _ _|exact vecI_inn _ _|exact vecB_map _ _|exact vecB_inn _ _|exact rep_map _ rfl|(simp;omega))
abbrev xS0(es:List EdgT)(A:List (List Dp))(n frm to:Int):AS:={t:=xT n,h:=[.var [int frm],.var [int to],.vec (flR es) 0 1,.gone,.var [rowsD' (es.map EdgT.row),.ref (.vec 2 0),rowsD' A],.var [.ref (.ptr 4 0)]],m:=[]}
theorem flR_eq(es:List EdgT):flR es=vecI (List.replicate es.length 0):=by simp[flR,vecI]
theorem xS0_eq{es:List EdgT}{A:List (List Dp)}{n frm to:Int}:xS0 es A n frm to=xS es A (List.replicate es.length 0) n frm to:=by
 unfold xS0 xS xH
 rw[flR_eq]
theorem nn2_a{n:Nat}{es:List EdgT}{frm to:Int}(hn:n≤10000)(hes:es.length≤10000)(hin:∀x∈es,EdgIn n x):Ev Tryz.prog Γ0 68 [int (n:Int),rowsD' (es.map EdgT.row)] [.var [int frm],.var [int to]] (.ref (.ptr 4 0)) [.var [int frm],.var [int to],.vec (flR es) 0 1,.gone,.var [rowsD' (es.map EdgT.row),.ref (.vec 2 0),rowsD' (adjD (adjR n es))]]:=by
 have h1:=Ev.frameN (nn_ev hn hes hin) rfl rfl [.var [int frm],.var [int to]]
 have e:[Blk.vec (flR es) 0 1,.gone,.var [rowsD' (es.map EdgT.row),.ref (.vec 0 0),rowsD' (adjD (adjR n es))]].map (Blk.mapR (fwd0 2))=[.vec (flR es) 0 1,.gone,.var [rowsD' (es.map EdgT.row),.ref (.vec 2 0),rowsD' (adjD (adjR n es))]]:=by
  simp only[List.map_cons,List.map_nil,Blk.mapR,flR_map]
  rfl
 exact Ev.castH h1 rfl (by rw[show [Blk.var [int frm],.var [int to]].length=2 from rfl,e];rfl)
theorem max_a{es:List EdgT}{n:Nat}{frm to:Int}{fs:List Int}{cut:List Bool}
  (hnn:Ev Tryz.prog Γ0 68 [int (n:Int),rowsD' (es.map EdgT.row)] [.var [int frm],.var [int to]] (.ref (.ptr 4 0)) [.var [int frm],.var [int to],.vec (flR es) 0 1,.gone,.var [rowsD' (es.map EdgT.row),.ref (.vec 2 0),rowsD' (adjD (adjR n es))]])
  (hc:∀h,Ev Tryz.prog Γ0 44 [int (n:Int),rowsD' (es.map EdgT.row),int frm,int to] h (int 0) h)
  (hcw:CW Tryz.prog Γ0 [] false (.loop (sub Tryz.f42 0)) (xS0 es (adjD (adjR n es)) (n:Int) frm to) .ret {t:=mkT 65 0 [(8,rowsD' (inR1 fs)),(9,rowsD' (rowsB cut)),(10,int 0)],h:=[],m:=[]}) (h:List Blk):(Ev Tryz.prog Γ0 42 [int (n:Int),rowsD' (es.map EdgT.row),int frm,int to] h (.tup [rowsD' (inR1 fs),rowsD' (rowsB cut),int 0]) h):=by
 have hl0:=(@hcw)
 exact Ev.castH (Ev.nilW (Ev.sym0 (d:=D.tup [rowsD' (inR1 fs),rowsD' (rowsB cut),int 0]) pok [.val (int 0),.b false,.call (.ref (.ptr 4 0)) [.var [int frm],.var [int to],.vec (flR es) 0 1,.gone,.var [rowsD' (List.map EdgT.row es),.ref (.vec 2 0),rowsD' (adjD (adjR n es))]],.sum [0,6,7,12] (Exit.ret) {t:=mkT 65 0 [(8,rowsD' (inR1 fs)),(9,rowsD' (rowsB cut)),(10,int 0)],h:=[],m:=[]}] (by kernel_rfl) (.c (@hc ([.var [int frm],.var [int to]])) (.c (show(0 != 0)=false from rfl) (.c (@hnn) (.c hl0 .n)))) rfl rfl h)) (by rfl) (by rfl)
abbrev bs0(n m:Nat)(frm:Int):List Int×QF:=(by0 n m frm,⟨false,0,0,[frm]⟩)
abbrev lsR(es:List EdgT)(fs:List Int)(rs:List Int):Int:=rs.foldl (lsF es fs) 1073741824
abbrev puR(es:List EdgT)(fs:List Int)(rs:List Int):List Int:=rs.foldl (puF (lsR es fs rs)) fs
inductive MaxR (adj:List (List Int)) (es:List EdgT) (n:Nat) (frm to:Int):Nat→List Int→List Int×List Int→Prop
 | done {fs k f}:Bfs adj es fs to k (bs0 n es.length frm) f→f.1.getD to.toNat 0<0→MaxR adj es n frm to 0 fs (fs,f.1)
 | step {fs k f rs g j}:Bfs adj es fs to k (bs0 n es.length frm) f→¬f.1.getD to.toNat 0<0→Path es f.1 frm to rs→MaxR adj es n frm to j (puR es fs rs) g→MaxR adj es n frm to (j+1) fs g
def sumV{α:Type}:α⊕α→α
 | .inl s=>s
 | .inr s=>s
theorem usY_len(to r u:Int)(s:List Int×QF):(sumV (usY to r u s)).1.length=s.1.length:=by
 unfold usY
 cases Dd (s.1.getD u.toNat 0≥0) with
 | true=>rfl
 | false=>cases u==to<;>simp[sumV]
theorem usG_len(es:List EdgT)(fs:List Int)(to r:Int)(s:List Int×QF):(sumV (usG es fs to r s)).1.length=s.1.length:=by
 unfold usG
 cases Dd (capA es fs r>0) with
 | true=>exact usY_len _ _ _ _
 | false=>rfl
theorem forG_len{es:List EdgT}{fs:List Int}{to:Int}:∀(B:List Int) (s:List Int×QF),(sumV (forL (usG es fs to) B s)).1.length=s.1.length
 | [],s=>rfl
 | r::B,s=>by
  have h1:=usG_len es fs to r s
  simp only[forL]
  cases hg:usG es fs to r s with
  | inl s1 =>
   rw[hg] at h1
   exact(forG_len B s1).trans h1
  | inr s1 =>
   rw[hg] at h1
   exact h1
theorem Bfs.len{adj:List (List Int)}{es:List EdgT}{fs:List Int}{to:Int}{k:Nat}{s f:List Int×QF}(h:Bfs adj es fs to k s f):f.1.length=s.1.length:=by
 induction h with
 | done _=>rfl
 | stop _ hg =>
  have:=congrArg (fun x=>(sumV x).1.length) hg
  simp only[forG_len] at this
  exact this.symm
 | step _ hg _ ih =>
  have:=congrArg (fun x=>(sumV x).1.length) hg
  simp only[forG_len] at this
  rw[ih];exact this.symm
def ResL(m:Nat)(A:List (List Int)):Prop:=∀B∈A,∀r∈B,ResOk m r
theorem ResL.set{m:Nat}{A:List (List Int)}(h:ResL m A){u:Nat}{v:Int}(hv:ResOk m v):ResL m (A.set u (A.getD u []++[v])):=by
 intro B hB r hr
 rcases List.mem_or_eq_of_mem_set hB with hB|rfl
 ·exact h B hB r hr
 ·rcases List.mem_append.1 hr with hr|hr
  ·by_cases hu:u<A.length
   ·have:A.getD u []=A[u]:=by simp[List.getD,hu]
    rw[this] at hr
    exact h _ (List.getElem_mem hu) r hr
   ·have:A.getD u []=[]:=by simp[List.getD,hu]
    rw[this] at hr;simp at hr
  ·simp only[List.mem_singleton] at hr
   subst hr;exact hv
theorem adj_res(m:Nat)(hm:m≤100000):∀(l:List EdgT) (s:List (List Int)×Int) (i:Nat),s.2=i→i+l.length≤m→ResL m s.1→ResL m (l.foldl adjF s).1
 | [],s,_,_,_,h=>h
 | x::l,s,i,hi,hm2,h=>by
  rw[List.foldl_cons]
  simp only[List.length_cons] at hm2
  have e1:IntKind.i64.wrap (2*s.2)=2*s.2:=wrap_i64 (by omega) (by omega)
  have e2:IntKind.i64.wrap (2*s.2+1)=2*s.2+1:=wrap_i64 (by omega) (by omega)
  refine adj_res m hm l (adjF s x) (i+1) (by simp[adjF,hi]) (by omega) ?_
  unfold adjF
  rw[e1,e2]
  exact(h.set ⟨by omega,by omega⟩).set ⟨by omega,by omega⟩
theorem adjR_len(n:Nat)(es:List EdgT):(adjR n es).length=n:=by unfold adjR;rw[adj_len];simp
theorem adjR_ok(n:Nat){es:List EdgT}(hm:es.length≤1000):∀B∈adjR n es,(∀r∈B,ResOk es.length r)∧B.length≤10000:=by
 have h1:ResL es.length (adjR n es):=adj_res es.length (by omega) es _ 0 rfl (by omega) (fun B hB r hr=>by rw[(List.mem_replicate.1 hB).2] at hr;simp at hr)
 have h2:Lim (adjR n es) (0+2*es.length):=adj_lim es _ 0 (fun j B hB=>by
  have:=List.mem_of_getElem? hB
  rw[(List.mem_replicate.1 this).2];simp)
 intro B hB
 refine⟨h1 B hB,?_⟩
 obtain⟨j,hj⟩:=List.getElem?_of_mem hB
 have:=h2 j B hj
 omega
section
variable {es:List EdgT} {n:Nat} {frm to:Int}
theorem mx_loop(hm:es.length≤1000)(h2:2≤n)(hn:n≤18)(hin:∀x∈es,EdgIn n x)(hfr:0≤frm∧frm.toNat<n)(hto:0≤to∧to.toNat<n){j:Nat}{fs:List Int}{g:List Int×List Int}(hl:fs.length=es.length)(hR:MaxR (adjR n es) es n frm to j fs g):
  CW Tryz.prog Γ0 [] false (.loop (sub Tryz.f42 0)) (xS es (adjD (adjR n es)) fs (n:Int) frm to) .ret {t:=mkT 65 0 [(8,rowsD' (inR1 g.1)),(9,rowsD' (rowsB (cutR g.2))),(10,int 0)],h:=[],m:=[]}:=by
 refine CW.loop (ι:={p:Nat×List Int // p.2.length=es.length∧MaxR (adjR n es) es n frm to p.1 p.2 g}) (fun p=>xS es (adjD (adjR n es)) p.1.2 (n:Int) frm to) (fun _=>(.ret,{t:=mkT 65 0 [(8,rowsD' (inR1 g.1)),(9,rowsD' (rowsB (cutR g.2))),(10,int 0)],h:=[],m:=[]})) (fun p=>p.1.1) ?_ ⟨(j,fs),hl,hR⟩
 rintro⟨⟨j,fs⟩,hl,hR⟩
 simp only at hl hR
 cases hR with
 | done hb hx =>
  rename_i k f
  have hlen:f.1.length=n:=by rw[hb.len];simp[by0]
  have hs:=search_a hl hm h2 hn hin (adjR_len n es) (adjR_ok n hm) hfr hb
  have hg:f.1[to.toNat]? = some (f.1.getD to.toNat 0):=by simp[List.getD,hlen,hto.2]
  have hk:=mk_loop (es:=es) (A:=adjD (adjR n es)) (fs:=fs) (by':=f.1) (frm:=frm) (to:=to) (by omega)
  rw[←kS0_eq (n:=(n:Int)) (by simp[hlen])] at hk
  exact .inr ⟨by simp,mx_end hto.1 hg (by simpa using hx) (by omega) (by omega) hs hk⟩
 | step hb hx hp hr =>
  rename_i k f rs j
  have hlen:f.1.length=n:=by rw[hb.len];simp[by0]
  have hs:=search_a hl hm h2 hn hin (adjR_len n es) (adjR_ok n hm) hfr hb
  have hg:f.1[to.toNat]? = some (f.1.getD to.toNat 0):=by simp[List.getD,hlen,hto.2]
  refine .inl ⟨⟨(j,puR es fs rs),by rw[puF_fold];exact hl,hr⟩,by simp,rfl,?_⟩
  exact mx_round (fs2:=puR es fs rs) (l2:=lsR es fs rs) hto.1 hg (by simpa using hx) hs (al_a (al_loop1 hl hm hp)) (al_a (al_loop2 hm hl hp))
theorem maxR_ev(hm:es.length≤1000)(h2:2≤n)(hn:n≤18)(hin:∀x∈es,EdgIn n x)(hfr:0≤frm∧frm.toNat<n)(hto:0≤to∧to.toNat<n)
  (hc:∀h,Ev Tryz.prog Γ0 44 [int (n:Int),rowsD' (es.map EdgT.row),int frm,int to] h (int 0) h) {j:Nat} {g:List Int×List Int} (hR:MaxR (adjR n es) es n frm to j (List.replicate es.length 0) g) (h:List Blk) :
  Ev Tryz.prog Γ0 42 [int (n:Int),rowsD' (es.map EdgT.row),int frm,int to] h (.tup [rowsD' (inR1 g.1),rowsD' (rowsB (cutR g.2)),int 0]) h:=by
 refine max_a (nn2_a (by omega) (by omega) hin) hc ?_ h
 rw[xS0_eq]
 exact mx_loop hm h2 hn hin hfr hto (by simp) hR
end
def xeF(p:EdgT→Bool)(c:EdgT)(s:Nat):Nat⊕Nat:=if p c=true then .inr s else .inl (s+1)
abbrev xeS(fs:List (List Dp))(f:D)(h:List Blk)(i:Int):AS:={t:=mkT 19 0 [(0,rowsD' fs),(1,f),(4,int 0),(7,int fs.length),(8,int i)],h:=h,m:=[]}
abbrev xeX(h:List Blk):Nat→Exit×AS:=fun k=>(.ret,{t:=mkT 19 0 [(4,int (k:Int))],h:=h,m:=[]})
theorem xe_body{fs:List (List Dp)}{i:Nat}{c:EdgT}{f:D}{h:List Blk}{p:EdgT→Bool}(hr:RowAt (i:Int) fs (EdgT.row c) 3)(hlt:Dd ((i:Int)<(fs.length:Int))=true)(hw:IntKind.i64.wrap ((i:Int)+1)=((i+1:Nat):Int))(hi:Iv Tryz.prog Γ0 f [ag (EdgT.row c)] h (bool (p c)) h):(CW Tryz.prog Γ0 h false (sub Tryz.f137 0) (xeS fs f h i) (bodyFin (fun _=>xeS fs f h ((i+1:Nat):Int)) (xeX h) (xeF p c i)).1 (bodyFin (fun _=>xeS fs f h ((i+1:Nat):Int)) (xeX h) (xeF p c i)).2):=by
 cases hc0:p c
 ·exact CW.cast (CW.symX (s':={t:=mkT 19 0 [(0,rowsD' fs),(1,f),(4,int 0),(7,int (↑(List.length fs):Int)),(8,int (IntKind.wrap IntKind.i64 ((↑i:Int)+1)))],h:=h,m:=[]}) (e:=Exit.normal) pok [.st (.mask [0,1,4,7,8])] [.b true,.row [vi c.frm,vi c.to,vi c.most],.ival (bool (p c)),.b false] (by kernel_rfl) (.c hlt (.c hr (.c (@hi) (.c hc0 .n))))) (by simp[xeF,bodyFin,hw, *]) (by simp[xeF,bodyFin,hw, *])
 ·exact CW.cast (CW.symX (s':={t:=mkT 19 0 [(4,int (↑i:Int))],h:=h,m:=[]}) (e:=Exit.ret) pok [.st (.mask [4])] [.b true,.row [vi c.frm,vi c.to,vi c.most],.ival (bool (p c)),.b true] (by kernel_rfl) (.c hlt (.c hr (.c (@hi) (.c hc0 .n))))) (by simp[xeF,bodyFin,hw, *]) (by simp[xeF,bodyFin,hw, *])
theorem xe_last{fs:List (List Dp)}{i:Nat}{f:D}{h:List Blk}(hlt:Dd ((i:Int)<(fs.length:Int))=false):(CW Tryz.prog Γ0 h false (sub Tryz.f137 0) (xeS fs f h i) (.exit 0) {t:=mkT 19 0 [(4,int 0)],h:=h,m:=[]}):=by
 exact CW.cast (CW.symX (s':={t:=mkT 19 0 [(4,int 0)],h:=h,m:=[]}) (e:=Exit.exit 0) pok [.st (.mask [4])] [.b false] (by kernel_rfl) (.c hlt .n)) (by rfl) (by rfl)
def xeR(p:EdgT→Bool)(l:List EdgT):Int:=match forL (xeF p) l 0 with | .inl _ => -1 | .inr k=>(k:Int)
def xeFin(h:List Blk)(p:EdgT→Bool)(l:List EdgT):Exit×AS:=eachFin (.exit 0) (fun _:Nat=>{t:=mkT 19 0 [(4,int 0)],h:=h,m:=[]}) (xeX h) (forL (xeF p) l 0)
theorem xe_cw{l:List EdgT}(hl:Short l){f:D}{h:List Blk}{p:EdgT→Bool}(hf:∀c∈l,Iv Tryz.prog Γ0 f [ag (EdgT.row c)] h (bool (p c)) h):
  CW Tryz.prog Γ0 h false (.loop (sub Tryz.f137 0)) (xeS (l.map EdgT.row) f h 0) (xeFin h p l).1 (xeFin h p l).2:=by
 refine CW.each l (xeF p) (fun i _=>xeS (l.map EdgT.row) f h (i:Int)) (.exit 0) _ (xeX h) (fun i s=>s=i) (by simp) (fun _=>by simp) ?_ ?_ 0 rfl
 ·intro i c s hc hs
  subst hs
  have hi:=(List.getElem?_eq_some_iff.1 hc).1
  refine⟨fun s' h=>?_,xe_body (rowAt (row:=EdgT.row) hc rfl) (lt_len EdgT.row hi) (wrap_succ hi hl) (hf c (List.mem_of_getElem? hc))⟩
  unfold xeF at h
  split at h<;>simp at h
  exact h.symm
 ·intro s hs
  exact xe_last (ge_len EdgT.row l)
theorem xei_ev{l:List EdgT}(hl:Short l){f:D}{h:List Blk}{p:EdgT→Bool}(hf:∀c∈l,Iv Tryz.prog Γ0 f [ag (EdgT.row c)] h (bool (p c)) h):(Ev Tryz.prog Γ0 137 [rowsD' (l.map EdgT.row),f] h (int (xeR p l)) h):=by
 have hl0:=(@xe_cw (l) (hl) (f) (h) (p) (hf))
 unfold xeFin at hl0
 revert hl0
 cases ho1:forL (xeF p) l 0 with
 | inl o1_0_0 =>
  intro hl0
  exact Ev.castH (Ev.of_sym (h':=h) (d:=int (-1)) pok [.sum [0,1,4,7,8] (Exit.exit 0) {t:=mkT 19 0 [(4,int 0)],h:=h,m:=[]}] (by kernel_rfl) (.c hl0 .n)) (by simp[xeR,ho1]) (by simp[xeR,ho1])
 | inr o1_1_0 =>
  intro hl0
  exact Ev.castH (Ev.of_sym (h':=h) (d:=int (↑o1_1_0:Int)) pok [.sum [0,1,4,7,8] (Exit.ret) {t:=mkT 19 0 [(4,int (↑o1_1_0:Int))],h:=h,m:=[]}] (by kernel_rfl) (.c hl0 .n)) (by simp[xeR,ho1]) (by simp[xeR,ho1])
theorem xeR_ge(p:EdgT→Bool)(l:List EdgT):Dd (xeR p l≥0)=l.any p:=by
 have key:∀(l:List EdgT) (s:Nat),(match forL (xeF p) l s with | .inl _=>false | .inr _=>true)=l.any p:=by
  intro l
  induction l with
  | nil=>intro s;rfl
  | cons c l ih =>
   intro s
   simp only[forL,xeF,List.any_cons]
   by_cases hp:p c=true
   ·simp[hp]
   ·simp only[hp,if_false,Bool.false_or]
    exact ih (s+1)
 rw[←key l 0]
 unfold xeR
 cases forL (xeF p) l 0<;>simp
theorem xec_ev{l:List EdgT}(hl:Short l){f:D}{h:List Blk}{p:EdgT→Bool}(hf:∀c∈l,Iv Tryz.prog Γ0 f [ag (EdgT.row c)] h (bool (p c)) h):(Ev Tryz.prog Γ0 109 [rowsD' (l.map EdgT.row),f] h (bool (l.any p)) h):=by
 refine Ev.castH (Ev.of_sym (h':=h) (d:=bool (Dd (xeR p l≥0))) pok [.val (int (xeR p l))] (by kernel_rfl) (.c (@xei_ev (l) (hl) (f) (h) (p) (hf)) .n)) ?_ ?_<;>(first|rfl|rw[←xeR_ge])
def nodB(n v:Int):Bool:=Dd (v≥0)&&Dd (v<n)
def edgBad(n:Int)(x:EdgT):Bool:=!nodB n x.frm||!nodB n x.to||x.frm==x.to||Dd (x.most<0)||Dd (x.most>1073741824)
abbrev ckH(n:Int):List Blk:=[.var [int n],.var [.fn (.func 108) [] [.ref (.ptr 0 0)]]]
theorem nod_ev{n v:Int}:(Ev Tryz.prog Γ0 108 [int v,.ref (.ptr 0 0)] (ckH n) (bool (nodB n v)) (ckH n)):=by
 exact Ev.castH (Ev.of_sym (h':=[.var [int n],.var [D.fn (Fn.func 108) [] [.ref (.ptr 0 0)]]]) (d:=bool (Dd (v≥0)&&Dd (v<n))) pok [] (by kernel_rfl) .n) (by rfl) (by rfl)
noncomputable abbrev edg_ev_x0(n:Int)(x:EdgT):List Blk:=[.var [int n],.var [D.fn (Fn.func 108) [] [.ref (.ptr 0 0)]],.var [int x.frm,int x.to,int x.most]]
theorem edg_ev{n:Int}{x:EdgT}:(Ev Tryz.prog Γ0 110 [ag x.row,.ref (.ptr 1 0)] (ckH n) (bool (edgBad n x)) (ckH n)):=by
 exact Ev.castH (Ev.post (d2:=bool (!nodB n x.frm||!nodB n x.to||x.frm==x.to||Dd (x.most<0)||Dd (x.most>1073741824))) (h2:=[.var [int n],.var [D.fn (Fn.func 108) [] [.ref (.ptr 0 0)]]]) (φ:=[]) [.st (.trim 2)] (Ev.of_sym (h':=(edg_ev_x0 n x)) (d:=bool (!nodB n x.frm||!nodB n x.to||x.frm==x.to||Dd (x.most<0)||Dd (x.most>1073741824))) pok [.val (bool (nodB n x.frm)),.val (bool (nodB n x.to))] (by kernel_rfl) (.c (show Ev Tryz.prog Γ0 108 [int x.frm,.ref (.ptr 0 0)] (edg_ev_x0 n x) (bool (nodB n x.frm)) (edg_ev_x0 n x) from(Ev.castH (Ev.frameX (args:=[int x.frm,.ref (.ptr 0 0)]) (H:=(edg_ev_x0 n x)) [0,1] (@nod_ev (n) (x.frm)) (by kernel_rfl) (by kernel_rfl) (by kernel_rfl) trivial trivial) (by kernel_rfl) (by kernel_rfl))) (.c (show(!!nodB n x.frm)=true→Ev Tryz.prog Γ0 108 [int x.to,.ref (.ptr 0 0)] (edg_ev_x0 n x) (bool (nodB n x.to)) (edg_ev_x0 n x) from(fun hg=>(Ev.castH (Ev.frameX (args:=[int x.to,.ref (.ptr 0 0)]) (H:=(edg_ev_x0 n x)) [0,1] (@nod_ev (n) (x.to)) (by kernel_rfl) (by kernel_rfl) (by kernel_rfl) trivial trivial) (by kernel_rfl) (by kernel_rfl)))) .n))) (by kernel_rfl) trivial) (by rfl) (by rfl)
theorem edi_a{n:Int}{l:List EdgT}:∀c∈l,Iv Tryz.prog Γ0 (.fn (.func 110) [] [.ref (.ptr 1 0)]) [ag (EdgT.row c)] (ckH n) (bool (edgBad n c)) (ckH n):=fun c _=>Iv.of (f:=110) (fi:=[]) (ca:=[.ref (.ptr 1 0)]) pok rfl (by kernel_rfl) edg_ev
theorem edc_ev{n:Int}{l:List EdgT}(hl:Short l):Ev Tryz.prog Γ0 109 [rowsD' (l.map EdgT.row),.fn (.func 110) [] [.ref (.ptr 1 0)]] (ckH n) (bool (l.any (edgBad n))) (ckH n):=xec_ev hl edi_a
def chkR(n:Int)(l:List EdgT):Int:=match Dd (n<2)||Dd (n>4096)||Dd (((l.map EdgT.row).length:Int)>65536) with
 | true=>180
 | false=>match l.any (edgBad n) with
  | true=>180
  | false=>0
noncomputable abbrev chk_ev_x0(n:Int):List Blk:=[.var [int n],.var [D.fn (Fn.func 108) [] [.ref (.ptr 0 0)]]]
theorem chk_ev{n:Int}{l:List EdgT}(hl:Short l)(h:List Blk):(Ev Tryz.prog Γ0 79 [int n,rowsD' (l.map EdgT.row)] h (int (chkR n l)) h):=by
 cases hc0:Dd (n<2)||Dd (n>4096)||Dd ((↑(List.length (List.map EdgT.row l)):Int)>65536)
 ·cases hc1:List.any l (edgBad n)
  ·exact Ev.castH (Ev.sym0 (d:=int 0) pok [.b false,.val (bool (List.any l (edgBad n))),.b false] (by kernel_rfl) (.c hc0 (.c (@edc_ev (n) (l) (hl)) (.c hc1 .n))) rfl rfl h) (by first|rfl|(simp only[chkR,hc0,hc1];first|done|rfl)) (by rfl)
  ·exact Ev.castH (Ev.sym0 (d:=int 180) pok [.b false,.val (bool (List.any l (edgBad n))),.b true] (by kernel_rfl) (.c hc0 (.c (@edc_ev (n) (l) (hl)) (.c hc1 .n))) rfl rfl h) (by first|rfl|(simp only[chkR,hc0,hc1];first|done|rfl)) (by rfl)
 ·exact Ev.castH (Ev.sym0 (d:=int 180) pok [.b true] (by kernel_rfl) (.c hc0 .n) rfl rfl h) (by first|rfl|(simp only[chkR,hc0];first|done|rfl)) (by rfl)
def endsBad(n a b:Int):Bool:=Dd (a<0)||Dd (a≥n)||Dd (b<0)||Dd (b≥n)||a==b
def chkE(n:Int)(l:List EdgT)(a b:Int):Int:=match chkR n l != 0 with
 | true=>chkR n l
 | false=>match endsBad n a b with
  | true=>180
  | false=>0
theorem chke_ev{n a b:Int}{l:List EdgT}(hl:Short l)(h:List Blk):(Ev Tryz.prog Γ0 44 [int n,rowsD' (l.map EdgT.row),int a,int b] h (int (chkE n l a b)) h):=by
 cases hc0:chkR n l != 0
 ·cases hc1:Dd (a<0)||Dd (a≥n)||Dd (b<0)||Dd (b≥n)||a==b
  ·exact Ev.castH (Ev.sym0 (d:=int 0) pok [.val (int (chkR n l)),.b false,.b false] (by kernel_rfl) (.c (@chk_ev (n) (l) (hl) ([])) (.c hc0 (.c hc1 .n))) rfl rfl h) (by first|rfl|(simp only[chkE,endsBad,hc0,hc1];first|done|rfl)) (by rfl)
  ·exact Ev.castH (Ev.sym0 (d:=int 180) pok [.val (int (chkR n l)),.b false,.b true] (by kernel_rfl) (.c (@chk_ev (n) (l) (hl) ([])) (.c hc0 (.c hc1 .n))) rfl rfl h) (by first|rfl|(simp only[chkE,endsBad,hc0,hc1];first|done|rfl)) (by rfl)
 ·exact Ev.castH (Ev.sym0 (d:=int (chkR n l)) pok [.val (int (chkR n l)),.b true] (by kernel_rfl) (.c (@chk_ev (n) (l) (hl) ([])) (.c hc0 .n)) rfl rfl h) (by first|rfl|(simp only[chkE,endsBad,hc0];first|done|rfl)) (by rfl)
def edgBad7(n:Int)(x:EdgT):Bool:=Dd (x.frm<0)||Dd (x.frm≥n)||Dd (x.to<0)||Dd (x.to≥n)||x.frm==x.to||Dd (x.most<0)||Dd (x.most>1073741824)
abbrev rcS(n:Int)(l:List EdgT)(i:Int):AS:={t:=mkT 65 0 [(0,int n),(1,rowsD' (l.map EdgT.row)),(5,int i)],h:=[],m:=[]}
theorem rc_body{n:Int}{l:List EdgT}{x:EdgT}{i:Nat}(hr:RowAt (i:Int) (l.map EdgT.row) x.row 3)(hlt:Dd ((i:Int)<((l.map EdgT.row).length:Int))=true)(hw:IntKind.i64.wrap ((i:Int)+1)=((i+1:Nat):Int))(hb:(Dd (x.frm<0)||Dd (x.frm≥n)||Dd (x.to<0)||Dd (x.to≥n)||x.frm==x.to||Dd (x.most<0)||Dd (x.most>1073741824))=false):(CW Tryz.prog Γ0 [] false (sub Tryz.f107 0) (rcS n l i) .normal (rcS n l ((i+1:Nat):Int))):=by
 refine CW.cast (CW.symX (s':={t:=mkT 65 0 [(0,int n),(1,rowsD' (List.map EdgT.row l)),(5,int (IntKind.wrap IntKind.i64 ((↑i:Int)+1)))],h:=[],m:=[]}) (e:=Exit.normal) pok [.st (.mask [0,1,5]),.st (.trim 0)] [.b true,.row [vi x.frm,vi x.to,vi x.most],.b false] (by kernel_rfl) (.c hlt (.c hr (.c hb .n)))) ?_ ?_<;>(first|rfl|(rw[hw]<;>rfl))
theorem rc_bad{n:Int}{l:List EdgT}{x:EdgT}{i:Nat}(hr:RowAt (i:Int) (l.map EdgT.row) x.row 3)(hlt:Dd ((i:Int)<((l.map EdgT.row).length:Int))=true)(hb:(Dd (x.frm<0)||Dd (x.frm≥n)||Dd (x.to<0)||Dd (x.to≥n)||x.frm==x.to||Dd (x.most<0)||Dd (x.most>1073741824))=true):(CW Tryz.prog Γ0 [] false (sub Tryz.f107 0) (rcS n l i) .ret {t:=mkT 65 0 [(4,int 180)],h:=[],m:=[]}):=by
 exact CW.cast (CW.symX (s':={t:=mkT 65 0 [(4,int 180)],h:=[],m:=[]}) (e:=Exit.ret) pok [.st (.mask [4]),.st (.trim 0)] [.b true,.row [vi x.frm,vi x.to,vi x.most],.b true] (by kernel_rfl) (.c hlt (.c hr (.c hb .n)))) (by rfl) (by rfl)
theorem rc_last{n:Int}{l:List EdgT}{i:Nat}(hlt:Dd ((i:Int)<((l.map EdgT.row).length:Int))=false):(CW Tryz.prog Γ0 [] false (sub Tryz.f107 0) (rcS n l i) (.exit 0) {t:=mkT 65 0 [],h:=[],m:=[]}):=by
 exact CW.cast (CW.symX (s':={t:=mkT 65 0 [],h:=[],m:=[]}) (e:=Exit.exit 0) pok [.st (.mask [])] [.b false] (by kernel_rfl) (.c hlt .n)) (by rfl) (by rfl)
def rcF(n:Int)(x:EdgT)(s:Unit):Unit⊕Unit:=match edgBad7 n x with
 | true=>.inr ()
 | false=>.inl s
theorem rcF_any{n:Int}:∀(l:List EdgT),forL (rcF n) l ()=(match l.any (edgBad7 n) with|true=>.inr ()|false=>.inl ())
 | []=>rfl
 | x::l=>by
  simp only[forL,rcF,List.any_cons]
  cases edgBad7 n x with
  | true=>rfl
  | false=>simpa using rcF_any l
theorem rc_loop{n:Int}{l:List EdgT}(hl:Short l):CW Tryz.prog Γ0 [] false (.loop (sub Tryz.f107 0)) (rcS n l 0) (eachFin (.exit 0) (fun _:Unit=>{t:=mkT 65 0 [],h:=[],m:=[]}) (fun _:Unit=>(.ret,{t:=mkT 65 0 [(4,int 180)],h:=[],m:=[]})) (forL (rcF n) l ())).1
  (eachFin (.exit 0) (fun _:Unit=>{t:=mkT 65 0 [],h:=[],m:=[]}) (fun _:Unit=>(.ret,{t:=mkT 65 0 [(4,int 180)],h:=[],m:=[]})) (forL (rcF n) l ())).2:=by
 refine CW.each l (rcF n) (fun i _=>rcS n l (i:Int)) (.exit 0) _ _ (fun _ _=>True) (by simp) (fun _=>by simp) ?_ ?_ () trivial
 ·intro i x s hx _
  have hi:=(List.getElem?_eq_some_iff.1 hx).1
  refine⟨fun _ _=>trivial,?_⟩
  cases hb:edgBad7 n x with
  | true =>
   have e:rcF n x s=.inr ():=by unfold rcF;rw[hb]
   rw[e]
   exact rc_bad (rowAt hx rfl) (lt_len EdgT.row hi) hb
  | false =>
   have e:rcF n x s=.inl s:=by unfold rcF;rw[hb]
   rw[e]
   exact rc_body (rowAt hx rfl) (lt_len EdgT.row hi) (wrap_succ hi hl) hb
 ·intro s _
  exact rc_last (ge_len EdgT.row l)
theorem rc_l1{n:Int}{l:List EdgT}(hl:Short l)(hb:l.any (edgBad7 n)=true):CW Tryz.prog Γ0 [] false (.loop (sub Tryz.f107 0)) (rcS n l 0) .ret {t:=mkT 65 0 [(4,int 180)],h:=[],m:=[]}:=by
 have:=rc_loop (n:=n) hl
 rw[rcF_any,hb] at this
 exact this
theorem rc_l0{n:Int}{l:List EdgT}(hl:Short l)(hb:l.any (edgBad7 n)=false):CW Tryz.prog Γ0 [] false (.loop (sub Tryz.f107 0)) (rcS n l 0) (.exit 0) {t:=mkT 65 0 [],h:=[],m:=[]}:=by
 have:=rc_loop (n:=n) hl
 rw[rcF_any,hb] at this
 exact this
abbrev bigB(n:Int)(l:List EdgT):Bool:=Dd (n<2)||Dd (n>4096)||Dd (((l.map EdgT.row).length:Int)>65536)
theorem rck_1{n:Int}{l:List EdgT}(hb:(Dd (n<2)||Dd (n>4096)||Dd (((l.map EdgT.row).length:Int)>65536))=true)(h:List Blk):(Ev Tryz.prog Γ0 107 [int n,rowsD' (l.map EdgT.row)] h (int 180) h):=by
 exact Ev.castH (Ev.sym0 (d:=int 180) pok [.b true] (by kernel_rfl) (.c hb .n) rfl rfl h) (by rfl) (by rfl)
theorem rck_2{n:Int}{l:List EdgT}(hb:(Dd (n<2)||Dd (n>4096)||Dd (((l.map EdgT.row).length:Int)>65536))=false)(hcw:CW Tryz.prog Γ0 [] false (.loop (sub Tryz.f107 0)) (rcS n l 0) .ret {t:=mkT 65 0 [(4,int 180)],h:=[],m:=[]})(h:List Blk):(Ev Tryz.prog Γ0 107 [int n,rowsD' (l.map EdgT.row)] h (int 180) h):=by
 have hl0:=(@hcw)
 exact Ev.castH (Ev.sym0 (d:=int 180) pok [.b false,.sum [0,1,5] (Exit.ret) {t:=mkT 65 0 [(4,int 180)],h:=[],m:=[]}] (by kernel_rfl) (.c hb (.c hl0 .n)) rfl rfl h) (by rfl) (by rfl)
theorem rck_3{n:Int}{l:List EdgT}(hb:(Dd (n<2)||Dd (n>4096)||Dd (((l.map EdgT.row).length:Int)>65536))=false)(hcw:CW Tryz.prog Γ0 [] false (.loop (sub Tryz.f107 0)) (rcS n l 0) (.exit 0) {t:=mkT 65 0 [],h:=[],m:=[]})(h:List Blk):(Ev Tryz.prog Γ0 107 [int n,rowsD' (l.map EdgT.row)] h (int 0) h):=by
 have hl0:=(@hcw)
 exact Ev.castH (Ev.sym0 (d:=int 0) pok [.b false,.sum [0,1,5] (Exit.exit 0) {t:=mkT 65 0 [],h:=[],m:=[]}] (by kernel_rfl) (.c hb (.c hl0 .n)) rfl rfl h) (by rfl) (by rfl)
theorem edgBad_eq(n:Int)(x:EdgT):edgBad n x=edgBad7 n x:=by
 unfold edgBad edgBad7 nodB
 have e1:∀(a b:Int),Dd (a≥b) = !Dd (a<b):=fun a b=>by simp[←Int.not_lt]
 simp only[e1,Bool.not_and,Bool.not_not]
 simp only[Bool.or_assoc]
theorem rchk_ev{n:Int}{l:List EdgT}(hl:Short l)(h:List Blk):Ev Tryz.prog Γ0 107 [int n,rowsD' (l.map EdgT.row)] h (int (chkR n l)) h:=by
 have e:edgBad n=edgBad7 n:=funext (edgBad_eq n)
 unfold chkR
 rw[e]
 cases hb:bigB n l with
 | true =>
  rw[show(Dd (n<2)||Dd (n>4096)||Dd (((l.map EdgT.row).length:Int)>65536))=true from hb]
  exact rck_1 hb h
 | false =>
  rw[show(Dd (n<2)||Dd (n>4096)||Dd (((l.map EdgT.row).length:Int)>65536))=false from hb]
  cases ha:l.any (edgBad7 n) with
  | true=>exact rck_2 hb (rc_l1 hl ha) h
  | false=>exact rck_3 hb (rc_l0 hl ha) h
theorem rends_ev{n a b:Int}{l:List EdgT}(hl:Short l)(h:List Blk):(Ev Tryz.prog Γ0 76 [int n,rowsD' (l.map EdgT.row),int a,int b] h (bool (chkR n l==0&&Dd (a≥0)&&Dd (a<n)&&Dd (b≥0)&&Dd (b<n)&&a != b)) h):=by
 exact Ev.castH (Ev.sym0 (d:=bool (chkR n l==0&&Dd (a≥0)&&Dd (a<n)&&Dd (b≥0)&&Dd (b<n)&&a != b)) pok [.val (int (chkR n l))] (by kernel_rfl) (.c (@rchk_ev (n) (l) (hl) ([])) .n) rfl rfl h) (by rfl) (by rfl)
end Go.Vi
