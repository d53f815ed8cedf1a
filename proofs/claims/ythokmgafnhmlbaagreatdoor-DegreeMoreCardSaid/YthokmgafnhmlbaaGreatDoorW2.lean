/- DegreeMore: part of the proof: contracts of the functions that the law reaches, and the law. No conditions beyond the given statement's own. -/
import Derived.Test.YthokmgafnhmlbaaGreatDoorW1
open Decidable renaming decide → Dd
open Go Go.Proofs
namespace Go.Vi
set_option maxRecDepth 100000
set_option maxHeartbeats 4000000
def cL:Code→Code
 | .seq a _=>a
 | c=>c
def cR:Code→Code
 | .seq _ b=>b
 | c=>c
def cB:Code→Code
 | .block _ c=>c
 | .loop c=>c
 | c=>c
abbrev nnV(es:List EdgT):Blk:=.var [rowsD' (es.map EdgT.row),.ref (.vec 0 0),.ref (.vec 1 0)]
abbrev nnT(es:List EdgT)(i:Int):List D:=mkT 64 0 [(5,.ref (.ptr 2 0)),(16,rowsD' (es.map EdgT.row)),(17,int ((es.map EdgT.row).length:Int)),(18,int i)]
abbrev nnU(es:List EdgT)(i:Int):List D:=mkT 64 0 [(5,.ref (.ptr 2 0)),(6,int i),(7,.ref (.ptr 3 0)),(16,rowsD' (es.map EdgT.row)),(17,int ((es.map EdgT.row).length:Int)),(18,int i)]
theorem nn3{es:List EdgT}{fl R:List (List D)}{i:Nat}:(CW Tryz.prog Γ0 [.vec fl 0 1,.vec R 0 1,nnV es] false (cL (sub Tryz.f68 0)) {t:=nnT es i,h:=[.vec fl 0 1,.vec R 0 1,nnV es],m:=[]} .normal
  {t:=mkT 64 0 [(5,.ref (.ptr 2 0)),(16,rowsD' (es.map EdgT.row)),(17,int ((es.map EdgT.row).length:Int)),(18,int i),(19,bool (Dd ((i:Int)<((es.map EdgT.row).length:Int))))],h:=[.vec fl 0 1,.vec R 0 1,nnV es],m:=[]}):=by
 exact CW.cast (CW.symX (s':={t:=mkT 64 0 [(5,.ref (.ptr 2 0)),(16,rowsD' (List.map EdgT.row es)),(17,int (↑(List.length (List.map EdgT.row es)):Int)),(18,int (↑i:Int)),(19,bool (Dd ((↑i:Int)<(↑(List.length (List.map EdgT.row es)):Int))))],h:=[.vec fl 0 1,.vec R 0 1,.var [rowsD' (List.map EdgT.row es),.ref (.vec 0 0),.ref (.vec 1 0)]],m:=[]}) (e:=Exit.normal) pok [.st (.mask [5,16,17,18,19])] [] (by kernel_rfl) .n) (by rfl) (by rfl)
theorem nn4{es:List EdgT}{fl R:List (List D)}{x:EdgT}{i:Nat}(hr:RowAt (i:Int) (es.map EdgT.row) x.row 3):(CW Tryz.prog Γ0 [.vec fl 0 1,.vec R 0 1,nnV es] false (cL (cB (cL (cR (cR (sub Tryz.f68 0)))))) {t:=nnT es i,h:=[.vec fl 0 1,.vec R 0 1,nnV es],m:=[]} .normal
  {t:=nnU es i,h:=[.vec fl 0 1,.vec R 0 1,nnV es,.var [int x.frm,int x.to,int x.most]],m:=[]}):=by
 exact CW.cast (CW.symX (s':={t:=mkT 64 0 [(5,.ref (.ptr 2 0)),(6,int (↑i:Int)),(7,.ref (.ptr 3 0)),(16,rowsD' (List.map EdgT.row es)),(17,int (↑(List.length (List.map EdgT.row es)):Int)),(18,int (↑i:Int))],h:=[.vec fl 0 1,.vec R 0 1,.var [rowsD' (List.map EdgT.row es),.ref (.vec 0 0),.ref (.vec 1 0)],.var [int x.frm,int x.to,int x.most]],m:=[]}) (e:=Exit.normal) pok [.st (.mask [5,6,7,16,17,18])] [.row [vi x.frm,vi x.to,vi x.most]] (by kernel_rfl) (.c hr .n)) (by rfl) (by rfl)
theorem nn_vp{R:List (List D)}{u:Nat}{d:D}(hu:R[u]? = some [d]):VpIs Tryz.prog 34 R 0 0 (Int.toNat (u:Int)) 0 d:=by
 unfold VpIs
 simp only[Int.toNat_natCast,hu,if_true,List.drop_zero]
 rfl
theorem nn_in{R:List (List D)}{u:Nat}{r:List D}(hu:R[u]? = some r):inR (u:Int) R.length=true:=by
 have:=(List.getElem?_eq_some_iff.1 hu).1
 simp[inR];omega
theorem nn_st{R:List (List D)}{b0:Blk}{rest:List Blk}{u:Nat}{r:List D}{e:Nat}(hu:R[u]? = some r)(hr:r.length=1):storeD Tryz.prog (b0::.vec R 0 1::rest) 34 (.ref (.vp 1 0 (Int.toNat (u:Int)) 0)) (.ref (.vec 4 e))=some (b0::.vec (R.set u [.ref (.vec 4 e)]) 0 1::rest):=by
 match r,hr with
 | [d],_ =>
  unfold storeD
  simp[hu]
  rfl
theorem vecJ_app(B:List Int)(n:Int):vecJ B++[[int n]]=vecJ (B++[n]):=by simp
theorem vecJ_inn{k e:Nat}(B:List Int):Blk.inn k (.vec (vecJ B) e 1)=true:=by simp[Blk.inn,D.innL,D.inn]
theorem nn5{es:List EdgT}{fl R:List (List D)}{B:List Int}{u i:Nat}{to most:Int}(hR:R[u]? = some [.ref (.vec 4 0)])(hB:B.length≤1000000)(hfl:Blk.inn 5 (.vec fl 0 1)=true)(hRi:Blk.inn 5 (.vec (R.set u [.ref (.vec 4 1)]) 0 1)=true):(CW Tryz.prog Γ0 [.vec fl 0 1,.vec R 0 1,nnV es,.var [int (u:Int),int to,int most],.vec (vecJ B) 0 1] false (cL (cR (cB (cL (cR (cR (sub Tryz.f68 0))))))) {t:=nnU es i,h:=[.vec fl 0 1,.vec R 0 1,nnV es,.var [int (u:Int),int to,int most],.vec (vecJ B) 0 1],m:=[]} .normal
  {t:=nnU es i,h:=[.vec fl 0 1,.vec (R.set u [.ref (.vec 4 1)]) 0 1,nnV es,.var [int (u:Int),int to,int most],.vec (vecJ (B++[IntKind.i64.wrap (2*(i:Int))])) 1 1],m:=[]}):=by
 refine CW.cast (CW.symX (s':={t:=mkT 64 0 [(5,.ref (.ptr 2 0)),(6,int (↑i:Int)),(7,.ref (.ptr 3 0)),(16,rowsD' (List.map EdgT.row es)),(17,int (↑(List.length (List.map EdgT.row es)):Int)),(18,int (↑i:Int))],h:=[.vec fl 0 1,.vec (List.set R u [.ref (.vec 4 1)]) 0 1,.var [rowsD' (List.map EdgT.row es),.ref (.vec 0 0),.ref (.vec 1 0)],.var [int (↑u:Int),int to,int most],.vec (vecJ B++[[int (IntKind.wrap IntKind.i64 (2*(↑i:Int)))]]) 1 1],m:=[]}) (e:=Exit.normal) pok [.st (.mask [5,6,7,16,17,18]),.st (.trimV 5)] [.ov 36 (.ref (.vec 4 0)),.oh 10041 D.any [.vec fl 0 1,.vec (List.set R u [.ref (.vec 4 1)]) 0 1,nnV es,.var [int (↑u:Int),int to,int most],.vec (vecJ B++[[int (IntKind.wrap IntKind.i64 (2*(↑i:Int)))]]) 1 1,.vec [[int (IntKind.wrap IntKind.i64 (2*(↑i:Int)))]] 0 1]] (by kernel_rfl) (.c (show inR (↑u:Int) (List.length R)=true from ?_) (.c (show loadD Tryz.prog [.vec fl 0 1,.vec R 0 1,.var [rowsD' (List.map EdgT.row es),.ref (.vec 0 0),.ref (.vec 1 0)],.var [int (↑u:Int),int to,int most],.vec (vecJ B) 0 1] 34 (.ref (.vp 1 0 (Int.toNat (↑u:Int)) 0))=some (.ref (.vec 4 0)) from ?_) (.c (show(List.all [[int (IntKind.wrap IntKind.i64 (2*(↑i:Int)))]] (rowOk 1)&&roomOk (List.length (vecJ B)+List.length [[int (IntKind.wrap IntKind.i64 (2*(↑i:Int)))]]) 8)=true from ?_) (.c (show inR (↑u:Int) (List.length R)=true from ?_) (.c (show storeD Tryz.prog [.vec fl 0 1,.vec R 0 1,.var [rowsD' (List.map EdgT.row es),.ref (.vec 0 0),.ref (.vec 1 0)],.var [int (↑u:Int),int to,int most],.vec (vecJ B++[[int (IntKind.wrap IntKind.i64 (2*(↑i:Int)))]]) 1 1,.vec [[int (IntKind.wrap IntKind.i64 (2*(↑i:Int)))]] 0 1] 34 (.ref (.vp 1 0 (Int.toNat (↑u:Int)) 0)) (.ref (.vec 4 1))=some [.vec fl 0 1,.vec (List.set R u [.ref (.vec 4 1)]) 0 1,.var [rowsD' (List.map EdgT.row es),.ref (.vec 0 0),.ref (.vec 1 0)],.var [int (↑u:Int),int to,int most],.vec (vecJ B++[[int (IntKind.wrap IntKind.i64 (2*(↑i:Int)))]]) 1 1,.vec [[int (IntKind.wrap IntKind.i64 (2*(↑i:Int)))]] 0 1] from ?_) (.e (.ref (.ptr 2 0)) (.e (.ref (.ptr 2 0)) (.e (.ref (.ptr 2 0)) (.e (.ref (.ptr 2 2)) (.e (.ref (.ptr 2 2)) (.e (.ref (.ptr 2 2)) (.e (.ref (.vec 1 0)) (.e (.ref (.vec 1 0)) (.e (.ref (.vec 1 0)) (.e (.ref (.ptr 3 0)) (.e (.ref (.ptr 3 0)) (.e (.ref (.ptr 3 0)) (.e (int (↑u:Int)) (.e (int (↑u:Int)) (.e (int (↑u:Int)) (.e (.ref (.ptr 2 0)) (.e (.ref (.ptr 2 0)) (.e (.ref (.ptr 2 2)) (.e (.ref (.ptr 2 2)) (.e (.ref (.vec 1 0)) (.e (.ref (.vec 1 0)) (.e (.ref (.ptr 3 0)) (.e (.ref (.ptr 3 0)) (.e (int (↑u:Int)) (.e (int (↑u:Int)) (.c (show inR (↑u:Int) (List.length R)=true from ?_) (.e (.ref (.vp 1 0 (Int.toNat (↑u:Int)) 0)) (.c (show inR (↑u:Int) (List.length R)=true from ?_) (.e (.ref (.vp 1 0 (Int.toNat (↑u:Int)) 0)) (.c (show(if 0=0 then match R[Int.toNat (↑u:Int)]? with|some row=>takeT Tryz.prog 34 (List.drop 0 row)|none=>none else none)=some (.ref (.vec 4 0)) from ?_) (.c (show(if 0=0 then match R[Int.toNat (↑u:Int)]? with|some row=>takeT Tryz.prog 34 (List.drop 0 row)|none=>none else none)=some (.ref (.vec 4 0)) from ?_) (.c (show inR (↑u:Int) (List.length R)=true from ?_) (.e (.ref (.vp 1 0 (Int.toNat (↑u:Int)) 0)) (.c hfl (.c hRi (.c (show Blk.inn 5 (.var [rowsD' (List.map EdgT.row es),.ref (.vec 0 0),.ref (.vec 1 0)])=true from rfl) (.c (show Blk.inn 5 (.var [int (↑u:Int),int to,int most])=true from rfl) (.c (show Blk.inn 5 (.vec (vecJ B++[[int (IntKind.wrap IntKind.i64 (2*(↑i:Int)))]]) 1 1)=true from ?_) .n)))))))))))))))))))))))))))))))))))))))))))) (by first|rfl|(rw[vecJ_app];done)|(rw[vecJ_app];rfl)) (by first|rfl|(rw[vecJ_app];done)|(rw[vecJ_app];rfl))<;>(first|assumption|rfl|exact nn_vp hR|exact nn_in hR|exact nn_st hR rfl|(rw[vecJ_app];exact vecJ_inn _)|(simp[rowOk,D.one,Value.oneCell',roomOk];omega))
theorem nn6{es:List EdgT}{fl R:List (List D)}{B:List Int}{u i:Nat}{frm most:Int}(hR:R[u]? = some [.ref (.vec 4 0)])(hB:B.length≤1000000)(hfl:Blk.inn 5 (.vec fl 0 1)=true)(hRi:Blk.inn 5 (.vec (R.set u [.ref (.vec 4 1)]) 0 1)=true):(CW Tryz.prog Γ0 [.vec fl 0 1,.vec R 0 1,nnV es,.var [int frm,int (u:Int),int most],.vec (vecJ B) 0 1] false (cR (cR (cB (cL (cR (cR (sub Tryz.f68 0))))))) {t:=nnU es i,h:=[.vec fl 0 1,.vec R 0 1,nnV es,.var [int frm,int (u:Int),int most],.vec (vecJ B) 0 1],m:=[]} .normal
  {t:=nnU es i,h:=[.vec fl 0 1,.vec (R.set u [.ref (.vec 4 1)]) 0 1,nnV es,.var [int frm,int (u:Int),int most],.vec (vecJ (B++[IntKind.i64.wrap (IntKind.i64.wrap (2*(i:Int))+1)])) 1 1],m:=[]}):=by
 refine CW.cast (CW.symX (s':={t:=mkT 64 0 [(5,.ref (.ptr 2 0)),(6,int (↑i:Int)),(7,.ref (.ptr 3 0)),(16,rowsD' (List.map EdgT.row es)),(17,int (↑(List.length (List.map EdgT.row es)):Int)),(18,int (↑i:Int))],h:=[.vec fl 0 1,.vec (List.set R u [.ref (.vec 4 1)]) 0 1,.var [rowsD' (List.map EdgT.row es),.ref (.vec 0 0),.ref (.vec 1 0)],.var [int frm,int (↑u:Int),int most],.vec (vecJ B++[[int (IntKind.wrap IntKind.i64 (IntKind.wrap IntKind.i64 (2*(↑i:Int))+1))]]) 1 1],m:=[]}) (e:=Exit.normal) pok [.st (.mask [5,6,7,16,17,18]),.st (.trimV 5)] [.ov 55 (.ref (.vec 4 0)),.oh 10061 D.any [.vec fl 0 1,.vec (List.set R u [.ref (.vec 4 1)]) 0 1,nnV es,.var [int frm,int (↑u:Int),int most],.vec (vecJ B++[[int (IntKind.wrap IntKind.i64 (IntKind.wrap IntKind.i64 (2*(↑i:Int))+1))]]) 1 1,.vec [[int (IntKind.wrap IntKind.i64 (IntKind.wrap IntKind.i64 (2*(↑i:Int))+1))]] 0 1]] (by kernel_rfl) (.c (show inR (↑u:Int) (List.length R)=true from ?_) (.c (show loadD Tryz.prog [.vec fl 0 1,.vec R 0 1,.var [rowsD' (List.map EdgT.row es),.ref (.vec 0 0),.ref (.vec 1 0)],.var [int frm,int (↑u:Int),int most],.vec (vecJ B) 0 1] 34 (.ref (.vp 1 0 (Int.toNat (↑u:Int)) 0))=some (.ref (.vec 4 0)) from ?_) (.c (show(List.all [[int (IntKind.wrap IntKind.i64 (IntKind.wrap IntKind.i64 (2*(↑i:Int))+1))]] (rowOk 1)&&roomOk (List.length (vecJ B)+List.length [[int (IntKind.wrap IntKind.i64 (IntKind.wrap IntKind.i64 (2*(↑i:Int))+1))]]) 8)=true from ?_) (.c (show inR (↑u:Int) (List.length R)=true from ?_) (.c (show storeD Tryz.prog [.vec fl 0 1,.vec R 0 1,.var [rowsD' (List.map EdgT.row es),.ref (.vec 0 0),.ref (.vec 1 0)],.var [int frm,int (↑u:Int),int most],.vec (vecJ B++[[int (IntKind.wrap IntKind.i64 (IntKind.wrap IntKind.i64 (2*(↑i:Int))+1))]]) 1 1,.vec [[int (IntKind.wrap IntKind.i64 (IntKind.wrap IntKind.i64 (2*(↑i:Int))+1))]] 0 1] 34 (.ref (.vp 1 0 (Int.toNat (↑u:Int)) 0)) (.ref (.vec 4 1))=some [.vec fl 0 1,.vec (List.set R u [.ref (.vec 4 1)]) 0 1,.var [rowsD' (List.map EdgT.row es),.ref (.vec 0 0),.ref (.vec 1 0)],.var [int frm,int (↑u:Int),int most],.vec (vecJ B++[[int (IntKind.wrap IntKind.i64 (IntKind.wrap IntKind.i64 (2*(↑i:Int))+1))]]) 1 1,.vec [[int (IntKind.wrap IntKind.i64 (IntKind.wrap IntKind.i64 (2*(↑i:Int))+1))]] 0 1] from ?_) (.e (.ref (.ptr 2 0)) (.e (.ref (.ptr 2 0)) (.e (.ref (.ptr 2 0)) (.e (.ref (.ptr 2 2)) (.e (.ref (.ptr 2 2)) (.e (.ref (.ptr 2 2)) (.e (.ref (.vec 1 0)) (.e (.ref (.vec 1 0)) (.e (.ref (.vec 1 0)) (.e (.ref (.ptr 3 1)) (.e (.ref (.ptr 3 1)) (.e (.ref (.ptr 3 1)) (.e (int (↑u:Int)) (.e (int (↑u:Int)) (.e (int (↑u:Int)) (.e (.ref (.ptr 2 0)) (.e (.ref (.ptr 2 0)) (.e (.ref (.ptr 2 2)) (.e (.ref (.ptr 2 2)) (.e (.ref (.vec 1 0)) (.e (.ref (.vec 1 0)) (.e (.ref (.ptr 3 1)) (.e (.ref (.ptr 3 1)) (.e (int (↑u:Int)) (.e (int (↑u:Int)) (.c (show inR (↑u:Int) (List.length R)=true from ?_) (.e (.ref (.vp 1 0 (Int.toNat (↑u:Int)) 0)) (.c (show inR (↑u:Int) (List.length R)=true from ?_) (.e (.ref (.vp 1 0 (Int.toNat (↑u:Int)) 0)) (.c (show(if 0=0 then match R[Int.toNat (↑u:Int)]? with|some row=>takeT Tryz.prog 34 (List.drop 0 row)|none=>none else none)=some (.ref (.vec 4 0)) from ?_) (.c (show(if 0=0 then match R[Int.toNat (↑u:Int)]? with|some row=>takeT Tryz.prog 34 (List.drop 0 row)|none=>none else none)=some (.ref (.vec 4 0)) from ?_) (.c (show inR (↑u:Int) (List.length R)=true from ?_) (.e (.ref (.vp 1 0 (Int.toNat (↑u:Int)) 0)) (.c hfl (.c hRi (.c (show Blk.inn 5 (.var [rowsD' (List.map EdgT.row es),.ref (.vec 0 0),.ref (.vec 1 0)])=true from rfl) (.c (show Blk.inn 5 (.var [int frm,int (↑u:Int),int most])=true from rfl) (.c (show Blk.inn 5 (.vec (vecJ B++[[int (IntKind.wrap IntKind.i64 (IntKind.wrap IntKind.i64 (2*(↑i:Int))+1))]]) 1 1)=true from ?_) .n)))))))))))))))))))))))))))))))))))))))))))) (by first|rfl|(rw[vecJ_app];done)|(rw[vecJ_app];rfl)) (by first|rfl|(rw[vecJ_app];done)|(rw[vecJ_app];rfl))<;>(first|assumption|rfl|exact nn_vp hR|exact nn_in hR|exact nn_st hR rfl|(rw[vecJ_app];exact vecJ_inn _)|(simp[rowOk,D.one,Value.oneCell',roomOk];omega))
theorem nn7{es:List EdgT}{fl R:List (List D)}{x:EdgT}{i:Nat}(hw:IntKind.i64.wrap ((i:Int)+1)=((i+1:Nat):Int)):(CW Tryz.prog Γ0 [.vec fl 0 1,.vec R 0 1,nnV es,.var [int x.frm,int x.to,int x.most]] false (cR (cR (cR (sub Tryz.f68 0)))) {t:=nnU es i,h:=[.vec fl 0 1,.vec R 0 1,nnV es,.var [int x.frm,int x.to,int x.most]],m:=[]} .normal
  {t:=nnT es ((i+1:Nat):Int),h:=[.vec fl 0 1,.vec R 0 1,nnV es,.var [int x.frm,int x.to,int x.most]],m:=[]}):=by
 refine CW.cast (CW.symX (s':={t:=mkT 64 0 [(5,.ref (.ptr 2 0)),(16,rowsD' (List.map EdgT.row es)),(17,int (↑(List.length (List.map EdgT.row es)):Int)),(18,int (IntKind.wrap IntKind.i64 ((↑i:Int)+1)))],h:=[.vec fl 0 1,.vec R 0 1,.var [rowsD' (List.map EdgT.row es),.ref (.vec 0 0),.ref (.vec 1 0)],.var [int x.frm,int x.to,int x.most]],m:=[]}) (e:=Exit.normal) pok [.st (.mask [5,16,17,18])] [] (by kernel_rfl) .n) ?_ ?_<;>(first|rfl|(rw[hw]))
abbrev nnC(es:List EdgT)(i:Int)(b:Bool):List D:=mkT 64 0 [(5,.ref (.ptr 2 0)),(16,rowsD' (es.map EdgT.row)),(17,int ((es.map EdgT.row).length:Int)),(18,int i),(19,bool b)]
theorem nnc1{es:List EdgT}{fl R:List (List D)}{i:Nat}{b:Bool}(hb:b=true):(CW Tryz.prog Γ0 [.vec fl 0 1,.vec R 0 1,nnV es] false (cL (cR (sub Tryz.f68 0))) {t:=nnC es i b,h:=[.vec fl 0 1,.vec R 0 1,nnV es],m:=[]} .normal
  {t:=nnT es i,h:=[.vec fl 0 1,.vec R 0 1,nnV es],m:=[]}):=by
 exact CW.cast (CW.symX (s':={t:=mkT 64 0 [(5,.ref (.ptr 2 0)),(16,rowsD' (List.map EdgT.row es)),(17,int (↑(List.length (List.map EdgT.row es)):Int)),(18,int (↑i:Int))],h:=[.vec fl 0 1,.vec R 0 1,.var [rowsD' (List.map EdgT.row es),.ref (.vec 0 0),.ref (.vec 1 0)]],m:=[]}) (e:=Exit.normal) pok [.st (.mask [5,16,17,18])] [.b true] (by kernel_rfl) (.c hb .n)) (by rfl) (by rfl)
theorem nnc0{es:List EdgT}{fl R:List (List D)}{i:Nat}{b:Bool}(hb:b=false):(CW Tryz.prog Γ0 [.vec fl 0 1,.vec R 0 1,nnV es] false (cL (cR (sub Tryz.f68 0))) {t:=nnC es i b,h:=[.vec fl 0 1,.vec R 0 1,nnV es],m:=[]} (.exit 0)
  {t:=mkT 64 0 [(5,.ref (.ptr 2 0))],h:=[.vec fl 0 1,.vec R 0 1,nnV es],m:=[]}):=by
 exact CW.cast (CW.symX (s':={t:=mkT 64 0 [(5,.ref (.ptr 2 0))],h:=[.vec fl 0 1,.vec R 0 1,.var [rowsD' (List.map EdgT.row es),.ref (.vec 0 0),.ref (.vec 1 0)]],m:=[]}) (e:=Exit.exit 0) pok [.st (.mask [5])] [.b false] (by kernel_rfl) (.c hb .n)) (by rfl) (by rfl)
def adjF(s:List (List Int)×Int)(x:EdgT):List (List Int)×Int :=
 let A:=s.1.set x.frm.toNat (s.1.getD x.frm.toNat []++[IntKind.i64.wrap (2*s.2)])
 (A.set x.to.toNat (A.getD x.to.toNat []++[IntKind.i64.wrap (IntKind.i64.wrap (2*s.2)+1)]),s.2+1)
def adjR(n:Nat)(es:List EdgT):List (List Int):=(es.foldl adjF (List.replicate n [],0)).1
theorem adjF_len(s:List (List Int)×Int)(x:EdgT):(adjF s x).1.length=s.1.length:=by simp[adjF]
def Lim(A:List (List Int))(k:Nat):Prop:=∀(j:Nat) (B:List Int),A[j]? = some B→B.length≤k
theorem Lim.set{A:List (List Int)}{k:Nat}(h:Lim A k)(u:Nat)(v:Int):Lim (A.set u (A.getD u []++[v])) (k+1):=by
 intro j B hj
 by_cases hu:j=u
 ·subst hu
  have hl:j<A.length:=by have:=(List.getElem?_eq_some_iff.1 hj).1;simpa using this
  rw[List.getElem?_set_self hl] at hj
  cases hj
  have hg:A[j]? = some (A.getD j []):=by simp[List.getD,hl]
  have:=h j _ hg
  simp only[List.length_append,List.length_singleton];omega
 ·rw[List.getElem?_set_ne (fun e=>hu e.symm)] at hj
  have:=h j B hj;omega
theorem adjF_lim{s:List (List Int)×Int}{x:EdgT}{k:Nat}(h:Lim s.1 k):Lim (adjF s x).1 (k+2):=by
 have h1:=h.set x.frm.toNat (IntKind.i64.wrap (2*s.2))
 have h2:=h1.set x.to.toNat (IntKind.i64.wrap (IntKind.i64.wrap (2*s.2)+1))
 unfold adjF
 intro j B hj
 exact h2 j B hj
theorem getD_lt{A:List (List Int)}{j:Nat}(h:j<A.length):A[j]? = some (A.getD j []):=by simp[List.getD,h]
def EdgIn(n:Nat)(x:EdgT):Prop:=0≤x.frm∧x.frm<n∧0≤x.to∧x.to<n
theorem rowA_inn{ys:List Value}{u e:Nat}:Blk.inn 5 (.vec (((rawR ys).set u [.ref (.vec 4 0)]).set u [.ref (.vec 4 1)]) 0 e)=true:=by
 simp only[Blk.inn,List.set_set]
 rw[List.all_eq_true]
 intro r hr
 rcases List.mem_or_eq_of_mem_set hr with h1|h1
 ·obtain⟨y,_,rfl⟩:=List.mem_map.1 h1;rfl
 ·rw[h1];rfl
theorem rawA_get{ys:List Value}{u:Nat}(hu:u<ys.length):((rawR ys).set u [D.ref (.vec 4 0)])[u]? = some [.ref (.vec 4 0)]:=List.getElem?_set_self (by simpa using hu)
section
variable {X:Ctx} {fl:List (List D)} {es:List EdgT}
theorem nn_round(hfl:∀k,Blk.inn k (.vec fl 0 1)=true)(hes:es.length≤10000){A:List (List Int)}{i:Nat}{x:EdgT}(hx:es[i]? = some x)(hin:EdgIn A.length x)(hA:Lim A (2*i)){a:Act}{w:World}
  (hn:NB Γ0 X (nnT es i) [.vec fl 0 1] [nnV es] A a w) :
  (sub Tryz.f68 0).wpIn (FW none) 0 Tryz.prog (fun e a' w'=>e=.normal∧NB Γ0 X (nnT es ((i+1:Nat):Int)) [.vec fl 0 1] [nnV es] (adjF (A,(i:Int)) x).1 a' w') a w:=by
 have hi:=(List.getElem?_eq_some_iff.1 hx).1
 have hlt:=lt_len EdgT.row hi
 have hw:=wrap_succ hi (by omega)
 obtain⟨u,hu⟩:∃u:Nat,x.frm=u:=⟨x.frm.toNat,by have:=hin.1;omega⟩
 obtain⟨v,hv⟩:∃v:Nat,x.to=v:=⟨x.to.toNat,by have:=hin.2.2.1;omega⟩
 have hul:u<A.length:=by have:=hin.2.1;omega
 have hvl:v<A.length:=by have:=hin.2.2.2;omega
 have hsub:sub Tryz.f68 0=.seq (cL (sub Tryz.f68 0)) (.seq (cL (cR (sub Tryz.f68 0))) (.seq (.block 1 (.seq (cL (cB (cL (cR (cR (sub Tryz.f68 0)))))) (.seq (cL (cR (cB (cL (cR (cR (sub Tryz.f68 0))))))) (cR (cR (cB (cL (cR (cR (sub Tryz.f68 0))))))))))
  (cR (cR (cR (sub Tryz.f68 0)))))):=by kernel_rfl
 rw[hsub]
 refine wpIn_seq (wpIn_mono (NB.run (e:=.normal) (pre':=[.vec fl 0 1]) (more':=[nnV es]) (t':=nnC es i (Dd ((i:Int)<((es.map EdgT.row).length:Int)))) (by simp) (fun ys _=>nn3 (es:=es) (fl:=fl) (R:=rawR ys) (i:=i)) hn) ?_)
 rintro e a1 w1 ⟨rfl,n1⟩
 refine wpIn_seq (wpIn_mono (NB.run (e:=.normal) (pre':=[.vec fl 0 1]) (more':=[nnV es]) (t':=nnT es i) (by simp) (fun ys _=>nnc1 (es:=es) (fl:=fl) (R:=rawR ys) (i:=i) (b:=Dd ((i:Int)<((es.map EdgT.row).length:Int))) hlt) n1) ?_)
 rintro e a2 w2 ⟨rfl,n2⟩
 refine wpIn_seq (wpIn_block ?_)
 refine wpIn_seq (wpIn_mono (NB.run (e:=.normal) (pre':=[.vec fl 0 1]) (more':=[nnV es,.var [int x.frm,int x.to,int x.most]]) (t':=nnU es i) (by simp) (fun ys _=>nn4 (es:=es) (fl:=fl) (R:=rawR ys) (i:=i) (x:=x) (rowAt hx rfl)) n2) ?_)
 rintro e a3 w3 ⟨rfl,n3⟩
 rw[hu,hv] at n3
 have hAu:A[u]? = some (A.getD u []):=getD_lt hul
 have hBu:(A.getD u []).length≤1000000:=by have:=hA u _ hAu;omega
 refine wpIn_seq (wpIn_mono (NB.focus (t':=nnU es i) (u:=u) (B:=A.getD u []) (B':=A.getD u []++[IntKind.i64.wrap (2*(i:Int))]) hAu (by simp[hfl]) rfl rfl (fun ys hy=>?_) n3) ?_)
 ·have:=nn5 (es:=es) (fl:=fl) (R:=(rawR ys).set u [.ref (.vec 4 0)]) (B:=A.getD u []) (u:=u) (i:=i) (to:=(v:Int)) (most:=x.most) (rawA_get (by omega)) hBu (hfl 5) rowA_inn
  rw[List.set_set] at this
  exact this
 rintro e a4 w4 ⟨rfl,n4⟩
 have hvl2:v<(A.set u (A.getD u []++[IntKind.i64.wrap (2*(i:Int))])).length:=by simpa using hvl
 have hAv:(A.set u (A.getD u []++[IntKind.i64.wrap (2*(i:Int))]))[v]? = some ((A.set u (A.getD u []++[IntKind.i64.wrap (2*(i:Int))])).getD v []):=getD_lt hvl2
 have hBv:((A.set u (A.getD u []++[IntKind.i64.wrap (2*(i:Int))])).getD v []).length≤1000000:=by have:=(hA.set u (IntKind.i64.wrap (2*(i:Int)))) v _ hAv;omega
 refine wpIn_mono (NB.focus (t':=nnU es i) (u:=v) (B:=(A.set u (A.getD u []++[IntKind.i64.wrap (2*(i:Int))])).getD v []) (B':=(A.set u (A.getD u []++[IntKind.i64.wrap (2*(i:Int))])).getD v []++[IntKind.i64.wrap (IntKind.i64.wrap (2*(i:Int))+1)]) hAv (by simp[hfl]) rfl rfl (fun ys hy=>?_) n4) ?_
 ·have:=nn6 (es:=es) (fl:=fl) (R:=(rawR ys).set v [.ref (.vec 4 0)]) (B:=(A.set u (A.getD u []++[IntKind.i64.wrap (2*(i:Int))])).getD v []) (u:=v) (i:=i) (frm:=(u:Int)) (most:=x.most) (rawA_get (by simp at hy;omega)) hBv (hfl 5) rowA_inn
  rw[List.set_set] at this
  exact this
 rintro e a5 w5 ⟨rfl,n5⟩
 have n5':NB Γ0 X (nnU es i) [.vec fl 0 1] [nnV es,.var [int x.frm,int x.to,int x.most]] (adjF (A,(i:Int)) x).1 a5 w5:=by
  unfold adjF
  simp only[hu,hv,Int.toNat_natCast]
  exact n5
 refine wpIn_mono (NB.run (e:=.normal) (pre':=[.vec fl 0 1]) (more':=[nnV es,.var [int x.frm,int x.to,int x.most]]) (t':=nnT es ((i+1:Nat):Int)) (by simp) (fun ys _=>nn7 (es:=es) (fl:=fl) (R:=rawR ys) (i:=i) (x:=x) hw) n5') ?_
 rintro e a6 w6 ⟨rfl,n6⟩
 exact⟨rfl,NB.trimTo (m1:=[nnV es]) (m2:=[.var [int x.frm,int x.to,int x.most]]) n6 rfl (by simp[hfl]) rfl⟩
end
theorem adj_snd:∀(l:List EdgT) (s:List (List Int)×Int),(l.foldl adjF s).2=s.2+l.length
 | [],s=>by simp
 | x::l,s=>by rw[List.foldl_cons,adj_snd l];simp[adjF];omega
theorem adj_len:∀(l:List EdgT) (s:List (List Int)×Int),(l.foldl adjF s).1.length=s.1.length
 | [],s=>rfl
 | x::l,s=>by rw[List.foldl_cons,adj_len l,adjF_len]
theorem adj_lim:∀(l:List EdgT) (s:List (List Int)×Int) (k:Nat),Lim s.1 k→Lim (l.foldl adjF s).1 (k+2*l.length)
 | [],s,k,h=>h
 | x::l,s,k,h=>by
  have:=adj_lim l (adjF s x) (k+2) (adjF_lim h)
  rw[List.foldl_cons]
  intro j B hj
  have:=this j B hj
  simp only[List.length_cons];omega
abbrev flR(es:List EdgT):List (List D):=List.replicate (Int.toNat ((es.map EdgT.row).length:Int)) [int 0]
abbrev adjV(A:List (List Int)):List (List D):=A.map fun B=>[.p (.sl (rowsI B))]
theorem flR_inn{es:List EdgT}(k:Nat):Blk.inn k (.vec (flR es) 0 1)=true:=by
 simp only[Blk.inn,List.all_eq_true]
 intro r hr
 rw[(List.mem_replicate.1 hr).2];rfl
theorem nn_cw{n:Nat}{es:List EdgT}(hes:es.length≤10000)(hin:∀x∈es,EdgIn n x):
  CW Tryz.prog Γ0 [] false (.loop (sub Tryz.f68 0)) {t:=nnT es 0,h:=[.vec (flR es) 0 1,.vec (List.replicate (Int.toNat (n:Int)) [.p (.v (.slice none 0 0))]) 0 1,nnV es],m:=[]} (.exit 0)
   {t:=mkT 64 0 [(5,.ref (.ptr 2 0))],h:=[.vec (flR es) 0 1,.vec (adjV (adjR n es)) 0 1,nnV es],m:=[]}:=by
 intro X r hX hr a w hs
 obtain rfl:=hr rfl
 have hs':St Γ0 X {t:=nnT es 0,h:=hB [.vec (flR es) 0 1] (rawR (List.replicate n (.slice none 0 0))) [nnV es],m:=[]} a w:=by
  have e:rawR (List.replicate n (.slice none 0 0))=List.replicate (Int.toNat (n:Int)) [.p (.v (.slice none 0 0))]:=by simp
  rw[e];exact hs
 have n0:=NB.enter hX hs'
 refine wpIn_loopG (fun (i:Nat) a w=>i≤es.length∧NB Γ0 X (nnT es i) [.vec (flR es) 0 1] [nnV es] ((es.take i).foldl adjF (List.replicate n [],0)).1 a w) (fun i=>es.length - i) 0 ⟨Nat.zero_le _,n0⟩ ?_
 rintro i a w ⟨hi,hn⟩
 have hl:((es.take i).foldl adjF (List.replicate n [],0)).1.length=n:=by rw[adj_len];simp
 have hlim:Lim ((es.take i).foldl adjF (List.replicate n [],0)).1 (2*i):=by
  have h0:Lim (List.replicate n ([]:List Int)) 0:=by
   intro j B hj
   rw[List.getElem?_replicate] at hj
   split at hj<;>simp at hj
   subst hj;simp
  have:=adj_lim (es.take i) (List.replicate n [],0) 0 h0
  simpa[Nat.min_eq_left hi] using this
 by_cases hlt:i<es.length
 ·have hx:es[i]? = some es[i]:=List.getElem?_eq_getElem hlt
  refine wpIn_mono (nn_round flR_inn hes hx (by rw[hl];exact hin _ (List.getElem_mem hlt)) hlim hn) ?_
  rintro e a' w' ⟨rfl,n1⟩
  refine .inl ⟨rfl,i+1,⟨by omega,?_⟩,by omega⟩
  have e2:((es.take (i+1)).foldl adjF (List.replicate n [],0)).1=(adjF (((es.take i).foldl adjF (List.replicate n [],0)).1,(i:Int)) es[i]).1:=by
   rw[List.take_add_one,hx,Option.toList_some,List.foldl_append,List.foldl_cons,List.foldl_nil]
   congr 2
   have:=adj_snd (es.take i) (List.replicate n [],0)
   rw[List.length_take,Nat.min_eq_left hi] at this
   rw[←Prod.eta ((es.take i).foldl adjF (List.replicate n [],0)),this]
   simp
  rw[e2];exact n1
 ·have hi2:i=es.length:=by omega
  subst hi2
  have hsub:sub Tryz.f68 0=.seq (cL (sub Tryz.f68 0)) (.seq (cL (cR (sub Tryz.f68 0))) (cR (cR (sub Tryz.f68 0)))):=by kernel_rfl
  rw[hsub]
  refine wpIn_seq (wpIn_mono (NB.run (e:=.normal) (pre':=[.vec (flR es) 0 1]) (more':=[nnV es]) (t':=nnC es (es.length:Int) (Dd ((es.length:Int)<((es.map EdgT.row).length:Int)))) (by simp) (fun ys _=>nn3 (es:=es) (fl:=flR es) (R:=rawR ys) (i:=es.length)) hn) ?_)
  rintro e a1 w1 ⟨rfl,n1⟩
  refine wpIn_seq (wpIn_mono (NB.run (e:=.exit 0) (pre':=[.vec (flR es) 0 1]) (more':=[nnV es]) (t':=mkT 64 0 [(5,.ref (.ptr 2 0))]) (by simp) (fun ys _=>nnc0 (es:=es) (fl:=flR es) (R:=rawR ys) (i:=es.length) (b:=Dd ((es.length:Int)<((es.map EdgT.row).length:Int))) (ge_len EdgT.row es)) n1) ?_)
  rintro e a2 w2 ⟨rfl,n2⟩
  have n3:=NB.leave hX n2
  rw[List.take_length] at n3
  exact .inr ⟨by simp,by simp,by simp,_,⟨rfl,rfl⟩,n3⟩
abbrev adjD(A:List (List Int)):List (List Dp):=A.map fun B=>[.sl (rowsI B)]
theorem adjV_frz(A:List (List Int)):adjV A=(adjD A).map (·.map .p):=by simp
theorem flR_map(f:Ref→D)(es:List EdgT):(flR es).map (D.mapRL f)=flR es:=by
 simp only[flR,List.map_replicate];rfl
theorem rep_inn{m:Nat}{r:List D}{k:Nat}(h:D.innL k r=true):(List.replicate m r).all (D.innL k)=true:=by
 rw[List.all_eq_true]
 intro x hx
 rw[(List.mem_replicate.1 hx).2];exact h
theorem nn_ev{n:Nat}{es:List EdgT}(hn:n≤10000)(hes:es.length≤10000)(hin:∀x∈es,EdgIn n x):(Ev Tryz.prog Γ0 68 [int (n:Int),rowsD' (es.map EdgT.row)] [] (.ref (.ptr 2 0)) [.vec (flR es) 0 1,.gone,.var [rowsD' (es.map EdgT.row),.ref (.vec 0 0),rowsD' (adjD (adjR n es))]]):=by
 have hl0:=(@nn_cw (n) (es) (hes) (hin))
 refine Ev.castH (Ev.of_sym (h':=[.vec (flR es) 0 1,.gone,.var [rowsD' (List.map EdgT.row es),.ref (.vec 0 0),rowsD' (adjD (adjR n es))]]) (d:=.ref (.ptr 2 0)) pok [.nx 1,.lateO,.sum [5,16,17,18] (Exit.exit 0) {t:=mkT 64 0 [(5,.ref (.ptr 2 0))],h:=[.vec (flR es) 0 1,.vec (adjV (adjR n es)) 0 1,.var [rowsD' (List.map EdgT.row es),.ref (.vec 0 0),.ref (.vec 1 0)]],m:=[]},.st (.frz 1 (adjD (adjR n es)))] (by kernel_rfl) (.c (show(Dd (0≤(↑(List.length (List.map EdgT.row es)):Int))&&Dd ((↑(List.length (List.map EdgT.row es)):Int)≤(↑(List.length (List.map EdgT.row es)):Int))&&Dd ((↑(List.length (List.map EdgT.row es)):Int)*(↑8:Int)≤281474976710656)&&Dd ((↑(List.length (List.map EdgT.row es)):Int)≤281474976710656))=true from ?_) (.c (show(Dd (0≤(↑n:Int))&&Dd ((↑n:Int)≤(↑n:Int))&&Dd ((↑n:Int)*(↑24:Int)≤281474976710656)&&Dd ((↑n:Int)≤281474976710656))=true from ?_) (.c (show List.all (List.replicate (Int.toNat (↑(List.length (List.map EdgT.row es)):Int)) (List.map lit (Value.cells (Value.int IntKind.i64 0)).toList)) (D.innL 0)=true from ?_) (.c (show List.all (List.replicate (Int.toNat (↑(List.length (List.map EdgT.row es)):Int)) (List.map lit (Value.cells (Value.int IntKind.i64 0)).toList)) (D.innL 1)=true from ?_) (.c (show List.all (List.replicate (Int.toNat (↑(List.length (List.map EdgT.row es)):Int)) (List.map lit (Value.cells (Value.int IntKind.i64 0)).toList)) (D.innL 1)=true from ?_) (.c (show List.all (List.replicate (Int.toNat (↑(List.length (List.map EdgT.row es)):Int)) (List.map lit (Value.cells (Value.int IntKind.i64 0)).toList)) (D.innL 2)=true from ?_) (.c (show List.all (List.replicate (Int.toNat (↑n:Int)) (List.map lit (Value.cells (Value.slice none 0 0)).toList)) (D.innL 2)=true from ?_) (.c (show List.all (List.replicate (Int.toNat (↑(List.length (List.map EdgT.row es)):Int)) (List.map lit (Value.cells (Value.int IntKind.i64 0)).toList)) (D.innL 2)=true from ?_) (.c (show List.all (List.replicate (Int.toNat (↑(List.length (List.map EdgT.row es)):Int)) (List.map lit (Value.cells (Value.int IntKind.i64 0)).toList)) (D.innL 3)=true from ?_) (.c (show List.all (List.replicate (Int.toNat (↑n:Int)) (List.map lit (Value.cells (Value.slice none 0 0)).toList)) (D.innL 3)=true from ?_) (.c (show List.all (List.replicate (Int.toNat (↑(List.length (List.map EdgT.row es)):Int)) (List.map lit (Value.cells (Value.int IntKind.i64 0)).toList)) (D.innL 3)=true from ?_) (.c (show List.all (List.replicate (Int.toNat (↑n:Int)) (List.map lit (Value.cells (Value.slice none 0 0)).toList)) (D.innL 0)=true from ?_) (.c (show List.all (List.replicate (Int.toNat (↑(List.length (List.map EdgT.row es)):Int)) (List.map lit (Value.cells (Value.int IntKind.i64 0)).toList)) (D.innL 1)=true from ?_) (.c (show List.all (List.replicate (Int.toNat (↑n:Int)) (List.map lit (Value.cells (Value.slice none 0 0)).toList)) (D.innL 1)=true from ?_) (.c (show List.all (List.replicate (Int.toNat (↑(List.length (List.map EdgT.row es)):Int)) (List.map lit (Value.cells (Value.int IntKind.i64 0)).toList)) (D.innL 2)=true from ?_) (.c (show List.all (List.replicate (Int.toNat (↑n:Int)) (List.map lit (Value.cells (Value.slice none 0 0)).toList)) (D.innL 2)=true from ?_) (.c (show List.all (List.replicate (Int.toNat (↑n:Int)) (List.map lit (Value.cells (Value.slice none 0 0)).toList)) (D.innL 2)=true from ?_) (.c (show List.all (List.replicate (Int.toNat (↑(List.length (List.map EdgT.row es)):Int)) (List.map lit (Value.cells (Value.int IntKind.i64 0)).toList)) (D.innL 3)=true from ?_) (.c (show List.all (List.replicate (Int.toNat (↑n:Int)) (List.map lit (Value.cells (Value.slice none 0 0)).toList)) (D.innL 3)=true from ?_) (.c (show List.all (List.replicate (Int.toNat (↑n:Int)) (List.map lit (Value.cells (Value.slice none 0 0)).toList)) (D.innL 3)=true from ?_) (.c hl0 (.c (show adjV (adjR n es)=List.map (fun x=>List.map D.p x) (adjD (adjR n es)) from ?_) (.c (show List.map (D.mapRL (frzR 1 0 (adjD (adjR n es)))) (flR es)=flR es from ?_) .n)))))))))))))))))))))))) (by rfl) (by rfl)<;>(first|assumption|rfl|exact adjV_frz _|exact flR_map _ _|exact flR_inn _|omega|exact rep_inn rfl|(simp;omega))
abbrev fwH(es:List EdgT)(A:List (List Dp))(fs:List Int):List Blk:=[.vec (vecI fs) 0 1,.gone,.var [rowsD' (es.map EdgT.row),.ref (.vec 0 0),rowsD' A]]
theorem vi_vp{l:List Int}{i:Nat}{a:Int}(ha:l[i]? = some a):VpIs Tryz.prog 3 (vecI l) 0 0 i 0 (int a):=by
 have e1:(vecI l)[i]? = some [int a]:=by simp[vecI,ha]
 unfold VpIs
 simp only[e1,if_true,List.drop_zero]
 rfl
theorem vi_load{l:List Int}{b:Blk}{rest:List Blk}{i:Nat}{a:Int}(ha:l[i]? = some a):loadD Tryz.prog (.vec (vecI l) 0 1::b::rest) 3 (.ref (.vp 0 0 i 0))=some (int a):=by
 have e1:(vecI l)[i]? = some [int a]:=by simp[vecI,ha]
 unfold loadD
 simp only[List.getElem?_cons_zero,e1,if_true,List.drop_zero]
 rfl
theorem vi_store{l:List Int}{rest:List Blk}{i:Nat}{a:Int}(hi:i<l.length):storeD Tryz.prog (.vec (vecI l) 0 1::rest) 3 (.ref (.vp 0 0 i 0)) (int a)=some (.vec (vecI (l.set i a)) 0 1::rest):=by
 have e1:(vecI l)[i]? = some [int l[i]]:=by simp[vecI,hi]
 unfold storeD
 simp only[List.getElem?_cons_zero,e1,if_true]
 simp[vecI,List.map_set,List.set_cons_zero]
 rfl
theorem vi_inR{l:List Int}{z:Int}{i:Nat}(hz:z=i)(hi:i<l.length):inR z (vecI l).length=true:=by
 subst hz;simp[inR,vecI];omega
def capE(r:Int)(x:EdgT)(f:Int):Int:=match Int.tmod r 2==0 with
 | true=>IntKind.i64.wrap (x.most - f)
 | false=>f
def endE(r:Int)(x:EdgT):Int:=match Int.tmod r 2==0 with
 | true=>x.to
 | false=>x.frm
theorem cap_a{es:List EdgT}{A:List (List Dp)}{fs:List Int}{r f:Int}{x:EdgT}{q:Nat}(hq:IntKind.i64.wrap (Int.tdiv r 2)=(q:Int))(hx:RowAt (IntKind.i64.wrap (Int.tdiv r 2)) (es.map EdgT.row) x.row 3)(hf:fs[Int.toNat (IntKind.i64.wrap (Int.tdiv r 2))]? = some f)(hl:q<fs.length):(Ev Tryz.prog Γ0 73 [.ref (.ptr 2 0),int r] (fwH es A fs) (int (capE r x f)) (fwH es A fs)):=by
 cases hc0:Int.tmod r 2==0
 ·refine Ev.castH (Ev.of_sym (h':=[.vec (vecI fs) 0 1,.gone,.var [rowsD' (List.map EdgT.row es),.ref (.vec 0 0),rowsD' A]]) (d:=int f) pok [.b false,.ov 33 (int f)] (by kernel_rfl) (.c (show(!Dd (2=0))=true from rfl) (.c hc0 (.c (show(!Dd (2=0))=true from rfl) (.c (show inR (IntKind.wrap IntKind.i64 (Int.tdiv r 2)) (List.length (vecI fs))=true from ?_) (.c (show loadD Tryz.prog [.vec (vecI fs) 0 1,.gone,.var [rowsD' (List.map EdgT.row es),.ref (.vec 0 0),rowsD' A]] 3 (.ref (.vp 0 0 (Int.toNat (IntKind.wrap IntKind.i64 (Int.tdiv r 2))) 0))=some (int f) from ?_) .n)))))) (by simp only[capE,hc0];first|done|rfl) (by simp only[capE,hc0];first|done|rfl)<;>(first|assumption|rfl|exact vi_vp hf|exact vi_load hf|exact vi_inR hq hl|decide|(simp;done))
 ·refine Ev.castH (Ev.of_sym (h':=[.vec (vecI fs) 0 1,.gone,.var [rowsD' (List.map EdgT.row es),.ref (.vec 0 0),rowsD' A]]) (d:=int (IntKind.wrap IntKind.i64 (x.most - f))) pok [.b true,.row [vi x.frm,vi x.to,vi x.most],.ov 24 (int f)] (by kernel_rfl) (.c (show(!Dd (2=0))=true from rfl) (.c hc0 (.c (show(!Dd (2=0))=true from rfl) (.c hx (.c (show(!Dd (2=0))=true from rfl) (.c (show inR (IntKind.wrap IntKind.i64 (Int.tdiv r 2)) (List.length (vecI fs))=true from ?_) (.c (show loadD Tryz.prog [.vec (vecI fs) 0 1,.gone,.var [rowsD' (List.map EdgT.row es),.ref (.vec 0 0),rowsD' A]] 3 (.ref (.vp 0 0 (Int.toNat (IntKind.wrap IntKind.i64 (Int.tdiv r 2))) 0))=some (int f) from ?_) .n)))))))) (by simp only[capE,hc0];first|done|rfl) (by simp only[capE,hc0];first|done|rfl)<;>(first|assumption|rfl|exact vi_vp hf|exact vi_load hf|exact vi_inR hq hl|decide|(simp;done))
theorem end_a{es:List EdgT}{A:List (List Dp)}{fs:List Int}{r:Int}{x:EdgT}(hx:RowAt (IntKind.i64.wrap (Int.tdiv r 2)) (es.map EdgT.row) x.row 3):(Ev Tryz.prog Γ0 71 [.ref (.ptr 2 0),int r] (fwH es A fs) (int (endE r x)) (fwH es A fs)):=by
 cases hc0:Int.tmod r 2==0
 ·exact Ev.castH (Ev.of_sym (h':=[.vec (vecI fs) 0 1,.gone,.var [rowsD' (List.map EdgT.row es),.ref (.vec 0 0),rowsD' A]]) (d:=int x.frm) pok [.b false,.row [vi x.frm,vi x.to,vi x.most]] (by kernel_rfl) (.c (show(!Dd (2=0))=true from rfl) (.c hc0 (.c (show(!Dd (2=0))=true from rfl) (.c hx .n))))) (by simp only[endE,hc0];first|done|rfl) (by simp only[endE,hc0];first|done|rfl)
 ·exact Ev.castH (Ev.of_sym (h':=[.vec (vecI fs) 0 1,.gone,.var [rowsD' (List.map EdgT.row es),.ref (.vec 0 0),rowsD' A]]) (d:=int x.to) pok [.b true,.row [vi x.frm,vi x.to,vi x.most]] (by kernel_rfl) (.c (show(!Dd (2=0))=true from rfl) (.c hc0 (.c (show(!Dd (2=0))=true from rfl) (.c hx .n))))) (by simp only[endE,hc0];first|done|rfl) (by simp only[endE,hc0];first|done|rfl)
def pushE(r by':Int):Int:=match Int.tmod r 2==1 with
 | true=>IntKind.i64.wrap (0 - by')
 | false=>by'
theorem push_a{es:List EdgT}{A:List (List Dp)}{fs:List Int}{r f d:Int}{q:Nat}(hq:IntKind.i64.wrap (Int.tdiv r 2)=(q:Int))(hf:fs[Int.toNat (IntKind.i64.wrap (Int.tdiv r 2))]? = some f)(hl:q<fs.length)(hl2:Int.toNat (IntKind.i64.wrap (Int.tdiv r 2))<fs.length):(Ev Tryz.prog Γ0 75 [.ref (.ptr 2 0),int r,int d] (fwH es A fs) (.tup []) (fwH es A (fs.set (Int.toNat (IntKind.i64.wrap (Int.tdiv r 2))) (IntKind.i64.wrap (f+pushE r d))))):=by
 cases hc0:Int.tmod r 2==1
 ·refine Ev.castH (Ev.of_sym (h':=[.vec (vecI (List.set fs (Int.toNat (IntKind.wrap IntKind.i64 (Int.tdiv r 2))) (IntKind.wrap IntKind.i64 (f+pushE r d)))) 0 1,.gone,.var [rowsD' (List.map EdgT.row es),.ref (.vec 0 0),rowsD' A]]) (d:=D.tup []) pok [.b false,.ov 18 (int f),.oh 10021 D.any (fwH es A (List.set fs (Int.toNat (IntKind.wrap IntKind.i64 (Int.tdiv r 2))) (IntKind.wrap IntKind.i64 (f+pushE r d))))] (by kernel_rfl) (.c (show(!Dd (2=0))=true from rfl) (.c hc0 (.c (show(!Dd (2=0))=true from rfl) (.c (show inR (IntKind.wrap IntKind.i64 (Int.tdiv r 2)) (List.length (vecI fs))=true from ?_) (.c (show loadD Tryz.prog [.vec (vecI fs) 0 1,.gone,.var [rowsD' (List.map EdgT.row es),.ref (.vec 0 0),rowsD' A]] 3 (evalD Γ0 [.ref (.ptr 2 0),int r,int d,D.any,D.any,D.any,int r,int (Int.tmod r 2),bool (Int.tmod r 2==1),D.any,D.any,.ref (.ptr 2 0),.ref (.ptr 2 0),.ref (.ptr 2 1),.ref (.vec 0 0),int r,int (IntKind.wrap IntKind.i64 (Int.tdiv r 2)),.ref (.vp 0 0 (Int.toNat (IntKind.wrap IntKind.i64 (Int.tdiv r 2))) 0),D.any,D.any,D.any,D.any] (Operand.tmp 17))=some (int f) from ?_) (.c (show inR (IntKind.wrap IntKind.i64 (Int.tdiv r 2)) (List.length (vecI fs))=true from ?_) (.c (show storeD Tryz.prog [.vec (vecI fs) 0 1,.gone,.var [rowsD' (List.map EdgT.row es),.ref (.vec 0 0),rowsD' A]] 3 (evalD Γ0 [.ref (.ptr 2 0),int r,int d,D.any,D.any,D.any,int r,int (Int.tmod r 2),bool (Int.tmod r 2==1),D.any,D.any,.ref (.ptr 2 0),.ref (.ptr 2 0),.ref (.ptr 2 1),.ref (.vec 0 0),int r,int (IntKind.wrap IntKind.i64 (Int.tdiv r 2)),.ref (.vp 0 0 (Int.toNat (IntKind.wrap IntKind.i64 (Int.tdiv r 2))) 0),int f,int d,int (IntKind.wrap IntKind.i64 (f+d)),.ref (.vp 0 0 (Int.toNat (IntKind.wrap IntKind.i64 (Int.tdiv r 2))) 0)] (Operand.tmp 21)) (evalD Γ0 [.ref (.ptr 2 0),int r,int d,D.any,D.any,D.any,int r,int (Int.tmod r 2),bool (Int.tmod r 2==1),D.any,D.any,.ref (.ptr 2 0),.ref (.ptr 2 0),.ref (.ptr 2 1),.ref (.vec 0 0),int r,int (IntKind.wrap IntKind.i64 (Int.tdiv r 2)),.ref (.vp 0 0 (Int.toNat (IntKind.wrap IntKind.i64 (Int.tdiv r 2))) 0),int f,int d,int (IntKind.wrap IntKind.i64 (f+d)),.ref (.vp 0 0 (Int.toNat (IntKind.wrap IntKind.i64 (Int.tdiv r 2))) 0)] (Operand.tmp 20))=some [.vec (vecI (List.set fs (Int.toNat (IntKind.wrap IntKind.i64 (Int.tdiv r 2))) (IntKind.wrap IntKind.i64 (f+pushE r d)))) 0 1,.gone,.var [rowsD' (List.map EdgT.row es),.ref (.vec 0 0),rowsD' A]] from ?_) .n)))))))) (by first|rfl|simp only[pushE,hc0]) (by first|rfl|simp only[pushE,hc0])<;>(first|assumption|rfl|exact vi_vp hf|exact vi_load hf|exact vi_inR hq hl|exact vi_store hl2|decide|(simp;done)|(simp only[pushE,hc0];exact vi_store hl2))
 ·refine Ev.castH (Ev.of_sym (h':=[.vec (vecI (List.set fs (Int.toNat (IntKind.wrap IntKind.i64 (Int.tdiv r 2))) (IntKind.wrap IntKind.i64 (f+pushE r d)))) 0 1,.gone,.var [rowsD' (List.map EdgT.row es),.ref (.vec 0 0),rowsD' A]]) (d:=D.tup []) pok [.b true,.ov 18 (int f),.oh 10021 D.any (fwH es A (List.set fs (Int.toNat (IntKind.wrap IntKind.i64 (Int.tdiv r 2))) (IntKind.wrap IntKind.i64 (f+pushE r d))))] (by kernel_rfl) (.c (show(!Dd (2=0))=true from rfl) (.c hc0 (.c (show(!Dd (2=0))=true from rfl) (.c (show inR (IntKind.wrap IntKind.i64 (Int.tdiv r 2)) (List.length (vecI fs))=true from ?_) (.c (show loadD Tryz.prog [.vec (vecI fs) 0 1,.gone,.var [rowsD' (List.map EdgT.row es),.ref (.vec 0 0),rowsD' A]] 3 (evalD Γ0 [.ref (.ptr 2 0),int r,int (IntKind.wrap IntKind.i64 (0 - d)),D.any,D.any,D.any,int r,int (Int.tmod r 2),bool (Int.tmod r 2==1),int d,int (IntKind.wrap IntKind.i64 (0 - d)),.ref (.ptr 2 0),.ref (.ptr 2 0),.ref (.ptr 2 1),.ref (.vec 0 0),int r,int (IntKind.wrap IntKind.i64 (Int.tdiv r 2)),.ref (.vp 0 0 (Int.toNat (IntKind.wrap IntKind.i64 (Int.tdiv r 2))) 0),D.any,D.any,D.any,D.any] (Operand.tmp 17))=some (int f) from ?_) (.c (show inR (IntKind.wrap IntKind.i64 (Int.tdiv r 2)) (List.length (vecI fs))=true from ?_) (.c (show storeD Tryz.prog [.vec (vecI fs) 0 1,.gone,.var [rowsD' (List.map EdgT.row es),.ref (.vec 0 0),rowsD' A]] 3 (evalD Γ0 [.ref (.ptr 2 0),int r,int (IntKind.wrap IntKind.i64 (0 - d)),D.any,D.any,D.any,int r,int (Int.tmod r 2),bool (Int.tmod r 2==1),int d,int (IntKind.wrap IntKind.i64 (0 - d)),.ref (.ptr 2 0),.ref (.ptr 2 0),.ref (.ptr 2 1),.ref (.vec 0 0),int r,int (IntKind.wrap IntKind.i64 (Int.tdiv r 2)),.ref (.vp 0 0 (Int.toNat (IntKind.wrap IntKind.i64 (Int.tdiv r 2))) 0),int f,int (IntKind.wrap IntKind.i64 (0 - d)),int (IntKind.wrap IntKind.i64 (f+IntKind.wrap IntKind.i64 (0 - d))),.ref (.vp 0 0 (Int.toNat (IntKind.wrap IntKind.i64 (Int.tdiv r 2))) 0)] (Operand.tmp 21)) (evalD Γ0 [.ref (.ptr 2 0),int r,int (IntKind.wrap IntKind.i64 (0 - d)),D.any,D.any,D.any,int r,int (Int.tmod r 2),bool (Int.tmod r 2==1),int d,int (IntKind.wrap IntKind.i64 (0 - d)),.ref (.ptr 2 0),.ref (.ptr 2 0),.ref (.ptr 2 1),.ref (.vec 0 0),int r,int (IntKind.wrap IntKind.i64 (Int.tdiv r 2)),.ref (.vp 0 0 (Int.toNat (IntKind.wrap IntKind.i64 (Int.tdiv r 2))) 0),int f,int (IntKind.wrap IntKind.i64 (0 - d)),int (IntKind.wrap IntKind.i64 (f+IntKind.wrap IntKind.i64 (0 - d))),.ref (.vp 0 0 (Int.toNat (IntKind.wrap IntKind.i64 (Int.tdiv r 2))) 0)] (Operand.tmp 20))=some [.vec (vecI (List.set fs (Int.toNat (IntKind.wrap IntKind.i64 (Int.tdiv r 2))) (IntKind.wrap IntKind.i64 (f+pushE r d)))) 0 1,.gone,.var [rowsD' (List.map EdgT.row es),.ref (.vec 0 0),rowsD' A]] from ?_) .n)))))))) (by first|rfl|simp only[pushE,hc0]) (by first|rfl|simp only[pushE,hc0])<;>(first|assumption|rfl|exact vi_vp hf|exact vi_load hf|exact vi_inR hq hl|exact vi_store hl2|decide|(simp;done)|(simp only[pushE,hc0];exact vi_store hl2))
theorem to18{n:Nat}(h1:2≤n)(hn:n≤18):n=2∨n=3∨n=4∨n=5∨n=6∨n=7∨n=8∨n=9∨n=10∨n=11∨n=12∨n=13∨n=14∨n=15∨n=16∨n=17∨n=18:=by omega
def rpM(n:Nat):Memo:=⟨105,[.ref (.vec 0 0),int (n:Int)],[.vec [[int (-1)]] 0 1],.ret (.ref (.vec 1 0)) [.vec [[int (-1)]] 0 1,.vec (List.replicate n [int (-1)]) 0 1]⟩
theorem rpM_ok{n:Nat}(h1:2≤n)(hn:n≤18):(rpM n).Ok Tryz.prog Γ0:=by
 rcases to18 h1 hn with rfl|rfl|rfl|rfl|rfl|rfl|rfl|rfl|rfl|rfl|rfl|rfl|rfl|rfl|rfl|rfl|rfl<;>exact Memo.ok_of pok (ms:=[]) (by kernel_rfl) trivial
theorem rep_a{n:Nat}(h1:2≤n)(hn:n≤18):Ev Tryz.prog Γ0 105 [.ref (.vec 0 0),int (n:Int)] [.vec [[int (-1)]] 0 1] (.ref (.vec 1 0)) [.vec [[int (-1)]] 0 1,.vec (List.replicate n [int (-1)]) 0 1]:=Memo.call (rpM_ok h1 hn) rfl
theorem cap_ev{es:List EdgT}{A:List (List Dp)}{fs:List Int}{r f:Int}{x:EdgT}{q:Nat}(hq:IntKind.i64.wrap (Int.tdiv r 2)=(q:Int))(hx:RowAt (IntKind.i64.wrap (Int.tdiv r 2)) (es.map EdgT.row) x.row 3)(hf:fs[Int.toNat (IntKind.i64.wrap (Int.tdiv r 2))]? = some f)(hl:q<fs.length):Ev Tryz.prog Γ0 73 [.ref (.ptr 2 0),int r] (fwH es A fs) (int (capE r x f)) (fwH es A fs):=cap_a hq hx hf hl
theorem end_ev{es:List EdgT}{A:List (List Dp)}{fs:List Int}{r:Int}{x:EdgT}(hx:RowAt (IntKind.i64.wrap (Int.tdiv r 2)) (es.map EdgT.row) x.row 3):Ev Tryz.prog Γ0 71 [.ref (.ptr 2 0),int r] (fwH es A fs) (int (endE r x)) (fwH es A fs):=end_a hx
noncomputable abbrev usL(v:Int)(st:LoopState)(pd:Option Code):Blk:=.loop st pd 0 (mkT 59 0 [(0,.ref (.ptr 2 0)),(5,.ref (.ptr 3 0)),(6,.ref (.ptr 4 0)),(7,.ref (.ptr 8 0)),(8,int v),(39,.fn (.func 136) [] [.ref (.ptr 9 0),.ref (.ptr 10 0)])]) #[40,41] (rfAsg (sub Tryz.f69 1)) (rfBody (sub Tryz.f69 1))
noncomputable abbrev usH(es:List EdgT)(A:List (List Dp))(fs:List Int)(v:Int)(b3 b4 b5 b6 b7 b8:Blk)(st:LoopState)(pd:Option Code):List Blk:=[.vec (vecI fs) 0 1,.gone,.var [rowsD' (es.map EdgT.row),.ref (.vec 0 0),rowsD' A],b3,b4,b5,b6,b7,b8,.var [.ref (.ptr 2 0)],.var [int v],.defd,usL v st pd]
noncomputable abbrev usS(es:List EdgT)(A:List (List Dp))(fs:List Int)(v:Int)(B:List (List Dp))(b3 b4 b5 b6 b7 b8:Blk)(j:Int):AS:={t:=mkT 32 0 [(0,.ref (.yl 12)),(1,.ref (.ptr 9 0)),(2,.ref (.ptr 10 0)),(12,rowsD' B),(13,int (B.length:Int)),(14,int j)],h:=usH es A fs v b3 b4 b5 b6 b7 b8 .ready none,m:=[]}
noncomputable abbrev us_no_x0(es:List EdgT)(A:List (List Dp))(fs:List Int)(v:Int)(b3:Blk)(b4:Blk)(b5:Blk)(c6:Blk)(c7:Blk)(c8:Blk):List Blk:=[.vec (vecI fs) 0 1,.gone,.var [rowsD' (List.map EdgT.row es),.ref (.vec 0 0),rowsD' A],b3,b4,b5,c6,c7,c8,.var [.ref (.ptr 2 0)],.var [int v],.defd,.loop LoopState.ready none 0 (mkT 59 0 [(0,.ref (.ptr 2 0)),(5,.ref (.ptr 3 0)),(6,.ref (.ptr 4 0)),(7,.ref (.ptr 8 0)),(8,int v),(39,D.fn (Fn.func 136) [] [.ref (.ptr 9 0),.ref (.ptr 10 0)])]) {toList:=[40,41]} (rfAsg (sub Tryz.f69 1)) (rfBody (sub Tryz.f69 1))]
theorem us_no{es:List EdgT}{A:List (List Dp)}{fs:List Int}{v:Int}{B:List (List Dp)}{b3 b4 b5 b6 b7 b8 c6 c7 c8:Blk}{j:Nat}{r f:Int}{x:EdgT}{q:Nat}(hq:IntKind.i64.wrap (Int.tdiv r 2)=(q:Int))(hx:RowAt (IntKind.i64.wrap (Int.tdiv r 2)) (es.map EdgT.row) x.row 3)(hf:fs[Int.toNat (IntKind.i64.wrap (Int.tdiv r 2))]? = some f)(hl:q<fs.length)
  (hr:RowAt (j:Int) B [vi r] 1) (hlt:Dd ((j:Int)<(B.length:Int))=true) (hw:IntKind.i64.wrap ((j:Int)+1)=((j+1:Nat):Int)) (hc:Dd (capE r x f>0)=false):(CW Tryz.prog Γ0 (usH es A fs v b3 b4 b5 b6 b7 b8 .ready none) false (sub Tryz.f136 0) (usS es A fs v B b3 b4 b5 c6 c7 c8 j) .normal (usS es A fs v B b3 b4 b5 c6 c7 c8 ((j+1:Nat):Int))):=by
 refine CW.cast (CW.symX (s':={t:=mkT 32 0 [(0,.ref (.yl 12)),(1,.ref (.ptr 9 0)),(2,.ref (.ptr 10 0)),(12,rowsD' B),(13,int (↑(List.length B):Int)),(14,int (IntKind.wrap IntKind.i64 ((↑j:Int)+1)))],h:=(us_no_x0 es A fs v b3 b4 b5 c6 c7 c8),m:=[]}) (e:=Exit.normal) pok [.st (.mask [0,1,2,12,13,14])] [.b true,.row [vi r],.val (int (capE r x f)),.g false,.g false,.g false,.g false,.g false,.g false,.g false,.ov 30 (bool false),.b false] (by kernel_rfl) (.c hlt (.c hr (.c (show Ev Tryz.prog Γ0 73 [.ref (.ptr 2 0),int r] (us_no_x0 es A fs v b3 b4 b5 c6 c7 c8) (int (capE r x f)) (us_no_x0 es A fs v b3 b4 b5 c6 c7 c8) from(Ev.castH (Ev.frameX (args:=[.ref (.ptr 2 0),int r]) (H:=(us_no_x0 es A fs v b3 b4 b5 c6 c7 c8)) [0,1,2] (@cap_ev (es) (A) (fs) (r) (f) (x) (q) (hq) (hx) (hf) (hl)) (by kernel_rfl) (by kernel_rfl) (by kernel_rfl) ⟨?_,trivial⟩ ⟨?_,trivial⟩) (by kernel_rfl) (by kernel_rfl))) (.c (show(Dd (capE r x f>0)==true)=false from(by rw[hc]<;>rfl)) (.c (show(Dd (capE r x f>0)==true)=false from(by rw[hc]<;>rfl)) (.c (show(Dd (capE r x f>0)==true)=false from(by rw[hc]<;>rfl)) (.c (show(Dd (capE r x f>0)==true)=false from(by rw[hc]<;>rfl)) (.c (show(Dd (capE r x f>0)==true)=false from(by rw[hc]<;>rfl)) (.c (show(Dd (capE r x f>0)==true)=false from(by rw[hc]<;>rfl)) (.c (show(Dd (capE r x f>0)==true)=false from(by rw[hc]<;>rfl)) (.c (show PickIs (bool (Dd (capE r x f>0))) (D.p (Dp.v (Value.tuple {toList:=[]}))) (bool false) (bool false) from(pickIs_f hc rfl)) (.c (show false=false from rfl) .n))))))))))))) (by first|rfl|(rw[hw]<;>rfl)) (by first|rfl|(rw[hw]<;>rfl))<;>(first|rfl|exact mapRL_rows _ _|first|assumption|rfl|exact vecI_map _ _|exact vecI_inn _ _)
noncomputable abbrev us_yes_x0(es:List EdgT)(A:List (List Dp))(fs:List Int)(v:Int)(b3:Blk)(b4:Blk)(b5:Blk)(d6:Blk)(d7:Blk)(d8:Blk):List Blk:=[.vec (vecI fs) 0 1,.gone,.var [rowsD' (List.map EdgT.row es),.ref (.vec 0 0),rowsD' A],b3,b4,b5,d6,d7,d8,.var [.ref (.ptr 2 0)],.var [int v],.defd,.loop LoopState.ready none 0 (mkT 59 0 [(0,.ref (.ptr 2 0)),(5,.ref (.ptr 3 0)),(6,.ref (.ptr 4 0)),(7,.ref (.ptr 8 0)),(8,int v),(39,D.fn (Fn.func 136) [] [.ref (.ptr 9 0),.ref (.ptr 10 0)])]) {toList:=[40,41]} (rfAsg (sub Tryz.f69 1)) (rfBody (sub Tryz.f69 1))]
noncomputable abbrev us_yes_x1(es:List EdgT)(A:List (List Dp))(fs:List Int)(v:Int)(b3:Blk)(b4:Blk)(b5:Blk)(c6:Blk)(c7:Blk)(c8:Blk):List Blk:=[.vec (vecI fs) 0 1,.gone,.var [rowsD' (List.map EdgT.row es),.ref (.vec 0 0),rowsD' A],b3,b4,b5,c6,c7,c8,.var [.ref (.ptr 2 0)],.var [int v],.defd,.loop LoopState.ready none 0 (mkT 59 0 [(0,.ref (.ptr 2 0)),(5,.ref (.ptr 3 0)),(6,.ref (.ptr 4 0)),(7,.ref (.ptr 8 0)),(8,int v),(39,D.fn (Fn.func 136) [] [.ref (.ptr 9 0),.ref (.ptr 10 0)])]) {toList:=[40,41]} (rfAsg (sub Tryz.f69 1)) (rfBody (sub Tryz.f69 1))]
theorem us_yes{es:List EdgT}{A:List (List Dp)}{fs:List Int}{v:Int}{B:List (List Dp)}{b3 b4 b5 b6 b7 b8 c6 c7 c8 d6 d7 d8:Blk}{j:Nat}{r f u:Int}{x:EdgT}{q:Nat}(hq:IntKind.i64.wrap (Int.tdiv r 2)=(q:Int))(hx:RowAt (IntKind.i64.wrap (Int.tdiv r 2)) (es.map EdgT.row) x.row 3)(hf:fs[Int.toNat (IntKind.i64.wrap (Int.tdiv r 2))]? = some f)(hl:q<fs.length)
  (hr:RowAt (j:Int) B [vi r] 1) (hlt:Dd ((j:Int)<(B.length:Int))=true) (hw:IntKind.i64.wrap ((j:Int)+1)=((j+1:Nat):Int)) (hc:Dd (capE r x f>0)=true) (hu:endE r x=u)
  (hy:Iv Tryz.prog Γ0 (.ref (.yl 12)) [int r,int (endE r x)] (usH es A fs v b3 b4 b5 c6 c7 c8 .ready none) (bool true) (usH es A fs v b3 b4 b5 d6 d7 d8 .ready none)):(CW Tryz.prog Γ0 (usH es A fs v b3 b4 b5 b6 b7 b8 .ready none) false (sub Tryz.f136 0) (usS es A fs v B b3 b4 b5 c6 c7 c8 j) .normal (usS es A fs v B b3 b4 b5 d6 d7 d8 ((j+1:Nat):Int))):=by
 refine CW.cast (CW.symX (s':={t:=mkT 32 0 [(0,.ref (.yl 12)),(1,.ref (.ptr 9 0)),(2,.ref (.ptr 10 0)),(12,rowsD' B),(13,int (↑(List.length B):Int)),(14,int (IntKind.wrap IntKind.i64 ((↑j:Int)+1)))],h:=(us_yes_x0 es A fs v b3 b4 b5 d6 d7 d8),m:=[]}) (e:=Exit.normal) pok [.st (.mask [0,1,2,12,13,14])] [.b true,.row [vi r],.val (int (capE r x f)),.g true,.g true,.g true,.g true,.g true,.val (int (endE r x)),.g true,.inv (bool true) (us_yes_x0 es A fs v b3 b4 b5 d6 d7 d8),.g true,.ov 30 (bool !true),.b false] (by kernel_rfl) (.c hlt (.c hr (.c (show Ev Tryz.prog Γ0 73 [.ref (.ptr 2 0),int r] (us_yes_x1 es A fs v b3 b4 b5 c6 c7 c8) (int (capE r x f)) (us_yes_x1 es A fs v b3 b4 b5 c6 c7 c8) from(Ev.castH (Ev.frameX (args:=[.ref (.ptr 2 0),int r]) (H:=(us_yes_x1 es A fs v b3 b4 b5 c6 c7 c8)) [0,1,2] (@cap_ev (es) (A) (fs) (r) (f) (x) (q) (hq) (hx) (hf) (hl)) (by kernel_rfl) (by kernel_rfl) (by kernel_rfl) ⟨?_,trivial⟩ ⟨?_,trivial⟩) (by kernel_rfl) (by kernel_rfl))) (.c (show(Dd (capE r x f>0)==true)=true from(by rw[hc]<;>rfl)) (.c (show(Dd (capE r x f>0)==true)=true from(by rw[hc]<;>rfl)) (.c (show(Dd (capE r x f>0)==true)=true from(by rw[hc]<;>rfl)) (.c (show(Dd (capE r x f>0)==true)=true from(by rw[hc]<;>rfl)) (.c (show(Dd (capE r x f>0)==true)=true from(by rw[hc]<;>rfl)) (.c (show Ev Tryz.prog Γ0 71 [.ref (.ptr 2 0),int r] (us_yes_x1 es A fs v b3 b4 b5 c6 c7 c8) (int (endE r x)) (us_yes_x1 es A fs v b3 b4 b5 c6 c7 c8) from(Ev.castH (Ev.frameX (args:=[.ref (.ptr 2 0),int r]) (H:=(us_yes_x1 es A fs v b3 b4 b5 c6 c7 c8)) [0,1,2] (@end_ev (es) (A) (fs) (r) (x) (hx)) (by kernel_rfl) (by kernel_rfl) (by kernel_rfl) ⟨?_,trivial⟩ ⟨?_,trivial⟩) (by kernel_rfl) (by kernel_rfl))) (.c (show(Dd (capE r x f>0)==true)=true from(by rw[hc]<;>rfl)) (.c (@hy) (.c (show(Dd (capE r x f>0)==true)=true from(by rw[hc]<;>rfl)) (.c (show PickIs (bool (Dd (capE r x f>0))) (bool !true) (bool false) (bool !true) from(pickIs_t hc rfl)) (.c (show(!true)=false from rfl) .n))))))))))))))) (by first|rfl|(rw[hw]<;>rfl)) (by first|rfl|(rw[hw]<;>rfl))<;>(first|rfl|exact mapRL_rows _ _|first|assumption|rfl|exact vecI_map _ _|exact vecI_inn _ _)
noncomputable abbrev us_stop_x0(es:List EdgT)(A:List (List Dp))(fs:List Int)(v:Int)(b3:Blk)(b4:Blk)(b5:Blk)(d6:Blk)(d7:Blk)(d8:Blk):List Blk:=[.vec (vecI fs) 0 1,.gone,.var [rowsD' (List.map EdgT.row es),.ref (.vec 0 0),rowsD' A],b3,b4,b5,d6,d7,d8,.var [.ref (.ptr 2 0)],.var [int v],.defd,.loop LoopState.done (some (Code.exit 0)) 0 (mkT 59 0 [(0,.ref (.ptr 2 0)),(5,.ref (.ptr 3 0)),(6,.ref (.ptr 4 0)),(7,.ref (.ptr 8 0)),(8,int v),(39,D.fn (Fn.func 136) [] [.ref (.ptr 9 0),.ref (.ptr 10 0)])]) {toList:=[40,41]} (rfAsg (sub Tryz.f69 1)) (rfBody (sub Tryz.f69 1))]
noncomputable abbrev us_stop_x1(es:List EdgT)(A:List (List Dp))(fs:List Int)(v:Int)(b3:Blk)(b4:Blk)(b5:Blk)(c6:Blk)(c7:Blk)(c8:Blk):List Blk:=[.vec (vecI fs) 0 1,.gone,.var [rowsD' (List.map EdgT.row es),.ref (.vec 0 0),rowsD' A],b3,b4,b5,c6,c7,c8,.var [.ref (.ptr 2 0)],.var [int v],.defd,.loop LoopState.ready none 0 (mkT 59 0 [(0,.ref (.ptr 2 0)),(5,.ref (.ptr 3 0)),(6,.ref (.ptr 4 0)),(7,.ref (.ptr 8 0)),(8,int v),(39,D.fn (Fn.func 136) [] [.ref (.ptr 9 0),.ref (.ptr 10 0)])]) {toList:=[40,41]} (rfAsg (sub Tryz.f69 1)) (rfBody (sub Tryz.f69 1))]
theorem us_stop{es:List EdgT}{A:List (List Dp)}{fs:List Int}{v:Int}{B:List (List Dp)}{b3 b4 b5 b6 b7 b8 c6 c7 c8 d6 d7 d8:Blk}{j:Nat}{r f u:Int}{x:EdgT}{q:Nat}(hq:IntKind.i64.wrap (Int.tdiv r 2)=(q:Int))(hx:RowAt (IntKind.i64.wrap (Int.tdiv r 2)) (es.map EdgT.row) x.row 3)(hf:fs[Int.toNat (IntKind.i64.wrap (Int.tdiv r 2))]? = some f)(hl:q<fs.length)
  (hr:RowAt (j:Int) B [vi r] 1) (hlt:Dd ((j:Int)<(B.length:Int))=true) (hc:Dd (capE r x f>0)=true)
  (hy:Iv Tryz.prog Γ0 (.ref (.yl 12)) [int r,int (endE r x)] (usH es A fs v b3 b4 b5 c6 c7 c8 .ready none) (bool false) (usH es A fs v b3 b4 b5 d6 d7 d8 .done (some (.exit 0)))):(CW Tryz.prog Γ0 (usH es A fs v b3 b4 b5 b6 b7 b8 .ready none) false (sub Tryz.f136 0) (usS es A fs v B b3 b4 b5 c6 c7 c8 j) .ret {t:=mkT 32 0 [],h:=usH es A fs v b3 b4 b5 d6 d7 d8 .done (some (.exit 0)),m:=[]}):=by
 refine CW.cast (CW.symX (s':={t:=mkT 32 0 [],h:=(us_stop_x0 es A fs v b3 b4 b5 d6 d7 d8),m:=[]}) (e:=Exit.ret) pok [.st (.mask [])] [.b true,.row [vi r],.val (int (capE r x f)),.g true,.g true,.g true,.g true,.g true,.val (int (endE r x)),.g true,.inv (bool false) (us_stop_x0 es A fs v b3 b4 b5 d6 d7 d8),.g true,.ov 30 (bool !false),.b true] (by kernel_rfl) (.c hlt (.c hr (.c (show Ev Tryz.prog Γ0 73 [.ref (.ptr 2 0),int r] (us_stop_x1 es A fs v b3 b4 b5 c6 c7 c8) (int (capE r x f)) (us_stop_x1 es A fs v b3 b4 b5 c6 c7 c8) from(Ev.castH (Ev.frameX (args:=[.ref (.ptr 2 0),int r]) (H:=(us_stop_x1 es A fs v b3 b4 b5 c6 c7 c8)) [0,1,2] (@cap_ev (es) (A) (fs) (r) (f) (x) (q) (hq) (hx) (hf) (hl)) (by kernel_rfl) (by kernel_rfl) (by kernel_rfl) ⟨?_,trivial⟩ ⟨?_,trivial⟩) (by kernel_rfl) (by kernel_rfl))) (.c (show(Dd (capE r x f>0)==true)=true from(by rw[hc]<;>rfl)) (.c (show(Dd (capE r x f>0)==true)=true from(by rw[hc]<;>rfl)) (.c (show(Dd (capE r x f>0)==true)=true from(by rw[hc]<;>rfl)) (.c (show(Dd (capE r x f>0)==true)=true from(by rw[hc]<;>rfl)) (.c (show(Dd (capE r x f>0)==true)=true from(by rw[hc]<;>rfl)) (.c (show Ev Tryz.prog Γ0 71 [.ref (.ptr 2 0),int r] (us_stop_x1 es A fs v b3 b4 b5 c6 c7 c8) (int (endE r x)) (us_stop_x1 es A fs v b3 b4 b5 c6 c7 c8) from(Ev.castH (Ev.frameX (args:=[.ref (.ptr 2 0),int r]) (H:=(us_stop_x1 es A fs v b3 b4 b5 c6 c7 c8)) [0,1,2] (@end_ev (es) (A) (fs) (r) (x) (hx)) (by kernel_rfl) (by kernel_rfl) (by kernel_rfl) ⟨?_,trivial⟩ ⟨?_,trivial⟩) (by kernel_rfl) (by kernel_rfl))) (.c (show(Dd (capE r x f>0)==true)=true from(by rw[hc]<;>rfl)) (.c (@hy) (.c (show(Dd (capE r x f>0)==true)=true from(by rw[hc]<;>rfl)) (.c (show PickIs (bool (Dd (capE r x f>0))) (bool !false) (bool false) (bool !false) from(pickIs_t hc rfl)) (.c (show(!false)=true from rfl) .n))))))))))))))) (by rfl) (by rfl)<;>(first|rfl|exact mapRL_rows _ _|first|assumption|rfl|exact vecI_map _ _|exact vecI_inn _ _)
theorem us_last{es:List EdgT}{A:List (List Dp)}{fs:List Int}{v:Int}{B:List (List Dp)}{b3 b4 b5 b6 b7 b8 c6 c7 c8:Blk}{j:Nat}(hlt:Dd ((j:Int)<(B.length:Int))=false):(CW Tryz.prog Γ0 (usH es A fs v b3 b4 b5 b6 b7 b8 .ready none) false (sub Tryz.f136 0) (usS es A fs v B b3 b4 b5 c6 c7 c8 j) (.exit 0) {t:=mkT 32 0 [],h:=usH es A fs v b3 b4 b5 c6 c7 c8 .ready none,m:=[]}):=by
 exact CW.cast (CW.symX (s':={t:=mkT 32 0 [],h:=[.vec (vecI fs) 0 1,.gone,.var [rowsD' (List.map EdgT.row es),.ref (.vec 0 0),rowsD' A],b3,b4,b5,c6,c7,c8,.var [.ref (.ptr 2 0)],.var [int v],.defd,.loop LoopState.ready none 0 (mkT 59 0 [(0,.ref (.ptr 2 0)),(5,.ref (.ptr 3 0)),(6,.ref (.ptr 4 0)),(7,.ref (.ptr 8 0)),(8,int v),(39,D.fn (Fn.func 136) [] [.ref (.ptr 9 0),.ref (.ptr 10 0)])]) {toList:=[40,41]} (rfAsg (sub Tryz.f69 1)) (rfBody (sub Tryz.f69 1))],m:=[]}) (e:=Exit.exit 0) pok [.st (.mask [])] [.b false] (by kernel_rfl) (.c hlt .n)) (by rfl) (by rfl)
section
variable {l:List Int} {b i e:Nat} {a u:Int} {h:List Blk}
theorem vg_load(hb:h[b]? = some (.vec (vecI l) e 1))(ha:l[i]? = some a):loadD Tryz.prog h 3 (.ref (.vp b e i 0))=some (int a):=by
 have e1:(vecI l)[i]? = some [int a]:=by simp[vecI,ha]
 unfold loadD
 simp only[hb,e1,if_true,List.drop_zero]
 rfl
theorem vg_store(hb:h[b]? = some (.vec (vecI l) 0 1))(hi:i<l.length):storeD Tryz.prog h 3 (.ref (.vp b 0 i 0)) (int a)=some (h.set b (.vec (vecI (l.set i a)) 0 1)):=by
 have e1:(vecI l)[i]? = some [int l[i]]:=by simp[vecI,hi]
 unfold storeD
 simp only[hb,e1,if_true]
 simp[vecI,List.map_set]
 rfl
theorem vg_in(h0:0≤u)(ha:l[u.toNat]? = some a):inR u (vecI l).length=true:=by
 have:=(List.getElem?_eq_some_iff.1 ha).1
 simp[inR,vecI];omega
theorem vg_lt(ha:l[i]? = some a):i<l.length:=(List.getElem?_eq_some_iff.1 ha).1
theorem vg_vp(ha:l[i]? = some a):VpIs Tryz.prog 3 (vecI l) 0 0 i 0 (int a):=by
 have e1:(vecI l)[i]? = some [int a]:=by simp[vecI,ha]
 unfold VpIs
 simp only[e1,if_true,List.drop_zero]
 rfl
theorem room8{n:Nat}(hn:n≤1000000):roomOk n 8=true:=by simp[roomOk];omega
theorem vg_app(hb:h[b]? = some (.vec (vecI l) e 1)){k:Nat}(hk:h[k]? = some (.vec [[int a]] 0 1))(hl:l.length≤100000):
  builtinD Tryz.prog h .append [34,34] [.ref (.vec b e),.ref (.vec k 0)]=some (true,.ref (.vec b (e+1)),h.set b (.vec (vecI (l++[a])) (e+1) 1)):=by
 have h1:([[int a]]:List (List D)).all (rowOk 1)=true:=rfl
 have h2:roomOk ((vecI l).length+1) 8=true:=room8 (by rw[vecI_len];omega)
 have h3:(elemT Tryz.prog 34,Tryz.prog.underlying 34,szOf Tryz.prog 3,bytesOf Tryz.prog 3,zeroCs Tryz.prog 3)=(some 3,some (.slice 3),some 1,some 8,some [int 0]):=by kernel_rfl
 simp only[Prod.mk.injEq] at h3
 obtain⟨h3,h4,h5,h6,h7⟩:=h3
 simp only[builtinD,appendD,h3,h4,h5,h6,h7,isIntT,rowsD,hk,hb,if_true,List.length_singleton,Bool.false_eq_true,if_false,h1,h2,Bool.and_self,and_self,vecI_app]
theorem vs_app(hb:h[b]? = some (.vec (vecI l) e 1)){k i n:Nat}(hk:h[k]? = some (.vec [[int a]] 0 1))(hl:l.length≤100000)(hin:i+n=l.length):
  builtinD Tryz.prog h .append [34,34] [.ref (.vs b e i n false),.ref (.vec k 0)]=some (true,.ref (.vec b (e+1)),h.set b (.vec (vecI (l.drop i++[a])) (e+1) 1)):=by
 have h1:([[int a]]:List (List D)).all (rowOk 1)=true:=rfl
 have h2:roomOk (n+1) 8=true:=room8 (by omega)
 have h3:(elemT Tryz.prog 34,Tryz.prog.underlying 34,szOf Tryz.prog 3,bytesOf Tryz.prog 3,zeroCs Tryz.prog 3)=(some 3,some (.slice 3),some 1,some 8,some [int 0]):=by kernel_rfl
 simp only[Prod.mk.injEq] at h3
 obtain⟨h3,h4,h5,h6,h7⟩:=h3
 have h8:(vecI l).drop i++[[int a]]=vecI (l.drop i++[a]):=by simp[vecI,List.map_drop]
 simp only[builtinD,appendD,h3,h4,h5,h6,h7,isIntT,rowsD,hk,hb,if_true,List.length_singleton,Bool.false_eq_true,if_false,h1,h2,Bool.and_self,and_self,vecI_len,hin,h8,List.isEmpty_cons,Bool.not_false]
end
abbrev usT(v:Int):List D:=mkT 59 0 [(0,.ref (.ptr 2 0)),(5,.ref (.ptr 3 0)),(6,.ref (.ptr 4 0)),(7,.ref (.ptr 8 0)),(8,int v),(39,.fn (.func 136) [] [.ref (.ptr 9 0),.ref (.ptr 10 0)])]
abbrev usU(v r u:Int):List D:=mkT 59 0 [(5,.ref (.ptr 3 0)),(6,.ref (.ptr 4 0)),(7,.ref (.ptr 8 0)),(9,int r),(10,int u)]
noncomputable abbrev ubH(es:List EdgT)(A:List (List Dp))(fs:List Int)(v to:Int)(by':List Int)(l:List Int)(e:Nat)(Q:D)(st:LoopState)(pd:Option Code):List Blk:=usH es A fs v (.var [int to]) (.var [.ref (.vec 6 0)]) (.vec [[int (-1)]] 0 1) (.vec (vecI by') 0 1) (.vec (vecI l) e 1) (.var [Q]) st pd
theorem ub_asg{es:List EdgT}{A:List (List Dp)}{fs by' l:List Int}{v to r u:Int}{e:Nat}{Q:D}:(CW Tryz.prog Γ0 (ubH es A fs v to by' l e Q .ready none) true (rfAsg (sub Tryz.f69 1)) {t:=setAll (usT v) [(40,int r),(41,int u)],h:=ubH es A fs v to by' l e Q .ready none,m:=[]} .normal {t:=usU v r u,h:=ubH es A fs v to by' l e Q .ready none,m:=[]}):=by
 exact CW.cast (CW.symX (s':={t:=mkT 59 0 [(5,.ref (.ptr 3 0)),(6,.ref (.ptr 4 0)),(7,.ref (.ptr 8 0)),(9,int r),(10,int u)],h:=[.vec (vecI fs) 0 1,.gone,.var [rowsD' (List.map EdgT.row es),.ref (.vec 0 0),rowsD' A],.var [int to],.var [.ref (.vec 6 0)],.vec [[int (-1)]] 0 1,.vec (vecI by') 0 1,.vec (vecI l) e 1,.var [Q],.var [.ref (.ptr 2 0)],.var [int v],.defd,.loop LoopState.ready none 0 (mkT 59 0 [(0,.ref (.ptr 2 0)),(5,.ref (.ptr 3 0)),(6,.ref (.ptr 4 0)),(7,.ref (.ptr 8 0)),(8,int v),(39,D.fn (Fn.func 136) [] [.ref (.ptr 9 0),.ref (.ptr 10 0)])]) {toList:=[40,41]} (rfAsg (sub Tryz.f69 1)) (rfBody (sub Tryz.f69 1))],m:=[]}) (e:=Exit.normal) pok [.st (.mask [5,6,7,9,10])] [] (by kernel_rfl) .n) (by rfl) (by rfl)
theorem ub_skip{es:List EdgT}{A:List (List Dp)}{fs by' l:List Int}{v to r u x:Int}{e:Nat}{Q:D}(h0:0≤u)(hx:by'[u.toNat]? = some x)(hg:Dd (x≥0)=true):(CW Tryz.prog Γ0 (ubH es A fs v to by' l e Q .ready none) true (rfBody (sub Tryz.f69 1)) {t:=usU v r u,h:=ubH es A fs v to by' l e Q .busy none,m:=[]} .normal {t:=mkT 59 0 [],h:=ubH es A fs v to by' l e Q .busy none,m:=[]}):=by
 refine CW.cast (CW.symX (s':={t:=mkT 59 0 [],h:=[.vec (vecI fs) 0 1,.gone,.var [rowsD' (List.map EdgT.row es),.ref (.vec 0 0),rowsD' A],.var [int to],.var [.ref (.vec 6 0)],.vec [[int (-1)]] 0 1,.vec (vecI by') 0 1,.vec (vecI l) e 1,.var [Q],.var [.ref (.ptr 2 0)],.var [int v],.defd,.loop LoopState.busy none 0 (mkT 59 0 [(0,.ref (.ptr 2 0)),(5,.ref (.ptr 3 0)),(6,.ref (.ptr 4 0)),(7,.ref (.ptr 8 0)),(8,int v),(39,D.fn (Fn.func 136) [] [.ref (.ptr 9 0),.ref (.ptr 10 0)])]) {toList:=[40,41]} (rfAsg (sub Tryz.f69 1)) (rfBody (sub Tryz.f69 1))],m:=[]}) (e:=Exit.normal) pok [.st (.mask [])] [.ov 45 (int x),.b true] (by kernel_rfl) (.c (show inR u (List.length (vecI by'))=true from ?_) (.c (show loadD Tryz.prog [.vec (vecI fs) 0 1,.gone,.var [rowsD' (List.map EdgT.row es),.ref (.vec 0 0),rowsD' A],.var [int to],.var [.ref (.vec 6 0)],.vec [[int (-1)]] 0 1,.vec (vecI by') 0 1,.vec (vecI l) e 1,.var [Q],.var [.ref (.ptr 2 0)],.var [int v],.defd,.loop LoopState.busy none 0 (mkT 59 0 [(0,.ref (.ptr 2 0)),(5,.ref (.ptr 3 0)),(6,.ref (.ptr 4 0)),(7,.ref (.ptr 8 0)),(8,int v),(39,D.fn (Fn.func 136) [] [.ref (.ptr 9 0),.ref (.ptr 10 0)])]) {toList:=[40,41]} (rfAsg (sub Tryz.f69 1)) (rfBody (sub Tryz.f69 1))] 3 (.ref (.vp 6 0 (Int.toNat u) 0))=some (int x) from ?_) (.c hg .n)))) (by rfl) (by rfl)<;>(first|assumption|rfl|exact vg_in h0 hx|exact vg_load rfl hx)
theorem ub_hit{es:List EdgT}{A:List (List Dp)}{fs by' l:List Int}{v to r u x:Int}{e:Nat}{Q:D}(h0:0≤u)(hx:by'[u.toNat]? = some x)(hg:Dd (x≥0)=false)(ht:(u==to)=true):(CW Tryz.prog Γ0 (ubH es A fs v to by' l e Q .ready none) true (rfBody (sub Tryz.f69 1)) {t:=usU v r u,h:=ubH es A fs v to by' l e Q .busy none,m:=[]} (.exit 0) {t:=mkT 59 0 [],h:=ubH es A fs v to (by'.set u.toNat r) l e Q .busy none,m:=[]}):=by
 refine CW.cast (CW.symX (s':={t:=mkT 59 0 [],h:=[.vec (vecI fs) 0 1,.gone,.var [rowsD' (List.map EdgT.row es),.ref (.vec 0 0),rowsD' A],.var [int to],.var [.ref (.vec 6 0)],.vec [[int (-1)]] 0 1,.vec (vecI (List.set by' (Int.toNat u) r)) 0 1,.vec (vecI l) e 1,.var [Q],.var [.ref (.ptr 2 0)],.var [int v],.defd,.loop LoopState.busy none 0 (mkT 59 0 [(0,.ref (.ptr 2 0)),(5,.ref (.ptr 3 0)),(6,.ref (.ptr 4 0)),(7,.ref (.ptr 8 0)),(8,int v),(39,D.fn (Fn.func 136) [] [.ref (.ptr 9 0),.ref (.ptr 10 0)])]) {toList:=[40,41]} (rfAsg (sub Tryz.f69 1)) (rfBody (sub Tryz.f69 1))],m:=[]}) (e:=Exit.exit 0) pok [.st (.mask [])] [.ov 45 (int x),.b false,.oh 10050 D.any (ubH es A fs v to (List.set by' (Int.toNat u) r) l e Q LoopState.busy none),.b true] (by kernel_rfl) (.c (show inR u (List.length (vecI by'))=true from ?_) (.c (show loadD Tryz.prog [.vec (vecI fs) 0 1,.gone,.var [rowsD' (List.map EdgT.row es),.ref (.vec 0 0),rowsD' A],.var [int to],.var [.ref (.vec 6 0)],.vec [[int (-1)]] 0 1,.vec (vecI by') 0 1,.vec (vecI l) e 1,.var [Q],.var [.ref (.ptr 2 0)],.var [int v],.defd,.loop LoopState.busy none 0 (mkT 59 0 [(0,.ref (.ptr 2 0)),(5,.ref (.ptr 3 0)),(6,.ref (.ptr 4 0)),(7,.ref (.ptr 8 0)),(8,int v),(39,D.fn (Fn.func 136) [] [.ref (.ptr 9 0),.ref (.ptr 10 0)])]) {toList:=[40,41]} (rfAsg (sub Tryz.f69 1)) (rfBody (sub Tryz.f69 1))] 3 (.ref (.vp 6 0 (Int.toNat u) 0))=some (int x) from ?_) (.c hg (.c (show inR u (List.length (vecI by'))=true from ?_) (.c (show storeD Tryz.prog [.vec (vecI fs) 0 1,.gone,.var [rowsD' (List.map EdgT.row es),.ref (.vec 0 0),rowsD' A],.var [int to],.var [.ref (.vec 6 0)],.vec [[int (-1)]] 0 1,.vec (vecI by') 0 1,.vec (vecI l) e 1,.var [Q],.var [.ref (.ptr 2 0)],.var [int v],.defd,.loop LoopState.busy none 0 (mkT 59 0 [(0,.ref (.ptr 2 0)),(5,.ref (.ptr 3 0)),(6,.ref (.ptr 4 0)),(7,.ref (.ptr 8 0)),(8,int v),(39,D.fn (Fn.func 136) [] [.ref (.ptr 9 0),.ref (.ptr 10 0)])]) {toList:=[40,41]} (rfAsg (sub Tryz.f69 1)) (rfBody (sub Tryz.f69 1))] 3 (.ref (.vp 6 0 (Int.toNat u) 0)) (int r)=some [.vec (vecI fs) 0 1,.gone,.var [rowsD' (List.map EdgT.row es),.ref (.vec 0 0),rowsD' A],.var [int to],.var [.ref (.vec 6 0)],.vec [[int (-1)]] 0 1,.vec (vecI (List.set by' (Int.toNat u) r)) 0 1,.vec (vecI l) e 1,.var [Q],.var [.ref (.ptr 2 0)],.var [int v],.defd,.loop LoopState.busy none 0 (mkT 59 0 [(0,.ref (.ptr 2 0)),(5,.ref (.ptr 3 0)),(6,.ref (.ptr 4 0)),(7,.ref (.ptr 8 0)),(8,int v),(39,D.fn (Fn.func 136) [] [.ref (.ptr 9 0),.ref (.ptr 10 0)])]) {toList:=[40,41]} (rfAsg (sub Tryz.f69 1)) (rfBody (sub Tryz.f69 1))] from ?_) (.c ht .n))))))) (by rfl) (by rfl)<;>(first|assumption|rfl|exact vg_in h0 hx|exact vg_load rfl hx|exact vg_store rfl (vg_lt hx))
theorem ub_vec{es:List EdgT}{A:List (List Dp)}{fs by' l:List Int}{v to r u x:Int}{e:Nat}(h0:0≤u)(hx:by'[u.toNat]? = some x)(hg:Dd (x≥0)=false)(ht:(u==to)=false)(hl:l.length≤100000):(CW Tryz.prog Γ0 (ubH es A fs v to by' l e (.ref (.vec 7 e)) .ready none) true (rfBody (sub Tryz.f69 1)) {t:=usU v r u,h:=ubH es A fs v to by' l e (.ref (.vec 7 e)) .busy none,m:=[]} .normal {t:=mkT 59 0 [],h:=ubH es A fs v to (by'.set u.toNat r) (l++[u]) (e+1) (.ref (.vec 7 (e+1))) .busy none,m:=[]}):=by
 refine CW.cast (CW.symX (s':={t:=mkT 59 0 [],h:=[.vec (vecI fs) 0 1,.gone,.var [rowsD' (List.map EdgT.row es),.ref (.vec 0 0),rowsD' A],.var [int to],.var [.ref (.vec 6 0)],.vec [[int (-1)]] 0 1,.vec (vecI (List.set by' (Int.toNat u) r)) 0 1,.vec (vecI (l++[u])) (e+1) 1,.var [.ref (.vec 7 (e+1))],.var [.ref (.ptr 2 0)],.var [int v],.defd,.loop LoopState.busy none 0 (mkT 59 0 [(0,.ref (.ptr 2 0)),(5,.ref (.ptr 3 0)),(6,.ref (.ptr 4 0)),(7,.ref (.ptr 8 0)),(8,int v),(39,D.fn (Fn.func 136) [] [.ref (.ptr 9 0),.ref (.ptr 10 0)])]) {toList:=[40,41]} (rfAsg (sub Tryz.f69 1)) (rfBody (sub Tryz.f69 1))],m:=[]}) (e:=Exit.normal) pok [.st (.mask []),.st (.trimV 13)] [.ov 45 (int x),.b false,.oh 10050 D.any (ubH es A fs v to (List.set by' (Int.toNat u) r) l e (.ref (.vec 7 e)) LoopState.busy none),.b false,.oh 57 (.ref (.vec 7 (e+1))) (ubH es A fs v to (List.set by' (Int.toNat u) r) (l++[u]) (e+1) (.ref (.vec 7 e)) LoopState.busy none++[.vec [[int u]] 0 1])] (by kernel_rfl) (.c (show inR u (List.length (vecI by'))=true from ?_) (.c (show loadD Tryz.prog [.vec (vecI fs) 0 1,.gone,.var [rowsD' (List.map EdgT.row es),.ref (.vec 0 0),rowsD' A],.var [int to],.var [.ref (.vec 6 0)],.vec [[int (-1)]] 0 1,.vec (vecI by') 0 1,.vec (vecI l) e 1,.var [.ref (.vec 7 e)],.var [.ref (.ptr 2 0)],.var [int v],.defd,.loop LoopState.busy none 0 (mkT 59 0 [(0,.ref (.ptr 2 0)),(5,.ref (.ptr 3 0)),(6,.ref (.ptr 4 0)),(7,.ref (.ptr 8 0)),(8,int v),(39,D.fn (Fn.func 136) [] [.ref (.ptr 9 0),.ref (.ptr 10 0)])]) {toList:=[40,41]} (rfAsg (sub Tryz.f69 1)) (rfBody (sub Tryz.f69 1))] 3 (.ref (.vp 6 0 (Int.toNat u) 0))=some (int x) from ?_) (.c hg (.c (show inR u (List.length (vecI by'))=true from ?_) (.c (show storeD Tryz.prog [.vec (vecI fs) 0 1,.gone,.var [rowsD' (List.map EdgT.row es),.ref (.vec 0 0),rowsD' A],.var [int to],.var [.ref (.vec 6 0)],.vec [[int (-1)]] 0 1,.vec (vecI by') 0 1,.vec (vecI l) e 1,.var [.ref (.vec 7 e)],.var [.ref (.ptr 2 0)],.var [int v],.defd,.loop LoopState.busy none 0 (mkT 59 0 [(0,.ref (.ptr 2 0)),(5,.ref (.ptr 3 0)),(6,.ref (.ptr 4 0)),(7,.ref (.ptr 8 0)),(8,int v),(39,D.fn (Fn.func 136) [] [.ref (.ptr 9 0),.ref (.ptr 10 0)])]) {toList:=[40,41]} (rfAsg (sub Tryz.f69 1)) (rfBody (sub Tryz.f69 1))] 3 (.ref (.vp 6 0 (Int.toNat u) 0)) (int r)=some [.vec (vecI fs) 0 1,.gone,.var [rowsD' (List.map EdgT.row es),.ref (.vec 0 0),rowsD' A],.var [int to],.var [.ref (.vec 6 0)],.vec [[int (-1)]] 0 1,.vec (vecI (List.set by' (Int.toNat u) r)) 0 1,.vec (vecI l) e 1,.var [.ref (.vec 7 e)],.var [.ref (.ptr 2 0)],.var [int v],.defd,.loop LoopState.busy none 0 (mkT 59 0 [(0,.ref (.ptr 2 0)),(5,.ref (.ptr 3 0)),(6,.ref (.ptr 4 0)),(7,.ref (.ptr 8 0)),(8,int v),(39,D.fn (Fn.func 136) [] [.ref (.ptr 9 0),.ref (.ptr 10 0)])]) {toList:=[40,41]} (rfAsg (sub Tryz.f69 1)) (rfBody (sub Tryz.f69 1))] from ?_) (.c ht (.c (show builtinD Tryz.prog [.vec (vecI fs) 0 1,.gone,.var [rowsD' (List.map EdgT.row es),.ref (.vec 0 0),rowsD' A],.var [int to],.var [.ref (.vec 6 0)],.vec [[int (-1)]] 0 1,.vec (vecI (List.set by' (Int.toNat u) r)) 0 1,.vec (vecI l) e 1,.var [.ref (.vec 7 e)],.var [.ref (.ptr 2 0)],.var [int v],.defd,.loop LoopState.busy none 0 (mkT 59 0 [(0,.ref (.ptr 2 0)),(5,.ref (.ptr 3 0)),(6,.ref (.ptr 4 0)),(7,.ref (.ptr 8 0)),(8,int v),(39,D.fn (Fn.func 136) [] [.ref (.ptr 9 0),.ref (.ptr 10 0)])]) {toList:=[40,41]} (rfAsg (sub Tryz.f69 1)) (rfBody (sub Tryz.f69 1)),.vec [[int u]] 0 1] Builtin.append [34,34] (List.map (evalD Γ0 (mkT 59 0 [(5,.ref (.ptr 3 0)),(6,.ref (.ptr 4 0)),(7,.ref (.ptr 8 0)),(9,int r),(10,int u),(42,.ref (.vec 6 0)),(43,int u),(44,.ref (.vp 6 0 (Int.toNat u) 0)),(45,int x),(46,bool (Dd (x≥0))),(47,.ref (.vec 6 0)),(48,int u),(49,int r),(50,.ref (.vp 6 0 (Int.toNat u) 0)),(51,int u),(52,int to),(53,bool (u==to)),(54,.ref (.vec 7 e)),(55,int u),(56,.ref (.vec 13 0))])) [Operand.tmp 54,Operand.tmp 56])=some (true,.ref (.vec 7 (e+1)),[.vec (vecI fs) 0 1,.gone,.var [rowsD' (List.map EdgT.row es),.ref (.vec 0 0),rowsD' A],.var [int to],.var [.ref (.vec 6 0)],.vec [[int (-1)]] 0 1,.vec (vecI (List.set by' (Int.toNat u) r)) 0 1,.vec (vecI (l++[u])) (e+1) 1,.var [.ref (.vec 7 e)],.var [.ref (.ptr 2 0)],.var [int v],.defd,.loop LoopState.busy none 0 (mkT 59 0 [(0,.ref (.ptr 2 0)),(5,.ref (.ptr 3 0)),(6,.ref (.ptr 4 0)),(7,.ref (.ptr 8 0)),(8,int v),(39,D.fn (Fn.func 136) [] [.ref (.ptr 9 0),.ref (.ptr 10 0)])]) {toList:=[40,41]} (rfAsg (sub Tryz.f69 1)) (rfBody (sub Tryz.f69 1)),.vec [[int u]] 0 1]) from ?_) (.c (show Blk.inn 13 (.vec (vecI fs) 0 1)=true from ?_) (.c (show Blk.inn 13 .gone=true from rfl) (.c (show Blk.inn 13 (.var [rowsD' (List.map EdgT.row es),.ref (.vec 0 0),rowsD' A])=true from rfl) (.c (show Blk.inn 13 (.var [int to])=true from rfl) (.c (show Blk.inn 13 (.var [.ref (.vec 6 0)])=true from rfl) (.c (show Blk.inn 13 (.vec [[int (-1)]] 0 1)=true from rfl) (.c (show Blk.inn 13 (.vec (vecI (List.set by' (Int.toNat u) r)) 0 1)=true from ?_) (.c (show Blk.inn 13 (.vec (vecI (l++[u])) (e+1) 1)=true from ?_) (.c (show Blk.inn 13 (.var [.ref (.vec 7 (e+1))])=true from rfl) (.c (show Blk.inn 13 (.var [.ref (.ptr 2 0)])=true from rfl) (.c (show Blk.inn 13 (.var [int v])=true from rfl) (.c (show Blk.inn 13 .defd=true from rfl) (.c (show Blk.inn 13 (.loop LoopState.busy none 0 (mkT 59 0 [(0,.ref (.ptr 2 0)),(5,.ref (.ptr 3 0)),(6,.ref (.ptr 4 0)),(7,.ref (.ptr 8 0)),(8,int v),(39,D.fn (Fn.func 136) [] [.ref (.ptr 9 0),.ref (.ptr 10 0)])]) {toList:=[40,41]} (rfAsg (sub Tryz.f69 1)) (rfBody (sub Tryz.f69 1)))=true from rfl) .n))))))))))))))))))))) (by rfl) (by rfl)<;>(first|assumption|rfl|exact vg_in h0 hx|exact vg_load rfl hx|exact vg_store rfl (vg_lt hx)|exact vg_app rfl rfl hl|exact vecI_map _ _|exact vecI_inn _ _)
theorem ub_vs{es:List EdgT}{A:List (List Dp)}{fs by' l:List Int}{v to r u x:Int}{e i n:Nat}(h0:0≤u)(hx:by'[u.toNat]? = some x)(hg:Dd (x≥0)=false)(ht:(u==to)=false)(hl:l.length≤100000)(hin:i+n=l.length):(CW Tryz.prog Γ0 (ubH es A fs v to by' l e (.ref (.vs 7 e i n false)) .ready none) true (rfBody (sub Tryz.f69 1)) {t:=usU v r u,h:=ubH es A fs v to by' l e (.ref (.vs 7 e i n false)) .busy none,m:=[]} .normal {t:=mkT 59 0 [],h:=ubH es A fs v to (by'.set u.toNat r) (l.drop i++[u]) (e+1) (.ref (.vec 7 (e+1))) .busy none,m:=[]}):=by
 refine CW.cast (CW.symX (s':={t:=mkT 59 0 [],h:=[.vec (vecI fs) 0 1,.gone,.var [rowsD' (List.map EdgT.row es),.ref (.vec 0 0),rowsD' A],.var [int to],.var [.ref (.vec 6 0)],.vec [[int (-1)]] 0 1,.vec (vecI (List.set by' (Int.toNat u) r)) 0 1,.vec (vecI (List.drop i l++[u])) (e+1) 1,.var [.ref (.vec 7 (e+1))],.var [.ref (.ptr 2 0)],.var [int v],.defd,.loop LoopState.busy none 0 (mkT 59 0 [(0,.ref (.ptr 2 0)),(5,.ref (.ptr 3 0)),(6,.ref (.ptr 4 0)),(7,.ref (.ptr 8 0)),(8,int v),(39,D.fn (Fn.func 136) [] [.ref (.ptr 9 0),.ref (.ptr 10 0)])]) {toList:=[40,41]} (rfAsg (sub Tryz.f69 1)) (rfBody (sub Tryz.f69 1))],m:=[]}) (e:=Exit.normal) pok [.st (.mask []),.st (.trimV 13)] [.ov 45 (int x),.b false,.oh 10050 D.any (ubH es A fs v to (List.set by' (Int.toNat u) r) l e (.ref (.vs 7 e i n false)) LoopState.busy none),.b false,.oh 57 (.ref (.vec 7 (e+1))) (ubH es A fs v to (List.set by' (Int.toNat u) r) (List.drop i l++[u]) (e+1) (.ref (.vs 7 e i n false)) LoopState.busy none++[.vec [[int u]] 0 1])] (by kernel_rfl) (.c (show inR u (List.length (vecI by'))=true from ?_) (.c (show loadD Tryz.prog [.vec (vecI fs) 0 1,.gone,.var [rowsD' (List.map EdgT.row es),.ref (.vec 0 0),rowsD' A],.var [int to],.var [.ref (.vec 6 0)],.vec [[int (-1)]] 0 1,.vec (vecI by') 0 1,.vec (vecI l) e 1,.var [.ref (.vs 7 e i n false)],.var [.ref (.ptr 2 0)],.var [int v],.defd,.loop LoopState.busy none 0 (mkT 59 0 [(0,.ref (.ptr 2 0)),(5,.ref (.ptr 3 0)),(6,.ref (.ptr 4 0)),(7,.ref (.ptr 8 0)),(8,int v),(39,D.fn (Fn.func 136) [] [.ref (.ptr 9 0),.ref (.ptr 10 0)])]) {toList:=[40,41]} (rfAsg (sub Tryz.f69 1)) (rfBody (sub Tryz.f69 1))] 3 (.ref (.vp 6 0 (Int.toNat u) 0))=some (int x) from ?_) (.c hg (.c (show inR u (List.length (vecI by'))=true from ?_) (.c (show storeD Tryz.prog [.vec (vecI fs) 0 1,.gone,.var [rowsD' (List.map EdgT.row es),.ref (.vec 0 0),rowsD' A],.var [int to],.var [.ref (.vec 6 0)],.vec [[int (-1)]] 0 1,.vec (vecI by') 0 1,.vec (vecI l) e 1,.var [.ref (.vs 7 e i n false)],.var [.ref (.ptr 2 0)],.var [int v],.defd,.loop LoopState.busy none 0 (mkT 59 0 [(0,.ref (.ptr 2 0)),(5,.ref (.ptr 3 0)),(6,.ref (.ptr 4 0)),(7,.ref (.ptr 8 0)),(8,int v),(39,D.fn (Fn.func 136) [] [.ref (.ptr 9 0),.ref (.ptr 10 0)])]) {toList:=[40,41]} (rfAsg (sub Tryz.f69 1)) (rfBody (sub Tryz.f69 1))] 3 (.ref (.vp 6 0 (Int.toNat u) 0)) (int r)=some [.vec (vecI fs) 0 1,.gone,.var [rowsD' (List.map EdgT.row es),.ref (.vec 0 0),rowsD' A],.var [int to],.var [.ref (.vec 6 0)],.vec [[int (-1)]] 0 1,.vec (vecI (List.set by' (Int.toNat u) r)) 0 1,.vec (vecI l) e 1,.var [.ref (.vs 7 e i n false)],.var [.ref (.ptr 2 0)],.var [int v],.defd,.loop LoopState.busy none 0 (mkT 59 0 [(0,.ref (.ptr 2 0)),(5,.ref (.ptr 3 0)),(6,.ref (.ptr 4 0)),(7,.ref (.ptr 8 0)),(8,int v),(39,D.fn (Fn.func 136) [] [.ref (.ptr 9 0),.ref (.ptr 10 0)])]) {toList:=[40,41]} (rfAsg (sub Tryz.f69 1)) (rfBody (sub Tryz.f69 1))] from ?_) (.c ht (.c (show builtinD Tryz.prog [.vec (vecI fs) 0 1,.gone,.var [rowsD' (List.map EdgT.row es),.ref (.vec 0 0),rowsD' A],.var [int to],.var [.ref (.vec 6 0)],.vec [[int (-1)]] 0 1,.vec (vecI (List.set by' (Int.toNat u) r)) 0 1,.vec (vecI l) e 1,.var [.ref (.vs 7 e i n false)],.var [.ref (.ptr 2 0)],.var [int v],.defd,.loop LoopState.busy none 0 (mkT 59 0 [(0,.ref (.ptr 2 0)),(5,.ref (.ptr 3 0)),(6,.ref (.ptr 4 0)),(7,.ref (.ptr 8 0)),(8,int v),(39,D.fn (Fn.func 136) [] [.ref (.ptr 9 0),.ref (.ptr 10 0)])]) {toList:=[40,41]} (rfAsg (sub Tryz.f69 1)) (rfBody (sub Tryz.f69 1)),.vec [[int u]] 0 1] Builtin.append [34,34] (List.map (evalD Γ0 (mkT 59 0 [(5,.ref (.ptr 3 0)),(6,.ref (.ptr 4 0)),(7,.ref (.ptr 8 0)),(9,int r),(10,int u),(42,.ref (.vec 6 0)),(43,int u),(44,.ref (.vp 6 0 (Int.toNat u) 0)),(45,int x),(46,bool (Dd (x≥0))),(47,.ref (.vec 6 0)),(48,int u),(49,int r),(50,.ref (.vp 6 0 (Int.toNat u) 0)),(51,int u),(52,int to),(53,bool (u==to)),(54,.ref (.vs 7 e i n false)),(55,int u),(56,.ref (.vec 13 0))])) [Operand.tmp 54,Operand.tmp 56])=some (true,.ref (.vec 7 (e+1)),[.vec (vecI fs) 0 1,.gone,.var [rowsD' (List.map EdgT.row es),.ref (.vec 0 0),rowsD' A],.var [int to],.var [.ref (.vec 6 0)],.vec [[int (-1)]] 0 1,.vec (vecI (List.set by' (Int.toNat u) r)) 0 1,.vec (vecI (List.drop i l++[u])) (e+1) 1,.var [.ref (.vs 7 e i n false)],.var [.ref (.ptr 2 0)],.var [int v],.defd,.loop LoopState.busy none 0 (mkT 59 0 [(0,.ref (.ptr 2 0)),(5,.ref (.ptr 3 0)),(6,.ref (.ptr 4 0)),(7,.ref (.ptr 8 0)),(8,int v),(39,D.fn (Fn.func 136) [] [.ref (.ptr 9 0),.ref (.ptr 10 0)])]) {toList:=[40,41]} (rfAsg (sub Tryz.f69 1)) (rfBody (sub Tryz.f69 1)),.vec [[int u]] 0 1]) from ?_) (.c (show Blk.inn 13 (.vec (vecI fs) 0 1)=true from ?_) (.c (show Blk.inn 13 .gone=true from rfl) (.c (show Blk.inn 13 (.var [rowsD' (List.map EdgT.row es),.ref (.vec 0 0),rowsD' A])=true from rfl) (.c (show Blk.inn 13 (.var [int to])=true from rfl) (.c (show Blk.inn 13 (.var [.ref (.vec 6 0)])=true from rfl) (.c (show Blk.inn 13 (.vec [[int (-1)]] 0 1)=true from rfl) (.c (show Blk.inn 13 (.vec (vecI (List.set by' (Int.toNat u) r)) 0 1)=true from ?_) (.c (show Blk.inn 13 (.vec (vecI (List.drop i l++[u])) (e+1) 1)=true from ?_) (.c (show Blk.inn 13 (.var [.ref (.vec 7 (e+1))])=true from rfl) (.c (show Blk.inn 13 (.var [.ref (.ptr 2 0)])=true from rfl) (.c (show Blk.inn 13 (.var [int v])=true from rfl) (.c (show Blk.inn 13 .defd=true from rfl) (.c (show Blk.inn 13 (.loop LoopState.busy none 0 (mkT 59 0 [(0,.ref (.ptr 2 0)),(5,.ref (.ptr 3 0)),(6,.ref (.ptr 4 0)),(7,.ref (.ptr 8 0)),(8,int v),(39,D.fn (Fn.func 136) [] [.ref (.ptr 9 0),.ref (.ptr 10 0)])]) {toList:=[40,41]} (rfAsg (sub Tryz.f69 1)) (rfBody (sub Tryz.f69 1)))=true from rfl) .n))))))))))))))))))))) (by rfl) (by rfl)<;>(first|assumption|rfl|exact vg_in h0 hx|exact vg_load rfl hx|exact vg_store rfl (vg_lt hx)|exact vs_app rfl rfl hl hin|exact vecI_map _ _|exact vecI_inn _ _)
noncomputable abbrev usX(es:List EdgT)(A:List (List Dp))(fs:List Int)(v to:Int)(B:List (List Dp))(by':List Int)(l:List Int)(e:Nat)(Q:D)(j:Int):AS:=usS es A fs v B (.var [int to]) (.var [.ref (.vec 6 0)]) (.vec [[int (-1)]] 0 1) (.vec (vecI by') 0 1) (.vec (vecI l) e 1) (.var [Q]) j
theorem usl_a{es:List EdgT}{A:List (List Dp)}{fs by' by2 l l2:List Int}{v to:Int}{e e2:Nat}{Q Q2:D}{B:List (List Dp)}(hA:RowAt v A [.sl B] 1)
  (hcw:CW Tryz.prog Γ0 (ubH es A fs v to by' l e Q .ready none) false (.loop (sub Tryz.f136 0)) (usX es A fs v to B by' l e Q 0) (.exit 0) {t:=mkT 32 0 [],h:=ubH es A fs v to by2 l2 e2 Q2 .ready none,m:=[]}):(Ev Tryz.prog Γ0 136 [.ref (.yl 12),.ref (.ptr 9 0),.ref (.ptr 10 0)] (ubH es A fs v to by' l e Q .ready none) (.tup []) (ubH es A fs v to by2 l2 e2 Q2 .ready none)):=by
 have hl0:=(@hcw)
 exact Ev.castH (Ev.of_sym (h':=[.vec (vecI fs) 0 1,.gone,.var [rowsD' (List.map EdgT.row es),.ref (.vec 0 0),rowsD' A],.var [int to],.var [.ref (.vec 6 0)],.vec [[int (-1)]] 0 1,.vec (vecI by2) 0 1,.vec (vecI l2) e2 1,.var [Q2],.var [.ref (.ptr 2 0)],.var [int v],.defd,.loop LoopState.ready none 0 (mkT 59 0 [(0,.ref (.ptr 2 0)),(5,.ref (.ptr 3 0)),(6,.ref (.ptr 4 0)),(7,.ref (.ptr 8 0)),(8,int v),(39,D.fn (Fn.func 136) [] [.ref (.ptr 9 0),.ref (.ptr 10 0)])]) {toList:=[40,41]} (rfAsg (sub Tryz.f69 1)) (rfBody (sub Tryz.f69 1))]) (d:=D.tup []) pok [.row [Dp.sl B],.sum [0,1,2,12,13,14] (Exit.exit 0) {t:=mkT 32 0 [],h:=[.vec (vecI fs) 0 1,.gone,.var [rowsD' (List.map EdgT.row es),.ref (.vec 0 0),rowsD' A],.var [int to],.var [.ref (.vec 6 0)],.vec [[int (-1)]] 0 1,.vec (vecI by2) 0 1,.vec (vecI l2) e2 1,.var [Q2],.var [.ref (.ptr 2 0)],.var [int v],.defd,.loop LoopState.ready none 0 (mkT 59 0 [(0,.ref (.ptr 2 0)),(5,.ref (.ptr 3 0)),(6,.ref (.ptr 4 0)),(7,.ref (.ptr 8 0)),(8,int v),(39,D.fn (Fn.func 136) [] [.ref (.ptr 9 0),.ref (.ptr 10 0)])]) {toList:=[40,41]} (rfAsg (sub Tryz.f69 1)) (rfBody (sub Tryz.f69 1))],m:=[]}] (by kernel_rfl) (.c hA (.c hl0 .n))) (by rfl) (by rfl)
theorem usr_a{es:List EdgT}{A:List (List Dp)}{fs by' by2 l l2:List Int}{v to:Int}{e e2:Nat}{Q Q2:D}{B:List (List Dp)}(hA:RowAt v A [.sl B] 1)
  (hcw:CW Tryz.prog Γ0 (ubH es A fs v to by' l e Q .ready none) false (.loop (sub Tryz.f136 0)) (usX es A fs v to B by' l e Q 0) .ret {t:=mkT 32 0 [],h:=ubH es A fs v to by2 l2 e2 Q2 .done (some (.exit 0)),m:=[]}):(Ev Tryz.prog Γ0 136 [.ref (.yl 12),.ref (.ptr 9 0),.ref (.ptr 10 0)] (ubH es A fs v to by' l e Q .ready none) (.tup []) (ubH es A fs v to by2 l2 e2 Q2 .done (some (.exit 0)))):=by
 have hl0:=(@hcw)
 exact Ev.castH (Ev.of_sym (h':=[.vec (vecI fs) 0 1,.gone,.var [rowsD' (List.map EdgT.row es),.ref (.vec 0 0),rowsD' A],.var [int to],.var [.ref (.vec 6 0)],.vec [[int (-1)]] 0 1,.vec (vecI by2) 0 1,.vec (vecI l2) e2 1,.var [Q2],.var [.ref (.ptr 2 0)],.var [int v],.defd,.loop LoopState.done (some (Code.exit 0)) 0 (mkT 59 0 [(0,.ref (.ptr 2 0)),(5,.ref (.ptr 3 0)),(6,.ref (.ptr 4 0)),(7,.ref (.ptr 8 0)),(8,int v),(39,D.fn (Fn.func 136) [] [.ref (.ptr 9 0),.ref (.ptr 10 0)])]) {toList:=[40,41]} (rfAsg (sub Tryz.f69 1)) (rfBody (sub Tryz.f69 1))]) (d:=D.tup []) pok [.row [Dp.sl B],.sum [0,1,2,12,13,14] (Exit.ret) {t:=mkT 32 0 [],h:=[.vec (vecI fs) 0 1,.gone,.var [rowsD' (List.map EdgT.row es),.ref (.vec 0 0),rowsD' A],.var [int to],.var [.ref (.vec 6 0)],.vec [[int (-1)]] 0 1,.vec (vecI by2) 0 1,.vec (vecI l2) e2 1,.var [Q2],.var [.ref (.ptr 2 0)],.var [int v],.defd,.loop LoopState.done (some (Code.exit 0)) 0 (mkT 59 0 [(0,.ref (.ptr 2 0)),(5,.ref (.ptr 3 0)),(6,.ref (.ptr 4 0)),(7,.ref (.ptr 8 0)),(8,int v),(39,D.fn (Fn.func 136) [] [.ref (.ptr 9 0),.ref (.ptr 10 0)])]) {toList:=[40,41]} (rfAsg (sub Tryz.f69 1)) (rfBody (sub Tryz.f69 1))],m:=[]}] (by kernel_rfl) (.c hA (.c hl0 .n))) (by rfl) (by rfl)
structure QF where
 vs:Bool
 e:Nat
 i:Nat
 l:List Int
def QF.d(q:QF):D:=match q.vs with
 | true=>.ref (.vs 7 q.e q.i (q.l.length - q.i) false)
 | false=>.ref (.vec 7 q.e)
def QF.list(q:QF):List Int:=match q.vs with
 | true=>q.l.drop q.i
 | false=>q.l
def QF.push(q:QF)(u:Int):QF:=⟨false,q.e+1,0,q.list++[u]⟩
def QF.Ok(q:QF)(k:Nat):Prop:=(q.vs=true→q.i≤q.l.length)∧q.l.length≤k
theorem QF.Ok.push{q:QF}{k:Nat}{u:Int}(h:q.Ok k):(q.push u).Ok (k+1):=by
 obtain⟨vs,e,i,l⟩:=q
 obtain⟨h1,h2⟩:=h
 refine⟨by simp[QF.push],?_⟩
 cases vs<;>simp_all[QF.push,QF.list]<;>omega
theorem QF.Ok.le{q:QF}{k k':Nat}(h:q.Ok k)(hk:k≤k'):q.Ok k':=⟨h.1,Nat.le_trans h.2 hk⟩
noncomputable abbrev ubS(es:List EdgT)(A:List (List Dp))(fs:List Int)(v to:Int)(s:List Int×QF)(st:LoopState)(pd:Option Code):List Blk:=ubH es A fs v to s.1 s.2.l s.2.e s.2.d st pd
def usY(to r u:Int)(s:List Int×QF):(List Int×QF)⊕(List Int×QF):=match Dd (s.1.getD u.toNat 0≥0) with
 | true=>.inl s
 | false=>match u==to with
  | true=>.inr (s.1.set u.toNat r,s.2)
  | false=>.inl (s.1.set u.toNat r,s.2.push u)
section
variable {es:List EdgT} {A:List (List Dp)} {fs:List Int} {v to r u:Int} {s s':List Int×QF}
theorem ub_ivl(h0:0≤u)(hu:u.toNat<s.1.length)(hq:s.2.Ok 100000)(h:usY to r u s=.inl s'):
  Iv Tryz.prog Γ0 (.ref (.yl 12)) [int r,int u] (ubS es A fs v to s .ready none) (bool true) (ubS es A fs v to s' .ready none):=by
 have hx:s.1[u.toNat]? = some (s.1.getD u.toNat 0):=by simp[List.getD,hu]
 unfold usY at h
 split at h
 ·rename_i hg
  cases h
  exact Iv.round (h1:=ubS es A fs v to s .ready none) rfl rfl ub_asg rfl (ub_skip h0 hx hg) rfl
 ·rename_i hg
  split at h
  ·cases h
  ·rename_i ht
   cases h
   obtain⟨by',vs,e,i,l⟩:=s
   cases vs with
   | false=>exact Iv.round (h1:=ubH es A fs v to by' l e (.ref (.vec 7 e)) .ready none) rfl rfl ub_asg rfl (ub_vec h0 hx hg ht hq.2) rfl
   | true =>
    have hi:=hq.1 rfl
    exact Iv.round (h1:=ubH es A fs v to by' l e (.ref (.vs 7 e i (l.length - i) false)) .ready none) rfl rfl ub_asg rfl (ub_vs h0 hx hg ht hq.2 (Nat.add_sub_cancel' hi)) rfl
theorem ub_ivr(h0:0≤u)(hu:u.toNat<s.1.length)(h:usY to r u s=.inr s'):
  Iv Tryz.prog Γ0 (.ref (.yl 12)) [int r,int u] (ubS es A fs v to s .ready none) (bool false) (ubS es A fs v to s' .done (some (.exit 0))):=by
 have hx:s.1[u.toNat]? = some (s.1.getD u.toNat 0):=by simp[List.getD,hu]
 unfold usY at h
 split at h
 ·cases h
 ·rename_i hg
  split at h
  ·rename_i ht
   cases h
   exact Iv.round (h1:=ubS es A fs v to s .ready none) rfl rfl ub_asg rfl (ub_hit h0 hx hg ht) rfl
  ·cases h
end
def ixR(r:Int):Int:=IntKind.i64.wrap (Int.tdiv r 2)
def exA(es:List EdgT)(r:Int):EdgT:=es.getD (ixR r).toNat ⟨0,0,0⟩
def fA(fs:List Int)(r:Int):Int:=fs.getD (ixR r).toNat 0
def capA(es:List EdgT)(fs:List Int)(r:Int):Int:=capE r (exA es r) (fA fs r)
def endA(es:List EdgT)(r:Int):Int:=endE r (exA es r)
def ResOk(m:Nat)(r:Int):Prop:=0≤r∧r<2*m
theorem ixR_eq{m:Nat}{r:Int}(h:ResOk m r)(hm:m≤1000000):ixR r=((r.toNat / 2:Nat):Int)∧r.toNat / 2<m:=by
 obtain⟨h1,h2⟩:=h
 have e:Int.tdiv r 2=((r.toNat / 2:Nat):Int):=by
  rw[Int.tdiv_eq_ediv_of_nonneg h1];omega
 refine⟨?_,by omega⟩
 unfold ixR
 rw[e,wrap_i64 (by omega) (by omega)]
section
variable {es:List EdgT} {fs:List Int} {r:Int}
theorem exA_get(h:ResOk es.length r)(hm:es.length≤1000000):es[(ixR r).toNat]? = some (exA es r):=by
 obtain⟨h1,h2⟩:=ixR_eq h hm
 unfold exA
 rw[h1,Int.toNat_natCast]
 simp only[List.getD,List.getElem?_eq_getElem h2,Option.getD_some]
theorem fA_get(h:ResOk es.length r)(hm:es.length≤1000000)(hl:fs.length=es.length):fs[(ixR r).toNat]? = some (fA fs r):=by
 obtain⟨h1,h2⟩:=ixR_eq h hm
 unfold fA
 rw[h1,Int.toNat_natCast]
 simp only[List.getD,List.getElem?_eq_getElem (show r.toNat / 2<fs.length by omega),Option.getD_some]
theorem exA_row(h:ResOk es.length r)(hm:es.length≤1000000):RowAt (IntKind.i64.wrap (Int.tdiv r 2)) (es.map EdgT.row) (exA es r).row 3:=by
 obtain⟨h1,h2⟩:=ixR_eq h hm
 have h3:=exA_get h hm
 show RowAt (ixR r) _ _ _
 rw[h1] at h3 ⊢
 rw[Int.toNat_natCast] at h3
 exact rowAt h3 rfl
theorem endA_in{n:Nat}(h:ResOk es.length r)(hm:es.length≤1000000)(hin:∀x∈es,EdgIn n x):0≤endA es r∧(endA es r).toNat<n:=by
 have:=hin _ (List.mem_of_getElem? (exA_get h hm))
 obtain⟨a,b,c,d⟩:=this
 unfold endA endE
 split<;>omega
end
def usG(es:List EdgT)(fs:List Int)(to r:Int)(s:List Int×QF):(List Int×QF)⊕(List Int×QF):=match Dd (capA es fs r>0) with
 | true=>usY to r (endA es r) s
 | false=>.inl s
noncomputable def usFin(es:List EdgT)(A:List (List Dp))(fs:List Int)(v to:Int):(List Int×QF)⊕(List Int×QF)→Exit×AS:=eachFin (.exit 0) (fun s=>{t:=mkT 32 0 [],h:=ubS es A fs v to s .ready none,m:=[]}) (fun s=>(.ret,{t:=mkT 32 0 [],h:=ubS es A fs v to s .done (some (.exit 0)),m:=[]}))
theorem usY_inl{to r u:Int}{s s':List Int×QF}(h:usY to r u s=.inl s'){n k:Nat}(h1:s.1.length=n)(h2:s.2.Ok k):s'.1.length=n∧s'.2.Ok (k+1):=by
 unfold usY at h
 split at h
 ·cases h;exact⟨h1,h2.le (by omega)⟩
 ·split at h
  ·cases h
  ·cases h;exact⟨by simpa using h1,h2.push⟩
theorem us_each{es:List EdgT}{A:List (List Dp)}{fs:List Int}{v to:Int}{n:Nat}(hl:fs.length=es.length)(hm:es.length≤1000)(hin:∀x∈es,EdgIn n x){B:List Int}(hB:∀r∈B,ResOk es.length r)(hBl:B.length≤10000)
  {s0:List Int×QF} (h1:s0.1.length=n) (h2:s0.2.Ok 10000) :
  CW Tryz.prog Γ0 (ubS es A fs v to s0 .ready none) false (.loop (sub Tryz.f136 0)) (usX es A fs v to (inR1 B) s0.1 s0.2.l s0.2.e s0.2.d 0) (usFin es A fs v to (forL (usG es fs to) B s0)).1 (usFin es A fs v to (forL (usG es fs to) B s0)).2:=by
 refine CW.each (P:=Tryz.prog) (Γ:=Γ0) (h0:=ubS es A fs v to s0 .ready none) (rd:=false) (c:=sub Tryz.f136 0) (σ:=List Int×QF) (ρ:=List Int×QF) B (usG es fs to)
  (fun j s=>usX es A fs v to (inR1 B) s.1 s.2.l s.2.e s.2.d (j:Int)) (.exit 0) (fun s=>{t:=mkT 32 0 [],h:=ubS es A fs v to s .ready none,m:=[]}) (fun s=>(.ret,{t:=mkT 32 0 [],h:=ubS es A fs v to s .done (some (.exit 0)),m:=[]}))
  (fun j s=>s.1.length=n∧s.2.Ok (10000+j)) (by simp) (by simp) ?_ ?_ s0 ⟨h1,h2⟩
 ·rintro j r s hj ⟨g1,g2⟩
  have hi:=(List.getElem?_eq_some_iff.1 hj).1
  have hr:=hB r (List.mem_of_getElem? hj)
  have hq:=(ixR_eq hr (by omega)).1
  have hql:=(ixR_eq hr (by omega)).2
  have hx:=exA_row hr (by omega)
  have hf:=fA_get (fs:=fs) hr (by omega) hl
  have he:=endA_in hr (by omega) hin
  have hrow:=rowAt (row:=fun n:Int=>[vi n]) hj rfl
  have hlt:=lt_len (fun n:Int=>[vi n]) hi
  have hw:=wrap_succ (i:=j) hi (by omega)
  cases hc:Dd (capA es fs r>0) with
  | false =>
   have e:usG es fs to r s=.inl s:=by unfold usG;rw[hc]
   rw[e]
   refine⟨fun s' h=>?_,us_no (x:=exA es r) (f:=fA fs r) hq hx hf (by omega) hrow hlt hw hc⟩
   cases h
   exact⟨g1,g2.le (by omega)⟩
  | true =>
   have e:usG es fs to r s=usY to r (endA es r) s:=by unfold usG;rw[hc]
   rw[e]
   have hu:(endA es r).toNat<s.1.length:=by omega
   cases hy:usY to r (endA es r) s with
   | inl s' =>
    refine⟨fun s2 h=>?_,us_yes (x:=exA es r) (f:=fA fs r) hq hx hf (by omega) hrow hlt hw hc rfl (ub_ivl (u:=endA es r) he.1 hu (g2.le (by omega)) hy)⟩
    cases h
    exact usY_inl hy g1 g2
   | inr s' =>
    refine⟨fun s2 h=>(by cases h),us_stop (u:=0) (x:=exA es r) (f:=fA fs r) hq hx hf (by omega) hrow hlt hc (ub_ivr (u:=endA es r) he.1 hu hy)⟩
 ·intro s _
  exact us_last (ge_len (fun n:Int=>[vi n]) B)
end Go.Vi
