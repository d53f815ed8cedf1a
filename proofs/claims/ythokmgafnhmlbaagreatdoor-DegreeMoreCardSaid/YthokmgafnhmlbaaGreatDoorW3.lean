/- DegreeMore: part of the proof: contracts of the functions that the law reaches, and the law. No conditions beyond the given statement's own. -/
import Derived.Test.YthokmgafnhmlbaaGreatDoorW2
open Decidable renaming decide → Dd
open Go Go.Proofs
namespace Go.Vi
set_option maxRecDepth 100000
set_option maxHeartbeats 4000000
section
variable {es:List EdgT} {A:List (List Dp)} {fs:List Int} {v to:Int}
noncomputable abbrev ubH0(es:List EdgT)(A:List (List Dp))(fs:List Int)(v to:Int)(by':List Int)(l:List Int)(e:Nat)(Q:D):List Blk:=[.vec (vecI fs) 0 1,.gone,.var [rowsD' (es.map EdgT.row),.ref (.vec 0 0),rowsD' A],.var [int to],.var [.ref (.vec 6 0)],.vec [[int (-1)]] 0 1,.vec (vecI by') 0 1,.vec (vecI l) e 1,.var [Q],.var [.ref (.ptr 2 0)],.var [int v]]
theorem us_rfl{h0:List Blk}{n:Nat}(hl:fs.length=es.length)(hm:es.length≤1000)(hin:∀x∈es,EdgIn n x){B:List Int}(hA:RowAt v A [.sl (inR1 B)] 1)(hB:∀r∈B,ResOk es.length r)(hBl:B.length≤10000)
  {s0 s':List Int×QF} (h1:s0.1.length=n) (h2:s0.2.Ok 10000) (hf:forL (usG es fs to) B s0=.inl s') :
  CW Tryz.prog Γ0 h0 false (sub Tryz.f69 1) {t:=usT v,h:=ubH0 es A fs v to s0.1 s0.2.l s0.2.e s0.2.d,m:=[]} .normal {t:=usT v,h:=ubS es A fs v to s' .exhausted none,m:=[11]}:=by
 have:=us_each (A:=A) (v:=v) (to:=to) hl hm hin hB hBl h1 h2
 rw[hf] at this
 exact CW.rangeFunc (f:=136) (fi:=[]) (ca:=[.ref (.ptr 9 0),.ref (.ptr 10 0)]) pok (s:={t:=usT v,h:=ubH0 es A fs v to s0.1 s0.2.l s0.2.e s0.2.d,m:=[]}) (g:=.tmp 39) (ps:=#[40,41]) (asg:=rfAsg (sub Tryz.f69 1)) (body:=rfBody (sub Tryz.f69 1)) rfl (by kernel_rfl) (usl_a hA this) rfl
theorem us_rfr{h0:List Blk}{n:Nat}(hl:fs.length=es.length)(hm:es.length≤1000)(hin:∀x∈es,EdgIn n x){B:List Int}(hA:RowAt v A [.sl (inR1 B)] 1)(hB:∀r∈B,ResOk es.length r)(hBl:B.length≤10000)
  {s0 s':List Int×QF} (h1:s0.1.length=n) (h2:s0.2.Ok 10000) (hf:forL (usG es fs to) B s0=.inr s') :
  CW Tryz.prog Γ0 h0 false (sub Tryz.f69 1) {t:=usT v,h:=ubH0 es A fs v to s0.1 s0.2.l s0.2.e s0.2.d,m:=[]} (.exit 0) {t:=usT v,h:=ubS es A fs v to s' .exhausted (some (.exit 0)),m:=[11]}:=by
 have:=us_each (A:=A) (v:=v) (to:=to) hl hm hin hB hBl h1 h2
 rw[hf] at this
 exact CW.rangeFunc (f:=136) (fi:=[]) (ca:=[.ref (.ptr 9 0),.ref (.ptr 10 0)]) pok (s:={t:=usT v,h:=ubH0 es A fs v to s0.1 s0.2.l s0.2.e s0.2.d,m:=[]}) (g:=.tmp 39) (ps:=#[40,41]) (asg:=rfAsg (sub Tryz.f69 1)) (body:=rfBody (sub Tryz.f69 1)) rfl (by kernel_rfl) (usr_a hA this) rfl
end
section
variable {l:List Int} {b i e n:Nat} {a u:Int} {h:List Blk}
theorem ty34:(elemT Tryz.prog 34,Tryz.prog.underlying 34,szOf Tryz.prog 3)=(some 3,some (.slice 3),some 1):=by kernel_rfl
theorem vs_len{c:Bool}(hb:h[b]? = some (.vec (vecI l) e 1)):builtinD Tryz.prog h .len [34] [.ref (.vs b e i n c)]=some (true,int (n:Int),h):=by
 have h3:=ty34
 simp only[Prod.mk.injEq] at h3
 simp only[builtinD,lenOp,h3.2.1,lenD,hb,if_true,Option.map_some,keep]
theorem vg_len(hb:h[b]? = some (.vec (vecI l) e 1)):builtinD Tryz.prog h .len [34] [.ref (.vec b e)]=some (true,int (l.length:Int),h):=by
 have h3:=ty34
 simp only[Prod.mk.injEq] at h3
 simp only[builtinD,lenOp,h3.2.1,lenD,hb,if_true,Option.map_some,keep,vecI_len]
theorem vs_ia{c:Bool}(hb:h[b]? = some (.vec (vecI l) e 1))(hn:0<n):indexAddrD Tryz.prog h 34 (.ref (.vs b e i n c)) (int 0)=some (true,.ref (.vp b e i 0)):=by
 have h3:=ty34
 simp only[Prod.mk.injEq] at h3
 have h4:inR 0 n=true:=by simp[inR];omega
 simp only[indexAddrD,intOf?,h3.2.1,h3.2.2,hb,if_true,and_self,h4,Int.toNat_zero,Nat.add_zero]
theorem vg_ia(hb:h[b]? = some (.vec (vecI l) e 1))(hn:0<l.length):indexAddrD Tryz.prog h 34 (.ref (.vec b e)) (int 0)=some (true,.ref (.vp b e 0 0)):=by
 have h3:=ty34
 simp only[Prod.mk.injEq] at h3
 have h4:inR 0 l.length=true:=by simp[inR];omega
 simp only[indexAddrD,intOf?,h3.2.1,h3.2.2,hb,if_true,and_self,vecI_len,h4,Int.toNat_zero]
theorem vs_sl(hb:h[b]? = some (.vec (vecI l) e 1))(hn:0<n)(hin:i+n=l.length):sliceD Tryz.prog h 34 (.ref (.vs b e i n false)) (some (int 1)) none none=some (true,.ref (.vs b e (i+1) (n - 1) false)):=by
 have h3:=ty34
 simp only[Prod.mk.injEq] at h3
 have h4:slOk 1 n n=true:=by simp[slOk];omega
 have h5:¬((n:Int)=1∧¬(i+n=l.length∧True)):=by simp[hin]
 simp only[sliceD,boundD,maxD,h3.2.1,h3.2.2,lenD,hb,if_true,sliceRow,and_self,Option.map_some,intOf?,h4,maxOk,vecI_len,Int.toNat_natCast,h5,if_false,clipped,Bool.false_and,Bool.or_self,Bool.and_self,Option.isNone_none,Bool.true_or]
 rfl
theorem vg_sl(hb:h[b]? = some (.vec (vecI l) e 1))(hn:0<l.length):sliceD Tryz.prog h 34 (.ref (.vec b e)) (some (int 1)) none none=some (true,.ref (.vs b e 1 (l.length - 1) false)):=by
 have h3:=ty34
 simp only[Prod.mk.injEq] at h3
 have h4:slOk 1 l.length l.length=true:=by simp[slOk];omega
 have h5:¬((l.length:Int)=1∧¬True):=by simp
 simp only[sliceD,boundD,maxD,h3.2.1,h3.2.2,lenD,hb,if_true,sliceRow,and_self,Option.map_some,intOf?,h4,maxOk,vecI_len,Int.toNat_natCast,h5,if_false,clipped,Bool.and_self,Option.isNone_none,Bool.true_or,reduceCtorEq,and_true,false_and,Int.reduceEq]
 rfl
end
abbrev sT:List D:=mkT 59 0 [(0,.ref (.ptr 2 0)),(5,.ref (.ptr 3 0)),(6,.ref (.ptr 4 0)),(7,.ref (.ptr 8 0))]
abbrev sH(es:List EdgT)(A:List (List Dp))(fs:List Int)(to:Int)(by':List Int)(l:List Int)(e:Nat)(Q:D):List Blk:=[.vec (vecI fs) 0 1,.gone,.var [rowsD' (es.map EdgT.row),.ref (.vec 0 0),rowsD' A],.var [int to],.var [.ref (.vec 6 0)],.vec [[int (-1)]] 0 1,.vec (vecI by') 0 1,.vec (vecI l) e 1,.var [Q]]
abbrev sS(es:List EdgT)(A:List (List Dp))(fs:List Int)(to:Int)(by':List Int)(l:List Int)(e:Nat)(Q:D):AS:={t:=sT,h:=sH es A fs to by' l e Q,m:=[]}
theorem sh_end{es:List EdgT}{A:List (List Dp)}{fs by' l:List Int}{to:Int}{e i n:Nat}(hn:Dd ((n:Int)>0)=false):(CW Tryz.prog Γ0 (sH es A fs to by' l e (.ref (.vs 7 e i n false))) false (sub Tryz.f69 0) (sS es A fs to by' l e (.ref (.vs 7 e i n false))) (.exit 0) (sS es A fs to by' l e (.ref (.vs 7 e i n false)))):=by
 exact CW.cast (CW.symX (s':={t:=mkT 59 0 [(0,.ref (.ptr 2 0)),(5,.ref (.ptr 3 0)),(6,.ref (.ptr 4 0)),(7,.ref (.ptr 8 0))],h:=[.vec (vecI fs) 0 1,.gone,.var [rowsD' (List.map EdgT.row es),.ref (.vec 0 0),rowsD' A],.var [int to],.var [.ref (.vec 6 0)],.vec [[int (-1)]] 0 1,.vec (vecI by') 0 1,.vec (vecI l) e 1,.var [.ref (.vs 7 e i n false)]],m:=[]}) (e:=Exit.exit 0) pok [.st (.mask [0,5,6,7])] [.ov 30 (int (↑n:Int)),.b false] (by kernel_rfl) (.c (show builtinD Tryz.prog [.vec (vecI fs) 0 1,.gone,.var [rowsD' (List.map EdgT.row es),.ref (.vec 0 0),rowsD' A],.var [int to],.var [.ref (.vec 6 0)],.vec [[int (-1)]] 0 1,.vec (vecI by') 0 1,.vec (vecI l) e 1,.var [.ref (.vs 7 e i n false)]] Builtin.len [34] (List.map (evalD Γ0 (mkT 59 0 [(0,.ref (.ptr 2 0)),(5,.ref (.ptr 3 0)),(6,.ref (.ptr 4 0)),(7,.ref (.ptr 8 0)),(29,.ref (.vs 7 e i n false))])) [Operand.tmp 29])=some (true,int (↑n:Int),[.vec (vecI fs) 0 1,.gone,.var [rowsD' (List.map EdgT.row es),.ref (.vec 0 0),rowsD' A],.var [int to],.var [.ref (.vec 6 0)],.vec [[int (-1)]] 0 1,.vec (vecI by') 0 1,.vec (vecI l) e 1,.var [.ref (.vs 7 e i n false)]]) from(by first|assumption|rfl|exact vs_len rfl)) (.c hn .n))) (by rfl) (by rfl)
theorem sh_vs{es:List EdgT}{A:List (List Dp)}{fs by' by2 l l2:List Int}{v to:Int}{e e2 i n:Nat}{Q2:D}(hn:Dd ((n:Int)>0)=true)(hn0:0<n)(hin:i+n=l.length)(hv:l[i]? = some v)
  (hcw:CW Tryz.prog Γ0 (sH es A fs to by' l e (.ref (.vs 7 e i n false))) false (sub Tryz.f69 1) {t:=usT v,h:=ubH0 es A fs v to by' l e (.ref (.vs 7 e (i+1) (n - 1) false)),m:=[]} .normal {t:=usT v,h:=ubH es A fs v to by2 l2 e2 Q2 .exhausted none,m:=[11]}):(CW Tryz.prog Γ0 (sH es A fs to by' l e (.ref (.vs 7 e i n false))) false (sub Tryz.f69 0) (sS es A fs to by' l e (.ref (.vs 7 e i n false))) .normal {t:=sT,h:=ubH es A fs v to by2 l2 e2 Q2 .exhausted none,m:=[11]}):=by
 have hl0:=(@hcw)
 refine CW.cast (CW.symX (s':={t:=mkT 59 0 [(0,.ref (.ptr 2 0)),(5,.ref (.ptr 3 0)),(6,.ref (.ptr 4 0)),(7,.ref (.ptr 8 0))],h:=[.vec (vecI fs) 0 1,.gone,.var [rowsD' (List.map EdgT.row es),.ref (.vec 0 0),rowsD' A],.var [int to],.var [.ref (.vec 6 0)],.vec [[int (-1)]] 0 1,.vec (vecI by2) 0 1,.vec (vecI l2) e2 1,.var [Q2],.var [.ref (.ptr 2 0)],.var [int v],.defd,.loop LoopState.exhausted none 0 (mkT 59 0 [(0,.ref (.ptr 2 0)),(5,.ref (.ptr 3 0)),(6,.ref (.ptr 4 0)),(7,.ref (.ptr 8 0)),(8,int v),(39,D.fn (Fn.func 136) [] [.ref (.ptr 9 0),.ref (.ptr 10 0)])]) {toList:=[40,41]} (rfAsg (sub Tryz.f69 1)) (rfBody (sub Tryz.f69 1))],m:=[11]}) (e:=Exit.normal) pok [.st (.mask [0,5,6,7])] [.ov 30 (int (↑n:Int)),.b true,.ov 33 (.ref (.vp 7 e i 0)),.ov 34 (int v),.ov 36 (.ref (.vs 7 e (i+1) (n - 1) false)),.inl,.sum [0,5,6,7,8,39] (Exit.normal) {t:=mkT 59 0 [(0,.ref (.ptr 2 0)),(5,.ref (.ptr 3 0)),(6,.ref (.ptr 4 0)),(7,.ref (.ptr 8 0)),(8,int v),(39,D.fn (Fn.func 136) [] [.ref (.ptr 9 0),.ref (.ptr 10 0)])],h:=[.vec (vecI fs) 0 1,.gone,.var [rowsD' (List.map EdgT.row es),.ref (.vec 0 0),rowsD' A],.var [int to],.var [.ref (.vec 6 0)],.vec [[int (-1)]] 0 1,.vec (vecI by2) 0 1,.vec (vecI l2) e2 1,.var [Q2],.var [.ref (.ptr 2 0)],.var [int v],.defd,.loop LoopState.exhausted none 0 (mkT 59 0 [(0,.ref (.ptr 2 0)),(5,.ref (.ptr 3 0)),(6,.ref (.ptr 4 0)),(7,.ref (.ptr 8 0)),(8,int v),(39,D.fn (Fn.func 136) [] [.ref (.ptr 9 0),.ref (.ptr 10 0)])]) {toList:=[40,41]} (rfAsg (sub Tryz.f69 1)) (rfBody (sub Tryz.f69 1))],m:=[11]}] (by kernel_rfl) (.c (show builtinD Tryz.prog [.vec (vecI fs) 0 1,.gone,.var [rowsD' (List.map EdgT.row es),.ref (.vec 0 0),rowsD' A],.var [int to],.var [.ref (.vec 6 0)],.vec [[int (-1)]] 0 1,.vec (vecI by') 0 1,.vec (vecI l) e 1,.var [.ref (.vs 7 e i n false)]] Builtin.len [34] (List.map (evalD Γ0 (mkT 59 0 [(0,.ref (.ptr 2 0)),(5,.ref (.ptr 3 0)),(6,.ref (.ptr 4 0)),(7,.ref (.ptr 8 0)),(29,.ref (.vs 7 e i n false))])) [Operand.tmp 29])=some (true,int (↑n:Int),[.vec (vecI fs) 0 1,.gone,.var [rowsD' (List.map EdgT.row es),.ref (.vec 0 0),rowsD' A],.var [int to],.var [.ref (.vec 6 0)],.vec [[int (-1)]] 0 1,.vec (vecI by') 0 1,.vec (vecI l) e 1,.var [.ref (.vs 7 e i n false)]]) from ?_) (.c hn (.c (show indexAddrD Tryz.prog [.vec (vecI fs) 0 1,.gone,.var [rowsD' (List.map EdgT.row es),.ref (.vec 0 0),rowsD' A],.var [int to],.var [.ref (.vec 6 0)],.vec [[int (-1)]] 0 1,.vec (vecI by') 0 1,.vec (vecI l) e 1,.var [.ref (.vs 7 e i n false)]] 34 (.ref (.vs 7 e i n false)) (evalD Γ0 (mkT 59 0 [(0,.ref (.ptr 2 0)),(5,.ref (.ptr 3 0)),(6,.ref (.ptr 4 0)),(7,.ref (.ptr 8 0)),(29,.ref (.vs 7 e i n false)),(30,int (↑n:Int)),(31,bool (Dd ((↑n:Int)>0))),(32,.ref (.vs 7 e i n false))]) (Operand.const (Value.int IntKind.i64 0)))=some (true,.ref (.vp 7 e i 0)) from ?_) (.c (show loadD Tryz.prog [.vec (vecI fs) 0 1,.gone,.var [rowsD' (List.map EdgT.row es),.ref (.vec 0 0),rowsD' A],.var [int to],.var [.ref (.vec 6 0)],.vec [[int (-1)]] 0 1,.vec (vecI by') 0 1,.vec (vecI l) e 1,.var [.ref (.vs 7 e i n false)]] 3 (.ref (.vp 7 e i 0))=some (int v) from ?_) (.c (show sliceD Tryz.prog [.vec (vecI fs) 0 1,.gone,.var [rowsD' (List.map EdgT.row es),.ref (.vec 0 0),rowsD' A],.var [int to],.var [.ref (.vec 6 0)],.vec [[int (-1)]] 0 1,.vec (vecI by') 0 1,.vec (vecI l) e 1,.var [.ref (.vs 7 e i n false)]] 34 (.ref (.vs 7 e i n false)) (Option.map (evalD Γ0 (mkT 59 0 [(0,.ref (.ptr 2 0)),(5,.ref (.ptr 3 0)),(6,.ref (.ptr 4 0)),(7,.ref (.ptr 8 0)),(8,int v),(29,.ref (.vs 7 e i n false)),(30,int (↑n:Int)),(31,bool (Dd ((↑n:Int)>0))),(32,.ref (.vs 7 e i n false)),(33,.ref (.vp 7 e i 0)),(34,int v),(35,.ref (.vs 7 e i n false))])) (some (Operand.const (Value.int IntKind.i64 1)))) none none=some (true,.ref (.vs 7 e (i+1) (n - 1) false)) from ?_) (.c hl0 .n))))))) (by rfl) (by rfl)<;>(first|assumption|rfl|exact vs_len rfl|exact vs_ia rfl hn0|exact vg_load rfl hv|exact vs_sl rfl hn0 hin)
theorem sh_vsx{es:List EdgT}{A:List (List Dp)}{fs by' by2 l l2:List Int}{v to:Int}{e e2 i n:Nat}{Q2:D}(hn:Dd ((n:Int)>0)=true)(hn0:0<n)(hin:i+n=l.length)(hv:l[i]? = some v)
  (hcw:CW Tryz.prog Γ0 (sH es A fs to by' l e (.ref (.vs 7 e i n false))) false (sub Tryz.f69 1) {t:=usT v,h:=ubH0 es A fs v to by' l e (.ref (.vs 7 e (i+1) (n - 1) false)),m:=[]} (.exit 0) {t:=usT v,h:=ubH es A fs v to by2 l2 e2 Q2 .exhausted (some (.exit 0)),m:=[11]}):(CW Tryz.prog Γ0 (sH es A fs to by' l e (.ref (.vs 7 e i n false))) false (sub Tryz.f69 0) (sS es A fs to by' l e (.ref (.vs 7 e i n false))) (.exit 0) {t:=sT,h:=ubH es A fs v to by2 l2 e2 Q2 .exhausted (some (.exit 0)),m:=[11]}):=by
 have hl0:=(@hcw)
 refine CW.cast (CW.symX (s':={t:=mkT 59 0 [(0,.ref (.ptr 2 0)),(5,.ref (.ptr 3 0)),(6,.ref (.ptr 4 0)),(7,.ref (.ptr 8 0))],h:=[.vec (vecI fs) 0 1,.gone,.var [rowsD' (List.map EdgT.row es),.ref (.vec 0 0),rowsD' A],.var [int to],.var [.ref (.vec 6 0)],.vec [[int (-1)]] 0 1,.vec (vecI by2) 0 1,.vec (vecI l2) e2 1,.var [Q2],.var [.ref (.ptr 2 0)],.var [int v],.defd,.loop LoopState.exhausted (some (Code.exit 0)) 0 (mkT 59 0 [(0,.ref (.ptr 2 0)),(5,.ref (.ptr 3 0)),(6,.ref (.ptr 4 0)),(7,.ref (.ptr 8 0)),(8,int v),(39,D.fn (Fn.func 136) [] [.ref (.ptr 9 0),.ref (.ptr 10 0)])]) {toList:=[40,41]} (rfAsg (sub Tryz.f69 1)) (rfBody (sub Tryz.f69 1))],m:=[11]}) (e:=Exit.exit 0) pok [.st (.mask [0,5,6,7])] [.ov 30 (int (↑n:Int)),.b true,.ov 33 (.ref (.vp 7 e i 0)),.ov 34 (int v),.ov 36 (.ref (.vs 7 e (i+1) (n - 1) false)),.inl,.sum [0,5,6,7,8,39] (Exit.exit 0) {t:=mkT 59 0 [(0,.ref (.ptr 2 0)),(5,.ref (.ptr 3 0)),(6,.ref (.ptr 4 0)),(7,.ref (.ptr 8 0)),(8,int v),(39,D.fn (Fn.func 136) [] [.ref (.ptr 9 0),.ref (.ptr 10 0)])],h:=[.vec (vecI fs) 0 1,.gone,.var [rowsD' (List.map EdgT.row es),.ref (.vec 0 0),rowsD' A],.var [int to],.var [.ref (.vec 6 0)],.vec [[int (-1)]] 0 1,.vec (vecI by2) 0 1,.vec (vecI l2) e2 1,.var [Q2],.var [.ref (.ptr 2 0)],.var [int v],.defd,.loop LoopState.exhausted (some (Code.exit 0)) 0 (mkT 59 0 [(0,.ref (.ptr 2 0)),(5,.ref (.ptr 3 0)),(6,.ref (.ptr 4 0)),(7,.ref (.ptr 8 0)),(8,int v),(39,D.fn (Fn.func 136) [] [.ref (.ptr 9 0),.ref (.ptr 10 0)])]) {toList:=[40,41]} (rfAsg (sub Tryz.f69 1)) (rfBody (sub Tryz.f69 1))],m:=[11]}] (by kernel_rfl) (.c (show builtinD Tryz.prog [.vec (vecI fs) 0 1,.gone,.var [rowsD' (List.map EdgT.row es),.ref (.vec 0 0),rowsD' A],.var [int to],.var [.ref (.vec 6 0)],.vec [[int (-1)]] 0 1,.vec (vecI by') 0 1,.vec (vecI l) e 1,.var [.ref (.vs 7 e i n false)]] Builtin.len [34] (List.map (evalD Γ0 (mkT 59 0 [(0,.ref (.ptr 2 0)),(5,.ref (.ptr 3 0)),(6,.ref (.ptr 4 0)),(7,.ref (.ptr 8 0)),(29,.ref (.vs 7 e i n false))])) [Operand.tmp 29])=some (true,int (↑n:Int),[.vec (vecI fs) 0 1,.gone,.var [rowsD' (List.map EdgT.row es),.ref (.vec 0 0),rowsD' A],.var [int to],.var [.ref (.vec 6 0)],.vec [[int (-1)]] 0 1,.vec (vecI by') 0 1,.vec (vecI l) e 1,.var [.ref (.vs 7 e i n false)]]) from ?_) (.c hn (.c (show indexAddrD Tryz.prog [.vec (vecI fs) 0 1,.gone,.var [rowsD' (List.map EdgT.row es),.ref (.vec 0 0),rowsD' A],.var [int to],.var [.ref (.vec 6 0)],.vec [[int (-1)]] 0 1,.vec (vecI by') 0 1,.vec (vecI l) e 1,.var [.ref (.vs 7 e i n false)]] 34 (.ref (.vs 7 e i n false)) (evalD Γ0 (mkT 59 0 [(0,.ref (.ptr 2 0)),(5,.ref (.ptr 3 0)),(6,.ref (.ptr 4 0)),(7,.ref (.ptr 8 0)),(29,.ref (.vs 7 e i n false)),(30,int (↑n:Int)),(31,bool (Dd ((↑n:Int)>0))),(32,.ref (.vs 7 e i n false))]) (Operand.const (Value.int IntKind.i64 0)))=some (true,.ref (.vp 7 e i 0)) from ?_) (.c (show loadD Tryz.prog [.vec (vecI fs) 0 1,.gone,.var [rowsD' (List.map EdgT.row es),.ref (.vec 0 0),rowsD' A],.var [int to],.var [.ref (.vec 6 0)],.vec [[int (-1)]] 0 1,.vec (vecI by') 0 1,.vec (vecI l) e 1,.var [.ref (.vs 7 e i n false)]] 3 (.ref (.vp 7 e i 0))=some (int v) from ?_) (.c (show sliceD Tryz.prog [.vec (vecI fs) 0 1,.gone,.var [rowsD' (List.map EdgT.row es),.ref (.vec 0 0),rowsD' A],.var [int to],.var [.ref (.vec 6 0)],.vec [[int (-1)]] 0 1,.vec (vecI by') 0 1,.vec (vecI l) e 1,.var [.ref (.vs 7 e i n false)]] 34 (.ref (.vs 7 e i n false)) (Option.map (evalD Γ0 (mkT 59 0 [(0,.ref (.ptr 2 0)),(5,.ref (.ptr 3 0)),(6,.ref (.ptr 4 0)),(7,.ref (.ptr 8 0)),(8,int v),(29,.ref (.vs 7 e i n false)),(30,int (↑n:Int)),(31,bool (Dd ((↑n:Int)>0))),(32,.ref (.vs 7 e i n false)),(33,.ref (.vp 7 e i 0)),(34,int v),(35,.ref (.vs 7 e i n false))])) (some (Operand.const (Value.int IntKind.i64 1)))) none none=some (true,.ref (.vs 7 e (i+1) (n - 1) false)) from ?_) (.c hl0 .n))))))) (by rfl) (by rfl)<;>(first|assumption|rfl|exact vs_len rfl|exact vs_ia rfl hn0|exact vg_load rfl hv|exact vs_sl rfl hn0 hin)
theorem sh_vg{es:List EdgT}{A:List (List Dp)}{fs by' by2 l l2:List Int}{v to:Int}{e e2:Nat}{Q2:D}(hn:Dd ((l.length:Int)>0)=true)(hn0:0<l.length)(hv:l[0]? = some v)
  (hcw:CW Tryz.prog Γ0 (sH es A fs to by' l e (.ref (.vec 7 e))) false (sub Tryz.f69 1) {t:=usT v,h:=ubH0 es A fs v to by' l e (.ref (.vs 7 e 1 (l.length - 1) false)),m:=[]} .normal {t:=usT v,h:=ubH es A fs v to by2 l2 e2 Q2 .exhausted none,m:=[11]}):(CW Tryz.prog Γ0 (sH es A fs to by' l e (.ref (.vec 7 e))) false (sub Tryz.f69 0) (sS es A fs to by' l e (.ref (.vec 7 e))) .normal {t:=sT,h:=ubH es A fs v to by2 l2 e2 Q2 .exhausted none,m:=[11]}):=by
 have hl0:=(@hcw)
 refine CW.cast (CW.symX (s':={t:=mkT 59 0 [(0,.ref (.ptr 2 0)),(5,.ref (.ptr 3 0)),(6,.ref (.ptr 4 0)),(7,.ref (.ptr 8 0))],h:=[.vec (vecI fs) 0 1,.gone,.var [rowsD' (List.map EdgT.row es),.ref (.vec 0 0),rowsD' A],.var [int to],.var [.ref (.vec 6 0)],.vec [[int (-1)]] 0 1,.vec (vecI by2) 0 1,.vec (vecI l2) e2 1,.var [Q2],.var [.ref (.ptr 2 0)],.var [int v],.defd,.loop LoopState.exhausted none 0 (mkT 59 0 [(0,.ref (.ptr 2 0)),(5,.ref (.ptr 3 0)),(6,.ref (.ptr 4 0)),(7,.ref (.ptr 8 0)),(8,int v),(39,D.fn (Fn.func 136) [] [.ref (.ptr 9 0),.ref (.ptr 10 0)])]) {toList:=[40,41]} (rfAsg (sub Tryz.f69 1)) (rfBody (sub Tryz.f69 1))],m:=[11]}) (e:=Exit.normal) pok [.st (.mask [0,5,6,7])] [.ov 30 (int (↑(List.length l):Int)),.b true,.ov 33 (.ref (.vp 7 e 0 0)),.ov 34 (int v),.ov 36 (.ref (.vs 7 e 1 (List.length l - 1) false)),.inl,.sum [0,5,6,7,8,39] (Exit.normal) {t:=mkT 59 0 [(0,.ref (.ptr 2 0)),(5,.ref (.ptr 3 0)),(6,.ref (.ptr 4 0)),(7,.ref (.ptr 8 0)),(8,int v),(39,D.fn (Fn.func 136) [] [.ref (.ptr 9 0),.ref (.ptr 10 0)])],h:=[.vec (vecI fs) 0 1,.gone,.var [rowsD' (List.map EdgT.row es),.ref (.vec 0 0),rowsD' A],.var [int to],.var [.ref (.vec 6 0)],.vec [[int (-1)]] 0 1,.vec (vecI by2) 0 1,.vec (vecI l2) e2 1,.var [Q2],.var [.ref (.ptr 2 0)],.var [int v],.defd,.loop LoopState.exhausted none 0 (mkT 59 0 [(0,.ref (.ptr 2 0)),(5,.ref (.ptr 3 0)),(6,.ref (.ptr 4 0)),(7,.ref (.ptr 8 0)),(8,int v),(39,D.fn (Fn.func 136) [] [.ref (.ptr 9 0),.ref (.ptr 10 0)])]) {toList:=[40,41]} (rfAsg (sub Tryz.f69 1)) (rfBody (sub Tryz.f69 1))],m:=[11]}] (by kernel_rfl) (.c (show builtinD Tryz.prog [.vec (vecI fs) 0 1,.gone,.var [rowsD' (List.map EdgT.row es),.ref (.vec 0 0),rowsD' A],.var [int to],.var [.ref (.vec 6 0)],.vec [[int (-1)]] 0 1,.vec (vecI by') 0 1,.vec (vecI l) e 1,.var [.ref (.vec 7 e)]] Builtin.len [34] (List.map (evalD Γ0 (mkT 59 0 [(0,.ref (.ptr 2 0)),(5,.ref (.ptr 3 0)),(6,.ref (.ptr 4 0)),(7,.ref (.ptr 8 0)),(29,.ref (.vec 7 e))])) [Operand.tmp 29])=some (true,int (↑(List.length l):Int),[.vec (vecI fs) 0 1,.gone,.var [rowsD' (List.map EdgT.row es),.ref (.vec 0 0),rowsD' A],.var [int to],.var [.ref (.vec 6 0)],.vec [[int (-1)]] 0 1,.vec (vecI by') 0 1,.vec (vecI l) e 1,.var [.ref (.vec 7 e)]]) from ?_) (.c hn (.c (show indexAddrD Tryz.prog [.vec (vecI fs) 0 1,.gone,.var [rowsD' (List.map EdgT.row es),.ref (.vec 0 0),rowsD' A],.var [int to],.var [.ref (.vec 6 0)],.vec [[int (-1)]] 0 1,.vec (vecI by') 0 1,.vec (vecI l) e 1,.var [.ref (.vec 7 e)]] 34 (.ref (.vec 7 e)) (evalD Γ0 (mkT 59 0 [(0,.ref (.ptr 2 0)),(5,.ref (.ptr 3 0)),(6,.ref (.ptr 4 0)),(7,.ref (.ptr 8 0)),(29,.ref (.vec 7 e)),(30,int (↑(List.length l):Int)),(31,bool (Dd ((↑(List.length l):Int)>0))),(32,.ref (.vec 7 e))]) (Operand.const (Value.int IntKind.i64 0)))=some (true,.ref (.vp 7 e 0 0)) from ?_) (.c (show loadD Tryz.prog [.vec (vecI fs) 0 1,.gone,.var [rowsD' (List.map EdgT.row es),.ref (.vec 0 0),rowsD' A],.var [int to],.var [.ref (.vec 6 0)],.vec [[int (-1)]] 0 1,.vec (vecI by') 0 1,.vec (vecI l) e 1,.var [.ref (.vec 7 e)]] 3 (.ref (.vp 7 e 0 0))=some (int v) from ?_) (.c (show sliceD Tryz.prog [.vec (vecI fs) 0 1,.gone,.var [rowsD' (List.map EdgT.row es),.ref (.vec 0 0),rowsD' A],.var [int to],.var [.ref (.vec 6 0)],.vec [[int (-1)]] 0 1,.vec (vecI by') 0 1,.vec (vecI l) e 1,.var [.ref (.vec 7 e)]] 34 (.ref (.vec 7 e)) (Option.map (evalD Γ0 (mkT 59 0 [(0,.ref (.ptr 2 0)),(5,.ref (.ptr 3 0)),(6,.ref (.ptr 4 0)),(7,.ref (.ptr 8 0)),(8,int v),(29,.ref (.vec 7 e)),(30,int (↑(List.length l):Int)),(31,bool (Dd ((↑(List.length l):Int)>0))),(32,.ref (.vec 7 e)),(33,.ref (.vp 7 e 0 0)),(34,int v),(35,.ref (.vec 7 e))])) (some (Operand.const (Value.int IntKind.i64 1)))) none none=some (true,.ref (.vs 7 e 1 (List.length l - 1) false)) from ?_) (.c hl0 .n))))))) (by rfl) (by rfl)<;>(first|assumption|rfl|exact vg_len rfl|exact vg_ia rfl hn0|exact vg_load rfl hv|exact vg_sl rfl hn0)
theorem sh_vgx{es:List EdgT}{A:List (List Dp)}{fs by' by2 l l2:List Int}{v to:Int}{e e2:Nat}{Q2:D}(hn:Dd ((l.length:Int)>0)=true)(hn0:0<l.length)(hv:l[0]? = some v)
  (hcw:CW Tryz.prog Γ0 (sH es A fs to by' l e (.ref (.vec 7 e))) false (sub Tryz.f69 1) {t:=usT v,h:=ubH0 es A fs v to by' l e (.ref (.vs 7 e 1 (l.length - 1) false)),m:=[]} (.exit 0) {t:=usT v,h:=ubH es A fs v to by2 l2 e2 Q2 .exhausted (some (.exit 0)),m:=[11]}):(CW Tryz.prog Γ0 (sH es A fs to by' l e (.ref (.vec 7 e))) false (sub Tryz.f69 0) (sS es A fs to by' l e (.ref (.vec 7 e))) (.exit 0) {t:=sT,h:=ubH es A fs v to by2 l2 e2 Q2 .exhausted (some (.exit 0)),m:=[11]}):=by
 have hl0:=(@hcw)
 refine CW.cast (CW.symX (s':={t:=mkT 59 0 [(0,.ref (.ptr 2 0)),(5,.ref (.ptr 3 0)),(6,.ref (.ptr 4 0)),(7,.ref (.ptr 8 0))],h:=[.vec (vecI fs) 0 1,.gone,.var [rowsD' (List.map EdgT.row es),.ref (.vec 0 0),rowsD' A],.var [int to],.var [.ref (.vec 6 0)],.vec [[int (-1)]] 0 1,.vec (vecI by2) 0 1,.vec (vecI l2) e2 1,.var [Q2],.var [.ref (.ptr 2 0)],.var [int v],.defd,.loop LoopState.exhausted (some (Code.exit 0)) 0 (mkT 59 0 [(0,.ref (.ptr 2 0)),(5,.ref (.ptr 3 0)),(6,.ref (.ptr 4 0)),(7,.ref (.ptr 8 0)),(8,int v),(39,D.fn (Fn.func 136) [] [.ref (.ptr 9 0),.ref (.ptr 10 0)])]) {toList:=[40,41]} (rfAsg (sub Tryz.f69 1)) (rfBody (sub Tryz.f69 1))],m:=[11]}) (e:=Exit.exit 0) pok [.st (.mask [0,5,6,7])] [.ov 30 (int (↑(List.length l):Int)),.b true,.ov 33 (.ref (.vp 7 e 0 0)),.ov 34 (int v),.ov 36 (.ref (.vs 7 e 1 (List.length l - 1) false)),.inl,.sum [0,5,6,7,8,39] (Exit.exit 0) {t:=mkT 59 0 [(0,.ref (.ptr 2 0)),(5,.ref (.ptr 3 0)),(6,.ref (.ptr 4 0)),(7,.ref (.ptr 8 0)),(8,int v),(39,D.fn (Fn.func 136) [] [.ref (.ptr 9 0),.ref (.ptr 10 0)])],h:=[.vec (vecI fs) 0 1,.gone,.var [rowsD' (List.map EdgT.row es),.ref (.vec 0 0),rowsD' A],.var [int to],.var [.ref (.vec 6 0)],.vec [[int (-1)]] 0 1,.vec (vecI by2) 0 1,.vec (vecI l2) e2 1,.var [Q2],.var [.ref (.ptr 2 0)],.var [int v],.defd,.loop LoopState.exhausted (some (Code.exit 0)) 0 (mkT 59 0 [(0,.ref (.ptr 2 0)),(5,.ref (.ptr 3 0)),(6,.ref (.ptr 4 0)),(7,.ref (.ptr 8 0)),(8,int v),(39,D.fn (Fn.func 136) [] [.ref (.ptr 9 0),.ref (.ptr 10 0)])]) {toList:=[40,41]} (rfAsg (sub Tryz.f69 1)) (rfBody (sub Tryz.f69 1))],m:=[11]}] (by kernel_rfl) (.c (show builtinD Tryz.prog [.vec (vecI fs) 0 1,.gone,.var [rowsD' (List.map EdgT.row es),.ref (.vec 0 0),rowsD' A],.var [int to],.var [.ref (.vec 6 0)],.vec [[int (-1)]] 0 1,.vec (vecI by') 0 1,.vec (vecI l) e 1,.var [.ref (.vec 7 e)]] Builtin.len [34] (List.map (evalD Γ0 (mkT 59 0 [(0,.ref (.ptr 2 0)),(5,.ref (.ptr 3 0)),(6,.ref (.ptr 4 0)),(7,.ref (.ptr 8 0)),(29,.ref (.vec 7 e))])) [Operand.tmp 29])=some (true,int (↑(List.length l):Int),[.vec (vecI fs) 0 1,.gone,.var [rowsD' (List.map EdgT.row es),.ref (.vec 0 0),rowsD' A],.var [int to],.var [.ref (.vec 6 0)],.vec [[int (-1)]] 0 1,.vec (vecI by') 0 1,.vec (vecI l) e 1,.var [.ref (.vec 7 e)]]) from ?_) (.c hn (.c (show indexAddrD Tryz.prog [.vec (vecI fs) 0 1,.gone,.var [rowsD' (List.map EdgT.row es),.ref (.vec 0 0),rowsD' A],.var [int to],.var [.ref (.vec 6 0)],.vec [[int (-1)]] 0 1,.vec (vecI by') 0 1,.vec (vecI l) e 1,.var [.ref (.vec 7 e)]] 34 (.ref (.vec 7 e)) (evalD Γ0 (mkT 59 0 [(0,.ref (.ptr 2 0)),(5,.ref (.ptr 3 0)),(6,.ref (.ptr 4 0)),(7,.ref (.ptr 8 0)),(29,.ref (.vec 7 e)),(30,int (↑(List.length l):Int)),(31,bool (Dd ((↑(List.length l):Int)>0))),(32,.ref (.vec 7 e))]) (Operand.const (Value.int IntKind.i64 0)))=some (true,.ref (.vp 7 e 0 0)) from ?_) (.c (show loadD Tryz.prog [.vec (vecI fs) 0 1,.gone,.var [rowsD' (List.map EdgT.row es),.ref (.vec 0 0),rowsD' A],.var [int to],.var [.ref (.vec 6 0)],.vec [[int (-1)]] 0 1,.vec (vecI by') 0 1,.vec (vecI l) e 1,.var [.ref (.vec 7 e)]] 3 (.ref (.vp 7 e 0 0))=some (int v) from ?_) (.c (show sliceD Tryz.prog [.vec (vecI fs) 0 1,.gone,.var [rowsD' (List.map EdgT.row es),.ref (.vec 0 0),rowsD' A],.var [int to],.var [.ref (.vec 6 0)],.vec [[int (-1)]] 0 1,.vec (vecI by') 0 1,.vec (vecI l) e 1,.var [.ref (.vec 7 e)]] 34 (.ref (.vec 7 e)) (Option.map (evalD Γ0 (mkT 59 0 [(0,.ref (.ptr 2 0)),(5,.ref (.ptr 3 0)),(6,.ref (.ptr 4 0)),(7,.ref (.ptr 8 0)),(8,int v),(29,.ref (.vec 7 e)),(30,int (↑(List.length l):Int)),(31,bool (Dd ((↑(List.length l):Int)>0))),(32,.ref (.vec 7 e)),(33,.ref (.vp 7 e 0 0)),(34,int v),(35,.ref (.vec 7 e))])) (some (Operand.const (Value.int IntKind.i64 1)))) none none=some (true,.ref (.vs 7 e 1 (List.length l - 1) false)) from ?_) (.c hl0 .n))))))) (by rfl) (by rfl)<;>(first|assumption|rfl|exact vg_len rfl|exact vg_ia rfl hn0|exact vg_load rfl hv|exact vg_sl rfl hn0)
def cS:Code→Code
 | .scope c=>c
 | c=>c
theorem vecI_rep(n:Nat):List.replicate n [int (-1)]=vecI (List.replicate n (-1)):=by simp[vecI]
theorem rept_ev{n:Nat}(h1:2≤n)(hn:n≤18):Ev Tryz.prog Γ0 105 [.ref (.vec 0 0),int (n:Int)] [.vec [[int (-1)]] 0 1] (.ref (.vec 1 0)) [.vec [[int (-1)]] 0 1,.vec (vecI (List.replicate n (-1))) 0 1]:=by
 rw[←vecI_rep];exact rep_a h1 hn
abbrev qT(frm:Int):List D:=mkT 59 0 [(0,.ref (.ptr 2 0)),(1,int frm),(5,.ref (.ptr 3 0)),(6,.ref (.ptr 4 0))]
theorem sr_0{es:List EdgT}{A:List (List Dp)}{fs:List Int}{frm to:Int}:(CW Tryz.prog Γ0 (fwH es A fs) false (cL (bodyC Tryz.f69)) {t:=entryT Tryz.f69 [.ref (.ptr 2 0),int frm,int to],h:=fwH es A fs,m:=[]} .normal
  {t:=qT frm,h:=fwH es A fs++[.var [int to],.var [nq]],m:=[]}):=by
 exact CW.cast (CW.symX (s':={t:=mkT 59 0 [(0,.ref (.ptr 2 0)),(1,int frm),(5,.ref (.ptr 3 0)),(6,.ref (.ptr 4 0))],h:=[.vec (vecI fs) 0 1,.gone,.var [rowsD' (List.map EdgT.row es),.ref (.vec 0 0),rowsD' A],.var [int to],.var [nq]],m:=[]}) (e:=Exit.normal) pok [.st (.mask [0,1,5,6])] [] (by kernel_rfl) .n) (by rfl) (by rfl)
theorem sr_1{es:List EdgT}{A:List (List Dp)}{fs:List Int}{frm to:Int}(h1:2≤A.length)(hn:A.length≤18):(CW Tryz.prog Γ0 (fwH es A fs++[.var [int to],.var [nq]]) false (cL (cS (cR (bodyC Tryz.f69)))) {t:=qT frm,h:=fwH es A fs++[.var [int to],.var [nq]],m:=[]} .normal
  {t:=qT frm,h:=fwH es A fs++[.var [int to],.var [.ref (.vec 6 0)],.vec [[int (-1)]] 0 1,.vec (vecI (List.replicate A.length (-1))) 0 1],m:=[]}):=by
 refine CW.cast (CW.symX (s':={t:=mkT 59 0 [(0,.ref (.ptr 2 0)),(1,int frm),(5,.ref (.ptr 3 0)),(6,.ref (.ptr 4 0))],h:=[.vec (vecI fs) 0 1,.gone,.var [rowsD' (List.map EdgT.row es),.ref (.vec 0 0),rowsD' A],.var [int to],.var [.ref (.vec 6 0)],.vec [[int (-1)]] 0 1,.vec (vecI (List.replicate (List.length A) (-1))) 0 1],m:=[]}) (e:=Exit.normal) pok [.st (.mask [0,1,5,6])] [.call (.ref (.vec 6 0)) [.vec (vecI fs) 0 1,.gone,.var [rowsD' (List.map EdgT.row es),.ref (.vec 0 0),rowsD' A],.var [int to],.var [nq],.vec [[int (-1)]] 0 1,.vec (vecI (List.replicate (List.length A) (-1))) 0 1]] (by kernel_rfl) (.c (show Ev Tryz.prog Γ0 105 [.ref (.vec 5 0),int (↑(List.length A):Int)] [.vec (vecI fs) 0 1,.gone,.var [rowsD' (List.map EdgT.row es),.ref (.vec 0 0),rowsD' A],.var [int to],.var [nq],.vec [[int (-1)]] 0 1] (.ref (.vec 6 0)) [.vec (vecI fs) 0 1,.gone,.var [rowsD' (List.map EdgT.row es),.ref (.vec 0 0),rowsD' A],.var [int to],.var [nq],.vec [[int (-1)]] 0 1,.vec (vecI (List.replicate (List.length A) (-1))) 0 1] from(Ev.castH (Ev.frameX (args:=[.ref (.vec 5 0),int (↑(List.length A):Int)]) (H:=[.vec (vecI fs) 0 1,.gone,.var [rowsD' (List.map EdgT.row es),.ref (.vec 0 0),rowsD' A],.var [int to],.var [nq],.vec [[int (-1)]] 0 1]) [5] (@rept_ev (List.length A) (h1) (hn)) (by kernel_rfl) (by kernel_rfl) (by kernel_rfl) ⟨?_,trivial⟩ ⟨?_,?_,trivial⟩) (by kernel_rfl) (by kernel_rfl))) .n)) (by rfl) (by rfl)<;>(first|rfl|exact mapRL_rows _ _|first|assumption|rfl|exact vecI_map _ _|exact vecI_inn _ _)
theorem sr_2{es:List EdgT}{A:List (List Dp)}{fs by':List Int}{frm to x:Int}(h0:0≤frm)(hx:by'[frm.toNat]? = some x):(CW Tryz.prog Γ0 (fwH es A fs++[.var [int to],.var [.ref (.vec 6 0)],.vec [[int (-1)]] 0 1,.vec (vecI by') 0 1]) false (cL (cR (cS (cR (bodyC Tryz.f69))))) {t:=qT frm,h:=fwH es A fs++[.var [int to],.var [.ref (.vec 6 0)],.vec [[int (-1)]] 0 1,.vec (vecI by') 0 1],m:=[]} .normal
  {t:=qT frm,h:=fwH es A fs++[.var [int to],.var [.ref (.vec 6 0)],.vec [[int (-1)]] 0 1,.vec (vecI (by'.set frm.toNat (IntKind.i64.wrap (((es.map EdgT.row).length:Int)*2)))) 0 1],m:=[]}):=by
 refine CW.cast (CW.symX (s':={t:=mkT 59 0 [(0,.ref (.ptr 2 0)),(1,int frm),(5,.ref (.ptr 3 0)),(6,.ref (.ptr 4 0))],h:=[.vec (vecI fs) 0 1,.gone,.var [rowsD' (List.map EdgT.row es),.ref (.vec 0 0),rowsD' A],.var [int to],.var [.ref (.vec 6 0)],.vec [[int (-1)]] 0 1,.vec (vecI (List.set by' (Int.toNat frm) (IntKind.wrap IntKind.i64 ((↑(List.length (List.map EdgT.row es)):Int)*2)))) 0 1],m:=[]}) (e:=Exit.normal) pok [.st (.mask [0,1,5,6])] [.oh 10026 D.any (fwH es A fs++[.var [int to],.var [.ref (.vec 6 0)],.vec [[int (-1)]] 0 1,.vec (vecI (List.set by' (Int.toNat frm) (IntKind.wrap IntKind.i64 ((↑(List.length (List.map EdgT.row es)):Int)*2)))) 0 1])] (by kernel_rfl) (.c (show inR frm (List.length (vecI by'))=true from ?_) (.c (show storeD Tryz.prog [.vec (vecI fs) 0 1,.gone,.var [rowsD' (List.map EdgT.row es),.ref (.vec 0 0),rowsD' A],.var [int to],.var [.ref (.vec 6 0)],.vec [[int (-1)]] 0 1,.vec (vecI by') 0 1] 3 (.ref (.vp 6 0 (Int.toNat frm) 0)) (int (IntKind.wrap IntKind.i64 ((↑(List.length (List.map EdgT.row es)):Int)*2)))=some [.vec (vecI fs) 0 1,.gone,.var [rowsD' (List.map EdgT.row es),.ref (.vec 0 0),rowsD' A],.var [int to],.var [.ref (.vec 6 0)],.vec [[int (-1)]] 0 1,.vec (vecI (List.set by' (Int.toNat frm) (IntKind.wrap IntKind.i64 ((↑(List.length (List.map EdgT.row es)):Int)*2)))) 0 1] from ?_) (.e (.ref (.vec 6 0)) (.e (.ref (.ptr 2 0)) (.e (.ref (.ptr 2 0)) (.e (rowsD' (List.map EdgT.row es)) (.c (show inR frm (List.length (vecI by'))=true from ?_) (.e (.ref (.vp 6 0 (Int.toNat frm) 0)) .n))))))))) (by rfl) (by rfl)<;>(first|assumption|rfl|exact vg_in h0 hx|exact vg_store rfl (vg_lt hx)|exact vecI_map _ _|exact vecI_inn _ _)
theorem sr_3{es:List EdgT}{A:List (List Dp)}{fs by':List Int}{frm to:Int}:(CW Tryz.prog Γ0 (fwH es A fs++[.var [int to],.var [.ref (.vec 6 0)],.vec [[int (-1)]] 0 1,.vec (vecI by') 0 1]) false (cL (cR (cR (cS (cR (bodyC Tryz.f69)))))) {t:=qT frm,h:=fwH es A fs++[.var [int to],.var [.ref (.vec 6 0)],.vec [[int (-1)]] 0 1,.vec (vecI by') 0 1],m:=[]} .normal
  (sS es A fs to by' [frm] 0 (.ref (.vec 7 0)))):=by
 exact CW.cast (CW.symX (s':={t:=mkT 59 0 [(0,.ref (.ptr 2 0)),(5,.ref (.ptr 3 0)),(6,.ref (.ptr 4 0)),(7,.ref (.ptr 8 0))],h:=[.vec (vecI fs) 0 1,.gone,.var [rowsD' (List.map EdgT.row es),.ref (.vec 0 0),rowsD' A],.var [int to],.var [.ref (.vec 6 0)],.vec [[int (-1)]] 0 1,.vec (vecI by') 0 1,.vec [[int frm]] 0 1,.var [.ref (.vec 7 0)]],m:=[]}) (e:=Exit.normal) pok [.st (.mask [0,5,6,7])] [] (by kernel_rfl) .n) (by rfl) (by rfl)
theorem sr_4{es:List EdgT}{A:List (List Dp)}{fs by' l:List Int}{to:Int}{e:Nat}{Q:D}:(CW Tryz.prog Γ0 (sH es A fs to by' l e Q) false (cR (cR (cR (cR (cR (cS (cR (bodyC Tryz.f69)))))))) (sS es A fs to by' l e Q) .ret (sS es A fs to by' l e Q)):=by
 exact CW.cast (CW.symX (s':={t:=mkT 59 0 [(0,.ref (.ptr 2 0)),(5,.ref (.ptr 3 0)),(6,.ref (.ptr 4 0)),(7,.ref (.ptr 8 0))],h:=[.vec (vecI fs) 0 1,.gone,.var [rowsD' (List.map EdgT.row es),.ref (.vec 0 0),rowsD' A],.var [int to],.var [.ref (.vec 6 0)],.vec [[int (-1)]] 0 1,.vec (vecI by') 0 1,.vec (vecI l) e 1,.var [Q]],m:=[]}) (e:=Exit.ret) pok [.st (.mask [0,5,6,7])] [] (by kernel_rfl) .n) (by rfl) (by rfl)
def QF.pop(q:QF):QF:=match q.vs with
 | true=>⟨true,q.e,q.i+1,q.l⟩
 | false=>⟨true,q.e,1,q.l⟩
theorem QF.pop_list{q:QF}{v:Int}{rest:List Int}(h:q.list=v::rest):q.pop.list=rest:=by
 obtain⟨vs,e,i,l⟩:=q
 cases vs with
 | true =>
  simp only[QF.list,QF.pop] at h ⊢
  rw[←List.drop_drop,h]
  rfl
 | false =>
  simp only[QF.list,QF.pop] at h ⊢
  rw[h]
  rfl
inductive Bfs (adj:List (List Int)) (es:List EdgT) (fs:List Int) (to:Int):Nat→List Int×QF→List Int×QF→Prop
 | done {s}:s.2.list=[]→Bfs adj es fs to 0 s s
 | stop {s v rest f}:s.2.list=v::rest→forL (usG es fs to) (adj.getD v.toNat []) (s.1,s.2.pop)=.inr f→Bfs adj es fs to 0 s f
 | step {s v rest s' f k}:s.2.list=v::rest→forL (usG es fs to) (adj.getD v.toNat []) (s.1,s.2.pop)=.inl s'→Bfs adj es fs to k s' f→Bfs adj es fs to (k+1) s f
def unm(l:List Int):Nat:=l.countP fun x=>Dd (x<0)
structure SOk (n:Nat) (s:List Int×QF):Prop where
 len:s.1.length=n
 i:s.2.vs=true→s.2.i≤s.2.l.length
 ne:s.2.vs=false→s.2.l ≠ []
 mem:∀v∈s.2.list,0≤v∧v.toNat<n
 sz:s.2.l.length+unm s.1≤n+1
theorem unm_set{l:List Int}{i:Nat}{r:Int}(hi:i<l.length)(hx:l.getD i 0<0)(hr:0≤r):unm (l.set i r)+1=unm l:=by
 have hg:l.getD i 0=l[i]:=by simp[List.getD,hi]
 rw[hg] at hx
 unfold unm
 rw[List.countP_set hi]
 have h1:Dd (l[i]<0)=true:=by simpa using hx
 have h2:Dd (r<0)=false:=by simpa using hr
 have h3:0<l.countP fun x=>Dd (x<0):=List.countP_pos_iff.2 ⟨l[i],List.getElem_mem hi,h1⟩
 simp only[h1,h2,if_true]
 simp only[Bool.false_eq_true,if_false]
 omega
theorem SOk.pop{n:Nat}{s:List Int×QF}(h:SOk n s){v:Int}{rest:List Int}(hv:s.2.list=v::rest):SOk n (s.1,s.2.pop):=by
 have hp:=QF.pop_list hv
 refine⟨h.len,?_,?_,?_,?_⟩
 ·intro _
  obtain⟨by',vs,e,i,l⟩:=s
  cases vs with
  | true =>
   have:=congrArg List.length hv
   simp only[QF.list,List.length_drop,List.length_cons] at this
   simp only[QF.pop];omega
  | false =>
   have:=congrArg List.length hv
   simp only[QF.list,List.length_cons] at this
   simp only[QF.pop];omega
 ·intro hf
  obtain⟨by',vs,e,i,l⟩:=s
  cases vs<;>simp[QF.pop] at hf
 ·intro u hu
  simp only[hp] at hu
  exact h.mem u (by rw[hv];exact List.mem_cons_of_mem _ hu)
 ·have:s.2.pop.l=s.2.l:=by
   obtain⟨by',vs,e,i,l⟩:=s
   cases vs<;>rfl
  simp only[this];exact h.sz
theorem SOk.usY{n:Nat}{to r u:Int}{s s':List Int×QF}(h:SOk n s)(hr:0≤r)(h0:0≤u)(hu:u.toNat<n)(hy:usY to r u s=.inl s'):SOk n s':=by
 unfold Vi.usY at hy
 split at hy
 ·cases hy;exact h
 ·rename_i hg
  split at hy
  ·cases hy
  ·cases hy
   have hx:s.1.getD u.toNat 0<0:=by simpa using hg
   have h1:=unm_set (by rw[h.len];exact hu) hx hr
   have h2:s.2.list.length≤s.2.l.length:=by
    obtain⟨by',vs,e,i,l⟩:=s
    cases vs<;>simp[QF.list]
   refine⟨by simpa using h.len,by simp[QF.push],by simp[QF.push],?_,?_⟩
   ·intro v hv
    simp only[QF.push,QF.list,List.mem_append,List.mem_singleton] at hv
    rcases hv with hv|rfl
    ·exact h.mem v hv
    ·exact⟨h0,hu⟩
   ·have h3:=h.sz
    simp only[QF.push,List.length_append,List.length_singleton]
    omega
theorem SOk.forL{es:List EdgT}{fs:List Int}{to:Int}{n:Nat}(hm:es.length≤1000)(hin:∀x∈es,EdgIn n x):∀(B:List Int) (s s':List Int×QF),(∀r∈B,ResOk es.length r)→SOk n s→forL (usG es fs to) B s=.inl s'→SOk n s'
 | [],s,s',_,h,hf=>by cases hf;exact h
 | r::B,s,s',hB,h,hf=>by
  simp only[Vi.forL] at hf
  have hr:=hB r (by simp)
  have he:=endA_in hr (by omega) hin
  split at hf
  ·rename_i s1 h1
   refine SOk.forL hm hin B s1 s' (fun x hx=>hB x (by simp[hx])) ?_ hf
   unfold usG at h1
   split at h1
   ·exact h.usY hr.1 he.1 he.2 h1
   ·cases h1;exact h
  ·cases hf
section
variable {es:List EdgT} {adj:List (List Int)} {fs:List Int} {to:Int} {n:Nat}
theorem sq_clean{A:List (List Dp)}{v:Int}{s:List Int×QF}{pd:Option Code}{X:Ctx}(hX:X.h=fwH es A fs){a:Act}{w:World}(hm:MB Γ0 X {t:=sT,h:=ubS es A fs v to s .exhausted pd,m:=[11]} a w):MB Γ0 X (sS es A fs to s.1 s.2.l s.2.e s.2.d) a w:=by
 have h1:=MB.drop (b:=11) rfl hm
 obtain⟨by',vs,e,i,l⟩:=s
 cases vs with
 | true=>exact MB.sop (o:=.trim 9) (φ:=[(vecI fs).all (D.innL 9)=true,([[int (-1)]]:List (List D)).all (D.innL 9)=true,(vecI by').all (D.innL 9)=true,(vecI l).all (D.innL 9)=true]) (by rw[hX];rfl) ⟨vecI_inn _ _,rfl,vecI_inn _ _,vecI_inn _ _,trivial⟩ h1
 | false=>exact MB.sop (o:=.trim 9) (φ:=[(vecI fs).all (D.innL 9)=true,([[int (-1)]]:List (List D)).all (D.innL 9)=true,(vecI by').all (D.innL 9)=true,(vecI l).all (D.innL 9)=true]) (by rw[hX];rfl) ⟨vecI_inn _ _,rfl,vecI_inn _ _,vecI_inn _ _,trivial⟩ h1
theorem sq_loop(hl:fs.length=es.length)(hm:es.length≤1000)(hn:n≤1000)(hin:∀x∈es,EdgIn n x)(ha:adj.length=n)(hB:∀B∈adj,(∀r∈B,ResOk es.length r)∧B.length≤10000){X:Ctx}(hX:X.h=fwH es (adjD adj) fs)
  {k:Nat} {s f:List Int×QF} (hf:Bfs adj es fs to k s f) (hs:SOk n s) :
  MW Tryz.prog Γ0 X (.loop (sub Tryz.f69 0)) (sS es (adjD adj) fs to s.1 s.2.l s.2.e s.2.d) (Det (.exit 0) (sS es (adjD adj) fs to f.1 f.2.l f.2.e f.2.d)):=by
 refine MW.loop (ι:=Nat×(List Int×QF)) (fun p=>sS es (adjD adj) fs to p.2.1 p.2.2.l p.2.2.e p.2.2.d) (fun _=>(.exit 0,sS es (adjD adj) fs to f.1 f.2.l f.2.e f.2.d)) (fun p=>p.1) (fun p=>Bfs adj es fs to p.1 p.2 f∧SOk n p.2) ?_ (k,s) ⟨hf,hs⟩
 rintro⟨k,s⟩ ⟨hf,hs⟩
 have key:∀{v:Int} {rest:List Int},s.2.list=v::rest→RowAt v (adjD adj) [.sl (inR1 (adj.getD v.toNat []))] 1∧(∀r∈adj.getD v.toNat [],ResOk es.length r)∧(adj.getD v.toNat []).length≤10000∧(s.1,s.2.pop).2.Ok 10000:=by
  intro v rest hv
  obtain⟨v0,v1⟩:=hs.mem v (by rw[hv];simp)
  have hg:adj[v.toNat]? = some (adj.getD v.toNat []):=by simp[List.getD,ha,v1]
  obtain⟨b1,b2⟩:=hB _ (List.mem_of_getElem? hg)
  have hr:=rowAt (row:=fun B:List Int=>[Dp.sl (rowsI B)]) (sz:=1) hg rfl
  rw[Int.toNat_of_nonneg v0] at hr
  have hp:=hs.pop hv
  exact⟨hr,b1,b2,hp.i,by have:=hp.sz;simp only at this ⊢;omega⟩
 cases hf with
 | done he =>
  refine .inr ⟨by simp,?_⟩
  obtain⟨by',vs,e,i,l⟩:=s
  cases vs with
  | true =>
   have h0:l.length - i=0:=by
    have:=congrArg List.length he
    simpa[QF.list] using this
   have:=sh_end (es:=es) (A:=adjD adj) (fs:=fs) (by':=by') (l:=l) (to:=to) (e:=e) (i:=i) (n:=l.length - i) (by simp[h0])
   exact MW.run this ⟨rfl,rfl⟩
  | false=>exact absurd he (hs.ne rfl)
 | stop hv hg =>
  rename_i v rest
  obtain⟨r1,r2,r3,r4⟩:=key hv
  refine .inr ⟨by simp,?_⟩
  have hcw:=us_rfr (A:=adjD adj) (s0:=(s.1,s.2.pop)) (h0:=sH es (adjD adj) fs to s.1 s.2.l s.2.e s.2.d) hl hm hin r1 r2 r3 hs.len r4 hg
  refine MW.then (e:=.exit 0) (s1:={t:=sT,h:=ubS es (adjD adj) fs v to f .exhausted (some (.exit 0)),m:=[11]}) ?_ (fun a w hmb=>sq_clean hX hmb) ⟨rfl,rfl⟩
  obtain⟨by',vs,e,i,l⟩:=s
  cases vs with
  | true =>
   simp only[QF.list] at hv
   have hlen:=congrArg List.length hv
   simp only[List.length_drop,List.length_cons] at hlen
   have hi:i≤l.length:=hs.i rfl
   have hv0:l[i]? = some v:=by
    have:=congrArg (fun x=>x[0]?) hv
    simpa using this
   exact MW.run (sh_vsx (i:=i) (l:=l) (n:=l.length - i) (by simp;omega) (by omega) (Nat.add_sub_cancel' hi) hv0 hcw) ⟨rfl,rfl⟩
  | false =>
   simp only[QF.list] at hv
   have hv0:l[0]? = some v:=by rw[hv];rfl
   have hlen:0<l.length:=by rw[hv];simp
   exact MW.run (sh_vgx (by simpa using hlen) hlen hv0 hcw) ⟨rfl,rfl⟩
 | step hv hg hk =>
  rename_i v rest s' k'
  obtain⟨r1,r2,r3,r4⟩:=key hv
  refine .inl ⟨(k',s'),⟨hk,SOk.forL hm hin _ _ _ r2 (hs.pop hv) hg⟩,by simp,rfl,?_⟩
  have hcw:=us_rfl (A:=adjD adj) (s0:=(s.1,s.2.pop)) (h0:=sH es (adjD adj) fs to s.1 s.2.l s.2.e s.2.d) hl hm hin r1 r2 r3 hs.len r4 hg
  refine MW.then (e:=.normal) (s1:={t:=sT,h:=ubS es (adjD adj) fs v to s' .exhausted none,m:=[11]}) ?_ (fun a w hmb=>sq_clean hX hmb) ⟨rfl,rfl⟩
  obtain⟨by',vs,e,i,l⟩:=s
  cases vs with
  | true =>
   simp only[QF.list] at hv
   have hlen:=congrArg List.length hv
   simp only[List.length_drop,List.length_cons] at hlen
   have hi:i≤l.length:=hs.i rfl
   have hv0:l[i]? = some v:=by
    have:=congrArg (fun x=>x[0]?) hv
    simpa using this
   exact MW.run (sh_vs (i:=i) (l:=l) (n:=l.length - i) (by simp;omega) (by omega) (Nat.add_sub_cancel' hi) hv0 hcw) ⟨rfl,rfl⟩
  | false =>
   simp only[QF.list] at hv
   have hv0:l[0]? = some v:=by rw[hv];rfl
   have hlen:0<l.length:=by rw[hv];simp
   exact MW.run (sh_vg (by simpa using hlen) hlen hv0 hcw) ⟨rfl,rfl⟩
end
theorem MW.label{P:Program}{Γ:Glob}{X:Ctx}{k:Nat}{s:AS}{Q:Exit→AS→Prop}(h:Q .normal s):MW P Γ X (.label k) s Q:=fun _ _ hs=>wpIn_label ⟨by simp,s,h,hs⟩
noncomputable abbrev cQ:Code:=cS (cR (bodyC Tryz.f69))
theorem f69_code:bodyC Tryz.f69=.seq (cL (bodyC Tryz.f69)) (.scope (.seq (cL cQ) (.seq (cL (cR cQ)) (.seq (cL (cR (cR cQ))) (.seq (.label 0) (.seq (.block 0 (.loop (sub Tryz.f69 0))) (cR (cR (cR (cR (cR cQ))))))))))):=by kernel_rfl
def by0(n m:Nat)(frm:Int):List Int:=(List.replicate n (-1)).set frm.toNat (IntKind.i64.wrap ((m:Int)*2))
theorem search_a{es:List EdgT}{adj:List (List Int)}{fs:List Int}{frm to:Int}{n:Nat}(hl:fs.length=es.length)(hm:es.length≤1000)(h2:2≤n)(hn:n≤18)(hin:∀x∈es,EdgIn n x)(ha:adj.length=n)(hB:∀B∈adj,(∀r∈B,ResOk es.length r)∧B.length≤10000)
  (hfr:0≤frm∧frm.toNat<n) {k:Nat} {f:List Int×QF} (hf:Bfs adj es fs to k (by0 n es.length frm,⟨false,0,0,[frm]⟩) f) :
  Ev Tryz.prog Γ0 69 [.ref (.ptr 2 0),int frm,int to] (fwH es (adjD adj) fs) (.ref (.vec 6 0)) (fwH es (adjD adj) fs++[.var [int to],.var [.ref (.vec 6 0)],.vec [[int (-1)]] 0 1,.vec (vecI f.1) 0 1]):=by
 have hA:(adjD adj).length=n:=by simpa using ha
 have hrep:(List.replicate (adjD adj).length (-1:Int))[frm.toNat]? = some (-1):=by
  rw[List.getElem?_replicate,if_pos (by rw[hA];exact hfr.2)]
 have hby:(List.replicate (adjD adj).length (-1:Int)).set frm.toNat (IntKind.i64.wrap (((es.map EdgT.row).length:Int)*2))=by0 n es.length frm:=by
  unfold by0;rw[hA,List.length_map]
 have hs0:SOk n (by0 n es.length frm,⟨false,0,0,[frm]⟩):=by
  refine⟨by simp[by0],by simp,by simp,?_,?_⟩
  ·intro v hv
   simp only[QF.list,List.mem_singleton] at hv
   subst hv;exact hfr
  ·have h1:unm (by0 n es.length frm)≤n:=by
    have:=List.countP_le_length (p:=fun x:Int=>Dd (x<0)) (l:=by0 n es.length frm)
    unfold unm
    simpa[by0] using this
   simp only[List.length_singleton];omega
 refine Ev.of_mb (fn:=Tryz.f69) (c:=bodyC Tryz.f69) (e:=.ret) (s:={t:=mkT 59 0 [(6,.ref (.ptr 4 0))],h:=fwH es (adjD adj) fs++[.var [int to],.var [.ref (.vec 6 0)],.vec [[int (-1)]] 0 1,.vec (vecI f.1) 0 1],m:=[]}) rfl rfl ?_
  ⟨.inr rfl,rfl,List.nodup_nil,[.ref (.vec 6 0)],rfl,rfl,rfl⟩
 intro X hX
 rw[f69_code]
 refine MW.seq (MW.run sr_0 ?_)
 show MW _ _ _ _ _ _
 refine MW.scope (MW.seq (MW.run (sr_1 (by omega) (by omega)) ?_))
 show MW _ _ _ _ _ _
 refine MW.seq (MW.run (sr_2 hfr.1 hrep) ?_)
 show MW _ _ _ _ _ _
 rw[hby]
 refine MW.seq (MW.run sr_3 ?_)
 show MW _ _ _ _ _ _
 refine MW.seq (MW.label ?_)
 show MW _ _ _ _ _ _
 refine MW.seq (MW.block (MW.mono (sq_loop hl hm (by omega) hin ha hB hX hf hs0) ?_))
 rintro e s ⟨rfl,rfl⟩
 show MW _ _ _ _ _ _
 refine MW.then (MW.run sr_4 ⟨rfl,rfl⟩) (fun a w hmb=>?_) ⟨by simp,rfl,rfl⟩
 have h3:=MB.sop (o:=.mask [6]) (φ:=[]) rfl trivial hmb
 exact MB.sop (o:=.trim 7) (φ:=[(vecI fs).all (D.innL 7)=true,([[int (-1)]]:List (List D)).all (D.innL 7)=true,(vecI f.1).all (D.innL 7)=true]) (by rw[hX];rfl) ⟨vecI_inn _ _,rfl,vecI_inn _ _,trivial⟩ h3
def mnI(a b:Int):Int:=if b<a then b else a
abbrev mH(es:List EdgT)(A:List (List Dp))(fs:List Int)(frm to:Int)(by':List Int)(least:Int):List Blk :=
 [.var [int frm],.var [int to],.vec (vecI fs) 0 1,.gone,.var [rowsD' (es.map EdgT.row),.ref (.vec 2 0),rowsD' A],.var [.ref (.ptr 4 0)],.var [int to],.var [.ref (.vec 9 0)],.vec [[int (-1)]] 0 1,.vec (vecI by') 0 1,.var [.ref (.vec 9 0)],.var [int least]]
noncomputable abbrev least_ev_x0(es:List EdgT)(A:List (List Dp))(fs:List Int)(by':List Int)(frm:Int)(to:Int)(least:Int):List Blk:=[.var [int frm],.var [int to],.vec (vecI fs) 0 1,.gone,.var [rowsD' (List.map EdgT.row es),.ref (.vec 2 0),rowsD' A],.var [.ref (.ptr 4 0)],.var [int to],.var [.ref (.vec 9 0)],.vec [[int (-1)]] 0 1,.vec (vecI by') 0 1,.var [.ref (.vec 9 0)],.var [int least]]
theorem least_ev{es:List EdgT}{A:List (List Dp)}{fs by':List Int}{frm to least r f:Int}{x:EdgT}{q:Nat}(hq:IntKind.i64.wrap (Int.tdiv r 2)=(q:Int))(hx:RowAt (IntKind.i64.wrap (Int.tdiv r 2)) (es.map EdgT.row) x.row 3)(hf:fs[Int.toNat (IntKind.i64.wrap (Int.tdiv r 2))]? = some f)(hl:q<fs.length):(Ev Tryz.prog Γ0 72 [int r,.ref (.ptr 11 0),.ref (.ptr 5 0)] (mH es A fs frm to by' least) (.tup []) (mH es A fs frm to by' (mnI least (capE r x f)))):=by
 refine Ev.castH (Ev.of_sym (h':=[.var [int frm],.var [int to],.vec (vecI fs) 0 1,.gone,.var [rowsD' (List.map EdgT.row es),.ref (.vec 2 0),rowsD' A],.var [.ref (.ptr 4 0)],.var [int to],.var [.ref (.vec 9 0)],.vec [[int (-1)]] 0 1,.vec (vecI by') 0 1,.var [.ref (.vec 9 0)],.var [int (if false=true then if capE r x f>least then capE r x f else least else if capE r x f<least then capE r x f else least)]]) (d:=D.tup []) pok [.val (int (capE r x f))] (by kernel_rfl) (.c (show Ev Tryz.prog Γ0 73 [.ref (.ptr 4 0),int r] (least_ev_x0 es A fs by' frm to least) (int (capE r x f)) (least_ev_x0 es A fs by' frm to least) from(Ev.castH (Ev.frameX (args:=[.ref (.ptr 4 0),int r]) (H:=(least_ev_x0 es A fs by' frm to least)) [2,3,4] (@cap_ev (es) (A) (fs) (r) (f) (x) (q) (hq) (hx) (hf) (hl)) (by kernel_rfl) (by kernel_rfl) (by kernel_rfl) ⟨?_,trivial⟩ ⟨?_,trivial⟩) (by kernel_rfl) (by kernel_rfl))) (.e (int least) (.e (int least) (.e (.ref (.ptr 4 0)) .n))))) (by rfl) (by rfl)<;>(first|rfl|exact mapRL_rows _ _|first|assumption|rfl|exact vecI_map _ _|exact vecI_inn _ _)
theorem push_ev{es:List EdgT}{A:List (List Dp)}{fs:List Int}{r f d:Int}{q:Nat}(hq:IntKind.i64.wrap (Int.tdiv r 2)=(q:Int))(hf:fs[Int.toNat (IntKind.i64.wrap (Int.tdiv r 2))]? = some f)(hl:q<fs.length)(hl2:Int.toNat (IntKind.i64.wrap (Int.tdiv r 2))<fs.length):Ev Tryz.prog Γ0 75 [.ref (.ptr 2 0),int r,int d] (fwH es A fs) (.tup []) (fwH es A (fs.set (Int.toNat (IntKind.i64.wrap (Int.tdiv r 2))) (IntKind.i64.wrap (f+pushE r d)))):=push_a hq hf hl hl2
noncomputable abbrev pushes_ev_x0(es:List EdgT)(A:List (List Dp))(fs:List Int)(by':List Int)(frm:Int)(to:Int)(least:Int)(r:Int)(f:Int):List Blk:=[.var [int frm],.var [int to],.vec (vecI (List.set fs (Int.toNat (IntKind.wrap IntKind.i64 (Int.tdiv r 2))) (IntKind.wrap IntKind.i64 (f+pushE r least)))) 0 1,.gone,.var [rowsD' (List.map EdgT.row es),.ref (.vec 2 0),rowsD' A],.var [.ref (.ptr 4 0)],.var [int to],.var [.ref (.vec 9 0)],.vec [[int (-1)]] 0 1,.vec (vecI by') 0 1,.var [.ref (.vec 9 0)],.var [int least]]
noncomputable abbrev pushes_ev_x1(es:List EdgT)(A:List (List Dp))(fs:List Int)(by':List Int)(frm:Int)(to:Int)(least:Int):List Blk:=[.var [int frm],.var [int to],.vec (vecI fs) 0 1,.gone,.var [rowsD' (List.map EdgT.row es),.ref (.vec 2 0),rowsD' A],.var [.ref (.ptr 4 0)],.var [int to],.var [.ref (.vec 9 0)],.vec [[int (-1)]] 0 1,.vec (vecI by') 0 1,.var [.ref (.vec 9 0)],.var [int least]]
theorem pushes_ev{es:List EdgT}{A:List (List Dp)}{fs by':List Int}{frm to least r f:Int}{q:Nat}(hq:IntKind.i64.wrap (Int.tdiv r 2)=(q:Int))(hf:fs[Int.toNat (IntKind.i64.wrap (Int.tdiv r 2))]? = some f)(hl:q<fs.length)(hl2:Int.toNat (IntKind.i64.wrap (Int.tdiv r 2))<fs.length):(Ev Tryz.prog Γ0 74 [int r,.ref (.ptr 5 0),.ref (.ptr 11 0)] (mH es A fs frm to by' least) (.tup []) (mH es A (fs.set (Int.toNat (IntKind.i64.wrap (Int.tdiv r 2))) (IntKind.i64.wrap (f+pushE r least))) frm to by' least)):=by
 refine Ev.castH (Ev.of_sym (h':=(pushes_ev_x0 es A fs by' frm to least r f)) (d:=D.tup []) pok [.call (D.tup []) (pushes_ev_x0 es A fs by' frm to least r f)] (by kernel_rfl) (.c (show Ev Tryz.prog Γ0 75 [.ref (.ptr 4 0),int r,int least] (pushes_ev_x1 es A fs by' frm to least) (D.tup []) (pushes_ev_x0 es A fs by' frm to least r f) from(Ev.castH (Ev.frameX (args:=[.ref (.ptr 4 0),int r,int least]) (H:=(pushes_ev_x1 es A fs by' frm to least)) [2,3,4] (@push_ev (es) (A) (fs) (r) (f) (least) (q) (hq) (hf) (hl) (hl2)) (by kernel_rfl) (by kernel_rfl) (by kernel_rfl) ⟨?_,trivial⟩ ⟨?_,trivial⟩) (by kernel_rfl) (by kernel_rfl))) .n)) (by rfl) (by rfl)<;>(first|rfl|exact mapRL_rows _ _|first|assumption|rfl|exact vecI_map _ _|exact vecI_inn _ _)
def xr(r:Int):Int:=IntKind.i64.wrap (BitVec.ofInt IntKind.i64.bits r ^^^ BitVec.ofInt IntKind.i64.bits 1).toNat
abbrev aS(es:List EdgT)(A:List (List Dp))(fs:List Int)(frm to:Int)(by':List Int)(least v:Int)(d:D):AS:={t:=mkT 24 0 [(0,d),(1,.ref (.ptr 1 0)),(2,.ref (.ptr 0 0)),(3,.ref (.ptr 5 0)),(4,.ref (.ptr 10 0)),(6,int v)],h:=mH es A fs frm to by' least,m:=[]}
abbrev d72:D:=.fn (.func 72) [] [.ref (.ptr 11 0),.ref (.ptr 5 0)]
abbrev d74:D:=.fn (.func 74) [] [.ref (.ptr 5 0),.ref (.ptr 11 0)]
theorem al_last{es:List EdgT}{A:List (List Dp)}{fs gs by':List Int}{frm to l0 least v:Int}{d:D}(hv:(v != frm)=false):(CW Tryz.prog Γ0 (mH es A gs frm to by' l0) false (sub Tryz.f70 0) (aS es A fs frm to by' least v d) (.exit 0) {t:=mkT 24 0 [],h:=mH es A fs frm to by' least,m:=[]}):=by
 exact CW.cast (CW.symX (s':={t:=mkT 24 0 [],h:=[.var [int frm],.var [int to],.vec (vecI fs) 0 1,.gone,.var [rowsD' (List.map EdgT.row es),.ref (.vec 2 0),rowsD' A],.var [.ref (.ptr 4 0)],.var [int to],.var [.ref (.vec 9 0)],.vec [[int (-1)]] 0 1,.vec (vecI by') 0 1,.var [.ref (.vec 9 0)],.var [int least]],m:=[]}) (e:=Exit.exit 0) pok [.st (.mask [])] [.b false] (by kernel_rfl) (.c hv .n)) (by rfl) (by rfl)
noncomputable abbrev al_least_x0(es:List EdgT)(A:List (List Dp))(fs:List Int)(by':List Int)(frm:Int)(to:Int)(least:Int)(r:Int)(f:Int)(x:EdgT):List Blk:=[.var [int frm],.var [int to],.vec (vecI fs) 0 1,.gone,.var [rowsD' (List.map EdgT.row es),.ref (.vec 2 0),rowsD' A],.var [.ref (.ptr 4 0)],.var [int to],.var [.ref (.vec 9 0)],.vec [[int (-1)]] 0 1,.vec (vecI by') 0 1,.var [.ref (.vec 9 0)],.var [int (mnI least (capE r x f))]]
noncomputable abbrev al_least_x1(es:List EdgT)(A:List (List Dp))(fs:List Int)(by':List Int)(frm:Int)(to:Int)(least:Int):List Blk:=[.var [int frm],.var [int to],.vec (vecI fs) 0 1,.gone,.var [rowsD' (List.map EdgT.row es),.ref (.vec 2 0),rowsD' A],.var [.ref (.ptr 4 0)],.var [int to],.var [.ref (.vec 9 0)],.vec [[int (-1)]] 0 1,.vec (vecI by') 0 1,.var [.ref (.vec 9 0)],.var [int least]]
theorem al_least{es:List EdgT}{A:List (List Dp)}{fs gs by':List Int}{frm to l0 least v r f:Int}{x y:EdgT}{q:Nat}(hv:(v != frm)=true)(h0:0≤v)(hb:by'[v.toNat]? = some r)(hq:IntKind.i64.wrap (Int.tdiv r 2)=(q:Int))(hx:RowAt (IntKind.i64.wrap (Int.tdiv r 2)) (es.map EdgT.row) x.row 3)(hf:fs[Int.toNat (IntKind.i64.wrap (Int.tdiv r 2))]? = some f)(hl:q<fs.length)
  (hy:RowAt (IntKind.i64.wrap (Int.tdiv (xr r) 2)) (es.map EdgT.row) y.row 3):(CW Tryz.prog Γ0 (mH es A gs frm to by' l0) false (sub Tryz.f70 0) (aS es A fs frm to by' least v d72) .normal (aS es A fs frm to by' (mnI least (capE r x f)) (endE (xr r) y) d72)):=by
 refine CW.cast (CW.symX (s':={t:=mkT 24 0 [(0,D.fn (Fn.func 72) [] [.ref (.ptr 11 0),.ref (.ptr 5 0)]),(1,.ref (.ptr 1 0)),(2,.ref (.ptr 0 0)),(3,.ref (.ptr 5 0)),(4,.ref (.ptr 10 0)),(6,int (endE (IntKind.wrap IntKind.i64 (↑(BitVec.toNat (BitVec.ofInt 64 r ^^^ BitVec.ofInt 64 1)):Int)) y))],h:=(al_least_x0 es A fs by' frm to least r f x),m:=[]}) (e:=Exit.normal) pok [.st (.mask [0,1,2,3,4,6])] [.b true,.ov 22 (int r),.call (D.tup []) (al_least_x0 es A fs by' frm to least r f x),.ov 15 (int r),.val (int (endE (IntKind.wrap IntKind.i64 (↑(BitVec.toNat (BitVec.ofInt 64 r ^^^ BitVec.ofInt 64 1)):Int)) y))] (by kernel_rfl) (.c hv (.c (show inR v (List.length (vecI by'))=true from ?_) (.c (show loadD Tryz.prog (al_least_x1 es A fs by' frm to least) 3 (.ref (.vp 9 0 (Int.toNat v) 0))=some (int r) from ?_) (.c (@least_ev (es) (A) (fs) (by') (frm) (to) (least) (r) (f) (x) (q) (hq) (hx) (hf) (hl)) (.c (show inR v (List.length (vecI by'))=true from ?_) (.c (show loadD Tryz.prog (al_least_x0 es A fs by' frm to least r f x) 3 (evalD Γ0 [D.fn (Fn.func 72) [] [.ref (.ptr 11 0),.ref (.ptr 5 0)],.ref (.ptr 1 0),.ref (.ptr 0 0),.ref (.ptr 5 0),.ref (.ptr 10 0),D.any,int v,D.any,int v,int frm,bool (v != frm),.ref (.ptr 4 0),.ref (.vec 9 0),int v,.ref (.vp 9 0 (Int.toNat v) 0),D.any,D.any,D.any,D.fn (Fn.func 72) [] [.ref (.ptr 11 0),.ref (.ptr 5 0)],.ref (.vec 9 0),int v,.ref (.vp 9 0 (Int.toNat v) 0),int r,D.tup []] (Operand.tmp 14))=some (int r) from ?_) (.c (show Ev Tryz.prog Γ0 71 [.ref (.ptr 4 0),int (IntKind.wrap IntKind.i64 (↑(BitVec.toNat (BitVec.ofInt 64 r ^^^ BitVec.ofInt 64 1)):Int))] (al_least_x0 es A fs by' frm to least r f x) (int (endE (IntKind.wrap IntKind.i64 (↑(BitVec.toNat (BitVec.ofInt 64 r ^^^ BitVec.ofInt 64 1)):Int)) y)) (al_least_x0 es A fs by' frm to least r f x) from(Ev.castH (Ev.frameX (args:=[.ref (.ptr 4 0),int (IntKind.wrap IntKind.i64 (↑(BitVec.toNat (BitVec.ofInt 64 r ^^^ BitVec.ofInt 64 1)):Int))]) (H:=(al_least_x0 es A fs by' frm to least r f x)) [2,3,4] (@end_ev (es) (A) (fs) (IntKind.wrap IntKind.i64 (↑(BitVec.toNat (BitVec.ofInt 64 r ^^^ BitVec.ofInt 64 1)):Int)) (y) (hy)) (by kernel_rfl) (by kernel_rfl) (by kernel_rfl) ⟨(by first|rfl|exact mapRL_rows _ _|first|assumption|rfl|exact vg_in h0 hb|exact vg_load rfl hb|exact vg_vp hb|exact vecI_map _ _|exact vecI_inn _ _),trivial⟩ ⟨(by first|rfl|exact mapRL_rows _ _|first|assumption|rfl|exact vg_in h0 hb|exact vg_load rfl hb|exact vg_vp hb|exact vecI_map _ _|exact vecI_inn _ _),trivial⟩) (by kernel_rfl) (by kernel_rfl))) .n)))))))) (by rfl) (by rfl)<;>(first|assumption|rfl|exact vg_in h0 hb|exact vg_load rfl hb|exact vg_vp hb|exact vecI_map _ _|exact vecI_inn _ _)
noncomputable abbrev al_push_x0(es:List EdgT)(A:List (List Dp))(fs:List Int)(by':List Int)(frm:Int)(to:Int)(least:Int)(r:Int)(f:Int):List Blk:=[.var [int frm],.var [int to],.vec (vecI (List.set fs (Int.toNat (IntKind.wrap IntKind.i64 (Int.tdiv r 2))) (IntKind.wrap IntKind.i64 (f+pushE r least)))) 0 1,.gone,.var [rowsD' (List.map EdgT.row es),.ref (.vec 2 0),rowsD' A],.var [.ref (.ptr 4 0)],.var [int to],.var [.ref (.vec 9 0)],.vec [[int (-1)]] 0 1,.vec (vecI by') 0 1,.var [.ref (.vec 9 0)],.var [int least]]
noncomputable abbrev al_push_x1(es:List EdgT)(A:List (List Dp))(fs:List Int)(by':List Int)(frm:Int)(to:Int)(least:Int):List Blk:=[.var [int frm],.var [int to],.vec (vecI fs) 0 1,.gone,.var [rowsD' (List.map EdgT.row es),.ref (.vec 2 0),rowsD' A],.var [.ref (.ptr 4 0)],.var [int to],.var [.ref (.vec 9 0)],.vec [[int (-1)]] 0 1,.vec (vecI by') 0 1,.var [.ref (.vec 9 0)],.var [int least]]
theorem al_push{es:List EdgT}{A:List (List Dp)}{fs gs by':List Int}{frm to l0 least v r f:Int}{y:EdgT}{q:Nat}(hv:(v != frm)=true)(h0:0≤v)(hb:by'[v.toNat]? = some r)(hq:IntKind.i64.wrap (Int.tdiv r 2)=(q:Int))(hf:fs[Int.toNat (IntKind.i64.wrap (Int.tdiv r 2))]? = some f)(hl:q<fs.length)(hl2:Int.toNat (IntKind.i64.wrap (Int.tdiv r 2))<fs.length)
  (hy:RowAt (IntKind.i64.wrap (Int.tdiv (xr r) 2)) (es.map EdgT.row) y.row 3):(CW Tryz.prog Γ0 (mH es A gs frm to by' l0) false (sub Tryz.f70 0) (aS es A fs frm to by' least v d74) .normal (aS es A (fs.set (Int.toNat (IntKind.i64.wrap (Int.tdiv r 2))) (IntKind.i64.wrap (f+pushE r least))) frm to by' least (endE (xr r) y) d74)):=by
 refine CW.cast (CW.symX (s':={t:=mkT 24 0 [(0,D.fn (Fn.func 74) [] [.ref (.ptr 5 0),.ref (.ptr 11 0)]),(1,.ref (.ptr 1 0)),(2,.ref (.ptr 0 0)),(3,.ref (.ptr 5 0)),(4,.ref (.ptr 10 0)),(6,int (endE (IntKind.wrap IntKind.i64 (↑(BitVec.toNat (BitVec.ofInt 64 r ^^^ BitVec.ofInt 64 1)):Int)) y))],h:=(al_push_x0 es A fs by' frm to least r f),m:=[]}) (e:=Exit.normal) pok [.st (.mask [0,1,2,3,4,6])] [.b true,.ov 22 (int r),.call (D.tup []) (al_push_x0 es A fs by' frm to least r f),.ov 15 (int r),.val (int (endE (IntKind.wrap IntKind.i64 (↑(BitVec.toNat (BitVec.ofInt 64 r ^^^ BitVec.ofInt 64 1)):Int)) y))] (by kernel_rfl) (.c hv (.c (show inR v (List.length (vecI by'))=true from ?_) (.c (show loadD Tryz.prog (al_push_x1 es A fs by' frm to least) 3 (.ref (.vp 9 0 (Int.toNat v) 0))=some (int r) from ?_) (.c (@pushes_ev (es) (A) (fs) (by') (frm) (to) (least) (r) (f) (q) (hq) (hf) (hl) (hl2)) (.c (show inR v (List.length (vecI by'))=true from ?_) (.c (show loadD Tryz.prog (al_push_x0 es A fs by' frm to least r f) 3 (evalD Γ0 [D.fn (Fn.func 74) [] [.ref (.ptr 5 0),.ref (.ptr 11 0)],.ref (.ptr 1 0),.ref (.ptr 0 0),.ref (.ptr 5 0),.ref (.ptr 10 0),D.any,int v,D.any,int v,int frm,bool (v != frm),.ref (.ptr 4 0),.ref (.vec 9 0),int v,.ref (.vp 9 0 (Int.toNat v) 0),D.any,D.any,D.any,D.fn (Fn.func 74) [] [.ref (.ptr 5 0),.ref (.ptr 11 0)],.ref (.vec 9 0),int v,.ref (.vp 9 0 (Int.toNat v) 0),int r,D.tup []] (Operand.tmp 14))=some (int r) from ?_) (.c (show Ev Tryz.prog Γ0 71 [.ref (.ptr 4 0),int (IntKind.wrap IntKind.i64 (↑(BitVec.toNat (BitVec.ofInt 64 r ^^^ BitVec.ofInt 64 1)):Int))] (al_push_x0 es A fs by' frm to least r f) (int (endE (IntKind.wrap IntKind.i64 (↑(BitVec.toNat (BitVec.ofInt 64 r ^^^ BitVec.ofInt 64 1)):Int)) y)) (al_push_x0 es A fs by' frm to least r f) from(Ev.castH (Ev.frameX (args:=[.ref (.ptr 4 0),int (IntKind.wrap IntKind.i64 (↑(BitVec.toNat (BitVec.ofInt 64 r ^^^ BitVec.ofInt 64 1)):Int))]) (H:=(al_push_x0 es A fs by' frm to least r f)) [2,3,4] (@end_ev (es) (A) (List.set fs (Int.toNat (IntKind.wrap IntKind.i64 (Int.tdiv r 2))) (IntKind.wrap IntKind.i64 (f+pushE r least))) (IntKind.wrap IntKind.i64 (↑(BitVec.toNat (BitVec.ofInt 64 r ^^^ BitVec.ofInt 64 1)):Int)) (y) (hy)) (by kernel_rfl) (by kernel_rfl) (by kernel_rfl) ⟨(by first|rfl|exact mapRL_rows _ _|first|assumption|rfl|exact vg_in h0 hb|exact vg_load rfl hb|exact vg_vp hb|exact vecI_map _ _|exact vecI_inn _ _),trivial⟩ ⟨(by first|rfl|exact mapRL_rows _ _|first|assumption|rfl|exact vg_in h0 hb|exact vg_load rfl hb|exact vg_vp hb|exact vecI_map _ _|exact vecI_inn _ _),trivial⟩) (by kernel_rfl) (by kernel_rfl))) .n)))))))) (by rfl) (by rfl)<;>(first|assumption|rfl|exact vg_in h0 hb|exact vg_load rfl hb|exact vg_vp hb|exact vecI_map _ _|exact vecI_inn _ _)
theorem xor_one(k:Nat):k ^^^ 1=if k % 2=0 then k+1 else k - 1:=by
 have h1:(k ^^^ 1) / 2=k / 2:=by rw[Nat.xor_div_two];simp
 have h2:(k ^^^ 1) % 2=(k+1) % 2:=by
  have:=@Nat.xor_mod_two_eq_one k 1
  omega
 split<;>omega
theorem xr_eq{m:Nat}{r:Int}(h:ResOk m r)(hm:m≤1000000):xr r=if r.toNat % 2=0 then r+1 else r - 1:=by
 obtain⟨h0,h1⟩:=h
 obtain⟨k,rfl⟩:=Int.eq_ofNat_of_zero_le h0
 have hk:k<2000000:=by omega
 have e:(BitVec.ofInt IntKind.i64.bits (k:Int) ^^^ BitVec.ofInt IntKind.i64.bits 1).toNat=k ^^^ 1:=by
  rw[BitVec.toNat_xor]
  have e1:(BitVec.ofInt IntKind.i64.bits (k:Int)).toNat=k:=by
   show(BitVec.ofInt 64 (k:Int)).toNat=k
   rw[BitVec.toNat_ofInt];omega
  have e2:(BitVec.ofInt IntKind.i64.bits 1).toNat=1:=rfl
  rw[e1,e2]
 unfold xr
 rw[e,xor_one]
 simp only[Int.toNat_natCast]
 split
 ·rw[wrap_i64 (by omega) (by omega)];omega
 ·rw[wrap_i64 (by omega) (by omega)];omega
theorem xr_ok{m:Nat}{r:Int}(h:ResOk m r)(hm:m≤1000000):ResOk m (xr r):=by
 rw[xr_eq h hm]
 obtain⟨h0,h1⟩:=h
 split<;>constructor<;>omega
inductive Path (es:List EdgT) (by':List Int) (frm:Int):Int→List Int→Prop
 | nil:Path es by' frm frm []
 | cons {v r rs}:v ≠ frm→0≤v→by'[v.toNat]? = some r→ResOk es.length r→Path es by' frm (endA es (xr r)) rs→Path es by' frm v (r::rs)
def lsF(es:List EdgT)(fs:List Int)(least r:Int):Int:=mnI least (capA es fs r)
def puF(least:Int)(fs:List Int)(r:Int):List Int:=fs.set (ixR r).toNat (IntKind.i64.wrap (fA fs r+pushE r least))
theorem puF_len(least:Int)(fs:List Int)(r:Int):(puF least fs r).length=fs.length:=by simp[puF]
theorem puF_fold(least:Int):∀(rs:List Int) (fs:List Int),(rs.foldl (puF least) fs).length=fs.length
 | [],_=>rfl
 | r::rs,fs=>by rw[List.foldl_cons,puF_fold least rs,puF_len]
section
variable {es:List EdgT} {A:List (List Dp)} {fs by':List Int} {frm to:Int}
theorem al_loop1(hl:fs.length=es.length)(hm:es.length≤1000){gs:List Int}{l0 least v:Int}{rs:List Int}(hp:Path es by' frm v rs):
  CW Tryz.prog Γ0 (mH es A gs frm to by' l0) false (.loop (sub Tryz.f70 0)) (aS es A fs frm to by' least v d72) (.exit 0) {t:=mkT 24 0 [],h:=mH es A fs frm to by' (rs.foldl (lsF es fs) least),m:=[]}:=by
 refine CW.loop (ι:={p:Int×Int×List Int // Path es by' frm p.1 p.2.2}) (fun p=>aS es A fs frm to by' p.1.2.1 p.1.1 d72) (fun p=>(.exit 0,{t:=mkT 24 0 [],h:=mH es A fs frm to by' (p.1.2.2.foldl (lsF es fs) p.1.2.1),m:=[]})) (fun p=>p.1.2.2.length) ?_ ⟨(v,least,rs),hp⟩
 rintro⟨⟨v,least,rs⟩,hp⟩
 cases hp with
 | nil=>exact .inr ⟨by simp,al_last (by simp)⟩
 | cons h1 h2 h3 h4 h5 =>
  rename_i r rs
  have hq:=ixR_eq h4 (by omega)
  refine .inl ⟨⟨(endA es (xr r),lsF es fs least r,rs),h5⟩,by simp,rfl,?_⟩
  exact al_least (x:=exA es r) (f:=fA fs r) (by simpa using h1) h2 h3 hq.1 (exA_row h4 (by omega)) (fA_get h4 (by omega) hl) (by omega) (exA_row (xr_ok h4 (by omega)) (by omega))
theorem al_loop2(hm:es.length≤1000){gs:List Int}{l0 least v:Int}{rs:List Int}(hl:fs.length=es.length)(hp:Path es by' frm v rs):
  CW Tryz.prog Γ0 (mH es A gs frm to by' l0) false (.loop (sub Tryz.f70 0)) (aS es A fs frm to by' least v d74) (.exit 0) {t:=mkT 24 0 [],h:=mH es A (rs.foldl (puF least) fs) frm to by' least,m:=[]}:=by
 refine CW.loop (ι:={p:Int×List Int×List Int // Path es by' frm p.1 p.2.2∧p.2.1.length=es.length}) (fun p=>aS es A p.1.2.1 frm to by' least p.1.1 d74) (fun p=>(.exit 0,{t:=mkT 24 0 [],h:=mH es A (p.1.2.2.foldl (puF least) p.1.2.1) frm to by' least,m:=[]})) (fun p=>p.1.2.2.length) ?_ ⟨(v,fs,rs),hp,hl⟩
 rintro⟨⟨v,fs,rs⟩,hp,hl⟩
 simp only at hl
 cases hp with
 | nil=>exact .inr ⟨by simp,al_last (by simp)⟩
 | cons h1 h2 h3 h4 h5 =>
  rename_i r rs
  have hq:=ixR_eq h4 (by omega)
  have hf:=fA_get (fs:=fs) h4 (by omega) hl
  refine .inl ⟨⟨(endA es (xr r),puF least fs r,rs),h5,by rw[puF_len];exact hl⟩,by simp,rfl,?_⟩
  exact al_push (f:=fA fs r) (y:=exA es (xr r)) (by simpa using h1) h2 h3 hq.1 hf (show r.toNat / 2<fs.length by omega) (List.getElem?_eq_some_iff.1 hf).1 (exA_row (xr_ok h4 (by omega)) (by omega))
end
theorem al_a{es:List EdgT}{A:List (List Dp)}{fs fs2 by':List Int}{frm to least least2:Int}{d:D}
  (hcw:CW Tryz.prog Γ0 (mH es A fs frm to by' least) false (.loop (sub Tryz.f70 0)) (aS es A fs frm to by' least to d) (.exit 0) {t:=mkT 24 0 [],h:=mH es A fs2 frm to by' least2,m:=[]}):(Ev Tryz.prog Γ0 70 [d,.ref (.ptr 1 0),.ref (.ptr 0 0),.ref (.ptr 5 0),.ref (.ptr 10 0)] (mH es A fs frm to by' least) (.tup []) (mH es A fs2 frm to by' least2)):=by
 have hl0:=(@hcw)
 exact Ev.castH (Ev.of_sym (h':=[.var [int frm],.var [int to],.vec (vecI fs2) 0 1,.gone,.var [rowsD' (List.map EdgT.row es),.ref (.vec 2 0),rowsD' A],.var [.ref (.ptr 4 0)],.var [int to],.var [.ref (.vec 9 0)],.vec [[int (-1)]] 0 1,.vec (vecI by') 0 1,.var [.ref (.vec 9 0)],.var [int least2]]) (d:=D.tup []) pok [.sum [0,1,2,3,4,6] (Exit.exit 0) {t:=mkT 24 0 [],h:=[.var [int frm],.var [int to],.vec (vecI fs2) 0 1,.gone,.var [rowsD' (List.map EdgT.row es),.ref (.vec 2 0),rowsD' A],.var [.ref (.ptr 4 0)],.var [int to],.var [.ref (.vec 9 0)],.vec [[int (-1)]] 0 1,.vec (vecI by') 0 1,.var [.ref (.vec 9 0)],.var [int least2]],m:=[]}] (by kernel_rfl) (.c hl0 .n)) (by rfl) (by rfl)
abbrev xT(n:Int):List D:=mkT 65 0 [(0,int n),(6,.ref (.ptr 0 0)),(7,.ref (.ptr 1 0)),(12,.ref (.ptr 5 0))]
abbrev xH(es:List EdgT)(A:List (List Dp))(fs:List Int)(frm to:Int):List Blk:=[.var [int frm],.var [int to],.vec (vecI fs) 0 1,.gone,.var [rowsD' (es.map EdgT.row),.ref (.vec 2 0),rowsD' A],.var [.ref (.ptr 4 0)]]
abbrev xS(es:List EdgT)(A:List (List Dp))(fs:List Int)(n frm to:Int):AS:={t:=xT n,h:=xH es A fs frm to,m:=[]}
noncomputable abbrev mx_round_x0(es:List EdgT)(A:List (List Dp))(fs:List Int)(by':List Int)(frm:Int)(to:Int)(l2:Int):List Blk:=[.var [int frm],.var [int to],.vec (vecI fs) 0 1,.gone,.var [rowsD' (List.map EdgT.row es),.ref (.vec 2 0),rowsD' A],.var [.ref (.ptr 4 0)],.var [int to],.var [.ref (.vec 9 0)],.vec [[int (-1)]] 0 1,.vec (vecI by') 0 1,.var [.ref (.vec 9 0)],.var [int l2]]
noncomputable abbrev mx_round_x1(es:List EdgT)(A:List (List Dp))(fs:List Int)(frm:Int)(to:Int):List Blk:=[.var [int frm],.var [int to],.vec (vecI fs) 0 1,.gone,.var [rowsD' (List.map EdgT.row es),.ref (.vec 2 0),rowsD' A],.var [.ref (.ptr 4 0)]]
theorem mx_round{es:List EdgT}{A:List (List Dp)}{fs fs2 by':List Int}{n frm to x l2:Int}(h0:0≤to)(hx:by'[to.toNat]? = some x)(hg:Dd (x<0)=false)
  (hs:Ev Tryz.prog Γ0 69 [.ref (.ptr 2 0),int frm,int to] (fwH es A fs) (.ref (.vec 6 0)) (fwH es A fs++[.var [int to],.var [.ref (.vec 6 0)],.vec [[int (-1)]] 0 1,.vec (vecI by') 0 1]))
  (h1:Ev Tryz.prog Γ0 70 [d72,.ref (.ptr 1 0),.ref (.ptr 0 0),.ref (.ptr 5 0),.ref (.ptr 10 0)] (mH es A fs frm to by' 1073741824) (.tup []) (mH es A fs frm to by' l2))
  (h2:Ev Tryz.prog Γ0 70 [d74,.ref (.ptr 1 0),.ref (.ptr 0 0),.ref (.ptr 5 0),.ref (.ptr 10 0)] (mH es A fs frm to by' l2) (.tup []) (mH es A fs2 frm to by' l2)):(CW Tryz.prog Γ0 [] false (sub Tryz.f42 0) (xS es A fs n frm to) .normal (xS es A fs2 n frm to)):=by
 refine CW.cast (CW.symX (s':={t:=mkT 65 0 [(0,int n),(6,.ref (.ptr 0 0)),(7,.ref (.ptr 1 0)),(12,.ref (.ptr 5 0))],h:=[.var [int frm],.var [int to],.vec (vecI fs2) 0 1,.gone,.var [rowsD' (List.map EdgT.row es),.ref (.vec 2 0),rowsD' A],.var [.ref (.ptr 4 0)]],m:=[]}) (e:=Exit.normal) pok [.st (.mask [0,6,7,12]),.st (.trim 6)] [.call (.ref (.vec 9 0)) [.var [int frm],.var [int to],.vec (vecI fs) 0 1,.gone,.var [rowsD' (List.map EdgT.row es),.ref (.vec 2 0),rowsD' A],.var [.ref (.ptr 4 0)],.var [int to],.var [.ref (.vec 9 0)],.vec [[int (-1)]] 0 1,.vec (vecI by') 0 1],.ov 36 (int x),.b false,.call (D.tup []) (mx_round_x0 es A fs by' frm to l2),.call (D.tup []) [.var [int frm],.var [int to],.vec (vecI fs2) 0 1,.gone,.var [rowsD' (List.map EdgT.row es),.ref (.vec 2 0),rowsD' A],.var [.ref (.ptr 4 0)],.var [int to],.var [.ref (.vec 9 0)],.vec [[int (-1)]] 0 1,.vec (vecI by') 0 1,.var [.ref (.vec 9 0)],.var [int l2]]] (by kernel_rfl) (.c (show Ev Tryz.prog Γ0 69 [.ref (.ptr 4 0),int frm,int to] (mx_round_x1 es A fs frm to) (.ref (.vec 9 0)) [.var [int frm],.var [int to],.vec (vecI fs) 0 1,.gone,.var [rowsD' (List.map EdgT.row es),.ref (.vec 2 0),rowsD' A],.var [.ref (.ptr 4 0)],.var [int to],.var [.ref (.vec 9 0)],.vec [[int (-1)]] 0 1,.vec (vecI by') 0 1] from(Ev.castH (Ev.frameX (args:=[.ref (.ptr 4 0),int frm,int to]) (H:=(mx_round_x1 es A fs frm to)) [2,3,4] (@hs) (by kernel_rfl) (by kernel_rfl) (by kernel_rfl) ⟨?_,trivial⟩ ⟨?_,?_,?_,trivial⟩) (by kernel_rfl) (by kernel_rfl))) (.c (show inR to (List.length (vecI by'))=true from(by first|assumption|rfl|exact vg_in h0 hx|exact vg_load rfl hx|exact vg_vp hx|exact vecI_map _ _|exact vecI_inn _ _)) (.c (show loadD Tryz.prog [.var [int frm],.var [int to],.vec (vecI fs) 0 1,.gone,.var [rowsD' (List.map EdgT.row es),.ref (.vec 2 0),rowsD' A],.var [.ref (.ptr 4 0)],.var [int to],.var [.ref (.vec 9 0)],.vec [[int (-1)]] 0 1,.vec (vecI by') 0 1,.var [.ref (.vec 9 0)]] 3 (.ref (.vp 9 0 (Int.toNat to) 0))=some (int x) from(by first|assumption|rfl|exact vg_in h0 hx|exact vg_load rfl hx|exact vg_vp hx|exact vecI_map _ _|exact vecI_inn _ _)) (.c hg (.c (@h1) (.c (@h2) (.c (show List.all (vecI fs2) (D.innL 6)=true from(by first|assumption|rfl|exact vg_in h0 hx|exact vg_load rfl hx|exact vg_vp hx|exact vecI_map _ _|exact vecI_inn _ _)) .n)))))))) (by rfl) (by rfl)<;>(first|rfl|exact mapRL_rows _ _|first|assumption|rfl|exact vg_in h0 hx|exact vg_load rfl hx|exact vg_vp hx|exact vecI_map _ _|exact vecI_inn _ _)
def vecB(l:List Bool):List (List D):=l.map fun b=>[bool b]
abbrev rowsB(l:List Bool):List (List Dp):=l.map fun b=>[.v (.bool b)]
theorem vecB_map(f:Ref→D)(l:List Bool):(vecB l).map (D.mapRL f)=vecB l:=by simp[vecB,D.mapRL,D.mapR]
theorem vecB_inn(n:Nat)(l:List Bool):(vecB l).all (D.innL n)=true:=by simp[vecB,D.innL,D.inn]
theorem vecB_frz(l:List Bool):vecB l=(rowsB l).map (·.map .p):=by simp[vecB]
theorem vecB_rep(n:Nat):List.replicate n [bool false]=vecB (List.replicate n false):=by simp[vecB]
theorem vb_store{l:List Bool}{b i:Nat}{a:Bool}{h:List Blk}(hb:h[b]? = some (.vec (vecB l) 0 1))(hi:i<l.length):storeD Tryz.prog h 4 (.ref (.vp b 0 i 0)) (bool a)=some (h.set b (.vec (vecB (l.set i a)) 0 1)):=by
 have e1:(vecB l)[i]? = some [bool l[i]]:=by simp[vecB,hi]
 unfold storeD
 simp only[hb,e1,if_true]
 simp[vecB,List.map_set]
 rfl
abbrev kH(es:List EdgT)(A:List (List Dp))(fs:List Int)(frm to:Int)(by':List Int)(cut:List Bool):List Blk:=xH es A fs frm to++[.var [int to],.var [.ref (.vec 9 0)],.vec [[int (-1)]] 0 1,.vec (vecI by') 0 1,.var [.ref (.vec 9 0)],.vec (vecB cut) 0 1]
abbrev kS(es:List EdgT)(A:List (List Dp))(fs:List Int)(frm to:Int)(by':List Int)(cut:List Bool)(i:Int):AS:={t:=mkT 65 0 [(9,.ref (.vec 11 0)),(12,.ref (.ptr 5 0)),(40,.ref (.vec 9 0)),(41,int (by'.length:Int)),(42,int i)],h:=kH es A fs frm to by' cut,m:=[]}
abbrev kE(es:List EdgT)(A:List (List Dp))(fs:List Int)(frm to:Int)(by':List Int)(cut:List Bool):AS:={t:=mkT 65 0 [(9,.ref (.vec 11 0)),(12,.ref (.ptr 5 0))],h:=kH es A fs frm to by' cut,m:=[]}
theorem mk_body{es:List EdgT}{A:List (List Dp)}{fs by':List Int}{frm to x:Int}{cut:List Bool}{i:Nat}(hx:by'[Int.toNat (i:Int)]? = some x)(hlt:Dd ((i:Int)<(by'.length:Int))=true)(hw:IntKind.i64.wrap ((i:Int)+1)=((i+1:Nat):Int))(hi:inR (i:Int) (vecI by').length=true)(hc:inR (i:Int) (vecB cut).length=true)(hcl:Int.toNat (i:Int)<cut.length):(CW Tryz.prog Γ0 [] false (sub Tryz.f42 1) (kS es A fs frm to by' cut i) .normal (kS es A fs frm to by' (cut.set (Int.toNat (i:Int)) (Dd (x≥0))) ((i+1:Nat):Int))):=by
 refine CW.cast (CW.symX (s':={t:=mkT 65 0 [(9,.ref (.vec 11 0)),(12,.ref (.ptr 5 0)),(40,.ref (.vec 9 0)),(41,int (↑(List.length by'):Int)),(42,int (IntKind.wrap IntKind.i64 ((↑i:Int)+1)))],h:=[.var [int frm],.var [int to],.vec (vecI fs) 0 1,.gone,.var [rowsD' (List.map EdgT.row es),.ref (.vec 2 0),rowsD' A],.var [.ref (.ptr 4 0)],.var [int to],.var [.ref (.vec 9 0)],.vec [[int (-1)]] 0 1,.vec (vecI by') 0 1,.var [.ref (.vec 9 0)],.vec (vecB (List.set cut (Int.toNat (↑i:Int)) (Dd (x≥0)))) 0 1],m:=[]}) (e:=Exit.normal) pok [.st (.mask [9,12,40,41,42])] [.b true,.ov 46 (int x),.oh 10051 D.any (kH es A fs frm to by' (List.set cut (Int.toNat (↑i:Int)) (Dd (x≥0))))] (by kernel_rfl) (.c hlt (.c hi (.c (show loadD Tryz.prog [.var [int frm],.var [int to],.vec (vecI fs) 0 1,.gone,.var [rowsD' (List.map EdgT.row es),.ref (.vec 2 0),rowsD' A],.var [.ref (.ptr 4 0)],.var [int to],.var [.ref (.vec 9 0)],.vec [[int (-1)]] 0 1,.vec (vecI by') 0 1,.var [.ref (.vec 9 0)],.vec (vecB cut) 0 1] 3 (.ref (.vp 9 0 (Int.toNat (↑i:Int)) 0))=some (int x) from ?_) (.c hc (.c (show storeD Tryz.prog [.var [int frm],.var [int to],.vec (vecI fs) 0 1,.gone,.var [rowsD' (List.map EdgT.row es),.ref (.vec 2 0),rowsD' A],.var [.ref (.ptr 4 0)],.var [int to],.var [.ref (.vec 9 0)],.vec [[int (-1)]] 0 1,.vec (vecI by') 0 1,.var [.ref (.vec 9 0)],.vec (vecB cut) 0 1] 4 (.ref (.vp 11 0 (Int.toNat (↑i:Int)) 0)) (bool (Dd (x≥0)))=some [.var [int frm],.var [int to],.vec (vecI fs) 0 1,.gone,.var [rowsD' (List.map EdgT.row es),.ref (.vec 2 0),rowsD' A],.var [.ref (.ptr 4 0)],.var [int to],.var [.ref (.vec 9 0)],.vec [[int (-1)]] 0 1,.vec (vecI by') 0 1,.var [.ref (.vec 9 0)],.vec (vecB (List.set cut (Int.toNat (↑i:Int)) (Dd (x≥0)))) 0 1] from ?_) .n)))))) (by first|rfl|(rw[hw]<;>rfl)) (by first|rfl|(rw[hw]<;>rfl))<;>(first|assumption|rfl|exact vg_load rfl hx|exact vg_vp hx|exact vb_store rfl hcl|exact vecI_map _ _|exact vecI_inn _ _)
theorem mk_last{es:List EdgT}{A:List (List Dp)}{fs by':List Int}{frm to:Int}{cut:List Bool}{i:Nat}(hlt:Dd ((i:Int)<(by'.length:Int))=false):(CW Tryz.prog Γ0 [] false (sub Tryz.f42 1) (kS es A fs frm to by' cut i) (.exit 2) (kE es A fs frm to by' cut)):=by
 exact CW.cast (CW.symX (s':={t:=mkT 65 0 [(9,.ref (.vec 11 0)),(12,.ref (.ptr 5 0))],h:=[.var [int frm],.var [int to],.vec (vecI fs) 0 1,.gone,.var [rowsD' (List.map EdgT.row es),.ref (.vec 2 0),rowsD' A],.var [.ref (.ptr 4 0)],.var [int to],.var [.ref (.vec 9 0)],.vec [[int (-1)]] 0 1,.vec (vecI by') 0 1,.var [.ref (.vec 9 0)],.vec (vecB cut) 0 1],m:=[]}) (e:=Exit.exit 2) pok [.st (.mask [9,12])] [.b false] (by kernel_rfl) (.c hlt .n)) (by rfl) (by rfl)
def cutF(s:List Bool×Nat)(x:Int):List Bool×Nat:=(s.1.set s.2 (Dd (x≥0)),s.2+1)
def cutR(by':List Int):List Bool:=(by'.foldl cutF (List.replicate by'.length false,0)).1
theorem mk_loop{es:List EdgT}{A:List (List Dp)}{fs by':List Int}{frm to:Int}(hb:by'.length≤1000):CW Tryz.prog Γ0 [] false (.loop (sub Tryz.f42 1)) (kS es A fs frm to by' (List.replicate by'.length false) 0) (.exit 2) (kE es A fs frm to by' (cutR by')):=by
 have:=CW.each (P:=Tryz.prog) (Γ:=Γ0) (h0:=[]) (rd:=false) (c:=sub Tryz.f42 1) (σ:=List Bool×Nat) (ρ:=Empty) by' (fun x s=>.inl (cutF s x))
  (fun i s=>kS es A fs frm to by' s.1 (i:Int)) (.exit 2) (fun s=>kE es A fs frm to by' s.1) (fun r=>r.elim) (fun i s=>s.2=i∧s.1.length=by'.length) (by simp) (fun r=>r.elim) ?_ ?_ (List.replicate by'.length false,0) (by simp)
 ·rw[forL_fold] at this
  exact this
 ·rintro i x ⟨cut,k⟩ hx ⟨hk,hc⟩
  simp only at hk hc
  subst hk
  have hi:=(List.getElem?_eq_some_iff.1 hx).1
  refine⟨fun s' h=>?_,mk_body (by simpa using hx) (by simp;omega) (wrap_succ hi (by omega)) (by simp[inR,vecI];omega) (by simp[inR,vecB];omega) (by simp;omega)⟩
  cases h
  simpa[cutF] using hc
 ·intro s _
  exact mk_last (by simp)
abbrev kS0(es:List EdgT)(A:List (List Dp))(fs:List Int)(n frm to:Int)(by':List Int):AS:={t:=mkT 65 0 [(9,.ref (.vec 11 0)),(12,.ref (.ptr 5 0)),(40,.ref (.vec 9 0)),(41,int ((vecI by').length:Int)),(42,int 0)],h:=xH es A fs frm to++[.var [int to],.var [.ref (.vec 9 0)],.vec [[int (-1)]] 0 1,.vec (vecI by') 0 1,.var [.ref (.vec 9 0)],.vec (List.replicate (Int.toNat n) [bool false]) 0 1],m:=[]}
theorem kS0_eq{es:List EdgT}{A:List (List Dp)}{fs:List Int}{n frm to:Int}{by':List Int}(hn:Int.toNat n=by'.length):kS0 es A fs n frm to by'=kS es A fs frm to by' (List.replicate by'.length false) 0:=by
 unfold kS0 kS kH
 rw[hn,vecB_rep,vecI_len]
theorem rep_map{m:Nat}{r:List D}(f:Ref→D)(h:D.mapRL f r=r):(List.replicate m r).map (D.mapRL f)=List.replicate m r:=by simp[h]
noncomputable abbrev mx_end_x0(es:List EdgT)(A:List (List Dp))(fs:List Int)(frm:Int)(to:Int):List Blk:=[.var [int frm],.var [int to],.vec (vecI fs) 0 1,.gone,.var [rowsD' (List.map EdgT.row es),.ref (.vec 2 0),rowsD' A],.var [.ref (.ptr 4 0)]]
theorem mx_end{es:List EdgT}{A:List (List Dp)}{fs by':List Int}{n frm to x:Int}{cut:List Bool}(h0:0≤to)(hx:by'[to.toNat]? = some x)(hg:Dd (x<0)=true)(hn0:0≤n)(hn1:n≤1000)
  (hs:Ev Tryz.prog Γ0 69 [.ref (.ptr 2 0),int frm,int to] (fwH es A fs) (.ref (.vec 6 0)) (fwH es A fs++[.var [int to],.var [.ref (.vec 6 0)],.vec [[int (-1)]] 0 1,.vec (vecI by') 0 1]))
  (hcw:CW Tryz.prog Γ0 [] false (.loop (sub Tryz.f42 1)) (kS0 es A fs n frm to by') (.exit 2) (kE es A fs frm to by' cut)):(CW Tryz.prog Γ0 [] false (sub Tryz.f42 0) (xS es A fs n frm to) .ret {t:=mkT 65 0 [(8,rowsD' (inR1 fs)),(9,rowsD' (rowsB cut)),(10,int 0)],h:=[],m:=[]}):=by
 have hl0:=(@hcw)
 refine CW.cast (CW.symX (s':={t:=mkT 65 0 [(8,rowsD' (inR1 fs)),(9,rowsD' (rowsB cut)),(10,int 0)],h:=[],m:=[]}) (e:=Exit.ret) pok [.st (.mask [8,9,10]),.st (.frz 2 (inR1 fs)),.st (.frz 11 (rowsB cut)),.st (.trim 0)] [.call (.ref (.vec 9 0)) [.var [int frm],.var [int to],.vec (vecI fs) 0 1,.gone,.var [rowsD' (List.map EdgT.row es),.ref (.vec 2 0),rowsD' A],.var [.ref (.ptr 4 0)],.var [int to],.var [.ref (.vec 9 0)],.vec [[int (-1)]] 0 1,.vec (vecI by') 0 1],.ov 36 (int x),.b true,.sum [9,12,40,41,42] (Exit.exit 2) {t:=mkT 65 0 [(9,.ref (.vec 11 0)),(12,.ref (.ptr 5 0))],h:=[.var [int frm],.var [int to],.vec (vecI fs) 0 1,.gone,.var [rowsD' (List.map EdgT.row es),.ref (.vec 2 0),rowsD' A],.var [.ref (.ptr 4 0)],.var [int to],.var [.ref (.vec 9 0)],.vec [[int (-1)]] 0 1,.vec (vecI by') 0 1,.var [.ref (.vec 9 0)],.vec (vecB cut) 0 1],m:=[]}] (by kernel_rfl) (.c (show Ev Tryz.prog Γ0 69 [.ref (.ptr 4 0),int frm,int to] (mx_end_x0 es A fs frm to) (.ref (.vec 9 0)) [.var [int frm],.var [int to],.vec (vecI fs) 0 1,.gone,.var [rowsD' (List.map EdgT.row es),.ref (.vec 2 0),rowsD' A],.var [.ref (.ptr 4 0)],.var [int to],.var [.ref (.vec 9 0)],.vec [[int (-1)]] 0 1,.vec (vecI by') 0 1] from(Ev.castH (Ev.frameX (args:=[.ref (.ptr 4 0),int frm,int to]) (H:=(mx_end_x0 es A fs frm to)) [2,3,4] (@hs) (by kernel_rfl) (by kernel_rfl) (by kernel_rfl) ⟨(by first|rfl|exact mapRL_rows _ _|first|assumption|rfl|exact vg_in h0 hx|exact vg_load rfl hx|exact vg_vp hx|exact vecI_frz _|exact vecB_frz _|exact vecI_map _ _|exact vecI_inn _ _|exact vecB_map _ _|exact vecB_inn _ _|exact rep_map _ rfl|(simp;omega)),trivial⟩ ⟨(by first|rfl|exact mapRL_rows _ _|first|assumption|rfl|exact vg_in h0 hx|exact vg_load rfl hx|exact vg_vp hx|exact vecI_frz _|exact vecB_frz _|exact vecI_map _ _|exact vecI_inn _ _|exact vecB_map _ _|exact vecB_inn _ _|exact rep_map _ rfl|(simp;omega)),(by first|rfl|exact mapRL_rows _ _|first|assumption|rfl|exact vg_in h0 hx|exact vg_load rfl hx|exact vg_vp hx|exact vecI_frz _|exact vecB_frz _|exact vecI_map _ _|exact vecI_inn _ _|exact vecB_map _ _|exact vecB_inn _ _|exact rep_map _ rfl|(simp;omega)),(by first|rfl|exact mapRL_rows _ _|first|assumption|rfl|exact vg_in h0 hx|exact vg_load rfl hx|exact vg_vp hx|exact vecI_frz _|exact vecB_frz _|exact vecI_map _ _|exact vecI_inn _ _|exact vecB_map _ _|exact vecB_inn _ _|exact rep_map _ rfl|(simp;omega)),trivial⟩) (by kernel_rfl) (by kernel_rfl))) (.c (show inR to (List.length (vecI by'))=true from ?_) (.c (show loadD Tryz.prog [.var [int frm],.var [int to],.vec (vecI fs) 0 1,.gone,.var [rowsD' (List.map EdgT.row es),.ref (.vec 2 0),rowsD' A],.var [.ref (.ptr 4 0)],.var [int to],.var [.ref (.vec 9 0)],.vec [[int (-1)]] 0 1,.vec (vecI by') 0 1,.var [.ref (.vec 9 0)]] 3 (.ref (.vp 9 0 (Int.toNat to) 0))=some (int x) from ?_) (.c hg (.c (show(Dd (0≤n)&&Dd (n≤n)&&Dd (n*(↑1:Int)≤281474976710656)&&Dd (n≤281474976710656))=true from ?_) (.c hl0 (.c (show vecI fs=List.map (fun x=>List.map D.p x) (inR1 fs) from ?_) (.c (show [[int (-1)]]=[[int (-1)]] from rfl) (.c (show List.map (D.mapRL (frzR 2 0 (inR1 fs))) (vecI by')=vecI by' from ?_) (.c (show List.map (D.mapRL (frzR 2 0 (inR1 fs))) (vecB cut)=vecB cut from ?_) (.c (show vecB cut=List.map (fun x=>List.map D.p x) (rowsB cut) from ?_) (.c (show [[int (-1)]]=[[int (-1)]] from rfl) (.c (show List.map (D.mapRL (frzR 11 0 (rowsB cut))) (vecI by')=vecI by' from ?_) .n)))))))))))))) (by rfl) (by rfl)<;>(first|assumption|rfl|exact vg_in h0 hx|exact vg_load rfl hx|exact vg_vp hx|exact vecI_frz _|exact vecB_frz _|exact vecI_map _ _|exact vecI_inn _ _|exact vecB_map _ _|exact vecB_inn _ _|exact rep_map _ rfl|(simp;omega))
abbrev xS0(es:List EdgT)(A:List (List Dp))(n frm to:Int):AS:={t:=xT n,h:=[.var [int frm],.var [int to],.vec (flR es) 0 1,.gone,.var [rowsD' (es.map EdgT.row),.ref (.vec 2 0),rowsD' A],.var [.ref (.ptr 4 0)]],m:=[]}
theorem flR_eq(es:List EdgT):flR es=vecI (List.replicate es.length 0):=by simp[flR,vecI]
theorem xS0_eq{es:List EdgT}{A:List (List Dp)}{n frm to:Int}:xS0 es A n frm to=xS es A (List.replicate es.length 0) n frm to:=by
 unfold xS0 xS xH
 rw[flR_eq]
theorem nn2_a{n:Nat}{es:List EdgT}{frm to:Int}(hn:n≤10000)(hes:es.length≤10000)(hin:∀x∈es,EdgIn n x):Ev Tryz.prog Γ0 68 [int (n:Int),rowsD' (es.map EdgT.row)] [.var [int frm],.var [int to]] (.ref (.ptr 4 0)) [.var [int frm],.var [int to],.vec (flR es) 0 1,.gone,.var [rowsD' (es.map EdgT.row),.ref (.vec 2 0),rowsD' (adjD (adjR n es))]]:=by
 have h1:=Ev.frameN (nn_ev hn hes hin) rfl rfl [.var [int frm],.var [int to]]
 have e:[Blk.vec (flR es) 0 1,.gone,.var [rowsD' (es.map EdgT.row),.ref (.vec 0 0),rowsD' (adjD (adjR n es))]].map (Blk.mapR (fwd0 2))=[.vec (flR es) 0 1,.gone,.var [rowsD' (es.map EdgT.row),.ref (.vec 2 0),rowsD' (adjD (adjR n es))]]:=by
  simp only[List.map_cons,List.map_nil,Blk.mapR,flR_map]
  rfl
 exact Ev.castH h1 rfl (by rw[show [Blk.var [int frm],.var [int to]].length=2 from rfl,e];rfl)
theorem max_a{es:List EdgT}{n:Nat}{frm to:Int}{fs:List Int}{cut:List Bool}
  (hnn:Ev Tryz.prog Γ0 68 [int (n:Int),rowsD' (es.map EdgT.row)] [.var [int frm],.var [int to]] (.ref (.ptr 4 0)) [.var [int frm],.var [int to],.vec (flR es) 0 1,.gone,.var [rowsD' (es.map EdgT.row),.ref (.vec 2 0),rowsD' (adjD (adjR n es))]])
  (hc:∀h,Ev Tryz.prog Γ0 44 [int (n:Int),rowsD' (es.map EdgT.row),int frm,int to] h (int 0) h)
  (hcw:CW Tryz.prog Γ0 [] false (.loop (sub Tryz.f42 0)) (xS0 es (adjD (adjR n es)) (n:Int) frm to) .ret {t:=mkT 65 0 [(8,rowsD' (inR1 fs)),(9,rowsD' (rowsB cut)),(10,int 0)],h:=[],m:=[]}) (h:List Blk):(Ev Tryz.prog Γ0 42 [int (n:Int),rowsD' (es.map EdgT.row),int frm,int to] h (.tup [rowsD' (inR1 fs),rowsD' (rowsB cut),int 0]) h):=by
 have hl0:=(@hcw)
 exact Ev.castH (Ev.nilW (Ev.sym0 (d:=D.tup [rowsD' (inR1 fs),rowsD' (rowsB cut),int 0]) pok [.val (int 0),.b false,.call (.ref (.ptr 4 0)) [.var [int frm],.var [int to],.vec (flR es) 0 1,.gone,.var [rowsD' (List.map EdgT.row es),.ref (.vec 2 0),rowsD' (adjD (adjR n es))]],.sum [0,6,7,12] (Exit.ret) {t:=mkT 65 0 [(8,rowsD' (inR1 fs)),(9,rowsD' (rowsB cut)),(10,int 0)],h:=[],m:=[]}] (by kernel_rfl) (.c (@hc ([.var [int frm],.var [int to]])) (.c (show(0 != 0)=false from rfl) (.c (@hnn) (.c hl0 .n)))) rfl rfl h)) (by rfl) (by rfl)
abbrev bs0(n m:Nat)(frm:Int):List Int×QF:=(by0 n m frm,⟨false,0,0,[frm]⟩)
abbrev lsR(es:List EdgT)(fs:List Int)(rs:List Int):Int:=rs.foldl (lsF es fs) 1073741824
abbrev puR(es:List EdgT)(fs:List Int)(rs:List Int):List Int:=rs.foldl (puF (lsR es fs rs)) fs
inductive MaxR (adj:List (List Int)) (es:List EdgT) (n:Nat) (frm to:Int):Nat→List Int→List Int×List Int→Prop
 | done {fs k f}:Bfs adj es fs to k (bs0 n es.length frm) f→f.1.getD to.toNat 0<0→MaxR adj es n frm to 0 fs (fs,f.1)
 | step {fs k f rs g j}:Bfs adj es fs to k (bs0 n es.length frm) f→¬f.1.getD to.toNat 0<0→Path es f.1 frm to rs→MaxR adj es n frm to j (puR es fs rs) g→MaxR adj es n frm to (j+1) fs g
def sumV{α:Type}:α⊕α→α
 | .inl s=>s
 | .inr s=>s
theorem usY_len(to r u:Int)(s:List Int×QF):(sumV (usY to r u s)).1.length=s.1.length:=by
 unfold usY
 cases Dd (s.1.getD u.toNat 0≥0) with
 | true=>rfl
 | false=>cases u==to<;>simp[sumV]
theorem usG_len(es:List EdgT)(fs:List Int)(to r:Int)(s:List Int×QF):(sumV (usG es fs to r s)).1.length=s.1.length:=by
 unfold usG
 cases Dd (capA es fs r>0) with
 | true=>exact usY_len _ _ _ _
 | false=>rfl
theorem forG_len{es:List EdgT}{fs:List Int}{to:Int}:∀(B:List Int) (s:List Int×QF),(sumV (forL (usG es fs to) B s)).1.length=s.1.length
 | [],s=>rfl
 | r::B,s=>by
  have h1:=usG_len es fs to r s
  simp only[forL]
  cases hg:usG es fs to r s with
  | inl s1 =>
   rw[hg] at h1
   exact(forG_len B s1).trans h1
  | inr s1 =>
   rw[hg] at h1
   exact h1
theorem Bfs.len{adj:List (List Int)}{es:List EdgT}{fs:List Int}{to:Int}{k:Nat}{s f:List Int×QF}(h:Bfs adj es fs to k s f):f.1.length=s.1.length:=by
 induction h with
 | done _=>rfl
 | stop _ hg =>
  have:=congrArg (fun x=>(sumV x).1.length) hg
  simp only[forG_len] at this
  exact this.symm
 | step _ hg _ ih =>
  have:=congrArg (fun x=>(sumV x).1.length) hg
  simp only[forG_len] at this
  rw[ih];exact this.symm
def ResL(m:Nat)(A:List (List Int)):Prop:=∀B∈A,∀r∈B,ResOk m r
theorem ResL.set{m:Nat}{A:List (List Int)}(h:ResL m A){u:Nat}{v:Int}(hv:ResOk m v):ResL m (A.set u (A.getD u []++[v])):=by
 intro B hB r hr
 rcases List.mem_or_eq_of_mem_set hB with hB|rfl
 ·exact h B hB r hr
 ·rcases List.mem_append.1 hr with hr|hr
  ·by_cases hu:u<A.length
   ·have:A.getD u []=A[u]:=by simp[List.getD,hu]
    rw[this] at hr
    exact h _ (List.getElem_mem hu) r hr
   ·have:A.getD u []=[]:=by simp[List.getD,hu]
    rw[this] at hr;simp at hr
  ·simp only[List.mem_singleton] at hr
   subst hr;exact hv
theorem adj_res(m:Nat)(hm:m≤100000):∀(l:List EdgT) (s:List (List Int)×Int) (i:Nat),s.2=i→i+l.length≤m→ResL m s.1→ResL m (l.foldl adjF s).1
 | [],s,_,_,_,h=>h
 | x::l,s,i,hi,hm2,h=>by
  rw[List.foldl_cons]
  simp only[List.length_cons] at hm2
  have e1:IntKind.i64.wrap (2*s.2)=2*s.2:=wrap_i64 (by omega) (by omega)
  have e2:IntKind.i64.wrap (2*s.2+1)=2*s.2+1:=wrap_i64 (by omega) (by omega)
  refine adj_res m hm l (adjF s x) (i+1) (by simp[adjF,hi]) (by omega) ?_
  unfold adjF
  rw[e1,e2]
  exact(h.set ⟨by omega,by omega⟩).set ⟨by omega,by omega⟩
theorem adjR_len(n:Nat)(es:List EdgT):(adjR n es).length=n:=by unfold adjR;rw[adj_len];simp
theorem adjR_ok(n:Nat){es:List EdgT}(hm:es.length≤1000):∀B∈adjR n es,(∀r∈B,ResOk es.length r)∧B.length≤10000:=by
 have h1:ResL es.length (adjR n es):=adj_res es.length (by omega) es _ 0 rfl (by omega) (fun B hB r hr=>by rw[(List.mem_replicate.1 hB).2] at hr;simp at hr)
 have h2:Lim (adjR n es) (0+2*es.length):=adj_lim es _ 0 (fun j B hB=>by
  have:=List.mem_of_getElem? hB
  rw[(List.mem_replicate.1 this).2];simp)
 intro B hB
 refine⟨h1 B hB,?_⟩
 obtain⟨j,hj⟩:=List.getElem?_of_mem hB
 have:=h2 j B hj
 omega
section
variable {es:List EdgT} {n:Nat} {frm to:Int}
theorem mx_loop(hm:es.length≤1000)(h2:2≤n)(hn:n≤18)(hin:∀x∈es,EdgIn n x)(hfr:0≤frm∧frm.toNat<n)(hto:0≤to∧to.toNat<n){j:Nat}{fs:List Int}{g:List Int×List Int}(hl:fs.length=es.length)(hR:MaxR (adjR n es) es n frm to j fs g):
  CW Tryz.prog Γ0 [] false (.loop (sub Tryz.f42 0)) (xS es (adjD (adjR n es)) fs (n:Int) frm to) .ret {t:=mkT 65 0 [(8,rowsD' (inR1 g.1)),(9,rowsD' (rowsB (cutR g.2))),(10,int 0)],h:=[],m:=[]}:=by
 refine CW.loop (ι:={p:Nat×List Int // p.2.length=es.length∧MaxR (adjR n es) es n frm to p.1 p.2 g}) (fun p=>xS es (adjD (adjR n es)) p.1.2 (n:Int) frm to) (fun _=>(.ret,{t:=mkT 65 0 [(8,rowsD' (inR1 g.1)),(9,rowsD' (rowsB (cutR g.2))),(10,int 0)],h:=[],m:=[]})) (fun p=>p.1.1) ?_ ⟨(j,fs),hl,hR⟩
 rintro⟨⟨j,fs⟩,hl,hR⟩
 simp only at hl hR
 cases hR with
 | done hb hx =>
  rename_i k f
  have hlen:f.1.length=n:=by rw[hb.len];simp[by0]
  have hs:=search_a hl hm h2 hn hin (adjR_len n es) (adjR_ok n hm) hfr hb
  have hg:f.1[to.toNat]? = some (f.1.getD to.toNat 0):=by simp[List.getD,hlen,hto.2]
  have hk:=mk_loop (es:=es) (A:=adjD (adjR n es)) (fs:=fs) (by':=f.1) (frm:=frm) (to:=to) (by omega)
  rw[←kS0_eq (n:=(n:Int)) (by simp[hlen])] at hk
  exact .inr ⟨by simp,mx_end hto.1 hg (by simpa using hx) (by omega) (by omega) hs hk⟩
 | step hb hx hp hr =>
  rename_i k f rs j
  have hlen:f.1.length=n:=by rw[hb.len];simp[by0]
  have hs:=search_a hl hm h2 hn hin (adjR_len n es) (adjR_ok n hm) hfr hb
  have hg:f.1[to.toNat]? = some (f.1.getD to.toNat 0):=by simp[List.getD,hlen,hto.2]
  refine .inl ⟨⟨(j,puR es fs rs),by rw[puF_fold];exact hl,hr⟩,by simp,rfl,?_⟩
  exact mx_round (fs2:=puR es fs rs) (l2:=lsR es fs rs) hto.1 hg (by simpa using hx) hs (al_a (al_loop1 hl hm hp)) (al_a (al_loop2 hm hl hp))
theorem maxR_ev(hm:es.length≤1000)(h2:2≤n)(hn:n≤18)(hin:∀x∈es,EdgIn n x)(hfr:0≤frm∧frm.toNat<n)(hto:0≤to∧to.toNat<n)
  (hc:∀h,Ev Tryz.prog Γ0 44 [int (n:Int),rowsD' (es.map EdgT.row),int frm,int to] h (int 0) h) {j:Nat} {g:List Int×List Int} (hR:MaxR (adjR n es) es n frm to j (List.replicate es.length 0) g) (h:List Blk) :
  Ev Tryz.prog Γ0 42 [int (n:Int),rowsD' (es.map EdgT.row),int frm,int to] h (.tup [rowsD' (inR1 g.1),rowsD' (rowsB (cutR g.2)),int 0]) h:=by
 refine max_a (nn2_a (by omega) (by omega) hin) hc ?_ h
 rw[xS0_eq]
 exact mx_loop hm h2 hn hin hfr hto (by simp) hR
end
def xeF(p:EdgT→Bool)(c:EdgT)(s:Nat):Nat⊕Nat:=if p c=true then .inr s else .inl (s+1)
abbrev xeS(fs:List (List Dp))(f:D)(h:List Blk)(i:Int):AS:={t:=mkT 19 0 [(0,rowsD' fs),(1,f),(4,int 0),(7,int fs.length),(8,int i)],h:=h,m:=[]}
abbrev xeX(h:List Blk):Nat→Exit×AS:=fun k=>(.ret,{t:=mkT 19 0 [(4,int (k:Int))],h:=h,m:=[]})
theorem xe_body{fs:List (List Dp)}{i:Nat}{c:EdgT}{f:D}{h:List Blk}{p:EdgT→Bool}(hr:RowAt (i:Int) fs (EdgT.row c) 3)(hlt:Dd ((i:Int)<(fs.length:Int))=true)(hw:IntKind.i64.wrap ((i:Int)+1)=((i+1:Nat):Int))(hi:Iv Tryz.prog Γ0 f [ag (EdgT.row c)] h (bool (p c)) h):(CW Tryz.prog Γ0 h false (sub Tryz.f137 0) (xeS fs f h i) (bodyFin (fun _=>xeS fs f h ((i+1:Nat):Int)) (xeX h) (xeF p c i)).1 (bodyFin (fun _=>xeS fs f h ((i+1:Nat):Int)) (xeX h) (xeF p c i)).2):=by
 cases hc0:p c
 ·exact CW.cast (CW.symX (s':={t:=mkT 19 0 [(0,rowsD' fs),(1,f),(4,int 0),(7,int (↑(List.length fs):Int)),(8,int (IntKind.wrap IntKind.i64 ((↑i:Int)+1)))],h:=h,m:=[]}) (e:=Exit.normal) pok [.st (.mask [0,1,4,7,8])] [.b true,.row [vi c.frm,vi c.to,vi c.most],.ival (bool (p c)),.b false] (by kernel_rfl) (.c hlt (.c hr (.c (@hi) (.c hc0 .n))))) (by simp[xeF,bodyFin,hw, *]) (by simp[xeF,bodyFin,hw, *])
 ·exact CW.cast (CW.symX (s':={t:=mkT 19 0 [(4,int (↑i:Int))],h:=h,m:=[]}) (e:=Exit.ret) pok [.st (.mask [4])] [.b true,.row [vi c.frm,vi c.to,vi c.most],.ival (bool (p c)),.b true] (by kernel_rfl) (.c hlt (.c hr (.c (@hi) (.c hc0 .n))))) (by simp[xeF,bodyFin,hw, *]) (by simp[xeF,bodyFin,hw, *])
theorem xe_last{fs:List (List Dp)}{i:Nat}{f:D}{h:List Blk}(hlt:Dd ((i:Int)<(fs.length:Int))=false):(CW Tryz.prog Γ0 h false (sub Tryz.f137 0) (xeS fs f h i) (.exit 0) {t:=mkT 19 0 [(4,int 0)],h:=h,m:=[]}):=by
 exact CW.cast (CW.symX (s':={t:=mkT 19 0 [(4,int 0)],h:=h,m:=[]}) (e:=Exit.exit 0) pok [.st (.mask [4])] [.b false] (by kernel_rfl) (.c hlt .n)) (by rfl) (by rfl)
def xeR(p:EdgT→Bool)(l:List EdgT):Int:=match forL (xeF p) l 0 with | .inl _ => -1 | .inr k=>(k:Int)
def xeFin(h:List Blk)(p:EdgT→Bool)(l:List EdgT):Exit×AS:=eachFin (.exit 0) (fun _:Nat=>{t:=mkT 19 0 [(4,int 0)],h:=h,m:=[]}) (xeX h) (forL (xeF p) l 0)
theorem xe_cw{l:List EdgT}(hl:Short l){f:D}{h:List Blk}{p:EdgT→Bool}(hf:∀c∈l,Iv Tryz.prog Γ0 f [ag (EdgT.row c)] h (bool (p c)) h):
  CW Tryz.prog Γ0 h false (.loop (sub Tryz.f137 0)) (xeS (l.map EdgT.row) f h 0) (xeFin h p l).1 (xeFin h p l).2:=by
 refine CW.each l (xeF p) (fun i _=>xeS (l.map EdgT.row) f h (i:Int)) (.exit 0) _ (xeX h) (fun i s=>s=i) (by simp) (fun _=>by simp) ?_ ?_ 0 rfl
 ·intro i c s hc hs
  subst hs
  have hi:=(List.getElem?_eq_some_iff.1 hc).1
  refine⟨fun s' h=>?_,xe_body (rowAt (row:=EdgT.row) hc rfl) (lt_len EdgT.row hi) (wrap_succ hi hl) (hf c (List.mem_of_getElem? hc))⟩
  unfold xeF at h
  split at h<;>simp at h
  exact h.symm
 ·intro s hs
  exact xe_last (ge_len EdgT.row l)
theorem xei_ev{l:List EdgT}(hl:Short l){f:D}{h:List Blk}{p:EdgT→Bool}(hf:∀c∈l,Iv Tryz.prog Γ0 f [ag (EdgT.row c)] h (bool (p c)) h):(Ev Tryz.prog Γ0 137 [rowsD' (l.map EdgT.row),f] h (int (xeR p l)) h):=by
 have hl0:=(@xe_cw (l) (hl) (f) (h) (p) (hf))
 unfold xeFin at hl0
 revert hl0
 cases ho1:forL (xeF p) l 0 with
 | inl o1_0_0 =>
  intro hl0
  exact Ev.castH (Ev.of_sym (h':=h) (d:=int (-1)) pok [.sum [0,1,4,7,8] (Exit.exit 0) {t:=mkT 19 0 [(4,int 0)],h:=h,m:=[]}] (by kernel_rfl) (.c hl0 .n)) (by simp[xeR,ho1]) (by simp[xeR,ho1])
 | inr o1_1_0 =>
  intro hl0
  exact Ev.castH (Ev.of_sym (h':=h) (d:=int (↑o1_1_0:Int)) pok [.sum [0,1,4,7,8] (Exit.ret) {t:=mkT 19 0 [(4,int (↑o1_1_0:Int))],h:=h,m:=[]}] (by kernel_rfl) (.c hl0 .n)) (by simp[xeR,ho1]) (by simp[xeR,ho1])
theorem xeR_ge(p:EdgT→Bool)(l:List EdgT):Dd (xeR p l≥0)=l.any p:=by
 have key:∀(l:List EdgT) (s:Nat),(match forL (xeF p) l s with | .inl _=>false | .inr _=>true)=l.any p:=by
  intro l
  induction l with
  | nil=>intro s;rfl
  | cons c l ih =>
   intro s
   simp only[forL,xeF,List.any_cons]
   by_cases hp:p c=true
   ·simp[hp]
   ·simp only[hp,if_false,Bool.false_or]
    exact ih (s+1)
 rw[←key l 0]
 unfold xeR
 cases forL (xeF p) l 0<;>simp
theorem xec_ev{l:List EdgT}(hl:Short l){f:D}{h:List Blk}{p:EdgT→Bool}(hf:∀c∈l,Iv Tryz.prog Γ0 f [ag (EdgT.row c)] h (bool (p c)) h):(Ev Tryz.prog Γ0 109 [rowsD' (l.map EdgT.row),f] h (bool (l.any p)) h):=by
 refine Ev.castH (Ev.of_sym (h':=h) (d:=bool (Dd (xeR p l≥0))) pok [.val (int (xeR p l))] (by kernel_rfl) (.c (@xei_ev (l) (hl) (f) (h) (p) (hf)) .n)) ?_ ?_<;>(first|rfl|rw[←xeR_ge])
def nodB(n v:Int):Bool:=Dd (v≥0)&&Dd (v<n)
def edgBad(n:Int)(x:EdgT):Bool:=!nodB n x.frm||!nodB n x.to||x.frm==x.to||Dd (x.most<0)||Dd (x.most>1073741824)
abbrev ckH(n:Int):List Blk:=[.var [int n],.var [.fn (.func 108) [] [.ref (.ptr 0 0)]]]
theorem nod_ev{n v:Int}:(Ev Tryz.prog Γ0 108 [int v,.ref (.ptr 0 0)] (ckH n) (bool (nodB n v)) (ckH n)):=by
 exact Ev.castH (Ev.of_sym (h':=[.var [int n],.var [D.fn (Fn.func 108) [] [.ref (.ptr 0 0)]]]) (d:=bool (Dd (v≥0)&&Dd (v<n))) pok [] (by kernel_rfl) .n) (by rfl) (by rfl)
noncomputable abbrev edg_ev_x0(n:Int)(x:EdgT):List Blk:=[.var [int n],.var [D.fn (Fn.func 108) [] [.ref (.ptr 0 0)]],.var [int x.frm,int x.to,int x.most]]
theorem edg_ev{n:Int}{x:EdgT}:(Ev Tryz.prog Γ0 110 [ag x.row,.ref (.ptr 1 0)] (ckH n) (bool (edgBad n x)) (ckH n)):=by
 exact Ev.castH (Ev.post (d2:=bool (!nodB n x.frm||!nodB n x.to||x.frm==x.to||Dd (x.most<0)||Dd (x.most>1073741824))) (h2:=[.var [int n],.var [D.fn (Fn.func 108) [] [.ref (.ptr 0 0)]]]) (φ:=[]) [.st (.trim 2)] (Ev.of_sym (h':=(edg_ev_x0 n x)) (d:=bool (!nodB n x.frm||!nodB n x.to||x.frm==x.to||Dd (x.most<0)||Dd (x.most>1073741824))) pok [.val (bool (nodB n x.frm)),.val (bool (nodB n x.to))] (by kernel_rfl) (.c (show Ev Tryz.prog Γ0 108 [int x.frm,.ref (.ptr 0 0)] (edg_ev_x0 n x) (bool (nodB n x.frm)) (edg_ev_x0 n x) from(Ev.castH (Ev.frameX (args:=[int x.frm,.ref (.ptr 0 0)]) (H:=(edg_ev_x0 n x)) [0,1] (@nod_ev (n) (x.frm)) (by kernel_rfl) (by kernel_rfl) (by kernel_rfl) trivial trivial) (by kernel_rfl) (by kernel_rfl))) (.c (show(!!nodB n x.frm)=true→Ev Tryz.prog Γ0 108 [int x.to,.ref (.ptr 0 0)] (edg_ev_x0 n x) (bool (nodB n x.to)) (edg_ev_x0 n x) from(fun hg=>(Ev.castH (Ev.frameX (args:=[int x.to,.ref (.ptr 0 0)]) (H:=(edg_ev_x0 n x)) [0,1] (@nod_ev (n) (x.to)) (by kernel_rfl) (by kernel_rfl) (by kernel_rfl) trivial trivial) (by kernel_rfl) (by kernel_rfl)))) .n))) (by kernel_rfl) trivial) (by rfl) (by rfl)
theorem edi_a{n:Int}{l:List EdgT}:∀c∈l,Iv Tryz.prog Γ0 (.fn (.func 110) [] [.ref (.ptr 1 0)]) [ag (EdgT.row c)] (ckH n) (bool (edgBad n c)) (ckH n):=fun c _=>Iv.of (f:=110) (fi:=[]) (ca:=[.ref (.ptr 1 0)]) pok rfl (by kernel_rfl) edg_ev
theorem edc_ev{n:Int}{l:List EdgT}(hl:Short l):Ev Tryz.prog Γ0 109 [rowsD' (l.map EdgT.row),.fn (.func 110) [] [.ref (.ptr 1 0)]] (ckH n) (bool (l.any (edgBad n))) (ckH n):=xec_ev hl edi_a
def chkR(n:Int)(l:List EdgT):Int:=match Dd (n<2)||Dd (n>4096)||Dd (((l.map EdgT.row).length:Int)>65536) with
 | true=>180
 | false=>match l.any (edgBad n) with
  | true=>180
  | false=>0
noncomputable abbrev chk_ev_x0(n:Int):List Blk:=[.var [int n],.var [D.fn (Fn.func 108) [] [.ref (.ptr 0 0)]]]
theorem chk_ev{n:Int}{l:List EdgT}(hl:Short l)(h:List Blk):(Ev Tryz.prog Γ0 79 [int n,rowsD' (l.map EdgT.row)] h (int (chkR n l)) h):=by
 cases hc0:Dd (n<2)||Dd (n>4096)||Dd ((↑(List.length (List.map EdgT.row l)):Int)>65536)
 ·cases hc1:List.any l (edgBad n)
  ·exact Ev.castH (Ev.sym0 (d:=int 0) pok [.b false,.val (bool (List.any l (edgBad n))),.b false] (by kernel_rfl) (.c hc0 (.c (@edc_ev (n) (l) (hl)) (.c hc1 .n))) rfl rfl h) (by first|rfl|(simp only[chkR,hc0,hc1];first|done|rfl)) (by rfl)
  ·exact Ev.castH (Ev.sym0 (d:=int 180) pok [.b false,.val (bool (List.any l (edgBad n))),.b true] (by kernel_rfl) (.c hc0 (.c (@edc_ev (n) (l) (hl)) (.c hc1 .n))) rfl rfl h) (by first|rfl|(simp only[chkR,hc0,hc1];first|done|rfl)) (by rfl)
 ·exact Ev.castH (Ev.sym0 (d:=int 180) pok [.b true] (by kernel_rfl) (.c hc0 .n) rfl rfl h) (by first|rfl|(simp only[chkR,hc0];first|done|rfl)) (by rfl)
def endsBad(n a b:Int):Bool:=Dd (a<0)||Dd (a≥n)||Dd (b<0)||Dd (b≥n)||a==b
def chkE(n:Int)(l:List EdgT)(a b:Int):Int:=match chkR n l != 0 with
 | true=>chkR n l
 | false=>match endsBad n a b with
  | true=>180
  | false=>0
theorem chke_ev{n a b:Int}{l:List EdgT}(hl:Short l)(h:List Blk):(Ev Tryz.prog Γ0 44 [int n,rowsD' (l.map EdgT.row),int a,int b] h (int (chkE n l a b)) h):=by
 cases hc0:chkR n l != 0
 ·cases hc1:Dd (a<0)||Dd (a≥n)||Dd (b<0)||Dd (b≥n)||a==b
  ·exact Ev.castH (Ev.sym0 (d:=int 0) pok [.val (int (chkR n l)),.b false,.b false] (by kernel_rfl) (.c (@chk_ev (n) (l) (hl) ([])) (.c hc0 (.c hc1 .n))) rfl rfl h) (by first|rfl|(simp only[chkE,endsBad,hc0,hc1];first|done|rfl)) (by rfl)
  ·exact Ev.castH (Ev.sym0 (d:=int 180) pok [.val (int (chkR n l)),.b false,.b true] (by kernel_rfl) (.c (@chk_ev (n) (l) (hl) ([])) (.c hc0 (.c hc1 .n))) rfl rfl h) (by first|rfl|(simp only[chkE,endsBad,hc0,hc1];first|done|rfl)) (by rfl)
 ·exact Ev.castH (Ev.sym0 (d:=int (chkR n l)) pok [.val (int (chkR n l)),.b true] (by kernel_rfl) (.c (@chk_ev (n) (l) (hl) ([])) (.c hc0 .n)) rfl rfl h) (by first|rfl|(simp only[chkE,endsBad,hc0];first|done|rfl)) (by rfl)
end Go.Vi
