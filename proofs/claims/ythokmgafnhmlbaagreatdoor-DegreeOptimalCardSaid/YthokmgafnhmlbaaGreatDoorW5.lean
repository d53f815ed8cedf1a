/- DegreeOptimal: part of the proof: contracts of the functions that the law reaches, and the law. No conditions beyond the given statement's own. -/
import Derived.Test.YthokmgafnhmlbaaGreatDoorW4
open Decidable renaming decide → Dd
open Go Go.Proofs
namespace Go.Vi
set_option maxRecDepth 100000
set_option maxHeartbeats 4000000
structure UseT where
 att:Int
 req:Int
 cr:Int
def UseT.row(e:UseT):List Dp:=[vi e.att,vi e.req,vi e.cr]
def vecU(l:List UseT):List (List D):=l.map fun e=>[int e.att,int e.req,int e.cr]
theorem vecU_app(l:List UseT)(a b c:Int):vecU l++[[int a,int b,int c]]=vecU (l++[⟨a,b,c⟩]):=by simp[vecU]
theorem vecU_len(l:List UseT):(vecU l).length=l.length:=by simp[vecU]
theorem vecU_map(f:Ref→D)(l:List UseT):(vecU l).map (D.mapRL f)=vecU l:=by simp[vecU,D.mapRL,D.mapR]
theorem vecU_inn(n:Nat)(l:List UseT):(vecU l).all (D.innL n)=true:=by simp[vecU,D.innL,D.inn]
theorem vecU_frz(l:List UseT):vecU l=(l.map UseT.row).map (·.map .p):=by simp[vecU,UseT.row]
abbrev auH(p:ProgT)(fl:List Int)(ms:Int)(cut:List Bool):List Blk:=[.var p.l,.var [nq,int 0,nq],.var [int 0],.var [rowsD' (inR1 fl)],.var [nq,int ms,rowsD' (rowsB cut)]]
abbrev auS(p:ProgT)(l:List AttT)(fl:List Int)(ms:Int)(cut:List Bool)(i:Int):AS:={t:=mkT 84 0 [(1,rowsD' (l.map AttT.row)),(2,.ref (.ptr 0 0)),(4,.ref (.ptr 1 0)),(5,.ref (.ptr 2 0)),(8,.ref (.ptr 3 0)),(10,.ref (.ptr 4 0)),(41,rowsD' (p.reqs.map ReqT.row)),(42,int ((p.reqs.map ReqT.row).length:Int)),(43,int i)],h:=auH p fl ms cut,m:=[]}
abbrev auE(p:ProgT)(l:List AttT)(fl:List Int)(ms:Int)(cut:List Bool):AS:={t:=mkT 84 0 [(1,rowsD' (l.map AttT.row)),(2,.ref (.ptr 0 0)),(4,.ref (.ptr 1 0)),(5,.ref (.ptr 2 0)),(8,.ref (.ptr 3 0)),(10,.ref (.ptr 4 0))],h:=auH p fl ms cut,m:=[]}
def auF(ms:Int)(q:ReqT):Int:=IntKind.i64.wrap (ms+q.credits)
theorem au_body{p:ProgT}{l:List AttT}{fl:List Int}{cut:List Bool}{ms:Int}{q:ReqT}{i:Nat}{h0:List Blk}(hh:h0.length≤5)(hr:RowAt (i:Int) (p.reqs.map ReqT.row) q.row 6)(hlt:Dd ((i:Int)<((p.reqs.map ReqT.row).length:Int))=true)(hw:IntKind.i64.wrap ((i:Int)+1)=((i+1:Nat):Int)):(CW Tryz.prog Γ0 [.var p.l,.var [nq,int 0,nq],.var [int 0]] false (sub Tryz.f19 0) (auS p l fl ms cut i) .normal (auS p l fl (auF ms q) cut ((i+1:Nat):Int))):=by
 refine CW.cast (CW.symX (s':={t:=mkT 84 0 [(1,rowsD' (List.map AttT.row l)),(2,.ref (.ptr 0 0)),(4,.ref (.ptr 1 0)),(5,.ref (.ptr 2 0)),(8,.ref (.ptr 3 0)),(10,.ref (.ptr 4 0)),(41,rowsD' (List.map ReqT.row p.reqs)),(42,int (↑(List.length (List.map ReqT.row p.reqs)):Int)),(43,int (IntKind.wrap IntKind.i64 ((↑i:Int)+1)))],h:=[.var [strD p.nm,int p.number,int p.uses,int p.earn,int p.num,int p.den,rowsD' (List.map ReqT.row p.reqs)],.var [nq,int 0,nq],.var [int 0],.var [rowsD' (inR1 fl)],.var [nq,int (IntKind.wrap IntKind.i64 (ms+q.credits)),rowsD' (rowsB cut)]],m:=[]}) (e:=Exit.normal) pok [.st (.mask [1,2,4,5,8,10,41,42,43]),.st (.trim 5)] [.b true,.row [vs q.nm,vi q.credits,vi q.grade,Dp.v (Value.bool q.home),Dp.sl q.names,Dp.sl (inR1 q.frm)]] (by kernel_rfl) (.c hlt (.c hr .n))) ?_ ?_<;>(first|rfl|(rw[hw]<;>rfl))
theorem au_last{p:ProgT}{l:List AttT}{fl:List Int}{cut:List Bool}{ms:Int}{i:Nat}(hlt:Dd ((i:Int)<((p.reqs.map ReqT.row).length:Int))=false):(CW Tryz.prog Γ0 [.var p.l,.var [nq,int 0,nq],.var [int 0]] false (sub Tryz.f19 0) (auS p l fl ms cut i) (.exit 0) (auE p l fl ms cut)):=by
 exact CW.cast (CW.symX (s':={t:=mkT 84 0 [(1,rowsD' (List.map AttT.row l)),(2,.ref (.ptr 0 0)),(4,.ref (.ptr 1 0)),(5,.ref (.ptr 2 0)),(8,.ref (.ptr 3 0)),(10,.ref (.ptr 4 0))],h:=[.var [strD p.nm,int p.number,int p.uses,int p.earn,int p.num,int p.den,rowsD' (List.map ReqT.row p.reqs)],.var [nq,int 0,nq],.var [int 0],.var [rowsD' (inR1 fl)],.var [nq,int ms,rowsD' (rowsB cut)]],m:=[]}) (e:=Exit.exit 0) pok [.st (.mask [1,2,4,5,8,10])] [.b false] (by kernel_rfl) (.c hlt .n)) (by rfl) (by rfl)
theorem au_cw{p:ProgT}{l:List AttT}{fl:List Int}{cut:List Bool}(hn:p.reqs.length≤100):CW Tryz.prog Γ0 [.var p.l,.var [nq,int 0,nq],.var [int 0]] false (.loop (sub Tryz.f19 0)) (auS p l fl 0 cut 0) (.exit 0) (auE p l fl (p.reqs.foldl auF 0) cut):=by
 have:=CW.each (P:=Tryz.prog) (Γ:=Γ0) (h0:=[.var p.l,.var [nq,int 0,nq],.var [int 0]]) (rd:=false) (c:=sub Tryz.f19 0) (σ:=Int) (ρ:=Empty) p.reqs (fun q s=>.inl (auF s q))
  (fun i s=>auS p l fl s cut (i:Int)) (.exit 0) (fun s=>auE p l fl s cut) (fun r=>r.elim) (fun _ _=>True) (by simp) (fun r=>r.elim) ?_ ?_ 0 trivial
 ·rw[forL_fold] at this
  exact this
 ·intro i q s hq _
  have hi:=(List.getElem?_eq_some_iff.1 hq).1
  exact⟨fun _ _=>trivial,au_body (h0:=[]) (by simp) (rowAt hq rfl) (lt_len ReqT.row hi) (wrap_succ hi (by omega))⟩
 ·intro s _
  exact au_last (ge_len ReqT.row p.reqs)
structure AuS where
 us:List UseT
 ms:Int
 at_:Int
abbrev apT:List D:=mkT 84 0 [(4,.ref (.ptr 1 0)),(5,.ref (.ptr 2 0)),(8,.ref (.ptr 3 0)),(10,.ref (.ptr 4 0)),(13,.ref (.ptr 5 0)),(58,.fn (.func 65) [] [.ref (.ptr 8 0),.ref (.ptr 7 0)])]
noncomputable abbrev apL(st:LoopState):Blk:=.loop st none 0 apT #[59,60] (rfAsg (sub Tryz.f19 1)) (rfBody (sub Tryz.f19 1))
noncomputable abbrev apH(p:ProgT)(l:List AttT)(fl:List Int)(cut:List Bool)(s:AuS)(e:Nat)(st:LoopState)(more:List Blk):List Blk:=[.var p.l,.var [nq,int 0,nq],.var [int 0],.var [rowsD' (inR1 fl)],.var [.ref (.vec 6 e),int s.ms,rowsD' (rowsB cut)],.var [int s.at_],.vec (vecU s.us) e 3,.var p.l,.var [rowsD' (l.map AttT.row)],.defd,apL st]++more
abbrev apU(i k:Int):List D:=mkT 84 0 [(4,.ref (.ptr 1 0)),(5,.ref (.ptr 2 0)),(8,.ref (.ptr 3 0)),(10,.ref (.ptr 4 0)),(13,.ref (.ptr 5 0)),(14,int i),(15,int k)]
def apF(fl:List Int)(i k f:Int)(s:AuS):AuS:=match Dd (f>0) with
 | true=>⟨s.us++[⟨i,k,f⟩],IntKind.i64.wrap (s.ms - f),IntKind.i64.wrap (s.at_+1)⟩
 | false=>⟨s.us,s.ms,IntKind.i64.wrap (s.at_+1)⟩
theorem ap_asg{p:ProgT}{l:List AttT}{fl:List Int}{cut:List Bool}{s:AuS}{i k:Int}{a:AttT}:(CW Tryz.prog Γ0 (apH p l fl cut s 1 .ready [.var (a.row.map .p)]) true (rfAsg (sub Tryz.f19 1)) {t:=setAll apT [(59,int i),(60,int k)],h:=apH p l fl cut s 1 .ready [.var (a.row.map .p)],m:=[]} .normal {t:=apU i k,h:=apH p l fl cut s 1 .ready [.var (a.row.map .p)],m:=[]}):=by
 exact CW.cast (CW.symX (s':={t:=mkT 84 0 [(4,.ref (.ptr 1 0)),(5,.ref (.ptr 2 0)),(8,.ref (.ptr 3 0)),(10,.ref (.ptr 4 0)),(13,.ref (.ptr 5 0)),(14,int i),(15,int k)],h:=[.var [strD p.nm,int p.number,int p.uses,int p.earn,int p.num,int p.den,rowsD' (List.map ReqT.row p.reqs)],.var [nq,int 0,nq],.var [int 0],.var [rowsD' (inR1 fl)],.var [.ref (.vec 6 1),int s.ms,rowsD' (rowsB cut)],.var [int s.at_],.vec (vecU s.us) 1 3,.var [strD p.nm,int p.number,int p.uses,int p.earn,int p.num,int p.den,rowsD' (List.map ReqT.row p.reqs)],.var [rowsD' (List.map AttT.row l)],.defd,.loop LoopState.ready none 0 (mkT 84 0 [(4,.ref (.ptr 1 0)),(5,.ref (.ptr 2 0)),(8,.ref (.ptr 3 0)),(10,.ref (.ptr 4 0)),(13,.ref (.ptr 5 0)),(58,D.fn (Fn.func 65) [] [.ref (.ptr 8 0),.ref (.ptr 7 0)])]) {toList:=[59,60]} (rfAsg (sub Tryz.f19 1)) (rfBody (sub Tryz.f19 1)),.var [int a.course,int a.term,int a.grade,int a.campus,int a.credits]],m:=[]}) (e:=Exit.normal) pok [.st (.mask [4,5,8,10,13,14,15])] [] (by kernel_rfl) .n) (by rfl) (by rfl)
theorem ap_no{p:ProgT}{l:List AttT}{fl:List Int}{cut:List Bool}{s:AuS}{i k f:Int}{a:AttT}(hf:RowAt s.at_ (inR1 fl) [vi f] 1)(hg:Dd (f>0)=false):(CW Tryz.prog Γ0 (apH p l fl cut s 1 .ready [.var (a.row.map .p)]) true (rfBody (sub Tryz.f19 1)) {t:=apU i k,h:=apH p l fl cut s 1 .busy [.var (a.row.map .p)],m:=[]} .normal {t:=mkT 84 0 [],h:=apH p l fl cut ⟨s.us,s.ms,IntKind.i64.wrap (s.at_+1)⟩ 2 .busy [.var (a.row.map .p)],m:=[]}):=by
 exact CW.cast (CW.symX (s':={t:=mkT 84 0 [],h:=[.var [strD p.nm,int p.number,int p.uses,int p.earn,int p.num,int p.den,rowsD' (List.map ReqT.row p.reqs)],.var [nq,int 0,nq],.var [int 0],.var [rowsD' (inR1 fl)],.var [.ref (.vec 6 2),int s.ms,rowsD' (rowsB cut)],.var [int (IntKind.wrap IntKind.i64 (s.at_+1))],.vec (vecU s.us) 2 3,.var [strD p.nm,int p.number,int p.uses,int p.earn,int p.num,int p.den,rowsD' (List.map ReqT.row p.reqs)],.var [rowsD' (List.map AttT.row l)],.defd,.loop LoopState.busy none 0 (mkT 84 0 [(4,.ref (.ptr 1 0)),(5,.ref (.ptr 2 0)),(8,.ref (.ptr 3 0)),(10,.ref (.ptr 4 0)),(13,.ref (.ptr 5 0)),(58,D.fn (Fn.func 65) [] [.ref (.ptr 8 0),.ref (.ptr 7 0)])]) {toList:=[59,60]} (rfAsg (sub Tryz.f19 1)) (rfBody (sub Tryz.f19 1)),.var [int a.course,int a.term,int a.grade,int a.campus,int a.credits]],m:=[]}) (e:=Exit.normal) pok [.st (.mask []),.st (.ren 6 2)] [.row [vi f],.b false] (by kernel_rfl) (.c hf (.c hg (.c (show List.map (D.mapRL (renR 6 1 2)) (vecU s.us)=vecU s.us from(by first|assumption|rfl|exact vecU_map _ _)) .n)))) (by rfl) (by rfl)
theorem ap_yes{p:ProgT}{l:List AttT}{fl:List Int}{cut:List Bool}{s:AuS}{i k f:Int}{a:AttT}(hf:RowAt s.at_ (inR1 fl) [vi f] 1)(hg:Dd (f>0)=true)(hl:s.us.length≤1000000):(CW Tryz.prog Γ0 (apH p l fl cut s 1 .ready [.var (a.row.map .p)]) true (rfBody (sub Tryz.f19 1)) {t:=apU i k,h:=apH p l fl cut s 1 .busy [.var (a.row.map .p)],m:=[]} .normal {t:=mkT 84 0 [],h:=apH p l fl cut ⟨s.us++[⟨i,k,f⟩],IntKind.i64.wrap (s.ms - f),IntKind.i64.wrap (s.at_+1)⟩ 2 .busy [.var (a.row.map .p)],m:=[]}):=by
 refine CW.cast (CW.symX (s':={t:=mkT 84 0 [],h:=[.var [strD p.nm,int p.number,int p.uses,int p.earn,int p.num,int p.den,rowsD' (List.map ReqT.row p.reqs)],.var [nq,int 0,nq],.var [int 0],.var [rowsD' (inR1 fl)],.var [.ref (.vec 6 2),int (IntKind.wrap IntKind.i64 (s.ms - f)),rowsD' (rowsB cut)],.var [int (IntKind.wrap IntKind.i64 (s.at_+1))],.vec (vecU s.us++[[int i,int k,int f]]) 2 3,.var [strD p.nm,int p.number,int p.uses,int p.earn,int p.num,int p.den,rowsD' (List.map ReqT.row p.reqs)],.var [rowsD' (List.map AttT.row l)],.defd,.loop LoopState.busy none 0 (mkT 84 0 [(4,.ref (.ptr 1 0)),(5,.ref (.ptr 2 0)),(8,.ref (.ptr 3 0)),(10,.ref (.ptr 4 0)),(13,.ref (.ptr 5 0)),(58,D.fn (Fn.func 65) [] [.ref (.ptr 8 0),.ref (.ptr 7 0)])]) {toList:=[59,60]} (rfAsg (sub Tryz.f19 1)) (rfBody (sub Tryz.f19 1)),.var [int a.course,int a.term,int a.grade,int a.campus,int a.credits]],m:=[]}) (e:=Exit.normal) pok [.st (.mask []),.st (.trimV 12)] [.row [vi f],.b true] (by kernel_rfl) (.c hf (.c hg (.c (show(List.all [[int i,int k,int f]] (rowOk 3)&&roomOk (List.length (vecU s.us)+List.length [[int i,int k,int f]]) 24)=true from ?_) (.c (show Blk.inn 12 (.var [strD p.nm,int p.number,int p.uses,int p.earn,int p.num,int p.den,rowsD' (List.map ReqT.row p.reqs)])=true from rfl) (.c (show Blk.inn 12 (.var [nq,int 0,nq])=true from rfl) (.c (show Blk.inn 12 (.var [int 0])=true from rfl) (.c (show Blk.inn 12 (.var [rowsD' (inR1 fl)])=true from rfl) (.c (show Blk.inn 12 (.var [.ref (.vec 6 2),int (IntKind.wrap IntKind.i64 (s.ms - f)),rowsD' (rowsB cut)])=true from rfl) (.c (show Blk.inn 12 (.var [int (IntKind.wrap IntKind.i64 (s.at_+1))])=true from rfl) (.c (show Blk.inn 12 (.vec (vecU s.us++[[int i,int k,int f]]) 2 3)=true from ?_) (.c (show Blk.inn 12 (.var [strD p.nm,int p.number,int p.uses,int p.earn,int p.num,int p.den,rowsD' (List.map ReqT.row p.reqs)])=true from rfl) (.c (show Blk.inn 12 (.var [rowsD' (List.map AttT.row l)])=true from rfl) (.c (show Blk.inn 12 .defd=true from rfl) (.c (show Blk.inn 12 (.loop LoopState.busy none 0 (mkT 84 0 [(4,.ref (.ptr 1 0)),(5,.ref (.ptr 2 0)),(8,.ref (.ptr 3 0)),(10,.ref (.ptr 4 0)),(13,.ref (.ptr 5 0)),(58,D.fn (Fn.func 65) [] [.ref (.ptr 8 0),.ref (.ptr 7 0)])]) {toList:=[59,60]} (rfAsg (sub Tryz.f19 1)) (rfBody (sub Tryz.f19 1)))=true from rfl) (.c (show Blk.inn 12 (.var [int a.course,int a.term,int a.grade,int a.campus,int a.credits])=true from rfl) .n)))))))))))))))) (by simp only[vecU_app];first|done|rfl) (by simp only[vecU_app];first|done|rfl)<;>(first|assumption|rfl|exact vecU_map _ _|exact vecU_inn _ _|(rw[vecU_app];exact vecU_map _ _)|(rw[vecU_app];exact vecU_inn _ _)|(simp[rowOk,D.one,Value.oneCell',roomOk,vecU_len];omega))
theorem apIv_ev{p:ProgT}{l:List AttT}{fl:List Int}{cut:List Bool}{s:AuS}{i k f:Int}{a:AttT}(hf:RowAt s.at_ (inR1 fl) [vi f] 1)(hl:s.us.length≤1000000):Iv Tryz.prog Γ0 (.ref (.yl 10)) [int i,int k] (apH p l fl cut s 1 .ready [.var (a.row.map .p)]) (bool true) (apH p l fl cut (apF fl i k f s) 2 .ready [.var (a.row.map .p)]):=by
 unfold apF
 cases hg:Dd (f>0) with
 | true=>exact Iv.round (h1:=apH p l fl cut s 1 .ready [.var (a.row.map .p)]) rfl rfl ap_asg rfl (ap_yes hf hg hl) rfl
 | false=>exact Iv.round (h1:=apH p l fl cut s 1 .ready [.var (a.row.map .p)]) rfl rfl ap_asg rfl (ap_no hf hg) rfl
noncomputable abbrev a2S(p:ProgT)(l:List AttT)(fl:List Int)(cut:List Bool)(a:AttT)(ks:List Int)(i:Int)(s:AuS)(j:Int):AS:={t:=mkT 30 0 [(0,.ref (.yl 10)),(1,.ref (.ptr 8 0)),(2,.ref (.ptr 7 0)),(4,int i),(8,rowsD' (l.map AttT.row)),(9,int ((l.map AttT.row).length:Int)),(10,int i),(17,rowsD' (inR1 ks)),(18,int ((inR1 ks).length:Int)),(19,int j)],h:=apH p l fl cut s 1 .ready [.var (a.row.map .p)],m:=[]}
noncomputable abbrev a2E(p:ProgT)(l:List AttT)(fl:List Int)(cut:List Bool)(a:AttT)(i:Int)(s:AuS):AS:={t:=mkT 30 0 [(0,.ref (.yl 10)),(1,.ref (.ptr 8 0)),(2,.ref (.ptr 7 0)),(8,rowsD' (l.map AttT.row)),(9,int ((l.map AttT.row).length:Int)),(10,int i)],h:=apH p l fl cut s 1 .ready [.var (a.row.map .p)],m:=[]}
theorem a2_body{p:ProgT}{l:List AttT}{fl:List Int}{cut:List Bool}{a:AttT}{ks:List Int}{s0 s:AuS}{i k f:Int}{j:Nat}(hf:RowAt s.at_ (inR1 fl) [vi f] 1)(hk:RowAt (j:Int) (inR1 ks) [vi k] 1)(hlt:Dd ((j:Int)<((inR1 ks).length:Int))=true)(hw:IntKind.i64.wrap ((j:Int)+1)=((j+1:Nat):Int))(hl:s.us.length≤1000000):(CW Tryz.prog Γ0 (apH p l fl cut s0 0 .ready []) false (sub Tryz.f65 1) (a2S p l fl cut a ks i s j) .normal (a2S p l fl cut a ks i (apF fl i k f s) ((j+1:Nat):Int))):=by
 refine CW.cast (CW.symX (s':={t:=mkT 30 0 [(0,.ref (.yl 10)),(1,.ref (.ptr 8 0)),(2,.ref (.ptr 7 0)),(4,int i),(8,rowsD' (List.map AttT.row l)),(9,int (↑(List.length (List.map AttT.row l)):Int)),(10,int i),(17,rowsD' (inR1 ks)),(18,int (↑(List.length (inR1 ks)):Int)),(19,int (IntKind.wrap IntKind.i64 ((↑j:Int)+1)))],h:=[.var [strD p.nm,int p.number,int p.uses,int p.earn,int p.num,int p.den,rowsD' (List.map ReqT.row p.reqs)],.var [nq,int 0,nq],.var [int 0],.var [rowsD' (inR1 fl)],.var [.ref (.vec 6 1),int (apF fl i k f s).ms,rowsD' (rowsB cut)],.var [int (apF fl i k f s).at_],.vec (vecU (apF fl i k f s).us) 1 3,.var [strD p.nm,int p.number,int p.uses,int p.earn,int p.num,int p.den,rowsD' (List.map ReqT.row p.reqs)],.var [rowsD' (List.map AttT.row l)],.defd,.loop LoopState.ready none 0 (mkT 84 0 [(4,.ref (.ptr 1 0)),(5,.ref (.ptr 2 0)),(8,.ref (.ptr 3 0)),(10,.ref (.ptr 4 0)),(13,.ref (.ptr 5 0)),(58,D.fn (Fn.func 65) [] [.ref (.ptr 8 0),.ref (.ptr 7 0)])]) {toList:=[59,60]} (rfAsg (sub Tryz.f19 1)) (rfBody (sub Tryz.f19 1)),.var [int a.course,int a.term,int a.grade,int a.campus,int a.credits]],m:=[]}) (e:=Exit.normal) pok [.st (.mask [0,1,2,4,8,9,10,17,18,19]),.st (.ren 6 1)] [.b true,.row [vi k],.inv (bool true) [.var [strD p.nm,int p.number,int p.uses,int p.earn,int p.num,int p.den,rowsD' (List.map ReqT.row p.reqs)],.var [nq,int 0,nq],.var [int 0],.var [rowsD' (inR1 fl)],.var [.ref (.vec 6 2),int (apF fl i k f s).ms,rowsD' (rowsB cut)],.var [int (apF fl i k f s).at_],.vec (vecU (apF fl i k f s).us) 2 3,.var [strD p.nm,int p.number,int p.uses,int p.earn,int p.num,int p.den,rowsD' (List.map ReqT.row p.reqs)],.var [rowsD' (List.map AttT.row l)],.defd,.loop LoopState.ready none 0 (mkT 84 0 [(4,.ref (.ptr 1 0)),(5,.ref (.ptr 2 0)),(8,.ref (.ptr 3 0)),(10,.ref (.ptr 4 0)),(13,.ref (.ptr 5 0)),(58,D.fn (Fn.func 65) [] [.ref (.ptr 8 0),.ref (.ptr 7 0)])]) {toList:=[59,60]} (rfAsg (sub Tryz.f19 1)) (rfBody (sub Tryz.f19 1)),.var [int a.course,int a.term,int a.grade,int a.campus,int a.credits]],.b false] (by kernel_rfl) (.c hlt (.c hk (.c (@apIv_ev (p) (l) (fl) (cut) (s) (i) (k) (f) (a) (hf) (hl)) (.c (show(!true)=false from rfl) (.c (show List.map (D.mapRL (renR 6 2 1)) (vecU (apF fl i k f s).us)=vecU (apF fl i k f s).us from(by first|assumption|rfl|exact vecU_map _ _|exact vecU_inn _ _|omega)) .n)))))) ?_ ?_<;>(first|rfl|(rw[hw]<;>rfl))
theorem a2_last{p:ProgT}{l:List AttT}{fl:List Int}{cut:List Bool}{a:AttT}{ks:List Int}{s0 s:AuS}{i:Int}{j:Nat}(hlt:Dd ((j:Int)<((inR1 ks).length:Int))=false):(CW Tryz.prog Γ0 (apH p l fl cut s0 0 .ready []) false (sub Tryz.f65 1) (a2S p l fl cut a ks i s j) (.exit 2) (a2E p l fl cut a i s)):=by
 exact CW.cast (CW.symX (s':={t:=mkT 30 0 [(0,.ref (.yl 10)),(1,.ref (.ptr 8 0)),(2,.ref (.ptr 7 0)),(8,rowsD' (List.map AttT.row l)),(9,int (↑(List.length (List.map AttT.row l)):Int)),(10,int i)],h:=[.var [strD p.nm,int p.number,int p.uses,int p.earn,int p.num,int p.den,rowsD' (List.map ReqT.row p.reqs)],.var [nq,int 0,nq],.var [int 0],.var [rowsD' (inR1 fl)],.var [.ref (.vec 6 1),int s.ms,rowsD' (rowsB cut)],.var [int s.at_],.vec (vecU s.us) 1 3,.var [strD p.nm,int p.number,int p.uses,int p.earn,int p.num,int p.den,rowsD' (List.map ReqT.row p.reqs)],.var [rowsD' (List.map AttT.row l)],.defd,.loop LoopState.ready none 0 (mkT 84 0 [(4,.ref (.ptr 1 0)),(5,.ref (.ptr 2 0)),(8,.ref (.ptr 3 0)),(10,.ref (.ptr 4 0)),(13,.ref (.ptr 5 0)),(58,D.fn (Fn.func 65) [] [.ref (.ptr 8 0),.ref (.ptr 7 0)])]) {toList:=[59,60]} (rfAsg (sub Tryz.f19 1)) (rfBody (sub Tryz.f19 1)),.var [int a.course,int a.term,int a.grade,int a.campus,int a.credits]],m:=[]}) (e:=Exit.exit 2) pok [.st (.mask [0,1,2,8,9,10])] [.b false] (by kernel_rfl) (.c hlt .n)) (by rfl) (by rfl)
def apG(fl:List Int)(i:Int)(s:AuS)(k:Int):AuS:=apF fl i k (fl.getD s.at_.toNat 0) s
theorem apG_at{fl:List Int}{i k:Int}{s:AuS}{c:Nat}(h:s.at_=c)(hc:c≤1000000):(apG fl i s k).at_=((c+1:Nat):Int):=by
 have hw:IntKind.i64.wrap (s.at_+1)=((c+1:Nat):Int):=by rw[h];exact wrap_i64 (by omega) (by omega)
 unfold apG apF
 split<;>exact hw
theorem apG_us{fl:List Int}{i k:Int}{s:AuS}:(apG fl i s k).us.length≤s.us.length+1:=by
 unfold apG apF
 split
 ·simp
 ·simp only;omega
theorem apGs{fl:List Int}{i:Int}:∀(ks:List Int) (s:AuS) (c:Nat),s.at_=c→c+ks.length≤1000000→(ks.foldl (apG fl i) s).at_=((c+ks.length:Nat):Int)∧(ks.foldl (apG fl i) s).us.length≤s.us.length+ks.length
 | [],s,c,h,_=>⟨h,by simp⟩
 | k::ks,s,c,h,hc=>by
  simp only[List.length_cons] at hc
  obtain⟨a,b⟩:=apGs ks (apG fl i s k) (c+1) (apG_at h (by omega)) (by omega)
  have:=apG_us (fl:=fl) (i:=i) (k:=k) (s:=s)
  rw[List.foldl_cons]
  refine⟨by rw[a,List.length_cons];congr 1;omega,?_⟩
  simp only[List.length_cons];omega
theorem a2_cw{p:ProgT}{l:List AttT}{fl:List Int}{cut:List Bool}{a:AttT}{ks:List Int}{s0 s:AuS}{i:Int}{c:Nat}(hs:s.at_=c)(hb:c+ks.length≤fl.length)(hfl:fl.length≤100000)(hus:s.us.length≤100000):CW Tryz.prog Γ0 (apH p l fl cut s0 0 .ready []) false (.loop (sub Tryz.f65 1)) (a2S p l fl cut a ks i s 0) (.exit 2) (a2E p l fl cut a i (ks.foldl (apG fl i) s)):=by
 have:=CW.each (P:=Tryz.prog) (Γ:=Γ0) (h0:=apH p l fl cut s0 0 .ready []) (rd:=false) (c:=sub Tryz.f65 1) (σ:=AuS) (ρ:=Empty) ks (fun k s=>.inl (apG fl i s k))
  (fun j s=>a2S p l fl cut a ks i s (j:Int)) (.exit 2) (fun s=>a2E p l fl cut a i s) (fun r=>r.elim) (fun j s=>s.at_=((c+j:Nat):Int)∧s.us.length≤100000+j) (by simp) (fun r=>r.elim) ?_ ?_ s ⟨by simpa using hs,by omega⟩
 ·rw[forL_fold] at this
  exact this
 ·rintro j k s hk ⟨h1,h2⟩
  have hi:=(List.getElem?_eq_some_iff.1 hk).1
  have hg:fl[c+j]? = some (fl.getD s.at_.toNat 0):=by
   rw[h1,Int.toNat_natCast]
   simp only[List.getD,List.getElem?_eq_getElem (show c+j<fl.length by omega),Option.getD_some]
  have hf:=rowAt (row:=fun n:Int=>[vi n]) (sz:=1) hg rfl
  rw[←h1] at hf
  refine⟨fun s' h=>?_,a2_body hf (rowAt (row:=fun n:Int=>[vi n]) hk rfl) (lt_len (fun n:Int=>[vi n]) hi) (wrap_succ hi (by omega)) (by omega)⟩
  cases h
  refine⟨apG_at h1 (show c+j≤1000000 by omega),?_⟩
  have:=apG_us (fl:=fl) (i:=i) (k:=k) (s:=s)
  omega
 ·intro s _
  exact a2_last (ge_len (fun n:Int=>[vi n]) ks)
noncomputable abbrev a3S(p:ProgT)(l:List AttT)(fl:List Int)(cut:List Bool)(s:AuS)(i:Int):AS:={t:=mkT 30 0 [(0,.ref (.yl 10)),(1,.ref (.ptr 8 0)),(2,.ref (.ptr 7 0)),(8,rowsD' (l.map AttT.row)),(9,int ((l.map AttT.row).length:Int)),(10,int i)],h:=apH p l fl cut s 1 .ready [],m:=[]}
noncomputable abbrev a3E(p:ProgT)(l:List AttT)(fl:List Int)(cut:List Bool)(s:AuS):AS:={t:=mkT 30 0 [],h:=apH p l fl cut s 1 .ready [],m:=[]}
def a3F(p:ProgT)(fl:List Int)(s:AuS×Int)(a:AttT):AuS×Int:=((elR p a).foldl (apG fl s.2) s.1,s.2+1)
noncomputable abbrev a3_body_x0(p:ProgT)(l:List AttT)(fl:List Int)(cut:List Bool)(a:AttT)(s:AuS):List Blk:=[.var [strD p.nm,int p.number,int p.uses,int p.earn,int p.num,int p.den,rowsD' (List.map ReqT.row p.reqs)],.var [nq,int 0,nq],.var [int 0],.var [rowsD' (inR1 fl)],.var [.ref (.vec 6 1),int s.ms,rowsD' (rowsB cut)],.var [int s.at_],.vec (vecU s.us) 1 3,.var [strD p.nm,int p.number,int p.uses,int p.earn,int p.num,int p.den,rowsD' (List.map ReqT.row p.reqs)],.var [rowsD' (List.map AttT.row l)],.defd,.loop LoopState.ready none 0 (mkT 84 0 [(4,.ref (.ptr 1 0)),(5,.ref (.ptr 2 0)),(8,.ref (.ptr 3 0)),(10,.ref (.ptr 4 0)),(13,.ref (.ptr 5 0)),(58,D.fn (Fn.func 65) [] [.ref (.ptr 8 0),.ref (.ptr 7 0)])]) {toList:=[59,60]} (rfAsg (sub Tryz.f19 1)) (rfBody (sub Tryz.f19 1)),.var [int a.course,int a.term,int a.grade,int a.campus,int a.credits]]
theorem a3_body{p:ProgT}{l:List AttT}{fl:List Int}{cut:List Bool}{a:AttT}{s0 s:AuS}{i c:Nat}(hp:p.ok)(hn:p.reqs.length≤1000)(hr:RowAt (i:Int) (l.map AttT.row) a.row 5)(hlt:Dd ((i:Int)<((l.map AttT.row).length:Int))=true)(hw:IntKind.i64.wrap ((i:Int)+1)=((i+1:Nat):Int))
  (hcw:CW Tryz.prog Γ0 (apH p l fl cut s0 0 .ready []) false (.loop (sub Tryz.f65 1)) (a2S p l fl cut a (elR p a) i s 0) (.exit 2) (a2E p l fl cut a i ((elR p a).foldl (apG fl (i:Int)) s))):(CW Tryz.prog Γ0 (apH p l fl cut s0 0 .ready []) false (sub Tryz.f65 0) (a3S p l fl cut s i) .normal (a3S p l fl cut (a3F p fl (s,(i:Int)) a).1 ((i+1:Nat):Int))):=by
 have hl0:=(@hcw)
 refine CW.cast (CW.symX (s':={t:=mkT 30 0 [(0,.ref (.yl 10)),(1,.ref (.ptr 8 0)),(2,.ref (.ptr 7 0)),(8,rowsD' (List.map AttT.row l)),(9,int (↑(List.length (List.map AttT.row l)):Int)),(10,int (IntKind.wrap IntKind.i64 ((↑i:Int)+1)))],h:=[.var [strD p.nm,int p.number,int p.uses,int p.earn,int p.num,int p.den,rowsD' (List.map ReqT.row p.reqs)],.var [nq,int 0,nq],.var [int 0],.var [rowsD' (inR1 fl)],.var [.ref (.vec 6 1),int (List.foldl (apG fl (↑i:Int)) s (elR p a)).ms,rowsD' (rowsB cut)],.var [int (List.foldl (apG fl (↑i:Int)) s (elR p a)).at_],.vec (vecU (List.foldl (apG fl (↑i:Int)) s (elR p a)).us) 1 3,.var [strD p.nm,int p.number,int p.uses,int p.earn,int p.num,int p.den,rowsD' (List.map ReqT.row p.reqs)],.var [rowsD' (List.map AttT.row l)],.defd,.loop LoopState.ready none 0 (mkT 84 0 [(4,.ref (.ptr 1 0)),(5,.ref (.ptr 2 0)),(8,.ref (.ptr 3 0)),(10,.ref (.ptr 4 0)),(13,.ref (.ptr 5 0)),(58,D.fn (Fn.func 65) [] [.ref (.ptr 8 0),.ref (.ptr 7 0)])]) {toList:=[59,60]} (rfAsg (sub Tryz.f19 1)) (rfBody (sub Tryz.f19 1))],m:=[]}) (e:=Exit.normal) pok [.st (.mask [0,1,2,8,9,10]),.st (.trimV 11)] [.b true,.row (AttT.row a),.val (rowsD' (inR1 (elR p a))),.sum [0,1,2,4,8,9,10,17,18,19] (Exit.exit 2) {t:=mkT 30 0 [(0,.ref (.yl 10)),(1,.ref (.ptr 8 0)),(2,.ref (.ptr 7 0)),(8,rowsD' (List.map AttT.row l)),(9,int (↑(List.length (List.map AttT.row l)):Int)),(10,int (↑i:Int))],h:=[.var [strD p.nm,int p.number,int p.uses,int p.earn,int p.num,int p.den,rowsD' (List.map ReqT.row p.reqs)],.var [nq,int 0,nq],.var [int 0],.var [rowsD' (inR1 fl)],.var [.ref (.vec 6 1),int (List.foldl (apG fl (↑i:Int)) s (elR p a)).ms,rowsD' (rowsB cut)],.var [int (List.foldl (apG fl (↑i:Int)) s (elR p a)).at_],.vec (vecU (List.foldl (apG fl (↑i:Int)) s (elR p a)).us) 1 3,.var [strD p.nm,int p.number,int p.uses,int p.earn,int p.num,int p.den,rowsD' (List.map ReqT.row p.reqs)],.var [rowsD' (List.map AttT.row l)],.defd,.loop LoopState.ready none 0 (mkT 84 0 [(4,.ref (.ptr 1 0)),(5,.ref (.ptr 2 0)),(8,.ref (.ptr 3 0)),(10,.ref (.ptr 4 0)),(13,.ref (.ptr 5 0)),(58,D.fn (Fn.func 65) [] [.ref (.ptr 8 0),.ref (.ptr 7 0)])]) {toList:=[59,60]} (rfAsg (sub Tryz.f19 1)) (rfBody (sub Tryz.f19 1)),.var [int a.course,int a.term,int a.grade,int a.campus,int a.credits]],m:=[]}] (by kernel_rfl) (.c hlt (.c hr (.c (@eligible_ev (p) (hp) (hn) (a) ((a3_body_x0 p l fl cut a s))) (.c hl0 (.c (show Blk.inn 11 (.var [strD p.nm,int p.number,int p.uses,int p.earn,int p.num,int p.den,rowsD' (List.map ReqT.row p.reqs)])=true from rfl) (.c (show Blk.inn 11 (.var [nq,int 0,nq])=true from rfl) (.c (show Blk.inn 11 (.var [int 0])=true from rfl) (.c (show Blk.inn 11 (.var [rowsD' (inR1 fl)])=true from rfl) (.c (show Blk.inn 11 (.var [.ref (.vec 6 1),int (List.foldl (apG fl (↑i:Int)) s (elR p a)).ms,rowsD' (rowsB cut)])=true from rfl) (.c (show Blk.inn 11 (.var [int (List.foldl (apG fl (↑i:Int)) s (elR p a)).at_])=true from rfl) (.c (show Blk.inn 11 (.vec (vecU (List.foldl (apG fl (↑i:Int)) s (elR p a)).us) 1 3)=true from(by first|assumption|rfl|exact vecU_map _ _|exact vecU_inn _ _|omega)) (.c (show Blk.inn 11 (.var [strD p.nm,int p.number,int p.uses,int p.earn,int p.num,int p.den,rowsD' (List.map ReqT.row p.reqs)])=true from rfl) (.c (show Blk.inn 11 (.var [rowsD' (List.map AttT.row l)])=true from rfl) (.c (show Blk.inn 11 .defd=true from rfl) (.c (show Blk.inn 11 (.loop LoopState.ready none 0 (mkT 84 0 [(4,.ref (.ptr 1 0)),(5,.ref (.ptr 2 0)),(8,.ref (.ptr 3 0)),(10,.ref (.ptr 4 0)),(13,.ref (.ptr 5 0)),(58,D.fn (Fn.func 65) [] [.ref (.ptr 8 0),.ref (.ptr 7 0)])]) {toList:=[59,60]} (rfAsg (sub Tryz.f19 1)) (rfBody (sub Tryz.f19 1)))=true from rfl) .n)))))))))))))))) ?_ ?_<;>(first|rfl|(simp only[a3F,hw];first|done|rfl))
theorem a3_last{p:ProgT}{l:List AttT}{fl:List Int}{cut:List Bool}{s0 s:AuS}{i:Nat}(hlt:Dd ((i:Int)<((l.map AttT.row).length:Int))=false):(CW Tryz.prog Γ0 (apH p l fl cut s0 0 .ready []) false (sub Tryz.f65 0) (a3S p l fl cut s i) (.exit 0) (a3E p l fl cut s)):=by
 exact CW.cast (CW.symX (s':={t:=mkT 30 0 [],h:=[.var [strD p.nm,int p.number,int p.uses,int p.earn,int p.num,int p.den,rowsD' (List.map ReqT.row p.reqs)],.var [nq,int 0,nq],.var [int 0],.var [rowsD' (inR1 fl)],.var [.ref (.vec 6 1),int s.ms,rowsD' (rowsB cut)],.var [int s.at_],.vec (vecU s.us) 1 3,.var [strD p.nm,int p.number,int p.uses,int p.earn,int p.num,int p.den,rowsD' (List.map ReqT.row p.reqs)],.var [rowsD' (List.map AttT.row l)],.defd,.loop LoopState.ready none 0 (mkT 84 0 [(4,.ref (.ptr 1 0)),(5,.ref (.ptr 2 0)),(8,.ref (.ptr 3 0)),(10,.ref (.ptr 4 0)),(13,.ref (.ptr 5 0)),(58,D.fn (Fn.func 65) [] [.ref (.ptr 8 0),.ref (.ptr 7 0)])]) {toList:=[59,60]} (rfAsg (sub Tryz.f19 1)) (rfBody (sub Tryz.f19 1))],m:=[]}) (e:=Exit.exit 0) pok [.st (.mask [])] [.b false] (by kernel_rfl) (.c hlt .n)) (by rfl) (by rfl)
def pairsN(p:ProgT)(l:List AttT):Nat:=(l.map fun a=>(elR p a).length).sum
theorem a3_cw{p:ProgT}(hp:p.ok){l:List AttT}{fl:List Int}{cut:List Bool}{s0 s:AuS}{c:Nat}(hn:p.reqs.length≤100)(hl:l.length≤100)(hs:s.at_=c)(hb:c+pairsN p l≤fl.length)(hfl:fl.length≤50000)(hus:s.us=[]):CW Tryz.prog Γ0 (apH p l fl cut s0 0 .ready []) false (.loop (sub Tryz.f65 0)) (a3S p l fl cut s 0) (.exit 0) (a3E p l fl cut (l.foldl (a3F p fl) (s,0)).1):=by
 have:=CW.each (P:=Tryz.prog) (Γ:=Γ0) (h0:=apH p l fl cut s0 0 .ready []) (rd:=false) (c:=sub Tryz.f65 0) (σ:=AuS×Int) (ρ:=Empty) l (fun a s=>.inl (a3F p fl s a))
  (fun i s=>a3S p l fl cut s.1 (i:Int)) (.exit 0) (fun s=>a3E p l fl cut s.1) (fun r=>r.elim) (fun i s=>s.2=i∧∃c:Nat,s.1.at_=c∧c+pairsN p (l.drop i)≤fl.length∧s.1.us.length≤c) (by simp) (fun r=>r.elim) ?_ ?_ (s,0) ⟨by simp,c,hs,by simpa using hb,by simp[hus]⟩
 ·rw[forL_fold] at this
  exact this
 ·rintro i a ⟨s,k⟩ hc ⟨hk,c,h1,h2,h3⟩
  simp only at hk h1 h3
  subst hk
  have hi:=(List.getElem?_eq_some_iff.1 hc).1
  have hd:l.drop i=a::l.drop (i+1):=by
   rw[List.drop_eq_getElem_cons hi]
   congr 1
   exact(List.getElem?_eq_some_iff.1 hc).2
  have h4:pairsN p (l.drop i)=(elR p a).length+pairsN p (l.drop (i+1)):=by rw[hd];simp[pairsN]
  have h5:=elR_len p a
  refine⟨fun s' h=>?_,a3_body (c:=c) hp (by omega) (rowAt hc rfl) (lt_len AttT.row hi) (wrap_succ hi (by omega)) (a2_cw (s:=s) h1 (show c+(elR p a).length≤fl.length by omega) (by omega) (show s.us.length≤100000 by omega))⟩
  cases h
  obtain⟨g1,g2⟩:=apGs (fl:=fl) (i:=(i:Int)) (elR p a) s c h1 (by omega)
  exact⟨by simp[a3F],c+(elR p a).length,g1,by omega,by simp only[a3F];omega⟩
 ·intro s _
  exact a3_last (ge_len AttT.row l)
theorem apiter_a{p:ProgT}{l:List AttT}{fl:List Int}{cut:List Bool}{s0 s:AuS}
  (hcw:CW Tryz.prog Γ0 (apH p l fl cut s0 0 .ready []) false (.loop (sub Tryz.f65 0)) (a3S p l fl cut s0 0) (.exit 0) (a3E p l fl cut s)):(Ev Tryz.prog Γ0 65 [.ref (.yl 10),.ref (.ptr 8 0),.ref (.ptr 7 0)] (apH p l fl cut s0 0 .ready []) (.tup []) (apH p l fl cut s 1 .ready [])):=by
 have hl0:=(@hcw)
 exact Ev.castH (Ev.of_sym (h':=[.var [strD p.nm,int p.number,int p.uses,int p.earn,int p.num,int p.den,rowsD' (List.map ReqT.row p.reqs)],.var [nq,int 0,nq],.var [int 0],.var [rowsD' (inR1 fl)],.var [.ref (.vec 6 1),int s.ms,rowsD' (rowsB cut)],.var [int s.at_],.vec (vecU s.us) 1 3,.var [strD p.nm,int p.number,int p.uses,int p.earn,int p.num,int p.den,rowsD' (List.map ReqT.row p.reqs)],.var [rowsD' (List.map AttT.row l)],.defd,.loop LoopState.ready none 0 (mkT 84 0 [(4,.ref (.ptr 1 0)),(5,.ref (.ptr 2 0)),(8,.ref (.ptr 3 0)),(10,.ref (.ptr 4 0)),(13,.ref (.ptr 5 0)),(58,D.fn (Fn.func 65) [] [.ref (.ptr 8 0),.ref (.ptr 7 0)])]) {toList:=[59,60]} (rfAsg (sub Tryz.f19 1)) (rfBody (sub Tryz.f19 1))]) (d:=D.tup []) pok [.nx 1,.st (.ren 6 1),.sum [0,1,2,8,9,10] (Exit.exit 0) {t:=mkT 30 0 [],h:=[.var [strD p.nm,int p.number,int p.uses,int p.earn,int p.num,int p.den,rowsD' (List.map ReqT.row p.reqs)],.var [nq,int 0,nq],.var [int 0],.var [rowsD' (inR1 fl)],.var [.ref (.vec 6 1),int s.ms,rowsD' (rowsB cut)],.var [int s.at_],.vec (vecU s.us) 1 3,.var [strD p.nm,int p.number,int p.uses,int p.earn,int p.num,int p.den,rowsD' (List.map ReqT.row p.reqs)],.var [rowsD' (List.map AttT.row l)],.defd,.loop LoopState.ready none 0 (mkT 84 0 [(4,.ref (.ptr 1 0)),(5,.ref (.ptr 2 0)),(8,.ref (.ptr 3 0)),(10,.ref (.ptr 4 0)),(13,.ref (.ptr 5 0)),(58,D.fn (Fn.func 65) [] [.ref (.ptr 8 0),.ref (.ptr 7 0)])]) {toList:=[59,60]} (rfAsg (sub Tryz.f19 1)) (rfBody (sub Tryz.f19 1))],m:=[]}] (by kernel_rfl) (.c (show List.map (D.mapRL (renR 6 0 1)) (vecU s0.us)=vecU s0.us from(by first|assumption|rfl|exact vecU_map _ _|exact vecU_inn _ _|omega)) (.c hl0 .n))) (by rfl) (by rfl)
noncomputable abbrev apH0(p:ProgT)(l:List AttT)(fl:List Int)(cut:List Bool)(s:AuS):List Blk:=[.var p.l,.var [nq,int 0,nq],.var [int 0],.var [rowsD' (inR1 fl)],.var [.ref (.vec 6 0),int s.ms,rowsD' (rowsB cut)],.var [int s.at_],.vec (vecU s.us) 0 3,.var p.l,.var [rowsD' (l.map AttT.row)]]
theorem ap_rf_a{p:ProgT}(hp:p.ok){l:List AttT}{fl:List Int}{cut:List Bool}{s:AuS}{c:Nat}{h0:List Blk}(hn:p.reqs.length≤100)(hl:l.length≤100)(hs:s.at_=c)(hb:c+pairsN p l≤fl.length)(hfl:fl.length≤50000)(hus:s.us=[]):CW Tryz.prog Γ0 h0 false (sub Tryz.f19 1) {t:=apT,h:=apH0 p l fl cut s,m:=[]} .normal
  {t:=apT,h:=apH p l fl cut (l.foldl (a3F p fl) (s,0)).1 1 .exhausted [],m:=[9]} :=
 CW.rangeFunc (f:=65) (fi:=[]) (ca:=[.ref (.ptr 8 0),.ref (.ptr 7 0)]) pok (s:={t:=apT,h:=apH0 p l fl cut s,m:=[]}) (g:=.tmp 58) (ps:=#[59,60]) (asg:=rfAsg (sub Tryz.f19 1)) (body:=rfBody (sub Tryz.f19 1)) rfl (by kernel_rfl) (apiter_a (a3_cw hp hn hl hs hb hfl hus)) rfl
theorem try0_ev(h:List Blk):(Ev Tryz.prog Γ0 41 [int 0] h (.tup []) h):=by
 exact Ev.castH (Ev.sym0 (d:=D.tup []) pok [.inl,.b false] (by kernel_rfl) (.c (show(!0==0)=false from rfl) .n) rfl rfl h) (by rfl) (by rfl)
abbrev adT(l:List AttT):List D:=mkT 84 0 [(1,rowsD' (l.map AttT.row)),(2,.ref (.ptr 0 0)),(4,.ref (.ptr 1 0)),(5,.ref (.ptr 2 0))]
abbrev adH(p:ProgT)(e:Int):List Blk:=[.var p.l,.var [nq,int 0,nq],.var [int e]]
noncomputable abbrev ad_ok_x0(p:ProgT)(fl:List Int):List Blk:=[.var [strD p.nm,int p.number,int p.uses,int p.earn,int p.num,int p.den,rowsD' (List.map ReqT.row p.reqs)],.var [nq,int 0,nq],.var [int 0],.var [rowsD' (inR1 fl)]]
noncomputable abbrev ad_ok_x1(p:ProgT):List Blk:=[.var [strD p.nm,int p.number,int p.uses,int p.earn,int p.num,int p.den,rowsD' (List.map ReqT.row p.reqs)],.var [nq,int 0,nq],.var [int 0]]
theorem ad_ok{p:ProgT}{l:List AttT}{es:List EdgT}{n ms:Int}{fl:List Int}{cut:List Bool}{s:AuS}
  (hnet:∀h,Ev Tryz.prog Γ0 16 [.agg p.l,rowsD' (l.map AttT.row)] h (.tup [int n,rowsD' (es.map EdgT.row),int 0]) h)
  (hmax:∀h,Ev Tryz.prog Γ0 42 [int n,rowsD' (es.map EdgT.row),int 0,int (IntKind.i64.wrap (n - 1))] h (.tup [rowsD' (inR1 fl),rowsD' (rowsB cut),int 0]) h)
  (hl1:CW Tryz.prog Γ0 (adH p 0) false (.loop (sub Tryz.f19 0)) (auS p l fl 0 cut 0) (.exit 0) (auE p l fl ms cut))
  (hrf:CW Tryz.prog Γ0 (adH p 0) false (sub Tryz.f19 1) {t:=apT,h:=[.var p.l,.var [nq,int 0,nq],.var [int 0],.var [rowsD' (inR1 fl)],.var [.ref (.vec 6 0),int ms,rowsD' (rowsB cut)],.var [int ((l.map AttT.row).length:Int)],.vec [] 0 3,.var p.l,.var [rowsD' (l.map AttT.row)]],m:=[]} .normal {t:=apT,h:=apH p l fl cut s 1 .exhausted [],m:=[9]}):(CW Tryz.prog Γ0 (adH p 0) false (cR (cR (bodyC Tryz.f19))) {t:=adT l,h:=adH p 0,m:=[]} .ret
   {t:=mkT 84 0 [(4,.ref (.ptr 1 0)),(5,.ref (.ptr 2 0))],h:=[.var p.l,.var [rowsD' (s.us.map UseT.row),int s.ms,rowsD' (rowsB cut)],.var [int 0],.var [rowsD' (inR1 fl)],.var [rowsD' (s.us.map UseT.row),int s.ms,rowsD' (rowsB cut)],.var [int s.at_],.gone,.var p.l,.var [rowsD' (l.map AttT.row)],.defd,apL .exhausted],m:=[9]}):=by
 have hl0:=(@hl1)
 have hl1:=(@hrf)
 exact CW.cast (CW.symX (s':={t:=mkT 84 0 [(4,.ref (.ptr 1 0)),(5,.ref (.ptr 2 0))],h:=[.var [strD p.nm,int p.number,int p.uses,int p.earn,int p.num,int p.den,rowsD' (List.map ReqT.row p.reqs)],.var [rowsD' (List.map UseT.row s.us),int s.ms,rowsD' (rowsB cut)],.var [int 0],.var [rowsD' (inR1 fl)],.var [rowsD' (List.map UseT.row s.us),int s.ms,rowsD' (rowsB cut)],.var [int s.at_],.gone,.var [strD p.nm,int p.number,int p.uses,int p.earn,int p.num,int p.den,rowsD' (List.map ReqT.row p.reqs)],.var [rowsD' (List.map AttT.row l)],.defd,.loop LoopState.exhausted none 0 (mkT 84 0 [(4,.ref (.ptr 1 0)),(5,.ref (.ptr 2 0)),(8,.ref (.ptr 3 0)),(10,.ref (.ptr 4 0)),(13,.ref (.ptr 5 0)),(58,D.fn (Fn.func 65) [] [.ref (.ptr 8 0),.ref (.ptr 7 0)])]) {toList:=[59,60]} (rfAsg (sub Tryz.f19 1)) (rfBody (sub Tryz.f19 1))],m:=[9]}) (e:=Exit.ret) pok [.st (.mask [4,5]),.st (.frz 6 (List.map UseT.row s.us))] [.val (D.tup [int n,rowsD' (List.map EdgT.row es),int 0]),.val (D.tup []),.val (D.tup [rowsD' (inR1 fl),rowsD' (rowsB cut),int 0]),.val (D.tup []),.sum [1,2,4,5,8,10,41,42,43] (Exit.exit 0) {t:=mkT 84 0 [(1,rowsD' (List.map AttT.row l)),(2,.ref (.ptr 0 0)),(4,.ref (.ptr 1 0)),(5,.ref (.ptr 2 0)),(8,.ref (.ptr 3 0)),(10,.ref (.ptr 4 0))],h:=[.var [strD p.nm,int p.number,int p.uses,int p.earn,int p.num,int p.den,rowsD' (List.map ReqT.row p.reqs)],.var [nq,int 0,nq],.var [int 0],.var [rowsD' (inR1 fl)],.var [nq,int ms,rowsD' (rowsB cut)]],m:=[]},.nx 1,.st (.nilC 4 0 3),.inl,.sum [4,5,8,10,13,58] (Exit.normal) {t:=mkT 84 0 [(4,.ref (.ptr 1 0)),(5,.ref (.ptr 2 0)),(8,.ref (.ptr 3 0)),(10,.ref (.ptr 4 0)),(13,.ref (.ptr 5 0)),(58,D.fn (Fn.func 65) [] [.ref (.ptr 8 0),.ref (.ptr 7 0)])],h:=[.var [strD p.nm,int p.number,int p.uses,int p.earn,int p.num,int p.den,rowsD' (List.map ReqT.row p.reqs)],.var [nq,int 0,nq],.var [int 0],.var [rowsD' (inR1 fl)],.var [.ref (.vec 6 1),int s.ms,rowsD' (rowsB cut)],.var [int s.at_],.vec (vecU s.us) 1 3,.var [strD p.nm,int p.number,int p.uses,int p.earn,int p.num,int p.den,rowsD' (List.map ReqT.row p.reqs)],.var [rowsD' (List.map AttT.row l)],.defd,.loop LoopState.exhausted none 0 (mkT 84 0 [(4,.ref (.ptr 1 0)),(5,.ref (.ptr 2 0)),(8,.ref (.ptr 3 0)),(10,.ref (.ptr 4 0)),(13,.ref (.ptr 5 0)),(58,D.fn (Fn.func 65) [] [.ref (.ptr 8 0),.ref (.ptr 7 0)])]) {toList:=[59,60]} (rfAsg (sub Tryz.f19 1)) (rfBody (sub Tryz.f19 1))],m:=[9]}] (by kernel_rfl) (.c (@hnet ((ad_ok_x1 p))) (.c (@try0_ev ((ad_ok_x1 p))) (.c (@hmax ((ad_ok_x1 p))) (.c (@try0_ev ((ad_ok_x0 p fl))) (.c hl0 (.c hl1 (.c (show vecU s.us=List.map (fun x=>List.map D.p x) (List.map UseT.row s.us) from(by first|assumption|rfl|exact vecU_frz _|exact vecU_map _ _)) .n)))))))) (by rfl) (by rfl)
def regOps:Code→Array Oper
 | .region _ o _=>o
 | _=>#[]
def idOf:Code→Nat
 | .region i _ _=>i
 | _=>0
theorem f19_code:bodyC Tryz.f19=.seq (.region (idOf (cL (bodyC Tryz.f19))) (regOps (cL (bodyC Tryz.f19))) false) (.seq (.region (idOf (cL (cR (bodyC Tryz.f19)))) (regOps (cL (cR (bodyC Tryz.f19)))) false) (cR (cR (bodyC Tryz.f19)))):=by kernel_rfl
def noCall:CallX:=fun _ _ _=>none
theorem noCall_ok:noCall.Ok Tryz.prog Γ0:=fun _ _ _ _ h=>by simp[noCall] at h
def lastOp(o:List Oper):Oper:=o.getLastD default
abbrev a0T(p:ProgT)(l:List AttT):List D:=mkT 84 0 [(0,.agg p.l),(1,rowsD' (l.map AttT.row)),(2,.ref (.ptr 0 0)),(4,.ref (.ptr 1 0)),(5,.ref (.ptr 2 0))]
abbrev a1T(p:ProgT)(l:List AttT):List D:=mkT 84 0 [(0,.agg p.l),(1,rowsD' (l.map AttT.row)),(2,.ref (.ptr 0 0)),(4,.ref (.ptr 1 0)),(5,.ref (.ptr 2 0)),(17,.fn (.func 39) [] [.ref (.ptr 2 0)])]
theorem audit_top{p:ProgT}{l:List AttT}{e:Exit}{s':AS}(hrest:CW Tryz.prog Γ0 (adH p 0) false (cR (cR (bodyC Tryz.f19))) {t:=adT l,h:=adH p 0,m:=[]} e s'):
  TopW Tryz.prog Γ0 (bodyC Tryz.f19) {t:=entryT Tryz.f19 [.agg p.l,rowsD' (l.map AttT.row)],h:=[],m:=[]} e s' (some (39,[.ref (.ptr 2 0)])):=by
 rw[f19_code]
 refine TopW.seq (s1:={t:=a0T p l,h:=adH p 0,m:=[]}) (fun X=>VW.regionX (t':=a0T p l) (h':=adH p 0) (e:=.normal) noCall_ok (by kernel_rfl) ⟨rfl,rfl⟩) ?_
 exact TopW.deferH (os:=(regOps (cL (cR (bodyC Tryz.f19)))).toList.dropLast) (o:=lastOp (regOps (cL (cR (bodyC Tryz.f19)))).toList) (fv:=.tmp 17) (args:=#[]) (ats:=#[]) (t1:=a1T p l) (h1:=adH p 0) (f:=39) (fi:=[]) (ca:=[.ref (.ptr 2 0)]) pok noCall_ok (by kernel_rfl) (by kernel_rfl) (by kernel_rfl) (by kernel_rfl) rfl (by kernel_rfl) (by kernel_rfl) (CW.pre [1,2,4,5] hrest)
theorem dfn_ok:DfF.Ok Tryz.prog Γ0 (runDfO Tryz.prog Γ0 noW 100):=(run_ok pok (W:=noW) (fun _ _ _ _ h=>by simp[noW] at h) 100).2.2.2.2
theorem audit_a{p:ProgT}{l:List AttT}{es:List EdgT}{n ms:Int}{fl:List Int}{cut:List Bool}{s:AuS}
  (hnet:∀h,Ev Tryz.prog Γ0 16 [.agg p.l,rowsD' (l.map AttT.row)] h (.tup [int n,rowsD' (es.map EdgT.row),int 0]) h)
  (hmax:∀h,Ev Tryz.prog Γ0 42 [int n,rowsD' (es.map EdgT.row),int 0,int (IntKind.i64.wrap (n - 1))] h (.tup [rowsD' (inR1 fl),rowsD' (rowsB cut),int 0]) h)
  (hl1:CW Tryz.prog Γ0 (adH p 0) false (.loop (sub Tryz.f19 0)) (auS p l fl 0 cut 0) (.exit 0) (auE p l fl ms cut))
  (hrf:CW Tryz.prog Γ0 (adH p 0) false (sub Tryz.f19 1) {t:=apT,h:=[.var p.l,.var [nq,int 0,nq],.var [int 0],.var [rowsD' (inR1 fl)],.var [.ref (.vec 6 0),int ms,rowsD' (rowsB cut)],.var [int ((l.map AttT.row).length:Int)],.vec [] 0 3,.var p.l,.var [rowsD' (l.map AttT.row)]],m:=[]} .normal {t:=apT,h:=apH p l fl cut s 1 .exhausted [],m:=[9]}) (h:List Blk) :
  Ev Tryz.prog Γ0 19 [.agg p.l,rowsD' (l.map AttT.row)] h (.tup [.agg [rowsD' (s.us.map UseT.row),int s.ms,rowsD' (rowsB cut)],int 0]) h:=by
 have h1:=VRes.of_top (f:=19) (args:=[.agg p.l,rowsD' (l.map AttT.row)]) (dfn:=runDfO Tryz.prog Γ0 noW 100) (h:=[]) (r:=.ret (.tup [.agg [rowsD' (s.us.map UseT.row),int s.ms,rowsD' (rowsB cut)],int 0]) []) (fn:=Tryz.f19) (c:=bodyC Tryz.f19) pok rfl rfl dfn_ok (audit_top (ad_ok hnet hmax hl1 hrf)) (by kernel_rfl)
 exact Ev.frame0 rfl h1.call h
abbrev bT:List D:=mkT 84 0 [(4,.ref (.ptr 1 0)),(5,.ref (.ptr 2 0))]
noncomputable abbrev ad_net_x0(p:ProgT):List Blk:=[.var [strD p.nm,int p.number,int p.uses,int p.earn,int p.num,int p.den,rowsD' (List.map ReqT.row p.reqs)],.var [nq,int 0,nq],.var [int 0]]
theorem ad_net{p:ProgT}{l:List AttT}{es:List EdgT}{n e:Int}(hnet:∀h,Ev Tryz.prog Γ0 16 [.agg p.l,rowsD' (l.map AttT.row)] h (.tup [int n,rowsD' (es.map EdgT.row),int e]) h):(CW Tryz.prog Γ0 (adH p 0) false (cL (cR (cR (bodyC Tryz.f19)))) {t:=adT l,h:=adH p 0,m:=[]} .normal {t:=bT,h:=adH p e,m:=[]}):=by
 exact CW.cast (CW.symX (s':={t:=mkT 84 0 [(4,.ref (.ptr 1 0)),(5,.ref (.ptr 2 0))],h:=[.var [strD p.nm,int p.number,int p.uses,int p.earn,int p.num,int p.den,rowsD' (List.map ReqT.row p.reqs)],.var [nq,int 0,nq],.var [int e]],m:=[]}) (e:=Exit.normal) pok [.st (.mask [4,5])] [.val (D.tup [int n,rowsD' (List.map EdgT.row es),int e])] (by kernel_rfl) (.c (@hnet ((ad_net_x0 p))) .n)) (by rfl) (by rfl)
noncomputable abbrev c3:Code:=cL (cR (cR (cR (bodyC Tryz.f19))))
theorem f19_code3:cR (cR (bodyC Tryz.f19))=.seq (cL (cR (cR (bodyC Tryz.f19)))) (.seq (.region (idOf c3) (regOps c3) false) (cR (cR (cR (cR (bodyC Tryz.f19)))))):=by kernel_rfl
noncomputable def callT:CallX:=callOf (runFO Tryz.prog Γ0 noW 100) (fun _ _ _=>none)
theorem callT_ok:callT.Ok Tryz.prog Γ0:=callOf_ok pok (run_ok pok (W:=noW) (fun _ _ _ _ h=>by simp[noW] at h) 100).2.2.1 (fun _ _ _ _ _ h=>by simp at h)
noncomputable def r3R(p:ProgT)(e:Int):Option (Exit×List D×List Blk):=runOpsX Tryz.prog Γ0 callT [] (regOps c3).toList (regOps c3).toList bT (adH p e)
noncomputable def r3(p:ProgT)(e:Int):Exit×List D×List Blk:=(r3R p e).getD (.normal,[],[])
theorem r3_eq{p:ProgT}{e:Int}(he:e=150∨e=190∨e=180):r3R p e=some (r3 p e):=by
 rcases he with rfl|rfl|rfl<;>kernel_rfl
def isNorm:Exit→Bool
 | .normal=>true
 | _=>false
theorem r3_ne{p:ProgT}{e:Int}(he:e=150∨e=190∨e=180):(r3 p e).1 ≠ .normal:=by
 intro h
 have:isNorm (r3 p e).1=false:=by rcases he with rfl|rfl|rfl<;>kernel_rfl
 rw[h] at this
 cases this
theorem r3_end{p:ProgT}{e:Int}(he:e=150∨e=190∨e=180):topEnd Tryz.prog Tryz.f19 (runDfO Tryz.prog Γ0 noW 100) 0 (r3 p e).1 {t:=(r3 p e).2.1,h:=(r3 p e).2.2,m:=[]} (some (39,[.ref (.ptr 2 0)]))=some (.ret (.tup [.agg [nq,int 0,nq],int e]) []):=by
 rcases he with rfl|rfl|rfl<;>kernel_rfl
theorem audit_bad{p:ProgT}{l:List AttT}{es:List EdgT}{n e:Int}(he:e=150∨e=190∨e=180)(hnet:∀h,Ev Tryz.prog Γ0 16 [.agg p.l,rowsD' (l.map AttT.row)] h (.tup [int n,rowsD' (es.map EdgT.row),int e]) h)(h:List Blk):
  Ev Tryz.prog Γ0 19 [.agg p.l,rowsD' (l.map AttT.row)] h (.tup [.agg [nq,int 0,nq],int e]) h:=by
 have hrest:CW Tryz.prog Γ0 (adH p 0) false (cR (cR (bodyC Tryz.f19))) {t:=adT l,h:=adH p 0,m:=[]} (r3 p e).1 {t:=(r3 p e).2.1,h:=(r3 p e).2.2,m:=[]}:=by
  rw[f19_code3]
  exact CW.seq (ad_net hnet) (CW.out (r3_ne he) (CW.regionX (s:={t:=bT,h:=adH p e,m:=[]}) callT_ok (r3_eq he)))
 have h1:=VRes.of_top (f:=19) (args:=[.agg p.l,rowsD' (l.map AttT.row)]) (dfn:=runDfO Tryz.prog Γ0 noW 100) (h:=[]) (r:=.ret (.tup [.agg [nq,int 0,nq],int e]) []) (fn:=Tryz.f19) (c:=bodyC Tryz.f19) pok rfl rfl dfn_ok (audit_top hrest) (r3_end he)
 exact Ev.frame0 rfl h1.call h
structure EdgG (n:Nat) (x:EdgT):Prop where
 f0:0≤x.frm
 ft:x.frm<x.to
 tn:x.to<n
 m0:0≤x.most
 m1:x.most≤1073741824
structure NetOk (p:ProgT) (l:List AttT):Prop where
 pe:pErr p=0
 ae:aErr l=0
 rs:p.reqs.length≤6
 ls:l.length≤9
theorem bif0{b:Bool}{x:Int}(h:(bif b then x else 0)=0)(hx:x ≠ 0):b=false:=by cases b<;>simp_all
theorem ck_all:∀(rs:List ReqT),(match forL ckF rs () with | .inl _=>(0:Int) | .inr _=>190)=0→∀q∈rs,reqB q=true
 | [],_,_,hq=>by simp at hq
 | q::rs,h,x,hx=>by
  simp only[forL,ckF] at h
  cases hq:reqB q with
  | false=>rw[hq] at h;simp at h
  | true =>
   rw[hq] at h
   simp only[cond_true] at h
   rcases List.mem_cons.1 hx with rfl|hx
   ·exact hq
   ·exact ck_all rs h x hx
section
variable {p:ProgT} {l:List AttT}
theorem NetOk.req(h:NetOk p l):1≤p.uses∧p.uses≤4∧∀q∈p.reqs,1≤q.credits∧q.credits≤10000:=by
 have h1:=h.pe
 unfold pErr at h1
 cases hh:pHead p with
 | true=>rw[hh] at h1;simp at h1
 | false =>
  rw[hh] at h1
  simp only[cond_false] at h1
  have h2:=ck_all _ h1
  unfold pHead at hh
  simp only[Bool.or_eq_false_iff,Bool.not_eq_false',inB,Bool.and_eq_true,decide_eq_true_eq] at hh
  refine⟨by omega,by omega,fun q hq=>?_⟩
  have h3:=h2 q hq
  unfold reqB at h3
  simp only[inB,Bool.and_eq_true,decide_eq_true_eq] at h3
  omega
theorem NetOk.att(h:NetOk p l):∀a∈l,0≤a.credits∧a.credits≤60:=by
 have h1:=bif0 h.ae (by decide)
 intro a ha
 have h2:=List.any_eq_false.1 h1 a ha
 simp only[Bool.not_eq_true,Bool.not_eq_false'] at h2
 unfold attB at h2
 simp only[inB,Bool.and_eq_true,decide_eq_true_eq] at h2
 omega
end
theorem elR_mem(a:AttT):∀(rs:List ReqT) (s:List Int×Int) (i:Nat),s.2=i→(∀k∈s.1,0≤k∧k<i)→∀k∈(rs.foldl (elF a) s).1,0≤k∧k<(i+rs.length:Nat)
 | [],s,i,_,h,k,hk=>by simpa using h k hk
 | q::rs,s,i,hi,h,k,hk=>by
  rw[List.foldl_cons] at hk
  have:=elR_mem a rs (elF a s q) (i+1) (by simp[elF,hi]) (fun x hx=>by
   unfold elF at hx
   cases hb:elB q a with
   | true =>
    rw[hb] at hx
    simp only[cond_true,List.mem_append,List.mem_singleton] at hx
    rcases hx with hx|rfl
    ·have:=h x hx;omega
    ·omega
   | false =>
    rw[hb] at hx
    have:=h x hx;omega) k hk
  simp only[List.length_cons];omega
section
variable {p:ProgT} {l:List AttT}
theorem n1_good(h:NetOk p l){n:Nat}(hn:n=2+l.length+p.reqs.length):∀(bs:List AttT) (s:List EdgT×Int) (i:Nat),s.2=i→i+bs.length=l.length→(∀a∈bs,0≤a.credits∧a.credits≤60)→(∀x∈s.1,EdgG n x)→∀x∈(bs.foldl (n1F p) s).1,EdgG n x
 | [],s,i,_,_,_,hs=>hs
 | a::bs,s,i,hi,hl,ha,hs=>by
  rw[List.foldl_cons]
  simp only[List.length_cons] at hl
  have hls:=h.ls
  have hrs:=h.rs
  obtain⟨u1,u2,_⟩:=h.req
  obtain⟨c0,c1⟩:=ha a (by simp)
  have hm0:0≤a.credits*p.uses:=Int.mul_nonneg c0 (by omega)
  have hm1:a.credits*p.uses≤60*4:=Int.mul_le_mul c1 u2 (by omega) (by omega)
  refine n1_good h hn bs (n1F p s a) (i+1) (by simp[n1F,hi]) (by omega) (fun x hx=>ha x (by simp[hx])) ?_
  intro x hx
  simp only[n1F,List.mem_append,List.mem_singleton] at hx
  rcases hx with hx|rfl
  ·exact hs x hx
  ·have e1:IntKind.i64.wrap (1+s.2)=1+s.2:=wrap_i64 (by omega) (by omega)
   have e2:IntKind.i64.wrap (a.credits*p.uses)=a.credits*p.uses:=wrap_i64 (by omega) (by omega)
   refine⟨?_,?_,?_,?_,?_⟩<;>simp only[e1,e2]<;>omega
theorem mid_eq(h:NetOk p l):midR l=1+(l.length:Int):=by
 have:=h.ls
 unfold midR
 rw[List.length_map]
 exact wrap_i64 (by omega) (by omega)
theorem sink_eq(h:NetOk p l):sinkR p l=1+(l.length:Int)+(p.reqs.length:Int):=by
 have:=h.ls
 have:=h.rs
 unfold sinkR
 rw[mid_eq h,List.length_map]
 exact wrap_i64 (by omega) (by omega)
theorem n2_good(h:NetOk p l){n:Nat}(hn:n=2+l.length+p.reqs.length){i:Nat}(hi:i<l.length){cr:Int}(c0:0≤cr)(c1:cr≤60):∀(ks:List Int) (es:List EdgT),(∀k∈ks,0≤k∧k<p.reqs.length)→(∀x∈es,EdgG n x)→∀x∈ks.foldl (n2F (midR l) i cr) es,EdgG n x
 | [],es,_,hs=>hs
 | k::ks,es,hk,hs=>by
  have hls:=h.ls
  have hrs:=h.rs
  rw[List.foldl_cons]
  refine n2_good h hn hi c0 c1 ks _ (fun x hx=>hk x (by simp[hx])) ?_
  intro x hx
  simp only[n2F,List.mem_append,List.mem_singleton] at hx
  rcases hx with hx|rfl
  ·exact hs x hx
  ·obtain⟨k0,k1⟩:=hk k (by simp)
   have e1:IntKind.i64.wrap (1+(i:Int))=1+i:=wrap_i64 (by omega) (by omega)
   have e2:IntKind.i64.wrap (midR l+k)=1+l.length+k:=by rw[mid_eq h];exact wrap_i64 (by omega) (by omega)
   refine⟨?_,?_,?_,?_,?_⟩<;>simp only[e1,e2]<;>omega
theorem n3_good(h:NetOk p l){n:Nat}(hn:n=2+l.length+p.reqs.length):∀(bs:List AttT) (s:List EdgT×Int) (i:Nat),s.2=i→i+bs.length=l.length→(∀a∈bs,0≤a.credits∧a.credits≤60)→(∀x∈s.1,EdgG n x)→∀x∈(bs.foldl (n3F p (midR l)) s).1,EdgG n x
 | [],s,i,_,_,_,hs=>hs
 | a::bs,s,i,hi,hl,ha,hs=>by
  rw[List.foldl_cons]
  simp only[List.length_cons] at hl
  obtain⟨c0,c1⟩:=ha a (by simp)
  refine n3_good h hn bs (n3F p (midR l) s a) (i+1) (by simp[n3F,hi]) (by omega) (fun x hx=>ha x (by simp[hx])) ?_
  simp only[n3F,hi]
  exact n2_good h hn (by omega) c0 c1 _ _ (fun k hk=>by have:=elR_mem a p.reqs ([],0) 0 rfl (by simp) k hk;simpa using this) hs
theorem n4_good(h:NetOk p l){n:Nat}(hn:n=2+l.length+p.reqs.length):∀(qs:List ReqT) (s:List EdgT×Int) (i:Nat),s.2=i→i+qs.length=p.reqs.length→(∀q∈qs,1≤q.credits∧q.credits≤10000)→(∀x∈s.1,EdgG n x)→∀x∈(qs.foldl (n4F (midR l) (sinkR p l)) s).1,EdgG n x
 | [],s,i,_,_,_,hs=>hs
 | q::qs,s,i,hi,hl,hq,hs=>by
  rw[List.foldl_cons]
  simp only[List.length_cons] at hl
  have hls:=h.ls
  have hrs:=h.rs
  obtain⟨c0,c1⟩:=hq q (by simp)
  refine n4_good h hn qs (n4F (midR l) (sinkR p l) s q) (i+1) (by simp[n4F,hi]) (by omega) (fun x hx=>hq x (by simp[hx])) ?_
  intro x hx
  simp only[n4F,List.mem_append,List.mem_singleton] at hx
  rcases hx with hx|rfl
  ·exact hs x hx
  ·have e2:IntKind.i64.wrap (midR l+s.2)=1+l.length+s.2:=by rw[mid_eq h];exact wrap_i64 (by omega) (by omega)
   have e3:=sink_eq h
   refine⟨?_,?_,?_,?_,?_⟩<;>simp only[e2,e3]<;>omega
theorem net_good(h:NetOk p l):∀x∈net3 p l,EdgG (2+l.length+p.reqs.length) x:=by
 have h1:∀x∈net1 p l,EdgG (2+l.length+p.reqs.length) x:=n1_good h rfl l ([],0) 0 rfl (by simp) h.att (by simp)
 have h2:∀x∈net2 p l,EdgG (2+l.length+p.reqs.length) x:=n3_good h rfl l (net1 p l,0) 0 rfl (by simp) h.att h1
 exact n4_good h rfl p.reqs (net2 p l,0) 0 rfl (by simp) h.req.2.2 h2
end
theorem EdgG.inn{n:Nat}{x:EdgT}(h:EdgG n x):EdgIn n x:=⟨h.f0,by have:=h.ft;have:=h.tn;omega,by have:=h.f0;have:=h.ft;omega,h.tn⟩
theorem EdgG.ok{n:Nat}{x:EdgT}(h:EdgG n x):edgBad (n:Int) x=false:=by
 obtain⟨a,b,c,d,e⟩:=h
 unfold edgBad nodB
 simp only[Bool.or_eq_false_iff,Bool.not_eq_false',Bool.and_eq_true,decide_eq_true_eq,decide_eq_false_iff_not,beq_eq_false_iff_ne]
 omega
theorem n3F_len{p:ProgT}{mid:Int}:∀(bs:List AttT) (s:List EdgT×Int),(bs.foldl (n3F p mid) s).1.length=s.1.length+pairsN p bs
 | [],s=>by simp[pairsN]
 | a::bs,s=>by
  rw[List.foldl_cons,n3F_len bs]
  simp only[n3F,n2_len,pairsN,List.map_cons,List.sum_cons]
  omega
theorem n4F_len{mid sink:Int}:∀(qs:List ReqT) (s:List EdgT×Int),(qs.foldl (n4F mid sink) s).1.length=s.1.length+qs.length
 | [],s=>by simp
 | q::qs,s=>by
  rw[List.foldl_cons,n4F_len qs]
  simp only[n4F,List.length_append,List.length_cons,List.length_nil]
  omega
theorem pairsN_le(p:ProgT):∀(bs:List AttT),pairsN p bs≤bs.length*p.reqs.length
 | []=>by simp[pairsN]
 | a::bs=>by
  have h1:=pairsN_le p bs
  have h2:=elR_len p a
  simp only[pairsN,List.map_cons,List.sum_cons,List.length_cons,Nat.add_mul,Nat.one_mul] at h1 ⊢
  omega
section
variable {p:ProgT} {l:List AttT}
theorem net3_length:(net3 p l).length=l.length+pairsN p l+p.reqs.length:=by
 unfold net3 net2
 rw[n4F_len,n3F_len,net1_len]
abbrev nN(p:ProgT)(l:List AttT):Nat:=2+l.length+p.reqs.length
theorem NetOk.size(h:NetOk p l):(net3 p l).length≤69:=by
 have h1:=pairsN_le p l
 have h2:l.length*p.reqs.length≤9*6:=Nat.mul_le_mul h.ls h.rs
 have h3:=h.ls
 have h4:=h.rs
 rw[net3_length];omega
theorem NetOk.sums(h:NetOk p l):(sumsR l).2.2=0:=by
 unfold sumsR
 rw[h.ae];rfl
theorem NetOk.net(h:NetOk p l):netR p l=((nN p l:Int),net3 p l,0):=by
 have hN:nN p l=2+l.length+p.reqs.length:=rfl
 have h1:=h.ls
 have h2:=h.rs
 have e:IntKind.i64.wrap (sinkR p l+1)=(nN p l:Int):=by rw[sink_eq h,wrap_i64 (by omega) (by omega)];omega
 show netX p l (sumsR l).2.2=_
 unfold netX
 rw[h.pe,h.sums,e]
 rfl
theorem NetOk.chk(h:NetOk p l):chkE (nN p l:Int) (net3 p l) 0 ((nN p l:Int) - 1)=0:=by
 have hN:nN p l=2+l.length+p.reqs.length:=rfl
 have h1:=h.ls
 have h2:=h.rs
 have h3:=h.size
 have hb:(net3 p l).any (edgBad (nN p l:Int))=false:=List.any_eq_false.2 fun x hx=>by rw[(net_good h x hx).ok];simp
 have hc:chkR (nN p l:Int) (net3 p l)=0:=by
  unfold chkR
  have:(Dd ((nN p l:Int)<2)||Dd ((nN p l:Int)>4096)||Dd ((((net3 p l).map EdgT.row).length:Int)>65536))=false:=by
   simp only[Bool.or_eq_false_iff,decide_eq_false_iff_not,List.length_map];omega
  rw[this,hb]
 unfold chkE
 rw[hc]
 have:endsBad (nN p l:Int) 0 ((nN p l:Int) - 1)=false:=by
  unfold endsBad
  simp only[Bool.or_eq_false_iff,decide_eq_false_iff_not,beq_eq_false_iff_ne];omega
 rw[this]
 rfl
def auR(p:ProgT)(l:List AttT)(fl:List Int):AuS:=(l.foldl (a3F p fl) (⟨[],p.reqs.foldl auF 0,((l.map AttT.row).length:Int)⟩,0)).1
theorem audit_ok(hp:p.ok)(h:NetOk p l){j:Nat}{g:List Int×List Int}(hR:MaxR (adjR (nN p l) (net3 p l)) (net3 p l) (nN p l) 0 ((nN p l:Int) - 1) j (List.replicate (net3 p l).length 0) g)(hg:g.1.length=(net3 p l).length)(h0:List Blk):
  Ev Tryz.prog Γ0 19 [.agg p.l,rowsD' (l.map AttT.row)] h0 (.tup [.agg [rowsD' ((auR p l g.1).us.map UseT.row),int (auR p l g.1).ms,rowsD' (rowsB (cutR g.2))],int 0]) h0:=by
 have h1:=h.ls
 have h2:=h.rs
 have h3:=h.size
 have hN:nN p l=2+l.length+p.reqs.length:=rfl
 have hw:IntKind.i64.wrap ((nN p l:Int) - 1)=(nN p l:Int) - 1:=wrap_i64 (by omega) (by omega)
 refine audit_a (n:=(nN p l:Int)) (es:=net3 p l) (ms:=p.reqs.foldl auF 0) (fl:=g.1) (cut:=cutR g.2) (s:=auR p l g.1) (fun h=>?_) (fun h=>?_) (au_cw (by omega)) ?_ h0
 ·have:=net_ev hp (l:=l) (by omega) (by omega) h
  rw[NetOk.net ‹NetOk p l›] at this
  exact this
 ·rw[hw]
  refine maxR_ev (n:=nN p l) (by omega) (by omega) (by omega) (fun x hx=>(net_good ‹NetOk p l› x hx).inn) ⟨by omega,by simp;omega⟩ ⟨by omega,by omega⟩ (fun h=>?_) hR h
  have:=chke_ev (n:=(nN p l:Int)) (a:=0) (b:=(nN p l:Int) - 1) (l:=net3 p l) (by unfold Short;omega) h
  rw[NetOk.chk ‹NetOk p l›] at this
  exact this
 ·exact ap_rf_a (s:=⟨[],p.reqs.foldl auF 0,((l.map AttT.row).length:Int)⟩) (c:=l.length) hp (by omega) (by omega) (by simp) (by rw[hg,net3_length];omega) (by omega) rfl
end
abbrev toS(p:ProgT)(n i:Int):AS:={t:=mkT 21 0 [(1,.ref (.ptr 0 0)),(3,int n),(4,int i)],h:=[.var p.l],m:=[]}
theorem to_body{p:ProgT}{q:ReqT}{n:Int}{i:Nat}(hr:RowAt (i:Int) (p.reqs.map ReqT.row) q.row 6)(hlt:Dd ((i:Int)<((p.reqs.map ReqT.row).length:Int))=true)(hw:IntKind.i64.wrap ((i:Int)+1)=((i+1:Nat):Int)):(CW Tryz.prog Γ0 [] false (sub Tryz.f23 0) (toS p n i) .normal (toS p (auF n q) ((i+1:Nat):Int))):=by
 refine CW.cast (CW.symX (s':={t:=mkT 21 0 [(1,.ref (.ptr 0 0)),(3,int (IntKind.wrap IntKind.i64 (n+q.credits))),(4,int (IntKind.wrap IntKind.i64 ((↑i:Int)+1)))],h:=[.var [strD p.nm,int p.number,int p.uses,int p.earn,int p.num,int p.den,rowsD' (List.map ReqT.row p.reqs)]],m:=[]}) (e:=Exit.normal) pok [.st (.mask [1,3,4])] [.b true,.row [vs q.nm,vi q.credits,vi q.grade,Dp.v (Value.bool q.home),Dp.sl q.names,Dp.sl (inR1 q.frm)]] (by kernel_rfl) (.c hlt (.c hr .n))) ?_ ?_<;>(first|rfl|(rw[hw]<;>rfl))
theorem to_last{p:ProgT}{n:Int}{i:Nat}(hlt:Dd ((i:Int)<((p.reqs.map ReqT.row).length:Int))=false):(CW Tryz.prog Γ0 [] false (sub Tryz.f23 0) (toS p n i) (.exit 0) {t:=mkT 21 0 [(3,int n)],h:=[.var p.l],m:=[]}):=by
 exact CW.cast (CW.symX (s':={t:=mkT 21 0 [(3,int n)],h:=[.var [strD p.nm,int p.number,int p.uses,int p.earn,int p.num,int p.den,rowsD' (List.map ReqT.row p.reqs)]],m:=[]}) (e:=Exit.exit 0) pok [.st (.mask [3])] [.b false] (by kernel_rfl) (.c hlt .n)) (by rfl) (by rfl)
def totR(p:ProgT):Int:=p.reqs.foldl auF 0
theorem to_cw{p:ProgT}(hn:p.reqs.length≤1000):CW Tryz.prog Γ0 [] false (.loop (sub Tryz.f23 0)) (toS p 0 0) (.exit 0) {t:=mkT 21 0 [(3,int (totR p))],h:=[.var p.l],m:=[]}:=by
 have:=CW.each (P:=Tryz.prog) (Γ:=Γ0) (h0:=[]) (rd:=false) (c:=sub Tryz.f23 0) (σ:=Int) (ρ:=Empty) p.reqs (fun q s=>.inl (auF s q))
  (fun i s=>toS p s (i:Int)) (.exit 0) (fun s=>{t:=mkT 21 0 [(3,int s)],h:=[.var p.l],m:=[]}) (fun r=>r.elim) (fun _ _=>True) (by simp) (fun r=>r.elim) ?_ ?_ 0 trivial
 ·rw[forL_fold] at this
  exact this
 ·intro i q s hq _
  have hi:=(List.getElem?_eq_some_iff.1 hq).1
  exact⟨fun _ _=>trivial,to_body (rowAt hq rfl) (lt_len ReqT.row hi) (wrap_succ hi (by omega))⟩
 ·intro s _
  exact to_last (ge_len ReqT.row p.reqs)
theorem tot_ev{p:ProgT}(hn:p.reqs.length≤1000)(h:List Blk):(Ev Tryz.prog Γ0 23 [.agg p.l] h (int (totR p)) h):=by
 have hl0:=(@to_cw (p) (hn))
 exact Ev.castH (Ev.sym0 (d:=int (totR p)) pok [.sum [1,3,4] (Exit.exit 0) {t:=mkT 21 0 [(3,int (totR p))],h:=[.var [strD p.nm,int p.number,int p.uses,int p.earn,int p.num,int p.den,rowsD' (List.map ReqT.row p.reqs)]],m:=[]}] (by kernel_rfl) (.c hl0 .n) rfl rfl h) (by rfl) (by rfl)
abbrev asS(us:List UseT)(n i:Int):AS:={t:=mkT 19 0 [(0,rowsD' (us.map UseT.row)),(3,int n),(4,int i)],h:=[],m:=[]}
def asF(n:Int)(u:UseT):Int:=IntKind.i64.wrap (n+u.cr)
theorem as_body{us:List UseT}{u:UseT}{n:Int}{i:Nat}(hr:RowAt (i:Int) (us.map UseT.row) u.row 3)(hlt:Dd ((i:Int)<((us.map UseT.row).length:Int))=true)(hw:IntKind.i64.wrap ((i:Int)+1)=((i+1:Nat):Int)):(CW Tryz.prog Γ0 [] false (sub Tryz.f24 0) (asS us n i) .normal (asS us (asF n u) ((i+1:Nat):Int))):=by
 refine CW.cast (CW.symX (s':={t:=mkT 19 0 [(0,rowsD' (List.map UseT.row us)),(3,int (IntKind.wrap IntKind.i64 (n+u.cr))),(4,int (IntKind.wrap IntKind.i64 ((↑i:Int)+1)))],h:=[],m:=[]}) (e:=Exit.normal) pok [.st (.mask [0,3,4])] [.b true,.row [vi u.att,vi u.req,vi u.cr]] (by kernel_rfl) (.c hlt (.c hr .n))) ?_ ?_<;>(first|rfl|(rw[hw]<;>rfl))
theorem as_last{us:List UseT}{n:Int}{i:Nat}(hlt:Dd ((i:Int)<((us.map UseT.row).length:Int))=false):(CW Tryz.prog Γ0 [] false (sub Tryz.f24 0) (asS us n i) (.exit 0) {t:=mkT 19 0 [(3,int n)],h:=[],m:=[]}):=by
 exact CW.cast (CW.symX (s':={t:=mkT 19 0 [(3,int n)],h:=[],m:=[]}) (e:=Exit.exit 0) pok [.st (.mask [3])] [.b false] (by kernel_rfl) (.c hlt .n)) (by rfl) (by rfl)
def asgR(us:List UseT):Int:=us.foldl asF 0
theorem as_cw{us:List UseT}(hn:us.length≤1000):CW Tryz.prog Γ0 [] false (.loop (sub Tryz.f24 0)) (asS us 0 0) (.exit 0) {t:=mkT 19 0 [(3,int (asgR us))],h:=[],m:=[]}:=by
 have:=CW.each (P:=Tryz.prog) (Γ:=Γ0) (h0:=[]) (rd:=false) (c:=sub Tryz.f24 0) (σ:=Int) (ρ:=Empty) us (fun q s=>.inl (asF s q))
  (fun i s=>asS us s (i:Int)) (.exit 0) (fun s=>{t:=mkT 19 0 [(3,int s)],h:=[],m:=[]}) (fun r=>r.elim) (fun _ _=>True) (by simp) (fun r=>r.elim) ?_ ?_ 0 trivial
 ·rw[forL_fold] at this
  exact this
 ·intro i q s hq _
  have hi:=(List.getElem?_eq_some_iff.1 hq).1
  exact⟨fun _ _=>trivial,as_body (rowAt hq rfl) (lt_len UseT.row hi) (wrap_succ hi (by omega))⟩
 ·intro s _
  exact as_last (ge_len UseT.row us)
theorem asg_ev{us:List UseT}(hn:us.length≤1000)(h:List Blk):(Ev Tryz.prog Γ0 24 [rowsD' (us.map UseT.row)] h (int (asgR us)) h):=by
 have hl0:=(@as_cw (us) (hn))
 exact Ev.castH (Ev.sym0 (d:=int (asgR us)) pok [.sum [0,3,4] (Exit.exit 0) {t:=mkT 19 0 [(3,int (asgR us))],h:=[],m:=[]}] (by kernel_rfl) (.c hl0 .n) rfl rfl h) (by rfl) (by rfl)
abbrev b2S(p:ProgT)(l:List AttT)(us:List UseT)(i n j:Int):AS:={t:=mkT 185 0 [(1,rowsD' (l.map AttT.row)),(2,rowsD' (us.map UseT.row)),(3,.ref (.ptr 0 0)),(9,int i),(10,int n),(11,int j)],h:=[.var p.l],m:=[]}
abbrev b2E(p:ProgT)(l:List AttT)(us:List UseT)(i n:Int):AS:={t:=mkT 185 0 [(1,rowsD' (l.map AttT.row)),(2,rowsD' (us.map UseT.row)),(3,.ref (.ptr 0 0)),(9,int i),(10,int n)],h:=[.var p.l],m:=[]}
def b2F(i n:Int)(u:UseT):Int:=bif u.att==i then IntKind.i64.wrap (n+u.cr) else n
theorem b2_body{p:ProgT}{l:List AttT}{us:List UseT}{u:UseT}{i n:Int}{j:Nat}(hr:RowAt (j:Int) (us.map UseT.row) u.row 3)(hlt:Dd ((j:Int)<((us.map UseT.row).length:Int))=true)(hw:IntKind.i64.wrap ((j:Int)+1)=((j+1:Nat):Int)):(CW Tryz.prog Γ0 [] false (sub Tryz.f22 2) (b2S p l us i n j) .normal (b2S p l us i (b2F i n u) ((j+1:Nat):Int))):=by
 cases hc0:u.att==i
 ·refine CW.cast (CW.symX (s':={t:=mkT 185 0 [(1,rowsD' (List.map AttT.row l)),(2,rowsD' (List.map UseT.row us)),(3,.ref (.ptr 0 0)),(9,int i),(10,int n),(11,int (IntKind.wrap IntKind.i64 ((↑j:Int)+1)))],h:=[.var [strD p.nm,int p.number,int p.uses,int p.earn,int p.num,int p.den,rowsD' (List.map ReqT.row p.reqs)]],m:=[]}) (e:=Exit.normal) pok [.st (.mask [1,2,3,9,10,11])] [.b true,.row [vi u.att,vi u.req,vi u.cr],.b false] (by kernel_rfl) (.c hlt (.c hr (.c hc0 .n)))) ?_ ?_<;>(first|rfl|(simp only[b2F,hw,hc0,cond_true,cond_false];first|done|rfl))
 ·refine CW.cast (CW.symX (s':={t:=mkT 185 0 [(1,rowsD' (List.map AttT.row l)),(2,rowsD' (List.map UseT.row us)),(3,.ref (.ptr 0 0)),(9,int i),(10,int (IntKind.wrap IntKind.i64 (n+u.cr))),(11,int (IntKind.wrap IntKind.i64 ((↑j:Int)+1)))],h:=[.var [strD p.nm,int p.number,int p.uses,int p.earn,int p.num,int p.den,rowsD' (List.map ReqT.row p.reqs)]],m:=[]}) (e:=Exit.normal) pok [.st (.mask [1,2,3,9,10,11])] [.b true,.row [vi u.att,vi u.req,vi u.cr],.b true,.row [vi u.att,vi u.req,vi u.cr]] (by kernel_rfl) (.c hlt (.c hr (.c hc0 (.c hr .n))))) ?_ ?_<;>(first|rfl|(simp only[b2F,hw,hc0,cond_true,cond_false];first|done|rfl))
theorem b2_last{p:ProgT}{l:List AttT}{us:List UseT}{i n:Int}{j:Nat}(hlt:Dd ((j:Int)<((us.map UseT.row).length:Int))=false):(CW Tryz.prog Γ0 [] false (sub Tryz.f22 2) (b2S p l us i n j) (.exit 4) (b2E p l us i n)):=by
 exact CW.cast (CW.symX (s':={t:=mkT 185 0 [(1,rowsD' (List.map AttT.row l)),(2,rowsD' (List.map UseT.row us)),(3,.ref (.ptr 0 0)),(9,int i),(10,int n)],h:=[.var [strD p.nm,int p.number,int p.uses,int p.earn,int p.num,int p.den,rowsD' (List.map ReqT.row p.reqs)]],m:=[]}) (e:=Exit.exit 4) pok [.st (.mask [1,2,3,9,10])] [.b false] (by kernel_rfl) (.c hlt .n)) (by rfl) (by rfl)
def sumA(us:List UseT)(i:Int):Int:=us.foldl (b2F i) 0
theorem b2_cw{p:ProgT}{l:List AttT}{us:List UseT}{i:Int}(hn:us.length≤1000):CW Tryz.prog Γ0 [] false (.loop (sub Tryz.f22 2)) (b2S p l us i 0 0) (.exit 4) (b2E p l us i (sumA us i)):=by
 have:=CW.each (P:=Tryz.prog) (Γ:=Γ0) (h0:=[]) (rd:=false) (c:=sub Tryz.f22 2) (σ:=Int) (ρ:=Empty) us (fun q s=>.inl (b2F i s q))
  (fun j s=>b2S p l us i s (j:Int)) (.exit 4) (fun s=>b2E p l us i s) (fun r=>r.elim) (fun _ _=>True) (by simp) (fun r=>r.elim) ?_ ?_ 0 trivial
 ·rw[forL_fold] at this
  exact this
 ·intro j q s hq _
  have hi:=(List.getElem?_eq_some_iff.1 hq).1
  exact⟨fun _ _=>trivial,b2_body (rowAt hq rfl) (lt_len UseT.row hi) (wrap_succ hi (by omega))⟩
 ·intro s _
  exact b2_last (ge_len UseT.row us)
abbrev b1S(p:ProgT)(l:List AttT)(us:List UseT)(i:Int):AS:={t:=mkT 185 0 [(1,rowsD' (l.map AttT.row)),(2,rowsD' (us.map UseT.row)),(3,.ref (.ptr 0 0)),(9,int i)],h:=[.var p.l],m:=[]}
abbrev b1E(p:ProgT)(l:List AttT)(us:List UseT):AS:={t:=mkT 185 0 [(1,rowsD' (l.map AttT.row)),(2,rowsD' (us.map UseT.row)),(3,.ref (.ptr 0 0))],h:=[.var p.l],m:=[]}
theorem b1_body{p:ProgT}{l:List AttT}{us:List UseT}{a:AttT}{i:Nat}(hr:RowAt (i:Int) (l.map AttT.row) a.row 5)(hlt:Dd ((i:Int)<((l.map AttT.row).length:Int))=true)(hw:IntKind.i64.wrap ((i:Int)+1)=((i+1:Nat):Int))(hn:us.length≤1000)(hg:Dd (sumA us (i:Int)>IntKind.i64.wrap (a.credits*p.uses))=false):(CW Tryz.prog Γ0 [] false (sub Tryz.f22 1) (b1S p l us i) .normal (b1S p l us ((i+1:Nat):Int))):=by
 have hl0:=(@b2_cw (p) (l) (us) ((↑i:Int)) (hn))
 refine CW.cast (CW.symX (s':={t:=mkT 185 0 [(1,rowsD' (List.map AttT.row l)),(2,rowsD' (List.map UseT.row us)),(3,.ref (.ptr 0 0)),(9,int (IntKind.wrap IntKind.i64 ((↑i:Int)+1)))],h:=[.var [strD p.nm,int p.number,int p.uses,int p.earn,int p.num,int p.den,rowsD' (List.map ReqT.row p.reqs)]],m:=[]}) (e:=Exit.normal) pok [.st (.mask [1,2,3,9])] [.b true,.sum [1,2,3,9,10,11] (Exit.exit 4) {t:=mkT 185 0 [(1,rowsD' (List.map AttT.row l)),(2,rowsD' (List.map UseT.row us)),(3,.ref (.ptr 0 0)),(9,int (↑i:Int)),(10,int (sumA us (↑i:Int)))],h:=[.var [strD p.nm,int p.number,int p.uses,int p.earn,int p.num,int p.den,rowsD' (List.map ReqT.row p.reqs)]],m:=[]},.row (AttT.row a),.b false] (by kernel_rfl) (.c hlt (.c hl0 (.c hr (.c hg .n))))) ?_ ?_<;>(first|rfl|(rw[hw]<;>rfl))
theorem b1_bad{p:ProgT}{l:List AttT}{us:List UseT}{a:AttT}{i:Nat}(hr:RowAt (i:Int) (l.map AttT.row) a.row 5)(hlt:Dd ((i:Int)<((l.map AttT.row).length:Int))=true)(hn:us.length≤1000)(hg:Dd (sumA us (i:Int)>IntKind.i64.wrap (a.credits*p.uses))=true):(CW Tryz.prog Γ0 [] false (sub Tryz.f22 1) (b1S p l us i) .ret {t:=mkT 185 0 [(6,bool false)],h:=[.var p.l],m:=[]}):=by
 have hl0:=(@b2_cw (p) (l) (us) ((↑i:Int)) (hn))
 exact CW.cast (CW.symX (s':={t:=mkT 185 0 [(6,bool false)],h:=[.var [strD p.nm,int p.number,int p.uses,int p.earn,int p.num,int p.den,rowsD' (List.map ReqT.row p.reqs)]],m:=[]}) (e:=Exit.ret) pok [.st (.mask [6])] [.b true,.sum [1,2,3,9,10,11] (Exit.exit 4) {t:=mkT 185 0 [(1,rowsD' (List.map AttT.row l)),(2,rowsD' (List.map UseT.row us)),(3,.ref (.ptr 0 0)),(9,int (↑i:Int)),(10,int (sumA us (↑i:Int)))],h:=[.var [strD p.nm,int p.number,int p.uses,int p.earn,int p.num,int p.den,rowsD' (List.map ReqT.row p.reqs)]],m:=[]},.row (AttT.row a),.b true] (by kernel_rfl) (.c hlt (.c hl0 (.c hr (.c hg .n))))) (by rfl) (by rfl)
theorem b1_last{p:ProgT}{l:List AttT}{us:List UseT}{i:Nat}(hlt:Dd ((i:Int)<((l.map AttT.row).length:Int))=false):(CW Tryz.prog Γ0 [] false (sub Tryz.f22 1) (b1S p l us i) (.exit 2) (b1E p l us)):=by
 exact CW.cast (CW.symX (s':={t:=mkT 185 0 [(1,rowsD' (List.map AttT.row l)),(2,rowsD' (List.map UseT.row us)),(3,.ref (.ptr 0 0))],h:=[.var [strD p.nm,int p.number,int p.uses,int p.earn,int p.num,int p.den,rowsD' (List.map ReqT.row p.reqs)]],m:=[]}) (e:=Exit.exit 2) pok [.st (.mask [1,2,3])] [.b false] (by kernel_rfl) (.c hlt .n)) (by rfl) (by rfl)
def b1G(p:ProgT)(us:List UseT)(a:AttT)(i:Nat):Nat⊕Unit:=match Dd (sumA us (i:Int)>IntKind.i64.wrap (a.credits*p.uses)) with
 | true=>.inr ()
 | false=>.inl (i+1)
noncomputable abbrev bX(p:ProgT):Exit×AS:=(.ret,{t:=mkT 185 0 [(6,bool false)],h:=[.var p.l],m:=[]})
theorem b1_each{p:ProgT}{l:List AttT}{us:List UseT}(hn:us.length≤1000)(hl:l.length≤1000):CW Tryz.prog Γ0 [] false (.loop (sub Tryz.f22 1)) (b1S p l us 0) (eachFin (.exit 2) (fun _:Nat=>b1E p l us) (fun _:Unit=>bX p) (forL (b1G p us) l 0)).1 (eachFin (.exit 2) (fun _:Nat=>b1E p l us) (fun _:Unit=>bX p) (forL (b1G p us) l 0)).2:=by
 refine CW.each l (b1G p us) (fun i _=>b1S p l us (i:Int)) (.exit 2) _ _ (fun i s=>s=i) (by simp) (fun _=>by simp) ?_ ?_ 0 rfl
 ·intro i a s ha hs
  subst hs
  have hi:=(List.getElem?_eq_some_iff.1 ha).1
  cases hg:Dd (sumA us (s:Int)>IntKind.i64.wrap (a.credits*p.uses)) with
  | true =>
   have e:b1G p us a s=.inr ():=by unfold b1G;rw[hg]
   rw[e]
   exact⟨fun _ h=>(by cases h),b1_bad (rowAt ha rfl) (lt_len AttT.row hi) hn hg⟩
  | false =>
   have e:b1G p us a s=.inl (s+1):=by unfold b1G;rw[hg]
   rw[e]
   exact⟨fun _ h=>(by cases h;rfl),b1_body (rowAt ha rfl) (lt_len AttT.row hi) (wrap_succ hi (by omega)) hn hg⟩
 ·intro s _
  exact b1_last (ge_len AttT.row l)
abbrev b4S(p:ProgT)(us:List UseT)(i n j:Int):AS:={t:=mkT 185 0 [(2,rowsD' (us.map UseT.row)),(3,.ref (.ptr 0 0)),(12,int i),(13,int n),(14,int j)],h:=[.var p.l],m:=[]}
abbrev b4E(p:ProgT)(us:List UseT)(i n:Int):AS:={t:=mkT 185 0 [(2,rowsD' (us.map UseT.row)),(3,.ref (.ptr 0 0)),(12,int i),(13,int n)],h:=[.var p.l],m:=[]}
def b4F(i n:Int)(u:UseT):Int:=bif u.req==i then IntKind.i64.wrap (n+u.cr) else n
theorem b4_body{p:ProgT}{us:List UseT}{u:UseT}{i n:Int}{j:Nat}(hr:RowAt (j:Int) (us.map UseT.row) u.row 3)(hlt:Dd ((j:Int)<((us.map UseT.row).length:Int))=true)(hw:IntKind.i64.wrap ((j:Int)+1)=((j+1:Nat):Int)):(CW Tryz.prog Γ0 [] false (sub Tryz.f22 4) (b4S p us i n j) .normal (b4S p us i (b4F i n u) ((j+1:Nat):Int))):=by
 cases hc0:u.req==i
 ·refine CW.cast (CW.symX (s':={t:=mkT 185 0 [(2,rowsD' (List.map UseT.row us)),(3,.ref (.ptr 0 0)),(12,int i),(13,int n),(14,int (IntKind.wrap IntKind.i64 ((↑j:Int)+1)))],h:=[.var [strD p.nm,int p.number,int p.uses,int p.earn,int p.num,int p.den,rowsD' (List.map ReqT.row p.reqs)]],m:=[]}) (e:=Exit.normal) pok [.st (.mask [2,3,12,13,14])] [.b true,.row [vi u.att,vi u.req,vi u.cr],.b false] (by kernel_rfl) (.c hlt (.c hr (.c hc0 .n)))) ?_ ?_<;>(first|rfl|(simp only[b4F,hw,hc0,cond_true,cond_false];first|done|rfl))
 ·refine CW.cast (CW.symX (s':={t:=mkT 185 0 [(2,rowsD' (List.map UseT.row us)),(3,.ref (.ptr 0 0)),(12,int i),(13,int (IntKind.wrap IntKind.i64 (n+u.cr))),(14,int (IntKind.wrap IntKind.i64 ((↑j:Int)+1)))],h:=[.var [strD p.nm,int p.number,int p.uses,int p.earn,int p.num,int p.den,rowsD' (List.map ReqT.row p.reqs)]],m:=[]}) (e:=Exit.normal) pok [.st (.mask [2,3,12,13,14])] [.b true,.row [vi u.att,vi u.req,vi u.cr],.b true,.row [vi u.att,vi u.req,vi u.cr]] (by kernel_rfl) (.c hlt (.c hr (.c hc0 (.c hr .n))))) ?_ ?_<;>(first|rfl|(simp only[b4F,hw,hc0,cond_true,cond_false];first|done|rfl))
theorem b4_last{p:ProgT}{us:List UseT}{i n:Int}{j:Nat}(hlt:Dd ((j:Int)<((us.map UseT.row).length:Int))=false):(CW Tryz.prog Γ0 [] false (sub Tryz.f22 4) (b4S p us i n j) (.exit 8) (b4E p us i n)):=by
 exact CW.cast (CW.symX (s':={t:=mkT 185 0 [(2,rowsD' (List.map UseT.row us)),(3,.ref (.ptr 0 0)),(12,int i),(13,int n)],h:=[.var [strD p.nm,int p.number,int p.uses,int p.earn,int p.num,int p.den,rowsD' (List.map ReqT.row p.reqs)]],m:=[]}) (e:=Exit.exit 8) pok [.st (.mask [2,3,12,13])] [.b false] (by kernel_rfl) (.c hlt .n)) (by rfl) (by rfl)
def sumQ(us:List UseT)(i:Int):Int:=us.foldl (b4F i) 0
theorem b4_cw{p:ProgT}{us:List UseT}{i:Int}(hn:us.length≤1000):CW Tryz.prog Γ0 [] false (.loop (sub Tryz.f22 4)) (b4S p us i 0 0) (.exit 8) (b4E p us i (sumQ us i)):=by
 have:=CW.each (P:=Tryz.prog) (Γ:=Γ0) (h0:=[]) (rd:=false) (c:=sub Tryz.f22 4) (σ:=Int) (ρ:=Empty) us (fun q s=>.inl (b4F i s q))
  (fun j s=>b4S p us i s (j:Int)) (.exit 8) (fun s=>b4E p us i s) (fun r=>r.elim) (fun _ _=>True) (by simp) (fun r=>r.elim) ?_ ?_ 0 trivial
 ·rw[forL_fold] at this
  exact this
 ·intro j q s hq _
  have hi:=(List.getElem?_eq_some_iff.1 hq).1
  exact⟨fun _ _=>trivial,b4_body (rowAt hq rfl) (lt_len UseT.row hi) (wrap_succ hi (by omega))⟩
 ·intro s _
  exact b4_last (ge_len UseT.row us)
abbrev b3S(p:ProgT)(us:List UseT)(i:Int):AS:={t:=mkT 185 0 [(2,rowsD' (us.map UseT.row)),(3,.ref (.ptr 0 0)),(12,int i)],h:=[.var p.l],m:=[]}
abbrev b3E(p:ProgT):AS:={t:=mkT 185 0 [],h:=[.var p.l],m:=[]}
theorem b3_body{p:ProgT}{us:List UseT}{q:ReqT}{i:Nat}(hr:RowAt (i:Int) (p.reqs.map ReqT.row) q.row 6)(hlt:Dd ((i:Int)<((p.reqs.map ReqT.row).length:Int))=true)(hw:IntKind.i64.wrap ((i:Int)+1)=((i+1:Nat):Int))(hn:us.length≤1000)(hg:Dd (sumQ us (i:Int)>q.credits)=false):(CW Tryz.prog Γ0 [] false (sub Tryz.f22 3) (b3S p us i) .normal (b3S p us ((i+1:Nat):Int))):=by
 have hl0:=(@b4_cw (p) (us) ((↑i:Int)) (hn))
 refine CW.cast (CW.symX (s':={t:=mkT 185 0 [(2,rowsD' (List.map UseT.row us)),(3,.ref (.ptr 0 0)),(12,int (IntKind.wrap IntKind.i64 ((↑i:Int)+1)))],h:=[.var [strD p.nm,int p.number,int p.uses,int p.earn,int p.num,int p.den,rowsD' (List.map ReqT.row p.reqs)]],m:=[]}) (e:=Exit.normal) pok [.st (.mask [2,3,12])] [.b true,.sum [2,3,12,13,14] (Exit.exit 8) {t:=mkT 185 0 [(2,rowsD' (List.map UseT.row us)),(3,.ref (.ptr 0 0)),(12,int (↑i:Int)),(13,int (sumQ us (↑i:Int)))],h:=[.var [strD p.nm,int p.number,int p.uses,int p.earn,int p.num,int p.den,rowsD' (List.map ReqT.row p.reqs)]],m:=[]},.row [vs q.nm,vi q.credits,vi q.grade,Dp.v (Value.bool q.home),Dp.sl q.names,Dp.sl (inR1 q.frm)],.b false] (by kernel_rfl) (.c hlt (.c hl0 (.c hr (.c hg .n))))) ?_ ?_<;>(first|rfl|(rw[hw]<;>rfl))
theorem b3_bad{p:ProgT}{us:List UseT}{q:ReqT}{i:Nat}(hr:RowAt (i:Int) (p.reqs.map ReqT.row) q.row 6)(hlt:Dd ((i:Int)<((p.reqs.map ReqT.row).length:Int))=true)(hn:us.length≤1000)(hg:Dd (sumQ us (i:Int)>q.credits)=true):(CW Tryz.prog Γ0 [] false (sub Tryz.f22 3) (b3S p us i) .ret {t:=mkT 185 0 [(6,bool false)],h:=[.var p.l],m:=[]}):=by
 have hl0:=(@b4_cw (p) (us) ((↑i:Int)) (hn))
 exact CW.cast (CW.symX (s':={t:=mkT 185 0 [(6,bool false)],h:=[.var [strD p.nm,int p.number,int p.uses,int p.earn,int p.num,int p.den,rowsD' (List.map ReqT.row p.reqs)]],m:=[]}) (e:=Exit.ret) pok [.st (.mask [6])] [.b true,.sum [2,3,12,13,14] (Exit.exit 8) {t:=mkT 185 0 [(2,rowsD' (List.map UseT.row us)),(3,.ref (.ptr 0 0)),(12,int (↑i:Int)),(13,int (sumQ us (↑i:Int)))],h:=[.var [strD p.nm,int p.number,int p.uses,int p.earn,int p.num,int p.den,rowsD' (List.map ReqT.row p.reqs)]],m:=[]},.row [vs q.nm,vi q.credits,vi q.grade,Dp.v (Value.bool q.home),Dp.sl q.names,Dp.sl (inR1 q.frm)],.b true] (by kernel_rfl) (.c hlt (.c hl0 (.c hr (.c hg .n))))) (by rfl) (by rfl)
theorem b3_last{p:ProgT}{us:List UseT}{i:Nat}(hlt:Dd ((i:Int)<((p.reqs.map ReqT.row).length:Int))=false):(CW Tryz.prog Γ0 [] false (sub Tryz.f22 3) (b3S p us i) (.exit 6) (b3E p)):=by
 exact CW.cast (CW.symX (s':={t:=mkT 185 0 [],h:=[.var [strD p.nm,int p.number,int p.uses,int p.earn,int p.num,int p.den,rowsD' (List.map ReqT.row p.reqs)]],m:=[]}) (e:=Exit.exit 6) pok [.st (.mask [])] [.b false] (by kernel_rfl) (.c hlt .n)) (by rfl) (by rfl)
def b3G(us:List UseT)(q:ReqT)(i:Nat):Nat⊕Unit:=match Dd (sumQ us (i:Int)>q.credits) with
 | true=>.inr ()
 | false=>.inl (i+1)
theorem b3_each{p:ProgT}{us:List UseT}(hn:us.length≤1000)(hl:p.reqs.length≤1000):CW Tryz.prog Γ0 [] false (.loop (sub Tryz.f22 3)) (b3S p us 0) (eachFin (.exit 6) (fun _:Nat=>b3E p) (fun _:Unit=>bX p) (forL (b3G us) p.reqs 0)).1 (eachFin (.exit 6) (fun _:Nat=>b3E p) (fun _:Unit=>bX p) (forL (b3G us) p.reqs 0)).2:=by
 refine CW.each p.reqs (b3G us) (fun i _=>b3S p us (i:Int)) (.exit 6) _ _ (fun i s=>s=i) (by simp) (fun _=>by simp) ?_ ?_ 0 rfl
 ·intro i a s ha hs
  subst hs
  have hi:=(List.getElem?_eq_some_iff.1 ha).1
  cases hg:Dd (sumQ us (s:Int)>a.credits) with
  | true =>
   have e:b3G us a s=.inr ():=by unfold b3G;rw[hg]
   rw[e]
   exact⟨fun _ h=>(by cases h),b3_bad (rowAt ha rfl) (lt_len ReqT.row hi) hn hg⟩
  | false =>
   have e:b3G us a s=.inl (s+1):=by unfold b3G;rw[hg]
   rw[e]
   exact⟨fun _ h=>(by cases h;rfl),b3_body (rowAt ha rfl) (lt_len ReqT.row hi) (wrap_succ hi (by omega)) hn hg⟩
 ·intro s _
  exact b3_last (ge_len ReqT.row p.reqs)
abbrev b0S(p:ProgT)(l:List AttT)(us:List UseT)(i:Int):AS:={t:=mkT 185 0 [(1,rowsD' (l.map AttT.row)),(2,rowsD' (us.map UseT.row)),(3,.ref (.ptr 0 0)),(7,int i)],h:=[.var p.l],m:=[]}
noncomputable abbrev b0_first_x0(p:ProgT)(u:UseT):List Blk:=[.var [strD p.nm,int p.number,int p.uses,int p.earn,int p.num,int p.den,rowsD' (List.map ReqT.row p.reqs)],.var [int u.att,int u.req,int u.cr]]
theorem b0_first{p:ProgT}{l:List AttT}{us:List UseT}{u:UseT}{a:AttT}{q:ReqT}{i:Nat}(hsf:Short q.frm)(hr:RowAt (i:Int) (us.map UseT.row) u.row 3)(hlt:Dd ((i:Int)<((us.map UseT.row).length:Int))=true)(hw:IntKind.i64.wrap ((i:Int)+1)=((i+1:Nat):Int))(ha:RowAt u.att (l.map AttT.row) a.row 5)(hq:RowAt u.req (p.reqs.map ReqT.row) q.row 6)
  (hg:(Dd (u.att<0)||Dd (u.att≥((l.map AttT.row).length:Int))||Dd (u.req<0)||Dd (u.req≥((p.reqs.map ReqT.row).length:Int))||Dd (u.cr<1)||Dd (u.cr>a.credits)||!elB q a)=false) (hi:Dd ((i:Int)>0)=false):(CW Tryz.prog Γ0 [] false (sub Tryz.f22 0) (b0S p l us (i:Int)) .normal (b0S p l us ((i+1:Nat):Int))):=by
 refine CW.cast (CW.symX (s':={t:=mkT 185 0 [(1,rowsD' (List.map AttT.row l)),(2,rowsD' (List.map UseT.row us)),(3,.ref (.ptr 0 0)),(7,int (IntKind.wrap IntKind.i64 ((↑i:Int)+1)))],h:=[.var [strD p.nm,int p.number,int p.uses,int p.earn,int p.num,int p.den,rowsD' (List.map ReqT.row p.reqs)]],m:=[]}) (e:=Exit.normal) pok [.st (.mask [1,2,3,7]),.st (.trim 1)] [.b true,.row [vi u.att,vi u.req,vi u.cr],.row (AttT.row a),.row [vs q.nm,vi q.credits,vi q.grade,Dp.v (Value.bool q.home),Dp.sl q.names,Dp.sl (inR1 q.frm)],.row (AttT.row a),.val (bool (elB q a)),.b false,.g false,.g false,.g false,.g false,.g false,.g false,.g false,.g false,.g false,.g false,.g false,.g false,.g false,.g false,.g false,.g false,.g false,.g false,.g false,.g false,.g false,.g false,.g false,.g false,.g false,.g false,.g false,.g false,.g false,.g false,.g false,.ov 113 (bool false),.b false] (by kernel_rfl) (.c hlt (.c hr (.c (show(!(Dd (u.att<0)||Dd (u.att≥(↑(List.length (List.map AttT.row l)):Int))||Dd (u.req<0)||Dd (u.req≥(↑(List.length (List.map ReqT.row p.reqs)):Int))||Dd (u.cr<1)))=true→RowAt u.att (List.map AttT.row l) (AttT.row a) 5 from(fun hg=>ha)) (.c (show(!(Dd (u.att<0)||Dd (u.att≥(↑(List.length (List.map AttT.row l)):Int))||Dd (u.req<0)||Dd (u.req≥(↑(List.length (List.map ReqT.row p.reqs)):Int))||Dd (u.cr<1)||Dd (u.cr>a.credits)))=true→RowAt u.req (List.map ReqT.row p.reqs) [vs q.nm,vi q.credits,vi q.grade,Dp.v (Value.bool q.home),Dp.sl q.names,Dp.sl (inR1 q.frm)] 6 from(fun hg=>hq)) (.c (show(!(Dd (u.att<0)||Dd (u.att≥(↑(List.length (List.map AttT.row l)):Int))||Dd (u.req<0)||Dd (u.req≥(↑(List.length (List.map ReqT.row p.reqs)):Int))||Dd (u.cr<1)||Dd (u.cr>a.credits)))=true→RowAt u.att (List.map AttT.row l) (AttT.row a) 5 from(fun hg=>ha)) (.c (show(!(Dd (u.att<0)||Dd (u.att≥(↑(List.length (List.map AttT.row l)):Int))||Dd (u.req<0)||Dd (u.req≥(↑(List.length (List.map ReqT.row p.reqs)):Int))||Dd (u.cr<1)||Dd (u.cr>a.credits)))=true→Ev Tryz.prog Γ0 35 [D.agg [strD q.nm,int q.credits,int q.grade,bool q.home,rowsD' q.names,rowsD' (inR1 q.frm)],(ag (AttT.row a))] (b0_first_x0 p u) (bool (elB q a)) (b0_first_x0 p u) from(fun hg=>(@fits_ev (q) (a) (hsf) ((b0_first_x0 p u))))) (.c hg (.c (show(Dd ((↑i:Int)>0)==true)=false from(by rw[hi]<;>rfl)) (.c (show(Dd ((↑i:Int)>0)==true)=false from(by rw[hi]<;>rfl)) (.c (show(Dd ((↑i:Int)>0)==true)=false from(by rw[hi]<;>rfl)) (.c (show(Dd ((↑i:Int)>0)==true)=false from(by rw[hi]<;>rfl)) (.c (show(Dd ((↑i:Int)>0)==true)=false from(by rw[hi]<;>rfl)) (.c (show(Dd ((↑i:Int)>0)==true)=false from(by rw[hi]<;>rfl)) (.c (show(Dd ((↑i:Int)>0)==true)=false from(by rw[hi]<;>rfl)) (.c (show(Dd ((↑i:Int)>0)==true)=false from(by rw[hi]<;>rfl)) (.c (show(Dd ((↑i:Int)>0)==true)=false from(by rw[hi]<;>rfl)) (.c (show(Dd ((↑i:Int)>0)==true)=false from(by rw[hi]<;>rfl)) (.c (show false=false from rfl) (.c (show false=false from rfl) (.c (show false=false from rfl) (.c (show false=false from rfl) (.c (show false=false from rfl) (.c (show false=false from rfl) (.c (show false=false from rfl) (.c (show false=false from rfl) (.c (show false=false from rfl) (.c (show false=false from rfl) (.c (show false=false from rfl) (.c (show false=false from rfl) (.c (show false=false from rfl) (.c (show false=false from rfl) (.c (show false=false from rfl) (.c (show false=false from rfl) (.c (show false=false from rfl) (.c (show false=false from rfl) (.c (show false=false from rfl) (.c (show false=false from rfl) (.c (show(Dd ((↑i:Int)>0)==true)=false from(by rw[hi]<;>rfl)) (.c (show PickIs (bool (Dd ((↑i:Int)>0))) (D.p (Dp.v (Value.tuple {toList:=[]}))) (bool false) (bool false) from(pickIs_f hi rfl)) (.c (show false=false from rfl) .n))))))))))))))))))))))))))))))))))))))))) ?_ ?_<;>(first|rfl|(rw[hw]<;>rfl))
noncomputable abbrev b0_next_x0(p:ProgT)(u:UseT):List Blk:=[.var [strD p.nm,int p.number,int p.uses,int p.earn,int p.num,int p.den,rowsD' (List.map ReqT.row p.reqs)],.var [int u.att,int u.req,int u.cr]]
theorem b0_next{p:ProgT}{l:List AttT}{us:List UseT}{u:UseT}{a:AttT}{q:ReqT}{w:UseT}{i:Nat}(hsf:Short q.frm)(hr:RowAt (i:Int) (us.map UseT.row) u.row 3)(hlt:Dd ((i:Int)<((us.map UseT.row).length:Int))=true)(hw:IntKind.i64.wrap ((i:Int)+1)=((i+1:Nat):Int))(ha:RowAt u.att (l.map AttT.row) a.row 5)(hq:RowAt u.req (p.reqs.map ReqT.row) q.row 6)
  (hg:(Dd (u.att<0)||Dd (u.att≥((l.map AttT.row).length:Int))||Dd (u.req<0)||Dd (u.req≥((p.reqs.map ReqT.row).length:Int))||Dd (u.cr<1)||Dd (u.cr>a.credits)||!elB q a)=false) (hi:Dd ((i:Int)>0)=true) (hv:RowAt (IntKind.i64.wrap ((i:Int) - 1)) (us.map UseT.row) w.row 3)
  (hs:(Dd ((i:Int)>0)&&(Dd (w.att>u.att)||w.att==u.att&&Dd (w.req≥u.req)))=false):(CW Tryz.prog Γ0 [] false (sub Tryz.f22 0) (b0S p l us (i:Int)) .normal (b0S p l us ((i+1:Nat):Int))):=by
 refine CW.cast (CW.symX (s':={t:=mkT 185 0 [(1,rowsD' (List.map AttT.row l)),(2,rowsD' (List.map UseT.row us)),(3,.ref (.ptr 0 0)),(7,int (IntKind.wrap IntKind.i64 ((↑i:Int)+1)))],h:=[.var [strD p.nm,int p.number,int p.uses,int p.earn,int p.num,int p.den,rowsD' (List.map ReqT.row p.reqs)]],m:=[]}) (e:=Exit.normal) pok [.st (.mask [1,2,3,7]),.st (.trim 1)] [.b true,.row [vi u.att,vi u.req,vi u.cr],.row (AttT.row a),.row [vs q.nm,vi q.credits,vi q.grade,Dp.v (Value.bool q.home),Dp.sl q.names,Dp.sl (inR1 q.frm)],.row (AttT.row a),.val (bool (elB q a)),.b false,.row [vi w.att,vi w.req,vi w.cr],.row [vi w.att,vi w.req,vi w.cr],.row [vi w.att,vi w.req,vi w.cr],.b false] (by kernel_rfl) (.c hlt (.c hr (.c (show(!(Dd (u.att<0)||Dd (u.att≥(↑(List.length (List.map AttT.row l)):Int))||Dd (u.req<0)||Dd (u.req≥(↑(List.length (List.map ReqT.row p.reqs)):Int))||Dd (u.cr<1)))=true→RowAt u.att (List.map AttT.row l) (AttT.row a) 5 from(fun hg=>ha)) (.c (show(!(Dd (u.att<0)||Dd (u.att≥(↑(List.length (List.map AttT.row l)):Int))||Dd (u.req<0)||Dd (u.req≥(↑(List.length (List.map ReqT.row p.reqs)):Int))||Dd (u.cr<1)||Dd (u.cr>a.credits)))=true→RowAt u.req (List.map ReqT.row p.reqs) [vs q.nm,vi q.credits,vi q.grade,Dp.v (Value.bool q.home),Dp.sl q.names,Dp.sl (inR1 q.frm)] 6 from(fun hg=>hq)) (.c (show(!(Dd (u.att<0)||Dd (u.att≥(↑(List.length (List.map AttT.row l)):Int))||Dd (u.req<0)||Dd (u.req≥(↑(List.length (List.map ReqT.row p.reqs)):Int))||Dd (u.cr<1)||Dd (u.cr>a.credits)))=true→RowAt u.att (List.map AttT.row l) (AttT.row a) 5 from(fun hg=>ha)) (.c (show(!(Dd (u.att<0)||Dd (u.att≥(↑(List.length (List.map AttT.row l)):Int))||Dd (u.req<0)||Dd (u.req≥(↑(List.length (List.map ReqT.row p.reqs)):Int))||Dd (u.cr<1)||Dd (u.cr>a.credits)))=true→Ev Tryz.prog Γ0 35 [D.agg [strD q.nm,int q.credits,int q.grade,bool q.home,rowsD' q.names,rowsD' (inR1 q.frm)],(ag (AttT.row a))] (b0_next_x0 p u) (bool (elB q a)) (b0_next_x0 p u) from(fun hg=>(@fits_ev (q) (a) (hsf) ((b0_next_x0 p u))))) (.c hg (.c (show Dd ((↑i:Int)>0)=true→RowAt (IntKind.wrap IntKind.i64 ((↑i:Int) - 1)) (List.map UseT.row us) [vi w.att,vi w.req,vi w.cr] 3 from(fun hg=>hv)) (.c (show(Dd ((↑i:Int)>0)&&!Dd (w.att>u.att))=true→RowAt (IntKind.wrap IntKind.i64 ((↑i:Int) - 1)) (List.map UseT.row us) [vi w.att,vi w.req,vi w.cr] 3 from(fun hg=>hv)) (.c (show(Dd ((↑i:Int)>0)&&!Dd (w.att>u.att)&&w.att==u.att)=true→RowAt (IntKind.wrap IntKind.i64 ((↑i:Int) - 1)) (List.map UseT.row us) [vi w.att,vi w.req,vi w.cr] 3 from(fun hg=>hv)) (.c hs .n)))))))))))) ?_ ?_<;>(first|rfl|(rw[hw]<;>rfl))
structure UseOk (p:ProgT) (l:List AttT) (u:UseT):Prop where
 a0:0≤u.att
 q0:0≤u.req
 c0:1≤u.cr
 ex:∃a q,l[u.att.toNat]? = some a∧p.reqs[u.req.toNat]? = some q∧u.cr≤a.credits∧elB q a=true
def useLt(w u:UseT):Prop:=w.att<u.att∨w.att=u.att∧w.req<u.req
theorem b0_last{p:ProgT}{l:List AttT}{us:List UseT}{i:Nat}(hlt:Dd ((i:Int)<((us.map UseT.row).length:Int))=false):(CW Tryz.prog Γ0 [] false (sub Tryz.f22 0) (b0S p l us i) (.exit 0) (b1E p l us)):=by
 exact CW.cast (CW.symX (s':={t:=mkT 185 0 [(1,rowsD' (List.map AttT.row l)),(2,rowsD' (List.map UseT.row us)),(3,.ref (.ptr 0 0))],h:=[.var [strD p.nm,int p.number,int p.uses,int p.earn,int p.num,int p.den,rowsD' (List.map ReqT.row p.reqs)]],m:=[]}) (e:=Exit.exit 0) pok [.st (.mask [1,2,3])] [.b false] (by kernel_rfl) (.c hlt .n)) (by rfl) (by rfl)
theorem asn_a{p:ProgT}{l:List AttT}{us:List UseT}
  (h1:CW Tryz.prog Γ0 [] false (.loop (sub Tryz.f22 0)) (b0S p l us 0) (.exit 0) (b1E p l us))
  (h2:CW Tryz.prog Γ0 [] false (.loop (sub Tryz.f22 1)) (b1S p l us 0) (.exit 2) (b1E p l us))
  (h3:CW Tryz.prog Γ0 [] false (.loop (sub Tryz.f22 3)) (b3S p us 0) (.exit 6) (b3E p)) (h:List Blk):(Ev Tryz.prog Γ0 22 [.agg p.l,rowsD' (l.map AttT.row),rowsD' (us.map UseT.row)] h (bool true) h):=by
 have hl0:=(@h1)
 have hl1:=(@h2)
 have hl2:=(@h3)
 exact Ev.castH (Ev.sym0 (d:=bool true) pok [.sum [1,2,3,7] (Exit.exit 0) {t:=mkT 185 0 [(1,rowsD' (List.map AttT.row l)),(2,rowsD' (List.map UseT.row us)),(3,.ref (.ptr 0 0))],h:=[.var [strD p.nm,int p.number,int p.uses,int p.earn,int p.num,int p.den,rowsD' (List.map ReqT.row p.reqs)]],m:=[]},.sum [1,2,3,9] (Exit.exit 2) {t:=mkT 185 0 [(1,rowsD' (List.map AttT.row l)),(2,rowsD' (List.map UseT.row us)),(3,.ref (.ptr 0 0))],h:=[.var [strD p.nm,int p.number,int p.uses,int p.earn,int p.num,int p.den,rowsD' (List.map ReqT.row p.reqs)]],m:=[]},.sum [2,3,12] (Exit.exit 6) {t:=mkT 185 0 [],h:=[.var [strD p.nm,int p.number,int p.uses,int p.earn,int p.num,int p.den,rowsD' (List.map ReqT.row p.reqs)]],m:=[]}] (by kernel_rfl) (.c hl0 (.c hl1 (.c hl2 .n))) rfl rfl h) (by rfl) (by rfl)
def prs(p:ProgT):List AttT→Int→List (Int×Int×Int)
 | [],_=>[]
 | a::l,i=>(elR p a).map (fun k=>(i,k,a.credits))++prs p l (i+1)
theorem prs_len(p:ProgT):∀(l:List AttT) (i:Int),(prs p l i).length=pairsN p l
 | [],_=>rfl
 | a::l,i=>by
  simp only[prs,List.length_append,List.length_map,prs_len p l,pairsN,List.map_cons,List.sum_cons]
def prE(mid:Int)(t:Int×Int×Int):EdgT:=⟨IntKind.i64.wrap (1+t.1),IntKind.i64.wrap (mid+t.2.1),t.2.2⟩
theorem n2F_map(mid i cr:Int):∀(ks:List Int) (es:List EdgT),ks.foldl (n2F mid i cr) es=es++ks.map fun k=>prE mid (i,k,cr)
 | [],es=>by simp
 | k::ks,es=>by
  rw[List.foldl_cons,n2F_map mid i cr ks]
  simp[n2F,prE]
theorem n3F_prs(p:ProgT)(mid:Int):∀(l:List AttT) (es:List EdgT) (i:Int),(l.foldl (n3F p mid) (es,i)).1=es++(prs p l i).map (prE mid)
 | [],es,i=>by simp[prs]
 | a::l,es,i=>by
  rw[List.foldl_cons]
  show(l.foldl (n3F p mid) ((elR p a).foldl (n2F mid i a.credits) es,i+1)).1=_
  rw[n3F_prs p mid l,n2F_map]
  simp only[prs,List.map_append,List.map_map,List.append_assoc]
  rfl
def apT2(fl:List Int)(s:AuS)(t:Int×Int×Int):AuS:=apG fl t.1 s t.2.1
theorem a3F_prs(p:ProgT)(fl:List Int):∀(l:List AttT) (s:AuS) (i:Int),(l.foldl (a3F p fl) (s,i)).1=(prs p l i).foldl (apT2 fl) s
 | [],s,i=>rfl
 | a::l,s,i=>by
  rw[List.foldl_cons]
  show(l.foldl (a3F p fl) ((elR p a).foldl (apG fl i) s,i+1)).1=_
  rw[a3F_prs p fl l]
  simp only[prs,List.foldl_append,List.foldl_map]
  rfl
def useL(fl:List Int):List (Int×Int×Int)→Nat→List UseT
 | [],_=>[]
 | t::ts,c=>match Dd (fl.getD c 0>0) with
  | true=>⟨t.1,t.2.1,fl.getD c 0⟩::useL fl ts (c+1)
  | false=>useL fl ts (c+1)
theorem apT2_us(fl:List Int):∀(ts:List (Int×Int×Int)) (s:AuS) (c:Nat),s.at_=c→c+ts.length≤1000000→(ts.foldl (apT2 fl) s).us=s.us++useL fl ts c
 | [],s,c,_,_=>by simp[useL]
 | t::ts,s,c,h,hc=>by
  simp only[List.length_cons] at hc
  rw[List.foldl_cons,apT2_us fl ts (apT2 fl s t) (c+1) (apG_at h (by omega)) (by omega)]
  have e:s.at_.toNat=c:=by rw[h,Int.toNat_natCast]
  unfold apT2 apG apF
  rw[e]
  simp only[useL]
  cases hg:Dd (fl.getD c 0>0) with
  | true=>simp
  | false=>rfl
theorem useL_mem(fl:List Int):∀(ts:List (Int×Int×Int)) (c:Nat) (u:UseT),u∈useL fl ts c→∃(j:Nat) (t:Int×Int×Int),ts[j]? = some t∧u.att=t.1∧u.req=t.2.1∧u.cr=fl.getD (c+j) 0∧0<u.cr
 | [],_,u,h=>by simp[useL] at h
 | t::ts,c,u,h=>by
  simp only[useL] at h
  cases hg:Dd (fl.getD c 0>0) with
  | true =>
   rw[hg] at h
   rcases List.mem_cons.1 h with rfl|h
   ·exact⟨0,t,rfl,rfl,rfl,rfl,by simpa using hg⟩
   ·obtain⟨j,t',a,b,c',d,e⟩:=useL_mem fl ts (c+1) u h
    exact⟨j+1,t',by simpa using a,b,c',by rw[d];congr 1;omega,e⟩
  | false =>
   rw[hg] at h
   obtain⟨j,t',a,b,c',d,e⟩:=useL_mem fl ts (c+1) u h
   exact⟨j+1,t',by simpa using a,b,c',by rw[d];congr 1;omega,e⟩
theorem elF_mem(a:AttT):∀(qs:List ReqT) (s:List Int×Int) (k:Int),k∈(qs.foldl (elF a) s).1→k∈s.1∨∃(j:Nat) (q:ReqT),qs[j]? = some q∧k=s.2+j∧elB q a=true
 | [],s,k,h=>.inl h
 | q::qs,s,k,h=>by
  rw[List.foldl_cons] at h
  rcases elF_mem a qs (elF a s q) k h with h|⟨j,q',h1,h2,h3⟩
  ·unfold elF at h
   cases hb:elB q a with
   | true =>
    rw[hb] at h
    simp only[cond_true,List.mem_append,List.mem_singleton] at h
    rcases h with h|rfl
    ·exact .inl h
    ·exact .inr ⟨0,q,rfl,by simp,hb⟩
   | false=>rw[hb] at h;exact .inl h
  ·exact .inr ⟨j+1,q',by simpa using h1,by rw[h2];simp only[elF];omega,h3⟩
theorem elF_pw(a:AttT):∀(qs:List ReqT) (s:List Int×Int),s.1.Pairwise (· < ·)→(∀k∈s.1,k<s.2)→(qs.foldl (elF a) s).1.Pairwise (· < ·)
 | [],s,h,_=>h
 | q::qs,s,h,hk=>by
  rw[List.foldl_cons]
  refine elF_pw a qs (elF a s q) ?_ ?_
  ·unfold elF
   cases elB q a with
   | true =>
    simp only[cond_true]
    rw[List.pairwise_append]
    exact⟨h,List.pairwise_singleton _ _,fun x hx y hy=>by rw[List.mem_singleton.1 hy];exact hk x hx⟩
   | false=>exact h
  ·intro k hm
   unfold elF at hm ⊢
   cases hb:elB q a with
   | true =>
    rw[hb] at hm
    simp only[cond_true,List.mem_append,List.mem_singleton] at hm
    rcases hm with hm|rfl
    ·have:=hk k hm;simp only;omega
    ·simp only;omega
   | false =>
    rw[hb] at hm
    have:=hk k hm;simp only;omega
theorem prs_mem(p:ProgT):∀(l:List AttT) (i:Int) (t:Int×Int×Int),t∈prs p l i→∃(j:Nat) (a:AttT),l[j]? = some a∧t.1=i+j∧t.2.2=a.credits∧t.2.1∈elR p a
 | [],_,_,h=>by simp[prs] at h
 | a::l,i,t,h=>by
  simp only[prs,List.mem_append,List.mem_map] at h
  rcases h with ⟨k,hk,rfl⟩|h
  ·exact⟨0,a,rfl,by simp,rfl,hk⟩
  ·obtain⟨j,b,h1,h2,h3⟩:=prs_mem p l (i+1) t h
   exact⟨j+1,b,by simpa using h1,by rw[h2];omega,h3⟩
def prLt(s t:Int×Int×Int):Prop:=s.1<t.1∨s.1=t.1∧s.2.1<t.2.1
theorem prs_pw(p:ProgT):∀(l:List AttT) (i:Int),(prs p l i).Pairwise prLt
 | [],_=>List.Pairwise.nil
 | a::l,i=>by
  simp only[prs]
  rw[List.pairwise_append]
  refine⟨?_,prs_pw p l (i+1),?_⟩
  ·rw[List.pairwise_map]
   refine List.Pairwise.imp (fun h=>.inr ⟨rfl,h⟩) (elF_pw a p.reqs ([],0) List.Pairwise.nil (by simp))
  ·intro s hs t ht
   obtain⟨k,_,rfl⟩:=List.mem_map.1 hs
   obtain⟨j,b,_,h2,_⟩:=prs_mem p l (i+1) t ht
   exact .inl (by rw[h2];simp only;omega)
theorem useL_pw(fl:List Int):∀(ts:List (Int×Int×Int)) (c:Nat),ts.Pairwise prLt→(useL fl ts c).Pairwise useLt
 | [],_,_=>List.Pairwise.nil
 | t::ts,c,h=>by
  obtain⟨h1,h2⟩:=List.pairwise_cons.1 h
  simp only[useL]
  cases Dd (fl.getD c 0>0) with
  | true =>
   refine List.pairwise_cons.2 ⟨fun u hu=>?_,useL_pw fl ts (c+1) h2⟩
   obtain⟨j,t',a,b,c',_,_⟩:=useL_mem fl ts (c+1) u hu
   have:=h1 t' (List.mem_of_getElem? a)
   unfold prLt at this
   unfold useLt
   rw[b,c']
   exact this
  | false=>exact useL_pw fl ts (c+1) h2
theorem pw_next{us:List UseT}(h:us.Pairwise useLt)(i:Nat)(w u:UseT)(hw:us[i]? = some w)(hu:us[i+1]? = some u):useLt w u:=by
 obtain⟨a1,a2⟩:=List.getElem?_eq_some_iff.1 hw
 obtain⟨b1,b2⟩:=List.getElem?_eq_some_iff.1 hu
 have:=List.pairwise_iff_getElem.1 h i (i+1) a1 b1 (by omega)
 rw[a2,b2] at this
 exact this
theorem n4F_pre{mid sink:Int}:∀(qs:List ReqT) (s:List EdgT×Int),∃r,(qs.foldl (n4F mid sink) s).1=s.1++r
 | [],s=>⟨[],by simp⟩
 | q::qs,s=>by
  obtain⟨r,hr⟩:=n4F_pre (mid:=mid) (sink:=sink) qs (n4F mid sink s q)
  refine⟨⟨IntKind.i64.wrap (mid+s.2),sink,q.credits⟩::r,?_⟩
  rw[List.foldl_cons,hr];simp only[n4F,List.append_assoc,List.singleton_append]
theorem net3_pair{p:ProgT}{l:List AttT}{j:Nat}{t:Int×Int×Int}(ht:(prs p l 0)[j]? = some t):(net3 p l).getD (l.length+j) ⟨0,0,0⟩=prE (midR l) t:=by
 obtain⟨r,hr⟩:=n4F_pre (mid:=midR l) (sink:=sinkR p l) p.reqs (net2 p l,0)
 have h2:net2 p l=net1 p l++(prs p l 0).map (prE (midR l)):=n3F_prs p (midR l) l (net1 p l) 0
 have hj:=(List.getElem?_eq_some_iff.1 ht).1
 unfold net3
 rw[hr]
 simp only[h2,List.getD,List.append_assoc]
 rw[List.getElem?_append_right (by rw[net1_len];omega),net1_len,Nat.add_sub_cancel_left,List.getElem?_append_left (by simpa using hj)]
 simp[ht]
theorem useL_ok{p:ProgT}{l:List AttT}{fl:List Int}(hf:FlOk (net3 p l) fl):∀u∈useL fl (prs p l 0) l.length,UseOk p l u:=by
 intro u hu
 obtain⟨j,t,h1,h2,h3,h4,h5⟩:=useL_mem fl _ _ u hu
 obtain⟨i,a,g1,g2,g3,g4⟩:=prs_mem p l 0 t (List.mem_of_getElem? h1)
 have hj:=(List.getElem?_eq_some_iff.1 h1).1
 rw[prs_len] at hj
 have hm:=hf.hi (l.length+j) (by rw[net3_length];omega)
 rw[net3_pair h1] at hm
 rcases elF_mem a p.reqs ([],0) t.2.1 g4 with h|⟨k,q,k1,k2,k3⟩
 ·simp at h
 ·simp only[prE] at hm
  refine⟨by rw[h2,g2];omega,by rw[h3,k2];simp,by omega,a,q,?_,?_,by rw[h4,←g3];exact hm,k3⟩
  ·rw[h2,g2];simpa using g1
  ·rw[h3,k2];simpa using k1
theorem outL_app:∀(es1 es2:List EdgT) (fs:List Int) (w:Int),es1.length≤fs.length→outL (es1++es2) fs w=outL es1 (fs.take es1.length) w+outL es2 (fs.drop es1.length) w
 | [],es2,fs,w,_=>by simp[outL]
 | x::es1,es2,[],w,h=>by simp at h
 | x::es1,es2,f::fs,w,h=>by
  simp only[List.cons_append,outL,List.length_cons,List.take_succ_cons,List.drop_succ_cons]
  rw[outL_app es1 es2 fs w (by simpa using h)]
  omega
def sP(i:Int):List (Int×Int×Int)→List Int→Int
 | t::ts,f::gs=>(if t.1=i then f else 0)+sP i ts gs
 | _,_=>0
theorem sP_nil{i:Int}{gs:List Int}:sP i [] gs=0:=by cases gs<;>rfl
theorem outL_sP{mid i:Int}:∀(ts:List (Int×Int×Int)) (gs:List Int),(∀t∈ts,IntKind.i64.wrap (1+t.1)=1+t.1∧IntKind.i64.wrap (mid+t.2.1) ≠ 1+i)→outL (ts.map (prE mid)) gs (1+i)=sP i ts gs
 | [],gs,_=>by cases gs<;>rfl
 | t::ts,[],_=>rfl
 | t::ts,f::gs,h=>by
  obtain⟨h1,h2⟩:=h t (by simp)
  simp only[List.map_cons,outL,sP,prE]
  rw[outL_sP ts gs (fun x hx=>h x (by simp[hx])),if_neg h2,h1]
  by_cases e:t.1=i
  ·rw[if_pos e,if_pos (by omega)];omega
  ·rw[if_neg e,if_neg (by omega)];omega
theorem b2_sum{i:Int}:∀(ts:List (Int×Int×Int)) (fl:List Int) (c:Nat) (n:Int),c+ts.length≤fl.length→(∀j,0≤fl.getD j 0∧fl.getD j 0≤1073741824)→0≤n→n+ts.length*1073741824≤4611686018427387904 →
  (useL fl ts c).foldl (b2F i) n=n+sP i ts (fl.drop c)
 | [],fl,c,n,_,_,_,_=>by
  rw[sP_nil]
  show n=n+0
  omega
 | t::ts,fl,c,n,hc,hf,h0,hb=>by
  simp only[List.length_cons] at hc hb
  have hd:fl.drop c=fl.getD c 0::fl.drop (c+1):=by
   rw[List.drop_eq_getElem_cons (show c<fl.length by omega)]
   simp[List.getD,show c<fl.length by omega]
  obtain⟨f0,f1⟩:=hf c
  have hb':n+((ts.length:Int)+1)*1073741824≤4611686018427387904:=by
   rw[Int.natCast_add] at hb;exact hb
  rw[hd]
  simp only[useL,sP]
  cases hg:Dd (fl.getD c 0>0) with
  | true =>
   simp only[List.foldl_cons]
   by_cases e:t.1=i
   ·have e2:b2F i n ⟨t.1,t.2.1,fl.getD c 0⟩=n+fl.getD c 0:=by
     unfold b2F
     simp only[e,beq_self_eq_true,cond_true]
     exact wrap_i64 (by omega) (by omega)
    rw[e2,b2_sum ts fl (c+1) (n+fl.getD c 0) (by omega) hf (by omega) (by omega),if_pos e]
    omega
   ·have e2:b2F i n ⟨t.1,t.2.1,fl.getD c 0⟩=n:=by
     unfold b2F
     rw[show((⟨t.1,t.2.1,fl.getD c 0⟩:UseT).att==i)=false from by simpa using e]
     rfl
    rw[e2,b2_sum ts fl (c+1) n (by omega) hf h0 (by omega),if_neg e]
    omega
  | false =>
   have hz:fl.getD c 0=0:=by
    have:¬fl.getD c 0>0:=by simpa using hg
    omega
   simp only
   rw[b2_sum ts fl (c+1) n (by omega) hf h0 (by omega),hz]
   split<;>omega
def sQ(i:Int):List (Int×Int×Int)→List Int→Int
 | t::ts,f::gs=>(if t.2.1=i then f else 0)+sQ i ts gs
 | _,_=>0
theorem sQ_nil{i:Int}{gs:List Int}:sQ i [] gs=0:=by cases gs<;>rfl
theorem outL_sQ{mid i:Int}:∀(ts:List (Int×Int×Int)) (gs:List Int),(∀t∈ts,IntKind.i64.wrap (mid+t.2.1)=mid+t.2.1∧IntKind.i64.wrap (1+t.1) ≠ mid+i)→outL (ts.map (prE mid)) gs (mid+i) = - sQ i ts gs
 | [],gs,_=>by cases gs<;>rfl
 | t::ts,[],_=>rfl
 | t::ts,f::gs,h=>by
  obtain⟨h1,h2⟩:=h t (by simp)
  simp only[List.map_cons,outL,sQ,prE]
  rw[outL_sQ ts gs (fun x hx=>h x (by simp[hx])),if_neg h2,h1]
  by_cases e:t.2.1=i
  ·rw[if_pos e,if_pos (by omega)];omega
  ·rw[if_neg e,if_neg (by omega)];omega
theorem b4_sum{i:Int}:∀(ts:List (Int×Int×Int)) (fl:List Int) (c:Nat) (n:Int),c+ts.length≤fl.length→(∀j,0≤fl.getD j 0∧fl.getD j 0≤1073741824)→0≤n→n+ts.length*1073741824≤4611686018427387904 →
  (useL fl ts c).foldl (b4F i) n=n+sQ i ts (fl.drop c)
 | [],fl,c,n,_,_,_,_=>by
  rw[sQ_nil]
  show n=n+0
  omega
 | t::ts,fl,c,n,hc,hf,h0,hb=>by
  simp only[List.length_cons] at hc hb
  have hd:fl.drop c=fl.getD c 0::fl.drop (c+1):=by
   rw[List.drop_eq_getElem_cons (show c<fl.length by omega)]
   simp[List.getD,show c<fl.length by omega]
  obtain⟨f0,f1⟩:=hf c
  have hb':n+((ts.length:Int)+1)*1073741824≤4611686018427387904:=by
   rw[Int.natCast_add] at hb;exact hb
  rw[hd]
  simp only[useL,sQ]
  cases hg:Dd (fl.getD c 0>0) with
  | true =>
   simp only[List.foldl_cons]
   by_cases e:t.2.1=i
   ·have e2:b4F i n ⟨t.1,t.2.1,fl.getD c 0⟩=n+fl.getD c 0:=by
     unfold b4F
     simp only[e,beq_self_eq_true,cond_true]
     exact wrap_i64 (by omega) (by omega)
    rw[e2,b4_sum ts fl (c+1) (n+fl.getD c 0) (by omega) hf (by omega) (by omega),if_pos e]
    omega
   ·have e2:b4F i n ⟨t.1,t.2.1,fl.getD c 0⟩=n:=by
     unfold b4F
     rw[show((⟨t.1,t.2.1,fl.getD c 0⟩:UseT).req==i)=false from by simpa using e]
     rfl
    rw[e2,b4_sum ts fl (c+1) n (by omega) hf h0 (by omega),if_neg e]
    omega
  | false =>
   have hz:fl.getD c 0=0:=by
    have:¬fl.getD c 0>0:=by simpa using hg
    omega
   simp only
   rw[b4_sum ts fl (c+1) n (by omega) hf h0 (by omega),hz]
   split<;>omega
end Go.Vi
