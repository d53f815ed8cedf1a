/- DegreeAssigned: part of the proof: contracts of the functions that the law reaches, and the law. No conditions beyond the given statement's own. -/
import Derived.Test.YthokmgafnhmlbaaGreatDoorW5
open Decidable renaming decide → Dd
open Go Go.Proofs
namespace Go.Vi
set_option maxRecDepth 100000
set_option maxHeartbeats 4000000
theorem try0_ev(h:List Blk):(Ev Tryz.prog Γ0 41 [int 0] h (.tup []) h):=by
 exact Ev.castH (Ev.sym0 (P:=Tryz.prog) (Γ:=Γ0) (f:=41) (args:=[int 0]) (d:=D.tup []) pok (φ:=[(!0==0)=false]) [.inl,.b false] (by kernel_rfl) ⟨rfl,trivial⟩ rfl rfl h) (by rfl) (by rfl)
abbrev adT(l:List AttT):List D:=mkT 84 0 [(1,rowsD' (l.map AttT.row)),(2,.ref (.ptr 0 0)),(4,.ref (.ptr 1 0)),(5,.ref (.ptr 2 0))]
abbrev adH(p:ProgT)(e:Int):List Blk:=[.var p.l,.var [nq,int 0,nq],.var [int e]]
noncomputable abbrev ad_ok_x0(p:ProgT)(fl:List Int):List Blk:=[.var [strD p.nm,int p.number,int p.uses,int p.earn,int p.num,int p.den,rowsD' (List.map ReqT.row p.reqs)],.var [D.p (Dp.v (Value.slice none 0 0)),int 0,D.p (Dp.v (Value.slice none 0 0))],.var [int 0],.var [rowsD' (inR1 fl)]]
noncomputable abbrev ad_ok_x1(p:ProgT):List Blk:=[.var [strD p.nm,int p.number,int p.uses,int p.earn,int p.num,int p.den,rowsD' (List.map ReqT.row p.reqs)],.var [D.p (Dp.v (Value.slice none 0 0)),int 0,D.p (Dp.v (Value.slice none 0 0))],.var [int 0]]
theorem ad_ok{p:ProgT}{l:List AttT}{es:List EdgT}{n ms:Int}{fl:List Int}{cut:List Bool}{s:AuS}
  (hnet:∀h,Ev Tryz.prog Γ0 16 [.agg p.l,rowsD' (l.map AttT.row)] h (.tup [int n,rowsD' (es.map EdgT.row),int 0]) h)
  (hmax:∀h,Ev Tryz.prog Γ0 42 [int n,rowsD' (es.map EdgT.row),int 0,int (IntKind.i64.wrap (n - 1))] h (.tup [rowsD' (inR1 fl),rowsD' (rowsB cut),int 0]) h)
  (hl1:CW Tryz.prog Γ0 (adH p 0) false (.loop (sub Tryz.f19 0)) (auS p l fl 0 cut 0) (.exit 0) (auE p l fl ms cut))
  (hrf:CW Tryz.prog Γ0 (adH p 0) false (sub Tryz.f19 1) {t:=apT,h:=[.var p.l,.var [nq,int 0,nq],.var [int 0],.var [rowsD' (inR1 fl)],.var [.ref (.vec 6 0),int ms,rowsD' (rowsB cut)],.var [int ((l.map AttT.row).length:Int)],.vec [] 0 3,.var p.l,.var [rowsD' (l.map AttT.row)]],m:=[]} .normal {t:=apT,h:=apH p l fl cut s 1 .exhausted [],m:=[9]}):(CW Tryz.prog Γ0 (adH p 0) false (cR (cR (bodyC Tryz.f19))) {t:=adT l,h:=adH p 0,m:=[]} .ret
   {t:=mkT 84 0 [(4,.ref (.ptr 1 0)),(5,.ref (.ptr 2 0))],h:=[.var p.l,.var [rowsD' (s.us.map UseT.row),int s.ms,rowsD' (rowsB cut)],.var [int 0],.var [rowsD' (inR1 fl)],.var [rowsD' (s.us.map UseT.row),int s.ms,rowsD' (rowsB cut)],.var [int s.at_],.gone,.var p.l,.var [rowsD' (l.map AttT.row)],.defd,apL .exhausted],m:=[9]}):=by
 have hl0:=(@hl1)
 have hl1:=(@hrf)
 exact CW.cast (CW.symX (s:={t:=mkT 84 0 [(1,rowsD' (List.map AttT.row l)),(2,.ref (.ptr 0 0)),(4,.ref (.ptr 1 0)),(5,.ref (.ptr 2 0))],h:=(ad_ok_x1 p),m:=[]}) (s':={t:=mkT 84 0 [(4,.ref (.ptr 1 0)),(5,.ref (.ptr 2 0))],h:=[.var [strD p.nm,int p.number,int p.uses,int p.earn,int p.num,int p.den,rowsD' (List.map ReqT.row p.reqs)],.var [rowsD' (List.map UseT.row s.us),int s.ms,rowsD' (rowsB cut)],.var [int 0],.var [rowsD' (inR1 fl)],.var [rowsD' (List.map UseT.row s.us),int s.ms,rowsD' (rowsB cut)],.var [int s.at_],.gone,.var [strD p.nm,int p.number,int p.uses,int p.earn,int p.num,int p.den,rowsD' (List.map ReqT.row p.reqs)],.var [rowsD' (List.map AttT.row l)],.defd,.loop LoopState.exhausted none 0 (mkT 84 0 [(4,.ref (.ptr 1 0)),(5,.ref (.ptr 2 0)),(8,.ref (.ptr 3 0)),(10,.ref (.ptr 4 0)),(13,.ref (.ptr 5 0)),(58,D.fn (Fn.func 65) [] [.ref (.ptr 8 0),.ref (.ptr 7 0)])]) {toList:=[59,60]} (rfAsg (sub Tryz.f19 1)) (rfBody (sub Tryz.f19 1))],m:=[9]}) (e:=Exit.ret) pok (φ:=[Ev Tryz.prog Γ0 16 [D.agg [strD p.nm,int p.number,int p.uses,int p.earn,int p.num,int p.den,rowsD' (List.map ReqT.row p.reqs)],rowsD' (List.map AttT.row l)] (ad_ok_x1 p) (D.tup [int n,rowsD' (List.map EdgT.row es),int 0]) (ad_ok_x1 p),Ev Tryz.prog Γ0 41 [int 0] (ad_ok_x1 p) (D.tup []) (ad_ok_x1 p),Ev Tryz.prog Γ0 42 [int n,rowsD' (List.map EdgT.row es),int 0,int (IntKind.wrap IntKind.i64 (n - 1))] (ad_ok_x1 p) (D.tup [rowsD' (inR1 fl),rowsD' (rowsB cut),int 0]) (ad_ok_x1 p),Ev Tryz.prog Γ0 41 [int 0] (ad_ok_x0 p fl) (D.tup []) (ad_ok_x0 p fl),CW Tryz.prog Γ0 (ad_ok_x1 p) false (.loop (sub Tryz.f19 0)) {t:=mkT 84 0 [(1,rowsD' (List.map AttT.row l)),(2,.ref (.ptr 0 0)),(4,.ref (.ptr 1 0)),(5,.ref (.ptr 2 0)),(8,.ref (.ptr 3 0)),(10,.ref (.ptr 4 0)),(41,rowsD' (List.map ReqT.row p.reqs)),(42,int (↑(List.length (List.map ReqT.row p.reqs)):Int)),(43,int 0)],h:=[.var [strD p.nm,int p.number,int p.uses,int p.earn,int p.num,int p.den,rowsD' (List.map ReqT.row p.reqs)],.var [D.p (Dp.v (Value.slice none 0 0)),int 0,D.p (Dp.v (Value.slice none 0 0))],.var [int 0],.var [rowsD' (inR1 fl)],.var [D.p (Dp.v (Value.slice none 0 0)),int 0,rowsD' (rowsB cut)]],m:=[]} (Exit.exit 0) {t:=mkT 84 0 [(1,rowsD' (List.map AttT.row l)),(2,.ref (.ptr 0 0)),(4,.ref (.ptr 1 0)),(5,.ref (.ptr 2 0)),(8,.ref (.ptr 3 0)),(10,.ref (.ptr 4 0))],h:=[.var [strD p.nm,int p.number,int p.uses,int p.earn,int p.num,int p.den,rowsD' (List.map ReqT.row p.reqs)],.var [D.p (Dp.v (Value.slice none 0 0)),int 0,D.p (Dp.v (Value.slice none 0 0))],.var [int 0],.var [rowsD' (inR1 fl)],.var [D.p (Dp.v (Value.slice none 0 0)),int ms,rowsD' (rowsB cut)]],m:=[]},CW Tryz.prog Γ0 (ad_ok_x1 p) false (sub Tryz.f19 1) {t:=mkT 84 0 [(4,.ref (.ptr 1 0)),(5,.ref (.ptr 2 0)),(8,.ref (.ptr 3 0)),(10,.ref (.ptr 4 0)),(13,.ref (.ptr 5 0)),(58,D.fn (Fn.func 65) [] [.ref (.ptr 8 0),.ref (.ptr 7 0)])],h:=[.var [strD p.nm,int p.number,int p.uses,int p.earn,int p.num,int p.den,rowsD' (List.map ReqT.row p.reqs)],.var [D.p (Dp.v (Value.slice none 0 0)),int 0,D.p (Dp.v (Value.slice none 0 0))],.var [int 0],.var [rowsD' (inR1 fl)],.var [.ref (.vec 6 0),int ms,rowsD' (rowsB cut)],.var [int (↑(List.length (List.map AttT.row l)):Int)],.vec [] 0 3,.var [strD p.nm,int p.number,int p.uses,int p.earn,int p.num,int p.den,rowsD' (List.map ReqT.row p.reqs)],.var [rowsD' (List.map AttT.row l)]],m:=[]} (Exit.normal) {t:=mkT 84 0 [(4,.ref (.ptr 1 0)),(5,.ref (.ptr 2 0)),(8,.ref (.ptr 3 0)),(10,.ref (.ptr 4 0)),(13,.ref (.ptr 5 0)),(58,D.fn (Fn.func 65) [] [.ref (.ptr 8 0),.ref (.ptr 7 0)])],h:=[.var [strD p.nm,int p.number,int p.uses,int p.earn,int p.num,int p.den,rowsD' (List.map ReqT.row p.reqs)],.var [D.p (Dp.v (Value.slice none 0 0)),int 0,D.p (Dp.v (Value.slice none 0 0))],.var [int 0],.var [rowsD' (inR1 fl)],.var [.ref (.vec 6 1),int s.ms,rowsD' (rowsB cut)],.var [int s.at_],.vec (vecU s.us) 1 3,.var [strD p.nm,int p.number,int p.uses,int p.earn,int p.num,int p.den,rowsD' (List.map ReqT.row p.reqs)],.var [rowsD' (List.map AttT.row l)],.defd,.loop LoopState.exhausted none 0 (mkT 84 0 [(4,.ref (.ptr 1 0)),(5,.ref (.ptr 2 0)),(8,.ref (.ptr 3 0)),(10,.ref (.ptr 4 0)),(13,.ref (.ptr 5 0)),(58,D.fn (Fn.func 65) [] [.ref (.ptr 8 0),.ref (.ptr 7 0)])]) {toList:=[59,60]} (rfAsg (sub Tryz.f19 1)) (rfBody (sub Tryz.f19 1))],m:=[9]},vecU s.us=List.map (fun x=>List.map D.p x) (List.map UseT.row s.us)]) [.st (.mask [4,5]),.st (.frz 6 (List.map UseT.row s.us))] [.val (D.tup [int n,rowsD' (List.map EdgT.row es),int 0]),.val (D.tup []),.val (D.tup [rowsD' (inR1 fl),rowsD' (rowsB cut),int 0]),.val (D.tup []),.sum [1,2,4,5,8,10,41,42,43] (Exit.exit 0) {t:=mkT 84 0 [(1,rowsD' (List.map AttT.row l)),(2,.ref (.ptr 0 0)),(4,.ref (.ptr 1 0)),(5,.ref (.ptr 2 0)),(8,.ref (.ptr 3 0)),(10,.ref (.ptr 4 0))],h:=[.var [strD p.nm,int p.number,int p.uses,int p.earn,int p.num,int p.den,rowsD' (List.map ReqT.row p.reqs)],.var [D.p (Dp.v (Value.slice none 0 0)),int 0,D.p (Dp.v (Value.slice none 0 0))],.var [int 0],.var [rowsD' (inR1 fl)],.var [D.p (Dp.v (Value.slice none 0 0)),int ms,rowsD' (rowsB cut)]],m:=[]},.nx 1,.st (.nilC 4 0 3),.inl,.sum [4,5,8,10,13,58] (Exit.normal) {t:=mkT 84 0 [(4,.ref (.ptr 1 0)),(5,.ref (.ptr 2 0)),(8,.ref (.ptr 3 0)),(10,.ref (.ptr 4 0)),(13,.ref (.ptr 5 0)),(58,D.fn (Fn.func 65) [] [.ref (.ptr 8 0),.ref (.ptr 7 0)])],h:=[.var [strD p.nm,int p.number,int p.uses,int p.earn,int p.num,int p.den,rowsD' (List.map ReqT.row p.reqs)],.var [D.p (Dp.v (Value.slice none 0 0)),int 0,D.p (Dp.v (Value.slice none 0 0))],.var [int 0],.var [rowsD' (inR1 fl)],.var [.ref (.vec 6 1),int s.ms,rowsD' (rowsB cut)],.var [int s.at_],.vec (vecU s.us) 1 3,.var [strD p.nm,int p.number,int p.uses,int p.earn,int p.num,int p.den,rowsD' (List.map ReqT.row p.reqs)],.var [rowsD' (List.map AttT.row l)],.defd,.loop LoopState.exhausted none 0 (mkT 84 0 [(4,.ref (.ptr 1 0)),(5,.ref (.ptr 2 0)),(8,.ref (.ptr 3 0)),(10,.ref (.ptr 4 0)),(13,.ref (.ptr 5 0)),(58,D.fn (Fn.func 65) [] [.ref (.ptr 8 0),.ref (.ptr 7 0)])]) {toList:=[59,60]} (rfAsg (sub Tryz.f19 1)) (rfBody (sub Tryz.f19 1))],m:=[9]}] (by kernel_rfl) ⟨(@hnet ((ad_ok_x1 p))),(@try0_ev ((ad_ok_x1 p))),(@hmax ((ad_ok_x1 p))),(@try0_ev ((ad_ok_x0 p fl))),hl0,hl1,(by first|assumption|rfl|exact vecU_frz _|exact vecU_map _ _),trivial⟩) (by rfl) (by rfl)
def regOps:Code→Array Oper
 | .region _ o _=>o
 | _=>#[]
def idOf:Code→Nat
 | .region i _ _=>i
 | _=>0
theorem f19_code:bodyC Tryz.f19=.seq (.region (idOf (cL (bodyC Tryz.f19))) (regOps (cL (bodyC Tryz.f19))) false) (.seq (.region (idOf (cL (cR (bodyC Tryz.f19)))) (regOps (cL (cR (bodyC Tryz.f19)))) false) (cR (cR (bodyC Tryz.f19)))):=by kernel_rfl
def noCall:CallX:=fun _ _ _=>none
theorem noCall_ok:noCall.Ok Tryz.prog Γ0:=fun _ _ _ _ h=>by simp[noCall] at h
def lastOp(o:List Oper):Oper:=o.getLastD default
abbrev a0T(p:ProgT)(l:List AttT):List D:=mkT 84 0 [(0,.agg p.l),(1,rowsD' (l.map AttT.row)),(2,.ref (.ptr 0 0)),(4,.ref (.ptr 1 0)),(5,.ref (.ptr 2 0))]
abbrev a1T(p:ProgT)(l:List AttT):List D:=mkT 84 0 [(0,.agg p.l),(1,rowsD' (l.map AttT.row)),(2,.ref (.ptr 0 0)),(4,.ref (.ptr 1 0)),(5,.ref (.ptr 2 0)),(17,.fn (.func 39) [] [.ref (.ptr 2 0)])]
theorem audit_top{p:ProgT}{l:List AttT}{e:Exit}{s':AS}(hrest:CW Tryz.prog Γ0 (adH p 0) false (cR (cR (bodyC Tryz.f19))) {t:=adT l,h:=adH p 0,m:=[]} e s'):
  TopW Tryz.prog Γ0 (bodyC Tryz.f19) {t:=entryT Tryz.f19 [.agg p.l,rowsD' (l.map AttT.row)],h:=[],m:=[]} e s' (some (39,[.ref (.ptr 2 0)])):=by
 rw[f19_code]
 refine TopW.seq (s1:={t:=a0T p l,h:=adH p 0,m:=[]}) (fun X=>VW.regionX (t':=a0T p l) (h':=adH p 0) (e:=.normal) noCall_ok (by kernel_rfl) ⟨rfl,rfl⟩) ?_
 exact TopW.deferH (os:=(regOps (cL (cR (bodyC Tryz.f19)))).toList.dropLast) (o:=lastOp (regOps (cL (cR (bodyC Tryz.f19)))).toList) (fv:=.tmp 17) (args:=#[]) (ats:=#[]) (t1:=a1T p l) (h1:=adH p 0) (f:=39) (fi:=[]) (ca:=[.ref (.ptr 2 0)]) pok noCall_ok (by kernel_rfl) (by kernel_rfl) (by kernel_rfl) (by kernel_rfl) rfl (by kernel_rfl) (by kernel_rfl) (CW.pre [1,2,4,5] hrest)
theorem dfn_ok:DfF.Ok Tryz.prog Γ0 (runDfO Tryz.prog Γ0 noW 100):=(run_ok pok (W:=noW) (fun _ _ _ _ h=>by simp[noW] at h) 100).2.2.2.2
theorem audit_a{p:ProgT}{l:List AttT}{es:List EdgT}{n ms:Int}{fl:List Int}{cut:List Bool}{s:AuS}
  (hnet:∀h,Ev Tryz.prog Γ0 16 [.agg p.l,rowsD' (l.map AttT.row)] h (.tup [int n,rowsD' (es.map EdgT.row),int 0]) h)
  (hmax:∀h,Ev Tryz.prog Γ0 42 [int n,rowsD' (es.map EdgT.row),int 0,int (IntKind.i64.wrap (n - 1))] h (.tup [rowsD' (inR1 fl),rowsD' (rowsB cut),int 0]) h)
  (hl1:CW Tryz.prog Γ0 (adH p 0) false (.loop (sub Tryz.f19 0)) (auS p l fl 0 cut 0) (.exit 0) (auE p l fl ms cut))
  (hrf:CW Tryz.prog Γ0 (adH p 0) false (sub Tryz.f19 1) {t:=apT,h:=[.var p.l,.var [nq,int 0,nq],.var [int 0],.var [rowsD' (inR1 fl)],.var [.ref (.vec 6 0),int ms,rowsD' (rowsB cut)],.var [int ((l.map AttT.row).length:Int)],.vec [] 0 3,.var p.l,.var [rowsD' (l.map AttT.row)]],m:=[]} .normal {t:=apT,h:=apH p l fl cut s 1 .exhausted [],m:=[9]}) (h:List Blk) :
  Ev Tryz.prog Γ0 19 [.agg p.l,rowsD' (l.map AttT.row)] h (.tup [.agg [rowsD' (s.us.map UseT.row),int s.ms,rowsD' (rowsB cut)],int 0]) h:=by
 have h1:=VRes.of_top (f:=19) (args:=[.agg p.l,rowsD' (l.map AttT.row)]) (dfn:=runDfO Tryz.prog Γ0 noW 100) (h:=[]) (r:=.ret (.tup [.agg [rowsD' (s.us.map UseT.row),int s.ms,rowsD' (rowsB cut)],int 0]) []) (fn:=Tryz.f19) (c:=bodyC Tryz.f19) pok rfl rfl dfn_ok (audit_top (ad_ok hnet hmax hl1 hrf)) (by kernel_rfl)
 exact Ev.frame0 rfl h1.call h
abbrev bT:List D:=mkT 84 0 [(4,.ref (.ptr 1 0)),(5,.ref (.ptr 2 0))]
noncomputable abbrev ad_net_x0(p:ProgT):List Blk:=[.var [strD p.nm,int p.number,int p.uses,int p.earn,int p.num,int p.den,rowsD' (List.map ReqT.row p.reqs)],.var [D.p (Dp.v (Value.slice none 0 0)),int 0,D.p (Dp.v (Value.slice none 0 0))],.var [int 0]]
theorem ad_net{p:ProgT}{l:List AttT}{es:List EdgT}{n e:Int}(hnet:∀h,Ev Tryz.prog Γ0 16 [.agg p.l,rowsD' (l.map AttT.row)] h (.tup [int n,rowsD' (es.map EdgT.row),int e]) h):(CW Tryz.prog Γ0 (adH p 0) false (cL (cR (cR (bodyC Tryz.f19)))) {t:=adT l,h:=adH p 0,m:=[]} .normal {t:=bT,h:=adH p e,m:=[]}):=by
 exact CW.cast (CW.symX (s:={t:=mkT 84 0 [(1,rowsD' (List.map AttT.row l)),(2,.ref (.ptr 0 0)),(4,.ref (.ptr 1 0)),(5,.ref (.ptr 2 0))],h:=(ad_net_x0 p),m:=[]}) (s':={t:=mkT 84 0 [(4,.ref (.ptr 1 0)),(5,.ref (.ptr 2 0))],h:=[.var [strD p.nm,int p.number,int p.uses,int p.earn,int p.num,int p.den,rowsD' (List.map ReqT.row p.reqs)],.var [D.p (Dp.v (Value.slice none 0 0)),int 0,D.p (Dp.v (Value.slice none 0 0))],.var [int e]],m:=[]}) (e:=Exit.normal) pok (φ:=[Ev Tryz.prog Γ0 16 [D.agg [strD p.nm,int p.number,int p.uses,int p.earn,int p.num,int p.den,rowsD' (List.map ReqT.row p.reqs)],rowsD' (List.map AttT.row l)] (ad_net_x0 p) (D.tup [int n,rowsD' (List.map EdgT.row es),int e]) (ad_net_x0 p)]) [.st (.mask [4,5])] [.val (D.tup [int n,rowsD' (List.map EdgT.row es),int e])] (by kernel_rfl) ⟨(@hnet ((ad_net_x0 p))),trivial⟩) (by rfl) (by rfl)
noncomputable abbrev c3:Code:=cL (cR (cR (cR (bodyC Tryz.f19))))
theorem f19_code3:cR (cR (bodyC Tryz.f19))=.seq (cL (cR (cR (bodyC Tryz.f19)))) (.seq (.region (idOf c3) (regOps c3) false) (cR (cR (cR (cR (bodyC Tryz.f19)))))):=by kernel_rfl
noncomputable def callT:CallX:=callOf (runFO Tryz.prog Γ0 noW 100) (fun _ _ _=>none)
theorem callT_ok:callT.Ok Tryz.prog Γ0:=callOf_ok pok (run_ok pok (W:=noW) (fun _ _ _ _ h=>by simp[noW] at h) 100).2.2.1 (fun _ _ _ _ _ h=>by simp at h)
noncomputable def r3R(p:ProgT)(e:Int):Option (Exit×List D×List Blk):=runOpsX Tryz.prog Γ0 callT [] (regOps c3).toList (regOps c3).toList bT (adH p e)
noncomputable def r3(p:ProgT)(e:Int):Exit×List D×List Blk:=(r3R p e).getD (.normal,[],[])
theorem r3_eq{p:ProgT}{e:Int}(he:e=150∨e=190∨e=180):r3R p e=some (r3 p e):=by
 rcases he with rfl|rfl|rfl<;>kernel_rfl
def isNorm:Exit→Bool
 | .normal=>true
 | _=>false
theorem r3_ne{p:ProgT}{e:Int}(he:e=150∨e=190∨e=180):(r3 p e).1 ≠ .normal:=by
 intro h
 have:isNorm (r3 p e).1=false:=by rcases he with rfl|rfl|rfl<;>kernel_rfl
 rw[h] at this
 cases this
theorem r3_end{p:ProgT}{e:Int}(he:e=150∨e=190∨e=180):topEnd Tryz.prog Tryz.f19 (runDfO Tryz.prog Γ0 noW 100) 0 (r3 p e).1 {t:=(r3 p e).2.1,h:=(r3 p e).2.2,m:=[]} (some (39,[.ref (.ptr 2 0)]))=some (.ret (.tup [.agg [nq,int 0,nq],int e]) []):=by
 rcases he with rfl|rfl|rfl<;>kernel_rfl
theorem audit_bad{p:ProgT}{l:List AttT}{es:List EdgT}{n e:Int}(he:e=150∨e=190∨e=180)(hnet:∀h,Ev Tryz.prog Γ0 16 [.agg p.l,rowsD' (l.map AttT.row)] h (.tup [int n,rowsD' (es.map EdgT.row),int e]) h)(h:List Blk):
  Ev Tryz.prog Γ0 19 [.agg p.l,rowsD' (l.map AttT.row)] h (.tup [.agg [nq,int 0,nq],int e]) h:=by
 have hrest:CW Tryz.prog Γ0 (adH p 0) false (cR (cR (bodyC Tryz.f19))) {t:=adT l,h:=adH p 0,m:=[]} (r3 p e).1 {t:=(r3 p e).2.1,h:=(r3 p e).2.2,m:=[]}:=by
  rw[f19_code3]
  exact CW.seq (ad_net hnet) (CW.out (r3_ne he) (CW.regionX (s:={t:=bT,h:=adH p e,m:=[]}) callT_ok (r3_eq he)))
 have h1:=VRes.of_top (f:=19) (args:=[.agg p.l,rowsD' (l.map AttT.row)]) (dfn:=runDfO Tryz.prog Γ0 noW 100) (h:=[]) (r:=.ret (.tup [.agg [nq,int 0,nq],int e]) []) (fn:=Tryz.f19) (c:=bodyC Tryz.f19) pok rfl rfl dfn_ok (audit_top hrest) (r3_end he)
 exact Ev.frame0 rfl h1.call h
structure EdgG (n:Nat) (x:EdgT):Prop where
 f0:0≤x.frm
 ft:x.frm<x.to
 tn:x.to<n
 m0:0≤x.most
 m1:x.most≤1073741824
structure NetOk (p:ProgT) (l:List AttT):Prop where
 pe:pErr p=0
 ae:aErr l=0
 rs:p.reqs.length≤6
 ls:l.length≤9
theorem bif0{b:Bool}{x:Int}(h:(bif b then x else 0)=0)(hx:x ≠ 0):b=false:=by cases b<;>simp_all
theorem ck_all:∀(rs:List ReqT),(match forL ckF rs () with | .inl _=>(0:Int) | .inr _=>190)=0→∀q∈rs,reqB q=true
 | [],_,_,hq=>by simp at hq
 | q::rs,h,x,hx=>by
  simp only[forL,ckF] at h
  cases hq:reqB q with
  | false=>rw[hq] at h;simp at h
  | true =>
   rw[hq] at h
   simp only[cond_true] at h
   rcases List.mem_cons.1 hx with rfl|hx
   ·exact hq
   ·exact ck_all rs h x hx
section
variable {p:ProgT} {l:List AttT}
theorem NetOk.req(h:NetOk p l):1≤p.uses∧p.uses≤4∧∀q∈p.reqs,1≤q.credits∧q.credits≤10000:=by
 have h1:=h.pe
 unfold pErr at h1
 cases hh:pHead p with
 | true=>rw[hh] at h1;simp at h1
 | false =>
  rw[hh] at h1
  simp only[cond_false] at h1
  have h2:=ck_all _ h1
  unfold pHead at hh
  simp only[Bool.or_eq_false_iff,Bool.not_eq_false',inB,Bool.and_eq_true,decide_eq_true_eq] at hh
  refine⟨by omega,by omega,fun q hq=>?_⟩
  have h3:=h2 q hq
  unfold reqB at h3
  simp only[inB,Bool.and_eq_true,decide_eq_true_eq] at h3
  omega
theorem NetOk.att(h:NetOk p l):∀a∈l,0≤a.credits∧a.credits≤60:=by
 have h1:=bif0 h.ae (by decide)
 intro a ha
 have h2:=List.any_eq_false.1 h1 a ha
 simp only[Bool.not_eq_true,Bool.not_eq_false'] at h2
 unfold attB at h2
 simp only[inB,Bool.and_eq_true,decide_eq_true_eq] at h2
 omega
end
theorem elR_mem(a:AttT):∀(rs:List ReqT) (s:List Int×Int) (i:Nat),s.2=i→(∀k∈s.1,0≤k∧k<i)→∀k∈(rs.foldl (elF a) s).1,0≤k∧k<(i+rs.length:Nat)
 | [],s,i,_,h,k,hk=>by simpa using h k hk
 | q::rs,s,i,hi,h,k,hk=>by
  rw[List.foldl_cons] at hk
  have:=elR_mem a rs (elF a s q) (i+1) (by simp[elF,hi]) (fun x hx=>by
   unfold elF at hx
   cases hb:elB q a with
   | true =>
    rw[hb] at hx
    simp only[cond_true,List.mem_append,List.mem_singleton] at hx
    rcases hx with hx|rfl
    ·have:=h x hx;omega
    ·omega
   | false =>
    rw[hb] at hx
    have:=h x hx;omega) k hk
  simp only[List.length_cons];omega
section
variable {p:ProgT} {l:List AttT}
theorem n1_good(h:NetOk p l){n:Nat}(hn:n=2+l.length+p.reqs.length):∀(bs:List AttT) (s:List EdgT×Int) (i:Nat),s.2=i→i+bs.length=l.length→(∀a∈bs,0≤a.credits∧a.credits≤60)→(∀x∈s.1,EdgG n x)→∀x∈(bs.foldl (n1F p) s).1,EdgG n x
 | [],s,i,_,_,_,hs=>hs
 | a::bs,s,i,hi,hl,ha,hs=>by
  rw[List.foldl_cons]
  simp only[List.length_cons] at hl
  have hls:=h.ls
  have hrs:=h.rs
  obtain⟨u1,u2,_⟩:=h.req
  obtain⟨c0,c1⟩:=ha a (by simp)
  have hm0:0≤a.credits*p.uses:=Int.mul_nonneg c0 (by omega)
  have hm1:a.credits*p.uses≤60*4:=Int.mul_le_mul c1 u2 (by omega) (by omega)
  refine n1_good h hn bs (n1F p s a) (i+1) (by simp[n1F,hi]) (by omega) (fun x hx=>ha x (by simp[hx])) ?_
  intro x hx
  simp only[n1F,List.mem_append,List.mem_singleton] at hx
  rcases hx with hx|rfl
  ·exact hs x hx
  ·have e1:IntKind.i64.wrap (1+s.2)=1+s.2:=wrap_i64 (by omega) (by omega)
   have e2:IntKind.i64.wrap (a.credits*p.uses)=a.credits*p.uses:=wrap_i64 (by omega) (by omega)
   refine⟨?_,?_,?_,?_,?_⟩<;>simp only[e1,e2]<;>omega
theorem mid_eq(h:NetOk p l):midR l=1+(l.length:Int):=by
 have:=h.ls
 unfold midR
 rw[List.length_map]
 exact wrap_i64 (by omega) (by omega)
theorem sink_eq(h:NetOk p l):sinkR p l=1+(l.length:Int)+(p.reqs.length:Int):=by
 have:=h.ls
 have:=h.rs
 unfold sinkR
 rw[mid_eq h,List.length_map]
 exact wrap_i64 (by omega) (by omega)
theorem n2_good(h:NetOk p l){n:Nat}(hn:n=2+l.length+p.reqs.length){i:Nat}(hi:i<l.length){cr:Int}(c0:0≤cr)(c1:cr≤60):∀(ks:List Int) (es:List EdgT),(∀k∈ks,0≤k∧k<p.reqs.length)→(∀x∈es,EdgG n x)→∀x∈ks.foldl (n2F (midR l) i cr) es,EdgG n x
 | [],es,_,hs=>hs
 | k::ks,es,hk,hs=>by
  have hls:=h.ls
  have hrs:=h.rs
  rw[List.foldl_cons]
  refine n2_good h hn hi c0 c1 ks _ (fun x hx=>hk x (by simp[hx])) ?_
  intro x hx
  simp only[n2F,List.mem_append,List.mem_singleton] at hx
  rcases hx with hx|rfl
  ·exact hs x hx
  ·obtain⟨k0,k1⟩:=hk k (by simp)
   have e1:IntKind.i64.wrap (1+(i:Int))=1+i:=wrap_i64 (by omega) (by omega)
   have e2:IntKind.i64.wrap (midR l+k)=1+l.length+k:=by rw[mid_eq h];exact wrap_i64 (by omega) (by omega)
   refine⟨?_,?_,?_,?_,?_⟩<;>simp only[e1,e2]<;>omega
theorem n3_good(h:NetOk p l){n:Nat}(hn:n=2+l.length+p.reqs.length):∀(bs:List AttT) (s:List EdgT×Int) (i:Nat),s.2=i→i+bs.length=l.length→(∀a∈bs,0≤a.credits∧a.credits≤60)→(∀x∈s.1,EdgG n x)→∀x∈(bs.foldl (n3F p (midR l)) s).1,EdgG n x
 | [],s,i,_,_,_,hs=>hs
 | a::bs,s,i,hi,hl,ha,hs=>by
  rw[List.foldl_cons]
  simp only[List.length_cons] at hl
  obtain⟨c0,c1⟩:=ha a (by simp)
  refine n3_good h hn bs (n3F p (midR l) s a) (i+1) (by simp[n3F,hi]) (by omega) (fun x hx=>ha x (by simp[hx])) ?_
  simp only[n3F,hi]
  exact n2_good h hn (by omega) c0 c1 _ _ (fun k hk=>by have:=elR_mem a p.reqs ([],0) 0 rfl (by simp) k hk;simpa using this) hs
theorem n4_good(h:NetOk p l){n:Nat}(hn:n=2+l.length+p.reqs.length):∀(qs:List ReqT) (s:List EdgT×Int) (i:Nat),s.2=i→i+qs.length=p.reqs.length→(∀q∈qs,1≤q.credits∧q.credits≤10000)→(∀x∈s.1,EdgG n x)→∀x∈(qs.foldl (n4F (midR l) (sinkR p l)) s).1,EdgG n x
 | [],s,i,_,_,_,hs=>hs
 | q::qs,s,i,hi,hl,hq,hs=>by
  rw[List.foldl_cons]
  simp only[List.length_cons] at hl
  have hls:=h.ls
  have hrs:=h.rs
  obtain⟨c0,c1⟩:=hq q (by simp)
  refine n4_good h hn qs (n4F (midR l) (sinkR p l) s q) (i+1) (by simp[n4F,hi]) (by omega) (fun x hx=>hq x (by simp[hx])) ?_
  intro x hx
  simp only[n4F,List.mem_append,List.mem_singleton] at hx
  rcases hx with hx|rfl
  ·exact hs x hx
  ·have e2:IntKind.i64.wrap (midR l+s.2)=1+l.length+s.2:=by rw[mid_eq h];exact wrap_i64 (by omega) (by omega)
   have e3:=sink_eq h
   refine⟨?_,?_,?_,?_,?_⟩<;>simp only[e2,e3]<;>omega
theorem net_good(h:NetOk p l):∀x∈net3 p l,EdgG (2+l.length+p.reqs.length) x:=by
 have h1:∀x∈net1 p l,EdgG (2+l.length+p.reqs.length) x:=n1_good h rfl l ([],0) 0 rfl (by simp) h.att (by simp)
 have h2:∀x∈net2 p l,EdgG (2+l.length+p.reqs.length) x:=n3_good h rfl l (net1 p l,0) 0 rfl (by simp) h.att h1
 exact n4_good h rfl p.reqs (net2 p l,0) 0 rfl (by simp) h.req.2.2 h2
end
def xeF(p:EdgT→Bool)(c:EdgT)(s:Nat):Nat⊕Nat:=if p c=true then .inr s else .inl (s+1)
abbrev xeS(fs:List (List Dp))(f:D)(h:List Blk)(i:Int):AS:={t:=mkT 19 0 [(0,rowsD' fs),(1,f),(4,int 0),(7,int fs.length),(8,int i)],h:=h,m:=[]}
abbrev xeX(h:List Blk):Nat→Exit×AS:=fun k=>(.ret,{t:=mkT 19 0 [(4,int (k:Int))],h:=h,m:=[]})
theorem xe_body{fs:List (List Dp)}{i:Nat}{c:EdgT}{f:D}{h:List Blk}{p:EdgT→Bool}(hr:RowAt (i:Int) fs (EdgT.row c) 3)(hlt:Dd ((i:Int)<(fs.length:Int))=true)(hw:IntKind.i64.wrap ((i:Int)+1)=((i+1:Nat):Int))(hi:Iv Tryz.prog Γ0 f [ag (EdgT.row c)] h (bool (p c)) h):(CW Tryz.prog Γ0 h false (sub Tryz.f137 0) (xeS fs f h i) (bodyFin (fun _=>xeS fs f h ((i+1:Nat):Int)) (xeX h) (xeF p c i)).1 (bodyFin (fun _=>xeS fs f h ((i+1:Nat):Int)) (xeX h) (xeF p c i)).2):=by
 cases hc0:p c
 ·exact CW.cast (CW.symX (s:={t:=mkT 19 0 [(0,rowsD' fs),(1,f),(4,int 0),(7,int (↑(List.length fs):Int)),(8,int (↑i:Int))],h:=h,m:=[]}) (s':={t:=mkT 19 0 [(0,rowsD' fs),(1,f),(4,int 0),(7,int (↑(List.length fs):Int)),(8,int (IntKind.wrap IntKind.i64 ((↑i:Int)+1)))],h:=h,m:=[]}) (e:=Exit.normal) pok (φ:=[Dd ((↑i:Int)<(↑(List.length fs):Int))=true,RowAt (↑i:Int) fs [vi c.frm,vi c.to,vi c.most] 3,Iv Tryz.prog Γ0 f [D.agg [int c.frm,int c.to,int c.most]] h (bool (p c)) h,p c=false]) [.st (.mask [0,1,4,7,8])] [.b true,.row [vi c.frm,vi c.to,vi c.most],.ival (bool (p c)),.b false] (by kernel_rfl) ⟨hlt,hr,(@hi),hc0,trivial⟩) (by simp[xeF,bodyFin,hw, *]) (by simp[xeF,bodyFin,hw, *])
 ·exact CW.cast (CW.symX (s:={t:=mkT 19 0 [(0,rowsD' fs),(1,f),(4,int 0),(7,int (↑(List.length fs):Int)),(8,int (↑i:Int))],h:=h,m:=[]}) (s':={t:=mkT 19 0 [(4,int (↑i:Int))],h:=h,m:=[]}) (e:=Exit.ret) pok (φ:=[Dd ((↑i:Int)<(↑(List.length fs):Int))=true,RowAt (↑i:Int) fs [vi c.frm,vi c.to,vi c.most] 3,Iv Tryz.prog Γ0 f [D.agg [int c.frm,int c.to,int c.most]] h (bool (p c)) h,p c=true]) [.st (.mask [4])] [.b true,.row [vi c.frm,vi c.to,vi c.most],.ival (bool (p c)),.b true] (by kernel_rfl) ⟨hlt,hr,(@hi),hc0,trivial⟩) (by simp[xeF,bodyFin,hw, *]) (by simp[xeF,bodyFin,hw, *])
theorem xe_last{fs:List (List Dp)}{i:Nat}{f:D}{h:List Blk}(hlt:Dd ((i:Int)<(fs.length:Int))=false):(CW Tryz.prog Γ0 h false (sub Tryz.f137 0) (xeS fs f h i) (.exit 0) {t:=mkT 19 0 [(4,int 0)],h:=h,m:=[]}):=by
 exact CW.cast (CW.symX (s:={t:=mkT 19 0 [(0,rowsD' fs),(1,f),(4,int 0),(7,int (↑(List.length fs):Int)),(8,int (↑i:Int))],h:=h,m:=[]}) (s':={t:=mkT 19 0 [(4,int 0)],h:=h,m:=[]}) (e:=Exit.exit 0) pok (φ:=[Dd ((↑i:Int)<(↑(List.length fs):Int))=false]) [.st (.mask [4])] [.b false] (by kernel_rfl) ⟨hlt,trivial⟩) (by rfl) (by rfl)
def xeR(p:EdgT→Bool)(l:List EdgT):Int:=match forL (xeF p) l 0 with | .inl _ => -1 | .inr k=>(k:Int)
def xeFin(h:List Blk)(p:EdgT→Bool)(l:List EdgT):Exit×AS:=eachFin (.exit 0) (fun _:Nat=>{t:=mkT 19 0 [(4,int 0)],h:=h,m:=[]}) (xeX h) (forL (xeF p) l 0)
theorem xe_cw{l:List EdgT}(hl:Short l){f:D}{h:List Blk}{p:EdgT→Bool}(hf:∀c∈l,Iv Tryz.prog Γ0 f [ag (EdgT.row c)] h (bool (p c)) h):
  CW Tryz.prog Γ0 h false (.loop (sub Tryz.f137 0)) (xeS (l.map EdgT.row) f h 0) (xeFin h p l).1 (xeFin h p l).2:=by
 refine CW.each l (xeF p) (fun i _=>xeS (l.map EdgT.row) f h (i:Int)) (.exit 0) _ (xeX h) (fun i s=>s=i) (by simp) (fun _=>by simp) ?_ ?_ 0 rfl
 ·intro i c s hc hs
  subst hs
  have hi:=(List.getElem?_eq_some_iff.1 hc).1
  refine⟨fun s' h=>?_,xe_body (rowAt (row:=EdgT.row) hc rfl) (lt_len EdgT.row hi) (wrap_succ hi hl) (hf c (List.mem_of_getElem? hc))⟩
  unfold xeF at h
  split at h<;>simp at h
  exact h.symm
 ·intro s hs
  exact xe_last (ge_len EdgT.row l)
theorem xei_ev{l:List EdgT}(hl:Short l){f:D}{h:List Blk}{p:EdgT→Bool}(hf:∀c∈l,Iv Tryz.prog Γ0 f [ag (EdgT.row c)] h (bool (p c)) h):(Ev Tryz.prog Γ0 137 [rowsD' (l.map EdgT.row),f] h (int (xeR p l)) h):=by
 have hl0:=(@xe_cw (l) (hl) (f) (h) (p) (hf))
 unfold xeFin at hl0
 revert hl0
 cases ho1:forL (xeF p) l 0 with
 | inl o1_0_0 =>
  intro hl0
  exact Ev.castH (Ev.of_sym (P:=Tryz.prog) (Γ:=Γ0) (f:=137) (args:=[rowsD' (List.map EdgT.row l),f]) (h:=h) (h':=h) (d:=int (-1)) pok (φ:=[CW Tryz.prog Γ0 h false (.loop (sub Tryz.f137 0)) {t:=mkT 19 0 [(0,rowsD' (List.map EdgT.row l)),(1,f),(4,int 0),(7,int (↑(List.length (List.map EdgT.row l)):Int)),(8,int 0)],h:=h,m:=[]} (Exit.exit 0) {t:=mkT 19 0 [(4,int 0)],h:=h,m:=[]}]) [.sum [0,1,4,7,8] (Exit.exit 0) {t:=mkT 19 0 [(4,int 0)],h:=h,m:=[]}] (by kernel_rfl) ⟨hl0,trivial⟩) (by simp[xeR,ho1]) (by simp[xeR,ho1])
 | inr o1_1_0 =>
  intro hl0
  exact Ev.castH (Ev.of_sym (P:=Tryz.prog) (Γ:=Γ0) (f:=137) (args:=[rowsD' (List.map EdgT.row l),f]) (h:=h) (h':=h) (d:=int (↑o1_1_0:Int)) pok (φ:=[CW Tryz.prog Γ0 h false (.loop (sub Tryz.f137 0)) {t:=mkT 19 0 [(0,rowsD' (List.map EdgT.row l)),(1,f),(4,int 0),(7,int (↑(List.length (List.map EdgT.row l)):Int)),(8,int 0)],h:=h,m:=[]} (Exit.ret) {t:=mkT 19 0 [(4,int (↑o1_1_0:Int))],h:=h,m:=[]}]) [.sum [0,1,4,7,8] (Exit.ret) {t:=mkT 19 0 [(4,int (↑o1_1_0:Int))],h:=h,m:=[]}] (by kernel_rfl) ⟨hl0,trivial⟩) (by simp[xeR,ho1]) (by simp[xeR,ho1])
theorem xeR_ge(p:EdgT→Bool)(l:List EdgT):Dd (xeR p l≥0)=l.any p:=by
 have key:∀(l:List EdgT) (s:Nat),(match forL (xeF p) l s with | .inl _=>false | .inr _=>true)=l.any p:=by
  intro l
  induction l with
  | nil=>intro s;rfl
  | cons c l ih =>
   intro s
   simp only[forL,xeF,List.any_cons]
   by_cases hp:p c=true
   ·simp[hp]
   ·simp only[hp,if_false,Bool.false_or]
    exact ih (s+1)
 rw[←key l 0]
 unfold xeR
 cases forL (xeF p) l 0<;>simp
theorem xec_ev{l:List EdgT}(hl:Short l){f:D}{h:List Blk}{p:EdgT→Bool}(hf:∀c∈l,Iv Tryz.prog Γ0 f [ag (EdgT.row c)] h (bool (p c)) h):(Ev Tryz.prog Γ0 109 [rowsD' (l.map EdgT.row),f] h (bool (l.any p)) h):=by
 exact Ev.castH (Ev.of_sym (P:=Tryz.prog) (Γ:=Γ0) (f:=109) (args:=[rowsD' (List.map EdgT.row l),f]) (h:=h) (h':=h) (d:=bool (Dd (xeR p l≥0))) pok (φ:=[Ev Tryz.prog Γ0 137 [rowsD' (List.map EdgT.row l),f] h (int (xeR p l)) h]) [.val (int (xeR p l))] (by kernel_rfl) ⟨(@xei_ev (l) (hl) (f) (h) (p) (hf)),trivial⟩) (by first|rfl|rw[←xeR_ge]) (by first|rfl|rw[←xeR_ge])
def nodB(n v:Int):Bool:=Dd (v≥0)&&Dd (v<n)
def edgBad(n:Int)(x:EdgT):Bool:=!nodB n x.frm||!nodB n x.to||x.frm==x.to||Dd (x.most<0)||Dd (x.most>1073741824)
abbrev ckH(n:Int):List Blk:=[.var [int n],.var [.fn (.func 108) [] [.ref (.ptr 0 0)]]]
theorem nod_ev{n v:Int}:(Ev Tryz.prog Γ0 108 [int v,.ref (.ptr 0 0)] (ckH n) (bool (nodB n v)) (ckH n)):=by
 exact Ev.castH (Ev.of_sym (P:=Tryz.prog) (Γ:=Γ0) (f:=108) (args:=[int v,.ref (.ptr 0 0)]) (h:=[.var [int n],.var [D.fn (Fn.func 108) [] [.ref (.ptr 0 0)]]]) (h':=[.var [int n],.var [D.fn (Fn.func 108) [] [.ref (.ptr 0 0)]]]) (d:=bool (Dd (v≥0)&&Dd (v<n))) pok (φ:=[]) [] (by kernel_rfl) trivial) (by rfl) (by rfl)
noncomputable abbrev edg_ev_x0(n:Int)(x:EdgT):List Blk:=[.var [int n],.var [D.fn (Fn.func 108) [] [.ref (.ptr 0 0)]],.var [int x.frm,int x.to,int x.most]]
theorem edg_ev{n:Int}{x:EdgT}:(Ev Tryz.prog Γ0 110 [ag x.row,.ref (.ptr 1 0)] (ckH n) (bool (edgBad n x)) (ckH n)):=by
 exact Ev.castH (Ev.post (d2:=bool (!nodB n x.frm||!nodB n x.to||x.frm==x.to||Dd (x.most<0)||Dd (x.most>1073741824))) (h2:=[.var [int n],.var [D.fn (Fn.func 108) [] [.ref (.ptr 0 0)]]]) (φ:=[]) [.st (.trim 2)] (Ev.of_sym (P:=Tryz.prog) (Γ:=Γ0) (f:=110) (args:=[ag (EdgT.row x),.ref (.ptr 1 0)]) (h:=[.var [int n],.var [D.fn (Fn.func 108) [] [.ref (.ptr 0 0)]]]) (h':=(edg_ev_x0 n x)) (d:=bool (!nodB n x.frm||!nodB n x.to||x.frm==x.to||Dd (x.most<0)||Dd (x.most>1073741824))) pok (φ:=[Ev Tryz.prog Γ0 108 [int x.frm,.ref (.ptr 0 0)] (edg_ev_x0 n x) (bool (nodB n x.frm)) (edg_ev_x0 n x),(!!nodB n x.frm)=true→Ev Tryz.prog Γ0 108 [int x.to,.ref (.ptr 0 0)] (edg_ev_x0 n x) (bool (nodB n x.to)) (edg_ev_x0 n x)]) [.val (bool (nodB n x.frm)),.val (bool (nodB n x.to))] (by kernel_rfl) ⟨(Ev.castH (Ev.frameX (args:=[int x.frm,.ref (.ptr 0 0)]) (H:=(edg_ev_x0 n x)) [0,1] (@nod_ev (n) (x.frm)) (by kernel_rfl) (by kernel_rfl) (by kernel_rfl) trivial trivial) (by kernel_rfl) (by kernel_rfl)),(fun hg=>(Ev.castH (Ev.frameX (args:=[int x.to,.ref (.ptr 0 0)]) (H:=(edg_ev_x0 n x)) [0,1] (@nod_ev (n) (x.to)) (by kernel_rfl) (by kernel_rfl) (by kernel_rfl) trivial trivial) (by kernel_rfl) (by kernel_rfl))),trivial⟩) (by kernel_rfl) trivial) (by rfl) (by rfl)
theorem edi_a{n:Int}{l:List EdgT}:∀c∈l,Iv Tryz.prog Γ0 (.fn (.func 110) [] [.ref (.ptr 1 0)]) [ag (EdgT.row c)] (ckH n) (bool (edgBad n c)) (ckH n):=fun c _=>Iv.of (f:=110) (fi:=[]) (ca:=[.ref (.ptr 1 0)]) pok rfl (by kernel_rfl) edg_ev
theorem edc_ev{n:Int}{l:List EdgT}(hl:Short l):Ev Tryz.prog Γ0 109 [rowsD' (l.map EdgT.row),.fn (.func 110) [] [.ref (.ptr 1 0)]] (ckH n) (bool (l.any (edgBad n))) (ckH n):=xec_ev hl edi_a
def chkR(n:Int)(l:List EdgT):Int:=match Dd (n<2)||Dd (n>4096)||Dd (((l.map EdgT.row).length:Int)>65536) with
 | true=>180
 | false=>match l.any (edgBad n) with
  | true=>180
  | false=>0
noncomputable abbrev chk_ev_x0(n:Int):List Blk:=[.var [int n],.var [D.fn (Fn.func 108) [] [.ref (.ptr 0 0)]]]
theorem chk_ev{n:Int}{l:List EdgT}(hl:Short l)(h:List Blk):(Ev Tryz.prog Γ0 79 [int n,rowsD' (l.map EdgT.row)] h (int (chkR n l)) h):=by
 cases hc0:Dd (n<2)||Dd (n>4096)||Dd ((↑(List.length (List.map EdgT.row l)):Int)>65536)
 ·cases hc1:List.any l (edgBad n)
  ·exact Ev.castH (Ev.sym0 (P:=Tryz.prog) (Γ:=Γ0) (f:=79) (args:=[int n,rowsD' (List.map EdgT.row l)]) (d:=int 0) pok (φ:=[(Dd (n<2)||Dd (n>4096)||Dd ((↑(List.length (List.map EdgT.row l)):Int)>65536))=false,Ev Tryz.prog Γ0 109 [rowsD' (List.map EdgT.row l),D.fn (Fn.func 110) [] [.ref (.ptr 1 0)]] (chk_ev_x0 n) (bool (List.any l (edgBad n))) (chk_ev_x0 n),List.any l (edgBad n)=false]) [.b false,.val (bool (List.any l (edgBad n))),.b false] (by kernel_rfl) ⟨hc0,(@edc_ev (n) (l) (hl)),hc1,trivial⟩ rfl rfl h) (by first|rfl|(simp only[chkR,hc0,hc1];first|done|rfl)) (by rfl)
  ·exact Ev.castH (Ev.sym0 (P:=Tryz.prog) (Γ:=Γ0) (f:=79) (args:=[int n,rowsD' (List.map EdgT.row l)]) (d:=int 180) pok (φ:=[(Dd (n<2)||Dd (n>4096)||Dd ((↑(List.length (List.map EdgT.row l)):Int)>65536))=false,Ev Tryz.prog Γ0 109 [rowsD' (List.map EdgT.row l),D.fn (Fn.func 110) [] [.ref (.ptr 1 0)]] (chk_ev_x0 n) (bool (List.any l (edgBad n))) (chk_ev_x0 n),List.any l (edgBad n)=true]) [.b false,.val (bool (List.any l (edgBad n))),.b true] (by kernel_rfl) ⟨hc0,(@edc_ev (n) (l) (hl)),hc1,trivial⟩ rfl rfl h) (by first|rfl|(simp only[chkR,hc0,hc1];first|done|rfl)) (by rfl)
 ·exact Ev.castH (Ev.sym0 (P:=Tryz.prog) (Γ:=Γ0) (f:=79) (args:=[int n,rowsD' (List.map EdgT.row l)]) (d:=int 180) pok (φ:=[(Dd (n<2)||Dd (n>4096)||Dd ((↑(List.length (List.map EdgT.row l)):Int)>65536))=true]) [.b true] (by kernel_rfl) ⟨hc0,trivial⟩ rfl rfl h) (by first|rfl|(simp only[chkR,hc0];first|done|rfl)) (by rfl)
def endsBad(n a b:Int):Bool:=Dd (a<0)||Dd (a≥n)||Dd (b<0)||Dd (b≥n)||a==b
def chkE(n:Int)(l:List EdgT)(a b:Int):Int:=match chkR n l != 0 with
 | true=>chkR n l
 | false=>match endsBad n a b with
  | true=>180
  | false=>0
theorem chke_ev{n a b:Int}{l:List EdgT}(hl:Short l)(h:List Blk):(Ev Tryz.prog Γ0 44 [int n,rowsD' (l.map EdgT.row),int a,int b] h (int (chkE n l a b)) h):=by
 cases hc0:chkR n l != 0
 ·cases hc1:Dd (a<0)||Dd (a≥n)||Dd (b<0)||Dd (b≥n)||a==b
  ·exact Ev.castH (Ev.sym0 (P:=Tryz.prog) (Γ:=Γ0) (f:=44) (args:=[int n,rowsD' (List.map EdgT.row l),int a,int b]) (d:=int 0) pok (φ:=[Ev Tryz.prog Γ0 79 [int n,rowsD' (List.map EdgT.row l)] [] (int (chkR n l)) [],(chkR n l != 0)=false,(Dd (a<0)||Dd (a≥n)||Dd (b<0)||Dd (b≥n)||a==b)=false]) [.val (int (chkR n l)),.b false,.b false] (by kernel_rfl) ⟨(@chk_ev (n) (l) (hl) ([])),hc0,hc1,trivial⟩ rfl rfl h) (by first|rfl|(simp only[chkE,endsBad,hc0,hc1];first|done|rfl)) (by rfl)
  ·exact Ev.castH (Ev.sym0 (P:=Tryz.prog) (Γ:=Γ0) (f:=44) (args:=[int n,rowsD' (List.map EdgT.row l),int a,int b]) (d:=int 180) pok (φ:=[Ev Tryz.prog Γ0 79 [int n,rowsD' (List.map EdgT.row l)] [] (int (chkR n l)) [],(chkR n l != 0)=false,(Dd (a<0)||Dd (a≥n)||Dd (b<0)||Dd (b≥n)||a==b)=true]) [.val (int (chkR n l)),.b false,.b true] (by kernel_rfl) ⟨(@chk_ev (n) (l) (hl) ([])),hc0,hc1,trivial⟩ rfl rfl h) (by first|rfl|(simp only[chkE,endsBad,hc0,hc1];first|done|rfl)) (by rfl)
 ·exact Ev.castH (Ev.sym0 (P:=Tryz.prog) (Γ:=Γ0) (f:=44) (args:=[int n,rowsD' (List.map EdgT.row l),int a,int b]) (d:=int (chkR n l)) pok (φ:=[Ev Tryz.prog Γ0 79 [int n,rowsD' (List.map EdgT.row l)] [] (int (chkR n l)) [],(chkR n l != 0)=true]) [.val (int (chkR n l)),.b true] (by kernel_rfl) ⟨(@chk_ev (n) (l) (hl) ([])),hc0,trivial⟩ rfl rfl h) (by first|rfl|(simp only[chkE,endsBad,hc0];first|done|rfl)) (by rfl)
theorem EdgG.inn{n:Nat}{x:EdgT}(h:EdgG n x):EdgIn n x:=⟨h.f0,by have:=h.ft;have:=h.tn;omega,by have:=h.f0;have:=h.ft;omega,h.tn⟩
theorem EdgG.ok{n:Nat}{x:EdgT}(h:EdgG n x):edgBad (n:Int) x=false:=by
 obtain⟨a,b,c,d,e⟩:=h
 unfold edgBad nodB
 simp only[Bool.or_eq_false_iff,Bool.not_eq_false',Bool.and_eq_true,decide_eq_true_eq,decide_eq_false_iff_not,beq_eq_false_iff_ne]
 omega
theorem n3F_len{p:ProgT}{mid:Int}:∀(bs:List AttT) (s:List EdgT×Int),(bs.foldl (n3F p mid) s).1.length=s.1.length+pairsN p bs
 | [],s=>by simp[pairsN]
 | a::bs,s=>by
  rw[List.foldl_cons,n3F_len bs]
  simp only[n3F,n2_len,pairsN,List.map_cons,List.sum_cons]
  omega
theorem n4F_len{mid sink:Int}:∀(qs:List ReqT) (s:List EdgT×Int),(qs.foldl (n4F mid sink) s).1.length=s.1.length+qs.length
 | [],s=>by simp
 | q::qs,s=>by
  rw[List.foldl_cons,n4F_len qs]
  simp only[n4F,List.length_append,List.length_cons,List.length_nil]
  omega
theorem pairsN_le(p:ProgT):∀(bs:List AttT),pairsN p bs≤bs.length*p.reqs.length
 | []=>by simp[pairsN]
 | a::bs=>by
  have h1:=pairsN_le p bs
  have h2:=elR_len p a
  simp only[pairsN,List.map_cons,List.sum_cons,List.length_cons,Nat.add_mul,Nat.one_mul] at h1 ⊢
  omega
section
variable {p:ProgT} {l:List AttT}
theorem net3_length:(net3 p l).length=l.length+pairsN p l+p.reqs.length:=by
 unfold net3 net2
 rw[n4F_len,n3F_len,net1_len]
abbrev nN(p:ProgT)(l:List AttT):Nat:=2+l.length+p.reqs.length
theorem NetOk.size(h:NetOk p l):(net3 p l).length≤69:=by
 have h1:=pairsN_le p l
 have h2:l.length*p.reqs.length≤9*6:=Nat.mul_le_mul h.ls h.rs
 have h3:=h.ls
 have h4:=h.rs
 rw[net3_length];omega
theorem NetOk.sums(h:NetOk p l):(sumsR l).2.2=0:=by
 unfold sumsR
 rw[h.ae];rfl
theorem NetOk.net(h:NetOk p l):netR p l=((nN p l:Int),net3 p l,0):=by
 have hN:nN p l=2+l.length+p.reqs.length:=rfl
 have h1:=h.ls
 have h2:=h.rs
 have e:IntKind.i64.wrap (sinkR p l+1)=(nN p l:Int):=by rw[sink_eq h,wrap_i64 (by omega) (by omega)];omega
 show netX p l (sumsR l).2.2=_
 unfold netX
 rw[h.pe,h.sums,e]
 rfl
theorem NetOk.chk(h:NetOk p l):chkE (nN p l:Int) (net3 p l) 0 ((nN p l:Int) - 1)=0:=by
 have hN:nN p l=2+l.length+p.reqs.length:=rfl
 have h1:=h.ls
 have h2:=h.rs
 have h3:=h.size
 have hb:(net3 p l).any (edgBad (nN p l:Int))=false:=List.any_eq_false.2 fun x hx=>by rw[(net_good h x hx).ok];simp
 have hc:chkR (nN p l:Int) (net3 p l)=0:=by
  unfold chkR
  have:(Dd ((nN p l:Int)<2)||Dd ((nN p l:Int)>4096)||Dd ((((net3 p l).map EdgT.row).length:Int)>65536))=false:=by
   simp only[Bool.or_eq_false_iff,decide_eq_false_iff_not,List.length_map];omega
  rw[this,hb]
 unfold chkE
 rw[hc]
 have:endsBad (nN p l:Int) 0 ((nN p l:Int) - 1)=false:=by
  unfold endsBad
  simp only[Bool.or_eq_false_iff,decide_eq_false_iff_not,beq_eq_false_iff_ne];omega
 rw[this]
 rfl
def auR(p:ProgT)(l:List AttT)(fl:List Int):AuS:=(l.foldl (a3F p fl) (⟨[],p.reqs.foldl auF 0,((l.map AttT.row).length:Int)⟩,0)).1
theorem audit_ok(hp:p.ok)(h:NetOk p l){j:Nat}{g:List Int×List Int}(hR:MaxR (adjR (nN p l) (net3 p l)) (net3 p l) (nN p l) 0 ((nN p l:Int) - 1) j (List.replicate (net3 p l).length 0) g)(hg:g.1.length=(net3 p l).length)(h0:List Blk):
  Ev Tryz.prog Γ0 19 [.agg p.l,rowsD' (l.map AttT.row)] h0 (.tup [.agg [rowsD' ((auR p l g.1).us.map UseT.row),int (auR p l g.1).ms,rowsD' (rowsB (cutR g.2))],int 0]) h0:=by
 have h1:=h.ls
 have h2:=h.rs
 have h3:=h.size
 have hN:nN p l=2+l.length+p.reqs.length:=rfl
 have hw:IntKind.i64.wrap ((nN p l:Int) - 1)=(nN p l:Int) - 1:=wrap_i64 (by omega) (by omega)
 refine audit_a (n:=(nN p l:Int)) (es:=net3 p l) (ms:=p.reqs.foldl auF 0) (fl:=g.1) (cut:=cutR g.2) (s:=auR p l g.1) (fun h=>?_) (fun h=>?_) (au_cw (by omega)) ?_ h0
 ·have:=net_ev hp (l:=l) (by omega) (by omega) h
  rw[NetOk.net ‹NetOk p l›] at this
  exact this
 ·rw[hw]
  refine maxR_ev (n:=nN p l) (by omega) (by omega) (by omega) (fun x hx=>(net_good ‹NetOk p l› x hx).inn) ⟨by omega,by simp;omega⟩ ⟨by omega,by omega⟩ (fun h=>?_) hR h
  have:=chke_ev (n:=(nN p l:Int)) (a:=0) (b:=(nN p l:Int) - 1) (l:=net3 p l) (by unfold Short;omega) h
  rw[NetOk.chk ‹NetOk p l›] at this
  exact this
 ·exact ap_rf_a (s:=⟨[],p.reqs.foldl auF 0,((l.map AttT.row).length:Int)⟩) (c:=l.length) hp (by omega) (by omega) (by simp) (by rw[hg,net3_length];omega) (by omega) rfl
end
abbrev toS(p:ProgT)(n i:Int):AS:={t:=mkT 21 0 [(1,.ref (.ptr 0 0)),(3,int n),(4,int i)],h:=[.var p.l],m:=[]}
theorem to_body{p:ProgT}{q:ReqT}{n:Int}{i:Nat}(hr:RowAt (i:Int) (p.reqs.map ReqT.row) q.row 6)(hlt:Dd ((i:Int)<((p.reqs.map ReqT.row).length:Int))=true)(hw:IntKind.i64.wrap ((i:Int)+1)=((i+1:Nat):Int)):(CW Tryz.prog Γ0 [] false (sub Tryz.f23 0) (toS p n i) .normal (toS p (auF n q) ((i+1:Nat):Int))):=by
 exact CW.cast (CW.symX (s:={t:=mkT 21 0 [(1,.ref (.ptr 0 0)),(3,int n),(4,int (↑i:Int))],h:=[.var [strD p.nm,int p.number,int p.uses,int p.earn,int p.num,int p.den,rowsD' (List.map ReqT.row p.reqs)]],m:=[]}) (s':={t:=mkT 21 0 [(1,.ref (.ptr 0 0)),(3,int (IntKind.wrap IntKind.i64 (n+q.credits))),(4,int (IntKind.wrap IntKind.i64 ((↑i:Int)+1)))],h:=[.var [strD p.nm,int p.number,int p.uses,int p.earn,int p.num,int p.den,rowsD' (List.map ReqT.row p.reqs)]],m:=[]}) (e:=Exit.normal) pok (φ:=[Dd ((↑i:Int)<(↑(List.length (List.map ReqT.row p.reqs)):Int))=true,RowAt (↑i:Int) (List.map ReqT.row p.reqs) [vs q.nm,vi q.credits,vi q.grade,Dp.v (Value.bool q.home),Dp.sl q.names,Dp.sl (inR1 q.frm)] 6]) [.st (.mask [1,3,4])] [.b true,.row [vs q.nm,vi q.credits,vi q.grade,Dp.v (Value.bool q.home),Dp.sl q.names,Dp.sl (inR1 q.frm)]] (by kernel_rfl) ⟨hlt,hr,trivial⟩) (by first|rfl|(rw[hw]<;>rfl)) (by first|rfl|(rw[hw]<;>rfl))
theorem to_last{p:ProgT}{n:Int}{i:Nat}(hlt:Dd ((i:Int)<((p.reqs.map ReqT.row).length:Int))=false):(CW Tryz.prog Γ0 [] false (sub Tryz.f23 0) (toS p n i) (.exit 0) {t:=mkT 21 0 [(3,int n)],h:=[.var p.l],m:=[]}):=by
 exact CW.cast (CW.symX (s:={t:=mkT 21 0 [(1,.ref (.ptr 0 0)),(3,int n),(4,int (↑i:Int))],h:=[.var [strD p.nm,int p.number,int p.uses,int p.earn,int p.num,int p.den,rowsD' (List.map ReqT.row p.reqs)]],m:=[]}) (s':={t:=mkT 21 0 [(3,int n)],h:=[.var [strD p.nm,int p.number,int p.uses,int p.earn,int p.num,int p.den,rowsD' (List.map ReqT.row p.reqs)]],m:=[]}) (e:=Exit.exit 0) pok (φ:=[Dd ((↑i:Int)<(↑(List.length (List.map ReqT.row p.reqs)):Int))=false]) [.st (.mask [3])] [.b false] (by kernel_rfl) ⟨hlt,trivial⟩) (by rfl) (by rfl)
def totR(p:ProgT):Int:=p.reqs.foldl auF 0
theorem to_cw{p:ProgT}(hn:p.reqs.length≤1000):CW Tryz.prog Γ0 [] false (.loop (sub Tryz.f23 0)) (toS p 0 0) (.exit 0) {t:=mkT 21 0 [(3,int (totR p))],h:=[.var p.l],m:=[]}:=by
 have:=CW.each (P:=Tryz.prog) (Γ:=Γ0) (h0:=[]) (rd:=false) (c:=sub Tryz.f23 0) (σ:=Int) (ρ:=Empty) p.reqs (fun q s=>.inl (auF s q))
  (fun i s=>toS p s (i:Int)) (.exit 0) (fun s=>{t:=mkT 21 0 [(3,int s)],h:=[.var p.l],m:=[]}) (fun r=>r.elim) (fun _ _=>True) (by simp) (fun r=>r.elim) ?_ ?_ 0 trivial
 ·rw[forL_fold] at this
  exact this
 ·intro i q s hq _
  have hi:=(List.getElem?_eq_some_iff.1 hq).1
  exact⟨fun _ _=>trivial,to_body (rowAt hq rfl) (lt_len ReqT.row hi) (wrap_succ hi (by omega))⟩
 ·intro s _
  exact to_last (ge_len ReqT.row p.reqs)
theorem tot_ev{p:ProgT}(hn:p.reqs.length≤1000)(h:List Blk):(Ev Tryz.prog Γ0 23 [.agg p.l] h (int (totR p)) h):=by
 have hl0:=(@to_cw (p) (hn))
 exact Ev.castH (Ev.sym0 (P:=Tryz.prog) (Γ:=Γ0) (f:=23) (args:=[D.agg (ProgT.l p)]) (d:=int (totR p)) pok (φ:=[CW Tryz.prog Γ0 [] false (.loop (sub Tryz.f23 0)) {t:=mkT 21 0 [(1,.ref (.ptr 0 0)),(3,int 0),(4,int 0)],h:=[.var [strD p.nm,int p.number,int p.uses,int p.earn,int p.num,int p.den,rowsD' (List.map ReqT.row p.reqs)]],m:=[]} (Exit.exit 0) {t:=mkT 21 0 [(3,int (totR p))],h:=[.var [strD p.nm,int p.number,int p.uses,int p.earn,int p.num,int p.den,rowsD' (List.map ReqT.row p.reqs)]],m:=[]}]) [.sum [1,3,4] (Exit.exit 0) {t:=mkT 21 0 [(3,int (totR p))],h:=[.var [strD p.nm,int p.number,int p.uses,int p.earn,int p.num,int p.den,rowsD' (List.map ReqT.row p.reqs)]],m:=[]}] (by kernel_rfl) ⟨hl0,trivial⟩ rfl rfl h) (by rfl) (by rfl)
abbrev asS(us:List UseT)(n i:Int):AS:={t:=mkT 19 0 [(0,rowsD' (us.map UseT.row)),(3,int n),(4,int i)],h:=[],m:=[]}
def asF(n:Int)(u:UseT):Int:=IntKind.i64.wrap (n+u.cr)
theorem as_body{us:List UseT}{u:UseT}{n:Int}{i:Nat}(hr:RowAt (i:Int) (us.map UseT.row) u.row 3)(hlt:Dd ((i:Int)<((us.map UseT.row).length:Int))=true)(hw:IntKind.i64.wrap ((i:Int)+1)=((i+1:Nat):Int)):(CW Tryz.prog Γ0 [] false (sub Tryz.f24 0) (asS us n i) .normal (asS us (asF n u) ((i+1:Nat):Int))):=by
 exact CW.cast (CW.symX (s:={t:=mkT 19 0 [(0,rowsD' (List.map UseT.row us)),(3,int n),(4,int (↑i:Int))],h:=[],m:=[]}) (s':={t:=mkT 19 0 [(0,rowsD' (List.map UseT.row us)),(3,int (IntKind.wrap IntKind.i64 (n+u.cr))),(4,int (IntKind.wrap IntKind.i64 ((↑i:Int)+1)))],h:=[],m:=[]}) (e:=Exit.normal) pok (φ:=[Dd ((↑i:Int)<(↑(List.length (List.map UseT.row us)):Int))=true,RowAt (↑i:Int) (List.map UseT.row us) [vi u.att,vi u.req,vi u.cr] 3]) [.st (.mask [0,3,4])] [.b true,.row [vi u.att,vi u.req,vi u.cr]] (by kernel_rfl) ⟨hlt,hr,trivial⟩) (by first|rfl|(rw[hw]<;>rfl)) (by first|rfl|(rw[hw]<;>rfl))
theorem as_last{us:List UseT}{n:Int}{i:Nat}(hlt:Dd ((i:Int)<((us.map UseT.row).length:Int))=false):(CW Tryz.prog Γ0 [] false (sub Tryz.f24 0) (asS us n i) (.exit 0) {t:=mkT 19 0 [(3,int n)],h:=[],m:=[]}):=by
 exact CW.cast (CW.symX (s:={t:=mkT 19 0 [(0,rowsD' (List.map UseT.row us)),(3,int n),(4,int (↑i:Int))],h:=[],m:=[]}) (s':={t:=mkT 19 0 [(3,int n)],h:=[],m:=[]}) (e:=Exit.exit 0) pok (φ:=[Dd ((↑i:Int)<(↑(List.length (List.map UseT.row us)):Int))=false]) [.st (.mask [3])] [.b false] (by kernel_rfl) ⟨hlt,trivial⟩) (by rfl) (by rfl)
def asgR(us:List UseT):Int:=us.foldl asF 0
theorem as_cw{us:List UseT}(hn:us.length≤1000):CW Tryz.prog Γ0 [] false (.loop (sub Tryz.f24 0)) (asS us 0 0) (.exit 0) {t:=mkT 19 0 [(3,int (asgR us))],h:=[],m:=[]}:=by
 have:=CW.each (P:=Tryz.prog) (Γ:=Γ0) (h0:=[]) (rd:=false) (c:=sub Tryz.f24 0) (σ:=Int) (ρ:=Empty) us (fun q s=>.inl (asF s q))
  (fun i s=>asS us s (i:Int)) (.exit 0) (fun s=>{t:=mkT 19 0 [(3,int s)],h:=[],m:=[]}) (fun r=>r.elim) (fun _ _=>True) (by simp) (fun r=>r.elim) ?_ ?_ 0 trivial
 ·rw[forL_fold] at this
  exact this
 ·intro i q s hq _
  have hi:=(List.getElem?_eq_some_iff.1 hq).1
  exact⟨fun _ _=>trivial,as_body (rowAt hq rfl) (lt_len UseT.row hi) (wrap_succ hi (by omega))⟩
 ·intro s _
  exact as_last (ge_len UseT.row us)
theorem asg_ev{us:List UseT}(hn:us.length≤1000)(h:List Blk):(Ev Tryz.prog Γ0 24 [rowsD' (us.map UseT.row)] h (int (asgR us)) h):=by
 have hl0:=(@as_cw (us) (hn))
 exact Ev.castH (Ev.sym0 (P:=Tryz.prog) (Γ:=Γ0) (f:=24) (args:=[rowsD' (List.map UseT.row us)]) (d:=int (asgR us)) pok (φ:=[CW Tryz.prog Γ0 [] false (.loop (sub Tryz.f24 0)) {t:=mkT 19 0 [(0,rowsD' (List.map UseT.row us)),(3,int 0),(4,int 0)],h:=[],m:=[]} (Exit.exit 0) {t:=mkT 19 0 [(3,int (asgR us))],h:=[],m:=[]}]) [.sum [0,3,4] (Exit.exit 0) {t:=mkT 19 0 [(3,int (asgR us))],h:=[],m:=[]}] (by kernel_rfl) ⟨hl0,trivial⟩ rfl rfl h) (by rfl) (by rfl)
abbrev b2S(p:ProgT)(l:List AttT)(us:List UseT)(i n j:Int):AS:={t:=mkT 185 0 [(1,rowsD' (l.map AttT.row)),(2,rowsD' (us.map UseT.row)),(3,.ref (.ptr 0 0)),(9,int i),(10,int n),(11,int j)],h:=[.var p.l],m:=[]}
abbrev b2E(p:ProgT)(l:List AttT)(us:List UseT)(i n:Int):AS:={t:=mkT 185 0 [(1,rowsD' (l.map AttT.row)),(2,rowsD' (us.map UseT.row)),(3,.ref (.ptr 0 0)),(9,int i),(10,int n)],h:=[.var p.l],m:=[]}
def b2F(i n:Int)(u:UseT):Int:=bif u.att==i then IntKind.i64.wrap (n+u.cr) else n
theorem b2_body{p:ProgT}{l:List AttT}{us:List UseT}{u:UseT}{i n:Int}{j:Nat}(hr:RowAt (j:Int) (us.map UseT.row) u.row 3)(hlt:Dd ((j:Int)<((us.map UseT.row).length:Int))=true)(hw:IntKind.i64.wrap ((j:Int)+1)=((j+1:Nat):Int)):(CW Tryz.prog Γ0 [] false (sub Tryz.f22 2) (b2S p l us i n j) .normal (b2S p l us i (b2F i n u) ((j+1:Nat):Int))):=by
 cases hc0:u.att==i
 ·exact CW.cast (CW.symX (s:={t:=mkT 185 0 [(1,rowsD' (List.map AttT.row l)),(2,rowsD' (List.map UseT.row us)),(3,.ref (.ptr 0 0)),(9,int i),(10,int n),(11,int (↑j:Int))],h:=[.var [strD p.nm,int p.number,int p.uses,int p.earn,int p.num,int p.den,rowsD' (List.map ReqT.row p.reqs)]],m:=[]}) (s':={t:=mkT 185 0 [(1,rowsD' (List.map AttT.row l)),(2,rowsD' (List.map UseT.row us)),(3,.ref (.ptr 0 0)),(9,int i),(10,int n),(11,int (IntKind.wrap IntKind.i64 ((↑j:Int)+1)))],h:=[.var [strD p.nm,int p.number,int p.uses,int p.earn,int p.num,int p.den,rowsD' (List.map ReqT.row p.reqs)]],m:=[]}) (e:=Exit.normal) pok (φ:=[Dd ((↑j:Int)<(↑(List.length (List.map UseT.row us)):Int))=true,RowAt (↑j:Int) (List.map UseT.row us) [vi u.att,vi u.req,vi u.cr] 3,(u.att==i)=false]) [.st (.mask [1,2,3,9,10,11])] [.b true,.row [vi u.att,vi u.req,vi u.cr],.b false] (by kernel_rfl) ⟨hlt,hr,hc0,trivial⟩) (by first|rfl|(simp only[b2F,hw,hc0,cond_true,cond_false];first|done|rfl)) (by first|rfl|(simp only[b2F,hw,hc0,cond_true,cond_false];first|done|rfl))
 ·exact CW.cast (CW.symX (s:={t:=mkT 185 0 [(1,rowsD' (List.map AttT.row l)),(2,rowsD' (List.map UseT.row us)),(3,.ref (.ptr 0 0)),(9,int i),(10,int n),(11,int (↑j:Int))],h:=[.var [strD p.nm,int p.number,int p.uses,int p.earn,int p.num,int p.den,rowsD' (List.map ReqT.row p.reqs)]],m:=[]}) (s':={t:=mkT 185 0 [(1,rowsD' (List.map AttT.row l)),(2,rowsD' (List.map UseT.row us)),(3,.ref (.ptr 0 0)),(9,int i),(10,int (IntKind.wrap IntKind.i64 (n+u.cr))),(11,int (IntKind.wrap IntKind.i64 ((↑j:Int)+1)))],h:=[.var [strD p.nm,int p.number,int p.uses,int p.earn,int p.num,int p.den,rowsD' (List.map ReqT.row p.reqs)]],m:=[]}) (e:=Exit.normal) pok (φ:=[Dd ((↑j:Int)<(↑(List.length (List.map UseT.row us)):Int))=true,RowAt (↑j:Int) (List.map UseT.row us) [vi u.att,vi u.req,vi u.cr] 3,(u.att==i)=true,RowAt (↑j:Int) (List.map UseT.row us) [vi u.att,vi u.req,vi u.cr] 3]) [.st (.mask [1,2,3,9,10,11])] [.b true,.row [vi u.att,vi u.req,vi u.cr],.b true,.row [vi u.att,vi u.req,vi u.cr]] (by kernel_rfl) ⟨hlt,hr,hc0,hr,trivial⟩) (by first|rfl|(simp only[b2F,hw,hc0,cond_true,cond_false];first|done|rfl)) (by first|rfl|(simp only[b2F,hw,hc0,cond_true,cond_false];first|done|rfl))
theorem b2_last{p:ProgT}{l:List AttT}{us:List UseT}{i n:Int}{j:Nat}(hlt:Dd ((j:Int)<((us.map UseT.row).length:Int))=false):(CW Tryz.prog Γ0 [] false (sub Tryz.f22 2) (b2S p l us i n j) (.exit 4) (b2E p l us i n)):=by
 exact CW.cast (CW.symX (s:={t:=mkT 185 0 [(1,rowsD' (List.map AttT.row l)),(2,rowsD' (List.map UseT.row us)),(3,.ref (.ptr 0 0)),(9,int i),(10,int n),(11,int (↑j:Int))],h:=[.var [strD p.nm,int p.number,int p.uses,int p.earn,int p.num,int p.den,rowsD' (List.map ReqT.row p.reqs)]],m:=[]}) (s':={t:=mkT 185 0 [(1,rowsD' (List.map AttT.row l)),(2,rowsD' (List.map UseT.row us)),(3,.ref (.ptr 0 0)),(9,int i),(10,int n)],h:=[.var [strD p.nm,int p.number,int p.uses,int p.earn,int p.num,int p.den,rowsD' (List.map ReqT.row p.reqs)]],m:=[]}) (e:=Exit.exit 4) pok (φ:=[Dd ((↑j:Int)<(↑(List.length (List.map UseT.row us)):Int))=false]) [.st (.mask [1,2,3,9,10])] [.b false] (by kernel_rfl) ⟨hlt,trivial⟩) (by rfl) (by rfl)
def sumA(us:List UseT)(i:Int):Int:=us.foldl (b2F i) 0
theorem b2_cw{p:ProgT}{l:List AttT}{us:List UseT}{i:Int}(hn:us.length≤1000):CW Tryz.prog Γ0 [] false (.loop (sub Tryz.f22 2)) (b2S p l us i 0 0) (.exit 4) (b2E p l us i (sumA us i)):=by
 have:=CW.each (P:=Tryz.prog) (Γ:=Γ0) (h0:=[]) (rd:=false) (c:=sub Tryz.f22 2) (σ:=Int) (ρ:=Empty) us (fun q s=>.inl (b2F i s q))
  (fun j s=>b2S p l us i s (j:Int)) (.exit 4) (fun s=>b2E p l us i s) (fun r=>r.elim) (fun _ _=>True) (by simp) (fun r=>r.elim) ?_ ?_ 0 trivial
 ·rw[forL_fold] at this
  exact this
 ·intro j q s hq _
  have hi:=(List.getElem?_eq_some_iff.1 hq).1
  exact⟨fun _ _=>trivial,b2_body (rowAt hq rfl) (lt_len UseT.row hi) (wrap_succ hi (by omega))⟩
 ·intro s _
  exact b2_last (ge_len UseT.row us)
abbrev b1S(p:ProgT)(l:List AttT)(us:List UseT)(i:Int):AS:={t:=mkT 185 0 [(1,rowsD' (l.map AttT.row)),(2,rowsD' (us.map UseT.row)),(3,.ref (.ptr 0 0)),(9,int i)],h:=[.var p.l],m:=[]}
abbrev b1E(p:ProgT)(l:List AttT)(us:List UseT):AS:={t:=mkT 185 0 [(1,rowsD' (l.map AttT.row)),(2,rowsD' (us.map UseT.row)),(3,.ref (.ptr 0 0))],h:=[.var p.l],m:=[]}
theorem b1_body{p:ProgT}{l:List AttT}{us:List UseT}{a:AttT}{i:Nat}(hr:RowAt (i:Int) (l.map AttT.row) a.row 5)(hlt:Dd ((i:Int)<((l.map AttT.row).length:Int))=true)(hw:IntKind.i64.wrap ((i:Int)+1)=((i+1:Nat):Int))(hn:us.length≤1000)(hg:Dd (sumA us (i:Int)>IntKind.i64.wrap (a.credits*p.uses))=false):(CW Tryz.prog Γ0 [] false (sub Tryz.f22 1) (b1S p l us i) .normal (b1S p l us ((i+1:Nat):Int))):=by
 have hl0:=(@b2_cw (p) (l) (us) ((↑i:Int)) (hn))
 exact CW.cast (CW.symX (s:={t:=mkT 185 0 [(1,rowsD' (List.map AttT.row l)),(2,rowsD' (List.map UseT.row us)),(3,.ref (.ptr 0 0)),(9,int (↑i:Int))],h:=[.var [strD p.nm,int p.number,int p.uses,int p.earn,int p.num,int p.den,rowsD' (List.map ReqT.row p.reqs)]],m:=[]}) (s':={t:=mkT 185 0 [(1,rowsD' (List.map AttT.row l)),(2,rowsD' (List.map UseT.row us)),(3,.ref (.ptr 0 0)),(9,int (IntKind.wrap IntKind.i64 ((↑i:Int)+1)))],h:=[.var [strD p.nm,int p.number,int p.uses,int p.earn,int p.num,int p.den,rowsD' (List.map ReqT.row p.reqs)]],m:=[]}) (e:=Exit.normal) pok (φ:=[Dd ((↑i:Int)<(↑(List.length (List.map AttT.row l)):Int))=true,CW Tryz.prog Γ0 [] false (.loop (sub Tryz.f22 2)) {t:=mkT 185 0 [(1,rowsD' (List.map AttT.row l)),(2,rowsD' (List.map UseT.row us)),(3,.ref (.ptr 0 0)),(9,int (↑i:Int)),(10,int 0),(11,int 0)],h:=[.var [strD p.nm,int p.number,int p.uses,int p.earn,int p.num,int p.den,rowsD' (List.map ReqT.row p.reqs)]],m:=[]} (Exit.exit 4) {t:=mkT 185 0 [(1,rowsD' (List.map AttT.row l)),(2,rowsD' (List.map UseT.row us)),(3,.ref (.ptr 0 0)),(9,int (↑i:Int)),(10,int (sumA us (↑i:Int)))],h:=[.var [strD p.nm,int p.number,int p.uses,int p.earn,int p.num,int p.den,rowsD' (List.map ReqT.row p.reqs)]],m:=[]},RowAt (↑i:Int) (List.map AttT.row l) [vi a.course,vi a.term,vi a.grade,vi a.campus,vi a.credits] 5,Dd (sumA us (↑i:Int)>IntKind.wrap IntKind.i64 (a.credits*p.uses))=false]) [.st (.mask [1,2,3,9])] [.b true,.sum [1,2,3,9,10,11] (Exit.exit 4) {t:=mkT 185 0 [(1,rowsD' (List.map AttT.row l)),(2,rowsD' (List.map UseT.row us)),(3,.ref (.ptr 0 0)),(9,int (↑i:Int)),(10,int (sumA us (↑i:Int)))],h:=[.var [strD p.nm,int p.number,int p.uses,int p.earn,int p.num,int p.den,rowsD' (List.map ReqT.row p.reqs)]],m:=[]},.row [vi a.course,vi a.term,vi a.grade,vi a.campus,vi a.credits],.b false] (by kernel_rfl) ⟨hlt,hl0,hr,hg,trivial⟩) (by first|rfl|(rw[hw]<;>rfl)) (by first|rfl|(rw[hw]<;>rfl))
theorem b1_bad{p:ProgT}{l:List AttT}{us:List UseT}{a:AttT}{i:Nat}(hr:RowAt (i:Int) (l.map AttT.row) a.row 5)(hlt:Dd ((i:Int)<((l.map AttT.row).length:Int))=true)(hn:us.length≤1000)(hg:Dd (sumA us (i:Int)>IntKind.i64.wrap (a.credits*p.uses))=true):(CW Tryz.prog Γ0 [] false (sub Tryz.f22 1) (b1S p l us i) .ret {t:=mkT 185 0 [(6,bool false)],h:=[.var p.l],m:=[]}):=by
 have hl0:=(@b2_cw (p) (l) (us) ((↑i:Int)) (hn))
 exact CW.cast (CW.symX (s:={t:=mkT 185 0 [(1,rowsD' (List.map AttT.row l)),(2,rowsD' (List.map UseT.row us)),(3,.ref (.ptr 0 0)),(9,int (↑i:Int))],h:=[.var [strD p.nm,int p.number,int p.uses,int p.earn,int p.num,int p.den,rowsD' (List.map ReqT.row p.reqs)]],m:=[]}) (s':={t:=mkT 185 0 [(6,bool false)],h:=[.var [strD p.nm,int p.number,int p.uses,int p.earn,int p.num,int p.den,rowsD' (List.map ReqT.row p.reqs)]],m:=[]}) (e:=Exit.ret) pok (φ:=[Dd ((↑i:Int)<(↑(List.length (List.map AttT.row l)):Int))=true,CW Tryz.prog Γ0 [] false (.loop (sub Tryz.f22 2)) {t:=mkT 185 0 [(1,rowsD' (List.map AttT.row l)),(2,rowsD' (List.map UseT.row us)),(3,.ref (.ptr 0 0)),(9,int (↑i:Int)),(10,int 0),(11,int 0)],h:=[.var [strD p.nm,int p.number,int p.uses,int p.earn,int p.num,int p.den,rowsD' (List.map ReqT.row p.reqs)]],m:=[]} (Exit.exit 4) {t:=mkT 185 0 [(1,rowsD' (List.map AttT.row l)),(2,rowsD' (List.map UseT.row us)),(3,.ref (.ptr 0 0)),(9,int (↑i:Int)),(10,int (sumA us (↑i:Int)))],h:=[.var [strD p.nm,int p.number,int p.uses,int p.earn,int p.num,int p.den,rowsD' (List.map ReqT.row p.reqs)]],m:=[]},RowAt (↑i:Int) (List.map AttT.row l) [vi a.course,vi a.term,vi a.grade,vi a.campus,vi a.credits] 5,Dd (sumA us (↑i:Int)>IntKind.wrap IntKind.i64 (a.credits*p.uses))=true]) [.st (.mask [6])] [.b true,.sum [1,2,3,9,10,11] (Exit.exit 4) {t:=mkT 185 0 [(1,rowsD' (List.map AttT.row l)),(2,rowsD' (List.map UseT.row us)),(3,.ref (.ptr 0 0)),(9,int (↑i:Int)),(10,int (sumA us (↑i:Int)))],h:=[.var [strD p.nm,int p.number,int p.uses,int p.earn,int p.num,int p.den,rowsD' (List.map ReqT.row p.reqs)]],m:=[]},.row [vi a.course,vi a.term,vi a.grade,vi a.campus,vi a.credits],.b true] (by kernel_rfl) ⟨hlt,hl0,hr,hg,trivial⟩) (by rfl) (by rfl)
theorem b1_last{p:ProgT}{l:List AttT}{us:List UseT}{i:Nat}(hlt:Dd ((i:Int)<((l.map AttT.row).length:Int))=false):(CW Tryz.prog Γ0 [] false (sub Tryz.f22 1) (b1S p l us i) (.exit 2) (b1E p l us)):=by
 exact CW.cast (CW.symX (s:={t:=mkT 185 0 [(1,rowsD' (List.map AttT.row l)),(2,rowsD' (List.map UseT.row us)),(3,.ref (.ptr 0 0)),(9,int (↑i:Int))],h:=[.var [strD p.nm,int p.number,int p.uses,int p.earn,int p.num,int p.den,rowsD' (List.map ReqT.row p.reqs)]],m:=[]}) (s':={t:=mkT 185 0 [(1,rowsD' (List.map AttT.row l)),(2,rowsD' (List.map UseT.row us)),(3,.ref (.ptr 0 0))],h:=[.var [strD p.nm,int p.number,int p.uses,int p.earn,int p.num,int p.den,rowsD' (List.map ReqT.row p.reqs)]],m:=[]}) (e:=Exit.exit 2) pok (φ:=[Dd ((↑i:Int)<(↑(List.length (List.map AttT.row l)):Int))=false]) [.st (.mask [1,2,3])] [.b false] (by kernel_rfl) ⟨hlt,trivial⟩) (by rfl) (by rfl)
def b1G(p:ProgT)(us:List UseT)(a:AttT)(i:Nat):Nat⊕Unit:=match Dd (sumA us (i:Int)>IntKind.i64.wrap (a.credits*p.uses)) with
 | true=>.inr ()
 | false=>.inl (i+1)
noncomputable abbrev bX(p:ProgT):Exit×AS:=(.ret,{t:=mkT 185 0 [(6,bool false)],h:=[.var p.l],m:=[]})
theorem b1_each{p:ProgT}{l:List AttT}{us:List UseT}(hn:us.length≤1000)(hl:l.length≤1000):CW Tryz.prog Γ0 [] false (.loop (sub Tryz.f22 1)) (b1S p l us 0) (eachFin (.exit 2) (fun _:Nat=>b1E p l us) (fun _:Unit=>bX p) (forL (b1G p us) l 0)).1 (eachFin (.exit 2) (fun _:Nat=>b1E p l us) (fun _:Unit=>bX p) (forL (b1G p us) l 0)).2:=by
 refine CW.each l (b1G p us) (fun i _=>b1S p l us (i:Int)) (.exit 2) _ _ (fun i s=>s=i) (by simp) (fun _=>by simp) ?_ ?_ 0 rfl
 ·intro i a s ha hs
  subst hs
  have hi:=(List.getElem?_eq_some_iff.1 ha).1
  cases hg:Dd (sumA us (s:Int)>IntKind.i64.wrap (a.credits*p.uses)) with
  | true =>
   have e:b1G p us a s=.inr ():=by unfold b1G;rw[hg]
   rw[e]
   exact⟨fun _ h=>(by cases h),b1_bad (rowAt ha rfl) (lt_len AttT.row hi) hn hg⟩
  | false =>
   have e:b1G p us a s=.inl (s+1):=by unfold b1G;rw[hg]
   rw[e]
   exact⟨fun _ h=>(by cases h;rfl),b1_body (rowAt ha rfl) (lt_len AttT.row hi) (wrap_succ hi (by omega)) hn hg⟩
 ·intro s _
  exact b1_last (ge_len AttT.row l)
abbrev b4S(p:ProgT)(us:List UseT)(i n j:Int):AS:={t:=mkT 185 0 [(2,rowsD' (us.map UseT.row)),(3,.ref (.ptr 0 0)),(12,int i),(13,int n),(14,int j)],h:=[.var p.l],m:=[]}
abbrev b4E(p:ProgT)(us:List UseT)(i n:Int):AS:={t:=mkT 185 0 [(2,rowsD' (us.map UseT.row)),(3,.ref (.ptr 0 0)),(12,int i),(13,int n)],h:=[.var p.l],m:=[]}
def b4F(i n:Int)(u:UseT):Int:=bif u.req==i then IntKind.i64.wrap (n+u.cr) else n
theorem b4_body{p:ProgT}{us:List UseT}{u:UseT}{i n:Int}{j:Nat}(hr:RowAt (j:Int) (us.map UseT.row) u.row 3)(hlt:Dd ((j:Int)<((us.map UseT.row).length:Int))=true)(hw:IntKind.i64.wrap ((j:Int)+1)=((j+1:Nat):Int)):(CW Tryz.prog Γ0 [] false (sub Tryz.f22 4) (b4S p us i n j) .normal (b4S p us i (b4F i n u) ((j+1:Nat):Int))):=by
 cases hc0:u.req==i
 ·exact CW.cast (CW.symX (s:={t:=mkT 185 0 [(2,rowsD' (List.map UseT.row us)),(3,.ref (.ptr 0 0)),(12,int i),(13,int n),(14,int (↑j:Int))],h:=[.var [strD p.nm,int p.number,int p.uses,int p.earn,int p.num,int p.den,rowsD' (List.map ReqT.row p.reqs)]],m:=[]}) (s':={t:=mkT 185 0 [(2,rowsD' (List.map UseT.row us)),(3,.ref (.ptr 0 0)),(12,int i),(13,int n),(14,int (IntKind.wrap IntKind.i64 ((↑j:Int)+1)))],h:=[.var [strD p.nm,int p.number,int p.uses,int p.earn,int p.num,int p.den,rowsD' (List.map ReqT.row p.reqs)]],m:=[]}) (e:=Exit.normal) pok (φ:=[Dd ((↑j:Int)<(↑(List.length (List.map UseT.row us)):Int))=true,RowAt (↑j:Int) (List.map UseT.row us) [vi u.att,vi u.req,vi u.cr] 3,(u.req==i)=false]) [.st (.mask [2,3,12,13,14])] [.b true,.row [vi u.att,vi u.req,vi u.cr],.b false] (by kernel_rfl) ⟨hlt,hr,hc0,trivial⟩) (by first|rfl|(simp only[b4F,hw,hc0,cond_true,cond_false];first|done|rfl)) (by first|rfl|(simp only[b4F,hw,hc0,cond_true,cond_false];first|done|rfl))
 ·exact CW.cast (CW.symX (s:={t:=mkT 185 0 [(2,rowsD' (List.map UseT.row us)),(3,.ref (.ptr 0 0)),(12,int i),(13,int n),(14,int (↑j:Int))],h:=[.var [strD p.nm,int p.number,int p.uses,int p.earn,int p.num,int p.den,rowsD' (List.map ReqT.row p.reqs)]],m:=[]}) (s':={t:=mkT 185 0 [(2,rowsD' (List.map UseT.row us)),(3,.ref (.ptr 0 0)),(12,int i),(13,int (IntKind.wrap IntKind.i64 (n+u.cr))),(14,int (IntKind.wrap IntKind.i64 ((↑j:Int)+1)))],h:=[.var [strD p.nm,int p.number,int p.uses,int p.earn,int p.num,int p.den,rowsD' (List.map ReqT.row p.reqs)]],m:=[]}) (e:=Exit.normal) pok (φ:=[Dd ((↑j:Int)<(↑(List.length (List.map UseT.row us)):Int))=true,RowAt (↑j:Int) (List.map UseT.row us) [vi u.att,vi u.req,vi u.cr] 3,(u.req==i)=true,RowAt (↑j:Int) (List.map UseT.row us) [vi u.att,vi u.req,vi u.cr] 3]) [.st (.mask [2,3,12,13,14])] [.b true,.row [vi u.att,vi u.req,vi u.cr],.b true,.row [vi u.att,vi u.req,vi u.cr]] (by kernel_rfl) ⟨hlt,hr,hc0,hr,trivial⟩) (by first|rfl|(simp only[b4F,hw,hc0,cond_true,cond_false];first|done|rfl)) (by first|rfl|(simp only[b4F,hw,hc0,cond_true,cond_false];first|done|rfl))
theorem b4_last{p:ProgT}{us:List UseT}{i n:Int}{j:Nat}(hlt:Dd ((j:Int)<((us.map UseT.row).length:Int))=false):(CW Tryz.prog Γ0 [] false (sub Tryz.f22 4) (b4S p us i n j) (.exit 8) (b4E p us i n)):=by
 exact CW.cast (CW.symX (s:={t:=mkT 185 0 [(2,rowsD' (List.map UseT.row us)),(3,.ref (.ptr 0 0)),(12,int i),(13,int n),(14,int (↑j:Int))],h:=[.var [strD p.nm,int p.number,int p.uses,int p.earn,int p.num,int p.den,rowsD' (List.map ReqT.row p.reqs)]],m:=[]}) (s':={t:=mkT 185 0 [(2,rowsD' (List.map UseT.row us)),(3,.ref (.ptr 0 0)),(12,int i),(13,int n)],h:=[.var [strD p.nm,int p.number,int p.uses,int p.earn,int p.num,int p.den,rowsD' (List.map ReqT.row p.reqs)]],m:=[]}) (e:=Exit.exit 8) pok (φ:=[Dd ((↑j:Int)<(↑(List.length (List.map UseT.row us)):Int))=false]) [.st (.mask [2,3,12,13])] [.b false] (by kernel_rfl) ⟨hlt,trivial⟩) (by rfl) (by rfl)
def sumQ(us:List UseT)(i:Int):Int:=us.foldl (b4F i) 0
theorem b4_cw{p:ProgT}{us:List UseT}{i:Int}(hn:us.length≤1000):CW Tryz.prog Γ0 [] false (.loop (sub Tryz.f22 4)) (b4S p us i 0 0) (.exit 8) (b4E p us i (sumQ us i)):=by
 have:=CW.each (P:=Tryz.prog) (Γ:=Γ0) (h0:=[]) (rd:=false) (c:=sub Tryz.f22 4) (σ:=Int) (ρ:=Empty) us (fun q s=>.inl (b4F i s q))
  (fun j s=>b4S p us i s (j:Int)) (.exit 8) (fun s=>b4E p us i s) (fun r=>r.elim) (fun _ _=>True) (by simp) (fun r=>r.elim) ?_ ?_ 0 trivial
 ·rw[forL_fold] at this
  exact this
 ·intro j q s hq _
  have hi:=(List.getElem?_eq_some_iff.1 hq).1
  exact⟨fun _ _=>trivial,b4_body (rowAt hq rfl) (lt_len UseT.row hi) (wrap_succ hi (by omega))⟩
 ·intro s _
  exact b4_last (ge_len UseT.row us)
abbrev b3S(p:ProgT)(us:List UseT)(i:Int):AS:={t:=mkT 185 0 [(2,rowsD' (us.map UseT.row)),(3,.ref (.ptr 0 0)),(12,int i)],h:=[.var p.l],m:=[]}
abbrev b3E(p:ProgT):AS:={t:=mkT 185 0 [],h:=[.var p.l],m:=[]}
theorem b3_body{p:ProgT}{us:List UseT}{q:ReqT}{i:Nat}(hr:RowAt (i:Int) (p.reqs.map ReqT.row) q.row 6)(hlt:Dd ((i:Int)<((p.reqs.map ReqT.row).length:Int))=true)(hw:IntKind.i64.wrap ((i:Int)+1)=((i+1:Nat):Int))(hn:us.length≤1000)(hg:Dd (sumQ us (i:Int)>q.credits)=false):(CW Tryz.prog Γ0 [] false (sub Tryz.f22 3) (b3S p us i) .normal (b3S p us ((i+1:Nat):Int))):=by
 have hl0:=(@b4_cw (p) (us) ((↑i:Int)) (hn))
 exact CW.cast (CW.symX (s:={t:=mkT 185 0 [(2,rowsD' (List.map UseT.row us)),(3,.ref (.ptr 0 0)),(12,int (↑i:Int))],h:=[.var [strD p.nm,int p.number,int p.uses,int p.earn,int p.num,int p.den,rowsD' (List.map ReqT.row p.reqs)]],m:=[]}) (s':={t:=mkT 185 0 [(2,rowsD' (List.map UseT.row us)),(3,.ref (.ptr 0 0)),(12,int (IntKind.wrap IntKind.i64 ((↑i:Int)+1)))],h:=[.var [strD p.nm,int p.number,int p.uses,int p.earn,int p.num,int p.den,rowsD' (List.map ReqT.row p.reqs)]],m:=[]}) (e:=Exit.normal) pok (φ:=[Dd ((↑i:Int)<(↑(List.length (List.map ReqT.row p.reqs)):Int))=true,CW Tryz.prog Γ0 [] false (.loop (sub Tryz.f22 4)) {t:=mkT 185 0 [(2,rowsD' (List.map UseT.row us)),(3,.ref (.ptr 0 0)),(12,int (↑i:Int)),(13,int 0),(14,int 0)],h:=[.var [strD p.nm,int p.number,int p.uses,int p.earn,int p.num,int p.den,rowsD' (List.map ReqT.row p.reqs)]],m:=[]} (Exit.exit 8) {t:=mkT 185 0 [(2,rowsD' (List.map UseT.row us)),(3,.ref (.ptr 0 0)),(12,int (↑i:Int)),(13,int (sumQ us (↑i:Int)))],h:=[.var [strD p.nm,int p.number,int p.uses,int p.earn,int p.num,int p.den,rowsD' (List.map ReqT.row p.reqs)]],m:=[]},RowAt (↑i:Int) (List.map ReqT.row p.reqs) [vs q.nm,vi q.credits,vi q.grade,Dp.v (Value.bool q.home),Dp.sl q.names,Dp.sl (inR1 q.frm)] 6,Dd (sumQ us (↑i:Int)>q.credits)=false]) [.st (.mask [2,3,12])] [.b true,.sum [2,3,12,13,14] (Exit.exit 8) {t:=mkT 185 0 [(2,rowsD' (List.map UseT.row us)),(3,.ref (.ptr 0 0)),(12,int (↑i:Int)),(13,int (sumQ us (↑i:Int)))],h:=[.var [strD p.nm,int p.number,int p.uses,int p.earn,int p.num,int p.den,rowsD' (List.map ReqT.row p.reqs)]],m:=[]},.row [vs q.nm,vi q.credits,vi q.grade,Dp.v (Value.bool q.home),Dp.sl q.names,Dp.sl (inR1 q.frm)],.b false] (by kernel_rfl) ⟨hlt,hl0,hr,hg,trivial⟩) (by first|rfl|(rw[hw]<;>rfl)) (by first|rfl|(rw[hw]<;>rfl))
theorem b3_bad{p:ProgT}{us:List UseT}{q:ReqT}{i:Nat}(hr:RowAt (i:Int) (p.reqs.map ReqT.row) q.row 6)(hlt:Dd ((i:Int)<((p.reqs.map ReqT.row).length:Int))=true)(hn:us.length≤1000)(hg:Dd (sumQ us (i:Int)>q.credits)=true):(CW Tryz.prog Γ0 [] false (sub Tryz.f22 3) (b3S p us i) .ret {t:=mkT 185 0 [(6,bool false)],h:=[.var p.l],m:=[]}):=by
 have hl0:=(@b4_cw (p) (us) ((↑i:Int)) (hn))
 exact CW.cast (CW.symX (s:={t:=mkT 185 0 [(2,rowsD' (List.map UseT.row us)),(3,.ref (.ptr 0 0)),(12,int (↑i:Int))],h:=[.var [strD p.nm,int p.number,int p.uses,int p.earn,int p.num,int p.den,rowsD' (List.map ReqT.row p.reqs)]],m:=[]}) (s':={t:=mkT 185 0 [(6,bool false)],h:=[.var [strD p.nm,int p.number,int p.uses,int p.earn,int p.num,int p.den,rowsD' (List.map ReqT.row p.reqs)]],m:=[]}) (e:=Exit.ret) pok (φ:=[Dd ((↑i:Int)<(↑(List.length (List.map ReqT.row p.reqs)):Int))=true,CW Tryz.prog Γ0 [] false (.loop (sub Tryz.f22 4)) {t:=mkT 185 0 [(2,rowsD' (List.map UseT.row us)),(3,.ref (.ptr 0 0)),(12,int (↑i:Int)),(13,int 0),(14,int 0)],h:=[.var [strD p.nm,int p.number,int p.uses,int p.earn,int p.num,int p.den,rowsD' (List.map ReqT.row p.reqs)]],m:=[]} (Exit.exit 8) {t:=mkT 185 0 [(2,rowsD' (List.map UseT.row us)),(3,.ref (.ptr 0 0)),(12,int (↑i:Int)),(13,int (sumQ us (↑i:Int)))],h:=[.var [strD p.nm,int p.number,int p.uses,int p.earn,int p.num,int p.den,rowsD' (List.map ReqT.row p.reqs)]],m:=[]},RowAt (↑i:Int) (List.map ReqT.row p.reqs) [vs q.nm,vi q.credits,vi q.grade,Dp.v (Value.bool q.home),Dp.sl q.names,Dp.sl (inR1 q.frm)] 6,Dd (sumQ us (↑i:Int)>q.credits)=true]) [.st (.mask [6])] [.b true,.sum [2,3,12,13,14] (Exit.exit 8) {t:=mkT 185 0 [(2,rowsD' (List.map UseT.row us)),(3,.ref (.ptr 0 0)),(12,int (↑i:Int)),(13,int (sumQ us (↑i:Int)))],h:=[.var [strD p.nm,int p.number,int p.uses,int p.earn,int p.num,int p.den,rowsD' (List.map ReqT.row p.reqs)]],m:=[]},.row [vs q.nm,vi q.credits,vi q.grade,Dp.v (Value.bool q.home),Dp.sl q.names,Dp.sl (inR1 q.frm)],.b true] (by kernel_rfl) ⟨hlt,hl0,hr,hg,trivial⟩) (by rfl) (by rfl)
theorem b3_last{p:ProgT}{us:List UseT}{i:Nat}(hlt:Dd ((i:Int)<((p.reqs.map ReqT.row).length:Int))=false):(CW Tryz.prog Γ0 [] false (sub Tryz.f22 3) (b3S p us i) (.exit 6) (b3E p)):=by
 exact CW.cast (CW.symX (s:={t:=mkT 185 0 [(2,rowsD' (List.map UseT.row us)),(3,.ref (.ptr 0 0)),(12,int (↑i:Int))],h:=[.var [strD p.nm,int p.number,int p.uses,int p.earn,int p.num,int p.den,rowsD' (List.map ReqT.row p.reqs)]],m:=[]}) (s':={t:=mkT 185 0 [],h:=[.var [strD p.nm,int p.number,int p.uses,int p.earn,int p.num,int p.den,rowsD' (List.map ReqT.row p.reqs)]],m:=[]}) (e:=Exit.exit 6) pok (φ:=[Dd ((↑i:Int)<(↑(List.length (List.map ReqT.row p.reqs)):Int))=false]) [.st (.mask [])] [.b false] (by kernel_rfl) ⟨hlt,trivial⟩) (by rfl) (by rfl)
def b3G(us:List UseT)(q:ReqT)(i:Nat):Nat⊕Unit:=match Dd (sumQ us (i:Int)>q.credits) with
 | true=>.inr ()
 | false=>.inl (i+1)
theorem b3_each{p:ProgT}{us:List UseT}(hn:us.length≤1000)(hl:p.reqs.length≤1000):CW Tryz.prog Γ0 [] false (.loop (sub Tryz.f22 3)) (b3S p us 0) (eachFin (.exit 6) (fun _:Nat=>b3E p) (fun _:Unit=>bX p) (forL (b3G us) p.reqs 0)).1 (eachFin (.exit 6) (fun _:Nat=>b3E p) (fun _:Unit=>bX p) (forL (b3G us) p.reqs 0)).2:=by
 refine CW.each p.reqs (b3G us) (fun i _=>b3S p us (i:Int)) (.exit 6) _ _ (fun i s=>s=i) (by simp) (fun _=>by simp) ?_ ?_ 0 rfl
 ·intro i a s ha hs
  subst hs
  have hi:=(List.getElem?_eq_some_iff.1 ha).1
  cases hg:Dd (sumQ us (s:Int)>a.credits) with
  | true =>
   have e:b3G us a s=.inr ():=by unfold b3G;rw[hg]
   rw[e]
   exact⟨fun _ h=>(by cases h),b3_bad (rowAt ha rfl) (lt_len ReqT.row hi) hn hg⟩
  | false =>
   have e:b3G us a s=.inl (s+1):=by unfold b3G;rw[hg]
   rw[e]
   exact⟨fun _ h=>(by cases h;rfl),b3_body (rowAt ha rfl) (lt_len ReqT.row hi) (wrap_succ hi (by omega)) hn hg⟩
 ·intro s _
  exact b3_last (ge_len ReqT.row p.reqs)
abbrev b0S(p:ProgT)(l:List AttT)(us:List UseT)(i:Int):AS:={t:=mkT 185 0 [(1,rowsD' (l.map AttT.row)),(2,rowsD' (us.map UseT.row)),(3,.ref (.ptr 0 0)),(7,int i)],h:=[.var p.l],m:=[]}
noncomputable abbrev b0_first_x0(p:ProgT)(u:UseT):List Blk:=[.var [strD p.nm,int p.number,int p.uses,int p.earn,int p.num,int p.den,rowsD' (List.map ReqT.row p.reqs)],.var [int u.att,int u.req,int u.cr]]
theorem b0_first{p:ProgT}{l:List AttT}{us:List UseT}{u:UseT}{a:AttT}{q:ReqT}{i:Nat}(hsf:Short q.frm)(hr:RowAt (i:Int) (us.map UseT.row) u.row 3)(hlt:Dd ((i:Int)<((us.map UseT.row).length:Int))=true)(hw:IntKind.i64.wrap ((i:Int)+1)=((i+1:Nat):Int))(ha:RowAt u.att (l.map AttT.row) a.row 5)(hq:RowAt u.req (p.reqs.map ReqT.row) q.row 6)
  (hg:(Dd (u.att<0)||Dd (u.att≥((l.map AttT.row).length:Int))||Dd (u.req<0)||Dd (u.req≥((p.reqs.map ReqT.row).length:Int))||Dd (u.cr<1)||Dd (u.cr>a.credits)||!elB q a)=false) (hi:Dd ((i:Int)>0)=false):(CW Tryz.prog Γ0 [] false (sub Tryz.f22 0) (b0S p l us (i:Int)) .normal (b0S p l us ((i+1:Nat):Int))):=by
 exact CW.cast (CW.symX (s:={t:=mkT 185 0 [(1,rowsD' (List.map AttT.row l)),(2,rowsD' (List.map UseT.row us)),(3,.ref (.ptr 0 0)),(7,int (↑i:Int))],h:=[.var [strD p.nm,int p.number,int p.uses,int p.earn,int p.num,int p.den,rowsD' (List.map ReqT.row p.reqs)]],m:=[]}) (s':={t:=mkT 185 0 [(1,rowsD' (List.map AttT.row l)),(2,rowsD' (List.map UseT.row us)),(3,.ref (.ptr 0 0)),(7,int (IntKind.wrap IntKind.i64 ((↑i:Int)+1)))],h:=[.var [strD p.nm,int p.number,int p.uses,int p.earn,int p.num,int p.den,rowsD' (List.map ReqT.row p.reqs)]],m:=[]}) (e:=Exit.normal) pok (φ:=[Dd ((↑i:Int)<(↑(List.length (List.map UseT.row us)):Int))=true,RowAt (↑i:Int) (List.map UseT.row us) [vi u.att,vi u.req,vi u.cr] 3,(!(Dd (u.att<0)||Dd (u.att≥(↑(List.length (List.map AttT.row l)):Int))||Dd (u.req<0)||Dd (u.req≥(↑(List.length (List.map ReqT.row p.reqs)):Int))||Dd (u.cr<1)))=true→RowAt u.att (List.map AttT.row l) [vi a.course,vi a.term,vi a.grade,vi a.campus,vi a.credits] 5,(!(Dd (u.att<0)||Dd (u.att≥(↑(List.length (List.map AttT.row l)):Int))||Dd (u.req<0)||Dd (u.req≥(↑(List.length (List.map ReqT.row p.reqs)):Int))||Dd (u.cr<1)||Dd (u.cr>a.credits)))=true→RowAt u.req (List.map ReqT.row p.reqs) [vs q.nm,vi q.credits,vi q.grade,Dp.v (Value.bool q.home),Dp.sl q.names,Dp.sl (inR1 q.frm)] 6,(!(Dd (u.att<0)||Dd (u.att≥(↑(List.length (List.map AttT.row l)):Int))||Dd (u.req<0)||Dd (u.req≥(↑(List.length (List.map ReqT.row p.reqs)):Int))||Dd (u.cr<1)||Dd (u.cr>a.credits)))=true→RowAt u.att (List.map AttT.row l) [vi a.course,vi a.term,vi a.grade,vi a.campus,vi a.credits] 5,(!(Dd (u.att<0)||Dd (u.att≥(↑(List.length (List.map AttT.row l)):Int))||Dd (u.req<0)||Dd (u.req≥(↑(List.length (List.map ReqT.row p.reqs)):Int))||Dd (u.cr<1)||Dd (u.cr>a.credits)))=true→Ev Tryz.prog Γ0 35 [D.agg [strD q.nm,int q.credits,int q.grade,bool q.home,rowsD' q.names,rowsD' (inR1 q.frm)],D.agg [int a.course,int a.term,int a.grade,int a.campus,int a.credits]] (b0_first_x0 p u) (bool (elB q a)) (b0_first_x0 p u),(Dd (u.att<0)||Dd (u.att≥(↑(List.length (List.map AttT.row l)):Int))||Dd (u.req<0)||Dd (u.req≥(↑(List.length (List.map ReqT.row p.reqs)):Int))||Dd (u.cr<1)||Dd (u.cr>a.credits)||!elB q a)=false,(Dd ((↑i:Int)>0)==true)=false,(Dd ((↑i:Int)>0)==true)=false,(Dd ((↑i:Int)>0)==true)=false,(Dd ((↑i:Int)>0)==true)=false,(Dd ((↑i:Int)>0)==true)=false,(Dd ((↑i:Int)>0)==true)=false,(Dd ((↑i:Int)>0)==true)=false,(Dd ((↑i:Int)>0)==true)=false,(Dd ((↑i:Int)>0)==true)=false,(Dd ((↑i:Int)>0)==true)=false,false=false,false=false,false=false,false=false,false=false,false=false,false=false,false=false,false=false,false=false,false=false,false=false,false=false,false=false,false=false,false=false,false=false,false=false,false=false,false=false,(Dd ((↑i:Int)>0)==true)=false,PickIs (bool (Dd ((↑i:Int)>0))) (D.p (Dp.v (Value.tuple {toList:=[]}))) (bool false) (bool false),false=false]) [.st (.mask [1,2,3,7]),.st (.trim 1)] [.b true,.row [vi u.att,vi u.req,vi u.cr],.row [vi a.course,vi a.term,vi a.grade,vi a.campus,vi a.credits],.row [vs q.nm,vi q.credits,vi q.grade,Dp.v (Value.bool q.home),Dp.sl q.names,Dp.sl (inR1 q.frm)],.row [vi a.course,vi a.term,vi a.grade,vi a.campus,vi a.credits],.val (bool (elB q a)),.b false,.g false,.g false,.g false,.g false,.g false,.g false,.g false,.g false,.g false,.g false,.g false,.g false,.g false,.g false,.g false,.g false,.g false,.g false,.g false,.g false,.g false,.g false,.g false,.g false,.g false,.g false,.g false,.g false,.g false,.g false,.g false,.ov 113 (bool false),.b false] (by kernel_rfl) ⟨hlt,hr,(fun hg=>ha),(fun hg=>hq),(fun hg=>ha),(fun hg=>(@fits_ev (q) (a) (hsf) ((b0_first_x0 p u)))),hg,(by rw[hi]<;>rfl),(by rw[hi]<;>rfl),(by rw[hi]<;>rfl),(by rw[hi]<;>rfl),(by rw[hi]<;>rfl),(by rw[hi]<;>rfl),(by rw[hi]<;>rfl),(by rw[hi]<;>rfl),(by rw[hi]<;>rfl),(by rw[hi]<;>rfl),rfl,rfl,rfl,rfl,rfl,rfl,rfl,rfl,rfl,rfl,rfl,rfl,rfl,rfl,rfl,rfl,rfl,rfl,rfl,rfl,(by rw[hi]<;>rfl),(pickIs_f hi rfl),rfl,trivial⟩) (by first|rfl|(rw[hw]<;>rfl)) (by first|rfl|(rw[hw]<;>rfl))
noncomputable abbrev b0_next_x0(p:ProgT)(u:UseT):List Blk:=[.var [strD p.nm,int p.number,int p.uses,int p.earn,int p.num,int p.den,rowsD' (List.map ReqT.row p.reqs)],.var [int u.att,int u.req,int u.cr]]
theorem b0_next{p:ProgT}{l:List AttT}{us:List UseT}{u:UseT}{a:AttT}{q:ReqT}{w:UseT}{i:Nat}(hsf:Short q.frm)(hr:RowAt (i:Int) (us.map UseT.row) u.row 3)(hlt:Dd ((i:Int)<((us.map UseT.row).length:Int))=true)(hw:IntKind.i64.wrap ((i:Int)+1)=((i+1:Nat):Int))(ha:RowAt u.att (l.map AttT.row) a.row 5)(hq:RowAt u.req (p.reqs.map ReqT.row) q.row 6)
  (hg:(Dd (u.att<0)||Dd (u.att≥((l.map AttT.row).length:Int))||Dd (u.req<0)||Dd (u.req≥((p.reqs.map ReqT.row).length:Int))||Dd (u.cr<1)||Dd (u.cr>a.credits)||!elB q a)=false) (hi:Dd ((i:Int)>0)=true) (hv:RowAt (IntKind.i64.wrap ((i:Int) - 1)) (us.map UseT.row) w.row 3)
  (hs:(Dd ((i:Int)>0)&&(Dd (w.att>u.att)||w.att==u.att&&Dd (w.req≥u.req)))=false):(CW Tryz.prog Γ0 [] false (sub Tryz.f22 0) (b0S p l us (i:Int)) .normal (b0S p l us ((i+1:Nat):Int))):=by
 exact CW.cast (CW.symX (s:={t:=mkT 185 0 [(1,rowsD' (List.map AttT.row l)),(2,rowsD' (List.map UseT.row us)),(3,.ref (.ptr 0 0)),(7,int (↑i:Int))],h:=[.var [strD p.nm,int p.number,int p.uses,int p.earn,int p.num,int p.den,rowsD' (List.map ReqT.row p.reqs)]],m:=[]}) (s':={t:=mkT 185 0 [(1,rowsD' (List.map AttT.row l)),(2,rowsD' (List.map UseT.row us)),(3,.ref (.ptr 0 0)),(7,int (IntKind.wrap IntKind.i64 ((↑i:Int)+1)))],h:=[.var [strD p.nm,int p.number,int p.uses,int p.earn,int p.num,int p.den,rowsD' (List.map ReqT.row p.reqs)]],m:=[]}) (e:=Exit.normal) pok (φ:=[Dd ((↑i:Int)<(↑(List.length (List.map UseT.row us)):Int))=true,RowAt (↑i:Int) (List.map UseT.row us) [vi u.att,vi u.req,vi u.cr] 3,(!(Dd (u.att<0)||Dd (u.att≥(↑(List.length (List.map AttT.row l)):Int))||Dd (u.req<0)||Dd (u.req≥(↑(List.length (List.map ReqT.row p.reqs)):Int))||Dd (u.cr<1)))=true→RowAt u.att (List.map AttT.row l) [vi a.course,vi a.term,vi a.grade,vi a.campus,vi a.credits] 5,(!(Dd (u.att<0)||Dd (u.att≥(↑(List.length (List.map AttT.row l)):Int))||Dd (u.req<0)||Dd (u.req≥(↑(List.length (List.map ReqT.row p.reqs)):Int))||Dd (u.cr<1)||Dd (u.cr>a.credits)))=true→RowAt u.req (List.map ReqT.row p.reqs) [vs q.nm,vi q.credits,vi q.grade,Dp.v (Value.bool q.home),Dp.sl q.names,Dp.sl (inR1 q.frm)] 6,(!(Dd (u.att<0)||Dd (u.att≥(↑(List.length (List.map AttT.row l)):Int))||Dd (u.req<0)||Dd (u.req≥(↑(List.length (List.map ReqT.row p.reqs)):Int))||Dd (u.cr<1)||Dd (u.cr>a.credits)))=true→RowAt u.att (List.map AttT.row l) [vi a.course,vi a.term,vi a.grade,vi a.campus,vi a.credits] 5,(!(Dd (u.att<0)||Dd (u.att≥(↑(List.length (List.map AttT.row l)):Int))||Dd (u.req<0)||Dd (u.req≥(↑(List.length (List.map ReqT.row p.reqs)):Int))||Dd (u.cr<1)||Dd (u.cr>a.credits)))=true→Ev Tryz.prog Γ0 35 [D.agg [strD q.nm,int q.credits,int q.grade,bool q.home,rowsD' q.names,rowsD' (inR1 q.frm)],D.agg [int a.course,int a.term,int a.grade,int a.campus,int a.credits]] (b0_next_x0 p u) (bool (elB q a)) (b0_next_x0 p u),(Dd (u.att<0)||Dd (u.att≥(↑(List.length (List.map AttT.row l)):Int))||Dd (u.req<0)||Dd (u.req≥(↑(List.length (List.map ReqT.row p.reqs)):Int))||Dd (u.cr<1)||Dd (u.cr>a.credits)||!elB q a)=false,Dd ((↑i:Int)>0)=true→RowAt (IntKind.wrap IntKind.i64 ((↑i:Int) - 1)) (List.map UseT.row us) [vi w.att,vi w.req,vi w.cr] 3,(Dd ((↑i:Int)>0)&&!Dd (w.att>u.att))=true→RowAt (IntKind.wrap IntKind.i64 ((↑i:Int) - 1)) (List.map UseT.row us) [vi w.att,vi w.req,vi w.cr] 3,(Dd ((↑i:Int)>0)&&!Dd (w.att>u.att)&&w.att==u.att)=true→RowAt (IntKind.wrap IntKind.i64 ((↑i:Int) - 1)) (List.map UseT.row us) [vi w.att,vi w.req,vi w.cr] 3,(Dd ((↑i:Int)>0)&&(Dd (w.att>u.att)||w.att==u.att&&Dd (w.req≥u.req)))=false]) [.st (.mask [1,2,3,7]),.st (.trim 1)] [.b true,.row [vi u.att,vi u.req,vi u.cr],.row [vi a.course,vi a.term,vi a.grade,vi a.campus,vi a.credits],.row [vs q.nm,vi q.credits,vi q.grade,Dp.v (Value.bool q.home),Dp.sl q.names,Dp.sl (inR1 q.frm)],.row [vi a.course,vi a.term,vi a.grade,vi a.campus,vi a.credits],.val (bool (elB q a)),.b false,.row [vi w.att,vi w.req,vi w.cr],.row [vi w.att,vi w.req,vi w.cr],.row [vi w.att,vi w.req,vi w.cr],.b false] (by kernel_rfl) ⟨hlt,hr,(fun hg=>ha),(fun hg=>hq),(fun hg=>ha),(fun hg=>(@fits_ev (q) (a) (hsf) ((b0_next_x0 p u)))),hg,(fun hg=>hv),(fun hg=>hv),(fun hg=>hv),hs,trivial⟩) (by first|rfl|(rw[hw]<;>rfl)) (by first|rfl|(rw[hw]<;>rfl))
structure UseOk (p:ProgT) (l:List AttT) (u:UseT):Prop where
 a0:0≤u.att
 q0:0≤u.req
 c0:1≤u.cr
 ex:∃a q,l[u.att.toNat]? = some a∧p.reqs[u.req.toNat]? = some q∧u.cr≤a.credits∧elB q a=true
def useLt(w u:UseT):Prop:=w.att<u.att∨w.att=u.att∧w.req<u.req
theorem b0_last{p:ProgT}{l:List AttT}{us:List UseT}{i:Nat}(hlt:Dd ((i:Int)<((us.map UseT.row).length:Int))=false):(CW Tryz.prog Γ0 [] false (sub Tryz.f22 0) (b0S p l us i) (.exit 0) (b1E p l us)):=by
 exact CW.cast (CW.symX (s:={t:=mkT 185 0 [(1,rowsD' (List.map AttT.row l)),(2,rowsD' (List.map UseT.row us)),(3,.ref (.ptr 0 0)),(7,int (↑i:Int))],h:=[.var [strD p.nm,int p.number,int p.uses,int p.earn,int p.num,int p.den,rowsD' (List.map ReqT.row p.reqs)]],m:=[]}) (s':={t:=mkT 185 0 [(1,rowsD' (List.map AttT.row l)),(2,rowsD' (List.map UseT.row us)),(3,.ref (.ptr 0 0))],h:=[.var [strD p.nm,int p.number,int p.uses,int p.earn,int p.num,int p.den,rowsD' (List.map ReqT.row p.reqs)]],m:=[]}) (e:=Exit.exit 0) pok (φ:=[Dd ((↑i:Int)<(↑(List.length (List.map UseT.row us)):Int))=false]) [.st (.mask [1,2,3])] [.b false] (by kernel_rfl) ⟨hlt,trivial⟩) (by rfl) (by rfl)
theorem b0_cw{p:ProgT}{l:List AttT}{us:List UseT}(hp:p.ok)(hn:us.length≤1000)(hu:∀u∈us,UseOk p l u)(hs:∀(i:Nat) (w u:UseT),us[i]? = some w→us[i+1]? = some u→useLt w u):
  CW Tryz.prog Γ0 [] false (.loop (sub Tryz.f22 0)) (b0S p l us 0) (.exit 0) (b1E p l us):=by
 have:=CW.loopN (P:=Tryz.prog) (Γ:=Γ0) (h0:=[]) (rd:=false) (c:=sub Tryz.f22 0) us.length (fun i=>b0S p l us (i:Int)) (e:=.exit 0) (s':=b1E p l us) (by simp) ?_ (b0_last (ge_len UseT.row us))
 ·exact this
 ·intro i hi
  have hg:us[i]? = some us[i]:=List.getElem?_eq_getElem hi
  obtain⟨a0,q0,c0,a,q,ha,hq,h1,h2⟩:=hu _ (List.getElem_mem hi)
  have la:=(List.getElem?_eq_some_iff.1 ha).1
  have lq:=(List.getElem?_eq_some_iff.1 hq).1
  have ra:=rowAt (row:=AttT.row) (sz:=5) ha rfl
  have rq:=rowAt (row:=ReqT.row) (sz:=6) hq rfl
  rw[Int.toNat_of_nonneg a0] at ra
  rw[Int.toNat_of_nonneg q0] at rq
  have hsf:=(hp.rq q (List.mem_of_getElem? hq)).sf
  have hb:(Dd ((us[i]).att<0)||Dd ((us[i]).att≥((l.map AttT.row).length:Int))||Dd ((us[i]).req<0)||Dd ((us[i]).req≥((p.reqs.map ReqT.row).length:Int))||Dd ((us[i]).cr<1)||Dd ((us[i]).cr>a.credits)||!elB q a)=false:=by
   rw[h2]
   simp only[Bool.or_eq_false_iff,decide_eq_false_iff_not,List.length_map,Bool.not_true,and_true]
   omega
  cases i with
  | zero=>exact b0_first hsf (rowAt hg rfl) (lt_len UseT.row hi) (wrap_succ hi (by omega)) ra rq hb (by simp)
  | succ k =>
   have hk:us[k]? = some us[k]:=List.getElem?_eq_getElem (by omega)
   have hlt:=hs k _ _ hk hg
   have hv:=rowAt (row:=UseT.row) (sz:=3) hk rfl
   have e:IntKind.i64.wrap (((k+1:Nat):Int) - 1)=(k:Int):=by rw[wrap_i64 (by omega) (by omega)];omega
   rw[←e] at hv
   refine b0_next hsf (rowAt hg rfl) (lt_len UseT.row hi) (wrap_succ hi (by omega)) ra rq hb (by simp) hv ?_
   unfold useLt at hlt
   rw[Bool.and_eq_false_iff]
   right
   simp only[Bool.or_eq_false_iff,decide_eq_false_iff_not,Bool.and_eq_false_iff,beq_eq_false_iff_ne]
   omega
theorem asn_a{p:ProgT}{l:List AttT}{us:List UseT}
  (h1:CW Tryz.prog Γ0 [] false (.loop (sub Tryz.f22 0)) (b0S p l us 0) (.exit 0) (b1E p l us))
  (h2:CW Tryz.prog Γ0 [] false (.loop (sub Tryz.f22 1)) (b1S p l us 0) (.exit 2) (b1E p l us))
  (h3:CW Tryz.prog Γ0 [] false (.loop (sub Tryz.f22 3)) (b3S p us 0) (.exit 6) (b3E p)) (h:List Blk):(Ev Tryz.prog Γ0 22 [.agg p.l,rowsD' (l.map AttT.row),rowsD' (us.map UseT.row)] h (bool true) h):=by
 have hl0:=(@h1)
 have hl1:=(@h2)
 have hl2:=(@h3)
 exact Ev.castH (Ev.sym0 (P:=Tryz.prog) (Γ:=Γ0) (f:=22) (args:=[D.agg (ProgT.l p),rowsD' (List.map AttT.row l),rowsD' (List.map UseT.row us)]) (d:=bool true) pok (φ:=[CW Tryz.prog Γ0 [] false (.loop (sub Tryz.f22 0)) {t:=mkT 185 0 [(1,rowsD' (List.map AttT.row l)),(2,rowsD' (List.map UseT.row us)),(3,.ref (.ptr 0 0)),(7,int 0)],h:=[.var [strD p.nm,int p.number,int p.uses,int p.earn,int p.num,int p.den,rowsD' (List.map ReqT.row p.reqs)]],m:=[]} (Exit.exit 0) {t:=mkT 185 0 [(1,rowsD' (List.map AttT.row l)),(2,rowsD' (List.map UseT.row us)),(3,.ref (.ptr 0 0))],h:=[.var [strD p.nm,int p.number,int p.uses,int p.earn,int p.num,int p.den,rowsD' (List.map ReqT.row p.reqs)]],m:=[]},CW Tryz.prog Γ0 [] false (.loop (sub Tryz.f22 1)) {t:=mkT 185 0 [(1,rowsD' (List.map AttT.row l)),(2,rowsD' (List.map UseT.row us)),(3,.ref (.ptr 0 0)),(9,int 0)],h:=[.var [strD p.nm,int p.number,int p.uses,int p.earn,int p.num,int p.den,rowsD' (List.map ReqT.row p.reqs)]],m:=[]} (Exit.exit 2) {t:=mkT 185 0 [(1,rowsD' (List.map AttT.row l)),(2,rowsD' (List.map UseT.row us)),(3,.ref (.ptr 0 0))],h:=[.var [strD p.nm,int p.number,int p.uses,int p.earn,int p.num,int p.den,rowsD' (List.map ReqT.row p.reqs)]],m:=[]},CW Tryz.prog Γ0 [] false (.loop (sub Tryz.f22 3)) {t:=mkT 185 0 [(2,rowsD' (List.map UseT.row us)),(3,.ref (.ptr 0 0)),(12,int 0)],h:=[.var [strD p.nm,int p.number,int p.uses,int p.earn,int p.num,int p.den,rowsD' (List.map ReqT.row p.reqs)]],m:=[]} (Exit.exit 6) {t:=mkT 185 0 [],h:=[.var [strD p.nm,int p.number,int p.uses,int p.earn,int p.num,int p.den,rowsD' (List.map ReqT.row p.reqs)]],m:=[]}]) [.sum [1,2,3,7] (Exit.exit 0) {t:=mkT 185 0 [(1,rowsD' (List.map AttT.row l)),(2,rowsD' (List.map UseT.row us)),(3,.ref (.ptr 0 0))],h:=[.var [strD p.nm,int p.number,int p.uses,int p.earn,int p.num,int p.den,rowsD' (List.map ReqT.row p.reqs)]],m:=[]},.sum [1,2,3,9] (Exit.exit 2) {t:=mkT 185 0 [(1,rowsD' (List.map AttT.row l)),(2,rowsD' (List.map UseT.row us)),(3,.ref (.ptr 0 0))],h:=[.var [strD p.nm,int p.number,int p.uses,int p.earn,int p.num,int p.den,rowsD' (List.map ReqT.row p.reqs)]],m:=[]},.sum [2,3,12] (Exit.exit 6) {t:=mkT 185 0 [],h:=[.var [strD p.nm,int p.number,int p.uses,int p.earn,int p.num,int p.den,rowsD' (List.map ReqT.row p.reqs)]],m:=[]}] (by kernel_rfl) ⟨hl0,hl1,hl2,trivial⟩ rfl rfl h) (by rfl) (by rfl)
theorem b1_all{p:ProgT}{us:List UseT}:∀(l:List AttT) (k:Nat),(∀(i:Nat) (a:AttT),l[i]? = some a→sumA us ((k+i:Nat):Int)≤IntKind.i64.wrap (a.credits*p.uses))→forL (b1G p us) l k=.inl (k+l.length)
 | [],k,_=>rfl
 | a::l,k,h=>by
  have h0:=h 0 a rfl
  have e:b1G p us a k=.inl (k+1):=by
   unfold b1G
   rw[show Dd (sumA us (k:Int)>IntKind.i64.wrap (a.credits*p.uses))=false from by simp only[decide_eq_false_iff_not];simp only[Nat.add_zero] at h0;omega]
  simp only[forL,e]
  rw[b1_all l (k+1) (fun i b hb=>by have:=h (i+1) b (by simpa using hb);rw[show k+1+i=k+(i+1) by omega];exact this)]
  simp only[List.length_cons]
  congr 1;omega
theorem b3_all{us:List UseT}:∀(l:List ReqT) (k:Nat),(∀(i:Nat) (q:ReqT),l[i]? = some q→sumQ us ((k+i:Nat):Int)≤q.credits)→forL (b3G us) l k=.inl (k+l.length)
 | [],k,_=>rfl
 | a::l,k,h=>by
  have h0:=h 0 a rfl
  have e:b3G us a k=.inl (k+1):=by
   unfold b3G
   rw[show Dd (sumQ us (k:Int)>a.credits)=false from by simp only[decide_eq_false_iff_not];simp only[Nat.add_zero] at h0;omega]
  simp only[forL,e]
  rw[b3_all l (k+1) (fun i b hb=>by have:=h (i+1) b (by simpa using hb);rw[show k+1+i=k+(i+1) by omega];exact this)]
  simp only[List.length_cons]
  congr 1;omega
theorem asn_true{p:ProgT}{l:List AttT}{us:List UseT}(hp:p.ok)(hn:us.length≤1000)(hl:l.length≤1000)(hr:p.reqs.length≤1000)(hu:∀u∈us,UseOk p l u)(hs:∀(i:Nat) (w u:UseT),us[i]? = some w→us[i+1]? = some u→useLt w u)
  (hA:∀(i:Nat) (a:AttT),l[i]? = some a→sumA us (i:Int)≤IntKind.i64.wrap (a.credits*p.uses)) (hQ:∀(i:Nat) (q:ReqT),p.reqs[i]? = some q→sumQ us (i:Int)≤q.credits) (h:List Blk) :
  Ev Tryz.prog Γ0 22 [.agg p.l,rowsD' (l.map AttT.row),rowsD' (us.map UseT.row)] h (bool true) h:=by
 have h1:=b1_each (p:=p) (l:=l) hn hl
 rw[b1_all l 0 (fun i a ha=>by rw[Nat.zero_add];exact hA i a ha)] at h1
 have h3:=b3_each (p:=p) hn hr
 rw[b3_all p.reqs 0 (fun i a ha=>by rw[Nat.zero_add];exact hQ i a ha)] at h3
 exact asn_a (b0_cw hp hn hu hs) h1 h3 h
noncomputable abbrev da_out_x0(p:ProgT):List Blk:=[.var [strD p.nm,int p.number,int p.uses,int p.earn,int p.num,int p.den,rowsD' (List.map ReqT.row p.reqs)]]
theorem da_out{p:ProgT}{l:List AttT}(hsane:∀h,Ev Tryz.prog Γ0 9 [] h (bool true) h)(hfew:∀h,Ev Tryz.prog Γ0 10 [.agg p.l,rowsD' (l.map AttT.row)] h (bool false) h)(h:List Blk):(Ev Tryz.prog Γ0 6 [.agg p.l,rowsD' (l.map AttT.row)] h (bool true) h):=by
 exact Ev.castH (Ev.sym0 (P:=Tryz.prog) (Γ:=Γ0) (f:=6) (args:=[D.agg (ProgT.l p),rowsD' (List.map AttT.row l)]) (d:=bool true) pok (φ:=[Ev Tryz.prog Γ0 9 [] (da_out_x0 p) (bool true) (da_out_x0 p),(!true)=false,Ev Tryz.prog Γ0 10 [D.agg [strD p.nm,int p.number,int p.uses,int p.earn,int p.num,int p.den,rowsD' (List.map ReqT.row p.reqs)],rowsD' (List.map AttT.row l)] (da_out_x0 p) (bool false) (da_out_x0 p),(!false)=true]) [.val (bool true),.b false,.val (bool false),.b true] (by kernel_rfl) ⟨(@hsane ((da_out_x0 p))),rfl,(@hfew ((da_out_x0 p))),rfl,trivial⟩ rfl rfl h) (by rfl) (by rfl)
noncomputable abbrev da_bad_x0(p:ProgT):List Blk:=[.var [strD p.nm,int p.number,int p.uses,int p.earn,int p.num,int p.den,rowsD' (List.map ReqT.row p.reqs)]]
theorem da_bad{p:ProgT}{l:List AttT}{e:Int}(hsane:∀h,Ev Tryz.prog Γ0 9 [] h (bool true) h)(hfew:∀h,Ev Tryz.prog Γ0 10 [.agg p.l,rowsD' (l.map AttT.row)] h (bool true) h)
  (haud:∀h,Ev Tryz.prog Γ0 19 [.agg p.l,rowsD' (l.map AttT.row)] h (.tup [.agg [nq,int 0,nq],int e]) h) (he:(e != 0)=true) (h:List Blk):(Ev Tryz.prog Γ0 6 [.agg p.l,rowsD' (l.map AttT.row)] h (bool true) h):=by
 exact Ev.castH (Ev.sym0 (P:=Tryz.prog) (Γ:=Γ0) (f:=6) (args:=[D.agg (ProgT.l p),rowsD' (List.map AttT.row l)]) (d:=bool ((↑0:Int)==0&&0==0)) pok (φ:=[Ev Tryz.prog Γ0 9 [] (da_bad_x0 p) (bool true) (da_bad_x0 p),(!true)=false,Ev Tryz.prog Γ0 10 [D.agg [strD p.nm,int p.number,int p.uses,int p.earn,int p.num,int p.den,rowsD' (List.map ReqT.row p.reqs)],rowsD' (List.map AttT.row l)] (da_bad_x0 p) (bool true) (da_bad_x0 p),(!true)=false,Ev Tryz.prog Γ0 19 [D.agg [strD p.nm,int p.number,int p.uses,int p.earn,int p.num,int p.den,rowsD' (List.map ReqT.row p.reqs)],rowsD' (List.map AttT.row l)] (da_bad_x0 p) (D.tup [D.agg [D.p (Dp.v (Value.slice none 0 0)),int 0,D.p (Dp.v (Value.slice none 0 0))],int e]) (da_bad_x0 p),(e != 0)=true]) [.val (bool true),.b false,.val (bool true),.b false,.val (D.tup [D.agg [D.p (Dp.v (Value.slice none 0 0)),int 0,D.p (Dp.v (Value.slice none 0 0))],int e]),.b true] (by kernel_rfl) ⟨(@hsane ((da_bad_x0 p))),rfl,(@hfew ((da_bad_x0 p))),rfl,(@haud ((da_bad_x0 p))),he,trivial⟩ rfl rfl h) (by rfl) (by rfl)
noncomputable abbrev da_ok_x0(p:ProgT)(us:List UseT)(ms:Int)(cut:List Bool):List Blk:=[.var [strD p.nm,int p.number,int p.uses,int p.earn,int p.num,int p.den,rowsD' (List.map ReqT.row p.reqs)],.var [rowsD' (List.map UseT.row us),int ms,rowsD' (rowsB cut)]]
noncomputable abbrev da_ok_x1(p:ProgT):List Blk:=[.var [strD p.nm,int p.number,int p.uses,int p.earn,int p.num,int p.den,rowsD' (List.map ReqT.row p.reqs)]]
theorem da_ok{p:ProgT}{l:List AttT}{us:List UseT}{ms:Int}{cut:List Bool}(hsane:∀h,Ev Tryz.prog Γ0 9 [] h (bool true) h)(hfew:∀h,Ev Tryz.prog Γ0 10 [.agg p.l,rowsD' (l.map AttT.row)] h (bool true) h)
  (haud:∀h,Ev Tryz.prog Γ0 19 [.agg p.l,rowsD' (l.map AttT.row)] h (.tup [.agg [rowsD' (us.map UseT.row),int ms,rowsD' (rowsB cut)],int 0]) h)
  (hasn:∀h,Ev Tryz.prog Γ0 22 [.agg p.l,rowsD' (l.map AttT.row),rowsD' (us.map UseT.row)] h (bool true) h)
  (hn:p.reqs.length≤1000) (hu:us.length≤1000) (hm:(ms==IntKind.i64.wrap (totR p - asgR us))=true) (h0:Dd (ms≥0)=true) (h:List Blk):(Ev Tryz.prog Γ0 6 [.agg p.l,rowsD' (l.map AttT.row)] h (bool true) h):=by
 exact Ev.castH (Ev.sym0 (P:=Tryz.prog) (Γ:=Γ0) (f:=6) (args:=[D.agg (ProgT.l p),rowsD' (List.map AttT.row l)]) (d:=bool (true&&ms==IntKind.wrap IntKind.i64 (totR p - asgR us)&&Dd (ms≥0))) pok (φ:=[Ev Tryz.prog Γ0 9 [] (da_ok_x1 p) (bool true) (da_ok_x1 p),(!true)=false,Ev Tryz.prog Γ0 10 [D.agg [strD p.nm,int p.number,int p.uses,int p.earn,int p.num,int p.den,rowsD' (List.map ReqT.row p.reqs)],rowsD' (List.map AttT.row l)] (da_ok_x1 p) (bool true) (da_ok_x1 p),(!true)=false,Ev Tryz.prog Γ0 19 [D.agg [strD p.nm,int p.number,int p.uses,int p.earn,int p.num,int p.den,rowsD' (List.map ReqT.row p.reqs)],rowsD' (List.map AttT.row l)] (da_ok_x1 p) (D.tup [D.agg [rowsD' (List.map UseT.row us),int ms,rowsD' (rowsB cut)],int 0]) (da_ok_x1 p),(0 != 0)=false,Ev Tryz.prog Γ0 22 [D.agg [strD p.nm,int p.number,int p.uses,int p.earn,int p.num,int p.den,rowsD' (List.map ReqT.row p.reqs)],rowsD' (List.map AttT.row l),rowsD' (List.map UseT.row us)] (da_ok_x0 p us ms cut) (bool true) (da_ok_x0 p us ms cut),true=true→Ev Tryz.prog Γ0 23 [D.agg [strD p.nm,int p.number,int p.uses,int p.earn,int p.num,int p.den,rowsD' (List.map ReqT.row p.reqs)]] (da_ok_x0 p us ms cut) (int (totR p)) (da_ok_x0 p us ms cut),true=true→Ev Tryz.prog Γ0 24 [rowsD' (List.map UseT.row us)] (da_ok_x0 p us ms cut) (int (asgR us)) (da_ok_x0 p us ms cut)]) [.val (bool true),.b false,.val (bool true),.b false,.val (D.tup [D.agg [rowsD' (List.map UseT.row us),int ms,rowsD' (rowsB cut)],int 0]),.b false,.val (bool true),.val (int (totR p)),.val (int (asgR us))] (by kernel_rfl) ⟨(@hsane ((da_ok_x1 p))),rfl,(@hfew ((da_ok_x1 p))),rfl,(@haud ((da_ok_x1 p))),rfl,(@hasn ((da_ok_x0 p us ms cut))),(fun hg=>(@tot_ev (p) (hn) ((da_ok_x0 p us ms cut)))),(fun hg=>(@asg_ev (us) (hu) ((da_ok_x0 p us ms cut)))),trivial⟩ rfl rfl h) (by first|rfl|(simp only[hm,h0];rfl)) (by rfl)
def prs(p:ProgT):List AttT→Int→List (Int×Int×Int)
 | [],_=>[]
 | a::l,i=>(elR p a).map (fun k=>(i,k,a.credits))++prs p l (i+1)
theorem prs_len(p:ProgT):∀(l:List AttT) (i:Int),(prs p l i).length=pairsN p l
 | [],_=>rfl
 | a::l,i=>by
  simp only[prs,List.length_append,List.length_map,prs_len p l,pairsN,List.map_cons,List.sum_cons]
def prE(mid:Int)(t:Int×Int×Int):EdgT:=⟨IntKind.i64.wrap (1+t.1),IntKind.i64.wrap (mid+t.2.1),t.2.2⟩
theorem n2F_map(mid i cr:Int):∀(ks:List Int) (es:List EdgT),ks.foldl (n2F mid i cr) es=es++ks.map fun k=>prE mid (i,k,cr)
 | [],es=>by simp
 | k::ks,es=>by
  rw[List.foldl_cons,n2F_map mid i cr ks]
  simp[n2F,prE]
theorem n3F_prs(p:ProgT)(mid:Int):∀(l:List AttT) (es:List EdgT) (i:Int),(l.foldl (n3F p mid) (es,i)).1=es++(prs p l i).map (prE mid)
 | [],es,i=>by simp[prs]
 | a::l,es,i=>by
  rw[List.foldl_cons]
  show(l.foldl (n3F p mid) ((elR p a).foldl (n2F mid i a.credits) es,i+1)).1=_
  rw[n3F_prs p mid l,n2F_map]
  simp only[prs,List.map_append,List.map_map,List.append_assoc]
  rfl
def apT2(fl:List Int)(s:AuS)(t:Int×Int×Int):AuS:=apG fl t.1 s t.2.1
theorem a3F_prs(p:ProgT)(fl:List Int):∀(l:List AttT) (s:AuS) (i:Int),(l.foldl (a3F p fl) (s,i)).1=(prs p l i).foldl (apT2 fl) s
 | [],s,i=>rfl
 | a::l,s,i=>by
  rw[List.foldl_cons]
  show(l.foldl (a3F p fl) ((elR p a).foldl (apG fl i) s,i+1)).1=_
  rw[a3F_prs p fl l]
  simp only[prs,List.foldl_append,List.foldl_map]
  rfl
def useL(fl:List Int):List (Int×Int×Int)→Nat→List UseT
 | [],_=>[]
 | t::ts,c=>match Dd (fl.getD c 0>0) with
  | true=>⟨t.1,t.2.1,fl.getD c 0⟩::useL fl ts (c+1)
  | false=>useL fl ts (c+1)
theorem apT2_us(fl:List Int):∀(ts:List (Int×Int×Int)) (s:AuS) (c:Nat),s.at_=c→c+ts.length≤1000000→(ts.foldl (apT2 fl) s).us=s.us++useL fl ts c
 | [],s,c,_,_=>by simp[useL]
 | t::ts,s,c,h,hc=>by
  simp only[List.length_cons] at hc
  rw[List.foldl_cons,apT2_us fl ts (apT2 fl s t) (c+1) (apG_at h (by omega)) (by omega)]
  have e:s.at_.toNat=c:=by rw[h,Int.toNat_natCast]
  unfold apT2 apG apF
  rw[e]
  simp only[useL]
  cases hg:Dd (fl.getD c 0>0) with
  | true=>simp
  | false=>rfl
theorem useL_mem(fl:List Int):∀(ts:List (Int×Int×Int)) (c:Nat) (u:UseT),u∈useL fl ts c→∃(j:Nat) (t:Int×Int×Int),ts[j]? = some t∧u.att=t.1∧u.req=t.2.1∧u.cr=fl.getD (c+j) 0∧0<u.cr
 | [],_,u,h=>by simp[useL] at h
 | t::ts,c,u,h=>by
  simp only[useL] at h
  cases hg:Dd (fl.getD c 0>0) with
  | true =>
   rw[hg] at h
   rcases List.mem_cons.1 h with rfl|h
   ·exact⟨0,t,rfl,rfl,rfl,rfl,by simpa using hg⟩
   ·obtain⟨j,t',a,b,c',d,e⟩:=useL_mem fl ts (c+1) u h
    exact⟨j+1,t',by simpa using a,b,c',by rw[d];congr 1;omega,e⟩
  | false =>
   rw[hg] at h
   obtain⟨j,t',a,b,c',d,e⟩:=useL_mem fl ts (c+1) u h
   exact⟨j+1,t',by simpa using a,b,c',by rw[d];congr 1;omega,e⟩
end Go.Vi
