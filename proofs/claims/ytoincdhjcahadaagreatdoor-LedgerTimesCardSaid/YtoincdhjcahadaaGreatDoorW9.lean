/- LedgerTimes: part of the proof: contracts of the functions that the law reaches, and the law. No conditions beyond the given statement's own. -/
import Derived.Test.YtoincdhjcahadaaGreatDoorW8
import Derived.Test.YtoincdhjcahadaaGreatDoorCards
import Derived.Test.YtoincdhjcahadaaGreatDoorTie
import Derived.WalkKit
import Derived.ProofKit
import Derived.OpenShut
import Derived.Deep.DeepHandedRow
import Derived.Lib.LaidTab
import Derived.LaidHandle
import Derived.LaidLaws
import Derived.LaidSub
import Derived.FnData
open Decidable renaming decide → Qd
open Go.Proofs.Tryz renaming prog → Ai, underlying22 → EH
open List renaming forall_mem_cons → BI, drop_drop → Ef, take_append_drop → D6, drop_eq_nil_of_le → Eg, replicate → Bs, mapM_cons → FF, map_cons → Cm, mem_filter → Ch
open Go.Vi.EntT renaming row → AB
open Go.Value renaming okWide → EA
open Go.Proofs.YtoincdhjcahadaaGreatDoor.Rows renaming laid_errors_errorType → Fe, laid_sizar_requests_kinds → Dk
open Option renaming bind_eq_bind → FP, bind_eq_some_iff → C0, map_eq_some_iff → Ax
open Option.some renaming injEq → Aj, inj → C6
open Go.DataW renaming trod → DN
open Prod.mk renaming injEq → Am
open Go.DataW.agg renaming injEq → FZ
open Go Go.Proofs
namespace Go.Vi
set_option maxHeartbeats 4000000
open Go.ChangeShapes Go.WideShapes Go.ChangeAt Go.RowKit Go.Proofs.YtoincdhjcahadaaGreatDoor
set_option maxRecDepth 100000
def I64(n:Int):Prop := -9223372036854775808≤n∧n≤9223372036854775807
theorem gA:Ai.cellsOf 3=1:=by kernel_rfl
theorem cells4:Ai.cellsOf 4=1:=by kernel_rfl
theorem cells9:Ai.cellsOf 9=1:=by kernel_rfl
theorem uN:Ai.cellsOf 28=3:=by kernel_rfl
theorem uO:Ai.cellsOf 32=2:=by kernel_rfl
theorem zM:Ai.cellsOf 33=1:=by kernel_rfl
theorem zN:Ai.cellsOf 34=1:=by kernel_rfl
theorem zO:Ai.cellsOf 35=1:=by kernel_rfl
theorem uP:Ai.cellsOf 37=9:=by kernel_rfl
theorem zP:Ai.cellsOf 38=1:=by kernel_rfl
theorem uQ:Ai.cellsOf 40=2:=by kernel_rfl
theorem uR:Ai.cellsOf 42=9:=by kernel_rfl
theorem uS:Ai.cellsOf 44=2:=by kernel_rfl
theorem zQ:Ai.cellsOf 46=31:=by kernel_rfl
theorem ww:Ai.cellsOf 118=5:=by kernel_rfl
theorem wx:Ai.cellsOf 120=3:=by kernel_rfl
theorem bytes3:Ai.bytesOf 3=8:=by kernel_rfl
theorem wy:Ai.bytesOf 118=40:=by kernel_rfl
theorem wz:Ai.bytesOf 120=24:=by kernel_rfl
theorem zR:Ai.bytesOf 40=16:=by kernel_rfl
theorem zS:Ai.bytesOf 46=320:=by kernel_rfl
theorem uT:tU Ai [3,4,9,22,28,32,33,34,35,37,38,40,42,44,46,118,120]=true:=by kernel_rfl
theorem aA{n:Nat}{ds:List Dp}(h:Shp Ai n 3 ds):∃x,ds=[vi x]∧I64 x:=by
 cases n with
 | zero=>exact h.elim
 | succ n =>
  simp only[Shp,Tryz.underlying3] at h
  obtain⟨x,rfl,hw⟩:=h
  exact⟨x,rfl,bounds_i64 hw⟩
theorem zT{n:Nat}{ds:List Dp}(h:Shp Ai n 9 ds):∃s,ds=[vs s]:=by
 cases n with
 | zero=>exact h.elim
 | succ n =>
  simp only[Shp,Tryz.underlying9] at h
  obtain⟨s,rfl,_⟩:=h
  exact⟨s,rfl⟩
theorem wA{n:Nat}{ds:List Dp}(h:Shp Ai n 4 ds):∃b,ds=[.v (.bool b)]:=by
 cases n with
 | zero=>exact h.elim
 | succ n =>
  simp only[Shp,Tryz.underlying4] at h
  obtain⟨b,rfl⟩:=h
  exact⟨b,rfl⟩
theorem lQ{α:Type}{row:α→List Dp}{ok:α→Prop}:∀{es:List (List Dp)},(∀r∈es,∃a,r=row a∧ok a)→∃l:List α,es=l.map row∧∀a∈l,ok a
 | [],_=>⟨[],rfl,by simp⟩
 | r::es,h=>by
  obtain⟨a,rfl,ha⟩:=h r (List.mem_cons_self ..)
  obtain⟨l,rfl,hl⟩:=lQ (fun r hr=>h r (List.mem_cons_of_mem _ hr))
  exact⟨a::l,rfl,fun b hb=>(List.mem_cons.1 hb).elim (fun e=>e▸ha) (hl b)⟩
theorem wB{n k:Nat}(h:n*k≤reachBytes)(hk:1≤k):n≤140737488355328:=by
 have:n≤n*k:=Nat.le_mul_of_pos_right n hk
 unfold reachBytes at h
 omega
theorem shp_st{n:Nat}{ds:List Dp}(h:Shp Ai n 28 ds):∃a:StT,ds=a.row∧True:=by
 cases n with
 | zero=>exact h.elim
 | succ n =>
  simp only[Shp,Tryz.underlying28,BI,gA,uN] at h
  obtain⟨hl,h1,h2,h3,_⟩:=h
  obtain⟨x1,e1,_⟩:=aA h1
  obtain⟨x2,e2,_⟩:=aA h2
  obtain⟨x3,e3,_⟩:=aA h3
  match ds,hl with
  | [p1,p2,p3],_ =>
   simp at e1 e2 e3
   subst e1;subst e2;subst e3
   exact⟨⟨x1,x2,x3⟩,rfl,trivial⟩
theorem shp_mt{n:Nat}{ds:List Dp}(h:Shp Ai n 118 ds):∃a:MeT,ds=a.row∧True:=by
 cases n with
 | zero=>exact h.elim
 | succ n =>
  simp only[Shp,Tryz.underlying118,BI,gA,ww] at h
  obtain⟨hl,h1,h2,h3,h4,h5,_⟩:=h
  obtain⟨x1,e1,_⟩:=aA h1
  obtain⟨x2,e2,_⟩:=aA h2
  obtain⟨x3,e3,_⟩:=aA h3
  obtain⟨x4,e4,_⟩:=aA h4
  obtain⟨x5,e5,_⟩:=aA h5
  match ds,hl with
  | [p1,p2,p3,p4,p5],_ =>
   simp at e1 e2 e3 e4 e5
   subst e1;subst e2;subst e3;subst e4;subst e5
   exact⟨⟨x1,x2,x3,x4,x5⟩,rfl,trivial⟩
theorem shp_gr{n:Nat}{ds:List Dp}(h:Shp Ai n 120 ds):∃a:GrT,ds=a.row∧True:=by
 cases n with
 | zero=>exact h.elim
 | succ n =>
  simp only[Shp,Tryz.underlying120,BI,gA,wx] at h
  obtain⟨hl,h1,h2,h3,_⟩:=h
  obtain⟨x1,e1,_⟩:=aA h1
  obtain⟨x2,e2,_⟩:=aA h2
  obtain⟨x3,e3,_⟩:=aA h3
  match ds,hl with
  | [p1,p2,p3],_ =>
   simp at e1 e2 e3
   subst e1;subst e2;subst e3
   exact⟨⟨x1,x2,x3⟩,rfl,trivial⟩
theorem w9{n:Nat}{ds:List Dp}(h:Shp Ai n 40 ds):∃a:BuT,ds=a.row∧True:=by
 cases n with
 | zero=>exact h.elim
 | succ n =>
  simp only[Shp,Tryz.underlying40,BI,gA,uQ] at h
  obtain⟨hl,h1,h2,_⟩:=h
  obtain⟨x1,e1,_⟩:=aA h1
  obtain⟨x2,e2,_⟩:=aA h2
  match ds,hl with
  | [p1,p2],_ =>
   simp at e1 e2
   subst e1;subst e2
   exact⟨⟨x1,x2⟩,rfl,trivial⟩
theorem wC{n:Nat}{ds:List Dp}(h:Shp Ai n 32 ds):∃a b,ds=[vi a,vi b]:=by
 cases n with
 | zero=>exact h.elim
 | succ n =>
  simp only[Shp,Tryz.underlying32,BI,gA,uO] at h
  obtain⟨hl,h1,h2,_⟩:=h
  obtain⟨x1,e1,_⟩:=aA h1
  obtain⟨x2,e2,_⟩:=aA h2
  match ds,hl with
  | [p1,p2],_ =>
   simp at e1 e2
   subst e1;subst e2
   exact⟨x1,x2,rfl⟩
theorem zU{n:Nat}{ds:List Dp}(h:Shp Ai n 44 ds):∃a b,ds=[vi a,vi b]:=by
 cases n with
 | zero=>exact h.elim
 | succ n =>
  simp only[Shp,Tryz.underlying44,BI,gA,uS] at h
  obtain⟨hl,h1,h2,_⟩:=h
  obtain⟨x1,e1,_⟩:=aA h1
  obtain⟨x2,e2,_⟩:=aA h2
  match ds,hl with
  | [p1,p2],_ =>
   simp at e1 e2
   subst e1;subst e2
   exact⟨x1,x2,rfl⟩
theorem zV{n:Nat}{ds:List Dp}(h:Shp Ai n 33 ds):∃l:List MeT,ds=[.sl (l.map MeT.row)]:=by
 cases n with
 | zero=>exact h.elim
 | succ n =>
  simp only[Shp,Tryz.underlying33,wy] at h
  obtain⟨es,rfl,_,he⟩:=h
  obtain⟨l,rfl,_⟩:=lQ (row:=MeT.row) (ok:=fun _=>True) (fun r hr=>shp_mt (he r hr))
  exact⟨l,rfl⟩
theorem zW{n:Nat}{ds:List Dp}(h:Shp Ai n 34 ds):∃l:List GrT,ds=[.sl (l.map GrT.row)]:=by
 cases n with
 | zero=>exact h.elim
 | succ n =>
  simp only[Shp,Tryz.underlying34,wz] at h
  obtain⟨es,rfl,_,he⟩:=h
  obtain⟨l,rfl,_⟩:=lQ (row:=GrT.row) (ok:=fun _=>True) (fun r hr=>shp_gr (he r hr))
  exact⟨l,rfl⟩
theorem zX{n:Nat}{ds:List Dp}(h:Shp Ai n 38 ds):∃l:List BuT,ds=[.sl (l.map BuT.row)]:=by
 cases n with
 | zero=>exact h.elim
 | succ n =>
  simp only[Shp,Tryz.underlying38,zR] at h
  obtain⟨es,rfl,_,he⟩:=h
  obtain⟨l,rfl,_⟩:=lQ (row:=BuT.row) (ok:=fun _=>True) (fun r hr=>w9 (he r hr))
  exact⟨l,rfl⟩
theorem wD{n:Nat}{ds:List Dp}(h:Shp Ai n 35 ds):∃l:List Int,ds=[.sl (l.map aa)]:=by
 cases n with
 | zero=>exact h.elim
 | succ n =>
  simp only[Shp,Tryz.underlying35,bytes3] at h
  obtain⟨es,rfl,_,he⟩:=h
  obtain⟨l,rfl,_⟩:=lQ (row:=aa) (ok:=fun _=>True) (fun r hr=>by obtain⟨x,e,_⟩:=aA (he r hr);exact⟨x,e,trivial⟩)
  exact⟨l,rfl⟩
theorem zY{n:Nat}{ds:List Dp}(h:Shp Ai n 37 ds):∃s:SecT,ds=s.row:=by
 cases n with
 | zero=>exact h.elim
 | succ n =>
  simp only[Shp,Tryz.underlying37,BI,gA,cells4,zM,zN,zO,uP] at h
  obtain⟨hl,h1,h2,h3,h4,h5,h6,h7,h8,h9,_⟩:=h
  obtain⟨x1,e1,_⟩:=aA h1
  obtain⟨x2,e2,_⟩:=aA h2
  obtain⟨x3,e3,_⟩:=aA h3
  obtain⟨x4,e4,_⟩:=aA h4
  obtain⟨x5,e5,_⟩:=aA h5
  obtain⟨x6,e6⟩:=zV h6
  obtain⟨x7,e7⟩:=zW h7
  obtain⟨x8,e8⟩:=wD h8
  obtain⟨x9,e9⟩:=wA h9
  match ds,hl with
  | [p1,p2,p3,p4,p5,p6,p7,p8,p9],_ =>
   simp at e1 e2 e3 e4 e5 e6 e7 e8 e9
   subst e1;subst e2;subst e3;subst e4;subst e5;subst e6;subst e7;subst e8;subst e9
   exact⟨⟨x1,x2,x3,x4,x5,x6,x7,x8,x9⟩,rfl⟩
theorem shp_rq{n:Nat}{ds:List Dp}(h:Shp Ai n 42 ds):∃r:RqT,ds=r.row:=by
 cases n with
 | zero=>exact h.elim
 | succ n =>
  simp only[Shp,Tryz.underlying42,BI,gA,zP,uQ,uR] at h
  obtain⟨hl,h1,h2,h3,h4,h5,h6,h7,h8,_⟩:=h
  obtain⟨x1,e1,_⟩:=aA h1
  obtain⟨x2,e2,_⟩:=aA h2
  obtain⟨x3,e3,_⟩:=aA h3
  obtain⟨x4,e4,_⟩:=aA h4
  obtain⟨x5,e5,_⟩:=aA h5
  obtain⟨x6,e6⟩:=zX h6
  obtain⟨⟨x7,x8⟩,e7,_⟩:=w9 h7
  obtain⟨x9,e9,_⟩:=aA h8
  match ds,hl with
  | [p1,p2,p3,p4,p5,p6,p7,p8,p9],_ =>
   simp[BuT.row] at e1 e2 e3 e4 e5 e6 e7 e9
   obtain⟨e7,e8⟩:=e7
   subst e1;subst e2;subst e3;subst e4;subst e5;subst e6;subst e7;subst e8;subst e9
   exact⟨⟨x1,x2,x3,x4,x5,x6,x7,x8,x9⟩,rfl⟩
def EntT.val64(e:EntT):Prop:=e.val≤9223372036854775807
theorem bh{α:Type}(n m:Nat)(l:List α):l.drop n=(l.drop n).take m++l.drop (n+m):=by
 rw[←Ef,D6]
theorem uU{n:Nat}{ds:List Dp}(h:Shp Ai n 46 ds):∃e:EntT,ds=e.row∧e.val64:=by
 cases n with
 | zero=>exact h.elim
 | succ n =>
  simp only[Shp,Tryz.underlying46,BI,gA,cells9,uN,uO,uP,uR,uS,zQ] at h
  obtain⟨hl,h1,h2,h3,h4,h5,h6,h7,h8,h9,h10,h11,_⟩:=h
  obtain⟨⟨a1,a2,a3⟩,e1,_⟩:=shp_st h1
  obtain⟨x2,e2,_⟩:=aA h2
  obtain⟨x3,e3,_⟩:=aA h3
  obtain⟨x4,e4,_⟩:=aA h4
  obtain⟨x5,e5,_⟩:=aA h5
  obtain⟨x6,e6,v6⟩:=aA h6
  obtain⟨b1,b2,e7⟩:=wC h7
  obtain⟨x8,e8⟩:=zT h8
  obtain⟨x9,e9⟩:=zY h9
  obtain⟨x10,e10⟩:=shp_rq h10
  obtain⟨c1,c2,e11⟩:=zU h11
  have hd:ds=(ds.drop 0).take 3++((ds.drop 3).take 1++((ds.drop 4).take 1++((ds.drop 5).take 1++((ds.drop 6).take 1++((ds.drop 7).take 1++((ds.drop 8).take 2++((ds.drop 10).take 1++((ds.drop 11).take 9++((ds.drop 20).take 9++(ds.drop 29).take 2))))))))):=by
   have h29:ds.drop 29=(ds.drop 29).take 2:=by
    have:=bh 29 2 ds
    rw[show ds.drop (29+2)=[] from Eg (by omega),List.append_nil] at this
    exact this
   rw[←h29,←bh 20 9,←bh 11 9,←bh 10 1,←bh 8 2,←bh 7 1,←bh 6 1,←bh 5 1,←bh 4 1,←bh 3 1,←bh 0 3]
   rfl
  refine⟨⟨a1,a2,a3,x2,x3,x4,x5,x6,b1,b2,x8,x9,x10,c1,c2⟩,?_,v6.2⟩
  rw[hd,e1,e2,e3,e4,e5,e6,e7,e8,e9,e10,e11]
  rfl
theorem wE{n:Nat}{ds:List Dp}(h:Shp Ai n 22 ds):∃l:List EntT,ds=[.sl (l.map AB)]∧ao l∧∀e∈l,e.val64:=by
 cases n with
 | zero=>exact h.elim
 | succ n =>
  simp only[Shp,EH,zS] at h
  obtain⟨es,rfl,hb,he⟩:=h
  obtain⟨l,rfl,hv⟩:=lQ (row:=AB) (ok:=EntT.val64) (fun r hr=>uU (he r hr))
  exact⟨l,rfl,by have:=wB hb (by omega);simpa[ao] using this,hv⟩
theorem zZ{H:Type}{enc:TypeId×Value→H}{W:World}{base:Nat}{v:Value}{d:DataW H}{p:List MemPlace}
  (hok:EA Ai W .any base 46 v) (h:DataW.Trod enc Ai W 0 (fun _=>true) true 46 v d p) (hw:(d.weights Ai 46).all (· ≤ reachBytes)=true) :
  ∃e:EntT,e.val64∧Rel W (avs (fun _=>False) (fun _=>none) []) (fun _=>none) [] (ag e.row) v:=by
 unfold EA at hok
 rw[Tryz.underlying46] at hok
 obtain⟨cs,rfl,_,_⟩:=hok
 obtain⟨fuel,hf⟩:=h
 obtain⟨ds,h1,h2⟩:=lC uT iW fuel 46 _ d p (by decide) hf hw
 obtain⟨e,rfl,he⟩:=uU h1
 refine⟨e,he,?_⟩
 simp only[Rel]
 exact⟨cs,rfl,h2.relL⟩
theorem wF{H:Type}{enc:TypeId×Value→H}{W:World}{base:Nat}{v:Value}{d:DataW H}{p:List MemPlace}
  (hok:EA Ai W .any base 22 v) (h:DataW.Trod enc Ai W 0 (fun _=>true) true 22 v d p) (hw:(d.weights Ai 22).all (· ≤ reachBytes)=true) :
  ∃l:List EntT,(ao l∧∀e∈l,e.val64)∧Rel W (avs (fun _=>False) (fun _=>none) []) (fun _=>none) [] (rowsD' (l.map AB)) v:=by
 obtain⟨fuel,hf⟩:=h
 unfold EA at hok
 rw[EH] at hok
 have hc:v.cells.toList=[v]:=by
  cases v<;>first|rfl|skip
  unfold Cell.okWide at hok
  rw[EH] at hok
  exact hok.elim
 rw[hc] at hf
 obtain⟨ds,h1,h2⟩:=lC uT iW fuel 22 _ d p (by decide) hf hw
 obtain⟨l,rfl,hl⟩:=wE h1
 refine⟨l,hl,?_⟩
 simp only[RelPL,and_true] at h2
 simpa[rowsD',Rel] using h2
end Go.Vi
open Go Go.Proofs
namespace Go.Vi
set_option maxRecDepth 100000
set_option maxHeartbeats 4000000
theorem kJ{l:List EntT}{n:EntT}{kn lt:Int}(sl:ao l)(_vl:∀e∈l,e.val64)(_vn:n.val64)(hlt:(Lit.int .u16 lt).wf=true)(h:List Blk):Ev Ai Γq 8 [rowsD' (l.map AB),ag n.row,int kn,lit (.int .u16 lt)] h (bool true) h :=
 nb sl hlt h
open Go.ChangeShapes Go.WideShapes Go.ChangeAt Go.RowKit Go.Proofs.YtoincdhjcahadaaGreatDoor
set_option maxRecDepth 100000
theorem ownK:ownKnob Ai.godebug=none:=by kernel_rfl
theorem z1:laidOutB Ai=true:=by kernel_rfl
def kd(a b c d:Bool)(f g:Value):List Value:=[.bool a,.bool b,.bool c,.bool d,f,g]
def kf(k:Nat):Value:=.func (.func k) #[] #[]
def sv:List Value :=
 kd false false false false .nilFunc .nilFunc++kd false false false true (kf 384) (kf 385)++kd false false false true (kf 386) (kf 387)++kd false true false true (kf 388) (kf 389) ++
 kd false false false true (kf 390) (kf 391)++kd true true false false (kf 392) (kf 394)++kd true true false false (kf 396) (kf 397)++kd false true false false (kf 398) (kf 399) ++
 kd false true true false (kf 400) (kf 401)++kd true false false false (kf 393) (kf 402)
def rk4(a b:Int)(g k:Bool):List Value:=[.int .i64 a,.int .i64 b,.bool g,.bool k]
def rkCells:List Value:=rk4 0 0 false false++rk4 1 8 false true++rk4 0 0 true false++rk4 1 1 true false++rk4 1 1 false false++rk4 1 1 false false
def rq:Value:=.iface 157 (.agg #[.pointer (some ⟨3,111,none⟩)])
def z2(cs:List Value):Obj→Obj
 | .cells _ t frozen=>.cells cs.toArray t frozen
 | o=>o
noncomputable def kp(os:Os):World :=
 {World.holding Ai os ⟨#[],#[],[]⟩ with heap:=(((World.holding Ai os ⟨#[],#[],[]⟩).heap.modify 0 (z2 rkCells)).modify 1 (z2 [rq])).modify 2 (z2 sv)}
abbrev laid3:List (String×DataW Unit):=[("errors.errorType",Fe),("sizar/requests.kinds",Dk),("sizar/rules.kinds",Rows.laid_sizar_rules_kinds)]
theorem laid_met(os:Os)(args:Array Value):laidMetH Ai laid3 ((kp os).forCall (fun _ _=>0) ⟨#[],args,[]⟩).memory :=
 laidMetH_of_parts3 (fuel:=8) (laidMet_of_run' 8 (by kernel_rfl) (by kernel_rfl)) (by kernel_rfl) (by kernel_rfl)
end Go.Vi
open Go Go.Proofs
namespace Go.Vi
set_option maxHeartbeats 4000000
open Go.ChangeShapes Go.WideShapes Go.ChangeAt Go.RowKit Go.Proofs.YtoincdhjcahadaaGreatDoor
set_option maxRecDepth 100000
def kq(P:Program):List Field→Nat→Nat→Bool
 | [],acc,n=>acc==n
 | f::fs,acc,n=>f.offset==acc&&kq P fs (acc+P.cellsOf f.type) n
def wG(g:TypeId→DataW Unit→Option (List Value)):List TypeId→List (DataW Unit)→Option (List Value)
 | [],[]=>some []
 | t::ts,d::ds=>(g t d).bind fun a=>(wG g ts ds).map fun b=>a++b
 | _,_=>none
def lR(P:Program):Nat→TypeId→DataW Unit→Option (List Value)
 | 0,_,_=>none
 | n+1,t,d=>match P.underlying t with
  | some .bool=>match d with
   | .lit (.bool b)=>some [.bool b]
   | _=>none
  | some (.int k)=>match d with
   | .lit (.int _ x)=>some [.int k x]
   | _=>none
  | some (.struct fs)=>match d with
   | .agg ds=>if kq P fs.toList 0 (P.cellsOf t) then wG (fun f d=>lR P n f d) (fs.toList.map (·.type)) ds else none
   | _=>none
  | some (.array m e)=>match d with
   | .agg ds=>if Qd (P.cellsOf t=m*P.cellsOf e)=true then wG (fun f d=>lR P n f d) (Bs m e) ds else none
   | _=>none
  | _=>none
theorem oO{P:Program}{g:TypeId→DataW Unit→Option (List Value)}{tr:TypeId→List Value→Option (DataW Unit×List MemPlace)}{cs:List Value}
  (hg:∀t d ys,g t d=some ys→∀c p,tr t c=some (d,p)→c=ys):∀(fs:List Field) (acc:Nat) (xs:List (DataW Unit×List MemPlace)) (ys:List Value),
  (fs.mapM fun f=>tr f.type ((cs.drop f.offset).take (P.cellsOf f.type)))=some xs→kq P fs acc cs.length=true→wG g (fs.map (·.type)) (xs.map (·.1))=some ys→cs.drop acc=ys
 | [],acc,xs,ys,hm,hc,hz=>by
  simp at hm
  subst hm
  simp[wG] at hz
  subst hz
  simp[kq] at hc
  simp[hc]
 | f::fs,acc,xs,ys,hm,hc,hz=>by
  simp only[FF,FP,C0,Option.pure_def,Aj] at hm
  obtain⟨x,hx,xs',hxs,rfl⟩:=hm
  simp only[kq,Bool.and_eq_true,beq_iff_eq] at hc
  simp only[Cm,wG,C0,Ax] at hz
  obtain⟨a,ha,b,hb,rfl⟩:=hz
  have h1:=hg _ _ _ ha _ x.2 (by rw[hx])
  have h2:=oO hg fs _ xs' b hxs hc.2 hb
  rw[←h1,←h2,hc.1,←Ef,D6]
theorem ru{e:TypeId}{c:Nat}{g:TypeId→DataW Unit→Option (List Value)}{tr:TypeId→List Value→Option (DataW Unit×List MemPlace)}{cs:List Value}
  (hg:∀t d ys,g t d=some ys→∀c p,tr t c=some (d,p)→c=ys):∀(n k:Nat) (xs:List (DataW Unit×List MemPlace)) (ys:List Value),
  ((List.range' k n).mapM fun i=>tr e ((cs.drop (i*c)).take c))=some xs→cs.length=(k+n)*c→wG g (Bs n e) (xs.map (·.1))=some ys→cs.drop (k*c)=ys
 | 0,k,xs,ys,hm,hc,hz=>by
  simp at hm
  subst hm
  simp[wG] at hz
  subst hz
  exact Eg (by rw[hc];simp)
 | n+1,k,xs,ys,hm,hc,hz=>by
  rw[List.range'_succ] at hm
  simp only[FF,FP,C0,Option.pure_def,Aj] at hm
  obtain⟨x,hx,xs',hxs,rfl⟩:=hm
  rw[List.replicate_succ] at hz
  simp only[Cm,wG,C0,Ax] at hz
  obtain⟨a,ha,b,hb,rfl⟩:=hz
  have h1:=hg _ _ _ ha _ x.2 (by rw[hx])
  have h2:=ru hg n (k+1) xs' b hxs (by rw[hc];congr 1;omega) hb
  rw[←h1,←h2,Nat.add_mul,Nat.one_mul,←Ef,D6]
theorem kr{P:Program}{w:World}{sp:Nat→Bool}:∀(n:Nat) (t:TypeId) (d:DataW Unit) (ys:List Value),lR P n t d=some ys→∀(fuel:Nat) (cs:List Value) (p:List MemPlace),DN (fun _=>()) P w 0 sp false fuel t cs=some (d,p)→cs=ys
 | 0,_,_,_,h=>by simp[lR] at h
 | n+1,t,d,ys,h=>by
  intro fuel cs p ht
  cases fuel with
  | zero=>simp[DN] at ht
  | succ fuel =>
   unfold lR at h
   unfold DN at ht
   cases hu:P.underlying t with
   | none=>rw[hu] at h;simp at h
   | some td =>
    rw[hu] at h ht
    cases td with
    | bool =>
     simp only at h ht
     split at h
     ·split at ht<;>simp_all
     ·simp at h
    | int k =>
     simp only at h ht
     split at h
     ·split at ht
      all_goals (first|(simp_all;done)|(split at ht<;>simp_all))
     ·simp at h
    | struct fs =>
     simp only at h ht
     split at h
     ·split at h
      ·rename_i hc
       split at ht
       ·rename_i hl
        obtain⟨xs,hxs,he⟩:=Ax.1 ht
        simp only[Am,FZ] at he
        obtain⟨rfl,_⟩:=he
        have:=oO (tr:=fun t c=>DN (fun _=>()) P w 0 sp false fuel t c) (fun t d ys hg c p hp=>kr n t d ys hg fuel c p hp) fs.toList 0 xs ys hxs (by rw[hl];exact hc) h
        simpa using this
       ·simp at ht
      ·simp at h
     ·simp at h
    | array m e =>
     simp only at h ht
     split at h
     ·split at ht
      ·rename_i hl
       obtain⟨xs,hxs,he⟩:=Ax.1 ht
       simp only[Am,FZ] at he
       obtain⟨rfl,_⟩:=he
       split at h
       ·rename_i hc
        rw[List.range_eq_range'] at hxs
        have:=ru (tr:=fun t c=>DN (fun _=>()) P w 0 sp false fuel t c) (fun t d ys hg c p hp=>kr n t d ys hg fuel c p hp) m 0 xs ys hxs (by rw[hl,Nat.zero_add];exact of_decide_eq_true hc) h
        simpa using this
       ·simp at h
      ·simp at ht
     ·simp at h
    | _=>simp at h
theorem rz:Ai.globalNamed "sizar/requests.kinds" = some 0:=by kernel_rfl
noncomputable def rkT:TypeId:=((Ai.globals[0]?).map (·.type)).getD 0
theorem z3:(Ai.globals[0]?).map (·.type)=some rkT:=by kernel_rfl
theorem uV:lR Ai 4 rkT Dk=some rkCells:=by kernel_rfl
theorem z4 {W:World} (h:laidMetH Ai laid3 W):laidMet Ai [("sizar/requests.kinds",Dk)] W:=(laidMetH_iff.1 h).1
theorem wH {W:World} (h:laidMetH Ai laid3 W):∃cs:Array Value,W.var? Ai "sizar/requests.kinds" = some cs∧cs.toList=rkCells:=by
 obtain⟨ps,hl,_,_⟩:=z4 h
 obtain⟨g,t,cs,fuel,p,q,h1,h2,h3,h4,_⟩:=hl
 rw[rz] at h1
 cases h1
 rw[z3] at h2
 cases h2
 exact⟨cs,h3,kr 4 _ _ _ uV fuel _ _ h4⟩
theorem wI:Ai.globalNamed "errors.errorType" = some 1:=by kernel_rfl
theorem et_rt:(Ai.cutTypes.find? (·.1 == "internal/reflectlite.rtype")).map (·.2)=some 157:=by kernel_rfl
noncomputable def etN:Nat:=Ai.types.size
theorem et_row:((List.range etN).filter fun t=>Ai.rowNamed t [101,114,114,111,114])=[111]:=by kernel_rfl
theorem z5{W:World}(h:laidMetH Ai laid3 W):W.cell? ⟨1,0,none⟩=some rq:=by
 have h2:handlesMet Ai (laid3.filter fun x=>x.2.handleName?.isSome) W:=(laidMetH_iff.1 h).2
 obtain⟨name,u,ty,e1,e2,e3,e4,e5⟩:=h2 ("errors.errorType",Fe) (Ch.2 ⟨by simp,rfl⟩)
 have en:name=[101,114,114,111,114]:=(C6 e1).symm
 subst en
 obtain rfl:=C6 (et_rt.symm.trans e2)
 have hm:ty∈(List.range etN).filter fun t=>Ai.rowNamed t [101,114,114,111,114]:=Ch.2 ⟨List.mem_range.2 e3,e4⟩
 rw[et_row] at hm
 obtain rfl:=List.mem_singleton.1 hm
 have hh:typeHandle Ai 111=.pointer (some ⟨3,111,none⟩):=by kernel_rfl
 rw[hh] at e5
 show W.cell? ⟨1,0,none⟩=some (.iface 157 (.agg #[.pointer (some ⟨3,111,none⟩)]))
 simpa using World.var?_cell wI e5 0
theorem lS{w:World}{av:Nat→Prop}{blk:Nat}{cs:Array Value}(hb:∀off,w.cell? ⟨blk,off,none⟩=cs[off]?)(hav:∀k,¬av k):∀(ys:List Value) (off:Nat),cs.toList.drop off=ys→RelCells w av blk off (ys.map .v)
 | [],_,_=>by simp[RelCells]
 | y::ys,off,h=>by
  have h1:cs[off]? = some y:=by
   have:=congrArg List.head? h
   rw[List.head?_drop] at this
   simpa using this
  have h2:cs.toList.drop (off+1)=ys:=by
   rw[←Ef,h];rfl
  simp only[Cm,RelCells]
  exact⟨⟨hav blk,y,by rw[hb,h1],by simp[RelP]⟩,lS hb hav ys (off+1) h2⟩
theorem rkD_eq:ue=rkCells.map .v:=rfl
theorem uW{W:World}(h:laidMetH Ai laid3 W):∀g cs,Γq g=some cs→RelCells W (avs (fun _=>False) (fun _=>none) []) g 0 cs:=by
 intro g cs hg
 unfold Γq at hg
 split at hg
 ·have:=C6 hg
  subst this
  obtain⟨xs,h1,h2⟩:=wH h
  rw[rkD_eq]
  exact lS (cs:=xs) (fun off=>World.var?_cell rz h1 off) iW _ 0 (by rw[List.drop_zero,h2])
 ·have:=C6 hg
  subst this
  simp only[RelCells]
  exact⟨⟨iW _,rq,z5 h,by simp[RelP,rq]⟩,trivial⟩
 ·cases hg
end Go.Vi
