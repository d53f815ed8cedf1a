/- DegreeMore: part of the proof: contracts of the functions that the law reaches, and the law. No conditions beyond the given statement's own. -/
import Derived.Test.YthokmgafnhmlbaaGreatDoorW5
import Derived.Test.YthokmgafnhmlbaaGreatDoorCards
import Derived.Test.YthokmgafnhmlbaaGreatDoorTie
import Derived.WalkKit
import Derived.ProofKit
import Derived.OpenShut
import Derived.Deep.DeepHandedRow
import Derived.Lib.LaidTab
open Decidable renaming decide → Dd
open Go Go.Proofs
namespace Go.Vi
set_option maxHeartbeats 4000000
open Go.ChangeShapes Go.WideShapes Go.ChangeAt Go.RowKit Go.Proofs.YthokmgafnhmlbaaGreatDoor
set_option maxRecDepth 100000
theorem cells3:Tryz.prog.cellsOf 3=1:=by kernel_rfl
theorem cells4:Tryz.prog.cellsOf 4=1:=by kernel_rfl
theorem cells9:Tryz.prog.cellsOf 9=1:=by kernel_rfl
theorem cells23:Tryz.prog.cellsOf 23=2:=by kernel_rfl
theorem cells24:Tryz.prog.cellsOf 24=1:=by kernel_rfl
theorem cells26:Tryz.prog.cellsOf 26=7:=by kernel_rfl
theorem cells28:Tryz.prog.cellsOf 28=5:=by kernel_rfl
theorem cells34:Tryz.prog.cellsOf 34=1:=by kernel_rfl
theorem cells57:Tryz.prog.cellsOf 57=1:=by kernel_rfl
theorem cells59:Tryz.prog.cellsOf 59=6:=by kernel_rfl
theorem bytes3:Tryz.prog.bytesOf 3=8:=by kernel_rfl
theorem bytes28:Tryz.prog.bytesOf 28=40:=by kernel_rfl
theorem bytes59:Tryz.prog.bytesOf 59=88:=by kernel_rfl
theorem plain26:plainB Tryz.prog [3,4,9,23,24,26,28,34,37,57,59]=true:=by kernel_rfl
theorem shp_int{n:Nat}{ds:List Dp}(h:Shp Tryz.prog n 3 ds):∃x,ds=[vi x]∧I64 x:=by
 cases n with
 | zero=>exact h.elim
 | succ n =>
  simp only[Shp,Tryz.underlying3] at h
  obtain⟨x,rfl,hw⟩:=h
  refine⟨x,rfl,?_⟩
  have:=bounds_i64 hw
  exact this
theorem shp_str{n:Nat}{ds:List Dp}(h:Shp Tryz.prog n 9 ds):∃s,ds=[vs s]:=by
 cases n with
 | zero=>exact h.elim
 | succ n =>
  simp only[Shp,Tryz.underlying9] at h
  obtain⟨s,rfl,_⟩:=h
  exact⟨s,rfl⟩
theorem shp_ratio{n:Nat}{ds:List Dp}(h:Shp Tryz.prog n 23 ds):∃a b,ds=[vi a,vi b]∧I64 a∧I64 b:=by
 cases n with
 | zero=>exact h.elim
 | succ n =>
  simp only[Shp,Tryz.underlying23,List.forall_mem_cons,cells3,cells23] at h
  obtain⟨hl,h1,h2,_⟩:=h
  obtain⟨a,e1,ha⟩:=shp_int h1
  obtain⟨b,e2,hb⟩:=shp_int h2
  match ds,hl with
  | [x,y],_ =>
   simp at e1 e2
   subst e1;subst e2
   exact⟨a,b,rfl,ha,hb⟩
theorem map_of{α:Type}{row:α→List Dp}{ok:α→Prop}:∀{es:List (List Dp)},(∀r∈es,∃a,r=row a∧ok a)→∃l:List α,es=l.map row∧∀a∈l,ok a
 | [],_=>⟨[],rfl,by simp⟩
 | r::es,h=>by
  obtain⟨a,rfl,ha⟩:=h r (List.mem_cons_self ..)
  obtain⟨l,rfl,hl⟩:=map_of (fun r hr=>h r (List.mem_cons_of_mem _ hr))
  exact⟨a::l,rfl,fun b hb=>(List.mem_cons.1 hb).elim (fun e=>e▸ha) (hl b)⟩
theorem short_of{n k:Nat}(h:n*k≤reachBytes)(hk:1≤k):n≤140737488355328:=by
 have:n≤n*k:=Nat.le_mul_of_pos_right n hk
 unfold reachBytes at h
 omega
theorem shp_bool{n:Nat}{ds:List Dp}(h:Shp Tryz.prog n 4 ds):∃b,ds=[.v (.bool b)]:=by
 cases n with
 | zero=>exact h.elim
 | succ n =>
  simp only[Shp,Tryz.underlying4] at h
  obtain⟨b,rfl⟩:=h
  exact⟨b,rfl⟩
theorem shp_strs{n:Nat}{ds:List Dp}(h:Shp Tryz.prog n 57 ds):∃l,ds=[.sl l]:=by
 cases n with
 | zero=>exact h.elim
 | succ n =>
  simp only[Shp,Tryz.underlying57] at h
  obtain⟨es,rfl,_⟩:=h
  exact⟨es,rfl⟩
theorem shp_ints{n:Nat}{ds:List Dp}(h:Shp Tryz.prog n 34 ds):∃l:List Int,ds=[.sl (inR1 l)]∧Short l:=by
 cases n with
 | zero=>exact h.elim
 | succ n =>
  simp only[Shp,Tryz.underlying34,bytes3] at h
  obtain⟨es,rfl,hb,he⟩:=h
  obtain⟨l,rfl,_⟩:=map_of (row:=fun n:Int=>[vi n]) (ok:=fun _=>True) (fun r hr=>by obtain⟨x,e,_⟩:=shp_int (he r hr);exact⟨x,e,trivial⟩)
  exact⟨l,rfl,by have:=short_of hb (by omega);simpa[Short] using this⟩
theorem shp_req{n:Nat}{ds:List Dp}(h:Shp Tryz.prog n 59 ds):∃q:ReqT,ds=q.row∧q.ok:=by
 cases n with
 | zero=>exact h.elim
 | succ n =>
  simp only[Shp,Tryz.underlying59,List.forall_mem_cons,cells3,cells4,cells9,cells34,cells57,cells59] at h
  obtain⟨hl,h1,h2,h3,h4,h5,h6,_⟩:=h
  obtain⟨s,e1⟩:=shp_str h1
  obtain⟨a,e2,_⟩:=shp_int h2
  obtain⟨b,e3,_⟩:=shp_int h3
  obtain⟨c,e4⟩:=shp_bool h4
  obtain⟨d,e5⟩:=shp_strs h5
  obtain⟨f,e6,hf⟩:=shp_ints h6
  match ds,hl with
  | [p1,p2,p3,p4,p5,p6],_ =>
   simp at e1 e2 e3 e4 e5 e6
   subst e1;subst e2;subst e3;subst e4;subst e5;subst e6
   exact⟨⟨s,a,b,c,d,f⟩,rfl,⟨hf⟩⟩
theorem shp_prog{n:Nat}{ds:List Dp}(h:Shp Tryz.prog n 26 ds):∃p:ProgT,ds.map .p=p.l∧p.ok:=by
 cases n with
 | zero=>exact h.elim
 | succ n =>
  rw[Shp,Tryz.underlying26] at h
  simp only[List.forall_mem_cons,cells3,cells9,cells23,cells24,cells26] at h
  obtain⟨hl,h1,h2,h3,h4,h5,h6,_⟩:=h
  obtain⟨s,e1⟩:=shp_str h1
  obtain⟨a,e2,_⟩:=shp_int h2
  obtain⟨b,e3,_⟩:=shp_int h3
  obtain⟨c,e4,_⟩:=shp_int h4
  obtain⟨x,y,e5,hx,hy⟩:=shp_ratio h5
  cases n with
  | zero=>exact h6.elim
  | succ n =>
   simp only[Shp,Tryz.underlying24,bytes59] at h6
   obtain⟨es,e6,hb,he⟩:=h6
   obtain⟨l,rfl,hk⟩:=map_of (row:=ReqT.row) (ok:=ReqT.ok) (fun r hr=>shp_req (he r hr))
   match ds,hl with
   | [p1,p2,p3,p4,p5,p6,p7],_ =>
    simp at e1 e2 e3 e4 e5 e6
    obtain⟨rfl,rfl⟩:=e5
    subst e1;subst e2;subst e3;subst e4;subst e6
    exact⟨⟨s,a,b,c,x,y,l⟩,rfl,⟨by have:=short_of hb (by omega);simpa[Short] using this,hk,hx,hy⟩⟩
theorem shp_att{n:Nat}{ds:List Dp}(h:Shp Tryz.prog n 28 ds):∃a:AttT,ds=a.row∧True:=by
 cases n with
 | zero=>exact h.elim
 | succ n =>
  simp only[Shp,Tryz.underlying28,List.forall_mem_cons,cells3,cells28] at h
  obtain⟨hl,h1,h2,h3,h4,h5,_⟩:=h
  obtain⟨a,e1,_⟩:=shp_int h1
  obtain⟨b,e2,_⟩:=shp_int h2
  obtain⟨c,e3,_⟩:=shp_int h3
  obtain⟨d,e4,_⟩:=shp_int h4
  obtain⟨e,e5,_⟩:=shp_int h5
  match ds,hl with
  | [p,q,r,t,u],_ =>
   simp at e1 e2 e3 e4 e5
   subst e1;subst e2;subst e3;subst e4;subst e5
   exact⟨⟨a,b,c,d,e⟩,rfl,trivial⟩
theorem shp_atts{n:Nat}{ds:List Dp}(h:Shp Tryz.prog n 37 ds):∃l:List AttT,ds=[.sl (l.map AttT.row)]∧Short l:=by
 cases n with
 | zero=>exact h.elim
 | succ n =>
  simp only[Shp,Tryz.underlying37,bytes28] at h
  obtain⟨es,rfl,hb,he⟩:=h
  obtain⟨l,rfl,_⟩:=map_of (row:=AttT.row) (ok:=fun _=>True) (fun r hr=>shp_att (he r hr))
  exact⟨l,rfl,by have:=short_of hb (by omega);simpa[Short] using this⟩
theorem arg_prog{H:Type}{enc:TypeId×Value→H}{W:World}{base:Nat}{v:Value}{d:DataW H}{p:List MemPlace}
  (hok:Value.okWide Tryz.prog W .any base 26 v) (h:DataW.Trod enc Tryz.prog W 0 (fun _=>true) true 26 v d p) (hw:(d.weights Tryz.prog 26).all (· ≤ reachBytes)=true) :
  ∃r:ProgT,r.ok∧Rel W (avs (fun _=>False) (fun _=>none) []) (fun _=>none) [] (.agg r.l) v:=by
 unfold Value.okWide at hok
 rw[Tryz.underlying26] at hok
 obtain⟨cs,rfl,_,_⟩:=hok
 obtain⟨fuel,hf⟩:=h
 obtain⟨ds,h1,h2⟩:=open_plain plain26 av_start fuel 26 _ d p (by decide) hf hw
 obtain⟨r,e,hr⟩:=shp_prog h1
 refine⟨r,hr,?_⟩
 rw[←e]
 simp only[Rel]
 exact⟨cs,rfl,h2.relL⟩
theorem arg_att{H:Type}{enc:TypeId×Value→H}{W:World}{base:Nat}{v:Value}{d:DataW H}{p:List MemPlace}
  (hok:Value.okWide Tryz.prog W .any base 28 v) (h:DataW.Trod enc Tryz.prog W 0 (fun _=>true) true 28 v d p) (hw:(d.weights Tryz.prog 28).all (· ≤ reachBytes)=true) :
  ∃a:AttT,Rel W (avs (fun _=>False) (fun _=>none) []) (fun _=>none) [] (ag a.row) v:=by
 unfold Value.okWide at hok
 rw[Tryz.underlying28] at hok
 obtain⟨cs,rfl,_,_⟩:=hok
 obtain⟨fuel,hf⟩:=h
 obtain⟨ds,h1,h2⟩:=open_plain plain26 av_start fuel 28 _ d p (by decide) hf hw
 obtain⟨a,rfl,_⟩:=shp_att h1
 refine⟨a,?_⟩
 simp only[Rel]
 exact⟨cs,rfl,h2.relL⟩
theorem arg_atts{H:Type}{enc:TypeId×Value→H}{W:World}{base:Nat}{v:Value}{d:DataW H}{p:List MemPlace}
  (hok:Value.okWide Tryz.prog W .any base 37 v) (h:DataW.Trod enc Tryz.prog W 0 (fun _=>true) true 37 v d p) (hw:(d.weights Tryz.prog 37).all (· ≤ reachBytes)=true) :
  ∃l:List AttT,Short l∧Rel W (avs (fun _=>False) (fun _=>none) []) (fun _=>none) [] (rowsD' (l.map AttT.row)) v:=by
 obtain⟨fuel,hf⟩:=h
 unfold Value.okWide at hok
 rw[Tryz.underlying37] at hok
 have hc:v.cells.toList=[v]:=by
  cases v<;>first|rfl|skip
  unfold Cell.okWide at hok
  rw[Tryz.underlying37] at hok
  exact hok.elim
 rw[hc] at hf
 obtain⟨ds,h1,h2⟩:=open_plain plain26 av_start fuel 37 _ d p (by decide) hf hw
 obtain⟨l,rfl,hl⟩:=shp_atts h1
 refine⟨l,hl,?_⟩
 simp only[RelPL,and_true] at h2
 simpa[rowsD',Rel] using h2
end Go.Vi
open Go Go.Proofs
namespace Go.Vi
set_option maxHeartbeats 4000000
open Go.ChangeShapes Go.WideShapes Go.ChangeAt Go.RowKit Go.Proofs.YthokmgafnhmlbaaGreatDoor
set_option maxRecDepth 100000
theorem ownK:ownKnob Tryz.prog.godebug=none:=by kernel_rfl
theorem laidOut:laidOutB Tryz.prog=true:=by kernel_rfl
def kd(a b c d:Bool)(f g:Value):List Value:=[.bool a,.bool b,.bool c,.bool d,f,g]
def kf(k:Nat):Value:=.func (.func k) #[] #[]
def kindsCells:List Value :=
 kd false false false false .nilFunc .nilFunc++kd false false false true (kf 212) (kf 213)++kd false false false true (kf 214) (kf 215)++kd false true false true (kf 216) (kf 217) ++
 kd false false false true (kf 218) (kf 219)++kd true true false false (kf 220) (kf 222)++kd true true false false (kf 224) (kf 225)++kd false true false false (kf 226) (kf 227) ++
 kd false true true false (kf 228) (kf 230)++kd true false false false (kf 221) (kf 231)
noncomputable def laidWorld(os:Os):World :=
 {World.holding Tryz.prog os ⟨#[],#[],[]⟩ with heap:=(World.holding Tryz.prog os ⟨#[],#[],[]⟩).heap.modify 0 fun
   | .cells _ t frozen=>.cells kindsCells.toArray t frozen
   | o=>o}
theorem laid_met (os:Os) (args:Array Value):laidMetH Tryz.prog [("sizar/rules.kinds",Rows.laid_sizar_rules_kinds)] ((laidWorld os).forCall (fun _ _=>0) ⟨#[],args,[]⟩).memory :=
 laidMetH_of_parts3 (fuel:=8) (laidMet_nil _ _) (by kernel_rfl) (by kernel_rfl)
end Go.Vi
open Go Go.Proofs
namespace Go.Vi
set_option maxHeartbeats 4000000
open Go.ChangeShapes Go.WideShapes Go.ChangeAt Go.RowKit Go.Proofs.YthokmgafnhmlbaaGreatDoor
set_option maxRecDepth 100000
end Go.Vi
open Go Go.Proofs
namespace Go.Vi
set_option maxRecDepth 100000
set_option maxHeartbeats 4000000
theorem dm_rows(l:List AttT):(List.map (fun x=>List.map D.p x) (List.map AttT.row l)).all (rowOk 5)=true:=List.all_eq_true.2 fun r hr=>by
 obtain⟨a,ha,rfl⟩:=List.mem_map.1 hr
 obtain⟨b,_,rfl⟩:=List.mem_map.1 ha
 rfl
theorem dm_inn(n:Nat)(l:List AttT):(List.map (fun x=>List.map D.p x) (List.map AttT.row l)).all (D.innL n)=true:=List.all_eq_true.2 fun r hr=>by
 obtain⟨a,ha,rfl⟩:=List.mem_map.1 hr
 obtain⟨b,_,rfl⟩:=List.mem_map.1 ha
 rfl
theorem dm_inn2(n:Nat)(l:List AttT)(a b c d e:Int):(List.map (fun x=>List.map D.p x) (List.map AttT.row l)++[[int a,int b,int c,int d,int e]]).all (D.innL n)=true:=by
 rw[List.all_append,dm_inn];rfl
theorem room40{n:Nat}(hn:n≤100000):roomOk n 40=true:=by simp[roomOk];omega
theorem dm_room{l:List AttT}(h:l.length≤1000):(List.all (List.map (fun x=>List.map D.p x) (List.map AttT.row l)) (rowOk 5)&&roomOk (List.length ([]:List (List D))+List.length (List.map (fun x=>List.map D.p x) (List.map AttT.row l))) 40)=true:=by
 rw[dm_rows,List.length_nil,Nat.zero_add,List.length_map,List.length_map]
 exact room40 (by omega)
theorem dm_room2{l:List AttT}{a b c d e:Int}(h:l.length≤1000):(List.all [[int a,int b,int c,int d,int e]] (rowOk 5)&&roomOk (List.length (List.map (fun x=>List.map D.p x) (List.map AttT.row l))+List.length [[int a,int b,int c,int d,int e]]) 40)=true:=by
 rw[List.length_map,List.length_map,List.length_singleton]
 exact room40 (by omega)
abbrev dmH(p:ProgT)(l:List AttT)(a:AttT)(us:List UseT)(ms:Int)(cut:List Bool):List Blk:=[.var p.l,.var [int a.course,int a.term,int a.grade,int a.campus,int a.credits],.var [rowsD' (us.map UseT.row),int ms,rowsD' (rowsB cut)],.vec (List.map (fun x=>List.map D.p x) (l.map AttT.row)++[[int a.course,int a.term,int a.grade,int a.campus,int a.credits]]) 2 5,.vec [[int a.course,int a.term,int a.grade,int a.campus,int a.credits]] 0 5]
abbrev dmG(p:ProgT)(a:AttT)(us:List UseT)(ms:Int)(cut:List Bool):List Blk:=[.var p.l,.var [int a.course,int a.term,int a.grade,int a.campus,int a.credits],.var [rowsD' (us.map UseT.row),int ms,rowsD' (rowsB cut)],.gone,.vec [[int a.course,int a.term,int a.grade,int a.campus,int a.credits]] 0 5]
theorem Ev.pre{P:Program}{Γ:Glob}{f:FuncId}{args args2:List D}{h h1 h2:List Blk}{d:D}(az:List Ans){φ:List Prop}(hp:Vi.pre h {t:=args,h:=h,m:=[]} az=some ({t:=args2,h:=h1,m:=[]},[],φ))(hφ:AllP φ)(hE:Ev P Γ f args2 h1 d h2):Ev P Γ f args h d h2:=by
 intro O w l vs R ra
 obtain⟨l2,R2,E2,r2, -⟩:=pre_ok (Γ:=Γ) (X:={O:=O,w:=w,l:=l,h:=h}) _ _ _ _ _ hp hφ {tmps:=vs.toArray,defers:=[]} w ⟨l,R,Ext.refl w l h,by simpa using ra,rfl⟩
 refine CallsIn.mono (hE O w l2 vs R2 (by simpa using r2)) ?_
 rintro e w' ⟨v,d',h',l',rfl,⟨rfl,rfl⟩,R',E',r'⟩
 exact⟨v,_,_,l',rfl,⟨rfl,rfl⟩,R',E2.trans E',r'⟩
theorem dm_frz(l:List AttT)(a:AttT):List.map (fun x=>List.map D.p x) (l.map AttT.row)++[[int a.course,int a.term,int a.grade,int a.campus,int a.credits]]=((l++[a]).map AttT.row).map (fun x=>List.map D.p x):=by simp[AttT.row]
theorem dm_pre{p:ProgT}{l:List AttT}{a:AttT}{us:List UseT}{ms:Int}{cut:List Bool}{d:D}(hE:Ev Tryz.prog Γ0 19 [.agg p.l,rowsD' ((l++[a]).map AttT.row)] (dmG p a us ms cut) d (dmG p a us ms cut)):Ev Tryz.prog Γ0 19 [.agg p.l,.ref (.vec 3 2)] (dmH p l a us ms cut) d (dmG p a us ms cut):=by
 unfold dmH
 rw[dm_frz]
 refine Ev.pre [.st (.frz 3 ((l++[a]).map AttT.row))] (h1:=dmG p a us ms cut) (args2:=[.agg p.l,rowsD' ((l++[a]).map AttT.row)]) rfl ?_ hE
 refine⟨rfl,?_⟩
 first|exact⟨rfl,trivial⟩|exact⟨rfl,rfl,trivial⟩|exact⟨rfl,rfl,rfl,trivial⟩|trivial
noncomputable abbrev dm_out_x0(p:ProgT)(a:AttT):List Blk:=[.var [strD p.nm,int p.number,int p.uses,int p.earn,int p.num,int p.den,rowsD' (List.map ReqT.row p.reqs)],.var [int a.course,int a.term,int a.grade,int a.campus,int a.credits]]
theorem dm_out{p:ProgT}{l:List AttT}{a:AttT}(hsane:∀h,Ev Tryz.prog Γ0 9 [] h (bool true) h)(hfew:∀h,Ev Tryz.prog Γ0 10 [.agg p.l,rowsD' (l.map AttT.row)] h (bool false) h)(h:List Blk):(Ev Tryz.prog Γ0 7 [.agg p.l,rowsD' (l.map AttT.row),ag a.row] h (bool true) h):=by
 exact Ev.castH (Ev.sym0 (P:=Tryz.prog) (Γ:=Γ0) (f:=7) (args:=[D.agg (ProgT.l p),rowsD' (List.map AttT.row l),ag (AttT.row a)]) (d:=bool true) pok (φ:=[Ev Tryz.prog Γ0 9 [] (dm_out_x0 p a) (bool true) (dm_out_x0 p a),(!true)=false,Ev Tryz.prog Γ0 10 [D.agg [strD p.nm,int p.number,int p.uses,int p.earn,int p.num,int p.den,rowsD' (List.map ReqT.row p.reqs)],rowsD' (List.map AttT.row l)] (dm_out_x0 p a) (bool false) (dm_out_x0 p a),(!false)=true]) [.val (bool true),.b false,.val (bool false),.b true] (by kernel_rfl) ⟨(@hsane ((dm_out_x0 p a))),rfl,(@hfew ((dm_out_x0 p a))),rfl,trivial⟩ rfl rfl h) (by rfl) (by rfl)
noncomputable abbrev dm_bad_x0(p:ProgT)(a:AttT):List Blk:=[.var [strD p.nm,int p.number,int p.uses,int p.earn,int p.num,int p.den,rowsD' (List.map ReqT.row p.reqs)],.var [int a.course,int a.term,int a.grade,int a.campus,int a.credits]]
theorem dm_bad{p:ProgT}{l:List AttT}{a:AttT}{e:Int}(hsane:∀h,Ev Tryz.prog Γ0 9 [] h (bool true) h)(hfew:∀h,Ev Tryz.prog Γ0 10 [.agg p.l,rowsD' (l.map AttT.row)] h (bool true) h)
  (haud:∀h,Ev Tryz.prog Γ0 19 [.agg p.l,rowsD' (l.map AttT.row)] h (.tup [.agg [nq,int 0,nq],int e]) h) (he:(e != 0)=true) (h:List Blk):(Ev Tryz.prog Γ0 7 [.agg p.l,rowsD' (l.map AttT.row),ag a.row] h (bool true) h):=by
 exact Ev.castH (Ev.sym0 (P:=Tryz.prog) (Γ:=Γ0) (f:=7) (args:=[D.agg (ProgT.l p),rowsD' (List.map AttT.row l),ag (AttT.row a)]) (d:=bool true) pok (φ:=[Ev Tryz.prog Γ0 9 [] (dm_bad_x0 p a) (bool true) (dm_bad_x0 p a),(!true)=false,Ev Tryz.prog Γ0 10 [D.agg [strD p.nm,int p.number,int p.uses,int p.earn,int p.num,int p.den,rowsD' (List.map ReqT.row p.reqs)],rowsD' (List.map AttT.row l)] (dm_bad_x0 p a) (bool true) (dm_bad_x0 p a),(!true)=false,Ev Tryz.prog Γ0 19 [D.agg [strD p.nm,int p.number,int p.uses,int p.earn,int p.num,int p.den,rowsD' (List.map ReqT.row p.reqs)],rowsD' (List.map AttT.row l)] (dm_bad_x0 p a) (D.tup [D.agg [D.p (Dp.v (Value.slice none 0 0)),int 0,D.p (Dp.v (Value.slice none 0 0))],int e]) (dm_bad_x0 p a),(e != 0)=true]) [.val (bool true),.b false,.val (bool true),.b false,.val (D.tup [D.agg [D.p (Dp.v (Value.slice none 0 0)),int 0,D.p (Dp.v (Value.slice none 0 0))],int e]),.b true] (by kernel_rfl) ⟨(@hsane ((dm_bad_x0 p a))),rfl,(@hfew ((dm_bad_x0 p a))),rfl,(@haud ((dm_bad_x0 p a))),he,trivial⟩ rfl rfl h) (by rfl) (by rfl)
noncomputable abbrev dm_0a_x0(p:ProgT)(a:AttT)(us:List UseT)(us2:List UseT)(ms:Int)(ms2:Int)(ms3:Int)(cut:List Bool)(cut2:List Bool)(cut3:List Bool):List Blk:=[.var [strD p.nm,int p.number,int p.uses,int p.earn,int p.num,int p.den,rowsD' (List.map ReqT.row p.reqs)],.var [int a.course,int a.term,int a.grade,int a.campus,int a.credits],.var [rowsD' (List.map UseT.row us),int ms,rowsD' (rowsB cut)],.gone,.vec [[int a.course,int a.term,int a.grade,int a.campus,int a.credits]] 0 5,.var [rowsD' (List.map UseT.row us2),int ms2,rowsD' (rowsB cut2)],.var [rowsD' [],int ms3,rowsD' (rowsB cut3)],.var [strD p.nm,int p.number,int (IntKind.wrap IntKind.i64 (p.uses+1)),int p.earn,int p.num,int p.den,rowsD' (List.map ReqT.row p.reqs)]]
noncomputable abbrev dm_0a_x1(p:ProgT)(a:AttT)(us:List UseT)(us2:List UseT)(ms:Int)(ms2:Int)(ms3:Int)(cut:List Bool)(cut2:List Bool)(cut3:List Bool):List Blk:=[.var [strD p.nm,int p.number,int p.uses,int p.earn,int p.num,int p.den,rowsD' (List.map ReqT.row p.reqs)],.var [int a.course,int a.term,int a.grade,int a.campus,int a.credits],.var [rowsD' (List.map UseT.row us),int ms,rowsD' (rowsB cut)],.gone,.vec [[int a.course,int a.term,int a.grade,int a.campus,int a.credits]] 0 5,.var [rowsD' (List.map UseT.row us2),int ms2,rowsD' (rowsB cut2)],.var [rowsD' [],int ms3,rowsD' (rowsB cut3)]]
noncomputable abbrev dm_0a_x2(p:ProgT)(a:AttT)(us:List UseT)(us2:List UseT)(ms:Int)(ms2:Int)(cut:List Bool)(cut2:List Bool):List Blk:=[.var [strD p.nm,int p.number,int p.uses,int p.earn,int p.num,int p.den,rowsD' (List.map ReqT.row p.reqs)],.var [int a.course,int a.term,int a.grade,int a.campus,int a.credits],.var [rowsD' (List.map UseT.row us),int ms,rowsD' (rowsB cut)],.gone,.vec [[int a.course,int a.term,int a.grade,int a.campus,int a.credits]] 0 5,.var [rowsD' (List.map UseT.row us2),int ms2,rowsD' (rowsB cut2)]]
noncomputable abbrev dm_0a_x3(p:ProgT)(a:AttT):List Blk:=[.var [strD p.nm,int p.number,int p.uses,int p.earn,int p.num,int p.den,rowsD' (List.map ReqT.row p.reqs)],.var [int a.course,int a.term,int a.grade,int a.campus,int a.credits]]
theorem dm_0a{p:ProgT}{l:List AttT}{a:AttT}{us us2 us4:List UseT}{ms ms2 ms3 ms4 e2 e4:Int}{cut cut2 cut3 cut4:List Bool}(hsane:∀h,Ev Tryz.prog Γ0 9 [] h (bool true) h)(hfew:∀h,Ev Tryz.prog Γ0 10 [.agg p.l,rowsD' (l.map AttT.row)] h (bool true) h)(hpr:p.reqs.length≤1000)(hl:l.length≤1000)
  (haud:∀h,Ev Tryz.prog Γ0 19 [.agg p.l,rowsD' (l.map AttT.row)] h (.tup [.agg [rowsD' (us.map UseT.row),int ms,rowsD' (rowsB cut)],int 0]) h)
  (hb:Ev Tryz.prog Γ0 19 [.agg p.l,.ref (.vec 3 2)] (dmH p l a us ms cut) (.tup [.agg [rowsD' (us2.map UseT.row),int ms2,rowsD' (rowsB cut2)],int e2]) (dmG p a us ms cut))
  (hn:∀h,Ev Tryz.prog Γ0 19 [.agg p.l,nq] h (.tup [.agg [rowsD' [],int ms3,rowsD' (rowsB cut3)],int 0]) h)
  (hc:∀h,Ev Tryz.prog Γ0 19 [.agg [strD p.nm,int p.number,int (IntKind.i64.wrap (p.uses+1)),int p.earn,int p.num,int p.den,rowsD' (p.reqs.map ReqT.row)],rowsD' (l.map AttT.row)] h (.tup [.agg [rowsD' (us4.map UseT.row),int ms4,rowsD' (rowsB cut4)],int e4]) h)
  (h1:(e2==0)=true) (h2:Dd (ms2>ms)=false) (h3:(ms3 != totR p)=false) (h4:Dd (ms>ms3)=false) (h5:Dd (IntKind.i64.wrap (p.uses+1)>4)=true) (h:List Blk):(Ev Tryz.prog Γ0 7 [.agg p.l,rowsD' (l.map AttT.row),ag a.row] h (bool true) h):=by
 exact Ev.castH (Ev.sym0 (P:=Tryz.prog) (Γ:=Γ0) (f:=7) (args:=[D.agg (ProgT.l p),rowsD' (List.map AttT.row l),ag (AttT.row a)]) (d:=bool true) pok (φ:=[Ev Tryz.prog Γ0 9 [] (dm_0a_x3 p a) (bool true) (dm_0a_x3 p a),(!true)=false,Ev Tryz.prog Γ0 10 [D.agg [strD p.nm,int p.number,int p.uses,int p.earn,int p.num,int p.den,rowsD' (List.map ReqT.row p.reqs)],rowsD' (List.map AttT.row l)] (dm_0a_x3 p a) (bool true) (dm_0a_x3 p a),(!true)=false,Ev Tryz.prog Γ0 19 [D.agg [strD p.nm,int p.number,int p.uses,int p.earn,int p.num,int p.den,rowsD' (List.map ReqT.row p.reqs)],rowsD' (List.map AttT.row l)] (dm_0a_x3 p a) (D.tup [D.agg [rowsD' (List.map UseT.row us),int ms,rowsD' (rowsB cut)],int 0]) (dm_0a_x3 p a),(0 != 0)=false,(List.all (List.map (fun x=>List.map D.p x) (List.map AttT.row l)) (rowOk 5)&&roomOk (List.length ([]:List (List D))+List.length (List.map (fun x=>List.map D.p x) (List.map AttT.row l))) 40)=true,(List.all [[int a.course,int a.term,int a.grade,int a.campus,int a.credits]] (rowOk 5)&&roomOk (List.length (List.map (fun x=>List.map D.p x) (List.map AttT.row l))+List.length [[int a.course,int a.term,int a.grade,int a.campus,int a.credits]]) 40)=true,Ev Tryz.prog Γ0 19 [D.agg [strD p.nm,int p.number,int p.uses,int p.earn,int p.num,int p.den,rowsD' (List.map ReqT.row p.reqs)],.ref (.vec 3 2)] [.var [strD p.nm,int p.number,int p.uses,int p.earn,int p.num,int p.den,rowsD' (List.map ReqT.row p.reqs)],.var [int a.course,int a.term,int a.grade,int a.campus,int a.credits],.var [rowsD' (List.map UseT.row us),int ms,rowsD' (rowsB cut)],.vec (List.map (fun x=>List.map D.p x) (List.map AttT.row l)++[[int a.course,int a.term,int a.grade,int a.campus,int a.credits]]) 2 5,.vec [[int a.course,int a.term,int a.grade,int a.campus,int a.credits]] 0 5] (D.tup [D.agg [rowsD' (List.map UseT.row us2),int ms2,rowsD' (rowsB cut2)],int e2]) [.var [strD p.nm,int p.number,int p.uses,int p.earn,int p.num,int p.den,rowsD' (List.map ReqT.row p.reqs)],.var [int a.course,int a.term,int a.grade,int a.campus,int a.credits],.var [rowsD' (List.map UseT.row us),int ms,rowsD' (rowsB cut)],.gone,.vec [[int a.course,int a.term,int a.grade,int a.campus,int a.credits]] 0 5],List.all [] (D.innL 3)=true,List.all [] (D.innL 4)=true,List.all [] (D.innL 4)=true,List.all (List.map (fun x=>List.map D.p x) (List.map AttT.row l)) (D.innL 4)=true,List.all [] (D.innL 4)=true,List.all (List.map (fun x=>List.map D.p x) (List.map AttT.row l)) (D.innL 5)=true,List.all [[int a.course,int a.term,int a.grade,int a.campus,int a.credits]] (D.innL 5)=true,List.all [] (D.innL 5)=true,List.all (List.map (fun x=>List.map D.p x) (List.map AttT.row l)++[[int a.course,int a.term,int a.grade,int a.campus,int a.credits]]) (D.innL 5)=true,List.all [[int a.course,int a.term,int a.grade,int a.campus,int a.credits]] (D.innL 5)=true,List.all [] (D.innL 5)=true,List.all [[int a.course,int a.term,int a.grade,int a.campus,int a.credits]] (D.innL 5)=true,List.all [] (D.innL 5)=true,List.all [[int a.course,int a.term,int a.grade,int a.campus,int a.credits]] (D.innL 6)=true,List.all [] (D.innL 6)=true,List.all [[int a.course,int a.term,int a.grade,int a.campus,int a.credits]] (D.innL 6)=true,List.all [] (D.innL 6)=true,List.all [[int a.course,int a.term,int a.grade,int a.campus,int a.credits]] (D.innL 3)=true,List.all [] (D.innL 4)=true,List.all [[int a.course,int a.term,int a.grade,int a.campus,int a.credits]] (D.innL 4)=true,List.all (List.map (fun x=>List.map D.p x) (List.map AttT.row l)) (D.innL 4)=true,List.all [[int a.course,int a.term,int a.grade,int a.campus,int a.credits]] (D.innL 4)=true,List.all (List.map (fun x=>List.map D.p x) (List.map AttT.row l)) (D.innL 5)=true,List.all [[int a.course,int a.term,int a.grade,int a.campus,int a.credits]] (D.innL 5)=true,List.all [[int a.course,int a.term,int a.grade,int a.campus,int a.credits]] (D.innL 5)=true,List.all (List.map (fun x=>List.map D.p x) (List.map AttT.row l)++[[int a.course,int a.term,int a.grade,int a.campus,int a.credits]]) (D.innL 5)=true,List.all [[int a.course,int a.term,int a.grade,int a.campus,int a.credits]] (D.innL 5)=true,List.all [[int a.course,int a.term,int a.grade,int a.campus,int a.credits]] (D.innL 5)=true,List.all [[int a.course,int a.term,int a.grade,int a.campus,int a.credits]] (D.innL 5)=true,List.all [[int a.course,int a.term,int a.grade,int a.campus,int a.credits]] (D.innL 5)=true,List.all [[int a.course,int a.term,int a.grade,int a.campus,int a.credits]] (D.innL 6)=true,List.all [[int a.course,int a.term,int a.grade,int a.campus,int a.credits]] (D.innL 6)=true,List.all [[int a.course,int a.term,int a.grade,int a.campus,int a.credits]] (D.innL 6)=true,List.all [[int a.course,int a.term,int a.grade,int a.campus,int a.credits]] (D.innL 6)=true,List.all [] (D.innL 4)=true,List.all (List.map (fun x=>List.map D.p x) (List.map AttT.row l)) (D.innL 4)=true,List.all (List.map (fun x=>List.map D.p x) (List.map AttT.row l)) (D.innL 5)=true,List.all [[int a.course,int a.term,int a.grade,int a.campus,int a.credits]] (D.innL 5)=true,List.all (List.map (fun x=>List.map D.p x) (List.map AttT.row l)++[[int a.course,int a.term,int a.grade,int a.campus,int a.credits]]) (D.innL 5)=true,List.all [[int a.course,int a.term,int a.grade,int a.campus,int a.credits]] (D.innL 5)=true,List.all [[int a.course,int a.term,int a.grade,int a.campus,int a.credits]] (D.innL 5)=true,List.all [[int a.course,int a.term,int a.grade,int a.campus,int a.credits]] (D.innL 6)=true,List.all [[int a.course,int a.term,int a.grade,int a.campus,int a.credits]] (D.innL 6)=true,(D.agg [strD p.nm,int p.number,int p.uses,int p.earn,int p.num,int p.den,rowsD' (List.map ReqT.row p.reqs)]:D)=D.agg [strD p.nm,int p.number,int p.uses,int p.earn,int p.num,int p.den,rowsD' (List.map ReqT.row p.reqs)],(D.agg [strD p.nm,int p.number,int p.uses,int p.earn,int p.num,int p.den,rowsD' (List.map ReqT.row p.reqs)]:D)=D.agg [strD p.nm,int p.number,int p.uses,int p.earn,int p.num,int p.den,rowsD' (List.map ReqT.row p.reqs)],(D.agg [strD p.nm,int p.number,int p.uses,int p.earn,int p.num,int p.den,rowsD' (List.map ReqT.row p.reqs)]:D)=D.agg [strD p.nm,int p.number,int p.uses,int p.earn,int p.num,int p.den,rowsD' (List.map ReqT.row p.reqs)],(D.agg [strD p.nm,int p.number,int p.uses,int p.earn,int p.num,int p.den,rowsD' (List.map ReqT.row p.reqs)]:D)=D.agg [strD p.nm,int p.number,int p.uses,int p.earn,int p.num,int p.den,rowsD' (List.map ReqT.row p.reqs)],(D.agg [strD p.nm,int p.number,int p.uses,int p.earn,int p.num,int p.den,rowsD' (List.map ReqT.row p.reqs)]:D)=D.agg [strD p.nm,int p.number,int p.uses,int p.earn,int p.num,int p.den,rowsD' (List.map ReqT.row p.reqs)],(D.agg [int a.course,int a.term,int a.grade,int a.campus,int a.credits]:D)=D.agg [int a.course,int a.term,int a.grade,int a.campus,int a.credits],(D.agg [int a.course,int a.term,int a.grade,int a.campus,int a.credits]:D)=D.agg [int a.course,int a.term,int a.grade,int a.campus,int a.credits],(D.agg [int a.course,int a.term,int a.grade,int a.campus,int a.credits]:D)=D.agg [int a.course,int a.term,int a.grade,int a.campus,int a.credits],Ev Tryz.prog Γ0 19 [D.agg [strD p.nm,int p.number,int p.uses,int p.earn,int p.num,int p.den,rowsD' (List.map ReqT.row p.reqs)],D.p (Dp.v (Value.slice none 0 0))] (dm_0a_x2 p a us us2 ms ms2 cut cut2) (D.tup [D.agg [rowsD' [],int ms3,rowsD' (rowsB cut3)],int 0]) (dm_0a_x2 p a us us2 ms ms2 cut cut2),((e2==0)==true)=true,((e2==0)==true)=true,((e2==0)==true)=true,((e2==0)==true)=true,((e2==0)==true)=true,PickIs (bool (e2==0)) (bool (Dd (ms2>ms))) (bool false) (bool (Dd (ms2>ms))),(Dd (ms2>ms)==false)=true,(Dd (ms2>ms)==false)=true,PickIs (bool (Dd (ms2>ms))) (bool true) (bool (0 != 0)) (bool (0 != 0)),((0 != 0)==false)=true,((0 != 0)==false)=true,((0 != 0)==false)=true,((0 != 0)==false)=true,Ev Tryz.prog Γ0 23 [D.agg [strD p.nm,int p.number,int p.uses,int p.earn,int p.num,int p.den,rowsD' (List.map ReqT.row p.reqs)]] (dm_0a_x1 p a us us2 ms ms2 ms3 cut cut2 cut3) (int (totR p)) (dm_0a_x1 p a us us2 ms ms2 ms3 cut cut2 cut3),((0 != 0)==false)=true,PickIs (bool (0 != 0)) (bool true) (bool (ms3 != totR p)) (bool (ms3 != totR p)),((ms3 != totR p)==false)=true,((ms3 != totR p)==false)=true,((ms3 != totR p)==false)=true,((ms3 != totR p)==false)=true,((ms3 != totR p)==false)=true,PickIs (bool (ms3 != totR p)) (bool true) (bool (Dd (ms>ms3))) (bool (Dd (ms>ms3))),Dd (ms>ms3)=false,Ev Tryz.prog Γ0 19 [D.agg [strD p.nm,int p.number,int (IntKind.wrap IntKind.i64 (p.uses+1)),int p.earn,int p.num,int p.den,rowsD' (List.map ReqT.row p.reqs)],rowsD' (List.map AttT.row l)] (dm_0a_x0 p a us us2 ms ms2 ms3 cut cut2 cut3) (D.tup [D.agg [rowsD' (List.map UseT.row us4),int ms4,rowsD' (rowsB cut4)],int e4]) (dm_0a_x0 p a us us2 ms ms2 ms3 cut cut2 cut3),(Dd (IntKind.wrap IntKind.i64 (p.uses+1)>4)==false)=false,(Dd (IntKind.wrap IntKind.i64 (p.uses+1)>4)==false)=false,(Dd (IntKind.wrap IntKind.i64 (p.uses+1)>4)==false)=false,false=false,false=false,false=false,false=false,false=false,(Dd (IntKind.wrap IntKind.i64 (p.uses+1)>4)==false)=false,PickIs (bool (Dd (IntKind.wrap IntKind.i64 (p.uses+1)>4))) (bool true) (D.p (Dp.v (Value.tuple {toList:=[]}))) (bool true)]) [.val (bool true),.b false,.val (bool true),.b false,.val (D.tup [D.agg [rowsD' (List.map UseT.row us),int ms,rowsD' (rowsB cut)],int 0]),.b false,.lateO,.call (D.tup [D.agg [rowsD' (List.map UseT.row us2),int ms2,rowsD' (rowsB cut2)],int e2]) [.var [strD p.nm,int p.number,int p.uses,int p.earn,int p.num,int p.den,rowsD' (List.map ReqT.row p.reqs)],.var [int a.course,int a.term,int a.grade,int a.campus,int a.credits],.var [rowsD' (List.map UseT.row us),int ms,rowsD' (rowsB cut)],.gone,.vec [[int a.course,int a.term,int a.grade,int a.campus,int a.credits]] 0 5],.val (D.tup [D.agg [rowsD' [],int ms3,rowsD' (rowsB cut3)],int 0]),.g true,.g true,.g true,.g true,.g true,.ov 54 (bool (Dd (ms2>ms))),.g true,.g true,.ov 58 (bool (0 != 0)),.g true,.g true,.g true,.g true,.val (int (totR p)),.g true,.ov 65 (bool (ms3 != totR p)),.g true,.g true,.g true,.g true,.g true,.ov 72 (bool (Dd (ms>ms3))),.b false,.val (D.tup [D.agg [rowsD' (List.map UseT.row us4),int ms4,rowsD' (rowsB cut4)],int e4]),.g false,.g false,.g false,.g false,.g false,.g false,.g false,.g false,.g false,.ov 97 (bool true)] (by kernel_rfl) ⟨(@hsane ((dm_0a_x3 p a))),rfl,(@hfew ((dm_0a_x3 p a))),rfl,(@haud ((dm_0a_x3 p a))),rfl,(by first|assumption|rfl|exact dm_room hl|exact dm_room2 hl|exact dm_inn _ _|exact dm_inn2 _ _ _ _ _ _ _|(simp;omega)),(by first|assumption|rfl|exact dm_room hl|exact dm_room2 hl|exact dm_inn _ _|exact dm_inn2 _ _ _ _ _ _ _|(simp;omega)),(@hb),rfl,rfl,rfl,(by first|assumption|rfl|exact dm_room hl|exact dm_room2 hl|exact dm_inn _ _|exact dm_inn2 _ _ _ _ _ _ _|(simp;omega)),rfl,(by first|assumption|rfl|exact dm_room hl|exact dm_room2 hl|exact dm_inn _ _|exact dm_inn2 _ _ _ _ _ _ _|(simp;omega)),rfl,rfl,(by first|assumption|rfl|exact dm_room hl|exact dm_room2 hl|exact dm_inn _ _|exact dm_inn2 _ _ _ _ _ _ _|(simp;omega)),rfl,rfl,rfl,rfl,rfl,rfl,rfl,rfl,rfl,rfl,rfl,(by first|assumption|rfl|exact dm_room hl|exact dm_room2 hl|exact dm_inn _ _|exact dm_inn2 _ _ _ _ _ _ _|(simp;omega)),rfl,(by first|assumption|rfl|exact dm_room hl|exact dm_room2 hl|exact dm_inn _ _|exact dm_inn2 _ _ _ _ _ _ _|(simp;omega)),rfl,rfl,(by first|assumption|rfl|exact dm_room hl|exact dm_room2 hl|exact dm_inn _ _|exact dm_inn2 _ _ _ _ _ _ _|(simp;omega)),rfl,rfl,rfl,rfl,rfl,rfl,rfl,rfl,rfl,(by first|assumption|rfl|exact dm_room hl|exact dm_room2 hl|exact dm_inn _ _|exact dm_inn2 _ _ _ _ _ _ _|(simp;omega)),(by first|assumption|rfl|exact dm_room hl|exact dm_room2 hl|exact dm_inn _ _|exact dm_inn2 _ _ _ _ _ _ _|(simp;omega)),rfl,(by first|assumption|rfl|exact dm_room hl|exact dm_room2 hl|exact dm_inn _ _|exact dm_inn2 _ _ _ _ _ _ _|(simp;omega)),rfl,rfl,rfl,rfl,rfl,rfl,rfl,rfl,rfl,rfl,rfl,rfl,(@hn ((dm_0a_x2 p a us us2 ms ms2 cut cut2))),(by rw[h1]<;>rfl),(by rw[h1]<;>rfl),(by rw[h1]<;>rfl),(by rw[h1]<;>rfl),(by rw[h1]<;>rfl),(pickIs_t h1 rfl),(by rw[h2]<;>rfl),(by rw[h2]<;>rfl),(pickIs_f h2 rfl),rfl,rfl,rfl,rfl,(@tot_ev (p) (hpr) ((dm_0a_x1 p a us us2 ms ms2 ms3 cut cut2 cut3))),rfl,(by first|assumption|rfl|exact dm_room hl|exact dm_room2 hl|exact dm_inn _ _|exact dm_inn2 _ _ _ _ _ _ _|(simp;omega)),(by rw[h3]<;>rfl),(by rw[h3]<;>rfl),(by rw[h3]<;>rfl),(by rw[h3]<;>rfl),(by rw[h3]<;>rfl),(pickIs_f h3 rfl),h4,(@hc ((dm_0a_x0 p a us us2 ms ms2 ms3 cut cut2 cut3))),(by rw[h5]<;>rfl),(by rw[h5]<;>rfl),(by rw[h5]<;>rfl),rfl,rfl,rfl,rfl,rfl,(by rw[h5]<;>rfl),(pickIs_t h5 rfl),trivial⟩ rfl rfl h) (by first|rfl|(simp only[h5];done)|(simp only[h7];done)) (by rfl)
noncomputable abbrev dm_0b_x0(p:ProgT)(a:AttT)(us:List UseT)(us2:List UseT)(ms:Int)(ms2:Int)(ms3:Int)(cut:List Bool)(cut2:List Bool)(cut3:List Bool):List Blk:=[.var [strD p.nm,int p.number,int p.uses,int p.earn,int p.num,int p.den,rowsD' (List.map ReqT.row p.reqs)],.var [int a.course,int a.term,int a.grade,int a.campus,int a.credits],.var [rowsD' (List.map UseT.row us),int ms,rowsD' (rowsB cut)],.gone,.vec [[int a.course,int a.term,int a.grade,int a.campus,int a.credits]] 0 5,.var [rowsD' (List.map UseT.row us2),int ms2,rowsD' (rowsB cut2)],.var [rowsD' [],int ms3,rowsD' (rowsB cut3)],.var [strD p.nm,int p.number,int (IntKind.wrap IntKind.i64 (p.uses+1)),int p.earn,int p.num,int p.den,rowsD' (List.map ReqT.row p.reqs)]]
noncomputable abbrev dm_0b_x1(p:ProgT)(a:AttT)(us:List UseT)(us2:List UseT)(ms:Int)(ms2:Int)(ms3:Int)(cut:List Bool)(cut2:List Bool)(cut3:List Bool):List Blk:=[.var [strD p.nm,int p.number,int p.uses,int p.earn,int p.num,int p.den,rowsD' (List.map ReqT.row p.reqs)],.var [int a.course,int a.term,int a.grade,int a.campus,int a.credits],.var [rowsD' (List.map UseT.row us),int ms,rowsD' (rowsB cut)],.gone,.vec [[int a.course,int a.term,int a.grade,int a.campus,int a.credits]] 0 5,.var [rowsD' (List.map UseT.row us2),int ms2,rowsD' (rowsB cut2)],.var [rowsD' [],int ms3,rowsD' (rowsB cut3)]]
noncomputable abbrev dm_0b_x2(p:ProgT)(a:AttT)(us:List UseT)(us2:List UseT)(ms:Int)(ms2:Int)(cut:List Bool)(cut2:List Bool):List Blk:=[.var [strD p.nm,int p.number,int p.uses,int p.earn,int p.num,int p.den,rowsD' (List.map ReqT.row p.reqs)],.var [int a.course,int a.term,int a.grade,int a.campus,int a.credits],.var [rowsD' (List.map UseT.row us),int ms,rowsD' (rowsB cut)],.gone,.vec [[int a.course,int a.term,int a.grade,int a.campus,int a.credits]] 0 5,.var [rowsD' (List.map UseT.row us2),int ms2,rowsD' (rowsB cut2)]]
noncomputable abbrev dm_0b_x3(p:ProgT)(a:AttT):List Blk:=[.var [strD p.nm,int p.number,int p.uses,int p.earn,int p.num,int p.den,rowsD' (List.map ReqT.row p.reqs)],.var [int a.course,int a.term,int a.grade,int a.campus,int a.credits]]
theorem dm_0b{p:ProgT}{l:List AttT}{a:AttT}{us us2 us4:List UseT}{ms ms2 ms3 ms4 e2 e4:Int}{cut cut2 cut3 cut4:List Bool}(hsane:∀h,Ev Tryz.prog Γ0 9 [] h (bool true) h)(hfew:∀h,Ev Tryz.prog Γ0 10 [.agg p.l,rowsD' (l.map AttT.row)] h (bool true) h)(hpr:p.reqs.length≤1000)(hl:l.length≤1000)
  (haud:∀h,Ev Tryz.prog Γ0 19 [.agg p.l,rowsD' (l.map AttT.row)] h (.tup [.agg [rowsD' (us.map UseT.row),int ms,rowsD' (rowsB cut)],int 0]) h)
  (hb:Ev Tryz.prog Γ0 19 [.agg p.l,.ref (.vec 3 2)] (dmH p l a us ms cut) (.tup [.agg [rowsD' (us2.map UseT.row),int ms2,rowsD' (rowsB cut2)],int e2]) (dmG p a us ms cut))
  (hn:∀h,Ev Tryz.prog Γ0 19 [.agg p.l,nq] h (.tup [.agg [rowsD' [],int ms3,rowsD' (rowsB cut3)],int 0]) h)
  (hc:∀h,Ev Tryz.prog Γ0 19 [.agg [strD p.nm,int p.number,int (IntKind.i64.wrap (p.uses+1)),int p.earn,int p.num,int p.den,rowsD' (p.reqs.map ReqT.row)],rowsD' (l.map AttT.row)] h (.tup [.agg [rowsD' (us4.map UseT.row),int ms4,rowsD' (rowsB cut4)],int e4]) h)
  (h1:(e2==0)=true) (h2:Dd (ms2>ms)=false) (h3:(ms3 != totR p)=false) (h4:Dd (ms>ms3)=false) (h5:Dd (IntKind.i64.wrap (p.uses+1)>4)=false) (h6:(e4==0)=true) (h7:Dd (ms4≤ms)=true) (h:List Blk):(Ev Tryz.prog Γ0 7 [.agg p.l,rowsD' (l.map AttT.row),ag a.row] h (bool true) h):=by
 exact Ev.castH (Ev.sym0 (P:=Tryz.prog) (Γ:=Γ0) (f:=7) (args:=[D.agg (ProgT.l p),rowsD' (List.map AttT.row l),ag (AttT.row a)]) (d:=bool (Dd (ms4≤ms))) pok (φ:=[Ev Tryz.prog Γ0 9 [] (dm_0b_x3 p a) (bool true) (dm_0b_x3 p a),(!true)=false,Ev Tryz.prog Γ0 10 [D.agg [strD p.nm,int p.number,int p.uses,int p.earn,int p.num,int p.den,rowsD' (List.map ReqT.row p.reqs)],rowsD' (List.map AttT.row l)] (dm_0b_x3 p a) (bool true) (dm_0b_x3 p a),(!true)=false,Ev Tryz.prog Γ0 19 [D.agg [strD p.nm,int p.number,int p.uses,int p.earn,int p.num,int p.den,rowsD' (List.map ReqT.row p.reqs)],rowsD' (List.map AttT.row l)] (dm_0b_x3 p a) (D.tup [D.agg [rowsD' (List.map UseT.row us),int ms,rowsD' (rowsB cut)],int 0]) (dm_0b_x3 p a),(0 != 0)=false,(List.all (List.map (fun x=>List.map D.p x) (List.map AttT.row l)) (rowOk 5)&&roomOk (List.length ([]:List (List D))+List.length (List.map (fun x=>List.map D.p x) (List.map AttT.row l))) 40)=true,(List.all [[int a.course,int a.term,int a.grade,int a.campus,int a.credits]] (rowOk 5)&&roomOk (List.length (List.map (fun x=>List.map D.p x) (List.map AttT.row l))+List.length [[int a.course,int a.term,int a.grade,int a.campus,int a.credits]]) 40)=true,Ev Tryz.prog Γ0 19 [D.agg [strD p.nm,int p.number,int p.uses,int p.earn,int p.num,int p.den,rowsD' (List.map ReqT.row p.reqs)],.ref (.vec 3 2)] [.var [strD p.nm,int p.number,int p.uses,int p.earn,int p.num,int p.den,rowsD' (List.map ReqT.row p.reqs)],.var [int a.course,int a.term,int a.grade,int a.campus,int a.credits],.var [rowsD' (List.map UseT.row us),int ms,rowsD' (rowsB cut)],.vec (List.map (fun x=>List.map D.p x) (List.map AttT.row l)++[[int a.course,int a.term,int a.grade,int a.campus,int a.credits]]) 2 5,.vec [[int a.course,int a.term,int a.grade,int a.campus,int a.credits]] 0 5] (D.tup [D.agg [rowsD' (List.map UseT.row us2),int ms2,rowsD' (rowsB cut2)],int e2]) [.var [strD p.nm,int p.number,int p.uses,int p.earn,int p.num,int p.den,rowsD' (List.map ReqT.row p.reqs)],.var [int a.course,int a.term,int a.grade,int a.campus,int a.credits],.var [rowsD' (List.map UseT.row us),int ms,rowsD' (rowsB cut)],.gone,.vec [[int a.course,int a.term,int a.grade,int a.campus,int a.credits]] 0 5],List.all [] (D.innL 3)=true,List.all [] (D.innL 4)=true,List.all [] (D.innL 4)=true,List.all (List.map (fun x=>List.map D.p x) (List.map AttT.row l)) (D.innL 4)=true,List.all [] (D.innL 4)=true,List.all (List.map (fun x=>List.map D.p x) (List.map AttT.row l)) (D.innL 5)=true,List.all [[int a.course,int a.term,int a.grade,int a.campus,int a.credits]] (D.innL 5)=true,List.all [] (D.innL 5)=true,List.all (List.map (fun x=>List.map D.p x) (List.map AttT.row l)++[[int a.course,int a.term,int a.grade,int a.campus,int a.credits]]) (D.innL 5)=true,List.all [[int a.course,int a.term,int a.grade,int a.campus,int a.credits]] (D.innL 5)=true,List.all [] (D.innL 5)=true,List.all [[int a.course,int a.term,int a.grade,int a.campus,int a.credits]] (D.innL 5)=true,List.all [] (D.innL 5)=true,List.all [[int a.course,int a.term,int a.grade,int a.campus,int a.credits]] (D.innL 6)=true,List.all [] (D.innL 6)=true,List.all [[int a.course,int a.term,int a.grade,int a.campus,int a.credits]] (D.innL 6)=true,List.all [] (D.innL 6)=true,List.all [[int a.course,int a.term,int a.grade,int a.campus,int a.credits]] (D.innL 3)=true,List.all [] (D.innL 4)=true,List.all [[int a.course,int a.term,int a.grade,int a.campus,int a.credits]] (D.innL 4)=true,List.all (List.map (fun x=>List.map D.p x) (List.map AttT.row l)) (D.innL 4)=true,List.all [[int a.course,int a.term,int a.grade,int a.campus,int a.credits]] (D.innL 4)=true,List.all (List.map (fun x=>List.map D.p x) (List.map AttT.row l)) (D.innL 5)=true,List.all [[int a.course,int a.term,int a.grade,int a.campus,int a.credits]] (D.innL 5)=true,List.all [[int a.course,int a.term,int a.grade,int a.campus,int a.credits]] (D.innL 5)=true,List.all (List.map (fun x=>List.map D.p x) (List.map AttT.row l)++[[int a.course,int a.term,int a.grade,int a.campus,int a.credits]]) (D.innL 5)=true,List.all [[int a.course,int a.term,int a.grade,int a.campus,int a.credits]] (D.innL 5)=true,List.all [[int a.course,int a.term,int a.grade,int a.campus,int a.credits]] (D.innL 5)=true,List.all [[int a.course,int a.term,int a.grade,int a.campus,int a.credits]] (D.innL 5)=true,List.all [[int a.course,int a.term,int a.grade,int a.campus,int a.credits]] (D.innL 5)=true,List.all [[int a.course,int a.term,int a.grade,int a.campus,int a.credits]] (D.innL 6)=true,List.all [[int a.course,int a.term,int a.grade,int a.campus,int a.credits]] (D.innL 6)=true,List.all [[int a.course,int a.term,int a.grade,int a.campus,int a.credits]] (D.innL 6)=true,List.all [[int a.course,int a.term,int a.grade,int a.campus,int a.credits]] (D.innL 6)=true,List.all [] (D.innL 4)=true,List.all (List.map (fun x=>List.map D.p x) (List.map AttT.row l)) (D.innL 4)=true,List.all (List.map (fun x=>List.map D.p x) (List.map AttT.row l)) (D.innL 5)=true,List.all [[int a.course,int a.term,int a.grade,int a.campus,int a.credits]] (D.innL 5)=true,List.all (List.map (fun x=>List.map D.p x) (List.map AttT.row l)++[[int a.course,int a.term,int a.grade,int a.campus,int a.credits]]) (D.innL 5)=true,List.all [[int a.course,int a.term,int a.grade,int a.campus,int a.credits]] (D.innL 5)=true,List.all [[int a.course,int a.term,int a.grade,int a.campus,int a.credits]] (D.innL 5)=true,List.all [[int a.course,int a.term,int a.grade,int a.campus,int a.credits]] (D.innL 6)=true,List.all [[int a.course,int a.term,int a.grade,int a.campus,int a.credits]] (D.innL 6)=true,(D.agg [strD p.nm,int p.number,int p.uses,int p.earn,int p.num,int p.den,rowsD' (List.map ReqT.row p.reqs)]:D)=D.agg [strD p.nm,int p.number,int p.uses,int p.earn,int p.num,int p.den,rowsD' (List.map ReqT.row p.reqs)],(D.agg [strD p.nm,int p.number,int p.uses,int p.earn,int p.num,int p.den,rowsD' (List.map ReqT.row p.reqs)]:D)=D.agg [strD p.nm,int p.number,int p.uses,int p.earn,int p.num,int p.den,rowsD' (List.map ReqT.row p.reqs)],(D.agg [strD p.nm,int p.number,int p.uses,int p.earn,int p.num,int p.den,rowsD' (List.map ReqT.row p.reqs)]:D)=D.agg [strD p.nm,int p.number,int p.uses,int p.earn,int p.num,int p.den,rowsD' (List.map ReqT.row p.reqs)],(D.agg [strD p.nm,int p.number,int p.uses,int p.earn,int p.num,int p.den,rowsD' (List.map ReqT.row p.reqs)]:D)=D.agg [strD p.nm,int p.number,int p.uses,int p.earn,int p.num,int p.den,rowsD' (List.map ReqT.row p.reqs)],(D.agg [strD p.nm,int p.number,int p.uses,int p.earn,int p.num,int p.den,rowsD' (List.map ReqT.row p.reqs)]:D)=D.agg [strD p.nm,int p.number,int p.uses,int p.earn,int p.num,int p.den,rowsD' (List.map ReqT.row p.reqs)],(D.agg [int a.course,int a.term,int a.grade,int a.campus,int a.credits]:D)=D.agg [int a.course,int a.term,int a.grade,int a.campus,int a.credits],(D.agg [int a.course,int a.term,int a.grade,int a.campus,int a.credits]:D)=D.agg [int a.course,int a.term,int a.grade,int a.campus,int a.credits],(D.agg [int a.course,int a.term,int a.grade,int a.campus,int a.credits]:D)=D.agg [int a.course,int a.term,int a.grade,int a.campus,int a.credits],Ev Tryz.prog Γ0 19 [D.agg [strD p.nm,int p.number,int p.uses,int p.earn,int p.num,int p.den,rowsD' (List.map ReqT.row p.reqs)],D.p (Dp.v (Value.slice none 0 0))] (dm_0b_x2 p a us us2 ms ms2 cut cut2) (D.tup [D.agg [rowsD' [],int ms3,rowsD' (rowsB cut3)],int 0]) (dm_0b_x2 p a us us2 ms ms2 cut cut2),((e2==0)==true)=true,((e2==0)==true)=true,((e2==0)==true)=true,((e2==0)==true)=true,((e2==0)==true)=true,PickIs (bool (e2==0)) (bool (Dd (ms2>ms))) (bool false) (bool (Dd (ms2>ms))),(Dd (ms2>ms)==false)=true,(Dd (ms2>ms)==false)=true,PickIs (bool (Dd (ms2>ms))) (bool true) (bool (0 != 0)) (bool (0 != 0)),((0 != 0)==false)=true,((0 != 0)==false)=true,((0 != 0)==false)=true,((0 != 0)==false)=true,Ev Tryz.prog Γ0 23 [D.agg [strD p.nm,int p.number,int p.uses,int p.earn,int p.num,int p.den,rowsD' (List.map ReqT.row p.reqs)]] (dm_0b_x1 p a us us2 ms ms2 ms3 cut cut2 cut3) (int (totR p)) (dm_0b_x1 p a us us2 ms ms2 ms3 cut cut2 cut3),((0 != 0)==false)=true,PickIs (bool (0 != 0)) (bool true) (bool (ms3 != totR p)) (bool (ms3 != totR p)),((ms3 != totR p)==false)=true,((ms3 != totR p)==false)=true,((ms3 != totR p)==false)=true,((ms3 != totR p)==false)=true,((ms3 != totR p)==false)=true,PickIs (bool (ms3 != totR p)) (bool true) (bool (Dd (ms>ms3))) (bool (Dd (ms>ms3))),Dd (ms>ms3)=false,Ev Tryz.prog Γ0 19 [D.agg [strD p.nm,int p.number,int (IntKind.wrap IntKind.i64 (p.uses+1)),int p.earn,int p.num,int p.den,rowsD' (List.map ReqT.row p.reqs)],rowsD' (List.map AttT.row l)] (dm_0b_x0 p a us us2 ms ms2 ms3 cut cut2 cut3) (D.tup [D.agg [rowsD' (List.map UseT.row us4),int ms4,rowsD' (rowsB cut4)],int e4]) (dm_0b_x0 p a us us2 ms ms2 ms3 cut cut2 cut3),(Dd (IntKind.wrap IntKind.i64 (p.uses+1)>4)==false)=true,(Dd (IntKind.wrap IntKind.i64 (p.uses+1)>4)==false)=true,(Dd (IntKind.wrap IntKind.i64 (p.uses+1)>4)==false)=true,((e4==0)==true)=true,((e4==0)==true)=true,((e4==0)==true)=true,((e4==0)==true)=true,((e4==0)==true)=true,(Dd (IntKind.wrap IntKind.i64 (p.uses+1)>4)==false)=true,PickIs (bool (e4==0)) (bool (Dd (ms4≤ms))) (bool false) (bool (Dd (ms4≤ms))),PickIs (bool (Dd (IntKind.wrap IntKind.i64 (p.uses+1)>4))) (bool true) (bool (Dd (ms4≤ms))) (bool (Dd (ms4≤ms)))]) [.val (bool true),.b false,.val (bool true),.b false,.val (D.tup [D.agg [rowsD' (List.map UseT.row us),int ms,rowsD' (rowsB cut)],int 0]),.b false,.lateO,.call (D.tup [D.agg [rowsD' (List.map UseT.row us2),int ms2,rowsD' (rowsB cut2)],int e2]) [.var [strD p.nm,int p.number,int p.uses,int p.earn,int p.num,int p.den,rowsD' (List.map ReqT.row p.reqs)],.var [int a.course,int a.term,int a.grade,int a.campus,int a.credits],.var [rowsD' (List.map UseT.row us),int ms,rowsD' (rowsB cut)],.gone,.vec [[int a.course,int a.term,int a.grade,int a.campus,int a.credits]] 0 5],.val (D.tup [D.agg [rowsD' [],int ms3,rowsD' (rowsB cut3)],int 0]),.g true,.g true,.g true,.g true,.g true,.ov 54 (bool (Dd (ms2>ms))),.g true,.g true,.ov 58 (bool (0 != 0)),.g true,.g true,.g true,.g true,.val (int (totR p)),.g true,.ov 65 (bool (ms3 != totR p)),.g true,.g true,.g true,.g true,.g true,.ov 72 (bool (Dd (ms>ms3))),.b false,.val (D.tup [D.agg [rowsD' (List.map UseT.row us4),int ms4,rowsD' (rowsB cut4)],int e4]),.g true,.g true,.g true,.g true,.g true,.g true,.g true,.g true,.g true,.ov 96 (bool (Dd (ms4≤ms))),.ov 97 (bool (Dd (ms4≤ms)))] (by kernel_rfl) ⟨(@hsane ((dm_0b_x3 p a))),rfl,(@hfew ((dm_0b_x3 p a))),rfl,(@haud ((dm_0b_x3 p a))),rfl,(by first|assumption|rfl|exact dm_room hl|exact dm_room2 hl|exact dm_inn _ _|exact dm_inn2 _ _ _ _ _ _ _|(simp;omega)),(by first|assumption|rfl|exact dm_room hl|exact dm_room2 hl|exact dm_inn _ _|exact dm_inn2 _ _ _ _ _ _ _|(simp;omega)),(@hb),rfl,rfl,rfl,(by first|assumption|rfl|exact dm_room hl|exact dm_room2 hl|exact dm_inn _ _|exact dm_inn2 _ _ _ _ _ _ _|(simp;omega)),rfl,(by first|assumption|rfl|exact dm_room hl|exact dm_room2 hl|exact dm_inn _ _|exact dm_inn2 _ _ _ _ _ _ _|(simp;omega)),rfl,rfl,(by first|assumption|rfl|exact dm_room hl|exact dm_room2 hl|exact dm_inn _ _|exact dm_inn2 _ _ _ _ _ _ _|(simp;omega)),rfl,rfl,rfl,rfl,rfl,rfl,rfl,rfl,rfl,rfl,rfl,(by first|assumption|rfl|exact dm_room hl|exact dm_room2 hl|exact dm_inn _ _|exact dm_inn2 _ _ _ _ _ _ _|(simp;omega)),rfl,(by first|assumption|rfl|exact dm_room hl|exact dm_room2 hl|exact dm_inn _ _|exact dm_inn2 _ _ _ _ _ _ _|(simp;omega)),rfl,rfl,(by first|assumption|rfl|exact dm_room hl|exact dm_room2 hl|exact dm_inn _ _|exact dm_inn2 _ _ _ _ _ _ _|(simp;omega)),rfl,rfl,rfl,rfl,rfl,rfl,rfl,rfl,rfl,(by first|assumption|rfl|exact dm_room hl|exact dm_room2 hl|exact dm_inn _ _|exact dm_inn2 _ _ _ _ _ _ _|(simp;omega)),(by first|assumption|rfl|exact dm_room hl|exact dm_room2 hl|exact dm_inn _ _|exact dm_inn2 _ _ _ _ _ _ _|(simp;omega)),rfl,(by first|assumption|rfl|exact dm_room hl|exact dm_room2 hl|exact dm_inn _ _|exact dm_inn2 _ _ _ _ _ _ _|(simp;omega)),rfl,rfl,rfl,rfl,rfl,rfl,rfl,rfl,rfl,rfl,rfl,rfl,(@hn ((dm_0b_x2 p a us us2 ms ms2 cut cut2))),(by rw[h1]<;>rfl),(by rw[h1]<;>rfl),(by rw[h1]<;>rfl),(by rw[h1]<;>rfl),(by rw[h1]<;>rfl),(pickIs_t h1 rfl),(by rw[h2]<;>rfl),(by rw[h2]<;>rfl),(pickIs_f h2 rfl),rfl,rfl,rfl,rfl,(@tot_ev (p) (hpr) ((dm_0b_x1 p a us us2 ms ms2 ms3 cut cut2 cut3))),rfl,(by first|assumption|rfl|exact dm_room hl|exact dm_room2 hl|exact dm_inn _ _|exact dm_inn2 _ _ _ _ _ _ _|(simp;omega)),(by rw[h3]<;>rfl),(by rw[h3]<;>rfl),(by rw[h3]<;>rfl),(by rw[h3]<;>rfl),(by rw[h3]<;>rfl),(pickIs_f h3 rfl),h4,(@hc ((dm_0b_x0 p a us us2 ms ms2 ms3 cut cut2 cut3))),(by rw[h5]<;>rfl),(by rw[h5]<;>rfl),(by rw[h5]<;>rfl),(by rw[h6]<;>rfl),(by rw[h6]<;>rfl),(by rw[h6]<;>rfl),(by rw[h6]<;>rfl),(by rw[h6]<;>rfl),(by rw[h5]<;>rfl),(pickIs_t h6 rfl),(pickIs_f h5 rfl),trivial⟩ rfl rfl h) (by first|rfl|(simp only[h5];done)|(simp only[h7];done)) (by rfl)
noncomputable abbrev dm_1a_x0(p:ProgT)(a:AttT)(us:List UseT)(us2:List UseT)(ms:Int)(ms2:Int)(ms3:Int)(cut:List Bool)(cut2:List Bool)(cut3:List Bool):List Blk:=[.var [strD p.nm,int p.number,int p.uses,int p.earn,int p.num,int p.den,rowsD' (List.map ReqT.row p.reqs)],.var [int a.course,int a.term,int a.grade,int a.campus,int a.credits],.var [rowsD' (List.map UseT.row us),int ms,rowsD' (rowsB cut)],.gone,.vec [[int a.course,int a.term,int a.grade,int a.campus,int a.credits]] 0 5,.var [rowsD' (List.map UseT.row us2),int ms2,rowsD' (rowsB cut2)],.var [rowsD' [],int ms3,rowsD' (rowsB cut3)],.var [strD p.nm,int p.number,int (IntKind.wrap IntKind.i64 (p.uses+1)),int p.earn,int p.num,int p.den,rowsD' (List.map ReqT.row p.reqs)]]
noncomputable abbrev dm_1a_x1(p:ProgT)(a:AttT)(us:List UseT)(us2:List UseT)(ms:Int)(ms2:Int)(ms3:Int)(cut:List Bool)(cut2:List Bool)(cut3:List Bool):List Blk:=[.var [strD p.nm,int p.number,int p.uses,int p.earn,int p.num,int p.den,rowsD' (List.map ReqT.row p.reqs)],.var [int a.course,int a.term,int a.grade,int a.campus,int a.credits],.var [rowsD' (List.map UseT.row us),int ms,rowsD' (rowsB cut)],.gone,.vec [[int a.course,int a.term,int a.grade,int a.campus,int a.credits]] 0 5,.var [rowsD' (List.map UseT.row us2),int ms2,rowsD' (rowsB cut2)],.var [rowsD' [],int ms3,rowsD' (rowsB cut3)]]
noncomputable abbrev dm_1a_x2(p:ProgT)(a:AttT)(us:List UseT)(us2:List UseT)(ms:Int)(ms2:Int)(cut:List Bool)(cut2:List Bool):List Blk:=[.var [strD p.nm,int p.number,int p.uses,int p.earn,int p.num,int p.den,rowsD' (List.map ReqT.row p.reqs)],.var [int a.course,int a.term,int a.grade,int a.campus,int a.credits],.var [rowsD' (List.map UseT.row us),int ms,rowsD' (rowsB cut)],.gone,.vec [[int a.course,int a.term,int a.grade,int a.campus,int a.credits]] 0 5,.var [rowsD' (List.map UseT.row us2),int ms2,rowsD' (rowsB cut2)]]
noncomputable abbrev dm_1a_x3(p:ProgT)(a:AttT):List Blk:=[.var [strD p.nm,int p.number,int p.uses,int p.earn,int p.num,int p.den,rowsD' (List.map ReqT.row p.reqs)],.var [int a.course,int a.term,int a.grade,int a.campus,int a.credits]]
theorem dm_1a{p:ProgT}{l:List AttT}{a:AttT}{us us2 us4:List UseT}{ms ms2 ms3 ms4 e2 e4:Int}{cut cut2 cut3 cut4:List Bool}(hsane:∀h,Ev Tryz.prog Γ0 9 [] h (bool true) h)(hfew:∀h,Ev Tryz.prog Γ0 10 [.agg p.l,rowsD' (l.map AttT.row)] h (bool true) h)(hpr:p.reqs.length≤1000)(hl:l.length≤1000)
  (haud:∀h,Ev Tryz.prog Γ0 19 [.agg p.l,rowsD' (l.map AttT.row)] h (.tup [.agg [rowsD' (us.map UseT.row),int ms,rowsD' (rowsB cut)],int 0]) h)
  (hb:Ev Tryz.prog Γ0 19 [.agg p.l,.ref (.vec 3 2)] (dmH p l a us ms cut) (.tup [.agg [rowsD' (us2.map UseT.row),int ms2,rowsD' (rowsB cut2)],int e2]) (dmG p a us ms cut))
  (hn:∀h,Ev Tryz.prog Γ0 19 [.agg p.l,nq] h (.tup [.agg [rowsD' [],int ms3,rowsD' (rowsB cut3)],int 0]) h)
  (hc:∀h,Ev Tryz.prog Γ0 19 [.agg [strD p.nm,int p.number,int (IntKind.i64.wrap (p.uses+1)),int p.earn,int p.num,int p.den,rowsD' (p.reqs.map ReqT.row)],rowsD' (l.map AttT.row)] h (.tup [.agg [rowsD' (us4.map UseT.row),int ms4,rowsD' (rowsB cut4)],int e4]) h)
  (h1:(e2==0)=false) (h3:(ms3 != totR p)=false) (h4:Dd (ms>ms3)=false) (h5:Dd (IntKind.i64.wrap (p.uses+1)>4)=true) (h:List Blk):(Ev Tryz.prog Γ0 7 [.agg p.l,rowsD' (l.map AttT.row),ag a.row] h (bool true) h):=by
 exact Ev.castH (Ev.sym0 (P:=Tryz.prog) (Γ:=Γ0) (f:=7) (args:=[D.agg (ProgT.l p),rowsD' (List.map AttT.row l),ag (AttT.row a)]) (d:=bool true) pok (φ:=[Ev Tryz.prog Γ0 9 [] (dm_1a_x3 p a) (bool true) (dm_1a_x3 p a),(!true)=false,Ev Tryz.prog Γ0 10 [D.agg [strD p.nm,int p.number,int p.uses,int p.earn,int p.num,int p.den,rowsD' (List.map ReqT.row p.reqs)],rowsD' (List.map AttT.row l)] (dm_1a_x3 p a) (bool true) (dm_1a_x3 p a),(!true)=false,Ev Tryz.prog Γ0 19 [D.agg [strD p.nm,int p.number,int p.uses,int p.earn,int p.num,int p.den,rowsD' (List.map ReqT.row p.reqs)],rowsD' (List.map AttT.row l)] (dm_1a_x3 p a) (D.tup [D.agg [rowsD' (List.map UseT.row us),int ms,rowsD' (rowsB cut)],int 0]) (dm_1a_x3 p a),(0 != 0)=false,(List.all (List.map (fun x=>List.map D.p x) (List.map AttT.row l)) (rowOk 5)&&roomOk (List.length ([]:List (List D))+List.length (List.map (fun x=>List.map D.p x) (List.map AttT.row l))) 40)=true,(List.all [[int a.course,int a.term,int a.grade,int a.campus,int a.credits]] (rowOk 5)&&roomOk (List.length (List.map (fun x=>List.map D.p x) (List.map AttT.row l))+List.length [[int a.course,int a.term,int a.grade,int a.campus,int a.credits]]) 40)=true,Ev Tryz.prog Γ0 19 [D.agg [strD p.nm,int p.number,int p.uses,int p.earn,int p.num,int p.den,rowsD' (List.map ReqT.row p.reqs)],.ref (.vec 3 2)] [.var [strD p.nm,int p.number,int p.uses,int p.earn,int p.num,int p.den,rowsD' (List.map ReqT.row p.reqs)],.var [int a.course,int a.term,int a.grade,int a.campus,int a.credits],.var [rowsD' (List.map UseT.row us),int ms,rowsD' (rowsB cut)],.vec (List.map (fun x=>List.map D.p x) (List.map AttT.row l)++[[int a.course,int a.term,int a.grade,int a.campus,int a.credits]]) 2 5,.vec [[int a.course,int a.term,int a.grade,int a.campus,int a.credits]] 0 5] (D.tup [D.agg [rowsD' (List.map UseT.row us2),int ms2,rowsD' (rowsB cut2)],int e2]) [.var [strD p.nm,int p.number,int p.uses,int p.earn,int p.num,int p.den,rowsD' (List.map ReqT.row p.reqs)],.var [int a.course,int a.term,int a.grade,int a.campus,int a.credits],.var [rowsD' (List.map UseT.row us),int ms,rowsD' (rowsB cut)],.gone,.vec [[int a.course,int a.term,int a.grade,int a.campus,int a.credits]] 0 5],List.all [] (D.innL 3)=true,List.all [] (D.innL 4)=true,List.all [] (D.innL 4)=true,List.all (List.map (fun x=>List.map D.p x) (List.map AttT.row l)) (D.innL 4)=true,List.all [] (D.innL 4)=true,List.all (List.map (fun x=>List.map D.p x) (List.map AttT.row l)) (D.innL 5)=true,List.all [[int a.course,int a.term,int a.grade,int a.campus,int a.credits]] (D.innL 5)=true,List.all [] (D.innL 5)=true,List.all (List.map (fun x=>List.map D.p x) (List.map AttT.row l)++[[int a.course,int a.term,int a.grade,int a.campus,int a.credits]]) (D.innL 5)=true,List.all [[int a.course,int a.term,int a.grade,int a.campus,int a.credits]] (D.innL 5)=true,List.all [] (D.innL 5)=true,List.all [[int a.course,int a.term,int a.grade,int a.campus,int a.credits]] (D.innL 5)=true,List.all [] (D.innL 5)=true,List.all [[int a.course,int a.term,int a.grade,int a.campus,int a.credits]] (D.innL 6)=true,List.all [] (D.innL 6)=true,List.all [[int a.course,int a.term,int a.grade,int a.campus,int a.credits]] (D.innL 6)=true,List.all [] (D.innL 6)=true,List.all [[int a.course,int a.term,int a.grade,int a.campus,int a.credits]] (D.innL 3)=true,List.all [] (D.innL 4)=true,List.all [[int a.course,int a.term,int a.grade,int a.campus,int a.credits]] (D.innL 4)=true,List.all (List.map (fun x=>List.map D.p x) (List.map AttT.row l)) (D.innL 4)=true,List.all [[int a.course,int a.term,int a.grade,int a.campus,int a.credits]] (D.innL 4)=true,List.all (List.map (fun x=>List.map D.p x) (List.map AttT.row l)) (D.innL 5)=true,List.all [[int a.course,int a.term,int a.grade,int a.campus,int a.credits]] (D.innL 5)=true,List.all [[int a.course,int a.term,int a.grade,int a.campus,int a.credits]] (D.innL 5)=true,List.all (List.map (fun x=>List.map D.p x) (List.map AttT.row l)++[[int a.course,int a.term,int a.grade,int a.campus,int a.credits]]) (D.innL 5)=true,List.all [[int a.course,int a.term,int a.grade,int a.campus,int a.credits]] (D.innL 5)=true,List.all [[int a.course,int a.term,int a.grade,int a.campus,int a.credits]] (D.innL 5)=true,List.all [[int a.course,int a.term,int a.grade,int a.campus,int a.credits]] (D.innL 5)=true,List.all [[int a.course,int a.term,int a.grade,int a.campus,int a.credits]] (D.innL 5)=true,List.all [[int a.course,int a.term,int a.grade,int a.campus,int a.credits]] (D.innL 6)=true,List.all [[int a.course,int a.term,int a.grade,int a.campus,int a.credits]] (D.innL 6)=true,List.all [[int a.course,int a.term,int a.grade,int a.campus,int a.credits]] (D.innL 6)=true,List.all [[int a.course,int a.term,int a.grade,int a.campus,int a.credits]] (D.innL 6)=true,List.all [] (D.innL 4)=true,List.all (List.map (fun x=>List.map D.p x) (List.map AttT.row l)) (D.innL 4)=true,List.all (List.map (fun x=>List.map D.p x) (List.map AttT.row l)) (D.innL 5)=true,List.all [[int a.course,int a.term,int a.grade,int a.campus,int a.credits]] (D.innL 5)=true,List.all (List.map (fun x=>List.map D.p x) (List.map AttT.row l)++[[int a.course,int a.term,int a.grade,int a.campus,int a.credits]]) (D.innL 5)=true,List.all [[int a.course,int a.term,int a.grade,int a.campus,int a.credits]] (D.innL 5)=true,List.all [[int a.course,int a.term,int a.grade,int a.campus,int a.credits]] (D.innL 5)=true,List.all [[int a.course,int a.term,int a.grade,int a.campus,int a.credits]] (D.innL 6)=true,List.all [[int a.course,int a.term,int a.grade,int a.campus,int a.credits]] (D.innL 6)=true,(D.agg [strD p.nm,int p.number,int p.uses,int p.earn,int p.num,int p.den,rowsD' (List.map ReqT.row p.reqs)]:D)=D.agg [strD p.nm,int p.number,int p.uses,int p.earn,int p.num,int p.den,rowsD' (List.map ReqT.row p.reqs)],(D.agg [strD p.nm,int p.number,int p.uses,int p.earn,int p.num,int p.den,rowsD' (List.map ReqT.row p.reqs)]:D)=D.agg [strD p.nm,int p.number,int p.uses,int p.earn,int p.num,int p.den,rowsD' (List.map ReqT.row p.reqs)],(D.agg [strD p.nm,int p.number,int p.uses,int p.earn,int p.num,int p.den,rowsD' (List.map ReqT.row p.reqs)]:D)=D.agg [strD p.nm,int p.number,int p.uses,int p.earn,int p.num,int p.den,rowsD' (List.map ReqT.row p.reqs)],(D.agg [strD p.nm,int p.number,int p.uses,int p.earn,int p.num,int p.den,rowsD' (List.map ReqT.row p.reqs)]:D)=D.agg [strD p.nm,int p.number,int p.uses,int p.earn,int p.num,int p.den,rowsD' (List.map ReqT.row p.reqs)],(D.agg [strD p.nm,int p.number,int p.uses,int p.earn,int p.num,int p.den,rowsD' (List.map ReqT.row p.reqs)]:D)=D.agg [strD p.nm,int p.number,int p.uses,int p.earn,int p.num,int p.den,rowsD' (List.map ReqT.row p.reqs)],(D.agg [int a.course,int a.term,int a.grade,int a.campus,int a.credits]:D)=D.agg [int a.course,int a.term,int a.grade,int a.campus,int a.credits],(D.agg [int a.course,int a.term,int a.grade,int a.campus,int a.credits]:D)=D.agg [int a.course,int a.term,int a.grade,int a.campus,int a.credits],(D.agg [int a.course,int a.term,int a.grade,int a.campus,int a.credits]:D)=D.agg [int a.course,int a.term,int a.grade,int a.campus,int a.credits],Ev Tryz.prog Γ0 19 [D.agg [strD p.nm,int p.number,int p.uses,int p.earn,int p.num,int p.den,rowsD' (List.map ReqT.row p.reqs)],D.p (Dp.v (Value.slice none 0 0))] (dm_1a_x2 p a us us2 ms ms2 cut cut2) (D.tup [D.agg [rowsD' [],int ms3,rowsD' (rowsB cut3)],int 0]) (dm_1a_x2 p a us us2 ms ms2 cut cut2),((e2==0)==true)=false,((e2==0)==true)=false,((e2==0)==true)=false,((e2==0)==true)=false,((e2==0)==true)=false,PickIs (bool (e2==0)) (D.p (Dp.v (Value.tuple {toList:=[]}))) (bool false) (bool false),(false==false)=true,(false==false)=true,PickIs (bool false) (bool true) (bool (0 != 0)) (bool (0 != 0)),((0 != 0)==false)=true,((0 != 0)==false)=true,((0 != 0)==false)=true,((0 != 0)==false)=true,Ev Tryz.prog Γ0 23 [D.agg [strD p.nm,int p.number,int p.uses,int p.earn,int p.num,int p.den,rowsD' (List.map ReqT.row p.reqs)]] (dm_1a_x1 p a us us2 ms ms2 ms3 cut cut2 cut3) (int (totR p)) (dm_1a_x1 p a us us2 ms ms2 ms3 cut cut2 cut3),((0 != 0)==false)=true,PickIs (bool (0 != 0)) (bool true) (bool (ms3 != totR p)) (bool (ms3 != totR p)),((ms3 != totR p)==false)=true,((ms3 != totR p)==false)=true,((ms3 != totR p)==false)=true,((ms3 != totR p)==false)=true,((ms3 != totR p)==false)=true,PickIs (bool (ms3 != totR p)) (bool true) (bool (Dd (ms>ms3))) (bool (Dd (ms>ms3))),Dd (ms>ms3)=false,Ev Tryz.prog Γ0 19 [D.agg [strD p.nm,int p.number,int (IntKind.wrap IntKind.i64 (p.uses+1)),int p.earn,int p.num,int p.den,rowsD' (List.map ReqT.row p.reqs)],rowsD' (List.map AttT.row l)] (dm_1a_x0 p a us us2 ms ms2 ms3 cut cut2 cut3) (D.tup [D.agg [rowsD' (List.map UseT.row us4),int ms4,rowsD' (rowsB cut4)],int e4]) (dm_1a_x0 p a us us2 ms ms2 ms3 cut cut2 cut3),(Dd (IntKind.wrap IntKind.i64 (p.uses+1)>4)==false)=false,(Dd (IntKind.wrap IntKind.i64 (p.uses+1)>4)==false)=false,(Dd (IntKind.wrap IntKind.i64 (p.uses+1)>4)==false)=false,false=false,false=false,false=false,false=false,false=false,(Dd (IntKind.wrap IntKind.i64 (p.uses+1)>4)==false)=false,PickIs (bool (Dd (IntKind.wrap IntKind.i64 (p.uses+1)>4))) (bool true) (D.p (Dp.v (Value.tuple {toList:=[]}))) (bool true)]) [.val (bool true),.b false,.val (bool true),.b false,.val (D.tup [D.agg [rowsD' (List.map UseT.row us),int ms,rowsD' (rowsB cut)],int 0]),.b false,.lateO,.call (D.tup [D.agg [rowsD' (List.map UseT.row us2),int ms2,rowsD' (rowsB cut2)],int e2]) [.var [strD p.nm,int p.number,int p.uses,int p.earn,int p.num,int p.den,rowsD' (List.map ReqT.row p.reqs)],.var [int a.course,int a.term,int a.grade,int a.campus,int a.credits],.var [rowsD' (List.map UseT.row us),int ms,rowsD' (rowsB cut)],.gone,.vec [[int a.course,int a.term,int a.grade,int a.campus,int a.credits]] 0 5],.val (D.tup [D.agg [rowsD' [],int ms3,rowsD' (rowsB cut3)],int 0]),.g false,.g false,.g false,.g false,.g false,.ov 54 (bool false),.g true,.g true,.ov 58 (bool (0 != 0)),.g true,.g true,.g true,.g true,.val (int (totR p)),.g true,.ov 65 (bool (ms3 != totR p)),.g true,.g true,.g true,.g true,.g true,.ov 72 (bool (Dd (ms>ms3))),.b false,.val (D.tup [D.agg [rowsD' (List.map UseT.row us4),int ms4,rowsD' (rowsB cut4)],int e4]),.g false,.g false,.g false,.g false,.g false,.g false,.g false,.g false,.g false,.ov 97 (bool true)] (by kernel_rfl) ⟨(@hsane ((dm_1a_x3 p a))),rfl,(@hfew ((dm_1a_x3 p a))),rfl,(@haud ((dm_1a_x3 p a))),rfl,(by first|assumption|rfl|exact dm_room hl|exact dm_room2 hl|exact dm_inn _ _|exact dm_inn2 _ _ _ _ _ _ _|(simp;omega)),(by first|assumption|rfl|exact dm_room hl|exact dm_room2 hl|exact dm_inn _ _|exact dm_inn2 _ _ _ _ _ _ _|(simp;omega)),(@hb),rfl,rfl,rfl,(by first|assumption|rfl|exact dm_room hl|exact dm_room2 hl|exact dm_inn _ _|exact dm_inn2 _ _ _ _ _ _ _|(simp;omega)),rfl,(by first|assumption|rfl|exact dm_room hl|exact dm_room2 hl|exact dm_inn _ _|exact dm_inn2 _ _ _ _ _ _ _|(simp;omega)),rfl,rfl,(by first|assumption|rfl|exact dm_room hl|exact dm_room2 hl|exact dm_inn _ _|exact dm_inn2 _ _ _ _ _ _ _|(simp;omega)),rfl,rfl,rfl,rfl,rfl,rfl,rfl,rfl,rfl,rfl,rfl,(by first|assumption|rfl|exact dm_room hl|exact dm_room2 hl|exact dm_inn _ _|exact dm_inn2 _ _ _ _ _ _ _|(simp;omega)),rfl,(by first|assumption|rfl|exact dm_room hl|exact dm_room2 hl|exact dm_inn _ _|exact dm_inn2 _ _ _ _ _ _ _|(simp;omega)),rfl,rfl,(by first|assumption|rfl|exact dm_room hl|exact dm_room2 hl|exact dm_inn _ _|exact dm_inn2 _ _ _ _ _ _ _|(simp;omega)),rfl,rfl,rfl,rfl,rfl,rfl,rfl,rfl,rfl,(by first|assumption|rfl|exact dm_room hl|exact dm_room2 hl|exact dm_inn _ _|exact dm_inn2 _ _ _ _ _ _ _|(simp;omega)),(by first|assumption|rfl|exact dm_room hl|exact dm_room2 hl|exact dm_inn _ _|exact dm_inn2 _ _ _ _ _ _ _|(simp;omega)),rfl,(by first|assumption|rfl|exact dm_room hl|exact dm_room2 hl|exact dm_inn _ _|exact dm_inn2 _ _ _ _ _ _ _|(simp;omega)),rfl,rfl,rfl,rfl,rfl,rfl,rfl,rfl,rfl,rfl,rfl,rfl,(@hn ((dm_1a_x2 p a us us2 ms ms2 cut cut2))),(by rw[h1]<;>rfl),(by rw[h1]<;>rfl),(by rw[h1]<;>rfl),(by rw[h1]<;>rfl),(by rw[h1]<;>rfl),(pickIs_f h1 rfl),rfl,rfl,(pickIs_f rfl rfl),rfl,rfl,rfl,rfl,(@tot_ev (p) (hpr) ((dm_1a_x1 p a us us2 ms ms2 ms3 cut cut2 cut3))),rfl,(by first|assumption|rfl|exact dm_room hl|exact dm_room2 hl|exact dm_inn _ _|exact dm_inn2 _ _ _ _ _ _ _|(simp;omega)),(by rw[h3]<;>rfl),(by rw[h3]<;>rfl),(by rw[h3]<;>rfl),(by rw[h3]<;>rfl),(by rw[h3]<;>rfl),(pickIs_f h3 rfl),h4,(@hc ((dm_1a_x0 p a us us2 ms ms2 ms3 cut cut2 cut3))),(by rw[h5]<;>rfl),(by rw[h5]<;>rfl),(by rw[h5]<;>rfl),rfl,rfl,rfl,rfl,rfl,(by rw[h5]<;>rfl),(pickIs_t h5 rfl),trivial⟩ rfl rfl h) (by first|rfl|(simp only[h5];done)|(simp only[h7];done)) (by rfl)
noncomputable abbrev dm_1b_x0(p:ProgT)(a:AttT)(us:List UseT)(us2:List UseT)(ms:Int)(ms2:Int)(ms3:Int)(cut:List Bool)(cut2:List Bool)(cut3:List Bool):List Blk:=[.var [strD p.nm,int p.number,int p.uses,int p.earn,int p.num,int p.den,rowsD' (List.map ReqT.row p.reqs)],.var [int a.course,int a.term,int a.grade,int a.campus,int a.credits],.var [rowsD' (List.map UseT.row us),int ms,rowsD' (rowsB cut)],.gone,.vec [[int a.course,int a.term,int a.grade,int a.campus,int a.credits]] 0 5,.var [rowsD' (List.map UseT.row us2),int ms2,rowsD' (rowsB cut2)],.var [rowsD' [],int ms3,rowsD' (rowsB cut3)],.var [strD p.nm,int p.number,int (IntKind.wrap IntKind.i64 (p.uses+1)),int p.earn,int p.num,int p.den,rowsD' (List.map ReqT.row p.reqs)]]
noncomputable abbrev dm_1b_x1(p:ProgT)(a:AttT)(us:List UseT)(us2:List UseT)(ms:Int)(ms2:Int)(ms3:Int)(cut:List Bool)(cut2:List Bool)(cut3:List Bool):List Blk:=[.var [strD p.nm,int p.number,int p.uses,int p.earn,int p.num,int p.den,rowsD' (List.map ReqT.row p.reqs)],.var [int a.course,int a.term,int a.grade,int a.campus,int a.credits],.var [rowsD' (List.map UseT.row us),int ms,rowsD' (rowsB cut)],.gone,.vec [[int a.course,int a.term,int a.grade,int a.campus,int a.credits]] 0 5,.var [rowsD' (List.map UseT.row us2),int ms2,rowsD' (rowsB cut2)],.var [rowsD' [],int ms3,rowsD' (rowsB cut3)]]
noncomputable abbrev dm_1b_x2(p:ProgT)(a:AttT)(us:List UseT)(us2:List UseT)(ms:Int)(ms2:Int)(cut:List Bool)(cut2:List Bool):List Blk:=[.var [strD p.nm,int p.number,int p.uses,int p.earn,int p.num,int p.den,rowsD' (List.map ReqT.row p.reqs)],.var [int a.course,int a.term,int a.grade,int a.campus,int a.credits],.var [rowsD' (List.map UseT.row us),int ms,rowsD' (rowsB cut)],.gone,.vec [[int a.course,int a.term,int a.grade,int a.campus,int a.credits]] 0 5,.var [rowsD' (List.map UseT.row us2),int ms2,rowsD' (rowsB cut2)]]
noncomputable abbrev dm_1b_x3(p:ProgT)(a:AttT):List Blk:=[.var [strD p.nm,int p.number,int p.uses,int p.earn,int p.num,int p.den,rowsD' (List.map ReqT.row p.reqs)],.var [int a.course,int a.term,int a.grade,int a.campus,int a.credits]]
theorem dm_1b{p:ProgT}{l:List AttT}{a:AttT}{us us2 us4:List UseT}{ms ms2 ms3 ms4 e2 e4:Int}{cut cut2 cut3 cut4:List Bool}(hsane:∀h,Ev Tryz.prog Γ0 9 [] h (bool true) h)(hfew:∀h,Ev Tryz.prog Γ0 10 [.agg p.l,rowsD' (l.map AttT.row)] h (bool true) h)(hpr:p.reqs.length≤1000)(hl:l.length≤1000)
  (haud:∀h,Ev Tryz.prog Γ0 19 [.agg p.l,rowsD' (l.map AttT.row)] h (.tup [.agg [rowsD' (us.map UseT.row),int ms,rowsD' (rowsB cut)],int 0]) h)
  (hb:Ev Tryz.prog Γ0 19 [.agg p.l,.ref (.vec 3 2)] (dmH p l a us ms cut) (.tup [.agg [rowsD' (us2.map UseT.row),int ms2,rowsD' (rowsB cut2)],int e2]) (dmG p a us ms cut))
  (hn:∀h,Ev Tryz.prog Γ0 19 [.agg p.l,nq] h (.tup [.agg [rowsD' [],int ms3,rowsD' (rowsB cut3)],int 0]) h)
  (hc:∀h,Ev Tryz.prog Γ0 19 [.agg [strD p.nm,int p.number,int (IntKind.i64.wrap (p.uses+1)),int p.earn,int p.num,int p.den,rowsD' (p.reqs.map ReqT.row)],rowsD' (l.map AttT.row)] h (.tup [.agg [rowsD' (us4.map UseT.row),int ms4,rowsD' (rowsB cut4)],int e4]) h)
  (h1:(e2==0)=false) (h3:(ms3 != totR p)=false) (h4:Dd (ms>ms3)=false) (h5:Dd (IntKind.i64.wrap (p.uses+1)>4)=false) (h6:(e4==0)=true) (h7:Dd (ms4≤ms)=true) (h:List Blk):(Ev Tryz.prog Γ0 7 [.agg p.l,rowsD' (l.map AttT.row),ag a.row] h (bool true) h):=by
 exact Ev.castH (Ev.sym0 (P:=Tryz.prog) (Γ:=Γ0) (f:=7) (args:=[D.agg (ProgT.l p),rowsD' (List.map AttT.row l),ag (AttT.row a)]) (d:=bool (Dd (ms4≤ms))) pok (φ:=[Ev Tryz.prog Γ0 9 [] (dm_1b_x3 p a) (bool true) (dm_1b_x3 p a),(!true)=false,Ev Tryz.prog Γ0 10 [D.agg [strD p.nm,int p.number,int p.uses,int p.earn,int p.num,int p.den,rowsD' (List.map ReqT.row p.reqs)],rowsD' (List.map AttT.row l)] (dm_1b_x3 p a) (bool true) (dm_1b_x3 p a),(!true)=false,Ev Tryz.prog Γ0 19 [D.agg [strD p.nm,int p.number,int p.uses,int p.earn,int p.num,int p.den,rowsD' (List.map ReqT.row p.reqs)],rowsD' (List.map AttT.row l)] (dm_1b_x3 p a) (D.tup [D.agg [rowsD' (List.map UseT.row us),int ms,rowsD' (rowsB cut)],int 0]) (dm_1b_x3 p a),(0 != 0)=false,(List.all (List.map (fun x=>List.map D.p x) (List.map AttT.row l)) (rowOk 5)&&roomOk (List.length ([]:List (List D))+List.length (List.map (fun x=>List.map D.p x) (List.map AttT.row l))) 40)=true,(List.all [[int a.course,int a.term,int a.grade,int a.campus,int a.credits]] (rowOk 5)&&roomOk (List.length (List.map (fun x=>List.map D.p x) (List.map AttT.row l))+List.length [[int a.course,int a.term,int a.grade,int a.campus,int a.credits]]) 40)=true,Ev Tryz.prog Γ0 19 [D.agg [strD p.nm,int p.number,int p.uses,int p.earn,int p.num,int p.den,rowsD' (List.map ReqT.row p.reqs)],.ref (.vec 3 2)] [.var [strD p.nm,int p.number,int p.uses,int p.earn,int p.num,int p.den,rowsD' (List.map ReqT.row p.reqs)],.var [int a.course,int a.term,int a.grade,int a.campus,int a.credits],.var [rowsD' (List.map UseT.row us),int ms,rowsD' (rowsB cut)],.vec (List.map (fun x=>List.map D.p x) (List.map AttT.row l)++[[int a.course,int a.term,int a.grade,int a.campus,int a.credits]]) 2 5,.vec [[int a.course,int a.term,int a.grade,int a.campus,int a.credits]] 0 5] (D.tup [D.agg [rowsD' (List.map UseT.row us2),int ms2,rowsD' (rowsB cut2)],int e2]) [.var [strD p.nm,int p.number,int p.uses,int p.earn,int p.num,int p.den,rowsD' (List.map ReqT.row p.reqs)],.var [int a.course,int a.term,int a.grade,int a.campus,int a.credits],.var [rowsD' (List.map UseT.row us),int ms,rowsD' (rowsB cut)],.gone,.vec [[int a.course,int a.term,int a.grade,int a.campus,int a.credits]] 0 5],List.all [] (D.innL 3)=true,List.all [] (D.innL 4)=true,List.all [] (D.innL 4)=true,List.all (List.map (fun x=>List.map D.p x) (List.map AttT.row l)) (D.innL 4)=true,List.all [] (D.innL 4)=true,List.all (List.map (fun x=>List.map D.p x) (List.map AttT.row l)) (D.innL 5)=true,List.all [[int a.course,int a.term,int a.grade,int a.campus,int a.credits]] (D.innL 5)=true,List.all [] (D.innL 5)=true,List.all (List.map (fun x=>List.map D.p x) (List.map AttT.row l)++[[int a.course,int a.term,int a.grade,int a.campus,int a.credits]]) (D.innL 5)=true,List.all [[int a.course,int a.term,int a.grade,int a.campus,int a.credits]] (D.innL 5)=true,List.all [] (D.innL 5)=true,List.all [[int a.course,int a.term,int a.grade,int a.campus,int a.credits]] (D.innL 5)=true,List.all [] (D.innL 5)=true,List.all [[int a.course,int a.term,int a.grade,int a.campus,int a.credits]] (D.innL 6)=true,List.all [] (D.innL 6)=true,List.all [[int a.course,int a.term,int a.grade,int a.campus,int a.credits]] (D.innL 6)=true,List.all [] (D.innL 6)=true,List.all [[int a.course,int a.term,int a.grade,int a.campus,int a.credits]] (D.innL 3)=true,List.all [] (D.innL 4)=true,List.all [[int a.course,int a.term,int a.grade,int a.campus,int a.credits]] (D.innL 4)=true,List.all (List.map (fun x=>List.map D.p x) (List.map AttT.row l)) (D.innL 4)=true,List.all [[int a.course,int a.term,int a.grade,int a.campus,int a.credits]] (D.innL 4)=true,List.all (List.map (fun x=>List.map D.p x) (List.map AttT.row l)) (D.innL 5)=true,List.all [[int a.course,int a.term,int a.grade,int a.campus,int a.credits]] (D.innL 5)=true,List.all [[int a.course,int a.term,int a.grade,int a.campus,int a.credits]] (D.innL 5)=true,List.all (List.map (fun x=>List.map D.p x) (List.map AttT.row l)++[[int a.course,int a.term,int a.grade,int a.campus,int a.credits]]) (D.innL 5)=true,List.all [[int a.course,int a.term,int a.grade,int a.campus,int a.credits]] (D.innL 5)=true,List.all [[int a.course,int a.term,int a.grade,int a.campus,int a.credits]] (D.innL 5)=true,List.all [[int a.course,int a.term,int a.grade,int a.campus,int a.credits]] (D.innL 5)=true,List.all [[int a.course,int a.term,int a.grade,int a.campus,int a.credits]] (D.innL 5)=true,List.all [[int a.course,int a.term,int a.grade,int a.campus,int a.credits]] (D.innL 6)=true,List.all [[int a.course,int a.term,int a.grade,int a.campus,int a.credits]] (D.innL 6)=true,List.all [[int a.course,int a.term,int a.grade,int a.campus,int a.credits]] (D.innL 6)=true,List.all [[int a.course,int a.term,int a.grade,int a.campus,int a.credits]] (D.innL 6)=true,List.all [] (D.innL 4)=true,List.all (List.map (fun x=>List.map D.p x) (List.map AttT.row l)) (D.innL 4)=true,List.all (List.map (fun x=>List.map D.p x) (List.map AttT.row l)) (D.innL 5)=true,List.all [[int a.course,int a.term,int a.grade,int a.campus,int a.credits]] (D.innL 5)=true,List.all (List.map (fun x=>List.map D.p x) (List.map AttT.row l)++[[int a.course,int a.term,int a.grade,int a.campus,int a.credits]]) (D.innL 5)=true,List.all [[int a.course,int a.term,int a.grade,int a.campus,int a.credits]] (D.innL 5)=true,List.all [[int a.course,int a.term,int a.grade,int a.campus,int a.credits]] (D.innL 5)=true,List.all [[int a.course,int a.term,int a.grade,int a.campus,int a.credits]] (D.innL 6)=true,List.all [[int a.course,int a.term,int a.grade,int a.campus,int a.credits]] (D.innL 6)=true,(D.agg [strD p.nm,int p.number,int p.uses,int p.earn,int p.num,int p.den,rowsD' (List.map ReqT.row p.reqs)]:D)=D.agg [strD p.nm,int p.number,int p.uses,int p.earn,int p.num,int p.den,rowsD' (List.map ReqT.row p.reqs)],(D.agg [strD p.nm,int p.number,int p.uses,int p.earn,int p.num,int p.den,rowsD' (List.map ReqT.row p.reqs)]:D)=D.agg [strD p.nm,int p.number,int p.uses,int p.earn,int p.num,int p.den,rowsD' (List.map ReqT.row p.reqs)],(D.agg [strD p.nm,int p.number,int p.uses,int p.earn,int p.num,int p.den,rowsD' (List.map ReqT.row p.reqs)]:D)=D.agg [strD p.nm,int p.number,int p.uses,int p.earn,int p.num,int p.den,rowsD' (List.map ReqT.row p.reqs)],(D.agg [strD p.nm,int p.number,int p.uses,int p.earn,int p.num,int p.den,rowsD' (List.map ReqT.row p.reqs)]:D)=D.agg [strD p.nm,int p.number,int p.uses,int p.earn,int p.num,int p.den,rowsD' (List.map ReqT.row p.reqs)],(D.agg [strD p.nm,int p.number,int p.uses,int p.earn,int p.num,int p.den,rowsD' (List.map ReqT.row p.reqs)]:D)=D.agg [strD p.nm,int p.number,int p.uses,int p.earn,int p.num,int p.den,rowsD' (List.map ReqT.row p.reqs)],(D.agg [int a.course,int a.term,int a.grade,int a.campus,int a.credits]:D)=D.agg [int a.course,int a.term,int a.grade,int a.campus,int a.credits],(D.agg [int a.course,int a.term,int a.grade,int a.campus,int a.credits]:D)=D.agg [int a.course,int a.term,int a.grade,int a.campus,int a.credits],(D.agg [int a.course,int a.term,int a.grade,int a.campus,int a.credits]:D)=D.agg [int a.course,int a.term,int a.grade,int a.campus,int a.credits],Ev Tryz.prog Γ0 19 [D.agg [strD p.nm,int p.number,int p.uses,int p.earn,int p.num,int p.den,rowsD' (List.map ReqT.row p.reqs)],D.p (Dp.v (Value.slice none 0 0))] (dm_1b_x2 p a us us2 ms ms2 cut cut2) (D.tup [D.agg [rowsD' [],int ms3,rowsD' (rowsB cut3)],int 0]) (dm_1b_x2 p a us us2 ms ms2 cut cut2),((e2==0)==true)=false,((e2==0)==true)=false,((e2==0)==true)=false,((e2==0)==true)=false,((e2==0)==true)=false,PickIs (bool (e2==0)) (D.p (Dp.v (Value.tuple {toList:=[]}))) (bool false) (bool false),(false==false)=true,(false==false)=true,PickIs (bool false) (bool true) (bool (0 != 0)) (bool (0 != 0)),((0 != 0)==false)=true,((0 != 0)==false)=true,((0 != 0)==false)=true,((0 != 0)==false)=true,Ev Tryz.prog Γ0 23 [D.agg [strD p.nm,int p.number,int p.uses,int p.earn,int p.num,int p.den,rowsD' (List.map ReqT.row p.reqs)]] (dm_1b_x1 p a us us2 ms ms2 ms3 cut cut2 cut3) (int (totR p)) (dm_1b_x1 p a us us2 ms ms2 ms3 cut cut2 cut3),((0 != 0)==false)=true,PickIs (bool (0 != 0)) (bool true) (bool (ms3 != totR p)) (bool (ms3 != totR p)),((ms3 != totR p)==false)=true,((ms3 != totR p)==false)=true,((ms3 != totR p)==false)=true,((ms3 != totR p)==false)=true,((ms3 != totR p)==false)=true,PickIs (bool (ms3 != totR p)) (bool true) (bool (Dd (ms>ms3))) (bool (Dd (ms>ms3))),Dd (ms>ms3)=false,Ev Tryz.prog Γ0 19 [D.agg [strD p.nm,int p.number,int (IntKind.wrap IntKind.i64 (p.uses+1)),int p.earn,int p.num,int p.den,rowsD' (List.map ReqT.row p.reqs)],rowsD' (List.map AttT.row l)] (dm_1b_x0 p a us us2 ms ms2 ms3 cut cut2 cut3) (D.tup [D.agg [rowsD' (List.map UseT.row us4),int ms4,rowsD' (rowsB cut4)],int e4]) (dm_1b_x0 p a us us2 ms ms2 ms3 cut cut2 cut3),(Dd (IntKind.wrap IntKind.i64 (p.uses+1)>4)==false)=true,(Dd (IntKind.wrap IntKind.i64 (p.uses+1)>4)==false)=true,(Dd (IntKind.wrap IntKind.i64 (p.uses+1)>4)==false)=true,((e4==0)==true)=true,((e4==0)==true)=true,((e4==0)==true)=true,((e4==0)==true)=true,((e4==0)==true)=true,(Dd (IntKind.wrap IntKind.i64 (p.uses+1)>4)==false)=true,PickIs (bool (e4==0)) (bool (Dd (ms4≤ms))) (bool false) (bool (Dd (ms4≤ms))),PickIs (bool (Dd (IntKind.wrap IntKind.i64 (p.uses+1)>4))) (bool true) (bool (Dd (ms4≤ms))) (bool (Dd (ms4≤ms)))]) [.val (bool true),.b false,.val (bool true),.b false,.val (D.tup [D.agg [rowsD' (List.map UseT.row us),int ms,rowsD' (rowsB cut)],int 0]),.b false,.lateO,.call (D.tup [D.agg [rowsD' (List.map UseT.row us2),int ms2,rowsD' (rowsB cut2)],int e2]) [.var [strD p.nm,int p.number,int p.uses,int p.earn,int p.num,int p.den,rowsD' (List.map ReqT.row p.reqs)],.var [int a.course,int a.term,int a.grade,int a.campus,int a.credits],.var [rowsD' (List.map UseT.row us),int ms,rowsD' (rowsB cut)],.gone,.vec [[int a.course,int a.term,int a.grade,int a.campus,int a.credits]] 0 5],.val (D.tup [D.agg [rowsD' [],int ms3,rowsD' (rowsB cut3)],int 0]),.g false,.g false,.g false,.g false,.g false,.ov 54 (bool false),.g true,.g true,.ov 58 (bool (0 != 0)),.g true,.g true,.g true,.g true,.val (int (totR p)),.g true,.ov 65 (bool (ms3 != totR p)),.g true,.g true,.g true,.g true,.g true,.ov 72 (bool (Dd (ms>ms3))),.b false,.val (D.tup [D.agg [rowsD' (List.map UseT.row us4),int ms4,rowsD' (rowsB cut4)],int e4]),.g true,.g true,.g true,.g true,.g true,.g true,.g true,.g true,.g true,.ov 96 (bool (Dd (ms4≤ms))),.ov 97 (bool (Dd (ms4≤ms)))] (by kernel_rfl) ⟨(@hsane ((dm_1b_x3 p a))),rfl,(@hfew ((dm_1b_x3 p a))),rfl,(@haud ((dm_1b_x3 p a))),rfl,(by first|assumption|rfl|exact dm_room hl|exact dm_room2 hl|exact dm_inn _ _|exact dm_inn2 _ _ _ _ _ _ _|(simp;omega)),(by first|assumption|rfl|exact dm_room hl|exact dm_room2 hl|exact dm_inn _ _|exact dm_inn2 _ _ _ _ _ _ _|(simp;omega)),(@hb),rfl,rfl,rfl,(by first|assumption|rfl|exact dm_room hl|exact dm_room2 hl|exact dm_inn _ _|exact dm_inn2 _ _ _ _ _ _ _|(simp;omega)),rfl,(by first|assumption|rfl|exact dm_room hl|exact dm_room2 hl|exact dm_inn _ _|exact dm_inn2 _ _ _ _ _ _ _|(simp;omega)),rfl,rfl,(by first|assumption|rfl|exact dm_room hl|exact dm_room2 hl|exact dm_inn _ _|exact dm_inn2 _ _ _ _ _ _ _|(simp;omega)),rfl,rfl,rfl,rfl,rfl,rfl,rfl,rfl,rfl,rfl,rfl,(by first|assumption|rfl|exact dm_room hl|exact dm_room2 hl|exact dm_inn _ _|exact dm_inn2 _ _ _ _ _ _ _|(simp;omega)),rfl,(by first|assumption|rfl|exact dm_room hl|exact dm_room2 hl|exact dm_inn _ _|exact dm_inn2 _ _ _ _ _ _ _|(simp;omega)),rfl,rfl,(by first|assumption|rfl|exact dm_room hl|exact dm_room2 hl|exact dm_inn _ _|exact dm_inn2 _ _ _ _ _ _ _|(simp;omega)),rfl,rfl,rfl,rfl,rfl,rfl,rfl,rfl,rfl,(by first|assumption|rfl|exact dm_room hl|exact dm_room2 hl|exact dm_inn _ _|exact dm_inn2 _ _ _ _ _ _ _|(simp;omega)),(by first|assumption|rfl|exact dm_room hl|exact dm_room2 hl|exact dm_inn _ _|exact dm_inn2 _ _ _ _ _ _ _|(simp;omega)),rfl,(by first|assumption|rfl|exact dm_room hl|exact dm_room2 hl|exact dm_inn _ _|exact dm_inn2 _ _ _ _ _ _ _|(simp;omega)),rfl,rfl,rfl,rfl,rfl,rfl,rfl,rfl,rfl,rfl,rfl,rfl,(@hn ((dm_1b_x2 p a us us2 ms ms2 cut cut2))),(by rw[h1]<;>rfl),(by rw[h1]<;>rfl),(by rw[h1]<;>rfl),(by rw[h1]<;>rfl),(by rw[h1]<;>rfl),(pickIs_f h1 rfl),rfl,rfl,(pickIs_f rfl rfl),rfl,rfl,rfl,rfl,(@tot_ev (p) (hpr) ((dm_1b_x1 p a us us2 ms ms2 ms3 cut cut2 cut3))),rfl,(by first|assumption|rfl|exact dm_room hl|exact dm_room2 hl|exact dm_inn _ _|exact dm_inn2 _ _ _ _ _ _ _|(simp;omega)),(by rw[h3]<;>rfl),(by rw[h3]<;>rfl),(by rw[h3]<;>rfl),(by rw[h3]<;>rfl),(by rw[h3]<;>rfl),(pickIs_f h3 rfl),h4,(@hc ((dm_1b_x0 p a us us2 ms ms2 ms3 cut cut2 cut3))),(by rw[h5]<;>rfl),(by rw[h5]<;>rfl),(by rw[h5]<;>rfl),(by rw[h6]<;>rfl),(by rw[h6]<;>rfl),(by rw[h6]<;>rfl),(by rw[h6]<;>rfl),(by rw[h6]<;>rfl),(by rw[h5]<;>rfl),(pickIs_t h6 rfl),(pickIs_f h5 rfl),trivial⟩ rfl rfl h) (by first|rfl|(simp only[h5];done)|(simp only[h7];done)) (by rfl)
theorem Ev.argW{P:Program}{Γ:Glob}{f:FuncId}{args:List D}{h h':List Blk}{d:D}(he:Ev P Γ f (D.nilWL args) h d h'):Ev P Γ f args h d h':=fun O w l vs R ra=>he O w l vs R (relL_nilW _ _ ra)
theorem aud_gen{p:ProgT}(hp:p.ok){l:List AttT}(h1:p.reqs.length≤6)(h2:l.length≤9):∃(us:List UseT) (ms:Int) (cut:List Bool) (e:Int),(∀h:List Blk,Ev Tryz.prog Γ0 19 [.agg p.l,rowsD' (l.map AttT.row)] h (.tup [.agg [rowsD' (us.map UseT.row),int ms,rowsD' (rowsB cut)],int e]) h) ∧
  (e=0→∃g,AudOk p l g∧us=useL g.1 (prs p l 0) l.length∧ms=totL p.reqs - sumC us)∧(pErr p=0→aErr l=0→e=0):=by
 rcases net_err (p:=p) (l:=l) with ⟨_,e1,e2⟩|he
 ·obtain⟨g,hg⟩:=aud_ex (p:=p) (l:=l) ⟨e1,e2,h1,h2⟩
  obtain⟨t1,t2,t3,t4,t5,t6,t7,t8⟩:=hg.tot
  exact⟨_,_,_,0,hg.aud hp,fun _=>⟨g,hg,t4,by rw[t6,t4]⟩,fun _ _=>rfl⟩
 ·have hb:=fun h=>Ev.nilW (audit_bad he (fun h=>net_ev hp (l:=l) (by omega) (by omega) h) h)
  refine⟨[],0,[],(netR p l).2.2,hb,fun h=>?_,fun h3 h4=>?_⟩
  ·rcases he with e|e|e<;>rw[e] at h<;>simp at h
  ·have:(netX p l (sumsR l).2.2).2.2=0:=by
    unfold netX sumsR
    rw[h3,h4];rfl
   exact this
theorem asn_more{p:ProgT}{l:List AttT}{a:AttT}{us:List UseT}(h:NetOk p (l++[a]))(hu:AsnOk p l us):AsnOk p (l++[a]) us:=by
 have hin:∀u∈us,u.att<l.length:=by
  intro u hm
  obtain⟨a0,q0,c0,b,q,hb,hq,h1,h2⟩:=hu.ok u hm
  have:=(List.getElem?_eq_some_iff.1 hb).1
  omega
 have hok:∀u∈us,UseOk p (l++[a]) u:=by
  intro u hm
  obtain⟨a0,q0,c0,b,q,hb,hq,h1,h2⟩:=hu.ok u hm
  have:=(List.getElem?_eq_some_iff.1 hb).1
  exact⟨a0,q0,c0,b,q,by rw[List.getElem?_append_left this];exact hb,hq,h1,h2⟩
 refine⟨hu.len,hok,hu.next,?_,hu.hQ⟩
 intro i b hb
 by_cases hi:i<l.length
 ·rw[List.getElem?_append_left hi] at hb
  exact hu.hA i b hb
 ·have hcr:∀u∈us,0≤u.cr∧u.cr≤60:=by
   intro u hm
   obtain⟨a0,q0,c0,b,q,hb,hq,h1,h2⟩:=hok u hm
   have:=h.att b (List.mem_of_getElem? hb)
   omega
  have hl:=hu.len
  unfold sumA
  rw[foldU (F:=fun u=>u.att==(i:Int)) (g:=b2F (i:Int)) (fun n u=>rfl) us 0 hcr (by omega) (by omega)]
  have hz:∀(vs:List UseT),(∀u∈vs,u.att<l.length)→sumU (fun u=>u.att==(i:Int)) vs=0:=by
   intro vs
   induction vs with
   | nil=>intro _;rfl
   | cons v vs ih =>
    intro hv
    have h1:=hv v (by simp)
    have:(v.att==(i:Int))=false:=by simp only[beq_eq_false_iff_ne];omega
    simp only[sumU,this,cond_false]
    rw[ih (fun x hx=>hv x (by simp[hx]))];rfl
  rw[hz us hin]
  obtain⟨c0,c1⟩:=h.att b (List.mem_of_getElem? hb)
  obtain⟨u1,u2,_⟩:=h.req
  have m0:0≤b.credits*p.uses:=Int.mul_nonneg c0 (by omega)
  have m1:b.credits*p.uses≤60*4:=Int.mul_le_mul c1 u2 (by omega) (by omega)
  rw[wrap_i64 (by omega) (by omega)];omega
abbrev moreU(p:ProgT):ProgT:=⟨p.nm,p.number,IntKind.i64.wrap (p.uses+1),p.earn,p.num,p.den,p.reqs⟩
theorem asn_uses{p:ProgT}{l:List AttT}{us:List UseT}(h:NetOk p l)(hu:AsnOk p l us):AsnOk (moreU p) l us:=by
 obtain⟨u1,u2,_⟩:=h.req
 have ew:IntKind.i64.wrap (p.uses+1)=p.uses+1:=wrap_i64 (by omega) (by omega)
 refine⟨hu.len,fun u hm=>?_,hu.next,fun i a ha=>?_,hu.hQ⟩
 ·obtain⟨a0,q0,c0,b,q,hb,hq,h1,h2⟩:=hu.ok u hm
  exact⟨a0,q0,c0,b,q,hb,hq,h1,h2⟩
 ·have:=hu.hA i a ha
  obtain⟨c0,c1⟩:=h.att a (List.mem_of_getElem? ha)
  have m0:0≤a.credits*p.uses:=Int.mul_nonneg c0 (by omega)
  have m1:a.credits*p.uses≤60*4:=Int.mul_le_mul c1 u2 (by omega) (by omega)
  have m2:a.credits*(p.uses+1)=a.credits*p.uses+a.credits:=by rw[Int.mul_add,Int.mul_one]
  show sumA us (i:Int)≤IntKind.i64.wrap (a.credits*IntKind.i64.wrap (p.uses+1))
  rw[ew,m2,wrap_i64 (by omega) (by omega)]
  rw[wrap_i64 (by omega) (by omega)] at this
  omega
theorem more_err{p:ProgT}(h:pErr p=0)(hu:p.uses+1≤4)(h1:1≤p.uses):pErr (moreU p)=0:=by
 have ew:IntKind.i64.wrap (p.uses+1)=p.uses+1:=wrap_i64 (by omega) (by omega)
 unfold pErr at h ⊢
 have e:pHead (moreU p)=pHead p:=by
  have a1:inB p.uses 1 4=true:=by simp only[inB,Bool.and_eq_true,decide_eq_true_eq];omega
  have a2:inB (p.uses+1) 1 4=true:=by simp only[inB,Bool.and_eq_true,decide_eq_true_eq];omega
  unfold pHead
  simp only[ew,a1,a2]
 rw[e]
 exact h
theorem degreeMore_ev{p:ProgT}(hp:p.ok){l:List AttT}{a:AttT}(h:List Blk):Ev Tryz.prog Γ0 7 [.agg p.l,rowsD' (l.map AttT.row),ag a.row] h (bool true) h:=by
 have hfew:∀h,Ev Tryz.prog Γ0 10 [.agg p.l,rowsD' (l.map AttT.row)] h (bool (fewB p ((l.map AttT.row).length:Int))) h:=few_ev hp.sr
 cases ho:fewB p ((l.map AttT.row).length:Int) with
 | false=>rw[ho] at hfew;exact dm_out sane19_ev hfew h
 | true =>
  obtain⟨h1,h2⟩:=few_le (p:=p) (l:=l) (by rw[ho];rfl)
  rw[ho] at hfew
  rcases net_err (p:=p) (l:=l) with ⟨_,e1,e2⟩|he
  ·obtain⟨g,hg⟩:=aud_ex (p:=p) (l:=l) ⟨e1,e2,h1,by omega⟩
   obtain⟨t1,t2,t3,t4,t5,t6,t7,t8⟩:=hg.tot
   have hasn:=asn_flow hg.net hg.flow
   obtain⟨u1,u2,_⟩:=hg.net.req
   have ew:IntKind.i64.wrap (p.uses+1)=p.uses+1:=wrap_i64 (by omega) (by omega)
   obtain⟨usb,msb,cutb,eb,hb,hb2,_⟩:=aud_gen (l:=l++[a]) hp h1 (by simp;omega)
   have hbx:=dm_pre (us:=(auR p l g.1).us) (ms:=(auR p l g.1).ms) (cut:=cutR g.2) (hb (dmG p a (auR p l g.1).us (auR p l g.1).ms (cutR g.2)))
   obtain⟨gn,hgn⟩:=aud_ex (p:=p) (l:=[]) ⟨e1,rfl,h1,by simp⟩
   obtain⟨n1,n2,n3,n4,n5,n6,n7,n8⟩:=hgn.tot
   have hnil:useL gn.1 (prs p [] 0) ([]:List AttT).length=[]:=rfl
   rw[hnil] at n4 n6
   have hn:∀h,Ev Tryz.prog Γ0 19 [.agg p.l,nq] h (.tup [.agg [rowsD' [],int (auR p [] gn.1).ms,rowsD' (rowsB (cutR gn.2))],int 0]) h:=by
    intro h
    have:=hgn.aud hp h
    rw[n4] at this
    exact Ev.argW this
   obtain⟨usc,msc,cutc,ec,hc,hc2,hc3⟩:=aud_gen (p:=moreU p) (l:=l) ⟨hp.sr,hp.rq,hp.nm,hp.dn⟩ h1 (by omega)
   have h3:((auR p [] gn.1).ms != totR p)=false:=by
    rw[n6,n1];simp[sumC]
   have h4:Dd ((auR p l g.1).ms>(auR p [] gn.1).ms)=false:=by
    have z:sumC []=0:=rfl
    rw[z] at n6
    simp only[decide_eq_false_iff_not];omega
   have hB:eb=0→Dd (msb>(auR p l g.1).ms)=false:=by
    intro e0
    obtain⟨gb,hgb,b1,b2⟩:=hb2 e0
    have:=hgb.opt (asn_more hgb.net hasn)
    rw[b2,b1,t6]
    simp only[decide_eq_false_iff_not];omega
   by_cases hq:p.uses+1>4
   ·have h5:Dd (IntKind.i64.wrap (p.uses+1)>4)=true:=by rw[ew];simpa using hq
    by_cases h0:eb=0
    ·exact dm_0a sane19_ev hfew (by omega) (by omega) (hg.aud hp) hbx hn hc (by simpa using h0) (hB h0) h3 h4 h5 h
    ·exact dm_1a sane19_ev hfew (by omega) (by omega) (hg.aud hp) hbx hn hc (by simpa using h0) h3 h4 h5 h
   ·have h5:Dd (IntKind.i64.wrap (p.uses+1)>4)=false:=by rw[ew];simpa using hq
    have h6:ec=0:=hc3 (more_err e1 (by omega) u1) e2
    obtain⟨gc,hgc,c1,c2⟩:=hc2 h6
    have h7:Dd (msc≤(auR p l g.1).ms)=true:=by
     have:=hgc.opt (asn_uses hg.net hasn)
     rw[c2,c1,t6]
     simp only[decide_eq_true_eq]
     show totL p.reqs - _≤_
     omega
    by_cases h0:eb=0
    ·exact dm_0b sane19_ev hfew (by omega) (by omega) (hg.aud hp) hbx hn hc (by simpa using h0) (hB h0) h3 h4 h5 (by simpa using h6) h7 h
    ·exact dm_1b sane19_ev hfew (by omega) (by omega) (hg.aud hp) hbx hn hc (by simpa using h0) h3 h4 h5 (by simpa using h6) h7 h
  ·refine dm_bad (e:=(netR p l).2.2) sane19_ev hfew (audit_bad he (fun h=>net_ev hp (by omega) (by omega) h)) ?_ h
   rcases he with e|e|e<;>rw[e]<;>rfl
end Go.Vi
