/- LedgerArrival: part of the proof: contracts of the functions that the law reaches, and the law. No conditions beyond the given statement's own. -/
import Derived.Test.YtbfpdhdcicjihaaGreatDoorW10
import Derived.LaidSub
import Derived.FnData
open Decidable renaming decide → Qd
open List renaming replicate → HA, mapM_cons → MO, map_cons → Il, drop_drop → Ml, take_append_drop → MY, mem_filter → J7, drop_zero → IW
open Option renaming bind_eq_bind → MX, bind_eq_some_iff → JX, map_eq_some_iff → Ha
open Option.some renaming injEq → G0, inj → Jp
open Go.DataW renaming trod → KG
open Prod.mk renaming injEq → G4
open Go.DataW.agg renaming injEq → M8
open Go.Proofs.Tryz renaming prog → GV
open Go.Proofs.YtbfpdhdcicjihaaGreatDoor.Rows renaming laid_sizar_digest_start → L6, laid_sizar_digest_numbers → LQ, laid_sizar_requests_kinds → LR
open Go.World renaming var?_cell → K4
open Go Go.Proofs
namespace Go.Vi
set_option maxHeartbeats 4000000
open Go.ChangeShapes Go.WideShapes Go.ChangeAt Go.RowKit Go.Proofs.YtbfpdhdcicjihaaGreatDoor
set_option maxRecDepth 100000
def mf(P:Program):List Field→Nat→Nat→Bool
 | [],acc,n=>acc==n
 | f::fs,acc,n=>f.offset==acc&&mf P fs (acc+P.cellsOf f.type) n
def AA(g:TypeId→DataW Unit→Option (List Value)):List TypeId→List (DataW Unit)→Option (List Value)
 | [],[]=>some []
 | t::ts,d::ds=>(g t d).bind fun a=>(AA g ts ds).map fun b=>a++b
 | _,_=>none
def jX(P:Program):Nat→TypeId→DataW Unit→Option (List Value)
 | 0,_,_=>none
 | n+1,t,d=>match P.underlying t with
  | some .bool=>match d with
   | .lit (.bool b)=>some [.bool b]
   | _=>none
  | some (.int k)=>match d with
   | .lit (.int _ x)=>some [.int k x]
   | _=>none
  | some (.struct fs)=>match d with
   | .agg ds=>if mf P fs.toList 0 (P.cellsOf t) then AA (fun f d=>jX P n f d) (fs.toList.map (·.type)) ds else none
   | _=>none
  | some (.array m e)=>match d with
   | .agg ds=>if Qd (P.cellsOf t=m*P.cellsOf e)=true then AA (fun f d=>jX P n f d) (HA m e) ds else none
   | _=>none
  | _=>none
theorem rg{P:Program}{g:TypeId→DataW Unit→Option (List Value)}{tr:TypeId→List Value→Option (DataW Unit×List MemPlace)}{cs:List Value}
  (hg:∀t d ys,g t d=some ys→∀c p,tr t c=some (d,p)→c=ys):∀(fs:List Field) (acc:Nat) (xs:List (DataW Unit×List MemPlace)) (ys:List Value),
  (fs.mapM fun f=>tr f.type ((cs.drop f.offset).take (P.cellsOf f.type)))=some xs→mf P fs acc cs.length=true→AA g (fs.map (·.type)) (xs.map (·.1))=some ys→cs.drop acc=ys
 | [],acc,xs,ys,hm,hc,hz=>by
  simp at hm
  subst hm
  simp[AA] at hz
  subst hz
  simp[mf] at hc
  simp[hc]
 | f::fs,acc,xs,ys,hm,hc,hz=>by
  simp only[MO,MX,JX,Option.pure_def,G0] at hm
  obtain⟨x,hx,xs',hxs,rfl⟩:=hm
  simp only[mf,Bool.and_eq_true,beq_iff_eq] at hc
  simp only[Il,AA,JX,Ha] at hz
  obtain⟨a,ha,b,hb,rfl⟩:=hz
  have h1:=hg _ _ _ ha _ x.2 (by rw[hx])
  have h2:=rg hg fs _ xs' b hxs hc.2 hb
  rw[←h1,←h2,hc.1,←Ml,MY]
theorem t9{e:TypeId}{c:Nat}{g:TypeId→DataW Unit→Option (List Value)}{tr:TypeId→List Value→Option (DataW Unit×List MemPlace)}{cs:List Value}
  (hg:∀t d ys,g t d=some ys→∀c p,tr t c=some (d,p)→c=ys):∀(n k:Nat) (xs:List (DataW Unit×List MemPlace)) (ys:List Value),
  ((List.range' k n).mapM fun i=>tr e ((cs.drop (i*c)).take c))=some xs→cs.length=(k+n)*c→AA g (HA n e) (xs.map (·.1))=some ys→cs.drop (k*c)=ys
 | 0,k,xs,ys,hm,hc,hz=>by
  simp at hm
  subst hm
  simp[AA] at hz
  subst hz
  exact List.drop_eq_nil_of_le (by rw[hc];simp)
 | n+1,k,xs,ys,hm,hc,hz=>by
  rw[List.range'_succ] at hm
  simp only[MO,MX,JX,Option.pure_def,G0] at hm
  obtain⟨x,hx,xs',hxs,rfl⟩:=hm
  rw[List.replicate_succ] at hz
  simp only[Il,AA,JX,Ha] at hz
  obtain⟨a,ha,b,hb,rfl⟩:=hz
  have h1:=hg _ _ _ ha _ x.2 (by rw[hx])
  have h2:=t9 hg n (k+1) xs' b hxs (by rw[hc];congr 1;omega) hb
  rw[←h1,←h2,Nat.add_mul,Nat.one_mul,←Ml,MY]
theorem fI{P:Program}{w:World}{sp:Nat→Bool}:∀(n:Nat) (t:TypeId) (d:DataW Unit) (ys:List Value),jX P n t d=some ys→∀(fuel:Nat) (cs:List Value) (p:List MemPlace),KG (fun _=>()) P w 0 sp false fuel t cs=some (d,p)→cs=ys
 | 0,_,_,_,h=>by simp[jX] at h
 | n+1,t,d,ys,h=>by
  intro fuel cs p ht
  cases fuel with
  | zero=>simp[KG] at ht
  | succ fuel =>
   unfold jX at h
   unfold KG at ht
   cases hu:P.underlying t with
   | none=>rw[hu] at h;simp at h
   | some td =>
    rw[hu] at h ht
    cases td with
    | bool =>
     simp only at h ht
     split at h
     ·split at ht<;>simp_all
     ·simp at h
    | int k =>
     simp only at h ht
     split at h
     ·split at ht
      all_goals (first|(simp_all;done)|(split at ht<;>simp_all))
     ·simp at h
    | struct fs =>
     simp only at h ht
     split at h
     ·split at h
      ·rename_i hc
       split at ht
       ·rename_i hl
        obtain⟨xs,hxs,he⟩:=Ha.1 ht
        simp only[G4,M8] at he
        obtain⟨rfl,_⟩:=he
        have:=rg (tr:=fun t c=>KG (fun _=>()) P w 0 sp false fuel t c) (fun t d ys hg c p hp=>fI n t d ys hg fuel c p hp) fs.toList 0 xs ys hxs (by rw[hl];exact hc) h
        simpa using this
       ·simp at ht
      ·simp at h
     ·simp at h
    | array m e =>
     simp only at h ht
     split at h
     ·split at ht
      ·rename_i hl
       obtain⟨xs,hxs,he⟩:=Ha.1 ht
       simp only[G4,M8] at he
       obtain⟨rfl,_⟩:=he
       split at h
       ·rename_i hc
        rw[List.range_eq_range'] at hxs
        have:=t9 (tr:=fun t c=>KG (fun _=>()) P w 0 sp false fuel t c) (fun t d ys hg c p hp=>fI n t d ys hg fuel c p hp) m 0 xs ys hxs (by rw[hl,Nat.zero_add];exact of_decide_eq_true hc) h
        simpa using this
       ·simp at h
      ·simp at ht
     ·simp at h
    | _=>simp at h
theorem sG {W:World} (h:laidMetH GV laid5 W):laidMet GV [("sizar/digest.start",L6),("sizar/digest.numbers",LQ),("sizar/requests.kinds",LR)] W:=(laidMetH_iff.1 h).1
theorem ua:GV.globalNamed "sizar/digest.start" = some 0:=by kernel_rfl
noncomputable def saT:TypeId:=((GV.globals[0]?).map (·.type)).getD 0
theorem Ej:(GV.globals[0]?).map (·.type)=some saT:=by kernel_rfl
theorem ym:jX GV 4 saT L6=some stCells:=by kernel_rfl
theorem AB {W:World} (h:laidMetH GV laid5 W):∃cs:Array Value,W.var? GV "sizar/digest.start" = some cs∧cs.toList=stCells:=by
 obtain⟨_,hl,_⟩:=sG h
 obtain⟨g,t,cs,fuel,p,q,h1,h2,h3,h4,_⟩:=hl
 rw[ua] at h1
 cases h1
 rw[Ej] at h2
 cases h2
 exact⟨cs,h3,fI 4 _ _ _ ym fuel _ _ h4⟩
theorem ub:GV.globalNamed "sizar/digest.numbers" = some 2:=by kernel_rfl
noncomputable def nuT:TypeId:=((GV.globals[2]?).map (·.type)).getD 0
theorem Ek:(GV.globals[2]?).map (·.type)=some nuT:=by kernel_rfl
theorem yn:jX GV 4 nuT LQ=some nuCells:=by kernel_rfl
theorem AC {W:World} (h:laidMetH GV laid5 W):∃cs:Array Value,W.var? GV "sizar/digest.numbers" = some cs∧cs.toList=nuCells:=by
 obtain⟨_,⟨_,_,_,_,_,_,_,_,_,_,hl,_⟩,_⟩:=sG h
 obtain⟨g,t,cs,fuel,p,q,h1,h2,h3,h4,_⟩:=hl
 rw[ub] at h1
 cases h1
 rw[Ek] at h2
 cases h2
 exact⟨cs,h3,fI 4 _ _ _ yn fuel _ _ h4⟩
theorem uc:GV.globalNamed "sizar/requests.kinds" = some 1:=by kernel_rfl
noncomputable def rkT:TypeId:=((GV.globals[1]?).map (·.type)).getD 0
theorem El:(GV.globals[1]?).map (·.type)=some rkT:=by kernel_rfl
theorem yp:jX GV 4 rkT LR=some rkCells:=by kernel_rfl
theorem AD {W:World} (h:laidMetH GV laid5 W):∃cs:Array Value,W.var? GV "sizar/requests.kinds" = some cs∧cs.toList=rkCells:=by
 obtain⟨_,⟨_,_,_,_,_,_,_,_,_,_,⟨_,_,_,_,_,_,_,_,_,_,hl,_⟩,_⟩,_⟩:=sG h
 obtain⟨g,t,cs,fuel,p,q,h1,h2,h3,h4,_⟩:=hl
 rw[uc] at h1
 cases h1
 rw[El] at h2
 cases h2
 exact⟨cs,h3,fI 4 _ _ _ yp fuel _ _ h4⟩
theorem AE:GV.globalNamed "errors.errorType" = some 3:=by kernel_rfl
theorem et_rt:(GV.cutTypes.find? (·.1 == "internal/reflectlite.rtype")).map (·.2)=some 196:=by kernel_rfl
noncomputable def etN:Nat:=GV.types.size
theorem et_row:((List.range etN).filter fun t=>GV.rowNamed t [101,114,114,111,114])=[144]:=by kernel_rfl
theorem Em{W:World}(h:laidMetH GV laid5 W):W.cell? ⟨3,0,none⟩=some t8:=by
 have h2:handlesMet GV (laid5.filter fun x=>x.2.handleName?.isSome) W:=(laidMetH_iff.1 h).2
 obtain⟨name,u,ty,e1,e2,e3,e4,e5⟩:=h2 ("errors.errorType",Rows.laid_errors_errorType) (J7.2 ⟨by simp,rfl⟩)
 have en:name=[101,114,114,111,114]:=(Jp e1).symm
 subst en
 obtain rfl:=Jp (et_rt.symm.trans e2)
 have hm:ty∈(List.range etN).filter fun t=>GV.rowNamed t [101,114,114,111,114]:=J7.2 ⟨List.mem_range.2 e3,e4⟩
 rw[et_row] at hm
 obtain rfl:=List.mem_singleton.1 hm
 have hh:typeHandle GV 144=.pointer (some ⟨5,144,none⟩):=by kernel_rfl
 rw[hh] at e5
 show W.cell? ⟨3,0,none⟩=some (.iface 196 (.agg #[.pointer (some ⟨5,144,none⟩)]))
 simpa using K4 AE e5 0
theorem f4{w:World}{av:Nat→Prop}{blk:Nat}{cs:Array Value}(hb:∀off,w.cell? ⟨blk,off,none⟩=cs[off]?)(hav:∀k,¬av k):∀(ys:List Value) (off:Nat),cs.toList.drop off=ys→RelCells w av blk off (ys.map .v)
 | [],_,_=>by simp[RelCells]
 | y::ys,off,h=>by
  have h1:cs[off]? = some y:=by
   have:=congrArg List.head? h
   rw[List.head?_drop] at this
   simpa using this
  have h2:cs.toList.drop (off+1)=ys:=by
   rw[←Ml,h];rfl
  simp only[Il,RelCells]
  exact⟨⟨hav blk,y,by rw[hb,h1],by simp[RelP]⟩,f4 hb hav ys (off+1) h2⟩
theorem rkD_eq:yD=rkCells.map .v:=rfl
theorem saD_eq:startL.map c32=stCells.map .v:=by kernel_rfl
theorem nuD_eq:numL.map c32=nuCells.map .v:=by kernel_rfl
theorem yq{W:World}(h:laidMetH GV laid5 W):∀g cs,Γq g=some cs→RelCells W (avs (fun _=>False) (fun _=>none) []) g 0 cs:=by
 intro g cs hg
 unfold Γq at hg
 split at hg
 ·have:=Jp hg
  subst this
  obtain⟨xs,h1,h2⟩:=AB h
  rw[saD_eq]
  exact f4 (cs:=xs) (fun off=>K4 ua h1 off) fP _ 0 (by rw[IW,h2])
 ·have:=Jp hg
  subst this
  obtain⟨xs,h1,h2⟩:=AD h
  rw[rkD_eq]
  exact f4 (cs:=xs) (fun off=>K4 uc h1 off) fP _ 0 (by rw[IW,h2])
 ·have:=Jp hg
  subst this
  obtain⟨xs,h1,h2⟩:=AC h
  rw[nuD_eq]
  exact f4 (cs:=xs) (fun off=>K4 ub h1 off) fP _ 0 (by rw[IW,h2])
 ·have:=Jp hg
  subst this
  simp only[RelCells]
  exact⟨⟨fP _,t8,Em h,by simp[RelP,t8]⟩,trivial⟩
 ·cases hg
end Go.Vi
