/- A part of the proof; no conditions of its own. -/
import Derived.Test.YtgalafpinkflfaaGreatDoorW10
import Derived.LaidHandle
open Decidable renaming decide -> Zd
open Go.Proofs.Tryz renaming prog -> MK
open Go.Proofs.YtgalafpinkflfaaGreatDoor.Rows renaming laid_sizar_rules_kinds -> Pq
open Bool renaming and_eq_true -> M3
open List renaming replicate -> MU, mapM_cons -> Ss, map_cons -> Pr, drop_drop -> Rp, take_append_drop -> SE
open Option renaming bind_eq_bind -> SD, bind_eq_some_iff -> PJ, map_eq_some_iff -> M0
open Option.some renaming injEq -> MS
open Go.DataW renaming trod -> Rl
open Prod.mk renaming injEq -> MV
open Go.DataW.agg renaming injEq -> SZ
open Go Go.Proofs
namespace Go.Vi
set_option maxHeartbeats 4000000
open Go.ChangeShapes Go.WideShapes Go.ChangeAt Go.RowKit Go.Proofs.YtgalafpinkflfaaGreatDoor
set_option maxRecDepth 100000
theorem ownK:ownKnob MK.godebug=none:=by kernel_rfl
theorem Jt:laidOutB MK=true:=by kernel_rfl
def kd(a b c d:Bool)(f g:Value):List Value:=[.bool a,.bool b,.bool c,.bool d,f,g]
def kf(k:Nat):Value:=.func (.func k) #[] #[]
def VZ:List Value :=
 kd false false false false .nilFunc .nilFunc++kd false false false true (kf 354) (kf 355)++kd false false false true (kf 356) (kf 357)++kd false true false true (kf 358) (kf 359) ++
 kd false false false true (kf 360) (kf 361)++kd true true false false (kf 362) (kf 364)++kd true true false false (kf 366) (kf 367)++kd false true false false (kf 368) (kf 369) ++
 kd false true true false (kf 370) (kf 371)++kd true false false false (kf 363) (kf 372)
noncomputable def n8(os:Os):World :=
 {World.holding MK os ⟨#[],#[],[]⟩ with heap:=(World.holding MK os ⟨#[],#[],[]⟩).heap.modify 0 fun
   | .cells _ t frozen=>.cells VZ.toArray t frozen
   | o=>o}
theorem zbk (os:Os) (args:Array Value):laidMetH MK [("sizar/rules.kinds",Pq)] ((n8 os).forCall (λ_ _=>0) ⟨#[],args,[]⟩).memory :=
 laidMetH_of_parts3 (fuel:=8) (laidMet_nil _ _) (by kernel_rfl) (by kernel_rfl)
def lookF(P:Program)(ks:List Nat)(bs:List UInt8):Option Nat:=ks.find? λk=>match P.funcs[k]? with
 | some fn=>(fn.name.toUTF8.data.toList==bs)&&(P.funcNamed fn.name==some k)
 | none=>false
theorem Fl{s t:String}(h:s.toUTF8.data.toList=t.toUTF8.data.toList):s=t:=by
 have h1:s.toUTF8=t.toUTF8:=by
  cases hs:s.toUTF8;cases ht:t.toUTF8
  rw[hs,ht] at h
  congr 1
  exact Array.toList_inj.1 h
 exact String.toByteArray_inj.1 h1
theorem we{P:Program}{ks:List Nat}{t:TypeId}{v:Value}{b:UInt8}{r:List UInt8}{k:Nat}(hv:funcToken P (t,v)=b::r)(hk:lookF P ks (b::r)=some k):v=.func (.func k) #[] #[]:=by
 obtain⟨f,fn,rfl,h1,h2,h3⟩:=funcToken_tells hv
 have h4:=List.find?_some hk
 split at h4
 ·rename_i Zx hfn
  simp only[M3,beq_iff_eq] at h4
  have:fn.name=Zx.name:=Fl (h3.trans h4.1.symm)
  rw[this,h4.2] at h2
  cases h2
  rfl
 ·simp at h4
def expect(P:Program)(ks:List Nat):Nat->TypeId->DataW (List UInt8)->Option (List Value)
 | 0,_,_=>none
 | n+1,t,d=>match P.underlying t with
  | some .bool=>match d with
   | .lit (.bool b)=>some [.bool b]
   | _=>none
  | some (.func ..)=>match d with
   | .nil=>some [.nilFunc]
   | .held (b::r)=>(lookF P ks (b::r)).map λk=>[.func (.func k) #[] #[]]
   | _=>none
  | some (.struct fs)=>match d with
   | .agg ds=>if dt P fs.toList 0 (P.cellsOf t) then (Yt (λf d=>expect P ks n f d) (fs.toList.map (·.type)) ds) else none
   | _=>none
  | some (.array m e)=>match d with
   | .agg ds=>if Zd (P.cellsOf t=m*P.cellsOf e)=true then Yt (λf d=>expect P ks n f d) (MU m e) ds else none
   | _=>none
  | _=>none
where
 Yt (g:TypeId->DataW (List UInt8)->Option (List Value)):List TypeId->List (DataW (List UInt8))->Option (List Value)
  | [],[]=>some []
  | t::ts,d::ds=>(g t d).bind λa=>(Yt g ts ds).map λb=>a++b
  | _,_=>none
theorem ug{P:Program}{g:TypeId->DataW (List UInt8)->Option (List Value)}{tr:TypeId->List Value->Option (DataW (List UInt8)×List MemPlace)}{cs:List Value}
  (hg:∀t d ys,g t d=some ys->∀c p,tr t c=some (d,p)->c=ys):∀(fs:List Field) (acc:Nat) (xs:List (DataW (List UInt8)×List MemPlace)) (ys:List Value),
  (fs.mapM λf=>tr f.type ((cs.drop f.offset).take (P.cellsOf f.type)))=some xs->dt P fs acc cs.length=true->expect.Yt g (fs.map (·.type)) (xs.map (·.1))=some ys->cs.drop acc=ys
 | [],acc,xs,ys,hm,hc,hz=>by
  simp at hm
  subst hm
  simp[expect.Yt] at hz
  subst hz
  simp[dt] at hc
  simp[hc]
 | f::fs,acc,xs,ys,hm,hc,hz=>by
  simp only[Ss,SD,PJ,Option.pure_def,MS] at hm
  obtain⟨x,hx,xs',hxs,rfl⟩:=hm
  simp only[dt,M3,beq_iff_eq] at hc
  simp only[Pr,expect.Yt,PJ,M0] at hz
  obtain⟨a,ha,b,hb,rfl⟩:=hz
  have h1:=hg _ _ _ ha _ x.2 (by rw[hx])
  have h2:=ug hg fs _ xs' b hxs hc.2 hb
  rw[<-h1,<-h2,hc.1,<-Rp,SE]
theorem xV{e:TypeId}{c:Nat}{g:TypeId->DataW (List UInt8)->Option (List Value)}{tr:TypeId->List Value->Option (DataW (List UInt8)×List MemPlace)}{cs:List Value}
  (hg:∀t d ys,g t d=some ys->∀c p,tr t c=some (d,p)->c=ys):∀(n k:Nat) (xs:List (DataW (List UInt8)×List MemPlace)) (ys:List Value),
  ((List.range' k n).mapM λi=>tr e ((cs.drop (i*c)).take c))=some xs->cs.length=(k+n)*c->expect.Yt g (MU n e) (xs.map (·.1))=some ys->cs.drop (k*c)=ys
 | 0,k,xs,ys,hm,hc,hz=>by
  simp at hm
  subst hm
  simp[expect.Yt] at hz
  subst hz
  exact List.drop_eq_nil_of_le (by rw[hc];simp)
 | n+1,k,xs,ys,hm,hc,hz=>by
  rw[List.range'_succ] at hm
  simp only[Ss,SD,PJ,Option.pure_def,MS] at hm
  obtain⟨x,hx,xs',hxs,rfl⟩:=hm
  rw[List.replicate_succ] at hz
  simp only[Pr,expect.Yt,PJ,M0] at hz
  obtain⟨a,ha,b,hb,rfl⟩:=hz
  have h1:=hg _ _ _ ha _ x.2 (by rw[hx])
  have h2:=xV hg n (k+1) xs' b hxs (by rw[hc];congr 1;omega) hb
  rw[<-h1,<-h2,Nat.add_mul,Nat.one_mul,<-Rp,SE]
theorem n9{P:Program}{ks:List Nat}{w:World}{sp:Nat->Bool}:∀(n:Nat) (t:TypeId) (d:DataW (List UInt8)) (ys:List Value),expect P ks n t d=some ys->∀(fuel:Nat) (cs:List Value) (p:List MemPlace),Rl (funcToken P) P w 0 sp true fuel t cs=some (d,p)->cs=ys
 | 0,_,_,_,h=>by simp[expect] at h
 | n+1,t,d,ys,h=>by
  intro fuel cs p ht
  cases fuel with
  | zero=>simp[Rl] at ht
  | succ fuel =>
   unfold expect at h
   unfold Rl at ht
   cases hu:P.underlying t with
   | none=>rw[hu] at h;simp at h
   | some td =>
    rw[hu] at h ht
    cases td with
    | bool =>
     simp only at h ht
     split at h
     ·split at ht<;>simp_all
     ·simp at h
    | func a b c =>
     simp only at h ht
     split at h
     ·split at ht<;>simp_all
     ·rename_i b r
      obtain⟨k,hk,rfl⟩:=M0.1 h
      split at ht
      all_goals (try (simp_all;done))
      ·rename_i fn first captured _ _
       simp only[if_true,MS,MV,DataW.held.injEq] at ht
       rw[we ht.1 hk]
     ·simp at h
    | struct fs =>
     simp only at h ht
     split at h
     ·split at h
      ·rename_i hc
       split at ht
       ·rename_i hl
        obtain⟨xs,hxs,he⟩:=M0.1 ht
        simp only[MV,SZ] at he
        obtain⟨rfl,_⟩:=he
        have:=ug (tr:=λt c=>Rl (funcToken P) P w 0 sp true fuel t c) (λt d ys hg c p hp=>n9 n t d ys hg fuel c p hp) fs.toList 0 xs ys hxs (by rw[hl];exact hc) h
        simpa using this
       ·simp at ht
      ·simp at h
     ·simp at h
    | array m e =>
     simp only at h ht
     split at h
     ·split at ht
      ·rename_i hl
       obtain⟨xs,hxs,he⟩:=M0.1 ht
       simp only[MV,SZ] at he
       obtain⟨rfl,_⟩:=he
       split at h
       ·rename_i hc
        rw[List.range_eq_range'] at hxs
        have:=xV (tr:=λt c=>Rl (funcToken P) P w 0 sp true fuel t c) (λt d ys hg c p hp=>n9 n t d ys hg fuel c p hp) m 0 xs ys hxs (by rw[hl,Nat.zero_add];exact of_decide_eq_true hc) h
        simpa using this
       ·simp at h
      ·simp at ht
     ·simp at h
    | _=>simp at h
def Ju:List Nat:=[354,355,356,357,358,359,360,361,362,364,366,367,368,369,370,371,363,372]
def zbl:DataW Unit:=match (Pq:DataW Unit) with
 | .iface _ d=>d
 | d=>d
theorem oa:MK.globalNamed "sizar/rules.kinds" = some 0:=by kernel_rfl
noncomputable def Ho:TypeId:=((MK.globals[0]?).map (·.type)).getD 0
theorem zx:(MK.globals[0]?).map (·.type)=some Ho:=by kernel_rfl
theorem uh:expect MK Ju 4 Ho zbl.funcsOut=some VZ:=by kernel_rfl
theorem wg {W:World} (h:laidMetH MK [("sizar/rules.kinds",Pq)] W):∃cs:Array Value,W.var? MK "sizar/rules.kinds" = some cs/\cs.toList=VZ:=by
 obtain⟨g,t,cs,fuel,p,h1,h2,h3,h4⟩:=laidMetH.funcs h (n:= "sizar/rules.kinds") (d:=zbl) (List.mem_singleton.2 rfl)
 rw[oa] at h1
 cases h1
 rw[zx] at h2
 cases h2
 exact⟨cs,h3,n9 4 _ _ _ uh fuel _ _ h4⟩
theorem qm{w:World}{av:Nat->Prop}{oR:Nat}{cs:Array Value}(hb:∀off,w.cell? ⟨oR,off,none⟩=cs[off]?)(XT:∀k,¬av k):∀(ys:List Value) (off:Nat),cs.toList.drop off=ys->T9 w av oR off (ys.map .v)
 | [],_,_=>by simp[T9]
 | y::ys,off,h=>by
  have h1:cs[off]? = some y:=by
   have:=congrArg List.head? h
   rw[List.head?_drop] at this
   simpa using this
  have h2:cs.toList.drop (off+1)=ys:=by
   rw[<-Rp,h];rfl
  simp only[Pr,T9]
  exact⟨⟨XT oR,y,by rw[hb,h1],by simp[TB]⟩,qm hb XT ys (off+1) h2⟩
theorem BQ:B2=VZ.map .v:=rfl
theorem BR {W:World} (h:laidMetH MK [("sizar/rules.kinds",Pq)] W):∀g cs,Or g=some cs->T9 W (On (λ_=>False) (λ_=>none) []) g 0 cs:=by
 intro g cs hg
 obtain⟨xs,h1,h2⟩:=wg h
 have h0:g=0/\cs=B2:=by
  unfold Or at hg
  split at hg
  ·exact⟨rfl,(Option.some.inj hg).symm⟩
  ·simp at hg
 obtain⟨rfl,rfl⟩:=h0
 rw[BQ]
 refine qm (cs:=xs) (λoff=>?_) mh _ 0 (by rw[List.drop_zero,h2])
 rw[World.var?,oa] at h1
 simp only[Option.bind_some] at h1
 unfold World.cell?
 split at h1
 ·rename_i c a b hh
  cases h1
  simp only[hh]
  rfl
 ·simp at h1
end Go.Vi
