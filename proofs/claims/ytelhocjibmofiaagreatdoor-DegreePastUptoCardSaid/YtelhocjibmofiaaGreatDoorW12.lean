/- A part of the proof; no conditions of its own. -/
import Derived.Test.YtelhocjibmofiaaGreatDoorW11
import Derived.LaidHandle
open Decidable renaming decide -> Zd
open Go.Proofs.Tryz renaming prog -> MJ
open List renaming mem_cons -> NF, drop_drop -> RD, take_append_drop -> Rq, drop_zero -> Pk, all_cons -> PR, contains_iff_mem -> Tk, length_map -> N1, getElem?_eq_getElem -> Nd, mem_map -> Nt, mem_of_getElem? -> NX, getElem?_map -> Om, getElem?_eq_some_iff -> MR, getElem_range -> T3, map_cons -> NW, replicate -> MS, mapM_cons -> Tc
open Go.Proofs.YtelhocjibmofiaaGreatDoor.Rows renaming uptoBulk -> OK, uptoBulkAll -> P1, laid_sizar_rules_kinds -> PO
open Bool renaming and_eq_true -> MT
open Go.DataW renaming trod -> QL, weights -> SP
open Prod.mk renaming injEq -> MP
open Option renaming bind_eq_some_iff -> Pw, map_eq_some_iff -> MV, bind_eq_bind -> Tl
open Go.World renaming cell? -> Rp
open Go.Vi.Uv renaming row -> MZ
open Go.Vi.zcc renaming ok_of -> Qo
open Option.some renaming injEq -> MM
open Go.DataW.agg renaming injEq -> TE
open Go Go.Proofs
namespace Go.Vi
set_option maxHeartbeats 4000000
open Go.ChangeShapes Go.WideShapes Go.ChangeAt Go.RowKit Go.Proofs.YtelhocjibmofiaaGreatDoor
set_option maxRecDepth 100000
def ς:Nat->aT->aT
 |0,l=>l
 |n+1,l=>.U7::ς n l
def plainW:On:=[3,4,9,22,23,24,26,27,29,55,46,95,188,190,298,299,300,302,310,308,312,121,123,125,47,49,56,58]
theorem Kg:AY MJ plainW=true:=by kernel_rfl
mutual
def Dp.wt:Dp->Nat
 | .sl es=>wtR es
 | .v _=>0
def wtL:dO->Nat
 | []=>0
 | d::ds=>d.wt+wtL ds
def wtR:bv->Nat
 | []=>0
 | r::rs=>1+wtL r+wtR rs
end
theorem Cz:∀(a b:dO),wtL (a++b)=wtL a+wtL b
 | [],b=>by simp[wtL]
 | d::a,b=>by simp only[List.cons_append,wtL,Cz a b];omega
theorem CA:∀{rs:bv},∀r∈rs,1+wtL r<=wtR rs
 | a::rs,r,hr=>by
  simp only[wtR]
  rcases NF.1 hr with rfl|hr
  ·omega
  ·have:=CA r hr;omega
theorem HS{H:Type}:∀(rs:bv) (ds:List (DataW H)),rs.length=ds.length->(∀(i:Nat) r d,rs[i]? = some r->ds[i]? = some d->wtL r+1<=OK d)->wtR rs<=P1 ds
 | [],_,_,_=>by simp[wtR]
 | r::rs,[],h,_=>by simp at h
 | r::rs,d::ds,h,hb=>by
  have h1:=hb 0 r d rfl rfl
  have h2:=HS rs ds (by simpa using h) λi r d hr hd=>hb (i+1) r d (by simpa using hr) (by simpa using hd)
  simp only[wtR,P1]
  omega
section
variable {w:World} {av:Nat->Prop} {P:Program}
theorem mE{cs:At}{S:TypeId->dO->Prop}{H:Type}{total:Nat}(hc:cs.length=total):∀(fs:List Field) (xs:List (DataW H)) (acc:Nat),dD P fs acc total=true ->
  (∀(i:Nat) f,fs[i]? = some f->∃ds x,xs[i]? = some x/\S f.type ds/\Ι w av ds ((cs.drop f.offset).take (P.cellsOf f.type))/\wtL ds+1<=OK x) ->
  ∃D,Ι w av D (cs.drop acc)/\(∀f∈fs,S f.type ((D.drop (f.offset-acc)).take (P.cellsOf f.type)))/\wtL D<=P1 xs
 | [],xs,acc,h,_=>by
  simp only[dD,beq_iff_eq] at h
  refine⟨[],?_,by simp,by simp[wtL]⟩
  rw[List.drop_of_length_le (by omega)]
  trivial
 | f::fs,xs,acc,h,hf=>by
  simp only[dD,MT,beq_iff_eq] at h
  obtain⟨rfl,h⟩:=h
  obtain⟨ds,x,hx,hs,hr,hb⟩:=hf 0 f rfl
  obtain⟨y,ys,rfl⟩:∃y ys,xs=y::ys:=by cases xs with
   | nil=>simp at hx
   | cons y ys=>exact⟨y,ys,rfl⟩
  obtain rfl:y=x:=by simpa using hx
  obtain⟨D,hD,hS,hB⟩:=mE hc fs ys _ h λi g hg=>hf (i+1) g (by simpa using hg)
  obtain⟨hle,hoff⟩:=tG h
  have hlen:ds.length=P.cellsOf f.type:=by
   have:=hr.length
   rw[this,List.length_take,List.length_drop]
   omega
  refine⟨ds++D,?_,λg hg=>?_,by rw[Cz];simp only[P1];omega⟩
  ·have:=hr.append hD
   rw[<-RD,Rq] at this
   exact this
  ·rcases NF.1 hg with rfl|hg
   ·rw[Nat.sub_self,Pk,List.take_append_of_le_length (by omega),<-hlen,List.take_length]
    exact hs
   ·have h1:=hoff g hg
    have hd:∀k,(ds++D).drop (ds.length+k)=D.drop k:=λk=>by rw[List.drop_append];simp
    rw[show g.offset-f.offset=ds.length+(g.offset-(f.offset+P.cellsOf f.type)) by omega,hd]
    exact hS g hg
theorem wJ{H:Type}{enc:TypeId×Value->H}{spare:Nat->Bool}{ts:On}(hts:AY P ts=true)(hav:∀k,¬av k):
  ∀(fuel:Nat) (t:TypeId) (cs:At) (d:DataW H) (ps:List MemPlace),t∈ts->QL enc P w 0 spare true fuel t cs=some (d,ps)->(d.weights P t).all (· <= reachBytes)=true ->
   ∃ds,Shp P fuel t ds/\Ι w av ds cs/\wtL ds+1<=OK d:=by
 intro fuel
 induction fuel with
 | zero=>intro t cs d ps _ h;simp[QL] at h
 | succ n ih =>
  intro t cs d ps ht h hw
  have hp:=Et hts ht
  split at hp
  ·rename_i hu
   obtain⟨b,rfl,hx⟩:=DataW.trod_bool hu h
   simp only[MP] at hx
   obtain⟨rfl,_⟩:=hx
   exact⟨[.v (.bool b)],by simp only[Shp,hu];exact⟨b,rfl⟩,by simp[Ι,UF],by simp[wtL,Dp.wt,OK]⟩
  ·rename_i k hu
   obtain⟨x,rfl,hx,hwf⟩:=DataW.trod_int hu h
   simp only[MP] at hx
   obtain⟨rfl,_⟩:=hx
   exact⟨[.v (.int k x)],by simp only[Shp,hu];exact⟨x,rfl,hwf⟩,by simp[Ι,UF],by simp[wtL,Dp.wt,OK]⟩
  ·rename_i hu
   obtain⟨s,rfl,hx,_⟩:=DataW.trod_string hu h
   simp only[MP] at hx
   obtain⟨rfl,_⟩:=hx
   have hs:s.size<=reachBytes:=by
    simp only[SP,PR,List.all_nil,Bool.and_true,decide_eq_true_eq,Array.length_toList] at hw
    exact hw
   exact⟨[.v (.string s)],by simp only[Shp,hu];exact⟨s,rfl,hs⟩,by simp[Ι,UF],by simp[wtL,Dp.wt,OK]⟩
  ·rename_i e hu
   simp only[MT,decide_eq_true_eq,Tk] at hp
   obtain⟨he,zfV⟩:=hp
   rcases DataW.trod_slice hu h with ⟨rfl,hx⟩|⟨a,len,cap,elems,rest,m,hm,rfl,hx,_,hle,_,hlen,hel,_⟩
   ·simp only[MP] at hx
    obtain⟨rfl,_⟩:=hx
    refine⟨[.sl []],by simp only[Shp,hu];exact⟨[],rfl,by simp,by simp⟩,?_,by simp[wtL,wtR,Dp.wt,OK]⟩
    simp only[Ι,UF,and_true]
    exact .inl ⟨trivial,none,0,rfl,λ_=>rfl⟩
   ·obtain rfl:n=m:=by omega
    simp only[MP] at hx
    obtain⟨rfl,_⟩:=hx
    simp only[SP,hu,PR,List.all_append,MT,decide_eq_true_eq,N1] at hw
    obtain⟨hw1,hw2,_⟩:=hw
    have key:∀i,i<len->∃ds ys,Shp P n e ds/\Ι w av ds ys/\w.cells? 0 (a.add (i*P.cellsOf e)) (P.cellsOf e)=some ys/\∀x,elems[i]? = some x->wtL ds+1<=OK x.1:=by
     intro i hi
     have h1:=hel i hi
     have h2:elems[i]? = some elems[i]:=Nd (by omega)
     generalize elems[i]=x at h2
     rw[h2] at h1
     obtain⟨ys,h3,h4⟩:=Pw.1 h1
     obtain⟨dx,px⟩:=x
     obtain⟨ds,h5,h6,h7⟩:=ih e ys dx px he h4 (je hw2 dx (Nt.2 ⟨(dx,px),NX h2,rfl⟩))
     exact⟨ds,ys,h5,h6,h3,λx hx=>by rw[h2] at hx;cases hx;exact h7⟩
    obtain⟨f,hf⟩:∃f:Nat->dO,∀i,i<len->∃ys,Shp P n e (f i)/\Ι w av (f i) ys/\w.cells? 0 (a.add (i*P.cellsOf e)) (P.cellsOf e)=some ys/\∀x,elems[i]? = some x->wtL (f i)+1<=OK x.1:=by
     classical
     refine⟨λi=>if hi:i<len then Classical.choose (key i hi) else [],λi hi=>?_⟩
     simp only[dif_pos hi]
     exact Classical.choose_spec (key i hi)
    refine⟨[.sl ((List.range len).map f)],?_,?_,?_⟩
    ·simp only[Shp,hu]
     refine⟨_,rfl,?_,?_⟩
     ·simp only[N1,List.length_range]
      have:len*P.bytesOf e<=(elems.length+rest.length)*P.bytesOf e:=Nat.mul_le_mul_right _ (by omega)
      omega
     ·intro r hr
      obtain⟨i,hi,rfl⟩:=Nt.1 hr
      obtain⟨ys,h1,_⟩:=hf i (by simpa using hi)
      exact h1
    ·simp only[Ι,UF,and_true]
     by_cases h0:len=0
     ·subst h0
      exact .inl ⟨by simp,some a,cap,rfl,by simp⟩
     ·have hsp:a.spot=none:=by
       obtain⟨ys,_,_,h3,_⟩:=hf 0 (by omega)
       obtain⟨h4,h5⟩:=xF h3
       have h6:ys[0]? = some ys[0]:=Nd (by omega)
       have h7:=h5 0 _ h6
       simp only[Nat.zero_mul,Addr.add,if_true] at h7
       unfold Rp at h7
       split at h7
       ·split at h7
        ·simp at h7
        ·rename_i hns
         cases hs:a.spot with
         | none=>rfl
         | some _=>simp[hs] at hns
       ·simp at h7
      obtain⟨T8,off,sp⟩:=a
      simp only at hsp
      subst hsp
      refine .inr ⟨T8,off,cap,P.cellsOf e,by simp,by simpa using hle,qo _ _ λi r hr=>?_⟩
      simp only[Om,MV] at hr
      obtain⟨j,hj,rfl⟩:=hr
      rw[MR] at hj
      obtain⟨hj1,hj2⟩:=hj
      simp only[T3] at hj2
      subst hj2
      obtain⟨ys,h1,h2,h3,_⟩:=hf i (by simpa using hj1)
      obtain⟨h4,h5⟩:=xF h3
      refine⟨by rw[h2.length,h4],nK hav _ _ _ h2 λk y hy=>?_⟩
      have:=h5 k y hy
      have e1:(((⟨T8,off,none⟩:Addr).add (i*P.cellsOf e)).add k)=⟨T8,off+i*P.cellsOf e+k,none⟩:=by
       rw[dc,dc]
      rwa[e1] at this
    ·have:=HS ((List.range len).map f) (elems.map (·.1)) (by simp[hlen]) λi r d hr hd=>by
      simp only[Om,MV] at hr hd
      obtain⟨j,hj,rfl⟩:=hr
      obtain⟨x,hx,rfl⟩:=hd
      obtain⟨hj1,hj2⟩:=MR.1 hj
      simp only[T3] at hj2
      subst hj2
      obtain⟨ys,_,_,_,h4⟩:=hf i (by simpa using hj1)
      exact h4 x hx
     simp only[wtL,Dp.wt,OK]
     omega
  ·rename_i fs hu
   simp only[MT,List.all_eq_true,Tk] at hp
   obtain⟨hc,hfs⟩:=hp
   obtain⟨xs,m,hm,hx,hlen,hxs,hel⟩:=DataW.trod_struct hu h
   obtain rfl:n=m:=by omega
   simp only[MP] at hx
   obtain⟨rfl,_⟩:=hx
   simp only[SP,hu] at hw
   have key:∀(i:Nat) f,fs.toList[i]? = some f->∃ds x,(xs.map (·.1))[i]? = some x/\Shp P n f.type ds/\Ι w av ds ((cs.drop f.offset).take (P.cellsOf f.type))/\wtL ds+1<=OK x:=by
    intro i f hi
    have hf:f∈fs.toList:=NX hi
    have hi':fs[i]? = some f:=by rw[<-Array.getElem?_toList];exact hi
    have hil:i<xs.length:=by
     rw[hxs]
     have:=(Array.getElem?_eq_some_iff.1 hi').1
     exact this
    have h1:=hel i f hi'
    have h2:xs[i]? = some xs[i]:=Nd hil
    generalize xs[i]=x at h2
    rw[h2] at h1
    obtain⟨dx,px⟩:=x
    obtain⟨ds,g1,g2,g3⟩:=ih f.type _ dx px (hfs f hf) h1 (fC hw i f.type dx (by simp[hi]) (by simp[h2]))
    exact⟨ds,dx,by simp[h2],g1,g2,g3⟩
   obtain⟨D,hD,hS,hB⟩:=mE hlen fs.toList (xs.map (·.1)) 0 hc key
   rw[Pk] at hD
   refine⟨D,?_,hD,by simp only[OK];omega⟩
   simp only[Shp,hu]
   refine⟨by rw[hD.length,hlen],λf hf=>?_⟩
   have:=hS f hf
   rwa[Nat.sub_zero] at this
  ·simp at hp
end
theorem CB:∀qs:NE,(qs.map λq=>q.U3.length).sum<=wtR (qs.map UA.row)
 | []=>by simp
 | q::qs=>by
  have h:∀l:bV,wtR (aW l)=l.length:=λl=>by
   induction l with
   | nil=>rfl
   | cons a l ih=>simp only[aW,NW,wtR,wtL,Dp.wt,List.length_cons] at ih ⊢;omega
  have:=CB qs
  have h2:=h q.U3
  simp only[NW,List.sum_cons,wtR,UA.row,wtL,Dp.wt] at h2 ⊢
  omega
theorem F0{w:T9}{ps:DO}{ds:dO}(h:ds.map .p=w.l)(hp:w.okP ps){n:Nat}(hn:wtL ds+1<=n)(hb:n<=1048576):∀x∈ps,(x.reqs.map λq=>q.U3.length).sum<=1048576:=by
 intro x hx
 have e:ds=[.sl (w.c.map MZ),.sl w.p,.sl (w.s.map zfx.row),.sl (w.f.map Uh.row)]:=by
  have:ds.map D.p=[Dp.sl (w.c.map MZ),.sl w.p,.sl (w.s.map zfx.row),.sl (w.f.map Uh.row)].map D.p:=h
  exact(List.map_inj_right λa b e=>by cases e;rfl).1 this
 have h1:=CA x.row (Nt.2 ⟨x,hx,rfl⟩)
 have h2:=CB x.reqs
 rw[hp.p] at e
 subst e
 simp only[wtL,Dp.wt] at hn
 simp only[TO.row,wtL,Dp.wt] at h1
 omega
theorem Ae{H:Type}{enc:TypeId×Value->H}{W:World}{base:Nat}{v:Value}{d:DataW H}{p:List MemPlace}
  (hok:Value.okWide MJ W .any base 29 v) (h:DataW.Trod enc MJ W 0 (λ_=>true) true 29 v d p) (hw:(d.weights MJ 29).all (· <= reachBytes)=true) (hb:OK d<=1048576) :
  ∃w:T9,w.ok0/\Rel W (Ub (λ_=>False) (λ_=>none) []) (λ_=>none) [] (.agg w.l) v/\∃ps,w.okP ps/\∀x∈ps,(x.reqs.map λq=>q.U3.length).sum<=1048576:=by
 unfold Value.okWide at hok
 rw[Tryz.underlying29] at hok
 obtain⟨cs,rfl,_,_⟩:=hok
 obtain⟨fuel,hf⟩:=h
 obtain⟨ds,h1,h2,h3⟩:=wJ Kg xG fuel 29 _ d p (by decide) hf hw
 obtain⟨w,e,hw0,ps,hp⟩:=Cy h1
 refine⟨w,hw0,?_,ps,hp,F0 e hp h3 hb⟩
 rw[<-e]
 simp only[Rel]
 exact⟨cs,rfl,h2.π⟩
theorem Af{H:Type}{ds gs:List (DataW H)}{d:DataW H}(h:Rows.uptoSmall H (ds++gs)=true)(hd:d∈ds):OK d<=1048576:=by
 have key:∀l:List (DataW H),d∈l->OK d<=P1 l:=by
  intro l
  induction l with
  | nil=>intro h;simp at h
  | cons x l ih =>
   intro h
   simp only[P1]
   rcases NF.1 h with rfl|h
   ·omega
   ·have:=ih h;omega
 have:=of_decide_eq_true h
 have:=key _ (List.mem_append_left gs hd)
 omega
end Go.Vi
open Go Go.Proofs
namespace Go.Vi
set_option maxRecDepth 1000000
set_option maxHeartbeats 0
def s19m0:zcc:=⟨103,[.ref (.ptr 31 0),SW 0,SW 5],(.U7::(.T7 [[SW 7],[SW 8]] 0 1)::(.T7 [[SW 8],[SW 7]] 0 1)::(.T7 [[ak ⟨#[97]⟩,SW 6,SW 1,T6 false,nq,.ref (.T7 1 0)],[ak ⟨#[98]⟩,SW 4,SW 1,T6 false,nq,.ref (.T7 2 0)]] 0 6)::.U7::(.T7 [[SW 7,SW 0,SW 5,SW 0,SW 6],[SW 8,SW 0,SW 5,SW 0,SW 3]] 0 5)::(.var [ak ⟨#[]⟩,SW 1,SW 1,SW 0,SW 0,SW 1,.ref (.T7 3 0)])::(.var [ak ⟨#[]⟩,SW 1,SW 1,SW 0,SW 0,SW 1,.ref (.T7 3 0)])::(.var [nq,SW 0,nq])::(.var [SW 0])::ς 6 ((.T7 [[SW 0,SW 1,SW 6],[SW 0,SW 2,SW 3],[SW 1,SW 3,SW 6],[SW 1,SW 4,SW 6],[SW 2,SW 3,SW 3],[SW 2,SW 4,SW 3],[SW 3,SW 5,SW 6],[SW 4,SW 5,SW 4]] 7 3)::ς 10 ((.var [SW 0])::(.var [SW 5])::(.T7 [[SW 0],[SW 0],[SW 0],[SW 0],[SW 0],[SW 0],[SW 0],[SW 0]] 0 1)::(.T7 [[.ref (.T7 34 1)],[.ref (.T7 36 2)],[.ref (.T7 40 2)],[.ref (.T7 44 2)],[.ref (.T7 48 2)],[.ref (.T7 58 1)]] 0 1)::(.var [.ref (.T7 16 7),.ref (.T7 29 0),.ref (.T7 30 0)])::.U7::.U7::(.T7 [[SW 0],[SW 2]] 1 1)::.U7::(.T7 [[SW 1],[SW 4],[SW 6]] 2 1)::ς 3 ((.T7 [[SW 3],[SW 8],[SW 10]] 2 1)::ς 3 ((.T7 [[SW 5],[SW 9],[SW 12]] 2 1)::ς 3 ((.T7 [[SW 7],[SW 11],[SW 14]] 2 1)::ς 9 ((.T7 [[SW 13],[SW 15]] 1 1)::ς 3 [.var [.ref (.ptr 31 0)]]))))))),.ret (.ref (.T7 66 0)) (.U7::(.T7 [[SW 7],[SW 8]] 0 1)::(.T7 [[SW 8],[SW 7]] 0 1)::(.T7 [[ak ⟨#[97]⟩,SW 6,SW 1,T6 false,nq,.ref (.T7 1 0)],[ak ⟨#[98]⟩,SW 4,SW 1,T6 false,nq,.ref (.T7 2 0)]] 0 6)::.U7::(.T7 [[SW 7,SW 0,SW 5,SW 0,SW 6],[SW 8,SW 0,SW 5,SW 0,SW 3]] 0 5)::(.var [ak ⟨#[]⟩,SW 1,SW 1,SW 0,SW 0,SW 1,.ref (.T7 3 0)])::(.var [ak ⟨#[]⟩,SW 1,SW 1,SW 0,SW 0,SW 1,.ref (.T7 3 0)])::(.var [nq,SW 0,nq])::(.var [SW 0])::ς 6 ((.T7 [[SW 0,SW 1,SW 6],[SW 0,SW 2,SW 3],[SW 1,SW 3,SW 6],[SW 1,SW 4,SW 6],[SW 2,SW 3,SW 3],[SW 2,SW 4,SW 3],[SW 3,SW 5,SW 6],[SW 4,SW 5,SW 4]] 7 3)::ς 10 ((.var [SW 0])::(.var [SW 5])::(.T7 [[SW 0],[SW 0],[SW 0],[SW 0],[SW 0],[SW 0],[SW 0],[SW 0]] 0 1)::(.T7 [[.ref (.T7 34 1)],[.ref (.T7 36 2)],[.ref (.T7 40 2)],[.ref (.T7 44 2)],[.ref (.T7 48 2)],[.ref (.T7 58 1)]] 0 1)::(.var [.ref (.T7 16 7),.ref (.T7 29 0),.ref (.T7 30 0)])::.U7::.U7::(.T7 [[SW 0],[SW 2]] 1 1)::.U7::(.T7 [[SW 1],[SW 4],[SW 6]] 2 1)::ς 3 ((.T7 [[SW 3],[SW 8],[SW 10]] 2 1)::ς 3 ((.T7 [[SW 5],[SW 9],[SW 12]] 2 1)::ς 3 ((.T7 [[SW 7],[SW 11],[SW 14]] 2 1)::ς 9 ((.T7 [[SW 13],[SW 15]] 1 1)::ς 3 ((.var [.ref (.ptr 31 0)])::ς 3 ((.T7 [[SW 16],[SW 0],[SW 2],[SW 4],[SW 6],[SW 12]] 0 1)::ς 18 [])))))))))⟩
theorem F1:s19m0.Ok MJ U2:=Qo UR (ms:=[]) (by kernel_rfl) trivial
def s19m1:zcc:=⟨102,[SW 6,.ref (.T7 16 7)],(.U7::(.T7 [[SW 7],[SW 8]] 0 1)::(.T7 [[SW 8],[SW 7]] 0 1)::(.T7 [[ak ⟨#[97]⟩,SW 6,SW 1,T6 false,nq,.ref (.T7 1 0)],[ak ⟨#[98]⟩,SW 4,SW 1,T6 false,nq,.ref (.T7 2 0)]] 0 6)::.U7::(.T7 [[SW 7,SW 0,SW 5,SW 0,SW 6],[SW 8,SW 0,SW 5,SW 0,SW 3]] 0 5)::(.var [ak ⟨#[]⟩,SW 1,SW 1,SW 0,SW 0,SW 1,.ref (.T7 3 0)])::(.var [ak ⟨#[]⟩,SW 1,SW 1,SW 0,SW 0,SW 1,.ref (.T7 3 0)])::(.var [nq,SW 0,nq])::(.var [SW 0])::ς 6 ((.T7 [[SW 0,SW 1,SW 6],[SW 0,SW 2,SW 3],[SW 1,SW 3,SW 6],[SW 1,SW 4,SW 6],[SW 2,SW 3,SW 3],[SW 2,SW 4,SW 3],[SW 3,SW 5,SW 6],[SW 4,SW 5,SW 4]] 7 3)::ς 10 [.var [SW 0],.var [SW 5]])),.ret (.ref (.ptr 31 0)) (.U7::(.T7 [[SW 7],[SW 8]] 0 1)::(.T7 [[SW 8],[SW 7]] 0 1)::(.T7 [[ak ⟨#[97]⟩,SW 6,SW 1,T6 false,nq,.ref (.T7 1 0)],[ak ⟨#[98]⟩,SW 4,SW 1,T6 false,nq,.ref (.T7 2 0)]] 0 6)::.U7::(.T7 [[SW 7,SW 0,SW 5,SW 0,SW 6],[SW 8,SW 0,SW 5,SW 0,SW 3]] 0 5)::(.var [ak ⟨#[]⟩,SW 1,SW 1,SW 0,SW 0,SW 1,.ref (.T7 3 0)])::(.var [ak ⟨#[]⟩,SW 1,SW 1,SW 0,SW 0,SW 1,.ref (.T7 3 0)])::(.var [nq,SW 0,nq])::(.var [SW 0])::ς 6 ((.T7 [[SW 0,SW 1,SW 6],[SW 0,SW 2,SW 3],[SW 1,SW 3,SW 6],[SW 1,SW 4,SW 6],[SW 2,SW 3,SW 3],[SW 2,SW 4,SW 3],[SW 3,SW 5,SW 6],[SW 4,SW 5,SW 4]] 7 3)::ς 10 ((.var [SW 0])::(.var [SW 5])::(.T7 [[SW 0],[SW 0],[SW 0],[SW 0],[SW 0],[SW 0],[SW 0],[SW 0]] 0 1)::(.T7 [[.ref (.T7 34 1)],[.ref (.T7 36 2)],[.ref (.T7 40 2)],[.ref (.T7 44 2)],[.ref (.T7 48 2)],[.ref (.T7 58 1)]] 0 1)::(.var [.ref (.T7 16 7),.ref (.T7 29 0),.ref (.T7 30 0)])::.U7::.U7::(.T7 [[SW 0],[SW 2]] 1 1)::.U7::(.T7 [[SW 1],[SW 4],[SW 6]] 2 1)::ς 3 ((.T7 [[SW 3],[SW 8],[SW 10]] 2 1)::ς 3 ((.T7 [[SW 5],[SW 9],[SW 12]] 2 1)::ς 3 ((.T7 [[SW 7],[SW 11],[SW 14]] 2 1)::ς 9 ((.T7 [[SW 13],[SW 15]] 1 1)::ς 3 [])))))))⟩
theorem F2:s19m1.Ok MJ U2:=Qo UR (ms:=[]) (by kernel_rfl) trivial
def s19m2:zcc:=⟨103,[.ref (.ptr 31 0),SW 0,SW 5],(.U7::(.T7 [[SW 7],[SW 8]] 0 1)::(.T7 [[SW 8],[SW 7]] 0 1)::(.T7 [[ak ⟨#[97]⟩,SW 6,SW 1,T6 false,nq,.ref (.T7 1 0)],[ak ⟨#[98]⟩,SW 4,SW 1,T6 false,nq,.ref (.T7 2 0)]] 0 6)::.U7::(.T7 [[SW 7,SW 0,SW 5,SW 0,SW 6],[SW 8,SW 0,SW 5,SW 0,SW 3]] 0 5)::(.var [ak ⟨#[]⟩,SW 1,SW 1,SW 0,SW 0,SW 1,.ref (.T7 3 0)])::(.var [ak ⟨#[]⟩,SW 1,SW 1,SW 0,SW 0,SW 1,.ref (.T7 3 0)])::(.var [nq,SW 0,nq])::(.var [SW 0])::ς 6 ((.T7 [[SW 0,SW 1,SW 6],[SW 0,SW 2,SW 3],[SW 1,SW 3,SW 6],[SW 1,SW 4,SW 6],[SW 2,SW 3,SW 3],[SW 2,SW 4,SW 3],[SW 3,SW 5,SW 6],[SW 4,SW 5,SW 4]] 7 3)::ς 10 ((.var [SW 0])::(.var [SW 5])::(.T7 [[SW 6],[SW 0],[SW 6],[SW 0],[SW 0],[SW 0],[SW 6],[SW 0]] 0 1)::(.T7 [[.ref (.T7 34 1)],[.ref (.T7 36 2)],[.ref (.T7 40 2)],[.ref (.T7 44 2)],[.ref (.T7 48 2)],[.ref (.T7 58 1)]] 0 1)::(.var [.ref (.T7 16 7),.ref (.T7 29 0),.ref (.T7 30 0)])::.U7::.U7::(.T7 [[SW 0],[SW 2]] 1 1)::.U7::(.T7 [[SW 1],[SW 4],[SW 6]] 2 1)::ς 3 ((.T7 [[SW 3],[SW 8],[SW 10]] 2 1)::ς 3 ((.T7 [[SW 5],[SW 9],[SW 12]] 2 1)::ς 3 ((.T7 [[SW 7],[SW 11],[SW 14]] 2 1)::ς 9 ((.T7 [[SW 13],[SW 15]] 1 1)::ς 3 ((.var [.ref (.ptr 31 0)])::ς 3 ((.T7 [[SW 16],[SW 0],[SW 2],[SW 4],[SW 6],[SW 12]] 0 1)::ς 18 [.var [.ref (.T7 66 0)],.var [SW 6]]))))))))),.ret (.ref (.T7 90 0)) (.U7::(.T7 [[SW 7],[SW 8]] 0 1)::(.T7 [[SW 8],[SW 7]] 0 1)::(.T7 [[ak ⟨#[97]⟩,SW 6,SW 1,T6 false,nq,.ref (.T7 1 0)],[ak ⟨#[98]⟩,SW 4,SW 1,T6 false,nq,.ref (.T7 2 0)]] 0 6)::.U7::(.T7 [[SW 7,SW 0,SW 5,SW 0,SW 6],[SW 8,SW 0,SW 5,SW 0,SW 3]] 0 5)::(.var [ak ⟨#[]⟩,SW 1,SW 1,SW 0,SW 0,SW 1,.ref (.T7 3 0)])::(.var [ak ⟨#[]⟩,SW 1,SW 1,SW 0,SW 0,SW 1,.ref (.T7 3 0)])::(.var [nq,SW 0,nq])::(.var [SW 0])::ς 6 ((.T7 [[SW 0,SW 1,SW 6],[SW 0,SW 2,SW 3],[SW 1,SW 3,SW 6],[SW 1,SW 4,SW 6],[SW 2,SW 3,SW 3],[SW 2,SW 4,SW 3],[SW 3,SW 5,SW 6],[SW 4,SW 5,SW 4]] 7 3)::ς 10 ((.var [SW 0])::(.var [SW 5])::(.T7 [[SW 6],[SW 0],[SW 6],[SW 0],[SW 0],[SW 0],[SW 6],[SW 0]] 0 1)::(.T7 [[.ref (.T7 34 1)],[.ref (.T7 36 2)],[.ref (.T7 40 2)],[.ref (.T7 44 2)],[.ref (.T7 48 2)],[.ref (.T7 58 1)]] 0 1)::(.var [.ref (.T7 16 7),.ref (.T7 29 0),.ref (.T7 30 0)])::.U7::.U7::(.T7 [[SW 0],[SW 2]] 1 1)::.U7::(.T7 [[SW 1],[SW 4],[SW 6]] 2 1)::ς 3 ((.T7 [[SW 3],[SW 8],[SW 10]] 2 1)::ς 3 ((.T7 [[SW 5],[SW 9],[SW 12]] 2 1)::ς 3 ((.T7 [[SW 7],[SW 11],[SW 14]] 2 1)::ς 9 ((.T7 [[SW 13],[SW 15]] 1 1)::ς 3 ((.var [.ref (.ptr 31 0)])::ς 3 ((.T7 [[SW 16],[SW 0],[SW 2],[SW 4],[SW 6],[SW 12]] 0 1)::ς 18 ((.var [.ref (.T7 66 0)])::(.var [SW 6])::ς 3 ((.T7 [[SW 16],[SW 5],[SW 2],[SW 8],[SW 10],[SW 14]] 0 1)::ς 18 [])))))))))))⟩
theorem F3:s19m2.Ok MJ U2:=Qo UR (ms:=[]) (by kernel_rfl) trivial
def s19m3:zcc:=⟨47,[SW 6,.ref (.T7 16 7),SW 0,SW 5],(.U7::(.T7 [[SW 7],[SW 8]] 0 1)::(.T7 [[SW 8],[SW 7]] 0 1)::(.T7 [[ak ⟨#[97]⟩,SW 6,SW 1,T6 false,nq,.ref (.T7 1 0)],[ak ⟨#[98]⟩,SW 4,SW 1,T6 false,nq,.ref (.T7 2 0)]] 0 6)::.U7::(.T7 [[SW 7,SW 0,SW 5,SW 0,SW 6],[SW 8,SW 0,SW 5,SW 0,SW 3]] 0 5)::(.var [ak ⟨#[]⟩,SW 1,SW 1,SW 0,SW 0,SW 1,.ref (.T7 3 0)])::(.var [ak ⟨#[]⟩,SW 1,SW 1,SW 0,SW 0,SW 1,.ref (.T7 3 0)])::(.var [nq,SW 0,nq])::(.var [SW 0])::ς 6 ((.T7 [[SW 0,SW 1,SW 6],[SW 0,SW 2,SW 3],[SW 1,SW 3,SW 6],[SW 1,SW 4,SW 6],[SW 2,SW 3,SW 3],[SW 2,SW 4,SW 3],[SW 3,SW 5,SW 6],[SW 4,SW 5,SW 4]] 7 3)::ς 10 [])),.ret (.UI [.ref (.T7 29 0),.ref (.T7 122 0),SW 0]) (.U7::(.T7 [[SW 7],[SW 8]] 0 1)::(.T7 [[SW 8],[SW 7]] 0 1)::(.T7 [[ak ⟨#[97]⟩,SW 6,SW 1,T6 false,nq,.ref (.T7 1 0)],[ak ⟨#[98]⟩,SW 4,SW 1,T6 false,nq,.ref (.T7 2 0)]] 0 6)::.U7::(.T7 [[SW 7,SW 0,SW 5,SW 0,SW 6],[SW 8,SW 0,SW 5,SW 0,SW 3]] 0 5)::(.var [ak ⟨#[]⟩,SW 1,SW 1,SW 0,SW 0,SW 1,.ref (.T7 3 0)])::(.var [ak ⟨#[]⟩,SW 1,SW 1,SW 0,SW 0,SW 1,.ref (.T7 3 0)])::(.var [nq,SW 0,nq])::(.var [SW 0])::ς 6 ((.T7 [[SW 0,SW 1,SW 6],[SW 0,SW 2,SW 3],[SW 1,SW 3,SW 6],[SW 1,SW 4,SW 6],[SW 2,SW 3,SW 3],[SW 2,SW 4,SW 3],[SW 3,SW 5,SW 6],[SW 4,SW 5,SW 4]] 7 3)::ς 12 ((.T7 [[SW 6],[SW 3],[SW 6],[SW 0],[SW 0],[SW 3],[SW 6],[SW 3]] 0 1)::ς 92 [.T7 [[T6 true],[T6 false],[T6 false],[T6 false],[T6 false],[T6 false]] 0 1])))⟩
theorem F4:s19m3.Ok MJ U2:=Qo UR (ms:=[s19m0,s19m1,s19m2]) (by kernel_rfl) ⟨F1,F2,F3,trivial⟩
def s19m4:zcc:=⟨13,[.agg [ak ⟨#[]⟩,SW 1,SW 1,SW 0,SW 0,SW 1,.ref (.T7 3 0)],.ref (.T7 5 0)],[.U7,.T7 [[SW 7],[SW 8]] 0 1,.T7 [[SW 8],[SW 7]] 0 1,.T7 [[ak ⟨#[97]⟩,SW 6,SW 1,T6 false,nq,.ref (.T7 1 0)],[ak ⟨#[98]⟩,SW 4,SW 1,T6 false,nq,.ref (.T7 2 0)]] 0 6,.U7,.T7 [[SW 7,SW 0,SW 5,SW 0,SW 6],[SW 8,SW 0,SW 5,SW 0,SW 3]] 0 5,.var [ak ⟨#[]⟩,SW 1,SW 1,SW 0,SW 0,SW 1,.ref (.T7 3 0)]],.ret (.UI [.agg [.ref (.T7 141 1),SW 1,.ref (.T7 122 0)],SW 0]) (.U7::(.T7 [[SW 7],[SW 8]] 0 1)::(.T7 [[SW 8],[SW 7]] 0 1)::(.T7 [[ak ⟨#[97]⟩,SW 6,SW 1,T6 false,nq,.ref (.T7 1 0)],[ak ⟨#[98]⟩,SW 4,SW 1,T6 false,nq,.ref (.T7 2 0)]] 0 6)::.U7::(.T7 [[SW 7,SW 0,SW 5,SW 0,SW 6],[SW 8,SW 0,SW 5,SW 0,SW 3]] 0 5)::(.var [ak ⟨#[]⟩,SW 1,SW 1,SW 0,SW 0,SW 1,.ref (.T7 3 0)])::ς 115 ((.T7 [[T6 true],[T6 false],[T6 false],[T6 false],[T6 false],[T6 false]] 0 1)::ς 18 ((.T7 [[SW 0,SW 0,SW 6],[SW 1,SW 1,SW 3]] 1 3)::ς 9 [])))⟩
theorem F5:s19m4.Ok MJ U2:=Qo UR (ms:=[s19m3]) (by kernel_rfl) ⟨F4,trivial⟩
def s19m5:zcc:=⟨14,[.agg [ak ⟨#[]⟩,SW 1,SW 1,SW 0,SW 0,SW 1,.ref (.T7 3 0)],.ref (.T7 5 0)],(.U7::(.T7 [[SW 7],[SW 8]] 0 1)::(.T7 [[SW 8],[SW 7]] 0 1)::(.T7 [[ak ⟨#[97]⟩,SW 6,SW 1,T6 false,nq,.ref (.T7 1 0)],[ak ⟨#[98]⟩,SW 4,SW 1,T6 false,nq,.ref (.T7 2 0)]] 0 6)::.U7::(.T7 [[SW 7,SW 0,SW 5,SW 0,SW 6],[SW 8,SW 0,SW 5,SW 0,SW 3]] 0 5)::(.var [ak ⟨#[]⟩,SW 1,SW 1,SW 0,SW 0,SW 1,.ref (.T7 3 0)])::ς 115 ((.T7 [[T6 true],[T6 false],[T6 false],[T6 false],[T6 false],[T6 false]] 0 1)::ς 18 ((.T7 [[SW 0,SW 0,SW 6],[SW 1,SW 1,SW 3]] 1 3)::ς 9 ((.var [.ref (.T7 141 1),SW 1,.ref (.T7 122 0)])::ς 20 ((.T7 [[T6 true],[T6 false]] 0 1)::ς 7 ((.var [nq,SW 0,.ref (.T7 172 0)])::(.var [ak ⟨#[]⟩,SW 1,SW 1,SW 0,SW 0,SW 1,.ref (.T7 183 0)])::(.T7 [[SW 7]] 0 1)::(.T7 [[ak ⟨#[]⟩,SW 6,SW 0,T6 true,nq,.ref (.T7 182 0)]] 0 6)::ς 13 [.T7 [[SW 3,SW 0,SW 0,SW 0,SW 1]] 0 5,.var [nq,SW 0,nq]])))))),.ret (.UI [SW 6,.ref (.T7 205 7),SW 0]) (.U7::(.T7 [[SW 7],[SW 8]] 0 1)::(.T7 [[SW 8],[SW 7]] 0 1)::(.T7 [[ak ⟨#[97]⟩,SW 6,SW 1,T6 false,nq,.ref (.T7 1 0)],[ak ⟨#[98]⟩,SW 4,SW 1,T6 false,nq,.ref (.T7 2 0)]] 0 6)::.U7::(.T7 [[SW 7,SW 0,SW 5,SW 0,SW 6],[SW 8,SW 0,SW 5,SW 0,SW 3]] 0 5)::(.var [ak ⟨#[]⟩,SW 1,SW 1,SW 0,SW 0,SW 1,.ref (.T7 3 0)])::ς 115 ((.T7 [[T6 true],[T6 false],[T6 false],[T6 false],[T6 false],[T6 false]] 0 1)::ς 18 ((.T7 [[SW 0,SW 0,SW 6],[SW 1,SW 1,SW 3]] 1 3)::ς 9 ((.var [.ref (.T7 141 1),SW 1,.ref (.T7 122 0)])::ς 20 ((.T7 [[T6 true],[T6 false]] 0 1)::ς 7 ((.var [nq,SW 0,.ref (.T7 172 0)])::(.var [ak ⟨#[]⟩,SW 1,SW 1,SW 0,SW 0,SW 1,.ref (.T7 183 0)])::(.T7 [[SW 7]] 0 1)::(.T7 [[ak ⟨#[]⟩,SW 6,SW 0,T6 true,nq,.ref (.T7 182 0)]] 0 6)::ς 13 ((.T7 [[SW 3,SW 0,SW 0,SW 0,SW 1]] 0 5)::(.var [nq,SW 0,nq])::ς 6 ((.T7 [[SW 0,SW 1,SW 6],[SW 0,SW 2,SW 3],[SW 1,SW 3,SW 6],[SW 1,SW 4,SW 6],[SW 2,SW 3,SW 3],[SW 2,SW 4,SW 3],[SW 3,SW 5,SW 6],[SW 4,SW 5,SW 4]] 7 3)::ς 10 []))))))))⟩
theorem F6:s19m5.Ok MJ U2:=Qo UR (ms:=[]) (by kernel_rfl) trivial
def s19m6:zcc:=⟨16,[.agg [ak ⟨#[]⟩,SW 1,SW 1,SW 0,SW 0,SW 1,.ref (.T7 3 0)],.ref (.T7 5 0),.ref (.T7 141 1)],(.U7::(.T7 [[SW 7],[SW 8]] 0 1)::(.T7 [[SW 8],[SW 7]] 0 1)::(.T7 [[ak ⟨#[97]⟩,SW 6,SW 1,T6 false,nq,.ref (.T7 1 0)],[ak ⟨#[98]⟩,SW 4,SW 1,T6 false,nq,.ref (.T7 2 0)]] 0 6)::.U7::(.T7 [[SW 7,SW 0,SW 5,SW 0,SW 6],[SW 8,SW 0,SW 5,SW 0,SW 3]] 0 5)::(.var [ak ⟨#[]⟩,SW 1,SW 1,SW 0,SW 0,SW 1,.ref (.T7 3 0)])::ς 115 ((.T7 [[T6 true],[T6 false],[T6 false],[T6 false],[T6 false],[T6 false]] 0 1)::ς 18 ((.T7 [[SW 0,SW 0,SW 6],[SW 1,SW 1,SW 3]] 1 3)::ς 9 ((.var [.ref (.T7 141 1),SW 1,.ref (.T7 122 0)])::ς 20 ((.T7 [[T6 true],[T6 false]] 0 1)::ς 7 ((.var [nq,SW 0,.ref (.T7 172 0)])::(.var [ak ⟨#[]⟩,SW 1,SW 1,SW 0,SW 0,SW 1,.ref (.T7 183 0)])::(.T7 [[SW 7]] 0 1)::(.T7 [[ak ⟨#[]⟩,SW 6,SW 0,T6 true,nq,.ref (.T7 182 0)]] 0 6)::ς 13 ((.T7 [[SW 3,SW 0,SW 0,SW 0,SW 1]] 0 5)::(.var [nq,SW 0,nq])::ς 6 ((.T7 [[SW 0,SW 1,SW 6],[SW 0,SW 2,SW 3],[SW 1,SW 3,SW 6],[SW 1,SW 4,SW 6],[SW 2,SW 3,SW 3],[SW 2,SW 4,SW 3],[SW 3,SW 5,SW 6],[SW 4,SW 5,SW 4]] 7 3)::ς 10 [])))))))),.ret (T6 true) (.U7::(.T7 [[SW 7],[SW 8]] 0 1)::(.T7 [[SW 8],[SW 7]] 0 1)::(.T7 [[ak ⟨#[97]⟩,SW 6,SW 1,T6 false,nq,.ref (.T7 1 0)],[ak ⟨#[98]⟩,SW 4,SW 1,T6 false,nq,.ref (.T7 2 0)]] 0 6)::.U7::(.T7 [[SW 7,SW 0,SW 5,SW 0,SW 6],[SW 8,SW 0,SW 5,SW 0,SW 3]] 0 5)::(.var [ak ⟨#[]⟩,SW 1,SW 1,SW 0,SW 0,SW 1,.ref (.T7 3 0)])::ς 115 ((.T7 [[T6 true],[T6 false],[T6 false],[T6 false],[T6 false],[T6 false]] 0 1)::ς 18 ((.T7 [[SW 0,SW 0,SW 6],[SW 1,SW 1,SW 3]] 1 3)::ς 9 ((.var [.ref (.T7 141 1),SW 1,.ref (.T7 122 0)])::ς 20 ((.T7 [[T6 true],[T6 false]] 0 1)::ς 7 ((.var [nq,SW 0,.ref (.T7 172 0)])::(.var [ak ⟨#[]⟩,SW 1,SW 1,SW 0,SW 0,SW 1,.ref (.T7 183 0)])::(.T7 [[SW 7]] 0 1)::(.T7 [[ak ⟨#[]⟩,SW 6,SW 0,T6 true,nq,.ref (.T7 182 0)]] 0 6)::ς 13 ((.T7 [[SW 3,SW 0,SW 0,SW 0,SW 1]] 0 5)::(.var [nq,SW 0,nq])::ς 6 ((.T7 [[SW 0,SW 1,SW 6],[SW 0,SW 2,SW 3],[SW 1,SW 3,SW 6],[SW 1,SW 4,SW 6],[SW 2,SW 3,SW 3],[SW 2,SW 4,SW 3],[SW 3,SW 5,SW 6],[SW 4,SW 5,SW 4]] 7 3)::ς 10 []))))))))⟩
theorem F7:s19m6.Ok MJ U2:=Qo UR (ms:=[]) (by kernel_rfl) trivial
def s19mR:zcc:=⟨5,[],[],.ret (T6 true) []⟩
theorem F8:s19mR.Ok MJ U2:=Qo UR (ms:=[s19m4,s19m5,s19m6]) (by kernel_rfl) ⟨F5,F6,F7,trivial⟩
theorem CC(h:aT):Ev MJ U2 5 [] h (T6 true) h:=Ev.zfM rfl (zcc.call F8 rfl) h
theorem qg{w:T9}(hw:w.ok0){ps:DO}(hp:w.okP ps)(hm:∀x∈ps,(x.reqs.map λq=>q.U3.length).sum<=1048576){st n T4 ST later:Int}(h:aT):Ev MJ Un 4 [.agg w.l,SW st,SW n,SW T4,SW ST,SW later] h (T6 true) h :=
 sK hw hp.p hp.k hp.l hm (λh=>Ev.zfL (CC h)) h
open Go.ChangeShapes Go.WideShapes Go.ChangeAt Go.RowKit Go.Proofs.YtelhocjibmofiaaGreatDoor
set_option maxRecDepth 100000
theorem ownK:ownKnob MJ.godebug=none:=by kernel_rfl
theorem Kh:laidOutB MJ=true:=by kernel_rfl
def kd(a b c d:Bool)(f g:Value):At:=[.bool a,.bool b,.bool c,.bool d,f,g]
def kf(k:Nat):Value:=.func (.func k) #[] #[]
def zfq:At :=
 kd false false false false .nilFunc .nilFunc++kd false false false true (kf 250) (kf 251)++kd false false false true (kf 252) (kf 253)++kd false true false true (kf 254) (kf 255) ++
 kd false false false true (kf 256) (kf 257)++kd true true false false (kf 258) (kf 260)++kd true true false false (kf 262) (kf 263)++kd false true false false (kf 264) (kf 265) ++
 kd false true true false (kf 266) (kf 268)++kd true false false false (kf 259) (kf 269)
noncomputable def pj(os:Os):World :=
 {World.holding MJ os ⟨#[],#[],[]⟩ with heap:=(World.holding MJ os ⟨#[],#[],[]⟩).heap.modify 0 fun
   | .cells _ t frozen=>.cells zfq.toArray t frozen
   | o=>o}
theorem zmd (os:Os) (args:BV):laidMetH MJ [("sizar/rules.kinds",PO)] ((pj os).forCall (λ_ _=>0) ⟨#[],args,[]⟩).memory :=
 laidMetH_of_parts3 (fuel:=8) (laidMet_nil _ _) (by kernel_rfl) (by kernel_rfl)
def lookF(P:Program)(ks:iS)(bs:List UInt8):Do:=ks.find? λk=>match P.funcs[k]? with
 | some fn=>(fn.name.toUTF8.data.toList==bs)&&(P.funcNamed fn.name==some k)
 | none=>false
theorem F9{s t:String}(h:s.toUTF8.data.toList=t.toUTF8.data.toList):s=t:=by
 have h1:s.toUTF8=t.toUTF8:=by
  cases hs:s.toUTF8;cases ht:t.toUTF8
  rw[hs,ht] at h
  congr 1
  exact Array.toList_inj.1 h
 exact String.toByteArray_inj.1 h1
theorem wK{P:Program}{ks:iS}{t:TypeId}{v:Value}{b:UInt8}{r:List UInt8}{k:Nat}(hv:funcToken P (t,v)=b::r)(hk:lookF P ks (b::r)=some k):v=.func (.func k) #[] #[]:=by
 obtain⟨f,fn,rfl,h1,h2,h3⟩:=funcToken_tells hv
 have h4:=List.find?_some hk
 split at h4
 ·rename_i fn' hfn
  simp only[MT,beq_iff_eq] at h4
  have:fn.name=fn'.name:=F9 (h3.trans h4.1.symm)
  rw[this,h4.2] at h2
  cases h2
  rfl
 ·simp at h4
def expect(P:Program)(ks:iS):Nat->TypeId->DataW (List UInt8)->Option (At)
 | 0,_,_=>none
 | n+1,t,d=>match P.underlying t with
  | some .bool=>match d with
   | .lit (.bool b)=>some [.bool b]
   | _=>none
  | some (.func ..)=>match d with
   | .nil=>some [.nilFunc]
   | .held (b::r)=>(lookF P ks (b::r)).map λk=>[.func (.func k) #[] #[]]
   | _=>none
  | some (.struct fs)=>match d with
   | .agg ds=>if dD P fs.toList 0 (P.cellsOf t) then (zin (λf d=>expect P ks n f d) (fs.toList.map (·.type)) ds) else none
   | _=>none
  | some (.array m e)=>match d with
   | .agg ds=>if Zd (P.cellsOf t=m*P.cellsOf e)=true then zin (λf d=>expect P ks n f d) (MS m e) ds else none
   | _=>none
  | _=>none
where
 zin (g:TypeId->DataW (List UInt8)->Option (At)):On->List (DataW (List UInt8))->Option (At)
  | [],[]=>some []
  | t::ts,d::ds=>(g t d).bind λa=>(zin g ts ds).map λb=>a++b
  | _,_=>none
theorem uV{P:Program}{g:TypeId->DataW (List UInt8)->Option (At)}{tr:TypeId->At->Option (DataW (List UInt8)×List MemPlace)}{cs:At}
  (hg:∀t d ys,g t d=some ys->∀c p,tr t c=some (d,p)->c=ys):∀(fs:List Field) (acc:Nat) (xs:List (DataW (List UInt8)×List MemPlace)) (ys:At),
  (fs.mapM λf=>tr f.type ((cs.drop f.offset).take (P.cellsOf f.type)))=some xs->dD P fs acc cs.length=true->expect.zin g (fs.map (·.type)) (xs.map (·.1))=some ys->cs.drop acc=ys
 | [],acc,xs,ys,hm,hc,hz=>by
  simp at hm
  subst hm
  simp[expect.zin] at hz
  subst hz
  simp[dD] at hc
  simp[hc]
 | f::fs,acc,xs,ys,hm,hc,hz=>by
  simp only[Tc,Tl,Pw,Option.pure_def,MM] at hm
  obtain⟨x,hx,xs',hxs,rfl⟩:=hm
  simp only[dD,MT,beq_iff_eq] at hc
  simp only[NW,expect.zin,Pw,MV] at hz
  obtain⟨a,ha,b,hb,rfl⟩:=hz
  have h1:=hg _ _ _ ha _ x.2 (by rw[hx])
  have h2:=uV hg fs _ xs' b hxs hc.2 hb
  rw[<-h1,<-h2,hc.1,<-RD,Rq]
theorem yH{e:TypeId}{c:Nat}{g:TypeId->DataW (List UInt8)->Option (At)}{tr:TypeId->At->Option (DataW (List UInt8)×List MemPlace)}{cs:At}
  (hg:∀t d ys,g t d=some ys->∀c p,tr t c=some (d,p)->c=ys):∀(n k:Nat) (xs:List (DataW (List UInt8)×List MemPlace)) (ys:At),
  ((List.range' k n).mapM λi=>tr e ((cs.drop (i*c)).take c))=some xs->cs.length=(k+n)*c->expect.zin g (MS n e) (xs.map (·.1))=some ys->cs.drop (k*c)=ys
 | 0,k,xs,ys,hm,hc,hz=>by
  simp at hm
  subst hm
  simp[expect.zin] at hz
  subst hz
  exact List.drop_eq_nil_of_le (by rw[hc];simp)
 | n+1,k,xs,ys,hm,hc,hz=>by
  rw[List.range'_succ] at hm
  simp only[Tc,Tl,Pw,Option.pure_def,MM] at hm
  obtain⟨x,hx,xs',hxs,rfl⟩:=hm
  rw[List.replicate_succ] at hz
  simp only[NW,expect.zin,Pw,MV] at hz
  obtain⟨a,ha,b,hb,rfl⟩:=hz
  have h1:=hg _ _ _ ha _ x.2 (by rw[hx])
  have h2:=yH hg n (k+1) xs' b hxs (by rw[hc];congr 1;omega) hb
  rw[<-h1,<-h2,Nat.add_mul,Nat.one_mul,<-RD,Rq]
theorem pk{P:Program}{ks:iS}{w:World}{sp:Nat->Bool}:∀(n:Nat) (t:TypeId) (d:DataW (List UInt8)) (ys:At),expect P ks n t d=some ys->∀(fuel:Nat) (cs:At) (p:List MemPlace),QL (funcToken P) P w 0 sp true fuel t cs=some (d,p)->cs=ys
 | 0,_,_,_,h=>by simp[expect] at h
 | n+1,t,d,ys,h=>by
  intro fuel cs p ht
  cases fuel with
  | zero=>simp[QL] at ht
  | succ fuel =>
   unfold expect at h
   unfold QL at ht
   cases hu:P.underlying t with
   | none=>rw[hu] at h;simp at h
   | some td =>
    rw[hu] at h ht
    cases td with
    | bool =>
     simp only at h ht
     split at h
     ·split at ht<;>simp_all
     ·simp at h
    | func a b c =>
     simp only at h ht
     split at h
     ·split at ht<;>simp_all
     ·rename_i b r
      obtain⟨k,hk,rfl⟩:=MV.1 h
      split at ht
      all_goals (try (simp_all;done))
      ·rename_i fn first captured _ _
       simp only[if_true,MM,MP,DataW.held.injEq] at ht
       rw[wK ht.1 hk]
     ·simp at h
    | struct fs =>
     simp only at h ht
     split at h
     ·split at h
      ·rename_i hc
       split at ht
       ·rename_i hl
        obtain⟨xs,hxs,he⟩:=MV.1 ht
        simp only[MP,TE] at he
        obtain⟨rfl,_⟩:=he
        have:=uV (tr:=λt c=>QL (funcToken P) P w 0 sp true fuel t c) (λt d ys hg c p hp=>pk n t d ys hg fuel c p hp) fs.toList 0 xs ys hxs (by rw[hl];exact hc) h
        simpa using this
       ·simp at ht
      ·simp at h
     ·simp at h
    | array m e =>
     simp only at h ht
     split at h
     ·split at ht
      ·rename_i hl
       obtain⟨xs,hxs,he⟩:=MV.1 ht
       simp only[MP,TE] at he
       obtain⟨rfl,_⟩:=he
       split at h
       ·rename_i hc
        rw[List.range_eq_range'] at hxs
        have:=yH (tr:=λt c=>QL (funcToken P) P w 0 sp true fuel t c) (λt d ys hg c p hp=>pk n t d ys hg fuel c p hp) m 0 xs ys hxs (by rw[hl,Nat.zero_add];exact of_decide_eq_true hc) h
        simpa using this
       ·simp at h
      ·simp at ht
     ·simp at h
    | _=>simp at h
def Ki:iS:=[250,251,252,253,254,255,256,257,258,260,262,263,264,265,266,268,259,269]
def zme:DataW Unit:=match (PO:DataW Unit) with
 | .iface _ d=>d
 | d=>d
theorem pm:MJ.globalNamed "sizar/rules.kinds" = some 0:=by kernel_rfl
noncomputable def HT:TypeId:=((MJ.globals[0]?).map (·.type)).getD 0
theorem Ag:(MJ.globals[0]?).map (·.type)=some HT:=by kernel_rfl
theorem uW:expect MJ Ki 4 HT zme.funcsOut=some zfq:=by kernel_rfl
theorem wL {W:World} (h:laidMetH MJ [("sizar/rules.kinds",PO)] W):∃cs:BV,W.var? MJ "sizar/rules.kinds" = some cs/\cs.toList=zfq:=by
 obtain⟨g,t,cs,fuel,p,h1,h2,h3,h4⟩:=laidMetH.funcs h (n:= "sizar/rules.kinds") (d:=zme) (List.mem_singleton.2 rfl)
 rw[pm] at h1
 cases h1
 rw[Ag] at h2
 cases h2
 exact⟨cs,h3,pk 4 _ _ _ uW fuel _ _ h4⟩
theorem ru{w:World}{av:Nat->Prop}{T8:Nat}{cs:BV}(hb:∀off,w.cell? ⟨T8,off,none⟩=cs[off]?)(hav:∀k,¬av k):∀(ys:At) (off:Nat),cs.toList.drop off=ys->Ur w av T8 off (ys.map .v)
 | [],_,_=>by simp[Ur]
 | y::ys,off,h=>by
  have h1:cs[off]? = some y:=by
   have:=congrArg List.head? h
   rw[List.head?_drop] at this
   simpa using this
  have h2:cs.toList.drop (off+1)=ys:=by
   rw[<-RD,h];rfl
  simp only[NW,Ur]
  exact⟨⟨hav T8,y,by rw[hb,h1],by simp[UF]⟩,ru hb hav ys (off+1) h2⟩
theorem CD:CF=zfq.map .v:=rfl
theorem CE {W:World} (h:laidMetH MJ [("sizar/rules.kinds",PO)] W):∀g cs,Un g=some cs->Ur W (Ub (λ_=>False) (λ_=>none) []) g 0 cs:=by
 intro g cs hg
 obtain⟨xs,h1,h2⟩:=wL h
 have h0:g=0/\cs=CF:=by
  unfold Un at hg
  split at hg
  ·exact⟨rfl,(Option.some.inj hg).symm⟩
  ·simp at hg
 obtain⟨rfl,rfl⟩:=h0
 rw[CD]
 refine ru (cs:=xs) (λoff=>?_) xG _ 0 (by rw[Pk,h2])
 rw[World.var?,pm] at h1
 simp only[Option.bind_some] at h1
 unfold Rp
 split at h1
 ·rename_i c a b hh
  cases h1
  simp only[hh]
  rfl
 ·simp at h1
end Go.Vi
