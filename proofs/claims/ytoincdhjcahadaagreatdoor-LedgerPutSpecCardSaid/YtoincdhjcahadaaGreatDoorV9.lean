/- LedgerPutSpec: part of the proof: an evaluator of the model's programs on abstract values, and its soundness. No conditions beyond the given statement's own. -/
import Derived.Test.YtoincdhjcahadaaGreatDoorV8
import Derived.Below
import Derived.Carry
open Decidable renaming decide → Qd
open List renaming all_eq_true → DK, all_cons → Fq, contains_iff_mem → IR, length_map → Fk, getElem?_eq_getElem → D7, mem_map → Eb, append_nil → HY
open Go.DataW renaming trod → GO, weights → Ig
open Prod.mk renaming injEq → Dm
open Bool renaming and_eq_true → Dr
namespace Go.Vi
open Go
section
variable {w:World} {av:Nat→Prop} {P:Program}
theorem xt{ts:List TypeId}(hts:uZ P ts=true){t:TypeId}(ht:t∈ts):(match P.underlying t with
 | some .bool|some (.int _)|some .string=>true
 | some (.slice e)=>ts.contains e&&Qd (0<P.cellsOf e)
 | some (.struct fs)=>dX P fs.toList 0 (P.cellsOf t)&&fs.toList.all fun f=>ts.contains f.type
 | _=>false)=true:=DK.1 hts t ht
theorem ml{H:Type}{enc:TypeId×Value→H}{spare:Nat→Bool}{ts:List TypeId}(hts:uZ P ts=true)(hav:∀k,¬av k):
  ∀(fuel:Nat) (t:TypeId) (cs:List Value) (d:DataW H) (ps:List MemPlace),t∈ts→GO enc P w 0 spare true fuel t cs=some (d,ps)→(d.weights P t).all (· ≤ reachBytes)=true →
   ∃ds,Shp P fuel t ds∧RelPL w av ds cs:=by
 intro fuel
 induction fuel with
 | zero=>intro t cs d ps _ h;simp[GO] at h
 | succ n ih =>
  intro t cs d ps ht h hw
  have hp:=xt hts ht
  split at hp
  ·rename_i hu
   obtain⟨b,rfl,_⟩:=DataW.trod_bool hu h
   exact⟨[.v (.bool b)],by simp only[Shp,hu];exact⟨b,rfl⟩,by simp[RelPL,RelP]⟩
  ·rename_i k hu
   obtain⟨x,rfl,_,hwf⟩:=DataW.trod_int hu h
   exact⟨[.v (.int k x)],by simp only[Shp,hu];exact⟨x,rfl,hwf⟩,by simp[RelPL,RelP]⟩
  ·rename_i hu
   obtain⟨s,rfl,hx,_⟩:=DataW.trod_string hu h
   simp only[Dm] at hx
   obtain⟨rfl,_⟩:=hx
   have hs:s.size≤reachBytes:=by
    simp only[Ig,Fq,List.all_nil,Bool.and_true,decide_eq_true_eq,Array.length_toList] at hw
    exact hw
   exact⟨[.v (.string s)],by simp only[Shp,hu];exact⟨s,rfl,hs⟩,by simp[RelPL,RelP]⟩
  ·rename_i e hu
   simp only[Dr,decide_eq_true_eq,IR] at hp
   obtain⟨he,hpos⟩:=hp
   rcases DataW.trod_slice hu h with ⟨rfl,_⟩|⟨a,len,cap,elems,rest,m,hm,rfl,hx,_,hle,_,hlen,hel,_⟩
   ·refine⟨[.sl []],by simp only[Shp,hu];exact⟨[],rfl,by simp,by simp⟩,?_⟩
    simp only[RelPL,RelP,and_true]
    exact .inl ⟨trivial,none,0,rfl,fun _=>rfl⟩
   ·obtain rfl:n=m:=by omega
    simp only[Dm] at hx
    obtain⟨rfl,_⟩:=hx
    simp only[Ig,hu,Fq,List.all_append,Dr,decide_eq_true_eq,Fk] at hw
    obtain⟨hw1,hw2,_⟩:=hw
    have key:∀i,i<len→∃ds ys,Shp P n e ds∧RelPL w av ds ys∧w.cells? 0 (a.add (i*P.cellsOf e)) (P.cellsOf e)=some ys:=by
     intro i hi
     have h1:=hel i hi
     have h2:elems[i]? = some elems[i]:=D7 (by omega)
     generalize elems[i]=x at h2
     rw[h2] at h1
     obtain⟨ys,h3,h4⟩:=Option.bind_eq_some_iff.1 h1
     obtain⟨dx,px⟩:=x
     obtain⟨ds,h5,h6⟩:=ih e ys dx px he h4 (fA hw2 dx (Eb.2 ⟨(dx,px),List.mem_of_getElem? h2,rfl⟩))
     exact⟨ds,ys,h5,h6,h3⟩
    obtain⟨f,hf⟩:∃f:Nat→List Dp,∀i,i<len→∃ys,Shp P n e (f i)∧RelPL w av (f i) ys∧w.cells? 0 (a.add (i*P.cellsOf e)) (P.cellsOf e)=some ys:=by
     classical
     refine⟨fun i=>if hi:i<len then Classical.choose (key i hi) else [],fun i hi=>?_⟩
     simp only[dif_pos hi]
     exact Classical.choose_spec (key i hi)
    refine⟨[.sl ((List.range len).map f)],?_,?_⟩
    ·simp only[Shp,hu]
     refine⟨_,rfl,?_,?_⟩
     ·simp only[Fk,List.length_range]
      have:len*P.bytesOf e≤(elems.length+rest.length)*P.bytesOf e:=Nat.mul_le_mul_right _ (by omega)
      omega
     ·intro r hr
      obtain⟨i,hi,rfl⟩:=Eb.1 hr
      obtain⟨ys,h1,_⟩:=hf i (by simpa using hi)
      exact h1
    ·simp only[RelPL,RelP,and_true]
     by_cases h0:len=0
     ·subst h0
      exact .inl ⟨by simp,some a,cap,rfl,by simp⟩
     ·have hsp:a.spot=none:=by
       obtain⟨ys,_,_,h3⟩:=hf 0 (by omega)
       obtain⟨h4,h5⟩:=rS h3
       have h6:ys[0]? = some ys[0]:=D7 (by omega)
       have h7:=h5 0 _ h6
       simp only[Nat.zero_mul,Addr.add,if_true] at h7
       unfold World.cell? at h7
       split at h7
       ·split at h7
        ·simp at h7
        ·rename_i hns
         cases hs:a.spot with
         | none=>rfl
         | some _=>simp[hs] at hns
       ·simp at h7
      obtain⟨blk,off,sp⟩:=a
      simp only at hsp
      subst hsp
      refine .inr ⟨blk,off,cap,P.cellsOf e,by simp,by simpa using hle,mj _ _ fun i r hr=>?_⟩
      simp only[List.getElem?_map,Option.map_eq_some_iff] at hr
      obtain⟨j,hj,rfl⟩:=hr
      rw[List.getElem?_eq_some_iff] at hj
      obtain⟨hj1,hj2⟩:=hj
      simp only[List.getElem_range] at hj2
      subst hj2
      obtain⟨ys,h1,h2,h3⟩:=hf i (by simpa using hj1)
      obtain⟨h4,h5⟩:=rS h3
      refine⟨by rw[h2.length,h4],kL hav _ _ _ h2 fun k y hy=>?_⟩
      have:=h5 k y hy
      have e1:(((⟨blk,off,none⟩:Addr).add (i*P.cellsOf e)).add k)=⟨blk,off+i*P.cellsOf e+k,none⟩:=by
       rw[cg,cg]
      rwa[e1] at this
  ·rename_i fs hu
   simp only[Dr,DK,IR] at hp
   obtain⟨hc,hfs⟩:=hp
   obtain⟨xs,m,hm,hx,hlen,hxs,hel⟩:=DataW.trod_struct hu h
   obtain rfl:n=m:=by omega
   simp only[Dm] at hx
   obtain⟨rfl,_⟩:=hx
   simp only[Ig,hu] at hw
   have key:∀f∈fs.toList,∃ds,Shp P n f.type ds∧RelPL w av ds ((cs.drop f.offset).take (P.cellsOf f.type)):=by
    intro f hf
    obtain⟨i,hi⟩:=List.mem_iff_getElem?.1 hf
    have hi':fs[i]? = some f:=by rw[←Array.getElem?_toList];exact hi
    have hil:i<xs.length:=by
     rw[hxs]
     have:=(Array.getElem?_eq_some_iff.1 hi').1
     exact this
    have h1:=hel i f hi'
    have h2:xs[i]? = some xs[i]:=D7 hil
    generalize xs[i]=x at h2
    rw[h2] at h1
    obtain⟨dx,px⟩:=x
    exact ih f.type _ dx px (hfs f hf) h1 (cm hw i f.type dx (by simp[hi]) (by simp[h2]))
   obtain⟨D,hD,hS⟩:=kK hlen fs.toList 0 hc key
   rw[List.drop_zero] at hD
   refine⟨D,?_,hD⟩
   simp only[Shp,hu]
   refine⟨by rw[hD.length,hlen],fun f hf=>?_⟩
   have:=hS f hf
   rwa[Nat.sub_zero] at this
  ·simp at hp
end
theorem jz(k:Nat):¬avs (fun _=>False) (fun _=>none) [] k:=fun ho=>ho.elim id (fun h=>absurd h bH)
open Go Go.RowKit Go.ChangeShapes Go.WideShapes
section
variable {H:Type} {enc:TypeId×Value→H} {P:Program}
theorem gQ(hl:laidOutB P=true){W W':World}(hb:Below W.heap.size W W'):∀{ts:List TypeId} {vs:List Value} {ds:List (DataW H)} {ps:List MemPlace},
  (ts.all fun t=>P.readableRec t&&Qd (t<P.types.size))=true→DataW.TrodAll enc P W 0 (fun _=>true) true ts vs ds ps→(∀x∈ps,x.block<W.heap.size) →
  DataW.TrodAll enc P W' 0 (fun b=>Qd (b<W.heap.size)) true ts vs ds ps
 | [],vs,ds,ps,_,h,_=>by
  obtain⟨rfl,rfl,rfl⟩:=trodAll_nil h
  rfl
 | t::ts,vs,ds,ps,ht,h,hps=>by
  obtain⟨v,vs',d,ds',p,q,rfl,rfl,rfl,h1,h2⟩:=trodAll_cons h
  simp only[Fq,Dr,decide_eq_true_eq] at ht
  refine⟨p,q,Below.trod hl ht.1.1 ht.1.2 h1 hb (fun x hx=>hps x (List.mem_append_left _ hx)),gQ hl hb (by simpa using ht.2) h2 (fun x hx=>hps x (List.mem_append_right _ hx)),rfl⟩
theorem u0{f:Func}{s:ChangeSpec}{apart:Bool}{W W':World}{args:Array Value}{ds gs:List (DataW H)}{before:List MemPlace}{b:TypeId}
  (hl:laidOutB P=true) (hp:(f.params.toList.all fun t=>P.readableRec t&&Qd (t<P.types.size))=true) (hv:s.vars=[]) (hr:f.resultTypes=#[b]) (hbt:P.underlying b=some .bool)
  (hW:DataW.Whole enc P f.params.toList s.vars apart W args.toList ds gs before) (hs:s.fn H ds={results:=[.lit (.bool true)],args:=ds}) (hb:Below W.heap.size W W') :
  s.post enc P f apart true false false W args (.bool true) W':=by
 have hW':=hW
 have hlt:=hW.lt
 obtain⟨p,q,hA,hV,rfl,_,_⟩:=hW
 rw[hv] at hV
 obtain⟨rfl,rfl⟩:=trodVars_none hV
 refine⟨ds,[],p++[],[],p,[],hW',?_,?_,?_,hb.frame _,fun h=>by cases h⟩
 ·simp only[HY,hs,hr,Value.resultList]
  exact⟨[],[],⟨1,by simp[GO,Value.cells,hbt]⟩,rfl,rfl⟩
 ·simp only[HY,hs]
  exact gQ hl hb hp hA (fun x hx=>hlt x (by simpa using hx))
 ·simp only[HY,hs,hv]
  rfl
end
end Go.Vi
namespace Go.Vi
open Go Go.RowKit
theorem tm{Γ:ae}{w:World}(hg:∀g cs,Γ g=some cs→RelCells w (avs (fun _=>False) (fun _=>none) []) g 0 cs):Rep Γ (fun _=>False) w (fun _=>none) [] :=
 ⟨fun blk ho=>absurd ho bH,fun blk ho=>ho.elim,fun b b' x x' k c c' hb=>by simp at hb,fun b x hb=>by simp at hb,hg⟩
theorem u1{P:Program}{Γ:ae}{f:FuncId}{args:List D}{d:D}{W:World}{vs:List Value}(hg:∀g cs,Γ g=some cs→RelCells W (avs (fun _=>False) (fun _=>none) []) g 0 cs)(he:Ev P Γ f args [] d [])(hr:RelL W (avs (fun _=>False) (fun _=>none) []) (fun _=>none) [] args vs):
  Calls P f vs.toArray W fun e W'=>∃v,e=.returned v∧Rel W' (fun _=>False) (fun _=>none) [] d v∧Go.RowKit.Below W.heap.size W W':=by
 have h1:=he (fun _=>False) W (fun _=>none) vs (tm hg) hr
 refine(callsIn_wide (n:=0)).1 (CallsIn.mono (h1:CallsIn (FW none) 0 P f _ W _) ?_)
 rintro e W' ⟨v,d2,h2,l',rfl,⟨rfl,rfl⟩,R',E',rd⟩
 refine⟨v,rfl,Rel.mono (fun blk off y hn hc=>⟨hc,fun h=>h.elim⟩) (fun b x hb=>by simp at hb) d2 v rd,?_⟩
 exact⟨E'.tape.2.1,E'.tape.1,E'.tape.2.2.1,E'.size,fun k hk=>E'.same k hk bH⟩
end Go.Vi
