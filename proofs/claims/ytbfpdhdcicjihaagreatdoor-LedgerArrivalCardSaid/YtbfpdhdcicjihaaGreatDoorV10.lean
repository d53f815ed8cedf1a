/- LedgerArrival: part of the proof: an evaluator of the model's programs on abstract values, and its soundness. No conditions beyond the given statement's own. -/
import Derived.Test.YtbfpdhdcicjihaaGreatDoorV9
import Derived.ChangeArms
import Derived.OpenShut
import Derived.Below
import Derived.Carry
open Decidable renaming decide → Qd
open Prod.mk renaming injEq → G4
open List renaming cons_append → KW, range' → IU, length_cons → HZ, range'_succ → Lc, flatten_cons → Ic, drop_append → Kz, mem_of_getElem? → HL, mem_cons → HB, drop_zero → IW, getElem?_eq_some_iff → G9, all_append → LZ, all_eq_true → Hs, all_cons → JR, contains_iff_mem → MT, length_map → HW, getElem?_eq_getElem → HE, mem_map → HS, append_nil → L0
open Go.CallsIn renaming mono → IX
open Nat renaming lt_of_lt_of_le → Ja, add_mul → IV, mul_le_mul_right → Ir
open Array renaming getElem?_toList → H0, length_toList → IK
open Bool renaming and_eq_true → G6
open Go.DataW renaming weightsEach → Nr, trod → KG, weights → Mp
namespace Go.Vi
open Go
section
variable {P:Program} {Γ:ae}
def oz:CallX:=fun _ _ _=>none
theorem pX{call:CallX}{t:List D}{h:List Blk}{o:Op}{r:CR}(hs:qB P Γ oz t h o=some r):qB P Γ call t h o=some r:=by
 unfold qB at hs ⊢
 split at hs
 ·simp[oz] at hs
 ·exact hs
 ·exact hs
theorem gx{call:CallX}{m:List Nat}{L:List Oper}{t1:List D}{h1:List Blk}{r:Exit×List D×List Blk}{os2:List Oper}:∀(os1:List Oper) (t:List D) (h:List Blk),a8 P Γ oz m L os1 t h=some (.normal,t1,h1)→a8 P Γ call m L os2 t1 h1=some r →
  a8 P Γ call m L (os1++os2) t h=some r
 | [],t,h,ha,hb=>by
  simp only[a8,Option.some.injEq,G4] at ha
  obtain⟨_,rfl,rfl⟩:=ha
  exact hb
 | o::os,t,h,ha,hb=>by
  simp only[a8,KW] at ha ⊢
  split at ha
  ·split at ha
   ·rename_i d h' hst
    rw[pX (call:=call) hst]
    simp only
    split at ha
    ·rename_i hm
     rw[if_pos hm]
     exact gx os _ _ ha hb
    ·simp at ha
   ·split at ha<;>simp at ha
   ·simp at ha
  ·exact gx os _ _ ha hb
  ·simp at ha
open Classical in
noncomputable def zH(x0:D)(a0:List D)(h0:List Blk)(r0:CR):CallX:=fun x args h=>if x=x0∧args=a0∧h=h0 then some r0 else none
theorem zI{x0:D}{a0:List D}{h0:List Blk}{r0:CR}(hr:CROk P Γ x0 a0 h0 r0):(zH x0 a0 h0 r0).Ok P Γ:=by
 intro x args h r he
 unfold zH at he
 split at he
 ·rename_i hh
  obtain⟨rfl,rfl,rfl⟩:=hh
  cases he
  exact hr
 ·simp at he
theorem CW.callPan{h0:List Blk}{rd:Bool}{id:Nat}{ops:Array Oper}{os1 rest:List Oper}{o:Oper}{t t1:List D}{h h1 hp:List Blk}{fv:Operand}{args:Array Operand}{ats:Array TypeId}{c:List PanicEntry}
  (hops:ops.toList=os1++o::rest) (hpre:a8 P Γ oz [] ops.toList os1 t h=some (.normal,t1,h1)) (ho:o.op=.call {callee:=.value fv,args,argTypes:=ats}) (hg:o.guard=none)
  (hcall:VInvP P Γ (evalD Γ t1 fv) (args.toList.map (evalD Γ t1)) h1 fun c2 h2=>c2=c∧h2=hp) (hm:marksOk hp []=true) :
  CW P Γ h0 rd (.region id ops false) {t:=t,h:=h,m:=[]} (.panic c) {t:=t1,h:=hp,m:=[]}:=by
 have hok:=zI (P:=P) (Γ:=Γ) (x0:=evalD Γ t1 fv) (a0:=args.toList.map (evalD Γ t1)) (h0:=h1) (r0:=.pan c hp) hcall
 refine CW.regionX (s:={t:=t,h:=h,m:=[]}) hok ?_
 show a8 P Γ _ [] ops.toList ops.toList t h=_
 conv=>lhs;arg 6;rw[hops]
 refine gx os1 t h hpre ?_
 simp only[a8,hg,aI]
 have e1:qB P Γ (zH (evalD Γ t1 fv) (args.toList.map (evalD Γ t1)) h1 (.pan c hp)) t1 h1 o.op=some (.pan c hp):=by
  unfold qB
  rw[ho]
  simp only[zH]
  simp
 rw[e1]
 simp only
 rw[if_pos hm]
theorem VPan.frzArgs{f:FuncId}{args:List D}{h:List Blk}{c0:List PanicEntry}(hi:D.innL 0 (vG h args)=true)(he:VPan P Γ f (vG h args) [] fun c h'=>c=c0∧h'=[]):VPan P Γ f args h fun c h'=>c=c0∧h'=h:=by
 intro O w l vs R ra
 have hav:∀l' k,avs (fun k=>avs O l h k∧¬lZ l h k) l' [] k→avs O l h k∧¬lZ l h k:=fun l' k ho=>ho.elim id (fun h=>absurd h bW)
 have R0:Rep Γ (fun k=>avs O l h k∧¬lZ l h k) w l []:=by
  refine⟨fun blk ho=>absurd ho bW,fun blk ho=>?_,fun b b' x x' k c c' hb=>by simp at hb,fun b x hb=>by simp at hb,fun g cs hg=>?_⟩
  ·rcases ho.1 with ho|ho
   ·exact R.obd blk ho
   ·exact(R.inb blk ho).1
  ·exact al (fun k hk=>(hav l k hk).1) (R.glo g cs hg)
 have ra0:=kw (av':=avs (fun k=>avs O l h k∧¬lZ l h k) l []) R (fun k hk=>hav l k hk) hi ra
 refine IX (he _ w l vs R0 ra0) ?_
 rintro e w' ⟨c,h2,l',rfl,⟨rfl,rfl⟩,R',E'⟩
 have E:Ext w l h w' l h:=⟨E'.size,fun blk hb _=>E'.same blk hb bW,fun blk ho=>.inl ho,fun b x hx=>⟨x,hx,x.le_refl,fun _=>rfl⟩,E'.tape⟩
 refine⟨_,h,l,rfl,⟨rfl,rfl⟩,⟨fun blk ho=>⟨Ja (R.inb blk ho).1 E'.size,(R.inb blk ho).2⟩,fun blk ho=>Ja (R.obd blk ho) E'.size,R.inj,fun b x hx=>?_,fun g cs hg=>?_⟩,E⟩
 ·by_cases hg:x=.gone
  ·subst hg;trivial
  exact BlkOk.ext E rfl (fun blk cp hl=>E'.same blk (R.inb blk ⟨b,x,cp,hx,hg,hl⟩).1 bW) (R.blk b x hx)
 ·exact RelCells.mono E.hc g 0 cs (R.glo g cs hg)
theorem RW.soundK{X:Ctx}{r:Option Nat}{m:List Nat}{ops:Array Oper}{Q':Exit→Act→World→Prop}{tail:List Nat}{K:List D→List Blk→Prop}
  (hN:∀t' h' a w,K t' h'→St Γ X {t:=t',h:=h',m:=m} a w→wpOpsIn (FW r) 0 P ops Q' tail a w):∀(os:List Oper) (i:Nat) (t:List D) (h:List Blk) (more:List Oper),ops.toList.drop i=os++more→RW P Γ m ops.toList false os t h K →
  ∀(a:Act) (w:World),St Γ X {t:=t,h:=h,m:=m} a w→wpOpsIn (FW r) 0 P ops Q' (IU i os.length++tail) a w:=by
 intro os
 induction os with
 | nil =>
  intro i t h more hd hr a w hs
  exact hN _ _ _ _ hr hs
 | cons o os ih =>
  intro i t h more hd hr a w hs
  have ho:ops[i]? = some o:=by
   rw[←H0]
   have:=congrArg (·[0]?) hd
   simpa using this
  have hd':ops.toList.drop (i+1)=os++more:=by
   have:=congrArg (List.drop 1) hd
   simpa[Nat.add_comm] using this
  simp only[HZ,Lc,KW,wpOpsIn,ho]
  rcases hr with hr|⟨_,hr⟩
  ·exact ly rfl hr (fun d h' a' w' hk hs'=>ih (i+1) _ _ _ hd' hk.2 a' w' hs') hs
  ·exact jO rfl hr (fun d h' a' w' hk hs'=>ih (i+1) _ _ _ hd' hk a' w' hs') hs
theorem CW.symPan(ok:POk P){I:Inl}(hI:fe P Γ I){h0:List Blk}{rd:Bool}{id:Nat}{ops:Array Oper}{os1 rest:List Oper}{o:Oper}{t t1:List D}{h h1 hp:List Blk}(as:List Ans){φ:List Prop}{fv:Operand}{args:Array Operand}{ats:Array TypeId}{c:List PanicEntry}{m:List Nat}
  (hops:ops.toList=os1++o::rest) (hm:marksOk h m=true) (hsym:gt P Γ I m ops.toList false os1 [] t h as=some (t1,h1,[],φ)) (hφ:AllP φ) (ho:o.op=.call {callee:=.value fv,args,argTypes:=ats}) (hg:o.guard=none)
  (hcall:VInvP P Γ (evalD Γ t1 fv) (args.toList.map (evalD Γ t1)) h1 fun c2 h2=>c2=c∧h2=hp) (hmp:marksOk hp m=true) :
  CW P Γ h0 rd (.region id ops false) {t:=t,h:=h,m:=m} (.panic c) {t:=t1,h:=hp,m:=m}:=by
 intro X r _ _ a w hst
 have hRW:=d7 (K:=fun t' h'=>t'=t1∧h'=h1) ok hI ⟨rfl,rfl⟩ _ _ _ _ _ _ StkOk.nil hm hsym hφ
 refine wpIn_region ?_
 have hlen:ops.size=os1.length+(rest.length+1):=by rw[←IK,hops];simp
 have hrange:List.range ops.size=IU 0 os1.length++(os1.length::IU (os1.length+1) rest.length):=by
  rw[hlen,List.range_eq_range',←List.range'_append_1,Lc,Nat.zero_add]
 rw[hrange]
 have hoi:ops[os1.length]? = some o:=by rw[←H0,hops];simp
 refine RW.soundK (X:=X) (r:=r) (m:=m) ?_ os1 0 t h (o::rest) (by simpa using hops) hRW a w hst
 rintro t' h' a' w' ⟨rfl,rfl⟩ ⟨l,R,E,rt,rd'⟩
 simp only[wpOpsIn,hoi]
 rw[if_pos (fG hg)]
 refine⟨fun _ _=>trivial,?_⟩
 rw[Oper.semAt_eq _ _ _ (by intro c hc;rw[ho] at hc;simp at hc)]
 have e1:(execOp a'.eval o).run P w'=(do let d ←Deferred.ofValue (a'.eval fv) (args.toList.map a'.eval).toArray;invoke d.target d.args:Sem Next).run P w':=by
  unfold execOp
  rw[ho]
  simp only[resolve]
  congr 3
  rw[←Array.toList_map]
 rw[e1]
 exact(hcall:VInvP P Γ _ _ h' fun c2 h2=>c2=c∧h2=hp) X.O w' l _ _ R (aA R rt fv) (cH R rt args.toList) r o a' _ _ fun c2 h2 l2 w2 ⟨g1,g2⟩ g3 g4=>by
  subst g1;subst g2
  exact⟨by simp,_,⟨rfl,rfl⟩,l2,g3,E.trans g4,g4.relL rt,DefOk.mono g4.keep hmp rd'⟩
theorem VPan.glob0{Γ':ae}{f:FuncId}{args:List D}{h:List Blk}{K:List PanicEntry→List Blk→Prop}(he:VPan P (fun _=>none) f args h K):VPan P Γ' f args h K:=by
 intro O w l vs R ra
 refine IX (he O w l vs (R.less (GLe.none Γ')) ra) ?_
 rintro e w' ⟨c,h2,l',rfl,hq,R',E'⟩
 exact⟨c,h2,l',rfl,hq,R.more E' R',E'⟩
end
section
variable {P:Program} {Γ:ae} {O:Nat→Prop} {w:World} {l:Loc} {h:List Blk}
variable {X:Ctx} {r:Option Nat}
abbrev births(l:List (D×D×Nat)):List Nat:=l.map fun e=>e.2.2
end
theorem pY{sz:Nat}:∀(es:List (List D)) (n:Nat) (row:List D),(∀r∈es,r.length=sz)→es[n]? = some row→∃rest,es.flatten.drop (n*sz)=row++rest
 | [],n,row,_,h=>by simp at h
 | e::es,0,row,hs,h=>by
  simp at h;subst h
  exact⟨es.flatten,by simp⟩
 | e::es,n+1,row,hs,h=>by
  simp only[List.getElem?_cons_succ] at h
  obtain⟨rest,hr⟩:=pY es n row (fun r hr=>hs r (by simp[hr])) h
  refine⟨rest,?_⟩
  have he:e.length=sz:=hs e (by simp)
  rw[Ic,List.drop_append_of_le_length' e es.flatten n sz he,hr]
where
 List.drop_append_of_le_length' (e t:List D) (n sz:Nat) (he:e.length=sz):(e++t).drop ((n+1)*sz)=t.drop (n*sz):=by
  rw[show(n+1)*sz=e.length+n*sz by rw[he,IV];omega,Kz]
  simp
theorem kV{sz:Nat}:∀(es:List (List D)) (n:Nat) (new:List D),(∀r∈es,r.length=sz)→new.length=sz→n<es.length→aF es.flatten (n*sz) new=(es.set n new).flatten
 | [],n,new,_,_,h=>by simp at h
 | e::es,0,new,hs,hn,_=>by
  have he:e.length=sz:=hs e (by simp)
  simp[aF,hn,←he]
 | e::es,n+1,new,hs,hn,h=>by
  have he:e.length=sz:=hs e (by simp)
  have ih:=kV es n new (fun r hr=>hs r (by simp[hr])) hn (by simpa using h)
  simp only[List.set_cons_succ,Ic,←ih]
  unfold aF
  have e1:(n+1)*sz=e.length+n*sz:=by rw[he,IV];omega
  rw[e1,List.take_append,Kz]
  have h1:List.take (e.length+n*sz) e=e:=List.take_of_length_le (by omega)
  have h2:List.drop (e.length+n*sz+new.length) e=[]:=List.drop_eq_nil_of_le (by omega)
  rw[h1,h2]
  have h3:e.length+n*sz - e.length=n*sz:=by omega
  have h4:e.length+n*sz+new.length - e.length=n*sz+new.length:=by omega
  rw[h3,h4]
  simp[List.append_assoc]
theorem tf{sz:Nat}:∀(es:List (List D)),(∀r∈es,r.length=sz)→es.flatten.length=es.length*sz
 | [],_=>by simp
 | e::es,hs=>by
  rw[Ic,List.length_append,tf es (fun r hr=>hs r (by simp[hr])),hs e (by simp),HZ,IV];omega
section
variable {P:Program} {h:List Blk} {b sz:Nat} {es:List (List D)}
theorem zJ{ty:TypeId}(ha:wr P ty=some true)(hz:szOf P ty=some sz)(hb:h[b]? = some (.var es.flatten))(hs:∀r∈es,r.length=sz){n:Nat}{row:List D}(hn:es[n]? = some row):aD P h ty (.ref (.ptr b (n*sz)))=some (.agg row):=by
 obtain⟨rest,hr⟩:=pY es n row hs hn
 have hl:row.length=sz:=hs row (HL hn)
 unfold aD
 simp only[hb,hr,cm,ha,hz]
 rw[if_pos (by simp;omega),←hl]
 simp
theorem wB{ty:TypeId}{x:D}{new:List D}(hx:x.cells=some new)(hz:szOf P ty=some sz)(hl:new.length=sz)(hb:h[b]? = some (.var es.flatten))(hs:∀r∈es,r.length=sz){n:Nat}(hn:n<es.length):aw P h ty (.ref (.ptr b (n*sz))) x=some (h.set b (.var (es.set n new).flatten)):=by
 unfold aw
 simp only[hx,hz,hl,hb]
 have:(n+1)*sz≤es.length*sz:=Ir _ hn
 rw[IV] at this
 rw[if_pos trivial,if_pos (by rw[tf es hs];omega),kV es n new hs hl hn]
end
def Shp(P:Program):Nat→TypeId→List Dp→Prop
 | 0,_,_=>False
 | n+1,t,ds=>match P.underlying t with
  | some .bool=>∃b,ds=[.v (.bool b)]
  | some (.int k)=>∃x,ds=[.v (.int k x)]∧(Lit.int k x).wf=true
  | some .string=>∃s,ds=[.v (.string s)]∧s.size≤reachBytes
  | some (.slice e)=>∃es,ds=[.sl es]∧es.length*P.bytesOf e≤reachBytes∧∀r∈es,Shp P n e r
  | some (.struct fs)=>ds.length=P.cellsOf t∧∀f∈fs.toList,Shp P n f.type ((ds.drop f.offset).take (P.cellsOf f.type))
  | _=>False
def ey(P:Program):List Field→Nat→Nat→Bool
 | [],acc,total=>acc==total
 | f::fs,acc,total=>(f.offset==acc)&&ey P fs (acc+P.cellsOf f.type) total
def tg(P:Program)(ts:List TypeId):Bool:=ts.all fun t=>match P.underlying t with
 | some .bool|some (.int _)|some .string=>true
 | some (.slice e)=>ts.contains e&&Qd (0<P.cellsOf e)
 | some (.struct fs)=>ey P fs.toList 0 (P.cellsOf t)&&fs.toList.all fun f=>ts.contains f.type
 | _=>false
def RelPL(w:World)(av:Nat→Prop):List Dp→List Value→Prop
 | [],[]=>True
 | d::ds,y::ys=>RelP w av d y∧RelPL w av ds ys
 | _,_=>False
section
variable {w:World} {av:Nat→Prop}
theorem RelPL.length:∀{ds:List Dp} {ys:List Value},RelPL w av ds ys→ds.length=ys.length
 | [],[],_=>rfl
 | _::_,_::_,h=>by simp[RelPL.length h.2]
 | [],_::_,h=>h.elim
 | _::_,[],h=>h.elim
theorem RelPL.append:∀{ds ds':List Dp} {ys ys':List Value},RelPL w av ds ys→RelPL w av ds' ys'→RelPL w av (ds++ds') (ys++ys')
 | [],_,[],_,_,h=>h
 | _::_,_,_::_,_,h,h'=>⟨h.1,RelPL.append h.2 h'⟩
 | [],_,_::_,_,h,_=>h.elim
 | _::_,_,[],_,h,_=>h.elim
theorem pZ{P:Program}:∀{fs:List Field} {acc total:Nat},ey P fs acc total=true→acc≤total∧∀f∈fs,acc≤f.offset
 | [],acc,total,h=>by simp only[ey,beq_iff_eq] at h;exact⟨by omega,by simp⟩
 | f::fs,acc,total,h=>by
  simp only[ey,G6,beq_iff_eq] at h
  obtain⟨h1,h2⟩:=pZ h.2
  refine⟨by omega,fun g hg=>?_⟩
  rcases HB.1 hg with rfl|hg
  ·omega
  ·have:=h2 g hg;omega
theorem kW{P:Program}{cs:List Value}{S:TypeId→List Dp→Prop}{total:Nat}(hc:cs.length=total):∀(fs:List Field) (acc:Nat),ey P fs acc total=true →
  (∀f∈fs,∃ds,S f.type ds∧RelPL w av ds ((cs.drop f.offset).take (P.cellsOf f.type))) →
  ∃D,RelPL w av D (cs.drop acc)∧∀f∈fs,S f.type ((D.drop (f.offset - acc)).take (P.cellsOf f.type))
 | [],acc,h,_=>by
  simp only[ey,beq_iff_eq] at h
  refine⟨[],?_,by simp⟩
  rw[List.drop_of_length_le (by omega)]
  trivial
 | f::fs,acc,h,hf=>by
  simp only[ey,G6,beq_iff_eq] at h
  obtain⟨rfl,h⟩:=h
  obtain⟨ds,hs,hr⟩:=hf f (List.mem_cons_self ..)
  obtain⟨D,hD,hS⟩:=kW hc fs _ h (fun g hg=>hf g (List.mem_cons_of_mem _ hg))
  obtain⟨hle,hoff⟩:=pZ h
  have hlen:ds.length=P.cellsOf f.type:=by
   have:=hr.length
   rw[this,List.length_take,List.length_drop]
   omega
  refine⟨ds++D,?_,fun g hg=>?_⟩
  ·have:=hr.append hD
   rw[←List.drop_drop,List.take_append_drop] at this
   exact this
  ·rcases HB.1 hg with rfl|hg
   ·rw[Nat.sub_self,IW,List.take_append_of_le_length (by omega),←hlen,List.take_length]
    exact hs
   ·have h1:=hoff g hg
    have hd:∀k,(ds++D).drop (ds.length+k)=D.drop k:=fun k=>by rw[Kz];simp
    rw[show g.offset - f.offset=ds.length+(g.offset - (f.offset+P.cellsOf f.type)) by omega,hd]
    exact hS g hg
theorem na{blk c:Nat}:∀(es:List (List Dp)) (off:Nat),(∀i e,es[i]? = some e→e.length=c∧RelCells w av blk (off+i*c) e)→RelRows w av blk c off es
 | [],_,_=>trivial
 | e::es,off,h=>by
  obtain⟨h1,h2⟩:=h 0 e rfl
  refine⟨h1,by simpa using h2,na es (off+c) fun i e' he=>?_⟩
  obtain⟨h3,h4⟩:=h (i+1) e' (by simpa using he)
  refine⟨h3,?_⟩
  rw[show off+c+i*c=off+(i+1)*c by rw[IV];omega]
  exact h4
theorem kX(hav:∀k,¬av k){blk:Nat}:∀(ds:List Dp) (ys:List Value) (off:Nat),RelPL w av ds ys→(∀(j:Nat) (y:Value),ys[j]? = some y→w.cell? ⟨blk,off+j,none⟩=some y)→RelCells w av blk off ds
 | [],_,_,_,_=>trivial
 | d::ds,[],_,r,_=>r.elim
 | d::ds,y::ys,off,r,hc=>by
  refine⟨⟨hav _,y,by simpa using hc 0 y rfl,r.1⟩,kX hav ds ys (off+1) r.2 fun j z hz=>?_⟩
  have:=hc (j+1) z (by simpa using hz)
  rwa[show off+(j+1)=off+1+j by omega] at this
theorem th{a:Addr}{n:Nat}{cs:List Value}(h:w.cells? 0 a n=some cs):cs.length=n∧∀(j:Nat) (y:Value),cs[j]? = some y→w.cell? (a.add j)=some y:=by
 obtain⟨h1,h2,h3⟩:=World.cells?_some h
 refine⟨h2,fun j y hy=>?_⟩
 have hj:j<n:=by rw[←h2];exact(G9.1 hy).1
 rw[h3 j hj,hy]
theorem gm{H:Type}{P:Program}{e:TypeId}{q:Nat→Bool}:∀{l:List (DataW H)},(DataW.weightsAll P e l).all q=true→∀d∈l,(d.weights P e).all q=true
 | [],_,d,hd=>by simp at hd
 | x::l,h,d,hd=>by
  simp only[DataW.weightsAll,LZ,G6] at h
  rcases HB.1 hd with rfl|hd
  ·exact h.1
  ·exact gm h.2 d hd
theorem cF{H:Type}{P:Program}{q:Nat→Bool}:∀{ts:List TypeId} {l:List (DataW H)},(Nr P ts l).all q=true→∀(i:Nat) (t:TypeId) (d:DataW H),ts[i]? = some t→l[i]? = some d→(d.weights P t).all q=true
 | [],_,_,i,t,d,ht,_=>by simp at ht
 | _::_,[],_,i,t,d,_,hd=>by simp at hd
 | t0::ts,x::l,h,i,t,d,ht,hd=>by
  simp only[Nr,LZ,G6] at h
  cases i with
  | zero=>simp at ht hd;subst ht;subst hd;exact h.1
  | succ i=>exact cF h.2 i t d (by simpa using ht) (by simpa using hd)
end
section
variable {w:World} {av:Nat→Prop} {P:Program}
theorem zK{ts:List TypeId}(hts:tg P ts=true){t:TypeId}(ht:t∈ts):(match P.underlying t with
 | some .bool|some (.int _)|some .string=>true
 | some (.slice e)=>ts.contains e&&Qd (0<P.cellsOf e)
 | some (.struct fs)=>ey P fs.toList 0 (P.cellsOf t)&&fs.toList.all fun f=>ts.contains f.type
 | _=>false)=true:=Hs.1 hts t ht
theorem nb{H:Type}{enc:TypeId×Value→H}{spare:Nat→Bool}{ts:List TypeId}(hts:tg P ts=true)(hav:∀k,¬av k):
  ∀(fuel:Nat) (t:TypeId) (cs:List Value) (d:DataW H) (ps:List MemPlace),t∈ts→KG enc P w 0 spare true fuel t cs=some (d,ps)→(d.weights P t).all (· ≤ reachBytes)=true →
   ∃ds,Shp P fuel t ds∧RelPL w av ds cs:=by
 intro fuel
 induction fuel with
 | zero=>intro t cs d ps _ h;simp[KG] at h
 | succ n ih =>
  intro t cs d ps ht h hw
  have hp:=zK hts ht
  split at hp
  ·rename_i hu
   obtain⟨b,rfl,_⟩:=DataW.trod_bool hu h
   exact⟨[.v (.bool b)],by simp only[Shp,hu];exact⟨b,rfl⟩,by simp[RelPL,RelP]⟩
  ·rename_i k hu
   obtain⟨x,rfl,_,hwf⟩:=DataW.trod_int hu h
   exact⟨[.v (.int k x)],by simp only[Shp,hu];exact⟨x,rfl,hwf⟩,by simp[RelPL,RelP]⟩
  ·rename_i hu
   obtain⟨s,rfl,hx,_⟩:=DataW.trod_string hu h
   simp only[G4] at hx
   obtain⟨rfl,_⟩:=hx
   have hs:s.size≤reachBytes:=by
    simp only[Mp,JR,List.all_nil,Bool.and_true,decide_eq_true_eq,IK] at hw
    exact hw
   exact⟨[.v (.string s)],by simp only[Shp,hu];exact⟨s,rfl,hs⟩,by simp[RelPL,RelP]⟩
  ·rename_i e hu
   simp only[G6,decide_eq_true_eq,MT] at hp
   obtain⟨he,hpos⟩:=hp
   rcases DataW.trod_slice hu h with ⟨rfl,_⟩|⟨a,len,cap,elems,rest,m,hm,rfl,hx,_,hle,_,hlen,hel,_⟩
   ·refine⟨[.sl []],by simp only[Shp,hu];exact⟨[],rfl,by simp,by simp⟩,?_⟩
    simp only[RelPL,RelP,and_true]
    exact .inl ⟨trivial,none,0,rfl,fun _=>rfl⟩
   ·obtain rfl:n=m:=by omega
    simp only[G4] at hx
    obtain⟨rfl,_⟩:=hx
    simp only[Mp,hu,JR,LZ,G6,decide_eq_true_eq,HW] at hw
    obtain⟨hw1,hw2,_⟩:=hw
    have key:∀i,i<len→∃ds ys,Shp P n e ds∧RelPL w av ds ys∧w.cells? 0 (a.add (i*P.cellsOf e)) (P.cellsOf e)=some ys:=by
     intro i hi
     have h1:=hel i hi
     have h2:elems[i]? = some elems[i]:=HE (by omega)
     generalize elems[i]=x at h2
     rw[h2] at h1
     obtain⟨ys,h3,h4⟩:=Option.bind_eq_some_iff.1 h1
     obtain⟨dx,px⟩:=x
     obtain⟨ds,h5,h6⟩:=ih e ys dx px he h4 (gm hw2 dx (HS.2 ⟨(dx,px),HL h2,rfl⟩))
     exact⟨ds,ys,h5,h6,h3⟩
    obtain⟨f,hf⟩:∃f:Nat→List Dp,∀i,i<len→∃ys,Shp P n e (f i)∧RelPL w av (f i) ys∧w.cells? 0 (a.add (i*P.cellsOf e)) (P.cellsOf e)=some ys:=by
     classical
     refine⟨fun i=>if hi:i<len then Classical.choose (key i hi) else [],fun i hi=>?_⟩
     simp only[dif_pos hi]
     exact Classical.choose_spec (key i hi)
    refine⟨[.sl ((List.range len).map f)],?_,?_⟩
    ·simp only[Shp,hu]
     refine⟨_,rfl,?_,?_⟩
     ·simp only[HW,List.length_range]
      have:len*P.bytesOf e≤(elems.length+rest.length)*P.bytesOf e:=Ir _ (by omega)
      omega
     ·intro r hr
      obtain⟨i,hi,rfl⟩:=HS.1 hr
      obtain⟨ys,h1,_⟩:=hf i (by simpa using hi)
      exact h1
    ·simp only[RelPL,RelP,and_true]
     by_cases h0:len=0
     ·subst h0
      exact .inl ⟨by simp,some a,cap,rfl,by simp⟩
     ·have hsp:a.spot=none:=by
       obtain⟨ys,_,_,h3⟩:=hf 0 (by omega)
       obtain⟨h4,h5⟩:=th h3
       have h6:ys[0]? = some ys[0]:=HE (by omega)
       have h7:=h5 0 _ h6
       simp only[Nat.zero_mul,Addr.add,if_true] at h7
       unfold World.cell? at h7
       split at h7
       ·split at h7
        ·simp at h7
        ·rename_i hns
         cases hs:a.spot with
         | none=>rfl
         | some _=>simp[hs] at hns
       ·simp at h7
      obtain⟨blk,off,sp⟩:=a
      simp only at hsp
      subst hsp
      refine .inr ⟨blk,off,cap,P.cellsOf e,by simp,by simpa using hle,na _ _ fun i r hr=>?_⟩
      simp only[List.getElem?_map,Option.map_eq_some_iff] at hr
      obtain⟨j,hj,rfl⟩:=hr
      rw[G9] at hj
      obtain⟨hj1,hj2⟩:=hj
      simp only[List.getElem_range] at hj2
      subst hj2
      obtain⟨ys,h1,h2,h3⟩:=hf i (by simpa using hj1)
      obtain⟨h4,h5⟩:=th h3
      refine⟨by rw[h2.length,h4],kX hav _ _ _ h2 fun k y hy=>?_⟩
      have:=h5 k y hy
      have e1:(((⟨blk,off,none⟩:Addr).add (i*P.cellsOf e)).add k)=⟨blk,off+i*P.cellsOf e+k,none⟩:=by
       rw[b7,b7]
      rwa[e1] at this
  ·rename_i fs hu
   simp only[G6,Hs,MT] at hp
   obtain⟨hc,hfs⟩:=hp
   obtain⟨xs,m,hm,hx,hlen,hxs,hel⟩:=DataW.trod_struct hu h
   obtain rfl:n=m:=by omega
   simp only[G4] at hx
   obtain⟨rfl,_⟩:=hx
   simp only[Mp,hu] at hw
   have key:∀f∈fs.toList,∃ds,Shp P n f.type ds∧RelPL w av ds ((cs.drop f.offset).take (P.cellsOf f.type)):=by
    intro f hf
    obtain⟨i,hi⟩:=List.mem_iff_getElem?.1 hf
    have hi':fs[i]? = some f:=by rw[←H0];exact hi
    have hil:i<xs.length:=by
     rw[hxs]
     have:=(Array.getElem?_eq_some_iff.1 hi').1
     exact this
    have h1:=hel i f hi'
    have h2:xs[i]? = some xs[i]:=HE hil
    generalize xs[i]=x at h2
    rw[h2] at h1
    obtain⟨dx,px⟩:=x
    exact ih f.type _ dx px (hfs f hf) h1 (cF hw i f.type dx (by simp[hi]) (by simp[h2]))
   obtain⟨D,hD,hS⟩:=kW hlen fs.toList 0 hc key
   rw[IW] at hD
   refine⟨D,?_,hD⟩
   simp only[Shp,hu]
   refine⟨by rw[hD.length,hlen],fun f hf=>?_⟩
   have:=hS f hf
   rwa[Nat.sub_zero] at this
  ·simp at hp
end
theorem fP(k:Nat):¬avs (fun _=>False) (fun _=>none) [] k:=fun ho=>ho.elim id (fun h=>absurd h bW)
open Go Go.RowKit Go.ChangeShapes Go.WideShapes
section
variable {H:Type} {enc:TypeId×Value→H} {P:Program}
theorem gX(hl:laidOutB P=true){W W':World}(hb:Below W.heap.size W W'):∀{ts:List TypeId} {vs:List Value} {ds:List (DataW H)} {ps:List MemPlace},
  (ts.all fun t=>P.readableRec t&&Qd (t<P.types.size))=true→DataW.TrodAll enc P W 0 (fun _=>true) true ts vs ds ps→(∀x∈ps,x.block<W.heap.size) →
  DataW.TrodAll enc P W' 0 (fun b=>Qd (b<W.heap.size)) true ts vs ds ps
 | [],vs,ds,ps,_,h,_=>by
  obtain⟨rfl,rfl,rfl⟩:=trodAll_nil h
  rfl
 | t::ts,vs,ds,ps,ht,h,hps=>by
  obtain⟨v,vs',d,ds',p,q,rfl,rfl,rfl,h1,h2⟩:=trodAll_cons h
  simp only[JR,G6,decide_eq_true_eq] at ht
  refine⟨p,q,Below.trod hl ht.1.1 ht.1.2 h1 hb (fun x hx=>hps x (List.mem_append_left _ hx)),gX hl hb (by simpa using ht.2) h2 (fun x hx=>hps x (List.mem_append_right _ hx)),rfl⟩
theorem wC{f:Func}{s:ChangeSpec}{apart:Bool}{W W':World}{args:Array Value}{ds gs:List (DataW H)}{before:List MemPlace}{b:TypeId}
  (hl:laidOutB P=true) (hp:(f.params.toList.all fun t=>P.readableRec t&&Qd (t<P.types.size))=true) (hv:s.vars=[]) (hr:f.resultTypes=#[b]) (hbt:P.underlying b=some .bool)
  (hW:DataW.Whole enc P f.params.toList s.vars apart W args.toList ds gs before) (hs:s.fn H ds={results:=[.lit (.bool true)],args:=ds}) (hb:Below W.heap.size W W') :
  s.post enc P f apart true false false W args (.bool true) W':=by
 have hW':=hW
 have hlt:=hW.lt
 obtain⟨p,q,hA,hV,rfl,_,_⟩:=hW
 rw[hv] at hV
 obtain⟨rfl,rfl⟩:=trodVars_none hV
 refine⟨ds,[],p++[],[],p,[],hW',?_,?_,?_,hb.frame _,fun h=>by cases h⟩
 ·simp only[L0,hs,hr,Value.resultList]
  exact⟨[],[],⟨1,by simp[KG,Value.cells,hbt]⟩,rfl,rfl⟩
 ·simp only[L0,hs]
  exact gX hl hb hp hA (fun x hx=>hlt x (by simpa using hx))
 ·simp only[L0,hs,hv]
  rfl
end
end Go.Vi
namespace Go.Vi
open Go Go.RowKit
theorem u6{Γ:ae}{w:World}(hg:∀g cs,Γ g=some cs→RelCells w (avs (fun _=>False) (fun _=>none) []) g 0 cs):Rep Γ (fun _=>False) w (fun _=>none) [] :=
 ⟨fun blk ho=>absurd ho bW,fun blk ho=>ho.elim,fun b b' x x' k c c' hb=>by simp at hb,fun b x hb=>by simp at hb,hg⟩
theorem wD{P:Program}{Γ:ae}{f:FuncId}{args:List D}{d:D}{W:World}{vs:List Value}(hg:∀g cs,Γ g=some cs→RelCells W (avs (fun _=>False) (fun _=>none) []) g 0 cs)(he:Ev P Γ f args [] d [])(hr:RelL W (avs (fun _=>False) (fun _=>none) []) (fun _=>none) [] args vs):
  Calls P f vs.toArray W fun e W'=>∃v,e=.returned v∧Rel W' (fun _=>False) (fun _=>none) [] d v∧Go.RowKit.Below W.heap.size W W':=by
 have h1:=he (fun _=>False) W (fun _=>none) vs (u6 hg) hr
 refine(callsIn_wide (n:=0)).1 (IX (h1:CallsIn (FW none) 0 P f _ W _) ?_)
 rintro e W' ⟨v,d2,h2,l',rfl,⟨rfl,rfl⟩,R',E',rd⟩
 refine⟨v,rfl,Rel.mono (fun blk off y hn hc=>⟨hc,fun h=>h.elim⟩) (fun b x hb=>by simp at hb) d2 v rd,?_⟩
 exact⟨E'.tape.2.1,E'.tape.1,E'.tape.2.2.1,E'.size,fun k hk=>E'.same k hk bW⟩
end Go.Vi
