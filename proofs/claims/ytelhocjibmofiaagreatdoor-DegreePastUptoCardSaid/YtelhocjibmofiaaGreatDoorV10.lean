/- A part of the proof; no conditions of its own. -/
import Derived.Test.YtelhocjibmofiaaGreatDoorV9
import Derived.ChangeArms
import Derived.OpenShut
import Derived.Below
import Derived.Carry
open Decidable renaming decide -> Zd
open Bool renaming and_eq_true -> MT
open Array renaming length_toList -> O6, getElem?_toList -> NV
open List renaming range_eq_range' -> P4, flatten_cons -> N0, drop_append -> R6, drop_eq_nil_of_le -> RE, getElem?_eq_some_iff -> MR, mem_cons -> NF, all_append -> SV, append_nil -> QQ
open Go.Region renaming wanted -> N5
open Go.Sem renaming run_bind -> M8, run_pure -> Ny
open Go.Result renaming andThen_ok -> M1
open Go.CallsIn renaming mono -> Pm
open Nat renaming add_mul -> O9
open Go.DataW renaming weightsEach -> TY
namespace Go.Vi
open Go
def zcm:Uc->Uc->Bool
 | .var a,.var b=>j0 a b
 | .T7 a e s,.T7 b e' s'=>zgI a b&&(Zd (e=e')&&Zd (s=s'))
 | .map a c,.map b c'=>zgJ a b&&Zd (c=c')
 | .U7,.U7=>true
 | .Ut,.Ut=>true
 | .mit (some a) b c d,.mit (some a') b' c' d'=>(Zd (a=a')&&Zd (b=b'))&&(Zd (c=c')&&Zd (d=d'))
 | .mit none b c d,.mit none b' c' d'=>Zd (b=b')&&(Zd (c=c')&&Zd (d=d'))
 | _,_=>false
where
 zgI:List (bY)->List (bY)->Bool
  | [],[]=>true
  | a::as,b::bs=>j0 a b&&zgI as bs
  | _,_=>false
 zgJ:List (D×D×Nat)->List (D×D×Nat)->Bool
  | [],[]=>true
  | (k,d,n)::as,(k',d',n')::bs=>(zcl k k'&&zcl d d')&&(Zd (n=n')&&zgJ as bs)
  | _,_=>false
def vJ:aT->aT->Bool
 | [],[]=>true
 | a::as,b::bs=>zcm a b&&vJ as bs
 | _,_=>false
theorem tB:∀{a b:List (bY)},zcm.zgI a b=true->a=b
 | [],[],_=>rfl
 | a::as,b::bs,h=>by simp only[zcm.zgI,MT] at h;rw[zec h.1,tB h.2]
 | [],_::_,h=>by simp[zcm.zgI] at h
 | _::_,[],h=>by simp[zcm.zgI] at h
theorem tC:∀{a b:List (D×D×Nat)},zcm.zgJ a b=true->a=b
 | [],[],_=>rfl
 | (k,d,n)::as,(k',d',n')::bs,h=>by
  simp only[zcm.zgJ,MT,decide_eq_true_eq] at h
  rw[iR h.1.1,iR h.1.2,h.2.1,tC h.2.2]
 | [],_::_,h=>by simp[zcm.zgJ] at h
 | _::_,[],h=>by simp[zcm.zgJ] at h
theorem zj{a b:Uc}(h:zcm a b=true):a=b:=by
 unfold zcm at h
 split at h
 ·rw[zec h]
 ·simp only[MT,decide_eq_true_eq] at h;rw[tB h.1,h.2.1,h.2.2]
 ·simp only[MT,decide_eq_true_eq] at h;rw[tC h.1,h.2]
 ·rfl
 ·rfl
 ·grind
 ·grind
 ·cases h
theorem rM:∀{a b:aT},vJ a b=true->a=b
 | [],[],_=>rfl
 | a::as,b::bs,h=>by simp only[vJ,MT] at h;rw[zj h.1,rM h.2]
 | [],_::_,h=>by simp[vJ] at h
 | _::_,[],h=>by simp[vJ] at h
structure zcc where
 f:FuncId
 args:bY
 h:aT
 r:CR
def zcc.hit(m:zcc)(f:FuncId)(args:bY)(h:aT):Bool:=match Nat.beq m.f f with
 | true=>match j0 m.args args with
  | true=>vJ m.h h
  | false=>false
 | false=>false
def AV:List zcc->FnF
 | [],_,_,_=>none
 | m::ms,f,args,h=>match m.hit f args h with
  | true=>some m.r
  | false=>AV ms f args h
def zcc.Ok(P:Program)(Γ:aq)(m:zcc):Prop:=ff P m.f=true/\zfQ P Γ m.f m.args m.h m.r
def vK(P:Program)(Γ:aq):List zcc->Prop
 | []=>True
 | m::ms=>m.Ok P Γ/\vK P Γ ms
theorem zcc.hit_eq{m:zcc}{f:FuncId}{args:bY}{h:aT}(hh:m.hit f args h=true):m.f=f/\m.args=args/\m.h=h:=by
 unfold zcc.hit at hh
 split at hh
 ·rename_i h1
  split at hh
  ·rename_i h2
   exact⟨Nat.eq_of_beq_eq_true h1,zec h2,rM hh⟩
  ·cases hh
 ·cases hh
theorem xE{P:Program}{Γ:aq}:∀{ms:List zcc},vK P Γ ms->FnOk P Γ (AV ms)
 | [],_,_,_,_,_,h=>by simp[AV] at h
 | m::ms,hm,f,args,h,r,hw=>by
  simp only[AV] at hw
  split at hw
  ·rename_i hh
   obtain⟨rfl,rfl,rfl⟩:=zcc.hit_eq hh
   cases hw
   exact hm.1
  ·exact xE hm.2 _ _ _ _ hw
def AW:CR->CR->Bool
 | .ret d h,.ret d' h'=>zcl d d'&&vJ h h'
 | _,_=>false
theorem AX{a b:CR}(h:AW a b=true):a=b:=by
 unfold AW at h
 split at h
 ·simp only[MT] at h;rw[iR h.1,rM h.2]
 ·cases h
def zcc.runs(P:Program)(Γ:aq)(ms:List zcc)(m:zcc):Bool:=match ff P m.f,om P Γ (AV ms) 100000 m.f m.args m.h with
 | true,some r=>AW r m.r
 | _,_=>false
theorem zcc.ok_of{P:Program}{Γ:aq}(ok:POk P){ms:List zcc}{m:zcc}(hr:m.runs P Γ ms=true)(hm:vK P Γ ms):m.Ok P Γ:=by
 unfold zcc.runs at hr
 split at hr
 ·rename_i r h1 h2
  refine⟨h1,?_⟩
  rw[<-AX hr]
  exact zfQ.of_run ok (xE hm) h2
 ·cases hr
theorem zcc.call{P:Program}{Γ:aq}{m:zcc}{d:D}{h':aT}(hm:m.Ok P Γ)(hr:m.r=.ret d h'):zdy P Γ m.f m.args m.h λd2 h2=>d2=d/\h2=h':=by
 have:=hm.2
 rw[hr] at this
 exact this.call
section
variable {P:Program} {Γ:aq}
theorem zeG.zmO(_ok:POk P){call:ο}(hc:call.Ok P Γ){id:Nat}{ops:Is}{d:Code}{s s':AS}{e:Exit}{os:oR}{o:Oper}(h0:ops.toList=os++[o]){fv:Operand}{args:Or}{ats:ON}
  (ho:o.op=.defer {callee:=.value fv,args,argTypes:=ats}) (hg:o.guard=none) (zfI:o.dst=none) (hm:s.m=[]) {t1:bY} {h1:aT} (hr:bi P Γ call [] ops.toList os s.t s.h=some (.normal,t1,h1))
  {f:FuncId} {fi ca:bY} (hcal:cX (U0 Γ t1 fv)=some (f,fi,ca))
  (ν:CW P Γ h1 false d {t:=t1,h:=h1,m:=[]} e s') :
  zeG P Γ (.seq (.region id ops false) d) s e s' (some (f,fi++args.toList.map (U0 Γ t1)++ca)):=by
 intro O w0 l0 hh0 a w hs
 have hlen:ops.size=os.length+1:=by rw[<-O6,h0];simp
 have zgm:List.range ops.size=List.range' 0 os.length++[os.length]:=by rw[hlen,List.range_succ,P4]
 have ho0:ops[os.length]? = some o:=by rw[<-NV,h0];simp
 refine wpIn_seq (wpIn_region ?_)
 rw[zgm]
 have hs2:St Γ {O:=O,w:=w0,l:=l0,h:=hh0} {t:=s.t,h:=s.h,m:=[]} a w:=by rw[<-hm];exact hs
 refine gu (r:=none) (X:={O:=O,w:=w0,l:=l0,h:=hh0}) hc (tail:=[os.length]) (λ_ a w hs=>?_) (λc he=>by cases he) os 0 s.t s.h [o] (by simpa using h0) hr a w hs2
 obtain⟨l,R,E,rt,rd⟩:=hs
 have ziA:a.defers=[]:=rd
 simp only[wpOpsIn,ho0]
 have hw:N5 o (yielded ops a.tmps)=true:=by unfold N5;rw[hg]
 rw[if_pos hw]
 obtain⟨a0,c0,e0,r1,r2⟩:=dV (a7 R rt fv) hcal
 refine⟨λ_ _=>trivial,?_⟩
 have e0':(FW none).round=none:=rfl
 rw[e0',Oper.semAt_none]
 have e1:(execOp a.eval o).run P w=.ok (.defer {target:=.fn (.func f) c0,args:=a0++args.map a.eval}) w:=by
  unfold execOp
  rw[ho]
  simp only[resolve,e0,Deferred.ofValue,M8,Ny,M1]
 rw[e1,Oper.uponIn_defer,zfI]
 simp only[Act.put,Exit.then]
 have hD:Br w O l h1 (f,fi++args.toList.map (U0 Γ t1)++ca) {target:=.fn (.func f) c0,args:=a0++args.map a.eval}:=by
  refine⟨_,_,rfl,?_⟩
  simp only[Array.toList_append]
  refine bn (bn r1 ?_) r2
  have:=fo R rt args.toList
  simpa using this
 refine wpIn_mono (ν {O:=O,w:=w,l:=l,h:=h1,D:=[{target:=.fn (.func f) c0,args:=a0++args.map a.eval}]} none rfl (λ_=>rfl) _ w ⟨l,R,Ext.refl _ _ _,rt,by simp[UP,ziA]⟩) ?_
 rintro e1 a1 w1 ⟨k1,s1,⟨rfl,rfl⟩,k2⟩
 grind
theorem CW.seq{h0:aT}{rd:Bool}{c d:Code}{s s1 s':AS}{e:Exit}(h1:CW P Γ h0 rd c s .normal s1)(h2:CW P Γ h0 rd d s1 e s'):CW P Γ h0 rd (.seq c d) s e s':=λX r hX hr =>
 VW.seq ((h1 X r hX hr).mono λe2 s2 hq=>by
  obtain⟨rfl,rfl⟩:=hq
  exact h2 X r hX hr)
theorem CW.out{h0:aT}{rd:Bool}{c d:Code}{s s':AS}{e:Exit}(he:e≠.normal)(h1:CW P Γ h0 rd c s e s'):CW P Γ h0 rd (.seq c d) s e s':=λX r hX hr =>
 VW.seq ((h1 X r hX hr).mono λe2 s2 hq=>by
  obtain⟨rfl,rfl⟩:=hq
  cases e2 with
  | normal=>grind
  | _=>exact⟨rfl,rfl⟩)
theorem CW.zdS{h0:aT}{rd:Bool}{call:ο}(hc:call.Ok P Γ){s:AS}{id:Nat}{ops:Is}{e:Exit}{t':bY}{h':aT}
  (hr:bi P Γ call s.m ops.toList ops.toList s.t s.h=some (e,t',h')):CW P Γ h0 rd (.region id ops false) s e {t:=t',h:=h',m:=s.m}:=λ_ _ _ _=>VW.zdS hc hr ⟨rfl,rfl⟩
end
def gO:Code->Nat->Bool
 | .region i _ _,n=>Nat.beq i n
 | .seq a b,n=>gO a n||gO b n
 | .cond _ a b,n=>gO a n||gO b n
 | .block _ b,n=>gO b n
 | .loop b,n=>gO b n
 | .scope b,n=>gO b n
 | .rangeFunc _ _ a b,n=>gO a n||gO b n
 | _,_=>false
def bg:Code->Nat->Code
 | .seq (.region i o d) b,n=>bif Nat.beq i n then .seq (.region i o d) b else bg b n
 | .seq a b,n=>bif gO a n then bg a n else bg b n
 | .cond _ a b,n=>bif gO a n then bg a n else bg b n
 | .block _ b,n=>bg b n
 | .loop b,n=>bg b n
 | .scope b,n=>bg b n
 | .rangeFunc _ _ a b,n=>bif gO a n then bg a n else bg b n
 | c,_=>c
section
variable {P:Program} {Γ:aq}
def nE:ο:=λ_ _ _=>none
theorem tD{call:ο}{t:bY}{h:aT}{o:Op}{r:CR}(hs:uf P Γ nE t h o=some r):uf P Γ call t h o=some r:=by
 unfold uf at hs ⊢
 grind [nE]
theorem jo{call:ο}{m:iS}{L:oR}{t1:bY}{h1:aT}{r:Exit×bY×aT}{os2:oR}:∀(os1:oR) (t:bY) (h:aT),bi P Γ nE m L os1 t h=some (.normal,t1,h1)->bi P Γ call m L os2 t1 h1=some r ->
  bi P Γ call m L (os1++os2) t h=some r
 | [],t,h,ha,hb=>by
  grind [bi,Option.some.injEq,Prod.mk.injEq]
 | o::os,t,h,ha,hb=>by
  simp only[bi,List.cons_append] at ha ⊢
  split at ha
  ·split at ha
   ·rename_i d h' ω
    rw[tD (call:=call) ω]
    simp only
    split at ha
    ·rename_i hm
     rw[if_pos hm]
     exact jo os _ _ ha hb
    ·simp at ha
   ·grind
   ·simp at ha
  ·exact jo os _ _ ha hb
  ·simp at ha
open Classical in
noncomputable def Eo(x0:D)(a0:bY)(h0:aT)(r0:CR):ο:=λx args h=>if x=x0/\args=a0/\h=h0 then some r0 else none
theorem Ep{x0:D}{a0:bY}{h0:aT}{r0:CR}(hr:CROk P Γ x0 a0 h0 r0):(Eo x0 a0 h0 r0).Ok P Γ:=by
 intro x args h r he
 grind [Eo]
theorem CW.zkI{h0:aT}{rd:Bool}{id:Nat}{ops:Is}{os1 rest:oR}{o:Oper}{t t1:bY}{h h1 hp:aT}{fv:Operand}{args:Or}{ats:ON}{c:List PanicEntry}
  (hops:ops.toList=os1++o::rest) (zfs:bi P Γ nE [] ops.toList os1 t h=some (.normal,t1,h1)) (ho:o.op=.call {callee:=.value fv,args,argTypes:=ats}) (hg:o.guard=none)
  (zdo:zgV P Γ (U0 Γ t1 fv) (args.toList.map (U0 Γ t1)) h1 λc2 h2=>c2=c/\h2=hp) (hm:aF hp []=true) :
  CW P Γ h0 rd (.region id ops false) {t:=t,h:=h,m:=[]} (.panic c) {t:=t1,h:=hp,m:=[]}:=by
 have hok:=Ep (P:=P) (Γ:=Γ) (x0:=U0 Γ t1 fv) (a0:=args.toList.map (U0 Γ t1)) (h0:=h1) (r0:=.pan c hp) zdo
 refine CW.zdS (s:={t:=t,h:=h,m:=[]}) hok ?_
 show bi P Γ _ [] ops.toList ops.toList t h=_
 conv=>lhs;arg 6;rw[hops]
 refine jo os1 t h zfs ?_
 simp only[bi,hg,aZ]
 have e1:uf P Γ (Eo (U0 Γ t1 fv) (args.toList.map (U0 Γ t1)) h1 (.pan c hp)) t1 h1 o.op=some (.pan c hp):=by
  unfold uf
  rw[ho]
  simp only[Eo]
  simp
 grind
theorem zhG.zfL{Γ':aq}{f:FuncId}{args:bY}{h:aT}{K:List PanicEntry->aT->Prop}(he:zhG P (λ_=>none) f args h K):zhG P Γ' f args h K:=by
 intro O w l vs R ra
 refine Pm (he O w l vs (R.less (GLe.none Γ')) ra) ?_
 rintro e w' ⟨c,h2,l',rfl,hq,R',E'⟩
 exact⟨c,h2,l',rfl,hq,R.more E' R',E'⟩
end
section
variable {P:Program} {Γ:aq} {O:Nat->Prop} {w:World} {l:Loc} {h:aT}
variable {X:Ctx} {r:Do}
abbrev births(l:List (D×D×Nat)):iS:=l.map λe=>e.2.2
end
theorem nF{sz:Nat}:∀(es:List (bY)) (n:Nat) (row:bY),(∀r∈es,r.length=sz)->es[n]? = some row->∃rest,es.flatten.drop (n*sz)=row++rest
 | [],n,row,_,h=>by simp at h
 | e::es,0,row,hs,h=>by
  simp_all
 | e::es,n+1,row,hs,h=>by
  simp only[List.getElem?_cons_succ] at h
  obtain⟨rest,hr⟩:=nF es n row (λr hr=>hs r (by simp[hr])) h
  refine⟨rest,?_⟩
  have he:e.length=sz:=hs e (by simp)
  rw[N0,List.zeS e es.flatten n sz he,hr]
where
 List.zeS (e t:bY) (n sz:Nat) (he:e.length=sz):(e++t).drop ((n+1)*sz)=t.drop (n*sz):=by
  rw[show(n+1)*sz=e.length+n*sz by rw[he,O9];omega,R6]
  simp
theorem nG{sz:Nat}:∀(es:List (bY)) (n:Nat) (new:bY),(∀r∈es,r.length=sz)->new.length=sz->n<es.length->bm es.flatten (n*sz) new=(es.set n new).flatten
 | [],n,new,_,_,h=>by simp at h
 | e::es,0,new,hs,hn,_=>by
  have he:e.length=sz:=hs e (by simp)
  simp[bm,hn,<-he]
 | e::es,n+1,new,hs,hn,h=>by
  have he:e.length=sz:=hs e (by simp)
  have ih:=nG es n new (λr hr=>hs r (by simp[hr])) hn (by simpa using h)
  simp only[List.set_cons_succ,N0,<-ih]
  unfold bm
  have e1:(n+1)*sz=e.length+n*sz:=by rw[he,O9];omega
  rw[e1,List.take_append,R6]
  have h1:List.take (e.length+n*sz) e=e:=List.take_of_length_le (by omega)
  have h2:List.drop (e.length+n*sz+new.length) e=[]:=RE (by omega)
  grind
theorem gl{sz:Nat}:∀(es:List (bY)),(∀r∈es,r.length=sz)->es.flatten.length=es.length*sz
 | [],_=>by simp
 | e::es,hs=>by
  rw[N0,List.length_append,gl es (λr hr=>hs r (by simp[hr])),hs e (by simp),List.length_cons,O9];omega
section
variable {P:Program} {h:aT} {b sz:Nat} {es:List (bY)}
theorem Er{ty:TypeId}(ha:Ef P ty=some true)(hz:VB P ty=some sz)(hb:h[b]? = some (.var es.flatten))(hs:∀r∈es,r.length=sz){n:Nat}{row:bY}(hn:es[n]? = some row):aN P h ty (.ref (.ptr b (n*sz)))=some (.agg row):=by
 obtain⟨rest,hr⟩:=nF es n row hs hn
 have hl:row.length=sz:=hs row (List.mem_of_getElem? hn)
 unfold aN
 simp only[hb,hr,cn,ha,hz]
 grind
theorem nI{ty:TypeId}(ha:Ef P ty=some false)(hz:VB P ty=some 1)(hb:h[b]? = some (.var es.flatten))(hs:∀r∈es,r.length=sz){n j:Nat}{row:bY}{d:D}(hn:es[n]? = some row)(hj:row[j]? = some d):aN P h ty (.ref (.ptr b (n*sz+j)))=some d:=by
 obtain⟨rest,hr⟩:=nF es n row hs hn
 unfold aN
 have:es.flatten.drop (n*sz+j)=(row++rest).drop j:=by rw[<-hr,List.drop_drop]
 simp only[hb,this,cn,ha,hz]
 rw[List.head?_drop]
 grind
theorem Es{ty:TypeId}(ha:Ef P ty=some true){cs:bY}(hz:VB P ty=some cs.length)(hb:h[b]? = some (.var cs)):aN P h ty (.ref (.ptr b 0))=some (.agg cs):=by
 unfold aN
 simp only[hb,List.drop_zero,cn,ha,hz]
 simp
theorem nJ{ty:TypeId}{x:D}{new:bY}(hx:x.cells=some new)(hz:VB P ty=some sz)(hl:new.length=sz)(hb:h[b]? = some (.var es.flatten))(hs:∀r∈es,r.length=sz){n:Nat}(hn:n<es.length):aX P h ty (.ref (.ptr b (n*sz))) x=some (h.set b (.var (es.set n new).flatten)):=by
 unfold aX
 simp only[hx,hz,hl,hb]
 have:(n+1)*sz<=es.length*sz:=Nat.mul_le_mul_right _ hn
 rw[O9] at this
 rw[if_pos trivial,if_pos (by rw[gl es hs];omega),nG es n new hs hl hn]
theorem tE{ty:TypeId}{x:D}{new cs:bY}(hx:x.cells=some new)(hz:VB P ty=some new.length)(hl:cs.length=new.length)(hb:h[b]? = some (.var cs)):aX P h ty (.ref (.ptr b 0)) x=some (h.set b (.var new)):=by
 unfold aX
 simp only[hx,hz,hb]
 rw[if_pos trivial,if_pos (by omega)]
 have:List.drop new.length cs=[]:=RE (by omega)
 simp[bm,this]
end
section
variable {P:Program} {Γ:aq}
theorem zk{w:World}{t e:TypeId}(hu:P.underlying t=some (.slice e)){base:Option Addr}{n c:Nat}:(Op.equal t (.slice base n c) (.slice none 0 0)).run P w=.ok base.isNone w:=by
 have key:∀k,(Op.equalIn (k+1) t (.slice base n c) (.slice none 0 0)).run P w=.ok base.isNone w:=by
  intro k
  cases base<;>simp only[Op.equalIn,M8,VP hu,M1,Ny]<;>rfl
 exact key 9999
theorem Iw{w:World}{av:Nat->Prop}{rows:bv}{y:Value}(h:UF w av (.sl rows) y):∃base n c,y=.slice base n c/\(base.isNone=true->rows=[]):=by
 grind [UF]
theorem VW.nilLast{X:Ctx}{r:Do}{call:ο}(hc:call.Ok P Γ){id:Nat}{ops:Is}{s:AS}{os:oR}{o:Oper}(h0:ops.toList=os++[o]){t e:TypeId}(hu:P.underlying t=some (.slice e)){x:Tmp}{yt:TypeId}
  (ho:o.op=.binOp .eql t (.tmp x) (.const (.slice none 0 0)) yt) (hg:o.guard=none) {t1:bY} {h1:aT} (hr:bi P Γ call s.m ops.toList os s.t s.h=some (.normal,t1,h1)) {rows:bv} (hx:U0 Γ t1 (.tmp x)=.p (.sl rows)) {Q:Exit->AS->Prop}
  (hQ:∀b:Bool,(b=true->rows=[])->Q .normal {t:=UQ t1 o.dst (lit (.bool b)),h:=h1,m:=s.m}):VW P Γ X r (.region id ops false) Q s:=by
 intro a w hs
 have hlen:ops.size=os.length+1:=by rw[<-O6,h0];simp
 have zgm:List.range ops.size=List.range' 0 os.length++[os.length]:=by rw[hlen,List.range_succ,P4]
 have ho0:ops[os.length]? = some o:=by rw[<-NV,h0];simp
 refine wpIn_region ?_
 rw[zgm]
 refine gu hc (tail:=[os.length]) (λ_ a w hs=>?_) (λc he=>by cases he) os 0 s.t s.h [o] (by simpa using h0) hr a w hs
 have hmk:=hs.marks
 obtain⟨l,R,E,rt,rd⟩:=hs
 simp only[wpOpsIn,ho0]
 have hw:N5 o (yielded ops a.tmps)=true:=by unfold N5;rw[hg]
 rw[if_pos hw]
 have rx:=a7 R rt (.tmp x)
 rw[hx] at rx
 simp only[Rel] at rx
 obtain⟨base,n,c,hv,hn⟩:=Iw rx
 refine⟨λ_ _=>trivial,?_⟩
 have e0':(FW r).round=r:=by cases r<;>rfl
 have e1:(execOp a.eval o).run P w=.ok (.value (.bool base.isNone)) w:=by
  unfold execOp
  rw[ho]
  have h2:a.eval (.const (.slice none 0 0))=.slice none 0 0:=rfl
  simp only[hv,h2]
  have:=zk (P:=P) (w:=w) hu (base:=base) (n:=n) (c:=c)
  have hg:(eqGuard .eql t (.tmp x) (.const (.slice none 0 0)) (.slice base n c) (.slice none 0 0)).run P w=.ok () w:=by
   unfold eqGuard;simp
  simp only[M8,hg,M1,binOp,this,Ny]
 rw[Oper.semAt_eq _ _ _ (by grind),e1]
 have key:=St.put (Γ:=Γ) (X:=X) (s:={t:=t1,h:=h1,m:=s.m}) (a:=a) (w':=w) (l:=l) (h':=h1) (d:=lit (.bool base.isNone)) (v:=.bool base.isNone) o.dst rt rd E R (Ext.refl _ _ _) (by simp[Rel,UF]) hmk
 rw[Oper.uponIn_value]
 exact⟨by simp,_,hQ _ hn,key⟩
end
def Shp(P:Program):Nat->TypeId->dO->Prop
 | 0,_,_=>False
 | n+1,t,ds=>match P.underlying t with
  | some .bool=>∃b,ds=[.v (.bool b)]
  | some (.int k)=>∃x,ds=[.v (.int k x)]/\(Lit.int k x).wf=true
  | some .string=>∃s,ds=[.v (.string s)]/\s.size<=reachBytes
  | some (.slice e)=>∃es,ds=[.sl es]/\es.length*P.bytesOf e<=reachBytes/\∀r∈es,Shp P n e r
  | some (.struct fs)=>ds.length=P.cellsOf t/\∀f∈fs.toList,Shp P n f.type ((ds.drop f.offset).take (P.cellsOf f.type))
  | _=>False
def dD(P:Program):List Field->Nat->Nat->Bool
 | [],acc,total=>acc==total
 | f::fs,acc,total=>(f.offset==acc)&&dD P fs (acc+P.cellsOf f.type) total
def AY(P:Program)(ts:On):Bool:=ts.all λt=>match P.underlying t with
 | some .bool|some (.int _)|some .string=>true
 | some (.slice e)=>ts.contains e&&Zd (0<P.cellsOf e)
 | some (.struct fs)=>dD P fs.toList 0 (P.cellsOf t)&&fs.toList.all λf=>ts.contains f.type
 | _=>false
def Ι(w:World)(av:Nat->Prop):dO->At->Prop
 | [],[]=>True
 | d::ds,y::ys=>UF w av d y/\Ι w av ds ys
 | _,_=>False
section
variable {w:World} {av:Nat->Prop}
theorem Ι.length:∀{ds:dO} {ys:At},Ι w av ds ys->ds.length=ys.length
 | [],[],_=>rfl
 | _::_,_::_,h=>by simp[Ι.length h.2]
 | [],_::_,h=>h.elim
 | _::_,[],h=>h.elim
theorem Ι.append:∀{ds ds':dO} {ys ys':At},Ι w av ds ys->Ι w av ds' ys'->Ι w av (ds++ds') (ys++ys')
 | [],_,[],_,_,h=>h
 | _::_,_,_::_,_,h,h'=>⟨h.1,Ι.append h.2 h'⟩
 | [],_,_::_,_,h,_=>h.elim
 | _::_,_,[],_,h,_=>h.elim
theorem Ι.π{l:Loc}{h:aT}:∀{ds:dO} {ys:At},Ι w av ds ys->U1 w av l h (ds.map .p) ys
 | [],[],_=>by simp[U1]
 | _::_,_::_,r=>by simp only[List.map_cons,U1,Rel];exact⟨r.1,Ι.π r.2⟩
 | [],_::_,h=>h.elim
 | _::_,[],h=>h.elim
theorem tG{P:Program}:∀{fs:List Field} {acc total:Nat},dD P fs acc total=true->acc<=total/\∀f∈fs,acc<=f.offset
 | [],acc,total,h=>by simp only[dD,beq_iff_eq] at h;grind
 | f::fs,acc,total,h=>by
  simp only[dD,MT,beq_iff_eq] at h
  obtain⟨h1,h2⟩:=tG h.2
  grind
theorem qo{T8 c:Nat}:∀(es:bv) (off:Nat),(∀i e,es[i]? = some e->e.length=c/\Ur w av T8 (off+i*c) e)->UB w av T8 c off es
 | [],_,_=>trivial
 | e::es,off,h=>by
  obtain⟨h1,h2⟩:=h 0 e rfl
  refine⟨h1,by simpa using h2,qo es (off+c) λi e' he=>?_⟩
  obtain⟨h3,h4⟩:=h (i+1) e' (by simpa using he)
  grind
theorem nK(hav:∀k,¬av k){T8:Nat}:∀(ds:dO) (ys:At) (off:Nat),Ι w av ds ys->(∀(j:Nat) (y:Value),ys[j]? = some y->w.cell? ⟨T8,off+j,none⟩=some y)->Ur w av T8 off ds
 | [],_,_,_,_=>trivial
 | d::ds,[],_,r,_=>r.elim
 | d::ds,y::ys,off,r,hc=>by
  refine⟨⟨hav _,y,by simpa using hc 0 y rfl,r.1⟩,nK hav ds ys (off+1) r.2 λj z hz=>?_⟩
  have:=hc (j+1) z (by simpa using hz)
  grind
theorem xF{a:Addr}{n:Nat}{cs:At}(h:w.cells? 0 a n=some cs):cs.length=n/\∀(j:Nat) (y:Value),cs[j]? = some y->w.cell? (a.add j)=some y:=by
 obtain⟨h1,h2,h3⟩:=World.cells?_some h
 grind
theorem je{H:Type}{P:Program}{e:TypeId}{q:Nat->Bool}:∀{l:List (DataW H)},(DataW.weightsAll P e l).all q=true->∀d∈l,(d.weights P e).all q=true
 | [],_,d,hd=>by simp at hd
 | x::l,h,d,hd=>by
  simp only[DataW.weightsAll,SV,MT] at h
  rcases NF.1 hd with rfl|hd
  ·exact h.1
  ·exact je h.2 d hd
theorem fC{H:Type}{P:Program}{q:Nat->Bool}:∀{ts:On} {l:List (DataW H)},(TY P ts l).all q=true->∀(i:Nat) (t:TypeId) (d:DataW H),ts[i]? = some t->l[i]? = some d->(d.weights P t).all q=true
 | [],_,_,i,t,d,ht,_=>by simp at ht
 | _::_,[],_,i,t,d,_,hd=>by simp at hd
 | t0::ts,x::l,h,i,t,d,ht,hd=>by
  simp only[TY,SV,MT] at h
  cases i with
  | zero=>grind
  | succ i=>exact fC h.2 i t d (by simpa using ht) (by simpa using hd)
end
section
variable {w:World} {av:Nat->Prop} {P:Program}
theorem Et{ts:On}(hts:AY P ts=true){t:TypeId}(ht:t∈ts):(match P.underlying t with
 | some .bool|some (.int _)|some .string=>true
 | some (.slice e)=>ts.contains e&&Zd (0<P.cellsOf e)
 | some (.struct fs)=>dD P fs.toList 0 (P.cellsOf t)&&fs.toList.all λf=>ts.contains f.type
 | _=>false)=true:=List.all_eq_true.1 hts t ht
end
theorem xG(k:Nat):¬Ub (λ_=>False) (λ_=>none) [] k:=λho=>ho.elim id (λh=>absurd h dI)
open Go Go.RowKit Go.ChangeShapes Go.WideShapes
section
variable {H:Type} {enc:TypeId×Value->H} {P:Program}
theorem jO(hl:laidOutB P=true){W W':World}(hb:Below W.heap.size W W'):∀{ts:On} {vs:At} {ds:List (DataW H)} {ps:List MemPlace},
  (ts.all λt=>P.readableRec t&&Zd (t<P.types.size))=true->DataW.TrodAll enc P W 0 (λ_=>true) true ts vs ds ps->(∀x∈ps,x.block<W.heap.size) ->
  DataW.TrodAll enc P W' 0 (λb=>Zd (b<W.heap.size)) true ts vs ds ps
 | [],vs,ds,ps,_,h,_=>by
  obtain⟨rfl,rfl,rfl⟩:=trodAll_nil h
  rfl
 | t::ts,vs,ds,ps,ht,h,hps=>by
  obtain⟨v,vs',d,ds',p,q,rfl,rfl,rfl,h1,h2⟩:=trodAll_cons h
  simp only[List.all_cons,MT,decide_eq_true_eq] at ht
  refine⟨p,q,Below.trod hl ht.1.1 ht.1.2 h1 hb (λx hx=>hps x (List.mem_append_left _ hx)),jO hl hb (by grind) h2 (λx hx=>hps x (List.mem_append_right _ hx)),rfl⟩
theorem AZ{f:Func}{s:ChangeSpec}{apart:Bool}{W W':World}{args:BV}{ds gs:List (DataW H)}{before:List MemPlace}{b:TypeId}
  (hl:laidOutB P=true) (hp:(f.params.toList.all λt=>P.readableRec t&&Zd (t<P.types.size))=true) (hv:s.vars=[]) (hr:f.resultTypes=#[b]) (hbt:P.underlying b=some .bool)
  (hW:DataW.Whole enc P f.params.toList s.vars apart W args.toList ds gs before) (hs:s.fn H ds={results:=[.lit (.bool true)],args:=ds}) (hb:Below W.heap.size W W') :
  s.post enc P f apart true false false W args (.bool true) W':=by
 have hW':=hW
 have U8:=hW.lt
 obtain⟨p,q,hA,hV,rfl,_,_⟩:=hW
 rw[hv] at hV
 obtain⟨rfl,rfl⟩:=trodVars_none hV
 refine⟨ds,[],p++[],[],p,[],hW',?_,?_,?_,hb.frame _,λh=>by cases h⟩
 ·simp only[QQ,hs,hr,Value.resultList]
  exact⟨[],[],⟨1,by simp[DataW.trod,Value.cells,hbt]⟩,rfl,rfl⟩
 ·simp only[QQ,hs]
  exact jO hl hb hp hA (λx hx=>U8 x (by simpa using hx))
 ·simp only[QQ,hs,hv]
  rfl
end
end Go.Vi
namespace Go.Vi
open Go Go.RowKit
theorem zl{Γ:aq}{w:World}(hg:∀g cs,Γ g=some cs->Ur w (Ub (λ_=>False) (λ_=>none) []) g 0 cs):UJ Γ (λ_=>False) w (λ_=>none) [] :=
 ⟨λT8 ho=>absurd ho dI,λT8 ho=>ho.elim,λb b' x x' k c c' hb=>by simp at hb,λb x hb=>by simp at hb,hg⟩
theorem A0{P:Program}{Γ:aq}{f:FuncId}{args:bY}{d:D}{W:World}{vs:At}(hg:∀g cs,Γ g=some cs->Ur W (Ub (λ_=>False) (λ_=>none) []) g 0 cs)(he:Ev P Γ f args [] d [])(hr:U1 W (Ub (λ_=>False) (λ_=>none) []) (λ_=>none) [] args vs):
  Calls P f vs.toArray W λe W'=>∃v,e=.returned v/\Rel W' (λ_=>False) (λ_=>none) [] d v/\Go.RowKit.Below W.heap.size W W':=by
 have h1:=he (λ_=>False) W (λ_=>none) vs (zl hg) hr
 refine(callsIn_wide (n:=0)).1 (Pm (h1:CallsIn (FW none) 0 P f _ W _) ?_)
 rintro e W' ⟨v,d2,h2,l',rfl,⟨rfl,rfl⟩,R',E',rd⟩
 refine⟨v,rfl,Rel.mono (λT8 off y hn hc=>⟨hc,λh=>h.elim⟩) (λb x hb=>by simp at hb) d2 v rd,?_⟩
 exact⟨E'.tape.2.1,E'.tape.1,E'.tape.2.2.1,E'.size,λk hk=>E'.same k hk dI⟩
end Go.Vi
