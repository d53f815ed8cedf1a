/- A part of the proof; no conditions of its own. -/
import Derived.Test.YtgalafpinkflfaaGreatDoorV8
import Derived.ChangeArms
import Derived.OpenShut
import Derived.Below
import Derived.Carry
open Bool renaming true->J,false->N
open Option renaming some->G,none->Y
open Decidable renaming decide -> Zd
open List renaming all_append -> Sc
open Bool renaming and_eq_true -> M3
open Go.DataW renaming weightsEach -> Tf
namespace Go.Vi
open Go
def UK(P:Program):Nat->TypeId->List Dp->Prop
 |0,_,_=>False
 |n+1,t,ds=>match P.underlying t with
  |some .bool=>∃b,ds=[.v (.bool b)]
  |some (.int k)=>∃x,ds=[.v (.int k x)]/\(Lit.int k x).wf=J
  |some .string=>∃s,ds=[.v (.string s)]/\s.size<=reachBytes
  |some (.slice e)=>∃es,ds=[.sl es]/\es.length*P.bytesOf e<=reachBytes/\∀r∈es,UK P n e r
  |some (.struct fs)=>ds.length=P.cellsOf t/\∀f∈fs.toList,UK P n f.type ((ds.drop f.offset).take (P.cellsOf f.type))
  |_=>False
def dt(P:Program):List Field->Nat->Nat->Bool
 | [],acc,total=>acc==total
 |f::fs,acc,total=>(f.offset==acc)&&dt P fs (acc+P.cellsOf f.type) total
def xI(P:Program)(ts:List TypeId):Bool:=ts.all λt=>match P.underlying t with
 |G .bool|G (.int _)|some .string=>J
 |some (.slice e)=>ts.contains e&&Zd (0<P.cellsOf e)
 |some (.struct fs)=>dt P fs.toList 0 (P.cellsOf t)&&fs.toList.all λf=>ts.contains f.type
 |_=>N
def Uw(w:World)(av:Nat->Prop):List Dp->List Value->Prop
 | [],[]=>True
 |d::ds,y::ys=>TB w av d y/\Uw w av ds ys
 |_,_=>False
section
variable {w:World}{av:Nat->Prop}
theorem Uw.length:∀{ds:List Dp} {ys:List Value},Uw w av ds ys->ds.length=ys.length
 | [],[],_=>rfl
 |_::_,_::_,h=>by simp[Uw.length h.2]
 | [],_::_,h=>h.elim
 |_::_,[],h=>h.elim
theorem Uw.append:∀{ds ds':List Dp} {ys Ya:List Value},Uw w av ds ys->Uw w av ds' Ya->Uw w av (ds++ds') (ys++Ya)
 | [],_,[],_,_,h=>h
 |_::_,_,_::_,_,h,h'=>⟨h.1,Uw.append h.2 h'⟩
 | [],_,_::_,_,h,_=>h.elim
 |_::_,_,[],_,h,_=>h.elim
theorem Uw.Ur{l:Loc}{h:List iN}:∀{ds:List Dp} {ys:List Value},Uw w av ds ys->AT w av l h (ds.map .p) ys
 | [],[],_=>by simp[AT]
 |_::_,_::_,r=>by simp[AT,Rel];exact⟨r.1,Uw.Ur r.2⟩
 | [],_::_,h=>h.elim
 |_::_,[],h=>h.elim
theorem tS{P:Program}:∀{fs:List Field} {acc total:Nat},dt P fs acc total=J->acc<=total/\∀f∈fs,acc<=f.offset
 | [],acc,total,h=>by simp[dt] at h;grind
 |f::fs,acc,total,h=>by simp[dt] at h;obtain⟨h1,h2⟩:=tS h.2;grind
theorem pY{oR c:Nat}:∀(es:List (List Dp)) (off:Nat),(∀i e,es[i]?=G e->e.length=c/\T9 w av oR (off+i*c) e)->Tu w av oR c off es
 | [],_,_=>trivial
 |e::es,off,h=>by obtain⟨h1,h2⟩:=h 0 e rfl;refine⟨h1,by simpa using h2,pY es (off+c) λi e' he=>?_⟩;obtain⟨h3,h4⟩:=h (i+1) e' (by simpa using he);grind
theorem nS(XT:∀k,¬av k){oR:Nat}:∀(ds:List Dp) (ys:List Value) (off:Nat),Uw w av ds ys->(∀(j:Nat) (y:Value),ys[j]?=G y->w.cell? ⟨oR,off+j,Y⟩=G y)->T9 w av oR off ds
 | [],_,_,_,_=>trivial
 |d::ds,[],_,r,_=>r.elim
 |d::ds,y::ys,off,r,hc=>by refine⟨⟨XT _,y,by simpa using hc 0 y rfl,r.1⟩,nS XT ds ys (off+1) r.2 λj z hz=>?_⟩;have:=hc (j+1) z (by simpa using hz);grind
theorem xJ{a:Addr}{n:Nat}{cs:List Value}(h:w.cells? 0 a n=G cs):cs.length=n/\∀(j:Nat) (y:Value),cs[j]?=G y->w.cell? (a.add j)=G y:=by obtain⟨h1,h2,h3⟩:=World.cells?_some h;grind
theorem il{H:Type}{P:Program}{e:TypeId}{q:Nat->Bool}:∀{l:List (DataW H)},(DataW.weightsAll P e l).all q=J->∀d∈l,(d.weights P e).all q=J
 | [],_,d,hd=>by simp at hd
 |x::l,h,d,hd=>by
  simp only[DataW.weightsAll,Sc,M3] at h;rcases List.mem_cons.1 hd with rfl|hd
  ·exact h.1
  ·exact il h.2 d hd
theorem bU{H:Type}{P:Program}{q:Nat->Bool}:∀{ts:List TypeId} {l:List (DataW H)},(Tf P ts l).all q=J->∀(i:Nat) (t:TypeId) (d:DataW H),ts[i]?=G t->l[i]?=G d->(d.weights P t).all q=J
 | [],_,_,i,t,d,ht,_=>by simp at ht
 |_::_,[],_,i,t,d,_,hd=>by simp at hd
 |t0::ts,x::l,h,i,t,d,ht,hd=>by
  simp only[Tf,Sc,M3] at h;cases i with
  |zero=>grind
  |succ i=>exact bU h.2 i t d (by simpa using ht) (by simpa using hd)
end
section
variable {w:World}{av:Nat->Prop}{P:Program}
theorem El{ts:List TypeId}(hts:xI P ts=J){t:TypeId}(ht:t∈ts):(match P.underlying t with
 |G .bool|G (.int _)|some .string=>J
 |some (.slice e)=>ts.contains e&&Zd (0<P.cellsOf e)
 |some (.struct fs)=>dt P fs.toList 0 (P.cellsOf t)&&fs.toList.all λf=>ts.contains f.type
 |_=>N)=J:=List.all_eq_true.1 hts t ht
end
theorem mh(k:Nat):¬On (λ_=>False) (λ_=>Y) [] k:=λho=>ho.elim id (λh=>absurd h dq)
open Go Go.RowKit Go.ChangeShapes Go.WideShapes
section
variable {H:Type}{enc:TypeId×Value->H}{P:Program}
theorem jD(hl:laidOutB P=J){W W':World}(hb:Below W.heap.size W W'):∀{ts:List TypeId} {vs:List Value} {ds:List (DataW H)} {ps:List MemPlace},(ts.all λt=>P.readableRec t&&Zd (t<P.types.size))=J->DataW.TrodAll enc P W 0 (λ_=>J) J ts vs ds ps->(∀x∈ps,x.block<W.heap.size) -> DataW.TrodAll enc P W' 0 (λb=>Zd (b<W.heap.size)) J ts vs ds ps
 | [],vs,ds,ps,_,h,_=>by obtain⟨rfl,rfl,rfl⟩:=trodAll_nil h;rfl
 |t::ts,vs,ds,ps,ht,h,hps=>by obtain⟨v,τ,d,ds',p,q,rfl,rfl,rfl,h1,h2⟩:=trodAll_cons h;simp only[List.all_cons,M3,decide_eq_true_eq] at ht;refine⟨p,q,Below.trod hl ht.1.1 ht.1.2 h1 hb (λx hx=>hps x (List.mem_append_left _ hx)),jD hl hb Tn h2 (λx hx=>hps x (List.mem_append_right _ hx)),rfl⟩
theorem Bg{f:Func}{s:ChangeSpec}{apart:Bool}{W W':World}{args:Array Value}{ds gs:List (DataW H)}{before:List MemPlace}{b:TypeId}(hl:laidOutB P=J)(hp:(f.params.toList.all λt=>P.readableRec t&&Zd (t<P.types.size))=J)(hv:s.vars=[])(hr:f.resultTypes=#[b])(hbt:P.underlying b=G .bool)(hW:DataW.Whole enc P f.params.toList s.vars apart W args.toList ds gs before)(hs:s.fn H ds={results:=[.lit (.bool J)],args:=ds})(hb:Below W.heap.size W W') :s.post enc P f apart J N N W args (.bool J) W':=by
 have hW':=hW;have IN:=hW.lt;obtain⟨p,q,hA,hV,rfl,_,_⟩:=hW;rw[hv] at hV;obtain⟨rfl,rfl⟩:=trodVars_none hV;refine⟨ds,[],p++[],[],p,[],hW',?_,?_,?_,hb.frame _,λh=>by cases h⟩;·simp only[List.append_nil,hs,hr,Value.resultList];exact⟨[],[],⟨1,by simp[DataW.trod,Value.cells,hbt]⟩,rfl,rfl⟩
 ·simp[hs];exact jD hl hb hp hA (λx hx=>IN x (by simpa using hx))
 ·simp[hs,hv];rfl
end
end Go.Vi
namespace Go.Vi
open Go Go.RowKit
theorem zg{Γ:ao}{w:World}(hg:∀g cs,Γ g=G cs->T9 w (On (λ_=>False) (λ_=>Y) []) g 0 cs):TL Γ (λ_=>False) w (λ_=>Y) [] :=⟨λoR ho=>absurd ho dq,λoR ho=>ho.elim,λb b' x x' k c c' hb=>by simp at hb,λb x hb=>by simp at hb,hg⟩
theorem Bh{P:Program}{Γ:ao}{f:FuncId}{args:List D}{d:D}{W:World}{vs:List Value}(hg:∀g cs,Γ g=G cs->T9 W (On (λ_=>False) (λ_=>Y) []) g 0 cs)(he:Ev P Γ f args [] d [])(hr:AT W (On (λ_=>False) (λ_=>Y) []) (λ_=>Y) [] args vs):Calls P f vs.toArray W λe W'=>∃v,e=.returned v/\Rel W' (λ_=>False) (λ_=>Y) [] d v/\Go.RowKit.Below W.heap.size W W':=by have h1:=he (λ_=>False) W (λ_=>Y) vs (zg hg) hr;refine(callsIn_wide (n:=0)).1 (CallsIn.mono (h1:CallsIn (FW Y) 0 P f _ W _) ?_);rintro e W' ⟨v,d2,h2,l',rfl,⟨rfl,rfl⟩,R',E',rd⟩;refine⟨v,rfl,Rel.mono (λoR off y hn hc=>⟨hc,λh=>h.elim⟩) (λb x hb=>by simp at hb) d2 v rd,?_⟩;exact⟨E'.tape.2.1,E'.tape.1,E'.tape.2.2.1,E'.size,λk hk=>E'.same k hk dq⟩
end Go.Vi
