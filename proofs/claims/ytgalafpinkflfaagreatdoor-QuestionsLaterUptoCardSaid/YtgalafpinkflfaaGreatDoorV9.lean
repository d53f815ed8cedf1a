/- A part of the proof; no conditions of its own. -/
import Derived.Test.YtgalafpinkflfaaGreatDoorV8
import Derived.ChangeArms
import Derived.OpenShut
import Derived.Below
import Derived.Carry
open Bool renaming true->J,false->N
open Option renaming some->G,none->Y
open Go.Vi.ql renaming map->NI,var->eP,loop->Js
open Go.Exit renaming normal->w8,exit->EY
open Go.Vi.D renaming Pp->uN,agg->mS,ref->gM
open Go.Vi.η renaming inl->Τ
open Go.Vi.Ref renaming ptr->qn
open Decidable renaming decide -> fE
open Go.Instr renaming next -> Wr
open Bool renaming not_eq_true -> X5,and_eq_true -> Tm
open Array renaming isEmpty_iff_size_eq_zero -> XZ
open Go.Vi.Ext renaming refl -> VD
open Go.Sem renaming run_bind -> TK,run_pure -> Uf
open Go.Result renaming andThen_ok -> Tt
open Go.Question renaming forced -> Wi
open Go.Oper renaming semAt_eq -> W5
open Go.Region renaming wanted -> T4
open List renaming getD_eq_getElem?_getD -> UK,mem_filter -> W0,flatten_cons -> W6,drop_append -> XO,drop_eq_nil_of_le -> Xu,all_append -> VG
open Nat renaming add_mul -> V6
open Go.DataW renaming weightsEach -> Zw
namespace Go.Vi
open Go
section
variable {P:Program}{Γ:au}{O:Nat->Prop}{w:World}{l:Loc}{h:aT}
theorem ux:∀{kvs:List (D×D×Nat)} {es:List MapEntry},xa w (tf O l h) l h kvs es->∀{i:Nat} {e:MapEntry},es[i]?=G e -> ∃k d,(k,d,e.born)∈kvs/\Rel w (tf O l h) l h k e.key/\Rel w (tf O l h) l h d e.val
 | [],[],_,_,_,he=>by simp at he
 |(k,d,n)::kvs,e0::es,r,i,e,he=>by
  simp[xa] at r;cases i with
  |zero=>grind
  |succ i=>obtain⟨k',d',h1,h2⟩:=ux r.2.2.2 (by simpa using he);grind
 | [],_::_,r,_,_,_=>by simp[xa] at r
 |_::_,[],r,_,_,_=>mW
theorem Iy(R:JW Γ O w l h){b mb clock:Nat}{seen:iS}{kvs:List (D×D×Nat)}{y:Value}{t:TypeId}(rx:Rel w (tf O l h) l h (.ref (.it b)) y)(hb:h[b]? = some (.mit (some mb) clock seen clock)) (hmb:h[mb]? = some (.map kvs clock)) (Ν:∀e∈kvs,e.2.2<clock) :∃v w' h' d,(Wr y false t).run P w=.ok v w'/\JW Γ O w' l h'/\Ext w l h w' l h'/\Rel w' (tf O l h') l h' d v /\ ((kvs.filter (λe=>!seen.contains e.2.2)=[]/\d=.Pp [lit (.bool false)]/\h'=h) \/ ∃e∈kvs.filter (λe=>!seen.contains e.2.2),d=.Pp [lit (.bool true),e.1,e.2.1]/\h'=h.set b (.mit (some mb) clock (seen++[e.2.2]) clock)):=by
 obtain⟨fI,cp,ο,rfl⟩:=vX R rx hb (by simp);obtain⟨zec,cp',mr,h1,h2,h3⟩:=R.fI b _ hb;obtain⟨rfl,rfl⟩:fI=zec/\cp=cp':=by grind
 have h3':=h3;obtain⟨_,hr⟩:=h3;simp only[hmb] at hr;obtain⟨znq,mcp,hlm,hmr⟩:=hr;simp at hmr;subst hmr;obtain⟨zoN,mcp',es,g1,g2,g3⟩:=R.fI mb _ hmb;obtain⟨rfl,rfl⟩:znq=zoN/\mcp=mcp':=by grind
 have hgo:=bK (P:=P) h2 (by simp);have hgm:=bK (P:=P) g2 (by simp);have zmh:xa w (tf O l h) l h (kvs.filter λe=>!seen.contains e.2.2) (es.filter λe=>!seen.toArray.contains e.born).toList:=by rw[Array.toList_filter];simpa using im (f:=λn=>!seen.contains n) g3
 have hborn:∀e∈es,e.born<clock:=by intro e he;obtain⟨i,hi,rfl⟩:=List.getElem_of_mem (Array.mem_toList_iff.2 he);obtain⟨k,d,h4,_⟩:=ux g3 (List.getElem?_eq_getElem hi);exact Ν _ h4
 have zlT:(!seen.toArray.isEmpty&&!es.isEmpty&&es.all (λe=>fE (e.born>=clock)))=false:=by
  by_cases he:es.isEmpty;·simp[he]
  ·have:es.all (λe=>fE (e.born>=clock))=false:=by
    rw[<-X5,Array.all_eq_true];intro hh;have hp:0<es.size:=by rw[XZ] at he;omega
    have h5:=hh 0 hp;have h6:=hborn es[0] (Array.getElem_mem hp);simp at h5;omega
   simp[this]
 generalize hleft:es.filter (λe=>!seen.toArray.contains e.born)=left at zmh;have hlb2:∀e∈left,e.born<clock:=λe he=>hborn e (by grind);have hold:left.filter (λe=>fE (e.born<clock))=left:=by rw[Array.filter_eq_self];intro e he;simpa using hlb2 e he
 have zpS:left.filter (λe=>fE (e.born>=clock))=#[]:=by rw[Array.filter_eq_empty_iff];intro e he;have:=hlb2 e he;simp;omega
 by_cases hz:left=#[]
 ·subst hz;have hk:kvs.filter (λe=>!seen.contains e.2.2)=[]:=by
   cases hq:kvs.filter (λe=>!seen.contains e.2.2) with
   | nil=>rfl
   | cons a t=>rw[hq] at zmh;simp[xa] at zmh
  refine⟨.tuple #[.bool false],w,h,.Pp [lit (.bool false)],?_,R,VD _ _ _,by simp only[Rel];exact⟨_,rfl,w9 _ _ _ _ _,trivial⟩,.inl ⟨hk,rfl,rfl⟩⟩;simp only[Wr,TK,hgo,hgm,Tt,zlT,hleft];simp[Wi]
 ·have zlH:0<left.size:=by rw[Nat.pos_iff_ne_zero];intro hh;exact hz (Array.eq_empty_of_size_eq_zero hh)
  have hie:left.isEmpty=false:=by rw[<-X5,XZ];omega
  have pick:∃i w2,(choose (.mapNext left.size)).run P w=.ok i w2/\i<left.size/\JW Γ O w2 l h/\Ext w l h w2 l h/\w2.heap=w.heap:=by
   by_cases hf:left.size<=1;·exact⟨0,w,by simp[run_choose,Wi,hf],zlH,R,VD _ _ _,rfl⟩
   ·obtain⟨R1,E1⟩:=R.of_heap (w':=w.drew) rfl ⟨rfl,rfl,rfl,Nat.le_succ _⟩;exact⟨_,w.drew,by simp[run_choose,Wi,hf];rfl,Nat.mod_lt _ zlH,R1,E1,rfl⟩
  obtain⟨i,w2,p1,p2,R2,E2,p3⟩:=pick;have ztv:((if left.isEmpty=true then #[none] else #[])++Array.map some (left++#[]))[i]? = some (some left[i]):=by simp[hie,p2]
  obtain⟨k,d,m1,m2,m3⟩:=ux zmh (i:=i) (e:=left[i]) (by grind);have h2':w2.heap[fI]? = some (.mapIter (some znq) clock seen.toArray clock):=by rw[p3];exact h2
  have:=kv R2 (x':=.mit (some mb) clock (seen++[left[i].born]) clock) hb (by simp) ο (o':=.mapIter (some znq) clock (seen.toArray.push left[i].born) clock) h2' trivial
   (λE=>⟨fI,cp,some znq,ο,by grind,(E.rel (O:=O) (d:=.ref (.mp mb)) (E2.rel h3'))⟩)
  refine⟨.tuple #[.bool true,left[i].key,left[i].val],_,_,_,?_,this.1,E2.trans this.2,?_,.inr ⟨_,m1,rfl,rfl⟩⟩
  ·have hsz:(if left.isEmpty=true then #[none] else #[]:Array (Option MapEntry)).size+(left.size+0)=left.size:=by simp[hie]
   simp only[Wr,TK,hgo,hgm,Tt,zlT,hleft,hold,zpS];simp only[Bool.false_eq_true,if_false,Uf,Tt,Array.size_append,Array.size_map,Array.size_empty,hsz,p1,ztv,TK];simp[cv (P:=P) h2']
  ·simp only[Rel];exact⟨_,rfl,w9 _ _ _ _ _,this.2.rel (E2.rel m2),this.2.rel (E2.rel m3),trivial⟩
variable {X:Ctx}{r:BV}
theorem Nq{o:Oper}{x b mb clock:Nat}{it:Operand}{seen:iS}{kvs:List (D×D×Nat)}{s:AS}{K:Act->World->Prop}{Q':Exit->Act->World->Prop}(ho:o.op=.next it N)(hd:o.dst=G x)(hit:kr Γ s.t it=gM (.it b))(hb:s.h[b]?=G (.mit (G mb) clock seen clock))(hmb:s.h[mb]?=G (NI kvs clock))(Ν:∀e∈kvs,e.2.2<clock)(hm:aC s.h s.m=J)(hm':∀n,aC (s.h.set b (.mit (G mb) clock (seen++[n]) clock)) s.m=J)(h0:kvs.filter (λe=>!seen.contains e.2.2)=[]->∀a' w',St Γ X {t:=s.t.set x (uN [lit (.bool N)]),h:=s.h,m:=s.m} a' w'->K a' w')
  (h1:∀e∈kvs.filter (λe=>!seen.contains e.2.2),∀a' w',St Γ X {t:=s.t.set x (uN [lit (.bool J),e.1,e.2.1]),h:=s.h.set b (.mit (G mb) clock (seen++[e.2.2]) clock),m:=s.m} a' w'->K a' w')
  {a:Act} {w:World} (hs:St Γ X s a w):o.wpIn (FW r) 0 P a w K Q':=by
 obtain⟨l,R,E,rt,rd⟩:=hs
 have rx:=bh R rt it
 rw[hit] at rx
 obtain⟨v,w',h',d,g1,g2,g3,g4,g5⟩:=Iy (P:=P) (t:=o.type) R rx hb hmb Ν
 refine⟨λ_ _=>trivial,?_⟩
 rw[W5 _ _ _ mW]
 have he:(execOp a.eval o).run P w=.ok (.value v) w':=by obtain⟨dst,op,type,pos,after,guard⟩:=o;simp only at ho g1;subst ho;simp[execOp,g1]
 rw[he]
 rcases g5 with ⟨k1,rfl,rfl⟩|⟨e,k1,rfl,rfl⟩
 ·have key:=St.put (Γ:=Γ) (X:=X) (s:=s) (a:=a) o.dst rt rd E g2 g3 g4 hm
  exact h0 k1 (a.put o.dst v) w' (by have hp:NK s.t o.dst (uN [lit (.bool N)])=s.t.set x (uN [lit (.bool N)]):=(by rw[hd];rfl);grind)
 ·have key:=St.put (Γ:=Γ) (X:=X) (s:=s) (a:=a) o.dst rt rd E g2 g3 g4 (hm' _)
  exact h1 e k1 (a.put o.dst v) w' (by have hp:NK s.t o.dst (uN [lit (.bool J),e.1,e.2.1])=s.t.set x (uN [lit (.bool J),e.1,e.2.1]):=(by rw[hd];rfl);grind)
theorem VW.nextRegion{id:Nat}{o1 o2:Oper}{x1 x2 b mb clock:Nat}{it:Operand}{seen:iS}{kvs:List (D×D×Nat)}{s:AS}{Q:Exit->AS->Prop}(ho1:o1.op=.next it N)(hd1:o1.dst=G x1)(hg1:o1.guard=Y)(ho2:o2.op=.extract (.tmp x1) 0)(hd2:o2.dst=G x2)(hg2:o2.guard=Y)(hx1:x1<s.t.length)(hit:kr Γ s.t it=gM (.it b))(hb:s.h[b]?=G (.mit (G mb) clock seen clock))(hmb:s.h[mb]?=G (NI kvs clock))(Ν:∀e∈kvs,e.2.2<clock)(hm:aC s.h s.m=J)(hm':∀n,aC (s.h.set b (.mit (G mb) clock (seen++[n]) clock)) s.m=J)(h0:kvs.filter (λe=>!seen.contains e.2.2)=[]->Q w8 {t:=(s.t.set x1 (uN [lit (.bool N)])).set x2 (lit (.bool N)),h:=s.h,m:=s.m})
  (h1:∀e∈kvs.filter (λe=>!seen.contains e.2.2),Q w8 {t:=(s.t.set x1 (uN [lit (.bool J),e.1,e.2.1])).set x2 (lit (.bool J)),h:=s.h.set b (.mit (G mb) clock (seen++[e.2.2]) clock),m:=s.m}) :
  VW P Γ X r (.region id #[o1,o2] N) Q s:=λa w hs=>wpIn_region (by
 have w1:T4 o1 (yielded #[o1,o2] a.tmps)=J:=by simp[T4,hg1]
 simp[List.range_succ_eq_map,wpOpsIn]
 rw[if_pos w1]
 have step2:∀(d0:D) (ds:bY) (h2:aT) (a':Act) (w':World),aC h2 s.m=J->Q w8 {t:=(s.t.set x1 (uN (d0::ds))).set x2 d0,h:=h2,m:=s.m}->St Γ X {t:=s.t.set x1 (uN (d0::ds)),h:=h2,m:=s.m} a' w' ->
   if T4 o2 (yielded #[o1,o2] a'.tmps)=J then o2.wpIn (FW r) 0 P a' w' (gq Γ X Q w8) (gq Γ X Q) else (∀f,o2.about P w' a'.eval=G f->(FW r).fn f)/\gq Γ X Q w8 (a'.put o2.dst undef) w':=by
  intro d0 ds h2 a' w' hmk hq hs'
  have w2:T4 o2 (yielded #[o1,o2] a'.tmps)=J:=by simp[T4,hg2]
  rw[if_pos w2]
  refine H7 (s:={t:=s.t.set x1 (uN (d0::ds)),h:=h2,m:=s.m}) (d:=d0) (h':=h2) ?_ hmk ?_ hs'
  ·rw[ho2]
   have:kr Γ (s.t.set x1 (uN (d0::ds))) (.tmp x1)=uN (d0::ds):=by simp[kr,UK,hx1]
   simp only[oB,this]
   rfl
  ·intro a2 w2 hs2
   rw[hd2] at hs2
   exact⟨qk,_,hq,hs2⟩
 refine Nq (s:=s) ho1 hd1 hit hb hmb Ν hm hm' ?_ ?_ hs
 ·grind
 grind)
abbrev cE(l:List (D×D×Nat)):iS:=l.map λe=>e.2.2
theorem VW.mapLoop{id j:Nat}{o1 o2:Oper}{x1 x2 b mb clock:Nat}{it:Operand}{kvs:List (D×D×Nat)}{rest:Code}{Q:Exit->AS->Prop}(S:List (D×D×Nat)->AS)
  (ho1:o1.op=.next it false) (hd1:o1.dst=some x1) (hg1:o1.guard=none) (ho2:o2.op=.extract (.tmp x1) 0) (hd2:o2.dst=some x2) (hg2:o2.guard=none)
  (hS:∀pre,x1<(S pre).t.length/\x2<(S pre).t.length/\kr Γ (S pre).t it=.ref (.it b)/\(S pre).h[b]? = some (.mit (some mb) clock (cE pre) clock)/\(S pre).h[mb]? = some (.map kvs clock) /\
   aC (S pre).h (S pre).m=true/\∀n,aC ((S pre).h.set b (.mit (some mb) clock (cE pre++[n]) clock)) (S pre).m=true)
  (Ν:∀e∈kvs,e.2.2<clock) (hnd:(cE kvs).Nodup)
  (body:∀pre e post,(pre++e::post).Perm kvs ->
   VW P Γ X r rest (λe' s'=>e'=.normal/\s'=S (pre++[e])) {t:=((S pre).t.set x1 (.Pp [lit (.bool true),e.1,e.2.1])).set x2 (lit (.bool true)),h:=(S pre).h.set b (.mit (some mb) clock (cE (pre++[e])) clock),m:=(S pre).m})
  (last:∀pre,pre.Perm kvs->Q (.exit j) {t:=((S pre).t.set x1 (.Pp [lit (.bool false)])).set x2 (lit (.bool false)),h:=(S pre).h,m:=(S pre).m}) :
  VW P Γ X r (.loop (.seq (.region id #[o1,o2] false) (.seq (.cond (.tmp x2) .skip (.exit j)) rest))) Q (S []):=by
 refine VW.loop (ι:={pre:List (D×D×Nat) // ∃post,(pre++post).Perm kvs}) (λpre s=>s=S pre.1) (λpre=>kvs.length-pre.1.length) ⟨[],kvs,by simp⟩ rfl ?_
 rintro⟨pre,post,hp⟩ s rfl
 obtain⟨k1,k2,k3,k4,k5,k6,k7⟩:=hS pre
 have hnp:(cE (pre++post)).Nodup:=(hp.map _).nodup_iff.2 hnd
 have hdis:∀e∈post,(cE pre).contains e.2.2=false:=by
  intro e he
  rw[<-X5,List.contains_iff_mem]
  intro hm
  rw[cE,List.map_append,List.nodup_append] at hnp
  exact hnp.2.2 _ hm _ (List.mem_map.2 ⟨e,he,rfl⟩) rfl
 have Pt:∀e∈kvs,(cE pre).contains e.2.2=false->e∈post:=by
  intro e he hc
  rcases List.mem_append.1 (hp.mem_iff.2 he) with h|h
  ·grind
  ·exact h
 refine VW.seq (VW.nextRegion ho1 hd1 hg1 ho2 hd2 hg2 k1 k3 k4 k5 Ν k6 k7 ?_ ?_)
 ·intro hz
  have ztd:post=[]:=by
   cases post with
   | nil=>rfl
   | cons e post =>
    have h1:=hdis e (by simp)
    have h2:e∈kvs.filter (λe=>!(cE pre).contains e.2.2):=W0.2 ⟨hp.mem_iff.1 (by simp),by grind⟩
    grind
  subst ztd
  rw[List.append_nil] at hp
  refine VW.seq (VW.cond (b:=false) ?_ (λh=>by simp at h) (λ_=>?_))
  ·simp[kr,UK,k2,lit]
  ·exact VW.exit (last pre hp)
 ·intro e he
  obtain⟨h1,h2⟩:=W0.1 he
  have h3:=Pt e h1 (by simpa using h2)
  obtain⟨s1,s2,rfl⟩:=List.append_of_mem h3
  have hpe:(pre++e::(s1++s2)).Perm kvs:=by
   refine List.Perm.trans (List.Perm.append_left _ ?_) hp
   exact(List.perm_middle (l₁:=s1) (l₂:=s2) (a:=e)).symm
  refine VW.seq (VW.cond (b:=true) ?_ (λ_=>?_) (λh=>by simp at h))
  ·simp[kr,UK,k2,lit]
  ·refine VW.skip ?_
   have hbt:cE (pre++[e])=cE pre++[e.2.2]:=by simp[cE]
   have hb:=body pre e (s1++s2) hpe
   rw[hbt] at hb
   refine hb.mono ?_
   rintro e' s' ⟨rfl,rfl⟩
   refine⟨⟨pre++[e],s1++s2,by grind⟩,rfl,?_⟩
   have hl:=hpe.length_eq
   grind
def zf:Code->Nat->Code
 |.seq a b,n=>bif Nat.blt n (DB a).length then .seq a b else zf b (n-(DB a).length)
 |c,_=>c
def wP(c:Code)(n:Nat):Code:=match zf c n with
 |.seq _ b=>b
 |_=>.skip
end
theorem pV{sz:Nat}:∀(es:List (bY)) (n:Nat) (row:bY),(∀r∈es,r.length=sz)->es[n]?=G row->∃rest,es.flatten.drop (n*sz)=row++rest
 | [],n,row,_,h=>by simp at h
 |e::es,0,row,hs,h=>by simp_all
 |e::es,n+1,row,hs,h=>by simp at h;obtain⟨rest,hr⟩:=pV es n row (λr hr=>hs r (by simp[hr])) h;refine⟨rest,?_⟩;have he:e.length=sz:=hs e qk;rw[W6,List.ziw e es.flatten n sz he,hr]
where
 List.ziw (e t:bY) (n sz:Nat) (he:e.length=sz):(e++t).drop ((n+1)*sz)=t.drop (n*sz):=by rw[show(n+1)*sz=e.length+n*sz from mW,XO];simp
theorem pW{sz:Nat}:∀(es:List (bY)) (n:Nat) (new:bY),(∀r∈es,r.length=sz)->new.length=sz->n<es.length->bZ es.flatten (n*sz) new=(es.set n new).flatten
 | [],n,new,_,_,h=>by simp at h
 |e::es,0,new,hs,hn,_=>by have he:e.length=sz:=hs e qk;simp[bZ,hn,<-he]
 |e::es,n+1,new,hs,hn,h=>by
  have he:e.length=sz:=hs e qk;have ih:=pW es n new (λr hr=>hs r (by simp[hr])) hn (by simpa using h);simp[<-ih];unfold bZ;have e1:(n+1)*sz=e.length+n*sz:=by rw[he,V6];omega
  rw[e1,List.take_append,XO];have h1:List.take (e.length+n*sz) e=e:=List.take_of_length_le lj;have h2:List.drop (e.length+n*sz+new.length) e=[]:=Xu lj;grind
theorem gK{sz:Nat}:∀(es:List (bY)),(∀r∈es,r.length=sz)->es.flatten.length=es.length*sz
 | [],_=>qk
 |e::es,hs=>by rw[W6,List.length_append,gK es (λr hr=>hs r (by simp[hr])),hs e qk,List.length_cons,V6];omega
section
variable {P:Program}{h:aT}{b sz:Nat}{es:List (bY)}
theorem Iz{ty:TypeId}(ha:HU P ty=G J)(hz:γ P ty=G sz)(hb:h[b]?=G (eP es.flatten))(hs:∀r∈es,r.length=sz){n:Nat}{row:bY}(hn:es[n]?=G row):aQ P h ty (gM (qn b (n*sz)))=G (mS row):=by obtain⟨rest,hr⟩:=pV es n row hs hn;have hl:row.length=sz:=hs row (List.mem_of_getElem? hn);unfold aQ;simp only[hb,hr,cC,ha,hz];grind
theorem pX{ty:TypeId}(ha:HU P ty=G N)(hz:γ P ty=G 1)(hb:h[b]?=G (eP es.flatten))(hs:∀r∈es,r.length=sz){n j:Nat}{row:bY}{d:D}(hn:es[n]?=G row)(hj:row[j]?=G d):aQ P h ty (gM (qn b (n*sz+j)))=G d:=by
 obtain⟨rest,hr⟩:=pV es n row hs hn;unfold aQ;have:es.flatten.drop (n*sz+j)=(row++rest).drop j:=by rw[<-hr,List.drop_drop]
 simp only[hb,this,cC,ha,hz];rw[List.head?_drop];grind
theorem IA{ty:TypeId}(ha:HU P ty=G J){cs:bY}(hz:γ P ty=G cs.length)(hb:h[b]?=G (eP cs)):aQ P h ty (gM (qn b 0))=G (mS cs):=by unfold aQ;simp only[hb,List.drop_zero,cC,ha,hz];simp
theorem pY{ty:TypeId}{x:D}{new:bY}(hx:x.cells=G new)(hz:γ P ty=G sz)(hl:new.length=sz)(hb:h[b]?=G (eP es.flatten))(hs:∀r∈es,r.length=sz){n:Nat}(hn:n<es.length):aY P h ty (gM (qn b (n*sz))) x=G (h.set b (eP (es.set n new).flatten)):=by unfold aY;simp only[hx,hz,hl,hb];have:(n+1)*sz<=es.length*sz:=Nat.mul_le_mul_right _ hn;rw[V6] at this;rw[if_pos trivial,if_pos (by rw[gK es hs];omega),pW es n new hs hl hn]
theorem wQ{ty:TypeId}{x:D}{new cs:bY}(hx:x.cells=G new)(hz:γ P ty=G new.length)(hl:cs.length=new.length)(hb:h[b]?=G (eP cs)):aY P h ty (gM (qn b 0)) x=G (h.set b (eP new)):=by unfold aY;simp only[hx,hz,hb];rw[if_pos trivial,if_pos lj];have:List.drop new.length cs=[]:=Xu lj;simp[bZ,this]
end
section
variable {P:Program}{Γ:au}
theorem Cv{w:World}{t e:TypeId}(hu:P.underlying t=G (.slice e)){base:Option Addr}{n c:Nat}:(Op.equal t (.slice base n c) (.slice Y 0 0)).run P w=.ok base.isNone w:=by
 have key:∀k,(Op.equalIn (k+1) t (.slice base n c) (.slice Y 0 0)).run P w=.ok base.isNone w:=by intro k;cases base<;>simp only[Op.equalIn,TK,Z2 hu,Tt,Uf]<;>rfl
 exact key 9999
theorem Nr{w:World}{av:Nat->Prop}{rows:bv}{y:Value}(h:FL w av (.sl rows) y):∃base n c,y=.slice base n c/\(base.isNone=J->rows=[]):=by grind [FL]
theorem VW.nilLast{X:Ctx}{r:BV}{call:Κ}(hc:call.Ok P Γ){id:Nat}{ops:BY}{s:AS}{os:oF}{o:Oper}(h0:ops.toList=os++[o]){t e:TypeId}(hu:P.underlying t=G (.slice e)){x:Tmp}{yt:TypeId}(ho:o.op=.binOp .eql t (.tmp x) (.const (.slice Y 0 0)) yt)(hg:o.guard=Y){t1:bY}{h1:aT}(hr:bo P Γ call s.m ops.toList os s.t s.h=G (w8,t1,h1)){rows:bv}(hx:kr Γ t1 (.tmp x)=.p (.sl rows)){Q:Exit->AS->Prop}(hQ:∀b:Bool,(b=J->rows=[])->Q w8 {t:=NK t1 o.dst (lit (.bool b)),h:=h1,m:=s.m}):VW P Γ X r (.region id ops N) Q s:=by
 intro a w hs;have hlen:ops.size=os.length+1:=by rw[<-Array.length_toList,h0];simp
 have zkX:List.range ops.size=List.range' 0 os.length++[os.length]:=by rw[hlen,List.range_succ,List.range_eq_range']
 have ho0:ops[os.length]?=G o:=by rw[<-Array.getElem?_toList,h0];simp
 refine wpIn_region ?_;rw[zkX];refine gz hc (tail:=[os.length]) (λ_ a w hs=>?_) (λc he=>by cases he) os 0 s.t s.h [o] (by simpa using h0) hr a w hs;have hmk:=hs.marks;obtain⟨l,R,E,rt,rd⟩:=hs;simp[wpOpsIn,ho0];have hw:T4 o (yielded ops a.tmps)=J:=by unfold T4;rw[hg]
 rw[if_pos hw];have rx:=bh R rt (.tmp x);rw[hx] at rx;simp[Rel] at rx;obtain⟨base,n,c,hv,hn⟩:=Nr rx;refine⟨λ_ _=>trivial,?_⟩;have e0':(FW r).round=r:=by cases r<;>rfl
 have e1:(execOp a.eval o).run P w=.ok (.value (.bool base.isNone)) w:=by
  unfold execOp;rw[ho];have h2:a.eval (.const (.slice Y 0 0))=.slice Y 0 0:=rfl;simp only[hv,h2];have:=Cv (P:=P) (w:=w) hu (base:=base) (n:=n) (c:=c);have hg:(eqGuard .eql t (.tmp x) (.const (.slice Y 0 0)) (.slice base n c) (.slice Y 0 0)).run P w=.ok () w:=by unfold eqGuard;simp
  simp only[TK,hg,Tt,binOp,this,Uf]
 rw[W5 _ _ _ mW,e1];have key:=St.put (Γ:=Γ) (X:=X) (s:={t:=t1,h:=h1,m:=s.m}) (a:=a) (w':=w) (l:=l) (h':=h1) (d:=lit (.bool base.isNone)) (v:=.bool base.isNone) o.dst rt rd E R (VD _ _ _) (by simp[Rel,FL]) hmk;rw[Oper.uponIn_value];exact⟨qk,_,hQ _ hn,key⟩
end
def Shp(P:Program):Nat->TypeId->dO->Prop
 |0,_,_=>False
 |n+1,t,ds=>match P.underlying t with
  |some .bool=>∃b,ds=[.v (.bool b)]
  |some (.int k)=>∃x,ds=[.v (.int k x)]/\(Lit.int k x).wf=J
  |some .string=>∃s,ds=[.v (.string s)]/\s.size<=reachBytes
  |some (.slice e)=>∃es,ds=[.sl es]/\es.length*P.bytesOf e<=reachBytes/\∀r∈es,Shp P n e r
  |some (.struct fs)=>ds.length=P.cellsOf t/\∀f∈fs.toList,Shp P n f.type ((ds.drop f.offset).take (P.cellsOf f.type))
  |_=>False
def dU(P:Program):List Field->Nat->Nat->Bool
 | [],acc,total=>acc==total
 |f::fs,acc,total=>(f.offset==acc)&&dU P fs (acc+P.cellsOf f.type) total
def A2(P:Program)(ts:To):Bool:=ts.all λt=>match P.underlying t with
 |G .bool|G (.int _)|some .string=>J
 |some (.slice e)=>ts.contains e&&fE (0<P.cellsOf e)
 |some (.struct fs)=>dU P fs.toList 0 (P.cellsOf t)&&fs.toList.all λf=>ts.contains f.type
 |_=>N
def zaq(w:World)(av:Nat->Prop):dO->oR->Prop
 | [],[]=>True
 |d::ds,y::ys=>FL w av d y/\zaq w av ds ys
 |_,_=>False
section
variable {w:World}{av:Nat->Prop}
theorem zaq.length:∀{ds:dO} {ys:oR},zaq w av ds ys->ds.length=ys.length
 | [],[],_=>rfl
 |_::_,_::_,h=>by simp[zaq.length h.2]
 | [],_::_,h=>h.elim
 |_::_,[],h=>h.elim
theorem zaq.append:∀{ds ds':dO} {ys ys':oR},zaq w av ds ys->zaq w av ds' ys'->zaq w av (ds++ds') (ys++ys')
 | [],_,[],_,_,h=>h
 |_::_,_,_::_,_,h,h'=>⟨h.1,zaq.append h.2 h'⟩
 | [],_,_::_,_,h,_=>h.elim
 |_::_,_,[],_,h,_=>h.elim
theorem zaq.Ξ{l:Loc}{h:aT}:∀{ds:dO} {ys:oR},zaq w av ds ys->kc w av l h (ds.map .p) ys
 | [],[],_=>by simp[kc]
 |_::_,_::_,r=>by simp[kc,Rel];exact⟨r.1,zaq.Ξ r.2⟩
 | [],_::_,h=>h.elim
 |_::_,[],h=>h.elim
theorem wR{P:Program}:∀{fs:List Field} {acc total:Nat},dU P fs acc total=J->acc<=total/\∀f∈fs,acc<=f.offset
 | [],acc,total,h=>by simp[dU] at h;grind
 |f::fs,acc,total,h=>by simp[dU] at h;obtain⟨h1,h2⟩:=wR h.2;grind
theorem sG{fI c:Nat}:∀(es:bv) (off:Nat),(∀i e,es[i]?=G e->e.length=c/\xf w av fI (off+i*c) e)->EX w av fI c off es
 | [],_,_=>trivial
 |e::es,off,h=>by obtain⟨h1,h2⟩:=h 0 e rfl;refine⟨h1,by simpa using h2,sG es (off+c) λi e' he=>?_⟩;obtain⟨h3,h4⟩:=h (i+1) e' (by simpa using he);grind
theorem qb(hav:∀k,¬av k){fI:Nat}:∀(ds:dO) (ys:oR) (off:Nat),zaq w av ds ys->(∀(j:Nat) (y:Value),ys[j]?=G y->w.cell? ⟨fI,off+j,Y⟩=G y)->xf w av fI off ds
 | [],_,_,_,_=>trivial
 |d::ds,[],_,r,_=>r.elim
 |d::ds,y::ys,off,r,hc=>by refine⟨⟨hav _,y,by simpa using hc 0 y rfl,r.1⟩,qb hav ds ys (off+1) r.2 λj z hz=>?_⟩;have:=hc (j+1) z (by simpa using hz);grind
theorem A3{a:Addr}{n:Nat}{cs:oR}(h:w.cells? 0 a n=G cs):cs.length=n/\∀(j:Nat) (y:Value),cs[j]?=G y->w.cell? (a.add j)=G y:=by obtain⟨h1,h2,h3⟩:=World.cells?_some h;grind
theorem jA{H:Type}{P:Program}{e:TypeId}{q:Nat->Bool}:∀{l:List (DataW H)},(DataW.weightsAll P e l).all q=J->∀d∈l,(d.weights P e).all q=J
 | [],_,d,hd=>by simp at hd
 |x::l,h,d,hd=>by
  simp only[DataW.weightsAll,VG,Tm] at h;rcases List.mem_cons.1 hd with rfl|hd
  ·exact h.1
  ·exact jA h.2 d hd
theorem aV{H:Type}{P:Program}{q:Nat->Bool}:∀{ts:To} {l:List (DataW H)},(Zw P ts l).all q=J->∀(i:Nat) (t:TypeId) (d:DataW H),ts[i]?=G t->l[i]?=G d->(d.weights P t).all q=J
 | [],_,_,i,t,d,ht,_=>by simp at ht
 |_::_,[],_,i,t,d,_,hd=>by simp at hd
 |t0::ts,x::l,h,i,t,d,ht,hd=>by
  simp only[Zw,VG,Tm] at h;cases i with
  |zero=>grind
  |succ i=>exact aV h.2 i t d (by simpa using ht) (by simpa using hd)
end
section
variable {w:World}{av:Nat->Prop}{P:Program}
theorem IB{ts:To}(hts:A2 P ts=J){t:TypeId}(ht:t∈ts):(match P.underlying t with
 |G .bool|G (.int _)|some .string=>J
 |some (.slice e)=>ts.contains e&&fE (0<P.cellsOf e)
 |some (.struct fs)=>dU P fs.toList 0 (P.cellsOf t)&&fs.toList.all λf=>ts.contains f.type
 |_=>N)=J:=List.all_eq_true.1 hts t ht
end
theorem kX(k:Nat):¬tf (λ_=>False) (λ_=>Y) [] k:=λho=>ho.elim id (λh=>absurd h dT)
open Go Go.RowKit Go.ChangeShapes Go.WideShapes
section
variable {H:Type}{enc:TypeId×Value->H}{P:Program}
theorem kY(hl:laidOutB P=J){W W':World}(hb:Below W.heap.size W W'):∀{ts:To} {vs:oR} {ds:List (DataW H)} {ps:List MemPlace},(ts.all λt=>P.readableRec t&&fE (t<P.types.size))=J->DataW.TrodAll enc P W 0 (λ_=>J) J ts vs ds ps->(∀x∈ps,x.block<W.heap.size) -> DataW.TrodAll enc P W' 0 (λb=>fE (b<W.heap.size)) J ts vs ds ps
 | [],vs,ds,ps,_,h,_=>by obtain⟨rfl,rfl,rfl⟩:=trodAll_nil h;rfl
 |t::ts,vs,ds,ps,ht,h,hps=>by obtain⟨v,vs',d,ds',p,q,rfl,rfl,rfl,h1,h2⟩:=trodAll_cons h;simp only[List.all_cons,Tm,decide_eq_true_eq] at ht;refine⟨p,q,Below.trod hl ht.1.1 ht.1.2 h1 hb (λx hx=>hps x (List.mem_append_left _ hx)),kY hl hb mW h2 (λx hx=>hps x (List.mem_append_right _ hx)),rfl⟩
theorem qc{f:Func}{s:ChangeSpec}{apart:Bool}{W W':World}{args:By}{ds gs:List (DataW H)}{before:List MemPlace}{b:TypeId}(hl:laidOutB P=J)(hp:(f.params.toList.all λt=>P.readableRec t&&fE (t<P.types.size))=J)(hv:s.vars=[])(hr:f.resultTypes=#[b])(hbt:P.underlying b=G .bool)(hW:DataW.Whole enc P f.params.toList s.vars apart W args.toList ds gs before)(hs:s.fn H ds={results:=[.lit (.bool J)],args:=ds})(hb:Below W.heap.size W W') :s.post enc P f apart J N N W args (.bool J) W':=by
 have hW':=hW;have oA:=hW.lt;obtain⟨p,q,hA,hV,rfl,_,_⟩:=hW;rw[hv] at hV;obtain⟨rfl,rfl⟩:=trodVars_none hV;refine⟨ds,[],p++[],[],p,[],hW',?_,?_,?_,hb.frame _,λh=>by cases h⟩;·simp only[List.append_nil,hs,hr,Value.resultList];exact⟨[],[],⟨1,by simp[DataW.trod,Value.cells,hbt]⟩,rfl,rfl⟩
 ·simp[hs];exact kY hl hb hp hA (λx hx=>oA x (by simpa using hx))
 ·simp[hs,hv];rfl
end
end Go.Vi
namespace Go.Vi
open Go Go.RowKit
theorem Cw{Γ:au}{w:World}(hg:∀g cs,Γ g=G cs->xf w (tf (λ_=>False) (λ_=>Y) []) g 0 cs):JW Γ (λ_=>False) w (λ_=>Y) [] :=⟨λfI ho=>absurd ho dT,λfI ho=>ho.elim,λb b' x x' k c c' hb=>by simp at hb,λb x hb=>by simp at hb,hg⟩
theorem qd{P:Program}{Γ:au}{f:FuncId}{args:bY}{d:D}{W:World}{vs:oR}(hg:∀g cs,Γ g=G cs->xf W (tf (λ_=>False) (λ_=>Y) []) g 0 cs)(he:Ev P Γ f args [] d [])(hr:kc W (tf (λ_=>False) (λ_=>Y) []) (λ_=>Y) [] args vs):Calls P f vs.toArray W λe W'=>∃v,e=.returned v/\Rel W' (λ_=>False) (λ_=>Y) [] d v/\Go.RowKit.Below W.heap.size W W':=by have h1:=he (λ_=>False) W (λ_=>Y) vs (Cw hg) hr;refine(callsIn_wide (n:=0)).1 (CallsIn.mono (h1:CallsIn (FW Y) 0 P f _ W _) ?_);rintro e W' ⟨v,d2,h2,l',rfl,⟨rfl,rfl⟩,R',E',rd⟩;refine⟨v,rfl,Rel.mono (λfI off y hn hc=>⟨hc,λh=>h.elim⟩) (λb x hb=>by simp at hb) d2 v rd,?_⟩;exact⟨E'.tape.2.1,E'.tape.1,E'.tape.2.2.1,E'.size,λk hk=>E'.same k hk dT⟩
end Go.Vi
