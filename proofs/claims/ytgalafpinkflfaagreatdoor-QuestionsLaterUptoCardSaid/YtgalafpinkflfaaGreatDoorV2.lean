/- A part of the proof; no conditions of its own. -/
import Derived.Test.YtgalafpinkflfaaGreatDoorV1
import Derived.IntWalk
open Bool renaming true->J,false->N
open Option renaming some->G,none->Y
open Go.Vi.ql renaming map->NI,EZ->xx
open Go.Vi.D renaming ref->gM,agg->mS
open Decidable renaming decide -> fE
open Go.Builtin renaming zeroCells -> WI,lenOf -> UC,firstCells -> Ut,append_ -> UM,len_ -> Wq
open Go.Vi.Loc renaming zoE -> VC
open Nat renaming le_refl -> T0,mul_le_mul_right -> Vr,add_mul -> V6,le_succ -> Yb
open List renaming getElem?_cons_zero -> Vd,getElem?_toArray -> Xf,getElem?_cons_succ -> We,all_eq_true -> TW,length_append -> Uk,flatten_append -> VH,isEmpty_eq_false_iff -> WR,length_pos_iff -> XA,mem_of_mem_drop -> Wz,mem_of_mem_take -> XR,take_of_length_le -> Vl,length_drop -> VB,length_take -> VX,take_left' -> YA,drop_append -> XO,append_assoc -> WV,mapM_cons -> YT,replicate -> Ti,length_nil -> VF,isEmpty_toArray -> Y3
open Go.Question renaming appendCap -> YK,forced -> Wi
open Go.IntKind renaming i64 -> S6
open Go.Sem renaming run_bind -> TK,run_pure -> Uf
open Go.Result renaming andThen_ok -> Tt
open Bool renaming false_eq_true -> Uj,and_eq_true -> Tm,not_eq_true' -> UZ,or_eq_true -> YB,eq_iff_iff -> XB
open Go.Vi.ql renaming stays -> WZ
open Option.some renaming injEq -> Tf
open Prod.mk renaming injEq -> Tk
open Array renaming length_toList -> VJ,range -> VE,toList_map -> W9,toList_range -> XI,getElem?_toList -> Uo
open Go.ByteArray renaming toList_eq -> Yz
open Option renaming map_eq_some_iff -> Tn
open Go.Op renaming intArith -> Yf,intCmp -> XH,unary -> Zs
open Int renaming not_lt -> Wj
open Go.Instr renaming build -> YU,buildSlice -> XU,makeSlice -> V4,sliceBounds -> UX,sliceBound -> Wf,sliceAt -> Ve,slice -> X3,findNow -> Yp,sameNow -> XC,lookup -> W3,findKey -> WW,sameBits -> Xl,mapUpdate -> X9,range -> X4,next -> Wr
open Go.IntWalk renaming i64_in -> Xa
open Go.Utf8 renaming decode -> Y2
open Go.Vi.Ext renaming refl -> VD
namespace Go.Vi
open Go
abbrev At:=Option D
abbrev dO:=List Dp
abbrev bY:=List D
abbrev bv:=List (dO)
abbrev aT:=List ql
section
variable {P:Program}{Γ:au}{O:Nat->Prop}{w:World}{l:Loc}{h:aT}
theorem rA(z:By)(n:Nat):(WI z n).size=n*z.size:=by simp[WI]
theorem i4(R:JW Γ O w l h)(w1:World)(hw1:w1.heap=w.heap/\w1.tape=w.tape/\w1.os=w.os/\w1.output=w.output/\w.drawn<=w1.drawn)(e:TypeId)(cs:By)(rows:List (bY))(sz cap:Nat)(ys rest:oR)(hcs:cs.toList=ys++rest)(hsz:cs.size=cap*sz)(zmi:rows.length<=cap)(hr:∀r∈rows,r.length=sz)(ry:kc w (tf O l h) l h rows.flatten ys) :∃l',JW Γ O (w1.alloc (.cells cs e)) l' (h++[.eY rows 0 sz])/\Ext w l h (w1.alloc (.cells cs e)) l' (h++[.eY rows 0 sz]) /\ Rel (w1.alloc (.cells cs e)) (tf O l' (h++[.eY rows 0 sz])) l' (h++[.eY rows 0 sz]) (gM (.eY h.length 0)) (.slice (G ⟨w.heap.size,0,Y⟩) rows.length cap):=by
 obtain⟨R1,E1⟩:=R.of_heap hw1.1 hw1.2;have hs:w1.heap.size=w.heap.size:=by rw[hw1.1]
 obtain⟨R2,E2⟩:=fV R1 (.cells cs e) (.eY rows 0 sz) (mkP 0 cap) (λE=>by simp only[zm,VC];exact⟨0,cap,rfl,cs,e,(0,0),ys,heap_alloc_new w1 _,lj,zmi,qk,hr,E.Ξ (E1.Ξ ry),[],rest,rfl,hcs⟩);refine⟨_,R2,E1.trans E2,?_⟩;simp only[Rel,qI];refine⟨rfl,?_⟩;simp only[List.getElem?_append_right (T0 _),Nat.sub_self,Vd,VC,hs,j6];grind
theorem Ca(R:JW Γ O w l h)(sz:Nat):∃l',JW Γ O w l' (h++[.eY [] 0 sz])/\Ext w l h w l' (h++[.eY [] 0 sz]) /\ Rel w (tf O l' (h++[.eY [] 0 sz])) l' (h++[.eY [] 0 sz]) (gM (.eY h.length 0)) (.slice Y 0 0):=by
 have:=R.step (w':=w) (l':=l.upd h.length Y) (h':=h++[.eY [] 0 sz]) h.length (.eY [] 0 sz) (T0 _) ⟨rfl,rfl,rfl,mW⟩ (λb hb=>kg h _ hb) qk
  (λb hb=>Loc.zlB _ _ _ hb) (λy hy=>by simp at hy) (λ_ _ _=>rfl) (λk c hk=>by simp at hk) (λ_=>by simp[zm])
 refine⟨_,this.1,this.2,?_⟩;simp only[Rel,qI];refine⟨rfl,?_⟩;simp[j6]
theorem Cb{NJ cap:Nat}{e:TypeId}(t:Nat):NJ<=(YK NJ cap e).cut t:=by simp[Question.cut]
theorem rB{t tx ty e:TypeId}{dx:TypeDesc}{sz by':Nat}{z:Value}{base:Option Addr}{n cap m:Nat}{x:Value}{olds news:oR}
  (ht:P.underlying t=some (.slice e)) (hx:P.underlying tx=some dx) (hdx:∀k,dx≠.int k) (hs:γ P e=some sz) (hb:bytesOf P e=some by') (hz:jp P e=some z)
  (hlen:(UC x).run P w=.ok m w) (zpS:(Ut sz m x).run P w.drew=.ok news.toArray w.drew)
  (hold:(Ut sz n (.slice base n cap)).run P w.drew=.ok olds.toArray w.drew) (hn:cap<n+m) (hby:(n+m)*by'<=140737488355328) (h62:n+m<=4611686018427387904) :
  ∃(zkK:Nat),n+m<=zkK /\
   (UM #[t,tx] ty #[.slice base n cap,x]).run P w=.ok (.slice (some ⟨w.heap.size,0,none⟩) (n+m) zkK)
    (w.drew.alloc (.cells (olds.toArray++news.toArray++WI z.cells (zkK-(n+m))) e)):=by
 obtain⟨i,hi,hib⟩:=jF hb
 have hfit:=growslice_fits hn hby
 have hti:∀w:World,(typeInfo e).run P w=.ok i w:=λw=>by simp[typeInfo,hi]
 refine⟨(YK (n+m) cap e).cut (w.tape w.drawn (.appendCap (n+m) cap e)),Cb _,?_⟩
 have hnot:¬((((n+m:Nat):Int)>S6.max)/\(False\/i.bytes=0)):=by
  intro hh
  have:S6.max=9223372036854775807:=rfl
  rw[this] at hh;omega
 have hcap':¬(Builtin.nextslicecap (n+m) cap*i.bytes>2 ^ 48):=by rw[hib];omega
 unfold UM
 simp only[Xf,Vd,We,TK,xy ht,xy hx,Tt,L4 hs,Uf]
 cases dx with
 | int k=>grind
 | _ =>
  simp only[Uj,if_false,hlen,Tt,Nat.not_le.2 hn,TK,hti,hnot,hcap',if_false,run_choose,Wi,run_askRoom,hold,zpS,Μ hz,Uf,Bool.not_false,if_true,newRow,run_newObj,World.drew_eq,World.alloc_eq,World.size_drew]
theorem kl{t tx ty e:TypeId}{dx:TypeDesc}{sz fI n cap m:Nat}{x:Value}{news:oR}{c:By}{T:TypeId}{fr:Nat×Nat}(ht:P.underlying t=G (.slice e))(hx:P.underlying tx=G dx)(hdx:∀k,dx≠.int k)(hs:γ P e=G sz)(hlen:(UC x).run P w=.ok m w)(zpS:(Ut sz m x).run P w=.ok news.toArray w)(h1:∀v∈news,v.oneCell'=J)(hnl:news.length=m*sz){oo:Nat}(hn:n+m<=cap)(hb:w.heap[fI]?=G (.cells c T fr))(hf:∀o,o<c.size->¬(fr.1<=o/\o<fr.2))(hc:oo+cap*sz<=c.size) :∃w' c',(UM #[t,tx] ty #[.slice (G ⟨fI,oo,Y⟩) n cap,x]).run P w=.ok (.slice (G ⟨fI,oo,Y⟩) (n+m) cap) w'/\w'.heap.size=w.heap.size/\(∀k,k≠fI->w'.heap[k]?=w.heap[k]?) /\ w'.heap[fI]?=G (.cells c' T fr)/\c'.toList=bG c.toList (oo+n*sz) news/\w'.tape=w.tape/\w'.os=w.os/\w'.output=w.output/\w.drawn<=w'.drawn:=by
 have hle:oo+n*sz+0+news.length<=c.size:=by rw[hnl];have:=Vr sz hn;rw[V6] at this;omega
 obtain⟨w',c',h2,h3⟩:=dY (P:=P) (off:=oo+n*sz) news 0 w c hb hf hle h1;refine⟨w',c',?_,by simpa using h3⟩;unfold UM;simp only[Xf,Vd,We,TK,xy ht,xy hx,Tt,L4 hs,Uf];cases dx with
 |int k=>grind
 |_=>simp[hlen,hn,zpS,h2]
theorem ik{t tx ty e:TypeId}{dx:TypeDesc}{sz:Nat}{x:Value}{news:oR}(ht:P.underlying t=G (.slice e))(hx:P.underlying tx=G dx)(hdx:∀k,dx≠.int k)(hs:γ P e=G sz)(hlen:(UC x).run P w=.ok 0 w)(zpS:(Ut sz 0 x).run P w=.ok news.toArray w) :(UM #[t,tx] ty #[.slice Y 0 0,x]).run P w=.ok (.slice Y 0 0) w:=by
 unfold UM;simp only[Xf,Vd,We,TK,xy ht,xy hx,Tt,L4 hs,Uf];cases dx with
 |int k=>grind
 |_=>simp[hlen,zpS]
theorem eN{t:TypeId}{z:bY}(hz:eA P t=G z):∃v,jp P t=G v/\z=v.cells.toList.map lit:=by
 unfold eA at hz;cases hv:jp P t with
 |none=>simp[hv] at hz
 |some v=>grind
theorem vQ(R:JW Γ O w l h){b e0 sz:Nat}{es:List (bY)}(hb:h[b]?=G (.eY es e0 sz))(w1:World)(hw1:w1.heap=w.heap/\w1.tape=w.tape/\w1.os=w.os/\w1.output=w.output/\w.drawn<=w1.drawn)(e:TypeId)(cs:By)(rows:List (bY))(cap:Nat)(ys rest:oR)(hcs:cs.toList=ys++rest)(hsz:cs.size=cap*sz)(zmi:rows.length<=cap)(hr:∀r∈rows,r.length=sz)(ry:kc w (tf O l h) l h rows.flatten ys) :∃l',JW Γ O (w1.alloc (.cells cs e)) l' (h.set b (.eY rows (e0+1) sz))/\Ext w l h (w1.alloc (.cells cs e)) l' (h.set b (.eY rows (e0+1) sz)) /\ Rel (w1.alloc (.cells cs e)) (tf O l' (h.set b (.eY rows (e0+1) sz))) l' (h.set b (.eY rows (e0+1) sz)) (gM (.eY b (e0+1))) (.slice (G ⟨w.heap.size,0,Y⟩) rows.length cap):=by
 have hs:w1.heap.size=w.heap.size:=by rw[hw1.1]
 have:=R.step (w':=w1.alloc (.cells cs e)) (l':=l.upd b (G (w.heap.size,mkP 0 cap))) (h':=h.set b (.eY rows (e0+1) sz)) b (.eY rows (e0+1) sz) (by simp[hs]) ⟨hw1.2.1,hw1.2.2.1,hw1.2.2.2⟩
  (λi hi=>b9 _ _ hi) (bk hb) (λi hi=>Loc.zlB _ _ _ hi)
  (λz hz=>by rw[hb] at hz;cases hz;exact⟨⟨Yb _,λhh=>absurd hh lj,rfl⟩,λhh=>absurd hh (by simp[WZ])⟩)
  (λk hk _=>by rw[heap_alloc_old w1 _ k lj,hw1.1])
  (λk c hk=>by simp_all)
  (λE=>by
   simp only[zm,VC]
   exact⟨0,cap,rfl,cs,e,(0,0),ys,by rw[<-hs];exact heap_alloc_new w1 _,lj,zmi,qk,hr,E.Ξ ry,[],rest,rfl,hcs⟩)
 refine⟨_,this.1,this.2,?_⟩;simp only[Rel,qI];refine⟨rfl,?_⟩;grind [VC,j6]
theorem tM(R:JW Γ O w l h){t tx ty:TypeId}{s x d:D}{ys yx:Value}{h':aT}(rs:Rel w (tf O l h) l h s ys)(rx:Rel w (tf O l h) l h x yx)
  (hd:oQ P h t tx s x=some (true,d,h')) :
  ∃v w' l',(UM #[t,tx] ty #[ys,yx]).run P w=.ok v w'/\JW Γ O w' l' h'/\Ext w l h w' l' h'/\Rel w' (tf O l' h') l' h' d v:=by
 unfold oQ at hd
 cases hte:fS P t with
 | none=>grind
 | some e =>
  cases hux:P.underlying tx with
  | none=>grind
  | some dx =>
   simp only[hte,hux] at hd
   split at hd
   case isTrue=>simp at hd
   rename_i hdx0
   have hdx:∀k,dx≠.int k:=by intro k hk;subst hk;simp[znT] at hdx0
   have ht:P.underlying t=some (.slice e):=by
    unfold fS at hte
    cases hu:P.underlying t with
    | none=>grind
    | some u=>grind
   cases hs:γ P e with
   | none=>simp[hs] at hd
   | some sz =>
    cases hb:bytesOf P e with
    | none=>grind
    | some by' =>
     cases hz:eA P e with
     | none=>grind
     | some z =>
      cases zln:Δ h x with
      | none=>grind
      | some rows =>
       simp only[hs,hb,hz,zln] at hd
       split at hd
       case isFalse=>simp at hd
       rename_i hzl
       obtain⟨zv,hzv,rfl⟩:=eN hz
       have hzsz:zv.cells.size=sz:=by simpa using hzl
       have pre:rows.all (aL sz)=true->(∀r∈rows,r.length=sz)/\(rows.flatten.all D.one=true):=by
        intro ha
        simp only[TW,aL,Tm,decide_eq_true_eq] at ha
        refine⟨λr hr=>(ha r hr).1,?_⟩
        simp only[TW,List.mem_flatten]
        rintro c ⟨r,hr,hc⟩
        exact(ha r hr).2 c hc
       obtain⟨R1,E1⟩:=R.of_heap (w':=w.drew) rfl ⟨rfl,rfl,rfl,(by simp_all)⟩
       have zqz:∀{n m:Nat},uO (n+m) by'=true->(n+m)*by'<=140737488355328/\n+m<=4611686018427387904:=by
        intro n m hh;simpa[uO] using hh
       have mk:∀(base:Option Addr) (cap:Nat) (zcA:List (bY)) (y:Value),y=.slice base zcA.length cap->Rel w (tf O l h) l h s y->Δ h s=some zcA->(∀r∈zcA,r.length=sz) ->
         rows.all (aL sz)=true->uO (zcA.length+rows.length) by'=true->cap<zcA.length+rows.length ->
         ∃(zkK:Nat) (cs:By) (zs rest:oR),(UM #[t,tx] ty #[y,yx]).run P w=.ok (.slice (some ⟨w.heap.size,0,none⟩) (zcA++rows).length zkK) (w.drew.alloc (.cells cs e)) /\
          cs.toList=zs++rest/\cs.size=zkK*sz/\(zcA++rows).length<=zkK/\(∀r∈zcA++rows,r.length=sz)/\kc w.drew (tf O l h) l h (zcA++rows).flatten zs:=by
        intro base cap zcA y hy ry hor hol ha hro oA
        subst hy
        obtain⟨p1,p2⟩:=pre ha
        obtain⟨g1,_⟩:=di (P:=P) R rx zln p1
        obtain⟨_,news,g2,g3⟩:=di (P:=P) R1 (E1.rel rx) zln p1
        obtain⟨_,olds,g5,g6⟩:=di (P:=P) R1 (E1.rel ry) hor hol
        obtain⟨q1,q2⟩:=zqz hro
        obtain⟨zkK,q3,q4⟩:=rB (P:=P) (ty:=ty) ht hux hdx hs hb hzv g1 g2 g5 oA q1 q2
        refine⟨zkK,_,olds++news,(WI zv.cells (zkK-(zcA.length+rows.length))).toList,by rw[q4,Uk],by simp,?_,by grind,?_,?_⟩
        ·have h1:=g6.length
         have h2:=g3.length
         rw[aN hol] at h1
         rw[aN p1] at h2
         simp[rA,hzsz,<-h1,<-h2,<-V6]
         congr 1;omega
        ·grind
        ·rw[VH];exact g6.append g3
       have news:∀(zcA:List (bY)) (y:Value) (base:Option Addr) (cap:Nat),y=.slice base zcA.length cap->Rel w (tf O l h) l h s y->Δ h s=some zcA->(∀r∈zcA,r.length=sz) ->
         rows.all (aL sz)=true->uO (zcA.length+rows.length) by'=true->cap<zcA.length+rows.length->d=.ref (.eY h.length 0)->h'=h++[.eY (zcA++rows) 0 sz] ->
         ∃v w' l',(UM #[t,tx] ty #[y,yx]).run P w=.ok v w'/\JW Γ O w' l' h'/\Ext w l h w' l' h'/\Rel w' (tf O l' h') l' h' d v:=by
        intro zcA y base cap hy ry hor hol ha hro oA hd2 hh2
        obtain⟨zkK,cs,zs,rest,k1,k2,k3,k4,k5,k6⟩:=mk base cap zcA y hy ry hor hol ha hro oA
        obtain⟨l',k7,k8,k9⟩:=i4 R1 w.drew ⟨rfl,rfl,rfl,rfl,(by grind)⟩ e cs (zcA++rows) sz zkK zs rest k2 k3 k4 k5 k6
        subst hd2;subst hh2
        exact⟨_,_,l',k1,k7,E1.trans k8,k9⟩
       split at hd
       ·-- nil
        simp only[Tf,Tk,Tm] at hd
        obtain⟨⟨ha,hro⟩,rfl,rfl⟩:=hd
        simp[Rel,FL] at rs
        subst rs
        cases hrl:rows with
        | nil =>
         subst hrl
         obtain⟨g1,nw,g2,g3⟩:=di (P:=P) R rx zln (pre ha).1
         obtain⟨l',k7,k8,k9⟩:=Ca R sz
         exact⟨_,_,l',ik ht hux hdx hs g1 g2,k7,k8,k9⟩
        | cons r0 rs' =>
         rw[<-hrl]
         exact news [] (.slice none 0 0) none 0 rfl (by simp[Rel,FL]) (by simp[Δ]) (by simp) ha hro (by rw[hrl];simp) rfl (by simp)
       ·-- ci
        rename_i es
        simp only[Tf,Tk,Tm,UZ,WR] at hd
        obtain⟨⟨⟨⟨ha,hro⟩,hne⟩,hel⟩,rfl,rfl⟩:=hd
        have hol:∀r∈es.map (·.map D.p),r.length=sz:=by
         simp only[TW,decide_eq_true_eq] at hel
         intro r hr
         obtain⟨r0,h0,rfl⟩:=List.mem_map.1 hr
         simpa using hel r0 h0
        have zlH:0<rows.length:=XA.2 hne
        grind [Rel,Δ]
       ·-- a ci part
        rename_i b e' i n kcl
        cases hbk:h[b]? with
        | none=>grind
        | some bx =>
         cases bx<;>simp only[hbk,reduceCtorEq] at hd
         rename_i es e2 Ι
         split at hd
         case isFalse=>simp at hd
         rename_i he
         obtain⟨rfl,rfl⟩:=he
         simp only[Tf,Tk,Tm,UZ,WR] at hd
         obtain⟨⟨⟨⟨ha,hro⟩,hne⟩,hkn⟩,rfl,rfl⟩:=hd
         have hkn:=of_decide_eq_true hkn
         subst hkn
         have zlH:0<rows.length:=XA.2 hne
         have rs':=rs
         obtain⟨_,hr⟩:=rs
         simp only[hbk] at hr
         obtain⟨Pt,fI,oo,cap,c2,ο,hy,_,_,hc⟩:=hr.2 trivial
         have hc2:=hc _ rfl
         subst hc2
         have hlen:((es.drop i).take c2).length=c2:=by simp;omega
         have Φ:=R.fI b _ hbk
         simp only[zm,ο] at Φ
         obtain⟨_,_,_,c,T,fr,ys',o1,o2,o3,o4,o5,o6,o7⟩:=Φ
         rcases hy with rfl|⟨a0,rfl,_⟩
         ·exact news ((es.drop i).take c2) _ (some _) c2 (by rw[hlen]) rs' (by simp[Δ,hbk]) (λr hr=>o5 r (Wz (XR hr))) ha (by grind) (by grind) rfl rfl
         ·exact news ((es.drop i).take c2) _ a0 c2 (by rw[hlen]) rs' (by simp[Δ,hbk]) (λr hr=>o5 r (Wz (XR hr))) ha (by grind) (by grind) rfl rfl
       ·-- the rest of a vector
        rename_i b e' i n
        cases hbk:h[b]? with
        | none=>grind
        | some bx =>
         cases bx<;>simp only[hbk,reduceCtorEq] at hd
         rename_i es e2 Ι
         split at hd
         case isFalse=>simp at hd
         rename_i he
         obtain⟨rfl,rfl,Pt⟩:=he
         simp only[Tf,Tk,Tm,UZ,WR] at hd
         obtain⟨⟨⟨ha,hro⟩,hne⟩,rfl,rfl⟩:=hd
         have zlH:0<rows.length:=XA.2 hne
         have rs':=rs
         obtain⟨_,hr⟩:=rs
         simp only[hbk] at hr
         obtain⟨_,fI,oo,cap,c2,ο,hy,hnc,hic,_⟩:=hr.2 trivial
         have hlen:(es.drop i).length=n:=by simp;omega
         have Φ:=R.fI b _ hbk
         simp only[zm,ο] at Φ
         obtain⟨o2',cc,rc,c,T,fr,ys',o1,o2,o3,o4,o5,o6,pr,rest,o0,o7⟩:=Φ
         obtain⟨rfl,rfl⟩:=dh rc
         have hor:Δ h (.ref (.vs b e' i n none))=some (es.drop i):=by
          simp only[Δ,hbk,if_true]
          rw[Vl (by omega)]
         have grow:∀(base:Option Addr),ys=.slice base n c2->c2<n+rows.length ->
           ∃v w' l',(UM #[t,tx] ty #[ys,yx]).run P w=.ok v w'/\JW Γ O w' l' (h.set b (.eY (es.drop i++rows) (e'+1) Ι))/\Ext w l h w' l' (h.set b (.eY (es.drop i++rows) (e'+1) Ι)) /\
            Rel w' (tf O l' (h.set b (.eY (es.drop i++rows) (e'+1) Ι))) l' (h.set b (.eY (es.drop i++rows) (e'+1) Ι)) (.ref (.eY b (e'+1))) v:=by
          intro base hy oA
          obtain⟨zkK,cs,zs,rest,k1,k2,k3,k4,k5,k6⟩:=mk base c2 (es.drop i) ys (by grind) rs' hor (λr hr=>o5 r (Wz hr)) ha (by grind) (by grind)
          obtain⟨l',k7,k8,k9⟩:=vQ R1 hbk w.drew ⟨rfl,rfl,rfl,rfl,(by grind)⟩ e cs (es.drop i++rows) zkK zs rest k2 k3 k4 k5 k6
          exact⟨_,_,l',k1,k7,E1.trans k8,k9⟩
         rcases hy with hy|⟨a0,hy,sR⟩
         ·by_cases hfit:n+rows.length<=c2
          ·subst hy
           obtain⟨p1,p2⟩:=pre ha
           obtain⟨g1,nw,g2,g3⟩:=di (P:=P) R rx zln p1
           have hnl:nw.length=rows.length*Ι:=by rw[<-g3.length,aN p1]
           have hcz0:oo+i*Ι+c2*Ι<=c.size:=by
            have:=Vr Ι hic
            rw[V6] at this
            omega
           obtain⟨w',c',k1,k2,k3,k4,k5,k6⟩:=kl (P:=P) (ty:=ty) (T:=T) ht hux hdx hs g1 g2 (oO g3 p2) hnl hfit o1 o4 hcz0
           have hyl:ys'.length=i*Ι+n*Ι:=by rw[<-o6.length,aN o5,<-V6,Pt]
           have hfd:(es.drop i).flatten=es.flatten.drop (i*Ι):=by
            have:=bd o5 i n (by omega)
            rw[Vl (by omega),Vl (l:=es.flatten.drop (i*Ι)) (by rw[VB,aN o5,<-Pt,V6];omega)] at this
            exact this
           have hcz:c'.size=c.size:=by
            have hh:=congrArg List.length k5
            have h9:=Vr Ι hfit
            rw[V6] at h9
            simp only[bG,Uk,VX,VB,VJ] at hh
            omega
           have:=R.step (w':=w') (l':=l.upd b (some (fI,mkP (oo+i*Ι) c2))) (h':=h.set b (.eY (es.drop i++rows) (e'+1) Ι)) b (.eY (es.drop i++rows) (e'+1) Ι) (by omega) k6
            (λi hi=>b9 _ _ hi) (bk hbk) (λi hi=>Loc.zlB _ _ _ hi)
            (λz hz=>by rw[hbk] at hz;cases hz;exact⟨⟨Yb _,λhh=>absurd hh (by omega),rfl⟩,λhh=>absurd hh (by simp[WZ])⟩)
            (λk hk hno=>k3 k (λee=>hno _ (mkP oo cap) hbk (by simp) (by rw[ο,ee])))
            (λk cc hk=>by
             grind [VC])
            (λE=>by
             simp only[zm,VC]
             refine⟨oo+i*Ι,c2,rfl,c',T,fr,ys'.drop (i*Ι)++nw,k4,by omega,by grind,by grind,?_,?_,pr++ys'.take (i*Ι),rest.drop nw.length,?_,?_⟩
             ·grind
             ·rw[VH,hfd];exact((E.Ξ o6).drop _).append (E.Ξ g3)
             ·grind
             ·have e1:oo+i*Ι+n*Ι=(pr++ys').length:=by rw[Uk];omega
              rw[k5,o7]
              unfold bG
              rw[e1,YA,XO]
              ·simp only[WV]
               rw[<-WV (ys'.take _) (ys'.drop _),List.take_append_drop]
               simp
              ·rfl)
           refine⟨_,w',_,k1,this.1,this.2,?_⟩
           simp only[Rel,qI]
           refine⟨rfl,?_⟩
           rw[bk hbk]
           simp only[VC,j6]
           exact⟨T0 _,λ_=>⟨_,_,rfl,by grind,by grind⟩⟩
          grind
         grind
       ·-- an owned vector
        rename_i b e'
        cases hbk:h[b]? with
        | none=>grind
        | some bx =>
         cases bx<;>simp only[hbk,reduceCtorEq] at hd
         rename_i es e2 Ι
         split at hd
         case isFalse=>simp at hd
         rename_i he
         obtain⟨rfl,rfl⟩:=he
         simp only[Tf,Tk,Tm] at hd
         obtain⟨⟨ha,hro⟩,rfl,rfl⟩:=hd
         have rs':=rs
         obtain⟨_,hr⟩:=rs
         simp only[hbk] at hr
         have hv:=hr.2 trivial
         have Φ:=R.fI b _ hbk
         have grow:∀(base:Option Addr) (cap:Nat),ys=.slice base es.length cap->(∀r∈es,r.length=Ι)->cap<es.length+rows.length ->
           ∃v w' l',(UM #[t,tx] ty #[ys,yx]).run P w=.ok v w'/\JW Γ O w' l' (h.set b (.eY (es++rows) (e'+1) Ι))/\Ext w l h w' l' (h.set b (.eY (es++rows) (e'+1) Ι)) /\
            Rel w' (tf O l' (h.set b (.eY (es++rows) (e'+1) Ι))) l' (h.set b (.eY (es++rows) (e'+1) Ι)) (.ref (.eY b (e'+1))) v:=by
          intro base cap hy hol oA
          obtain⟨zkK,cs,zs,rest,k1,k2,k3,k4,k5,k6⟩:=mk base cap es ys hy rs' (by simp[Δ,hbk]) hol ha hro oA
          obtain⟨l',k7,k8,k9⟩:=vQ R1 hbk w.drew ⟨rfl,rfl,rfl,rfl,(by grind)⟩ e cs (es++rows) zkK zs rest k2 k3 k4 k5 k6
          exact⟨_,_,l',k1,k7,E1.trans k8,k9⟩
         cases ο:l b with
         | none =>
          simp only[ο,j6,zm] at hv Φ
          obtain⟨_,rfl⟩:=hv
          subst Φ
          cases hrl:rows with
          | nil =>
           subst hrl
           obtain⟨g1,nw,g2,g3⟩:=di (P:=P) R rx zln (pre ha).1
           have:=R.step (w':=w) (l':=l) (h':=h.set b (.eY ([]++[]) (e'+1) Ι)) b (.eY ([]++[]) (e'+1) Ι) (T0 _) ⟨rfl,rfl,rfl,(by grind)⟩
            (λi hi=>b9 _ _ hi) (bk hbk) (λ_ _=>rfl)
            (λz hz=>by rw[hbk] at hz;cases hz;exact⟨⟨Yb _,λhh=>absurd hh (by omega),rfl⟩,λhh=>absurd hh (by simp[WZ])⟩)
            (λ_ _ _=>rfl) (λk c hk=>by grind) (λE=>by simp[zm,ο])
           refine⟨_,_,l,ik ht hux hdx hs g1 g2,this.1,this.2,?_⟩
           simp only[Rel,qI]
           grind
          | cons r0 rs2 =>
           grind
         | some pr =>
          obtain⟨fI,cp0⟩:=pr
          simp only[ο,j6,zm] at hv Φ
          obtain⟨oo,cap,rfl,rfl,hvl⟩:=hv
          obtain⟨o2',cc,rc,c,T,fr,ys',o1,o2,o3,o4,o5,o6,pr,rest,o0,o7⟩:=Φ
          obtain⟨rfl,rfl⟩:=dh rc
          by_cases hfit:es.length+rows.length<=cap
          ·obtain⟨p1,p2⟩:=pre ha
           obtain⟨g1,nw,g2,g3⟩:=di (P:=P) R rx zln p1
           have hnl:nw.length=rows.length*Ι:=by rw[<-g3.length,aN p1]
           obtain⟨w',c',k1,k2,k3,k4,k5,k6⟩:=kl (P:=P) (ty:=ty) (T:=T) ht hux hdx hs g1 g2 (oO g3 p2) hnl hfit o1 o4 o2
           have hyl:ys'.length=es.length*Ι:=by rw[<-o6.length,aN o5]
           have hcz:c'.size=c.size:=by
            have hh:=congrArg List.length k5
            have hcl:c.toList.length=pr.length+ys'.length+rest.length:=by rw[o7];simp only[Uk]
            have h9:=Vr Ι hfit
            rw[V6] at h9
            simp only[bG,Uk,VX,VB,VJ] at hh hcl
            omega
           have:=R.step (w':=w') (l':=l) (h':=h.set b (.eY (es++rows) (e'+1) Ι)) b (.eY (es++rows) (e'+1) Ι) (by omega) k6
            (λi hi=>b9 _ _ hi) (bk hbk) (λ_ _=>rfl)
            (λz hz=>by rw[hbk] at hz;cases hz;exact⟨⟨Yb _,λhh=>absurd hh (by omega),rfl⟩,λhh=>absurd hh (by simp[WZ])⟩)
            (λk hk hno=>k3 k (λee=>hno _ (mkP oo cap) hbk (by simp) (by rw[ο,ee])))
            (λk cc hk=>.inl ⟨_,cc,hbk,by simp,hk⟩)
            (λE=>by
             simp only[zm,ο]
             refine⟨oo,cap,rfl,c',T,fr,ys'++nw,k4,by omega,by grind,by grind,?_,?_,pr,rest.drop nw.length,o0,?_⟩
             ·grind
             ·rw[VH];exact(E.Ξ o6).append (E.Ξ g3)
             ·rw[k5,o7]
              unfold bG
              have e1:oo+es.length*Ι=(pr++ys').length:=by rw[Uk];omega
              rw[e1,YA,XO]
              ·simp
              ·rfl)
           refine⟨_,w',l,k1,this.1,this.2,?_⟩
           simp[Rel,qI]
           refine⟨rfl,?_⟩
           rw[bk hbk]
           simp only[ο,j6]
           grind
          grind
       ·simp at hd
end
section
variable {P:Program}{Γ:au}{O:Nat->Prop}{w:World}{l:Loc}{h:aT}
theorem aF{av:Nat->Prop}{x y:Value}(r:Rel w av l h (.p (.v x)) y):y=x:=by grind [Rel,FL]
theorem eqS_eq(a b:ByteArray):(a.toList==b.toList)=eqS a b:=by simp[eqS,Yz]
theorem kp{op:BinOp}{k:IntKind}{a b n:Int}(hb:DG op k a b=G n)(w:World):(Op.intBits op k a b).run P w=.ok (.int k n) w:=by unfold DG at hb;cases op<;>simp only[Tf,reduceCtorEq] at hb<;>subst hb<;>rfl
theorem zqY{op:BinOp}{k:IntKind}{t:TypeId}{a b:Int}{d:D}(hd:zsX op k a b=G (J,d))(w:World):∃v,(binOp op t (.int k a) (.int k b)).run P w=.ok v w/\Rel w (tf O l h) l h d v:=by
 cases op<;>simp only[zsX,Tf,Tk,true_and,Tn] at hd;case quo=>obtain⟨h1,rfl⟩:=hd;simp at h1;exact⟨_,by simp[binOp,Op.intDiv,h1],w9 _ _ _ _ _⟩
 case rem=>obtain⟨h1,rfl⟩:=hd;simp at h1;exact⟨_,by simp[binOp,Op.intDiv,h1],w9 _ _ _ _ _⟩
 case add=>subst hd;exact⟨_,by simp[binOp,Yf],w9 _ _ _ _ _⟩
 case sub=>subst hd;exact⟨_,by simp[binOp,Yf],w9 _ _ _ _ _⟩
 case mul=>subst hd;exact⟨_,by simp[binOp,Yf],w9 _ _ _ _ _⟩
 case eql=>subst hd;exact⟨_,by simp[binOp,XH],w9 _ _ _ _ _⟩
 case neq=>subst hd;exact⟨_,by simp[binOp,XH],w9 _ _ _ _ _⟩
 case lss=>subst hd;exact⟨_,by simp[binOp,XH],w9 _ _ _ _ _⟩
 case leq=>subst hd;exact⟨_,by simp[binOp,XH],w9 _ _ _ _ _⟩
 case gtr=>subst hd;exact⟨_,by simp[binOp,XH],w9 _ _ _ _ _⟩
 case geq=>subst hd;exact⟨_,by simp[binOp,XH],w9 _ _ _ _ _⟩
 case and=>obtain⟨n,h1,rfl⟩:=hd;exact⟨_,by simpa[binOp] using kp h1 w,w9 _ _ _ _ _⟩
 case or=>obtain⟨n,h1,rfl⟩:=hd;exact⟨_,by simpa[binOp] using kp h1 w,w9 _ _ _ _ _⟩
 case xor=>obtain⟨n,h1,rfl⟩:=hd;exact⟨_,by simpa[binOp] using kp h1 w,w9 _ _ _ _ _⟩
 case andNot=>obtain⟨n,h1,rfl⟩:=hd;exact⟨_,by simpa[binOp] using kp h1 w,w9 _ _ _ _ _⟩
 all_goals grind [DG]
theorem DJ{op:BinOp}{t:TypeId}{a b:ByteArray}{d:D}(hd:zss op a b=G (J,d))(w:World):∃v,(binOp op t (.string a) (.string b)).run P w=.ok v w/\Rel w (tf O l h) l h d v:=by
 cases op<;>simp only[zss,Tf,Tk,true_and,reduceCtorEq] at hd;case add=>
  obtain⟨h1,rfl⟩:=hd;have h2:¬(((a.size+b.size:Nat):Int)>S6.max):=by have:S6.max=9223372036854775807:=rfl;rw[this];simp only[decide_eq_true_eq] at h1;omega
  exact⟨_,by simp only[binOp,Op.stringOp,h2,if_false];rfl,w9 _ _ _ _ _⟩
 all_goals
  subst hd
  refine⟨_,by simp only[binOp,Op.stringOp,Yz];rfl,w9 _ _ _ _ _⟩
theorem Cc{op:BinOp}{t:TypeId}{xo yo:Operand}{x y d:D}{a b:Value}(rx:Rel w (tf O l h) l h x a)(ry:Rel w (tf O l h) l h y b)(hd:binD op x y=G (J,d)):∃v,(do eqGuard op t xo yo a b;binOp op t a b:Sem Value).run P w=.ok v w/\Rel w (tf O l h) l h d v:=by
 unfold binD at hd;split at hd
 ·rename_i k n k' m;obtain rfl:=aF rx;obtain rfl:=aF ry;have hg:(eqGuard op t xo yo (.int k n) (.int k' m)).run P w=.ok () w:=by unfold eqGuard;cases op<;>simp
  simp[hg];split at hd;·simp at hd;obtain⟨h1,rfl⟩:=hd;exact⟨_,by simp[binOp,Op.shift,Wj.2 h1],w9 _ _ _ _ _⟩
  ·simp at hd;obtain⟨h1,rfl⟩:=hd;exact⟨_,by simp[binOp,Op.shift,Wj.2 h1],w9 _ _ _ _ _⟩
  ·split at hd;·rename_i hk;subst hk;exact zqY hd w
   ·simp at hd
 ·rename_i s u;obtain rfl:=aF rx;obtain rfl:=aF ry;have hg:(eqGuard op t xo yo (.string s) (.string u)).run P w=.ok () w:=by unfold eqGuard;cases op<;>simp
  simp[hg];exact DJ hd w
 ·simp at hd
theorem DK{op:UnOp}{x d:D}{a:Value}(rx:Rel w (tf O l h) l h x a)(hd:unD op x=G d):∃v,(Zs op a).run P w=.ok v w/\Rel w (tf O l h) l h d v:=by
 unfold unD at hd;split at hd
 ·obtain rfl:=aF rx;split at hd;·cases hd;exact⟨_,by simp[Zs,Yf],w9 _ _ _ _ _⟩
  ·simp at hd;obtain⟨n,h1,rfl⟩:=hd;exact⟨_,by simpa[Zs] using kp h1 w,w9 _ _ _ _ _⟩
  ·simp at hd
 ·obtain rfl:=aF rx;split at hd;·cases hd;exact⟨_,by simp[Zs],w9 _ _ _ _ _⟩
  ·simp at hd
 ·simp at hd
theorem yC{c x y d:D}{vc vx vy:Value}(rc:Rel w (tf O l h) l h c vc)(rx:Rel w (tf O l h) l h x vx)(ry:Rel w (tf O l h) l h y vy)(hd:zkS c x y=G (J,d)):∃v,(do pure (.value (if <-asBool vc then vx else vy)):Sem Next).run P w=.ok (.value v) w/\Rel w (tf O l h) l h d v:=by
 unfold zkS at hd;split at hd;case h_2=>simp at hd
 rename_i b;obtain rfl:=aF rc;split at hd
 ·cases hd;obtain rfl:=aF rx;obtain rfl:=aF ry;cases b;·exact⟨_,by simp[asBool],w9 _ _ _ _ _⟩
  ·exact⟨_,by simp[asBool],w9 _ _ _ _ _⟩
 ·simp at hd;obtain⟨hg,rfl⟩:=hd;obtain rfl:=aF rx;cases b;·simp[Rel] at ry;have:=ry.1 (by simpa using hg);simp[FL] at this;subst this;exact⟨_,by simp[asBool],w9 _ _ _ _ _⟩
  ·exact⟨_,by simp[asBool],w9 _ _ _ _ _⟩
 ·simp only[Tf,Tk,YB] at hd;obtain⟨hg,rfl⟩:=hd;obtain rfl:=aF ry;cases b;·exact⟨_,by simp[asBool],w9 _ _ _ _ _⟩
  ·simp[Rel] at rx;have:=rx.1 (by simpa using hg);simp[FL] at this;subst this;exact⟨_,by simp[asBool],w9 _ _ _ _ _⟩
 ·cases hd;cases b;·exact⟨_,by simp[asBool],ry⟩
  ·exact⟨_,by simp[asBool],rx⟩
theorem yE{src dst:TypeId}{x d:D}{a:Value}(rx:Rel w (tf O l h) l h x a)(hd:MQ P src dst x=G d):∃v,(convert src dst a).run P w=.ok v w/\Rel w (tf O l h) l h d v:=by
 unfold MQ at hd;split at hd;·rename_i s k n h1 h2;cases hd;obtain rfl:=aF rx;refine⟨_,?_,w9 _ _ _ _ _⟩;simp[convert,xy h1,xy h2,Conv.intToInt]
 ·rename_i s n h1 h2;cases hd;obtain rfl:=aF rx;refine⟨_,?_,w9 _ _ _ _ _⟩;simp only[convert,TK,xy h1,xy h2,Tt];cases s<;>simp
 ·simp at hd
theorem gn{mx:Bool}{t:TypeId}{ts:ON}:∀{xs:bY} {x d:D} {a:Value} {vs:oR} (_:Rel w (tf O l h) l h x a) (_:kc w (tf O l h) l h xs vs) (_:lT mx x xs=G d),∃v,(vs.foldlM (if mx then Builtin.max2 else Builtin.min2) a).run P w=.ok v w/\Rel w (tf O l h) l h d v
 | [],x,d,a,[],rx,_,hd=>by simp[lT] at hd;simp_all
 |y::xs,x,d,a,v::vs,rx,rl,hd=>by
  simp[kc] at rl;simp only[lT] at hd;cases h1:ZK x with
  |none=>simp[h1] at hd
  |some p1=>
   cases h2:ZK y with
   |none=>grind
   |some p2=>obtain⟨k,n⟩:=p1;obtain⟨k2,m⟩:=p2;simp only[h1,h2] at hd;obtain rfl:=bI rx h1;obtain rfl:=bI rl.1 h2;obtain⟨v,h3,h4⟩:=gn (t:=t) (ts:=ts) (a:=.int k (if mx then (if m>n then m else n) else (if m<n then m else n))) (w9 _ _ _ _ _) rl.2 hd;grind [TK,Builtin.max2,Builtin.min2]
 | [],_,_,_,_::_,_,rl,_=>by simp[kc] at rl
 |_::_,_,_,_,[],_,rl,_=>by simp[kc] at rl
theorem Cd{x:D}{y:Value}{n:Nat}(rx:Rel w (tf O l h) l h x y)(hx:lR h x=G n):∃a c,y=.slice a n c:=by
 cases x with
 |p dp=>
  cases dp with
  |v x=>obtain rfl:=aF rx;grind [lR]
  |sl es=>grind [lR,Tf,Rel,FL]
 |csl es=>grind [lR,Tf,Rel]
 |ref r=>
  obtain⟨g1,hr⟩:=rx;cases r with
  |eY b e=>
   simp[lR] at hx hr;cases hb:h[b]? with
   |none=>simp[hb] at hx
   |some bx=>
    cases bx<;>simp only[hb,reduceCtorEq] at hx hr;split at hx;case isFalse=>simp at hx
    rename_i he;cases hx;have hv:=hr.2 he.symm;cases ο:l b with
    |none=>simp only[ο,j6] at hv;grind
    |some pr=>obtain⟨fI,cap⟩:=pr;simp[ο,j6] at hv;grind
  |vs b e i m c=>simp only[lR] at hx hr;grind
  |av b off m sz=>simp only[lR] at hx hr;grind
  |_=>simp[lR] at hx
 |_=>simp[lR] at hx
theorem il:∀(kvs:List (D×D×Nat)) (es:List MapEntry),xa w (tf O l h) l h kvs es->kvs.length=es.length
 | [],[],_=>rfl
 |(_,_,_)::kvs,e::es,r=>by simp[xa] at r;simp[il kvs es r.2.2.2]
 | [],_::_,r=>by simp[xa] at r
 |_::_,[],r=>by simp[xa] at r
theorem yG(R:JW Γ O w l h){t ty:TypeId}{ts:To}{x d:D}{y:Value}(rx:Rel w (tf O l h) l h x y)(hd:vP P h t x=G d):∃v,(Wq (t::ts).toArray ty #[y]).run P w=.ok v w/\Rel w (tf O l h) l h d v:=by
 unfold vP at hd;cases hu:P.underlying t with
 |none=>simp[hu] at hd
 |some u=>
  cases u<;>simp only[hu,reduceCtorEq,Tn,Tf] at hd;case array n e=>subst hd;exact⟨_,by simp[Wq,xy hu,goInt],w9 _ _ _ _ _⟩
  case string=>
   split at hd;·cases hd;obtain rfl:=aF rx;exact⟨_,by simp[Wq,xy hu,goInt],w9 _ _ _ _ _⟩
   ·simp at hd
  case slice e=>obtain⟨n,h1,rfl⟩:=hd;obtain⟨a,c,rfl⟩:=Cd rx h1;exact⟨_,by simp[Wq,xy hu,goInt],w9 _ _ _ _ _⟩
  case map kt et=>
   split at hd;·cases hd;obtain rfl:=aF rx;exact⟨_,by simp[Wq,xy hu,goInt],w9 _ _ _ _ _⟩
   ·rename_i b;cases hb:h[b]? with
    |none=>simp[hb] at hd
    |some bx=>
     obtain⟨_,hr⟩:=rx;cases bx<;>simp only[hb,reduceCtorEq,Tf] at hd hr;subst hd;obtain⟨fI,cp,ο,rfl⟩:=hr;obtain⟨zec,cp',es,h1,h2,h3⟩:=R.fI b _ hb;obtain⟨rfl,rfl⟩:fI=zec/\cp=cp':=mW
     refine⟨_,?_,w9 _ _ _ _ _⟩;simp[Wq,xy hu,getObj,Sem.run,h2,goInt,il _ _ h3]
   ·simp at hd
end
section
variable {P:Program}{Γ:au}{O:Nat->Prop}{w:World}{l:Loc}{h:aT}
theorem oS:∀(vs:oR) (k off:Nat) (cs:By),off+k+vs.length<=cs.size -> ((vs.zipIdx k).foldl (λcs (p:Value×Nat)=>cs.setIfInBounds (off+p.2) p.1) cs).toList=bG cs.toList (off+k) vs
 | [],k,off,cs,_=>by simp[bG]
 | v::vs,k,off,cs,hl=>by
  simp at hl;simp;rw[oS vs (k+1) off (cs.setIfInBounds (off+k) v) (by simp;omega)];simp only[bG,Array.toList_setIfInBounds,List.length_cons];have oA:off+k<cs.toList.length:=by simp;omega
  rw[List.drop_set,if_pos (by omega)];have h8:(cs.toList.set (off+k) v).take (off+(k+1))=cs.toList.take (off+k)++[v]:=by rw[show off+(k+1)=(off+k)+1 by omega,List.take_succ_eq_append_getElem (by simpa using oA),List.take_set,List.set_eq_of_length_le (by simp;omega)];simp
  grind
theorem vR(vs:By)(off:Nat)(cs:By)(hl:off+vs.size<=cs.size):(vs.zipIdx.foldl (λcs (p:Value×Nat)=>cs.setIfInBounds (off+p.2) p.1) cs).toList=bG cs.toList off vs.toList:=by have:=oS vs.toList 0 off cs (by simpa using hl);grind [Array.toList_zipIdx]
theorem i5{place:Nat->Option (Nat×Nat)}:∀{ps:List (Nat×D)} {qs:List (Nat×Value)} {cs cs':bY} {vs:By},ps.length=qs.length -> (∀(j:Nat) (p:Nat×D) (q:Nat×Value),ps[j]?=G p->qs[j]?=G q->p.1=q.1/\Rel w (tf O l h) l h p.2 q.2)->kc w (tf O l h) l h cs vs.toList->vH place cs ps=G cs' -> ∃vs',Instr.fill place vs qs=G vs'/\kc w (tf O l h) l h cs' vs'.toList/\vs'.size=vs.size
 | [],[],cs,cs',vs,_,_,r,hd=>by simp[vH] at hd;subst hd;exact⟨vs,rfl,r,rfl⟩
 |p::ps,q::qs,cs,cs',vs,hl,hp,r,hd=>by
  obtain⟨i,d⟩:=p;obtain⟨i',y⟩:=q;obtain⟨rfl,rd⟩:=hp 0 (i,d) (i',y) qk qk;simp[vH] at hd;cases hpl:place i with
  |none=>grind
  |some os=>
   obtain⟨off,size⟩:=os;cases hc:d.cells with
   |none=>grind
   |some new=>
    simp only[hpl,hc] at hd;split at hd;case isFalse=>simp at hd
    rename_i zlT;obtain⟨g1,g2⟩:=zlT;obtain⟨c1,c2⟩:=e7 rd hc;have hys:y.cells.size=size:=by rw[<-g1,c1.length];simp
    have hcl:=r.length;have hvs:vs.toList.length=vs.size:=qk
    have hsp:=vR y.cells off vs lj;have rsp:kc w (tf O l h) l h (bZ cs off new) (y.cells.zipIdx.foldl (λcs (p:Value×Nat)=>cs.setIfInBounds (off+p.2) p.1) vs).toList:=by rw[hsp];exact r.znN off c1
    obtain⟨vs',f1,f2,f3⟩:=i5 (ps:=ps) (qs:=qs) (by simpa using hl) (λj p q h1 h2=>hp (j+1) p q (by simpa using h1) (by simpa using h2)) rsp hd;refine⟨vs',?_,f2,?_⟩;·simp only[Instr.fill,hpl];grind
    ·rw[f3];grind [bG,Uk,VX,VB,VJ]
 | [],_::_,_,_,_,hl,_,_,_=>by simp at hl
 |_::_,[],_,_,_,hl,_,_,_=>by simp at hl
theorem Ce{fields:List Field}{pl:List (Nat×Nat)}(hp:fields.mapM (λf=>(γ P f.type).map λn=>(f.offset,n))=G pl)(w:World):(fields.mapM (λf=>(do pure (f.offset,<-sizeOf f.type):Sem (Nat×Nat)))).run P w=.ok pl w:=by
 induction fields generalizing pl with
 |nil=>simp_all
 |cons f fs ih=>simp only[YT,Option.bind_eq_bind,Option.bind_eq_some_iff,Tn,Option.pure_def,Tf] at hp;obtain⟨p,⟨n,h1,rfl⟩,pl',h2,rfl⟩:=hp;have:=ih h2;simp only[YT,TK,L4 h1,Tt,Uf] at this ⊢;rw[this];simp
theorem vS{t:TypeId}{ps:List (Nat×D)}{qs:List (Nat×Value)}{d:D}(hl:ps.length=qs.length)(hp:∀(j:Nat) (p:Nat×D) (q:Nat×Value),ps[j]? = some p->qs[j]? = some q->p.1=q.1/\Rel w (tf O l h) l h p.2 q.2) (hd:DF P t ps=some d) :∃v,(YU t qs.toArray).run P w=.ok v w/\Rel w (tf O l h) l h d v:=by
 unfold DF at hd;cases hu:P.underlying t with
 | none=>simp[hu] at hd
 | some u =>
  cases hz:eA P t with
  | none=>grind
  | some z =>
   obtain⟨zv,hzv,rfl⟩:=eN hz;cases u<;>simp only[hu,hz,reduceCtorEq] at hd;case struct fields =>
    cases hpl:Ak P fields with
    | none=>grind
    | some pl =>
     simp[hpl] at hd;obtain⟨cs,h1,rfl⟩:=hd;obtain⟨vs',f1,f2,_⟩:=i5 hl hp (kc.lits zv.cells.toList) h1;refine⟨.agg vs',?_,by grind [Rel]⟩;have hm:(fields.mapM (λf=>(do pure (f.offset,<-sizeOf f.type):Sem (Nat×Nat)))).run P w=.ok pl.toArray w:=by rw[<-Array.toArray_toList (xs:=fields)];rw[List.mapM_toArray];simp only[Sem.run_map,Ce hpl w,Tt]
     simp only[YU,TK,Μ hzv,Tt,xy hu,hm];simp_all
   case array n e =>
    cases hs:γ P e with
    | none=>simp[hs] at hd
    | some sz =>simp[hs] at hd;obtain⟨cs,h1,rfl⟩:=hd;obtain⟨vs',f1,f2,_⟩:=i5 hl hp (kc.lits zv.cells.toList) h1;refine⟨.agg vs',?_,by grind [Rel]⟩;simp[YU,Μ hzv,xy hu,L4 hs,f1]
theorem kq{z:By}{sz:Nat}(hz:z.size=sz):∀n,(List.range (n*sz)).map (λi=>z[i % z.size]!)=(Ti n z.toList).flatten
 |0=>qk
 |n+1=>by
  rw[Nat.succ_mul,List.range_add,List.map_append,kq hz n,List.replicate_succ',VH];congr 1;rw[List.map_map];apply List.ext_getElem;·simp[hz]
  ·intro i h1 h2;simp at h1;have:(n*sz+i) % sz=i:=by rw[Nat.add_comm,Nat.add_mul_mod_self_right,Nat.mod_eq_of_lt h1]
   grind
theorem oa{z:oR}:∀n,kc w (tf O l h) l h (Ti n (z.map lit)).flatten (Ti n z).flatten
 |0=>by simp[kc]
 |n+1=>by simp[List.replicate_succ];exact(kc.lits z).append (oa n)
theorem ku{t e:TypeId}(hte:fS P t=G e):P.underlying t=G (.slice e):=by unfold fS at hte;grind
theorem lV(R:JW Γ O w l h){t:TypeId}{len:Nat}{ps:List (Nat×D)}{qs:List (Nat×Value)}{d:D}{h':aT}(hl:ps.length=qs.length)(hp:∀(j:Nat) (p:Nat×D) (q:Nat×Value),ps[j]?=G p->qs[j]?=G q->p.1=q.1/\Rel w (tf O l h) l h p.2 q.2)(hd:e8 P h t len ps=G (d,h')) :∃v w' l',(XU t len qs.toArray).run P w=.ok v w'/\JW Γ O w' l' h'/\Ext w l h w' l' h'/\Rel w' (tf O l' h') l' h' d v:=by
 unfold e8 at hd;cases hte:fS P t with
 |none=>grind
 |some e=>
  have ht:=ku hte;cases hs:γ P e with
  |none=>grind
  |some sz=>
   cases hz:eA P e with
   |none=>grind
   |some z=>
    obtain⟨zv,hzv,rfl⟩:=eN hz;simp only[hte,hs,hz] at hd;split at hd;case isFalse=>simp at hd
    rename_i hc;obtain⟨g1,g2⟩:=hc;have hzs:zv.cells.size=sz:=by simpa using g1
    cases hf:vH (λi=>G (i*sz,sz)) (Ti len (zv.cells.toList.map lit)).flatten ps with
    |none=>simp[hf] at hd
    |some cs=>
     simp[hf] at hd;obtain⟨rfl,rfl⟩:=hd;have znW:kc w (tf O l h) l h (Ti len (zv.cells.toList.map lit)).flatten ((VE (len*sz)).map (λi=>zv.cells[i % zv.cells.size]!)).toList:=by rw[W9,XI,kq hzs];exact oa len
     obtain⟨vs',f1,f2,f3⟩:=i5 hl hp znW hf;have hvs:vs'.size=len*sz:=by rw[f3];simp
     have hcl:cs.length=len*sz:=by rw[f2.length];simp[hvs]
     obtain⟨c1,c2,c3⟩:=kj (n:=sz) len cs mW;rw[Vl mW] at c1;obtain⟨l',k7,k8,k9⟩:=i4 R w ⟨rfl,rfl,rfl,rfl,T0 _⟩ e vs' (chunk sz len cs) sz len vs'.toList [] qk hvs lj c2 mW;refine⟨.slice (G ⟨w.heap.size,0,Y⟩) len len,_,l',?_,k7,k8,mW⟩;have hbig:¬(len*sz>2 ^ 24):=lj
     by_cases h0:len*sz=0
     ·have e0:(VE (len*sz)).map (λi=>zv.cells[i % zv.cells.size]!)=(VE (len*sz)).map (λi=>(#[]:By)[i % 0]!):=by rw[h0];simp
      rw[e0] at f1;simp only[XU,TK,xy ht,Tt,L4 hs,Sem.run_ite,h0,if_true,Uf] at f1 ⊢;simp only[List.size_toArray,VF,f1,newRow,TK,run_newObj,Tt,Uf,World.alloc_eq];grind
     ·simp[XU,xy ht,L4 hs,hbig,h0,Μ hzv,f1,newRow]
theorem yH(R:JW Γ O w l h){t:TypeId}{x y d:D}{a b:Value}{h':aT}(rx:Rel w (tf O l h) l h x a)(ry:Rel w (tf O l h) l h y b)(hd:tL P h t x y=some (true,d,h')):∃v w' l',(V4 t a b).run P w=.ok v w'/\JW Γ O w' l' h'/\Ext w l h w' l' h'/\Rel w' (tf O l' h') l' h' d v:=by
 unfold tL at hd;cases hte:fS P t with
 | none=>grind
 | some e =>
  have ht:=ku hte;cases h1:ZK x with
  | none=>grind
  | some p1 =>
   cases h2:ZK y with
   | none=>grind
   | some p2 =>
    obtain⟨k1,n⟩:=p1;obtain⟨k2,c⟩:=p2;obtain rfl:=bI rx h1;obtain rfl:=bI ry h2;simp[hte,h1,h2] at hd;cases hs:γ P e with
    | none=>simp[hs] at hd
    | some sz =>
     cases hb:bytesOf P e with
     | none=>grind
     | some by' =>
      cases hz:eA P e with
      | none=>grind
      | some z =>
       obtain⟨zv,hzv,rfl⟩:=eN hz;simp only[hs,hb,hz] at hd;split at hd;case isFalse=>simp at hd
       rename_i g1;have hzs:zv.cells.size=sz:=by simpa using g1
       simp at hd;obtain⟨⟨⟨⟨q1,q2⟩,q3⟩,q4⟩,rfl,rfl⟩:=hd;obtain⟨i,hi,hib⟩:=jF hb;have hwn:S6.wrap n=n:=Xa _ (by omega);have hwc:S6.wrap c=c:=Xa _ (by omega)
       obtain⟨l',k7,k8,k9⟩:=i4 R w ⟨rfl,rfl,rfl,rfl,T0 _⟩ e ((VE (c.toNat*sz)).map (λi=>zv.cells[i % zv.cells.size]!)) (Ti n.toNat (zv.cells.toList.map lit)) sz c.toNat
        (Ti n.toNat zv.cells.toList).flatten (Ti (c.toNat-n.toNat) zv.cells.toList).flatten
        (by rw[W9,XI,kq hzs,<-VH,List.replicate_append_replicate];congr 2;omega) (by simp) (by simp;omega)
        (by grind) (oa _)
       refine⟨.slice (some ⟨w.heap.size,0,none⟩) n.toNat c.toNat,_,l',?_,k7,k8,by simpa using k9⟩;have hti:(typeInfo e).run P w=.ok i w:=by simp[typeInfo,hi]
       have t1:¬(c<0\/281474976710656<(i.bytes:Int)*c):=by rw[hib];rw[Int.mul_comm] at q3;omega
       have e0:c.toNat*sz=0->(VE (c.toNat*sz)).map (λi=>zv.cells[i % zv.cells.size]!)=(VE (c.toNat*sz)).map (λi=>(#[]:By)[i % 0]!):=λh0=>by rw[h0];simp
       by_cases h0:c.toNat*sz=0;·rw[e0 h0];simp[V4,xy ht,asInt,asIntOf,hti,hwn,hwc,q1,Wj.2 q1,Wj.2 q2,L4 hs,h0,newRow];grind
       ·simp[V4,xy ht,asInt,asIntOf,hti,hwn,hwc,q1,Wj.2 q1,Wj.2 q2,L4 hs,h0,newRow,Μ hzv];grind
theorem rC(R:JW Γ O w l h){t:TypeId}{x y d:D}{a b:Value}{h':aT}(rx:Rel w (tf O l h) l h x a)(ry:Rel w (tf O l h) l h y b)(hd:n9 P h t x y=some (true,d,h')):∃v w' l',(V4 t a b).run P w=.ok v w'/\JW Γ O w' l' h'/\Ext w l h w' l' h'/\Rel w' (tf O l' h') l' h' d v:=by
 unfold n9 at hd;cases hte:fS P t with
 | none=>grind
 | some e =>
  have ht:=ku hte;cases h1:ZK x with
  | none=>grind
  | some p1 =>
   cases h2:ZK y with
   | none=>grind
   | some p2 =>
    obtain⟨k1,n⟩:=p1;obtain⟨k2,c⟩:=p2;obtain rfl:=bI rx h1;obtain rfl:=bI ry h2;simp[hte,h1,h2] at hd;cases hs:γ P e with
    | none=>simp[hs] at hd
    | some sz =>
     cases hb:bytesOf P e with
     | none=>grind
     | some by' =>
      cases hz:eA P e with
      | none=>grind
      | some z =>
       obtain⟨zv,hzv,rfl⟩:=eN hz;simp only[hs,hb,hz] at hd;split at hd;case isFalse=>simp at hd
       rename_i g1;have hzs:zv.cells.size=sz:=by simpa using g1
       simp at hd;obtain⟨⟨⟨⟨q0,q2⟩,q3⟩,q4⟩,rfl,rfl⟩:=hd;have q1:0<=n:=by omega
       obtain⟨i,hi,hib⟩:=jF hb;have hwn:S6.wrap n=n:=Xa _ (by omega);have hwc:S6.wrap c=c:=Xa _ (by omega)
       obtain⟨l',k7,k8,k9⟩:=i4 R w ⟨rfl,rfl,rfl,rfl,T0 _⟩ e ((VE (c.toNat*sz)).map (λi=>zv.cells[i % zv.cells.size]!)) (Ti c.toNat (zv.cells.toList.map lit)) sz c.toNat
        (Ti c.toNat zv.cells.toList).flatten []
        (by rw[W9,XI,kq hzs];simp) (by simp) (by simp)
        (by grind) (oa _)
       have k10:Rel (w.alloc (.cells ((VE (c.toNat*sz)).map (λi=>zv.cells[i % zv.cells.size]!)) e)) (tf O l' (h++[.eY (Ti c.toNat (zv.cells.toList.map lit)) 0 sz])) l' (h++[.eY (Ti c.toNat (zv.cells.toList.map lit)) 0 sz]) (.ref (.vs h.length 0 0 n.toNat (some c.toNat))) (.slice (some ⟨w.heap.size,0,none⟩) n.toNat c.toNat):=by
        obtain⟨g1,g2⟩:=k9;have hat:(h++[ql.eY (Ti c.toNat (zv.cells.toList.map lit)) 0 sz])[h.length]? = some (ql.eY (Ti c.toNat (zv.cells.toList.map lit)) 0 sz):=by simp
        refine⟨rfl,?_⟩;simp only[hat] at g2 ⊢;have hv:=g2.2 trivial;refine⟨T0 _,λ_=>⟨by simp;omega,?_⟩⟩;cases hlo:l' h.length with
        | none =>simp only[hlo,j6,List.length_replicate] at hv;omega
        | some pr =>obtain⟨fI,cp⟩:=pr;simp only[hlo,j6] at hv;obtain⟨o,cap,rfl,hv,hle⟩:=hv;cases hv;refine⟨_,_,_,c.toNat,rfl,.inl (by simp),by omega,by omega,λk hk=>by cases hk;rfl⟩
       refine⟨.slice (some ⟨w.heap.size,0,none⟩) n.toNat c.toNat,_,l',?_,k7,k8,k10⟩;have hti:(typeInfo e).run P w=.ok i w:=by simp[typeInfo,hi]
       have t1:¬(c<0\/281474976710656<(i.bytes:Int)*c):=by rw[hib];rw[Int.mul_comm] at q3;omega
       have e0:c.toNat*sz=0->(VE (c.toNat*sz)).map (λi=>zv.cells[i % zv.cells.size]!)=(VE (c.toNat*sz)).map (λi=>(#[]:By)[i % 0]!):=λh0=>by rw[h0];simp
       by_cases h0:c.toNat*sz=0;·rw[e0 h0];simp[V4,xy ht,asInt,asIntOf,hti,hwn,hwc,q1,(show ¬n<0 by omega),Wj.2 q2,L4 hs,h0,newRow];grind
       ·simp[V4,xy ht,asInt,asIntOf,hti,hwn,hwc,q1,(show ¬n<0 by omega),Wj.2 q2,L4 hs,h0,newRow,Μ hzv];grind
end
section
variable {P:Program}{Γ:au}{O:Nat->Prop}{w:World}{l:Loc}{h:aT}
def oc(M:DO)(c:Nat):Nat:=match M with|none=>c|some m=>m.toNat
@[simp] theorem oT (c : Nat) : oc Y c = c := rfl
@[simp] theorem ek (m : Int) (c : Nat) : oc (G m) c = m.toNat := rfl
def j7(w:World)(av:Nat->Prop)(l:Loc)(h:aT):At->OR->Prop
 |none,none=>True
 |some d,some v=>Rel w av l h d v
 |_,_=>False
theorem zhU{lo:At}{v:OR}{L:Int}{dflt:Int}(r:j7 w (tf O l h) l h lo v)(hb:cZ lo dflt=G L):(v=Y/\lo=Y/\L=dflt)\/∃k,v=G (.int k L):=by
 cases lo with
 |none=>grind [cZ,Tf,j7]
 |some d=>
  cases v with
  |none=>simp[j7] at r
  |some x=>simp only[cZ,Tn] at hb;obtain⟨⟨k,m⟩,h1,h2⟩:=hb;simp only at h2;subst h2;exact .inr ⟨k,by rw[bI r h1]⟩
theorem e9{b:Bool}{n c:Nat}{lo hi mx:At}{vl vh vm:OR}{L U:Int}{M:DO}(rl:j7 w (tf O l h) l h lo vl)(rh:j7 w (tf O l h) l h hi vh)(rm:j7 w (tf O l h) l h mx vm)(hl:cZ lo 0=G L)(hu:cZ hi n=G U)(hm:Dz mx=G M)(ok:lO L U n=J)(ok2:gm U n M=J)(ok3:(M.isNone||hi.isSome)=J)(hnc:n<=c) :(UX b n c vl vh vm).run P w=.ok (L.toNat,U.toNat,(oc M c)) w:=by
 simp[lO] at ok;obtain⟨⟨o1,o2⟩,o3⟩:=ok;have hlow:∀code (y:Nat),U<=y->(match vl with|some v=>Wf v U.toNat code|none=>pure 0:Sem Nat).run P w=.ok L.toNat w:=by
  intro code y _;rcases zhU rl hl with ⟨rfl,_,rfl⟩|⟨k,rfl⟩
  ·simp
  ·exact run_sliceBound w k L U.toNat code o1 lj
 cases mx with
 |none=>
  cases vm with
  |some x=>simp[j7] at rm
  |none=>
   simp[Dz] at hm;subst hm;rcases zhU rh hu with ⟨rfl,_,rfl⟩|⟨k,rfl⟩
   ·rcases zhU rl hl with ⟨rfl,_,rfl⟩|⟨k2,rfl⟩;·simp[UX]
    ·simp[UX,run_sliceBound w k2 L n _ o1 lj]
   ·have hU:∀code,(Wf (.int k U) c code).run P w=.ok U.toNat w:=λcode=>run_sliceBound w k U c code lj lj;rcases zhU rl hl with ⟨rfl,_,rfl⟩|⟨k2,rfl⟩
    ·simp[UX,hU]
    ·simp[UX,hU,run_sliceBound w k2 L U.toNat _ o1 lj]
 |some m=>
  cases vm with
  |none=>simp[j7] at rm
  |some x=>
   simp only[Dz,Tn] at hm;obtain⟨⟨km,mv⟩,h1,rfl⟩:=hm;have hx:=bI rm h1;subst hx;simp[gm] at ok2;have hM:∀code,(Wf (.int km mv) c code).run P w=.ok mv.toNat w:=λcode=>run_sliceBound w km mv c code lj lj;rcases zhU rh hu with ⟨rfl,hi0,_⟩|⟨k,rfl⟩
   ·grind
   ·have hU:∀code,(Wf (.int k U) mv.toNat code).run P w=.ok U.toNat w:=λcode=>run_sliceBound w k U _ code lj lj;rcases zhU rl hl with ⟨rfl,_,rfl⟩|⟨k2,rfl⟩
    ·simp[UX,hM,hU]
    ·simp[UX,hM,hU,run_sliceBound w k2 L U.toNat _ o1 lj]
theorem EX.drop{av:Nat->Prop}{fI sz:Nat}:∀{es:bv} {off:Nat} (n:Nat),EX w av fI sz off es->EX w av fI sz (off+n*sz) (es.drop n)
 | [],_,n,_=>by simp[EX]
 |e::es,off,0,r=>by simpa using r
 |e::es,off,n+1,r=>by simp[EX] at r;rw[List.drop_succ_cons,show off+(n+1)*sz=off+sz+n*sz from mW];exact EX.drop n r.2.2
theorem EX.take{av:Nat->Prop}{fI sz:Nat}:∀{es:bv} {off:Nat} (n:Nat),EX w av fI sz off es->EX w av fI sz off (es.take n)
 | [],_,n,_=>by simp[EX]
 |e::es,off,0,r=>by simp[EX]
 |e::es,off,n+1,r=>by simp[EX] at r ⊢;exact⟨r.1,r.2.1,EX.take n r.2.2⟩
theorem DL{t e:TypeId}{sz n c:Nat}{base:Option Addr}{lo hi mx:At}{vl vh vm:OR}{L U:Int}{M:DO}(ht:P.underlying t=G (.slice e))(hs:γ P e=G sz)(rl:j7 w (tf O l h) l h lo vl)(rh:j7 w (tf O l h) l h hi vh)(rm:j7 w (tf O l h) l h mx vm)(hl:cZ lo 0=G L)(hu:cZ hi n=G U)(hm:Dz mx=G M)(ok:lO L U n=J)(ok2:gm U n M=J)(ok3:(M.isNone||hi.isSome)=J)(hnc:n<=c) :(Ve t (.slice base n c) vl vh vm).run P w=.ok (.slice (if (oc M c)=L.toNat then base else base.map (·.add (L.toNat*sz))) (U.toNat-L.toNat) ((oc M c)-L.toNat)) w:=by simp[Ve,xy ht,X3,e9 (P:=P) (b:=J) rl rh rm hl hu hm ok ok2 ok3 hnc,L4 hs]
theorem As{es:bv}{fI off sz sz0:Nat}{L U:Nat}(rr:EX w (tf O l h) fI sz0 off es)(Ν:es.all (λr=>fE (r.length=sz))=true)(h1:L<=U)(h2:U<=es.length)(m:Nat)(hm:U<=m):Rel w (tf O l h) l h (.p (.sl ((es.drop L).take (U-L)))) (.slice (if m=L then some ⟨fI,off,none⟩ else (some (⟨fI,off,none⟩:Addr)).map (·.add (L*sz))) (U-L) (m-L)) /\ (m=U->Rel w (tf O l h) l h (.csl ((es.drop L).take (U-L))) (.slice (if m=L then some ⟨fI,off,none⟩ else (some (⟨fI,off,none⟩:Addr)).map (·.add (L*sz))) (U-L) (m-L))):=by
 have hlen:((es.drop L).take (U-L)).length=U-L:=by simp;omega
 have zln:es≠[]->sz0=sz:=by
  intro hne;cases es with
  | nil=>grind
  | cons e0 es0 =>simp[EX] at rr;grind
 by_cases hmL:m=L
 ·have:U=L:=by omega
  subst this;simp only[hmL,if_true,Nat.sub_self,List.take_zero];grind [Rel,FL,EX]
 ·simp[hmL];have hr2:EX w (tf O l h) fI sz (off+L*sz) ((es.drop L).take (U-L)):=by
   by_cases hne:es=[];·grind [EX]
   ·have:=zln hne;subst this;exact(rr.drop L).take _
  refine⟨?_,λhmu=>?_⟩;·simp only[Rel,FL];exact .inr ⟨fI,off+L*sz,m-L,sz,by rw[hlen],by grind,hr2⟩
  ·subst hmu;simp only[Rel];grind
theorem Cf{U:Int}{M:DO}(hc:ci U M=J):M=G U:=by
 cases M with
 |none=>simp[ci] at hc
 |some m=>simp[ci] at hc;rw[hc]
theorem oU{L U:Int}{n:Nat}(ok:lO L U n=J):0<=L/\L<=U/\U<=n/\L.toNat<=U.toNat/\U.toNat<=n:=by simp[lO] at ok;omega
theorem od{av:Nat->Prop}{x:Option Addr}{m:Nat}(cl:Bool)(hcl:cl=J->m=0)(hx:x=Y->m=0):Rel w av l h (cU cl []) (.slice x 0 m):=by
 cases cl;·simp only[cU,Uj,if_false,Rel,FL];grind
 ·have:=hcl rfl;subst this;simp only[cU,if_true,Rel];grind
theorem fB{av:Nat->Prop}{x:Option Addr}{m:Nat}(cl:Bool)(hcl:cl=J->m=0)(hx:x=Y->m=0)(_hsp:∀a,x=G a->a.spot=Y):Rel w av l h (cU cl []) (.slice x 0 m):=od cl hcl hx
theorem MR{c:Nat}{M:DO}{U:Int}(ok2:gm U 0 M=J){a:Option Addr}{f:Addr->Addr}(ha:a=Y->c=0)(hx:(if oc M c=0 then a else a.map f)=Y):oc M c=0:=by
 split at hx;·assumption
 ·have hn:a=Y:=by cases a<;>simp_all
  have:=ha hn;subst this;cases M with
  |none=>rfl
  |some m=>simp only[gm,Tm,decide_eq_true_eq] at ok2;grind [ek]
theorem capOf{c U L n:Nat}{M:DO}{Ui:Int}(hU:Ui.toNat=U)(ok2:gm Ui n M=J)(h1:L<=U)(h2:U<=n)(hnc:n<=c):L<=(oc M c)/\U<=(oc M c)/\(ci Ui M=J->(oc M c)=U):=by
 cases M with
 |none=>simp[ci];omega
 |some m=>simp[gm] at ok2;refine⟨by grind [ek],by grind [ek],λhc=>?_⟩;have:=Cf hc;simp_all
theorem vT{c c2:Nat}{cl:BV}{L U:Int}{M:DO}(hcl:∀k,cl=G k->c=k)(hM:ci U M=J->oc M c=U.toNat):∀k,kh cl L U M=G k->oc M c-L.toNat=k:=by
 intro k hk;unfold kh at hk;split at hk;·grind
 ·split at hk
  ·cases hcl':cl with
   |none=>grind
   |some k0=>simp_all
  ·simp at hk
theorem rD(R:JW Γ O w l h){t e:TypeId}{x d:D}{y:Value}{sz n:Nat}{L U:Int}{lo hi mx:At}{vl vh vm:OR}{M:DO}(rx:Rel w (tf O l h) l h x y)(ht:P.underlying t=G (.slice e))(hs:γ P e=G sz)(hn:lR h x=G n)(rl:j7 w (tf O l h) l h lo vl)(rh:j7 w (tf O l h) l h hi vh)(rm:j7 w (tf O l h) l h mx vm)(hl:cZ lo 0=G L)(hu:cZ hi n=G U)(hm:Dz mx=G M)(ok:lO L U n=J)(ok2:gm U n M=J)(ok3:(M.isNone||hi.isSome)=J)(hd:ξ h x sz n L U M=G (J,d)):∃v,(Ve t y vl vh vm).run P w=.ok v w/\Rel w (tf O l h) l h d v:=by
 obtain⟨o1,o2,o3,o4,o5⟩:=oU ok;have run:∀(base:Option Addr) (c:Nat),n<=c->(Ve t (.slice base n c) vl vh vm).run P w=.ok (.slice (if (oc M c)=L.toNat then base else base.map (·.add (L.toNat*sz))) (U.toNat-L.toNat) ((oc M c)-L.toNat)) w :=λbase c hnc=>DL ht hs rl rh rm hl hu hm ok ok2 ok3 hnc;have cap:∀c,n<=c->_:=λc hnc=>capOf (c:=c) (L:=L.toNat) (n:=n) (M:=M) (Ui:=U) rfl ok2 o4 o5 hnc;cases x with
 |p dp=>
  cases dp with
  |v x=>
   obtain rfl:=aF rx;cases y<;>simp[ξ] at hd;case slice a m c=>
    cases a<;>cases m<;>cases c<;>simp at hd;subst hd;simp[lR] at hn;subst hn;obtain⟨c1,c2,c3⟩:=cap 0 (T0 _);refine⟨_,run Y 0 (T0 _),?_⟩;have hU:U.toNat=0:=lj
    have hL:L.toNat=0:=lj
    have hm0:(oc M 0)=0:=by
     cases M with
     |none=>rfl
     |some m=>simp only[gm,Tm,decide_eq_true_eq] at ok2;grind [ek]
    rw[hm0,hU,hL];exact w9 _ _ _ _ _
  |sl es=>
   simp only[ξ,Tf,Tk] at hd;obtain⟨Ν,rfl⟩:=hd;simp[lR] at hn;subst hn;simp only[Rel,FL] at rx;rcases rx with ⟨rfl,a0,c0,rfl,ha0⟩|⟨fI,off,c,sz0,rfl,hc,rr⟩
   ·obtain⟨c1,c2,c3⟩:=cap c0 (Nat.zero_le _);refine⟨_,run a0 c0 (Nat.zero_le _),?_⟩;have hU:U.toNat=0:=by simp at o5;omega
    have hL:L.toNat=0:=lj
    simp only[hU,hL,Nat.sub_zero,List.drop_nil,List.take_nil] at c3 ⊢;exact od _ (λhcl=>c3 hcl) (MR (by simpa using ok2) ha0)
   ·obtain⟨c1,c2,c3⟩:=cap c hc;refine⟨_,run _ c hc,?_⟩;obtain⟨p1,p2⟩:=As (l:=l) (h:=h) (O:=O) rr Ν o4 o5 _ c2;grind [cU]
 |csl es=>
  simp only[ξ,Tf,Tk] at hd;obtain⟨Ν,rfl⟩:=hd;simp[lR] at hn;subst hn;simp only[Rel] at rx;rcases rx with ⟨rfl,a0,rfl⟩|⟨fI,off,sz0,rfl,rr⟩
  ·obtain⟨c1,c2,c3⟩:=cap 0 (T0 _);refine⟨_,run a0 0 (T0 _),?_⟩;have hU:U.toNat=0:=by simp at o5;omega
   have hL:L.toNat=0:=lj
   have hm0:(oc M 0)=0:=by
    cases M with
    |none=>rfl
    |some m=>simp only[gm,Tm,decide_eq_true_eq,VF] at ok2;grind [ek]
   rw[hm0,hU,hL];simp only[List.drop_nil,List.take_nil,if_true];exact od _ (λ_=>rfl) (λ_=>rfl)
  ·obtain⟨c1,c2,c3⟩:=cap es.length (T0 _);refine⟨_,run _ es.length (T0 _),?_⟩;obtain⟨p1,p2⟩:=As (l:=l) (h:=h) (O:=O) rr Ν o4 o5 _ c2;unfold cU;split;·rename_i hcl;simp at hcl;grind [oT]
   ·exact p1
 |ref r=>
  have rx':=rx;obtain⟨g1,hr⟩:=rx;cases r with
  |eY b e' =>
   simp only[ξ,lR] at hd hr hn;cases hb:h[b]? with
   |none=>simp[hb] at hd
   |some bx=>
    cases bx<;>simp only[hb,reduceCtorEq] at hd hr hn;rename_i es e2 Ι;split at hd;case isFalse=>simp at hd
    rename_i he;obtain⟨rfl,rfl⟩:=he;simp at hn;subst hn;simp only[Tf,Tk,true_and] at hd;subst hd;have hv:=hr.2 rfl;cases ο:l b with
    |none=>
     have Φ:=R.fI b _ hb;simp only[ο,j6,zm] at hv Φ;obtain⟨_,rfl⟩:=hv;subst Φ;obtain⟨c1,c2,c3⟩:=cap 0 (T0 _);refine⟨_,run Y 0 (T0 _),?_⟩;have hU:U.toNat=0:=by simp at o5;omega
     have hL:L.toNat=0:=lj
     have hm0:(oc M 0)=0:=by
      cases M with
      |none=>rfl
      |some m=>simp only[gm,Tm,decide_eq_true_eq,VF] at ok2;grind [ek]
     rw[hm0,hU,hL];split;·exact rx'
     ·rename_i h3;rw[if_pos ⟨lj,λhh=>h3 ⟨lj,hh.1,hh.2⟩⟩];exact fB _ (λ_=>rfl) (λ_=>rfl) (λa ha=>by simp at ha)
    |some pr=>
     obtain⟨fI,cp0⟩:=pr;simp[ο,j6] at hv;obtain⟨oo,c,rfl,rfl,hc⟩:=hv;obtain⟨c1,c2,c3⟩:=cap c hc;have hcc:oc M c<=c:=by
      cases M with
      |none=>simp[oT]
      |some m=>simp[gm] at ok2;grind [ek]
     refine⟨_,run _ c hc,?_⟩;split;·simp_all
     ·split
      ·rename_i h4;have e1:U.toNat-L.toNat=0:=lj
       rw[e1];refine fB _ (λhcl=>mW) (λhx=>?_) (λa ha=>?_);·grind
       ·split at ha<;>simp at ha<;>subst ha<;>rfl
      ·rename_i h4;simp only[Rel,qI,hb];refine⟨by split<;>rfl,T0 _,λ_=>⟨lj,fI,oo,c,oc M c-L.toNat,ο,?_,lj,lj,vT (c2:=c) qk c3⟩⟩;by_cases hmL:oc M c=L.toNat;·grind
       simp_all
  |vs b e' i m cl=>
   simp only[ξ,lR] at hd hr hn;cases hb:h[b]? with
   |none=>simp[hb] at hd
   |some bx=>
    cases bx<;>simp only[hb,reduceCtorEq] at hd hr hn;rename_i es e2 Ι;split at hd;case isFalse=>simp at hd
    rename_i he;obtain⟨rfl,rfl⟩:=he;simp at hn;subst hn;simp only[Tf,Tk,true_and] at hd;subst hd;obtain⟨Pt,fI,oo,cp,c,ο,hy,hc,hic,ztt⟩:=hr.2 rfl;clear hr;obtain⟨c1,c2,c3⟩:=cap c hc;have hcc:oc M c<=c:=by
     cases M with
     |none=>simp[oT]
     |some m=>simp[gm] at ok2;grind [ek]
    have hya:∃a0,y=.slice a0 m c:=by
     rcases hy with hy|⟨a1,hy,_⟩;·grind
     ·grind
    obtain⟨a0,rfl⟩:=hya;refine⟨_,run _ c hc,?_⟩;split
    ·rename_i h4;have e1:U.toNat-L.toNat=0:=lj
     rw[e1];refine od _ (λhcl=>mW) (λhx=>?_);grind
    ·rename_i h4;simp only[Rel,qI,hb];refine⟨by split<;>first|exact g1|rfl,T0 _,λ_=>⟨lj,fI,oo,cp,oc M c-L.toNat,ο,?_,lj,lj,vT (c2:=c) ztt c3⟩⟩
     ·by_cases hmL:oc M c=L.toNat;·grind
      ·rcases hy with hy|⟨a1,hy,h0⟩;·cases hy;simp only[hmL,if_false,Option.map_some,ke];grind
       ·omega
  |av b off m Ι =>
   simp only[ξ,lR] at hd hr hn;cases hb:h[b]? with
   |none=>simp[hb] at hd
   |some bx=>
    cases bx<;>simp only[hb,reduceCtorEq,Tf] at hd hr hn;subst hn;split at hd;case isFalse=>simp at hd
    rename_i he;subst he;simp at hd;subst hd;obtain⟨fI,cp,c,ο,rfl,hc⟩:=hr;obtain⟨c1,c2,c3⟩:=cap c hc;refine⟨_,run _ c hc,?_⟩;split
    ·rename_i h4;have e1:U.toNat-L.toNat=0:=lj
     rw[e1];refine fB _ (λhcl=>mW) (λhx=>?_) (λa ha=>?_);·grind
     ·split at ha<;>simp at ha<;>subst ha<;>rfl
    ·rename_i h4;have hmL:¬(oc M c)=L.toNat:=lj
     simp[hmL];simp only[Rel,qI,hb];exact⟨rfl,fI,cp,_,ο,rfl,lj⟩
  |_=>simp[ξ] at hd
 |_=>simp[ξ] at hd
theorem jw{len:Nat}{e:TypeId}{x d:D}{y:Value}{L:Int}{lo hi mx:At}{vl vh vm:OR}{M:DO}(rx:Rel w (tf O l h) l h x y)(rl:j7 w (tf O l h) l h lo vl)(rh:j7 w (tf O l h) l h hi vh)(rm:j7 w (tf O l h) l h mx vm)(hl:cZ lo 0=G L)(hm:Dz mx=G M)(hd:iZ P h len e x L hi M=G (J,d)):∃a:Addr,y=.pointer (G a)/\∃sz lN hN,γ P e=G sz/\(UX N len len vl vh vm).run P w=.ok (lN,hN,len) w /\ Rel w (tf O l h) l h d (.slice (G (if len=lN then a else a.add (lN*sz))) (hN-lN) (len-lN)):=by
 unfold iZ at hd;split at hd;case h_2=>simp at hd
 rename_i b off;obtain⟨g1,hr⟩:=rx;cases hs:γ P e with
 |none=>simp[hs] at hd
 |some sz=>
  cases hu:cZ hi len with
  |none=>grind
  |some U=>
   cases hb:h[b]? with
   |none=>grind
   |some bx=>
    cases bx<;>simp only[hs,hu,hb,reduceCtorEq] at hd hr;cases M with
    |some m=>simp at hd
    |none=>
     simp at hd;obtain⟨ok,rfl⟩:=hd;obtain⟨fI,cp,ο,rfl⟩:=hr;obtain⟨o1,o2,o3,o4,o5⟩:=oU ok;refine⟨_,rfl,sz,L.toNat,U.toNat,rfl,e9 (P:=P) (b:=N) (M:=Y) rl rh rm hl hu hm ok (by simp[gm]) qk (T0 _),?_⟩;split
     ·rename_i h4;have e1:U.toNat-L.toNat=0:=lj
      rw[e1];exact fB (l:=l) (h:=h) N (λhcl=>by simp at hcl) (λhx=>by simp at hx) (λa ha=>by split at ha<;>simp at ha<;>subst ha<;>rfl)
     ·rename_i h4;have hmL:¬len=L.toNat:=lj
      simp[hmL];simp only[Rel,qI,hb];exact⟨rfl,fI,cp,_,ο,rfl,lj⟩
theorem yI{t e:TypeId}{x d:D}{y:Value}{sz:Nat}{lo hi mx:At}{vl vh vm:OR}(rx:Rel w (tf O l h) l h x y)(ht:P.underlying t=G (.slice e))(hs:γ P e=G sz)(rl:j7 w (tf O l h) l h lo vl)(rh:j7 w (tf O l h) l h hi vh)(rm:j7 w (tf O l h) l h mx vm)(hd:DI h x sz lo hi mx=G (J,d)):∃v,(Ve t y vl vh vm).run P w=.ok v w/\Rel w (tf O l h) l h d v:=by
 unfold DI at hd;split at hd;case h_2=>simp at hd
 rename_i b e' i n k hdd;split at hd;case h_2=>simp at hd
 rename_i kk u hi';split at hd;case h_2=>simp at hd
 rename_i hc;simp at hc;obtain⟨Jw,hc2⟩:=hc;split at hd;case h_2=>simp at hd
 rename_i es e2 Ι hb;split at hd;case h_2=>simp at hd
 rename_i hc;simp at hc;obtain⟨rfl,rfl⟩:=hc;simp at hd;obtain⟨hlen,rfl⟩:=hd;obtain⟨g1,hr⟩:=rx;simp only[hb] at hr;obtain⟨Pt,fI,oo,cp,c,ο,hy,hnc,hic,ztt⟩:=hr.2 trivial;have:=ztt k rfl;subst this;rcases hy with rfl|⟨a1,hy,h0⟩
 case inr=>omega
 cases vl with
 |some x=>simp[j7] at rl
 |none=>
 cases vm with
 |some x=>simp[j7] at rm
 |none=>
 cases vh with
 |none=>simp[j7] at rh
 |some xv=>
 have hx:=bI rh hi';subst hx;have hU:∀code,(Wf (.int kk u) c code).run P w=.ok u.toNat w:=λcode=>run_sliceBound w kk u c code lj lj;refine⟨.slice (G ⟨fI,oo+i*Ι,Y⟩) u.toNat c,?_,?_⟩
 ·have sR:¬c=0:=lj
  simp[Ve,xy ht,X3,UX,hU,L4 hs,sR,ke]
 ·simp only[Rel,qI,hb];exact⟨rfl,T0 _,λ_=>⟨hlen,fI,oo,cp,c,ο,.inl rfl,lj,hic,λk hk=>by cases hk;rfl⟩⟩
theorem vU(R:JW Γ O w l h){t:TypeId}{x d:D}{y:Value}{lo hi mx:At}{vl vh vm:OR}(rx:Rel w (tf O l h) l h x y)(rl:j7 w (tf O l h) l h lo vl)(rh:j7 w (tf O l h) l h hi vh)(rm:j7 w (tf O l h) l h mx vm)(hd:ej P h t x lo hi mx=G (J,d)) :∃v,(Ve t y vl vh vm).run P w=.ok v w/\Rel w (tf O l h) l h d v:=by
 unfold ej at hd;cases hL:cZ lo 0 with
 |none=>simp[hL] at hd
 |some L=>
  cases hM:Dz mx with
  |none=>grind
  |some M=>
   simp[hL,hM] at hd;cases hu:P.underlying t with
   |none=>simp[hu] at hd
   |some u=>
    cases u<;>simp only[hu,reduceCtorEq] at hd;case string=>
     unfold Aq at hd;split at hd
     ·rename_i s;obtain rfl:=aF rx;cases hU:cZ hi s.size with
      |none=>simp[hU] at hd
      |some U=>
       cases M with
       |some m=>simp[hU] at hd
       |none=>
        simp[hU] at hd;obtain⟨ok,rfl⟩:=hd;cases mx with
        |some m0=>grind [Dz,Tn]
        |none=>
         cases vm with
         |some x=>simp[j7] at rm
         |none=>refine⟨_,?_,w9 _ _ _ _ _⟩;have:=e9 (P:=P) (b:=N) (mx:=Y) rl rh rm hL hU rfl ok (by simp[gm]) qk (T0 _);simp[Ve,xy hu,X3,this]
     ·simp at hd
    case slice e=>
     cases hs:γ P e with
     |none=>simp[hs] at hd
     |some sz=>
      cases hn:lR h x with
      |none=>grind
      |some n=>
       simp[hs,hn] at hd;cases hW:DI h x sz lo hi mx with
       |some r=>simp[hW] at hd;subst hd;exact yI rx hu hs rl rh rm hW
       |none=>
       simp[hW] at hd;cases hU:cZ hi n with
       |none=>simp[hU] at hd
       |some U=>simp only[hU,Tn,Tk,Tm] at hd;obtain⟨⟨r1,r2⟩,h1,⟨⟨⟨ok,ok2⟩,ok3⟩,h3⟩,h4⟩:=hd;simp only at h3 h4;subst h3;subst h4;exact rD R rx hu hs hn rl rh rm hL hU hM ok ok2 ok3 h1
    case array len e=>obtain⟨a,rfl,sz,lN,hN,hs,hb,hr⟩:=jw (P:=P) rx rl rh rm hL hM hd;refine⟨_,?_,hr⟩;simp[Ve,xy hu,Instr.sureAddr,hb,L4 hs]
    case pointer arr=>
     cases hu2:P.underlying arr with
     |none=>grind
     |some u2=>cases u2<;>simp only[hu2,reduceCtorEq] at hd;case array len e=>obtain⟨a,rfl,sz,lN,hN,hs,hb,hr⟩:=jw (P:=P) rx rl rh rm hL hM hd;refine⟨_,?_,hr⟩;simp[Ve,xy hu,xy hu2,X3,asAddr,hb,L4 hs]
end
section
variable {P:Program}{Γ:au}{O:Nat->Prop}{w:World}{l:Loc}{h:aT}
theorem DM(a b:ByteArray):(a==b)=eqS a b:=by have:(a==b)=(a.data==b.data):=rfl;rw[this,XB];simp[eqS]
theorem zbS{kt:TypeId}{k:D}{v:Value}(hk:cV P kt k=J)(rk:Rel w (tf O l h) l h k v)(b:Bool)(w':World):(Instr.checkKey b 10000 kt v).run P w'=.ok () w':=by rw[show(10000:Nat)=9999+1 from rfl,Instr.checkKey];unfold cV at hk;split at hk<;>first|(rename_i h1;obtain rfl:=aF rk;simp[xy h1])|simp at hk
theorem lW{kt:TypeId}{k:D}{v:Value}{u:TypeDesc}(hu:P.underlying kt=G u)(hk:cV P kt k=J)(rk:Rel w (tf O l h) l h k v):∀{kvs:List (D×D×Nat)} {es:List MapEntry} (i:Nat) {r:Option (Nat×D)},xa w (tf O l h) l h kvs es->dz k kvs i=G r -> ∃r',Yp u v es i=G r'/\(match r,r' with
    |none,none=>True
    |some (j,d),some (j',y)=>j'=j/\Rel w (tf O l h) l h d y
    |_,_=>False)
 | [],[],i,r,_,hf=>by simp[dz] at hf;subst hf;exact⟨Y,rfl,trivial⟩
 |(k',d,n)::kvs,e::es,i,r,rel,hf=>by
  simp[xa] at rel;simp[dz] at hf;have hsame:∀b,ew k k'=G b->XC u v e.key=G b:=by
   intro b hb;unfold cV at hk;rw[hu] at hk;unfold ew at hb;split at hb;·rename_i k1 a k2 c;obtain rfl:=aF rk;have h2:=aF rel.1;cases u<;>simp at hk;rw[h2];grind [XC]
   ·rename_i a c;obtain rfl:=aF rk;have h2:=aF rel.1;cases u<;>simp at hk;rw[h2];grind [XC,DM]
   ·rename_i a c;obtain rfl:=aF rk;have h2:=aF rel.1;cases u<;>simp at hk;rw[h2];grind [XC]
   ·simp at hb
  cases hq:ew k k' with
  |none=>simp[hq] at hf
  |some b=>
   have hs:=hsame b hq;cases b with
   |true=>simp[hq] at hf;subst hf;exact⟨G (i,e.val),by simp[Yp,hs],rfl,rel.2.1⟩
   |false=>simp[hq] at hf;obtain⟨r',h1,h2⟩:=lW hu hk rk (i+1) rel.2.2.2 hf;exact⟨r',by simp[Yp,hs,h1],h2⟩
 | [],_::_,_,_,rel,_=>by simp[xa] at rel
 |_::_,[],_,_,rel,_=>by simp[xa] at rel
theorem oV{kt:TypeId}{k:D}(hk:cV P kt k=J):∃u,P.underlying kt=G u:=by unfold cV at hk;grind
theorem bK{r:Nat}{o:Obj}(ho:w.heap[r]?=G o)(hc:∀c T fr,o≠.cells c T fr):(getObj r).run P w=.ok o w:=by unfold getObj;cases o<;>simp[Sem.run,ho];grind
theorem tN(R:JW Γ O w l h){t:TypeId}{x k d:D}{y v:Value}{ok:Bool}(rx:Rel w (tf O l h) l h x y)(rk:Rel w (tf O l h) l h k v)(hd:aw P h t x k ok=some d):∃z,(W3 t y v ok).run P w=.ok z w/\Rel w (tf O l h) l h d z:=by
 unfold aw at hd;cases hu:P.underlying t with
 | none=>simp[hu] at hd
 | some u =>
  cases hm:lU h x with
  | none=>grind
  | some kvs =>
   cases u<;>simp only[hu,hm,reduceCtorEq] at hd;rename_i kt et;split at hd;case isFalse=>simp at hd
   rename_i hk;obtain⟨uk,huk⟩:=oV hk;have fin:∀(es:List MapEntry),xa w (tf O l h) l h kvs es->∃z r',(WW kt v es).run P w=.ok r' w/\(match r' with|some (_,v)=>pure (v,true)|none=>do pure (<-zeroValue et,false):Sem (Value×Bool)).run P w=.ok z w /\ Rel w (tf O l h) l h d (if ok then .tuple #[z.1,.bool z.2] else z.1):=by
    intro es zmf;cases hf:dz k kvs 0 with
    | none=>simp[hf] at hd
    | some r =>
     obtain⟨r',hn,hm2⟩:=lW huk hk rk 0 zmf hf;have hkey:(WW kt v es).run P w=.ok r' w:=by simp only[WW,TK,xy huk,Tt,hn,Uf]
     cases hz:jp P et with
     | none=>grind
     | some z =>
      rcases r with _|⟨i,d0⟩
      ·simp[hf,hz] at hd;rcases r' with _|⟨j,y0⟩
       ·refine⟨(z,false),_,hkey,by simp[Μ hz],?_⟩;subst hd;cases ok;·exact lS _ _ _ _ z
        ·simp only[if_true,Rel];exact⟨_,rfl,lS _ _ _ _ z,w9 _ _ _ _ _,trivial⟩
       ·simp at hm2
      ·simp[hf,hz] at hd;rcases r' with _|⟨j,y0⟩
       ·simp at hm2
       ·simp only at hm2;refine⟨(y0,true),_,hkey,by simp,?_⟩;subst hd;cases ok;·exact hm2.2
        ·simp only[if_true,Rel];exact⟨_,rfl,hm2.2,w9 _ _ _ _ _,trivial⟩
   unfold lU at hm;split at hm
   ·cases hm;obtain rfl:=aF rx;obtain⟨z,r',h1,h2,h3⟩:=fin [] (by simp[xa]);refine⟨_,?_,h3⟩;cases hzr:(zeroValue et).run P w with
    | halt a b=>rcases r' with _|⟨j,y0⟩<;>simp[hzr] at h2<;>subst h2<;>simp only[W3,TK,xy hu,Tt,Uf,zbS hk rk,h1]
    | ok a b=>rcases r' with _|⟨j,y0⟩<;>simp[hzr] at h2<;>(try obtain⟨rfl,rfl⟩:=h2)<;>(try subst h2)<;>simp only[W3,TK,xy hu,Tt,Uf,zbS hk rk,h1,hzr]
   ·rename_i b;cases hb:h[b]? with
    | none=>simp[hb] at hm
    | some bx =>
     obtain⟨_,hr⟩:=rx;cases bx<;>simp only[hb,reduceCtorEq,Tf] at hm hr;subst hm;obtain⟨fI,cp,ο,rfl⟩:=hr;obtain⟨zec,cp',es,h1,h2,h3⟩:=R.fI b _ hb;obtain⟨rfl,rfl⟩:fI=zec/\cp=cp':=by grind
     obtain⟨z,r',g1,g2,g3⟩:=fin es.toList h3;refine⟨_,?_,g3⟩;have hgo:=bK (P:=P) (o:=.map es _) h2 (by simp);cases hzr:(zeroValue et).run P w with
     | halt a b=>rcases r' with _|⟨j,y0⟩<;>simp[hzr] at g2<;>subst g2<;>simp only[W3,TK,xy hu,Tt,hgo,Uf,zbS hk rk,g1]
     | ok a b=>rcases r' with _|⟨j,y0⟩<;>simp[hzr] at g2<;>(try obtain⟨rfl,rfl⟩:=g2)<;>(try subst g2)<;>simp only[W3,TK,xy hu,Tt,hgo,Uf,zbS hk rk,g1,hzr]
   ·simp at hm
theorem cv{r:Nat}{o o':Obj}(ho:w.heap[r]?=G o)(hc:∀c T fr,o≠.cells c T fr):(setObj r o').run P w=.ok () {w with heap:=w.heap.setIfInBounds r o' }:=by unfold setObj;cases o<;>simp[Sem.run,ho];grind
theorem gp{r:Nat}{o o':Obj}(ho:w.heap[r]?=G o):({w with heap:=w.heap.setIfInBounds r o' }:World).heap[r]?=G o':=mW
theorem yJ{r k:Nat}{o':Obj}(hk:k≠r):({w with heap:=w.heap.setIfInBounds r o' }:World).heap[k]?=w.heap[k]?:=mW
theorem kv(R:JW Γ O w l h){b:Nat}{x x':ql}(hb:h[b]?=G x)(hx:x≠xx){fI cp:Nat}(ο:l b=G (fI,cp)){o o':Obj}(_ho:w.heap[fI]?=G o)(hle:x.le x')(Φ:Ext w l h {w with heap:=w.heap.setIfInBounds fI o' } l (h.set b x')->zm {w with heap:=w.heap.setIfInBounds fI o' } (tf O l (h.set b x')) l (h.set b x') b x') :JW Γ O {w with heap:=w.heap.setIfInBounds fI o' } l (h.set b x')/\Ext w l h {w with heap:=w.heap.setIfInBounds fI o' } l (h.set b x') :=R.step b x' qk ⟨rfl,rfl,rfl,mW⟩ (λi hi=>b9 _ _ hi) (bk hb) (λ_ _=>rfl) (λz hz=>mW)
  (λk hk hno=>yJ (λe=>hno x cp hb hx (by rw[ο,e])))
  (λk c hk=>.inl ⟨x,c,hb,hx,hk⟩) Φ
theorem DN{kvs:List (D×D×Nat)}{es:List MapEntry}:∀(i:Nat) {k d:D} {n:Nat} {e:MapEntry},xa w (tf O l h) l h kvs es->Rel w (tf O l h) l h k e.key->Rel w (tf O l h) l h d e.val->e.born=n -> xa w (tf O l h) l h (kvs.set i (k,d,n)) (es.set i e):=by
 induction kvs generalizing es with
 |nil=>grind [xa]
 |cons a t ih=>
  intro i k d n e r h1 h2 h3;obtain⟨k0,d0,n0⟩:=a;cases es with
  |nil=>simp[xa] at r
  |cons e0 es0=>
   simp[xa] at r;cases i with
   |zero=>grind [xa]
   |succ i=>grind [xa]
theorem Cg{kvs:List (D×D×Nat)}{es:List MapEntry}{k d:D}{n:Nat}{e:MapEntry}(r:xa w (tf O l h) l h kvs es)(h1:Rel w (tf O l h) l h k e.key)(h2:Rel w (tf O l h) l h d e.val)(h3:e.born=n):xa w (tf O l h) l h (kvs++[(k,d,n)]) (es++[e]):=by
 induction kvs generalizing es with
 |nil=>grind [xa]
 |cons a t ih=>
  obtain⟨k0,d0,n0⟩:=a;cases es with
  |nil=>simp[xa] at r
  |cons e0 es0=>grind [xa]
theorem DP{kvs:List (D×D×Nat)}{es:List MapEntry}(i:Nat)(r:xa w (tf O l h) l h kvs es){k d:D}{n:Nat}(hk:kvs[i]?=G (k,d,n)):∃e,es[i]?=G e/\Rel w (tf O l h) l h k e.key/\Rel w (tf O l h) l h d e.val/\e.born=n:=by
 induction kvs generalizing es i with
 |nil=>simp at hk
 |cons a t ih=>
  obtain⟨k0,d0,n0⟩:=a;cases es with
  |nil=>simp[xa] at r
  |cons e0 es0=>grind [xa]
theorem rU{k:D}:∀{kvs:List (D×D×Nat)} (i:Nat) {j:Nat} {d:D},dz k kvs i=G (G (j,d))->∃k' n,i<=j/\kvs[j-i]?=G (k',d,n)/\ew k k'=G J
 | [],_,_,_,hf=>by simp[dz] at hf
 |(k',d',n')::kvs,i,j,d,hf=>by
  simp[dz] at hf;cases hq:ew k k' with
  |none=>simp[hq] at hf
  |some b=>
   cases b with
   |true=>simp_all
   |false=>simp[hq] at hf;obtain⟨k2,n2,h1,h2,h3⟩:=rU (i+1) hf;grind
theorem yK{k k':D}{v v':Value}(rk:Rel w (tf O l h) l h k v)(rk':Rel w (tf O l h) l h k' v')(hq:ew k k'=G J)(n:Nat):Xl (n+1) v' v=J:=by
 unfold ew at hq;split at hq
 ·obtain rfl:=aF rk;obtain rfl:=aF rk';split at hq;·rename_i hk;subst hk;simp at hq;grind [Xl]
  ·simp at hq
 ·obtain rfl:=aF rk;obtain rfl:=aF rk';simp at hq;rw[<-DM] at hq;simp[Xl];rename_i a b;have:(a.data==b.data)=J:=hq;have h2:a.data=b.data:=by simpa using this
  show(b.data==a.data)=J;simp[h2]
 ·obtain rfl:=aF rk;obtain rfl:=aF rk';simp at hq;grind [Xl]
 ·simp at hq
theorem g9(R:JW Γ O w l h){t:TypeId}{x k d:D}{y v z:Value}{h':aT}(rx:Rel w (tf O l h) l h x y)(rk:Rel w (tf O l h) l h k v)(rd:Rel w (tf O l h) l h d z)(hd:ay P h t x k d=some h'):∃w',(X9 t y v z).run P w=.ok () w'/\JW Γ O w' l h'/\Ext w l h w' l h':=by
 unfold ay at hd;cases hu:P.underlying t with
 | none=>simp[hu] at hd
 | some u =>
  cases u<;>simp only[hu,reduceCtorEq] at hd;rename_i kt et;cases x with
  | ref r =>
   cases r<;>simp only[reduceCtorEq] at hd;rename_i b;cases hb:h[b]? with
   | none=>simp[hb] at hd
   | some bx =>
    obtain⟨_,hr⟩:=rx;cases bx<;>simp only[hb,reduceCtorEq] at hd hr;rename_i kvs clock;split at hd;case isFalse=>simp at hd
    rename_i hk;obtain⟨uk,huk⟩:=oV hk;obtain⟨fI,cp,ο,rfl⟩:=hr;obtain⟨zec,cp',es,h1,h2,h3⟩:=R.fI b _ hb;obtain⟨rfl,rfl⟩:fI=zec/\cp=cp':=by grind
    have hgo:=bK (P:=P) (o:=.map es clock) h2 (by simp);cases hf:dz k kvs 0 with
    | none=>simp[hf] at hd
    | some r =>
     obtain⟨r',hn,hm2⟩:=lW huk hk rk 0 h3 hf;have hkey:(WW kt v es.toList).run P w=.ok r' w:=by simp only[WW,TK,xy huk,Tt,hn,Uf]
     rcases r with _|⟨i,d0⟩
     ·simp[hf] at hd;rcases r' with _|⟨j,y0⟩
      ·subst hd
       have:=kv R (x':=.map (kvs++[(k,d,clock)]) (clock+1)) hb (by simp) ο (o':=.map (es.push {key:=v,val:=z,born:=clock}) (clock+1)) h2 trivial
        (λE=>⟨fI,cp,_,ο,gp h2,by rw[Array.toList_push];exact Cg (E.zqq h3) (E.rel rk) (E.rel rd) rfl⟩)
       refine⟨_,?_,this.1,this.2⟩;simp[X9,xy hu,hgo,zbS hk rk,hkey,cv h2 (by simp)]
      ·simp at hm2
     ·simp[hf] at hd;rcases r' with _|⟨j,y0⟩
      ·simp at hm2
      ·simp at hm2;obtain⟨rfl,ry⟩:=hm2;obtain⟨k',n,_,hkv,hq⟩:=rU 0 hf;simp at hkv;simp[hkv] at hd;subst hd;obtain⟨e0,he0,r1,r2,r3⟩:=DP j h3 hkv;have hsb:=yK rk r1 hq 9999;have he0':es[j]? = some e0:=by rw[<-Uo];exact he0
       have hmod:(es.modify j λe=>{e with key:=v,val:=z}).toList=es.toList.set j {key:=v,val:=z,born:=e0.born}:=by
        apply List.ext_getElem?;intro i;rw[Uo,Array.getElem?_modify,List.getElem?_set];by_cases hji:j=i;·grind
        ·simp[hji]
       have:=kv R (x':=.map (kvs.set j (k,d,n)) clock) hb (by simp) ο (o':=.map (es.modify j λe=>{e with key:=v,val:=z}) clock) h2 trivial
        (λE=>⟨fI,cp,_,ο,gp h2,by rw[hmod];exact DN j (E.zqq h3) (E.rel rk) (E.rel rd) r3⟩)
       refine⟨_,?_,this.1,this.2⟩;simp[X9,xy hu,hgo,zbS hk rk,hkey,Instr.keyThatStays,he0',hsb,cv h2 (by simp)]
  | _=>simp at hd
theorem tP(R:JW Γ O w l h)(t:TypeId):∃v w' l',(Instr.makeMap t none).run P w=.ok v w'/\JW Γ O w' l' (h++[.map [] 0])/\Ext w l h w' l' (h++[.map [] 0]) /\ Rel w' (tf O l' (h++[.map [] 0])) l' (h++[.map [] 0]) (.ref (.mp h.length)) v:=by obtain⟨R',E⟩:=fV R (.map #[] 0) (.map [] 0) 0 (λ_=>⟨w.heap.size,0,#[],by simp,heap_alloc_new w _,by simp[xa]⟩);refine⟨.map (some w.heap.size),_,_,by simp[Instr.makeMap],R',E,?_⟩;simp only[Rel,qI];refine⟨rfl,?_⟩;simp
end
section
variable {P:Program}{Γ:au}{O:Nat->Prop}{w:World}{l:Loc}{h:aT}
theorem oW(R:JW Γ O w l h)(o:Obj)(x:ql)(hx:(∃s p,x=.sit s p)\/(∃m a b c,x=.mit m a b c))(Φ:Ext w l h (w.alloc o) (l.upd h.length (G (w.heap.size,0))) (h++[x]) -> zm (w.alloc o) (tf O (l.upd h.length (G (w.heap.size,0))) (h++[x])) (l.upd h.length (G (w.heap.size,0))) (h++[x]) h.length x) :∃l',JW Γ O (w.alloc o) l' (h++[x])/\Ext w l h (w.alloc o) l' (h++[x])/\Rel (w.alloc o) (tf O l' (h++[x])) l' (h++[x]) (gM (.it h.length)) (.pointer (G ⟨w.heap.size,0,Y⟩)):=by obtain⟨R',E⟩:=fV R o x 0 Φ;refine⟨_,R',E,?_⟩;simp only[Rel,qI];refine⟨rfl,?_⟩;rcases hx with ⟨s,p,rfl⟩|⟨m,a,b,c,rfl⟩<;>simp
theorem vV(R:JW Γ O w l h){t:TypeId}{x d:D}{y:Value}{h':aT}(rx:Rel w (tf O l h) l h x y)(hd:Ar P h t x=some (d,h')):∃v w' l',(X4 t y).run P w=.ok v w'/\JW Γ O w' l' h'/\Ext w l h w' l' h'/\Rel w' (tf O l' h') l' h' d v:=by
 unfold Ar at hd;split at hd;·rename_i s hu;cases hd;obtain rfl:=aF rx;obtain⟨l',r1,r2,r3⟩:=oW R (.stringIter s 0) (.sit s 0) (.inl ⟨_,_,rfl⟩) (λ_=>⟨w.heap.size,0,by simp,heap_alloc_new w _⟩);exact⟨_,_,l',by simp[X4,xy hu],r1,r2,r3⟩
 ·rename_i hu;cases hd;obtain rfl:=aF rx;obtain⟨l',r1,r2,r3⟩:=oW R (.mapIter none 0 #[] 0) (.mit none 0 [] 0) (.inr ⟨_,_,_,_,rfl⟩) (λ_=>⟨w.heap.size,0,none,by simp,heap_alloc_new w _,rfl⟩);exact⟨_,_,l',by simp[X4,xy hu],r1,r2,r3⟩
 ·rename_i kt et b hu;cases hb:h[b]? with
  | none=>simp[hb] at hd
  | some bx =>
   have rx':=rx;obtain⟨_,hr⟩:=rx;cases bx<;>simp only[hb,reduceCtorEq,Tf,Tk] at hd hr;rename_i kvs clock;obtain⟨rfl,rfl⟩:=hd;obtain⟨fI,cp,ο,rfl⟩:=hr;obtain⟨zec,cp',es,h1,h2,h3⟩:=R.fI b _ hb;obtain⟨rfl,rfl⟩:fI=zec/\cp=cp':=by grind
   have hgo:=bK (P:=P) (o:=.map es clock) h2 (by simp)
   obtain⟨l',r1,r2,r3⟩:=oW R (.mapIter (some fI) clock #[] clock) (.mit (some b) clock [] clock) (.inr ⟨_,_,_,_,rfl⟩)
    (λE=>⟨w.heap.size,0,some fI,by simp,heap_alloc_new w _,(E.rel rx':Rel _ _ _ _ (.ref (.mp b)) _)⟩)
   exact⟨_,_,l',by simp[X4,xy hu,hgo],r1,r2,r3⟩
 ·simp at hd
theorem im{f:Nat->Bool}:∀{kvs:List (D×D×Nat)} {es:List MapEntry},xa w (tf O l h) l h kvs es->xa w (tf O l h) l h (kvs.filter λe=>f e.2.2) (es.filter λe=>f e.born)
 | [],[],_=>by simp[xa]
 |(k,d,n)::kvs,e::es,r=>by simp[xa] at r;have ih:=im (f:=f) r.2.2.2;grind [r.2.2.1,xa]
 | [],_::_,r=>by simp[xa] at r
 |_::_,[],r=>by simp[xa] at r
theorem vW{f:Nat->Bool}:∀{kvs:List (D×D×Nat)} {es:List MapEntry},xa w (tf O l h) l h kvs es->(es.any λe=>f e.born)=(kvs.any λe=>f e.2.2)
 | [],[],_=>qk
 |(k,d,n)::kvs,e::es,r=>by simp[xa] at r;simp[r.2.2.1,vW r.2.2.2]
 | [],_::_,r=>by simp[xa] at r
 |_::_,[],r=>by simp[xa] at r
theorem vX(_R:JW Γ O w l h){b:Nat}{y:Value}{bx:ql}(rx:Rel w (tf O l h) l h (gM (.it b)) y)(hb:h[b]?=G bx)(hg:bx≠xx):∃fI cp,l b=G (fI,cp)/\y=.pointer (G ⟨fI,0,Y⟩):=by obtain⟨_,hr⟩:=rx;grind
theorem yL(R:JW Γ O w l h){x d:D}{y:Value}{s:Bool}{t:TypeId}{h':aT}(rx:Rel w (tf O l h) l h x y)(hd:H4 h s x=G (d,h')):∃v w',(Wr y s t).run P w=.ok v w'/\JW Γ O w' l h'/\Ext w l h w' l h'/\Rel w' (tf O l h') l h' d v:=by
 unfold H4 at hd;split at hd;case h_2=>simp at hd
 rename_i b;split at hd
 ·-- a string
  rename_i str pos hb;obtain⟨fI,cp,ο,rfl⟩:=vX R rx hb qk;obtain⟨zec,cp',h1,h2⟩:=R.fI b _ hb;obtain⟨rfl,rfl⟩:fI=zec/\cp=cp':=mW
  have hgo:=bK (P:=P) (o:=.stringIter str pos) h2 qk;split at hd
  ·rename_i oA;cases hd
   have:=kv R (x':=.sit str (pos+(Y2 str pos).2)) hb qk ο (o':=.stringIter str (pos+(Y2 str pos).2)) h2 trivial
    (λE=>⟨fI,cp,ο,gp h2⟩)
   refine⟨.tuple #[.bool J,goInt pos,.int .i32 (Y2 str pos).1],_,?_,this.1,this.2,?_⟩;·simp[Wr,hgo,oA,cv (P:=P) h2 qk]
   ·simp only[Rel];exact⟨_,rfl,w9 _ _ _ _ _,w9 _ _ _ _ _,w9 _ _ _ _ _,trivial⟩
  ·rename_i oA;cases hd;refine⟨.tuple #[.bool N],w,?_,R,VD _ _ _,?_⟩;·simp[Wr,hgo,oA]
   ·simp only[Rel];exact⟨_,rfl,w9 _ _ _ _ _,trivial⟩
 ·-- a nil map
  rename_i a1 a2 a3 hb;cases hd;obtain⟨fI,cp,ο,rfl⟩:=vX R rx hb qk;obtain⟨zec,cp',mr,h1,h2,h3⟩:=R.fI b _ hb;obtain⟨rfl,rfl⟩:fI=zec/\cp=cp':=mW
  simp only at h3;subst h3;have hgo:=bK (P:=P) h2 qk;refine⟨.tuple #[.bool N],w,?_,R,VD _ _ _,?_⟩;·simp[Wr,hgo]
  ·simp only[Rel];exact⟨_,rfl,w9 _ _ _ _ _,trivial⟩
 ·-- a map
  rename_i mb since seen st hb;cases hmb:h[mb]? with
  |none=>grind
  |some mx=>
   cases mx<;>simp only[hmb,reduceCtorEq] at hd;rename_i kvs clock;obtain⟨fI,cp,ο,rfl⟩:=vX R rx hb qk;obtain⟨zec,cp',mr,h1,h2,h3⟩:=R.fI b _ hb;obtain⟨rfl,rfl⟩:fI=zec/\cp=cp':=mW
   have h3':=h3;obtain⟨_,hr⟩:=h3;simp only[hmb] at hr;obtain⟨znq,mcp,hlm,hmr⟩:=hr;simp at hmr;subst hmr;obtain⟨zoN,mcp',es,g1,g2,g3⟩:=R.fI mb _ hmb;obtain⟨rfl,rfl⟩:znq=zoN/\mcp=mcp':=mW
   have hgo:=bK (P:=P) h2 qk;have hgm:=bK (P:=P) g2 qk;have zmh:xa w (tf O l h) l h (kvs.filter λe=>!seen.contains e.2.2) (es.filter λe=>!seen.toArray.contains e.born).toList:=by rw[Array.toList_filter];simpa using im (f:=λn=>!seen.contains n) g3
   have hlen:=il _ _ g3;have hes:es.isEmpty=kvs.isEmpty:=by rw[XB];simp only[Array.isEmpty_iff_size_eq_zero,List.isEmpty_iff_length_eq_zero,hlen,VJ]
   have Ν:(es.all λe=>fE (e.born>=st)) = !(kvs.any λe=>fE (e.2.2<st)):=by rw[<-vW (f:=λn=>fE (n<st)) g3,<-Array.all_toList,List.all_eq_not_any_not];congr 1;congr 1;funext e;rw[XB];simp
   split at hd
   ·rename_i hk;split at hd;case isFalse=>simp at hd
    rename_i hc;cases hd;rw[hk] at zmh;have he:es.filter (λe=>!seen.toArray.contains e.born)=#[]:=by
     cases hq:(es.filter (λe=>!seen.toArray.contains e.born)).toList with
     |nil=>simpa using hq
     |cons a t=>rw[hq] at zmh;simp[xa] at zmh
    refine⟨.tuple #[.bool N],w,?_,R,VD _ _ _,by simp only[Rel];exact⟨_,rfl,w9 _ _ _ _ _,trivial⟩⟩;have zlT:(!seen.toArray.isEmpty&&!es.isEmpty&&es.all (λe=>fE (e.born>=st)))=N:=by rw[Ν,hes,Y3];cases h1:seen.isEmpty<;>cases h2:kvs.isEmpty<;>simp_all
    simp only[Wr,TK,hgo,hgm,Tt,zlT,he];simp[Wi]
   ·rename_i k v n hk;split at hd;case isFalse=>simp at hd
    rename_i hc;cases hd;simp only[Tm,decide_eq_true_eq] at hc;rw[hk] at zmh;obtain⟨e,he,rk,rv,hn⟩:∃e:MapEntry,es.filter (λe=>!seen.toArray.contains e.born)=#[e]/\Rel w (tf O l h) l h k e.key/\Rel w (tf O l h) l h v e.val/\e.born=n:=by
     cases hq:(es.filter (λe=>!seen.toArray.contains e.born)).toList with
     |nil=>rw[hq] at zmh;simp[xa] at zmh
     |cons a t=>rw[hq] at zmh;grind [xa]
    have zlT:(!seen.toArray.isEmpty&&!es.isEmpty&&es.all (λe=>fE (e.born>=st)))=N:=by
     rw[Ν,Y3];have Jw:=hc.1;rw[YB] at Jw;rcases Jw with h1|h1
     ·simp[h1]
     ·simp[h1]
    have:=kv R (x':=.mit (G mb) since (seen++[n]) clock) hb qk ο (o':=.mapIter (G znq) since (seen.toArray.push e.born) clock) h2 trivial
     (λE=>⟨fI,cp,G znq,ο,mW,(E.rel (O:=O) (d:=gM (.mp mb)) h3')⟩)
    refine⟨.tuple #[.bool J,e.key,e.val],_,?_,this.1,this.2,?_⟩
    ·have hs:e.born<since:=by rw[hn];exact hc.2
     have hs2:¬since<=e.born:=lj
     simp only[Wr,TK,hgo,hgm,Tt,zlT,he];simp[Wi,hs,hs2,cv (P:=P) h2]
    ·simp only[Rel];exact⟨_,rfl,w9 _ _ _ _ _,this.2.rel rk,this.2.rel rv,trivial⟩
   ·simp at hd
 ·simp at hd
theorem rV{n:Nat}:∀{kvs:List (D×D×Nat)} {es:List MapEntry},xa w (tf O l h) l h kvs es->∀{e:D×D×Nat},kvs.find? (λe=>e.2.2==n)=G e -> ∃e',es.find? (λe=>e.born==n)=G e'/\Rel w (tf O l h) l h e.1 e'.key/\Rel w (tf O l h) l h e.2.1 e'.val
 | [],[],_,_,hf=>by simp at hf
 |(k,d,m)::kvs,e0::es,r,e,hf=>by
  simp[xa] at r;simp[List.find?_cons,r.2.2.1] at hf ⊢;split at hf;·grind
  ·exact rV r.2.2.2 hf
 | [],_::_,r,_,_=>mW
 |_::_,[],r,_,_=>by simp[xa] at r
theorem vY(R:JW Γ O w l h){x d:D}{y:Value}(rx:Rel w (tf O l h) l h x y)(hd:jv h x=G d):∃v,(Instr.entry y).run P w=.ok v w/\Rel w (tf O l h) l h d v:=by
 unfold jv at hd;split at hd;case h_2=>simp at hd
 rename_i b;split at hd;case h_2=>simp at hd
 rename_i mb since seen st hb;cases hmb:h[mb]? with
 |none=>grind
 |some mx=>
  cases mx<;>simp only[hmb,reduceCtorEq] at hd;rename_i kvs clock;cases hl:seen.getLast? with
  |none=>simp[hl] at hd
  |some n=>
   simp only[hl] at hd;split at hd;case isFalse=>simp at hd
   rename_i hcl;subst hcl;simp only[Tn] at hd;obtain⟨e,hf,rfl⟩:=hd;obtain⟨fI,cp,ο,rfl⟩:=vX R rx hb qk;obtain⟨zec,cp',mr,h1,h2,h3⟩:=R.fI b _ hb;obtain⟨rfl,rfl⟩:fI=zec/\cp=cp':=mW
   obtain⟨_,hr⟩:=h3;simp only[hmb] at hr;obtain⟨znq,mcp,hlm,hmr⟩:=hr;simp at hmr;subst hmr;obtain⟨zoN,mcp',es,g1,g2,g3⟩:=R.fI mb _ hmb;obtain⟨rfl,rfl⟩:znq=zoN/\mcp=mcp':=mW
   have hgo:=bK (P:=P) h2 qk;have hgm:=bK (P:=P) g2 qk;obtain⟨e',hf',r1,r2⟩:=rV g3 hf;refine⟨.tuple #[e'.key,e'.val],?_,by simp only[Rel];exact⟨_,rfl,r1,r2,trivial⟩⟩;have hback:seen.toArray.back? = G n:=by rw[List.back?_toArray];exact hl
   have hff:es.find? (λe=>e.born==n)=G e':=by rw[<-Array.find?_toList];exact hf'
   simp only[Instr.entry,TK,hgo,hgm,Tt,hback];simp[hff]
end
end Go.Vi
