/- A part of the proof; no conditions of its own. -/
import Derived.Test.YtgalafpinkflfaaGreatDoorV1
import Derived.IntWalk
open Bool renaming true->J,false->N
open Option renaming some->G,none->Y
open Go.Vi.Ref renaming vs->ZC,mp->Wv
open Go.Vi.iN renaming T1->TS,map->ZD
open Go.Vi.D renaming agg->Uf,ref->Tx
open Decidable renaming decide -> Zd
open Go.Builtin renaming zeroCells -> Qe,lenOf -> Ob,firstCells -> N1,append_ -> Oi,len_ -> PY
open Go.Vi.Loc renaming Z1 -> Pi
open Nat renaming le_refl -> Nw,mul_le_mul_right -> OH,add_mul -> PF,le_succ -> RH
open List renaming getElem?_cons_zero -> OO,getElem?_toArray -> QI,getElem?_cons_succ -> PP,all_eq_true -> Ns,length_append -> Oq,flatten_append -> Pl,isEmpty_eq_false_iff -> Qn,length_pos_iff -> Q1,mem_of_mem_drop -> QR,mem_of_mem_take -> SF,take_of_length_le -> O1,length_drop -> Ph,length_take -> Px,take_left' -> Sa,drop_append -> Rm,append_assoc -> Qq,mapM_cons -> Ss,replicate -> MU,length_nil -> Q3,isEmpty_toArray -> SH
open Go.Question renaming appendCap -> Sk,forced -> Rq
open Go.IntKind renaming i64 -> MM
open Go.Sem renaming run_bind -> Ni,run_pure -> NN
open Go.Result renaming andThen_ok -> M6
open Bool renaming false_eq_true -> NV,and_eq_true -> M3,not_eq_true' -> Oy,or_eq_true -> Sb,eq_iff_iff -> Q4
open Go.Vi.iN renaming stays -> Qt
open Option.some renaming injEq -> MS
open Prod.mk renaming injEq -> MV
open Array renaming length_toList -> OZ,range -> Pk,toList_map -> QD,toList_range -> Rf,getElem?_toList -> NU
open Go.ByteArray renaming toList_eq -> R9
open Option renaming map_eq_some_iff -> M0
open Go.Op renaming intArith -> RN,intCmp -> Re,unary -> Tb
open Int renaming not_lt -> PT
open Go.Instr renaming build -> Su,buildSlice -> Ru,makeSlice -> PD,sliceBounds -> Ox,sliceBound -> PQ,sliceAt -> OP,slice -> RB,findNow -> RU,sameNow -> Q5,lookup -> Qx,findKey -> Qr,sameBits -> QL,mapUpdate -> RF,range -> RC,next -> Qy
open Go.IntWalk renaming i64_in -> QE
open Go.Utf8 renaming decode -> SG
open Go.Vi.Ext renaming refl -> Pj
namespace Go.Vi
open Go
section
variable {P:Program}{Γ:ao}{O:Nat->Prop}{w:World}{l:Loc}{h:List iN}
theorem oU(z:Array Value)(n:Nat):(Qe z n).size=n*z.size:=by simp[Qe]
theorem gN(R:TL Γ O w l h)(w1:World)(Ε:w1.heap=w.heap/\w1.tape=w.tape/\w1.os=w.os/\w1.output=w.output/\w.drawn<=w1.drawn)(e:TypeId)(cs:Array Value)(rows:List (List D))(sz cap:Nat)(ys rest:List Value)(hcs:cs.toList=ys++rest)(XO:cs.size=cap*sz)(Xs:rows.length<=cap)(hr:∀r∈rows,r.length=sz)(ry:AT w (On O l h) l h rows.flatten ys) :∃l',TL Γ O (w1.alloc (.cells cs e)) l' (h++[.bY rows 0 sz])/\Ext w l h (w1.alloc (.cells cs e)) l' (h++[.bY rows 0 sz]) /\ Rel (w1.alloc (.cells cs e)) (On O l' (h++[.bY rows 0 sz])) l' (h++[.bY rows 0 sz]) (Tx (.bY h.length 0)) (.slice (G ⟨w.heap.size,0,Y⟩) rows.length cap):=by
 obtain⟨R1,E1⟩:=R.of_heap Ε.1 Ε.2;have hs:w1.heap.size=w.heap.size:=by rw[Ε.1]
 obtain⟨R2,E2⟩:=e7 R1 (.cells cs e) (.bY rows 0 sz) (X9 0 cap) (λE=>by simp only[Tl,Pi];exact⟨0,cap,rfl,cs,e,(0,0),ys,heap_alloc_new w1 _,TE,Xs,To,hr,E.Ur (E1.Ur ry),[],rest,rfl,hcs⟩);refine⟨_,R2,E1.trans E2,?_⟩;simp only[Rel,NE];refine⟨rfl,?_⟩;simp only[List.getElem?_append_right (Nw _),Nat.sub_self,OO,Pi,hs,iY];grind
theorem yR(R:TL Γ O w l h)(sz:Nat):∃l',TL Γ O w l' (h++[.bY [] 0 sz])/\Ext w l h w l' (h++[.bY [] 0 sz]) /\ Rel w (On O l' (h++[.bY [] 0 sz])) l' (h++[.bY [] 0 sz]) (Tx (.bY h.length 0)) (.slice Y 0 0):=by
 have:=R.step (w':=w) (l':=l.Vh h.length Y) (h':=h++[.bY [] 0 sz]) h.length (.bY [] 0 sz) (Nw _) ⟨rfl,rfl,rfl,Tn⟩ (λb hb=>i6 h _ hb) To
  (λb hb=>Loc.X4 _ _ _ hb) (λy hy=>by simp at hy) (λ_ _ _=>rfl) (λk c hk=>by simp at hk) (λ_=>by simp[Tl])
 refine⟨_,this.1,this.2,?_⟩;simp only[Rel,NE];refine⟨rfl,?_⟩;simp[iY]
theorem yS{T0 cap:Nat}{e:TypeId}(t:Nat):T0<=(Sk T0 cap e).cut t:=by simp[Question.cut]
theorem oV{t tx ty e:TypeId}{dx:TypeDesc}{sz by':Nat}{z:Value}{base:Option Addr}{n cap m:Nat}{x:Value}{olds news:List Value}
  (ht:P.underlying t=some (.slice e)) (hx:P.underlying tx=some dx) (Zj:∀k,dx≠.int k) (hs:U2 P e=some sz) (hb:bytesOf P e=some by') (hz:i4 P e=some z)
  (hlen:(Ob x).run P w=.ok m w) (hnew:(N1 sz m x).run P w.drew=.ok news.toArray w.drew)
  (hold:(N1 sz n (.slice base n cap)).run P w.drew=.ok olds.toArray w.drew) (hn:cap<n+m) (hby:(n+m)*by'<=140737488355328) (h62:n+m<=4611686018427387904) :
  ∃(Wq:Nat),n+m<=Wq /\
   (Oi #[t,tx] ty #[.slice base n cap,x]).run P w=.ok (.slice (some ⟨w.heap.size,0,none⟩) (n+m) Wq)
    (w.drew.alloc (.cells (olds.toArray++news.toArray++Qe z.cells (Wq-(n+m))) e)):=by
 obtain⟨i,hi,hib⟩:=ip hb
 have hfit:=growslice_fits hn hby
 have hti:∀w:World,(typeInfo e).run P w=.ok i w:=λw=>by simp[typeInfo,hi]
 refine⟨(Sk (n+m) cap e).cut (w.tape w.drawn (.appendCap (n+m) cap e)),yS _,?_⟩
 have hnot:¬((((n+m:Nat):Int)>MM.max)/\(False\/i.bytes=0)):=by
  intro hh
  have:MM.max=9223372036854775807:=rfl
  rw[this] at hh;omega
 have hcap':¬(Builtin.nextslicecap (n+m) cap*i.bytes>2 ^ 48):=by rw[hib];omega
 unfold Oi
 simp only[QI,OO,PP,Ni,Tj ht,Tj hx,M6,TJ hs,NN]
 cases dx with
 | int k=>grind
 | _ =>
  simp only[NV,if_false,hlen,M6,Nat.not_le.2 hn,Ni,hti,hnot,hcap',if_false,run_choose,Rq,run_askRoom,hold,hnew,Uo hz,NN,Bool.not_false,if_true,newRow,run_newObj,World.drew_eq,World.alloc_eq,World.size_drew]
theorem i9{t tx ty e:TypeId}{dx:TypeDesc}{sz oR n cap m:Nat}{x:Value}{news:List Value}{c:Array Value}{T:TypeId}{fr:Nat×Nat}(ht:P.underlying t=G (.slice e))(hx:P.underlying tx=G dx)(Zj:∀k,dx≠.int k)(hs:U2 P e=G sz)(hlen:(Ob x).run P w=.ok m w)(hnew:(N1 sz m x).run P w=.ok news.toArray w)(h1:∀v∈news,v.oneCell'=J)(hnl:news.length=m*sz){oo:Nat}(hn:n+m<=cap)(hb:w.heap[oR]?=G (.cells c T fr))(hf:∀o,o<c.size->¬(fr.1<=o/\o<fr.2))(hc:oo+cap*sz<=c.size) :∃w' c',(Oi #[t,tx] ty #[.slice (G ⟨oR,oo,Y⟩) n cap,x]).run P w=.ok (.slice (G ⟨oR,oo,Y⟩) (n+m) cap) w'/\w'.heap.size=w.heap.size/\(∀k,k≠oR->w'.heap[k]?=w.heap[k]?) /\ w'.heap[oR]?=G (.cells c' T fr)/\c'.toList=bo c.toList (oo+n*sz) news/\w'.tape=w.tape/\w'.os=w.os/\w'.output=w.output/\w.drawn<=w'.drawn:=by
 have hle:oo+n*sz+0+news.length<=c.size:=by rw[hnl];have:=OH sz hn;rw[PF] at this;omega
 obtain⟨w',c',h2,h3⟩:=dz (P:=P) (off:=oo+n*sz) news 0 w c hb hf hle h1;refine⟨w',c',?_,by simpa using h3⟩;unfold Oi;simp only[QI,OO,PP,Ni,Tj ht,Tj hx,M6,TJ hs,NN];cases dx with
 |int k=>grind
 |_=>simp[hlen,hn,hnew,h2]
theorem gl{t tx ty e:TypeId}{dx:TypeDesc}{sz:Nat}{x:Value}{news:List Value}(ht:P.underlying t=G (.slice e))(hx:P.underlying tx=G dx)(Zj:∀k,dx≠.int k)(hs:U2 P e=G sz)(hlen:(Ob x).run P w=.ok 0 w)(hnew:(N1 sz 0 x).run P w=.ok news.toArray w) :(Oi #[t,tx] ty #[.slice Y 0 0,x]).run P w=.ok (.slice Y 0 0) w:=by
 unfold Oi;simp only[QI,OO,PP,Ni,Tj ht,Tj hx,M6,TJ hs,NN];cases dx with
 |int k=>grind
 |_=>simp[hlen,hnew]
theorem d5{t:TypeId}{z:List D}(hz:dR P t=G z):∃v,i4 P t=G v/\z=v.cells.toList.map lit:=by
 unfold dR at hz;cases hv:i4 P t with
 |none=>simp[hv] at hz
 |some v=>grind
theorem sN(R:TL Γ O w l h){b e0 sz:Nat}{es:List (List D)}(hb:h[b]?=G (.bY es e0 sz))(w1:World)(Ε:w1.heap=w.heap/\w1.tape=w.tape/\w1.os=w.os/\w1.output=w.output/\w.drawn<=w1.drawn)(e:TypeId)(cs:Array Value)(rows:List (List D))(cap:Nat)(ys rest:List Value)(hcs:cs.toList=ys++rest)(XO:cs.size=cap*sz)(Xs:rows.length<=cap)(hr:∀r∈rows,r.length=sz)(ry:AT w (On O l h) l h rows.flatten ys) :∃l',TL Γ O (w1.alloc (.cells cs e)) l' (h.set b (.bY rows (e0+1) sz))/\Ext w l h (w1.alloc (.cells cs e)) l' (h.set b (.bY rows (e0+1) sz)) /\ Rel (w1.alloc (.cells cs e)) (On O l' (h.set b (.bY rows (e0+1) sz))) l' (h.set b (.bY rows (e0+1) sz)) (Tx (.bY b (e0+1))) (.slice (G ⟨w.heap.size,0,Y⟩) rows.length cap):=by
 have hs:w1.heap.size=w.heap.size:=by rw[Ε.1]
 have:=R.step (w':=w1.alloc (.cells cs e)) (l':=l.Vh b (G (w.heap.size,X9 0 cap))) (h':=h.set b (.bY rows (e0+1) sz)) b (.bY rows (e0+1) sz) (by simp[hs]) ⟨Ε.2.1,Ε.2.2.1,Ε.2.2.2⟩
  (λi hi=>bG _ _ hi) (aY hb) (λi hi=>Loc.X4 _ _ _ hi)
  (λz hz=>by rw[hb] at hz;cases hz;exact⟨⟨RH _,λhh=>absurd hh TE,rfl⟩,λhh=>absurd hh (by simp[Qt])⟩)
  (λk hk _=>by rw[heap_alloc_old w1 _ k TE,Ε.1])
  (λk c hk=>by simp_all)
  (λE=>by
   simp only[Tl,Pi]
   exact⟨0,cap,rfl,cs,e,(0,0),ys,by rw[<-hs];exact heap_alloc_new w1 _,TE,Xs,To,hr,E.Ur ry,[],rest,rfl,hcs⟩)
 refine⟨_,this.1,this.2,?_⟩;simp only[Rel,NE];refine⟨rfl,?_⟩;grind [Pi,iY]
theorem qM(R:TL Γ O w l h){t tx ty:TypeId}{s x d:D}{ys yx:Value}{h':List iN}(rs:Rel w (On O l h) l h s ys)(rx:Rel w (On O l h) l h x yx)
  (hd:mF P h t tx s x=some (true,d,h')) :
  ∃v w' l',(Oi #[t,tx] ty #[ys,yx]).run P w=.ok v w'/\TL Γ O w' l' h'/\Ext w l h w' l' h'/\Rel w' (On O l' h') l' h' d v:=by
 unfold mF at hd
 cases Zu:eX P t with
 | none=>grind
 | some e =>
  cases hux:P.underlying tx with
  | none=>grind
  | some dx =>
   simp only[Zu,hux] at hd
   split at hd
   case isTrue=>simp at hd
   rename_i hdx0
   have Zj:∀k,dx≠.int k:=by intro k hk;subst hk;simp[Yz] at hdx0
   have ht:P.underlying t=some (.slice e):=by
    unfold eX at Zu
    cases hu:P.underlying t with
    | none=>grind
    | some u=>grind
   cases hs:U2 P e with
   | none=>simp[hs] at hd
   | some sz =>
    cases hb:bytesOf P e with
    | none=>grind
    | some by' =>
     cases hz:dR P e with
     | none=>grind
     | some z =>
      cases WT:Uj h x with
      | none=>grind
      | some rows =>
       simp only[hs,hb,hz,WT] at hd
       split at hd
       case isFalse=>simp at hd
       rename_i hzl
       obtain⟨zv,hzv,rfl⟩:=d5 hz
       have hzsz:zv.cells.size=sz:=by simpa using hzl
       have pre:rows.all (bf sz)=true->(∀r∈rows,r.length=sz)/\(rows.flatten.all D.one=true):=by
        intro ha
        simp only[Ns,bf,M3,decide_eq_true_eq] at ha
        refine⟨λr hr=>(ha r hr).1,?_⟩
        simp only[Ns,List.mem_flatten]
        rintro c ⟨r,hr,hc⟩
        exact(ha r hr).2 c hc
       obtain⟨R1,E1⟩:=R.of_heap (w':=w.drew) rfl ⟨rfl,rfl,rfl,(by simp_all)⟩
       have Η:∀{n m:Nat},Tw (n+m) by'=true->(n+m)*by'<=140737488355328/\n+m<=4611686018427387904:=by
        intro n m hh;simpa[Tw] using hh
       have mk:∀(base:Option Addr) (cap:Nat) (UN:List (List D)) (y:Value),y=.slice base UN.length cap->Rel w (On O l h) l h s y->Uj h s=some UN->(∀r∈UN,r.length=sz) ->
         rows.all (bf sz)=true->Tw (UN.length+rows.length) by'=true->cap<UN.length+rows.length ->
         ∃(Wq:Nat) (cs:Array Value) (zs rest:List Value),(Oi #[t,tx] ty #[y,yx]).run P w=.ok (.slice (some ⟨w.heap.size,0,none⟩) (UN++rows).length Wq) (w.drew.alloc (.cells cs e)) /\
          cs.toList=zs++rest/\cs.size=Wq*sz/\(UN++rows).length<=Wq/\(∀r∈UN++rows,r.length=sz)/\AT w.drew (On O l h) l h (UN++rows).flatten zs:=by
        intro base cap UN y hy ry hor hol ha Wb IN
        subst hy
        obtain⟨p1,p2⟩:=pre ha
        obtain⟨g1,_⟩:=cJ (P:=P) R rx WT p1
        obtain⟨_,news,g2,g3⟩:=cJ (P:=P) R1 (E1.rel rx) WT p1
        obtain⟨_,olds,g5,g6⟩:=cJ (P:=P) R1 (E1.rel ry) hor hol
        obtain⟨q1,q2⟩:=Η Wb
        obtain⟨Wq,q3,q4⟩:=oV (P:=P) (ty:=ty) ht hux Zj hs hb hzv g1 g2 g5 IN q1 q2
        refine⟨Wq,_,olds++news,(Qe zv.cells (Wq-(UN.length+rows.length))).toList,by rw[q4,Oq],by simp,?_,by grind,?_,?_⟩
        ·have h1:=g6.length
         have h2:=g3.length
         rw[aF hol] at h1
         rw[aF p1] at h2
         simp[oU,hzsz,<-h1,<-h2,<-PF]
         congr 1;omega
        ·grind
        ·rw[Pl];exact g6.append g3
       have news:∀(UN:List (List D)) (y:Value) (base:Option Addr) (cap:Nat),y=.slice base UN.length cap->Rel w (On O l h) l h s y->Uj h s=some UN->(∀r∈UN,r.length=sz) ->
         rows.all (bf sz)=true->Tw (UN.length+rows.length) by'=true->cap<UN.length+rows.length->d=.ref (.bY h.length 0)->h'=h++[.bY (UN++rows) 0 sz] ->
         ∃v w' l',(Oi #[t,tx] ty #[y,yx]).run P w=.ok v w'/\TL Γ O w' l' h'/\Ext w l h w' l' h'/\Rel w' (On O l' h') l' h' d v:=by
        intro UN y base cap hy ry hor hol ha Wb IN W6 hh2
        obtain⟨Wq,cs,zs,rest,k1,k2,k3,k4,k5,k6⟩:=mk base cap UN y hy ry hor hol ha Wb IN
        obtain⟨l',k7,k8,k9⟩:=gN R1 w.drew ⟨rfl,rfl,rfl,rfl,(by grind)⟩ e cs (UN++rows) sz Wq zs rest k2 k3 k4 k5 k6
        subst W6;subst hh2
        exact⟨_,_,l',k1,k7,E1.trans k8,k9⟩
       split at hd
       ·-- nil
        simp only[MS,MV,M3] at hd
        obtain⟨⟨ha,Wb⟩,rfl,rfl⟩:=hd
        simp[Rel,TB] at rs
        subst rs
        cases hrl:rows with
        | nil =>
         subst hrl
         obtain⟨g1,nw,g2,g3⟩:=cJ (P:=P) R rx WT (pre ha).1
         obtain⟨l',k7,k8,k9⟩:=yR R sz
         exact⟨_,_,l',gl ht hux Zj hs g1 g2,k7,k8,k9⟩
        | cons r0 rs' =>
         rw[<-hrl]
         exact news [] (.slice none 0 0) none 0 rfl (by simp[Rel,TB]) (by simp[Uj]) (by simp) ha Wb (by rw[hrl];simp) rfl (by simp)
       ·-- bM
        rename_i es
        simp only[MS,MV,M3,Oy,Qn] at hd
        obtain⟨⟨⟨⟨ha,Wb⟩,UQ⟩,hel⟩,rfl,rfl⟩:=hd
        have hol:∀r∈es.map (·.map D.p),r.length=sz:=by
         simp only[Ns,decide_eq_true_eq] at hel
         intro r hr
         obtain⟨r0,h0,rfl⟩:=List.mem_map.1 hr
         simpa using hel r0 h0
        have Yh:0<rows.length:=Q1.2 UQ
        grind [Rel,Uj]
       ·-- a bM part
        rename_i b e' i n kcl
        cases V9:h[b]? with
        | none=>grind
        | some bx =>
         cases bx<;>simp only[V9,reduceCtorEq] at hd
         rename_i es e2 Um
         split at hd
         case isFalse=>simp at hd
         rename_i he
         obtain⟨rfl,rfl⟩:=he
         simp only[MS,MV,M3,Oy,Qn] at hd
         obtain⟨⟨⟨⟨ha,Wb⟩,UQ⟩,hkn⟩,rfl,rfl⟩:=hd
         have hkn:=of_decide_eq_true hkn
         subst hkn
         have Yh:0<rows.length:=Q1.2 UQ
         have rs':=rs
         obtain⟨_,hr⟩:=rs
         simp only[V9] at hr
         obtain⟨TZ,oR,oo,cap,c2,U8,hy,_,_,hc⟩:=hr.2 trivial
         have UU:=hc _ rfl
         subst UU
         have hlen:((es.drop i).take c2).length=c2:=by simp;omega
         have UG:=R.oR b _ V9
         simp only[Tl,U8] at UG
         obtain⟨_,_,_,c,T,fr,Ya,o1,o2,o3,o4,o5,o6,o7⟩:=UG
         rcases hy with rfl|⟨a0,rfl,_⟩
         ·exact news ((es.drop i).take c2) _ (some _) c2 (by rw[hlen]) rs' (by simp[Uj,V9]) (λr hr=>o5 r (QR (SF hr))) ha (by grind) (by grind) rfl rfl
         ·exact news ((es.drop i).take c2) _ a0 c2 (by rw[hlen]) rs' (by simp[Uj,V9]) (λr hr=>o5 r (QR (SF hr))) ha (by grind) (by grind) rfl rfl
       ·-- the rest of a vector
        rename_i b e' i n
        cases V9:h[b]? with
        | none=>grind
        | some bx =>
         cases bx<;>simp only[V9,reduceCtorEq] at hd
         rename_i es e2 Um
         split at hd
         case isFalse=>simp at hd
         rename_i he
         obtain⟨rfl,rfl,TZ⟩:=he
         simp only[MS,MV,M3,Oy,Qn] at hd
         obtain⟨⟨⟨ha,Wb⟩,UQ⟩,rfl,rfl⟩:=hd
         have Yh:0<rows.length:=Q1.2 UQ
         have rs':=rs
         obtain⟨_,hr⟩:=rs
         simp only[V9] at hr
         obtain⟨_,oR,oo,cap,c2,U8,hy,hnc,hic,_⟩:=hr.2 trivial
         have hlen:(es.drop i).length=n:=by simp;omega
         have UG:=R.oR b _ V9
         simp only[Tl,U8] at UG
         obtain⟨o2',cc,rc,c,T,fr,Ya,o1,o2,o3,o4,o5,o6,pr,rest,o0,o7⟩:=UG
         obtain⟨rfl,rfl⟩:=cI rc
         have hor:Uj h (.ref (.vs b e' i n none))=some (es.drop i):=by
          simp only[Uj,V9,if_true]
          rw[O1 (by omega)]
         have grow:∀(base:Option Addr),ys=.slice base n c2->c2<n+rows.length ->
           ∃v w' l',(Oi #[t,tx] ty #[ys,yx]).run P w=.ok v w'/\TL Γ O w' l' (h.set b (.bY (es.drop i++rows) (e'+1) Um))/\Ext w l h w' l' (h.set b (.bY (es.drop i++rows) (e'+1) Um)) /\
            Rel w' (On O l' (h.set b (.bY (es.drop i++rows) (e'+1) Um))) l' (h.set b (.bY (es.drop i++rows) (e'+1) Um)) (.ref (.bY b (e'+1))) v:=by
          intro base hy IN
          obtain⟨Wq,cs,zs,rest,k1,k2,k3,k4,k5,k6⟩:=mk base c2 (es.drop i) ys (by grind) rs' hor (λr hr=>o5 r (QR hr)) ha (by grind) (by grind)
          obtain⟨l',k7,k8,k9⟩:=sN R1 V9 w.drew ⟨rfl,rfl,rfl,rfl,(by grind)⟩ e cs (es.drop i++rows) Wq zs rest k2 k3 k4 k5 k6
          exact⟨_,_,l',k1,k7,E1.trans k8,k9⟩
         rcases hy with hy|⟨a0,hy,Of⟩
         ·by_cases hfit:n+rows.length<=c2
          ·subst hy
           obtain⟨p1,p2⟩:=pre ha
           obtain⟨g1,nw,g2,g3⟩:=cJ (P:=P) R rx WT p1
           have hnl:nw.length=rows.length*Um:=by rw[<-g3.length,aF p1]
           have hcz0:oo+i*Um+c2*Um<=c.size:=by
            have:=OH Um hic
            rw[PF] at this
            omega
           obtain⟨w',c',k1,k2,k3,k4,k5,k6⟩:=i9 (P:=P) (ty:=ty) (T:=T) ht hux Zj hs g1 g2 (mD g3 p2) hnl hfit o1 o4 hcz0
           have hyl:Ya.length=i*Um+n*Um:=by rw[<-o6.length,aF o5,<-PF,TZ]
           have hfd:(es.drop i).flatten=es.flatten.drop (i*Um):=by
            have:=aU o5 i n (by omega)
            rw[O1 (by omega),O1 (l:=es.flatten.drop (i*Um)) (by rw[Ph,aF o5,<-TZ,PF];omega)] at this
            exact this
           have hcz:c'.size=c.size:=by
            have hh:=congrArg List.length k5
            have h9:=OH Um hfit
            rw[PF] at h9
            simp only[bo,Oq,Px,Ph,OZ] at hh
            omega
           have:=R.step (w':=w') (l':=l.Vh b (some (oR,X9 (oo+i*Um) c2))) (h':=h.set b (.bY (es.drop i++rows) (e'+1) Um)) b (.bY (es.drop i++rows) (e'+1) Um) (by omega) k6
            (λi hi=>bG _ _ hi) (aY V9) (λi hi=>Loc.X4 _ _ _ hi)
            (λz hz=>by rw[V9] at hz;cases hz;exact⟨⟨RH _,λhh=>absurd hh (by omega),rfl⟩,λhh=>absurd hh (by simp[Qt])⟩)
            (λk hk Ve=>k3 k (λee=>Ve _ (X9 oo cap) V9 (by simp) (by rw[U8,ee])))
            (λk cc hk=>by
             grind [Pi])
            (λE=>by
             simp only[Tl,Pi]
             refine⟨oo+i*Um,c2,rfl,c',T,fr,Ya.drop (i*Um)++nw,k4,by omega,by grind,by grind,?_,?_,pr++Ya.take (i*Um),rest.drop nw.length,?_,?_⟩
             ·grind
             ·rw[Pl,hfd];exact((E.Ur o6).drop _).append (E.Ur g3)
             ·grind
             ·have e1:oo+i*Um+n*Um=(pr++Ya).length:=by rw[Oq];omega
              rw[k5,o7]
              unfold bo
              rw[e1,Sa,Rm]
              ·simp only[Qq]
               rw[<-Qq (Ya.take _) (Ya.drop _),List.take_append_drop]
               simp
              ·rfl)
           refine⟨_,w',_,k1,this.1,this.2,?_⟩
           simp only[Rel,NE]
           refine⟨rfl,?_⟩
           rw[aY V9]
           simp only[Pi,iY]
           exact⟨Nw _,λ_=>⟨_,_,rfl,by grind,by grind⟩⟩
          grind
         grind
       ·-- an owned vector
        rename_i b e'
        cases V9:h[b]? with
        | none=>grind
        | some bx =>
         cases bx<;>simp only[V9,reduceCtorEq] at hd
         rename_i es e2 Um
         split at hd
         case isFalse=>simp at hd
         rename_i he
         obtain⟨rfl,rfl⟩:=he
         simp only[MS,MV,M3] at hd
         obtain⟨⟨ha,Wb⟩,rfl,rfl⟩:=hd
         have rs':=rs
         obtain⟨_,hr⟩:=rs
         simp only[V9] at hr
         have hv:=hr.2 trivial
         have UG:=R.oR b _ V9
         have grow:∀(base:Option Addr) (cap:Nat),ys=.slice base es.length cap->(∀r∈es,r.length=Um)->cap<es.length+rows.length ->
           ∃v w' l',(Oi #[t,tx] ty #[ys,yx]).run P w=.ok v w'/\TL Γ O w' l' (h.set b (.bY (es++rows) (e'+1) Um))/\Ext w l h w' l' (h.set b (.bY (es++rows) (e'+1) Um)) /\
            Rel w' (On O l' (h.set b (.bY (es++rows) (e'+1) Um))) l' (h.set b (.bY (es++rows) (e'+1) Um)) (.ref (.bY b (e'+1))) v:=by
          intro base cap hy hol IN
          obtain⟨Wq,cs,zs,rest,k1,k2,k3,k4,k5,k6⟩:=mk base cap es ys hy rs' (by simp[Uj,V9]) hol ha Wb IN
          obtain⟨l',k7,k8,k9⟩:=sN R1 V9 w.drew ⟨rfl,rfl,rfl,rfl,(by grind)⟩ e cs (es++rows) Wq zs rest k2 k3 k4 k5 k6
          exact⟨_,_,l',k1,k7,E1.trans k8,k9⟩
         cases U8:l b with
         | none =>
          simp only[U8,iY,Tl] at hv UG
          obtain⟨_,rfl⟩:=hv
          subst UG
          cases hrl:rows with
          | nil =>
           subst hrl
           obtain⟨g1,nw,g2,g3⟩:=cJ (P:=P) R rx WT (pre ha).1
           have:=R.step (w':=w) (l':=l) (h':=h.set b (.bY ([]++[]) (e'+1) Um)) b (.bY ([]++[]) (e'+1) Um) (Nw _) ⟨rfl,rfl,rfl,(by grind)⟩
            (λi hi=>bG _ _ hi) (aY V9) (λ_ _=>rfl)
            (λz hz=>by rw[V9] at hz;cases hz;exact⟨⟨RH _,λhh=>absurd hh (by omega),rfl⟩,λhh=>absurd hh (by simp[Qt])⟩)
            (λ_ _ _=>rfl) (λk c hk=>by grind) (λE=>by simp[Tl,U8])
           refine⟨_,_,l,gl ht hux Zj hs g1 g2,this.1,this.2,?_⟩
           simp only[Rel,NE]
           grind
          | cons r0 YR =>
           grind
         | some pr =>
          obtain⟨oR,cp0⟩:=pr
          simp only[U8,iY,Tl] at hv UG
          obtain⟨oo,cap,rfl,rfl,hvl⟩:=hv
          obtain⟨o2',cc,rc,c,T,fr,Ya,o1,o2,o3,o4,o5,o6,pr,rest,o0,o7⟩:=UG
          obtain⟨rfl,rfl⟩:=cI rc
          by_cases hfit:es.length+rows.length<=cap
          ·obtain⟨p1,p2⟩:=pre ha
           obtain⟨g1,nw,g2,g3⟩:=cJ (P:=P) R rx WT p1
           have hnl:nw.length=rows.length*Um:=by rw[<-g3.length,aF p1]
           obtain⟨w',c',k1,k2,k3,k4,k5,k6⟩:=i9 (P:=P) (ty:=ty) (T:=T) ht hux Zj hs g1 g2 (mD g3 p2) hnl hfit o1 o4 o2
           have hyl:Ya.length=es.length*Um:=by rw[<-o6.length,aF o5]
           have hcz:c'.size=c.size:=by
            have hh:=congrArg List.length k5
            have Vs:c.toList.length=pr.length+Ya.length+rest.length:=by rw[o7];simp only[Oq]
            have h9:=OH Um hfit
            rw[PF] at h9
            simp only[bo,Oq,Px,Ph,OZ] at hh Vs
            omega
           have:=R.step (w':=w') (l':=l) (h':=h.set b (.bY (es++rows) (e'+1) Um)) b (.bY (es++rows) (e'+1) Um) (by omega) k6
            (λi hi=>bG _ _ hi) (aY V9) (λ_ _=>rfl)
            (λz hz=>by rw[V9] at hz;cases hz;exact⟨⟨RH _,λhh=>absurd hh (by omega),rfl⟩,λhh=>absurd hh (by simp[Qt])⟩)
            (λk hk Ve=>k3 k (λee=>Ve _ (X9 oo cap) V9 (by simp) (by rw[U8,ee])))
            (λk cc hk=>.inl ⟨_,cc,V9,by simp,hk⟩)
            (λE=>by
             simp only[Tl,U8]
             refine⟨oo,cap,rfl,c',T,fr,Ya++nw,k4,by omega,by grind,by grind,?_,?_,pr,rest.drop nw.length,o0,?_⟩
             ·grind
             ·rw[Pl];exact(E.Ur o6).append (E.Ur g3)
             ·rw[k5,o7]
              unfold bo
              have e1:oo+es.length*Um=(pr++Ya).length:=by rw[Oq];omega
              rw[e1,Sa,Rm]
              ·simp
              ·rfl)
           refine⟨_,w',l,k1,this.1,this.2,?_⟩
           simp[Rel,NE]
           refine⟨rfl,?_⟩
           rw[aY V9]
           simp only[U8,iY]
           grind
          grind
       ·simp at hd
end
section
variable {P:Program}{Γ:ao}{O:Nat->Prop}{w:World}{l:Loc}{h:List iN}
theorem aw{av:Nat->Prop}{x y:Value}(r:Rel w av l h (.p (.v x)) y):y=x:=by grind [Rel,TB]
theorem eqS_eq(a b:ByteArray):(a.toList==b.toList)=η a b:=by simp[η,R9]
theorem ja{op:BinOp}{k:IntKind}{a b n:Int}(hb:Ai op k a b=G n)(w:World):(Op.intBits op k a b).run P w=.ok (.int k n) w:=by unfold Ai at hb;cases op<;>simp only[MS,reduceCtorEq] at hb<;>subst hb<;>rfl
theorem zab{op:BinOp}{k:IntKind}{t:TypeId}{a b:Int}{d:D}(hd:zbm op k a b=G (J,d))(w:World):∃v,(binOp op t (.int k a) (.int k b)).run P w=.ok v w/\Rel w (On O l h) l h d v:=by
 cases op<;>simp only[zbm,MS,MV,true_and,M0] at hd;case quo=>obtain⟨h1,rfl⟩:=hd;simp at h1;exact⟨_,by simp[binOp,Op.intDiv,h1],T7 _ _ _ _ _⟩
 case rem=>obtain⟨h1,rfl⟩:=hd;simp at h1;exact⟨_,by simp[binOp,Op.intDiv,h1],T7 _ _ _ _ _⟩
 case add=>subst hd;exact⟨_,by simp[binOp,RN],T7 _ _ _ _ _⟩
 case sub=>subst hd;exact⟨_,by simp[binOp,RN],T7 _ _ _ _ _⟩
 case mul=>subst hd;exact⟨_,by simp[binOp,RN],T7 _ _ _ _ _⟩
 case eql=>subst hd;exact⟨_,by simp[binOp,Re],T7 _ _ _ _ _⟩
 case neq=>subst hd;exact⟨_,by simp[binOp,Re],T7 _ _ _ _ _⟩
 case lss=>subst hd;exact⟨_,by simp[binOp,Re],T7 _ _ _ _ _⟩
 case leq=>subst hd;exact⟨_,by simp[binOp,Re],T7 _ _ _ _ _⟩
 case gtr=>subst hd;exact⟨_,by simp[binOp,Re],T7 _ _ _ _ _⟩
 case geq=>subst hd;exact⟨_,by simp[binOp,Re],T7 _ _ _ _ _⟩
 case and=>obtain⟨n,h1,rfl⟩:=hd;exact⟨_,by simpa[binOp] using ja h1 w,T7 _ _ _ _ _⟩
 case or=>obtain⟨n,h1,rfl⟩:=hd;exact⟨_,by simpa[binOp] using ja h1 w,T7 _ _ _ _ _⟩
 case xor=>obtain⟨n,h1,rfl⟩:=hd;exact⟨_,by simpa[binOp] using ja h1 w,T7 _ _ _ _ _⟩
 case andNot=>obtain⟨n,h1,rfl⟩:=hd;exact⟨_,by simpa[binOp] using ja h1 w,T7 _ _ _ _ _⟩
 all_goals grind [Ai]
theorem Al{op:BinOp}{t:TypeId}{a b:ByteArray}{d:D}(hd:zaO op a b=G (J,d))(w:World):∃v,(binOp op t (.string a) (.string b)).run P w=.ok v w/\Rel w (On O l h) l h d v:=by
 cases op<;>simp only[zaO,MS,MV,true_and,reduceCtorEq] at hd;case add=>
  obtain⟨h1,rfl⟩:=hd;have h2:¬(((a.size+b.size:Nat):Int)>MM.max):=by have:MM.max=9223372036854775807:=rfl;rw[this];simp only[decide_eq_true_eq] at h1;omega
  exact⟨_,by simp only[binOp,Op.stringOp,h2,if_false];rfl,T7 _ _ _ _ _⟩
 all_goals
  subst hd
  refine⟨_,by simp only[binOp,Op.stringOp,R9];rfl,T7 _ _ _ _ _⟩
theorem yU{op:BinOp}{t:TypeId}{xo yo:Operand}{x y d:D}{a b:Value}(rx:Rel w (On O l h) l h x a)(ry:Rel w (On O l h) l h y b)(hd:binD op x y=G (J,d)):∃v,(do eqGuard op t xo yo a b;binOp op t a b:Sem Value).run P w=.ok v w/\Rel w (On O l h) l h d v:=by
 unfold binD at hd;split at hd
 ·rename_i k n k' m;obtain rfl:=aw rx;obtain rfl:=aw ry;have hg:(eqGuard op t xo yo (.int k n) (.int k' m)).run P w=.ok () w:=by unfold eqGuard;cases op<;>simp
  simp[hg];split at hd;·simp at hd;obtain⟨h1,rfl⟩:=hd;exact⟨_,by simp[binOp,Op.shift,PT.2 h1],T7 _ _ _ _ _⟩
  ·simp at hd;obtain⟨h1,rfl⟩:=hd;exact⟨_,by simp[binOp,Op.shift,PT.2 h1],T7 _ _ _ _ _⟩
  ·split at hd;·rename_i hk;subst hk;exact zab hd w
   ·simp at hd
 ·rename_i s u;obtain rfl:=aw rx;obtain rfl:=aw ry;have hg:(eqGuard op t xo yo (.string s) (.string u)).run P w=.ok () w:=by unfold eqGuard;cases op<;>simp
  simp[hg];exact Al hd w
 ·simp at hd
theorem Am{op:UnOp}{x d:D}{a:Value}(rx:Rel w (On O l h) l h x a)(hd:unD op x=G d):∃v,(Tb op a).run P w=.ok v w/\Rel w (On O l h) l h d v:=by
 unfold unD at hd;split at hd
 ·obtain rfl:=aw rx;split at hd;·cases hd;exact⟨_,by simp[Tb,RN],T7 _ _ _ _ _⟩
  ·simp at hd;obtain⟨n,h1,rfl⟩:=hd;exact⟨_,by simpa[Tb] using ja h1 w,T7 _ _ _ _ _⟩
  ·simp at hd
 ·obtain rfl:=aw rx;split at hd;·cases hd;exact⟨_,by simp[Tb],T7 _ _ _ _ _⟩
  ·simp at hd
 ·simp at hd
theorem vd{c x y d:D}{vc vx vy:Value}(rc:Rel w (On O l h) l h c vc)(rx:Rel w (On O l h) l h x vx)(ry:Rel w (On O l h) l h y vy)(hd:Wz c x y=G (J,d)):∃v,(do pure (.value (if <-asBool vc then vx else vy)):Sem Next).run P w=.ok (.value v) w/\Rel w (On O l h) l h d v:=by
 unfold Wz at hd;split at hd;case h_2=>simp at hd
 rename_i b;obtain rfl:=aw rc;split at hd
 ·cases hd;obtain rfl:=aw rx;obtain rfl:=aw ry;cases b;·exact⟨_,by simp[asBool],T7 _ _ _ _ _⟩
  ·exact⟨_,by simp[asBool],T7 _ _ _ _ _⟩
 ·simp at hd;obtain⟨hg,rfl⟩:=hd;obtain rfl:=aw rx;cases b;·simp[Rel] at ry;have:=ry.1 (by simpa using hg);simp[TB] at this;subst this;exact⟨_,by simp[asBool],T7 _ _ _ _ _⟩
  ·exact⟨_,by simp[asBool],T7 _ _ _ _ _⟩
 ·simp only[MS,MV,Sb] at hd;obtain⟨hg,rfl⟩:=hd;obtain rfl:=aw ry;cases b;·exact⟨_,by simp[asBool],T7 _ _ _ _ _⟩
  ·simp[Rel] at rx;have:=rx.1 (by simpa using hg);simp[TB] at this;subst this;exact⟨_,by simp[asBool],T7 _ _ _ _ _⟩
 ·cases hd;cases b;·exact⟨_,by simp[asBool],ry⟩
  ·exact⟨_,by simp[asBool],rx⟩
theorem ve{src dst:TypeId}{x d:D}{a:Value}(rx:Rel w (On O l h) l h x a)(hd:H5 P src dst x=G d):∃v,(convert src dst a).run P w=.ok v w/\Rel w (On O l h) l h d v:=by
 unfold H5 at hd;split at hd;·rename_i s k n h1 h2;cases hd;obtain rfl:=aw rx;refine⟨_,?_,T7 _ _ _ _ _⟩;simp[convert,Tj h1,Tj h2,Conv.intToInt]
 ·rename_i s n h1 h2;cases hd;obtain rfl:=aw rx;refine⟨_,?_,T7 _ _ _ _ _⟩;simp only[convert,Ni,Tj h1,Tj h2,M6];cases s<;>simp
 ·simp at hd
theorem fu{mx:Bool}{t:TypeId}{ts:Array TypeId}:∀{xs:List D} {x d:D} {a:Value} {vs:List Value} (_:Rel w (On O l h) l h x a) (_:AT w (On O l h) l h xs vs) (_:j2 mx x xs=G d),∃v,(vs.foldlM (if mx then Builtin.max2 else Builtin.min2) a).run P w=.ok v w/\Rel w (On O l h) l h d v
 | [],x,d,a,[],rx,_,hd=>by simp[j2] at hd;simp_all
 |y::xs,x,d,a,v::vs,rx,rl,hd=>by
  simp[AT] at rl;simp only[j2] at hd;cases h1:TY x with
  |none=>simp[h1] at hd
  |some p1=>
   cases h2:TY y with
   |none=>grind
   |some p2=>obtain⟨k,n⟩:=p1;obtain⟨k2,m⟩:=p2;simp only[h1,h2] at hd;obtain rfl:=bp rx h1;obtain rfl:=bp rl.1 h2;obtain⟨v,h3,h4⟩:=fu (t:=t) (ts:=ts) (a:=.int k (if mx then (if m>n then m else n) else (if m<n then m else n))) (T7 _ _ _ _ _) rl.2 hd;grind [Ni,Builtin.max2,Builtin.min2]
 | [],_,_,_,_::_,_,rl,_=>by simp[AT] at rl
 |_::_,_,_,_,[],_,rl,_=>by simp[AT] at rl
theorem yV{x:D}{y:Value}{n:Nat}(rx:Rel w (On O l h) l h x y)(hx:j0 h x=G n):∃a c,y=.slice a n c:=by
 cases x with
 |p dp=>
  cases dp with
  |v x=>obtain rfl:=aw rx;grind [j0]
  |sl es=>grind [j0,MS,Rel,TB]
 |WK es=>grind [j0,MS,Rel]
 |ref r=>
  obtain⟨g1,hr⟩:=rx;cases r with
  |bY b e=>
   simp[j0] at hx hr;cases hb:h[b]? with
   |none=>simp[hb] at hx
   |some bx=>
    cases bx<;>simp only[hb,reduceCtorEq] at hx hr;split at hx;case isFalse=>simp at hx
    rename_i he;cases hx;have hv:=hr.2 he.symm;cases U8:l b with
    |none=>simp only[U8,iY] at hv;grind
    |some pr=>obtain⟨oR,cap⟩:=pr;simp[U8,iY] at hv;grind
  |vs b e i m c=>simp only[j0] at hx hr;grind
  |av b off m sz=>simp only[j0] at hx hr;grind
  |_=>simp[j0] at hx
 |_=>simp[j0] at hx
theorem gm:∀(U1:List (D×D×Nat)) (es:List MapEntry),Tk w (On O l h) l h U1 es->U1.length=es.length
 | [],[],_=>rfl
 |(_,_,_)::U1,e::es,r=>by simp[Tk] at r;simp[gm U1 es r.2.2.2]
 | [],_::_,r=>by simp[Tk] at r
 |_::_,[],r=>by simp[Tk] at r
theorem vf(R:TL Γ O w l h){t ty:TypeId}{ts:List TypeId}{x d:D}{y:Value}(rx:Rel w (On O l h) l h x y)(hd:sM P h t x=G d):∃v,(PY (t::ts).toArray ty #[y]).run P w=.ok v w/\Rel w (On O l h) l h d v:=by
 unfold sM at hd;cases hu:P.underlying t with
 |none=>simp[hu] at hd
 |some u=>
  cases u<;>simp only[hu,reduceCtorEq,M0,MS] at hd;case array n e=>subst hd;exact⟨_,by simp[PY,Tj hu,goInt],T7 _ _ _ _ _⟩
  case string=>
   split at hd;·cases hd;obtain rfl:=aw rx;exact⟨_,by simp[PY,Tj hu,goInt],T7 _ _ _ _ _⟩
   ·simp at hd
  case slice e=>obtain⟨n,h1,rfl⟩:=hd;obtain⟨a,c,rfl⟩:=yV rx h1;exact⟨_,by simp[PY,Tj hu,goInt],T7 _ _ _ _ _⟩
  case map kt et=>
   split at hd;·cases hd;obtain rfl:=aw rx;exact⟨_,by simp[PY,Tj hu,goInt],T7 _ _ _ _ _⟩
   ·rename_i b;cases hb:h[b]? with
    |none=>simp[hb] at hd
    |some bx=>
     obtain⟨_,hr⟩:=rx;cases bx<;>simp only[hb,reduceCtorEq,MS] at hd hr;subst hd;obtain⟨oR,cp,U8,rfl⟩:=hr;obtain⟨V4,X2,es,h1,h2,h3⟩:=R.oR b _ hb;obtain⟨rfl,rfl⟩:oR=V4/\cp=X2:=Tn
     refine⟨_,?_,T7 _ _ _ _ _⟩;simp[PY,Tj hu,getObj,Sem.run,h2,goInt,gm _ _ h3]
   ·simp at hd
end
section
variable {P:Program}{Γ:ao}{O:Nat->Prop}{w:World}{l:Loc}{h:List iN}
theorem mI:∀(vs:List Value) (k off:Nat) (cs:Array Value),off+k+vs.length<=cs.size -> ((vs.zipIdx k).foldl (λcs (p:Value×Nat)=>cs.setIfInBounds (off+p.2) p.1) cs).toList=bo cs.toList (off+k) vs
 | [],k,off,cs,_=>by simp[bo]
 | v::vs,k,off,cs,hl=>by
  simp at hl;simp;rw[mI vs (k+1) off (cs.setIfInBounds (off+k) v) (by simp;omega)];simp only[bo,Array.toList_setIfInBounds,List.length_cons];have IN:off+k<cs.toList.length:=by simp;omega
  rw[List.drop_set,if_pos (by omega)];have h8:(cs.toList.set (off+k) v).take (off+(k+1))=cs.toList.take (off+k)++[v]:=by rw[show off+(k+1)=(off+k)+1 by omega,List.take_succ_eq_append_getElem (by simpa using IN),List.take_set,List.set_eq_of_length_le (by simp;omega)];simp
  grind
theorem sO(vs:Array Value)(off:Nat)(cs:Array Value)(hl:off+vs.size<=cs.size):(vs.zipIdx.foldl (λcs (p:Value×Nat)=>cs.setIfInBounds (off+p.2) p.1) cs).toList=bo cs.toList off vs.toList:=by have:=mI vs.toList 0 off cs (by simpa using hl);grind [Array.toList_zipIdx]
theorem gO{place:Nat->Option (Nat×Nat)}:∀{ps:List (Nat×D)} {qs:List (Nat×Value)} {cs cs':List D} {vs:Array Value},ps.length=qs.length -> (∀(j:Nat) (p:Nat×D) (q:Nat×Value),ps[j]?=G p->qs[j]?=G q->p.1=q.1/\Rel w (On O l h) l h p.2 q.2)->AT w (On O l h) l h cs vs.toList->sD place cs ps=G cs' -> ∃τ,Instr.fill place vs qs=G τ/\AT w (On O l h) l h cs' τ.toList/\τ.size=vs.size
 | [],[],cs,cs',vs,_,_,r,hd=>by simp[sD] at hd;subst hd;exact⟨vs,rfl,r,rfl⟩
 |p::ps,q::qs,cs,cs',vs,hl,hp,r,hd=>by
  obtain⟨i,d⟩:=p;obtain⟨i',y⟩:=q;obtain⟨rfl,rd⟩:=hp 0 (i,d) (i',y) To To;simp[sD] at hd;cases hpl:place i with
  |none=>grind
  |some os=>
   obtain⟨off,size⟩:=os;cases hc:d.cells with
   |none=>grind
   |some new=>
    simp only[hpl,hc] at hd;split at hd;case isFalse=>simp at hd
    rename_i Zk;obtain⟨g1,g2⟩:=Zk;obtain⟨c1,c2⟩:=el rd hc;have hys:y.cells.size=size:=by rw[<-g1,c1.length];simp
    have Vs:=r.length;have hvs:vs.toList.length=vs.size:=To
    have hsp:=sO y.cells off vs TE;have rsp:AT w (On O l h) l h (bF cs off new) (y.cells.zipIdx.foldl (λcs (p:Value×Nat)=>cs.setIfInBounds (off+p.2) p.1) vs).toList:=by rw[hsp];exact r.Yw off c1
    obtain⟨τ,f1,f2,f3⟩:=gO (ps:=ps) (qs:=qs) (by simpa using hl) (λj p q h1 h2=>hp (j+1) p q (by simpa using h1) (by simpa using h2)) rsp hd;refine⟨τ,?_,f2,?_⟩;·simp only[Instr.fill,hpl];grind
    ·rw[f3];grind [bo,Oq,Px,Ph,OZ]
 | [],_::_,_,_,_,hl,_,_,_=>by simp at hl
 |_::_,[],_,_,_,hl,_,_,_=>by simp at hl
theorem yW{fields:List Field}{pl:List (Nat×Nat)}(hp:fields.mapM (λf=>(U2 P f.type).map λn=>(f.offset,n))=G pl)(w:World):(fields.mapM (λf=>(do pure (f.offset,<-sizeOf f.type):Sem (Nat×Nat)))).run P w=.ok pl w:=by
 induction fields generalizing pl with
 |nil=>simp_all
 |cons f fs ih=>simp only[Ss,Option.bind_eq_bind,Option.bind_eq_some_iff,M0,Option.pure_def,MS] at hp;obtain⟨p,⟨n,h1,rfl⟩,pl',h2,rfl⟩:=hp;have:=ih h2;simp only[Ss,Ni,TJ h1,M6,NN] at this ⊢;rw[this];simp
theorem sP{t:TypeId}{ps:List (Nat×D)}{qs:List (Nat×Value)}{d:D}(hl:ps.length=qs.length)(hp:∀(j:Nat) (p:Nat×D) (q:Nat×Value),ps[j]? = some p->qs[j]? = some q->p.1=q.1/\Rel w (On O l h) l h p.2 q.2) (hd:Ah P t ps=some d) :∃v,(Su t qs.toArray).run P w=.ok v w/\Rel w (On O l h) l h d v:=by
 unfold Ah at hd;cases hu:P.underlying t with
 | none=>simp[hu] at hd
 | some u =>
  cases hz:dR P t with
  | none=>grind
  | some z =>
   obtain⟨zv,hzv,rfl⟩:=d5 hz;cases u<;>simp only[hu,hz,reduceCtorEq] at hd;case struct fields =>
    cases hpl:wO P fields with
    | none=>grind
    | some pl =>
     simp[hpl] at hd;obtain⟨cs,h1,rfl⟩:=hd;obtain⟨τ,f1,f2,_⟩:=gO hl hp (AT.lits zv.cells.toList) h1;refine⟨.agg τ,?_,by grind [Rel]⟩;have hm:(fields.mapM (λf=>(do pure (f.offset,<-sizeOf f.type):Sem (Nat×Nat)))).run P w=.ok pl.toArray w:=by rw[<-Array.toArray_toList (xs:=fields)];rw[List.mapM_toArray];simp only[Sem.run_map,yW hpl w,M6]
     simp only[Su,Ni,Uo hzv,M6,Tj hu,hm];simp_all
   case array n e =>
    cases hs:U2 P e with
    | none=>simp[hs] at hd
    | some sz =>simp[hs] at hd;obtain⟨cs,h1,rfl⟩:=hd;obtain⟨τ,f1,f2,_⟩:=gO hl hp (AT.lits zv.cells.toList) h1;refine⟨.agg τ,?_,by grind [Rel]⟩;simp[Su,Uo hzv,Tj hu,TJ hs,f1]
theorem jb{z:Array Value}{sz:Nat}(hz:z.size=sz):∀n,(List.range (n*sz)).map (λi=>z[i % z.size]!)=(MU n z.toList).flatten
 |0=>To
 |n+1=>by
  rw[Nat.succ_mul,List.range_add,List.map_append,jb hz n,List.replicate_succ',Pl];congr 1;rw[List.map_map];apply List.ext_getElem;·simp[hz]
  ·intro i h1 h2;simp at h1;have:(n*sz+i) % sz=i:=by rw[Nat.add_comm,Nat.add_mul_mod_self_right,Nat.mod_eq_of_lt h1]
   grind
theorem lX{z:List Value}:∀n,AT w (On O l h) l h (MU n (z.map lit)).flatten (MU n z).flatten
 |0=>by simp[AT]
 |n+1=>by simp[List.replicate_succ];exact(AT.lits z).append (lX n)
theorem jc{t e:TypeId}(Zu:eX P t=G e):P.underlying t=G (.slice e):=by unfold eX at Zu;grind
theorem j3(R:TL Γ O w l h){t:TypeId}{len:Nat}{ps:List (Nat×D)}{qs:List (Nat×Value)}{d:D}{h':List iN}(hl:ps.length=qs.length)(hp:∀(j:Nat) (p:Nat×D) (q:Nat×Value),ps[j]?=G p->qs[j]?=G q->p.1=q.1/\Rel w (On O l h) l h p.2 q.2)(hd:em P h t len ps=G (d,h')) :∃v w' l',(Ru t len qs.toArray).run P w=.ok v w'/\TL Γ O w' l' h'/\Ext w l h w' l' h'/\Rel w' (On O l' h') l' h' d v:=by
 unfold em at hd;cases Zu:eX P t with
 |none=>grind
 |some e=>
  have ht:=jc Zu;cases hs:U2 P e with
  |none=>grind
  |some sz=>
   cases hz:dR P e with
   |none=>grind
   |some z=>
    obtain⟨zv,hzv,rfl⟩:=d5 hz;simp only[Zu,hs,hz] at hd;split at hd;case isFalse=>simp at hd
    rename_i hc;obtain⟨g1,g2⟩:=hc;have hzs:zv.cells.size=sz:=by simpa using g1
    cases hf:sD (λi=>G (i*sz,sz)) (MU len (zv.cells.toList.map lit)).flatten ps with
    |none=>simp[hf] at hd
    |some cs=>
     simp[hf] at hd;obtain⟨rfl,rfl⟩:=hd;have YB:AT w (On O l h) l h (MU len (zv.cells.toList.map lit)).flatten ((Pk (len*sz)).map (λi=>zv.cells[i % zv.cells.size]!)).toList:=by rw[QD,Rf,jb hzs];exact lX len
     obtain⟨τ,f1,f2,f3⟩:=gO hl hp YB hf;have hvs:τ.size=len*sz:=by rw[f3];simp
     have Vs:cs.length=len*sz:=by rw[f2.length];simp[hvs]
     obtain⟨c1,c2,c3⟩:=i8 (n:=sz) len cs Tn;rw[O1 Tn] at c1;obtain⟨l',k7,k8,k9⟩:=gN R w ⟨rfl,rfl,rfl,rfl,Nw _⟩ e τ (chunk sz len cs) sz len τ.toList [] To hvs TE c2 Tn;refine⟨.slice (G ⟨w.heap.size,0,Y⟩) len len,_,l',?_,k7,k8,Tn⟩;have hbig:¬(len*sz>2 ^ 24):=TE
     by_cases h0:len*sz=0
     ·have e0:(Pk (len*sz)).map (λi=>zv.cells[i % zv.cells.size]!)=(Pk (len*sz)).map (λi=>(#[]:Array Value)[i % 0]!):=by rw[h0];simp
      rw[e0] at f1;simp only[Ru,Ni,Tj ht,M6,TJ hs,Sem.run_ite,h0,if_true,NN] at f1 ⊢;simp only[List.size_toArray,Q3,f1,newRow,Ni,run_newObj,M6,NN,World.alloc_eq];grind
     ·simp[Ru,Tj ht,TJ hs,hbig,h0,Uo hzv,f1,newRow]
theorem vg(R:TL Γ O w l h){t:TypeId}{x y d:D}{a b:Value}{h':List iN}(rx:Rel w (On O l h) l h x a)(ry:Rel w (On O l h) l h y b)(hd:qL P h t x y=some (true,d,h')):∃v w' l',(PD t a b).run P w=.ok v w'/\TL Γ O w' l' h'/\Ext w l h w' l' h'/\Rel w' (On O l' h') l' h' d v:=by
 unfold qL at hd;cases Zu:eX P t with
 | none=>grind
 | some e =>
  have ht:=jc Zu;cases h1:TY x with
  | none=>grind
  | some p1 =>
   cases h2:TY y with
   | none=>grind
   | some p2 =>
    obtain⟨k1,n⟩:=p1;obtain⟨k2,c⟩:=p2;obtain rfl:=bp rx h1;obtain rfl:=bp ry h2;simp[Zu,h1,h2] at hd;cases hs:U2 P e with
    | none=>simp[hs] at hd
    | some sz =>
     cases hb:bytesOf P e with
     | none=>grind
     | some by' =>
      cases hz:dR P e with
      | none=>grind
      | some z =>
       obtain⟨zv,hzv,rfl⟩:=d5 hz;simp only[hs,hb,hz] at hd;split at hd;case isFalse=>simp at hd
       rename_i g1;have hzs:zv.cells.size=sz:=by simpa using g1
       simp at hd;obtain⟨⟨⟨⟨q1,q2⟩,q3⟩,q4⟩,rfl,rfl⟩:=hd;obtain⟨i,hi,hib⟩:=ip hb;have hwn:MM.wrap n=n:=QE _ (by omega);have hwc:MM.wrap c=c:=QE _ (by omega)
       obtain⟨l',k7,k8,k9⟩:=gN R w ⟨rfl,rfl,rfl,rfl,Nw _⟩ e ((Pk (c.toNat*sz)).map (λi=>zv.cells[i % zv.cells.size]!)) (MU n.toNat (zv.cells.toList.map lit)) sz c.toNat
        (MU n.toNat zv.cells.toList).flatten (MU (c.toNat-n.toNat) zv.cells.toList).flatten
        (by rw[QD,Rf,jb hzs,<-Pl,List.replicate_append_replicate];congr 2;omega) (by simp) (by simp;omega)
        (by grind) (lX _)
       refine⟨.slice (some ⟨w.heap.size,0,none⟩) n.toNat c.toNat,_,l',?_,k7,k8,by simpa using k9⟩;have hti:(typeInfo e).run P w=.ok i w:=by simp[typeInfo,hi]
       have t1:¬(c<0\/281474976710656<(i.bytes:Int)*c):=by rw[hib];rw[Int.mul_comm] at q3;omega
       have e0:c.toNat*sz=0->(Pk (c.toNat*sz)).map (λi=>zv.cells[i % zv.cells.size]!)=(Pk (c.toNat*sz)).map (λi=>(#[]:Array Value)[i % 0]!):=λh0=>by rw[h0];simp
       by_cases h0:c.toNat*sz=0;·rw[e0 h0];simp[PD,Tj ht,asInt,asIntOf,hti,hwn,hwc,q1,PT.2 q1,PT.2 q2,TJ hs,h0,newRow];grind
       ·simp[PD,Tj ht,asInt,asIntOf,hti,hwn,hwc,q1,PT.2 q1,PT.2 q2,TJ hs,h0,newRow,Uo hzv];grind
theorem oW(R:TL Γ O w l h){t:TypeId}{x y d:D}{a b:Value}{h':List iN}(rx:Rel w (On O l h) l h x a)(ry:Rel w (On O l h) l h y b)(hd:lW P h t x y=some (true,d,h')):∃v w' l',(PD t a b).run P w=.ok v w'/\TL Γ O w' l' h'/\Ext w l h w' l' h'/\Rel w' (On O l' h') l' h' d v:=by
 unfold lW at hd;cases Zu:eX P t with
 | none=>grind
 | some e =>
  have ht:=jc Zu;cases h1:TY x with
  | none=>grind
  | some p1 =>
   cases h2:TY y with
   | none=>grind
   | some p2 =>
    obtain⟨k1,n⟩:=p1;obtain⟨k2,c⟩:=p2;obtain rfl:=bp rx h1;obtain rfl:=bp ry h2;simp[Zu,h1,h2] at hd;cases hs:U2 P e with
    | none=>simp[hs] at hd
    | some sz =>
     cases hb:bytesOf P e with
     | none=>grind
     | some by' =>
      cases hz:dR P e with
      | none=>grind
      | some z =>
       obtain⟨zv,hzv,rfl⟩:=d5 hz;simp only[hs,hb,hz] at hd;split at hd;case isFalse=>simp at hd
       rename_i g1;have hzs:zv.cells.size=sz:=by simpa using g1
       simp at hd;obtain⟨⟨⟨⟨q0,q2⟩,q3⟩,q4⟩,rfl,rfl⟩:=hd;have q1:0<=n:=by omega
       obtain⟨i,hi,hib⟩:=ip hb;have hwn:MM.wrap n=n:=QE _ (by omega);have hwc:MM.wrap c=c:=QE _ (by omega)
       obtain⟨l',k7,k8,k9⟩:=gN R w ⟨rfl,rfl,rfl,rfl,Nw _⟩ e ((Pk (c.toNat*sz)).map (λi=>zv.cells[i % zv.cells.size]!)) (MU c.toNat (zv.cells.toList.map lit)) sz c.toNat
        (MU c.toNat zv.cells.toList).flatten []
        (by rw[QD,Rf,jb hzs];simp) (by simp) (by simp)
        (by grind) (lX _)
       have k10:Rel (w.alloc (.cells ((Pk (c.toNat*sz)).map (λi=>zv.cells[i % zv.cells.size]!)) e)) (On O l' (h++[.bY (MU c.toNat (zv.cells.toList.map lit)) 0 sz])) l' (h++[.bY (MU c.toNat (zv.cells.toList.map lit)) 0 sz]) (.ref (.vs h.length 0 0 n.toNat (some c.toNat))) (.slice (some ⟨w.heap.size,0,none⟩) n.toNat c.toNat):=by
        obtain⟨g1,g2⟩:=k9;have Xt:(h++[iN.bY (MU c.toNat (zv.cells.toList.map lit)) 0 sz])[h.length]? = some (iN.bY (MU c.toNat (zv.cells.toList.map lit)) 0 sz):=by simp
        refine⟨rfl,?_⟩;simp only[Xt] at g2 ⊢;have hv:=g2.2 trivial;refine⟨Nw _,λ_=>⟨by simp;omega,?_⟩⟩;cases hlo:l' h.length with
        | none =>simp only[hlo,iY,List.length_replicate] at hv;omega
        | some pr =>obtain⟨oR,cp⟩:=pr;simp only[hlo,iY] at hv;obtain⟨o,cap,rfl,hv,hle⟩:=hv;cases hv;refine⟨_,_,_,c.toNat,rfl,.inl (by simp),by omega,by omega,λk hk=>by cases hk;rfl⟩
       refine⟨.slice (some ⟨w.heap.size,0,none⟩) n.toNat c.toNat,_,l',?_,k7,k8,k10⟩;have hti:(typeInfo e).run P w=.ok i w:=by simp[typeInfo,hi]
       have t1:¬(c<0\/281474976710656<(i.bytes:Int)*c):=by rw[hib];rw[Int.mul_comm] at q3;omega
       have e0:c.toNat*sz=0->(Pk (c.toNat*sz)).map (λi=>zv.cells[i % zv.cells.size]!)=(Pk (c.toNat*sz)).map (λi=>(#[]:Array Value)[i % 0]!):=λh0=>by rw[h0];simp
       by_cases h0:c.toNat*sz=0;·rw[e0 h0];simp[PD,Tj ht,asInt,asIntOf,hti,hwn,hwc,q1,(show ¬n<0 by omega),PT.2 q2,TJ hs,h0,newRow];grind
       ·simp[PD,Tj ht,asInt,asIntOf,hti,hwn,hwc,q1,(show ¬n<0 by omega),PT.2 q2,TJ hs,h0,newRow,Uo hzv];grind
end
section
variable {P:Program}{Γ:ao}{O:Nat->Prop}{w:World}{l:Loc}{h:List iN}
def lY(M:Option Int)(c:Nat):Nat:=match M with|none=>c|some m=>m.toNat
@[simp] theorem mJ (c : Nat) : lY Y c = c := rfl
@[simp] theorem dI (m : Int) (c : Nat) : lY (G m) c = m.toNat := rfl
def iZ(w:World)(av:Nat->Prop)(l:Loc)(h:List iN):Option D->Option Value->Prop
 |none,none=>True
 |some d,some v=>Rel w av l h d v
 |_,_=>False
theorem Vt{lo:Option D}{v:Option Value}{L:Int}{dflt:Int}(r:iZ w (On O l h) l h lo v)(hb:cA lo dflt=G L):(v=Y/\lo=Y/\L=dflt)\/∃k,v=G (.int k L):=by
 cases lo with
 |none=>grind [cA,MS,iZ]
 |some d=>
  cases v with
  |none=>simp[iZ] at r
  |some x=>simp only[cA,M0] at hb;obtain⟨⟨k,m⟩,h1,h2⟩:=hb;simp only at h2;subst h2;exact .inr ⟨k,by rw[bp r h1]⟩
theorem eo{b:Bool}{n c:Nat}{lo hi mx:Option D}{vl vh vm:Option Value}{L U:Int}{M:Option Int}(rl:iZ w (On O l h) l h lo vl)(rh:iZ w (On O l h) l h hi vh)(rm:iZ w (On O l h) l h mx vm)(hl:cA lo 0=G L)(hu:cA hi n=G U)(hm:Aa mx=G M)(ok:oO L U n=J)(YU:fp U n M=J)(ok3:(M.isNone||hi.isSome)=J)(hnc:n<=c) :(Ox b n c vl vh vm).run P w=.ok (L.toNat,U.toNat,(lY M c)) w:=by
 simp[oO] at ok;obtain⟨⟨o1,o2⟩,o3⟩:=ok;have hlow:∀code (y:Nat),U<=y->(match vl with|some v=>PQ v U.toNat code|none=>pure 0:Sem Nat).run P w=.ok L.toNat w:=by
  intro code y _;rcases Vt rl hl with ⟨rfl,_,rfl⟩|⟨k,rfl⟩
  ·simp
  ·exact run_sliceBound w k L U.toNat code o1 TE
 cases mx with
 |none=>
  cases vm with
  |some x=>simp[iZ] at rm
  |none=>
   simp[Aa] at hm;subst hm;rcases Vt rh hu with ⟨rfl,_,rfl⟩|⟨k,rfl⟩
   ·rcases Vt rl hl with ⟨rfl,_,rfl⟩|⟨k2,rfl⟩;·simp[Ox]
    ·simp[Ox,run_sliceBound w k2 L n _ o1 TE]
   ·have hU:∀code,(PQ (.int k U) c code).run P w=.ok U.toNat w:=λcode=>run_sliceBound w k U c code TE TE;rcases Vt rl hl with ⟨rfl,_,rfl⟩|⟨k2,rfl⟩
    ·simp[Ox,hU]
    ·simp[Ox,hU,run_sliceBound w k2 L U.toNat _ o1 TE]
 |some m=>
  cases vm with
  |none=>simp[iZ] at rm
  |some x=>
   simp only[Aa,M0] at hm;obtain⟨⟨km,mv⟩,h1,rfl⟩:=hm;have hx:=bp rm h1;subst hx;simp[fp] at YU;have hM:∀code,(PQ (.int km mv) c code).run P w=.ok mv.toNat w:=λcode=>run_sliceBound w km mv c code TE TE;rcases Vt rh hu with ⟨rfl,hi0,_⟩|⟨k,rfl⟩
   ·grind
   ·have hU:∀code,(PQ (.int k U) mv.toNat code).run P w=.ok U.toNat w:=λcode=>run_sliceBound w k U _ code TE TE;rcases Vt rl hl with ⟨rfl,_,rfl⟩|⟨k2,rfl⟩
    ·simp[Ox,hM,hU]
    ·simp[Ox,hM,hU,run_sliceBound w k2 L U.toNat _ o1 TE]
theorem Tu.drop{av:Nat->Prop}{oR sz:Nat}:∀{es:List (List Dp)} {off:Nat} (n:Nat),Tu w av oR sz off es->Tu w av oR sz (off+n*sz) (es.drop n)
 | [],_,n,_=>by simp[Tu]
 | e::es,off,0,r=>by simpa using r
 | e::es,off,n+1,r=>by simp[Tu] at r;rw[List.drop_succ_cons,show off+(n+1)*sz=off+sz+n*sz by grind];exact Tu.drop n r.2.2
theorem Tu.take{av:Nat->Prop}{oR sz:Nat}:∀{es:List (List Dp)} {off:Nat} (n:Nat),Tu w av oR sz off es->Tu w av oR sz off (es.take n)
 | [],_,n,_=>by simp[Tu]
 |e::es,off,0,r=>by simp[Tu]
 |e::es,off,n+1,r=>by simp[Tu] at r ⊢;exact⟨r.1,r.2.1,Tu.take n r.2.2⟩
theorem An{t e:TypeId}{sz n c:Nat}{base:Option Addr}{lo hi mx:Option D}{vl vh vm:Option Value}{L U:Int}{M:Option Int}(ht:P.underlying t=G (.slice e))(hs:U2 P e=G sz)(rl:iZ w (On O l h) l h lo vl)(rh:iZ w (On O l h) l h hi vh)(rm:iZ w (On O l h) l h mx vm)(hl:cA lo 0=G L)(hu:cA hi n=G U)(hm:Aa mx=G M)(ok:oO L U n=J)(YU:fp U n M=J)(ok3:(M.isNone||hi.isSome)=J)(hnc:n<=c) :(OP t (.slice base n c) vl vh vm).run P w=.ok (.slice (if (lY M c)=L.toNat then base else base.map (·.add (L.toNat*sz))) (U.toNat-L.toNat) ((lY M c)-L.toNat)) w:=by simp[OP,Tj ht,RB,eo (P:=P) (b:=J) rl rh rm hl hu hm ok YU ok3 hnc,TJ hs]
theorem wW{es:List (List Dp)}{oR off sz sz0:Nat}{L U:Nat}(rr:Tu w (On O l h) oR sz0 off es)(UI:es.all (λr=>Zd (r.length=sz))=true)(h1:L<=U)(h2:U<=es.length)(m:Nat)(hm:U<=m):Rel w (On O l h) l h (.p (.sl ((es.drop L).take (U-L)))) (.slice (if m=L then some ⟨oR,off,none⟩ else (some (⟨oR,off,none⟩:Addr)).map (·.add (L*sz))) (U-L) (m-L)) /\ (m=U->Rel w (On O l h) l h (.WK ((es.drop L).take (U-L))) (.slice (if m=L then some ⟨oR,off,none⟩ else (some (⟨oR,off,none⟩:Addr)).map (·.add (L*sz))) (U-L) (m-L))):=by
 have hlen:((es.drop L).take (U-L)).length=U-L:=by simp;omega
 have WT:es≠[]->sz0=sz:=by
  intro UQ;cases es with
  | nil=>grind
  | cons e0 es0 =>simp[Tu] at rr;grind
 by_cases hmL:m=L
 ·have:U=L:=by omega
  subst this;simp only[hmL,if_true,Nat.sub_self,List.take_zero];grind [Rel,TB,Tu]
 ·simp[hmL];have hr2:Tu w (On O l h) oR sz (off+L*sz) ((es.drop L).take (U-L)):=by
   by_cases UQ:es=[];·grind [Tu]
   ·have:=WT UQ;subst this;exact(rr.drop L).take _
  refine⟨?_,λhmu=>?_⟩;·simp only[Rel,TB];exact .inr ⟨oR,off+L*sz,m-L,sz,by rw[hlen],by grind,hr2⟩
  ·subst hmu;simp only[Rel];grind
theorem yY{U:Int}{M:Option Int}(hc:bM U M=J):M=G U:=by
 cases M with
 |none=>simp[bM] at hc
 |some m=>simp[bM] at hc;rw[hc]
theorem mK{L U:Int}{n:Nat}(ok:oO L U n=J):0<=L/\L<=U/\U<=n/\L.toNat<=U.toNat/\U.toNat<=n:=by simp[oO] at ok;omega
theorem lZ{av:Nat->Prop}{x:Option Addr}{m:Nat}(cl:Bool)(Vs:cl=J->m=0)(hx:x=Y->m=0):Rel w av l h (cq cl []) (.slice x 0 m):=by
 cases cl;·simp only[cq,NV,if_false,Rel,TB];grind
 ·have:=Vs rfl;subst this;simp only[cq,if_true,Rel];grind
theorem eJ{av:Nat->Prop}{x:Option Addr}{m:Nat}(cl:Bool)(Vs:cl=J->m=0)(hx:x=Y->m=0)(_hsp:∀a,x=G a->a.spot=Y):Rel w av l h (cq cl []) (.slice x 0 m):=lZ cl Vs hx
theorem H6{c:Nat}{M:Option Int}{U:Int}(YU:fp U 0 M=J){a:Option Addr}{f:Addr->Addr}(ha:a=Y->c=0)(hx:(if lY M c=0 then a else a.map f)=Y):lY M c=0:=by
 split at hx;·assumption
 ·have hn:a=Y:=by cases a<;>simp_all
  have:=ha hn;subst this;cases M with
  |none=>rfl
  |some m=>simp only[fp,M3,decide_eq_true_eq] at YU;grind [dI]
theorem capOf{c U L n:Nat}{M:Option Int}{Ui:Int}(hU:Ui.toNat=U)(YU:fp Ui n M=J)(h1:L<=U)(h2:U<=n)(hnc:n<=c):L<=(lY M c)/\U<=(lY M c)/\(bM Ui M=J->(lY M c)=U):=by
 cases M with
 |none=>simp[bM];omega
 |some m=>simp[fp] at YU;refine⟨by grind [dI],by grind [dI],λhc=>?_⟩;have:=yY hc;simp_all
theorem sQ{c c2:Nat}{cl:Option Nat}{L U:Int}{M:Option Int}(Vs:∀k,cl=G k->c=k)(hM:bM U M=J->lY M c=U.toNat):∀k,i7 cl L U M=G k->lY M c-L.toNat=k:=by
 intro k hk;unfold i7 at hk;split at hk;·grind
 ·split at hk
  ·cases hcl':cl with
   |none=>grind
   |some k0=>simp_all
  ·simp at hk
theorem oX(R:TL Γ O w l h){t e:TypeId}{x d:D}{y:Value}{sz n:Nat}{L U:Int}{lo hi mx:Option D}{vl vh vm:Option Value}{M:Option Int}(rx:Rel w (On O l h) l h x y)(ht:P.underlying t=G (.slice e))(hs:U2 P e=G sz)(hn:j0 h x=G n)(rl:iZ w (On O l h) l h lo vl)(rh:iZ w (On O l h) l h hi vh)(rm:iZ w (On O l h) l h mx vm)(hl:cA lo 0=G L)(hu:cA hi n=G U)(hm:Aa mx=G M)(ok:oO L U n=J)(YU:fp U n M=J)(ok3:(M.isNone||hi.isSome)=J)(hd:U6 h x sz n L U M=G (J,d)):∃v,(OP t y vl vh vm).run P w=.ok v w/\Rel w (On O l h) l h d v:=by
 obtain⟨o1,o2,o3,o4,o5⟩:=mK ok;have run:∀(base:Option Addr) (c:Nat),n<=c->(OP t (.slice base n c) vl vh vm).run P w=.ok (.slice (if (lY M c)=L.toNat then base else base.map (·.add (L.toNat*sz))) (U.toNat-L.toNat) ((lY M c)-L.toNat)) w :=λbase c hnc=>An ht hs rl rh rm hl hu hm ok YU ok3 hnc;have cap:∀c,n<=c->_:=λc hnc=>capOf (c:=c) (L:=L.toNat) (n:=n) (M:=M) (Ui:=U) rfl YU o4 o5 hnc;cases x with
 |p dp=>
  cases dp with
  |v x=>
   obtain rfl:=aw rx;cases y<;>simp[U6] at hd;case slice a m c=>
    cases a<;>cases m<;>cases c<;>simp at hd;subst hd;simp[j0] at hn;subst hn;obtain⟨c1,c2,c3⟩:=cap 0 (Nw _);refine⟨_,run Y 0 (Nw _),?_⟩;have hU:U.toNat=0:=TE
    have hL:L.toNat=0:=TE
    have Xy:(lY M 0)=0:=by
     cases M with
     |none=>rfl
     |some m=>simp only[fp,M3,decide_eq_true_eq] at YU;grind [dI]
    rw[Xy,hU,hL];exact T7 _ _ _ _ _
  |sl es=>
   simp only[U6,MS,MV] at hd;obtain⟨UI,rfl⟩:=hd;simp[j0] at hn;subst hn;simp only[Rel,TB] at rx;rcases rx with ⟨rfl,a0,c0,rfl,ha0⟩|⟨oR,off,c,sz0,rfl,hc,rr⟩
   ·obtain⟨c1,c2,c3⟩:=cap c0 (Nat.zero_le _);refine⟨_,run a0 c0 (Nat.zero_le _),?_⟩;have hU:U.toNat=0:=by simp at o5;omega
    have hL:L.toNat=0:=TE
    simp only[hU,hL,Nat.sub_zero,List.drop_nil,List.take_nil] at c3 ⊢;exact lZ _ (λVs=>c3 Vs) (H6 (by simpa using YU) ha0)
   ·obtain⟨c1,c2,c3⟩:=cap c hc;refine⟨_,run _ c hc,?_⟩;obtain⟨p1,p2⟩:=wW (l:=l) (h:=h) (O:=O) rr UI o4 o5 _ c2;grind [cq]
 |WK es=>
  simp only[U6,MS,MV] at hd;obtain⟨UI,rfl⟩:=hd;simp[j0] at hn;subst hn;simp only[Rel] at rx;rcases rx with ⟨rfl,a0,rfl⟩|⟨oR,off,sz0,rfl,rr⟩
  ·obtain⟨c1,c2,c3⟩:=cap 0 (Nw _);refine⟨_,run a0 0 (Nw _),?_⟩;have hU:U.toNat=0:=by simp at o5;omega
   have hL:L.toNat=0:=TE
   have Xy:(lY M 0)=0:=by
    cases M with
    |none=>rfl
    |some m=>simp only[fp,M3,decide_eq_true_eq,Q3] at YU;grind [dI]
   rw[Xy,hU,hL];simp only[List.drop_nil,List.take_nil,if_true];exact lZ _ (λ_=>rfl) (λ_=>rfl)
  ·obtain⟨c1,c2,c3⟩:=cap es.length (Nw _);refine⟨_,run _ es.length (Nw _),?_⟩;obtain⟨p1,p2⟩:=wW (l:=l) (h:=h) (O:=O) rr UI o4 o5 _ c2;unfold cq;split;·rename_i Vs;simp at Vs;grind [mJ]
   ·exact p1
 |ref r=>
  have rx':=rx;obtain⟨g1,hr⟩:=rx;cases r with
  |bY b e' =>
   simp only[U6,j0] at hd hr hn;cases hb:h[b]? with
   |none=>simp[hb] at hd
   |some bx=>
    cases bx<;>simp only[hb,reduceCtorEq] at hd hr hn;rename_i es e2 Um;split at hd;case isFalse=>simp at hd
    rename_i he;obtain⟨rfl,rfl⟩:=he;simp at hn;subst hn;simp only[MS,MV,true_and] at hd;subst hd;have hv:=hr.2 rfl;cases U8:l b with
    |none=>
     have UG:=R.oR b _ hb;simp only[U8,iY,Tl] at hv UG;obtain⟨_,rfl⟩:=hv;subst UG;obtain⟨c1,c2,c3⟩:=cap 0 (Nw _);refine⟨_,run Y 0 (Nw _),?_⟩;have hU:U.toNat=0:=by simp at o5;omega
     have hL:L.toNat=0:=TE
     have Xy:(lY M 0)=0:=by
      cases M with
      |none=>rfl
      |some m=>simp only[fp,M3,decide_eq_true_eq,Q3] at YU;grind [dI]
     rw[Xy,hU,hL];split;·exact rx'
     ·rename_i h3;rw[if_pos ⟨TE,λhh=>h3 ⟨TE,hh.1,hh.2⟩⟩];exact eJ _ (λ_=>rfl) (λ_=>rfl) (λa ha=>by simp at ha)
    |some pr=>
     obtain⟨oR,cp0⟩:=pr;simp[U8,iY] at hv;obtain⟨oo,c,rfl,rfl,hc⟩:=hv;obtain⟨c1,c2,c3⟩:=cap c hc;have hcc:lY M c<=c:=by
      cases M with
      |none=>simp[mJ]
      |some m=>simp[fp] at YU;grind [dI]
     refine⟨_,run _ c hc,?_⟩;split;·simp_all
     ·split
      ·rename_i h4;have e1:U.toNat-L.toNat=0:=TE
       rw[e1];refine eJ _ (λVs=>Tn) (λhx=>?_) (λa ha=>?_);·grind
       ·split at ha<;>simp at ha<;>subst ha<;>rfl
      ·rename_i h4;simp only[Rel,NE,hb];refine⟨by split<;>rfl,Nw _,λ_=>⟨TE,oR,oo,c,lY M c-L.toNat,U8,?_,TE,TE,sQ (c2:=c) To c3⟩⟩;by_cases hmL:lY M c=L.toNat;·grind
       simp_all
  |vs b e' i m cl=>
   simp only[U6,j0] at hd hr hn;cases hb:h[b]? with
   |none=>simp[hb] at hd
   |some bx=>
    cases bx<;>simp only[hb,reduceCtorEq] at hd hr hn;rename_i es e2 Um;split at hd;case isFalse=>simp at hd
    rename_i he;obtain⟨rfl,rfl⟩:=he;simp at hn;subst hn;simp only[MS,MV,true_and] at hd;subst hd;obtain⟨TZ,oR,oo,cp,c,U8,hy,hc,hic,zbJ⟩:=hr.2 rfl;clear hr;obtain⟨c1,c2,c3⟩:=cap c hc;have hcc:lY M c<=c:=by
     cases M with
     |none=>simp[mJ]
     |some m=>simp[fp] at YU;grind [dI]
    have hya:∃a0,y=.slice a0 m c:=by
     rcases hy with hy|⟨a1,hy,_⟩;·grind
     ·grind
    obtain⟨a0,rfl⟩:=hya;refine⟨_,run _ c hc,?_⟩;split
    ·rename_i h4;have e1:U.toNat-L.toNat=0:=TE
     rw[e1];refine lZ _ (λVs=>Tn) (λhx=>?_);grind
    ·rename_i h4;simp only[Rel,NE,hb];refine⟨by split<;>first|exact g1|rfl,Nw _,λ_=>⟨TE,oR,oo,cp,lY M c-L.toNat,U8,?_,TE,TE,sQ (c2:=c) zbJ c3⟩⟩
     ·by_cases hmL:lY M c=L.toNat;·grind
      ·rcases hy with hy|⟨a1,hy,h0⟩;·cases hy;simp only[hmL,if_false,Option.map_some,i5];grind
       ·omega
  |av b off m Um =>
   simp only[U6,j0] at hd hr hn;cases hb:h[b]? with
   |none=>simp[hb] at hd
   |some bx=>
    cases bx<;>simp only[hb,reduceCtorEq,MS] at hd hr hn;subst hn;split at hd;case isFalse=>simp at hd
    rename_i he;subst he;simp at hd;subst hd;obtain⟨oR,cp,c,U8,rfl,hc⟩:=hr;obtain⟨c1,c2,c3⟩:=cap c hc;refine⟨_,run _ c hc,?_⟩;split
    ·rename_i h4;have e1:U.toNat-L.toNat=0:=TE
     rw[e1];refine eJ _ (λVs=>Tn) (λhx=>?_) (λa ha=>?_);·grind
     ·split at ha<;>simp at ha<;>subst ha<;>rfl
    ·rename_i h4;have hmL:¬(lY M c)=L.toNat:=TE
     simp[hmL];simp only[Rel,NE,hb];exact⟨rfl,oR,cp,_,U8,rfl,TE⟩
  |_=>simp[U6] at hd
 |_=>simp[U6] at hd
theorem ig{len:Nat}{e:TypeId}{x d:D}{y:Value}{L:Int}{lo hi mx:Option D}{vl vh vm:Option Value}{M:Option Int}(rx:Rel w (On O l h) l h x y)(rl:iZ w (On O l h) l h lo vl)(rh:iZ w (On O l h) l h hi vh)(rm:iZ w (On O l h) l h mx vm)(hl:cA lo 0=G L)(hm:Aa mx=G M)(hd:gM P h len e x L hi M=G (J,d)):∃a:Addr,y=.pointer (G a)/\∃sz lN hN,U2 P e=G sz/\(Ox N len len vl vh vm).run P w=.ok (lN,hN,len) w /\ Rel w (On O l h) l h d (.slice (G (if len=lN then a else a.add (lN*sz))) (hN-lN) (len-lN)):=by
 unfold gM at hd;split at hd;case h_2=>simp at hd
 rename_i b off;obtain⟨g1,hr⟩:=rx;cases hs:U2 P e with
 |none=>simp[hs] at hd
 |some sz=>
  cases hu:cA hi len with
  |none=>grind
  |some U=>
   cases hb:h[b]? with
   |none=>grind
   |some bx=>
    cases bx<;>simp only[hs,hu,hb,reduceCtorEq] at hd hr;cases M with
    |some m=>simp at hd
    |none=>
     simp at hd;obtain⟨ok,rfl⟩:=hd;obtain⟨oR,cp,U8,rfl⟩:=hr;obtain⟨o1,o2,o3,o4,o5⟩:=mK ok;refine⟨_,rfl,sz,L.toNat,U.toNat,rfl,eo (P:=P) (b:=N) (M:=Y) rl rh rm hl hu hm ok (by simp[fp]) To (Nw _),?_⟩;split
     ·rename_i h4;have e1:U.toNat-L.toNat=0:=TE
      rw[e1];exact eJ (l:=l) (h:=h) N (λVs=>by simp at Vs) (λhx=>by simp at hx) (λa ha=>by split at ha<;>simp at ha<;>subst ha<;>rfl)
     ·rename_i h4;have hmL:¬len=L.toNat:=TE
      simp[hmL];simp only[Rel,NE,hb];exact⟨rfl,oR,cp,_,U8,rfl,TE⟩
theorem vj{t e:TypeId}{x d:D}{y:Value}{sz:Nat}{lo hi mx:Option D}{vl vh vm:Option Value}(rx:Rel w (On O l h) l h x y)(ht:P.underlying t=G (.slice e))(hs:U2 P e=G sz)(rl:iZ w (On O l h) l h lo vl)(rh:iZ w (On O l h) l h hi vh)(rm:iZ w (On O l h) l h mx vm)(hd:Ak h x sz lo hi mx=G (J,d)):∃v,(OP t y vl vh vm).run P w=.ok v w/\Rel w (On O l h) l h d v:=by
 unfold Ak at hd;split at hd;case h_2=>simp at hd
 rename_i b e' i n k hdd;split at hd;case h_2=>simp at hd
 rename_i kk u Ι;split at hd;case h_2=>simp at hd
 rename_i hc;simp at hc;obtain⟨TH,UU⟩:=hc;split at hd;case h_2=>simp at hd
 rename_i es e2 Um hb;split at hd;case h_2=>simp at hd
 rename_i hc;simp at hc;obtain⟨rfl,rfl⟩:=hc;simp at hd;obtain⟨hlen,rfl⟩:=hd;obtain⟨g1,hr⟩:=rx;simp only[hb] at hr;obtain⟨TZ,oR,oo,cp,c,U8,hy,hnc,hic,zbJ⟩:=hr.2 trivial;have:=zbJ k rfl;subst this;rcases hy with rfl|⟨a1,hy,h0⟩
 case inr=>omega
 cases vl with
 |some x=>simp[iZ] at rl
 |none=>
 cases vm with
 |some x=>simp[iZ] at rm
 |none=>
 cases vh with
 |none=>simp[iZ] at rh
 |some xv=>
 have hx:=bp rh Ι;subst hx;have hU:∀code,(PQ (.int kk u) c code).run P w=.ok u.toNat w:=λcode=>run_sliceBound w kk u c code TE TE;refine⟨.slice (G ⟨oR,oo+i*Um,Y⟩) u.toNat c,?_,?_⟩
 ·have Of:¬c=0:=TE
  simp[OP,Tj ht,RB,Ox,hU,TJ hs,Of,i5]
 ·simp only[Rel,NE,hb];exact⟨rfl,Nw _,λ_=>⟨hlen,oR,oo,cp,c,U8,.inl rfl,TE,hic,λk hk=>by cases hk;rfl⟩⟩
theorem sR(R:TL Γ O w l h){t:TypeId}{x d:D}{y:Value}{lo hi mx:Option D}{vl vh vm:Option Value}(rx:Rel w (On O l h) l h x y)(rl:iZ w (On O l h) l h lo vl)(rh:iZ w (On O l h) l h hi vh)(rm:iZ w (On O l h) l h mx vm)(hd:dG P h t x lo hi mx=G (J,d)) :∃v,(OP t y vl vh vm).run P w=.ok v w/\Rel w (On O l h) l h d v:=by
 unfold dG at hd;cases hL:cA lo 0 with
 |none=>simp[hL] at hd
 |some L=>
  cases hM:Aa mx with
  |none=>grind
  |some M=>
   simp[hL,hM] at hd;cases hu:P.underlying t with
   |none=>simp[hu] at hd
   |some u=>
    cases u<;>simp only[hu,reduceCtorEq] at hd;case string=>
     unfold wU at hd;split at hd
     ·rename_i s;obtain rfl:=aw rx;cases hU:cA hi s.size with
      |none=>simp[hU] at hd
      |some U=>
       cases M with
       |some m=>simp[hU] at hd
       |none=>
        simp[hU] at hd;obtain⟨ok,rfl⟩:=hd;cases mx with
        |some m0=>grind [Aa,M0]
        |none=>
         cases vm with
         |some x=>simp[iZ] at rm
         |none=>refine⟨_,?_,T7 _ _ _ _ _⟩;have:=eo (P:=P) (b:=N) (mx:=Y) rl rh rm hL hU rfl ok (by simp[fp]) To (Nw _);simp[OP,Tj hu,RB,this]
     ·simp at hd
    case slice e=>
     cases hs:U2 P e with
     |none=>simp[hs] at hd
     |some sz=>
      cases hn:j0 h x with
      |none=>grind
      |some n=>
       simp[hs,hn] at hd;cases hW:Ak h x sz lo hi mx with
       |some r=>simp[hW] at hd;subst hd;exact vj rx hu hs rl rh rm hW
       |none=>
       simp[hW] at hd;cases hU:cA hi n with
       |none=>simp[hU] at hd
       |some U=>simp only[hU,M0,MV,M3] at hd;obtain⟨⟨r1,r2⟩,h1,⟨⟨⟨ok,YU⟩,ok3⟩,h3⟩,h4⟩:=hd;simp only at h3 h4;subst h3;subst h4;exact oX R rx hu hs hn rl rh rm hL hU hM ok YU ok3 h1
    case array len e=>obtain⟨a,rfl,sz,lN,hN,hs,hb,hr⟩:=ig (P:=P) rx rl rh rm hL hM hd;refine⟨_,?_,hr⟩;simp[OP,Tj hu,Instr.sureAddr,hb,TJ hs]
    case pointer arr=>
     cases hu2:P.underlying arr with
     |none=>grind
     |some u2=>cases u2<;>simp only[hu2,reduceCtorEq] at hd;case array len e=>obtain⟨a,rfl,sz,lN,hN,hs,hb,hr⟩:=ig (P:=P) rx rl rh rm hL hM hd;refine⟨_,?_,hr⟩;simp[OP,Tj hu,Tj hu2,RB,asAddr,hb,TJ hs]
end
section
variable {P:Program}{Γ:ao}{O:Nat->Prop}{w:World}{l:Loc}{h:List iN}
theorem Ao(a b:ByteArray):(a==b)=η a b:=by have:(a==b)=(a.data==b.data):=rfl;rw[this,Q4];simp[η]
theorem UF{kt:TypeId}{k:D}{v:Value}(hk:di P kt k=J)(rk:Rel w (On O l h) l h k v)(b:Bool)(w':World):(Instr.checkKey b 10000 kt v).run P w'=.ok () w':=by rw[show(10000:Nat)=9999+1 from rfl,Instr.checkKey];unfold di at hk;split at hk<;>first|(rename_i h1;obtain rfl:=aw rk;simp[Tj h1])|simp at hk
theorem j4{kt:TypeId}{k:D}{v:Value}{u:TypeDesc}(hu:P.underlying kt=G u)(hk:di P kt k=J)(rk:Rel w (On O l h) l h k v):∀{U1:List (D×D×Nat)} {es:List MapEntry} (i:Nat) {r:Option (Nat×D)},Tk w (On O l h) l h U1 es->dH k U1 i=G r -> ∃r',RU u v es i=G r'/\(match r,r' with
    |none,none=>True
    |some (j,d),some (j',y)=>j'=j/\Rel w (On O l h) l h d y
    |_,_=>False)
 | [],[],i,r,_,hf=>by simp[dH] at hf;subst hf;exact⟨Y,rfl,trivial⟩
 |(k',d,n)::U1,e::es,i,r,rel,hf=>by
  simp[Tk] at rel;simp[dH] at hf;have hsame:∀b,eF k k'=G b->Q5 u v e.key=G b:=by
   intro b hb;unfold di at hk;rw[hu] at hk;unfold eF at hb;split at hb;·rename_i k1 a k2 c;obtain rfl:=aw rk;have h2:=aw rel.1;cases u<;>simp at hk;rw[h2];grind [Q5]
   ·rename_i a c;obtain rfl:=aw rk;have h2:=aw rel.1;cases u<;>simp at hk;rw[h2];grind [Q5,Ao]
   ·rename_i a c;obtain rfl:=aw rk;have h2:=aw rel.1;cases u<;>simp at hk;rw[h2];grind [Q5]
   ·simp at hb
  cases hq:eF k k' with
  |none=>simp[hq] at hf
  |some b=>
   have hs:=hsame b hq;cases b with
   |true=>simp[hq] at hf;subst hf;exact⟨G (i,e.val),by simp[RU,hs],rfl,rel.2.1⟩
   |false=>simp[hq] at hf;obtain⟨r',h1,h2⟩:=j4 hu hk rk (i+1) rel.2.2.2 hf;exact⟨r',by simp[RU,hs,h1],h2⟩
 | [],_::_,_,_,rel,_=>by simp[Tk] at rel
 |_::_,[],_,_,rel,_=>by simp[Tk] at rel
theorem mL{kt:TypeId}{k:D}(hk:di P kt k=J):∃u,P.underlying kt=G u:=by unfold di at hk;grind
theorem bS{r:Nat}{o:Obj}(ho:w.heap[r]?=G o)(hc:∀c T fr,o≠.cells c T fr):(getObj r).run P w=.ok o w:=by unfold getObj;cases o<;>simp[Sem.run,ho];grind
theorem qN(R:TL Γ O w l h){t:TypeId}{x k d:D}{y v:Value}{ok:Bool}(rx:Rel w (On O l h) l h x y)(rk:Rel w (On O l h) l h k v)(hd:aA P h t x k ok=some d):∃z,(Qx t y v ok).run P w=.ok z w/\Rel w (On O l h) l h d z:=by
 unfold aA at hd;cases hu:P.underlying t with
 | none=>simp[hu] at hd
 | some u =>
  cases hm:mG h x with
  | none=>grind
  | some U1 =>
   cases u<;>simp only[hu,hm,reduceCtorEq] at hd;rename_i kt et;split at hd;case isFalse=>simp at hd
   rename_i hk;obtain⟨uk,huk⟩:=mL hk;have fin:∀(es:List MapEntry),Tk w (On O l h) l h U1 es->∃z r',(Qr kt v es).run P w=.ok r' w/\(match r' with|some (_,v)=>pure (v,true)|none=>do pure (<-zeroValue et,false):Sem (Value×Bool)).run P w=.ok z w /\ Rel w (On O l h) l h d (if ok then .tuple #[z.1,.bool z.2] else z.1):=by
    intro es Xp;cases hf:dH k U1 0 with
    | none=>simp[hf] at hd
    | some r =>
     obtain⟨r',hn,hm2⟩:=j4 huk hk rk 0 Xp hf;have hkey:(Qr kt v es).run P w=.ok r' w:=by simp only[Qr,Ni,Tj huk,M6,hn,NN]
     cases hz:i4 P et with
     | none=>grind
     | some z =>
      rcases r with _|⟨i,d0⟩
      ·simp[hf,hz] at hd;rcases r' with _|⟨j,y0⟩
       ·refine⟨(z,false),_,hkey,by simp[Uo hz],?_⟩;subst hd;cases ok;·exact j1 _ _ _ _ z
        ·simp only[if_true,Rel];exact⟨_,rfl,j1 _ _ _ _ z,T7 _ _ _ _ _,trivial⟩
       ·simp at hm2
      ·simp[hf,hz] at hd;rcases r' with _|⟨j,y0⟩
       ·simp at hm2
       ·simp only at hm2;refine⟨(y0,true),_,hkey,by simp,?_⟩;subst hd;cases ok;·exact hm2.2
        ·simp only[if_true,Rel];exact⟨_,rfl,hm2.2,T7 _ _ _ _ _,trivial⟩
   unfold mG at hm;split at hm
   ·cases hm;obtain rfl:=aw rx;obtain⟨z,r',h1,h2,h3⟩:=fin [] (by simp[Tk]);refine⟨_,?_,h3⟩;cases hzr:(zeroValue et).run P w with
    | halt a b=>rcases r' with _|⟨j,y0⟩<;>simp[hzr] at h2<;>subst h2<;>simp only[Qx,Ni,Tj hu,M6,NN,UF hk rk,h1]
    | ok a b=>rcases r' with _|⟨j,y0⟩<;>simp[hzr] at h2<;>(try obtain⟨rfl,rfl⟩:=h2)<;>(try subst h2)<;>simp only[Qx,Ni,Tj hu,M6,NN,UF hk rk,h1,hzr]
   ·rename_i b;cases hb:h[b]? with
    | none=>simp[hb] at hm
    | some bx =>
     obtain⟨_,hr⟩:=rx;cases bx<;>simp only[hb,reduceCtorEq,MS] at hm hr;subst hm;obtain⟨oR,cp,U8,rfl⟩:=hr;obtain⟨V4,X2,es,h1,h2,h3⟩:=R.oR b _ hb;obtain⟨rfl,rfl⟩:oR=V4/\cp=X2:=by grind
     obtain⟨z,r',g1,g2,g3⟩:=fin es.toList h3;refine⟨_,?_,g3⟩;have Xz:=bS (P:=P) (o:=.map es _) h2 (by simp);cases hzr:(zeroValue et).run P w with
     | halt a b=>rcases r' with _|⟨j,y0⟩<;>simp[hzr] at g2<;>subst g2<;>simp only[Qx,Ni,Tj hu,M6,Xz,NN,UF hk rk,g1]
     | ok a b=>rcases r' with _|⟨j,y0⟩<;>simp[hzr] at g2<;>(try obtain⟨rfl,rfl⟩:=g2)<;>(try subst g2)<;>simp only[Qx,Ni,Tj hu,M6,Xz,NN,UF hk rk,g1,hzr]
   ·simp at hm
theorem cj{r:Nat}{o o':Obj}(ho:w.heap[r]?=G o)(hc:∀c T fr,o≠.cells c T fr):(setObj r o').run P w=.ok () {w with heap:=w.heap.setIfInBounds r o' }:=by unfold setObj;cases o<;>simp[Sem.run,ho];grind
theorem fw{r:Nat}{o o':Obj}(ho:w.heap[r]?=G o):({w with heap:=w.heap.setIfInBounds r o' }:World).heap[r]?=G o':=Tn
theorem vk{r k:Nat}{o':Obj}(hk:k≠r):({w with heap:=w.heap.setIfInBounds r o' }:World).heap[k]?=w.heap[k]?:=Tn
theorem l5(R:TL Γ O w l h){b:Nat}{x x':iN}(hb:h[b]?=G x)(hx:x≠TS){oR cp:Nat}(U8:l b=G (oR,cp)){o o':Obj}(_ho:w.heap[oR]?=G o)(hle:x.le x')(UG:Ext w l h {w with heap:=w.heap.setIfInBounds oR o' } l (h.set b x')->Tl {w with heap:=w.heap.setIfInBounds oR o' } (On O l (h.set b x')) l (h.set b x') b x') :TL Γ O {w with heap:=w.heap.setIfInBounds oR o' } l (h.set b x')/\Ext w l h {w with heap:=w.heap.setIfInBounds oR o' } l (h.set b x') :=R.step b x' To ⟨rfl,rfl,rfl,Tn⟩ (λi hi=>bG _ _ hi) (aY hb) (λ_ _=>rfl) (λz hz=>Tn)
  (λk hk Ve=>vk (λe=>Ve x cp hb hx (by rw[U8,e])))
  (λk c hk=>.inl ⟨x,c,hb,hx,hk⟩) UG
theorem Ap{U1:List (D×D×Nat)}{es:List MapEntry}:∀(i:Nat) {k d:D} {n:Nat} {e:MapEntry},Tk w (On O l h) l h U1 es->Rel w (On O l h) l h k e.key->Rel w (On O l h) l h d e.val->e.born=n -> Tk w (On O l h) l h (U1.set i (k,d,n)) (es.set i e):=by
 induction U1 generalizing es with
 |nil=>grind [Tk]
 |cons a t ih=>
  intro i k d n e r h1 h2 h3;obtain⟨k0,d0,n0⟩:=a;cases es with
  |nil=>simp[Tk] at r
  |cons e0 es0=>
   simp[Tk] at r;cases i with
   |zero=>grind [Tk]
   |succ i=>grind [Tk]
theorem yZ{U1:List (D×D×Nat)}{es:List MapEntry}{k d:D}{n:Nat}{e:MapEntry}(r:Tk w (On O l h) l h U1 es)(h1:Rel w (On O l h) l h k e.key)(h2:Rel w (On O l h) l h d e.val)(h3:e.born=n):Tk w (On O l h) l h (U1++[(k,d,n)]) (es++[e]):=by
 induction U1 generalizing es with
 |nil=>grind [Tk]
 |cons a t ih=>
  obtain⟨k0,d0,n0⟩:=a;cases es with
  |nil=>simp[Tk] at r
  |cons e0 es0=>grind [Tk]
theorem Aq{U1:List (D×D×Nat)}{es:List MapEntry}(i:Nat)(r:Tk w (On O l h) l h U1 es){k d:D}{n:Nat}(hk:U1[i]?=G (k,d,n)):∃e,es[i]?=G e/\Rel w (On O l h) l h k e.key/\Rel w (On O l h) l h d e.val/\e.born=n:=by
 induction U1 generalizing es i with
 |nil=>simp at hk
 |cons a t ih=>
  obtain⟨k0,d0,n0⟩:=a;cases es with
  |nil=>simp[Tk] at r
  |cons e0 es0=>grind [Tk]
theorem pt{k:D}:∀{U1:List (D×D×Nat)} (i:Nat) {j:Nat} {d:D},dH k U1 i=G (G (j,d))->∃k' n,i<=j/\U1[j-i]?=G (k',d,n)/\eF k k'=G J
 | [],_,_,_,hf=>by simp[dH] at hf
 |(k',d',n')::U1,i,j,d,hf=>by
  simp[dH] at hf;cases hq:eF k k' with
  |none=>simp[hq] at hf
  |some b=>
   cases b with
   |true=>simp_all
   |false=>simp[hq] at hf;obtain⟨k2,n2,h1,h2,h3⟩:=pt (i+1) hf;grind
theorem vn{k k':D}{v v':Value}(rk:Rel w (On O l h) l h k v)(rk':Rel w (On O l h) l h k' v')(hq:eF k k'=G J)(n:Nat):QL (n+1) v' v=J:=by
 unfold eF at hq;split at hq
 ·obtain rfl:=aw rk;obtain rfl:=aw rk';split at hq;·rename_i hk;subst hk;simp at hq;grind [QL]
  ·simp at hq
 ·obtain rfl:=aw rk;obtain rfl:=aw rk';simp at hq;rw[<-Ao] at hq;simp[QL];rename_i a b;have:(a.data==b.data)=J:=hq;have h2:a.data=b.data:=by simpa using this
  show(b.data==a.data)=J;simp[h2]
 ·obtain rfl:=aw rk;obtain rfl:=aw rk';simp at hq;grind [QL]
 ·simp at hq
theorem f8(R:TL Γ O w l h){t:TypeId}{x k d:D}{y v z:Value}{h':List iN}(rx:Rel w (On O l h) l h x y)(rk:Rel w (On O l h) l h k v)(rd:Rel w (On O l h) l h d z)(hd:aH P h t x k d=some h'):∃w',(RF t y v z).run P w=.ok () w'/\TL Γ O w' l h'/\Ext w l h w' l h':=by
 unfold aH at hd;cases hu:P.underlying t with
 | none=>simp[hu] at hd
 | some u =>
  cases u<;>simp only[hu,reduceCtorEq] at hd;rename_i kt et;cases x with
  | ref r =>
   cases r<;>simp only[reduceCtorEq] at hd;rename_i b;cases hb:h[b]? with
   | none=>simp[hb] at hd
   | some bx =>
    obtain⟨_,hr⟩:=rx;cases bx<;>simp only[hb,reduceCtorEq] at hd hr;rename_i U1 clock;split at hd;case isFalse=>simp at hd
    rename_i hk;obtain⟨uk,huk⟩:=mL hk;obtain⟨oR,cp,U8,rfl⟩:=hr;obtain⟨V4,X2,es,h1,h2,h3⟩:=R.oR b _ hb;obtain⟨rfl,rfl⟩:oR=V4/\cp=X2:=by grind
    have Xz:=bS (P:=P) (o:=.map es clock) h2 (by simp);cases hf:dH k U1 0 with
    | none=>simp[hf] at hd
    | some r =>
     obtain⟨r',hn,hm2⟩:=j4 huk hk rk 0 h3 hf;have hkey:(Qr kt v es.toList).run P w=.ok r' w:=by simp only[Qr,Ni,Tj huk,M6,hn,NN]
     rcases r with _|⟨i,d0⟩
     ·simp[hf] at hd;rcases r' with _|⟨j,y0⟩
      ·subst hd
       have:=l5 R (x':=.map (U1++[(k,d,clock)]) (clock+1)) hb (by simp) U8 (o':=.map (es.push {key:=v,val:=z,born:=clock}) (clock+1)) h2 trivial
        (λE=>⟨oR,cp,_,U8,fw h2,by rw[Array.toList_push];exact yZ (E.χ h3) (E.rel rk) (E.rel rd) rfl⟩)
       refine⟨_,?_,this.1,this.2⟩;simp[RF,Tj hu,Xz,UF hk rk,hkey,cj h2 (by simp)]
      ·simp at hm2
     ·simp[hf] at hd;rcases r' with _|⟨j,y0⟩
      ·simp at hm2
      ·simp at hm2;obtain⟨rfl,ry⟩:=hm2;obtain⟨k',n,_,hkv,hq⟩:=pt 0 hf;simp at hkv;simp[hkv] at hd;subst hd;obtain⟨e0,he0,r1,r2,r3⟩:=Aq j h3 hkv;have hsb:=vn rk r1 hq 9999;have he0':es[j]? = some e0:=by rw[<-NU];exact he0
       have hmod:(es.modify j λe=>{e with key:=v,val:=z}).toList=es.toList.set j {key:=v,val:=z,born:=e0.born}:=by
        apply List.ext_getElem?;intro i;rw[NU,Array.getElem?_modify,List.getElem?_set];by_cases hji:j=i;·grind
        ·simp[hji]
       have:=l5 R (x':=.map (U1.set j (k,d,n)) clock) hb (by simp) U8 (o':=.map (es.modify j λe=>{e with key:=v,val:=z}) clock) h2 trivial
        (λE=>⟨oR,cp,_,U8,fw h2,by rw[hmod];exact Ap j (E.χ h3) (E.rel rk) (E.rel rd) r3⟩)
       refine⟨_,?_,this.1,this.2⟩;simp[RF,Tj hu,Xz,UF hk rk,hkey,Instr.keyThatStays,he0',hsb,cj h2 (by simp)]
  | _=>simp at hd
theorem qO(R:TL Γ O w l h)(t:TypeId):∃v w' l',(Instr.makeMap t none).run P w=.ok v w'/\TL Γ O w' l' (h++[.map [] 0])/\Ext w l h w' l' (h++[.map [] 0]) /\ Rel w' (On O l' (h++[.map [] 0])) l' (h++[.map [] 0]) (.ref (.mp h.length)) v:=by obtain⟨R',E⟩:=e7 R (.map #[] 0) (.map [] 0) 0 (λ_=>⟨w.heap.size,0,#[],by simp,heap_alloc_new w _,by simp[Tk]⟩);refine⟨.map (some w.heap.size),_,_,by simp[Instr.makeMap],R',E,?_⟩;simp only[Rel,NE];refine⟨rfl,?_⟩;simp
end
section
variable {P:Program}{Γ:ao}{O:Nat->Prop}{w:World}{l:Loc}{h:List iN}
theorem mM(R:TL Γ O w l h)(o:Obj)(x:iN)(hx:(∃s p,x=.Zq s p)\/(∃m a b c,x=.Xa m a b c))(UG:Ext w l h (w.alloc o) (l.Vh h.length (G (w.heap.size,0))) (h++[x]) -> Tl (w.alloc o) (On O (l.Vh h.length (G (w.heap.size,0))) (h++[x])) (l.Vh h.length (G (w.heap.size,0))) (h++[x]) h.length x) :∃l',TL Γ O (w.alloc o) l' (h++[x])/\Ext w l h (w.alloc o) l' (h++[x])/\Rel (w.alloc o) (On O l' (h++[x])) l' (h++[x]) (Tx (.it h.length)) (.pointer (G ⟨w.heap.size,0,Y⟩)):=by obtain⟨R',E⟩:=e7 R o x 0 UG;refine⟨_,R',E,?_⟩;simp only[Rel,NE];refine⟨rfl,?_⟩;rcases hx with ⟨s,p,rfl⟩|⟨m,a,b,c,rfl⟩<;>simp
theorem sU(R:TL Γ O w l h){t:TypeId}{x d:D}{y:Value}{h':List iN}(rx:Rel w (On O l h) l h x y)(hd:wV P h t x=some (d,h')):∃v w' l',(RC t y).run P w=.ok v w'/\TL Γ O w' l' h'/\Ext w l h w' l' h'/\Rel w' (On O l' h') l' h' d v:=by
 unfold wV at hd;split at hd;·rename_i s hu;cases hd;obtain rfl:=aw rx;obtain⟨l',r1,r2,r3⟩:=mM R (.stringIter s 0) (.Zq s 0) (.inl ⟨_,_,rfl⟩) (λ_=>⟨w.heap.size,0,by simp,heap_alloc_new w _⟩);exact⟨_,_,l',by simp[RC,Tj hu],r1,r2,r3⟩
 ·rename_i hu;cases hd;obtain rfl:=aw rx;obtain⟨l',r1,r2,r3⟩:=mM R (.mapIter none 0 #[] 0) (.Xa none 0 [] 0) (.inr ⟨_,_,_,_,rfl⟩) (λ_=>⟨w.heap.size,0,none,by simp,heap_alloc_new w _,rfl⟩);exact⟨_,_,l',by simp[RC,Tj hu],r1,r2,r3⟩
 ·rename_i kt et b hu;cases hb:h[b]? with
  | none=>simp[hb] at hd
  | some bx =>
   have rx':=rx;obtain⟨_,hr⟩:=rx;cases bx<;>simp only[hb,reduceCtorEq,MS,MV] at hd hr;rename_i U1 clock;obtain⟨rfl,rfl⟩:=hd;obtain⟨oR,cp,U8,rfl⟩:=hr;obtain⟨V4,X2,es,h1,h2,h3⟩:=R.oR b _ hb;obtain⟨rfl,rfl⟩:oR=V4/\cp=X2:=by grind
   have Xz:=bS (P:=P) (o:=.map es clock) h2 (by simp)
   obtain⟨l',r1,r2,r3⟩:=mM R (.mapIter (some oR) clock #[] clock) (.Xa (some b) clock [] clock) (.inr ⟨_,_,_,_,rfl⟩)
    (λE=>⟨w.heap.size,0,some oR,by simp,heap_alloc_new w _,(E.rel rx':Rel _ _ _ _ (.ref (.mp b)) _)⟩)
   exact⟨_,_,l',by simp[RC,Tj hu,Xz],r1,r2,r3⟩
 ·simp at hd
theorem lk{f:Nat->Bool}:∀{U1:List (D×D×Nat)} {es:List MapEntry},Tk w (On O l h) l h U1 es->Tk w (On O l h) l h (U1.filter λe=>f e.2.2) (es.filter λe=>f e.born)
 | [],[],_=>by simp[Tk]
 |(k,d,n)::U1,e::es,r=>by simp[Tk] at r;have ih:=lk (f:=f) r.2.2.2;grind [r.2.2.1,Tk]
 | [],_::_,r=>by simp[Tk] at r
 |_::_,[],r=>by simp[Tk] at r
theorem sV{f:Nat->Bool}:∀{U1:List (D×D×Nat)} {es:List MapEntry},Tk w (On O l h) l h U1 es->(es.any λe=>f e.born)=(U1.any λe=>f e.2.2)
 | [],[],_=>To
 |(k,d,n)::U1,e::es,r=>by simp[Tk] at r;simp[r.2.2.1,sV r.2.2.2]
 | [],_::_,r=>by simp[Tk] at r
 |_::_,[],r=>by simp[Tk] at r
theorem wX(_R:TL Γ O w l h){b:Nat}{y:Value}{bx:iN}(rx:Rel w (On O l h) l h (Tx (.it b)) y)(hb:h[b]?=G bx)(hg:bx≠TS):∃oR cp,l b=G (oR,cp)/\y=.pointer (G ⟨oR,0,Y⟩):=by obtain⟨_,hr⟩:=rx;grind
theorem vo(R:TL Γ O w l h){x d:D}{y:Value}{s:Bool}{t:TypeId}{h':List iN}(rx:Rel w (On O l h) l h x y)(hd:DT h s x=G (d,h')):∃v w',(Qy y s t).run P w=.ok v w'/\TL Γ O w' l h'/\Ext w l h w' l h'/\Rel w' (On O l h') l h' d v:=by
 unfold DT at hd;split at hd;case h_2=>simp at hd
 rename_i b;split at hd
 ·-- a string
  rename_i str pos hb;obtain⟨oR,cp,U8,rfl⟩:=wX R rx hb To;obtain⟨V4,X2,h1,h2⟩:=R.oR b _ hb;obtain⟨rfl,rfl⟩:oR=V4/\cp=X2:=Tn
  have Xz:=bS (P:=P) (o:=.stringIter str pos) h2 To;split at hd
  ·rename_i IN;cases hd
   have:=l5 R (x':=.Zq str (pos+(SG str pos).2)) hb To U8 (o':=.stringIter str (pos+(SG str pos).2)) h2 trivial
    (λE=>⟨oR,cp,U8,fw h2⟩)
   refine⟨.tuple #[.bool J,goInt pos,.int .i32 (SG str pos).1],_,?_,this.1,this.2,?_⟩;·simp[Qy,Xz,IN,cj (P:=P) h2 To]
   ·simp only[Rel];exact⟨_,rfl,T7 _ _ _ _ _,T7 _ _ _ _ _,T7 _ _ _ _ _,trivial⟩
  ·rename_i IN;cases hd;refine⟨.tuple #[.bool N],w,?_,R,Pj _ _ _,?_⟩;·simp[Qy,Xz,IN]
   ·simp only[Rel];exact⟨_,rfl,T7 _ _ _ _ _,trivial⟩
 ·-- a nil map
  rename_i a1 a2 a3 hb;cases hd;obtain⟨oR,cp,U8,rfl⟩:=wX R rx hb To;obtain⟨V4,X2,mr,h1,h2,h3⟩:=R.oR b _ hb;obtain⟨rfl,rfl⟩:oR=V4/\cp=X2:=Tn
  simp only at h3;subst h3;have Xz:=bS (P:=P) h2 To;refine⟨.tuple #[.bool N],w,?_,R,Pj _ _ _,?_⟩;·simp[Qy,Xz]
  ·simp only[Rel];exact⟨_,rfl,T7 _ _ _ _ _,trivial⟩
 ·-- a map
  rename_i mb since seen st hb;cases hmb:h[mb]? with
  |none=>grind
  |some mx=>
   cases mx<;>simp only[hmb,reduceCtorEq] at hd;rename_i U1 clock;obtain⟨oR,cp,U8,rfl⟩:=wX R rx hb To;obtain⟨V4,X2,mr,h1,h2,h3⟩:=R.oR b _ hb;obtain⟨rfl,rfl⟩:oR=V4/\cp=X2:=Tn
   have h3':=h3;obtain⟨_,hr⟩:=h3;simp only[hmb] at hr;obtain⟨mblk,mcp,hlm,hmr⟩:=hr;simp at hmr;subst hmr;obtain⟨zbg,mcp',es,g1,g2,g3⟩:=R.oR mb _ hmb;obtain⟨rfl,rfl⟩:mblk=zbg/\mcp=mcp':=Tn
   have Xz:=bS (P:=P) h2 To;have hgm:=bS (P:=P) g2 To;have ZZ:Tk w (On O l h) l h (U1.filter λe=>!seen.contains e.2.2) (es.filter λe=>!seen.toArray.contains e.born).toList:=by rw[Array.toList_filter];simpa using lk (f:=λn=>!seen.contains n) g3
   have hlen:=gm _ _ g3;have hes:es.isEmpty=U1.isEmpty:=by rw[Q4];simp only[Array.isEmpty_iff_size_eq_zero,List.isEmpty_iff_length_eq_zero,hlen,OZ]
   have UI:(es.all λe=>Zd (e.born>=st)) = !(U1.any λe=>Zd (e.2.2<st)):=by rw[<-sV (f:=λn=>Zd (n<st)) g3,<-Array.all_toList,List.all_eq_not_any_not];congr 1;congr 1;funext e;rw[Q4];simp
   split at hd
   ·rename_i hk;split at hd;case isFalse=>simp at hd
    rename_i hc;cases hd;rw[hk] at ZZ;have he:es.filter (λe=>!seen.toArray.contains e.born)=#[]:=by
     cases hq:(es.filter (λe=>!seen.toArray.contains e.born)).toList with
     |nil=>simpa using hq
     |cons a t=>rw[hq] at ZZ;simp[Tk] at ZZ
    refine⟨.tuple #[.bool N],w,?_,R,Pj _ _ _,by simp only[Rel];exact⟨_,rfl,T7 _ _ _ _ _,trivial⟩⟩;have Zk:(!seen.toArray.isEmpty&&!es.isEmpty&&es.all (λe=>Zd (e.born>=st)))=N:=by rw[UI,hes,SH];cases h1:seen.isEmpty<;>cases h2:U1.isEmpty<;>simp_all
    simp only[Qy,Ni,Xz,hgm,M6,Zk,he];simp[Rq]
   ·rename_i k v n hk;split at hd;case isFalse=>simp at hd
    rename_i hc;cases hd;simp only[M3,decide_eq_true_eq] at hc;rw[hk] at ZZ;obtain⟨e,he,rk,rv,hn⟩:∃e:MapEntry,es.filter (λe=>!seen.toArray.contains e.born)=#[e]/\Rel w (On O l h) l h k e.key/\Rel w (On O l h) l h v e.val/\e.born=n:=by
     cases hq:(es.filter (λe=>!seen.toArray.contains e.born)).toList with
     |nil=>rw[hq] at ZZ;simp[Tk] at ZZ
     |cons a t=>rw[hq] at ZZ;grind [Tk]
    have Zk:(!seen.toArray.isEmpty&&!es.isEmpty&&es.all (λe=>Zd (e.born>=st)))=N:=by
     rw[UI,SH];have TH:=hc.1;rw[Sb] at TH;rcases TH with h1|h1
     ·simp[h1]
     ·simp[h1]
    have:=l5 R (x':=.Xa (G mb) since (seen++[n]) clock) hb To U8 (o':=.mapIter (G mblk) since (seen.toArray.push e.born) clock) h2 trivial
     (λE=>⟨oR,cp,G mblk,U8,Tn,(E.rel (O:=O) (d:=Tx (Wv mb)) h3')⟩)
    refine⟨.tuple #[.bool J,e.key,e.val],_,?_,this.1,this.2,?_⟩
    ·have hs:e.born<since:=by rw[hn];exact hc.2
     have hs2:¬since<=e.born:=TE
     simp only[Qy,Ni,Xz,hgm,M6,Zk,he];simp[Rq,hs,hs2,cj (P:=P) h2]
    ·simp only[Rel];exact⟨_,rfl,T7 _ _ _ _ _,this.2.rel rk,this.2.rel rv,trivial⟩
   ·simp at hd
 ·simp at hd
theorem pu{n:Nat}:∀{U1:List (D×D×Nat)} {es:List MapEntry},Tk w (On O l h) l h U1 es->∀{e:D×D×Nat},U1.find? (λe=>e.2.2==n)=G e -> ∃e',es.find? (λe=>e.born==n)=G e'/\Rel w (On O l h) l h e.1 e'.key/\Rel w (On O l h) l h e.2.1 e'.val
 | [],[],_,_,hf=>by simp at hf
 |(k,d,m)::U1,e0::es,r,e,hf=>by
  simp[Tk] at r;simp[List.find?_cons,r.2.2.1] at hf ⊢;split at hf;·grind
  ·exact pu r.2.2.2 hf
 | [],_::_,r,_,_=>Tn
 |_::_,[],r,_,_=>by simp[Tk] at r
theorem sW(R:TL Γ O w l h){x d:D}{y:Value}(rx:Rel w (On O l h) l h x y)(hd:pq h x=G d):∃v,(Instr.entry y).run P w=.ok v w/\Rel w (On O l h) l h d v:=by
 unfold pq at hd;split at hd;case h_2=>simp at hd
 rename_i b;split at hd;case h_2=>simp at hd
 rename_i mb since seen st hb;cases hmb:h[mb]? with
 |none=>grind
 |some mx=>
  cases mx<;>simp only[hmb,reduceCtorEq] at hd;rename_i U1 clock;cases hl:seen.getLast? with
  |none=>simp[hl] at hd
  |some n=>
   simp only[hl] at hd;split at hd;case isFalse=>simp at hd
   rename_i Vs;subst Vs;simp only[M0] at hd;obtain⟨e,hf,rfl⟩:=hd;obtain⟨oR,cp,U8,rfl⟩:=wX R rx hb To;obtain⟨V4,X2,mr,h1,h2,h3⟩:=R.oR b _ hb;obtain⟨rfl,rfl⟩:oR=V4/\cp=X2:=Tn
   obtain⟨_,hr⟩:=h3;simp only[hmb] at hr;obtain⟨mblk,mcp,hlm,hmr⟩:=hr;simp at hmr;subst hmr;obtain⟨zbg,mcp',es,g1,g2,g3⟩:=R.oR mb _ hmb;obtain⟨rfl,rfl⟩:mblk=zbg/\mcp=mcp':=Tn
   have Xz:=bS (P:=P) h2 To;have hgm:=bS (P:=P) g2 To;obtain⟨e',hf',r1,r2⟩:=pu g3 hf;refine⟨.tuple #[e'.key,e'.val],?_,by simp only[Rel];exact⟨_,rfl,r1,r2,trivial⟩⟩;have hback:seen.toArray.back? = G n:=by rw[List.back?_toArray];exact hl
   have hff:es.find? (λe=>e.born==n)=G e':=by rw[<-Array.find?_toList];exact hf'
   simp only[Instr.entry,Ni,Xz,hgm,M6,hback];simp[hff]
end
end Go.Vi
