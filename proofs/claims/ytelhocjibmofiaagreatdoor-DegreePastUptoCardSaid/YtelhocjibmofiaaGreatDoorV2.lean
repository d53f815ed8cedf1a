/- A part of the proof; no conditions of its own. -/
import Derived.Test.YtelhocjibmofiaaGreatDoorV1
import Derived.IntWalk
import Derived.Laws.IdiomStrings
open Decidable renaming decide -> Zd
open Go.Builtin renaming zeroCells -> OL, lenOf -> Oy, firstCells -> Og, append_ -> OG, len_ -> Qt, copy_ -> QW, clear_ -> Sl
open Go.Vi.Loc renaming ziV -> Pj
open List renaming getElem?_append_right -> Nm, getElem?_cons_zero -> Np, getElem?_toArray -> Rl, getElem?_cons_succ -> OW, all_eq_true -> Ni, mem_flatten -> Sh, length_append -> Nv, size_toArray -> Sv, mem_append -> NY, flatten_append -> OY, isEmpty_eq_false_iff -> QR, mem_map -> Nt, length_pos_iff -> RO, mem_of_mem_drop -> Pp, mem_of_mem_take -> Pq, take_of_length_le -> OJ, length_drop -> OE, length -> MO, length_take -> O5, take_left' -> SU, drop_append -> R6, append_assoc -> OQ, length_cons -> Nq, mapM_cons -> Tc, replicate -> MS, length_map -> N1, flatten_cons -> N0, eq_of_mem_replicate -> P6, length_replicate -> Te, drop_zero -> Pk, take_length_add_append -> Sx, drop_length_add_append -> Sy, take_append_of_le_length -> QC, drop_append_of_le_length -> QD, map_cons -> NW, singleton_append -> Qx
open Nat renaming le_refl -> M5, le_succ -> Pc, mul_le_mul_right -> OB, add_mul -> O9, add_zero -> Tb, add_assoc -> Qb
open Go.Question renaming appendCap -> S2
open Go.IntKind renaming i64 -> ML
open Go.Sem renaming run_bind -> M8, run_pure -> Ny, run_ite -> RF
open Go.Result renaming andThen_ok -> M1
open Bool renaming false_eq_true -> NC, not_false -> PP, and_eq_true -> MT, not_eq_true' -> OC, or_eq_true -> Rr
open Go.World renaming alloc_eq -> Su
open Go.Vi.Uc renaming stays -> Q4
open Option.some renaming injEq -> MM
open Prod.mk renaming injEq -> MP
open Array renaming length_toList -> O6, range -> PD, toList_map -> Qu, toList_range -> QE
open Go.ByteArray renaming toList_eq -> SQ
open Option renaming map_eq_some_iff -> MV
open Go.Op renaming intArith -> Sw, intCmp -> RV, unary -> TR
open Int renaming not_lt -> Qp
open Go.Instr renaming build -> Td, buildSlice -> Sb, makeSlice -> P5
open Go.IntWalk renaming i64_in -> Rj
open Go.Value.slice renaming injEq -> Rs
open Go.Vi.Uz renaming zgx -> TS
namespace Go.Vi
open Go
abbrev oN:=Option D
abbrev dO:=List Dp
abbrev bY:=List D
abbrev bv:=List (dO)
abbrev aT:=List Uc
section
variable {P:Program} {Γ:aq} {O:Nat->Prop} {w:World} {l:Loc} {h:aT}
theorem fD(z:BV)(n:Nat):(OL z n).size=n*z.size:=by simp[OL]
theorem fN(R:UJ Γ O w l h)(w1:World)(hw1:w1.heap=w.heap/\w1.tape=w.tape/\w1.os=w.os/\w1.output=w.output/\w.drawn<=w1.drawn)(e:TypeId)(cs:BV)(rows:List (bY))(sz cap:Nat)(ys rest:At)
  (hcs:cs.toList=ys++rest) (hsz:cs.size=cap*sz) (zgp:rows.length<=cap) (hr:∀r∈rows,r.length=sz) (ry:U1 w (Ub O l h) l h rows.flatten ys) :
  ∃l',UJ Γ O (w1.alloc (.cells cs e)) l' (h++[.T7 rows 0 sz])/\Ext w l h (w1.alloc (.cells cs e)) l' (h++[.T7 rows 0 sz]) /\
   Rel (w1.alloc (.cells cs e)) (Ub O l' (h++[.T7 rows 0 sz])) l' (h++[.T7 rows 0 sz]) (.ref (.T7 h.length 0)) (.slice (some ⟨w.heap.size,0,none⟩) rows.length cap):=by
 obtain⟨R1,E1⟩:=R.of_heap hw1.1 hw1.2
 have hs:w1.heap.size=w.heap.size:=by rw[hw1.1]
 obtain⟨R2,E2⟩:=eK R1 (.cells cs e) (.T7 rows 0 sz) (mkP 0 cap) (λE=>by
  simp only[Up,Pj]
  exact⟨0,cap,rfl,cs,e,(0,0),ys,heap_alloc_new w1 _,by omega,zgp,by simp,hr,E.π (E1.π ry),[],rest,rfl,hcs⟩)
 refine⟨_,R2,E1.trans E2,?_⟩
 simp only[Rel,Ua]
 refine⟨rfl,?_⟩
 simp only[Nm (M5 _),Nat.sub_self,Np,Pj,hs,gV]
 exact⟨M5 _,λ_=>⟨0,cap,rfl,rfl,zgp⟩⟩
theorem zm(R:UJ Γ O w l h)(sz:Nat):∃l',UJ Γ O w l' (h++[.T7 [] 0 sz])/\Ext w l h w l' (h++[.T7 [] 0 sz]) /\
  Rel w (Ub O l' (h++[.T7 [] 0 sz])) l' (h++[.T7 [] 0 sz]) (.ref (.T7 h.length 0)) (.slice none 0 0):=by
 have:=R.step (w':=w) (l':=l.upd h.length none) (h':=h++[.T7 [] 0 sz]) h.length (.T7 [] 0 sz) (M5 _) ⟨rfl,rfl,rfl,(by first|exact M5 _|exact Pc _)⟩ (λb hb=>jL h _ hb) (by simp)
  (λb hb=>Loc.zgG _ _ _ hb) (λy hy=>by simp at hy) (λ_ _ _=>rfl) (λk c hk=>by simp at hk) (λ_=>by simp[Up])
 refine⟨_,this.1,this.2,?_⟩
 simp only[Rel,Ua]
 refine⟨rfl,?_⟩
 simp[gV]
theorem kY{need cap:Nat}{e:TypeId}(t:Nat):need<=(S2 need cap e).cut t:=by simp[Question.cut]
theorem pV{t tx ty e:TypeId}{dx:TypeDesc}{sz by':Nat}{z:Value}{base:Option Addr}{n cap m:Nat}{x:Value}{olds news:At}
  (ht:P.underlying t=some (.slice e)) (hx:P.underlying tx=some dx) (hdx:∀k,dx≠.int k) (hs:VB P e=some sz) (hb:bytesOf P e=some by') (hz:jm P e=some z)
  (hlen:(Oy x).run P w=.ok m w) (hnew:(Og sz m x).run P w.drew=.ok news.toArray w.drew)
  (hold:(Og sz n (.slice base n cap)).run P w.drew=.ok olds.toArray w.drew) (hn:cap<n+m) (hby:(n+m)*by'<=140737488355328) (h62:n+m<=4611686018427387904) :
  ∃(zex:Nat),n+m<=zex /\
   (OG #[t,tx] ty #[.slice base n cap,x]).run P w=.ok (.slice (some ⟨w.heap.size,0,none⟩) (n+m) zex)
    (w.drew.alloc (.cells (olds.toArray++news.toArray++OL z.cells (zex-(n+m))) e)):=by
 obtain⟨i,hi,hib⟩:=gk hb
 have zhB:=growslice_fits hn hby
 have hti:∀w:World,(typeInfo e).run P w=.ok i w:=λw=>by simp[typeInfo,hi]
 refine⟨(S2 (n+m) cap e).cut (w.tape w.drawn (.appendCap (n+m) cap e)),kY _,?_⟩
 have hnot:¬((((n+m:Nat):Int)>ML.max)/\(False\/i.bytes=0)):=by
  intro hh
  have:ML.max=9223372036854775807:=rfl
  rw[this] at hh;omega
 have zmD:¬(Builtin.nextslicecap (n+m) cap*i.bytes>2 ^ 48):=by rw[hib];omega
 unfold OG
 simp only[Rl,Np,OW,M8,Uk ht,Uk hx,M1,UM hs,Ny]
 cases dx with
 | int k=>exact absurd rfl (hdx k)
 | _ =>
  simp only[NC,if_false,hlen,M1,Nat.not_le.2 hn,M8,hti,RF,hnot,zmD,if_false,run_choose,Question.forced,run_askRoom,
   hold,hnew,δ hz,Ny,PP,if_true,newRow,run_newObj,World.drew_eq,Su,World.size_drew]
theorem jP{t tx ty e:TypeId}{dx:TypeDesc}{sz T8 n cap m:Nat}{x:Value}{news:At}{c:BV}{T:TypeId}{fr:Nat×Nat}
  (ht:P.underlying t=some (.slice e)) (hx:P.underlying tx=some dx) (hdx:∀k,dx≠.int k) (hs:VB P e=some sz)
  (hlen:(Oy x).run P w=.ok m w) (hnew:(Og sz m x).run P w=.ok news.toArray w) (h1:∀v∈news,v.oneCell'=true) (hnl:news.length=m*sz)
  {oo:Nat} (hn:n+m<=cap) (hb:w.heap[T8]? = some (.cells c T fr)) (hf:∀o,o<c.size->¬(fr.1<=o/\o<fr.2)) (hc:oo+cap*sz<=c.size) :
  ∃w' c',(OG #[t,tx] ty #[.slice (some ⟨T8,oo,none⟩) n cap,x]).run P w=.ok (.slice (some ⟨T8,oo,none⟩) (n+m) cap) w'/\w'.heap.size=w.heap.size/\(∀k,k≠T8->w'.heap[k]? = w.heap[k]?) /\
   w'.heap[T8]? = some (.cells c' T fr)/\c'.toList=bk c.toList (oo+n*sz) news/\w'.tape=w.tape/\w'.os=w.os/\w'.output=w.output/\w.drawn<=w'.drawn:=by
 have hle:oo+n*sz+0+news.length<=c.size:=by
  rw[hnl];have:=OB sz hn;rw[O9] at this;omega
 obtain⟨w',c',h2,h3⟩:=ci (P:=P) (off:=oo+n*sz) news 0 w c hb hf hle h1
 refine⟨w',c',?_,by simpa using h3⟩
 unfold OG
 simp only[Rl,Np,OW,M8,Uk ht,Uk hx,M1,UM hs,Ny]
 cases dx with
 | int k=>exact absurd rfl (hdx k)
 | _ =>
  simp only[NC,if_false,hlen,M1,hn,if_true,M8,hnew,PP,dc,h2,Ny,RF]
theorem hG{t tx ty e:TypeId}{dx:TypeDesc}{sz:Nat}{x:Value}{news:At}
  (ht:P.underlying t=some (.slice e)) (hx:P.underlying tx=some dx) (hdx:∀k,dx≠.int k) (hs:VB P e=some sz)
  (hlen:(Oy x).run P w=.ok 0 w) (hnew:(Og sz 0 x).run P w=.ok news.toArray w) :
  (OG #[t,tx] ty #[.slice none 0 0,x]).run P w=.ok (.slice none 0 0) w:=by
 unfold OG
 simp only[Rl,Np,OW,M8,Uk ht,Uk hx,M1,UM hs,Ny]
 cases dx with
 | int k=>exact absurd rfl (hdx k)
 | _ =>
  simp only[NC,if_false,hlen,M1,Tb,M5,if_true,M8,hnew,PP,Ny,RF]
theorem dE{t:TypeId}{z:bY}(hz:dC P t=some z):∃v,jm P t=some v/\z=v.cells.toList.map lit:=by
 unfold dC at hz
 cases hv:jm P t with
 | none=>simp[hv] at hz
 | some v=>simp[hv] at hz;exact⟨v,rfl,hz.symm⟩
theorem tH(R:UJ Γ O w l h){b e0 sz:Nat}{es:List (bY)}(hb:h[b]? = some (.T7 es e0 sz))(w1:World)(hw1:w1.heap=w.heap/\w1.tape=w.tape/\w1.os=w.os/\w1.output=w.output/\w.drawn<=w1.drawn)
  (e:TypeId) (cs:BV) (rows:List (bY)) (cap:Nat) (ys rest:At)
  (hcs:cs.toList=ys++rest) (hsz:cs.size=cap*sz) (zgp:rows.length<=cap) (hr:∀r∈rows,r.length=sz) (ry:U1 w (Ub O l h) l h rows.flatten ys) :
  ∃l',UJ Γ O (w1.alloc (.cells cs e)) l' (h.set b (.T7 rows (e0+1) sz))/\Ext w l h (w1.alloc (.cells cs e)) l' (h.set b (.T7 rows (e0+1) sz)) /\
   Rel (w1.alloc (.cells cs e)) (Ub O l' (h.set b (.T7 rows (e0+1) sz))) l' (h.set b (.T7 rows (e0+1) sz)) (.ref (.T7 b (e0+1))) (.slice (some ⟨w.heap.size,0,none⟩) rows.length cap):=by
 have hs:w1.heap.size=w.heap.size:=by rw[hw1.1]
 have:=R.step (w':=w1.alloc (.cells cs e)) (l':=l.upd b (some (w.heap.size,mkP 0 cap))) (h':=h.set b (.T7 rows (e0+1) sz)) b (.T7 rows (e0+1) sz) (by simp[hs]) ⟨hw1.2.1,hw1.2.2.1,hw1.2.2.2⟩
  (λi hi=>be _ _ hi) (aK hb) (λi hi=>Loc.zgG _ _ _ hi)
  (λz hz=>by rw[hb] at hz;cases hz;exact⟨⟨Pc _,λhh=>absurd hh (by omega),rfl⟩,λhh=>absurd hh (by simp[Q4])⟩)
  (λk hk _=>by rw[heap_alloc_old w1 _ k (by omega),hw1.1])
  (λk c hk=>by simp at hk;exact .inr ⟨by omega,by simp;omega⟩)
  (λE=>by
   simp only[Up,Pj]
   exact⟨0,cap,rfl,cs,e,(0,0),ys,by rw[<-hs];exact heap_alloc_new w1 _,by omega,zgp,by simp,hr,E.π ry,[],rest,rfl,hcs⟩)
 refine⟨_,this.1,this.2,?_⟩
 simp only[Rel,Ua]
 refine⟨rfl,?_⟩
 rw[aK hb]
 simp only[Pj,gV]
 exact⟨M5 _,λ_=>⟨0,cap,rfl,rfl,zgp⟩⟩
theorem rN(R:UJ Γ O w l h){t tx ty:TypeId}{s x d:D}{ys yx:Value}{h':aT}(rs:Rel w (Ub O l h) l h s ys)(rx:Rel w (Ub O l h) l h x yx)
  (hd:nC P h t tx s x=some (true,d,h')) :
  ∃v w' l',(OG #[t,tx] ty #[ys,yx]).run P w=.ok v w'/\UJ Γ O w' l' h'/\Ext w l h w' l' h'/\Rel w' (Ub O l' h') l' h' d v:=by
 unfold nC at hd
 cases hte:dz P t with
 | none=>simp[hte] at hd
 | some e =>
  cases hux:P.underlying tx with
  | none=>simp[hte,hux] at hd
  | some dx =>
   simp only[hte,hux] at hd
   split at hd
   case isTrue=>simp at hd
   rename_i hdx0
   have hdx:∀k,dx≠.int k:=by intro k hk;subst hk;simp[ziw] at hdx0
   have ht:P.underlying t=some (.slice e):=by
    unfold dz at hte
    cases hu:P.underlying t with
    | none=>simp[hu] at hte
    | some u=>cases u<;>simp_all
   cases hs:VB P e with
   | none=>simp[hs] at hd
   | some sz =>
    cases hb:bytesOf P e with
    | none=>simp[hs,hb] at hd
    | some by' =>
     cases hz:dC P e with
     | none=>simp[hs,hb,hz] at hd
     | some z =>
      cases zgc:ZK h x with
      | none=>simp[hs,hb,hz,zgc] at hd
      | some rows =>
       simp only[hs,hb,hz,zgc] at hd
       split at hd
       case isFalse=>simp at hd
       rename_i hzl
       obtain⟨zv,hzv,rfl⟩:=dE hz
       have hzsz:zv.cells.size=sz:=by simpa using hzl
       have pre:rows.all (aR sz)=true->(∀r∈rows,r.length=sz)/\(rows.flatten.all D.one=true):=by
        intro ha
        simp only[Ni,aR,MT,decide_eq_true_eq] at ha
        refine⟨λr hr=>(ha r hr).1,?_⟩
        simp only[Ni,Sh]
        rintro c ⟨r,hr,hc⟩
        exact(ha r hr).2 c hc
       obtain⟨R1,E1⟩:=R.of_heap (w':=w.drew) rfl ⟨rfl,rfl,rfl,(by first|exact M5 _|exact Pc _)⟩
       have zkC:∀{n m:Nat},Um (n+m) by'=true->(n+m)*by'<=140737488355328/\n+m<=4611686018427387904:=by
        intro n m hh;simpa[Um] using hh
       have mk:∀(base:Option Addr) (cap:Nat) (Ω:List (bY)) (y:Value),y=.slice base Ω.length cap->Rel w (Ub O l h) l h s y->ZK h s=some Ω->(∀r∈Ω,r.length=sz) ->
         rows.all (aR sz)=true->Um (Ω.length+rows.length) by'=true->cap<Ω.length+rows.length ->
         ∃(zex:Nat) (cs:BV) (zs rest:At),(OG #[t,tx] ty #[y,yx]).run P w=.ok (.slice (some ⟨w.heap.size,0,none⟩) (Ω++rows).length zex) (w.drew.alloc (.cells cs e)) /\
          cs.toList=zs++rest/\cs.size=zex*sz/\(Ω++rows).length<=zex/\(∀r∈Ω++rows,r.length=sz)/\U1 w.drew (Ub O l h) l h (Ω++rows).flatten zs:=by
        intro base cap Ω y hy ry hor hol ha hro U8
        subst hy
        obtain⟨p1,p2⟩:=pre ha
        obtain⟨g1,_⟩:=cq (P:=P) R rx zgc p1
        obtain⟨_,news,g2,g3⟩:=cq (P:=P) R1 (E1.rel rx) zgc p1
        obtain⟨_,olds,g5,g6⟩:=cq (P:=P) R1 (E1.rel ry) hor hol
        obtain⟨q1,q2⟩:=zkC hro
        obtain⟨zex,q3,q4⟩:=pV (P:=P) (ty:=ty) ht hux hdx hs hb hzv g1 g2 g5 U8 q1 q2
        refine⟨zex,_,olds++news,(OL zv.cells (zex-(Ω.length+rows.length))).toList,by rw[q4,Nv],by simp,?_,by rw[Nv];exact q3,?_,?_⟩
        ·have h1:=g6.length
         have h2:=g3.length
         rw[aA hol] at h1
         rw[aA p1] at h2
         simp only[Array.size_append,Sv,fD,hzsz,<-h1,<-h2,<-O9]
         congr 1;omega
        ·intro r hr
         rcases NY.1 hr with hr|hr
         ·exact hol r hr
         ·exact p1 r hr
        ·rw[OY];exact g6.append g3
       have news:∀(Ω:List (bY)) (y:Value) (base:Option Addr) (cap:Nat),y=.slice base Ω.length cap->Rel w (Ub O l h) l h s y->ZK h s=some Ω->(∀r∈Ω,r.length=sz) ->
         rows.all (aR sz)=true->Um (Ω.length+rows.length) by'=true->cap<Ω.length+rows.length->d=.ref (.T7 h.length 0)->h'=h++[.T7 (Ω++rows) 0 sz] ->
         ∃v w' l',(OG #[t,tx] ty #[y,yx]).run P w=.ok v w'/\UJ Γ O w' l' h'/\Ext w l h w' l' h'/\Rel w' (Ub O l' h') l' h' d v:=by
        intro Ω y base cap hy ry hor hol ha hro U8 hd2 hh2
        obtain⟨zex,cs,zs,rest,k1,k2,k3,k4,k5,k6⟩:=mk base cap Ω y hy ry hor hol ha hro U8
        obtain⟨l',k7,k8,k9⟩:=fN R1 w.drew ⟨rfl,rfl,rfl,rfl,(by first|exact M5 _|exact Pc _)⟩ e cs (Ω++rows) sz zex zs rest k2 k3 k4 k5 k6
        subst hd2;subst hh2
        exact⟨_,_,l',k1,k7,E1.trans k8,k9⟩
       split at hd
       ·-- nil
        simp only[MM,MP,MT] at hd
        obtain⟨⟨ha,hro⟩,rfl,rfl⟩:=hd
        simp only[Rel,UF] at rs
        subst rs
        cases hrl:rows with
        | nil =>
         subst hrl
         obtain⟨g1,nw,g2,g3⟩:=cq (P:=P) R rx zgc (pre ha).1
         obtain⟨l',k7,k8,k9⟩:=zm R sz
         exact⟨_,_,l',hG ht hux hdx hs g1 g2,k7,k8,k9⟩
        | cons r0 rs' =>
         rw[<-hrl]
         exact news [] (.slice none 0 0) none 0 rfl (by simp[Rel,UF]) (by simp[ZK]) (by simp) ha hro (by rw[hrl];simp) rfl (by simp)
       ·-- bI
        rename_i es
        simp only[MM,MP,MT,OC,QR] at hd
        obtain⟨⟨⟨⟨ha,hro⟩,Μ⟩,hel⟩,rfl,rfl⟩:=hd
        have hol:∀r∈es.map (·.map D.p),r.length=sz:=by
         simp only[Ni,decide_eq_true_eq] at hel
         intro r hr
         obtain⟨r0,h0,rfl⟩:=Nt.1 hr
         simpa using hel r0 h0
        have zfV:0<rows.length:=RO.2 Μ
        have rs':=rs
        simp only[Rel] at rs
        rcases rs with ⟨rfl,a0,rfl⟩|⟨T8,off,sz2,rfl,rr⟩
        ·exact news [] _ a0 0 rfl rs' (by simp[ZK]) (by simp) ha hro (by simpa using zfV) rfl (by simp)
        ·exact news (es.map (·.map .p)) _ (some ⟨T8,off,none⟩) es.length (by simp) rs' (by simp[ZK]) hol ha (by simpa using hro) (by simp;omega) rfl rfl
       ·-- a bI part
        rename_i b e' i n kcl
        cases Τ:h[b]? with
        | none=>simp[Τ] at hd
        | some bx =>
         cases bx<;>simp only[Τ,reduceCtorEq] at hd
         rename_i es e2 UX
         split at hd
         case isFalse=>simp at hd
         rename_i he
         obtain⟨rfl,rfl⟩:=he
         simp only[MM,MP,MT,OC,QR] at hd
         obtain⟨⟨⟨⟨ha,hro⟩,Μ⟩,hkn⟩,rfl,rfl⟩:=hd
         have hkn:=of_decide_eq_true hkn
         subst hkn
         have zfV:0<rows.length:=RO.2 Μ
         have rs':=rs
         obtain⟨_,hr⟩:=rs
         simp only[Τ] at hr
         obtain⟨UY,T8,oo,cap,c2,UZ,hy,_,_,hc⟩:=hr.2 trivial
         have Δ:=hc _ rfl
         subst Δ
         have hlen:((es.drop i).take c2).length=c2:=by simp;omega
         have hok:=R.T8 b _ Τ
         simp only[Up,UZ] at hok
         obtain⟨_,_,_,c,T,fr,ys',o1,o2,o3,o4,o5,o6,o7⟩:=hok
         rcases hy with rfl|⟨a0,rfl,_⟩
         ·exact news ((es.drop i).take c2) _ (some _) c2 (by rw[hlen]) rs' (by simp[ZK,Τ]) (λr hr=>o5 r (Pp (Pq hr))) ha (by rw[hlen];exact hro) (by rw[hlen];omega) rfl rfl
         ·exact news ((es.drop i).take c2) _ a0 c2 (by rw[hlen]) rs' (by simp[ZK,Τ]) (λr hr=>o5 r (Pp (Pq hr))) ha (by rw[hlen];exact hro) (by rw[hlen];omega) rfl rfl
       ·-- the rest of a vector
        rename_i b e' i n
        cases Τ:h[b]? with
        | none=>simp[Τ] at hd
        | some bx =>
         cases bx<;>simp only[Τ,reduceCtorEq] at hd
         rename_i es e2 UX
         split at hd
         case isFalse=>simp at hd
         rename_i he
         obtain⟨rfl,rfl,UY⟩:=he
         simp only[MM,MP,MT,OC,QR] at hd
         obtain⟨⟨⟨ha,hro⟩,Μ⟩,rfl,rfl⟩:=hd
         have zfV:0<rows.length:=RO.2 Μ
         have rs':=rs
         obtain⟨_,hr⟩:=rs
         simp only[Τ] at hr
         obtain⟨_,T8,oo,cap,c2,UZ,hy,hnc,hic,_⟩:=hr.2 trivial
         have hlen:(es.drop i).length=n:=by simp;omega
         have hok:=R.T8 b _ Τ
         simp only[Up,UZ] at hok
         obtain⟨o2',cc,rc,c,T,fr,ys',o1,o2,o3,o4,o5,o6,pr,rest,o0,o7⟩:=hok
         obtain⟨rfl,rfl⟩:=co rc
         have hor:ZK h (.ref (.vs b e' i n none))=some (es.drop i):=by
          simp only[ZK,Τ,if_true]
          rw[OJ (by omega)]
         have grow:∀(base:Option Addr),ys=.slice base n c2->c2<n+rows.length ->
           ∃v w' l',(OG #[t,tx] ty #[ys,yx]).run P w=.ok v w'/\UJ Γ O w' l' (h.set b (.T7 (es.drop i++rows) (e'+1) UX))/\Ext w l h w' l' (h.set b (.T7 (es.drop i++rows) (e'+1) UX)) /\
            Rel w' (Ub O l' (h.set b (.T7 (es.drop i++rows) (e'+1) UX))) l' (h.set b (.T7 (es.drop i++rows) (e'+1) UX)) (.ref (.T7 b (e'+1))) v:=by
          intro base hy U8
          obtain⟨zex,cs,zs,rest,k1,k2,k3,k4,k5,k6⟩:=mk base c2 (es.drop i) ys (by rw[hlen];exact hy) rs' hor (λr hr=>o5 r (Pp hr)) ha (by rw[hlen];exact hro) (by rw[hlen];exact U8)
          obtain⟨l',k7,k8,k9⟩:=tH R1 Τ w.drew ⟨rfl,rfl,rfl,rfl,(by first|exact M5 _|exact Pc _)⟩ e cs (es.drop i++rows) zex zs rest k2 k3 k4 k5 k6
          exact⟨_,_,l',k1,k7,E1.trans k8,k9⟩
         rcases hy with hy|⟨a0,hy,U5⟩
         ·by_cases zhB:n+rows.length<=c2
          ·subst hy
           obtain⟨p1,p2⟩:=pre ha
           obtain⟨g1,nw,g2,g3⟩:=cq (P:=P) R rx zgc p1
           have hnl:nw.length=rows.length*UX:=by rw[<-g3.length,aA p1]
           have hcz0:oo+i*UX+c2*UX<=c.size:=by
            have:=OB UX hic
            rw[O9] at this
            omega
           obtain⟨w',c',k1,k2,k3,k4,k5,k6⟩:=jP (P:=P) (ty:=ty) (T:=T) ht hux hdx hs g1 g2 (jn g3 p2) hnl zhB o1 o4 hcz0
           have hyl:ys'.length=i*UX+n*UX:=by rw[<-o6.length,aA o5,<-O9,UY]
           have hfd:(es.drop i).flatten=es.flatten.drop (i*UX):=by
            have:=aP o5 i n (by omega)
            rw[OJ (by omega),OJ (l:=es.flatten.drop (i*UX)) (by rw[OE,aA o5,<-UY,O9];omega)] at this
            exact this
           have hcz:c'.size=c.size:=by
            have hh:=congrArg MO k5
            have h9:=OB UX zhB
            rw[O9] at h9
            simp only[bk,Nv,O5,OE,O6] at hh
            omega
           have:=R.step (w':=w') (l':=l.upd b (some (T8,mkP (oo+i*UX) c2))) (h':=h.set b (.T7 (es.drop i++rows) (e'+1) UX)) b (.T7 (es.drop i++rows) (e'+1) UX) (by omega) k6
            (λi hi=>be _ _ hi) (aK Τ) (λi hi=>Loc.zgG _ _ _ hi)
            (λz hz=>by rw[Τ] at hz;cases hz;exact⟨⟨Pc _,λhh=>absurd hh (by omega),rfl⟩,λhh=>absurd hh (by simp[Q4])⟩)
            (λk hk hno=>k3 k (λee=>hno _ (mkP oo cap) Τ (by simp) (by rw[UZ,ee])))
            (λk cc hk=>by
             rw[Pj] at hk
             cases hk
             exact .inl ⟨_,_,Τ,by simp,UZ⟩)
            (λE=>by
             simp only[Up,Pj]
             refine⟨oo+i*UX,c2,rfl,c',T,fr,ys'.drop (i*UX)++nw,k4,by omega,by rw[Nv,hlen];exact zhB,by rw[hcz];exact o4,?_,?_,pr++ys'.take (i*UX),rest.drop nw.length,?_,?_⟩
             ·intro r hr
              rcases NY.1 hr with hr|hr
              ·exact o5 r (Pp hr)
              ·exact p1 r hr
             ·rw[OY,hfd];exact((E.π o6).drop _).append (E.π g3)
             ·rw[Nv,O5];omega
             ·have e1:oo+i*UX+n*UX=(pr++ys').length:=by rw[Nv];omega
              rw[k5,o7]
              unfold bk
              rw[e1,SU,R6]
              ·simp only[OQ]
               rw[<-OQ (ys'.take _) (ys'.drop _),List.take_append_drop]
               simp
              ·rfl)
           refine⟨_,w',_,k1,this.1,this.2,?_⟩
           simp only[Rel,Ua]
           refine⟨rfl,?_⟩
           rw[aK Τ]
           simp only[Pj,gV]
           exact⟨M5 _,λ_=>⟨_,_,rfl,by rw[Nv,hlen],by rw[Nv,hlen];exact zhB⟩⟩
          ·exact grow _ hy (by omega)
         ·exact grow _ hy (by omega)
       ·-- an owned vector
        rename_i b e'
        cases Τ:h[b]? with
        | none=>simp[Τ] at hd
        | some bx =>
         cases bx<;>simp only[Τ,reduceCtorEq] at hd
         rename_i es e2 UX
         split at hd
         case isFalse=>simp at hd
         rename_i he
         obtain⟨rfl,rfl⟩:=he
         simp only[MM,MP,MT] at hd
         obtain⟨⟨ha,hro⟩,rfl,rfl⟩:=hd
         have rs':=rs
         obtain⟨_,hr⟩:=rs
         simp only[Τ] at hr
         have hv:=hr.2 trivial
         have hok:=R.T8 b _ Τ
         have grow:∀(base:Option Addr) (cap:Nat),ys=.slice base es.length cap->(∀r∈es,r.length=UX)->cap<es.length+rows.length ->
           ∃v w' l',(OG #[t,tx] ty #[ys,yx]).run P w=.ok v w'/\UJ Γ O w' l' (h.set b (.T7 (es++rows) (e'+1) UX))/\Ext w l h w' l' (h.set b (.T7 (es++rows) (e'+1) UX)) /\
            Rel w' (Ub O l' (h.set b (.T7 (es++rows) (e'+1) UX))) l' (h.set b (.T7 (es++rows) (e'+1) UX)) (.ref (.T7 b (e'+1))) v:=by
          intro base cap hy hol U8
          obtain⟨zex,cs,zs,rest,k1,k2,k3,k4,k5,k6⟩:=mk base cap es ys hy rs' (by simp[ZK,Τ]) hol ha hro U8
          obtain⟨l',k7,k8,k9⟩:=tH R1 Τ w.drew ⟨rfl,rfl,rfl,rfl,(by first|exact M5 _|exact Pc _)⟩ e cs (es++rows) zex zs rest k2 k3 k4 k5 k6
          exact⟨_,_,l',k1,k7,E1.trans k8,k9⟩
         cases UZ:l b with
         | none =>
          simp only[UZ,gV,Up] at hv hok
          obtain⟨_,rfl⟩:=hv
          subst hok
          cases hrl:rows with
          | nil =>
           subst hrl
           obtain⟨g1,nw,g2,g3⟩:=cq (P:=P) R rx zgc (pre ha).1
           have:=R.step (w':=w) (l':=l) (h':=h.set b (.T7 ([]++[]) (e'+1) UX)) b (.T7 ([]++[]) (e'+1) UX) (M5 _) ⟨rfl,rfl,rfl,(by first|exact M5 _|exact Pc _)⟩
            (λi hi=>be _ _ hi) (aK Τ) (λ_ _=>rfl)
            (λz hz=>by rw[Τ] at hz;cases hz;exact⟨⟨Pc _,λhh=>absurd hh (by omega),rfl⟩,λhh=>absurd hh (by simp[Q4])⟩)
            (λ_ _ _=>rfl) (λk c hk=>by rw[UZ] at hk;simp at hk) (λE=>by simp[Up,UZ])
           refine⟨_,_,l,hG ht hux hdx hs g1 g2,this.1,this.2,?_⟩
           simp only[Rel,Ua]
           refine⟨rfl,?_⟩
           rw[aK Τ]
           simp[gV,UZ]
          | cons r0 rs2 =>
           rw[<-hrl]
           exact grow none 0 rfl (by simp) (by rw[hrl];simp)
         | some pr =>
          obtain⟨T8,cp0⟩:=pr
          simp only[UZ,gV,Up] at hv hok
          obtain⟨oo,cap,rfl,rfl,hvl⟩:=hv
          obtain⟨o2',cc,rc,c,T,fr,ys',o1,o2,o3,o4,o5,o6,pr,rest,o0,o7⟩:=hok
          obtain⟨rfl,rfl⟩:=co rc
          by_cases zhB:es.length+rows.length<=cap
          ·obtain⟨p1,p2⟩:=pre ha
           obtain⟨g1,nw,g2,g3⟩:=cq (P:=P) R rx zgc p1
           have hnl:nw.length=rows.length*UX:=by rw[<-g3.length,aA p1]
           obtain⟨w',c',k1,k2,k3,k4,k5,k6⟩:=jP (P:=P) (ty:=ty) (T:=T) ht hux hdx hs g1 g2 (jn g3 p2) hnl zhB o1 o4 o2
           have hyl:ys'.length=es.length*UX:=by rw[<-o6.length,aA o5]
           have hcz:c'.size=c.size:=by
            have hh:=congrArg MO k5
            have hcl:c.toList.length=pr.length+ys'.length+rest.length:=by rw[o7];simp only[Nv]
            have h9:=OB UX zhB
            rw[O9] at h9
            simp only[bk,Nv,O5,OE,O6] at hh hcl
            omega
           have:=R.step (w':=w') (l':=l) (h':=h.set b (.T7 (es++rows) (e'+1) UX)) b (.T7 (es++rows) (e'+1) UX) (by omega) k6
            (λi hi=>be _ _ hi) (aK Τ) (λ_ _=>rfl)
            (λz hz=>by rw[Τ] at hz;cases hz;exact⟨⟨Pc _,λhh=>absurd hh (by omega),rfl⟩,λhh=>absurd hh (by simp[Q4])⟩)
            (λk hk hno=>k3 k (λee=>hno _ (mkP oo cap) Τ (by simp) (by rw[UZ,ee])))
            (λk cc hk=>.inl ⟨_,cc,Τ,by simp,hk⟩)
            (λE=>by
             simp only[Up,UZ]
             refine⟨oo,cap,rfl,c',T,fr,ys'++nw,k4,by omega,by simpa using zhB,by rw[hcz];exact o4,?_,?_,pr,rest.drop nw.length,o0,?_⟩
             ·intro r hr
              rcases NY.1 hr with hr|hr
              ·exact o5 r hr
              ·exact p1 r hr
             ·rw[OY];exact(E.π o6).append (E.π g3)
             ·rw[k5,o7]
              unfold bk
              have e1:oo+es.length*UX=(pr++ys').length:=by rw[Nv];omega
              rw[e1,SU,R6]
              ·simp
              ·rfl)
           refine⟨_,w',l,k1,this.1,this.2,?_⟩
           simp only[Rel,Ua]
           refine⟨rfl,?_⟩
           rw[aK Τ]
           simp only[UZ,gV]
           exact⟨M5 _,λ_=>⟨_,_,rfl,by rw[Nv],by rw[Nv];exact zhB⟩⟩
          ·exact grow (some ⟨T8,oo,none⟩) cap rfl o5 (by omega)
       ·simp at hd
end
section
variable {P:Program} {Γ:aq} {O:Nat->Prop} {w:World} {l:Loc} {h:aT}
theorem aC{av:Nat->Prop}{x y:Value}(r:Rel w av l h (.p (.v x)) y):y=x:=by simpa[Rel,UF] using r
theorem eqS_eq(a b:ByteArray):(a.toList==b.toList)=eqS a b:=by simp[eqS,SQ]
theorem jQ{op:BinOp}{k:IntKind}{a b n:Int}(hb:AQ op k a b=some n)(w:World):(Op.intBits op k a b).run P w=.ok (.int k n) w:=by
 unfold AQ at hb
 cases op<;>simp only[MM,reduceCtorEq] at hb<;>subst hb<;>rfl
theorem zkP{op:BinOp}{k:IntKind}{t:TypeId}{a b:Int}{d:D}(hd:zmf op k a b=some (true,d))(w:World):
  ∃v,(binOp op t (.int k a) (.int k b)).run P w=.ok v w/\Rel w (Ub O l h) l h d v:=by
 cases op<;>simp only[zmf,MM,MP,true_and,MV] at hd
 case quo =>
  obtain⟨h1,rfl⟩:=hd
  simp only[OC,decide_eq_false_iff_not] at h1
  exact⟨_,by simp[binOp,Op.intDiv,h1],Ul _ _ _ _ _⟩
 case rem =>
  obtain⟨h1,rfl⟩:=hd
  simp only[OC,decide_eq_false_iff_not] at h1
  exact⟨_,by simp[binOp,Op.intDiv,h1],Ul _ _ _ _ _⟩
 case add=>subst hd;exact⟨_,by simp[binOp,Sw],Ul _ _ _ _ _⟩
 case sub=>subst hd;exact⟨_,by simp[binOp,Sw],Ul _ _ _ _ _⟩
 case mul=>subst hd;exact⟨_,by simp[binOp,Sw],Ul _ _ _ _ _⟩
 case eql=>subst hd;exact⟨_,by simp[binOp,RV],Ul _ _ _ _ _⟩
 case neq=>subst hd;exact⟨_,by simp[binOp,RV],Ul _ _ _ _ _⟩
 case lss=>subst hd;exact⟨_,by simp[binOp,RV],Ul _ _ _ _ _⟩
 case leq=>subst hd;exact⟨_,by simp[binOp,RV],Ul _ _ _ _ _⟩
 case gtr=>subst hd;exact⟨_,by simp[binOp,RV],Ul _ _ _ _ _⟩
 case geq=>subst hd;exact⟨_,by simp[binOp,RV],Ul _ _ _ _ _⟩
 case and=>obtain⟨n,h1,rfl⟩:=hd;exact⟨_,by simpa[binOp] using jQ h1 w,Ul _ _ _ _ _⟩
 case or=>obtain⟨n,h1,rfl⟩:=hd;exact⟨_,by simpa[binOp] using jQ h1 w,Ul _ _ _ _ _⟩
 case xor=>obtain⟨n,h1,rfl⟩:=hd;exact⟨_,by simpa[binOp] using jQ h1 w,Ul _ _ _ _ _⟩
 case andNot=>obtain⟨n,h1,rfl⟩:=hd;exact⟨_,by simpa[binOp] using jQ h1 w,Ul _ _ _ _ _⟩
 all_goals (obtain⟨n,h1,rfl⟩:=hd;simp[AQ] at h1)
theorem A1{op:BinOp}{t:TypeId}{a b:ByteArray}{d:D}(hd:zlH op a b=some (true,d))(w:World):
  ∃v,(binOp op t (.string a) (.string b)).run P w=.ok v w/\Rel w (Ub O l h) l h d v:=by
 cases op<;>simp only[zlH,MM,MP,true_and,reduceCtorEq] at hd
 case add =>
  obtain⟨h1,rfl⟩:=hd
  have h2:¬(((a.size+b.size:Nat):Int)>ML.max):=by
   have:ML.max=9223372036854775807:=rfl
   rw[this];simp only[decide_eq_true_eq] at h1;omega
  exact⟨_,by simp only[binOp,Op.stringOp,h2,if_false];rfl,Ul _ _ _ _ _⟩
 all_goals
  subst hd
  refine⟨_,by simp only[binOp,Op.stringOp,SQ];rfl,Ul _ _ _ _ _⟩
theorem zn{op:BinOp}{t:TypeId}{xo yo:Operand}{x y d:D}{a b:Value}(rx:Rel w (Ub O l h) l h x a)(ry:Rel w (Ub O l h) l h y b)(hd:binD op x y=some (true,d)):
  ∃v,(do eqGuard op t xo yo a b;binOp op t a b:Sem Value).run P w=.ok v w/\Rel w (Ub O l h) l h d v:=by
 unfold binD at hd
 split at hd
 ·rename_i k n k' m
  obtain rfl:=aC rx
  obtain rfl:=aC ry
  have hg:(eqGuard op t xo yo (.int k n) (.int k' m)).run P w=.ok () w:=by
   unfold eqGuard
   cases op<;>simp
  simp only[M8,hg,M1]
  split at hd
  ·simp only[MM,MP,decide_eq_true_eq] at hd
   obtain⟨h1,rfl⟩:=hd
   exact⟨_,by simp[binOp,Op.shift,Qp.2 h1],Ul _ _ _ _ _⟩
  ·simp only[MM,MP,decide_eq_true_eq] at hd
   obtain⟨h1,rfl⟩:=hd
   exact⟨_,by simp[binOp,Op.shift,Qp.2 h1],Ul _ _ _ _ _⟩
  ·split at hd
   ·rename_i hk;subst hk;exact zkP hd w
   ·simp at hd
 ·rename_i s u
  obtain rfl:=aC rx
  obtain rfl:=aC ry
  have hg:(eqGuard op t xo yo (.string s) (.string u)).run P w=.ok () w:=by
   unfold eqGuard
   cases op<;>simp
  simp only[M8,hg,M1]
  exact A1 hd w
 ·simp at hd
theorem A2{op:UnOp}{x d:D}{a:Value}(rx:Rel w (Ub O l h) l h x a)(hd:unD op x=some d):∃v,(TR op a).run P w=.ok v w/\Rel w (Ub O l h) l h d v:=by
 unfold unD at hd
 split at hd
 ·obtain rfl:=aC rx
  split at hd
  ·cases hd;exact⟨_,by simp[TR,Sw],Ul _ _ _ _ _⟩
  ·simp only[MV] at hd
   obtain⟨n,h1,rfl⟩:=hd
   exact⟨_,by simpa[TR] using jQ h1 w,Ul _ _ _ _ _⟩
  ·simp at hd
 ·obtain rfl:=aC rx
  split at hd
  ·cases hd;exact⟨_,by simp[TR],Ul _ _ _ _ _⟩
  ·simp at hd
 ·simp at hd
theorem vL{c x y d:D}{vc vx vy:Value}(rc:Rel w (Ub O l h) l h c vc)(rx:Rel w (Ub O l h) l h x vx)(ry:Rel w (Ub O l h) l h y vy)(hd:zga c x y=some (true,d)):
  ∃v,(do pure (.value (if <-asBool vc then vx else vy)):Sem Next).run P w=.ok (.value v) w/\Rel w (Ub O l h) l h d v:=by
 unfold zga at hd
 split at hd
 case h_2=>simp at hd
 rename_i b
 obtain rfl:=aC rc
 split at hd
 ·cases hd
  obtain rfl:=aC rx
  obtain rfl:=aC ry
  cases b
  ·exact⟨_,by simp[asBool],Ul _ _ _ _ _⟩
  ·exact⟨_,by simp[asBool],Ul _ _ _ _ _⟩
 ·simp only[MM,MP,Rr] at hd
  obtain⟨hg,rfl⟩:=hd
  obtain rfl:=aC rx
  cases b
  ·simp only[Rel] at ry
   have:=ry.1 (by simpa using hg)
   simp only[UF] at this
   subst this
   exact⟨_,by simp[asBool],Ul _ _ _ _ _⟩
  ·exact⟨_,by simp[asBool],Ul _ _ _ _ _⟩
 ·simp only[MM,MP,Rr] at hd
  obtain⟨hg,rfl⟩:=hd
  obtain rfl:=aC ry
  cases b
  ·exact⟨_,by simp[asBool],Ul _ _ _ _ _⟩
  ·simp only[Rel] at rx
   have:=rx.1 (by simpa using hg)
   simp only[UF] at this
   subst this
   exact⟨_,by simp[asBool],Ul _ _ _ _ _⟩
 ·cases hd
  cases b
  ·exact⟨_,by simp[asBool],ry⟩
  ·exact⟨_,by simp[asBool],rx⟩
theorem vN{src dst:TypeId}{x d:D}{a:Value}(rx:Rel w (Ub O l h) l h x a)(hd:Iu P src dst x=some d):
  ∃v,(convert src dst a).run P w=.ok v w/\Rel w (Ub O l h) l h d v:=by
 unfold Iu at hd
 split at hd
 ·rename_i s k n h1 h2
  cases hd
  obtain rfl:=aC rx
  refine⟨_,?_,Ul _ _ _ _ _⟩
  simp only[convert,M8,Uk h1,Uk h2,M1,Conv.intToInt,Ny]
 ·rename_i s n h1 h2
  cases hd
  obtain rfl:=aC rx
  refine⟨_,?_,Ul _ _ _ _ _⟩
  simp only[convert,M8,Uk h1,Uk h2,M1]
  cases s<;>simp
 ·simp at hd
theorem gm{mx:Bool}{t:TypeId}{ts:ON}:∀{xs:bY} {x d:D} {a:Value} {vs:At} (_:Rel w (Ub O l h) l h x a) (_:U1 w (Ub O l h) l h xs vs) (_:kX mx x xs=some d),
  ∃v,(vs.foldlM (if mx then Builtin.max2 else Builtin.min2) a).run P w=.ok v w/\Rel w (Ub O l h) l h d v
 | [],x,d,a,[],rx,_,hd=>by simp only[kX,MM] at hd;subst hd;exact⟨a,by simp,rx⟩
 | y::xs,x,d,a,v::vs,rx,rl,hd=>by
  simp only[U1] at rl
  simp only[kX] at hd
  cases h1:VC x with
  | none=>simp[h1] at hd
  | some p1 =>
   cases h2:VC y with
   | none=>simp[h1,h2] at hd
   | some p2 =>
    obtain⟨k,n⟩:=p1
    obtain⟨k2,m⟩:=p2
    simp only[h1,h2] at hd
    obtain rfl:=bB rx h1
    obtain rfl:=bB rl.1 h2
    obtain⟨v,h3,h4⟩:=gm (t:=t) (ts:=ts) (a:=.int k (if mx then (if m>n then m else n) else (if m<n then m else n))) (Ul _ _ _ _ _) rl.2 hd
    refine⟨v,?_,h4⟩
    rw[List.foldlM_cons,M8]
    cases mx<;>simpa[Builtin.max2,Builtin.min2] using h3
 | [],_,_,_,_::_,_,rl,_=>by simp[U1] at rl
 | _::_,_,_,_,[],_,rl,_=>by simp[U1] at rl
theorem zo{x:D}{y:Value}{n:Nat}(rx:Rel w (Ub O l h) l h x y)(hx:zdP h x=some n):∃a c,y=.slice a n c:=by
 cases x with
 | p dp =>
  cases dp with
  | v x =>
   obtain rfl:=aC rx
   cases y<;>simp[zdP] at hx
   case slice a m c=>cases a<;>cases m<;>cases c<;>simp at hx;subst hx;exact⟨_,_,rfl⟩
  | sl es =>
   simp only[zdP,MM] at hx
   subst hx
   simp only[Rel,UF] at rx
   rcases rx with ⟨rfl,_,_,rfl,_⟩|⟨T8,off,cap,sz,rfl,_,rr⟩<;>exact⟨_,_,rfl⟩
 | csl es =>
  simp only[zdP,MM] at hx
  subst hx
  simp only[Rel] at rx
  rcases rx with ⟨rfl,_,rfl⟩|⟨T8,off,sz,rfl,rr⟩<;>exact⟨_,_,rfl⟩
 | ref r =>
  obtain⟨g1,hr⟩:=rx
  cases r with
  | T7 b e =>
   simp only[zdP] at hx hr
   cases hb:h[b]? with
   | none=>simp[hb] at hx
   | some bx =>
    cases bx<;>simp only[hb,reduceCtorEq] at hx hr
    split at hx
    case isFalse=>simp at hx
    rename_i he
    cases hx
    have hv:=hr.2 he.symm
    cases UZ:l b with
    | none=>simp only[UZ,gV] at hv;rw[hv.1,hv.2];exact⟨_,_,rfl⟩
    | some pr=>obtain⟨T8,cap⟩:=pr;simp only[UZ,gV] at hv;obtain⟨_,_,_,rfl,_⟩:=hv;exact⟨_,_,rfl⟩
  | vs b e i m c =>
   simp only[zdP] at hx hr
   cases hb:h[b]? with
   | none=>simp[hb] at hx
   | some bx =>
    cases bx<;>simp only[hb,reduceCtorEq] at hx hr
    split at hx
    case isFalse=>simp at hx
    rename_i he
    cases hx
    obtain⟨_,T8,oo,cap,c2,_,hy,_⟩:=hr.2 he.symm
    rcases hy with rfl|⟨_,rfl,_⟩<;>exact⟨_,_,rfl⟩
  | av b off m sz =>
   simp only[zdP] at hx hr
   cases hb:h[b]? with
   | none=>simp[hb] at hx
   | some bx =>
    cases bx<;>simp only[hb,reduceCtorEq] at hx hr
    cases hx
    obtain⟨T8,cp,c2,_,rfl,_⟩:=hr
    exact⟨_,_,rfl⟩
  | _=>simp[zdP] at hx
 | _=>simp[zdP] at hx
theorem hJ:∀(WV:List (D×D×Nat)) (es:List MapEntry),Uq w (Ub O l h) l h WV es->WV.length=es.length
 | [],[],_=>rfl
 | (_,_,_)::WV,e::es,r=>by simp only[Uq] at r;simp[hJ WV es r.2.2.2]
 | [],_::_,r=>by simp[Uq] at r
 | _::_,[],r=>by simp[Uq] at r
theorem vO(R:UJ Γ O w l h){t ty:TypeId}{ts:On}{x d:D}{y:Value}(rx:Rel w (Ub O l h) l h x y)(hd:tA P h t x=some d):
  ∃v,(Qt (t::ts).toArray ty #[y]).run P w=.ok v w/\Rel w (Ub O l h) l h d v:=by
 unfold tA at hd
 cases hu:P.underlying t with
 | none=>simp[hu] at hd
 | some u =>
  cases u<;>simp only[hu,reduceCtorEq,MV,MM] at hd
  case array n e=>subst hd;exact⟨_,by simp[Qt,Uk hu,goInt],Ul _ _ _ _ _⟩
  case string =>
   split at hd
   ·cases hd
    obtain rfl:=aC rx
    exact⟨_,by simp[Qt,Uk hu,goInt],Ul _ _ _ _ _⟩
   ·simp at hd
  case slice e =>
   obtain⟨n,h1,rfl⟩:=hd
   obtain⟨a,c,rfl⟩:=zo rx h1
   exact⟨_,by simp[Qt,Uk hu,goInt],Ul _ _ _ _ _⟩
  case map kt et =>
   split at hd
   ·cases hd
    obtain rfl:=aC rx
    exact⟨_,by simp[Qt,Uk hu,goInt],Ul _ _ _ _ _⟩
   ·rename_i b
    cases hb:h[b]? with
    | none=>simp[hb] at hd
    | some bx =>
     obtain⟨_,hr⟩:=rx
     cases bx<;>simp only[hb,reduceCtorEq,MM] at hd hr
     subst hd
     obtain⟨T8,cp,UZ,rfl⟩:=hr
     obtain⟨zbY,cp',es,h1,h2,h3⟩:=R.T8 b _ hb
     obtain⟨rfl,rfl⟩:T8=zbY/\cp=cp':=by simpa[UZ] using h1
     refine⟨_,?_,Ul _ _ _ _ _⟩
     simp[Qt,Uk hu,getObj,Sem.run,h2,goInt,hJ _ _ h3]
   ·simp at hd
end
section
variable {P:Program} {Γ:aq} {O:Nat->Prop} {w:World} {l:Loc} {h:aT}
theorem nL:∀(vs:At) (k off:Nat) (cs:BV),off+k+vs.length<=cs.size ->
  ((vs.zipIdx k).foldl (λcs (p:Value×Nat)=>cs.setIfInBounds (off+p.2) p.1) cs).toList=bk cs.toList (off+k) vs
 | [],k,off,cs,_=>by simp[bk]
 | v::vs,k,off,cs,hl=>by
  simp only[Nq] at hl
  simp only[List.zipIdx_cons,List.foldl_cons]
  rw[nL vs (k+1) off (cs.setIfInBounds (off+k) v) (by simp;omega)]
  simp only[bk,Array.toList_setIfInBounds,Nq]
  have U8:off+k<cs.toList.length:=by simp;omega
  rw[List.drop_set,if_pos (by omega)]
  have h8:(cs.toList.set (off+k) v).take (off+(k+1))=cs.toList.take (off+k)++[v]:=by
   rw[show off+(k+1)=(off+k)+1 by omega,List.take_succ_eq_append_getElem (by simpa using U8),List.take_set,List.set_eq_of_length_le (by simp;omega)]
   simp
  rw[h8,show off+(k+1)+vs.length=off+k+(vs.length+1) by omega]
  simp
theorem tI(vs:BV)(off:Nat)(cs:BV)(hl:off+vs.size<=cs.size):
  (vs.zipIdx.foldl (λcs (p:Value×Nat)=>cs.setIfInBounds (off+p.2) p.1) cs).toList=bk cs.toList off vs.toList:=by
 have:=nL vs.toList 0 off cs (by simpa using hl)
 rw[<-Array.foldl_toList,Array.toList_zipIdx]
 simpa using this
theorem iK{place:Nat->Option (Nat×Nat)}:∀{ps:List (Nat×D)} {qs:List (Nat×Value)} {cs cs':bY} {vs:BV},ps.length=qs.length ->
  (∀(j:Nat) (p:Nat×D) (q:Nat×Value),ps[j]? = some p->qs[j]? = some q->p.1=q.1/\Rel w (Ub O l h) l h p.2 q.2)->U1 w (Ub O l h) l h cs vs.toList->tm place cs ps=some cs' ->
  ∃vs',Instr.fill place vs qs=some vs'/\U1 w (Ub O l h) l h cs' vs'.toList/\vs'.size=vs.size
 | [],[],cs,cs',vs,_,_,r,hd=>by simp only[tm,MM] at hd;subst hd;exact⟨vs,rfl,r,rfl⟩
 | p::ps,q::qs,cs,cs',vs,hl,hp,r,hd=>by
  obtain⟨i,d⟩:=p
  obtain⟨i',y⟩:=q
  obtain⟨rfl,rd⟩:=hp 0 (i,d) (i',y) (by simp) (by simp)
  simp only[tm] at hd
  cases hpl:place i with
  | none=>simp[hpl] at hd
  | some os =>
   obtain⟨off,size⟩:=os
   cases hc:d.cells with
   | none=>simp[hpl,hc] at hd
   | some new =>
    simp only[hpl,hc] at hd
    split at hd
    case isFalse=>simp at hd
    rename_i zjm
    obtain⟨g1,g2⟩:=zjm
    obtain⟨c1,c2⟩:=eJ rd hc
    have hys:y.cells.size=size:=by rw[<-g1,c1.length];simp
    have hcl:=r.length
    have hvs:vs.toList.length=vs.size:=by simp
    have hsp:=tI y.cells off vs (by omega)
    have rsp:U1 w (Ub O l h) l h (bm cs off new) (y.cells.zipIdx.foldl (λcs (p:Value×Nat)=>cs.setIfInBounds (off+p.2) p.1) vs).toList:=by
     rw[hsp];exact r.zgH off c1
    obtain⟨vs',f1,f2,f3⟩:=iK (ps:=ps) (qs:=qs) (by simpa using hl) (λj p q h1 h2=>hp (j+1) p q (by simpa using h1) (by simpa using h2)) rsp hd
    refine⟨vs',?_,f2,?_⟩
    ·simp only[Instr.fill,hpl]
     rw[if_neg]
     ·exact f1
     ·simp[hys];omega
    ·rw[f3]
     have:=congrArg MO hsp
     simp only[bk,Nv,O5,OE,O6] at this
     omega
 | [],_::_,_,_,_,hl,_,_,_=>by simp at hl
 | _::_,[],_,_,_,hl,_,_,_=>by simp at hl
theorem zp{fields:List Field}{pl:List (Nat×Nat)}(hp:fields.mapM (λf=>(VB P f.type).map λn=>(f.offset,n))=some pl)(w:World):
  (fields.mapM (λf=>(do pure (f.offset,<-sizeOf f.type):Sem (Nat×Nat)))).run P w=.ok pl w:=by
 induction fields generalizing pl with
 | nil=>simp at hp;subst hp;simp
 | cons f fs ih =>
  simp only[Tc,Option.bind_eq_bind,Option.bind_eq_some_iff,MV,Option.pure_def,MM] at hp
  obtain⟨p,⟨n,h1,rfl⟩,pl',h2,rfl⟩:=hp
  have:=ih h2
  simp only[Tc,M8,UM h1,M1,Ny] at this ⊢
  rw[this]
  simp
theorem tJ{t:TypeId}{ps:List (Nat×D)}{qs:List (Nat×Value)}{d:D}(hl:ps.length=qs.length)
  (hp:∀(j:Nat) (p:Nat×D) (q:Nat×Value),ps[j]? = some p->qs[j]? = some q->p.1=q.1/\Rel w (Ub O l h) l h p.2 q.2) (hd:AP P t ps=some d) :
  ∃v,(Td t qs.toArray).run P w=.ok v w/\Rel w (Ub O l h) l h d v:=by
 unfold AP at hd
 cases hu:P.underlying t with
 | none=>simp[hu] at hd
 | some u =>
  cases hz:dC P t with
  | none=>cases u<;>simp[hu,hz] at hd
  | some z =>
   obtain⟨zv,hzv,rfl⟩:=dE hz
   cases u<;>simp only[hu,hz,reduceCtorEq] at hd
   case struct fields =>
    cases hpl:xw P fields with
    | none=>simp[hpl] at hd
    | some pl =>
     simp only[hpl,MV] at hd
     obtain⟨cs,h1,rfl⟩:=hd
     obtain⟨vs',f1,f2,_⟩:=iK hl hp (U1.lits zv.cells.toList) h1
     refine⟨.agg vs',?_,by simp only[Rel];exact⟨_,rfl,f2⟩⟩
     have hm:(fields.mapM (λf=>(do pure (f.offset,<-sizeOf f.type):Sem (Nat×Nat)))).run P w=.ok pl.toArray w:=by
      rw[<-Array.toArray_toList (xs:=fields)]
      rw[List.mapM_toArray]
      simp only[Sem.run_map,zp hpl w,M1]
     simp only[Td,M8,δ hzv,M1,Uk hu,hm]
     have:(λ(i:Nat)=>pl.toArray[i]?)=(λ(i:Nat)=>pl[i]?):=by funext i;simp
     rw[this,f1]
     simp
   case array n e =>
    cases hs:VB P e with
    | none=>simp[hs] at hd
    | some sz =>
     simp only[hs,MV] at hd
     obtain⟨cs,h1,rfl⟩:=hd
     obtain⟨vs',f1,f2,_⟩:=iK hl hp (U1.lits zv.cells.toList) h1
     refine⟨.agg vs',?_,by simp only[Rel];exact⟨_,rfl,f2⟩⟩
     simp only[Td,M8,δ hzv,M1,Uk hu,UM hs,f1,Ny]
theorem fO{z:BV}{sz:Nat}(hz:z.size=sz):∀n,(List.range (n*sz)).map (λi=>z[i % z.size]!)=(MS n z.toList).flatten
 | 0=>by simp
 | n+1=>by
  rw[Nat.succ_mul,List.range_add,List.map_append,fO hz n,List.replicate_succ',OY]
  congr 1
  rw[List.map_map]
  apply List.ext_getElem
  ·simp[hz]
  ·intro i h1 h2
   simp only[N1,List.length_range] at h1
   have:(n*sz+i) % sz=i:=by rw[Nat.add_comm,Nat.add_mul_mod_self_right,Nat.mod_eq_of_lt h1]
   simp[hz,this,h1]
theorem zfc{z:At}:∀n,U1 w (Ub O l h) l h (MS n (z.map lit)).flatten (MS n z).flatten
 | 0=>by simp[U1]
 | n+1=>by simp only[List.replicate_succ,N0];exact(U1.lits z).append (zfc n)
theorem bQ{t e:TypeId}(hte:dz P t=some e):P.underlying t=some (.slice e):=by
 unfold dz at hte
 cases hu:P.underlying t with
 | none=>simp[hu] at hte
 | some u=>cases u<;>simp_all
theorem kZ(R:UJ Γ O w l h){t:TypeId}{len:Nat}{ps:List (Nat×D)}{qs:List (Nat×Value)}{d:D}{h':aT}(hl:ps.length=qs.length)
  (hp:∀(j:Nat) (p:Nat×D) (q:Nat×Value),ps[j]? = some p->qs[j]? = some q->p.1=q.1/\Rel w (Ub O l h) l h p.2 q.2) (hd:eL P h t len ps=some (d,h')) :
  ∃v w' l',(Sb t len qs.toArray).run P w=.ok v w'/\UJ Γ O w' l' h'/\Ext w l h w' l' h'/\Rel w' (Ub O l' h') l' h' d v:=by
 unfold eL at hd
 cases hte:dz P t with
 | none=>simp[hte] at hd
 | some e =>
  have ht:=bQ hte
  cases hs:VB P e with
  | none=>simp[hte,hs] at hd
  | some sz =>
   cases hz:dC P e with
   | none=>simp[hte,hs,hz] at hd
   | some z =>
    obtain⟨zv,hzv,rfl⟩:=dE hz
    simp only[hte,hs,hz] at hd
    split at hd
    case isFalse=>simp at hd
    rename_i hc
    obtain⟨g1,g2⟩:=hc
    have hzs:zv.cells.size=sz:=by simpa using g1
    cases hf:tm (λi=>some (i*sz,sz)) (MS len (zv.cells.toList.map lit)).flatten ps with
    | none=>simp[hf] at hd
    | some cs =>
     simp only[hf,MM,MP] at hd
     obtain⟨rfl,rfl⟩:=hd
     have zgl:U1 w (Ub O l h) l h (MS len (zv.cells.toList.map lit)).flatten ((PD (len*sz)).map (λi=>zv.cells[i % zv.cells.size]!)).toList:=by
      rw[Qu,QE,fO hzs];exact zfc len
     obtain⟨vs',f1,f2,f3⟩:=iK hl hp zgl hf
     have hvs:vs'.size=len*sz:=by rw[f3];simp
     have hcl:cs.length=len*sz:=by rw[f2.length];simp[hvs]
     obtain⟨c1,c2,c3⟩:=jN (n:=sz) len cs (by rw[hcl,Nat.mul_comm];exact M5 _)
     rw[OJ (by rw[hcl,Nat.mul_comm];exact M5 _)] at c1
     obtain⟨l',k7,k8,k9⟩:=fN R w ⟨rfl,rfl,rfl,rfl,M5 _⟩ e vs' (chunk sz len cs) sz len vs'.toList [] (by simp) hvs (by omega) c2 (by rw[c1];exact f2)
     refine⟨.slice (some ⟨w.heap.size,0,none⟩) len len,_,l',?_,k7,k8,by rw[c3] at k9;exact k9⟩
     have hbig:¬(len*sz>2 ^ 24):=by omega
     by_cases h0:len*sz=0
     ·have e0:(PD (len*sz)).map (λi=>zv.cells[i % zv.cells.size]!)=(PD (len*sz)).map (λi=>(#[]:BV)[i % 0]!):=by rw[h0];simp
      rw[e0] at f1
      simp only[Sb,M8,Uk ht,M1,UM hs,RF,h0,if_true,Ny] at f1 ⊢
      simp only[Sv,List.length_nil,f1,newRow,M8,run_newObj,M1,Ny,Su]
      rw[if_neg (by omega)]
     ·simp only[Sb,M8,Uk ht,M1,UM hs,RF,hbig,if_false,h0,δ hzv,Ny,f1,newRow,run_newObj,Su]
theorem vP(R:UJ Γ O w l h){t:TypeId}{x y d:D}{a b:Value}{h':aT}(rx:Rel w (Ub O l h) l h x a)(ry:Rel w (Ub O l h) l h y b)(hd:rK P h t x y=some (true,d,h')):
  ∃v w' l',(P5 t a b).run P w=.ok v w'/\UJ Γ O w' l' h'/\Ext w l h w' l' h'/\Rel w' (Ub O l' h') l' h' d v:=by
 unfold rK at hd
 cases hte:dz P t with
 | none=>simp[hte] at hd
 | some e =>
  have ht:=bQ hte
  cases h1:VC x with
  | none=>simp[hte,h1] at hd
  | some p1 =>
   cases h2:VC y with
   | none=>simp[hte,h1,h2] at hd
   | some p2 =>
    obtain⟨k1,n⟩:=p1
    obtain⟨k2,c⟩:=p2
    obtain rfl:=bB rx h1
    obtain rfl:=bB ry h2
    simp only[hte,h1,h2] at hd
    cases hs:VB P e with
    | none=>simp[hs] at hd
    | some sz =>
     cases hb:bytesOf P e with
     | none=>simp[hs,hb] at hd
     | some by' =>
      cases hz:dC P e with
      | none=>simp[hs,hb,hz] at hd
      | some z =>
       obtain⟨zv,hzv,rfl⟩:=dE hz
       simp only[hs,hb,hz] at hd
       split at hd
       case isFalse=>simp at hd
       rename_i g1
       have hzs:zv.cells.size=sz:=by simpa using g1
       simp only[MM,MP,MT,decide_eq_true_eq] at hd
       obtain⟨⟨⟨⟨q1,q2⟩,q3⟩,q4⟩,rfl,rfl⟩:=hd
       obtain⟨i,hi,hib⟩:=gk hb
       have hwn:ML.wrap n=n:=Rj _ (by omega)
       have hwc:ML.wrap c=c:=Rj _ (by omega)
       obtain⟨l',k7,k8,k9⟩:=fN R w ⟨rfl,rfl,rfl,rfl,M5 _⟩ e ((PD (c.toNat*sz)).map (λi=>zv.cells[i % zv.cells.size]!)) (MS n.toNat (zv.cells.toList.map lit)) sz c.toNat
        (MS n.toNat zv.cells.toList).flatten (MS (c.toNat-n.toNat) zv.cells.toList).flatten
        (by rw[Qu,QE,fO hzs,<-OY,List.replicate_append_replicate];congr 2;omega) (by simp) (by simp;omega)
        (by intro r hr;rw[P6 hr];simp[hzs]) (zfc _)
       refine⟨.slice (some ⟨w.heap.size,0,none⟩) n.toNat c.toNat,_,l',?_,k7,k8,by simpa using k9⟩
       have hti:(typeInfo e).run P w=.ok i w:=by simp[typeInfo,hi]
       have t1:¬(c<0\/281474976710656<(i.bytes:Int)*c):=by
        rw[hib];rw[Int.mul_comm] at q3;omega
       have e0:c.toNat*sz=0->(PD (c.toNat*sz)).map (λi=>zv.cells[i % zv.cells.size]!)=(PD (c.toNat*sz)).map (λi=>(#[]:BV)[i % 0]!):=λh0=>by rw[h0];simp
       by_cases h0:c.toNat*sz=0
       ·rw[e0 h0]
        simp[P5,Uk ht,asInt,asIntOf,hti,hwn,hwc,q1,Qp.2 q1,Qp.2 q2,UM hs,h0,newRow]
        exact λhh=>absurd hh t1
       ·simp[P5,Uk ht,asInt,asIntOf,hti,hwn,hwc,q1,Qp.2 q1,Qp.2 q2,UM hs,h0,newRow,δ hzv]
        exact λhh=>absurd hh t1
theorem pW(R:UJ Γ O w l h){t:TypeId}{x y d:D}{a b:Value}{h':aT}(rx:Rel w (Ub O l h) l h x a)(ry:Rel w (Ub O l h) l h y b)(hd:mT P h t x y=some (true,d,h')):
  ∃v w' l',(P5 t a b).run P w=.ok v w'/\UJ Γ O w' l' h'/\Ext w l h w' l' h'/\Rel w' (Ub O l' h') l' h' d v:=by
 unfold mT at hd
 cases hte:dz P t with
 | none=>simp[hte] at hd
 | some e =>
  have ht:=bQ hte
  cases h1:VC x with
  | none=>simp[hte,h1] at hd
  | some p1 =>
   cases h2:VC y with
   | none=>simp[hte,h1,h2] at hd
   | some p2 =>
    obtain⟨k1,n⟩:=p1
    obtain⟨k2,c⟩:=p2
    obtain rfl:=bB rx h1
    obtain rfl:=bB ry h2
    simp only[hte,h1,h2] at hd
    cases hs:VB P e with
    | none=>simp[hs] at hd
    | some sz =>
     cases hb:bytesOf P e with
     | none=>simp[hs,hb] at hd
     | some by' =>
      cases hz:dC P e with
      | none=>simp[hs,hb,hz] at hd
      | some z =>
       obtain⟨zv,hzv,rfl⟩:=dE hz
       simp only[hs,hb,hz] at hd
       split at hd
       case isFalse=>simp at hd
       rename_i g1
       have hzs:zv.cells.size=sz:=by simpa using g1
       simp only[MM,MP,MT,decide_eq_true_eq] at hd
       obtain⟨⟨⟨⟨q0,q2⟩,q3⟩,q4⟩,rfl,rfl⟩:=hd
       have q1:0<=n:=by omega
       obtain⟨i,hi,hib⟩:=gk hb
       have hwn:ML.wrap n=n:=Rj _ (by omega)
       have hwc:ML.wrap c=c:=Rj _ (by omega)
       obtain⟨l',k7,k8,k9⟩:=fN R w ⟨rfl,rfl,rfl,rfl,M5 _⟩ e ((PD (c.toNat*sz)).map (λi=>zv.cells[i % zv.cells.size]!)) (MS c.toNat (zv.cells.toList.map lit)) sz c.toNat
        (MS c.toNat zv.cells.toList).flatten []
        (by rw[Qu,QE,fO hzs];simp) (by simp) (by simp)
        (by intro r hr;rw[P6 hr];simp[hzs]) (zfc _)
       have k10:Rel (w.alloc (.cells ((PD (c.toNat*sz)).map (λi=>zv.cells[i % zv.cells.size]!)) e)) (Ub O l' (h++[.T7 (MS c.toNat (zv.cells.toList.map lit)) 0 sz])) l' (h++[.T7 (MS c.toNat (zv.cells.toList.map lit)) 0 sz]) (.ref (.vs h.length 0 0 n.toNat (some c.toNat))) (.slice (some ⟨w.heap.size,0,none⟩) n.toNat c.toNat):=by
        obtain⟨g1,g2⟩:=k9
        have hat:(h++[Uc.T7 (MS c.toNat (zv.cells.toList.map lit)) 0 sz])[h.length]? = some (Uc.T7 (MS c.toNat (zv.cells.toList.map lit)) 0 sz):=by simp
        refine⟨rfl,?_⟩
        simp only[hat] at g2 ⊢
        have hv:=g2.2 trivial
        refine⟨M5 _,λ_=>⟨by simp;omega,?_⟩⟩
        cases hlo:l' h.length with
        | none =>
         simp only[hlo,gV,Te] at hv
         omega
        | some pr =>
         obtain⟨T8,cp⟩:=pr
         simp only[hlo,gV] at hv
         obtain⟨o,cap,rfl,hv,hle⟩:=hv
         simp only[Rs,MM,Addr.mk.injEq] at hv
         obtain⟨⟨rfl,rfl, -⟩, -,rfl⟩:=hv
         refine⟨_,_,_,c.toNat,rfl,.inl (by simp),by omega,by omega,λk hk=>by cases hk;rfl⟩
       refine⟨.slice (some ⟨w.heap.size,0,none⟩) n.toNat c.toNat,_,l',?_,k7,k8,k10⟩
       have hti:(typeInfo e).run P w=.ok i w:=by simp[typeInfo,hi]
       have t1:¬(c<0\/281474976710656<(i.bytes:Int)*c):=by
        rw[hib];rw[Int.mul_comm] at q3;omega
       have e0:c.toNat*sz=0->(PD (c.toNat*sz)).map (λi=>zv.cells[i % zv.cells.size]!)=(PD (c.toNat*sz)).map (λi=>(#[]:BV)[i % 0]!):=λh0=>by rw[h0];simp
       by_cases h0:c.toNat*sz=0
       ·rw[e0 h0]
        simp[P5,Uk ht,asInt,asIntOf,hti,hwn,hwc,q1,(show ¬n<0 by omega),Qp.2 q2,UM hs,h0,newRow]
        exact λhh=>absurd hh t1
       ·simp[P5,Uk ht,asInt,asIntOf,hti,hwn,hwc,q1,(show ¬n<0 by omega),Qp.2 q2,UM hs,h0,newRow,δ hzv]
        exact λhh=>absurd hh t1
end
def tK(h:aT):D->Option (Nat×Nat×List (bY)×Nat×Nat×Nat)
 | .ref (.T7 b e)=>match h[b]? with
  | some (.T7 es e' sz)=>if e=e' then some (b,e,es,sz,0,es.length) else none
  | _=>none
 | .ref (.vs b e i n _)=>match h[b]? with
  | some (.T7 es e' sz)=>if e=e' then some (b,e,es,sz,i,n) else none
  | _=>none
 | _=>none
def zq:D->Bool
 | .p (.sl _) | .csl _ | .ref (.T7 _ _) | .ref (.vs ..)=>true
 | _=>false
def Ix(P:Program)(h:aT)(t:TypeId)(x s:D):Option (Bool×D×aT) :=
 match dz P t with
 | some e=>match VB P e,ZK h s,tK h x with
  | some sz,some rows,some (b,e',es,UX,i,n) =>
   let m:=min rows.length n
   if UX=sz/\zq s=true then some (rows.all (aR sz),lit (.int .i64 m),if m=0 then h else h.set b (.T7 (es.take i++(rows.take m++es.drop (i+m))) e' sz)) else none
  | _,_,_=>none
 | none=>none
section
variable {P:Program} {Γ:aq} {O:Nat->Prop} {w:World} {l:Loc} {h:aT}
theorem Uz.take{av:Nat->Prop}{T8 off:Nat}{cs:bY}(c:Uz w av l h T8 off cs)(n:Nat):Uz w av l h T8 off (cs.take n):=by
 intro i d hd
 rw[List.getElem?_take] at hd
 split at hd
 ·exact c i d hd
 ·simp at hd
theorem nO(R:UJ Γ O w l h){x:D}{y:Value}{rows:List (bY)}{_size:Nat}(rx:Rel w (Ub O l h) l h x y)(hx:ZK h x=some rows)(hk:zq x=true):
  (∃a c,y=.slice a rows.length c)/\(rows=[]\/∃T8 off n c,y=.slice (some ⟨T8,off,none⟩) n c/\Uz w (Ub O l h) l h T8 off rows.flatten):=by
 cases x with
 | p dp =>
  cases dp with
  | v x=>simp[zq] at hk
  | sl es =>
   simp only[ZK,MM] at hx
   subst hx
   simp only[Rel,UF] at rx
   rcases rx with ⟨rfl,a,cap,rfl,_⟩|⟨T8,off,cap,sz,rfl,_,rr⟩
   ·exact⟨⟨_,_,rfl⟩,.inl rfl⟩
   ·exact⟨⟨_,_,by rw[N1]⟩,.inr ⟨T8,off,_,_,rfl,Uz.zfz rr⟩⟩
 | csl es =>
  simp only[ZK,MM] at hx
  subst hx
  simp only[Rel] at rx
  rcases rx with ⟨rfl,a,rfl⟩|⟨T8,off,sz,rfl,rr⟩
  ·exact⟨⟨_,_,rfl⟩,.inl rfl⟩
  ·exact⟨⟨_,_,by rw[N1]⟩,.inr ⟨T8,off,_,_,rfl,Uz.zfz rr⟩⟩
 | ref r =>
  obtain⟨g1,hrr⟩:=rx
  cases r with
  | T7 b e =>
   simp only[ZK] at hx hrr
   cases hb:h[b]? with
   | none=>simp[hb] at hx
   | some bx =>
    cases bx<;>simp only[hb,reduceCtorEq] at hx hrr
    rename_i es e' sz
    split at hx
    case isFalse=>simp at hx
    rename_i he
    cases hx
    have hv:=hrr.2 he.symm
    have Τ:=R.T8 b _ hb
    cases UZ:l b with
    | none =>
     simp only[UZ,gV,Up] at hv Τ
     obtain⟨_,rfl⟩:=hv
     subst Τ
     exact⟨⟨_,_,rfl⟩,.inl rfl⟩
    | some pr =>
     obtain⟨T8,cap⟩:=pr
     simp only[UZ,gV,Up] at hv Τ
     obtain⟨oo,cc,rfl,rfl,_⟩:=hv
     obtain⟨o2,c2,rc,c,T,fr,ys,q1,q2,q3,q4,q5,q6,pre,rest,q0,q7⟩:=Τ
     obtain⟨rfl,rfl⟩:=co rc
     exact⟨⟨_,_,rfl⟩,.inr ⟨T8,oo,_,_,rfl,TS q1 q0 q7 q6⟩⟩
  | vs b e i n clip =>
   simp only[ZK] at hx hrr
   cases hb:h[b]? with
   | none=>simp[hb] at hx
   | some bx =>
    cases bx<;>simp only[hb,reduceCtorEq] at hx hrr
    rename_i es e' sz
    split at hx
    case isFalse=>simp at hx
    rename_i he
    cases hx
    obtain⟨UY,T8,oo,cap,c2,UZ,hy,hnc,_⟩:=hrr.2 he.symm
    have Τ:=R.T8 b _ hb
    simp only[UZ,Up] at Τ
    obtain⟨o2,cc,rc,c,T,fr,ys,q1,q2,q3,q4,q5,q6,pre,rest,q0,q7⟩:=Τ
    obtain⟨rfl,rfl⟩:=co rc
    have hlen:((es.drop i).take n).length=n:=by simp;omega
    rcases hy with rfl|⟨a0,rfl,rfl⟩
    case inr =>
     obtain rfl:n=0:=by omega
     exact⟨⟨_,_,by rw[hlen]⟩,.inl (by simp)⟩
    have hca:Uz w (Ub O l h) l h T8 (oo+i*sz) ((es.drop i).take n).flatten:=by
     rw[aP q5 i n UY]
     have:=(TS q1 q0 q7 q6).drop (i*sz)
     exact this.take _
    exact⟨⟨_,_,by rw[hlen]⟩,.inr ⟨T8,oo+i*sz,_,_,rfl,hca⟩⟩
  | _=>simp[zq] at hk
 | _=>simp[zq] at hk
theorem vQ(R:UJ Γ O w l h){t tx ty:TypeId}{ts:On}{x s d:D}{yx ys:Value}{h':aT}(rx:Rel w (Ub O l h) l h x yx)(rs:Rel w (Ub O l h) l h s ys)
  (hd:Ix P h t x s=some (true,d,h')) :
  ∃v w' l',(QW (t::tx::ts).toArray ty #[yx,ys]).run P w=.ok v w'/\UJ Γ O w' l' h'/\Ext w l h w' l' h'/\Rel w' (Ub O l' h') l' h' d v:=by
 unfold Ix at hd
 cases hte:dz P t with
 | none=>simp[hte] at hd
 | some e =>
  cases hsz:VB P e with
  | none=>simp[hte,hsz] at hd
  | some sz =>
  cases hrw:ZK h s with
  | none=>simp[hte,hsz,hrw] at hd
  | some rows =>
  cases hds:tK h x with
  | none=>simp[hte,hsz,hrw,hds] at hd
  | some q =>
   obtain⟨b,e',es,UX,i,n⟩:=q
   simp only[hte,hsz,hrw,hds] at hd
   split at hd
   case isFalse=>simp at hd
   rename_i hc
   obtain⟨rfl,hsrc⟩:=hc
   simp only[MM,MP] at hd
   obtain⟨τ,rfl,rfl⟩:=hd
   have ht:P.underlying t=some (.slice e):=bQ hte
   have hb:h[b]? = some (.T7 es e' UX):=by
    unfold tK at hds
    split at hds
    ·split at hds
     ·split at hds
      ·rename_i h1 h2;cases hds;subst h2;exact h1
      ·simp at hds
     ·simp at hds
    ·split at hds
     ·split at hds
      ·rename_i h1 h2;cases hds;subst h2;exact h1
      ·simp at hds
     ·simp at hds
    ·simp at hds
   have zfI:∃base c,yx=.slice base n c/\(0<n->i+n<=es.length/\∃T8 oo cap,l b=some (T8,mkP oo cap)/\base=some ⟨T8,oo+i*UX,none⟩):=by
    have Τ:=R.T8 b _ hb
    unfold tK at hds
    split at hds
    ·rename_i b0 e0
     split at hds
     ·split at hds
      ·rename_i h1 h2
       cases hds
       obtain⟨_,hrr⟩:=rx
       simp only[hb] at hrr
       have hv:=hrr.2 trivial
       cases UZ:l b with
       | none =>
        simp only[UZ,gV] at hv
        obtain⟨h0,rfl⟩:=hv
        exact⟨none,0,by rw[h0],λhp=>by omega⟩
       | some pr =>
        obtain⟨T8,cap⟩:=pr
        simp only[UZ,gV] at hv
        obtain⟨oo,cc,rfl,rfl,_⟩:=hv
        exact⟨_,_,rfl,λ_=>⟨by omega,T8,oo,cc,rfl,by simp⟩⟩
      ·simp at hds
     ·simp at hds
    ·rename_i b0 e0 i0 n0 c0
     split at hds
     ·split at hds
      ·rename_i h1 h2
       cases hds
       obtain⟨_,hrr⟩:=rx
       simp only[hb] at hrr
       obtain⟨UY,T8,oo,cap,c2,UZ,hy,hnc,_⟩:=hrr.2 trivial
       rcases hy with rfl|⟨a0,rfl,rfl⟩
       ·exact⟨_,_,rfl,λ_=>⟨UY,T8,oo,cap,UZ,rfl⟩⟩
       ·exact⟨_,_,rfl,λh=>by omega⟩
      ·simp at hds
     ·simp at hds
    ·simp at hds
   obtain⟨base,cx,rfl,zmG⟩:=zfI
   obtain⟨⟨a0,c0,rfl⟩,zgo⟩:=nO (_size:=UX) R rs hrw hsrc
   have hro:∀r∈rows,r.length=UX/\r.all D.one=true:=by
    intro r hr
    have:=Ni.1 τ r hr
    unfold aR at this
    simpa using this
   by_cases hm:min rows.length n=0
   ·rw[if_pos hm]
    refine⟨goInt 0,w,l,?_,R,Ext.refl _ _ _,by rw[hm];simp[goInt,Rel,UF]⟩
    have hf:(Og UX 0 (.slice a0 rows.length c0)).run P w=.ok #[] w:=by
     cases a0<;>simp[Og,loadCells,loadCellsFrom]
    have hnm:Nat.min rows.length n=0:=hm
    cases base<;>simp[QW,Uk ht,UM hsz,Oy,hnm,hf,storeCells]
   ·rw[if_neg hm]
    have zfV:0<n:=by omega
    obtain⟨UY,T8,oo,cap,UZ,rfl⟩:=zmG zfV
    obtain⟨zbY,off',n',c',hy,hca⟩:∃T8 off n c,(Value.slice a0 rows.length c0)=.slice (some ⟨T8,off,none⟩) n c/\Uz w (Ub O l h) l h T8 off rows.flatten:=by
     rcases zgo with rfl|hh
     ·simp at hm
     ·exact hh
    simp only[Rs] at hy
    obtain⟨rfl,rfl,rfl⟩:=hy
    generalize hmd:min rows.length n=m at hm
    have hmn:m<=n:=by omega
    have hmr:m<=rows.length:=by omega
    have hrt:∀r∈rows.take m,r.length=UX:=λr hr=>(hro r (Pq hr)).1
    have hfl:(rows.take m).flatten=rows.flatten.take (m*UX):=by
     have:=aP (es:=rows) (sz:=UX) (λr hr=>(hro r hr).1) 0 m (by omega)
     simpa using this
    have hcm:Uz w (Ub O l h) l h zbY off' (rows.take m).flatten:=by rw[hfl];exact hca.take _
    obtain⟨ys,k1,k2⟩:=cj (P:=P) (len:=rows.length) (cap:=c0) hcm hrt (n:=m) (by simp;omega)
    have h1:∀v∈ys,v.oneCell'=true:=jn k2 (by
     rw[Ni]
     intro d hd
     obtain⟨r,hr,hdr⟩:=Sh.1 hd
     exact Ni.1 (hro r (Pq hr)).2 d hdr)
    have hyl:ys.length=m*UX:=by rw[<-k2.length,aA hrt];simp[hmr]
    have Τ:=R.T8 b _ hb
    simp only[Up,UZ] at Τ
    obtain⟨o2,cc,rc,c,T,fr,zs,q1,q2,q3,q4,q5,q6,pre,rest,q0,q7⟩:=Τ
    obtain⟨rfl,rfl⟩:=co rc
    have hzl:zs.length=es.length*UX:=by rw[<-q6.length,aA q5]
    have hle:i*UX+m*UX<=es.length*UX:=by rw[<-O9];exact OB _ (by omega)
    have hle2:es.length*UX<=cap*UX:=OB _ q3
    obtain⟨w',c1,s1,s2,s3,s4,s5,s6⟩:=ci (P:=P) (off:=oo+i*UX) ys 0 w c q1 q4 (by omega) h1
    rw[Tb] at s5
    have zmj:c1.size=c.size:=by
     have:=congrArg MO s5
     simp only[bk,Nv,O5,OE,O6] at this
     omega
    have hfe:(es.take i++(rows.take m++es.drop (i+m))).flatten=bm es.flatten (i*UX) (rows.take m).flatten:=by
     have e1:=aP (es:=es) q5 0 i (by omega)
     have e2:=aP (es:=es) q5 (i+m) (es.length-(i+m)) (by omega)
     simp only[Pk,Nat.zero_mul] at e1
     have e3:(es.drop (i+m)).take (es.length-(i+m))=es.drop (i+m):=by rw[OJ (by simp)]
     have e4:(es.flatten.drop ((i+m)*UX)).take ((es.length-(i+m))*UX)=es.flatten.drop ((i+m)*UX):=by
      rw[OJ]
      rw[OE,aA q5,<-Nat.sub_mul]
      exact M5 _
     rw[e3,e4] at e2
     unfold bm
     rw[OY,OY,e1,e2,aA hrt,O5,Nat.min_eq_left hmr,<-O9,OQ]
    have hlen:(es.take i++(rows.take m++es.drop (i+m))).length=es.length:=by
     simp only[Nv,O5,OE];omega
    have:=R.step (w':=w') (l':=l) (h':=h.set b (.T7 (es.take i++(rows.take m++es.drop (i+m))) e' UX)) b (.T7 (es.take i++(rows.take m++es.drop (i+m))) e' UX) (by omega) s6 (λz hz=>be _ _ hz) (aK hb) (λ_ _=>rfl)
     (λz hz=>by rw[hb] at hz;cases hz;exact⟨⟨M5 _,λ_=>hlen,rfl⟩,λ_=>rfl⟩)
     (λk hk hno=>s3 k (λe=>hno _ (mkP oo cap) hb (by simp) (by rw[UZ,e])))
     (λk cc hk=>.inl ⟨_,cc,hb,by simp,hk⟩)
     (λE=>by
      simp only[Up,UZ]
      refine⟨oo,cap,rfl,c1,T,fr,bk zs (i*UX) ys,s4,by omega,by omega,by rw[zmj];exact q4,?_,?_,pre,rest,q0,?_⟩
      ·intro r hr
       rcases NY.1 hr with hr|hr
       ·exact q5 r (Pq hr)
       ·rcases NY.1 hr with hr|hr
        ·exact hrt r hr
        ·exact q5 r (Pp hr)
      ·rw[hfe];exact(E.π q6).zgH _ (E.π k2)
      ·rw[s5,q7]
       unfold bk
       have e1:oo+i*UX=pre.length+i*UX:=by omega
       rw[e1,OQ pre,Qb,Sx,Sy,QC (by omega),QD (by omega)]
       simp)
    refine⟨goInt m,w',l,?_,this.1,this.2,by simp[goInt,Rel,UF]⟩
    have hnm:Nat.min rows.length n=m:=hmd
    have s1':(storeCells ⟨T8,oo+i*UX,none⟩ ys).run P w=.ok () w':=s1
    simp[QW,Uk ht,UM hsz,Oy,hnm,k1,s1']
theorem Eu(R:UJ Γ O w l h){b e' UX T8 oo cap i:Nat}{es new:List (bY)}{ys:At}(hb:h[b]? = some (.T7 es e' UX))(UZ:l b=some (T8,mkP oo cap))(UY:i+new.length<=es.length)
  (hrt:∀r∈new,r.length=UX) (k2:U1 w (Ub O l h) l h new.flatten ys) (h1:∀v∈ys,v.oneCell'=true) :
  ∃w',(storeCells ⟨T8,oo+i*UX,none⟩ ys).run P w=.ok () w'/\UJ Γ O w' l (h.set b (.T7 (es.take i++(new++es.drop (i+new.length))) e' UX))/\Ext w l h w' l (h.set b (.T7 (es.take i++(new++es.drop (i+new.length))) e' UX)):=by
 have hyl:ys.length=new.length*UX:=by rw[<-k2.length,aA hrt]
 have Τ:=R.T8 b _ hb
 simp only[Up,UZ] at Τ
 obtain⟨o2,cc,rc,c,T,fr,zs,q1,q2,q3,q4,q5,q6,pre,rest,q0,q7⟩:=Τ
 obtain⟨rfl,rfl⟩:=co rc
 have hzl:zs.length=es.length*UX:=by rw[<-q6.length,aA q5]
 have hle:i*UX+new.length*UX<=es.length*UX:=by rw[<-O9];exact OB _ UY
 have hle2:es.length*UX<=cap*UX:=OB _ q3
 obtain⟨w',c1,s1,s2,s3,s4,s5,s6⟩:=ci (P:=P) (off:=oo+i*UX) ys 0 w c q1 q4 (by omega) h1
 rw[Tb] at s5
 have zmj:c1.size=c.size:=by
  have:=congrArg MO s5
  simp only[bk,Nv,O5,OE,O6] at this
  omega
 have hfe:(es.take i++(new++es.drop (i+new.length))).flatten=bm es.flatten (i*UX) new.flatten:=by
  have e1:=aP (es:=es) q5 0 i (by omega)
  have e2:=aP (es:=es) q5 (i+new.length) (es.length-(i+new.length)) (by omega)
  simp only[Pk,Nat.zero_mul] at e1
  have e3:(es.drop (i+new.length)).take (es.length-(i+new.length))=es.drop (i+new.length):=by rw[OJ (by simp)]
  have e4:(es.flatten.drop ((i+new.length)*UX)).take ((es.length-(i+new.length))*UX)=es.flatten.drop ((i+new.length)*UX):=by
   rw[OJ]
   rw[OE,aA q5,<-Nat.sub_mul]
   exact M5 _
  rw[e3,e4] at e2
  unfold bm
  rw[OY,OY,e1,e2,aA hrt,<-O9,OQ]
 have hlen:(es.take i++(new++es.drop (i+new.length))).length=es.length:=by
  simp only[Nv,O5,OE];omega
 have:=R.step (w':=w') (l':=l) (h':=h.set b (.T7 (es.take i++(new++es.drop (i+new.length))) e' UX)) b (.T7 (es.take i++(new++es.drop (i+new.length))) e' UX) (by omega) s6 (λz hz=>be _ _ hz) (aK hb) (λ_ _=>rfl)
  (λz hz=>by rw[hb] at hz;cases hz;exact⟨⟨M5 _,λ_=>hlen,rfl⟩,λ_=>rfl⟩)
  (λk hk hno=>s3 k (λe=>hno _ (mkP oo cap) hb (by simp) (by rw[UZ,e])))
  (λk cc hk=>.inl ⟨_,cc,hb,by simp,hk⟩)
  (λE=>by
   simp only[Up,UZ]
   refine⟨oo,cap,rfl,c1,T,fr,bk zs (i*UX) ys,s4,by omega,by omega,by rw[zmj];exact q4,?_,?_,pre,rest,q0,?_⟩
   ·intro r hr
    rcases NY.1 hr with hr|hr
    ·exact q5 r (Pq hr)
    ·rcases NY.1 hr with hr|hr
     ·exact hrt r hr
     ·exact q5 r (Pp hr)
   ·rw[hfe];exact(E.π q6).zgH _ (E.π k2)
   ·rw[s5,q7]
    unfold bk
    have e1:oo+i*UX=pre.length+i*UX:=by omega
    rw[e1,OQ pre,Qb,Sx,Sy,QC (by omega),QD (by omega)]
    simp)
 exact⟨w',s1,this.1,this.2⟩
theorem Ew(_R:UJ Γ O w l h){x:D}{yx:Value}{b e' UX i n:Nat}{es:List (bY)}(rx:Rel w (Ub O l h) l h x yx)(hds:tK h x=some (b,e',es,UX,i,n)):
  h[b]? = some (.T7 es e' UX)/\∃base c,yx=.slice base n c/\(0<n->i+n<=es.length/\∃T8 oo cap,l b=some (T8,mkP oo cap)/\base=some ⟨T8,oo+i*UX,none⟩):=by
 unfold tK at hds
 split at hds
 ·split at hds
  ·split at hds
   ·rename_i h1 h2
    cases hds
    obtain⟨_,hrr⟩:=rx
    simp only[h1] at hrr
    refine⟨by rw[h1,h2],?_⟩
    have hv:=hrr.2 h2.symm
    cases UZ:l b with
    | none =>
     simp only[UZ,gV] at hv
     obtain⟨h0,rfl⟩:=hv
     exact⟨none,0,by rw[h0],λhp=>by omega⟩
    | some pr =>
     obtain⟨T8,cap⟩:=pr
     simp only[UZ,gV] at hv
     obtain⟨oo,cc,rfl,rfl,_⟩:=hv
     exact⟨_,_,rfl,λ_=>⟨by omega,T8,oo,cc,rfl,by simp⟩⟩
   ·simp at hds
  ·simp at hds
 ·split at hds
  ·split at hds
   ·rename_i h1 h2
    cases hds
    obtain⟨_,hrr⟩:=rx
    simp only[h1] at hrr
    refine⟨by rw[h1,h2],?_⟩
    obtain⟨UY,T8,oo,cap,c2,UZ,hy,hnc,_⟩:=hrr.2 h2.symm
    rcases hy with rfl|⟨a0,rfl,rfl⟩
    ·exact⟨_,_,rfl,λ_=>⟨UY,T8,oo,cap,UZ,rfl⟩⟩
    ·exact⟨_,_,rfl,λh=>by omega⟩
   ·simp at hds
  ·simp at hds
 ·simp at hds
def A3(P:Program)(h:aT)(t:TypeId)(x:D):Option (Bool×D×aT) :=
 match dz P t with
 | some e=>match dC P e,tK h x with
  | some z,some (b,e',es,UX,i,n)=>some (Zd (z.length=UX)&&z.all D.one,.UI [],if n=0 then h else h.set b (.T7 (es.take i++(MS n z++es.drop (i+n))) e' UX))
  | _,_=>none
 | none=>none
theorem tL(R:UJ Γ O w l h){t ty:TypeId}{ts:On}{x d:D}{yx:Value}{h':aT}(rx:Rel w (Ub O l h) l h x yx)(hd:A3 P h t x=some (true,d,h')):
  ∃v w' l',(Sl (t::ts).toArray ty #[yx]).run P w=.ok v w'/\UJ Γ O w' l' h'/\Ext w l h w' l' h'/\Rel w' (Ub O l' h') l' h' d v:=by
 unfold A3 at hd
 cases hte:dz P t with
 | none=>simp[hte] at hd
 | some e =>
  cases hz:dC P e with
  | none=>simp[hte,hz] at hd
  | some z =>
  cases hds:tK h x with
  | none=>simp[hte,hz,hds] at hd
  | some q =>
   obtain⟨b,e',es,UX,i,n⟩:=q
   simp only[hte,hz,hds,MM,MP,MT,decide_eq_true_eq] at hd
   obtain⟨⟨hzl,hone⟩,rfl,rfl⟩:=hd
   have ht:P.underlying t=some (.slice e):=bQ hte
   obtain⟨hb,base,cx,rfl,zmG⟩:=Ew R rx hds
   obtain⟨zv,hzv,rfl⟩:=dE hz
   by_cases hn:n=0
   ·subst hn
    rw[if_pos rfl]
    refine⟨.tuple #[],w,l,?_,R,Ext.refl _ _ _,by simp[Rel,U1]⟩
    cases base<;>simp[Sl,Uk ht]
   ·rw[if_neg hn]
    obtain⟨UY,T8,oo,cap,UZ,rfl⟩:=zmG (by omega)
    have hsz:zv.cells.size=UX:=by simpa using hzl
    have hys:(OL zv.cells n).toList=(MS n zv.cells.toList).flatten:=by
     unfold OL
     rw[Qu,QE,fO rfl]
    have hk:U1 w (Ub O l h) l h (MS n (zv.cells.toList.map lit)).flatten (MS n zv.cells.toList).flatten:=zfc n
    obtain⟨w',s1,r1,r2⟩:=Eu (P:=P) R hb UZ (i:=i) (new:=MS n (zv.cells.toList.map lit)) (ys:=(MS n zv.cells.toList).flatten) (by simpa using UY)
     (λr hr=>by rw[P6 hr];simpa using hzl) hk (by
      refine jn hk ?_
      rw[Ni]
      intro d hd
      obtain⟨r,hr,hdr⟩:=Sh.1 hd
      rw[P6 hr] at hdr
      exact Ni.1 hone d hdr)
    rw[Te] at r1 r2
    refine⟨.tuple #[],w',l,?_,r1,r2,by simp[Rel,U1]⟩
    obtain⟨k,rfl⟩:∃k,n=k+1:=⟨n-1,by omega⟩
    simp[Sl,Uk ht,δ hzv,hys,s1]
end
def u8T(P:Program)(t:TypeId):Bool:=match P.underlying t with
 | some (.int .u8)=>true
 | _=>false
def A4:bY->Option UInt8
 | [.p (.v (.int .u8 n))]=>match Zd (0<=n)&&Zd (n<256) with
  | true=>some (UInt8.ofNat n.toNat)
  | false=>none
 | _=>none
def tM:List (bY)->Option (List UInt8)
 | []=>some []
 | r::rs=>match A4 r,tM rs with
  | some b,some l=>some (b::l)
  | _,_=>none
def fj(s:ByteArray):List (bY):=s.data.toList.map λb=>[lit (.int .u8 b.toNat)]
def hZ(P:Program)(h:aT)(src dst:TypeId)(x:D):Option (D×aT) :=
 match P.underlying src,dz P dst,x with
 | some .string,some e,.p (.v (.string s))=>match u8T P e with
  | true=>some (.ref (.T7 h.length 0),h++[.T7 (fj s) 0 1])
  | false=>none
 | _,_,_=>none
def jR(P:Program)(h:aT)(src dst:TypeId)(x:D):oN :=
 match dz P src,P.underlying dst with
 | some e,some .string=>match u8T P e&&zq x with
  | true=>match ZK h x with
   | some rows=>(tM rows).map λl=>lit (.string ⟨l.toArray⟩)
   | none=>none
  | false=>none
 | _,_=>none
section
variable {P:Program} {Γ:aq} {O:Nat->Prop} {w:World} {l:Loc} {h:aT}
theorem xI{t:TypeId}(ht:u8T P t=true):P.underlying t=some (.int .u8):=by
 unfold u8T at ht
 split at ht
 ·assumption
 ·simp at ht
theorem zfZ{av:Nat->Prop}:∀(bs:List UInt8),U1 w av l h (bs.map λb=>[lit (.int .u8 b.toNat)]).flatten (bs.map λb=>Value.int .u8 b.toNat)
 | []=>by simp[U1]
 | b::bs=>by
  simp only[NW,N0,Qx,U1]
  exact⟨Ul _ _ _ _ _,zfZ bs⟩
theorem nP(R:UJ Γ O w l h){src dst:TypeId}{x d:D}{y:Value}{h':aT}(rx:Rel w (Ub O l h) l h x y)(hd:hZ P h src dst x=some (d,h')):
  ∃v w' l',(convert src dst y).run P w=.ok v w'/\UJ Γ O w' l' h'/\Ext w l h w' l' h'/\Rel w' (Ub O l' h') l' h' d v:=by
 unfold hZ at hd
 split at hd
 case h_2=>simp at hd
 rename_i e s hs he
 split at hd
 case h_2=>simp at hd
 rename_i hu
 simp only[MM,MP] at hd
 obtain⟨rfl,rfl⟩:=hd
 obtain rfl:=aC rx
 have hcut:s.size<=grownCap w s.size 0 e:=by
  unfold grownCap
  exact kY _
 have Φ:=run_bytes_of_string (P:=P) w src dst e s hs (bQ he) (xI hu)
 obtain⟨R1,E1⟩:=R.of_heap (w':=w.drew) rfl ⟨rfl,rfl,rfl,Pc _⟩
 have hsz:(bytesRow s (grownCap w s.size 0 e)).size=grownCap w s.size 0 e:=by
  have:s.data.size=s.size:=rfl
  simp[bytesRow]
  omega
 obtain⟨R2,E2⟩:=eK R1 (.cells (bytesRow s (grownCap w s.size 0 e)) e ((bytesRow s (grownCap w s.size 0 e)).size,(bytesRow s (grownCap w s.size 0 e)).size+1)) (.T7 (fj s) 0 1) (mkP 0 (grownCap w s.size 0 e)) (λE=>by
  simp only[Up,Pj]
  refine⟨0,grownCap w s.size 0 e,rfl,bytesRow s (grownCap w s.size 0 e),e,_,s.data.toList.map λb=>Value.int .u8 b.toNat,heap_alloc_new w.drew _,by omega,?_,by intro o ho hh;omega,?_,zfZ _,[],MS (grownCap w s.size 0 e-s.size) (.int .u8 0),rfl,?_⟩
  ·have:s.data.toList.length=s.size:=by simp
   simp only[fj,N1]
   omega
  ·intro r hr
   simp only[fj,Nt] at hr
   obtain⟨b,_,rfl⟩:=hr
   rfl
  ·simp[bytesRow])
 refine⟨_,_,_,Φ,R2,E1.trans E2,?_⟩
 simp only[Rel,Ua]
 refine⟨rfl,?_⟩
 simp only[Nm (M5 _),Nat.sub_self,Np,Pj,gV]
 refine⟨M5 _,λ_=>⟨0,grownCap w s.size 0 e,rfl,?_,?_⟩⟩
 ·have:(fj s).length=s.size:=by simp[fj]
  rw[this];rfl
 ·have:(fj s).length=s.size:=by simp[fj]
  omega
theorem A5{r:bY}{b:UInt8}(hb:A4 r=some b):r=[lit (.int .u8 b.toNat)]:=by
 unfold A4 at hb
 split at hb
 ·rename_i n
  split at hb
  ·rename_i hn
   simp only[MT,decide_eq_true_eq] at hn
   cases hb
   have:((UInt8.ofNat n.toNat).toNat:Int)=n:=by
    rw[UInt8.toNat_ofNat']
    omega
   rw[this]
  ·simp at hb
 ·simp at hb
theorem tN:∀{rows:List (bY)} {bs:List UInt8},tM rows=some bs->rows=bs.map λb=>[lit (.int .u8 b.toNat)]
 | [],bs,hb=>by simp only[tM,MM] at hb;subst hb;rfl
 | r::rs,bs,hb=>by
  simp only[tM] at hb
  split at hb
  ·rename_i b l h1 h2
   simp only[MM] at hb
   subst hb
   rw[A5 h1,tN h2]
   rfl
  ·simp at hb
theorem flat1:∀bs:List UInt8,(bs.map λb=>[lit (.int .u8 b.toNat)]).flatten=bs.map λb=>lit (.int .u8 (b.toNat:Int))
 | []=>rfl
 | b::bs=>by simp only[NW,N0,Qx,flat1 bs]
theorem nQ(R:UJ Γ O w l h){src dst:TypeId}{x d:D}{y:Value}(rx:Rel w (Ub O l h) l h x y)(hd:jR P h src dst x=some d):
  ∃v,(convert src dst y).run P w=.ok v w/\Rel w (Ub O l h) l h d v:=by
 unfold jR at hd
 split at hd
 case h_2=>simp at hd
 rename_i e he hs
 split at hd
 case h_2=>simp at hd
 rename_i hu
 simp only[MT] at hu
 split at hd
 case h_2=>simp at hd
 rename_i rows hr
 simp only[MV] at hd
 obtain⟨bs,hbs,rfl⟩:=hd
 obtain rfl:=tN hbs
 obtain⟨⟨a,c,rfl⟩,hca⟩:=nO (_size:=1) R rx hr hu.2
 refine⟨.string ⟨bs.toArray⟩,?_,Ul _ _ _ _ _⟩
 simp only[N1]
 rcases hca with h0|⟨T8,off,n,c',hy,hca⟩
 ·have:bs=[]:=by simpa using h0
  subst this
  cases a with
  | none =>
   rw[run_convert_bytes_string w src dst e none _ _ (bQ he) (xI hu.1) hs]
   rfl
  | some a =>
   have:=run_convert_bytes_back (P:=P) w src dst e a c [] (bQ he) (xI hu.1) hs (λj hj=>by simp at hj)
   simpa using this
 ·simp only[Rs] at hy
  obtain⟨rfl,hn,rfl⟩:=hy
  refine run_convert_bytes_back (P:=P) w src dst e ⟨T8,off,none⟩ c bs (bQ he) (xI hu.1) hs (λj hj=>?_)
  have:=hca j (lit (.int .u8 (bs[j].toNat:Int))) (by
   rw[flat1]
   simp[hj])
  obtain⟨y,h1,h2⟩:=this
  obtain rfl:=aC h2
  by_cases h0:j=0
  ·subst h0
   simpa[Addr.add] using h1
  ·simpa[Addr.add,h0] using h1
end
end Go.Vi
