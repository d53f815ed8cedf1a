/- LedgerMergeSpec: part of the proof: an evaluator of the model's programs on abstract values, and its soundness. No conditions beyond the given statement's own. -/
import Derived.Test.YtoincdhjcahadaaGreatDoorV1
import Derived.IntWalk
open Decidable renaming decide → Qd
open Go.Builtin renaming zeroCells → E5, lenOf → DB, firstCells → Dx, append_ → DS, len_ → Ft
open Go.Vi.Loc renaming upd_same → Fc
open Nat renaming le_refl → CP, sub_self → EK, le_succ → Ei, mul_le_mul_right → D1, add_mul → D2, sub_zero → FV
open List renaming getElem?_cons_zero → CV, getElem?_toArray → F9, getElem?_cons_succ → Eo, all_eq_true → CS, length_append → C3, mem_append → C2, flatten_append → DZ, isEmpty_eq_false_iff → FL, length_pos_iff → FM, mem_of_mem_drop → EO, mem_of_mem_take → EP, take_of_length_le → DU, length_drop → DA, length → Cw, length_take → D4, drop_append → FK, append_assoc → EJ, length_cons → Dk, mapM_cons → HJ, replicate → Dv, length_nil → DH, isEmpty_toArray → HS
open Go.Question renaming appendCap → Hx, forced → GF
open Go.IntKind renaming i64 → Ct
open Go.Sem renaming run_bind → CM, run_pure → CY, run_ite → Gm
open Go.Result renaming andThen_ok → CJ
open Bool renaming false_eq_true → De, not_false → EN, and_eq_true → Cy, not_eq_true' → DI, or_eq_true → Eb, eq_iff_iff → Er
open Go.World renaming alloc_eq → Gc
open Go.Vi.Blk renaming stays → GQ
open Option.some renaming injEq → Cs
open Prod.mk renaming injEq → Cu
open Array renaming length_toList → DV, range → FN, toList_map → FC, toList_range → H1, getElem?_eq_some_iff → FD, getElem?_toList → Dr
open Go.ByteArray renaming toList_eq → Hp
open Option renaming map_eq_some_iff → CC, map_some → Df, isNone_iff_eq_none → G9
open Go.Op renaming intArith → G8, intCmp → Gs, unary → H5
open Int renaming not_lt → F7
open Go.Instr renaming build → HK, buildSlice → GM, makeSlice → GW, sliceBounds → Ec, sliceBound → FU, sliceAt → EG, slice → HL, findNow → Hj, sameNow → Gr, lookup → F1, findKey → FP, sameBits → Gd, mapUpdate → GX, range → GR, next → F2
open Go.Utf8 renaming decode → HQ
open Go.Vi.Ext renaming refl → EV
open Go.Value.map renaming injEq → HR
namespace Go.Vi
open Go
section
variable {P:Program} {Γ:af} {O:Nat→Prop} {w:World} {l:Loc} {h:List Blk}
theorem lg(z:Array Value)(n:Nat):(E5 z n).size=n*z.size:=by simp[E5]
theorem hZ(R:Rep Γ O w l h)(w1:World)(hw1:w1.heap=w.heap∧w1.tape=w.tape∧w1.os=w.os∧w1.output=w.output∧w.drawn≤w1.drawn)(e:TypeId)(cs:Array Value)(rows:List (List D))(sz cap:Nat)(ys rest:List Value)
  (hcs:cs.toList=ys++rest) (hsz:cs.size=cap*sz) (hcap:rows.length≤cap) (hr:∀r∈rows,r.length=sz) (ry:RelL w (avs O l h) l h rows.flatten ys) :
  ∃l',Rep Γ O (w1.alloc (.cells cs e)) l' (h++[.vec rows 0 sz])∧Ext w l h (w1.alloc (.cells cs e)) l' (h++[.vec rows 0 sz]) ∧
   Rel (w1.alloc (.cells cs e)) (avs O l' (h++[.vec rows 0 sz])) l' (h++[.vec rows 0 sz]) (.ref (.vec h.length 0)) (.slice (some ⟨w.heap.size,0,none⟩) rows.length cap):=by
 obtain⟨R1,E1⟩:=R.of_heap hw1.1 hw1.2
 have hs:w1.heap.size=w.heap.size:=by rw[hw1.1]
 obtain⟨R2,E2⟩:=cr R1 (.cells cs e) (.vec rows 0 sz) (mkP 0 cap) (fun E=>by
  simp only[BlkOk,Fc]
  exact⟨0,cap,rfl,cs,e,(0,0),ys,heap_alloc_new w1 _,by omega,hcap,by simp,hr,E.relL (E1.relL ry),[],rest,rfl,hcs⟩)
 refine⟨_,R2,E1.trans E2,?_⟩
 simp only[Rel,RefRel]
 refine⟨rfl,?_⟩
 simp only[List.getElem?_append_right (CP _),EK,CV,Fc,hs,gg]
 exact⟨CP _,fun _=>⟨0,cap,rfl,rfl,hcap⟩⟩
theorem sg(R:Rep Γ O w l h)(sz:Nat):∃l',Rep Γ O w l' (h++[.vec [] 0 sz])∧Ext w l h w l' (h++[.vec [] 0 sz]) ∧
  Rel w (avs O l' (h++[.vec [] 0 sz])) l' (h++[.vec [] 0 sz]) (.ref (.vec h.length 0)) (.slice none 0 0):=by
 have:=R.step (w':=w) (l':=l.upd h.length none) (h':=h++[.vec [] 0 sz]) h.length (.vec [] 0 sz) (CP _) ⟨rfl,rfl,rfl,(by first|exact CP _|exact Ei _)⟩ (fun b hb=>gi h _ hb) (by simp)
  (fun b hb=>Loc.upd_ne _ _ _ hb) (fun y hy=>by simp at hy) (fun _ _ _=>rfl) (fun k c hk=>by simp at hk) (fun _=>by simp[BlkOk])
 refine⟨_,this.1,this.2,?_⟩
 simp only[Rel,RefRel]
 refine⟨rfl,?_⟩
 simp[gg]
theorem sh{need cap:Nat}{e:TypeId}(t:Nat):need≤(Hx need cap e).cut t:=by simp[Question.cut]
theorem lh{t tx ty e:TypeId}{dx:TypeDesc}{sz by':Nat}{z:Value}{base:Option Addr}{n cap m:Nat}{x:Value}{olds news:List Value}
  (ht:P.underlying t=some (.slice e)) (hx:P.underlying tx=some dx) (hdx:∀k,dx ≠ .int k) (hs:szOf P e=some sz) (hb:bytesOf P e=some by') (hz:gh P e=some z)
  (hlen:(DB x).run P w=.ok m w) (hnew:(Dx sz m x).run P w.drew=.ok news.toArray w.drew)
  (hold:(Dx sz n (.slice base n cap)).run P w.drew=.ok olds.toArray w.drew) (hn:cap<n+m) (hby:(n+m)*by'≤140737488355328) (h62:n+m≤4611686018427387904) :
  ∃(cap2:Nat),n+m≤cap2 ∧
   (DS #[t,tx] ty #[.slice base n cap,x]).run P w=.ok (.slice (some ⟨w.heap.size,0,none⟩) (n+m) cap2)
    (w.drew.alloc (.cells (olds.toArray++news.toArray++E5 z.cells (cap2 - (n+m))) e)):=by
 obtain⟨i,hi,hib⟩:=jQ hb
 have hfit:=growslice_fits hn hby
 have hti:∀w:World,(typeInfo e).run P w=.ok i w:=fun w=>by simp[typeInfo,hi]
 refine⟨(Hx (n+m) cap e).cut (w.tape w.drawn (.appendCap (n+m) cap e)),sh _,?_⟩
 have hnot:¬((((n+m:Nat):Int)>Ct.max)∧(False∨i.bytes=0)):=by
  intro hh
  have:Ct.max=9223372036854775807:=rfl
  rw[this] at hh;omega
 have hcap':¬(Builtin.nextslicecap (n+m) cap*i.bytes>2 ^ 48):=by rw[hib];omega
 unfold DS
 simp only[F9,CV,Eo,CM,und_run ht,und_run hx,CJ,szOf_run hs,CY]
 cases dx with
 | int k=>exact absurd rfl (hdx k)
 | _ =>
  simp only[De,if_false,hlen,CJ,Nat.not_le.2 hn,CM,hti,Gm,hnot,hcap',if_false,run_choose,GF,run_askRoom,
   hold,hnew,zeroV_run hz,CY,EN,if_true,newRow,run_newObj,World.drew_eq,Gc,World.size_drew]
theorem gk{t tx ty e:TypeId}{dx:TypeDesc}{sz blk n cap m:Nat}{x:Value}{news:List Value}{c:Array Value}{T:TypeId}{fr:Nat×Nat}
  (ht:P.underlying t=some (.slice e)) (hx:P.underlying tx=some dx) (hdx:∀k,dx ≠ .int k) (hs:szOf P e=some sz)
  (hlen:(DB x).run P w=.ok m w) (hnew:(Dx sz m x).run P w=.ok news.toArray w) (h1:∀v∈news,v.oneCell'=true) (hnl:news.length=m*sz)
  {oo:Nat} (hn:n+m≤cap) (hb:w.heap[blk]? = some (.cells c T fr)) (hf:∀o,o<c.size→¬(fr.1≤o∧o<fr.2)) (hc:oo+cap*sz≤c.size) :
  ∃w' c',(DS #[t,tx] ty #[.slice (some ⟨blk,oo,none⟩) n cap,x]).run P w=.ok (.slice (some ⟨blk,oo,none⟩) (n+m) cap) w'∧w'.heap.size=w.heap.size∧(∀k,k ≠ blk→w'.heap[k]? = w.heap[k]?) ∧
   w'.heap[blk]? = some (.cells c' T fr)∧c'.toList=aM c.toList (oo+n*sz) news∧w'.tape=w.tape∧w'.os=w.os∧w'.output=w.output∧w.drawn≤w'.drawn:=by
 have hle:oo+n*sz+0+news.length≤c.size:=by
  rw[hnl];have:=D1 sz hn;rw[D2] at this;omega
 obtain⟨w',c',h2,h3⟩:=bC (P:=P) (off:=oo+n*sz) news 0 w c hb hf hle h1
 refine⟨w',c',?_,by simpa using h3⟩
 unfold DS
 simp only[F9,CV,Eo,CM,und_run ht,und_run hx,CJ,szOf_run hs,CY]
 cases dx with
 | int k=>exact absurd rfl (hdx k)
 | _ =>
  simp only[De,if_false,hlen,CJ,hn,if_true,CM,hnew,EN,cj,h2,CY,Gm]
theorem ey{t tx ty e:TypeId}{dx:TypeDesc}{sz:Nat}{x:Value}{news:List Value}
  (ht:P.underlying t=some (.slice e)) (hx:P.underlying tx=some dx) (hdx:∀k,dx ≠ .int k) (hs:szOf P e=some sz)
  (hlen:(DB x).run P w=.ok 0 w) (hnew:(Dx sz 0 x).run P w=.ok news.toArray w) :
  (DS #[t,tx] ty #[.slice none 0 0,x]).run P w=.ok (.slice none 0 0) w:=by
 unfold DS
 simp only[F9,CV,Eo,CM,und_run ht,und_run hx,CJ,szOf_run hs,CY]
 cases dx with
 | int k=>exact absurd rfl (hdx k)
 | _ =>
  simp only[De,if_false,hlen,CJ,Nat.add_zero,CP,if_true,CM,hnew,EN,CY,Gm]
theorem cN{t:TypeId}{z:List D}(hz:dv P t=some z):∃v,gh P t=some v∧z=v.cells.toList.map lit:=by
 unfold dv at hz
 cases hv:gh P t with
 | none=>simp[hv] at hz
 | some v=>simp[hv] at hz;exact⟨v,rfl,hz.symm⟩
theorem nQ(R:Rep Γ O w l h){b e0 sz:Nat}{es:List (List D)}(hb:h[b]? = some (.vec es e0 sz))(w1:World)(hw1:w1.heap=w.heap∧w1.tape=w.tape∧w1.os=w.os∧w1.output=w.output∧w.drawn≤w1.drawn)
  (e:TypeId) (cs:Array Value) (rows:List (List D)) (cap:Nat) (ys rest:List Value)
  (hcs:cs.toList=ys++rest) (hsz:cs.size=cap*sz) (hcap:rows.length≤cap) (hr:∀r∈rows,r.length=sz) (ry:RelL w (avs O l h) l h rows.flatten ys) :
  ∃l',Rep Γ O (w1.alloc (.cells cs e)) l' (h.set b (.vec rows (e0+1) sz))∧Ext w l h (w1.alloc (.cells cs e)) l' (h.set b (.vec rows (e0+1) sz)) ∧
   Rel (w1.alloc (.cells cs e)) (avs O l' (h.set b (.vec rows (e0+1) sz))) l' (h.set b (.vec rows (e0+1) sz)) (.ref (.vec b (e0+1))) (.slice (some ⟨w.heap.size,0,none⟩) rows.length cap):=by
 have hs:w1.heap.size=w.heap.size:=by rw[hw1.1]
 have:=R.step (w':=w1.alloc (.cells cs e)) (l':=l.upd b (some (w.heap.size,mkP 0 cap))) (h':=h.set b (.vec rows (e0+1) sz)) b (.vec rows (e0+1) sz) (by simp[hs]) ⟨hw1.2.1,hw1.2.2.1,hw1.2.2.2⟩
  (fun i hi=>bq _ _ hi) (aW hb) (fun i hi=>Loc.upd_ne _ _ _ hi)
  (fun z hz=>by rw[hb] at hz;cases hz;exact⟨⟨Ei _,fun hh=>absurd hh (by omega),rfl⟩,fun hh=>absurd hh (by simp[GQ])⟩)
  (fun k hk _=>by rw[heap_alloc_old w1 _ k (by omega),hw1.1])
  (fun k c hk=>by simp at hk;exact .inr ⟨by omega,by simp;omega⟩)
  (fun E=>by
   simp only[BlkOk,Fc]
   exact⟨0,cap,rfl,cs,e,(0,0),ys,by rw[←hs];exact heap_alloc_new w1 _,by omega,hcap,by simp,hr,E.relL ry,[],rest,rfl,hcs⟩)
 refine⟨_,this.1,this.2,?_⟩
 simp only[Rel,RefRel]
 refine⟨rfl,?_⟩
 rw[aW hb]
 simp only[Fc,gg]
 exact⟨CP _,fun _=>⟨0,cap,rfl,rfl,hcap⟩⟩
theorem mm(R:Rep Γ O w l h){t tx ty:TypeId}{s x d:D}{ys yx:Value}{h':List Blk}(rs:Rel w (avs O l h) l h s ys)(rx:Rel w (avs O l h) l h x yx)
  (hd:pv P h t tx s x=some (true,d,h')) :
  ∃v w' l',(DS #[t,tx] ty #[ys,yx]).run P w=.ok v w'∧Rep Γ O w' l' h'∧Ext w l h w' l' h'∧Rel w' (avs O l' h') l' h' d v:=by
 unfold pv at hd
 cases hte:fF P t with
 | none=>simp[hte] at hd
 | some e =>
  cases hux:P.underlying tx with
  | none=>simp[hte,hux] at hd
  | some dx =>
   simp only[hte,hux] at hd
   split at hd
   case isTrue=>simp at hd
   rename_i hdx0
   have hdx:∀k,dx ≠ .int k:=by intro k hk;subst hk;simp[isIntT] at hdx0
   have ht:P.underlying t=some (.slice e):=by
    unfold fF at hte
    cases hu:P.underlying t with
    | none=>simp[hu] at hte
    | some u=>cases u<;>simp_all
   cases hs:szOf P e with
   | none=>simp[hs] at hd
   | some sz =>
    cases hb:bytesOf P e with
    | none=>simp[hs,hb] at hd
    | some by' =>
     cases hz:dv P e with
     | none=>simp[hs,hb,hz] at hd
     | some z =>
      cases hrows:rowsD h x with
      | none=>simp[hs,hb,hz,hrows] at hd
      | some rows =>
       simp only[hs,hb,hz,hrows] at hd
       split at hd
       case isFalse=>simp at hd
       rename_i hzl
       obtain⟨zv,hzv,rfl⟩:=cN hz
       have hzsz:zv.cells.size=sz:=by simpa using hzl
       have pre:rows.all (rowOk sz)=true→(∀r∈rows,r.length=sz)∧(rows.flatten.all D.one=true):=by
        intro ha
        simp only[CS,rowOk,Cy,decide_eq_true_eq] at ha
        refine⟨fun r hr=>(ha r hr).1,?_⟩
        simp only[CS,List.mem_flatten]
        rintro c ⟨r,hr,hc⟩
        exact(ha r hr).2 c hc
       obtain⟨R1,E1⟩:=R.of_heap (w':=w.drew) rfl ⟨rfl,rfl,rfl,(by first|exact CP _|exact Ei _)⟩
       have hroom:∀{n m:Nat},roomOk (n+m) by'=true→(n+m)*by'≤140737488355328∧n+m≤4611686018427387904:=by
        intro n m hh;simpa[roomOk] using hh
       have mk:∀(base:Option Addr) (cap:Nat) (orows:List (List D)) (y:Value),y=.slice base orows.length cap→Rel w (avs O l h) l h s y→rowsD h s=some orows→(∀r∈orows,r.length=sz) →
         rows.all (rowOk sz)=true→roomOk (orows.length+rows.length) by'=true→cap<orows.length+rows.length →
         ∃(cap2:Nat) (cs:Array Value) (zs rest:List Value),(DS #[t,tx] ty #[y,yx]).run P w=.ok (.slice (some ⟨w.heap.size,0,none⟩) (orows++rows).length cap2) (w.drew.alloc (.cells cs e)) ∧
          cs.toList=zs++rest∧cs.size=cap2*sz∧(orows++rows).length≤cap2∧(∀r∈orows++rows,r.length=sz)∧RelL w.drew (avs O l h) l h (orows++rows).flatten zs:=by
        intro base cap orows y hy ry hor hol ha hro hlt
        subst hy
        obtain⟨p1,p2⟩:=pre ha
        obtain⟨g1,_⟩:=bH (P:=P) R rx hrows p1
        obtain⟨_,news,g2,g3⟩:=bH (P:=P) R1 (E1.rel rx) hrows p1
        obtain⟨_,olds,g5,g6⟩:=bH (P:=P) R1 (E1.rel ry) hor hol
        obtain⟨q1,q2⟩:=hroom hro
        obtain⟨cap2,q3,q4⟩:=lh (P:=P) (ty:=ty) ht hux hdx hs hb hzv g1 g2 g5 hlt q1 q2
        refine⟨cap2,_,olds++news,(E5 zv.cells (cap2 - (orows.length+rows.length))).toList,by rw[q4,C3],by simp,?_,by rw[C3];exact q3,?_,?_⟩
        ·have h1:=g6.length
         have h2:=g3.length
         rw[ai hol] at h1
         rw[ai p1] at h2
         simp only[Array.size_append,List.size_toArray,lg,hzsz,←h1,←h2,←D2]
         congr 1;omega
        ·intro r hr
         rcases C2.1 hr with hr|hr
         ·exact hol r hr
         ·exact p1 r hr
        ·rw[DZ];exact g6.append g3
       have news:∀(orows:List (List D)) (y:Value) (base:Option Addr) (cap:Nat),y=.slice base orows.length cap→Rel w (avs O l h) l h s y→rowsD h s=some orows→(∀r∈orows,r.length=sz) →
         rows.all (rowOk sz)=true→roomOk (orows.length+rows.length) by'=true→cap<orows.length+rows.length→d=.ref (.vec h.length 0)→h'=h++[.vec (orows++rows) 0 sz] →
         ∃v w' l',(DS #[t,tx] ty #[y,yx]).run P w=.ok v w'∧Rep Γ O w' l' h'∧Ext w l h w' l' h'∧Rel w' (avs O l' h') l' h' d v:=by
        intro orows y base cap hy ry hor hol ha hro hlt hd2 hh2
        obtain⟨cap2,cs,zs,rest,k1,k2,k3,k4,k5,k6⟩:=mk base cap orows y hy ry hor hol ha hro hlt
        obtain⟨l',k7,k8,k9⟩:=hZ R1 w.drew ⟨rfl,rfl,rfl,rfl,(by first|exact CP _|exact Ei _)⟩ e cs (orows++rows) sz cap2 zs rest k2 k3 k4 k5 k6
        subst hd2;subst hh2
        exact⟨_,_,l',k1,k7,E1.trans k8,k9⟩
       split at hd
       ·-- nil
        simp only[Cs,Cu,Cy] at hd
        obtain⟨⟨ha,hro⟩,rfl,rfl⟩:=hd
        simp only[Rel,RelP] at rs
        subst rs
        cases hrl:rows with
        | nil =>
         subst hrl
         obtain⟨g1,nw,g2,g3⟩:=bH (P:=P) R rx hrows (pre ha).1
         obtain⟨l',k7,k8,k9⟩:=sg R sz
         exact⟨_,_,l',ey ht hux hdx hs g1 g2,k7,k8,k9⟩
        | cons r0 rs' =>
         rw[←hrl]
         exact news [] (.slice none 0 0) none 0 rfl (by simp[Rel,RelP]) (by simp[rowsD]) (by simp) ha hro (by rw[hrl];simp) rfl (by simp)
       ·-- bQ
        rename_i es
        simp only[Cs,Cu,Cy,DI,FL] at hd
        obtain⟨⟨⟨⟨ha,hro⟩,hne⟩,hel⟩,rfl,rfl⟩:=hd
        have hol:∀r∈es.map (·.map D.p),r.length=sz:=by
         simp only[CS,decide_eq_true_eq] at hel
         intro r hr
         obtain⟨r0,h0,rfl⟩:=List.mem_map.1 hr
         simpa using hel r0 h0
        have hpos:0<rows.length:=FM.2 hne
        have rs':=rs
        simp only[Rel] at rs
        rcases rs with ⟨rfl,a0,rfl⟩|⟨blk,off,sz2,rfl,rr⟩
        ·exact news [] _ a0 0 rfl rs' (by simp[rowsD]) (by simp) ha hro (by simpa using hpos) rfl (by simp)
        ·exact news (es.map (·.map .p)) _ (some ⟨blk,off,none⟩) es.length (by simp) rs' (by simp[rowsD]) hol ha (by simpa using hro) (by simp;omega) rfl rfl
       ·-- a bQ part
        rename_i b e' i n
        cases hbk:h[b]? with
        | none=>simp[hbk] at hd
        | some bx =>
         cases bx<;>simp only[hbk,reduceCtorEq] at hd
         rename_i es e2 sz'
         split at hd
         case isFalse=>simp at hd
         rename_i he
         obtain⟨rfl,rfl⟩:=he
         simp only[Cs,Cu,Cy,DI,FL] at hd
         obtain⟨⟨⟨ha,hro⟩,hne⟩,rfl,rfl⟩:=hd
         have hpos:0<rows.length:=FM.2 hne
         have rs':=rs
         obtain⟨_,hr⟩:=rs
         simp only[hbk] at hr
         obtain⟨hin,blk,oo,cap,c2,hlb,hy,_,_,hc⟩:=hr.2 trivial
         have hc2:=hc trivial
         subst hc2
         have hlen:((es.drop i).take c2).length=c2:=by simp;omega
         have hok:=R.blk b _ hbk
         simp only[BlkOk,hlb] at hok
         obtain⟨_,_,_,c,T,fr,ys',o1,o2,o3,o4,o5,o6,o7⟩:=hok
         rcases hy with rfl|⟨a0,rfl,_⟩
         ·exact news ((es.drop i).take c2) _ (some _) c2 (by rw[hlen]) rs' (by simp[rowsD,hbk]) (fun r hr=>o5 r (EO (EP hr))) ha (by rw[hlen];exact hro) (by rw[hlen];omega) rfl rfl
         ·exact news ((es.drop i).take c2) _ a0 c2 (by rw[hlen]) rs' (by simp[rowsD,hbk]) (fun r hr=>o5 r (EO (EP hr))) ha (by rw[hlen];exact hro) (by rw[hlen];omega) rfl rfl
       ·-- the rest of a vector
        rename_i b e' i n
        cases hbk:h[b]? with
        | none=>simp[hbk] at hd
        | some bx =>
         cases bx<;>simp only[hbk,reduceCtorEq] at hd
         rename_i es e2 sz'
         split at hd
         case isFalse=>simp at hd
         rename_i he
         obtain⟨rfl,rfl,hin⟩:=he
         simp only[Cs,Cu,Cy,DI,FL] at hd
         obtain⟨⟨⟨ha,hro⟩,hne⟩,rfl,rfl⟩:=hd
         have hpos:0<rows.length:=FM.2 hne
         have rs':=rs
         obtain⟨_,hr⟩:=rs
         simp only[hbk] at hr
         obtain⟨_,blk,oo,cap,c2,hlb,hy,hnc,hic,_⟩:=hr.2 trivial
         have hlen:(es.drop i).length=n:=by simp;omega
         have hok:=R.blk b _ hbk
         simp only[BlkOk,hlb] at hok
         obtain⟨o2',cc,rc,c,T,fr,ys',o1,o2,o3,o4,o5,o6,pr,rest,o0,o7⟩:=hok
         obtain⟨rfl,rfl⟩:=b8 rc
         have hor:rowsD h (.ref (.vs b e' i n false))=some (es.drop i):=by
          simp only[rowsD,hbk,if_true]
          rw[DU (by omega)]
         have grow:∀(base:Option Addr),ys=.slice base n c2→c2<n+rows.length →
           ∃v w' l',(DS #[t,tx] ty #[ys,yx]).run P w=.ok v w'∧Rep Γ O w' l' (h.set b (.vec (es.drop i++rows) (e'+1) sz'))∧Ext w l h w' l' (h.set b (.vec (es.drop i++rows) (e'+1) sz')) ∧
            Rel w' (avs O l' (h.set b (.vec (es.drop i++rows) (e'+1) sz'))) l' (h.set b (.vec (es.drop i++rows) (e'+1) sz')) (.ref (.vec b (e'+1))) v:=by
          intro base hy hlt
          obtain⟨cap2,cs,zs,rest,k1,k2,k3,k4,k5,k6⟩:=mk base c2 (es.drop i) ys (by rw[hlen];exact hy) rs' hor (fun r hr=>o5 r (EO hr)) ha (by rw[hlen];exact hro) (by rw[hlen];exact hlt)
          obtain⟨l',k7,k8,k9⟩:=nQ R1 hbk w.drew ⟨rfl,rfl,rfl,rfl,(by first|exact CP _|exact Ei _)⟩ e cs (es.drop i++rows) cap2 zs rest k2 k3 k4 k5 k6
          exact⟨_,_,l',k1,k7,E1.trans k8,k9⟩
         rcases hy with hy|⟨a0,hy,hc0⟩
         ·by_cases hfit:n+rows.length≤c2
          ·subst hy
           obtain⟨p1,p2⟩:=pre ha
           obtain⟨g1,nw,g2,g3⟩:=bH (P:=P) R rx hrows p1
           have hnl:nw.length=rows.length*sz':=by rw[←g3.length,ai p1]
           have hcz0:oo+i*sz'+c2*sz'≤c.size:=by
            have:=D1 sz' hic
            rw[D2] at this
            omega
           obtain⟨w',c',k1,k2,k3,k4,k5,k6⟩:=gk (P:=P) (ty:=ty) (T:=T) ht hux hdx hs g1 g2 (hG g3 p2) hnl hfit o1 o4 hcz0
           have hyl:ys'.length=i*sz'+n*sz':=by rw[←o6.length,ai o5,←D2,hin]
           have hfd:(es.drop i).flatten=es.flatten.drop (i*sz'):=by
            have:=au o5 i n (by omega)
            rw[DU (by omega),DU (l:=es.flatten.drop (i*sz')) (by rw[DA,ai o5,←hin,D2];omega)] at this
            exact this
           have hcz:c'.size=c.size:=by
            have hh:=congrArg Cw k5
            have h9:=D1 sz' hfit
            rw[D2] at h9
            simp only[aM,C3,D4,DA,DV] at hh
            omega
           have:=R.step (w':=w') (l':=l.upd b (some (blk,mkP (oo+i*sz') c2))) (h':=h.set b (.vec (es.drop i++rows) (e'+1) sz')) b (.vec (es.drop i++rows) (e'+1) sz') (by omega) k6
            (fun i hi=>bq _ _ hi) (aW hbk) (fun i hi=>Loc.upd_ne _ _ _ hi)
            (fun z hz=>by rw[hbk] at hz;cases hz;exact⟨⟨Ei _,fun hh=>absurd hh (by omega),rfl⟩,fun hh=>absurd hh (by simp[GQ])⟩)
            (fun k hk hno=>k3 k (fun ee=>hno _ (mkP oo cap) hbk (by simp) (by rw[hlb,ee])))
            (fun k cc hk=>by
             rw[Fc] at hk
             cases hk
             exact .inl ⟨_,_,hbk,by simp,hlb⟩)
            (fun E=>by
             simp only[BlkOk,Fc]
             refine⟨oo+i*sz',c2,rfl,c',T,fr,ys'.drop (i*sz')++nw,k4,by omega,by rw[C3,hlen];exact hfit,by rw[hcz];exact o4,?_,?_,pr++ys'.take (i*sz'),rest.drop nw.length,?_,?_⟩
             ·intro r hr
              rcases C2.1 hr with hr|hr
              ·exact o5 r (EO hr)
              ·exact p1 r hr
             ·rw[DZ,hfd];exact((E.relL o6).drop _).append (E.relL g3)
             ·rw[C3,D4];omega
             ·have e1:oo+i*sz'+n*sz'=(pr++ys').length:=by rw[C3];omega
              rw[k5,o7]
              unfold aM
              rw[e1,List.take_left',FK]
              ·simp only[EJ]
               rw[←EJ (ys'.take _) (ys'.drop _),List.take_append_drop]
               simp
              ·rfl)
           refine⟨_,w',_,k1,this.1,this.2,?_⟩
           simp only[Rel,RefRel]
           refine⟨rfl,?_⟩
           rw[aW hbk]
           simp only[Fc,gg]
           exact⟨CP _,fun _=>⟨_,_,rfl,by rw[C3,hlen],by rw[C3,hlen];exact hfit⟩⟩
          ·exact grow _ hy (by omega)
         ·exact grow _ hy (by omega)
       ·-- an owned vector
        rename_i b e'
        cases hbk:h[b]? with
        | none=>simp[hbk] at hd
        | some bx =>
         cases bx<;>simp only[hbk,reduceCtorEq] at hd
         rename_i es e2 sz'
         split at hd
         case isFalse=>simp at hd
         rename_i he
         obtain⟨rfl,rfl⟩:=he
         simp only[Cs,Cu,Cy] at hd
         obtain⟨⟨ha,hro⟩,rfl,rfl⟩:=hd
         have rs':=rs
         obtain⟨_,hr⟩:=rs
         simp only[hbk] at hr
         have hv:=hr.2 trivial
         have hok:=R.blk b _ hbk
         have grow:∀(base:Option Addr) (cap:Nat),ys=.slice base es.length cap→(∀r∈es,r.length=sz')→cap<es.length+rows.length →
           ∃v w' l',(DS #[t,tx] ty #[ys,yx]).run P w=.ok v w'∧Rep Γ O w' l' (h.set b (.vec (es++rows) (e'+1) sz'))∧Ext w l h w' l' (h.set b (.vec (es++rows) (e'+1) sz')) ∧
            Rel w' (avs O l' (h.set b (.vec (es++rows) (e'+1) sz'))) l' (h.set b (.vec (es++rows) (e'+1) sz')) (.ref (.vec b (e'+1))) v:=by
          intro base cap hy hol hlt
          obtain⟨cap2,cs,zs,rest,k1,k2,k3,k4,k5,k6⟩:=mk base cap es ys hy rs' (by simp[rowsD,hbk]) hol ha hro hlt
          obtain⟨l',k7,k8,k9⟩:=nQ R1 hbk w.drew ⟨rfl,rfl,rfl,rfl,(by first|exact CP _|exact Ei _)⟩ e cs (es++rows) cap2 zs rest k2 k3 k4 k5 k6
          exact⟨_,_,l',k1,k7,E1.trans k8,k9⟩
         cases hlb:l b with
         | none =>
          simp only[hlb,gg,BlkOk] at hv hok
          obtain⟨_,rfl⟩:=hv
          subst hok
          cases hrl:rows with
          | nil =>
           subst hrl
           obtain⟨g1,nw,g2,g3⟩:=bH (P:=P) R rx hrows (pre ha).1
           have:=R.step (w':=w) (l':=l) (h':=h.set b (.vec ([]++[]) (e'+1) sz')) b (.vec ([]++[]) (e'+1) sz') (CP _) ⟨rfl,rfl,rfl,(by first|exact CP _|exact Ei _)⟩
            (fun i hi=>bq _ _ hi) (aW hbk) (fun _ _=>rfl)
            (fun z hz=>by rw[hbk] at hz;cases hz;exact⟨⟨Ei _,fun hh=>absurd hh (by omega),rfl⟩,fun hh=>absurd hh (by simp[GQ])⟩)
            (fun _ _ _=>rfl) (fun k c hk=>by rw[hlb] at hk;simp at hk) (fun E=>by simp[BlkOk,hlb])
           refine⟨_,_,l,ey ht hux hdx hs g1 g2,this.1,this.2,?_⟩
           simp only[Rel,RefRel]
           refine⟨rfl,?_⟩
           rw[aW hbk]
           simp[gg,hlb]
          | cons r0 rs2 =>
           rw[←hrl]
           exact grow none 0 rfl (by simp) (by rw[hrl];simp)
         | some pr =>
          obtain⟨blk,cp0⟩:=pr
          simp only[hlb,gg,BlkOk] at hv hok
          obtain⟨oo,cap,rfl,rfl,hvl⟩:=hv
          obtain⟨o2',cc,rc,c,T,fr,ys',o1,o2,o3,o4,o5,o6,pr,rest,o0,o7⟩:=hok
          obtain⟨rfl,rfl⟩:=b8 rc
          by_cases hfit:es.length+rows.length≤cap
          ·obtain⟨p1,p2⟩:=pre ha
           obtain⟨g1,nw,g2,g3⟩:=bH (P:=P) R rx hrows p1
           have hnl:nw.length=rows.length*sz':=by rw[←g3.length,ai p1]
           obtain⟨w',c',k1,k2,k3,k4,k5,k6⟩:=gk (P:=P) (ty:=ty) (T:=T) ht hux hdx hs g1 g2 (hG g3 p2) hnl hfit o1 o4 o2
           have hyl:ys'.length=es.length*sz':=by rw[←o6.length,ai o5]
           have hcz:c'.size=c.size:=by
            have hh:=congrArg Cw k5
            have hcl:c.toList.length=pr.length+ys'.length+rest.length:=by rw[o7];simp only[C3]
            have h9:=D1 sz' hfit
            rw[D2] at h9
            simp only[aM,C3,D4,DA,DV] at hh hcl
            omega
           have:=R.step (w':=w') (l':=l) (h':=h.set b (.vec (es++rows) (e'+1) sz')) b (.vec (es++rows) (e'+1) sz') (by omega) k6
            (fun i hi=>bq _ _ hi) (aW hbk) (fun _ _=>rfl)
            (fun z hz=>by rw[hbk] at hz;cases hz;exact⟨⟨Ei _,fun hh=>absurd hh (by omega),rfl⟩,fun hh=>absurd hh (by simp[GQ])⟩)
            (fun k hk hno=>k3 k (fun ee=>hno _ (mkP oo cap) hbk (by simp) (by rw[hlb,ee])))
            (fun k cc hk=>.inl ⟨_,cc,hbk,by simp,hk⟩)
            (fun E=>by
             simp only[BlkOk,hlb]
             refine⟨oo,cap,rfl,c',T,fr,ys'++nw,k4,by omega,by simpa using hfit,by rw[hcz];exact o4,?_,?_,pr,rest.drop nw.length,o0,?_⟩
             ·intro r hr
              rcases C2.1 hr with hr|hr
              ·exact o5 r hr
              ·exact p1 r hr
             ·rw[DZ];exact(E.relL o6).append (E.relL g3)
             ·rw[k5,o7]
              unfold aM
              have e1:oo+es.length*sz'=(pr++ys').length:=by rw[C3];omega
              rw[e1,List.take_left',FK]
              ·simp
              ·rfl)
           refine⟨_,w',l,k1,this.1,this.2,?_⟩
           simp only[Rel,RefRel]
           refine⟨rfl,?_⟩
           rw[aW hbk]
           simp only[hlb,gg]
           exact⟨CP _,fun _=>⟨_,_,rfl,by rw[C3],by rw[C3];exact hfit⟩⟩
          ·exact grow (some ⟨blk,oo,none⟩) cap rfl o5 (by omega)
       ·simp at hd
end
section
variable {P:Program} {Γ:af} {O:Nat→Prop} {w:World} {l:Loc} {h:List Blk}
theorem al{av:Nat→Prop}{x y:Value}(r:Rel w av l h (.p (.v x)) y):y=x:=by simpa[Rel,RelP] using r
theorem eqS_eq(a b:ByteArray):(a.toList==b.toList)=eqS a b:=by simp[eqS,Hp]
theorem gl{op:BinOp}{k:IntKind}{a b n:Int}(hb:th op k a b=some n)(w:World):(Op.intBits op k a b).run P w=.ok (.int k n) w:=by
 unfold th at hb
 cases op<;>simp only[Cs,reduceCtorEq] at hb<;>subst hb<;>rfl
theorem intOp_run{op:BinOp}{k:IntKind}{t:TypeId}{a b:Int}{d:D}(hd:intOp op k a b=some (true,d))(w:World):
  ∃v,(binOp op t (.int k a) (.int k b)).run P w=.ok v w∧Rel w (avs O l h) l h d v:=by
 cases op<;>simp only[intOp,Cs,Cu,true_and,CC] at hd
 case quo =>
  obtain⟨h1,rfl⟩:=hd
  simp only[DI,decide_eq_false_iff_not] at h1
  exact⟨_,by simp[binOp,Op.intDiv,h1],rel_lit _ _ _ _ _⟩
 case rem =>
  obtain⟨h1,rfl⟩:=hd
  simp only[DI,decide_eq_false_iff_not] at h1
  exact⟨_,by simp[binOp,Op.intDiv,h1],rel_lit _ _ _ _ _⟩
 case add=>subst hd;exact⟨_,by simp[binOp,G8],rel_lit _ _ _ _ _⟩
 case sub=>subst hd;exact⟨_,by simp[binOp,G8],rel_lit _ _ _ _ _⟩
 case mul=>subst hd;exact⟨_,by simp[binOp,G8],rel_lit _ _ _ _ _⟩
 case eql=>subst hd;exact⟨_,by simp[binOp,Gs],rel_lit _ _ _ _ _⟩
 case neq=>subst hd;exact⟨_,by simp[binOp,Gs],rel_lit _ _ _ _ _⟩
 case lss=>subst hd;exact⟨_,by simp[binOp,Gs],rel_lit _ _ _ _ _⟩
 case leq=>subst hd;exact⟨_,by simp[binOp,Gs],rel_lit _ _ _ _ _⟩
 case gtr=>subst hd;exact⟨_,by simp[binOp,Gs],rel_lit _ _ _ _ _⟩
 case geq=>subst hd;exact⟨_,by simp[binOp,Gs],rel_lit _ _ _ _ _⟩
 case and=>obtain⟨n,h1,rfl⟩:=hd;exact⟨_,by simpa[binOp] using gl h1 w,rel_lit _ _ _ _ _⟩
 case or=>obtain⟨n,h1,rfl⟩:=hd;exact⟨_,by simpa[binOp] using gl h1 w,rel_lit _ _ _ _ _⟩
 case xor=>obtain⟨n,h1,rfl⟩:=hd;exact⟨_,by simpa[binOp] using gl h1 w,rel_lit _ _ _ _ _⟩
 case andNot=>obtain⟨n,h1,rfl⟩:=hd;exact⟨_,by simpa[binOp] using gl h1 w,rel_lit _ _ _ _ _⟩
 all_goals (obtain⟨n,h1,rfl⟩:=hd;simp[th] at h1)
theorem tl{op:BinOp}{t:TypeId}{a b:ByteArray}{d:D}(hd:strOp op a b=some (true,d))(w:World):
  ∃v,(binOp op t (.string a) (.string b)).run P w=.ok v w∧Rel w (avs O l h) l h d v:=by
 cases op<;>simp only[strOp,Cs,Cu,true_and,reduceCtorEq] at hd
 case add =>
  obtain⟨h1,rfl⟩:=hd
  have h2:¬(((a.size+b.size:Nat):Int)>Ct.max):=by
   have:Ct.max=9223372036854775807:=rfl
   rw[this];simp only[decide_eq_true_eq] at h1;omega
  exact⟨_,by simp only[binOp,Op.stringOp,h2,if_false];rfl,rel_lit _ _ _ _ _⟩
 all_goals
  subst hd
  refine⟨_,by simp only[binOp,Op.stringOp,Hp];rfl,rel_lit _ _ _ _ _⟩
theorem si{op:BinOp}{t:TypeId}{xo yo:Operand}{x y d:D}{a b:Value}(rx:Rel w (avs O l h) l h x a)(ry:Rel w (avs O l h) l h y b)(hd:binD op x y=some (true,d)):
  ∃v,(do eqGuard op t xo yo a b;binOp op t a b:Sem Value).run P w=.ok v w∧Rel w (avs O l h) l h d v:=by
 unfold binD at hd
 split at hd
 ·rename_i k n k' m
  obtain rfl:=al rx
  obtain rfl:=al ry
  have hg:(eqGuard op t xo yo (.int k n) (.int k' m)).run P w=.ok () w:=by
   unfold eqGuard
   cases op<;>simp
  simp only[CM,hg,CJ]
  split at hd
  ·simp only[Cs,Cu,decide_eq_true_eq] at hd
   obtain⟨h1,rfl⟩:=hd
   exact⟨_,by simp[binOp,Op.shift,F7.2 h1],rel_lit _ _ _ _ _⟩
  ·simp only[Cs,Cu,decide_eq_true_eq] at hd
   obtain⟨h1,rfl⟩:=hd
   exact⟨_,by simp[binOp,Op.shift,F7.2 h1],rel_lit _ _ _ _ _⟩
  ·split at hd
   ·rename_i hk;subst hk;exact intOp_run hd w
   ·simp at hd
 ·rename_i s u
  obtain rfl:=al rx
  obtain rfl:=al ry
  have hg:(eqGuard op t xo yo (.string s) (.string u)).run P w=.ok () w:=by
   unfold eqGuard
   cases op<;>simp
  simp only[CM,hg,CJ]
  exact tl hd w
 ·simp at hd
theorem tm{op:UnOp}{x d:D}{a:Value}(rx:Rel w (avs O l h) l h x a)(hd:unD op x=some d):∃v,(H5 op a).run P w=.ok v w∧Rel w (avs O l h) l h d v:=by
 unfold unD at hd
 split at hd
 ·obtain rfl:=al rx
  split at hd
  ·cases hd;exact⟨_,by simp[H5,G8],rel_lit _ _ _ _ _⟩
  ·simp only[CC] at hd
   obtain⟨n,h1,rfl⟩:=hd
   exact⟨_,by simpa[H5] using gl h1 w,rel_lit _ _ _ _ _⟩
  ·simp at hd
 ·obtain rfl:=al rx
  split at hd
  ·cases hd;exact⟨_,by simp[H5],rel_lit _ _ _ _ _⟩
  ·simp at hd
 ·simp at hd
theorem pw{c x y d:D}{vc vx vy:Value}(rc:Rel w (avs O l h) l h c vc)(rx:Rel w (avs O l h) l h x vx)(ry:Rel w (avs O l h) l h y vy)(hd:pickD c x y=some (true,d)):
  ∃v,(do pure (.value (if ←asBool vc then vx else vy)):Sem Next).run P w=.ok (.value v) w∧Rel w (avs O l h) l h d v:=by
 unfold pickD at hd
 split at hd
 case h_2=>simp at hd
 rename_i b
 obtain rfl:=al rc
 split at hd
 ·cases hd
  obtain rfl:=al rx
  obtain rfl:=al ry
  cases b
  ·exact⟨_,by simp[asBool],rel_lit _ _ _ _ _⟩
  ·exact⟨_,by simp[asBool],rel_lit _ _ _ _ _⟩
 ·simp only[Cs,Cu,Eb] at hd
  obtain⟨hg,rfl⟩:=hd
  obtain rfl:=al rx
  cases b
  ·simp only[Rel] at ry
   have:=ry.1 (by simpa using hg)
   simp only[RelP] at this
   subst this
   exact⟨_,by simp[asBool],rel_lit _ _ _ _ _⟩
  ·exact⟨_,by simp[asBool],rel_lit _ _ _ _ _⟩
 ·simp only[Cs,Cu,Eb] at hd
  obtain⟨hg,rfl⟩:=hd
  obtain rfl:=al ry
  cases b
  ·exact⟨_,by simp[asBool],rel_lit _ _ _ _ _⟩
  ·simp only[Rel] at rx
   have:=rx.1 (by simpa using hg)
   simp only[RelP] at this
   subst this
   exact⟨_,by simp[asBool],rel_lit _ _ _ _ _⟩
 ·cases hd
  cases b
  ·exact⟨_,by simp[asBool],ry⟩
  ·exact⟨_,by simp[asBool],rx⟩
theorem py{src dst:TypeId}{x d:D}{a:Value}(rx:Rel w (avs O l h) l h x a)(hd:yW P src dst x=some d):
  ∃v,(convert src dst a).run P w=.ok v w∧Rel w (avs O l h) l h d v:=by
 unfold yW at hd
 split at hd
 ·rename_i s k n h1 h2
  cases hd
  obtain rfl:=al rx
  refine⟨_,?_,rel_lit _ _ _ _ _⟩
  simp only[convert,CM,und_run h1,und_run h2,CJ,Conv.intToInt,CY]
 ·rename_i s n h1 h2
  cases hd
  obtain rfl:=al rx
  refine⟨_,?_,rel_lit _ _ _ _ _⟩
  simp only[convert,CM,und_run h1,und_run h2,CJ]
  cases s<;>simp
 ·simp at hd
theorem dM{mx:Bool}{t:TypeId}{ts:Array TypeId}:∀{xs:List D} {x d:D} {a:Value} {vs:List Value} (_:Rel w (avs O l h) l h x a) (_:RelL w (avs O l h) l h xs vs) (_:hJ mx x xs=some d),
  ∃v,(vs.foldlM (if mx then Builtin.max2 else Builtin.min2) a).run P w=.ok v w∧Rel w (avs O l h) l h d v
 | [],x,d,a,[],rx,_,hd=>by simp only[hJ,Cs] at hd;subst hd;exact⟨a,by simp,rx⟩
 | y::xs,x,d,a,v::vs,rx,rl,hd=>by
  simp only[RelL] at rl
  simp only[hJ] at hd
  cases h1:intOf? x with
  | none=>simp[h1] at hd
  | some p1 =>
   cases h2:intOf? y with
   | none=>simp[h1,h2] at hd
   | some p2 =>
    obtain⟨k,n⟩:=p1
    obtain⟨k2,m⟩:=p2
    simp only[h1,h2] at hd
    obtain rfl:=bj rx h1
    obtain rfl:=bj rl.1 h2
    obtain⟨v,h3,h4⟩:=dM (t:=t) (ts:=ts) (a:=.int k (if mx then (if m>n then m else n) else (if m<n then m else n))) (rel_lit _ _ _ _ _) rl.2 hd
    refine⟨v,?_,h4⟩
    rw[List.foldlM_cons,CM]
    cases mx<;>simpa[Builtin.max2,Builtin.min2] using h3
 | [],_,_,_,_::_,_,rl,_=>by simp[RelL] at rl
 | _::_,_,_,_,[],_,rl,_=>by simp[RelL] at rl
theorem sj{x:D}{y:Value}{n:Nat}(rx:Rel w (avs O l h) l h x y)(hx:lenD h x=some n):∃a c,y=.slice a n c:=by
 cases x with
 | p dp =>
  cases dp with
  | v x =>
   obtain rfl:=al rx
   cases y<;>simp[lenD] at hx
   case slice a m c=>cases a<;>cases m<;>cases c<;>simp at hx;subst hx;exact⟨_,_,rfl⟩
  | sl es =>
   simp only[lenD,Cs] at hx
   subst hx
   simp only[Rel,RelP] at rx
   rcases rx with ⟨rfl,_,_,rfl,_⟩|⟨blk,off,cap,sz,rfl,_,rr⟩<;>exact⟨_,_,rfl⟩
 | csl es =>
  simp only[lenD,Cs] at hx
  subst hx
  simp only[Rel] at rx
  rcases rx with ⟨rfl,_,rfl⟩|⟨blk,off,sz,rfl,rr⟩<;>exact⟨_,_,rfl⟩
 | ref r =>
  obtain⟨g1,hr⟩:=rx
  cases r with
  | vec b e =>
   simp only[lenD] at hx hr
   cases hb:h[b]? with
   | none=>simp[hb] at hx
   | some bx =>
    cases bx<;>simp only[hb,reduceCtorEq] at hx hr
    split at hx
    case isFalse=>simp at hx
    rename_i he
    cases hx
    have hv:=hr.2 he.symm
    cases hlb:l b with
    | none=>simp only[hlb,gg] at hv;rw[hv.1,hv.2];exact⟨_,_,rfl⟩
    | some pr=>obtain⟨blk,cap⟩:=pr;simp only[hlb,gg] at hv;obtain⟨_,_,_,rfl,_⟩:=hv;exact⟨_,_,rfl⟩
  | vs b e i m c =>
   simp only[lenD] at hx hr
   cases hb:h[b]? with
   | none=>simp[hb] at hx
   | some bx =>
    cases bx<;>simp only[hb,reduceCtorEq] at hx hr
    split at hx
    case isFalse=>simp at hx
    rename_i he
    cases hx
    obtain⟨_,blk,oo,cap,c2,_,hy,_⟩:=hr.2 he.symm
    rcases hy with rfl|⟨_,rfl,_⟩<;>exact⟨_,_,rfl⟩
  | av b off m sz =>
   simp only[lenD] at hx hr
   cases hb:h[b]? with
   | none=>simp[hb] at hx
   | some bx =>
    cases bx<;>simp only[hb,reduceCtorEq] at hx hr
    cases hx
    obtain⟨blk,cp,c2,_,rfl,_⟩:=hr
    exact⟨_,_,rfl⟩
  | _=>simp[lenD] at hx
 | _=>simp[lenD] at hx
theorem ez:∀(kvs:List (D×D×Nat)) (es:List MapEntry),RelKV w (avs O l h) l h kvs es→kvs.length=es.length
 | [],[],_=>rfl
 | (_,_,_)::kvs,e::es,r=>by simp only[RelKV] at r;simp[ez kvs es r.2.2.2]
 | [],_::_,r=>by simp[RelKV] at r
 | _::_,[],r=>by simp[RelKV] at r
theorem pz(R:Rep Γ O w l h){t ty:TypeId}{ts:List TypeId}{x d:D}{y:Value}(rx:Rel w (avs O l h) l h x y)(hd:sf P h t x=some d):
  ∃v,(Ft (t::ts).toArray ty #[y]).run P w=.ok v w∧Rel w (avs O l h) l h d v:=by
 unfold sf at hd
 cases hu:P.underlying t with
 | none=>simp[hu] at hd
 | some u =>
  cases u<;>simp only[hu,reduceCtorEq,CC,Cs] at hd
  case array n e=>subst hd;exact⟨_,by simp[Ft,und_run hu,goInt],rel_lit _ _ _ _ _⟩
  case string =>
   split at hd
   ·cases hd
    obtain rfl:=al rx
    exact⟨_,by simp[Ft,und_run hu,goInt],rel_lit _ _ _ _ _⟩
   ·simp at hd
  case slice e =>
   obtain⟨n,h1,rfl⟩:=hd
   obtain⟨a,c,rfl⟩:=sj rx h1
   exact⟨_,by simp[Ft,und_run hu,goInt],rel_lit _ _ _ _ _⟩
  case map kt et =>
   split at hd
   ·cases hd
    obtain rfl:=al rx
    exact⟨_,by simp[Ft,und_run hu,goInt],rel_lit _ _ _ _ _⟩
   ·rename_i b
    cases hb:h[b]? with
    | none=>simp[hb] at hd
    | some bx =>
     obtain⟨_,hr⟩:=rx
     cases bx<;>simp only[hb,reduceCtorEq,Cs] at hd hr
     subst hd
     obtain⟨blk,cp,hlb,rfl⟩:=hr
     obtain⟨blk',cp',es,h1,h2,h3⟩:=R.blk b _ hb
     obtain⟨rfl,rfl⟩:blk=blk'∧cp=cp':=by simpa[hlb] using h1
     refine⟨_,?_,rel_lit _ _ _ _ _⟩
     simp[Ft,und_run hu,getObj,Sem.run,h2,goInt,ez _ _ h3]
   ·simp at hd
end
section
variable {P:Program} {Γ:af} {O:Nat→Prop} {w:World} {l:Loc} {h:List Blk}
theorem jR:∀(vs:List Value) (k off:Nat) (cs:Array Value),off+k+vs.length≤cs.size →
  ((vs.zipIdx k).foldl (fun cs (p:Value×Nat)=>cs.setIfInBounds (off+p.2) p.1) cs).toList=aM cs.toList (off+k) vs
 | [],k,off,cs,_=>by simp[aM]
 | v::vs,k,off,cs,hl=>by
  simp only[Dk] at hl
  simp only[List.zipIdx_cons,List.foldl_cons]
  rw[jR vs (k+1) off (cs.setIfInBounds (off+k) v) (by simp;omega)]
  simp only[aM,Array.toList_setIfInBounds,Dk]
  have hlt:off+k<cs.toList.length:=by simp;omega
  rw[List.drop_set,if_pos (by omega)]
  have h8:(cs.toList.set (off+k) v).take (off+(k+1))=cs.toList.take (off+k)++[v]:=by
   rw[show off+(k+1)=(off+k)+1 by omega,List.take_succ_eq_append_getElem (by simpa using hlt),List.take_set,List.set_eq_of_length_le (by simp;omega)]
   simp
  rw[h8,show off+(k+1)+vs.length=off+k+(vs.length+1) by omega]
  simp
theorem nR(vs:Array Value)(off:Nat)(cs:Array Value)(hl:off+vs.size≤cs.size):
  (vs.zipIdx.foldl (fun cs (p:Value×Nat)=>cs.setIfInBounds (off+p.2) p.1) cs).toList=aM cs.toList off vs.toList:=by
 have:=jR vs.toList 0 off cs (by simpa using hl)
 rw[←Array.foldl_toList,Array.toList_zipIdx]
 simpa using this
theorem eZ{place:Nat→Option (Nat×Nat)}:∀{ps:List (Nat×D)} {qs:List (Nat×Value)} {cs cs':List D} {vs:Array Value},ps.length=qs.length →
  (∀(j:Nat) (p:Nat×D) (q:Nat×Value),ps[j]? = some p→qs[j]? = some q→p.1=q.1∧Rel w (avs O l h) l h p.2 q.2)→RelL w (avs O l h) l h cs vs.toList→nI place cs ps=some cs' →
  ∃vs',Instr.fill place vs qs=some vs'∧RelL w (avs O l h) l h cs' vs'.toList∧vs'.size=vs.size
 | [],[],cs,cs',vs,_,_,r,hd=>by simp only[nI,Cs] at hd;subst hd;exact⟨vs,rfl,r,rfl⟩
 | p::ps,q::qs,cs,cs',vs,hl,hp,r,hd=>by
  obtain⟨i,d⟩:=p
  obtain⟨i',y⟩:=q
  obtain⟨rfl,rd⟩:=hp 0 (i,d) (i',y) (by simp) (by simp)
  simp only[nI] at hd
  cases hpl:place i with
  | none=>simp[hpl] at hd
  | some os =>
   obtain⟨off,size⟩:=os
   cases hc:d.cells with
   | none=>simp[hpl,hc] at hd
   | some new =>
    simp only[hpl,hc] at hd
    split at hd
    case isFalse=>simp at hd
    rename_i hcond
    obtain⟨g1,g2⟩:=hcond
    obtain⟨c1,c2⟩:=cQ rd hc
    have hys:y.cells.size=size:=by rw[←g1,c1.length];simp
    have hcl:=r.length
    have hvs:vs.toList.length=vs.size:=by simp
    have hsp:=nR y.cells off vs (by omega)
    have rsp:RelL w (avs O l h) l h (bd cs off new) (y.cells.zipIdx.foldl (fun cs (p:Value×Nat)=>cs.setIfInBounds (off+p.2) p.1) vs).toList:=by
     rw[hsp];exact r.splice off c1
    obtain⟨vs',f1,f2,f3⟩:=eZ (ps:=ps) (qs:=qs) (by simpa using hl) (fun j p q h1 h2=>hp (j+1) p q (by simpa using h1) (by simpa using h2)) rsp hd
    refine⟨vs',?_,f2,?_⟩
    ·simp only[Instr.fill,hpl]
     rw[if_neg]
     ·exact f1
     ·simp[hys];omega
    ·rw[f3]
     have:=congrArg Cw hsp
     simp only[aM,C3,D4,DA,DV] at this
     omega
 | [],_::_,_,_,_,hl,_,_,_=>by simp at hl
 | _::_,[],_,_,_,hl,_,_,_=>by simp at hl
theorem sk{fields:List Field}{pl:List (Nat×Nat)}(hp:fields.mapM (fun f=>(szOf P f.type).map fun n=>(f.offset,n))=some pl)(w:World):
  (fields.mapM (fun f=>(do pure (f.offset,←sizeOf f.type):Sem (Nat×Nat)))).run P w=.ok pl w:=by
 induction fields generalizing pl with
 | nil=>simp at hp;subst hp;simp
 | cons f fs ih =>
  simp only[HJ,Option.bind_eq_bind,Option.bind_eq_some_iff,CC,Option.pure_def,Cs] at hp
  obtain⟨p,⟨n,h1,rfl⟩,pl',h2,rfl⟩:=hp
  have:=ih h2
  simp only[HJ,CM,szOf_run h1,CJ,CY] at this ⊢
  rw[this]
  simp
theorem nS{t:TypeId}{ps:List (Nat×D)}{qs:List (Nat×Value)}{d:D}(hl:ps.length=qs.length)
  (hp:∀(j:Nat) (p:Nat×D) (q:Nat×Value),ps[j]? = some p→qs[j]? = some q→p.1=q.1∧Rel w (avs O l h) l h p.2 q.2) (hd:tg P t ps=some d) :
  ∃v,(HK t qs.toArray).run P w=.ok v w∧Rel w (avs O l h) l h d v:=by
 unfold tg at hd
 cases hu:P.underlying t with
 | none=>simp[hu] at hd
 | some u =>
  cases hz:dv P t with
  | none=>cases u<;>simp[hu,hz] at hd
  | some z =>
   obtain⟨zv,hzv,rfl⟩:=cN hz
   cases u<;>simp only[hu,hz,reduceCtorEq] at hd
   case struct fields =>
    cases hpl:qn P fields with
    | none=>simp[hpl] at hd
    | some pl =>
     simp only[hpl,CC] at hd
     obtain⟨cs,h1,rfl⟩:=hd
     obtain⟨vs',f1,f2,_⟩:=eZ hl hp (RelL.lits zv.cells.toList) h1
     refine⟨.agg vs',?_,by simp only[Rel];exact⟨_,rfl,f2⟩⟩
     have hm:(fields.mapM (fun f=>(do pure (f.offset,←sizeOf f.type):Sem (Nat×Nat)))).run P w=.ok pl.toArray w:=by
      rw[←Array.toArray_toList (xs:=fields)]
      rw[List.mapM_toArray]
      simp only[Sem.run_map,sk hpl w,CJ]
     simp only[HK,CM,zeroV_run hzv,CJ,und_run hu,hm]
     have:(fun (i:Nat)=>pl.toArray[i]?)=(fun (i:Nat)=>pl[i]?):=by funext i;simp
     rw[this,f1]
     simp
   case array n e =>
    cases hs:szOf P e with
    | none=>simp[hs] at hd
    | some sz =>
     simp only[hs,CC] at hd
     obtain⟨cs,h1,rfl⟩:=hd
     obtain⟨vs',f1,f2,_⟩:=eZ hl hp (RelL.lits zv.cells.toList) h1
     refine⟨.agg vs',?_,by simp only[Rel];exact⟨_,rfl,f2⟩⟩
     simp only[HK,CM,zeroV_run hzv,CJ,und_run hu,szOf_run hs,f1,CY]
theorem gm{z:Array Value}{sz:Nat}(hz:z.size=sz):∀n,(List.range (n*sz)).map (fun i=>z[i % z.size]!)=(Dv n z.toList).flatten
 | 0=>by simp
 | n+1=>by
  rw[Nat.succ_mul,List.range_add,List.map_append,gm hz n,List.replicate_succ',DZ]
  congr 1
  rw[List.map_map]
  apply List.ext_getElem
  ·simp[hz]
  ·intro i h1 h2
   simp only[List.length_map,List.length_range] at h1
   have:(n*sz+i) % sz=i:=by rw[Nat.add_comm,Nat.add_mul_mod_self_right,Nat.mod_eq_of_lt h1]
   simp[hz,this,h1]
theorem relL_rep{z:List Value}:∀n,RelL w (avs O l h) l h (Dv n (z.map lit)).flatten (Dv n z).flatten
 | 0=>by simp[RelL]
 | n+1=>by simp only[List.replicate_succ,List.flatten_cons];exact(RelL.lits z).append (relL_rep n)
theorem gn{t e:TypeId}(hte:fF P t=some e):P.underlying t=some (.slice e):=by
 unfold fF at hte
 cases hu:P.underlying t with
 | none=>simp[hu] at hte
 | some u=>cases u<;>simp_all
theorem ia(R:Rep Γ O w l h){t:TypeId}{len:Nat}{ps:List (Nat×D)}{qs:List (Nat×Value)}{d:D}{h':List Blk}(hl:ps.length=qs.length)
  (hp:∀(j:Nat) (p:Nat×D) (q:Nat×Value),ps[j]? = some p→qs[j]? = some q→p.1=q.1∧Rel w (avs O l h) l h p.2 q.2) (hd:cS P h t len ps=some (d,h')) :
  ∃v w' l',(GM t len qs.toArray).run P w=.ok v w'∧Rep Γ O w' l' h'∧Ext w l h w' l' h'∧Rel w' (avs O l' h') l' h' d v:=by
 unfold cS at hd
 cases hte:fF P t with
 | none=>simp[hte] at hd
 | some e =>
  have ht:=gn hte
  cases hs:szOf P e with
  | none=>simp[hte,hs] at hd
  | some sz =>
   cases hz:dv P e with
   | none=>simp[hte,hs,hz] at hd
   | some z =>
    obtain⟨zv,hzv,rfl⟩:=cN hz
    simp only[hte,hs,hz] at hd
    split at hd
    case isFalse=>simp at hd
    rename_i hc
    obtain⟨g1,g2⟩:=hc
    have hzs:zv.cells.size=sz:=by simpa using g1
    cases hf:nI (fun i=>some (i*sz,sz)) (Dv len (zv.cells.toList.map lit)).flatten ps with
    | none=>simp[hf] at hd
    | some cs =>
     simp only[hf,Cs,Cu] at hd
     obtain⟨rfl,rfl⟩:=hd
     have hrep:RelL w (avs O l h) l h (Dv len (zv.cells.toList.map lit)).flatten ((FN (len*sz)).map (fun i=>zv.cells[i % zv.cells.size]!)).toList:=by
      rw[FC,H1,gm hzs];exact relL_rep len
     obtain⟨vs',f1,f2,f3⟩:=eZ hl hp hrep hf
     have hvs:vs'.size=len*sz:=by rw[f3];simp
     have hcl:cs.length=len*sz:=by rw[f2.length];simp[hvs]
     obtain⟨c1,c2,c3⟩:=gj (n:=sz) len cs (by rw[hcl,Nat.mul_comm];exact CP _)
     rw[DU (by rw[hcl,Nat.mul_comm];exact CP _)] at c1
     obtain⟨l',k7,k8,k9⟩:=hZ R w ⟨rfl,rfl,rfl,rfl,CP _⟩ e vs' (chunk sz len cs) sz len vs'.toList [] (by simp) hvs (by omega) c2 (by rw[c1];exact f2)
     refine⟨.slice (some ⟨w.heap.size,0,none⟩) len len,_,l',?_,k7,k8,by rw[c3] at k9;exact k9⟩
     have hbig:¬(len*sz>2 ^ 24):=by omega
     by_cases h0:len*sz=0
     ·have e0:(FN (len*sz)).map (fun i=>zv.cells[i % zv.cells.size]!)=(FN (len*sz)).map (fun i=>(#[]:Array Value)[i % 0]!):=by rw[h0];simp
      rw[e0] at f1
      simp only[GM,CM,und_run ht,CJ,szOf_run hs,Gm,h0,if_true,CY] at f1 ⊢
      simp only[List.size_toArray,DH,f1,newRow,CM,run_newObj,CJ,CY,Gc]
      rw[if_neg (by omega)]
     ·simp only[GM,CM,und_run ht,CJ,szOf_run hs,Gm,hbig,if_false,h0,zeroV_run hzv,CY,f1,newRow,run_newObj,Gc]
theorem pA(R:Rep Γ O w l h){t:TypeId}{x y d:D}{a b:Value}{h':List Blk}(rx:Rel w (avs O l h) l h x a)(ry:Rel w (avs O l h) l h y b)(hd:tj P h t x y=some (true,d,h')):
  ∃v w' l',(GW t a b).run P w=.ok v w'∧Rep Γ O w' l' h'∧Ext w l h w' l' h'∧Rel w' (avs O l' h') l' h' d v:=by
 unfold tj at hd
 cases hte:fF P t with
 | none=>simp[hte] at hd
 | some e =>
  have ht:=gn hte
  cases h1:intOf? x with
  | none=>simp[hte,h1] at hd
  | some p1 =>
   cases h2:intOf? y with
   | none=>simp[hte,h1,h2] at hd
   | some p2 =>
    obtain⟨k1,n⟩:=p1
    obtain⟨k2,c⟩:=p2
    obtain rfl:=bj rx h1
    obtain rfl:=bj ry h2
    simp only[hte,h1,h2] at hd
    cases hs:szOf P e with
    | none=>simp[hs] at hd
    | some sz =>
     cases hb:bytesOf P e with
     | none=>simp[hs,hb] at hd
     | some by' =>
      cases hz:dv P e with
      | none=>simp[hs,hb,hz] at hd
      | some z =>
       obtain⟨zv,hzv,rfl⟩:=cN hz
       simp only[hs,hb,hz] at hd
       split at hd
       case isFalse=>simp at hd
       rename_i g1
       have hzs:zv.cells.size=sz:=by simpa using g1
       simp only[Cs,Cu,Cy,decide_eq_true_eq] at hd
       obtain⟨⟨⟨⟨q1,q2⟩,q3⟩,q4⟩,rfl,rfl⟩:=hd
       obtain⟨i,hi,hib⟩:=jQ hb
       have hwn:Ct.wrap n=n:=IntWalk.i64_in _ (by omega)
       have hwc:Ct.wrap c=c:=IntWalk.i64_in _ (by omega)
       obtain⟨l',k7,k8,k9⟩:=hZ R w ⟨rfl,rfl,rfl,rfl,CP _⟩ e ((FN (c.toNat*sz)).map (fun i=>zv.cells[i % zv.cells.size]!)) (Dv n.toNat (zv.cells.toList.map lit)) sz c.toNat
        (Dv n.toNat zv.cells.toList).flatten (Dv (c.toNat - n.toNat) zv.cells.toList).flatten
        (by rw[FC,H1,gm hzs,←DZ,List.replicate_append_replicate];congr 2;omega) (by simp) (by simp;omega)
        (by intro r hr;rw[List.eq_of_mem_replicate hr];simp[hzs]) (relL_rep _)
       refine⟨.slice (some ⟨w.heap.size,0,none⟩) n.toNat c.toNat,_,l',?_,k7,k8,by simpa using k9⟩
       have hti:(typeInfo e).run P w=.ok i w:=by simp[typeInfo,hi]
       have t1:¬(c<0∨281474976710656<(i.bytes:Int)*c):=by
        rw[hib];rw[Int.mul_comm] at q3;omega
       have e0:c.toNat*sz=0→(FN (c.toNat*sz)).map (fun i=>zv.cells[i % zv.cells.size]!)=(FN (c.toNat*sz)).map (fun i=>(#[]:Array Value)[i % 0]!):=fun h0=>by rw[h0];simp
       by_cases h0:c.toNat*sz=0
       ·rw[e0 h0]
        simp[GW,und_run ht,asInt,asIntOf,hti,hwn,hwc,q1,F7.2 q1,F7.2 q2,szOf_run hs,h0,newRow]
        exact fun hh=>absurd hh t1
       ·simp[GW,und_run ht,asInt,asIntOf,hti,hwn,hwc,q1,F7.2 q1,F7.2 q2,szOf_run hs,h0,newRow,zeroV_run hzv]
        exact fun hh=>absurd hh t1
end
section
variable {P:Program} {Γ:af} {O:Nat→Prop} {w:World} {l:Loc} {h:List Blk}
def kZ(M:Option Int)(c:Nat):Nat:=match M with|none=>c|some m=>m.toNat
@[simp] theorem gp (c : Nat) : kZ none c = c := rfl
@[simp] theorem bS (m : Int) (c : Nat) : kZ (some m) c = m.toNat := rfl
def jj(w:World)(av:Nat→Prop)(l:Loc)(h:List Blk):Option D→Option Value→Prop
 | none,none=>True
 | some d,some v=>Rel w av l h d v
 | _,_=>False
theorem bound_run{lo:Option D}{v:Option Value}{L:Int}{dflt:Int}(r:jj w (avs O l h) l h lo v)(hb:b6 lo dflt=some L):
  (v=none∧lo=none∧L=dflt)∨∃k,v=some (.int k L):=by
 cases lo with
 | none =>
  cases v with
  | none=>simp only[b6,Cs] at hb;exact .inl ⟨rfl,rfl,hb.symm⟩
  | some x=>simp[jj] at r
 | some d =>
  cases v with
  | none=>simp[jj] at r
  | some x =>
   simp only[b6,CC] at hb
   obtain⟨⟨k,m⟩,h1,h2⟩:=hb
   simp only at h2
   subst h2
   exact .inr ⟨k,by rw[bj r h1]⟩
theorem cU{b:Bool}{n c:Nat}{lo hi mx:Option D}{vl vh vm:Option Value}{L U:Int}{M:Option Int}
  (rl:jj w (avs O l h) l h lo vl) (rh:jj w (avs O l h) l h hi vh) (rm:jj w (avs O l h) l h mx vm)
  (hl:b6 lo 0=some L) (hu:b6 hi n=some U) (hm:wh mx=some M) (ok:f9 L U n=true) (ok2:fw U n M=true) (ok3:(M.isNone||hi.isSome)=true) (hnc:n≤c) :
  (Ec b n c vl vh vm).run P w=.ok (L.toNat,U.toNat,(kZ M c)) w:=by
 simp only[f9,Cy,decide_eq_true_eq] at ok
 obtain⟨⟨o1,o2⟩,o3⟩:=ok
 have hlow:∀code (y:Nat),U≤y→(match vl with|some v=>FU v U.toNat code|none=>pure 0:Sem Nat).run P w=.ok L.toNat w:=by
  intro code y _
  rcases bound_run rl hl with ⟨rfl,_,rfl⟩|⟨k,rfl⟩
  ·simp
  ·exact run_sliceBound w k L U.toNat code o1 (by omega)
 cases mx with
 | none =>
  cases vm with
  | some x=>simp[jj] at rm
  | none =>
   simp only[wh,Cs] at hm
   subst hm
   rcases bound_run rh hu with ⟨rfl,_,rfl⟩|⟨k,rfl⟩
   ·rcases bound_run rl hl with ⟨rfl,_,rfl⟩|⟨k2,rfl⟩
    ·simp[Ec]
    ·simp[Ec,run_sliceBound w k2 L n _ o1 (by omega)]
   ·have hU:∀code,(FU (.int k U) c code).run P w=.ok U.toNat w:=fun code=>run_sliceBound w k U c code (by omega) (by omega)
    rcases bound_run rl hl with ⟨rfl,_,rfl⟩|⟨k2,rfl⟩
    ·simp[Ec,hU]
    ·simp[Ec,hU,run_sliceBound w k2 L U.toNat _ o1 (by omega)]
 | some m =>
  cases vm with
  | none=>simp[jj] at rm
  | some x =>
   simp only[wh,CC] at hm
   obtain⟨⟨km,mv⟩,h1,rfl⟩:=hm
   have hx:=bj rm h1
   subst hx
   simp only[fw,Cy,decide_eq_true_eq] at ok2
   have hM:∀code,(FU (.int km mv) c code).run P w=.ok mv.toNat w:=fun code=>run_sliceBound w km mv c code (by omega) (by omega)
   rcases bound_run rh hu with ⟨rfl,hi0,_⟩|⟨k,rfl⟩
   ·subst hi0;simp at ok3
   ·have hU:∀code,(FU (.int k U) mv.toNat code).run P w=.ok U.toNat w:=fun code=>run_sliceBound w k U _ code (by omega) (by omega)
    rcases bound_run rl hl with ⟨rfl,_,rfl⟩|⟨k2,rfl⟩
    ·simp[Ec,hM,hU]
    ·simp[Ec,hM,hU,run_sliceBound w k2 L U.toNat _ o1 (by omega)]
theorem RelRows.drop{av:Nat→Prop}{blk sz:Nat}:∀{es:List (List Dp)} {off:Nat} (n:Nat),RelRows w av blk sz off es→RelRows w av blk sz (off+n*sz) (es.drop n)
 | [],_,n,_=>by simp[RelRows]
 | e::es,off,0,r=>by simpa using r
 | e::es,off,n+1,r=>by
  simp only[RelRows] at r
  rw[List.drop_succ_cons,show off+(n+1)*sz=off+sz+n*sz by rw[Nat.succ_mul];omega]
  exact RelRows.drop n r.2.2
theorem RelRows.take{av:Nat→Prop}{blk sz:Nat}:∀{es:List (List Dp)} {off:Nat} (n:Nat),RelRows w av blk sz off es→RelRows w av blk sz off (es.take n)
 | [],_,n,_=>by simp[RelRows]
 | e::es,off,0,r=>by simp[RelRows]
 | e::es,off,n+1,r=>by
  simp only[RelRows,List.take_succ_cons] at r ⊢
  exact⟨r.1,r.2.1,RelRows.take n r.2.2⟩
theorem tn{t e:TypeId}{sz n c:Nat}{base:Option Addr}{lo hi mx:Option D}{vl vh vm:Option Value}{L U:Int}{M:Option Int}(ht:P.underlying t=some (.slice e))(hs:szOf P e=some sz)
  (rl:jj w (avs O l h) l h lo vl) (rh:jj w (avs O l h) l h hi vh) (rm:jj w (avs O l h) l h mx vm)
  (hl:b6 lo 0=some L) (hu:b6 hi n=some U) (hm:wh mx=some M) (ok:f9 L U n=true) (ok2:fw U n M=true) (ok3:(M.isNone||hi.isSome)=true) (hnc:n≤c) :
  (EG t (.slice base n c) vl vh vm).run P w=.ok (.slice (if (kZ M c)=L.toNat then base else base.map (·.add (L.toNat*sz))) (U.toNat - L.toNat) ((kZ M c) - L.toNat)) w:=by
 simp only[EG,CM,und_run ht,CJ,HL,cU (P:=P) (b:=true) rl rh rm hl hu hm ok ok2 ok3 hnc,szOf_run hs,CY]
theorem qw{es:List (List Dp)}{blk off sz sz0:Nat}{L U:Nat}(rr:RelRows w (avs O l h) blk sz0 off es)(hall:es.all (fun r=>Qd (r.length=sz))=true)(h1:L≤U)(h2:U≤es.length)(m:Nat)(hm:U≤m):
  Rel w (avs O l h) l h (.p (.sl ((es.drop L).take (U - L)))) (.slice (if m=L then some ⟨blk,off,none⟩ else (some (⟨blk,off,none⟩:Addr)).map (·.add (L*sz))) (U - L) (m - L)) ∧
  (m=U→Rel w (avs O l h) l h (.csl ((es.drop L).take (U - L))) (.slice (if m=L then some ⟨blk,off,none⟩ else (some (⟨blk,off,none⟩:Addr)).map (·.add (L*sz))) (U - L) (m - L))):=by
 have hlen:((es.drop L).take (U - L)).length=U - L:=by simp;omega
 have hrows:es ≠ []→sz0=sz:=by
  intro hne
  cases es with
  | nil=>exact absurd rfl hne
  | cons e0 es0 =>
   simp only[RelRows] at rr
   simp only[List.all_cons,Cy,decide_eq_true_eq] at hall
   rw[←rr.1,hall.1]
 by_cases hmL:m=L
 ·have:U=L:=by omega
  subst this
  simp only[hmL,if_true,EK,List.take_zero]
  refine⟨?_,fun _=>?_⟩
  ·simp only[Rel,RelP];exact .inr ⟨blk,off,0,sz,rfl,CP _,by simp[RelRows]⟩
  ·simp only[Rel];exact .inr ⟨blk,off,sz,rfl,by simp[RelRows]⟩
 ·simp only[hmL,if_false,Df,cj]
  have hr2:RelRows w (avs O l h) blk sz (off+L*sz) ((es.drop L).take (U - L)):=by
   by_cases hne:es=[]
   ·subst hne;simp[RelRows]
   ·have:=hrows hne;subst this
    exact(rr.drop L).take _
  refine⟨?_,fun hmu=>?_⟩
  ·simp only[Rel,RelP]
   exact .inr ⟨blk,off+L*sz,m - L,sz,by rw[hlen],by rw[hlen];omega,hr2⟩
  ·subst hmu
   simp only[Rel]
   exact .inr ⟨blk,off+L*sz,sz,by rw[hlen],hr2⟩
theorem sm{U:Int}{M:Option Int}(hc:bQ U M=true):M=some U:=by
 cases M with
 | none=>simp[bQ] at hc
 | some m=>simp only[bQ,decide_eq_true_eq] at hc;rw[hc]
theorem jS{L U:Int}{n:Nat}(ok:f9 L U n=true):0≤L∧L≤U∧U≤n∧L.toNat≤U.toNat∧U.toNat≤n:=by
 simp only[f9,Cy,decide_eq_true_eq] at ok
 omega
theorem jk{av:Nat→Prop}{x:Option Addr}{m:Nat}(cl:Bool)(hcl:cl=true→m=0)(hx:x=none→m=0):
  Rel w av l h (cT cl []) (.slice x 0 m):=by
 cases cl
 ·simp only[cT,De,if_false,Rel,RelP]
  exact .inl ⟨trivial,x,m,rfl,hx⟩
 ·have:=hcl rfl;subst this
  simp only[cT,if_true,Rel]
  exact .inl ⟨trivial,x,rfl⟩
theorem dd{av:Nat→Prop}{x:Option Addr}{m:Nat}(cl:Bool)(hcl:cl=true→m=0)(hx:x=none→m=0)(_hsp:∀a,x=some a→a.spot=none):
  Rel w av l h (cT cl []) (.slice x 0 m):=jk cl hcl hx
theorem yX{c:Nat}{M:Option Int}{U:Int}(ok2:fw U 0 M=true){a:Option Addr}{f:Addr→Addr}(ha:a=none→c=0)(hx:(if kZ M c=0 then a else a.map f)=none):kZ M c=0:=by
 split at hx
 ·assumption
 ·have hn:a=none:=by cases a<;>simp_all
  have:=ha hn
  subst this
  cases M with
  | none=>rfl
  | some m=>simp only[fw,Cy,decide_eq_true_eq] at ok2;simp only[bS];omega
theorem capOf{c U L n:Nat}{M:Option Int}{Ui:Int}(hU:Ui.toNat=U)(ok2:fw Ui n M=true)(h1:L≤U)(h2:U≤n)(hnc:n≤c):
  L≤(kZ M c)∧U≤(kZ M c)∧(bQ Ui M=true→(kZ M c)=U):=by
 cases M with
 | none=>simp[bQ];omega
 | some m =>
  simp only[fw,Cy,decide_eq_true_eq] at ok2
  refine⟨by simp only[bS];omega,by simp only[bS];omega,fun hc=>?_⟩
  have:=sm hc
  simp only[Cs] at this
  simp only[this,bS,hU]
theorem li(R:Rep Γ O w l h){t e:TypeId}{x d:D}{y:Value}{sz n:Nat}{L U:Int}{lo hi mx:Option D}{vl vh vm:Option Value}{M:Option Int}(rx:Rel w (avs O l h) l h x y)
  (ht:P.underlying t=some (.slice e)) (hs:szOf P e=some sz) (hn:lenD h x=some n)
  (rl:jj w (avs O l h) l h lo vl) (rh:jj w (avs O l h) l h hi vh) (rm:jj w (avs O l h) l h mx vm)
  (hl:b6 lo 0=some L) (hu:b6 hi n=some U) (hm:wh mx=some M) (ok:f9 L U n=true) (ok2:fw U n M=true) (ok3:(M.isNone||hi.isSome)=true)
  (hd:sliceRow h x sz n L U M=some (true,d)):∃v,(EG t y vl vh vm).run P w=.ok v w∧Rel w (avs O l h) l h d v:=by
 obtain⟨o1,o2,o3,o4,o5⟩:=jS ok
 have run:∀(base:Option Addr) (c:Nat),n≤c→(EG t (.slice base n c) vl vh vm).run P w=.ok (.slice (if (kZ M c)=L.toNat then base else base.map (·.add (L.toNat*sz))) (U.toNat - L.toNat) ((kZ M c) - L.toNat)) w :=
  fun base c hnc=>tn ht hs rl rh rm hl hu hm ok ok2 ok3 hnc
 have cap:∀c,n≤c→_:=fun c hnc=>capOf (c:=c) (L:=L.toNat) (n:=n) (M:=M) (Ui:=U) rfl ok2 o4 o5 hnc
 cases x with
 | p dp =>
  cases dp with
  | v x =>
   obtain rfl:=al rx
   cases y<;>simp[sliceRow] at hd
   case slice a m c =>
    cases a<;>cases m<;>cases c<;>simp at hd
    subst hd
    simp only[lenD,Cs] at hn
    subst hn
    obtain⟨c1,c2,c3⟩:=cap 0 (CP _)
    refine⟨_,run none 0 (CP _),?_⟩
    have hU:U.toNat=0:=by omega
    have hL:L.toNat=0:=by omega
    have hm0:(kZ M 0)=0:=by
     cases M with
     | none=>rfl
     | some m=>simp only[fw,Cy,decide_eq_true_eq] at ok2;simp only[bS];omega
    rw[hm0,hU,hL]
    exact rel_lit _ _ _ _ _
  | sl es =>
   simp only[sliceRow,Cs,Cu] at hd
   obtain⟨hall,rfl⟩:=hd
   simp only[lenD,Cs] at hn
   subst hn
   simp only[Rel,RelP] at rx
   rcases rx with ⟨rfl,a0,c0,rfl,ha0⟩|⟨blk,off,c,sz0,rfl,hc,rr⟩
   ·obtain⟨c1,c2,c3⟩:=cap c0 (Nat.zero_le _)
    refine⟨_,run a0 c0 (Nat.zero_le _),?_⟩
    have hU:U.toNat=0:=by simp at o5;omega
    have hL:L.toNat=0:=by omega
    simp only[hU,hL,EK,FV,List.drop_nil,List.take_nil] at c3 ⊢
    exact jk _ (fun hcl=>c3 hcl) (yX (by simpa using ok2) ha0)
   ·obtain⟨c1,c2,c3⟩:=cap c hc
    refine⟨_,run _ c hc,?_⟩
    obtain⟨p1,p2⟩:=qw (l:=l) (h:=h) (O:=O) rr hall o4 o5 _ c2
    unfold cT
    split
    ·rename_i hcl;exact p2 (c3 hcl)
    ·exact p1
 | csl es =>
  simp only[sliceRow,Cs,Cu] at hd
  obtain⟨hall,rfl⟩:=hd
  simp only[lenD,Cs] at hn
  subst hn
  simp only[Rel] at rx
  rcases rx with ⟨rfl,a0,rfl⟩|⟨blk,off,sz0,rfl,rr⟩
  ·obtain⟨c1,c2,c3⟩:=cap 0 (CP _)
   refine⟨_,run a0 0 (CP _),?_⟩
   have hU:U.toNat=0:=by simp at o5;omega
   have hL:L.toNat=0:=by omega
   have hm0:(kZ M 0)=0:=by
    cases M with
    | none=>rfl
    | some m=>simp only[fw,Cy,decide_eq_true_eq,DH] at ok2;simp only[bS];omega
   rw[hm0,hU,hL]
   simp only[List.drop_nil,List.take_nil,if_true]
   exact jk _ (fun _=>rfl) (fun _=>rfl)
  ·obtain⟨c1,c2,c3⟩:=cap es.length (CP _)
   refine⟨_,run _ es.length (CP _),?_⟩
   obtain⟨p1,p2⟩:=qw (l:=l) (h:=h) (O:=O) rr hall o4 o5 _ c2
   unfold cT
   split
   ·rename_i hcl
    simp only[Eb,Cy,G9,decide_eq_true_eq] at hcl
    rcases hcl with hcl|⟨rfl,hcl⟩
    ·exact p2 (c3 hcl)
    ·exact p2 (by simp only[gp];omega)
   ·exact p1
 | ref r =>
  have rx':=rx
  obtain⟨g1,hr⟩:=rx
  cases r with
  | vec b e' =>
   simp only[sliceRow,lenD] at hd hr hn
   cases hb:h[b]? with
   | none=>simp[hb] at hd
   | some bx =>
    cases bx<;>simp only[hb,reduceCtorEq] at hd hr hn
    rename_i es e2 sz'
    split at hd
    case isFalse=>simp at hd
    rename_i he
    obtain⟨rfl,rfl⟩:=he
    simp only[if_true,Cs] at hn
    subst hn
    simp only[Cs,Cu,true_and] at hd
    subst hd
    have hv:=hr.2 rfl
    cases hlb:l b with
    | none =>
     have hok:=R.blk b _ hb
     simp only[hlb,gg,BlkOk] at hv hok
     obtain⟨_,rfl⟩:=hv
     subst hok
     obtain⟨c1,c2,c3⟩:=cap 0 (CP _)
     refine⟨_,run none 0 (CP _),?_⟩
     have hU:U.toNat=0:=by simp at o5;omega
     have hL:L.toNat=0:=by omega
     have hm0:(kZ M 0)=0:=by
      cases M with
      | none=>rfl
      | some m=>simp only[fw,Cy,decide_eq_true_eq,DH] at ok2;simp only[bS];omega
     rw[hm0,hU,hL]
     split
     ·exact rx'
     ·rename_i h3
      rw[if_pos ⟨by omega,fun hh=>h3 ⟨by omega,hh.1,hh.2⟩⟩]
      exact dd _ (fun _=>rfl) (fun _=>rfl) (fun a ha=>by simp at ha)
    | some pr =>
     obtain⟨blk,cp0⟩:=pr
     simp only[hlb,gg] at hv
     obtain⟨oo,c,rfl,rfl,hc⟩:=hv
     obtain⟨c1,c2,c3⟩:=cap c hc
     have hcc:kZ M c≤c:=by
      cases M with
      | none=>simp[gp]
      | some m=>simp only[fw,Cy,decide_eq_true_eq] at ok2;simp only[bS];omega
     refine⟨_,run _ c hc,?_⟩
     split
     ·rename_i h3
      obtain⟨rfl,h4,rfl⟩:=h3
      have e1:U.toNat - (0:Int).toNat=es.length:=by omega
      rw[e1]
      simp only[Int.toNat_zero,Nat.zero_mul,cj,Df,FV,Nat.add_zero,ite_self]
      exact rx'
     ·split
      ·rename_i h4
       have e1:U.toNat - L.toNat=0:=by omega
       rw[e1]
       refine dd _ (fun hcl=>by rw[c3 hcl];omega) (fun hx=>?_) (fun a ha=>?_)
       ·split at hx<;>simp at hx
       ·split at ha<;>simp at ha<;>subst ha<;>rfl
      ·rename_i h4
       simp only[Rel,RefRel,hb]
       refine⟨by split<;>rfl,CP _,fun _=>⟨by omega,blk,oo,c,kZ M c - L.toNat,hlb,?_,by omega,by omega,fun hcl=>by rw[c3 hcl]⟩⟩
       by_cases hmL:kZ M c=L.toNat
       ·exact .inr ⟨_,rfl,by omega⟩
       ·simp only[hmL,if_false,Df,cj]
        exact .inl trivial
  | vs b e' i m cl =>
   simp only[sliceRow,lenD] at hd hr hn
   cases hb:h[b]? with
   | none=>simp[hb] at hd
   | some bx =>
    cases bx<;>simp only[hb,reduceCtorEq] at hd hr hn
    rename_i es e2 sz'
    split at hd
    case isFalse=>simp at hd
    rename_i he
    obtain⟨rfl,rfl⟩:=he
    simp only[if_true,Cs] at hn
    subst hn
    simp only[Cs,Cu,true_and] at hd
    subst hd
    obtain⟨hin,blk,oo,cp,c,hlb,hy,hc,hic,hclip⟩:=hr.2 rfl
    clear hr
    obtain⟨c1,c2,c3⟩:=cap c hc
    have hcc:kZ M c≤c:=by
     cases M with
     | none=>simp[gp]
     | some m=>simp only[fw,Cy,decide_eq_true_eq] at ok2;simp only[bS];omega
    have hya:∃a0,y=.slice a0 m c:=by
     rcases hy with hy|⟨a1,hy,_⟩
     ·exact⟨_,hy⟩
     ·exact⟨_,hy⟩
    obtain⟨a0,rfl⟩:=hya
    refine⟨_,run _ c hc,?_⟩
    split
    ·rename_i h4
     have e1:U.toNat - L.toNat=0:=by omega
     rw[e1]
     refine jk _ (fun hcl=>by rw[c3 hcl];omega) (fun hx=>?_)
     rcases hy with hy|⟨a1,hy,h0⟩
     ·cases hy
      split at hx<;>simp at hx
     ·omega
    ·rename_i h4
     simp only[Rel,RefRel,hb]
     refine⟨by split<;>first|exact g1|rfl,CP _,fun _=>⟨by omega,blk,oo,cp,kZ M c - L.toNat,hlb,?_,by omega,by omega,fun hcl=>?_⟩⟩
     ·by_cases hmL:kZ M c=L.toNat
      ·exact .inr ⟨_,rfl,by omega⟩
      ·rcases hy with hy|⟨a1,hy,h0⟩
       ·cases hy
        simp only[hmL,if_false,Df,cj]
        exact .inl (by rw[D2,Nat.add_assoc])
       ·omega
     simp only[Eb,Cy,G9,decide_eq_true_eq] at hcl
     rcases hcl with hcl|⟨⟨hc1,rfl⟩,hc3⟩
     ·rw[c3 hcl]
     ·have:=hclip hc1;simp only[gp];omega
  | av b off m sz' =>
   simp only[sliceRow,lenD] at hd hr hn
   cases hb:h[b]? with
   | none=>simp[hb] at hd
   | some bx =>
    cases bx<;>simp only[hb,reduceCtorEq,Cs] at hd hr hn
    subst hn
    split at hd
    case isFalse=>simp at hd
    rename_i he
    subst he
    simp only[Cs,Cu,true_and] at hd
    subst hd
    obtain⟨blk,cp,c,hlb,rfl,hc⟩:=hr
    obtain⟨c1,c2,c3⟩:=cap c hc
    refine⟨_,run _ c hc,?_⟩
    split
    ·rename_i h4
     have e1:U.toNat - L.toNat=0:=by omega
     rw[e1]
     refine dd _ (fun hcl=>by rw[c3 hcl];omega) (fun hx=>?_) (fun a ha=>?_)
     ·split at hx<;>simp at hx
     ·split at ha<;>simp at ha<;>subst ha<;>rfl
    ·rename_i h4
     have hmL:¬(kZ M c)=L.toNat:=by omega
     simp only[hmL,if_false,Df,cj]
     simp only[Rel,RefRel,hb]
     exact⟨rfl,blk,cp,_,hlb,rfl,by omega⟩
  | _=>simp[sliceRow] at hd
 | _=>simp[sliceRow] at hd
theorem fA{len:Nat}{e:TypeId}{x d:D}{y:Value}{L:Int}{lo hi mx:Option D}{vl vh vm:Option Value}{M:Option Int}(rx:Rel w (avs O l h) l h x y)
  (rl:jj w (avs O l h) l h lo vl) (rh:jj w (avs O l h) l h hi vh) (rm:jj w (avs O l h) l h mx vm) (hl:b6 lo 0=some L) (hm:wh mx=some M)
  (hd:eX P h len e x L hi M=some (true,d)):∃a:Addr,y=.pointer (some a)∧∃sz lN hN,szOf P e=some sz∧(Ec false len len vl vh vm).run P w=.ok (lN,hN,len) w ∧
   Rel w (avs O l h) l h d (.slice (some (if len=lN then a else a.add (lN*sz))) (hN - lN) (len - lN)):=by
 unfold eX at hd
 split at hd
 case h_2=>simp at hd
 rename_i b off
 obtain⟨g1,hr⟩:=rx
 cases hs:szOf P e with
 | none=>simp[hs] at hd
 | some sz =>
  cases hu:b6 hi len with
  | none=>simp[hs,hu] at hd
  | some U =>
   cases hb:h[b]? with
   | none=>simp[hs,hu,hb] at hd
   | some bx =>
    cases bx<;>simp only[hs,hu,hb,reduceCtorEq] at hd hr
    cases M with
    | some m=>simp at hd
    | none =>
     simp only[Cs,Cu] at hd
     obtain⟨ok,rfl⟩:=hd
     obtain⟨blk,cp,hlb,rfl⟩:=hr
     obtain⟨o1,o2,o3,o4,o5⟩:=jS ok
     refine⟨_,rfl,sz,L.toNat,U.toNat,rfl,cU (P:=P) (b:=false) (M:=none) rl rh rm hl hu hm ok (by simp[fw]) (by simp) (CP _),?_⟩
     split
     ·rename_i h4
      have e1:U.toNat - L.toNat=0:=by omega
      rw[e1]
      exact dd (l:=l) (h:=h) false (fun hcl=>by simp at hcl) (fun hx=>by simp at hx) (fun a ha=>by split at ha<;>simp at ha<;>subst ha<;>rfl)
     ·rename_i h4
      have hmL:¬len=L.toNat:=by omega
      simp only[hmL,if_false,cj]
      simp only[Rel,RefRel,hb]
      exact⟨rfl,blk,cp,_,hlb,rfl,by omega⟩
theorem nT(R:Rep Γ O w l h){t:TypeId}{x d:D}{y:Value}{lo hi mx:Option D}{vl vh vm:Option Value}(rx:Rel w (avs O l h) l h x y)
  (rl:jj w (avs O l h) l h lo vl) (rh:jj w (avs O l h) l h hi vh) (rm:jj w (avs O l h) l h mx vm) (hd:nP P h t x lo hi mx=some (true,d)) :
  ∃v,(EG t y vl vh vm).run P w=.ok v w∧Rel w (avs O l h) l h d v:=by
 unfold nP at hd
 cases hL:b6 lo 0 with
 | none=>simp[hL] at hd
 | some L =>
  cases hM:wh mx with
  | none=>simp[hL,hM] at hd
  | some M =>
   simp only[hL,hM] at hd
   cases hu:P.underlying t with
   | none=>simp[hu] at hd
   | some u =>
    cases u<;>simp only[hu,reduceCtorEq] at hd
    case string =>
     unfold qu at hd
     split at hd
     ·rename_i s
      obtain rfl:=al rx
      cases hU:b6 hi s.size with
      | none=>simp[hU] at hd
      | some U =>
       cases M with
       | some m=>simp[hU] at hd
       | none =>
        simp only[hU,Cs,Cu] at hd
        obtain⟨ok,rfl⟩:=hd
        cases mx with
        | some m0=>simp only[wh,CC] at hM;obtain⟨_,_,h2⟩:=hM;simp at h2
        | none =>
         cases vm with
         | some x=>simp[jj] at rm
         | none =>
          refine⟨_,?_,rel_lit _ _ _ _ _⟩
          have:=cU (P:=P) (b:=false) (mx:=none) rl rh rm hL hU rfl ok (by simp[fw]) (by simp) (CP _)
          simp[EG,und_run hu,HL,this]
     ·simp at hd
    case slice e =>
     cases hs:szOf P e with
     | none=>simp[hs] at hd
     | some sz =>
      cases hn:lenD h x with
      | none=>simp[hs,hn] at hd
      | some n =>
       simp only[hs,hn] at hd
       cases hU:b6 hi n with
       | none=>simp[hU] at hd
       | some U =>
        simp only[hU,CC,Cu,Cy] at hd
        obtain⟨⟨r1,r2⟩,h1,⟨⟨⟨ok,ok2⟩,ok3⟩,h3⟩,h4⟩:=hd
        simp only at h3 h4
        subst h3;subst h4
        exact li R rx hu hs hn rl rh rm hL hU hM ok ok2 ok3 h1
    case array len e =>
     obtain⟨a,rfl,sz,lN,hN,hs,hb,hr⟩:=fA (P:=P) rx rl rh rm hL hM hd
     refine⟨_,?_,hr⟩
     simp[EG,und_run hu,Instr.sureAddr,hb,szOf_run hs]
    case pointer arr =>
     cases hu2:P.underlying arr with
     | none=>simp[hu2] at hd
     | some u2 =>
      cases u2<;>simp only[hu2,reduceCtorEq] at hd
      case array len e =>
       obtain⟨a,rfl,sz,lN,hN,hs,hb,hr⟩:=fA (P:=P) rx rl rh rm hL hM hd
       refine⟨_,?_,hr⟩
       simp[EG,und_run hu,und_run hu2,HL,asAddr,hb,szOf_run hs]
end
section
variable {P:Program} {Γ:af} {O:Nat→Prop} {w:World} {l:Loc} {h:List Blk}
theorem tp(a b:ByteArray):(a==b)=eqS a b:=by
 have:(a==b)=(a.data==b.data):=rfl
 rw[this,Er]
 simp only[eqS,beq_iff_eq,Array.toList_inj]
theorem checkKey_run{kt:TypeId}{k:D}{v:Value}(hk:cz P kt k=true)(rk:Rel w (avs O l h) l h k v)(b:Bool)(w':World):(Instr.checkKey b 10000 kt v).run P w'=.ok () w':=by
 rw[show(10000:Nat)=9999+1 from rfl,Instr.checkKey]
 unfold cz at hk
 split at hk<;>first|(rename_i h1;obtain rfl:=al rk;simp[und_run h1])|simp at hk
theorem ib{kt:TypeId}{k:D}{v:Value}{u:TypeDesc}(hu:P.underlying kt=some u)(hk:cz P kt k=true)(rk:Rel w (avs O l h) l h k v):
  ∀{kvs:List (D×D×Nat)} {es:List MapEntry} (i:Nat) {r:Option (Nat×D)},RelKV w (avs O l h) l h kvs es→bR k kvs i=some r →
   ∃r',Hj u v es i=some r'∧(match r,r' with
    | none,none=>True
    | some (j,d),some (j',y)=>j'=j∧Rel w (avs O l h) l h d y
    | _,_=>False)
 | [],[],i,r,_,hf=>by simp only[bR,Cs] at hf;subst hf;exact⟨none,rfl,trivial⟩
 | (k',d,n)::kvs,e::es,i,r,rel,hf=>by
  simp only[RelKV] at rel
  simp only[bR] at hf
  have hsame:∀b,bi k k'=some b→Gr u v e.key=some b:=by
   intro b hb
   unfold cz at hk
   rw[hu] at hk
   unfold bi at hb
   split at hb
   ·rename_i k1 a k2 c
    obtain rfl:=al rk
    have h2:=al rel.1
    cases u<;>simp at hk
    rw[h2];simpa[Gr] using hb
   ·rename_i a c
    obtain rfl:=al rk
    have h2:=al rel.1
    cases u<;>simp at hk
    rw[h2];simp only[Gr,tp];exact hb
   ·rename_i a c
    obtain rfl:=al rk
    have h2:=al rel.1
    cases u<;>simp at hk
    rw[h2];simpa[Gr] using hb
   ·simp at hb
  cases hq:bi k k' with
  | none=>simp[hq] at hf
  | some b =>
   have hs:=hsame b hq
   cases b with
   | true =>
    simp only[hq,Cs] at hf
    subst hf
    exact⟨some (i,e.val),by simp[Hj,hs],rfl,rel.2.1⟩
   | false =>
    simp only[hq] at hf
    obtain⟨r',h1,h2⟩:=ib hu hk rk (i+1) rel.2.2.2 hf
    exact⟨r',by simp[Hj,hs,h1],h2⟩
 | [],_::_,_,_,rel,_=>by simp[RelKV] at rel
 | _::_,[],_,_,rel,_=>by simp[RelKV] at rel
theorem jT{kt:TypeId}{k:D}(hk:cz P kt k=true):∃u,P.underlying kt=some u:=by
 unfold cz at hk
 cases hu:P.underlying kt with
 | none=>simp[hu] at hk
 | some u=>exact⟨u,rfl⟩
theorem bh{r:Nat}{o:Obj}(ho:w.heap[r]? = some o)(hc:∀c T fr,o ≠ .cells c T fr):(getObj r).run P w=.ok o w:=by
 unfold getObj
 cases o<;>simp[Sem.run,ho]
 exact absurd rfl (hc _ _ _)
theorem mn(R:Rep Γ O w l h){t:TypeId}{x k d:D}{y v:Value}{ok:Bool}(rx:Rel w (avs O l h) l h x y)(rk:Rel w (avs O l h) l h k v)(hd:aU P h t x k ok=some d):
  ∃z,(F1 t y v ok).run P w=.ok z w∧Rel w (avs O l h) l h d z:=by
 unfold aU at hd
 cases hu:P.underlying t with
 | none=>simp[hu] at hd
 | some u =>
  cases hm:jc h x with
  | none=>cases u<;>simp[hu,hm] at hd
  | some kvs =>
   cases u<;>simp only[hu,hm,reduceCtorEq] at hd
   rename_i kt et
   split at hd
   case isFalse=>simp at hd
   rename_i hk
   obtain⟨uk,huk⟩:=jT hk
   have fin:∀(es:List MapEntry),RelKV w (avs O l h) l h kvs es→∃z r',(FP kt v es).run P w=.ok r' w∧(match r' with|some (_,v)=>pure (v,true)|none=>do pure (←zeroValue et,false):Sem (Value×Bool)).run P w=.ok z w ∧
     Rel w (avs O l h) l h d (if ok then .tuple #[z.1,.bool z.2] else z.1):=by
    intro es hrel
    cases hf:bR k kvs 0 with
    | none=>simp[hf] at hd
    | some r =>
     obtain⟨r',hn,hm2⟩:=ib huk hk rk 0 hrel hf
     have hkey:(FP kt v es).run P w=.ok r' w:=by
      simp only[FP,CM,und_run huk,CJ,hn,CY]
     cases hz:gh P et with
     | none=>rcases r with _|⟨i,d0⟩<;>simp[hf,hz] at hd
     | some z =>
      rcases r with _|⟨i,d0⟩
      ·simp only[hf,hz,Cs] at hd
       rcases r' with _|⟨j,y0⟩
       ·refine⟨(z,false),_,hkey,by simp[zeroV_run hz],?_⟩
        subst hd
        cases ok
        ·exact g9 _ _ _ _ z
        ·simp only[if_true,Rel]
         exact⟨_,rfl,g9 _ _ _ _ z,rel_lit _ _ _ _ _,trivial⟩
       ·simp at hm2
      ·simp only[hf,hz,Cs] at hd
       rcases r' with _|⟨j,y0⟩
       ·simp at hm2
       ·simp only at hm2
        refine⟨(y0,true),_,hkey,by simp,?_⟩
        subst hd
        cases ok
        ·exact hm2.2
        ·simp only[if_true,Rel]
         exact⟨_,rfl,hm2.2,rel_lit _ _ _ _ _,trivial⟩
   unfold jc at hm
   split at hm
   ·cases hm
    obtain rfl:=al rx
    obtain⟨z,r',h1,h2,h3⟩:=fin [] (by simp[RelKV])
    refine⟨_,?_,h3⟩
    cases hzr:(zeroValue et).run P w with
    | halt a b=>rcases r' with _|⟨j,y0⟩<;>simp[hzr] at h2<;>subst h2<;>simp only[F1,CM,und_run hu,CJ,CY,checkKey_run hk rk,h1]
    | ok a b=>rcases r' with _|⟨j,y0⟩<;>simp[hzr] at h2<;>(try obtain⟨rfl,rfl⟩:=h2)<;>(try subst h2)<;>simp only[F1,CM,und_run hu,CJ,CY,checkKey_run hk rk,h1,hzr]
   ·rename_i b
    cases hb:h[b]? with
    | none=>simp[hb] at hm
    | some bx =>
     obtain⟨_,hr⟩:=rx
     cases bx<;>simp only[hb,reduceCtorEq,Cs] at hm hr
     subst hm
     obtain⟨blk,cp,hlb,rfl⟩:=hr
     obtain⟨blk',cp',es,h1,h2,h3⟩:=R.blk b _ hb
     obtain⟨rfl,rfl⟩:blk=blk'∧cp=cp':=by simpa[hlb] using h1
     obtain⟨z,r',g1,g2,g3⟩:=fin es.toList h3
     refine⟨_,?_,g3⟩
     have hgo:=bh (P:=P) (o:=.map es _) h2 (by simp)
     cases hzr:(zeroValue et).run P w with
     | halt a b=>rcases r' with _|⟨j,y0⟩<;>simp[hzr] at g2<;>subst g2<;>simp only[F1,CM,und_run hu,CJ,hgo,CY,checkKey_run hk rk,g1]
     | ok a b=>rcases r' with _|⟨j,y0⟩<;>simp[hzr] at g2<;>(try obtain⟨rfl,rfl⟩:=g2)<;>(try subst g2)<;>simp only[F1,CM,und_run hu,CJ,hgo,CY,checkKey_run hk rk,g1,hzr]
   ·simp at hm
theorem br{r:Nat}{o o':Obj}(ho:w.heap[r]? = some o)(hc:∀c T fr,o ≠ .cells c T fr):(setObj r o').run P w=.ok () {w with heap:=w.heap.setIfInBounds r o' }:=by
 unfold setObj
 cases o<;>simp[Sem.run,ho]
 exact absurd rfl (hc _ _ _)
theorem cD{r:Nat}{o o':Obj}(ho:w.heap[r]? = some o):({w with heap:=w.heap.setIfInBounds r o' }:World).heap[r]? = some o':=by
 have:=(FD.1 ho).1
 simp[this]
theorem pB{r k:Nat}{o':Obj}(hk:k ≠ r):({w with heap:=w.heap.setIfInBounds r o' }:World).heap[k]? = w.heap[k]?:=by
 simp[Array.getElem?_setIfInBounds_ne (Ne.symm hk)]
theorem jl(R:Rep Γ O w l h){b:Nat}{x x':Blk}(hb:h[b]? = some x)(hx:x ≠ .gone){blk cp:Nat}(hlb:l b=some (blk,cp)){o o':Obj}(_ho:w.heap[blk]? = some o)
  (hle:x.le x') (hok:Ext w l h {w with heap:=w.heap.setIfInBounds blk o' } l (h.set b x')→BlkOk {w with heap:=w.heap.setIfInBounds blk o' } (avs O l (h.set b x')) l (h.set b x') b x') :
  Rep Γ O {w with heap:=w.heap.setIfInBounds blk o' } l (h.set b x')∧Ext w l h {w with heap:=w.heap.setIfInBounds blk o' } l (h.set b x') :=
 R.step b x' (by simp) ⟨rfl,rfl,rfl,(by first|exact CP _|exact Ei _)⟩ (fun i hi=>bq _ _ hi) (aW hb) (fun _ _=>rfl) (fun z hz=>by rw[hb] at hz;cases hz;exact⟨hle,fun _=>rfl⟩)
  (fun k hk hno=>pB (fun e=>hno x cp hb hx (by rw[hlb,e])))
  (fun k c hk=>.inl ⟨x,c,hb,hx,hk⟩) hok
theorem tq{kvs:List (D×D×Nat)}{es:List MapEntry}:∀(i:Nat) {k d:D} {n:Nat} {e:MapEntry},RelKV w (avs O l h) l h kvs es→Rel w (avs O l h) l h k e.key→Rel w (avs O l h) l h d e.val→e.born=n →
  RelKV w (avs O l h) l h (kvs.set i (k,d,n)) (es.set i e):=by
 induction kvs generalizing es with
 | nil=>intro i k d n e r _ _ _;cases es<;>simp_all[RelKV]
 | cons a t ih =>
  intro i k d n e r h1 h2 h3
  obtain⟨k0,d0,n0⟩:=a
  cases es with
  | nil=>simp[RelKV] at r
  | cons e0 es0 =>
   simp only[RelKV] at r
   cases i with
   | zero=>simp only[List.set_cons_zero,RelKV];exact⟨h1,h2,h3,r.2.2.2⟩
   | succ i=>simp only[List.set_cons_succ,RelKV];exact⟨r.1,r.2.1,r.2.2.1,ih i r.2.2.2 h1 h2 h3⟩
theorem sn{kvs:List (D×D×Nat)}{es:List MapEntry}{k d:D}{n:Nat}{e:MapEntry}(r:RelKV w (avs O l h) l h kvs es)(h1:Rel w (avs O l h) l h k e.key)(h2:Rel w (avs O l h) l h d e.val)(h3:e.born=n):
  RelKV w (avs O l h) l h (kvs++[(k,d,n)]) (es++[e]):=by
 induction kvs generalizing es with
 | nil=>cases es<;>simp_all[RelKV]
 | cons a t ih =>
  obtain⟨k0,d0,n0⟩:=a
  cases es with
  | nil=>simp[RelKV] at r
  | cons e0 es0=>simp only[RelKV,List.cons_append] at r ⊢;exact⟨r.1,r.2.1,r.2.2.1,ih r.2.2.2⟩
theorem tt{kvs:List (D×D×Nat)}{es:List MapEntry}(i:Nat)(r:RelKV w (avs O l h) l h kvs es){k d:D}{n:Nat}(hk:kvs[i]? = some (k,d,n)):
  ∃e,es[i]? = some e∧Rel w (avs O l h) l h k e.key∧Rel w (avs O l h) l h d e.val∧e.born=n:=by
 induction kvs generalizing es i with
 | nil=>simp at hk
 | cons a t ih =>
  obtain⟨k0,d0,n0⟩:=a
  cases es with
  | nil=>simp[RelKV] at r
  | cons e0 es0 =>
   simp only[RelKV] at r
   cases i with
   | zero=>simp at hk;obtain⟨rfl,rfl,rfl⟩:=hk;exact⟨e0,by simp,r.1,r.2.1,r.2.2.1⟩
   | succ i=>simpa using ih i r.2.2.2 (by simpa using hk)
theorem lx{k:D}:∀{kvs:List (D×D×Nat)} (i:Nat) {j:Nat} {d:D},bR k kvs i=some (some (j,d))→∃k' n,i≤j∧kvs[j - i]? = some (k',d,n)∧bi k k'=some true
 | [],_,_,_,hf=>by simp[bR] at hf
 | (k',d',n')::kvs,i,j,d,hf=>by
  simp only[bR] at hf
  cases hq:bi k k' with
  | none=>simp[hq] at hf
  | some b =>
   cases b with
   | true=>simp[hq] at hf;obtain⟨rfl,rfl⟩:=hf;exact⟨k',n',CP _,by simp,hq⟩
   | false =>
    simp only[hq] at hf
    obtain⟨k2,n2,h1,h2,h3⟩:=lx (i+1) hf
    refine⟨k2,n2,by omega,?_,h3⟩
    rw[show j - i=(j - (i+1))+1 by omega];simpa using h2
theorem pC{k k':D}{v v':Value}(rk:Rel w (avs O l h) l h k v)(rk':Rel w (avs O l h) l h k' v')(hq:bi k k'=some true)(n:Nat):Gd (n+1) v' v=true:=by
 unfold bi at hq
 split at hq
 ·obtain rfl:=al rk
  obtain rfl:=al rk'
  split at hq
  ·rename_i hk;subst hk
   simp only[Cs,beq_iff_eq] at hq
   subst hq;simp[Gd]
  ·simp at hq
 ·obtain rfl:=al rk
  obtain rfl:=al rk'
  simp only[Cs] at hq
  rw[←tp] at hq
  simp only[Gd]
  rename_i a b
  have:(a.data==b.data)=true:=hq
  have h2:a.data=b.data:=by simpa using this
  show(b.data==a.data)=true
  simp[h2]
 ·obtain rfl:=al rk
  obtain rfl:=al rk'
  simp only[Cs,beq_iff_eq] at hq
  subst hq;simp[Gd]
 ·simp at hq
theorem ed(R:Rep Γ O w l h){t:TypeId}{x k d:D}{y v z:Value}{h':List Blk}(rx:Rel w (avs O l h) l h x y)(rk:Rel w (avs O l h) l h k v)(rd:Rel w (avs O l h) l h d z)
  (hd:eY P h t x k d=some h'):∃w',(GX t y v z).run P w=.ok () w'∧Rep Γ O w' l h'∧Ext w l h w' l h':=by
 unfold eY at hd
 cases hu:P.underlying t with
 | none=>simp[hu] at hd
 | some u =>
  cases u<;>simp only[hu,reduceCtorEq] at hd
  rename_i kt et
  cases x with
  | ref r =>
   cases r<;>simp only[reduceCtorEq] at hd
   rename_i b
   cases hb:h[b]? with
   | none=>simp[hb] at hd
   | some bx =>
    obtain⟨_,hr⟩:=rx
    cases bx<;>simp only[hb,reduceCtorEq] at hd hr
    rename_i kvs clock
    split at hd
    case isFalse=>simp at hd
    rename_i hk
    obtain⟨uk,huk⟩:=jT hk
    obtain⟨blk,cp,hlb,rfl⟩:=hr
    obtain⟨blk',cp',es,h1,h2,h3⟩:=R.blk b _ hb
    obtain⟨rfl,rfl⟩:blk=blk'∧cp=cp':=by simpa[hlb] using h1
    have hgo:=bh (P:=P) (o:=.map es clock) h2 (by simp)
    cases hf:bR k kvs 0 with
    | none=>simp[hf] at hd
    | some r =>
     obtain⟨r',hn,hm2⟩:=ib huk hk rk 0 h3 hf
     have hkey:(FP kt v es.toList).run P w=.ok r' w:=by
      simp only[FP,CM,und_run huk,CJ,hn,CY]
     rcases r with _|⟨i,d0⟩
     ·simp only[hf,Cs] at hd
      rcases r' with _|⟨j,y0⟩
      ·subst hd
       have:=jl R (x':=.map (kvs++[(k,d,clock)]) (clock+1)) hb (by simp) hlb (o':=.map (es.push {key:=v,val:=z,born:=clock}) (clock+1)) h2 trivial
        (fun E=>⟨blk,cp,_,hlb,cD h2,by rw[Array.toList_push];exact sn (E.relKV h3) (E.rel rk) (E.rel rd) rfl⟩)
       refine⟨_,?_,this.1,this.2⟩
       simp only[GX,CM,und_run hu,CJ,hgo,checkKey_run hk rk,hkey,br h2 (by simp)]
      ·simp at hm2
     ·simp only[hf] at hd
      rcases r' with _|⟨j,y0⟩
      ·simp at hm2
      ·simp only at hm2
       obtain⟨rfl,ry⟩:=hm2
       obtain⟨k',n,_,hkv,hq⟩:=lx 0 hf
       simp only[FV] at hkv
       simp only[hkv,Cs] at hd
       subst hd
       obtain⟨e0,he0,r1,r2,r3⟩:=tt j h3 hkv
       have hsb:=pC rk r1 hq 9999
       have he0':es[j]? = some e0:=by rw[←Dr];exact he0
       have hmod:(es.modify j fun e=>{e with key:=v,val:=z}).toList=es.toList.set j {key:=v,val:=z,born:=e0.born}:=by
        apply List.ext_getElem?
        intro i
        rw[Dr,Array.getElem?_modify,List.getElem?_set]
        by_cases hji:j=i
        ·subst hji
         have hlt:=(FD.1 he0').1
         have h9:es[j]=e0:=(FD.1 he0').2
         simp[hlt,h9]
        ·simp[hji]
       have:=jl R (x':=.map (kvs.set j (k,d,n)) clock) hb (by simp) hlb (o':=.map (es.modify j fun e=>{e with key:=v,val:=z}) clock) h2 trivial
        (fun E=>⟨blk,cp,_,hlb,cD h2,by rw[hmod];exact tq j (E.relKV h3) (E.rel rk) (E.rel rd) r3⟩)
       refine⟨_,?_,this.1,this.2⟩
       simp only[GX,CM,und_run hu,CJ,hgo,checkKey_run hk rk,hkey,Instr.keyThatStays,he0',Df,Option.getD_some,hsb,if_true,CY,br h2 (by simp)]
  | _=>simp at hd
theorem mo(R:Rep Γ O w l h)(t:TypeId):∃v w' l',(Instr.makeMap t none).run P w=.ok v w'∧Rep Γ O w' l' (h++[.map [] 0])∧Ext w l h w' l' (h++[.map [] 0]) ∧
  Rel w' (avs O l' (h++[.map [] 0])) l' (h++[.map [] 0]) (.ref (.mp h.length)) v:=by
 obtain⟨R',E⟩:=cr R (.map #[] 0) (.map [] 0) 0 (fun _=>⟨w.heap.size,0,#[],by simp,heap_alloc_new w _,by simp[RelKV]⟩)
 refine⟨.map (some w.heap.size),_,_,by simp[Instr.makeMap],R',E,?_⟩
 simp only[Rel,RefRel]
 refine⟨rfl,?_⟩
 simp
end
section
variable {P:Program} {Γ:af} {O:Nat→Prop} {w:World} {l:Loc} {h:List Blk}
theorem jU(R:Rep Γ O w l h)(o:Obj)(x:Blk)(hx:(∃s p,x=.sit s p)∨(∃m a b c,x=.mit m a b c))
  (hok:Ext w l h (w.alloc o) (l.upd h.length (some (w.heap.size,0))) (h++[x]) →
   BlkOk (w.alloc o) (avs O (l.upd h.length (some (w.heap.size,0))) (h++[x])) (l.upd h.length (some (w.heap.size,0))) (h++[x]) h.length x) :
  ∃l',Rep Γ O (w.alloc o) l' (h++[x])∧Ext w l h (w.alloc o) l' (h++[x])∧Rel (w.alloc o) (avs O l' (h++[x])) l' (h++[x]) (.ref (.it h.length)) (.pointer (some ⟨w.heap.size,0,none⟩)):=by
 obtain⟨R',E⟩:=cr R o x 0 hok
 refine⟨_,R',E,?_⟩
 simp only[Rel,RefRel]
 refine⟨rfl,?_⟩
 rcases hx with ⟨s,p,rfl⟩|⟨m,a,b,c,rfl⟩<;>simp
theorem nU(R:Rep Γ O w l h){t:TypeId}{x d:D}{y:Value}{h':List Blk}(rx:Rel w (avs O l h) l h x y)(hd:qv P h t x=some (d,h')):
  ∃v w' l',(GR t y).run P w=.ok v w'∧Rep Γ O w' l' h'∧Ext w l h w' l' h'∧Rel w' (avs O l' h') l' h' d v:=by
 unfold qv at hd
 split at hd
 ·rename_i s hu
  cases hd
  obtain rfl:=al rx
  obtain⟨l',r1,r2,r3⟩:=jU R (.stringIter s 0) (.sit s 0) (.inl ⟨_,_,rfl⟩) (fun _=>⟨w.heap.size,0,by simp,heap_alloc_new w _⟩)
  exact⟨_,_,l',by simp[GR,und_run hu],r1,r2,r3⟩
 ·rename_i hu
  cases hd
  obtain rfl:=al rx
  obtain⟨l',r1,r2,r3⟩:=jU R (.mapIter none 0 #[] 0) (.mit none 0 [] 0) (.inr ⟨_,_,_,_,rfl⟩) (fun _=>⟨w.heap.size,0,none,by simp,heap_alloc_new w _,rfl⟩)
  exact⟨_,_,l',by simp[GR,und_run hu],r1,r2,r3⟩
 ·rename_i kt et b hu
  cases hb:h[b]? with
  | none=>simp[hb] at hd
  | some bx =>
   have rx':=rx
   obtain⟨_,hr⟩:=rx
   cases bx<;>simp only[hb,reduceCtorEq,Cs,Cu] at hd hr
   rename_i kvs clock
   obtain⟨rfl,rfl⟩:=hd
   obtain⟨blk,cp,hlb,rfl⟩:=hr
   obtain⟨blk',cp',es,h1,h2,h3⟩:=R.blk b _ hb
   obtain⟨rfl,rfl⟩:blk=blk'∧cp=cp':=by simpa[hlb] using h1
   have hgo:=bh (P:=P) (o:=.map es clock) h2 (by simp)
   obtain⟨l',r1,r2,r3⟩:=jU R (.mapIter (some blk) clock #[] clock) (.mit (some b) clock [] clock) (.inr ⟨_,_,_,_,rfl⟩)
    (fun E=>⟨w.heap.size,0,some blk,by simp,heap_alloc_new w _,(E.rel rx':Rel _ _ _ _ (.ref (.mp b)) _)⟩)
   exact⟨_,_,l',by simp only[GR,CM,und_run hu,CJ,hgo,CY,run_newObj,Gc],r1,r2,r3⟩
 ·simp at hd
theorem iV{f:Nat→Bool}:∀{kvs:List (D×D×Nat)} {es:List MapEntry},RelKV w (avs O l h) l h kvs es→RelKV w (avs O l h) l h (kvs.filter fun e=>f e.2.2) (es.filter fun e=>f e.born)
 | [],[],_=>by simp[RelKV]
 | (k,d,n)::kvs,e::es,r=>by
  simp only[RelKV] at r
  have ih:=iV (f:=f) r.2.2.2
  simp only[List.filter_cons,r.2.2.1]
  split
  ·simp only[RelKV];exact⟨r.1,r.2.1,r.2.2.1,ih⟩
  ·exact ih
 | [],_::_,r=>by simp[RelKV] at r
 | _::_,[],r=>by simp[RelKV] at r
theorem nV{f:Nat→Bool}:∀{kvs:List (D×D×Nat)} {es:List MapEntry},RelKV w (avs O l h) l h kvs es→(es.any fun e=>f e.born)=(kvs.any fun e=>f e.2.2)
 | [],[],_=>by simp
 | (k,d,n)::kvs,e::es,r=>by simp only[RelKV] at r;simp only[List.any_cons,r.2.2.1,nV r.2.2.2]
 | [],_::_,r=>by simp[RelKV] at r
 | _::_,[],r=>by simp[RelKV] at r
theorem qx(_R:Rep Γ O w l h){b:Nat}{y:Value}{bx:Blk}(rx:Rel w (avs O l h) l h (.ref (.it b)) y)(hb:h[b]? = some bx)(hg:bx ≠ .gone):
  ∃blk cp,l b=some (blk,cp)∧y=.pointer (some ⟨blk,0,none⟩):=by
 obtain⟨_,hr⟩:=rx
 cases bx<;>simp only[hb] at hr<;>first
  | exact absurd rfl hg
  | (obtain⟨blk,cp,h1,h2⟩:=hr;exact⟨blk,cp,h1,h2⟩)
theorem pD(R:Rep Γ O w l h){x d:D}{y:Value}{s:Bool}{t:TypeId}{h':List Blk}(rx:Rel w (avs O l h) l h x y)(hd:wi h s x=some (d,h')):
  ∃v w',(F2 y s t).run P w=.ok v w'∧Rep Γ O w' l h'∧Ext w l h w' l h'∧Rel w' (avs O l h') l h' d v:=by
 unfold wi at hd
 split at hd
 case h_2=>simp at hd
 rename_i b
 split at hd
 ·-- a string
  rename_i str pos hb
  obtain⟨blk,cp,hlb,rfl⟩:=qx R rx hb (by simp)
  obtain⟨blk',cp',h1,h2⟩:=R.blk b _ hb
  obtain⟨rfl,rfl⟩:blk=blk'∧cp=cp':=by simpa[hlb] using h1
  have hgo:=bh (P:=P) (o:=.stringIter str pos) h2 (by simp)
  split at hd
  ·rename_i hlt
   simp only[Cs,Cu] at hd
   obtain⟨rfl,rfl⟩:=hd
   have:=jl R (x':=.sit str (pos+(HQ str pos).2)) hb (by simp) hlb (o':=.stringIter str (pos+(HQ str pos).2)) h2 trivial
    (fun E=>⟨blk,cp,hlb,cD h2⟩)
   refine⟨.tuple #[.bool true,goInt pos,.int .i32 (HQ str pos).1],_,?_,this.1,this.2,?_⟩
   ·simp only[F2,CM,hgo,CJ,hlt,if_true,br (P:=P) h2 (by simp),CY]
   ·simp only[Rel];exact⟨_,rfl,rel_lit _ _ _ _ _,rel_lit _ _ _ _ _,rel_lit _ _ _ _ _,trivial⟩
  ·rename_i hlt
   cases hd
   refine⟨.tuple #[.bool false],w,?_,R,EV _ _ _,?_⟩
   ·simp only[F2,CM,hgo,CJ,hlt,if_false,CY]
   ·simp only[Rel];exact⟨_,rfl,rel_lit _ _ _ _ _,trivial⟩
 ·-- a nil map
  rename_i a1 a2 a3 hb
  cases hd
  obtain⟨blk,cp,hlb,rfl⟩:=qx R rx hb (by simp)
  obtain⟨blk',cp',mr,h1,h2,h3⟩:=R.blk b _ hb
  obtain⟨rfl,rfl⟩:blk=blk'∧cp=cp':=by simpa[hlb] using h1
  simp only at h3
  subst h3
  have hgo:=bh (P:=P) h2 (by simp)
  refine⟨.tuple #[.bool false],w,?_,R,EV _ _ _,?_⟩
  ·simp only[F2,CM,hgo,CJ,CY]
  ·simp only[Rel];exact⟨_,rfl,rel_lit _ _ _ _ _,trivial⟩
 ·-- a map
  rename_i mb since seen st hb
  cases hmb:h[mb]? with
  | none=>simp[hmb] at hd
  | some mx =>
   cases mx<;>simp only[hmb,reduceCtorEq] at hd
   rename_i kvs clock
   obtain⟨blk,cp,hlb,rfl⟩:=qx R rx hb (by simp)
   obtain⟨blk',cp',mr,h1,h2,h3⟩:=R.blk b _ hb
   obtain⟨rfl,rfl⟩:blk=blk'∧cp=cp':=by simpa[hlb] using h1
   have h3':=h3
   obtain⟨_,hr⟩:=h3
   simp only[hmb] at hr
   obtain⟨mblk,mcp,hlm,hmr⟩:=hr
   simp only[HR] at hmr
   subst hmr
   obtain⟨mblk',mcp',es,g1,g2,g3⟩:=R.blk mb _ hmb
   obtain⟨rfl,rfl⟩:mblk=mblk'∧mcp=mcp':=by simpa[hlm] using g1
   have hgo:=bh (P:=P) h2 (by simp)
   have hgm:=bh (P:=P) g2 (by simp)
   have hflt:RelKV w (avs O l h) l h (kvs.filter fun e=>!seen.contains e.2.2) (es.filter fun e=>!seen.toArray.contains e.born).toList:=by
    rw[Array.toList_filter]
    simpa using iV (f:=fun n=>!seen.contains n) g3
   have hlen:=ez _ _ g3
   have hes:es.isEmpty=kvs.isEmpty:=by
    rw[Er];simp only[Array.isEmpty_iff_size_eq_zero,List.isEmpty_iff_length_eq_zero,hlen,DV]
   have hall:(es.all fun e=>Qd (e.born≥st)) = !(kvs.any fun e=>Qd (e.2.2<st)):=by
    rw[←nV (f:=fun n=>Qd (n<st)) g3,←Array.all_toList,List.all_eq_not_any_not]
    congr 1
    congr 1
    funext e
    rw[Er];simp
   split at hd
   ·rename_i hk
    split at hd
    case isFalse=>simp at hd
    rename_i hc
    cases hd
    rw[hk] at hflt
    have he:es.filter (fun e=>!seen.toArray.contains e.born)=#[]:=by
     cases hq:(es.filter (fun e=>!seen.toArray.contains e.born)).toList with
     | nil=>simpa using hq
     | cons a t=>rw[hq] at hflt;simp[RelKV] at hflt
    refine⟨.tuple #[.bool false],w,?_,R,EV _ _ _,by simp only[Rel];exact⟨_,rfl,rel_lit _ _ _ _ _,trivial⟩⟩
    have hcond:(!seen.toArray.isEmpty&&!es.isEmpty&&es.all (fun e=>Qd (e.born≥st)))=false:=by
     rw[hall,hes,HS]
     cases h1:seen.isEmpty<;>cases h2:kvs.isEmpty<;>simp_all
    simp only[F2,CM,hgo,hgm,CJ,hcond,he]
    simp[GF]
   ·rename_i k v n hk
    split at hd
    case isFalse=>simp at hd
    rename_i hc
    simp only[Cs,Cu] at hd
    obtain⟨rfl,rfl⟩:=hd
    simp only[Cy,decide_eq_true_eq] at hc
    rw[hk] at hflt
    obtain⟨e,he,rk,rv,hn⟩:∃e:MapEntry,es.filter (fun e=>!seen.toArray.contains e.born)=#[e]∧Rel w (avs O l h) l h k e.key∧Rel w (avs O l h) l h v e.val∧e.born=n:=by
     cases hq:(es.filter (fun e=>!seen.toArray.contains e.born)).toList with
     | nil=>rw[hq] at hflt;simp[RelKV] at hflt
     | cons a t =>
      rw[hq] at hflt
      simp only[RelKV] at hflt
      cases t with
      | nil=>exact⟨a,by apply Array.ext';simpa using hq,hflt.1,hflt.2.1,hflt.2.2.1⟩
      | cons b t=>simp[RelKV] at hflt
    have hcond:(!seen.toArray.isEmpty&&!es.isEmpty&&es.all (fun e=>Qd (e.born≥st)))=false:=by
     rw[hall,HS]
     have hc1:=hc.1
     rw[Eb] at hc1
     rcases hc1 with h1|h1
     ·simp[h1]
     ·simp[h1]
    have:=jl R (x':=.mit (some mb) since (seen++[n]) clock) hb (by simp) hlb (o':=.mapIter (some mblk) since (seen.toArray.push e.born) clock) h2 trivial
     (fun E=>⟨blk,cp,some mblk,hlb,by rw[cD h2];simp[hn],(E.rel (O:=O) (d:=.ref (.mp mb)) h3')⟩)
    refine⟨.tuple #[.bool true,e.key,e.val],_,?_,this.1,this.2,?_⟩
    ·have hs:e.born<since:=by rw[hn];exact hc.2
     have hs2:¬since≤e.born:=by omega
     simp only[F2,CM,hgo,hgm,CJ,hcond,he]
     simp[GF,hs,hs2,br (P:=P) h2]
    ·simp only[Rel];exact⟨_,rfl,rel_lit _ _ _ _ _,this.2.rel rk,this.2.rel rv,trivial⟩
   ·simp at hd
 ·simp at hd
theorem lz{n:Nat}:∀{kvs:List (D×D×Nat)} {es:List MapEntry},RelKV w (avs O l h) l h kvs es→∀{e:D×D×Nat},kvs.find? (fun e=>e.2.2==n)=some e →
  ∃e',es.find? (fun e=>e.born==n)=some e'∧Rel w (avs O l h) l h e.1 e'.key∧Rel w (avs O l h) l h e.2.1 e'.val
 | [],[],_,_,hf=>by simp at hf
 | (k,d,m)::kvs,e0::es,r,e,hf=>by
  simp only[RelKV] at r
  simp only[List.find?_cons,r.2.2.1] at hf ⊢
  split at hf
  ·cases hf;exact⟨e0,rfl,r.1,r.2.1⟩
  ·exact lz r.2.2.2 hf
 | [],_::_,r,_,_=>by simp[RelKV] at r
 | _::_,[],r,_,_=>by simp[RelKV] at r
theorem nW(R:Rep Γ O w l h){x d:D}{y:Value}(rx:Rel w (avs O l h) l h x y)(hd:lw h x=some d):
  ∃v,(Instr.entry y).run P w=.ok v w∧Rel w (avs O l h) l h d v:=by
 unfold lw at hd
 split at hd
 case h_2=>simp at hd
 rename_i b
 split at hd
 case h_2=>simp at hd
 rename_i mb since seen st hb
 cases hmb:h[mb]? with
 | none=>simp[hmb] at hd
 | some mx =>
  cases mx<;>simp only[hmb,reduceCtorEq] at hd
  rename_i kvs clock
  cases hl:seen.getLast? with
  | none=>simp[hl] at hd
  | some n =>
   simp only[hl] at hd
   split at hd
   case isFalse=>simp at hd
   rename_i hcl
   subst hcl
   simp only[CC] at hd
   obtain⟨e,hf,rfl⟩:=hd
   obtain⟨blk,cp,hlb,rfl⟩:=qx R rx hb (by simp)
   obtain⟨blk',cp',mr,h1,h2,h3⟩:=R.blk b _ hb
   obtain⟨rfl,rfl⟩:blk=blk'∧cp=cp':=by simpa[hlb] using h1
   obtain⟨_,hr⟩:=h3
   simp only[hmb] at hr
   obtain⟨mblk,mcp,hlm,hmr⟩:=hr
   simp only[HR] at hmr
   subst hmr
   obtain⟨mblk',mcp',es,g1,g2,g3⟩:=R.blk mb _ hmb
   obtain⟨rfl,rfl⟩:mblk=mblk'∧mcp=mcp':=by simpa[hlm] using g1
   have hgo:=bh (P:=P) h2 (by simp)
   have hgm:=bh (P:=P) g2 (by simp)
   obtain⟨e',hf',r1,r2⟩:=lz g3 hf
   refine⟨.tuple #[e'.key,e'.val],?_,by simp only[Rel];exact⟨_,rfl,r1,r2,trivial⟩⟩
   have hback:seen.toArray.back? = some n:=by rw[List.back?_toArray];exact hl
   have hff:es.find? (fun e=>e.born==n)=some e':=by rw[←Array.find?_toList];exact hf'
   simp only[Instr.entry,CM,hgo,hgm,CJ,hback]
   simp[hff]
end
end Go.Vi
