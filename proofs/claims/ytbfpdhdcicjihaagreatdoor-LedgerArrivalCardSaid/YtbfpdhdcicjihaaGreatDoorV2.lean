/- LedgerArrival: part of the proof: an evaluator of the model's programs on abstract values, and its soundness. No conditions beyond the given statement's own. -/
import Derived.Test.YtbfpdhdcicjihaaGreatDoorV1
import Derived.IntWalk
import Derived.Laws.IdiomStrings
open Decidable renaming decide → Qd
open Go.Builtin renaming zeroCells → Ip, lenOf → Ii, firstCells → H4, append_ → Ik, len_ → Km, copy_ → KD, clear_ → LS
open Go.Vi.Loc renaming upd_same → JB
open List renaming getElem?_append_right → HT, getElem?_cons_zero → Hu, getElem?_toArray → K7, getElem?_cons_succ → I2, all_eq_true → Hs, mem_flatten → LL, length_append → Hv, size_toArray → L8, mem_append → HN, flatten_append → IH, isEmpty_eq_false_iff → KA, mem_map → HS, length_pos_iff → KB, mem_of_mem_drop → Jm, mem_of_mem_take → Je, take_of_length_le → H3, length_drop → Ih, length → G3, length_take → IR, drop_append → Kz, append_assoc → IA, length_cons → HZ, mapM_cons → MO, replicate → HA, length_map → HW, flatten_cons → Ic, eq_of_mem_replicate → JU, length_replicate → MQ, drop_zero → IW, take_length_add_append → Ma, drop_length_add_append → Mb, take_append_of_le_length → Kr, drop_append_of_le_length → Ks, map_cons → Il, singleton_append → MR
open Nat renaming le_refl → Hq, le_succ → I5, mul_le_mul_right → Ir, add_mul → IV, add_zero → MN, add_assoc → JY
open Go.Question renaming appendCap → MB
open Go.IntKind renaming i64 → GY
open Go.Sem renaming run_bind → Hp, run_pure → HH, run_ite → Lj
open Go.Result renaming andThen_ok → Hk
open Bool renaming false_eq_true → HO, not_false → JQ, and_eq_true → G6, not_eq_true' → IB, or_eq_true → JH
open Go.World renaming alloc_eq → L7
open Go.Vi.Blk renaming stays → MC
open Option.some renaming injEq → G0
open Prod.mk renaming injEq → G4
open Array renaming length_toList → IK, range → Jy, toList_map → Kn, toList_range → Kt
open Go.ByteArray renaming toList_eq → Ms
open Option renaming map_eq_some_iff → Ha
open Go.Op renaming intArith → L9, intCmp → Lu, unary → Nj
open Int renaming not_lt → Ke
open Go.Instr renaming build → MP, buildSlice → LF, makeSlice → JT
open Go.IntWalk renaming i64_in → K5
open Go.Value.slice renaming injEq → K8
open Go.Vi.CellsAt renaming of_relO → Nk
namespace Go.Vi
open Go
section
variable {P:Program} {Γ:ae} {O:Nat→Prop} {w:World} {l:Loc} {h:List Blk}
theorem dR(z:Array Value)(n:Nat):(Ip z n).size=n*z.size:=by simp[Ip]
theorem dX(R:Rep Γ O w l h)(w1:World)(hw1:w1.heap=w.heap∧w1.tape=w.tape∧w1.os=w.os∧w1.output=w.output∧w.drawn≤w1.drawn)(e:TypeId)(cs:Array Value)(rows:List (List D))(sz cap:Nat)(ys rest:List Value)
  (hcs:cs.toList=ys++rest) (hsz:cs.size=cap*sz) (hcap:rows.length≤cap) (hr:∀r∈rows,r.length=sz) (ry:RelL w (avs O l h) l h rows.flatten ys) :
  ∃l',Rep Γ O (w1.alloc (.cells cs e)) l' (h++[.vec rows 0 sz])∧Ext w l h (w1.alloc (.cells cs e)) l' (h++[.vec rows 0 sz]) ∧
   Rel (w1.alloc (.cells cs e)) (avs O l' (h++[.vec rows 0 sz])) l' (h++[.vec rows 0 sz]) (.ref (.vec h.length 0)) (.slice (some ⟨w.heap.size,0,none⟩) rows.length cap):=by
 obtain⟨R1,E1⟩:=R.of_heap hw1.1 hw1.2
 have hs:w1.heap.size=w.heap.size:=by rw[hw1.1]
 obtain⟨R2,E2⟩:=b8 R1 (.cells cs e) (.vec rows 0 sz) (mkP 0 cap) (fun E=>by
  simp only[BlkOk,JB]
  exact⟨0,cap,rfl,cs,e,(0,0),ys,heap_alloc_new w1 _,by omega,hcap,by simp,hr,E.relL (E1.relL ry),[],rest,rfl,hcs⟩)
 refine⟨_,R2,E1.trans E2,?_⟩
 simp only[Rel,RefRel]
 refine⟨rfl,?_⟩
 simp only[HT (Hq _),Nat.sub_self,Hu,JB,hs,fg]
 exact⟨Hq _,fun _=>⟨0,cap,rfl,rfl,hcap⟩⟩
theorem u7(R:Rep Γ O w l h)(sz:Nat):∃l',Rep Γ O w l' (h++[.vec [] 0 sz])∧Ext w l h w l' (h++[.vec [] 0 sz]) ∧
  Rel w (avs O l' (h++[.vec [] 0 sz])) l' (h++[.vec [] 0 sz]) (.ref (.vec h.length 0)) (.slice none 0 0):=by
 have:=R.step (w':=w) (l':=l.upd h.length none) (h':=h++[.vec [] 0 sz]) h.length (.vec [] 0 sz) (Hq _) ⟨rfl,rfl,rfl,(by first|exact Hq _|exact I5 _)⟩ (fun b hb=>gV h _ hb) (by simp)
  (fun b hb=>Loc.upd_ne _ _ _ hb) (fun y hy=>by simp at hy) (fun _ _ _=>rfl) (fun k c hk=>by simp at hk) (fun _=>by simp[BlkOk])
 refine⟨_,this.1,this.2,?_⟩
 simp only[Rel,RefRel]
 refine⟨rfl,?_⟩
 simp[fg]
theorem jd{need cap:Nat}{e:TypeId}(t:Nat):need≤(MB need cap e).cut t:=by simp[Question.cut]
theorem mL{t tx ty e:TypeId}{dx:TypeDesc}{sz by':Nat}{z:Value}{base:Option Addr}{n cap m:Nat}{x:Value}{olds news:List Value}
  (ht:P.underlying t=some (.slice e)) (hx:P.underlying tx=some dx) (hdx:∀k,dx ≠ .int k) (hs:szOf P e=some sz) (hb:bytesOf P e=some by') (hz:fd P e=some z)
  (hlen:(Ii x).run P w=.ok m w) (hnew:(H4 sz m x).run P w.drew=.ok news.toArray w.drew)
  (hold:(H4 sz n (.slice base n cap)).run P w.drew=.ok olds.toArray w.drew) (hn:cap<n+m) (hby:(n+m)*by'≤140737488355328) (h62:n+m≤4611686018427387904) :
  ∃(cap2:Nat),n+m≤cap2 ∧
   (Ik #[t,tx] ty #[.slice base n cap,x]).run P w=.ok (.slice (some ⟨w.heap.size,0,none⟩) (n+m) cap2)
    (w.drew.alloc (.cells (olds.toArray++news.toArray++Ip z.cells (cap2 - (n+m))) e)):=by
 obtain⟨i,hi,hib⟩:=ex hb
 have hfit:=growslice_fits hn hby
 have hti:∀w:World,(typeInfo e).run P w=.ok i w:=fun w=>by simp[typeInfo,hi]
 refine⟨(MB (n+m) cap e).cut (w.tape w.drawn (.appendCap (n+m) cap e)),jd _,?_⟩
 have hnot:¬((((n+m:Nat):Int)>GY.max)∧(False∨i.bytes=0)):=by
  intro hh
  have:GY.max=9223372036854775807:=rfl
  rw[this] at hh;omega
 have hcap':¬(Builtin.nextslicecap (n+m) cap*i.bytes>2 ^ 48):=by rw[hib];omega
 unfold Ik
 simp only[K7,Hu,I2,Hp,und_run ht,und_run hx,Hk,szOf_run hs,HH]
 cases dx with
 | int k=>exact absurd rfl (hdx k)
 | _ =>
  simp only[HO,if_false,hlen,Hk,Nat.not_le.2 hn,Hp,hti,Lj,hnot,hcap',if_false,run_choose,Question.forced,run_askRoom,
   hold,hnew,zeroV_run hz,HH,JQ,if_true,newRow,run_newObj,World.drew_eq,L7,World.size_drew]
theorem gY{t tx ty e:TypeId}{dx:TypeDesc}{sz blk n cap m:Nat}{x:Value}{news:List Value}{c:Array Value}{T:TypeId}{fr:Nat×Nat}
  (ht:P.underlying t=some (.slice e)) (hx:P.underlying tx=some dx) (hdx:∀k,dx ≠ .int k) (hs:szOf P e=some sz)
  (hlen:(Ii x).run P w=.ok m w) (hnew:(H4 sz m x).run P w=.ok news.toArray w) (h1:∀v∈news,v.oneCell'=true) (hnl:news.length=m*sz)
  {oo:Nat} (hn:n+m≤cap) (hb:w.heap[blk]? = some (.cells c T fr)) (hf:∀o,o<c.size→¬(fr.1≤o∧o<fr.2)) (hc:oo+cap*sz≤c.size) :
  ∃w' c',(Ik #[t,tx] ty #[.slice (some ⟨blk,oo,none⟩) n cap,x]).run P w=.ok (.slice (some ⟨blk,oo,none⟩) (n+m) cap) w'∧w'.heap.size=w.heap.size∧(∀k,k ≠ blk→w'.heap[k]? = w.heap[k]?) ∧
   w'.heap[blk]? = some (.cells c' T fr)∧c'.toList=aU c.toList (oo+n*sz) news∧w'.tape=w.tape∧w'.os=w.os∧w'.output=w.output∧w.drawn≤w'.drawn:=by
 have hle:oo+n*sz+0+news.length≤c.size:=by
  rw[hnl];have:=Ir sz hn;rw[IV] at this;omega
 obtain⟨w',c',h2,h3⟩:=br (P:=P) (off:=oo+n*sz) news 0 w c hb hf hle h1
 refine⟨w',c',?_,by simpa using h3⟩
 unfold Ik
 simp only[K7,Hu,I2,Hp,und_run ht,und_run hx,Hk,szOf_run hs,HH]
 cases dx with
 | int k=>exact absurd rfl (hdx k)
 | _ =>
  simp only[HO,if_false,hlen,Hk,hn,if_true,Hp,hnew,JQ,b7,h2,HH,Lj]
theorem fh{t tx ty e:TypeId}{dx:TypeDesc}{sz:Nat}{x:Value}{news:List Value}
  (ht:P.underlying t=some (.slice e)) (hx:P.underlying tx=some dx) (hdx:∀k,dx ≠ .int k) (hs:szOf P e=some sz)
  (hlen:(Ii x).run P w=.ok 0 w) (hnew:(H4 sz 0 x).run P w=.ok news.toArray w) :
  (Ik #[t,tx] ty #[.slice none 0 0,x]).run P w=.ok (.slice none 0 0) w:=by
 unfold Ik
 simp only[K7,Hu,I2,Hp,und_run ht,und_run hx,Hk,szOf_run hs,HH]
 cases dx with
 | int k=>exact absurd rfl (hdx k)
 | _ =>
  simp only[HO,if_false,hlen,Hk,MN,Hq,if_true,Hp,hnew,JQ,HH,Lj]
theorem cy{t:TypeId}{z:List D}(hz:cP P t=some z):∃v,fd P t=some v∧z=v.cells.toList.map lit:=by
 unfold cP at hz
 cases hv:fd P t with
 | none=>simp[hv] at hz
 | some v=>simp[hv] at hz;exact⟨v,rfl,hz.symm⟩
theorem qb(R:Rep Γ O w l h){b e0 sz:Nat}{es:List (List D)}(hb:h[b]? = some (.vec es e0 sz))(w1:World)(hw1:w1.heap=w.heap∧w1.tape=w.tape∧w1.os=w.os∧w1.output=w.output∧w.drawn≤w1.drawn)
  (e:TypeId) (cs:Array Value) (rows:List (List D)) (cap:Nat) (ys rest:List Value)
  (hcs:cs.toList=ys++rest) (hsz:cs.size=cap*sz) (hcap:rows.length≤cap) (hr:∀r∈rows,r.length=sz) (ry:RelL w (avs O l h) l h rows.flatten ys) :
  ∃l',Rep Γ O (w1.alloc (.cells cs e)) l' (h.set b (.vec rows (e0+1) sz))∧Ext w l h (w1.alloc (.cells cs e)) l' (h.set b (.vec rows (e0+1) sz)) ∧
   Rel (w1.alloc (.cells cs e)) (avs O l' (h.set b (.vec rows (e0+1) sz))) l' (h.set b (.vec rows (e0+1) sz)) (.ref (.vec b (e0+1))) (.slice (some ⟨w.heap.size,0,none⟩) rows.length cap):=by
 have hs:w1.heap.size=w.heap.size:=by rw[hw1.1]
 have:=R.step (w':=w1.alloc (.cells cs e)) (l':=l.upd b (some (w.heap.size,mkP 0 cap))) (h':=h.set b (.vec rows (e0+1) sz)) b (.vec rows (e0+1) sz) (by simp[hs]) ⟨hw1.2.1,hw1.2.2.1,hw1.2.2.2⟩
  (fun i hi=>bj _ _ hi) (aP hb) (fun i hi=>Loc.upd_ne _ _ _ hi)
  (fun z hz=>by rw[hb] at hz;cases hz;exact⟨⟨I5 _,fun hh=>absurd hh (by omega),rfl⟩,fun hh=>absurd hh (by simp[MC])⟩)
  (fun k hk _=>by rw[heap_alloc_old w1 _ k (by omega),hw1.1])
  (fun k c hk=>by simp at hk;exact .inr ⟨by omega,by simp;omega⟩)
  (fun E=>by
   simp only[BlkOk,JB]
   exact⟨0,cap,rfl,cs,e,(0,0),ys,by rw[←hs];exact heap_alloc_new w1 _,by omega,hcap,by simp,hr,E.relL ry,[],rest,rfl,hcs⟩)
 refine⟨_,this.1,this.2,?_⟩
 simp only[Rel,RefRel]
 refine⟨rfl,?_⟩
 rw[aP hb]
 simp only[JB,fg]
 exact⟨Hq _,fun _=>⟨0,cap,rfl,rfl,hcap⟩⟩
theorem oA(R:Rep Γ O w l h){t tx ty:TypeId}{s x d:D}{ys yx:Value}{h':List Blk}(rs:Rel w (avs O l h) l h s ys)(rx:Rel w (avs O l h) l h x yx)
  (hd:ow P h t tx s x=some (true,d,h')) :
  ∃v w' l',(Ik #[t,tx] ty #[ys,yx]).run P w=.ok v w'∧Rep Γ O w' l' h'∧Ext w l h w' l' h'∧Rel w' (avs O l' h') l' h' d v:=by
 unfold ow at hd
 cases hte:cn P t with
 | none=>simp[hte] at hd
 | some e =>
  cases hux:P.underlying tx with
  | none=>simp[hte,hux] at hd
  | some dx =>
   simp only[hte,hux] at hd
   split at hd
   case isTrue=>simp at hd
   rename_i hdx0
   have hdx:∀k,dx ≠ .int k:=by intro k hk;subst hk;simp[isIntT] at hdx0
   have ht:P.underlying t=some (.slice e):=by
    unfold cn at hte
    cases hu:P.underlying t with
    | none=>simp[hu] at hte
    | some u=>cases u<;>simp_all
   cases hs:szOf P e with
   | none=>simp[hs] at hd
   | some sz =>
    cases hb:bytesOf P e with
    | none=>simp[hs,hb] at hd
    | some by' =>
     cases hz:cP P e with
     | none=>simp[hs,hb,hz] at hd
     | some z =>
      cases hrows:rowsD h x with
      | none=>simp[hs,hb,hz,hrows] at hd
      | some rows =>
       simp only[hs,hb,hz,hrows] at hd
       split at hd
       case isFalse=>simp at hd
       rename_i hzl
       obtain⟨zv,hzv,rfl⟩:=cy hz
       have hzsz:zv.cells.size=sz:=by simpa using hzl
       have pre:rows.all (rowOk sz)=true→(∀r∈rows,r.length=sz)∧(rows.flatten.all D.one=true):=by
        intro ha
        simp only[Hs,rowOk,G6,decide_eq_true_eq] at ha
        refine⟨fun r hr=>(ha r hr).1,?_⟩
        simp only[Hs,LL]
        rintro c ⟨r,hr,hc⟩
        exact(ha r hr).2 c hc
       obtain⟨R1,E1⟩:=R.of_heap (w':=w.drew) rfl ⟨rfl,rfl,rfl,(by first|exact Hq _|exact I5 _)⟩
       have hroom:∀{n m:Nat},roomOk (n+m) by'=true→(n+m)*by'≤140737488355328∧n+m≤4611686018427387904:=by
        intro n m hh;simpa[roomOk] using hh
       have mk:∀(base:Option Addr) (cap:Nat) (orows:List (List D)) (y:Value),y=.slice base orows.length cap→Rel w (avs O l h) l h s y→rowsD h s=some orows→(∀r∈orows,r.length=sz) →
         rows.all (rowOk sz)=true→roomOk (orows.length+rows.length) by'=true→cap<orows.length+rows.length →
         ∃(cap2:Nat) (cs:Array Value) (zs rest:List Value),(Ik #[t,tx] ty #[y,yx]).run P w=.ok (.slice (some ⟨w.heap.size,0,none⟩) (orows++rows).length cap2) (w.drew.alloc (.cells cs e)) ∧
          cs.toList=zs++rest∧cs.size=cap2*sz∧(orows++rows).length≤cap2∧(∀r∈orows++rows,r.length=sz)∧RelL w.drew (avs O l h) l h (orows++rows).flatten zs:=by
        intro base cap orows y hy ry hor hol ha hro hlt
        subst hy
        obtain⟨p1,p2⟩:=pre ha
        obtain⟨g1,_⟩:=bE (P:=P) R rx hrows p1
        obtain⟨_,news,g2,g3⟩:=bE (P:=P) R1 (E1.rel rx) hrows p1
        obtain⟨_,olds,g5,g6⟩:=bE (P:=P) R1 (E1.rel ry) hor hol
        obtain⟨q1,q2⟩:=hroom hro
        obtain⟨cap2,q3,q4⟩:=mL (P:=P) (ty:=ty) ht hux hdx hs hb hzv g1 g2 g5 hlt q1 q2
        refine⟨cap2,_,olds++news,(Ip zv.cells (cap2 - (orows.length+rows.length))).toList,by rw[q4,Hv],by simp,?_,by rw[Hv];exact q3,?_,?_⟩
        ·have h1:=g6.length
         have h2:=g3.length
         rw[ah hol] at h1
         rw[ah p1] at h2
         simp only[Array.size_append,L8,dR,hzsz,←h1,←h2,←IV]
         congr 1;omega
        ·intro r hr
         rcases HN.1 hr with hr|hr
         ·exact hol r hr
         ·exact p1 r hr
        ·rw[IH];exact g6.append g3
       have news:∀(orows:List (List D)) (y:Value) (base:Option Addr) (cap:Nat),y=.slice base orows.length cap→Rel w (avs O l h) l h s y→rowsD h s=some orows→(∀r∈orows,r.length=sz) →
         rows.all (rowOk sz)=true→roomOk (orows.length+rows.length) by'=true→cap<orows.length+rows.length→d=.ref (.vec h.length 0)→h'=h++[.vec (orows++rows) 0 sz] →
         ∃v w' l',(Ik #[t,tx] ty #[y,yx]).run P w=.ok v w'∧Rep Γ O w' l' h'∧Ext w l h w' l' h'∧Rel w' (avs O l' h') l' h' d v:=by
        intro orows y base cap hy ry hor hol ha hro hlt hd2 hh2
        obtain⟨cap2,cs,zs,rest,k1,k2,k3,k4,k5,k6⟩:=mk base cap orows y hy ry hor hol ha hro hlt
        obtain⟨l',k7,k8,k9⟩:=dX R1 w.drew ⟨rfl,rfl,rfl,rfl,(by first|exact Hq _|exact I5 _)⟩ e cs (orows++rows) sz cap2 zs rest k2 k3 k4 k5 k6
        subst hd2;subst hh2
        exact⟨_,_,l',k1,k7,E1.trans k8,k9⟩
       split at hd
       ·-- nil
        simp only[G0,G4,G6] at hd
        obtain⟨⟨ha,hro⟩,rfl,rfl⟩:=hd
        simp only[Rel,RelP] at rs
        subst rs
        cases hrl:rows with
        | nil =>
         subst hrl
         obtain⟨g1,nw,g2,g3⟩:=bE (P:=P) R rx hrows (pre ha).1
         obtain⟨l',k7,k8,k9⟩:=u7 R sz
         exact⟨_,_,l',fh ht hux hdx hs g1 g2,k7,k8,k9⟩
        | cons r0 rs' =>
         rw[←hrl]
         exact news [] (.slice none 0 0) none 0 rfl (by simp[Rel,RelP]) (by simp[rowsD]) (by simp) ha hro (by rw[hrl];simp) rfl (by simp)
       ·-- bA
        rename_i es
        simp only[G0,G4,G6,IB,KA] at hd
        obtain⟨⟨⟨⟨ha,hro⟩,hne⟩,hel⟩,rfl,rfl⟩:=hd
        have hol:∀r∈es.map (·.map D.p),r.length=sz:=by
         simp only[Hs,decide_eq_true_eq] at hel
         intro r hr
         obtain⟨r0,h0,rfl⟩:=HS.1 hr
         simpa using hel r0 h0
        have hpos:0<rows.length:=KB.2 hne
        have rs':=rs
        simp only[Rel] at rs
        rcases rs with ⟨rfl,a0,rfl⟩|⟨blk,off,sz2,rfl,rr⟩
        ·exact news [] _ a0 0 rfl rs' (by simp[rowsD]) (by simp) ha hro (by simpa using hpos) rfl (by simp)
        ·exact news (es.map (·.map .p)) _ (some ⟨blk,off,none⟩) es.length (by simp) rs' (by simp[rowsD]) hol ha (by simpa using hro) (by simp;omega) rfl rfl
       ·-- a bA part
        rename_i b e' i n kcl
        cases hbk:h[b]? with
        | none=>simp[hbk] at hd
        | some bx =>
         cases bx<;>simp only[hbk,reduceCtorEq] at hd
         rename_i es e2 sz'
         split at hd
         case isFalse=>simp at hd
         rename_i he
         obtain⟨rfl,rfl⟩:=he
         simp only[G0,G4,G6,IB,KA] at hd
         obtain⟨⟨⟨⟨ha,hro⟩,hne⟩,hkn⟩,rfl,rfl⟩:=hd
         have hkn:=of_decide_eq_true hkn
         subst hkn
         have hpos:0<rows.length:=KB.2 hne
         have rs':=rs
         obtain⟨_,hr⟩:=rs
         simp only[hbk] at hr
         obtain⟨hin,blk,oo,cap,c2,hlb,hy,_,_,hc⟩:=hr.2 trivial
         have hc2:=hc _ rfl
         subst hc2
         have hlen:((es.drop i).take c2).length=c2:=by simp;omega
         have hok:=R.blk b _ hbk
         simp only[BlkOk,hlb] at hok
         obtain⟨_,_,_,c,T,fr,ys',o1,o2,o3,o4,o5,o6,o7⟩:=hok
         rcases hy with rfl|⟨a0,rfl,_⟩
         ·exact news ((es.drop i).take c2) _ (some _) c2 (by rw[hlen]) rs' (by simp[rowsD,hbk]) (fun r hr=>o5 r (Jm (Je hr))) ha (by rw[hlen];exact hro) (by rw[hlen];omega) rfl rfl
         ·exact news ((es.drop i).take c2) _ a0 c2 (by rw[hlen]) rs' (by simp[rowsD,hbk]) (fun r hr=>o5 r (Jm (Je hr))) ha (by rw[hlen];exact hro) (by rw[hlen];omega) rfl rfl
       ·-- the rest of a vector
        rename_i b e' i n
        cases hbk:h[b]? with
        | none=>simp[hbk] at hd
        | some bx =>
         cases bx<;>simp only[hbk,reduceCtorEq] at hd
         rename_i es e2 sz'
         split at hd
         case isFalse=>simp at hd
         rename_i he
         obtain⟨rfl,rfl,hin⟩:=he
         simp only[G0,G4,G6,IB,KA] at hd
         obtain⟨⟨⟨ha,hro⟩,hne⟩,rfl,rfl⟩:=hd
         have hpos:0<rows.length:=KB.2 hne
         have rs':=rs
         obtain⟨_,hr⟩:=rs
         simp only[hbk] at hr
         obtain⟨_,blk,oo,cap,c2,hlb,hy,hnc,hic,_⟩:=hr.2 trivial
         have hlen:(es.drop i).length=n:=by simp;omega
         have hok:=R.blk b _ hbk
         simp only[BlkOk,hlb] at hok
         obtain⟨o2',cc,rc,c,T,fr,ys',o1,o2,o3,o4,o5,o6,pr,rest,o0,o7⟩:=hok
         obtain⟨rfl,rfl⟩:=b6 rc
         have hor:rowsD h (.ref (.vs b e' i n none))=some (es.drop i):=by
          simp only[rowsD,hbk,if_true]
          rw[H3 (by omega)]
         have grow:∀(base:Option Addr),ys=.slice base n c2→c2<n+rows.length →
           ∃v w' l',(Ik #[t,tx] ty #[ys,yx]).run P w=.ok v w'∧Rep Γ O w' l' (h.set b (.vec (es.drop i++rows) (e'+1) sz'))∧Ext w l h w' l' (h.set b (.vec (es.drop i++rows) (e'+1) sz')) ∧
            Rel w' (avs O l' (h.set b (.vec (es.drop i++rows) (e'+1) sz'))) l' (h.set b (.vec (es.drop i++rows) (e'+1) sz')) (.ref (.vec b (e'+1))) v:=by
          intro base hy hlt
          obtain⟨cap2,cs,zs,rest,k1,k2,k3,k4,k5,k6⟩:=mk base c2 (es.drop i) ys (by rw[hlen];exact hy) rs' hor (fun r hr=>o5 r (Jm hr)) ha (by rw[hlen];exact hro) (by rw[hlen];exact hlt)
          obtain⟨l',k7,k8,k9⟩:=qb R1 hbk w.drew ⟨rfl,rfl,rfl,rfl,(by first|exact Hq _|exact I5 _)⟩ e cs (es.drop i++rows) cap2 zs rest k2 k3 k4 k5 k6
          exact⟨_,_,l',k1,k7,E1.trans k8,k9⟩
         rcases hy with hy|⟨a0,hy,hc0⟩
         ·by_cases hfit:n+rows.length≤c2
          ·subst hy
           obtain⟨p1,p2⟩:=pre ha
           obtain⟨g1,nw,g2,g3⟩:=bE (P:=P) R rx hrows p1
           have hnl:nw.length=rows.length*sz':=by rw[←g3.length,ah p1]
           have hcz0:oo+i*sz'+c2*sz'≤c.size:=by
            have:=Ir sz' hic
            rw[IV] at this
            omega
           obtain⟨w',c',k1,k2,k3,k4,k5,k6⟩:=gY (P:=P) (ty:=ty) (T:=T) ht hux hdx hs g1 g2 (gw g3 p2) hnl hfit o1 o4 hcz0
           have hyl:ys'.length=i*sz'+n*sz':=by rw[←o6.length,ah o5,←IV,hin]
           have hfd:(es.drop i).flatten=es.flatten.drop (i*sz'):=by
            have:=ax o5 i n (by omega)
            rw[H3 (by omega),H3 (l:=es.flatten.drop (i*sz')) (by rw[Ih,ah o5,←hin,IV];omega)] at this
            exact this
           have hcz:c'.size=c.size:=by
            have hh:=congrArg G3 k5
            have h9:=Ir sz' hfit
            rw[IV] at h9
            simp only[aU,Hv,IR,Ih,IK] at hh
            omega
           have:=R.step (w':=w') (l':=l.upd b (some (blk,mkP (oo+i*sz') c2))) (h':=h.set b (.vec (es.drop i++rows) (e'+1) sz')) b (.vec (es.drop i++rows) (e'+1) sz') (by omega) k6
            (fun i hi=>bj _ _ hi) (aP hbk) (fun i hi=>Loc.upd_ne _ _ _ hi)
            (fun z hz=>by rw[hbk] at hz;cases hz;exact⟨⟨I5 _,fun hh=>absurd hh (by omega),rfl⟩,fun hh=>absurd hh (by simp[MC])⟩)
            (fun k hk hno=>k3 k (fun ee=>hno _ (mkP oo cap) hbk (by simp) (by rw[hlb,ee])))
            (fun k cc hk=>by
             rw[JB] at hk
             cases hk
             exact .inl ⟨_,_,hbk,by simp,hlb⟩)
            (fun E=>by
             simp only[BlkOk,JB]
             refine⟨oo+i*sz',c2,rfl,c',T,fr,ys'.drop (i*sz')++nw,k4,by omega,by rw[Hv,hlen];exact hfit,by rw[hcz];exact o4,?_,?_,pr++ys'.take (i*sz'),rest.drop nw.length,?_,?_⟩
             ·intro r hr
              rcases HN.1 hr with hr|hr
              ·exact o5 r (Jm hr)
              ·exact p1 r hr
             ·rw[IH,hfd];exact((E.relL o6).drop _).append (E.relL g3)
             ·rw[Hv,IR];omega
             ·have e1:oo+i*sz'+n*sz'=(pr++ys').length:=by rw[Hv];omega
              rw[k5,o7]
              unfold aU
              rw[e1,List.take_left',Kz]
              ·simp only[IA]
               rw[←IA (ys'.take _) (ys'.drop _),List.take_append_drop]
               simp
              ·rfl)
           refine⟨_,w',_,k1,this.1,this.2,?_⟩
           simp only[Rel,RefRel]
           refine⟨rfl,?_⟩
           rw[aP hbk]
           simp only[JB,fg]
           exact⟨Hq _,fun _=>⟨_,_,rfl,by rw[Hv,hlen],by rw[Hv,hlen];exact hfit⟩⟩
          ·exact grow _ hy (by omega)
         ·exact grow _ hy (by omega)
       ·-- an owned vector
        rename_i b e'
        cases hbk:h[b]? with
        | none=>simp[hbk] at hd
        | some bx =>
         cases bx<;>simp only[hbk,reduceCtorEq] at hd
         rename_i es e2 sz'
         split at hd
         case isFalse=>simp at hd
         rename_i he
         obtain⟨rfl,rfl⟩:=he
         simp only[G0,G4,G6] at hd
         obtain⟨⟨ha,hro⟩,rfl,rfl⟩:=hd
         have rs':=rs
         obtain⟨_,hr⟩:=rs
         simp only[hbk] at hr
         have hv:=hr.2 trivial
         have hok:=R.blk b _ hbk
         have grow:∀(base:Option Addr) (cap:Nat),ys=.slice base es.length cap→(∀r∈es,r.length=sz')→cap<es.length+rows.length →
           ∃v w' l',(Ik #[t,tx] ty #[ys,yx]).run P w=.ok v w'∧Rep Γ O w' l' (h.set b (.vec (es++rows) (e'+1) sz'))∧Ext w l h w' l' (h.set b (.vec (es++rows) (e'+1) sz')) ∧
            Rel w' (avs O l' (h.set b (.vec (es++rows) (e'+1) sz'))) l' (h.set b (.vec (es++rows) (e'+1) sz')) (.ref (.vec b (e'+1))) v:=by
          intro base cap hy hol hlt
          obtain⟨cap2,cs,zs,rest,k1,k2,k3,k4,k5,k6⟩:=mk base cap es ys hy rs' (by simp[rowsD,hbk]) hol ha hro hlt
          obtain⟨l',k7,k8,k9⟩:=qb R1 hbk w.drew ⟨rfl,rfl,rfl,rfl,(by first|exact Hq _|exact I5 _)⟩ e cs (es++rows) cap2 zs rest k2 k3 k4 k5 k6
          exact⟨_,_,l',k1,k7,E1.trans k8,k9⟩
         cases hlb:l b with
         | none =>
          simp only[hlb,fg,BlkOk] at hv hok
          obtain⟨_,rfl⟩:=hv
          subst hok
          cases hrl:rows with
          | nil =>
           subst hrl
           obtain⟨g1,nw,g2,g3⟩:=bE (P:=P) R rx hrows (pre ha).1
           have:=R.step (w':=w) (l':=l) (h':=h.set b (.vec ([]++[]) (e'+1) sz')) b (.vec ([]++[]) (e'+1) sz') (Hq _) ⟨rfl,rfl,rfl,(by first|exact Hq _|exact I5 _)⟩
            (fun i hi=>bj _ _ hi) (aP hbk) (fun _ _=>rfl)
            (fun z hz=>by rw[hbk] at hz;cases hz;exact⟨⟨I5 _,fun hh=>absurd hh (by omega),rfl⟩,fun hh=>absurd hh (by simp[MC])⟩)
            (fun _ _ _=>rfl) (fun k c hk=>by rw[hlb] at hk;simp at hk) (fun E=>by simp[BlkOk,hlb])
           refine⟨_,_,l,fh ht hux hdx hs g1 g2,this.1,this.2,?_⟩
           simp only[Rel,RefRel]
           refine⟨rfl,?_⟩
           rw[aP hbk]
           simp[fg,hlb]
          | cons r0 rs2 =>
           rw[←hrl]
           exact grow none 0 rfl (by simp) (by rw[hrl];simp)
         | some pr =>
          obtain⟨blk,cp0⟩:=pr
          simp only[hlb,fg,BlkOk] at hv hok
          obtain⟨oo,cap,rfl,rfl,hvl⟩:=hv
          obtain⟨o2',cc,rc,c,T,fr,ys',o1,o2,o3,o4,o5,o6,pr,rest,o0,o7⟩:=hok
          obtain⟨rfl,rfl⟩:=b6 rc
          by_cases hfit:es.length+rows.length≤cap
          ·obtain⟨p1,p2⟩:=pre ha
           obtain⟨g1,nw,g2,g3⟩:=bE (P:=P) R rx hrows p1
           have hnl:nw.length=rows.length*sz':=by rw[←g3.length,ah p1]
           obtain⟨w',c',k1,k2,k3,k4,k5,k6⟩:=gY (P:=P) (ty:=ty) (T:=T) ht hux hdx hs g1 g2 (gw g3 p2) hnl hfit o1 o4 o2
           have hyl:ys'.length=es.length*sz':=by rw[←o6.length,ah o5]
           have hcz:c'.size=c.size:=by
            have hh:=congrArg G3 k5
            have hcl:c.toList.length=pr.length+ys'.length+rest.length:=by rw[o7];simp only[Hv]
            have h9:=Ir sz' hfit
            rw[IV] at h9
            simp only[aU,Hv,IR,Ih,IK] at hh hcl
            omega
           have:=R.step (w':=w') (l':=l) (h':=h.set b (.vec (es++rows) (e'+1) sz')) b (.vec (es++rows) (e'+1) sz') (by omega) k6
            (fun i hi=>bj _ _ hi) (aP hbk) (fun _ _=>rfl)
            (fun z hz=>by rw[hbk] at hz;cases hz;exact⟨⟨I5 _,fun hh=>absurd hh (by omega),rfl⟩,fun hh=>absurd hh (by simp[MC])⟩)
            (fun k hk hno=>k3 k (fun ee=>hno _ (mkP oo cap) hbk (by simp) (by rw[hlb,ee])))
            (fun k cc hk=>.inl ⟨_,cc,hbk,by simp,hk⟩)
            (fun E=>by
             simp only[BlkOk,hlb]
             refine⟨oo,cap,rfl,c',T,fr,ys'++nw,k4,by omega,by simpa using hfit,by rw[hcz];exact o4,?_,?_,pr,rest.drop nw.length,o0,?_⟩
             ·intro r hr
              rcases HN.1 hr with hr|hr
              ·exact o5 r hr
              ·exact p1 r hr
             ·rw[IH];exact(E.relL o6).append (E.relL g3)
             ·rw[k5,o7]
              unfold aU
              have e1:oo+es.length*sz'=(pr++ys').length:=by rw[Hv];omega
              rw[e1,List.take_left',Kz]
              ·simp
              ·rfl)
           refine⟨_,w',l,k1,this.1,this.2,?_⟩
           simp only[Rel,RefRel]
           refine⟨rfl,?_⟩
           rw[aP hbk]
           simp only[hlb,fg]
           exact⟨Hq _,fun _=>⟨_,_,rfl,by rw[Hv],by rw[Hv];exact hfit⟩⟩
          ·exact grow (some ⟨blk,oo,none⟩) cap rfl o5 (by omega)
       ·simp at hd
end
section
variable {P:Program} {Γ:ae} {O:Nat→Prop} {w:World} {l:Loc} {h:List Blk}
theorem ai{av:Nat→Prop}{x y:Value}(r:Rel w av l h (.p (.v x)) y):y=x:=by simpa[Rel,RelP] using r
theorem eqS_eq(a b:ByteArray):(a.toList==b.toList)=eqS a b:=by simp[eqS,Ms]
theorem gZ{op:BinOp}{k:IntKind}{a b n:Int}(hb:wz op k a b=some n)(w:World):(Op.intBits op k a b).run P w=.ok (.int k n) w:=by
 unfold wz at hb
 cases op<;>simp only[G0,reduceCtorEq] at hb<;>subst hb<;>rfl
theorem intOp_run{op:BinOp}{k:IntKind}{t:TypeId}{a b:Int}{d:D}(hd:intOp op k a b=some (true,d))(w:World):
  ∃v,(binOp op t (.int k a) (.int k b)).run P w=.ok v w∧Rel w (avs O l h) l h d v:=by
 cases op<;>simp only[intOp,G0,G4,true_and,Ha] at hd
 case quo =>
  obtain⟨h1,rfl⟩:=hd
  simp only[IB,decide_eq_false_iff_not] at h1
  exact⟨_,by simp[binOp,Op.intDiv,h1],rel_lit _ _ _ _ _⟩
 case rem =>
  obtain⟨h1,rfl⟩:=hd
  simp only[IB,decide_eq_false_iff_not] at h1
  exact⟨_,by simp[binOp,Op.intDiv,h1],rel_lit _ _ _ _ _⟩
 case add=>subst hd;exact⟨_,by simp[binOp,L9],rel_lit _ _ _ _ _⟩
 case sub=>subst hd;exact⟨_,by simp[binOp,L9],rel_lit _ _ _ _ _⟩
 case mul=>subst hd;exact⟨_,by simp[binOp,L9],rel_lit _ _ _ _ _⟩
 case eql=>subst hd;exact⟨_,by simp[binOp,Lu],rel_lit _ _ _ _ _⟩
 case neq=>subst hd;exact⟨_,by simp[binOp,Lu],rel_lit _ _ _ _ _⟩
 case lss=>subst hd;exact⟨_,by simp[binOp,Lu],rel_lit _ _ _ _ _⟩
 case leq=>subst hd;exact⟨_,by simp[binOp,Lu],rel_lit _ _ _ _ _⟩
 case gtr=>subst hd;exact⟨_,by simp[binOp,Lu],rel_lit _ _ _ _ _⟩
 case geq=>subst hd;exact⟨_,by simp[binOp,Lu],rel_lit _ _ _ _ _⟩
 case and=>obtain⟨n,h1,rfl⟩:=hd;exact⟨_,by simpa[binOp] using gZ h1 w,rel_lit _ _ _ _ _⟩
 case or=>obtain⟨n,h1,rfl⟩:=hd;exact⟨_,by simpa[binOp] using gZ h1 w,rel_lit _ _ _ _ _⟩
 case xor=>obtain⟨n,h1,rfl⟩:=hd;exact⟨_,by simpa[binOp] using gZ h1 w,rel_lit _ _ _ _ _⟩
 case andNot=>obtain⟨n,h1,rfl⟩:=hd;exact⟨_,by simpa[binOp] using gZ h1 w,rel_lit _ _ _ _ _⟩
 all_goals (obtain⟨n,h1,rfl⟩:=hd;simp[wz] at h1)
theorem wE{op:BinOp}{t:TypeId}{a b:ByteArray}{d:D}(hd:strOp op a b=some (true,d))(w:World):
  ∃v,(binOp op t (.string a) (.string b)).run P w=.ok v w∧Rel w (avs O l h) l h d v:=by
 cases op<;>simp only[strOp,G0,G4,true_and,reduceCtorEq] at hd
 case add =>
  obtain⟨h1,rfl⟩:=hd
  have h2:¬(((a.size+b.size:Nat):Int)>GY.max):=by
   have:GY.max=9223372036854775807:=rfl
   rw[this];simp only[decide_eq_true_eq] at h1;omega
  exact⟨_,by simp only[binOp,Op.stringOp,h2,if_false];rfl,rel_lit _ _ _ _ _⟩
 all_goals
  subst hd
  refine⟨_,by simp only[binOp,Op.stringOp,Ms];rfl,rel_lit _ _ _ _ _⟩
theorem u9{op:BinOp}{t:TypeId}{xo yo:Operand}{x y d:D}{a b:Value}(rx:Rel w (avs O l h) l h x a)(ry:Rel w (avs O l h) l h y b)(hd:binD op x y=some (true,d)):
  ∃v,(do eqGuard op t xo yo a b;binOp op t a b:Sem Value).run P w=.ok v w∧Rel w (avs O l h) l h d v:=by
 unfold binD at hd
 split at hd
 ·rename_i k n k' m
  obtain rfl:=ai rx
  obtain rfl:=ai ry
  have hg:(eqGuard op t xo yo (.int k n) (.int k' m)).run P w=.ok () w:=by
   unfold eqGuard
   cases op<;>simp
  simp only[Hp,hg,Hk]
  split at hd
  ·simp only[G0,G4,decide_eq_true_eq] at hd
   obtain⟨h1,rfl⟩:=hd
   exact⟨_,by simp[binOp,Op.shift,Ke.2 h1],rel_lit _ _ _ _ _⟩
  ·simp only[G0,G4,decide_eq_true_eq] at hd
   obtain⟨h1,rfl⟩:=hd
   exact⟨_,by simp[binOp,Op.shift,Ke.2 h1],rel_lit _ _ _ _ _⟩
  ·split at hd
   ·rename_i hk;subst hk;exact intOp_run hd w
   ·simp at hd
 ·rename_i s u
  obtain rfl:=ai rx
  obtain rfl:=ai ry
  have hg:(eqGuard op t xo yo (.string s) (.string u)).run P w=.ok () w:=by
   unfold eqGuard
   cases op<;>simp
  simp only[Hp,hg,Hk]
  exact wE hd w
 ·simp at hd
theorem wF{op:UnOp}{x d:D}{a:Value}(rx:Rel w (avs O l h) l h x a)(hd:unD op x=some d):∃v,(Nj op a).run P w=.ok v w∧Rel w (avs O l h) l h d v:=by
 unfold unD at hd
 split at hd
 ·obtain rfl:=ai rx
  split at hd
  ·cases hd;exact⟨_,by simp[Nj,L9],rel_lit _ _ _ _ _⟩
  ·simp only[Ha] at hd
   obtain⟨n,h1,rfl⟩:=hd
   exact⟨_,by simpa[Nj] using gZ h1 w,rel_lit _ _ _ _ _⟩
  ·simp at hd
 ·obtain rfl:=ai rx
  split at hd
  ·cases hd;exact⟨_,by simp[Nj],rel_lit _ _ _ _ _⟩
  ·simp at hd
 ·simp at hd
theorem rR{c x y d:D}{vc vx vy:Value}(rc:Rel w (avs O l h) l h c vc)(rx:Rel w (avs O l h) l h x vx)(ry:Rel w (avs O l h) l h y vy)(hd:pickD c x y=some (true,d)):
  ∃v,(do pure (.value (if ←asBool vc then vx else vy)):Sem Next).run P w=.ok (.value v) w∧Rel w (avs O l h) l h d v:=by
 unfold pickD at hd
 split at hd
 case h_2=>simp at hd
 rename_i b
 obtain rfl:=ai rc
 split at hd
 ·cases hd
  obtain rfl:=ai rx
  obtain rfl:=ai ry
  cases b
  ·exact⟨_,by simp[asBool],rel_lit _ _ _ _ _⟩
  ·exact⟨_,by simp[asBool],rel_lit _ _ _ _ _⟩
 ·simp only[G0,G4,JH] at hd
  obtain⟨hg,rfl⟩:=hd
  obtain rfl:=ai rx
  cases b
  ·simp only[Rel] at ry
   have:=ry.1 (by simpa using hg)
   simp only[RelP] at this
   subst this
   exact⟨_,by simp[asBool],rel_lit _ _ _ _ _⟩
  ·exact⟨_,by simp[asBool],rel_lit _ _ _ _ _⟩
 ·simp only[G0,G4,JH] at hd
  obtain⟨hg,rfl⟩:=hd
  obtain rfl:=ai ry
  cases b
  ·exact⟨_,by simp[asBool],rel_lit _ _ _ _ _⟩
  ·simp only[Rel] at rx
   have:=rx.1 (by simpa using hg)
   simp only[RelP] at this
   subst this
   exact⟨_,by simp[asBool],rel_lit _ _ _ _ _⟩
 ·cases hd
  cases b
  ·exact⟨_,by simp[asBool],ry⟩
  ·exact⟨_,by simp[asBool],rx⟩
theorem rS{src dst:TypeId}{x d:D}{a:Value}(rx:Rel w (avs O l h) l h x a)(hd:CI P src dst x=some d):
  ∃v,(convert src dst a).run P w=.ok v w∧Rel w (avs O l h) l h d v:=by
 unfold CI at hd
 split at hd
 ·rename_i s k n h1 h2
  cases hd
  obtain rfl:=ai rx
  refine⟨_,?_,rel_lit _ _ _ _ _⟩
  simp only[convert,Hp,und_run h1,und_run h2,Hk,Conv.intToInt,HH]
 ·rename_i s n h1 h2
  cases hd
  obtain rfl:=ai rx
  refine⟨_,?_,rel_lit _ _ _ _ _⟩
  simp only[convert,Hp,und_run h1,und_run h2,Hk]
  cases s<;>simp
 ·simp at hd
theorem ez{mx:Bool}{t:TypeId}{ts:Array TypeId}:∀{xs:List D} {x d:D} {a:Value} {vs:List Value} (_:Rel w (avs O l h) l h x a) (_:RelL w (avs O l h) l h xs vs) (_:jc mx x xs=some d),
  ∃v,(vs.foldlM (if mx then Builtin.max2 else Builtin.min2) a).run P w=.ok v w∧Rel w (avs O l h) l h d v
 | [],x,d,a,[],rx,_,hd=>by simp only[jc,G0] at hd;subst hd;exact⟨a,by simp,rx⟩
 | y::xs,x,d,a,v::vs,rx,rl,hd=>by
  simp only[RelL] at rl
  simp only[jc] at hd
  cases h1:intOf? x with
  | none=>simp[h1] at hd
  | some p1 =>
   cases h2:intOf? y with
   | none=>simp[h1,h2] at hd
   | some p2 =>
    obtain⟨k,n⟩:=p1
    obtain⟨k2,m⟩:=p2
    simp only[h1,h2] at hd
    obtain rfl:=a6 rx h1
    obtain rfl:=a6 rl.1 h2
    obtain⟨v,h3,h4⟩:=ez (t:=t) (ts:=ts) (a:=.int k (if mx then (if m>n then m else n) else (if m<n then m else n))) (rel_lit _ _ _ _ _) rl.2 hd
    refine⟨v,?_,h4⟩
    rw[List.foldlM_cons,Hp]
    cases mx<;>simpa[Builtin.max2,Builtin.min2] using h3
 | [],_,_,_,_::_,_,rl,_=>by simp[RelL] at rl
 | _::_,_,_,_,[],_,rl,_=>by simp[RelL] at rl
theorem vd{x:D}{y:Value}{n:Nat}(rx:Rel w (avs O l h) l h x y)(hx:lenD h x=some n):∃a c,y=.slice a n c:=by
 cases x with
 | p dp =>
  cases dp with
  | v x =>
   obtain rfl:=ai rx
   cases y<;>simp[lenD] at hx
   case slice a m c=>cases a<;>cases m<;>cases c<;>simp at hx;subst hx;exact⟨_,_,rfl⟩
  | sl es =>
   simp only[lenD,G0] at hx
   subst hx
   simp only[Rel,RelP] at rx
   rcases rx with ⟨rfl,_,_,rfl,_⟩|⟨blk,off,cap,sz,rfl,_,rr⟩<;>exact⟨_,_,rfl⟩
 | csl es =>
  simp only[lenD,G0] at hx
  subst hx
  simp only[Rel] at rx
  rcases rx with ⟨rfl,_,rfl⟩|⟨blk,off,sz,rfl,rr⟩<;>exact⟨_,_,rfl⟩
 | ref r =>
  obtain⟨g1,hr⟩:=rx
  cases r with
  | vec b e =>
   simp only[lenD] at hx hr
   cases hb:h[b]? with
   | none=>simp[hb] at hx
   | some bx =>
    cases bx<;>simp only[hb,reduceCtorEq] at hx hr
    split at hx
    case isFalse=>simp at hx
    rename_i he
    cases hx
    have hv:=hr.2 he.symm
    cases hlb:l b with
    | none=>simp only[hlb,fg] at hv;rw[hv.1,hv.2];exact⟨_,_,rfl⟩
    | some pr=>obtain⟨blk,cap⟩:=pr;simp only[hlb,fg] at hv;obtain⟨_,_,_,rfl,_⟩:=hv;exact⟨_,_,rfl⟩
  | vs b e i m c =>
   simp only[lenD] at hx hr
   cases hb:h[b]? with
   | none=>simp[hb] at hx
   | some bx =>
    cases bx<;>simp only[hb,reduceCtorEq] at hx hr
    split at hx
    case isFalse=>simp at hx
    rename_i he
    cases hx
    obtain⟨_,blk,oo,cap,c2,_,hy,_⟩:=hr.2 he.symm
    rcases hy with rfl|⟨_,rfl,_⟩<;>exact⟨_,_,rfl⟩
  | av b off m sz =>
   simp only[lenD] at hx hr
   cases hb:h[b]? with
   | none=>simp[hb] at hx
   | some bx =>
    cases bx<;>simp only[hb,reduceCtorEq] at hx hr
    cases hx
    obtain⟨blk,cp,c2,_,rfl,_⟩:=hr
    exact⟨_,_,rfl⟩
  | _=>simp[lenD] at hx
 | _=>simp[lenD] at hx
theorem fj:∀(kvs:List (D×D×Nat)) (es:List MapEntry),RelKV w (avs O l h) l h kvs es→kvs.length=es.length
 | [],[],_=>rfl
 | (_,_,_)::kvs,e::es,r=>by simp only[RelKV] at r;simp[fj kvs es r.2.2.2]
 | [],_::_,r=>by simp[RelKV] at r
 | _::_,[],r=>by simp[RelKV] at r
theorem rT(R:Rep Γ O w l h){t ty:TypeId}{ts:List TypeId}{x d:D}{y:Value}(rx:Rel w (avs O l h) l h x y)(hd:jb P h t x=some d):
  ∃v,(Km (t::ts).toArray ty #[y]).run P w=.ok v w∧Rel w (avs O l h) l h d v:=by
 unfold jb at hd
 cases hu:P.underlying t with
 | none=>simp[hu] at hd
 | some u =>
  cases u<;>simp only[hu,reduceCtorEq,Ha,G0] at hd
  case array n e=>subst hd;exact⟨_,by simp[Km,und_run hu,goInt],rel_lit _ _ _ _ _⟩
  case string =>
   split at hd
   ·cases hd
    obtain rfl:=ai rx
    exact⟨_,by simp[Km,und_run hu,goInt],rel_lit _ _ _ _ _⟩
   ·simp at hd
  case slice e =>
   obtain⟨n,h1,rfl⟩:=hd
   obtain⟨a,c,rfl⟩:=vd rx h1
   exact⟨_,by simp[Km,und_run hu,goInt],rel_lit _ _ _ _ _⟩
  case map kt et =>
   split at hd
   ·cases hd
    obtain rfl:=ai rx
    exact⟨_,by simp[Km,und_run hu,goInt],rel_lit _ _ _ _ _⟩
   ·rename_i b
    cases hb:h[b]? with
    | none=>simp[hb] at hd
    | some bx =>
     obtain⟨_,hr⟩:=rx
     cases bx<;>simp only[hb,reduceCtorEq,G0] at hd hr
     subst hd
     obtain⟨blk,cp,hlb,rfl⟩:=hr
     obtain⟨blk',cp',es,h1,h2,h3⟩:=R.blk b _ hb
     obtain⟨rfl,rfl⟩:blk=blk'∧cp=cp':=by simpa[hlb] using h1
     refine⟨_,?_,rel_lit _ _ _ _ _⟩
     simp[Km,und_run hu,getObj,Sem.run,h2,goInt,fj _ _ h3]
   ·simp at hd
end
section
variable {P:Program} {Γ:ae} {O:Nat→Prop} {w:World} {l:Loc} {h:List Blk}
theorem kY:∀(vs:List Value) (k off:Nat) (cs:Array Value),off+k+vs.length≤cs.size →
  ((vs.zipIdx k).foldl (fun cs (p:Value×Nat)=>cs.setIfInBounds (off+p.2) p.1) cs).toList=aU cs.toList (off+k) vs
 | [],k,off,cs,_=>by simp[aU]
 | v::vs,k,off,cs,hl=>by
  simp only[HZ] at hl
  simp only[List.zipIdx_cons,List.foldl_cons]
  rw[kY vs (k+1) off (cs.setIfInBounds (off+k) v) (by simp;omega)]
  simp only[aU,Array.toList_setIfInBounds,HZ]
  have hlt:off+k<cs.toList.length:=by simp;omega
  rw[List.drop_set,if_pos (by omega)]
  have h8:(cs.toList.set (off+k) v).take (off+(k+1))=cs.toList.take (off+k)++[v]:=by
   rw[show off+(k+1)=(off+k)+1 by omega,List.take_succ_eq_append_getElem (by simpa using hlt),List.take_set,List.set_eq_of_length_le (by simp;omega)]
   simp
  rw[h8,show off+(k+1)+vs.length=off+k+(vs.length+1) by omega]
  simp
theorem qc(vs:Array Value)(off:Nat)(cs:Array Value)(hl:off+vs.size≤cs.size):
  (vs.zipIdx.foldl (fun cs (p:Value×Nat)=>cs.setIfInBounds (off+p.2) p.1) cs).toList=aU cs.toList off vs.toList:=by
 have:=kY vs.toList 0 off cs (by simpa using hl)
 rw[←Array.foldl_toList,Array.toList_zipIdx]
 simpa using this
theorem fQ{place:Nat→Option (Nat×Nat)}:∀{ps:List (Nat×D)} {qs:List (Nat×Value)} {cs cs':List D} {vs:Array Value},ps.length=qs.length →
  (∀(j:Nat) (p:Nat×D) (q:Nat×Value),ps[j]? = some p→qs[j]? = some q→p.1=q.1∧Rel w (avs O l h) l h p.2 q.2)→RelL w (avs O l h) l h cs vs.toList→pQ place cs ps=some cs' →
  ∃vs',Instr.fill place vs qs=some vs'∧RelL w (avs O l h) l h cs' vs'.toList∧vs'.size=vs.size
 | [],[],cs,cs',vs,_,_,r,hd=>by simp only[pQ,G0] at hd;subst hd;exact⟨vs,rfl,r,rfl⟩
 | p::ps,q::qs,cs,cs',vs,hl,hp,r,hd=>by
  obtain⟨i,d⟩:=p
  obtain⟨i',y⟩:=q
  obtain⟨rfl,rd⟩:=hp 0 (i,d) (i',y) (by simp) (by simp)
  simp only[pQ] at hd
  cases hpl:place i with
  | none=>simp[hpl] at hd
  | some os =>
   obtain⟨off,size⟩:=os
   cases hc:d.cells with
   | none=>simp[hpl,hc] at hd
   | some new =>
    simp only[hpl,hc] at hd
    split at hd
    case isFalse=>simp at hd
    rename_i hcond
    obtain⟨g1,g2⟩:=hcond
    obtain⟨c1,c2⟩:=de rd hc
    have hys:y.cells.size=size:=by rw[←g1,c1.length];simp
    have hcl:=r.length
    have hvs:vs.toList.length=vs.size:=by simp
    have hsp:=qc y.cells off vs (by omega)
    have rsp:RelL w (avs O l h) l h (aF cs off new) (y.cells.zipIdx.foldl (fun cs (p:Value×Nat)=>cs.setIfInBounds (off+p.2) p.1) vs).toList:=by
     rw[hsp];exact r.splice off c1
    obtain⟨vs',f1,f2,f3⟩:=fQ (ps:=ps) (qs:=qs) (by simpa using hl) (fun j p q h1 h2=>hp (j+1) p q (by simpa using h1) (by simpa using h2)) rsp hd
    refine⟨vs',?_,f2,?_⟩
    ·simp only[Instr.fill,hpl]
     rw[if_neg]
     ·exact f1
     ·simp[hys];omega
    ·rw[f3]
     have:=congrArg G3 hsp
     simp only[aU,Hv,IR,Ih,IK] at this
     omega
 | [],_::_,_,_,_,hl,_,_,_=>by simp at hl
 | _::_,[],_,_,_,hl,_,_,_=>by simp at hl
theorem ve{fields:List Field}{pl:List (Nat×Nat)}(hp:fields.mapM (fun f=>(szOf P f.type).map fun n=>(f.offset,n))=some pl)(w:World):
  (fields.mapM (fun f=>(do pure (f.offset,←sizeOf f.type):Sem (Nat×Nat)))).run P w=.ok pl w:=by
 induction fields generalizing pl with
 | nil=>simp at hp;subst hp;simp
 | cons f fs ih =>
  simp only[MO,Option.bind_eq_bind,Option.bind_eq_some_iff,Ha,Option.pure_def,G0] at hp
  obtain⟨p,⟨n,h1,rfl⟩,pl',h2,rfl⟩:=hp
  have:=ih h2
  simp only[MO,Hp,szOf_run h1,Hk,HH] at this ⊢
  rw[this]
  simp
theorem qd{t:TypeId}{ps:List (Nat×D)}{qs:List (Nat×Value)}{d:D}(hl:ps.length=qs.length)
  (hp:∀(j:Nat) (p:Nat×D) (q:Nat×Value),ps[j]? = some p→qs[j]? = some q→p.1=q.1∧Rel w (avs O l h) l h p.2 q.2) (hd:wy P t ps=some d) :
  ∃v,(MP t qs.toArray).run P w=.ok v w∧Rel w (avs O l h) l h d v:=by
 unfold wy at hd
 cases hu:P.underlying t with
 | none=>simp[hu] at hd
 | some u =>
  cases hz:cP P t with
  | none=>cases u<;>simp[hu,hz] at hd
  | some z =>
   obtain⟨zv,hzv,rfl⟩:=cy hz
   cases u<;>simp only[hu,hz,reduceCtorEq] at hd
   case struct fields =>
    cases hpl:sX P fields with
    | none=>simp[hpl] at hd
    | some pl =>
     simp only[hpl,Ha] at hd
     obtain⟨cs,h1,rfl⟩:=hd
     obtain⟨vs',f1,f2,_⟩:=fQ hl hp (RelL.lits zv.cells.toList) h1
     refine⟨.agg vs',?_,by simp only[Rel];exact⟨_,rfl,f2⟩⟩
     have hm:(fields.mapM (fun f=>(do pure (f.offset,←sizeOf f.type):Sem (Nat×Nat)))).run P w=.ok pl.toArray w:=by
      rw[←Array.toArray_toList (xs:=fields)]
      rw[List.mapM_toArray]
      simp only[Sem.run_map,ve hpl w,Hk]
     simp only[MP,Hp,zeroV_run hzv,Hk,und_run hu,hm]
     have:(fun (i:Nat)=>pl.toArray[i]?)=(fun (i:Nat)=>pl[i]?):=by funext i;simp
     rw[this,f1]
     simp
   case array n e =>
    cases hs:szOf P e with
    | none=>simp[hs] at hd
    | some sz =>
     simp only[hs,Ha] at hd
     obtain⟨cs,h1,rfl⟩:=hd
     obtain⟨vs',f1,f2,_⟩:=fQ hl hp (RelL.lits zv.cells.toList) h1
     refine⟨.agg vs',?_,by simp only[Rel];exact⟨_,rfl,f2⟩⟩
     simp only[MP,Hp,zeroV_run hzv,Hk,und_run hu,szOf_run hs,f1,HH]
theorem dY{z:Array Value}{sz:Nat}(hz:z.size=sz):∀n,(List.range (n*sz)).map (fun i=>z[i % z.size]!)=(HA n z.toList).flatten
 | 0=>by simp
 | n+1=>by
  rw[Nat.succ_mul,List.range_add,List.map_append,dY hz n,List.replicate_succ',IH]
  congr 1
  rw[List.map_map]
  apply List.ext_getElem
  ·simp[hz]
  ·intro i h1 h2
   simp only[HW,List.length_range] at h1
   have:(n*sz+i) % sz=i:=by rw[Nat.add_comm,Nat.add_mul_mod_self_right,Nat.mod_eq_of_lt h1]
   simp[hz,this,h1]
theorem relL_rep{z:List Value}:∀n,RelL w (avs O l h) l h (HA n (z.map lit)).flatten (HA n z).flatten
 | 0=>by simp[RelL]
 | n+1=>by simp only[List.replicate_succ,Ic];exact(RelL.lits z).append (relL_rep n)
theorem bk{t e:TypeId}(hte:cn P t=some e):P.underlying t=some (.slice e):=by
 unfold cn at hte
 cases hu:P.underlying t with
 | none=>simp[hu] at hte
 | some u=>cases u<;>simp_all
theorem je(R:Rep Γ O w l h){t:TypeId}{len:Nat}{ps:List (Nat×D)}{qs:List (Nat×Value)}{d:D}{h':List Blk}(hl:ps.length=qs.length)
  (hp:∀(j:Nat) (p:Nat×D) (q:Nat×Value),ps[j]? = some p→qs[j]? = some q→p.1=q.1∧Rel w (avs O l h) l h p.2 q.2) (hd:dg P h t len ps=some (d,h')) :
  ∃v w' l',(LF t len qs.toArray).run P w=.ok v w'∧Rep Γ O w' l' h'∧Ext w l h w' l' h'∧Rel w' (avs O l' h') l' h' d v:=by
 unfold dg at hd
 cases hte:cn P t with
 | none=>simp[hte] at hd
 | some e =>
  have ht:=bk hte
  cases hs:szOf P e with
  | none=>simp[hte,hs] at hd
  | some sz =>
   cases hz:cP P e with
   | none=>simp[hte,hs,hz] at hd
   | some z =>
    obtain⟨zv,hzv,rfl⟩:=cy hz
    simp only[hte,hs,hz] at hd
    split at hd
    case isFalse=>simp at hd
    rename_i hc
    obtain⟨g1,g2⟩:=hc
    have hzs:zv.cells.size=sz:=by simpa using g1
    cases hf:pQ (fun i=>some (i*sz,sz)) (HA len (zv.cells.toList.map lit)).flatten ps with
    | none=>simp[hf] at hd
    | some cs =>
     simp only[hf,G0,G4] at hd
     obtain⟨rfl,rfl⟩:=hd
     have hrep:RelL w (avs O l h) l h (HA len (zv.cells.toList.map lit)).flatten ((Jy (len*sz)).map (fun i=>zv.cells[i % zv.cells.size]!)).toList:=by
      rw[Kn,Kt,dY hzs];exact relL_rep len
     obtain⟨vs',f1,f2,f3⟩:=fQ hl hp hrep hf
     have hvs:vs'.size=len*sz:=by rw[f3];simp
     have hcl:cs.length=len*sz:=by rw[f2.length];simp[hvs]
     obtain⟨c1,c2,c3⟩:=gW (n:=sz) len cs (by rw[hcl,Nat.mul_comm];exact Hq _)
     rw[H3 (by rw[hcl,Nat.mul_comm];exact Hq _)] at c1
     obtain⟨l',k7,k8,k9⟩:=dX R w ⟨rfl,rfl,rfl,rfl,Hq _⟩ e vs' (chunk sz len cs) sz len vs'.toList [] (by simp) hvs (by omega) c2 (by rw[c1];exact f2)
     refine⟨.slice (some ⟨w.heap.size,0,none⟩) len len,_,l',?_,k7,k8,by rw[c3] at k9;exact k9⟩
     have hbig:¬(len*sz>2 ^ 24):=by omega
     by_cases h0:len*sz=0
     ·have e0:(Jy (len*sz)).map (fun i=>zv.cells[i % zv.cells.size]!)=(Jy (len*sz)).map (fun i=>(#[]:Array Value)[i % 0]!):=by rw[h0];simp
      rw[e0] at f1
      simp only[LF,Hp,und_run ht,Hk,szOf_run hs,Lj,h0,if_true,HH] at f1 ⊢
      simp only[L8,List.length_nil,f1,newRow,Hp,run_newObj,Hk,HH,L7]
      rw[if_neg (by omega)]
     ·simp only[LF,Hp,und_run ht,Hk,szOf_run hs,Lj,hbig,if_false,h0,zeroV_run hzv,HH,f1,newRow,run_newObj,L7]
theorem rU(R:Rep Γ O w l h){t:TypeId}{x y d:D}{a b:Value}{h':List Blk}(rx:Rel w (avs O l h) l h x a)(ry:Rel w (avs O l h) l h y b)(hd:u5 P h t x y=some (true,d,h')):
  ∃v w' l',(JT t a b).run P w=.ok v w'∧Rep Γ O w' l' h'∧Ext w l h w' l' h'∧Rel w' (avs O l' h') l' h' d v:=by
 unfold u5 at hd
 cases hte:cn P t with
 | none=>simp[hte] at hd
 | some e =>
  have ht:=bk hte
  cases h1:intOf? x with
  | none=>simp[hte,h1] at hd
  | some p1 =>
   cases h2:intOf? y with
   | none=>simp[hte,h1,h2] at hd
   | some p2 =>
    obtain⟨k1,n⟩:=p1
    obtain⟨k2,c⟩:=p2
    obtain rfl:=a6 rx h1
    obtain rfl:=a6 ry h2
    simp only[hte,h1,h2] at hd
    cases hs:szOf P e with
    | none=>simp[hs] at hd
    | some sz =>
     cases hb:bytesOf P e with
     | none=>simp[hs,hb] at hd
     | some by' =>
      cases hz:cP P e with
      | none=>simp[hs,hb,hz] at hd
      | some z =>
       obtain⟨zv,hzv,rfl⟩:=cy hz
       simp only[hs,hb,hz] at hd
       split at hd
       case isFalse=>simp at hd
       rename_i g1
       have hzs:zv.cells.size=sz:=by simpa using g1
       simp only[G0,G4,G6,decide_eq_true_eq] at hd
       obtain⟨⟨⟨⟨q1,q2⟩,q3⟩,q4⟩,rfl,rfl⟩:=hd
       obtain⟨i,hi,hib⟩:=ex hb
       have hwn:GY.wrap n=n:=K5 _ (by omega)
       have hwc:GY.wrap c=c:=K5 _ (by omega)
       obtain⟨l',k7,k8,k9⟩:=dX R w ⟨rfl,rfl,rfl,rfl,Hq _⟩ e ((Jy (c.toNat*sz)).map (fun i=>zv.cells[i % zv.cells.size]!)) (HA n.toNat (zv.cells.toList.map lit)) sz c.toNat
        (HA n.toNat zv.cells.toList).flatten (HA (c.toNat - n.toNat) zv.cells.toList).flatten
        (by rw[Kn,Kt,dY hzs,←IH,List.replicate_append_replicate];congr 2;omega) (by simp) (by simp;omega)
        (by intro r hr;rw[JU hr];simp[hzs]) (relL_rep _)
       refine⟨.slice (some ⟨w.heap.size,0,none⟩) n.toNat c.toNat,_,l',?_,k7,k8,by simpa using k9⟩
       have hti:(typeInfo e).run P w=.ok i w:=by simp[typeInfo,hi]
       have t1:¬(c<0∨281474976710656<(i.bytes:Int)*c):=by
        rw[hib];rw[Int.mul_comm] at q3;omega
       have e0:c.toNat*sz=0→(Jy (c.toNat*sz)).map (fun i=>zv.cells[i % zv.cells.size]!)=(Jy (c.toNat*sz)).map (fun i=>(#[]:Array Value)[i % 0]!):=fun h0=>by rw[h0];simp
       by_cases h0:c.toNat*sz=0
       ·rw[e0 h0]
        simp[JT,und_run ht,asInt,asIntOf,hti,hwn,hwc,q1,Ke.2 q1,Ke.2 q2,szOf_run hs,h0,newRow]
        exact fun hh=>absurd hh t1
       ·simp[JT,und_run ht,asInt,asIntOf,hti,hwn,hwc,q1,Ke.2 q1,Ke.2 q2,szOf_run hs,h0,newRow,zeroV_run hzv]
        exact fun hh=>absurd hh t1
theorem mM(R:Rep Γ O w l h){t:TypeId}{x y d:D}{a b:Value}{h':List Blk}(rx:Rel w (avs O l h) l h x a)(ry:Rel w (avs O l h) l h y b)(hd:eo P h t x y=some (true,d,h')):
  ∃v w' l',(JT t a b).run P w=.ok v w'∧Rep Γ O w' l' h'∧Ext w l h w' l' h'∧Rel w' (avs O l' h') l' h' d v:=by
 unfold eo at hd
 cases hte:cn P t with
 | none=>simp[hte] at hd
 | some e =>
  have ht:=bk hte
  cases h1:intOf? x with
  | none=>simp[hte,h1] at hd
  | some p1 =>
   cases h2:intOf? y with
   | none=>simp[hte,h1,h2] at hd
   | some p2 =>
    obtain⟨k1,n⟩:=p1
    obtain⟨k2,c⟩:=p2
    obtain rfl:=a6 rx h1
    obtain rfl:=a6 ry h2
    simp only[hte,h1,h2] at hd
    cases hs:szOf P e with
    | none=>simp[hs] at hd
    | some sz =>
     cases hb:bytesOf P e with
     | none=>simp[hs,hb] at hd
     | some by' =>
      cases hz:cP P e with
      | none=>simp[hs,hb,hz] at hd
      | some z =>
       obtain⟨zv,hzv,rfl⟩:=cy hz
       simp only[hs,hb,hz] at hd
       split at hd
       case isFalse=>simp at hd
       rename_i g1
       have hzs:zv.cells.size=sz:=by simpa using g1
       simp only[G0,G4,G6,decide_eq_true_eq] at hd
       obtain⟨⟨⟨⟨q0,q2⟩,q3⟩,q4⟩,rfl,rfl⟩:=hd
       have q1:0≤n:=by omega
       obtain⟨i,hi,hib⟩:=ex hb
       have hwn:GY.wrap n=n:=K5 _ (by omega)
       have hwc:GY.wrap c=c:=K5 _ (by omega)
       obtain⟨l',k7,k8,k9⟩:=dX R w ⟨rfl,rfl,rfl,rfl,Hq _⟩ e ((Jy (c.toNat*sz)).map (fun i=>zv.cells[i % zv.cells.size]!)) (HA c.toNat (zv.cells.toList.map lit)) sz c.toNat
        (HA c.toNat zv.cells.toList).flatten []
        (by rw[Kn,Kt,dY hzs];simp) (by simp) (by simp)
        (by intro r hr;rw[JU hr];simp[hzs]) (relL_rep _)
       have k10:Rel (w.alloc (.cells ((Jy (c.toNat*sz)).map (fun i=>zv.cells[i % zv.cells.size]!)) e)) (avs O l' (h++[.vec (HA c.toNat (zv.cells.toList.map lit)) 0 sz])) l' (h++[.vec (HA c.toNat (zv.cells.toList.map lit)) 0 sz]) (.ref (.vs h.length 0 0 n.toNat (some c.toNat))) (.slice (some ⟨w.heap.size,0,none⟩) n.toNat c.toNat):=by
        obtain⟨g1,g2⟩:=k9
        have hat:(h++[Blk.vec (HA c.toNat (zv.cells.toList.map lit)) 0 sz])[h.length]? = some (Blk.vec (HA c.toNat (zv.cells.toList.map lit)) 0 sz):=by simp
        refine⟨rfl,?_⟩
        simp only[hat] at g2 ⊢
        have hv:=g2.2 trivial
        refine⟨Hq _,fun _=>⟨by simp;omega,?_⟩⟩
        cases hlo:l' h.length with
        | none =>
         simp only[hlo,fg,MQ] at hv
         omega
        | some pr =>
         obtain⟨blk,cp⟩:=pr
         simp only[hlo,fg] at hv
         obtain⟨o,cap,rfl,hv,hle⟩:=hv
         simp only[K8,G0,Addr.mk.injEq] at hv
         obtain⟨⟨rfl,rfl, -⟩, -,rfl⟩:=hv
         refine⟨_,_,_,c.toNat,rfl,.inl (by simp),by omega,by omega,fun k hk=>by cases hk;rfl⟩
       refine⟨.slice (some ⟨w.heap.size,0,none⟩) n.toNat c.toNat,_,l',?_,k7,k8,k10⟩
       have hti:(typeInfo e).run P w=.ok i w:=by simp[typeInfo,hi]
       have t1:¬(c<0∨281474976710656<(i.bytes:Int)*c):=by
        rw[hib];rw[Int.mul_comm] at q3;omega
       have e0:c.toNat*sz=0→(Jy (c.toNat*sz)).map (fun i=>zv.cells[i % zv.cells.size]!)=(Jy (c.toNat*sz)).map (fun i=>(#[]:Array Value)[i % 0]!):=fun h0=>by rw[h0];simp
       by_cases h0:c.toNat*sz=0
       ·rw[e0 h0]
        simp[JT,und_run ht,asInt,asIntOf,hti,hwn,hwc,q1,(show ¬n<0 by omega),Ke.2 q2,szOf_run hs,h0,newRow]
        exact fun hh=>absurd hh t1
       ·simp[JT,und_run ht,asInt,asIntOf,hti,hwn,hwc,q1,(show ¬n<0 by omega),Ke.2 q2,szOf_run hs,h0,newRow,zeroV_run hzv]
        exact fun hh=>absurd hh t1
end
def mN(h:List Blk):D→Option (Nat×Nat×List (List D)×Nat×Nat×Nat)
 | .ref (.vec b e)=>match h[b]? with
  | some (.vec es e' sz)=>if e=e' then some (b,e,es,sz,0,es.length) else none
  | _=>none
 | .ref (.vs b e i n _)=>match h[b]? with
  | some (.vec es e' sz)=>if e=e' then some (b,e,es,sz,i,n) else none
  | _=>none
 | _=>none
def rV:D→Bool
 | .p (.sl _) | .csl _ | .ref (.vec _ _) | .ref (.vs ..)=>true
 | _=>false
def zL(P:Program)(h:List Blk)(t:TypeId)(x s:D):Option (Bool×D×List Blk) :=
 match cn P t with
 | some e=>match szOf P e,rowsD h s,mN h x with
  | some sz,some rows,some (b,e',es,sz',i,n) =>
   let m:=min rows.length n
   if sz'=sz∧rV s=true then some (rows.all (rowOk sz),lit (.int .i64 m),if m=0 then h else h.set b (.vec (es.take i++(rows.take m++es.drop (i+m))) e' sz)) else none
  | _,_,_=>none
 | none=>none
section
variable {P:Program} {Γ:ae} {O:Nat→Prop} {w:World} {l:Loc} {h:List Blk}
theorem CellsAt.take{av:Nat→Prop}{blk off:Nat}{cs:List D}(c:CellsAt w av l h blk off cs)(n:Nat):CellsAt w av l h blk off (cs.take n):=by
 intro i d hd
 rw[List.getElem?_take] at hd
 split at hd
 ·exact c i d hd
 ·simp at hd
theorem kZ(R:Rep Γ O w l h){x:D}{y:Value}{rows:List (List D)}{_size:Nat}(rx:Rel w (avs O l h) l h x y)(hx:rowsD h x=some rows)(hk:rV x=true):
  (∃a c,y=.slice a rows.length c)∧(rows=[]∨∃blk off n c,y=.slice (some ⟨blk,off,none⟩) n c∧CellsAt w (avs O l h) l h blk off rows.flatten):=by
 cases x with
 | p dp =>
  cases dp with
  | v x=>simp[rV] at hk
  | sl es =>
   simp only[rowsD,G0] at hx
   subst hx
   simp only[Rel,RelP] at rx
   rcases rx with ⟨rfl,a,cap,rfl,_⟩|⟨blk,off,cap,sz,rfl,_,rr⟩
   ·exact⟨⟨_,_,rfl⟩,.inl rfl⟩
   ·exact⟨⟨_,_,by rw[HW]⟩,.inr ⟨blk,off,_,_,rfl,CellsAt.mapP rr⟩⟩
 | csl es =>
  simp only[rowsD,G0] at hx
  subst hx
  simp only[Rel] at rx
  rcases rx with ⟨rfl,a,rfl⟩|⟨blk,off,sz,rfl,rr⟩
  ·exact⟨⟨_,_,rfl⟩,.inl rfl⟩
  ·exact⟨⟨_,_,by rw[HW]⟩,.inr ⟨blk,off,_,_,rfl,CellsAt.mapP rr⟩⟩
 | ref r =>
  obtain⟨g1,hrr⟩:=rx
  cases r with
  | vec b e =>
   simp only[rowsD] at hx hrr
   cases hb:h[b]? with
   | none=>simp[hb] at hx
   | some bx =>
    cases bx<;>simp only[hb,reduceCtorEq] at hx hrr
    rename_i es e' sz
    split at hx
    case isFalse=>simp at hx
    rename_i he
    cases hx
    have hv:=hrr.2 he.symm
    have hbk:=R.blk b _ hb
    cases hlb:l b with
    | none =>
     simp only[hlb,fg,BlkOk] at hv hbk
     obtain⟨_,rfl⟩:=hv
     subst hbk
     exact⟨⟨_,_,rfl⟩,.inl rfl⟩
    | some pr =>
     obtain⟨blk,cap⟩:=pr
     simp only[hlb,fg,BlkOk] at hv hbk
     obtain⟨oo,cc,rfl,rfl,_⟩:=hv
     obtain⟨o2,c2,rc,c,T,fr,ys,q1,q2,q3,q4,q5,q6,pre,rest,q0,q7⟩:=hbk
     obtain⟨rfl,rfl⟩:=b6 rc
     exact⟨⟨_,_,rfl⟩,.inr ⟨blk,oo,_,_,rfl,Nk q1 q0 q7 q6⟩⟩
  | vs b e i n clip =>
   simp only[rowsD] at hx hrr
   cases hb:h[b]? with
   | none=>simp[hb] at hx
   | some bx =>
    cases bx<;>simp only[hb,reduceCtorEq] at hx hrr
    rename_i es e' sz
    split at hx
    case isFalse=>simp at hx
    rename_i he
    cases hx
    obtain⟨hin,blk,oo,cap,c2,hlb,hy,hnc,_⟩:=hrr.2 he.symm
    have hbk:=R.blk b _ hb
    simp only[hlb,BlkOk] at hbk
    obtain⟨o2,cc,rc,c,T,fr,ys,q1,q2,q3,q4,q5,q6,pre,rest,q0,q7⟩:=hbk
    obtain⟨rfl,rfl⟩:=b6 rc
    have hlen:((es.drop i).take n).length=n:=by simp;omega
    rcases hy with rfl|⟨a0,rfl,rfl⟩
    case inr =>
     obtain rfl:n=0:=by omega
     exact⟨⟨_,_,by rw[hlen]⟩,.inl (by simp)⟩
    have hca:CellsAt w (avs O l h) l h blk (oo+i*sz) ((es.drop i).take n).flatten:=by
     rw[ax q5 i n hin]
     have:=(Nk q1 q0 q7 q6).drop (i*sz)
     exact this.take _
    exact⟨⟨_,_,by rw[hlen]⟩,.inr ⟨blk,oo+i*sz,_,_,rfl,hca⟩⟩
  | _=>simp[rV] at hk
 | _=>simp[rV] at hk
theorem rW(R:Rep Γ O w l h){t tx ty:TypeId}{ts:List TypeId}{x s d:D}{yx ys:Value}{h':List Blk}(rx:Rel w (avs O l h) l h x yx)(rs:Rel w (avs O l h) l h s ys)
  (hd:zL P h t x s=some (true,d,h')) :
  ∃v w' l',(KD (t::tx::ts).toArray ty #[yx,ys]).run P w=.ok v w'∧Rep Γ O w' l' h'∧Ext w l h w' l' h'∧Rel w' (avs O l' h') l' h' d v:=by
 unfold zL at hd
 cases hte:cn P t with
 | none=>simp[hte] at hd
 | some e =>
  cases hsz:szOf P e with
  | none=>simp[hte,hsz] at hd
  | some sz =>
  cases hrw:rowsD h s with
  | none=>simp[hte,hsz,hrw] at hd
  | some rows =>
  cases hds:mN h x with
  | none=>simp[hte,hsz,hrw,hds] at hd
  | some q =>
   obtain⟨b,e',es,sz',i,n⟩:=q
   simp only[hte,hsz,hrw,hds] at hd
   split at hd
   case isFalse=>simp at hd
   rename_i hc
   obtain⟨rfl,hsrc⟩:=hc
   simp only[G0,G4] at hd
   obtain⟨hall,rfl,rfl⟩:=hd
   have ht:P.underlying t=some (.slice e):=bk hte
   have hb:h[b]? = some (.vec es e' sz'):=by
    unfold mN at hds
    split at hds
    ·split at hds
     ·split at hds
      ·rename_i h1 h2;cases hds;subst h2;exact h1
      ·simp at hds
     ·simp at hds
    ·split at hds
     ·split at hds
      ·rename_i h1 h2;cases hds;subst h2;exact h1
      ·simp at hds
     ·simp at hds
    ·simp at hds
   have hdst:∃base c,yx=.slice base n c∧(0<n→i+n≤es.length∧∃blk oo cap,l b=some (blk,mkP oo cap)∧base=some ⟨blk,oo+i*sz',none⟩):=by
    have hbk:=R.blk b _ hb
    unfold mN at hds
    split at hds
    ·rename_i b0 e0
     split at hds
     ·split at hds
      ·rename_i h1 h2
       cases hds
       obtain⟨_,hrr⟩:=rx
       simp only[hb] at hrr
       have hv:=hrr.2 trivial
       cases hlb:l b with
       | none =>
        simp only[hlb,fg] at hv
        obtain⟨h0,rfl⟩:=hv
        exact⟨none,0,by rw[h0],fun hp=>by omega⟩
       | some pr =>
        obtain⟨blk,cap⟩:=pr
        simp only[hlb,fg] at hv
        obtain⟨oo,cc,rfl,rfl,_⟩:=hv
        exact⟨_,_,rfl,fun _=>⟨by omega,blk,oo,cc,rfl,by simp⟩⟩
      ·simp at hds
     ·simp at hds
    ·rename_i b0 e0 i0 n0 c0
     split at hds
     ·split at hds
      ·rename_i h1 h2
       cases hds
       obtain⟨_,hrr⟩:=rx
       simp only[hb] at hrr
       obtain⟨hin,blk,oo,cap,c2,hlb,hy,hnc,_⟩:=hrr.2 trivial
       rcases hy with rfl|⟨a0,rfl,rfl⟩
       ·exact⟨_,_,rfl,fun _=>⟨hin,blk,oo,cap,hlb,rfl⟩⟩
       ·exact⟨_,_,rfl,fun h=>by omega⟩
      ·simp at hds
     ·simp at hds
    ·simp at hds
   obtain⟨base,cx,rfl,hbase⟩:=hdst
   obtain⟨⟨a0,c0,rfl⟩,hcells⟩:=kZ (_size:=sz') R rs hrw hsrc
   have hro:∀r∈rows,r.length=sz'∧r.all D.one=true:=by
    intro r hr
    have:=Hs.1 hall r hr
    unfold rowOk at this
    simpa using this
   by_cases hm:min rows.length n=0
   ·rw[if_pos hm]
    refine⟨goInt 0,w,l,?_,R,Ext.refl _ _ _,by rw[hm];simp[goInt,Rel,RelP]⟩
    have hf:(H4 sz' 0 (.slice a0 rows.length c0)).run P w=.ok #[] w:=by
     cases a0<;>simp[H4,loadCells,loadCellsFrom]
    have hnm:Nat.min rows.length n=0:=hm
    cases base<;>simp[KD,und_run ht,szOf_run hsz,Ii,hnm,hf,storeCells]
   ·rw[if_neg hm]
    have hpos:0<n:=by omega
    obtain⟨hin,blk,oo,cap,hlb,rfl⟩:=hbase hpos
    obtain⟨blk',off',n',c',hy,hca⟩:∃blk off n c,(Value.slice a0 rows.length c0)=.slice (some ⟨blk,off,none⟩) n c∧CellsAt w (avs O l h) l h blk off rows.flatten:=by
     rcases hcells with rfl|hh
     ·simp at hm
     ·exact hh
    simp only[K8] at hy
    obtain⟨rfl,rfl,rfl⟩:=hy
    generalize hmd:min rows.length n=m at hm
    have hmn:m≤n:=by omega
    have hmr:m≤rows.length:=by omega
    have hrt:∀r∈rows.take m,r.length=sz':=fun r hr=>(hro r (Je hr)).1
    have hfl:(rows.take m).flatten=rows.flatten.take (m*sz'):=by
     have:=ax (es:=rows) (sz:=sz') (fun r hr=>(hro r hr).1) 0 m (by omega)
     simpa using this
    have hcm:CellsAt w (avs O l h) l h blk' off' (rows.take m).flatten:=by rw[hfl];exact hca.take _
    obtain⟨ys,k1,k2⟩:=bu (P:=P) (len:=rows.length) (cap:=c0) hcm hrt (n:=m) (by simp;omega)
    have h1:∀v∈ys,v.oneCell'=true:=gw k2 (by
     rw[Hs]
     intro d hd
     obtain⟨r,hr,hdr⟩:=LL.1 hd
     exact Hs.1 (hro r (Je hr)).2 d hdr)
    have hyl:ys.length=m*sz':=by rw[←k2.length,ah hrt];simp[hmr]
    have hbk:=R.blk b _ hb
    simp only[BlkOk,hlb] at hbk
    obtain⟨o2,cc,rc,c,T,fr,zs,q1,q2,q3,q4,q5,q6,pre,rest,q0,q7⟩:=hbk
    obtain⟨rfl,rfl⟩:=b6 rc
    have hzl:zs.length=es.length*sz':=by rw[←q6.length,ah q5]
    have hle:i*sz'+m*sz'≤es.length*sz':=by rw[←IV];exact Ir _ (by omega)
    have hle2:es.length*sz'≤cap*sz':=Ir _ q3
    obtain⟨w',c1,s1,s2,s3,s4,s5,s6⟩:=br (P:=P) (off:=oo+i*sz') ys 0 w c q1 q4 (by omega) h1
    rw[MN] at s5
    have hsize:c1.size=c.size:=by
     have:=congrArg G3 s5
     simp only[aU,Hv,IR,Ih,IK] at this
     omega
    have hfe:(es.take i++(rows.take m++es.drop (i+m))).flatten=aF es.flatten (i*sz') (rows.take m).flatten:=by
     have e1:=ax (es:=es) q5 0 i (by omega)
     have e2:=ax (es:=es) q5 (i+m) (es.length - (i+m)) (by omega)
     simp only[IW,Nat.zero_mul] at e1
     have e3:(es.drop (i+m)).take (es.length - (i+m))=es.drop (i+m):=by rw[H3 (by simp)]
     have e4:(es.flatten.drop ((i+m)*sz')).take ((es.length - (i+m))*sz')=es.flatten.drop ((i+m)*sz'):=by
      rw[H3]
      rw[Ih,ah q5,←Nat.sub_mul]
      exact Hq _
     rw[e3,e4] at e2
     unfold aF
     rw[IH,IH,e1,e2,ah hrt,IR,Nat.min_eq_left hmr,←IV,IA]
    have hlen:(es.take i++(rows.take m++es.drop (i+m))).length=es.length:=by
     simp only[Hv,IR,Ih];omega
    have:=R.step (w':=w') (l':=l) (h':=h.set b (.vec (es.take i++(rows.take m++es.drop (i+m))) e' sz')) b (.vec (es.take i++(rows.take m++es.drop (i+m))) e' sz') (by omega) s6 (fun z hz=>bj _ _ hz) (aP hb) (fun _ _=>rfl)
     (fun z hz=>by rw[hb] at hz;cases hz;exact⟨⟨Hq _,fun _=>hlen,rfl⟩,fun _=>rfl⟩)
     (fun k hk hno=>s3 k (fun e=>hno _ (mkP oo cap) hb (by simp) (by rw[hlb,e])))
     (fun k cc hk=>.inl ⟨_,cc,hb,by simp,hk⟩)
     (fun E=>by
      simp only[BlkOk,hlb]
      refine⟨oo,cap,rfl,c1,T,fr,aU zs (i*sz') ys,s4,by omega,by omega,by rw[hsize];exact q4,?_,?_,pre,rest,q0,?_⟩
      ·intro r hr
       rcases HN.1 hr with hr|hr
       ·exact q5 r (Je hr)
       ·rcases HN.1 hr with hr|hr
        ·exact hrt r hr
        ·exact q5 r (Jm hr)
      ·rw[hfe];exact(E.relL q6).splice _ (E.relL k2)
      ·rw[s5,q7]
       unfold aU
       have e1:oo+i*sz'=pre.length+i*sz':=by omega
       rw[e1,IA pre,JY,Ma,Mb,Kr (by omega),Ks (by omega)]
       simp)
    refine⟨goInt m,w',l,?_,this.1,this.2,by simp[goInt,Rel,RelP]⟩
    have hnm:Nat.min rows.length n=m:=hmd
    have s1':(storeCells ⟨blk,oo+i*sz',none⟩ ys).run P w=.ok () w':=s1
    simp[KD,und_run ht,szOf_run hsz,Ii,hnm,k1,s1']
theorem zM(R:Rep Γ O w l h){b e' sz' blk oo cap i:Nat}{es new:List (List D)}{ys:List Value}(hb:h[b]? = some (.vec es e' sz'))(hlb:l b=some (blk,mkP oo cap))(hin:i+new.length≤es.length)
  (hrt:∀r∈new,r.length=sz') (k2:RelL w (avs O l h) l h new.flatten ys) (h1:∀v∈ys,v.oneCell'=true) :
  ∃w',(storeCells ⟨blk,oo+i*sz',none⟩ ys).run P w=.ok () w'∧Rep Γ O w' l (h.set b (.vec (es.take i++(new++es.drop (i+new.length))) e' sz'))∧Ext w l h w' l (h.set b (.vec (es.take i++(new++es.drop (i+new.length))) e' sz')):=by
 have hyl:ys.length=new.length*sz':=by rw[←k2.length,ah hrt]
 have hbk:=R.blk b _ hb
 simp only[BlkOk,hlb] at hbk
 obtain⟨o2,cc,rc,c,T,fr,zs,q1,q2,q3,q4,q5,q6,pre,rest,q0,q7⟩:=hbk
 obtain⟨rfl,rfl⟩:=b6 rc
 have hzl:zs.length=es.length*sz':=by rw[←q6.length,ah q5]
 have hle:i*sz'+new.length*sz'≤es.length*sz':=by rw[←IV];exact Ir _ hin
 have hle2:es.length*sz'≤cap*sz':=Ir _ q3
 obtain⟨w',c1,s1,s2,s3,s4,s5,s6⟩:=br (P:=P) (off:=oo+i*sz') ys 0 w c q1 q4 (by omega) h1
 rw[MN] at s5
 have hsize:c1.size=c.size:=by
  have:=congrArg G3 s5
  simp only[aU,Hv,IR,Ih,IK] at this
  omega
 have hfe:(es.take i++(new++es.drop (i+new.length))).flatten=aF es.flatten (i*sz') new.flatten:=by
  have e1:=ax (es:=es) q5 0 i (by omega)
  have e2:=ax (es:=es) q5 (i+new.length) (es.length - (i+new.length)) (by omega)
  simp only[IW,Nat.zero_mul] at e1
  have e3:(es.drop (i+new.length)).take (es.length - (i+new.length))=es.drop (i+new.length):=by rw[H3 (by simp)]
  have e4:(es.flatten.drop ((i+new.length)*sz')).take ((es.length - (i+new.length))*sz')=es.flatten.drop ((i+new.length)*sz'):=by
   rw[H3]
   rw[Ih,ah q5,←Nat.sub_mul]
   exact Hq _
  rw[e3,e4] at e2
  unfold aF
  rw[IH,IH,e1,e2,ah hrt,←IV,IA]
 have hlen:(es.take i++(new++es.drop (i+new.length))).length=es.length:=by
  simp only[Hv,IR,Ih];omega
 have:=R.step (w':=w') (l':=l) (h':=h.set b (.vec (es.take i++(new++es.drop (i+new.length))) e' sz')) b (.vec (es.take i++(new++es.drop (i+new.length))) e' sz') (by omega) s6 (fun z hz=>bj _ _ hz) (aP hb) (fun _ _=>rfl)
  (fun z hz=>by rw[hb] at hz;cases hz;exact⟨⟨Hq _,fun _=>hlen,rfl⟩,fun _=>rfl⟩)
  (fun k hk hno=>s3 k (fun e=>hno _ (mkP oo cap) hb (by simp) (by rw[hlb,e])))
  (fun k cc hk=>.inl ⟨_,cc,hb,by simp,hk⟩)
  (fun E=>by
   simp only[BlkOk,hlb]
   refine⟨oo,cap,rfl,c1,T,fr,aU zs (i*sz') ys,s4,by omega,by omega,by rw[hsize];exact q4,?_,?_,pre,rest,q0,?_⟩
   ·intro r hr
    rcases HN.1 hr with hr|hr
    ·exact q5 r (Je hr)
    ·rcases HN.1 hr with hr|hr
     ·exact hrt r hr
     ·exact q5 r (Jm hr)
   ·rw[hfe];exact(E.relL q6).splice _ (E.relL k2)
   ·rw[s5,q7]
    unfold aU
    have e1:oo+i*sz'=pre.length+i*sz':=by omega
    rw[e1,IA pre,JY,Ma,Mb,Kr (by omega),Ks (by omega)]
    simp)
 exact⟨w',s1,this.1,this.2⟩
theorem zN(_R:Rep Γ O w l h){x:D}{yx:Value}{b e' sz' i n:Nat}{es:List (List D)}(rx:Rel w (avs O l h) l h x yx)(hds:mN h x=some (b,e',es,sz',i,n)):
  h[b]? = some (.vec es e' sz')∧∃base c,yx=.slice base n c∧(0<n→i+n≤es.length∧∃blk oo cap,l b=some (blk,mkP oo cap)∧base=some ⟨blk,oo+i*sz',none⟩):=by
 unfold mN at hds
 split at hds
 ·split at hds
  ·split at hds
   ·rename_i h1 h2
    cases hds
    obtain⟨_,hrr⟩:=rx
    simp only[h1] at hrr
    refine⟨by rw[h1,h2],?_⟩
    have hv:=hrr.2 h2.symm
    cases hlb:l b with
    | none =>
     simp only[hlb,fg] at hv
     obtain⟨h0,rfl⟩:=hv
     exact⟨none,0,by rw[h0],fun hp=>by omega⟩
    | some pr =>
     obtain⟨blk,cap⟩:=pr
     simp only[hlb,fg] at hv
     obtain⟨oo,cc,rfl,rfl,_⟩:=hv
     exact⟨_,_,rfl,fun _=>⟨by omega,blk,oo,cc,rfl,by simp⟩⟩
   ·simp at hds
  ·simp at hds
 ·split at hds
  ·split at hds
   ·rename_i h1 h2
    cases hds
    obtain⟨_,hrr⟩:=rx
    simp only[h1] at hrr
    refine⟨by rw[h1,h2],?_⟩
    obtain⟨hin,blk,oo,cap,c2,hlb,hy,hnc,_⟩:=hrr.2 h2.symm
    rcases hy with rfl|⟨a0,rfl,rfl⟩
    ·exact⟨_,_,rfl,fun _=>⟨hin,blk,oo,cap,hlb,rfl⟩⟩
    ·exact⟨_,_,rfl,fun h=>by omega⟩
   ·simp at hds
  ·simp at hds
 ·simp at hds
def wG(P:Program)(h:List Blk)(t:TypeId)(x:D):Option (Bool×D×List Blk) :=
 match cn P t with
 | some e=>match cP P e,mN h x with
  | some z,some (b,e',es,sz',i,n)=>some (Qd (z.length=sz')&&z.all D.one,.tup [],if n=0 then h else h.set b (.vec (es.take i++(HA n z++es.drop (i+n))) e' sz'))
  | _,_=>none
 | none=>none
theorem qe(R:Rep Γ O w l h){t ty:TypeId}{ts:List TypeId}{x d:D}{yx:Value}{h':List Blk}(rx:Rel w (avs O l h) l h x yx)(hd:wG P h t x=some (true,d,h')):
  ∃v w' l',(LS (t::ts).toArray ty #[yx]).run P w=.ok v w'∧Rep Γ O w' l' h'∧Ext w l h w' l' h'∧Rel w' (avs O l' h') l' h' d v:=by
 unfold wG at hd
 cases hte:cn P t with
 | none=>simp[hte] at hd
 | some e =>
  cases hz:cP P e with
  | none=>simp[hte,hz] at hd
  | some z =>
  cases hds:mN h x with
  | none=>simp[hte,hz,hds] at hd
  | some q =>
   obtain⟨b,e',es,sz',i,n⟩:=q
   simp only[hte,hz,hds,G0,G4,G6,decide_eq_true_eq] at hd
   obtain⟨⟨hzl,hone⟩,rfl,rfl⟩:=hd
   have ht:P.underlying t=some (.slice e):=bk hte
   obtain⟨hb,base,cx,rfl,hbase⟩:=zN R rx hds
   obtain⟨zv,hzv,rfl⟩:=cy hz
   by_cases hn:n=0
   ·subst hn
    rw[if_pos rfl]
    refine⟨.tuple #[],w,l,?_,R,Ext.refl _ _ _,by simp[Rel,RelL]⟩
    cases base<;>simp[LS,und_run ht]
   ·rw[if_neg hn]
    obtain⟨hin,blk,oo,cap,hlb,rfl⟩:=hbase (by omega)
    have hsz:zv.cells.size=sz':=by simpa using hzl
    have hys:(Ip zv.cells n).toList=(HA n zv.cells.toList).flatten:=by
     unfold Ip
     rw[Kn,Kt,dY rfl]
    have hk:RelL w (avs O l h) l h (HA n (zv.cells.toList.map lit)).flatten (HA n zv.cells.toList).flatten:=relL_rep n
    obtain⟨w',s1,r1,r2⟩:=zM (P:=P) R hb hlb (i:=i) (new:=HA n (zv.cells.toList.map lit)) (ys:=(HA n zv.cells.toList).flatten) (by simpa using hin)
     (fun r hr=>by rw[JU hr];simpa using hzl) hk (by
      refine gw hk ?_
      rw[Hs]
      intro d hd
      obtain⟨r,hr,hdr⟩:=LL.1 hd
      rw[JU hr] at hdr
      exact Hs.1 hone d hdr)
    rw[MQ] at r1 r2
    refine⟨.tuple #[],w',l,?_,r1,r2,by simp[Rel,RelL]⟩
    obtain⟨k,rfl⟩:∃k,n=k+1:=⟨n - 1,by omega⟩
    simp[LS,und_run ht,zeroV_run hzv,hys,s1]
end
def u8T(P:Program)(t:TypeId):Bool:=match P.underlying t with
 | some (.int .u8)=>true
 | _=>false
def wH:List D→Option UInt8
 | [.p (.v (.int .u8 n))]=>match Qd (0≤n)&&Qd (n<256) with
  | true=>some (UInt8.ofNat n.toNat)
  | false=>none
 | _=>none
def qf:List (List D)→Option (List UInt8)
 | []=>some []
 | r::rs=>match wH r,qf rs with
  | some b,some l=>some (b::l)
  | _,_=>none
def cG(s:ByteArray):List (List D):=s.data.toList.map fun b=>[lit (.int .u8 b.toNat)]
def cb(P:Program)(h:List Blk)(src dst:TypeId)(x:D):Option (D×List Blk) :=
 match P.underlying src,cn P dst,x with
 | some .string,some e,.p (.v (.string s))=>match u8T P e with
  | true=>some (.ref (.vec h.length 0),h++[.vec (cG s) 0 1])
  | false=>none
 | _,_,_=>none
def g9(P:Program)(h:List Blk)(src dst:TypeId)(x:D):Option D :=
 match cn P src,P.underlying dst with
 | some e,some .string=>match u8T P e&&rV x with
  | true=>match rowsD h x with
   | some rows=>(qf rows).map fun l=>lit (.string ⟨l.toArray⟩)
   | none=>none
  | false=>none
 | _,_=>none
section
variable {P:Program} {Γ:ae} {O:Nat→Prop} {w:World} {l:Loc} {h:List Blk}
theorem ti{t:TypeId}(ht:u8T P t=true):P.underlying t=some (.int .u8):=by
 unfold u8T at ht
 split at ht
 ·assumption
 ·simp at ht
theorem relL_byteRows{av:Nat→Prop}:∀(bs:List UInt8),RelL w av l h (bs.map fun b=>[lit (.int .u8 b.toNat)]).flatten (bs.map fun b=>Value.int .u8 b.toNat)
 | []=>by simp[RelL]
 | b::bs=>by
  simp only[Il,Ic,MR,RelL]
  exact⟨rel_lit _ _ _ _ _,relL_byteRows bs⟩
theorem la(R:Rep Γ O w l h){src dst:TypeId}{x d:D}{y:Value}{h':List Blk}(rx:Rel w (avs O l h) l h x y)(hd:cb P h src dst x=some (d,h')):
  ∃v w' l',(convert src dst y).run P w=.ok v w'∧Rep Γ O w' l' h'∧Ext w l h w' l' h'∧Rel w' (avs O l' h') l' h' d v:=by
 unfold cb at hd
 split at hd
 case h_2=>simp at hd
 rename_i e s hs he
 split at hd
 case h_2=>simp at hd
 rename_i hu
 simp only[G0,G4] at hd
 obtain⟨rfl,rfl⟩:=hd
 obtain rfl:=ai rx
 have hcut:s.size≤grownCap w s.size 0 e:=by
  unfold grownCap
  exact jd _
 have hrun:=run_bytes_of_string (P:=P) w src dst e s hs (bk he) (ti hu)
 obtain⟨R1,E1⟩:=R.of_heap (w':=w.drew) rfl ⟨rfl,rfl,rfl,I5 _⟩
 have hsz:(bytesRow s (grownCap w s.size 0 e)).size=grownCap w s.size 0 e:=by
  have:s.data.size=s.size:=rfl
  simp[bytesRow]
  omega
 obtain⟨R2,E2⟩:=b8 R1 (.cells (bytesRow s (grownCap w s.size 0 e)) e ((bytesRow s (grownCap w s.size 0 e)).size,(bytesRow s (grownCap w s.size 0 e)).size+1)) (.vec (cG s) 0 1) (mkP 0 (grownCap w s.size 0 e)) (fun E=>by
  simp only[BlkOk,JB]
  refine⟨0,grownCap w s.size 0 e,rfl,bytesRow s (grownCap w s.size 0 e),e,_,s.data.toList.map fun b=>Value.int .u8 b.toNat,heap_alloc_new w.drew _,by omega,?_,by intro o ho hh;omega,?_,relL_byteRows _,[],HA (grownCap w s.size 0 e - s.size) (.int .u8 0),rfl,?_⟩
  ·have:s.data.toList.length=s.size:=by simp
   simp only[cG,HW]
   omega
  ·intro r hr
   simp only[cG,HS] at hr
   obtain⟨b,_,rfl⟩:=hr
   rfl
  ·simp[bytesRow])
 refine⟨_,_,_,hrun,R2,E1.trans E2,?_⟩
 simp only[Rel,RefRel]
 refine⟨rfl,?_⟩
 simp only[HT (Hq _),Nat.sub_self,Hu,JB,fg]
 refine⟨Hq _,fun _=>⟨0,grownCap w s.size 0 e,rfl,?_,?_⟩⟩
 ·have:(cG s).length=s.size:=by simp[cG]
  rw[this];rfl
 ·have:(cG s).length=s.size:=by simp[cG]
  omega
theorem wI{r:List D}{b:UInt8}(hb:wH r=some b):r=[lit (.int .u8 b.toNat)]:=by
 unfold wH at hb
 split at hb
 ·rename_i n
  split at hb
  ·rename_i hn
   simp only[G6,decide_eq_true_eq] at hn
   cases hb
   have:((UInt8.ofNat n.toNat).toNat:Int)=n:=by
    rw[UInt8.toNat_ofNat']
    omega
   rw[this]
  ·simp at hb
 ·simp at hb
theorem qg:∀{rows:List (List D)} {bs:List UInt8},qf rows=some bs→rows=bs.map fun b=>[lit (.int .u8 b.toNat)]
 | [],bs,hb=>by simp only[qf,G0] at hb;subst hb;rfl
 | r::rs,bs,hb=>by
  simp only[qf] at hb
  split at hb
  ·rename_i b l h1 h2
   simp only[G0] at hb
   subst hb
   rw[wI h1,qg h2]
   rfl
  ·simp at hb
theorem flat1:∀bs:List UInt8,(bs.map fun b=>[lit (.int .u8 b.toNat)]).flatten=bs.map fun b=>lit (.int .u8 (b.toNat:Int))
 | []=>rfl
 | b::bs=>by simp only[Il,Ic,MR,flat1 bs]
theorem lb(R:Rep Γ O w l h){src dst:TypeId}{x d:D}{y:Value}(rx:Rel w (avs O l h) l h x y)(hd:g9 P h src dst x=some d):
  ∃v,(convert src dst y).run P w=.ok v w∧Rel w (avs O l h) l h d v:=by
 unfold g9 at hd
 split at hd
 case h_2=>simp at hd
 rename_i e he hs
 split at hd
 case h_2=>simp at hd
 rename_i hu
 simp only[G6] at hu
 split at hd
 case h_2=>simp at hd
 rename_i rows hr
 simp only[Ha] at hd
 obtain⟨bs,hbs,rfl⟩:=hd
 obtain rfl:=qg hbs
 obtain⟨⟨a,c,rfl⟩,hca⟩:=kZ (_size:=1) R rx hr hu.2
 refine⟨.string ⟨bs.toArray⟩,?_,rel_lit _ _ _ _ _⟩
 simp only[HW]
 rcases hca with h0|⟨blk,off,n,c',hy,hca⟩
 ·have:bs=[]:=by simpa using h0
  subst this
  cases a with
  | none =>
   rw[run_convert_bytes_string w src dst e none _ _ (bk he) (ti hu.1) hs]
   rfl
  | some a =>
   have:=run_convert_bytes_back (P:=P) w src dst e a c [] (bk he) (ti hu.1) hs (fun j hj=>by simp at hj)
   simpa using this
 ·simp only[K8] at hy
  obtain⟨rfl,hn,rfl⟩:=hy
  refine run_convert_bytes_back (P:=P) w src dst e ⟨blk,off,none⟩ c bs (bk he) (ti hu.1) hs (fun j hj=>?_)
  have:=hca j (lit (.int .u8 (bs[j].toNat:Int))) (by
   rw[flat1]
   simp[hj])
  obtain⟨y,h1,h2⟩:=this
  obtain rfl:=ai h2
  by_cases h0:j=0
  ·subst h0
   simpa[Addr.add] using h1
  ·simpa[Addr.add,h0] using h1
end
end Go.Vi
