/- LedgerPutSpec: part of the proof: an evaluator of the model's programs on abstract values, and its soundness. No conditions beyond the given statement's own. -/
import Derived.Test.YtoincdhjcahadaaGreatDoorV1
import Derived.IntWalk
open Decidable renaming decide → Qd
open Go.Builtin renaming zeroCells → F3, lenOf → EA, firstCells → Er, append_ → EM, len_ → Gn
open Go.Vi.Loc renaming upd_same → F7
open Nat renaming le_refl → DJ, sub_self → FO, le_succ → Fh, mul_le_mul_right → EW, add_mul → EX, sub_zero → GS
open List renaming getElem?_cons_zero → DN, getElem?_toArray → G4, getElem?_cons_succ → Fp, all_eq_true → DK, length_append → D9, mem_append → DX, flatten_append → EV, isEmpty_eq_false_iff → GH, length_pos_iff → GI, mem_of_mem_drop → FG, mem_of_mem_take → FH, take_of_length_le → EO, length_drop → Ez, length → Dl, length_take → EZ, drop_append → GG, append_assoc → FA, length_cons → Ex, mapM_cons → IM, replicate → En, length_nil → Fg, isEmpty_toArray → IZ
open Go.Question renaming appendCap → Iy, forced → Hy
open Go.IntKind renaming i64 → Dk
open Go.Sem renaming run_bind → DG, run_pure → DQ, run_ite → Hd
open Go.Result renaming andThen_ok → DC
open Bool renaming false_eq_true → D8, not_false → FQ, and_eq_true → Dr, not_eq_true' → ED, or_eq_true → E9, eq_iff_iff → Fs
open Go.World renaming alloc_eq → G6
open Go.Vi.Blk renaming stays → HK
open Option.some renaming injEq → Dj
open Prod.mk renaming injEq → Dm
open Array renaming length_toList → ER, range → GJ, toList_map → Gy, toList_range → I9, getElem?_eq_some_iff → Gz, getElem?_toList → Ej
open Go.ByteArray renaming toList_eq → Ij
open Option renaming map_eq_some_iff → Du, map_some → Ea, isNone_iff_eq_none → H2
open Go.Op renaming intArith → H1, intCmp → Hj, unary → Jd
open Int renaming not_lt → G3
open Go.Instr renaming build → IP, buildSlice → HG, makeSlice → HP, sliceBounds → Fa, sliceBound → GR, sliceAt → FL, slice → IQ, findNow → Ib, sameNow → Hh, lookup → GX, findKey → GM, sameBits → G7, mapUpdate → HQ, range → HL, next → GY
open Go.Utf8 renaming decode → IX
open Go.Vi.Ext renaming refl → FV
open Go.Value.map renaming injEq → IY
namespace Go.Vi
open Go
section
variable {P:Program} {Γ:ae} {O:Nat→Prop} {w:World} {l:Loc} {h:List Blk}
theorem lu(z:Array Value)(n:Nat):(F3 z n).size=n*z.size:=by simp[F3]
theorem ic(R:Rep Γ O w l h)(w1:World)(hw1:w1.heap=w.heap∧w1.tape=w.tape∧w1.os=w.os∧w1.output=w.output∧w.drawn≤w1.drawn)(e:TypeId)(cs:Array Value)(rows:List (List D))(sz cap:Nat)(ys rest:List Value)
  (hcs:cs.toList=ys++rest) (hsz:cs.size=cap*sz) (hcap:rows.length≤cap) (hr:∀r∈rows,r.length=sz) (ry:RelL w (avs O l h) l h rows.flatten ys) :
  ∃l',Rep Γ O (w1.alloc (.cells cs e)) l' (h++[.vec rows 0 sz])∧Ext w l h (w1.alloc (.cells cs e)) l' (h++[.vec rows 0 sz]) ∧
   Rel (w1.alloc (.cells cs e)) (avs O l' (h++[.vec rows 0 sz])) l' (h++[.vec rows 0 sz]) (.ref (.vec h.length 0)) (.slice (some ⟨w.heap.size,0,none⟩) rows.length cap):=by
 obtain⟨R1,E1⟩:=R.of_heap hw1.1 hw1.2
 have hs:w1.heap.size=w.heap.size:=by rw[hw1.1]
 obtain⟨R2,E2⟩:=cq R1 (.cells cs e) (.vec rows 0 sz) (mkP 0 cap) (fun E=>by
  simp only[BlkOk,F7]
  exact⟨0,cap,rfl,cs,e,(0,0),ys,heap_alloc_new w1 _,by omega,hcap,by simp,hr,E.relL (E1.relL ry),[],rest,rfl,hcs⟩)
 refine⟨_,R2,E1.trans E2,?_⟩
 simp only[Rel,RefRel]
 refine⟨rfl,?_⟩
 simp only[List.getElem?_append_right (DJ _),FO,DN,F7,hs,ga]
 exact⟨DJ _,fun _=>⟨0,cap,rfl,rfl,hcap⟩⟩
theorem sO(R:Rep Γ O w l h)(sz:Nat):∃l',Rep Γ O w l' (h++[.vec [] 0 sz])∧Ext w l h w l' (h++[.vec [] 0 sz]) ∧
  Rel w (avs O l' (h++[.vec [] 0 sz])) l' (h++[.vec [] 0 sz]) (.ref (.vec h.length 0)) (.slice none 0 0):=by
 have:=R.step (w':=w) (l':=l.upd h.length none) (h':=h++[.vec [] 0 sz]) h.length (.vec [] 0 sz) (DJ _) ⟨rfl,rfl,rfl,(by first|exact DJ _|exact Fh _)⟩ (fun b hb=>gg h _ hb) (by simp)
  (fun b hb=>Loc.upd_ne _ _ _ hb) (fun y hy=>by simp at hy) (fun _ _ _=>rfl) (fun k c hk=>by simp at hk) (fun _=>by simp[BlkOk])
 refine⟨_,this.1,this.2,?_⟩
 simp only[Rel,RefRel]
 refine⟨rfl,?_⟩
 simp[ga]
theorem sP{need cap:Nat}{e:TypeId}(t:Nat):need≤(Iy need cap e).cut t:=by simp[Question.cut]
theorem lv{t tx ty e:TypeId}{dx:TypeDesc}{sz by':Nat}{z:Value}{base:Option Addr}{n cap m:Nat}{x:Value}{olds news:List Value}
  (ht:P.underlying t=some (.slice e)) (hx:P.underlying tx=some dx) (hdx:∀k,dx ≠ .int k) (hs:szOf P e=some sz) (hb:bytesOf P e=some by') (hz:ge P e=some z)
  (hlen:(EA x).run P w=.ok m w) (hnew:(Er sz m x).run P w.drew=.ok news.toArray w.drew)
  (hold:(Er sz n (.slice base n cap)).run P w.drew=.ok olds.toArray w.drew) (hn:cap<n+m) (hby:(n+m)*by'≤140737488355328) (h62:n+m≤4611686018427387904) :
  ∃(cap2:Nat),n+m≤cap2 ∧
   (EM #[t,tx] ty #[.slice base n cap,x]).run P w=.ok (.slice (some ⟨w.heap.size,0,none⟩) (n+m) cap2)
    (w.drew.alloc (.cells (olds.toArray++news.toArray++F3 z.cells (cap2 - (n+m))) e)):=by
 obtain⟨i,hi,hib⟩:=jU hb
 have hfit:=growslice_fits hn hby
 have hti:∀w:World,(typeInfo e).run P w=.ok i w:=fun w=>by simp[typeInfo,hi]
 refine⟨(Iy (n+m) cap e).cut (w.tape w.drawn (.appendCap (n+m) cap e)),sP _,?_⟩
 have hnot:¬((((n+m:Nat):Int)>Dk.max)∧(False∨i.bytes=0)):=by
  intro hh
  have:Dk.max=9223372036854775807:=rfl
  rw[this] at hh;omega
 have hcap':¬(Builtin.nextslicecap (n+m) cap*i.bytes>2 ^ 48):=by rw[hib];omega
 unfold EM
 simp only[G4,DN,Fp,DG,und_run ht,und_run hx,DC,szOf_run hs,DQ]
 cases dx with
 | int k=>exact absurd rfl (hdx k)
 | _ =>
  simp only[D8,if_false,hlen,DC,Nat.not_le.2 hn,DG,hti,Hd,hnot,hcap',if_false,run_choose,Hy,run_askRoom,
   hold,hnew,zeroV_run hz,DQ,FQ,if_true,newRow,run_newObj,World.drew_eq,G6,World.size_drew]
theorem gi{t tx ty e:TypeId}{dx:TypeDesc}{sz blk n cap m:Nat}{x:Value}{news:List Value}{c:Array Value}{T:TypeId}{fr:Nat×Nat}
  (ht:P.underlying t=some (.slice e)) (hx:P.underlying tx=some dx) (hdx:∀k,dx ≠ .int k) (hs:szOf P e=some sz)
  (hlen:(EA x).run P w=.ok m w) (hnew:(Er sz m x).run P w=.ok news.toArray w) (h1:∀v∈news,v.oneCell'=true) (hnl:news.length=m*sz)
  {oo:Nat} (hn:n+m≤cap) (hb:w.heap[blk]? = some (.cells c T fr)) (hf:∀o,o<c.size→¬(fr.1≤o∧o<fr.2)) (hc:oo+cap*sz≤c.size) :
  ∃w' c',(EM #[t,tx] ty #[.slice (some ⟨blk,oo,none⟩) n cap,x]).run P w=.ok (.slice (some ⟨blk,oo,none⟩) (n+m) cap) w'∧w'.heap.size=w.heap.size∧(∀k,k ≠ blk→w'.heap[k]? = w.heap[k]?) ∧
   w'.heap[blk]? = some (.cells c' T fr)∧c'.toList=aK c.toList (oo+n*sz) news∧w'.tape=w.tape∧w'.os=w.os∧w'.output=w.output∧w.drawn≤w'.drawn:=by
 have hle:oo+n*sz+0+news.length≤c.size:=by
  rw[hnl];have:=EW sz hn;rw[EX] at this;omega
 obtain⟨w',c',h2,h3⟩:=bz (P:=P) (off:=oo+n*sz) news 0 w c hb hf hle h1
 refine⟨w',c',?_,by simpa using h3⟩
 unfold EM
 simp only[G4,DN,Fp,DG,und_run ht,und_run hx,DC,szOf_run hs,DQ]
 cases dx with
 | int k=>exact absurd rfl (hdx k)
 | _ =>
  simp only[D8,if_false,hlen,DC,hn,if_true,DG,hnew,FQ,cg,h2,DQ,Hd]
theorem em{t tx ty e:TypeId}{dx:TypeDesc}{sz:Nat}{x:Value}{news:List Value}
  (ht:P.underlying t=some (.slice e)) (hx:P.underlying tx=some dx) (hdx:∀k,dx ≠ .int k) (hs:szOf P e=some sz)
  (hlen:(EA x).run P w=.ok 0 w) (hnew:(Er sz 0 x).run P w=.ok news.toArray w) :
  (EM #[t,tx] ty #[.slice none 0 0,x]).run P w=.ok (.slice none 0 0) w:=by
 unfold EM
 simp only[G4,DN,Fp,DG,und_run ht,und_run hx,DC,szOf_run hs,DQ]
 cases dx with
 | int k=>exact absurd rfl (hdx k)
 | _ =>
  simp only[D8,if_false,hlen,DC,Nat.add_zero,DJ,if_true,DG,hnew,FQ,DQ,Hd]
theorem cN{t:TypeId}{z:List D}(hz:dt P t=some z):∃v,ge P t=some v∧z=v.cells.toList.map lit:=by
 unfold dt at hz
 cases hv:ge P t with
 | none=>simp[hv] at hz
 | some v=>simp[hv] at hz;exact⟨v,rfl,hz.symm⟩
theorem og(R:Rep Γ O w l h){b e0 sz:Nat}{es:List (List D)}(hb:h[b]? = some (.vec es e0 sz))(w1:World)(hw1:w1.heap=w.heap∧w1.tape=w.tape∧w1.os=w.os∧w1.output=w.output∧w.drawn≤w1.drawn)
  (e:TypeId) (cs:Array Value) (rows:List (List D)) (cap:Nat) (ys rest:List Value)
  (hcs:cs.toList=ys++rest) (hsz:cs.size=cap*sz) (hcap:rows.length≤cap) (hr:∀r∈rows,r.length=sz) (ry:RelL w (avs O l h) l h rows.flatten ys) :
  ∃l',Rep Γ O (w1.alloc (.cells cs e)) l' (h.set b (.vec rows (e0+1) sz))∧Ext w l h (w1.alloc (.cells cs e)) l' (h.set b (.vec rows (e0+1) sz)) ∧
   Rel (w1.alloc (.cells cs e)) (avs O l' (h.set b (.vec rows (e0+1) sz))) l' (h.set b (.vec rows (e0+1) sz)) (.ref (.vec b (e0+1))) (.slice (some ⟨w.heap.size,0,none⟩) rows.length cap):=by
 have hs:w1.heap.size=w.heap.size:=by rw[hw1.1]
 have:=R.step (w':=w1.alloc (.cells cs e)) (l':=l.upd b (some (w.heap.size,mkP 0 cap))) (h':=h.set b (.vec rows (e0+1) sz)) b (.vec rows (e0+1) sz) (by simp[hs]) ⟨hw1.2.1,hw1.2.2.1,hw1.2.2.2⟩
  (fun i hi=>bo _ _ hi) (aU hb) (fun i hi=>Loc.upd_ne _ _ _ hi)
  (fun z hz=>by rw[hb] at hz;cases hz;exact⟨⟨Fh _,fun hh=>absurd hh (by omega),rfl⟩,fun hh=>absurd hh (by simp[HK])⟩)
  (fun k hk _=>by rw[heap_alloc_old w1 _ k (by omega),hw1.1])
  (fun k c hk=>by simp at hk;exact .inr ⟨by omega,by simp;omega⟩)
  (fun E=>by
   simp only[BlkOk,F7]
   exact⟨0,cap,rfl,cs,e,(0,0),ys,by rw[←hs];exact heap_alloc_new w1 _,by omega,hcap,by simp,hr,E.relL ry,[],rest,rfl,hcs⟩)
 refine⟨_,this.1,this.2,?_⟩
 simp only[Rel,RefRel]
 refine⟨rfl,?_⟩
 rw[aU hb]
 simp only[F7,ga]
 exact⟨DJ _,fun _=>⟨0,cap,rfl,rfl,hcap⟩⟩
theorem mH(R:Rep Γ O w l h){t tx ty:TypeId}{s x d:D}{ys yx:Value}{h':List Blk}(rs:Rel w (avs O l h) l h s ys)(rx:Rel w (avs O l h) l h x yx)
  (hd:pR P h t tx s x=some (true,d,h')) :
  ∃v w' l',(EM #[t,tx] ty #[ys,yx]).run P w=.ok v w'∧Rep Γ O w' l' h'∧Ext w l h w' l' h'∧Rel w' (avs O l' h') l' h' d v:=by
 unfold pR at hd
 cases hte:fC P t with
 | none=>simp[hte] at hd
 | some e =>
  cases hux:P.underlying tx with
  | none=>simp[hte,hux] at hd
  | some dx =>
   simp only[hte,hux] at hd
   split at hd
   case isTrue=>simp at hd
   rename_i hdx0
   have hdx:∀k,dx ≠ .int k:=by intro k hk;subst hk;simp[isIntT] at hdx0
   have ht:P.underlying t=some (.slice e):=by
    unfold fC at hte
    cases hu:P.underlying t with
    | none=>simp[hu] at hte
    | some u=>cases u<;>simp_all
   cases hs:szOf P e with
   | none=>simp[hs] at hd
   | some sz =>
    cases hb:bytesOf P e with
    | none=>simp[hs,hb] at hd
    | some by' =>
     cases hz:dt P e with
     | none=>simp[hs,hb,hz] at hd
     | some z =>
      cases hrows:rowsD h x with
      | none=>simp[hs,hb,hz,hrows] at hd
      | some rows =>
       simp only[hs,hb,hz,hrows] at hd
       split at hd
       case isFalse=>simp at hd
       rename_i hzl
       obtain⟨zv,hzv,rfl⟩:=cN hz
       have hzsz:zv.cells.size=sz:=by simpa using hzl
       have pre:rows.all (rowOk sz)=true→(∀r∈rows,r.length=sz)∧(rows.flatten.all D.one=true):=by
        intro ha
        simp only[DK,rowOk,Dr,decide_eq_true_eq] at ha
        refine⟨fun r hr=>(ha r hr).1,?_⟩
        simp only[DK,List.mem_flatten]
        rintro c ⟨r,hr,hc⟩
        exact(ha r hr).2 c hc
       obtain⟨R1,E1⟩:=R.of_heap (w':=w.drew) rfl ⟨rfl,rfl,rfl,(by first|exact DJ _|exact Fh _)⟩
       have hroom:∀{n m:Nat},roomOk (n+m) by'=true→(n+m)*by'≤140737488355328∧n+m≤4611686018427387904:=by
        intro n m hh;simpa[roomOk] using hh
       have mk:∀(base:Option Addr) (cap:Nat) (orows:List (List D)) (y:Value),y=.slice base orows.length cap→Rel w (avs O l h) l h s y→rowsD h s=some orows→(∀r∈orows,r.length=sz) →
         rows.all (rowOk sz)=true→roomOk (orows.length+rows.length) by'=true→cap<orows.length+rows.length →
         ∃(cap2:Nat) (cs:Array Value) (zs rest:List Value),(EM #[t,tx] ty #[y,yx]).run P w=.ok (.slice (some ⟨w.heap.size,0,none⟩) (orows++rows).length cap2) (w.drew.alloc (.cells cs e)) ∧
          cs.toList=zs++rest∧cs.size=cap2*sz∧(orows++rows).length≤cap2∧(∀r∈orows++rows,r.length=sz)∧RelL w.drew (avs O l h) l h (orows++rows).flatten zs:=by
        intro base cap orows y hy ry hor hol ha hro hlt
        subst hy
        obtain⟨p1,p2⟩:=pre ha
        obtain⟨g1,_⟩:=bF (P:=P) R rx hrows p1
        obtain⟨_,news,g2,g3⟩:=bF (P:=P) R1 (E1.rel rx) hrows p1
        obtain⟨_,olds,g5,g6⟩:=bF (P:=P) R1 (E1.rel ry) hor hol
        obtain⟨q1,q2⟩:=hroom hro
        obtain⟨cap2,q3,q4⟩:=lv (P:=P) (ty:=ty) ht hux hdx hs hb hzv g1 g2 g5 hlt q1 q2
        refine⟨cap2,_,olds++news,(F3 zv.cells (cap2 - (orows.length+rows.length))).toList,by rw[q4,D9],by simp,?_,by rw[D9];exact q3,?_,?_⟩
        ·have h1:=g6.length
         have h2:=g3.length
         rw[aj hol] at h1
         rw[aj p1] at h2
         simp only[Array.size_append,List.size_toArray,lu,hzsz,←h1,←h2,←EX]
         congr 1;omega
        ·intro r hr
         rcases DX.1 hr with hr|hr
         ·exact hol r hr
         ·exact p1 r hr
        ·rw[EV];exact g6.append g3
       have news:∀(orows:List (List D)) (y:Value) (base:Option Addr) (cap:Nat),y=.slice base orows.length cap→Rel w (avs O l h) l h s y→rowsD h s=some orows→(∀r∈orows,r.length=sz) →
         rows.all (rowOk sz)=true→roomOk (orows.length+rows.length) by'=true→cap<orows.length+rows.length→d=.ref (.vec h.length 0)→h'=h++[.vec (orows++rows) 0 sz] →
         ∃v w' l',(EM #[t,tx] ty #[y,yx]).run P w=.ok v w'∧Rep Γ O w' l' h'∧Ext w l h w' l' h'∧Rel w' (avs O l' h') l' h' d v:=by
        intro orows y base cap hy ry hor hol ha hro hlt hd2 hh2
        obtain⟨cap2,cs,zs,rest,k1,k2,k3,k4,k5,k6⟩:=mk base cap orows y hy ry hor hol ha hro hlt
        obtain⟨l',k7,k8,k9⟩:=ic R1 w.drew ⟨rfl,rfl,rfl,rfl,(by first|exact DJ _|exact Fh _)⟩ e cs (orows++rows) sz cap2 zs rest k2 k3 k4 k5 k6
        subst hd2;subst hh2
        exact⟨_,_,l',k1,k7,E1.trans k8,k9⟩
       split at hd
       ·-- nil
        simp only[Dj,Dm,Dr] at hd
        obtain⟨⟨ha,hro⟩,rfl,rfl⟩:=hd
        simp only[Rel,RelP] at rs
        subst rs
        cases hrl:rows with
        | nil =>
         subst hrl
         obtain⟨g1,nw,g2,g3⟩:=bF (P:=P) R rx hrows (pre ha).1
         obtain⟨l',k7,k8,k9⟩:=sO R sz
         exact⟨_,_,l',em ht hux hdx hs g1 g2,k7,k8,k9⟩
        | cons r0 rs' =>
         rw[←hrl]
         exact news [] (.slice none 0 0) none 0 rfl (by simp[Rel,RelP]) (by simp[rowsD]) (by simp) ha hro (by rw[hrl];simp) rfl (by simp)
       ·-- bN
        rename_i es
        simp only[Dj,Dm,Dr,ED,GH] at hd
        obtain⟨⟨⟨⟨ha,hro⟩,hne⟩,hel⟩,rfl,rfl⟩:=hd
        have hol:∀r∈es.map (·.map D.p),r.length=sz:=by
         simp only[DK,decide_eq_true_eq] at hel
         intro r hr
         obtain⟨r0,h0,rfl⟩:=List.mem_map.1 hr
         simpa using hel r0 h0
        have hpos:0<rows.length:=GI.2 hne
        have rs':=rs
        simp only[Rel] at rs
        rcases rs with ⟨rfl,a0,rfl⟩|⟨blk,off,sz2,rfl,rr⟩
        ·exact news [] _ a0 0 rfl rs' (by simp[rowsD]) (by simp) ha hro (by simpa using hpos) rfl (by simp)
        ·exact news (es.map (·.map .p)) _ (some ⟨blk,off,none⟩) es.length (by simp) rs' (by simp[rowsD]) hol ha (by simpa using hro) (by simp;omega) rfl rfl
       ·-- a bN part
        rename_i b e' i n
        cases hbk:h[b]? with
        | none=>simp[hbk] at hd
        | some bx =>
         cases bx<;>simp only[hbk,reduceCtorEq] at hd
         rename_i es e2 sz'
         split at hd
         case isFalse=>simp at hd
         rename_i he
         obtain⟨rfl,rfl⟩:=he
         simp only[Dj,Dm,Dr,ED,GH] at hd
         obtain⟨⟨⟨ha,hro⟩,hne⟩,rfl,rfl⟩:=hd
         have hpos:0<rows.length:=GI.2 hne
         have rs':=rs
         obtain⟨_,hr⟩:=rs
         simp only[hbk] at hr
         obtain⟨hin,blk,oo,cap,c2,hlb,hy,_,_,hc⟩:=hr.2 trivial
         have hc2:=hc trivial
         subst hc2
         have hlen:((es.drop i).take c2).length=c2:=by simp;omega
         have hok:=R.blk b _ hbk
         simp only[BlkOk,hlb] at hok
         obtain⟨_,_,_,c,T,fr,ys',o1,o2,o3,o4,o5,o6,o7⟩:=hok
         rcases hy with rfl|⟨a0,rfl,_⟩
         ·exact news ((es.drop i).take c2) _ (some _) c2 (by rw[hlen]) rs' (by simp[rowsD,hbk]) (fun r hr=>o5 r (FG (FH hr))) ha (by rw[hlen];exact hro) (by rw[hlen];omega) rfl rfl
         ·exact news ((es.drop i).take c2) _ a0 c2 (by rw[hlen]) rs' (by simp[rowsD,hbk]) (fun r hr=>o5 r (FG (FH hr))) ha (by rw[hlen];exact hro) (by rw[hlen];omega) rfl rfl
       ·-- the rest of a vector
        rename_i b e' i n
        cases hbk:h[b]? with
        | none=>simp[hbk] at hd
        | some bx =>
         cases bx<;>simp only[hbk,reduceCtorEq] at hd
         rename_i es e2 sz'
         split at hd
         case isFalse=>simp at hd
         rename_i he
         obtain⟨rfl,rfl,hin⟩:=he
         simp only[Dj,Dm,Dr,ED,GH] at hd
         obtain⟨⟨⟨ha,hro⟩,hne⟩,rfl,rfl⟩:=hd
         have hpos:0<rows.length:=GI.2 hne
         have rs':=rs
         obtain⟨_,hr⟩:=rs
         simp only[hbk] at hr
         obtain⟨_,blk,oo,cap,c2,hlb,hy,hnc,hic,_⟩:=hr.2 trivial
         have hlen:(es.drop i).length=n:=by simp;omega
         have hok:=R.blk b _ hbk
         simp only[BlkOk,hlb] at hok
         obtain⟨o2',cc,rc,c,T,fr,ys',o1,o2,o3,o4,o5,o6,pr,rest,o0,o7⟩:=hok
         obtain⟨rfl,rfl⟩:=b6 rc
         have hor:rowsD h (.ref (.vs b e' i n false))=some (es.drop i):=by
          simp only[rowsD,hbk,if_true]
          rw[EO (by omega)]
         have grow:∀(base:Option Addr),ys=.slice base n c2→c2<n+rows.length →
           ∃v w' l',(EM #[t,tx] ty #[ys,yx]).run P w=.ok v w'∧Rep Γ O w' l' (h.set b (.vec (es.drop i++rows) (e'+1) sz'))∧Ext w l h w' l' (h.set b (.vec (es.drop i++rows) (e'+1) sz')) ∧
            Rel w' (avs O l' (h.set b (.vec (es.drop i++rows) (e'+1) sz'))) l' (h.set b (.vec (es.drop i++rows) (e'+1) sz')) (.ref (.vec b (e'+1))) v:=by
          intro base hy hlt
          obtain⟨cap2,cs,zs,rest,k1,k2,k3,k4,k5,k6⟩:=mk base c2 (es.drop i) ys (by rw[hlen];exact hy) rs' hor (fun r hr=>o5 r (FG hr)) ha (by rw[hlen];exact hro) (by rw[hlen];exact hlt)
          obtain⟨l',k7,k8,k9⟩:=og R1 hbk w.drew ⟨rfl,rfl,rfl,rfl,(by first|exact DJ _|exact Fh _)⟩ e cs (es.drop i++rows) cap2 zs rest k2 k3 k4 k5 k6
          exact⟨_,_,l',k1,k7,E1.trans k8,k9⟩
         rcases hy with hy|⟨a0,hy,hc0⟩
         ·by_cases hfit:n+rows.length≤c2
          ·subst hy
           obtain⟨p1,p2⟩:=pre ha
           obtain⟨g1,nw,g2,g3⟩:=bF (P:=P) R rx hrows p1
           have hnl:nw.length=rows.length*sz':=by rw[←g3.length,aj p1]
           have hcz0:oo+i*sz'+c2*sz'≤c.size:=by
            have:=EW sz' hic
            rw[EX] at this
            omega
           obtain⟨w',c',k1,k2,k3,k4,k5,k6⟩:=gi (P:=P) (ty:=ty) (T:=T) ht hux hdx hs g1 g2 (ia g3 p2) hnl hfit o1 o4 hcz0
           have hyl:ys'.length=i*sz'+n*sz':=by rw[←o6.length,aj o5,←EX,hin]
           have hfd:(es.drop i).flatten=es.flatten.drop (i*sz'):=by
            have:=ar o5 i n (by omega)
            rw[EO (by omega),EO (l:=es.flatten.drop (i*sz')) (by rw[Ez,aj o5,←hin,EX];omega)] at this
            exact this
           have hcz:c'.size=c.size:=by
            have hh:=congrArg Dl k5
            have h9:=EW sz' hfit
            rw[EX] at h9
            simp only[aK,D9,EZ,Ez,ER] at hh
            omega
           have:=R.step (w':=w') (l':=l.upd b (some (blk,mkP (oo+i*sz') c2))) (h':=h.set b (.vec (es.drop i++rows) (e'+1) sz')) b (.vec (es.drop i++rows) (e'+1) sz') (by omega) k6
            (fun i hi=>bo _ _ hi) (aU hbk) (fun i hi=>Loc.upd_ne _ _ _ hi)
            (fun z hz=>by rw[hbk] at hz;cases hz;exact⟨⟨Fh _,fun hh=>absurd hh (by omega),rfl⟩,fun hh=>absurd hh (by simp[HK])⟩)
            (fun k hk hno=>k3 k (fun ee=>hno _ (mkP oo cap) hbk (by simp) (by rw[hlb,ee])))
            (fun k cc hk=>by
             rw[F7] at hk
             cases hk
             exact .inl ⟨_,_,hbk,by simp,hlb⟩)
            (fun E=>by
             simp only[BlkOk,F7]
             refine⟨oo+i*sz',c2,rfl,c',T,fr,ys'.drop (i*sz')++nw,k4,by omega,by rw[D9,hlen];exact hfit,by rw[hcz];exact o4,?_,?_,pr++ys'.take (i*sz'),rest.drop nw.length,?_,?_⟩
             ·intro r hr
              rcases DX.1 hr with hr|hr
              ·exact o5 r (FG hr)
              ·exact p1 r hr
             ·rw[EV,hfd];exact((E.relL o6).drop _).append (E.relL g3)
             ·rw[D9,EZ];omega
             ·have e1:oo+i*sz'+n*sz'=(pr++ys').length:=by rw[D9];omega
              rw[k5,o7]
              unfold aK
              rw[e1,List.take_left',GG]
              ·simp only[FA]
               rw[←FA (ys'.take _) (ys'.drop _),List.take_append_drop]
               simp
              ·rfl)
           refine⟨_,w',_,k1,this.1,this.2,?_⟩
           simp only[Rel,RefRel]
           refine⟨rfl,?_⟩
           rw[aU hbk]
           simp only[F7,ga]
           exact⟨DJ _,fun _=>⟨_,_,rfl,by rw[D9,hlen],by rw[D9,hlen];exact hfit⟩⟩
          ·exact grow _ hy (by omega)
         ·exact grow _ hy (by omega)
       ·-- an owned vector
        rename_i b e'
        cases hbk:h[b]? with
        | none=>simp[hbk] at hd
        | some bx =>
         cases bx<;>simp only[hbk,reduceCtorEq] at hd
         rename_i es e2 sz'
         split at hd
         case isFalse=>simp at hd
         rename_i he
         obtain⟨rfl,rfl⟩:=he
         simp only[Dj,Dm,Dr] at hd
         obtain⟨⟨ha,hro⟩,rfl,rfl⟩:=hd
         have rs':=rs
         obtain⟨_,hr⟩:=rs
         simp only[hbk] at hr
         have hv:=hr.2 trivial
         have hok:=R.blk b _ hbk
         have grow:∀(base:Option Addr) (cap:Nat),ys=.slice base es.length cap→(∀r∈es,r.length=sz')→cap<es.length+rows.length →
           ∃v w' l',(EM #[t,tx] ty #[ys,yx]).run P w=.ok v w'∧Rep Γ O w' l' (h.set b (.vec (es++rows) (e'+1) sz'))∧Ext w l h w' l' (h.set b (.vec (es++rows) (e'+1) sz')) ∧
            Rel w' (avs O l' (h.set b (.vec (es++rows) (e'+1) sz'))) l' (h.set b (.vec (es++rows) (e'+1) sz')) (.ref (.vec b (e'+1))) v:=by
          intro base cap hy hol hlt
          obtain⟨cap2,cs,zs,rest,k1,k2,k3,k4,k5,k6⟩:=mk base cap es ys hy rs' (by simp[rowsD,hbk]) hol ha hro hlt
          obtain⟨l',k7,k8,k9⟩:=og R1 hbk w.drew ⟨rfl,rfl,rfl,rfl,(by first|exact DJ _|exact Fh _)⟩ e cs (es++rows) cap2 zs rest k2 k3 k4 k5 k6
          exact⟨_,_,l',k1,k7,E1.trans k8,k9⟩
         cases hlb:l b with
         | none =>
          simp only[hlb,ga,BlkOk] at hv hok
          obtain⟨_,rfl⟩:=hv
          subst hok
          cases hrl:rows with
          | nil =>
           subst hrl
           obtain⟨g1,nw,g2,g3⟩:=bF (P:=P) R rx hrows (pre ha).1
           have:=R.step (w':=w) (l':=l) (h':=h.set b (.vec ([]++[]) (e'+1) sz')) b (.vec ([]++[]) (e'+1) sz') (DJ _) ⟨rfl,rfl,rfl,(by first|exact DJ _|exact Fh _)⟩
            (fun i hi=>bo _ _ hi) (aU hbk) (fun _ _=>rfl)
            (fun z hz=>by rw[hbk] at hz;cases hz;exact⟨⟨Fh _,fun hh=>absurd hh (by omega),rfl⟩,fun hh=>absurd hh (by simp[HK])⟩)
            (fun _ _ _=>rfl) (fun k c hk=>by rw[hlb] at hk;simp at hk) (fun E=>by simp[BlkOk,hlb])
           refine⟨_,_,l,em ht hux hdx hs g1 g2,this.1,this.2,?_⟩
           simp only[Rel,RefRel]
           refine⟨rfl,?_⟩
           rw[aU hbk]
           simp[ga,hlb]
          | cons r0 rs2 =>
           rw[←hrl]
           exact grow none 0 rfl (by simp) (by rw[hrl];simp)
         | some pr =>
          obtain⟨blk,cp0⟩:=pr
          simp only[hlb,ga,BlkOk] at hv hok
          obtain⟨oo,cap,rfl,rfl,hvl⟩:=hv
          obtain⟨o2',cc,rc,c,T,fr,ys',o1,o2,o3,o4,o5,o6,pr,rest,o0,o7⟩:=hok
          obtain⟨rfl,rfl⟩:=b6 rc
          by_cases hfit:es.length+rows.length≤cap
          ·obtain⟨p1,p2⟩:=pre ha
           obtain⟨g1,nw,g2,g3⟩:=bF (P:=P) R rx hrows p1
           have hnl:nw.length=rows.length*sz':=by rw[←g3.length,aj p1]
           obtain⟨w',c',k1,k2,k3,k4,k5,k6⟩:=gi (P:=P) (ty:=ty) (T:=T) ht hux hdx hs g1 g2 (ia g3 p2) hnl hfit o1 o4 o2
           have hyl:ys'.length=es.length*sz':=by rw[←o6.length,aj o5]
           have hcz:c'.size=c.size:=by
            have hh:=congrArg Dl k5
            have hcl:c.toList.length=pr.length+ys'.length+rest.length:=by rw[o7];simp only[D9]
            have h9:=EW sz' hfit
            rw[EX] at h9
            simp only[aK,D9,EZ,Ez,ER] at hh hcl
            omega
           have:=R.step (w':=w') (l':=l) (h':=h.set b (.vec (es++rows) (e'+1) sz')) b (.vec (es++rows) (e'+1) sz') (by omega) k6
            (fun i hi=>bo _ _ hi) (aU hbk) (fun _ _=>rfl)
            (fun z hz=>by rw[hbk] at hz;cases hz;exact⟨⟨Fh _,fun hh=>absurd hh (by omega),rfl⟩,fun hh=>absurd hh (by simp[HK])⟩)
            (fun k hk hno=>k3 k (fun ee=>hno _ (mkP oo cap) hbk (by simp) (by rw[hlb,ee])))
            (fun k cc hk=>.inl ⟨_,cc,hbk,by simp,hk⟩)
            (fun E=>by
             simp only[BlkOk,hlb]
             refine⟨oo,cap,rfl,c',T,fr,ys'++nw,k4,by omega,by simpa using hfit,by rw[hcz];exact o4,?_,?_,pr,rest.drop nw.length,o0,?_⟩
             ·intro r hr
              rcases DX.1 hr with hr|hr
              ·exact o5 r hr
              ·exact p1 r hr
             ·rw[EV];exact(E.relL o6).append (E.relL g3)
             ·rw[k5,o7]
              unfold aK
              have e1:oo+es.length*sz'=(pr++ys').length:=by rw[D9];omega
              rw[e1,List.take_left',GG]
              ·simp
              ·rfl)
           refine⟨_,w',l,k1,this.1,this.2,?_⟩
           simp only[Rel,RefRel]
           refine⟨rfl,?_⟩
           rw[aU hbk]
           simp only[hlb,ga]
           exact⟨DJ _,fun _=>⟨_,_,rfl,by rw[D9],by rw[D9];exact hfit⟩⟩
          ·exact grow (some ⟨blk,oo,none⟩) cap rfl o5 (by omega)
       ·simp at hd
end
section
variable {P:Program} {Γ:ae} {O:Nat→Prop} {w:World} {l:Loc} {h:List Blk}
theorem al{av:Nat→Prop}{x y:Value}(r:Rel w av l h (.p (.v x)) y):y=x:=by simpa[Rel,RelP] using r
theorem eqS_eq(a b:ByteArray):(a.toList==b.toList)=eqS a b:=by simp[eqS,Ij]
theorem gj{op:BinOp}{k:IntKind}{a b n:Int}(hb:tV op k a b=some n)(w:World):(Op.intBits op k a b).run P w=.ok (.int k n) w:=by
 unfold tV at hb
 cases op<;>simp only[Dj,reduceCtorEq] at hb<;>subst hb<;>rfl
theorem intOp_run{op:BinOp}{k:IntKind}{t:TypeId}{a b:Int}{d:D}(hd:intOp op k a b=some (true,d))(w:World):
  ∃v,(binOp op t (.int k a) (.int k b)).run P w=.ok v w∧Rel w (avs O l h) l h d v:=by
 cases op<;>simp only[intOp,Dj,Dm,true_and,Du] at hd
 case quo =>
  obtain⟨h1,rfl⟩:=hd
  simp only[ED,decide_eq_false_iff_not] at h1
  exact⟨_,by simp[binOp,Op.intDiv,h1],rel_lit _ _ _ _ _⟩
 case rem =>
  obtain⟨h1,rfl⟩:=hd
  simp only[ED,decide_eq_false_iff_not] at h1
  exact⟨_,by simp[binOp,Op.intDiv,h1],rel_lit _ _ _ _ _⟩
 case add=>subst hd;exact⟨_,by simp[binOp,H1],rel_lit _ _ _ _ _⟩
 case sub=>subst hd;exact⟨_,by simp[binOp,H1],rel_lit _ _ _ _ _⟩
 case mul=>subst hd;exact⟨_,by simp[binOp,H1],rel_lit _ _ _ _ _⟩
 case eql=>subst hd;exact⟨_,by simp[binOp,Hj],rel_lit _ _ _ _ _⟩
 case neq=>subst hd;exact⟨_,by simp[binOp,Hj],rel_lit _ _ _ _ _⟩
 case lss=>subst hd;exact⟨_,by simp[binOp,Hj],rel_lit _ _ _ _ _⟩
 case leq=>subst hd;exact⟨_,by simp[binOp,Hj],rel_lit _ _ _ _ _⟩
 case gtr=>subst hd;exact⟨_,by simp[binOp,Hj],rel_lit _ _ _ _ _⟩
 case geq=>subst hd;exact⟨_,by simp[binOp,Hj],rel_lit _ _ _ _ _⟩
 case and=>obtain⟨n,h1,rfl⟩:=hd;exact⟨_,by simpa[binOp] using gj h1 w,rel_lit _ _ _ _ _⟩
 case or=>obtain⟨n,h1,rfl⟩:=hd;exact⟨_,by simpa[binOp] using gj h1 w,rel_lit _ _ _ _ _⟩
 case xor=>obtain⟨n,h1,rfl⟩:=hd;exact⟨_,by simpa[binOp] using gj h1 w,rel_lit _ _ _ _ _⟩
 case andNot=>obtain⟨n,h1,rfl⟩:=hd;exact⟨_,by simpa[binOp] using gj h1 w,rel_lit _ _ _ _ _⟩
 all_goals (obtain⟨n,h1,rfl⟩:=hd;simp[tV] at h1)
theorem tY{op:BinOp}{t:TypeId}{a b:ByteArray}{d:D}(hd:strOp op a b=some (true,d))(w:World):
  ∃v,(binOp op t (.string a) (.string b)).run P w=.ok v w∧Rel w (avs O l h) l h d v:=by
 cases op<;>simp only[strOp,Dj,Dm,true_and,reduceCtorEq] at hd
 case add =>
  obtain⟨h1,rfl⟩:=hd
  have h2:¬(((a.size+b.size:Nat):Int)>Dk.max):=by
   have:Dk.max=9223372036854775807:=rfl
   rw[this];simp only[decide_eq_true_eq] at h1;omega
  exact⟨_,by simp only[binOp,Op.stringOp,h2,if_false];rfl,rel_lit _ _ _ _ _⟩
 all_goals
  subst hd
  refine⟨_,by simp only[binOp,Op.stringOp,Ij];rfl,rel_lit _ _ _ _ _⟩
theorem sQ{op:BinOp}{t:TypeId}{xo yo:Operand}{x y d:D}{a b:Value}(rx:Rel w (avs O l h) l h x a)(ry:Rel w (avs O l h) l h y b)(hd:binD op x y=some (true,d)):
  ∃v,(do eqGuard op t xo yo a b;binOp op t a b:Sem Value).run P w=.ok v w∧Rel w (avs O l h) l h d v:=by
 unfold binD at hd
 split at hd
 ·rename_i k n k' m
  obtain rfl:=al rx
  obtain rfl:=al ry
  have hg:(eqGuard op t xo yo (.int k n) (.int k' m)).run P w=.ok () w:=by
   unfold eqGuard
   cases op<;>simp
  simp only[DG,hg,DC]
  split at hd
  ·simp only[Dj,Dm,decide_eq_true_eq] at hd
   obtain⟨h1,rfl⟩:=hd
   exact⟨_,by simp[binOp,Op.shift,G3.2 h1],rel_lit _ _ _ _ _⟩
  ·simp only[Dj,Dm,decide_eq_true_eq] at hd
   obtain⟨h1,rfl⟩:=hd
   exact⟨_,by simp[binOp,Op.shift,G3.2 h1],rel_lit _ _ _ _ _⟩
  ·split at hd
   ·rename_i hk;subst hk;exact intOp_run hd w
   ·simp at hd
 ·rename_i s u
  obtain rfl:=al rx
  obtain rfl:=al ry
  have hg:(eqGuard op t xo yo (.string s) (.string u)).run P w=.ok () w:=by
   unfold eqGuard
   cases op<;>simp
  simp only[DG,hg,DC]
  exact tY hd w
 ·simp at hd
theorem tZ{op:UnOp}{x d:D}{a:Value}(rx:Rel w (avs O l h) l h x a)(hd:unD op x=some d):∃v,(Jd op a).run P w=.ok v w∧Rel w (avs O l h) l h d v:=by
 unfold unD at hd
 split at hd
 ·obtain rfl:=al rx
  split at hd
  ·cases hd;exact⟨_,by simp[Jd,H1],rel_lit _ _ _ _ _⟩
  ·simp only[Du] at hd
   obtain⟨n,h1,rfl⟩:=hd
   exact⟨_,by simpa[Jd] using gj h1 w,rel_lit _ _ _ _ _⟩
  ·simp at hd
 ·obtain rfl:=al rx
  split at hd
  ·cases hd;exact⟨_,by simp[Jd],rel_lit _ _ _ _ _⟩
  ·simp at hd
 ·simp at hd
theorem pS{c x y d:D}{vc vx vy:Value}(rc:Rel w (avs O l h) l h c vc)(rx:Rel w (avs O l h) l h x vx)(ry:Rel w (avs O l h) l h y vy)(hd:pickD c x y=some (true,d)):
  ∃v,(do pure (.value (if ←asBool vc then vx else vy)):Sem Next).run P w=.ok (.value v) w∧Rel w (avs O l h) l h d v:=by
 unfold pickD at hd
 split at hd
 case h_2=>simp at hd
 rename_i b
 obtain rfl:=al rc
 split at hd
 ·cases hd
  obtain rfl:=al rx
  obtain rfl:=al ry
  cases b
  ·exact⟨_,by simp[asBool],rel_lit _ _ _ _ _⟩
  ·exact⟨_,by simp[asBool],rel_lit _ _ _ _ _⟩
 ·simp only[Dj,Dm,E9] at hd
  obtain⟨hg,rfl⟩:=hd
  obtain rfl:=al rx
  cases b
  ·simp only[Rel] at ry
   have:=ry.1 (by simpa using hg)
   simp only[RelP] at this
   subst this
   exact⟨_,by simp[asBool],rel_lit _ _ _ _ _⟩
  ·exact⟨_,by simp[asBool],rel_lit _ _ _ _ _⟩
 ·simp only[Dj,Dm,E9] at hd
  obtain⟨hg,rfl⟩:=hd
  obtain rfl:=al ry
  cases b
  ·exact⟨_,by simp[asBool],rel_lit _ _ _ _ _⟩
  ·simp only[Rel] at rx
   have:=rx.1 (by simpa using hg)
   simp only[RelP] at this
   subst this
   exact⟨_,by simp[asBool],rel_lit _ _ _ _ _⟩
 ·cases hd
  cases b
  ·exact⟨_,by simp[asBool],ry⟩
  ·exact⟨_,by simp[asBool],rx⟩
theorem pT{src dst:TypeId}{x d:D}{a:Value}(rx:Rel w (avs O l h) l h x a)(hd:zE P src dst x=some d):
  ∃v,(convert src dst a).run P w=.ok v w∧Rel w (avs O l h) l h d v:=by
 unfold zE at hd
 split at hd
 ·rename_i s k n h1 h2
  cases hd
  obtain rfl:=al rx
  refine⟨_,?_,rel_lit _ _ _ _ _⟩
  simp only[convert,DG,und_run h1,und_run h2,DC,Conv.intToInt,DQ]
 ·rename_i s n h1 h2
  cases hd
  obtain rfl:=al rx
  refine⟨_,?_,rel_lit _ _ _ _ _⟩
  simp only[convert,DG,und_run h1,und_run h2,DC]
  cases s<;>simp
 ·simp at hd
theorem dK{mx:Bool}{t:TypeId}{ts:Array TypeId}:∀{xs:List D} {x d:D} {a:Value} {vs:List Value} (_:Rel w (avs O l h) l h x a) (_:RelL w (avs O l h) l h xs vs) (_:ib mx x xs=some d),
  ∃v,(vs.foldlM (if mx then Builtin.max2 else Builtin.min2) a).run P w=.ok v w∧Rel w (avs O l h) l h d v
 | [],x,d,a,[],rx,_,hd=>by simp only[ib,Dj] at hd;subst hd;exact⟨a,by simp,rx⟩
 | y::xs,x,d,a,v::vs,rx,rl,hd=>by
  simp only[RelL] at rl
  simp only[ib] at hd
  cases h1:intOf? x with
  | none=>simp[h1] at hd
  | some p1 =>
   cases h2:intOf? y with
   | none=>simp[h1,h2] at hd
   | some p2 =>
    obtain⟨k,n⟩:=p1
    obtain⟨k2,m⟩:=p2
    simp only[h1,h2] at hd
    obtain rfl:=bg rx h1
    obtain rfl:=bg rl.1 h2
    obtain⟨v,h3,h4⟩:=dK (t:=t) (ts:=ts) (a:=.int k (if mx then (if m>n then m else n) else (if m<n then m else n))) (rel_lit _ _ _ _ _) rl.2 hd
    refine⟨v,?_,h4⟩
    rw[List.foldlM_cons,DG]
    cases mx<;>simpa[Builtin.max2,Builtin.min2] using h3
 | [],_,_,_,_::_,_,rl,_=>by simp[RelL] at rl
 | _::_,_,_,_,[],_,rl,_=>by simp[RelL] at rl
theorem sR{x:D}{y:Value}{n:Nat}(rx:Rel w (avs O l h) l h x y)(hx:lenD h x=some n):∃a c,y=.slice a n c:=by
 cases x with
 | p dp =>
  cases dp with
  | v x =>
   obtain rfl:=al rx
   cases y<;>simp[lenD] at hx
   case slice a m c=>cases a<;>cases m<;>cases c<;>simp at hx;subst hx;exact⟨_,_,rfl⟩
  | sl es =>
   simp only[lenD,Dj] at hx
   subst hx
   simp only[Rel,RelP] at rx
   rcases rx with ⟨rfl,_,_,rfl,_⟩|⟨blk,off,cap,sz,rfl,_,rr⟩<;>exact⟨_,_,rfl⟩
 | csl es =>
  simp only[lenD,Dj] at hx
  subst hx
  simp only[Rel] at rx
  rcases rx with ⟨rfl,_,rfl⟩|⟨blk,off,sz,rfl,rr⟩<;>exact⟨_,_,rfl⟩
 | ref r =>
  obtain⟨g1,hr⟩:=rx
  cases r with
  | vec b e =>
   simp only[lenD] at hx hr
   cases hb:h[b]? with
   | none=>simp[hb] at hx
   | some bx =>
    cases bx<;>simp only[hb,reduceCtorEq] at hx hr
    split at hx
    case isFalse=>simp at hx
    rename_i he
    cases hx
    have hv:=hr.2 he.symm
    cases hlb:l b with
    | none=>simp only[hlb,ga] at hv;rw[hv.1,hv.2];exact⟨_,_,rfl⟩
    | some pr=>obtain⟨blk,cap⟩:=pr;simp only[hlb,ga] at hv;obtain⟨_,_,_,rfl,_⟩:=hv;exact⟨_,_,rfl⟩
  | vs b e i m c =>
   simp only[lenD] at hx hr
   cases hb:h[b]? with
   | none=>simp[hb] at hx
   | some bx =>
    cases bx<;>simp only[hb,reduceCtorEq] at hx hr
    split at hx
    case isFalse=>simp at hx
    rename_i he
    cases hx
    obtain⟨_,blk,oo,cap,c2,_,hy,_⟩:=hr.2 he.symm
    rcases hy with rfl|⟨_,rfl,_⟩<;>exact⟨_,_,rfl⟩
  | av b off m sz =>
   simp only[lenD] at hx hr
   cases hb:h[b]? with
   | none=>simp[hb] at hx
   | some bx =>
    cases bx<;>simp only[hb,reduceCtorEq] at hx hr
    cases hx
    obtain⟨blk,cp,c2,_,rfl,_⟩:=hr
    exact⟨_,_,rfl⟩
  | _=>simp[lenD] at hx
 | _=>simp[lenD] at hx
theorem eo:∀(kvs:List (D×D×Nat)) (es:List MapEntry),RelKV w (avs O l h) l h kvs es→kvs.length=es.length
 | [],[],_=>rfl
 | (_,_,_)::kvs,e::es,r=>by simp only[RelKV] at r;simp[eo kvs es r.2.2.2]
 | [],_::_,r=>by simp[RelKV] at r
 | _::_,[],r=>by simp[RelKV] at r
theorem pU(R:Rep Γ O w l h){t ty:TypeId}{ts:List TypeId}{x d:D}{y:Value}(rx:Rel w (avs O l h) l h x y)(hd:sN P h t x=some d):
  ∃v,(Gn (t::ts).toArray ty #[y]).run P w=.ok v w∧Rel w (avs O l h) l h d v:=by
 unfold sN at hd
 cases hu:P.underlying t with
 | none=>simp[hu] at hd
 | some u =>
  cases u<;>simp only[hu,reduceCtorEq,Du,Dj] at hd
  case array n e=>subst hd;exact⟨_,by simp[Gn,und_run hu,goInt],rel_lit _ _ _ _ _⟩
  case string =>
   split at hd
   ·cases hd
    obtain rfl:=al rx
    exact⟨_,by simp[Gn,und_run hu,goInt],rel_lit _ _ _ _ _⟩
   ·simp at hd
  case slice e =>
   obtain⟨n,h1,rfl⟩:=hd
   obtain⟨a,c,rfl⟩:=sR rx h1
   exact⟨_,by simp[Gn,und_run hu,goInt],rel_lit _ _ _ _ _⟩
  case map kt et =>
   split at hd
   ·cases hd
    obtain rfl:=al rx
    exact⟨_,by simp[Gn,und_run hu,goInt],rel_lit _ _ _ _ _⟩
   ·rename_i b
    cases hb:h[b]? with
    | none=>simp[hb] at hd
    | some bx =>
     obtain⟨_,hr⟩:=rx
     cases bx<;>simp only[hb,reduceCtorEq,Dj] at hd hr
     subst hd
     obtain⟨blk,cp,hlb,rfl⟩:=hr
     obtain⟨blk',cp',es,h1,h2,h3⟩:=R.blk b _ hb
     obtain⟨rfl,rfl⟩:blk=blk'∧cp=cp':=by simpa[hlb] using h1
     refine⟨_,?_,rel_lit _ _ _ _ _⟩
     simp[Gn,und_run hu,getObj,Sem.run,h2,goInt,eo _ _ h3]
   ·simp at hd
end
section
variable {P:Program} {Γ:ae} {O:Nat→Prop} {w:World} {l:Loc} {h:List Blk}
theorem jV:∀(vs:List Value) (k off:Nat) (cs:Array Value),off+k+vs.length≤cs.size →
  ((vs.zipIdx k).foldl (fun cs (p:Value×Nat)=>cs.setIfInBounds (off+p.2) p.1) cs).toList=aK cs.toList (off+k) vs
 | [],k,off,cs,_=>by simp[aK]
 | v::vs,k,off,cs,hl=>by
  simp only[Ex] at hl
  simp only[List.zipIdx_cons,List.foldl_cons]
  rw[jV vs (k+1) off (cs.setIfInBounds (off+k) v) (by simp;omega)]
  simp only[aK,Array.toList_setIfInBounds,Ex]
  have hlt:off+k<cs.toList.length:=by simp;omega
  rw[List.drop_set,if_pos (by omega)]
  have h8:(cs.toList.set (off+k) v).take (off+(k+1))=cs.toList.take (off+k)++[v]:=by
   rw[show off+(k+1)=(off+k)+1 by omega,List.take_succ_eq_append_getElem (by simpa using hlt),List.take_set,List.set_eq_of_length_le (by simp;omega)]
   simp
  rw[h8,show off+(k+1)+vs.length=off+k+(vs.length+1) by omega]
  simp
theorem oi(vs:Array Value)(off:Nat)(cs:Array Value)(hl:off+vs.size≤cs.size):
  (vs.zipIdx.foldl (fun cs (p:Value×Nat)=>cs.setIfInBounds (off+p.2) p.1) cs).toList=aK cs.toList off vs.toList:=by
 have:=jV vs.toList 0 off cs (by simpa using hl)
 rw[←Array.foldl_toList,Array.toList_zipIdx]
 simpa using this
theorem eS{place:Nat→Option (Nat×Nat)}:∀{ps:List (Nat×D)} {qs:List (Nat×Value)} {cs cs':List D} {vs:Array Value},ps.length=qs.length →
  (∀(j:Nat) (p:Nat×D) (q:Nat×Value),ps[j]? = some p→qs[j]? = some q→p.1=q.1∧Rel w (avs O l h) l h p.2 q.2)→RelL w (avs O l h) l h cs vs.toList→nX place cs ps=some cs' →
  ∃vs',Instr.fill place vs qs=some vs'∧RelL w (avs O l h) l h cs' vs'.toList∧vs'.size=vs.size
 | [],[],cs,cs',vs,_,_,r,hd=>by simp only[nX,Dj] at hd;subst hd;exact⟨vs,rfl,r,rfl⟩
 | p::ps,q::qs,cs,cs',vs,hl,hp,r,hd=>by
  obtain⟨i,d⟩:=p
  obtain⟨i',y⟩:=q
  obtain⟨rfl,rd⟩:=hp 0 (i,d) (i',y) (by simp) (by simp)
  simp only[nX] at hd
  cases hpl:place i with
  | none=>simp[hpl] at hd
  | some os =>
   obtain⟨off,size⟩:=os
   cases hc:d.cells with
   | none=>simp[hpl,hc] at hd
   | some new =>
    simp only[hpl,hc] at hd
    split at hd
    case isFalse=>simp at hd
    rename_i hcond
    obtain⟨g1,g2⟩:=hcond
    obtain⟨c1,c2⟩:=cQ rd hc
    have hys:y.cells.size=size:=by rw[←g1,c1.length];simp
    have hcl:=r.length
    have hvs:vs.toList.length=vs.size:=by simp
    have hsp:=oi y.cells off vs (by omega)
    have rsp:RelL w (avs O l h) l h (ba cs off new) (y.cells.zipIdx.foldl (fun cs (p:Value×Nat)=>cs.setIfInBounds (off+p.2) p.1) vs).toList:=by
     rw[hsp];exact r.splice off c1
    obtain⟨vs',f1,f2,f3⟩:=eS (ps:=ps) (qs:=qs) (by simpa using hl) (fun j p q h1 h2=>hp (j+1) p q (by simpa using h1) (by simpa using h2)) rsp hd
    refine⟨vs',?_,f2,?_⟩
    ·simp only[Instr.fill,hpl]
     rw[if_neg]
     ·exact f1
     ·simp[hys];omega
    ·rw[f3]
     have:=congrArg Dl hsp
     simp only[aK,D9,EZ,Ez,ER] at this
     omega
 | [],_::_,_,_,_,hl,_,_,_=>by simp at hl
 | _::_,[],_,_,_,hl,_,_,_=>by simp at hl
theorem sS{fields:List Field}{pl:List (Nat×Nat)}(hp:fields.mapM (fun f=>(szOf P f.type).map fun n=>(f.offset,n))=some pl)(w:World):
  (fields.mapM (fun f=>(do pure (f.offset,←sizeOf f.type):Sem (Nat×Nat)))).run P w=.ok pl w:=by
 induction fields generalizing pl with
 | nil=>simp at hp;subst hp;simp
 | cons f fs ih =>
  simp only[IM,Option.bind_eq_bind,Option.bind_eq_some_iff,Du,Option.pure_def,Dj] at hp
  obtain⟨p,⟨n,h1,rfl⟩,pl',h2,rfl⟩:=hp
  have:=ih h2
  simp only[IM,DG,szOf_run h1,DC,DQ] at this ⊢
  rw[this]
  simp
theorem oj{t:TypeId}{ps:List (Nat×D)}{qs:List (Nat×Value)}{d:D}(hl:ps.length=qs.length)
  (hp:∀(j:Nat) (p:Nat×D) (q:Nat×Value),ps[j]? = some p→qs[j]? = some q→p.1=q.1∧Rel w (avs O l h) l h p.2 q.2) (hd:tU P t ps=some d) :
  ∃v,(IP t qs.toArray).run P w=.ok v w∧Rel w (avs O l h) l h d v:=by
 unfold tU at hd
 cases hu:P.underlying t with
 | none=>simp[hu] at hd
 | some u =>
  cases hz:dt P t with
  | none=>cases u<;>simp[hu,hz] at hd
  | some z =>
   obtain⟨zv,hzv,rfl⟩:=cN hz
   cases u<;>simp only[hu,hz,reduceCtorEq] at hd
   case struct fields =>
    cases hpl:qO P fields with
    | none=>simp[hpl] at hd
    | some pl =>
     simp only[hpl,Du] at hd
     obtain⟨cs,h1,rfl⟩:=hd
     obtain⟨vs',f1,f2,_⟩:=eS hl hp (RelL.lits zv.cells.toList) h1
     refine⟨.agg vs',?_,by simp only[Rel];exact⟨_,rfl,f2⟩⟩
     have hm:(fields.mapM (fun f=>(do pure (f.offset,←sizeOf f.type):Sem (Nat×Nat)))).run P w=.ok pl.toArray w:=by
      rw[←Array.toArray_toList (xs:=fields)]
      rw[List.mapM_toArray]
      simp only[Sem.run_map,sS hpl w,DC]
     simp only[IP,DG,zeroV_run hzv,DC,und_run hu,hm]
     have:(fun (i:Nat)=>pl.toArray[i]?)=(fun (i:Nat)=>pl[i]?):=by funext i;simp
     rw[this,f1]
     simp
   case array n e =>
    cases hs:szOf P e with
    | none=>simp[hs] at hd
    | some sz =>
     simp only[hs,Du] at hd
     obtain⟨cs,h1,rfl⟩:=hd
     obtain⟨vs',f1,f2,_⟩:=eS hl hp (RelL.lits zv.cells.toList) h1
     refine⟨.agg vs',?_,by simp only[Rel];exact⟨_,rfl,f2⟩⟩
     simp only[IP,DG,zeroV_run hzv,DC,und_run hu,szOf_run hs,f1,DQ]
theorem gk{z:Array Value}{sz:Nat}(hz:z.size=sz):∀n,(List.range (n*sz)).map (fun i=>z[i % z.size]!)=(En n z.toList).flatten
 | 0=>by simp
 | n+1=>by
  rw[Nat.succ_mul,List.range_add,List.map_append,gk hz n,List.replicate_succ',EV]
  congr 1
  rw[List.map_map]
  apply List.ext_getElem
  ·simp[hz]
  ·intro i h1 h2
   simp only[List.length_map,List.length_range] at h1
   have:(n*sz+i) % sz=i:=by rw[Nat.add_comm,Nat.add_mul_mod_self_right,Nat.mod_eq_of_lt h1]
   simp[hz,this,h1]
theorem relL_rep{z:List Value}:∀n,RelL w (avs O l h) l h (En n (z.map lit)).flatten (En n z).flatten
 | 0=>by simp[RelL]
 | n+1=>by simp only[List.replicate_succ,List.flatten_cons];exact(RelL.lits z).append (relL_rep n)
theorem gl{t e:TypeId}(hte:fC P t=some e):P.underlying t=some (.slice e):=by
 unfold fC at hte
 cases hu:P.underlying t with
 | none=>simp[hu] at hte
 | some u=>cases u<;>simp_all
theorem ie(R:Rep Γ O w l h){t:TypeId}{len:Nat}{ps:List (Nat×D)}{qs:List (Nat×Value)}{d:D}{h':List Blk}(hl:ps.length=qs.length)
  (hp:∀(j:Nat) (p:Nat×D) (q:Nat×Value),ps[j]? = some p→qs[j]? = some q→p.1=q.1∧Rel w (avs O l h) l h p.2 q.2) (hd:cS P h t len ps=some (d,h')) :
  ∃v w' l',(HG t len qs.toArray).run P w=.ok v w'∧Rep Γ O w' l' h'∧Ext w l h w' l' h'∧Rel w' (avs O l' h') l' h' d v:=by
 unfold cS at hd
 cases hte:fC P t with
 | none=>simp[hte] at hd
 | some e =>
  have ht:=gl hte
  cases hs:szOf P e with
  | none=>simp[hte,hs] at hd
  | some sz =>
   cases hz:dt P e with
   | none=>simp[hte,hs,hz] at hd
   | some z =>
    obtain⟨zv,hzv,rfl⟩:=cN hz
    simp only[hte,hs,hz] at hd
    split at hd
    case isFalse=>simp at hd
    rename_i hc
    obtain⟨g1,g2⟩:=hc
    have hzs:zv.cells.size=sz:=by simpa using g1
    cases hf:nX (fun i=>some (i*sz,sz)) (En len (zv.cells.toList.map lit)).flatten ps with
    | none=>simp[hf] at hd
    | some cs =>
     simp only[hf,Dj,Dm] at hd
     obtain⟨rfl,rfl⟩:=hd
     have hrep:RelL w (avs O l h) l h (En len (zv.cells.toList.map lit)).flatten ((GJ (len*sz)).map (fun i=>zv.cells[i % zv.cells.size]!)).toList:=by
      rw[Gy,I9,gk hzs];exact relL_rep len
     obtain⟨vs',f1,f2,f3⟩:=eS hl hp hrep hf
     have hvs:vs'.size=len*sz:=by rw[f3];simp
     have hcl:cs.length=len*sz:=by rw[f2.length];simp[hvs]
     obtain⟨c1,c2,c3⟩:=gh (n:=sz) len cs (by rw[hcl,Nat.mul_comm];exact DJ _)
     rw[EO (by rw[hcl,Nat.mul_comm];exact DJ _)] at c1
     obtain⟨l',k7,k8,k9⟩:=ic R w ⟨rfl,rfl,rfl,rfl,DJ _⟩ e vs' (chunk sz len cs) sz len vs'.toList [] (by simp) hvs (by omega) c2 (by rw[c1];exact f2)
     refine⟨.slice (some ⟨w.heap.size,0,none⟩) len len,_,l',?_,k7,k8,by rw[c3] at k9;exact k9⟩
     have hbig:¬(len*sz>2 ^ 24):=by omega
     by_cases h0:len*sz=0
     ·have e0:(GJ (len*sz)).map (fun i=>zv.cells[i % zv.cells.size]!)=(GJ (len*sz)).map (fun i=>(#[]:Array Value)[i % 0]!):=by rw[h0];simp
      rw[e0] at f1
      simp only[HG,DG,und_run ht,DC,szOf_run hs,Hd,h0,if_true,DQ] at f1 ⊢
      simp only[List.size_toArray,Fg,f1,newRow,DG,run_newObj,DC,DQ,G6]
      rw[if_neg (by omega)]
     ·simp only[HG,DG,und_run ht,DC,szOf_run hs,Hd,hbig,if_false,h0,zeroV_run hzv,DQ,f1,newRow,run_newObj,G6]
theorem pV(R:Rep Γ O w l h){t:TypeId}{x y d:D}{a b:Value}{h':List Blk}(rx:Rel w (avs O l h) l h x a)(ry:Rel w (avs O l h) l h y b)(hd:tX P h t x y=some (true,d,h')):
  ∃v w' l',(HP t a b).run P w=.ok v w'∧Rep Γ O w' l' h'∧Ext w l h w' l' h'∧Rel w' (avs O l' h') l' h' d v:=by
 unfold tX at hd
 cases hte:fC P t with
 | none=>simp[hte] at hd
 | some e =>
  have ht:=gl hte
  cases h1:intOf? x with
  | none=>simp[hte,h1] at hd
  | some p1 =>
   cases h2:intOf? y with
   | none=>simp[hte,h1,h2] at hd
   | some p2 =>
    obtain⟨k1,n⟩:=p1
    obtain⟨k2,c⟩:=p2
    obtain rfl:=bg rx h1
    obtain rfl:=bg ry h2
    simp only[hte,h1,h2] at hd
    cases hs:szOf P e with
    | none=>simp[hs] at hd
    | some sz =>
     cases hb:bytesOf P e with
     | none=>simp[hs,hb] at hd
     | some by' =>
      cases hz:dt P e with
      | none=>simp[hs,hb,hz] at hd
      | some z =>
       obtain⟨zv,hzv,rfl⟩:=cN hz
       simp only[hs,hb,hz] at hd
       split at hd
       case isFalse=>simp at hd
       rename_i g1
       have hzs:zv.cells.size=sz:=by simpa using g1
       simp only[Dj,Dm,Dr,decide_eq_true_eq] at hd
       obtain⟨⟨⟨⟨q1,q2⟩,q3⟩,q4⟩,rfl,rfl⟩:=hd
       obtain⟨i,hi,hib⟩:=jU hb
       have hwn:Dk.wrap n=n:=IntWalk.i64_in _ (by omega)
       have hwc:Dk.wrap c=c:=IntWalk.i64_in _ (by omega)
       obtain⟨l',k7,k8,k9⟩:=ic R w ⟨rfl,rfl,rfl,rfl,DJ _⟩ e ((GJ (c.toNat*sz)).map (fun i=>zv.cells[i % zv.cells.size]!)) (En n.toNat (zv.cells.toList.map lit)) sz c.toNat
        (En n.toNat zv.cells.toList).flatten (En (c.toNat - n.toNat) zv.cells.toList).flatten
        (by rw[Gy,I9,gk hzs,←EV,List.replicate_append_replicate];congr 2;omega) (by simp) (by simp;omega)
        (by intro r hr;rw[List.eq_of_mem_replicate hr];simp[hzs]) (relL_rep _)
       refine⟨.slice (some ⟨w.heap.size,0,none⟩) n.toNat c.toNat,_,l',?_,k7,k8,by simpa using k9⟩
       have hti:(typeInfo e).run P w=.ok i w:=by simp[typeInfo,hi]
       have t1:¬(c<0∨281474976710656<(i.bytes:Int)*c):=by
        rw[hib];rw[Int.mul_comm] at q3;omega
       have e0:c.toNat*sz=0→(GJ (c.toNat*sz)).map (fun i=>zv.cells[i % zv.cells.size]!)=(GJ (c.toNat*sz)).map (fun i=>(#[]:Array Value)[i % 0]!):=fun h0=>by rw[h0];simp
       by_cases h0:c.toNat*sz=0
       ·rw[e0 h0]
        simp[HP,und_run ht,asInt,asIntOf,hti,hwn,hwc,q1,G3.2 q1,G3.2 q2,szOf_run hs,h0,newRow]
        exact fun hh=>absurd hh t1
       ·simp[HP,und_run ht,asInt,asIntOf,hti,hwn,hwc,q1,G3.2 q1,G3.2 q2,szOf_run hs,h0,newRow,zeroV_run hzv]
        exact fun hh=>absurd hh t1
end
section
variable {P:Program} {Γ:ae} {O:Nat→Prop} {w:World} {l:Loc} {h:List Blk}
def ln(M:Option Int)(c:Nat):Nat:=match M with|none=>c|some m=>m.toNat
@[simp] theorem gm (c : Nat) : ln none c = c := rfl
@[simp] theorem bP (m : Int) (c : Nat) : ln (some m) c = m.toNat := rfl
def jl(w:World)(av:Nat→Prop)(l:Loc)(h:List Blk):Option D→Option Value→Prop
 | none,none=>True
 | some d,some v=>Rel w av l h d v
 | _,_=>False
theorem bound_run{lo:Option D}{v:Option Value}{L:Int}{dflt:Int}(r:jl w (avs O l h) l h lo v)(hb:b4 lo dflt=some L):
  (v=none∧lo=none∧L=dflt)∨∃k,v=some (.int k L):=by
 cases lo with
 | none =>
  cases v with
  | none=>simp only[b4,Dj] at hb;exact .inl ⟨rfl,rfl,hb.symm⟩
  | some x=>simp[jl] at r
 | some d =>
  cases v with
  | none=>simp[jl] at r
  | some x =>
   simp only[b4,Du] at hb
   obtain⟨⟨k,m⟩,h1,h2⟩:=hb
   simp only at h2
   subst h2
   exact .inr ⟨k,by rw[bg r h1]⟩
theorem cU{b:Bool}{n c:Nat}{lo hi mx:Option D}{vl vh vm:Option Value}{L U:Int}{M:Option Int}
  (rl:jl w (avs O l h) l h lo vl) (rh:jl w (avs O l h) l h hi vh) (rm:jl w (avs O l h) l h mx vm)
  (hl:b4 lo 0=some L) (hu:b4 hi n=some U) (hm:wX mx=some M) (ok:d6 L U n=true) (ok2:fo U n M=true) (ok3:(M.isNone||hi.isSome)=true) (hnc:n≤c) :
  (Fa b n c vl vh vm).run P w=.ok (L.toNat,U.toNat,(ln M c)) w:=by
 simp only[d6,Dr,decide_eq_true_eq] at ok
 obtain⟨⟨o1,o2⟩,o3⟩:=ok
 have hlow:∀code (y:Nat),U≤y→(match vl with|some v=>GR v U.toNat code|none=>pure 0:Sem Nat).run P w=.ok L.toNat w:=by
  intro code y _
  rcases bound_run rl hl with ⟨rfl,_,rfl⟩|⟨k,rfl⟩
  ·simp
  ·exact run_sliceBound w k L U.toNat code o1 (by omega)
 cases mx with
 | none =>
  cases vm with
  | some x=>simp[jl] at rm
  | none =>
   simp only[wX,Dj] at hm
   subst hm
   rcases bound_run rh hu with ⟨rfl,_,rfl⟩|⟨k,rfl⟩
   ·rcases bound_run rl hl with ⟨rfl,_,rfl⟩|⟨k2,rfl⟩
    ·simp[Fa]
    ·simp[Fa,run_sliceBound w k2 L n _ o1 (by omega)]
   ·have hU:∀code,(GR (.int k U) c code).run P w=.ok U.toNat w:=fun code=>run_sliceBound w k U c code (by omega) (by omega)
    rcases bound_run rl hl with ⟨rfl,_,rfl⟩|⟨k2,rfl⟩
    ·simp[Fa,hU]
    ·simp[Fa,hU,run_sliceBound w k2 L U.toNat _ o1 (by omega)]
 | some m =>
  cases vm with
  | none=>simp[jl] at rm
  | some x =>
   simp only[wX,Du] at hm
   obtain⟨⟨km,mv⟩,h1,rfl⟩:=hm
   have hx:=bg rm h1
   subst hx
   simp only[fo,Dr,decide_eq_true_eq] at ok2
   have hM:∀code,(GR (.int km mv) c code).run P w=.ok mv.toNat w:=fun code=>run_sliceBound w km mv c code (by omega) (by omega)
   rcases bound_run rh hu with ⟨rfl,hi0,_⟩|⟨k,rfl⟩
   ·subst hi0;simp at ok3
   ·have hU:∀code,(GR (.int k U) mv.toNat code).run P w=.ok U.toNat w:=fun code=>run_sliceBound w k U _ code (by omega) (by omega)
    rcases bound_run rl hl with ⟨rfl,_,rfl⟩|⟨k2,rfl⟩
    ·simp[Fa,hM,hU]
    ·simp[Fa,hM,hU,run_sliceBound w k2 L U.toNat _ o1 (by omega)]
theorem RelRows.drop{av:Nat→Prop}{blk sz:Nat}:∀{es:List (List Dp)} {off:Nat} (n:Nat),RelRows w av blk sz off es→RelRows w av blk sz (off+n*sz) (es.drop n)
 | [],_,n,_=>by simp[RelRows]
 | e::es,off,0,r=>by simpa using r
 | e::es,off,n+1,r=>by
  simp only[RelRows] at r
  rw[List.drop_succ_cons,show off+(n+1)*sz=off+sz+n*sz by rw[Nat.succ_mul];omega]
  exact RelRows.drop n r.2.2
theorem RelRows.take{av:Nat→Prop}{blk sz:Nat}:∀{es:List (List Dp)} {off:Nat} (n:Nat),RelRows w av blk sz off es→RelRows w av blk sz off (es.take n)
 | [],_,n,_=>by simp[RelRows]
 | e::es,off,0,r=>by simp[RelRows]
 | e::es,off,n+1,r=>by
  simp only[RelRows,List.take_succ_cons] at r ⊢
  exact⟨r.1,r.2.1,RelRows.take n r.2.2⟩
theorem t3{t e:TypeId}{sz n c:Nat}{base:Option Addr}{lo hi mx:Option D}{vl vh vm:Option Value}{L U:Int}{M:Option Int}(ht:P.underlying t=some (.slice e))(hs:szOf P e=some sz)
  (rl:jl w (avs O l h) l h lo vl) (rh:jl w (avs O l h) l h hi vh) (rm:jl w (avs O l h) l h mx vm)
  (hl:b4 lo 0=some L) (hu:b4 hi n=some U) (hm:wX mx=some M) (ok:d6 L U n=true) (ok2:fo U n M=true) (ok3:(M.isNone||hi.isSome)=true) (hnc:n≤c) :
  (FL t (.slice base n c) vl vh vm).run P w=.ok (.slice (if (ln M c)=L.toNat then base else base.map (·.add (L.toNat*sz))) (U.toNat - L.toNat) ((ln M c) - L.toNat)) w:=by
 simp only[FL,DG,und_run ht,DC,IQ,cU (P:=P) (b:=true) rl rh rm hl hu hm ok ok2 ok3 hnc,szOf_run hs,DQ]
theorem qW{es:List (List Dp)}{blk off sz sz0:Nat}{L U:Nat}(rr:RelRows w (avs O l h) blk sz0 off es)(hall:es.all (fun r=>Qd (r.length=sz))=true)(h1:L≤U)(h2:U≤es.length)(m:Nat)(hm:U≤m):
  Rel w (avs O l h) l h (.p (.sl ((es.drop L).take (U - L)))) (.slice (if m=L then some ⟨blk,off,none⟩ else (some (⟨blk,off,none⟩:Addr)).map (·.add (L*sz))) (U - L) (m - L)) ∧
  (m=U→Rel w (avs O l h) l h (.csl ((es.drop L).take (U - L))) (.slice (if m=L then some ⟨blk,off,none⟩ else (some (⟨blk,off,none⟩:Addr)).map (·.add (L*sz))) (U - L) (m - L))):=by
 have hlen:((es.drop L).take (U - L)).length=U - L:=by simp;omega
 have hrows:es ≠ []→sz0=sz:=by
  intro hne
  cases es with
  | nil=>exact absurd rfl hne
  | cons e0 es0 =>
   simp only[RelRows] at rr
   simp only[List.all_cons,Dr,decide_eq_true_eq] at hall
   rw[←rr.1,hall.1]
 by_cases hmL:m=L
 ·have:U=L:=by omega
  subst this
  simp only[hmL,if_true,FO,List.take_zero]
  refine⟨?_,fun _=>?_⟩
  ·simp only[Rel,RelP];exact .inr ⟨blk,off,0,sz,rfl,DJ _,by simp[RelRows]⟩
  ·simp only[Rel];exact .inr ⟨blk,off,sz,rfl,by simp[RelRows]⟩
 ·simp only[hmL,if_false,Ea,cg]
  have hr2:RelRows w (avs O l h) blk sz (off+L*sz) ((es.drop L).take (U - L)):=by
   by_cases hne:es=[]
   ·subst hne;simp[RelRows]
   ·have:=hrows hne;subst this
    exact(rr.drop L).take _
  refine⟨?_,fun hmu=>?_⟩
  ·simp only[Rel,RelP]
   exact .inr ⟨blk,off+L*sz,m - L,sz,by rw[hlen],by rw[hlen];omega,hr2⟩
  ·subst hmu
   simp only[Rel]
   exact .inr ⟨blk,off+L*sz,sz,by rw[hlen],hr2⟩
theorem sT{U:Int}{M:Option Int}(hc:bN U M=true):M=some U:=by
 cases M with
 | none=>simp[bN] at hc
 | some m=>simp only[bN,decide_eq_true_eq] at hc;rw[hc]
theorem jW{L U:Int}{n:Nat}(ok:d6 L U n=true):0≤L∧L≤U∧U≤n∧L.toNat≤U.toNat∧U.toNat≤n:=by
 simp only[d6,Dr,decide_eq_true_eq] at ok
 omega
theorem jm{av:Nat→Prop}{x:Option Addr}{m:Nat}(cl:Bool)(hcl:cl=true→m=0)(hx:x=none→m=0):
  Rel w av l h (cT cl []) (.slice x 0 m):=by
 cases cl
 ·simp only[cT,D8,if_false,Rel,RelP]
  exact .inl ⟨trivial,x,m,rfl,hx⟩
 ·have:=hcl rfl;subst this
  simp only[cT,if_true,Rel]
  exact .inl ⟨trivial,x,rfl⟩
theorem da{av:Nat→Prop}{x:Option Addr}{m:Nat}(cl:Bool)(hcl:cl=true→m=0)(hx:x=none→m=0)(_hsp:∀a,x=some a→a.spot=none):
  Rel w av l h (cT cl []) (.slice x 0 m):=jm cl hcl hx
theorem zF{c:Nat}{M:Option Int}{U:Int}(ok2:fo U 0 M=true){a:Option Addr}{f:Addr→Addr}(ha:a=none→c=0)(hx:(if ln M c=0 then a else a.map f)=none):ln M c=0:=by
 split at hx
 ·assumption
 ·have hn:a=none:=by cases a<;>simp_all
  have:=ha hn
  subst this
  cases M with
  | none=>rfl
  | some m=>simp only[fo,Dr,decide_eq_true_eq] at ok2;simp only[bP];omega
theorem capOf{c U L n:Nat}{M:Option Int}{Ui:Int}(hU:Ui.toNat=U)(ok2:fo Ui n M=true)(h1:L≤U)(h2:U≤n)(hnc:n≤c):
  L≤(ln M c)∧U≤(ln M c)∧(bN Ui M=true→(ln M c)=U):=by
 cases M with
 | none=>simp[bN];omega
 | some m =>
  simp only[fo,Dr,decide_eq_true_eq] at ok2
  refine⟨by simp only[bP];omega,by simp only[bP];omega,fun hc=>?_⟩
  have:=sT hc
  simp only[Dj] at this
  simp only[this,bP,hU]
theorem lw(R:Rep Γ O w l h){t e:TypeId}{x d:D}{y:Value}{sz n:Nat}{L U:Int}{lo hi mx:Option D}{vl vh vm:Option Value}{M:Option Int}(rx:Rel w (avs O l h) l h x y)
  (ht:P.underlying t=some (.slice e)) (hs:szOf P e=some sz) (hn:lenD h x=some n)
  (rl:jl w (avs O l h) l h lo vl) (rh:jl w (avs O l h) l h hi vh) (rm:jl w (avs O l h) l h mx vm)
  (hl:b4 lo 0=some L) (hu:b4 hi n=some U) (hm:wX mx=some M) (ok:d6 L U n=true) (ok2:fo U n M=true) (ok3:(M.isNone||hi.isSome)=true)
  (hd:sliceRow h x sz n L U M=some (true,d)):∃v,(FL t y vl vh vm).run P w=.ok v w∧Rel w (avs O l h) l h d v:=by
 obtain⟨o1,o2,o3,o4,o5⟩:=jW ok
 have run:∀(base:Option Addr) (c:Nat),n≤c→(FL t (.slice base n c) vl vh vm).run P w=.ok (.slice (if (ln M c)=L.toNat then base else base.map (·.add (L.toNat*sz))) (U.toNat - L.toNat) ((ln M c) - L.toNat)) w :=
  fun base c hnc=>t3 ht hs rl rh rm hl hu hm ok ok2 ok3 hnc
 have cap:∀c,n≤c→_:=fun c hnc=>capOf (c:=c) (L:=L.toNat) (n:=n) (M:=M) (Ui:=U) rfl ok2 o4 o5 hnc
 cases x with
 | p dp =>
  cases dp with
  | v x =>
   obtain rfl:=al rx
   cases y<;>simp[sliceRow] at hd
   case slice a m c =>
    cases a<;>cases m<;>cases c<;>simp at hd
    subst hd
    simp only[lenD,Dj] at hn
    subst hn
    obtain⟨c1,c2,c3⟩:=cap 0 (DJ _)
    refine⟨_,run none 0 (DJ _),?_⟩
    have hU:U.toNat=0:=by omega
    have hL:L.toNat=0:=by omega
    have hm0:(ln M 0)=0:=by
     cases M with
     | none=>rfl
     | some m=>simp only[fo,Dr,decide_eq_true_eq] at ok2;simp only[bP];omega
    rw[hm0,hU,hL]
    exact rel_lit _ _ _ _ _
  | sl es =>
   simp only[sliceRow,Dj,Dm] at hd
   obtain⟨hall,rfl⟩:=hd
   simp only[lenD,Dj] at hn
   subst hn
   simp only[Rel,RelP] at rx
   rcases rx with ⟨rfl,a0,c0,rfl,ha0⟩|⟨blk,off,c,sz0,rfl,hc,rr⟩
   ·obtain⟨c1,c2,c3⟩:=cap c0 (Nat.zero_le _)
    refine⟨_,run a0 c0 (Nat.zero_le _),?_⟩
    have hU:U.toNat=0:=by simp at o5;omega
    have hL:L.toNat=0:=by omega
    simp only[hU,hL,FO,GS,List.drop_nil,List.take_nil] at c3 ⊢
    exact jm _ (fun hcl=>c3 hcl) (zF (by simpa using ok2) ha0)
   ·obtain⟨c1,c2,c3⟩:=cap c hc
    refine⟨_,run _ c hc,?_⟩
    obtain⟨p1,p2⟩:=qW (l:=l) (h:=h) (O:=O) rr hall o4 o5 _ c2
    unfold cT
    split
    ·rename_i hcl;exact p2 (c3 hcl)
    ·exact p1
 | csl es =>
  simp only[sliceRow,Dj,Dm] at hd
  obtain⟨hall,rfl⟩:=hd
  simp only[lenD,Dj] at hn
  subst hn
  simp only[Rel] at rx
  rcases rx with ⟨rfl,a0,rfl⟩|⟨blk,off,sz0,rfl,rr⟩
  ·obtain⟨c1,c2,c3⟩:=cap 0 (DJ _)
   refine⟨_,run a0 0 (DJ _),?_⟩
   have hU:U.toNat=0:=by simp at o5;omega
   have hL:L.toNat=0:=by omega
   have hm0:(ln M 0)=0:=by
    cases M with
    | none=>rfl
    | some m=>simp only[fo,Dr,decide_eq_true_eq,Fg] at ok2;simp only[bP];omega
   rw[hm0,hU,hL]
   simp only[List.drop_nil,List.take_nil,if_true]
   exact jm _ (fun _=>rfl) (fun _=>rfl)
  ·obtain⟨c1,c2,c3⟩:=cap es.length (DJ _)
   refine⟨_,run _ es.length (DJ _),?_⟩
   obtain⟨p1,p2⟩:=qW (l:=l) (h:=h) (O:=O) rr hall o4 o5 _ c2
   unfold cT
   split
   ·rename_i hcl
    simp only[E9,Dr,H2,decide_eq_true_eq] at hcl
    rcases hcl with hcl|⟨rfl,hcl⟩
    ·exact p2 (c3 hcl)
    ·exact p2 (by simp only[gm];omega)
   ·exact p1
 | ref r =>
  have rx':=rx
  obtain⟨g1,hr⟩:=rx
  cases r with
  | vec b e' =>
   simp only[sliceRow,lenD] at hd hr hn
   cases hb:h[b]? with
   | none=>simp[hb] at hd
   | some bx =>
    cases bx<;>simp only[hb,reduceCtorEq] at hd hr hn
    rename_i es e2 sz'
    split at hd
    case isFalse=>simp at hd
    rename_i he
    obtain⟨rfl,rfl⟩:=he
    simp only[if_true,Dj] at hn
    subst hn
    simp only[Dj,Dm,true_and] at hd
    subst hd
    have hv:=hr.2 rfl
    cases hlb:l b with
    | none =>
     have hok:=R.blk b _ hb
     simp only[hlb,ga,BlkOk] at hv hok
     obtain⟨_,rfl⟩:=hv
     subst hok
     obtain⟨c1,c2,c3⟩:=cap 0 (DJ _)
     refine⟨_,run none 0 (DJ _),?_⟩
     have hU:U.toNat=0:=by simp at o5;omega
     have hL:L.toNat=0:=by omega
     have hm0:(ln M 0)=0:=by
      cases M with
      | none=>rfl
      | some m=>simp only[fo,Dr,decide_eq_true_eq,Fg] at ok2;simp only[bP];omega
     rw[hm0,hU,hL]
     split
     ·exact rx'
     ·rename_i h3
      rw[if_pos ⟨by omega,fun hh=>h3 ⟨by omega,hh.1,hh.2⟩⟩]
      exact da _ (fun _=>rfl) (fun _=>rfl) (fun a ha=>by simp at ha)
    | some pr =>
     obtain⟨blk,cp0⟩:=pr
     simp only[hlb,ga] at hv
     obtain⟨oo,c,rfl,rfl,hc⟩:=hv
     obtain⟨c1,c2,c3⟩:=cap c hc
     have hcc:ln M c≤c:=by
      cases M with
      | none=>simp[gm]
      | some m=>simp only[fo,Dr,decide_eq_true_eq] at ok2;simp only[bP];omega
     refine⟨_,run _ c hc,?_⟩
     split
     ·rename_i h3
      obtain⟨rfl,h4,rfl⟩:=h3
      have e1:U.toNat - (0:Int).toNat=es.length:=by omega
      rw[e1]
      simp only[Int.toNat_zero,Nat.zero_mul,cg,Ea,GS,Nat.add_zero,ite_self]
      exact rx'
     ·split
      ·rename_i h4
       have e1:U.toNat - L.toNat=0:=by omega
       rw[e1]
       refine da _ (fun hcl=>by rw[c3 hcl];omega) (fun hx=>?_) (fun a ha=>?_)
       ·split at hx<;>simp at hx
       ·split at ha<;>simp at ha<;>subst ha<;>rfl
      ·rename_i h4
       simp only[Rel,RefRel,hb]
       refine⟨by split<;>rfl,DJ _,fun _=>⟨by omega,blk,oo,c,ln M c - L.toNat,hlb,?_,by omega,by omega,fun hcl=>by rw[c3 hcl]⟩⟩
       by_cases hmL:ln M c=L.toNat
       ·exact .inr ⟨_,rfl,by omega⟩
       ·simp only[hmL,if_false,Ea,cg]
        exact .inl trivial
  | vs b e' i m cl =>
   simp only[sliceRow,lenD] at hd hr hn
   cases hb:h[b]? with
   | none=>simp[hb] at hd
   | some bx =>
    cases bx<;>simp only[hb,reduceCtorEq] at hd hr hn
    rename_i es e2 sz'
    split at hd
    case isFalse=>simp at hd
    rename_i he
    obtain⟨rfl,rfl⟩:=he
    simp only[if_true,Dj] at hn
    subst hn
    simp only[Dj,Dm,true_and] at hd
    subst hd
    obtain⟨hin,blk,oo,cp,c,hlb,hy,hc,hic,hclip⟩:=hr.2 rfl
    clear hr
    obtain⟨c1,c2,c3⟩:=cap c hc
    have hcc:ln M c≤c:=by
     cases M with
     | none=>simp[gm]
     | some m=>simp only[fo,Dr,decide_eq_true_eq] at ok2;simp only[bP];omega
    have hya:∃a0,y=.slice a0 m c:=by
     rcases hy with hy|⟨a1,hy,_⟩
     ·exact⟨_,hy⟩
     ·exact⟨_,hy⟩
    obtain⟨a0,rfl⟩:=hya
    refine⟨_,run _ c hc,?_⟩
    split
    ·rename_i h4
     have e1:U.toNat - L.toNat=0:=by omega
     rw[e1]
     refine jm _ (fun hcl=>by rw[c3 hcl];omega) (fun hx=>?_)
     rcases hy with hy|⟨a1,hy,h0⟩
     ·cases hy
      split at hx<;>simp at hx
     ·omega
    ·rename_i h4
     simp only[Rel,RefRel,hb]
     refine⟨by split<;>first|exact g1|rfl,DJ _,fun _=>⟨by omega,blk,oo,cp,ln M c - L.toNat,hlb,?_,by omega,by omega,fun hcl=>?_⟩⟩
     ·by_cases hmL:ln M c=L.toNat
      ·exact .inr ⟨_,rfl,by omega⟩
      ·rcases hy with hy|⟨a1,hy,h0⟩
       ·cases hy
        simp only[hmL,if_false,Ea,cg]
        exact .inl (by rw[EX,Nat.add_assoc])
       ·omega
     simp only[E9,Dr,H2,decide_eq_true_eq] at hcl
     rcases hcl with hcl|⟨⟨hc1,rfl⟩,hc3⟩
     ·rw[c3 hcl]
     ·have:=hclip hc1;simp only[gm];omega
  | av b off m sz' =>
   simp only[sliceRow,lenD] at hd hr hn
   cases hb:h[b]? with
   | none=>simp[hb] at hd
   | some bx =>
    cases bx<;>simp only[hb,reduceCtorEq,Dj] at hd hr hn
    subst hn
    split at hd
    case isFalse=>simp at hd
    rename_i he
    subst he
    simp only[Dj,Dm,true_and] at hd
    subst hd
    obtain⟨blk,cp,c,hlb,rfl,hc⟩:=hr
    obtain⟨c1,c2,c3⟩:=cap c hc
    refine⟨_,run _ c hc,?_⟩
    split
    ·rename_i h4
     have e1:U.toNat - L.toNat=0:=by omega
     rw[e1]
     refine da _ (fun hcl=>by rw[c3 hcl];omega) (fun hx=>?_) (fun a ha=>?_)
     ·split at hx<;>simp at hx
     ·split at ha<;>simp at ha<;>subst ha<;>rfl
    ·rename_i h4
     have hmL:¬(ln M c)=L.toNat:=by omega
     simp only[hmL,if_false,Ea,cg]
     simp only[Rel,RefRel,hb]
     exact⟨rfl,blk,cp,_,hlb,rfl,by omega⟩
  | _=>simp[sliceRow] at hd
 | _=>simp[sliceRow] at hd
theorem fw{len:Nat}{e:TypeId}{x d:D}{y:Value}{L:Int}{lo hi mx:Option D}{vl vh vm:Option Value}{M:Option Int}(rx:Rel w (avs O l h) l h x y)
  (rl:jl w (avs O l h) l h lo vl) (rh:jl w (avs O l h) l h hi vh) (rm:jl w (avs O l h) l h mx vm) (hl:b4 lo 0=some L) (hm:wX mx=some M)
  (hd:eQ P h len e x L hi M=some (true,d)):∃a:Addr,y=.pointer (some a)∧∃sz lN hN,szOf P e=some sz∧(Fa false len len vl vh vm).run P w=.ok (lN,hN,len) w ∧
   Rel w (avs O l h) l h d (.slice (some (if len=lN then a else a.add (lN*sz))) (hN - lN) (len - lN)):=by
 unfold eQ at hd
 split at hd
 case h_2=>simp at hd
 rename_i b off
 obtain⟨g1,hr⟩:=rx
 cases hs:szOf P e with
 | none=>simp[hs] at hd
 | some sz =>
  cases hu:b4 hi len with
  | none=>simp[hs,hu] at hd
  | some U =>
   cases hb:h[b]? with
   | none=>simp[hs,hu,hb] at hd
   | some bx =>
    cases bx<;>simp only[hs,hu,hb,reduceCtorEq] at hd hr
    cases M with
    | some m=>simp at hd
    | none =>
     simp only[Dj,Dm] at hd
     obtain⟨ok,rfl⟩:=hd
     obtain⟨blk,cp,hlb,rfl⟩:=hr
     obtain⟨o1,o2,o3,o4,o5⟩:=jW ok
     refine⟨_,rfl,sz,L.toNat,U.toNat,rfl,cU (P:=P) (b:=false) (M:=none) rl rh rm hl hu hm ok (by simp[fo]) (by simp) (DJ _),?_⟩
     split
     ·rename_i h4
      have e1:U.toNat - L.toNat=0:=by omega
      rw[e1]
      exact da (l:=l) (h:=h) false (fun hcl=>by simp at hcl) (fun hx=>by simp at hx) (fun a ha=>by split at ha<;>simp at ha<;>subst ha<;>rfl)
     ·rename_i h4
      have hmL:¬len=L.toNat:=by omega
      simp only[hmL,if_false,cg]
      simp only[Rel,RefRel,hb]
      exact⟨rfl,blk,cp,_,hlb,rfl,by omega⟩
theorem ot(R:Rep Γ O w l h){t:TypeId}{x d:D}{y:Value}{lo hi mx:Option D}{vl vh vm:Option Value}(rx:Rel w (avs O l h) l h x y)
  (rl:jl w (avs O l h) l h lo vl) (rh:jl w (avs O l h) l h hi vh) (rm:jl w (avs O l h) l h mx vm) (hd:oe P h t x lo hi mx=some (true,d)) :
  ∃v,(FL t y vl vh vm).run P w=.ok v w∧Rel w (avs O l h) l h d v:=by
 unfold oe at hd
 cases hL:b4 lo 0 with
 | none=>simp[hL] at hd
 | some L =>
  cases hM:wX mx with
  | none=>simp[hL,hM] at hd
  | some M =>
   simp only[hL,hM] at hd
   cases hu:P.underlying t with
   | none=>simp[hu] at hd
   | some u =>
    cases u<;>simp only[hu,reduceCtorEq] at hd
    case string =>
     unfold qU at hd
     split at hd
     ·rename_i s
      obtain rfl:=al rx
      cases hU:b4 hi s.size with
      | none=>simp[hU] at hd
      | some U =>
       cases M with
       | some m=>simp[hU] at hd
       | none =>
        simp only[hU,Dj,Dm] at hd
        obtain⟨ok,rfl⟩:=hd
        cases mx with
        | some m0=>simp only[wX,Du] at hM;obtain⟨_,_,h2⟩:=hM;simp at h2
        | none =>
         cases vm with
         | some x=>simp[jl] at rm
         | none =>
          refine⟨_,?_,rel_lit _ _ _ _ _⟩
          have:=cU (P:=P) (b:=false) (mx:=none) rl rh rm hL hU rfl ok (by simp[fo]) (by simp) (DJ _)
          simp[FL,und_run hu,IQ,this]
     ·simp at hd
    case slice e =>
     cases hs:szOf P e with
     | none=>simp[hs] at hd
     | some sz =>
      cases hn:lenD h x with
      | none=>simp[hs,hn] at hd
      | some n =>
       simp only[hs,hn] at hd
       cases hU:b4 hi n with
       | none=>simp[hU] at hd
       | some U =>
        simp only[hU,Du,Dm,Dr] at hd
        obtain⟨⟨r1,r2⟩,h1,⟨⟨⟨ok,ok2⟩,ok3⟩,h3⟩,h4⟩:=hd
        simp only at h3 h4
        subst h3;subst h4
        exact lw R rx hu hs hn rl rh rm hL hU hM ok ok2 ok3 h1
    case array len e =>
     obtain⟨a,rfl,sz,lN,hN,hs,hb,hr⟩:=fw (P:=P) rx rl rh rm hL hM hd
     refine⟨_,?_,hr⟩
     simp[FL,und_run hu,Instr.sureAddr,hb,szOf_run hs]
    case pointer arr =>
     cases hu2:P.underlying arr with
     | none=>simp[hu2] at hd
     | some u2 =>
      cases u2<;>simp only[hu2,reduceCtorEq] at hd
      case array len e =>
       obtain⟨a,rfl,sz,lN,hN,hs,hb,hr⟩:=fw (P:=P) rx rl rh rm hL hM hd
       refine⟨_,?_,hr⟩
       simp[FL,und_run hu,und_run hu2,IQ,asAddr,hb,szOf_run hs]
end
section
variable {P:Program} {Γ:ae} {O:Nat→Prop} {w:World} {l:Loc} {h:List Blk}
theorem t4(a b:ByteArray):(a==b)=eqS a b:=by
 have:(a==b)=(a.data==b.data):=rfl
 rw[this,Fs]
 simp only[eqS,beq_iff_eq,Array.toList_inj]
theorem checkKey_run{kt:TypeId}{k:D}{v:Value}(hk:cy P kt k=true)(rk:Rel w (avs O l h) l h k v)(b:Bool)(w':World):(Instr.checkKey b 10000 kt v).run P w'=.ok () w':=by
 rw[show(10000:Nat)=9999+1 from rfl,Instr.checkKey]
 unfold cy at hk
 split at hk<;>first|(rename_i h1;obtain rfl:=al rk;simp[und_run h1])|simp at hk
theorem ig{kt:TypeId}{k:D}{v:Value}{u:TypeDesc}(hu:P.underlying kt=some u)(hk:cy P kt k=true)(rk:Rel w (avs O l h) l h k v):
  ∀{kvs:List (D×D×Nat)} {es:List MapEntry} (i:Nat) {r:Option (Nat×D)},RelKV w (avs O l h) l h kvs es→bO k kvs i=some r →
   ∃r',Ib u v es i=some r'∧(match r,r' with
    | none,none=>True
    | some (j,d),some (j',y)=>j'=j∧Rel w (avs O l h) l h d y
    | _,_=>False)
 | [],[],i,r,_,hf=>by simp only[bO,Dj] at hf;subst hf;exact⟨none,rfl,trivial⟩
 | (k',d,n)::kvs,e::es,i,r,rel,hf=>by
  simp only[RelKV] at rel
  simp only[bO] at hf
  have hsame:∀b,bf k k'=some b→Hh u v e.key=some b:=by
   intro b hb
   unfold cy at hk
   rw[hu] at hk
   unfold bf at hb
   split at hb
   ·rename_i k1 a k2 c
    obtain rfl:=al rk
    have h2:=al rel.1
    cases u<;>simp at hk
    rw[h2];simpa[Hh] using hb
   ·rename_i a c
    obtain rfl:=al rk
    have h2:=al rel.1
    cases u<;>simp at hk
    rw[h2];simp only[Hh,t4];exact hb
   ·rename_i a c
    obtain rfl:=al rk
    have h2:=al rel.1
    cases u<;>simp at hk
    rw[h2];simpa[Hh] using hb
   ·simp at hb
  cases hq:bf k k' with
  | none=>simp[hq] at hf
  | some b =>
   have hs:=hsame b hq
   cases b with
   | true =>
    simp only[hq,Dj] at hf
    subst hf
    exact⟨some (i,e.val),by simp[Ib,hs],rfl,rel.2.1⟩
   | false =>
    simp only[hq] at hf
    obtain⟨r',h1,h2⟩:=ig hu hk rk (i+1) rel.2.2.2 hf
    exact⟨r',by simp[Ib,hs,h1],h2⟩
 | [],_::_,_,_,rel,_=>by simp[RelKV] at rel
 | _::_,[],_,_,rel,_=>by simp[RelKV] at rel
theorem jX{kt:TypeId}{k:D}(hk:cy P kt k=true):∃u,P.underlying kt=some u:=by
 unfold cy at hk
 cases hu:P.underlying kt with
 | none=>simp[hu] at hk
 | some u=>exact⟨u,rfl⟩
theorem be{r:Nat}{o:Obj}(ho:w.heap[r]? = some o)(hc:∀c T fr,o ≠ .cells c T fr):(getObj r).run P w=.ok o w:=by
 unfold getObj
 cases o<;>simp[Sem.run,ho]
 exact absurd rfl (hc _ _ _)
theorem mJ(R:Rep Γ O w l h){t:TypeId}{x k d:D}{y v:Value}{ok:Bool}(rx:Rel w (avs O l h) l h x y)(rk:Rel w (avs O l h) l h k v)(hd:aR P h t x k ok=some d):
  ∃z,(GX t y v ok).run P w=.ok z w∧Rel w (avs O l h) l h d z:=by
 unfold aR at hd
 cases hu:P.underlying t with
 | none=>simp[hu] at hd
 | some u =>
  cases hm:je h x with
  | none=>cases u<;>simp[hu,hm] at hd
  | some kvs =>
   cases u<;>simp only[hu,hm,reduceCtorEq] at hd
   rename_i kt et
   split at hd
   case isFalse=>simp at hd
   rename_i hk
   obtain⟨uk,huk⟩:=jX hk
   have fin:∀(es:List MapEntry),RelKV w (avs O l h) l h kvs es→∃z r',(GM kt v es).run P w=.ok r' w∧(match r' with|some (_,v)=>pure (v,true)|none=>do pure (←zeroValue et,false):Sem (Value×Bool)).run P w=.ok z w ∧
     Rel w (avs O l h) l h d (if ok then .tuple #[z.1,.bool z.2] else z.1):=by
    intro es hrel
    cases hf:bO k kvs 0 with
    | none=>simp[hf] at hd
    | some r =>
     obtain⟨r',hn,hm2⟩:=ig huk hk rk 0 hrel hf
     have hkey:(GM kt v es).run P w=.ok r' w:=by
      simp only[GM,DG,und_run huk,DC,hn,DQ]
     cases hz:ge P et with
     | none=>rcases r with _|⟨i,d0⟩<;>simp[hf,hz] at hd
     | some z =>
      rcases r with _|⟨i,d0⟩
      ·simp only[hf,hz,Dj] at hd
       rcases r' with _|⟨j,y0⟩
       ·refine⟨(z,false),_,hkey,by simp[zeroV_run hz],?_⟩
        subst hd
        cases ok
        ·exact hZ _ _ _ _ z
        ·simp only[if_true,Rel]
         exact⟨_,rfl,hZ _ _ _ _ z,rel_lit _ _ _ _ _,trivial⟩
       ·simp at hm2
      ·simp only[hf,hz,Dj] at hd
       rcases r' with _|⟨j,y0⟩
       ·simp at hm2
       ·simp only at hm2
        refine⟨(y0,true),_,hkey,by simp,?_⟩
        subst hd
        cases ok
        ·exact hm2.2
        ·simp only[if_true,Rel]
         exact⟨_,rfl,hm2.2,rel_lit _ _ _ _ _,trivial⟩
   unfold je at hm
   split at hm
   ·cases hm
    obtain rfl:=al rx
    obtain⟨z,r',h1,h2,h3⟩:=fin [] (by simp[RelKV])
    refine⟨_,?_,h3⟩
    cases hzr:(zeroValue et).run P w with
    | halt a b=>rcases r' with _|⟨j,y0⟩<;>simp[hzr] at h2<;>subst h2<;>simp only[GX,DG,und_run hu,DC,DQ,checkKey_run hk rk,h1]
    | ok a b=>rcases r' with _|⟨j,y0⟩<;>simp[hzr] at h2<;>(try obtain⟨rfl,rfl⟩:=h2)<;>(try subst h2)<;>simp only[GX,DG,und_run hu,DC,DQ,checkKey_run hk rk,h1,hzr]
   ·rename_i b
    cases hb:h[b]? with
    | none=>simp[hb] at hm
    | some bx =>
     obtain⟨_,hr⟩:=rx
     cases bx<;>simp only[hb,reduceCtorEq,Dj] at hm hr
     subst hm
     obtain⟨blk,cp,hlb,rfl⟩:=hr
     obtain⟨blk',cp',es,h1,h2,h3⟩:=R.blk b _ hb
     obtain⟨rfl,rfl⟩:blk=blk'∧cp=cp':=by simpa[hlb] using h1
     obtain⟨z,r',g1,g2,g3⟩:=fin es.toList h3
     refine⟨_,?_,g3⟩
     have hgo:=be (P:=P) (o:=.map es _) h2 (by simp)
     cases hzr:(zeroValue et).run P w with
     | halt a b=>rcases r' with _|⟨j,y0⟩<;>simp[hzr] at g2<;>subst g2<;>simp only[GX,DG,und_run hu,DC,hgo,DQ,checkKey_run hk rk,g1]
     | ok a b=>rcases r' with _|⟨j,y0⟩<;>simp[hzr] at g2<;>(try obtain⟨rfl,rfl⟩:=g2)<;>(try subst g2)<;>simp only[GX,DG,und_run hu,DC,hgo,DQ,checkKey_run hk rk,g1,hzr]
   ·simp at hm
theorem bp{r:Nat}{o o':Obj}(ho:w.heap[r]? = some o)(hc:∀c T fr,o ≠ .cells c T fr):(setObj r o').run P w=.ok () {w with heap:=w.heap.setIfInBounds r o' }:=by
 unfold setObj
 cases o<;>simp[Sem.run,ho]
 exact absurd rfl (hc _ _ _)
theorem cD{r:Nat}{o o':Obj}(ho:w.heap[r]? = some o):({w with heap:=w.heap.setIfInBounds r o' }:World).heap[r]? = some o':=by
 have:=(Gz.1 ho).1
 simp[this]
theorem pW{r k:Nat}{o':Obj}(hk:k ≠ r):({w with heap:=w.heap.setIfInBounds r o' }:World).heap[k]? = w.heap[k]?:=by
 simp[Array.getElem?_setIfInBounds_ne (Ne.symm hk)]
theorem jn(R:Rep Γ O w l h){b:Nat}{x x':Blk}(hb:h[b]? = some x)(hx:x ≠ .gone){blk cp:Nat}(hlb:l b=some (blk,cp)){o o':Obj}(_ho:w.heap[blk]? = some o)
  (hle:x.le x') (hok:Ext w l h {w with heap:=w.heap.setIfInBounds blk o' } l (h.set b x')→BlkOk {w with heap:=w.heap.setIfInBounds blk o' } (avs O l (h.set b x')) l (h.set b x') b x') :
  Rep Γ O {w with heap:=w.heap.setIfInBounds blk o' } l (h.set b x')∧Ext w l h {w with heap:=w.heap.setIfInBounds blk o' } l (h.set b x') :=
 R.step b x' (by simp) ⟨rfl,rfl,rfl,(by first|exact DJ _|exact Fh _)⟩ (fun i hi=>bo _ _ hi) (aU hb) (fun _ _=>rfl) (fun z hz=>by rw[hb] at hz;cases hz;exact⟨hle,fun _=>rfl⟩)
  (fun k hk hno=>pW (fun e=>hno x cp hb hx (by rw[hlb,e])))
  (fun k c hk=>.inl ⟨x,c,hb,hx,hk⟩) hok
theorem t5{kvs:List (D×D×Nat)}{es:List MapEntry}:∀(i:Nat) {k d:D} {n:Nat} {e:MapEntry},RelKV w (avs O l h) l h kvs es→Rel w (avs O l h) l h k e.key→Rel w (avs O l h) l h d e.val→e.born=n →
  RelKV w (avs O l h) l h (kvs.set i (k,d,n)) (es.set i e):=by
 induction kvs generalizing es with
 | nil=>intro i k d n e r _ _ _;cases es<;>simp_all[RelKV]
 | cons a t ih =>
  intro i k d n e r h1 h2 h3
  obtain⟨k0,d0,n0⟩:=a
  cases es with
  | nil=>simp[RelKV] at r
  | cons e0 es0 =>
   simp only[RelKV] at r
   cases i with
   | zero=>simp only[List.set_cons_zero,RelKV];exact⟨h1,h2,h3,r.2.2.2⟩
   | succ i=>simp only[List.set_cons_succ,RelKV];exact⟨r.1,r.2.1,r.2.2.1,ih i r.2.2.2 h1 h2 h3⟩
theorem sU{kvs:List (D×D×Nat)}{es:List MapEntry}{k d:D}{n:Nat}{e:MapEntry}(r:RelKV w (avs O l h) l h kvs es)(h1:Rel w (avs O l h) l h k e.key)(h2:Rel w (avs O l h) l h d e.val)(h3:e.born=n):
  RelKV w (avs O l h) l h (kvs++[(k,d,n)]) (es++[e]):=by
 induction kvs generalizing es with
 | nil=>cases es<;>simp_all[RelKV]
 | cons a t ih =>
  obtain⟨k0,d0,n0⟩:=a
  cases es with
  | nil=>simp[RelKV] at r
  | cons e0 es0=>simp only[RelKV,List.cons_append] at r ⊢;exact⟨r.1,r.2.1,r.2.2.1,ih r.2.2.2⟩
theorem t6{kvs:List (D×D×Nat)}{es:List MapEntry}(i:Nat)(r:RelKV w (avs O l h) l h kvs es){k d:D}{n:Nat}(hk:kvs[i]? = some (k,d,n)):
  ∃e,es[i]? = some e∧Rel w (avs O l h) l h k e.key∧Rel w (avs O l h) l h d e.val∧e.born=n:=by
 induction kvs generalizing es i with
 | nil=>simp at hk
 | cons a t ih =>
  obtain⟨k0,d0,n0⟩:=a
  cases es with
  | nil=>simp[RelKV] at r
  | cons e0 es0 =>
   simp only[RelKV] at r
   cases i with
   | zero=>simp at hk;obtain⟨rfl,rfl,rfl⟩:=hk;exact⟨e0,by simp,r.1,r.2.1,r.2.2.1⟩
   | succ i=>simpa using ih i r.2.2.2 (by simpa using hk)
theorem lJ{k:D}:∀{kvs:List (D×D×Nat)} (i:Nat) {j:Nat} {d:D},bO k kvs i=some (some (j,d))→∃k' n,i≤j∧kvs[j - i]? = some (k',d,n)∧bf k k'=some true
 | [],_,_,_,hf=>by simp[bO] at hf
 | (k',d',n')::kvs,i,j,d,hf=>by
  simp only[bO] at hf
  cases hq:bf k k' with
  | none=>simp[hq] at hf
  | some b =>
   cases b with
   | true=>simp[hq] at hf;obtain⟨rfl,rfl⟩:=hf;exact⟨k',n',DJ _,by simp,hq⟩
   | false =>
    simp only[hq] at hf
    obtain⟨k2,n2,h1,h2,h3⟩:=lJ (i+1) hf
    refine⟨k2,n2,by omega,?_,h3⟩
    rw[show j - i=(j - (i+1))+1 by omega];simpa using h2
theorem pX{k k':D}{v v':Value}(rk:Rel w (avs O l h) l h k v)(rk':Rel w (avs O l h) l h k' v')(hq:bf k k'=some true)(n:Nat):G7 (n+1) v' v=true:=by
 unfold bf at hq
 split at hq
 ·obtain rfl:=al rk
  obtain rfl:=al rk'
  split at hq
  ·rename_i hk;subst hk
   simp only[Dj,beq_iff_eq] at hq
   subst hq;simp[G7]
  ·simp at hq
 ·obtain rfl:=al rk
  obtain rfl:=al rk'
  simp only[Dj] at hq
  rw[←t4] at hq
  simp only[G7]
  rename_i a b
  have:(a.data==b.data)=true:=hq
  have h2:a.data=b.data:=by simpa using this
  show(b.data==a.data)=true
  simp[h2]
 ·obtain rfl:=al rk
  obtain rfl:=al rk'
  simp only[Dj,beq_iff_eq] at hq
  subst hq;simp[G7]
 ·simp at hq
theorem d7(R:Rep Γ O w l h){t:TypeId}{x k d:D}{y v z:Value}{h':List Blk}(rx:Rel w (avs O l h) l h x y)(rk:Rel w (avs O l h) l h k v)(rd:Rel w (avs O l h) l h d z)
  (hd:eR P h t x k d=some h'):∃w',(HQ t y v z).run P w=.ok () w'∧Rep Γ O w' l h'∧Ext w l h w' l h':=by
 unfold eR at hd
 cases hu:P.underlying t with
 | none=>simp[hu] at hd
 | some u =>
  cases u<;>simp only[hu,reduceCtorEq] at hd
  rename_i kt et
  cases x with
  | ref r =>
   cases r<;>simp only[reduceCtorEq] at hd
   rename_i b
   cases hb:h[b]? with
   | none=>simp[hb] at hd
   | some bx =>
    obtain⟨_,hr⟩:=rx
    cases bx<;>simp only[hb,reduceCtorEq] at hd hr
    rename_i kvs clock
    split at hd
    case isFalse=>simp at hd
    rename_i hk
    obtain⟨uk,huk⟩:=jX hk
    obtain⟨blk,cp,hlb,rfl⟩:=hr
    obtain⟨blk',cp',es,h1,h2,h3⟩:=R.blk b _ hb
    obtain⟨rfl,rfl⟩:blk=blk'∧cp=cp':=by simpa[hlb] using h1
    have hgo:=be (P:=P) (o:=.map es clock) h2 (by simp)
    cases hf:bO k kvs 0 with
    | none=>simp[hf] at hd
    | some r =>
     obtain⟨r',hn,hm2⟩:=ig huk hk rk 0 h3 hf
     have hkey:(GM kt v es.toList).run P w=.ok r' w:=by
      simp only[GM,DG,und_run huk,DC,hn,DQ]
     rcases r with _|⟨i,d0⟩
     ·simp only[hf,Dj] at hd
      rcases r' with _|⟨j,y0⟩
      ·subst hd
       have:=jn R (x':=.map (kvs++[(k,d,clock)]) (clock+1)) hb (by simp) hlb (o':=.map (es.push {key:=v,val:=z,born:=clock}) (clock+1)) h2 trivial
        (fun E=>⟨blk,cp,_,hlb,cD h2,by rw[Array.toList_push];exact sU (E.relKV h3) (E.rel rk) (E.rel rd) rfl⟩)
       refine⟨_,?_,this.1,this.2⟩
       simp only[HQ,DG,und_run hu,DC,hgo,checkKey_run hk rk,hkey,bp h2 (by simp)]
      ·simp at hm2
     ·simp only[hf] at hd
      rcases r' with _|⟨j,y0⟩
      ·simp at hm2
      ·simp only at hm2
       obtain⟨rfl,ry⟩:=hm2
       obtain⟨k',n,_,hkv,hq⟩:=lJ 0 hf
       simp only[GS] at hkv
       simp only[hkv,Dj] at hd
       subst hd
       obtain⟨e0,he0,r1,r2,r3⟩:=t6 j h3 hkv
       have hsb:=pX rk r1 hq 9999
       have he0':es[j]? = some e0:=by rw[←Ej];exact he0
       have hmod:(es.modify j fun e=>{e with key:=v,val:=z}).toList=es.toList.set j {key:=v,val:=z,born:=e0.born}:=by
        apply List.ext_getElem?
        intro i
        rw[Ej,Array.getElem?_modify,List.getElem?_set]
        by_cases hji:j=i
        ·subst hji
         have hlt:=(Gz.1 he0').1
         have h9:es[j]=e0:=(Gz.1 he0').2
         simp[hlt,h9]
        ·simp[hji]
       have:=jn R (x':=.map (kvs.set j (k,d,n)) clock) hb (by simp) hlb (o':=.map (es.modify j fun e=>{e with key:=v,val:=z}) clock) h2 trivial
        (fun E=>⟨blk,cp,_,hlb,cD h2,by rw[hmod];exact t5 j (E.relKV h3) (E.rel rk) (E.rel rd) r3⟩)
       refine⟨_,?_,this.1,this.2⟩
       simp only[HQ,DG,und_run hu,DC,hgo,checkKey_run hk rk,hkey,Instr.keyThatStays,he0',Ea,Option.getD_some,hsb,if_true,DQ,bp h2 (by simp)]
  | _=>simp at hd
theorem mL(R:Rep Γ O w l h)(t:TypeId):∃v w' l',(Instr.makeMap t none).run P w=.ok v w'∧Rep Γ O w' l' (h++[.map [] 0])∧Ext w l h w' l' (h++[.map [] 0]) ∧
  Rel w' (avs O l' (h++[.map [] 0])) l' (h++[.map [] 0]) (.ref (.mp h.length)) v:=by
 obtain⟨R',E⟩:=cq R (.map #[] 0) (.map [] 0) 0 (fun _=>⟨w.heap.size,0,#[],by simp,heap_alloc_new w _,by simp[RelKV]⟩)
 refine⟨.map (some w.heap.size),_,_,by simp[Instr.makeMap],R',E,?_⟩
 simp only[Rel,RefRel]
 refine⟨rfl,?_⟩
 simp
end
section
variable {P:Program} {Γ:ae} {O:Nat→Prop} {w:World} {l:Loc} {h:List Blk}
theorem jY(R:Rep Γ O w l h)(o:Obj)(x:Blk)(hx:(∃s p,x=.sit s p)∨(∃m a b c,x=.mit m a b c))
  (hok:Ext w l h (w.alloc o) (l.upd h.length (some (w.heap.size,0))) (h++[x]) →
   BlkOk (w.alloc o) (avs O (l.upd h.length (some (w.heap.size,0))) (h++[x])) (l.upd h.length (some (w.heap.size,0))) (h++[x]) h.length x) :
  ∃l',Rep Γ O (w.alloc o) l' (h++[x])∧Ext w l h (w.alloc o) l' (h++[x])∧Rel (w.alloc o) (avs O l' (h++[x])) l' (h++[x]) (.ref (.it h.length)) (.pointer (some ⟨w.heap.size,0,none⟩)):=by
 obtain⟨R',E⟩:=cq R o x 0 hok
 refine⟨_,R',E,?_⟩
 simp only[Rel,RefRel]
 refine⟨rfl,?_⟩
 rcases hx with ⟨s,p,rfl⟩|⟨m,a,b,c,rfl⟩<;>simp
theorem ou(R:Rep Γ O w l h){t:TypeId}{x d:D}{y:Value}{h':List Blk}(rx:Rel w (avs O l h) l h x y)(hd:qV P h t x=some (d,h')):
  ∃v w' l',(HL t y).run P w=.ok v w'∧Rep Γ O w' l' h'∧Ext w l h w' l' h'∧Rel w' (avs O l' h') l' h' d v:=by
 unfold qV at hd
 split at hd
 ·rename_i s hu
  cases hd
  obtain rfl:=al rx
  obtain⟨l',r1,r2,r3⟩:=jY R (.stringIter s 0) (.sit s 0) (.inl ⟨_,_,rfl⟩) (fun _=>⟨w.heap.size,0,by simp,heap_alloc_new w _⟩)
  exact⟨_,_,l',by simp[HL,und_run hu],r1,r2,r3⟩
 ·rename_i hu
  cases hd
  obtain rfl:=al rx
  obtain⟨l',r1,r2,r3⟩:=jY R (.mapIter none 0 #[] 0) (.mit none 0 [] 0) (.inr ⟨_,_,_,_,rfl⟩) (fun _=>⟨w.heap.size,0,none,by simp,heap_alloc_new w _,rfl⟩)
  exact⟨_,_,l',by simp[HL,und_run hu],r1,r2,r3⟩
 ·rename_i kt et b hu
  cases hb:h[b]? with
  | none=>simp[hb] at hd
  | some bx =>
   have rx':=rx
   obtain⟨_,hr⟩:=rx
   cases bx<;>simp only[hb,reduceCtorEq,Dj,Dm] at hd hr
   rename_i kvs clock
   obtain⟨rfl,rfl⟩:=hd
   obtain⟨blk,cp,hlb,rfl⟩:=hr
   obtain⟨blk',cp',es,h1,h2,h3⟩:=R.blk b _ hb
   obtain⟨rfl,rfl⟩:blk=blk'∧cp=cp':=by simpa[hlb] using h1
   have hgo:=be (P:=P) (o:=.map es clock) h2 (by simp)
   obtain⟨l',r1,r2,r3⟩:=jY R (.mapIter (some blk) clock #[] clock) (.mit (some b) clock [] clock) (.inr ⟨_,_,_,_,rfl⟩)
    (fun E=>⟨w.heap.size,0,some blk,by simp,heap_alloc_new w _,(E.rel rx':Rel _ _ _ _ (.ref (.mp b)) _)⟩)
   exact⟨_,_,l',by simp only[HL,DG,und_run hu,DC,hgo,DQ,run_newObj,G6],r1,r2,r3⟩
 ·simp at hd
theorem iX{f:Nat→Bool}:∀{kvs:List (D×D×Nat)} {es:List MapEntry},RelKV w (avs O l h) l h kvs es→RelKV w (avs O l h) l h (kvs.filter fun e=>f e.2.2) (es.filter fun e=>f e.born)
 | [],[],_=>by simp[RelKV]
 | (k,d,n)::kvs,e::es,r=>by
  simp only[RelKV] at r
  have ih:=iX (f:=f) r.2.2.2
  simp only[List.filter_cons,r.2.2.1]
  split
  ·simp only[RelKV];exact⟨r.1,r.2.1,r.2.2.1,ih⟩
  ·exact ih
 | [],_::_,r=>by simp[RelKV] at r
 | _::_,[],r=>by simp[RelKV] at r
theorem ow{f:Nat→Bool}:∀{kvs:List (D×D×Nat)} {es:List MapEntry},RelKV w (avs O l h) l h kvs es→(es.any fun e=>f e.born)=(kvs.any fun e=>f e.2.2)
 | [],[],_=>by simp
 | (k,d,n)::kvs,e::es,r=>by simp only[RelKV] at r;simp only[List.any_cons,r.2.2.1,ow r.2.2.2]
 | [],_::_,r=>by simp[RelKV] at r
 | _::_,[],r=>by simp[RelKV] at r
theorem qX(_R:Rep Γ O w l h){b:Nat}{y:Value}{bx:Blk}(rx:Rel w (avs O l h) l h (.ref (.it b)) y)(hb:h[b]? = some bx)(hg:bx ≠ .gone):
  ∃blk cp,l b=some (blk,cp)∧y=.pointer (some ⟨blk,0,none⟩):=by
 obtain⟨_,hr⟩:=rx
 cases bx<;>simp only[hb] at hr<;>first
  | exact absurd rfl hg
  | (obtain⟨blk,cp,h1,h2⟩:=hr;exact⟨blk,cp,h1,h2⟩)
theorem pY(R:Rep Γ O w l h){x d:D}{y:Value}{s:Bool}{t:TypeId}{h':List Blk}(rx:Rel w (avs O l h) l h x y)(hd:wY h s x=some (d,h')):
  ∃v w',(GY y s t).run P w=.ok v w'∧Rep Γ O w' l h'∧Ext w l h w' l h'∧Rel w' (avs O l h') l h' d v:=by
 unfold wY at hd
 split at hd
 case h_2=>simp at hd
 rename_i b
 split at hd
 ·-- a string
  rename_i str pos hb
  obtain⟨blk,cp,hlb,rfl⟩:=qX R rx hb (by simp)
  obtain⟨blk',cp',h1,h2⟩:=R.blk b _ hb
  obtain⟨rfl,rfl⟩:blk=blk'∧cp=cp':=by simpa[hlb] using h1
  have hgo:=be (P:=P) (o:=.stringIter str pos) h2 (by simp)
  split at hd
  ·rename_i hlt
   simp only[Dj,Dm] at hd
   obtain⟨rfl,rfl⟩:=hd
   have:=jn R (x':=.sit str (pos+(IX str pos).2)) hb (by simp) hlb (o':=.stringIter str (pos+(IX str pos).2)) h2 trivial
    (fun E=>⟨blk,cp,hlb,cD h2⟩)
   refine⟨.tuple #[.bool true,goInt pos,.int .i32 (IX str pos).1],_,?_,this.1,this.2,?_⟩
   ·simp only[GY,DG,hgo,DC,hlt,if_true,bp (P:=P) h2 (by simp),DQ]
   ·simp only[Rel];exact⟨_,rfl,rel_lit _ _ _ _ _,rel_lit _ _ _ _ _,rel_lit _ _ _ _ _,trivial⟩
  ·rename_i hlt
   cases hd
   refine⟨.tuple #[.bool false],w,?_,R,FV _ _ _,?_⟩
   ·simp only[GY,DG,hgo,DC,hlt,if_false,DQ]
   ·simp only[Rel];exact⟨_,rfl,rel_lit _ _ _ _ _,trivial⟩
 ·-- a nil map
  rename_i a1 a2 a3 hb
  cases hd
  obtain⟨blk,cp,hlb,rfl⟩:=qX R rx hb (by simp)
  obtain⟨blk',cp',mr,h1,h2,h3⟩:=R.blk b _ hb
  obtain⟨rfl,rfl⟩:blk=blk'∧cp=cp':=by simpa[hlb] using h1
  simp only at h3
  subst h3
  have hgo:=be (P:=P) h2 (by simp)
  refine⟨.tuple #[.bool false],w,?_,R,FV _ _ _,?_⟩
  ·simp only[GY,DG,hgo,DC,DQ]
  ·simp only[Rel];exact⟨_,rfl,rel_lit _ _ _ _ _,trivial⟩
 ·-- a map
  rename_i mb since seen st hb
  cases hmb:h[mb]? with
  | none=>simp[hmb] at hd
  | some mx =>
   cases mx<;>simp only[hmb,reduceCtorEq] at hd
   rename_i kvs clock
   obtain⟨blk,cp,hlb,rfl⟩:=qX R rx hb (by simp)
   obtain⟨blk',cp',mr,h1,h2,h3⟩:=R.blk b _ hb
   obtain⟨rfl,rfl⟩:blk=blk'∧cp=cp':=by simpa[hlb] using h1
   have h3':=h3
   obtain⟨_,hr⟩:=h3
   simp only[hmb] at hr
   obtain⟨mblk,mcp,hlm,hmr⟩:=hr
   simp only[IY] at hmr
   subst hmr
   obtain⟨mblk',mcp',es,g1,g2,g3⟩:=R.blk mb _ hmb
   obtain⟨rfl,rfl⟩:mblk=mblk'∧mcp=mcp':=by simpa[hlm] using g1
   have hgo:=be (P:=P) h2 (by simp)
   have hgm:=be (P:=P) g2 (by simp)
   have hflt:RelKV w (avs O l h) l h (kvs.filter fun e=>!seen.contains e.2.2) (es.filter fun e=>!seen.toArray.contains e.born).toList:=by
    rw[Array.toList_filter]
    simpa using iX (f:=fun n=>!seen.contains n) g3
   have hlen:=eo _ _ g3
   have hes:es.isEmpty=kvs.isEmpty:=by
    rw[Fs];simp only[Array.isEmpty_iff_size_eq_zero,List.isEmpty_iff_length_eq_zero,hlen,ER]
   have hall:(es.all fun e=>Qd (e.born≥st)) = !(kvs.any fun e=>Qd (e.2.2<st)):=by
    rw[←ow (f:=fun n=>Qd (n<st)) g3,←Array.all_toList,List.all_eq_not_any_not]
    congr 1
    congr 1
    funext e
    rw[Fs];simp
   split at hd
   ·rename_i hk
    split at hd
    case isFalse=>simp at hd
    rename_i hc
    cases hd
    rw[hk] at hflt
    have he:es.filter (fun e=>!seen.toArray.contains e.born)=#[]:=by
     cases hq:(es.filter (fun e=>!seen.toArray.contains e.born)).toList with
     | nil=>simpa using hq
     | cons a t=>rw[hq] at hflt;simp[RelKV] at hflt
    refine⟨.tuple #[.bool false],w,?_,R,FV _ _ _,by simp only[Rel];exact⟨_,rfl,rel_lit _ _ _ _ _,trivial⟩⟩
    have hcond:(!seen.toArray.isEmpty&&!es.isEmpty&&es.all (fun e=>Qd (e.born≥st)))=false:=by
     rw[hall,hes,IZ]
     cases h1:seen.isEmpty<;>cases h2:kvs.isEmpty<;>simp_all
    simp only[GY,DG,hgo,hgm,DC,hcond,he]
    simp[Hy]
   ·rename_i k v n hk
    split at hd
    case isFalse=>simp at hd
    rename_i hc
    simp only[Dj,Dm] at hd
    obtain⟨rfl,rfl⟩:=hd
    simp only[Dr,decide_eq_true_eq] at hc
    rw[hk] at hflt
    obtain⟨e,he,rk,rv,hn⟩:∃e:MapEntry,es.filter (fun e=>!seen.toArray.contains e.born)=#[e]∧Rel w (avs O l h) l h k e.key∧Rel w (avs O l h) l h v e.val∧e.born=n:=by
     cases hq:(es.filter (fun e=>!seen.toArray.contains e.born)).toList with
     | nil=>rw[hq] at hflt;simp[RelKV] at hflt
     | cons a t =>
      rw[hq] at hflt
      simp only[RelKV] at hflt
      cases t with
      | nil=>exact⟨a,by apply Array.ext';simpa using hq,hflt.1,hflt.2.1,hflt.2.2.1⟩
      | cons b t=>simp[RelKV] at hflt
    have hcond:(!seen.toArray.isEmpty&&!es.isEmpty&&es.all (fun e=>Qd (e.born≥st)))=false:=by
     rw[hall,IZ]
     have hc1:=hc.1
     rw[E9] at hc1
     rcases hc1 with h1|h1
     ·simp[h1]
     ·simp[h1]
    have:=jn R (x':=.mit (some mb) since (seen++[n]) clock) hb (by simp) hlb (o':=.mapIter (some mblk) since (seen.toArray.push e.born) clock) h2 trivial
     (fun E=>⟨blk,cp,some mblk,hlb,by rw[cD h2];simp[hn],(E.rel (O:=O) (d:=.ref (.mp mb)) h3')⟩)
    refine⟨.tuple #[.bool true,e.key,e.val],_,?_,this.1,this.2,?_⟩
    ·have hs:e.born<since:=by rw[hn];exact hc.2
     have hs2:¬since≤e.born:=by omega
     simp only[GY,DG,hgo,hgm,DC,hcond,he]
     simp[Hy,hs,hs2,bp (P:=P) h2]
    ·simp only[Rel];exact⟨_,rfl,rel_lit _ _ _ _ _,this.2.rel rk,this.2.rel rv,trivial⟩
   ·simp at hd
 ·simp at hd
theorem lK{n:Nat}:∀{kvs:List (D×D×Nat)} {es:List MapEntry},RelKV w (avs O l h) l h kvs es→∀{e:D×D×Nat},kvs.find? (fun e=>e.2.2==n)=some e →
  ∃e',es.find? (fun e=>e.born==n)=some e'∧Rel w (avs O l h) l h e.1 e'.key∧Rel w (avs O l h) l h e.2.1 e'.val
 | [],[],_,_,hf=>by simp at hf
 | (k,d,m)::kvs,e0::es,r,e,hf=>by
  simp only[RelKV] at r
  simp only[List.find?_cons,r.2.2.1] at hf ⊢
  split at hf
  ·cases hf;exact⟨e0,rfl,r.1,r.2.1⟩
  ·exact lK r.2.2.2 hf
 | [],_::_,r,_,_=>by simp[RelKV] at r
 | _::_,[],r,_,_=>by simp[RelKV] at r
theorem oy(R:Rep Γ O w l h){x d:D}{y:Value}(rx:Rel w (avs O l h) l h x y)(hd:lI h x=some d):
  ∃v,(Instr.entry y).run P w=.ok v w∧Rel w (avs O l h) l h d v:=by
 unfold lI at hd
 split at hd
 case h_2=>simp at hd
 rename_i b
 split at hd
 case h_2=>simp at hd
 rename_i mb since seen st hb
 cases hmb:h[mb]? with
 | none=>simp[hmb] at hd
 | some mx =>
  cases mx<;>simp only[hmb,reduceCtorEq] at hd
  rename_i kvs clock
  cases hl:seen.getLast? with
  | none=>simp[hl] at hd
  | some n =>
   simp only[hl] at hd
   split at hd
   case isFalse=>simp at hd
   rename_i hcl
   subst hcl
   simp only[Du] at hd
   obtain⟨e,hf,rfl⟩:=hd
   obtain⟨blk,cp,hlb,rfl⟩:=qX R rx hb (by simp)
   obtain⟨blk',cp',mr,h1,h2,h3⟩:=R.blk b _ hb
   obtain⟨rfl,rfl⟩:blk=blk'∧cp=cp':=by simpa[hlb] using h1
   obtain⟨_,hr⟩:=h3
   simp only[hmb] at hr
   obtain⟨mblk,mcp,hlm,hmr⟩:=hr
   simp only[IY] at hmr
   subst hmr
   obtain⟨mblk',mcp',es,g1,g2,g3⟩:=R.blk mb _ hmb
   obtain⟨rfl,rfl⟩:mblk=mblk'∧mcp=mcp':=by simpa[hlm] using g1
   have hgo:=be (P:=P) h2 (by simp)
   have hgm:=be (P:=P) g2 (by simp)
   obtain⟨e',hf',r1,r2⟩:=lK g3 hf
   refine⟨.tuple #[e'.key,e'.val],?_,by simp only[Rel];exact⟨_,rfl,r1,r2,trivial⟩⟩
   have hback:seen.toArray.back? = some n:=by rw[List.back?_toArray];exact hl
   have hff:es.find? (fun e=>e.born==n)=some e':=by rw[←Array.find?_toList];exact hf'
   simp only[Instr.entry,DG,hgo,hgm,DC,hback]
   simp[hff]
end
end Go.Vi
