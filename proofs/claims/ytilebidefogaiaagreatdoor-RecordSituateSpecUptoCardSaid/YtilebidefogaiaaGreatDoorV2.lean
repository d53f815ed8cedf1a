/- RecordSituateSpecUpto: part of the proof: an evaluator of the model's programs on abstract values, and its soundness. No conditions beyond the given statement's own. -/
import Derived.Test.YtilebidefogaiaaGreatDoorV1
import Derived.IntWalk
open Decidable renaming decide → Zd
open Go.Builtin renaming zeroCells → KC, lenOf → I5, firstCells → IW, append_ → Jd, len_ → Kl
open Nat renaming le_refl → HS, le_succ → JN, mul_le_mul_right → Kk, add_mul → J0, sub_zero → Km
open Go.Question renaming appendCap → My, forced → Kh
open Go.IntKind renaming i64 → Hp
open List renaming getElem?_toArray → K9, getElem?_cons_zero → HZ, getElem?_cons_succ → I2, all_eq_true → HU, length_append → ID, mem_append → Jg, flatten_append → Kr, isEmpty_eq_false_iff → Me, length_pos_iff → Nc, length_take → LA, length_drop → Md, length_cons → HY, mapM_cons → MH, replicate → HX, length_nil → Jj, isEmpty_toArray → MT
open Go.Sem renaming run_bind → HM, run_pure → H3, run_ite → Lo
open Go.Result renaming andThen_ok → HE
open Bool renaming false_eq_true → Ik, not_false → JU, and_eq_true → Hx, not_eq_true' → IU, or_eq_true → Ju, eq_iff_iff → JJ
open Go.World renaming alloc_eq → Ld
open Go.Vi.Blk renaming stays → LI
open Option.some renaming injEq → Ho
open Prod.mk renaming injEq → Hu
open Array renaming length_toList → KB, range → KI, toList_map → LZ, toList_range → Nd, getElem?_eq_some_iff → Jh, getElem?_toList → IH
open Go.ByteArray renaming toList_eq → Ml
open Option renaming map_eq_some_iff → Hy, map_some → H9, isNone_iff_eq_none → L0
open Go.Op renaming intArith → LY, intCmp → Lz, unary → Nr
open Int renaming not_lt → K4
open Go.Instr renaming build → MI, buildSlice → LJ, makeSlice → LV, sliceBounds → Jr, sliceBound → KS, sliceAt → JR, slice → MJ, findNow → Mf, sameNow → Lu, lookup → K1, findKey → KL, sameBits → Le, mapUpdate → LW, range → LP, next → Kn
open Go.Utf8 renaming decode → MR
open Go.Vi.Ext renaming refl → Ko
open Go.Value.map renaming injEq → MS
namespace Go.Vi
open Go
section
variable {P:Program} {Γ:aw} {O:Nat→Prop} {w:World} {l:Loc} {h:List Blk}
theorem mt(z:Array Value)(n:Nat):(KC z n).size=n*z.size:=by simp[KC]
theorem iI(R:Rep Γ O w l h)(w1:World)(Qj:w1.heap=w.heap∧w1.tape=w.tape∧w1.os=w.os∧w1.output=w.output∧w.drawn≤w1.drawn)(e:TypeId)(cs:Array Value)(rows:List (List D))(sz cap:Nat)(ys rest:List Value)
  (Sn:cs.toList=ys++rest) (Qv:cs.size=cap*sz) (Rw:rows.length≤cap) (hr:∀r∈rows,r.length=sz) (ry:RelL w (avs O l h) l h rows.flatten ys) :
  ∃l',Rep Γ O (w1.alloc (.cells cs e)) l' (h++[.vec rows 0 sz])∧Ext w l h (w1.alloc (.cells cs e)) l' (h++[.vec rows 0 sz]) ∧
   Rel (w1.alloc (.cells cs e)) (avs O l' (h++[.vec rows 0 sz])) l' (h++[.vec rows 0 sz]) (.ref (.vec h.length 0)) (.slice (some ⟨w.heap.size,0,none⟩) rows.length cap):=by
 obtain⟨R1,E1⟩:=R.of_heap Qj.1 Qj.2
 have hs:w1.heap.size=w.heap.size:=by rw[Qj.1]
 obtain⟨R2,E2⟩:=eo R1 (.cells cs e) (.vec rows 0 sz) cap (fun E=>by
  simp only[BlkOk,Loc.upd_same]
  exact⟨cs,e,(0,0),ys,heap_alloc_new w1 _,Qv,Rw,by simp,hr,E.relL (E1.relL ry),rest,Sn⟩)
 refine⟨_,R2,E1.trans E2,?_⟩
 simp only[Rel,RefRel]
 refine⟨rfl,?_⟩
 simp[ml,hs,Rw]
theorem vL(R:Rep Γ O w l h)(sz:Nat):∃l',Rep Γ O w l' (h++[.vec [] 0 sz])∧Ext w l h w l' (h++[.vec [] 0 sz]) ∧
  Rel w (avs O l' (h++[.vec [] 0 sz])) l' (h++[.vec [] 0 sz]) (.ref (.vec h.length 0)) (.slice none 0 0):=by
 have:=R.step (w':=w) (l':=l.upd h.length none) (h':=h++[.vec [] 0 sz]) h.length (.vec [] 0 sz) (HS _) ⟨rfl,rfl,rfl,(by first|exact HS _|exact JN _)⟩ (fun b hb=>gP h _ hb) (by simp)
  (fun b hb=>Loc.upd_ne _ _ _ hb) (fun y hy=>by simp at hy) (fun _ _ _=>rfl) (fun k c hk=>by simp at hk) (fun _=>by simp[BlkOk])
 refine⟨_,this.1,this.2,?_⟩
 simp only[Rel,RefRel]
 refine⟨rfl,?_⟩
 simp[ml]
theorem vN{oF cap:Nat}{e:TypeId}(t:Nat):oF≤(My oF cap e).cut t:=by simp[Question.cut]
theorem mu{t tx ty e:TypeId}{dx:TypeDesc}{sz Ru:Nat}{z:Value}{base:Option Addr}{n cap m:Nat}{x:Value}{olds news:List Value}
  (ht:P.underlying t=some (.slice e)) (hx:P.underlying tx=some dx) (Qe:∀k,dx ≠ .int k) (hs:szOf P e=some sz) (hb:bytesOf P e=some Ru) (hz:gO P e=some z)
  (hlen:(I5 x).run P w=.ok m w) (Rx:(IW sz m x).run P w.drew=.ok news.toArray w.drew)
  (hold:(IW sz n (.slice base n cap)).run P w.drew=.ok olds.toArray w.drew) (hn:cap<n+m) (hby:(n+m)*Ru≤140737488355328) (h62:n+m≤4611686018427387904) :
  ∃(Pn:Nat),n+m≤Pn ∧
   (Jd #[t,tx] ty #[.slice base n cap,x]).run P w=.ok (.slice (some ⟨w.heap.size,0,none⟩) (n+m) Pn)
    (w.drew.alloc (.cells (olds.toArray++news.toArray++KC z.cells (Pn - (n+m))) e)):=by
 obtain⟨i,hi,hib⟩:=kA hb
 have Sx:=growslice_fits hn hby
 have hti:∀w:World,(typeInfo e).run P w=.ok i w:=fun w=>by simp[typeInfo,hi]
 refine⟨(My (n+m) cap e).cut (w.tape w.drawn (.appendCap (n+m) cap e)),vN _,?_⟩
 have Te:¬((((n+m:Nat):Int)>Hp.max)∧(False∨i.bytes=0)):=by
  intro hh
  have:Hp.max=9223372036854775807:=rfl
  rw[this] at hh;omega
 have hcap':¬(Builtin.nextslicecap (n+m) cap*i.bytes>2 ^ 48):=by rw[hib];omega
 unfold Jd
 simp only[K9,HZ,I2,HM,und_run ht,und_run hx,HE,aX hs,H3]
 cases dx with
 | int k=>exact absurd rfl (Qe k)
 | _ =>
  simp only[Ik,if_false,hlen,HE,Nat.not_le.2 hn,HM,hti,Lo,Te,hcap',if_false,run_choose,Kh,run_askRoom,
   hold,Rx,zeroV_run hz,H3,JU,if_true,newRow,run_newObj,World.drew_eq,Ld,World.size_drew]
theorem oc{t tx ty e:TypeId}{dx:TypeDesc}{sz bV n cap m:Nat}{x:Value}{news:List Value}{c:Array Value}{T:TypeId}{fr:Nat×Nat}
  (ht:P.underlying t=some (.slice e)) (hx:P.underlying tx=some dx) (Qe:∀k,dx ≠ .int k) (hs:szOf P e=some sz)
  (hlen:(I5 x).run P w=.ok m w) (Rx:(IW sz m x).run P w=.ok news.toArray w) (h1:∀v∈news,v.oneCell'=true) (hnl:news.length=m*sz)
  (hn:n+m≤cap) (hb:w.heap[bV]? = some (.cells c T fr)) (hf:∀o,o<c.size→¬(fr.1≤o∧o<fr.2)) (hc:c.size=cap*sz) :
  ∃w' c',(Jd #[t,tx] ty #[.slice (some ⟨bV,0,none⟩) n cap,x]).run P w=.ok (.slice (some ⟨bV,0,none⟩) (n+m) cap) w'∧w'.heap.size=w.heap.size∧(∀k,k ≠ bV→w'.heap[k]? = w.heap[k]?) ∧
   w'.heap[bV]? = some (.cells c' T fr)∧c'.toList=bC c.toList (n*sz) news∧w'.tape=w.tape∧w'.os=w.os∧w'.output=w.output∧w.drawn≤w'.drawn:=by
 have hle:n*sz+0+news.length≤c.size:=by
  rw[hnl,hc];have:=Kk sz hn;rw[J0] at this;omega
 obtain⟨w',c',h2,h3⟩:=d8 (P:=P) (off:=n*sz) news 0 w c hb hf hle h1
 refine⟨w',c',?_,by simpa using h3⟩
 unfold Jd
 simp only[K9,HZ,I2,HM,und_run ht,und_run hx,HE,aX hs,H3]
 cases dx with
 | int k=>exact absurd rfl (Qe k)
 | _ =>
  simp only[Ik,if_false,hlen,HE,hn,if_true,HM,Rx,JU,b9,Nat.zero_add,h2,H3,Lo]
theorem fm{t tx ty e:TypeId}{dx:TypeDesc}{sz:Nat}{x:Value}{news:List Value}
  (ht:P.underlying t=some (.slice e)) (hx:P.underlying tx=some dx) (Qe:∀k,dx ≠ .int k) (hs:szOf P e=some sz)
  (hlen:(I5 x).run P w=.ok 0 w) (Rx:(IW sz 0 x).run P w=.ok news.toArray w) :
  (Jd #[t,tx] ty #[.slice none 0 0,x]).run P w=.ok (.slice none 0 0) w:=by
 unfold Jd
 simp only[K9,HZ,I2,HM,und_run ht,und_run hx,HE,aX hs,H3]
 cases dx with
 | int k=>exact absurd rfl (Qe k)
 | _ =>
  simp only[Ik,if_false,hlen,HE,Nat.add_zero,HS,if_true,HM,Rx,JU,H3,Lo]
theorem eu{t:TypeId}{z:List D}(hz:fk P t=some z):∃v,gO P t=some v∧z=v.cells.toList.map lit:=by
 unfold fk at hz
 cases hv:gO P t with
 | none=>simp[hv] at hz
 | some v=>simp[hv] at hz;exact⟨v,rfl,hz.symm⟩
theorem xr(R:Rep Γ O w l h){b e0 sz:Nat}{es:List (List D)}(hb:h[b]? = some (.vec es e0 sz))(w1:World)(Qj:w1.heap=w.heap∧w1.tape=w.tape∧w1.os=w.os∧w1.output=w.output∧w.drawn≤w1.drawn)
  (e:TypeId) (cs:Array Value) (rows:List (List D)) (cap:Nat) (ys rest:List Value)
  (Sn:cs.toList=ys++rest) (Qv:cs.size=cap*sz) (Rw:rows.length≤cap) (hr:∀r∈rows,r.length=sz) (ry:RelL w (avs O l h) l h rows.flatten ys) :
  ∃l',Rep Γ O (w1.alloc (.cells cs e)) l' (h.set b (.vec rows (e0+1) sz))∧Ext w l h (w1.alloc (.cells cs e)) l' (h.set b (.vec rows (e0+1) sz)) ∧
   Rel (w1.alloc (.cells cs e)) (avs O l' (h.set b (.vec rows (e0+1) sz))) l' (h.set b (.vec rows (e0+1) sz)) (.ref (.vec b (e0+1))) (.slice (some ⟨w.heap.size,0,none⟩) rows.length cap):=by
 have hs:w1.heap.size=w.heap.size:=by rw[Qj.1]
 have:=R.step (w':=w1.alloc (.cells cs e)) (l':=l.upd b (some (w.heap.size,cap))) (h':=h.set b (.vec rows (e0+1) sz)) b (.vec rows (e0+1) sz) (by simp[hs]) ⟨Qj.2.1,Qj.2.2.1,Qj.2.2.2⟩
  (fun i hi=>bB _ _ hi) (bc hb) (fun i hi=>Loc.upd_ne _ _ _ hi)
  (fun z hz=>by rw[hb] at hz;cases hz;exact⟨⟨JN _,fun hh=>absurd hh (by omega),rfl⟩,fun hh=>absurd hh (by simp[LI])⟩)
  (fun k hk _=>by rw[heap_alloc_old w1 _ k (by omega),Qj.1])
  (fun k c hk=>by simp at hk;exact .inr ⟨by omega,by simp;omega⟩)
  (fun E=>by
   simp only[BlkOk,Loc.upd_same]
   exact⟨cs,e,(0,0),ys,by rw[←hs];exact heap_alloc_new w1 _,Qv,Rw,by simp,hr,E.relL ry,rest,Sn⟩)
 refine⟨_,this.1,this.2,?_⟩
 simp only[Rel,RefRel]
 refine⟨rfl,?_⟩
 rw[bc hb]
 simp[ml,Rw]
theorem od(R:Rep Γ O w l h){t tx ty:TypeId}{s x d:D}{ys yx:Value}{h':List Blk}(rs:Rel w (avs O l h) l h s ys)(rx:Rel w (avs O l h) l h x yx)
  (hd:sj P h t tx s x=some (true,d,h')) :
  ∃v w' l',(Jd #[t,tx] ty #[ys,yx]).run P w=.ok v w'∧Rep Γ O w' l' h'∧Ext w l h w' l' h'∧Rel w' (avs O l' h') l' h' d v:=by
 unfold sj at hd
 cases Ql:kv P t with
 | none=>simp[Ql] at hd
 | some e =>
  cases hux:P.underlying tx with
  | none=>simp[Ql,hux] at hd
  | some dx =>
   simp only[Ql,hux] at hd
   split at hd
   case isTrue=>simp at hd
   rename_i hdx0
   have Qe:∀k,dx ≠ .int k:=by intro k hk;subst hk;simp[isIntT] at hdx0
   have ht:P.underlying t=some (.slice e):=by
    unfold kv at Ql
    cases hu:P.underlying t with
    | none=>simp[hu] at Ql
    | some u=>cases u<;>simp_all
   cases hs:szOf P e with
   | none=>simp[hs] at hd
   | some sz =>
    cases hb:bytesOf P e with
    | none=>simp[hs,hb] at hd
    | some Ru =>
     cases hz:fk P e with
     | none=>simp[hs,hb,hz] at hd
     | some z =>
      cases Po:rowsD h x with
      | none=>simp[hs,hb,hz,Po] at hd
      | some rows =>
       simp only[hs,hb,hz,Po] at hd
       split at hd
       case isFalse=>simp at hd
       rename_i hzl
       obtain⟨zv,hzv,rfl⟩:=eu hz
       have hzsz:zv.cells.size=sz:=by simpa using hzl
       have pre:rows.all (aG sz)=true→(∀r∈rows,r.length=sz)∧(rows.flatten.all D.one=true):=by
        intro ha
        simp only[HU,aG,Hx,decide_eq_true_eq] at ha
        refine⟨fun r hr=>(ha r hr).1,?_⟩
        simp only[HU,List.mem_flatten]
        rintro c ⟨r,hr,hc⟩
        exact(ha r hr).2 c hc
       obtain⟨R1,E1⟩:=R.of_heap (w':=w.drew) rfl ⟨rfl,rfl,rfl,(by first|exact HS _|exact JN _)⟩
       have hroom:∀{n m:Nat},roomOk (n+m) Ru=true→(n+m)*Ru≤140737488355328∧n+m≤4611686018427387904:=by
        intro n m hh;simpa[roomOk] using hh
       have mk:∀(base:Option Addr) (cap:Nat) (Og:List (List D)) (y:Value),y=.slice base Og.length cap→Rel w (avs O l h) l h s y→rowsD h s=some Og→(∀r∈Og,r.length=sz) →
         rows.all (aG sz)=true→roomOk (Og.length+rows.length) Ru=true→cap<Og.length+rows.length →
         ∃(Pn:Nat) (cs:Array Value) (zs rest:List Value),(Jd #[t,tx] ty #[y,yx]).run P w=.ok (.slice (some ⟨w.heap.size,0,none⟩) (Og++rows).length Pn) (w.drew.alloc (.cells cs e)) ∧
          cs.toList=zs++rest∧cs.size=Pn*sz∧(Og++rows).length≤Pn∧(∀r∈Og++rows,r.length=sz)∧RelL w.drew (avs O l h) l h (Og++rows).flatten zs:=by
        intro base cap Og y hy ry hor hol ha Re iF
        subst hy
        obtain⟨p1,p2⟩:=pre ha
        obtain⟨g1,_⟩:=cQ (P:=P) R rx Po p1
        obtain⟨_,news,g2,g3⟩:=cQ (P:=P) R1 (E1.rel rx) Po p1
        obtain⟨_,olds,g5,g6⟩:=cQ (P:=P) R1 (E1.rel ry) hor hol
        obtain⟨q1,q2⟩:=hroom Re
        obtain⟨Pn,q3,q4⟩:=mu (P:=P) (ty:=ty) ht hux Qe hs hb hzv g1 g2 g5 iF q1 q2
        refine⟨Pn,_,olds++news,(KC zv.cells (Pn - (Og.length+rows.length))).toList,by rw[q4,ID],by simp,?_,by rw[ID];exact q3,?_,?_⟩
        ·have h1:=g6.length
         have h2:=g3.length
         rw[bj hol] at h1
         rw[bj p1] at h2
         simp only[Array.size_append,List.size_toArray,mt,hzsz,←h1,←h2,←J0]
         congr 1;omega
        ·intro r hr
         rcases Jg.1 hr with hr|hr
         ·exact hol r hr
         ·exact p1 r hr
        ·rw[Kr];exact g6.append g3
       have news:∀(Og:List (List D)) (y:Value) (base:Option Addr) (cap:Nat),y=.slice base Og.length cap→Rel w (avs O l h) l h s y→rowsD h s=some Og→(∀r∈Og,r.length=sz) →
         rows.all (aG sz)=true→roomOk (Og.length+rows.length) Ru=true→cap<Og.length+rows.length→d=.ref (.vec h.length 0)→h'=h++[.vec (Og++rows) 0 sz] →
         ∃v w' l',(Jd #[t,tx] ty #[y,yx]).run P w=.ok v w'∧Rep Γ O w' l' h'∧Ext w l h w' l' h'∧Rel w' (avs O l' h') l' h' d v:=by
        intro Og y base cap hy ry hor hol ha Re iF Oo hh2
        obtain⟨Pn,cs,zs,rest,k1,k2,k3,k4,k5,k6⟩:=mk base cap Og y hy ry hor hol ha Re iF
        obtain⟨l',k7,k8,k9⟩:=iI R1 w.drew ⟨rfl,rfl,rfl,rfl,(by first|exact HS _|exact JN _)⟩ e cs (Og++rows) sz Pn zs rest k2 k3 k4 k5 k6
        subst Oo;subst hh2
        exact⟨_,_,l',k1,k7,E1.trans k8,k9⟩
       split at hd
       ·-- nil
        simp only[Ho,Hu,Hx] at hd
        obtain⟨⟨ha,Re⟩,rfl,rfl⟩:=hd
        simp only[Rel,RelP] at rs
        subst rs
        cases hrl:rows with
        | nil =>
         subst hrl
         obtain⟨g1,nw,g2,g3⟩:=cQ (P:=P) R rx Po (pre ha).1
         obtain⟨l',k7,k8,k9⟩:=vL R sz
         exact⟨_,_,l',fm ht hux Qe hs g1 g2,k7,k8,k9⟩
        | cons r0 rs' =>
         rw[←hrl]
         exact news [] (.slice none 0 0) none 0 rfl (by simp[Rel,RelP]) (by simp[rowsD]) (by simp) ha Re (by rw[hrl];simp) rfl (by simp)
       ·-- cn
        rename_i es
        simp only[Ho,Hu,Hx,IU,Me] at hd
        obtain⟨⟨⟨⟨ha,Re⟩,Ou⟩,hel⟩,rfl,rfl⟩:=hd
        have hol:∀r∈es.map (·.map D.p),r.length=sz:=by
         simp only[HU,decide_eq_true_eq] at hel
         intro r hr
         obtain⟨r0,h0,rfl⟩:=List.mem_map.1 hr
         simpa using hel r0 h0
        have Qh:0<rows.length:=Nc.2 Ou
        have rs':=rs
        simp only[Rel] at rs
        rcases rs with ⟨rfl,a0,rfl⟩|⟨bV,off,sz2,rfl,rr⟩
        ·exact news [] _ a0 0 rfl rs' (by simp[rowsD]) (by simp) ha Re (by simpa using Qh) rfl (by simp)
        ·exact news (es.map (·.map .p)) _ (some ⟨bV,off,none⟩) es.length (by simp) rs' (by simp[rowsD]) hol ha (by simpa using Re) (by simp;omega) rfl rfl
       ·-- a cn part
        rename_i b e' i n
        cases O4:h[b]? with
        | none=>simp[O4] at hd
        | some bx =>
         cases bx<;>simp only[O4,reduceCtorEq] at hd
         rename_i es e2 Pq
         split at hd
         case isFalse=>simp at hd
         rename_i he
         obtain⟨rfl,rfl⟩:=he
         simp only[Ho,Hu,Hx,IU,Me] at hd
         obtain⟨⟨⟨ha,Re⟩,Ou⟩,rfl,rfl⟩:=hd
         have Qh:0<rows.length:=Nc.2 Ou
         have rs':=rs
         obtain⟨_,hr⟩:=rs
         simp only[O4] at hr
         obtain⟨P1,bV,cap,c2,N4,rfl,_,hc⟩:=hr.2 trivial
         have Is:=hc trivial
         subst Is
         have hlen:((es.drop i).take c2).length=c2:=by simp;omega
         have Oa:=R.bV b _ O4
         simp only[BlkOk,N4] at Oa
         obtain⟨c,T,fr,Sj,o1,o2,o3,o4,o5,o6,o7⟩:=Oa
         exact news ((es.drop i).take c2) _ (some _) c2 (by rw[hlen]) rs' (by simp[rowsD,O4]) (fun r hr=>o5 r (List.mem_of_mem_drop (List.mem_of_mem_take hr))) ha (by rw[hlen];exact Re) (by rw[hlen];omega) rfl rfl
       ·-- an owned vector
        rename_i b e'
        cases O4:h[b]? with
        | none=>simp[O4] at hd
        | some bx =>
         cases bx<;>simp only[O4,reduceCtorEq] at hd
         rename_i es e2 Pq
         split at hd
         case isFalse=>simp at hd
         rename_i he
         obtain⟨rfl,rfl⟩:=he
         simp only[Ho,Hu,Hx] at hd
         obtain⟨⟨ha,Re⟩,rfl,rfl⟩:=hd
         have rs':=rs
         obtain⟨_,hr⟩:=rs
         simp only[O4] at hr
         have hv:=hr.2 trivial
         have Oa:=R.bV b _ O4
         have grow:∀(base:Option Addr) (cap:Nat),ys=.slice base es.length cap→(∀r∈es,r.length=Pq)→cap<es.length+rows.length →
           ∃v w' l',(Jd #[t,tx] ty #[ys,yx]).run P w=.ok v w'∧Rep Γ O w' l' (h.set b (.vec (es++rows) (e'+1) Pq))∧Ext w l h w' l' (h.set b (.vec (es++rows) (e'+1) Pq)) ∧
            Rel w' (avs O l' (h.set b (.vec (es++rows) (e'+1) Pq))) l' (h.set b (.vec (es++rows) (e'+1) Pq)) (.ref (.vec b (e'+1))) v:=by
          intro base cap hy hol iF
          obtain⟨Pn,cs,zs,rest,k1,k2,k3,k4,k5,k6⟩:=mk base cap es ys hy rs' (by simp[rowsD,O4]) hol ha Re iF
          obtain⟨l',k7,k8,k9⟩:=xr R1 O4 w.drew ⟨rfl,rfl,rfl,rfl,(by first|exact HS _|exact JN _)⟩ e cs (es++rows) Pn zs rest k2 k3 k4 k5 k6
          exact⟨_,_,l',k1,k7,E1.trans k8,k9⟩
         cases N4:l b with
         | none =>
          simp only[N4,ml,BlkOk] at hv Oa
          obtain⟨_,rfl⟩:=hv
          subst Oa
          cases hrl:rows with
          | nil =>
           subst hrl
           obtain⟨g1,nw,g2,g3⟩:=cQ (P:=P) R rx Po (pre ha).1
           have:=R.step (w':=w) (l':=l) (h':=h.set b (.vec ([]++[]) (e'+1) Pq)) b (.vec ([]++[]) (e'+1) Pq) (HS _) ⟨rfl,rfl,rfl,(by first|exact HS _|exact JN _)⟩
            (fun i hi=>bB _ _ hi) (bc O4) (fun _ _=>rfl)
            (fun z hz=>by rw[O4] at hz;cases hz;exact⟨⟨JN _,fun hh=>absurd hh (by omega),rfl⟩,fun hh=>absurd hh (by simp[LI])⟩)
            (fun _ _ _=>rfl) (fun k c hk=>by rw[N4] at hk;simp at hk) (fun E=>by simp[BlkOk,N4])
           refine⟨_,_,l,fm ht hux Qe hs g1 g2,this.1,this.2,?_⟩
           simp only[Rel,RefRel]
           refine⟨rfl,?_⟩
           rw[bc O4]
           simp[ml,N4]
          | cons r0 rs2 =>
           rw[←hrl]
           exact grow none 0 rfl (by simp) (by rw[hrl];simp)
         | some pr =>
          obtain⟨bV,cap⟩:=pr
          simp only[N4,ml,BlkOk] at hv Oa
          obtain⟨rfl,_⟩:=hv
          obtain⟨c,T,fr,Sj,o1,o2,o3,o4,o5,o6,rest,o7⟩:=Oa
          by_cases Sx:es.length+rows.length≤cap
          ·obtain⟨p1,p2⟩:=pre ha
           obtain⟨g1,nw,g2,g3⟩:=cQ (P:=P) R rx Po p1
           have hnl:nw.length=rows.length*Pq:=by rw[←g3.length,bj p1]
           obtain⟨w',c',k1,k2,k3,k4,k5,k6⟩:=oc (P:=P) (ty:=ty) (T:=T) ht hux Qe hs g1 g2 (si g3 p2) hnl Sx o1 o4 o2
           have hyl:Sj.length=es.length*Pq:=by rw[←o6.length,bj o5]
           have hcz:c'.size=c.size:=by
            have hh:=congrArg List.length k5
            have Ol:c.toList.length=Sj.length+rest.length:=by rw[o7];simp
            have h9:=Kk Pq Sx
            rw[J0] at h9
            simp only[bC,ID,LA,Md,KB] at hh Ol
            omega
           have:=R.step (w':=w') (l':=l) (h':=h.set b (.vec (es++rows) (e'+1) Pq)) b (.vec (es++rows) (e'+1) Pq) (by omega) k6
            (fun i hi=>bB _ _ hi) (bc O4) (fun _ _=>rfl)
            (fun z hz=>by rw[O4] at hz;cases hz;exact⟨⟨JN _,fun hh=>absurd hh (by omega),rfl⟩,fun hh=>absurd hh (by simp[LI])⟩)
            (fun k hk O3=>k3 k (fun ee=>O3 _ cap O4 (by simp) (by rw[N4,ee])))
            (fun k cc hk=>.inl ⟨_,cc,O4,by simp,hk⟩)
            (fun E=>by
             simp only[BlkOk,N4]
             refine⟨c',T,fr,Sj++nw,k4,by omega,by simpa using Sx,by rw[hcz];exact o4,?_,?_,rest.drop nw.length,?_⟩
             ·intro r hr
              rcases Jg.1 hr with hr|hr
              ·exact o5 r hr
              ·exact p1 r hr
             ·rw[Kr];exact(E.relL o6).append (E.relL g3)
             ·rw[k5,o7]
              unfold bC
              rw[←hyl,List.take_left',List.drop_append]
              ·simp
              ·rfl)
           refine⟨_,w',l,k1,this.1,this.2,?_⟩
           simp only[Rel,RefRel]
           refine⟨rfl,?_⟩
           rw[bc O4]
           simp[ml,N4,Sx]
          ·exact grow (some ⟨bV,0,none⟩) cap rfl o5 (by omega)
       ·simp at hd
end
section
variable {P:Program} {Γ:aw} {O:Nat→Prop} {w:World} {l:Loc} {h:List Blk}
theorem ax{av:Nat→Prop}{x y:Value}(r:Rel w av l h (.p (.v x)) y):y=x:=by simpa[Rel,RelP] using r
theorem eqS_eq(a b:ByteArray):(a.toList==b.toList)=eqS a b:=by simp[eqS,Ml]
theorem gS{op:BinOp}{k:IntKind}{a b n:Int}(hb:xn op k a b=some n)(w:World):(Op.intBits op k a b).run P w=.ok (.int k n) w:=by
 unfold xn at hb
 cases op<;>simp only[Ho,reduceCtorEq] at hb<;>subst hb<;>rfl
theorem intOp_run{op:BinOp}{k:IntKind}{t:TypeId}{a b:Int}{d:D}(hd:intOp op k a b=some (true,d))(w:World):
  ∃v,(binOp op t (.int k a) (.int k b)).run P w=.ok v w∧Rel w (avs O l h) l h d v:=by
 cases op<;>simp only[intOp,Ho,Hu,true_and,Hy] at hd
 case quo =>
  obtain⟨h1,rfl⟩:=hd
  simp only[IU,decide_eq_false_iff_not] at h1
  exact⟨_,by simp[binOp,Op.intDiv,h1],rel_lit _ _ _ _ _⟩
 case rem =>
  obtain⟨h1,rfl⟩:=hd
  simp only[IU,decide_eq_false_iff_not] at h1
  exact⟨_,by simp[binOp,Op.intDiv,h1],rel_lit _ _ _ _ _⟩
 case add=>subst hd;exact⟨_,by simp[binOp,LY],rel_lit _ _ _ _ _⟩
 case sub=>subst hd;exact⟨_,by simp[binOp,LY],rel_lit _ _ _ _ _⟩
 case mul=>subst hd;exact⟨_,by simp[binOp,LY],rel_lit _ _ _ _ _⟩
 case eql=>subst hd;exact⟨_,by simp[binOp,Lz],rel_lit _ _ _ _ _⟩
 case neq=>subst hd;exact⟨_,by simp[binOp,Lz],rel_lit _ _ _ _ _⟩
 case lss=>subst hd;exact⟨_,by simp[binOp,Lz],rel_lit _ _ _ _ _⟩
 case leq=>subst hd;exact⟨_,by simp[binOp,Lz],rel_lit _ _ _ _ _⟩
 case gtr=>subst hd;exact⟨_,by simp[binOp,Lz],rel_lit _ _ _ _ _⟩
 case geq=>subst hd;exact⟨_,by simp[binOp,Lz],rel_lit _ _ _ _ _⟩
 case and=>obtain⟨n,h1,rfl⟩:=hd;exact⟨_,by simpa[binOp] using gS h1 w,rel_lit _ _ _ _ _⟩
 case or=>obtain⟨n,h1,rfl⟩:=hd;exact⟨_,by simpa[binOp] using gS h1 w,rel_lit _ _ _ _ _⟩
 case xor=>obtain⟨n,h1,rfl⟩:=hd;exact⟨_,by simpa[binOp] using gS h1 w,rel_lit _ _ _ _ _⟩
 case andNot=>obtain⟨n,h1,rfl⟩:=hd;exact⟨_,by simpa[binOp] using gS h1 w,rel_lit _ _ _ _ _⟩
 all_goals (obtain⟨n,h1,rfl⟩:=hd;simp[xn] at h1)
theorem xt{op:BinOp}{t:TypeId}{a b:ByteArray}{d:D}(hd:strOp op a b=some (true,d))(w:World):
  ∃v,(binOp op t (.string a) (.string b)).run P w=.ok v w∧Rel w (avs O l h) l h d v:=by
 cases op<;>simp only[strOp,Ho,Hu,true_and,reduceCtorEq] at hd
 case add =>
  obtain⟨h1,rfl⟩:=hd
  have h2:¬(((a.size+b.size:Nat):Int)>Hp.max):=by
   have:Hp.max=9223372036854775807:=rfl
   rw[this];simp only[decide_eq_true_eq] at h1;omega
  exact⟨_,by simp only[binOp,Op.stringOp,h2,if_false];rfl,rel_lit _ _ _ _ _⟩
 all_goals
  subst hd
  refine⟨_,by simp only[binOp,Op.stringOp,Ml];rfl,rel_lit _ _ _ _ _⟩
theorem vO{op:BinOp}{t:TypeId}{xo yo:Operand}{x y d:D}{a b:Value}(rx:Rel w (avs O l h) l h x a)(ry:Rel w (avs O l h) l h y b)(hd:binD op x y=some (true,d)):
  ∃v,(do eqGuard op t xo yo a b;binOp op t a b:Sem Value).run P w=.ok v w∧Rel w (avs O l h) l h d v:=by
 unfold binD at hd
 split at hd
 ·rename_i k n k' m
  obtain rfl:=ax rx
  obtain rfl:=ax ry
  have hg:(eqGuard op t xo yo (.int k n) (.int k' m)).run P w=.ok () w:=by
   unfold eqGuard
   cases op<;>simp
  simp only[HM,hg,HE]
  split at hd
  ·simp only[Ho,Hu,decide_eq_true_eq] at hd
   obtain⟨h1,rfl⟩:=hd
   exact⟨_,by simp[binOp,Op.shift,K4.2 h1],rel_lit _ _ _ _ _⟩
  ·simp only[Ho,Hu,decide_eq_true_eq] at hd
   obtain⟨h1,rfl⟩:=hd
   exact⟨_,by simp[binOp,Op.shift,K4.2 h1],rel_lit _ _ _ _ _⟩
  ·split at hd
   ·rename_i hk;subst hk;exact intOp_run hd w
   ·simp at hd
 ·rename_i s u
  obtain rfl:=ax rx
  obtain rfl:=ax ry
  have hg:(eqGuard op t xo yo (.string s) (.string u)).run P w=.ok () w:=by
   unfold eqGuard
   cases op<;>simp
  simp only[HM,hg,HE]
  exact xt hd w
 ·simp at hd
theorem xu{op:UnOp}{x d:D}{a:Value}(rx:Rel w (avs O l h) l h x a)(hd:unD op x=some d):∃v,(Nr op a).run P w=.ok v w∧Rel w (avs O l h) l h d v:=by
 unfold unD at hd
 split at hd
 ·obtain rfl:=ax rx
  split at hd
  ·cases hd;exact⟨_,by simp[Nr,LY],rel_lit _ _ _ _ _⟩
  ·simp only[Hy] at hd
   obtain⟨n,h1,rfl⟩:=hd
   exact⟨_,by simpa[Nr] using gS h1 w,rel_lit _ _ _ _ _⟩
  ·simp at hd
 ·obtain rfl:=ax rx
  split at hd
  ·cases hd;exact⟨_,by simp[Nr],rel_lit _ _ _ _ _⟩
  ·simp at hd
 ·simp at hd
theorem sk{c x y d:D}{vc vx vy:Value}(rc:Rel w (avs O l h) l h c vc)(rx:Rel w (avs O l h) l h x vx)(ry:Rel w (avs O l h) l h y vy)(hd:pickD c x y=some (true,d)):
  ∃v,(do pure (.value (if ←asBool vc then vx else vy)):Sem Next).run P w=.ok (.value v) w∧Rel w (avs O l h) l h d v:=by
 unfold pickD at hd
 split at hd
 case h_2=>simp at hd
 rename_i b
 obtain rfl:=ax rc
 split at hd
 ·cases hd
  obtain rfl:=ax rx
  obtain rfl:=ax ry
  cases b
  ·exact⟨_,by simp[asBool],rel_lit _ _ _ _ _⟩
  ·exact⟨_,by simp[asBool],rel_lit _ _ _ _ _⟩
 ·simp only[Ho,Hu,Ju] at hd
  obtain⟨hg,rfl⟩:=hd
  obtain rfl:=ax rx
  cases b
  ·simp only[Rel] at ry
   have:=ry.1 (by simpa using hg)
   simp only[RelP] at this
   subst this
   exact⟨_,by simp[asBool],rel_lit _ _ _ _ _⟩
  ·exact⟨_,by simp[asBool],rel_lit _ _ _ _ _⟩
 ·simp only[Ho,Hu,Ju] at hd
  obtain⟨hg,rfl⟩:=hd
  obtain rfl:=ax ry
  cases b
  ·exact⟨_,by simp[asBool],rel_lit _ _ _ _ _⟩
  ·simp only[Rel] at rx
   have:=rx.1 (by simpa using hg)
   simp only[RelP] at this
   subst this
   exact⟨_,by simp[asBool],rel_lit _ _ _ _ _⟩
 ·cases hd
  cases b
  ·exact⟨_,by simp[asBool],ry⟩
  ·exact⟨_,by simp[asBool],rx⟩
theorem sn{src dst:TypeId}{x d:D}{a:Value}(rx:Rel w (avs O l h) l h x a)(hd:DK P src dst x=some d):
  ∃v,(convert src dst a).run P w=.ok v w∧Rel w (avs O l h) l h d v:=by
 unfold DK at hd
 split at hd
 ·rename_i s k n h1 h2
  cases hd
  obtain rfl:=ax rx
  refine⟨_,?_,rel_lit _ _ _ _ _⟩
  simp only[convert,HM,und_run h1,und_run h2,HE,Conv.intToInt,H3]
 ·rename_i s n h1 h2
  cases hd
  obtain rfl:=ax rx
  refine⟨_,?_,rel_lit _ _ _ _ _⟩
  simp only[convert,HM,und_run h1,und_run h2,HE]
  cases s<;>simp
 ·simp at hd
theorem eM{mx:Bool}{t:TypeId}{ts:Array TypeId}:∀{xs:List D} {x d:D} {a:Value} {vs:List Value} (_:Rel w (avs O l h) l h x a) (_:RelL w (avs O l h) l h xs vs) (_:iH mx x xs=some d),
  ∃v,(vs.foldlM (if mx then Builtin.max2 else Builtin.min2) a).run P w=.ok v w∧Rel w (avs O l h) l h d v
 | [],x,d,a,[],rx,_,hd=>by simp only[iH,Ho] at hd;subst hd;exact⟨a,by simp,rx⟩
 | y::xs,x,d,a,v::vs,rx,rl,hd=>by
  simp only[RelL] at rl
  simp only[iH] at hd
  cases h1:intOf? x with
  | none=>simp[h1] at hd
  | some p1 =>
   cases h2:intOf? y with
   | none=>simp[h1,h2] at hd
   | some p2 =>
    obtain⟨k,n⟩:=p1
    obtain⟨k2,m⟩:=p2
    simp only[h1,h2] at hd
    obtain rfl:=bH rx h1
    obtain rfl:=bH rl.1 h2
    obtain⟨v,h3,h4⟩:=eM (t:=t) (ts:=ts) (a:=.int k (if mx then (if m>n then m else n) else (if m<n then m else n))) (rel_lit _ _ _ _ _) rl.2 hd
    refine⟨v,?_,h4⟩
    rw[List.foldlM_cons,HM]
    cases mx<;>simpa[Builtin.max2,Builtin.min2] using h3
 | [],_,_,_,_::_,_,rl,_=>by simp[RelL] at rl
 | _::_,_,_,_,[],_,rl,_=>by simp[RelL] at rl
theorem vP{x:D}{y:Value}{n:Nat}(rx:Rel w (avs O l h) l h x y)(hx:lenD h x=some n):∃a c,y=.slice a n c:=by
 cases x with
 | p dp =>
  cases dp with
  | v x =>
   obtain rfl:=ax rx
   cases y<;>simp[lenD] at hx
   case slice a m c=>cases a<;>cases m<;>cases c<;>simp at hx;subst hx;exact⟨_,_,rfl⟩
  | sl es =>
   simp only[lenD,Ho] at hx
   subst hx
   simp only[Rel,RelP] at rx
   rcases rx with ⟨rfl,_,_,rfl,_⟩|⟨bV,off,cap,sz,rfl,_,rr⟩<;>exact⟨_,_,rfl⟩
 | csl es =>
  simp only[lenD,Ho] at hx
  subst hx
  simp only[Rel] at rx
  rcases rx with ⟨rfl,_,rfl⟩|⟨bV,off,sz,rfl,rr⟩<;>exact⟨_,_,rfl⟩
 | ref r =>
  obtain⟨g1,hr⟩:=rx
  cases r with
  | vec b e =>
   simp only[lenD] at hx hr
   cases hb:h[b]? with
   | none=>simp[hb] at hx
   | some bx =>
    cases bx<;>simp only[hb,reduceCtorEq] at hx hr
    split at hx
    case isFalse=>simp at hx
    rename_i he
    cases hx
    have hv:=hr.2 he.symm
    cases N4:l b with
    | none=>simp only[N4,ml] at hv;rw[hv.1,hv.2];exact⟨_,_,rfl⟩
    | some pr=>obtain⟨bV,cap⟩:=pr;simp only[N4,ml] at hv;rw[hv.1];exact⟨_,_,rfl⟩
  | vs b e i m c =>
   simp only[lenD] at hx hr
   cases hb:h[b]? with
   | none=>simp[hb] at hx
   | some bx =>
    cases bx<;>simp only[hb,reduceCtorEq] at hx hr
    split at hx
    case isFalse=>simp at hx
    rename_i he
    cases hx
    obtain⟨_,bV,cap,c2,_,rfl,_⟩:=hr.2 he.symm
    exact⟨_,_,rfl⟩
  | av b off m sz =>
   simp only[lenD] at hx hr
   cases hb:h[b]? with
   | none=>simp[hb] at hx
   | some bx =>
    cases bx<;>simp only[hb,reduceCtorEq] at hx hr
    cases hx
    obtain⟨bV,cp,c2,_,rfl,_⟩:=hr
    exact⟨_,_,rfl⟩
  | _=>simp[lenD] at hx
 | _=>simp[lenD] at hx
theorem fo:∀(kvs:List (D×D×Nat)) (es:List MapEntry),RelKV w (avs O l h) l h kvs es→kvs.length=es.length
 | [],[],_=>rfl
 | (_,_,_)::kvs,e::es,r=>by simp only[RelKV] at r;simp[fo kvs es r.2.2.2]
 | [],_::_,r=>by simp[RelKV] at r
 | _::_,[],r=>by simp[RelKV] at r
theorem so(R:Rep Γ O w l h){t ty:TypeId}{ts:List TypeId}{x d:D}{y:Value}(rx:Rel w (avs O l h) l h x y)(hd:vK P h t x=some d):
  ∃v,(Kl (t::ts).toArray ty #[y]).run P w=.ok v w∧Rel w (avs O l h) l h d v:=by
 unfold vK at hd
 cases hu:P.underlying t with
 | none=>simp[hu] at hd
 | some u =>
  cases u<;>simp only[hu,reduceCtorEq,Hy,Ho] at hd
  case array n e=>subst hd;exact⟨_,by simp[Kl,und_run hu,goInt],rel_lit _ _ _ _ _⟩
  case string =>
   split at hd
   ·cases hd
    obtain rfl:=ax rx
    exact⟨_,by simp[Kl,und_run hu,goInt],rel_lit _ _ _ _ _⟩
   ·simp at hd
  case slice e =>
   obtain⟨n,h1,rfl⟩:=hd
   obtain⟨a,c,rfl⟩:=vP rx h1
   exact⟨_,by simp[Kl,und_run hu,goInt],rel_lit _ _ _ _ _⟩
  case map kt et =>
   split at hd
   ·cases hd
    obtain rfl:=ax rx
    exact⟨_,by simp[Kl,und_run hu,goInt],rel_lit _ _ _ _ _⟩
   ·rename_i b
    cases hb:h[b]? with
    | none=>simp[hb] at hd
    | some bx =>
     obtain⟨_,hr⟩:=rx
     cases bx<;>simp only[hb,reduceCtorEq,Ho] at hd hr
     subst hd
     obtain⟨bV,cp,N4,rfl⟩:=hr
     obtain⟨Oh,Pm,es,h1,h2,h3⟩:=R.bV b _ hb
     obtain⟨rfl,rfl⟩:bV=Oh∧cp=Pm:=by simpa[N4] using h1
     refine⟨_,?_,rel_lit _ _ _ _ _⟩
     simp[Kl,und_run hu,getObj,Sem.run,h2,goInt,fo _ _ h3]
   ·simp at hd
end
section
variable {P:Program} {Γ:aw} {O:Nat→Prop} {w:World} {l:Loc} {h:List Blk}
theorem kB:∀(vs:List Value) (k off:Nat) (cs:Array Value),off+k+vs.length≤cs.size →
  ((vs.zipIdx k).foldl (fun cs (p:Value×Nat)=>cs.setIfInBounds (off+p.2) p.1) cs).toList=bC cs.toList (off+k) vs
 | [],k,off,cs,_=>by simp[bC]
 | v::vs,k,off,cs,hl=>by
  simp only[HY] at hl
  simp only[List.zipIdx_cons,List.foldl_cons]
  rw[kB vs (k+1) off (cs.setIfInBounds (off+k) v) (by simp;omega)]
  simp only[bC,Array.toList_setIfInBounds,HY]
  have iF:off+k<cs.toList.length:=by simp;omega
  rw[List.drop_set,if_pos (by omega)]
  have h8:(cs.toList.set (off+k) v).take (off+(k+1))=cs.toList.take (off+k)++[v]:=by
   rw[show off+(k+1)=(off+k)+1 by omega,List.take_succ_eq_append_getElem (by simpa using iF),List.take_set,List.set_eq_of_length_le (by simp;omega)]
   simp
  rw[h8,show off+(k+1)+vs.length=off+k+(vs.length+1) by omega]
  simp
theorem pS(vs:Array Value)(off:Nat)(cs:Array Value)(hl:off+vs.size≤cs.size):
  (vs.zipIdx.foldl (fun cs (p:Value×Nat)=>cs.setIfInBounds (off+p.2) p.1) cs).toList=bC cs.toList off vs.toList:=by
 have:=kB vs.toList 0 off cs (by simpa using hl)
 rw[←Array.foldl_toList,Array.toList_zipIdx]
 simpa using this
theorem fT{place:Nat→Option (Nat×Nat)}:∀{ps:List (Nat×D)} {qs:List (Nat×Value)} {cs cs':List D} {vs:Array Value},ps.length=qs.length →
  (∀(j:Nat) (p:Nat×D) (q:Nat×Value),ps[j]? = some p→qs[j]? = some q→p.1=q.1∧Rel w (avs O l h) l h p.2 q.2)→RelL w (avs O l h) l h cs vs.toList→pK place cs ps=some cs' →
  ∃R9,Instr.fill place vs qs=some R9∧RelL w (avs O l h) l h cs' R9.toList∧R9.size=vs.size
 | [],[],cs,cs',vs,_,_,r,hd=>by simp only[pK,Ho] at hd;subst hd;exact⟨vs,rfl,r,rfl⟩
 | p::ps,q::qs,cs,cs',vs,hl,hp,r,hd=>by
  obtain⟨i,d⟩:=p
  obtain⟨i',y⟩:=q
  obtain⟨rfl,rd⟩:=hp 0 (i,d) (i',y) (by simp) (by simp)
  simp only[pK] at hd
  cases Rs:place i with
  | none=>simp[Rs] at hd
  | some os =>
   obtain⟨off,size⟩:=os
   cases hc:d.cells with
   | none=>simp[Rs,hc] at hd
   | some new =>
    simp only[Rs,hc] at hd
    split at hd
    case isFalse=>simp at hd
    rename_i Ow
    obtain⟨g1,g2⟩:=Ow
    obtain⟨c1,c2⟩:=dI rd hc
    have hys:y.cells.size=size:=by rw[←g1,c1.length];simp
    have Ol:=r.length
    have hvs:vs.toList.length=vs.size:=by simp
    have hsp:=pS y.cells off vs (by omega)
    have rsp:RelL w (avs O l h) l h (bU cs off new) (y.cells.zipIdx.foldl (fun cs (p:Value×Nat)=>cs.setIfInBounds (off+p.2) p.1) vs).toList:=by
     rw[hsp];exact r.splice off c1
    obtain⟨R9,f1,f2,f3⟩:=fT (ps:=ps) (qs:=qs) (by simpa using hl) (fun j p q h1 h2=>hp (j+1) p q (by simpa using h1) (by simpa using h2)) rsp hd
    refine⟨R9,?_,f2,?_⟩
    ·simp only[Instr.fill,Rs]
     rw[if_neg]
     ·exact f1
     ·simp[hys];omega
    ·rw[f3]
     have:=congrArg List.length hsp
     simp only[bC,ID,LA,Md,KB] at this
     omega
 | [],_::_,_,_,_,hl,_,_,_=>by simp at hl
 | _::_,[],_,_,_,hl,_,_,_=>by simp at hl
theorem vQ{fields:List Field}{pl:List (Nat×Nat)}(hp:fields.mapM (fun f=>(szOf P f.type).map fun n=>(f.offset,n))=some pl)(w:World):
  (fields.mapM (fun f=>(do pure (f.offset,←sizeOf f.type):Sem (Nat×Nat)))).run P w=.ok pl w:=by
 induction fields generalizing pl with
 | nil=>simp at hp;subst hp;simp
 | cons f fs ih =>
  simp only[MH,Option.bind_eq_bind,Option.bind_eq_some_iff,Hy,Option.pure_def,Ho] at hp
  obtain⟨p,⟨n,h1,rfl⟩,pl',h2,rfl⟩:=hp
  have:=ih h2
  simp only[MH,HM,aX h1,HE,H3] at this ⊢
  rw[this]
  simp
theorem pT{t:TypeId}{ps:List (Nat×D)}{qs:List (Nat×Value)}{d:D}(hl:ps.length=qs.length)
  (hp:∀(j:Nat) (p:Nat×D) (q:Nat×Value),ps[j]? = some p→qs[j]? = some q→p.1=q.1∧Rel w (avs O l h) l h p.2 q.2) (hd:xm P t ps=some d) :
  ∃v,(MI t qs.toArray).run P w=.ok v w∧Rel w (avs O l h) l h d v:=by
 unfold xm at hd
 cases hu:P.underlying t with
 | none=>simp[hu] at hd
 | some u =>
  cases hz:fk P t with
  | none=>cases u<;>simp[hu,hz] at hd
  | some z =>
   obtain⟨zv,hzv,rfl⟩:=eu hz
   cases u<;>simp only[hu,hz,reduceCtorEq] at hd
   case struct fields =>
    cases Rs:tZ P fields with
    | none=>simp[Rs] at hd
    | some pl =>
     simp only[Rs,Hy] at hd
     obtain⟨cs,h1,rfl⟩:=hd
     obtain⟨R9,f1,f2,_⟩:=fT hl hp (RelL.lits zv.cells.toList) h1
     refine⟨.agg R9,?_,by simp only[Rel];exact⟨_,rfl,f2⟩⟩
     have hm:(fields.mapM (fun f=>(do pure (f.offset,←sizeOf f.type):Sem (Nat×Nat)))).run P w=.ok pl.toArray w:=by
      rw[←Array.toArray_toList (xs:=fields)]
      rw[List.mapM_toArray]
      simp only[Sem.run_map,vQ Rs w,HE]
     simp only[MI,HM,zeroV_run hzv,HE,und_run hu,hm]
     have:(fun (i:Nat)=>pl.toArray[i]?)=(fun (i:Nat)=>pl[i]?):=by funext i;simp
     rw[this,f1]
     simp
   case array n e =>
    cases hs:szOf P e with
    | none=>simp[hs] at hd
    | some sz =>
     simp only[hs,Hy] at hd
     obtain⟨cs,h1,rfl⟩:=hd
     obtain⟨R9,f1,f2,_⟩:=fT hl hp (RelL.lits zv.cells.toList) h1
     refine⟨.agg R9,?_,by simp only[Rel];exact⟨_,rfl,f2⟩⟩
     simp only[MI,HM,zeroV_run hzv,HE,und_run hu,aX hs,f1,H3]
theorem kC{z:Array Value}{sz:Nat}(hz:z.size=sz):∀n,(List.range (n*sz)).map (fun i=>z[i % z.size]!)=(HX n z.toList).flatten
 | 0=>by simp
 | n+1=>by
  rw[Nat.succ_mul,List.range_add,List.map_append,kC hz n,List.replicate_succ',Kr]
  congr 1
  rw[List.map_map]
  apply List.ext_getElem
  ·simp[hz]
  ·intro i h1 h2
   simp only[List.length_map,List.length_range] at h1
   have:(n*sz+i) % sz=i:=by rw[Nat.add_comm,Nat.add_mul_mod_self_right,Nat.mod_eq_of_lt h1]
   simp[hz,this,h1]
theorem relL_rep{z:List Value}:∀n,RelL w (avs O l h) l h (HX n (z.map lit)).flatten (HX n z).flatten
 | 0=>by simp[RelL]
 | n+1=>by simp only[List.replicate_succ,List.flatten_cons];exact(RelL.lits z).append (relL_rep n)
theorem pU{t e:TypeId}(Ql:kv P t=some e):P.underlying t=some (.slice e):=by
 unfold kv at Ql
 cases hu:P.underlying t with
 | none=>simp[hu] at Ql
 | some u=>cases u<;>simp_all
theorem iJ(R:Rep Γ O w l h){t:TypeId}{len:Nat}{ps:List (Nat×D)}{qs:List (Nat×Value)}{d:D}{h':List Blk}(hl:ps.length=qs.length)
  (hp:∀(j:Nat) (p:Nat×D) (q:Nat×Value),ps[j]? = some p→qs[j]? = some q→p.1=q.1∧Rel w (avs O l h) l h p.2 q.2) (hd:dK P h t len ps=some (d,h')) :
  ∃v w' l',(LJ t len qs.toArray).run P w=.ok v w'∧Rep Γ O w' l' h'∧Ext w l h w' l' h'∧Rel w' (avs O l' h') l' h' d v:=by
 unfold dK at hd
 cases Ql:kv P t with
 | none=>simp[Ql] at hd
 | some e =>
  have ht:=pU Ql
  cases hs:szOf P e with
  | none=>simp[Ql,hs] at hd
  | some sz =>
   cases hz:fk P e with
   | none=>simp[Ql,hs,hz] at hd
   | some z =>
    obtain⟨zv,hzv,rfl⟩:=eu hz
    simp only[Ql,hs,hz] at hd
    split at hd
    case isFalse=>simp at hd
    rename_i hc
    obtain⟨g1,g2⟩:=hc
    have hzs:zv.cells.size=sz:=by simpa using g1
    cases hf:pK (fun i=>some (i*sz,sz)) (HX len (zv.cells.toList.map lit)).flatten ps with
    | none=>simp[hf] at hd
    | some cs =>
     simp only[hf,Ho,Hu] at hd
     obtain⟨rfl,rfl⟩:=hd
     have Qr:RelL w (avs O l h) l h (HX len (zv.cells.toList.map lit)).flatten ((KI (len*sz)).map (fun i=>zv.cells[i % zv.cells.size]!)).toList:=by
      rw[LZ,Nd,kC hzs];exact relL_rep len
     obtain⟨R9,f1,f2,f3⟩:=fT hl hp Qr hf
     have hvs:R9.size=len*sz:=by rw[f3];simp
     have Ol:cs.length=len*sz:=by rw[f2.length];simp[hvs]
     obtain⟨c1,c2,c3⟩:=gR (n:=sz) len cs (by rw[Ol,Nat.mul_comm];exact HS _)
     rw[List.take_of_length_le (by rw[Ol,Nat.mul_comm];exact HS _)] at c1
     obtain⟨l',k7,k8,k9⟩:=iI R w ⟨rfl,rfl,rfl,rfl,HS _⟩ e R9 (chunk sz len cs) sz len R9.toList [] (by simp) hvs (by omega) c2 (by rw[c1];exact f2)
     refine⟨.slice (some ⟨w.heap.size,0,none⟩) len len,_,l',?_,k7,k8,by rw[c3] at k9;exact k9⟩
     have hbig:¬(len*sz>2 ^ 24):=by omega
     by_cases h0:len*sz=0
     ·have e0:(KI (len*sz)).map (fun i=>zv.cells[i % zv.cells.size]!)=(KI (len*sz)).map (fun i=>(#[]:Array Value)[i % 0]!):=by rw[h0];simp
      rw[e0] at f1
      simp only[LJ,HM,und_run ht,HE,aX hs,Lo,h0,if_true,H3] at f1 ⊢
      simp only[List.size_toArray,Jj,f1,newRow,HM,run_newObj,HE,H3,Ld]
      rw[if_neg (by omega)]
     ·simp only[LJ,HM,und_run ht,HE,aX hs,Lo,hbig,if_false,h0,zeroV_run hzv,H3,f1,newRow,run_newObj,Ld]
theorem sq(R:Rep Γ O w l h){t:TypeId}{x y d:D}{a b:Value}{h':List Blk}(rx:Rel w (avs O l h) l h x a)(ry:Rel w (avs O l h) l h y b)(hd:xq P h t x y=some (true,d,h')):
  ∃v w' l',(LV t a b).run P w=.ok v w'∧Rep Γ O w' l' h'∧Ext w l h w' l' h'∧Rel w' (avs O l' h') l' h' d v:=by
 unfold xq at hd
 cases Ql:kv P t with
 | none=>simp[Ql] at hd
 | some e =>
  have ht:=pU Ql
  cases h1:intOf? x with
  | none=>simp[Ql,h1] at hd
  | some p1 =>
   cases h2:intOf? y with
   | none=>simp[Ql,h1,h2] at hd
   | some p2 =>
    obtain⟨k1,n⟩:=p1
    obtain⟨k2,c⟩:=p2
    obtain rfl:=bH rx h1
    obtain rfl:=bH ry h2
    simp only[Ql,h1,h2] at hd
    cases hs:szOf P e with
    | none=>simp[hs] at hd
    | some sz =>
     cases hb:bytesOf P e with
     | none=>simp[hs,hb] at hd
     | some Ru =>
      cases hz:fk P e with
      | none=>simp[hs,hb,hz] at hd
      | some z =>
       obtain⟨zv,hzv,rfl⟩:=eu hz
       simp only[hs,hb,hz] at hd
       split at hd
       case isFalse=>simp at hd
       rename_i g1
       have hzs:zv.cells.size=sz:=by simpa using g1
       simp only[Ho,Hu,Hx,decide_eq_true_eq] at hd
       obtain⟨⟨⟨⟨q1,q2⟩,q3⟩,q4⟩,rfl,rfl⟩:=hd
       obtain⟨i,hi,hib⟩:=kA hb
       have hwn:Hp.wrap n=n:=IntWalk.i64_in _ (by omega)
       have hwc:Hp.wrap c=c:=IntWalk.i64_in _ (by omega)
       obtain⟨l',k7,k8,k9⟩:=iI R w ⟨rfl,rfl,rfl,rfl,HS _⟩ e ((KI (c.toNat*sz)).map (fun i=>zv.cells[i % zv.cells.size]!)) (HX n.toNat (zv.cells.toList.map lit)) sz c.toNat
        (HX n.toNat zv.cells.toList).flatten (HX (c.toNat - n.toNat) zv.cells.toList).flatten
        (by rw[LZ,Nd,kC hzs,←Kr,List.replicate_append_replicate];congr 2;omega) (by simp) (by simp;omega)
        (by intro r hr;rw[List.eq_of_mem_replicate hr];simp[hzs]) (relL_rep _)
       refine⟨.slice (some ⟨w.heap.size,0,none⟩) n.toNat c.toNat,_,l',?_,k7,k8,by simpa using k9⟩
       have hti:(typeInfo e).run P w=.ok i w:=by simp[typeInfo,hi]
       have t1:¬(c<0∨281474976710656<(i.bytes:Int)*c):=by
        rw[hib];rw[Int.mul_comm] at q3;omega
       have e0:c.toNat*sz=0→(KI (c.toNat*sz)).map (fun i=>zv.cells[i % zv.cells.size]!)=(KI (c.toNat*sz)).map (fun i=>(#[]:Array Value)[i % 0]!):=fun h0=>by rw[h0];simp
       by_cases h0:c.toNat*sz=0
       ·rw[e0 h0]
        simp[LV,und_run ht,asInt,asIntOf,hti,hwn,hwc,q1,K4.2 q1,K4.2 q2,aX hs,h0,newRow]
        exact fun hh=>absurd hh t1
       ·simp[LV,und_run ht,asInt,asIntOf,hti,hwn,hwc,q1,K4.2 q1,K4.2 q2,aX hs,h0,newRow,zeroV_run hzv]
        exact fun hh=>absurd hh t1
end
section
variable {P:Program} {Γ:aw} {O:Nat→Prop} {w:World} {l:Loc} {h:List Blk}
def pH(M:Option Int)(c:Nat):Nat:=match M with|none=>c|some m=>m.toNat
@[simp] theorem pV (c : Nat) : pH none c = c := rfl
@[simp] theorem dM (m : Int) (c : Nat) : pH (some m) c = m.toNat := rfl
def kb(w:World)(av:Nat→Prop)(l:Loc)(h:List Blk):Option D→Option Value→Prop
 | none,none=>True
 | some d,some v=>Rel w av l h d v
 | _,_=>False
theorem bound_run{lo:Option D}{v:Option Value}{L:Int}{dflt:Int}(r:kb w (avs O l h) l h lo v)(hb:cK lo dflt=some L):
  (v=none∧lo=none∧L=dflt)∨∃k,v=some (.int k L):=by
 cases lo with
 | none =>
  cases v with
  | none=>simp only[cK,Ho] at hb;exact .inl ⟨rfl,rfl,hb.symm⟩
  | some x=>simp[kb] at r
 | some d =>
  cases v with
  | none=>simp[kb] at r
  | some x =>
   simp only[cK,Hy] at hb
   obtain⟨⟨k,m⟩,h1,h2⟩:=hb
   simp only at h2
   subst h2
   exact .inr ⟨k,by rw[bH r h1]⟩
theorem dN{b:Bool}{n c:Nat}{lo hi mx:Option D}{vl vh vm:Option Value}{L U:Int}{M:Option Int}
  (rl:kb w (avs O l h) l h lo vl) (rh:kb w (avs O l h) l h hi vh) (rm:kb w (avs O l h) l h mx vm)
  (hl:cK lo 0=some L) (hu:cK hi n=some U) (hm:A1 mx=some M) (ok:mq L U n=true) (Rg:gQ U n M=true) (ok3:(M.isNone||hi.isSome)=true) (hnc:n≤c) :
  (Jr b n c vl vh vm).run P w=.ok (L.toNat,U.toNat,(pH M c)) w:=by
 simp only[mq,Hx,decide_eq_true_eq] at ok
 obtain⟨⟨o1,o2⟩,o3⟩:=ok
 have hlow:∀code (y:Nat),U≤y→(match vl with|some v=>KS v U.toNat code|none=>pure 0:Sem Nat).run P w=.ok L.toNat w:=by
  intro code y _
  rcases bound_run rl hl with ⟨rfl,_,rfl⟩|⟨k,rfl⟩
  ·simp
  ·exact run_sliceBound w k L U.toNat code o1 (by omega)
 cases mx with
 | none =>
  cases vm with
  | some x=>simp[kb] at rm
  | none =>
   simp only[A1,Ho] at hm
   subst hm
   rcases bound_run rh hu with ⟨rfl,_,rfl⟩|⟨k,rfl⟩
   ·rcases bound_run rl hl with ⟨rfl,_,rfl⟩|⟨k2,rfl⟩
    ·simp[Jr]
    ·simp[Jr,run_sliceBound w k2 L n _ o1 (by omega)]
   ·have hU:∀code,(KS (.int k U) c code).run P w=.ok U.toNat w:=fun code=>run_sliceBound w k U c code (by omega) (by omega)
    rcases bound_run rl hl with ⟨rfl,_,rfl⟩|⟨k2,rfl⟩
    ·simp[Jr,hU]
    ·simp[Jr,hU,run_sliceBound w k2 L U.toNat _ o1 (by omega)]
 | some m =>
  cases vm with
  | none=>simp[kb] at rm
  | some x =>
   simp only[A1,Hy] at hm
   obtain⟨⟨km,mv⟩,h1,rfl⟩:=hm
   have hx:=bH rm h1
   subst hx
   simp only[gQ,Hx,decide_eq_true_eq] at Rg
   have hM:∀code,(KS (.int km mv) c code).run P w=.ok mv.toNat w:=fun code=>run_sliceBound w km mv c code (by omega) (by omega)
   rcases bound_run rh hu with ⟨rfl,hi0,_⟩|⟨k,rfl⟩
   ·subst hi0;simp at ok3
   ·have hU:∀code,(KS (.int k U) mv.toNat code).run P w=.ok U.toNat w:=fun code=>run_sliceBound w k U _ code (by omega) (by omega)
    rcases bound_run rl hl with ⟨rfl,_,rfl⟩|⟨k2,rfl⟩
    ·simp[Jr,hM,hU]
    ·simp[Jr,hM,hU,run_sliceBound w k2 L U.toNat _ o1 (by omega)]
theorem RelRows.drop{av:Nat→Prop}{bV sz:Nat}:∀{es:List (List Dp)} {off:Nat} (n:Nat),RelRows w av bV sz off es→RelRows w av bV sz (off+n*sz) (es.drop n)
 | [],_,n,_=>by simp[RelRows]
 | e::es,off,0,r=>by simpa using r
 | e::es,off,n+1,r=>by
  simp only[RelRows] at r
  rw[List.drop_succ_cons,show off+(n+1)*sz=off+sz+n*sz by rw[Nat.succ_mul];omega]
  exact RelRows.drop n r.2.2
theorem RelRows.take{av:Nat→Prop}{bV sz:Nat}:∀{es:List (List Dp)} {off:Nat} (n:Nat),RelRows w av bV sz off es→RelRows w av bV sz off (es.take n)
 | [],_,n,_=>by simp[RelRows]
 | e::es,off,0,r=>by simp[RelRows]
 | e::es,off,n+1,r=>by
  simp only[RelRows,List.take_succ_cons] at r ⊢
  exact⟨r.1,r.2.1,RelRows.take n r.2.2⟩
theorem xv{t e:TypeId}{sz n c:Nat}{base:Option Addr}{lo hi mx:Option D}{vl vh vm:Option Value}{L U:Int}{M:Option Int}(ht:P.underlying t=some (.slice e))(hs:szOf P e=some sz)
  (rl:kb w (avs O l h) l h lo vl) (rh:kb w (avs O l h) l h hi vh) (rm:kb w (avs O l h) l h mx vm)
  (hl:cK lo 0=some L) (hu:cK hi n=some U) (hm:A1 mx=some M) (ok:mq L U n=true) (Rg:gQ U n M=true) (ok3:(M.isNone||hi.isSome)=true) (hnc:n≤c) :
  (JR t (.slice base n c) vl vh vm).run P w=.ok (.slice (if (pH M c)=L.toNat then base else base.map (·.add (L.toNat*sz))) (U.toNat - L.toNat) ((pH M c) - L.toNat)) w:=by
 simp only[JR,HM,und_run ht,HE,MJ,dN (P:=P) (b:=true) rl rh rm hl hu hm ok Rg ok3 hnc,aX hs,H3]
theorem uf{es:List (List Dp)}{bV off sz sz0:Nat}{L U:Nat}(rr:RelRows w (avs O l h) bV sz0 off es)(N6:es.all (fun r=>Zd (r.length=sz))=true)(h1:L≤U)(h2:U≤es.length)(m:Nat)(hm:U≤m):
  Rel w (avs O l h) l h (.p (.sl ((es.drop L).take (U - L)))) (.slice (if m=L then some ⟨bV,off,none⟩ else (some (⟨bV,off,none⟩:Addr)).map (·.add (L*sz))) (U - L) (m - L)) ∧
  (m=U→Rel w (avs O l h) l h (.csl ((es.drop L).take (U - L))) (.slice (if m=L then some ⟨bV,off,none⟩ else (some (⟨bV,off,none⟩:Addr)).map (·.add (L*sz))) (U - L) (m - L))):=by
 have hlen:((es.drop L).take (U - L)).length=U - L:=by simp;omega
 have Po:es ≠ []→sz0=sz:=by
  intro Ou
  cases es with
  | nil=>exact absurd rfl Ou
  | cons e0 es0 =>
   simp only[RelRows] at rr
   simp only[List.all_cons,Hx,decide_eq_true_eq] at N6
   rw[←rr.1,N6.1]
 by_cases hmL:m=L
 ·have:U=L:=by omega
  subst this
  simp only[hmL,if_true,Nat.sub_self,List.take_zero]
  refine⟨?_,fun _=>?_⟩
  ·simp only[Rel,RelP];exact .inr ⟨bV,off,0,sz,rfl,HS _,by simp[RelRows]⟩
  ·simp only[Rel];exact .inr ⟨bV,off,sz,rfl,by simp[RelRows]⟩
 ·simp only[hmL,if_false,H9,b9]
  have Qx:RelRows w (avs O l h) bV sz (off+L*sz) ((es.drop L).take (U - L)):=by
   by_cases Ou:es=[]
   ·subst Ou;simp[RelRows]
   ·have:=Po Ou;subst this
    exact(rr.drop L).take _
  refine⟨?_,fun hmu=>?_⟩
  ·simp only[Rel,RelP]
   exact .inr ⟨bV,off+L*sz,m - L,sz,by rw[hlen],by rw[hlen];omega,Qx⟩
  ·subst hmu
   simp only[Rel]
   exact .inr ⟨bV,off+L*sz,sz,by rw[hlen],Qx⟩
theorem vR{U:Int}{M:Option Int}(hc:cn U M=true):M=some U:=by
 cases M with
 | none=>simp[cn] at hc
 | some m=>simp only[cn,decide_eq_true_eq] at hc;rw[hc]
theorem kD{L U:Int}{n:Nat}(ok:mq L U n=true):0≤L∧L≤U∧U≤n∧L.toNat≤U.toNat∧U.toNat≤n:=by
 simp only[mq,Hx,decide_eq_true_eq] at ok
 omega
theorem oe{av:Nat→Prop}{x:Option Addr}{m:Nat}(cl:Bool)(Ol:cl=true→m=0)(hx:x=none→m=0):
  Rel w av l h (dL cl []) (.slice x 0 m):=by
 cases cl
 ·simp only[dL,Ik,if_false,Rel,RelP]
  exact .inl ⟨trivial,x,m,rfl,hx⟩
 ·have:=Ol rfl;subst this
  simp only[dL,if_true,Rel]
  exact .inl ⟨trivial,x,rfl⟩
theorem db{av:Nat→Prop}{x:Option Addr}{m:Nat}(cl:Bool)(Ol:cl=true→m=0)(hx:x=none→m=0)(_hsp:∀a,x=some a→a.spot=none):
  Rel w av l h (dL cl []) (.slice x 0 m):=oe cl Ol hx
theorem DL{c:Nat}{M:Option Int}{U:Int}(Rg:gQ U 0 M=true){a:Option Addr}{f:Addr→Addr}(ha:a=none→c=0)(hx:(if pH M c=0 then a else a.map f)=none):pH M c=0:=by
 split at hx
 ·assumption
 ·have hn:a=none:=by cases a<;>simp_all
  have:=ha hn
  subst this
  cases M with
  | none=>rfl
  | some m=>simp only[gQ,Hx,decide_eq_true_eq] at Rg;simp only[dM];omega
theorem capOf{c U L n:Nat}{M:Option Int}{Ui:Int}(hU:Ui.toNat=U)(Rg:gQ Ui n M=true)(h1:L≤U)(h2:U≤n)(hnc:n≤c):
  L≤(pH M c)∧U≤(pH M c)∧(cn Ui M=true→(pH M c)=U):=by
 cases M with
 | none=>simp[cn];omega
 | some m =>
  simp only[gQ,Hx,decide_eq_true_eq] at Rg
  refine⟨by simp only[dM];omega,by simp only[dM];omega,fun hc=>?_⟩
  have:=vR hc
  simp only[Ho] at this
  simp only[this,dM,hU]
theorem mw(R:Rep Γ O w l h){t e:TypeId}{x d:D}{y:Value}{sz n:Nat}{L U:Int}{lo hi mx:Option D}{vl vh vm:Option Value}{M:Option Int}(rx:Rel w (avs O l h) l h x y)
  (ht:P.underlying t=some (.slice e)) (hs:szOf P e=some sz) (hn:lenD h x=some n)
  (rl:kb w (avs O l h) l h lo vl) (rh:kb w (avs O l h) l h hi vh) (rm:kb w (avs O l h) l h mx vm)
  (hl:cK lo 0=some L) (hu:cK hi n=some U) (hm:A1 mx=some M) (ok:mq L U n=true) (Rg:gQ U n M=true) (ok3:(M.isNone||hi.isSome)=true)
  (hd:sliceRow h x sz n L U M=some (true,d)):∃v,(JR t y vl vh vm).run P w=.ok v w∧Rel w (avs O l h) l h d v:=by
 obtain⟨o1,o2,o3,o4,o5⟩:=kD ok
 have run:∀(base:Option Addr) (c:Nat),n≤c→(JR t (.slice base n c) vl vh vm).run P w=.ok (.slice (if (pH M c)=L.toNat then base else base.map (·.add (L.toNat*sz))) (U.toNat - L.toNat) ((pH M c) - L.toNat)) w :=
  fun base c hnc=>xv ht hs rl rh rm hl hu hm ok Rg ok3 hnc
 have cap:∀c,n≤c→_:=fun c hnc=>capOf (c:=c) (L:=L.toNat) (n:=n) (M:=M) (Ui:=U) rfl Rg o4 o5 hnc
 cases x with
 | p dp =>
  cases dp with
  | v x =>
   obtain rfl:=ax rx
   cases y<;>simp[sliceRow] at hd
   case slice a m c =>
    cases a<;>cases m<;>cases c<;>simp at hd
    subst hd
    simp only[lenD,Ho] at hn
    subst hn
    obtain⟨c1,c2,c3⟩:=cap 0 (HS _)
    refine⟨_,run none 0 (HS _),?_⟩
    have hU:U.toNat=0:=by omega
    have hL:L.toNat=0:=by omega
    have Qq:(pH M 0)=0:=by
     cases M with
     | none=>rfl
     | some m=>simp only[gQ,Hx,decide_eq_true_eq] at Rg;simp only[dM];omega
    rw[Qq,hU,hL]
    exact rel_lit _ _ _ _ _
  | sl es =>
   simp only[sliceRow,Ho,Hu] at hd
   obtain⟨N6,rfl⟩:=hd
   simp only[lenD,Ho] at hn
   subst hn
   simp only[Rel,RelP] at rx
   rcases rx with ⟨rfl,a0,c0,rfl,ha0⟩|⟨bV,off,c,sz0,rfl,hc,rr⟩
   ·obtain⟨c1,c2,c3⟩:=cap c0 (Nat.zero_le _)
    refine⟨_,run a0 c0 (Nat.zero_le _),?_⟩
    have hU:U.toNat=0:=by simp at o5;omega
    have hL:L.toNat=0:=by omega
    simp only[hU,hL,Nat.sub_self,Km,List.drop_nil,List.take_nil] at c3 ⊢
    exact oe _ (fun Ol=>c3 Ol) (DL (by simpa using Rg) ha0)
   ·obtain⟨c1,c2,c3⟩:=cap c hc
    refine⟨_,run _ c hc,?_⟩
    obtain⟨p1,p2⟩:=uf (l:=l) (h:=h) (O:=O) rr N6 o4 o5 _ c2
    unfold dL
    split
    ·rename_i Ol;exact p2 (c3 Ol)
    ·exact p1
 | csl es =>
  simp only[sliceRow,Ho,Hu] at hd
  obtain⟨N6,rfl⟩:=hd
  simp only[lenD,Ho] at hn
  subst hn
  simp only[Rel] at rx
  rcases rx with ⟨rfl,a0,rfl⟩|⟨bV,off,sz0,rfl,rr⟩
  ·obtain⟨c1,c2,c3⟩:=cap 0 (HS _)
   refine⟨_,run a0 0 (HS _),?_⟩
   have hU:U.toNat=0:=by simp at o5;omega
   have hL:L.toNat=0:=by omega
   have Qq:(pH M 0)=0:=by
    cases M with
    | none=>rfl
    | some m=>simp only[gQ,Hx,decide_eq_true_eq,Jj] at Rg;simp only[dM];omega
   rw[Qq,hU,hL]
   simp only[List.drop_nil,List.take_nil,if_true]
   exact oe _ (fun _=>rfl) (fun _=>rfl)
  ·obtain⟨c1,c2,c3⟩:=cap es.length (HS _)
   refine⟨_,run _ es.length (HS _),?_⟩
   obtain⟨p1,p2⟩:=uf (l:=l) (h:=h) (O:=O) rr N6 o4 o5 _ c2
   unfold dL
   split
   ·rename_i Ol
    simp only[Ju,Hx,L0,decide_eq_true_eq] at Ol
    rcases Ol with Ol|⟨rfl,Ol⟩
    ·exact p2 (c3 Ol)
    ·exact p2 (by simp only[pV];omega)
   ·exact p1
 | ref r =>
  have rx':=rx
  obtain⟨g1,hr⟩:=rx
  cases r with
  | vec b e' =>
   simp only[sliceRow,lenD] at hd hr hn
   cases hb:h[b]? with
   | none=>simp[hb] at hd
   | some bx =>
    cases bx<;>simp only[hb,reduceCtorEq] at hd hr hn
    rename_i es e2 Pq
    split at hd
    case isFalse=>simp at hd
    rename_i he
    obtain⟨rfl,rfl⟩:=he
    simp only[if_true,Ho] at hn
    subst hn
    simp only[Ho,Hu,true_and] at hd
    subst hd
    have hv:=hr.2 rfl
    cases N4:l b with
    | none =>
     have Oa:=R.bV b _ hb
     simp only[N4,ml,BlkOk] at hv Oa
     obtain⟨_,rfl⟩:=hv
     subst Oa
     obtain⟨c1,c2,c3⟩:=cap 0 (HS _)
     refine⟨_,run none 0 (HS _),?_⟩
     have hU:U.toNat=0:=by simp at o5;omega
     have hL:L.toNat=0:=by omega
     have Qq:(pH M 0)=0:=by
      cases M with
      | none=>rfl
      | some m=>simp only[gQ,Hx,decide_eq_true_eq,Jj] at Rg;simp only[dM];omega
     rw[Qq,hU,hL]
     split
     ·exact rx'
     ·rw[if_pos (by omega)]
      exact db _ (fun _=>rfl) (fun _=>rfl) (fun a ha=>by simp at ha)
    | some pr =>
     obtain⟨bV,c⟩:=pr
     simp only[N4,ml] at hv
     obtain⟨rfl,hc⟩:=hv
     obtain⟨c1,c2,c3⟩:=cap c hc
     refine⟨_,run _ c hc,?_⟩
     split
     ·rename_i h3
      obtain⟨rfl,h4,rfl⟩:=h3
      have e1:U.toNat - (0:Int).toNat=es.length:=by omega
      rw[e1]
      simp only[Int.toNat_zero,Nat.zero_mul,b9,H9,Km,Nat.add_zero,ite_self]
      exact rx'
     ·split
      ·rename_i h4
       have e1:U.toNat - L.toNat=0:=by omega
       rw[e1]
       refine db _ (fun Ol=>by rw[c3 Ol];omega) (fun hx=>?_) (fun a ha=>?_)
       ·split at hx<;>simp at hx
       ·split at ha<;>simp at ha<;>subst ha<;>rfl
      ·rename_i h4
       have hmL:¬(pH M c)=L.toNat:=by omega
       simp only[hmL,if_false,H9,b9,Nat.zero_add]
       simp only[Rel,RefRel,hb]
       exact⟨rfl,HS _,fun _=>⟨by omega,bV,c,_,N4,rfl,by omega,fun Ol=>by rw[c3 Ol]⟩⟩
  | vs b e' i m cl =>
   simp only[sliceRow,lenD] at hd hr hn
   cases hb:h[b]? with
   | none=>simp[hb] at hd
   | some bx =>
    cases bx<;>simp only[hb,reduceCtorEq] at hd hr hn
    rename_i es e2 Pq
    split at hd
    case isFalse=>simp at hd
    rename_i he
    obtain⟨rfl,rfl⟩:=he
    simp only[if_true,Ho] at hn
    subst hn
    simp only[Ho,Hu,true_and] at hd
    subst hd
    obtain⟨P1,bV,cp,c,N4,rfl,hc,hclip⟩:=hr.2 rfl
    obtain⟨c1,c2,c3⟩:=cap c hc
    refine⟨_,run _ c hc,?_⟩
    split
    ·rename_i h4
     have e1:U.toNat - L.toNat=0:=by omega
     rw[e1]
     refine db _ (fun Ol=>by rw[c3 Ol];omega) (fun hx=>?_) (fun a ha=>?_)
     ·split at hx<;>simp at hx
     ·split at ha<;>simp at ha<;>subst ha<;>rfl
    ·rename_i h4
     have hmL:¬(pH M c)=L.toNat:=by omega
     simp only[hmL,if_false,H9,b9]
     simp only[Rel,RefRel,hb]
     refine⟨rfl,HS _,fun _=>⟨by omega,bV,cp,_,N4,by rw[J0],by omega,fun Ol=>?_⟩⟩
     simp only[Ju,Hx,L0,decide_eq_true_eq] at Ol
     rcases Ol with Ol|⟨⟨oN,rfl⟩,N7⟩
     ·rw[c3 Ol]
     ·have:=hclip oN;simp only[pV];omega
  | av b off m Pq =>
   simp only[sliceRow,lenD] at hd hr hn
   cases hb:h[b]? with
   | none=>simp[hb] at hd
   | some bx =>
    cases bx<;>simp only[hb,reduceCtorEq,Ho] at hd hr hn
    subst hn
    split at hd
    case isFalse=>simp at hd
    rename_i he
    subst he
    simp only[Ho,Hu,true_and] at hd
    subst hd
    obtain⟨bV,cp,c,N4,rfl,hc⟩:=hr
    obtain⟨c1,c2,c3⟩:=cap c hc
    refine⟨_,run _ c hc,?_⟩
    split
    ·rename_i h4
     have e1:U.toNat - L.toNat=0:=by omega
     rw[e1]
     refine db _ (fun Ol=>by rw[c3 Ol];omega) (fun hx=>?_) (fun a ha=>?_)
     ·split at hx<;>simp at hx
     ·split at ha<;>simp at ha<;>subst ha<;>rfl
    ·rename_i h4
     have hmL:¬(pH M c)=L.toNat:=by omega
     simp only[hmL,if_false,H9,b9]
     simp only[Rel,RefRel,hb]
     exact⟨rfl,bV,cp,_,N4,rfl,by omega⟩
  | _=>simp[sliceRow] at hd
 | _=>simp[sliceRow] at hd
theorem go{len:Nat}{e:TypeId}{x d:D}{y:Value}{L:Int}{lo hi mx:Option D}{vl vh vm:Option Value}{M:Option Int}(rx:Rel w (avs O l h) l h x y)
  (rl:kb w (avs O l h) l h lo vl) (rh:kb w (avs O l h) l h hi vh) (rm:kb w (avs O l h) l h mx vm) (hl:cK lo 0=some L) (hm:A1 mx=some M)
  (hd:fS P h len e x L hi M=some (true,d)):∃a:Addr,y=.pointer (some a)∧∃sz lN hN,szOf P e=some sz∧(Jr false len len vl vh vm).run P w=.ok (lN,hN,len) w ∧
   Rel w (avs O l h) l h d (.slice (some (if len=lN then a else a.add (lN*sz))) (hN - lN) (len - lN)):=by
 unfold fS at hd
 split at hd
 case h_2=>simp at hd
 rename_i b off
 obtain⟨g1,hr⟩:=rx
 cases hs:szOf P e with
 | none=>simp[hs] at hd
 | some sz =>
  cases hu:cK hi len with
  | none=>simp[hs,hu] at hd
  | some U =>
   cases hb:h[b]? with
   | none=>simp[hs,hu,hb] at hd
   | some bx =>
    cases bx<;>simp only[hs,hu,hb,reduceCtorEq] at hd hr
    cases M with
    | some m=>simp at hd
    | none =>
     simp only[Ho,Hu] at hd
     obtain⟨ok,rfl⟩:=hd
     obtain⟨bV,cp,N4,rfl⟩:=hr
     obtain⟨o1,o2,o3,o4,o5⟩:=kD ok
     refine⟨_,rfl,sz,L.toNat,U.toNat,rfl,dN (P:=P) (b:=false) (M:=none) rl rh rm hl hu hm ok (by simp[gQ]) (by simp) (HS _),?_⟩
     split
     ·rename_i h4
      have e1:U.toNat - L.toNat=0:=by omega
      rw[e1]
      exact db (l:=l) (h:=h) false (fun Ol=>by simp at Ol) (fun hx=>by simp at hx) (fun a ha=>by split at ha<;>simp at ha<;>subst ha<;>rfl)
     ·rename_i h4
      have hmL:¬len=L.toNat:=by omega
      simp only[hmL,if_false,b9]
      simp only[Rel,RefRel,hb]
      exact⟨rfl,bV,cp,_,N4,rfl,by omega⟩
theorem pW(R:Rep Γ O w l h){t:TypeId}{x d:D}{y:Value}{lo hi mx:Option D}{vl vh vm:Option Value}(rx:Rel w (avs O l h) l h x y)
  (rl:kb w (avs O l h) l h lo vl) (rh:kb w (avs O l h) l h hi vh) (rm:kb w (avs O l h) l h mx vm) (hd:pR P h t x lo hi mx=some (true,d)) :
  ∃v,(JR t y vl vh vm).run P w=.ok v w∧Rel w (avs O l h) l h d v:=by
 unfold pR at hd
 cases hL:cK lo 0 with
 | none=>simp[hL] at hd
 | some L =>
  cases hM:A1 mx with
  | none=>simp[hL,hM] at hd
  | some M =>
   simp only[hL,hM] at hd
   cases hu:P.underlying t with
   | none=>simp[hu] at hd
   | some u =>
    cases u<;>simp only[hu,reduceCtorEq] at hd
    case string =>
     unfold uc at hd
     split at hd
     ·rename_i s
      obtain rfl:=ax rx
      cases hU:cK hi s.size with
      | none=>simp[hU] at hd
      | some U =>
       cases M with
       | some m=>simp[hU] at hd
       | none =>
        simp only[hU,Ho,Hu] at hd
        obtain⟨ok,rfl⟩:=hd
        cases mx with
        | some m0=>simp only[A1,Hy] at hM;obtain⟨_,_,h2⟩:=hM;simp at h2
        | none =>
         cases vm with
         | some x=>simp[kb] at rm
         | none =>
          refine⟨_,?_,rel_lit _ _ _ _ _⟩
          have:=dN (P:=P) (b:=false) (mx:=none) rl rh rm hL hU rfl ok (by simp[gQ]) (by simp) (HS _)
          simp[JR,und_run hu,MJ,this]
     ·simp at hd
    case slice e =>
     cases hs:szOf P e with
     | none=>simp[hs] at hd
     | some sz =>
      cases hn:lenD h x with
      | none=>simp[hs,hn] at hd
      | some n =>
       simp only[hs,hn] at hd
       cases hU:cK hi n with
       | none=>simp[hU] at hd
       | some U =>
        simp only[hU,Hy,Hu,Hx] at hd
        obtain⟨⟨r1,r2⟩,h1,⟨⟨⟨ok,Rg⟩,ok3⟩,h3⟩,h4⟩:=hd
        simp only at h3 h4
        subst h3;subst h4
        exact mw R rx hu hs hn rl rh rm hL hU hM ok Rg ok3 h1
    case array len e =>
     obtain⟨a,rfl,sz,lN,hN,hs,hb,hr⟩:=go (P:=P) rx rl rh rm hL hM hd
     refine⟨_,?_,hr⟩
     simp[JR,und_run hu,Instr.sureAddr,hb,aX hs]
    case pointer arr =>
     cases hu2:P.underlying arr with
     | none=>simp[hu2] at hd
     | some u2 =>
      cases u2<;>simp only[hu2,reduceCtorEq] at hd
      case array len e =>
       obtain⟨a,rfl,sz,lN,hN,hs,hb,hr⟩:=go (P:=P) rx rl rh rm hL hM hd
       refine⟨_,?_,hr⟩
       simp[JR,und_run hu,und_run hu2,MJ,asAddr,hb,aX hs]
end
section
variable {P:Program} {Γ:aw} {O:Nat→Prop} {w:World} {l:Loc} {h:List Blk}
theorem xw(a b:ByteArray):(a==b)=eqS a b:=by
 have:(a==b)=(a.data==b.data):=rfl
 rw[this,JJ]
 simp only[eqS,beq_iff_eq,Array.toList_inj]
theorem checkKey_run{kt:TypeId}{k:D}{v:Value}(hk:cd P kt k=true)(rk:Rel w (avs O l h) l h k v)(b:Bool)(w':World):(Instr.checkKey b 10000 kt v).run P w'=.ok () w':=by
 rw[show(10000:Nat)=9999+1 from rfl,Instr.checkKey]
 unfold cd at hk
 split at hk<;>first|(rename_i h1;obtain rfl:=ax rk;simp[und_run h1])|simp at hk
theorem iK{kt:TypeId}{k:D}{v:Value}{u:TypeDesc}(hu:P.underlying kt=some u)(hk:cd P kt k=true)(rk:Rel w (avs O l h) l h k v):
  ∀{kvs:List (D×D×Nat)} {es:List MapEntry} (i:Nat) {r:Option (Nat×D)},RelKV w (avs O l h) l h kvs es→da k kvs i=some r →
   ∃r',Mf u v es i=some r'∧(match r,r' with
    | none,none=>True
    | some (j,d),some (j',y)=>j'=j∧Rel w (avs O l h) l h d y
    | _,_=>False)
 | [],[],i,r,_,hf=>by simp only[da,Ho] at hf;subst hf;exact⟨none,rfl,trivial⟩
 | (k',d,n)::kvs,e::es,i,r,rel,hf=>by
  simp only[RelKV] at rel
  simp only[da] at hf
  have hsame:∀b,gw k k'=some b→Lu u v e.key=some b:=by
   intro b hb
   unfold cd at hk
   rw[hu] at hk
   unfold gw at hb
   split at hb
   ·rename_i k1 a k2 c
    obtain rfl:=ax rk
    have h2:=ax rel.1
    cases u<;>simp at hk
    rw[h2];simpa[Lu] using hb
   ·rename_i a c
    obtain rfl:=ax rk
    have h2:=ax rel.1
    cases u<;>simp at hk
    rw[h2];simp only[Lu,xw];exact hb
   ·rename_i a c
    obtain rfl:=ax rk
    have h2:=ax rel.1
    cases u<;>simp at hk
    rw[h2];simpa[Lu] using hb
   ·simp at hb
  cases hq:gw k k' with
  | none=>simp[hq] at hf
  | some b =>
   have hs:=hsame b hq
   cases b with
   | true =>
    simp only[hq,Ho] at hf
    subst hf
    exact⟨some (i,e.val),by simp[Mf,hs],rfl,rel.2.1⟩
   | false =>
    simp only[hq] at hf
    obtain⟨r',h1,h2⟩:=iK hu hk rk (i+1) rel.2.2.2 hf
    exact⟨r',by simp[Mf,hs,h1],h2⟩
 | [],_::_,_,_,rel,_=>by simp[RelKV] at rel
 | _::_,[],_,_,rel,_=>by simp[RelKV] at rel
theorem kE{kt:TypeId}{k:D}(hk:cd P kt k=true):∃u,P.underlying kt=some u:=by
 unfold cd at hk
 cases hu:P.underlying kt with
 | none=>simp[hu] at hk
 | some u=>exact⟨u,rfl⟩
theorem bh{r:Nat}{o:Obj}(ho:w.heap[r]? = some o)(hc:∀c T fr,o ≠ .cells c T fr):(getObj r).run P w=.ok o w:=by
 unfold getObj
 cases o<;>simp[Sem.run,ho]
 exact absurd rfl (hc _ _ _)
theorem og(R:Rep Γ O w l h){t:TypeId}{x k d:D}{y v:Value}{ok:Bool}(rx:Rel w (avs O l h) l h x y)(rk:Rel w (avs O l h) l h k v)(hd:ap P h t x k ok=some d):
  ∃z,(K1 t y v ok).run P w=.ok z w∧Rel w (avs O l h) l h d z:=by
 unfold ap at hd
 cases hu:P.underlying t with
 | none=>simp[hu] at hd
 | some u =>
  cases hm:kz h x with
  | none=>cases u<;>simp[hu,hm] at hd
  | some kvs =>
   cases u<;>simp only[hu,hm,reduceCtorEq] at hd
   rename_i kt et
   split at hd
   case isFalse=>simp at hd
   rename_i hk
   obtain⟨uk,huk⟩:=kE hk
   have fin:∀(es:List MapEntry),RelKV w (avs O l h) l h kvs es→∃z r',(KL kt v es).run P w=.ok r' w∧(match r' with|some (_,v)=>pure (v,true)|none=>do pure (←zeroValue et,false):Sem (Value×Bool)).run P w=.ok z w ∧
     Rel w (avs O l h) l h d (if ok then .tuple #[z.1,.bool z.2] else z.1):=by
    intro es Rc
    cases hf:da k kvs 0 with
    | none=>simp[hf] at hd
    | some r =>
     obtain⟨r',hn,Sf⟩:=iK huk hk rk 0 Rc hf
     have Sy:(KL kt v es).run P w=.ok r' w:=by
      simp only[KL,HM,und_run huk,HE,hn,H3]
     cases hz:gO P et with
     | none=>rcases r with _|⟨i,d0⟩<;>simp[hf,hz] at hd
     | some z =>
      rcases r with _|⟨i,d0⟩
      ·simp only[hf,hz,Ho] at hd
       rcases r' with _|⟨j,y0⟩
       ·refine⟨(z,false),_,Sy,by simp[zeroV_run hz],?_⟩
        subst hd
        cases ok
        ·exact iG _ _ _ _ z
        ·simp only[if_true,Rel]
         exact⟨_,rfl,iG _ _ _ _ z,rel_lit _ _ _ _ _,trivial⟩
       ·simp at Sf
      ·simp only[hf,hz,Ho] at hd
       rcases r' with _|⟨j,y0⟩
       ·simp at Sf
       ·simp only at Sf
        refine⟨(y0,true),_,Sy,by simp,?_⟩
        subst hd
        cases ok
        ·exact Sf.2
        ·simp only[if_true,Rel]
         exact⟨_,rfl,Sf.2,rel_lit _ _ _ _ _,trivial⟩
   unfold kz at hm
   split at hm
   ·cases hm
    obtain rfl:=ax rx
    obtain⟨z,r',h1,h2,h3⟩:=fin [] (by simp[RelKV])
    refine⟨_,?_,h3⟩
    cases hzr:(zeroValue et).run P w with
    | halt a b=>rcases r' with _|⟨j,y0⟩<;>simp[hzr] at h2<;>subst h2<;>simp only[K1,HM,und_run hu,HE,H3,checkKey_run hk rk,h1]
    | ok a b=>rcases r' with _|⟨j,y0⟩<;>simp[hzr] at h2<;>(try obtain⟨rfl,rfl⟩:=h2)<;>(try subst h2)<;>simp only[K1,HM,und_run hu,HE,H3,checkKey_run hk rk,h1,hzr]
   ·rename_i b
    cases hb:h[b]? with
    | none=>simp[hb] at hm
    | some bx =>
     obtain⟨_,hr⟩:=rx
     cases bx<;>simp only[hb,reduceCtorEq,Ho] at hm hr
     subst hm
     obtain⟨bV,cp,N4,rfl⟩:=hr
     obtain⟨Oh,Pm,es,h1,h2,h3⟩:=R.bV b _ hb
     obtain⟨rfl,rfl⟩:bV=Oh∧cp=Pm:=by simpa[N4] using h1
     obtain⟨z,r',g1,g2,g3⟩:=fin es.toList h3
     refine⟨_,?_,g3⟩
     have Qb:=bh (P:=P) (o:=.map es _) h2 (by simp)
     cases hzr:(zeroValue et).run P w with
     | halt a b=>rcases r' with _|⟨j,y0⟩<;>simp[hzr] at g2<;>subst g2<;>simp only[K1,HM,und_run hu,HE,Qb,H3,checkKey_run hk rk,g1]
     | ok a b=>rcases r' with _|⟨j,y0⟩<;>simp[hzr] at g2<;>(try obtain⟨rfl,rfl⟩:=g2)<;>(try subst g2)<;>simp only[K1,HM,und_run hu,HE,Qb,H3,checkKey_run hk rk,g1,hzr]
   ·simp at hm
theorem bN{r:Nat}{o o':Obj}(ho:w.heap[r]? = some o)(hc:∀c T fr,o ≠ .cells c T fr):(setObj r o').run P w=.ok () {w with heap:=w.heap.setIfInBounds r o' }:=by
 unfold setObj
 cases o<;>simp[Sem.run,ho]
 exact absurd rfl (hc _ _ _)
theorem co{r:Nat}{o o':Obj}(ho:w.heap[r]? = some o):({w with heap:=w.heap.setIfInBounds r o' }:World).heap[r]? = some o':=by
 have:=(Jh.1 ho).1
 simp[this]
theorem sr{r k:Nat}{o':Obj}(hk:k ≠ r):({w with heap:=w.heap.setIfInBounds r o' }:World).heap[k]? = w.heap[k]?:=by
 simp[Array.getElem?_setIfInBounds_ne (Ne.symm hk)]
theorem gT(R:Rep Γ O w l h){b:Nat}{x x':Blk}(hb:h[b]? = some x)(hx:x ≠ .gone){bV cp:Nat}(N4:l b=some (bV,cp)){o o':Obj}(_ho:w.heap[bV]? = some o)
  (hle:x.le x') (Oa:Ext w l h {w with heap:=w.heap.setIfInBounds bV o' } l (h.set b x')→BlkOk {w with heap:=w.heap.setIfInBounds bV o' } (avs O l (h.set b x')) l (h.set b x') b x') :
  Rep Γ O {w with heap:=w.heap.setIfInBounds bV o' } l (h.set b x')∧Ext w l h {w with heap:=w.heap.setIfInBounds bV o' } l (h.set b x') :=
 R.step b x' (by simp) ⟨rfl,rfl,rfl,(by first|exact HS _|exact JN _)⟩ (fun i hi=>bB _ _ hi) (bc hb) (fun _ _=>rfl) (fun z hz=>by rw[hb] at hz;cases hz;exact⟨hle,fun _=>rfl⟩)
  (fun k hk O3=>sr (fun e=>O3 x cp hb hx (by rw[N4,e])))
  (fun k c hk=>.inl ⟨x,c,hb,hx,hk⟩) Oa
theorem xx{kvs:List (D×D×Nat)}{es:List MapEntry}:∀(i:Nat) {k d:D} {n:Nat} {e:MapEntry},RelKV w (avs O l h) l h kvs es→Rel w (avs O l h) l h k e.key→Rel w (avs O l h) l h d e.val→e.born=n →
  RelKV w (avs O l h) l h (kvs.set i (k,d,n)) (es.set i e):=by
 induction kvs generalizing es with
 | nil=>intro i k d n e r _ _ _;cases es<;>simp_all[RelKV]
 | cons a t ih =>
  intro i k d n e r h1 h2 h3
  obtain⟨k0,d0,n0⟩:=a
  cases es with
  | nil=>simp[RelKV] at r
  | cons e0 es0 =>
   simp only[RelKV] at r
   cases i with
   | zero=>simp only[List.set_cons_zero,RelKV];exact⟨h1,h2,h3,r.2.2.2⟩
   | succ i=>simp only[List.set_cons_succ,RelKV];exact⟨r.1,r.2.1,r.2.2.1,ih i r.2.2.2 h1 h2 h3⟩
theorem vS{kvs:List (D×D×Nat)}{es:List MapEntry}{k d:D}{n:Nat}{e:MapEntry}(r:RelKV w (avs O l h) l h kvs es)(h1:Rel w (avs O l h) l h k e.key)(h2:Rel w (avs O l h) l h d e.val)(h3:e.born=n):
  RelKV w (avs O l h) l h (kvs++[(k,d,n)]) (es++[e]):=by
 induction kvs generalizing es with
 | nil=>cases es<;>simp_all[RelKV]
 | cons a t ih =>
  obtain⟨k0,d0,n0⟩:=a
  cases es with
  | nil=>simp[RelKV] at r
  | cons e0 es0=>simp only[RelKV,List.cons_append] at r ⊢;exact⟨r.1,r.2.1,r.2.2.1,ih r.2.2.2⟩
theorem xy{kvs:List (D×D×Nat)}{es:List MapEntry}(i:Nat)(r:RelKV w (avs O l h) l h kvs es){k d:D}{n:Nat}(hk:kvs[i]? = some (k,d,n)):
  ∃e,es[i]? = some e∧Rel w (avs O l h) l h k e.key∧Rel w (avs O l h) l h d e.val∧e.born=n:=by
 induction kvs generalizing es i with
 | nil=>simp at hk
 | cons a t ih =>
  obtain⟨k0,d0,n0⟩:=a
  cases es with
  | nil=>simp[RelKV] at r
  | cons e0 es0 =>
   simp only[RelKV] at r
   cases i with
   | zero=>simp at hk;obtain⟨rfl,rfl,rfl⟩:=hk;exact⟨e0,by simp,r.1,r.2.1,r.2.2.1⟩
   | succ i=>simpa using ih i r.2.2.2 (by simpa using hk)
theorem mM{k:D}:∀{kvs:List (D×D×Nat)} (i:Nat) {j:Nat} {d:D},da k kvs i=some (some (j,d))→∃k' n,i≤j∧kvs[j - i]? = some (k',d,n)∧gw k k'=some true
 | [],_,_,_,hf=>by simp[da] at hf
 | (k',d',n')::kvs,i,j,d,hf=>by
  simp only[da] at hf
  cases hq:gw k k' with
  | none=>simp[hq] at hf
  | some b =>
   cases b with
   | true=>simp[hq] at hf;obtain⟨rfl,rfl⟩:=hf;exact⟨k',n',HS _,by simp,hq⟩
   | false =>
    simp only[hq] at hf
    obtain⟨k2,n2,h1,h2,h3⟩:=mM (i+1) hf
    refine⟨k2,n2,by omega,?_,h3⟩
    rw[show j - i=(j - (i+1))+1 by omega];simpa using h2
theorem su{k k':D}{v v':Value}(rk:Rel w (avs O l h) l h k v)(rk':Rel w (avs O l h) l h k' v')(hq:gw k k'=some true)(n:Nat):Le (n+1) v' v=true:=by
 unfold gw at hq
 split at hq
 ·obtain rfl:=ax rk
  obtain rfl:=ax rk'
  split at hq
  ·rename_i hk;subst hk
   simp only[Ho,beq_iff_eq] at hq
   subst hq;simp[Le]
  ·simp at hq
 ·obtain rfl:=ax rk
  obtain rfl:=ax rk'
  simp only[Ho] at hq
  rw[←xw] at hq
  simp only[Le]
  rename_i a b
  have:(a.data==b.data)=true:=hq
  have h2:a.data=b.data:=by simpa using this
  show(b.data==a.data)=true
  simp[h2]
 ·obtain rfl:=ax rk
  obtain rfl:=ax rk'
  simp only[Ho,beq_iff_eq] at hq
  subst hq;simp[Le]
 ·simp at hq
theorem fe(R:Rep Γ O w l h){t:TypeId}{x k d:D}{y v z:Value}{h':List Blk}(rx:Rel w (avs O l h) l h x y)(rk:Rel w (avs O l h) l h k v)(rd:Rel w (avs O l h) l h d z)
  (hd:am P h t x k d=some h'):∃w',(LW t y v z).run P w=.ok () w'∧Rep Γ O w' l h'∧Ext w l h w' l h':=by
 unfold am at hd
 cases hu:P.underlying t with
 | none=>simp[hu] at hd
 | some u =>
  cases u<;>simp only[hu,reduceCtorEq] at hd
  rename_i kt et
  cases x with
  | ref r =>
   cases r<;>simp only[reduceCtorEq] at hd
   rename_i b
   cases hb:h[b]? with
   | none=>simp[hb] at hd
   | some bx =>
    obtain⟨_,hr⟩:=rx
    cases bx<;>simp only[hb,reduceCtorEq] at hd hr
    rename_i kvs clock
    split at hd
    case isFalse=>simp at hd
    rename_i hk
    obtain⟨uk,huk⟩:=kE hk
    obtain⟨bV,cp,N4,rfl⟩:=hr
    obtain⟨Oh,Pm,es,h1,h2,h3⟩:=R.bV b _ hb
    obtain⟨rfl,rfl⟩:bV=Oh∧cp=Pm:=by simpa[N4] using h1
    have Qb:=bh (P:=P) (o:=.map es clock) h2 (by simp)
    cases hf:da k kvs 0 with
    | none=>simp[hf] at hd
    | some r =>
     obtain⟨r',hn,Sf⟩:=iK huk hk rk 0 h3 hf
     have Sy:(KL kt v es.toList).run P w=.ok r' w:=by
      simp only[KL,HM,und_run huk,HE,hn,H3]
     rcases r with _|⟨i,d0⟩
     ·simp only[hf,Ho] at hd
      rcases r' with _|⟨j,y0⟩
      ·subst hd
       have:=gT R (x':=.map (kvs++[(k,d,clock)]) (clock+1)) hb (by simp) N4 (o':=.map (es.push {key:=v,val:=z,born:=clock}) (clock+1)) h2 trivial
        (fun E=>⟨bV,cp,_,N4,co h2,by rw[Array.toList_push];exact vS (E.relKV h3) (E.rel rk) (E.rel rd) rfl⟩)
       refine⟨_,?_,this.1,this.2⟩
       simp only[LW,HM,und_run hu,HE,Qb,checkKey_run hk rk,Sy,bN h2 (by simp)]
      ·simp at Sf
     ·simp only[hf] at hd
      rcases r' with _|⟨j,y0⟩
      ·simp at Sf
      ·simp only at Sf
       obtain⟨rfl,ry⟩:=Sf
       obtain⟨k',n,_,hkv,hq⟩:=mM 0 hf
       simp only[Km] at hkv
       simp only[hkv,Ho] at hd
       subst hd
       obtain⟨e0,he0,r1,r2,r3⟩:=xy j h3 hkv
       have hsb:=su rk r1 hq 9999
       have he0':es[j]? = some e0:=by rw[←IH];exact he0
       have hmod:(es.modify j fun e=>{e with key:=v,val:=z}).toList=es.toList.set j {key:=v,val:=z,born:=e0.born}:=by
        apply List.ext_getElem?
        intro i
        rw[IH,Array.getElem?_modify,List.getElem?_set]
        by_cases hji:j=i
        ·subst hji
         have iF:=(Jh.1 he0').1
         have h9:es[j]=e0:=(Jh.1 he0').2
         simp[iF,h9]
        ·simp[hji]
       have:=gT R (x':=.map (kvs.set j (k,d,n)) clock) hb (by simp) N4 (o':=.map (es.modify j fun e=>{e with key:=v,val:=z}) clock) h2 trivial
        (fun E=>⟨bV,cp,_,N4,co h2,by rw[hmod];exact xx j (E.relKV h3) (E.rel rk) (E.rel rd) r3⟩)
       refine⟨_,?_,this.1,this.2⟩
       simp only[LW,HM,und_run hu,HE,Qb,checkKey_run hk rk,Sy,Instr.keyThatStays,he0',H9,Option.getD_some,hsb,if_true,H3,bN h2 (by simp)]
  | _=>simp at hd
theorem oi(R:Rep Γ O w l h)(t:TypeId):∃v w' l',(Instr.makeMap t none).run P w=.ok v w'∧Rep Γ O w' l' (h++[.map [] 0])∧Ext w l h w' l' (h++[.map [] 0]) ∧
  Rel w' (avs O l' (h++[.map [] 0])) l' (h++[.map [] 0]) (.ref (.mp h.length)) v:=by
 obtain⟨R',E⟩:=eo R (.map #[] 0) (.map [] 0) 0 (fun _=>⟨w.heap.size,0,#[],by simp,heap_alloc_new w _,by simp[RelKV]⟩)
 refine⟨.map (some w.heap.size),_,_,by simp[Instr.makeMap],R',E,?_⟩
 simp only[Rel,RefRel]
 refine⟨rfl,?_⟩
 simp
end
section
variable {P:Program} {Γ:aw} {O:Nat→Prop} {w:World} {l:Loc} {h:List Blk}
theorem kF(R:Rep Γ O w l h)(o:Obj)(x:Blk)(hx:(∃s p,x=.sit s p)∨(∃m a b c,x=.mit m a b c))
  (Oa:Ext w l h (w.alloc o) (l.upd h.length (some (w.heap.size,0))) (h++[x]) →
   BlkOk (w.alloc o) (avs O (l.upd h.length (some (w.heap.size,0))) (h++[x])) (l.upd h.length (some (w.heap.size,0))) (h++[x]) h.length x) :
  ∃l',Rep Γ O (w.alloc o) l' (h++[x])∧Ext w l h (w.alloc o) l' (h++[x])∧Rel (w.alloc o) (avs O l' (h++[x])) l' (h++[x]) (.ref (.it h.length)) (.pointer (some ⟨w.heap.size,0,none⟩)):=by
 obtain⟨R',E⟩:=eo R o x 0 Oa
 refine⟨_,R',E,?_⟩
 simp only[Rel,RefRel]
 refine⟨rfl,?_⟩
 rcases hx with ⟨s,p,rfl⟩|⟨m,a,b,c,rfl⟩<;>simp
theorem pX(R:Rep Γ O w l h){t:TypeId}{x d:D}{y:Value}{h':List Blk}(rx:Rel w (avs O l h) l h x y)(hd:ue P h t x=some (d,h')):
  ∃v w' l',(LP t y).run P w=.ok v w'∧Rep Γ O w' l' h'∧Ext w l h w' l' h'∧Rel w' (avs O l' h') l' h' d v:=by
 unfold ue at hd
 split at hd
 ·rename_i s hu
  cases hd
  obtain rfl:=ax rx
  obtain⟨l',r1,r2,r3⟩:=kF R (.stringIter s 0) (.sit s 0) (.inl ⟨_,_,rfl⟩) (fun _=>⟨w.heap.size,0,by simp,heap_alloc_new w _⟩)
  exact⟨_,_,l',by simp[LP,und_run hu],r1,r2,r3⟩
 ·rename_i hu
  cases hd
  obtain rfl:=ax rx
  obtain⟨l',r1,r2,r3⟩:=kF R (.mapIter none 0 #[] 0) (.mit none 0 [] 0) (.inr ⟨_,_,_,_,rfl⟩) (fun _=>⟨w.heap.size,0,none,by simp,heap_alloc_new w _,rfl⟩)
  exact⟨_,_,l',by simp[LP,und_run hu],r1,r2,r3⟩
 ·rename_i kt et b hu
  cases hb:h[b]? with
  | none=>simp[hb] at hd
  | some bx =>
   have rx':=rx
   obtain⟨_,hr⟩:=rx
   cases bx<;>simp only[hb,reduceCtorEq,Ho,Hu] at hd hr
   rename_i kvs clock
   obtain⟨rfl,rfl⟩:=hd
   obtain⟨bV,cp,N4,rfl⟩:=hr
   obtain⟨Oh,Pm,es,h1,h2,h3⟩:=R.bV b _ hb
   obtain⟨rfl,rfl⟩:bV=Oh∧cp=Pm:=by simpa[N4] using h1
   have Qb:=bh (P:=P) (o:=.map es clock) h2 (by simp)
   obtain⟨l',r1,r2,r3⟩:=kF R (.mapIter (some bV) clock #[] clock) (.mit (some b) clock [] clock) (.inr ⟨_,_,_,_,rfl⟩)
    (fun E=>⟨w.heap.size,0,some bV,by simp,heap_alloc_new w _,(E.rel rx':Rel _ _ _ _ (.ref (.mp b)) _)⟩)
   exact⟨_,_,l',by simp only[LP,HM,und_run hu,HE,Qb,H3,run_newObj,Ld],r1,r2,r3⟩
 ·simp at hd
theorem fp{f:Nat→Bool}:∀{kvs:List (D×D×Nat)} {es:List MapEntry},RelKV w (avs O l h) l h kvs es→RelKV w (avs O l h) l h (kvs.filter fun e=>f e.2.2) (es.filter fun e=>f e.born)
 | [],[],_=>by simp[RelKV]
 | (k,d,n)::kvs,e::es,r=>by
  simp only[RelKV] at r
  have ih:=fp (f:=f) r.2.2.2
  simp only[List.filter_cons,r.2.2.1]
  split
  ·simp only[RelKV];exact⟨r.1,r.2.1,r.2.2.1,ih⟩
  ·exact ih
 | [],_::_,r=>by simp[RelKV] at r
 | _::_,[],r=>by simp[RelKV] at r
theorem pY{f:Nat→Bool}:∀{kvs:List (D×D×Nat)} {es:List MapEntry},RelKV w (avs O l h) l h kvs es→(es.any fun e=>f e.born)=(kvs.any fun e=>f e.2.2)
 | [],[],_=>by simp
 | (k,d,n)::kvs,e::es,r=>by simp only[RelKV] at r;simp only[List.any_cons,r.2.2.1,pY r.2.2.2]
 | [],_::_,r=>by simp[RelKV] at r
 | _::_,[],r=>by simp[RelKV] at r
theorem pZ(_R:Rep Γ O w l h){b:Nat}{y:Value}{bx:Blk}(rx:Rel w (avs O l h) l h (.ref (.it b)) y)(hb:h[b]? = some bx)(hg:bx ≠ .gone):
  ∃bV cp,l b=some (bV,cp)∧y=.pointer (some ⟨bV,0,none⟩):=by
 obtain⟨_,hr⟩:=rx
 cases bx<;>simp only[hb] at hr<;>first
  | exact absurd rfl hg
  | (obtain⟨bV,cp,h1,h2⟩:=hr;exact⟨bV,cp,h1,h2⟩)
theorem sv(R:Rep Γ O w l h){x d:D}{y:Value}{s:Bool}{t:TypeId}{h':List Blk}(rx:Rel w (avs O l h) l h x y)(hd:A2 h s x=some (d,h')):
  ∃v w',(Kn y s t).run P w=.ok v w'∧Rep Γ O w' l h'∧Ext w l h w' l h'∧Rel w' (avs O l h') l h' d v:=by
 unfold A2 at hd
 split at hd
 case h_2=>simp at hd
 rename_i b
 split at hd
 ·-- a string
  rename_i str pos hb
  obtain⟨bV,cp,N4,rfl⟩:=pZ R rx hb (by simp)
  obtain⟨Oh,Pm,h1,h2⟩:=R.bV b _ hb
  obtain⟨rfl,rfl⟩:bV=Oh∧cp=Pm:=by simpa[N4] using h1
  have Qb:=bh (P:=P) (o:=.stringIter str pos) h2 (by simp)
  split at hd
  ·rename_i iF
   simp only[Ho,Hu] at hd
   obtain⟨rfl,rfl⟩:=hd
   have:=gT R (x':=.sit str (pos+(MR str pos).2)) hb (by simp) N4 (o':=.stringIter str (pos+(MR str pos).2)) h2 trivial
    (fun E=>⟨bV,cp,N4,co h2⟩)
   refine⟨.tuple #[.bool true,goInt pos,.int .i32 (MR str pos).1],_,?_,this.1,this.2,?_⟩
   ·simp only[Kn,HM,Qb,HE,iF,if_true,bN (P:=P) h2 (by simp),H3]
   ·simp only[Rel];exact⟨_,rfl,rel_lit _ _ _ _ _,rel_lit _ _ _ _ _,rel_lit _ _ _ _ _,trivial⟩
  ·rename_i iF
   cases hd
   refine⟨.tuple #[.bool false],w,?_,R,Ko _ _ _,?_⟩
   ·simp only[Kn,HM,Qb,HE,iF,if_false,H3]
   ·simp only[Rel];exact⟨_,rfl,rel_lit _ _ _ _ _,trivial⟩
 ·-- a nil map
  rename_i a1 a2 a3 hb
  cases hd
  obtain⟨bV,cp,N4,rfl⟩:=pZ R rx hb (by simp)
  obtain⟨Oh,Pm,mr,h1,h2,h3⟩:=R.bV b _ hb
  obtain⟨rfl,rfl⟩:bV=Oh∧cp=Pm:=by simpa[N4] using h1
  simp only at h3
  subst h3
  have Qb:=bh (P:=P) h2 (by simp)
  refine⟨.tuple #[.bool false],w,?_,R,Ko _ _ _,?_⟩
  ·simp only[Kn,HM,Qb,HE,H3]
  ·simp only[Rel];exact⟨_,rfl,rel_lit _ _ _ _ _,trivial⟩
 ·-- a map
  rename_i mb since seen st hb
  cases Rf:h[mb]? with
  | none=>simp[Rf] at hd
  | some mx =>
   cases mx<;>simp only[Rf,reduceCtorEq] at hd
   rename_i kvs clock
   obtain⟨bV,cp,N4,rfl⟩:=pZ R rx hb (by simp)
   obtain⟨Oh,Pm,mr,h1,h2,h3⟩:=R.bV b _ hb
   obtain⟨rfl,rfl⟩:bV=Oh∧cp=Pm:=by simpa[N4] using h1
   have h3':=h3
   obtain⟨_,hr⟩:=h3
   simp only[Rf] at hr
   obtain⟨Qf,mcp,Qm,hmr⟩:=hr
   simp only[MS] at hmr
   subst hmr
   obtain⟨Q1,S5,es,g1,g2,g3⟩:=R.bV mb _ Rf
   obtain⟨rfl,rfl⟩:Qf=Q1∧mcp=S5:=by simpa[Qm] using g1
   have Qb:=bh (P:=P) h2 (by simp)
   have hgm:=bh (P:=P) g2 (by simp)
   have O7:RelKV w (avs O l h) l h (kvs.filter fun e=>!seen.contains e.2.2) (es.filter fun e=>!seen.toArray.contains e.born).toList:=by
    rw[Array.toList_filter]
    simpa using fp (f:=fun n=>!seen.contains n) g3
   have hlen:=fo _ _ g3
   have hes:es.isEmpty=kvs.isEmpty:=by
    rw[JJ];simp only[Array.isEmpty_iff_size_eq_zero,List.isEmpty_iff_length_eq_zero,hlen,KB]
   have N6:(es.all fun e=>Zd (e.born≥st)) = !(kvs.any fun e=>Zd (e.2.2<st)):=by
    rw[←pY (f:=fun n=>Zd (n<st)) g3,←Array.all_toList,List.all_eq_not_any_not]
    congr 1
    congr 1
    funext e
    rw[JJ];simp
   split at hd
   ·rename_i hk
    split at hd
    case isFalse=>simp at hd
    rename_i hc
    cases hd
    rw[hk] at O7
    have he:es.filter (fun e=>!seen.toArray.contains e.born)=#[]:=by
     cases hq:(es.filter (fun e=>!seen.toArray.contains e.born)).toList with
     | nil=>simpa using hq
     | cons a t=>rw[hq] at O7;simp[RelKV] at O7
    refine⟨.tuple #[.bool false],w,?_,R,Ko _ _ _,by simp only[Rel];exact⟨_,rfl,rel_lit _ _ _ _ _,trivial⟩⟩
    have Ow:(!seen.toArray.isEmpty&&!es.isEmpty&&es.all (fun e=>Zd (e.born≥st)))=false:=by
     rw[N6,hes,MT]
     cases h1:seen.isEmpty<;>cases h2:kvs.isEmpty<;>simp_all
    simp only[Kn,HM,Qb,hgm,HE,Ow,he]
    simp[Kh]
   ·rename_i k v n hk
    split at hd
    case isFalse=>simp at hd
    rename_i hc
    simp only[Ho,Hu] at hd
    obtain⟨rfl,rfl⟩:=hd
    simp only[Hx,decide_eq_true_eq] at hc
    rw[hk] at O7
    obtain⟨e,he,rk,rv,hn⟩:∃e:MapEntry,es.filter (fun e=>!seen.toArray.contains e.born)=#[e]∧Rel w (avs O l h) l h k e.key∧Rel w (avs O l h) l h v e.val∧e.born=n:=by
     cases hq:(es.filter (fun e=>!seen.toArray.contains e.born)).toList with
     | nil=>rw[hq] at O7;simp[RelKV] at O7
     | cons a t =>
      rw[hq] at O7
      simp only[RelKV] at O7
      cases t with
      | nil=>exact⟨a,by apply Array.ext';simpa using hq,O7.1,O7.2.1,O7.2.2.1⟩
      | cons b t=>simp[RelKV] at O7
    have Ow:(!seen.toArray.isEmpty&&!es.isEmpty&&es.all (fun e=>Zd (e.born≥st)))=false:=by
     rw[N6,MT]
     have oN:=hc.1
     rw[Ju] at oN
     rcases oN with h1|h1
     ·simp[h1]
     ·simp[h1]
    have:=gT R (x':=.mit (some mb) since (seen++[n]) clock) hb (by simp) N4 (o':=.mapIter (some Qf) since (seen.toArray.push e.born) clock) h2 trivial
     (fun E=>⟨bV,cp,some Qf,N4,by rw[co h2];simp[hn],(E.rel (O:=O) (d:=.ref (.mp mb)) h3')⟩)
    refine⟨.tuple #[.bool true,e.key,e.val],_,?_,this.1,this.2,?_⟩
    ·have hs:e.born<since:=by rw[hn];exact hc.2
     have Si:¬since≤e.born:=by omega
     simp only[Kn,HM,Qb,hgm,HE,Ow,he]
     simp[Kh,hs,Si,bN (P:=P) h2]
    ·simp only[Rel];exact⟨_,rfl,rel_lit _ _ _ _ _,this.2.rel rk,this.2.rel rv,trivial⟩
   ·simp at hd
 ·simp at hd
theorem mN{n:Nat}:∀{kvs:List (D×D×Nat)} {es:List MapEntry},RelKV w (avs O l h) l h kvs es→∀{e:D×D×Nat},kvs.find? (fun e=>e.2.2==n)=some e →
  ∃e',es.find? (fun e=>e.born==n)=some e'∧Rel w (avs O l h) l h e.1 e'.key∧Rel w (avs O l h) l h e.2.1 e'.val
 | [],[],_,_,hf=>by simp at hf
 | (k,d,m)::kvs,e0::es,r,e,hf=>by
  simp only[RelKV] at r
  simp only[List.find?_cons,r.2.2.1] at hf ⊢
  split at hf
  ·cases hf;exact⟨e0,rfl,r.1,r.2.1⟩
  ·exact mN r.2.2.2 hf
 | [],_::_,r,_,_=>by simp[RelKV] at r
 | _::_,[],r,_,_=>by simp[RelKV] at r
theorem qb(R:Rep Γ O w l h){x d:D}{y:Value}(rx:Rel w (avs O l h) l h x y)(hd:gn h x=some d):
  ∃v,(Instr.entry y).run P w=.ok v w∧Rel w (avs O l h) l h d v:=by
 unfold gn at hd
 split at hd
 case h_2=>simp at hd
 rename_i b
 split at hd
 case h_2=>simp at hd
 rename_i mb since seen st hb
 cases Rf:h[mb]? with
 | none=>simp[Rf] at hd
 | some mx =>
  cases mx<;>simp only[Rf,reduceCtorEq] at hd
  rename_i kvs clock
  cases hl:seen.getLast? with
  | none=>simp[hl] at hd
  | some n =>
   simp only[hl] at hd
   split at hd
   case isFalse=>simp at hd
   rename_i Ol
   subst Ol
   simp only[Hy] at hd
   obtain⟨e,hf,rfl⟩:=hd
   obtain⟨bV,cp,N4,rfl⟩:=pZ R rx hb (by simp)
   obtain⟨Oh,Pm,mr,h1,h2,h3⟩:=R.bV b _ hb
   obtain⟨rfl,rfl⟩:bV=Oh∧cp=Pm:=by simpa[N4] using h1
   obtain⟨_,hr⟩:=h3
   simp only[Rf] at hr
   obtain⟨Qf,mcp,Qm,hmr⟩:=hr
   simp only[MS] at hmr
   subst hmr
   obtain⟨Q1,S5,es,g1,g2,g3⟩:=R.bV mb _ Rf
   obtain⟨rfl,rfl⟩:Qf=Q1∧mcp=S5:=by simpa[Qm] using g1
   have Qb:=bh (P:=P) h2 (by simp)
   have hgm:=bh (P:=P) g2 (by simp)
   obtain⟨e',hf',r1,r2⟩:=mN g3 hf
   refine⟨.tuple #[e'.key,e'.val],?_,by simp only[Rel];exact⟨_,rfl,r1,r2,trivial⟩⟩
   have hback:seen.toArray.back? = some n:=by rw[List.back?_toArray];exact hl
   have hff:es.find? (fun e=>e.born==n)=some e':=by rw[←Array.find?_toList];exact hf'
   simp only[Instr.entry,HM,Qb,hgm,HE,hback]
   simp[hff]
end
end Go.Vi
