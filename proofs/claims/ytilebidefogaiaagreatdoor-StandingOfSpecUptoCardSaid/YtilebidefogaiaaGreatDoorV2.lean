/- StandingOfSpecUpto: part of the proof: an evaluator of the model's programs on abstract values, and its soundness. No conditions beyond the given statement's own. -/
import Derived.Test.YtilebidefogaiaaGreatDoorV1
import Derived.IntWalk
open Go.Builtin renaming zeroCells → Iu, lenOf → G0, firstCells → GR, append_ → G8, len_ → Ig
open Nat renaming le_refl → FT, le_succ → HK, mul_le_mul_right → IV, add_mul → H9, sub_zero → II
open Go.Question renaming appendCap → KB, forced → JD
open Go.IntKind renaming i64 → Fs
open List renaming getElem?_toArray → I6, getElem?_cons_zero → F2, getElem?_cons_succ → Hd, all_eq_true → FZ, length_append → GQ, mem_append → He, flatten_append → Ii, isEmpty_eq_false_iff → Kf, length_pos_iff → Ll, length_take → Jy, length_drop → Ke, length_cons → GF, mapM_cons → KM, replicate → FX, length_nil → Hf, isEmpty_toArray → KX
open Go.Sem renaming run_bind → FR, run_pure → F5, run_ite → Jm
open Go.Result renaming andThen_ok → FI
open Bool renaming false_eq_true → Gi, not_false → HF, and_eq_true → FB, not_eq_true' → GN, or_eq_true → G4, eq_iff_iff → HB
open Go.World renaming alloc_eq → I8
open Go.Vi.Blk renaming stays → JG
open Option.some renaming injEq → Fq
open Prod.mk renaming injEq → Fw
open Array renaming length_toList → It, range → IB, toList_map → J3, toList_range → Lm, getElem?_eq_some_iff → Hh, getElem?_toList → GL
open Go.ByteArray renaming toList_eq → Km
open Option renaming map_eq_some_iff → FD, map_some → Gb, isNone_iff_eq_none → J4
open Go.Op renaming intArith → J2, intCmp → Jx, unary → Lv
open Int renaming not_lt → I3
open Go.Instr renaming build → KN, buildSlice → JH, makeSlice → JW, sliceBounds → Hp, sliceBound → IH, sliceAt → HQ, slice → KO, findNow → Kg, sameNow → Jt, lookup → IW, findKey → ID, sameBits → I9, mapUpdate → JX, range → JO, next → IX
open Go.Utf8 renaming decode → KV
open Go.Vi.Ext renaming refl → Ih
open Go.Value.map renaming injEq → KW
namespace Go.Vi
open Go
section
variable {P : Program} {Γ : ap} {O : Nat → Prop} {w : World} {l : Loc} {h : List Blk}
theorem l9 (z : Array Value) (n : Nat) : (Iu z n).size = n * z.size:=by simp [Iu]
theorem iU (R : Rep Γ O w l h) (w1 : World) (hw1 : w1.heap = w.heap ∧ w1.tape = w.tape ∧ w1.os = w.os ∧ w1.output = w.output ∧ w.drawn ≤ w1.drawn) (e : TypeId) (cs : Array Value) (rows : List (List D)) (sz cap : Nat) (ys rest : List Value)
  (hcs : cs.toList = ys ++ rest) (hsz : cs.size = cap * sz) (hcap : rows.length ≤ cap) (hr : ∀ r ∈ rows,r.length = sz) (ry : RelL w (avs O l h) l h rows.flatten ys) :
  ∃ l',Rep Γ O (w1.alloc (.cells cs e)) l' (h ++ [.vec rows 0 sz]) ∧ Ext w l h (w1.alloc (.cells cs e)) l' (h ++ [.vec rows 0 sz]) ∧
   Rel (w1.alloc (.cells cs e)) (avs O l' (h ++ [.vec rows 0 sz])) l' (h ++ [.vec rows 0 sz]) (.ref (.vec h.length 0)) (.slice (some ⟨w.heap.size,0,none⟩) rows.length cap):=by
 obtain ⟨R1,E1⟩:=R.of_heap hw1.1 hw1.2
 have hs : w1.heap.size = w.heap.size:=by rw [hw1.1]
 obtain ⟨R2,E2⟩:=ez R1 (.cells cs e) (.vec rows 0 sz) cap (fun E=>by
  simp only [BlkOk,Loc.upd_same]
  exact ⟨cs,e,(0,0),ys,heap_alloc_new w1 _,hsz,hcap,by simp,hr,E.relL (E1.relL ry),rest,hcs⟩)
 refine ⟨_,R2,E1.trans E2,?_⟩
 simp only [Rel,RefRel]
 refine ⟨rfl,?_⟩
 simp [l4,hs,hcap]
theorem uV (R : Rep Γ O w l h) (sz : Nat) : ∃ l',Rep Γ O w l' (h ++ [.vec [] 0 sz]) ∧ Ext w l h w l' (h ++ [.vec [] 0 sz]) ∧
  Rel w (avs O l' (h ++ [.vec [] 0 sz])) l' (h ++ [.vec [] 0 sz]) (.ref (.vec h.length 0)) (.slice none 0 0):=by
 have:=R.step (w':=w) (l':=l.upd h.length none) (h':=h ++ [.vec [] 0 sz]) h.length (.vec [] 0 sz) (FT _) ⟨rfl,rfl,rfl,(by first | exact FT _ | exact HK _)⟩ (fun b hb=>gT h _ hb) (by simp)
  (fun b hb=>Loc.upd_ne _ _ _ hb) (fun y hy=>by simp at hy) (fun _ _ _=>rfl) (fun k c hk=>by simp at hk) (fun _=>by simp [BlkOk])
 refine ⟨_,this.1,this.2,?_⟩
 simp only [Rel,RefRel]
 refine ⟨rfl,?_⟩
 simp [l4]
theorem uW {need cap : Nat} {e : TypeId} (t : Nat) : need ≤ (KB need cap e).cut t:=by simp [Question.cut]
theorem ma {t tx ty e : TypeId} {dx : TypeDesc} {sz by' : Nat} {z : Value} {base : Option Addr} {n cap m : Nat} {x : Value} {olds news : List Value}
  (ht : P.underlying t = some (.slice e)) (hx : P.underlying tx = some dx) (hdx : ∀ k,dx ≠ .int k) (hs : szOf P e = some sz) (hb : bytesOf P e = some by') (hz : jX P e = some z)
  (hlen : (G0 x).run P w = .ok m w) (hnew : (GR sz m x).run P w.drew = .ok news.toArray w.drew)
  (hold : (GR sz n (.slice base n cap)).run P w.drew = .ok olds.toArray w.drew) (hn : cap < n + m) (hby : (n + m) * by' ≤ 140737488355328) (h62 : n + m ≤ 4611686018427387904) :
  ∃ (cap2 : Nat),n + m ≤ cap2 ∧
   (G8 #[t,tx] ty #[.slice base n cap,x]).run P w = .ok (.slice (some ⟨w.heap.size,0,none⟩) (n + m) cap2)
    (w.drew.alloc (.cells (olds.toArray ++ news.toArray ++ Iu z.cells (cap2 - (n + m))) e)):=by
 obtain ⟨i,hi,hib⟩:=kw hb
 have hfit:=growslice_fits hn hby
 have hti : ∀ w : World,(typeInfo e).run P w = .ok i w:=fun w=>by simp [typeInfo,hi]
 refine ⟨(KB (n + m) cap e).cut (w.tape w.drawn (.appendCap (n + m) cap e)),uW _,?_⟩
 have hnot : ¬ ((((n + m : Nat) : Int) > Fs.max) ∧ (False ∨ i.bytes = 0)):=by
  intro hh
  have : Fs.max = 9223372036854775807:=rfl
  rw [this] at hh; omega
 have hcap' : ¬ (Builtin.nextslicecap (n + m) cap * i.bytes > 2 ^ 48):=by rw [hib]; omega
 unfold G8
 simp only [I6,F2,Hd,FR,und_run ht,und_run hx,FI,aR hs,F5]
 cases dx with
 | int k=>exact absurd rfl (hdx k)
 | _ =>
  simp only [Gi,if_false,hlen,FI,Nat.not_le.2 hn,FR,hti,Jm,hnot,hcap',if_false,run_choose,JD,run_askRoom,
   hold,hnew,zeroV_run hz,F5,HF,if_true,newRow,run_newObj,World.drew_eq,I8,World.size_drew]
theorem nS {t tx ty e : TypeId} {dx : TypeDesc} {sz blk n cap m : Nat} {x : Value} {news : List Value} {c : Array Value} {T : TypeId} {fr : Nat × Nat}
  (ht : P.underlying t = some (.slice e)) (hx : P.underlying tx = some dx) (hdx : ∀ k,dx ≠ .int k) (hs : szOf P e = some sz)
  (hlen : (G0 x).run P w = .ok m w) (hnew : (GR sz m x).run P w = .ok news.toArray w) (h1 : ∀ v ∈ news,v.oneCell' = true) (hnl : news.length = m * sz)
  (hn : n + m ≤ cap) (hb : w.heap[blk]? = some (.cells c T fr)) (hf : ∀ o,o < c.size → ¬ (fr.1 ≤ o ∧ o < fr.2)) (hc : c.size = cap * sz) :
  ∃ w' c',(G8 #[t,tx] ty #[.slice (some ⟨blk,0,none⟩) n cap,x]).run P w = .ok (.slice (some ⟨blk,0,none⟩) (n + m) cap) w' ∧ w'.heap.size = w.heap.size ∧ (∀ k,k ≠ blk → w'.heap[k]? = w.heap[k]?) ∧
   w'.heap[blk]? = some (.cells c' T fr) ∧ c'.toList = bE c.toList (n * sz) news ∧ w'.tape = w.tape ∧ w'.os = w.os ∧ w'.output = w.output ∧ w.drawn ≤ w'.drawn:=by
 have hle : n * sz + 0 + news.length ≤ c.size:=by
  rw [hnl,hc]; have:=IV sz hn; rw [H9] at this; omega
 obtain ⟨w',c',h2,h3⟩:=d9 (P:=P) (off:=n * sz) news 0 w c hb hf hle h1
 refine ⟨w',c',?_,by simpa using h3⟩
 unfold G8
 simp only [I6,F2,Hd,FR,und_run ht,und_run hx,FI,aR hs,F5]
 cases dx with
 | int k=>exact absurd rfl (hdx k)
 | _ =>
  simp only [Gi,if_false,hlen,FI,hn,if_true,FR,hnew,HF,cN,Nat.zero_add,h2,F5,Jm]
theorem fB {t tx ty e : TypeId} {dx : TypeDesc} {sz : Nat} {x : Value} {news : List Value}
  (ht : P.underlying t = some (.slice e)) (hx : P.underlying tx = some dx) (hdx : ∀ k,dx ≠ .int k) (hs : szOf P e = some sz)
  (hlen : (G0 x).run P w = .ok 0 w) (hnew : (GR sz 0 x).run P w = .ok news.toArray w) :
  (G8 #[t,tx] ty #[.slice none 0 0,x]).run P w = .ok (.slice none 0 0) w:=by
 unfold G8
 simp only [I6,F2,Hd,FR,und_run ht,und_run hx,FI,aR hs,F5]
 cases dx with
 | int k=>exact absurd rfl (hdx k)
 | _ =>
  simp only [Gi,if_false,hlen,FI,Nat.add_zero,FT,if_true,FR,hnew,HF,F5,Jm]
theorem eA {t : TypeId} {z : List D} (hz : fA P t = some z) : ∃ v,jX P t = some v ∧ z = v.cells.toList.map lit:=by
 unfold fA at hz
 cases hv : jX P t with
 | none=>simp [hv] at hz
 | some v=>simp [hv] at hz; exact ⟨v,rfl,hz.symm⟩
theorem wz (R : Rep Γ O w l h) {b e0 sz : Nat} {es : List (List D)} (hb : h[b]? = some (.vec es e0 sz)) (w1 : World) (hw1 : w1.heap = w.heap ∧ w1.tape = w.tape ∧ w1.os = w.os ∧ w1.output = w.output ∧ w.drawn ≤ w1.drawn)
  (e : TypeId) (cs : Array Value) (rows : List (List D)) (cap : Nat) (ys rest : List Value)
  (hcs : cs.toList = ys ++ rest) (hsz : cs.size = cap * sz) (hcap : rows.length ≤ cap) (hr : ∀ r ∈ rows,r.length = sz) (ry : RelL w (avs O l h) l h rows.flatten ys) :
  ∃ l',Rep Γ O (w1.alloc (.cells cs e)) l' (h.set b (.vec rows (e0 + 1) sz)) ∧ Ext w l h (w1.alloc (.cells cs e)) l' (h.set b (.vec rows (e0 + 1) sz)) ∧
   Rel (w1.alloc (.cells cs e)) (avs O l' (h.set b (.vec rows (e0 + 1) sz))) l' (h.set b (.vec rows (e0 + 1) sz)) (.ref (.vec b (e0 + 1))) (.slice (some ⟨w.heap.size,0,none⟩) rows.length cap):=by
 have hs : w1.heap.size = w.heap.size:=by rw [hw1.1]
 have:=R.step (w':=w1.alloc (.cells cs e)) (l':=l.upd b (some (w.heap.size,cap))) (h':=h.set b (.vec rows (e0 + 1) sz)) b (.vec rows (e0 + 1) sz) (by simp [hs]) ⟨hw1.2.1,hw1.2.2.1,hw1.2.2.2⟩
  (fun i hi=>bB _ _ hi) (aZ hb) (fun i hi=>Loc.upd_ne _ _ _ hi)
  (fun z hz=>by rw [hb] at hz; cases hz; exact ⟨⟨HK _,fun hh=>absurd hh (by omega),rfl⟩,fun hh=>absurd hh (by simp [JG])⟩)
  (fun k hk _=>by rw [heap_alloc_old w1 _ k (by omega),hw1.1])
  (fun k c hk=>by simp at hk; exact .inr ⟨by omega,by simp; omega⟩)
  (fun E=>by
   simp only [BlkOk,Loc.upd_same]
   exact ⟨cs,e,(0,0),ys,by rw [← hs]; exact heap_alloc_new w1 _,hsz,hcap,by simp,hr,E.relL ry,rest,hcs⟩)
 refine ⟨_,this.1,this.2,?_⟩
 simp only [Rel,RefRel]
 refine ⟨rfl,?_⟩
 rw [aZ hb]
 simp [l4,hcap]
theorem nT (R : Rep Γ O w l h) {t tx ty : TypeId} {s x d : D} {ys yx : Value} {h' : List Blk} (rs : Rel w (avs O l h) l h s ys) (rx : Rel w (avs O l h) l h x yx)
  (hd : rQ P h t tx s x = some (true,d,h')) :
  ∃ v w' l',(G8 #[t,tx] ty #[ys,yx]).run P w = .ok v w' ∧ Rep Γ O w' l' h' ∧ Ext w l h w' l' h' ∧ Rel w' (avs O l' h') l' h' d v:=by
 unfold rQ at hd
 cases hte : kq P t with
 | none=>simp [hte] at hd
 | some e =>
  cases hux : P.underlying tx with
  | none=>simp [hte,hux] at hd
  | some dx =>
   simp only [hte,hux] at hd
   split at hd
   case isTrue=>simp at hd
   rename_i hdx0
   have hdx : ∀ k,dx ≠ .int k:=by intro k hk; subst hk; simp [isIntT] at hdx0
   have ht : P.underlying t = some (.slice e):=by
    unfold kq at hte
    cases hu : P.underlying t with
    | none=>simp [hu] at hte
    | some u=>cases u <;> simp_all
   cases hs : szOf P e with
   | none=>simp [hs] at hd
   | some sz =>
    cases hb : bytesOf P e with
    | none=>simp [hs,hb] at hd
    | some by' =>
     cases hz : fA P e with
     | none=>simp [hs,hb,hz] at hd
     | some z =>
      cases hrows : rowsD h x with
      | none=>simp [hs,hb,hz,hrows] at hd
      | some rows =>
       simp only [hs,hb,hz,hrows] at hd
       split at hd
       case isFalse=>simp at hd
       rename_i hzl
       obtain ⟨zv,hzv,rfl⟩:=eA hz
       have hzsz : zv.cells.size = sz:=by simpa using hzl
       have pre : rows.all (aG sz) = true → (∀ r ∈ rows,r.length = sz) ∧ (rows.flatten.all D.one = true):=by
        intro ha
        simp only [FZ,aG,FB,decide_eq_true_eq] at ha
        refine ⟨fun r hr=>(ha r hr).1,?_⟩
        simp only [FZ,List.mem_flatten]
        rintro c ⟨r,hr,hc⟩
        exact (ha r hr).2 c hc
       obtain ⟨R1,E1⟩:=R.of_heap (w':=w.drew) rfl ⟨rfl,rfl,rfl,(by first | exact FT _ | exact HK _)⟩
       have hroom : ∀ {n m : Nat},roomOk (n + m) by' = true → (n + m) * by' ≤ 140737488355328 ∧ n + m ≤ 4611686018427387904:=by
        intro n m hh; simpa [roomOk] using hh
       have mk : ∀ (base : Option Addr) (cap : Nat) (orows : List (List D)) (y : Value),y = .slice base orows.length cap → Rel w (avs O l h) l h s y → rowsD h s = some orows → (∀ r ∈ orows,r.length = sz) →
         rows.all (aG sz) = true → roomOk (orows.length + rows.length) by' = true → cap < orows.length + rows.length →
         ∃ (cap2 : Nat) (cs : Array Value) (zs rest : List Value),(G8 #[t,tx] ty #[y,yx]).run P w = .ok (.slice (some ⟨w.heap.size,0,none⟩) (orows ++ rows).length cap2) (w.drew.alloc (.cells cs e)) ∧
          cs.toList = zs ++ rest ∧ cs.size = cap2 * sz ∧ (orows ++ rows).length ≤ cap2 ∧ (∀ r ∈ orows ++ rows,r.length = sz) ∧ RelL w.drew (avs O l h) l h (orows ++ rows).flatten zs:=by
        intro base cap orows y hy ry hor hol ha hro hlt
        subst hy
        obtain ⟨p1,p2⟩:=pre ha
        obtain ⟨g1,_⟩:=cB (P:=P) R rx hrows p1
        obtain ⟨_,news,g2,g3⟩:=cB (P:=P) R1 (E1.rel rx) hrows p1
        obtain ⟨_,olds,g5,g6⟩:=cB (P:=P) R1 (E1.rel ry) hor hol
        obtain ⟨q1,q2⟩:=hroom hro
        obtain ⟨cap2,q3,q4⟩:=ma (P:=P) (ty:=ty) ht hux hdx hs hb hzv g1 g2 g5 hlt q1 q2
        refine ⟨cap2,_,olds ++ news,(Iu zv.cells (cap2 - (orows.length + rows.length))).toList,by rw [q4,GQ],by simp,?_,by rw [GQ]; exact q3,?_,?_⟩
        ·have h1:=g6.length
         have h2:=g3.length
         rw [bj hol] at h1
         rw [bj p1] at h2
         simp only [Array.size_append,List.size_toArray,l9,hzsz,← h1,← h2,← H9]
         congr 1; omega
        ·intro r hr
         rcases He.1 hr with hr | hr
         ·exact hol r hr
         ·exact p1 r hr
        ·rw [Ii]; exact g6.append g3
       have news : ∀ (orows : List (List D)) (y : Value) (base : Option Addr) (cap : Nat),y = .slice base orows.length cap → Rel w (avs O l h) l h s y → rowsD h s = some orows → (∀ r ∈ orows,r.length = sz) →
         rows.all (aG sz) = true → roomOk (orows.length + rows.length) by' = true → cap < orows.length + rows.length → d = .ref (.vec h.length 0) → h' = h ++ [.vec (orows ++ rows) 0 sz] →
         ∃ v w' l',(G8 #[t,tx] ty #[y,yx]).run P w = .ok v w' ∧ Rep Γ O w' l' h' ∧ Ext w l h w' l' h' ∧ Rel w' (avs O l' h') l' h' d v:=by
        intro orows y base cap hy ry hor hol ha hro hlt hd2 hh2
        obtain ⟨cap2,cs,zs,rest,k1,k2,k3,k4,k5,k6⟩:=mk base cap orows y hy ry hor hol ha hro hlt
        obtain ⟨l',k7,k8,k9⟩:=iU R1 w.drew ⟨rfl,rfl,rfl,rfl,(by first | exact FT _ | exact HK _)⟩ e cs (orows ++ rows) sz cap2 zs rest k2 k3 k4 k5 k6
        subst hd2; subst hh2
        exact ⟨_,_,l',k1,k7,E1.trans k8,k9⟩
       split at hd
       ·-- nil
        simp only [Fq,Fw,FB] at hd
        obtain ⟨⟨ha,hro⟩,rfl,rfl⟩:=hd
        simp only [Rel,RelP] at rs
        subst rs
        cases hrl : rows with
        | nil =>
         subst hrl
         obtain ⟨g1,nw,g2,g3⟩:=cB (P:=P) R rx hrows (pre ha).1
         obtain ⟨l',k7,k8,k9⟩:=uV R sz
         exact ⟨_,_,l',fB ht hux hdx hs g1 g2,k7,k8,k9⟩
        | cons r0 rs' =>
         rw [← hrl]
         exact news [] (.slice none 0 0) none 0 rfl (by simp [Rel,RelP]) (by simp [rowsD]) (by simp) ha hro (by rw [hrl]; simp) rfl (by simp)
       ·-- cb
        rename_i es
        simp only [Fq,Fw,FB,GN,Kf] at hd
        obtain ⟨⟨⟨⟨ha,hro⟩,hne⟩,hel⟩,rfl,rfl⟩:=hd
        have hol : ∀ r ∈ es.map (·.map D.p),r.length = sz:=by
         simp only [FZ,decide_eq_true_eq] at hel
         intro r hr
         obtain ⟨r0,h0,rfl⟩:=List.mem_map.1 hr
         simpa using hel r0 h0
        have hpos : 0 < rows.length:=Ll.2 hne
        have rs':=rs
        simp only [Rel] at rs
        rcases rs with ⟨rfl,a0,rfl⟩ | ⟨blk,off,sz2,rfl,rr⟩
        ·exact news [] _ a0 0 rfl rs' (by simp [rowsD]) (by simp) ha hro (by simpa using hpos) rfl (by simp)
        ·exact news (es.map (·.map .p)) _ (some ⟨blk,off,none⟩) es.length (by simp) rs' (by simp [rowsD]) hol ha (by simpa using hro) (by simp; omega) rfl rfl
       ·-- a cb part
        rename_i b e' i n
        cases hbk : h[b]? with
        | none=>simp [hbk] at hd
        | some bx =>
         cases bx <;> simp only [hbk,reduceCtorEq] at hd
         rename_i es e2 sz'
         split at hd
         case isFalse=>simp at hd
         rename_i he
         obtain ⟨rfl,rfl⟩:=he
         simp only [Fq,Fw,FB,GN,Kf] at hd
         obtain ⟨⟨⟨ha,hro⟩,hne⟩,rfl,rfl⟩:=hd
         have hpos : 0 < rows.length:=Ll.2 hne
         have rs':=rs
         obtain ⟨_,hr⟩:=rs
         simp only [hbk] at hr
         obtain ⟨hin,blk,cap,c2,hlb,rfl,_,hc⟩:=hr.2 trivial
         have hc2:=hc trivial
         subst hc2
         have hlen : ((es.drop i).take c2).length = c2:=by simp; omega
         have hok:=R.blk b _ hbk
         simp only [BlkOk,hlb] at hok
         obtain ⟨c,T,fr,ys',o1,o2,o3,o4,o5,o6,o7⟩:=hok
         exact news ((es.drop i).take c2) _ (some _) c2 (by rw [hlen]) rs' (by simp [rowsD,hbk]) (fun r hr=>o5 r (List.mem_of_mem_drop (List.mem_of_mem_take hr))) ha (by rw [hlen]; exact hro) (by rw [hlen]; omega) rfl rfl
       ·-- an owned vector
        rename_i b e'
        cases hbk : h[b]? with
        | none=>simp [hbk] at hd
        | some bx =>
         cases bx <;> simp only [hbk,reduceCtorEq] at hd
         rename_i es e2 sz'
         split at hd
         case isFalse=>simp at hd
         rename_i he
         obtain ⟨rfl,rfl⟩:=he
         simp only [Fq,Fw,FB] at hd
         obtain ⟨⟨ha,hro⟩,rfl,rfl⟩:=hd
         have rs':=rs
         obtain ⟨_,hr⟩:=rs
         simp only [hbk] at hr
         have hv:=hr.2 trivial
         have hok:=R.blk b _ hbk
         have grow : ∀ (base : Option Addr) (cap : Nat),ys = .slice base es.length cap → (∀ r ∈ es,r.length = sz') → cap < es.length + rows.length →
           ∃ v w' l',(G8 #[t,tx] ty #[ys,yx]).run P w = .ok v w' ∧ Rep Γ O w' l' (h.set b (.vec (es ++ rows) (e' + 1) sz')) ∧ Ext w l h w' l' (h.set b (.vec (es ++ rows) (e' + 1) sz')) ∧
            Rel w' (avs O l' (h.set b (.vec (es ++ rows) (e' + 1) sz'))) l' (h.set b (.vec (es ++ rows) (e' + 1) sz')) (.ref (.vec b (e' + 1))) v:=by
          intro base cap hy hol hlt
          obtain ⟨cap2,cs,zs,rest,k1,k2,k3,k4,k5,k6⟩:=mk base cap es ys hy rs' (by simp [rowsD,hbk]) hol ha hro hlt
          obtain ⟨l',k7,k8,k9⟩:=wz R1 hbk w.drew ⟨rfl,rfl,rfl,rfl,(by first | exact FT _ | exact HK _)⟩ e cs (es ++ rows) cap2 zs rest k2 k3 k4 k5 k6
          exact ⟨_,_,l',k1,k7,E1.trans k8,k9⟩
         cases hlb : l b with
         | none =>
          simp only [hlb,l4,BlkOk] at hv hok
          obtain ⟨_,rfl⟩:=hv
          subst hok
          cases hrl : rows with
          | nil =>
           subst hrl
           obtain ⟨g1,nw,g2,g3⟩:=cB (P:=P) R rx hrows (pre ha).1
           have:=R.step (w':=w) (l':=l) (h':=h.set b (.vec ([] ++ []) (e' + 1) sz')) b (.vec ([] ++ []) (e' + 1) sz') (FT _) ⟨rfl,rfl,rfl,(by first | exact FT _ | exact HK _)⟩
            (fun i hi=>bB _ _ hi) (aZ hbk) (fun _ _=>rfl)
            (fun z hz=>by rw [hbk] at hz; cases hz; exact ⟨⟨HK _,fun hh=>absurd hh (by omega),rfl⟩,fun hh=>absurd hh (by simp [JG])⟩)
            (fun _ _ _=>rfl) (fun k c hk=>by rw [hlb] at hk; simp at hk) (fun E=>by simp [BlkOk,hlb])
           refine ⟨_,_,l,fB ht hux hdx hs g1 g2,this.1,this.2,?_⟩
           simp only [Rel,RefRel]
           refine ⟨rfl,?_⟩
           rw [aZ hbk]
           simp [l4,hlb]
          | cons r0 rs2 =>
           rw [← hrl]
           exact grow none 0 rfl (by simp) (by rw [hrl]; simp)
         | some pr =>
          obtain ⟨blk,cap⟩:=pr
          simp only [hlb,l4,BlkOk] at hv hok
          obtain ⟨rfl,_⟩:=hv
          obtain ⟨c,T,fr,ys',o1,o2,o3,o4,o5,o6,rest,o7⟩:=hok
          by_cases hfit : es.length + rows.length ≤ cap
          ·obtain ⟨p1,p2⟩:=pre ha
           obtain ⟨g1,nw,g2,g3⟩:=cB (P:=P) R rx hrows p1
           have hnl : nw.length = rows.length * sz':=by rw [← g3.length,bj p1]
           obtain ⟨w',c',k1,k2,k3,k4,k5,k6⟩:=nS (P:=P) (ty:=ty) (T:=T) ht hux hdx hs g1 g2 (rP g3 p2) hnl hfit o1 o4 o2
           have hyl : ys'.length = es.length * sz':=by rw [← o6.length,bj o5]
           have hcz : c'.size = c.size:=by
            have hh:=congrArg List.length k5
            have hcl : c.toList.length = ys'.length + rest.length:=by rw [o7]; simp
            have h9:=IV sz' hfit
            rw [H9] at h9
            simp only [bE,GQ,Jy,Ke,It] at hh hcl
            omega
           have:=R.step (w':=w') (l':=l) (h':=h.set b (.vec (es ++ rows) (e' + 1) sz')) b (.vec (es ++ rows) (e' + 1) sz') (by omega) k6
            (fun i hi=>bB _ _ hi) (aZ hbk) (fun _ _=>rfl)
            (fun z hz=>by rw [hbk] at hz; cases hz; exact ⟨⟨HK _,fun hh=>absurd hh (by omega),rfl⟩,fun hh=>absurd hh (by simp [JG])⟩)
            (fun k hk hno=>k3 k (fun ee=>hno _ cap hbk (by simp) (by rw [hlb,ee])))
            (fun k cc hk=>.inl ⟨_,cc,hbk,by simp,hk⟩)
            (fun E=>by
             simp only [BlkOk,hlb]
             refine ⟨c',T,fr,ys' ++ nw,k4,by omega,by simpa using hfit,by rw [hcz]; exact o4,?_,?_,rest.drop nw.length,?_⟩
             ·intro r hr
              rcases He.1 hr with hr | hr
              ·exact o5 r hr
              ·exact p1 r hr
             ·rw [Ii]; exact (E.relL o6).append (E.relL g3)
             ·rw [k5,o7]
              unfold bE
              rw [← hyl,List.take_left',List.drop_append]
              ·simp
              ·rfl)
           refine ⟨_,w',l,k1,this.1,this.2,?_⟩
           simp only [Rel,RefRel]
           refine ⟨rfl,?_⟩
           rw [aZ hbk]
           simp [l4,hlb,hfit]
          ·exact grow (some ⟨blk,0,none⟩) cap rfl o5 (by omega)
       ·simp at hd
end
section
variable {P : Program} {Γ : ap} {O : Nat → Prop} {w : World} {l : Loc} {h : List Blk}
theorem aq {av : Nat → Prop} {x y : Value} (r : Rel w av l h (.p (.v x)) y) : y = x:=by simpa [Rel,RelP] using r
theorem eqS_eq (a b : ByteArray) : (a.toList == b.toList) = eqS a b:=by simp [eqS,Km]
theorem gW {op : BinOp} {k : IntKind} {a b n : Int} (hb : ww op k a b = some n) (w : World) : (Op.intBits op k a b).run P w = .ok (.int k n) w:=by
 unfold ww at hb
 cases op <;> simp only [Fq,reduceCtorEq] at hb <;> subst hb <;> rfl
theorem intOp_run {op : BinOp} {k : IntKind} {t : TypeId} {a b : Int} {d : D} (hd : intOp op k a b = some (true,d)) (w : World) :
  ∃ v,(binOp op t (.int k a) (.int k b)).run P w = .ok v w ∧ Rel w (avs O l h) l h d v:=by
 cases op <;> simp only [intOp,Fq,Fw,true_and,FD] at hd
 case quo =>
  obtain ⟨h1,rfl⟩:=hd
  simp only [GN,decide_eq_false_iff_not] at h1
  exact ⟨_,by simp [binOp,Op.intDiv,h1],rel_lit _ _ _ _ _⟩
 case rem =>
  obtain ⟨h1,rfl⟩:=hd
  simp only [GN,decide_eq_false_iff_not] at h1
  exact ⟨_,by simp [binOp,Op.intDiv,h1],rel_lit _ _ _ _ _⟩
 case add=>subst hd; exact ⟨_,by simp [binOp,J2],rel_lit _ _ _ _ _⟩
 case sub=>subst hd; exact ⟨_,by simp [binOp,J2],rel_lit _ _ _ _ _⟩
 case mul=>subst hd; exact ⟨_,by simp [binOp,J2],rel_lit _ _ _ _ _⟩
 case eql=>subst hd; exact ⟨_,by simp [binOp,Jx],rel_lit _ _ _ _ _⟩
 case neq=>subst hd; exact ⟨_,by simp [binOp,Jx],rel_lit _ _ _ _ _⟩
 case lss=>subst hd; exact ⟨_,by simp [binOp,Jx],rel_lit _ _ _ _ _⟩
 case leq=>subst hd; exact ⟨_,by simp [binOp,Jx],rel_lit _ _ _ _ _⟩
 case gtr=>subst hd; exact ⟨_,by simp [binOp,Jx],rel_lit _ _ _ _ _⟩
 case geq=>subst hd; exact ⟨_,by simp [binOp,Jx],rel_lit _ _ _ _ _⟩
 case and=>obtain ⟨n,h1,rfl⟩:=hd; exact ⟨_,by simpa [binOp] using gW h1 w,rel_lit _ _ _ _ _⟩
 case or=>obtain ⟨n,h1,rfl⟩:=hd; exact ⟨_,by simpa [binOp] using gW h1 w,rel_lit _ _ _ _ _⟩
 case xor=>obtain ⟨n,h1,rfl⟩:=hd; exact ⟨_,by simpa [binOp] using gW h1 w,rel_lit _ _ _ _ _⟩
 case andNot=>obtain ⟨n,h1,rfl⟩:=hd; exact ⟨_,by simpa [binOp] using gW h1 w,rel_lit _ _ _ _ _⟩
 all_goals (obtain ⟨n,h1,rfl⟩:=hd; simp [ww] at h1)
theorem wB {op : BinOp} {t : TypeId} {a b : ByteArray} {d : D} (hd : strOp op a b = some (true,d)) (w : World) :
  ∃ v,(binOp op t (.string a) (.string b)).run P w = .ok v w ∧ Rel w (avs O l h) l h d v:=by
 cases op <;> simp only [strOp,Fq,Fw,true_and,reduceCtorEq] at hd
 case add =>
  obtain ⟨h1,rfl⟩:=hd
  have h2 : ¬ (((a.size + b.size : Nat) : Int) > Fs.max):=by
   have : Fs.max = 9223372036854775807:=rfl
   rw [this]; simp only [decide_eq_true_eq] at h1; omega
  exact ⟨_,by simp only [binOp,Op.stringOp,h2,if_false]; rfl,rel_lit _ _ _ _ _⟩
 all_goals
  subst hd
  refine ⟨_,by simp only [binOp,Op.stringOp,Km]; rfl,rel_lit _ _ _ _ _⟩
theorem uX {op : BinOp} {t : TypeId} {xo yo : Operand} {x y d : D} {a b : Value} (rx : Rel w (avs O l h) l h x a) (ry : Rel w (avs O l h) l h y b) (hd : binD op x y = some (true,d)) :
  ∃ v,(do eqGuard op t xo yo a b; binOp op t a b : Sem Value).run P w = .ok v w ∧ Rel w (avs O l h) l h d v:=by
 unfold binD at hd
 split at hd
 ·rename_i k n k' m
  obtain rfl:=aq rx
  obtain rfl:=aq ry
  have hg : (eqGuard op t xo yo (.int k n) (.int k' m)).run P w = .ok () w:=by
   unfold eqGuard
   cases op <;> simp
  simp only [FR,hg,FI]
  split at hd
  ·simp only [Fq,Fw,decide_eq_true_eq] at hd
   obtain ⟨h1,rfl⟩:=hd
   exact ⟨_,by simp [binOp,Op.shift,I3.2 h1],rel_lit _ _ _ _ _⟩
  ·simp only [Fq,Fw,decide_eq_true_eq] at hd
   obtain ⟨h1,rfl⟩:=hd
   exact ⟨_,by simp [binOp,Op.shift,I3.2 h1],rel_lit _ _ _ _ _⟩
  ·split at hd
   ·rename_i hk; subst hk; exact intOp_run hd w
   ·simp at hd
 ·rename_i s u
  obtain rfl:=aq rx
  obtain rfl:=aq ry
  have hg : (eqGuard op t xo yo (.string s) (.string u)).run P w = .ok () w:=by
   unfold eqGuard
   cases op <;> simp
  simp only [FR,hg,FI]
  exact wB hd w
 ·simp at hd
theorem wC {op : UnOp} {x d : D} {a : Value} (rx : Rel w (avs O l h) l h x a) (hd : unD op x = some d) : ∃ v,(Lv op a).run P w = .ok v w ∧ Rel w (avs O l h) l h d v:=by
 unfold unD at hd
 split at hd
 ·obtain rfl:=aq rx
  split at hd
  ·cases hd; exact ⟨_,by simp [Lv,J2],rel_lit _ _ _ _ _⟩
  ·simp only [FD] at hd
   obtain ⟨n,h1,rfl⟩:=hd
   exact ⟨_,by simpa [Lv] using gW h1 w,rel_lit _ _ _ _ _⟩
  ·simp at hd
 ·obtain rfl:=aq rx
  split at hd
  ·cases hd; exact ⟨_,by simp [Lv],rel_lit _ _ _ _ _⟩
  ·simp at hd
 ·simp at hd
theorem rR {c x y d : D} {vc vx vy : Value} (rc : Rel w (avs O l h) l h c vc) (rx : Rel w (avs O l h) l h x vx) (ry : Rel w (avs O l h) l h y vy) (hd : pickD c x y = some (true,d)) :
  ∃ v,(do pure (.value (if ← asBool vc then vx else vy)) : Sem Next).run P w = .ok (.value v) w ∧ Rel w (avs O l h) l h d v:=by
 unfold pickD at hd
 split at hd
 case h_2=>simp at hd
 rename_i b
 obtain rfl:=aq rc
 split at hd
 ·cases hd
  obtain rfl:=aq rx
  obtain rfl:=aq ry
  cases b
  ·exact ⟨_,by simp [asBool],rel_lit _ _ _ _ _⟩
  ·exact ⟨_,by simp [asBool],rel_lit _ _ _ _ _⟩
 ·simp only [Fq,Fw,G4] at hd
  obtain ⟨hg,rfl⟩:=hd
  obtain rfl:=aq rx
  cases b
  ·simp only [Rel] at ry
   have:=ry.1 (by simpa using hg)
   simp only [RelP] at this
   subst this
   exact ⟨_,by simp [asBool],rel_lit _ _ _ _ _⟩
  ·exact ⟨_,by simp [asBool],rel_lit _ _ _ _ _⟩
 ·simp only [Fq,Fw,G4] at hd
  obtain ⟨hg,rfl⟩:=hd
  obtain rfl:=aq ry
  cases b
  ·exact ⟨_,by simp [asBool],rel_lit _ _ _ _ _⟩
  ·simp only [Rel] at rx
   have:=rx.1 (by simpa using hg)
   simp only [RelP] at this
   subst this
   exact ⟨_,by simp [asBool],rel_lit _ _ _ _ _⟩
 ·cases hd
  cases b
  ·exact ⟨_,by simp [asBool],ry⟩
  ·exact ⟨_,by simp [asBool],rx⟩
theorem rS {src dst : TypeId} {x d : D} {a : Value} (rx : Rel w (avs O l h) l h x a) (hd : CI P src dst x = some d) :
  ∃ v,(convert src dst a).run P w = .ok v w ∧ Rel w (avs O l h) l h d v:=by
 unfold CI at hd
 split at hd
 ·rename_i s k n h1 h2
  cases hd
  obtain rfl:=aq rx
  refine ⟨_,?_,rel_lit _ _ _ _ _⟩
  simp only [convert,FR,und_run h1,und_run h2,FI,Conv.intToInt,F5]
 ·rename_i s n h1 h2
  cases hd
  obtain rfl:=aq rx
  refine ⟨_,?_,rel_lit _ _ _ _ _⟩
  simp only [convert,FR,und_run h1,und_run h2,FI]
  cases s <;> simp
 ·simp at hd
theorem eR {mx : Bool} {t : TypeId} {ts : Array TypeId} : ∀ {xs : List D} {x d : D} {a : Value} {vs : List Value} (_ : Rel w (avs O l h) l h x a) (_ : RelL w (avs O l h) l h xs vs) (_ : iT mx x xs = some d),
  ∃ v,(vs.foldlM (if mx then Builtin.max2 else Builtin.min2) a).run P w = .ok v w ∧ Rel w (avs O l h) l h d v
 | [],x,d,a,[],rx,_,hd=>by simp only [iT,Fq] at hd; subst hd; exact ⟨a,by simp,rx⟩
 | y :: xs,x,d,a,v :: vs,rx,rl,hd=>by
  simp only [RelL] at rl
  simp only [iT] at hd
  cases h1 : intOf? x with
  | none=>simp [h1] at hd
  | some p1 =>
   cases h2 : intOf? y with
   | none=>simp [h1,h2] at hd
   | some p2 =>
    obtain ⟨k,n⟩:=p1
    obtain ⟨k2,m⟩:=p2
    simp only [h1,h2] at hd
    obtain rfl:=bJ rx h1
    obtain rfl:=bJ rl.1 h2
    obtain ⟨v,h3,h4⟩:=eR (t:=t) (ts:=ts) (a:=.int k (if mx then (if m > n then m else n) else (if m < n then m else n))) (rel_lit _ _ _ _ _) rl.2 hd
    refine ⟨v,?_,h4⟩
    rw [List.foldlM_cons,FR]
    cases mx <;> simpa [Builtin.max2,Builtin.min2] using h3
 | [],_,_,_,_ :: _,_,rl,_=>by simp [RelL] at rl
 | _ :: _,_,_,_,[],_,rl,_=>by simp [RelL] at rl
theorem uY {x : D} {y : Value} {n : Nat} (rx : Rel w (avs O l h) l h x y) (hx : lenD h x = some n) : ∃ a c,y = .slice a n c:=by
 cases x with
 | p dp =>
  cases dp with
  | v x =>
   obtain rfl:=aq rx
   cases y <;> simp [lenD] at hx
   case slice a m c=>cases a <;> cases m <;> cases c <;> simp at hx; subst hx; exact ⟨_,_,rfl⟩
  | sl es =>
   simp only [lenD,Fq] at hx
   subst hx
   simp only [Rel,RelP] at rx
   rcases rx with ⟨rfl,_,_,rfl,_⟩ | ⟨blk,off,cap,sz,rfl,_,rr⟩ <;> exact ⟨_,_,rfl⟩
 | csl es =>
  simp only [lenD,Fq] at hx
  subst hx
  simp only [Rel] at rx
  rcases rx with ⟨rfl,_,rfl⟩ | ⟨blk,off,sz,rfl,rr⟩ <;> exact ⟨_,_,rfl⟩
 | ref r =>
  obtain ⟨g1,hr⟩:=rx
  cases r with
  | vec b e =>
   simp only [lenD] at hx hr
   cases hb : h[b]? with
   | none=>simp [hb] at hx
   | some bx =>
    cases bx <;> simp only [hb,reduceCtorEq] at hx hr
    split at hx
    case isFalse=>simp at hx
    rename_i he
    cases hx
    have hv:=hr.2 he.symm
    cases hlb : l b with
    | none=>simp only [hlb,l4] at hv; rw [hv.1,hv.2]; exact ⟨_,_,rfl⟩
    | some pr=>obtain ⟨blk,cap⟩:=pr; simp only [hlb,l4] at hv; rw [hv.1]; exact ⟨_,_,rfl⟩
  | vs b e i m c =>
   simp only [lenD] at hx hr
   cases hb : h[b]? with
   | none=>simp [hb] at hx
   | some bx =>
    cases bx <;> simp only [hb,reduceCtorEq] at hx hr
    split at hx
    case isFalse=>simp at hx
    rename_i he
    cases hx
    obtain ⟨_,blk,cap,c2,_,rfl,_⟩:=hr.2 he.symm
    exact ⟨_,_,rfl⟩
  | av b off m sz =>
   simp only [lenD] at hx hr
   cases hb : h[b]? with
   | none=>simp [hb] at hx
   | some bx =>
    cases bx <;> simp only [hb,reduceCtorEq] at hx hr
    cases hx
    obtain ⟨blk,cp,c2,_,rfl,_⟩:=hr
    exact ⟨_,_,rfl⟩
  | _=>simp [lenD] at hx
 | _=>simp [lenD] at hx
theorem fC : ∀ (kvs : List (D × D × Nat)) (es : List MapEntry),RelKV w (avs O l h) l h kvs es → kvs.length = es.length
 | [],[],_=>rfl
 | (_,_,_) :: kvs,e :: es,r=>by simp only [RelKV] at r; simp [fC kvs es r.2.2.2]
 | [],_ :: _,r=>by simp [RelKV] at r
 | _ :: _,[],r=>by simp [RelKV] at r
theorem rT (R : Rep Γ O w l h) {t ty : TypeId} {ts : List TypeId} {x d : D} {y : Value} (rx : Rel w (avs O l h) l h x y) (hd : uU P h t x = some d) :
  ∃ v,(Ig (t :: ts).toArray ty #[y]).run P w = .ok v w ∧ Rel w (avs O l h) l h d v:=by
 unfold uU at hd
 cases hu : P.underlying t with
 | none=>simp [hu] at hd
 | some u =>
  cases u <;> simp only [hu,reduceCtorEq,FD,Fq] at hd
  case array n e=>subst hd; exact ⟨_,by simp [Ig,und_run hu,goInt],rel_lit _ _ _ _ _⟩
  case string =>
   split at hd
   ·cases hd
    obtain rfl:=aq rx
    exact ⟨_,by simp [Ig,und_run hu,goInt],rel_lit _ _ _ _ _⟩
   ·simp at hd
  case slice e =>
   obtain ⟨n,h1,rfl⟩:=hd
   obtain ⟨a,c,rfl⟩:=uY rx h1
   exact ⟨_,by simp [Ig,und_run hu,goInt],rel_lit _ _ _ _ _⟩
  case map kt et =>
   split at hd
   ·cases hd
    obtain rfl:=aq rx
    exact ⟨_,by simp [Ig,und_run hu,goInt],rel_lit _ _ _ _ _⟩
   ·rename_i b
    cases hb : h[b]? with
    | none=>simp [hb] at hd
    | some bx =>
     obtain ⟨_,hr⟩:=rx
     cases bx <;> simp only [hb,reduceCtorEq,Fq] at hd hr
     subst hd
     obtain ⟨blk,cp,hlb,rfl⟩:=hr
     obtain ⟨blk',cp',es,h1,h2,h3⟩:=R.blk b _ hb
     obtain ⟨rfl,rfl⟩ : blk = blk' ∧ cp = cp':=by simpa [hlb] using h1
     refine ⟨_,?_,rel_lit _ _ _ _ _⟩
     simp [Ig,und_run hu,getObj,Sem.run,h2,goInt,fC _ _ h3]
   ·simp at hd
end
section
variable {P : Program} {Γ : ap} {O : Nat → Prop} {w : World} {l : Loc} {h : List Blk}
theorem kx : ∀ (vs : List Value) (k off : Nat) (cs : Array Value),off + k + vs.length ≤ cs.size →
  ((vs.zipIdx k).foldl (fun cs (p : Value × Nat)=>cs.setIfInBounds (off + p.2) p.1) cs).toList = bE cs.toList (off + k) vs
 | [],k,off,cs,_=>by simp [bE]
 | v :: vs,k,off,cs,hl=>by
  simp only [GF] at hl
  simp only [List.zipIdx_cons,List.foldl_cons]
  rw [kx vs (k + 1) off (cs.setIfInBounds (off + k) v) (by simp; omega)]
  simp only [bE,Array.toList_setIfInBounds,GF]
  have hlt : off + k < cs.toList.length:=by simp; omega
  rw [List.drop_set,if_pos (by omega)]
  have h8 : (cs.toList.set (off + k) v).take (off + (k + 1)) = cs.toList.take (off + k) ++ [v]:=by
   rw [show off + (k + 1) = (off + k) + 1 by omega,List.take_succ_eq_append_getElem (by simpa using hlt),List.take_set,List.set_eq_of_length_le (by simp; omega)]
   simp
  rw [h8,show off + (k + 1) + vs.length = off + k + (vs.length + 1) by omega]
  simp
theorem py (vs : Array Value) (off : Nat) (cs : Array Value) (hl : off + vs.size ≤ cs.size) :
  (vs.zipIdx.foldl (fun cs (p : Value × Nat)=>cs.setIfInBounds (off + p.2) p.1) cs).toList = bE cs.toList off vs.toList:=by
 have:=kx vs.toList 0 off cs (by simpa using hl)
 rw [← Array.foldl_toList,Array.toList_zipIdx]
 simpa using this
theorem ga {place : Nat → Option (Nat × Nat)} : ∀ {ps : List (Nat × D)} {qs : List (Nat × Value)} {cs cs' : List D} {vs : Array Value},ps.length = qs.length →
  (∀ (j : Nat) (p : Nat × D) (q : Nat × Value),ps[j]? = some p → qs[j]? = some q → p.1 = q.1 ∧ Rel w (avs O l h) l h p.2 q.2) → RelL w (avs O l h) l h cs vs.toList → pm place cs ps = some cs' →
  ∃ vs',Instr.fill place vs qs = some vs' ∧ RelL w (avs O l h) l h cs' vs'.toList ∧ vs'.size = vs.size
 | [],[],cs,cs',vs,_,_,r,hd=>by simp only [pm,Fq] at hd; subst hd; exact ⟨vs,rfl,r,rfl⟩
 | p :: ps,q :: qs,cs,cs',vs,hl,hp,r,hd=>by
  obtain ⟨i,d⟩:=p
  obtain ⟨i',y⟩:=q
  obtain ⟨rfl,rd⟩:=hp 0 (i,d) (i',y) (by simp) (by simp)
  simp only [pm] at hd
  cases hpl : place i with
  | none=>simp [hpl] at hd
  | some os =>
   obtain ⟨off,size⟩:=os
   cases hc : d.cells with
   | none=>simp [hpl,hc] at hd
   | some new =>
    simp only [hpl,hc] at hd
    split at hd
    case isFalse=>simp at hd
    rename_i hcond
    obtain ⟨g1,g2⟩:=hcond
    obtain ⟨c1,c2⟩:=dy rd hc
    have hys : y.cells.size = size:=by rw [← g1,c1.length]; simp
    have hcl:=r.length
    have hvs : vs.toList.length = vs.size:=by simp
    have hsp:=py y.cells off vs (by omega)
    have rsp : RelL w (avs O l h) l h (bQ cs off new) (y.cells.zipIdx.foldl (fun cs (p : Value × Nat)=>cs.setIfInBounds (off + p.2) p.1) vs).toList:=by
     rw [hsp]; exact r.splice off c1
    obtain ⟨vs',f1,f2,f3⟩:=ga (ps:=ps) (qs:=qs) (by simpa using hl) (fun j p q h1 h2=>hp (j + 1) p q (by simpa using h1) (by simpa using h2)) rsp hd
    refine ⟨vs',?_,f2,?_⟩
    ·simp only [Instr.fill,hpl]
     rw [if_neg]
     ·exact f1
     ·simp [hys]; omega
    ·rw [f3]
     have:=congrArg List.length hsp
     simp only [bE,GQ,Jy,Ke,It] at this
     omega
 | [],_ :: _,_,_,_,hl,_,_,_=>by simp at hl
 | _ :: _,[],_,_,_,hl,_,_,_=>by simp at hl
theorem uZ {fields : List Field} {pl : List (Nat × Nat)} (hp : fields.mapM (fun f=>(szOf P f.type).map fun n=>(f.offset,n)) = some pl) (w : World) :
  (fields.mapM (fun f=>(do pure (f.offset,← sizeOf f.type) : Sem (Nat × Nat)))).run P w = .ok pl w:=by
 induction fields generalizing pl with
 | nil=>simp at hp; subst hp; simp
 | cons f fs ih =>
  simp only [KM,Option.bind_eq_bind,Option.bind_eq_some_iff,FD,Option.pure_def,Fq] at hp
  obtain ⟨p,⟨n,h1,rfl⟩,pl',h2,rfl⟩:=hp
  have:=ih h2
  simp only [KM,FR,aR h1,FI,F5] at this ⊢
  rw [this]
  simp
theorem pz {t : TypeId} {ps : List (Nat × D)} {qs : List (Nat × Value)} {d : D} (hl : ps.length = qs.length)
  (hp : ∀ (j : Nat) (p : Nat × D) (q : Nat × Value),ps[j]? = some p → qs[j]? = some q → p.1 = q.1 ∧ Rel w (avs O l h) l h p.2 q.2) (hd : wv P t ps = some d) :
  ∃ v,(KN t qs.toArray).run P w = .ok v w ∧ Rel w (avs O l h) l h d v:=by
 unfold wv at hd
 cases hu : P.underlying t with
 | none=>simp [hu] at hd
 | some u =>
  cases hz : fA P t with
  | none=>cases u <;> simp [hu,hz] at hd
  | some z =>
   obtain ⟨zv,hzv,rfl⟩:=eA hz
   cases u <;> simp only [hu,hz,reduceCtorEq] at hd
   case struct fields =>
    cases hpl : tn P fields with
    | none=>simp [hpl] at hd
    | some pl =>
     simp only [hpl,FD] at hd
     obtain ⟨cs,h1,rfl⟩:=hd
     obtain ⟨vs',f1,f2,_⟩:=ga hl hp (RelL.lits zv.cells.toList) h1
     refine ⟨.agg vs',?_,by simp only [Rel]; exact ⟨_,rfl,f2⟩⟩
     have hm : (fields.mapM (fun f=>(do pure (f.offset,← sizeOf f.type) : Sem (Nat × Nat)))).run P w = .ok pl.toArray w:=by
      rw [← Array.toArray_toList (xs:=fields)]
      rw [List.mapM_toArray]
      simp only [Sem.run_map,uZ hpl w,FI]
     simp only [KN,FR,zeroV_run hzv,FI,und_run hu,hm]
     have : (fun (i : Nat)=>pl.toArray[i]?) = (fun (i : Nat)=>pl[i]?):=by funext i; simp
     rw [this,f1]
     simp
   case array n e =>
    cases hs : szOf P e with
    | none=>simp [hs] at hd
    | some sz =>
     simp only [hs,FD] at hd
     obtain ⟨cs,h1,rfl⟩:=hd
     obtain ⟨vs',f1,f2,_⟩:=ga hl hp (RelL.lits zv.cells.toList) h1
     refine ⟨.agg vs',?_,by simp only [Rel]; exact ⟨_,rfl,f2⟩⟩
     simp only [KN,FR,zeroV_run hzv,FI,und_run hu,aR hs,f1,F5]
theorem ky {z : Array Value} {sz : Nat} (hz : z.size = sz) : ∀ n,(List.range (n * sz)).map (fun i=>z[i % z.size]!) = (FX n z.toList).flatten
 | 0=>by simp
 | n + 1=>by
  rw [Nat.succ_mul,List.range_add,List.map_append,ky hz n,List.replicate_succ',Ii]
  congr 1
  rw [List.map_map]
  apply List.ext_getElem
  ·simp [hz]
  ·intro i h1 h2
   simp only [List.length_map,List.length_range] at h1
   have : (n * sz + i) % sz = i:=by rw [Nat.add_comm,Nat.add_mul_mod_self_right,Nat.mod_eq_of_lt h1]
   simp [hz,this,h1]
theorem relL_rep {z : List Value} : ∀ n,RelL w (avs O l h) l h (FX n (z.map lit)).flatten (FX n z).flatten
 | 0=>by simp [RelL]
 | n + 1=>by simp only [List.replicate_succ,List.flatten_cons]; exact (RelL.lits z).append (relL_rep n)
theorem pA {t e : TypeId} (hte : kq P t = some e) : P.underlying t = some (.slice e):=by
 unfold kq at hte
 cases hu : P.underlying t with
 | none=>simp [hu] at hte
 | some u=>cases u <;> simp_all
theorem iW (R : Rep Γ O w l h) {t : TypeId} {len : Nat} {ps : List (Nat × D)} {qs : List (Nat × Value)} {d : D} {h' : List Blk} (hl : ps.length = qs.length)
  (hp : ∀ (j : Nat) (p : Nat × D) (q : Nat × Value),ps[j]? = some p → qs[j]? = some q → p.1 = q.1 ∧ Rel w (avs O l h) l h p.2 q.2) (hd : dA P h t len ps = some (d,h')) :
  ∃ v w' l',(JH t len qs.toArray).run P w = .ok v w' ∧ Rep Γ O w' l' h' ∧ Ext w l h w' l' h' ∧ Rel w' (avs O l' h') l' h' d v:=by
 unfold dA at hd
 cases hte : kq P t with
 | none=>simp [hte] at hd
 | some e =>
  have ht:=pA hte
  cases hs : szOf P e with
  | none=>simp [hte,hs] at hd
  | some sz =>
   cases hz : fA P e with
   | none=>simp [hte,hs,hz] at hd
   | some z =>
    obtain ⟨zv,hzv,rfl⟩:=eA hz
    simp only [hte,hs,hz] at hd
    split at hd
    case isFalse=>simp at hd
    rename_i hc
    obtain ⟨g1,g2⟩:=hc
    have hzs : zv.cells.size = sz:=by simpa using g1
    cases hf : pm (fun i=>some (i * sz,sz)) (FX len (zv.cells.toList.map lit)).flatten ps with
    | none=>simp [hf] at hd
    | some cs =>
     simp only [hf,Fq,Fw] at hd
     obtain ⟨rfl,rfl⟩:=hd
     have hrep : RelL w (avs O l h) l h (FX len (zv.cells.toList.map lit)).flatten ((IB (len * sz)).map (fun i=>zv.cells[i % zv.cells.size]!)).toList:=by
      rw [J3,Lm,ky hzs]; exact relL_rep len
     obtain ⟨vs',f1,f2,f3⟩:=ga hl hp hrep hf
     have hvs : vs'.size = len * sz:=by rw [f3]; simp
     have hcl : cs.length = len * sz:=by rw [f2.length]; simp [hvs]
     obtain ⟨c1,c2,c3⟩:=gV (n:=sz) len cs (by rw [hcl,Nat.mul_comm]; exact FT _)
     rw [List.take_of_length_le (by rw [hcl,Nat.mul_comm]; exact FT _)] at c1
     obtain ⟨l',k7,k8,k9⟩:=iU R w ⟨rfl,rfl,rfl,rfl,FT _⟩ e vs' (chunk sz len cs) sz len vs'.toList [] (by simp) hvs (by omega) c2 (by rw [c1]; exact f2)
     refine ⟨.slice (some ⟨w.heap.size,0,none⟩) len len,_,l',?_,k7,k8,by rw [c3] at k9; exact k9⟩
     have hbig : ¬ (len * sz > 2 ^ 24):=by omega
     by_cases h0 : len * sz = 0
     ·have e0 : (IB (len * sz)).map (fun i=>zv.cells[i % zv.cells.size]!) = (IB (len * sz)).map (fun i=>(#[] : Array Value)[i % 0]!):=by rw [h0]; simp
      rw [e0] at f1
      simp only [JH,FR,und_run ht,FI,aR hs,Jm,h0,if_true,F5] at f1 ⊢
      simp only [List.size_toArray,Hf,f1,newRow,FR,run_newObj,FI,F5,I8]
      rw [if_neg (by omega)]
     ·simp only [JH,FR,und_run ht,FI,aR hs,Jm,hbig,if_false,h0,zeroV_run hzv,F5,f1,newRow,run_newObj,I8]
theorem rU (R : Rep Γ O w l h) {t : TypeId} {x y d : D} {a b : Value} {h' : List Blk} (rx : Rel w (avs O l h) l h x a) (ry : Rel w (avs O l h) l h y b) (hd : wy P h t x y = some (true,d,h')) :
  ∃ v w' l',(JW t a b).run P w = .ok v w' ∧ Rep Γ O w' l' h' ∧ Ext w l h w' l' h' ∧ Rel w' (avs O l' h') l' h' d v:=by
 unfold wy at hd
 cases hte : kq P t with
 | none=>simp [hte] at hd
 | some e =>
  have ht:=pA hte
  cases h1 : intOf? x with
  | none=>simp [hte,h1] at hd
  | some p1 =>
   cases h2 : intOf? y with
   | none=>simp [hte,h1,h2] at hd
   | some p2 =>
    obtain ⟨k1,n⟩:=p1
    obtain ⟨k2,c⟩:=p2
    obtain rfl:=bJ rx h1
    obtain rfl:=bJ ry h2
    simp only [hte,h1,h2] at hd
    cases hs : szOf P e with
    | none=>simp [hs] at hd
    | some sz =>
     cases hb : bytesOf P e with
     | none=>simp [hs,hb] at hd
     | some by' =>
      cases hz : fA P e with
      | none=>simp [hs,hb,hz] at hd
      | some z =>
       obtain ⟨zv,hzv,rfl⟩:=eA hz
       simp only [hs,hb,hz] at hd
       split at hd
       case isFalse=>simp at hd
       rename_i g1
       have hzs : zv.cells.size = sz:=by simpa using g1
       simp only [Fq,Fw,FB,decide_eq_true_eq] at hd
       obtain ⟨⟨⟨⟨q1,q2⟩,q3⟩,q4⟩,rfl,rfl⟩:=hd
       obtain ⟨i,hi,hib⟩:=kw hb
       have hwn : Fs.wrap n = n:=IntWalk.i64_in _ (by omega)
       have hwc : Fs.wrap c = c:=IntWalk.i64_in _ (by omega)
       obtain ⟨l',k7,k8,k9⟩:=iU R w ⟨rfl,rfl,rfl,rfl,FT _⟩ e ((IB (c.toNat * sz)).map (fun i=>zv.cells[i % zv.cells.size]!)) (FX n.toNat (zv.cells.toList.map lit)) sz c.toNat
        (FX n.toNat zv.cells.toList).flatten (FX (c.toNat - n.toNat) zv.cells.toList).flatten
        (by rw [J3,Lm,ky hzs,← Ii,List.replicate_append_replicate]; congr 2; omega) (by simp) (by simp; omega)
        (by intro r hr; rw [List.eq_of_mem_replicate hr]; simp [hzs]) (relL_rep _)
       refine ⟨.slice (some ⟨w.heap.size,0,none⟩) n.toNat c.toNat,_,l',?_,k7,k8,by simpa using k9⟩
       have hti : (typeInfo e).run P w = .ok i w:=by simp [typeInfo,hi]
       have t1 : ¬ (c < 0 ∨ 281474976710656 < (i.bytes : Int) * c):=by
        rw [hib]; rw [Int.mul_comm] at q3; omega
       have e0 : c.toNat * sz = 0 → (IB (c.toNat * sz)).map (fun i=>zv.cells[i % zv.cells.size]!) = (IB (c.toNat * sz)).map (fun i=>(#[] : Array Value)[i % 0]!):=fun h0=>by rw [h0]; simp
       by_cases h0 : c.toNat * sz = 0
       ·rw [e0 h0]
        simp [JW,und_run ht,asInt,asIntOf,hti,hwn,hwc,q1,I3.2 q1,I3.2 q2,aR hs,h0,newRow]
        exact fun hh=>absurd hh t1
       ·simp [JW,und_run ht,asInt,asIntOf,hti,hwn,hwc,q1,I3.2 q1,I3.2 q2,aR hs,h0,newRow,zeroV_run hzv]
        exact fun hh=>absurd hh t1
end
section
variable {P : Program} {Γ : ap} {O : Nat → Prop} {w : World} {l : Loc} {h : List Blk}
def pi (M : Option Int) (c : Nat) : Nat:=match M with | none=>c | some m=>m.toNat
@[simp] theorem pB (c : Nat) : pi none c = c := rfl
@[simp] theorem dD (m : Int) (c : Nat) : pi (some m) c = m.toNat := rfl
def ka (w : World) (av : Nat → Prop) (l : Loc) (h : List Blk) : Option D → Option Value → Prop
 | none,none=>True
 | some d,some v=>Rel w av l h d v
 | _,_=>False
theorem bound_run {lo : Option D} {v : Option Value} {L : Int} {dflt : Int} (r : ka w (avs O l h) l h lo v) (hb : cy lo dflt = some L) :
  (v = none ∧ lo = none ∧ L = dflt) ∨ ∃ k,v = some (.int k L):=by
 cases lo with
 | none =>
  cases v with
  | none=>simp only [cy,Fq] at hb; exact .inl ⟨rfl,rfl,hb.symm⟩
  | some x=>simp [ka] at r
 | some d =>
  cases v with
  | none=>simp [ka] at r
  | some x =>
   simp only [cy,FD] at hb
   obtain ⟨⟨k,m⟩,h1,h2⟩:=hb
   simp only at h2
   subst h2
   exact .inr ⟨k,by rw [bJ r h1]⟩
theorem dE {b : Bool} {n c : Nat} {lo hi mx : Option D} {vl vh vm : Option Value} {L U : Int} {M : Option Int}
  (rl : ka w (avs O l h) l h lo vl) (rh : ka w (avs O l h) l h hi vh) (rm : ka w (avs O l h) l h mx vm)
  (hl : cy lo 0 = some L) (hu : cy hi n = some U) (hm : Ah mx = some M) (ok : pv L U n = true) (ok2 : gU U n M = true) (ok3 : (M.isNone || hi.isSome) = true) (hnc : n ≤ c) :
  (Hp b n c vl vh vm).run P w = .ok (L.toNat,U.toNat,(pi M c)) w:=by
 simp only [pv,FB,decide_eq_true_eq] at ok
 obtain ⟨⟨o1,o2⟩,o3⟩:=ok
 have hlow : ∀ code (y : Nat),U ≤ y → (match vl with | some v=>IH v U.toNat code | none=>pure 0 : Sem Nat).run P w = .ok L.toNat w:=by
  intro code y _
  rcases bound_run rl hl with ⟨rfl,_,rfl⟩ | ⟨k,rfl⟩
  ·simp
  ·exact run_sliceBound w k L U.toNat code o1 (by omega)
 cases mx with
 | none =>
  cases vm with
  | some x=>simp [ka] at rm
  | none =>
   simp only [Ah,Fq] at hm
   subst hm
   rcases bound_run rh hu with ⟨rfl,_,rfl⟩ | ⟨k,rfl⟩
   ·rcases bound_run rl hl with ⟨rfl,_,rfl⟩ | ⟨k2,rfl⟩
    ·simp [Hp]
    ·simp [Hp,run_sliceBound w k2 L n _ o1 (by omega)]
   ·have hU : ∀ code,(IH (.int k U) c code).run P w = .ok U.toNat w:=fun code=>run_sliceBound w k U c code (by omega) (by omega)
    rcases bound_run rl hl with ⟨rfl,_,rfl⟩ | ⟨k2,rfl⟩
    ·simp [Hp,hU]
    ·simp [Hp,hU,run_sliceBound w k2 L U.toNat _ o1 (by omega)]
 | some m =>
  cases vm with
  | none=>simp [ka] at rm
  | some x =>
   simp only [Ah,FD] at hm
   obtain ⟨⟨km,mv⟩,h1,rfl⟩:=hm
   have hx:=bJ rm h1
   subst hx
   simp only [gU,FB,decide_eq_true_eq] at ok2
   have hM : ∀ code,(IH (.int km mv) c code).run P w = .ok mv.toNat w:=fun code=>run_sliceBound w km mv c code (by omega) (by omega)
   rcases bound_run rh hu with ⟨rfl,hi0,_⟩ | ⟨k,rfl⟩
   ·subst hi0; simp at ok3
   ·have hU : ∀ code,(IH (.int k U) mv.toNat code).run P w = .ok U.toNat w:=fun code=>run_sliceBound w k U _ code (by omega) (by omega)
    rcases bound_run rl hl with ⟨rfl,_,rfl⟩ | ⟨k2,rfl⟩
    ·simp [Hp,hM,hU]
    ·simp [Hp,hM,hU,run_sliceBound w k2 L U.toNat _ o1 (by omega)]
theorem RelRows.drop {av : Nat → Prop} {blk sz : Nat} : ∀ {es : List (List Dp)} {off : Nat} (n : Nat),RelRows w av blk sz off es → RelRows w av blk sz (off + n * sz) (es.drop n)
 | [],_,n,_=>by simp [RelRows]
 | e :: es,off,0,r=>by simpa using r
 | e :: es,off,n + 1,r=>by
  simp only [RelRows] at r
  rw [List.drop_succ_cons,show off + (n + 1) * sz = off + sz + n * sz by rw [Nat.succ_mul]; omega]
  exact RelRows.drop n r.2.2
theorem RelRows.take {av : Nat → Prop} {blk sz : Nat} : ∀ {es : List (List Dp)} {off : Nat} (n : Nat),RelRows w av blk sz off es → RelRows w av blk sz off (es.take n)
 | [],_,n,_=>by simp [RelRows]
 | e :: es,off,0,r=>by simp [RelRows]
 | e :: es,off,n + 1,r=>by
  simp only [RelRows,List.take_succ_cons] at r ⊢
  exact ⟨r.1,r.2.1,RelRows.take n r.2.2⟩
theorem wD {t e : TypeId} {sz n c : Nat} {base : Option Addr} {lo hi mx : Option D} {vl vh vm : Option Value} {L U : Int} {M : Option Int} (ht : P.underlying t = some (.slice e)) (hs : szOf P e = some sz)
  (rl : ka w (avs O l h) l h lo vl) (rh : ka w (avs O l h) l h hi vh) (rm : ka w (avs O l h) l h mx vm)
  (hl : cy lo 0 = some L) (hu : cy hi n = some U) (hm : Ah mx = some M) (ok : pv L U n = true) (ok2 : gU U n M = true) (ok3 : (M.isNone || hi.isSome) = true) (hnc : n ≤ c) :
  (HQ t (.slice base n c) vl vh vm).run P w = .ok (.slice (if (pi M c) = L.toNat then base else base.map (·.add (L.toNat * sz))) (U.toNat - L.toNat) ((pi M c) - L.toNat)) w:=by
 simp only [HQ,FR,und_run ht,FI,KO,dE (P:=P) (b:=true) rl rh rm hl hu hm ok ok2 ok3 hnc,aR hs,F5]
theorem tB {es : List (List Dp)} {blk off sz sz0 : Nat} {L U : Nat} (rr : RelRows w (avs O l h) blk sz0 off es) (hall : es.all (fun r=>decide (r.length = sz)) = true) (h1 : L ≤ U) (h2 : U ≤ es.length) (m : Nat) (hm : U ≤ m) :
  Rel w (avs O l h) l h (.p (.sl ((es.drop L).take (U - L)))) (.slice (if m = L then some ⟨blk,off,none⟩ else (some (⟨blk,off,none⟩ : Addr)).map (·.add (L * sz))) (U - L) (m - L)) ∧
  (m = U → Rel w (avs O l h) l h (.csl ((es.drop L).take (U - L))) (.slice (if m = L then some ⟨blk,off,none⟩ else (some (⟨blk,off,none⟩ : Addr)).map (·.add (L * sz))) (U - L) (m - L))):=by
 have hlen : ((es.drop L).take (U - L)).length = U - L:=by simp; omega
 have hrows : es ≠ [] → sz0 = sz:=by
  intro hne
  cases es with
  | nil=>exact absurd rfl hne
  | cons e0 es0 =>
   simp only [RelRows] at rr
   simp only [List.all_cons,FB,decide_eq_true_eq] at hall
   rw [← rr.1,hall.1]
 by_cases hmL : m = L
 ·have : U = L:=by omega
  subst this
  simp only [hmL,if_true,Nat.sub_self,List.take_zero]
  refine ⟨?_,fun _=>?_⟩
  ·simp only [Rel,RelP]; exact .inr ⟨blk,off,0,sz,rfl,FT _,by simp [RelRows]⟩
  ·simp only [Rel]; exact .inr ⟨blk,off,sz,rfl,by simp [RelRows]⟩
 ·simp only [hmL,if_false,Gb,cN]
  have hr2 : RelRows w (avs O l h) blk sz (off + L * sz) ((es.drop L).take (U - L)):=by
   by_cases hne : es = []
   ·subst hne; simp [RelRows]
   ·have:=hrows hne; subst this
    exact (rr.drop L).take _
  refine ⟨?_,fun hmu=>?_⟩
  ·simp only [Rel,RelP]
   exact .inr ⟨blk,off + L * sz,m - L,sz,by rw [hlen],by rw [hlen]; omega,hr2⟩
  ·subst hmu
   simp only [Rel]
   exact .inr ⟨blk,off + L * sz,sz,by rw [hlen],hr2⟩
theorem u0 {U : Int} {M : Option Int} (hc : cb U M = true) : M = some U:=by
 cases M with
 | none=>simp [cb] at hc
 | some m=>simp only [cb,decide_eq_true_eq] at hc; rw [hc]
theorem kz {L U : Int} {n : Nat} (ok : pv L U n = true) : 0 ≤ L ∧ L ≤ U ∧ U ≤ n ∧ L.toNat ≤ U.toNat ∧ U.toNat ≤ n:=by
 simp only [pv,FB,decide_eq_true_eq] at ok
 omega
theorem nU {av : Nat → Prop} {x : Option Addr} {m : Nat} (cl : Bool) (hcl : cl = true → m = 0) (hx : x = none → m = 0) :
  Rel w av l h (dB cl []) (.slice x 0 m):=by
 cases cl
 ·simp only [dB,Gi,if_false,Rel,RelP]
  exact .inl ⟨trivial,x,m,rfl,hx⟩
 ·have:=hcl rfl; subst this
  simp only [dB,if_true,Rel]
  exact .inl ⟨trivial,x,rfl⟩
theorem cV {av : Nat → Prop} {x : Option Addr} {m : Nat} (cl : Bool) (hcl : cl = true → m = 0) (hx : x = none → m = 0) (_hsp : ∀ a,x = some a → a.spot = none) :
  Rel w av l h (dB cl []) (.slice x 0 m):=nU cl hcl hx
theorem CJ {c : Nat} {M : Option Int} {U : Int} (ok2 : gU U 0 M = true) {a : Option Addr} {f : Addr → Addr} (ha : a = none → c = 0) (hx : (if pi M c = 0 then a else a.map f) = none) : pi M c = 0:=by
 split at hx
 ·assumption
 ·have hn : a = none:=by cases a <;> simp_all
  have:=ha hn
  subst this
  cases M with
  | none=>rfl
  | some m=>simp only [gU,FB,decide_eq_true_eq] at ok2; simp only [dD]; omega
theorem capOf {c U L n : Nat} {M : Option Int} {Ui : Int} (hU : Ui.toNat = U) (ok2 : gU Ui n M = true) (h1 : L ≤ U) (h2 : U ≤ n) (hnc : n ≤ c) :
  L ≤ (pi M c) ∧ U ≤ (pi M c) ∧ (cb Ui M = true → (pi M c) = U):=by
 cases M with
 | none=>simp [cb]; omega
 | some m =>
  simp only [gU,FB,decide_eq_true_eq] at ok2
  refine ⟨by simp only [dD]; omega,by simp only [dD]; omega,fun hc=>?_⟩
  have:=u0 hc
  simp only [Fq] at this
  simp only [this,dD,hU]
theorem mc (R : Rep Γ O w l h) {t e : TypeId} {x d : D} {y : Value} {sz n : Nat} {L U : Int} {lo hi mx : Option D} {vl vh vm : Option Value} {M : Option Int} (rx : Rel w (avs O l h) l h x y)
  (ht : P.underlying t = some (.slice e)) (hs : szOf P e = some sz) (hn : lenD h x = some n)
  (rl : ka w (avs O l h) l h lo vl) (rh : ka w (avs O l h) l h hi vh) (rm : ka w (avs O l h) l h mx vm)
  (hl : cy lo 0 = some L) (hu : cy hi n = some U) (hm : Ah mx = some M) (ok : pv L U n = true) (ok2 : gU U n M = true) (ok3 : (M.isNone || hi.isSome) = true)
  (hd : sliceRow h x sz n L U M = some (true,d)) : ∃ v,(HQ t y vl vh vm).run P w = .ok v w ∧ Rel w (avs O l h) l h d v:=by
 obtain ⟨o1,o2,o3,o4,o5⟩:=kz ok
 have run : ∀ (base : Option Addr) (c : Nat),n ≤ c → (HQ t (.slice base n c) vl vh vm).run P w = .ok (.slice (if (pi M c) = L.toNat then base else base.map (·.add (L.toNat * sz))) (U.toNat - L.toNat) ((pi M c) - L.toNat)) w :=
  fun base c hnc=>wD ht hs rl rh rm hl hu hm ok ok2 ok3 hnc
 have cap : ∀ c,n ≤ c → _:=fun c hnc=>capOf (c:=c) (L:=L.toNat) (n:=n) (M:=M) (Ui:=U) rfl ok2 o4 o5 hnc
 cases x with
 | p dp =>
  cases dp with
  | v x =>
   obtain rfl:=aq rx
   cases y <;> simp [sliceRow] at hd
   case slice a m c =>
    cases a <;> cases m <;> cases c <;> simp at hd
    subst hd
    simp only [lenD,Fq] at hn
    subst hn
    obtain ⟨c1,c2,c3⟩:=cap 0 (FT _)
    refine ⟨_,run none 0 (FT _),?_⟩
    have hU : U.toNat = 0:=by omega
    have hL : L.toNat = 0:=by omega
    have hm0 : (pi M 0) = 0:=by
     cases M with
     | none=>rfl
     | some m=>simp only [gU,FB,decide_eq_true_eq] at ok2; simp only [dD]; omega
    rw [hm0,hU,hL]
    exact rel_lit _ _ _ _ _
  | sl es =>
   simp only [sliceRow,Fq,Fw] at hd
   obtain ⟨hall,rfl⟩:=hd
   simp only [lenD,Fq] at hn
   subst hn
   simp only [Rel,RelP] at rx
   rcases rx with ⟨rfl,a0,c0,rfl,ha0⟩ | ⟨blk,off,c,sz0,rfl,hc,rr⟩
   ·obtain ⟨c1,c2,c3⟩:=cap c0 (Nat.zero_le _)
    refine ⟨_,run a0 c0 (Nat.zero_le _),?_⟩
    have hU : U.toNat = 0:=by simp at o5; omega
    have hL : L.toNat = 0:=by omega
    simp only [hU,hL,Nat.sub_self,II,List.drop_nil,List.take_nil] at c3 ⊢
    exact nU _ (fun hcl=>c3 hcl) (CJ (by simpa using ok2) ha0)
   ·obtain ⟨c1,c2,c3⟩:=cap c hc
    refine ⟨_,run _ c hc,?_⟩
    obtain ⟨p1,p2⟩:=tB (l:=l) (h:=h) (O:=O) rr hall o4 o5 _ c2
    unfold dB
    split
    ·rename_i hcl; exact p2 (c3 hcl)
    ·exact p1
 | csl es =>
  simp only [sliceRow,Fq,Fw] at hd
  obtain ⟨hall,rfl⟩:=hd
  simp only [lenD,Fq] at hn
  subst hn
  simp only [Rel] at rx
  rcases rx with ⟨rfl,a0,rfl⟩ | ⟨blk,off,sz0,rfl,rr⟩
  ·obtain ⟨c1,c2,c3⟩:=cap 0 (FT _)
   refine ⟨_,run a0 0 (FT _),?_⟩
   have hU : U.toNat = 0:=by simp at o5; omega
   have hL : L.toNat = 0:=by omega
   have hm0 : (pi M 0) = 0:=by
    cases M with
    | none=>rfl
    | some m=>simp only [gU,FB,decide_eq_true_eq,Hf] at ok2; simp only [dD]; omega
   rw [hm0,hU,hL]
   simp only [List.drop_nil,List.take_nil,if_true]
   exact nU _ (fun _=>rfl) (fun _=>rfl)
  ·obtain ⟨c1,c2,c3⟩:=cap es.length (FT _)
   refine ⟨_,run _ es.length (FT _),?_⟩
   obtain ⟨p1,p2⟩:=tB (l:=l) (h:=h) (O:=O) rr hall o4 o5 _ c2
   unfold dB
   split
   ·rename_i hcl
    simp only [G4,FB,J4,decide_eq_true_eq] at hcl
    rcases hcl with hcl | ⟨rfl,hcl⟩
    ·exact p2 (c3 hcl)
    ·exact p2 (by simp only [pB]; omega)
   ·exact p1
 | ref r =>
  have rx':=rx
  obtain ⟨g1,hr⟩:=rx
  cases r with
  | vec b e' =>
   simp only [sliceRow,lenD] at hd hr hn
   cases hb : h[b]? with
   | none=>simp [hb] at hd
   | some bx =>
    cases bx <;> simp only [hb,reduceCtorEq] at hd hr hn
    rename_i es e2 sz'
    split at hd
    case isFalse=>simp at hd
    rename_i he
    obtain ⟨rfl,rfl⟩:=he
    simp only [if_true,Fq] at hn
    subst hn
    simp only [Fq,Fw,true_and] at hd
    subst hd
    have hv:=hr.2 rfl
    cases hlb : l b with
    | none =>
     have hok:=R.blk b _ hb
     simp only [hlb,l4,BlkOk] at hv hok
     obtain ⟨_,rfl⟩:=hv
     subst hok
     obtain ⟨c1,c2,c3⟩:=cap 0 (FT _)
     refine ⟨_,run none 0 (FT _),?_⟩
     have hU : U.toNat = 0:=by simp at o5; omega
     have hL : L.toNat = 0:=by omega
     have hm0 : (pi M 0) = 0:=by
      cases M with
      | none=>rfl
      | some m=>simp only [gU,FB,decide_eq_true_eq,Hf] at ok2; simp only [dD]; omega
     rw [hm0,hU,hL]
     split
     ·exact rx'
     ·rw [if_pos (by omega)]
      exact cV _ (fun _=>rfl) (fun _=>rfl) (fun a ha=>by simp at ha)
    | some pr =>
     obtain ⟨blk,c⟩:=pr
     simp only [hlb,l4] at hv
     obtain ⟨rfl,hc⟩:=hv
     obtain ⟨c1,c2,c3⟩:=cap c hc
     refine ⟨_,run _ c hc,?_⟩
     split
     ·rename_i h3
      obtain ⟨rfl,h4,rfl⟩:=h3
      have e1 : U.toNat - (0 : Int).toNat = es.length:=by omega
      rw [e1]
      simp only [Int.toNat_zero,Nat.zero_mul,cN,Gb,II,Nat.add_zero,ite_self]
      exact rx'
     ·split
      ·rename_i h4
       have e1 : U.toNat - L.toNat = 0:=by omega
       rw [e1]
       refine cV _ (fun hcl=>by rw [c3 hcl]; omega) (fun hx=>?_) (fun a ha=>?_)
       ·split at hx <;> simp at hx
       ·split at ha <;> simp at ha <;> subst ha <;> rfl
      ·rename_i h4
       have hmL : ¬ (pi M c) = L.toNat:=by omega
       simp only [hmL,if_false,Gb,cN,Nat.zero_add]
       simp only [Rel,RefRel,hb]
       exact ⟨rfl,FT _,fun _=>⟨by omega,blk,c,_,hlb,rfl,by omega,fun hcl=>by rw [c3 hcl]⟩⟩
  | vs b e' i m cl =>
   simp only [sliceRow,lenD] at hd hr hn
   cases hb : h[b]? with
   | none=>simp [hb] at hd
   | some bx =>
    cases bx <;> simp only [hb,reduceCtorEq] at hd hr hn
    rename_i es e2 sz'
    split at hd
    case isFalse=>simp at hd
    rename_i he
    obtain ⟨rfl,rfl⟩:=he
    simp only [if_true,Fq] at hn
    subst hn
    simp only [Fq,Fw,true_and] at hd
    subst hd
    obtain ⟨hin,blk,cp,c,hlb,rfl,hc,hclip⟩:=hr.2 rfl
    obtain ⟨c1,c2,c3⟩:=cap c hc
    refine ⟨_,run _ c hc,?_⟩
    split
    ·rename_i h4
     have e1 : U.toNat - L.toNat = 0:=by omega
     rw [e1]
     refine cV _ (fun hcl=>by rw [c3 hcl]; omega) (fun hx=>?_) (fun a ha=>?_)
     ·split at hx <;> simp at hx
     ·split at ha <;> simp at ha <;> subst ha <;> rfl
    ·rename_i h4
     have hmL : ¬ (pi M c) = L.toNat:=by omega
     simp only [hmL,if_false,Gb,cN]
     simp only [Rel,RefRel,hb]
     refine ⟨rfl,FT _,fun _=>⟨by omega,blk,cp,_,hlb,by rw [H9],by omega,fun hcl=>?_⟩⟩
     simp only [G4,FB,J4,decide_eq_true_eq] at hcl
     rcases hcl with hcl | ⟨⟨hc1,rfl⟩,hc3⟩
     ·rw [c3 hcl]
     ·have:=hclip hc1; simp only [pB]; omega
  | av b off m sz' =>
   simp only [sliceRow,lenD] at hd hr hn
   cases hb : h[b]? with
   | none=>simp [hb] at hd
   | some bx =>
    cases bx <;> simp only [hb,reduceCtorEq,Fq] at hd hr hn
    subst hn
    split at hd
    case isFalse=>simp at hd
    rename_i he
    subst he
    simp only [Fq,Fw,true_and] at hd
    subst hd
    obtain ⟨blk,cp,c,hlb,rfl,hc⟩:=hr
    obtain ⟨c1,c2,c3⟩:=cap c hc
    refine ⟨_,run _ c hc,?_⟩
    split
    ·rename_i h4
     have e1 : U.toNat - L.toNat = 0:=by omega
     rw [e1]
     refine cV _ (fun hcl=>by rw [c3 hcl]; omega) (fun hx=>?_) (fun a ha=>?_)
     ·split at hx <;> simp at hx
     ·split at ha <;> simp at ha <;> subst ha <;> rfl
    ·rename_i h4
     have hmL : ¬ (pi M c) = L.toNat:=by omega
     simp only [hmL,if_false,Gb,cN]
     simp only [Rel,RefRel,hb]
     exact ⟨rfl,blk,cp,_,hlb,rfl,by omega⟩
  | _=>simp [sliceRow] at hd
 | _=>simp [sliceRow] at hd
theorem gu {len : Nat} {e : TypeId} {x d : D} {y : Value} {L : Int} {lo hi mx : Option D} {vl vh vm : Option Value} {M : Option Int} (rx : Rel w (avs O l h) l h x y)
  (rl : ka w (avs O l h) l h lo vl) (rh : ka w (avs O l h) l h hi vh) (rm : ka w (avs O l h) l h mx vm) (hl : cy lo 0 = some L) (hm : Ah mx = some M)
  (hd : f9 P h len e x L hi M = some (true,d)) : ∃ a : Addr,y = .pointer (some a) ∧ ∃ sz lN hN,szOf P e = some sz ∧ (Hp false len len vl vh vm).run P w = .ok (lN,hN,len) w ∧
   Rel w (avs O l h) l h d (.slice (some (if len = lN then a else a.add (lN * sz))) (hN - lN) (len - lN)):=by
 unfold f9 at hd
 split at hd
 case h_2=>simp at hd
 rename_i b off
 obtain ⟨g1,hr⟩:=rx
 cases hs : szOf P e with
 | none=>simp [hs] at hd
 | some sz =>
  cases hu : cy hi len with
  | none=>simp [hs,hu] at hd
  | some U =>
   cases hb : h[b]? with
   | none=>simp [hs,hu,hb] at hd
   | some bx =>
    cases bx <;> simp only [hs,hu,hb,reduceCtorEq] at hd hr
    cases M with
    | some m=>simp at hd
    | none =>
     simp only [Fq,Fw] at hd
     obtain ⟨ok,rfl⟩:=hd
     obtain ⟨blk,cp,hlb,rfl⟩:=hr
     obtain ⟨o1,o2,o3,o4,o5⟩:=kz ok
     refine ⟨_,rfl,sz,L.toNat,U.toNat,rfl,dE (P:=P) (b:=false) (M:=none) rl rh rm hl hu hm ok (by simp [gU]) (by simp) (FT _),?_⟩
     split
     ·rename_i h4
      have e1 : U.toNat - L.toNat = 0:=by omega
      rw [e1]
      exact cV (l:=l) (h:=h) false (fun hcl=>by simp at hcl) (fun hx=>by simp at hx) (fun a ha=>by split at ha <;> simp at ha <;> subst ha <;> rfl)
     ·rename_i h4
      have hmL : ¬ len = L.toNat:=by omega
      simp only [hmL,if_false,cN]
      simp only [Rel,RefRel,hb]
      exact ⟨rfl,blk,cp,_,hlb,rfl,by omega⟩
theorem pC (R : Rep Γ O w l h) {t : TypeId} {x d : D} {y : Value} {lo hi mx : Option D} {vl vh vm : Option Value} (rx : Rel w (avs O l h) l h x y)
  (rl : ka w (avs O l h) l h lo vl) (rh : ka w (avs O l h) l h hi vh) (rm : ka w (avs O l h) l h mx vm) (hd : pw P h t x lo hi mx = some (true,d)) :
  ∃ v,(HQ t y vl vh vm).run P w = .ok v w ∧ Rel w (avs O l h) l h d v:=by
 unfold pw at hd
 cases hL : cy lo 0 with
 | none=>simp [hL] at hd
 | some L =>
  cases hM : Ah mx with
  | none=>simp [hL,hM] at hd
  | some M =>
   simp only [hL,hM] at hd
   cases hu : P.underlying t with
   | none=>simp [hu] at hd
   | some u =>
    cases u <;> simp only [hu,reduceCtorEq] at hd
    case string =>
     unfold tz at hd
     split at hd
     ·rename_i s
      obtain rfl:=aq rx
      cases hU : cy hi s.size with
      | none=>simp [hU] at hd
      | some U =>
       cases M with
       | some m=>simp [hU] at hd
       | none =>
        simp only [hU,Fq,Fw] at hd
        obtain ⟨ok,rfl⟩:=hd
        cases mx with
        | some m0=>simp only [Ah,FD] at hM; obtain ⟨_,_,h2⟩:=hM; simp at h2
        | none =>
         cases vm with
         | some x=>simp [ka] at rm
         | none =>
          refine ⟨_,?_,rel_lit _ _ _ _ _⟩
          have:=dE (P:=P) (b:=false) (mx:=none) rl rh rm hL hU rfl ok (by simp [gU]) (by simp) (FT _)
          simp [HQ,und_run hu,KO,this]
     ·simp at hd
    case slice e =>
     cases hs : szOf P e with
     | none=>simp [hs] at hd
     | some sz =>
      cases hn : lenD h x with
      | none=>simp [hs,hn] at hd
      | some n =>
       simp only [hs,hn] at hd
       cases hU : cy hi n with
       | none=>simp [hU] at hd
       | some U =>
        simp only [hU,FD,Fw,FB] at hd
        obtain ⟨⟨r1,r2⟩,h1,⟨⟨⟨ok,ok2⟩,ok3⟩,h3⟩,h4⟩:=hd
        simp only at h3 h4
        subst h3; subst h4
        exact mc R rx hu hs hn rl rh rm hL hU hM ok ok2 ok3 h1
    case array len e =>
     obtain ⟨a,rfl,sz,lN,hN,hs,hb,hr⟩:=gu (P:=P) rx rl rh rm hL hM hd
     refine ⟨_,?_,hr⟩
     simp [HQ,und_run hu,Instr.sureAddr,hb,aR hs]
    case pointer arr =>
     cases hu2 : P.underlying arr with
     | none=>simp [hu2] at hd
     | some u2 =>
      cases u2 <;> simp only [hu2,reduceCtorEq] at hd
      case array len e =>
       obtain ⟨a,rfl,sz,lN,hN,hs,hb,hr⟩:=gu (P:=P) rx rl rh rm hL hM hd
       refine ⟨_,?_,hr⟩
       simp [HQ,und_run hu,und_run hu2,KO,asAddr,hb,aR hs]
end
section
variable {P : Program} {Γ : ap} {O : Nat → Prop} {w : World} {l : Loc} {h : List Blk}
theorem wE (a b : ByteArray) : (a == b) = eqS a b:=by
 have : (a == b) = (a.data == b.data):=rfl
 rw [this,HB]
 simp only [eqS,beq_iff_eq,Array.toList_inj]
theorem checkKey_run {kt : TypeId} {k : D} {v : Value} (hk : c8 P kt k = true) (rk : Rel w (avs O l h) l h k v) (b : Bool) (w' : World) : (Instr.checkKey b 10000 kt v).run P w' = .ok () w':=by
 rw [show (10000 : Nat) = 9999 + 1 from rfl,Instr.checkKey]
 unfold c8 at hk
 split at hk <;> first | (rename_i h1; obtain rfl:=aq rk; simp [und_run h1]) | simp at hk
theorem iX {kt : TypeId} {k : D} {v : Value} {u : TypeDesc} (hu : P.underlying kt = some u) (hk : c8 P kt k = true) (rk : Rel w (avs O l h) l h k v) :
  ∀ {kvs : List (D × D × Nat)} {es : List MapEntry} (i : Nat) {r : Option (Nat × D)},RelKV w (avs O l h) l h kvs es → dC k kvs i = some r →
   ∃ r',Kg u v es i = some r' ∧ (match r,r' with
    | none,none=>True
    | some (j,d),some (j',y)=>j' = j ∧ Rel w (avs O l h) l h d y
    | _,_=>False)
 | [],[],i,r,_,hf=>by simp only [dC,Fq] at hf; subst hf; exact ⟨none,rfl,trivial⟩
 | (k',d,n) :: kvs,e :: es,i,r,rel,hf=>by
  simp only [RelKV] at rel
  simp only [dC] at hf
  have hsame : ∀ b,j1 k k' = some b → Jt u v e.key = some b:=by
   intro b hb
   unfold c8 at hk
   rw [hu] at hk
   unfold j1 at hb
   split at hb
   ·rename_i k1 a k2 c
    obtain rfl:=aq rk
    have h2:=aq rel.1
    cases u <;> simp at hk
    rw [h2]; simpa [Jt] using hb
   ·rename_i a c
    obtain rfl:=aq rk
    have h2:=aq rel.1
    cases u <;> simp at hk
    rw [h2]; simp only [Jt,wE]; exact hb
   ·rename_i a c
    obtain rfl:=aq rk
    have h2:=aq rel.1
    cases u <;> simp at hk
    rw [h2]; simpa [Jt] using hb
   ·simp at hb
  cases hq : j1 k k' with
  | none=>simp [hq] at hf
  | some b =>
   have hs:=hsame b hq
   cases b with
   | true =>
    simp only [hq,Fq] at hf
    subst hf
    exact ⟨some (i,e.val),by simp [Kg,hs],rfl,rel.2.1⟩
   | false =>
    simp only [hq] at hf
    obtain ⟨r',h1,h2⟩:=iX hu hk rk (i + 1) rel.2.2.2 hf
    exact ⟨r',by simp [Kg,hs,h1],h2⟩
 | [],_ :: _,_,_,rel,_=>by simp [RelKV] at rel
 | _ :: _,[],_,_,rel,_=>by simp [RelKV] at rel
theorem kA {kt : TypeId} {k : D} (hk : c8 P kt k = true) : ∃ u,P.underlying kt = some u:=by
 unfold c8 at hk
 cases hu : P.underlying kt with
 | none=>simp [hu] at hk
 | some u=>exact ⟨u,rfl⟩
theorem bC {r : Nat} {o : Obj} (ho : w.heap[r]? = some o) (hc : ∀ c T fr,o ≠ .cells c T fr) : (getObj r).run P w = .ok o w:=by
 unfold getObj
 cases o <;> simp [Sem.run,ho]
 exact absurd rfl (hc _ _ _)
theorem nV (R : Rep Γ O w l h) {t : TypeId} {x k d : D} {y v : Value} {ok : Bool} (rx : Rel w (avs O l h) l h x y) (rk : Rel w (avs O l h) l h k v) (hd : aA P h t x k ok = some d) :
  ∃ z,(IW t y v ok).run P w = .ok z w ∧ Rel w (avs O l h) l h d z:=by
 unfold aA at hd
 cases hu : P.underlying t with
 | none=>simp [hu] at hd
 | some u =>
  cases hm : nR h x with
  | none=>cases u <;> simp [hu,hm] at hd
  | some kvs =>
   cases u <;> simp only [hu,hm,reduceCtorEq] at hd
   rename_i kt et
   split at hd
   case isFalse=>simp at hd
   rename_i hk
   obtain ⟨uk,huk⟩:=kA hk
   have fin : ∀ (es : List MapEntry),RelKV w (avs O l h) l h kvs es → ∃ z r',(ID kt v es).run P w = .ok r' w ∧ (match r' with | some (_,v)=>pure (v,true) | none=>do pure (← zeroValue et,false) : Sem (Value × Bool)).run P w = .ok z w ∧
     Rel w (avs O l h) l h d (if ok then .tuple #[z.1,.bool z.2] else z.1):=by
    intro es hrel
    cases hf : dC k kvs 0 with
    | none=>simp [hf] at hd
    | some r =>
     obtain ⟨r',hn,hm2⟩:=iX huk hk rk 0 hrel hf
     have hkey : (ID kt v es).run P w = .ok r' w:=by
      simp only [ID,FR,und_run huk,FI,hn,F5]
     cases hz : jX P et with
     | none=>rcases r with _ | ⟨i,d0⟩ <;> simp [hf,hz] at hd
     | some z =>
      rcases r with _ | ⟨i,d0⟩
      ·simp only [hf,hz,Fq] at hd
       rcases r' with _ | ⟨j,y0⟩
       ·refine ⟨(z,false),_,hkey,by simp [zeroV_run hz],?_⟩
        subst hd
        cases ok
        ·exact iR _ _ _ _ z
        ·simp only [if_true,Rel]
         exact ⟨_,rfl,iR _ _ _ _ z,rel_lit _ _ _ _ _,trivial⟩
       ·simp at hm2
      ·simp only [hf,hz,Fq] at hd
       rcases r' with _ | ⟨j,y0⟩
       ·simp at hm2
       ·simp only at hm2
        refine ⟨(y0,true),_,hkey,by simp,?_⟩
        subst hd
        cases ok
        ·exact hm2.2
        ·simp only [if_true,Rel]
         exact ⟨_,rfl,hm2.2,rel_lit _ _ _ _ _,trivial⟩
   unfold nR at hm
   split at hm
   ·cases hm
    obtain rfl:=aq rx
    obtain ⟨z,r',h1,h2,h3⟩:=fin [] (by simp [RelKV])
    refine ⟨_,?_,h3⟩
    cases hzr : (zeroValue et).run P w with
    | halt a b=>rcases r' with _ | ⟨j,y0⟩ <;> simp [hzr] at h2 <;> subst h2 <;> simp only [IW,FR,und_run hu,FI,F5,checkKey_run hk rk,h1]
    | ok a b=>rcases r' with _ | ⟨j,y0⟩ <;> simp [hzr] at h2 <;> (try obtain ⟨rfl,rfl⟩:=h2) <;> (try subst h2) <;> simp only [IW,FR,und_run hu,FI,F5,checkKey_run hk rk,h1,hzr]
   ·rename_i b
    cases hb : h[b]? with
    | none=>simp [hb] at hm
    | some bx =>
     obtain ⟨_,hr⟩:=rx
     cases bx <;> simp only [hb,reduceCtorEq,Fq] at hm hr
     subst hm
     obtain ⟨blk,cp,hlb,rfl⟩:=hr
     obtain ⟨blk',cp',es,h1,h2,h3⟩:=R.blk b _ hb
     obtain ⟨rfl,rfl⟩ : blk = blk' ∧ cp = cp':=by simpa [hlb] using h1
     obtain ⟨z,r',g1,g2,g3⟩:=fin es.toList h3
     refine ⟨_,?_,g3⟩
     have hgo:=bC (P:=P) (o:=.map es _) h2 (by simp)
     cases hzr : (zeroValue et).run P w with
     | halt a b=>rcases r' with _ | ⟨j,y0⟩ <;> simp [hzr] at g2 <;> subst g2 <;> simp only [IW,FR,und_run hu,FI,hgo,F5,checkKey_run hk rk,g1]
     | ok a b=>rcases r' with _ | ⟨j,y0⟩ <;> simp [hzr] at g2 <;> (try obtain ⟨rfl,rfl⟩:=g2) <;> (try subst g2) <;> simp only [IW,FR,und_run hu,FI,hgo,F5,checkKey_run hk rk,g1,hzr]
   ·simp at hm
theorem bZ {r : Nat} {o o' : Obj} (ho : w.heap[r]? = some o) (hc : ∀ c T fr,o ≠ .cells c T fr) : (setObj r o').run P w = .ok () { w with heap:=w.heap.setIfInBounds r o' }:=by
 unfold setObj
 cases o <;> simp [Sem.run,ho]
 exact absurd rfl (hc _ _ _)
theorem db {r : Nat} {o o' : Obj} (ho : w.heap[r]? = some o) : ({ w with heap:=w.heap.setIfInBounds r o' } : World).heap[r]? = some o':=by
 have:=(Hh.1 ho).1
 simp [this]
theorem rV {r k : Nat} {o' : Obj} (hk : k ≠ r) : ({ w with heap:=w.heap.setIfInBounds r o' } : World).heap[k]? = w.heap[k]?:=by
 simp [Array.getElem?_setIfInBounds_ne (Ne.symm hk)]
theorem kb (R : Rep Γ O w l h) {b : Nat} {x x' : Blk} (hb : h[b]? = some x) (hx : x ≠ .gone) {blk cp : Nat} (hlb : l b = some (blk,cp)) {o o' : Obj} (_ho : w.heap[blk]? = some o)
  (hle : x.le x') (hok : Ext w l h { w with heap:=w.heap.setIfInBounds blk o' } l (h.set b x') → BlkOk { w with heap:=w.heap.setIfInBounds blk o' } (avs O l (h.set b x')) l (h.set b x') b x') :
  Rep Γ O { w with heap:=w.heap.setIfInBounds blk o' } l (h.set b x') ∧ Ext w l h { w with heap:=w.heap.setIfInBounds blk o' } l (h.set b x') :=
 R.step b x' (by simp) ⟨rfl,rfl,rfl,(by first | exact FT _ | exact HK _)⟩ (fun i hi=>bB _ _ hi) (aZ hb) (fun _ _=>rfl) (fun z hz=>by rw [hb] at hz; cases hz; exact ⟨hle,fun _=>rfl⟩)
  (fun k hk hno=>rV (fun e=>hno x cp hb hx (by rw [hlb,e])))
  (fun k c hk=>.inl ⟨x,c,hb,hx,hk⟩) hok
theorem wG {kvs : List (D × D × Nat)} {es : List MapEntry} : ∀ (i : Nat) {k d : D} {n : Nat} {e : MapEntry},RelKV w (avs O l h) l h kvs es → Rel w (avs O l h) l h k e.key → Rel w (avs O l h) l h d e.val → e.born = n →
  RelKV w (avs O l h) l h (kvs.set i (k,d,n)) (es.set i e):=by
 induction kvs generalizing es with
 | nil=>intro i k d n e r _ _ _; cases es <;> simp_all [RelKV]
 | cons a t ih =>
  intro i k d n e r h1 h2 h3
  obtain ⟨k0,d0,n0⟩:=a
  cases es with
  | nil=>simp [RelKV] at r
  | cons e0 es0 =>
   simp only [RelKV] at r
   cases i with
   | zero=>simp only [List.set_cons_zero,RelKV]; exact ⟨h1,h2,h3,r.2.2.2⟩
   | succ i=>simp only [List.set_cons_succ,RelKV]; exact ⟨r.1,r.2.1,r.2.2.1,ih i r.2.2.2 h1 h2 h3⟩
theorem u1 {kvs : List (D × D × Nat)} {es : List MapEntry} {k d : D} {n : Nat} {e : MapEntry} (r : RelKV w (avs O l h) l h kvs es) (h1 : Rel w (avs O l h) l h k e.key) (h2 : Rel w (avs O l h) l h d e.val) (h3 : e.born = n) :
  RelKV w (avs O l h) l h (kvs ++ [(k,d,n)]) (es ++ [e]):=by
 induction kvs generalizing es with
 | nil=>cases es <;> simp_all [RelKV]
 | cons a t ih =>
  obtain ⟨k0,d0,n0⟩:=a
  cases es with
  | nil=>simp [RelKV] at r
  | cons e0 es0=>simp only [RelKV,List.cons_append] at r ⊢; exact ⟨r.1,r.2.1,r.2.2.1,ih r.2.2.2⟩
theorem wH {kvs : List (D × D × Nat)} {es : List MapEntry} (i : Nat) (r : RelKV w (avs O l h) l h kvs es) {k d : D} {n : Nat} (hk : kvs[i]? = some (k,d,n)) :
  ∃ e,es[i]? = some e ∧ Rel w (avs O l h) l h k e.key ∧ Rel w (avs O l h) l h d e.val ∧ e.born = n:=by
 induction kvs generalizing es i with
 | nil=>simp at hk
 | cons a t ih =>
  obtain ⟨k0,d0,n0⟩:=a
  cases es with
  | nil=>simp [RelKV] at r
  | cons e0 es0 =>
   simp only [RelKV] at r
   cases i with
   | zero=>simp at hk; obtain ⟨rfl,rfl,rfl⟩:=hk; exact ⟨e0,by simp,r.1,r.2.1,r.2.2.1⟩
   | succ i=>simpa using ih i r.2.2.2 (by simpa using hk)
theorem mz {k : D} : ∀ {kvs : List (D × D × Nat)} (i : Nat) {j : Nat} {d : D},dC k kvs i = some (some (j,d)) → ∃ k' n,i ≤ j ∧ kvs[j - i]? = some (k',d,n) ∧ j1 k k' = some true
 | [],_,_,_,hf=>by simp [dC] at hf
 | (k',d',n') :: kvs,i,j,d,hf=>by
  simp only [dC] at hf
  cases hq : j1 k k' with
  | none=>simp [hq] at hf
  | some b =>
   cases b with
   | true=>simp [hq] at hf; obtain ⟨rfl,rfl⟩:=hf; exact ⟨k',n',FT _,by simp,hq⟩
   | false =>
    simp only [hq] at hf
    obtain ⟨k2,n2,h1,h2,h3⟩:=mz (i + 1) hf
    refine ⟨k2,n2,by omega,?_,h3⟩
    rw [show j - i = (j - (i + 1)) + 1 by omega]; simpa using h2
theorem rW {k k' : D} {v v' : Value} (rk : Rel w (avs O l h) l h k v) (rk' : Rel w (avs O l h) l h k' v') (hq : j1 k k' = some true) (n : Nat) : I9 (n + 1) v' v = true:=by
 unfold j1 at hq
 split at hq
 ·obtain rfl:=aq rk
  obtain rfl:=aq rk'
  split at hq
  ·rename_i hk; subst hk
   simp only [Fq,beq_iff_eq] at hq
   subst hq; simp [I9]
  ·simp at hq
 ·obtain rfl:=aq rk
  obtain rfl:=aq rk'
  simp only [Fq] at hq
  rw [← wE] at hq
  simp only [I9]
  rename_i a b
  have : (a.data == b.data) = true:=hq
  have h2 : a.data = b.data:=by simpa using this
  show (b.data == a.data) = true
  simp [h2]
 ·obtain rfl:=aq rk
  obtain rfl:=aq rk'
  simp only [Fq,beq_iff_eq] at hq
  subst hq; simp [I9]
 ·simp at hq
theorem fp (R : Rep Γ O w l h) {t : TypeId} {x k d : D} {y v z : Value} {h' : List Blk} (rx : Rel w (avs O l h) l h x y) (rk : Rel w (avs O l h) l h k v) (rd : Rel w (avs O l h) l h d z)
  (hd : aB P h t x k d = some h') : ∃ w',(JX t y v z).run P w = .ok () w' ∧ Rep Γ O w' l h' ∧ Ext w l h w' l h':=by
 unfold aB at hd
 cases hu : P.underlying t with
 | none=>simp [hu] at hd
 | some u =>
  cases u <;> simp only [hu,reduceCtorEq] at hd
  rename_i kt et
  cases x with
  | ref r =>
   cases r <;> simp only [reduceCtorEq] at hd
   rename_i b
   cases hb : h[b]? with
   | none=>simp [hb] at hd
   | some bx =>
    obtain ⟨_,hr⟩:=rx
    cases bx <;> simp only [hb,reduceCtorEq] at hd hr
    rename_i kvs clock
    split at hd
    case isFalse=>simp at hd
    rename_i hk
    obtain ⟨uk,huk⟩:=kA hk
    obtain ⟨blk,cp,hlb,rfl⟩:=hr
    obtain ⟨blk',cp',es,h1,h2,h3⟩:=R.blk b _ hb
    obtain ⟨rfl,rfl⟩ : blk = blk' ∧ cp = cp':=by simpa [hlb] using h1
    have hgo:=bC (P:=P) (o:=.map es clock) h2 (by simp)
    cases hf : dC k kvs 0 with
    | none=>simp [hf] at hd
    | some r =>
     obtain ⟨r',hn,hm2⟩:=iX huk hk rk 0 h3 hf
     have hkey : (ID kt v es.toList).run P w = .ok r' w:=by
      simp only [ID,FR,und_run huk,FI,hn,F5]
     rcases r with _ | ⟨i,d0⟩
     ·simp only [hf,Fq] at hd
      rcases r' with _ | ⟨j,y0⟩
      ·subst hd
       have:=kb R (x':=.map (kvs ++ [(k,d,clock)]) (clock + 1)) hb (by simp) hlb (o':=.map (es.push { key:=v,val:=z,born:=clock }) (clock + 1)) h2 trivial
        (fun E=>⟨blk,cp,_,hlb,db h2,by rw [Array.toList_push]; exact u1 (E.relKV h3) (E.rel rk) (E.rel rd) rfl⟩)
       refine ⟨_,?_,this.1,this.2⟩
       simp only [JX,FR,und_run hu,FI,hgo,checkKey_run hk rk,hkey,bZ h2 (by simp)]
      ·simp at hm2
     ·simp only [hf] at hd
      rcases r' with _ | ⟨j,y0⟩
      ·simp at hm2
      ·simp only at hm2
       obtain ⟨rfl,ry⟩:=hm2
       obtain ⟨k',n,_,hkv,hq⟩:=mz 0 hf
       simp only [II] at hkv
       simp only [hkv,Fq] at hd
       subst hd
       obtain ⟨e0,he0,r1,r2,r3⟩:=wH j h3 hkv
       have hsb:=rW rk r1 hq 9999
       have he0' : es[j]? = some e0:=by rw [← GL]; exact he0
       have hmod : (es.modify j fun e=>{ e with key:=v,val:=z }).toList = es.toList.set j { key:=v,val:=z,born:=e0.born }:=by
        apply List.ext_getElem?
        intro i
        rw [GL,Array.getElem?_modify,List.getElem?_set]
        by_cases hji : j = i
        ·subst hji
         have hlt:=(Hh.1 he0').1
         have h9 : es[j] = e0:=(Hh.1 he0').2
         simp [hlt,h9]
        ·simp [hji]
       have:=kb R (x':=.map (kvs.set j (k,d,n)) clock) hb (by simp) hlb (o':=.map (es.modify j fun e=>{ e with key:=v,val:=z }) clock) h2 trivial
        (fun E=>⟨blk,cp,_,hlb,db h2,by rw [hmod]; exact wG j (E.relKV h3) (E.rel rk) (E.rel rd) r3⟩)
       refine ⟨_,?_,this.1,this.2⟩
       simp only [JX,FR,und_run hu,FI,hgo,checkKey_run hk rk,hkey,Instr.keyThatStays,he0',Gb,Option.getD_some,hsb,if_true,F5,bZ h2 (by simp)]
  | _=>simp at hd
theorem nW (R : Rep Γ O w l h) (t : TypeId) : ∃ v w' l',(Instr.makeMap t none).run P w = .ok v w' ∧ Rep Γ O w' l' (h ++ [.map [] 0]) ∧ Ext w l h w' l' (h ++ [.map [] 0]) ∧
  Rel w' (avs O l' (h ++ [.map [] 0])) l' (h ++ [.map [] 0]) (.ref (.mp h.length)) v:=by
 obtain ⟨R',E⟩:=ez R (.map #[] 0) (.map [] 0) 0 (fun _=>⟨w.heap.size,0,#[],by simp,heap_alloc_new w _,by simp [RelKV]⟩)
 refine ⟨.map (some w.heap.size),_,_,by simp [Instr.makeMap],R',E,?_⟩
 simp only [Rel,RefRel]
 refine ⟨rfl,?_⟩
 simp
end
section
variable {P : Program} {Γ : ap} {O : Nat → Prop} {w : World} {l : Loc} {h : List Blk}
theorem kB (R : Rep Γ O w l h) (o : Obj) (x : Blk) (hx : (∃ s p,x = .sit s p) ∨ (∃ m a b c,x = .mit m a b c))
  (hok : Ext w l h (w.alloc o) (l.upd h.length (some (w.heap.size,0))) (h ++ [x]) →
   BlkOk (w.alloc o) (avs O (l.upd h.length (some (w.heap.size,0))) (h ++ [x])) (l.upd h.length (some (w.heap.size,0))) (h ++ [x]) h.length x) :
  ∃ l',Rep Γ O (w.alloc o) l' (h ++ [x]) ∧ Ext w l h (w.alloc o) l' (h ++ [x]) ∧ Rel (w.alloc o) (avs O l' (h ++ [x])) l' (h ++ [x]) (.ref (.it h.length)) (.pointer (some ⟨w.heap.size,0,none⟩)):=by
 obtain ⟨R',E⟩:=ez R o x 0 hok
 refine ⟨_,R',E,?_⟩
 simp only [Rel,RefRel]
 refine ⟨rfl,?_⟩
 rcases hx with ⟨s,p,rfl⟩ | ⟨m,a,b,c,rfl⟩ <;> simp
theorem pD (R : Rep Γ O w l h) {t : TypeId} {x d : D} {y : Value} {h' : List Blk} (rx : Rel w (avs O l h) l h x y) (hd : tA P h t x = some (d,h')) :
  ∃ v w' l',(JO t y).run P w = .ok v w' ∧ Rep Γ O w' l' h' ∧ Ext w l h w' l' h' ∧ Rel w' (avs O l' h') l' h' d v:=by
 unfold tA at hd
 split at hd
 ·rename_i s hu
  cases hd
  obtain rfl:=aq rx
  obtain ⟨l',r1,r2,r3⟩:=kB R (.stringIter s 0) (.sit s 0) (.inl ⟨_,_,rfl⟩) (fun _=>⟨w.heap.size,0,by simp,heap_alloc_new w _⟩)
  exact ⟨_,_,l',by simp [JO,und_run hu],r1,r2,r3⟩
 ·rename_i hu
  cases hd
  obtain rfl:=aq rx
  obtain ⟨l',r1,r2,r3⟩:=kB R (.mapIter none 0 #[] 0) (.mit none 0 [] 0) (.inr ⟨_,_,_,_,rfl⟩) (fun _=>⟨w.heap.size,0,none,by simp,heap_alloc_new w _,rfl⟩)
  exact ⟨_,_,l',by simp [JO,und_run hu],r1,r2,r3⟩
 ·rename_i kt et b hu
  cases hb : h[b]? with
  | none=>simp [hb] at hd
  | some bx =>
   have rx':=rx
   obtain ⟨_,hr⟩:=rx
   cases bx <;> simp only [hb,reduceCtorEq,Fq,Fw] at hd hr
   rename_i kvs clock
   obtain ⟨rfl,rfl⟩:=hd
   obtain ⟨blk,cp,hlb,rfl⟩:=hr
   obtain ⟨blk',cp',es,h1,h2,h3⟩:=R.blk b _ hb
   obtain ⟨rfl,rfl⟩ : blk = blk' ∧ cp = cp':=by simpa [hlb] using h1
   have hgo:=bC (P:=P) (o:=.map es clock) h2 (by simp)
   obtain ⟨l',r1,r2,r3⟩:=kB R (.mapIter (some blk) clock #[] clock) (.mit (some b) clock [] clock) (.inr ⟨_,_,_,_,rfl⟩)
    (fun E=>⟨w.heap.size,0,some blk,by simp,heap_alloc_new w _,(E.rel rx' : Rel _ _ _ _ (.ref (.mp b)) _)⟩)
   exact ⟨_,_,l',by simp only [JO,FR,und_run hu,FI,hgo,F5,run_newObj,I8],r1,r2,r3⟩
 ·simp at hd
theorem jG {f : Nat → Bool} : ∀ {kvs : List (D × D × Nat)} {es : List MapEntry},RelKV w (avs O l h) l h kvs es → RelKV w (avs O l h) l h (kvs.filter fun e=>f e.2.2) (es.filter fun e=>f e.born)
 | [],[],_=>by simp [RelKV]
 | (k,d,n) :: kvs,e :: es,r=>by
  simp only [RelKV] at r
  have ih:=jG (f:=f) r.2.2.2
  simp only [List.filter_cons,r.2.2.1]
  split
  ·simp only [RelKV]; exact ⟨r.1,r.2.1,r.2.2.1,ih⟩
  ·exact ih
 | [],_ :: _,r=>by simp [RelKV] at r
 | _ :: _,[],r=>by simp [RelKV] at r
theorem pE {f : Nat → Bool} : ∀ {kvs : List (D × D × Nat)} {es : List MapEntry},RelKV w (avs O l h) l h kvs es → (es.any fun e=>f e.born) = (kvs.any fun e=>f e.2.2)
 | [],[],_=>by simp
 | (k,d,n) :: kvs,e :: es,r=>by simp only [RelKV] at r; simp only [List.any_cons,r.2.2.1,pE r.2.2.2]
 | [],_ :: _,r=>by simp [RelKV] at r
 | _ :: _,[],r=>by simp [RelKV] at r
theorem tC (_R : Rep Γ O w l h) {b : Nat} {y : Value} {bx : Blk} (rx : Rel w (avs O l h) l h (.ref (.it b)) y) (hb : h[b]? = some bx) (hg : bx ≠ .gone) :
  ∃ blk cp,l b = some (blk,cp) ∧ y = .pointer (some ⟨blk,0,none⟩):=by
 obtain ⟨_,hr⟩:=rx
 cases bx <;> simp only [hb] at hr <;> first
  | exact absurd rfl hg
  | (obtain ⟨blk,cp,h1,h2⟩:=hr; exact ⟨blk,cp,h1,h2⟩)
theorem rX (R : Rep Γ O w l h) {x d : D} {y : Value} {s : Bool} {t : TypeId} {h' : List Blk} (rx : Rel w (avs O l h) l h x y) (hd : Ai h s x = some (d,h')) :
  ∃ v w',(IX y s t).run P w = .ok v w' ∧ Rep Γ O w' l h' ∧ Ext w l h w' l h' ∧ Rel w' (avs O l h') l h' d v:=by
 unfold Ai at hd
 split at hd
 case h_2=>simp at hd
 rename_i b
 split at hd
 ·-- a string
  rename_i str pos hb
  obtain ⟨blk,cp,hlb,rfl⟩:=tC R rx hb (by simp)
  obtain ⟨blk',cp',h1,h2⟩:=R.blk b _ hb
  obtain ⟨rfl,rfl⟩ : blk = blk' ∧ cp = cp':=by simpa [hlb] using h1
  have hgo:=bC (P:=P) (o:=.stringIter str pos) h2 (by simp)
  split at hd
  ·rename_i hlt
   simp only [Fq,Fw] at hd
   obtain ⟨rfl,rfl⟩:=hd
   have:=kb R (x':=.sit str (pos + (KV str pos).2)) hb (by simp) hlb (o':=.stringIter str (pos + (KV str pos).2)) h2 trivial
    (fun E=>⟨blk,cp,hlb,db h2⟩)
   refine ⟨.tuple #[.bool true,goInt pos,.int .i32 (KV str pos).1],_,?_,this.1,this.2,?_⟩
   ·simp only [IX,FR,hgo,FI,hlt,if_true,bZ (P:=P) h2 (by simp),F5]
   ·simp only [Rel]; exact ⟨_,rfl,rel_lit _ _ _ _ _,rel_lit _ _ _ _ _,rel_lit _ _ _ _ _,trivial⟩
  ·rename_i hlt
   cases hd
   refine ⟨.tuple #[.bool false],w,?_,R,Ih _ _ _,?_⟩
   ·simp only [IX,FR,hgo,FI,hlt,if_false,F5]
   ·simp only [Rel]; exact ⟨_,rfl,rel_lit _ _ _ _ _,trivial⟩
 ·-- a nil map
  rename_i a1 a2 a3 hb
  cases hd
  obtain ⟨blk,cp,hlb,rfl⟩:=tC R rx hb (by simp)
  obtain ⟨blk',cp',mr,h1,h2,h3⟩:=R.blk b _ hb
  obtain ⟨rfl,rfl⟩ : blk = blk' ∧ cp = cp':=by simpa [hlb] using h1
  simp only at h3
  subst h3
  have hgo:=bC (P:=P) h2 (by simp)
  refine ⟨.tuple #[.bool false],w,?_,R,Ih _ _ _,?_⟩
  ·simp only [IX,FR,hgo,FI,F5]
  ·simp only [Rel]; exact ⟨_,rfl,rel_lit _ _ _ _ _,trivial⟩
 ·-- a map
  rename_i mb since seen st hb
  cases hmb : h[mb]? with
  | none=>simp [hmb] at hd
  | some mx =>
   cases mx <;> simp only [hmb,reduceCtorEq] at hd
   rename_i kvs clock
   obtain ⟨blk,cp,hlb,rfl⟩:=tC R rx hb (by simp)
   obtain ⟨blk',cp',mr,h1,h2,h3⟩:=R.blk b _ hb
   obtain ⟨rfl,rfl⟩ : blk = blk' ∧ cp = cp':=by simpa [hlb] using h1
   have h3':=h3
   obtain ⟨_,hr⟩:=h3
   simp only [hmb] at hr
   obtain ⟨mblk,mcp,hlm,hmr⟩:=hr
   simp only [KW] at hmr
   subst hmr
   obtain ⟨mblk',mcp',es,g1,g2,g3⟩:=R.blk mb _ hmb
   obtain ⟨rfl,rfl⟩ : mblk = mblk' ∧ mcp = mcp':=by simpa [hlm] using g1
   have hgo:=bC (P:=P) h2 (by simp)
   have hgm:=bC (P:=P) g2 (by simp)
   have hflt : RelKV w (avs O l h) l h (kvs.filter fun e=>!seen.contains e.2.2) (es.filter fun e=>!seen.toArray.contains e.born).toList:=by
    rw [Array.toList_filter]
    simpa using jG (f:=fun n=>!seen.contains n) g3
   have hlen:=fC _ _ g3
   have hes : es.isEmpty = kvs.isEmpty:=by
    rw [HB]; simp only [Array.isEmpty_iff_size_eq_zero,List.isEmpty_iff_length_eq_zero,hlen,It]
   have hall : (es.all fun e=>decide (e.born ≥ st)) = !(kvs.any fun e=>decide (e.2.2 < st)):=by
    rw [← pE (f:=fun n=>decide (n < st)) g3,← Array.all_toList,List.all_eq_not_any_not]
    congr 1
    congr 1
    funext e
    rw [HB]; simp
   split at hd
   ·rename_i hk
    split at hd
    case isFalse=>simp at hd
    rename_i hc
    cases hd
    rw [hk] at hflt
    have he : es.filter (fun e=>!seen.toArray.contains e.born) = #[]:=by
     cases hq : (es.filter (fun e=>!seen.toArray.contains e.born)).toList with
     | nil=>simpa using hq
     | cons a t=>rw [hq] at hflt; simp [RelKV] at hflt
    refine ⟨.tuple #[.bool false],w,?_,R,Ih _ _ _,by simp only [Rel]; exact ⟨_,rfl,rel_lit _ _ _ _ _,trivial⟩⟩
    have hcond : (!seen.toArray.isEmpty && !es.isEmpty && es.all (fun e=>decide (e.born ≥ st))) = false:=by
     rw [hall,hes,KX]
     cases h1 : seen.isEmpty <;> cases h2 : kvs.isEmpty <;> simp_all
    simp only [IX,FR,hgo,hgm,FI,hcond,he]
    simp [JD]
   ·rename_i k v n hk
    split at hd
    case isFalse=>simp at hd
    rename_i hc
    simp only [Fq,Fw] at hd
    obtain ⟨rfl,rfl⟩:=hd
    simp only [FB,decide_eq_true_eq] at hc
    rw [hk] at hflt
    obtain ⟨e,he,rk,rv,hn⟩ : ∃ e : MapEntry,es.filter (fun e=>!seen.toArray.contains e.born) = #[e] ∧ Rel w (avs O l h) l h k e.key ∧ Rel w (avs O l h) l h v e.val ∧ e.born = n:=by
     cases hq : (es.filter (fun e=>!seen.toArray.contains e.born)).toList with
     | nil=>rw [hq] at hflt; simp [RelKV] at hflt
     | cons a t =>
      rw [hq] at hflt
      simp only [RelKV] at hflt
      cases t with
      | nil=>exact ⟨a,by apply Array.ext'; simpa using hq,hflt.1,hflt.2.1,hflt.2.2.1⟩
      | cons b t=>simp [RelKV] at hflt
    have hcond : (!seen.toArray.isEmpty && !es.isEmpty && es.all (fun e=>decide (e.born ≥ st))) = false:=by
     rw [hall,KX]
     have hc1:=hc.1
     rw [G4] at hc1
     rcases hc1 with h1 | h1
     ·simp [h1]
     ·simp [h1]
    have:=kb R (x':=.mit (some mb) since (seen ++ [n]) clock) hb (by simp) hlb (o':=.mapIter (some mblk) since (seen.toArray.push e.born) clock) h2 trivial
     (fun E=>⟨blk,cp,some mblk,hlb,by rw [db h2]; simp [hn],(E.rel (O:=O) (d:=.ref (.mp mb)) h3')⟩)
    refine ⟨.tuple #[.bool true,e.key,e.val],_,?_,this.1,this.2,?_⟩
    ·have hs : e.born < since:=by rw [hn]; exact hc.2
     have hs2 : ¬ since ≤ e.born:=by omega
     simp only [IX,FR,hgo,hgm,FI,hcond,he]
     simp [JD,hs,hs2,bZ (P:=P) h2]
    ·simp only [Rel]; exact ⟨_,rfl,rel_lit _ _ _ _ _,this.2.rel rk,this.2.rel rv,trivial⟩
   ·simp at hd
 ·simp at hd
theorem mA {n : Nat} : ∀ {kvs : List (D × D × Nat)} {es : List MapEntry},RelKV w (avs O l h) l h kvs es → ∀ {e : D × D × Nat},kvs.find? (fun e=>e.2.2 == n) = some e →
  ∃ e',es.find? (fun e=>e.born == n) = some e' ∧ Rel w (avs O l h) l h e.1 e'.key ∧ Rel w (avs O l h) l h e.2.1 e'.val
 | [],[],_,_,hf=>by simp at hf
 | (k,d,m) :: kvs,e0 :: es,r,e,hf=>by
  simp only [RelKV] at r
  simp only [List.find?_cons,r.2.2.1] at hf ⊢
  split at hf
  ·cases hf; exact ⟨e0,rfl,r.1,r.2.1⟩
  ·exact mA r.2.2.2 hf
 | [],_ :: _,r,_,_=>by simp [RelKV] at r
 | _ :: _,[],r,_,_=>by simp [RelKV] at r
theorem pF (R : Rep Γ O w l h) {x d : D} {y : Value} (rx : Rel w (avs O l h) l h x y) (hd : my h x = some d) :
  ∃ v,(Instr.entry y).run P w = .ok v w ∧ Rel w (avs O l h) l h d v:=by
 unfold my at hd
 split at hd
 case h_2=>simp at hd
 rename_i b
 split at hd
 case h_2=>simp at hd
 rename_i mb since seen st hb
 cases hmb : h[mb]? with
 | none=>simp [hmb] at hd
 | some mx =>
  cases mx <;> simp only [hmb,reduceCtorEq] at hd
  rename_i kvs clock
  cases hl : seen.getLast? with
  | none=>simp [hl] at hd
  | some n =>
   simp only [hl] at hd
   split at hd
   case isFalse=>simp at hd
   rename_i hcl
   subst hcl
   simp only [FD] at hd
   obtain ⟨e,hf,rfl⟩:=hd
   obtain ⟨blk,cp,hlb,rfl⟩:=tC R rx hb (by simp)
   obtain ⟨blk',cp',mr,h1,h2,h3⟩:=R.blk b _ hb
   obtain ⟨rfl,rfl⟩ : blk = blk' ∧ cp = cp':=by simpa [hlb] using h1
   obtain ⟨_,hr⟩:=h3
   simp only [hmb] at hr
   obtain ⟨mblk,mcp,hlm,hmr⟩:=hr
   simp only [KW] at hmr
   subst hmr
   obtain ⟨mblk',mcp',es,g1,g2,g3⟩:=R.blk mb _ hmb
   obtain ⟨rfl,rfl⟩ : mblk = mblk' ∧ mcp = mcp':=by simpa [hlm] using g1
   have hgo:=bC (P:=P) h2 (by simp)
   have hgm:=bC (P:=P) g2 (by simp)
   obtain ⟨e',hf',r1,r2⟩:=mA g3 hf
   refine ⟨.tuple #[e'.key,e'.val],?_,by simp only [Rel]; exact ⟨_,rfl,r1,r2,trivial⟩⟩
   have hback : seen.toArray.back? = some n:=by rw [List.back?_toArray]; exact hl
   have hff : es.find? (fun e=>e.born == n) = some e':=by rw [← Array.find?_toList]; exact hf'
   simp only [Instr.entry,FR,hgo,hgm,FI,hback]
   simp [hff]
end
end Go.Vi
