/- StandingOfSpecUpto: part of the proof: an evaluator of the model's programs on abstract values, and its soundness. No conditions beyond the given statement's own. -/
import Derived.Test.YtilebidefogaiaaGreatDoorV4
open List renaming map_cons → GJ, mem_map → FY, getElem?_set_ne → H6, getElem?_map → GO, getElem?_eq_some_iff → Fy, getElem?_set_self → KD, mem_of_getElem? → FV, all_cons → HY, getElem?_append_left → FQ, getElem?_eq_none → GG, all_eq_true → FZ, mem_filter → IA, mk_mem_zipIdx_iff_getElem? → GW, range → Gy, mem_cons → Gd, filter_eq_nil_iff → Jn, mem_append → He
open Option renaming map_some → Gb, map_eq_some_iff → FD, getD_some → Hl
open Option.some renaming injEq → Fq
open Go.Vi.Blk renaming le → JI, stays → JG, inn → FL, vec → Il
open Nat renaming le_refl → FT, le_succ → HK
open Bool renaming and_eq_true → FB, false_eq_true → Gi, not_eq_true' → GN, eq_false_iff → HW
open Prod.mk renaming injEq → Fw
open Go.Vi.DefOk renaming mono → Jb
open Go.Region renaming binds → GH, ready → I4, wanted → HI
open Array renaming getD_eq_getD_getElem? → Gn, getElem?_eq_getElem → Gt, all_eq_true_iff_forall_mem → H8, replicate → Ki
open Classical renaming byContradiction → GI
open Go.Vi.St renaming unfix → Lx
namespace Go.Vi
open Go
mutual
def D.mapR (f : Ref → D) : D → D
 | .ref r=>f r
 | .fn g a b=>.fn g (D.mapRL f a) (D.mapRL f b)
 | .agg cs=>.agg (D.mapRL f cs)
 | .tup cs=>.tup (D.mapRL f cs)
 | .grd g d=>.grd g (D.mapR f d)
 | .p x=>.p x
 | .any=>.any
 | .ep cs=>.ep cs
 | .csl es=>.csl es
def D.mapRL (f : Ref → D) : List D → List D
 | []=>[]
 | d :: ds=>D.mapR f d :: D.mapRL f ds
end
def Blk.mapR (f : Ref → D) : Blk → Blk
 | .var cs=>.var (D.mapRL f cs)
 | .vec es e sz=>.vec (es.map (D.mapRL f)) e sz
 | .map kvs clock=>.map (kvs.map fun e=>(D.mapR f e.1,D.mapR f e.2.1,e.2.2)) clock
 | .loop st pend fn ts ps asg body=>.loop st pend fn (D.mapRL f ts) ps asg body
 | x=>x
theorem fJ (f : Ref → D) : ∀ ds : List D,(D.mapRL f ds).length = ds.length
 | []=>rfl
 | _ :: ds=>by simp [D.mapRL,fJ f ds]
theorem jL (f : Ref → D) : ∀ xs ys : List D,D.mapRL f (xs ++ ys) = D.mapRL f xs ++ D.mapRL f ys
 | [],_=>rfl
 | x :: xs,ys=>by simp [D.mapRL,jL f xs ys]
theorem eW (f : Ref → D) : ∀ es : List (List D),D.mapRL f es.flatten = (es.map (D.mapRL f)).flatten
 | []=>rfl
 | e :: es=>by simp [jL,eW f es]
theorem mI (f : Ref → D) : ∀ ds : List Dp,D.mapRL f (ds.map .p) = ds.map .p
 | []=>rfl
 | d :: ds=>by simp [D.mapRL,D.mapR,mI f ds]
theorem am (f : Ref → D) (es : List (List Dp)) : (es.map (·.map D.p)).map (D.mapRL f) = es.map (·.map D.p):=by
 simp [Function.comp_def,mI]
section
variable {w : World} {av av' : Nat → Prop} {l : Loc} {h h' : List Blk} {f : Ref → D}
mutual
theorem kg (ha : ∀ k,av' k → av k) (hf : ∀ r y,RefRel l h r y → Rel w av' l h' (f r) y) : ∀ {d : D} {y : Value},Rel w av l h d y → Rel w av' l h' (D.mapR f d) y
 | .p _,_,r=>by simp only [Rel,D.mapR] at r ⊢; exact eC ha r
 | .any,_,_=>by simp [Rel,D.mapR]
 | .ref r,y,rr=>by simp only [D.mapR]; exact hf r y (by simpa only [Rel] using rr)
 | .ep _,_,r=>by
  simp only [Rel,D.mapR] at r ⊢
  obtain ⟨blk,off,r1,r2⟩:=r
  exact ⟨blk,off,r1,aw ha r2⟩
 | .csl _,_,r=>by
  simp only [Rel,D.mapR] at r ⊢
  rcases r with r | ⟨blk,off,sz,r1,r2⟩
  ·exact .inl r
  ·exact .inr ⟨blk,off,sz,r1,b5 ha r2⟩
 | .fn _ _ _,_,r=>by
  simp only [Rel,D.mapR] at r ⊢
  obtain ⟨a,c,r1,r2,r3⟩:=r
  exact ⟨a,c,r1,bS ha hf r2,bS ha hf r3⟩
 | .agg _,_,r=>by
  simp only [Rel,D.mapR] at r ⊢
  obtain ⟨vs,r1,r2⟩:=r
  exact ⟨vs,r1,bS ha hf r2⟩
 | .tup _,_,r=>by
  simp only [Rel,D.mapR] at r ⊢
  obtain ⟨vs,r1,r2⟩:=r
  exact ⟨vs,r1,bS ha hf r2⟩
 | .grd _ _,_,r=>by
  simp only [Rel,D.mapR] at r ⊢
  exact ⟨fun hg=>kg ha hf (r.1 hg),r.2⟩
theorem bS (ha : ∀ k,av' k → av k) (hf : ∀ r y,RefRel l h r y → Rel w av' l h' (f r) y) : ∀ {ds : List D} {ys : List Value},RelL w av l h ds ys → RelL w av' l h' (D.mapRL f ds) ys
 | [],[],_=>by simp [RelL,D.mapRL]
 | [],_ :: _,r=>by simp [RelL] at r
 | _ :: _,[],r=>by simp [RelL] at r
 | _ :: _,_ :: _,r=>by
  simp only [RelL,D.mapRL] at r ⊢
  exact ⟨kg ha hf r.1,bS ha hf r.2⟩
end
theorem mJ (ha : ∀ k,av' k → av k) (hf : ∀ r y,RefRel l h r y → Rel w av' l h' (f r) y) : ∀ {kvs : List (D × D × Nat)} {es : List MapEntry},RelKV w av l h kvs es →
  RelKV w av' l h' (kvs.map fun e=>(D.mapR f e.1,D.mapR f e.2.1,e.2.2)) es
 | [],[],_=>by simp [RelKV]
 | [],_ :: _,r=>by simp [RelKV] at r
 | _ :: _,[],r=>by simp [RelKV] at r
 | (k,d,m) :: kvs,e :: es,r=>by
  simp only [RelKV,GJ] at r ⊢
  exact ⟨kg ha hf r.1,kg ha hf r.2.1,r.2.2.1,mJ ha hf r.2.2.2⟩
theorem mK (ha : ∀ k,av' k → av k) (hf : ∀ r y,RefRel l h r y → Rel w av' l h' (f r) y) (hm : ∀ b y,RefRel l h (.mp b) y → RefRel l h' (.mp b) y) {b : Nat} {x : Blk} (r : BlkOk w av l h b x) : BlkOk w av' l h' b (x.mapR f):=by
 cases x with
 | var cs =>
  obtain ⟨blk,cp,c,T,r1,r2,r3⟩:=r
  exact ⟨blk,cp,c,T,r1,r2,bS ha hf r3⟩
 | vec es e sz =>
  unfold BlkOk at r ⊢
  simp only [Blk.mapR] at r ⊢
  split
  ·rename_i h0; rw [h0] at r; simp only at r; rw [r]; rfl
  ·rename_i blk cap h0
   rw [h0] at r
   obtain ⟨c,T,fr,ys,r1,r2,r3,r4,r5,r6,r7⟩:=r
   refine ⟨c,T,fr,ys,r1,r2,by simpa using r3,r4,?_,?_,r7⟩
   ·intro e he
    obtain ⟨e0,he0,rfl⟩:=FY.1 he
    rw [fJ]; exact r5 e0 he0
   ·rw [← eW]; exact bS ha hf r6
 | map kvs clock =>
  obtain ⟨blk,cp,es,r1,r2,r3⟩:=r
  exact ⟨blk,cp,es,r1,r2,mJ ha hf r3⟩
 | sit s pos=>exact r
 | mit m since seen st =>
  obtain ⟨blk,cp,mr,r1,r2,r3⟩:=r
  refine ⟨blk,cp,mr,r1,r2,?_⟩
  cases m with
  | none=>exact r3
  | some mb=>exact hm mb _ r3
 | loop st pend fn tmps params asg body =>
  obtain ⟨blk,cp,ts,dr,fn',r1,r2,r3⟩:=r
  exact ⟨blk,cp,ts,dr,fn',r1,r2,bS ha hf r3⟩
 | defd=>exact r
 | gone=>trivial
end
theorem kN {f : Ref → D} {x : Blk} : x.mapR f = .gone ↔ x = .gone:=by cases x <;> simp [Blk.mapR]
def mapH (f : Ref → D) (b : Nat) (xb : Blk) (h : List Blk) : List Blk:=(h.map (Blk.mapR f)).set b xb
def Ref.blk : Ref → Nat
 | .ptr b _ | .vec b _ | .vs b _ _ _ _ | .av b _ _ _ | .vp b _ _ _ | .mp b | .it b | .yl b=>b
section
variable {Γ : ap} {O : Nat → Prop} {w w0 : World} {l l0 : Loc} {h h0 : List Blk} {f : Ref → D} {b : Nat} {xb x0 : Blk}
theorem fK {i : Nat} (hi : i ≠ b) : (mapH f b xb h)[i]? = (h[i]?).map (Blk.mapR f):=by
 unfold mapH
 rw [H6 (Ne.symm hi),GO]
theorem kO (hb : h[b]? = some x0) : (mapH f b xb h)[b]? = some xb:=by
 unfold mapH
 have:=(Fy.1 hb).1
 rw [KD (by simpa using this)]
theorem om (hb : h[b]? = some x0) (hg : x0 ≠ .gone) {k : Nat} (ho : own l (mapH f b xb h) k) : own l h k:=by
 obtain ⟨i,x,cp,h1,h2,h3⟩:=ho
 by_cases hi : i = b
 ·subst hi; exact ⟨i,x0,cp,hb,hg,h3⟩
 ·rw [fK hi] at h1
  cases hx : h[i]? with
  | none=>rw [hx] at h1; simp at h1
  | some y =>
   rw [hx] at h1
   simp only [Gb,Fq] at h1
   subst h1
   exact ⟨i,y,cp,hx,fun e=>h2 (kN.2 e),h3⟩
theorem hZ (hb : h[b]? = some x0) (hg : x0 ≠ .gone) {k : Nat} (ho : avs O l (mapH f b xb h) k) : avs O l h k:=ho.imp id (om hb hg)
theorem eX {r : Ref} {y : Value} (hr : r.blk ≠ b) (rr : RefRel l h r y) : RefRel l (mapH f b xb h) r y:=by
 have key : (mapH f b xb h)[r.blk]? = (h[r.blk]?).map (Blk.mapR f):=fK hr
 unfold RefRel at rr ⊢
 refine ⟨rr.1,?_⟩
 have rr:=rr.2
 cases hx : h[r.blk]? with
 | none=>cases r <;> simp only [Ref.blk] at hx <;> simp only [hx] at rr
 | some x =>
  rw [hx] at key
  cases r <;> simp only [Ref.blk] at hx key <;> simp only [hx] at rr <;> simp only [key,Gb] <;> cases x <;> simp [Blk.mapR] at rr ⊢ <;> exact rr
theorem CR {x y : Blk} (h : x.le y) : x.le (y.mapR f) ∧ (x.stays (y.mapR f) → x.stays y):=by
 cases x <;> cases y <;> simp only [JI] at h <;> simp_all [JI,Blk.mapR,JG]
theorem Rep.mapH (R : Rep Γ O w l h) (hb : h[b]? = some x0) (hg : x0 ≠ .gone) (hf : ∀ r y,RefRel l h r y → Rel w (avs O l (mapH f b xb h)) l (mapH f b xb h) (f r) y)
  (hok : BlkOk w (avs O l (mapH f b xb h)) l (mapH f b xb h) b xb) (hm : ∀ y,¬ RefRel l h (.mp b) y) : Rep Γ O w l (mapH f b xb h) where
 inb blk ho:=R.inb blk (om hb hg ho)
 obd:=R.obd
 inj i i' x x' k c c' h1 h2 h3 h4 h5 h6:=by
  have back : ∀ {i : Nat} {x : Blk},(Vi.mapH f b xb h)[i]? = some x → x ≠ .gone → ∃ y,h[i]? = some y ∧ y ≠ .gone:=by
   intro i x h1 h2
   by_cases hi : i = b
   ·subst hi; exact ⟨x0,hb,hg⟩
   ·rw [fK hi] at h1
    cases hx : h[i]? with
    | none=>rw [hx] at h1; simp at h1
    | some y =>
     rw [hx] at h1
     simp only [Gb,Fq] at h1
     subst h1
     exact ⟨y,rfl,fun e=>h2 (kN.2 e)⟩
  obtain ⟨y,e1,e2⟩:=back h1 h2
  obtain ⟨y',e3,e4⟩:=back h3 h4
  exact R.inj i i' y y' k c c' e1 e2 e3 e4 h5 h6
 blk i x h1:=by
  by_cases hi : i = b
  ·subst hi
   rw [kO hb] at h1
   cases h1
   exact hok
  ·rw [fK hi] at h1
   cases hx : h[i]? with
   | none=>rw [hx] at h1; simp at h1
   | some y =>
    rw [hx] at h1
    simp only [Gb,Fq] at h1
    subst h1
    refine mK (fun _=>hZ hb hg) hf (fun c y hr=>?_) (R.blk i y hx)
    by_cases hc : c = b
    ·subst hc; exact absurd hr (hm y)
    ·exact eX (by simpa [Ref.blk] using hc) hr
 glo g cs hg':=aw (fun _=>hZ hb hg) (R.glo g cs hg')
theorem Ext.mapH (E : Ext w0 l0 h0 w l h) (hb : h[b]? = some x0) (hg : x0 ≠ .gone) (hle : ∀ x,h0[b]? = some x → x.le x0 → x.le xb ∧ (x.stays xb → x.stays x0)) : Ext w0 l0 h0 w l (mapH f b xb h) where
 size:=E.size
 same:=E.same
 news blk ho:=E.news blk (om hb hg ho)
 keep i x hx:=by
  obtain ⟨x',h1,h2,h3⟩:=E.keep i x hx
  by_cases hi : i = b
  ·subst hi
   rw [hb] at h1
   cases h1
   obtain ⟨g1,g2⟩:=hle x hx h2
   exact ⟨xb,kO hb,g1,fun hs=>h3 (g2 hs)⟩
  ·obtain ⟨g1,g2⟩:=CR (f:=f) h2
   exact ⟨_,by rw [fK hi,h1]; rfl,g1,fun hs=>h3 (g2 hs)⟩
 tape:=E.tape
end
def gf (b e : Nat) (rows : List (List Dp)) (r : Ref) : D:=match r.blk == b with
 | false=>.ref r
 | true=>match r with
  | .vec _ e1=>match e1 == e with
   | true=>.p (.sl rows)
   | false=>.any
  | _=>.any
def aM (b e k : Nat) (r : Ref) : D:=match r.blk == b with
 | false=>.ref r
 | true=>match r with
  | .vec _ e1=>match e1 == e with
   | true=>.ref (.vec b k)
   | false=>.any
  | .vs _ e1 i n c=>match e1 == e with
   | true=>.ref (.vs b k i n c)
   | false=>.any
  | .vp _ e1 i j=>match e1 == e with
   | true=>.ref (.vp b k i j)
   | false=>.any
  | _=>.any
section
variable {Γ : ap} {O : Nat → Prop} {w w0 : World} {l l0 : Loc} {h h0 : List Blk} {b : Nat}
theorem gH {av av' : Nat → Prop} (ha : ∀ k,av' k → av k) {blk : Nat} (hb : ¬ av' blk) : ∀ (e : List Dp) (off : Nat),CellsAt w av l h blk off (e.map .p) → RelCells w av' blk off e
 | [],_,_=>trivial
 | d :: ds,off,c=>by
  obtain ⟨y,h1,h2⟩:=c 0 (.p d) (by simp)
  refine ⟨⟨hb,y,by simpa using h1,eC ha (by simpa [Rel] using h2)⟩,gH ha hb ds (off + 1) fun j d' hd=>?_⟩
  obtain ⟨y',h3,h4⟩:=c (j + 1) d' (by simpa using hd)
  exact ⟨y',by rw [← h3]; congr 2; omega,h4⟩
theorem i7 {av : Nat → Prop} {blk c : Nat} : ∀ (es : List (List Dp)) (off : Nat),(∀ i e,es[i]? = some e → e.length = c ∧ RelCells w av blk (off + i * c) e) → RelRows w av blk c off es
 | [],_,_=>trivial
 | e :: es,off,h=>by
  obtain ⟨h1,h2⟩:=h 0 e rfl
  refine ⟨h1,by simpa using h2,i7 es (off + c) fun i e' he=>?_⟩
  obtain ⟨h3,h4⟩:=h (i + 1) e' (by simpa using he)
  refine ⟨h3,?_⟩
  rw [show off + c + i * c = off + (i + 1) * c by rw [Nat.add_mul]; omega]
  exact h4
theorem CS (R : Rep Γ O w l h) {rows : List (List Dp)} {e sz : Nat} (hb : h[b]? = some (.vec (rows.map (·.map .p)) e sz)) {r : Ref} {y : Value} (rr : RefRel l h r y)
  {f : Ref → D} : Rel w (avs O l (mapH f b .gone h)) l (mapH f b .gone h) (gf b e rows r) y:=by
 unfold gf
 split
 ·rename_i hr
  simp only [Rel]
  exact eX (by simpa using hr) rr
 ·rename_i hr
  split
  ·rename_i b1 e1
   split
   ·rename_i he
    have hr : b1 = b:=by simpa [Ref.blk] using hr
    have he : e1 = e:=by simpa using he
    subst hr; subst he
    have hk:=R.blk _ _ hb
    unfold RefRel at rr
    simp only [hb] at rr
    have hv:=rr.2.2 trivial
    unfold BlkOk at hk
    simp only at hk
    simp only [Rel,RelP]
    cases hl : l b1 with
    | none =>
     rw [hl] at hv hk
     simp only [l4] at hv hk
     exact .inl ⟨by simpa using hk,none,0,hv.2,fun _=>rfl⟩
    | some p =>
     obtain ⟨blk,cap⟩:=p
     rw [hl] at hv hk
     simp only [l4] at hv hk
     obtain ⟨c,T,fr,ys,q1,q2,q3,q4,q5,q6,rest,q7⟩:=hk
     refine .inr ⟨blk,0,cap,sz,by simpa using hv.1,by simpa using hv.2,?_⟩
     have hcell : ¬ avs O l (Vi.mapH f b1 .gone h) blk:=by
      rintro (ho | ⟨i,x,cp,h1,h2,h3⟩)
      ·exact (R.inb blk ⟨b1,_,cap,hb,by simp,hl⟩).2 ho
      ·by_cases hi : i = b1
       ·subst hi; rw [kO hb] at h1; cases h1; exact h2 rfl
       ·rw [fK hi] at h1
        cases hx : h[i]? with
        | none=>rw [hx] at h1; simp at h1
        | some z =>
         rw [hx] at h1
         simp only [Gb,Fq] at h1
         subst h1
         exact hi (R.inj i b1 z _ blk cp cap hx (fun e=>h2 (kN.2 e)) hb (by simp) h3 hl)
     refine i7 rows 0 fun i e1 he1=>?_
     have hlen : e1.length = sz:=by
      have:=q5 (e1.map .p) (FY.2 ⟨e1,FV he1,rfl⟩)
      simpa using this
     refine ⟨hlen,gH (l:=l) (h:=h) (av:=avs O l h) (av':=avs O l (Vi.mapH f b1 .gone h)) (fun _ ho=>hZ hb (by simp) ho) hcell e1 _ ?_⟩
     rw [Nat.zero_add]
     exact (CellsAt.of_rel (loc:=l) (h:=h) q1 q7 q6).row q5 (by rw [GO,he1]; rfl)
   ·simp [Rel]
  ·simp [Rel]
theorem CT {es es' : List (List D)} (hlen : es'.length = es.length) {e k sz : Nat} (hb : h[b]? = some (.vec es e sz)) {av : Nat → Prop} {r : Ref} {y : Value} (rr : RefRel l h r y) {f : Ref → D} :
  Rel w av l (mapH f b (.vec es' k sz) h) (aM b e k r) y:=by
 have hb' : (mapH f b (.vec es' k sz) h)[b]? = some (.vec es' k sz):=kO hb
 unfold aM
 split
 ·rename_i hr
  simp only [Rel]
  exact eX (by simpa using hr) rr
 ·rename_i hr
  split
  ·rename_i b1 e1
   split
   ·rename_i he
    have hr : b1 = b:=by simpa [Ref.blk] using hr
    have he : e1 = e:=by simpa using he
    subst hr; subst he
    unfold RefRel at rr
    simp only [hb] at rr
    simp only [Rel]
    unfold RefRel
    simp only [hb']
    exact ⟨rr.1,FT _,fun _=>by rw [hlen]; exact rr.2.2 trivial⟩
   ·simp [Rel]
  ·rename_i b1 e1 i n c
   split
   ·rename_i he
    have hr : b1 = b:=by simpa [Ref.blk] using hr
    have he : e1 = e:=by simpa using he
    subst hr; subst he
    unfold RefRel at rr
    simp only [hb] at rr
    simp only [Rel]
    unfold RefRel
    simp only [hb']
    exact ⟨rr.1,FT _,fun _=>by rw [hlen]; exact rr.2.2 trivial⟩
   ·simp [Rel]
  ·rename_i b1 e1 i j
   split
   ·rename_i he
    have hr : b1 = b:=by simpa [Ref.blk] using hr
    have he : e1 = e:=by simpa using he
    subst hr; subst he
    unfold RefRel at rr
    simp only [hb] at rr
    simp only [Rel]
    unfold RefRel
    simp only [hb']
    exact ⟨rr.1,FT _,fun _=>rr.2.2 trivial⟩
   ·simp [Rel]
  ·simp [Rel]
end
inductive SOp where
 | mask (ks : List Nat)
 | trim (k : Nat)
 | trimV (k : Nat)
 | frz (b : Nat) (rows : List (List Dp))
 | ren (b k : Nat)
 | nilT (i sz : Nat)
 | nilC (b off sz : Nat)
def AllP : List Prop → Prop
 | []=>True
 | p :: ps=>p ∧ AllP ps
theorem AllP.n : AllP []:=trivial
theorem AllP.c {p : Prop} {ps : List Prop} (h : p) (hs : AllP ps) : AllP (p :: ps):=⟨h,hs⟩
theorem AllP.e {ps : List Prop} (d : D) (hs : AllP ps) : AllP ((d = d) :: ps):=⟨rfl,hs⟩
theorem AllP.f {ps : List Prop} (hs : AllP ps) : AllP (((false == true) = false) :: ps):=⟨rfl,hs⟩
theorem AllP.er {α : Type} {ps : List Prop} (x : α) (hs : AllP ps) : AllP ((x = x) :: ps):=⟨rfl,hs⟩
theorem AllP.append {ps qs : List Prop} (h : AllP (ps ++ qs)) : AllP ps ∧ AllP qs:=by
 induction ps with
 | nil=>exact ⟨trivial,h⟩
 | cons p ps ih=>exact ⟨⟨h.1,(ih h.2).1⟩,(ih h.2).2⟩
def wX (x : Nat) : List Nat → Bool
 | []=>false
 | y :: ys=>x == y || wX x ys
theorem eY {x : Nat} : ∀ {ys : List Nat},wX x ys = true ↔ x ∈ ys
 | []=>by simp [wX]
 | y :: ys=>by simp [wX,eY (ys:=ys)]
def sg (ks : List Nat) : Nat → List D → List D
 | _,[]=>[]
 | i,d :: ds=>(match wX i ks with | true=>d | false=>.any) :: sg ks (i + 1) ds
theorem oo (ks : List Nat) : ∀ (i : Nat) (t : List D),(sg ks i t).length = t.length ∧ ∀ x,Wk (t.getD x .any) ((sg ks i t).getD x .any)
 | _,[]=>⟨rfl,fun x=>Wk.refl _⟩
 | i,d :: ds=>by
  obtain ⟨h1,h2⟩:=oo ks (i + 1) ds
  refine ⟨by simp [sg,h1],fun x=>?_⟩
  cases x with
  | zero =>
   simp only [sg,List.getD_cons_zero]
   split
   ·exact Wk.refl _
   ·exact fun _ _ _ _ _ _=>by simp [Rel]
  | succ x=>simpa [sg] using h2 x
def mg (ks : List Nat) (s : AS) : AS:={ t:=sg ks 0 s.t,h:=s.h,m:=s.m }
theorem DefOk.take {D0 : List Deferred} {l : Loc} {h : List Blk} {k : Nat} : ∀ {bs : List Nat} {ds : List Deferred},(bs.all fun b=>decide (b < k)) = true → DefOk D0 l h bs ds → DefOk D0 l (h.take k) bs ds
 | [],_,_,r=>r
 | b :: bs,d :: ds,hb,r=>by
  simp only [DefOk,HY,FB,decide_eq_true_eq] at r hb ⊢
  obtain ⟨⟨blk,cp,h1,h2,h3⟩,h4⟩:=r
  exact ⟨⟨blk,cp,by rw [take_get hb.1]; exact h1,h2,h3⟩,DefOk.take (by simpa using hb.2) h4⟩
 | _ :: _,[],_,r=>by simp [DefOk] at r
theorem Ext.takeN {w0 w : World} {l0 l : Loc} {h0 h : List Blk} {k : Nat} (hk : h0.length ≤ k) (E : Ext w0 l0 h0 w l h) : Ext w0 l0 h0 w l (h.take k) where
 size:=E.size
 same:=E.same
 news blk ho:=E.news blk (kc ho)
 keep b x hb:=by
  have : b < h0.length:=by
   rw [Fy] at hb
   exact hb.1
  rw [take_get (by omega)]
  exact E.keep b x hb
 tape:=E.tape
def CU (k : Nat) (s : AS) : Option AS:=match D.innL k s.t && (s.h.take k).all (FL k) && s.m.all (fun b=>decide (b < k)) with
 | true=>some { t:=s.t,h:=s.h.take k,m:=s.m }
 | false=>none
def Blk.innC (k : Nat) : Blk → Bool
 | .vec _ _ _=>true
 | .map _ _=>true
 | x=>FL k x
def Blk.innP (k : Nat) : Blk → List Prop
 | .vec es _ _=>[es.all (D.innL k) = true]
 | .map kvs _=>[(kvs.all fun e=>D.inn k e.1 && D.inn k e.2.1) = true]
 | _=>[]
def ia (k : Nat) : List Blk → List Prop
 | []=>[]
 | x :: xs=>Blk.innP k x ++ ia k xs
theorem wY {k : Nat} {x : Blk} (h1 : Blk.innC k x = true) (h2 : AllP (Blk.innP k x)) : FL k x = true:=by
 cases x <;> first | exact h1 | exact h2.1
theorem tK {k : Nat} : ∀ {h : List Blk},h.all (Blk.innC k) = true → AllP (ia k h) → h.all (FL k) = true
 | [],_,_=>rfl
 | x :: xs,h1,h2=>by
  simp only [HY,FB] at h1 ⊢
  simp only [ia] at h2
  obtain ⟨p1,p2⟩:=h2.append
  exact ⟨wY h1.1 p1,tK h1.2 p2⟩
theorem sh {ps qs : List Prop} (h1 : AllP ps) (h2 : AllP qs) : AllP (ps ++ qs):=by
 induction ps with
 | nil=>exact h2
 | cons p ps ih=>exact ⟨h1.1,ih h1.2⟩
theorem tL {k : Nat} : ∀ {h : List Blk},h.all (FL k) = true → h.all (Blk.innC k) = true ∧ AllP (ia k h)
 | [],_=>⟨rfl,trivial⟩
 | x :: xs,h=>by
  simp only [HY,FB] at h ⊢
  obtain ⟨i1,i2⟩:=tL h.2
  have hx:=h.1
  refine ⟨⟨?_,i1⟩,sh ?_ i2⟩
  ·cases x <;> first | rfl | exact hx
  ·cases x <;> first | trivial | exact ⟨hx,trivial⟩
def Aq (k : Nat) (s : AS) : Option AS:=match D.innL k s.t && (s.h.take k).all (Blk.innC k) && s.m.all (fun b=>decide (b < k)) with
 | true=>some { t:=s.t,h:=s.h.take k,m:=s.m }
 | false=>none
theorem Ar {k : Nat} {s s' : AS} (h : CU k s = some s') : Aq k s = some s' ∧ AllP (ia k (s.h.take k)):=by
 unfold CU at h
 split at h
 case h_2=>simp at h
 rename_i hb
 simp only [FB] at hb
 obtain ⟨i1,i2⟩:=tL hb.1.2
 refine ⟨?_,i2⟩
 unfold Aq
 rw [hb.1.1,i1,hb.2]
 exact h
def kP (f : Ref → D) : Blk → List Prop
 | .vec es _ _=>[es.map (D.mapRL f) = es]
 | .map kvs _=>[kvs.map (fun e=>(D.mapR f e.1,D.mapR f e.2.1,e.2.2)) = kvs]
 | _=>[]
def keepX (f : Ref → D) : Blk → Blk
 | .vec es e sz=>.vec es e sz
 | .map kvs c=>.map kvs c
 | x=>x.mapR f
theorem ib {f : Ref → D} {x : Blk} (h : AllP (kP f x)) : keepX f x = x.mapR f:=by
 cases x <;> simp only [keepX,Blk.mapR]
 ·rw [h.1]
 ·rw [h.1]
def pR (f : Ref → D) (b : Nat) (xb : Blk) : Nat → List Blk → List Blk
 | _,[]=>[]
 | i,x :: xs=>(match i == b with | true=>xb | false=>keepX f x) :: pR f b xb (i + 1) xs
def vf (f : Ref → D) (b : Nat) : Nat → List Blk → List Prop
 | _,[]=>[]
 | i,x :: xs=>(match i == b with | true=>[] | false=>kP f x) ++ vf f b (i + 1) xs
theorem pS {f : Ref → D} {b : Nat} {xb : Blk} : ∀ (i : Nat) (h : List Blk),AllP (vf f b i h) → ∀ j,(pR f b xb i h)[j]? = if i + j = b then (h[j]?).map (fun _=>xb) else (h[j]?).map (Blk.mapR f)
 | i,[],_,j=>by simp [pR]
 | i,x :: xs,hp,j=>by
  simp only [vf] at hp
  obtain ⟨p1,p2⟩:=hp.append
  cases j with
  | zero =>
   simp only [pR,List.getElem?_cons_zero,Nat.add_zero,Gb]
   by_cases hi : i = b
   ·simp [hi]
   ·have : (i == b) = false:=by simpa using hi
    rw [this] at p1 ⊢
    simp [hi,ib p1]
  | succ j =>
   simp only [pR,List.getElem?_cons_succ]
   rw [pS (i + 1) xs p2 j]
   rw [show i + 1 + j = i + (j + 1) by omega]
theorem tM {f : Ref → D} {b : Nat} {xb x0 : Blk} {h : List Blk} (hb : h[b]? = some x0) (hp : AllP (vf f b 0 h)) : pR f b xb 0 h = mapH f b xb h:=by
 apply List.ext_getElem?
 intro j
 rw [pS 0 h hp j]
 by_cases hj : j = b
 ·subst hj; rw [kO hb,hb]; simp
 ·rw [fK hj,if_neg (by omega)]
def CV (k : Nat) : List Blk → List Prop
 | []=>[]
 | x :: xs=>(FL k x = true) :: CV k xs
theorem tN {k : Nat} : ∀ {h : List Blk},AllP (CV k h) → h.all (FL k) = true
 | [],_=>rfl
 | x :: xs,h=>by
  simp only [HY,FB]
  exact ⟨h.1,tN h.2⟩
def B9 (k : Nat) (s : AS) : Option AS:=match D.innL k s.t && s.m.all (fun b=>decide (b < k)) with
 | true=>some { t:=s.t,h:=s.h.take k,m:=s.m }
 | false=>none
def renOk (h0 : List Blk) (b k : Nat) : Bool:=match h0[b]? with
 | some (.vec _ e0 _)=>decide (e0 < k)
 | some _=>false
 | none=>true
def As : D → Bool
 | .p (.v (.slice none 0 0))=>true
 | _=>false
def SOp.app (h0 : List Blk) : SOp → AS → Option (AS × List Prop)
 | .mask ks,s=>some (mg ks s,[])
 | .trim k,s=>match decide (h0.length ≤ k) with
  | true=>match Aq k s with
   | some s'=>some (s',ia k (s.h.take k))
   | none=>none
  | false=>none
 | .trimV k,s=>match decide (h0.length ≤ k) with
  | true=>match B9 k s with
   | some s'=>some (s',CV k (s.h.take k))
   | none=>none
  | false=>none
 | .frz b rows,s=>match s.h[b]? with
  | some (.vec es e _)=>some ({ t:=D.mapRL (gf b e rows) s.t,h:=pR (gf b e rows) b .gone 0 s.h,m:=s.m },(es = rows.map (·.map .p)) :: vf (gf b e rows) b 0 s.h)
  | _=>none
 | .ren b k,s=>match s.h[b]? with
  | some (.vec es e sz)=>match renOk h0 b k with
   | true=>some ({ t:=D.mapRL (aM b e k) s.t,h:=pR (aM b e k) b (.vec es k sz) 0 s.h,m:=s.m },(es.map (D.mapRL (aM b e k)) = es) :: vf (aM b e k) b 0 s.h)
   | false=>none
  | _=>none
 | .nilT i sz,s=>match As (s.t.getD i .any) && au (s.h ++ [Il [] 0 sz]) s.m with
  | true=>some ({ t:=s.t.set i (.ref (.vec s.h.length 0)),h:=s.h ++ [Il [] 0 sz],m:=s.m },[])
  | false=>none
 | .nilC b off sz,s=>match s.h[b]? with
  | some (.var cs)=>match As (cs.getD off .any) && (au (s.h ++ [Il [] 0 sz]) s.m && au ((s.h ++ [Il [] 0 sz]).set b (.var (cs.set off (.ref (.vec s.h.length 0))))) s.m) with
   | true=>some ({ t:=s.t,h:=(s.h ++ [Il [] 0 sz]).set b (.var (cs.set off (.ref (.vec s.h.length 0)))),m:=s.m },[])
   | false=>none
  | _=>none
section
variable {Γ : ap} {X : Ctx} {s s' : AS} {a : Act} {w : World}
theorem DefOk.mapH {D0 : List Deferred} {l : Loc} {h : List Blk} {f : Ref → D} {b : Nat} {xb x0 : Blk} (hb : h[b]? = some x0) (hd : x0 ≠ .defd) : ∀ {bs : List Nat} {ds : List Deferred},DefOk D0 l h bs ds → DefOk D0 l (mapH f b xb h) bs ds
 | [],_,r=>r
 | i :: bs,d :: ds,r=>by
  simp only [DefOk] at r ⊢
  obtain ⟨⟨blk,cp,h1,h2,h3⟩,h4⟩:=r
  refine ⟨⟨blk,cp,?_,h2,h3⟩,DefOk.mapH hb hd h4⟩
  by_cases hi : i = b
  ·subst hi; rw [hb] at h1; cases h1; exact absurd rfl hd
  ·rw [fK hi,h1]; rfl
 | _ :: _,[],r=>by simp [DefOk] at r
theorem kQ {w : World} {av : Nat → Prop} {l : Loc} {h : List Blk} {d : D} : ∀ {t : List D} {ys : List Value} (i : Nat),RelL w av l h t ys → (∀ y,Rel w av l h (t.getD i .any) y → Rel w av l h d y) → RelL w av l h (t.set i d) ys
 | [],[],_,_,_=>by simp [RelL]
 | [],_ :: _,_,r,_=>by simp [RelL] at r
 | _ :: _,[],_,r,_=>by simp [RelL] at r
 | x :: xs,y :: ys,0,r,hd=>by
  simp only [RelL,List.set_cons_zero] at r ⊢
  exact ⟨hd y r.1,r.2⟩
 | x :: xs,y :: ys,i + 1,r,hd=>by
  simp only [RelL,List.set_cons_succ] at r ⊢
  exact ⟨r.1,kQ i r.2 (by simpa using hd)⟩
theorem tP {w0 : World} {l0 l : Loc} {h0 h : List Blk} {O : Nat → Prop} (sz : Nat) (R : Rep Γ O w l h) (E : Ext w0 l0 h0 w l h) :
  ∃ l',Rep Γ O w l' (h ++ [Il [] 0 sz]) ∧ Ext w0 l0 h0 w l' (h ++ [Il [] 0 sz]) ∧ Ext w l h w l' (h ++ [Il [] 0 sz]) ∧ l' h.length = none:=by
 obtain ⟨R',E'⟩:=Rep.step (l':=fun k=>if k = h.length then none else l k) (h':=h ++ [Il [] 0 sz]) R h.length (.vec [] 0 sz) (FT _) ⟨rfl,rfl,rfl,(by first | exact FT _ | exact HK _)⟩
  (fun b hb=>by
   by_cases hlt : b < h.length
   ·rw [FQ hlt]
   ·rw [GG (by simp; omega),GG (by omega)])
  (by simp) (fun b hb=>by simp [hb]) (fun x hx=>by simp at hx) (fun _ _ _=>rfl) (fun k c hk=>by simp at hk) (fun _=>by simp [BlkOk])
 exact ⟨_,R',E.trans E',E',by simp⟩
theorem pT {w : World} {av : Nat → Prop} {l : Loc} {h : List Blk} {d : D} {y : Value} (hd : As d = true) (r : Rel w av l h d y) : y = .slice none 0 0:=by
 unfold As at hd
 split at hd
 ·simpa [Rel,RelP] using r
 ·simp at hd
theorem w4 {w : World} {av : Nat → Prop} {l : Loc} {h : List Blk} {b sz : Nat} (hb : h[b]? = some (.vec [] 0 sz)) (hl : l b = none) : Rel w av l h (.ref (.vec b 0)) (.slice none 0 0):=by
 simp only [Rel]
 unfold RefRel
 simp only [hb]
 refine ⟨by simp [Value.oneCell'],FT _,fun _=>?_⟩
 rw [hl]
 exact ⟨rfl,rfl⟩
theorem SOp.sound {o : SOp} {φ : List Prop} (ha : o.app X.h s = some (s',φ)) (hp : AllP φ) (hs : St Γ X s a w) : St Γ X s' a w:=by
 cases o with
 | mask ks =>
  simp only [SOp.app,Fq,Fw] at ha
  obtain ⟨rfl,_⟩:=ha
  obtain ⟨k1,k2⟩:=oo ks 0 s.t
  exact hs.wk k1 k2
 | trim k =>
  simp only [SOp.app] at ha
  split at ha
  case h_2=>simp at ha
  rename_i hk
  split at ha
  case h_2=>simp at ha
  rename_i s1 ht
  simp only [Fq,Fw] at ha
  obtain ⟨rfl,rfl⟩:=ha
  unfold Aq at ht
  split at ht
  case h_2=>simp at ht
  rename_i hb
  simp only [FB] at hb
  cases ht
  obtain ⟨l,R,E,rt,rd⟩:=hs
  exact ⟨l,R.take (tK hb.1.2 hp),E.takeN (by simpa using hk),bK (fun _=>g9) hb.1.1 rt,rd.take hb.2⟩
 | trimV k =>
  simp only [SOp.app] at ha
  split at ha
  case h_2=>simp at ha
  rename_i hk
  split at ha
  case h_2=>simp at ha
  rename_i s1 ht
  simp only [Fq,Fw] at ha
  obtain ⟨rfl,rfl⟩:=ha
  unfold B9 at ht
  split at ht
  case h_2=>simp at ht
  rename_i hb
  simp only [FB] at hb
  cases ht
  obtain ⟨l,R,E,rt,rd⟩:=hs
  exact ⟨l,R.take (tN hp),E.takeN (by simpa using hk),bK (fun _=>g9) hb.1 rt,rd.take hb.2⟩
 | frz b rows =>
  simp only [SOp.app] at ha
  split at ha
  case h_2=>simp at ha
  rename_i es e sz hb
  simp only [Fq,Fw] at ha
  obtain ⟨rfl,rfl⟩:=ha
  obtain ⟨rfl,hp⟩:=hp
  obtain ⟨l,R,E,rt,rd⟩:=hs
  refine ⟨l,?_⟩
  simp only [tM hb hp]
  have hf:=fun (r : Ref) (y : Value) (rr : RefRel l s.h r y)=>CS R hb rr (f:=gf b e rows)
  refine ⟨R.mapH hb (by simp) hf (by simp [BlkOk]) (fun y hr=>?_),E.mapH hb (by simp) (fun x _ _=>⟨by cases x <;> simp [JI],fun h=>by cases x <;> simp [JG] at h⟩),
   bS (fun _ ho=>hZ hb (by simp) ho) hf rt,rd.mapH hb (by simp)⟩
  unfold RefRel at hr
  simp [hb] at hr
 | ren b k =>
  simp only [SOp.app] at ha
  split at ha
  case h_2=>simp at ha
  rename_i es e sz hb
  split at ha
  case h_2=>simp at ha
  rename_i hk
  simp only [Fq,Fw] at ha
  obtain ⟨rfl,rfl⟩:=ha
  obtain ⟨he,hp⟩:=hp
  obtain ⟨l,R,E,rt,rd⟩:=hs
  refine ⟨l,?_⟩
  simp only [tM hb hp]
  have hm : ∀ y,¬ RefRel l s.h (.mp b) y:=fun y hr=>by
   unfold RefRel at hr
   simp [hb] at hr
  have ha' : ∀ k',avs X.O l (mapH (aM b e k) b (.vec es k sz) s.h) k' → avs X.O l s.h k':=fun _ ho=>hZ hb (by simp) ho
  have hf : ∀ (r : Ref) (y : Value),RefRel l s.h r y → Rel w (avs X.O l (mapH (aM b e k) b (.vec es k sz) s.h)) l (mapH (aM b e k) b (.vec es k sz) s.h) (aM b e k r) y :=
   fun r y rr=>CT rfl hb rr
  have hbk:=mK ha' hf (fun c y hr=>by
    by_cases hc : c = b
    ·subst hc; exact absurd hr (hm y)
    ·exact eX (by simpa [Ref.blk] using hc) hr) (R.blk b _ hb)
  simp only [Blk.mapR,he] at hbk
  refine ⟨R.mapH hb (by simp) hf (by unfold BlkOk at hbk ⊢; exact hbk) hm,E.mapH hb (by simp) (fun x hx hle=>?_),bS ha' hf rt,rd.mapH hb (by simp)⟩
  unfold renOk at hk
  rw [hx] at hk
  cases x with
  | vec es0 e0 sz0 =>
   simp only [decide_eq_true_eq] at hk
   simp only [JI] at hle ⊢
   simp only [JG]
   exact ⟨⟨by omega,fun h=>by omega,hle.2.2⟩,fun h=>by omega⟩
  | _=>simp at hk
 | nilT i sz =>
  simp only [SOp.app] at ha
  split at ha
  case h_2=>simp at ha
  rename_i hn
  simp only [FB] at hn
  simp only [Fq,Fw] at ha
  obtain ⟨rfl,_⟩:=ha
  obtain ⟨l,R,E,rt,rd⟩:=hs
  obtain ⟨l',R',E',E2,hl⟩:=tP sz R E
  refine ⟨l',R',E',?_,Jb E2.keep hn.2 rd⟩
  have rt':=E2.relL rt
  refine kQ i rt' fun y hy=>?_
  obtain rfl:=pT hn.1 hy
  exact w4 (sz:=sz) (by simp) hl
 | nilC b off sz =>
  simp only [SOp.app] at ha
  split at ha
  case h_2=>simp at ha
  rename_i cs hb
  split at ha
  case h_2=>simp at ha
  rename_i hn
  simp only [FB] at hn
  simp only [Fq,Fw] at ha
  obtain ⟨rfl,_⟩:=ha
  obtain ⟨l,R,E,rt,rd⟩:=hs
  obtain ⟨l',R',E',E2,hl⟩:=tP sz R E
  have hlt:=(Fy.1 hb).1
  have hb' : (s.h ++ [Il [] 0 sz])[b]? = some (.var cs):=by rw [FQ hlt]; exact hb
  obtain ⟨R3,E3⟩:=Rep.step (w':=w) (l':=l') (h':=(s.h ++ [Il [] 0 sz]).set b (.var (cs.set off (.ref (.vec s.h.length 0))))) R' b (.var (cs.set off (.ref (.vec s.h.length 0)))) (FT _) ⟨rfl,rfl,rfl,(by first | exact FT _ | exact HK _)⟩
   (fun i hi=>by rw [H6 (Ne.symm hi)]) (by rw [KD (by simp; omega)]) (fun _ _=>rfl) (fun x hx=>by rw [hb'] at hx; cases hx; simp [JI])
   (fun _ _ _=>rfl) (fun k c hk=>.inl ⟨_,c,hb',by simp,hk⟩) (fun E3=>by
    obtain ⟨blk,cp,c,T,q1,q2,q3⟩:=R'.blk b _ hb'
    refine ⟨blk,cp,c,T,q1,q2,kQ off (E3.relL q3) fun y hy=>?_⟩
    obtain rfl:=pT hn.1 hy
    refine w4 (sz:=sz) ?_ hl
    rw [H6 (by omega)]
    simp)
  exact ⟨l',R3,E'.trans E3,E3.relL (E2.relL rt),Jb E3.keep hn.2.2 (Jb E2.keep hn.2.1 rd)⟩
end
def notRef : D → Bool
  | .ref _=>false
  | _=>true
def heapless : Op → Bool
  | .move _ | .assign _ | .pick .. | .build .. | .binOp .. | .unOp .. | .convert .. | .makeFunc .. | .field .. | .index .. | .extract ..=>true
  | .call { callee:=.builtin b,.. }=>match b with
    | .max | .min=>true
    | _=>false
  | _=>false
section
variable {P : Program} {Γ : ap} {t : List D} {h : List Blk}
theorem bT {o : Op} (ho : heapless o = true) {ok : Bool} {d : D} {h' : List Blk} (hs : opSem P Γ t h o = some (ok,d,h')) (g : List Blk) : ∃ g',opSem P Γ t g o = some (ok,d,g'):=by
  cases o <;> simp only [heapless,Gi] at ho <;> simp only [opSem,FD,keep,keepB,Fw,Fq] at hs ⊢
  case call c =>
    obtain ⟨callee,args,ats⟩:=c
    cases callee with
    | builtin b =>
      cases b <;> simp only [Gi] at ho <;> simp only [] at hs ⊢ <;> unfold builtinD at hs ⊢ <;> split at hs <;> simp_all [keep] <;> (obtain ⟨a,h1,h2,h3,_⟩:=hs; exact ⟨g,a,h1,h2,h3,rfl⟩)
    | _=>simp [] at ho
  case binOp op ty x y yt =>
    split at hs
    · simp only [Fq,Fw] at hs ⊢
      exact ⟨g,hs.1,hs.2.1,rfl⟩
    · split at hs
      · simp only [Fq,Fw] at hs ⊢
        exact ⟨g,hs.1,hs.2.1,rfl⟩
      · simp only [FD,keep,Fw] at hs ⊢
        obtain ⟨a,h1,h2,h3,_⟩:=hs
        exact ⟨g,a,h1,h2,h3,rfl⟩
  case extract x i =>
    split at hs
    · simp only [FD,keep,Fw] at hs ⊢
      obtain ⟨a,h1,h2,h3,_⟩:=hs
      exact ⟨g,a,h1,h2,h3,rfl⟩
    · simp at hs
  all_goals first
    | (obtain ⟨h1,h2,_⟩:=hs; exact ⟨g,h1,h2,rfl⟩)
    | (obtain ⟨a,h1,h2,h3,_⟩:=hs; exact ⟨g,a,h1,h2,h3,rfl⟩)
theorem pU {ty : TypeId} {x : D} (hx : notRef x = true) (g : List Blk) : bD P g ty x = bD P h ty x:=by
  cases x <;> first | rfl | simp [notRef] at hx
theorem kR {x : D} (hx : notRef x = true) (g : List Blk) : lenD g x = lenD h x:=by
  cases x with
  | p y =>
    unfold lenD
    split <;> first | rfl | simp_all
  | fn f a c=>cases f <;> rfl
  | ref r=>simp [notRef] at hx
  | _=>rfl
theorem jM {n : Nat} {x : D} (hx : notRef x = true) (g : List Blk) : pn g n x = pn h n x:=by
  cases x <;> first | rfl | simp [notRef] at hx
theorem j4 {x : D} (hx : notRef x = true) (g : List Blk) : cW g x = cW h x:=by
  cases x with
  | p y =>
    unfold cW
    split <;> first | rfl | simp_all
  | fn f a c=>cases f <;> rfl
  | ref r=>simp [notRef] at hx
  | _=>rfl
theorem pV {x : D} (hx : notRef x = true) (g : List Blk) : nR g x = nR h x:=by
  cases x with
  | p y =>
    unfold nR
    split <;> first | rfl | simp_all
  | fn f a c=>cases f <;> rfl
  | ref r=>simp [notRef] at hx
  | _=>rfl
theorem oq {x : D} (hx : notRef x = true) (g : List Blk) : my g x = my h x:=by
  cases x <;> first | rfl | simp [notRef] at hx
theorem kS {x : D} {sz n : Nat} {l u : Int} {mx : Option Int} (hx : notRef x = true) (g : List Blk) : sliceRow g x sz n l u mx = sliceRow h x sz n l u mx:=by
  cases x with
  | p y =>
    unfold sliceRow
    split <;> first | rfl | simp_all
  | fn f a c=>cases f <;> rfl
  | ref r=>simp [notRef] at hx
  | _=>rfl
theorem kT {x : D} {len : Nat} {e : TypeId} {l : Int} {hi : Option D} {mx : Option Int} (hx : notRef x = true) (g : List Blk) : f9 P g len e x l hi mx = f9 P h len e x l hi mx:=by
  cases x <;> first | rfl | simp [notRef] at hx
theorem pW {ty : TypeId} {x : D} (hx : notRef x = true) (g : List Blk) : uU P g ty x = uU P h ty x:=by
  unfold uU
  simp only [kR (h:=h) hx g]
  cases P.underlying ty with
  | none=>rfl
  | some ud =>
    cases ud <;> first
      | rfl
      | (dsimp only
         cases x with
         | p y =>
           split <;> first | rfl | simp_all
         | ref r=>simp [notRef] at hx
         | _=>rfl)
def headOf : Op → Option Operand
  | .load _ a=>some a
  | .nilCheck x=>some x
  | .slice _ x _ _ _=>some x
  | .fieldAddr _ x _=>some x
  | .indexAddr _ x _=>some x
  | .lookup _ x _ _=>some x
  | .entry x=>some x
  | .call { callee:=.builtin .len,args,.. }=>match args.toList with
    | [x]=>some x
    | _=>none
  | _=>none
theorem c4 {o : Op} (hq : quietOp o = true) {x : Operand} (hx : headOf o = some x) (hn : notRef (evalD Γ t x) = true) {ok : Bool} {d : D} {h' : List Blk} (hs : opSem P Γ t h o = some (ok,d,h')) (g : List Blk) : ∃ g',opSem P Γ t g o = some (ok,d,g'):=by
  cases o <;> simp only [headOf,Fq,reduceCtorEq] at hx
  case load ty a =>
    subst hx
    simp only [opSem,FD,keep,Fw] at hs ⊢
    obtain ⟨a,h1,h2,h3,_⟩:=hs
    exact ⟨g,a,by rw [pU (h:=h) hn]; exact h1,h2,h3,rfl⟩
  case nilCheck a =>
    subst hx
    simp only [opSem,FD,keep,Fw] at hs ⊢
    obtain ⟨a,h1,h2,h3,_⟩:=hs
    exact ⟨g,a,by rw [j4 (h:=h) hn]; exact h1,h2,h3,rfl⟩
  case slice ty a lo hi mx =>
    subst hx
    simp only [opSem,FD,keepB,Fw] at hs ⊢
    obtain ⟨a,h1,h2,h3,_⟩:=hs
    refine ⟨g,a,?_,h2,h3,rfl⟩
    unfold pw at h1 ⊢
    simp only [kR (h:=h) hn g,kS (h:=h) hn g,kT (h:=h) hn g]
    exact h1
  case fieldAddr s a f =>
    subst hx
    simp only [opSem,FD,keep,Fw] at hs ⊢
    obtain ⟨a,h1,h2,h3,_⟩:=hs
    refine ⟨g,a,?_,h2,h3,rfl⟩
    unfold ey at h1 ⊢
    simp only [jM (h:=h) hn g]
    exact h1
  case indexAddr ty a i =>
    subst hx
    simp only [opSem,FD,keepB,Fw] at hs ⊢
    obtain ⟨r,h1,h2,h3,_⟩:=hs
    refine ⟨g,r,?_,h2,h3,rfl⟩
    rw [← h1]
    generalize evalD Γ t a = y at hn
    unfold cz
    simp only [jM (h:=h) hn g]
    cases intOf? (evalD Γ t i) with
    | none=>rfl
    | some ki =>
      cases P.underlying ty with
      | none=>rfl
      | some ud =>
        cases ud <;> first
          | rfl
          | (rename_i e
             dsimp only
             cases szOf P e <;> cases y with
               | p z=>cases z <;> rfl
               | ref r=>simp [notRef] at hn
               | _=>rfl)
  case lookup ty a k ok' =>
    subst hx
    simp only [opSem,FD,keep,Fw] at hs ⊢
    obtain ⟨a,h1,h2,h3,_⟩:=hs
    refine ⟨g,a,?_,h2,h3,rfl⟩
    unfold aA at h1 ⊢
    simp only [pV (h:=h) hn g]
    exact h1
  case entry a =>
    subst hx
    simp only [opSem,FD,keep,Fw] at hs ⊢
    obtain ⟨a,h1,h2,h3,_⟩:=hs
    exact ⟨g,a,by rw [oq (h:=h) hn]; exact h1,h2,h3,rfl⟩
  case call c =>
    obtain ⟨callee,args,ats⟩:=c
    cases callee with
    | builtin b =>
      cases b <;> simp only [reduceCtorEq] at hx
      split at hx
      · rename_i y hy
        cases hx
        simp only [opSem,hy,GJ,List.map_nil] at hs ⊢
        unfold builtinD at hs ⊢
        split at hs
        all_goals first
          | (simp only [FD] at hs ⊢
             obtain ⟨a,h1,h2⟩:=hs
             simp only [keep,Fw] at h2 ⊢
             obtain ⟨h2,h3,_⟩:=h2
             exact ⟨g,a,by rw [pW (h:=h) (by simp_all)]; exact h1,h2,h3,rfl⟩)
          | simp_all
      · simp at hx
    | _=>simp [] at hx
end
def CX (x : Nat) : List Nat → Bool
 | []=>false
 | y :: ys=>x == y || CX x ys
def ce (F : List Nat) (i : Nat) (o : Oper) : Bool:=quietOp o.op || CX i F
structure DrawOkF (F : List Nat) (L : List Oper) (B : List Nat) : Prop where
 self : ∀ (i : Nat) (o : Oper),L[i]? = some o → (B.getD i 0).testBit i = false
 edge : ∀ (i : Nat) (o : Oper),L[i]? = some o → ∀ e ∈ o.after.toList,GH .any e = true → e.on < i
 uniq : ∀ (i k : Nat) (o o' : Oper) (x : Tmp),L[i]? = some o → L[k]? = some o' → o.dst = some x → o'.dst = some x → i = k
 oper : ∀ (i : Nat) (o : Oper) (x : Tmp),L[i]? = some o → x ∈ cY L o → ∀ (k : Nat) (o' : Oper),L[k]? = some o' → o'.dst = some x → (B.getD i 0).testBit k = true ∨ (B.getD k 0).testBit i = true
 chain : ∀ (i k : Nat) (o o' : Oper),L[i]? = some o → L[k]? = some o' → i < k → ce F i o = false → ce F k o' = false → (B.getD k 0).testBit i = true
def tQ (F : List Nat) (L : List Oper) (B : List Nat) : Bool :=
 L.zipIdx.all fun p=>!(B.getD p.2 0).testBit p.2 && (
  (p.1.after.toList.all fun e=>!GH .any e || decide (e.on < p.2)) &&
  (L.zipIdx.all fun q=>(p.2 == q.2 || p.1.dst.isNone || !(p.1.dst == q.1.dst)) &&
   (!decide (q.2 < p.2) || ce F q.2 q.1 || ce F p.2 p.1 || (B.getD p.2 0).testBit q.2)) &&
  ((cY L p.1).all fun x=>L.zipIdx.all fun q=>!(q.1.dst == some x) || (B.getD p.2 0).testBit q.2 || (B.getD q.2 0).testBit p.2))
theorem vg {F : List Nat} {L : List Oper} {B : List Nat} (h : tQ F L B = true) : DrawOkF F L B where
 self i o ho:=by
  have:=aU h ho
  simp only [FB] at this
  simpa using this.1
 edge i o ho e he hb:=by
  have:=aU h ho
  simp only [FB] at this
  have:=FZ.1 this.2.1.1 e he
  simpa [hb] using this
 uniq i k o o' x ho ho' hd hd':=by
  have:=aU h ho
  simp only [FB] at this
  have:=aU this.2.1.2 ho'
  simp only [FB] at this
  have:=this.1
  simpa [hd,hd'] using this
 oper i o x ho hx k o' ho' hd:=by
  have:=aU h ho
  simp only [FB] at this
  have:=FZ.1 this.2.2 x hx
  have:=aU this ho'
  simpa [hd,Bool.or_assoc] using this
 chain i k o o' ho ho' hik hq hq':=by
  have:=aU h ho'
  simp only [FB] at this
  have:=aU this.2.1.2 ho
  simp only [FB] at this
  have:=this.2
  simpa [hik,hq,hq'] using this
def fL (F : List Nat) (L : List Oper) : List Nat:=(L.zipIdx.filter fun p=>!ce F p.2 p.1).map (·.2)
def i8 (F : List Nat) (L : List Oper) (B : List Nat) (i k : Nat) : Bool:=(fL F L).all fun c=>if c < k then !(B.getD c 0).testBit i else !(B.getD i 0).testBit c
def gy (F : List Nat) (L : List Oper) : List Nat:=0 :: (fL F L).map (· + 1)
theorem si {F : List Nat} {L : List Oper} {c : Nat} {o : Oper} (ho : L[c]? = some o) (hq : ce F c o = false) : c ∈ fL F L:=by
 unfold fL
 rw [FY]
 exact ⟨(o,c),by rw [IA,GW]; exact ⟨ho,by simp [hq]⟩,rfl⟩
theorem ef {F : List Nat} {L : List Oper} {c : Nat} (h : c ∈ fL F L) : ∃ o,L[c]? = some o ∧ ce F c o = false:=by
 unfold fL at h
 rw [FY] at h
 obtain ⟨⟨o,i⟩,h1,rfl⟩:=h
 rw [IA,GW] at h1
 exact ⟨o,h1.1,by simpa using h1.2⟩
def w5 (P : Program) (Γ : ap) (F : List Nat) (L : List Oper) (B : List Nat) (tF : List D) (hs : List (List Blk)) (ts : List (List D)) : Prop :=
 ∀ (i : Nat) (o : Oper),L[i]? = some o → ce F i o = true → (∃ f,FixOk f ∧ aP L ((ts.getD i []).map f) o.guard = some true) → ∀ k ∈ gy F L,i8 F L B i k = true →
  ∃ f d,FixOk f ∧ OpOk P Γ ((ts.getD i []).map f) (hs.getD k []) o.op d (hs.getD k []) ∧ ∀ x,o.dst = some x → Wk d (tF.getD x .any)
section
variable {P : Program} {Γ : ap} {X : Ctx} {r : Option Nat} {call : CallF} {ops : Array Oper} {m : List Nat} {t0 tF : List D} {hs : List (List Blk)} {ts : List (List D)} {Q : Exit → AS → Prop} {F : List Nat}
structure InvF (F : List Nat) (Γ : ap) (X : Ctx) (L : List Oper) (m : List Nat) (t0 tF : List D) (hs : List (List Blk)) (k : Nat) (S : Array Bool) (a : Act) (w : World) : Prop where
 size : S.size = L.length
 closed : jK L (Lst S)
 st : St Γ X { t:=gx L S t0 tF,h:=hs.getD k [],m:=m } a w
 cand : k ∈ gy F L
 chain : ∀ c o,L[c]? = some o → ce F c o = false → (Lst S c ↔ c < k)
theorem sj (hD : DrawOkF F ops.toList (cX ops.toList [])) (hr : runR P Γ m ops.toList Wk FixOk ops.toList t0 (hs.getD 0 []) tF hs ts)
  (hq : w5 P Γ F ops.toList (cX ops.toList []) tF hs ts) (hF : ∀ j o,ops.toList[j]? = some o → CX j F = true → hs.getD (j + 1) [] = hs.getD j []) (hQ : Q .normal { t:=tF,h:=hs.getD ops.size [],m:=m }) :
  ∀ (fuel : Nat) (k : Nat) (S : Array Bool) (a : Act) (w : World),InvF F Γ X ops.toList m t0 tF hs k S a w → (Gy ops.size).countP (fun j=>!S.getD j false) ≤ fuel →
   wpAnyIn (FW r) 0 P .any ops (n7 Γ X Q) fuel S a w:=by
 obtain ⟨hlen0,_,_,_,hat⟩:=kI _ _ _ _ _ _ hr
 have hn : ops.toList.length = ops.size:=by simp
 have hconst1 : ∀ j o,ops.toList[j]? = some o → ce F j o = true → hs.getD (j + 1) [] = hs.getD j []:=by
  intro j o ho hqo
  unfold ce at hqo
  rw [Bool.or_eq_true] at hqo
  rcases hqo with hqo | hqo
  case inr=>exact hF j o ho hqo
  obtain ⟨call,hc,f,d',d,⟨_,h1,_⟩,_⟩:=hat j o ho
  exact kK hqo h1
 have hconst : ∀ (n k : Nat),(∀ c o,ops.toList[c]? = some o → ce F c o = false → ¬ (k ≤ c ∧ c < k + n)) → k + n ≤ ops.size → hs.getD (k + n) [] = hs.getD k []:=by
  intro n
  induction n with
  | zero=>intro k _ _; rfl
  | succ n ih =>
   intro k h1 h2
   have hlt : k + n < ops.toList.length:=by omega
   have ho:=List.getElem?_eq_getElem hlt
   have hqo : ce F (k + n) (ops.toList[k + n]) = true:=by
    rw [← Bool.not_eq_false]
    exact fun hf=>h1 _ _ ho hf (by omega)
   rw [← Nat.add_assoc,hconst1 _ _ ho hqo]
   exact ih k (fun c o hc1 hc2=>fun hx=>h1 c o hc1 hc2 (by omega)) (by omega)
 have bound : ∀ i j o,ops.toList[i]? = some o → ((cX ops.toList []).getD i 0).testBit j = true → j < i:=by
  intro i j o ho hb
  have hcl : jK ops.toList (fun x=>x ≤ i):=fun k o' hk ho' e he hbe=>by
   have:=hD.edge k o' ho' e he hbe
   show e.on ≤ i
   omega
  have h1 : j ≤ i:=cO hcl (k:=i) (FT i) j hb
  have h2:=hD.self i o ho
  rcases Nat.lt_or_eq_of_le h1 with h | h
  ·exact h
  ·subst h; rw [h2] at hb; cases hb
 have fin : ∀ (k : Nat) (S : Array Bool) (a : Act) (w : World),InvF F Γ X ops.toList m t0 tF hs k S a w → (∀ j,j < ops.size → Lst S j) → n7 Γ X Q .normal a w:=by
  intro k S a w I hall
  refine ⟨by simp,_,hQ,?_⟩
  have e1 : gx ops.toList S t0 tF = tF:=by
   refine bp (ay ..) fun x hx=>?_
   rw [ay] at hx
   refine cZ fun c o hc1 _=>hall c ?_
   have:=(Fy.1 hc1).1
   omega
  have hk : k ≤ ops.size:=by
   have:=I.cand
   simp only [gy,Gd,FY] at this
   rcases this with rfl | ⟨c,hc1,rfl⟩
   ·omega
   ·obtain ⟨o,ho,_⟩:=ef hc1
    have:=(Fy.1 ho).1
    omega
  have e2 : hs.getD ops.size [] = hs.getD k []:=by
   have:=hconst (ops.size - k) k (fun c o hc1 hc2 hx=>by
    have h1:=(I.chain c o hc1 hc2).1 (hall c (by omega))
    omega) (by omega)
   rwa [show k + (ops.size - k) = ops.size by omega] at this
  rw [e2]
  have:=I.st
  rw [e1] at this
  exact this
 intro fuel
 induction fuel with
 | zero =>
  intro k S a w I hcnt
  have hall : ∀ j,j < ops.size → Lst S j:=by
   intro j hj
   have h0 : (Gy ops.size).countP (fun j=>!S.getD j false) = 0:=by omega
   rw [List.countP_eq_zero] at h0
   have:=h0 j (by simpa using hj)
   simpa [Lst] using this
  refine ⟨?_,fin k S a w I hall⟩
  unfold I4
  rw [Jn]
  intro j hj
  have hj' : j < ops.size:=by simpa using hj
  have:=hall j hj'
  have hs2 : j < S.size:=by rw [I.size,hn]; exact hj'
  unfold Lst at this
  have h3 : S.getD j true = true:=by
   simp only [Gn,Gt hs2,Hl] at this ⊢
   exact this
  simp [h3]
 | succ fuel ih =>
  intro k S a w I hcnt
  refine ⟨fun hnone=>?_,fun i hi=>?_⟩
  ·-- nothing is ready: all is done
   refine fin k S a w I ?_
   have key : ∀ n,∀ j,j < n → j < ops.size → Lst S j:=by
    intro n
    induction n with
    | zero=>intro j hj; omega
    | succ n ihn =>
     intro j hj hjs
     by_cases hjn : j < n
     ·exact ihn j hjn hjs
     have : j = n:=by omega
     subst this
     apply GI
     intro hno
     unfold I4 at hnone
     rw [Jn] at hnone
     have h1:=hnone j (by simpa using hjs)
     apply h1
     have hs2 : j < S.size:=by rw [I.size,hn]; exact hjs
     have ho : ops[j]? = some ops[j]:=Gt hjs
     have h3 : S.getD j true = false:=by
      unfold Lst at hno
      simp only [Gn,Gt hs2,Hl] at hno ⊢
      simpa using hno
     have h4 : (ops[j].after.all fun e=>!GH .any e || S.getD e.on false) = true:=by
      rw [H8]
      intro e he
      cases hb : GH .any e
      ·rfl
      ·have hlt:=hD.edge j ops[j] (by simp) e (by simpa using he) hb
       have:=ihn e.on hlt (by omega)
       simpa [Lst] using this
     rw [h3,ho]
     simpa using h4
   exact fun j hj=>key (j + 1) j (by omega) hj
  ·-- an operation that is ready
   unfold I4 at hi
   rw [IA] at hi
   obtain ⟨hi1,hi2⟩:=hi
   have his : i < ops.size:=by simpa using hi1
   have hiS : i < S.size:=by rw [I.size,hn]; exact his
   have ho : ops[i]? = some ops[i]:=Gt his
   generalize ho0 : ops[i] = o at ho
   have hoL : ops.toList[i]? = some o:=by simpa using ho
   simp only [ho,Gb,Hl,FB,GN] at hi2
   obtain ⟨hi3,hi4⟩:=hi2
   have hnotS : ¬ Lst S i:=by
    unfold Lst
    simp only [Gn,Gt hiS,Hl] at hi3 ⊢
    simp [hi3]
   have hpre : ∀ e ∈ o.after.toList,GH .any e = true → Lst S e.on:=by
    intro e he hb
    rw [H8] at hi4
    have:=hi4 e (by simpa using he)
    simpa [hb,Lst] using this
   have hsetS : ∀ j,Lst (S.setIfInBounds i true) j ↔ j = i ∨ Lst S j:=fun j=>oi hiS
   have hclosed' : jK ops.toList (Lst (S.setIfInBounds i true)):=by
    intro k' o' hk' ho' e he hb
    rw [hsetS] at hk' ⊢
    rcases hk' with rfl | hk'
    ·rw [hoL] at ho'
     cases ho'
     exact .inr (hpre e he hb)
    ·exact .inr (I.closed k' o' hk' ho' e he hb)
   have hbits : ∀ j,((cX ops.toList []).getD i 0).testBit j = true → j < i ∧ Lst S j:=by
    intro j hj
    have h1:=bound i j o hoL hj
    have h2:=cO hclosed' (k:=i) ((hsetS i).2 (.inl rfl)) j hj
    rw [hsetS] at h2
    exact ⟨h1,h2.resolve_left (by omega)⟩
   obtain ⟨call,hc,f,dw,d,⟨hfx,hst,hwk⟩,htF,ht0,hdF⟩:=hat i o hoL
   have hseen : ∀ x ∈ cY ops.toList o,(gx ops.toList S t0 tF).getD x .any = (ts.getD i []).getD x .any:=by
    intro x hx
    by_cases hwr : ∃ (k' : Nat) (o' : Oper),ops.toList[k']? = some o' ∧ o'.dst = some x
    ·obtain ⟨k',o',hk',hd'⟩:=hwr
     have huq : ∀ (j : Nat) (o2 : Oper),ops.toList[j]? = some o2 → o2.dst = some x → j = k':=fun j o2 hj hd2=>hD.uniq j k' o2 o' x hj hk' hd2 hd'
     rcases hD.oper i o x hoL hx k' o' hk' hd' with hb | hb
     ·obtain ⟨hlt,hSk⟩:=hbits k' hb
      rw [cZ (fun k2 o2 hk2 hd2=>by rw [huq k2 o2 hk2 hd2]; exact hSk)]
      exact htF x fun j o2 hj ho2 hd2=>by
       have:=huq j o2 ho2 hd2
       omega
     ·have hlt:=bound k' i o' hk' hb
      have hnk : ¬ Lst S k':=fun hSk=>hnotS (cO I.closed hSk i hb)
      rw [tG hlen0 hk' hd' (by unfold Lst at hnk; simpa using hnk)]
      exact (ht0 x fun j o2 hj ho2 hd2=>by
       have:=huq j o2 ho2 hd2
       omega).symm
    ·rw [cZ (fun k2 o2 hk2 hd2=>absurd ⟨k2,o2,hk2,hd2⟩ hwr)]
     exact htF x fun j o2 hj ho2 hd2=>hwr ⟨j,o2,ho2,hd2⟩
   have hseenF : ∀ x ∈ cY ops.toList o,(ts.getD i []).getD x .any = (gx ops.toList S t0 tF).getD x .any:=fun x hx=>(hseen x hx).symm
   have hst' : dd P Γ call m ops.toList ((gx ops.toList S t0 tF).map f) (hs.getD i []) o = some (dw,hs.getD (i + 1) []):=by
    rw [kH (t':=(ts.getD i []).map f) (fun x hx=>by rw [bh hfx.any,bh hfx.any,hseen x hx])]; exact hst
   have hfixed : ∀ {a : Act} {w : World},InvF F Γ X ops.toList m t0 tF hs k S a w → St Γ X { t:=(gx ops.toList S t0 tF).map f,h:=hs.getD k [],m:=m } a w:=fun I=>I.st.fix hfx
   have hput : putD (gx ops.toList S t0 tF) o.dst d = gx ops.toList (S.setIfInBounds i true) t0 tF:=by
    refine og hoL hiS (fun k' o' hk' x hx hx'=>hD.uniq k' i o' o x hk' hoL hx' hx) fun x hx hlt=>hdF x hx (fun j o' hj ho' hd'=>?_) ?_
    ·have:=hD.uniq j i o' o x ho' hoL hd' hx
     omega
    ·rw [← hlen0]; exact hlt
   have hcnt' : (Gy ops.size).countP (fun j=>!(S.setIfInBounds i true).getD j false) ≤ fuel:=by
    have : (Gy ops.size).countP (fun j=>!(S.setIfInBounds i true).getD j false) < (Gy ops.size).countP (fun j=>!S.getD j false):=by
     refine kJ (fun x hx=>?_) i (by simpa using his) ?_ ?_
     ·have h1 : ¬ Lst (S.setIfInBounds i true) x:=by unfold Lst; simpa using hx
      rw [hsetS] at h1
      have : ¬ Lst S x:=fun h=>h1 (.inr h)
      unfold Lst at this
      simpa using this
     ·unfold Lst at hnotS; simpa using hnotS
     ·have : Lst (S.setIfInBounds i true) i:=(hsetS i).2 (.inl rfl)
      unfold Lst at this
      simpa using this
    omega
   have hk_le : ce F i o = false → k ≤ i:=by
    intro hqo
    have:=I.cand
    simp only [gy,Gd,FY] at this
    rcases this with rfl | ⟨c,hc1,rfl⟩
    ·omega
    ·obtain ⟨o',ho',hq'⟩:=ef hc1
     have hcS : Lst S c:=(I.chain c o' ho' hq').2 (by omega)
     apply GI
     intro hlt
     by_cases hci : c = i
     ·exact hnotS (hci ▸ hcS)
     ·exact hnotS (cO I.closed hcS i (hD.chain i c o o' hoL ho' (by omega) hqo hq'))
   have hheap : ce F i o = false → hs.getD i [] = hs.getD k []:=by
    intro hqo
    have hk:=hk_le hqo
    have:=hconst (i - k) k (fun c o' hc1 hc2 hx=>by
     have h1:=hbits c (hD.chain c i o' o hc1 hoL (by omega) hc2 hqo)
     have:=(I.chain c o' hc1 hc2).1 h1.2
     omega) (by omega)
    rwa [show k + (i - k) = i by omega] at this
   unfold wpOpIn
   simp only [ho]
   cases hqo : ce F i o
   ·-- it may change the heap
    have hInv : ∀ a' w',St Γ X { t:=putD (gx ops.toList S t0 tF) o.dst d,h:=hs.getD (i + 1) [],m:=m } a' w' → InvF F Γ X ops.toList m t0 tF hs (i + 1) (S.setIfInBounds i true) a' w':=by
     intro a' w' hst2
     refine ⟨by simpa using I.size,hclosed',by rw [← hput]; exact hst2,?_,?_⟩
     ·simp only [gy,Gd,FY]
      exact .inr ⟨i,si hoL hqo,rfl⟩
     ·intro c o' ho' hq'
      rw [hsetS,I.chain c o' ho' hq']
      have hk:=hk_le hqo
      constructor
      ·rintro (rfl | h) <;> omega
      ·intro h
       by_cases hci : c = i
       ·exact .inl hci
       ·have h1:=hbits c (hD.chain c i o' o ho' hoL (by omega) hq' hqo)
        exact .inr ((I.chain c o' ho' hq').1 h1.2)
    rw [hheap hqo] at hst'
    unfold dd at hst'
    split at hst'
    ·rename_i hg
     split at hst'
     ·rename_i d1 h1 hop
      split at hst'
      ·rename_i hm
       simp only [Fq,Fw] at hst'
       obtain ⟨rfl,rfl⟩:=hst'
       have hw : HI o (yielded ops a.tmps) = true:=by
        obtain ⟨l,R,E,rt,rd⟩:=hfixed I
        exact aQ rt hg
       rw [if_pos hw]
       exact oa (s:={ t:=(gx ops.toList S t0 tF).map f,h:=hs.getD k [],m:=m }) hc hop hm (fun a' w' hs'=>ih (i + 1) _ a' w' (hInv a' w' (Lx hfx hwk hs')) hcnt') (hfixed I)
      ·simp at hst'
     ·simp at hst'
    ·rename_i hg
     simp only [Fq,Fw] at hst'
     obtain ⟨rfl,hh⟩:=hst'
     have hw : HI o (yielded ops a.tmps) = false:=by
      obtain ⟨l,R,E,rt,rd⟩:=hfixed I
      exact aQ rt hg
     rw [if_neg (by simp [hw])]
     refine ⟨fun _ _=>trivial,ih (i + 1) _ _ w (hInv _ w (Lx hfx hwk ?_)) hcnt'⟩
     rw [← hh]
     exact St.skip o.dst (hfixed I)
    ·simp at hst'
   ·-- it leaves the heap alone
    have hInv : ∀ a' w',St Γ X { t:=putD (gx ops.toList S t0 tF) o.dst d,h:=hs.getD k [],m:=m } a' w' → InvF F Γ X ops.toList m t0 tF hs k (S.setIfInBounds i true) a' w':=by
     intro a' w' hst2
     refine ⟨by simpa using I.size,hclosed',by rw [← hput]; exact hst2,I.cand,?_⟩
     intro c o' ho' hq'
     rw [hsetS,← I.chain c o' ho' hq']
     constructor
     ·rintro (rfl | h)
      ·rw [hoL] at ho'; cases ho'; rw [hqo] at hq'; cases hq'
      ·exact h
     ·exact .inr
    have hgF : ∀ f : D → D,f .any = .any → aP ops.toList ((ts.getD i []).map f) o.guard = aP ops.toList ((gx ops.toList S t0 tF).map f) o.guard:=fun f hf =>
     fG fun x hx=>by rw [bh hf,bh hf,hseenF x (by unfold cY; simp only [He,Option.mem_toList]; exact .inr hx)]
    unfold dd at hst'
    split at hst'
    ·rename_i hg
     have hw : HI o (yielded ops a.tmps) = true:=by
      obtain ⟨l,R,E,rt,rd⟩:=hfixed I
      exact aQ rt hg
     rw [if_pos hw]
     have hcomp : i8 F ops.toList (cX ops.toList []) i k = true:=by
      unfold i8
      rw [FZ]
      intro c hc1
      obtain ⟨o',ho',hq'⟩:=ef hc1
      split
      ·rename_i hlt
       have hcS:=(I.chain c o' ho' hq').2 hlt
       rw [GN,HW]
       exact fun hb=>hnotS (cO I.closed hcS i hb)
      ·rename_i hlt
       rw [GN,HW]
       exact fun hb=>hlt ((I.chain c o' ho' hq').1 (hbits c hb).2)
     obtain ⟨f2,d2,hfx2,hopk,hd2⟩:=hq i o hoL hqo ⟨f,hfx,by rw [hgF f hfx.any]; exact hg⟩ k I.cand hcomp
     obtain ⟨call2,hc2,hop⟩:=OpOk.congr (t':=(gx ops.toList S t0 tF).map f2) (fun x hx=>gF fun j hj=>by
      rw [bh hfx2.any,bh hfx2.any,hseenF j (by
      unfold cY; simp only [He,List.mem_filterMap]; exact .inl ⟨x,by simpa using hx,hj⟩)]) hopk
     refine oa (s:={ t:=(gx ops.toList S t0 tF).map f2,h:=hs.getD k [],m:=m }) hc2 hop I.st.marks (fun a' w' hs'=>ih k _ a' w' ⟨by simpa using I.size,hclosed',?_,I.cand,?_⟩ hcnt') (I.st.fix hfx2)
     ·rw [← hput]
      refine St.put_wk (fun x hx hlt=>?_) (Lx hfx2 (Wk.refl d2) hs')
      have h3:=hdF x hx (fun j o' hj ho' hd'=>by
       have:=hD.uniq j i o' o x ho' hoL hd' hx
       omega) (by rw [ay] at hlt; rw [← hlen0]; exact hlt)
      rw [← h3]
      exact hd2 x hx
     ·intro c o' ho' hq'
      rw [hsetS,← I.chain c o' ho' hq']
      constructor
      ·rintro (rfl | h)
       ·rw [hoL] at ho'; cases ho'; rw [hqo] at hq'; cases hq'
       ·exact h
      ·exact .inr
    ·rename_i hg
     simp only [Fq,Fw] at hst'
     obtain ⟨rfl,hh⟩:=hst'
     have hw : HI o (yielded ops a.tmps) = false:=by
      obtain ⟨l,R,E,rt,rd⟩:=hfixed I
      exact aQ rt hg
     rw [if_neg (by simp [hw])]
     exact ⟨fun _ _=>trivial,ih k _ _ w (hInv _ w (Lx hfx hwk (St.skip (s:={ t:=(gx ops.toList S t0 tF).map f,h:=hs.getD k [],m:=m }) o.dst (hfixed I)))) hcnt'⟩
    ·simp at hst'
theorem VW.drawF {s : AS} (ok : POk P) {id : Nat} (hD : DrawOkF F ops.toList (cX ops.toList [])) (hr : runR P Γ s.m ops.toList Wk FixOk ops.toList s.t s.h tF hs ts)
  (hq : w5 P Γ F ops.toList (cX ops.toList []) tF hs ts) (hF : ∀ j o,ops.toList[j]? = some o → CX j F = true → hs.getD (j + 1) [] = hs.getD j []) (hQ : Q .normal { t:=tF,h:=hs.getD ops.size [],m:=s.m }) : VW P Γ X r (.region id ops true) Q s:=by
 obtain ⟨g1,g2,g3,g4,_⟩:=kI _ _ _ _ _ _ hr
 have h0 : hs.getD 0 [] = s.h:=by simp [List.getD_eq_getElem?_getD,g3]
 intro a w hst
 refine wpIn_region_any ok.mixed ?_
 rw [← h0] at hr
 refine sj (t0:=s.t) (hs:=hs) hD hr hq hF hQ ops.size 0 _ a _ ?_ ?_
 ·have hrep : ∀ j,(Ki ops.size false).getD j false = false:=by
   intro j
   simp only [Gn,Array.getElem?_replicate]
   split <;> rfl
  refine ⟨by simp,fun k o hk _ _ _ _=>?_,?_,by simp [gy],fun c o _ _=>?_⟩
  ·unfold Lst at hk; rw [hrep] at hk; cases hk
  ·have e1 : gx ops.toList (Ki ops.size false) s.t tF = s.t:=by
    refine bp (by rw [ay,g1]) fun x hx=>?_
    rw [ay] at hx
    rw [gc hx]
    split
    ·rfl
    ·rename_i hp
     refine g2 x fun o ho hd=>hp ?_
     obtain ⟨k,hk⟩:=List.mem_iff_getElem?.1 ho
     exact di.2 ⟨k,o,hk,hd,hrep k⟩
   rw [e1,h0]
   obtain ⟨l,R,E,rt,rd⟩:=hst
   obtain ⟨R',E'⟩:=R.of_heap (w':={ w with drawn:=w.drawn + 1 }) rfl ⟨rfl,rfl,rfl,(by first | exact FT _ | exact HK _)⟩
   exact ⟨l,R',E.trans E',E'.relL rt,rd⟩
  ·unfold Lst
   rw [hrep]
   simp
 ·refine Nat.le_trans List.countP_le_length (by simp)
end
theorem gg (i : Nat) (o : Oper) : ce [] i o = quietOp o.op:=by simp [ce,CX]
theorem sk (L : List Oper) : fL [] L = fH L:=by unfold fL fH; simp only [gg]
theorem VW.drawE {P : Program} {Γ : ap} {X : Ctx} {r : Option Nat} {ops : Array Oper} {tF : List D} {hs : List (List Blk)} {ts : List (List D)} {Q : Exit → AS → Prop} {s : AS} (ok : POk P) {id : Nat} (hD : DrawOk ops.toList (cX ops.toList [])) (hr : runR P Γ s.m ops.toList Wk FixOk ops.toList s.t s.h tF hs ts)
  (hq : wO P Γ ops.toList (cX ops.toList []) tF hs ts) (hQ : Q .normal { t:=tF,h:=hs.getD ops.size [],m:=s.m }) : VW P Γ X r (.region id ops true) Q s:=by
 refine VW.drawF (F:=[]) ok ⟨hD.self,hD.edge,hD.uniq,hD.oper,fun i k o o' h1 h2 h3 h4 h5=>hD.chain i k o o' h1 h2 h3 (by rw [gg] at h4; exact h4) (by rw [gg] at h5; exact h5)⟩ hr ?_ (fun _ _ _ h=>by cases h) hQ
 intro i o ho hqo hg k hk hc
 rw [gg] at hqo
 unfold gy at hk
 unfold i8 at hc
 rw [sk] at hk hc
 obtain ⟨f,d,h',h1,h2,h3⟩:=hq i o ho hqo hg k hk hc
 have:=bL hqo h2
 subst this
 exact ⟨f,d,h1,OpOk.sem h2,h3⟩
section
variable {P : Program} {Γ : ap} {X : Ctx} {r : Option Nat} {Q : Exit → AS → Prop} {t : List D} {h : List Blk} {m : List Nat}
theorem VW.drawW (ok : POk P) {id : Nat} {ops : Array Oper} (hD : r8 ops.toList (cX ops.toList []) = true) (hx : ops.toList.all (fun o=>match o.dst with | some x=>decide (x < t.length) | none=>true) = true)
  (hr : RW P Γ m ops.toList true ops.toList t h (fun t' h'=>Q .normal { t:=t',h:=h',m:=m })) : VW P Γ X r (.region id ops true) Q { t:=t,h:=h,m:=m }:=by
 obtain ⟨tF,hs,ts,g1,g2,g3⟩:=RW.runR _ _ _ hr
 have hD':=pK hD
 have hx':=hx
 clear hx
 refine VW.drawE (hs:=hs) (ts:=ts) ok hD' g1 ?_ ?_
 ·intro i o ho hq ⟨f0,hf0,hg0⟩ k hk hcomp
  obtain ⟨g5,g6,g7,g8,hat⟩:=kI _ _ _ _ _ _ g1
  obtain ⟨call,hc,f,dw,d,⟨hfx,h1,hwk⟩,h2,h3,h4⟩:=hat i o ho
  have hi : i ≤ ops.toList.length:=by
   have:=(Fy.1 ho).1
   omega
  have hk' : k ≤ ops.toList.length:=by
   simp only [An,Gd,FY] at hk
   rcases hk with rfl | ⟨c,hc1,rfl⟩
   ·omega
   ·obtain ⟨o',ho',_⟩:=hR hc1
    have:=(Fy.1 ho').1
    omega
  rw [g3 i hi] at h1
  rw [g3 k hk']
  have hwx : ∀ x,o.dst = some x → Wk dw (tF.getD x .any):=fun x hx=>by
   have hxl : x < t.length:=by
    have:=FZ.1 hx' o (FV ho)
    simpa [hx] using this
   rw [h4 x hx (fun j o' hj ho' hd=>by have:=hD'.uniq i j o o' x ho ho' hx hd; omega) hxl]
   exact hwk
  unfold dd at h1
  split at h1
  ·rename_i hg
   split at h1
   ·rename_i d1 h1' hop
    split at h1
    ·simp only [Fq,Fw] at h1
     obtain ⟨rfl,_⟩:=h1
     unfold fE at hop
     split at hop
     ·rename_i ho2
      rw [ho2] at hq
      simp [quietOp] at hq
     ·split at hop
      ·rename_i hsem
       cases hop
       exact ⟨f,_,_,hfx,hsem,hwx⟩
      ·simp at hop
    ·simp at h1
   ·simp at h1
  ·rename_i hg
   exact absurd (gG X.w hfx hf0 hg hg0) (by simp)
  ·simp at h1
 ·have:=g3 ops.toList.length (FT _)
  rw [show ops.size = ops.toList.length by simp,this]
  exact g2
end
end Go.Vi
