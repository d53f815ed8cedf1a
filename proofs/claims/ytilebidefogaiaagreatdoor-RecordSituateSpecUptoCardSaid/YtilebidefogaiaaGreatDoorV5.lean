/- RecordSituateSpecUpto: part of the proof: an evaluator of the model's programs on abstract values, and its soundness. No conditions beyond the given statement's own. -/
import Derived.Test.YtilebidefogaiaaGreatDoorV4
open Decidable renaming decide → Zd
open List renaming map_cons → Il, mem_map → HQ, getElem?_set_ne → J9, getElem?_map → IQ, getElem?_eq_some_iff → Hs, getElem?_set_self → MA, mem_of_getElem? → H1, all_cons → JV, getElem?_append_left → HK, getElem?_eq_none → IT, all_eq_true → HU, mem_filter → J6, mk_mem_zipIdx_iff_getElem? → IY, range → Iy, mem_cons → HR, filter_eq_nil_iff → Lp, mem_append → Jg
open Option renaming map_some → H9, map_eq_some_iff → Hy, getD_some → Jm
open Option.some renaming injEq → Ho
open Go.Vi.Blk renaming le → LK, stays → LI, Om → HB, vec → Kx
open Nat renaming le_refl → HS, le_succ → JN
open Bool renaming and_eq_true → Hx, false_eq_true → Ik, not_eq_true' → IU, eq_false_iff → JY
open Prod.mk renaming injEq → Hu
open Go.Vi.DefOk renaming mono → Lg
open Go.Region renaming binds → IL, ready → K5, wanted → I9
open Array renaming getD_eq_getD_getElem? → Im, getElem?_eq_getElem → Iw, all_eq_true_iff_forall_mem → Kg, replicate → Mh
open Classical renaming byContradiction → IP
open Go.Vi.St renaming unfix → Nt
namespace Go.Vi
open Go
mutual
def D.mapR(f:Ref→D):D→D
 | .ref r=>f r
 | .fn g a b=>.fn g (D.mapRL f a) (D.mapRL f b)
 | .agg cs=>.agg (D.mapRL f cs)
 | .tup cs=>.tup (D.mapRL f cs)
 | .grd g d=>.grd g (D.mapR f d)
 | .p x=>.p x
 | .any=>.any
 | .ep cs=>.ep cs
 | .csl es=>.csl es
def D.mapRL(f:Ref→D):List D→List D
 | []=>[]
 | d::ds=>D.mapR f d::D.mapRL f ds
end
def Blk.mapR(f:Ref→D):Blk→Blk
 | .var cs=>.var (D.mapRL f cs)
 | .vec es e sz=>.vec (es.map (D.mapRL f)) e sz
 | .map kvs clock=>.map (kvs.map fun e=>(D.mapR f e.1,D.mapR f e.2.1,e.2.2)) clock
 | .loop st Oc fn ts ps asg body=>.loop st Oc fn (D.mapRL f ts) ps asg body
 | x=>x
theorem fC(f:Ref→D):∀ds:List D,(D.mapRL f ds).length=ds.length
 | []=>rfl
 | _::ds=>by simp[D.mapRL,fC f ds]
theorem jH(f:Ref→D):∀xs ys:List D,D.mapRL f (xs++ys)=D.mapRL f xs++D.mapRL f ys
 | [],_=>rfl
 | x::xs,ys=>by simp[D.mapRL,jH f xs ys]
theorem eR(f:Ref→D):∀es:List (List D),D.mapRL f es.flatten=(es.map (D.mapRL f)).flatten
 | []=>rfl
 | e::es=>by simp[jH,eR f es]
theorem mV(f:Ref→D):∀ds:List Dp,D.mapRL f (ds.map .p)=ds.map .p
 | []=>rfl
 | d::ds=>by simp[D.mapRL,D.mapR,mV f ds]
theorem ai(f:Ref→D)(es:List (List Dp)):(es.map (·.map D.p)).map (D.mapRL f)=es.map (·.map D.p):=by
 simp[Function.comp_def,mV]
section
variable {w:World} {av av':Nat→Prop} {l:Loc} {h h':List Blk} {f:Ref→D}
mutual
theorem kg(ha:∀k,av' k→av k)(hf:∀r y,RefRel l h r y→Rel w av' l h' (f r) y):∀{d:D} {y:Value},Rel w av l h d y→Rel w av' l h' (D.mapR f d) y
 | .p _,_,r=>by simp only[Rel,D.mapR] at r ⊢;exact ex ha r
 | .any,_,_=>by simp[Rel,D.mapR]
 | .ref r,y,rr=>by simp only[D.mapR];exact hf r y (by simpa only [Rel] using rr)
 | .ep _,_,r=>by
  simp only[Rel,D.mapR] at r ⊢
  obtain⟨bV,off,r1,r2⟩:=r
  exact⟨bV,off,r1,aF ha r2⟩
 | .csl _,_,r=>by
  simp only[Rel,D.mapR] at r ⊢
  rcases r with r|⟨bV,off,sz,r1,r2⟩
  ·exact .inl r
  ·exact .inr ⟨bV,off,sz,r1,ci ha r2⟩
 | .fn _ _ _,_,r=>by
  simp only[Rel,D.mapR] at r ⊢
  obtain⟨a,c,r1,r2,r3⟩:=r
  exact⟨a,c,r1,bK ha hf r2,bK ha hf r3⟩
 | .agg _,_,r=>by
  simp only[Rel,D.mapR] at r ⊢
  obtain⟨vs,r1,r2⟩:=r
  exact⟨vs,r1,bK ha hf r2⟩
 | .tup _,_,r=>by
  simp only[Rel,D.mapR] at r ⊢
  obtain⟨vs,r1,r2⟩:=r
  exact⟨vs,r1,bK ha hf r2⟩
 | .grd _ _,_,r=>by
  simp only[Rel,D.mapR] at r ⊢
  exact⟨fun hg=>kg ha hf (r.1 hg),r.2⟩
theorem bK(ha:∀k,av' k→av k)(hf:∀r y,RefRel l h r y→Rel w av' l h' (f r) y):∀{ds:List D} {ys:List Value},RelL w av l h ds ys→RelL w av' l h' (D.mapRL f ds) ys
 | [],[],_=>by simp[RelL,D.mapRL]
 | [],_::_,r=>by simp[RelL] at r
 | _::_,[],r=>by simp[RelL] at r
 | _::_,_::_,r=>by
  simp only[RelL,D.mapRL] at r ⊢
  exact⟨kg ha hf r.1,bK ha hf r.2⟩
end
theorem mW(ha:∀k,av' k→av k)(hf:∀r y,RefRel l h r y→Rel w av' l h' (f r) y):∀{kvs:List (D×D×Nat)} {es:List MapEntry},RelKV w av l h kvs es →
  RelKV w av' l h' (kvs.map fun e=>(D.mapR f e.1,D.mapR f e.2.1,e.2.2)) es
 | [],[],_=>by simp[RelKV]
 | [],_::_,r=>by simp[RelKV] at r
 | _::_,[],r=>by simp[RelKV] at r
 | (k,d,m)::kvs,e::es,r=>by
  simp only[RelKV,Il] at r ⊢
  exact⟨kg ha hf r.1,kg ha hf r.2.1,r.2.2.1,mW ha hf r.2.2.2⟩
theorem mX(ha:∀k,av' k→av k)(hf:∀r y,RefRel l h r y→Rel w av' l h' (f r) y)(hm:∀b y,RefRel l h (.mp b) y→RefRel l h' (.mp b) y){b:Nat}{x:Blk}(r:BlkOk w av l h b x):BlkOk w av' l h' b (x.mapR f):=by
 cases x with
 | var cs =>
  obtain⟨bV,cp,c,T,r1,r2,r3⟩:=r
  exact⟨bV,cp,c,T,r1,r2,bK ha hf r3⟩
 | vec es e sz =>
  unfold BlkOk at r ⊢
  simp only[Blk.mapR] at r ⊢
  split
  ·rename_i h0;rw[h0] at r;simp only at r;rw[r];rfl
  ·rename_i bV cap h0
   rw[h0] at r
   obtain⟨c,T,fr,ys,r1,r2,r3,r4,r5,r6,r7⟩:=r
   refine⟨c,T,fr,ys,r1,r2,by simpa using r3,r4,?_,?_,r7⟩
   ·intro e he
    obtain⟨e0,he0,rfl⟩:=HQ.1 he
    rw[fC];exact r5 e0 he0
   ·rw[←eR];exact bK ha hf r6
 | map kvs clock =>
  obtain⟨bV,cp,es,r1,r2,r3⟩:=r
  exact⟨bV,cp,es,r1,r2,mW ha hf r3⟩
 | sit s pos=>exact r
 | mit m since seen st =>
  obtain⟨bV,cp,mr,r1,r2,r3⟩:=r
  refine⟨bV,cp,mr,r1,r2,?_⟩
  cases m with
  | none=>exact r3
  | some mb=>exact hm mb _ r3
 | loop st Oc fn tmps params asg body =>
  obtain⟨bV,cp,ts,dr,R5,r1,r2,r3⟩:=r
  exact⟨bV,cp,ts,dr,R5,r1,r2,bK ha hf r3⟩
 | defd=>exact r
 | gone=>trivial
end
theorem kR{f:Ref→D}{x:Blk}:x.mapR f=.gone ↔ x=.gone:=by cases x<;>simp[Blk.mapR]
def mapH(f:Ref→D)(b:Nat)(xb:Blk)(h:List Blk):List Blk:=(h.map (Blk.mapR f)).set b xb
def Ref.bV:Ref→Nat
 | .ptr b _ | .vec b _ | .vs b _ _ _ _ | .av b _ _ _ | .vp b _ _ _ | .mp b | .it b | .yl b=>b
section
variable {Γ:aw} {O:Nat→Prop} {w w0:World} {l l0:Loc} {h h0:List Blk} {f:Ref→D} {b:Nat} {xb x0:Blk}
theorem fD{i:Nat}(hi:i ≠ b):(mapH f b xb h)[i]? = (h[i]?).map (Blk.mapR f):=by
 unfold mapH
 rw[J9 (Ne.symm hi),IQ]
theorem kS(hb:h[b]? = some x0):(mapH f b xb h)[b]? = some xb:=by
 unfold mapH
 have:=(Hs.1 hb).1
 rw[MA (by simpa using this)]
theorem oH(hb:h[b]? = some x0)(hg:x0 ≠ .gone){k:Nat}(ho:own l (mapH f b xb h) k):own l h k:=by
 obtain⟨i,x,cp,h1,h2,h3⟩:=ho
 by_cases hi:i=b
 ·subst hi;exact⟨i,x0,cp,hb,hg,h3⟩
 ·rw[fD hi] at h1
  cases hx:h[i]? with
  | none=>rw[hx] at h1;simp at h1
  | some y =>
   rw[hx] at h1
   simp only[H9,Ho] at h1
   subst h1
   exact⟨i,y,cp,hx,fun e=>h2 (kR.2 e),h3⟩
theorem fX(hb:h[b]? = some x0)(hg:x0 ≠ .gone){k:Nat}(ho:avs O l (mapH f b xb h) k):avs O l h k:=ho.imp id (oH hb hg)
theorem eS{r:Ref}{y:Value}(hr:r.bV ≠ b)(rr:RefRel l h r y):RefRel l (mapH f b xb h) r y:=by
 have key:(mapH f b xb h)[r.bV]? = (h[r.bV]?).map (Blk.mapR f):=fD hr
 unfold RefRel at rr ⊢
 refine⟨rr.1,?_⟩
 have rr:=rr.2
 cases hx:h[r.bV]? with
 | none=>cases r<;>simp only[Ref.bV] at hx<;>simp only[hx] at rr
 | some x =>
  rw[hx] at key
  cases r<;>simp only[Ref.bV] at hx key<;>simp only[hx] at rr<;>simp only[key,H9]<;>cases x<;>simp[Blk.mapR] at rr ⊢ <;> exact rr
theorem DU{x y:Blk}(h:x.le y):x.le (y.mapR f)∧(x.stays (y.mapR f)→x.stays y):=by
 cases x<;>cases y<;>simp only[LK] at h<;>simp_all[LK,Blk.mapR,LI]
theorem Rep.mapH(R:Rep Γ O w l h)(hb:h[b]? = some x0)(hg:x0 ≠ .gone)(hf:∀r y,RefRel l h r y→Rel w (avs O l (mapH f b xb h)) l (mapH f b xb h) (f r) y)
  (Oa:BlkOk w (avs O l (mapH f b xb h)) l (mapH f b xb h) b xb) (hm:∀y,¬RefRel l h (.mp b) y):Rep Γ O w l (mapH f b xb h) where
 Ov bV ho:=R.Ov bV (oH hb hg ho)
 P2:=R.P2
 inj i i' x x' k c c' h1 h2 h3 h4 h5 h6:=by
  have back:∀{i:Nat} {x:Blk},(Vi.mapH f b xb h)[i]? = some x→x ≠ .gone→∃y,h[i]? = some y∧y ≠ .gone:=by
   intro i x h1 h2
   by_cases hi:i=b
   ·subst hi;exact⟨x0,hb,hg⟩
   ·rw[fD hi] at h1
    cases hx:h[i]? with
    | none=>rw[hx] at h1;simp at h1
    | some y =>
     rw[hx] at h1
     simp only[H9,Ho] at h1
     subst h1
     exact⟨y,rfl,fun e=>h2 (kR.2 e)⟩
  obtain⟨y,e1,e2⟩:=back h1 h2
  obtain⟨y',e3,e4⟩:=back h3 h4
  exact R.inj i i' y y' k c c' e1 e2 e3 e4 h5 h6
 bV i x h1:=by
  by_cases hi:i=b
  ·subst hi
   rw[kS hb] at h1
   cases h1
   exact Oa
  ·rw[fD hi] at h1
   cases hx:h[i]? with
   | none=>rw[hx] at h1;simp at h1
   | some y =>
    rw[hx] at h1
    simp only[H9,Ho] at h1
    subst h1
    refine mX (fun _=>fX hb hg) hf (fun c y hr=>?_) (R.bV i y hx)
    by_cases hc:c=b
    ·subst hc;exact absurd hr (hm y)
    ·exact eS (by simpa[Ref.bV] using hc) hr
 Qd g cs Ox:=aF (fun _=>fX hb hg) (R.Qd g cs Ox)
theorem Ext.mapH(E:Ext w0 l0 h0 w l h)(hb:h[b]? = some x0)(hg:x0 ≠ .gone)(hle:∀x,h0[b]? = some x→x.le x0→x.le xb∧(x.stays xb→x.stays x0)):Ext w0 l0 h0 w l (mapH f b xb h) where
 size:=E.size
 same:=E.same
 news bV ho:=E.news bV (oH hb hg ho)
 N0 i x hx:=by
  obtain⟨x',h1,h2,h3⟩:=E.N0 i x hx
  by_cases hi:i=b
  ·subst hi
   rw[hb] at h1
   cases h1
   obtain⟨g1,g2⟩:=hle x hx h2
   exact⟨xb,kS hb,g1,fun hs=>h3 (g2 hs)⟩
  ·obtain⟨g1,g2⟩:=DU (f:=f) h2
   exact⟨_,by rw[fD hi,h1];rfl,g1,fun hs=>h3 (g2 hs)⟩
 tape:=E.tape
end
def bD(b e:Nat)(rows:List (List Dp))(r:Ref):D:=match r.bV==b with
 | false=>.ref r
 | true=>match r with
  | .vec _ e1=>match e1==e with
   | true=>.p (.sl rows)
   | false=>.any
  | _=>.any
def al(b e k:Nat)(r:Ref):D:=match r.bV==b with
 | false=>.ref r
 | true=>match r with
  | .vec _ e1=>match e1==e with
   | true=>.ref (.vec b k)
   | false=>.any
  | .vs _ e1 i n c=>match e1==e with
   | true=>.ref (.vs b k i n c)
   | false=>.any
  | .vp _ e1 i j=>match e1==e with
   | true=>.ref (.vp b k i j)
   | false=>.any
  | _=>.any
section
variable {Γ:aw} {O:Nat→Prop} {w w0:World} {l l0:Loc} {h h0:List Blk} {b:Nat}
theorem gC{av av':Nat→Prop}(ha:∀k,av' k→av k){bV:Nat}(hb:¬av' bV):∀(e:List Dp) (off:Nat),CellsAt w av l h bV off (e.map .p)→RelCells w av' bV off e
 | [],_,_=>trivial
 | d::ds,off,c=>by
  obtain⟨y,h1,h2⟩:=c 0 (.p d) (by simp)
  refine⟨⟨hb,y,by simpa using h1,ex ha (by simpa[Rel] using h2)⟩,gC ha hb ds (off+1) fun j d' hd=>?_⟩
  obtain⟨y',h3,h4⟩:=c (j+1) d' (by simpa using hd)
  exact⟨y',by rw[←h3];congr 2;omega,h4⟩
theorem iT{av:Nat→Prop}{bV c:Nat}:∀(es:List (List Dp)) (off:Nat),(∀i e,es[i]? = some e→e.length=c∧RelCells w av bV (off+i*c) e)→RelRows w av bV c off es
 | [],_,_=>trivial
 | e::es,off,h=>by
  obtain⟨h1,h2⟩:=h 0 e rfl
  refine⟨h1,by simpa using h2,iT es (off+c) fun i e' he=>?_⟩
  obtain⟨h3,h4⟩:=h (i+1) e' (by simpa using he)
  refine⟨h3,?_⟩
  rw[show off+c+i*c=off+(i+1)*c by rw[Nat.add_mul];omega]
  exact h4
theorem xN(R:Rep Γ O w l h){rows:List (List Dp)}{e sz:Nat}(hb:h[b]? = some (.vec (rows.map (·.map .p)) e sz)){r:Ref}{y:Value}(rr:RefRel l h r y)
  {f:Ref→D}:Rel w (avs O l (mapH f b .gone h)) l (mapH f b .gone h) (bD b e rows r) y:=by
 unfold bD
 split
 ·rename_i hr
  simp only[Rel]
  exact eS (by simpa using hr) rr
 ·rename_i hr
  split
  ·rename_i b1 e1
   split
   ·rename_i he
    have hr:b1=b:=by simpa[Ref.bV] using hr
    have he:e1=e:=by simpa using he
    subst hr;subst he
    have hk:=R.bV _ _ hb
    unfold RefRel at rr
    simp only[hb] at rr
    have hv:=rr.2.2 trivial
    unfold BlkOk at hk
    simp only at hk
    simp only[Rel,RelP]
    cases hl:l b1 with
    | none =>
     rw[hl] at hv hk
     simp only[ml] at hv hk
     exact .inl ⟨by simpa using hk,none,0,hv.2,fun _=>rfl⟩
    | some p =>
     obtain⟨bV,cap⟩:=p
     rw[hl] at hv hk
     simp only[ml] at hv hk
     obtain⟨c,T,fr,ys,q1,q2,q3,q4,q5,q6,rest,q7⟩:=hk
     refine .inr ⟨bV,0,cap,sz,by simpa using hv.1,by simpa using hv.2,?_⟩
     have P4:¬avs O l (Vi.mapH f b1 .gone h) bV:=by
      rintro (ho|⟨i,x,cp,h1,h2,h3⟩)
      ·exact(R.Ov bV ⟨b1,_,cap,hb,by simp,hl⟩).2 ho
      ·by_cases hi:i=b1
       ·subst hi;rw[kS hb] at h1;cases h1;exact h2 rfl
       ·rw[fD hi] at h1
        cases hx:h[i]? with
        | none=>rw[hx] at h1;simp at h1
        | some z =>
         rw[hx] at h1
         simp only[H9,Ho] at h1
         subst h1
         exact hi (R.inj i b1 z _ bV cp cap hx (fun e=>h2 (kR.2 e)) hb (by simp) h3 hl)
     refine iT rows 0 fun i e1 he1=>?_
     have hlen:e1.length=sz:=by
      have:=q5 (e1.map .p) (HQ.2 ⟨e1,H1 he1,rfl⟩)
      simpa using this
     refine⟨hlen,gC (l:=l) (h:=h) (av:=avs O l h) (av':=avs O l (Vi.mapH f b1 .gone h)) (fun _ ho=>fX hb (by simp) ho) P4 e1 _ ?_⟩
     rw[Nat.zero_add]
     exact(CellsAt.of_rel (loc:=l) (h:=h) q1 q7 q6).row q5 (by rw[IQ,he1];rfl)
   ·simp[Rel]
  ·simp[Rel]
theorem DV{es es':List (List D)}(hlen:es'.length=es.length){e k sz:Nat}(hb:h[b]? = some (.vec es e sz)){av:Nat→Prop}{r:Ref}{y:Value}(rr:RefRel l h r y){f:Ref→D}:
  Rel w av l (mapH f b (.vec es' k sz) h) (al b e k r) y:=by
 have Pr:(mapH f b (.vec es' k sz) h)[b]? = some (.vec es' k sz):=kS hb
 unfold al
 split
 ·rename_i hr
  simp only[Rel]
  exact eS (by simpa using hr) rr
 ·rename_i hr
  split
  ·rename_i b1 e1
   split
   ·rename_i he
    have hr:b1=b:=by simpa[Ref.bV] using hr
    have he:e1=e:=by simpa using he
    subst hr;subst he
    unfold RefRel at rr
    simp only[hb] at rr
    simp only[Rel]
    unfold RefRel
    simp only[Pr]
    exact⟨rr.1,HS _,fun _=>by rw[hlen];exact rr.2.2 trivial⟩
   ·simp[Rel]
  ·rename_i b1 e1 i n c
   split
   ·rename_i he
    have hr:b1=b:=by simpa[Ref.bV] using hr
    have he:e1=e:=by simpa using he
    subst hr;subst he
    unfold RefRel at rr
    simp only[hb] at rr
    simp only[Rel]
    unfold RefRel
    simp only[Pr]
    exact⟨rr.1,HS _,fun _=>by rw[hlen];exact rr.2.2 trivial⟩
   ·simp[Rel]
  ·rename_i b1 e1 i j
   split
   ·rename_i he
    have hr:b1=b:=by simpa[Ref.bV] using hr
    have he:e1=e:=by simpa using he
    subst hr;subst he
    unfold RefRel at rr
    simp only[hb] at rr
    simp only[Rel]
    unfold RefRel
    simp only[Pr]
    exact⟨rr.1,HS _,fun _=>rr.2.2 trivial⟩
   ·simp[Rel]
  ·simp[Rel]
end
inductive SOp where
 | mask (ks:List Nat)
 | trim (k:Nat)
 | trimV (k:Nat)
 | frz (b:Nat) (rows:List (List Dp))
 | ren (b k:Nat)
 | nilT (i sz:Nat)
 | nilC (b off sz:Nat)
def AllP:List Prop→Prop
 | []=>True
 | p::ps=>p∧AllP ps
theorem AllP.n:AllP []:=trivial
theorem AllP.c{p:Prop}{ps:List Prop}(h:p)(hs:AllP ps):AllP (p::ps):=⟨h,hs⟩
theorem AllP.e{ps:List Prop}(d:D)(hs:AllP ps):AllP ((d=d)::ps):=⟨rfl,hs⟩
theorem AllP.f{ps:List Prop}(hs:AllP ps):AllP (((false==true)=false)::ps):=⟨rfl,hs⟩
theorem AllP.er{α:Type}{ps:List Prop}(x:α)(hs:AllP ps):AllP ((x=x)::ps):=⟨rfl,hs⟩
theorem AllP.append{ps qs:List Prop}(h:AllP (ps++qs)):AllP ps∧AllP qs:=by
 induction ps with
 | nil=>exact⟨trivial,h⟩
 | cons p ps ih=>exact⟨⟨h.1,(ih h.2).1⟩,(ih h.2).2⟩
def xO(x:Nat):List Nat→Bool
 | []=>false
 | y::ys=>x==y||xO x ys
theorem eT{x:Nat}:∀{ys:List Nat},xO x ys=true ↔ x∈ys
 | []=>by simp[xO]
 | y::ys=>by simp[xO,eT (ys:=ys)]
def sI(ks:List Nat):Nat→List D→List D
 | _,[]=>[]
 | i,d::ds=>(match xO i ks with|true=>d|false=>.any)::sI ks (i+1) ds
theorem oI(ks:List Nat):∀(i:Nat) (t:List D),(sI ks i t).length=t.length∧∀x,Wk (t.getD x .any) ((sI ks i t).getD x .any)
 | _,[]=>⟨rfl,fun x=>Wk.refl _⟩
 | i,d::ds=>by
  obtain⟨h1,h2⟩:=oI ks (i+1) ds
  refine⟨by simp[sI,h1],fun x=>?_⟩
  cases x with
  | zero =>
   simp only[sI,List.getD_cons_zero]
   split
   ·exact Wk.refl _
   ·exact fun _ _ _ _ _ _=>by simp[Rel]
  | succ x=>simpa[sI] using h2 x
def qn(ks:List Nat)(s:AS):AS:={t:=sI ks 0 s.t,h:=s.h,m:=s.m}
theorem DefOk.take{D0:List Deferred}{l:Loc}{h:List Blk}{k:Nat}:∀{bs:List Nat} {ds:List Deferred},(bs.all fun b=>Zd (b<k))=true→DefOk D0 l h bs ds→DefOk D0 l (h.take k) bs ds
 | [],_,_,r=>r
 | b::bs,d::ds,hb,r=>by
  simp only[DefOk,JV,Hx,decide_eq_true_eq] at r hb ⊢
  obtain⟨⟨bV,cp,h1,h2,h3⟩,h4⟩:=r
  exact⟨⟨bV,cp,by rw[take_get hb.1];exact h1,h2,h3⟩,DefOk.take (by simpa using hb.2) h4⟩
 | _::_,[],_,r=>by simp[DefOk] at r
theorem Ext.takeN{w0 w:World}{l0 l:Loc}{h0 h:List Blk}{k:Nat}(hk:h0.length≤k)(E:Ext w0 l0 h0 w l h):Ext w0 l0 h0 w l (h.take k) where
 size:=E.size
 same:=E.same
 news bV ho:=E.news bV (kc ho)
 N0 b x hb:=by
  have:b<h0.length:=by
   rw[Hs] at hb
   exact hb.1
  rw[take_get (by omega)]
  exact E.N0 b x hb
 tape:=E.tape
def Blk.innC(k:Nat):Blk→Bool
 | .vec _ _ _=>true
 | .map _ _=>true
 | x=>HB k x
def Blk.innP(k:Nat):Blk→List Prop
 | .vec es _ _=>[es.all (D.innL k)=true]
 | .map kvs _=>[(kvs.all fun e=>D.Om k e.1&&D.Om k e.2.1)=true]
 | _=>[]
def kT(k:Nat):List Blk→List Prop
 | []=>[]
 | x::xs=>Blk.innP k x++kT k xs
theorem xP{k:Nat}{x:Blk}(h1:Blk.innC k x=true)(h2:AllP (Blk.innP k x)):HB k x=true:=by
 cases x<;>first|exact h1|exact h2.1
theorem un{k:Nat}:∀{h:List Blk},h.all (Blk.innC k)=true→AllP (kT k h)→h.all (HB k)=true
 | [],_,_=>rfl
 | x::xs,h1,h2=>by
  simp only[JV,Hx] at h1 ⊢
  simp only[kT] at h2
  obtain⟨p1,p2⟩:=h2.append
  exact⟨xP h1.1 p1,un h1.2 p2⟩
def trimC(k:Nat)(s:AS):Option AS:=match D.innL k s.t&&(s.h.take k).all (Blk.innC k)&&s.m.all (fun b=>Zd (b<k)) with
 | true=>some {t:=s.t,h:=s.h.take k,m:=s.m}
 | false=>none
def kU(f:Ref→D):Blk→List Prop
 | .vec es _ _=>[es.map (D.mapRL f)=es]
 | .map kvs _=>[kvs.map (fun e=>(D.mapR f e.1,D.mapR f e.2.1,e.2.2))=kvs]
 | _=>[]
def keepX(f:Ref→D):Blk→Blk
 | .vec es e sz=>.vec es e sz
 | .map kvs c=>.map kvs c
 | x=>x.mapR f
theorem hJ{f:Ref→D}{x:Blk}(h:AllP (kU f x)):keepX f x=x.mapR f:=by
 cases x<;>simp only[keepX,Blk.mapR]
 ·rw[h.1]
 ·rw[h.1]
def qo(f:Ref→D)(b:Nat)(xb:Blk):Nat→List Blk→List Blk
 | _,[]=>[]
 | i,x::xs=>(match i==b with|true=>xb|false=>keepX f x)::qo f b xb (i+1) xs
def wc(f:Ref→D)(b:Nat):Nat→List Blk→List Prop
 | _,[]=>[]
 | i,x::xs=>(match i==b with|true=>[]|false=>kU f x)++wc f b (i+1) xs
theorem qp{f:Ref→D}{b:Nat}{xb:Blk}:∀(i:Nat) (h:List Blk),AllP (wc f b i h)→∀j,(qo f b xb i h)[j]? = if i+j=b then (h[j]?).map (fun _=>xb) else (h[j]?).map (Blk.mapR f)
 | i,[],_,j=>by simp[qo]
 | i,x::xs,hp,j=>by
  simp only[wc] at hp
  obtain⟨p1,p2⟩:=hp.append
  cases j with
  | zero =>
   simp only[qo,List.getElem?_cons_zero,Nat.add_zero,H9]
   by_cases hi:i=b
   ·simp[hi]
   ·have:(i==b)=false:=by simpa using hi
    rw[this] at p1 ⊢
    simp[hi,hJ p1]
  | succ j =>
   simp only[qo,List.getElem?_cons_succ]
   rw[qp (i+1) xs p2 j]
   rw[show i+1+j=i+(j+1) by omega]
theorem uo{f:Ref→D}{b:Nat}{xb x0:Blk}{h:List Blk}(hb:h[b]? = some x0)(hp:AllP (wc f b 0 h)):qo f b xb 0 h=mapH f b xb h:=by
 apply List.ext_getElem?
 intro j
 rw[qp 0 h hp j]
 by_cases hj:j=b
 ·subst hj;rw[kS hb,hb];simp
 ·rw[fD hj,if_neg (by omega)]
def DW(k:Nat):List Blk→List Prop
 | []=>[]
 | x::xs=>(HB k x=true)::DW k xs
theorem uq{k:Nat}:∀{h:List Blk},AllP (DW k h)→h.all (HB k)=true
 | [],_=>rfl
 | x::xs,h=>by
  simp only[JV,Hx]
  exact⟨h.1,uq h.2⟩
def C2(k:Nat)(s:AS):Option AS:=match D.innL k s.t&&s.m.all (fun b=>Zd (b<k)) with
 | true=>some {t:=s.t,h:=s.h.take k,m:=s.m}
 | false=>none
def renOk(h0:List Blk)(b k:Nat):Bool:=match h0[b]? with
 | some (.vec _ e0 _)=>Zd (e0<k)
 | some _=>false
 | none=>true
def Ba:D→Bool
 | .p (.v (.slice none 0 0))=>true
 | _=>false
def SOp.app(h0:List Blk):SOp→AS→Option (AS×List Prop)
 | .mask ks,s=>some (qn ks s,[])
 | .trim k,s=>match Zd (h0.length≤k) with
  | true=>match trimC k s with
   | some s'=>some (s',kT k (s.h.take k))
   | none=>none
  | false=>none
 | .trimV k,s=>match Zd (h0.length≤k) with
  | true=>match C2 k s with
   | some s'=>some (s',DW k (s.h.take k))
   | none=>none
  | false=>none
 | .frz b rows,s=>match s.h[b]? with
  | some (.vec es e _)=>some ({t:=D.mapRL (bD b e rows) s.t,h:=qo (bD b e rows) b .gone 0 s.h,m:=s.m},(es=rows.map (·.map .p))::wc (bD b e rows) b 0 s.h)
  | _=>none
 | .ren b k,s=>match s.h[b]? with
  | some (.vec es e sz)=>match renOk h0 b k with
   | true=>some ({t:=D.mapRL (al b e k) s.t,h:=qo (al b e k) b (.vec es k sz) 0 s.h,m:=s.m},(es.map (D.mapRL (al b e k))=es)::wc (al b e k) b 0 s.h)
   | false=>none
  | _=>none
 | .nilT i sz,s=>match Ba (s.t.getD i .any)&&aA (s.h++[Kx [] 0 sz]) s.m with
  | true=>some ({t:=s.t.set i (.ref (.vec s.h.length 0)),h:=s.h++[Kx [] 0 sz],m:=s.m},[])
  | false=>none
 | .nilC b off sz,s=>match s.h[b]? with
  | some (.var cs)=>match Ba (cs.getD off .any)&&(aA (s.h++[Kx [] 0 sz]) s.m&&aA ((s.h++[Kx [] 0 sz]).set b (.var (cs.set off (.ref (.vec s.h.length 0))))) s.m) with
   | true=>some ({t:=s.t,h:=(s.h++[Kx [] 0 sz]).set b (.var (cs.set off (.ref (.vec s.h.length 0)))),m:=s.m},[])
   | false=>none
  | _=>none
section
variable {Γ:aw} {X:Ctx} {s s':AS} {a:Act} {w:World}
theorem DefOk.mapH{D0:List Deferred}{l:Loc}{h:List Blk}{f:Ref→D}{b:Nat}{xb x0:Blk}(hb:h[b]? = some x0)(hd:x0 ≠ .defd):∀{bs:List Nat} {ds:List Deferred},DefOk D0 l h bs ds→DefOk D0 l (mapH f b xb h) bs ds
 | [],_,r=>r
 | i::bs,d::ds,r=>by
  simp only[DefOk] at r ⊢
  obtain⟨⟨bV,cp,h1,h2,h3⟩,h4⟩:=r
  refine⟨⟨bV,cp,?_,h2,h3⟩,DefOk.mapH hb hd h4⟩
  by_cases hi:i=b
  ·subst hi;rw[hb] at h1;cases h1;exact absurd rfl hd
  ·rw[fD hi,h1];rfl
 | _::_,[],r=>by simp[DefOk] at r
theorem kV{w:World}{av:Nat→Prop}{l:Loc}{h:List Blk}{d:D}:∀{t:List D} {ys:List Value} (i:Nat),RelL w av l h t ys→(∀y,Rel w av l h (t.getD i .any) y→Rel w av l h d y)→RelL w av l h (t.set i d) ys
 | [],[],_,_,_=>by simp[RelL]
 | [],_::_,_,r,_=>by simp[RelL] at r
 | _::_,[],_,r,_=>by simp[RelL] at r
 | x::xs,y::ys,0,r,hd=>by
  simp only[RelL,List.set_cons_zero] at r ⊢
  exact⟨hd y r.1,r.2⟩
 | x::xs,y::ys,i+1,r,hd=>by
  simp only[RelL,List.set_cons_succ] at r ⊢
  exact⟨r.1,kV i r.2 (by simpa using hd)⟩
theorem ur{w0:World}{l0 l:Loc}{h0 h:List Blk}{O:Nat→Prop}(sz:Nat)(R:Rep Γ O w l h)(E:Ext w0 l0 h0 w l h):
  ∃l',Rep Γ O w l' (h++[Kx [] 0 sz])∧Ext w0 l0 h0 w l' (h++[Kx [] 0 sz])∧Ext w l h w l' (h++[Kx [] 0 sz])∧l' h.length=none:=by
 obtain⟨R',E'⟩:=Rep.step (l':=fun k=>if k=h.length then none else l k) (h':=h++[Kx [] 0 sz]) R h.length (.vec [] 0 sz) (HS _) ⟨rfl,rfl,rfl,(by first|exact HS _|exact JN _)⟩
  (fun b hb=>by
   by_cases iF:b<h.length
   ·rw[HK iF]
   ·rw[IT (by simp;omega),IT (by omega)])
  (by simp) (fun b hb=>by simp[hb]) (fun x hx=>by simp at hx) (fun _ _ _=>rfl) (fun k c hk=>by simp at hk) (fun _=>by simp[BlkOk])
 exact⟨_,R',E.trans E',E',by simp⟩
theorem qr{w:World}{av:Nat→Prop}{l:Loc}{h:List Blk}{d:D}{y:Value}(hd:Ba d=true)(r:Rel w av l h d y):y=.slice none 0 0:=by
 unfold Ba at hd
 split at hd
 ·simpa[Rel,RelP] using r
 ·simp at hd
theorem xQ{w:World}{av:Nat→Prop}{l:Loc}{h:List Blk}{b sz:Nat}(hb:h[b]? = some (.vec [] 0 sz))(hl:l b=none):Rel w av l h (.ref (.vec b 0)) (.slice none 0 0):=by
 simp only[Rel]
 unfold RefRel
 simp only[hb]
 refine⟨by simp[Value.oneCell'],HS _,fun _=>?_⟩
 rw[hl]
 exact⟨rfl,rfl⟩
theorem SOp.sound{o:SOp}{φ:List Prop}(ha:o.app X.h s=some (s',φ))(hp:AllP φ)(hs:St Γ X s a w):St Γ X s' a w:=by
 cases o with
 | mask ks =>
  simp only[SOp.app,Ho,Hu] at ha
  obtain⟨rfl,_⟩:=ha
  obtain⟨k1,k2⟩:=oI ks 0 s.t
  exact hs.wk k1 k2
 | trim k =>
  simp only[SOp.app] at ha
  split at ha
  case h_2=>simp at ha
  rename_i hk
  split at ha
  case h_2=>simp at ha
  rename_i s1 ht
  simp only[Ho,Hu] at ha
  obtain⟨rfl,rfl⟩:=ha
  unfold trimC at ht
  split at ht
  case h_2=>simp at ht
  rename_i hb
  simp only[Hx] at hb
  cases ht
  obtain⟨l,R,E,rt,rd⟩:=hs
  exact⟨l,R.take (un hb.1.2 hp),E.takeN (by simpa using hk),bI (fun _=>gX) hb.1.1 rt,rd.take hb.2⟩
 | trimV k =>
  simp only[SOp.app] at ha
  split at ha
  case h_2=>simp at ha
  rename_i hk
  split at ha
  case h_2=>simp at ha
  rename_i s1 ht
  simp only[Ho,Hu] at ha
  obtain⟨rfl,rfl⟩:=ha
  unfold C2 at ht
  split at ht
  case h_2=>simp at ht
  rename_i hb
  simp only[Hx] at hb
  cases ht
  obtain⟨l,R,E,rt,rd⟩:=hs
  exact⟨l,R.take (uq hp),E.takeN (by simpa using hk),bI (fun _=>gX) hb.1 rt,rd.take hb.2⟩
 | frz b rows =>
  simp only[SOp.app] at ha
  split at ha
  case h_2=>simp at ha
  rename_i es e sz hb
  simp only[Ho,Hu] at ha
  obtain⟨rfl,rfl⟩:=ha
  obtain⟨rfl,hp⟩:=hp
  obtain⟨l,R,E,rt,rd⟩:=hs
  refine⟨l,?_⟩
  simp only[uo hb hp]
  have hf:=fun (r:Ref) (y:Value) (rr:RefRel l s.h r y)=>xN R hb rr (f:=bD b e rows)
  refine⟨R.mapH hb (by simp) hf (by simp[BlkOk]) (fun y hr=>?_),E.mapH hb (by simp) (fun x _ _=>⟨by cases x<;>simp[LK],fun h=>by cases x<;>simp[LI] at h⟩),
   bK (fun _ ho=>fX hb (by simp) ho) hf rt,rd.mapH hb (by simp)⟩
  unfold RefRel at hr
  simp[hb] at hr
 | ren b k =>
  simp only[SOp.app] at ha
  split at ha
  case h_2=>simp at ha
  rename_i es e sz hb
  split at ha
  case h_2=>simp at ha
  rename_i hk
  simp only[Ho,Hu] at ha
  obtain⟨rfl,rfl⟩:=ha
  obtain⟨he,hp⟩:=hp
  obtain⟨l,R,E,rt,rd⟩:=hs
  refine⟨l,?_⟩
  simp only[uo hb hp]
  have hm:∀y,¬RefRel l s.h (.mp b) y:=fun y hr=>by
   unfold RefRel at hr
   simp[hb] at hr
  have ha':∀k',avs X.O l (mapH (al b e k) b (.vec es k sz) s.h) k'→avs X.O l s.h k':=fun _ ho=>fX hb (by simp) ho
  have hf:∀(r:Ref) (y:Value),RefRel l s.h r y→Rel w (avs X.O l (mapH (al b e k) b (.vec es k sz) s.h)) l (mapH (al b e k) b (.vec es k sz) s.h) (al b e k r) y :=
   fun r y rr=>DV rfl hb rr
  have O4:=mX ha' hf (fun c y hr=>by
    by_cases hc:c=b
    ·subst hc;exact absurd hr (hm y)
    ·exact eS (by simpa[Ref.bV] using hc) hr) (R.bV b _ hb)
  simp only[Blk.mapR,he] at O4
  refine⟨R.mapH hb (by simp) hf (by unfold BlkOk at O4 ⊢;exact O4) hm,E.mapH hb (by simp) (fun x hx hle=>?_),bK ha' hf rt,rd.mapH hb (by simp)⟩
  unfold renOk at hk
  rw[hx] at hk
  cases x with
  | vec es0 e0 sz0 =>
   simp only[decide_eq_true_eq] at hk
   simp only[LK] at hle ⊢
   simp only[LI]
   exact⟨⟨by omega,fun h=>by omega,hle.2.2⟩,fun h=>by omega⟩
  | _=>simp at hk
 | nilT i sz =>
  simp only[SOp.app] at ha
  split at ha
  case h_2=>simp at ha
  rename_i hn
  simp only[Hx] at hn
  simp only[Ho,Hu] at ha
  obtain⟨rfl,_⟩:=ha
  obtain⟨l,R,E,rt,rd⟩:=hs
  obtain⟨l',R',E',E2,hl⟩:=ur sz R E
  refine⟨l',R',E',?_,Lg E2.N0 hn.2 rd⟩
  have rt':=E2.relL rt
  refine kV i rt' fun y hy=>?_
  obtain rfl:=qr hn.1 hy
  exact xQ (sz:=sz) (by simp) hl
 | nilC b off sz =>
  simp only[SOp.app] at ha
  split at ha
  case h_2=>simp at ha
  rename_i cs hb
  split at ha
  case h_2=>simp at ha
  rename_i hn
  simp only[Hx] at hn
  simp only[Ho,Hu] at ha
  obtain⟨rfl,_⟩:=ha
  obtain⟨l,R,E,rt,rd⟩:=hs
  obtain⟨l',R',E',E2,hl⟩:=ur sz R E
  have iF:=(Hs.1 hb).1
  have Pr:(s.h++[Kx [] 0 sz])[b]? = some (.var cs):=by rw[HK iF];exact hb
  obtain⟨R3,E3⟩:=Rep.step (w':=w) (l':=l') (h':=(s.h++[Kx [] 0 sz]).set b (.var (cs.set off (.ref (.vec s.h.length 0))))) R' b (.var (cs.set off (.ref (.vec s.h.length 0)))) (HS _) ⟨rfl,rfl,rfl,(by first|exact HS _|exact JN _)⟩
   (fun i hi=>by rw[J9 (Ne.symm hi)]) (by rw[MA (by simp;omega)]) (fun _ _=>rfl) (fun x hx=>by rw[Pr] at hx;cases hx;simp[LK])
   (fun _ _ _=>rfl) (fun k c hk=>.inl ⟨_,c,Pr,by simp,hk⟩) (fun E3=>by
    obtain⟨bV,cp,c,T,q1,q2,q3⟩:=R'.bV b _ Pr
    refine⟨bV,cp,c,T,q1,q2,kV off (E3.relL q3) fun y hy=>?_⟩
    obtain rfl:=qr hn.1 hy
    refine xQ (sz:=sz) ?_ hl
    rw[J9 (by omega)]
    simp)
  exact⟨l',R3,E'.trans E3,E3.relL (E2.relL rt),Lg E3.N0 hn.2.2 (Lg E2.N0 hn.2.1 rd)⟩
end
def notRef:D→Bool
  | .ref _=>false
  | _=>true
def heapless:Op→Bool
  | .move _ | .assign _ | .pick .. | .build .. | .binOp .. | .unOp .. | .convert .. | .makeFunc .. | .field .. | .index .. | .extract ..=>true
  | .call {callee:=.builtin b,.. }=>match b with
    | .max | .min=>true
    | _=>false
  | _=>false
section
variable {P:Program} {Γ:aw} {t:List D} {h:List Blk}
theorem b4{o:Op}(ho:heapless o=true){ok:Bool}{d:D}{h':List Blk}(hs:opSem P Γ t h o=some (ok,d,h'))(g:List Blk):∃g',opSem P Γ t g o=some (ok,d,g'):=by
  cases o<;>simp only[heapless,Ik] at ho<;>simp only[opSem,Hy,N0,keepB,Hu,Ho] at hs ⊢
  case call c =>
    obtain⟨callee,args,ats⟩:=c
    cases callee with
    | builtin b =>
      cases b<;>simp only[heapless,Ik] at ho<;>simp only[opSem] at hs ⊢ <;> unfold builtinD at hs ⊢ <;> split at hs<;>simp_all[N0]<;>(obtain⟨a,h1,h2,h3,_⟩:=hs;exact⟨g,a,h1,h2,h3,rfl⟩)
    | _=>simp[heapless] at ho
  case binOp op ty x y yt =>
    split at hs
    · simp only[Ho,Hu] at hs ⊢
      exact⟨g,hs.1,hs.2.1,rfl⟩
    · split at hs
      · simp only[Ho,Hu] at hs ⊢
        exact⟨g,hs.1,hs.2.1,rfl⟩
      · simp only[Hy,N0,Hu] at hs ⊢
        obtain⟨a,h1,h2,h3,_⟩:=hs
        exact⟨g,a,h1,h2,h3,rfl⟩
  case extract x i =>
    split at hs
    · simp only[Hy,N0,Hu] at hs ⊢
      obtain⟨a,h1,h2,h3,_⟩:=hs
      exact⟨g,a,h1,h2,h3,rfl⟩
    · simp at hs
  all_goals first
    | (obtain⟨h1,h2,_⟩:=hs;exact⟨g,h1,h2,rfl⟩)
    | (obtain⟨a,h1,h2,h3,_⟩:=hs;exact⟨g,a,h1,h2,h3,rfl⟩)
theorem qt{ty:TypeId}{x:D}(hx:notRef x=true)(g:List Blk):bg P g ty x=bg P h ty x:=by
  cases x<;>first|rfl|simp[notRef] at hx
theorem kW{x:D}(hx:notRef x=true)(g:List Blk):lenD g x=lenD h x:=by
  cases x with
  | p y =>
    unfold lenD
    split<;>first|rfl|simp_all
  | fn f a c=>cases f<;>rfl
  | ref r=>simp[notRef] at hx
  | _=>rfl
theorem jI{n:Nat}{x:D}(hx:notRef x=true)(g:List Blk):pL g n x=pL h n x:=by
  cases x<;>first|rfl|simp[notRef] at hx
theorem j4{x:D}(hx:notRef x=true)(g:List Blk):dc g x=dc h x:=by
  cases x with
  | p y =>
    unfold dc
    split<;>first|rfl|simp_all
  | fn f a c=>cases f<;>rfl
  | ref r=>simp[notRef] at hx
  | _=>rfl
theorem qu{x:D}(hx:notRef x=true)(g:List Blk):kz g x=kz h x:=by
  cases x with
  | p y =>
    unfold kz
    split<;>first|rfl|simp_all
  | fn f a c=>cases f<;>rfl
  | ref r=>simp[notRef] at hx
  | _=>rfl
theorem oJ{x:D}(hx:notRef x=true)(g:List Blk):gn g x=gn h x:=by
  cases x<;>first|rfl|simp[notRef] at hx
theorem kX{x:D}{sz n:Nat}{l u:Int}{mx:Option Int}(hx:notRef x=true)(g:List Blk):sliceRow g x sz n l u mx=sliceRow h x sz n l u mx:=by
  cases x with
  | p y =>
    unfold sliceRow
    split<;>first|rfl|simp_all
  | fn f a c=>cases f<;>rfl
  | ref r=>simp[notRef] at hx
  | _=>rfl
theorem kY{x:D}{len:Nat}{e:TypeId}{l:Int}{hi:Option D}{mx:Option Int}(hx:notRef x=true)(g:List Blk):fS P g len e x l hi mx=fS P h len e x l hi mx:=by
  cases x<;>first|rfl|simp[notRef] at hx
theorem qv{ty:TypeId}{x:D}(hx:notRef x=true)(g:List Blk):vK P g ty x=vK P h ty x:=by
  unfold vK
  simp only[kW (h:=h) hx g]
  cases P.underlying ty with
  | none=>rfl
  | some ud =>
    cases ud<;>first
      | rfl
      | (dsimp only
         cases x with
         | p y =>
           split<;>first|rfl|simp_all
         | ref r=>simp[notRef] at hx
         | _=>rfl)
def headOf:Op→Option Operand
  | .load _ a=>some a
  | .nilCheck x=>some x
  | .slice _ x _ _ _=>some x
  | .fieldAddr _ x _=>some x
  | .indexAddr _ x _=>some x
  | .lookup _ x _ _=>some x
  | .entry x=>some x
  | .call {callee:=.builtin .len,args,.. }=>match args.toList with
    | [x]=>some x
    | _=>none
  | _=>none
theorem dg{o:Op}(hq:quietOp o=true){x:Operand}(hx:headOf o=some x)(hn:notRef (evalD Γ t x)=true){ok:Bool}{d:D}{h':List Blk}(hs:opSem P Γ t h o=some (ok,d,h'))(g:List Blk):∃g',opSem P Γ t g o=some (ok,d,g'):=by
  cases o<;>simp only[headOf,Ho,reduceCtorEq] at hx
  case load ty a =>
    subst hx
    simp only[opSem,Hy,N0,Hu] at hs ⊢
    obtain⟨a,h1,h2,h3,_⟩:=hs
    exact⟨g,a,by rw[qt (h:=h) hn];exact h1,h2,h3,rfl⟩
  case nilCheck a =>
    subst hx
    simp only[opSem,Hy,N0,Hu] at hs ⊢
    obtain⟨a,h1,h2,h3,_⟩:=hs
    exact⟨g,a,by rw[j4 (h:=h) hn];exact h1,h2,h3,rfl⟩
  case slice ty a lo hi mx =>
    subst hx
    simp only[opSem,Hy,keepB,Hu] at hs ⊢
    obtain⟨a,h1,h2,h3,_⟩:=hs
    refine⟨g,a,?_,h2,h3,rfl⟩
    unfold pR at h1 ⊢
    simp only[kW (h:=h) hn g,kX (h:=h) hn g,kY (h:=h) hn g]
    exact h1
  case fieldAddr s a f =>
    subst hx
    simp only[opSem,Hy,N0,Hu] at hs ⊢
    obtain⟨a,h1,h2,h3,_⟩:=hs
    refine⟨g,a,?_,h2,h3,rfl⟩
    unfold en at h1 ⊢
    simp only[jI (h:=h) hn g]
    exact h1
  case indexAddr ty a i =>
    subst hx
    simp only[opSem,Hy,keepB,Hu] at hs ⊢
    obtain⟨r,h1,h2,h3,_⟩:=hs
    refine⟨g,r,?_,h2,h3,rfl⟩
    rw[←h1]
    generalize evalD Γ t a=y at hn
    unfold cO
    simp only[jI (h:=h) hn g]
    cases intOf? (evalD Γ t i) with
    | none=>rfl
    | some ki =>
      cases P.underlying ty with
      | none=>rfl
      | some ud =>
        cases ud<;>first
          | rfl
          | (rename_i e
             dsimp only
             cases szOf P e<;>cases y with
               | p z=>cases z<;>rfl
               | ref r=>simp[notRef] at hn
               | _=>rfl)
  case lookup ty a k ok' =>
    subst hx
    simp only[opSem,Hy,N0,Hu] at hs ⊢
    obtain⟨a,h1,h2,h3,_⟩:=hs
    refine⟨g,a,?_,h2,h3,rfl⟩
    unfold ap at h1 ⊢
    simp only[qu (h:=h) hn g]
    exact h1
  case entry a =>
    subst hx
    simp only[opSem,Hy,N0,Hu] at hs ⊢
    obtain⟨a,h1,h2,h3,_⟩:=hs
    exact⟨g,a,by rw[oJ (h:=h) hn];exact h1,h2,h3,rfl⟩
  case call c =>
    obtain⟨callee,args,ats⟩:=c
    cases callee with
    | builtin b =>
      cases b<;>simp only[headOf,reduceCtorEq] at hx
      split at hx
      · rename_i y hy
        cases hx
        simp only[opSem,hy,Il,List.map_nil] at hs ⊢
        unfold builtinD at hs ⊢
        split at hs
        all_goals first
          | (simp only[Hy] at hs ⊢
             obtain⟨a,h1,h2⟩:=hs
             simp only[N0,Hu] at h2 ⊢
             obtain⟨h2,h3,_⟩:=h2
             exact⟨g,a,by rw[qv (h:=h) (by simp_all)];exact h1,h2,h3,rfl⟩)
          | simp_all
      · simp at hx
    | _=>simp[headOf] at hx
end
def DX(x:Nat):List Nat→Bool
 | []=>false
 | y::ys=>x==y||DX x ys
def ct(F:List Nat)(i:Nat)(o:Oper):Bool:=quietOp o.op||DX i F
structure DrawOkF (F:List Nat) (L:List Oper) (B:List Nat):Prop where
 self:∀(i:Nat) (o:Oper),L[i]? = some o→(B.getD i 0).testBit i=false
 Qa:∀(i:Nat) (o:Oper),L[i]? = some o→∀e∈o.after.toList,IL .any e=true→e.on<i
 uniq:∀(i k:Nat) (o o':Oper) (x:Tmp),L[i]? = some o→L[k]? = some o'→o.dst=some x→o'.dst=some x→i=k
 oper:∀(i:Nat) (o:Oper) (x:Tmp),L[i]? = some o→x∈de L o→∀(k:Nat) (o':Oper),L[k]? = some o'→o'.dst=some x→(B.getD i 0).testBit k=true∨(B.getD k 0).testBit i=true
 chain:∀(i k:Nat) (o o':Oper),L[i]? = some o→L[k]? = some o'→i<k→ct F i o=false→ct F k o'=false→(B.getD k 0).testBit i=true
def ut(F:List Nat)(L:List Oper)(B:List Nat):Bool :=
 L.zipIdx.all fun p=>!(B.getD p.2 0).testBit p.2&&(
  (p.1.after.toList.all fun e=>!IL .any e||Zd (e.on<p.2)) &&
  (L.zipIdx.all fun q=>(p.2==q.2||p.1.dst.isNone||!(p.1.dst==q.1.dst)) &&
   (!Zd (q.2<p.2)||ct F q.2 q.1||ct F p.2 p.1||(B.getD p.2 0).testBit q.2)) &&
  ((de L p.1).all fun x=>L.zipIdx.all fun q=>!(q.1.dst==some x)||(B.getD p.2 0).testBit q.2||(B.getD q.2 0).testBit p.2))
theorem wd{F:List Nat}{L:List Oper}{B:List Nat}(h:ut F L B=true):DrawOkF F L B where
 self i o ho:=by
  have:=aZ h ho
  simp only[Hx] at this
  simpa using this.1
 Qa i o ho e he hb:=by
  have:=aZ h ho
  simp only[Hx] at this
  have:=HU.1 this.2.1.1 e he
  simpa[hb] using this
 uniq i k o o' x ho N9 hd Ph:=by
  have:=aZ h ho
  simp only[Hx] at this
  have:=aZ this.2.1.2 N9
  simp only[Hx] at this
  have:=this.1
  simpa[hd,Ph] using this
 oper i o x ho hx k o' N9 hd:=by
  have:=aZ h ho
  simp only[Hx] at this
  have:=HU.1 this.2.2 x hx
  have:=aZ this N9
  simpa[hd,Bool.or_assoc] using this
 chain i k o o' ho N9 hik hq Pb:=by
  have:=aZ h N9
  simp only[Hx] at this
  have:=aZ this.2.1.2 ho
  simp only[Hx] at this
  have:=this.2
  simpa[hik,hq,Pb] using this
def fE(F:List Nat)(L:List Oper):List Nat:=(L.zipIdx.filter fun p=>!ct F p.2 p.1).map (·.2)
def iU(F:List Nat)(L:List Oper)(B:List Nat)(i k:Nat):Bool:=(fE F L).all fun c=>if c<k then !(B.getD c 0).testBit i else !(B.getD i 0).testBit c
def gr(F:List Nat)(L:List Oper):List Nat:=0::(fE F L).map (· + 1)
theorem sJ{F:List Nat}{L:List Oper}{c:Nat}{o:Oper}(ho:L[c]? = some o)(hq:ct F c o=false):c∈fE F L:=by
 unfold fE
 rw[HQ]
 exact⟨(o,c),by rw[J6,IY];exact⟨ho,by simp[hq]⟩,rfl⟩
theorem ed{F:List Nat}{L:List Oper}{c:Nat}(h:c∈fE F L):∃o,L[c]? = some o∧ct F c o=false:=by
 unfold fE at h
 rw[HQ] at h
 obtain⟨⟨o,i⟩,h1,rfl⟩:=h
 rw[J6,IY] at h1
 exact⟨o,h1.1,by simpa using h1.2⟩
def xR(P:Program)(Γ:aw)(F:List Nat)(L:List Oper)(B:List Nat)(tF:List D)(hs:List (List Blk))(ts:List (List D)):Prop :=
 ∀(i:Nat) (o:Oper),L[i]? = some o→ct F i o=true→(∃f,FixOk f∧aV L ((ts.getD i []).map f) o.guard=some true)→∀k∈gr F L,iU F L B i k=true →
  ∃f d,FixOk f∧OpOk P Γ ((ts.getD i []).map f) (hs.getD k []) o.op d (hs.getD k [])∧∀x,o.dst=some x→Wk d (tF.getD x .any)
section
variable {P:Program} {Γ:aw} {X:Ctx} {r:Option Nat} {call:CallF} {ops:Array Oper} {m:List Nat} {t0 tF:List D} {hs:List (List Blk)} {ts:List (List D)} {Q:Exit→AS→Prop} {F:List Nat}
structure InvF (F:List Nat) (Γ:aw) (X:Ctx) (L:List Oper) (m:List Nat) (t0 tF:List D) (hs:List (List Blk)) (k:Nat) (S:Array Bool) (a:Act) (w:World):Prop where
 size:S.size=L.length
 closed:jG L (Lst S)
 st:St Γ X {t:=gq L S t0 tF,h:=hs.getD k [],m:=m} a w
 P9:k∈gr F L
 chain:∀c o,L[c]? = some o→ct F c o=false→(Lst S c ↔ c<k)
theorem sK(hD:DrawOkF F ops.toList (dd ops.toList []))(hr:runR P Γ m ops.toList Wk FixOk ops.toList t0 (hs.getD 0 []) tF hs ts)
  (hq:xR P Γ F ops.toList (dd ops.toList []) tF hs ts) (hF:∀j o,ops.toList[j]? = some o→DX j F=true→hs.getD (j+1) []=hs.getD j []) (hQ:Q .normal {t:=tF,h:=hs.getD ops.size [],m:=m}) :
  ∀(fuel:Nat) (k:Nat) (S:Array Bool) (a:Act) (w:World),InvF F Γ X ops.toList m t0 tF hs k S a w→(Iy ops.size).countP (fun j=>!S.getD j false)≤fuel →
   wpAnyIn (FW r) 0 P .any ops (j1 Γ X Q) fuel S a w:=by
 obtain⟨Tb,_,_,_,Ps⟩:=kM _ _ _ _ _ _ hr
 have hn:ops.toList.length=ops.size:=by simp
 have hconst1:∀j o,ops.toList[j]? = some o→ct F j o=true→hs.getD (j+1) []=hs.getD j []:=by
  intro j o ho Of
  unfold ct at Of
  rw[Bool.or_eq_true] at Of
  rcases Of with Of|Of
  case inr=>exact hF j o ho Of
  obtain⟨call,hc,f,d',d,⟨_,h1,_⟩,_⟩:=Ps j o ho
  exact kO Of h1
 have hconst:∀(n k:Nat),(∀c o,ops.toList[c]? = some o→ct F c o=false→¬(k≤c∧c<k+n))→k+n≤ops.size→hs.getD (k+n) []=hs.getD k []:=by
  intro n
  induction n with
  | zero=>intro k _ _;rfl
  | succ n ih =>
   intro k h1 h2
   have iF:k+n<ops.toList.length:=by omega
   have ho:=List.getElem?_eq_getElem iF
   have Of:ct F (k+n) (ops.toList[k+n])=true:=by
    rw[←Bool.not_eq_false]
    exact fun hf=>h1 _ _ ho hf (by omega)
   rw[←Nat.add_assoc,hconst1 _ _ ho Of]
   exact ih k (fun c o oN Is=>fun hx=>h1 c o oN Is (by omega)) (by omega)
 have bound:∀i j o,ops.toList[i]? = some o→((dd ops.toList []).getD i 0).testBit j=true→j<i:=by
  intro i j o ho hb
  have Ol:jG ops.toList (fun x=>x≤i):=fun k o' hk N9 e he hbe=>by
   have:=hD.Qa k o' N9 e he hbe
   show e.on≤i
   omega
  have h1:j≤i:=c4 Ol (k:=i) (HS i) j hb
  have h2:=hD.self i o ho
  rcases Nat.lt_or_eq_of_le h1 with h|h
  ·exact h
  ·subst h;rw[h2] at hb;cases hb
 have fin:∀(k:Nat) (S:Array Bool) (a:Act) (w:World),InvF F Γ X ops.toList m t0 tF hs k S a w→(∀j,j<ops.size→Lst S j)→j1 Γ X Q .normal a w:=by
  intro k S a w I N6
  refine⟨by simp,_,hQ,?_⟩
  have e1:gq ops.toList S t0 tF=tF:=by
   refine br (aI ..) fun x hx=>?_
   rw[aI] at hx
   refine df fun c o oN _=>N6 c ?_
   have:=(Hs.1 oN).1
   omega
  have hk:k≤ops.size:=by
   have:=I.P9
   simp only[gr,HR,HQ] at this
   rcases this with rfl|⟨c,oN,rfl⟩
   ·omega
   ·obtain⟨o,ho,_⟩:=ed oN
    have:=(Hs.1 ho).1
    omega
  have e2:hs.getD ops.size []=hs.getD k []:=by
   have:=hconst (ops.size - k) k (fun c o oN Is hx=>by
    have h1:=(I.chain c o oN Is).1 (N6 c (by omega))
    omega) (by omega)
   rwa[show k+(ops.size - k)=ops.size by omega] at this
  rw[e2]
  have:=I.st
  rw[e1] at this
  exact this
 intro fuel
 induction fuel with
 | zero =>
  intro k S a w I Ro
  have N6:∀j,j<ops.size→Lst S j:=by
   intro j hj
   have h0:(Iy ops.size).countP (fun j=>!S.getD j false)=0:=by omega
   rw[List.countP_eq_zero] at h0
   have:=h0 j (by simpa using hj)
   simpa[Lst] using this
  refine⟨?_,fin k S a w I N6⟩
  unfold K5
  rw[Lp]
  intro j hj
  have Rz:j<ops.size:=by simpa using hj
  have:=N6 j Rz
  have Si:j<S.size:=by rw[I.size,hn];exact Rz
  unfold Lst at this
  have h3:S.getD j true=true:=by
   simp only[Im,Iw Si,Jm] at this ⊢
   exact this
  simp[h3]
 | succ fuel ih =>
  intro k S a w I Ro
  refine⟨fun Pf=>?_,fun i hi=>?_⟩
  ·-- nothing is ready: all is done
   refine fin k S a w I ?_
   have key:∀n,∀j,j<n→j<ops.size→Lst S j:=by
    intro n
    induction n with
    | zero=>intro j hj;omega
    | succ n ihn =>
     intro j hj hjs
     by_cases hjn:j<n
     ·exact ihn j hjn hjs
     have:j=n:=by omega
     subst this
     apply IP
     intro O3
     unfold K5 at Pf
     rw[Lp] at Pf
     have h1:=Pf j (by simpa using hjs)
     apply h1
     have Si:j<S.size:=by rw[I.size,hn];exact hjs
     have ho:ops[j]? = some ops[j]:=Iw hjs
     have h3:S.getD j true=false:=by
      unfold Lst at O3
      simp only[Im,Iw Si,Jm] at O3 ⊢
      simpa using O3
     have h4:(ops[j].after.all fun e=>!IL .any e||S.getD e.on false)=true:=by
      rw[Kg]
      intro e he
      cases hb:IL .any e
      ·rfl
      ·have iF:=hD.Qa j ops[j] (by simp) e (by simpa using he) hb
       have:=ihn e.on iF (by omega)
       simpa[Lst] using this
     rw[h3,ho]
     simpa using h4
   exact fun j hj=>key (j+1) j (by omega) hj
  ·-- an operation that is ready
   unfold K5 at hi
   rw[J6] at hi
   obtain⟨hi1,Sp⟩:=hi
   have his:i<ops.size:=by simpa using hi1
   have S1:i<S.size:=by rw[I.size,hn];exact his
   have ho:ops[i]? = some ops[i]:=Iw his
   generalize ho0:ops[i]=o at ho
   have Oz:ops.toList[i]? = some o:=by simpa using ho
   simp only[ho,H9,Jm,Hx,IU] at Sp
   obtain⟨hi3,hi4⟩:=Sp
   have Oi:¬Lst S i:=by
    unfold Lst
    simp only[Im,Iw S1,Jm] at hi3 ⊢
    simp[hi3]
   have P6:∀e∈o.after.toList,IL .any e=true→Lst S e.on:=by
    intro e he hb
    rw[Kg] at hi4
    have:=hi4 e (by simpa using he)
    simpa[hb,Lst] using this
   have Od:∀j,Lst (S.setIfInBounds i true) j ↔ j=i∨Lst S j:=fun j=>oD S1
   have On:jG ops.toList (Lst (S.setIfInBounds i true)):=by
    intro k' o' Pa N9 e he hb
    rw[Od] at Pa ⊢
    rcases Pa with rfl|Pa
    ·rw[Oz] at N9
     cases N9
     exact .inr (P6 e he hb)
    ·exact .inr (I.closed k' o' Pa N9 e he hb)
   have Pp:∀j,((dd ops.toList []).getD i 0).testBit j=true→j<i∧Lst S j:=by
    intro j hj
    have h1:=bound i j o Oz hj
    have h2:=c4 On (k:=i) ((Od i).2 (.inl rfl)) j hj
    rw[Od] at h2
    exact⟨h1,h2.resolve_left (by omega)⟩
   obtain⟨call,hc,f,dw,d,⟨Rk,N8,hwk⟩,Ri,ht0,hdF⟩:=Ps i o Oz
   have Pg:∀x∈de ops.toList o,(gq ops.toList S t0 tF).getD x .any=(ts.getD i []).getD x .any:=by
    intro x hx
    by_cases Oy:∃(k':Nat) (o':Oper),ops.toList[k']? = some o'∧o'.dst=some x
    ·obtain⟨k',o',Pa,Ph⟩:=Oy
     have huq:∀(j:Nat) (o2:Oper),ops.toList[j]? = some o2→o2.dst=some x→j=k':=fun j o2 hj Oo=>hD.uniq j k' o2 o' x hj Pa Oo Ph
     rcases hD.oper i o x Oz hx k' o' Pa Ph with hb|hb
     ·obtain⟨iF,hSk⟩:=Pp k' hb
      rw[df (fun k2 o2 Rj Oo=>by rw[huq k2 o2 Rj Oo];exact hSk)]
      exact Ri x fun j o2 hj O1 Oo=>by
       have:=huq j o2 O1 Oo
       omega
     ·have iF:=bound k' i o' Pa hb
      have Ta:¬Lst S k':=fun hSk=>Oi (c4 I.closed hSk i hb)
      rw[ui Tb Pa Ph (by unfold Lst at Ta;simpa using Ta)]
      exact(ht0 x fun j o2 hj O1 Oo=>by
       have:=huq j o2 O1 Oo
       omega).symm
    ·rw[df (fun k2 o2 Rj Oo=>absurd ⟨k2,o2,Rj,Oo⟩ Oy)]
     exact Ri x fun j o2 hj O1 Oo=>Oy ⟨j,o2,O1,Oo⟩
   have Sv:∀x∈de ops.toList o,(ts.getD i []).getD x .any=(gq ops.toList S t0 tF).getD x .any:=fun x hx=>(Pg x hx).symm
   have N3:dm P Γ call m ops.toList ((gq ops.toList S t0 tF).map f) (hs.getD i []) o=some (dw,hs.getD (i+1) []):=by
    rw[kL (t':=(ts.getD i []).map f) (fun x hx=>by rw[bi Rk.any,bi Rk.any,Pg x hx])];exact N8
   have Pj:∀{a:Act} {w:World},InvF F Γ X ops.toList m t0 tF hs k S a w→St Γ X {t:=(gq ops.toList S t0 tF).map f,h:=hs.getD k [],m:=m} a w:=fun I=>I.st.fix Rk
   have S8:putD (gq ops.toList S t0 tF) o.dst d=gq ops.toList (S.setIfInBounds i true) t0 tF:=by
    refine oC Oz S1 (fun k' o' Pa x hx Pc=>hD.uniq k' i o' o x Pa Oz Pc hx) fun x hx iF=>hdF x hx (fun j o' hj N9 Ph=>?_) ?_
    ·have:=hD.uniq j i o' o x N9 Oz Ph hx
     omega
    ·rw[←Tb];exact iF
   have Qk:(Iy ops.size).countP (fun j=>!(S.setIfInBounds i true).getD j false)≤fuel:=by
    have:(Iy ops.size).countP (fun j=>!(S.setIfInBounds i true).getD j false)<(Iy ops.size).countP (fun j=>!S.getD j false):=by
     refine kN (fun x hx=>?_) i (by simpa using his) ?_ ?_
     ·have h1:¬Lst (S.setIfInBounds i true) x:=by unfold Lst;simpa using hx
      rw[Od] at h1
      have:¬Lst S x:=fun h=>h1 (.inr h)
      unfold Lst at this
      simpa using this
     ·unfold Lst at Oi;simpa using Oi
     ·have:Lst (S.setIfInBounds i true) i:=(Od i).2 (.inl rfl)
      unfold Lst at this
      simpa using this
    omega
   have hk_le:ct F i o=false→k≤i:=by
    intro Of
    have:=I.P9
    simp only[gr,HR,HQ] at this
    rcases this with rfl|⟨c,oN,rfl⟩
    ·omega
    ·obtain⟨o',N9,Pb⟩:=ed oN
     have hcS:Lst S c:=(I.chain c o' N9 Pb).2 (by omega)
     apply IP
     intro iF
     by_cases hci:c=i
     ·exact Oi (hci▸hcS)
     ·exact Oi (c4 I.closed hcS i (hD.chain i c o o' Oz N9 (by omega) Of Pb))
   have hheap:ct F i o=false→hs.getD i []=hs.getD k []:=by
    intro Of
    have hk:=hk_le Of
    have:=hconst (i - k) k (fun c o' oN Is hx=>by
     have h1:=Pp c (hD.chain c i o' o oN Oz (by omega) Is Of)
     have:=(I.chain c o' oN Is).1 h1.2
     omega) (by omega)
    rwa[show k+(i - k)=i by omega] at this
   unfold wpOpIn
   simp only[ho]
   cases Of:ct F i o
   ·-- it may change the heap
    have hInv:∀a' w',St Γ X {t:=putD (gq ops.toList S t0 tF) o.dst d,h:=hs.getD (i+1) [],m:=m} a' w'→InvF F Γ X ops.toList m t0 tF hs (i+1) (S.setIfInBounds i true) a' w':=by
     intro a' w' Rv
     refine⟨by simpa using I.size,On,by rw[←S8];exact Rv,?_,?_⟩
     ·simp only[gr,HR,HQ]
      exact .inr ⟨i,sJ Oz Of,rfl⟩
     ·intro c o' N9 Pb
      rw[Od,I.chain c o' N9 Pb]
      have hk:=hk_le Of
      constructor
      ·rintro (rfl|h)<;>omega
      ·intro h
       by_cases hci:c=i
       ·exact .inl hci
       ·have h1:=Pp c (hD.chain c i o' o N9 Oz (by omega) Pb Of)
        exact .inr ((I.chain c o' N9 Pb).1 h1.2)
    rw[hheap Of] at N3
    unfold dm at N3
    split at N3
    ·rename_i hg
     split at N3
     ·rename_i d1 h1 Oe
      split at N3
      ·rename_i hm
       simp only[Ho,Hu] at N3
       obtain⟨rfl,rfl⟩:=N3
       have hw:I9 o (yielded ops a.tmps)=true:=by
        obtain⟨l,R,E,rt,rd⟩:=Pj I
        exact aW rt hg
       rw[if_pos hw]
       exact ox (s:={t:=(gq ops.toList S t0 tF).map f,h:=hs.getD k [],m:=m}) hc Oe hm (fun a' w' Ot=>ih (i+1) _ a' w' (hInv a' w' (Nt Rk hwk Ot)) Qk) (Pj I)
      ·simp at N3
     ·simp at N3
    ·rename_i hg
     simp only[Ho,Hu] at N3
     obtain⟨rfl,hh⟩:=N3
     have hw:I9 o (yielded ops a.tmps)=false:=by
      obtain⟨l,R,E,rt,rd⟩:=Pj I
      exact aW rt hg
     rw[if_neg (by simp[hw])]
     refine⟨fun _ _=>trivial,ih (i+1) _ _ w (hInv _ w (Nt Rk hwk ?_)) Qk⟩
     rw[←hh]
     exact St.skip o.dst (Pj I)
    ·simp at N3
   ·-- it leaves the heap alone
    have hInv:∀a' w',St Γ X {t:=putD (gq ops.toList S t0 tF) o.dst d,h:=hs.getD k [],m:=m} a' w'→InvF F Γ X ops.toList m t0 tF hs k (S.setIfInBounds i true) a' w':=by
     intro a' w' Rv
     refine⟨by simpa using I.size,On,by rw[←S8];exact Rv,I.P9,?_⟩
     intro c o' N9 Pb
     rw[Od,←I.chain c o' N9 Pb]
     constructor
     ·rintro (rfl|h)
      ·rw[Oz] at N9;cases N9;rw[Of] at Pb;cases Pb
      ·exact h
     ·exact .inr
    have hgF:∀f:D→D,f .any=.any→aV ops.toList ((ts.getD i []).map f) o.guard=aV ops.toList ((gq ops.toList S t0 tF).map f) o.guard:=fun f hf =>
     fy fun x hx=>by rw[bi hf,bi hf,Sv x (by unfold de;simp only[Jg,Option.mem_toList];exact .inr hx)]
    unfold dm at N3
    split at N3
    ·rename_i hg
     have hw:I9 o (yielded ops a.tmps)=true:=by
      obtain⟨l,R,E,rt,rd⟩:=Pj I
      exact aW rt hg
     rw[if_pos hw]
     have Px:iU F ops.toList (dd ops.toList []) i k=true:=by
      unfold iU
      rw[HU]
      intro c oN
      obtain⟨o',N9,Pb⟩:=ed oN
      split
      ·rename_i iF
       have hcS:=(I.chain c o' N9 Pb).2 iF
       rw[IU,JY]
       exact fun hb=>Oi (c4 I.closed hcS i hb)
      ·rename_i iF
       rw[IU,JY]
       exact fun hb=>iF ((I.chain c o' N9 Pb).1 (Pp c hb).2)
     obtain⟨f2,d2,hfx2,hopk,Oo⟩:=hq i o Oz Of ⟨f,Rk,by rw[hgF f Rk.any];exact hg⟩ k I.P9 Px
     obtain⟨call2,Is,Oe⟩:=OpOk.congr (t':=(gq ops.toList S t0 tF).map f2) (fun x hx=>gA fun j hj=>by
      rw[bi hfx2.any,bi hfx2.any,Sv j (by
      unfold de;simp only[Jg,List.mem_filterMap];exact .inl ⟨x,by simpa using hx,hj⟩)]) hopk
     refine ox (s:={t:=(gq ops.toList S t0 tF).map f2,h:=hs.getD k [],m:=m}) Is Oe I.st.marks (fun a' w' Ot=>ih k _ a' w' ⟨by simpa using I.size,On,?_,I.P9,?_⟩ Qk) (I.st.fix hfx2)
     ·rw[←S8]
      refine St.put_wk (fun x hx iF=>?_) (Nt hfx2 (Wk.refl d2) Ot)
      have h3:=hdF x hx (fun j o' hj N9 Ph=>by
       have:=hD.uniq j i o' o x N9 Oz Ph hx
       omega) (by rw[aI] at iF;rw[←Tb];exact iF)
      rw[←h3]
      exact Oo x hx
     ·intro c o' N9 Pb
      rw[Od,←I.chain c o' N9 Pb]
      constructor
      ·rintro (rfl|h)
       ·rw[Oz] at N9;cases N9;rw[Of] at Pb;cases Pb
       ·exact h
      ·exact .inr
    ·rename_i hg
     simp only[Ho,Hu] at N3
     obtain⟨rfl,hh⟩:=N3
     have hw:I9 o (yielded ops a.tmps)=false:=by
      obtain⟨l,R,E,rt,rd⟩:=Pj I
      exact aW rt hg
     rw[if_neg (by simp[hw])]
     exact⟨fun _ _=>trivial,ih k _ _ w (hInv _ w (Nt Rk hwk (St.skip (s:={t:=(gq ops.toList S t0 tF).map f,h:=hs.getD k [],m:=m}) o.dst (Pj I)))) Qk⟩
    ·simp at N3
theorem VW.drawF{s:AS}(ok:POk P){id:Nat}(hD:DrawOkF F ops.toList (dd ops.toList []))(hr:runR P Γ s.m ops.toList Wk FixOk ops.toList s.t s.h tF hs ts)
  (hq:xR P Γ F ops.toList (dd ops.toList []) tF hs ts) (hF:∀j o,ops.toList[j]? = some o→DX j F=true→hs.getD (j+1) []=hs.getD j []) (hQ:Q .normal {t:=tF,h:=hs.getD ops.size [],m:=s.m}):VW P Γ X r (.region id ops true) Q s:=by
 obtain⟨g1,g2,g3,g4,_⟩:=kM _ _ _ _ _ _ hr
 have h0:hs.getD 0 []=s.h:=by simp[List.getD_eq_getElem?_getD,g3]
 intro a w N8
 refine wpIn_region_any ok.mixed ?_
 rw[←h0] at hr
 refine sK (t0:=s.t) (hs:=hs) hD hr hq hF hQ ops.size 0 _ a _ ?_ ?_
 ·have Qr:∀j,(Mh ops.size false).getD j false=false:=by
   intro j
   simp only[Im,Array.getElem?_replicate]
   split<;>rfl
  refine⟨by simp,fun k o hk _ _ _ _=>?_,?_,by simp[gr],fun c o _ _=>?_⟩
  ·unfold Lst at hk;rw[Qr] at hk;cases hk
  ·have e1:gq ops.toList (Mh ops.size false) s.t tF=s.t:=by
    refine br (by rw[aI,g1]) fun x hx=>?_
    rw[aI] at hx
    rw[fV hx]
    split
    ·rfl
    ·rename_i hp
     refine g2 x fun o ho hd=>hp ?_
     obtain⟨k,hk⟩:=List.mem_iff_getElem?.1 ho
     exact dy.2 ⟨k,o,hk,hd,Qr k⟩
   rw[e1,h0]
   obtain⟨l,R,E,rt,rd⟩:=N8
   obtain⟨R',E'⟩:=R.of_heap (w':={w with drawn:=w.drawn+1}) rfl ⟨rfl,rfl,rfl,(by first|exact HS _|exact JN _)⟩
   exact⟨l,R',E.trans E',E'.relL rt,rd⟩
  ·unfold Lst
   rw[Qr]
   simp
 ·refine Nat.le_trans List.countP_le_length (by simp)
end
theorem fY(i:Nat)(o:Oper):ct [] i o=quietOp o.op:=by simp[ct,DX]
theorem sL(L:List Oper):fE [] L=fA L:=by unfold fE fA;simp only[fY]
theorem VW.drawE{P:Program}{Γ:aw}{X:Ctx}{r:Option Nat}{ops:Array Oper}{tF:List D}{hs:List (List Blk)}{ts:List (List D)}{Q:Exit→AS→Prop}{s:AS}(ok:POk P){id:Nat}(hD:DrawOk ops.toList (dd ops.toList []))(hr:runR P Γ s.m ops.toList Wk FixOk ops.toList s.t s.h tF hs ts)
  (hq:xG P Γ ops.toList (dd ops.toList []) tF hs ts) (hQ:Q .normal {t:=tF,h:=hs.getD ops.size [],m:=s.m}):VW P Γ X r (.region id ops true) Q s:=by
 refine VW.drawF (F:=[]) ok ⟨hD.self,hD.Qa,hD.uniq,hD.oper,fun i k o o' h1 h2 h3 h4 h5=>hD.chain i k o o' h1 h2 h3 (by rw[fY] at h4;exact h4) (by rw[fY] at h5;exact h5)⟩ hr ?_ (fun _ _ _ h=>by cases h) hQ
 intro i o ho Of hg k hk hc
 rw[fY] at Of
 unfold gr at hk
 unfold iU at hc
 rw[sL] at hk hc
 obtain⟨f,d,h',h1,h2,h3⟩:=hq i o ho Of hg k hk hc
 have:=bJ Of h2
 subst this
 exact⟨f,d,h1,OpOk.sem h2,h3⟩
section
variable {P:Program} {Γ:aw} {X:Ctx} {r:Option Nat} {Q:Exit→AS→Prop} {t:List D} {h:List Blk} {m:List Nat}
theorem VW.drawW(ok:POk P){id:Nat}{ops:Array Oper}(hD:sy ops.toList (dd ops.toList [])=true)(hx:ops.toList.all (fun o=>match o.dst with|some x=>Zd (x<t.length)|none=>true)=true)
  (hr:RW P Γ m ops.toList true ops.toList t h (fun t' h'=>Q .normal {t:=t',h:=h',m:=m})):VW P Γ X r (.region id ops true) Q {t:=t,h:=h,m:=m}:=by
 obtain⟨tF,hs,ts,g1,g2,g3⟩:=RW.runR _ _ _ hr
 have hD':=qg hD
 have Pc:=hx
 clear hx
 refine VW.drawE (hs:=hs) (ts:=ts) ok hD' g1 ?_ ?_
 ·intro i o ho hq ⟨f0,hf0,Q0⟩ k hk Px
  obtain⟨g5,g6,g7,g8,Ps⟩:=kM _ _ _ _ _ _ g1
  obtain⟨call,hc,f,dw,d,⟨Rk,h1,hwk⟩,h2,h3,h4⟩:=Ps i o ho
  have hi:i≤ops.toList.length:=by
   have:=(Hs.1 ho).1
   omega
  have Pa:k≤ops.toList.length:=by
   simp only[A7,HR,HQ] at hk
   rcases hk with rfl|⟨c,oN,rfl⟩
   ·omega
   ·obtain⟨o',N9,_⟩:=hC oN
    have:=(Hs.1 N9).1
    omega
  rw[g3 i hi] at h1
  rw[g3 k Pa]
  have hwx:∀x,o.dst=some x→Wk dw (tF.getD x .any):=fun x hx=>by
   have hxl:x<t.length:=by
    have:=HU.1 Pc o (H1 ho)
    simpa[hx] using this
   rw[h4 x hx (fun j o' hj N9 hd=>by have:=hD'.uniq i j o o' x ho N9 hx hd;omega) hxl]
   exact hwk
  unfold dm at h1
  split at h1
  ·rename_i hg
   split at h1
   ·rename_i d1 h1' Oe
    split at h1
    ·simp only[Ho,Hu] at h1
     obtain⟨rfl,_⟩:=h1
     unfold fu at Oe
     split at Oe
     ·rename_i O1
      rw[O1] at hq
      simp[quietOp] at hq
     ·split at Oe
      ·rename_i hsem
       cases Oe
       exact⟨f,_,_,Rk,hsem,hwx⟩
      ·simp at Oe
    ·simp at h1
   ·simp at h1
  ·rename_i hg
   exact absurd (gB X.w Rk hf0 hg Q0) (by simp)
  ·simp at h1
 ·have:=g3 ops.toList.length (HS _)
  rw[show ops.size=ops.toList.length by simp,this]
  exact g2
end
end Go.Vi
