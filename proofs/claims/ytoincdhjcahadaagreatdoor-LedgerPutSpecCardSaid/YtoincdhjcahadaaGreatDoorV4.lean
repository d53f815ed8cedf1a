/- LedgerPutSpec: part of the proof: an evaluator of the model's programs on abstract values, and its soundness. No conditions beyond the given statement's own. -/
import Derived.Test.YtoincdhjcahadaaGreatDoorV3
open Decidable renaming decide → Qd
open Go.Vi.Loc renaming upd → GP
open List renaming getElem?_append → I3, getElem?_cons_zero → DN, getElem?_append_left → DP, getElem?_eq_some_iff → Dq, all_eq_true → DK, getElem?_append_right → D4, map_congr_left → Gq, mem_cons → DM, not_mem_nil → Gr, mem_map → Eb, mem_append → DX, mk_mem_zipIdx_iff_getElem? → EH, mem_cons_of_mem → FI, mem_cons_self → EL, getD_eq_getElem?_getD → DR, mem_filterMap → Jg, getElem?_set_ne → GA, getElem?_cons_succ → Fp, mem_iff_getElem? → FS, mem_filter → Gh, range → EE, any_eq_true → Ie, getElem?_eq_none → Fb, countP_cons → GV, set_eq_of_length_le → GQ, getElem?_eq_getElem → D7, filter_eq_nil_iff → Gv, pairwise_append → Hr, pairwise_cons → Et
open Nat renaming sub_self → FO, le_refl → DJ, le_of_not_lt → HT
open Option.some renaming injEq → Dj
open Go.Vi.Blk renaming inn → D6
open Go.Vi.RelL renaming mono → Im
open Bool renaming false_eq_true → D8, and_eq_true → Dr, not_eq_true' → ED, eq_false_iff → FJ
open Option renaming mem_toList → Ho, map_eq_some_iff → Du, getD_some → EB
open Prod.mk renaming injEq → Dm
open Go.Region renaming binds → El, ready → Fc, wanted → Ef
open Go.Vi.CallF renaming Ok → HS
open Array renaming getD_eq_getD_getElem? → D2, getElem?_eq_getElem → D5, all_eq_true_iff_forall_mem → FF, replicate → EN
open Classical renaming byContradiction → Eo
open Go.Oper renaming semAt_eq → G1
namespace Go.Vi
open Go
def Blk.plain:Blk→Bool
 | .var _ | .vec _ _ _=>true
 | _=>false
def Pd(w:World)(av:Nat→Prop)(l:Loc)(h:List Blk)(x:Blk)(p:Option (Nat×Nat)):Prop :=
 x.plain=true∧BlkOk w av (l.upd h.length p) h h.length x
section
variable {Γ:ae} {O:Nat→Prop} {w w':World} {l l':Loc} {h h':List Blk} {x:Blk}
def nU(O:Nat→Prop)(p:Option (Nat×Nat)):Nat→Prop:=fun k=>O k∨∃c,p=some (k,c)
theorem ew{l:Loc}{n b:Nat}{p:Option (Nat×Nat)}(h:b<n):l.upd n p b=l b:=Loc.upd_ne _ _ _ (by omega)
theorem w7(l:Loc)(n:Nat):l.upd n (l n)=l:=by
 funext i
 by_cases hi:i=n
 ·subst hi;simp[GP]
 ·simp[GP,hi]
theorem gt{k:Nat}:own l (h++[x]) k ↔ own l h k∨(x ≠ .gone∧∃c,l h.length=some (k,c)):=by
 constructor
 ·rintro⟨b,y,c,h1,h2,h3⟩
  rw[I3] at h1
  split at h1
  ·exact .inl ⟨b,y,c,h1,h2,h3⟩
  ·have hb:b=h.length:=by
    cases hd:b - h.length with
    | zero=>omega
    | succ n=>rw[hd] at h1;simp at h1
   subst hb
   simp only[FO,DN,Dj] at h1
   subst h1
   exact .inr ⟨h2,c,h3⟩
 ·rintro (⟨b,y,c,h1,h2,h3⟩|⟨h1,c,h2⟩)
  ·exact⟨b,y,c,by rw[DP (Dq.1 h1).1,h1],h2,h3⟩
  ·exact⟨h.length,x,c,by simp,h1,h2⟩
theorem mW(hx:x ≠ .gone){k:Nat}:avs O l (h++[x]) k ↔ avs (nU O (l h.length)) l h k:=by
 unfold avs nU
 rw[gt]
 constructor
 ·rintro (h1|h1|⟨_,h1⟩)
  ·exact .inl (.inl h1)
  ·exact .inr h1
  ·exact .inl (.inr h1)
 ·rintro ((h1|h1)|h1)
  ·exact .inl h1
  ·exact .inr (.inr ⟨hx,h1⟩)
  ·exact .inr (.inl h1)
theorem gu{x:Blk}(h:x.plain=true):x ≠ .gone:=by intro e;rw[e] at h;simp[Blk.plain] at h
theorem Rep.hide(R:Rep Γ O w l (h++[x]))(hp:x.plain=true)(hi:h.all (D6 h.length)=true)(hx:x.inn h.length=true):
  Rep Γ (nU O (l h.length)) w l h∧Pd w (avs (nU O (l h.length)) l h) l h x (l h.length):=by
 have hne:=gu hp
 have hav:∀k,avs (nU O (l h.length)) l h k→avs O l (h++[x]) k:=fun k hk=>(mW hne).2 hk
 have htake:(h++[x]).take h.length=h:=by simp
 have R':=R.take (n:=h.length) (by rw[htake];exact hi)
 rw[htake] at R'
 refine⟨⟨fun blk ho=>?_,fun blk ho=>?_,R'.inj,fun b y hb=>?_,fun g cs hg=>aq hav (R.glo g cs hg)⟩,hp,?_⟩
 ·obtain⟨h1,h2⟩:=R'.inb blk ho
  refine⟨h1,?_⟩
  rintro (h3|⟨c,h3⟩)
  ·exact h2 h3
  ·obtain⟨b,y,c',g1,g2,g3⟩:=ho
   have hlt:=(Dq.1 g1).1
   have:=R.inj b h.length y x blk c' c (by rw[DP hlt,g1]) g2 (by simp) hne g3 h3
   omega
 ·rcases ho with h1|⟨c,h1⟩
  ·exact R.obd blk h1
  ·exact(R.inb blk (gt.2 (.inr ⟨hne,c,h1⟩))).1
 ·have hlt:=(Dq.1 hb).1
  have:=ik (n:=h.length) hav (DK.1 hi y (List.mem_of_getElem? hb)) (R.blk b y (by rw[DP hlt,hb]))
  rwa[htake] at this
 ·rw[w7]
  have:=ik (n:=h.length) hav hx (R.blk h.length x (by simp))
  rwa[htake] at this
theorem za{av av':Nat→Prop}{p:Option (Nat×Nat)}(hc:∀blk off y,¬av blk→w.cell? ⟨blk,off,none⟩=some y→w'.cell? ⟨blk,off,none⟩=some y∧¬av' blk)
  (hk:∀b x,h[b]? = some x→∃x',h'[b]? = some x'∧x.le x'∧(x.stays x'→l' b=l b)) (hle:h.length≤h'.length)
  {ds:List D} {ys:List Value} (r:RelL w av (l.upd h.length p) h ds ys):RelL w' av' (l'.upd h'.length p) h' ds ys:=by
 refine Im hc (fun b y hb=>?_) ds ys r
 have hlt:=(Dq.1 hb).1
 obtain⟨x',h1,h2,h3⟩:=hk b y hb
 exact⟨x',h1,h2,fun hs=>by rw[ew hlt,ew (by omega)];exact h3 hs⟩
theorem Pd.mono{av av':Nat→Prop}{p:Option (Nat×Nat)}(hc:∀blk off y,¬av blk→w.cell? ⟨blk,off,none⟩=some y→w'.cell? ⟨blk,off,none⟩=some y∧¬av' blk)
  (hk:∀b x,h[b]? = some x→∃x',h'[b]? = some x'∧x.le x'∧(x.stays x'→l' b=l b)) (hle:h.length≤h'.length)
  (hh:∀blk c,p=some (blk,c)→w'.heap[blk]? = w.heap[blk]?) (r:Pd w av l h x p):Pd w' av' l' h' x p:=by
 obtain⟨hp,r⟩:=r
 refine⟨hp,?_⟩
 cases x<;>simp only[Blk.plain,D8] at hp
 ·obtain⟨blk,cp,c,T,h1,h2,h3⟩:=r
  have h1':p=some (blk,cp):=by simpa[GP] using h1
  exact⟨blk,cp,c,T,by simp[GP,h1'],by rw[hh blk cp h1',h2],za hc hk hle h3⟩
 ·unfold BlkOk at r ⊢
  have e1:l.upd h.length p h.length=p:=by simp[GP]
  have e2:l'.upd h'.length p h'.length=p:=by simp[GP]
  simp only[e1,e2] at r ⊢
  cases p with
  | none=>exact r
  | some q =>
   obtain⟨blk,cap⟩:=q
   obtain⟨oo,cc,rc,c,T,fr,ys,r1,r2,r3,r4,r5,r6,r7⟩:=r
   exact⟨oo,cc,rc,c,T,fr,ys,by rw[hh blk cap rfl,r1],r2,r3,r4,r5,za hc hk hle r6,r7⟩
end
section
variable {Γ:ae} {O:Nat→Prop} {w w':World} {l l':Loc} {h h':List Blk} {x:Blk} {av av':Nat→Prop}
theorem RelKV.mono(hc:∀blk off y,¬av blk→w.cell? ⟨blk,off,none⟩=some y→w'.cell? ⟨blk,off,none⟩=some y∧¬av' blk)
  (hk:∀b x,h[b]? = some x→∃x',h'[b]? = some x'∧x.le x'∧(x.stays x'→l' b=l b)):∀(d:List (D×D×Nat)) (y:List MapEntry),RelKV w av l h d y→RelKV w' av' l' h' d y
 | [],[],_=>by simp[RelKV]
 | (k,d,n)::ds,e::es,r=>by
  simp only[RelKV] at r ⊢
  exact⟨Rel.mono hc hk _ _ r.1,Rel.mono hc hk _ _ r.2.1,r.2.2.1,RelKV.mono hc hk ds es r.2.2.2⟩
 | [],_::_,r=>by simp[RelKV] at r
 | _::_,[],r=>by simp[RelKV] at r
theorem BlkOk.mono(hc:∀blk off y,¬av blk→w.cell? ⟨blk,off,none⟩=some y→w'.cell? ⟨blk,off,none⟩=some y∧¬av' blk)
  (hk:∀b x,h[b]? = some x→∃x',h'[b]? = some x'∧x.le x'∧(x.stays x'→l' b=l b)) {b b':Nat} (hl:l' b'=l b)
  (hh:∀blk cp,l b=some (blk,cp)→w'.heap[blk]? = w.heap[blk]?) (r:BlkOk w av l h b x):BlkOk w' av' l' h' b' x:=by
 cases x with
 | var cs =>
  obtain⟨blk,cp,c,T,h1,h2,h3⟩:=r
  exact⟨blk,cp,c,T,by rw[hl,h1],by rw[hh blk cp h1,h2],Im hc hk _ _ h3⟩
 | vec es e sz =>
  unfold BlkOk at r ⊢
  simp only[hl] at r ⊢
  split
  ·rename_i h0;rw[h0] at r;exact r
  ·rename_i blk cap h0
   rw[h0] at r
   obtain⟨oo,cc,rc,c,T,fr,ys,r1,r2,r3,r4,r5,r6,r7⟩:=r
   exact⟨oo,cc,rc,c,T,fr,ys,by rw[hh blk cap h0,r1],r2,r3,r4,r5,Im hc hk _ _ r6,r7⟩
 | map kvs clock =>
  obtain⟨blk,cp,es,r1,r2,r3⟩:=r
  exact⟨blk,cp,es,by rw[hl,r1],by rw[hh blk cp r1,r2],RelKV.mono hc hk _ _ r3⟩
 | sit s pos =>
  obtain⟨blk,cp,r1,r2⟩:=r
  exact⟨blk,cp,by rw[hl,r1],by rw[hh blk cp r1,r2]⟩
 | mit m since seen st =>
  obtain⟨blk,cp,mr,r1,r2,r3⟩:=r
  refine⟨blk,cp,mr,by rw[hl,r1],by rw[hh blk cp r1,r2],?_⟩
  cases m with
  | none=>exact r3
  | some mb=>exact RefRel.mono hk _ _ r3
 | loop st pend fn tmps params asg body =>
  obtain⟨blk,cp,ts,dr,fn',r1,r2,r3,r4⟩:=r
  exact⟨blk,cp,ts,dr,fn',by rw[hl,r1],by rw[hh blk cp r1,r2],Im hc hk _ _ r3,r4⟩
 | defd =>
  obtain⟨blk,cp,r1,r2⟩:=r
  exact⟨blk,cp,by rw[hl,r1],by rw[hh blk cp r1,r2]⟩
 | gone=>trivial
theorem mX{p:Option (Nat×Nat)}{k:Nat}:own (l.upd h.length p) h k ↔ own l h k:=by
 constructor
 ·rintro⟨b,y,c,h1,h2,h3⟩
  rw[ew (Dq.1 h1).1] at h3
  exact⟨b,y,c,h1,h2,h3⟩
 ·rintro⟨b,y,c,h1,h2,h3⟩
  refine⟨b,y,c,h1,h2,?_⟩
  rw[ew (Dq.1 h1).1]
  exact h3
theorem gw{p:Option (Nat×Nat)}:∀b y,h[b]? = some y→∃x',(h++[x])[b]? = some x'∧y.le x'∧(y.stays x'→(l.upd h.length p) b=l b):=by
 intro b y hb
 have hlt:=(Dq.1 hb).1
 exact⟨y,by rw[DP hlt,hb],y.le_refl,fun _=>ew hlt⟩
theorem Rep.merge{p:Option (Nat×Nat)}(R:Rep Γ (nU O p) w l h)(hP:Pd w (avs (nU O p) l h) l h x p)(hO:∀k c,p=some (k,c)→¬O k):
  Rep Γ O w (l.upd h.length p) (h++[x]):=by
 obtain⟨hp,hP⟩:=hP
 have hne:=gu hp
 have hself:(l.upd h.length p) h.length=p:=by simp[GP]
 have hav:∀k,avs O (l.upd h.length p) (h++[x]) k ↔ avs (nU O p) l h k:=by
  intro k
  rw[mW hne,hself]
  unfold avs
  rw[mX]
 have hc:∀blk off y,¬avs (nU O p) l h blk→w.cell? ⟨blk,off,none⟩=some y→w.cell? ⟨blk,off,none⟩=some y∧¬avs O (l.upd h.length p) (h++[x]) blk :=
  fun blk off y hn hy=>⟨hy,fun ha=>hn ((hav blk).1 ha)⟩
 have hown:∀k,own (l.upd h.length p) (h++[x]) k→own l h k∨∃c,p=some (k,c):=by
  intro k hk
  rw[gt,mX,hself] at hk
  exact hk.imp id (·.2)
 refine⟨fun blk ho=>?_,fun blk ho=>R.obd blk (.inl ho),?_,?_,fun g cs hg=>RelCells.mono hc g 0 cs (R.glo g cs hg)⟩
 ·rcases hown blk ho with h1|⟨c,h1⟩
  ·obtain⟨h2,h3⟩:=R.inb blk h1
   exact⟨h2,fun h4=>h3 (.inl h4)⟩
  ·exact⟨R.obd blk (.inr ⟨c,h1⟩),hO blk c h1⟩
 ·have get:∀(b:Nat) (y:Blk),(h++[x])[b]? = some y→(b<h.length∧h[b]? = some y)∨b=h.length:=by
   intro b y hb
   have hlt:=(Dq.1 hb).1
   by_cases hb2:b<h.length
   ·rw[DP hb2] at hb;exact .inl ⟨hb2,hb⟩
   ·simp at hlt;exact .inr (by omega)
  intro b b' y y' k c c' h1 h2 h3 h4 h5 h6
  rcases get b y h1 with ⟨g1,g2⟩|g1<;>rcases get b' y' h3 with ⟨g3,g4⟩|g3
  ·rw[ew g1] at h5
   rw[ew g3] at h6
   exact R.inj b b' y y' k c c' g2 h2 g4 h4 h5 h6
  ·subst g3
   rw[ew g1] at h5
   rw[hself] at h6
   exact absurd (.inr ⟨c',h6⟩) (R.inb k ⟨b,y,c,g2,h2,h5⟩).2
  ·subst g1
   rw[ew g3] at h6
   rw[hself] at h5
   exact absurd (.inr ⟨c,h5⟩) (R.inb k ⟨b',y',c',g4,h4,h6⟩).2
  ·omega
 ·intro b y hb
  have hlt:=(Dq.1 hb).1
  by_cases hb2:b<h.length
  ·rw[DP hb2] at hb
   exact BlkOk.mono hc gw (ew hb2) (fun _ _ _=>rfl) (R.blk b y hb)
  ·have hbe:b=h.length:=by simp at hlt;omega
   subst hbe
   simp only[D4 (DJ _),FO,DN,Dj] at hb
   subst hb
   refine BlkOk.mono hc (fun b y hb=>?_) rfl (fun _ _ _=>rfl) hP
   have hlt:=(Dq.1 hb).1
   exact⟨y,by rw[DP hlt,hb],y.le_refl,fun _=>rfl⟩
theorem Ext.merge{w0:World}{l0:Loc}{h0:List Blk}{p:Option (Nat×Nat)}(E:Ext w0 l0 h0 w l h)(hp:∀k c,p=some (k,c)→w0.heap.size≤k):
  Ext w0 l0 h0 w (l.upd h.length p) (h++[x]) where
 size:=E.size
 same:=E.same
 news blk ho:=by
  rw[gt,mX] at ho
  rcases ho with h1|⟨_,c,h1⟩
  ·exact E.news blk h1
  ·exact .inr (hp blk c (by simpa[GP] using h1))
 keep b y hb:=by
  obtain⟨x',h1,h2,h3⟩:=E.keep b y hb
  have hlt:=(Dq.1 h1).1
  exact⟨x',by rw[DP hlt,h1],h2,fun hs=>by rw[ew hlt];exact h3 hs⟩
 tape:=E.tape
end
theorem b8{P:Program}{Γ:ae}{t t':List D}{h:List Blk}(o:Op)(he:∀x∈o.operands,evalD Γ t x=evalD Γ t' x):opSem P Γ t h o=opSem P Γ t' h o:=by
 have hmap:∀xs:List Operand,(∀x∈xs,evalD Γ t x=evalD Γ t' x)→xs.map (evalD Γ t)=xs.map (evalD Γ t'):=fun xs hx=>Gq hx
 have hopt:∀xs:Option Operand,(∀x∈xs,evalD Γ t x=evalD Γ t' x)→xs.map (evalD Γ t)=xs.map (evalD Γ t'):=fun xs hx=>by
  cases xs with
  | none=>rfl
  | some x=>simp[hx x (by simp)]
 cases o<;>simp only[Op.operands,DM,Array.mem_def,Gr,or_false,forall_eq_or_imp,forall_eq,Eb,Prod.exists,exists_eq_right,Array.toList_append,DX,Option.toList_toArray,Ho] at he
 case move=>simp[opSem,he]
 case assign=>simp[opSem,he]
 case pick=>simp[opSem,he]
 case alloc=>rfl
 case box=>simp[opSem,he]
 case build ty ps =>
  have:(ps.toList.map fun p=>(p.1,evalD Γ t p.2))=ps.toList.map fun p=>(p.1,evalD Γ t' p.2):=Gq fun p hp=>by rw[he p.2 ⟨p.1,hp⟩]
  simp[opSem,this]
 case buildSlice ty n ps =>
  have:(ps.toList.map fun p=>(p.1,evalD Γ t p.2))=ps.toList.map fun p=>(p.1,evalD Γ t' p.2):=Gq fun p hp=>by rw[he p.2 ⟨p.1,hp⟩]
  simp[opSem,this]
 case load=>simp[opSem,he]
 case store=>simp[opSem,he]
 case nilCheck=>simp[opSem,he]
 case binOp=>simp[opSem,he]
 case unOp=>simp[opSem,he]
 case convert=>simp[opSem,he]
 case makeFunc f a c =>
  simp only[opSem]
  rw[hmap a.toList (fun x hx=>he x (.inl hx)),hmap c.toList (fun x hx=>he x (.inr hx))]
 case makeMap ty r=>cases r<;>rfl
 case makeSlice=>simp[opSem,he]
 case slice ty x lo hi mx =>
  simp only[opSem]
  have e:=he
  rw[hopt lo (fun x hx=>by apply he;simp_all),hopt hi (fun x hx=>by apply he;simp_all),hopt mx (fun x hx=>by apply he;simp_all),he x (by simp)]
 case fieldAddr=>simp[opSem,he]
 case field=>simp[opSem,he]
 case indexAddr=>simp[opSem,he]
 case index=>simp[opSem,he]
 case lookup=>simp[opSem,he]
 case mapUpdate=>simp[opSem,he]
 case insert=>simp[opSem,he]
 case range=>simp[opSem,he]
 case next=>simp[opSem,he]
 case entry=>simp[opSem,he]
 case extract=>simp[opSem,he]
 case makeInterface=>simp[opSem,he]
 case typeAssert=>simp[opSem,he]
 case call c =>
  obtain⟨cal,args,ats⟩:=c
  cases cal with
  | builtin b =>
   simp only[opSem]
   rw[hmap args.toList (fun x hx=>he x (by simpa[Call.operands] using hx))]
  | value f=>rfl
  | invoke r m=>rfl
 all_goals rfl
def quietOp:Op→Bool
 | .move _ | .assign _ | .pick .. | .build .. | .load .. | .nilCheck _ | .binOp .. | .unOp .. | .convert .. | .makeFunc .. | .slice .. | .fieldAddr .. | .field .. | .indexAddr .. | .index ..
 | .lookup .. | .entry _ | .extract .. | .makeInterface .. | .typeAssert ..=>true
 | .call {callee:=.builtin b,.. }=>match b with
  | .len | .max | .min=>true
  | _=>false
 | _=>false
theorem aZ{P:Program}{Γ:ae}{t:List D}{h h':List Blk}{b:Bool}{d:D}{o:Op}(hq:quietOp o=true)(hd:opSem P Γ t h o=some (b,d,h')):h'=h:=by
 cases o<;>simp only[quietOp,D8] at hq<;>simp only[opSem,Du,keep,keepB,Dm,Dj] at hd
 case binOp =>
  split at hd
  ·simp only[Dj,Dm] at hd;exact hd.2.2.symm
  ·split at hd
   ·simp only[Dj,Dm] at hd;exact hd.2.2.symm
   ·simp only[Du,keep,Dm] at hd
    obtain⟨_,_,_,_,rfl⟩:=hd
    rfl
 case extract =>
  split at hd
  ·simp only[Du,keep,Dm] at hd
   obtain⟨_,_,_,_,rfl⟩:=hd
   rfl
  ·simp at hd
 case call c =>
  obtain⟨cal,args,ats⟩:=c
  cases cal with
  | builtin bt =>
   simp only at hq
   simp only[builtinD] at hd
   split at hd
   ·simp at hq
   ·simp at hq
   ·simp at hq
   ·simp only[Du,keep,Dm] at hd
    obtain⟨_,_,_,_,rfl⟩:=hd
    rfl
   ·simp only[Du,keep,Dm] at hd
    obtain⟨_,_,_,_,rfl⟩:=hd
    rfl
   ·simp only[Du,keep,Dm] at hd
    obtain⟨_,_,_,_,rfl⟩:=hd
    rfl
   ·simp at hd
  | value f=>simp at hq
  | invoke r m=>simp at hq
 all_goals first
  | (obtain⟨_,_,_,_,rfl⟩:=hd;rfl)
  | (obtain⟨_,_,rfl⟩:=hd;rfl)
def uh(acc:List Nat)(o:Oper):Nat:=o.after.toList.foldl (fun s e=>if El .any e then s ||| (2 ^ e.on ||| acc.getD e.on 0) else s) 0
def a9:List Oper→List Nat→List Nat
 | [],acc=>acc
 | o::os,acc=>a9 os (acc++[uh acc o])
def tmpOf:Operand→Option Tmp
 | .tmp t=>some t
 | _=>none
def mY(L:List Oper)(g:Option (Nat×Bool)):Option Tmp:=match g with
 | none=>none
 | some (j,_)=>(L[j]?).bind (·.dst)
def bA(L:List Oper)(o:Oper):List Tmp:=o.op.operands.toList.filterMap tmpOf++(mY L o.guard).toList
structure DrawOk (L:List Oper) (B:List Nat):Prop where
 self:∀(i:Nat) (o:Oper),L[i]? = some o→(B.getD i 0).testBit i=false
 edge:∀(i:Nat) (o:Oper),L[i]? = some o→∀e∈o.after.toList,El .any e=true→e.on<i
 uniq:∀(i k:Nat) (o o':Oper) (x:Tmp),L[i]? = some o→L[k]? = some o'→o.dst=some x→o'.dst=some x→i=k
 oper:∀(i:Nat) (o:Oper) (x:Tmp),L[i]? = some o→x∈bA L o→∀(k:Nat) (o':Oper),L[k]? = some o'→o'.dst=some x→(B.getD i 0).testBit k=true∨(B.getD k 0).testBit i=true
 chain:∀(i k:Nat) (o o':Oper),L[i]? = some o→L[k]? = some o'→i<k→quietOp o.op=false→quietOp o'.op=false→(B.getD k 0).testBit i=true
def fH(L:List Oper)(B:List Nat):Bool :=
 L.zipIdx.all fun p=>!(B.getD p.2 0).testBit p.2&&(
  (p.1.after.toList.all fun e=>!El .any e||Qd (e.on<p.2)) &&
  (L.zipIdx.all fun q=>(p.2==q.2||p.1.dst.isNone||!(p.1.dst==q.1.dst)) &&
   (!Qd (q.2<p.2)||quietOp q.1.op||quietOp p.1.op||(B.getD p.2 0).testBit q.2)) &&
  ((bA L p.1).all fun x=>L.zipIdx.all fun q=>!(q.1.dst==some x)||(B.getD p.2 0).testBit q.2||(B.getD q.2 0).testBit p.2))
theorem aI{L:List Oper}{f:Oper×Nat→Bool}(h:L.zipIdx.all f=true){i:Nat}{o:Oper}(ho:L[i]? = some o):f (o,i)=true :=
 DK.1 h (o,i) (by rw[EH];exact ho)
theorem gx{L:List Oper}{B:List Nat}(h:fH L B=true):DrawOk L B where
 self i o ho:=by
  have:=aI h ho
  simp only[Dr] at this
  simpa using this.1
 edge i o ho e he hb:=by
  have:=aI h ho
  simp only[Dr] at this
  have:=DK.1 this.2.1.1 e he
  simpa[hb] using this
 uniq i k o o' x ho ho' hd hd':=by
  have:=aI h ho
  simp only[Dr] at this
  have:=aI this.2.1.2 ho'
  simp only[Dr] at this
  have:=this.1
  simpa[hd,hd'] using this
 oper i o x ho hx k o' ho' hd:=by
  have:=aI h ho
  simp only[Dr] at this
  have:=DK.1 this.2.2 x hx
  have:=aI this ho'
  simpa[hd,Bool.or_assoc] using this
 chain i k o o' ho ho' hik hq hq':=by
  have:=aI h ho'
  simp only[Dr] at this
  have:=aI this.2.1.2 ho
  simp only[Dr] at this
  have:=this.2
  simpa[hik,hq,hq'] using this
def ex(L:List Oper)(S:Nat→Prop):Prop:=∀k o,S k→L[k]? = some o→∀e∈o.after.toList,El .any e=true→S e.on
def Good(S:Nat→Prop)(m:Nat):Prop:=∀j,m.testBit j=true→S j
theorem Good.or{S:Nat→Prop}{a b:Nat}(ha:Good S a)(hb:Good S b):Good S (a ||| b):=fun j h=>by
 simp only[Nat.testBit_or,Bool.or_eq_true] at h
 exact h.elim (ha j) (hb j)
theorem Good.bit{S:Nat→Prop}{i:Nat}(h:S i):Good S (2 ^ i):=fun j hj=>by
 rw[Nat.testBit_two_pow] at hj
 have:i=j:=by simpa using hj
 exact this▸h
theorem Good.zero{S:Nat→Prop}:Good S 0:=fun j h=>by simp at h
theorem oH{S:Nat→Prop}{acc:List Nat}{o:Oper}(h:∀e∈o.after.toList,El .any e=true→S e.on∧Good S (acc.getD e.on 0)):Good S (uh acc o):=by
 have:∀(es:List Edge) (s:Nat),Good S s→(∀e∈es,El .any e=true→S e.on∧Good S (acc.getD e.on 0)) →
   Good S (es.foldl (fun s e=>if El .any e then s ||| (2 ^ e.on ||| acc.getD e.on 0) else s) s):=by
  intro es
  induction es with
  | nil=>exact fun s hs _=>hs
  | cons e es ih =>
   intro s hs he
   simp only[List.foldl_cons]
   refine ih _ ?_ fun e' he'=>he e' (FI _ he')
   split
   ·rename_i hb
    obtain⟨h1,h2⟩:=he e (EL ..) hb
    exact hs.or ((Good.bit h1).or h2)
   ·exact hs
 exact this _ 0 Good.zero h
theorem oI{L:List Oper}{S:Nat→Prop}(hc:ex L S):∀(os:List Oper) (pre:List Oper) (acc:List Nat),L=pre++os→acc.length=pre.length →
  (∀k m,acc[k]? = some m→S k→Good S m)→∀k m,(a9 os acc)[k]? = some m→S k→Good S m
 | [],_,_,_,_,h=>h
 | o::os,pre,acc,hL,hlen,h=>by
  refine oI hc os (pre++[o]) _ (by simp[hL]) (by simp[hlen]) ?_
  intro k m hk hS
  rw[I3] at hk
  split at hk
  ·exact h k m hk hS
  ·rename_i hlt
   have hk0:k=acc.length:=by
    cases hx:k - acc.length with
    | zero=>omega
    | succ n=>rw[hx] at hk;simp at hk
   subst hk0
   simp only[FO,DN,Dj] at hk
   subst hk
   have ho:L[acc.length]? = some o:=by rw[hL,hlen];simp
   refine oH fun e he hb=>?_
   have hSe:=hc _ o hS ho e he hb
   refine⟨hSe,?_⟩
   rw[DR]
   cases hx:acc[e.on]? with
   | none=>exact Good.zero
   | some m=>exact h _ m hx hSe
theorem bb{L:List Oper}{S:Nat→Prop}(hc:ex L S){k:Nat}(hk:S k):Good S ((a9 L []).getD k 0):=by
 rw[DR]
 cases hx:(a9 L [])[k]? with
 | none=>exact Good.zero
 | some m=>exact oI hc L [] [] rfl rfl (by simp) k m hx hk
def bQ(P:Program)(Γ:ae)(call:CallF)(m:List Nat)(L:List Oper)(t:List D)(h:List Blk)(o:Oper):Option (D×List Blk) :=
 match aB L t o.guard with
 | some true=>match dM P Γ call t h o.op with
  | some (d,h')=>if ah h' m then some (d,h') else none
  | none=>none
 | some false=>some (lit undef,h)
 | none=>none
def C8(P:Program)(Γ:ae)(call:CallF)(m:List Nat)(L:List Oper):List Oper→List D→List Blk→Option (List D×List (List Blk)×List (List D))
 | [],t,h=>some (t,[h],[])
 | o::os,t,h=>match bQ P Γ call m L t h o with
  | some (d,h')=>match C8 P Γ call m L os (putD t o.dst d) h' with
   | some (tF,hs,ts)=>some (tF,h::hs,t::ts)
   | none=>none
  | none=>none
section
variable {P:Program} {Γ:ae} {call:CallF} {m:List Nat} {L:List Oper}
theorem dN{t t':List D}{x:Operand}(h:∀i,tmpOf x=some i→t.getD i .any=t'.getD i .any):evalD Γ t x=evalD Γ t' x:=by
 cases x with
 | tmp i=>exact h i rfl
 | _=>rfl
theorem j4{t t':List D}{h:List Blk}(o:Op)(he:∀x∈o.operands,evalD Γ t x=evalD Γ t' x):dM P Γ call t h o=dM P Γ call t' h o:=by
 unfold dM
 split
 ·rename_i fv args ats
  simp only[Op.operands,Call.operands,Array.mem_append,List.mem_toArray,DM,Gr,or_false] at he
  rw[he fv (.inl rfl),Gq (fun x hx=>he x (.inr (Array.mem_toList_iff.1 hx)))]
 ·rw[b8 _ he]
theorem db{t t':List D}{g:Option (Nat×Bool)}(h:∀x∈mY L g,t.getD x .any=t'.getD x .any):aB L t g=aB L t' g:=by
 unfold aB
 cases g with
 | none=>rfl
 | some p =>
  obtain⟨j,want⟩:=p
  simp only[mY] at h ⊢
  cases hx:(L[j]?).bind (·.dst) with
  | none=>rfl
  | some x=>simp only;rw[h x (by rw[hx];rfl)]
theorem fI{t t':List D}{h:List Blk}{o:Oper}(he:∀x∈bA L o,t.getD x .any=t'.getD x .any):bQ P Γ call m L t h o=bQ P Γ call m L t' h o:=by
 unfold bQ
 rw[db (t':=t') (fun x hx=>he x (by unfold bA;simp only[DX,Ho];exact .inr hx))]
 rw[j4 (t':=t') o.op (fun x hx=>dN fun i hi=>he i (by
  unfold bA;simp only[DX,Jg];exact .inl ⟨x,by simpa using hx,hi⟩))]
theorem aW(t:List D)(dst:Option Tmp)(d:D):(putD t dst d).length=t.length:=by cases dst<;>simp[putD]
theorem bR{t:List D}{dst:Option Tmp}{d:D}{x:Nat}(h:dst ≠ some x):(putD t dst d).getD x .any=t.getD x .any:=by
 cases dst with
 | none=>rfl
 | some y =>
  have:y ≠ x:=fun e=>h (by rw[e])
  simp[putD,DR,GA this]
theorem cY{t:List D}{d:D}{x:Nat}(h:x<t.length):(putD t (some x) d).getD x .any=d:=by
 simp[putD,DR,h]
def runR(P:Program)(Γ:ae)(m:List Nat)(L:List Oper)(wk:D→D→Prop)(fx:(D→D)→Prop):List Oper→List D→List Blk→List D→List (List Blk)→List (List D)→Prop
 | [],t,h,tF,hs,ts=>tF=t∧hs=[h]∧ts=[]
 | o::os,t,h,tF,hs,ts=>∃(call:CallF) (f:D→D) (d' d:D) (h':List Blk) (hs':List (List Blk)) (ts':List (List D)),HS P Γ call∧(fx f∧bQ P Γ call m L (t.map f) h o=some (d',h')∧wk d' d) ∧
   runR P Γ m L wk fx os (putD t o.dst d) h' tF hs' ts'∧hs=h::hs'∧ts=t::ts'
theorem iZ{P:Program}{Γ:ae}{call:CallF}{m:List Nat}{L:List Oper}{wk:D→D→Prop}{fx:(D→D)→Prop}(hwk:∀d,wk d d)(hfx:fx id)(hc:HS P Γ call):∀(os:List Oper) (t:List D) (h:List Blk) (tF:List D) (hs:List (List Blk)) (ts:List (List D)),C8 P Γ call m L os t h=some (tF,hs,ts)→runR P Γ m L wk fx os t h tF hs ts:=by
 intro os
 induction os with
 | nil =>
  intro t h tF hs ts hr
  simp only[C8,Dj,Dm] at hr
  obtain⟨rfl,rfl,rfl⟩:=hr
  exact⟨rfl,rfl,rfl⟩
 | cons o os ih =>
  intro t h tF hs ts hr
  simp only[C8] at hr
  split at hr
  case h_2=>simp at hr
  rename_i d h' hst
  split at hr
  case h_2=>simp at hr
  rename_i tF' hs' ts' hrest
  simp only[Dj,Dm] at hr
  obtain⟨rfl,rfl,rfl⟩:=hr
  exact⟨call,id,d,d,h',hs',ts',hc,⟨hfx,by rw[List.map_id];exact hst,hwk d⟩,ih _ _ _ _ _ hrest,rfl,rfl⟩
theorem dP{wk:D→D→Prop}{fx:(D→D)→Prop}:∀(os:List Oper) (t:List D) (h:List Blk) (tF:List D) (hs:List (List Blk)) (ts:List (List D)),runR P Γ m L wk fx os t h tF hs ts →
  tF.length=t.length∧(∀x,(∀o∈os,o.dst ≠ some x)→tF.getD x .any=t.getD x .any)∧hs[0]? = some h∧hs.length=os.length+1 ∧
  ∀k o,os[k]? = some o→∃call,HS P Γ call∧∃f d' d,(fx f∧bQ P Γ call m L ((ts.getD k []).map f) (hs.getD k []) o=some (d',hs.getD (k+1) [])∧wk d' d) ∧
   (∀x,(∀j o',k≤j→os[j]? = some o'→o'.dst ≠ some x)→tF.getD x .any=(ts.getD k []).getD x .any) ∧
   (∀x,(∀j o',j<k→os[j]? = some o'→o'.dst ≠ some x)→(ts.getD k []).getD x .any=t.getD x .any) ∧
   (∀x,o.dst=some x→(∀j o',k<j→os[j]? = some o'→o'.dst ≠ some x)→x<t.length→tF.getD x .any=d):=by
 intro os
 induction os with
 | nil =>
  intro t h tF hs ts hr
  simp only[runR] at hr
  obtain⟨rfl,rfl,rfl⟩:=hr
  exact⟨rfl,fun _ _=>rfl,rfl,rfl,by simp⟩
 | cons o os ih =>
  intro t h tF hs ts hr
  simp only[runR] at hr
  obtain⟨call,f,d',d,h',hs',ts',hco,hst,hrest,rfl,rfl⟩:=hr
  obtain⟨g1,g2,g3,g4,g5⟩:=ih _ _ _ _ _ hrest
  rw[aW] at g1
  refine⟨g1,fun x hx=>?_,rfl,by simp[g4],?_⟩
  ·rw[g2 x (fun o' ho'=>hx o' (FI _ ho')),bR (hx o (EL ..))]
  ·intro k o' hk
   cases k with
   | zero =>
    simp only[DN,Dj] at hk
    subst hk
    refine⟨call,hco,f,d',d,?_,?_,?_,?_⟩
    ·have:(h::hs').getD 1 []=h':=by
      simp only[DR,Fp,g3,EB]
     simp only[Nat.zero_add,this]
     exact hst
    ·intro x hx
     rw[g2 x (fun o' ho'=>by
      obtain⟨j,hj⟩:=FS.1 ho'
      exact hx (j+1) o' (by omega) (by simpa using hj)),bR (hx 0 o (by omega) rfl)]
     rfl
    ·intro x _
     rfl
    ·intro x hx hlater hlt
     rw[g2 x (fun o' ho'=>by
      obtain⟨j,hj⟩:=FS.1 ho'
      exact hlater (j+1) o' (by omega) (by simpa using hj)),hx,cY hlt]
   | succ k =>
    simp only[Fp] at hk
    obtain⟨call',hco',f',d1,d2,k1,k2,k4,k3⟩:=g5 k o' hk
    refine⟨call',hco',f',d1,d2,by simpa using k1,fun x hx=>by simpa using k2 x fun j o'' hj ho''=>hx (j+1) o'' (by omega) (by simpa using ho''),fun x hx=>?_,
     fun x hx hlater hlt=>k3 x hx (fun j o'' hj ho''=>hlater (j+1) o'' (by omega) (by simpa using ho'')) (by rw[aW];exact hlt)⟩
    have h1:=k4 x (fun j o'' hj ho''=>hx (j+1) o'' (by omega) (by simpa using ho''))
    simp only[List.getD_cons_succ]
    rw[h1,bR (hx 0 o (by omega) rfl)]
end
def Wk(d d':D):Prop:=∀w av l h y,Rel w av l h d y→Rel w av l h d' y
theorem Wk.refl(d:D):Wk d d:=fun _ _ _ _ _ r=>r
structure FixOk (f:D→D):Prop where
 any:f .any=.any
 pure:∀x,f (.p x)=.p x
 both:∀d,Wk d (f d)∧Wk (f d) d
 gd:∀want b v,guardV want (f (.grd b (.p (.v (.bool v)))))=guardV want (.grd b (.p (.v (.bool v))))
theorem FixOk.id:FixOk id:=⟨rfl,fun _=>rfl,fun d=>⟨Wk.refl d,Wk.refl d⟩,fun _ _ _=>rfl⟩
def fixD:D→D
 | .grd true d=>d
 | d=>d
theorem FixOk.fixD:FixOk fixD:=⟨rfl,fun _=>rfl,fun d=>by
 unfold Vi.fixD
 split
 ·exact⟨fun w av l h y r=>by simpa[Rel] using r,fun w av l h y r=>by simpa[Rel] using r⟩
 ·exact⟨Wk.refl _,Wk.refl _⟩,fun want b v=>by cases b<;>simp[Vi.fixD,guardV]⟩
def ey(L:List Oper):List Nat:=(L.zipIdx.filter fun p=>!quietOp p.1.op).map (·.2)
def il(L:List Oper)(B:List Nat)(i k:Nat):Bool:=(ey L).all fun c=>if c<k then !(B.getD c 0).testBit i else !(B.getD i 0).testBit c
def j5(L:List Oper):List Nat:=0::(ey L).map (· + 1)
theorem lQ{L:List Oper}{c:Nat}{o:Oper}(ho:L[c]? = some o)(hq:quietOp o.op=false):c∈ey L:=by
 unfold ey
 rw[Eb]
 exact⟨(o,c),by rw[Gh,EH];exact⟨ho,by simp[hq]⟩,rfl⟩
theorem bq{L:List Oper}{c:Nat}(h:c∈ey L):∃o,L[c]? = some o∧quietOp o.op=false:=by
 unfold ey at h
 rw[Eb] at h
 obtain⟨⟨o,i⟩,h1,rfl⟩:=h
 rw[Gh,EH] at h1
 exact⟨o,h1.1,by simpa using h1.2⟩
def im(P:Program)(Γ:ae)(L:List Oper)(B:List Nat)(tF:List D)(hs:List (List Blk))(ts:List (List D)):Prop :=
 ∀(i:Nat) (o:Oper),L[i]? = some o→quietOp o.op=true→(∃f,FixOk f∧aB L ((ts.getD i []).map f) o.guard=some true)→∀k∈j5 L,il L B i k=true →
  ∃f d h',FixOk f∧opSem P Γ ((ts.getD i []).map f) (hs.getD k []) o.op=some (true,d,h')∧∀x,o.dst=some x→Wk d (tF.getD x .any)
def qf(L:List Oper)(S:Array Bool)(x:Tmp):Bool:=L.zipIdx.any fun q=>q.1.dst==some x&&!S.getD q.2 false
def cH(L:List Oper)(S:Array Bool)(t0 tF:List D):List D:=(EE tF.length).map fun x=>if qf L S x then t0.getD x .any else tF.getD x .any
theorem bL{L:List Oper}{S:Array Bool}{x:Tmp}:qf L S x=true ↔ ∃k o,L[k]? = some o∧o.dst=some x∧S.getD k false=false:=by
 unfold qf
 rw[Ie]
 constructor
 ·rintro⟨⟨o,k⟩,h1,h2⟩
  rw[EH] at h1
  simp only[Dr,beq_iff_eq,ED] at h2
  exact⟨k,o,h1,h2.1,h2.2⟩
 ·rintro⟨k,o,h1,h2,h3⟩
  exact⟨(o,k),by rw[EH];exact h1,by simp[h2,h3]⟩
theorem ak(L:List Oper)(S:Array Bool)(t0 tF:List D):(cH L S t0 tF).length=tF.length:=by simp[cH]
theorem dc{L:List Oper}{S:Array Bool}{t0 tF:List D}{x:Nat}(hx:x<tF.length):(cH L S t0 tF).getD x .any=if qf L S x then t0.getD x .any else tF.getD x .any:=by
 simp[cH,DR,hx]
theorem aJ{a b:List D}(hl:a.length=b.length)(h:∀x,x<a.length→a.getD x .any=b.getD x .any):a=b:=by
 apply List.ext_getElem hl
 intro i h1 h2
 have:=h i h1
 simpa[DR,h1,h2] using this
section
variable {L:List Oper} {S:Array Bool} {t0 tF:List D}
theorem bj{x:Nat}(hx:∀k o,L[k]? = some o→o.dst=some x→S.getD k false=true):(cH L S t0 tF).getD x .any=tF.getD x .any:=by
 by_cases hlt:x<tF.length
 ·rw[dc hlt]
  have:qf L S x=false:=by
   rw[FJ]
   intro hp
   obtain⟨k,o,h1,h2,h3⟩:=bL.1 hp
   rw[hx k o h1 h2] at h3
   cases h3
  simp[this]
 ·rw[DR,DR,Fb (by rw[ak];omega),Fb (by omega)]
theorem mZ{x k:Nat}{o:Oper}(hl:tF.length=t0.length)(hk:L[k]? = some o)(hd:o.dst=some x)(hS:S.getD k false=false):(cH L S t0 tF).getD x .any=t0.getD x .any:=by
 by_cases hlt:x<tF.length
 ·rw[dc hlt,if_pos (bL.2 ⟨k,o,hk,hd,hS⟩)]
 ·rw[DR,DR,Fb (by rw[ak];omega),Fb (by omega)]
theorem jp{i:Nat}{o:Oper}{d:D}(ho:L[i]? = some o)(hi:i<S.size)(hu:∀k o',L[k]? = some o'→∀x,o.dst=some x→o'.dst=some x→k=i)
  (hd:∀x,o.dst=some x→x<tF.length→tF.getD x .any=d):putD (cH L S t0 tF) o.dst d=cH L (S.setIfInBounds i true) t0 tF:=by
 have hset:∀k,(S.setIfInBounds i true).getD k false=if k=i then true else S.getD k false:=by
  intro k
  by_cases hk:k=i
  ·subst hk
   simp[D2,hi]
  ·simp[D2,hk,Ne.symm hk]
 refine aJ (by rw[aW,ak,ak]) fun x hx=>?_
 rw[aW,ak] at hx
 by_cases hdx:o.dst=some x
 ·rw[hdx,cY (by rw[ak];exact hx),bj,hd x hdx hx]
  intro k o' hk hk2
  have:=hu k o' hk x hdx hk2
  rw[hset,if_pos this]
 ·rw[bR hdx,dc hx,dc hx]
  have:qf L S x=qf L (S.setIfInBounds i true) x:=by
   rw[Bool.eq_iff_iff,bL,bL]
   constructor
   ·rintro⟨k,o',h1,h2,h3⟩
    refine⟨k,o',h1,h2,?_⟩
    rw[hset]
    split
    ·rename_i hk
     subst hk
     rw[ho] at h1
     cases h1
     exact absurd h2 hdx
    ·exact h3
   ·rintro⟨k,o',h1,h2,h3⟩
    refine⟨k,o',h1,h2,?_⟩
    rw[hset] at h3
    split at h3
    ·cases h3
    ·exact h3
  rw[this]
end
theorem gy{α:Type}{p q:α→Bool}:∀{l:List α},(∀x,q x=true→p x=true)→∀x0∈l,p x0=true→q x0=false→l.countP q<l.countP p
 | [],_,_,hm,_,_=>by cases hm
 | a::l,h,x0,hm,hp,hq=>by
  have hle:l.countP q≤l.countP p:=by
   clear hm
   induction l with
   | nil=>simp
   | cons b l ih =>
    rw[GV,GV]
    cases hqb:q b
    ·simp;omega
    ·simp[h b hqb];omega
  rw[GV,GV]
  rcases DM.1 hm with rfl|hm
  ·simp[hp,hq];omega
  ·have:=gy h x0 hm hp hq
   cases hqa:q a
   ·simp;omega
   ·simp[h a hqa];omega
theorem ck{D0:List Deferred}{l:Loc}{h:List Blk}:∀{bs:List Nat} {ds:List Deferred},DefOk D0 l h bs ds→ah h bs=true
 | [],_,_=>rfl
 | b::bs,[],r=>by simp[DefOk] at r
 | b::bs,d::ds,r=>by
  simp only[DefOk] at r
  obtain⟨⟨blk,cp,h1,_⟩,h2⟩:=r
  have:=ck h2
  simp only[ah,List.all_cons,Dr]
  exact⟨by rw[h1],this⟩
theorem St.marks{Γ:ae}{X:Ctx}{s:AS}{a:Act}{w:World}(hs:St Γ X s a w):ah s.h s.m=true:=by
 obtain⟨l,_,_,_,rd⟩:=hs
 exact ck rd
section
variable {P:Program} {Γ:ae} {X:Ctx} {r:Option Nat} {call:CallF} {ops:Array Oper} {m:List Nat} {t0 tF:List D} {hs:List (List Blk)} {ts:List (List D)} {Q:Exit→AS→Prop}
def Lst(S:Array Bool)(j:Nat):Prop:=S.getD j false=true
structure Inv (Γ:ae) (X:Ctx) (L:List Oper) (m:List Nat) (t0 tF:List D) (hs:List (List Blk)) (k:Nat) (S:Array Bool) (a:Act) (w:World):Prop where
 size:S.size=L.length
 closed:ex L (Lst S)
 st:St Γ X {t:=cH L S t0 tF,h:=hs.getD k [],m:=m} a w
 cand:k∈j5 L
 chain:∀c o,L[c]? = some o→quietOp o.op=false→(Lst S c ↔ c<k)
theorem j6{S:Array Bool}{i j:Nat}(hi:i<S.size):Lst (S.setIfInBounds i true) j ↔ j=i∨Lst S j:=by
 unfold Lst
 by_cases hk:j=i
 ·subst hk
  simp[D2,hi]
 ·simp[D2,hk,Ne.symm hk]
theorem fJ{t:List D}{h h':List Blk}{L:List Oper}{o:Oper}{d:D}(hq:quietOp o.op=true)(hst:bQ P Γ call m L t h o=some (d,h')):h'=h:=by
 unfold bQ at hst
 split at hst
 ·split at hst
  ·rename_i d1 h1 hop
   split at hst
   ·simp only[Dj,Dm] at hst
    obtain⟨rfl,rfl⟩:=hst
    unfold dM at hop
    split at hop
    ·rename_i hc;rw[hc] at hq;simp[quietOp] at hq
    ·split at hop
     ·rename_i hx
      simp only[Dj,Dm] at hop
      obtain⟨rfl,rfl⟩:=hop
      exact aZ hq hx
     ·simp at hop
   ·simp at hst
  ·simp at hst
 ·simp only[Dj,Dm] at hst
  exact hst.2.symm
 ·simp at hst
theorem ui{w:World}{av:Nat→Prop}{l:Loc}{h:List Blk}:∀{t t':List D} {ys:List Value},t'.length=t.length→(∀x,Wk (t.getD x .any) (t'.getD x .any))→RelL w av l h t ys→RelL w av l h t' ys
 | [],[],ys,_,_,r=>r
 | [],_::_,_,hl,_,_=>by simp at hl
 | _::_,[],_,hl,_,_=>by simp at hl
 | a::t,b::t',ys,hl,hw,r=>by
  cases ys with
  | nil=>simp[RelL] at r
  | cons y ys =>
   simp only[RelL] at r ⊢
   exact⟨hw 0 _ _ _ _ _ r.1,ui (by simpa using hl) (fun x=>by simpa using hw (x+1)) r.2⟩
theorem St.wk{s:AS}{t':List D}(hl:t'.length=s.t.length)(hw:∀x,Wk (s.t.getD x .any) (t'.getD x .any)){a:Act}{w:World}(hs:St Γ X s a w):St Γ X {t:=t',h:=s.h,m:=s.m} a w:=by
 obtain⟨l,R,E,rt,rd⟩:=hs
 exact⟨l,R,E,ui hl hw rt,rd⟩
theorem zK{t:List D}{dst:Option Tmp}{d d':D}(hw:∀x,dst=some x→x<t.length→Wk d d')(x:Nat):Wk ((putD t dst d).getD x .any) ((putD t dst d').getD x .any):=by
 cases dst with
 | none=>exact Wk.refl _
 | some y =>
  by_cases hy:y<t.length
  ·by_cases hx:y=x
   ·subst hx
    rw[cY hy,cY hy]
    exact hw y rfl hy
   ·rw[bR (by simpa using hx),bR (by simpa using hx)]
    exact Wk.refl _
  ·have:∀e,t.set y e=t:=fun e=>GQ (HT hy)
   simp only[putD,this]
   exact Wk.refl _
theorem St.put_wk{t:List D}{h:List Blk}{dst:Option Tmp}{d d':D}(hw:∀x,dst=some x→x<t.length→Wk d d'){a:Act}{w:World}(hs:St Γ X {t:=putD t dst d,h:=h,m:=m} a w):St Γ X {t:=putD t dst d',h:=h,m:=m} a w :=
 hs.wk (by simp[aW]) (zK hw)
theorem aF{f:D→D}(hf:f .any=.any)(t:List D)(x:Nat):(t.map f).getD x .any=f (t.getD x .any):=by
 simp only[DR,List.getElem?_map]
 cases t[x]? with
 | none=>simp[hf]
 | some d=>rfl
theorem St.fix{s:AS}{f:D→D}(hf:FixOk f){a:Act}{w:World}(hs:St Γ X s a w):St Γ X {t:=s.t.map f,h:=s.h,m:=s.m} a w :=
 hs.wk (by simp) fun x=>by rw[aF hf.any];exact(hf.both _).1
theorem St.unfix{t:List D}{h:List Blk}{f:D→D}(hf:FixOk f){dst:Option Tmp}{d d':D}(hw:Wk d d'){a:Act}{w:World}(hs:St Γ X {t:=putD (t.map f) dst d,h:=h,m:=m} a w):St Γ X {t:=putD t dst d',h:=h,m:=m} a w:=by
 have h1:=St.put_wk (dst:=dst) (d:=d) (d':=d') (fun _ _ _=>hw) hs
 refine h1.wk (by simp[aW]) fun x=>?_
 show Wk ((putD (t.map f) dst d').getD x .any) _
 cases dst with
 | none =>
  simp only[putD]
  rw[aF hf.any]
  exact(hf.both _).2
 | some y =>
  by_cases hx:y=x
  ·subst hx
   by_cases hy:y<t.length
   ·rw[cY hy,cY (by simpa using hy)]
    exact Wk.refl _
   ·simp only[putD]
    rw[GQ (by simpa using HT hy),GQ (HT hy),aF hf.any]
    exact(hf.both _).2
  ·rw[bR (by simpa using hx),bR (by simpa using hx),aF hf.any]
   exact(hf.both _).2
theorem sX(hD:DrawOk ops.toList (a9 ops.toList []))(hr:runR P Γ m ops.toList Wk FixOk ops.toList t0 (hs.getD 0 []) tF hs ts)
  (hq:im P Γ ops.toList (a9 ops.toList []) tF hs ts) (hQ:Q .normal {t:=tF,h:=hs.getD ops.size [],m:=m}) :
  ∀(fuel:Nat) (k:Nat) (S:Array Bool) (a:Act) (w:World),Inv Γ X ops.toList m t0 tF hs k S a w→(EE ops.size).countP (fun j=>!S.getD j false)≤fuel →
   wpAnyIn (FW r) 0 P .any ops (eu Γ X Q) fuel S a w:=by
 obtain⟨hlen0,_,_,_,hat⟩:=dP _ _ _ _ _ _ hr
 have hn:ops.toList.length=ops.size:=by simp
 have hconst1:∀j o,ops.toList[j]? = some o→quietOp o.op=true→hs.getD (j+1) []=hs.getD j []:=by
  intro j o ho hqo
  obtain⟨call,hc,f,d',d,⟨_,h1,_⟩,_⟩:=hat j o ho
  exact fJ hqo h1
 have hconst:∀(n k:Nat),(∀c o,ops.toList[c]? = some o→quietOp o.op=false→¬(k≤c∧c<k+n))→k+n≤ops.size→hs.getD (k+n) []=hs.getD k []:=by
  intro n
  induction n with
  | zero=>intro k _ _;rfl
  | succ n ih =>
   intro k h1 h2
   have hlt:k+n<ops.toList.length:=by omega
   have ho:=D7 hlt
   have hqo:quietOp (ops.toList[k+n]).op=true:=by
    rw[←Bool.not_eq_false]
    exact fun hf=>h1 _ _ ho hf (by omega)
   rw[←Nat.add_assoc,hconst1 _ _ ho hqo]
   exact ih k (fun c o hc1 hc2=>fun hx=>h1 c o hc1 hc2 (by omega)) (by omega)
 have bound:∀i j o,ops.toList[i]? = some o→((a9 ops.toList []).getD i 0).testBit j=true→j<i:=by
  intro i j o ho hb
  have hcl:ex ops.toList (fun x=>x≤i):=fun k o' hk ho' e he hbe=>by
   have:=hD.edge k o' ho' e he hbe
   show e.on≤i
   omega
  have h1:j≤i:=bb hcl (k:=i) (DJ i) j hb
  have h2:=hD.self i o ho
  rcases Nat.lt_or_eq_of_le h1 with h|h
  ·exact h
  ·subst h;rw[h2] at hb;cases hb
 have fin:∀(k:Nat) (S:Array Bool) (a:Act) (w:World),Inv Γ X ops.toList m t0 tF hs k S a w→(∀j,j<ops.size→Lst S j)→eu Γ X Q .normal a w:=by
  intro k S a w I hall
  refine⟨by simp,_,hQ,?_⟩
  have e1:cH ops.toList S t0 tF=tF:=by
   refine aJ (ak ..) fun x hx=>?_
   rw[ak] at hx
   refine bj fun c o hc1 _=>hall c ?_
   have:=(Dq.1 hc1).1
   omega
  have hk:k≤ops.size:=by
   have:=I.cand
   simp only[j5,DM,Eb] at this
   rcases this with rfl|⟨c,hc1,rfl⟩
   ·omega
   ·obtain⟨o,ho,_⟩:=bq hc1
    have:=(Dq.1 ho).1
    omega
  have e2:hs.getD ops.size []=hs.getD k []:=by
   have:=hconst (ops.size - k) k (fun c o hc1 hc2 hx=>by
    have h1:=(I.chain c o hc1 hc2).1 (hall c (by omega))
    omega) (by omega)
   rwa[show k+(ops.size - k)=ops.size by omega] at this
  rw[e2]
  have:=I.st
  rw[e1] at this
  exact this
 intro fuel
 induction fuel with
 | zero =>
  intro k S a w I hcnt
  have hall:∀j,j<ops.size→Lst S j:=by
   intro j hj
   have h0:(EE ops.size).countP (fun j=>!S.getD j false)=0:=by omega
   rw[List.countP_eq_zero] at h0
   have:=h0 j (by simpa using hj)
   simpa[Lst] using this
  refine⟨?_,fin k S a w I hall⟩
  unfold Fc
  rw[Gv]
  intro j hj
  have hj':j<ops.size:=by simpa using hj
  have:=hall j hj'
  have hs2:j<S.size:=by rw[I.size,hn];exact hj'
  unfold Lst at this
  have h3:S.getD j true=true:=by
   simp only[D2,D5 hs2,EB] at this ⊢
   exact this
  simp[h3]
 | succ fuel ih =>
  intro k S a w I hcnt
  refine⟨fun hnone=>?_,fun i hi=>?_⟩
  ·-- nothing is ready: all is done
   refine fin k S a w I ?_
   have key:∀n,∀j,j<n→j<ops.size→Lst S j:=by
    intro n
    induction n with
    | zero=>intro j hj;omega
    | succ n ihn =>
     intro j hj hjs
     by_cases hjn:j<n
     ·exact ihn j hjn hjs
     have:j=n:=by omega
     subst this
     apply Eo
     intro hno
     unfold Fc at hnone
     rw[Gv] at hnone
     have h1:=hnone j (by simpa using hjs)
     apply h1
     have hs2:j<S.size:=by rw[I.size,hn];exact hjs
     have ho:ops[j]? = some ops[j]:=D5 hjs
     have h3:S.getD j true=false:=by
      unfold Lst at hno
      simp only[D2,D5 hs2,EB] at hno ⊢
      simpa using hno
     have h4:(ops[j].after.all fun e=>!El .any e||S.getD e.on false)=true:=by
      rw[FF]
      intro e he
      cases hb:El .any e
      ·rfl
      ·have hlt:=hD.edge j ops[j] (by simp) e (by simpa using he) hb
       have:=ihn e.on hlt (by omega)
       simpa[Lst] using this
     rw[h3,ho]
     simpa using h4
   exact fun j hj=>key (j+1) j (by omega) hj
  ·-- an operation that is ready
   unfold Fc at hi
   rw[Gh] at hi
   obtain⟨hi1,hi2⟩:=hi
   have his:i<ops.size:=by simpa using hi1
   have hiS:i<S.size:=by rw[I.size,hn];exact his
   have ho:ops[i]? = some ops[i]:=D5 his
   generalize ho0:ops[i]=o at ho
   have hoL:ops.toList[i]? = some o:=by simpa using ho
   simp only[ho,Option.map_some,EB,Dr,ED] at hi2
   obtain⟨hi3,hi4⟩:=hi2
   have hnotS:¬Lst S i:=by
    unfold Lst
    simp only[D2,D5 hiS,EB] at hi3 ⊢
    simp[hi3]
   have hpre:∀e∈o.after.toList,El .any e=true→Lst S e.on:=by
    intro e he hb
    rw[FF] at hi4
    have:=hi4 e (by simpa using he)
    simpa[hb,Lst] using this
   have hsetS:∀j,Lst (S.setIfInBounds i true) j ↔ j=i∨Lst S j:=fun j=>j6 hiS
   have hclosed':ex ops.toList (Lst (S.setIfInBounds i true)):=by
    intro k' o' hk' ho' e he hb
    rw[hsetS] at hk' ⊢
    rcases hk' with rfl|hk'
    ·rw[hoL] at ho'
     cases ho'
     exact .inr (hpre e he hb)
    ·exact .inr (I.closed k' o' hk' ho' e he hb)
   have hbits:∀j,((a9 ops.toList []).getD i 0).testBit j=true→j<i∧Lst S j:=by
    intro j hj
    have h1:=bound i j o hoL hj
    have h2:=bb hclosed' (k:=i) ((hsetS i).2 (.inl rfl)) j hj
    rw[hsetS] at h2
    exact⟨h1,h2.resolve_left (by omega)⟩
   obtain⟨call,hc,f,dw,d,⟨hfx,hst,hwk⟩,htF,ht0,hdF⟩:=hat i o hoL
   have hseen:∀x∈bA ops.toList o,(cH ops.toList S t0 tF).getD x .any=(ts.getD i []).getD x .any:=by
    intro x hx
    by_cases hwr:∃(k':Nat) (o':Oper),ops.toList[k']? = some o'∧o'.dst=some x
    ·obtain⟨k',o',hk',hd'⟩:=hwr
     have huq:∀(j:Nat) (o2:Oper),ops.toList[j]? = some o2→o2.dst=some x→j=k':=fun j o2 hj hd2=>hD.uniq j k' o2 o' x hj hk' hd2 hd'
     rcases hD.oper i o x hoL hx k' o' hk' hd' with hb|hb
     ·obtain⟨hlt,hSk⟩:=hbits k' hb
      rw[bj (fun k2 o2 hk2 hd2=>by rw[huq k2 o2 hk2 hd2];exact hSk)]
      exact htF x fun j o2 hj ho2 hd2=>by
       have:=huq j o2 ho2 hd2
       omega
     ·have hlt:=bound k' i o' hk' hb
      have hnk:¬Lst S k':=fun hSk=>hnotS (bb I.closed hSk i hb)
      rw[mZ hlen0 hk' hd' (by unfold Lst at hnk;simpa using hnk)]
      exact(ht0 x fun j o2 hj ho2 hd2=>by
       have:=huq j o2 ho2 hd2
       omega).symm
    ·rw[bj (fun k2 o2 hk2 hd2=>absurd ⟨k2,o2,hk2,hd2⟩ hwr)]
     exact htF x fun j o2 hj ho2 hd2=>hwr ⟨j,o2,ho2,hd2⟩
   have hseenF:∀x∈bA ops.toList o,(ts.getD i []).getD x .any=(cH ops.toList S t0 tF).getD x .any:=fun x hx=>(hseen x hx).symm
   have hst':bQ P Γ call m ops.toList ((cH ops.toList S t0 tF).map f) (hs.getD i []) o=some (dw,hs.getD (i+1) []):=by
    rw[fI (t':=(ts.getD i []).map f) (fun x hx=>by rw[aF hfx.any,aF hfx.any,hseen x hx])];exact hst
   have hfixed:∀{a:Act} {w:World},Inv Γ X ops.toList m t0 tF hs k S a w→St Γ X {t:=(cH ops.toList S t0 tF).map f,h:=hs.getD k [],m:=m} a w:=fun I=>I.st.fix hfx
   have hput:putD (cH ops.toList S t0 tF) o.dst d=cH ops.toList (S.setIfInBounds i true) t0 tF:=by
    refine jp hoL hiS (fun k' o' hk' x hx hx'=>hD.uniq k' i o' o x hk' hoL hx' hx) fun x hx hlt=>hdF x hx (fun j o' hj ho' hd'=>?_) ?_
    ·have:=hD.uniq j i o' o x ho' hoL hd' hx
     omega
    ·rw[←hlen0];exact hlt
   have hcnt':(EE ops.size).countP (fun j=>!(S.setIfInBounds i true).getD j false)≤fuel:=by
    have:(EE ops.size).countP (fun j=>!(S.setIfInBounds i true).getD j false)<(EE ops.size).countP (fun j=>!S.getD j false):=by
     refine gy (fun x hx=>?_) i (by simpa using his) ?_ ?_
     ·have h1:¬Lst (S.setIfInBounds i true) x:=by unfold Lst;simpa using hx
      rw[hsetS] at h1
      have:¬Lst S x:=fun h=>h1 (.inr h)
      unfold Lst at this
      simpa using this
     ·unfold Lst at hnotS;simpa using hnotS
     ·have:Lst (S.setIfInBounds i true) i:=(hsetS i).2 (.inl rfl)
      unfold Lst at this
      simpa using this
    omega
   have hk_le:quietOp o.op=false→k≤i:=by
    intro hqo
    have:=I.cand
    simp only[j5,DM,Eb] at this
    rcases this with rfl|⟨c,hc1,rfl⟩
    ·omega
    ·obtain⟨o',ho',hq'⟩:=bq hc1
     have hcS:Lst S c:=(I.chain c o' ho' hq').2 (by omega)
     apply Eo
     intro hlt
     by_cases hci:c=i
     ·exact hnotS (hci▸hcS)
     ·exact hnotS (bb I.closed hcS i (hD.chain i c o o' hoL ho' (by omega) hqo hq'))
   have hheap:quietOp o.op=false→hs.getD i []=hs.getD k []:=by
    intro hqo
    have hk:=hk_le hqo
    have:=hconst (i - k) k (fun c o' hc1 hc2 hx=>by
     have h1:=hbits c (hD.chain c i o' o hc1 hoL (by omega) hc2 hqo)
     have:=(I.chain c o' hc1 hc2).1 h1.2
     omega) (by omega)
    rwa[show k+(i - k)=i by omega] at this
   unfold wpOpIn
   simp only[ho]
   cases hqo:quietOp o.op
   ·-- it may change the heap
    have hInv:∀a' w',St Γ X {t:=putD (cH ops.toList S t0 tF) o.dst d,h:=hs.getD (i+1) [],m:=m} a' w'→Inv Γ X ops.toList m t0 tF hs (i+1) (S.setIfInBounds i true) a' w':=by
     intro a' w' hst2
     refine⟨by simpa using I.size,hclosed',by rw[←hput];exact hst2,?_,?_⟩
     ·simp only[j5,DM,Eb]
      exact .inr ⟨i,lQ hoL hqo,rfl⟩
     ·intro c o' ho' hq'
      rw[hsetS,I.chain c o' ho' hq']
      have hk:=hk_le hqo
      constructor
      ·rintro (rfl|h)<;>omega
      ·intro h
       by_cases hci:c=i
       ·exact .inl hci
       ·have h1:=hbits c (hD.chain c i o' o ho' hoL (by omega) hq' hqo)
        exact .inr ((I.chain c o' ho' hq').1 h1.2)
    rw[hheap hqo] at hst'
    unfold bQ at hst'
    split at hst'
    ·rename_i hg
     split at hst'
     ·rename_i d1 h1 hop
      split at hst'
      ·rename_i hm
       simp only[Dj,Dm] at hst'
       obtain⟨rfl,rfl⟩:=hst'
       have hw:Ef o (yielded ops a.tmps)=true:=by
        obtain⟨l,R,E,rt,rd⟩:=hfixed I
        exact am rt hg
       rw[if_pos hw]
       exact gr (s:={t:=(cH ops.toList S t0 tF).map f,h:=hs.getD k [],m:=m}) hc hop hm (fun a' w' hs'=>ih (i+1) _ a' w' (hInv a' w' (St.unfix hfx hwk hs')) hcnt') (hfixed I)
      ·simp at hst'
     ·simp at hst'
    ·rename_i hg
     simp only[Dj,Dm] at hst'
     obtain⟨rfl,hh⟩:=hst'
     have hw:Ef o (yielded ops a.tmps)=false:=by
      obtain⟨l,R,E,rt,rd⟩:=hfixed I
      exact am rt hg
     rw[if_neg (by simp[hw])]
     refine⟨fun _ _=>trivial,ih (i+1) _ _ w (hInv _ w (St.unfix hfx hwk ?_)) hcnt'⟩
     rw[←hh]
     exact St.skip o.dst (hfixed I)
    ·simp at hst'
   ·-- it leaves the heap alone
    have hInv:∀a' w',St Γ X {t:=putD (cH ops.toList S t0 tF) o.dst d,h:=hs.getD k [],m:=m} a' w'→Inv Γ X ops.toList m t0 tF hs k (S.setIfInBounds i true) a' w':=by
     intro a' w' hst2
     refine⟨by simpa using I.size,hclosed',by rw[←hput];exact hst2,I.cand,?_⟩
     intro c o' ho' hq'
     rw[hsetS,←I.chain c o' ho' hq']
     constructor
     ·rintro (rfl|h)
      ·rw[hoL] at ho';cases ho';rw[hqo] at hq';cases hq'
      ·exact h
     ·exact .inr
    have hgF:∀f:D→D,f .any=.any→aB ops.toList ((ts.getD i []).map f) o.guard=aB ops.toList ((cH ops.toList S t0 tF).map f) o.guard:=fun f hf =>
     db fun x hx=>by rw[aF hf,aF hf,hseenF x (by unfold bA;simp only[DX,Ho];exact .inr hx)]
    unfold bQ at hst'
    split at hst'
    ·rename_i hg
     have hw:Ef o (yielded ops a.tmps)=true:=by
      obtain⟨l,R,E,rt,rd⟩:=hfixed I
      exact am rt hg
     rw[if_pos hw]
     have hcomp:il ops.toList (a9 ops.toList []) i k=true:=by
      unfold il
      rw[DK]
      intro c hc1
      obtain⟨o',ho',hq'⟩:=bq hc1
      split
      ·rename_i hlt
       have hcS:=(I.chain c o' ho' hq').2 hlt
       rw[ED,FJ]
       exact fun hb=>hnotS (bb I.closed hcS i hb)
      ·rename_i hlt
       rw[ED,FJ]
       exact fun hb=>hlt ((I.chain c o' ho' hq').1 (hbits c hb).2)
     obtain⟨f2,d2,h2,hfx2,hop,hd2⟩:=hq i o hoL hqo ⟨f,hfx,by rw[hgF f hfx.any];exact hg⟩ k I.cand hcomp
     have hh:=aZ hqo hop
     subst hh
     rw[b8 (t':=(cH ops.toList S t0 tF).map f2) o.op (fun x hx=>dN fun j hj=>by
      rw[aF hfx2.any,aF hfx2.any,hseenF j (by
      unfold bA;simp only[DX,Jg];exact .inl ⟨x,by simpa using hx,hj⟩)])] at hop
     refine zJ (s:={t:=(cH ops.toList S t0 tF).map f2,h:=hs.getD k [],m:=m}) hop I.st.marks (fun a' w' hs'=>ih k _ a' w' ⟨by simpa using I.size,hclosed',?_,I.cand,?_⟩ hcnt') (I.st.fix hfx2)
     ·rw[←hput]
      refine St.put_wk (fun x hx hlt=>?_) (St.unfix hfx2 (Wk.refl d2) hs')
      have h3:=hdF x hx (fun j o' hj ho' hd'=>by
       have:=hD.uniq j i o' o x ho' hoL hd' hx
       omega) (by rw[ak] at hlt;rw[←hlen0];exact hlt)
      rw[←h3]
      exact hd2 x hx
     ·intro c o' ho' hq'
      rw[hsetS,←I.chain c o' ho' hq']
      constructor
      ·rintro (rfl|h)
       ·rw[hoL] at ho';cases ho';rw[hqo] at hq';cases hq'
       ·exact h
      ·exact .inr
    ·rename_i hg
     simp only[Dj,Dm] at hst'
     obtain⟨rfl,hh⟩:=hst'
     have hw:Ef o (yielded ops a.tmps)=false:=by
      obtain⟨l,R,E,rt,rd⟩:=hfixed I
      exact am rt hg
     rw[if_neg (by simp[hw])]
     exact⟨fun _ _=>trivial,ih k _ _ w (hInv _ w (St.unfix hfx hwk (St.skip (s:={t:=(cH ops.toList S t0 tF).map f,h:=hs.getD k [],m:=m}) o.dst (hfixed I)))) hcnt'⟩
    ·simp at hst'
theorem VW.draw{s:AS}(ok:POk P){id:Nat}(hD:DrawOk ops.toList (a9 ops.toList []))(hr:runR P Γ s.m ops.toList Wk FixOk ops.toList s.t s.h tF hs ts)
  (hq:im P Γ ops.toList (a9 ops.toList []) tF hs ts) (hQ:Q .normal {t:=tF,h:=hs.getD ops.size [],m:=s.m}):VW P Γ X r (.region id ops true) Q s:=by
 obtain⟨g1,g2,g3,g4,_⟩:=dP _ _ _ _ _ _ hr
 have h0:hs.getD 0 []=s.h:=by simp[DR,g3]
 intro a w hst
 refine wpIn_region_any ok.mixed ?_
 rw[←h0] at hr
 refine sX (t0:=s.t) (hs:=hs) hD hr hq hQ ops.size 0 _ a _ ?_ ?_
 ·have hrep:∀j,(EN ops.size false).getD j false=false:=by
   intro j
   simp only[D2,Array.getElem?_replicate]
   split<;>rfl
  refine⟨by simp,fun k o hk _ _ _ _=>?_,?_,by simp[j5],fun c o _ _=>?_⟩
  ·unfold Lst at hk;rw[hrep] at hk;cases hk
  ·have e1:cH ops.toList (EN ops.size false) s.t tF=s.t:=by
    refine aJ (by rw[ak,g1]) fun x hx=>?_
    rw[ak] at hx
    rw[dc hx]
    split
    ·rfl
    ·rename_i hp
     refine g2 x fun o ho hd=>hp ?_
     obtain⟨k,hk⟩:=FS.1 ho
     exact bL.2 ⟨k,o,hk,hd,hrep k⟩
   rw[e1,h0]
   obtain⟨l,R,E,rt,rd⟩:=hst
   obtain⟨R',E'⟩:=R.of_heap (w':={w with drawn:=w.drawn+1}) rfl ⟨rfl,rfl,rfl,(by first|exact DJ _|exact Nat.le_succ _)⟩
   exact⟨l,R',E.trans E',E'.relL rt,rd⟩
  ·unfold Lst
   rw[hrep]
   simp
 ·refine Nat.le_trans List.countP_le_length (by simp)
end
def gz(x:Blk)(n:Nat):Ref:=match x with
 | .vec _ e _=>.vec n e
 | _=>.ptr n 0
def VR(x:Blk)(p:Option (Nat×Nat))(v:Value):Prop:=v.oneCell'=true∧match x with
 | .var _=>∃blk cp,p=some (blk,cp)∧v=.pointer (some ⟨blk,0,none⟩)
 | .vec es _ _=>ga p es.length v
 | _=>False
def freeOp:Op→Bool
 | .alloc _ | .buildSlice .. | .makeSlice ..=>true
 | _=>false
section
variable {P:Program} {Γ:ae} {O:Nat→Prop} {w w':World} {l l':Loc} {h h':List Blk} {x:Blk}
theorem oJ{p:Option (Nat×Nat)}{v:Value}(hv:VR x p v):RefRel (l.upd h.length p) (h++[x]) (gz x h.length) v:=by
 obtain⟨h1,h2⟩:=hv
 have hs:(l.upd h.length p) h.length=p:=by simp[GP]
 refine⟨h1,?_⟩
 cases x<;>simp only at h2
 ·simp only[gz,D4 (DJ _),FO,DN,hs]
  exact h2
 ·simp only[gz,D4 (DJ _),FO,DN,hs]
  exact⟨DJ _,fun _=>h2⟩
theorem oK{v:Value}(hp:x.plain=true)(hv:RefRel l (h++[x]) (gz x h.length) v):VR x (l h.length) v:=by
 obtain⟨h1,h2⟩:=hv
 refine⟨h1,?_⟩
 cases x<;>simp only[Blk.plain,D8] at hp
 ·simpa only [gz,D4 (DJ _),FO,DN] using h2
 ·simp only[gz,D4 (DJ _),FO,DN] at h2
  simpa using h2
theorem w8{t:List D}{o:Op}{d:D}{h1:List Blk}(hf:freeOp o=true)(hd:opSem P Γ t h o=some (true,d,h1)):
  ∃x,x.plain=true∧true=true∧d=.ref (gz x h.length)∧h1=h++[x]∧∀h',opSem P Γ t h' o=some (true,.ref (gz x h'.length),h'++[x]):=by
 cases o<;>simp only[freeOp,D8] at hf
 ·rename_i e
  simp only[opSem,Du,lO,Dm] at hd
  obtain⟨cs,h2,_,rfl,rfl⟩:=hd
  exact⟨.var cs,rfl,rfl,rfl,rfl,fun h'=>by simp[opSem,h2,lO,gz]⟩
 ·rename_i ty n ps
  simp only[opSem,Du,Dm] at hd
  obtain⟨⟨d',h2⟩,hb,_,rfl,rfl⟩:=hd
  unfold cS at hb
  split at hb
  ·rename_i e he
   split at hb
   ·rename_i sz z hsz hz
    split at hb
    ·rename_i hc
     split at hb
     ·rename_i cs hcs
      simp only[Dj,Dm] at hb
      obtain⟨rfl,rfl⟩:=hb
      exact⟨.vec (chunk sz n cs) 0 sz,rfl,rfl,rfl,rfl,fun h'=>by simp[opSem,cS,he,hsz,hz,hc,hcs,gz]⟩
     ·simp at hb
    ·simp at hb
   ·simp at hb
  ·simp at hb
 ·rename_i ty n c
  simp only[opSem,tX] at hd
  split at hd
  ·rename_i e k1 n1 k2 c1 he hn hc
   split at hd
   ·rename_i sz by' z hsz hby hz
    split at hd
    ·rename_i hl
     simp only[Dj,Dm] at hd
     obtain⟨hb,rfl,rfl⟩:=hd
     exact⟨.vec (List.replicate n1.toNat z) 0 sz,rfl,rfl,rfl,rfl,fun h'=>by simp only[opSem,tX,he,hn,hc,hsz,hby,hz,hl,if_true,hb,gz]⟩
    ·simp at hd
   ·simp at hd
  ·simp at hd
theorem uj(R:Rep Γ O w l h){t:List D}{a:Act}(ht:RelL w (avs O l h) l h t a.tmps.toList){o:Oper}(hp:x.plain=true)
  (hd:opSem P Γ t h o.op=some (true,.ref (gz x h.length),h++[x])) (hi:h.all (D6 h.length)=true) (hx:x.inn h.length=true) :
  ∃v w' l' p,(execOp a.eval o).run P w=.ok (.value v) w'∧Rep Γ (nU O p) w' l' h∧Ext w l h w' l' h∧Pd w' (avs (nU O p) l' h) l' h x p∧VR x p v ∧
   (∀k c,p=some (k,c)→w.heap.size≤k∧¬O k):=by
 obtain⟨nx,v,w',l',h1,h2,R',E',rd⟩:=fE R ht hd
 obtain⟨R2,hP⟩:=R'.hide hp hi hx
 have E2:=E'.take
 rw[show(h++[x]).take h.length=h by simp] at E2
 have hv:VR x (l' h.length) v:=oK hp (by simpa[Rel] using rd)
 have hnx:nx=.value v:=by
  rcases h2 with h2|⟨_,h2⟩
  ·exact h2
  ·exfalso
   obtain⟨hv1,hv2⟩:=hv
   rw[h2] at hv2
   cases x<;>simp only[Blk.plain,D8] at hp
   ·obtain⟨_,_,_,h3⟩:=hv2
    simp[undef] at h3
   ·simp only at hv2
    unfold ga at hv2
    split at hv2<;>simp[undef] at hv2
 rw[hnx] at h1
 refine⟨v,w',l',l' h.length,h1,R2,E2,hP,hv,fun k c hk=>?_⟩
 have hown:own l' (h++[x]) k:=gt.2 (.inr ⟨gu hp,c,hk⟩)
 refine⟨?_,(R'.inb k hown).2⟩
 rcases E'.news k hown with ⟨b,y,c',g1,g2,g3⟩|h3
 ·exfalso
  have hlt:=(Dq.1 g1).1
  obtain⟨x',k1,k2,k3⟩:=E'.keep b y g1
  rw[DP hlt,g1] at k1
  cases k1
  have hs:y.stays y:=by cases y<;>simp_all[Blk.stays]
  have:=R'.inj b h.length y x k c' c (by rw[DP hlt,g1]) g2 (by simp) (gu hp) (by rw[k3 hs,g3]) hk
  omega
 ·exact h3
end
section
variable {w:World} {av:Nat→Prop} {l:Loc} {h:List Blk}
theorem io:∀{t:List D} {ys:List Value},t.length=ys.length→(∀x y,ys[x]? = some y→Rel w av l h (t.getD x .any) y)→RelL w av l h t ys
 | [],[],_,_=>by simp[RelL]
 | [],_::_,hl,_=>by simp at hl
 | _::_,[],hl,_=>by simp at hl
 | d::t,y::ys,hl,hp=>by
  simp only[RelL]
  refine⟨by simpa using hp 0 y (by simp),io (by simpa using hl) fun x z hz=>?_⟩
  simpa using hp (x+1) z (by simpa using hz)
theorem ul{t:List D}{ys:List Value}(r:RelL w av l h t ys){x:Nat}{y:Value}(hy:ys[x]? = some y):Rel w av l h (t.getD x .any) y:=by
 rcases relL_get x t ys r with ⟨z,h1,h2⟩|⟨h1,_⟩
 ·rw[hy] at h1;cases h1;exact h2
 ·rw[hy] at h1;cases h1
end
def tQ(L:List Oper)(pl:List Nat)(x:Tmp):Bool:=pl.any fun i=>(match L[i]? with|some o=>o.dst==some x|none=>false)
def jg(L:List Oper)(S:Array Bool)(pl:List Nat)(t0 tF:List D):List D:=(EE tF.length).map fun x=>if tQ L pl x then .any else (cH L S t0 tF).getD x .any
theorem cZ{L:List Oper}{pl:List Nat}{x:Tmp}:tQ L pl x=true ↔ ∃i o,i∈pl∧L[i]? = some o∧o.dst=some x:=by
 unfold tQ
 rw[Ie]
 constructor
 ·rintro⟨i,h1,h2⟩
  split at h2
  ·rename_i o ho
   exact⟨i,o,h1,ho,by simpa using h2⟩
  ·simp at h2
 ·rintro⟨i,o,h1,h2,h3⟩
  exact⟨i,h1,by rw[h2];simpa using h3⟩
section
variable {L:List Oper} {S:Array Bool} {pl:List Nat} {t0 tF:List D}
theorem a5:(jg L S pl t0 tF).length=tF.length:=by simp[jg]
theorem eW{x:Nat}(hx:x<tF.length):(jg L S pl t0 tF).getD x .any=if tQ L pl x then .any else (cH L S t0 tF).getD x .any:=by
 simp[jg,DR,hx]
theorem qZ{t:List D}{x:Nat}(h:t.length≤x):t.getD x .any=.any:=by
 rw[DR,Fb h];rfl
theorem jq{x:Nat}(hx:tQ L pl x=false):(jg L S pl t0 tF).getD x .any=(cH L S t0 tF).getD x .any:=by
 by_cases hlt:x<tF.length
 ·rw[eW hlt,hx];rfl
 ·rw[qZ (by rw[a5];omega),qZ (by rw[ak];omega)]
theorem q8:jg L S [] t0 tF=cH L S t0 tF:=by
 refine aJ (by rw[a5,ak]) fun x hx=>jq (by simp[tQ])
end
structure Pe where
 i:Nat
 p:Option (Nat×Nat)
 v:Value
 x:Blk
def hid(pl:List Pe)(O:Nat→Prop):Nat→Prop:=fun k=>O k∨∃e∈pl,∃c,e.p=some (k,c)
structure Inv5 (Γ:ae) (X:Ctx) (L:List Oper) (pos:Nat→Nat) (late:Nat→Bool) (m:List Nat) (t0 tF:List D) (hs:List (List Blk)) (k:Nat) (S:Array Bool) (pl:List Pe) (a:Act) (w:World):Prop where
 size:S.size=L.length
 closed:ex L (Lst S)
 st:∃l,Rep Γ (hid pl X.O) w l (hs.getD k [])∧Ext X.w X.l X.h w l (hs.getD k [])∧RelL w (avs (hid pl X.O) l (hs.getD k [])) l (hs.getD k []) (jg L S (pl.map (·.i)) t0 tF) a.tmps.toList ∧
  DefOk X.D l (hs.getD k []) m a.defers∧∀e∈pl,Pd w (avs (hid pl X.O) l (hs.getD k [])) l (hs.getD k []) e.x e.p
 pe:∀e∈pl,VR e.x e.p e.v∧late e.i=true∧Lst S e.i∧k≤pos e.i∧hs.getD (pos e.i+1) []=hs.getD (pos e.i) []++[e.x] ∧
  ∃o,L[e.i]? = some o∧∀y,o.dst=some y→(∀z,a.tmps.toList[y]? = some z→z=e.v)∧(y<tF.length→tF.getD y .any=.ref (gz e.x (hs.getD (pos e.i) []).length))
 dis:pl.Pairwise fun e f=>e.i ≠ f.i∧∀k c c',e.p=some (k,c)→f.p ≠ some (k,c')
 fresh:∀e∈pl,∀k c,e.p=some (k,c)→X.w.heap.size≤k∧¬X.O k
 chain:∀c o,L[c]? = some o→quietOp o.op=false→(pos c<k ↔ Lst S c∧c ∉ pl.map (·.i))
 cand:k=0∨∃(c:Nat) (o:Oper),L[c]? = some o∧quietOp o.op=false∧k=pos c+1
theorem lR{p:Nat→Prop}(h0:p 0):∀n,∃q,q≤n∧p q∧∀q',q'≤n→p q'→q'≤q
 | 0=>⟨0,DJ _,h0,fun q' h _=>h⟩
 | n+1=>by
  by_cases h:p (n+1)
  ·exact⟨n+1,DJ _,h,fun q' h' _=>h'⟩
  ·obtain⟨q,h1,h2,h3⟩:=lR h0 n
   refine⟨q,by omega,h2,fun q' h' hp=>?_⟩
   by_cases hq:q'=n+1
   ·exact absurd (hq▸hp) h
   ·exact h3 q' (by omega) hp
section
variable {Γ:ae} {X:Ctx} {L:List Oper} {pos:Nat→Nat} {late:Nat→Bool} {m:List Nat} {t0 tF:List D} {hs:List (List Blk)} {S:Array Bool} {a:Act} {w:World}
theorem um{O:Nat→Prop}{l:Loc}{h:List Blk}{x:Blk}{p:Option (Nat×Nat)}(hx:x ≠ .gone)(k:Nat):avs O (l.upd h.length p) (h++[x]) k ↔ avs (nU O p) l h k:=by
 rw[mW hx,show(l.upd h.length p) h.length=p by simp[GP]]
 unfold avs
 rw[mX]
theorem Inv5.tell{k:Nat}{pl1 pl2:List Pe}{e:Pe}(I:Inv5 Γ X L pos late m t0 tF hs k S (pl1++e::pl2) a w)(hH:hs.getD (pos e.i) []=hs.getD k [])
  (hpos:∀c o,L[c]? = some o→quietOp o.op=false→c ≠ e.i→(pos c<k ↔ pos c<pos e.i+1))
  (hdst:∀(i j:Nat) (o o':Oper) (x:Tmp),L[i]? = some o→L[j]? = some o'→o.dst=some x→o'.dst=some x→i=j) (hk2:∀f∈pl1++pl2,pos e.i+1≤pos f.i) (hlq:∀(i:Nat) (o:Oper),L[i]? = some o→late i=true→quietOp o.op=false) :
  Inv5 Γ X L pos late m t0 tF hs (pos e.i+1) S (pl1++pl2) a w:=by
 obtain⟨l,R,E,rt,rd,hpd⟩:=I.st
 have hmem:e∈pl1++e::pl2:=by simp
 have hsub:∀f,f∈pl1++pl2→f∈pl1++e::pl2:=by
  intro f hf
  simp only[DX,DM] at hf ⊢
  rcases hf with h|h
  ·exact .inl h
  ·exact .inr (.inr h)
 have hsplit:∀f,f∈pl1++e::pl2→f=e∨f∈pl1++pl2:=by
  intro f hf
  simp only[DX,DM] at hf ⊢
  rcases hf with h|h|h
  ·exact .inr (.inl h)
  ·exact .inl h
  ·exact .inr (.inr h)
 have hdis:∀f∈pl1++pl2,f.i ≠ e.i∧∀k c c',e.p=some (k,c)→f.p ≠ some (k,c'):=by
  intro f hf
  have hd:=I.dis
  rw[Hr] at hd
  simp only[DX] at hf
  rcases hf with hf|hf
  ·have:=hd.2.2 f hf e (EL ..)
   exact⟨this.1,fun k c c' h1 h2=>this.2 k c' c h2 h1⟩
  ·have:=(Et.1 hd.2.1).1 f hf
   exact⟨fun h=>this.1 h.symm,this.2⟩
 have hhid:hid (pl1++e::pl2) X.O=nU (hid (pl1++pl2) X.O) e.p:=by
  funext k'
  apply propext
  constructor
  ·rintro (h|⟨f,hf,c,h⟩)
   ·exact .inl (.inl h)
   ·rcases hsplit f hf with rfl|hf
    ·exact .inr ⟨c,h⟩
    ·exact .inl (.inr ⟨f,hf,c,h⟩)
  ·rintro ((h|⟨f,hf,c,h⟩)|⟨c,h⟩)
   ·exact .inl h
   ·exact .inr ⟨f,hsub f hf,c,h⟩
   ·exact .inr ⟨e,hmem,c,h⟩
 rw[hhid] at R rt hpd
 obtain⟨hvr,hlate,hlst,hkpos,hhs,o,ho,hod⟩:=I.pe e hmem
 have hPd:=hpd e hmem
 have hne:=gu hPd.1
 have R2:=R.merge hPd (fun k' c hk hh=>by
  rcases hh with hh|⟨f,hf,c',hh⟩
  ·exact(I.fresh e hmem k' c hk).2 hh
  ·exact(hdis f hf).2 k' c c' hk hh)
 have E2:=E.merge (x:=e.x) (p:=e.p) fun k' c hk=>(I.fresh e hmem k' c hk).1
 have hc:∀blk off y,¬avs (nU (hid (pl1++pl2) X.O) e.p) l (hs.getD k []) blk→w.cell? ⟨blk,off,none⟩=some y →
   w.cell? ⟨blk,off,none⟩=some y∧¬avs (hid (pl1++pl2) X.O) (l.upd (hs.getD k []).length e.p) (hs.getD k []++[e.x]) blk :=
  fun blk off y hn hy=>⟨hy,fun ha=>hn ((um hne blk).1 ha)⟩
 have hH2:hs.getD (pos e.i+1) []=hs.getD k []++[e.x]:=by rw[hhs,hH]
 have hlenT:=cX _ _ rt
 rw[a5] at hlenT
 have hpe:∀f∈pl1++pl2,f.i ≠ e.i:=fun f hf=>(hdis f hf).1
 refine⟨I.size,I.closed,⟨l.upd (hs.getD k []).length e.p,?_⟩,fun f hf=>?_,?_,fun f hf=>I.fresh f (hsub f hf),?_,.inr ⟨e.i,o,ho,hlq e.i o ho hlate,rfl⟩⟩
 ·rw[hH2]
  refine⟨R2,E2,io (by rw[a5];exact hlenT) fun x y hy=>?_,?_,fun f hf=>?_⟩
  ·have hlt:x<tF.length:=by
    have:=(Dq.1 hy).1
    omega
   cases hb:tQ L ((pl1++pl2).map (·.i)) x
   ·rw[jq hb]
    cases hb2:tQ L ((pl1++e::pl2).map (·.i)) x
    ·have:=ul rt hy
     rw[jq hb2] at this
     exact Rel.mono hc gw _ _ this
    ·obtain⟨i',o',h1,h2,h3⟩:=cZ.1 hb2
     have hie:i'=e.i:=by
      apply Eo
      intro hno
      rw[Eb] at h1
      obtain⟨f,hf,rfl⟩:=h1
      rcases hsplit f hf with rfl|hf
      ·exact hno rfl
      ·rw[FJ] at hb
       exact hb (cZ.2 ⟨f.i,o',Eb.2 ⟨f,hf,rfl⟩,h2,h3⟩)
     subst hie
     rw[ho] at h2
     cases h2
     rw[bj (fun k' o' hk' hd'=>by
      rw[hdst k' e.i o' o x hk' ho hd' h3];exact hlst)]
     rw[(hod x h3).2 hlt,hH,(hod x h3).1 y hy]
     simp only[Rel]
     exact oJ hvr
   ·rw[eW hlt,if_pos hb]
    simp[Rel]
  ·exact DefOk.mono gw (cj (ck rd)) rd
  ·exact Pd.mono hc gw (by simp) (fun _ _ _=>rfl) (hpd f (hsub f hf))
 ·obtain⟨g1,g2,g3,_,g5,g6⟩:=I.pe f (hsub f hf)
  exact⟨g1,g2,g3,hk2 f hf,g5,g6⟩
 ·exact I.dis.sublist (List.Sublist.append (List.Sublist.refl _) (List.sublist_cons_self e pl2))
 ·intro c o' hc' hq
  by_cases hce:c=e.i
  ·subst hce
   refine⟨fun _=>⟨hlst,fun hm=>?_⟩,fun _=>Nat.lt_succ_self _⟩
   rw[Eb] at hm
   obtain⟨f,hf,hfe⟩:=hm
   exact hpe f hf hfe
  ·rw[←hpos c o' hc' hq hce,I.chain c o' hc' hq]
   refine⟨fun⟨h1,h2⟩=>⟨h1,fun hm=>h2 ?_⟩,fun⟨h1,h2⟩=>⟨h1,fun hm=>h2 ?_⟩⟩
   ·rw[Eb] at hm ⊢
    obtain⟨f,hf,hfe⟩:=hm
    exact⟨f,hsub f hf,hfe⟩
   ·rw[Eb] at hm ⊢
    obtain⟨f,hf,hfe⟩:=hm
    rcases hsplit f hf with rfl|hf
    ·exact absurd hfe.symm hce
    ·exact⟨f,hf,hfe⟩
end
section
variable {Γ:ae} {X:Ctx} {L:List Oper} {pos:Nat→Nat} {late:Nat→Bool} {m:List Nat} {t0 tF:List D} {hs:List (List Blk)} {S:Array Bool} {a:Act} {w:World}
theorem Inv5.upto(hconst:∀n k,(∀c o,L[c]? = some o→quietOp o.op=false→¬(k≤pos c∧pos c<k+n))→k+n≤L.length→hs.getD (k+n) []=hs.getD k [])
  (hinj:∀(i j:Nat) (o o':Oper),L[i]? = some o→L[j]? = some o'→pos i=pos j→i=j)
  (hdst:∀(i j:Nat) (o o':Oper) (x:Tmp),L[i]? = some o→L[j]? = some o'→o.dst=some x→o'.dst=some x→i=j) (hlq:∀(i:Nat) (o:Oper),L[i]? = some o→late i=true→quietOp o.op=false) :
  ∀q,q≤L.length→(∀c o,L[c]? = some o→quietOp o.op=false→pos c<q→Lst S c)→∀k pl,Inv5 Γ X L pos late m t0 tF hs k S pl a w →
   ∃k' pl',Inv5 Γ X L pos late m t0 tF hs k' S pl' a w∧∀e∈pl',e∈pl∧q≤pos e.i:=by
 intro q
 induction q with
 | zero=>exact fun _ _ k pl I=>⟨k,pl,I,fun e he=>⟨he,Nat.zero_le _⟩⟩
 | succ q ih =>
  intro hq hl k pl I
  obtain⟨k1,pl1,I1,h1⟩:=ih (by omega) (fun c o hc ho hp=>hl c o hc ho (by omega)) k pl I
  by_cases hex:∃e∈pl1,pos e.i=q
  ·obtain⟨e,he,hpe⟩:=hex
   obtain⟨a1,a2,rfl⟩:=List.append_of_mem he
   obtain⟨_,_,_,hk1,_,o,ho,_⟩:=I1.pe e he
   have hnone:∀c o',L[c]? = some o'→quietOp o'.op=false→pos c<q→pos c<k1:=by
    intro c o' hc hqo hp
    rw[I1.chain c o' hc hqo]
    refine⟨hl c o' hc hqo (by omega),fun hm=>?_⟩
    rw[Eb] at hm
    obtain⟨f,hf,rfl⟩:=hm
    have:=(h1 f hf).2
    omega
   have hsub:∀f,f∈a1++a2→f∈a1++e::a2:=by
    intro f hf
    simp only[DX,DM] at hf ⊢
    rcases hf with h|h
    ·exact .inl h
    ·exact .inr (.inr h)
   have hfe:∀f,f∈a1++a2→f.i ≠ e.i:=by
    intro f hf
    have hd:=I1.dis
    rw[Hr] at hd
    simp only[DX] at hf
    rcases hf with hf|hf
    ·exact(hd.2.2 f hf e (EL ..)).1
    ·exact fun h=>((Et.1 hd.2.1).1 f hf).1 h.symm
   have hge:∀f,f∈a1++a2→q+1≤pos f.i:=by
    intro f hf
    have h2:=(h1 f (hsub f hf)).2
    obtain⟨_,_,_,_,_,o',ho',_⟩:=I1.pe f (hsub f hf)
    have:pos f.i ≠ q:=fun hh=>hfe f hf (hinj _ _ _ _ ho' ho (by rw[hh,hpe]))
    omega
   refine⟨_,_,I1.tell ?_ ?_ hdst (fun f hf=>by rw[hpe];exact hge f hf) hlq,fun f hf=>⟨(h1 f (hsub f hf)).1,hge f hf⟩⟩
   ·have:=hconst (q - k1) k1 (fun c o' hc hqo hx=>by
     have:=hnone c o' hc hqo (by omega)
     omega) (by omega)
    rw[hpe,←this]
    congr 1
    omega
   ·intro c o' hc hqo hce
    rw[hpe]
    constructor
    ·intro h;omega
    ·intro h
     have:pos c ≠ q:=fun hh=>hce (hinj _ _ _ _ hc ho (by rw[hh,hpe]))
     exact hnone c o' hc hqo (by omega)
  ·refine⟨k1,pl1,I1,fun e he=>⟨(h1 e he).1,?_⟩⟩
   have h2:=(h1 e he).2
   have:pos e.i ≠ q:=fun hh=>hex ⟨e,he,hh⟩
   omega
end
def Cand(L:List Oper)(pos:Nat→Nat)(k:Nat):Prop:=k=0∨∃(c:Nat) (o:Oper),L[c]? = some o∧quietOp o.op=false∧k=pos c+1
structure Fx (P:Program) (Γ:ae) (L:List Oper) (B:List Nat) (pos:Nat→Nat) (late:Nat→Bool) (m:List Nat) (t0 tF:List D) (hs:List (List Blk)) (ts:List (List D)):Prop where
 edge:∀(i:Nat) (o:Oper),L[i]? = some o→∀e∈o.after.toList,El .any e=true→e.on<i
 posB:∀(i:Nat) (o:Oper) (j:Nat),L[i]? = some o→(B.getD i 0).testBit j=true→pos j<pos i
 uniq:∀(i j:Nat) (o o':Oper) (x:Tmp),L[i]? = some o→L[j]? = some o'→o.dst=some x→o'.dst=some x→i=j
 inj:∀(i j:Nat) (o o':Oper),L[i]? = some o→L[j]? = some o'→pos i=pos j→i=j
 lt:∀(i:Nat) (o:Oper),L[i]? = some o→pos i<L.length
 oper:∀(i:Nat) (o:Oper) (x:Tmp),L[i]? = some o→x∈bA L o→∀(k:Nat) (o':Oper),L[k]? = some o'→o'.dst=some x→(B.getD i 0).testBit k=true∨(B.getD k 0).testBit i=true
 chain:∀(c c':Nat) (o o':Oper),L[c]? = some o→L[c']? = some o'→quietOp o.op=false→quietOp o'.op=false→late c=false→pos c'<pos c→(B.getD c 0).testBit c'=true
 lateOk:∀(i:Nat) (o:Oper),L[i]? = some o→late i=true→freeOp o.op=true∧quietOp o.op=false∧o.guard=none
 seen:∀(i j:Nat) (o o':Oper) (x:Tmp),L[i]? = some o→x∈bA L o→L[j]? = some o'→o'.dst=some x→late j=true→(B.getD i 0).testBit j=true →
  ∀(c:Nat) (o2:Oper),L[c]? = some o2→quietOp o2.op=false→pos c<pos j→(B.getD i 0).testBit c=true
 hat:∀(i:Nat) (o:Oper),L[i]? = some o→∃call,HS P Γ call∧∃d,bQ P Γ call m L (ts.getD (pos i) []) (hs.getD (pos i) []) o=some (d,hs.getD (pos i+1) []) ∧
  (∀x,(∀(j:Nat) (o':Oper),L[j]? = some o'→pos i≤pos j→o'.dst ≠ some x)→tF.getD x .any=(ts.getD (pos i) []).getD x .any) ∧
  (∀x,(∀(j:Nat) (o':Oper),L[j]? = some o'→pos j<pos i→o'.dst ≠ some x)→(ts.getD (pos i) []).getD x .any=t0.getD x .any) ∧
  (∀x,o.dst=some x→x<tF.length→tF.getD x .any=d)
 len:tF.length=t0.length
 const:∀n k,(∀c o,L[c]? = some o→quietOp o.op=false→¬(k≤pos c∧pos c<k+n))→k+n≤L.length→hs.getD (k+n) []=hs.getD k []
 inn:∀(i:Nat) (o:Oper) (k:Nat) (x:Blk),L[i]? = some o→late i=true→Cand L pos k→hs.getD (pos i+1) []=hs.getD (pos i) []++[x] →
  (hs.getD k []).all (D6 (hs.getD k []).length)=true∧x.inn (hs.getD k []).length=true
 quiet:∀(i:Nat) (o:Oper),L[i]? = some o→quietOp o.op=true→aB L (ts.getD (pos i) []) o.guard=some true→∀k,Cand L pos k →
  (∀(c:Nat) (o':Oper),L[c]? = some o'→quietOp o'.op=false→(pos c<k→(B.getD c 0).testBit i=false)∧(k≤pos c→(B.getD i 0).testBit c=true→late c=true)) →
  ∃d h',opSem P Γ (ts.getD (pos i) []) (hs.getD k []) o.op=some (true,d,h')∧∀x,o.dst=some x→tF.getD x .any=d
section
variable {P:Program} {Γ:ae} {X:Ctx} {r:Option Nat} {call:CallF} {ops:Array Oper} {pos:Nat→Nat} {late:Nat→Bool} {m:List Nat} {t0 tF:List D} {hs:List (List Blk)} {ts:List (List D)} {Q:Exit→AS→Prop}
theorem told(F:Fx P Γ ops.toList (a9 ops.toList []) pos late m t0 tF hs ts){k:Nat}{S:Array Bool}{pl:List Pe}{a:Act}{w:World}(I:Inv5 Γ X ops.toList pos late m t0 tF hs k S pl a w):
  ∃k' pl',Inv5 Γ X ops.toList pos late m t0 tF hs k' S pl' a w ∧
   ∀e∈pl',∃c o,ops.toList[c]? = some o∧quietOp o.op=false∧pos c<pos e.i∧¬Lst S c:=by
 obtain⟨q,h1,h2,h3⟩:=lR (p:=fun q=>∀c o,ops.toList[c]? = some o→quietOp o.op=false→pos c<q→Lst S c) (fun c o _ _ h=>by omega) ops.toList.length
 obtain⟨k',pl',I',h4⟩:=Inv5.upto F.const F.inj F.uniq (fun i o hi hl=>(F.lateOk i o hi hl).2.1) q h1 h2 k pl I
 refine⟨k',pl',I',fun e he=>?_⟩
 obtain⟨_,h5⟩:=h4 e he
 obtain⟨_,hl,hS,_,_,o,ho,_⟩:=I'.pe e he
 apply Eo
 intro hno
 have:=h3 (pos e.i+1) (F.lt _ _ ho) (fun c o' hc hq hp=>by
  by_cases hce:pos c=pos e.i
  ·rw[F.inj c e.i o' o hc ho hce];exact hS
  ·apply Eo
   intro hnl
   exact hno ⟨c,o',hc,hq,by omega,hnl⟩)
 omega
end
section
variable {P:Program} {Γ:ae} {X:Ctx} {r:Option Nat} {call:CallF} {ops:Array Oper} {pos:Nat→Nat} {late:Nat→Bool} {m:List Nat} {t0 tF:List D} {hs:List (List Blk)} {ts:List (List D)} {Q:Exit→AS→Prop}
theorem Inv5.here{k:Nat}{S:Array Bool}{pl:List Pe}{a:Act}{w:World}(I:Inv5 Γ X ops.toList pos late m t0 tF hs k S pl a w):
  ∃l,St Γ {O:=hid pl X.O,w:=w,l:=l,h:=hs.getD k [],D:=X.D} {t:=jg ops.toList S (pl.map (·.i)) t0 tF,h:=hs.getD k [],m:=m} a w∧Ext X.w X.l X.h w l (hs.getD k []) ∧
   Rep Γ (hid pl X.O) w l (hs.getD k [])∧∀e∈pl,Pd w (avs (hid pl X.O) l (hs.getD k [])) l (hs.getD k []) e.x e.p:=by
 obtain⟨l,R,E,rt,rd,hp⟩:=I.st
 exact⟨l,⟨l,R,Ext.refl _ _ _,rt,rd⟩,E,R,hp⟩
theorem Pd.ext{O:Nat→Prop}{w w':World}{l l':Loc}{h h':List Blk}{x:Blk}{p:Option (Nat×Nat)}(E:Ext w l h w' l' h')(R:Rep Γ O w l h)(hO:∀k c,p=some (k,c)→O k)
  (hp:Pd w (avs O l h) l h x p):Pd w' (avs O l' h') l' h' x p:=by
 refine hp.mono E.hc E.keep ?_ fun blk c hk=>?_
 ·apply Eo
  intro hlt
  have hb:h[h'.length]? = some h[h'.length]:=D7 (by omega)
  obtain⟨x',h1,_⟩:=E.keep _ _ hb
  simp at h1
 ·exact E.same blk (R.obd blk (hO blk c hk)) fun ho=>(R.inb blk ho).2 (hO blk c hk)
theorem Inv5.after{k k' i:Nat}{S:Array Bool}{pl:List Pe}{a a':Act}{w w':World}{l:Loc}{o:Oper}{d:D}{_v:Value}(F:Fx P Γ ops.toList (a9 ops.toList []) pos late m t0 tF hs ts)
  (I:Inv5 Γ X ops.toList pos late m t0 tF hs k S pl a w) (ho:ops.toList[i]? = some o) (hiS:¬Lst S i) (hpre:∀e∈o.after.toList,El .any e=true→Lst S e.on)
  (E:Ext X.w X.l X.h w l (hs.getD k [])) (R:Rep Γ (hid pl X.O) w l (hs.getD k [])) (hp:∀e∈pl,Pd w (avs (hid pl X.O) l (hs.getD k [])) l (hs.getD k []) e.x e.p)
  (hst:St Γ {O:=hid pl X.O,w:=w,l:=l,h:=hs.getD k [],D:=X.D} {t:=putD (jg ops.toList S (pl.map (·.i)) t0 tF) o.dst d,h:=hs.getD k' [],m:=m} a' w') (ha:∃v,a'.tmps=(a.put o.dst v).tmps)
  (hd:∀x,o.dst=some x→x<tF.length→tF.getD x .any=d) (hk:∀e∈pl,k'≤pos e.i) (hcand:Cand ops.toList pos k')
  (hchain:∀c o',ops.toList[c]? = some o'→quietOp o'.op=false→(pos c<k' ↔ (c=i∨Lst S c)∧c ∉ pl.map (·.i))) :
  Inv5 Γ X ops.toList pos late m t0 tF hs k' (S.setIfInBounds i true) pl a' w':=by
 have hi:i<S.size:=by rw[I.size];exact(Dq.1 ho).1
 have hsetS:∀j,Lst (S.setIfInBounds i true) j ↔ j=i∨Lst S j:=fun j=>j6 hi
 have hne:∀e∈pl,e.i ≠ i:=fun e he hei=>hiS (hei▸(I.pe e he).2.2.1)
 have hput:putD (jg ops.toList S (pl.map (·.i)) t0 tF) o.dst d=jg ops.toList (S.setIfInBounds i true) (pl.map (·.i)) t0 tF:=by
  have hput0:putD (cH ops.toList S t0 tF) o.dst d=cH ops.toList (S.setIfInBounds i true) t0 tF :=
   jp ho hi (fun k o' hk x hx hx'=>F.uniq k i o' o x hk ho hx' hx) hd
  refine aJ (by rw[aW,a5,a5]) fun x hx=>?_
  rw[aW,a5] at hx
  rw[eW hx,←hput0]
  by_cases hdx:o.dst=some x
  ·have hh:tQ ops.toList (pl.map (·.i)) x=false:=by
    rw[FJ]
    intro hh
    obtain⟨j,o',h1,h2,h3⟩:=cZ.1 hh
    rw[Eb] at h1
    obtain⟨e,he,rfl⟩:=h1
    exact hne e he (F.uniq _ _ _ _ x h2 ho h3 hdx)
   rw[hdx,cY (by rw[a5];exact hx),hh,if_neg (by simp),cY (by rw[ak];exact hx)]
  ·rw[bR hdx,bR hdx,eW hx]
 obtain⟨l',R',E',rt',rd'⟩:=hst
 refine⟨by simpa using I.size,?_,⟨l',R',E.trans E',by rw[←hput];exact rt',rd',fun e he=>(hp e he).ext E' R fun k c hk=>.inr ⟨e,he,c,hk⟩⟩,fun e he=>?_,I.dis,I.fresh,?_,hcand⟩
 ·intro k2 o2 hk2 ho2 e he hb
  rw[hsetS] at hk2 ⊢
  rcases hk2 with rfl|hk2
  ·rw[ho] at ho2
   cases ho2
   exact .inr (hpre e he hb)
  ·exact .inr (I.closed k2 o2 hk2 ho2 e he hb)
 ·obtain⟨g1,g2,g3,_,g5,o2,g6,g7⟩:=I.pe e he
  refine⟨g1,g2,(hsetS _).2 (.inr g3),hk e he,g5,o2,g6,fun y hy=>⟨fun z hz=>?_,(g7 y hy).2⟩⟩
  obtain⟨v,ha⟩:=ha
  rw[ha] at hz
  have hdy:o.dst ≠ some y:=fun hdy=>hne e he (F.uniq _ _ _ _ y g6 ho hy hdy)
  refine(g7 y hy).1 z ?_
  cases hd2:o.dst with
  | none=>rw[hd2] at hz;exact hz
  | some x =>
   rw[hd2] at hz
   have hxy:x ≠ y:=fun h=>hdy (by rw[hd2,h])
   simp only[Act.put,Array.toList_setIfInBounds] at hz
   rwa[GA hxy] at hz
 ·intro c o' hc hq
  rw[hsetS]
  exact hchain c o' hc hq
end
section
variable {P:Program} {Γ:ae} {X:Ctx} {r:Option Nat} {s:AS}
theorem zb{o:Oper}{d:D}{h':List Blk}{K:Act→World→Prop}{Q':Exit→Act→World→Prop}{a:Act}{w:World}(hop:opSem P Γ s.t s.h o.op=some (true,d,h'))(hm:ah h' s.m=true)
  (hK:∀v w',St Γ X {t:=putD s.t o.dst d,h:=h',m:=s.m} (a.put o.dst v) w'→K (a.put o.dst v) w') (hs:St Γ X s a w):o.wpIn (FW r) 0 P a w K Q':=by
 obtain⟨l,R,E,rt,rd⟩:=hs
 obtain⟨nx,v,w',l',h1,h2,h3,h4,h5⟩:=fE R rt hop
 refine⟨fun _ _=>trivial,?_⟩
 rw[G1 _ _ _ (by intro c hc;rw[hc] at hop;simp[opSem] at hop),h1]
 have key:=St.put (Γ:=Γ) (X:=X) (s:=s) (a:=a) o.dst rt rd E h3 h4 h5 hm
 rcases h2 with rfl|⟨rfl,rfl⟩
 ·exact hK _ _ key
 ·exact hK _ _ key
theorem w9{o:Oper}{fv:Operand}{args:Array Operand}{ats:Array TypeId}{K:Act→World→Prop}{Q':Exit→Act→World→Prop}{a:Act}{w:World}
  (ho:o.op=.call {callee:=.value fv,args,argTypes:=ats})
  (hcall:VInv P Γ (evalD Γ s.t fv) (args.toList.map (evalD Γ s.t)) s.h fun d h'=>ah h' s.m=true ∧
   ∀v w',St Γ X {t:=putD s.t o.dst d,h:=h',m:=s.m} (a.put o.dst v) w'→K (a.put o.dst v) w') (hs:St Γ X s a w):o.wpIn (FW r) 0 P a w K Q':=by
 obtain⟨l,R,E,rt,rd⟩:=hs
 refine⟨fun _ _=>trivial,?_⟩
 rw[G1 _ _ _ (by intro c hc;rw[ho] at hc;simp at hc)]
 have e1:(execOp a.eval o).run P w=(do let d ←Deferred.ofValue (a.eval fv) (args.toList.map a.eval).toArray;invoke d.target d.args:Sem Next).run P w:=by
  unfold execOp
  rw[ho]
  simp only[resolve]
  congr 3
  rw[←Array.toList_map]
 rw[e1]
 exact hcall X.O w l _ _ R (aC R rt fv) (ci R rt args.toList) r o a K Q' fun v d h' l' w' ⟨g1,g2⟩ g3 g4 g5 =>
  g2 _ _ (St.put (Γ:=Γ) (X:=X) (s:=s) (a:=a) o.dst rt rd E g3 g4 g5 g1)
theorem un{call:CallF}(hc:call.Ok P Γ){o:Oper}{d:D}{h':List Blk}{K:Act→World→Prop}{Q':Exit→Act→World→Prop}{a:Act}{w:World}
  (hop:dM P Γ call s.t s.h o.op=some (d,h')) (hm:ah h' s.m=true)
  (hK:∀v w',St Γ X {t:=putD s.t o.dst d,h:=h',m:=s.m} (a.put o.dst v) w'→K (a.put o.dst v) w') (hs:St Γ X s a w):o.wpIn (FW r) 0 P a w K Q':=by
 unfold dM at hop
 split at hop
 ·rename_i ho
  exact w9 ho ((hc _ _ _ _ _ hop).mono fun d2 h2 ⟨e1,e2⟩=>by subst e1;subst e2;exact⟨hm,hK⟩) hs
 ·split at hop
  ·rename_i h1
   cases hop
   exact zb h1 hm hK hs
  ·simp at hop
theorem zL{o:Oper}{x:Blk}{K:Act→World→Prop}{Q':Exit→Act→World→Prop}{a:Act}{w:World}{l:Loc}(R:Rep Γ X.O w l s.h)(rt:RelL w (avs X.O l s.h) l s.h s.t a.tmps.toList)
  (hp:x.plain=true) (hop:opSem P Γ s.t s.h o.op=some (true,.ref (gz x s.h.length),s.h++[x])) (hi:s.h.all (D6 s.h.length)=true) (hx:x.inn s.h.length=true)
  (hK:∀v w' l' p,Rep Γ (nU X.O p) w' l' s.h→Ext w l s.h w' l' s.h→Pd w' (avs (nU X.O p) l' s.h) l' s.h x p→VR x p v→(∀k c,p=some (k,c)→w.heap.size≤k∧¬X.O k)→K (a.put o.dst v) w') :
  o.wpIn (FW r) 0 P a w K Q':=by
 obtain⟨v,w',l',p,h1,h2,h3,h4,h5,h6⟩:=uj (P:=P) R rt hp hop hi hx
 refine⟨fun _ _=>trivial,?_⟩
 rw[G1 _ _ _ (by intro c hc;rw[hc] at hop;simp[opSem] at hop),h1]
 exact hK v w' l' p h2 h3 h4 h5 h6
end
section
variable {P:Program} {Γ:ae} {X:Ctx} {r:Option Nat} {call:CallF} {ops:Array Oper} {pos:Nat→Nat} {late:Nat→Bool} {m:List Nat} {t0 tF:List D} {hs:List (List Blk)} {ts:List (List D)} {Q:Exit→AS→Prop}
theorem zM(F:Fx P Γ ops.toList (a9 ops.toList []) pos late m t0 tF hs ts){k:Nat}(hk:Cand ops.toList pos k):k≤ops.toList.length:=by
 rcases hk with rfl|⟨c,o,ho,_,rfl⟩
 ·omega
 ·exact F.lt c o ho
theorem oL(F:Fx P Γ ops.toList (a9 ops.toList []) pos late m t0 tF hs ts)(hQ:Q .normal {t:=tF,h:=hs.getD ops.size [],m:=m})
  {k:Nat} {S:Array Bool} {pl:List Pe} {a:Act} {w:World} (I0:Inv5 Γ X ops.toList pos late m t0 tF hs k S pl a w) (hall:∀j,j<ops.size→Lst S j):eu Γ X Q .normal a w:=by
 have hn:ops.toList.length=ops.size:=by simp
 obtain⟨k,pl,I,hpl⟩:=told F I0
 have hnil:pl=[]:=by
  cases pl with
  | nil=>rfl
  | cons e pl =>
   obtain⟨c,o,hc,_,_,h⟩:=hpl e (EL ..)
   exact absurd (hall c (by have:=(Dq.1 hc).1;omega)) h
 subst hnil
 refine⟨by simp,_,hQ,?_⟩
 have e1:jg ops.toList S [] t0 tF=tF:=by
  rw[q8]
  refine aJ (ak ..) fun x hx=>?_
  exact bj fun c o hc1 _=>hall c (by have:=(Dq.1 hc1).1;omega)
 have hk:=zM F I.cand
 have e2:hs.getD ops.size []=hs.getD k []:=by
  have:=F.const (ops.size - k) k (fun c o hc1 hc2 hx=>by
   have h1:=(I.chain c o hc1 hc2).2 ⟨hall c (by have:=(Dq.1 hc1).1;omega),by simp⟩
   omega) (by omega)
  rwa[show k+(ops.size - k)=ops.size by omega] at this
 obtain⟨l,R,E,rt,rd,_⟩:=I.st
 have hh:hid [] X.O=X.O:=by
  funext k'
  apply propext
  simp[hid]
 rw[hh] at R rt
 simp only[List.map_nil,e1] at rt
 rw[e2]
 exact⟨l,R,E,rt,rd⟩
end
end Go.Vi
