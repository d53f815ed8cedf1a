/- A part of the proof; no conditions of its own. -/
import Derived.Test.YtgalafpinkflfaaGreatDoorW6
open Bool renaming true->J,false->N
open Option renaming some->G,none->Y
open Go.Vi.η renaming st->E6,ov->zfG,inl->Τ
open Go.Vi.D renaming Pp->uN,agg->mS,ref->gM
open Go.Vi.ql renaming var->eP,δ->NH,EZ->xx,map->NI,loop->Js
open Go.Vi.SOp renaming P1->zlw,mask->IW,frz->Λ,trim->zhZ
open Go.LoopState renaming ready->EV,exhausted->zca,busy->Ρ
open Go.Exit renaming exit->EY,normal->w8
open Go.Vi.Ref renaming ptr->qn
open Decidable renaming decide -> fE
open List renaming mem_append -> U0, mem_singleton -> Va, getD -> Th, getElem_mem -> Yv, mem_cons_self -> UT, getD_cons_zero -> XG, mem_cons -> T3, replicate -> Ti, length_cons -> Ue, map -> S2, length -> S7, getElem?_eq_some_iff -> Td, all -> Tq, foldl_cons -> TG, foldl -> TE, length_map -> Uw, map_cons -> U5, drop_zero -> Xj, contains -> Uv, drop -> TP
open Nat renaming not_lt_zero -> V7, lt_succ_self -> Ya
open Int renaming toNat_natCast -> UD, toNat -> S9
open Go.Vi.D renaming θ -> Tz, FK -> Ty, fn -> UL
open Go.Vi.uS renaming row -> Tb
open Go.Vi.E7 renaming row -> Ts
open Go.IntKind renaming i64 -> S6, wrap -> S8
open Go.Proofs.Tryz renaming prog -> S5, f49 -> TS, f198 -> U9, f45 -> XT
open Go.Exit renaming normal -> Tr
open Go.Vi.CW renaming each -> UR
open Go.LoopState renaming busy -> TX, ready -> TJ
open Go.Fn renaming func -> TM
open Go.Value renaming oneCell' -> Up
open Go.Vi.ql renaming inn -> Tl
open Go.Vi.Ev renaming zkJ -> Tw
open Go.Vi.zj renaming row -> TA
open Go.Vi.zjp renaming znP -> Ze
open Bool renaming or_eq_false_iff -> Wo, not_eq_false' -> XQ, and_eq_true -> Tm, or_eq_true -> YB
open Go.Vi.uT renaming row -> Tc
open Go.Vi.Β renaming row -> Tj
open Go.Vi.qH renaming row -> Ta
open Go.Vi.eQ renaming l -> TC
open Go Go.Proofs
namespace Go.Vi
set_option maxRecDepth 100000
set_option maxHeartbeats 4000000
theorem gg{l:bV}{u w:Nat}{r d:Int}:(l.set u r).getD w d=if u=w/\u<l.length then r else l.getD w d:=mW
theorem K3{to r u:Int}{s:bV×QF}{w:Nat}(h:0<=s.1.getD w 0):(DC (usY to r u s)).1.getD w 0=s.1.getD w 0:=by
 have key:s.1.getD u.toNat 0<0->(s.1.set u.toNat r).getD w 0=s.1.getD w 0:=by intro hx;rw[gg,if_neg];rintro⟨rfl,_⟩;omega
 unfold usY;cases hg:fE (s.1.getD u.toNat 0>=0) with
 |true=>rfl
 |false=>
  have hx:s.1.getD u.toNat 0<0:=by simpa using hg
  cases u==to with
  |true=>exact key hx
  |false=>exact key hx
theorem K4{es:oN}{fs:bV}{to r:Int}{s:bV×QF}{w:Nat}(h:0<=s.1.getD w 0):(DC (usG es fs to r s)).1.getD w 0=s.1.getD w 0:=by
 unfold usG;cases fE (zii es fs r>0) with
 |true=>exact K3 h
 |false=>rfl
structure TI (es:oN) (fs:bV) (n:Nat) (lk:Int) (ρ:Nat->Nat) (s:bV×QF):Prop where
 len:s.1.length=n
 src:0<=s.1.getD lk.toNat 0
 q:∀v∈s.2.list,0<=s.1.getD v.toNat 0
 t:∀v:Nat,v<n->0<=s.1.getD v 0->(v:Int)≠lk->cG es.length (s.1.getD v 0)/\0<zii es fs (s.1.getD v 0)/\gW es (s.1.getD v 0)=(v:Int)/\0<=s.1.getD (gW es (xr (s.1.getD v 0))).toNat 0/\ρ (gW es (xr (s.1.getD v 0))).toNat<ρ v
section
variable {es:oN} {fs:bV} {n:Nat} {lk to:Int} {ρ:Nat->Nat} {s:bV×QF}
theorem TI.set(h:TI es fs n lk ρ s){v:Nat}(hv:v<n)(hm:0<=s.1.getD v 0){r u:Int}(hr:cG es.length r)(hc:0<zii es fs r)(ho:gW es (xr r)=(v:Int))(hu:gW es r=u)(h0:0<=u)(hun:u.toNat<n)(hx:s.1.getD u.toNat 0<0){q:QF}(hq:∀w∈q.list,w=u\/w∈s.2.list):TI es fs n lk (λw=>if w=u.toNat then ρ v+1 else ρ w) (s.1.set u.toNat r,q):=by
 have oA:u.toNat<s.1.length:=by rw[h.len];exact hun
 have hs:(s.1.set u.toNat r).getD u.toNat 0=r:=by rw[gg,if_pos ⟨rfl,oA⟩]
 have hk:∀w,w≠u.toNat->(s.1.set u.toNat r).getD w 0=s.1.getD w 0:=λw hw=>mW
 have hmk:∀w,0<=s.1.getD w 0->(s.1.set u.toNat r).getD w 0=s.1.getD w 0:=λw hw=>hk w mW;refine⟨by simpa using h.len,?_,?_,?_⟩;·simp only;rw[hmk _ h.src];exact h.src
 ·intro w hw;simp only;rcases hq w hw with rfl|hw
  ·rw[hs];exact hr.1
  ·rw[hmk _ (h.q w hw)];exact h.q w hw
 ·intro w hw hwm hwf;simp only at hwm ⊢;by_cases he:w=u.toNat
  ·subst he;rw[hs];have hvu:v≠u.toNat:=by rintro rfl;omega
   grind
  ·rw[hk w he] at hwm ⊢;obtain⟨t1,t2,t3,t4,t5⟩:=h.t w hw hwm hwf;grind
theorem TI.usG(hm:es.length<=65536)(Pt:∀x∈es,ez n x)(h:TI es fs n lk ρ s){v:Nat}(hv:v<n)(hmk:0<=s.1.getD v 0){r:Int}(hr:cG es.length r)(ho:gW es (xr r)=(v:Int)):∃ρ',TI es fs n lk ρ' (DC (usG es fs to r s)):=by
 unfold Vi.usG;cases hc:fE (zii es fs r>0) with
 | false=>exact⟨ρ,h⟩
 | true =>
  have hc':0<zii es fs r:=by simpa using hc
  obtain⟨e0,e1⟩:=qW hr (by omega) Pt;show ∃ρ',TI es fs n lk ρ' (DC (usY to r (gW es r) s));unfold usY;cases hg:fE (s.1.getD (gW es r).toNat 0>=0) with
  | true=>exact⟨ρ,h⟩
  | false =>
   have hx:s.1.getD (gW es r).toNat 0<0:=by simpa using hg
   cases gW es r==to with
   | true=>exact⟨_,h.set hv hmk hr hc' ho rfl e0 e1 hx (λw hw=>.inr hw)⟩
   | false =>refine⟨_,h.set hv hmk hr hc' ho rfl e0 e1 hx (λw hw=>?_)⟩;grind [QF.push,QF.list,Va]
theorem TI.xz(hm:es.length<=65536)(Pt:∀x∈es,ez n x){v:Nat}(hv:v<n):∀(B:bV) (ρ:Nat->Nat) (s:bV×QF),(∀r∈B,cG es.length r/\gW es (xr r)=(v:Int))->TI es fs n lk ρ s->0<=s.1.getD v 0->∃ρ',TI es fs n lk ρ' (DC (xz (Vi.usG es fs to) B s))
 | [],ρ,s,_,h,_=>⟨ρ,h⟩
 |r::B,ρ,s,hB,h,hmk=>by
  obtain⟨hr,ho⟩:=hB r qk;obtain⟨ρ1,h1⟩:=h.usG (to:=to) hm Pt hv hmk hr ho;have hk:=K4 (es:=es) (fs:=fs) (to:=to) (r:=r) hmk;simp[Vi.xz];cases hg:Vi.usG es fs to r s with
  |inr s1=>grind
  |inl s1=>rw[hg] at h1 hk;exact TI.xz hm Pt hv B ρ1 s1 (λx hx=>hB x (by simp[hx])) h1 (by simp only[DC] at hk;grind)
theorem TI.bfs(hm:es.length<=65536)(Pt:∀x∈es,ez n x){adj:List (bV)}(ha:adj.length=n)(hB:∀B∈adj,∀r∈B,cG es.length r)(hA:zqi es adj){k:Nat}{s f:bV×QF}(hb:Bfs adj es fs to k s f):∀{ρ:Nat->Nat},SOk n s->TI es fs n lk ρ s->∃ρ',TI es fs n lk ρ' f:=by
 have key:∀{s:bV×QF} {v:Int} {rest:bV},SOk n s->s.2.list=v::rest->v.toNat<n/\(∀r∈adj.getD v.toNat [],cG es.length r/\gW es (xr r)=(v.toNat:Int)):=by
  intro s v rest hs hl;obtain⟨v0,v1⟩:=hs.mem v (by rw[hl];simp);refine⟨v1,λr hr=>⟨?_,hA v.toNat r hr⟩⟩;have:adj.getD v.toNat []=adj[v.toNat]' lj:=by simp[Th,ha,v1]
  rw[this] at hr;exact hB _ (Yv _) r hr
 have pop:∀{s:bV×QF} {v:Int} {rest:bV} {ρ:Nat->Nat},s.2.list=v::rest->TI es fs n lk ρ s->TI es fs n lk ρ (s.1,s.2.pop):=by intro s v rest ρ hl h;exact⟨h.len,h.src,λw hw=>h.q w (by rw[QF.zmx hl] at hw;grind),h.t⟩
 induction hb with
 |done _=>grind
 |stop hl hf=>intro ρ hs h;obtain⟨k1,k2⟩:=key hs hl;have hm0:=h.q _ (by rw[hl];exact UT);obtain⟨ρ',h'⟩:=TI.xz (to:=to) hm Pt k1 _ ρ _ k2 (pop hl h) hm0;rw[hf] at h';exact⟨ρ',h'⟩
 |step hl hf _ ih=>intro ρ hs h;obtain⟨k1,k2⟩:=key hs hl;have hm0:=h.q _ (by rw[hl];exact UT);obtain⟨ρ',h'⟩:=TI.xz (to:=to) hm Pt k1 _ ρ _ k2 (pop hl h) hm0;rw[hf] at h';exact ih (SOk.xz hm Pt _ _ _ (λr hr=>(k2 r hr).1) (hs.pop hl) hf) h'
end
inductive zjT (es:oN) (fs by':bV) (lk:Int) (ρ:Nat->Nat):Int->bV->Prop
 |nil:zjT es fs by' lk ρ lk []
 |cons {v r rs}:v≠lk->0<=v->by'[v.toNat]?=G r->cG es.length r->0<zii es fs r->gW es r=v->ρ (gW es (xr r)).toNat<ρ v.toNat->zjT es fs by' lk ρ (gW es (xr r)) rs->zjT es fs by' lk ρ v (r::rs)
theorem zjT.path{es:oN}{fs by':bV}{lk:Int}{ρ:Nat->Nat}{v:Int}{rs:bV}(h:zjT es fs by' lk ρ v rs):Path es by' lk v rs:=by
 induction h with
 |nil=>exact .nil
 |cons h1 h2 h3 h4 _ _ _ _ ih=>exact .cons h1 h2 h3 h4 ih
theorem Hd{es:oN}{fs:bV}{n:Nat}{lk:Int}{ρ:Nat->Nat}{s:bV×QF}(hm:es.length<=65536)(Pt:∀x∈es,ez n x)(h:TI es fs n lk ρ s):∀(m:Nat) (v:Int),ρ v.toNat<m->0<=v->v.toNat<n->0<=s.1.getD v.toNat 0->∃rs,zjT es fs s.1 lk ρ v rs
 |0,v,h,_,_,_=>absurd h (V7 _)
 |m+1,v,hρ,v0,v1,hmk=>by
  by_cases hv:v=lk;·subst hv;exact⟨[],.nil⟩
  ·obtain⟨t1,t2,t3,t4,t5⟩:=h.t v.toNat v1 hmk lj;have hx:=Rk t1 lj;obtain⟨e0,e1⟩:=qW hx lj Pt;obtain⟨rs,hp⟩:=Hd hm Pt h m (gW es (xr (s.1.getD v.toNat 0))) lj e0 e1 t4;have hg:s.1[v.toNat]?=G (s.1.getD v.toNat 0):=by simp[Th,h.len,v1]
   exact⟨_,.cons hv v0 hg t1 t2 (by rw[t3];omega) t5 hp⟩
def vt:oN->bV->Int->Int
 |x::es,f::fs,w=>(if x.lk=w then f else 0)-(if x.to=w then f else 0)+vt es fs w
 |_,_,_=>0
theorem vu:∀(es:oN) (fs:bV) (i:Nat) (d w:Int),fs.length=es.length->i<es.length -> vt es (fs.set i (fs.getD i 0+d)) w=vt es fs w+((if (es.getD i ⟨0,0,0⟩).lk=w then d else 0)-(if (es.getD i ⟨0,0,0⟩).to=w then d else 0))
 | [],_,i,_,_,_,hi=>absurd hi (V7 _)
 | x::es,[],_,_,_,hl,_=>by simp at hl
 | x::es,f::fs,0,d,w,_,_=>by grind [XG,vt]
 | x::es,f::fs,i+1,d,w,hl,hi=>by simp only[List.set_cons_succ,List.getD_cons_succ,vt];rw[vu es fs i d w (by simpa using hl) (by simpa using hi)];omega
theorem He{es:oN}{fs:bV}:∀(rs:bV) (l0:Int),0<l0->(∀r∈rs,0<zii es fs r)->0<rs.foldl (lsF es fs) l0/\rs.foldl (lsF es fs) l0<=l0/\∀r∈rs,rs.foldl (lsF es fs) l0<=zii es fs r
 | [],l0,h,_=>⟨h,Int.le_refl _,qk⟩
 |r::rs,l0,h,hc=>by
  have hr:=hc r qk;have h1:0<lsF es fs l0 r/\lsF es fs l0 r<=l0/\lsF es fs l0 r<=zii es fs r:=by unfold lsF dmnI;split<;>omega
  obtain⟨a,b,c⟩:=He rs (lsF es fs l0 r) h1.1 (λx hx=>hc x (by simp[hx]));grind
section
variable {es:oN} {fs by':bV} {lk:Int} {ρ:Nat->Nat}
theorem zjT.rank{v:Int}{rs:bV}(h:zjT es fs by' lk ρ v rs):∀r∈rs,cG es.length r/\0<zii es fs r/\ρ (gW es r).toNat<=ρ v.toNat/\ρ (gW es (xr r)).toNat<ρ (gW es r).toNat:=by
 induction h with
 |nil=>simp
 |cons h1 h2 h3 h4 h5 h6 h7 _ ih=>
  intro r hr;rcases T3.1 hr with rfl|hr
  ·grind
  grind
theorem zjT.dist(hm:es.length<=65536){v r:Int}{rs:bV}(h:zjT es fs by' lk ρ v (r::rs)):∀x∈rs,ixR x≠ixR r:=by
 cases h with
 |cons h1 h2 h3 h4 h5 h6 h7 h8=>
  intro x hx e;obtain⟨a,_,c,d⟩:=h8.rank x hx;obtain⟨i,hi,ri⟩:=qY h4;obtain⟨j,hj,rj⟩:=qY a;have hij:i=j:=by
   rcases ri with rfl|rfl<;>rcases rj with rfl|rfl;·rw[ix0 lj,ix0 lj] at e;omega
   ·rw[ix0 lj,ix1 lj] at e;omega
   ·rw[ix1 lj,ix0 lj] at e;omega
   ·rw[ix1 lj,ix1 lj] at e;omega
  subst hij;rcases ri with rfl|rfl<;>rcases rj with rfl|rfl
  ·grind
  ·rw[xr0 hi lj] at h7 c;rw[xr1 hi lj,h6] at d;omega
  ·rw[xr1 hi lj] at h7 c;rw[xr0 hi lj,h6] at d;omega
  grind
theorem K5{gs:bV}(h:zoi es gs){r least:Int}(hr:cG es.length r)(hl:0<least)(hc:least<=zii es gs r):zoi es (puF least gs r)/\∀w,vt es (puF least gs r) w=vt es gs w+((if gW es (xr r)=w then least else 0)-(if gW es r=w then least else 0)):=by
 have hs:=h.sz;obtain⟨i,hi,hri⟩:=qY hr;have h1:=h.lo i hi;have h2:=h.hi i hi;have h3:=h.most i hi;have hlen:=h.len;have key:∀d:Int,0<=gs.getD i 0+d->gs.getD i 0+d<=(es.getD i ⟨0,0,0⟩).most->zoi es (gs.set i (gs.getD i 0+d)):=by
  intro d d0 d1;refine⟨mW,hs,?_,?_,h.most⟩
  ·intro j hj;rw[gg];split;·exact d0
   ·exact h.lo j hj
  ·intro j hj;rw[gg];split;·grind
   ·exact h.hi j hj
 rcases hri with rfl|rfl
 ·rw[cap0 h hi] at hc;have e:puF least gs (2*(i:Int))=gs.set i (gs.getD i 0+least):=by unfold puF fA lD;rw[ix0 lj,UD,tn0];simp only;rw[wrap_i64 lj lj]
  rw[e];refine⟨key least lj lj,λw=>?_⟩;rw[vu es gs i least w hlen hi,xr0 hi lj,end0 lj,end1 lj]
 ·rw[cap1 lj] at hc;have e:puF least gs (2*(i:Int)+1)=gs.set i (gs.getD i 0+(-least)):=by unfold puF fA lD;rw[ix1 lj,UD,tn1];simp only;rw[wrap_i64 (n:=0-least) lj lj,wrap_i64 lj lj];congr 1;omega
  rw[e];refine⟨key (-least) lj lj,λw=>?_⟩;rw[vu es gs i (-least) w hlen hi,xr1 hi lj,end0 lj,end1 lj];grind
theorem fA_pu{gs:bV}{least r x:Int}(hr:cG es.length r)(hx:cG es.length x)(hm:es.length<=65536)(hne:ixR x≠ixR r):fA (puF least gs r) x=fA gs x:=by unfold fA puF;rw[gg,if_neg];rintro⟨e,_⟩;have h1:=(lF hr lj).1;have h2:=(lF hx lj).1;grind
theorem Ru{gs:bV}{x:Int}(h:fA gs x=fA fs x):zii es gs x=zii es fs x:=by unfold zii;rw[h]
theorem yn(least:Int)(hl:0<least):∀(rs:bV) (v:Int) (gs:bV),zjT es fs by' lk ρ v rs->zoi es gs->(∀r∈rs,fA gs r=fA fs r)->(∀r∈rs,least<=zii es fs r) -> zoi es (rs.foldl (puF least) gs)/\∀w,vt es (rs.foldl (puF least) gs) w=vt es gs w+((if lk=w then least else 0)-(if v=w then least else 0))
 | [],v,gs,hp,h,_,_=>by cases hp;grind
 |r::rs,v,gs,hp,h,hf,hc=>by
  have hd:=hp.dist h.sz;have hk:=hp.rank;cases hp with
  |cons h1 h2 h3 h4 h5 h6 h7 h8=>obtain⟨a,b⟩:=K5 h h4 hl (by rw[Ru (hf r qk)];grind);obtain⟨c,d⟩:=yn least hl rs _ (puF least gs r) h8 a (λx hx=>by rw[fA_pu h4 (hk x (by simp[hx])).1 h.sz (hd x hx)];grind) (λx hx=>hc x (by simp[hx]));grind
theorem Mx(h:zoi es fs){v:Int}{rs:bV}(hp:zjT es fs by' lk ρ v rs):0<lsR es fs rs/\zoi es (puR es fs rs)/\∀w,vt es (puR es fs rs) w=vt es fs w+((if lk=w then lsR es fs rs else 0)-(if v=w then lsR es fs rs else 0)):=by obtain⟨a,_,c⟩:=He (es:=es) (fs:=fs) rs 1073741824 lj (λr hr=>(hp.rank r hr).2.1);exact⟨a,yn _ a rs v fs hp h (λ_ _=>rfl) c⟩
end
def SY:oN->Int
 | []=>0
 |x::es=>x.most+SY es
theorem Af:∀(es:oN) (fs:bV) (w:Int),(∀i,i<es.length->0<=fs.getD i 0/\fs.getD i 0<=(es.getD i ⟨0,0,0⟩).most)->vt es fs w<=SY es
 | [],fs,w,_=>by grind [vt,SY]
 |x::es,[],w,h=>by have h0:=h 0 qk;have h1:=Af es [] w (λi hi=>by have:=h (i+1) (by simpa using hi);grind);grind [XG,List.getD_nil,vt,SY]
 |x::es,f::fs,w,h=>by have h0:=h 0 qk;have h1:=Af es fs w (λi hi=>by have:=h (i+1) (by simpa using hi);grind);grind [XG,vt,SY]
section
variable {es:oN} {n:Nat} {lk to:Int}
theorem My(hfr:0<=lk/\lk.toNat<n):SOk n (bs0 n es.length lk):=by
 refine⟨by simp[by0],qk,qk,?_,?_⟩;·grind [QF.list,Va]
 grind [by0,List.length_singleton,unm]
theorem bs0_ti{fs:bV}(hm:es.length<=65536)(hfr:0<=lk/\lk.toNat<n):TI es fs n lk (λ_=>0) (bs0 n es.length lk):=by
 have h0:(by0 n es.length lk).getD lk.toNat 0=2*(es.length:Int):=by unfold by0;rw[gg,if_pos ⟨rfl,mW⟩,wrap_i64 lj lj];omega
 refine⟨by simp[by0],?_,?_,?_⟩;·grind
 ·intro v hv;simp[QF.list] at hv;grind
 ·intro v hv hmk hne;simp only at hmk;unfold by0 at hmk;grind
theorem Rv(hm:es.length<=65536)(Pt:∀x∈es,ez n x)(hfr:0<=lk/\lk.toNat<n)(fs:bV):∃k f ρ,Bfs (j1 n es) es fs to k (bs0 n es.length lk) f/\TI es fs n lk ρ f:=by have hB:∀B∈j1 n es,∀r∈B,cG es.length r:=λB hb=>(Ae n hm B hb).1;obtain⟨k,f,hb⟩:=Mw (fs:=fs) (to:=to) hm Pt (oJ n es) hB _ (bs0 n es.length lk) (Ya _) (My hfr);obtain⟨ρ,hT⟩:=TI.bfs (lk:=lk) hm Pt (oJ n es) hB (K2 hm Pt) hb (My hfr) (bs0_ti hm hfr);grind
structure zqg (es:oN) (lk to:Int) (fs:bV):Prop where
 ok:zoi es fs
 cons:∀w,w≠lk->w≠to->vt es fs w=0
theorem zqg.aug{fs by':bV}{ρ:Nat->Nat}{rs:bV}(h:zqg es lk to fs)(hp:zjT es fs by' lk ρ to rs):zqg es lk to (puR es fs rs):=by obtain⟨_,b,c⟩:=Mx h.ok hp;refine⟨b,λw h1 h2=>?_⟩;rw[c w,if_neg (λe=>h1 e.symm),if_neg (λe=>h2 e.symm),h.cons w h1 h2];rfl
theorem Mz(hm:es.length<=65536)(Pt:∀x∈es,ez n x)(hfr:0<=lk/\lk.toNat<n)(hto:0<=to/\to.toNat<n)(hne:lk≠to):∀(m:Nat) (fs:bV),(SY es-vt es fs lk).toNat<m->zqg es lk to fs -> ∃j g,zog (j1 n es) es n lk to j fs g/\zqg es lk to g.1/\∃k f ρ,Bfs (j1 n es) es g.1 to k (bs0 n es.length lk) f/\TI es g.1 n lk ρ f/\f.1=g.2/\g.2.getD to.toNat 0<0
 |0,fs,h,_=>absurd h (V7 _)
 |m+1,fs,h,hF=>by
  obtain⟨k,f,ρ,hb,hT⟩:=Rv (to:=to) hm Pt hfr fs;by_cases hx:f.1.getD to.toNat 0<0;·exact⟨0,(fs,f.1),.done hb hx,hF,k,f,ρ,hb,hT,rfl,hx⟩
  ·obtain⟨rs,hp⟩:=Hd hm Pt hT _ to (Ya _) hto.1 hto.2 lj;obtain⟨a,b,c⟩:=Mx hF.ok hp;have hle:=Af es (puR es fs rs) lk (λi hi=>⟨b.lo i hi,b.hi i hi⟩);have hc:=c lk;rw[if_pos rfl,if_neg (λe=>hne e.symm)] at hc;obtain⟨j,g,h1,h2⟩:=Mz hm Pt hfr hto hne m (puR es fs rs) lj (hF.aug hp);exact⟨j+1,g,.step hb hx hp.path h1,h2⟩
theorem flow0(hm:es.length<=65536)(h0:∀x∈es,0<=x.most/\x.most<=1073741824):zqg es lk to (Ti es.length 0):=by
 have hg:∀i,(Ti es.length (0:Int)).getD i 0=0:=by intro i;simp only[Th,List.getElem?_replicate];split<;>rfl
 have hx:∀i,i<es.length->es.getD i ⟨0,0,0⟩∈es:=by
  intro i hi;have:es.getD i ⟨0,0,0⟩=es[i]:=by simp[Th,hi]
  rw[this];exact Yv hi
 refine⟨⟨qk,hm,λi _=>mW,λi hi=>mW,λi hi=>(h0 _ (hx i hi)).2⟩,λw _ _=>?_⟩;have:∀(l:oN),vt l (Ti l.length 0) w=0:=by
  intro l;induction l with
  |nil=>rfl
  |cons x l ih=>simp only[Ue,List.replicate_succ,vt,ih];grind
 exact this es
theorem Rw(hm:es.length<=65536)(Pt:∀x∈es,ez n x)(h0:∀x∈es,0<=x.most/\x.most<=1073741824)(hfr:0<=lk/\lk.toNat<n)(hto:0<=to/\to.toNat<n)(hne:lk≠to):∃j g,zog (j1 n es) es n lk to j (Ti es.length 0) g/\zqg es lk to g.1/\∃k f ρ,Bfs (j1 n es) es g.1 to k (bs0 n es.length lk) f/\TI es g.1 n lk ρ f/\f.1=g.2/\g.2.getD to.toNat 0<0 :=Mz hm Pt hfr hto hne _ _ (Ya _) (flow0 hm h0)
end
structure zkv where
 att:Int
 req:Int
 cr:Int
def zkv.row(e:zkv):dO:=[vi e.att,vi e.req,vi e.cr]
def lG(l:List zkv):List (bY):=l.map λe=>[eO e.att,eO e.req,eO e.cr]
theorem vv(l:List zkv)(a b c:Int):lG l++[[eO a,eO b,eO c]]=lG (l++[⟨a,b,c⟩]):=by simp[lG]
theorem K6(l:List zkv):(lG l).length=l.length:=by simp[lG]
theorem vw(f:Ref->D)(l:List zkv):(lG l).map (Tz f)=lG l:=by simp[lG,Tz,Ty]
theorem BT(n:Nat)(l:List zkv):(lG l).all (D.zbk n)=J:=by simp[lG,D.zbk,D.inn]
theorem K7(l:List zkv):lG l=(l.map zkv.row).map (·.map .p):=by simp[lG,zkv.row]
abbrev auH(p:jW)(fl:bV)(ms:Int)(cut:Bv):aT:=[eP p.l,eP [nq,eO 0,nq],eP [eO 0],eP [ab (aA fl)],eP [nq,eO ms,ab (de cut)]]
abbrev zbG:Nat×D:=(zhA 4 1)
abbrev zjk(a:Nat):Nat×D:=(10,gM (qn a 0))
abbrev zbW:Nat×D:=(zjk 4)
abbrev auS(p:jW)(l:iN)(fl:bV)(ms:Int)(cut:Bv)(i:Int):AS:={t:=qm 84 0 [(zeU 1 l),zaU,zbG,zaH,zaV,zbW,(41,ab (zff p)),(42,(zic (zff p))),(43,eO i)],h:=auH p fl ms cut,m:=[]}
abbrev auE(p:jW)(l:iN)(fl:bV)(ms:Int)(cut:Bv):AS:={t:=qm 84 0 [(zeU 1 l),zaU,zbG,zaH,zaV,zbW],h:=auH p fl ms cut,m:=[]}
def auF(ms:Int)(q:E7):Int:=S6.wrap (ms+q.ia)
abbrev ziO(c:bY)(d:Int):aT:=[eP c,eP [nq,eO 0,nq],eP [eO d]]
abbrev zeV(a:jW)(b:Int):aT:=(ziO a.l b)
theorem Rx{p:jW}{l:List uS}{fl:List Int}{cut:List Bool}{ms:Int}{q:E7}{i:Nat}{h0:List ql}(hh:h0.length<=5)(hr:ao (i:Int) (p.reqs.map Ts) q.row 6)(oA:fE ((i:Int)<((p.reqs.map Ts).length:Int))=true)(hw:S6.wrap ((i:Int)+1)=((i+1:Nat):Int)):(CW S5 ji [.var p.l,.var [nq,eO 0,nq],.var [eO 0]] false (sub TS 0) (auS p l fl ms cut i) .normal (auS p l fl (auF ms q) cut ((i+1:Nat):Int))):=by
 exact yX {t:=qm 84 0 [(1,ab (S2 Tb l)),(2,.ref (.ptr 0 0)),(4,.ref (.ptr 1 0)),(5,.ref (.ptr 2 0)),(8,.ref (.ptr 3 0)),(10,.ref (.ptr 4 0)),(41,ab (S2 Ts p.reqs)),(42,eO (↑(S7 (S2 Ts p.reqs)):Int)),(43,eO (S8 S6 ((↑i:Int)+1)))],h:=[.var [am p.nm,eO p.number,eO p.IY,eO p.CE,eO p.num,eO p.den,ab (S2 Ts p.reqs)],.var [nq,eO 0,nq],.var [eO 0],.var [ab (aA fl)],.var [nq,eO (S8 S6 (ms+q.ia)),ab (de cut)]],m:=[]} Tr [.st (.mask [1,2,4,5,8,10,41,42,43]),.st (.trim 5)] [.b oA,.r hr] (by grind) (by(rw[hw]<;>rfl))
theorem Ry{p:jW}{l:iN}{fl:bV}{cut:Bv}{ms:Int}{i:Nat}(oA:fE ((i:Int)<((zff p).length:Int))=N):(CW S5 ji (zeV p 0) N (sub TS 0) (auS p l fl ms cut i) (EY 0) (auE p l fl ms cut)):=yx [E6 (IW [1,2,4,5,8,10])] [.b oA]
theorem au_cw{p:jW}{l:iN}{fl:bV}{cut:Bv}(hn:p.reqs.length<=100):CW S5 ji (zeV p 0) false (.loop (sub TS 0)) (auS p l fl 0 cut 0) (.exit 0) (auE p l fl (p.reqs.foldl auF 0) cut):=by
 have:=UR (P:=S5) (Γ:=ji) (h0:=(zeV p 0)) (rd:=false) (c:=sub TS 0) (σ:=Int) (ρ:=Empty) p.reqs (λq s=>.inl (auF s q))
  (λi s=>auS p l fl s cut (i:Int)) (.exit 0) (λs=>auE p l fl s cut) (λr=>r.elim) (λ_ _=>True) (by simp) (λr=>r.elim) ?_ ?_ 0 trivial
 ·rw[aM] at this;exact this
 ·intro i q s hq _;have hi:=(Td.1 hq).1;exact⟨λ_ _=>trivial,Rx (h0:=[]) (by simp) (rowAt hq rfl) (F1 Ts hi) (sV hi (by omega))⟩
 ·intro s _;exact Ry (aR Ts p.reqs)
structure AuS where
 us:List zkv
 ms:Int
 at_:Int
abbrev apT:bY:=qm 84 0 [zbG,zaH,zaV,zbW,(13,gM (qn 5 0)),(58,.fn (.func 198) [] (zhW 8 7))]
noncomputable abbrev apL(st:LoopState):ql:=Js st Y 0 apT #[59,60] (ax (sub TS 1)) (ak (sub TS 1))
abbrev zdy(a:Nat)(b:Int)(c:Bv):bY:=[gM (.eY 6 a),eO b,ab (de c)]
abbrev zir(a b:bY)(c:bV)(d:bY)(f:Int)(g:ql)(h:bY)(i:ql):aT:=[eP a,eP b,eP [eO 0],eP [ab (aA c)],eP d,eP [eO f],g,eP a,eP h,NH,i]
noncomputable abbrev apH(p:jW)(l:iN)(fl:bV)(cut:Bv)(s:AuS)(e:Nat)(st:LoopState)(more:aT):aT:=(zir p.l [nq,eO 0,nq] fl (zdy e s.ms cut) s.at_ (.eY (lG s.us) e 3) (zc5 l) (apL st))++more
abbrev apU(i k:Int):bY:=qm 84 0 [zbG,zaH,zaV,zbW,(13,gM (qn 5 0)),(14,eO i),(15,eO k)]
def apF(fl:bV)(i k f:Int)(s:AuS):AuS:=match fE (f>0) with
 |true=>⟨s.us++[⟨i,k,f⟩],S6.wrap (s.ms-f),S6.wrap (s.at_+1)⟩
 |false=>⟨s.us,s.ms,S6.wrap (s.at_+1)⟩
noncomputable abbrev zjm(b:jW)(c:iN)(d:bV)(e:Bv)(f:AuS)(g:uS):aT:=apH b c d e f 1 EV (zbD g)
theorem MA{p:jW}{l:iN}{fl:bV}{cut:Bv}{s:AuS}{i k:Int}{a:uS}:(CW S5 ji (zjm p l fl cut s a) J (ax (sub TS 1)) {t:=dD apT [(59,eO i),(60,eO k)],h:=(zjm p l fl cut s a),m:=[]} w8 {t:=apU i k,h:=(zjm p l fl cut s a),m:=[]}):=yx [E6 (IW [4,5,8,10,13,14,15])] []
theorem ap_no{p:jW}{l:iN}{fl:bV}{cut:Bv}{s:AuS}{i k f:Int}{a:uS}(hf:ao s.at_ (aA fl) [vi f] 1)(hg:fE (f>0)=N):(CW S5 ji (zjm p l fl cut s a) J (ak (sub TS 1)) {t:=apU i k,h:=apH p l fl cut s 1 Ρ (zbD a),m:=[]} w8 {t:=qm 84 0 [],h:=apH p l fl cut ⟨s.us,s.ms,S6.wrap (s.at_+1)⟩ 2 Ρ (zbD a),m:=[]}):=yx [E6 (IW []),E6 (.ren 6 2)] [.r hf,.b hg,((by exact vw _ _):S2 (Tz (ar 6 1 2)) (lG s.us)=lG s.us)]
abbrev zaj:bY:=(qm 84 0 [(zhA 4 1),(ziy 5),(zjy 8 3),(zjk 4),(13,gM (qn 5 0)),(58,UL (TM 198) [] (zhW 8 7))])
abbrev zej:ql:=(eP [nq,eO 0,nq])
abbrev zeA:ql:=(eP [eO 0])
theorem ap_yes{p:jW}{l:iN}{fl:bV}{cut:Bv}{s:AuS}{i k f:Int}{a:uS}(hf:ao s.at_ (aA fl) [vi f] 1)(hg:fE (f>0)=J)(hl:s.us.length<=1000000):(CW S5 ji (zjm p l fl cut s a) J (ak (sub TS 1)) {t:=apU i k,h:=apH p l fl cut s 1 Ρ (zbD a),m:=[]} w8 {t:=qm 84 0 [],h:=apH p l fl cut ⟨s.us++[⟨i,k,f⟩],S6.wrap (s.ms-f),S6.wrap (s.at_+1)⟩ 2 Ρ (zbD a),m:=[]}):=by let v0:=S2 Ts p.reqs;let v1:bY:=(zdy 2 (S8 S6 (s.ms-f)) cut);let v2:bY:=(ZL a);exact yX {t:=qm 84 0 [],h:=[eP (ZN p v0),eP [nq,eO 0,nq],eP [eO 0],eP [ab (aA fl)],eP v1,eP [eO (S8 S6 (s.at_+1))],.eY (lG s.us++[[eO i,eO k,eO f]]) 2 3,eP (ZN p v0),eP (zex l),NH,Js TX Y 0 zaj zcV (ax (sub TS 1)) (ak (sub TS 1)),eP v2],m:=[]} Tr (zgm 12) [.r hf,.b hg,((by subst v0 v1 v2;grind [vv,aL,D.one,Up,uO,K6]):(Tq [[eO i,eO k,eO f]] (aL 3)&&uO (S7 (lG s.us)+S7 [[eO i,eO k,eO f]]) 24)=J),bi 12 (eP (ZN p v0)),bi 12 zej,bi 12 zeA,bi 12 (eP [ab (aA fl)]),bi 12 (eP v1),bi 12 (zfm (S8 S6 (s.at_+1))),((by subst v0 v1 v2;(rw[vv];exact BT _ _)):Tl 12 (.eY (lG s.us++[[eO i,eO k,eO f]]) 2 3)=J),bi 12 (eP (ZN p v0)),bi 12 (eP (zex l)),bi 12 NH,bi 12 (Js TX Y 0 zaj zcV (ax (sub TS 1)) (ak (sub TS 1))),bi 12 (eP v2)] (by subst v0 v1 v2;grind) (by subst v0 v1 v2;simp only[vv];rfl)
theorem Rz{p:jW}{l:iN}{fl:bV}{cut:Bv}{s:AuS}{i k f:Int}{a:uS}(hf:ao s.at_ (aA fl) [vi f] 1)(hl:s.us.length<=1000000):Iv S5 ji (gM (.yl 10)) [eO i,eO k] (zjm p l fl cut s a) (eR J) (apH p l fl cut (apF fl i k f s) 2 EV (zbD a)):=by
 unfold apF;cases hg:fE (f>0) with
 |true=>exact Iv.round (h1:=(zjm p l fl cut s a)) rfl rfl MA rfl (ap_yes hf hg hl) rfl
 |false=>exact Iv.round (h1:=(zjm p l fl cut s a)) rfl rfl MA rfl (ap_no hf hg) rfl
noncomputable abbrev a2S(p:jW)(l:iN)(fl:bV)(cut:Bv)(a:uS)(ks:bV)(i:Int)(s:AuS)(j:Int):AS:={t:=qm 30 0 [(0,gM (.yl 10)),(zb9 8),(zda 7),(4,eO i),(zeU 8 l),(9,(zdL l)),(10,eO i),(17,ab (aA ks)),(18,(zic (aA ks))),(19,eO j)],h:=(zjm p l fl cut s a),m:=[]}
noncomputable abbrev a2E(p:jW)(l:iN)(fl:bV)(cut:Bv)(a:uS)(i:Int)(s:AuS):AS:={t:=(zbQ 10 8 7 l i),h:=(zjm p l fl cut s a),m:=[]}
theorem RB{p:jW}{l:List uS}{fl:List Int}{cut:List Bool}{a:uS}{ks:List Int}{s0 s:AuS}{i k f:Int}{j:Nat}(hf:ao s.at_ (aA fl) [vi f] 1)(hk:ao (j:Int) (aA ks) [vi k] 1)(oA:fE ((j:Int)<((aA ks).length:Int))=true)(hw:S6.wrap ((j:Int)+1)=((j+1:Nat):Int))(hl:s.us.length<=1000000):(CW S5 ji (apH p l fl cut s0 0 .ready []) false (sub U9 1) (a2S p l fl cut a ks i s j) .normal (a2S p l fl cut a ks i (apF fl i k f s) ((j+1:Nat):Int))):=by
 exact yX {t:=qm 30 0 [(0,.ref (.yl 10)),(1,.ref (.ptr 8 0)),(2,.ref (.ptr 7 0)),(4,eO i),(8,ab (S2 Tb l)),(9,eO (↑(S7 (S2 Tb l)):Int)),(10,eO i),(17,ab (aA ks)),(18,eO (↑(S7 (aA ks)):Int)),(19,eO (S8 S6 ((↑j:Int)+1)))],h:=[.var [am p.nm,eO p.number,eO p.IY,eO p.CE,eO p.num,eO p.den,ab (S2 Ts p.reqs)],.var [nq,eO 0,nq],.var [eO 0],.var [ab (aA fl)],.var [.ref (.eY 6 1),eO (apF fl i k f s).ms,ab (de cut)],.var [eO (apF fl i k f s).at_],.eY (lG (apF fl i k f s).us) 1 3,.var [am p.nm,eO p.number,eO p.IY,eO p.CE,eO p.num,eO p.den,ab (S2 Ts p.reqs)],.var [ab (S2 Tb l)],.δ,.loop TJ none 0 (qm 84 0 [(4,.ref (.ptr 1 0)),(5,.ref (.ptr 2 0)),(8,.ref (.ptr 3 0)),(10,.ref (.ptr 4 0)),(13,.ref (.ptr 5 0)),(58,UL (TM 198) [] [.ref (.ptr 8 0),.ref (.ptr 7 0)])]) {toList:=[59,60]} (ax (sub TS 1)) (ak (sub TS 1)),.var [eO a.f7,eO a.eF,eO a.CX,eO a.NL,eO a.ia]],m:=[]} Tr [.st (.mask [0,1,2,4,8,9,10,17,18,19]),.st (.ren 6 1)] [.b oA,.r hk,.j (@Rz p l fl cut s i k f a hf hl),((by exact vw _ _):S2 (Tz (ar 6 2 1)) (lG (apF fl i k f s).us)=lG (apF fl i k f s).us),.e] (by grind) (by(rw[hw]<;>rfl))
theorem RC{p:jW}{l:iN}{fl:bV}{cut:Bv}{a:uS}{ks:bV}{s0 s:AuS}{i:Int}{j:Nat}(oA:fE ((j:Int)<((aA ks).length:Int))=N):(CW S5 ji (apH p l fl cut s0 0 EV []) N (sub U9 1) (a2S p l fl cut a ks i s j) (EY 2) (a2E p l fl cut a i s)):=yx [E6 (IW [0,1,2,8,9,10])] [.b oA]
def apG(fl:bV)(i:Int)(s:AuS)(k:Int):AuS:=apF fl i k (fl.getD s.at_.toNat 0) s
theorem MC{fl:bV}{i k:Int}{s:AuS}{c:Nat}(h:s.at_=c)(hc:c<=1000000):(apG fl i s k).at_=((c+1:Nat):Int):=by
 have hw:S6.wrap (s.at_+1)=((c+1:Nat):Int):=by rw[h];exact wrap_i64 lj lj
 grind [apG,apF]
theorem MD{fl:bV}{i k:Int}{s:AuS}:(apG fl i s k).us.length<=s.us.length+1:=by grind [apG,apF]
theorem apGs{fl:bV}{i:Int}:∀(ks:bV) (s:AuS) (c:Nat),s.at_=c->c+ks.length<=1000000->(ks.foldl (apG fl i) s).at_=((c+ks.length:Nat):Int)/\(ks.foldl (apG fl i) s).us.length<=s.us.length+ks.length
 | [],s,c,h,_=>⟨h,qk⟩
 |k::ks,s,c,h,hc=>by simp at hc;obtain⟨a,b⟩:=apGs ks (apG fl i s k) (c+1) (MC h lj) lj;have:=MD (fl:=fl) (i:=i) (k:=k) (s:=s);rw[TG];refine⟨by rw[a,Ue];congr 1;omega,?_⟩;grind
theorem a2_cw{p:jW}{l:iN}{fl:bV}{cut:Bv}{a:uS}{ks:bV}{s0 s:AuS}{i:Int}{c:Nat}(hs:s.at_=c)(hb:c+ks.length<=fl.length)(hfl:fl.length<=100000)(hus:s.us.length<=100000):CW S5 ji (apH p l fl cut s0 0 .ready []) false (.loop (sub U9 1)) (a2S p l fl cut a ks i s 0) (.exit 2) (a2E p l fl cut a i (ks.foldl (apG fl i) s)):=by
 have:=UR (P:=S5) (Γ:=ji) (h0:=apH p l fl cut s0 0 .ready []) (rd:=false) (c:=sub U9 1) (σ:=AuS) (ρ:=Empty) ks (λk s=>.inl (apG fl i s k))
  (λj s=>a2S p l fl cut a ks i s (j:Int)) (.exit 2) (λs=>a2E p l fl cut a i s) (λr=>r.elim) (λj s=>s.at_=((c+j:Nat):Int)/\s.us.length<=100000+j) (by simp) (λr=>r.elim) ?_ ?_ s ⟨by simpa using hs,by omega⟩
 ·rw[aM] at this;exact this
 ·rintro j k s hk ⟨h1,h2⟩;have hi:=(Td.1 hk).1;have hg:fl[c+j]? = some (fl.getD s.at_.toNat 0):=by rw[h1,UD];simp only[Th,List.getElem?_eq_getElem (show c+j<fl.length by omega),Option.getD_some]
  have hf:=rowAt (row:=λn:Int=>[vi n]) (sz:=1) hg rfl;rw[<-h1] at hf;refine⟨λs' h=>?_,RB hf (rowAt (row:=λn:Int=>[vi n]) hk rfl) (F1 (λn:Int=>[vi n]) hi) (sV hi (by omega)) (by omega)⟩;cases h;refine⟨MC h1 (show c+j<=1000000 by omega),?_⟩;have:=MD (fl:=fl) (i:=i) (k:=k) (s:=s);omega
 ·intro s _;exact RC (aR (λn:Int=>[vi n]) ks)
noncomputable abbrev a3S(p:jW)(l:iN)(fl:bV)(cut:Bv)(s:AuS)(i:Int):AS:=(zbL 10 8 7 l i (apH p l fl cut s 1 EV []))
noncomputable abbrev a3E(p:jW)(l:iN)(fl:bV)(cut:Bv)(s:AuS):AS:={t:=qm 30 0 [],h:=apH p l fl cut s 1 EV [],m:=[]}
def a3F(p:jW)(fl:bV)(s:AuS×Int)(a:uS):AuS×Int:=((elR p a).foldl (apG fl s.2) s.1,s.2+1)
noncomputable abbrev Dm(p:jW)(l:iN)(fl:bV)(cut:Bv)(a:uS)(s:AuS):aT:=[eP (ZI p),eP [nq,eO 0,nq],eP [eO 0],eP [ab (aA fl)],eP (zdy 1 s.ms cut),eP [eO s.at_],.eY (lG s.us) 1 3,eP (ZI p),eP (zex l),NH,Js TJ Y 0 zaj zcV (ax (sub TS 1)) (ak (sub TS 1)),eP (ZL a)]
theorem RD{p:jW}{l:List uS}{fl:List Int}{cut:List Bool}{a:uS}{s0 s:AuS}{i c:Nat}(hp:p.ok)(hn:p.reqs.length<=1000)(hr:ao (i:Int) (l.map Tb) a.row 5)(oA:fE ((i:Int)<((l.map Tb).length:Int))=true)(hw:S6.wrap ((i:Int)+1)=((i+1:Nat):Int))
  (hcw:CW S5 ji (apH p l fl cut s0 0 .ready []) false (.loop (sub U9 1)) (a2S p l fl cut a (elR p a) i s 0) (.exit 2) (a2E p l fl cut a i ((elR p a).foldl (apG fl (i:Int)) s))):(CW S5 ji (apH p l fl cut s0 0 .ready []) false (sub U9 0) (a3S p l fl cut s i) .normal (a3S p l fl cut (a3F p fl (s,(i:Int)) a).1 ((i+1:Nat):Int))):=by
 have xd:=(@hcw)
 let v0:=S2 Ts p.reqs
 exact yX {t:=qm 30 0 [(0,.ref (.yl 10)),(1,.ref (.ptr 8 0)),(2,.ref (.ptr 7 0)),(8,ab (S2 Tb l)),(9,eO (↑(S7 (S2 Tb l)):Int)),(10,eO (S8 S6 ((↑i:Int)+1)))],h:=[.var [am p.nm,eO p.number,eO p.IY,eO p.CE,eO p.num,eO p.den,ab v0],.var [nq,eO 0,nq],.var [eO 0],.var [ab (aA fl)],.var [.ref (.eY 6 1),eO (TE (apG fl (↑i:Int)) s (elR p a)).ms,ab (de cut)],.var [eO (TE (apG fl (↑i:Int)) s (elR p a)).at_],.eY (lG (TE (apG fl (↑i:Int)) s (elR p a)).us) 1 3,.var [am p.nm,eO p.number,eO p.IY,eO p.CE,eO p.num,eO p.den,ab v0],.var [ab (S2 Tb l)],.δ,.loop TJ none 0 (qm 84 0 [(4,.ref (.ptr 1 0)),(5,.ref (.ptr 2 0)),(8,.ref (.ptr 3 0)),(10,.ref (.ptr 4 0)),(13,.ref (.ptr 5 0)),(58,UL (TM 198) [] [.ref (.ptr 8 0),.ref (.ptr 7 0)])]) {toList:=[59,60]} (ax (sub TS 1)) (ak (sub TS 1))],m:=[]} Tr [.st (.mask [0,1,2,8,9,10]),.st (.P1 11)] [.b oA,.r hr,.v (@qV p hp hn a (Dm p l fl cut a s)),.s [0,1,2,4,8,9,10,17,18,19] xd,bi 11 (.var [am p.nm,eO p.number,eO p.IY,eO p.CE,eO p.num,eO p.den,ab v0]),bi 11 (.var [nq,eO 0,nq]),bi 11 (.var [eO 0]),bi 11 (.var [ab (aA fl)]),bi 11 (.var [.ref (.eY 6 1),eO (TE (apG fl (↑i:Int)) s (elR p a)).ms,ab (de cut)]),bi 11 (.var [eO (TE (apG fl (↑i:Int)) s (elR p a)).at_]),((by subst v0;exact BT _ _):Tl 11 (.eY (lG (TE (apG fl (↑i:Int)) s (elR p a)).us) 1 3)=true),bi 11 (.var [am p.nm,eO p.number,eO p.IY,eO p.CE,eO p.num,eO p.den,ab v0]),bi 11 (.var [ab (S2 Tb l)]),bi 11 .δ,bi 11 (.loop TJ none 0 (qm 84 0 [(4,.ref (.ptr 1 0)),(5,.ref (.ptr 2 0)),(8,.ref (.ptr 3 0)),(10,.ref (.ptr 4 0)),(13,.ref (.ptr 5 0)),(58,UL (TM 198) [] [.ref (.ptr 8 0),.ref (.ptr 7 0)])]) {toList:=[59,60]} (ax (sub TS 1)) (ak (sub TS 1)))] (by subst v0;grind) (by subst v0;(simp only[a3F,hw];first|done|rfl))
theorem RE{p:jW}{l:iN}{fl:bV}{cut:Bv}{s0 s:AuS}{i:Nat}(oA:fE ((i:Int)<((l.map Tb).length:Int))=N):(CW S5 ji (apH p l fl cut s0 0 EV []) N (sub U9 0) (a3S p l fl cut s i) (EY 0) (a3E p l fl cut s)):=yx zbN [.b oA]
def gh(p:jW)(l:iN):Nat:=(l.map λa=>(elR p a).length).sum
theorem a3_cw{p:jW}(hp:p.ok){l:iN}{fl:bV}{cut:Bv}{s0 s:AuS}{c:Nat}(hn:p.reqs.length<=100)(hl:l.length<=4096)(hs:s.at_=c)(hb:c+gh p l<=fl.length)(hfl:fl.length<=65536)(hus:s.us=[]):CW S5 ji (apH p l fl cut s0 0 .ready []) false (.loop (sub U9 0)) (a3S p l fl cut s 0) (.exit 0) (a3E p l fl cut (l.foldl (a3F p fl) (s,0)).1):=by
 have:=UR (P:=S5) (Γ:=ji) (h0:=apH p l fl cut s0 0 .ready []) (rd:=false) (c:=sub U9 0) (σ:=AuS×Int) (ρ:=Empty) l (λa s=>.inl (a3F p fl s a))
  (λi s=>a3S p l fl cut s.1 (i:Int)) (.exit 0) (λs=>a3E p l fl cut s.1) (λr=>r.elim) (λi s=>s.2=i/\∃c:Nat,s.1.at_=c/\c+gh p (l.drop i)<=fl.length/\s.1.us.length<=c) (by simp) (λr=>r.elim) ?_ ?_ (s,0) ⟨by simp,c,hs,by simpa using hb,by simp[hus]⟩
 ·rw[aM] at this;exact this
 ·rintro i a ⟨s,k⟩ hc ⟨hk,c,h1,h2,h3⟩;simp only at hk h1 h3;subst hk;have hi:=(Td.1 hc).1;have hd:l.drop i=a::l.drop (i+1):=by rw[List.drop_eq_getElem_cons hi];congr 1;exact(Td.1 hc).2
  have h4:gh p (l.drop i)=(elR p a).length+gh p (l.drop (i+1)):=by rw[hd];simp[gh]
  have h5:=vg p a;refine⟨λs' h=>?_,RD (c:=c) hp (by omega) (rowAt hc rfl) (F1 Tb hi) (sV hi (by omega)) (a2_cw (s:=s) h1 (show c+(elR p a).length<=fl.length by omega) (by omega) (show s.us.length<=100000 by omega))⟩;cases h;obtain⟨g1,g2⟩:=apGs (fl:=fl) (i:=(i:Int)) (elR p a) s c h1 (by omega);exact⟨by simp[a3F],c+(elR p a).length,g1,by omega,by grind [a3F]⟩
 ·intro s _;exact RE (aR Tb l)
theorem K8{p:jW}{l:iN}{fl:bV}{cut:Bv}{s0 s:AuS}(hcw:CW S5 ji (apH p l fl cut s0 0 .ready []) false (.loop (sub U9 0)) (a3S p l fl cut s0 0) (.exit 0) (a3E p l fl cut s)):(Ev S5 ji 198 (zdO 10 8 7) (apH p l fl cut s0 0 .ready []) (.Pp []) (apH p l fl cut s 1 .ready [])):=by have xd:=(@hcw);exact Tw (yF (h':=(zir (ZI p) [nq,eO 0,nq] fl (zdy 1 s.ms cut) s.at_ (.eY (lG s.us) 1 3) (zex l) (.loop TJ none 0 zaj zcV (ax (sub TS 1)) (ak (sub TS 1))))) (d:=D.Pp []) [((by exact vw _ _):S2 (Tz (ar 6 0 1)) (lG s0.us)=lG s0.us),.n 1,.o (.ren 6 1),.s [0,1,2,8,9,10] xd]) (by rfl) (by rfl)
abbrev ziu(a:jW)(b:bV)(c:Int)(d:Bv)(e:D)(f:List (bY))(g:iN):aT:=[eP a.l,eP [nq,eO 0,nq],eP [eO 0],eP [ab (aA b)],eP (zdy 0 c d),eP [e],.eY f 0 3,eP a.l,eP (zc5 g)]
noncomputable abbrev apH0(p:jW)(l:iN)(fl:bV)(cut:Bv)(s:AuS):aT:=(ziu p fl s.ms cut (eO s.at_) (lG s.us) l)
theorem RF{p:jW}(hp:p.ok){l:iN}{fl:bV}{cut:Bv}{s:AuS}{c:Nat}{h0:aT}(hn:p.reqs.length<=100)(hl:l.length<=4096)(hs:s.at_=c)(hb:c+gh p l<=fl.length)(hfl:fl.length<=65536)(hus:s.us=[]):CW S5 ji h0 N (sub TS 1) {t:=apT,h:=apH0 p l fl cut s,m:=[]} w8
  {t:=apT,h:=apH p l fl cut (l.foldl (a3F p fl) (s,0)).1 1 zca [],m:=[9]} :=
 CW.rangeFunc (f:=198) (fi:=[]) (ca:=(zhW 8 7)) τ (s:={t:=apT,h:=apH0 p l fl cut s,m:=[]}) (g:=.tmp 58) (ps:=#[59,60]) (asg:=ax (sub TS 1)) (body:=ak (sub TS 1)) rfl Z (K8 (a3_cw hp hn hl hs hb hfl hus)) rfl
theorem gX(h:aT):(Ev S5 ji 42 [eO 0] h (uN []) h):=y0 [.a1 Τ,.e] h
abbrev adT(l:iN):bY:=qm 84 0 [(zeU 1 l),zaU,zbG,zaH]
abbrev adH(p:jW)(e:Int):aT:=(zeV p e)
noncomputable abbrev K9(p:jW)(fl:bV):aT:=[eP (ZI p),eP [nq,eO 0,nq],eP [eO 0],eP [ab (aA fl)]]
noncomputable abbrev vz(p:jW):aT:=(ziO (ZI p) 0)
abbrev zez(a:AuS)(b:Bv):bY:=[ab (a.us.map zkv.row),eO a.ms,ab (de b)]
abbrev zgU(a:iN)(b:jW):AS:={t:=adT a,h:=adH b 0,m:=[]}
theorem ad_ok{p:jW}{l:List uS}{es:List zj}{n ms:Int}{fl:List Int}{cut:List Bool}{s:AuS}
  (zmF:∀h,Ev S5 ji 112 [.agg p.l,ab (l.map Tb)] h (.Pp [eO n,ab (es.map TA),eO 0]) h)
  (zpT:∀h,Ev S5 ji 113 [eO n,ab (es.map TA),eO 0,eO (S6.wrap (n-1))] h (.Pp [ab (aA fl),ab (de cut),eO 0]) h)
  (hl1:CW S5 ji (adH p 0) false (.loop (sub TS 0)) (auS p l fl 0 cut 0) (.exit 0) (auE p l fl ms cut))
  (hrf:CW S5 ji (adH p 0) false (sub TS 1) {t:=apT,h:=[.var p.l,.var [nq,eO 0,nq],.var [eO 0],.var [ab (aA fl)],.var [.ref (.eY 6 0),eO ms,ab (de cut)],.var [eO ((l.map Tb).length:Int)],.eY [] 0 3,.var p.l,.var [ab (l.map Tb)]],m:=[]} .normal {t:=apT,h:=apH p l fl cut s 1 .exhausted [],m:=[9]}):(CW S5 ji (adH p 0) false (cR (cR (al TS))) {t:=adT l,h:=adH p 0,m:=[]} .ret
   {t:=qm 84 0 [(4,.ref (.ptr 1 0)),(5,.ref (.ptr 2 0))],h:=[.var p.l,.var [ab (s.us.map zkv.row),eO s.ms,ab (de cut)],.var [eO 0],.var [ab (aA fl)],.var [ab (s.us.map zkv.row),eO s.ms,ab (de cut)],.var [eO s.at_],.EZ,.var p.l,.var [ab (l.map Tb)],.δ,apL .exhausted],m:=[9]}):=by
 have xd:=(@hl1)
 have hl1:=(@hrf)
 exact yx [.st (.mask [4,5]),.st (.frz 6 (S2 zkv.row s.us))] [.v (@zmF (vz p)),.v (@gX (vz p)),.v (@zpT (vz p)),.v (@gX (K9 p fl)),.s [1,2,4,5,8,10,41,42,43] xd,.n 1,.o (.zhs 4 0 3),.a1 .inl,.s [4,5,8,10,13,58] hl1,((by exact K7 _):lG s.us=S2 (λx=>S2 D.p x) (S2 zkv.row s.us))]
def bW:Code->BY
 |.region _ o _=>o
 |_=>#[]
def BU:Code->Nat
 |.region i _ _=>i
 |_=>0
theorem La:al TS=.seq (.region (BU (cL (al TS))) (bW (cL (al TS))) N) (.seq (.region (BU (cL (cR (al TS)))) (bW (cL (cR (al TS)))) N) (cR (cR (al TS)))):=Z
def zmz:Κ:=λ_ _ _=>Y
theorem lH:zmz.Ok S5 ji:=λ_ _ _ _ h=>by simp[zmz] at h
def Hf(o:oF):Oper:=o.getLastD default
abbrev a0T(p:jW)(l:iN):bY:=qm 84 0 [(0,mS p.l),(zeU 1 l),zaU,zbG,zaH]
abbrev a1T(p:jW)(l:iN):bY:=qm 84 0 [(0,mS p.l),(zeU 1 l),zaU,zbG,zaH,(17,.fn (.func 111) [] zbp)]
theorem qZ{p:jW}{l:iN}{e:Exit}{s':AS}(Ε:CW S5 ji (adH p 0) N (cR (cR (al TS))) (zgU l p) e s'):zfZ S5 ji (al TS) {t:=cO TS (zcz p l),h:=[],m:=[]} e s' (G (111,zbp)):=by rw[La];refine zfZ.seq (s1:={t:=a0T p l,h:=adH p 0,m:=[]}) (λX=>VW.zcR (t':=a0T p l) (h':=adH p 0) (e:=w8) lH Z ⟨rfl,rfl⟩) ?_;exact zfZ.zqc (os:=(bW (cL (cR (al TS)))).toList.dropLast) (o:=Hf (bW (cL (cR (al TS)))).toList) (fv:=.tmp 17) (args:=#[]) (ats:=#[]) (t1:=a1T p l) (h1:=adH p 0) (f:=111) (fi:=[]) (ca:=zbp) τ lH Z Z Z Z rfl Z Z (CW.pre [1,2,4,5] Ε)
theorem Hg:DfF.Ok S5 ji (ff S5 ji noW 100):=(wo τ (W:=noW) (λ_ _ _ _ h=>by simp[noW] at h) 100).2.2.2.2
theorem RG{p:jW}{l:List uS}{es:List zj}{n ms:Int}{fl:List Int}{cut:List Bool}{s:AuS}
  (zmF:∀h,Ev S5 ji 112 [.agg p.l,ab (l.map Tb)] h (.Pp [eO n,ab (es.map TA),eO 0]) h)
  (zpT:∀h,Ev S5 ji 113 [eO n,ab (es.map TA),eO 0,eO (S6.wrap (n-1))] h (.Pp [ab (aA fl),ab (de cut),eO 0]) h)
  (hl1:CW S5 ji (adH p 0) false (.loop (sub TS 0)) (auS p l fl 0 cut 0) (.exit 0) (auE p l fl ms cut))
  (hrf:CW S5 ji (adH p 0) false (sub TS 1) {t:=apT,h:=[.var p.l,.var [nq,eO 0,nq],.var [eO 0],.var [ab (aA fl)],.var [.ref (.eY 6 0),eO ms,ab (de cut)],.var [eO ((l.map Tb).length:Int)],.eY [] 0 3,.var p.l,.var [ab (l.map Tb)]],m:=[]} .normal {t:=apT,h:=apH p l fl cut s 1 .exhausted [],m:=[9]}) (h:List ql) :
  Ev S5 ji 49 [.agg p.l,ab (l.map Tb)] h (.Pp [.agg [ab (s.us.map zkv.row),eO s.ms,ab (de cut)],eO 0]) h:=by
 have h1:=Ze (f:=49) (args:=[.agg p.l,ab (l.map Tb)]) (dfn:=ff S5 ji noW 100) (h:=[]) (r:=.ret (.Pp [.agg [ab (s.us.map zkv.row),eO s.ms,ab (de cut)],eO 0]) []) (fn:=TS) (c:=al TS) τ rfl rfl Hg (qZ (ad_ok zmF zpT hl1 hrf)) (by kernel_rfl)
 exact Ev.zjo rfl h1.call h
abbrev bT:bY:=qm 84 0 [zbG,zaH]
noncomputable abbrev Hh(p:jW):aT:=(ziO (ZI p) 0)
theorem ad_net{p:jW}{l:iN}{es:oN}{n e:Int}(zmF:∀h,Ev S5 ji 112 (zcz p l) h (uN [eO n,(zdR es),eO e]) h):(CW S5 ji (adH p 0) N (cL (cR (cR (al TS)))) (zgU l p) w8 {t:=bT,h:=adH p e,m:=[]}):=yx [E6 (IW [4,5])] [.v (@zmF (Hh p))]
noncomputable abbrev c3:Code:=cL (cR (cR (cR (al TS))))
theorem Hi:cR (cR (al TS))=.seq (cL (cR (cR (al TS)))) (.seq (.region (BU c3) (bW c3) N) (cR (cR (cR (cR (al TS)))))):=Z
noncomputable def ztI:Κ:=pt (pu S5 ji noW 100) (λ_ _ _=>Y)
theorem BW:ztI.Ok S5 ji:=wn τ (wo τ (W:=noW) (λ_ _ _ _ h=>by simp[noW] at h) 100).2.2.1 (λ_ _ _ _ _ h=>by simp at h)
noncomputable def r3R(p:jW)(e:Int):Option (Exit×bY×aT):=bo S5 ji ztI [] (bW c3).toList (bW c3).toList bT (adH p e)
noncomputable def r3(p:jW)(e:Int):Exit×bY×aT:=(r3R p e).getD (w8,[],[])
theorem r3_eq{p:jW}{e:Int}(he:e=150\/e=190\/e=180):r3R p e=G (r3 p e):=by rcases he with rfl|rfl|rfl<;>kernel_rfl
def ME:Exit->Bool
 |.normal=>J
 |_=>N
theorem r3_ne{p:jW}{e:Int}(he:e=150\/e=190\/e=180):(r3 p e).1≠w8:=by
 intro h;have:ME (r3 p e).1=N:=by rcases he with rfl|rfl|rfl<;>kernel_rfl
 rw[h] at this;cases this
abbrev zdd(a:Int):D:=(uN [mS [nq,eO 0,nq],eO a])
theorem r3_end{p:jW}{e:Int}(he:e=150\/e=190\/e=180):pp S5 TS (ff S5 ji noW 100) 0 (r3 p e).1 {t:=(r3 p e).2.1,h:=(r3 p e).2.2,m:=[]} (G (111,zbp))=G (.ret (zdd e) []):=by rcases he with rfl|rfl|rfl<;>kernel_rfl
theorem Hj{p:jW}{l:iN}{es:oN}{n e:Int}(he:e=150\/e=190\/e=180)(zmF:∀h,Ev S5 ji 112 (zcz p l) h (uN [eO n,(zdR es),eO e]) h)(h:aT):Ev S5 ji 49 (zcz p l) h (zdd e) h:=by
 have Ε:CW S5 ji (adH p 0) N (cR (cR (al TS))) (zgU l p) (r3 p e).1 {t:=(r3 p e).2.1,h:=(r3 p e).2.2,m:=[]}:=by rw[Hi];exact CW.seq (ad_net zmF) (CW.out (r3_ne he) (CW.zcR (s:={t:=bT,h:=adH p e,m:=[]}) BW (r3_eq he)))
 have h1:=Ze (f:=49) (args:=(zcz p l)) (dfn:=ff S5 ji noW 100) (h:=[]) (r:=.ret (zdd e) []) (fn:=TS) (c:=al TS) τ rfl rfl Hg (qZ Ε) (r3_end he);exact Ev.zjo rfl h1.call h
structure zle (n:Nat) (x:zj):Prop where
 f0:0<=x.lk
 ft:x.lk<x.to
 tn:x.to<n
 m0:0<=x.most
 m1:x.most<=1073741824
structure υ (p:jW) (l:iN):Prop where
 pe:BD p=0
 ae:eL l=0
 rs:p.reqs.length<=64
 ls:l.length<=50000
theorem bif0{b:Bool}{x:Int}(h:(bif b then x else 0)=0)(hx:x≠0):b=N:=by cases b<;>simp_all
theorem MF:∀(rs:Or),(match xz ckF rs () with | .inl _=>(0:Int) | .inr _=>190)=0->∀q∈rs,GO q=J
 | [],_,_,hq=>by simp at hq
 |q::rs,h,x,hx=>by
  simp only[xz,ckF] at h;cases hq:GO q with
  |false=>rw[hq] at h;simp at h
  |true=>
   rw[hq] at h;simp only[cond_true] at h;rcases T3.1 hx with rfl|hx
   ·exact hq
   ·exact MF rs h x hx
section
variable {p:jW} {l:iN}
theorem υ.req(h:υ p l):1<=p.IY/\p.IY<=4/\∀q∈p.reqs,1<=q.ia/\q.ia<=10000:=by
 have h1:=h.pe;unfold BD at h1;cases hh:Dh p with
 |true=>rw[hh] at h1;simp at h1
 |false=>rw[hh] at h1;simp only[cond_false] at h1;have h2:=MF _ h1;unfold Dh at hh;simp only[Wo,XQ,κ,Tm,decide_eq_true_eq] at hh;refine⟨lj,lj,λq hq=>?_⟩;have h3:=h2 q hq;unfold GO at h3;simp only[κ,Tm,decide_eq_true_eq] at h3;omega
theorem υ.att(h:υ p l):∀a∈l,0<=a.ia/\a.ia<=60:=by have h1:=bif0 h.ae (by decide);intro a ha;have h2:=List.any_eq_false.1 h1 a ha;simp only[Bool.not_eq_true,XQ] at h2;unfold II at h2;simp only[κ,Tm,decide_eq_true_eq] at h2;omega
end
theorem Hk(a:uS):∀(rs:Or) (s:bV×Int) (i:Nat),s.2=i->(∀k∈s.1,0<=k/\k<i)->∀k∈(rs.foldl (elF a) s).1,0<=k/\k<(i+rs.length:Nat)
 | [],s,i,_,h,k,hk=>by simpa using h k hk
 |q::rs,s,i,hi,h,k,hk=>by
  rw[TG] at hk;have:=Hk a rs (elF a s q) (i+1) (by simp[elF,hi]) (λx hx=>by
   unfold elF at hx;cases hb:elB q a with
   |true=>
    rw[hb] at hx;simp only[cond_true,U0,Va] at hx;rcases hx with hx|rfl
    ·have:=h x hx;omega
    ·omega
   |false=>rw[hb] at hx;have:=h x hx;omega) k hk
  simp only[Ue];omega
section
variable {p:jW} {l:iN}
theorem Hl(h:υ p l){n:Nat}(hn:n=2+l.length+p.reqs.length):∀(bs:iN) (s:oN×Int) (i:Nat),s.2=i->i+bs.length=l.length->(∀a∈bs,0<=a.ia/\a.ia<=60)->(∀x∈s.1,zle n x)->∀x∈(bs.foldl (n1F p) s).1,zle n x
 | [],s,i,_,_,_,hs=>hs
 |a::bs,s,i,hi,hl,ha,hs=>by
  rw[TG];simp only[Ue] at hl;have hls:=h.ls;have hrs:=h.rs;obtain⟨u1,u2,_⟩:=h.req;obtain⟨c0,c1⟩:=ha a qk;have hm0:0<=a.ia*p.IY:=Int.mul_nonneg c0 lj;have hm1:a.ia*p.IY<=60*4:=Int.mul_le_mul c1 u2 lj lj;refine Hl h hn bs (n1F p s a) (i+1) (by simp[n1F,hi]) lj (λx hx=>ha x (by simp[hx])) ?_;intro x hx;simp only[n1F,U0,Va] at hx;rcases hx with hx|rfl
  ·exact hs x hx
  ·have e1:S6.wrap (1+s.2)=1+s.2:=wrap_i64 lj lj;have e2:S6.wrap (a.ia*p.IY)=a.ia*p.IY:=wrap_i64 lj lj;refine⟨?_,?_,?_,?_,?_⟩<;>simp only[e1,e2]<;>omega
theorem Hm(h:υ p l):Dk l=1+(l.length:Int):=by have:=h.ls;unfold Dk;rw[Uw];exact wrap_i64 lj lj
theorem Hn(h:υ p l):z8 p l=1+(l.length:Int)+(p.reqs.length:Int):=by have:=h.ls;have:=h.rs;unfold z8;rw[Hm h,Uw];exact wrap_i64 lj lj
theorem Ho(h:υ p l){n:Nat}(hn:n=2+l.length+p.reqs.length){i:Nat}(hi:i<l.length){cr:Int}(c0:0<=cr)(c1:cr<=60):∀(ks:bV) (es:oN),(∀k∈ks,0<=k/\k<p.reqs.length)->(∀x∈es,zle n x)->∀x∈ks.foldl (n2F (Dk l) i cr) es,zle n x
 | [],es,_,hs=>hs
 |k::ks,es,hk,hs=>by
  have hls:=h.ls;have hrs:=h.rs;rw[TG];refine Ho h hn hi c0 c1 ks _ (λx hx=>hk x (by simp[hx])) ?_;intro x hx;simp only[n2F,U0,Va] at hx;rcases hx with hx|rfl
  ·exact hs x hx
  ·obtain⟨k0,k1⟩:=hk k qk;have e1:S6.wrap (1+(i:Int))=1+i:=wrap_i64 lj lj;have e2:S6.wrap (Dk l+k)=1+l.length+k:=by rw[Hm h];exact wrap_i64 lj lj
   refine⟨?_,?_,?_,?_,?_⟩<;>simp only[e1,e2]<;>omega
theorem Hp(h:υ p l){n:Nat}(hn:n=2+l.length+p.reqs.length):∀(bs:iN) (s:oN×Int) (i:Nat),s.2=i->i+bs.length=l.length->(∀a∈bs,0<=a.ia/\a.ia<=60)->(∀x∈s.1,zle n x)->∀x∈(bs.foldl (n3F p (Dk l)) s).1,zle n x
 | [],s,i,_,_,_,hs=>hs
 |a::bs,s,i,hi,hl,ha,hs=>by rw[TG];simp only[Ue] at hl;obtain⟨c0,c1⟩:=ha a qk;refine Hp h hn bs (n3F p (Dk l) s a) (i+1) (by simp[n3F,hi]) lj (λx hx=>ha x (by simp[hx])) ?_;simp only[n3F,hi];exact Ho h hn lj c0 c1 _ _ (λk hk=>by have:=Hk a p.reqs ([],0) 0 rfl qk k hk;simpa using this) hs
theorem Hq(h:υ p l){n:Nat}(hn:n=2+l.length+p.reqs.length):∀(qs:Or) (s:oN×Int) (i:Nat),s.2=i->i+qs.length=p.reqs.length->(∀q∈qs,1<=q.ia/\q.ia<=10000)->(∀x∈s.1,zle n x)->∀x∈(qs.foldl (n4F (Dk l) (z8 p l)) s).1,zle n x
 | [],s,i,_,_,_,hs=>hs
 |q::qs,s,i,hi,hl,hq,hs=>by
  rw[TG];simp only[Ue] at hl;have hls:=h.ls;have hrs:=h.rs;obtain⟨c0,c1⟩:=hq q qk;refine Hq h hn qs (n4F (Dk l) (z8 p l) s q) (i+1) (by simp[n4F,hi]) lj (λx hx=>hq x (by simp[hx])) ?_;intro x hx;simp only[n4F,U0,Va] at hx;rcases hx with hx|rfl
  ·exact hs x hx
  ·have e2:S6.wrap (Dk l+s.2)=1+l.length+s.2:=by rw[Hm h];exact wrap_i64 lj lj
   have e3:=Hn h;refine⟨?_,?_,?_,?_,?_⟩<;>simp only[e2,e3]<;>omega
theorem lI(h:υ p l):∀x∈oG p l,zle (2+l.length+p.reqs.length) x:=by have h1:∀x∈Q3 p l,zle (2+l.length+p.reqs.length) x:=Hl h rfl l ([],0) 0 rfl qk h.att qk;have h2:∀x∈Q4 p l,zle (2+l.length+p.reqs.length) x:=Hp h rfl l (Q3 p l,0) 0 rfl qk h.att h1;exact Hq h rfl p.reqs (Q4 p l,0) 0 rfl qk h.req.2.2 h2
end
abbrev bH(p:jW)(e:Int):aT:=[eP p.l,eP [nq,eO 0,nq],eP [eO e],eP [ab []]]
noncomputable abbrev q9(p:jW):aT:=(ziO (ZI p) 0)
theorem ad_max{p:jW}{l:List uS}{es:List zj}{n e:Int}{x:Exit}{H:List ql}
  (zmF:∀h,Ev S5 ji 112 [.agg p.l,ab (l.map Tb)] h (.Pp [eO n,ab (es.map TA),eO 0]) h)
  (zpT:∀h,Ev S5 ji 113 [eO n,ab (es.map TA),eO 0,eO (S6.wrap (n-1))] h (.Pp [ab [],ab [],eO e]) h)
  (ht:CW S5 ji (adH p 0) false (be (al TS) 5) {t:=bT,h:=bH p e,m:=[]} x {t:=bT,h:=H,m:=[]}):(CW S5 ji (adH p 0) false (cR (cR (al TS))) {t:=adT l,h:=adH p 0,m:=[]} x {t:=bT,h:=H,m:=[]}):=by
 have xd:=(@ht)
 exact yx [] [.v (@zmF (q9 p)),.v (@gX (q9 p)),.v (@zpT (q9 p)),xd,.a1 (.zkB [4,5] x {t:=qm 84 0 [(4,.ref (.ptr 1 0)),(5,.ref (.ptr 2 0))],h:=H})]
theorem CW.maskE{P:Program}{Γ:au}{h0:aT}{rd:Bool}{c:Code}{s s':AS}{e:Exit}(ks:iS)(hw:CW P Γ h0 rd c s e s'):CW P Γ h0 rd c s e (nT ks s'):=by intro X r hn hrd a w hs;refine wpIn_mono (hw X r hn hrd a w hs) ?_;rintro e2 a2 w2 ⟨h2,s2,⟨rfl,rfl⟩,h4⟩;obtain⟨k1,k2⟩:=om ks 0 s2.t;exact⟨h2,_,⟨rfl,rfl⟩,h4.wk k1 k2⟩
theorem CW.preS{P:Program}{Γ:au}{h0:aT}{rd:Bool}{c:Code}{s s1 s':AS}{e:Exit}{φ:tO}(az:Do)(hp:Go.Vi.pre h0 s az=G (s1,[],φ))(hφ:A5 φ)(hw:CW P Γ h0 rd c s1 e s'):CW P Γ h0 rd c s e s':=by intro X r hX hr a w hs;subst hX;exact hw X r rfl hr a w (sw _ _ _ _ _ hp hφ a w hs)
noncomputable abbrev c5:Code:=cL (be (al TS) 5)
theorem Hr:be (al TS) 5=.seq (.region (BU c5) (bW c5) N) (cR (be (al TS) 5)):=Z
noncomputable def r5R(p:jW):Option (Exit×bY×aT):=bo S5 ji ztI [] (bW c5).toList (bW c5).toList bT (adH p 180)
noncomputable def r5(p:jW):Exit×bY×aT:=(r5R p).getD (w8,[],[])
theorem r5_eq{p:jW}:r5R p=G (r5 p):=Z
theorem r5_ne{p:jW}:(r5 p).1≠w8:=by
 intro h;have:ME (r5 p).1=N:=Z
 rw[h] at this;cases this
theorem RH{p:jW}:uc [4,5] 0 (r5 p).2.1=bT:=Z
theorem r5_end{p:jW}:pp S5 TS (ff S5 ji noW 100) 0 (r5 p).1 {t:=bT,h:=(r5 p).2.2,m:=[]} (G (111,zbp))=G (.ret (zdd 180) []):=Z
theorem Hs{p:jW}{l:List uS}{es:List zj}{n:Int}(zmF:∀h,Ev S5 ji 112 [.agg p.l,ab (l.map Tb)] h (.Pp [eO n,ab (es.map TA),eO 0]) h)
  (zpT:∀h,Ev S5 ji 113 [eO n,ab (es.map TA),eO 0,eO (S6.wrap (n-1))] h (.Pp [ab [],ab [],eO 180]) h) (h:List ql) :
  Ev S5 ji 49 [.agg p.l,ab (l.map Tb)] h (.Pp [.agg [nq,eO 0,nq],eO 180]) h:=by
 have ht:CW S5 ji (adH p 0) false (be (al TS) 5) {t:=bT,h:=bH p 180,m:=[]} (r5 p).1 {t:=bT,h:=(r5 p).2.2,m:=[]}:=by
  refine CW.preS [.st (.P1 3)] (s1:={t:=bT,h:=adH p 180,m:=[]}) (by kernel_rfl) (.c (show Tl 3 (.var p.l)=true from rfl) (.c (show Tl 3 (.var [nq,eO 0,nq])=true from rfl) (.c (show Tl 3 (.var [eO 180])=true from rfl) .n))) ?_
  have h0:CW S5 ji (adH p 0) false (be (al TS) 5) {t:=bT,h:=adH p 180,m:=[]} (r5 p).1 {t:=(r5 p).2.1,h:=(r5 p).2.2,m:=[]}:=by
   rw[Hr]
   exact CW.out r5_ne (CW.zcR (s:={t:=bT,h:=adH p 180,m:=[]}) BW r5_eq)
  have h1:=CW.maskE [4,5] h0
  unfold nT at h1
  rw[RH] at h1
  exact h1
 have h1:=Ze (f:=49) (args:=[.agg p.l,ab (l.map Tb)]) (dfn:=ff S5 ji noW 100) (h:=[]) (r:=.ret (.Pp [.agg [nq,eO 0,nq],eO 180]) []) (fn:=TS) (c:=al TS) τ rfl rfl Hg (qZ (ad_max zmF zpT ht)) r5_end
 exact Ev.zjo rfl h1.call h
def xeF(p:zj->Bool)(c:zj)(s:Nat):Nat⊕Nat:=if p c=true then .inr s else .inl (s+1)
abbrev xeS(fs:bv)(f:D)(h:aT)(i:Int):AS:=(zby fs f i h)
abbrev xeX(h:aT):Nat->Exit×AS:=λk=>(.ret,{t:=qm 19 0 [(4,eO (k:Int))],h:=h,m:=[]})
theorem RI{fs:List (List Dp)}{i:Nat}{c:zj}{f:D}{h:List ql}{p:zj->Bool}(hr:ao (i:Int) fs (TA c) 3)(oA:fE ((i:Int)<(fs.length:Int))=true)(hw:S6.wrap ((i:Int)+1)=((i+1:Nat):Int))(hi:Iv S5 ji f [ag (TA c)] h (eR (p c)) h):(CW S5 ji h false (sub Tryz.f327 0) (xeS fs f h i) (ai (λ_=>xeS fs f h ((i+1:Nat):Int)) (xeX h) (xeF p c i)).1 (ai (λ_=>xeS fs f h ((i+1:Nat):Int)) (xeX h) (xeF p c i)).2):=by
 cases sR:p c
 ·refine yX {t:=qm 19 0 [(0,ab fs),(1,f),(4,eO 0),(7,eO (↑(S7 fs):Int)),(8,eO (S8 S6 ((↑i:Int)+1)))],h:=h,m:=[]} Tr [.st (.mask [0,1,4,7,8])] [.b oA,.r hr,.i (@hi),.b sR] ?_ ?_<;>(simp[xeF,ai,hw, *])
 ·refine yX {t:=qm 19 0 [(4,eO (↑i:Int))],h:=h,m:=[]} Exit.ret [.st (.mask [4])] [.b oA,.r hr,.i (@hi),.b sR] ?_ ?_<;>(simp[xeF,ai,hw, *])
theorem RJ{fs:bv}{i:Nat}{f:D}{h:aT}(oA:fE ((i:Int)<(fs.length:Int))=N):(CW S5 ji h N (sub Tryz.f327 0) (xeS fs f h i) (EY 0) (zbt h)):=yx zcg [.b oA]
def xeR(p:zj->Bool)(l:oN):Int:=match xz (xeF p) l 0 with | .inl _=> -1 | .inr k=>(k:Int)
def RK(h:aT)(p:zj->Bool)(l:oN):Exit×AS:=bf (EY 0) (λ_:Nat=>(zbt h)) (xeX h) (xz (xeF p) l 0)
theorem xe_cw{l:oN}(hl:ah l){f:D}{h:aT}{p:zj->Bool}(hf:∀c∈l,Iv S5 ji f [ag (TA c)] h (eR (p c)) h):CW S5 ji h false (.loop (sub Tryz.f327 0)) (xeS (l.map TA) f h 0) (RK h p l).1 (RK h p l).2:=by
 refine UR l (xeF p) (λi _=>xeS (l.map TA) f h (i:Int)) (.exit 0) _ (xeX h) (λi s=>s=i) (by simp) (λ_=>by simp) ?_ ?_ 0 rfl;·intro i c s hc hs;subst hs;have hi:=(Td.1 hc).1;refine⟨λs' h=>?_,RI (rowAt (row:=TA) hc rfl) (F1 TA hi) (sV hi hl) (hf c (List.mem_of_getElem? hc))⟩;grind [xeF]
 ·intro s hs;exact RJ (aR TA l)
theorem xei_ev{l:oN}(hl:ah l){f:D}{h:aT}{p:zj->Bool}(hf:∀c∈l,Iv S5 ji f [ag (TA c)] h (eR (p c)) h):(Ev S5 ji 327 [ab (l.map TA),f] h (eO (xeR p l)) h):=by
 have xd:=(@xe_cw (l) (hl) (f) (h) (p) (hf));unfold RK at xd;revert xd;cases ho1:xz (xeF p) l 0 with
 |inl Fa=>intro xd;exact Tw (yF (h':=h) (d:=eO (-1)) [.s [0,1,4,7,8] xd]) (by simp[xeR,ho1]) (by simp[xeR,ho1])
 |inr Α=>intro xd;exact Tw (yF (h':=h) (d:=(zaS Α)) [.s [0,1,4,7,8] xd]) (by simp[xeR,ho1]) (by simp[xeR,ho1])
theorem xeR_ge(p:zj->Bool)(l:oN):fE (xeR p l>=0)=l.any p:=by
 have key:∀(l:oN) (s:Nat),(match xz (xeF p) l s with | .inl _=>false | .inr _=>true)=l.any p:=by
  intro l;induction l with
  | nil=>intro s;rfl
  | cons c l ih =>
   intro s;simp[xz,xeF];by_cases hp:p c=true;·simp[hp]
   simp_all
 rw[<-key l 0];grind [xeR]
theorem xec_ev{l:oN}(hl:ah l){f:D}{h:aT}{p:zj->Bool}(hf:∀c∈l,Iv S5 ji f [ag (TA c)] h (eR (p c)) h):(Ev S5 ji 310 [ab (l.map TA),f] h (eR (l.any p)) h):=Tw (yF (h':=h) (d:=eR (fE (xeR p l>=0))) [.v (@xei_ev l hl f h p hf)]) (by grind [xeR_ge]) mW
def Ht(n v:Int):Bool:=fE (v>=0)&&fE (v<n)
def nL(n:Int)(x:zj):Bool:=!Ht n x.lk||!Ht n x.to||x.lk==x.to||fE (x.most<0)||fE (x.most>1073741824)
abbrev MG(n:Int):aT:=[eP [eO n],eP [.fn (.func 309) [] za8]]
theorem MH{n v:Int}:(Ev S5 ji 309 [eO v,gM (qn 0 0)] (MG n) (eR (Ht n v)) (MG n)):=Tw (yF (h':=[eP [eO n],eP [UL (TM 309) [] za8]]) (d:=eR (fE (v>=0)&&fE (v<n))) []) Fb Fb
noncomputable abbrev iR(n:Int)(x:zj):aT:=[eP [eO n],eP [UL (TM 309) [] za8],eP (zcF x)]
abbrev zgn(a:Int)(b:zj):D:=eR (!Ht a b.lk||!Ht a b.to||b.lk==b.to||fE (b.most<0)||fE (b.most>1073741824))
theorem edg_ev{n:Int}{x:zj}:(Ev S5 ji 311 [ag x.row,gM (qn 1 0)] (MG n) (eR (nL n x)) (MG n)):=Tw (Ev.post (d2:=(zgn n x)) (h2:=[eP [eO n],eP [UL (TM 309) [] za8]]) (φ:=[]) [E6 (zhZ 2)] (yF (h':=(iR n x)) (d:=(zgn n x)) [.v ((fX [0,1] (@MH n (x.lk)) trivial trivial):Ev S5 ji 309 [eO x.lk,gM (qn 0 0)] (iR n x) (eR (Ht n x.lk)) (iR n x)),.w (!!Ht n x.lk) (fX [0,1] (@MH n (x.to)) trivial trivial:Ev S5 ji 309 [eO x.to,gM (qn 0 0)] (iR n x) (eR (Ht n x.to)) (iR n x))]) Z trivial) Fb Fb
theorem edi_a{n:Int}{l:oN}:∀c∈l,Iv S5 ji (.fn (.func 311) [] zcq) [ag (TA c)] (MG n) (eR (nL n c)) (MG n):=λc _=>Iv.of (f:=311) (fi:=[]) (ca:=zcq) τ rfl Z edg_ev
theorem MI{n:Int}{l:oN}(hl:ah l):Ev S5 ji 310 [ab (l.map TA),.fn (.func 311) [] zcq] (MG n) (eR (l.any (nL n))) (MG n):=xec_ev hl edi_a
def DD(n:Int)(l:oN):Int:=match fE (n<2)||fE (n>4096)||fE (((l.map TA).length:Int)>65536) with
 |true=>180
 |false=>match l.any (nL n) with
  |true=>180
  |false=>0
theorem Hu{n:Int}{l:oN}(hl:ah l)(h:aT):(Ev S5 ji 270 [eO n,ab (l.map TA)] h (eO (DD n l)) h):=by
 cases sR:fE (n<2)||fE (n>4096)||fE ((↑(S7 (S2 TA l)):Int)>65536)
 ·cases Jw:List.any l (nL n);·exact yD (eO 0) [.b sR,.v (@MI n l hl),.b Jw] h (by(simp only[DD,sR,Jw];first|done|rfl))
  ·exact yD (eO 180) [.b sR,.v (@MI n l hl),.b Jw] h (by(simp only[DD,sR,Jw];first|done|rfl))
 ·exact yD (eO 180) [.b sR] h (by(simp only[DD,sR];first|done|rfl))
def rb(n a b:Int):Bool:=fE (a<0)||fE (a>=n)||fE (b<0)||fE (b>=n)||a==b
def MJ(n:Int)(l:oN)(a b:Int):Int:=match DD n l != 0 with
 |true=>DD n l
 |false=>match rb n a b with
  |true=>180
  |false=>0
theorem Hv{n a b:Int}{l:oN}(hl:ah l)(h:aT):(Ev S5 ji 189 [eO n,ab (l.map TA),eO a,eO b] h (eO (MJ n l a b)) h):=by
 cases sR:DD n l != 0
 ·cases Jw:fE (a<0)||fE (a>=n)||fE (b<0)||fE (b>=n)||a==b
  ·exact yD (eO 0) [.v (@Hu n l hl ([])),.b sR,.b Jw] h (by(simp[MJ,rb,sR,Jw];first|done|rfl))
  ·exact yD (eO 180) [.v (@Hu n l hl ([])),.b sR,.b Jw] h (by(simp[MJ,rb,sR,Jw];first|done|rfl))
 ·exact yD (eO (DD n l)) [.v (@Hu n l hl ([])),.b sR] h (by(simp[MJ,sR];first|done|rfl))
theorem zle.inn{n:Nat}{x:zj}(h:zle n x):ez n x:=⟨h.f0,by have:=h.ft;have:=h.tn;omega,by have:=h.f0;have:=h.ft;omega,h.tn⟩
theorem zle.ok{n:Nat}{x:zj}(h:zle n x):nL (n:Int) x=N:=by obtain⟨a,b,c,d,e⟩:=h;unfold nL Ht;simp only[Wo,XQ,Tm,decide_eq_true_eq,decide_eq_false_iff_not,beq_eq_false_iff_ne];omega
theorem Hw{p:jW}{mid:Int}:∀(bs:iN) (s:oN×Int),(bs.foldl (n3F p mid) s).1.length=s.1.length+gh p bs
 | [],s=>by simp[gh]
 |a::bs,s=>by rw[TG,Hw bs];simp only[n3F,BF,gh,U5,List.sum_cons];omega
theorem Hx{mid sink:Int}:∀(qs:Or) (s:oN×Int),(qs.foldl (n4F mid sink) s).1.length=s.1.length+qs.length
 | [],s=>qk
 |q::qs,s=>by rw[TG,Hx qs];simp only[n4F,List.length_append,Ue,List.length_nil];omega
theorem yp(p:jW):∀(bs:iN),gh p bs<=bs.length*p.reqs.length
 | []=>by simp[gh]
 |a::bs=>by have h1:=yp p bs;have h2:=vg p a;simp only[gh,U5,List.sum_cons,Ue,Nat.add_mul,Nat.one_mul] at h1 ⊢;omega
section
variable {p:jW} {l:iN}
theorem re:(oG p l).length=l.length+gh p l+p.reqs.length:=by unfold oG Q4;rw[Hx,Hw,vj]
abbrev nN(p:jW)(l:iN):Nat:=2+l.length+p.reqs.length
theorem υ.size(h:υ p l):(oG p l).length<=3300000:=by have h1:=yp p l;have h2:l.length*p.reqs.length<=50000*64:=Nat.mul_le_mul h.ls h.rs;have h3:=h.ls;have h4:=h.rs;rw[re];omega
theorem υ.sums(h:υ p l):(fp l).2.2=0:=by unfold fp;rw[h.ae];rfl
theorem υ.net(h:υ p l):Mt p l=((nN p l:Int),oG p l,0):=by
 have hN:nN p l=2+l.length+p.reqs.length:=rfl;have h1:=h.ls;have h2:=h.rs;have e:S6.wrap (z8 p l+1)=(nN p l:Int):=by rw[Hn h,wrap_i64 lj lj];omega
 show BG p l (fp l).2.2=_;unfold BG;rw[h.pe,h.sums,e];rfl
structure zmO (p:jW) (l:iN):Prop where
 n:nN p l<=4096
 e:(oG p l).length<=65536
theorem υ.chk(h:υ p l)(hf:zmO p l):MJ (nN p l:Int) (oG p l) 0 ((nN p l:Int)-1)=0:=by
 have hN:nN p l=2+l.length+p.reqs.length:=rfl;have h1:=h.ls;have h2:=h.rs;have h3:=hf.e;have h4:=hf.n;have hb:(oG p l).any (nL (nN p l:Int))=N:=List.any_eq_false.2 λx hx=>by rw[(lI h x hx).ok];simp
 have hc:DD (nN p l:Int) (oG p l)=0:=by
  unfold DD;have:(fE ((nN p l:Int)<2)||fE ((nN p l:Int)>4096)||fE ((((oG p l).map TA).length:Int)>65536))=N:=by simp only[Wo,decide_eq_false_iff_not,Uw];omega
  rw[this,hb]
 unfold MJ;rw[hc];have:rb (nN p l:Int) 0 ((nN p l:Int)-1)=N:=by unfold rb;simp only[Wo,decide_eq_false_iff_not,beq_eq_false_iff_ne];omega
 rw[this];rfl
def auR(p:jW)(l:iN)(fl:bV):AuS:=(l.foldl (a3F p fl) (⟨[],p.reqs.foldl auF 0,((l.map Tb).length:Int)⟩,0)).1
theorem Lb(hp:p.ok)(h:υ p l)(hf:zmO p l){j:Nat}{g:bV×bV}(hR:zog (j1 (nN p l) (oG p l)) (oG p l) (nN p l) 0 ((nN p l:Int)-1) j (Ti (oG p l).length 0) g)(hg:g.1.length=(oG p l).length)(h0:aT):Ev S5 ji 49 (zcz p l) h0 (.Pp [.agg (zez (auR p l g.1) (H2 g.2)),eO 0]) h0:=by
 have h1:=h.ls;have h2:=h.rs;have h3:=hf.e;have h4:=hf.n;have hN:nN p l=2+l.length+p.reqs.length:=rfl;have hw:S6.wrap ((nN p l:Int)-1)=(nN p l:Int)-1:=wrap_i64 (by omega) (by omega);refine RG (n:=(nN p l:Int)) (es:=oG p l) (ms:=p.reqs.foldl auF 0) (fl:=g.1) (cut:=H2 g.2) (s:=auR p l g.1) (λh=>?_) (λh=>?_) (au_cw (by omega)) ?_ h0;·have:=GW hp (l:=l) (by omega) (by omega) h;rw[υ.net ‹υ p l›] at this;exact this
 ·rw[hw];refine Rs (n:=nN p l) (by omega) (by omega) (by omega) (λx hx=>(lI ‹υ p l› x hx).inn) ⟨by omega,by simp;omega⟩ ⟨by omega,by omega⟩ (λh=>?_) hR h;have:=Hv (n:=(nN p l:Int)) (a:=0) (b:=(nN p l:Int)-1) (l:=oG p l) (by unfold ah;omega) h;rw[υ.chk ‹υ p l› hf] at this;exact this
 ·exact RF (s:=⟨[],p.reqs.foldl auF 0,((l.map Tb).length:Int)⟩) (c:=l.length) hp (by omega) (by omega) (by simp) (by rw[hg,re];omega) (by omega) rfl
theorem υ.chk_big(h:υ p l)(hf:¬zmO p l):MJ (nN p l:Int) (oG p l) 0 ((nN p l:Int)-1)=180:=by
 have hb:(fE ((nN p l:Int)<2)||fE ((nN p l:Int)>4096)||fE ((((oG p l).map TA).length:Int)>65536))=J:=by rw[YB,YB,decide_eq_true_eq,decide_eq_true_eq,decide_eq_true_eq,Uw];apply Classical.byContradiction;intro hn;exact hf ⟨lj,lj⟩
 have hc:DD (nN p l:Int) (oG p l)=180:=by unfold DD;rw[hb]
 unfold MJ;rw[hc];rfl
theorem Hy(hp:p.ok)(h:υ p l)(hf:¬zmO p l)(h0:aT):Ev S5 ji 49 (zcz p l) h0 (zdd 180) h0:=by
 have h1:=h.ls;have h2:=h.rs;have hN:nN p l=2+l.length+p.reqs.length:=rfl;have hw:S6.wrap ((nN p l:Int)-1)=(nN p l:Int)-1:=wrap_i64 lj lj;refine Hs (n:=(nN p l:Int)) (es:=oG p l) (λh'=>?_) (λh'=>?_) h0;·have:=GW hp (l:=l) lj lj h';rw[υ.net h] at this;exact this
 ·rw[hw];refine Ro (n:=nN p l) (λh'=>?_) rfl h';have h3:=h.size;have:=Hv (n:=(nN p l:Int)) (a:=0) (b:=(nN p l:Int)-1) (l:=oG p l) (by unfold ah;omega) h';rw[υ.chk_big h hf] at this;exact this
end
abbrev RL:=iF×bV
abbrev eqH(w:eQ)(rs:iF)(l:bV):aT:=[eP w.l,.eY (ad (sU rs)) 0 5,.eY (nuV l) 0 1,qg l]
abbrev zcU:Nat×D:=(8,gM (.eY 2 0))
abbrev ze0:Nat×D:=(9,gM (.eY 1 0))
abbrev zfr:Nat×D:=(4,gM (qn 0 0))
abbrev zfM:Nat×D:=(11,gM (.mp 3))
abbrev zig(a b:Int)(c:bv)(d:D)(e:Nat×D)(f:D):bY:=qm 100 0 [(2,eO a),(3,eO b),zfr,zcU,ze0,(10,ab c),zfM,(12,d),(45,ab c),e,(47,f)]
abbrev eiS(w:eQ)(eF bO:Int)(ns:bv)(rs:iF)(l:bV)(i:Nat)(k:Int):AS :={t:=(zig eF bO ns (eO i) (46,eO ns.length) (eO k)),h:=eqH w rs l,m:=[]}
abbrev eoS(w:eQ)(eF bO:Int)(ns:bv)(rs:iF)(l:bV)(i:Nat):AS :={t:=qm 100 0 [(2,eO eF),(3,eO bO),zfr,zcU,ze0,(10,ab ns),zfM,(12,eO i)],h:=eqH w rs l,m:=[]}
abbrev eoE(w:eQ)(rs:iF)(l:bV):AS :={t:=qm 100 0 [zcU,ze0],h:=eqH w rs l,m:=[]}
def mnI(a b:Int):Int:=if b<a then b else a
def mxI(a b:Int):Int:=if b>a then b else a
def zqD(w:eQ)(eF bO a n:Int):Bool:=(atR 2 (mnI a n) (mxI a n) eF bO w.f).2&&(atR 2 (mnI a n) (mxI a n) eF bO w.f).1==1
def eqN(w:eQ)(eF bO a:Int)(s:RL)(n:Int):RL :=bif s.2.contains n then s else (s.1++[⟨2,mnI a n,mxI a n,eF,S6.wrap (eF+1)⟩],bif zqD w eF bO a n then s.2++[n] else s.2)
theorem lkE{h:aT}{l:bV}{c:Int}(hb:h[3]?=G (qg l)):aw S5 h 190 (zdB 3) (eO c) N=G (eR (l.contains c)):=sK (kt:=3) (et:=4) Z Z Z hb
theorem upE{h:aT}{l:bV}{c:Int}(hb:h[3]?=G (qg l))(hn:l.contains c=N):ay S5 h 190 (zdB 3) (eO c) (eR J)=G (h.set 3 (qg (l++[c]))):=sL (kt:=3) (et:=4) Z Z hb (by simpa using hn)
theorem Hz{h:aT}{l:bV}{i e:Nat}{a:Int}(hb:h[2]?=G (.eY (nuV l) e 1))(ha:l[i]?=G a):aQ S5 h 3 (gM (.vp 2 e (S9 (i:Int)) 0))=G (eO a):=by
 have e1:(nuV l)[S9 (i:Int)]?=G [eO a]:=by simp[ha]
 unfold aQ;simp only[hb,e1,if_true,Xj];rfl
theorem MK{l:bV}{i:Nat}{a:Int}(ha:l[i]?=G a):Ps (i:Int) (nuV l).length=J:=by grind [Ps]
theorem j3(rs:iF)(a b c d e:Int):ad (sU rs)++[[eO a,eO b,eO c,eO d,eO e]]=ad (sU (rs++[⟨a,b,c,d,e⟩])):=by simp[ad,EU.row]
theorem nu_vp{l:bV}{i:Nat}{a:Int}(ha:l[i]?=G a):Ni S5 3 (nuV l) 0 0 (S9 (i:Int)) 0 (eO a):=by
 have e1:(nuV l)[S9 (i:Int)]?=G [eO a]:=by simp[ha]
 unfold Ni;simp only[e1,if_true,Xj];rfl
abbrev ZF(b c d:Int):List (bY):=[[eO 2,(zia N b c),(zia J b c),eO d,(ziq d)]]
noncomputable abbrev ng(w:eQ)(eF:Int)(rs:iF)(l:bV)(a:Int)(n:Int):aT:=[eP (ZA w),.eY (zkd rs (ZF n a eF)) 1 5,.eY (nuV l) 0 1,NI (aW l) (S7 l),eP [eO 2,(ZM n a),(Z0 n a)],.eY (ZF n a eF) 0 5]
theorem RM{w:eQ}(hwf:ah w.f){eF bO:Int}{ns:List (List Dp)}{rs:List EU}{l:List Int}{i k:Nat}{a n:Int}(ha:l[i]? = some a)(hr:ao (k:Int) ns [vi n] 1)(oA:fE ((k:Int)<(ns.length:Int))=true)(hwr:S6.wrap ((k:Int)+1)=((k+1:Nat):Int))(hb:rs.length<=999998000)(hl:l.length<=70000):(CW S5 ji [] false (sub XT 1) (eiS w eF bO ns rs l i k) .normal (eiS w eF bO ns (eqN w eF bO a (rs,l) n).1 (eqN w eF bO a (rs,l) n).2 i ((k+1:Nat):Int))):=by
 let X:=zkd rs (ZF n a eF)
 have j:X=ad (sU (rs++[⟨2,mnI a n,mxI a n,eF,S6.wrap (eF+1)⟩])):=j3 ..
 have q:∀f:Ref->D,S2 (Tz f) X=X:=λf=>by rw[j];exact aB _ _
 have y:Tl 4 (.eY X 0 5)=true:=by rw[j];exact br
 let A:List η:=[.st (.mask [2,3,4,8,9,10,11,12,45,46,47]),.st (.ren 1 0),.st (.ren 2 0),.st (.P1 4)]
 let L:List Stp:=[.b oA,.r hr,lkE (h:=eqH w rs l) (l:=l) (c:=n) rfl,.a1 (.ov 53 (eR (Uv l n)))]
 let c:=bi 4 (.var (TC w))
 let S:=eiS w eF bO ns rs l i (S8 S6 ((k:Int)+1))
 cases sR:Uv l n
 ·let m:Stp:=MK ha
  let z:Stp:=Hz (h:=eqH w rs l) (e:=0) rfl ha
  let p:=pe (.ref (.vp 2 0 (S9 (i:Int)) 0))
  let v:Stp:=nu_vp ha
  let M:List Stp:=L++[.b sR,m,z,m,z,m,p,m,p,v,v,m,p,m,p,v,v,(by simp[aL,D.one,Up,uO];omega:(Tq (ZF n a eF) (aL 5)&&uO (S7 (ad (sU rs))+S7 (ZF n a eF)) 40)=true),.a1 (.ov 57 (eO a)),.a1 (.ov 63 (eO a)),.v (@Cy 2 (mnI a n) (mxI a n) eF bO w.f hwf (ng w eF rs l a n))]
  cases Jw:zqD w eF bO a n
  ·exact yX {S with h:=[.var (TC w),.eY X 0 5,.eY (nuV l) 0 1,qg l]} Tr A (M++[.b Jw,q (ar 1 1 0),qh l (ar 1 1 0),db l (ar 1 1 0),pr (ZF n a eF),qh l (ar 2 0 0),q (ar 2 0 0),db l (ar 2 0 0),pr (ZF n a eF),c,y,qi l 4,dI l 4]) (by grind) (by simp only[eqN,sR,Jw,cond_false,<-hwr];exact congrArg (λz=>{S with h:=[.var (TC w),.eY z 0 5,.eY (nuV l) 0 1,qg l]}) j)
  ·exact yX {S with h:=[.var (TC w),.eY X 0 5,.eY (nuV l++[[eO n]]) 0 1,qg (l++[n])]} Tr A (M++[.b Jw,upE (h:=ng w eF rs l a n) (l:=l) (c:=n) rfl sR,(by grind [fO,j3,aL,D.one,Up,uO]:(Tq [[eO n]] (aL 1)&&uO (S7 (nuV l)+S7 [[eO n]]) 8)=true),q (ar 1 1 0),(by rw[fO];exact qh _ _:S2 (Tz (ar 1 1 0)) (nuV l++[[eO n]])=nuV l++[[eO n]]),db (l++[n]) (ar 1 1 0),pr (ZF n a eF),pr [[eO n]],(by rw[fO];exact qh _ _:S2 (Tz (ar 2 1 0)) (nuV l++[[eO n]])=nuV l++[[eO n]]),q (ar 2 1 0),db (l++[n]) (ar 2 1 0),pr (ZF n a eF),pr [[eO n]],c,y,(by rw[fO];exact qi _ _:Tq (nuV l++[[eO n]]) (D.zbk 4)=true),dI (l++[n]) 4,.a1 (.oh 10089 D.any ((ng w eF rs l a n).set 3 (qg (l++[n]))))]) (by grind) (by simp only[eqN,sR,Jw,cond_true,cond_false,<-hwr,fO];exact congrArg (λz=>{S with h:=[.var (TC w),.eY z 0 5,.eY (nuV (l++[n])) 0 1,qg (l++[n])]}) j)
 ·simp only[eqN,sR,cond_true,<-hwr];exact yx A (L++[.b sR,aB (sU rs) (ar 1 0 0),qh l (ar 1 0 0),db l (ar 1 0 0),qh l (ar 2 0 0),aB (sU rs) (ar 2 0 0),db l (ar 2 0 0),c,br (n:=4) (rs:=sU rs) (e:=0) (sz:=5),qi l 4,dI l 4])
theorem RN{w:eQ}{eF bO:Int}{ns:bv}{rs:iF}{l:bV}{i k:Nat}(oA:fE ((k:Int)<(ns.length:Int))=N):(CW S5 ji [] N (sub XT 1) (eiS w eF bO ns rs l i k) (EY 2) (eoS w eF bO ns rs l i)):=yx [E6 (IW [2,3,4,8,9,10,11,12])] [.b oA]
theorem HA{w:eQ}{eF bO a:Int}(s:RL)(n:Int):(eqN w eF bO a s n).1.length<=s.1.length+1/\s.2.length<=(eqN w eF bO a s n).2.length/\(eqN w eF bO a s n).2.length<=s.2.length+1:=by grind [eqN]
theorem RO{w:eQ}{eF bO a b:Int}{s:RL}{n:Int}{i:Nat}(h:s.2[i]?=G b):(eqN w eF bO a s n).2[i]?=G b:=by grind [eqN]
theorem ei_cw{w:eQ}(hwf:ah w.f){eF bO:Int}{ns:bV}(hn:ns.length<=1000){rs:iF}{l:bV}{i:Nat}{a:Int}(ha:l[i]? = some a)(hb:rs.length<=999990000)(hl:l.length<=60000):CW S5 ji [] false (.loop (sub XT 1)) (eiS w eF bO (zaQ ns) rs l i 0) (.exit 2) (eoS w eF bO (zaQ ns) (ns.foldl (eqN w eF bO a) (rs,l)).1 (ns.foldl (eqN w eF bO a) (rs,l)).2 i):=by
 have hs:ah ns:=by unfold ah;omega
 have:=UR (P:=S5) (Γ:=ji) (h0:=[]) (rd:=false) (c:=sub XT 1) (σ:=RL) (ρ:=Empty) ns (λn s=>.inl (eqN w eF bO a s n))
  (λk s=>eiS w eF bO (zaQ ns) s.1 s.2 i (k:Int)) (.exit 2) (λs=>eoS w eF bO (zaQ ns) s.1 s.2 i) (λr=>r.elim)
  (λk s=>s.2[i]? = some a/\s.1.length<=rs.length+k/\s.2.length<=l.length+k) (by simp) (λr=>r.elim) ?_ ?_ (rs,l) ⟨ha,by simp,by simp⟩
 ·rw[aM] at this;exact this
 ·intro k n s hnk hs';have hi:=(Td.1 hnk).1;refine⟨λs' h=>by cases h;have:=HA (w:=w) (eF:=eF) (bO:=bO) (a:=a) s n;exact⟨RO hs'.1,by omega,by omega⟩,RM hwf hs'.1 (rowAt (row:=λn=>[vi n]) hnk rfl) (F1 (λn=>[vi n]) hi) (sV hi hs) (by omega) (by omega)⟩
 ·intro s _;exact RN (aR (λn=>[vi n]) ns)
def zjM(w:eQ)(eF bO:Int)(ns:bV)(a:Int)(s:RL):RL:=ns.foldl (eqN w eF bO a) s
theorem RP{w:eQ}(hwf:ah w.f){eF bO:Int}{ns:List Int}(hn:ns.length<=1000){rs:List EU}{l:List Int}{i:Nat}{a:Int}(ha:l[i]? = some a)(hwr:S6.wrap ((i:Int)+1)=((i+1:Nat):Int))(oA:fE ((i:Int)<((nuV l).length:Int))=true)(hb:rs.length<=999990000)(hl:l.length<=60000):(CW S5 ji [] false (sub XT 0) (eoS w eF bO (ns.map λn=>[vi n]) rs l i) .normal (eoS w eF bO (ns.map λn=>[vi n]) (zjM w eF bO ns a (rs,l)).1 (zjM w eF bO ns a (rs,l)).2 (i+1))):=by
 have xd:=(@ei_cw (w) (hwf) (eF) (bO) (ns) (hn) (rs) (l) (i) (a) (ha) (hb) (hl))
 exact yX {t:=qm 100 0 [(2,eO eF),(3,eO bO),(4,.ref (.ptr 0 0)),(8,.ref (.eY 2 0)),(9,.ref (.eY 1 0)),(10,ab (S2 (λn=>[vi n]) ns)),(11,.ref (.mp 3)),(12,eO (S8 S6 ((↑i:Int)+1)))],h:=[.var [ab (S2 Tc w.c),ab w.p,ab (S2 Tj w.s),ab (S2 Ta w.f)],.eY (ad (sU (TE (eqN w eF bO a) (rs,l) ns).fst)) 0 5,.eY (nuV (TE (eqN w eF bO a) (rs,l) ns).2) 0 1,.map (aW (TE (eqN w eF bO a) (rs,l) ns).2) (S7 (TE (eqN w eF bO a) (rs,l) ns).2)],m:=[]} Tr [.st (.mask [2,3,4,8,9,10,11,12])] [.b oA,.s [2,3,4,8,9,10,11,12,45,46,47] xd] (by grind) (by(simp only[hwr];rfl))
theorem RQ{w:eQ}{eF bO:Int}{ns:bv}{rs:iF}{l:bV}{i:Nat}(oA:fE ((i:Int)<((nuV l).length:Int))=N):(CW S5 ji [] N (sub XT 0) (eoS w eF bO ns rs l i) (EY 0) (eoE w rs l)):=yx [E6 (IW [8,9])] [.b oA]
end Go.Vi
