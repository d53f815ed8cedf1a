/- A part of the proof; no conditions of its own. -/
import Derived.Test.YtgalafpinkflfaaGreatDoorW6
open Decidable renaming decide -> Zd
open List renaming mem_append -> Oz, mem_singleton -> Pm, getD -> MT, getElem_mem -> RZ, mem_cons_self -> OU, getD_cons_zero -> Rc, mem_cons -> ND, replicate -> MU, length_cons -> N3, map -> ML, length -> MO, getElem?_eq_some_iff -> MR, all -> NH, foldl_cons -> NI, foldl -> Nx, length_map -> N7, map_cons -> Pr, drop_zero -> RM, contains -> N4, drop -> Od
open Nat renaming not_lt_zero -> PG, lt_succ_self -> RG
open Int renaming toNat_natCast -> Oc, toNat -> MP
open Go.Vi.D renaming U7 -> Nm, Tz -> NA, fn -> Ot
open Go.Vi.tO renaming row -> MQ
open Go.Vi.T2 renaming row -> M5
open Go.IntKind renaming i64 -> MM, wrap -> MN
open Go.Proofs.Tryz renaming prog -> MK, f49 -> Nq, f198 -> OI, f45 -> Rs
open Go.Exit renaming normal -> M8
open Go.Vi.CW renaming each -> OS
open Go.LoopState renaming busy -> Nu, ready -> Np
open Go.Fn renaming func -> Nl
open Go.Value renaming oneCell' -> OM
open Go.Vi.iN renaming UV -> MZ
open Go.Vi.Ev renaming WB -> Na, YI -> SA
open Go.Vi.By renaming row -> Nc
open Go.Vi.VN renaming ZL -> SS
open Bool renaming or_eq_false_iff -> PW, not_eq_false' -> Ro, and_eq_true -> M3, or_eq_true -> Sb
open Go.Vi.IS renaming row -> MX
open Go.Vi.TK renaming row -> M4
open Go.Vi.If renaming row -> MY
open Go.Vi.iS renaming l -> Nz
open Go Go.Proofs
namespace Go.Vi
set_option maxRecDepth 100000
set_option maxHeartbeats 4000000
theorem fj{l:List Int}{u w:Nat}{r d:Int}:(l.set u r).getD w d=if u=w/\u<l.length then r else l.getD w d:=by
 grind
theorem Gn{to r u:Int}{s:List Int×QF}{w:Nat}(h:0<=s.1.getD w 0):(Ae (Y3 to r u s)).1.getD w 0=s.1.getD w 0:=by
 have key:s.1.getD u.toNat 0<0->(s.1.set u.toNat r).getD w 0=s.1.getD w 0:=by
  intro hx
  rw[fj,if_neg]
  rintro⟨rfl,_⟩
  omega
 unfold Y3
 cases hg:Zd (s.1.getD u.toNat 0>=0) with
 | true=>rfl
 | false =>
  have hx:s.1.getD u.toNat 0<0:=by simpa using hg
  cases u==to with
  | true=>exact key hx
  | false=>exact key hx
theorem Gp{es:List By}{fs:List Int}{to r:Int}{s:List Int×QF}{w:Nat}(h:0<=s.1.getD w 0):(Ae (X0 es fs to r s)).1.getD w 0=s.1.getD w 0:=by
 unfold X0
 cases Zd (Vx es fs r>0) with
 | true=>exact Gn h
 | false=>rfl
structure TI (es:List By) (fs:List Int) (n:Nat) (Do:Int) (ρ:Nat->Nat) (s:List Int×QF):Prop where
 len:s.1.length=n
 src:0<=s.1.getD Do.toNat 0
 q:∀v∈s.2.list,0<=s.1.getD v.toNat 0
 t:∀v:Nat,v<n->0<=s.1.getD v 0->(v:Int)≠Do->cg es.length (s.1.getD v 0)/\0<Vx es fs (s.1.getD v 0)/\fW es (s.1.getD v 0)=(v:Int)/\0<=s.1.getD (fW es (xr (s.1.getD v 0))).toNat 0/\ρ (fW es (xr (s.1.getD v 0))).toNat<ρ v
section
variable {es:List By} {fs:List Int} {n:Nat} {Do to:Int} {ρ:Nat->Nat} {s:List Int×QF}
theorem TI.set(h:TI es fs n Do ρ s){v:Nat}(hv:v<n)(hm:0<=s.1.getD v 0){r u:Int}(hr:cg es.length r)(hc:0<Vx es fs r)(ho:fW es (xr r)=(v:Int))(hu:fW es r=u)(h0:0<=u)(hun:u.toNat<n)(hx:s.1.getD u.toNat 0<0){q:QF}
  (hq:∀w∈q.list,w=u\/w∈s.2.list):TI es fs n Do (λw=>if w=u.toNat then ρ v+1 else ρ w) (s.1.set u.toNat r,q):=by
 have IN:u.toNat<s.1.length:=by rw[h.len];exact hun
 have hs:(s.1.set u.toNat r).getD u.toNat 0=r:=by rw[fj,if_pos ⟨rfl,IN⟩]
 have hk:∀w,w≠u.toNat->(s.1.set u.toNat r).getD w 0=s.1.getD w 0:=λw hw=>by grind
 have Xq:∀w,0<=s.1.getD w 0->(s.1.set u.toNat r).getD w 0=s.1.getD w 0:=λw hw=>hk w (by grind)
 refine⟨by simpa using h.len,?_,?_,?_⟩
 ·simp only;rw[Xq _ h.src];exact h.src
 ·intro w hw
  simp only
  rcases hq w hw with rfl|hw
  ·rw[hs];exact hr.1
  ·rw[Xq _ (h.q w hw)];exact h.q w hw
 ·intro w hw hwm hwf
  simp only at hwm ⊢
  by_cases he:w=u.toNat
  ·subst he
   rw[hs]
   have hvu:v≠u.toNat:=by rintro rfl;omega
   grind
  ·rw[hk w he] at hwm ⊢
   obtain⟨t1,t2,t3,t4,t5⟩:=h.t w hw hwm hwf
   grind
theorem TI.X0(hm:es.length<=65536)(TZ:∀x∈es,dQ n x)(h:TI es fs n Do ρ s){v:Nat}(hv:v<n)(Xq:0<=s.1.getD v 0){r:Int}(hr:cg es.length r)(ho:fW es (xr r)=(v:Int)):∃ρ',TI es fs n Do ρ' (Ae (X0 es fs to r s)):=by
 unfold Vi.X0
 cases hc:Zd (Vx es fs r>0) with
 | false=>exact⟨ρ,h⟩
 | true =>
  have WU:0<Vx es fs r:=by simpa using hc
  obtain⟨e0,e1⟩:=oD hr (by omega) TZ
  show ∃ρ',TI es fs n Do ρ' (Ae (Y3 to r (fW es r) s))
  unfold Y3
  cases hg:Zd (s.1.getD (fW es r).toNat 0>=0) with
  | true=>exact⟨ρ,h⟩
  | false =>
   have hx:s.1.getD (fW es r).toNat 0<0:=by simpa using hg
   cases fW es r==to with
   | true=>exact⟨_,h.set hv Xq hr WU ho rfl e0 e1 hx (λw hw=>.inr hw)⟩
   | false =>
    refine⟨_,h.set hv Xq hr WU ho rfl e0 e1 hx (λw hw=>?_)⟩
    grind[QF.push,QF.list,Pm]
theorem TI.Tq(hm:es.length<=65536)(TZ:∀x∈es,dQ n x){v:Nat}(hv:v<n):∀(B:List Int) (ρ:Nat->Nat) (s:List Int×QF),(∀r∈B,cg es.length r/\fW es (xr r)=(v:Int))->TI es fs n Do ρ s->0<=s.1.getD v 0->∃ρ',TI es fs n Do ρ' (Ae (Tq (Vi.X0 es fs to) B s))
 | [],ρ,s,_,h,_=>⟨ρ,h⟩
 | r::B,ρ,s,hB,h,Xq=>by
  obtain⟨hr,ho⟩:=hB r (by simp)
  obtain⟨ρ1,h1⟩:=h.X0 (to:=to) hm TZ hv Xq hr ho
  have hk:=Gp (es:=es) (fs:=fs) (to:=to) (r:=r) Xq
  simp[Vi.Tq]
  cases hg:Vi.X0 es fs to r s with
  | inr s1=>grind
  | inl s1 =>
   rw[hg] at h1 hk
   exact TI.Tq hm TZ hv B ρ1 s1 (λx hx=>hB x (by simp[hx])) h1 (by simp only[Ae] at hk;grind)
theorem TI.bfs(hm:es.length<=65536)(TZ:∀x∈es,dQ n x){UT:List (List Int)}(ha:UT.length=n)(hB:∀B∈UT,∀r∈B,cg es.length r)(hA:ς es UT){k:Nat}{s f:List Int×QF}(hb:Zz UT es fs to k s f):
  ∀{ρ:Nat->Nat},XX n s->TI es fs n Do ρ s->∃ρ',TI es fs n Do ρ' f:=by
 have key:∀{s:List Int×QF} {v:Int} {rest:List Int},XX n s->s.2.list=v::rest->v.toNat<n/\(∀r∈UT.getD v.toNat [],cg es.length r/\fW es (xr r)=(v.toNat:Int)):=by
  intro s v rest hs hl
  obtain⟨v0,v1⟩:=hs.mem v (by rw[hl];simp)
  refine⟨v1,λr hr=>⟨?_,hA v.toNat r hr⟩⟩
  have:UT.getD v.toNat []=UT[v.toNat]'(by omega):=by simp[MT,ha,v1]
  rw[this] at hr
  exact hB _ (RZ _) r hr
 have pop:∀{s:List Int×QF} {v:Int} {rest:List Int} {ρ:Nat->Nat},s.2.list=v::rest->TI es fs n Do ρ s->TI es fs n Do ρ (s.1,s.2.pop):=by
  intro s v rest ρ hl h
  exact⟨h.len,h.src,λw hw=>h.q w (by rw[QF.XI hl] at hw;grind),h.t⟩
 induction hb with
 | done _=>grind
 | stop hl hf =>
  intro ρ hs h
  obtain⟨k1,k2⟩:=key hs hl
  have Xy:=h.q _ (by rw[hl];exact OU)
  obtain⟨ρ',h'⟩:=TI.Tq (to:=to) hm TZ k1 _ ρ _ k2 (pop hl h) Xy
  rw[hf] at h'
  exact⟨ρ',h'⟩
 | step hl hf _ ih =>
  intro ρ hs h
  obtain⟨k1,k2⟩:=key hs hl
  have Xy:=h.q _ (by rw[hl];exact OU)
  obtain⟨ρ',h'⟩:=TI.Tq (to:=to) hm TZ k1 _ ρ _ k2 (pop hl h) Xy
  rw[hf] at h'
  exact ih (XX.Tq hm TZ _ _ _ (λr hr=>(k2 r hr).1) (hs.pop hl) hf) h'
end
inductive VO (es:List By) (fs by':List Int) (Do:Int) (ρ:Nat->Nat):Int->List Int->Prop
 | nil:VO es fs by' Do ρ Do []
 | cons {v r rs}:v≠Do->0<=v->by'[v.toNat]? = some r->cg es.length r->0<Vx es fs r->fW es r=v->ρ (fW es (xr r)).toNat<ρ v.toNat->VO es fs by' Do ρ (fW es (xr r)) rs->VO es fs by' Do ρ v (r::rs)
theorem VO.path{es:List By}{fs by':List Int}{Do:Int}{ρ:Nat->Nat}{v:Int}{rs:List Int}(h:VO es fs by' Do ρ v rs):Path es by' Do v rs:=by
 induction h with
 | nil=>exact .nil
 | cons h1 h2 h3 h4 _ _ _ _ ih=>exact .cons h1 h2 h3 h4 ih
theorem C2{es:List By}{fs:List Int}{n:Nat}{Do:Int}{ρ:Nat->Nat}{s:List Int×QF}(hm:es.length<=65536)(TZ:∀x∈es,dQ n x)(h:TI es fs n Do ρ s):∀(m:Nat) (v:Int),ρ v.toNat<m->0<=v->v.toNat<n->0<=s.1.getD v.toNat 0->∃rs,VO es fs s.1 Do ρ v rs
 | 0,v,h,_,_,_=>absurd h (PG _)
 | m+1,v,hρ,v0,v1,Xq=>by
  by_cases hv:v=Do
  ·subst hv;exact⟨[],.nil⟩
  ·obtain⟨t1,t2,t3,t4,t5⟩:=h.t v.toNat v1 Xq (by omega)
   have hx:=Lg t1 (by omega)
   obtain⟨e0,e1⟩:=oD hx (by omega) TZ
   obtain⟨rs,hp⟩:=C2 hm TZ h m (fW es (xr (s.1.getD v.toNat 0))) (by omega) e0 e1 t4
   have hg:s.1[v.toNat]? = some (s.1.getD v.toNat 0):=by simp[MT,h.len,v1]
   exact⟨_,.cons hv v0 hg t1 t2 (by rw[t3];omega) t5 hp⟩
def so:List By->List Int->Int->Int
 | x::es,f::fs,w=>(if x.Do=w then f else 0)-(if x.to=w then f else 0)+so es fs w
 | _,_,_=>0
theorem sq:∀(es:List By) (fs:List Int) (i:Nat) (d w:Int),fs.length=es.length->i<es.length ->
  so es (fs.set i (fs.getD i 0+d)) w=so es fs w+((if (es.getD i ⟨0,0,0⟩).Do=w then d else 0)-(if (es.getD i ⟨0,0,0⟩).to=w then d else 0))
 | [],_,i,_,_,_,hi=>absurd hi (PG _)
 | x::es,[],_,_,_,hl,_=>by simp at hl
 | x::es,f::fs,0,d,w,_,_=>by
  grind[Rc,so]
 | x::es,f::fs,i+1,d,w,hl,hi=>by
  simp only[List.set_cons_succ,List.getD_cons_succ,so]
  rw[sq es fs i d w (by simpa using hl) (by simpa using hi)]
  omega
theorem C3{es:List By}{fs:List Int}:∀(rs:List Int) (l0:Int),0<l0->(∀r∈rs,0<Vx es fs r)->0<rs.foldl (lsF es fs) l0/\rs.foldl (lsF es fs) l0<=l0/\∀r∈rs,rs.foldl (lsF es fs) l0<=Vx es fs r
 | [],l0,h,_=>⟨h,Int.le_refl _,by simp⟩
 | r::rs,l0,h,hc=>by
  have hr:=hc r (by simp)
  have h1:0<lsF es fs l0 r/\lsF es fs l0 r<=l0/\lsF es fs l0 r<=Vx es fs r:=by
   unfold lsF dmnI
   split<;>omega
  obtain⟨a,b,c⟩:=C3 rs (lsF es fs l0 r) h1.1 (λx hx=>hc x (by simp[hx]))
  grind
section
variable {es:List By} {fs by':List Int} {Do:Int} {ρ:Nat->Nat}
theorem VO.rank{v:Int}{rs:List Int}(h:VO es fs by' Do ρ v rs):∀r∈rs,cg es.length r/\0<Vx es fs r/\ρ (fW es r).toNat<=ρ v.toNat/\ρ (fW es (xr r)).toNat<ρ (fW es r).toNat:=by
 induction h with
 | nil=>simp
 | cons h1 h2 h3 h4 h5 h6 h7 _ ih =>
  intro r hr
  rcases ND.1 hr with rfl|hr
  ·grind
  grind
theorem VO.dist(hm:es.length<=65536){v r:Int}{rs:List Int}(h:VO es fs by' Do ρ v (r::rs)):∀x∈rs,Zs x≠Zs r:=by
 cases h with
 | cons h1 h2 h3 h4 h5 h6 h7 h8 =>
  intro x hx e
  obtain⟨a,_,c,d⟩:=h8.rank x hx
  obtain⟨i,hi,ri⟩:=oG h4
  obtain⟨j,hj,rj⟩:=oG a
  have hij:i=j:=by
   rcases ri with rfl|rfl<;>rcases rj with rfl|rfl
   ·rw[ix0 (by omega),ix0 (by omega)] at e;omega
   ·rw[ix0 (by omega),ix1 (by omega)] at e;omega
   ·rw[ix1 (by omega),ix0 (by omega)] at e;omega
   ·rw[ix1 (by omega),ix1 (by omega)] at e;omega
  subst hij
  rcases ri with rfl|rfl<;>rcases rj with rfl|rfl
  ·grind
  ·rw[xr0 hi (by omega)] at h7 c
   rw[xr1 hi (by omega),h6] at d
   omega
  ·rw[xr1 hi (by omega)] at h7 c
   rw[xr0 hi (by omega),h6] at d
   omega
  grind
theorem Gq{gs:List Int}(h:YQ es gs){r least:Int}(hr:cg es.length r)(hl:0<least)(hc:least<=Vx es gs r):
  YQ es (YS least gs r)/\∀w,so es (YS least gs r) w=so es gs w+((if fW es (xr r)=w then least else 0)-(if fW es r=w then least else 0)):=by
 have hs:=h.sz
 obtain⟨i,hi,hri⟩:=oG hr
 have h1:=h.lo i hi
 have h2:=h.hi i hi
 have h3:=h.most i hi
 have hlen:=h.len
 have key:∀d:Int,0<=gs.getD i 0+d->gs.getD i 0+d<=(es.getD i ⟨0,0,0⟩).most->YQ es (gs.set i (gs.getD i 0+d)):=by
  intro d d0 d1
  refine⟨by grind,hs,?_,?_,h.most⟩
  ·intro j hj
   rw[fj]
   split
   ·exact d0
   ·exact h.lo j hj
  ·intro j hj
   rw[fj]
   split
   ·grind
   ·exact h.hi j hj
 rcases hri with rfl|rfl
 ·rw[cap0 h hi] at hc
  have e:YS least gs (2*(i:Int))=gs.set i (gs.getD i 0+least):=by
   unfold YS fA jR
   rw[ix0 (by omega),Oc,tn0]
   simp only
   rw[wrap_i64 (by omega) (by omega)]
  rw[e]
  refine⟨key least (by omega) (by omega),λw=>?_⟩
  rw[sq es gs i least w hlen hi,xr0 hi (by omega),end0 (by omega),end1 (by omega)]
 ·rw[cap1 (by omega)] at hc
  have e:YS least gs (2*(i:Int)+1)=gs.set i (gs.getD i 0+(-least)):=by
   unfold YS fA jR
   rw[ix1 (by omega),Oc,tn1]
   simp only
   rw[wrap_i64 (n:=0-least) (by omega) (by omega),wrap_i64 (by omega) (by omega)]
   congr 1;omega
  rw[e]
  refine⟨key (-least) (by omega) (by omega),λw=>?_⟩
  rw[sq es gs i (-least) w hlen hi,xr1 hi (by omega),end0 (by omega),end1 (by omega)]
  grind
theorem fA_pu{gs:List Int}{least r x:Int}(hr:cg es.length r)(hx:cg es.length x)(hm:es.length<=65536)(UQ:Zs x≠Zs r):fA (YS least gs r) x=fA gs x:=by
 unfold fA YS
 rw[fj,if_neg]
 rintro⟨e,_⟩
 have h1:=(jT hr (by omega)).1
 have h2:=(jT hx (by omega)).1
 grind
theorem Lp{gs:List Int}{x:Int}(h:fA gs x=fA fs x):Vx es gs x=Vx es fs x:=by unfold Vx;rw[h]
theorem uU(least:Int)(hl:0<least):∀(rs:List Int) (v:Int) (gs:List Int),VO es fs by' Do ρ v rs->YQ es gs->(∀r∈rs,fA gs r=fA fs r)->(∀r∈rs,least<=Vx es fs r) ->
  YQ es (rs.foldl (YS least) gs)/\∀w,so es (rs.foldl (YS least) gs) w=so es gs w+((if Do=w then least else 0)-(if v=w then least else 0))
 | [],v,gs,hp,h,_,_=>by
  cases hp
  grind
 | r::rs,v,gs,hp,h,hf,hc=>by
  have hd:=hp.dist h.sz
  have hk:=hp.rank
  cases hp with
  | cons h1 h2 h3 h4 h5 h6 h7 h8 =>
   obtain⟨a,b⟩:=Gq h h4 hl (by rw[Lp (hf r (by simp))];grind)
   obtain⟨c,d⟩:=uU least hl rs _ (YS least gs r) h8 a (λx hx=>by
    rw[fA_pu h4 (hk x (by simp[hx])).1 h.sz (hd x hx)];grind) (λx hx=>hc x (by simp[hx]))
   grind
theorem HM(h:YQ es fs){v:Int}{rs:List Int}(hp:VO es fs by' Do ρ v rs):0<lsR es fs rs/\YQ es (puR es fs rs)/\∀w,so es (puR es fs rs) w=so es fs w+((if Do=w then lsR es fs rs else 0)-(if v=w then lsR es fs rs else 0)):=by
 obtain⟨a,_,c⟩:=C3 (es:=es) (fs:=fs) rs 1073741824 (by omega) (λr hr=>(hp.rank r hr).2.1)
 exact⟨a,uU _ a rs v fs hp h (λ_ _=>rfl) c⟩
end
def MI:List By->Int
 | []=>0
 | x::es=>x.most+MI es
theorem wJ:∀(es:List By) (fs:List Int) (w:Int),(∀i,i<es.length->0<=fs.getD i 0/\fs.getD i 0<=(es.getD i ⟨0,0,0⟩).most)->so es fs w<=MI es
 | [],fs,w,_=>by grind [so,MI]
 | x::es,[],w,h=>by
  have h0:=h 0 (by simp)
  have h1:=wJ es [] w (λi hi=>by have:=h (i+1) (by simpa using hi);grind)
  grind [Rc,List.getD_nil,so,MI]
 | x::es,f::fs,w,h=>by
  have h0:=h 0 (by simp)
  have h1:=wJ es fs w (λi hi=>by have:=h (i+1) (by simpa using hi);grind)
  grind [Rc,so,MI]
section
variable {es:List By} {n:Nat} {Do to:Int}
theorem HN(X1:0<=Do/\Do.toNat<n):XX n (bs0 n es.length Do):=by
 refine⟨by simp[ξ],by simp,by simp,?_,?_⟩
 ·grind [QF.list,Pm]
 grind [ξ,List.length_singleton,unm]
theorem bs0_ti{fs:List Int}(hm:es.length<=65536)(X1:0<=Do/\Do.toNat<n):TI es fs n Do (λ_=>0) (bs0 n es.length Do):=by
 have h0:(ξ n es.length Do).getD Do.toNat 0=2*(es.length:Int):=by
  unfold ξ
  rw[fj,if_pos ⟨rfl,by grind⟩,wrap_i64 (by omega) (by omega)];omega
 refine⟨by simp[ξ],?_,?_,?_⟩
 ·grind
 ·intro v hv
  simp[QF.list] at hv
  grind
 ·intro v hv Xq UQ
  simp only at Xq
  unfold ξ at Xq
  grind
theorem Lq(hm:es.length<=65536)(TZ:∀x∈es,dQ n x)(X1:0<=Do/\Do.toNat<n)(fs:List Int):∃k f ρ,Zz (iP n es) es fs to k (bs0 n es.length Do) f/\TI es fs n Do ρ f:=by
 have hB:∀B∈iP n es,∀r∈B,cg es.length r:=λB hb=>(wI n hm B hb).1
 obtain⟨k,f,hb⟩:=HL (fs:=fs) (to:=to) hm TZ (mz n es) hB _ (bs0 n es.length Do) (RG _) (HN X1)
 obtain⟨ρ,hT⟩:=TI.bfs (Do:=Do) hm TZ (mz n es) hB (Gm hm TZ) hb (HN X1) (bs0_ti hm X1)
 grind
structure ο (es:List By) (Do to:Int) (fs:List Int):Prop where
 ok:YQ es fs
 cons:∀w,w≠Do->w≠to->so es fs w=0
theorem ο.aug{fs by':List Int}{ρ:Nat->Nat}{rs:List Int}(h:ο es Do to fs)(hp:VO es fs by' Do ρ to rs):ο es Do to (puR es fs rs):=by
 obtain⟨_,b,c⟩:=HM h.ok hp
 refine⟨b,λw h1 h2=>?_⟩
 rw[c w,if_neg (λe=>h1 e.symm),if_neg (λe=>h2 e.symm),h.cons w h1 h2]
 rfl
theorem HO(hm:es.length<=65536)(TZ:∀x∈es,dQ n x)(X1:0<=Do/\Do.toNat<n)(hto:0<=to/\to.toNat<n)(UQ:Do≠to):∀(m:Nat) (fs:List Int),(MI es-so es fs Do).toNat<m->ο es Do to fs ->
  ∃j g,YO (iP n es) es n Do to j fs g/\ο es Do to g.1/\∃k f ρ,Zz (iP n es) es g.1 to k (bs0 n es.length Do) f/\TI es g.1 n Do ρ f/\f.1=g.2/\g.2.getD to.toNat 0<0
 | 0,fs,h,_=>absurd h (PG _)
 | m+1,fs,h,hF=>by
  obtain⟨k,f,ρ,hb,hT⟩:=Lq (to:=to) hm TZ X1 fs
  by_cases hx:f.1.getD to.toNat 0<0
  ·exact⟨0,(fs,f.1),.done hb hx,hF,k,f,ρ,hb,hT,rfl,hx⟩
  ·obtain⟨rs,hp⟩:=C2 hm TZ hT _ to (RG _) hto.1 hto.2 (by omega)
   obtain⟨a,b,c⟩:=HM hF.ok hp
   have hle:=wJ es (puR es fs rs) Do (λi hi=>⟨b.lo i hi,b.hi i hi⟩)
   have hc:=c Do
   rw[if_pos rfl,if_neg (λe=>UQ e.symm)] at hc
   obtain⟨j,g,h1,h2⟩:=HO hm TZ X1 hto UQ m (puR es fs rs) (by omega) (hF.aug hp)
   exact⟨j+1,g,.step hb hx hp.path h1,h2⟩
theorem flow0(hm:es.length<=65536)(h0:∀x∈es,0<=x.most/\x.most<=1073741824):ο es Do to (MU es.length 0):=by
 have hg:∀i,(MU es.length (0:Int)).getD i 0=0:=by
  intro i
  simp only[MT,List.getElem?_replicate]
  split<;>rfl
 have hx:∀i,i<es.length->es.getD i ⟨0,0,0⟩∈es:=by
  intro i hi
  have:es.getD i ⟨0,0,0⟩=es[i]:=by simp[MT,hi]
  rw[this];exact RZ hi
 refine⟨⟨by simp,hm,λi _=>by grind,λi hi=>by grind,λi hi=>(h0 _ (hx i hi)).2⟩,λw _ _=>?_⟩
 have:∀(l:List By),so l (MU l.length 0) w=0:=by
  intro l
  induction l with
  | nil=>rfl
  | cons x l ih=>simp only[N3,List.replicate_succ,so,ih];grind
 exact this es
theorem Lr(hm:es.length<=65536)(TZ:∀x∈es,dQ n x)(h0:∀x∈es,0<=x.most/\x.most<=1073741824)(X1:0<=Do/\Do.toNat<n)(hto:0<=to/\to.toNat<n)(UQ:Do≠to):
  ∃j g,YO (iP n es) es n Do to j (MU es.length 0) g/\ο es Do to g.1/\∃k f ρ,Zz (iP n es) es g.1 to k (bs0 n es.length Do) f/\TI es g.1 n Do ρ f/\f.1=g.2/\g.2.getD to.toNat 0<0 :=
 HO hm TZ X1 hto UQ _ _ (RG _) (flow0 hm h0)
end
structure Wc where
 att:Int
 req:Int
 cr:Int
def Wc.row(e:Wc):List Dp:=[vi e.att,vi e.req,vi e.cr]
def jU(l:List Wc):List (List D):=l.map λe=>[aT e.att,aT e.req,aT e.cr]
theorem su(l:List Wc)(a b c:Int):jU l++[[aT a,aT b,aT c]]=jU (l++[⟨a,b,c⟩]):=by simp[jU]
theorem Gr(l:List Wc):(jU l).length=l.length:=by simp[jU]
theorem sv(f:Ref->D)(l:List Wc):(jU l).map (Nm f)=jU l:=by simp[jU,Nm,NA]
theorem yB(n:Nat)(l:List Wc):(jU l).all (D.UP n)=true:=by simp[jU,D.UP,D.UV]
theorem Gs(l:List Wc):jU l=(l.map Wc.row).map (·.map .p):=by simp[jU,Wc.row]
abbrev auH(p:oN)(fl:List Int)(ms:Int)(cut:List Bool):List iN:=[.var p.l,.var [nq,aT 0,nq],.var [aT 0],.var [ab (ay fl)],.var [nq,aT ms,ab (cH cut)]]
abbrev auS(p:oN)(l:List tO)(fl:List Int)(ms:Int)(cut:List Bool)(i:Int):AS:={t:=DO 84 0 [(1,ab (l.map MQ)),(2,.ref (.ptr 0 0)),(4,.ref (.ptr 1 0)),(5,.ref (.ptr 2 0)),(8,.ref (.ptr 3 0)),(10,.ref (.ptr 4 0)),(41,ab (p.reqs.map M5)),(42,aT ((p.reqs.map M5).length:Int)),(43,aT i)],h:=auH p fl ms cut,m:=[]}
abbrev auE(p:oN)(l:List tO)(fl:List Int)(ms:Int)(cut:List Bool):AS:={t:=DO 84 0 [(1,ab (l.map MQ)),(2,.ref (.ptr 0 0)),(4,.ref (.ptr 1 0)),(5,.ref (.ptr 2 0)),(8,.ref (.ptr 3 0)),(10,.ref (.ptr 4 0))],h:=auH p fl ms cut,m:=[]}
def auF(ms:Int)(q:T2):Int:=MM.wrap (ms+q.oF)
theorem Ls{p:oN}{l:List tO}{fl:List Int}{cut:List Bool}{ms:Int}{q:T2}{i:Nat}{h0:List iN}(hh:h0.length<=5)(hr:ap (i:Int) (p.reqs.map M5) q.row 6)(IN:Zd ((i:Int)<((p.reqs.map M5).length:Int))=true)(hw:MM.wrap ((i:Int)+1)=((i+1:Nat):Int)):(CW MK At [.var p.l,.var [nq,aT 0,nq],.var [aT 0]] false (sub Nq 0) (auS p l fl ms cut i) .normal (auS p l fl (auF ms q) cut ((i+1:Nat):Int))):=by
 exact yX {t:=DO 84 0 [(1,ab (ML MQ l)),(2,.ref (.ptr 0 0)),(4,.ref (.ptr 1 0)),(5,.ref (.ptr 2 0)),(8,.ref (.ptr 3 0)),(10,.ref (.ptr 4 0)),(41,ab (ML M5 p.reqs)),(42,aT (↑(MO (ML M5 p.reqs)):Int)),(43,aT (MN MM ((↑i:Int)+1)))],h:=[.var [aq p.nm,aT p.number,aT p.T3,aT p.ON,aT p.num,aT p.den,ab (ML M5 p.reqs)],.var [nq,aT 0,nq],.var [aT 0],.var [ab (ay fl)],.var [nq,aT (MN MM (ms+q.oF)),ab (cH cut)]],m:=[]} M8 [.st (.mask [1,2,4,5,8,10,41,42,43]),.st (.trim 5)] [.b IN,.r hr] (by grind) (by(rw[hw]<;>rfl))
theorem Lt{p:oN}{l:List tO}{fl:List Int}{cut:List Bool}{ms:Int}{i:Nat}(IN:Zd ((i:Int)<((p.reqs.map M5).length:Int))=false):(CW MK At [.var p.l,.var [nq,aT 0,nq],.var [aT 0]] false (sub Nq 0) (auS p l fl ms cut i) (.exit 0) (auE p l fl ms cut)):=by
 exact yx [.st (.mask [1,2,4,5,8,10])] [.b IN]
theorem au_cw{p:oN}{l:List tO}{fl:List Int}{cut:List Bool}(hn:p.reqs.length<=100):CW MK At [.var p.l,.var [nq,aT 0,nq],.var [aT 0]] false (.loop (sub Nq 0)) (auS p l fl 0 cut 0) (.exit 0) (auE p l fl (p.reqs.foldl auF 0) cut):=by
 have:=OS (P:=MK) (Γ:=At) (h0:=[.var p.l,.var [nq,aT 0,nq],.var [aT 0]]) (rd:=false) (c:=sub Nq 0) (σ:=Int) (ρ:=Empty) p.reqs (λq s=>.inl (auF s q))
  (λi s=>auS p l fl s cut (i:Int)) (.exit 0) (λs=>auE p l fl s cut) (λr=>r.elim) (λ_ _=>True) (by simp) (λr=>r.elim) ?_ ?_ 0 trivial
 ·rw[aP] at this
  exact this
 ·intro i q s hq _
  have hi:=(MR.1 hq).1
  exact⟨λ_ _=>trivial,Ls (h0:=[]) (by simp) (rowAt hq rfl) (TG M5 hi) (T4 hi (by omega))⟩
 ·intro s _
  exact Lt (be M5 p.reqs)
structure Wy where
 us:List Wc
 ms:Int
 at_:Int
abbrev apT:List D:=DO 84 0 [(4,.ref (.ptr 1 0)),(5,.ref (.ptr 2 0)),(8,.ref (.ptr 3 0)),(10,.ref (.ptr 4 0)),(13,.ref (.ptr 5 0)),(58,.fn (.func 198) [] [.ref (.ptr 8 0),.ref (.ptr 7 0)])]
noncomputable abbrev apL(st:LoopState):iN:=.loop st none 0 apT #[59,60] (au (sub Nq 1)) (ai (sub Nq 1))
noncomputable abbrev WC(p:oN)(l:List tO)(fl:List Int)(cut:List Bool)(s:Wy)(e:Nat)(st:LoopState)(more:List iN):List iN:=[.var p.l,.var [nq,aT 0,nq],.var [aT 0],.var [ab (ay fl)],.var [.ref (.bY 6 e),aT s.ms,ab (cH cut)],.var [aT s.at_],.bY (jU s.us) e 3,.var p.l,.var [ab (l.map MQ)],.Ts,apL st]++more
abbrev apU(i k:Int):List D:=DO 84 0 [(4,.ref (.ptr 1 0)),(5,.ref (.ptr 2 0)),(8,.ref (.ptr 3 0)),(10,.ref (.ptr 4 0)),(13,.ref (.ptr 5 0)),(14,aT i),(15,aT k)]
def apF(fl:List Int)(i k f:Int)(s:Wy):Wy:=match Zd (f>0) with
 | true=>⟨s.us++[⟨i,k,f⟩],MM.wrap (s.ms-f),MM.wrap (s.at_+1)⟩
 | false=>⟨s.us,s.ms,MM.wrap (s.at_+1)⟩
theorem HP{p:oN}{l:List tO}{fl:List Int}{cut:List Bool}{s:Wy}{i k:Int}{a:tO}:(CW MK At (WC p l fl cut s 1 .ready [.var (a.row.map .p)]) true (au (sub Nq 1)) {t:=dL apT [(59,aT i),(60,aT k)],h:=WC p l fl cut s 1 .ready [.var (a.row.map .p)],m:=[]} .normal {t:=apU i k,h:=WC p l fl cut s 1 .ready [.var (a.row.map .p)],m:=[]}):=by
 exact yx [.st (.mask [4,5,8,10,13,14,15])] []
theorem ap_no{p:oN}{l:List tO}{fl:List Int}{cut:List Bool}{s:Wy}{i k f:Int}{a:tO}(hf:ap s.at_ (ay fl) [vi f] 1)(hg:Zd (f>0)=false):(CW MK At (WC p l fl cut s 1 .ready [.var (a.row.map .p)]) true (ai (sub Nq 1)) {t:=apU i k,h:=WC p l fl cut s 1 .busy [.var (a.row.map .p)],m:=[]} .normal {t:=DO 84 0 [],h:=WC p l fl cut ⟨s.us,s.ms,MM.wrap (s.at_+1)⟩ 2 .busy [.var (a.row.map .p)],m:=[]}):=by
 exact yx [.st (.mask []),.st (.Vz 6 2)] [.r hf,.b hg,((by exact sv _ _):ML (Nm (ax 6 1 2)) (jU s.us)=jU s.us)]
theorem ap_yes{p:oN}{l:List tO}{fl:List Int}{cut:List Bool}{s:Wy}{i k f:Int}{a:tO}(hf:ap s.at_ (ay fl) [vi f] 1)(hg:Zd (f>0)=true)(hl:s.us.length<=1000000):(CW MK At (WC p l fl cut s 1 .ready [.var (a.row.map .p)]) true (ai (sub Nq 1)) {t:=apU i k,h:=WC p l fl cut s 1 .busy [.var (a.row.map .p)],m:=[]} .normal {t:=DO 84 0 [],h:=WC p l fl cut ⟨s.us++[⟨i,k,f⟩],MM.wrap (s.ms-f),MM.wrap (s.at_+1)⟩ 2 .busy [.var (a.row.map .p)],m:=[]}):=by
 let v0:=ML M5 p.reqs
 let v1:List D:=[.ref (.bY 6 2),aT (MN MM (s.ms-f)),ab (cH cut)]
 let v2:List D:=[aT a.dO,aT a.bV,aT a.IF,aT a.SW,aT a.oF]
 exact yX {t:=DO 84 0 [],h:=[.var [aq p.nm,aT p.number,aT p.T3,aT p.ON,aT p.num,aT p.den,ab v0],.var [nq,aT 0,nq],.var [aT 0],.var [ab (ay fl)],.var v1,.var [aT (MN MM (s.at_+1))],.bY (jU s.us++[[aT i,aT k,aT f]]) 2 3,.var [aq p.nm,aT p.number,aT p.T3,aT p.ON,aT p.num,aT p.den,ab v0],.var [ab (ML MQ l)],.Ts,.loop Nu none 0 (DO 84 0 [(4,.ref (.ptr 1 0)),(5,.ref (.ptr 2 0)),(8,.ref (.ptr 3 0)),(10,.ref (.ptr 4 0)),(13,.ref (.ptr 5 0)),(58,Ot (Nl 198) [] [.ref (.ptr 8 0),.ref (.ptr 7 0)])]) {toList:=[59,60]} (au (sub Nq 1)) (ai (sub Nq 1)),.var v2],m:=[]} M8 [.st (.mask []),.st (.TD 12)] [.r hf,.b hg,((by subst v0 v1 v2;grind [su,bf,D.one,OM,Tw,Gr]):(NH [[aT i,aT k,aT f]] (bf 3)&&Tw (MO (jU s.us)+MO [[aT i,aT k,aT f]]) 24)=true),bi 12 (.var [aq p.nm,aT p.number,aT p.T3,aT p.ON,aT p.num,aT p.den,ab v0]),bi 12 (.var [nq,aT 0,nq]),bi 12 (.var [aT 0]),bi 12 (.var [ab (ay fl)]),bi 12 (.var v1),bi 12 (.var [aT (MN MM (s.at_+1))]),((by subst v0 v1 v2;(rw[su];exact yB _ _)):MZ 12 (.bY (jU s.us++[[aT i,aT k,aT f]]) 2 3)=true),bi 12 (.var [aq p.nm,aT p.number,aT p.T3,aT p.ON,aT p.num,aT p.den,ab v0]),bi 12 (.var [ab (ML MQ l)]),bi 12 .Ts,bi 12 (.loop Nu none 0 (DO 84 0 [(4,.ref (.ptr 1 0)),(5,.ref (.ptr 2 0)),(8,.ref (.ptr 3 0)),(10,.ref (.ptr 4 0)),(13,.ref (.ptr 5 0)),(58,Ot (Nl 198) [] [.ref (.ptr 8 0),.ref (.ptr 7 0)])]) {toList:=[59,60]} (au (sub Nq 1)) (ai (sub Nq 1))),bi 12 (.var v2)] (by subst v0 v1 v2;grind) (by subst v0 v1 v2;simp only[su];rfl)
theorem Lu{p:oN}{l:List tO}{fl:List Int}{cut:List Bool}{s:Wy}{i k f:Int}{a:tO}(hf:ap s.at_ (ay fl) [vi f] 1)(hl:s.us.length<=1000000):Iv MK At (.ref (.yl 10)) [aT i,aT k] (WC p l fl cut s 1 .ready [.var (a.row.map .p)]) (iF true) (WC p l fl cut (apF fl i k f s) 2 .ready [.var (a.row.map .p)]):=by
 unfold apF
 cases hg:Zd (f>0) with
 | true=>exact Iv.round (h1:=WC p l fl cut s 1 .ready [.var (a.row.map .p)]) rfl rfl HP rfl (ap_yes hf hg hl) rfl
 | false=>exact Iv.round (h1:=WC p l fl cut s 1 .ready [.var (a.row.map .p)]) rfl rfl HP rfl (ap_no hf hg) rfl
noncomputable abbrev a2S(p:oN)(l:List tO)(fl:List Int)(cut:List Bool)(a:tO)(ks:List Int)(i:Int)(s:Wy)(j:Int):AS:={t:=DO 30 0 [(0,.ref (.yl 10)),(1,.ref (.ptr 8 0)),(2,.ref (.ptr 7 0)),(4,aT i),(8,ab (l.map MQ)),(9,aT ((l.map MQ).length:Int)),(10,aT i),(17,ab (ay ks)),(18,aT ((ay ks).length:Int)),(19,aT j)],h:=WC p l fl cut s 1 .ready [.var (a.row.map .p)],m:=[]}
noncomputable abbrev a2E(p:oN)(l:List tO)(fl:List Int)(cut:List Bool)(a:tO)(i:Int)(s:Wy):AS:={t:=DO 30 0 [(0,.ref (.yl 10)),(1,.ref (.ptr 8 0)),(2,.ref (.ptr 7 0)),(8,ab (l.map MQ)),(9,aT ((l.map MQ).length:Int)),(10,aT i)],h:=WC p l fl cut s 1 .ready [.var (a.row.map .p)],m:=[]}
theorem Lv{p:oN}{l:List tO}{fl:List Int}{cut:List Bool}{a:tO}{ks:List Int}{s0 s:Wy}{i k f:Int}{j:Nat}(hf:ap s.at_ (ay fl) [vi f] 1)(hk:ap (j:Int) (ay ks) [vi k] 1)(IN:Zd ((j:Int)<((ay ks).length:Int))=true)(hw:MM.wrap ((j:Int)+1)=((j+1:Nat):Int))(hl:s.us.length<=1000000):(CW MK At (WC p l fl cut s0 0 .ready []) false (sub OI 1) (a2S p l fl cut a ks i s j) .normal (a2S p l fl cut a ks i (apF fl i k f s) ((j+1:Nat):Int))):=by
 exact yX {t:=DO 30 0 [(0,.ref (.yl 10)),(1,.ref (.ptr 8 0)),(2,.ref (.ptr 7 0)),(4,aT i),(8,ab (ML MQ l)),(9,aT (↑(MO (ML MQ l)):Int)),(10,aT i),(17,ab (ay ks)),(18,aT (↑(MO (ay ks)):Int)),(19,aT (MN MM ((↑j:Int)+1)))],h:=[.var [aq p.nm,aT p.number,aT p.T3,aT p.ON,aT p.num,aT p.den,ab (ML M5 p.reqs)],.var [nq,aT 0,nq],.var [aT 0],.var [ab (ay fl)],.var [.ref (.bY 6 1),aT (apF fl i k f s).ms,ab (cH cut)],.var [aT (apF fl i k f s).at_],.bY (jU (apF fl i k f s).us) 1 3,.var [aq p.nm,aT p.number,aT p.T3,aT p.ON,aT p.num,aT p.den,ab (ML M5 p.reqs)],.var [ab (ML MQ l)],.Ts,.loop Np none 0 (DO 84 0 [(4,.ref (.ptr 1 0)),(5,.ref (.ptr 2 0)),(8,.ref (.ptr 3 0)),(10,.ref (.ptr 4 0)),(13,.ref (.ptr 5 0)),(58,Ot (Nl 198) [] [.ref (.ptr 8 0),.ref (.ptr 7 0)])]) {toList:=[59,60]} (au (sub Nq 1)) (ai (sub Nq 1)),.var [aT a.dO,aT a.bV,aT a.IF,aT a.SW,aT a.oF]],m:=[]} M8 [.st (.mask [0,1,2,4,8,9,10,17,18,19]),.st (.Vz 6 1)] [.b IN,.r hk,.j (@Lu p l fl cut s i k f a hf hl),((by exact sv _ _):ML (Nm (ax 6 2 1)) (jU (apF fl i k f s).us)=jU (apF fl i k f s).us),.e] (by grind) (by(rw[hw]<;>rfl))
theorem Lw{p:oN}{l:List tO}{fl:List Int}{cut:List Bool}{a:tO}{ks:List Int}{s0 s:Wy}{i:Int}{j:Nat}(IN:Zd ((j:Int)<((ay ks).length:Int))=false):(CW MK At (WC p l fl cut s0 0 .ready []) false (sub OI 1) (a2S p l fl cut a ks i s j) (.exit 2) (a2E p l fl cut a i s)):=by
 exact yx [.st (.mask [0,1,2,8,9,10])] [.b IN]
def Zn(fl:List Int)(i:Int)(s:Wy)(k:Int):Wy:=apF fl i k (fl.getD s.at_.toNat 0) s
theorem HQ{fl:List Int}{i k:Int}{s:Wy}{c:Nat}(h:s.at_=c)(hc:c<=1000000):(Zn fl i s k).at_=((c+1:Nat):Int):=by
 have hw:MM.wrap (s.at_+1)=((c+1:Nat):Int):=by rw[h];exact wrap_i64 (by omega) (by omega)
 grind [Zn,apF]
theorem HR{fl:List Int}{i k:Int}{s:Wy}:(Zn fl i s k).us.length<=s.us.length+1:=by
 grind [Zn,apF]
theorem apGs{fl:List Int}{i:Int}:∀(ks:List Int) (s:Wy) (c:Nat),s.at_=c->c+ks.length<=1000000->(ks.foldl (Zn fl i) s).at_=((c+ks.length:Nat):Int)/\(ks.foldl (Zn fl i) s).us.length<=s.us.length+ks.length
 | [],s,c,h,_=>⟨h,by simp⟩
 | k::ks,s,c,h,hc=>by
  simp at hc
  obtain⟨a,b⟩:=apGs ks (Zn fl i s k) (c+1) (HQ h (by omega)) (by omega)
  have:=HR (fl:=fl) (i:=i) (k:=k) (s:=s)
  rw[NI]
  refine⟨by rw[a,N3];congr 1;omega,?_⟩
  grind
theorem a2_cw{p:oN}{l:List tO}{fl:List Int}{cut:List Bool}{a:tO}{ks:List Int}{s0 s:Wy}{i:Int}{c:Nat}(hs:s.at_=c)(hb:c+ks.length<=fl.length)(Y6:fl.length<=100000)(hus:s.us.length<=100000):CW MK At (WC p l fl cut s0 0 .ready []) false (.loop (sub OI 1)) (a2S p l fl cut a ks i s 0) (.exit 2) (a2E p l fl cut a i (ks.foldl (Zn fl i) s)):=by
 have:=OS (P:=MK) (Γ:=At) (h0:=WC p l fl cut s0 0 .ready []) (rd:=false) (c:=sub OI 1) (σ:=Wy) (ρ:=Empty) ks (λk s=>.inl (Zn fl i s k))
  (λj s=>a2S p l fl cut a ks i s (j:Int)) (.exit 2) (λs=>a2E p l fl cut a i s) (λr=>r.elim) (λj s=>s.at_=((c+j:Nat):Int)/\s.us.length<=100000+j) (by simp) (λr=>r.elim) ?_ ?_ s ⟨by simpa using hs,by omega⟩
 ·rw[aP] at this
  exact this
 ·rintro j k s hk ⟨h1,h2⟩
  have hi:=(MR.1 hk).1
  have hg:fl[c+j]? = some (fl.getD s.at_.toNat 0):=by
   rw[h1,Oc]
   simp only[MT,List.getElem?_eq_getElem (show c+j<fl.length by omega),Option.getD_some]
  have hf:=rowAt (row:=λn:Int=>[vi n]) (sz:=1) hg rfl
  rw[<-h1] at hf
  refine⟨λs' h=>?_,Lv hf (rowAt (row:=λn:Int=>[vi n]) hk rfl) (TG (λn:Int=>[vi n]) hi) (T4 hi (by omega)) (by omega)⟩
  cases h
  refine⟨HQ h1 (show c+j<=1000000 by omega),?_⟩
  have:=HR (fl:=fl) (i:=i) (k:=k) (s:=s)
  omega
 ·intro s _
  exact Lw (be (λn:Int=>[vi n]) ks)
noncomputable abbrev a3S(p:oN)(l:List tO)(fl:List Int)(cut:List Bool)(s:Wy)(i:Int):AS:={t:=DO 30 0 [(0,.ref (.yl 10)),(1,.ref (.ptr 8 0)),(2,.ref (.ptr 7 0)),(8,ab (l.map MQ)),(9,aT ((l.map MQ).length:Int)),(10,aT i)],h:=WC p l fl cut s 1 .ready [],m:=[]}
noncomputable abbrev a3E(p:oN)(l:List tO)(fl:List Int)(cut:List Bool)(s:Wy):AS:={t:=DO 30 0 [],h:=WC p l fl cut s 1 .ready [],m:=[]}
def a3F(p:oN)(fl:List Int)(s:Wy×Int)(a:tO):Wy×Int:=((Xl p a).foldl (Zn fl s.2) s.1,s.2+1)
noncomputable abbrev zS(p:oN)(l:List tO)(fl:List Int)(cut:List Bool)(a:tO)(s:Wy):List iN:=[.var [aq p.nm,aT p.number,aT p.T3,aT p.ON,aT p.num,aT p.den,ab (ML M5 p.reqs)],.var [nq,aT 0,nq],.var [aT 0],.var [ab (ay fl)],.var [.ref (.bY 6 1),aT s.ms,ab (cH cut)],.var [aT s.at_],.bY (jU s.us) 1 3,.var [aq p.nm,aT p.number,aT p.T3,aT p.ON,aT p.num,aT p.den,ab (ML M5 p.reqs)],.var [ab (ML MQ l)],.Ts,.loop Np none 0 (DO 84 0 [(4,.ref (.ptr 1 0)),(5,.ref (.ptr 2 0)),(8,.ref (.ptr 3 0)),(10,.ref (.ptr 4 0)),(13,.ref (.ptr 5 0)),(58,Ot (Nl 198) [] [.ref (.ptr 8 0),.ref (.ptr 7 0)])]) {toList:=[59,60]} (au (sub Nq 1)) (ai (sub Nq 1)),.var [aT a.dO,aT a.bV,aT a.IF,aT a.SW,aT a.oF]]
theorem Lx{p:oN}{l:List tO}{fl:List Int}{cut:List Bool}{a:tO}{s0 s:Wy}{i c:Nat}(hp:p.ok)(hn:p.reqs.length<=1000)(hr:ap (i:Int) (l.map MQ) a.row 5)(IN:Zd ((i:Int)<((l.map MQ).length:Int))=true)(hw:MM.wrap ((i:Int)+1)=((i+1:Nat):Int))
  (Wn:CW MK At (WC p l fl cut s0 0 .ready []) false (.loop (sub OI 1)) (a2S p l fl cut a (Xl p a) i s 0) (.exit 2) (a2E p l fl cut a i ((Xl p a).foldl (Zn fl (i:Int)) s))):(CW MK At (WC p l fl cut s0 0 .ready []) false (sub OI 0) (a3S p l fl cut s i) .normal (a3S p l fl cut (a3F p fl (s,(i:Int)) a).1 ((i+1:Nat):Int))):=by
 have Tv:=(@Wn)
 let v0:=ML M5 p.reqs
 exact yX {t:=DO 30 0 [(0,.ref (.yl 10)),(1,.ref (.ptr 8 0)),(2,.ref (.ptr 7 0)),(8,ab (ML MQ l)),(9,aT (↑(MO (ML MQ l)):Int)),(10,aT (MN MM ((↑i:Int)+1)))],h:=[.var [aq p.nm,aT p.number,aT p.T3,aT p.ON,aT p.num,aT p.den,ab v0],.var [nq,aT 0,nq],.var [aT 0],.var [ab (ay fl)],.var [.ref (.bY 6 1),aT (Nx (Zn fl (↑i:Int)) s (Xl p a)).ms,ab (cH cut)],.var [aT (Nx (Zn fl (↑i:Int)) s (Xl p a)).at_],.bY (jU (Nx (Zn fl (↑i:Int)) s (Xl p a)).us) 1 3,.var [aq p.nm,aT p.number,aT p.T3,aT p.ON,aT p.num,aT p.den,ab v0],.var [ab (ML MQ l)],.Ts,.loop Np none 0 (DO 84 0 [(4,.ref (.ptr 1 0)),(5,.ref (.ptr 2 0)),(8,.ref (.ptr 3 0)),(10,.ref (.ptr 4 0)),(13,.ref (.ptr 5 0)),(58,Ot (Nl 198) [] [.ref (.ptr 8 0),.ref (.ptr 7 0)])]) {toList:=[59,60]} (au (sub Nq 1)) (ai (sub Nq 1))],m:=[]} M8 [.st (.mask [0,1,2,8,9,10]),.st (.TD 11)] [.b IN,.r hr,.v (@oB p hp hn a (zS p l fl cut a s)),.s [0,1,2,4,8,9,10,17,18,19] Tv,bi 11 (.var [aq p.nm,aT p.number,aT p.T3,aT p.ON,aT p.num,aT p.den,ab v0]),bi 11 (.var [nq,aT 0,nq]),bi 11 (.var [aT 0]),bi 11 (.var [ab (ay fl)]),bi 11 (.var [.ref (.bY 6 1),aT (Nx (Zn fl (↑i:Int)) s (Xl p a)).ms,ab (cH cut)]),bi 11 (.var [aT (Nx (Zn fl (↑i:Int)) s (Xl p a)).at_]),((by subst v0;exact yB _ _):MZ 11 (.bY (jU (Nx (Zn fl (↑i:Int)) s (Xl p a)).us) 1 3)=true),bi 11 (.var [aq p.nm,aT p.number,aT p.T3,aT p.ON,aT p.num,aT p.den,ab v0]),bi 11 (.var [ab (ML MQ l)]),bi 11 .Ts,bi 11 (.loop Np none 0 (DO 84 0 [(4,.ref (.ptr 1 0)),(5,.ref (.ptr 2 0)),(8,.ref (.ptr 3 0)),(10,.ref (.ptr 4 0)),(13,.ref (.ptr 5 0)),(58,Ot (Nl 198) [] [.ref (.ptr 8 0),.ref (.ptr 7 0)])]) {toList:=[59,60]} (au (sub Nq 1)) (ai (sub Nq 1)))] (by subst v0;grind) (by subst v0;(simp only[a3F,hw];first|done|rfl))
theorem Ly{p:oN}{l:List tO}{fl:List Int}{cut:List Bool}{s0 s:Wy}{i:Nat}(IN:Zd ((i:Int)<((l.map MQ).length:Int))=false):(CW MK At (WC p l fl cut s0 0 .ready []) false (sub OI 0) (a3S p l fl cut s i) (.exit 0) (a3E p l fl cut s)):=by
 exact yx [.st (.mask [])] [.b IN]
def fk(p:oN)(l:List tO):Nat:=(l.map λa=>(Xl p a).length).sum
theorem a3_cw{p:oN}(hp:p.ok){l:List tO}{fl:List Int}{cut:List Bool}{s0 s:Wy}{c:Nat}(hn:p.reqs.length<=100)(hl:l.length<=4096)(hs:s.at_=c)(hb:c+fk p l<=fl.length)(Y6:fl.length<=65536)(hus:s.us=[]):CW MK At (WC p l fl cut s0 0 .ready []) false (.loop (sub OI 0)) (a3S p l fl cut s 0) (.exit 0) (a3E p l fl cut (l.foldl (a3F p fl) (s,0)).1):=by
 have:=OS (P:=MK) (Γ:=At) (h0:=WC p l fl cut s0 0 .ready []) (rd:=false) (c:=sub OI 0) (σ:=Wy×Int) (ρ:=Empty) l (λa s=>.inl (a3F p fl s a))
  (λi s=>a3S p l fl cut s.1 (i:Int)) (.exit 0) (λs=>a3E p l fl cut s.1) (λr=>r.elim) (λi s=>s.2=i/\∃c:Nat,s.1.at_=c/\c+fk p (l.drop i)<=fl.length/\s.1.us.length<=c) (by simp) (λr=>r.elim) ?_ ?_ (s,0) ⟨by simp,c,hs,by simpa using hb,by simp[hus]⟩
 ·rw[aP] at this
  exact this
 ·rintro i a ⟨s,k⟩ hc ⟨hk,c,h1,h2,h3⟩
  simp only at hk h1 h3
  subst hk
  have hi:=(MR.1 hc).1
  have hd:l.drop i=a::l.drop (i+1):=by
   rw[List.drop_eq_getElem_cons hi]
   congr 1
   exact(MR.1 hc).2
  have h4:fk p (l.drop i)=(Xl p a).length+fk p (l.drop (i+1)):=by rw[hd];simp[fk]
  have h5:=sg p a
  refine⟨λs' h=>?_,Lx (c:=c) hp (by omega) (rowAt hc rfl) (TG MQ hi) (T4 hi (by omega)) (a2_cw (s:=s) h1 (show c+(Xl p a).length<=fl.length by omega) (by omega) (show s.us.length<=100000 by omega))⟩
  cases h
  obtain⟨g1,g2⟩:=apGs (fl:=fl) (i:=(i:Int)) (Xl p a) s c h1 (by omega)
  exact⟨by simp[a3F],c+(Xl p a).length,g1,by omega,by grind [a3F]⟩
 ·intro s _
  exact Ly (be MQ l)
theorem Gt{p:oN}{l:List tO}{fl:List Int}{cut:List Bool}{s0 s:Wy}
  (Wn:CW MK At (WC p l fl cut s0 0 .ready []) false (.loop (sub OI 0)) (a3S p l fl cut s0 0) (.exit 0) (a3E p l fl cut s)):(Ev MK At 198 [.ref (.yl 10),.ref (.ptr 8 0),.ref (.ptr 7 0)] (WC p l fl cut s0 0 .ready []) (.Tt []) (WC p l fl cut s 1 .ready [])):=by
 have Tv:=(@Wn)
 exact Na (yF (h':=[.var [aq p.nm,aT p.number,aT p.T3,aT p.ON,aT p.num,aT p.den,ab (ML M5 p.reqs)],.var [nq,aT 0,nq],.var [aT 0],.var [ab (ay fl)],.var [.ref (.bY 6 1),aT s.ms,ab (cH cut)],.var [aT s.at_],.bY (jU s.us) 1 3,.var [aq p.nm,aT p.number,aT p.T3,aT p.ON,aT p.num,aT p.den,ab (ML M5 p.reqs)],.var [ab (ML MQ l)],.Ts,.loop Np none 0 (DO 84 0 [(4,.ref (.ptr 1 0)),(5,.ref (.ptr 2 0)),(8,.ref (.ptr 3 0)),(10,.ref (.ptr 4 0)),(13,.ref (.ptr 5 0)),(58,Ot (Nl 198) [] [.ref (.ptr 8 0),.ref (.ptr 7 0)])]) {toList:=[59,60]} (au (sub Nq 1)) (ai (sub Nq 1))]) (d:=D.Tt []) [((by exact sv _ _):ML (Nm (ax 6 0 1)) (jU s0.us)=jU s0.us),.n 1,.o (.Vz 6 1),.s [0,1,2,8,9,10] Tv]) (by rfl) (by rfl)
noncomputable abbrev apH0(p:oN)(l:List tO)(fl:List Int)(cut:List Bool)(s:Wy):List iN:=[.var p.l,.var [nq,aT 0,nq],.var [aT 0],.var [ab (ay fl)],.var [.ref (.bY 6 0),aT s.ms,ab (cH cut)],.var [aT s.at_],.bY (jU s.us) 0 3,.var p.l,.var [ab (l.map MQ)]]
theorem Lz{p:oN}(hp:p.ok){l:List tO}{fl:List Int}{cut:List Bool}{s:Wy}{c:Nat}{h0:List iN}(hn:p.reqs.length<=100)(hl:l.length<=4096)(hs:s.at_=c)(hb:c+fk p l<=fl.length)(Y6:fl.length<=65536)(hus:s.us=[]):CW MK At h0 false (sub Nq 1) {t:=apT,h:=apH0 p l fl cut s,m:=[]} .normal
  {t:=apT,h:=WC p l fl cut (l.foldl (a3F p fl) (s,0)).1 1 .exhausted [],m:=[9]} :=
 CW.rangeFunc (f:=198) (fi:=[]) (ca:=[.ref (.ptr 8 0),.ref (.ptr 7 0)]) Ug (s:={t:=apT,h:=apH0 p l fl cut s,m:=[]}) (g:=.tmp 58) (ps:=#[59,60]) (asg:=au (sub Nq 1)) (body:=ai (sub Nq 1)) rfl (by kernel_rfl) (Gt (a3_cw hp hn hl hs hb Y6 hus)) rfl
theorem fY(h:List iN):(Ev MK At 42 [aT 0] h (.Tt []) h):=by
 exact y0 [.a1 .inl,.e] h
abbrev adT(l:List tO):List D:=DO 84 0 [(1,ab (l.map MQ)),(2,.ref (.ptr 0 0)),(4,.ref (.ptr 1 0)),(5,.ref (.ptr 2 0))]
abbrev Xc(p:oN)(e:Int):List iN:=[.var p.l,.var [nq,aT 0,nq],.var [aT e]]
noncomputable abbrev Gu(p:oN)(fl:List Int):List iN:=[.var [aq p.nm,aT p.number,aT p.T3,aT p.ON,aT p.num,aT p.den,ab (ML M5 p.reqs)],.var [nq,aT 0,nq],.var [aT 0],.var [ab (ay fl)]]
noncomputable abbrev sw(p:oN):List iN:=[.var [aq p.nm,aT p.number,aT p.T3,aT p.ON,aT p.num,aT p.den,ab (ML M5 p.reqs)],.var [nq,aT 0,nq],.var [aT 0]]
theorem ad_ok{p:oN}{l:List tO}{es:List By}{n ms:Int}{fl:List Int}{cut:List Bool}{s:Wy}
  (XQ:∀h,Ev MK At 112 [.agg p.l,ab (l.map MQ)] h (.Tt [aT n,ab (es.map Nc),aT 0]) h)
  (ZW:∀h,Ev MK At 113 [aT n,ab (es.map Nc),aT 0,aT (MM.wrap (n-1))] h (.Tt [ab (ay fl),ab (cH cut),aT 0]) h)
  (W1:CW MK At (Xc p 0) false (.loop (sub Nq 0)) (auS p l fl 0 cut 0) (.exit 0) (auE p l fl ms cut))
  (hrf:CW MK At (Xc p 0) false (sub Nq 1) {t:=apT,h:=[.var p.l,.var [nq,aT 0,nq],.var [aT 0],.var [ab (ay fl)],.var [.ref (.bY 6 0),aT ms,ab (cH cut)],.var [aT ((l.map MQ).length:Int)],.bY [] 0 3,.var p.l,.var [ab (l.map MQ)]],m:=[]} .normal {t:=apT,h:=WC p l fl cut s 1 .exhausted [],m:=[9]}):(CW MK At (Xc p 0) false (cR (cR (ar Nq))) {t:=adT l,h:=Xc p 0,m:=[]} .ret
   {t:=DO 84 0 [(4,.ref (.ptr 1 0)),(5,.ref (.ptr 2 0))],h:=[.var p.l,.var [ab (s.us.map Wc.row),aT s.ms,ab (cH cut)],.var [aT 0],.var [ab (ay fl)],.var [ab (s.us.map Wc.row),aT s.ms,ab (cH cut)],.var [aT s.at_],.T1,.var p.l,.var [ab (l.map MQ)],.Ts,apL .exhausted],m:=[9]}):=by
 have Tv:=(@W1)
 have W1:=(@hrf)
 exact yx [.st (.mask [4,5]),.st (.Vw 6 (ML Wc.row s.us))] [.v (@XQ (sw p)),.v (@fY (sw p)),.v (@ZW (sw p)),.v (@fY (Gu p fl)),.s [1,2,4,5,8,10,41,42,43] Tv,.n 1,.o (.WS 4 0 3),.a1 .inl,.s [4,5,8,10,13,58] W1,((by exact Gs _):jU s.us=ML (λx=>ML D.p x) (ML Wc.row s.us))]
def ci:Code->Array Oper
 | .region _ o _=>o
 | _=>#[]
def C4:Code->Nat
 | .region i _ _=>i
 | _=>0
theorem Gv:ar Nq=.seq (.region (C4 (cL (ar Nq))) (ci (cL (ar Nq))) false) (.seq (.region (C4 (cL (cR (ar Nq)))) (ci (cL (cR (ar Nq)))) false) (cR (cR (ar Nq)))):=by kernel_rfl
def XL:Un:=λ_ _ _=>none
theorem jV:XL.Ok MK At:=λ_ _ _ _ h=>by simp[XL] at h
def HS(o:List Oper):Oper:=o.getLastD default
abbrev a0T(p:oN)(l:List tO):List D:=DO 84 0 [(0,.agg p.l),(1,ab (l.map MQ)),(2,.ref (.ptr 0 0)),(4,.ref (.ptr 1 0)),(5,.ref (.ptr 2 0))]
abbrev a1T(p:oN)(l:List tO):List D:=DO 84 0 [(0,.agg p.l),(1,ab (l.map MQ)),(2,.ref (.ptr 0 0)),(4,.ref (.ptr 1 0)),(5,.ref (.ptr 2 0)),(17,.fn (.func 111) [] [.ref (.ptr 2 0)])]
theorem oH{p:oN}{l:List tO}{e:Exit}{s':AS}(Up:CW MK At (Xc p 0) false (cR (cR (ar Nq))) {t:=adT l,h:=Xc p 0,m:=[]} e s'):
  Vp MK At (ar Nq) {t:=cC Nq [.agg p.l,ab (l.map MQ)],h:=[],m:=[]} e s' (some (111,[.ref (.ptr 2 0)])):=by
 rw[Gv]
 refine Vp.seq (s1:={t:=a0T p l,h:=Xc p 0,m:=[]}) (λX=>VW.Va (t':=a0T p l) (h':=Xc p 0) (e:=.normal) jV (by kernel_rfl) ⟨rfl,rfl⟩) ?_
 exact Vp.zbT (os:=(ci (cL (cR (ar Nq)))).toList.dropLast) (o:=HS (ci (cL (cR (ar Nq)))).toList) (fv:=.tmp 17) (args:=#[]) (ats:=#[]) (t1:=a1T p l) (h1:=Xc p 0) (f:=111) (fi:=[]) (ca:=[.ref (.ptr 2 0)]) Ug jV (by kernel_rfl) (by kernel_rfl) (by kernel_rfl) (by kernel_rfl) rfl (by kernel_rfl) (by kernel_rfl) (CW.pre [1,2,4,5] Up)
theorem C5:DfF.Ok MK At (fb MK At Zr 100):=(tj Ug (W:=Zr) (λ_ _ _ _ h=>by simp[Zr] at h) 100).2.2.2.2
theorem LA{p:oN}{l:List tO}{es:List By}{n ms:Int}{fl:List Int}{cut:List Bool}{s:Wy}
  (XQ:∀h,Ev MK At 112 [.agg p.l,ab (l.map MQ)] h (.Tt [aT n,ab (es.map Nc),aT 0]) h)
  (ZW:∀h,Ev MK At 113 [aT n,ab (es.map Nc),aT 0,aT (MM.wrap (n-1))] h (.Tt [ab (ay fl),ab (cH cut),aT 0]) h)
  (W1:CW MK At (Xc p 0) false (.loop (sub Nq 0)) (auS p l fl 0 cut 0) (.exit 0) (auE p l fl ms cut))
  (hrf:CW MK At (Xc p 0) false (sub Nq 1) {t:=apT,h:=[.var p.l,.var [nq,aT 0,nq],.var [aT 0],.var [ab (ay fl)],.var [.ref (.bY 6 0),aT ms,ab (cH cut)],.var [aT ((l.map MQ).length:Int)],.bY [] 0 3,.var p.l,.var [ab (l.map MQ)]],m:=[]} .normal {t:=apT,h:=WC p l fl cut s 1 .exhausted [],m:=[9]}) (h:List iN) :
  Ev MK At 49 [.agg p.l,ab (l.map MQ)] h (.Tt [.agg [ab (s.us.map Wc.row),aT s.ms,ab (cH cut)],aT 0]) h:=by
 have h1:=SS (f:=49) (args:=[.agg p.l,ab (l.map MQ)]) (dfn:=fb MK At Zr 100) (h:=[]) (r:=.ret (.Tt [.agg [ab (s.us.map Wc.row),aT s.ms,ab (cH cut)],aT 0]) []) (fn:=Nq) (c:=ar Nq) Ug rfl rfl C5 (oH (ad_ok XQ ZW W1 hrf)) (by kernel_rfl)
 exact SA rfl h1.call h
abbrev bT:List D:=DO 84 0 [(4,.ref (.ptr 1 0)),(5,.ref (.ptr 2 0))]
noncomputable abbrev C6(p:oN):List iN:=[.var [aq p.nm,aT p.number,aT p.T3,aT p.ON,aT p.num,aT p.den,ab (ML M5 p.reqs)],.var [nq,aT 0,nq],.var [aT 0]]
theorem ad_net{p:oN}{l:List tO}{es:List By}{n e:Int}(XQ:∀h,Ev MK At 112 [.agg p.l,ab (l.map MQ)] h (.Tt [aT n,ab (es.map Nc),aT e]) h):(CW MK At (Xc p 0) false (cL (cR (cR (ar Nq)))) {t:=adT l,h:=Xc p 0,m:=[]} .normal {t:=bT,h:=Xc p e,m:=[]}):=by
 exact yx [.st (.mask [4,5])] [.v (@XQ (C6 p))]
noncomputable abbrev c3:Code:=cL (cR (cR (cR (ar Nq))))
theorem C7:cR (cR (ar Nq))=.seq (cL (cR (cR (ar Nq)))) (.seq (.region (C4 c3) (ci c3) false) (cR (cR (cR (cR (ar Nq)))))):=by kernel_rfl
noncomputable def zcb:Un:=nb (nc MK At Zr 100) (λ_ _ _=>none)
theorem yC:zcb.Ok MK At:=ti Ug (tj Ug (W:=Zr) (λ_ _ _ _ h=>by simp[Zr] at h) 100).2.2.1 (λ_ _ _ _ _ h=>by simp at h)
noncomputable def r3R(p:oN)(e:Int):Option (Exit×List D×List iN):=bb MK At zcb [] (ci c3).toList (ci c3).toList bT (Xc p e)
noncomputable def r3(p:oN)(e:Int):Exit×List D×List iN:=(r3R p e).getD (.normal,[],[])
theorem r3_eq{p:oN}{e:Int}(he:e=150\/e=190\/e=180):r3R p e=some (r3 p e):=by
 rcases he with rfl|rfl|rfl<;>kernel_rfl
def HT:Exit->Bool
 | .normal=>true
 | _=>false
theorem r3_ne{p:oN}{e:Int}(he:e=150\/e=190\/e=180):(r3 p e).1≠.normal:=by
 intro h
 have:HT (r3 p e).1=false:=by rcases he with rfl|rfl|rfl<;>kernel_rfl
 rw[h] at this
 cases this
theorem r3_end{p:oN}{e:Int}(he:e=150\/e=190\/e=180):pG MK Nq (fb MK At Zr 100) 0 (r3 p e).1 {t:=(r3 p e).2.1,h:=(r3 p e).2.2,m:=[]} (some (111,[.ref (.ptr 2 0)]))=some (.ret (.Tt [.agg [nq,aT 0,nq],aT e]) []):=by
 rcases he with rfl|rfl|rfl<;>kernel_rfl
theorem C8{p:oN}{l:List tO}{es:List By}{n e:Int}(he:e=150\/e=190\/e=180)(XQ:∀h,Ev MK At 112 [.agg p.l,ab (l.map MQ)] h (.Tt [aT n,ab (es.map Nc),aT e]) h)(h:List iN):
  Ev MK At 49 [.agg p.l,ab (l.map MQ)] h (.Tt [.agg [nq,aT 0,nq],aT e]) h:=by
 have Up:CW MK At (Xc p 0) false (cR (cR (ar Nq))) {t:=adT l,h:=Xc p 0,m:=[]} (r3 p e).1 {t:=(r3 p e).2.1,h:=(r3 p e).2.2,m:=[]}:=by
  rw[C7]
  exact CW.seq (ad_net XQ) (CW.out (r3_ne he) (CW.Va (s:={t:=bT,h:=Xc p e,m:=[]}) yC (r3_eq he)))
 have h1:=SS (f:=49) (args:=[.agg p.l,ab (l.map MQ)]) (dfn:=fb MK At Zr 100) (h:=[]) (r:=.ret (.Tt [.agg [nq,aT 0,nq],aT e]) []) (fn:=Nq) (c:=ar Nq) Ug rfl rfl C5 (oH Up) (r3_end he)
 exact SA rfl h1.call h
structure WM (n:Nat) (x:By):Prop where
 f0:0<=x.Do
 ft:x.Do<x.to
 tn:x.to<n
 m0:0<=x.most
 m1:x.most<=1073741824
structure Ub (p:oN) (l:List tO):Prop where
 pe:ye p=0
 ae:eW l=0
 rs:p.reqs.length<=64
 ls:l.length<=50000
theorem bif0{b:Bool}{x:Int}(h:(bif b then x else 0)=0)(hx:x≠0):b=false:=by cases b<;>simp_all
theorem HU:∀(rs:List T2),(match Tq ckF rs () with | .inl _=>(0:Int) | .inr _=>190)=0->∀q∈rs,CB q=true
 | [],_,_,hq=>by simp at hq
 | q::rs,h,x,hx=>by
  simp only[Tq,ckF] at h
  cases hq:CB q with
  | false=>rw[hq] at h;simp at h
  | true =>
   rw[hq] at h
   simp only[cond_true] at h
   rcases ND.1 hx with rfl|hx
   ·exact hq
   ·exact HU rs h x hx
section
variable {p:oN} {l:List tO}
theorem Ub.req(h:Ub p l):1<=p.T3/\p.T3<=4/\∀q∈p.reqs,1<=q.oF/\q.oF<=10000:=by
 have h1:=h.pe
 unfold ye at h1
 cases hh:zN p with
 | true=>rw[hh] at h1;simp at h1
 | false =>
  rw[hh] at h1
  simp only[cond_false] at h1
  have h2:=HU _ h1
  unfold zN at hh
  simp only[PW,Ro,U3,M3,decide_eq_true_eq] at hh
  refine⟨by omega,by omega,λq hq=>?_⟩
  have h3:=h2 q hq
  unfold CB at h3
  simp only[U3,M3,decide_eq_true_eq] at h3
  omega
theorem Ub.att(h:Ub p l):∀a∈l,0<=a.oF/\a.oF<=60:=by
 have h1:=bif0 h.ae (by decide)
 intro a ha
 have h2:=List.any_eq_false.1 h1 a ha
 simp only[Bool.not_eq_true,Ro] at h2
 unfold Es at h2
 simp only[U3,M3,decide_eq_true_eq] at h2
 omega
end
theorem C9(a:tO):∀(rs:List T2) (s:List Int×Int) (i:Nat),s.2=i->(∀k∈s.1,0<=k/\k<i)->∀k∈(rs.foldl (Ν a) s).1,0<=k/\k<(i+rs.length:Nat)
 | [],s,i,_,h,k,hk=>by simpa using h k hk
 | q::rs,s,i,hi,h,k,hk=>by
  rw[NI] at hk
  have:=C9 a rs (Ν a s q) (i+1) (by simp[Ν,hi]) (λx hx=>by
   unfold Ν at hx
   cases hb:elB q a with
   | true =>
    rw[hb] at hx
    simp only[cond_true,Oz,Pm] at hx
    rcases hx with hx|rfl
    ·have:=h x hx;omega
    ·omega
   | false =>
    rw[hb] at hx
    have:=h x hx;omega) k hk
  simp only[N3];omega
section
variable {p:oN} {l:List tO}
theorem Da(h:Ub p l){n:Nat}(hn:n=2+l.length+p.reqs.length):∀(bs:List tO) (s:List By×Int) (i:Nat),s.2=i->i+bs.length=l.length->(∀a∈bs,0<=a.oF/\a.oF<=60)->(∀x∈s.1,WM n x)->∀x∈(bs.foldl (ZO p) s).1,WM n x
 | [],s,i,_,_,_,hs=>hs
 | a::bs,s,i,hi,hl,ha,hs=>by
  rw[NI]
  simp only[N3] at hl
  have hls:=h.ls
  have hrs:=h.rs
  obtain⟨u1,u2,_⟩:=h.req
  obtain⟨c0,c1⟩:=ha a (by simp)
  have Xy:0<=a.oF*p.T3:=Int.mul_nonneg c0 (by omega)
  have hm1:a.oF*p.T3<=60*4:=Int.mul_le_mul c1 u2 (by omega) (by omega)
  refine Da h hn bs (ZO p s a) (i+1) (by simp[ZO,hi]) (by omega) (λx hx=>ha x (by simp[hx])) ?_
  intro x hx
  simp only[ZO,Oz,Pm] at hx
  rcases hx with hx|rfl
  ·exact hs x hx
  ·have e1:MM.wrap (1+s.2)=1+s.2:=wrap_i64 (by omega) (by omega)
   have e2:MM.wrap (a.oF*p.T3)=a.oF*p.T3:=wrap_i64 (by omega) (by omega)
   refine⟨?_,?_,?_,?_,?_⟩<;>simp only[e1,e2]<;>omega
theorem Db(h:Ub p l):zQ l=1+(l.length:Int):=by
 have:=h.ls
 unfold zQ
 rw[N7]
 exact wrap_i64 (by omega) (by omega)
theorem Dc(h:Ub p l):wD p l=1+(l.length:Int)+(p.reqs.length:Int):=by
 have:=h.ls
 have:=h.rs
 unfold wD
 rw[Db h,N7]
 exact wrap_i64 (by omega) (by omega)
theorem Dd(h:Ub p l){n:Nat}(hn:n=2+l.length+p.reqs.length){i:Nat}(hi:i<l.length){cr:Int}(c0:0<=cr)(c1:cr<=60):∀(ks:List Int) (es:List By),(∀k∈ks,0<=k/\k<p.reqs.length)->(∀x∈es,WM n x)->∀x∈ks.foldl (Z7 (zQ l) i cr) es,WM n x
 | [],es,_,hs=>hs
 | k::ks,es,hk,hs=>by
  have hls:=h.ls
  have hrs:=h.rs
  rw[NI]
  refine Dd h hn hi c0 c1 ks _ (λx hx=>hk x (by simp[hx])) ?_
  intro x hx
  simp only[Z7,Oz,Pm] at hx
  rcases hx with hx|rfl
  ·exact hs x hx
  ·obtain⟨k0,k1⟩:=hk k (by simp)
   have e1:MM.wrap (1+(i:Int))=1+i:=wrap_i64 (by omega) (by omega)
   have e2:MM.wrap (zQ l+k)=1+l.length+k:=by rw[Db h];exact wrap_i64 (by omega) (by omega)
   refine⟨?_,?_,?_,?_,?_⟩<;>simp only[e1,e2]<;>omega
theorem De(h:Ub p l){n:Nat}(hn:n=2+l.length+p.reqs.length):∀(bs:List tO) (s:List By×Int) (i:Nat),s.2=i->i+bs.length=l.length->(∀a∈bs,0<=a.oF/\a.oF<=60)->(∀x∈s.1,WM n x)->∀x∈(bs.foldl (Y4 p (zQ l)) s).1,WM n x
 | [],s,i,_,_,_,hs=>hs
 | a::bs,s,i,hi,hl,ha,hs=>by
  rw[NI]
  simp only[N3] at hl
  obtain⟨c0,c1⟩:=ha a (by simp)
  refine De h hn bs (Y4 p (zQ l) s a) (i+1) (by simp[Y4,hi]) (by omega) (λx hx=>ha x (by simp[hx])) ?_
  simp only[Y4,hi]
  exact Dd h hn (by omega) c0 c1 _ _ (λk hk=>by have:=C9 a p.reqs ([],0) 0 rfl (by simp) k hk;simpa using this) hs
theorem Df(h:Ub p l){n:Nat}(hn:n=2+l.length+p.reqs.length):∀(qs:List T2) (s:List By×Int) (i:Nat),s.2=i->i+qs.length=p.reqs.length->(∀q∈qs,1<=q.oF/\q.oF<=10000)->(∀x∈s.1,WM n x)->∀x∈(qs.foldl (Ω (zQ l) (wD p l)) s).1,WM n x
 | [],s,i,_,_,_,hs=>hs
 | q::qs,s,i,hi,hl,hq,hs=>by
  rw[NI]
  simp only[N3] at hl
  have hls:=h.ls
  have hrs:=h.rs
  obtain⟨c0,c1⟩:=hq q (by simp)
  refine Df h hn qs (Ω (zQ l) (wD p l) s q) (i+1) (by simp[Ω,hi]) (by omega) (λx hx=>hq x (by simp[hx])) ?_
  intro x hx
  simp only[Ω,Oz,Pm] at hx
  rcases hx with hx|rfl
  ·exact hs x hx
  ·have e2:MM.wrap (zQ l+s.2)=1+l.length+s.2:=by rw[Db h];exact wrap_i64 (by omega) (by omega)
   have e3:=Dc h
   refine⟨?_,?_,?_,?_,?_⟩<;>simp only[e2,e3]<;>omega
theorem jW(h:Ub p l):∀x∈mu p l,WM (2+l.length+p.reqs.length) x:=by
 have h1:∀x∈K0 p l,WM (2+l.length+p.reqs.length) x:=Da h rfl l ([],0) 0 rfl (by simp) h.att (by simp)
 have h2:∀x∈K1 p l,WM (2+l.length+p.reqs.length) x:=De h rfl l (K0 p l,0) 0 rfl (by simp) h.att h1
 exact Df h rfl p.reqs (K1 p l,0) 0 rfl (by simp) h.req.2.2 h2
end
abbrev bH(p:oN)(e:Int):List iN:=[.var p.l,.var [nq,aT 0,nq],.var [aT e],.var [ab []]]
noncomputable abbrev oI(p:oN):List iN:=[.var [aq p.nm,aT p.number,aT p.T3,aT p.ON,aT p.num,aT p.den,ab (ML M5 p.reqs)],.var [nq,aT 0,nq],.var [aT 0]]
theorem ad_max{p:oN}{l:List tO}{es:List By}{n e:Int}{x:Exit}{H:List iN}
  (XQ:∀h,Ev MK At 112 [.agg p.l,ab (l.map MQ)] h (.Tt [aT n,ab (es.map Nc),aT 0]) h)
  (ZW:∀h,Ev MK At 113 [aT n,ab (es.map Nc),aT 0,aT (MM.wrap (n-1))] h (.Tt [ab [],ab [],aT e]) h)
  (ht:CW MK At (Xc p 0) false (bc (ar Nq) 5) {t:=bT,h:=bH p e,m:=[]} x {t:=bT,h:=H,m:=[]}):(CW MK At (Xc p 0) false (cR (cR (ar Nq))) {t:=adT l,h:=Xc p 0,m:=[]} x {t:=bT,h:=H,m:=[]}):=by
 have Tv:=(@ht)
 exact yx [] [.v (@XQ (oI p)),.v (@fY (oI p)),.v (@ZW (oI p)),Tv,.a1 (.WE [4,5] x {t:=DO 84 0 [(4,.ref (.ptr 1 0)),(5,.ref (.ptr 2 0))],h:=H})]
theorem CW.maskE{P:Program}{Γ:ao}{h0:List iN}{rd:Bool}{c:Code}{s s':AS}{e:Exit}(ks:List Nat)(hw:CW P Γ h0 rd c s e s'):CW P Γ h0 rd c s e (lP ks s'):=by
 intro X r hn VJ a w hs
 refine wpIn_mono (hw X r hn VJ a w hs) ?_
 rintro e2 a2 w2 ⟨h2,s2,⟨rfl,rfl⟩,h4⟩
 obtain⟨k1,k2⟩:=mc ks 0 s2.t
 exact⟨h2,_,⟨rfl,rfl⟩,h4.wk k1 k2⟩
theorem CW.preS{P:Program}{Γ:ao}{h0:List iN}{rd:Bool}{c:Code}{s s1 s':AS}{e:Exit}{φ:List Prop}(az:List Ua)(hp:Go.Vi.pre h0 s az=some (s1,[],φ))(hφ:Tm φ)(hw:CW P Γ h0 rd c s1 e s'):CW P Γ h0 rd c s e s':=by
 intro X r hX hr a w hs
 subst hX
 exact hw X r rfl hr a w (pR _ _ _ _ _ hp hφ a w hs)
noncomputable abbrev c5:Code:=cL (bc (ar Nq) 5)
theorem Dg:bc (ar Nq) 5=.seq (.region (C4 c5) (ci c5) false) (cR (bc (ar Nq) 5)):=by kernel_rfl
noncomputable def r5R(p:oN):Option (Exit×List D×List iN):=bb MK At zcb [] (ci c5).toList (ci c5).toList bT (Xc p 180)
noncomputable def r5(p:oN):Exit×List D×List iN:=(r5R p).getD (.normal,[],[])
theorem r5_eq{p:oN}:r5R p=some (r5 p):=by kernel_rfl
theorem r5_ne{p:oN}:(r5 p).1≠.normal:=by
 intro h
 have:HT (r5 p).1=false:=by kernel_rfl
 rw[h] at this
 cases this
theorem LB{p:oN}:ro [4,5] 0 (r5 p).2.1=bT:=by kernel_rfl
theorem r5_end{p:oN}:pG MK Nq (fb MK At Zr 100) 0 (r5 p).1 {t:=bT,h:=(r5 p).2.2,m:=[]} (some (111,[.ref (.ptr 2 0)]))=some (.ret (.Tt [.agg [nq,aT 0,nq],aT 180]) []):=by kernel_rfl
theorem Dh{p:oN}{l:List tO}{es:List By}{n:Int}(XQ:∀h,Ev MK At 112 [.agg p.l,ab (l.map MQ)] h (.Tt [aT n,ab (es.map Nc),aT 0]) h)
  (ZW:∀h,Ev MK At 113 [aT n,ab (es.map Nc),aT 0,aT (MM.wrap (n-1))] h (.Tt [ab [],ab [],aT 180]) h) (h:List iN) :
  Ev MK At 49 [.agg p.l,ab (l.map MQ)] h (.Tt [.agg [nq,aT 0,nq],aT 180]) h:=by
 have ht:CW MK At (Xc p 0) false (bc (ar Nq) 5) {t:=bT,h:=bH p 180,m:=[]} (r5 p).1 {t:=bT,h:=(r5 p).2.2,m:=[]}:=by
  refine CW.preS [.st (.TD 3)] (s1:={t:=bT,h:=Xc p 180,m:=[]}) (by kernel_rfl) (.c (show MZ 3 (.var p.l)=true from rfl) (.c (show MZ 3 (.var [nq,aT 0,nq])=true from rfl) (.c (show MZ 3 (.var [aT 180])=true from rfl) .n))) ?_
  have h0:CW MK At (Xc p 0) false (bc (ar Nq) 5) {t:=bT,h:=Xc p 180,m:=[]} (r5 p).1 {t:=(r5 p).2.1,h:=(r5 p).2.2,m:=[]}:=by
   rw[Dg]
   exact CW.out r5_ne (CW.Va (s:={t:=bT,h:=Xc p 180,m:=[]}) yC r5_eq)
  have h1:=CW.maskE [4,5] h0
  unfold lP at h1
  rw[LB] at h1
  exact h1
 have h1:=SS (f:=49) (args:=[.agg p.l,ab (l.map MQ)]) (dfn:=fb MK At Zr 100) (h:=[]) (r:=.ret (.Tt [.agg [nq,aT 0,nq],aT 180]) []) (fn:=Nq) (c:=ar Nq) Ug rfl rfl C5 (oH (ad_max XQ ZW ht)) r5_end
 exact SA rfl h1.call h
def xeF(p:By->Bool)(c:By)(s:Nat):Nat⊕Nat:=if p c=true then .inr s else .inl (s+1)
abbrev xeS(fs:List (List Dp))(f:D)(h:List iN)(i:Int):AS:={t:=DO 19 0 [(0,ab fs),(1,f),(4,aT 0),(7,aT fs.length),(8,aT i)],h:=h,m:=[]}
abbrev xeX(h:List iN):Nat->Exit×AS:=λk=>(.ret,{t:=DO 19 0 [(4,aT (k:Int))],h:=h,m:=[]})
theorem LC{fs:List (List Dp)}{i:Nat}{c:By}{f:D}{h:List iN}{p:By->Bool}(hr:ap (i:Int) fs (Nc c) 3)(IN:Zd ((i:Int)<(fs.length:Int))=true)(hw:MM.wrap ((i:Int)+1)=((i+1:Nat):Int))(hi:Iv MK At f [ag (Nc c)] h (iF (p c)) h):(CW MK At h false (sub Tryz.f327 0) (xeS fs f h i) (af (λ_=>xeS fs f h ((i+1:Nat):Int)) (xeX h) (xeF p c i)).1 (af (λ_=>xeS fs f h ((i+1:Nat):Int)) (xeX h) (xeF p c i)).2):=by
 cases Of:p c
 ·refine yX {t:=DO 19 0 [(0,ab fs),(1,f),(4,aT 0),(7,aT (↑(MO fs):Int)),(8,aT (MN MM ((↑i:Int)+1)))],h:=h,m:=[]} M8 [.st (.mask [0,1,4,7,8])] [.b IN,.r hr,.i (@hi),.b Of] ?_ ?_<;>(simp[xeF,af,hw, *])
 ·refine yX {t:=DO 19 0 [(4,aT (↑i:Int))],h:=h,m:=[]} Exit.ret [.st (.mask [4])] [.b IN,.r hr,.i (@hi),.b Of] ?_ ?_<;>(simp[xeF,af,hw, *])
theorem LD{fs:List (List Dp)}{i:Nat}{f:D}{h:List iN}(IN:Zd ((i:Int)<(fs.length:Int))=false):(CW MK At h false (sub Tryz.f327 0) (xeS fs f h i) (.exit 0) {t:=DO 19 0 [(4,aT 0)],h:=h,m:=[]}):=by
 exact yx [.st (.mask [4])] [.b IN]
def xeR(p:By->Bool)(l:List By):Int:=match Tq (xeF p) l 0 with | .inl _ => -1 | .inr k=>(k:Int)
def LE(h:List iN)(p:By->Bool)(l:List By):Exit×AS:=bu (.exit 0) (λ_:Nat=>{t:=DO 19 0 [(4,aT 0)],h:=h,m:=[]}) (xeX h) (Tq (xeF p) l 0)
theorem xe_cw{l:List By}(hl:ah l){f:D}{h:List iN}{p:By->Bool}(hf:∀c∈l,Iv MK At f [ag (Nc c)] h (iF (p c)) h):
  CW MK At h false (.loop (sub Tryz.f327 0)) (xeS (l.map Nc) f h 0) (LE h p l).1 (LE h p l).2:=by
 refine OS l (xeF p) (λi _=>xeS (l.map Nc) f h (i:Int)) (.exit 0) _ (xeX h) (λi s=>s=i) (by simp) (λ_=>by simp) ?_ ?_ 0 rfl
 ·intro i c s hc hs
  subst hs
  have hi:=(MR.1 hc).1
  refine⟨λs' h=>?_,LC (rowAt (row:=Nc) hc rfl) (TG Nc hi) (T4 hi hl) (hf c (List.mem_of_getElem? hc))⟩
  grind [xeF]
 ·intro s hs
  exact LD (be Nc l)
theorem xei_ev{l:List By}(hl:ah l){f:D}{h:List iN}{p:By->Bool}(hf:∀c∈l,Iv MK At f [ag (Nc c)] h (iF (p c)) h):(Ev MK At 327 [ab (l.map Nc),f] h (aT (xeR p l)) h):=by
 have Tv:=(@xe_cw (l) (hl) (f) (h) (p) (hf))
 unfold LE at Tv
 revert Tv
 cases Vj:Tq (xeF p) l 0 with
 | inl VC =>
  intro Tv
  exact Na (yF (h':=h) (d:=aT (-1)) [.s [0,1,4,7,8] Tv]) (by simp[xeR,Vj]) (by simp[xeR,Vj])
 | inr UD =>
  intro Tv
  exact Na (yF (h':=h) (d:=aT (↑UD:Int)) [.s [0,1,4,7,8] Tv]) (by simp[xeR,Vj]) (by simp[xeR,Vj])
theorem xeR_ge(p:By->Bool)(l:List By):Zd (xeR p l>=0)=l.any p:=by
 have key:∀(l:List By) (s:Nat),(match Tq (xeF p) l s with | .inl _=>false | .inr _=>true)=l.any p:=by
  intro l
  induction l with
  | nil=>intro s;rfl
  | cons c l ih =>
   intro s
   simp[Tq,xeF]
   by_cases hp:p c=true
   ·simp[hp]
   simp_all
 rw[<-key l 0]
 grind [xeR]
theorem xec_ev{l:List By}(hl:ah l){f:D}{h:List iN}{p:By->Bool}(hf:∀c∈l,Iv MK At f [ag (Nc c)] h (iF (p c)) h):(Ev MK At 310 [ab (l.map Nc),f] h (iF (l.any p)) h):=by
 exact Na (yF (h':=h) (d:=iF (Zd (xeR p l>=0))) [.v (@xei_ev l hl f h p hf)]) (by grind [xeR_ge]) (by grind)
def Di(n v:Int):Bool:=Zd (v>=0)&&Zd (v<n)
def lH(n:Int)(x:By):Bool:=!Di n x.Do||!Di n x.to||x.Do==x.to||Zd (x.most<0)||Zd (x.most>1073741824)
abbrev HV(n:Int):List iN:=[.var [aT n],.var [.fn (.func 309) [] [.ref (.ptr 0 0)]]]
theorem HW{n v:Int}:(Ev MK At 309 [aT v,.ref (.ptr 0 0)] (HV n) (iF (Di n v)) (HV n)):=by
 exact Na (yF (h':=[.var [aT n],.var [Ot (Nl 309) [] [.ref (.ptr 0 0)]]]) (d:=iF (Zd (v>=0)&&Zd (v<n))) []) (by rfl) (by rfl)
noncomputable abbrev gI(n:Int)(x:By):List iN:=[.var [aT n],.var [Ot (Nl 309) [] [.ref (.ptr 0 0)]],.var [aT x.Do,aT x.to,aT x.most]]
theorem edg_ev{n:Int}{x:By}:(Ev MK At 311 [ag x.row,.ref (.ptr 1 0)] (HV n) (iF (lH n x)) (HV n)):=by
 exact Na (Ev.post (d2:=iF (!Di n x.Do||!Di n x.to||x.Do==x.to||Zd (x.most<0)||Zd (x.most>1073741824))) (h2:=[.var [aT n],.var [Ot (Nl 309) [] [.ref (.ptr 0 0)]]]) (φ:=[]) [.st (.trim 2)] (yF (h':=(gI n x)) (d:=iF (!Di n x.Do||!Di n x.to||x.Do==x.to||Zd (x.most<0)||Zd (x.most>1073741824))) [.v ((fX [0,1] (@HW n (x.Do)) trivial trivial):Ev MK At 309 [aT x.Do,.ref (.ptr 0 0)] (gI n x) (iF (Di n x.Do)) (gI n x)),.w (!!Di n x.Do) (fX [0,1] (@HW n (x.to)) trivial trivial:Ev MK At 309 [aT x.to,.ref (.ptr 0 0)] (gI n x) (iF (Di n x.to)) (gI n x))]) (by kernel_rfl) trivial) (by rfl) (by rfl)
theorem edi_a{n:Int}{l:List By}:∀c∈l,Iv MK At (.fn (.func 311) [] [.ref (.ptr 1 0)]) [ag (Nc c)] (HV n) (iF (lH n c)) (HV n):=λc _=>Iv.of (f:=311) (fi:=[]) (ca:=[.ref (.ptr 1 0)]) Ug rfl (by kernel_rfl) edg_ev
theorem HX{n:Int}{l:List By}(hl:ah l):Ev MK At 310 [ab (l.map Nc),.fn (.func 311) [] [.ref (.ptr 1 0)]] (HV n) (iF (l.any (lH n))) (HV n):=xec_ev hl edi_a
def Af(n:Int)(l:List By):Int:=match Zd (n<2)||Zd (n>4096)||Zd (((l.map Nc).length:Int)>65536) with
 | true=>180
 | false=>match l.any (lH n) with
  | true=>180
  | false=>0
theorem Dj{n:Int}{l:List By}(hl:ah l)(h:List iN):(Ev MK At 270 [aT n,ab (l.map Nc)] h (aT (Af n l)) h):=by
 cases Of:Zd (n<2)||Zd (n>4096)||Zd ((↑(MO (ML Nc l)):Int)>65536)
 ·cases TH:List.any l (lH n)
  ·exact yD (aT 0) [.b Of,.v (@HX n l hl),.b TH] h (by(simp only[Af,Of,TH];first|done|rfl))
  ·exact yD (aT 180) [.b Of,.v (@HX n l hl),.b TH] h (by(simp only[Af,Of,TH];first|done|rfl))
 ·exact yD (aT 180) [.b Of] h (by(simp only[Af,Of];first|done|rfl))
def oJ(n a b:Int):Bool:=Zd (a<0)||Zd (a>=n)||Zd (b<0)||Zd (b>=n)||a==b
def HY(n:Int)(l:List By)(a b:Int):Int:=match Af n l != 0 with
 | true=>Af n l
 | false=>match oJ n a b with
  | true=>180
  | false=>0
theorem Dk{n a b:Int}{l:List By}(hl:ah l)(h:List iN):(Ev MK At 189 [aT n,ab (l.map Nc),aT a,aT b] h (aT (HY n l a b)) h):=by
 cases Of:Af n l != 0
 ·cases TH:Zd (a<0)||Zd (a>=n)||Zd (b<0)||Zd (b>=n)||a==b
  ·exact yD (aT 0) [.v (@Dj n l hl ([])),.b Of,.b TH] h (by(simp[HY,oJ,Of,TH];first|done|rfl))
  ·exact yD (aT 180) [.v (@Dj n l hl ([])),.b Of,.b TH] h (by(simp[HY,oJ,Of,TH];first|done|rfl))
 ·exact yD (aT (Af n l)) [.v (@Dj n l hl ([])),.b Of] h (by(simp[HY,Of];first|done|rfl))
theorem WM.UV{n:Nat}{x:By}(h:WM n x):dQ n x:=⟨h.f0,by have:=h.ft;have:=h.tn;omega,by have:=h.f0;have:=h.ft;omega,h.tn⟩
theorem WM.ok{n:Nat}{x:By}(h:WM n x):lH (n:Int) x=false:=by
 obtain⟨a,b,c,d,e⟩:=h
 unfold lH Di
 simp only[PW,Ro,M3,decide_eq_true_eq,decide_eq_false_iff_not,beq_eq_false_iff_ne]
 omega
theorem Dl{p:oN}{mid:Int}:∀(bs:List tO) (s:List By×Int),(bs.foldl (Y4 p mid) s).1.length=s.1.length+fk p bs
 | [],s=>by simp[fk]
 | a::bs,s=>by
  rw[NI,Dl bs]
  simp only[Y4,yh,fk,Pr,List.sum_cons]
  omega
theorem Dm{mid sink:Int}:∀(qs:List T2) (s:List By×Int),(qs.foldl (Ω mid sink) s).1.length=s.1.length+qs.length
 | [],s=>by simp
 | q::qs,s=>by
  rw[NI,Dm qs]
  simp only[Ω,List.length_append,N3,List.length_nil]
  omega
theorem uV(p:oN):∀(bs:List tO),fk p bs<=bs.length*p.reqs.length
 | []=>by simp[fk]
 | a::bs=>by
  have h1:=uV p bs
  have h2:=sg p a
  simp only[fk,Pr,List.sum_cons,N3,Nat.add_mul,Nat.one_mul] at h1 ⊢
  omega
section
variable {p:oN} {l:List tO}
theorem oK:(mu p l).length=l.length+fk p l+p.reqs.length:=by
 unfold mu K1
 rw[Dm,Dl,sh]
abbrev nN(p:oN)(l:List tO):Nat:=2+l.length+p.reqs.length
theorem Ub.size(h:Ub p l):(mu p l).length<=3300000:=by
 have h1:=uV p l
 have h2:l.length*p.reqs.length<=50000*64:=Nat.mul_le_mul h.ls h.rs
 have h3:=h.ls
 have h4:=h.rs
 rw[oK];omega
theorem Ub.sums(h:Ub p l):(fh l).2.2=0:=by
 unfold fh
 rw[h.ae];rfl
theorem Ub.net(h:Ub p l):HI p l=((nN p l:Int),mu p l,0):=by
 have hN:nN p l=2+l.length+p.reqs.length:=rfl
 have h1:=h.ls
 have h2:=h.rs
 have e:MM.wrap (wD p l+1)=(nN p l:Int):=by rw[Dc h,wrap_i64 (by omega) (by omega)];omega
 show yj p l (fh l).2.2=_
 unfold yj
 rw[h.pe,h.sums,e]
 rfl
structure XY (p:oN) (l:List tO):Prop where
 n:nN p l<=4096
 e:(mu p l).length<=65536
theorem Ub.chk(h:Ub p l)(hf:XY p l):HY (nN p l:Int) (mu p l) 0 ((nN p l:Int)-1)=0:=by
 have hN:nN p l=2+l.length+p.reqs.length:=rfl
 have h1:=h.ls
 have h2:=h.rs
 have h3:=hf.e
 have h4:=hf.n
 have hb:(mu p l).any (lH (nN p l:Int))=false:=List.any_eq_false.2 λx hx=>by rw[(jW h x hx).ok];simp
 have hc:Af (nN p l:Int) (mu p l)=0:=by
  unfold Af
  have:(Zd ((nN p l:Int)<2)||Zd ((nN p l:Int)>4096)||Zd ((((mu p l).map Nc).length:Int)>65536))=false:=by
   simp only[PW,decide_eq_false_iff_not,N7];omega
  rw[this,hb]
 unfold HY
 rw[hc]
 have:oJ (nN p l:Int) 0 ((nN p l:Int)-1)=false:=by
  unfold oJ
  simp only[PW,decide_eq_false_iff_not,beq_eq_false_iff_ne];omega
 rw[this]
 rfl
def auR(p:oN)(l:List tO)(fl:List Int):Wy:=(l.foldl (a3F p fl) (⟨[],p.reqs.foldl auF 0,((l.map MQ).length:Int)⟩,0)).1
theorem Gw(hp:p.ok)(h:Ub p l)(hf:XY p l){j:Nat}{g:List Int×List Int}(hR:YO (iP (nN p l) (mu p l)) (mu p l) (nN p l) 0 ((nN p l:Int)-1) j (MU (mu p l).length 0) g)(hg:g.1.length=(mu p l).length)(h0:List iN):
  Ev MK At 49 [.agg p.l,ab (l.map MQ)] h0 (.Tt [.agg [ab ((auR p l g.1).us.map Wc.row),aT (auR p l g.1).ms,ab (cH (DQ g.2))],aT 0]) h0:=by
 have h1:=h.ls
 have h2:=h.rs
 have h3:=hf.e
 have h4:=hf.n
 have hN:nN p l=2+l.length+p.reqs.length:=rfl
 have hw:MM.wrap ((nN p l:Int)-1)=(nN p l:Int)-1:=wrap_i64 (by omega) (by omega)
 refine LA (n:=(nN p l:Int)) (es:=mu p l) (ms:=p.reqs.foldl auF 0) (fl:=g.1) (cut:=DQ g.2) (s:=auR p l g.1) (λh=>?_) (λh=>?_) (au_cw (by omega)) ?_ h0
 ·have:=CJ hp (l:=l) (by omega) (by omega) h
  rw[Ub.net ‹Ub p l›] at this
  exact this
 ·rw[hw]
  refine Lo (n:=nN p l) (by omega) (by omega) (by omega) (λx hx=>(jW ‹Ub p l› x hx).UV) ⟨by omega,by simp;omega⟩ ⟨by omega,by omega⟩ (λh=>?_) hR h
  have:=Dk (n:=(nN p l:Int)) (a:=0) (b:=(nN p l:Int)-1) (l:=mu p l) (by unfold ah;omega) h
  rw[Ub.chk ‹Ub p l› hf] at this
  exact this
 ·exact Lz (s:=⟨[],p.reqs.foldl auF 0,((l.map MQ).length:Int)⟩) (c:=l.length) hp (by omega) (by omega) (by simp) (by rw[hg,oK];omega) (by omega) rfl
theorem Ub.chk_big(h:Ub p l)(hf:¬XY p l):HY (nN p l:Int) (mu p l) 0 ((nN p l:Int)-1)=180:=by
 have hb:(Zd ((nN p l:Int)<2)||Zd ((nN p l:Int)>4096)||Zd ((((mu p l).map Nc).length:Int)>65536))=true:=by
  rw[Sb,Sb,decide_eq_true_eq,decide_eq_true_eq,decide_eq_true_eq,N7]
  apply Classical.byContradiction
  intro hn
  exact hf ⟨by omega,by omega⟩
 have hc:Af (nN p l:Int) (mu p l)=180:=by unfold Af;rw[hb]
 unfold HY
 rw[hc]
 rfl
theorem Dn(hp:p.ok)(h:Ub p l)(hf:¬XY p l)(h0:List iN):Ev MK At 49 [.agg p.l,ab (l.map MQ)] h0 (.Tt [.agg [nq,aT 0,nq],aT 180]) h0:=by
 have h1:=h.ls
 have h2:=h.rs
 have hN:nN p l=2+l.length+p.reqs.length:=rfl
 have hw:MM.wrap ((nN p l:Int)-1)=(nN p l:Int)-1:=wrap_i64 (by omega) (by omega)
 refine Dh (n:=(nN p l:Int)) (es:=mu p l) (λh'=>?_) (λh'=>?_) h0
 ·have:=CJ hp (l:=l) (by omega) (by omega) h'
  rw[Ub.net h] at this
  exact this
 ·rw[hw]
  refine Lk (n:=nN p l) (λh'=>?_) rfl h'
  have h3:=h.size
  have:=Dk (n:=(nN p l:Int)) (a:=0) (b:=(nN p l:Int)-1) (l:=mu p l) (by unfold ah;omega) h'
  rw[Ub.chk_big h hf] at this
  exact this
end
abbrev RL:=List BY×List Int
abbrev eqH(w:iS)(rs:List BY)(l:List Int):List iN:=[.var w.l,.bY (ad (M2 rs)) 0 5,.bY (TQ l) 0 1,nV l]
abbrev eiS(w:iS)(bV bv:Int)(ns:List (List Dp))(rs:List BY)(l:List Int)(i:Nat)(k:Int):AS :=
 {t:=DO 100 0 [(2,aT bV),(3,aT bv),(4,.ref (.ptr 0 0)),(8,.ref (.bY 2 0)),(9,.ref (.bY 1 0)),(10,ab ns),(11,.ref (.mp 3)),(12,aT i),(45,ab ns),(46,aT ns.length),(47,aT k)],h:=eqH w rs l,m:=[]}
abbrev eoS(w:iS)(bV bv:Int)(ns:List (List Dp))(rs:List BY)(l:List Int)(i:Nat):AS :=
 {t:=DO 100 0 [(2,aT bV),(3,aT bv),(4,.ref (.ptr 0 0)),(8,.ref (.bY 2 0)),(9,.ref (.bY 1 0)),(10,ab ns),(11,.ref (.mp 3)),(12,aT i)],h:=eqH w rs l,m:=[]}
abbrev eoE(w:iS)(rs:List BY)(l:List Int):AS :=
 {t:=DO 100 0 [(8,.ref (.bY 2 0)),(9,.ref (.bY 1 0))],h:=eqH w rs l,m:=[]}
def Yg(a b:Int):Int:=if b<a then b else a
def Yf(a b:Int):Int:=if b>a then b else a
def Μ(w:iS)(bV bv a n:Int):Bool:=(atR 2 (Yg a n) (Yf a n) bV bv w.f).2&&(atR 2 (Yg a n) (Yf a n) bV bv w.f).1==1
def WX(w:iS)(bV bv a:Int)(s:RL)(n:Int):RL :=
 bif s.2.contains n then s else (s.1++[⟨2,Yg a n,Yf a n,bV,MM.wrap (bV+1)⟩],bif Μ w bV bv a n then s.2++[n] else s.2)
theorem lkE{h:List iN}{l:List Int}{c:Int}(hb:h[3]? = some (nV l)):aA MK h 190 (.ref (.mp 3)) (aT c) false=some (iF (l.contains c)):=qe (kt:=3) (et:=4) (by kernel_rfl) (by kernel_rfl) (by kernel_rfl) hb
theorem upE{h:List iN}{l:List Int}{c:Int}(hb:h[3]? = some (nV l))(hn:l.contains c=false):aH MK h 190 (.ref (.mp 3)) (aT c) (iF true)=some (h.set 3 (nV (l++[c]))):=qf (kt:=3) (et:=4) (by kernel_rfl) (by kernel_rfl) hb (by simpa using hn)
theorem Dq{h:List iN}{l:List Int}{i e:Nat}{a:Int}(hb:h[2]? = some (.bY (TQ l) e 1))(ha:l[i]? = some a):aI MK h 3 (.ref (.vp 2 e (MP (i:Int)) 0))=some (aT a):=by
 have e1:(TQ l)[MP (i:Int)]? = some [aT a]:=by simp[ha]
 unfold aI
 simp only[hb,e1,if_true,RM]
 rfl
theorem HZ{l:List Int}{i:Nat}{a:Int}(ha:l[i]? = some a):TU (i:Int) (TQ l).length=true:=by
 grind [TU]
theorem iR(rs:List BY)(a b c d e:Int):ad (M2 rs)++[[aT a,aT b,aT c,aT d,aT e]]=ad (M2 (rs++[⟨a,b,c,d,e⟩])):=by simp[ad,BY.row]
theorem nu_vp{l:List Int}{i:Nat}{a:Int}(ha:l[i]? = some a):IA MK 3 (TQ l) 0 0 (MP (i:Int)) 0 (aT a):=by
 have e1:(TQ l)[MP (i:Int)]? = some [aT a]:=by simp[ha]
 unfold IA
 simp only[e1,if_true,RM]
 rfl
noncomputable abbrev lg(w:iS)(bV:Int)(rs:List BY)(l:List Int)(a:Int)(n:Int):List iN:=[.var [ab (ML MX w.c),ab w.p,ab (ML M4 w.s),ab (ML MY w.f)],.bY (ad (M2 rs)++[[aT 2,aT (if false=true then if n>a then n else a else if n<a then n else a),aT (if true=true then if n>a then n else a else if n<a then n else a),aT bV,aT (MN MM (bV+1))]]) 1 5,.bY (TQ l) 0 1,.map (aL l) (MO l),.var [aT 2,aT (if false=true then if n>a then n else a else if n<a then n else a),aT (if true=true then if n>a then n else a else if n<a then n else a)],.bY [[aT 2,aT (if false=true then if n>a then n else a else if n<a then n else a),aT (if true=true then if n>a then n else a else if n<a then n else a),aT bV,aT (MN MM (bV+1))]] 0 5]
theorem LF{w:iS}(hwf:ah w.f){bV bv:Int}{ns:List (List Dp)}{rs:List BY}{l:List Int}{i k:Nat}{a n:Int}(ha:l[i]? = some a)(hr:ap (k:Int) ns [vi n] 1)(IN:Zd ((k:Int)<(ns.length:Int))=true)(Yr:MM.wrap ((k:Int)+1)=((k+1:Nat):Int))(hb:rs.length<=999998000)(hl:l.length<=70000):(CW MK At [] false (sub Rs 1) (eiS w bV bv ns rs l i k) .normal (eiS w bV bv ns (WX w bV bv a (rs,l) n).1 (WX w bV bv a (rs,l) n).2 i ((k+1:Nat):Int))):=by
 cases Of:N4 l n
 ·cases TH:(atR 2 (if false=true then if n>a then n else a else if n<a then n else a) (if true=true then if n>a then n else a else if n<a then n else a) bV bv w.f).2&&(atR 2 (if false=true then if n>a then n else a else if n<a then n else a) (if true=true then if n>a then n else a else if n<a then n else a) bV bv w.f).fst==1
  ·refine yX {t:=DO 100 0 [(2,aT bV),(3,aT bv),(4,.ref (.ptr 0 0)),(8,.ref (.bY 2 0)),(9,.ref (.bY 1 0)),(10,ab ns),(11,.ref (.mp 3)),(12,aT (↑i:Int)),(45,ab ns),(46,aT (↑(MO ns):Int)),(47,aT (MN MM ((↑k:Int)+1)))],h:=[.var [ab (ML MX w.c),ab w.p,ab (ML M4 w.s),ab (ML MY w.f)],.bY (ad (M2 rs)++[[aT 2,aT (if false=true then if n>a then n else a else if n<a then n else a),aT (if true=true then if n>a then n else a else if n<a then n else a),aT bV,aT (MN MM (bV+1))]]) 0 5,.bY (TQ l) 0 1,.map (aL l) (MO l)],m:=[]} M8 [.st (.mask [2,3,4,8,9,10,11,12,45,46,47]),.st (.Vz 1 0),.st (.Vz 2 0),.st (.TD 4)] [.b IN,.r hr,(show @Eq (Option D) (aA MK [.var (Nz w),.bY (ad (M2 rs)) 0 5,.bY (TQ l) 0 1,.map (aL l) (MO l)] 190 (.ref (.mp 3)) (aT n) false) (some (iF (N4 l n))) from ?_),.a1 (.ov 53 (iF (N4 l n))),.b Of,(show TU (↑i:Int) (MO (TQ l))=true from ?_),(show @Eq (Option D) (aI MK [.var (Nz w),.bY (ad (M2 rs)) 0 5,.bY (TQ l) 0 1,.map (aL l) (MO l)] 3 (.ref (.vp 2 0 (MP (↑i:Int)) 0))) (some (aT a)) from ?_),(show TU (↑i:Int) (MO (TQ l))=true from ?_),(show @Eq (Option D) (aI MK [.var (Nz w),.bY (ad (M2 rs)) 0 5,.bY (TQ l) 0 1,.map (aL l) (MO l)] 3 (.ref (.vp 2 0 (MP (↑i:Int)) 0))) (some (aT a)) from ?_),(show TU (↑i:Int) (MO (TQ l))=true from ?_),pe (.ref (.vp 2 0 (MP (↑i:Int)) 0)),(show TU (↑i:Int) (MO (TQ l))=true from ?_),pe (.ref (.vp 2 0 (MP (↑i:Int)) 0)),(show @Eq (Option D) (if 0=0 then match (TQ l)[MP (↑i:Int)]? with|some row=>cb MK 3 (Od 0 row)|none=>none else none) (some (aT a)) from ?_),(show @Eq (Option D) (if 0=0 then match (TQ l)[MP (↑i:Int)]? with|some row=>cb MK 3 (Od 0 row)|none=>none else none) (some (aT a)) from ?_),(show TU (↑i:Int) (MO (TQ l))=true from ?_),pe (.ref (.vp 2 0 (MP (↑i:Int)) 0)),(show TU (↑i:Int) (MO (TQ l))=true from ?_),pe (.ref (.vp 2 0 (MP (↑i:Int)) 0)),(show @Eq (Option D) (if 0=0 then match (TQ l)[MP (↑i:Int)]? with|some row=>cb MK 3 (Od 0 row)|none=>none else none) (some (aT a)) from ?_),(show @Eq (Option D) (if 0=0 then match (TQ l)[MP (↑i:Int)]? with|some row=>cb MK 3 (Od 0 row)|none=>none else none) (some (aT a)) from ?_),(show(NH [[aT 2,aT (if false=true then if n>a then n else a else if n<a then n else a),aT (if true=true then if n>a then n else a else if n<a then n else a),aT bV,aT (MN MM (bV+1))]] (bf 5)&&Tw (MO (ad (M2 rs))+MO [[aT 2,aT (if false=true then if n>a then n else a else if n<a then n else a),aT (if true=true then if n>a then n else a else if n<a then n else a),aT bV,aT (MN MM (bV+1))]]) 40)=true from ?_),.a1 (.ov 57 (aT a)),.a1 (.ov 63 (aT a)),.v (@zh (2) (if false=true then if n>a then n else a else if n<a then n else a) (if true=true then if n>a then n else a else if n<a then n else a) (bV) (bv) (w.f) (hwf) ((lg w bV rs l a n))),.b TH,(show ML (Nm (ax 1 1 0)) (ad (M2 rs)++[[aT 2,aT (if false=true then if n>a then n else a else if n<a then n else a),aT (if true=true then if n>a then n else a else if n<a then n else a),aT bV,aT (MN MM (bV+1))]])=ad (M2 rs)++[[aT 2,aT (if false=true then if n>a then n else a else if n<a then n else a),aT (if true=true then if n>a then n else a else if n<a then n else a),aT bV,aT (MN MM (bV+1))]] from ?_),(show ML (Nm (ax 1 1 0)) (TQ l)=TQ l from ?_),(show ML (λe=>(NA (ax 1 1 0) e.fst,NA (ax 1 1 0) e.2.fst,e.2.2)) (aL l)=aL l from ?_),(show [[aT 2,aT (if false=true then if n>a then n else a else if n<a then n else a),aT (if true=true then if n>a then n else a else if n<a then n else a),aT bV,aT (MN MM (bV+1))]]=[[aT 2,aT (if false=true then if n>a then n else a else if n<a then n else a),aT (if true=true then if n>a then n else a else if n<a then n else a),aT bV,aT (MN MM (bV+1))]] from rfl),(show ML (Nm (ax 2 0 0)) (TQ l)=TQ l from ?_),(show ML (Nm (ax 2 0 0)) (ad (M2 rs)++[[aT 2,aT (if false=true then if n>a then n else a else if n<a then n else a),aT (if true=true then if n>a then n else a else if n<a then n else a),aT bV,aT (MN MM (bV+1))]])=ad (M2 rs)++[[aT 2,aT (if false=true then if n>a then n else a else if n<a then n else a),aT (if true=true then if n>a then n else a else if n<a then n else a),aT bV,aT (MN MM (bV+1))]] from ?_),(show ML (λe=>(NA (ax 2 0 0) e.fst,NA (ax 2 0 0) e.2.fst,e.2.2)) (aL l)=aL l from ?_),(show [[aT 2,aT (if false=true then if n>a then n else a else if n<a then n else a),aT (if true=true then if n>a then n else a else if n<a then n else a),aT bV,aT (MN MM (bV+1))]]=[[aT 2,aT (if false=true then if n>a then n else a else if n<a then n else a),aT (if true=true then if n>a then n else a else if n<a then n else a),aT bV,aT (MN MM (bV+1))]] from rfl),(show MZ 4 (match 0==2 with|true=>.bY (TQ l) 0 1|false=>ST (ax 2 0 0) (match 0==1 with|true=>.bY (ad (M2 rs)++[[aT 2,aT (if false=true then if n>a then n else a else if n<a then n else a),aT (if true=true then if n>a then n else a else if n<a then n else a),aT bV,aT (MN MM (bV+1))]]) 0 5|false=>ST (ax 1 1 0) (.var (Nz w))))=true from rfl),(show MZ 4 (match 0+1==2 with|true=>.bY (TQ l) 0 1|false=>ST (ax 2 0 0) (match 0+1==1 with|true=>.bY (ad (M2 rs)++[[aT 2,aT (if false=true then if n>a then n else a else if n<a then n else a),aT (if true=true then if n>a then n else a else if n<a then n else a),aT bV,aT (MN MM (bV+1))]]) 0 5|false=>ST (ax 1 1 0) (.bY (ad (M2 rs)++[[aT 2,aT (if false=true then if n>a then n else a else if n<a then n else a),aT (if true=true then if n>a then n else a else if n<a then n else a),aT bV,aT (MN MM (bV+1))]]) 1 5)))=true from ?_),(show MZ 4 (match 0+1+1==2 with|true=>.bY (TQ l) 0 1|false=>ST (ax 2 0 0) (match 0+1+1==1 with|true=>.bY (ad (M2 rs)++[[aT 2,aT (if false=true then if n>a then n else a else if n<a then n else a),aT (if true=true then if n>a then n else a else if n<a then n else a),aT bV,aT (MN MM (bV+1))]]) 0 5|false=>ST (ax 1 1 0) (.bY (TQ l) 0 1)))=true from ?_),(show MZ 4 (match 0+1+1+1==2 with|true=>.bY (TQ l) 0 1|false=>ST (ax 2 0 0) (match 0+1+1+1==1 with|true=>.bY (ad (M2 rs)++[[aT 2,aT (if false=true then if n>a then n else a else if n<a then n else a),aT (if true=true then if n>a then n else a else if n<a then n else a),aT bV,aT (MN MM (bV+1))]]) 0 5|false=>ST (ax 1 1 0) (.map (aL l) (MO l))))=true from ?_)] (by grind) (by(have hh:Μ w bV bv a n=false:=TH;simp only[Yr,WX,Of,hh,cond_false,iR];first|done|rfl))<;>(first|exact lkE (l:=l) rfl|exact Dq rfl ha|exact nu_vp ha|exact HZ ha|exact da _ _|exact cG _ _|exact nX _ _|exact nW _ _|(rw[iR];exact aX _ _)|(simp only[iR];exact b9)|(simp[bf,D.one,OM,Tw];omega))
  ·refine yX {t:=DO 100 0 [(2,aT bV),(3,aT bv),(4,.ref (.ptr 0 0)),(8,.ref (.bY 2 0)),(9,.ref (.bY 1 0)),(10,ab ns),(11,.ref (.mp 3)),(12,aT (↑i:Int)),(45,ab ns),(46,aT (↑(MO ns):Int)),(47,aT (MN MM ((↑k:Int)+1)))],h:=[.var [ab (ML MX w.c),ab w.p,ab (ML M4 w.s),ab (ML MY w.f)],.bY (ad (M2 rs)++[[aT 2,aT (Yg a n),aT (Yf a n),aT bV,aT (MN MM (bV+1))]]) 0 5,.bY (TQ l++[[aT n]]) 0 1,.map (aL (l++[n])) (MO (l++[n]))],m:=[]} M8 [.st (.mask [2,3,4,8,9,10,11,12,45,46,47]),.st (.Vz 1 0),.st (.Vz 2 0),.st (.TD 4)] [.b IN,.r hr,(show @Eq (Option D) (aA MK [.var (Nz w),.bY (ad (M2 rs)) 0 5,.bY (TQ l) 0 1,.map (aL l) (MO l)] 190 (.ref (.mp 3)) (aT n) false) (some (iF (N4 l n))) from ?_),.a1 (.ov 53 (iF (N4 l n))),.b Of,(show TU (↑i:Int) (MO (TQ l))=true from ?_),(show @Eq (Option D) (aI MK [.var (Nz w),.bY (ad (M2 rs)) 0 5,.bY (TQ l) 0 1,.map (aL l) (MO l)] 3 (.ref (.vp 2 0 (MP (↑i:Int)) 0))) (some (aT a)) from ?_),(show TU (↑i:Int) (MO (TQ l))=true from ?_),(show @Eq (Option D) (aI MK [.var (Nz w),.bY (ad (M2 rs)) 0 5,.bY (TQ l) 0 1,.map (aL l) (MO l)] 3 (.ref (.vp 2 0 (MP (↑i:Int)) 0))) (some (aT a)) from ?_),(show TU (↑i:Int) (MO (TQ l))=true from ?_),pe (.ref (.vp 2 0 (MP (↑i:Int)) 0)),(show TU (↑i:Int) (MO (TQ l))=true from ?_),pe (.ref (.vp 2 0 (MP (↑i:Int)) 0)),(show @Eq (Option D) (if 0=0 then match (TQ l)[MP (↑i:Int)]? with|some row=>cb MK 3 (Od 0 row)|none=>none else none) (some (aT a)) from ?_),(show @Eq (Option D) (if 0=0 then match (TQ l)[MP (↑i:Int)]? with|some row=>cb MK 3 (Od 0 row)|none=>none else none) (some (aT a)) from ?_),(show TU (↑i:Int) (MO (TQ l))=true from ?_),pe (.ref (.vp 2 0 (MP (↑i:Int)) 0)),(show TU (↑i:Int) (MO (TQ l))=true from ?_),pe (.ref (.vp 2 0 (MP (↑i:Int)) 0)),(show @Eq (Option D) (if 0=0 then match (TQ l)[MP (↑i:Int)]? with|some row=>cb MK 3 (Od 0 row)|none=>none else none) (some (aT a)) from ?_),(show @Eq (Option D) (if 0=0 then match (TQ l)[MP (↑i:Int)]? with|some row=>cb MK 3 (Od 0 row)|none=>none else none) (some (aT a)) from ?_),(show(NH [[aT 2,aT (if false=true then if n>a then n else a else if n<a then n else a),aT (if true=true then if n>a then n else a else if n<a then n else a),aT bV,aT (MN MM (bV+1))]] (bf 5)&&Tw (MO (ad (M2 rs))+MO [[aT 2,aT (if false=true then if n>a then n else a else if n<a then n else a),aT (if true=true then if n>a then n else a else if n<a then n else a),aT bV,aT (MN MM (bV+1))]]) 40)=true from ?_),.a1 (.ov 57 (aT a)),.a1 (.ov 63 (aT a)),.v (@zh (2) (if false=true then if n>a then n else a else if n<a then n else a) (if true=true then if n>a then n else a else if n<a then n else a) (bV) (bv) (w.f) (hwf) ((lg w bV rs l a n))),.b TH,(show @Eq (Option (List iN)) (aH MK (lg w bV rs l a n) 190 (.ref (.mp 3)) (aT n) (iF true)) (some [.var (Nz w),.bY (ad (M2 rs)++[[aT 2,aT (Yg a n),aT (Yf a n),aT bV,aT (MN MM (bV+1))]]) 1 5,.bY (TQ l) 0 1,.map (aL (l++[n])) (MO (l++[n])),.var [aT 2,aT (Yg a n),aT (Yf a n)],.bY [[aT 2,aT (Yg a n),aT (Yf a n),aT bV,aT (MN MM (bV+1))]] 0 5]) from ?_),(show(NH [[aT n]] (bf 1)&&Tw (MO (TQ l)+MO [[aT n]]) 8)=true from(by grind [eT,iR,bf,D.one,OM,Tw])),(show ML (Nm (ax 1 1 0)) (ad (M2 rs)++[[aT 2,aT (Yg a n),aT (Yf a n),aT bV,aT (MN MM (bV+1))]])=ad (M2 rs)++[[aT 2,aT (Yg a n),aT (Yf a n),aT bV,aT (MN MM (bV+1))]] from ?_),(show ML (Nm (ax 1 1 0)) (TQ l++[[aT n]])=TQ l++[[aT n]] from ?_),(show ML (λe=>(NA (ax 1 1 0) e.fst,NA (ax 1 1 0) e.2.fst,e.2.2)) (aL (l++[n]))=aL (l++[n]) from ?_),pr [[aT 2,aT (Yg a n),aT (Yf a n),aT bV,aT (MN MM (bV+1))]],pr [[aT n]],(show ML (Nm (ax 2 1 0)) (TQ l++[[aT n]])=TQ l++[[aT n]] from ?_),(show ML (Nm (ax 2 1 0)) (ad (M2 rs)++[[aT 2,aT (Yg a n),aT (Yf a n),aT bV,aT (MN MM (bV+1))]])=ad (M2 rs)++[[aT 2,aT (Yg a n),aT (Yf a n),aT bV,aT (MN MM (bV+1))]] from ?_),(show ML (λe=>(NA (ax 2 1 0) e.fst,NA (ax 2 1 0) e.2.fst,e.2.2)) (aL (l++[n]))=aL (l++[n]) from ?_),pr [[aT 2,aT (Yg a n),aT (Yf a n),aT bV,aT (MN MM (bV+1))]],pr [[aT n]],(show MZ 4 (match 0==2 with|true=>.bY (TQ l++[[aT n]]) 0 1|false=>ST (ax 2 1 0) (match 0==1 with|true=>.bY (ad (M2 rs)++[[aT 2,aT (Yg a n),aT (Yf a n),aT bV,aT (MN MM (bV+1))]]) 0 5|false=>ST (ax 1 1 0) (.var (Nz w))))=true from rfl),(show MZ 4 (match 0+1==2 with|true=>.bY (TQ l++[[aT n]]) 0 1|false=>ST (ax 2 1 0) (match 0+1==1 with|true=>.bY (ad (M2 rs)++[[aT 2,aT (Yg a n),aT (Yf a n),aT bV,aT (MN MM (bV+1))]]) 0 5|false=>ST (ax 1 1 0) (.bY (ad (M2 rs)++[[aT 2,aT (Yg a n),aT (Yf a n),aT bV,aT (MN MM (bV+1))]]) 1 5)))=true from ?_),(show MZ 4 (match 0+1+1==2 with|true=>.bY (TQ l++[[aT n]]) 0 1|false=>ST (ax 2 1 0) (match 0+1+1==1 with|true=>.bY (ad (M2 rs)++[[aT 2,aT (Yg a n),aT (Yf a n),aT bV,aT (MN MM (bV+1))]]) 0 5|false=>ST (ax 1 1 0) (.bY (TQ l++[[aT n]]) 1 1)))=true from ?_),(show MZ 4 (match 0+1+1+1==2 with|true=>.bY (TQ l++[[aT n]]) 0 1|false=>ST (ax 2 1 0) (match 0+1+1+1==1 with|true=>.bY (ad (M2 rs)++[[aT 2,aT (Yg a n),aT (Yf a n),aT bV,aT (MN MM (bV+1))]]) 0 5|false=>ST (ax 1 1 0) (.map (aL (l++[n])) (MO (l++[n])))))=true from ?_),.a1 (.oh 10089 D.any [.var (Nz w),.bY (ad (M2 rs)++[[aT 2,aT (Yg a n),aT (Yf a n),aT bV,aT (MN MM (bV+1))]]) 1 5,.bY (TQ l) 0 1,nV (l++[n]),.var [aT 2,aT (Yg a n),aT (Yf a n)],.bY [[aT 2,aT (Yg a n),aT (Yf a n),aT bV,aT (MN MM (bV+1))]] 0 5])] (by grind) (by(have hh:Μ w bV bv a n=true:=TH;simp only[Yr,WX,Of,hh,cond_true,cond_false,iR,eT];first|done|rfl))<;>(first|exact lkE (l:=l) rfl|exact upE (l:=l) rfl (by assumption)|exact Dq rfl ha|exact nu_vp ha|exact HZ ha|exact da _ _|exact cG _ _|(rw[eT];exact nX _ _)|(rw[eT];exact nW _ _)|(rw[iR];exact aX _ _)|(simp only[iR];exact b9)|(simp[bf,D.one,OM,Tw];omega))
 ·refine yX {t:=DO 100 0 [(2,aT bV),(3,aT bv),(4,.ref (.ptr 0 0)),(8,.ref (.bY 2 0)),(9,.ref (.bY 1 0)),(10,ab ns),(11,.ref (.mp 3)),(12,aT (↑i:Int)),(45,ab ns),(46,aT (↑(MO ns):Int)),(47,aT (MN MM ((↑k:Int)+1)))],h:=[.var [ab (ML MX w.c),ab w.p,ab (ML M4 w.s),ab (ML MY w.f)],.bY (ad (M2 rs)) 0 5,.bY (TQ l) 0 1,.map (aL l) (MO l)],m:=[]} M8 [.st (.mask [2,3,4,8,9,10,11,12,45,46,47]),.st (.Vz 1 0),.st (.Vz 2 0),.st (.TD 4)] [.b IN,.r hr,(show @Eq (Option D) (aA MK [.var (Nz w),.bY (ad (M2 rs)) 0 5,.bY (TQ l) 0 1,.map (aL l) (MO l)] 190 (.ref (.mp 3)) (aT n) false) (some (iF (N4 l n))) from ?_),.a1 (.ov 53 (iF (N4 l n))),.b Of,(show ML (Nm (ax 1 0 0)) (ad (M2 rs))=ad (M2 rs) from ?_),(show ML (Nm (ax 1 0 0)) (TQ l)=TQ l from ?_),(show ML (λe=>(NA (ax 1 0 0) e.fst,NA (ax 1 0 0) e.2.fst,e.2.2)) (aL l)=aL l from ?_),(show ML (Nm (ax 2 0 0)) (TQ l)=TQ l from ?_),(show ML (Nm (ax 2 0 0)) (ad (M2 rs))=ad (M2 rs) from ?_),(show ML (λe=>(NA (ax 2 0 0) e.fst,NA (ax 2 0 0) e.2.fst,e.2.2)) (aL l)=aL l from ?_),(show MZ 4 (match 0==2 with|true=>.bY (TQ l) 0 1|false=>ST (ax 2 0 0) (match 0==1 with|true=>.bY (ad (M2 rs)) 0 5|false=>ST (ax 1 0 0) (.var (Nz w))))=true from rfl),(show MZ 4 (match 0+1==2 with|true=>.bY (TQ l) 0 1|false=>ST (ax 2 0 0) (match 0+1==1 with|true=>.bY (ad (M2 rs)) 0 5|false=>ST (ax 1 0 0) (.bY (ad (M2 rs)) 0 5)))=true from ?_),(show MZ 4 (match 0+1+1==2 with|true=>.bY (TQ l) 0 1|false=>ST (ax 2 0 0) (match 0+1+1==1 with|true=>.bY (ad (M2 rs)) 0 5|false=>ST (ax 1 0 0) (.bY (TQ l) 0 1)))=true from ?_),(show MZ 4 (match 0+1+1+1==2 with|true=>.bY (TQ l) 0 1|false=>ST (ax 2 0 0) (match 0+1+1+1==1 with|true=>.bY (ad (M2 rs)) 0 5|false=>ST (ax 1 0 0) (.map (aL l) (MO l))))=true from ?_)] (by grind) (by(simp only[Yr,WX,Of,cond_true];first|done|rfl))<;>(first|exact lkE (l:=l) rfl|exact da _ _|exact cG _ _|exact nX _ _|exact nW _ _|exact aX _ _|exact b9)
theorem LG{w:iS}{bV bv:Int}{ns:List (List Dp)}{rs:List BY}{l:List Int}{i k:Nat}(IN:Zd ((k:Int)<(ns.length:Int))=false):(CW MK At [] false (sub Rs 1) (eiS w bV bv ns rs l i k) (.exit 2) (eoS w bV bv ns rs l i)):=by
 exact yx [.st (.mask [2,3,4,8,9,10,11,12])] [.b IN]
theorem Dr{w:iS}{bV bv a:Int}(s:RL)(n:Int):(WX w bV bv a s n).1.length<=s.1.length+1/\s.2.length<=(WX w bV bv a s n).2.length/\(WX w bV bv a s n).2.length<=s.2.length+1:=by
 grind [WX]
theorem LH{w:iS}{bV bv a b:Int}{s:RL}{n:Int}{i:Nat}(h:s.2[i]? = some b):(WX w bV bv a s n).2[i]? = some b:=by
 grind [WX]
theorem ei_cw{w:iS}(hwf:ah w.f){bV bv:Int}{ns:List Int}(hn:ns.length<=1000){rs:List BY}{l:List Int}{i:Nat}{a:Int}(ha:l[i]? = some a)(hb:rs.length<=999990000)(hl:l.length<=60000):
  CW MK At [] false (.loop (sub Rs 1)) (eiS w bV bv (ns.map λn=>[vi n]) rs l i 0) (.exit 2) (eoS w bV bv (ns.map λn=>[vi n]) (ns.foldl (WX w bV bv a) (rs,l)).1 (ns.foldl (WX w bV bv a) (rs,l)).2 i):=by
 have hs:ah ns:=by unfold ah;omega
 have:=OS (P:=MK) (Γ:=At) (h0:=[]) (rd:=false) (c:=sub Rs 1) (σ:=RL) (ρ:=Empty) ns (λn s=>.inl (WX w bV bv a s n))
  (λk s=>eiS w bV bv (ns.map λn=>[vi n]) s.1 s.2 i (k:Int)) (.exit 2) (λs=>eoS w bV bv (ns.map λn=>[vi n]) s.1 s.2 i) (λr=>r.elim)
  (λk s=>s.2[i]? = some a/\s.1.length<=rs.length+k/\s.2.length<=l.length+k) (by simp) (λr=>r.elim) ?_ ?_ (rs,l) ⟨ha,by simp,by simp⟩
 ·rw[aP] at this
  exact this
 ·intro k n s hnk Vq
  have hi:=(MR.1 hnk).1
  refine⟨λs' h=>by cases h;have:=Dr (w:=w) (bV:=bV) (bv:=bv) (a:=a) s n;exact⟨LH Vq.1,by omega,by omega⟩,LF hwf Vq.1 (rowAt (row:=λn=>[vi n]) hnk rfl) (TG (λn=>[vi n]) hi) (T4 hi hs) (by omega) (by omega)⟩
 ·intro s _
  exact LG (be (λn=>[vi n]) ns)
def uW(w:iS)(bV bv:Int)(ns:List Int)(a:Int)(s:RL):RL:=ns.foldl (WX w bV bv a) s
theorem LI{w:iS}(hwf:ah w.f){bV bv:Int}{ns:List Int}(hn:ns.length<=1000){rs:List BY}{l:List Int}{i:Nat}{a:Int}(ha:l[i]? = some a)(Yr:MM.wrap ((i:Int)+1)=((i+1:Nat):Int))(IN:Zd ((i:Int)<((TQ l).length:Int))=true)(hb:rs.length<=999990000)(hl:l.length<=60000):(CW MK At [] false (sub Rs 0) (eoS w bV bv (ns.map λn=>[vi n]) rs l i) .normal (eoS w bV bv (ns.map λn=>[vi n]) (uW w bV bv ns a (rs,l)).1 (uW w bV bv ns a (rs,l)).2 (i+1))):=by
 have Tv:=(@ei_cw (w) (hwf) (bV) (bv) (ns) (hn) (rs) (l) (i) (a) (ha) (hb) (hl))
 exact yX {t:=DO 100 0 [(2,aT bV),(3,aT bv),(4,.ref (.ptr 0 0)),(8,.ref (.bY 2 0)),(9,.ref (.bY 1 0)),(10,ab (ML (λn=>[vi n]) ns)),(11,.ref (.mp 3)),(12,aT (MN MM ((↑i:Int)+1)))],h:=[.var [ab (ML MX w.c),ab w.p,ab (ML M4 w.s),ab (ML MY w.f)],.bY (ad (M2 (Nx (WX w bV bv a) (rs,l) ns).fst)) 0 5,.bY (TQ (Nx (WX w bV bv a) (rs,l) ns).2) 0 1,.map (aL (Nx (WX w bV bv a) (rs,l) ns).2) (MO (Nx (WX w bV bv a) (rs,l) ns).2)],m:=[]} M8 [.st (.mask [2,3,4,8,9,10,11,12])] [.b IN,.s [2,3,4,8,9,10,11,12,45,46,47] Tv] (by grind) (by(simp only[Yr];rfl))
theorem LJ{w:iS}{bV bv:Int}{ns:List (List Dp)}{rs:List BY}{l:List Int}{i:Nat}(IN:Zd ((i:Int)<((TQ l).length:Int))=false):(CW MK At [] false (sub Rs 0) (eoS w bV bv ns rs l i) (.exit 0) (eoE w rs l)):=by
 exact yx [.st (.mask [8,9])] [.b IN]
end Go.Vi
