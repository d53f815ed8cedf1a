/- A part of the proof; no conditions of its own. -/
import Derived.Test.YtelhocjibmofiaaGreatDoorW5
open Decidable renaming decide -> Zd
open Go.Vi.D renaming YK -> N8, zcN -> Ob, fn -> Oe, UI -> NG, ref -> Qe
open Go.Vi.Uj renaming row -> MQ
open Go.IntKind renaming i64 -> ML, wrap -> MN, u64 -> Nj
open Go.Proofs.Tryz renaming prog -> MJ, f14 -> N7, f110 -> Pi, f102 -> O1, f156 -> SY
open List renaming map -> MK, length -> MO, all -> N2, foldl_cons -> Nn, getElem?_eq_some_iff -> MR, foldl -> ND, length_cons -> Nq, drop_zero -> Pk, set -> OZ, drop -> Oz, replicate -> MS, getElem?_set_self -> NK, set_set -> S6, all_eq_true -> Ni, mem_replicate -> Sn, getElem?_cons_zero -> Np, take -> Po
open Go.Vi.UA renaming row -> M0
open Go.Exit renaming normal -> M6, exit -> NR
open Go.Vi.Uc renaming inn -> MY
open Go.Value renaming oneCell' -> NZ, cells -> SD
open Go.Vi.CW renaming each -> PU
open Go.LoopState renaming busy -> NJ, ready -> Nl, exhausted -> NM
open Go.Fn renaming func -> M7
open Go.Vi.Ev renaming zfO -> Na, zet -> Oc
open Int renaming toNat -> MU, toNat_natCast -> N4, tmod -> Qw, tdiv -> Nz, fdiv -> Qa
open Go.Vi.NB renaming run -> Tx
open BitVec renaming ofInt -> Ng, toNat -> OD
open Prod.mk renaming injEq -> MP
open Go Go.Proofs
namespace Go.Vi
set_option maxRecDepth 100000
set_option maxHeartbeats 4000000
structure Uu where
 U3:Int
 to:Int
 most:Int
 deriving Inhabited
variable {A:List (bV)}{B fs ks:bV}{H rest:aT}{R fl:List (bY)}{a:Uj}{b:Bool}{e i j k m n q u:Nat}{e0 es:List Uu}{f mid sink:Int}{l:iF}{p:TO}{r:bY}{x:Uu}{ys:At}
abbrev Vz(a:Uu):dO:=[vi a.U3,vi a.to,vi a.most]
def Uu.row(e:Uu):dO:=(Vz e)
abbrev XB(a:Uu):bY:=[SW a.U3,SW a.to,SW a.most]
def dy(l:List Uu):List (bY):=l.map λe=>(XB e)
theorem ew(l:List Uu)(a b c:Int):dy l++[(Zw a b c)]=dy (l++[⟨a,b,c⟩]):=by simp[dy]
theorem sY(l:List Uu):(dy l).length=l.length:=by simp[dy]
theorem dP(f:Ref->D)(l:List Uu):(dy l).map (N8 f)=dy l:=by simp[dy,N8,D.UG]
theorem dQ(n:Nat)(l:List Uu):(dy l).all (Ob n)=true:=by simp[dy,Ob,D.inn]
theorem GR(l:List Uu):dy l=(l.map Uu.row).map (·.map .p):=by simp[dy,Uu.row]
abbrev WX:bY:=[.ref (.T7 4 0)]
abbrev nH(p:TO)(l:iF)(mid:Int)(es:List Uu):aT:=[.var p.l,.var (Wr l),.var WX,.var [SW mid],.T7 (dy es) 0 3]
abbrev ZJ:Nat×D:=(zcH 5)
abbrev YP:Nat×D:=(zcj 7 3)
abbrev WP(a:iF):D:=SW ((a.map MQ).length:Int)
abbrev n1S(p:TO)(l:iF)(mid sink:Int)(es:List Uu)(i:Int):AS:={t:=Ue 97 0 [ZP,Yw,ZJ,YP,(8,SW sink),(37,ab (l.map MQ)),(38,(WP l)),(39,SW i)],h:=nH p l mid es,m:=[]}
abbrev n1E(p:TO)(l:iF)(mid sink:Int)(es:List Uu):AS:={t:=Ue 97 0 [ZP,Yw,ZJ,YP,(8,SW sink)],h:=nH p l mid es,m:=[]}
def n1F(p:TO)(s:List Uu×Int)(a:Uj):List Uu×Int:=(s.1++[⟨0,ML.wrap (1+s.2),ML.wrap (a.To*p.UC)⟩],s.2+1)
abbrev Z8(b:Nat)(c:Uj)(d:TO):List (bY):=[[SW 0,SW (MN ML (1+(↑b:Int))),SW (MN ML (c.To*d.UC))]]
abbrev X1:bY:=[.ref (.T7 4 1)]
theorem Ls(hr:ax (i:Int) (l.map MQ) a.row 5)(U8:Zd ((i:Int)<((l.map MQ).length:Int))=true)(hw:ML.wrap ((i:Int)+1)=((i+1:Nat):Int))(hl:es.length<=100000000):(CW MJ U2 [] false (sub N7 0) (n1S p l mid sink es i) .normal (n1S p l mid sink (n1F p (es,(i:Int)) a).1 ((i+1:Nat):Int))):=by
 refine zX {t:=Ue 97 0 [(2,.ref (.ptr 0 0)),(3,.ref (.ptr 1 0)),(5,.ref (.ptr 2 0)),(7,.ref (.ptr 3 0)),(8,SW sink),(37,ab (MK MQ l)),(38,SW (↑(MO (MK MQ l)):Int)),(39,SW (MN ML ((↑i:Int)+1)))],h:=[.var [ak p.nm,SW p.number,SW p.UC,SW p.UL,SW p.num,SW p.den,ab (MK M0 p.reqs)],.var [ab (MK MQ l)],.var [.ref (.T7 4 0)],.var [SW mid],.T7 (dy es++[[SW 0,SW (MN ML (1+(↑i:Int))),SW (MN ML (a.To*p.UC))]]) 0 3],m:=[]} M6 [.st (.mask [2,3,5,7,8,37,38,39]),.st (.ren 4 0),.st (.UN 5)] [.b true,.row (MQ a)] (.c U8 (.c hr (.c (show(N2 [[SW 0,SW (MN ML (1+(↑i:Int))),SW (MN ML (a.To*p.UC))]] (aR 3)&&Um (MO (dy es)+MO [[SW 0,SW (MN ML (1+(↑i:Int))),SW (MN ML (a.To*p.UC))]]) 24)=true from ?_) (.c (show MK (N8 (a8 4 1 0)) (dy es++[[SW 0,SW (MN ML (1+(↑i:Int))),SW (MN ML (a.To*p.UC))]])=dy es++[[SW 0,SW (MN ML (1+(↑i:Int))),SW (MN ML (a.To*p.UC))]] from ?_) (.er [[SW 0,SW (MN ML (1+(↑i:Int))),SW (MN ML (a.To*p.UC))]] (.c (iqT 5 (match 0==4 with|true=>.T7 (dy es++[[SW 0,SW (MN ML (1+(↑i:Int))),SW (MN ML (a.To*p.UC))]]) 0 3|false=>Ux (a8 4 1 0) (.var [ak p.nm,SW p.number,SW p.UC,SW p.UL,SW p.num,SW p.den,ab (MK M0 p.reqs)]))) (.c (iqT 5 (match 0+1==4 with|true=>.T7 (dy es++[[SW 0,SW (MN ML (1+(↑i:Int))),SW (MN ML (a.To*p.UC))]]) 0 3|false=>Ux (a8 4 1 0) (.var [ab (MK MQ l)]))) (.c (iqT 5 (match 0+1+1==4 with|true=>.T7 (dy es++[[SW 0,SW (MN ML (1+(↑i:Int))),SW (MN ML (a.To*p.UC))]]) 0 3|false=>Ux (a8 4 1 0) (.var [.ref (.T7 4 1)]))) (.c (iqT 5 (match 0+1+1+1==4 with|true=>.T7 (dy es++[[SW 0,SW (MN ML (1+(↑i:Int))),SW (MN ML (a.To*p.UC))]]) 0 3|false=>Ux (a8 4 1 0) (.var [SW mid]))) (.c (show MY 5 (match 0+1+1+1+1==4 with|true=>.T7 (dy es++[[SW 0,SW (MN ML (1+(↑i:Int))),SW (MN ML (a.To*p.UC))]]) 0 3|false=>Ux (a8 4 1 0) (.T7 (dy es++[[SW 0,SW (MN ML (1+(↑i:Int))),SW (MN ML (a.To*p.UC))]]) 1 3))=true from ?_) .n)))))))))) (by simp only[];first|done|rfl) (by simp only[n1F,hw,ew];first|done|rfl)<;>(first|assumption|rfl|exact dP _ _|exact dQ _ _|(rw[ew];exact dP _ _)|(rw[ew];exact dQ _ _)|(simp[aR,D.one,NZ,Um,sY];omega))
theorem Lt(U8:Zd ((i:Int)<((l.map MQ).length:Int))=false):(CW MJ U2 [] false (sub N7 0) (n1S p l mid sink es i) (.exit 0) (n1E p l mid sink es)):=by
 exact zx [.st (.mask [2,3,5,7,8])] [.b false] (.c U8 .n)
theorem H8:∀(l:iF) (s:List Uu×Int),(l.foldl (n1F p) s).1.length=s.1.length+l.length
 | [],s=>rfl
 | a::l,s=>by rw[Nn,H8 l];simp[n1F];omega
theorem n1_cw{p:TO}{l:iF}{mid sink:Int}(hl:l.length<=50000):CW MJ U2 [] false (.loop (sub N7 0)) (n1S p l mid sink [] 0) (.exit 0) (n1E p l mid sink (l.foldl (n1F p) ([],0)).1):=by
 have:=PU (P:=MJ) (Γ:=U2) (h0:=[]) (rd:=false) (c:=sub N7 0) (σ:=List Uu×Int) (ρ:=Empty) l (λa s=>.inl (n1F p s a))
  (λi s=>n1S p l mid sink s.1 (i:Int)) (.exit 0) (λs=>n1E p l mid sink s.1) (λr=>r.elim) (λi s=>s.2=i/\s.1.length<=i) (by simp) (λr=>r.elim) ?_ ?_ ([],0) (by simp)
 ·rw[aY] at this
  exact this
 ·rintro i a ⟨es,k⟩ hc ⟨hk,he⟩
  simp only at hk he
  subst hk
  have hi:=(MR.1 hc).1
  refine⟨λs' h=>?_,Ls (rowAt hc rfl) (UO MQ hi) (Uo hi (by omega)) (show es.length<=100000000 by omega)⟩
  cases h
  simp[n1F];omega
 ·intro s _
  exact Lt (bl MQ l)
abbrev Y0:bY:=(zcB 6 5)
abbrev npT(sink:Int):bY:=Ue 97 0 [ZP,Yw,ZJ,YP,(8,SW sink),(58,.fn (.func 110) [] Y0)]
noncomputable abbrev npL(sink:Int)(st:LoopState):Uc:=.loop st none 0 (npT sink) #[59,60] (ar (sub N7 1)) (af (sub N7 1))
noncomputable abbrev npH(p:TO)(l:iF)(mid sink:Int)(es:List Uu)(e:Nat)(st:LoopState)(more:aT):aT:=[.var p.l,.var (Wr l),.var (XI 4 e),.var [SW mid],.T7 (dy es) e 3,.var p.l,.var (Wr l),.Ut,npL sink st]++more
abbrev npU(sink i k:Int):bY:=Ue 97 0 [ZP,Yw,ZJ,YP,(8,SW sink),(11,SW i),(12,SW k)]
abbrev YU(b:Uj):aT:=[.var (b.row.map .p)]
theorem np_asg{i k:Int}:(CW MJ U2 (npH p l mid sink es 1 .ready (YU a)) true (ar (sub N7 1)) {t:=dW (npT sink) [(59,SW i),(60,SW k)],h:=npH p l mid sink es 1 .ready (YU a),m:=[]} .normal {t:=npU sink i k,h:=npH p l mid sink es 1 .ready (YU a),m:=[]}):=by
 exact zx [.st (.mask [2,3,5,7,8,11,12])] [] .n
def n2F(mid i cr:Int)(es:List Uu)(k:Int):List Uu:=es++[⟨ML.wrap (1+i),ML.wrap (mid+k),cr⟩]
abbrev ZC(a:Int):bY:=(Ue 97 0 [(zcj 2 0),(zcL 3),(zcH 5),(zcj 7 3),(8,SW a),(58,Oe (M7 110) [] (zcB 6 5))])
abbrev Xe:Array Tmp:={toList:=[59,60]}
abbrev W2(a:Nat):oN:=(some (.ref (.T7 a 1)))
abbrev za8(a:Nat):BY:=[.st (.mask []),.st (.UN a)]
theorem Lu{i k:Int}(hr:ax i (l.map MQ) a.row 5)(hl:es.length<=100000000):(CW MJ U2 (npH p l mid sink es 1 .ready (YU a)) true (af (sub N7 1)) {t:=npU sink i k,h:=npH p l mid sink es 1 .busy (YU a),m:=[]} .normal (Yn 97 (npH p l mid sink (n2F mid i a.To es k) 2 .busy [.var (a.row.map .p)]))):=by
 let v0:bY:=(Zw (MN ML (1+i)) (MN ML (mid+k)) a.To)
 let v1:bY:=(WC l)
 let v2:=MK M0 p.reqs
 let v3:bY:=(Zf a)
 refine zX {t:=Ue 97 0 [],h:=[.var (Zb p v2),.var v1,.var (XI 4 2),.var [SW mid],.T7 (dy es++[v0]) 2 3,.var (Zb p v2),.var v1,.Ut,.loop NJ none 0 (ZC sink) Xe (ar (sub N7 1)) (af (sub N7 1)),.var v3],m:=[]} M6 (za8 10) [.row (MQ a)] (.c hr (.c (show(N2 [v0] (aR 3)&&Um (MO (dy es)+MO [v0]) 24)=true from ?_) (.c (show @Eq (oN) (W2 4) (W2 4) from rfl) (.c (show @Eq (oN) (W2 4) (W2 4) from rfl) (.c (show @Eq (oN) (Yc mid) (Yc mid) from rfl) (.c (show @Eq (oN) (some (ab (MK MQ l))) (some (ab (MK MQ l))) from rfl) (.c (iqT 10 (.var (Zb p v2))) (.c (iqT 10 (.var v1)) (.c (iqT 10 (.var (XI 4 2))) (.c (iqT 10 (V7 mid)) (.c (show MY 10 (.T7 (dy es++[v0]) 2 3)=true from ?_) (.c (iqT 10 (.var (Zb p v2))) (.c (iqT 10 (.var v1)) (.c (iqT 10 .Ut) (.c (iqT 10 (zcJ NJ (ZC sink) Xe (sub N7 1))) (.c (iqT 10 (.var v3)) .n)))))))))))))))) (by subst v0 v1 v2 v3;simp only[];first|done|rfl) (by subst v0 v1 v2 v3;simp only[n2F,ew];first|done|rfl)<;>subst v0 v1 v2 v3<;>(first|assumption|rfl|exact dP _ _|exact dQ _ _|(rw[ew];exact dP _ _)|(rw[ew];exact dQ _ _)|(simp[aR,D.one,NZ,Um,sY];omega))
theorem Lv{p:TO}{l:iF}{a:Uj}{mid sink:Int}{es:List Uu}{i k:Int}(hr:ax i (l.map MQ) a.row 5)(hl:es.length<=100000000):Iv MJ U2 (.ref (.yl 8)) [SW i,SW k] (npH p l mid sink es 1 .ready (YU a)) (T6 true) (npH p l mid sink (n2F mid i a.To es k) 2 .ready (YU a)) :=
 Iv.round (h1:=npH p l mid sink es 1 .ready (YU a)) rfl rfl np_asg rfl (Lu hr hl) rfl
abbrev VE(a:Nat)(b:iF):Nat×D:=(a,ab (b.map MQ))
abbrev zan(a:Nat):Nat×D:=(1,.ref (.ptr a 0))
noncomputable abbrev n2S(p:TO)(l:iF)(a:Uj)(mid sink:Int)(ks:bV)(i:Int)(es:List Uu)(j:Int):AS:={t:=Ue 30 0 [WY,(zan 6),Wi,(4,SW i),(VE 8 l),(9,(WP l)),(10,SW i),(17,ab (aW ks)),(18,(zcS (aW ks))),(19,SW j)],h:=npH p l mid sink es 1 .ready (YU a),m:=[]}
abbrev Xb(a b c:Nat)(d:iF)(e:Int):bY:=Ue 30 0 [(zc4 a),(zcj 1 b),(zcj 2 c),(8,ab (d.map MQ)),(9,(zcS (d.map MQ))),(10,SW e)]
noncomputable abbrev n2E(p:TO)(l:iF)(a:Uj)(mid sink:Int)(i:Int)(es:List Uu):AS:={t:=(Xb 8 6 5 l i),h:=npH p l mid sink es 1 .ready (YU a),m:=[]}
abbrev Wq(a:Nat)(b:iF):Nat×D:=(a,ab (MK MQ b))
theorem Lw{i k:Int}(hr:ax i (l.map MQ) a.row 5)(hk:ax (j:Int) (aW ks) [vi k] 1)(U8:Zd ((j:Int)<((aW ks).length:Int))=true)(hw:ML.wrap ((j:Int)+1)=((j+1:Nat):Int))(hl:es.length<=100000000):(CW MJ U2 (npH p l mid sink e0 0 .ready []) false (sub Pi 1) (n2S p l a mid sink ks i es j) .normal (n2S p l a mid sink ks i (n2F mid i a.To es k) ((j+1:Nat):Int))):=by
 let v0:bY:=[ab (MK MQ l)]
 let v1:=MK M0 p.reqs
 let v2:bY:=[SW a.T5,SW a.T4,SW a.Uf,SW a.UK,SW a.To]
 refine zX {t:=Ue 30 0 [(0,.ref (.yl 8)),(1,.ref (.ptr 6 0)),(2,.ref (.ptr 5 0)),(4,SW i),(8,ab (MK MQ l)),(9,SW (↑(MO (MK MQ l)):Int)),(10,SW i),(17,ab (aW ks)),(18,SW (↑(MO (aW ks)):Int)),(19,SW (MN ML ((↑j:Int)+1)))],h:=[.var [ak p.nm,SW p.number,SW p.UC,SW p.UL,SW p.num,SW p.den,ab v1],.var v0,.var [.ref (.T7 4 1)],.var [SW mid],.T7 (dy (n2F mid i a.To es k)) 1 3,.var [ak p.nm,SW p.number,SW p.UC,SW p.UL,SW p.num,SW p.den,ab v1],.var v0,.Ut,.loop Nl none 0 (Ue 97 0 [(2,.ref (.ptr 0 0)),(3,.ref (.ptr 1 0)),(5,.ref (.ptr 2 0)),(7,.ref (.ptr 3 0)),(8,SW sink),(58,Oe (M7 110) [] [.ref (.ptr 6 0),.ref (.ptr 5 0)])]) {toList:=[59,60]} (ar (sub N7 1)) (af (sub N7 1)),.var v2],m:=[]} M6 [.st (.mask [0,1,2,4,8,9,10,17,18,19]),.st (.ren 4 1)] [.b true,.row [vi k],.inv (T6 true) [.var [ak p.nm,SW p.number,SW p.UC,SW p.UL,SW p.num,SW p.den,ab v1],.var v0,.var [.ref (.T7 4 2)],.var [SW mid],.T7 (dy (n2F mid i a.To es k)) 2 3,.var [ak p.nm,SW p.number,SW p.UC,SW p.UL,SW p.num,SW p.den,ab v1],.var v0,.Ut,.loop Nl none 0 (Ue 97 0 [(2,.ref (.ptr 0 0)),(3,.ref (.ptr 1 0)),(5,.ref (.ptr 2 0)),(7,.ref (.ptr 3 0)),(8,SW sink),(58,Oe (M7 110) [] [.ref (.ptr 6 0),.ref (.ptr 5 0)])]) {toList:=[59,60]} (ar (sub N7 1)) (af (sub N7 1)),.var v2],.b false] (.c U8 (.c hk (.c (@Lv p l a mid sink es i k hr hl) (.c (show(!true)=false from rfl) (.c (show MK (N8 (a8 4 2 1)) (dy (n2F mid i a.To es k))=dy (n2F mid i a.To es k) from(by subst v0 v1 v2;first|assumption|rfl|exact dP _ _|exact dQ _ _|omega)) .n))))) ?_ ?_<;>subst v0 v1 v2<;>(first|rfl|(rw[hw];rfl))
theorem Lx{i:Int}(U8:Zd ((j:Int)<((aW ks).length:Int))=false):(CW MJ U2 (npH p l mid sink e0 0 .ready []) false (sub Pi 1) (n2S p l a mid sink ks i es j) (.exit 2) (n2E p l a mid sink i es)):=by
 exact zx [.st (.mask [0,1,2,8,9,10])] [.b false] (.c U8 .n)
theorem yY{i cr:Int}:∀(ks:bV) (es:List Uu),(ks.foldl (n2F mid i cr) es).length=es.length+ks.length
 | [],es=>rfl
 | k::ks,es=>by rw[Nn,yY ks];simp[n2F];omega
theorem n2_cw{p:TO}{l:iF}{a:Uj}{mid sink:Int}{ks:bV}{e0 es:List Uu}{i:Int}(hr:ax i (l.map MQ) a.row 5)(hks:ks.length<=1000)(hes:es.length<=90000000):CW MJ U2 (npH p l mid sink e0 0 .ready []) false (.loop (sub Pi 1)) (n2S p l a mid sink ks i es 0) (.exit 2) (n2E p l a mid sink i (ks.foldl (n2F mid i a.To) es)):=by
 have:=PU (P:=MJ) (Γ:=U2) (h0:=npH p l mid sink e0 0 .ready []) (rd:=false) (c:=sub Pi 1) (σ:=List Uu) (ρ:=Empty) ks (λk s=>.inl (n2F mid i a.To s k))
  (λj s=>n2S p l a mid sink ks i s (j:Int)) (.exit 2) (λs=>n2E p l a mid sink i s) (λr=>r.elim) (λj s=>s.length<=es.length+j) (by simp) (λr=>r.elim) ?_ ?_ es (by simp)
 ·rw[aY] at this
  exact this
 ·intro j k s hc he
  have hi:=(MR.1 hc).1
  refine⟨λs' h=>?_,Lw hr (rowAt (row:=λn:Int=>[vi n]) hc rfl) (UO (λn:Int=>[vi n]) hi) (Uo hi (by omega)) (by omega)⟩
  cases h
  simp[n2F];omega
 ·intro s _
  exact Lx (bl (λn:Int=>[vi n]) ks)
abbrev Y4(a b c:Nat)(d:iF)(e:Int)(f:aT):AS:={t:=Ue 30 0 [(zc4 a),(zcj 1 b),(zcj 2 c),(8,ab (d.map MQ)),(9,(zcS (d.map MQ))),(10,SW e)],h:=f,m:=[]}
noncomputable abbrev n3S(p:TO)(l:iF)(mid sink:Int)(es:List Uu)(i:Int):AS:=(Y4 8 6 5 l i (npH p l mid sink es 1 .ready []))
noncomputable abbrev n3E(p:TO)(l:iF)(mid sink:Int)(es:List Uu):AS:={t:=Ue 30 0 [],h:=npH p l mid sink es 1 .ready [],m:=[]}
def n3F(p:TO)(mid:Int)(s:List Uu×Int)(a:Uj):List Uu×Int:=((elR p a).foldl (n2F mid s.2 a.To) s.1,s.2+1)
noncomputable abbrev Az(p:TO)(l:iF)(a:Uj)(mid:Int)(sink:Int)(es:List Uu):aT:=[.var (Zc p),.var (WC l),.var X1,.var [SW mid],.T7 (dy es) 1 3,.var (Zc p),.var (WC l),.Ut,.loop Nl none 0 (ZC sink) Xe (ar (sub N7 1)) (af (sub N7 1)),.var (Zf a)]
abbrev Vo(a:bY):Nat×D:=(58,Oe (M7 110) [] a)
abbrev zd7(a:Nat×D)(b:bY):bY:=Ue 97 0 [ZP,Yw,ZJ,YP,a,(Vo b)]
theorem Ly(hp:p.ok)(hn:p.reqs.length<=1000)(hr:ax (i:Int) (l.map MQ) a.row 5)(hks:(elR p a).length<=1000)(U8:Zd ((i:Int)<((l.map MQ).length:Int))=true)(hw:ML.wrap ((i:Int)+1)=((i+1:Nat):Int))(hes:es.length<=90000000):(CW MJ U2 (npH p l mid sink e0 0 .ready []) false (sub Pi 0) (n3S p l mid sink es i) .normal (n3S p l mid sink (n3F p mid (es,(i:Int)) a).1 ((i+1:Nat):Int))):=by
 have UE:=(@n2_cw (p) (l) (a) (mid) (sink) (elR p a) (e0) (es) ((↑i:Int)) (hr) (hks) (hes))
 let v0:bY:=[ab (MK MQ l)]
 let v1:=MK M0 p.reqs
 let v2:bY:=[.ref (.ptr 6 0),.ref (.ptr 5 0)]
 refine zX {t:=Ue 30 0 [(0,.ref (.yl 8)),(1,.ref (.ptr 6 0)),(2,.ref (.ptr 5 0)),(8,ab (MK MQ l)),(9,SW (↑(MO (MK MQ l)):Int)),(10,SW (MN ML ((↑i:Int)+1)))],h:=[.var [ak p.nm,SW p.number,SW p.UC,SW p.UL,SW p.num,SW p.den,ab v1],.var v0,.var [.ref (.T7 4 1)],.var [SW mid],.T7 (dy (ND (n2F mid (↑i:Int) a.To) es (elR p a))) 1 3,.var [ak p.nm,SW p.number,SW p.UC,SW p.UL,SW p.num,SW p.den,ab v1],.var v0,.Ut,.loop Nl none 0 (Ue 97 0 [(2,.ref (.ptr 0 0)),(3,.ref (.ptr 1 0)),(5,.ref (.ptr 2 0)),(7,.ref (.ptr 3 0)),(8,SW sink),(58,Oe (M7 110) [] v2)]) {toList:=[59,60]} (ar (sub N7 1)) (af (sub N7 1))],m:=[]} M6 [.st (.mask [0,1,2,8,9,10]),.st (.UN 9)] [.b true,.row (MQ a),.val (ab (aW (elR p a))),.sum [0,1,2,4,8,9,10,17,18,19] (NR 2) {t:=Ue 30 0 [(0,.ref (.yl 8)),(1,.ref (.ptr 6 0)),(2,.ref (.ptr 5 0)),(8,ab (MK MQ l)),(9,SW (↑(MO (MK MQ l)):Int)),(10,SW (↑i:Int))],h:=[.var [ak p.nm,SW p.number,SW p.UC,SW p.UL,SW p.num,SW p.den,ab v1],.var v0,.var [.ref (.T7 4 1)],.var [SW mid],.T7 (dy (ND (n2F mid (↑i:Int) a.To) es (elR p a))) 1 3,.var [ak p.nm,SW p.number,SW p.UC,SW p.UL,SW p.num,SW p.den,ab v1],.var v0,.Ut,.loop Nl none 0 (Ue 97 0 [(2,.ref (.ptr 0 0)),(3,.ref (.ptr 1 0)),(5,.ref (.ptr 2 0)),(7,.ref (.ptr 3 0)),(8,SW sink),(58,Oe (M7 110) [] v2)]) {toList:=[59,60]} (ar (sub N7 1)) (af (sub N7 1)),.var [SW a.T5,SW a.T4,SW a.Uf,SW a.UK,SW a.To]],m:=[]}] (.c U8 (.c hr (.c (@pE p hp hn a (Az p l a mid sink es)) (.c UE (.c (iqT 9 (.var [ak p.nm,SW p.number,SW p.UC,SW p.UL,SW p.num,SW p.den,ab v1])) (.c (iqT 9 (.var v0)) (.c (iqT 9 (.var [.ref (.T7 4 1)])) (.c (iqT 9 (.var [SW mid])) (.c (show MY 9 (.T7 (dy (ND (n2F mid (↑i:Int) a.To) es (elR p a))) 1 3)=true from(by subst v0 v1 v2;first|assumption|rfl|exact dP _ _|exact dQ _ _|omega)) (.c (iqT 9 (.var [ak p.nm,SW p.number,SW p.UC,SW p.UL,SW p.num,SW p.den,ab v1])) (.c (iqT 9 (.var v0)) (.c (iqT 9 .Ut) (.c (iqT 9 (.loop Nl none 0 (Ue 97 0 [(2,.ref (.ptr 0 0)),(3,.ref (.ptr 1 0)),(5,.ref (.ptr 2 0)),(7,.ref (.ptr 3 0)),(8,SW sink),(58,Oe (M7 110) [] v2)]) {toList:=[59,60]} (ar (sub N7 1)) (af (sub N7 1)))) .n))))))))))))) ?_ ?_<;>subst v0 v1 v2<;>(first|rfl|(simp only[n3F,hw];first|done|rfl))
theorem Lz(U8:Zd ((i:Int)<((l.map MQ).length:Int))=false):(CW MJ U2 (npH p l mid sink e0 0 .ready []) false (sub Pi 0) (n3S p l mid sink es i) (.exit 0) (n3E p l mid sink es)):=by
 exact zx Xd [.b false] (.c U8 .n)
theorem sZ(p:TO)(a:Uj):(elR p a).length<=p.reqs.length:=by
 have:=yX (a:=a) p.reqs ([],0)
 unfold elR
 simpa using this
theorem n3_cw{p:TO}(hp:p.ok){l:iF}{mid sink:Int}{e0:List Uu}(hn:p.reqs.length<=100)(hl:l.length<=50000)(he0:e0.length<=50000):CW MJ U2 (npH p l mid sink e0 0 .ready []) false (.loop (sub Pi 0)) (n3S p l mid sink e0 0) (.exit 0) (n3E p l mid sink (l.foldl (n3F p mid) (e0,0)).1):=by
 have:=PU (P:=MJ) (Γ:=U2) (h0:=npH p l mid sink e0 0 .ready []) (rd:=false) (c:=sub Pi 0) (σ:=List Uu×Int) (ρ:=Empty) l (λa s=>.inl (n3F p mid s a))
  (λi s=>n3S p l mid sink s.1 (i:Int)) (.exit 0) (λs=>n3E p l mid sink s.1) (λr=>r.elim) (λi s=>s.2=i/\s.1.length<=50000+100*i) (by simp) (λr=>r.elim) ?_ ?_ (e0,0) (by simp;omega)
 ·rw[aY] at this
  exact this
 ·rintro i a ⟨es,k⟩ hc ⟨hk,he⟩
  simp only at hk he
  subst hk
  have hi:=(MR.1 hc).1
  have h1:=sZ p a
  refine⟨λs' h=>?_,Ly hp (by omega) (rowAt hc rfl) (by omega) (UO MQ hi) (Uo hi (by omega)) (show es.length<=90000000 by omega)⟩
  cases h
  simp only[n3F,yY]
  refine⟨by simp,?_⟩
  omega
 ·intro s _
  exact Lz (bl MQ l)
theorem Ds(hp:p.ok)(hn:p.reqs.length<=100)(hl:l.length<=50000)(he0:e0.length<=50000):(Ev MJ U2 110 (WT 8 6 5) (npH p l mid sink e0 0 .ready []) (.UI []) (npH p l mid sink (l.foldl (n3F p mid) (e0,0)).1 1 .ready [])):=by
 have UE:=(@n3_cw (p) (hp) (l) (mid) (sink) (e0) (hn) (hl) (he0))
 let v0:aT:=(zep (Zc p) (WC l) X1 [SW mid] (.T7 (dy (ND (n3F p mid) (e0,0) l).fst) 1 3) (WC l) (ZC sink) Xe (sub N7 1))
 exact Na (Oc (h':=v0) (d:=NG []) UR [.nx 1,.st (.ren 4 1),.sum [0,1,2,8,9,10] (NR 0) (Yn 30 v0)] (by kernel_rfl) (.c (show MK (N8 (a8 4 0 1)) (dy e0)=dy e0 from(by subst v0;first|assumption|rfl|exact dP _ _|exact dQ _ _|omega)) (.c UE .n))) (by rfl) (by rfl)
noncomputable abbrev npH0(p:TO)(l:iF)(mid:Int)(es:List Uu):aT:=[.var p.l,.var (Wr l),.var WX,.var [SW mid],.T7 (dy es) 0 3,.var p.l,.var (Wr l)]
theorem GS{p:TO}(hp:p.ok){l:iF}{mid sink:Int}{e0:List Uu}(hn:p.reqs.length<=100)(hl:l.length<=50000)(he0:e0.length<=50000):CW MJ U2 [] false (sub N7 1) {t:=npT sink,h:=npH0 p l mid e0,m:=[]} .normal
  {t:=npT sink,h:=npH p l mid sink (l.foldl (n3F p mid) (e0,0)).1 1 .exhausted [],m:=[7]}:=by
 exact CW.rangeFunc (f:=110) (fi:=[]) (ca:=Y0) UR (s:={t:=npT sink,h:=npH0 p l mid e0,m:=[]}) (g:=.tmp 58) (ps:=#[59,60]) (asg:=ar (sub N7 1)) (body:=af (sub N7 1)) rfl (by kernel_rfl) (Ds hp hn hl he0) rfl
noncomputable abbrev n4S(p:TO)(l:iF)(mid sink:Int)(es:List Uu)(i:Int):AS:={t:=Ue 97 0 [ZJ,YP,(8,SW sink),(76,ab (XE p)),(77,(zcS (XE p))),(78,SW i)],h:=npH p l mid sink es 0 .exhausted [],m:=[7]}
noncomputable abbrev n4E(p:TO)(l:iF)(mid sink:Int)(es:List Uu):AS:={t:=Ue 97 0 [ZJ,(8,SW sink)],h:=npH p l mid sink es 0 .exhausted [],m:=[7]}
def n4F(mid sink:Int)(s:List Uu×Int)(q:UA):List Uu×Int:=(s.1++[⟨ML.wrap (mid+s.2),sink,q.To⟩],s.2+1)
abbrev ZU(a:Nat)(b:List Uu)(c:Int)(d:Nat)(e:Int)(f:UA)(g:Uc):Uc:=(zb4 a 4 (dy b++[[SW (MN ML (c+(↑d:Int))),SW e,SW f.To]]) 0 3 1 g)
abbrev Yh(a:Int)(b:Nat)(c:Int)(d:UA):List (bY):=[[SW (MN ML (a+(↑b:Int))),SW c,SW d.To]]
abbrev zaj(a:UA):BY:=[.b true,.row [vs a.nm,vi a.To,vi a.Uf,Dp.v (Value.bool a.home),Dp.sl a.names,Dp.sl (aW a.U3)]]
theorem LA{q:UA}(hr:ax (i:Int) (p.reqs.map M0) q.row 6)(U8:Zd ((i:Int)<((p.reqs.map M0).length:Int))=true)(hw:ML.wrap ((i:Int)+1)=((i+1:Nat):Int))(hl:es.length<=100000000):(CW MJ U2 [] false (sub N7 2) (n4S p l mid sink es i) .normal (n4S p l mid sink (n4F mid sink (es,(i:Int)) q).1 ((i+1:Nat):Int))):=by
 let v0:=MK M0 p.reqs
 let v1:bY:=[ab (MK MQ l)]
 refine zX {t:=Ue 97 0 [(5,.ref (.ptr 2 0)),(7,.ref (.ptr 3 0)),(8,SW sink),(76,ab v0),(77,SW (↑(MO v0):Int)),(78,SW (MN ML ((↑i:Int)+1)))],h:=[.var [ak p.nm,SW p.number,SW p.UC,SW p.UL,SW p.num,SW p.den,ab v0],.var v1,.var [.ref (.T7 4 0)],.var [SW mid],.T7 (dy es++[[SW (MN ML (mid+(↑i:Int))),SW sink,SW q.To]]) 0 3,.var [ak p.nm,SW p.number,SW p.UC,SW p.UL,SW p.num,SW p.den,ab v0],.var v1,.Ut,.loop NM none 0 (Ue 97 0 [(2,.ref (.ptr 0 0)),(3,.ref (.ptr 1 0)),(5,.ref (.ptr 2 0)),(7,.ref (.ptr 3 0)),(8,SW sink),(58,Oe (M7 110) [] [.ref (.ptr 6 0),.ref (.ptr 5 0)])]) {toList:=[59,60]} (ar (sub N7 1)) (af (sub N7 1))],m:=[7]} M6 [.st (.mask [5,7,8,76,77,78]),.st (.ren 4 0),.st (.UN 9)] [.b true,.row [vs q.nm,vi q.To,vi q.Uf,Dp.v (Value.bool q.home),Dp.sl q.names,Dp.sl (aW q.U3)]] (.c U8 (.c hr (.c (show(N2 [[SW (MN ML (mid+(↑i:Int))),SW sink,SW q.To]] (aR 3)&&Um (MO (dy es)+MO [[SW (MN ML (mid+(↑i:Int))),SW sink,SW q.To]]) 24)=true from ?_) (.c (show MK (N8 (a8 4 1 0)) (dy es++[[SW (MN ML (mid+(↑i:Int))),SW sink,SW q.To]])=dy es++[[SW (MN ML (mid+(↑i:Int))),SW sink,SW q.To]] from ?_) (.er [[SW (MN ML (mid+(↑i:Int))),SW sink,SW q.To]] (.c (iqT 9 (match 0==4 with|true=>.T7 (dy es++[[SW (MN ML (mid+(↑i:Int))),SW sink,SW q.To]]) 0 3|false=>Ux (a8 4 1 0) (.var [ak p.nm,SW p.number,SW p.UC,SW p.UL,SW p.num,SW p.den,ab v0]))) (.c (iqT 9 (match 0+1==4 with|true=>.T7 (dy es++[[SW (MN ML (mid+(↑i:Int))),SW sink,SW q.To]]) 0 3|false=>Ux (a8 4 1 0) (.var v1))) (.c (iqT 9 (match 0+1+1==4 with|true=>.T7 (dy es++[[SW (MN ML (mid+(↑i:Int))),SW sink,SW q.To]]) 0 3|false=>Ux (a8 4 1 0) (.var [.ref (.T7 4 1)]))) (.c (iqT 9 (match 0+1+1+1==4 with|true=>.T7 (dy es++[[SW (MN ML (mid+(↑i:Int))),SW sink,SW q.To]]) 0 3|false=>Ux (a8 4 1 0) (.var [SW mid]))) (.c (show MY 9 (match 0+1+1+1+1==4 with|true=>.T7 (dy es++[[SW (MN ML (mid+(↑i:Int))),SW sink,SW q.To]]) 0 3|false=>Ux (a8 4 1 0) (.T7 (dy es++[[SW (MN ML (mid+(↑i:Int))),SW sink,SW q.To]]) 1 3))=true from ?_) (.c (iqT 9 (match 0+1+1+1+1+1==4 with|true=>.T7 (dy es++[[SW (MN ML (mid+(↑i:Int))),SW sink,SW q.To]]) 0 3|false=>Ux (a8 4 1 0) (.var [ak p.nm,SW p.number,SW p.UC,SW p.UL,SW p.num,SW p.den,ab v0]))) (.c (iqT 9 (match 0+1+1+1+1+1+1==4 with|true=>.T7 (dy es++[[SW (MN ML (mid+(↑i:Int))),SW sink,SW q.To]]) 0 3|false=>Ux (a8 4 1 0) (.var v1))) (.c (iqT 9 (match 0+1+1+1+1+1+1+1==4 with|true=>.T7 (dy es++[[SW (MN ML (mid+(↑i:Int))),SW sink,SW q.To]]) 0 3|false=>Ux (a8 4 1 0) .Ut)) (.c (iqT 9 (match 0+1+1+1+1+1+1+1+1==4 with|true=>.T7 (dy es++[[SW (MN ML (mid+(↑i:Int))),SW sink,SW q.To]]) 0 3|false=>Ux (a8 4 1 0) (.loop NM none 0 (Ue 97 0 [(2,.ref (.ptr 0 0)),(3,.ref (.ptr 1 0)),(5,.ref (.ptr 2 0)),(7,.ref (.ptr 3 0)),(8,SW sink),(58,Oe (M7 110) [] [.ref (.ptr 6 0),.ref (.ptr 5 0)])]) {toList:=[59,60]} (ar (sub N7 1)) (af (sub N7 1))))) .n)))))))))))))) (by subst v0 v1;simp only[];first|done|rfl) (by subst v0 v1;simp only[n4F,hw,ew];first|done|rfl)<;>subst v0 v1<;>(first|assumption|rfl|exact dP _ _|exact dQ _ _|(rw[ew];exact dP _ _)|(rw[ew];exact dQ _ _)|(simp[aR,D.one,NZ,Um,sY];omega))
theorem LB(U8:Zd ((i:Int)<((XE p).length:Int))=false):(CW MJ U2 [] false (sub N7 2) (n4S p l mid sink es i) (.exit 4) (n4E p l mid sink es)):=by
 exact zx [.st (.mask [5,8])] [.b false] (.c U8 .n)
theorem n4_cw{p:TO}{l:iF}{mid sink:Int}{e0:List Uu}(hn:p.reqs.length<=100)(he:e0.length<=10000000):CW MJ U2 [] false (.loop (sub N7 2)) (n4S p l mid sink e0 0) (.exit 4) (n4E p l mid sink (p.reqs.foldl (n4F mid sink) (e0,0)).1):=by
 have:=PU (P:=MJ) (Γ:=U2) (h0:=[]) (rd:=false) (c:=sub N7 2) (σ:=List Uu×Int) (ρ:=Empty) p.reqs (λa s=>.inl (n4F mid sink s a))
  (λi s=>n4S p l mid sink s.1 (i:Int)) (.exit 4) (λs=>n4E p l mid sink s.1) (λr=>r.elim) (λi s=>s.2=i/\s.1.length<=e0.length+i) (by simp) (λr=>r.elim) ?_ ?_ (e0,0) (by simp)
 ·rw[aY] at this
  exact this
 ·rintro i a ⟨es,k⟩ hc ⟨hk,he⟩
  simp only at hk he
  subst hk
  have hi:=(MR.1 hc).1
  refine⟨λs' h=>?_,LA (rowAt hc rfl) (UO M0 hi) (Uo hi (by omega)) (show es.length<=100000000 by omega)⟩
  cases h
  simp[n4F];omega
 ·intro s _
  exact LB (bl M0 p.reqs)
abbrev AA(l:iF):Int:=ML.wrap (1+((l.map MQ).length:Int))
abbrev xh(p:TO)(l:iF):Int:=ML.wrap (AA l+((p.reqs.map M0).length:Int))
def LC(p:TO)(l:iF):List Uu:=(l.foldl (n1F p) ([],0)).1
def LD(p:TO)(l:iF):List Uu:=(l.foldl (n3F p (AA l)) (LC p l,0)).1
def np(p:TO)(l:iF):List Uu:=(p.reqs.foldl (n4F (AA l) (xh p l)) (LD p l,0)).1
theorem s7(p:TO)(l:iF):(LC p l).length=l.length:=by unfold LC;rw[H8];simp
theorem H9{p:TO}{mid:Int}:∀(l:iF) (s:List Uu×Int),(l.foldl (n3F p mid) s).1.length<=s.1.length+l.length*p.reqs.length
 | [],s=>by simp
 | a::l,s=>by
  have h1:=H9 (p:=p) (mid:=mid) l (n3F p mid s a)
  have h2:=sZ p a
  simp only[Nn,Nq,Nat.add_mul,Nat.one_mul]
  simp only[n3F,yY] at h1 ⊢
  omega
theorem GT(p:TO)(l:iF)(hn:p.reqs.length<=100)(hl:l.length<=50000):(LD p l).length<=5050000:=by
 unfold LD
 have h1:=H9 (p:=p) (mid:=AA l) l (LC p l,0)
 have h2:=s7 p l
 have h3:l.length*p.reqs.length<=50000*100:=Nat.mul_le_mul hl hn
 simp only at h1
 omega
def yZ(p:TO)(l:iF)(e:Int):Int×List Uu×Int:=match rF p != 0 with
 | true=>(0,[],rF p)
 | false=>match e != 0 with
  | true=>(0,[],e)
  | false=>(ML.wrap (xh p l+1),np p l,0)
abbrev Ia(p:TO)(l:iF):Int×List Uu×Int:=yZ p l (f8 l).2.2
noncomputable abbrev kK(p:TO)(l:iF):aT:=[.var (Zc p),.var (WC l),.var [nq]]
noncomputable abbrev net_a_x1(p:TO):bY:=[D.agg (Zc p)]
abbrev XD(a:TO)(b:iF):bY:=[.agg a.l,ab (b.map MQ)]
abbrev zeC(c:Int)(d:Nat):D:=SW (MN ML (c+(↑d:Int)))
abbrev WR(a:Nat)(b:bv):Nat×D:=(8,(zeC (MN ML (1+(↑a:Int))) (MO b)))
abbrev zbt(a:Nat)(b:bv)(c:TO)(d:List Uu×Int)(e:iF):List (bY):=dy (ND (n4F (MN ML (1+(↑a:Int))) (MN ML (MN ML (1+(↑a:Int))+(↑(MO b):Int)))) ((ND (n3F c (MN ML (1+(↑a:Int)))) (d.fst,0) e).fst,0) c.reqs).fst
theorem net_a(hp:p.ok)(hpn:κ p.num)(hpd:κ p.den)(hn:p.reqs.length<=100)(hl:l.length<=50000)(h1:(LC p l).length<=50000)(h2:(LD p l).length<=10000000){a b c:Int}(hs:∀h,Ev MJ U2 49 (Wr l) h (.UI (Zw a b c)) h)(h:aT):(Ev MJ U2 14 (XD p l) h (.UI [SW (yZ p l c).1,ab ((yZ p l c).2.1.map Uu.row),SW (yZ p l c).2.2]) h):=by
 cases U5:rF p != 0
 ·cases Uy:c != 0
  ·have hl2:=(@n1_cw (p) (l) (MN ML (1+(↑(MO (MK MQ l)):Int))) (MN ML (MN ML (1+(↑(MO (MK MQ l)):Int))+(↑(MO (YN p)):Int))) (hl))
   have hl3:=(@GS (p) (hp) (l) (MN ML (1+(↑(MO (MK MQ l)):Int))) (MN ML (MN ML (1+(↑(MO (MK MQ l)):Int))+(↑(MO (YN p)):Int))) ((ND (n1F p) ([],0) l).fst) (hn) (hl) (h1))
   have hl4:=(@n4_cw (p) (l) (MN ML (1+(↑(MO (MK MQ l)):Int))) (MN ML (MN ML (1+(↑(MO (MK MQ l)):Int))+(↑(MO (YN p)):Int))) ((ND (n3F p (MN ML (1+(↑(MO (MK MQ l)):Int)))) ((ND (n1F p) ([],0) l).fst,0) l).fst) (hn) (h2))
   let v0:=MO (MK MQ l)
   let v1:=MK M0 p.reqs
   let v2:=ND (n1F p) ([],0) l
   let v3:=MK Uu.row (np p l)
   let v4:bY:=(WC l)
   let v5:bY:=Y0
   refine Na (Ev.zfp (z0 (d:=NG [(WJ (MN ML (MN ML (1+(↑v0:Int))+(↑(MO v1):Int)))),ab v3,SW 0]) [.val (SW (rF p)),.b false,.val (NG (Zw a b c)),.b false,.nx 3,.st (.zhX 2 0 3),.sum [2,3,5,7,8,37,38,39] (NR 0) {t:=Ue 97 0 [ZP,Yw,ZJ,YP,(WR v0 v1)],h:=[.var (Zb p v1),.var v4,.var WX,.var [(zeC 1 v0)],.T7 (dy v2.fst) 0 3],m:=[]},.inl,.sum [2,3,5,7,8,58] (M6) (zdR (Ue 97 0 [ZP,Yw,ZJ,YP,(WR v0 v1),(Vo v5)]) (Zb p v1) v4 X1 [(zeC 1 v0)] (.T7 (dy (ND (n3F p (MN ML (1+(↑v0:Int)))) (v2.fst,0) l).fst) 1 3) v4 Xe (sub N7 1)),.nx 1,.st (.ren 4 0),.sum [5,7,8,76,77,78] (NR 4) {t:=Ue 97 0 [ZJ,(WR v0 v1)],h:=[.var (Zb p v1),.var v4,.var WX,.var [(zeC 1 v0)],.T7 (zbt v0 v1 p v2 l) 0 3,.var (Zb p v1),.var v4,.Ut,.loop NM none 0 (zd7 (WR v0 v1) v5) Xe (ar (sub N7 1)) (af (sub N7 1))],m:=[7]},.st (.frz 4 v3)] (.c (@pD p hp hpn hpd (kK p l)) (.c U5 (.c (@hs (kK p l)) (.c Uy (.c hl2 (.c hl3 (.c (show MK (N8 (a8 4 1 0)) (dy (ND (n3F p (MN ML (1+(↑v0:Int)))) (v2.fst,0) l).fst)=dy (ND (n3F p (MN ML (1+(↑v0:Int)))) (v2.fst,0) l).fst from ?_) (.c hl4 (.c (show (zbt v0 v1 p v2 l)=(W8 v3) from ?_) (.c (show @Eq (oN) (some (ab v3)) (some (ab v3)) from rfl) .n)))))))))) h)) (by subst v0 v1 v2 v3 v4 v5;simp only[yZ,U5,Uy];first|done|rfl) (by rfl)<;>subst v0 v1 v2 v3 v4 v5<;>(first|assumption|rfl|exact GR _|exact dP _ _|exact dQ _ _|omega)
  ·exact Na (Ev.zfp (z0 (d:=NG [SW 0,nq,SW c]) [.val (SW (rF p)),.b false,.val (NG (Zw a b c)),.b true] (.c (@pD p hp hpn hpd (kK p l)) (.c U5 (.c (@hs (kK p l)) (.c Uy .n)))) h)) (by simp only[yZ,U5,Uy];first|done|rfl) (by rfl)
 ·exact Na (Ev.zfp (z0 (d:=NG [SW 0,nq,SW (rF p)]) (zax (rF p)) (.c (@pD p hp hpn hpd (kK p l)) (.c U5 .n)) h)) (by simp only[yZ,U5];first|done|rfl) (by rfl)
theorem Dt(hp:p.ok)(hn:p.reqs.length<=100)(hl:l.length<=50000)(h:aT):Ev MJ U2 14 (XD p l) h (.UI [SW (Ia p l).1,ab ((Ia p l).2.1.map Uu.row),SW (Ia p l).2.2]) h :=
 net_a hp hp.nm hp.dn hn hl (by have:=s7 p l;omega) (by have:=GT p l hn hl;omega) (λh=>Dl (by unfold am;omega) h) h
def cL:Code->Code
 | .seq a _=>a
 | c=>c
def cR:Code->Code
 | .seq _ b=>b
 | c=>c
def cB:Code->Code
 | .block _ c=>c
 | .loop c=>c
 | c=>c
abbrev WE(a:List Uu):bv:=(a.map Uu.row)
abbrev zc0(a:D):bY:=[a,.ref (.T7 0 0),.ref (.T7 1 0)]
abbrev nnV(es:List Uu):Uc:=.var (zc0 (ab (WE es)))
abbrev nnT(es:List Uu)(i:Int):bY:=Ue 64 0 [ZJ,(16,ab (WE es)),(17,(zcS (WE es))),(18,SW i)]
abbrev nnU(es:List Uu)(i:Int):bY:=Ue 64 0 [ZJ,(6,SW i),YP,(16,ab (WE es)),(17,(zcS (WE es))),(18,SW i)]
abbrev WA(a b:List (bY))(c:List Uu):aT:=[.T7 a 0 1,.T7 b 0 1,nnV c]
theorem nn3:(CW MJ U2 (WA fl R es) false (cL (sub O1 0)) {t:=nnT es i,h:=(WA fl R es),m:=[]} .normal
  {t:=Ue 64 0 [ZJ,(16,ab (WE es)),(17,(zcS (WE es))),(18,SW i),(19,T6 (Zd ((i:Int)<((WE es).length:Int))))],h:=(WA fl R es),m:=[]}):=by
 exact zx [.st (.mask [5,16,17,18,19])] [] .n
theorem nn4(hr:ax (i:Int) (WE es) x.row 3):(CW MJ U2 (WA fl R es) false (cL (cB (cL (cR (cR (sub O1 0)))))) {t:=nnT es i,h:=(WA fl R es),m:=[]} .normal
  {t:=nnU es i,h:=[.T7 fl 0 1,.T7 R 0 1,nnV es,.var (XB x)],m:=[]}):=by
 exact zx [.st (.mask [5,6,7,16,17,18])] [.row (Vz x)] (.c hr .n)
theorem nn_vp{d:D}(hu:R[u]? = some [d]):EO MJ 55 R 0 0 (MU (u:Int)) 0 d:=by
 unfold EO
 simp only[N4,hu,if_true,Pk]
 rfl
theorem nn_in(hu:R[u]? = some r):UU (u:Int) R.length=true:=by
 have:=(MR.1 hu).1
 simp[UU];omega
abbrev Wf(a:Nat)(b:Int):Ref:=(.vp a 0 (MU b) 0)
theorem nn_st{b0:Uc}(hu:R[u]? = some r)(hr:r.length=1):aX MJ (b0::.T7 R 0 1::rest) 55 (.ref (Wf 1 (u:Int))) (.ref (.T7 4 e))=some (b0::.T7 (R.set u (XI 4 e)) 0 1::rest):=by
 match r,hr with
 | [d],_ =>
  unfold aX
  simp[hu]
  rfl
theorem dR(B:bV)(n:Int):eC B++[[SW n]]=eC (B++[n]):=by simp
theorem y1(B:bV):MY k (.T7 (eC B) e 1)=true:=by simp[MY,Ob,D.inn]
abbrev Yd(a b:Nat):D:=(.ref (.vp a 0 (MU (↑b:Int)) 0))
abbrev YM:oN:=(some (.ref (.T7 1 0)))
abbrev X7(a:Nat):List (bY):=[[SW (MN ML (2*(↑a:Int)))]]
abbrev Vd(a:List Uu):D:=ab (MK Uu.row a)
abbrev Vs:D:=(.ref (.ptr 2 2))
abbrev zbW:BY:=[.st (.mask [5,6,7,16,17,18]),.st (.UN 5)]
abbrev zcT(a b:List (bY))(c:Uc)(d e f:Int)(g:bV)(h:Nat):aT:=[.T7 a 0 1,.T7 b 0 1,c,.var (Zw d e f),.T7 (eC g) h 1]
abbrev zdK(a:Nat)(b:List Uu):bY:=Ue 64 0 [ZJ,(6,(ZO a)),YP,(16,(Vd b)),(Yr 17 (MK Uu.row b)),(18,(ZO a))]
theorem nn5{to most:Int}(hR:R[u]? = some WX)(hB:B.length<=1000000)(hfl:MY 5 (.T7 fl 0 1)=true)(hRi:MY 5 (.T7 (R.set u X1) 0 1)=true):(CW MJ U2 (zcT fl R (nnV es) (u:Int) to most B 0) false (cL (cR (cB (cL (cR (cR (sub O1 0))))))) {t:=nnU es i,h:=(zcT fl R (nnV es) (u:Int) to most B 0),m:=[]} .normal
  {t:=nnU es i,h:=(zcT fl (R.set u X1) (nnV es) (u:Int) to most (B++[ML.wrap (2*(i:Int))]) 1),m:=[]}):=by
 let v0:bY:=(zc0 (Vd es))
 let v1:=OZ R u X1
 refine zX {t:=(zdK i es),h:=[.T7 fl 0 1,.T7 v1 0 1,.var v0,.var (Zw (↑u:Int) to most),.T7 (eC B++(X7 i)) 1 1],m:=[]} M6 zbW [.ov 36 (.ref (.T7 4 0)),.oh 10041 D.any [.T7 fl 0 1,.T7 v1 0 1,nnV es,.var (Zw (↑u:Int) to most),.T7 (eC B++(X7 i)) 1 1,.T7 (X7 i) 0 1]] (.c (show UU (↑u:Int) (MO R)=true from ?_) (.c (show @Eq (oN) (aN MJ (zcT fl R (.var v0) (↑u:Int) to most B 0) 55 (Yd 1 u)) (Y5 4) from ?_) (.c (show(N2 (X7 i) (aR 1)&&Um (MO (eC B)+MO (X7 i)) 8)=true from ?_) (.c (show UU (↑u:Int) (MO R)=true from ?_) (.c (show @Eq (Option (aT)) (aX MJ [.T7 fl 0 1,.T7 R 0 1,.var v0,.var (Zw (↑u:Int) to most),.T7 (eC B++(X7 i)) 1 1,.T7 (X7 i) 0 1] 55 (Yd 1 u) (.ref (.T7 4 1))) (some [.T7 fl 0 1,.T7 v1 0 1,.var v0,.var (Zw (↑u:Int) to most),.T7 (eC B++(X7 i)) 1 1,.T7 (X7 i) 0 1]) from ?_) (.e Xs (.e Xs (.e Xs (.e Vs (.e Vs (.e Vs (.c (show @Eq (oN) YM YM from rfl) (.c (show @Eq (oN) YM YM from rfl) (.c (show @Eq (oN) YM YM from rfl) (.e Wy (.e Wy (.e Wy (.c (show @Eq (oN) (some (ZO u)) (some (ZO u)) from rfl) (.c (show @Eq (oN) (some (ZO u)) (some (ZO u)) from rfl) (.c (show @Eq (oN) (some (ZO u)) (some (ZO u)) from rfl) (.e Xs (.e Xs (.e Vs (.e Vs (.c (show @Eq (oN) YM YM from rfl) (.c (show @Eq (oN) YM YM from rfl) (.e Wy (.e Wy (.c (show @Eq (oN) (some (ZO u)) (some (ZO u)) from rfl) (.c (show @Eq (oN) (some (ZO u)) (some (ZO u)) from rfl) (.c (show UU (↑u:Int) (MO R)=true from ?_) (.e (Yd 1 u) (.c (show UU (↑u:Int) (MO R)=true from ?_) (.e (Yd 1 u) (.c (show @Eq (oN) (if 0=0 then match R[MU (↑u:Int)]? with|some row=>cn MJ 55 (Oz 0 row)|none=>none else none) (Y5 4) from ?_) (.c (show @Eq (oN) (if 0=0 then match R[MU (↑u:Int)]? with|some row=>cn MJ 55 (Oz 0 row)|none=>none else none) (Y5 4) from ?_) (.c (show UU (↑u:Int) (MO R)=true from ?_) (.e (Yd 1 u) (.c hfl (.c hRi (.c (iqT 5 (.var v0)) (.c (iqT 5 (.var (Zw (↑u:Int) to most))) (.c (show MY 5 (.T7 (eC B++(X7 i)) 1 1)=true from ?_) .n))))))))))))))))))))))))))))))))))))))))))) (by subst v0 v1;first|rfl|(rw[dR];done)|(rw[dR];rfl)) (by subst v0 v1;first|rfl|(rw[dR];done)|(rw[dR];rfl))<;>subst v0 v1<;>(first|assumption|rfl|exact nn_vp hR|exact nn_in hR|exact nn_st hR rfl|(rw[dR];exact y1 _)|(simp[aR,D.one,NZ,Um];omega))
abbrev Xf(a:Nat):List (bY):=[[SW (MN ML (MN ML (2*(↑a:Int))+1))]]
abbrev zbj:D:=(.ref (.ptr 3 1))
theorem nn6{U3 most:Int}(hR:R[u]? = some WX)(hB:B.length<=1000000)(hfl:MY 5 (.T7 fl 0 1)=true)(hRi:MY 5 (.T7 (R.set u X1) 0 1)=true):(CW MJ U2 (zcT fl R (nnV es) U3 (u:Int) most B 0) false (cR (cR (cB (cL (cR (cR (sub O1 0))))))) {t:=nnU es i,h:=(zcT fl R (nnV es) U3 (u:Int) most B 0),m:=[]} .normal
  {t:=nnU es i,h:=(zcT fl (R.set u X1) (nnV es) U3 (u:Int) most (B++[ML.wrap (ML.wrap (2*(i:Int))+1)]) 1),m:=[]}):=by
 let v0:bY:=(zc0 (Vd es))
 let v1:=OZ R u X1
 refine zX {t:=(zdK i es),h:=[.T7 fl 0 1,.T7 v1 0 1,.var v0,.var (Zw U3 (↑u:Int) most),.T7 (eC B++(Xf i)) 1 1],m:=[]} M6 zbW [.ov 55 (.ref (.T7 4 0)),.oh 10061 D.any [.T7 fl 0 1,.T7 v1 0 1,nnV es,.var (Zw U3 (↑u:Int) most),.T7 (eC B++(Xf i)) 1 1,.T7 (Xf i) 0 1]] (.c (show UU (↑u:Int) (MO R)=true from ?_) (.c (show @Eq (oN) (aN MJ (zcT fl R (.var v0) U3 (↑u:Int) most B 0) 55 (Yd 1 u)) (Y5 4) from ?_) (.c (show(Y9 [[SW (MN ML (MN ML (2*(↑i:Int))+1))]] 1 (eC B) 8)=true from ?_) (.c (show UU (↑u:Int) (MO R)=true from ?_) (.c (show @Eq (Option (aT)) (aX MJ [.T7 fl 0 1,.T7 R 0 1,.var v0,.var (Zw U3 (↑u:Int) most),.T7 (eC B++(Xf i)) 1 1,.T7 (Xf i) 0 1] 55 (Yd 1 u) (.ref (.T7 4 1))) (some [.T7 fl 0 1,.T7 v1 0 1,.var v0,.var (Zw U3 (↑u:Int) most),.T7 (eC B++(Xf i)) 1 1,.T7 (Xf i) 0 1]) from ?_) (.e Xs (.e Xs (.e Xs (.e Vs (.e Vs (.e Vs (.c (show @Eq (oN) YM YM from rfl) (.c (show @Eq (oN) YM YM from rfl) (.c (show @Eq (oN) YM YM from rfl) (.e zbj (.e zbj (.e zbj (.c (show @Eq (oN) (some (ZO u)) (some (ZO u)) from rfl) (.c (show @Eq (oN) (some (ZO u)) (some (ZO u)) from rfl) (.c (show @Eq (oN) (some (ZO u)) (some (ZO u)) from rfl) (.e Xs (.e Xs (.e Vs (.e Vs (.c (show @Eq (oN) YM YM from rfl) (.c (show @Eq (oN) YM YM from rfl) (.e zbj (.e zbj (.c (show @Eq (oN) (some (ZO u)) (some (ZO u)) from rfl) (.c (show @Eq (oN) (some (ZO u)) (some (ZO u)) from rfl) (.c (show UU (↑u:Int) (MO R)=true from ?_) (.e (Yd 1 u) (.c (show UU (↑u:Int) (MO R)=true from ?_) (.e (Yd 1 u) (.c (show @Eq (oN) (if 0=0 then match R[MU (↑u:Int)]? with|some row=>cn MJ 55 (Oz 0 row)|none=>none else none) (Y5 4) from ?_) (.c (show @Eq (oN) (if 0=0 then match R[MU (↑u:Int)]? with|some row=>cn MJ 55 (Oz 0 row)|none=>none else none) (Y5 4) from ?_) (.c (show UU (↑u:Int) (MO R)=true from ?_) (.e (Yd 1 u) (.c hfl (.c hRi (.c (iqT 5 (.var v0)) (.c (iqT 5 (.var (Zw U3 (↑u:Int) most))) (.c (show MY 5 (.T7 (eC B++(Xf i)) 1 1)=true from ?_) .n))))))))))))))))))))))))))))))))))))))))))) (by subst v0 v1;first|rfl|(rw[dR];done)|(rw[dR];rfl)) (by subst v0 v1;first|rfl|(rw[dR];done)|(rw[dR];rfl))<;>subst v0 v1<;>(first|assumption|rfl|exact nn_vp hR|exact nn_in hR|exact nn_st hR rfl|(rw[dR];exact y1 _)|(simp[aR,D.one,NZ,Um];omega))
theorem nn7(hw:ML.wrap ((i:Int)+1)=((i+1:Nat):Int)):(CW MJ U2 [.T7 fl 0 1,.T7 R 0 1,nnV es,.var [SW x.U3,SW x.to,SW x.most]] false (cR (cR (cR (sub O1 0)))) {t:=nnU es i,h:=[.T7 fl 0 1,.T7 R 0 1,nnV es,.var [SW x.U3,SW x.to,SW x.most]],m:=[]} .normal
  {t:=nnT es ((i+1:Nat):Int),h:=[.T7 fl 0 1,.T7 R 0 1,nnV es,.var [SW x.U3,SW x.to,SW x.most]],m:=[]}):=by
 refine zX {t:=Ue 64 0 [(5,.ref (.ptr 2 0)),(16,ab (MK Uu.row es)),(17,SW (↑(MO (MK Uu.row es)):Int)),(18,SW (MN ML ((↑i:Int)+1)))],h:=[.T7 fl 0 1,.T7 R 0 1,.var [ab (MK Uu.row es),.ref (.T7 0 0),.ref (.T7 1 0)],.var [SW x.U3,SW x.to,SW x.most]],m:=[]} M6 [.st (.mask [5,16,17,18])] [] .n ?_ ?_<;>(first|rfl|(rw[hw]))
abbrev nnC(es:List Uu)(i:Int)(b:Bool):bY:=Ue 64 0 [ZJ,(16,ab (WE es)),(17,(zcS (WE es))),(18,SW i),(19,T6 b)]
theorem nnc1(hb:b=true):(CW MJ U2 (WA fl R es) false (cL (cR (sub O1 0))) {t:=nnC es i b,h:=(WA fl R es),m:=[]} .normal
  {t:=nnT es i,h:=(WA fl R es),m:=[]}):=by
 exact zx [.st (.mask [5,16,17,18])] [.b true] (.c hb .n)
theorem nnc0(hb:b=false):(CW MJ U2 (WA fl R es) false (cL (cR (sub O1 0))) {t:=nnC es i b,h:=(WA fl R es),m:=[]} (.exit 0)
  {t:=Ue 64 0 [ZJ],h:=(WA fl R es),m:=[]}):=by
 exact zx [.st (.mask [5])] [.b false] (.c hb .n)
def kV(s:List (bV)×Int)(x:Uu):List (bV)×Int :=
 let A:=s.1.set x.U3.toNat (s.1.getD x.U3.toNat []++[ML.wrap (2*s.2)])
 (A.set x.to.toNat (A.getD x.to.toNat []++[ML.wrap (ML.wrap (2*s.2)+1)]),s.2+1)
def jb(n:Nat)(es:List Uu):List (bV):=(es.foldl kV (MS n [],0)).1
theorem GU(s:List (bV)×Int)(x:Uu):(kV s x).1.length=s.1.length:=by simp[kV]
def Lim(A:List (bV))(k:Nat):Prop:=∀(j:Nat) (B:bV),A[j]? = some B->B.length<=k
theorem Lim.set(h:Lim A k)(u:Nat)(v:Int):Lim (A.set u (A.getD u []++[v])) (k+1):=by
 intro j B hj
 by_cases hu:j=u
 ·subst hu
  have hl:j<A.length:=by have:=(MR.1 hj).1;simpa using this
  rw[NK hl] at hj
  cases hj
  have hg:A[j]? = some (A.getD j []):=by simp[List.getD,hl]
  have:=h j _ hg
  simp only[List.length_append,List.length_singleton];omega
 ·rw[List.getElem?_set_ne (λe=>hu e.symm)] at hj
  have:=h j B hj;omega
theorem GV{s:List (bV)×Int}(h:Lim s.1 k):Lim (kV s x).1 (k+2):=by
 have h1:=h.set x.U3.toNat (ML.wrap (2*s.2))
 have h2:=h1.set x.to.toNat (ML.wrap (ML.wrap (2*s.2)+1))
 unfold kV
 intro j B hj
 exact h2 j B hj
theorem Du(h:j<A.length):A[j]? = some (A.getD j []):=by simp[List.getD,h]
def ef(n:Nat)(x:Uu):Prop:=0<=x.U3/\x.U3<n/\0<=x.to/\x.to<n
theorem y2:MY 5 (.T7 (((bW ys).set u WX).set u X1) 0 e)=true:=by
 simp only[MY,S6]
 rw[Ni]
 intro r hr
 rcases List.mem_or_eq_of_mem_set hr with h1|h1
 ·obtain⟨y,_,rfl⟩:=List.mem_map.1 h1;rfl
 ·rw[h1];rfl
theorem y3(hu:u<ys.length):((bW ys).set u [Qe (.T7 4 0)])[u]? = some WX:=NK (by simpa using hu)
section
variable {X:Ctx} {fl:List (bY)} {es:List Uu}
abbrev Vu(a:List (bV))(b c d:Nat):bV:=(a.set b (a.getD b []++[ML.wrap (2*(c:Int))])).getD d []
abbrev zeJ(a:Code):Code:=(.seq (cL (cR (a))) (cR (cR (a))))
theorem GW(hfl:∀k,MY k (.T7 fl 0 1)=true)(hes:es.length<=65536)(hx:es[i]? = some x)(UY:ef A.length x)(hA:Lim A (2*i)){a:Act}{w:World}
  (hn:NB U2 X (nnT es i) [.T7 fl 0 1] [nnV es] A a w) :
  (sub O1 0).wpIn (FW none) 0 MJ (λe a' w'=>e=.normal/\NB U2 X (nnT es ((i+1:Nat):Int)) [.T7 fl 0 1] [nnV es] (kV (A,(i:Int)) x).1 a' w') a w:=by
 have hi:=(MR.1 hx).1
 have U8:=UO Uu.row hi
 have hw:=Uo hi (by omega)
 obtain⟨u,hu⟩:∃u:Nat,x.U3=u:=⟨x.U3.toNat,by have:=UY.1;omega⟩
 obtain⟨v,hv⟩:∃v:Nat,x.to=v:=⟨x.to.toNat,by have:=UY.2.2.1;omega⟩
 have hul:u<A.length:=by have:=UY.2.1;omega
 have hvl:v<A.length:=by have:=UY.2.2.2;omega
 have zgM:sub O1 0=.seq (cL (sub O1 0)) (.seq (cL (cR (sub O1 0))) (.seq (.block 1 (.seq (cL (cB (cL (cR (cR (sub O1 0)))))) (.seq (cL (cR (cB (cL (cR (cR (sub O1 0))))))) (cR (cR (cB (cL (cR (cR (sub O1 0))))))))))
  (cR (cR (cR (sub O1 0)))))):=by kernel_rfl
 rw[zgM]
 refine wpIn_seq (wpIn_mono (Tx (e:=.normal) (pre':=[.T7 fl 0 1]) (more':=[nnV es]) (t':=nnC es i (Zd ((i:Int)<((es.map Uu.row).length:Int)))) (by simp) (λys _=>nn3 (es:=es) (fl:=fl) (R:=bW ys) (i:=i)) hn) ?_)
 rintro e a1 w1 ⟨rfl,n1⟩
 refine wpIn_seq (wpIn_mono (Tx (e:=.normal) (pre':=[.T7 fl 0 1]) (more':=[nnV es]) (t':=nnT es i) (by simp) (λys _=>nnc1 (es:=es) (fl:=fl) (R:=bW ys) (i:=i) (b:=Zd ((i:Int)<((es.map Uu.row).length:Int))) U8) n1) ?_)
 rintro e a2 w2 ⟨rfl,n2⟩
 refine wpIn_seq (wpIn_block ?_)
 refine wpIn_seq (wpIn_mono (Tx (e:=.normal) (pre':=[.T7 fl 0 1]) (more':=[nnV es,.var [SW x.U3,SW x.to,SW x.most]]) (t':=nnU es i) (by simp) (λys _=>nn4 (es:=es) (fl:=fl) (R:=bW ys) (i:=i) (x:=x) (rowAt hx rfl)) n2) ?_)
 rintro e a3 w3 ⟨rfl,n3⟩
 rw[hu,hv] at n3
 have hAu:A[u]? = some (A.getD u []):=Du hul
 have hBu:(A.getD u []).length<=1000000:=by have:=hA u _ hAu;omega
 refine wpIn_seq (wpIn_mono (NB.focus (t':=nnU es i) (u:=u) (B:=A.getD u []) (B':=A.getD u []++[ML.wrap (2*(i:Int))]) hAu (by simp[hfl]) rfl rfl (λys hy=>?_) n3) ?_)
 ·have:=nn5 (es:=es) (fl:=fl) (R:=(bW ys).set u [.ref (.T7 4 0)]) (B:=A.getD u []) (u:=u) (i:=i) (to:=(v:Int)) (most:=x.most) (y3 (by omega)) hBu (hfl 5) y2
  rw[S6] at this
  exact this
 rintro e a4 w4 ⟨rfl,n4⟩
 have hvl2:v<(A.set u (A.getD u []++[ML.wrap (2*(i:Int))])).length:=by simpa using hvl
 have hAv:(A.set u (A.getD u []++[ML.wrap (2*(i:Int))]))[v]? = some ((A.set u (A.getD u []++[ML.wrap (2*(i:Int))])).getD v []):=Du hvl2
 have hBv:((A.set u (A.getD u []++[ML.wrap (2*(i:Int))])).getD v []).length<=1000000:=by have:=(hA.set u (ML.wrap (2*(i:Int)))) v _ hAv;omega
 refine wpIn_mono (NB.focus (t':=nnU es i) (u:=v) (B:=(A.set u (A.getD u []++[ML.wrap (2*(i:Int))])).getD v []) (B':=(A.set u (A.getD u []++[ML.wrap (2*(i:Int))])).getD v []++[ML.wrap (ML.wrap (2*(i:Int))+1)]) hAv (by simp[hfl]) rfl rfl (λys hy=>?_) n4) ?_
 ·have:=nn6 (es:=es) (fl:=fl) (R:=(bW ys).set v [.ref (.T7 4 0)]) (B:=(A.set u (A.getD u []++[ML.wrap (2*(i:Int))])).getD v []) (u:=v) (i:=i) (U3:=(u:Int)) (most:=x.most) (y3 (by simp at hy;omega)) hBv (hfl 5) y2
  rw[S6] at this
  exact this
 rintro e a5 w5 ⟨rfl,n5⟩
 have n5':NB U2 X (nnU es i) [.T7 fl 0 1] [nnV es,.var [SW x.U3,SW x.to,SW x.most]] (kV (A,(i:Int)) x).1 a5 w5:=by
  unfold kV
  simp only[hu,hv,N4]
  exact n5
 refine wpIn_mono (Tx (e:=.normal) (pre':=[.T7 fl 0 1]) (more':=[nnV es,.var [SW x.U3,SW x.to,SW x.most]]) (t':=nnT es ((i+1:Nat):Int)) (by simp) (λys _=>nn7 (es:=es) (fl:=fl) (R:=bW ys) (i:=i) (x:=x) hw) n5') ?_
 rintro e a6 w6 ⟨rfl,n6⟩
 exact⟨rfl,NB.trimTo (m1:=[nnV es]) (m2:=[.var [SW x.U3,SW x.to,SW x.most]]) n6 rfl (by simp[hfl]) rfl⟩
end
theorem Dv:∀(l:List Uu) (s:List (bV)×Int),(l.foldl kV s).2=s.2+l.length
 | [],s=>by simp
 | x::l,s=>by rw[Nn,Dv l];simp[kV];omega
theorem xi:∀(l:List Uu) (s:List (bV)×Int),(l.foldl kV s).1.length=s.1.length
 | [],s=>rfl
 | x::l,s=>by rw[Nn,xi l,GU]
theorem xj:∀(l:List Uu) (s:List (bV)×Int) (k:Nat),Lim s.1 k->Lim (l.foldl kV s).1 (k+2*l.length)
 | [],s,k,h=>h
 | x::l,s,k,h=>by
  have:=xj l (kV s x) (k+2) (GV h)
  rw[Nn]
  intro j B hj
  have:=this j B hj
  simp only[Nq];omega
abbrev flR(es:List Uu):List (bY):=MS (MU ((WE es).length:Int)) [SW 0]
abbrev adjV(A:List (bV)):List (bY):=A.map λB=>[.p (.sl (mQ B))]
theorem Dw(k:Nat):MY k (.T7 (flR es) 0 1)=true:=by
 simp only[MY,Ni]
 intro r hr
 rw[(Sn.1 hr).2];rfl
theorem nn_cw{n:Nat}{es:List Uu}(hes:es.length<=65536)(UY:∀x∈es,ef n x):
  CW MJ U2 [] false (.loop (sub O1 0)) {t:=nnT es 0,h:=(WA (flR es) (MS (MU (n:Int)) [.p (.v (.slice none 0 0))]) es),m:=[]} (.exit 0)
   {t:=Ue 64 0 [ZJ],h:=(WA (flR es) (adjV (jb n es)) es),m:=[]}:=by
 intro X r hX hr a w hs
 obtain rfl:=hr rfl
 have hs':St U2 X {t:=nnT es 0,h:=hB [.T7 (flR es) 0 1] (bW (MS n (.slice none 0 0))) [nnV es],m:=[]} a w:=by
  have e:bW (MS n (.slice none 0 0))=MS (MU (n:Int)) [.p (.v (.slice none 0 0))]:=by simp
  rw[e];exact hs
 have n0:=NB.enter hX hs'
 refine qU (λ(i:Nat) a w=>i<=es.length/\NB U2 X (nnT es i) [.T7 (flR es) 0 1] [nnV es] ((es.take i).foldl kV (MS n [],0)).1 a w) (λi=>es.length-i) 0 ⟨Nat.zero_le _,n0⟩ ?_
 rintro i a w ⟨hi,hn⟩
 have hl:((es.take i).foldl kV (MS n [],0)).1.length=n:=by rw[xi];simp
 have hlim:Lim ((es.take i).foldl kV (MS n [],0)).1 (2*i):=by
  have h0:Lim (MS n ([]:bV)) 0:=by
   intro j B hj
   rw[List.getElem?_replicate] at hj
   split at hj<;>simp at hj
   subst hj;simp
  have:=xj (es.take i) (MS n [],0) 0 h0
  simpa[Nat.min_eq_left hi] using this
 by_cases U8:i<es.length
 ·have hx:es[i]? = some es[i]:=List.getElem?_eq_getElem U8
  refine wpIn_mono (GW Dw hes hx (by rw[hl];exact UY _ (List.getElem_mem U8)) hlim hn) ?_
  rintro e a' w' ⟨rfl,n1⟩
  refine .inl ⟨rfl,i+1,⟨by omega,?_⟩,by omega⟩
  have e2:((es.take (i+1)).foldl kV (MS n [],0)).1=(kV (((es.take i).foldl kV (MS n [],0)).1,(i:Int)) es[i]).1:=by
   rw[List.take_add_one,hx,Option.toList_some,List.foldl_append,Nn,List.foldl_nil]
   congr 2
   have:=Dv (es.take i) (MS n [],0)
   rw[List.length_take,Nat.min_eq_left hi] at this
   rw[<-Prod.eta ((es.take i).foldl kV (MS n [],0)),this]
   simp
  rw[e2];exact n1
 ·have hi2:i=es.length:=by omega
  subst hi2
  have zgM:sub O1 0=.seq (cL (sub O1 0)) (zeJ (sub O1 0)):=by kernel_rfl
  rw[zgM]
  refine wpIn_seq (wpIn_mono (Tx (e:=.normal) (pre':=[.T7 (flR es) 0 1]) (more':=[nnV es]) (t':=nnC es (es.length:Int) (Zd ((es.length:Int)<((WE es).length:Int)))) (by simp) (λys _=>nn3 (es:=es) (fl:=flR es) (R:=bW ys) (i:=es.length)) hn) ?_)
  rintro e a1 w1 ⟨rfl,n1⟩
  refine wpIn_seq (wpIn_mono (Tx (e:=.exit 0) (pre':=[.T7 (flR es) 0 1]) (more':=[nnV es]) (t':=Ue 64 0 [ZJ]) (by simp) (λys _=>nnc0 (es:=es) (fl:=flR es) (R:=bW ys) (i:=es.length) (b:=Zd ((es.length:Int)<((WE es).length:Int))) (bl Uu.row es)) n1) ?_)
  rintro e a2 w2 ⟨rfl,n2⟩
  have n3:=NB.leave hX n2
  rw[List.take_length] at n3
  exact .inr ⟨by simp,by simp,by simp,_,⟨rfl,rfl⟩,n3⟩
abbrev i6(A:List (bV)):bv:=A.map λB=>[.sl (mQ B)]
theorem GX(A:List (bV)):adjV A=(i6 A).map (·.map .p):=by simp
theorem Dx(f:Ref->D)(es:List Uu):(flR es).map (N8 f)=flR es:=by
 simp only[flR,List.map_replicate];rfl
theorem LE(h:Ob k r=true):(MS m r).all (Ob k)=true:=by
 rw[Ni]
 intro x hx
 rw[(Sn.1 hx).2];exact h
abbrev Yv(a b:Int):Bool:=Zd (0<=a)&&Zd (a<=a)&&Zd (a*b<=281474976710656)&&Zd (a<=281474976710656)
abbrev XR(a:Nat)(b:bY):List (bY):=(MS (MU (↑a:Int)) b)
abbrev WD(a:List (bY))(b:List Uu)(c:bv):aT:=[.T7 (a) 0 1,.U7,.var [ab (MK Uu.row b),.ref (.T7 0 0),ab c]]
abbrev zc6:bY:=MK lit (SD (Value.int ML 0)).toList
theorem nn_ev(hn:n<=10000)(hes:es.length<=65536)(UY:∀x∈es,ef n x):(Ev MJ U2 102 [SW (n:Int),ab (WE es)] [] Xs [.T7 (flR es) 0 1,.U7,.var [ab (WE es),.ref (.T7 0 0),ab (i6 (jb n es))]]):=by
 have UE:=(@nn_cw (n) (es) (hes) (UY))
 let v0:=zc6
 let v1:=MO (MK Uu.row es)
 let v2:=MK lit (SD (Value.slice none 0 0)).toList
 refine Na (Oc (h':=(WD (flR es) es (i6 (jb n es)))) (d:=.ref (.ptr 2 0)) UR [.nx 1,.lateO,.sum [5,16,17,18] (NR 0) {t:=Ue 64 0 [ZJ],h:=[.T7 (flR es) 0 1,.T7 (adjV (jb n es)) 0 1,.var (zc0 (Vd es))],m:=[]},.st (.frz 1 (i6 (jb n es)))] (by kernel_rfl) (.c (show(Yv (↑v1:Int) (↑8:Int))=true from ?_) (.c (show(Yv (↑n:Int) (↑24:Int))=true from ?_) (.c (show N2 (XR v1 v0) (Ob 0)=true from ?_) (.c (show N2 (XR v1 v0) (Ob 1)=true from ?_) (.c (show N2 (XR v1 v0) (Ob 1)=true from ?_) (.c (show N2 (XR v1 v0) (Ob 2)=true from ?_) (.c (show N2 (XR n v2) (Ob 2)=true from ?_) (.c (show N2 (XR v1 v0) (Ob 2)=true from ?_) (.c (show N2 (XR v1 v0) (Ob 3)=true from ?_) (.c (show N2 (XR n v2) (Ob 3)=true from ?_) (.c (show N2 (XR v1 v0) (Ob 3)=true from ?_) (.c (show N2 (XR n v2) (Ob 0)=true from ?_) (.c (show N2 (XR v1 v0) (Ob 1)=true from ?_) (.c (show N2 (XR n v2) (Ob 1)=true from ?_) (.c (show N2 (XR v1 v0) (Ob 2)=true from ?_) (.c (show N2 (XR n v2) (Ob 2)=true from ?_) (.c (show N2 (XR n v2) (Ob 2)=true from ?_) (.c (show N2 (XR v1 v0) (Ob 3)=true from ?_) (.c (show N2 (XR n v2) (Ob 3)=true from ?_) (.c (show N2 (XR n v2) (Ob 3)=true from ?_) (.c UE (.c (show adjV (jb n es)=(W8 (i6 (jb n es))) from ?_) (.c (show MK (N8 (ez 1 0 (i6 (jb n es)))) (flR es)=flR es from ?_) .n)))))))))))))))))))))))) (by rfl) (by rfl)<;>subst v0 v1 v2<;>(first|assumption|rfl|exact GX _|exact Dx _ _|exact Dw _|omega|exact LE rfl|(simp;omega))
abbrev fwH(es:List Uu)(A:bv)(fs:bV):aT:=[.T7 (ao fs) 0 1,.U7,.var [ab (WE es),.ref (.T7 0 0),ab A]]
theorem GY{l:bV}{a:Int}(ha:l[i]? = some a):EO MJ 3 (ao l) 0 0 i 0 (SW a):=by
 have e1:(ao l)[i]? = some [SW a]:=by simp[ao,ha]
 unfold EO
 simp only[e1,if_true,Pk]
 rfl
theorem s8{l:bV}{b:Uc}{a:Int}(ha:l[i]? = some a):aN MJ (.T7 (ao l) 0 1::b::rest) 3 (.ref (.vp 0 0 i 0))=some (SW a):=by
 have e1:(ao l)[i]? = some [SW a]:=by simp[ao,ha]
 unfold aN
 simp only[Np,e1,if_true,Pk]
 rfl
theorem nr{l:bV}{a:Int}(hi:i<l.length):aX MJ (.T7 (ao l) 0 1::rest) 3 (.ref (.vp 0 0 i 0)) (SW a)=some (.T7 (ao (l.set i a)) 0 1::rest):=by
 have e1:(ao l)[i]? = some [SW l[i]]:=by simp[ao,hi]
 unfold aX
 simp only[Np,e1,if_true]
 simp[ao,List.map_set,List.set_cons_zero]
 rfl
theorem y4{l:bV}{z:Int}(hz:z=i)(hi:i<l.length):UU z (ao l).length=true:=by
 subst hz;simp[UU,ao];omega
def fe(r:Int)(x:Uu)(f:Int):Int:=match Qw r 2==0 with
 | true=>ML.wrap (x.most-f)
 | false=>f
def qj(r:Int)(x:Uu):Int:=match Qw r 2==0 with
 | true=>x.to
 | false=>x.U3
abbrev XX(a:Int):bY:=[.ref (.ptr 2 0),SW a]
abbrev zdV(a:Int):D:=(.ref (.vp 0 0 (MU (MN ML (Nz a 2))) 0))
theorem cap_a{A:bv}{r:Int}(hq:ML.wrap (Nz r 2)=(q:Int))(hx:ax (ML.wrap (Nz r 2)) (WE es) x.row 3)(hf:fs[MU (ML.wrap (Nz r 2))]? = some f)(hl:q<fs.length):(Ev MJ U2 107 (XX r) (fwH es A fs) (SW (fe r x f)) (fwH es A fs)):=by
 cases U5:Qw r 2==0
 ·let v0:aT:=(WD (ao fs) es A)
  refine Na (Oc (h':=v0) (d:=SW f) UR [.b false,.ov 33 (SW f)] (by kernel_rfl) (.c (show(!Zd (2=0))=true from rfl) (.c U5 (.c (show(!Zd (2=0))=true from rfl) (.c (show UU (MN ML (Nz r 2)) (MO (ao fs))=true from ?_) (.c (show @Eq (oN) (aN MJ v0 3 (zdV r)) (Yc f) from ?_) .n)))))) (by subst v0;simp only[fe,U5];first|done|rfl) (by subst v0;simp only[];first|done|rfl)<;>subst v0<;>(first|assumption|rfl|exact GY hf|exact s8 hf|exact y4 hq hl|decide|(simp;done))
 ·let v0:aT:=(WD (ao fs) es A)
  refine Na (Oc (h':=v0) (d:=SW (MN ML (x.most-f))) UR [.b true,.row (Vz x),.ov 24 (SW f)] (by kernel_rfl) (.c (show(!Zd (2=0))=true from rfl) (.c U5 (.c (show(!Zd (2=0))=true from rfl) (.c hx (.c (show(!Zd (2=0))=true from rfl) (.c (show UU (MN ML (Nz r 2)) (MO (ao fs))=true from ?_) (.c (show @Eq (oN) (aN MJ v0 3 (zdV r)) (Yc f) from ?_) .n)))))))) (by subst v0;simp only[fe,U5];first|done|rfl) (by subst v0;simp only[];first|done|rfl)<;>subst v0<;>(first|assumption|rfl|exact GY hf|exact s8 hf|exact y4 hq hl|decide|(simp;done))
theorem end_a{A:bv}{r:Int}(hx:ax (ML.wrap (Nz r 2)) (WE es) x.row 3):(Ev MJ U2 105 (XX r) (fwH es A fs) (SW (qj r x)) (fwH es A fs)):=by
 cases U5:Qw r 2==0
 ·exact Na (Oc (h':=(WD (ao fs) es A)) (d:=SW x.U3) UR [.b false,.row (Vz x)] (by kernel_rfl) (.c (show(!Zd (2=0))=true from rfl) (.c U5 (.c (show(!Zd (2=0))=true from rfl) (.c hx .n))))) (by simp only[qj,U5];first|done|rfl) (by simp only[];first|done|rfl)
 ·exact Na (Oc (h':=(WD (ao fs) es A)) (d:=SW x.to) UR [.b true,.row (Vz x)] (by kernel_rfl) (.c (show(!Zd (2=0))=true from rfl) (.c U5 (.c (show(!Zd (2=0))=true from rfl) (.c hx .n))))) (by simp only[qj,U5];first|done|rfl) (by simp only[];first|done|rfl)
def gZ(r by':Int):Int:=match Qw r 2==1 with
 | true=>ML.wrap (0-by')
 | false=>by'
abbrev W3(a:bV)(b:bY):aT:=[.T7 (ao a) 0 1,.U7,.var b]
abbrev zd6(a:bV)(b c e:Int):bV:=OZ a (MU (MN ML (Nz b 2))) (MN ML (c+gZ b e))
theorem push_a{A:bv}{r d:Int}(hq:ML.wrap (Nz r 2)=(q:Int))(hf:fs[MU (ML.wrap (Nz r 2))]? = some f)(hl:q<fs.length)(hl2:MU (ML.wrap (Nz r 2))<fs.length):(Ev MJ U2 109 [.ref (.ptr 2 0),SW r,SW d] (fwH es A fs) (.UI []) (fwH es A (fs.set (MU (ML.wrap (Nz r 2))) (ML.wrap (f+gZ r d))))):=by
 cases U5:Qw r 2==1
 ·let v0:=OZ fs (MU (MN ML (Nz r 2))) (MN ML (f+gZ r d))
  let v1:bY:=[ab (MK Uu.row es),.ref (.T7 0 0),ab A]
  refine Na (Oc (h':=[.T7 (ao v0) 0 1,.U7,.var v1]) (d:=NG []) UR [.b false,.ov 18 (SW f),.oh 10021 D.any (fwH es A v0)] (by kernel_rfl) (.c (show(!Zd (2=0))=true from rfl) (.c U5 (.c (show(!Zd (2=0))=true from rfl) (.c (show UU (MN ML (Nz r 2)) (MO (ao fs))=true from ?_) (.c (show @Eq (oN) (aN MJ [.T7 (ao fs) 0 1,.U7,.var v1] 3 (.ref (.vp 0 0 (MU (MN ML (Nz r 2))) 0))) (some (SW f)) from ?_) (.c (show UU (MN ML (Nz r 2)) (MO (ao fs))=true from ?_) (.c (show @Eq (Option (aT)) (aX MJ [.T7 (ao fs) 0 1,.U7,.var v1] 3 (.ref (.vp 0 0 (MU (MN ML (Nz r 2))) 0)) (SW (MN ML (f+d)))) (some [.T7 (ao v0) 0 1,.U7,.var v1]) from ?_) .n)))))))) (by subst v0 v1;first|rfl|simp only[gZ,U5]) (by subst v0 v1;first|rfl|simp only[gZ,U5])<;>subst v0 v1<;>(first|assumption|rfl|exact GY hf|exact s8 hf|exact y4 hq hl|exact nr hl2|decide|(simp;done)|(simp only[gZ,U5];exact nr hl2))
 ·let v0:=OZ fs (MU (MN ML (Nz r 2))) (MN ML (f+gZ r d))
  let v1:bY:=[ab (MK Uu.row es),.ref (.T7 0 0),ab A]
  refine Na (Oc (h':=[.T7 (ao v0) 0 1,.U7,.var v1]) (d:=NG []) UR [.b true,.ov 18 (SW f),.oh 10021 D.any (fwH es A v0)] (by kernel_rfl) (.c (show(!Zd (2=0))=true from rfl) (.c U5 (.c (show(!Zd (2=0))=true from rfl) (.c (show UU (MN ML (Nz r 2)) (MO (ao fs))=true from ?_) (.c (show @Eq (oN) (aN MJ [.T7 (ao fs) 0 1,.U7,.var v1] 3 (.ref (.vp 0 0 (MU (MN ML (Nz r 2))) 0))) (some (SW f)) from ?_) (.c (show UU (MN ML (Nz r 2)) (MO (ao fs))=true from ?_) (.c (show @Eq (Option (aT)) (aX MJ [.T7 (ao fs) 0 1,.U7,.var v1] 3 (.ref (.vp 0 0 (MU (MN ML (Nz r 2))) 0)) (SW (MN ML (f+MN ML (0-d))))) (some [.T7 (ao v0) 0 1,.U7,.var v1]) from ?_) .n)))))))) (by subst v0 v1;first|rfl|simp only[gZ,U5]) (by subst v0 v1;first|rfl|simp only[gZ,U5])<;>subst v0 v1<;>(first|assumption|rfl|exact GY hf|exact s8 hf|exact y4 hq hl|exact nr hl2|decide|(simp;done)|(simp only[gZ,U5];exact nr hl2))
def GZ(n:Int):Int:=(Nj.wrap
     (Nj.wrap
       (Nj.wrap (Qa 1 (2 ^ min (MU 32) 64)*n.fdiv (2 ^ min (MU 32) 64)) +
        (Nj.wrap
           (Nj.wrap
             (Qa 1 (2 ^ min (MU 32) 64) *
              Nj.wrap ↑(Ng 64 n &&& Ng 64 4294967295).toNat) +
            (Nj.wrap
               (Nj.wrap ↑(Ng 64 1 &&& Ng 64 4294967295).toNat *
                Nj.wrap ↑(Ng 64 n &&& Ng 64 4294967295).toNat)).fdiv
             (2 ^ min (MU 32) 64))).fdiv
         (2 ^ min (MU 32) 64)) +
      (Nj.wrap
         (Nj.wrap
           ↑(Ng 64
               (Nj.wrap
                (Nj.wrap
                  (Qa 1 (2 ^ min (MU 32) 64) *
                   Nj.wrap ↑(Ng 64 n &&& Ng 64 4294967295).toNat) +
                 (Nj.wrap
                    (Nj.wrap ↑(Ng 64 1 &&& Ng 64 4294967295).toNat *
                     Nj.wrap
                      ↑(Ng 64 n &&& Ng 64 4294967295).toNat)).fdiv
                  (2 ^ min (MU 32) 64))) &&&
              Ng 64 4294967295).toNat +
          Nj.wrap
           (Nj.wrap ↑(Ng 64 1 &&& Ng 64 4294967295).toNat *
            n.fdiv (2 ^ min (MU 32) 64)))).fdiv
       (2 ^ min (MU 32) 64)))
theorem LF:∀n:Nat,n<4097->GZ (n:Int)=0:=by
 have h:(List.range 4097).all (λn=>GZ (n:Int)==0)=true:=by kernel_rfl
 intro n hn
 simpa using Ni.1 h n (by simpa using hn)
abbrev XO(a:Int):Int:=(MN Nj (MN Nj (Qa 1 (2 ^ min (MU 32) 64)*MN Nj (↑(OD (Ng 64 a &&& Ng 64 4294967295)):Int))+Qa (MN Nj (MN Nj (↑(OD (Ng 64 1 &&& Ng 64 4294967295)):Int)*MN Nj (↑(OD (Ng 64 a &&& Ng 64 4294967295)):Int))) (2 ^ min (MU 32) 64)))
theorem LG{n:Int}(h0:GZ n=0)(h1:Nj.wrap (1*n)=n)(h:aT):(Ev MJ U2 218 [u64 1,u64 n] h (.UI [u64 0,u64 n]) h):=by
 exact zD (NG [u64 (MN Nj (MN Nj (MN Nj (Qa 1 (2 ^ min (MU 32) 64)*Qa n (2 ^ min (MU 32) 64))+Qa (XO n) (2 ^ min (MU 32) 64))+Qa (MN Nj (MN Nj (↑(OD (Ng 64 (XO n) &&& Ng 64 4294967295)):Int)+MN Nj (MN Nj (↑(OD (Ng 64 1 &&& Ng 64 4294967295)):Int)*Qa n (2 ^ min (MU 32) 64)))) (2 ^ min (MU 32) 64))),u64 (MN Nj (1*n))]) [] (.c (show Zd (0<=32)=true from rfl) (.c (show Zd (0<=32)=true from rfl) (.c (show Zd (0<=32)=true from rfl) (.c (show Zd (0<=32)=true from rfl) (.c (show Zd (0<=32)=true from rfl) .n))))) h (by(unfold GZ at h0;rw[h0,h1]))
abbrev zbv(a:Nat):D:=(.UI [u64 0,u64 (a:Int)])
theorem mul_ev(_:n<4097)(hm:∀h,Ev MJ U2 218 [u64 1,u64 (n:Int)] h (zbv n) h)(h:aT):(Ev MJ U2 192 [u64 1,u64 (n:Int)] h (zbv n) h):=by
 exact z0 [.b false,.val (NG [u64 0,u64 (↑n:Int)])] (.er false (.c (@hm ([])) .n)) h
abbrev Χ(n m:Nat):List (bY):=ao (MS m (-1)++MS (n-m) 0)
theorem pG(h:m<=n):(Χ n m).length=n:=by
 unfold Χ
 rw[dv]
 simp
 omega
abbrev Yb(a:List (bY)):aT:=[.T7 [[SW (-1)]] 0 1,.T7 a 0 1]
abbrev rpH(n m:Nat):aT:=(Yb (Χ n m))
abbrev zem:Nat×D:=(7,.ref (.T7 1 0))
abbrev rpS(n m:Nat):AS:=(zb6 48 [zem,(8,SW (m:Int))] (rpH n m))
abbrev zba(a:Nat):Ref:=(.vs 1 0 0 a none)
theorem hs2x{L:Nat}{p q:Prop}{_:Decidable p}{_:Decidable q}(h0:0<m)(h1:m<L):some (nD 0 (m:Int) L&&true&&(true||b)&&true,if (0:Int)=0/\(m:Int)=(L:Int)/\p then Qe (.T7 1 0) else if (m:Int)=0/\¬((m:Int)=(L:Int)/\q) then cH (bI (m:Int) none) [] else .ref (.vs 1 0 (MU 0) ((m:Int).toNat-MU 0) (jM none 0 (m:Int) none)))=some (true,Qe (zba m)):=by
 have e1:¬((m:Int)=(L:Int)):=by omega
 have e2:¬((m:Int)=0):=by omega
 have e3:nD 0 (m:Int) L=true:=by simp[nD];omega
 simp only[e1,e2,e3,false_and,and_false,if_false,Bool.true_or,Bool.and_true,N4,Int.toNat_zero,Nat.sub_zero]
 rfl
abbrev ZG(a:Int)(b c d:Nat)(e:Int):D:=if (a:Int)=0/\(↑b:Int)=(↑(MO (Χ c d)):Int)/\(none:If)=none then .ref (.T7 1 0) else if (↑b:Int)=e/\¬((↑b:Int)=(↑(MO (Χ c d)):Int)/\(none:If)=none) then cH (bI (↑b:Int) none) [] else .ref (.vs 1 0 (MU e) (MU (↑b:Int)-MU e) (jM none e (↑b:Int) none))
abbrev YW:D:=(.ref (.T7 1 0))
abbrev V8(a b:Nat):Ref:=(.vs 1 0 a (b-a) none)
theorem LH(hmk:m+k<=n)(U8:Zd ((m:Int)<((Χ n m).length:Int))=true)(hw:ML.wrap ((m:Int)+(k:Int))=((m+k:Nat):Int))
  (hs1:∀g V,g[1]? = some (.T7 V 0 1)->V.length=n->dT MJ g 55 (.ref (.T7 1 0)) (some (SW (m:Int))) none none=some (true,Qe (.vs 1 0 m (n-m) none)))
  (hm0:0<m) (hmL:m<(Χ n m).length) (_:m<(Χ n (m+k)).length)
  (hcp:UH MJ (rpH n m) .copy [55,55] [.ref (.vs 1 0 m (n-m) none),.ref (.vs 1 0 0 m none)]=some (true,SW (k:Int),rpH n (m+k))):(CW MJ U2 H false (sub SY 0) (rpS n m) .normal (rpS n (m+k))):=by
 let v0:=Po m (Oz 0 (Χ n m))
 refine zX {t:=Ue 48 0 [(7,.ref (.T7 1 0)),(8,SW (MN ML ((↑m:Int)+(↑k:Int))))],h:=[.T7 [[SW (-1)]] 0 1,.T7 (Χ n (m+k)) 0 1],m:=[]} M6 [.st (.mask [7,8])] [.b true,.ov 41 (.ref (.vs 1 0 m (n-m) none)),.ov 44 (.ref (.vs 1 0 0 m none)),.oh 45 (SW (↑k:Int)) (rpH n (m+k))] (.c U8 (.c (show @Eq (Option (Bool×D)) (some (nD (↑m:Int) (↑(MO (Χ n m)):Int) (MO (Χ n m))&&true&&(true||false)&&true,if (↑m:Int)=0/\(↑(MO (Χ n m)):Int)=(↑(MO (Χ n m)):Int)/\(none:If)=none then .ref (.T7 1 0) else if (↑(MO (Χ n m)):Int)=(↑m:Int)/\¬((↑(MO (Χ n m)):Int)=(↑(MO (Χ n m)):Int)/\(none:If)=none) then cH (bI (↑(MO (Χ n m)):Int) none) [] else .ref (.vs 1 0 (MU (↑m:Int)) (MU (↑(MO (Χ n m)):Int)-MU (↑m:Int)) (jM none (↑m:Int) (↑(MO (Χ n m)):Int) none)))) (some (true,Qe (.vs 1 0 m (n-m) none))) from ?_) (.c (show @Eq (Option (Bool×D)) (some (nD 0 (↑m:Int) (MO (Χ n m))&&true&&(true||true)&&true,if (0:Int)=0/\(↑m:Int)=(↑(MO (Χ n m)):Int)/\(none:If)=none then .ref (.T7 1 0) else if (↑m:Int)=0/\¬((↑m:Int)=(↑(MO (Χ n m)):Int)/\(none:If)=none) then cH (bI (↑m:Int) none) [] else .ref (.vs 1 0 (MU 0) (MU (↑m:Int)-MU 0) (jM none 0 (↑m:Int) none)))) (some (true,Qe (.vs 1 0 0 m none))) from ?_) (.c (show @Eq (Option (Bool×D×aT)) (some (N2 v0 (aR 1),SW (↑(min (MO v0) (n-m)):Int),if min (MO v0) (n-m)=0 then [.T7 [[SW (-1)]] 0 1,.T7 (Χ n m) 0 1] else OZ [.T7 [[SW (-1)]] 0 1,.T7 (Χ n m) 0 1] 1 (.T7 (Po m (Χ n m)++(Po (min (MO v0) (n-m)) v0++Oz (m+min (MO v0) (n-m)) (Χ n m))) 0 1))) (some (true,SW (↑k:Int),[.T7 [[SW (-1)]] 0 1,.T7 (Χ n (m+k)) 0 1])) from ?_) (.c (show @Eq (Option (Bool×D)) (some (nD (↑m:Int) (↑(MO (Χ n m)):Int) (MO (Χ n m))&&true&&(true||false)&&true,if (↑m:Int)=0/\(↑(MO (Χ n m)):Int)=(↑(MO (Χ n m)):Int)/\(none:If)=none then .ref (.T7 1 0) else if (↑(MO (Χ n m)):Int)=(↑m:Int)/\¬((↑(MO (Χ n m)):Int)=(↑(MO (Χ n m)):Int)/\(none:If)=none) then cH (bI (↑(MO (Χ n m)):Int) none) [] else .ref (.vs 1 0 (MU (↑m:Int)) (MU (↑(MO (Χ n m)):Int)-MU (↑m:Int)) (jM none (↑m:Int) (↑(MO (Χ n m)):Int) none)))) (some (true,Qe (.vs 1 0 m (n-m) none))) from ?_) (.c (show @Eq (Option (Bool×D)) (some (nD 0 (↑m:Int) (MO (Χ n m))&&true&&(true||true)&&true,if (0:Int)=0/\(↑m:Int)=(↑(MO (Χ n m)):Int)/\(none:If)=none then .ref (.T7 1 0) else if (↑m:Int)=0/\¬((↑m:Int)=(↑(MO (Χ n m)):Int)/\(none:If)=none) then cH (bI (↑m:Int) none) [] else .ref (.vs 1 0 (MU 0) (MU (↑m:Int)-MU 0) (jM none 0 (↑m:Int) none)))) (some (true,Qe (.vs 1 0 0 m none))) from ?_) .n)))))) (by subst v0;first|rfl|(simp only[hw]<;>rfl)) (by subst v0;first|rfl|(simp only[hw]<;>rfl))<;>subst v0<;>(first|(simp only[];done)|first|assumption|rfl|exact hs1 (rpH n m) _ rfl (pG (by omega))|exact hs1 (rpH n (m+k)) _ rfl (pG hmk)|exact hs2x hm0 hmL|exact hs2x hm0 hmK)
abbrev VK:bY:=Ue 48 0 [zem]
theorem LI(U8:Zd ((m:Int)<((Χ n m).length:Int))=false):(CW MJ U2 H false (sub SY 0) (rpS n m) (.exit 0) {t:=VK,h:=rpH n m,m:=[]}):=by
 exact zx [.st (.mask [7])] [.b false] (.c U8 .n)
abbrev WL(a b:Nat)(c d:aT)(e:Nat)(f g:List (bY)):aT:=if min a (b)=0 then c else OZ d 1 (.T7 (Po e f++(Po (min a (b)) g++Oz (e+min a (b)) f)) 0 1)
abbrev Ve:aT:=[.T7 [[SW (-1)]] 0 1]
abbrev zbO(a:Nat):D:=(SW (ML.wrap (a:Int)))
theorem rp_a{V0 V1 Vn:List (bY)}(hn:Zd ((n:Int)<0)=false)(hb:(Zd ((0:Int)>0)||Zd ((n:Int)>9223372036854775807))=false)
  (hm:∀h,Ev MJ U2 192 [u64 (Nj.wrap 1),u64 (Nj.wrap (n:Int))] h (zbv n) h)
  (hmk:rK MJ Ve 55 (zbO n) (zbO n)=some (true,Qe (.T7 1 0),(Yb V0)))
  (hcp:UH MJ (Yb V0) .copy [55,55] [.ref (.T7 1 0),.ref (.T7 0 0)]=some (true,SW 1,(Yb V1)))
  (hl:CW MJ U2 Ve false (.loop (sub SY 0)) {t:=Ue 48 0 [zem,(8,SW 1)],h:=(Yb V1),m:=[]} (.exit 0) {t:=VK,h:=(Yb Vn),m:=[]}):(Ev MJ U2 156 [.ref (.T7 0 0),SW (n:Int)] Ve YW (Yb Vn)):=by
 have UE:=(@hl)
 let v0:aT:=(Yb V0)
 let v1:=MO [[SW (-1)]]
 refine Na (Oc (h':=(Yb Vn)) (d:=.ref (.T7 1 0)) UR [.b false,.val (NG [u64 0,u64 (↑n:Int)]),.b false,.oh 30 YW v0,.oh 33 (SW 1) (Yb V1),.sum [7,8] (NR 0) {t:=VK,h:=(Yb Vn),m:=[]}] (by kernel_rfl) (.c hn (.c (@hm (Ve)) (.c hb (.c (show @Eq (Option (Bool×D×aT)) (some ((Yv (MN ML (↑n:Int)) (↑8:Int)),.ref (.T7 1 0),(Yb (MS (MU (MN ML (↑n:Int))) (zc6))))) (some (true,Qe (.T7 1 0),v0)) from ?_) (.c (show @Eq (Option (Bool×D×aT)) (some (N2 [[SW (-1)]] (aR 1),SW (↑(min v1 (MO V0)):Int),(WL v1 (MO V0) v0 v0 0 V0 [[SW (-1)]]))) (some (true,SW 1,(Yb V1))) from ?_) (.c UE .n))))))) (by rfl) (by rfl)<;>subst v0 v1<;>(first|(simp only[hn,hb,cond_true,cond_false];done)|first|assumption|rfl)
theorem tyI:(dz MJ 55,MJ.underlying 55,VB MJ 3,bytesOf MJ 3,dC MJ 3)=(some 3,some (.slice 3),some 1,some 8,some [SW 0]):=by kernel_rfl
theorem rp_sl{g:aT}{V:List (bY)}(hb:g[1]? = some (.T7 V 0 1))(hl:V.length=n)(h0:0<m)(hm:m<n):dT MJ g 55 YW (some (SW (m:Int))) none none=some (true,.ref (V8 m n)):=by
 have h3:=tyI
 simp only[MP] at h3
 have h4:nD (m:Int) n n=true:=by simp[nD];omega
 have h5:¬((m:Int)=0):=by omega
 have h6:¬((n:Int)=(m:Int)):=by omega
 simp only[dT,bZ,AJ,h3.2.1,h3.2.2.1,zdP,hb,hl,if_true,Yx,and_self,Option.map_some,VC,h4,h5,h6,fM,N4,if_false,bI,Bool.and_self,Option.isNone_none,Bool.true_or,and_true,false_and]
 rfl
abbrev zdO(a:Nat):List (bY):=MS a [SW (-1)]
theorem repV(n m:Nat):ao (MS m (-1)++MS (n-m) 0)=(zdO m)++MS (n-m) [SW 0]:=by simp[ao]
theorem rp_cp(h0:0<m)(hm:m<n):UH MJ (rpH n m) .copy [55,55] [.ref (.vs 1 0 m (n-m) none),.ref (.vs 1 0 0 m none)]=some (true,SW ((min m (n-m):Nat):Int),rpH n (m+min m (n-m))):=by
 have e0:UH MJ (rpH n m) .copy [55,55] [.ref (.vs 1 0 m (n-m) none),.ref (.vs 1 0 0 m none)]=some (N2 (Po m (Oz 0 (Χ n m))) (aR 1),SW ((min (MO (Po m (Oz 0 (Χ n m)))) (n-m):Nat):Int),if min (MO (Po m (Oz 0 (Χ n m)))) (n-m)=0 then rpH n m else OZ (rpH n m) 1 (.T7 (Po m (Χ n m)++(Po (min (MO (Po m (Oz 0 (Χ n m)))) (n-m)) (Po m (Oz 0 (Χ n m)))++Oz (m+min (MO (Po m (Oz 0 (Χ n m)))) (n-m)) (Χ n m))) 0 1)):=by kernel_rfl
 rw[e0,Pk]
 have e1:Po m (Χ n m)=MS m [SW (-1)]:=by
  unfold Χ
  rw[repV]
  exact List.take_left' (by simp)
 have e2:min m (n-m)≠0:=by omega
 have e3:Oz (m+min m (n-m)) (Χ n m)=MS (n-(m+min m (n-m))) [SW 0]:=by
  unfold Χ
  rw[repV,<-List.drop_drop,List.drop_left' (by simp),List.drop_replicate]
  congr 1
  omega
 have e4:(MS m [SW (-1)]).all (aR 1)=true:=by
  rw[Ni]
  intro x hx
  rw[List.eq_of_mem_replicate hx]
  rfl
 rw[e1,List.length_replicate,e3,e4,if_neg e2,List.take_replicate]
 have e5:Χ n (m+min m (n-m))=MS m [SW (-1)]++(MS (min (min m (n-m)) m) [SW (-1)]++MS (n-(m+min m (n-m))) [SW 0]):=by
  unfold Χ
  rw[repV,<-List.append_assoc,List.replicate_append_replicate]
  congr 2
  omega
 rw[rpH,rpH,e5]
 rfl
theorem rep_a(h1:2<=n)(hn:n<=4096):Ev MJ U2 156 [.ref (.T7 0 0),SW (n:Int)] [.T7 [[SW (-1)]] 0 1] (.ref (.T7 1 0)) [.T7 [[SW (-1)]] 0 1,.T7 (MS n [SW (-1)]) 0 1]:=by
 have hw:ML.wrap (n:Int)=(n:Int):=wrap_i64 (by omega) (by omega)
 have hw1:Nj.wrap (1:Int)=1:=by decide
 have hw2:Nj.wrap (n:Int)=(n:Int):=by
  have e:Nj.wrap (n:Int)=(n:Int) % 18446744073709551616:=rfl
  rw[e,Int.emod_eq_of_lt (by omega) (by omega)]
 have hm (h:aT):Ev MJ U2 192 [u64 (Nj.wrap 1),u64 (Nj.wrap (n:Int))] h (.UI [u64 0,u64 (n:Int)]) h:=by
  rw[hw1,hw2]
  exact mul_ev (by omega) (λh=>LG (LF n (by omega)) (by rw[Int.one_mul];exact hw2) h) h
 have hmk:rK MJ [.T7 [[SW (-1)]] 0 1] 55 (SW (ML.wrap (n:Int))) (SW (ML.wrap (n:Int)))=some (true,.ref (.T7 1 0),[.T7 [[SW (-1)]] 0 1,.T7 (MS n [SW 0]) 0 1]):=by
  have h3:=tyI
  simp only[MP] at h3
  rw[hw]
  have e:(Zd (0<=(n:Int))&&Zd ((n:Int)<=(n:Int))&&Zd ((n:Int)*((8:Nat):Int)<=281474976710656)&&Zd ((n:Int)<=281474976710656))=true:=by simp;omega
  simp only[rK,VC,h3.1,h3.2.2.1,h3.2.2.2.1,h3.2.2.2.2,Nq,List.length_nil,Nat.zero_add,if_true,e,N4]
  rfl
 have hcp:UH MJ [.T7 [[SW (-1)]] 0 1,.T7 (MS n [SW 0]) 0 1] .copy [55,55] [.ref (.T7 1 0),.ref (.T7 0 0)]=some (true,SW 1,[.T7 [[SW (-1)]] 0 1,.T7 (Χ n 1) 0 1]):=by
  obtain⟨k,rfl⟩:∃k,n=k+1:=⟨n-1,by omega⟩
  have e1:Χ (k+1) 1=[SW (-1)]::MS k [SW 0]:=by unfold Χ;rw[repV,Nat.add_sub_cancel];rfl
  rw[e1]
  first|done|rfl|kernel_rfl
 have hl:CW MJ U2 [.T7 [[SW (-1)]] 0 1] false (.loop (sub SY 0)) (rpS n 1) (.exit 0) {t:=Ue 48 0 [(7,.ref (.T7 1 0))],h:=rpH n n,m:=[]}:=by
  refine CW.loop (ι:={m:Nat // 1<=m/\m<=n}) (λm=>rpS n m.1) (λ_=>(.exit 0,{t:=Ue 48 0 [(7,.ref (.T7 1 0))],h:=rpH n n,m:=[]})) (λm=>n-m.1) ?_ ⟨1,by omega,by omega⟩
  rintro⟨m,g1,g2⟩
  by_cases h:m<n
  ·refine .inl ⟨⟨m+min m (n-m),by omega,by omega⟩,by simp only;omega,rfl,?_⟩
   have hL:(Χ n m).length=n:=pG g2
   have hL2:(Χ n (m+min m (n-m))).length=n:=pG (by omega)
   exact LH (n:=n) (m:=m) (k:=min m (n-m)) (by omega) (by rw[hL];simp;omega) (by rw[wrap_i64 (by omega) (by omega)];omega) (λg V hb hl=>rp_sl hb hl (by omega) h) (by omega) (by omega) (by omega) (rp_cp (by omega) h)
  ·have:m=n:=by omega
   subst this
   refine .inr ⟨by simp,LI ?_⟩
   have hL:(Χ m m).length=m:=pG (Nat.le_refl _)
   rw[hL];simp
 have h0:=rp_a (V0:=MS n [SW 0]) (V1:=Χ n 1) (Vn:=Χ n n) (n:=n) (by simp) (by simp;omega) hm hmk hcp hl
 have e1:Χ n n=MS n [SW (-1)]:=by unfold Χ;rw[repV,Nat.sub_self];simp
 rw[e1] at h0
 exact h0
end Go.Vi
