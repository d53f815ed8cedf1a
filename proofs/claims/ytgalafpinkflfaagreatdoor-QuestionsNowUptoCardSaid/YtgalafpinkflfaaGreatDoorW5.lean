/- A part of the proof; no conditions of its own. -/
import Derived.Test.YtgalafpinkflfaaGreatDoorW4
open Decidable renaming decide -> Zd
open Go.Vi.D renaming U7 -> Nm, UP -> NS, fn -> Ot, Tt -> Nt, ref -> PM
open Go.Vi.tO renaming row -> MQ
open Go.IntKind renaming i64 -> MM, wrap -> MN, u64 -> Nd
open Go.Proofs.Tryz renaming prog -> MK, f112 -> NQ, f198 -> OI, f190 -> Ol, f271 -> Si, f191 -> Ng, f313 -> QQ
open List renaming map -> ML, length -> MO, all -> NH, foldl_cons -> NI, getElem?_eq_some_iff -> MR, foldl -> Nx, length_cons -> N3, set -> Oe, drop -> Od, replicate -> MU, getElem?_set_self -> N9, set_set -> Sn, all_eq_true -> Ns, take -> O0
open Go.Vi.T2 renaming row -> M5
open Go.Exit renaming normal -> M8
open Go.Value renaming oneCell' -> OM, cells -> RS
open Go.Vi.iN renaming UV -> MZ
open Go.Vi.CW renaming each -> OS
open Go.LoopState renaming busy -> Nu, ready -> Np, exhausted -> N2
open Go.Fn renaming func -> Nl
open Go.Vi.Ev renaming WB -> Na
open Int renaming toNat -> MP, toNat_natCast -> Oc, tmod -> P0, tdiv -> Nn, fdiv -> PI
open Go.Vi.NB renaming run -> SP
open BitVec renaming ofInt -> Nf, toNat -> OB
open Prod.mk renaming injEq -> MV
open Go Go.Proofs
namespace Go.Vi
set_option maxRecDepth 100000
set_option maxHeartbeats 4000000
structure By where
 Do:Int
 to:Int
 most:Int
 deriving Inhabited
def By.row(e:By):List Dp:=[vi e.Do,vi e.to,vi e.most]
def dE(l:List By):List (List D):=l.map λe=>[aT e.Do,aT e.to,aT e.most]
theorem dd(l:List By)(a b c:Int):dE l++[[aT a,aT b,aT c]]=dE (l++[⟨a,b,c⟩]):=by simp[dE]
theorem se(l:List By):(dE l).length=l.length:=by simp[dE]
theorem jP(f:Ref->D)(l:List By):(dE l).map (Nm f)=dE l:=by simp[dE,Nm,D.Tz]
theorem mq(n:Nat)(l:List By):(dE l).all (NS n)=true:=by simp[dE,NS,D.UV]
theorem F1(l:List By):dE l=(l.map By.row).map (·.map .p):=by simp[dE,By.row]
abbrev nH(p:oN)(l:List tO)(mid:Int)(es:List By):List iN:=[.var p.l,.var [ab (l.map MQ)],.var [.ref (.bY 4 0)],.var [aT mid],.bY (dE es) 0 3]
abbrev n1S(p:oN)(l:List tO)(mid sink:Int)(es:List By)(i:Int):AS:={t:=DO 97 0 [(2,.ref (.ptr 0 0)),(3,.ref (.ptr 1 0)),(5,.ref (.ptr 2 0)),(7,.ref (.ptr 3 0)),(8,aT sink),(37,ab (l.map MQ)),(38,aT ((l.map MQ).length:Int)),(39,aT i)],h:=nH p l mid es,m:=[]}
abbrev n1E(p:oN)(l:List tO)(mid sink:Int)(es:List By):AS:={t:=DO 97 0 [(2,.ref (.ptr 0 0)),(3,.ref (.ptr 1 0)),(5,.ref (.ptr 2 0)),(7,.ref (.ptr 3 0)),(8,aT sink)],h:=nH p l mid es,m:=[]}
def ZO(p:oN)(s:List By×Int)(a:tO):List By×Int:=(s.1++[⟨0,MM.wrap (1+s.2),MM.wrap (a.oF*p.T3)⟩],s.2+1)
theorem KQ{p:oN}{l:List tO}{a:tO}{mid sink:Int}{es:List By}{i:Nat}(hr:ap (i:Int) (l.map MQ) a.row 5)(IN:Zd ((i:Int)<((l.map MQ).length:Int))=true)(hw:MM.wrap ((i:Int)+1)=((i+1:Nat):Int))(hl:es.length<=100000000):(CW MK At [] false (sub NQ 0) (n1S p l mid sink es i) .normal (n1S p l mid sink (ZO p (es,(i:Int)) a).1 ((i+1:Nat):Int))):=by
 refine yX {t:=DO 97 0 [(2,.ref (.ptr 0 0)),(3,.ref (.ptr 1 0)),(5,.ref (.ptr 2 0)),(7,.ref (.ptr 3 0)),(8,aT sink),(37,ab (ML MQ l)),(38,aT (↑(MO (ML MQ l)):Int)),(39,aT (MN MM ((↑i:Int)+1)))],h:=[.var [aq p.nm,aT p.number,aT p.T3,aT p.ON,aT p.num,aT p.den,ab (ML M5 p.reqs)],.var [ab (ML MQ l)],.var [.ref (.bY 4 0)],.var [aT mid],.bY (dE es++[[aT 0,aT (MN MM (1+(↑i:Int))),aT (MN MM (a.oF*p.T3))]]) 0 3],m:=[]} M8 [.st (.mask [2,3,5,7,8,37,38,39]),.st (.Vz 4 0),.st (.TD 5)] [.b IN,.r hr,((by grind [dd,bf,D.one,OM,Tw,se]):(NH [[aT 0,aT (MN MM (1+(↑i:Int))),aT (MN MM (a.oF*p.T3))]] (bf 3)&&Tw (MO (dE es)+MO [[aT 0,aT (MN MM (1+(↑i:Int))),aT (MN MM (a.oF*p.T3))]]) 24)=true),(?_:ML (Nm (ax 4 1 0)) (dE es++[[aT 0,aT (MN MM (1+(↑i:Int))),aT (MN MM (a.oF*p.T3))]])=dE es++[[aT 0,aT (MN MM (1+(↑i:Int))),aT (MN MM (a.oF*p.T3))]]),pr [[aT 0,aT (MN MM (1+(↑i:Int))),aT (MN MM (a.oF*p.T3))]],(rfl:MZ 5 (match 0==4 with|true=>.bY (dE es++[[aT 0,aT (MN MM (1+(↑i:Int))),aT (MN MM (a.oF*p.T3))]]) 0 3|false=>ST (ax 4 1 0) (.var [aq p.nm,aT p.number,aT p.T3,aT p.ON,aT p.num,aT p.den,ab (ML M5 p.reqs)]))=true),(rfl:MZ 5 (match 0+1==4 with|true=>.bY (dE es++[[aT 0,aT (MN MM (1+(↑i:Int))),aT (MN MM (a.oF*p.T3))]]) 0 3|false=>ST (ax 4 1 0) (.var [ab (ML MQ l)]))=true),(rfl:MZ 5 (match 0+1+1==4 with|true=>.bY (dE es++[[aT 0,aT (MN MM (1+(↑i:Int))),aT (MN MM (a.oF*p.T3))]]) 0 3|false=>ST (ax 4 1 0) (.var [.ref (.bY 4 1)]))=true),(rfl:MZ 5 (match 0+1+1+1==4 with|true=>.bY (dE es++[[aT 0,aT (MN MM (1+(↑i:Int))),aT (MN MM (a.oF*p.T3))]]) 0 3|false=>ST (ax 4 1 0) (.var [aT mid]))=true),(?_:MZ 5 (match 0+1+1+1+1==4 with|true=>.bY (dE es++[[aT 0,aT (MN MM (1+(↑i:Int))),aT (MN MM (a.oF*p.T3))]]) 0 3|false=>ST (ax 4 1 0) (.bY (dE es++[[aT 0,aT (MN MM (1+(↑i:Int))),aT (MN MM (a.oF*p.T3))]]) 1 3))=true)] (by grind) (by simp only[ZO,hw,dd];rfl)<;>(first|(rw[dd];exact jP _ _)|(rw[dd];exact mq _ _))
theorem KR{p:oN}{l:List tO}{mid sink:Int}{es:List By}{i:Nat}(IN:Zd ((i:Int)<((l.map MQ).length:Int))=false):(CW MK At [] false (sub NQ 0) (n1S p l mid sink es i) (.exit 0) (n1E p l mid sink es)):=by
 exact yx [.st (.mask [2,3,5,7,8])] [.b IN]
theorem HG{p:oN}:∀(l:List tO) (s:List By×Int),(l.foldl (ZO p) s).1.length=s.1.length+l.length
 | [],s=>rfl
 | a::l,s=>by rw[NI,HG l];simp[ZO];omega
theorem n1_cw{p:oN}{l:List tO}{mid sink:Int}(hl:l.length<=50000):CW MK At [] false (.loop (sub NQ 0)) (n1S p l mid sink [] 0) (.exit 0) (n1E p l mid sink (l.foldl (ZO p) ([],0)).1):=by
 have:=OS (P:=MK) (Γ:=At) (h0:=[]) (rd:=false) (c:=sub NQ 0) (σ:=List By×Int) (ρ:=Empty) l (λa s=>.inl (ZO p s a))
  (λi s=>n1S p l mid sink s.1 (i:Int)) (.exit 0) (λs=>n1E p l mid sink s.1) (λr=>r.elim) (λi s=>s.2=i/\s.1.length<=i) (by simp) (λr=>r.elim) ?_ ?_ ([],0) (by simp)
 ·rw[aP] at this
  exact this
 ·rintro i a ⟨es,k⟩ hc ⟨hk,he⟩
  simp only at hk he
  subst hk
  have hi:=(MR.1 hc).1
  refine⟨λs' h=>?_,KQ (rowAt hc rfl) (TG MQ hi) (T4 hi (by omega)) (show es.length<=100000000 by omega)⟩
  grind [ZO]
 ·intro s _
  exact KR (be MQ l)
abbrev npT(sink:Int):List D:=DO 97 0 [(2,.ref (.ptr 0 0)),(3,.ref (.ptr 1 0)),(5,.ref (.ptr 2 0)),(7,.ref (.ptr 3 0)),(8,aT sink),(58,.fn (.func 198) [] [.ref (.ptr 6 0),.ref (.ptr 5 0)])]
noncomputable abbrev npL(sink:Int)(st:LoopState):iN:=.loop st none 0 (npT sink) #[59,60] (au (sub NQ 1)) (ai (sub NQ 1))
noncomputable abbrev Xf(p:oN)(l:List tO)(mid sink:Int)(es:List By)(e:Nat)(st:LoopState)(more:List iN):List iN:=[.var p.l,.var [ab (l.map MQ)],.var [.ref (.bY 4 e)],.var [aT mid],.bY (dE es) e 3,.var p.l,.var [ab (l.map MQ)],.Ts,npL sink st]++more
abbrev npU(sink i k:Int):List D:=DO 97 0 [(2,.ref (.ptr 0 0)),(3,.ref (.ptr 1 0)),(5,.ref (.ptr 2 0)),(7,.ref (.ptr 3 0)),(8,aT sink),(11,aT i),(12,aT k)]
theorem np_asg{p:oN}{l:List tO}{mid sink:Int}{es:List By}{i k:Int}{a:tO}:(CW MK At (Xf p l mid sink es 1 .ready [.var (a.row.map .p)]) true (au (sub NQ 1)) {t:=dL (npT sink) [(59,aT i),(60,aT k)],h:=Xf p l mid sink es 1 .ready [.var (a.row.map .p)],m:=[]} .normal {t:=npU sink i k,h:=Xf p l mid sink es 1 .ready [.var (a.row.map .p)],m:=[]}):=by
 exact yx [.st (.mask [2,3,5,7,8,11,12])] []
def Z7(mid i cr:Int)(es:List By)(k:Int):List By:=es++[⟨MM.wrap (1+i),MM.wrap (mid+k),cr⟩]
theorem KS{p:oN}{l:List tO}{a:tO}{mid sink:Int}{es:List By}{i k:Int}(hr:ap i (l.map MQ) a.row 5)(hl:es.length<=100000000):(CW MK At (Xf p l mid sink es 1 .ready [.var (a.row.map .p)]) true (ai (sub NQ 1)) {t:=npU sink i k,h:=Xf p l mid sink es 1 .busy [.var (a.row.map .p)],m:=[]} .normal {t:=DO 97 0 [],h:=Xf p l mid sink (Z7 mid i a.oF es k) 2 .busy [.var (a.row.map .p)],m:=[]}):=by
 let v0:List D:=[aT (MN MM (1+i)),aT (MN MM (mid+k)),aT a.oF]
 let v1:List D:=[ab (ML MQ l)]
 let v2:=ML M5 p.reqs
 let v3:List D:=[aT a.dO,aT a.bV,aT a.IF,aT a.SW,aT a.oF]
 exact yX {t:=DO 97 0 [],h:=[.var [aq p.nm,aT p.number,aT p.T3,aT p.ON,aT p.num,aT p.den,ab v2],.var v1,.var [.ref (.bY 4 2)],.var [aT mid],.bY (dE es++[v0]) 2 3,.var [aq p.nm,aT p.number,aT p.T3,aT p.ON,aT p.num,aT p.den,ab v2],.var v1,.Ts,.loop Nu none 0 (DO 97 0 [(2,.ref (.ptr 0 0)),(3,.ref (.ptr 1 0)),(5,.ref (.ptr 2 0)),(7,.ref (.ptr 3 0)),(8,aT sink),(58,Ot (Nl 198) [] [.ref (.ptr 6 0),.ref (.ptr 5 0)])]) {toList:=[59,60]} (au (sub NQ 1)) (ai (sub NQ 1)),.var v3],m:=[]} M8 [.st (.mask []),.st (.TD 10)] [.r hr,((by subst v0 v1 v2 v3;grind [dd,bf,D.one,OM,Tw,se]):(NH [v0] (bf 3)&&Tw (MO (dE es)+MO [v0]) 24)=true),po (some (.ref (.bY 4 1))),po (some (.ref (.bY 4 1))),po (some (aT mid)),po (some (ab (ML MQ l))),bi 10 (.var [aq p.nm,aT p.number,aT p.T3,aT p.ON,aT p.num,aT p.den,ab v2]),bi 10 (.var v1),bi 10 (.var [.ref (.bY 4 2)]),bi 10 (.var [aT mid]),((by subst v0 v1 v2 v3;(rw[dd];exact mq _ _)):MZ 10 (.bY (dE es++[v0]) 2 3)=true),bi 10 (.var [aq p.nm,aT p.number,aT p.T3,aT p.ON,aT p.num,aT p.den,ab v2]),bi 10 (.var v1),bi 10 .Ts,bi 10 (.loop Nu none 0 (DO 97 0 [(2,.ref (.ptr 0 0)),(3,.ref (.ptr 1 0)),(5,.ref (.ptr 2 0)),(7,.ref (.ptr 3 0)),(8,aT sink),(58,Ot (Nl 198) [] [.ref (.ptr 6 0),.ref (.ptr 5 0)])]) {toList:=[59,60]} (au (sub NQ 1)) (ai (sub NQ 1))),bi 10 (.var v3)] (by subst v0 v1 v2 v3;grind) (by subst v0 v1 v2 v3;simp only[Z7,dd];rfl)
theorem KT{p:oN}{l:List tO}{a:tO}{mid sink:Int}{es:List By}{i k:Int}(hr:ap i (l.map MQ) a.row 5)(hl:es.length<=100000000):Iv MK At (.ref (.yl 8)) [aT i,aT k] (Xf p l mid sink es 1 .ready [.var (a.row.map .p)]) (iF true) (Xf p l mid sink (Z7 mid i a.oF es k) 2 .ready [.var (a.row.map .p)]) :=
 Iv.round (h1:=Xf p l mid sink es 1 .ready [.var (a.row.map .p)]) rfl rfl np_asg rfl (KS hr hl) rfl
noncomputable abbrev n2S(p:oN)(l:List tO)(a:tO)(mid sink:Int)(ks:List Int)(i:Int)(es:List By)(j:Int):AS:={t:=DO 30 0 [(0,.ref (.yl 8)),(1,.ref (.ptr 6 0)),(2,.ref (.ptr 5 0)),(4,aT i),(8,ab (l.map MQ)),(9,aT ((l.map MQ).length:Int)),(10,aT i),(17,ab (ay ks)),(18,aT ((ay ks).length:Int)),(19,aT j)],h:=Xf p l mid sink es 1 .ready [.var (a.row.map .p)],m:=[]}
noncomputable abbrev n2E(p:oN)(l:List tO)(a:tO)(mid sink:Int)(i:Int)(es:List By):AS:={t:=DO 30 0 [(0,.ref (.yl 8)),(1,.ref (.ptr 6 0)),(2,.ref (.ptr 5 0)),(8,ab (l.map MQ)),(9,aT ((l.map MQ).length:Int)),(10,aT i)],h:=Xf p l mid sink es 1 .ready [.var (a.row.map .p)],m:=[]}
theorem KU{p:oN}{l:List tO}{a:tO}{mid sink:Int}{ks:List Int}{e0 es:List By}{i k:Int}{j:Nat}(hr:ap i (l.map MQ) a.row 5)(hk:ap (j:Int) (ay ks) [vi k] 1)(IN:Zd ((j:Int)<((ay ks).length:Int))=true)(hw:MM.wrap ((j:Int)+1)=((j+1:Nat):Int))(hl:es.length<=100000000):(CW MK At (Xf p l mid sink e0 0 .ready []) false (sub OI 1) (n2S p l a mid sink ks i es j) .normal (n2S p l a mid sink ks i (Z7 mid i a.oF es k) ((j+1:Nat):Int))):=by
 exact yX {t:=DO 30 0 [(0,.ref (.yl 8)),(1,.ref (.ptr 6 0)),(2,.ref (.ptr 5 0)),(4,aT i),(8,ab (ML MQ l)),(9,aT (↑(MO (ML MQ l)):Int)),(10,aT i),(17,ab (ay ks)),(18,aT (↑(MO (ay ks)):Int)),(19,aT (MN MM ((↑j:Int)+1)))],h:=[.var [aq p.nm,aT p.number,aT p.T3,aT p.ON,aT p.num,aT p.den,ab (ML M5 p.reqs)],.var [ab (ML MQ l)],.var [.ref (.bY 4 1)],.var [aT mid],.bY (dE (Z7 mid i a.oF es k)) 1 3,.var [aq p.nm,aT p.number,aT p.T3,aT p.ON,aT p.num,aT p.den,ab (ML M5 p.reqs)],.var [ab (ML MQ l)],.Ts,.loop Np none 0 (DO 97 0 [(2,.ref (.ptr 0 0)),(3,.ref (.ptr 1 0)),(5,.ref (.ptr 2 0)),(7,.ref (.ptr 3 0)),(8,aT sink),(58,Ot (Nl 198) [] [.ref (.ptr 6 0),.ref (.ptr 5 0)])]) {toList:=[59,60]} (au (sub NQ 1)) (ai (sub NQ 1)),.var [aT a.dO,aT a.bV,aT a.IF,aT a.SW,aT a.oF]],m:=[]} M8 [.st (.mask [0,1,2,4,8,9,10,17,18,19]),.st (.Vz 4 1)] [.b IN,.r hk,.j (@KT p l a mid sink es i k hr hl),((by exact jP _ _):ML (Nm (ax 4 2 1)) (dE (Z7 mid i a.oF es k))=dE (Z7 mid i a.oF es k)),.e] (by grind) (by(rw[hw];rfl))
theorem KV{p:oN}{l:List tO}{a:tO}{mid sink:Int}{ks:List Int}{e0 es:List By}{i:Int}{j:Nat}(IN:Zd ((j:Int)<((ay ks).length:Int))=false):(CW MK At (Xf p l mid sink e0 0 .ready []) false (sub OI 1) (n2S p l a mid sink ks i es j) (.exit 2) (n2E p l a mid sink i es)):=by
 exact yx [.st (.mask [0,1,2,8,9,10])] [.b IN]
theorem yh{mid i cr:Int}:∀(ks:List Int) (es:List By),(ks.foldl (Z7 mid i cr) es).length=es.length+ks.length
 | [],es=>rfl
 | k::ks,es=>by rw[NI,yh ks];simp[Z7];omega
theorem n2_cw{p:oN}{l:List tO}{a:tO}{mid sink:Int}{ks:List Int}{e0 es:List By}{i:Int}(hr:ap i (l.map MQ) a.row 5)(hks:ks.length<=1000)(hes:es.length<=90000000):CW MK At (Xf p l mid sink e0 0 .ready []) false (.loop (sub OI 1)) (n2S p l a mid sink ks i es 0) (.exit 2) (n2E p l a mid sink i (ks.foldl (Z7 mid i a.oF) es)):=by
 have:=OS (P:=MK) (Γ:=At) (h0:=Xf p l mid sink e0 0 .ready []) (rd:=false) (c:=sub OI 1) (σ:=List By) (ρ:=Empty) ks (λk s=>.inl (Z7 mid i a.oF s k))
  (λj s=>n2S p l a mid sink ks i s (j:Int)) (.exit 2) (λs=>n2E p l a mid sink i s) (λr=>r.elim) (λj s=>s.length<=es.length+j) (by simp) (λr=>r.elim) ?_ ?_ es (by simp)
 ·rw[aP] at this
  exact this
 ·intro j k s hc he
  have hi:=(MR.1 hc).1
  refine⟨λs' h=>?_,KU hr (rowAt (row:=λn:Int=>[vi n]) hc rfl) (TG (λn:Int=>[vi n]) hi) (T4 hi (by omega)) (by omega)⟩
  grind [Z7]
 ·intro s _
  exact KV (be (λn:Int=>[vi n]) ks)
noncomputable abbrev n3S(p:oN)(l:List tO)(mid sink:Int)(es:List By)(i:Int):AS:={t:=DO 30 0 [(0,.ref (.yl 8)),(1,.ref (.ptr 6 0)),(2,.ref (.ptr 5 0)),(8,ab (l.map MQ)),(9,aT ((l.map MQ).length:Int)),(10,aT i)],h:=Xf p l mid sink es 1 .ready [],m:=[]}
noncomputable abbrev n3E(p:oN)(l:List tO)(mid sink:Int)(es:List By):AS:={t:=DO 30 0 [],h:=Xf p l mid sink es 1 .ready [],m:=[]}
def Y4(p:oN)(mid:Int)(s:List By×Int)(a:tO):List By×Int:=((Xl p a).foldl (Z7 mid s.2 a.oF) s.1,s.2+1)
noncomputable abbrev zP(p:oN)(l:List tO)(a:tO)(mid:Int)(sink:Int)(es:List By):List iN:=[.var [aq p.nm,aT p.number,aT p.T3,aT p.ON,aT p.num,aT p.den,ab (ML M5 p.reqs)],.var [ab (ML MQ l)],.var [.ref (.bY 4 1)],.var [aT mid],.bY (dE es) 1 3,.var [aq p.nm,aT p.number,aT p.T3,aT p.ON,aT p.num,aT p.den,ab (ML M5 p.reqs)],.var [ab (ML MQ l)],.Ts,.loop Np none 0 (DO 97 0 [(2,.ref (.ptr 0 0)),(3,.ref (.ptr 1 0)),(5,.ref (.ptr 2 0)),(7,.ref (.ptr 3 0)),(8,aT sink),(58,Ot (Nl 198) [] [.ref (.ptr 6 0),.ref (.ptr 5 0)])]) {toList:=[59,60]} (au (sub NQ 1)) (ai (sub NQ 1)),.var [aT a.dO,aT a.bV,aT a.IF,aT a.SW,aT a.oF]]
theorem KW{p:oN}{l:List tO}{a:tO}{mid sink:Int}{e0 es:List By}{i:Nat}(hp:p.ok)(hn:p.reqs.length<=1000)(hr:ap (i:Int) (l.map MQ) a.row 5)(hks:(Xl p a).length<=1000)(IN:Zd ((i:Int)<((l.map MQ).length:Int))=true)(hw:MM.wrap ((i:Int)+1)=((i+1:Nat):Int))(hes:es.length<=90000000):(CW MK At (Xf p l mid sink e0 0 .ready []) false (sub OI 0) (n3S p l mid sink es i) .normal (n3S p l mid sink (Y4 p mid (es,(i:Int)) a).1 ((i+1:Nat):Int))):=by
 have Tv:=(@n2_cw (p) (l) (a) (mid) (sink) (Xl p a) (e0) (es) ((↑i:Int)) (hr) (hks) (hes))
 let v0:List D:=[ab (ML MQ l)]
 let v1:=ML M5 p.reqs
 exact yX {t:=DO 30 0 [(0,.ref (.yl 8)),(1,.ref (.ptr 6 0)),(2,.ref (.ptr 5 0)),(8,ab (ML MQ l)),(9,aT (↑(MO (ML MQ l)):Int)),(10,aT (MN MM ((↑i:Int)+1)))],h:=[.var [aq p.nm,aT p.number,aT p.T3,aT p.ON,aT p.num,aT p.den,ab v1],.var v0,.var [.ref (.bY 4 1)],.var [aT mid],.bY (dE (Nx (Z7 mid (↑i:Int) a.oF) es (Xl p a))) 1 3,.var [aq p.nm,aT p.number,aT p.T3,aT p.ON,aT p.num,aT p.den,ab v1],.var v0,.Ts,.loop Np none 0 (DO 97 0 [(2,.ref (.ptr 0 0)),(3,.ref (.ptr 1 0)),(5,.ref (.ptr 2 0)),(7,.ref (.ptr 3 0)),(8,aT sink),(58,Ot (Nl 198) [] [.ref (.ptr 6 0),.ref (.ptr 5 0)])]) {toList:=[59,60]} (au (sub NQ 1)) (ai (sub NQ 1))],m:=[]} M8 [.st (.mask [0,1,2,8,9,10]),.st (.TD 9)] [.b IN,.r hr,.v (@oB p hp hn a (zP p l a mid sink es)),.s [0,1,2,4,8,9,10,17,18,19] Tv,bi 9 (.var [aq p.nm,aT p.number,aT p.T3,aT p.ON,aT p.num,aT p.den,ab v1]),bi 9 (.var v0),bi 9 (.var [.ref (.bY 4 1)]),bi 9 (.var [aT mid]),((by subst v0 v1;exact mq _ _):MZ 9 (.bY (dE (Nx (Z7 mid (↑i:Int) a.oF) es (Xl p a))) 1 3)=true),bi 9 (.var [aq p.nm,aT p.number,aT p.T3,aT p.ON,aT p.num,aT p.den,ab v1]),bi 9 (.var v0),bi 9 .Ts,bi 9 (.loop Np none 0 (DO 97 0 [(2,.ref (.ptr 0 0)),(3,.ref (.ptr 1 0)),(5,.ref (.ptr 2 0)),(7,.ref (.ptr 3 0)),(8,aT sink),(58,Ot (Nl 198) [] [.ref (.ptr 6 0),.ref (.ptr 5 0)])]) {toList:=[59,60]} (au (sub NQ 1)) (ai (sub NQ 1)))] (by subst v0 v1;grind) (by subst v0 v1;(simp only[Y4,hw];first|done|rfl))
theorem KX{p:oN}{l:List tO}{mid sink:Int}{e0 es:List By}{i:Nat}(IN:Zd ((i:Int)<((l.map MQ).length:Int))=false):(CW MK At (Xf p l mid sink e0 0 .ready []) false (sub OI 0) (n3S p l mid sink es i) (.exit 0) (n3E p l mid sink es)):=by
 exact yx [.st (.mask [])] [.b IN]
theorem sg(p:oN)(a:tO):(Xl p a).length<=p.reqs.length:=by
 have:=yf (a:=a) p.reqs ([],0)
 grind [Xl]
theorem n3_cw{p:oN}(hp:p.ok){l:List tO}{mid sink:Int}{e0:List By}(hn:p.reqs.length<=100)(hl:l.length<=50000)(he0:e0.length<=50000):CW MK At (Xf p l mid sink e0 0 .ready []) false (.loop (sub OI 0)) (n3S p l mid sink e0 0) (.exit 0) (n3E p l mid sink (l.foldl (Y4 p mid) (e0,0)).1):=by
 have:=OS (P:=MK) (Γ:=At) (h0:=Xf p l mid sink e0 0 .ready []) (rd:=false) (c:=sub OI 0) (σ:=List By×Int) (ρ:=Empty) l (λa s=>.inl (Y4 p mid s a))
  (λi s=>n3S p l mid sink s.1 (i:Int)) (.exit 0) (λs=>n3E p l mid sink s.1) (λr=>r.elim) (λi s=>s.2=i/\s.1.length<=50000+100*i) (by simp) (λr=>r.elim) ?_ ?_ (e0,0) (by simp;omega)
 ·rw[aP] at this
  exact this
 ·rintro i a ⟨es,k⟩ hc ⟨hk,he⟩
  simp only at hk he
  subst hk
  have hi:=(MR.1 hc).1
  have h1:=sg p a
  refine⟨λs' h=>?_,KW hp (by omega) (rowAt hc rfl) (by omega) (TG MQ hi) (T4 hi (by omega)) (show es.length<=90000000 by omega)⟩
  grind [Y4,yh]
 ·intro s _
  exact KX (be MQ l)
theorem CI{p:oN}(hp:p.ok){l:List tO}{mid sink:Int}{e0:List By}(hn:p.reqs.length<=100)(hl:l.length<=50000)(he0:e0.length<=50000):(Ev MK At 198 [.ref (.yl 8),.ref (.ptr 6 0),.ref (.ptr 5 0)] (Xf p l mid sink e0 0 .ready []) (.Tt []) (Xf p l mid sink (l.foldl (Y4 p mid) (e0,0)).1 1 .ready [])):=by
 have Tv:=(@n3_cw (p) (hp) (l) (mid) (sink) (e0) (hn) (hl) (he0))
 exact Na (yF (h':=[.var [aq p.nm,aT p.number,aT p.T3,aT p.ON,aT p.num,aT p.den,ab (ML M5 p.reqs)],.var [ab (ML MQ l)],.var [.ref (.bY 4 1)],.var [aT mid],.bY (dE (Nx (Y4 p mid) (e0,0) l).fst) 1 3,.var [aq p.nm,aT p.number,aT p.T3,aT p.ON,aT p.num,aT p.den,ab (ML M5 p.reqs)],.var [ab (ML MQ l)],.Ts,.loop Np none 0 (DO 97 0 [(2,.ref (.ptr 0 0)),(3,.ref (.ptr 1 0)),(5,.ref (.ptr 2 0)),(7,.ref (.ptr 3 0)),(8,aT sink),(58,Ot (Nl 198) [] [.ref (.ptr 6 0),.ref (.ptr 5 0)])]) {toList:=[59,60]} (au (sub NQ 1)) (ai (sub NQ 1))]) (d:=Nt []) [((by exact jP _ _):ML (Nm (ax 4 0 1)) (dE e0)=dE e0),.n 1,.o (.Vz 4 1),.s [0,1,2,8,9,10] Tv]) (by rfl) (by rfl)
noncomputable abbrev npH0(p:oN)(l:List tO)(mid:Int)(es:List By):List iN:=[.var p.l,.var [ab (l.map MQ)],.var [.ref (.bY 4 0)],.var [aT mid],.bY (dE es) 0 3,.var p.l,.var [ab (l.map MQ)]]
theorem F2{p:oN}(hp:p.ok){l:List tO}{mid sink:Int}{e0:List By}(hn:p.reqs.length<=100)(hl:l.length<=50000)(he0:e0.length<=50000):CW MK At [] false (sub NQ 1) {t:=npT sink,h:=npH0 p l mid e0,m:=[]} .normal
  {t:=npT sink,h:=Xf p l mid sink (l.foldl (Y4 p mid) (e0,0)).1 1 .exhausted [],m:=[7]}:=by
 exact CW.rangeFunc (f:=198) (fi:=[]) (ca:=[.ref (.ptr 6 0),.ref (.ptr 5 0)]) Ug (s:={t:=npT sink,h:=npH0 p l mid e0,m:=[]}) (g:=.tmp 58) (ps:=#[59,60]) (asg:=au (sub NQ 1)) (body:=ai (sub NQ 1)) rfl (by kernel_rfl) (CI hp hn hl he0) rfl
noncomputable abbrev n4S(p:oN)(l:List tO)(mid sink:Int)(es:List By)(i:Int):AS:={t:=DO 97 0 [(5,.ref (.ptr 2 0)),(7,.ref (.ptr 3 0)),(8,aT sink),(76,ab (p.reqs.map M5)),(77,aT ((p.reqs.map M5).length:Int)),(78,aT i)],h:=Xf p l mid sink es 0 .exhausted [],m:=[7]}
noncomputable abbrev n4E(p:oN)(l:List tO)(mid sink:Int)(es:List By):AS:={t:=DO 97 0 [(5,.ref (.ptr 2 0)),(8,aT sink)],h:=Xf p l mid sink es 0 .exhausted [],m:=[7]}
def Ω(mid sink:Int)(s:List By×Int)(q:T2):List By×Int:=(s.1++[⟨MM.wrap (mid+s.2),sink,q.oF⟩],s.2+1)
theorem KY{p:oN}{l:List tO}{q:T2}{mid sink:Int}{es:List By}{i:Nat}(hr:ap (i:Int) (p.reqs.map M5) q.row 6)(IN:Zd ((i:Int)<((p.reqs.map M5).length:Int))=true)(hw:MM.wrap ((i:Int)+1)=((i+1:Nat):Int))(hl:es.length<=100000000):(CW MK At [] false (sub NQ 2) (n4S p l mid sink es i) .normal (n4S p l mid sink (Ω mid sink (es,(i:Int)) q).1 ((i+1:Nat):Int))):=by
 let v0:=ML M5 p.reqs
 let v1:List D:=[ab (ML MQ l)]
 refine yX {t:=DO 97 0 [(5,.ref (.ptr 2 0)),(7,.ref (.ptr 3 0)),(8,aT sink),(76,ab v0),(77,aT (↑(MO v0):Int)),(78,aT (MN MM ((↑i:Int)+1)))],h:=[.var [aq p.nm,aT p.number,aT p.T3,aT p.ON,aT p.num,aT p.den,ab v0],.var v1,.var [.ref (.bY 4 0)],.var [aT mid],.bY (dE es++[[aT (MN MM (mid+(↑i:Int))),aT sink,aT q.oF]]) 0 3,.var [aq p.nm,aT p.number,aT p.T3,aT p.ON,aT p.num,aT p.den,ab v0],.var v1,.Ts,.loop N2 none 0 (DO 97 0 [(2,.ref (.ptr 0 0)),(3,.ref (.ptr 1 0)),(5,.ref (.ptr 2 0)),(7,.ref (.ptr 3 0)),(8,aT sink),(58,Ot (Nl 198) [] [.ref (.ptr 6 0),.ref (.ptr 5 0)])]) {toList:=[59,60]} (au (sub NQ 1)) (ai (sub NQ 1))],m:=[7]} M8 [.st (.mask [5,7,8,76,77,78]),.st (.Vz 4 0),.st (.TD 9)] [.b IN,.r hr,((by subst v0 v1;grind [dd,bf,D.one,OM,Tw,se]):(NH [[aT (MN MM (mid+(↑i:Int))),aT sink,aT q.oF]] (bf 3)&&Tw (MO (dE es)+MO [[aT (MN MM (mid+(↑i:Int))),aT sink,aT q.oF]]) 24)=true),(?_:ML (Nm (ax 4 1 0)) (dE es++[[aT (MN MM (mid+(↑i:Int))),aT sink,aT q.oF]])=dE es++[[aT (MN MM (mid+(↑i:Int))),aT sink,aT q.oF]]),pr [[aT (MN MM (mid+(↑i:Int))),aT sink,aT q.oF]],(rfl:MZ 9 (match 0==4 with|true=>.bY (dE es++[[aT (MN MM (mid+(↑i:Int))),aT sink,aT q.oF]]) 0 3|false=>ST (ax 4 1 0) (.var [aq p.nm,aT p.number,aT p.T3,aT p.ON,aT p.num,aT p.den,ab v0]))=true),(rfl:MZ 9 (match 0+1==4 with|true=>.bY (dE es++[[aT (MN MM (mid+(↑i:Int))),aT sink,aT q.oF]]) 0 3|false=>ST (ax 4 1 0) (.var v1))=true),(rfl:MZ 9 (match 0+1+1==4 with|true=>.bY (dE es++[[aT (MN MM (mid+(↑i:Int))),aT sink,aT q.oF]]) 0 3|false=>ST (ax 4 1 0) (.var [.ref (.bY 4 1)]))=true),(rfl:MZ 9 (match 0+1+1+1==4 with|true=>.bY (dE es++[[aT (MN MM (mid+(↑i:Int))),aT sink,aT q.oF]]) 0 3|false=>ST (ax 4 1 0) (.var [aT mid]))=true),(?_:MZ 9 (match 0+1+1+1+1==4 with|true=>.bY (dE es++[[aT (MN MM (mid+(↑i:Int))),aT sink,aT q.oF]]) 0 3|false=>ST (ax 4 1 0) (.bY (dE es++[[aT (MN MM (mid+(↑i:Int))),aT sink,aT q.oF]]) 1 3))=true),(rfl:MZ 9 (match 0+1+1+1+1+1==4 with|true=>.bY (dE es++[[aT (MN MM (mid+(↑i:Int))),aT sink,aT q.oF]]) 0 3|false=>ST (ax 4 1 0) (.var [aq p.nm,aT p.number,aT p.T3,aT p.ON,aT p.num,aT p.den,ab v0]))=true),(rfl:MZ 9 (match 0+1+1+1+1+1+1==4 with|true=>.bY (dE es++[[aT (MN MM (mid+(↑i:Int))),aT sink,aT q.oF]]) 0 3|false=>ST (ax 4 1 0) (.var v1))=true),(rfl:MZ 9 (match 0+1+1+1+1+1+1+1==4 with|true=>.bY (dE es++[[aT (MN MM (mid+(↑i:Int))),aT sink,aT q.oF]]) 0 3|false=>ST (ax 4 1 0) .Ts)=true),(rfl:MZ 9 (match 0+1+1+1+1+1+1+1+1==4 with|true=>.bY (dE es++[[aT (MN MM (mid+(↑i:Int))),aT sink,aT q.oF]]) 0 3|false=>ST (ax 4 1 0) (.loop N2 none 0 (DO 97 0 [(2,.ref (.ptr 0 0)),(3,.ref (.ptr 1 0)),(5,.ref (.ptr 2 0)),(7,.ref (.ptr 3 0)),(8,aT sink),(58,Ot (Nl 198) [] [.ref (.ptr 6 0),.ref (.ptr 5 0)])]) {toList:=[59,60]} (au (sub NQ 1)) (ai (sub NQ 1))))=true)] (by subst v0 v1;grind) (by subst v0 v1;simp only[Ω,hw,dd];rfl)<;>subst v0 v1<;>(first|(rw[dd];exact jP _ _)|(rw[dd];exact mq _ _))
theorem KZ{p:oN}{l:List tO}{mid sink:Int}{es:List By}{i:Nat}(IN:Zd ((i:Int)<((p.reqs.map M5).length:Int))=false):(CW MK At [] false (sub NQ 2) (n4S p l mid sink es i) (.exit 4) (n4E p l mid sink es)):=by
 exact yx [.st (.mask [5,8])] [.b IN]
theorem n4_cw{p:oN}{l:List tO}{mid sink:Int}{e0:List By}(hn:p.reqs.length<=100)(he:e0.length<=10000000):CW MK At [] false (.loop (sub NQ 2)) (n4S p l mid sink e0 0) (.exit 4) (n4E p l mid sink (p.reqs.foldl (Ω mid sink) (e0,0)).1):=by
 have:=OS (P:=MK) (Γ:=At) (h0:=[]) (rd:=false) (c:=sub NQ 2) (σ:=List By×Int) (ρ:=Empty) p.reqs (λa s=>.inl (Ω mid sink s a))
  (λi s=>n4S p l mid sink s.1 (i:Int)) (.exit 4) (λs=>n4E p l mid sink s.1) (λr=>r.elim) (λi s=>s.2=i/\s.1.length<=e0.length+i) (by simp) (λr=>r.elim) ?_ ?_ (e0,0) (by simp)
 ·rw[aP] at this
  exact this
 ·rintro i a ⟨es,k⟩ hc ⟨hk,he⟩
  simp only at hk he
  subst hk
  have hi:=(MR.1 hc).1
  refine⟨λs' h=>?_,KY (rowAt hc rfl) (TG M5 hi) (T4 hi (by omega)) (show es.length<=100000000 by omega)⟩
  grind [Ω]
 ·intro s _
  exact KZ (be M5 p.reqs)
abbrev zQ(l:List tO):Int:=MM.wrap (1+((l.map MQ).length:Int))
abbrev wD(p:oN)(l:List tO):Int:=MM.wrap (zQ l+((p.reqs.map M5).length:Int))
def K0(p:oN)(l:List tO):List By:=(l.foldl (ZO p) ([],0)).1
def K1(p:oN)(l:List tO):List By:=(l.foldl (Y4 p (zQ l)) (K0 p l,0)).1
def mu(p:oN)(l:List tO):List By:=(p.reqs.foldl (Ω (zQ l) (wD p l)) (K1 p l,0)).1
theorem sh(p:oN)(l:List tO):(K0 p l).length=l.length:=by unfold K0;rw[HG];simp
theorem HH{p:oN}{mid:Int}:∀(l:List tO) (s:List By×Int),(l.foldl (Y4 p mid) s).1.length<=s.1.length+l.length*p.reqs.length
 | [],s=>by simp
 | a::l,s=>by
  have h1:=HH (p:=p) (mid:=mid) l (Y4 p mid s a)
  have h2:=sg p a
  simp only[NI,N3,Nat.add_mul,Nat.one_mul]
  grind [Y4,yh]
theorem F3(p:oN)(l:List tO)(hn:p.reqs.length<=100)(hl:l.length<=50000):(K1 p l).length<=5050000:=by
 unfold K1
 have h1:=HH (p:=p) (mid:=zQ l) l (K0 p l,0)
 have h2:=sh p l
 have h3:l.length*p.reqs.length<=50000*100:=Nat.mul_le_mul hl hn
 grind
def yj(p:oN)(l:List tO)(e:Int):Int×List By×Int:=match ye p != 0 with
 | true=>(0,[],ye p)
 | false=>match e != 0 with
  | true=>(0,[],e)
  | false=>(MM.wrap (wD p l+1),mu p l,0)
abbrev HI(p:oN)(l:List tO):Int×List By×Int:=yj p l (fh l).2.2
noncomputable abbrev jQ(p:oN)(l:List tO):List iN:=[.var [aq p.nm,aT p.number,aT p.T3,aT p.ON,aT p.num,aT p.den,ab (ML M5 p.reqs)],.var [ab (ML MQ l)],.var [nq]]
theorem net_a{p:oN}(hp:p.ok)(hpn:U5 p.num)(hpd:U5 p.den){l:List tO}(hn:p.reqs.length<=100)(hl:l.length<=50000)(h1:(K0 p l).length<=50000)(h2:(K1 p l).length<=10000000){a b c:Int}(hs:∀h,Ev MK At 117 [ab (l.map MQ)] h (.Tt [aT a,aT b,aT c]) h)(h:List iN):(Ev MK At 112 [.agg p.l,ab (l.map MQ)] h (.Tt [aT (yj p l c).1,ab ((yj p l c).2.1.map By.row),aT (yj p l c).2.2]) h):=by
 cases Of:ye p != 0
 ·cases TH:c != 0
  ·have YW:=(@n1_cw (p) (l) (MN MM (1+(↑(MO (ML MQ l)):Int))) (MN MM (MN MM (1+(↑(MO (ML MQ l)):Int))+(↑(MO (ML M5 p.reqs)):Int))) (hl))
   have hl3:=(@F2 (p) (hp) (l) (MN MM (1+(↑(MO (ML MQ l)):Int))) (MN MM (MN MM (1+(↑(MO (ML MQ l)):Int))+(↑(MO (ML M5 p.reqs)):Int))) ((Nx (ZO p) ([],0) l).fst) (hn) (hl) (h1))
   have hl4:=(@n4_cw (p) (l) (MN MM (1+(↑(MO (ML MQ l)):Int))) (MN MM (MN MM (1+(↑(MO (ML MQ l)):Int))+(↑(MO (ML M5 p.reqs)):Int))) ((Nx (Y4 p (MN MM (1+(↑(MO (ML MQ l)):Int)))) ((Nx (ZO p) ([],0) l).fst,0) l).fst) (hn) (h2))
   let v0:=MO (ML MQ l)
   let v1:=ML By.row (mu p l)
   let v2:=Nx (ZO p) ([],0) l
   refine Na (Ev.W9 (y0 (d:=Nt [aT (MN MM (MN MM (MN MM (1+(↑v0:Int))+(↑(MO (ML M5 p.reqs)):Int))+1)),ab v1,aT 0]) [.v (@oA p hp hpn hpd (jQ p l)),.b Of,.v (@hs (jQ p l)),.b TH,.n 3,.o (.WS 2 0 3),.s [2,3,5,7,8,37,38,39] YW,.a1 .inl,.s [2,3,5,7,8,58] hl3,(?_:ML (Nm (ax 4 1 0)) (dE (Nx (Y4 p (MN MM (1+(↑v0:Int)))) (v2.fst,0) l).fst)=dE (Nx (Y4 p (MN MM (1+(↑v0:Int)))) (v2.fst,0) l).fst),.n 1,.o (.Vz 4 0),.s [5,7,8,76,77,78] hl4,(?_:dE (Nx (Ω (MN MM (1+(↑v0:Int))) (MN MM (MN MM (1+(↑v0:Int))+(↑(MO (ML M5 p.reqs)):Int)))) ((Nx (Y4 p (MN MM (1+(↑v0:Int)))) (v2.fst,0) l).fst,0) p.reqs).fst=ML (λx=>ML D.p x) v1),po (some (ab v1)),.o (.Vw 4 v1)] h)) (by subst v0 v1 v2;simp only[yj,Of,TH];rfl) (by rfl)<;>subst v0 v1 v2<;>(first|exact F1 _|exact jP _ _)
  ·exact Na (Ev.W9 (y0 (d:=Nt [aT 0,nq,aT c]) [.v (@oA p hp hpn hpd (jQ p l)),.b Of,.v (@hs (jQ p l)),.b TH] h)) (by simp only[yj,Of,TH];rfl) (by rfl)
 ·exact Na (Ev.W9 (y0 (d:=Nt [aT 0,nq,aT (ye p)]) [.v (@oA p hp hpn hpd (jQ p l)),.b Of] h)) (by simp only[yj,Of];rfl) (by rfl)
theorem CJ{p:oN}(hp:p.ok){l:List tO}(hn:p.reqs.length<=100)(hl:l.length<=50000)(h:List iN):Ev MK At 112 [.agg p.l,ab (l.map MQ)] h (.Tt [aT (HI p l).1,ab ((HI p l).2.1.map By.row),aT (HI p l).2.2]) h :=
 net_a hp hp.nm hp.dn hn hl (by have:=sh p l;omega) (by have:=F3 p l hn hl;omega) (λh=>CG (by unfold ah;omega) h) h
def cL:Code->Code
 | .seq a _=>a
 | c=>c
def cR:Code->Code
 | .seq _ b=>b
 | c=>c
def cB:Code->Code
 | .block _ c=>c
 | .loop c=>c
 | c=>c
abbrev W8(es:List By):iN:=.var [ab (es.map By.row),.ref (.bY 0 0),.ref (.bY 1 0)]
abbrev nnT(es:List By)(i:Int):List D:=DO 64 0 [(5,.ref (.ptr 2 0)),(16,ab (es.map By.row)),(17,aT ((es.map By.row).length:Int)),(18,aT i)]
abbrev nnU(es:List By)(i:Int):List D:=DO 64 0 [(5,.ref (.ptr 2 0)),(6,aT i),(7,.ref (.ptr 3 0)),(16,ab (es.map By.row)),(17,aT ((es.map By.row).length:Int)),(18,aT i)]
theorem nn3{es:List By}{fl R:List (List D)}{i:Nat}:(CW MK At [.bY fl 0 1,.bY R 0 1,W8 es] false (cL (sub Ol 0)) {t:=nnT es i,h:=[.bY fl 0 1,.bY R 0 1,W8 es],m:=[]} .normal
  {t:=DO 64 0 [(5,.ref (.ptr 2 0)),(16,ab (es.map By.row)),(17,aT ((es.map By.row).length:Int)),(18,aT i),(19,iF (Zd ((i:Int)<((es.map By.row).length:Int))))],h:=[.bY fl 0 1,.bY R 0 1,W8 es],m:=[]}):=by
 exact yx [.st (.mask [5,16,17,18,19])] []
theorem nn4{es:List By}{fl R:List (List D)}{x:By}{i:Nat}(hr:ap (i:Int) (es.map By.row) x.row 3):(CW MK At [.bY fl 0 1,.bY R 0 1,W8 es] false (cL (cB (cL (cR (cR (sub Ol 0)))))) {t:=nnT es i,h:=[.bY fl 0 1,.bY R 0 1,W8 es],m:=[]} .normal
  {t:=nnU es i,h:=[.bY fl 0 1,.bY R 0 1,W8 es,.var [aT x.Do,aT x.to,aT x.most]],m:=[]}):=by
 exact yx [.st (.mask [5,6,7,16,17,18])] [.r hr]
theorem nn_vp{R:List (List D)}{u:Nat}{d:D}(hu:R[u]? = some [d]):IA MK 32 R 0 0 (MP (u:Int)) 0 d:=by
 unfold IA
 simp[hu]
 rfl
theorem nn_in{R:List (List D)}{u:Nat}{r:List D}(hu:R[u]? = some r):TU (u:Int) R.length=true:=by
 grind [TU]
theorem nn_st{R:List (List D)}{b0:iN}{rest:List iN}{u:Nat}{r:List D}{e:Nat}(hu:R[u]? = some r)(hr:r.length=1):aN MK (b0::.bY R 0 1::rest) 32 (.ref (.vp 1 0 (MP (u:Int)) 0)) (.ref (.bY 4 e))=some (b0::.bY (R.set u [.ref (.bY 4 e)]) 0 1::rest):=by
 match r,hr with
 | [d],_ =>
  unfold aN
  simp[hu]
  rfl
theorem mw(B:List Int)(n:Int):ei B++[[aT n]]=ei (B++[n]):=by simp
theorem yk{k e:Nat}(B:List Int):MZ k (.bY (ei B) e 1)=true:=by simp[MZ,NS,D.UV]
theorem nn5{es:List By}{fl R:List (List D)}{B:List Int}{u i:Nat}{to most:Int}(hR:R[u]? = some [.ref (.bY 4 0)])(hB:B.length<=1000000)(Y6:MZ 5 (.bY fl 0 1)=true)(hRi:MZ 5 (.bY (R.set u [.ref (.bY 4 1)]) 0 1)=true):(CW MK At [.bY fl 0 1,.bY R 0 1,W8 es,.var [aT (u:Int),aT to,aT most],.bY (ei B) 0 1] false (cL (cR (cB (cL (cR (cR (sub Ol 0))))))) {t:=nnU es i,h:=[.bY fl 0 1,.bY R 0 1,W8 es,.var [aT (u:Int),aT to,aT most],.bY (ei B) 0 1],m:=[]} .normal
  {t:=nnU es i,h:=[.bY fl 0 1,.bY (R.set u [.ref (.bY 4 1)]) 0 1,W8 es,.var [aT (u:Int),aT to,aT most],.bY (ei (B++[MM.wrap (2*(i:Int))])) 1 1],m:=[]}):=by
 let v0:List D:=[ab (ML By.row es),.ref (.bY 0 0),.ref (.bY 1 0)]
 let v1:=Oe R u [.ref (.bY 4 1)]
 refine yX {t:=DO 64 0 [(5,.ref (.ptr 2 0)),(6,aT (↑i:Int)),(7,.ref (.ptr 3 0)),(16,ab (ML By.row es)),(17,aT (↑(MO (ML By.row es)):Int)),(18,aT (↑i:Int))],h:=[.bY fl 0 1,.bY v1 0 1,.var v0,.var [aT (↑u:Int),aT to,aT most],.bY (ei B++[[aT (MN MM (2*(↑i:Int)))]]) 1 1],m:=[]} M8 [.st (.mask [5,6,7,16,17,18]),.st (.TD 5)] [(?_:TU (↑u:Int) (MO R)=true),(?_:@Eq (Option D) (aI MK [.bY fl 0 1,.bY R 0 1,.var v0,.var [aT (↑u:Int),aT to,aT most],.bY (ei B) 0 1] 32 (.ref (.vp 1 0 (MP (↑u:Int)) 0))) (some (.ref (.bY 4 0)))),((by subst v0 v1;grind [mw,bf,D.one,OM,Tw]):(NH [[aT (MN MM (2*(↑i:Int)))]] (bf 1)&&Tw (MO (ei B)+MO [[aT (MN MM (2*(↑i:Int)))]]) 8)=true),(?_:TU (↑u:Int) (MO R)=true),(?_:@Eq (Option (List iN)) (aN MK [.bY fl 0 1,.bY R 0 1,.var v0,.var [aT (↑u:Int),aT to,aT most],.bY (ei B++[[aT (MN MM (2*(↑i:Int)))]]) 1 1,.bY [[aT (MN MM (2*(↑i:Int)))]] 0 1] 32 (.ref (.vp 1 0 (MP (↑u:Int)) 0)) (.ref (.bY 4 1))) (some [.bY fl 0 1,.bY v1 0 1,.var v0,.var [aT (↑u:Int),aT to,aT most],.bY (ei B++[[aT (MN MM (2*(↑i:Int)))]]) 1 1,.bY [[aT (MN MM (2*(↑i:Int)))]] 0 1])),pe (.ref (.ptr 2 0)),pe (.ref (.ptr 2 0)),pe (.ref (.ptr 2 0)),pe (.ref (.ptr 2 2)),pe (.ref (.ptr 2 2)),pe (.ref (.ptr 2 2)),po (some (.ref (.bY 1 0))),po (some (.ref (.bY 1 0))),po (some (.ref (.bY 1 0))),pe (.ref (.ptr 3 0)),pe (.ref (.ptr 3 0)),pe (.ref (.ptr 3 0)),po (some (aT (↑u:Int))),po (some (aT (↑u:Int))),po (some (aT (↑u:Int))),pe (.ref (.ptr 2 0)),pe (.ref (.ptr 2 0)),pe (.ref (.ptr 2 2)),pe (.ref (.ptr 2 2)),po (some (.ref (.bY 1 0))),po (some (.ref (.bY 1 0))),pe (.ref (.ptr 3 0)),pe (.ref (.ptr 3 0)),po (some (aT (↑u:Int))),po (some (aT (↑u:Int))),(?_:TU (↑u:Int) (MO R)=true),pe (.ref (.vp 1 0 (MP (↑u:Int)) 0)),(?_:TU (↑u:Int) (MO R)=true),pe (.ref (.vp 1 0 (MP (↑u:Int)) 0)),(?_:@Eq (Option D) (if 0=0 then match R[MP (↑u:Int)]? with|some row=>cb MK 32 (Od 0 row)|none=>none else none) (some (.ref (.bY 4 0)))),(?_:@Eq (Option D) (if 0=0 then match R[MP (↑u:Int)]? with|some row=>cb MK 32 (Od 0 row)|none=>none else none) (some (.ref (.bY 4 0)))),(?_:TU (↑u:Int) (MO R)=true),pe (.ref (.vp 1 0 (MP (↑u:Int)) 0)),Y6,hRi,bi 5 (.var v0),bi 5 (.var [aT (↑u:Int),aT to,aT most]),(?_:MZ 5 (.bY (ei B++[[aT (MN MM (2*(↑i:Int)))]]) 1 1)=true),.a1 (.ov 36 (.ref (.bY 4 0))),.a1 (.oh 10041 D.any [.bY fl 0 1,.bY v1 0 1,W8 es,.var [aT (↑u:Int),aT to,aT most],.bY (ei B++[[aT (MN MM (2*(↑i:Int)))]]) 1 1,.bY [[aT (MN MM (2*(↑i:Int)))]] 0 1])] (by subst v0 v1;grind) (by subst v0 v1;grind)<;>subst v0 v1<;>(first|exact nn_vp hR|exact nn_in hR|exact nn_st hR rfl|(rw[mw];exact yk _))
theorem nn6{es:List By}{fl R:List (List D)}{B:List Int}{u i:Nat}{Do most:Int}(hR:R[u]? = some [.ref (.bY 4 0)])(hB:B.length<=1000000)(Y6:MZ 5 (.bY fl 0 1)=true)(hRi:MZ 5 (.bY (R.set u [.ref (.bY 4 1)]) 0 1)=true):(CW MK At [.bY fl 0 1,.bY R 0 1,W8 es,.var [aT Do,aT (u:Int),aT most],.bY (ei B) 0 1] false (cR (cR (cB (cL (cR (cR (sub Ol 0))))))) {t:=nnU es i,h:=[.bY fl 0 1,.bY R 0 1,W8 es,.var [aT Do,aT (u:Int),aT most],.bY (ei B) 0 1],m:=[]} .normal
  {t:=nnU es i,h:=[.bY fl 0 1,.bY (R.set u [.ref (.bY 4 1)]) 0 1,W8 es,.var [aT Do,aT (u:Int),aT most],.bY (ei (B++[MM.wrap (MM.wrap (2*(i:Int))+1)])) 1 1],m:=[]}):=by
 let v0:List D:=[ab (ML By.row es),.ref (.bY 0 0),.ref (.bY 1 0)]
 let v1:=Oe R u [.ref (.bY 4 1)]
 refine yX {t:=DO 64 0 [(5,.ref (.ptr 2 0)),(6,aT (↑i:Int)),(7,.ref (.ptr 3 0)),(16,ab (ML By.row es)),(17,aT (↑(MO (ML By.row es)):Int)),(18,aT (↑i:Int))],h:=[.bY fl 0 1,.bY v1 0 1,.var v0,.var [aT Do,aT (↑u:Int),aT most],.bY (ei B++[[aT (MN MM (MN MM (2*(↑i:Int))+1))]]) 1 1],m:=[]} M8 [.st (.mask [5,6,7,16,17,18]),.st (.TD 5)] [(?_:TU (↑u:Int) (MO R)=true),(?_:@Eq (Option D) (aI MK [.bY fl 0 1,.bY R 0 1,.var v0,.var [aT Do,aT (↑u:Int),aT most],.bY (ei B) 0 1] 32 (.ref (.vp 1 0 (MP (↑u:Int)) 0))) (some (.ref (.bY 4 0)))),((by subst v0 v1;grind [mw,bf,D.one,OM,Tw]):(NH [[aT (MN MM (MN MM (2*(↑i:Int))+1))]] (bf 1)&&Tw (MO (ei B)+MO [[aT (MN MM (MN MM (2*(↑i:Int))+1))]]) 8)=true),(?_:TU (↑u:Int) (MO R)=true),(?_:@Eq (Option (List iN)) (aN MK [.bY fl 0 1,.bY R 0 1,.var v0,.var [aT Do,aT (↑u:Int),aT most],.bY (ei B++[[aT (MN MM (MN MM (2*(↑i:Int))+1))]]) 1 1,.bY [[aT (MN MM (MN MM (2*(↑i:Int))+1))]] 0 1] 32 (.ref (.vp 1 0 (MP (↑u:Int)) 0)) (.ref (.bY 4 1))) (some [.bY fl 0 1,.bY v1 0 1,.var v0,.var [aT Do,aT (↑u:Int),aT most],.bY (ei B++[[aT (MN MM (MN MM (2*(↑i:Int))+1))]]) 1 1,.bY [[aT (MN MM (MN MM (2*(↑i:Int))+1))]] 0 1])),pe (.ref (.ptr 2 0)),pe (.ref (.ptr 2 0)),pe (.ref (.ptr 2 0)),pe (.ref (.ptr 2 2)),pe (.ref (.ptr 2 2)),pe (.ref (.ptr 2 2)),po (some (.ref (.bY 1 0))),po (some (.ref (.bY 1 0))),po (some (.ref (.bY 1 0))),pe (.ref (.ptr 3 1)),pe (.ref (.ptr 3 1)),pe (.ref (.ptr 3 1)),po (some (aT (↑u:Int))),po (some (aT (↑u:Int))),po (some (aT (↑u:Int))),pe (.ref (.ptr 2 0)),pe (.ref (.ptr 2 0)),pe (.ref (.ptr 2 2)),pe (.ref (.ptr 2 2)),po (some (.ref (.bY 1 0))),po (some (.ref (.bY 1 0))),pe (.ref (.ptr 3 1)),pe (.ref (.ptr 3 1)),po (some (aT (↑u:Int))),po (some (aT (↑u:Int))),(?_:TU (↑u:Int) (MO R)=true),pe (.ref (.vp 1 0 (MP (↑u:Int)) 0)),(?_:TU (↑u:Int) (MO R)=true),pe (.ref (.vp 1 0 (MP (↑u:Int)) 0)),(?_:@Eq (Option D) (if 0=0 then match R[MP (↑u:Int)]? with|some row=>cb MK 32 (Od 0 row)|none=>none else none) (some (.ref (.bY 4 0)))),(?_:@Eq (Option D) (if 0=0 then match R[MP (↑u:Int)]? with|some row=>cb MK 32 (Od 0 row)|none=>none else none) (some (.ref (.bY 4 0)))),(?_:TU (↑u:Int) (MO R)=true),pe (.ref (.vp 1 0 (MP (↑u:Int)) 0)),Y6,hRi,bi 5 (.var v0),bi 5 (.var [aT Do,aT (↑u:Int),aT most]),(?_:MZ 5 (.bY (ei B++[[aT (MN MM (MN MM (2*(↑i:Int))+1))]]) 1 1)=true),.a1 (.ov 55 (.ref (.bY 4 0))),.a1 (.oh 10061 D.any [.bY fl 0 1,.bY v1 0 1,W8 es,.var [aT Do,aT (↑u:Int),aT most],.bY (ei B++[[aT (MN MM (MN MM (2*(↑i:Int))+1))]]) 1 1,.bY [[aT (MN MM (MN MM (2*(↑i:Int))+1))]] 0 1])] (by subst v0 v1;grind) (by subst v0 v1;grind)<;>subst v0 v1<;>(first|exact nn_vp hR|exact nn_in hR|exact nn_st hR rfl|(rw[mw];exact yk _))
theorem nn7{es:List By}{fl R:List (List D)}{x:By}{i:Nat}(hw:MM.wrap ((i:Int)+1)=((i+1:Nat):Int)):(CW MK At [.bY fl 0 1,.bY R 0 1,W8 es,.var [aT x.Do,aT x.to,aT x.most]] false (cR (cR (cR (sub Ol 0)))) {t:=nnU es i,h:=[.bY fl 0 1,.bY R 0 1,W8 es,.var [aT x.Do,aT x.to,aT x.most]],m:=[]} .normal
  {t:=nnT es ((i+1:Nat):Int),h:=[.bY fl 0 1,.bY R 0 1,W8 es,.var [aT x.Do,aT x.to,aT x.most]],m:=[]}):=by
 refine yX {t:=DO 64 0 [(5,.ref (.ptr 2 0)),(16,ab (ML By.row es)),(17,aT (↑(MO (ML By.row es)):Int)),(18,aT (MN MM ((↑i:Int)+1)))],h:=[.bY fl 0 1,.bY R 0 1,.var [ab (ML By.row es),.ref (.bY 0 0),.ref (.bY 1 0)],.var [aT x.Do,aT x.to,aT x.most]],m:=[]} M8 [.st (.mask [5,16,17,18])] [] ?_ ?_<;>(grind)
abbrev nnC(es:List By)(i:Int)(b:Bool):List D:=DO 64 0 [(5,.ref (.ptr 2 0)),(16,ab (es.map By.row)),(17,aT ((es.map By.row).length:Int)),(18,aT i),(19,iF b)]
theorem nnc1{es:List By}{fl R:List (List D)}{i:Nat}{b:Bool}(hb:b=true):(CW MK At [.bY fl 0 1,.bY R 0 1,W8 es] false (cL (cR (sub Ol 0))) {t:=nnC es i b,h:=[.bY fl 0 1,.bY R 0 1,W8 es],m:=[]} .normal
  {t:=nnT es i,h:=[.bY fl 0 1,.bY R 0 1,W8 es],m:=[]}):=by
 exact yx [.st (.mask [5,16,17,18])] [.b hb]
theorem nnc0{es:List By}{fl R:List (List D)}{i:Nat}{b:Bool}(hb:b=false):(CW MK At [.bY fl 0 1,.bY R 0 1,W8 es] false (cL (cR (sub Ol 0))) {t:=nnC es i b,h:=[.bY fl 0 1,.bY R 0 1,W8 es],m:=[]} (.exit 0)
  {t:=DO 64 0 [(5,.ref (.ptr 2 0))],h:=[.bY fl 0 1,.bY R 0 1,W8 es],m:=[]}):=by
 exact yx [.st (.mask [5])] [.b hb]
def jZ(s:List (List Int)×Int)(x:By):List (List Int)×Int :=
 let A:=s.1.set x.Do.toNat (s.1.getD x.Do.toNat []++[MM.wrap (2*s.2)])
 (A.set x.to.toNat (A.getD x.to.toNat []++[MM.wrap (MM.wrap (2*s.2)+1)]),s.2+1)
def iP(n:Nat)(es:List By):List (List Int):=(es.foldl jZ (MU n [],0)).1
theorem F4(s:List (List Int)×Int)(x:By):(jZ s x).1.length=s.1.length:=by simp[jZ]
def Lim(A:List (List Int))(k:Nat):Prop:=∀(j:Nat) (B:List Int),A[j]? = some B->B.length<=k
theorem Lim.set{A:List (List Int)}{k:Nat}(h:Lim A k)(u:Nat)(v:Int):Lim (A.set u (A.getD u []++[v])) (k+1):=by
 intro j B hj
 by_cases hu:j=u
 ·subst hu
  have hl:j<A.length:=by have:=(MR.1 hj).1;simpa using this
  rw[N9 hl] at hj
  cases hj
  have hg:A[j]? = some (A.getD j []):=by simp[List.getD,hl]
  have:=h j _ hg
  grind
 ·rw[List.getElem?_set_ne (λe=>hu e.symm)] at hj
  have:=h j B hj;omega
theorem F5{s:List (List Int)×Int}{x:By}{k:Nat}(h:Lim s.1 k):Lim (jZ s x).1 (k+2):=by
 have h1:=h.set x.Do.toNat (MM.wrap (2*s.2))
 have h2:=h1.set x.to.toNat (MM.wrap (MM.wrap (2*s.2)+1))
 grind [jZ]
theorem CK{A:List (List Int)}{j:Nat}(h:j<A.length):A[j]? = some (A.getD j []):=by grind
def dQ(n:Nat)(x:By):Prop:=0<=x.Do/\x.Do<n/\0<=x.to/\x.to<n
theorem ym{ys:List Value}{u e:Nat}:MZ 5 (.bY (((bL ys).set u [.ref (.bY 4 0)]).set u [.ref (.bY 4 1)]) 0 e)=true:=by
 simp only[MZ,Sn]
 rw[Ns]
 intro r hr
 rcases List.mem_or_eq_of_mem_set hr with h1|h1
 ·obtain⟨y,_,rfl⟩:=List.mem_map.1 h1;rfl
 ·rw[h1];rfl
theorem yn{ys:List Value}{u:Nat}(hu:u<ys.length):((bL ys).set u [PM (.bY 4 0)])[u]? = some [.ref (.bY 4 0)]:=N9 (by simpa using hu)
section
variable {X:Ctx} {fl:List (List D)} {es:List By}
theorem F6(Y6:∀k,MZ k (.bY fl 0 1)=true)(hes:es.length<=65536){A:List (List Int)}{i:Nat}{x:By}(hx:es[i]? = some x)(TZ:dQ A.length x)(hA:Lim A (2*i)){a:Act}{w:World}
  (hn:NB At X (nnT es i) [.bY fl 0 1] [W8 es] A a w) :
  (sub Ol 0).wpIn (FW none) 0 MK (λe a' w'=>e=.normal/\NB At X (nnT es ((i+1:Nat):Int)) [.bY fl 0 1] [W8 es] (jZ (A,(i:Int)) x).1 a' w') a w:=by
 have hi:=(MR.1 hx).1
 have IN:=TG By.row hi
 have hw:=T4 hi (by omega)
 obtain⟨u,hu⟩:∃u:Nat,x.Do=u:=⟨x.Do.toNat,by have:=TZ.1;omega⟩
 obtain⟨v,hv⟩:∃v:Nat,x.to=v:=⟨x.to.toNat,by have:=TZ.2.2.1;omega⟩
 have hul:u<A.length:=by have:=TZ.2.1;omega
 have hvl:v<A.length:=by have:=TZ.2.2.2;omega
 have Xo:sub Ol 0=.seq (cL (sub Ol 0)) (.seq (cL (cR (sub Ol 0))) (.seq (.block 1 (.seq (cL (cB (cL (cR (cR (sub Ol 0)))))) (.seq (cL (cR (cB (cL (cR (cR (sub Ol 0))))))) (cR (cR (cB (cL (cR (cR (sub Ol 0))))))))))
  (cR (cR (cR (sub Ol 0)))))):=by kernel_rfl
 rw[Xo]
 refine wpIn_seq (wpIn_mono (SP (e:=.normal) (pre':=[.bY fl 0 1]) (more':=[W8 es]) (t':=nnC es i (Zd ((i:Int)<((es.map By.row).length:Int)))) (by simp) (λys _=>nn3 (es:=es) (fl:=fl) (R:=bL ys) (i:=i)) hn) ?_)
 rintro e a1 w1 ⟨rfl,n1⟩
 refine wpIn_seq (wpIn_mono (SP (e:=.normal) (pre':=[.bY fl 0 1]) (more':=[W8 es]) (t':=nnT es i) (by simp) (λys _=>nnc1 (es:=es) (fl:=fl) (R:=bL ys) (i:=i) (b:=Zd ((i:Int)<((es.map By.row).length:Int))) IN) n1) ?_)
 rintro e a2 w2 ⟨rfl,n2⟩
 refine wpIn_seq (wpIn_block ?_)
 refine wpIn_seq (wpIn_mono (SP (e:=.normal) (pre':=[.bY fl 0 1]) (more':=[W8 es,.var [aT x.Do,aT x.to,aT x.most]]) (t':=nnU es i) (by simp) (λys _=>nn4 (es:=es) (fl:=fl) (R:=bL ys) (i:=i) (x:=x) (rowAt hx rfl)) n2) ?_)
 rintro e a3 w3 ⟨rfl,n3⟩
 rw[hu,hv] at n3
 have hAu:A[u]? = some (A.getD u []):=CK hul
 have hBu:(A.getD u []).length<=1000000:=by have:=hA u _ hAu;omega
 refine wpIn_seq (wpIn_mono (NB.focus (t':=nnU es i) (u:=u) (B:=A.getD u []) (B':=A.getD u []++[MM.wrap (2*(i:Int))]) hAu (by simp[Y6]) rfl rfl (λys hy=>?_) n3) ?_)
 ·have:=nn5 (es:=es) (fl:=fl) (R:=(bL ys).set u [.ref (.bY 4 0)]) (B:=A.getD u []) (u:=u) (i:=i) (to:=(v:Int)) (most:=x.most) (yn (by omega)) hBu (Y6 5) ym
  rw[Sn] at this
  exact this
 rintro e a4 w4 ⟨rfl,n4⟩
 have hvl2:v<(A.set u (A.getD u []++[MM.wrap (2*(i:Int))])).length:=by simpa using hvl
 have hAv:(A.set u (A.getD u []++[MM.wrap (2*(i:Int))]))[v]? = some ((A.set u (A.getD u []++[MM.wrap (2*(i:Int))])).getD v []):=CK hvl2
 have hBv:((A.set u (A.getD u []++[MM.wrap (2*(i:Int))])).getD v []).length<=1000000:=by have:=(hA.set u (MM.wrap (2*(i:Int)))) v _ hAv;omega
 refine wpIn_mono (NB.focus (t':=nnU es i) (u:=v) (B:=(A.set u (A.getD u []++[MM.wrap (2*(i:Int))])).getD v []) (B':=(A.set u (A.getD u []++[MM.wrap (2*(i:Int))])).getD v []++[MM.wrap (MM.wrap (2*(i:Int))+1)]) hAv (by simp[Y6]) rfl rfl (λys hy=>?_) n4) ?_
 ·have:=nn6 (es:=es) (fl:=fl) (R:=(bL ys).set v [.ref (.bY 4 0)]) (B:=(A.set u (A.getD u []++[MM.wrap (2*(i:Int))])).getD v []) (u:=v) (i:=i) (Do:=(u:Int)) (most:=x.most) (yn (by grind)) hBv (Y6 5) ym
  rw[Sn] at this
  exact this
 rintro e a5 w5 ⟨rfl,n5⟩
 have n5':NB At X (nnU es i) [.bY fl 0 1] [W8 es,.var [aT x.Do,aT x.to,aT x.most]] (jZ (A,(i:Int)) x).1 a5 w5:=by
  unfold jZ
  simp only[hu,hv,Oc]
  exact n5
 refine wpIn_mono (SP (e:=.normal) (pre':=[.bY fl 0 1]) (more':=[W8 es,.var [aT x.Do,aT x.to,aT x.most]]) (t':=nnT es ((i+1:Nat):Int)) (by simp) (λys _=>nn7 (es:=es) (fl:=fl) (R:=bL ys) (i:=i) (x:=x) hw) n5') ?_
 rintro e a6 w6 ⟨rfl,n6⟩
 exact⟨rfl,NB.trimTo (m1:=[W8 es]) (m2:=[.var [aT x.Do,aT x.to,aT x.most]]) n6 rfl (by simp[Y6]) rfl⟩
end
theorem CL:∀(l:List By) (s:List (List Int)×Int),(l.foldl jZ s).2=s.2+l.length
 | [],s=>by simp
 | x::l,s=>by rw[NI,CL l];simp[jZ];omega
theorem wE:∀(l:List By) (s:List (List Int)×Int),(l.foldl jZ s).1.length=s.1.length
 | [],s=>rfl
 | x::l,s=>by rw[NI,wE l,F4]
theorem wF:∀(l:List By) (s:List (List Int)×Int) (k:Nat),Lim s.1 k->Lim (l.foldl jZ s).1 (k+2*l.length)
 | [],s,k,h=>h
 | x::l,s,k,h=>by
  have:=wF l (jZ s x) (k+2) (F5 h)
  grind
abbrev XU(es:List By):List (List D):=MU (MP ((es.map By.row).length:Int)) [aT 0]
abbrev adjV(A:List (List Int)):List (List D):=A.map λB=>[.p (.sl (lR B))]
theorem CM{es:List By}(k:Nat):MZ k (.bY (XU es) 0 1)=true:=by
 simp only[MZ,Ns]
 intro r hr
 rw[(List.mem_replicate.1 hr).2];rfl
theorem nn_cw{n:Nat}{es:List By}(hes:es.length<=65536)(TZ:∀x∈es,dQ n x):
  CW MK At [] false (.loop (sub Ol 0)) {t:=nnT es 0,h:=[.bY (XU es) 0 1,.bY (MU (MP (n:Int)) [.p (.v (.slice none 0 0))]) 0 1,W8 es],m:=[]} (.exit 0)
   {t:=DO 64 0 [(5,.ref (.ptr 2 0))],h:=[.bY (XU es) 0 1,.bY (adjV (iP n es)) 0 1,W8 es],m:=[]}:=by
 intro X r hX hr a w hs
 obtain rfl:=hr rfl
 have Vq:St At X {t:=nnT es 0,h:=hB [.bY (XU es) 0 1] (bL (MU n (.slice none 0 0))) [W8 es],m:=[]} a w:=by
  have e:bL (MU n (.slice none 0 0))=MU (MP (n:Int)) [.p (.v (.slice none 0 0))]:=by simp
  rw[e];exact hs
 have n0:=NB.enter hX Vq
 refine pX (λ(i:Nat) a w=>i<=es.length/\NB At X (nnT es i) [.bY (XU es) 0 1] [W8 es] ((es.take i).foldl jZ (MU n [],0)).1 a w) (λi=>es.length-i) 0 ⟨Nat.zero_le _,n0⟩ ?_
 rintro i a w ⟨hi,hn⟩
 have hl:((es.take i).foldl jZ (MU n [],0)).1.length=n:=by rw[wE];simp
 have hlim:Lim ((es.take i).foldl jZ (MU n [],0)).1 (2*i):=by
  have h0:Lim (MU n ([]:List Int)) 0:=by
   intro j B hj
   rw[List.getElem?_replicate] at hj
   split at hj<;>simp at hj
   subst hj;simp
  have:=wF (es.take i) (MU n [],0) 0 h0
  simpa[Nat.min_eq_left hi] using this
 by_cases IN:i<es.length
 ·have hx:es[i]? = some es[i]:=List.getElem?_eq_getElem IN
  refine wpIn_mono (F6 CM hes hx (by grind) hlim hn) ?_
  rintro e a' w' ⟨rfl,n1⟩
  refine .inl ⟨rfl,i+1,⟨by omega,?_⟩,by omega⟩
  have e2:((es.take (i+1)).foldl jZ (MU n [],0)).1=(jZ (((es.take i).foldl jZ (MU n [],0)).1,(i:Int)) es[i]).1:=by
   rw[List.take_add_one,hx,Option.toList_some,List.foldl_append,NI,List.foldl_nil]
   congr 2
   have:=CL (es.take i) (MU n [],0)
   rw[List.length_take,Nat.min_eq_left hi] at this
   rw[<-Prod.eta ((es.take i).foldl jZ (MU n [],0)),this]
   simp
  grind
 ·have hi2:i=es.length:=by omega
  subst hi2
  have Xo:sub Ol 0=.seq (cL (sub Ol 0)) (.seq (cL (cR (sub Ol 0))) (cR (cR (sub Ol 0)))):=by kernel_rfl
  rw[Xo]
  refine wpIn_seq (wpIn_mono (SP (e:=.normal) (pre':=[.bY (XU es) 0 1]) (more':=[W8 es]) (t':=nnC es (es.length:Int) (Zd ((es.length:Int)<((es.map By.row).length:Int)))) (by simp) (λys _=>nn3 (es:=es) (fl:=XU es) (R:=bL ys) (i:=es.length)) hn) ?_)
  rintro e a1 w1 ⟨rfl,n1⟩
  refine wpIn_seq (wpIn_mono (SP (e:=.exit 0) (pre':=[.bY (XU es) 0 1]) (more':=[W8 es]) (t':=DO 64 0 [(5,.ref (.ptr 2 0))]) (by simp) (λys _=>nnc0 (es:=es) (fl:=XU es) (R:=bL ys) (i:=es.length) (b:=Zd ((es.length:Int)<((es.map By.row).length:Int))) (be By.row es)) n1) ?_)
  rintro e a2 w2 ⟨rfl,n2⟩
  have n3:=NB.leave hX n2
  rw[List.take_length] at n3
  exact .inr ⟨by simp,by simp,by simp,_,⟨rfl,rfl⟩,n3⟩
abbrev io(A:List (List Int)):List (List Dp):=A.map λB=>[.sl (lR B)]
theorem CN(f:Ref->D)(es:List By):(XU es).map (Nm f)=XU es:=by
 simp only[XU,List.map_replicate];rfl
theorem K2{m:Nat}{r:List D}{k:Nat}(h:NS k r=true):(MU m r).all (NS k)=true:=by
 grind
theorem nn_ev{n:Nat}{es:List By}(hn:n<=10000)(hes:es.length<=65536)(TZ:∀x∈es,dQ n x):(Ev MK At 190 [aT (n:Int),ab (es.map By.row)] [] (.ref (.ptr 2 0)) [.bY (XU es) 0 1,.T1,.var [ab (es.map By.row),.ref (.bY 0 0),ab (io (iP n es))]]):=by
 have Tv:=(@nn_cw (n) (es) (hes) (TZ))
 let v0:=ML lit (RS (Value.int MM 0)).toList
 let v1:=MO (ML By.row es)
 let v2:=ML lit (RS (Value.slice none 0 0)).toList
 refine Na (yF (h':=[.bY (XU es) 0 1,.T1,.var [ab (ML By.row es),.ref (.bY 0 0),ab (io (iP n es))]]) (d:=.ref (.ptr 2 0)) [((by subst v0 v1 v2;grind):(Zd (0<=(↑v1:Int))&&Zd ((↑v1:Int)<=(↑v1:Int))&&Zd ((↑v1:Int)*(↑8:Int)<=281474976710656)&&Zd ((↑v1:Int)<=281474976710656))=true),((by subst v0 v1 v2;grind):(Zd (0<=(↑n:Int))&&Zd ((↑n:Int)<=(↑n:Int))&&Zd ((↑n:Int)*(↑24:Int)<=281474976710656)&&Zd ((↑n:Int)<=281474976710656))=true),(?_:NH (MU (MP (↑v1:Int)) v0) (NS 0)=true),(?_:NH (MU (MP (↑v1:Int)) v0) (NS 1)=true),(?_:NH (MU (MP (↑v1:Int)) v0) (NS 1)=true),(?_:NH (MU (MP (↑v1:Int)) v0) (NS 2)=true),(?_:NH (MU (MP (↑n:Int)) v2) (NS 2)=true),(?_:NH (MU (MP (↑v1:Int)) v0) (NS 2)=true),(?_:NH (MU (MP (↑v1:Int)) v0) (NS 3)=true),(?_:NH (MU (MP (↑n:Int)) v2) (NS 3)=true),(?_:NH (MU (MP (↑v1:Int)) v0) (NS 3)=true),(?_:NH (MU (MP (↑n:Int)) v2) (NS 0)=true),(?_:NH (MU (MP (↑v1:Int)) v0) (NS 1)=true),(?_:NH (MU (MP (↑n:Int)) v2) (NS 1)=true),(?_:NH (MU (MP (↑v1:Int)) v0) (NS 2)=true),(?_:NH (MU (MP (↑n:Int)) v2) (NS 2)=true),(?_:NH (MU (MP (↑n:Int)) v2) (NS 2)=true),(?_:NH (MU (MP (↑v1:Int)) v0) (NS 3)=true),(?_:NH (MU (MP (↑n:Int)) v2) (NS 3)=true),(?_:NH (MU (MP (↑n:Int)) v2) (NS 3)=true),.n 1,.a1 .lateO,.s [5,16,17,18] Tv,((by subst v0 v1 v2;simp_all):adjV (iP n es)=ML (λx=>ML D.p x) (io (iP n es))),(?_:ML (Nm (ed 1 0 (io (iP n es)))) (XU es)=XU es),.o (.Vw 1 (io (iP n es)))]) (by rfl) (by rfl)<;>subst v0 v1 v2<;>(first|exact CN _ _|exact CM _|exact K2 rfl)
abbrev Wp(es:List By)(A:List (List Dp))(fs:List Int):List iN:=[.bY (al fs) 0 1,.T1,.var [ab (es.map By.row),.ref (.bY 0 0),ab A]]
theorem F7{l:List Int}{i:Nat}{a:Int}(ha:l[i]? = some a):IA MK 3 (al l) 0 0 i 0 (aT a):=by
 have e1:(al l)[i]? = some [aT a]:=by simp[al,ha]
 unfold IA
 simp[e1]
 rfl
theorem yp{l:List Int}{rest:List iN}{i:Nat}{a:Int}(hi:i<l.length):aN MK (.bY (al l) 0 1::rest) 3 (.ref (.vp 0 0 i 0)) (aT a)=some (.bY (al (l.set i a)) 0 1::rest):=by
 have e1:(al l)[i]? = some [aT l[i]]:=by simp[al,hi]
 unfold aN
 simp only[List.getElem?_cons_zero,e1,if_true]
 simp[al,List.map_set,List.set_cons_zero]
 rfl
theorem yq{l:List Int}{z:Int}{i:Nat}(hz:z=i)(hi:i<l.length):TU z (al l).length=true:=by
 grind [TU,al]
def eH(r:Int)(x:By)(f:Int):Int:=match P0 r 2==0 with
 | true=>MM.wrap (x.most-f)
 | false=>f
def uS(r:Int)(x:By):Int:=match P0 r 2==0 with
 | true=>x.to
 | false=>x.Do
theorem cap_a{es:List By}{A:List (List Dp)}{fs:List Int}{r f:Int}{x:By}{q:Nat}(hq:MM.wrap (Nn r 2)=(q:Int))(hx:ap (MM.wrap (Nn r 2)) (es.map By.row) x.row 3)(hf:fs[MP (MM.wrap (Nn r 2))]? = some f)(hl:q<fs.length):(Ev MK At 195 [.ref (.ptr 2 0),aT r] (Wp es A fs) (aT (eH r x f)) (Wp es A fs)):=by
 cases Of:P0 r 2==0
 ·let v0:List iN:=[.bY (al fs) 0 1,.T1,.var [ab (ML By.row es),.ref (.bY 0 0),ab A]]
  refine Na (yF (h':=v0) (d:=aT f) [(rfl:(!Zd (2=0))=true),.b Of,(rfl:(!Zd (2=0))=true),(?_:TU (MN MM (Nn r 2)) (MO (al fs))=true),(?_:@Eq (Option D) (aI MK v0 3 (.ref (.vp 0 0 (MP (MN MM (Nn r 2))) 0))) (some (aT f))),.a1 (.ov 33 (aT f))]) (by subst v0;simp[eH,Of];done) (by subst v0;grind)<;>subst v0<;>(first|exact F7 hf|exact yq hq hl)
 ·let v0:List iN:=[.bY (al fs) 0 1,.T1,.var [ab (ML By.row es),.ref (.bY 0 0),ab A]]
  refine Na (yF (h':=v0) (d:=aT (MN MM (x.most-f))) [.b (rfl:(!Zd (2=0))=true),Of,(rfl:(!Zd (2=0))=true),.r hx,(rfl:(!Zd (2=0))=true),(?_:TU (MN MM (Nn r 2)) (MO (al fs))=true),(?_:@Eq (Option D) (aI MK v0 3 (.ref (.vp 0 0 (MP (MN MM (Nn r 2))) 0))) (some (aT f))),.a1 (.ov 24 (aT f))]) (by subst v0;simp[eH,Of];done) (by subst v0;grind)<;>subst v0<;>(first|exact F7 hf|exact yq hq hl)
theorem end_a{es:List By}{A:List (List Dp)}{fs:List Int}{r:Int}{x:By}(hx:ap (MM.wrap (Nn r 2)) (es.map By.row) x.row 3):(Ev MK At 193 [.ref (.ptr 2 0),aT r] (Wp es A fs) (aT (uS r x)) (Wp es A fs)):=by
 cases Of:P0 r 2==0
 ·exact Na (yF (h':=[.bY (al fs) 0 1,.T1,.var [ab (ML By.row es),.ref (.bY 0 0),ab A]]) (d:=aT x.Do) [(rfl:(!Zd (2=0))=true),.b Of,(rfl:(!Zd (2=0))=true),.r hx]) (by simp[uS,Of];done) (by grind)
 ·exact Na (yF (h':=[.bY (al fs) 0 1,.T1,.var [ab (ML By.row es),.ref (.bY 0 0),ab A]]) (d:=aT x.to) [.b (rfl:(!Zd (2=0))=true),Of,(rfl:(!Zd (2=0))=true),.r hx]) (by simp[uS,Of];done) (by grind)
def jR(r by':Int):Int:=match P0 r 2==1 with
 | true=>MM.wrap (0-by')
 | false=>by'
theorem push_a{es:List By}{A:List (List Dp)}{fs:List Int}{r f d:Int}{q:Nat}(hq:MM.wrap (Nn r 2)=(q:Int))(hf:fs[MP (MM.wrap (Nn r 2))]? = some f)(hl:q<fs.length)(YW:MP (MM.wrap (Nn r 2))<fs.length):(Ev MK At 197 [.ref (.ptr 2 0),aT r,aT d] (Wp es A fs) (.Tt []) (Wp es A (fs.set (MP (MM.wrap (Nn r 2))) (MM.wrap (f+jR r d))))):=by
 cases Of:P0 r 2==1
 ·let v0:=Oe fs (MP (MN MM (Nn r 2))) (MN MM (f+jR r d))
  let v1:List D:=[ab (ML By.row es),.ref (.bY 0 0),ab A]
  refine Na (yF (h':=[.bY (al v0) 0 1,.T1,.var v1]) (d:=Nt []) [(rfl:(!Zd (2=0))=true),.b Of,(rfl:(!Zd (2=0))=true),(?_:TU (MN MM (Nn r 2)) (MO (al fs))=true),(?_:@Eq (Option D) (aI MK [.bY (al fs) 0 1,.T1,.var v1] 3 (.ref (.vp 0 0 (MP (MN MM (Nn r 2))) 0))) (some (aT f))),(?_:TU (MN MM (Nn r 2)) (MO (al fs))=true),((by subst v0 v1;(simp[jR,Of];exact yp YW)):@Eq (Option (List iN)) (aN MK [.bY (al fs) 0 1,.T1,.var v1] 3 (.ref (.vp 0 0 (MP (MN MM (Nn r 2))) 0)) (aT (MN MM (f+d)))) (some [.bY (al v0) 0 1,.T1,.var v1])),.a1 (.ov 18 (aT f)),.a1 (.oh 10021 D.any (Wp es A v0))]) (by subst v0 v1;grind) (by subst v0 v1;grind)<;>subst v0 v1<;>(first|exact F7 hf|exact yq hq hl)
 ·let v0:=Oe fs (MP (MN MM (Nn r 2))) (MN MM (f+jR r d))
  let v1:List D:=[ab (ML By.row es),.ref (.bY 0 0),ab A]
  refine Na (yF (h':=[.bY (al v0) 0 1,.T1,.var v1]) (d:=Nt []) [.b (rfl:(!Zd (2=0))=true),Of,(rfl:(!Zd (2=0))=true),(?_:TU (MN MM (Nn r 2)) (MO (al fs))=true),(?_:@Eq (Option D) (aI MK [.bY (al fs) 0 1,.T1,.var v1] 3 (.ref (.vp 0 0 (MP (MN MM (Nn r 2))) 0))) (some (aT f))),(?_:TU (MN MM (Nn r 2)) (MO (al fs))=true),(?_:@Eq (Option (List iN)) (aN MK [.bY (al fs) 0 1,.T1,.var v1] 3 (.ref (.vp 0 0 (MP (MN MM (Nn r 2))) 0)) (aT (MN MM (f+MN MM (0-d))))) (some [.bY (al v0) 0 1,.T1,.var v1])),.a1 (.ov 18 (aT f)),.a1 (.oh 10021 D.any (Wp es A v0))]) (by subst v0 v1;grind) (by subst v0 v1;grind)<;>subst v0 v1<;>(first|exact F7 hf|exact yq hq hl|(simp only[jR,Of];exact yp YW))
def F8(n:Int):Int:=(Nd.wrap
     (Nd.wrap
       (Nd.wrap (PI 1 (2 ^ min (MP 32) 64)*n.fdiv (2 ^ min (MP 32) 64)) +
        (Nd.wrap
           (Nd.wrap
             (PI 1 (2 ^ min (MP 32) 64) *
              Nd.wrap ↑(Nf 64 n &&& Nf 64 4294967295).toNat) +
            (Nd.wrap
               (Nd.wrap ↑(Nf 64 1 &&& Nf 64 4294967295).toNat *
                Nd.wrap ↑(Nf 64 n &&& Nf 64 4294967295).toNat)).fdiv
             (2 ^ min (MP 32) 64))).fdiv
         (2 ^ min (MP 32) 64)) +
      (Nd.wrap
         (Nd.wrap
           ↑(Nf 64
               (Nd.wrap
                (Nd.wrap
                  (PI 1 (2 ^ min (MP 32) 64) *
                   Nd.wrap ↑(Nf 64 n &&& Nf 64 4294967295).toNat) +
                 (Nd.wrap
                    (Nd.wrap ↑(Nf 64 1 &&& Nf 64 4294967295).toNat *
                     Nd.wrap
                      ↑(Nf 64 n &&& Nf 64 4294967295).toNat)).fdiv
                  (2 ^ min (MP 32) 64))) &&&
              Nf 64 4294967295).toNat +
          Nd.wrap
           (Nd.wrap ↑(Nf 64 1 &&& Nf 64 4294967295).toNat *
            n.fdiv (2 ^ min (MP 32) 64)))).fdiv
       (2 ^ min (MP 32) 64)))
theorem K3:∀n:Nat,n<4097->F8 (n:Int)=0:=by
 have h:(List.range 4097).all (λn=>F8 (n:Int)==0)=true:=by kernel_rfl
 grind
theorem K4{n:Int}(h0:F8 n=0)(h1:Nd.wrap (1*n)=n)(h:List iN):(Ev MK At 329 [u64 1,u64 n] h (.Tt [u64 0,u64 n]) h):=by
 exact yD (Nt [u64 (MN Nd (MN Nd (MN Nd (PI 1 (2 ^ min (MP 32) 64)*PI n (2 ^ min (MP 32) 64))+PI (MN Nd (MN Nd (PI 1 (2 ^ min (MP 32) 64)*MN Nd (↑(OB (Nf 64 n &&& Nf 64 4294967295)):Int))+PI (MN Nd (MN Nd (↑(OB (Nf 64 1 &&& Nf 64 4294967295)):Int)*MN Nd (↑(OB (Nf 64 n &&& Nf 64 4294967295)):Int))) (2 ^ min (MP 32) 64))) (2 ^ min (MP 32) 64))+PI (MN Nd (MN Nd (↑(OB (Nf 64 (MN Nd (MN Nd (PI 1 (2 ^ min (MP 32) 64)*MN Nd (↑(OB (Nf 64 n &&& Nf 64 4294967295)):Int))+PI (MN Nd (MN Nd (↑(OB (Nf 64 1 &&& Nf 64 4294967295)):Int)*MN Nd (↑(OB (Nf 64 n &&& Nf 64 4294967295)):Int))) (2 ^ min (MP 32) 64))) &&& Nf 64 4294967295)):Int)+MN Nd (MN Nd (↑(OB (Nf 64 1 &&& Nf 64 4294967295)):Int)*PI n (2 ^ min (MP 32) 64)))) (2 ^ min (MP 32) 64))),u64 (MN Nd (1*n))]) [(rfl:Zd (0<=32)=true),(rfl:Zd (0<=32)=true),(rfl:Zd (0<=32)=true),(rfl:Zd (0<=32)=true),(rfl:Zd (0<=32)=true)] h (by(unfold F8 at h0;rw[h0,h1]))
theorem mul_ev{n:Nat}(hn:n<4097)(hm:∀h,Ev MK At 329 [u64 1,u64 (n:Int)] h (.Tt [u64 0,u64 (n:Int)]) h)(h:List iN):(Ev MK At 312 [u64 1,u64 (n:Int)] h (.Tt [u64 0,u64 (n:Int)]) h):=by
 exact y0 [.e,.v (@hm ([]))] h
abbrev UO(n m:Nat):List (List D):=al (MU m (-1)++MU (n-m) 0)
theorem si{n m:Nat}(h:m<=n):(UO n m).length=n:=by
 unfold UO
 grind [dD]
abbrev Υ(n m:Nat):List iN:=[.bY [[aT (-1)]] 0 1,.bY (UO n m) 0 1]
abbrev rpS(n m:Nat):AS:={t:=DO 48 0 [(7,.ref (.bY 1 0)),(8,aT (m:Int))],h:=Υ n m,m:=[]}
theorem hs2x{m L:Nat}{b:Bool}{p q:Prop}{_:Decidable p}{_:Decidable q}(h0:0<m)(h1:m<L):some (oO 0 (m:Int) L&&true&&(true||b)&&true,if (0:Int)=0/\(m:Int)=(L:Int)/\p then PM (.bY 1 0) else if (m:Int)=0/\¬((m:Int)=(L:Int)/\q) then cq (bM (m:Int) none) [] else .ref (.vs 1 0 (MP 0) ((m:Int).toNat-MP 0) (i7 none 0 (m:Int) none)))=some (true,PM (.vs 1 0 0 m none)):=by
 have e1:¬((m:Int)=(L:Int)):=by omega
 have e2:¬((m:Int)=0):=by omega
 have e3:oO 0 (m:Int) L=true:=by simp[oO];omega
 simp only[e1,e2,e3,false_and,and_false,if_false,Bool.true_or,Bool.and_true,Oc,Int.toNat_zero,Nat.sub_zero]
 rfl
theorem K5{n m k:Nat}{H:List iN}(Xq:m+k<=n)(IN:Zd ((m:Int)<((UO n m).length:Int))=true)(hw:MM.wrap ((m:Int)+(k:Int))=((m+k:Nat):Int))
  (hs1:∀g V,g[1]? = some (.bY V 0 1)->V.length=n->dG MK g 32 (.ref (.bY 1 0)) (some (aT (m:Int))) none none=some (true,PM (.vs 1 0 m (n-m) none)))
  (Xy:0<m) (hmL:m<(UO n m).length) (hmK:m<(UO n (m+k)).length)
  (hcp:TF MK (Υ n m) .copy [32,32] [.ref (.vs 1 0 m (n-m) none),.ref (.vs 1 0 0 m none)]=some (true,aT (k:Int),Υ n (m+k))):(CW MK At H false (sub Si 0) (rpS n m) .normal (rpS n (m+k))):=by
 let v0:=O0 m (Od 0 (UO n m))
 refine yX {t:=DO 48 0 [(7,.ref (.bY 1 0)),(8,aT (MN MM ((↑m:Int)+(↑k:Int))))],h:=[.bY [[aT (-1)]] 0 1,.bY (UO n (m+k)) 0 1],m:=[]} M8 [.st (.mask [7,8])] [.b IN,(?_:@Eq (Option (Bool×D)) (some (oO (↑m:Int) (↑(MO (UO n m)):Int) (MO (UO n m))&&true&&(true||false)&&true,if (↑m:Int)=0/\(↑(MO (UO n m)):Int)=(↑(MO (UO n m)):Int)/\(none:Option Int)=none then .ref (.bY 1 0) else if (↑(MO (UO n m)):Int)=(↑m:Int)/\¬((↑(MO (UO n m)):Int)=(↑(MO (UO n m)):Int)/\(none:Option Int)=none) then cq (bM (↑(MO (UO n m)):Int) none) [] else .ref (.vs 1 0 (MP (↑m:Int)) (MP (↑(MO (UO n m)):Int)-MP (↑m:Int)) (i7 none (↑m:Int) (↑(MO (UO n m)):Int) none)))) (some (true,PM (.vs 1 0 m (n-m) none)))),(?_:@Eq (Option (Bool×D)) (some (oO 0 (↑m:Int) (MO (UO n m))&&true&&(true||true)&&true,if (0:Int)=0/\(↑m:Int)=(↑(MO (UO n m)):Int)/\(none:Option Int)=none then .ref (.bY 1 0) else if (↑m:Int)=0/\¬((↑m:Int)=(↑(MO (UO n m)):Int)/\(none:Option Int)=none) then cq (bM (↑m:Int) none) [] else .ref (.vs 1 0 (MP 0) (MP (↑m:Int)-MP 0) (i7 none 0 (↑m:Int) none)))) (some (true,PM (.vs 1 0 0 m none)))),((by subst v0;assumption):@Eq (Option (Bool×D×List iN)) (some (NH v0 (bf 1),aT (↑(min (MO v0) (n-m)):Int),if min (MO v0) (n-m)=0 then [.bY [[aT (-1)]] 0 1,.bY (UO n m) 0 1] else Oe [.bY [[aT (-1)]] 0 1,.bY (UO n m) 0 1] 1 (.bY (O0 m (UO n m)++(O0 (min (MO v0) (n-m)) v0++Od (m+min (MO v0) (n-m)) (UO n m))) 0 1))) (some (true,aT (↑k:Int),[.bY [[aT (-1)]] 0 1,.bY (UO n (m+k)) 0 1]))),(?_:@Eq (Option (Bool×D)) (some (oO (↑m:Int) (↑(MO (UO n m)):Int) (MO (UO n m))&&true&&(true||false)&&true,if (↑m:Int)=0/\(↑(MO (UO n m)):Int)=(↑(MO (UO n m)):Int)/\(none:Option Int)=none then .ref (.bY 1 0) else if (↑(MO (UO n m)):Int)=(↑m:Int)/\¬((↑(MO (UO n m)):Int)=(↑(MO (UO n m)):Int)/\(none:Option Int)=none) then cq (bM (↑(MO (UO n m)):Int) none) [] else .ref (.vs 1 0 (MP (↑m:Int)) (MP (↑(MO (UO n m)):Int)-MP (↑m:Int)) (i7 none (↑m:Int) (↑(MO (UO n m)):Int) none)))) (some (true,PM (.vs 1 0 m (n-m) none)))),(?_:@Eq (Option (Bool×D)) (some (oO 0 (↑m:Int) (MO (UO n m))&&true&&(true||true)&&true,if (0:Int)=0/\(↑m:Int)=(↑(MO (UO n m)):Int)/\(none:Option Int)=none then .ref (.bY 1 0) else if (↑m:Int)=0/\¬((↑m:Int)=(↑(MO (UO n m)):Int)/\(none:Option Int)=none) then cq (bM (↑m:Int) none) [] else .ref (.vs 1 0 (MP 0) (MP (↑m:Int)-MP 0) (i7 none 0 (↑m:Int) none)))) (some (true,PM (.vs 1 0 0 m none)))),.a1 (.ov 41 (.ref (.vs 1 0 m (n-m) none))),.a1 (.ov 44 (.ref (.vs 1 0 0 m none))),.a1 (.oh 45 (aT (↑k:Int)) (Υ n (m+k)))] (by subst v0;grind) (by subst v0;grind)<;>subst v0<;>(first|exact hs1 (Υ n m) _ rfl (si (by omega))|exact hs2x Xy hmL)
theorem K6{n m:Nat}{H:List iN}(IN:Zd ((m:Int)<((UO n m).length:Int))=false):(CW MK At H false (sub Si 0) (rpS n m) (.exit 0) {t:=DO 48 0 [(7,.ref (.bY 1 0))],h:=Υ n m,m:=[]}):=by
 exact yx [.st (.mask [7])] [.b IN]
theorem rp_a{n:Nat}{V0 V1 Vn:List (List D)}(hn:Zd ((n:Int)<0)=false)(hb:(Zd ((0:Int)>0)||Zd ((n:Int)>9223372036854775807))=false)
  (hm:∀h,Ev MK At 312 [u64 (Nd.wrap 1),u64 (Nd.wrap (n:Int))] h (.Tt [u64 0,u64 (n:Int)]) h)
  (Xq:qL MK [.bY [[aT (-1)]] 0 1] 32 (aT (MM.wrap (n:Int))) (aT (MM.wrap (n:Int)))=some (true,PM (.bY 1 0),[.bY [[aT (-1)]] 0 1,.bY V0 0 1]))
  (hcp:TF MK [.bY [[aT (-1)]] 0 1,.bY V0 0 1] .copy [32,32] [.ref (.bY 1 0),.ref (.bY 0 0)]=some (true,aT 1,[.bY [[aT (-1)]] 0 1,.bY V1 0 1]))
  (hl:CW MK At [.bY [[aT (-1)]] 0 1] false (.loop (sub Si 0)) {t:=DO 48 0 [(7,.ref (.bY 1 0)),(8,aT 1)],h:=[.bY [[aT (-1)]] 0 1,.bY V1 0 1],m:=[]} (.exit 0) {t:=DO 48 0 [(7,.ref (.bY 1 0))],h:=[.bY [[aT (-1)]] 0 1,.bY Vn 0 1],m:=[]}):(Ev MK At 271 [.ref (.bY 0 0),aT (n:Int)] [.bY [[aT (-1)]] 0 1] (.ref (.bY 1 0)) [.bY [[aT (-1)]] 0 1,.bY Vn 0 1]):=by
 have Tv:=(@hl)
 let v0:List iN:=[.bY [[aT (-1)]] 0 1,.bY V0 0 1]
 let v1:=MO [[aT (-1)]]
 refine Na (yF (h':=[.bY [[aT (-1)]] 0 1,.bY Vn 0 1]) (d:=.ref (.bY 1 0)) [.b hn,.v (@hm ([.bY [[aT (-1)]] 0 1])),.b hb,(?_:@Eq (Option (Bool×D×List iN)) (some (Zd (0<=MN MM (↑n:Int))&&Zd (MN MM (↑n:Int)<=MN MM (↑n:Int))&&Zd (MN MM (↑n:Int)*(↑8:Int)<=281474976710656)&&Zd (MN MM (↑n:Int)<=281474976710656),.ref (.bY 1 0),[.bY [[aT (-1)]] 0 1,.bY (MU (MP (MN MM (↑n:Int))) (ML lit (RS (Value.int MM 0)).toList)) 0 1])) (some (true,PM (.bY 1 0),v0))),(?_:@Eq (Option (Bool×D×List iN)) (some (NH [[aT (-1)]] (bf 1),aT (↑(min v1 (MO V0)):Int),if min v1 (MO V0)=0 then v0 else Oe v0 1 (.bY (O0 0 V0++(O0 (min v1 (MO V0)) [[aT (-1)]]++Od (0+min v1 (MO V0)) V0)) 0 1))) (some (true,aT 1,[.bY [[aT (-1)]] 0 1,.bY V1 0 1]))),.a1 (.oh 30 (.ref (.bY 1 0)) v0),.a1 (.oh 33 (aT 1) [.bY [[aT (-1)]] 0 1,.bY V1 0 1]),.s [7,8] Tv]) (by rfl) (by rfl)<;>subst v0 v1<;>(assumption)
theorem tyI:(eX MK 32,MK.underlying 32,U2 MK 3,bytesOf MK 3,dR MK 3)=(some 3,some (.slice 3),some 1,some 8,some [aT 0]):=by kernel_rfl
theorem rp_sl{g:List iN}{V:List (List D)}{n m:Nat}(hb:g[1]? = some (.bY V 0 1))(hl:V.length=n)(h0:0<m)(hm:m<n):dG MK g 32 (.ref (.bY 1 0)) (some (aT (m:Int))) none none=some (true,.ref (.vs 1 0 m (n-m) none)):=by
 have h3:=tyI
 simp only[MV] at h3
 have h4:oO (m:Int) n n=true:=by simp[oO];omega
 have h5:¬((m:Int)=0):=by omega
 have h6:¬((n:Int)=(m:Int)):=by omega
 simp only[dG,cA,Aa,h3.2.1,h3.2.2.1,j0,hb,hl,if_true,U6,Option.map_some,TY,h4,h5,h6,fp,Oc,if_false,Bool.and_self,Option.isNone_none,Bool.true_or,and_true,false_and]
 rfl
theorem repV(n m:Nat):al (MU m (-1)++MU (n-m) 0)=MU m [aT (-1)]++MU (n-m) [aT 0]:=by simp[al]
theorem rp_cp{n m:Nat}(h0:0<m)(hm:m<n):TF MK (Υ n m) .copy [32,32] [.ref (.vs 1 0 m (n-m) none),.ref (.vs 1 0 0 m none)]=some (true,aT ((min m (n-m):Nat):Int),Υ n (m+min m (n-m))):=by
 have e0:TF MK (Υ n m) .copy [32,32] [.ref (.vs 1 0 m (n-m) none),.ref (.vs 1 0 0 m none)]=some (NH (O0 m (Od 0 (UO n m))) (bf 1),aT ((min (MO (O0 m (Od 0 (UO n m)))) (n-m):Nat):Int),if min (MO (O0 m (Od 0 (UO n m)))) (n-m)=0 then Υ n m else Oe (Υ n m) 1 (.bY (O0 m (UO n m)++(O0 (min (MO (O0 m (Od 0 (UO n m)))) (n-m)) (O0 m (Od 0 (UO n m)))++Od (m+min (MO (O0 m (Od 0 (UO n m)))) (n-m)) (UO n m))) 0 1)):=by kernel_rfl
 rw[e0,List.drop_zero]
 have e1:O0 m (UO n m)=MU m [aT (-1)]:=by
  unfold UO
  rw[repV]
  exact List.take_left' (by simp)
 have e2:min m (n-m)≠0:=by omega
 have e3:Od (m+min m (n-m)) (UO n m)=MU (n-(m+min m (n-m))) [aT 0]:=by
  unfold UO
  rw[repV,<-List.drop_drop,List.drop_left' (by simp),List.drop_replicate]
  congr 1
  omega
 have e4:(MU m [aT (-1)]).all (bf 1)=true:=by
  rw[Ns]
  intro x hx
  rw[List.eq_of_mem_replicate hx]
  rfl
 rw[e1,List.length_replicate,e3,e4,if_neg e2,List.take_replicate]
 have e5:UO n (m+min m (n-m))=MU m [aT (-1)]++(MU (min (min m (n-m)) m) [aT (-1)]++MU (n-(m+min m (n-m))) [aT 0]):=by
  unfold UO
  rw[repV,<-List.append_assoc,List.replicate_append_replicate]
  congr 2
  omega
 grind
theorem rep_a{n:Nat}(h1:2<=n)(hn:n<=4096):Ev MK At 271 [.ref (.bY 0 0),aT (n:Int)] [.bY [[aT (-1)]] 0 1] (.ref (.bY 1 0)) [.bY [[aT (-1)]] 0 1,.bY (MU n [aT (-1)]) 0 1]:=by
 have hw:MM.wrap (n:Int)=(n:Int):=wrap_i64 (by omega) (by omega)
 have Ε:Nd.wrap (1:Int)=1:=by decide
 have hw2:Nd.wrap (n:Int)=(n:Int):=by
  have e:Nd.wrap (n:Int)=(n:Int) % 18446744073709551616:=rfl
  rw[e,Int.emod_eq_of_lt (by omega) (by omega)]
 have hm (h:List iN):Ev MK At 312 [u64 (Nd.wrap 1),u64 (Nd.wrap (n:Int))] h (.Tt [u64 0,u64 (n:Int)]) h:=by
  rw[Ε,hw2]
  exact mul_ev (by omega) (λh=>K4 (K3 n (by omega)) (by grind) h) h
 have Xq:qL MK [.bY [[aT (-1)]] 0 1] 32 (aT (MM.wrap (n:Int))) (aT (MM.wrap (n:Int)))=some (true,.ref (.bY 1 0),[.bY [[aT (-1)]] 0 1,.bY (MU n [aT 0]) 0 1]):=by
  have h3:=tyI
  simp only[MV] at h3
  rw[hw]
  have e:(Zd (0<=(n:Int))&&Zd ((n:Int)<=(n:Int))&&Zd ((n:Int)*((8:Nat):Int)<=281474976710656)&&Zd ((n:Int)<=281474976710656))=true:=by simp;omega
  simp only[qL,TY,h3.1,h3.2.2.1,h3.2.2.2.1,h3.2.2.2.2,N3,List.length_nil,Nat.zero_add,if_true,e,Oc]
  rfl
 have hcp:TF MK [.bY [[aT (-1)]] 0 1,.bY (MU n [aT 0]) 0 1] .copy [32,32] [.ref (.bY 1 0),.ref (.bY 0 0)]=some (true,aT 1,[.bY [[aT (-1)]] 0 1,.bY (UO n 1) 0 1]):=by
  obtain⟨k,rfl⟩:∃k,n=k+1:=⟨n-1,by omega⟩
  have e1:UO (k+1) 1=[aT (-1)]::MU k [aT 0]:=by unfold UO;rw[repV,Nat.add_sub_cancel];rfl
  rw[e1]
  rfl
 have hl:CW MK At [.bY [[aT (-1)]] 0 1] false (.loop (sub Si 0)) (rpS n 1) (.exit 0) {t:=DO 48 0 [(7,.ref (.bY 1 0))],h:=Υ n n,m:=[]}:=by
  refine CW.loop (ι:={m:Nat // 1<=m/\m<=n}) (λm=>rpS n m.1) (λ_=>(.exit 0,{t:=DO 48 0 [(7,.ref (.bY 1 0))],h:=Υ n n,m:=[]})) (λm=>n-m.1) ?_ ⟨1,by omega,by omega⟩
  rintro⟨m,g1,g2⟩
  by_cases h:m<n
  ·refine .inl ⟨⟨m+min m (n-m),by omega,by omega⟩,by grind,rfl,?_⟩
   have hL:(UO n m).length=n:=si g2
   have hL2:(UO n (m+min m (n-m))).length=n:=si (by omega)
   exact K5 (n:=n) (m:=m) (k:=min m (n-m)) (by omega) (by grind) (by rw[wrap_i64 (by omega) (by omega)];omega) (λg V hb hl=>rp_sl hb hl (by omega) h) (by omega) (by omega) (by omega) (rp_cp (by omega) h)
  ·have:m=n:=by omega
   subst this
   refine .inr ⟨by simp,K6 ?_⟩
   have hL:(UO m m).length=m:=si (Nat.le_refl _)
   rw[hL];simp
 have h0:=rp_a (V0:=MU n [aT 0]) (V1:=UO n 1) (Vn:=UO n n) (n:=n) (by simp) (by simp;omega) hm Xq hcp hl
 have e1:UO n n=MU n [aT (-1)]:=by unfold UO;rw[repV,Nat.sub_self];simp
 grind
theorem yr{es:List By}{A:List (List Dp)}{fs:List Int}{r f:Int}{x:By}{q:Nat}(hq:MM.wrap (Nn r 2)=(q:Int))(hx:ap (MM.wrap (Nn r 2)) (es.map By.row) x.row 3)(hf:fs[MP (MM.wrap (Nn r 2))]? = some f)(hl:q<fs.length):Ev MK At 195 [.ref (.ptr 2 0),aT r] (Wp es A fs) (aT (eH r x f)) (Wp es A fs):=cap_a hq hx hf hl
theorem yu{es:List By}{A:List (List Dp)}{fs:List Int}{r:Int}{x:By}(hx:ap (MM.wrap (Nn r 2)) (es.map By.row) x.row 3):Ev MK At 193 [.ref (.ptr 2 0),aT r] (Wp es A fs) (aT (uS r x)) (Wp es A fs):=end_a hx
noncomputable abbrev usL(v:Int)(st:LoopState)(pd:Option Code):iN:=.loop st pd 0 (DO 59 0 [(0,.ref (.ptr 2 0)),(5,.ref (.ptr 3 0)),(6,.ref (.ptr 4 0)),(7,.ref (.ptr 8 0)),(8,aT v),(39,.fn (.func 313) [] [.ref (.ptr 9 0),.ref (.ptr 10 0)])]) #[40,41] (au (sub Ng 1)) (ai (sub Ng 1))
noncomputable abbrev usH(es:List By)(A:List (List Dp))(fs:List Int)(v:Int)(b3 b4 b5 b6 b7 b8:iN)(st:LoopState)(pd:Option Code):List iN:=[.bY (al fs) 0 1,.T1,.var [ab (es.map By.row),.ref (.bY 0 0),ab A],b3,b4,b5,b6,b7,b8,.var [.ref (.ptr 2 0)],.var [aT v],.Ts,usL v st pd]
noncomputable abbrev usS(es:List By)(A:List (List Dp))(fs:List Int)(v:Int)(B:List (List Dp))(b3 b4 b5 b6 b7 b8:iN)(j:Int):AS:={t:=DO 32 0 [(0,.ref (.yl 12)),(1,.ref (.ptr 9 0)),(2,.ref (.ptr 10 0)),(12,ab B),(13,aT (B.length:Int)),(14,aT j)],h:=usH es A fs v b3 b4 b5 b6 b7 b8 .ready none,m:=[]}
noncomputable abbrev sj(es:List By)(A:List (List Dp))(fs:List Int)(v:Int)(b3:iN)(b4:iN)(b5:iN)(c6:iN)(c7:iN)(c8:iN):List iN:=[.bY (al fs) 0 1,.T1,.var [ab (ML By.row es),.ref (.bY 0 0),ab A],b3,b4,b5,c6,c7,c8,.var [.ref (.ptr 2 0)],.var [aT v],.Ts,.loop Np none 0 (DO 59 0 [(0,.ref (.ptr 2 0)),(5,.ref (.ptr 3 0)),(6,.ref (.ptr 4 0)),(7,.ref (.ptr 8 0)),(8,aT v),(39,Ot (Nl 313) [] [.ref (.ptr 9 0),.ref (.ptr 10 0)])]) {toList:=[40,41]} (au (sub Ng 1)) (ai (sub Ng 1))]
theorem us_no{es:List By}{A:List (List Dp)}{fs:List Int}{v:Int}{B:List (List Dp)}{b3 b4 b5 b6 b7 b8 c6 c7 c8:iN}{j:Nat}{r f:Int}{x:By}{q:Nat}(hq:MM.wrap (Nn r 2)=(q:Int))(hx:ap (MM.wrap (Nn r 2)) (es.map By.row) x.row 3)(hf:fs[MP (MM.wrap (Nn r 2))]? = some f)(hl:q<fs.length)
  (hr:ap (j:Int) B [vi r] 1) (IN:Zd ((j:Int)<(B.length:Int))=true) (hw:MM.wrap ((j:Int)+1)=((j+1:Nat):Int)) (hc:Zd (eH r x f>0)=false):(CW MK At (usH es A fs v b3 b4 b5 b6 b7 b8 .ready none) false (sub QQ 0) (usS es A fs v B b3 b4 b5 c6 c7 c8 j) .normal (usS es A fs v B b3 b4 b5 c6 c7 c8 ((j+1:Nat):Int))):=by
 refine yX {t:=DO 32 0 [(0,.ref (.yl 12)),(1,.ref (.ptr 9 0)),(2,.ref (.ptr 10 0)),(12,ab B),(13,aT (↑(MO B):Int)),(14,aT (MN MM ((↑j:Int)+1)))],h:=(sj es A fs v b3 b4 b5 c6 c7 c8),m:=[]} M8 [.st (.mask [0,1,2,12,13,14])] [.b IN,.r hr,.v ((fX [0,1,2] (@yr es A fs r f x q hq hx hf hl) ⟨?_,trivial⟩ ⟨?_,trivial⟩):Ev MK At 195 [.ref (.ptr 2 0),aT r] (sj es A fs v b3 b4 b5 c6 c7 c8) (aT (eH r x f)) (sj es A fs v b3 b4 b5 c6 c7 c8)),.g ((by rw[hc]<;>rfl):(Zd (eH r x f>0)==true)=false),.g ((by rw[hc]<;>rfl):(Zd (eH r x f>0)==true)=false),.g ((by rw[hc]<;>rfl):(Zd (eH r x f>0)==true)=false),.g ((by rw[hc]<;>rfl):(Zd (eH r x f>0)==true)=false),.g ((by rw[hc]<;>rfl):(Zd (eH r x f>0)==true)=false),.g ((by rw[hc]<;>rfl):(Zd (eH r x f>0)==true)=false),.g ((by rw[hc]<;>rfl):(Zd (eH r x f>0)==true)=false),((bX hc rfl):aZ (iF (Zd (eH r x f>0))) (D.p (Dp.v (Value.tuple {toList:=[]}))) (iF false) (iF false)),.a1 (.ov 30 (iF false)),.e] (by grind) (by grind)<;>(exact bd _ _)
noncomputable abbrev CO(es:List By)(A:List (List Dp))(fs:List Int)(v:Int)(b3:iN)(b4:iN)(b5:iN)(d6:iN)(d7:iN)(d8:iN):List iN:=[.bY (al fs) 0 1,.T1,.var [ab (ML By.row es),.ref (.bY 0 0),ab A],b3,b4,b5,d6,d7,d8,.var [.ref (.ptr 2 0)],.var [aT v],.Ts,.loop Np none 0 (DO 59 0 [(0,.ref (.ptr 2 0)),(5,.ref (.ptr 3 0)),(6,.ref (.ptr 4 0)),(7,.ref (.ptr 8 0)),(8,aT v),(39,Ot (Nl 313) [] [.ref (.ptr 9 0),.ref (.ptr 10 0)])]) {toList:=[40,41]} (au (sub Ng 1)) (ai (sub Ng 1))]
noncomputable abbrev jS(es:List By)(A:List (List Dp))(fs:List Int)(v:Int)(b3:iN)(b4:iN)(b5:iN)(c6:iN)(c7:iN)(c8:iN):List iN:=[.bY (al fs) 0 1,.T1,.var [ab (ML By.row es),.ref (.bY 0 0),ab A],b3,b4,b5,c6,c7,c8,.var [.ref (.ptr 2 0)],.var [aT v],.Ts,.loop Np none 0 (DO 59 0 [(0,.ref (.ptr 2 0)),(5,.ref (.ptr 3 0)),(6,.ref (.ptr 4 0)),(7,.ref (.ptr 8 0)),(8,aT v),(39,Ot (Nl 313) [] [.ref (.ptr 9 0),.ref (.ptr 10 0)])]) {toList:=[40,41]} (au (sub Ng 1)) (ai (sub Ng 1))]
theorem us_yes{es:List By}{A:List (List Dp)}{fs:List Int}{v:Int}{B:List (List Dp)}{b3 b4 b5 b6 b7 b8 c6 c7 c8 d6 d7 d8:iN}{j:Nat}{r f u:Int}{x:By}{q:Nat}(hq:MM.wrap (Nn r 2)=(q:Int))(hx:ap (MM.wrap (Nn r 2)) (es.map By.row) x.row 3)(hf:fs[MP (MM.wrap (Nn r 2))]? = some f)(hl:q<fs.length)
  (hr:ap (j:Int) B [vi r] 1) (IN:Zd ((j:Int)<(B.length:Int))=true) (hw:MM.wrap ((j:Int)+1)=((j+1:Nat):Int)) (hc:Zd (eH r x f>0)=true) (hu:uS r x=u)
  (hy:Iv MK At (.ref (.yl 12)) [aT r,aT (uS r x)] (usH es A fs v b3 b4 b5 c6 c7 c8 .ready none) (iF true) (usH es A fs v b3 b4 b5 d6 d7 d8 .ready none)):(CW MK At (usH es A fs v b3 b4 b5 b6 b7 b8 .ready none) false (sub QQ 0) (usS es A fs v B b3 b4 b5 c6 c7 c8 j) .normal (usS es A fs v B b3 b4 b5 d6 d7 d8 ((j+1:Nat):Int))):=by
 refine yX {t:=DO 32 0 [(0,.ref (.yl 12)),(1,.ref (.ptr 9 0)),(2,.ref (.ptr 10 0)),(12,ab B),(13,aT (↑(MO B):Int)),(14,aT (MN MM ((↑j:Int)+1)))],h:=(CO es A fs v b3 b4 b5 d6 d7 d8),m:=[]} M8 [.st (.mask [0,1,2,12,13,14])] [.b IN,.r hr,.v ((fX [0,1,2] (@yr es A fs r f x q hq hx hf hl) ⟨?_,trivial⟩ ⟨?_,trivial⟩):Ev MK At 195 [.ref (.ptr 2 0),aT r] (jS es A fs v b3 b4 b5 c6 c7 c8) (aT (eH r x f)) (jS es A fs v b3 b4 b5 c6 c7 c8)),.g ((by rw[hc]<;>rfl):(Zd (eH r x f>0)==true)=true),.g ((by rw[hc]<;>rfl):(Zd (eH r x f>0)==true)=true),.g ((by rw[hc]<;>rfl):(Zd (eH r x f>0)==true)=true),.g ((by rw[hc]<;>rfl):(Zd (eH r x f>0)==true)=true),.g ((by rw[hc]<;>rfl):(Zd (eH r x f>0)==true)=true),.v ((fX [0,1,2] (@yu es A fs r x hx) ⟨?_,trivial⟩ ⟨?_,trivial⟩):Ev MK At 193 [.ref (.ptr 2 0),aT r] (jS es A fs v b3 b4 b5 c6 c7 c8) (aT (uS r x)) (jS es A fs v b3 b4 b5 c6 c7 c8)),.g ((by rw[hc]<;>rfl):(Zd (eH r x f>0)==true)=true),.j (@hy),.g ((by rw[hc]<;>rfl):(Zd (eH r x f>0)==true)=true),((bA hc rfl):aZ (iF (Zd (eH r x f>0))) (iF !true) (iF false) (iF !true)),.a1 (.ov 30 (iF !true)),.e] (by grind) (by grind)<;>(exact bd _ _)
noncomputable abbrev hG(es:List By)(A:List (List Dp))(fs:List Int)(v:Int)(b3:iN)(b4:iN)(b5:iN)(c6:iN)(c7:iN)(c8:iN):List iN:=[.bY (al fs) 0 1,.T1,.var [ab (ML By.row es),.ref (.bY 0 0),ab A],b3,b4,b5,c6,c7,c8,.var [.ref (.ptr 2 0)],.var [aT v],.Ts,.loop Np none 0 (DO 59 0 [(0,.ref (.ptr 2 0)),(5,.ref (.ptr 3 0)),(6,.ref (.ptr 4 0)),(7,.ref (.ptr 8 0)),(8,aT v),(39,Ot (Nl 313) [] [.ref (.ptr 9 0),.ref (.ptr 10 0)])]) {toList:=[40,41]} (au (sub Ng 1)) (ai (sub Ng 1))]
theorem us_stop{es:List By}{A:List (List Dp)}{fs:List Int}{v:Int}{B:List (List Dp)}{b3 b4 b5 b6 b7 b8 c6 c7 c8 d6 d7 d8:iN}{j:Nat}{r f u:Int}{x:By}{q:Nat}(hq:MM.wrap (Nn r 2)=(q:Int))(hx:ap (MM.wrap (Nn r 2)) (es.map By.row) x.row 3)(hf:fs[MP (MM.wrap (Nn r 2))]? = some f)(hl:q<fs.length)
  (hr:ap (j:Int) B [vi r] 1) (IN:Zd ((j:Int)<(B.length:Int))=true) (hc:Zd (eH r x f>0)=true)
  (hy:Iv MK At (.ref (.yl 12)) [aT r,aT (uS r x)] (usH es A fs v b3 b4 b5 c6 c7 c8 .ready none) (iF false) (usH es A fs v b3 b4 b5 d6 d7 d8 .done (some (.exit 0)))):(CW MK At (usH es A fs v b3 b4 b5 b6 b7 b8 .ready none) false (sub QQ 0) (usS es A fs v B b3 b4 b5 c6 c7 c8 j) .ret {t:=DO 32 0 [],h:=usH es A fs v b3 b4 b5 d6 d7 d8 .done (some (.exit 0)),m:=[]}):=by
 refine yx [.st (.mask [])] [.b IN,.r hr,.v ((fX [0,1,2] (@yr es A fs r f x q hq hx hf hl) ⟨?_,trivial⟩ ⟨?_,trivial⟩):Ev MK At 195 [.ref (.ptr 2 0),aT r] (hG es A fs v b3 b4 b5 c6 c7 c8) (aT (eH r x f)) (hG es A fs v b3 b4 b5 c6 c7 c8)),.g ((by rw[hc]<;>rfl):(Zd (eH r x f>0)==true)=true),.g ((by rw[hc]<;>rfl):(Zd (eH r x f>0)==true)=true),.g ((by rw[hc]<;>rfl):(Zd (eH r x f>0)==true)=true),.g ((by rw[hc]<;>rfl):(Zd (eH r x f>0)==true)=true),.g ((by rw[hc]<;>rfl):(Zd (eH r x f>0)==true)=true),.v ((fX [0,1,2] (@yu es A fs r x hx) ⟨?_,trivial⟩ ⟨?_,trivial⟩):Ev MK At 193 [.ref (.ptr 2 0),aT r] (hG es A fs v b3 b4 b5 c6 c7 c8) (aT (uS r x)) (hG es A fs v b3 b4 b5 c6 c7 c8)),.g ((by rw[hc]<;>rfl):(Zd (eH r x f>0)==true)=true),.j (@hy),.g ((by rw[hc]<;>rfl):(Zd (eH r x f>0)==true)=true),((bA hc rfl):aZ (iF (Zd (eH r x f>0))) (iF !false) (iF false) (iF !false)),.a1 (.ov 30 (iF !false)),.e]<;>(exact bd _ _)
theorem K7{es:List By}{A:List (List Dp)}{fs:List Int}{v:Int}{B:List (List Dp)}{b3 b4 b5 b6 b7 b8 c6 c7 c8:iN}{j:Nat}(IN:Zd ((j:Int)<(B.length:Int))=false):(CW MK At (usH es A fs v b3 b4 b5 b6 b7 b8 .ready none) false (sub QQ 0) (usS es A fs v B b3 b4 b5 c6 c7 c8 j) (.exit 0) {t:=DO 32 0 [],h:=usH es A fs v b3 b4 b5 c6 c7 c8 .ready none,m:=[]}):=by
 exact yx [.st (.mask [])] [.b IN]
end Go.Vi
