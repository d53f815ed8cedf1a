/- A part of the proof; no conditions of its own. -/
import Derived.Test.YtgalafpinkflfaaGreatDoorW4
open Bool renaming true->J,false->N
open Option renaming some->G,none->Y
open Go.Vi.Ans renaming st->δ,ov->zjr,inl->zfF
open Go.Vi.D renaming Ρ->JV,agg->uT,ref->mW
open Go.Vi.F2 renaming var->iI,zaB->Ζ,ν->S3,loop->χ
open Go.Vi.SOp renaming Μ->zmj,mask->τ,frz->zed
open Go.LoopState renaming ready->ζ,exhausted->zhL,busy->zfB
open Go.Exit renaming exit->η,normal->NO
open Go.Vi.Ref renaming ptr->J0
open Decidable renaming decide -> lL
open Go.Vi.D renaming zbk -> Tz, zhz -> TL, fn -> UL, Ρ -> TT, ref -> Wb
open Go.Vi.JZ renaming row -> Tb
open Go.IntKind renaming i64 -> S6, wrap -> S8, u64 -> TB
open Go.Proofs.Tryz renaming prog -> S5, f112 -> Uc, f198 -> U9, f190 -> UO, f271 -> YH, f191 -> TD, f313 -> Xq
open List renaming map -> S2, length -> S7, all -> Tq, foldl_cons -> TG, getElem?_eq_some_iff -> Td, foldl -> TE, length_cons -> Ue, set -> UE, drop -> TP, replicate -> Ti, getElem?_set_self -> UA, set_set -> YN, all_eq_true -> TW, take -> TU
open Go.Vi.γ renaming row -> Ts
open Go.Exit renaming normal -> Tr
open Go.Value renaming oneCell' -> Up, cells -> Yn
open Go.Vi.F2 renaming inn -> Tl
open Go.Vi.CW renaming each -> UR
open Go.LoopState renaming busy -> TX, ready -> TJ, exhausted -> Uu
open Go.Fn renaming func -> TM
open Go.Vi.Ev renaming zly -> Tw
open Int renaming toNat -> S9, toNat_natCast -> UD, tmod -> TY, tdiv -> TR, fdiv -> V9
open Go.Vi.NB renaming run -> Zb
open BitVec renaming ofInt -> Tg, toNat -> Tu
open Prod.mk renaming injEq -> Tk
open Go Go.Proofs
namespace Go.Vi
set_option maxRecDepth 100000
set_option maxHeartbeats 4000000
variable {A B:bv}{H rest:aT}{R fl:List (bY)}{a:JZ}{b:Bool}{b3 b4 b5 b6 b7 b8 c6 c7 c8 d6 d7 d8:F2}{e i j k m n q u:Nat}{f mid r sink v:Int}{fs:bV}{l:iN}{p:oB}{ys:oR}
abbrev Or:=List γ
abbrev Is:=List oB
structure TO where
 uR:Int
 to:Int
 most:Int
 deriving Inhabited
variable {e0 es:List TO}{x:TO}
def TO.row(e:TO):dO:=[vi e.uR,vi e.to,vi e.most]
def eh(l:List TO):List (bY):=l.map λe=>[go e.uR,go e.to,go e.most]
theorem dL(l:List TO)(a b c:Int):eh l++[[go a,go b,go c]]=eh (l++[⟨a,b,c⟩]):=by simp[eh]
theorem vf(l:List TO):(eh l).length=l.length:=by simp[eh]
theorem lB(f:Ref->D)(l:List TO):(eh l).map (Tz f)=eh l:=by simp[eh,Tz,D.π]
theorem oE(n:Nat)(l:List TO):(eh l).all (TL n)=J:=by simp[eh,TL,D.inn]
theorem KH(l:List TO):eh l=(l.map TO.row).map (·.map .p):=by simp[eh,TO.row]
abbrev zeK:bY:=[mW (.lk 4 0)]
abbrev nH(p:oB)(l:iN)(mid:Int)(es:List TO):aT:=[iI p.l,iI (zc5 l),iI zeK,iI [go mid],.lk (eh es) 0 3]
abbrev zaH:Nat×D:=(ziy 5)
abbrev zbX:Nat×D:=(zhA 7 3)
abbrev zdL(a:iN):D:=go ((a.map Tb).length:Int)
abbrev n1S(p:oB)(l:iN)(mid sink:Int)(es:List TO)(i:Int):AS:={t:=Bn 97 0 [zaU,zbr,zaH,zbX,(8,go sink),(37,ab (l.map Tb)),(38,(zdL l)),(39,go i)],h:=nH p l mid es,m:=[]}
abbrev n1E(p:oB)(l:iN)(mid sink:Int)(es:List TO):AS:={t:=Bn 97 0 [zaU,zbr,zaH,zbX,(8,go sink)],h:=nH p l mid es,m:=[]}
def n1F(p:oB)(s:List TO×Int)(a:JZ):List TO×Int:=(s.1++[⟨0,S6.wrap (1+s.2),S6.wrap (a.oA*p.υ)⟩],s.2+1)
abbrev ZI(a:oB):bY:=(zhV a (ab (S2 Ts a.reqs)))
theorem QR{l:List JZ}(hr:ao (i:Int) (l.map Tb) a.row 5)(xD:lL ((i:Int)<((l.map Tb).length:Int))=true)(hw:S6.wrap ((i:Int)+1)=((i+1:Nat):Int))(hl:es.length<=100000000):(CW S5 mX [] false (sub Uc 0) (n1S p l mid sink es i) .normal (n1S p l mid sink (n1F p (es,(i:Int)) a).1 ((i+1:Nat):Int))):=by
 refine yX {t:=Bn 97 0 [(2,.ref (.ptr 0 0)),(3,.ref (.ptr 1 0)),(5,.ref (.ptr 2 0)),(7,.ref (.ptr 3 0)),(8,go sink),(37,ab (S2 Tb l)),(38,go (↑(S7 (S2 Tb l)):Int)),(39,go (S8 S6 ((↑i:Int)+1)))],h:=[.var [am p.nm,go p.number,go p.υ,go p.ZD,go p.num,go p.den,ab (S2 Ts p.reqs)],.var [ab (S2 Tb l)],.var [.ref (.lk 4 0)],.var [go mid],.lk (eh es++[[go 0,go (S8 S6 (1+(↑i:Int))),go (S8 S6 (a.oA*p.υ))]]) 0 3],m:=[]} Tr [.st (.mask [2,3,5,7,8,37,38,39]),.st (.ren 4 0),.st (.Μ 5)] [.b xD,.r hr,((by grind [dL,aL,D.one,Up,L8,vf]):(Tq [[go 0,go (S8 S6 (1+(↑i:Int))),go (S8 S6 (a.oA*p.υ))]] (aL 3)&&L8 (S7 (eh es)+S7 [[go 0,go (S8 S6 (1+(↑i:Int))),go (S8 S6 (a.oA*p.υ))]]) 24)=true),(?_:S2 (Tz (ar 4 1 0)) (eh es++[[go 0,go (S8 S6 (1+(↑i:Int))),go (S8 S6 (a.oA*p.υ))]])=eh es++[[go 0,go (S8 S6 (1+(↑i:Int))),go (S8 S6 (a.oA*p.υ))]]),pr [[go 0,go (S8 S6 (1+(↑i:Int))),go (S8 S6 (a.oA*p.υ))]],(rfl:Tl 5 (match 0==4 with|true=>.lk (eh es++[[go 0,go (S8 S6 (1+(↑i:Int))),go (S8 S6 (a.oA*p.υ))]]) 0 3|false=>ZK (ar 4 1 0) (.var [am p.nm,go p.number,go p.υ,go p.ZD,go p.num,go p.den,ab (S2 Ts p.reqs)]))=true),(rfl:Tl 5 (match 0+1==4 with|true=>.lk (eh es++[[go 0,go (S8 S6 (1+(↑i:Int))),go (S8 S6 (a.oA*p.υ))]]) 0 3|false=>ZK (ar 4 1 0) (.var [ab (S2 Tb l)]))=true),(rfl:Tl 5 (match 0+1+1==4 with|true=>.lk (eh es++[[go 0,go (S8 S6 (1+(↑i:Int))),go (S8 S6 (a.oA*p.υ))]]) 0 3|false=>ZK (ar 4 1 0) (.var [.ref (.lk 4 1)]))=true),(rfl:Tl 5 (match 0+1+1+1==4 with|true=>.lk (eh es++[[go 0,go (S8 S6 (1+(↑i:Int))),go (S8 S6 (a.oA*p.υ))]]) 0 3|false=>ZK (ar 4 1 0) (.var [go mid]))=true),(?_:Tl 5 (match 0+1+1+1+1==4 with|true=>.lk (eh es++[[go 0,go (S8 S6 (1+(↑i:Int))),go (S8 S6 (a.oA*p.υ))]]) 0 3|false=>ZK (ar 4 1 0) (.lk (eh es++[[go 0,go (S8 S6 (1+(↑i:Int))),go (S8 S6 (a.oA*p.υ))]]) 1 3))=true)] (by grind) (by simp only[n1F,hw,dL];rfl)<;>(first|(rw[dL];exact lB _ _)|(rw[dL];exact oE _ _))
theorem QS(xD:lL ((i:Int)<((l.map Tb).length:Int))=N):(CW S5 mX [] N (sub Uc 0) (n1S p l mid sink es i) (η 0) (n1E p l mid sink es)):=yx [δ (τ [2,3,5,7,8])] [.b xD]
theorem Mr:∀(l:iN) (s:List TO×Int),(l.foldl (n1F p) s).1.length=s.1.length+l.length
 | [],s=>rfl
 |a::l,s=>by rw[TG,Mr l];simp[n1F];omega
theorem n1_cw{p:oB}{l:iN}{mid sink:Int}(hl:l.length<=50000):CW S5 mX [] false (.loop (sub Uc 0)) (n1S p l mid sink [] 0) (.exit 0) (n1E p l mid sink (l.foldl (n1F p) ([],0)).1):=by
 have:=UR (P:=S5) (Γ:=mX) (h0:=[]) (rd:=false) (c:=sub Uc 0) (σ:=List TO×Int) (ρ:=Empty) l (λa s=>.inl (n1F p s a))
  (λi s=>n1S p l mid sink s.1 (i:Int)) (.exit 0) (λs=>n1E p l mid sink s.1) (λr=>r.elim) (λi s=>s.2=i/\s.1.length<=i) (by simp) (λr=>r.elim) ?_ ?_ ([],0) (by simp)
 ·rw[aM] at this;exact this
 ·rintro i a ⟨es,k⟩ hc ⟨hk,he⟩;simp only at hk he;subst hk;have hi:=(Td.1 hc).1;refine⟨λs' h=>?_,QR (rowAt hc rfl) (κ Tb hi) (J3 hi (by omega)) (show es.length<=100000000 by omega)⟩;grind [n1F]
 ·intro s _;exact QS (aR Tb l)
abbrev npT(sink:Int):bY:=Bn 97 0 [zaU,zbr,zaH,zbX,(8,go sink),(58,.fn (.func 198) [] (zhW 6 5))]
noncomputable abbrev npL(sink:Int)(st:LoopState):F2:=χ st Y 0 (npT sink) #[59,60] (ax (sub Uc 1)) (ak (sub Uc 1))
noncomputable abbrev npH(p:oB)(l:iN)(mid sink:Int)(es:List TO)(e:Nat)(st:LoopState)(more:aT):aT:=[iI p.l,iI (zc5 l),iI (zbn 4 e),iI [go mid],.lk (eh es) e 3,iI p.l,iI (zc5 l),Ζ,npL sink st]++more
abbrev npU(sink i k:Int):bY:=Bn 97 0 [zaU,zbr,zaH,zbX,(8,go sink),(11,go i),(12,go k)]
abbrev zbD(b:JZ):aT:=[iI (b.row.map .p)]
theorem np_asg{i k:Int}:(CW S5 mX (npH p l mid sink es 1 ζ (zbD a)) J (ax (sub Uc 1)) {t:=dD (npT sink) [(59,go i),(60,go k)],h:=npH p l mid sink es 1 ζ (zbD a),m:=[]} NO {t:=npU sink i k,h:=npH p l mid sink es 1 ζ (zbD a),m:=[]}):=yx [δ (τ [2,3,5,7,8,11,12])] []
def n2F(mid i cr:Int)(es:List TO)(k:Int):List TO:=es++[⟨S6.wrap (1+i),S6.wrap (mid+k),cr⟩]
abbrev Z9(a:Int):bY:=(Bn 97 0 [(zhA 2 0),(zhA 3 1),(ziy 5),(zhA 7 3),(8,go a),(58,UL (TM 198) [] (zhW 6 5))])
abbrev zcV:Array Tmp:={toList:=[59,60]}
abbrev zey(a:Nat):At:=(G (mW (.lk a 1)))
abbrev zgm(a:Nat):Do:=[δ (τ []),δ (zmj a)]
theorem QT{i k:Int}(hr:ao i (l.map Tb) a.row 5)(hl:es.length<=100000000):(CW S5 mX (npH p l mid sink es 1 ζ (zbD a)) J (ak (sub Uc 1)) {t:=npU sink i k,h:=npH p l mid sink es 1 zfB (zbD a),m:=[]} NO {t:=Bn 97 0 [],h:=npH p l mid sink (n2F mid i a.oA es k) 2 zfB (zbD a),m:=[]}):=by let v0:bY:=(zh9 (S8 S6 (1+i)) (S8 S6 (mid+k)) a.oA);let v1:bY:=(zex l);let v2:=S2 Ts p.reqs;let v3:bY:=(ZL a);exact yX {t:=Bn 97 0 [],h:=[iI (ZN p v2),iI v1,iI (zbn 4 2),iI [go mid],.lk (eh es++[v0]) 2 3,iI (ZN p v2),iI v1,Ζ,χ TX Y 0 (Z9 sink) zcV (ax (sub Uc 1)) (ak (sub Uc 1)),iI v3],m:=[]} Tr (zgm 10) [.r hr,((by subst v0 v1 v2 v3;grind [dL,aL,D.one,Up,L8,vf]):(Tq [v0] (aL 3)&&L8 (S7 (eh es)+S7 [v0]) 24)=J),po (zey 4),po (zey 4),po (Ω mid),po (G (ab (S2 Tb l))),bi 10 (iI (ZN p v2)),bi 10 (iI v1),bi 10 (iI (zbn 4 2)),bi 10 (zfm mid),((by subst v0 v1 v2 v3;(rw[dL];exact oE _ _)):Tl 10 (.lk (eh es++[v0]) 2 3)=J),bi 10 (iI (ZN p v2)),bi 10 (iI v1),bi 10 Ζ,bi 10 (χ TX Y 0 (Z9 sink) zcV (ax (sub Uc 1)) (ak (sub Uc 1))),bi 10 (iI v3)] (by subst v0 v1 v2 v3;grind) (by subst v0 v1 v2 v3;simp only[n2F,dL];rfl)
theorem QU{p:oB}{l:iN}{a:JZ}{mid sink:Int}{es:List TO}{i k:Int}(hr:ao i (l.map Tb) a.row 5)(hl:es.length<=100000000):Iv S5 mX (mW (.yl 8)) [go i,go k] (npH p l mid sink es 1 ζ (zbD a)) (kr J) (npH p l mid sink (n2F mid i a.oA es k) 2 ζ (zbD a)) :=Iv.round (h1:=npH p l mid sink es 1 ζ (zbD a)) rfl rfl np_asg rfl (QT hr hl) rfl
abbrev zb9(a:Nat):Nat×D:=(1,mW (J0 a 0))
abbrev zeU(a:Nat)(b:iN):Nat×D:=(a,ab (b.map Tb))
noncomputable abbrev n2S(p:oB)(l:iN)(a:JZ)(mid sink:Int)(ks:bV)(i:Int)(es:List TO)(j:Int):AS:={t:=Bn 30 0 [zen,(zb9 6),zdr,(4,go i),(zeU 8 l),(9,(zdL l)),(10,go i),(17,ab (aA ks)),(18,(zic (aA ks))),(19,go j)],h:=npH p l mid sink es 1 ζ (zbD a),m:=[]}
abbrev zbQ(a b c:Nat)(d:iN)(e:Int):bY:=Bn 30 0 [(0,mW (.yl a)),(zhA 1 b),(zhA 2 c),(8,ab (d.map Tb)),(9,(zic (d.map Tb))),(10,go e)]
noncomputable abbrev n2E(p:oB)(l:iN)(a:JZ)(mid sink:Int)(i:Int)(es:List TO):AS:={t:=(zbQ 8 6 5 l i),h:=npH p l mid sink es 1 ζ (zbD a),m:=[]}
abbrev zcr:bY:=[mW (.lk 4 1)]
theorem QV{l:List JZ}{ks:List Int}{i k:Int}(hr:ao i (l.map Tb) a.row 5)(hk:ao (j:Int) (aA ks) [vi k] 1)(xD:lL ((j:Int)<((aA ks).length:Int))=true)(hw:S6.wrap ((j:Int)+1)=((j+1:Nat):Int))(hl:es.length<=100000000):(CW S5 mX (npH p l mid sink e0 0 .ready []) false (sub U9 1) (n2S p l a mid sink ks i es j) .normal (n2S p l a mid sink ks i (n2F mid i a.oA es k) ((j+1:Nat):Int))):=by
 exact yX {t:=Bn 30 0 [(0,.ref (.yl 8)),(1,.ref (.ptr 6 0)),(2,.ref (.ptr 5 0)),(4,go i),(8,ab (S2 Tb l)),(9,go (↑(S7 (S2 Tb l)):Int)),(10,go i),(17,ab (aA ks)),(18,go (↑(S7 (aA ks)):Int)),(19,go (S8 S6 ((↑j:Int)+1)))],h:=[.var [am p.nm,go p.number,go p.υ,go p.ZD,go p.num,go p.den,ab (S2 Ts p.reqs)],.var [ab (S2 Tb l)],.var [.ref (.lk 4 1)],.var [go mid],.lk (eh (n2F mid i a.oA es k)) 1 3,.var [am p.nm,go p.number,go p.υ,go p.ZD,go p.num,go p.den,ab (S2 Ts p.reqs)],.var [ab (S2 Tb l)],.zaB,.loop TJ none 0 (Bn 97 0 [(2,.ref (.ptr 0 0)),(3,.ref (.ptr 1 0)),(5,.ref (.ptr 2 0)),(7,.ref (.ptr 3 0)),(8,go sink),(58,UL (TM 198) [] [.ref (.ptr 6 0),.ref (.ptr 5 0)])]) {toList:=[59,60]} (ax (sub Uc 1)) (ak (sub Uc 1)),.var [go a.lm,go a.fI,go a.ZO,go a.Λ,go a.oA]],m:=[]} Tr [.st (.mask [0,1,2,4,8,9,10,17,18,19]),.st (.ren 4 1)] [.b xD,.r hk,.j (@QU p l a mid sink es i k hr hl),((by exact lB _ _):S2 (Tz (ar 4 2 1)) (eh (n2F mid i a.oA es k))=eh (n2F mid i a.oA es k)),.e] (by grind) (by(rw[hw];rfl))
theorem QW{ks:bV}{i:Int}(xD:lL ((j:Int)<((aA ks).length:Int))=N):(CW S5 mX (npH p l mid sink e0 0 ζ []) N (sub U9 1) (n2S p l a mid sink ks i es j) (η 2) (n2E p l a mid sink i es)):=yx [δ (τ [0,1,2,8,9,10])] [.b xD]
theorem BF{i cr:Int}:∀(ks:bV) (es:List TO),(ks.foldl (n2F mid i cr) es).length=es.length+ks.length
 | [],es=>rfl
 |k::ks,es=>by rw[TG,BF ks];simp[n2F];omega
theorem n2_cw{p:oB}{l:iN}{a:JZ}{mid sink:Int}{ks:bV}{e0 es:List TO}{i:Int}(hr:ao i (l.map Tb) a.row 5)(hks:ks.length<=1000)(hes:es.length<=90000000):CW S5 mX (npH p l mid sink e0 0 .ready []) false (.loop (sub U9 1)) (n2S p l a mid sink ks i es 0) (.exit 2) (n2E p l a mid sink i (ks.foldl (n2F mid i a.oA) es)):=by
 have:=UR (P:=S5) (Γ:=mX) (h0:=npH p l mid sink e0 0 .ready []) (rd:=false) (c:=sub U9 1) (σ:=List TO) (ρ:=Empty) ks (λk s=>.inl (n2F mid i a.oA s k))
  (λj s=>n2S p l a mid sink ks i s (j:Int)) (.exit 2) (λs=>n2E p l a mid sink i s) (λr=>r.elim) (λj s=>s.length<=es.length+j) (by simp) (λr=>r.elim) ?_ ?_ es (by simp)
 ·rw[aM] at this;exact this
 ·intro j k s hc he;have hi:=(Td.1 hc).1;refine⟨λs' h=>?_,QV hr (rowAt (row:=λn:Int=>[vi n]) hc rfl) (κ (λn:Int=>[vi n]) hi) (J3 hi (by omega)) (by omega)⟩;grind [n2F]
 ·intro s _;exact QW (aR (λn:Int=>[vi n]) ks)
abbrev zbL(a b c:Nat)(d:iN)(e:Int)(f:aT):AS:={t:=Bn 30 0 [(0,mW (.yl a)),(zhA 1 b),(zhA 2 c),(8,ab (d.map Tb)),(9,(zic (d.map Tb))),(10,go e)],h:=f,m:=[]}
noncomputable abbrev n3S(p:oB)(l:iN)(mid sink:Int)(es:List TO)(i:Int):AS:=(zbL 8 6 5 l i (npH p l mid sink es 1 ζ []))
noncomputable abbrev n3E(p:oB)(l:iN)(mid sink:Int)(es:List TO):AS:={t:=Bn 30 0 [],h:=npH p l mid sink es 1 ζ [],m:=[]}
def n3F(p:oB)(mid:Int)(s:List TO×Int)(a:JZ):List TO×Int:=((elR p a).foldl (n2F mid s.2 a.oA) s.1,s.2+1)
noncomputable abbrev Dj(p:oB)(l:iN)(a:JZ)(mid:Int)(sink:Int)(es:List TO):aT:=[iI (ZI p),iI (zex l),iI zcr,iI [go mid],.lk (eh es) 1 3,iI (ZI p),iI (zex l),Ζ,χ TJ Y 0 (Z9 sink) zcV (ax (sub Uc 1)) (ak (sub Uc 1)),iI (ZL a)]
theorem QX{l:List JZ}(hp:p.ok)(hn:p.reqs.length<=1000)(hr:ao (i:Int) (l.map Tb) a.row 5)(hks:(elR p a).length<=1000)(xD:lL ((i:Int)<((l.map Tb).length:Int))=true)(hw:S6.wrap ((i:Int)+1)=((i+1:Nat):Int))(hes:es.length<=90000000):(CW S5 mX (npH p l mid sink e0 0 .ready []) false (sub U9 0) (n3S p l mid sink es i) .normal (n3S p l mid sink (n3F p mid (es,(i:Int)) a).1 ((i+1:Nat):Int))):=by
 have Pq:=(@n2_cw (p) (l) (a) (mid) (sink) (elR p a) (e0) (es) ((↑i:Int)) (hr) (hks) (hes))
 let v0:List D:=[ab (S2 Tb l)]
 let v1:=S2 Ts p.reqs
 exact yX {t:=Bn 30 0 [(0,.ref (.yl 8)),(1,.ref (.ptr 6 0)),(2,.ref (.ptr 5 0)),(8,ab (S2 Tb l)),(9,go (↑(S7 (S2 Tb l)):Int)),(10,go (S8 S6 ((↑i:Int)+1)))],h:=[.var [am p.nm,go p.number,go p.υ,go p.ZD,go p.num,go p.den,ab v1],.var v0,.var [.ref (.lk 4 1)],.var [go mid],.lk (eh (TE (n2F mid (↑i:Int) a.oA) es (elR p a))) 1 3,.var [am p.nm,go p.number,go p.υ,go p.ZD,go p.num,go p.den,ab v1],.var v0,.zaB,.loop TJ none 0 (Bn 97 0 [(2,.ref (.ptr 0 0)),(3,.ref (.ptr 1 0)),(5,.ref (.ptr 2 0)),(7,.ref (.ptr 3 0)),(8,go sink),(58,UL (TM 198) [] [.ref (.ptr 6 0),.ref (.ptr 5 0)])]) {toList:=[59,60]} (ax (sub Uc 1)) (ak (sub Uc 1))],m:=[]} Tr [.st (.mask [0,1,2,8,9,10]),.st (.Μ 9)] [.b xD,.r hr,.v (@qV p hp hn a (Dj p l a mid sink es)),.s [0,1,2,4,8,9,10,17,18,19] Pq,bi 9 (.var [am p.nm,go p.number,go p.υ,go p.ZD,go p.num,go p.den,ab v1]),bi 9 (.var v0),bi 9 (.var [.ref (.lk 4 1)]),bi 9 (.var [go mid]),((by subst v0 v1;exact oE _ _):Tl 9 (.lk (eh (TE (n2F mid (↑i:Int) a.oA) es (elR p a))) 1 3)=true),bi 9 (.var [am p.nm,go p.number,go p.υ,go p.ZD,go p.num,go p.den,ab v1]),bi 9 (.var v0),bi 9 .zaB,bi 9 (.loop TJ none 0 (Bn 97 0 [(2,.ref (.ptr 0 0)),(3,.ref (.ptr 1 0)),(5,.ref (.ptr 2 0)),(7,.ref (.ptr 3 0)),(8,go sink),(58,UL (TM 198) [] [.ref (.ptr 6 0),.ref (.ptr 5 0)])]) {toList:=[59,60]} (ax (sub Uc 1)) (ak (sub Uc 1)))] (by subst v0 v1;grind) (by subst v0 v1;(simp only[n3F,hw];first|done|rfl))
theorem QY(xD:lL ((i:Int)<((l.map Tb).length:Int))=N):(CW S5 mX (npH p l mid sink e0 0 ζ []) N (sub U9 0) (n3S p l mid sink es i) (η 0) (n3E p l mid sink es)):=yx zbN [.b xD]
theorem vg(p:oB)(a:JZ):(elR p a).length<=p.reqs.length:=by have:=BE (a:=a) p.reqs ([],0);grind [elR]
theorem n3_cw{p:oB}(hp:p.ok){l:iN}{mid sink:Int}{e0:List TO}(hn:p.reqs.length<=100)(hl:l.length<=50000)(he0:e0.length<=50000):CW S5 mX (npH p l mid sink e0 0 .ready []) false (.loop (sub U9 0)) (n3S p l mid sink e0 0) (.exit 0) (n3E p l mid sink (l.foldl (n3F p mid) (e0,0)).1):=by
 have:=UR (P:=S5) (Γ:=mX) (h0:=npH p l mid sink e0 0 .ready []) (rd:=false) (c:=sub U9 0) (σ:=List TO×Int) (ρ:=Empty) l (λa s=>.inl (n3F p mid s a))
  (λi s=>n3S p l mid sink s.1 (i:Int)) (.exit 0) (λs=>n3E p l mid sink s.1) (λr=>r.elim) (λi s=>s.2=i/\s.1.length<=50000+100*i) (by simp) (λr=>r.elim) ?_ ?_ (e0,0) (by simp;omega)
 ·rw[aM] at this;exact this
 ·rintro i a ⟨es,k⟩ hc ⟨hk,he⟩;simp only at hk he;subst hk;have hi:=(Td.1 hc).1;have h1:=vg p a;refine⟨λs' h=>?_,QX hp (by omega) (rowAt hc rfl) (by omega) (κ Tb hi) (J3 hi (by omega)) (show es.length<=90000000 by omega)⟩;grind [n3F,BF]
 ·intro s _;exact QY (aR Tb l)
theorem GV(hp:p.ok)(hn:p.reqs.length<=100)(hl:l.length<=50000)(he0:e0.length<=50000):(Ev S5 mX 198 (zdO 8 6 5) (npH p l mid sink e0 0 ζ []) (JV []) (npH p l mid sink (l.foldl (n3F p mid) (e0,0)).1 1 ζ [])):=by have Pq:=(@n3_cw (p) (hp) (l) (mid) (sink) (e0) (hn) (hl) (he0));exact Tw (yF (h':=(zjZ (ZI p) (zex l) zcr [go mid] (.lk (eh (TE (n3F p mid) (e0,0) l).fst) 1 3) (zex l) (Z9 sink) zcV (sub Uc 1))) (d:=TT []) [((by exact lB _ _):S2 (Tz (ar 4 0 1)) (eh e0)=eh e0),.n 1,.o (.ren 4 1),.s [0,1,2,8,9,10] Pq]) ο ο
noncomputable abbrev npH0(p:oB)(l:iN)(mid:Int)(es:List TO):aT:=[iI p.l,iI (zc5 l),iI zeK,iI [go mid],.lk (eh es) 0 3,iI p.l,iI (zc5 l)]
theorem KI{p:oB}(hp:p.ok){l:iN}{mid sink:Int}{e0:List TO}(hn:p.reqs.length<=100)(hl:l.length<=50000)(he0:e0.length<=50000):CW S5 mX [] N (sub Uc 1) {t:=npT sink,h:=npH0 p l mid e0,m:=[]} NO
  {t:=npT sink,h:=npH p l mid sink (l.foldl (n3F p mid) (e0,0)).1 1 zhL [],m:=[7]}:=by
 exact CW.rangeFunc (f:=198) (fi:=[]) (ca:=(zhW 6 5)) pok (s:={t:=npT sink,h:=npH0 p l mid e0,m:=[]}) (g:=.tmp 58) (ps:=#[59,60]) (asg:=ax (sub Uc 1)) (body:=ak (sub Uc 1)) rfl Z (GV hp hn hl he0) rfl
abbrev zff(a:oB):bv:=(a.reqs.map Ts)
noncomputable abbrev n4S(p:oB)(l:iN)(mid sink:Int)(es:List TO)(i:Int):AS:={t:=Bn 97 0 [zaH,zbX,(8,go sink),(76,ab (zff p)),(77,(zic (zff p))),(78,go i)],h:=npH p l mid sink es 0 zhL [],m:=[7]}
noncomputable abbrev n4E(p:oB)(l:iN)(mid sink:Int)(es:List TO):AS:={t:=Bn 97 0 [zaH,(8,go sink)],h:=npH p l mid sink es 0 zhL [],m:=[7]}
def n4F(mid sink:Int)(s:List TO×Int)(q:γ):List TO×Int:=(s.1++[⟨S6.wrap (mid+s.2),sink,q.oA⟩],s.2+1)
theorem QZ{l:List JZ}{q:γ}(hr:ao (i:Int) (p.reqs.map Ts) q.row 6)(xD:lL ((i:Int)<((p.reqs.map Ts).length:Int))=true)(hw:S6.wrap ((i:Int)+1)=((i+1:Nat):Int))(hl:es.length<=100000000):(CW S5 mX [] false (sub Uc 2) (n4S p l mid sink es i) .normal (n4S p l mid sink (n4F mid sink (es,(i:Int)) q).1 ((i+1:Nat):Int))):=by
 let v0:=S2 Ts p.reqs
 let v1:List D:=[ab (S2 Tb l)]
 refine yX {t:=Bn 97 0 [(5,.ref (.ptr 2 0)),(7,.ref (.ptr 3 0)),(8,go sink),(76,ab v0),(77,go (↑(S7 v0):Int)),(78,go (S8 S6 ((↑i:Int)+1)))],h:=[.var [am p.nm,go p.number,go p.υ,go p.ZD,go p.num,go p.den,ab v0],.var v1,.var [.ref (.lk 4 0)],.var [go mid],.lk (eh es++[[go (S8 S6 (mid+(↑i:Int))),go sink,go q.oA]]) 0 3,.var [am p.nm,go p.number,go p.υ,go p.ZD,go p.num,go p.den,ab v0],.var v1,.zaB,.loop Uu none 0 (Bn 97 0 [(2,.ref (.ptr 0 0)),(3,.ref (.ptr 1 0)),(5,.ref (.ptr 2 0)),(7,.ref (.ptr 3 0)),(8,go sink),(58,UL (TM 198) [] [.ref (.ptr 6 0),.ref (.ptr 5 0)])]) {toList:=[59,60]} (ax (sub Uc 1)) (ak (sub Uc 1))],m:=[7]} Tr [.st (.mask [5,7,8,76,77,78]),.st (.ren 4 0),.st (.Μ 9)] [.b xD,.r hr,((by subst v0 v1;grind [dL,aL,D.one,Up,L8,vf]):(Tq [[go (S8 S6 (mid+(↑i:Int))),go sink,go q.oA]] (aL 3)&&L8 (S7 (eh es)+S7 [[go (S8 S6 (mid+(↑i:Int))),go sink,go q.oA]]) 24)=true),(?_:S2 (Tz (ar 4 1 0)) (eh es++[[go (S8 S6 (mid+(↑i:Int))),go sink,go q.oA]])=eh es++[[go (S8 S6 (mid+(↑i:Int))),go sink,go q.oA]]),pr [[go (S8 S6 (mid+(↑i:Int))),go sink,go q.oA]],(rfl:Tl 9 (match 0==4 with|true=>.lk (eh es++[[go (S8 S6 (mid+(↑i:Int))),go sink,go q.oA]]) 0 3|false=>ZK (ar 4 1 0) (.var [am p.nm,go p.number,go p.υ,go p.ZD,go p.num,go p.den,ab v0]))=true),(rfl:Tl 9 (match 0+1==4 with|true=>.lk (eh es++[[go (S8 S6 (mid+(↑i:Int))),go sink,go q.oA]]) 0 3|false=>ZK (ar 4 1 0) (.var v1))=true),(rfl:Tl 9 (match 0+1+1==4 with|true=>.lk (eh es++[[go (S8 S6 (mid+(↑i:Int))),go sink,go q.oA]]) 0 3|false=>ZK (ar 4 1 0) (.var [.ref (.lk 4 1)]))=true),(rfl:Tl 9 (match 0+1+1+1==4 with|true=>.lk (eh es++[[go (S8 S6 (mid+(↑i:Int))),go sink,go q.oA]]) 0 3|false=>ZK (ar 4 1 0) (.var [go mid]))=true),(?_:Tl 9 (match 0+1+1+1+1==4 with|true=>.lk (eh es++[[go (S8 S6 (mid+(↑i:Int))),go sink,go q.oA]]) 0 3|false=>ZK (ar 4 1 0) (.lk (eh es++[[go (S8 S6 (mid+(↑i:Int))),go sink,go q.oA]]) 1 3))=true),(rfl:Tl 9 (match 0+1+1+1+1+1==4 with|true=>.lk (eh es++[[go (S8 S6 (mid+(↑i:Int))),go sink,go q.oA]]) 0 3|false=>ZK (ar 4 1 0) (.var [am p.nm,go p.number,go p.υ,go p.ZD,go p.num,go p.den,ab v0]))=true),(rfl:Tl 9 (match 0+1+1+1+1+1+1==4 with|true=>.lk (eh es++[[go (S8 S6 (mid+(↑i:Int))),go sink,go q.oA]]) 0 3|false=>ZK (ar 4 1 0) (.var v1))=true),(rfl:Tl 9 (match 0+1+1+1+1+1+1+1==4 with|true=>.lk (eh es++[[go (S8 S6 (mid+(↑i:Int))),go sink,go q.oA]]) 0 3|false=>ZK (ar 4 1 0) .zaB)=true),(rfl:Tl 9 (match 0+1+1+1+1+1+1+1+1==4 with|true=>.lk (eh es++[[go (S8 S6 (mid+(↑i:Int))),go sink,go q.oA]]) 0 3|false=>ZK (ar 4 1 0) (.loop Uu none 0 (Bn 97 0 [(2,.ref (.ptr 0 0)),(3,.ref (.ptr 1 0)),(5,.ref (.ptr 2 0)),(7,.ref (.ptr 3 0)),(8,go sink),(58,UL (TM 198) [] [.ref (.ptr 6 0),.ref (.ptr 5 0)])]) {toList:=[59,60]} (ax (sub Uc 1)) (ak (sub Uc 1))))=true)] (by subst v0 v1;grind) (by subst v0 v1;simp only[n4F,hw,dL];rfl)<;>subst v0 v1<;>(first|(rw[dL];exact lB _ _)|(rw[dL];exact oE _ _))
theorem Q1(xD:lL ((i:Int)<((zff p).length:Int))=N):(CW S5 mX [] N (sub Uc 2) (n4S p l mid sink es i) (η 4) (n4E p l mid sink es)):=yx [δ (τ [5,8])] [.b xD]
theorem n4_cw{p:oB}{l:iN}{mid sink:Int}{e0:List TO}(hn:p.reqs.length<=100)(he:e0.length<=10000000):CW S5 mX [] false (.loop (sub Uc 2)) (n4S p l mid sink e0 0) (.exit 4) (n4E p l mid sink (p.reqs.foldl (n4F mid sink) (e0,0)).1):=by
 have:=UR (P:=S5) (Γ:=mX) (h0:=[]) (rd:=false) (c:=sub Uc 2) (σ:=List TO×Int) (ρ:=Empty) p.reqs (λa s=>.inl (n4F mid sink s a))
  (λi s=>n4S p l mid sink s.1 (i:Int)) (.exit 4) (λs=>n4E p l mid sink s.1) (λr=>r.elim) (λi s=>s.2=i/\s.1.length<=e0.length+i) (by simp) (λr=>r.elim) ?_ ?_ (e0,0) (by simp)
 ·rw[aM] at this;exact this
 ·rintro i a ⟨es,k⟩ hc ⟨hk,he⟩;simp only at hk he;subst hk;have hi:=(Td.1 hc).1;refine⟨λs' h=>?_,QZ (rowAt hc rfl) (κ Ts hi) (J3 hi (by omega)) (show es.length<=100000000 by omega)⟩;grind [n4F]
 ·intro s _;exact Q1 (aR Ts p.reqs)
abbrev Dk(l:iN):Int:=S6.wrap (1+((l.map Tb).length:Int))
abbrev z8(p:oB)(l:iN):Int:=S6.wrap (Dk l+((p.reqs.map Ts).length:Int))
def Q3(p:oB)(l:iN):List TO:=(l.foldl (n1F p) ([],0)).1
def Q4(p:oB)(l:iN):List TO:=(l.foldl (n3F p (Dk l)) (Q3 p l,0)).1
def oG(p:oB)(l:iN):List TO:=(p.reqs.foldl (n4F (Dk l) (z8 p l)) (Q4 p l,0)).1
theorem vj(p:oB)(l:iN):(Q3 p l).length=l.length:=by unfold Q3;rw[Mr];simp
theorem Ms{p:oB}{mid:Int}:∀(l:iN) (s:List TO×Int),(l.foldl (n3F p mid) s).1.length<=s.1.length+l.length*p.reqs.length
 | [],s=>F1
 |a::l,s=>by have h1:=Ms (p:=p) (mid:=mid) l (n3F p mid s a);have h2:=vg p a;simp only[TG,Ue,Nat.add_mul,Nat.one_mul];grind [n3F,BF]
theorem KJ(p:oB)(l:iN)(hn:p.reqs.length<=100)(hl:l.length<=50000):(Q4 p l).length<=5050000:=by unfold Q4;have h1:=Ms (p:=p) (mid:=Dk l) l (Q3 p l,0);have h2:=vj p l;have h3:l.length*p.reqs.length<=50000*100:=Nat.mul_le_mul hl hn;grind
def BG(p:oB)(l:iN)(e:Int):Int×List TO×Int:=match BD p != 0 with
 |true=>(0,[],BD p)
 |false=>match e != 0 with
  |true=>(0,[],e)
  |false=>(S6.wrap (z8 p l+1),oG p l,0)
abbrev Mt(p:oB)(l:iN):Int×List TO×Int:=BG p l (fp l).2.2
noncomputable abbrev lC(p:oB)(l:iN):aT:=[iI (ZI p),iI (zex l),iI [nq]]
abbrev zcz(a:oB)(b:iN):bY:=[uT a.l,ab (b.map Tb)]
theorem net_a(hp:p.ok)(hpn:Ψ p.num)(hpd:Ψ p.den)(hn:p.reqs.length<=100)(hl:l.length<=50000)(h1:(Q3 p l).length<=50000)(h2:(Q4 p l).length<=10000000){a b c:Int}(hs:∀h,Ev S5 mX 117 (zc5 l) h (JV (Z8 a b c)) h)(h:aT):(Ev S5 mX 112 (zcz p l) h (JV [go (BG p l c).1,ab ((BG p l c).2.1.map TO.row),go (BG p l c).2.2]) h):=by
 cases F3:BD p != 0
 ·cases Α:c != 0;·have hl2:=(@n1_cw (p) (l) (S8 S6 (1+(↑(S7 (S2 Tb l)):Int))) (S8 S6 (S8 S6 (1+(↑(S7 (S2 Tb l)):Int))+(↑(S7 (S2 Ts p.reqs)):Int))) (hl));have hl3:=(@KI (p) (hp) (l) (S8 S6 (1+(↑(S7 (S2 Tb l)):Int))) (S8 S6 (S8 S6 (1+(↑(S7 (S2 Tb l)):Int))+(↑(S7 (S2 Ts p.reqs)):Int))) ((TE (n1F p) ([],0) l).fst) (hn) (hl) (h1));have hl4:=(@n4_cw (p) (l) (S8 S6 (1+(↑(S7 (S2 Tb l)):Int))) (S8 S6 (S8 S6 (1+(↑(S7 (S2 Tb l)):Int))+(↑(S7 (S2 Ts p.reqs)):Int))) ((TE (n3F p (S8 S6 (1+(↑(S7 (S2 Tb l)):Int)))) ((TE (n1F p) ([],0) l).fst,0) l).fst) (hn) (h2));let v0:=S7 (S2 Tb l);let v1:=S2 TO.row (oG p l);let v2:=TE (n1F p) ([],0) l;refine Tw (Ev.zkv (y0 (d:=TT [(ziq (S8 S6 (S8 S6 (1+(↑v0:Int))+(↑(S7 (S2 Ts p.reqs)):Int)))),ab v1,go 0]) [.v (@qU p hp hpn hpd (lC p l)),.b F3,.v (@hs (lC p l)),.b Α,.n 3,.o (.zjT 2 0 3),.s [2,3,5,7,8,37,38,39] hl2,.a1 zfF,.s [2,3,5,7,8,58] hl3,(?_:S2 (Tz (ar 4 1 0)) (eh (TE (n3F p (S8 S6 (1+(↑v0:Int)))) (v2.fst,0) l).fst)=eh (TE (n3F p (S8 S6 (1+(↑v0:Int)))) (v2.fst,0) l).fst),.n 1,.o (.ren 4 0),.s [5,7,8,76,77,78] hl4,(?_:eh (TE (n4F (S8 S6 (1+(↑v0:Int))) (S8 S6 (S8 S6 (1+(↑v0:Int))+(↑(S7 (S2 Ts p.reqs)):Int)))) ((TE (n3F p (S8 S6 (1+(↑v0:Int)))) (v2.fst,0) l).fst,0) p.reqs).fst=S2 (λx=>S2 D.p x) v1),po (G (ab v1)),.o (zed 4 v1)] h)) (by subst v0 v1 v2;simp only[BG,F3,Α];rfl) ο<;>subst v0 v1 v2<;>(first|exact KH _|exact lB _ _)
  ·exact Tw (Ev.zkv (y0 (d:=TT [go 0,nq,go c]) [.v (@qU p hp hpn hpd (lC p l)),.b F3,.v (@hs (lC p l)),.b Α] h)) (by simp only[BG,F3,Α];rfl) ο
 ·exact Tw (Ev.zkv (y0 (d:=TT [go 0,nq,go (BD p)]) [.v (@qU p hp hpn hpd (lC p l)),.b F3] h)) (by simp only[BG,F3];rfl) ο
theorem GW(hp:p.ok)(hn:p.reqs.length<=100)(hl:l.length<=50000)(h:aT):Ev S5 mX 112 (zcz p l) h (JV [go (Mt p l).1,ab ((Mt p l).2.1.map TO.row),go (Mt p l).2.2]) h :=net_a hp hp.nm hp.dn hn hl (by have:=vj p l;omega) (by have:=KJ p l hn hl;omega) (λh=>GT (by unfold ah;omega) h) h
def cL:Code->Code
 |.seq a _=>a
 |c=>c
def cR:Code->Code
 |.seq _ b=>b
 |c=>c
def cB:Code->Code
 |.block _ c=>c
 |.loop c=>c
 |c=>c
abbrev zcD(a:List TO):bv:=(a.map TO.row)
abbrev ziL(a:D):bY:=[a,mW (.lk 0 0),mW (.lk 1 0)]
abbrev nnV(es:List TO):F2:=iI (ziL (ab (zcD es)))
abbrev nnT(es:List TO)(i:Int):bY:=Bn 64 0 [zaH,(16,ab (zcD es)),(17,(zic (zcD es))),(18,go i)]
abbrev nnU(es:List TO)(i:Int):bY:=Bn 64 0 [zaH,(6,go i),zbX,(16,ab (zcD es)),(17,(zic (zcD es))),(18,go i)]
abbrev zdx(a b:List (bY))(c:List TO):aT:=[.lk a 0 1,.lk b 0 1,nnV c]
theorem nn3:(CW S5 mX (zdx fl R es) N (cL (sub UO 0)) {t:=nnT es i,h:=(zdx fl R es),m:=[]} NO
  {t:=Bn 64 0 [zaH,(16,ab (zcD es)),(17,(zic (zcD es))),(18,go i),(19,kr (lL ((i:Int)<((zcD es).length:Int))))],h:=(zdx fl R es),m:=[]}):=by
 exact yx [δ (τ [5,16,17,18,19])] []
abbrev zcF(a:TO):bY:=[go a.uR,go a.to,go a.most]
theorem nn4(hr:ao (i:Int) (zcD es) x.row 3):(CW S5 mX (zdx fl R es) N (cL (cB (cL (cR (cR (sub UO 0)))))) {t:=nnT es i,h:=(zdx fl R es),m:=[]} NO
  {t:=nnU es i,h:=[.lk fl 0 1,.lk R 0 1,nnV es,iI (zcF x)],m:=[]}):=by
 exact yx [δ (τ [5,6,7,16,17,18])] [.r hr]
theorem nn_vp{d:D}(hu:R[u]?=G [d]):Ni S5 32 R 0 0 (S9 (u:Int)) 0 d:=by unfold Ni;simp[hu];rfl
theorem nn_in{r:bY}(hu:R[u]?=G r):Φ (u:Int) R.length=J:=by grind [Φ]
abbrev zdi(a:Nat)(b:Int):Ref:=(.vp a 0 (S9 b) 0)
theorem nn_st{b0:F2}{r:bY}(hu:R[u]?=G r)(hr:r.length=1):aY S5 (b0::.lk R 0 1::rest) 32 (mW (zdi 1 (u:Int))) (mW (.lk 4 e))=G (b0::.lk (R.set u (zbn 4 e)) 0 1::rest):=by
 match r,hr with
 | [d],_=>unfold aY;simp[hu];rfl
theorem oH(B:bV)(n:Int):eV B++[[go n]]=eV (B++[n]):=F1
theorem BH(B:bV):Tl k (.lk (eV B) e 1)=J:=by simp[Tl,TL,D.inn]
abbrev zaW(a b:Nat):D:=(mW (.vp a 0 (S9 (↑b:Int)) 0))
abbrev zcO:D:=(mW (.lk 1 0))
abbrev zdo(a:List TO):D:=ab (S2 TO.row a)
abbrev zdT(a:Nat):List (bY):=[[go (S8 S6 (2*(↑a:Int)))]]
abbrev zeB:D:=(mW (J0 2 2))
abbrev zhh:Do:=[δ (τ [5,6,7,16,17,18]),δ (zmj 5)]
abbrev zid(a b:List (bY))(c:F2)(d e f:Int)(g:bV)(h:Nat):aT:=[.lk a 0 1,.lk b 0 1,c,iI (Z8 d e f),.lk (eV g) h 1]
abbrev zi5(a:Nat):At:=(G (zaS a))
abbrev zi8(a:Nat)(b:List TO):bY:=Bn 64 0 [zaH,(6,(zaS a)),zbX,(16,(zdo b)),(zba 17 (S2 TO.row b)),(18,(zaS a))]
theorem nn5{B:bV}{to most:Int}(hR:R[u]?=G zeK)(hB:B.length<=1000000)(hfl:Tl 5 (.lk fl 0 1)=J)(hRi:Tl 5 (.lk (R.set u zcr) 0 1)=J):(CW S5 mX (zid fl R (nnV es) (u:Int) to most B 0) N (cL (cR (cB (cL (cR (cR (sub UO 0))))))) {t:=nnU es i,h:=(zid fl R (nnV es) (u:Int) to most B 0),m:=[]} NO
  {t:=nnU es i,h:=(zid fl (R.set u zcr) (nnV es) (u:Int) to most (B++[S6.wrap (2*(i:Int))]) 1),m:=[]}):=by
 let v0:bY:=(ziL (zdo es))
 let v1:=UE R u zcr
 refine yX {t:=(zi8 i es),h:=[.lk fl 0 1,.lk v1 0 1,iI v0,iI (Z8 (↑u:Int) to most),.lk (eV B++(zdT i)) 1 1],m:=[]} Tr zhh [(?_:Φ (↑u:Int) (S7 R)=J),(?_:@Eq (At) (aQ S5 (zid fl R (iI v0) (↑u:Int) to most B 0) 32 (zaW 1 u)) (zcl 4)),((by subst v0 v1;grind [oH,aL,D.one,Up,L8]):(Tq [[go (S8 S6 (2*(↑i:Int)))]] (aL 1)&&L8 (S7 (eV B)+S7 [[go (S8 S6 (2*(↑i:Int)))]]) 8)=J),(?_:Φ (↑u:Int) (S7 R)=J),(?_:@Eq (Option (aT)) (aY S5 [.lk fl 0 1,.lk R 0 1,iI v0,iI (Z8 (↑u:Int) to most),.lk (eV B++(zdT i)) 1 1,.lk (zdT i) 0 1] 32 (zaW 1 u) (mW (.lk 4 1))) (G [.lk fl 0 1,.lk v1 0 1,iI v0,iI (Z8 (↑u:Int) to most),.lk (eV B++(zdT i)) 1 1,.lk (zdT i) 0 1])),pe zcb,pe zcb,pe zcb,pe zeB,pe zeB,pe zeB,po (G zcO),po (G zcO),po (G zcO),pe zcN,pe zcN,pe zcN,po (zi5 u),po (zi5 u),po (zi5 u),pe zcb,pe zcb,pe zeB,pe zeB,po (G zcO),po (G zcO),pe zcN,pe zcN,po (zi5 u),po (zi5 u),(?_:Φ (↑u:Int) (S7 R)=J),pe (zaW 1 u),(?_:Φ (↑u:Int) (S7 R)=J),pe (zaW 1 u),(?_:@Eq (At) (if 0=0 then match R[S9 (↑u:Int)]? with|some row=>cC S5 32 (TP 0 row)|none=>Y else Y) (zcl 4)),(?_:@Eq (At) (if 0=0 then match R[S9 (↑u:Int)]? with|some row=>cC S5 32 (TP 0 row)|none=>Y else Y) (zcl 4)),(?_:Φ (↑u:Int) (S7 R)=J),pe (zaW 1 u),hfl,hRi,bi 5 (iI v0),bi 5 (iI (Z8 (↑u:Int) to most)),(?_:Tl 5 (.lk (eV B++(zdT i)) 1 1)=J),.a1 (zjr 36 (mW (.lk 4 0))),.a1 (.oh 10041 D.any [.lk fl 0 1,.lk v1 0 1,nnV es,iI (Z8 (↑u:Int) to most),.lk (eV B++(zdT i)) 1 1,.lk (zdT i) 0 1])] (by subst v0 v1;grind) (by subst v0 v1;grind)<;>subst v0 v1<;>(first|exact nn_vp hR|exact nn_in hR|exact nn_st hR rfl|(rw[oH];exact BH _))
abbrev zcy(a:Nat):List (bY):=[[(ziq (S8 S6 (2*(↑a:Int))))]]
abbrev zgA:D:=(mW (J0 3 1))
theorem nn6{B:bV}{uR most:Int}(hR:R[u]?=G zeK)(hB:B.length<=1000000)(hfl:Tl 5 (.lk fl 0 1)=J)(hRi:Tl 5 (.lk (R.set u zcr) 0 1)=J):(CW S5 mX (zid fl R (nnV es) uR (u:Int) most B 0) N (cR (cR (cB (cL (cR (cR (sub UO 0))))))) {t:=nnU es i,h:=(zid fl R (nnV es) uR (u:Int) most B 0),m:=[]} NO
  {t:=nnU es i,h:=(zid fl (R.set u zcr) (nnV es) uR (u:Int) most (B++[S6.wrap (S6.wrap (2*(i:Int))+1)]) 1),m:=[]}):=by
 let v0:bY:=(ziL (zdo es))
 let v1:=UE R u zcr
 refine yX {t:=(zi8 i es),h:=[.lk fl 0 1,.lk v1 0 1,iI v0,iI (Z8 uR (↑u:Int) most),.lk (eV B++(zcy i)) 1 1],m:=[]} Tr zhh [(?_:Φ (↑u:Int) (S7 R)=J),(?_:@Eq (At) (aQ S5 (zid fl R (iI v0) uR (↑u:Int) most B 0) 32 (zaW 1 u)) (zcl 4)),((by subst v0 v1;grind [oH,aL,D.one,Up,L8]):(Tq [[go (S8 S6 (S8 S6 (2*(↑i:Int))+1))]] (aL 1)&&L8 (S7 (eV B)+S7 [[go (S8 S6 (S8 S6 (2*(↑i:Int))+1))]]) 8)=J),(?_:Φ (↑u:Int) (S7 R)=J),(?_:@Eq (Option (aT)) (aY S5 [.lk fl 0 1,.lk R 0 1,iI v0,iI (Z8 uR (↑u:Int) most),.lk (eV B++(zcy i)) 1 1,.lk (zcy i) 0 1] 32 (zaW 1 u) (mW (.lk 4 1))) (G [.lk fl 0 1,.lk v1 0 1,iI v0,iI (Z8 uR (↑u:Int) most),.lk (eV B++(zcy i)) 1 1,.lk (zcy i) 0 1])),pe zcb,pe zcb,pe zcb,pe zeB,pe zeB,pe zeB,po (G zcO),po (G zcO),po (G zcO),pe zgA,pe zgA,pe zgA,po (zi5 u),po (zi5 u),po (zi5 u),pe zcb,pe zcb,pe zeB,pe zeB,po (G zcO),po (G zcO),pe zgA,pe zgA,po (zi5 u),po (zi5 u),(?_:Φ (↑u:Int) (S7 R)=J),pe (zaW 1 u),(?_:Φ (↑u:Int) (S7 R)=J),pe (zaW 1 u),(?_:@Eq (At) (if 0=0 then match R[S9 (↑u:Int)]? with|some row=>cC S5 32 (TP 0 row)|none=>Y else Y) (zcl 4)),(?_:@Eq (At) (if 0=0 then match R[S9 (↑u:Int)]? with|some row=>cC S5 32 (TP 0 row)|none=>Y else Y) (zcl 4)),(?_:Φ (↑u:Int) (S7 R)=J),pe (zaW 1 u),hfl,hRi,bi 5 (iI v0),bi 5 (iI (Z8 uR (↑u:Int) most)),(?_:Tl 5 (.lk (eV B++(zcy i)) 1 1)=J),.a1 (zjr 55 (mW (.lk 4 0))),.a1 (.oh 10061 D.any [.lk fl 0 1,.lk v1 0 1,nnV es,iI (Z8 uR (↑u:Int) most),.lk (eV B++(zcy i)) 1 1,.lk (zcy i) 0 1])] (by subst v0 v1;grind) (by subst v0 v1;grind)<;>subst v0 v1<;>(first|exact nn_vp hR|exact nn_in hR|exact nn_st hR rfl|(rw[oH];exact BH _))
theorem nn7(hw:S6.wrap ((i:Int)+1)=((i+1:Nat):Int)):(CW S5 mX [.lk fl 0 1,.lk R 0 1,nnV es,iI (zcF x)] N (cR (cR (cR (sub UO 0)))) {t:=nnU es i,h:=[.lk fl 0 1,.lk R 0 1,nnV es,iI (zcF x)],m:=[]} NO
  {t:=nnT es ((i+1:Nat):Int),h:=[.lk fl 0 1,.lk R 0 1,nnV es,iI (zcF x)],m:=[]}):=by
 refine yX {t:=Bn 64 0 [zaH,(16,(zdo es)),(zba 17 (S2 TO.row es)),(18,(ZZ i))],h:=[.lk fl 0 1,.lk R 0 1,iI (ziL (zdo es)),iI (zcF x)],m:=[]} Tr [δ (τ [5,16,17,18])] [] ?_ ?_<;>(grind)
abbrev nnC(es:List TO)(i:Int)(b:Bool):bY:=Bn 64 0 [zaH,(16,ab (zcD es)),(17,(zic (zcD es))),(18,go i),(19,kr b)]
theorem nnc1(hb:b=J):(CW S5 mX (zdx fl R es) N (cL (cR (sub UO 0))) {t:=nnC es i b,h:=(zdx fl R es),m:=[]} NO
  {t:=nnT es i,h:=(zdx fl R es),m:=[]}):=by
 exact yx [δ (τ [5,16,17,18])] [.b hb]
theorem nnc0(hb:b=N):(CW S5 mX (zdx fl R es) N (cL (cR (sub UO 0))) {t:=nnC es i b,h:=(zdx fl R es),m:=[]} (η 0)
  {t:=Bn 64 0 [zaH],h:=(zdx fl R es),m:=[]}):=by
 exact yx (zeI 5) [.b hb]
def lP(s:List (bV)×Int)(x:TO):List (bV)×Int :=
 let A:=s.1.set x.uR.toNat (s.1.getD x.uR.toNat []++[S6.wrap (2*s.2)])
 (A.set x.to.toNat (A.getD x.to.toNat []++[S6.wrap (S6.wrap (2*s.2)+1)]),s.2+1)
def j1(n:Nat)(es:List TO):List (bV):=(es.foldl lP (Ti n [],0)).1
theorem KK(s:List (bV)×Int)(x:TO):(lP s x).1.length=s.1.length:=by simp[lP]
def Lim(A:List (bV))(k:Nat):Prop:=∀(j:Nat) (B:bV),A[j]?=G B->B.length<=k
theorem Lim.set{A:List (bV)}(h:Lim A k)(u:Nat)(v:Int):Lim (A.set u (A.getD u []++[v])) (k+1):=by
 intro j B hj;by_cases hu:j=u
 ·subst hu;have hl:j<A.length:=by have:=(Td.1 hj).1;simpa using this
  rw[UA hl] at hj;cases hj;have hg:A[j]?=G (A.getD j []):=by simp[List.getD,hl]
  have:=h j _ hg;grind
 ·rw[List.getElem?_set_ne (λe=>hu e.symm)] at hj;have:=h j B hj;omega
theorem KL{s:List (bV)×Int}(h:Lim s.1 k):Lim (lP s x).1 (k+2):=by have h1:=h.set x.uR.toNat (S6.wrap (2*s.2));have h2:=h1.set x.to.toNat (S6.wrap (S6.wrap (2*s.2)+1));grind [lP]
theorem GX{A:List (bV)}(h:j<A.length):A[j]?=G (A.getD j []):=uU
def ez(n:Nat)(x:TO):Prop:=0<=x.uR/\x.uR<n/\0<=x.to/\x.to<n
theorem BI:Tl 5 (.lk (((cg ys).set u zeK).set u zcr) 0 e)=J:=by
 simp only[Tl,YN];rw[TW];intro r hr;rcases List.mem_or_eq_of_mem_set hr with h1|h1
 ·obtain⟨y,_,rfl⟩:=List.mem_map.1 h1;rfl
 ·rw[h1];rfl
theorem BJ(hu:u<ys.length):((cg ys).set u [Wb (.lk 4 0)])[u]?=G zeK:=UA (by simpa using hu)
section
variable {X:Ctx} {fl:List (bY)} {es:List TO}
abbrev zko(a:Code):Code:=(.seq (cL (cR (a))) (cR (cR (a))))
theorem KM(hfl:∀k,Tl k (.lk fl 0 1)=true)(hes:es.length<=65536){A:List (List Int)}(hx:es[i]? = some x)(Χ:ez A.length x)(hA:Lim A (2*i)){a:Act}{w:World}
  (hn:NB mX X (nnT es i) [.lk fl 0 1] [nnV es] A a w) :
  (sub UO 0).wpIn (FW none) 0 S5 (λe a' w'=>e=.normal/\NB mX X (nnT es ((i+1:Nat):Int)) [.lk fl 0 1] [nnV es] (lP (A,(i:Int)) x).1 a' w') a w:=by
 have hi:=(Td.1 hx).1
 have xD:=κ TO.row hi
 have hw:=J3 hi (by omega)
 obtain⟨u,hu⟩:∃u:Nat,x.uR=u:=⟨x.uR.toNat,by have:=Χ.1;omega⟩
 obtain⟨v,hv⟩:∃v:Nat,x.to=v:=⟨x.to.toNat,by have:=Χ.2.2.1;omega⟩
 have hul:u<A.length:=by have:=Χ.2.1;omega
 have hvl:v<A.length:=by have:=Χ.2.2.2;omega
 have zmR:sub UO 0=.seq (cL (sub UO 0)) (.seq (cL (cR (sub UO 0))) (.seq (.block 1 (.seq (cL (cB (cL (cR (cR (sub UO 0)))))) (.seq (cL (cR (cB (cL (cR (cR (sub UO 0))))))) (cR (cR (cB (cL (cR (cR (sub UO 0))))))))))
  (cR (cR (cR (sub UO 0)))))):=by kernel_rfl
 rw[zmR]
 refine wpIn_seq (wpIn_mono (Zb (e:=.normal) (pre':=[.lk fl 0 1]) (more':=[nnV es]) (t':=nnC es i (lL ((i:Int)<((es.map TO.row).length:Int)))) (by simp) (λys _=>nn3 (es:=es) (fl:=fl) (R:=cg ys) (i:=i)) hn) ?_)
 rintro e a1 w1 ⟨rfl,n1⟩
 refine wpIn_seq (wpIn_mono (Zb (e:=.normal) (pre':=[.lk fl 0 1]) (more':=[nnV es]) (t':=nnT es i) (by simp) (λys _=>nnc1 (es:=es) (fl:=fl) (R:=cg ys) (i:=i) (b:=lL ((i:Int)<((es.map TO.row).length:Int))) xD) n1) ?_)
 rintro e a2 w2 ⟨rfl,n2⟩
 refine wpIn_seq (wpIn_block ?_)
 refine wpIn_seq (wpIn_mono (Zb (e:=.normal) (pre':=[.lk fl 0 1]) (more':=[nnV es,.var [go x.uR,go x.to,go x.most]]) (t':=nnU es i) (by simp) (λys _=>nn4 (es:=es) (fl:=fl) (R:=cg ys) (i:=i) (x:=x) (rowAt hx rfl)) n2) ?_)
 rintro e a3 w3 ⟨rfl,n3⟩
 rw[hu,hv] at n3
 have hAu:A[u]? = some (A.getD u []):=GX hul
 have hBu:(A.getD u []).length<=1000000:=by have:=hA u _ hAu;omega
 refine wpIn_seq (wpIn_mono (NB.focus (t':=nnU es i) (u:=u) (B:=A.getD u []) (B':=A.getD u []++[S6.wrap (2*(i:Int))]) hAu (by simp[hfl]) rfl rfl (λys hy=>?_) n3) ?_)
 ·have:=nn5 (es:=es) (fl:=fl) (R:=(cg ys).set u [.ref (.lk 4 0)]) (B:=A.getD u []) (u:=u) (i:=i) (to:=(v:Int)) (most:=x.most) (BJ (by omega)) hBu (hfl 5) BI
  rw[YN] at this
  exact this
 rintro e a4 w4 ⟨rfl,n4⟩
 have hvl2:v<(A.set u (A.getD u []++[S6.wrap (2*(i:Int))])).length:=by simpa using hvl
 have hAv:(A.set u (A.getD u []++[S6.wrap (2*(i:Int))]))[v]? = some ((A.set u (A.getD u []++[S6.wrap (2*(i:Int))])).getD v []):=GX hvl2
 have hBv:((A.set u (A.getD u []++[S6.wrap (2*(i:Int))])).getD v []).length<=1000000:=by have:=(hA.set u (S6.wrap (2*(i:Int)))) v _ hAv;omega
 refine wpIn_mono (NB.focus (t':=nnU es i) (u:=v) (B:=(A.set u (A.getD u []++[S6.wrap (2*(i:Int))])).getD v []) (B':=(A.set u (A.getD u []++[S6.wrap (2*(i:Int))])).getD v []++[S6.wrap (S6.wrap (2*(i:Int))+1)]) hAv (by simp[hfl]) rfl rfl (λys hy=>?_) n4) ?_
 ·have:=nn6 (es:=es) (fl:=fl) (R:=(cg ys).set v [.ref (.lk 4 0)]) (B:=(A.set u (A.getD u []++[S6.wrap (2*(i:Int))])).getD v []) (u:=v) (i:=i) (uR:=(u:Int)) (most:=x.most) (BJ (by grind)) hBv (hfl 5) BI
  rw[YN] at this
  exact this
 rintro e a5 w5 ⟨rfl,n5⟩
 have n5':NB mX X (nnU es i) [.lk fl 0 1] [nnV es,.var [go x.uR,go x.to,go x.most]] (lP (A,(i:Int)) x).1 a5 w5:=by
  unfold lP
  simp only[hu,hv,UD]
  exact n5
 refine wpIn_mono (Zb (e:=.normal) (pre':=[.lk fl 0 1]) (more':=[nnV es,.var [go x.uR,go x.to,go x.most]]) (t':=nnT es ((i+1:Nat):Int)) (by simp) (λys _=>nn7 (es:=es) (fl:=fl) (R:=cg ys) (i:=i) (x:=x) hw) n5') ?_
 rintro e a6 w6 ⟨rfl,n6⟩
 exact⟨rfl,NB.trimTo (m1:=[nnV es]) (m2:=[.var [go x.uR,go x.to,go x.most]]) n6 rfl (by simp[hfl]) rfl⟩
end
theorem GY:∀(l:List TO) (s:List (bV)×Int),(l.foldl lP s).2=s.2+l.length
 | [],s=>F1
 |x::l,s=>by rw[TG,GY l];simp[lP];omega
theorem Aa:∀(l:List TO) (s:List (bV)×Int),(l.foldl lP s).1.length=s.1.length
 | [],s=>rfl
 |x::l,s=>by rw[TG,Aa l,KK]
theorem Ab:∀(l:List TO) (s:List (bV)×Int) (k:Nat),Lim s.1 k->Lim (l.foldl lP s).1 (k+2*l.length)
 | [],s,k,h=>h
 |x::l,s,k,h=>by have:=Ab l (lP s x) (k+2) (KL h);grind
abbrev flR(es:List TO):List (bY):=Ti (S9 ((zcD es).length:Int)) [go 0]
abbrev adjV(A:List (bV)):List (bY):=A.map λB=>[.p (.sl (nV B))]
theorem GZ(k:Nat):Tl k (.lk (flR es) 0 1)=J:=by simp only[Tl,TW];intro r hr;rw[(List.mem_replicate.1 hr).2];rfl
theorem nn_cw{n:Nat}{es:List TO}(hes:es.length<=65536)(Χ:∀x∈es,ez n x):CW S5 mX [] false (.loop (sub UO 0)) {t:=nnT es 0,h:=(zdx (flR es) (Ti (S9 (n:Int)) [.p (.v (.slice none 0 0))]) es),m:=[]} (.exit 0)
   {t:=Bn 64 0 [zaH],h:=(zdx (flR es) (adjV (j1 n es)) es),m:=[]}:=by
 intro X r hX hr a w hs
 obtain rfl:=hr rfl
 have hs':St mX X {t:=nnT es 0,h:=hB [.lk (flR es) 0 1] (cg (Ti n (.slice none 0 0))) [nnV es],m:=[]} a w:=by
  have e:cg (Ti n (.slice none 0 0))=Ti (S9 (n:Int)) [.p (.v (.slice none 0 0))]:=by simp
  rw[e];exact hs
 have n0:=NB.enter hX hs'
 refine sD (λ(i:Nat) a w=>i<=es.length/\NB mX X (nnT es i) [.lk (flR es) 0 1] [nnV es] ((es.take i).foldl lP (Ti n [],0)).1 a w) (λi=>es.length-i) 0 ⟨Nat.zero_le _,n0⟩ ?_
 rintro i a w ⟨hi,hn⟩
 have hl:((es.take i).foldl lP (Ti n [],0)).1.length=n:=by rw[Aa];simp
 have hlim:Lim ((es.take i).foldl lP (Ti n [],0)).1 (2*i):=by
  have h0:Lim (Ti n ([]:bV)) 0:=by intro j B hj;rw[List.getElem?_replicate] at hj;split at hj<;>simp at hj;subst hj;simp
  have:=Ab (es.take i) (Ti n [],0) 0 h0;simpa[Nat.min_eq_left hi] using this
 by_cases xD:i<es.length
 ·have hx:es[i]? = some es[i]:=List.getElem?_eq_getElem xD
  refine wpIn_mono (KM GZ hes hx (by grind) hlim hn) ?_
  rintro e a' w' ⟨rfl,n1⟩
  refine .inl ⟨rfl,i+1,⟨by omega,?_⟩,by omega⟩
  have e2:((es.take (i+1)).foldl lP (Ti n [],0)).1=(lP (((es.take i).foldl lP (Ti n [],0)).1,(i:Int)) es[i]).1:=by rw[List.take_add_one,hx,Option.toList_some,List.foldl_append,TG,List.foldl_nil];congr 2;have:=GY (es.take i) (Ti n [],0);rw[List.length_take,Nat.min_eq_left hi] at this;rw[<-Prod.eta ((es.take i).foldl lP (Ti n [],0)),this];simp
  grind
 ·have hi2:i=es.length:=by omega
  subst hi2
  have zmR:sub UO 0=.seq (cL (sub UO 0)) (zko (sub UO 0)):=by kernel_rfl
  rw[zmR]
  refine wpIn_seq (wpIn_mono (Zb (e:=.normal) (pre':=[.lk (flR es) 0 1]) (more':=[nnV es]) (t':=nnC es (es.length:Int) (lL ((es.length:Int)<((zcD es).length:Int)))) (by simp) (λys _=>nn3 (es:=es) (fl:=flR es) (R:=cg ys) (i:=es.length)) hn) ?_)
  rintro e a1 w1 ⟨rfl,n1⟩
  refine wpIn_seq (wpIn_mono (Zb (e:=.exit 0) (pre':=[.lk (flR es) 0 1]) (more':=[nnV es]) (t':=Bn 64 0 [zaH]) (by simp) (λys _=>nnc0 (es:=es) (fl:=flR es) (R:=cg ys) (i:=es.length) (b:=lL ((es.length:Int)<((zcD es).length:Int))) (aR TO.row es)) n1) ?_)
  rintro e a2 w2 ⟨rfl,n2⟩
  have n3:=NB.leave hX n2
  rw[List.take_length] at n3
  exact .inr ⟨by simp,by simp,by simp,_,⟨rfl,rfl⟩,n3⟩
abbrev jD(A:List (bV)):bv:=A.map λB=>[.sl (nV B)]
theorem G0(f:Ref->D)(es:List TO):(flR es).map (Tz f)=flR es:=by simp only[flR,List.map_replicate];rfl
theorem Q5{r:bY}(h:TL k r=J):(Ti m r).all (TL k)=J:=uU
abbrev zj6(c d:bv):bY:=[ab c,mW (.lk 0 0),ab d]
abbrev zbR(a:List TO)(b:bv):bY:=(zj6 (S2 TO.row a) b)
abbrev zcH(a:Nat)(b:bY):List (bY):=(Ti (S9 (↑a:Int)) b)
abbrev ziz:bY:=S2 lit (Yn (Value.int S6 0)).toList
theorem nn_ev(hn:n<=10000)(hes:es.length<=65536)(Χ:∀x∈es,ez n x):(Ev S5 mX 190 [go (n:Int),ab (zcD es)] [] zcb [.lk (flR es) 0 1,S3,iI (zj6 (zcD es) (jD (j1 n es)))]):=by have Pq:=(@nn_cw (n) (es) (hes) (Χ));let v0:=ziz;let v1:=S7 (S2 TO.row es);let v2:=S2 lit (Yn (Value.slice Y 0 0)).toList;refine Tw (yF (h':=[.lk (flR es) 0 1,S3,iI (zbR es (jD (j1 n es)))]) (d:=mW (J0 2 0)) [((by subst v0 v1 v2;grind):(lL (0<=(↑v1:Int))&&lL ((↑v1:Int)<=(↑v1:Int))&&lL ((↑v1:Int)*(↑8:Int)<=281474976710656)&&lL ((↑v1:Int)<=281474976710656))=J),((by subst v0 v1 v2;grind):(lL (0<=(↑n:Int))&&lL ((↑n:Int)<=(↑n:Int))&&lL ((↑n:Int)*(↑24:Int)<=281474976710656)&&lL ((↑n:Int)<=281474976710656))=J),(?_:Tq (zcH v1 v0) (TL 0)=J),(?_:Tq (zcH v1 v0) (TL 1)=J),(?_:Tq (zcH v1 v0) (TL 1)=J),(?_:Tq (zcH v1 v0) (TL 2)=J),(?_:Tq (zcH n v2) (TL 2)=J),(?_:Tq (zcH v1 v0) (TL 2)=J),(?_:Tq (zcH v1 v0) (TL 3)=J),(?_:Tq (zcH n v2) (TL 3)=J),(?_:Tq (zcH v1 v0) (TL 3)=J),(?_:Tq (zcH n v2) (TL 0)=J),(?_:Tq (zcH v1 v0) (TL 1)=J),(?_:Tq (zcH n v2) (TL 1)=J),(?_:Tq (zcH v1 v0) (TL 2)=J),(?_:Tq (zcH n v2) (TL 2)=J),(?_:Tq (zcH n v2) (TL 2)=J),(?_:Tq (zcH v1 v0) (TL 3)=J),(?_:Tq (zcH n v2) (TL 3)=J),(?_:Tq (zcH n v2) (TL 3)=J),.n 1,.a1 .lateO,.s [5,16,17,18] Pq,((by subst v0 v1 v2;simp_all):adjV (j1 n es)=S2 (λx=>S2 D.p x) (jD (j1 n es))),(?_:S2 (Tz (cw 1 0 (jD (j1 n es)))) (flR es)=flR es),.o (zed 1 (jD (j1 n es)))]) ο ο<;>subst v0 v1 v2<;>(first|exact G0 _ _|exact GZ _|exact Q5 rfl)
abbrev zh1(a:bV)(b:bY):aT:=[.lk (aq a) 0 1,S3,iI b]
abbrev fwH(es:List TO)(A:bv)(fs:bV):aT:=(zh1 fs (zj6 (zcD es) A))
theorem KN{l:bV}{a:Int}(ha:l[i]?=G a):Ni S5 3 (aq l) 0 0 i 0 (go a):=by
 have e1:(aq l)[i]?=G [go a]:=by simp[aq,ha]
 unfold Ni;simp[e1];rfl
theorem BK{l:bV}{a:Int}(hi:i<l.length):aY S5 (.lk (aq l) 0 1::rest) 3 (mW (.vp 0 0 i 0)) (go a)=G (.lk (aq (l.set i a)) 0 1::rest):=by
 have e1:(aq l)[i]?=G [go l[i]]:=by simp[aq,hi]
 unfold aY;simp only[List.getElem?_cons_zero,e1,if_true];simp[aq,List.map_set,List.set_cons_zero];rfl
theorem BL{l:bV}{z:Int}(hz:z=i)(hi:i<l.length):Φ z (aq l).length=J:=by grind [Φ,aq]
def fy(r:Int)(x:TO)(f:Int):Int:=match TY r 2==0 with
 |true=>S6.wrap (x.most-f)
 |false=>f
def yk(r:Int)(x:TO):Int:=match TY r 2==0 with
 |true=>x.to
 |false=>x.uR
abbrev zde(a:Nat)(b:Int):bY:=[mW (J0 a 0),go b]
abbrev zjA(a:Int):D:=(mW (.vp 0 0 (S9 (S8 S6 (TR a 2))) 0))
theorem cap_a(hq:S6.wrap (TR r 2)=(q:Int))(hx:ao (S6.wrap (TR r 2)) (zcD es) x.row 3)(hf:fs[S9 (S6.wrap (TR r 2))]?=G f)(hl:q<fs.length):(Ev S5 mX 195 (zde 2 r) (fwH es A fs) (go (fy r x f)) (fwH es A fs)):=by
 cases F3:TY r 2==0;·let v0:aT:=(zh1 fs (zbR es A));refine Tw (yF (h':=v0) (d:=go f) [(rfl:(!lL (2=0))=J),.b F3,(rfl:(!lL (2=0))=J),(?_:Φ (S8 S6 (TR r 2)) (S7 (aq fs))=J),(?_:@Eq (At) (aQ S5 v0 3 (zjA r)) (Ω f)),.a1 (zdf 33 f)]) (by subst v0;simp[fy,F3];done) (by subst v0;grind)<;>subst v0<;>(first|exact KN hf|exact BL hq hl)
 ·let v0:aT:=(zh1 fs (zbR es A));refine Tw (yF (h':=v0) (d:=go (S8 S6 (x.most-f))) [.b (rfl:(!lL (2=0))=J),F3,(rfl:(!lL (2=0))=J),.r hx,(rfl:(!lL (2=0))=J),(?_:Φ (S8 S6 (TR r 2)) (S7 (aq fs))=J),(?_:@Eq (At) (aQ S5 v0 3 (zjA r)) (Ω f)),.a1 (zdf 24 f)]) (by subst v0;simp[fy,F3];done) (by subst v0;grind)<;>subst v0<;>(first|exact KN hf|exact BL hq hl)
theorem end_a(hx:ao (S6.wrap (TR r 2)) (zcD es) x.row 3):(Ev S5 mX 193 (zde 2 r) (fwH es A fs) (go (yk r x)) (fwH es A fs)):=by
 cases F3:TY r 2==0;·exact Tw (yF (h':=(zh1 fs (zbR es A))) (d:=go x.uR) [(rfl:(!lL (2=0))=J),.b F3,(rfl:(!lL (2=0))=J),.r hx]) (by simp[yk,F3];done) uU
 ·exact Tw (yF (h':=(zh1 fs (zbR es A))) (d:=go x.to) [.b (rfl:(!lL (2=0))=J),F3,(rfl:(!lL (2=0))=J),.r hx]) (by simp[yk,F3];done) uU
def lD(r by':Int):Int:=match TY r 2==1 with
 |true=>S6.wrap (0-by')
 |false=>by'
abbrev zjE(a:bV)(b c e:Int):bV:=UE a (S9 (S8 S6 (TR b 2))) (S8 S6 (c+lD b e))
theorem push_a{A:List (List Dp)}{fs:List Int}{d:Int}(hq:S6.wrap (TR r 2)=(q:Int))(hf:fs[S9 (S6.wrap (TR r 2))]? = some f)(hl:q<fs.length)(hl2:S9 (S6.wrap (TR r 2))<fs.length):(Ev S5 mX 197 [.ref (.ptr 2 0),go r,go d] (fwH es A fs) (.Ρ []) (fwH es A (fs.set (S9 (S6.wrap (TR r 2))) (S6.wrap (f+lD r d))))):=by
 cases F3:TY r 2==1
 ·let v0:=UE fs (S9 (S8 S6 (TR r 2))) (S8 S6 (f+lD r d))
  let v1:List D:=[ab (S2 TO.row es),.ref (.lk 0 0),ab A]
  refine Tw (yF (h':=[.lk (aq v0) 0 1,.ν,.var v1]) (d:=TT []) [(rfl:(!lL (2=0))=true),.b F3,(rfl:(!lL (2=0))=true),(?_:Φ (S8 S6 (TR r 2)) (S7 (aq fs))=true),(?_:@Eq (Option D) (aQ S5 [.lk (aq fs) 0 1,.ν,.var v1] 3 (.ref (.vp 0 0 (S9 (S8 S6 (TR r 2))) 0))) (some (go f))),(?_:Φ (S8 S6 (TR r 2)) (S7 (aq fs))=true),((by subst v0 v1;(simp[lD,F3];exact BK hl2)):@Eq (Option (List F2)) (aY S5 [.lk (aq fs) 0 1,.ν,.var v1] 3 (.ref (.vp 0 0 (S9 (S8 S6 (TR r 2))) 0)) (go (S8 S6 (f+d)))) (some [.lk (aq v0) 0 1,.ν,.var v1])),.a1 (.ov 18 (go f)),.a1 (.oh 10021 D.any (fwH es A v0))]) (by subst v0 v1;grind) (by subst v0 v1;grind)<;>subst v0 v1<;>(first|exact KN hf|exact BL hq hl)
 ·let v0:=UE fs (S9 (S8 S6 (TR r 2))) (S8 S6 (f+lD r d))
  let v1:List D:=[ab (S2 TO.row es),.ref (.lk 0 0),ab A]
  refine Tw (yF (h':=[.lk (aq v0) 0 1,.ν,.var v1]) (d:=TT []) [.b (rfl:(!lL (2=0))=true),F3,(rfl:(!lL (2=0))=true),(?_:Φ (S8 S6 (TR r 2)) (S7 (aq fs))=true),(?_:@Eq (Option D) (aQ S5 [.lk (aq fs) 0 1,.ν,.var v1] 3 (.ref (.vp 0 0 (S9 (S8 S6 (TR r 2))) 0))) (some (go f))),(?_:Φ (S8 S6 (TR r 2)) (S7 (aq fs))=true),(?_:@Eq (Option (List F2)) (aY S5 [.lk (aq fs) 0 1,.ν,.var v1] 3 (.ref (.vp 0 0 (S9 (S8 S6 (TR r 2))) 0)) (go (S8 S6 (f+S8 S6 (0-d))))) (some [.lk (aq v0) 0 1,.ν,.var v1])),.a1 (.ov 18 (go f)),.a1 (.oh 10021 D.any (fwH es A v0))]) (by subst v0 v1;grind) (by subst v0 v1;grind)<;>subst v0 v1<;>(first|exact KN hf|exact BL hq hl|(simp only[lD,F3];exact BK hl2))
def KO(n:Int):Int:=(TB.wrap
     (TB.wrap
       (TB.wrap (V9 1 (2 ^ min (S9 32) 64)*n.fdiv (2 ^ min (S9 32) 64)) +(TB.wrap
           (TB.wrap
             (V9 1 (2 ^ min (S9 32) 64) *
              TB.wrap ↑(Tg 64 n &&& Tg 64 4294967295).toNat) +
            (TB.wrap
               (TB.wrap ↑(Tg 64 1 &&& Tg 64 4294967295).toNat *
                TB.wrap ↑(Tg 64 n &&& Tg 64 4294967295).toNat)).fdiv
             (2 ^ min (S9 32) 64))).fdiv
         (2 ^ min (S9 32) 64)) +
      (TB.wrap
         (TB.wrap
           ↑(Tg 64
               (TB.wrap
                (TB.wrap
                  (V9 1 (2 ^ min (S9 32) 64) *
                   TB.wrap ↑(Tg 64 n &&& Tg 64 4294967295).toNat) +
                 (TB.wrap
                    (TB.wrap ↑(Tg 64 1 &&& Tg 64 4294967295).toNat *
                     TB.wrap
                      ↑(Tg 64 n &&& Tg 64 4294967295).toNat)).fdiv
                  (2 ^ min (S9 32) 64))) &&&
              Tg 64 4294967295).toNat +
          TB.wrap
           (TB.wrap ↑(Tg 64 1 &&& Tg 64 4294967295).toNat *
            n.fdiv (2 ^ min (S9 32) 64)))).fdiv
       (2 ^ min (S9 32) 64)))
theorem Q6:∀n:Nat,n<4097->KO (n:Int)=0:=by
 have h:(List.range 4097).all (λn=>KO (n:Int)==0)=J:=Z
 grind
abbrev zcw(a:Int):Int:=(S8 TB (S8 TB (V9 1 (2 ^ min (S9 32) 64)*S8 TB (↑(Tu (Tg 64 a &&& Tg 64 4294967295)):Int))+V9 (S8 TB (S8 TB (↑(Tu (Tg 64 1 &&& Tg 64 4294967295)):Int)*S8 TB (↑(Tu (Tg 64 a &&& Tg 64 4294967295)):Int))) (2 ^ min (S9 32) 64)))
theorem Q7{n:Int}(h0:KO n=0)(h1:TB.wrap (1*n)=n)(h:aT):(Ev S5 mX 329 [u64 1,u64 n] h (JV [u64 0,u64 n]) h):=yD (TT [u64 (S8 TB (S8 TB (S8 TB (V9 1 (2 ^ min (S9 32) 64)*V9 n (2 ^ min (S9 32) 64))+V9 (zcw n) (2 ^ min (S9 32) 64))+V9 (S8 TB (S8 TB (↑(Tu (Tg 64 (zcw n) &&& Tg 64 4294967295)):Int)+S8 TB (S8 TB (↑(Tu (Tg 64 1 &&& Tg 64 4294967295)):Int)*V9 n (2 ^ min (S9 32) 64)))) (2 ^ min (S9 32) 64))),u64 (S8 TB (1*n))]) [(rfl:lL (0<=32)=J),(rfl:lL (0<=32)=J),(rfl:lL (0<=32)=J),(rfl:lL (0<=32)=J),(rfl:lL (0<=32)=J)] h (by(unfold KO at h0;rw[h0,h1]))
abbrev zgL(a:Nat):D:=(JV [u64 0,u64 (a:Int)])
theorem mul_ev(hn:n<4097)(hm:∀h,Ev S5 mX 329 [u64 1,u64 (n:Int)] h (zgL n) h)(h:aT):(Ev S5 mX 312 [u64 1,u64 (n:Int)] h (zgL n) h):=y0 [.e,.v (@hm ([]))] h
abbrev rpV(n m:Nat):List (bY):=aq (Ti m (-1)++Ti (n-m) 0)
theorem vk(h:m<=n):(rpV n m).length=n:=by unfold rpV;grind [ef]
abbrev zbb(a:List (bY)):aT:=[.lk [[go (-1)]] 0 1,.lk a 0 1]
abbrev rpH(n m:Nat):aT:=(zbb (rpV n m))
abbrev zfs:Nat×D:=(7,mW (.lk 1 0))
abbrev rpS(n m:Nat):AS:={t:=Bn 48 0 [zfs,(8,go (m:Int))],h:=rpH n m,m:=[]}
abbrev zgr(a:Nat):Ref:=(.vs 1 0 0 a Y)
theorem hs2x{L:Nat}{p q:Prop}{_:Decidable p}{_:Decidable q}(h0:0<m)(h1:m<L):G (lO 0 (m:Int) L&&J&&(J||b)&&J,if (0:Int)=0/\(m:Int)=(L:Int)/\p then Wb (.lk 1 0) else if (m:Int)=0/\¬((m:Int)=(L:Int)/\q) then cU (ci (m:Int) Y) [] else mW (.vs 1 0 (S9 0) ((m:Int).toNat-S9 0) (kh Y 0 (m:Int) Y)))=G (J,Wb (zgr m)):=by
 have e1:¬((m:Int)=(L:Int)):=tj
 have e2:¬((m:Int)=0):=tj
 have e3:lO 0 (m:Int) L=J:=by simp[lO];omega
 simp only[e1,e2,e3,false_and,and_false,if_false,Bool.true_or,Bool.and_true,UD,Int.toNat_zero,Nat.sub_zero];rfl
abbrev zan(a:Int)(b c d:Nat)(e:Int):D:=if (a:Int)=0/\(↑b:Int)=(↑(S7 (rpV c d)):Int)/\(Y:DO)=Y then mW (.lk 1 0) else if (↑b:Int)=e/\¬((↑b:Int)=(↑(S7 (rpV c d)):Int)/\(Y:DO)=Y) then cU (ci (↑b:Int) Y) [] else mW (.vs 1 0 (S9 e) (S9 (↑b:Int)-S9 e) (kh Y e (↑b:Int) Y))
abbrev zfn(a b:Nat):Ref:=(.vs 1 0 a (b-a) Y)
theorem Q8(hmk:m+k<=n)(xD:lL ((m:Int)<((rpV n m).length:Int))=J)(hw:S6.wrap ((m:Int)+(k:Int))=((m+k:Nat):Int))(hs1:∀g V,g[1]?=G (.lk V 0 1)->V.length=n->ej S5 g 32 zcO (G (go (m:Int))) Y Y=G (J,Wb (zfn m n)))(hm0:0<m)(hmL:m<(rpV n m).length)(hmK:m<(rpV n (m+k)).length)(hcp:ψ S5 (rpH n m) .copy [32,32] [mW (zfn m n),mW (zgr m)]=G (J,go (k:Int),rpH n (m+k))):(CW S5 mX H N (sub YH 0) (rpS n m) NO (rpS n (m+k))):=by let v0:=TU m (TP 0 (rpV n m));refine yX {t:=Bn 48 0 [zfs,(8,go (S8 S6 ((↑m:Int)+(↑k:Int))))],h:=(zbb (rpV n (m+k))),m:=[]} Tr [δ (τ [7,8])] [.b xD,(?_:@Eq (Option (Bool×D)) (G (lO (↑m:Int) (↑(S7 (rpV n m)):Int) (S7 (rpV n m))&&J&&(J||N)&&J,(zan (↑m) (S7 (rpV n m)) n m (↑m:Int)))) (G (J,Wb (zfn m n)))),(?_:@Eq (Option (Bool×D)) (G (lO 0 (↑m:Int) (S7 (rpV n m))&&J&&(J||J)&&J,(zan 0 m n m 0))) (G (J,Wb (zgr m)))),((by subst v0;assumption):@Eq (Option (Bool×D×aT)) (G (Tq v0 (aL 1),go (↑(min (S7 v0) (n-m)):Int),if min (S7 v0) (n-m)=0 then [.lk [[go (-1)]] 0 1,.lk (rpV n m) 0 1] else UE [.lk [[go (-1)]] 0 1,.lk (rpV n m) 0 1] 1 (.lk (TU m (rpV n m)++(TU (min (S7 v0) (n-m)) v0++TP (m+min (S7 v0) (n-m)) (rpV n m))) 0 1))) (G (J,go (↑k:Int),[.lk [[go (-1)]] 0 1,.lk (rpV n (m+k)) 0 1]))),(?_:@Eq (Option (Bool×D)) (G (lO (↑m:Int) (↑(S7 (rpV n m)):Int) (S7 (rpV n m))&&J&&(J||N)&&J,(zan (↑m) (S7 (rpV n m)) n m (↑m:Int)))) (G (J,Wb (zfn m n)))),(?_:@Eq (Option (Bool×D)) (G (lO 0 (↑m:Int) (S7 (rpV n m))&&J&&(J||J)&&J,(zan 0 m n m 0))) (G (J,Wb (zgr m)))),.a1 (zjr 41 (mW (zfn m n))),.a1 (zjr 44 (mW (zgr m))),.a1 (.oh 45 (go (↑k:Int)) (rpH n (m+k)))] (by subst v0;grind) (by subst v0;grind)<;>subst v0<;>(first|exact hs1 (rpH n m) _ rfl (vk tj)|exact hs2x hm0 hmL)
theorem Q9(xD:lL ((m:Int)<((rpV n m).length:Int))=N):(CW S5 mX H N (sub YH 0) (rpS n m) (η 0) {t:=Bn 48 0 [zfs],h:=rpH n m,m:=[]}):=yx (zeI 7) [.b xD]
abbrev zd8(a b:Int):Bool:=lL (0<=a)&&lL (a<=a)&&lL (a*b<=281474976710656)&&lL (a<=281474976710656)
abbrev zei:aT:=[.lk [[go (-1)]] 0 1]
abbrev zgK(a b:Nat)(c d:aT)(e:Nat)(f g:List (bY)):aT:=if min a (b)=0 then c else UE d 1 (.lk (TU e f++(TU (min a (b)) g++TP (e+min a (b)) f)) 0 1)
abbrev zha(a:Nat):D:=(go (S6.wrap (a:Int)))
theorem rp_a{V0 V1 Vn:List (bY)}(hn:lL ((n:Int)<0)=false)(hb:(lL ((0:Int)>0)||lL ((n:Int)>9223372036854775807))=false)(hm:∀h,Ev S5 mX 312 [u64 (TB.wrap 1),u64 (TB.wrap (n:Int))] h (zgL n) h)(hmk:tL S5 zei 32 (zha n) (zha n)=some (true,Wb (.lk 1 0),(zbb V0)))(hcp:ψ S5 (zbb V0) .copy [32,32] [.ref (.lk 1 0),.ref (.lk 0 0)]=some (true,go 1,(zbb V1)))(hl:CW S5 mX zei false (.loop (sub YH 0)) {t:=Bn 48 0 [zfs,(8,go 1)],h:=(zbb V1),m:=[]} (.exit 0) {t:=Bn 48 0 [zfs],h:=(zbb Vn),m:=[]}):(Ev S5 mX 271 [.ref (.lk 0 0),go (n:Int)] zei zcO (zbb Vn)):=by have Pq:=(@hl);let v0:aT:=(zbb V0);let v1:=S7 [[go (-1)]];refine Tw (yF (h':=(zbb Vn)) (d:=.ref (.lk 1 0)) [.b hn,.v (@hm (zei)),.b hb,(?_:@Eq (Option (Bool×D×aT)) (some ((zd8 (S8 S6 (↑n:Int)) (↑8:Int)),.ref (.lk 1 0),(zbb (Ti (S9 (S8 S6 (↑n:Int))) (ziz))))) (some (true,Wb (.lk 1 0),v0))),(?_:@Eq (Option (Bool×D×aT)) (some (Tq [[go (-1)]] (aL 1),go (↑(min v1 (S7 V0)):Int),(zgK v1 (S7 V0) v0 v0 0 V0 [[go (-1)]]))) (some (true,go 1,(zbb V1)))),.a1 (.oh 30 zcO v0),.a1 (.oh 33 (go 1) (zbb V1)),.s [7,8] Pq]) (by rfl) (by rfl)<;>subst v0 v1<;>(assumption)
theorem tyI:(fS S5 32,S5.underlying 32,zay S5 3,bytesOf S5 3,eA S5 3)=(G 3,G (.slice 3),G 1,G 8,G [go 0]):=Z
theorem rp_sl{g:aT}{V:List (bY)}(hb:g[1]?=G (.lk V 0 1))(hl:V.length=n)(h0:0<m)(hm:m<n):ej S5 g 32 zcO (G (go (m:Int))) Y Y=G (J,mW (zfn m n)):=by
 have h3:=tyI;simp only[Tk] at h3;have h4:lO (m:Int) n n=J:=by simp[lO];omega
 have h5:¬((m:Int)=0):=tj
 have h6:¬((n:Int)=(m:Int)):=tj
 simp only[ej,cZ,Dz,h3.2.1,h3.2.2.1,lR,hb,hl,if_true,zbJ,Option.map_some,zar,h4,h5,h6,gm,UD,if_false,Bool.and_self,Option.isNone_none,Bool.true_or,and_true,false_and];rfl
theorem repV(n m:Nat):aq (Ti m (-1)++Ti (n-m) 0)=Ti m [go (-1)]++Ti (n-m) [go 0]:=by simp[aq]
theorem rp_cp(h0:0<m)(hm:m<n):ψ S5 (rpH n m) .copy [32,32] [.ref (.vs 1 0 m (n-m) none),.ref (.vs 1 0 0 m none)]=some (true,go ((min m (n-m):Nat):Int),rpH n (m+min m (n-m))):=by
 have e0:ψ S5 (rpH n m) .copy [32,32] [.ref (.vs 1 0 m (n-m) none),.ref (.vs 1 0 0 m none)]=some (Tq (TU m (TP 0 (rpV n m))) (aL 1),go ((min (S7 (TU m (TP 0 (rpV n m)))) (n-m):Nat):Int),if min (S7 (TU m (TP 0 (rpV n m)))) (n-m)=0 then rpH n m else UE (rpH n m) 1 (.lk (TU m (rpV n m)++(TU (min (S7 (TU m (TP 0 (rpV n m)))) (n-m)) (TU m (TP 0 (rpV n m)))++TP (m+min (S7 (TU m (TP 0 (rpV n m)))) (n-m)) (rpV n m))) 0 1)):=by kernel_rfl
 rw[e0,List.drop_zero]
 have e1:TU m (rpV n m)=Ti m [go (-1)]:=by
  unfold rpV
  rw[repV]
  exact List.take_left' (by simp)
 have e2:min m (n-m)≠0:=by omega
 have e3:TP (m+min m (n-m)) (rpV n m)=Ti (n-(m+min m (n-m))) [go 0]:=by
  unfold rpV
  rw[repV,<-List.drop_drop,List.drop_left' (by simp),List.drop_replicate]
  congr 1
  omega
 have e4:(Ti m [go (-1)]).all (aL 1)=true:=by
  rw[TW]
  intro x hx
  rw[List.eq_of_mem_replicate hx]
  rfl
 rw[e1,List.length_replicate,e3,e4,if_neg e2,List.take_replicate]
 have e5:rpV n (m+min m (n-m))=Ti m [go (-1)]++(Ti (min (min m (n-m)) m) [go (-1)]++Ti (n-(m+min m (n-m))) [go 0]):=by
  unfold rpV
  rw[repV,<-List.append_assoc,List.replicate_append_replicate]
  congr 2
  omega
 grind
theorem rep_a(h1:2<=n)(hn:n<=4096):Ev S5 mX 271 [.ref (.lk 0 0),go (n:Int)] [.lk [[go (-1)]] 0 1] (.ref (.lk 1 0)) [.lk [[go (-1)]] 0 1,.lk (Ti n [go (-1)]) 0 1]:=by
 have hw:S6.wrap (n:Int)=(n:Int):=wrap_i64 (by omega) (by omega)
 have hw1:TB.wrap (1:Int)=1:=by decide
 have hw2:TB.wrap (n:Int)=(n:Int):=by
  have e:TB.wrap (n:Int)=(n:Int) % 18446744073709551616:=rfl
  rw[e,Int.emod_eq_of_lt (by omega) (by omega)]
 have hm (h:List F2):Ev S5 mX 312 [u64 (TB.wrap 1),u64 (TB.wrap (n:Int))] h (.Ρ [u64 0,u64 (n:Int)]) h:=by
  rw[hw1,hw2]
  exact mul_ev (by omega) (λh=>Q7 (Q6 n (by omega)) (by grind) h) h
 have hmk:tL S5 [.lk [[go (-1)]] 0 1] 32 (go (S6.wrap (n:Int))) (go (S6.wrap (n:Int)))=some (true,.ref (.lk 1 0),[.lk [[go (-1)]] 0 1,.lk (Ti n [go 0]) 0 1]):=by
  have h3:=tyI
  simp only[Tk] at h3
  rw[hw]
  have e:(lL (0<=(n:Int))&&lL ((n:Int)<=(n:Int))&&lL ((n:Int)*((8:Nat):Int)<=281474976710656)&&lL ((n:Int)<=281474976710656))=true:=by simp;omega
  simp only[tL,zar,h3.1,h3.2.2.1,h3.2.2.2.1,h3.2.2.2.2,Ue,List.length_nil,Nat.zero_add,if_true,e,UD]
  rfl
 have hcp:ψ S5 [.lk [[go (-1)]] 0 1,.lk (Ti n [go 0]) 0 1] .copy [32,32] [.ref (.lk 1 0),.ref (.lk 0 0)]=some (true,go 1,[.lk [[go (-1)]] 0 1,.lk (rpV n 1) 0 1]):=by
  obtain⟨k,rfl⟩:∃k,n=k+1:=⟨n-1,by omega⟩
  have e1:rpV (k+1) 1=[go (-1)]::Ti k [go 0]:=by unfold rpV;rw[repV,Nat.add_sub_cancel];rfl
  rw[e1]
  rfl
 have hl:CW S5 mX [.lk [[go (-1)]] 0 1] false (.loop (sub YH 0)) (rpS n 1) (.exit 0) {t:=Bn 48 0 [(7,.ref (.lk 1 0))],h:=rpH n n,m:=[]}:=by
  refine CW.loop (ι:={m:Nat // 1<=m/\m<=n}) (λm=>rpS n m.1) (λ_=>(.exit 0,{t:=Bn 48 0 [(7,.ref (.lk 1 0))],h:=rpH n n,m:=[]})) (λm=>n-m.1) ?_ ⟨1,by omega,by omega⟩
  rintro⟨m,g1,g2⟩
  by_cases h:m<n
  ·refine .inl ⟨⟨m+min m (n-m),by omega,by omega⟩,by grind,rfl,?_⟩
   have hL:(rpV n m).length=n:=vk g2
   have hL2:(rpV n (m+min m (n-m))).length=n:=vk (by omega)
   exact Q8 (n:=n) (m:=m) (k:=min m (n-m)) (by omega) (by grind) (by rw[wrap_i64 (by omega) (by omega)];omega) (λg V hb hl=>rp_sl hb hl (by omega) h) (by omega) (by omega) (by omega) (rp_cp (by omega) h)
  ·have:m=n:=by omega
   subst this
   refine .inr ⟨by simp,Q9 ?_⟩
   have hL:(rpV m m).length=m:=vk (Nat.le_refl _)
   rw[hL];simp
 have h0:=rp_a (V0:=Ti n [go 0]) (V1:=rpV n 1) (Vn:=rpV n n) (n:=n) (by simp) (by simp;omega) hm hmk hcp hl
 have e1:rpV n n=Ti n [go (-1)]:=by unfold rpV;rw[repV,Nat.sub_self];simp
 grind
theorem BM{es:List TO}{A:bv}{fs:bV}{r f:Int}{x:TO}{q:Nat}(hq:S6.wrap (TR r 2)=(q:Int))(hx:ao (S6.wrap (TR r 2)) (zcD es) x.row 3)(hf:fs[S9 (S6.wrap (TR r 2))]?=G f)(hl:q<fs.length):Ev S5 mX 195 (zde 2 r) (fwH es A fs) (go (fy r x f)) (fwH es A fs):=cap_a hq hx hf hl
theorem BN{es:List TO}{A:bv}{fs:bV}{r:Int}{x:TO}(hx:ao (S6.wrap (TR r 2)) (zcD es) x.row 3):Ev S5 mX 193 (zde 2 r) (fwH es A fs) (go (yk r x)) (fwH es A fs):=end_a hx
abbrev zaZ:Nat×D:=(zjy 6 4)
abbrev za3:Nat×D:=(zjy 5 3)
abbrev za6:Nat×D:=(zjy 7 8)
abbrev za9:Nat×D:=(zjy 0 2)
abbrev zj3:bY:=[mW (J0 9 0),mW (J0 10 0)]
abbrev zbi:bY:=zj3
abbrev zja(a:Int):bY:=Bn 59 0 [za9,za3,zaZ,za6,(8,go a),(39,.fn (.func 313) [] zbi)]
noncomputable abbrev usL(v:Int)(st:LoopState)(pd:On):F2:=χ st pd 0 (zja v) #[40,41] (ax (sub TD 1)) (ak (sub TD 1))
noncomputable abbrev usH(es:List TO)(A:bv)(fs:bV)(v:Int)(b3 b4 b5 b6 b7 b8:F2)(st:LoopState)(pd:On):aT:=[.lk (aq fs) 0 1,S3,iI (zj6 (zcD es) A),b3,b4,b5,b6,b7,b8,iI zbp,iI [go v],Ζ,usL v st pd]
abbrev zda(a:Nat):Nat×D:=(2,mW (J0 a 0))
noncomputable abbrev usS(es:List TO)(A:bv)(fs:bV)(v:Int)(B:bv)(b3 b4 b5 b6 b7 b8:F2)(j:Int):AS:={t:=Bn 32 0 [(zfJ 12),(zb9 9),(zda 10),(12,ab B),(13,go (B.length:Int)),(14,go j)],h:=usH es A fs v b3 b4 b5 b6 b7 b8 ζ Y,m:=[]}
abbrev zhm(b:Int)(c:bY):bY:=(Bn 59 0 [(zjy 0 2),(zjy 5 3),(zjy 6 4),(zjy 7 8),(8,go b),(39,UL (TM 313) [] c)])
abbrev Z7(a:Int):bY:=(zhm a zj3)
abbrev ziC:Array Tmp:={toList:=[40,41]}
abbrev zci:Array Tmp:=ziC
noncomputable abbrev vn(es:List TO)(A:bv)(fs:bV)(v:Int)(b3:F2)(b4:F2)(b5:F2)(c6:F2)(c7:F2)(c8:F2):aT:=[.lk (aq fs) 0 1,S3,iI (zbR es A),b3,b4,b5,c6,c7,c8,iI zbp,iI [go v],Ζ,χ TJ Y 0 (Z7 v) zci (ax (sub TD 1)) (ak (sub TD 1))]
theorem us_no(hq:S6.wrap (TR r 2)=(q:Int))(hx:ao (S6.wrap (TR r 2)) (zcD es) x.row 3)(hf:fs[S9 (S6.wrap (TR r 2))]?=G f)(hl:q<fs.length)(hr:ao (j:Int) B [vi r] 1)(xD:lL ((j:Int)<(B.length:Int))=J)(hw:S6.wrap ((j:Int)+1)=((j+1:Nat):Int))(hc:lL (fy r x f>0)=N):(CW S5 mX (usH es A fs v b3 b4 b5 b6 b7 b8 ζ Y) N (sub Xq 0) (usS es A fs v B b3 b4 b5 c6 c7 c8 j) NO (usS es A fs v B b3 b4 b5 c6 c7 c8 ((j+1:Nat):Int))):=by refine yX {t:=Bn 32 0 [(zfJ 12),(zb9 9),(zda 10),(12,ab B),(zcI 13 (S7 B)),(14,(ZZ j))],h:=(vn es A fs v b3 b4 b5 c6 c7 c8),m:=[]} Tr [δ (τ [0,1,2,12,13,14])] [.b xD,.r hr,.v ((fX [0,1,2] (@BM es A fs r f x q hq hx hf hl) ⟨?_,trivial⟩ ⟨?_,trivial⟩):Ev S5 mX 195 (zde 2 r) (vn es A fs v b3 b4 b5 c6 c7 c8) (go (fy r x f)) (vn es A fs v b3 b4 b5 c6 c7 c8)),.g ((by rw[hc]<;>rfl):(lL (fy r x f>0)==J)=N),.g ((by rw[hc]<;>rfl):(lL (fy r x f>0)==J)=N),.g ((by rw[hc]<;>rfl):(lL (fy r x f>0)==J)=N),.g ((by rw[hc]<;>rfl):(lL (fy r x f>0)==J)=N),.g ((by rw[hc]<;>rfl):(lL (fy r x f>0)==J)=N),.g ((by rw[hc]<;>rfl):(lL (fy r x f>0)==J)=N),.g ((by rw[hc]<;>rfl):(lL (fy r x f>0)==J)=N),((cA hc rfl):bl (kr (lL (fy r x f>0))) (D.p (Dp.v (Value.tuple {toList:=[]}))) (kr N) (kr N)),.a1 (zdu 30),.e] uU uU<;>(exact bq _ _)
noncomputable abbrev G1(es:List TO)(A:bv)(fs:bV)(v:Int)(b3:F2)(b4:F2)(b5:F2)(d6:F2)(d7:F2)(d8:F2):aT:=[.lk (aq fs) 0 1,S3,iI (zbR es A),b3,b4,b5,d6,d7,d8,iI zbp,iI [go v],Ζ,χ TJ Y 0 (Z7 v) zci (ax (sub TD 1)) (ak (sub TD 1))]
noncomputable abbrev lE(es:List TO)(A:bv)(fs:bV)(v:Int)(b3:F2)(b4:F2)(b5:F2)(c6:F2)(c7:F2)(c8:F2):aT:=[.lk (aq fs) 0 1,S3,iI (zbR es A),b3,b4,b5,c6,c7,c8,iI zbp,iI [go v],Ζ,χ TJ Y 0 (Z7 v) zci (ax (sub TD 1)) (ak (sub TD 1))]
theorem us_yes{u:Int}(hq:S6.wrap (TR r 2)=(q:Int))(hx:ao (S6.wrap (TR r 2)) (zcD es) x.row 3)(hf:fs[S9 (S6.wrap (TR r 2))]?=G f)(hl:q<fs.length)(hr:ao (j:Int) B [vi r] 1)(xD:lL ((j:Int)<(B.length:Int))=J)(hw:S6.wrap ((j:Int)+1)=((j+1:Nat):Int))(hc:lL (fy r x f>0)=J)(hu:yk r x=u)(hy:Iv S5 mX (mW (.yl 12)) [go r,go (yk r x)] (usH es A fs v b3 b4 b5 c6 c7 c8 ζ Y) (kr J) (usH es A fs v b3 b4 b5 d6 d7 d8 ζ Y)):(CW S5 mX (usH es A fs v b3 b4 b5 b6 b7 b8 ζ Y) N (sub Xq 0) (usS es A fs v B b3 b4 b5 c6 c7 c8 j) NO (usS es A fs v B b3 b4 b5 d6 d7 d8 ((j+1:Nat):Int))):=by refine yX {t:=Bn 32 0 [(zfJ 12),(zb9 9),(zda 10),(12,ab B),(zcI 13 (S7 B)),(14,(ZZ j))],h:=(G1 es A fs v b3 b4 b5 d6 d7 d8),m:=[]} Tr [δ (τ [0,1,2,12,13,14])] [.b xD,.r hr,.v ((fX [0,1,2] (@BM es A fs r f x q hq hx hf hl) ⟨?_,trivial⟩ ⟨?_,trivial⟩):Ev S5 mX 195 (zde 2 r) (lE es A fs v b3 b4 b5 c6 c7 c8) (go (fy r x f)) (lE es A fs v b3 b4 b5 c6 c7 c8)),.g ((by rw[hc]<;>rfl):(lL (fy r x f>0)==J)=J),.g ((by rw[hc]<;>rfl):(lL (fy r x f>0)==J)=J),.g ((by rw[hc]<;>rfl):(lL (fy r x f>0)==J)=J),.g ((by rw[hc]<;>rfl):(lL (fy r x f>0)==J)=J),.g ((by rw[hc]<;>rfl):(lL (fy r x f>0)==J)=J),.v ((fX [0,1,2] (@BN es A fs r x hx) ⟨?_,trivial⟩ ⟨?_,trivial⟩):Ev S5 mX 193 (zde 2 r) (lE es A fs v b3 b4 b5 c6 c7 c8) (go (yk r x)) (lE es A fs v b3 b4 b5 c6 c7 c8)),.g ((by rw[hc]<;>rfl):(lL (fy r x f>0)==J)=J),.j (@hy),.g ((by rw[hc]<;>rfl):(lL (fy r x f>0)==J)=J),((bN hc rfl):bl (kr (lL (fy r x f>0))) (kr !true) (kr N) (kr !true)),.a1 (zjr 30 (kr !true)),.e] uU uU<;>(exact bq _ _)
noncomputable abbrev jl(es:List TO)(A:bv)(fs:bV)(v:Int)(b3:F2)(b4:F2)(b5:F2)(c6:F2)(c7:F2)(c8:F2):aT:=[.lk (aq fs) 0 1,S3,iI (zbR es A),b3,b4,b5,c6,c7,c8,iI zbp,iI [go v],Ζ,χ TJ Y 0 (Z7 v) zci (ax (sub TD 1)) (ak (sub TD 1))]
theorem us_stop{u:Int}(hq:S6.wrap (TR r 2)=(q:Int))(hx:ao (S6.wrap (TR r 2)) (zcD es) x.row 3)(hf:fs[S9 (S6.wrap (TR r 2))]? = some f)(hl:q<fs.length)(hr:ao (j:Int) B [vi r] 1) (xD:lL ((j:Int)<(B.length:Int))=true) (hc:lL (fy r x f>0)=true)(hy:Iv S5 mX (.ref (.yl 12)) [go r,go (yk r x)] (usH es A fs v b3 b4 b5 c6 c7 c8 .ready none) (kr false) (usH es A fs v b3 b4 b5 d6 d7 d8 .done (some (.exit 0)))):(CW S5 mX (usH es A fs v b3 b4 b5 b6 b7 b8 .ready none) false (sub Xq 0) (usS es A fs v B b3 b4 b5 c6 c7 c8 j) .ret {t:=Bn 32 0 [],h:=usH es A fs v b3 b4 b5 d6 d7 d8 .done (some (.exit 0)),m:=[]}):=by refine yx zbN [.b xD,.r hr,.v ((fX [0,1,2] (@BM es A fs r f x q hq hx hf hl) ⟨?_,trivial⟩ ⟨?_,trivial⟩):Ev S5 mX 195 (zde 2 r) (jl es A fs v b3 b4 b5 c6 c7 c8) (go (fy r x f)) (jl es A fs v b3 b4 b5 c6 c7 c8)),.g ((by rw[hc]<;>rfl):(lL (fy r x f>0)==true)=true),.g ((by rw[hc]<;>rfl):(lL (fy r x f>0)==true)=true),.g ((by rw[hc]<;>rfl):(lL (fy r x f>0)==true)=true),.g ((by rw[hc]<;>rfl):(lL (fy r x f>0)==true)=true),.g ((by rw[hc]<;>rfl):(lL (fy r x f>0)==true)=true),.v ((fX [0,1,2] (@BN es A fs r x hx) ⟨?_,trivial⟩ ⟨?_,trivial⟩):Ev S5 mX 193 (zde 2 r) (jl es A fs v b3 b4 b5 c6 c7 c8) (go (yk r x)) (jl es A fs v b3 b4 b5 c6 c7 c8)),.g ((by rw[hc]<;>rfl):(lL (fy r x f>0)==true)=true),.j (@hy),.g ((by rw[hc]<;>rfl):(lL (fy r x f>0)==true)=true),((bN hc rfl):bl (kr (lL (fy r x f>0))) (kr !false) (kr false) (kr !false)),.a1 (.ov 30 (kr !false)),.e]<;>(exact bq _ _)
theorem Ra(xD:lL ((j:Int)<(B.length:Int))=N):(CW S5 mX (usH es A fs v b3 b4 b5 b6 b7 b8 ζ Y) N (sub Xq 0) (usS es A fs v B b3 b4 b5 c6 c7 c8 j) (η 0) {t:=Bn 32 0 [],h:=usH es A fs v b3 b4 b5 c6 c7 c8 ζ Y,m:=[]}):=yx zbN [.b xD]
end Go.Vi
