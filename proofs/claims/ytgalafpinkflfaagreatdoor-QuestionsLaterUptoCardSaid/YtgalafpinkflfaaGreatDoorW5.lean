/- A part of the proof; no conditions of its own. -/
import Derived.Test.YtgalafpinkflfaaGreatDoorW4
open Bool renaming true->J,false->N
open Option renaming some->G,none->Y
open Go.Vi.η renaming st->E6,ov->zfG,inl->Τ
open Go.Vi.D renaming Pp->uN,agg->mS,ref->gM
open Go.Vi.ql renaming var->eP,δ->NH,EZ->xx,loop->Js
open Go.Vi.SOp renaming P1->zlw,mask->IW,frz->Λ
open Go.LoopState renaming ready->EV,exhausted->zca,busy->Ρ
open Go.Exit renaming exit->EY,normal->w8
open Go.Vi.Ref renaming ptr->qn
open Decidable renaming decide -> fE
open Go.Vi.D renaming θ -> Tz, zbk -> TL, fn -> UL, Pp -> TT, ref -> Wb
open Go.Vi.uS renaming row -> Tb
open Go.IntKind renaming i64 -> S6, wrap -> S8, u64 -> TB
open Go.Proofs.Tryz renaming prog -> S5, f112 -> Uc, f198 -> U9, f190 -> UO, f271 -> YH, f191 -> TD, f313 -> Xq
open List renaming map -> S2, length -> S7, all -> Tq, foldl_cons -> TG, getElem?_eq_some_iff -> Td, foldl -> TE, length_cons -> Ue, set -> UE, drop -> TP, replicate -> Ti, getElem?_set_self -> UA, set_set -> YN, all_eq_true -> TW, take -> TU
open Go.Vi.E7 renaming row -> Ts
open Go.Exit renaming normal -> Tr
open Go.Value renaming oneCell' -> Up, cells -> Yn
open Go.Vi.ql renaming inn -> Tl
open Go.Vi.CW renaming each -> UR
open Go.LoopState renaming busy -> TX, ready -> TJ, exhausted -> Uu
open Go.Fn renaming func -> TM
open Go.Vi.Ev renaming zkJ -> Tw
open Int renaming toNat -> S9, toNat_natCast -> UD, tmod -> TY, tdiv -> TR, fdiv -> V9
open Go.Vi.NB renaming run -> Zb
open BitVec renaming ofInt -> Tg, toNat -> Tu
open Prod.mk renaming injEq -> Tk
open Go Go.Proofs
namespace Go.Vi
set_option maxRecDepth 100000
set_option maxHeartbeats 4000000
variable {A B:bv}{H rest:aT}{R fl:List (bY)}{a:uS}{b:Bool}{b3 b4 b5 b6 b7 b8 c6 c7 c8 d6 d7 d8:ql}{e i j k m n q u:Nat}{f mid r sink v:Int}{fs:bV}{l:iN}{p:jW}{ys:oR}
abbrev Or:=List E7
abbrev Is:=List jW
structure zj where
 lk:Int
 to:Int
 most:Int
 deriving Inhabited
variable {e0 es:List zj}{x:zj}
def zj.row(e:zj):dO:=[vi e.lk,vi e.to,vi e.most]
def eh(l:List zj):List (bY):=l.map λe=>[eO e.lk,eO e.to,eO e.most]
theorem dL(l:List zj)(a b c:Int):eh l++[[eO a,eO b,eO c]]=eh (l++[⟨a,b,c⟩]):=by simp[eh]
theorem vf(l:List zj):(eh l).length=l.length:=by simp[eh]
theorem lB(f:Ref->D)(l:List zj):(eh l).map (Tz f)=eh l:=by simp[eh,Tz,D.FK]
theorem oE(n:Nat)(l:List zj):(eh l).all (TL n)=J:=by simp[eh,TL,D.inn]
theorem KH(l:List zj):eh l=(l.map zj.row).map (·.map .p):=by simp[eh,zj.row]
abbrev zeK:bY:=[gM (.eY 4 0)]
abbrev nH(p:jW)(l:iN)(mid:Int)(es:List zj):aT:=[eP p.l,eP (zc5 l),eP zeK,eP [eO mid],.eY (eh es) 0 3]
abbrev zaH:Nat×D:=(ziy 5)
abbrev zbX:Nat×D:=(zhA 7 3)
abbrev zdL(a:iN):D:=eO ((a.map Tb).length:Int)
abbrev n1S(p:jW)(l:iN)(mid sink:Int)(es:List zj)(i:Int):AS:={t:=qm 97 0 [zaU,zbr,zaH,zbX,(8,eO sink),(37,ab (l.map Tb)),(38,(zdL l)),(39,eO i)],h:=nH p l mid es,m:=[]}
abbrev n1E(p:jW)(l:iN)(mid sink:Int)(es:List zj):AS:={t:=qm 97 0 [zaU,zbr,zaH,zbX,(8,eO sink)],h:=nH p l mid es,m:=[]}
def n1F(p:jW)(s:List zj×Int)(a:uS):List zj×Int:=(s.1++[⟨0,S6.wrap (1+s.2),S6.wrap (a.ia*p.IY)⟩],s.2+1)
abbrev ZI(a:jW):bY:=(zhV a (ab (S2 Ts a.reqs)))
theorem QR{l:List uS}(hr:ao (i:Int) (l.map Tb) a.row 5)(oA:fE ((i:Int)<((l.map Tb).length:Int))=true)(hw:S6.wrap ((i:Int)+1)=((i+1:Nat):Int))(hl:es.length<=100000000):(CW S5 ji [] false (sub Uc 0) (n1S p l mid sink es i) .normal (n1S p l mid sink (n1F p (es,(i:Int)) a).1 ((i+1:Nat):Int))):=by
 refine yX {t:=qm 97 0 [(2,.ref (.ptr 0 0)),(3,.ref (.ptr 1 0)),(5,.ref (.ptr 2 0)),(7,.ref (.ptr 3 0)),(8,eO sink),(37,ab (S2 Tb l)),(38,eO (↑(S7 (S2 Tb l)):Int)),(39,eO (S8 S6 ((↑i:Int)+1)))],h:=[.var [am p.nm,eO p.number,eO p.IY,eO p.CE,eO p.num,eO p.den,ab (S2 Ts p.reqs)],.var [ab (S2 Tb l)],.var [.ref (.eY 4 0)],.var [eO mid],.eY (eh es++[[eO 0,eO (S8 S6 (1+(↑i:Int))),eO (S8 S6 (a.ia*p.IY))]]) 0 3],m:=[]} Tr [.st (.mask [2,3,5,7,8,37,38,39]),.st (.ren 4 0),.st (.P1 5)] [.b oA,.r hr,((by grind [dL,aL,D.one,Up,uO,vf]):(Tq [[eO 0,eO (S8 S6 (1+(↑i:Int))),eO (S8 S6 (a.ia*p.IY))]] (aL 3)&&uO (S7 (eh es)+S7 [[eO 0,eO (S8 S6 (1+(↑i:Int))),eO (S8 S6 (a.ia*p.IY))]]) 24)=true),(?_:S2 (Tz (ar 4 1 0)) (eh es++[[eO 0,eO (S8 S6 (1+(↑i:Int))),eO (S8 S6 (a.ia*p.IY))]])=eh es++[[eO 0,eO (S8 S6 (1+(↑i:Int))),eO (S8 S6 (a.ia*p.IY))]]),pr [[eO 0,eO (S8 S6 (1+(↑i:Int))),eO (S8 S6 (a.ia*p.IY))]],(rfl:Tl 5 (match 0==4 with|true=>.eY (eh es++[[eO 0,eO (S8 S6 (1+(↑i:Int))),eO (S8 S6 (a.ia*p.IY))]]) 0 3|false=>CV (ar 4 1 0) (.var [am p.nm,eO p.number,eO p.IY,eO p.CE,eO p.num,eO p.den,ab (S2 Ts p.reqs)]))=true),(rfl:Tl 5 (match 0+1==4 with|true=>.eY (eh es++[[eO 0,eO (S8 S6 (1+(↑i:Int))),eO (S8 S6 (a.ia*p.IY))]]) 0 3|false=>CV (ar 4 1 0) (.var [ab (S2 Tb l)]))=true),(rfl:Tl 5 (match 0+1+1==4 with|true=>.eY (eh es++[[eO 0,eO (S8 S6 (1+(↑i:Int))),eO (S8 S6 (a.ia*p.IY))]]) 0 3|false=>CV (ar 4 1 0) (.var [.ref (.eY 4 1)]))=true),(rfl:Tl 5 (match 0+1+1+1==4 with|true=>.eY (eh es++[[eO 0,eO (S8 S6 (1+(↑i:Int))),eO (S8 S6 (a.ia*p.IY))]]) 0 3|false=>CV (ar 4 1 0) (.var [eO mid]))=true),(?_:Tl 5 (match 0+1+1+1+1==4 with|true=>.eY (eh es++[[eO 0,eO (S8 S6 (1+(↑i:Int))),eO (S8 S6 (a.ia*p.IY))]]) 0 3|false=>CV (ar 4 1 0) (.eY (eh es++[[eO 0,eO (S8 S6 (1+(↑i:Int))),eO (S8 S6 (a.ia*p.IY))]]) 1 3))=true)] (by grind) (by simp only[n1F,hw,dL];rfl)<;>(first|(rw[dL];exact lB _ _)|(rw[dL];exact oE _ _))
theorem QS(oA:fE ((i:Int)<((l.map Tb).length:Int))=N):(CW S5 ji [] N (sub Uc 0) (n1S p l mid sink es i) (EY 0) (n1E p l mid sink es)):=yx [E6 (IW [2,3,5,7,8])] [.b oA]
theorem Mr:∀(l:iN) (s:List zj×Int),(l.foldl (n1F p) s).1.length=s.1.length+l.length
 | [],s=>rfl
 |a::l,s=>by rw[TG,Mr l];simp[n1F];omega
theorem n1_cw{p:jW}{l:iN}{mid sink:Int}(hl:l.length<=50000):CW S5 ji [] false (.loop (sub Uc 0)) (n1S p l mid sink [] 0) (.exit 0) (n1E p l mid sink (l.foldl (n1F p) ([],0)).1):=by
 have:=UR (P:=S5) (Γ:=ji) (h0:=[]) (rd:=false) (c:=sub Uc 0) (σ:=List zj×Int) (ρ:=Empty) l (λa s=>.inl (n1F p s a))
  (λi s=>n1S p l mid sink s.1 (i:Int)) (.exit 0) (λs=>n1E p l mid sink s.1) (λr=>r.elim) (λi s=>s.2=i/\s.1.length<=i) (by simp) (λr=>r.elim) ?_ ?_ ([],0) (by simp)
 ·rw[aM] at this;exact this
 ·rintro i a ⟨es,k⟩ hc ⟨hk,he⟩;simp only at hk he;subst hk;have hi:=(Td.1 hc).1;refine⟨λs' h=>?_,QR (rowAt hc rfl) (F1 Tb hi) (sV hi (by omega)) (show es.length<=100000000 by omega)⟩;grind [n1F]
 ·intro s _;exact QS (aR Tb l)
abbrev npT(sink:Int):bY:=qm 97 0 [zaU,zbr,zaH,zbX,(8,eO sink),(58,.fn (.func 198) [] (zhW 6 5))]
noncomputable abbrev npL(sink:Int)(st:LoopState):ql:=Js st Y 0 (npT sink) #[59,60] (ax (sub Uc 1)) (ak (sub Uc 1))
noncomputable abbrev npH(p:jW)(l:iN)(mid sink:Int)(es:List zj)(e:Nat)(st:LoopState)(more:aT):aT:=[eP p.l,eP (zc5 l),eP (zbn 4 e),eP [eO mid],.eY (eh es) e 3,eP p.l,eP (zc5 l),NH,npL sink st]++more
abbrev npU(sink i k:Int):bY:=qm 97 0 [zaU,zbr,zaH,zbX,(8,eO sink),(11,eO i),(12,eO k)]
abbrev zbD(b:uS):aT:=[eP (b.row.map .p)]
theorem np_asg{i k:Int}:(CW S5 ji (npH p l mid sink es 1 EV (zbD a)) J (ax (sub Uc 1)) {t:=dD (npT sink) [(59,eO i),(60,eO k)],h:=npH p l mid sink es 1 EV (zbD a),m:=[]} w8 {t:=npU sink i k,h:=npH p l mid sink es 1 EV (zbD a),m:=[]}):=yx [E6 (IW [2,3,5,7,8,11,12])] []
def n2F(mid i cr:Int)(es:List zj)(k:Int):List zj:=es++[⟨S6.wrap (1+i),S6.wrap (mid+k),cr⟩]
abbrev Z9(a:Int):bY:=(qm 97 0 [(zhA 2 0),(zhA 3 1),(ziy 5),(zhA 7 3),(8,eO a),(58,UL (TM 198) [] (zhW 6 5))])
abbrev zcV:Array Tmp:={toList:=[59,60]}
abbrev zey(a:Nat):At:=(G (gM (.eY a 1)))
abbrev zgm(a:Nat):Do:=[E6 (IW []),E6 (zlw a)]
theorem QT{i k:Int}(hr:ao i (l.map Tb) a.row 5)(hl:es.length<=100000000):(CW S5 ji (npH p l mid sink es 1 EV (zbD a)) J (ak (sub Uc 1)) {t:=npU sink i k,h:=npH p l mid sink es 1 Ρ (zbD a),m:=[]} w8 {t:=qm 97 0 [],h:=npH p l mid sink (n2F mid i a.ia es k) 2 Ρ (zbD a),m:=[]}):=by let v0:bY:=(zh9 (S8 S6 (1+i)) (S8 S6 (mid+k)) a.ia);let v1:bY:=(zex l);let v2:=S2 Ts p.reqs;let v3:bY:=(ZL a);exact yX {t:=qm 97 0 [],h:=[eP (ZN p v2),eP v1,eP (zbn 4 2),eP [eO mid],.eY (eh es++[v0]) 2 3,eP (ZN p v2),eP v1,NH,Js TX Y 0 (Z9 sink) zcV (ax (sub Uc 1)) (ak (sub Uc 1)),eP v3],m:=[]} Tr (zgm 10) [.r hr,((by subst v0 v1 v2 v3;grind [dL,aL,D.one,Up,uO,vf]):(Tq [v0] (aL 3)&&uO (S7 (eh es)+S7 [v0]) 24)=J),po (zey 4),po (zey 4),po (TO mid),po (G (ab (S2 Tb l))),bi 10 (eP (ZN p v2)),bi 10 (eP v1),bi 10 (eP (zbn 4 2)),bi 10 (zfm mid),((by subst v0 v1 v2 v3;(rw[dL];exact oE _ _)):Tl 10 (.eY (eh es++[v0]) 2 3)=J),bi 10 (eP (ZN p v2)),bi 10 (eP v1),bi 10 NH,bi 10 (Js TX Y 0 (Z9 sink) zcV (ax (sub Uc 1)) (ak (sub Uc 1))),bi 10 (eP v3)] (by subst v0 v1 v2 v3;grind) (by subst v0 v1 v2 v3;simp only[n2F,dL];rfl)
theorem QU{p:jW}{l:iN}{a:uS}{mid sink:Int}{es:List zj}{i k:Int}(hr:ao i (l.map Tb) a.row 5)(hl:es.length<=100000000):Iv S5 ji (gM (.yl 8)) [eO i,eO k] (npH p l mid sink es 1 EV (zbD a)) (eR J) (npH p l mid sink (n2F mid i a.ia es k) 2 EV (zbD a)) :=Iv.round (h1:=npH p l mid sink es 1 EV (zbD a)) rfl rfl np_asg rfl (QT hr hl) rfl
abbrev zb9(a:Nat):Nat×D:=(1,gM (qn a 0))
abbrev zeU(a:Nat)(b:iN):Nat×D:=(a,ab (b.map Tb))
noncomputable abbrev n2S(p:jW)(l:iN)(a:uS)(mid sink:Int)(ks:bV)(i:Int)(es:List zj)(j:Int):AS:={t:=qm 30 0 [zen,(zb9 6),zdr,(4,eO i),(zeU 8 l),(9,(zdL l)),(10,eO i),(17,ab (aA ks)),(18,(zic (aA ks))),(19,eO j)],h:=npH p l mid sink es 1 EV (zbD a),m:=[]}
abbrev zbQ(a b c:Nat)(d:iN)(e:Int):bY:=qm 30 0 [(0,gM (.yl a)),(zhA 1 b),(zhA 2 c),(8,ab (d.map Tb)),(9,(zic (d.map Tb))),(10,eO e)]
noncomputable abbrev n2E(p:jW)(l:iN)(a:uS)(mid sink:Int)(i:Int)(es:List zj):AS:={t:=(zbQ 8 6 5 l i),h:=npH p l mid sink es 1 EV (zbD a),m:=[]}
abbrev zcr:bY:=[gM (.eY 4 1)]
theorem QV{l:List uS}{ks:List Int}{i k:Int}(hr:ao i (l.map Tb) a.row 5)(hk:ao (j:Int) (aA ks) [vi k] 1)(oA:fE ((j:Int)<((aA ks).length:Int))=true)(hw:S6.wrap ((j:Int)+1)=((j+1:Nat):Int))(hl:es.length<=100000000):(CW S5 ji (npH p l mid sink e0 0 .ready []) false (sub U9 1) (n2S p l a mid sink ks i es j) .normal (n2S p l a mid sink ks i (n2F mid i a.ia es k) ((j+1:Nat):Int))):=by
 exact yX {t:=qm 30 0 [(0,.ref (.yl 8)),(1,.ref (.ptr 6 0)),(2,.ref (.ptr 5 0)),(4,eO i),(8,ab (S2 Tb l)),(9,eO (↑(S7 (S2 Tb l)):Int)),(10,eO i),(17,ab (aA ks)),(18,eO (↑(S7 (aA ks)):Int)),(19,eO (S8 S6 ((↑j:Int)+1)))],h:=[.var [am p.nm,eO p.number,eO p.IY,eO p.CE,eO p.num,eO p.den,ab (S2 Ts p.reqs)],.var [ab (S2 Tb l)],.var [.ref (.eY 4 1)],.var [eO mid],.eY (eh (n2F mid i a.ia es k)) 1 3,.var [am p.nm,eO p.number,eO p.IY,eO p.CE,eO p.num,eO p.den,ab (S2 Ts p.reqs)],.var [ab (S2 Tb l)],.δ,.loop TJ none 0 (qm 97 0 [(2,.ref (.ptr 0 0)),(3,.ref (.ptr 1 0)),(5,.ref (.ptr 2 0)),(7,.ref (.ptr 3 0)),(8,eO sink),(58,UL (TM 198) [] [.ref (.ptr 6 0),.ref (.ptr 5 0)])]) {toList:=[59,60]} (ax (sub Uc 1)) (ak (sub Uc 1)),.var [eO a.f7,eO a.eF,eO a.CX,eO a.NL,eO a.ia]],m:=[]} Tr [.st (.mask [0,1,2,4,8,9,10,17,18,19]),.st (.ren 4 1)] [.b oA,.r hk,.j (@QU p l a mid sink es i k hr hl),((by exact lB _ _):S2 (Tz (ar 4 2 1)) (eh (n2F mid i a.ia es k))=eh (n2F mid i a.ia es k)),.e] (by grind) (by(rw[hw];rfl))
theorem QW{ks:bV}{i:Int}(oA:fE ((j:Int)<((aA ks).length:Int))=N):(CW S5 ji (npH p l mid sink e0 0 EV []) N (sub U9 1) (n2S p l a mid sink ks i es j) (EY 2) (n2E p l a mid sink i es)):=yx [E6 (IW [0,1,2,8,9,10])] [.b oA]
theorem BF{i cr:Int}:∀(ks:bV) (es:List zj),(ks.foldl (n2F mid i cr) es).length=es.length+ks.length
 | [],es=>rfl
 |k::ks,es=>by rw[TG,BF ks];simp[n2F];omega
theorem n2_cw{p:jW}{l:iN}{a:uS}{mid sink:Int}{ks:bV}{e0 es:List zj}{i:Int}(hr:ao i (l.map Tb) a.row 5)(hks:ks.length<=1000)(hes:es.length<=90000000):CW S5 ji (npH p l mid sink e0 0 .ready []) false (.loop (sub U9 1)) (n2S p l a mid sink ks i es 0) (.exit 2) (n2E p l a mid sink i (ks.foldl (n2F mid i a.ia) es)):=by
 have:=UR (P:=S5) (Γ:=ji) (h0:=npH p l mid sink e0 0 .ready []) (rd:=false) (c:=sub U9 1) (σ:=List zj) (ρ:=Empty) ks (λk s=>.inl (n2F mid i a.ia s k))
  (λj s=>n2S p l a mid sink ks i s (j:Int)) (.exit 2) (λs=>n2E p l a mid sink i s) (λr=>r.elim) (λj s=>s.length<=es.length+j) (by simp) (λr=>r.elim) ?_ ?_ es (by simp)
 ·rw[aM] at this;exact this
 ·intro j k s hc he;have hi:=(Td.1 hc).1;refine⟨λs' h=>?_,QV hr (rowAt (row:=λn:Int=>[vi n]) hc rfl) (F1 (λn:Int=>[vi n]) hi) (sV hi (by omega)) (by omega)⟩;grind [n2F]
 ·intro s _;exact QW (aR (λn:Int=>[vi n]) ks)
abbrev zbL(a b c:Nat)(d:iN)(e:Int)(f:aT):AS:={t:=qm 30 0 [(0,gM (.yl a)),(zhA 1 b),(zhA 2 c),(8,ab (d.map Tb)),(9,(zic (d.map Tb))),(10,eO e)],h:=f,m:=[]}
noncomputable abbrev n3S(p:jW)(l:iN)(mid sink:Int)(es:List zj)(i:Int):AS:=(zbL 8 6 5 l i (npH p l mid sink es 1 EV []))
noncomputable abbrev n3E(p:jW)(l:iN)(mid sink:Int)(es:List zj):AS:={t:=qm 30 0 [],h:=npH p l mid sink es 1 EV [],m:=[]}
def n3F(p:jW)(mid:Int)(s:List zj×Int)(a:uS):List zj×Int:=((elR p a).foldl (n2F mid s.2 a.ia) s.1,s.2+1)
noncomputable abbrev Dj(p:jW)(l:iN)(a:uS)(mid:Int)(sink:Int)(es:List zj):aT:=[eP (ZI p),eP (zex l),eP zcr,eP [eO mid],.eY (eh es) 1 3,eP (ZI p),eP (zex l),NH,Js TJ Y 0 (Z9 sink) zcV (ax (sub Uc 1)) (ak (sub Uc 1)),eP (ZL a)]
theorem QX{l:List uS}(hp:p.ok)(hn:p.reqs.length<=1000)(hr:ao (i:Int) (l.map Tb) a.row 5)(hks:(elR p a).length<=1000)(oA:fE ((i:Int)<((l.map Tb).length:Int))=true)(hw:S6.wrap ((i:Int)+1)=((i+1:Nat):Int))(hes:es.length<=90000000):(CW S5 ji (npH p l mid sink e0 0 .ready []) false (sub U9 0) (n3S p l mid sink es i) .normal (n3S p l mid sink (n3F p mid (es,(i:Int)) a).1 ((i+1:Nat):Int))):=by
 have xd:=(@n2_cw (p) (l) (a) (mid) (sink) (elR p a) (e0) (es) ((↑i:Int)) (hr) (hks) (hes))
 let v0:List D:=[ab (S2 Tb l)]
 let v1:=S2 Ts p.reqs
 exact yX {t:=qm 30 0 [(0,.ref (.yl 8)),(1,.ref (.ptr 6 0)),(2,.ref (.ptr 5 0)),(8,ab (S2 Tb l)),(9,eO (↑(S7 (S2 Tb l)):Int)),(10,eO (S8 S6 ((↑i:Int)+1)))],h:=[.var [am p.nm,eO p.number,eO p.IY,eO p.CE,eO p.num,eO p.den,ab v1],.var v0,.var [.ref (.eY 4 1)],.var [eO mid],.eY (eh (TE (n2F mid (↑i:Int) a.ia) es (elR p a))) 1 3,.var [am p.nm,eO p.number,eO p.IY,eO p.CE,eO p.num,eO p.den,ab v1],.var v0,.δ,.loop TJ none 0 (qm 97 0 [(2,.ref (.ptr 0 0)),(3,.ref (.ptr 1 0)),(5,.ref (.ptr 2 0)),(7,.ref (.ptr 3 0)),(8,eO sink),(58,UL (TM 198) [] [.ref (.ptr 6 0),.ref (.ptr 5 0)])]) {toList:=[59,60]} (ax (sub Uc 1)) (ak (sub Uc 1))],m:=[]} Tr [.st (.mask [0,1,2,8,9,10]),.st (.P1 9)] [.b oA,.r hr,.v (@qV p hp hn a (Dj p l a mid sink es)),.s [0,1,2,4,8,9,10,17,18,19] xd,bi 9 (.var [am p.nm,eO p.number,eO p.IY,eO p.CE,eO p.num,eO p.den,ab v1]),bi 9 (.var v0),bi 9 (.var [.ref (.eY 4 1)]),bi 9 (.var [eO mid]),((by subst v0 v1;exact oE _ _):Tl 9 (.eY (eh (TE (n2F mid (↑i:Int) a.ia) es (elR p a))) 1 3)=true),bi 9 (.var [am p.nm,eO p.number,eO p.IY,eO p.CE,eO p.num,eO p.den,ab v1]),bi 9 (.var v0),bi 9 .δ,bi 9 (.loop TJ none 0 (qm 97 0 [(2,.ref (.ptr 0 0)),(3,.ref (.ptr 1 0)),(5,.ref (.ptr 2 0)),(7,.ref (.ptr 3 0)),(8,eO sink),(58,UL (TM 198) [] [.ref (.ptr 6 0),.ref (.ptr 5 0)])]) {toList:=[59,60]} (ax (sub Uc 1)) (ak (sub Uc 1)))] (by subst v0 v1;grind) (by subst v0 v1;(simp only[n3F,hw];first|done|rfl))
theorem QY(oA:fE ((i:Int)<((l.map Tb).length:Int))=N):(CW S5 ji (npH p l mid sink e0 0 EV []) N (sub U9 0) (n3S p l mid sink es i) (EY 0) (n3E p l mid sink es)):=yx zbN [.b oA]
theorem vg(p:jW)(a:uS):(elR p a).length<=p.reqs.length:=by have:=BE (a:=a) p.reqs ([],0);grind [elR]
theorem n3_cw{p:jW}(hp:p.ok){l:iN}{mid sink:Int}{e0:List zj}(hn:p.reqs.length<=100)(hl:l.length<=50000)(he0:e0.length<=50000):CW S5 ji (npH p l mid sink e0 0 .ready []) false (.loop (sub U9 0)) (n3S p l mid sink e0 0) (.exit 0) (n3E p l mid sink (l.foldl (n3F p mid) (e0,0)).1):=by
 have:=UR (P:=S5) (Γ:=ji) (h0:=npH p l mid sink e0 0 .ready []) (rd:=false) (c:=sub U9 0) (σ:=List zj×Int) (ρ:=Empty) l (λa s=>.inl (n3F p mid s a))
  (λi s=>n3S p l mid sink s.1 (i:Int)) (.exit 0) (λs=>n3E p l mid sink s.1) (λr=>r.elim) (λi s=>s.2=i/\s.1.length<=50000+100*i) (by simp) (λr=>r.elim) ?_ ?_ (e0,0) (by simp;omega)
 ·rw[aM] at this;exact this
 ·rintro i a ⟨es,k⟩ hc ⟨hk,he⟩;simp only at hk he;subst hk;have hi:=(Td.1 hc).1;have h1:=vg p a;refine⟨λs' h=>?_,QX hp (by omega) (rowAt hc rfl) (by omega) (F1 Tb hi) (sV hi (by omega)) (show es.length<=90000000 by omega)⟩;grind [n3F,BF]
 ·intro s _;exact QY (aR Tb l)
theorem GV(hp:p.ok)(hn:p.reqs.length<=100)(hl:l.length<=50000)(he0:e0.length<=50000):(Ev S5 ji 198 (zdO 8 6 5) (npH p l mid sink e0 0 EV []) (uN []) (npH p l mid sink (l.foldl (n3F p mid) (e0,0)).1 1 EV [])):=by have xd:=(@n3_cw (p) (hp) (l) (mid) (sink) (e0) (hn) (hl) (he0));exact Tw (yF (h':=(zjZ (ZI p) (zex l) zcr [eO mid] (.eY (eh (TE (n3F p mid) (e0,0) l).fst) 1 3) (zex l) (Z9 sink) zcV (sub Uc 1))) (d:=TT []) [((by exact lB _ _):S2 (Tz (ar 4 0 1)) (eh e0)=eh e0),.n 1,.o (.ren 4 1),.s [0,1,2,8,9,10] xd]) Fb Fb
noncomputable abbrev npH0(p:jW)(l:iN)(mid:Int)(es:List zj):aT:=[eP p.l,eP (zc5 l),eP zeK,eP [eO mid],.eY (eh es) 0 3,eP p.l,eP (zc5 l)]
theorem KI{p:jW}(hp:p.ok){l:iN}{mid sink:Int}{e0:List zj}(hn:p.reqs.length<=100)(hl:l.length<=50000)(he0:e0.length<=50000):CW S5 ji [] N (sub Uc 1) {t:=npT sink,h:=npH0 p l mid e0,m:=[]} w8
  {t:=npT sink,h:=npH p l mid sink (l.foldl (n3F p mid) (e0,0)).1 1 zca [],m:=[7]}:=by
 exact CW.rangeFunc (f:=198) (fi:=[]) (ca:=(zhW 6 5)) τ (s:={t:=npT sink,h:=npH0 p l mid e0,m:=[]}) (g:=.tmp 58) (ps:=#[59,60]) (asg:=ax (sub Uc 1)) (body:=ak (sub Uc 1)) rfl Z (GV hp hn hl he0) rfl
abbrev zff(a:jW):bv:=(a.reqs.map Ts)
noncomputable abbrev n4S(p:jW)(l:iN)(mid sink:Int)(es:List zj)(i:Int):AS:={t:=qm 97 0 [zaH,zbX,(8,eO sink),(76,ab (zff p)),(77,(zic (zff p))),(78,eO i)],h:=npH p l mid sink es 0 zca [],m:=[7]}
noncomputable abbrev n4E(p:jW)(l:iN)(mid sink:Int)(es:List zj):AS:={t:=qm 97 0 [zaH,(8,eO sink)],h:=npH p l mid sink es 0 zca [],m:=[7]}
def n4F(mid sink:Int)(s:List zj×Int)(q:E7):List zj×Int:=(s.1++[⟨S6.wrap (mid+s.2),sink,q.ia⟩],s.2+1)
theorem QZ{l:List uS}{q:E7}(hr:ao (i:Int) (p.reqs.map Ts) q.row 6)(oA:fE ((i:Int)<((p.reqs.map Ts).length:Int))=true)(hw:S6.wrap ((i:Int)+1)=((i+1:Nat):Int))(hl:es.length<=100000000):(CW S5 ji [] false (sub Uc 2) (n4S p l mid sink es i) .normal (n4S p l mid sink (n4F mid sink (es,(i:Int)) q).1 ((i+1:Nat):Int))):=by
 let v0:=S2 Ts p.reqs
 let v1:List D:=[ab (S2 Tb l)]
 refine yX {t:=qm 97 0 [(5,.ref (.ptr 2 0)),(7,.ref (.ptr 3 0)),(8,eO sink),(76,ab v0),(77,eO (↑(S7 v0):Int)),(78,eO (S8 S6 ((↑i:Int)+1)))],h:=[.var [am p.nm,eO p.number,eO p.IY,eO p.CE,eO p.num,eO p.den,ab v0],.var v1,.var [.ref (.eY 4 0)],.var [eO mid],.eY (eh es++[[eO (S8 S6 (mid+(↑i:Int))),eO sink,eO q.ia]]) 0 3,.var [am p.nm,eO p.number,eO p.IY,eO p.CE,eO p.num,eO p.den,ab v0],.var v1,.δ,.loop Uu none 0 (qm 97 0 [(2,.ref (.ptr 0 0)),(3,.ref (.ptr 1 0)),(5,.ref (.ptr 2 0)),(7,.ref (.ptr 3 0)),(8,eO sink),(58,UL (TM 198) [] [.ref (.ptr 6 0),.ref (.ptr 5 0)])]) {toList:=[59,60]} (ax (sub Uc 1)) (ak (sub Uc 1))],m:=[7]} Tr [.st (.mask [5,7,8,76,77,78]),.st (.ren 4 0),.st (.P1 9)] [.b oA,.r hr,((by subst v0 v1;grind [dL,aL,D.one,Up,uO,vf]):(Tq [[eO (S8 S6 (mid+(↑i:Int))),eO sink,eO q.ia]] (aL 3)&&uO (S7 (eh es)+S7 [[eO (S8 S6 (mid+(↑i:Int))),eO sink,eO q.ia]]) 24)=true),(?_:S2 (Tz (ar 4 1 0)) (eh es++[[eO (S8 S6 (mid+(↑i:Int))),eO sink,eO q.ia]])=eh es++[[eO (S8 S6 (mid+(↑i:Int))),eO sink,eO q.ia]]),pr [[eO (S8 S6 (mid+(↑i:Int))),eO sink,eO q.ia]],(rfl:Tl 9 (match 0==4 with|true=>.eY (eh es++[[eO (S8 S6 (mid+(↑i:Int))),eO sink,eO q.ia]]) 0 3|false=>CV (ar 4 1 0) (.var [am p.nm,eO p.number,eO p.IY,eO p.CE,eO p.num,eO p.den,ab v0]))=true),(rfl:Tl 9 (match 0+1==4 with|true=>.eY (eh es++[[eO (S8 S6 (mid+(↑i:Int))),eO sink,eO q.ia]]) 0 3|false=>CV (ar 4 1 0) (.var v1))=true),(rfl:Tl 9 (match 0+1+1==4 with|true=>.eY (eh es++[[eO (S8 S6 (mid+(↑i:Int))),eO sink,eO q.ia]]) 0 3|false=>CV (ar 4 1 0) (.var [.ref (.eY 4 1)]))=true),(rfl:Tl 9 (match 0+1+1+1==4 with|true=>.eY (eh es++[[eO (S8 S6 (mid+(↑i:Int))),eO sink,eO q.ia]]) 0 3|false=>CV (ar 4 1 0) (.var [eO mid]))=true),(?_:Tl 9 (match 0+1+1+1+1==4 with|true=>.eY (eh es++[[eO (S8 S6 (mid+(↑i:Int))),eO sink,eO q.ia]]) 0 3|false=>CV (ar 4 1 0) (.eY (eh es++[[eO (S8 S6 (mid+(↑i:Int))),eO sink,eO q.ia]]) 1 3))=true),(rfl:Tl 9 (match 0+1+1+1+1+1==4 with|true=>.eY (eh es++[[eO (S8 S6 (mid+(↑i:Int))),eO sink,eO q.ia]]) 0 3|false=>CV (ar 4 1 0) (.var [am p.nm,eO p.number,eO p.IY,eO p.CE,eO p.num,eO p.den,ab v0]))=true),(rfl:Tl 9 (match 0+1+1+1+1+1+1==4 with|true=>.eY (eh es++[[eO (S8 S6 (mid+(↑i:Int))),eO sink,eO q.ia]]) 0 3|false=>CV (ar 4 1 0) (.var v1))=true),(rfl:Tl 9 (match 0+1+1+1+1+1+1+1==4 with|true=>.eY (eh es++[[eO (S8 S6 (mid+(↑i:Int))),eO sink,eO q.ia]]) 0 3|false=>CV (ar 4 1 0) .δ)=true),(rfl:Tl 9 (match 0+1+1+1+1+1+1+1+1==4 with|true=>.eY (eh es++[[eO (S8 S6 (mid+(↑i:Int))),eO sink,eO q.ia]]) 0 3|false=>CV (ar 4 1 0) (.loop Uu none 0 (qm 97 0 [(2,.ref (.ptr 0 0)),(3,.ref (.ptr 1 0)),(5,.ref (.ptr 2 0)),(7,.ref (.ptr 3 0)),(8,eO sink),(58,UL (TM 198) [] [.ref (.ptr 6 0),.ref (.ptr 5 0)])]) {toList:=[59,60]} (ax (sub Uc 1)) (ak (sub Uc 1))))=true)] (by subst v0 v1;grind) (by subst v0 v1;simp only[n4F,hw,dL];rfl)<;>subst v0 v1<;>(first|(rw[dL];exact lB _ _)|(rw[dL];exact oE _ _))
theorem Q1(oA:fE ((i:Int)<((zff p).length:Int))=N):(CW S5 ji [] N (sub Uc 2) (n4S p l mid sink es i) (EY 4) (n4E p l mid sink es)):=yx [E6 (IW [5,8])] [.b oA]
theorem n4_cw{p:jW}{l:iN}{mid sink:Int}{e0:List zj}(hn:p.reqs.length<=100)(he:e0.length<=10000000):CW S5 ji [] false (.loop (sub Uc 2)) (n4S p l mid sink e0 0) (.exit 4) (n4E p l mid sink (p.reqs.foldl (n4F mid sink) (e0,0)).1):=by
 have:=UR (P:=S5) (Γ:=ji) (h0:=[]) (rd:=false) (c:=sub Uc 2) (σ:=List zj×Int) (ρ:=Empty) p.reqs (λa s=>.inl (n4F mid sink s a))
  (λi s=>n4S p l mid sink s.1 (i:Int)) (.exit 4) (λs=>n4E p l mid sink s.1) (λr=>r.elim) (λi s=>s.2=i/\s.1.length<=e0.length+i) (by simp) (λr=>r.elim) ?_ ?_ (e0,0) (by simp)
 ·rw[aM] at this;exact this
 ·rintro i a ⟨es,k⟩ hc ⟨hk,he⟩;simp only at hk he;subst hk;have hi:=(Td.1 hc).1;refine⟨λs' h=>?_,QZ (rowAt hc rfl) (F1 Ts hi) (sV hi (by omega)) (show es.length<=100000000 by omega)⟩;grind [n4F]
 ·intro s _;exact Q1 (aR Ts p.reqs)
abbrev Dk(l:iN):Int:=S6.wrap (1+((l.map Tb).length:Int))
abbrev z8(p:jW)(l:iN):Int:=S6.wrap (Dk l+((p.reqs.map Ts).length:Int))
def Q3(p:jW)(l:iN):List zj:=(l.foldl (n1F p) ([],0)).1
def Q4(p:jW)(l:iN):List zj:=(l.foldl (n3F p (Dk l)) (Q3 p l,0)).1
def oG(p:jW)(l:iN):List zj:=(p.reqs.foldl (n4F (Dk l) (z8 p l)) (Q4 p l,0)).1
theorem vj(p:jW)(l:iN):(Q3 p l).length=l.length:=by unfold Q3;rw[Mr];simp
theorem Ms{p:jW}{mid:Int}:∀(l:iN) (s:List zj×Int),(l.foldl (n3F p mid) s).1.length<=s.1.length+l.length*p.reqs.length
 | [],s=>qk
 |a::l,s=>by have h1:=Ms (p:=p) (mid:=mid) l (n3F p mid s a);have h2:=vg p a;simp only[TG,Ue,Nat.add_mul,Nat.one_mul];grind [n3F,BF]
theorem KJ(p:jW)(l:iN)(hn:p.reqs.length<=100)(hl:l.length<=50000):(Q4 p l).length<=5050000:=by unfold Q4;have h1:=Ms (p:=p) (mid:=Dk l) l (Q3 p l,0);have h2:=vj p l;have h3:l.length*p.reqs.length<=50000*100:=Nat.mul_le_mul hl hn;grind
def BG(p:jW)(l:iN)(e:Int):Int×List zj×Int:=match BD p != 0 with
 |true=>(0,[],BD p)
 |false=>match e != 0 with
  |true=>(0,[],e)
  |false=>(S6.wrap (z8 p l+1),oG p l,0)
abbrev Mt(p:jW)(l:iN):Int×List zj×Int:=BG p l (fp l).2.2
noncomputable abbrev lC(p:jW)(l:iN):aT:=[eP (ZI p),eP (zex l),eP [nq]]
abbrev zcz(a:jW)(b:iN):bY:=[mS a.l,ab (b.map Tb)]
theorem net_a(hp:p.ok)(hpn:Pu p.num)(hpd:Pu p.den)(hn:p.reqs.length<=100)(hl:l.length<=50000)(h1:(Q3 p l).length<=50000)(h2:(Q4 p l).length<=10000000){a b c:Int}(hs:∀h,Ev S5 ji 117 (zc5 l) h (uN (Z8 a b c)) h)(h:aT):(Ev S5 ji 112 (zcz p l) h (uN [eO (BG p l c).1,ab ((BG p l c).2.1.map zj.row),eO (BG p l c).2.2]) h):=by
 cases sR:BD p != 0
 ·cases Jw:c != 0;·have hl2:=(@n1_cw (p) (l) (S8 S6 (1+(↑(S7 (S2 Tb l)):Int))) (S8 S6 (S8 S6 (1+(↑(S7 (S2 Tb l)):Int))+(↑(S7 (S2 Ts p.reqs)):Int))) (hl));have hl3:=(@KI (p) (hp) (l) (S8 S6 (1+(↑(S7 (S2 Tb l)):Int))) (S8 S6 (S8 S6 (1+(↑(S7 (S2 Tb l)):Int))+(↑(S7 (S2 Ts p.reqs)):Int))) ((TE (n1F p) ([],0) l).fst) (hn) (hl) (h1));have hl4:=(@n4_cw (p) (l) (S8 S6 (1+(↑(S7 (S2 Tb l)):Int))) (S8 S6 (S8 S6 (1+(↑(S7 (S2 Tb l)):Int))+(↑(S7 (S2 Ts p.reqs)):Int))) ((TE (n3F p (S8 S6 (1+(↑(S7 (S2 Tb l)):Int)))) ((TE (n1F p) ([],0) l).fst,0) l).fst) (hn) (h2));let v0:=S7 (S2 Tb l);let v1:=S2 zj.row (oG p l);let v2:=TE (n1F p) ([],0) l;refine Tw (Ev.ziv (y0 (d:=TT [(ziq (S8 S6 (S8 S6 (1+(↑v0:Int))+(↑(S7 (S2 Ts p.reqs)):Int)))),ab v1,eO 0]) [.v (@qU p hp hpn hpd (lC p l)),.b sR,.v (@hs (lC p l)),.b Jw,.n 3,.o (.zhs 2 0 3),.s [2,3,5,7,8,37,38,39] hl2,.a1 Τ,.s [2,3,5,7,8,58] hl3,(?_:S2 (Tz (ar 4 1 0)) (eh (TE (n3F p (S8 S6 (1+(↑v0:Int)))) (v2.fst,0) l).fst)=eh (TE (n3F p (S8 S6 (1+(↑v0:Int)))) (v2.fst,0) l).fst),.n 1,.o (.ren 4 0),.s [5,7,8,76,77,78] hl4,(?_:eh (TE (n4F (S8 S6 (1+(↑v0:Int))) (S8 S6 (S8 S6 (1+(↑v0:Int))+(↑(S7 (S2 Ts p.reqs)):Int)))) ((TE (n3F p (S8 S6 (1+(↑v0:Int)))) (v2.fst,0) l).fst,0) p.reqs).fst=S2 (λx=>S2 D.p x) v1),po (G (ab v1)),.o (Λ 4 v1)] h)) (by subst v0 v1 v2;simp only[BG,sR,Jw];rfl) Fb<;>subst v0 v1 v2<;>(first|exact KH _|exact lB _ _)
  ·exact Tw (Ev.ziv (y0 (d:=TT [eO 0,nq,eO c]) [.v (@qU p hp hpn hpd (lC p l)),.b sR,.v (@hs (lC p l)),.b Jw] h)) (by simp only[BG,sR,Jw];rfl) Fb
 ·exact Tw (Ev.ziv (y0 (d:=TT [eO 0,nq,eO (BD p)]) [.v (@qU p hp hpn hpd (lC p l)),.b sR] h)) (by simp only[BG,sR];rfl) Fb
theorem GW(hp:p.ok)(hn:p.reqs.length<=100)(hl:l.length<=50000)(h:aT):Ev S5 ji 112 (zcz p l) h (uN [eO (Mt p l).1,ab ((Mt p l).2.1.map zj.row),eO (Mt p l).2.2]) h :=net_a hp hp.nm hp.dn hn hl (by have:=vj p l;omega) (by have:=KJ p l hn hl;omega) (λh=>GT (by unfold ah;omega) h) h
def cL:Code->Code
 |.seq a _=>a
 |c=>c
def cR:Code->Code
 |.seq _ b=>b
 |c=>c
def cB:Code->Code
 |.block _ c=>c
 |.loop c=>c
 |c=>c
abbrev zcD(a:List zj):bv:=(a.map zj.row)
abbrev ziL(a:D):bY:=[a,gM (.eY 0 0),gM (.eY 1 0)]
abbrev nnV(es:List zj):ql:=eP (ziL (ab (zcD es)))
abbrev nnT(es:List zj)(i:Int):bY:=qm 64 0 [zaH,(16,ab (zcD es)),(17,(zic (zcD es))),(18,eO i)]
abbrev nnU(es:List zj)(i:Int):bY:=qm 64 0 [zaH,(6,eO i),zbX,(16,ab (zcD es)),(17,(zic (zcD es))),(18,eO i)]
abbrev zdx(a b:List (bY))(c:List zj):aT:=[.eY a 0 1,.eY b 0 1,nnV c]
theorem nn3:(CW S5 ji (zdx fl R es) N (cL (sub UO 0)) {t:=nnT es i,h:=(zdx fl R es),m:=[]} w8
  {t:=qm 64 0 [zaH,(16,ab (zcD es)),(17,(zic (zcD es))),(18,eO i),(19,eR (fE ((i:Int)<((zcD es).length:Int))))],h:=(zdx fl R es),m:=[]}):=by
 exact yx [E6 (IW [5,16,17,18,19])] []
abbrev zcF(a:zj):bY:=[eO a.lk,eO a.to,eO a.most]
theorem nn4(hr:ao (i:Int) (zcD es) x.row 3):(CW S5 ji (zdx fl R es) N (cL (cB (cL (cR (cR (sub UO 0)))))) {t:=nnT es i,h:=(zdx fl R es),m:=[]} w8
  {t:=nnU es i,h:=[.eY fl 0 1,.eY R 0 1,nnV es,eP (zcF x)],m:=[]}):=by
 exact yx [E6 (IW [5,6,7,16,17,18])] [.r hr]
theorem nn_vp{d:D}(hu:R[u]?=G [d]):Ni S5 32 R 0 0 (S9 (u:Int)) 0 d:=by unfold Ni;simp[hu];rfl
theorem nn_in{r:bY}(hu:R[u]?=G r):Ps (u:Int) R.length=J:=by grind [Ps]
abbrev zdi(a:Nat)(b:Int):Ref:=(.vp a 0 (S9 b) 0)
theorem nn_st{b0:ql}{r:bY}(hu:R[u]?=G r)(hr:r.length=1):aY S5 (b0::.eY R 0 1::rest) 32 (gM (zdi 1 (u:Int))) (gM (.eY 4 e))=G (b0::.eY (R.set u (zbn 4 e)) 0 1::rest):=by
 match r,hr with
 | [d],_=>unfold aY;simp[hu];rfl
theorem oH(B:bV)(n:Int):eV B++[[eO n]]=eV (B++[n]):=qk
theorem BH(B:bV):Tl k (.eY (eV B) e 1)=J:=by simp[Tl,TL,D.inn]
abbrev zaW(a b:Nat):D:=(gM (.vp a 0 (S9 (↑b:Int)) 0))
abbrev zcO:D:=(gM (.eY 1 0))
abbrev zdo(a:List zj):D:=ab (S2 zj.row a)
abbrev zdT(a:Nat):List (bY):=[[eO (S8 S6 (2*(↑a:Int)))]]
abbrev zeB:D:=(gM (qn 2 2))
abbrev zhh:Do:=[E6 (IW [5,6,7,16,17,18]),E6 (zlw 5)]
abbrev zid(a b:List (bY))(c:ql)(d e f:Int)(g:bV)(h:Nat):aT:=[.eY a 0 1,.eY b 0 1,c,eP (Z8 d e f),.eY (eV g) h 1]
abbrev zi5(a:Nat):At:=(G (zaS a))
abbrev zi8(a:Nat)(b:List zj):bY:=qm 64 0 [zaH,(6,(zaS a)),zbX,(16,(zdo b)),(zba 17 (S2 zj.row b)),(18,(zaS a))]
theorem nn5{B:bV}{to most:Int}(hR:R[u]?=G zeK)(hB:B.length<=1000000)(hfl:Tl 5 (.eY fl 0 1)=J)(hRi:Tl 5 (.eY (R.set u zcr) 0 1)=J):(CW S5 ji (zid fl R (nnV es) (u:Int) to most B 0) N (cL (cR (cB (cL (cR (cR (sub UO 0))))))) {t:=nnU es i,h:=(zid fl R (nnV es) (u:Int) to most B 0),m:=[]} w8
  {t:=nnU es i,h:=(zid fl (R.set u zcr) (nnV es) (u:Int) to most (B++[S6.wrap (2*(i:Int))]) 1),m:=[]}):=by
 let v0:bY:=(ziL (zdo es))
 let v1:=UE R u zcr
 refine yX {t:=(zi8 i es),h:=[.eY fl 0 1,.eY v1 0 1,eP v0,eP (Z8 (↑u:Int) to most),.eY (eV B++(zdT i)) 1 1],m:=[]} Tr zhh [(?_:Ps (↑u:Int) (S7 R)=J),(?_:@Eq (At) (aQ S5 (zid fl R (eP v0) (↑u:Int) to most B 0) 32 (zaW 1 u)) (zcl 4)),((by subst v0 v1;grind [oH,aL,D.one,Up,uO]):(Tq [[eO (S8 S6 (2*(↑i:Int)))]] (aL 1)&&uO (S7 (eV B)+S7 [[eO (S8 S6 (2*(↑i:Int)))]]) 8)=J),(?_:Ps (↑u:Int) (S7 R)=J),(?_:@Eq (Option (aT)) (aY S5 [.eY fl 0 1,.eY R 0 1,eP v0,eP (Z8 (↑u:Int) to most),.eY (eV B++(zdT i)) 1 1,.eY (zdT i) 0 1] 32 (zaW 1 u) (gM (.eY 4 1))) (G [.eY fl 0 1,.eY v1 0 1,eP v0,eP (Z8 (↑u:Int) to most),.eY (eV B++(zdT i)) 1 1,.eY (zdT i) 0 1])),pe zcb,pe zcb,pe zcb,pe zeB,pe zeB,pe zeB,po (G zcO),po (G zcO),po (G zcO),pe zcN,pe zcN,pe zcN,po (zi5 u),po (zi5 u),po (zi5 u),pe zcb,pe zcb,pe zeB,pe zeB,po (G zcO),po (G zcO),pe zcN,pe zcN,po (zi5 u),po (zi5 u),(?_:Ps (↑u:Int) (S7 R)=J),pe (zaW 1 u),(?_:Ps (↑u:Int) (S7 R)=J),pe (zaW 1 u),(?_:@Eq (At) (if 0=0 then match R[S9 (↑u:Int)]? with|some row=>cC S5 32 (TP 0 row)|none=>Y else Y) (zcl 4)),(?_:@Eq (At) (if 0=0 then match R[S9 (↑u:Int)]? with|some row=>cC S5 32 (TP 0 row)|none=>Y else Y) (zcl 4)),(?_:Ps (↑u:Int) (S7 R)=J),pe (zaW 1 u),hfl,hRi,bi 5 (eP v0),bi 5 (eP (Z8 (↑u:Int) to most)),(?_:Tl 5 (.eY (eV B++(zdT i)) 1 1)=J),.a1 (zfG 36 (gM (.eY 4 0))),.a1 (.oh 10041 D.any [.eY fl 0 1,.eY v1 0 1,nnV es,eP (Z8 (↑u:Int) to most),.eY (eV B++(zdT i)) 1 1,.eY (zdT i) 0 1])] (by subst v0 v1;grind) (by subst v0 v1;grind)<;>subst v0 v1<;>(first|exact nn_vp hR|exact nn_in hR|exact nn_st hR rfl|(rw[oH];exact BH _))
abbrev zcy(a:Nat):List (bY):=[[(ziq (S8 S6 (2*(↑a:Int))))]]
abbrev zgA:D:=(gM (qn 3 1))
theorem nn6{B:bV}{lk most:Int}(hR:R[u]?=G zeK)(hB:B.length<=1000000)(hfl:Tl 5 (.eY fl 0 1)=J)(hRi:Tl 5 (.eY (R.set u zcr) 0 1)=J):(CW S5 ji (zid fl R (nnV es) lk (u:Int) most B 0) N (cR (cR (cB (cL (cR (cR (sub UO 0))))))) {t:=nnU es i,h:=(zid fl R (nnV es) lk (u:Int) most B 0),m:=[]} w8
  {t:=nnU es i,h:=(zid fl (R.set u zcr) (nnV es) lk (u:Int) most (B++[S6.wrap (S6.wrap (2*(i:Int))+1)]) 1),m:=[]}):=by
 let v0:bY:=(ziL (zdo es))
 let v1:=UE R u zcr
 refine yX {t:=(zi8 i es),h:=[.eY fl 0 1,.eY v1 0 1,eP v0,eP (Z8 lk (↑u:Int) most),.eY (eV B++(zcy i)) 1 1],m:=[]} Tr zhh [(?_:Ps (↑u:Int) (S7 R)=J),(?_:@Eq (At) (aQ S5 (zid fl R (eP v0) lk (↑u:Int) most B 0) 32 (zaW 1 u)) (zcl 4)),((by subst v0 v1;grind [oH,aL,D.one,Up,uO]):(Tq [[eO (S8 S6 (S8 S6 (2*(↑i:Int))+1))]] (aL 1)&&uO (S7 (eV B)+S7 [[eO (S8 S6 (S8 S6 (2*(↑i:Int))+1))]]) 8)=J),(?_:Ps (↑u:Int) (S7 R)=J),(?_:@Eq (Option (aT)) (aY S5 [.eY fl 0 1,.eY R 0 1,eP v0,eP (Z8 lk (↑u:Int) most),.eY (eV B++(zcy i)) 1 1,.eY (zcy i) 0 1] 32 (zaW 1 u) (gM (.eY 4 1))) (G [.eY fl 0 1,.eY v1 0 1,eP v0,eP (Z8 lk (↑u:Int) most),.eY (eV B++(zcy i)) 1 1,.eY (zcy i) 0 1])),pe zcb,pe zcb,pe zcb,pe zeB,pe zeB,pe zeB,po (G zcO),po (G zcO),po (G zcO),pe zgA,pe zgA,pe zgA,po (zi5 u),po (zi5 u),po (zi5 u),pe zcb,pe zcb,pe zeB,pe zeB,po (G zcO),po (G zcO),pe zgA,pe zgA,po (zi5 u),po (zi5 u),(?_:Ps (↑u:Int) (S7 R)=J),pe (zaW 1 u),(?_:Ps (↑u:Int) (S7 R)=J),pe (zaW 1 u),(?_:@Eq (At) (if 0=0 then match R[S9 (↑u:Int)]? with|some row=>cC S5 32 (TP 0 row)|none=>Y else Y) (zcl 4)),(?_:@Eq (At) (if 0=0 then match R[S9 (↑u:Int)]? with|some row=>cC S5 32 (TP 0 row)|none=>Y else Y) (zcl 4)),(?_:Ps (↑u:Int) (S7 R)=J),pe (zaW 1 u),hfl,hRi,bi 5 (eP v0),bi 5 (eP (Z8 lk (↑u:Int) most)),(?_:Tl 5 (.eY (eV B++(zcy i)) 1 1)=J),.a1 (zfG 55 (gM (.eY 4 0))),.a1 (.oh 10061 D.any [.eY fl 0 1,.eY v1 0 1,nnV es,eP (Z8 lk (↑u:Int) most),.eY (eV B++(zcy i)) 1 1,.eY (zcy i) 0 1])] (by subst v0 v1;grind) (by subst v0 v1;grind)<;>subst v0 v1<;>(first|exact nn_vp hR|exact nn_in hR|exact nn_st hR rfl|(rw[oH];exact BH _))
theorem nn7(hw:S6.wrap ((i:Int)+1)=((i+1:Nat):Int)):(CW S5 ji [.eY fl 0 1,.eY R 0 1,nnV es,eP (zcF x)] N (cR (cR (cR (sub UO 0)))) {t:=nnU es i,h:=[.eY fl 0 1,.eY R 0 1,nnV es,eP (zcF x)],m:=[]} w8
  {t:=nnT es ((i+1:Nat):Int),h:=[.eY fl 0 1,.eY R 0 1,nnV es,eP (zcF x)],m:=[]}):=by
 refine yX {t:=qm 64 0 [zaH,(16,(zdo es)),(zba 17 (S2 zj.row es)),(18,(ZZ i))],h:=[.eY fl 0 1,.eY R 0 1,eP (ziL (zdo es)),eP (zcF x)],m:=[]} Tr [E6 (IW [5,16,17,18])] [] ?_ ?_<;>(grind)
abbrev nnC(es:List zj)(i:Int)(b:Bool):bY:=qm 64 0 [zaH,(16,ab (zcD es)),(17,(zic (zcD es))),(18,eO i),(19,eR b)]
theorem nnc1(hb:b=J):(CW S5 ji (zdx fl R es) N (cL (cR (sub UO 0))) {t:=nnC es i b,h:=(zdx fl R es),m:=[]} w8
  {t:=nnT es i,h:=(zdx fl R es),m:=[]}):=by
 exact yx [E6 (IW [5,16,17,18])] [.b hb]
theorem nnc0(hb:b=N):(CW S5 ji (zdx fl R es) N (cL (cR (sub UO 0))) {t:=nnC es i b,h:=(zdx fl R es),m:=[]} (EY 0)
  {t:=qm 64 0 [zaH],h:=(zdx fl R es),m:=[]}):=by
 exact yx (zeI 5) [.b hb]
def lP(s:List (bV)×Int)(x:zj):List (bV)×Int :=
 let A:=s.1.set x.lk.toNat (s.1.getD x.lk.toNat []++[S6.wrap (2*s.2)])
 (A.set x.to.toNat (A.getD x.to.toNat []++[S6.wrap (S6.wrap (2*s.2)+1)]),s.2+1)
def j1(n:Nat)(es:List zj):List (bV):=(es.foldl lP (Ti n [],0)).1
theorem KK(s:List (bV)×Int)(x:zj):(lP s x).1.length=s.1.length:=by simp[lP]
def Lim(A:List (bV))(k:Nat):Prop:=∀(j:Nat) (B:bV),A[j]?=G B->B.length<=k
theorem Lim.set{A:List (bV)}(h:Lim A k)(u:Nat)(v:Int):Lim (A.set u (A.getD u []++[v])) (k+1):=by
 intro j B hj;by_cases hu:j=u
 ·subst hu;have hl:j<A.length:=by have:=(Td.1 hj).1;simpa using this
  rw[UA hl] at hj;cases hj;have hg:A[j]?=G (A.getD j []):=by simp[List.getD,hl]
  have:=h j _ hg;grind
 ·rw[List.getElem?_set_ne (λe=>hu e.symm)] at hj;have:=h j B hj;omega
theorem KL{s:List (bV)×Int}(h:Lim s.1 k):Lim (lP s x).1 (k+2):=by have h1:=h.set x.lk.toNat (S6.wrap (2*s.2));have h2:=h1.set x.to.toNat (S6.wrap (S6.wrap (2*s.2)+1));grind [lP]
theorem GX{A:List (bV)}(h:j<A.length):A[j]?=G (A.getD j []):=mW
def ez(n:Nat)(x:zj):Prop:=0<=x.lk/\x.lk<n/\0<=x.to/\x.to<n
theorem BI:Tl 5 (.eY (((cg ys).set u zeK).set u zcr) 0 e)=J:=by
 simp only[Tl,YN];rw[TW];intro r hr;rcases List.mem_or_eq_of_mem_set hr with h1|h1
 ·obtain⟨y,_,rfl⟩:=List.mem_map.1 h1;rfl
 ·rw[h1];rfl
theorem BJ(hu:u<ys.length):((cg ys).set u [Wb (.eY 4 0)])[u]?=G zeK:=UA (by simpa using hu)
section
variable {X:Ctx} {fl:List (bY)} {es:List zj}
abbrev zko(a:Code):Code:=(.seq (cL (cR (a))) (cR (cR (a))))
theorem KM(hfl:∀k,Tl k (.eY fl 0 1)=true)(hes:es.length<=65536){A:List (List Int)}(hx:es[i]? = some x)(Pt:ez A.length x)(hA:Lim A (2*i)){a:Act}{w:World}
  (hn:NB ji X (nnT es i) [.eY fl 0 1] [nnV es] A a w) :
  (sub UO 0).wpIn (FW none) 0 S5 (λe a' w'=>e=.normal/\NB ji X (nnT es ((i+1:Nat):Int)) [.eY fl 0 1] [nnV es] (lP (A,(i:Int)) x).1 a' w') a w:=by
 have hi:=(Td.1 hx).1
 have oA:=F1 zj.row hi
 have hw:=sV hi (by omega)
 obtain⟨u,hu⟩:∃u:Nat,x.lk=u:=⟨x.lk.toNat,by have:=Pt.1;omega⟩
 obtain⟨v,hv⟩:∃v:Nat,x.to=v:=⟨x.to.toNat,by have:=Pt.2.2.1;omega⟩
 have hul:u<A.length:=by have:=Pt.2.1;omega
 have hvl:v<A.length:=by have:=Pt.2.2.2;omega
 have zme:sub UO 0=.seq (cL (sub UO 0)) (.seq (cL (cR (sub UO 0))) (.seq (.block 1 (.seq (cL (cB (cL (cR (cR (sub UO 0)))))) (.seq (cL (cR (cB (cL (cR (cR (sub UO 0))))))) (cR (cR (cB (cL (cR (cR (sub UO 0))))))))))
  (cR (cR (cR (sub UO 0)))))):=by kernel_rfl
 rw[zme]
 refine wpIn_seq (wpIn_mono (Zb (e:=.normal) (pre':=[.eY fl 0 1]) (more':=[nnV es]) (t':=nnC es i (fE ((i:Int)<((es.map zj.row).length:Int)))) (by simp) (λys _=>nn3 (es:=es) (fl:=fl) (R:=cg ys) (i:=i)) hn) ?_)
 rintro e a1 w1 ⟨rfl,n1⟩
 refine wpIn_seq (wpIn_mono (Zb (e:=.normal) (pre':=[.eY fl 0 1]) (more':=[nnV es]) (t':=nnT es i) (by simp) (λys _=>nnc1 (es:=es) (fl:=fl) (R:=cg ys) (i:=i) (b:=fE ((i:Int)<((es.map zj.row).length:Int))) oA) n1) ?_)
 rintro e a2 w2 ⟨rfl,n2⟩
 refine wpIn_seq (wpIn_block ?_)
 refine wpIn_seq (wpIn_mono (Zb (e:=.normal) (pre':=[.eY fl 0 1]) (more':=[nnV es,.var [eO x.lk,eO x.to,eO x.most]]) (t':=nnU es i) (by simp) (λys _=>nn4 (es:=es) (fl:=fl) (R:=cg ys) (i:=i) (x:=x) (rowAt hx rfl)) n2) ?_)
 rintro e a3 w3 ⟨rfl,n3⟩
 rw[hu,hv] at n3
 have hAu:A[u]? = some (A.getD u []):=GX hul
 have hBu:(A.getD u []).length<=1000000:=by have:=hA u _ hAu;omega
 refine wpIn_seq (wpIn_mono (NB.focus (t':=nnU es i) (u:=u) (B:=A.getD u []) (B':=A.getD u []++[S6.wrap (2*(i:Int))]) hAu (by simp[hfl]) rfl rfl (λys hy=>?_) n3) ?_)
 ·have:=nn5 (es:=es) (fl:=fl) (R:=(cg ys).set u [.ref (.eY 4 0)]) (B:=A.getD u []) (u:=u) (i:=i) (to:=(v:Int)) (most:=x.most) (BJ (by omega)) hBu (hfl 5) BI
  rw[YN] at this
  exact this
 rintro e a4 w4 ⟨rfl,n4⟩
 have hvl2:v<(A.set u (A.getD u []++[S6.wrap (2*(i:Int))])).length:=by simpa using hvl
 have hAv:(A.set u (A.getD u []++[S6.wrap (2*(i:Int))]))[v]? = some ((A.set u (A.getD u []++[S6.wrap (2*(i:Int))])).getD v []):=GX hvl2
 have hBv:((A.set u (A.getD u []++[S6.wrap (2*(i:Int))])).getD v []).length<=1000000:=by have:=(hA.set u (S6.wrap (2*(i:Int)))) v _ hAv;omega
 refine wpIn_mono (NB.focus (t':=nnU es i) (u:=v) (B:=(A.set u (A.getD u []++[S6.wrap (2*(i:Int))])).getD v []) (B':=(A.set u (A.getD u []++[S6.wrap (2*(i:Int))])).getD v []++[S6.wrap (S6.wrap (2*(i:Int))+1)]) hAv (by simp[hfl]) rfl rfl (λys hy=>?_) n4) ?_
 ·have:=nn6 (es:=es) (fl:=fl) (R:=(cg ys).set v [.ref (.eY 4 0)]) (B:=(A.set u (A.getD u []++[S6.wrap (2*(i:Int))])).getD v []) (u:=v) (i:=i) (lk:=(u:Int)) (most:=x.most) (BJ (by grind)) hBv (hfl 5) BI
  rw[YN] at this
  exact this
 rintro e a5 w5 ⟨rfl,n5⟩
 have n5':NB ji X (nnU es i) [.eY fl 0 1] [nnV es,.var [eO x.lk,eO x.to,eO x.most]] (lP (A,(i:Int)) x).1 a5 w5:=by
  unfold lP
  simp only[hu,hv,UD]
  exact n5
 refine wpIn_mono (Zb (e:=.normal) (pre':=[.eY fl 0 1]) (more':=[nnV es,.var [eO x.lk,eO x.to,eO x.most]]) (t':=nnT es ((i+1:Nat):Int)) (by simp) (λys _=>nn7 (es:=es) (fl:=fl) (R:=cg ys) (i:=i) (x:=x) hw) n5') ?_
 rintro e a6 w6 ⟨rfl,n6⟩
 exact⟨rfl,NB.trimTo (m1:=[nnV es]) (m2:=[.var [eO x.lk,eO x.to,eO x.most]]) n6 rfl (by simp[hfl]) rfl⟩
end
theorem GY:∀(l:List zj) (s:List (bV)×Int),(l.foldl lP s).2=s.2+l.length
 | [],s=>qk
 |x::l,s=>by rw[TG,GY l];simp[lP];omega
theorem Aa:∀(l:List zj) (s:List (bV)×Int),(l.foldl lP s).1.length=s.1.length
 | [],s=>rfl
 |x::l,s=>by rw[TG,Aa l,KK]
theorem Ab:∀(l:List zj) (s:List (bV)×Int) (k:Nat),Lim s.1 k->Lim (l.foldl lP s).1 (k+2*l.length)
 | [],s,k,h=>h
 |x::l,s,k,h=>by have:=Ab l (lP s x) (k+2) (KL h);grind
abbrev flR(es:List zj):List (bY):=Ti (S9 ((zcD es).length:Int)) [eO 0]
abbrev adjV(A:List (bV)):List (bY):=A.map λB=>[.p (.sl (nV B))]
theorem GZ(k:Nat):Tl k (.eY (flR es) 0 1)=J:=by simp only[Tl,TW];intro r hr;rw[(List.mem_replicate.1 hr).2];rfl
theorem nn_cw{n:Nat}{es:List zj}(hes:es.length<=65536)(Pt:∀x∈es,ez n x):CW S5 ji [] false (.loop (sub UO 0)) {t:=nnT es 0,h:=(zdx (flR es) (Ti (S9 (n:Int)) [.p (.v (.slice none 0 0))]) es),m:=[]} (.exit 0)
   {t:=qm 64 0 [zaH],h:=(zdx (flR es) (adjV (j1 n es)) es),m:=[]}:=by
 intro X r hX hr a w hs
 obtain rfl:=hr rfl
 have hs':St ji X {t:=nnT es 0,h:=hB [.eY (flR es) 0 1] (cg (Ti n (.slice none 0 0))) [nnV es],m:=[]} a w:=by
  have e:cg (Ti n (.slice none 0 0))=Ti (S9 (n:Int)) [.p (.v (.slice none 0 0))]:=by simp
  rw[e];exact hs
 have n0:=NB.enter hX hs'
 refine sD (λ(i:Nat) a w=>i<=es.length/\NB ji X (nnT es i) [.eY (flR es) 0 1] [nnV es] ((es.take i).foldl lP (Ti n [],0)).1 a w) (λi=>es.length-i) 0 ⟨Nat.zero_le _,n0⟩ ?_
 rintro i a w ⟨hi,hn⟩
 have hl:((es.take i).foldl lP (Ti n [],0)).1.length=n:=by rw[Aa];simp
 have hlim:Lim ((es.take i).foldl lP (Ti n [],0)).1 (2*i):=by
  have h0:Lim (Ti n ([]:bV)) 0:=by intro j B hj;rw[List.getElem?_replicate] at hj;split at hj<;>simp at hj;subst hj;simp
  have:=Ab (es.take i) (Ti n [],0) 0 h0;simpa[Nat.min_eq_left hi] using this
 by_cases oA:i<es.length
 ·have hx:es[i]? = some es[i]:=List.getElem?_eq_getElem oA
  refine wpIn_mono (KM GZ hes hx (by grind) hlim hn) ?_
  rintro e a' w' ⟨rfl,n1⟩
  refine .inl ⟨rfl,i+1,⟨by omega,?_⟩,by omega⟩
  have e2:((es.take (i+1)).foldl lP (Ti n [],0)).1=(lP (((es.take i).foldl lP (Ti n [],0)).1,(i:Int)) es[i]).1:=by rw[List.take_add_one,hx,Option.toList_some,List.foldl_append,TG,List.foldl_nil];congr 2;have:=GY (es.take i) (Ti n [],0);rw[List.length_take,Nat.min_eq_left hi] at this;rw[<-Prod.eta ((es.take i).foldl lP (Ti n [],0)),this];simp
  grind
 ·have hi2:i=es.length:=by omega
  subst hi2
  have zme:sub UO 0=.seq (cL (sub UO 0)) (zko (sub UO 0)):=by kernel_rfl
  rw[zme]
  refine wpIn_seq (wpIn_mono (Zb (e:=.normal) (pre':=[.eY (flR es) 0 1]) (more':=[nnV es]) (t':=nnC es (es.length:Int) (fE ((es.length:Int)<((zcD es).length:Int)))) (by simp) (λys _=>nn3 (es:=es) (fl:=flR es) (R:=cg ys) (i:=es.length)) hn) ?_)
  rintro e a1 w1 ⟨rfl,n1⟩
  refine wpIn_seq (wpIn_mono (Zb (e:=.exit 0) (pre':=[.eY (flR es) 0 1]) (more':=[nnV es]) (t':=qm 64 0 [zaH]) (by simp) (λys _=>nnc0 (es:=es) (fl:=flR es) (R:=cg ys) (i:=es.length) (b:=fE ((es.length:Int)<((zcD es).length:Int))) (aR zj.row es)) n1) ?_)
  rintro e a2 w2 ⟨rfl,n2⟩
  have n3:=NB.leave hX n2
  rw[List.take_length] at n3
  exact .inr ⟨by simp,by simp,by simp,_,⟨rfl,rfl⟩,n3⟩
abbrev jD(A:List (bV)):bv:=A.map λB=>[.sl (nV B)]
theorem G0(f:Ref->D)(es:List zj):(flR es).map (Tz f)=flR es:=by simp only[flR,List.map_replicate];rfl
theorem Q5{r:bY}(h:TL k r=J):(Ti m r).all (TL k)=J:=mW
abbrev zj6(c d:bv):bY:=[ab c,gM (.eY 0 0),ab d]
abbrev zbR(a:List zj)(b:bv):bY:=(zj6 (S2 zj.row a) b)
abbrev zcH(a:Nat)(b:bY):List (bY):=(Ti (S9 (↑a:Int)) b)
abbrev ziz:bY:=S2 lit (Yn (Value.int S6 0)).toList
theorem nn_ev(hn:n<=10000)(hes:es.length<=65536)(Pt:∀x∈es,ez n x):(Ev S5 ji 190 [eO (n:Int),ab (zcD es)] [] zcb [.eY (flR es) 0 1,xx,eP (zj6 (zcD es) (jD (j1 n es)))]):=by have xd:=(@nn_cw (n) (es) (hes) (Pt));let v0:=ziz;let v1:=S7 (S2 zj.row es);let v2:=S2 lit (Yn (Value.slice Y 0 0)).toList;refine Tw (yF (h':=[.eY (flR es) 0 1,xx,eP (zbR es (jD (j1 n es)))]) (d:=gM (qn 2 0)) [((by subst v0 v1 v2;grind):(fE (0<=(↑v1:Int))&&fE ((↑v1:Int)<=(↑v1:Int))&&fE ((↑v1:Int)*(↑8:Int)<=281474976710656)&&fE ((↑v1:Int)<=281474976710656))=J),((by subst v0 v1 v2;grind):(fE (0<=(↑n:Int))&&fE ((↑n:Int)<=(↑n:Int))&&fE ((↑n:Int)*(↑24:Int)<=281474976710656)&&fE ((↑n:Int)<=281474976710656))=J),(?_:Tq (zcH v1 v0) (TL 0)=J),(?_:Tq (zcH v1 v0) (TL 1)=J),(?_:Tq (zcH v1 v0) (TL 1)=J),(?_:Tq (zcH v1 v0) (TL 2)=J),(?_:Tq (zcH n v2) (TL 2)=J),(?_:Tq (zcH v1 v0) (TL 2)=J),(?_:Tq (zcH v1 v0) (TL 3)=J),(?_:Tq (zcH n v2) (TL 3)=J),(?_:Tq (zcH v1 v0) (TL 3)=J),(?_:Tq (zcH n v2) (TL 0)=J),(?_:Tq (zcH v1 v0) (TL 1)=J),(?_:Tq (zcH n v2) (TL 1)=J),(?_:Tq (zcH v1 v0) (TL 2)=J),(?_:Tq (zcH n v2) (TL 2)=J),(?_:Tq (zcH n v2) (TL 2)=J),(?_:Tq (zcH v1 v0) (TL 3)=J),(?_:Tq (zcH n v2) (TL 3)=J),(?_:Tq (zcH n v2) (TL 3)=J),.n 1,.a1 .zsU,.s [5,16,17,18] xd,((by subst v0 v1 v2;simp_all):adjV (j1 n es)=S2 (λx=>S2 D.p x) (jD (j1 n es))),(?_:S2 (Tz (cw 1 0 (jD (j1 n es)))) (flR es)=flR es),.o (Λ 1 (jD (j1 n es)))]) Fb Fb<;>subst v0 v1 v2<;>(first|exact G0 _ _|exact GZ _|exact Q5 rfl)
abbrev zh1(a:bV)(b:bY):aT:=[.eY (aq a) 0 1,xx,eP b]
abbrev fwH(es:List zj)(A:bv)(fs:bV):aT:=(zh1 fs (zj6 (zcD es) A))
theorem KN{l:bV}{a:Int}(ha:l[i]?=G a):Ni S5 3 (aq l) 0 0 i 0 (eO a):=by
 have e1:(aq l)[i]?=G [eO a]:=by simp[aq,ha]
 unfold Ni;simp[e1];rfl
theorem BK{l:bV}{a:Int}(hi:i<l.length):aY S5 (.eY (aq l) 0 1::rest) 3 (gM (.vp 0 0 i 0)) (eO a)=G (.eY (aq (l.set i a)) 0 1::rest):=by
 have e1:(aq l)[i]?=G [eO l[i]]:=by simp[aq,hi]
 unfold aY;simp only[List.getElem?_cons_zero,e1,if_true];simp[aq,List.map_set,List.set_cons_zero];rfl
theorem BL{l:bV}{z:Int}(hz:z=i)(hi:i<l.length):Ps z (aq l).length=J:=by grind [Ps,aq]
def fy(r:Int)(x:zj)(f:Int):Int:=match TY r 2==0 with
 |true=>S6.wrap (x.most-f)
 |false=>f
def yk(r:Int)(x:zj):Int:=match TY r 2==0 with
 |true=>x.to
 |false=>x.lk
abbrev zde(a:Nat)(b:Int):bY:=[gM (qn a 0),eO b]
abbrev zjA(a:Int):D:=(gM (.vp 0 0 (S9 (S8 S6 (TR a 2))) 0))
theorem cap_a(hq:S6.wrap (TR r 2)=(q:Int))(hx:ao (S6.wrap (TR r 2)) (zcD es) x.row 3)(hf:fs[S9 (S6.wrap (TR r 2))]?=G f)(hl:q<fs.length):(Ev S5 ji 195 (zde 2 r) (fwH es A fs) (eO (fy r x f)) (fwH es A fs)):=by
 cases sR:TY r 2==0;·let v0:aT:=(zh1 fs (zbR es A));refine Tw (yF (h':=v0) (d:=eO f) [(rfl:(!fE (2=0))=J),.b sR,(rfl:(!fE (2=0))=J),(?_:Ps (S8 S6 (TR r 2)) (S7 (aq fs))=J),(?_:@Eq (At) (aQ S5 v0 3 (zjA r)) (TO f)),.a1 (zdf 33 f)]) (by subst v0;simp[fy,sR];done) (by subst v0;grind)<;>subst v0<;>(first|exact KN hf|exact BL hq hl)
 ·let v0:aT:=(zh1 fs (zbR es A));refine Tw (yF (h':=v0) (d:=eO (S8 S6 (x.most-f))) [.b (rfl:(!fE (2=0))=J),sR,(rfl:(!fE (2=0))=J),.r hx,(rfl:(!fE (2=0))=J),(?_:Ps (S8 S6 (TR r 2)) (S7 (aq fs))=J),(?_:@Eq (At) (aQ S5 v0 3 (zjA r)) (TO f)),.a1 (zdf 24 f)]) (by subst v0;simp[fy,sR];done) (by subst v0;grind)<;>subst v0<;>(first|exact KN hf|exact BL hq hl)
theorem end_a(hx:ao (S6.wrap (TR r 2)) (zcD es) x.row 3):(Ev S5 ji 193 (zde 2 r) (fwH es A fs) (eO (yk r x)) (fwH es A fs)):=by
 cases sR:TY r 2==0;·exact Tw (yF (h':=(zh1 fs (zbR es A))) (d:=eO x.lk) [(rfl:(!fE (2=0))=J),.b sR,(rfl:(!fE (2=0))=J),.r hx]) (by simp[yk,sR];done) mW
 ·exact Tw (yF (h':=(zh1 fs (zbR es A))) (d:=eO x.to) [.b (rfl:(!fE (2=0))=J),sR,(rfl:(!fE (2=0))=J),.r hx]) (by simp[yk,sR];done) mW
def lD(r by':Int):Int:=match TY r 2==1 with
 |true=>S6.wrap (0-by')
 |false=>by'
abbrev zjE(a:bV)(b c e:Int):bV:=UE a (S9 (S8 S6 (TR b 2))) (S8 S6 (c+lD b e))
theorem push_a{A:List (List Dp)}{fs:List Int}{d:Int}(hq:S6.wrap (TR r 2)=(q:Int))(hf:fs[S9 (S6.wrap (TR r 2))]? = some f)(hl:q<fs.length)(hl2:S9 (S6.wrap (TR r 2))<fs.length):(Ev S5 ji 197 [.ref (.ptr 2 0),eO r,eO d] (fwH es A fs) (.Pp []) (fwH es A (fs.set (S9 (S6.wrap (TR r 2))) (S6.wrap (f+lD r d))))):=by
 cases sR:TY r 2==1
 ·let v0:=UE fs (S9 (S8 S6 (TR r 2))) (S8 S6 (f+lD r d))
  let v1:List D:=[ab (S2 zj.row es),.ref (.eY 0 0),ab A]
  refine Tw (yF (h':=[.eY (aq v0) 0 1,.EZ,.var v1]) (d:=TT []) [(rfl:(!fE (2=0))=true),.b sR,(rfl:(!fE (2=0))=true),(?_:Ps (S8 S6 (TR r 2)) (S7 (aq fs))=true),(?_:@Eq (Option D) (aQ S5 [.eY (aq fs) 0 1,.EZ,.var v1] 3 (.ref (.vp 0 0 (S9 (S8 S6 (TR r 2))) 0))) (some (eO f))),(?_:Ps (S8 S6 (TR r 2)) (S7 (aq fs))=true),((by subst v0 v1;(simp[lD,sR];exact BK hl2)):@Eq (Option (List ql)) (aY S5 [.eY (aq fs) 0 1,.EZ,.var v1] 3 (.ref (.vp 0 0 (S9 (S8 S6 (TR r 2))) 0)) (eO (S8 S6 (f+d)))) (some [.eY (aq v0) 0 1,.EZ,.var v1])),.a1 (.ov 18 (eO f)),.a1 (.oh 10021 D.any (fwH es A v0))]) (by subst v0 v1;grind) (by subst v0 v1;grind)<;>subst v0 v1<;>(first|exact KN hf|exact BL hq hl)
 ·let v0:=UE fs (S9 (S8 S6 (TR r 2))) (S8 S6 (f+lD r d))
  let v1:List D:=[ab (S2 zj.row es),.ref (.eY 0 0),ab A]
  refine Tw (yF (h':=[.eY (aq v0) 0 1,.EZ,.var v1]) (d:=TT []) [.b (rfl:(!fE (2=0))=true),sR,(rfl:(!fE (2=0))=true),(?_:Ps (S8 S6 (TR r 2)) (S7 (aq fs))=true),(?_:@Eq (Option D) (aQ S5 [.eY (aq fs) 0 1,.EZ,.var v1] 3 (.ref (.vp 0 0 (S9 (S8 S6 (TR r 2))) 0))) (some (eO f))),(?_:Ps (S8 S6 (TR r 2)) (S7 (aq fs))=true),(?_:@Eq (Option (List ql)) (aY S5 [.eY (aq fs) 0 1,.EZ,.var v1] 3 (.ref (.vp 0 0 (S9 (S8 S6 (TR r 2))) 0)) (eO (S8 S6 (f+S8 S6 (0-d))))) (some [.eY (aq v0) 0 1,.EZ,.var v1])),.a1 (.ov 18 (eO f)),.a1 (.oh 10021 D.any (fwH es A v0))]) (by subst v0 v1;grind) (by subst v0 v1;grind)<;>subst v0 v1<;>(first|exact KN hf|exact BL hq hl|(simp only[lD,sR];exact BK hl2))
def KO(n:Int):Int:=(TB.wrap
     (TB.wrap
       (TB.wrap (V9 1 (2 ^ min (S9 32) 64)*n.fdiv (2 ^ min (S9 32) 64)) +(TB.wrap
           (TB.wrap
             (V9 1 (2 ^ min (S9 32) 64) *
              TB.wrap ↑(Tg 64 n &&& Tg 64 4294967295).toNat) +
            (TB.wrap
               (TB.wrap ↑(Tg 64 1 &&& Tg 64 4294967295).toNat *
                TB.wrap ↑(Tg 64 n &&& Tg 64 4294967295).toNat)).fdiv
             (2 ^ min (S9 32) 64))).fdiv
         (2 ^ min (S9 32) 64)) +
      (TB.wrap
         (TB.wrap
           ↑(Tg 64
               (TB.wrap
                (TB.wrap
                  (V9 1 (2 ^ min (S9 32) 64) *
                   TB.wrap ↑(Tg 64 n &&& Tg 64 4294967295).toNat) +
                 (TB.wrap
                    (TB.wrap ↑(Tg 64 1 &&& Tg 64 4294967295).toNat *
                     TB.wrap
                      ↑(Tg 64 n &&& Tg 64 4294967295).toNat)).fdiv
                  (2 ^ min (S9 32) 64))) &&&
              Tg 64 4294967295).toNat +
          TB.wrap
           (TB.wrap ↑(Tg 64 1 &&& Tg 64 4294967295).toNat *
            n.fdiv (2 ^ min (S9 32) 64)))).fdiv
       (2 ^ min (S9 32) 64)))
theorem Q6:∀n:Nat,n<4097->KO (n:Int)=0:=by
 have h:(List.range 4097).all (λn=>KO (n:Int)==0)=J:=Z
 grind
abbrev zcw(a:Int):Int:=(S8 TB (S8 TB (V9 1 (2 ^ min (S9 32) 64)*S8 TB (↑(Tu (Tg 64 a &&& Tg 64 4294967295)):Int))+V9 (S8 TB (S8 TB (↑(Tu (Tg 64 1 &&& Tg 64 4294967295)):Int)*S8 TB (↑(Tu (Tg 64 a &&& Tg 64 4294967295)):Int))) (2 ^ min (S9 32) 64)))
theorem Q7{n:Int}(h0:KO n=0)(h1:TB.wrap (1*n)=n)(h:aT):(Ev S5 ji 329 [u64 1,u64 n] h (uN [u64 0,u64 n]) h):=yD (TT [u64 (S8 TB (S8 TB (S8 TB (V9 1 (2 ^ min (S9 32) 64)*V9 n (2 ^ min (S9 32) 64))+V9 (zcw n) (2 ^ min (S9 32) 64))+V9 (S8 TB (S8 TB (↑(Tu (Tg 64 (zcw n) &&& Tg 64 4294967295)):Int)+S8 TB (S8 TB (↑(Tu (Tg 64 1 &&& Tg 64 4294967295)):Int)*V9 n (2 ^ min (S9 32) 64)))) (2 ^ min (S9 32) 64))),u64 (S8 TB (1*n))]) [(rfl:fE (0<=32)=J),(rfl:fE (0<=32)=J),(rfl:fE (0<=32)=J),(rfl:fE (0<=32)=J),(rfl:fE (0<=32)=J)] h (by(unfold KO at h0;rw[h0,h1]))
abbrev zgL(a:Nat):D:=(uN [u64 0,u64 (a:Int)])
theorem mul_ev(hn:n<4097)(hm:∀h,Ev S5 ji 329 [u64 1,u64 (n:Int)] h (zgL n) h)(h:aT):(Ev S5 ji 312 [u64 1,u64 (n:Int)] h (zgL n) h):=y0 [.e,.v (@hm ([]))] h
abbrev rpV(n m:Nat):List (bY):=aq (Ti m (-1)++Ti (n-m) 0)
theorem vk(h:m<=n):(rpV n m).length=n:=by unfold rpV;grind [ef]
abbrev zbb(a:List (bY)):aT:=[.eY [[eO (-1)]] 0 1,.eY a 0 1]
abbrev rpH(n m:Nat):aT:=(zbb (rpV n m))
abbrev zfs:Nat×D:=(7,gM (.eY 1 0))
abbrev rpS(n m:Nat):AS:={t:=qm 48 0 [zfs,(8,eO (m:Int))],h:=rpH n m,m:=[]}
abbrev zgr(a:Nat):Ref:=(.vs 1 0 0 a Y)
theorem hs2x{L:Nat}{p q:Prop}{_:Decidable p}{_:Decidable q}(h0:0<m)(h1:m<L):G (lO 0 (m:Int) L&&J&&(J||b)&&J,if (0:Int)=0/\(m:Int)=(L:Int)/\p then Wb (.eY 1 0) else if (m:Int)=0/\¬((m:Int)=(L:Int)/\q) then cU (ci (m:Int) Y) [] else gM (.vs 1 0 (S9 0) ((m:Int).toNat-S9 0) (kh Y 0 (m:Int) Y)))=G (J,Wb (zgr m)):=by
 have e1:¬((m:Int)=(L:Int)):=lj
 have e2:¬((m:Int)=0):=lj
 have e3:lO 0 (m:Int) L=J:=by simp[lO];omega
 simp only[e1,e2,e3,false_and,and_false,if_false,Bool.true_or,Bool.and_true,UD,Int.toNat_zero,Nat.sub_zero];rfl
abbrev zan(a:Int)(b c d:Nat)(e:Int):D:=if (a:Int)=0/\(↑b:Int)=(↑(S7 (rpV c d)):Int)/\(Y:DO)=Y then gM (.eY 1 0) else if (↑b:Int)=e/\¬((↑b:Int)=(↑(S7 (rpV c d)):Int)/\(Y:DO)=Y) then cU (ci (↑b:Int) Y) [] else gM (.vs 1 0 (S9 e) (S9 (↑b:Int)-S9 e) (kh Y e (↑b:Int) Y))
abbrev zfn(a b:Nat):Ref:=(.vs 1 0 a (b-a) Y)
theorem Q8(hmk:m+k<=n)(oA:fE ((m:Int)<((rpV n m).length:Int))=J)(hw:S6.wrap ((m:Int)+(k:Int))=((m+k:Nat):Int))(hs1:∀g V,g[1]?=G (.eY V 0 1)->V.length=n->ej S5 g 32 zcO (G (eO (m:Int))) Y Y=G (J,Wb (zfn m n)))(hm0:0<m)(hmL:m<(rpV n m).length)(hmK:m<(rpV n (m+k)).length)(hcp:Ju S5 (rpH n m) .copy [32,32] [gM (zfn m n),gM (zgr m)]=G (J,eO (k:Int),rpH n (m+k))):(CW S5 ji H N (sub YH 0) (rpS n m) w8 (rpS n (m+k))):=by let v0:=TU m (TP 0 (rpV n m));refine yX {t:=qm 48 0 [zfs,(8,eO (S8 S6 ((↑m:Int)+(↑k:Int))))],h:=(zbb (rpV n (m+k))),m:=[]} Tr [E6 (IW [7,8])] [.b oA,(?_:@Eq (Option (Bool×D)) (G (lO (↑m:Int) (↑(S7 (rpV n m)):Int) (S7 (rpV n m))&&J&&(J||N)&&J,(zan (↑m) (S7 (rpV n m)) n m (↑m:Int)))) (G (J,Wb (zfn m n)))),(?_:@Eq (Option (Bool×D)) (G (lO 0 (↑m:Int) (S7 (rpV n m))&&J&&(J||J)&&J,(zan 0 m n m 0))) (G (J,Wb (zgr m)))),((by subst v0;assumption):@Eq (Option (Bool×D×aT)) (G (Tq v0 (aL 1),eO (↑(min (S7 v0) (n-m)):Int),if min (S7 v0) (n-m)=0 then [.eY [[eO (-1)]] 0 1,.eY (rpV n m) 0 1] else UE [.eY [[eO (-1)]] 0 1,.eY (rpV n m) 0 1] 1 (.eY (TU m (rpV n m)++(TU (min (S7 v0) (n-m)) v0++TP (m+min (S7 v0) (n-m)) (rpV n m))) 0 1))) (G (J,eO (↑k:Int),[.eY [[eO (-1)]] 0 1,.eY (rpV n (m+k)) 0 1]))),(?_:@Eq (Option (Bool×D)) (G (lO (↑m:Int) (↑(S7 (rpV n m)):Int) (S7 (rpV n m))&&J&&(J||N)&&J,(zan (↑m) (S7 (rpV n m)) n m (↑m:Int)))) (G (J,Wb (zfn m n)))),(?_:@Eq (Option (Bool×D)) (G (lO 0 (↑m:Int) (S7 (rpV n m))&&J&&(J||J)&&J,(zan 0 m n m 0))) (G (J,Wb (zgr m)))),.a1 (zfG 41 (gM (zfn m n))),.a1 (zfG 44 (gM (zgr m))),.a1 (.oh 45 (eO (↑k:Int)) (rpH n (m+k)))] (by subst v0;grind) (by subst v0;grind)<;>subst v0<;>(first|exact hs1 (rpH n m) _ rfl (vk lj)|exact hs2x hm0 hmL)
theorem Q9(oA:fE ((m:Int)<((rpV n m).length:Int))=N):(CW S5 ji H N (sub YH 0) (rpS n m) (EY 0) {t:=qm 48 0 [zfs],h:=rpH n m,m:=[]}):=yx (zeI 7) [.b oA]
abbrev zd8(a b:Int):Bool:=fE (0<=a)&&fE (a<=a)&&fE (a*b<=281474976710656)&&fE (a<=281474976710656)
abbrev zei:aT:=[.eY [[eO (-1)]] 0 1]
abbrev zgK(a b:Nat)(c d:aT)(e:Nat)(f g:List (bY)):aT:=if min a (b)=0 then c else UE d 1 (.eY (TU e f++(TU (min a (b)) g++TP (e+min a (b)) f)) 0 1)
abbrev zha(a:Nat):D:=(eO (S6.wrap (a:Int)))
theorem rp_a{V0 V1 Vn:List (bY)}(hn:fE ((n:Int)<0)=false)(hb:(fE ((0:Int)>0)||fE ((n:Int)>9223372036854775807))=false)(hm:∀h,Ev S5 ji 312 [u64 (TB.wrap 1),u64 (TB.wrap (n:Int))] h (zgL n) h)(hmk:tL S5 zei 32 (zha n) (zha n)=some (true,Wb (.eY 1 0),(zbb V0)))(hcp:Ju S5 (zbb V0) .copy [32,32] [.ref (.eY 1 0),.ref (.eY 0 0)]=some (true,eO 1,(zbb V1)))(hl:CW S5 ji zei false (.loop (sub YH 0)) {t:=qm 48 0 [zfs,(8,eO 1)],h:=(zbb V1),m:=[]} (.exit 0) {t:=qm 48 0 [zfs],h:=(zbb Vn),m:=[]}):(Ev S5 ji 271 [.ref (.eY 0 0),eO (n:Int)] zei zcO (zbb Vn)):=by have xd:=(@hl);let v0:aT:=(zbb V0);let v1:=S7 [[eO (-1)]];refine Tw (yF (h':=(zbb Vn)) (d:=.ref (.eY 1 0)) [.b hn,.v (@hm (zei)),.b hb,(?_:@Eq (Option (Bool×D×aT)) (some ((zd8 (S8 S6 (↑n:Int)) (↑8:Int)),.ref (.eY 1 0),(zbb (Ti (S9 (S8 S6 (↑n:Int))) (ziz))))) (some (true,Wb (.eY 1 0),v0))),(?_:@Eq (Option (Bool×D×aT)) (some (Tq [[eO (-1)]] (aL 1),eO (↑(min v1 (S7 V0)):Int),(zgK v1 (S7 V0) v0 v0 0 V0 [[eO (-1)]]))) (some (true,eO 1,(zbb V1)))),.a1 (.oh 30 zcO v0),.a1 (.oh 33 (eO 1) (zbb V1)),.s [7,8] xd]) (by rfl) (by rfl)<;>subst v0 v1<;>(assumption)
theorem tyI:(fS S5 32,S5.underlying 32,γ S5 3,bytesOf S5 3,eA S5 3)=(G 3,G (.slice 3),G 1,G 8,G [eO 0]):=Z
theorem rp_sl{g:aT}{V:List (bY)}(hb:g[1]?=G (.eY V 0 1))(hl:V.length=n)(h0:0<m)(hm:m<n):ej S5 g 32 zcO (G (eO (m:Int))) Y Y=G (J,gM (zfn m n)):=by
 have h3:=tyI;simp only[Tk] at h3;have h4:lO (m:Int) n n=J:=by simp[lO];omega
 have h5:¬((m:Int)=0):=lj
 have h6:¬((n:Int)=(m:Int)):=lj
 simp only[ej,cZ,Dz,h3.2.1,h3.2.2.1,lR,hb,hl,if_true,ξ,Option.map_some,ZK,h4,h5,h6,gm,UD,if_false,Bool.and_self,Option.isNone_none,Bool.true_or,and_true,false_and];rfl
theorem repV(n m:Nat):aq (Ti m (-1)++Ti (n-m) 0)=Ti m [eO (-1)]++Ti (n-m) [eO 0]:=by simp[aq]
theorem rp_cp(h0:0<m)(hm:m<n):Ju S5 (rpH n m) .copy [32,32] [.ref (.vs 1 0 m (n-m) none),.ref (.vs 1 0 0 m none)]=some (true,eO ((min m (n-m):Nat):Int),rpH n (m+min m (n-m))):=by
 have e0:Ju S5 (rpH n m) .copy [32,32] [.ref (.vs 1 0 m (n-m) none),.ref (.vs 1 0 0 m none)]=some (Tq (TU m (TP 0 (rpV n m))) (aL 1),eO ((min (S7 (TU m (TP 0 (rpV n m)))) (n-m):Nat):Int),if min (S7 (TU m (TP 0 (rpV n m)))) (n-m)=0 then rpH n m else UE (rpH n m) 1 (.eY (TU m (rpV n m)++(TU (min (S7 (TU m (TP 0 (rpV n m)))) (n-m)) (TU m (TP 0 (rpV n m)))++TP (m+min (S7 (TU m (TP 0 (rpV n m)))) (n-m)) (rpV n m))) 0 1)):=by kernel_rfl
 rw[e0,List.drop_zero]
 have e1:TU m (rpV n m)=Ti m [eO (-1)]:=by
  unfold rpV
  rw[repV]
  exact List.take_left' (by simp)
 have e2:min m (n-m)≠0:=by omega
 have e3:TP (m+min m (n-m)) (rpV n m)=Ti (n-(m+min m (n-m))) [eO 0]:=by
  unfold rpV
  rw[repV,<-List.drop_drop,List.drop_left' (by simp),List.drop_replicate]
  congr 1
  omega
 have e4:(Ti m [eO (-1)]).all (aL 1)=true:=by
  rw[TW]
  intro x hx
  rw[List.eq_of_mem_replicate hx]
  rfl
 rw[e1,List.length_replicate,e3,e4,if_neg e2,List.take_replicate]
 have e5:rpV n (m+min m (n-m))=Ti m [eO (-1)]++(Ti (min (min m (n-m)) m) [eO (-1)]++Ti (n-(m+min m (n-m))) [eO 0]):=by
  unfold rpV
  rw[repV,<-List.append_assoc,List.replicate_append_replicate]
  congr 2
  omega
 grind
theorem rep_a(h1:2<=n)(hn:n<=4096):Ev S5 ji 271 [.ref (.eY 0 0),eO (n:Int)] [.eY [[eO (-1)]] 0 1] (.ref (.eY 1 0)) [.eY [[eO (-1)]] 0 1,.eY (Ti n [eO (-1)]) 0 1]:=by
 have hw:S6.wrap (n:Int)=(n:Int):=wrap_i64 (by omega) (by omega)
 have hw1:TB.wrap (1:Int)=1:=by decide
 have hw2:TB.wrap (n:Int)=(n:Int):=by
  have e:TB.wrap (n:Int)=(n:Int) % 18446744073709551616:=rfl
  rw[e,Int.emod_eq_of_lt (by omega) (by omega)]
 have hm (h:List ql):Ev S5 ji 312 [u64 (TB.wrap 1),u64 (TB.wrap (n:Int))] h (.Pp [u64 0,u64 (n:Int)]) h:=by
  rw[hw1,hw2]
  exact mul_ev (by omega) (λh=>Q7 (Q6 n (by omega)) (by grind) h) h
 have hmk:tL S5 [.eY [[eO (-1)]] 0 1] 32 (eO (S6.wrap (n:Int))) (eO (S6.wrap (n:Int)))=some (true,.ref (.eY 1 0),[.eY [[eO (-1)]] 0 1,.eY (Ti n [eO 0]) 0 1]):=by
  have h3:=tyI
  simp only[Tk] at h3
  rw[hw]
  have e:(fE (0<=(n:Int))&&fE ((n:Int)<=(n:Int))&&fE ((n:Int)*((8:Nat):Int)<=281474976710656)&&fE ((n:Int)<=281474976710656))=true:=by simp;omega
  simp only[tL,ZK,h3.1,h3.2.2.1,h3.2.2.2.1,h3.2.2.2.2,Ue,List.length_nil,Nat.zero_add,if_true,e,UD]
  rfl
 have hcp:Ju S5 [.eY [[eO (-1)]] 0 1,.eY (Ti n [eO 0]) 0 1] .copy [32,32] [.ref (.eY 1 0),.ref (.eY 0 0)]=some (true,eO 1,[.eY [[eO (-1)]] 0 1,.eY (rpV n 1) 0 1]):=by
  obtain⟨k,rfl⟩:∃k,n=k+1:=⟨n-1,by omega⟩
  have e1:rpV (k+1) 1=[eO (-1)]::Ti k [eO 0]:=by unfold rpV;rw[repV,Nat.add_sub_cancel];rfl
  rw[e1]
  rfl
 have hl:CW S5 ji [.eY [[eO (-1)]] 0 1] false (.loop (sub YH 0)) (rpS n 1) (.exit 0) {t:=qm 48 0 [(7,.ref (.eY 1 0))],h:=rpH n n,m:=[]}:=by
  refine CW.loop (ι:={m:Nat // 1<=m/\m<=n}) (λm=>rpS n m.1) (λ_=>(.exit 0,{t:=qm 48 0 [(7,.ref (.eY 1 0))],h:=rpH n n,m:=[]})) (λm=>n-m.1) ?_ ⟨1,by omega,by omega⟩
  rintro⟨m,g1,g2⟩
  by_cases h:m<n
  ·refine .inl ⟨⟨m+min m (n-m),by omega,by omega⟩,by grind,rfl,?_⟩
   have hL:(rpV n m).length=n:=vk g2
   have hL2:(rpV n (m+min m (n-m))).length=n:=vk (by omega)
   exact Q8 (n:=n) (m:=m) (k:=min m (n-m)) (by omega) (by grind) (by rw[wrap_i64 (by omega) (by omega)];omega) (λg V hb hl=>rp_sl hb hl (by omega) h) (by omega) (by omega) (by omega) (rp_cp (by omega) h)
  ·have:m=n:=by omega
   subst this
   refine .inr ⟨by simp,Q9 ?_⟩
   have hL:(rpV m m).length=m:=vk (Nat.le_refl _)
   rw[hL];simp
 have h0:=rp_a (V0:=Ti n [eO 0]) (V1:=rpV n 1) (Vn:=rpV n n) (n:=n) (by simp) (by simp;omega) hm hmk hcp hl
 have e1:rpV n n=Ti n [eO (-1)]:=by unfold rpV;rw[repV,Nat.sub_self];simp
 grind
theorem BM{es:List zj}{A:bv}{fs:bV}{r f:Int}{x:zj}{q:Nat}(hq:S6.wrap (TR r 2)=(q:Int))(hx:ao (S6.wrap (TR r 2)) (zcD es) x.row 3)(hf:fs[S9 (S6.wrap (TR r 2))]?=G f)(hl:q<fs.length):Ev S5 ji 195 (zde 2 r) (fwH es A fs) (eO (fy r x f)) (fwH es A fs):=cap_a hq hx hf hl
theorem BN{es:List zj}{A:bv}{fs:bV}{r:Int}{x:zj}(hx:ao (S6.wrap (TR r 2)) (zcD es) x.row 3):Ev S5 ji 193 (zde 2 r) (fwH es A fs) (eO (yk r x)) (fwH es A fs):=end_a hx
abbrev zaZ:Nat×D:=(zjy 6 4)
abbrev za3:Nat×D:=(zjy 5 3)
abbrev za6:Nat×D:=(zjy 7 8)
abbrev za9:Nat×D:=(zjy 0 2)
abbrev zj3:bY:=[gM (qn 9 0),gM (qn 10 0)]
abbrev zbi:bY:=zj3
abbrev zja(a:Int):bY:=qm 59 0 [za9,za3,zaZ,za6,(8,eO a),(39,.fn (.func 313) [] zbi)]
noncomputable abbrev usL(v:Int)(st:LoopState)(pd:On):ql:=Js st pd 0 (zja v) #[40,41] (ax (sub TD 1)) (ak (sub TD 1))
noncomputable abbrev usH(es:List zj)(A:bv)(fs:bV)(v:Int)(b3 b4 b5 b6 b7 b8:ql)(st:LoopState)(pd:On):aT:=[.eY (aq fs) 0 1,xx,eP (zj6 (zcD es) A),b3,b4,b5,b6,b7,b8,eP zbp,eP [eO v],NH,usL v st pd]
abbrev zda(a:Nat):Nat×D:=(2,gM (qn a 0))
noncomputable abbrev usS(es:List zj)(A:bv)(fs:bV)(v:Int)(B:bv)(b3 b4 b5 b6 b7 b8:ql)(j:Int):AS:={t:=qm 32 0 [(zfJ 12),(zb9 9),(zda 10),(12,ab B),(13,eO (B.length:Int)),(14,eO j)],h:=usH es A fs v b3 b4 b5 b6 b7 b8 EV Y,m:=[]}
abbrev zhm(b:Int)(c:bY):bY:=(qm 59 0 [(zjy 0 2),(zjy 5 3),(zjy 6 4),(zjy 7 8),(8,eO b),(39,UL (TM 313) [] c)])
abbrev Z7(a:Int):bY:=(zhm a zj3)
abbrev ziC:Array Tmp:={toList:=[40,41]}
abbrev zci:Array Tmp:=ziC
noncomputable abbrev vn(es:List zj)(A:bv)(fs:bV)(v:Int)(b3:ql)(b4:ql)(b5:ql)(c6:ql)(c7:ql)(c8:ql):aT:=[.eY (aq fs) 0 1,xx,eP (zbR es A),b3,b4,b5,c6,c7,c8,eP zbp,eP [eO v],NH,Js TJ Y 0 (Z7 v) zci (ax (sub TD 1)) (ak (sub TD 1))]
theorem us_no(hq:S6.wrap (TR r 2)=(q:Int))(hx:ao (S6.wrap (TR r 2)) (zcD es) x.row 3)(hf:fs[S9 (S6.wrap (TR r 2))]?=G f)(hl:q<fs.length)(hr:ao (j:Int) B [vi r] 1)(oA:fE ((j:Int)<(B.length:Int))=J)(hw:S6.wrap ((j:Int)+1)=((j+1:Nat):Int))(hc:fE (fy r x f>0)=N):(CW S5 ji (usH es A fs v b3 b4 b5 b6 b7 b8 EV Y) N (sub Xq 0) (usS es A fs v B b3 b4 b5 c6 c7 c8 j) w8 (usS es A fs v B b3 b4 b5 c6 c7 c8 ((j+1:Nat):Int))):=by refine yX {t:=qm 32 0 [(zfJ 12),(zb9 9),(zda 10),(12,ab B),(zcI 13 (S7 B)),(14,(ZZ j))],h:=(vn es A fs v b3 b4 b5 c6 c7 c8),m:=[]} Tr [E6 (IW [0,1,2,12,13,14])] [.b oA,.r hr,.v ((fX [0,1,2] (@BM es A fs r f x q hq hx hf hl) ⟨?_,trivial⟩ ⟨?_,trivial⟩):Ev S5 ji 195 (zde 2 r) (vn es A fs v b3 b4 b5 c6 c7 c8) (eO (fy r x f)) (vn es A fs v b3 b4 b5 c6 c7 c8)),.g ((by rw[hc]<;>rfl):(fE (fy r x f>0)==J)=N),.g ((by rw[hc]<;>rfl):(fE (fy r x f>0)==J)=N),.g ((by rw[hc]<;>rfl):(fE (fy r x f>0)==J)=N),.g ((by rw[hc]<;>rfl):(fE (fy r x f>0)==J)=N),.g ((by rw[hc]<;>rfl):(fE (fy r x f>0)==J)=N),.g ((by rw[hc]<;>rfl):(fE (fy r x f>0)==J)=N),.g ((by rw[hc]<;>rfl):(fE (fy r x f>0)==J)=N),((cA hc rfl):bl (eR (fE (fy r x f>0))) (D.p (Dp.v (Value.tuple {toList:=[]}))) (eR N) (eR N)),.a1 (zdu 30),.e] mW mW<;>(exact bq _ _)
noncomputable abbrev G1(es:List zj)(A:bv)(fs:bV)(v:Int)(b3:ql)(b4:ql)(b5:ql)(d6:ql)(d7:ql)(d8:ql):aT:=[.eY (aq fs) 0 1,xx,eP (zbR es A),b3,b4,b5,d6,d7,d8,eP zbp,eP [eO v],NH,Js TJ Y 0 (Z7 v) zci (ax (sub TD 1)) (ak (sub TD 1))]
noncomputable abbrev lE(es:List zj)(A:bv)(fs:bV)(v:Int)(b3:ql)(b4:ql)(b5:ql)(c6:ql)(c7:ql)(c8:ql):aT:=[.eY (aq fs) 0 1,xx,eP (zbR es A),b3,b4,b5,c6,c7,c8,eP zbp,eP [eO v],NH,Js TJ Y 0 (Z7 v) zci (ax (sub TD 1)) (ak (sub TD 1))]
theorem us_yes{u:Int}(hq:S6.wrap (TR r 2)=(q:Int))(hx:ao (S6.wrap (TR r 2)) (zcD es) x.row 3)(hf:fs[S9 (S6.wrap (TR r 2))]?=G f)(hl:q<fs.length)(hr:ao (j:Int) B [vi r] 1)(oA:fE ((j:Int)<(B.length:Int))=J)(hw:S6.wrap ((j:Int)+1)=((j+1:Nat):Int))(hc:fE (fy r x f>0)=J)(hu:yk r x=u)(hy:Iv S5 ji (gM (.yl 12)) [eO r,eO (yk r x)] (usH es A fs v b3 b4 b5 c6 c7 c8 EV Y) (eR J) (usH es A fs v b3 b4 b5 d6 d7 d8 EV Y)):(CW S5 ji (usH es A fs v b3 b4 b5 b6 b7 b8 EV Y) N (sub Xq 0) (usS es A fs v B b3 b4 b5 c6 c7 c8 j) w8 (usS es A fs v B b3 b4 b5 d6 d7 d8 ((j+1:Nat):Int))):=by refine yX {t:=qm 32 0 [(zfJ 12),(zb9 9),(zda 10),(12,ab B),(zcI 13 (S7 B)),(14,(ZZ j))],h:=(G1 es A fs v b3 b4 b5 d6 d7 d8),m:=[]} Tr [E6 (IW [0,1,2,12,13,14])] [.b oA,.r hr,.v ((fX [0,1,2] (@BM es A fs r f x q hq hx hf hl) ⟨?_,trivial⟩ ⟨?_,trivial⟩):Ev S5 ji 195 (zde 2 r) (lE es A fs v b3 b4 b5 c6 c7 c8) (eO (fy r x f)) (lE es A fs v b3 b4 b5 c6 c7 c8)),.g ((by rw[hc]<;>rfl):(fE (fy r x f>0)==J)=J),.g ((by rw[hc]<;>rfl):(fE (fy r x f>0)==J)=J),.g ((by rw[hc]<;>rfl):(fE (fy r x f>0)==J)=J),.g ((by rw[hc]<;>rfl):(fE (fy r x f>0)==J)=J),.g ((by rw[hc]<;>rfl):(fE (fy r x f>0)==J)=J),.v ((fX [0,1,2] (@BN es A fs r x hx) ⟨?_,trivial⟩ ⟨?_,trivial⟩):Ev S5 ji 193 (zde 2 r) (lE es A fs v b3 b4 b5 c6 c7 c8) (eO (yk r x)) (lE es A fs v b3 b4 b5 c6 c7 c8)),.g ((by rw[hc]<;>rfl):(fE (fy r x f>0)==J)=J),.j (@hy),.g ((by rw[hc]<;>rfl):(fE (fy r x f>0)==J)=J),((bN hc rfl):bl (eR (fE (fy r x f>0))) (eR !true) (eR N) (eR !true)),.a1 (zfG 30 (eR !true)),.e] mW mW<;>(exact bq _ _)
noncomputable abbrev jl(es:List zj)(A:bv)(fs:bV)(v:Int)(b3:ql)(b4:ql)(b5:ql)(c6:ql)(c7:ql)(c8:ql):aT:=[.eY (aq fs) 0 1,xx,eP (zbR es A),b3,b4,b5,c6,c7,c8,eP zbp,eP [eO v],NH,Js TJ Y 0 (Z7 v) zci (ax (sub TD 1)) (ak (sub TD 1))]
theorem us_stop{u:Int}(hq:S6.wrap (TR r 2)=(q:Int))(hx:ao (S6.wrap (TR r 2)) (zcD es) x.row 3)(hf:fs[S9 (S6.wrap (TR r 2))]? = some f)(hl:q<fs.length)(hr:ao (j:Int) B [vi r] 1) (oA:fE ((j:Int)<(B.length:Int))=true) (hc:fE (fy r x f>0)=true)(hy:Iv S5 ji (.ref (.yl 12)) [eO r,eO (yk r x)] (usH es A fs v b3 b4 b5 c6 c7 c8 .ready none) (eR false) (usH es A fs v b3 b4 b5 d6 d7 d8 .done (some (.exit 0)))):(CW S5 ji (usH es A fs v b3 b4 b5 b6 b7 b8 .ready none) false (sub Xq 0) (usS es A fs v B b3 b4 b5 c6 c7 c8 j) .ret {t:=qm 32 0 [],h:=usH es A fs v b3 b4 b5 d6 d7 d8 .done (some (.exit 0)),m:=[]}):=by refine yx zbN [.b oA,.r hr,.v ((fX [0,1,2] (@BM es A fs r f x q hq hx hf hl) ⟨?_,trivial⟩ ⟨?_,trivial⟩):Ev S5 ji 195 (zde 2 r) (jl es A fs v b3 b4 b5 c6 c7 c8) (eO (fy r x f)) (jl es A fs v b3 b4 b5 c6 c7 c8)),.g ((by rw[hc]<;>rfl):(fE (fy r x f>0)==true)=true),.g ((by rw[hc]<;>rfl):(fE (fy r x f>0)==true)=true),.g ((by rw[hc]<;>rfl):(fE (fy r x f>0)==true)=true),.g ((by rw[hc]<;>rfl):(fE (fy r x f>0)==true)=true),.g ((by rw[hc]<;>rfl):(fE (fy r x f>0)==true)=true),.v ((fX [0,1,2] (@BN es A fs r x hx) ⟨?_,trivial⟩ ⟨?_,trivial⟩):Ev S5 ji 193 (zde 2 r) (jl es A fs v b3 b4 b5 c6 c7 c8) (eO (yk r x)) (jl es A fs v b3 b4 b5 c6 c7 c8)),.g ((by rw[hc]<;>rfl):(fE (fy r x f>0)==true)=true),.j (@hy),.g ((by rw[hc]<;>rfl):(fE (fy r x f>0)==true)=true),((bN hc rfl):bl (eR (fE (fy r x f>0))) (eR !false) (eR false) (eR !false)),.a1 (.ov 30 (eR !false)),.e]<;>(exact bq _ _)
theorem Ra(oA:fE ((j:Int)<(B.length:Int))=N):(CW S5 ji (usH es A fs v b3 b4 b5 b6 b7 b8 EV Y) N (sub Xq 0) (usS es A fs v B b3 b4 b5 c6 c7 c8 j) (EY 0) {t:=qm 32 0 [],h:=usH es A fs v b3 b4 b5 c6 c7 c8 EV Y,m:=[]}):=yx zbN [.b oA]
end Go.Vi
