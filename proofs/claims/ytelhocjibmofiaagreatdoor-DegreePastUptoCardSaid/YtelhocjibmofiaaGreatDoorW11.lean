/- A part of the proof; no conditions of its own. -/
import Derived.Test.YtelhocjibmofiaaGreatDoorW10
import Derived.Test.YtelhocjibmofiaaGreatDoorCards
import Derived.Test.YtelhocjibmofiaaGreatDoorTie
import Derived.WalkKit
import Derived.ProofKit
import Derived.OpenShut
import Derived.Deep.DeepHandedRow
import Derived.Lib.LaidTab
open Decidable renaming decide -> Zd
open Go.Vi.Uj renaming row -> MQ
open Go.Proofs.Tryz renaming prog -> MJ, f123 -> PV, f65 -> TD, underlying123 -> T2
open List renaming getElem?_eq_some_iff -> MR, getElem?_eq_getElem -> Nd, map -> MK, length -> MO, length_zipIdx -> T1, map_cons -> NW, flatMap_cons -> Ri, length_append -> Nv, length_cons -> Nq, replicate -> MS, append_assoc -> OQ, foldl_cons -> Nn, nodup_nil -> Rm, length_mergeSort -> RZ, sum_cons -> SM, mem_cons -> NF, mem_map -> Nt, range -> N9, getD -> Nb, filterMap_cons -> QV, mem_cons_of_mem -> O2, mem_flatMap -> Ry, mem_singleton -> OM, map_congr_left -> PE, forall_mem_cons -> N6, mem_cons_self -> OI
open Option.some renaming injEq -> MM
open Go.IntKind renaming i64 -> ML, wrap -> MN
open Option renaming isSome -> Nk, getD -> NQ
open Go.Vi.D renaming UI -> NG, p -> QB, UG -> NS, YK -> N8
open Go.Vi.Dp renaming v -> Qy
open Go.Value renaming nilFunc -> NT, oneCell' -> NZ, cells -> SD
open Go.Exit renaming normal -> M6, exit -> NR
open Go.Vi.Uc renaming inn -> MY
open Go.Vi.Ev renaming zfO -> Na, zfp -> Qn, zeY -> Ov, zfL -> Ns
open Int renaming toNat -> MU
open Go.Vi.Uv renaming row -> MZ
open Go.Vi.zfx renaming row -> M9
open Go.Vi.Uh renaming row -> M3
open Go.Vi.U9 renaming fl -> MX
open Classical renaming choose_spec -> SE
open Go.Vi.UA renaming row -> M0
open Nat renaming le_trans -> OP, mul_le_mul_right -> OB
open Go.Vi.TO renaming zero -> TQ, row -> NU
open Bool renaming and_eq_true -> MT, or_eq_false_iff -> PF
open Go Go.Proofs
namespace Go.Vi
set_option maxRecDepth 100000
set_option maxHeartbeats 4000000
variable {a:Uj}{as_:bv}{e ST n st T4:Int}{i:Nat}{l out:iF}{m1 m2:IM}{r:UW}{rp xs:bV}{rs rs0:oF}{u:Unit}{w:T9}
theorem JJ{rp:bv}(U8:Zd ((i:Int)<((l.map MQ).length:Int))=false):(CW MJ U2 [] false (sub PV 0) (caS l rp m1 m2 i) (.exit 0) {t:=Ue 135 0 [(VE 0 l),(4,uK),(5,SW 0),WZ],h:=caH m1 m2,m:=[]}):=by
 exact zx [.st (.mask [0,4,5,8])] [.b false] (.c U8 .n)
abbrev CaE:=(Uj×Int)×Nat
def caE(l:iF)(e:CaE)(s:IM×IM):(IM×IM)⊕Unit:=caF l (e.2:Int) e.1.2 e.1.1 s
def caL(l:iF)(rp:bV):List CaE:=(l.zip rp).zipIdx
abbrev caZ(l:iF)(s:IM×IM):AS:=(zb6 135 [(VE 0 l),(4,uK),(5,SW 0),WZ] (caH s.1 s.2))
def JK(l:iF)(rp:bV):Exit×AS:=bJ (.exit 0) (caZ l) caX (UD (caE l) (caL l rp) ([],[]))
theorem ca_cw(hl:am l)(hr:rp.length=l.length):
  CW MJ U2 [] false (.loop (sub PV 0)) (caS l (Ys rp) [] [] 0) (JK l rp).1 (JK l rp).2:=by
 have hlen:(caL l rp).length=l.length:=by simp[caL,hr]
 have:=CW.each (P:=MJ) (Γ:=U2) (h0:=[]) (rd:=false) (c:=sub PV 0) (caL l rp) (caE l) (λi s=>caS l (Ys rp) s.1 s.2 (i:Int)) (.exit 0) (caZ l) caX
  (λ_ s=>∀c v,U4 s.2 c=some v->0<=v/\v<(l.length:Int)) (by simp) (λ_=>by simp) ?_ ?_ ([],[]) (by intro c v h;simp[U4] at h)
 ·exact this
 ·rintro i ⟨⟨a,r⟩,n⟩ ⟨m1,m2⟩ hp hinv
  obtain⟨hi,he⟩:=MR.1 hp
  rw[hlen] at hi
  have hi':i<rp.length:=by omega
  have e1:n=i/\a=l[i]/\r=rp[i]:=by
   have e2:=he.symm
   simp[caL] at e2
   obtain⟨⟨x1,x2⟩,x3⟩:=e2
   exact⟨x3,x1,x2⟩
  obtain⟨rfl,ha,hrr⟩:=e1
  have h1:l[n]? = some a:=by rw[ha];exact Nd hi
  have h2:rp[n]? = some r:=by rw[hrr];exact Nd hi'
  have q1:=rowAt (row:=MQ) (sz:=5) h1 rfl
  have q2:=rowAt (row:=λn:Int=>[vi n]) (sz:=1) h2 rfl
  have q3:=UO MQ hi
  have q4:=Uo hi hl
  refine⟨λs' h=>?_,?_⟩
  ·simp only[caE,caF] at h
   split at h
   ·simp at h
   ·simp only[Sum.inl.injEq] at h
    subst h
    intro c v hc
    simp only at hc
    split at hc
    ·rw[vr] at hc
     split at hc
     ·simp only[MM] at hc;subst hc;omega
     ·exact hinv c v hc
    ·exact hinv c v hc
  ·simp only[caE]
   by_cases hb:(!(Zd (r>=0)&&Zd (r<=2)))=true
   ·exact ca_bX (by rw[hb];rfl) q1 q2 q3 q4
   ·have:r=0\/r=1\/r=2:=by simp at hb;omega
    rcases this with h0|h0|h0
    ·rw[h0] at q2 ⊢;exact ca_b0 (λv hv=>hinv _ v hv) q1 q2 q3 q4
    ·rw[h0] at q2 ⊢;exact ca_b1 (λv hv=>hinv _ v hv) q1 q2 q3 q4
    ·rw[h0] at q2 ⊢;exact ca_b2 q1 q2 q3 q4
 ·rintro⟨m1,m2⟩ _
  rw[hlen]
  exact JJ (bl MQ l)
abbrev cgH(m1 m2:IM)(out:iF):aT:=[.var Db,imB m1,imB m2,.T7 (ap (out.map MQ)) 0 5]
abbrev cgS(l:iF)(m1 m2:IM)(out:iF)(i:Int):AS :=
 {t:=Ue 135 0 [XF,(5,SW 0),WZ,(108,ab (l.map MQ)),(109,SW (l.map MQ).length),(110,SW i)],h:=cgH m1 m2 out,m:=[]}
def zfN(m2:IM)(i:Nat)(a:Uj):Bool:=!(U4 m2 a.T5).isSome||((U4 m2 a.T5).getD 0==(i:Int))
def cgF(m2:IM)(e:Uj×Nat)(out:iF):iF:=bif zfN m2 e.2 e.1 then out++[e.1] else out
abbrev Yl(a b:Nat)(c:D×D×Nat):D×D×Nat:=(NS (a8 a b 0) c.fst,NS (a8 a b 0) c.2.fst,c.2.2)
abbrev Xx(a:Nat)(b:List (bY))(c d:Nat)(e:Uc):Uc:=(match 0+1+1==a with|true=>.T7 (b) c 5|false=>Ux (a8 a d c) (e))
abbrev zbk:BY:=[.st (.mask [4,5,8,108,109,110]),.st (.ren 3 0),.st (.UN 4)]
theorem JL(hr:ax (i:Int) (l.map MQ) a.row 5)(U8:Zd ((i:Int)<((l.map MQ).length:Int))=true)(hw:ML.wrap ((i:Int)+1)=((i+1:Nat):Int))(ho:out.length<=1000000000):(CW MJ U2 [] false (sub PV 1) (cgS l m1 m2 out i) .normal (cgS l m1 m2 (cgF m2 (a,i) out) ((i+1:Nat):Int))):=by
 cases U5:!Nk (U4 m2 a.T5)||NQ (U4 m2 a.T5) 0==(↑i:Int)
 ·let v0:=NG [SW (NQ (U4 m2 a.T5) 0),T6 (Nk (U4 m2 a.T5))]
  refine zX {t:=Ue 135 0 [(4,.ref (.T7 3 0)),(5,SW 0),(8,.ref (.mp 2)),(108,ab (MK MQ l)),(109,SW (↑(MO (MK MQ l)):Int)),(110,SW (MN ML ((↑i:Int)+1)))],h:=[.var [T6 true,fq 207,T6 true,fq 208,T6 false,QB (Qy NT)],.map (bK 0 m1) (MO m1),.map (bK 0 m2) (MO m2),.T7 (ap (MK MQ out)) 0 5],m:=[]} M6 [.st (.mask [4,5,8,108,109,110]),.st (.ren 3 0),.st (.UN 4)] [.b true,.row (MQ a),.ov 119 v0,.b false] (.c U8 (.c hr (.c (show @Eq (oN) (aM MJ [.var [T6 true,fq 207,T6 true,fq 208,T6 false,QB (Qy NT)],.map (bK 0 m1) (MO m1),.map (bK 0 m2) (MO m2),.T7 (ap (MK MQ out)) 0 5,.var [SW a.T5,SW a.T4,SW a.Uf,SW a.UK,SW a.To]] 232 (.ref (.mp 2)) (SW a.T5) true) (some v0) from ?_) (.c U5 (.c (vM (MK MQ out) 3 0 0) (.c (show MK (λe=>(NS (a8 3 0 0) e.fst,NS (a8 3 0 0) e.2.fst,e.2.2)) (bK 0 m1)=bK 0 m1 from ?_) (.c (show MK (λe=>(NS (a8 3 0 0) e.fst,NS (a8 3 0 0) e.2.fst,e.2.2)) (bK 0 m2)=bK 0 m2 from ?_) (.c (iqT 4 (match 0==3 with|true=>.T7 (ap (MK MQ out)) 0 5|false=>Ux (a8 3 0 0) (.var [T6 true,fq 207,T6 true,fq 208,T6 false,QB (Qy NT)]))) (.c (show MY 4 (match 0+1==3 with|true=>.T7 (ap (MK MQ out)) 0 5|false=>Ux (a8 3 0 0) (.map (bK 0 m1) (MO m1)))=true from ?_) (.c (show MY 4 (match 0+1+1==3 with|true=>.T7 (ap (MK MQ out)) 0 5|false=>Ux (a8 3 0 0) (.map (bK 0 m2) (MO m2)))=true from ?_) (.c (iV 4 (MK MQ out) 0 5) .n))))))))))) (by subst v0;first|(have hh:zfN m2 i a=true:=U5;simp only[cgF,hh,cond_true,hw,bE];first|done|rfl)|(have hh:zfN m2 i a=false:=U5;simp only[];first|done|rfl)) (by subst v0;first|(have hh:zfN m2 i a=true:=U5;simp only[cgF,hh,cond_true,hw,bE];first|done|rfl)|(have hh:zfN m2 i a=false:=U5;simp only[cgF,hh,cond_false,hw];first|done|rfl))<;>subst v0<;>(first|assumption|rfl|omega|exact lk2 rfl|exact iC|exact aj _ _|exact ai|exact sR _ _ _|(rw[bE];exact aj _ _)|(rw[bE];exact ai)|(simp[aR,D.one,NZ,Um];omega))
 ·let v0:bY:=[SW a.T5,SW a.T4,SW a.Uf,SW a.UK,SW a.To]
  let v1:=NG [SW (NQ (U4 m2 a.T5) 0),T6 (Nk (U4 m2 a.T5))]
  refine zX {t:=Ue 135 0 [(4,.ref (.T7 3 0)),(5,SW 0),(8,.ref (.mp 2)),(108,ab (MK MQ l)),(109,SW (↑(MO (MK MQ l)):Int)),(110,SW (MN ML ((↑i:Int)+1)))],h:=[.var [T6 true,fq 207,T6 true,fq 208,T6 false,QB (Qy NT)],.map (bK 0 m1) (MO m1),.map (bK 0 m2) (MO m2),.T7 (ap (MK MQ out)++[v0]) 0 5],m:=[]} M6 [.st (.mask [4,5,8,108,109,110]),.st (.ren 3 0),.st (.UN 4)] [.b true,.row (MQ a),.ov 119 v1,.b true] (.c U8 (.c hr (.c (show @Eq (oN) (aM MJ [.var [T6 true,fq 207,T6 true,fq 208,T6 false,QB (Qy NT)],.map (bK 0 m1) (MO m1),.map (bK 0 m2) (MO m2),.T7 (ap (MK MQ out)) 0 5,.var v0] 232 (.ref (.mp 2)) (SW a.T5) true) (some v1) from ?_) (.c U5 (.c (show(List.all [v0] (aR 5)&&Um (MO (ap (MK MQ out))+MO [v0]) 40)=true from ?_) (.c (vMa (MK MQ out) [v0] 3 1 0) (.c (show MK (λe=>(NS (a8 3 1 0) e.fst,NS (a8 3 1 0) e.2.fst,e.2.2)) (bK 0 m1)=bK 0 m1 from ?_) (.c (show MK (λe=>(NS (a8 3 1 0) e.fst,NS (a8 3 1 0) e.2.fst,e.2.2)) (bK 0 m2)=bK 0 m2 from ?_) (.er [v0] (.c (iqT 4 (match 0==3 with|true=>.T7 (ap (MK MQ out)++[v0]) 0 5|false=>Ux (a8 3 1 0) (.var [T6 true,fq 207,T6 true,fq 208,T6 false,QB (Qy NT)]))) (.c (show MY 4 (match 0+1==3 with|true=>.T7 (ap (MK MQ out)++[v0]) 0 5|false=>Ux (a8 3 1 0) (.map (bK 0 m1) (MO m1)))=true from ?_) (.c (show MY 4 (match 0+1+1==3 with|true=>.T7 (ap (MK MQ out)++[v0]) 0 5|false=>Ux (a8 3 1 0) (.map (bK 0 m2) (MO m2)))=true from ?_) (.c (iVa 4 (MK MQ out) [v0] 0 5) .n))))))))))))) (by subst v0 v1;first|(have hh:zfN m2 i a=true:=U5;simp only[];first|done|rfl)|(have hh:zfN m2 i a=false:=U5;simp only[cgF,hh,cond_false,hw];first|done|rfl)) (by subst v0 v1;first|(have hh:zfN m2 i a=true:=U5;simp only[cgF,hh,cond_true,hw,bE];first|done|rfl)|(have hh:zfN m2 i a=false:=U5;simp only[cgF,hh,cond_false,hw];first|done|rfl))<;>subst v0 v1<;>(first|assumption|rfl|omega|exact lk2 rfl|exact iC|exact aj _ _|exact ai|exact sR _ _ _|(rw[bE];exact aj _ _)|(rw[bE];exact ai)|(simp[aR,D.one,NZ,Um];omega))
theorem JM(U8:Zd ((i:Int)<((l.map MQ).length:Int))=false):(CW MJ U2 [] false (sub PV 1) (cgS l m1 m2 out i) (.exit 2) (zb6 135 [XF,(5,SW 0)] (cgH m1 m2 out))):=by
 exact zx [.st (.mask [4,5])] [.b false] (.c U8 .n)
def wB(l:iF)(m2:IM):iF:=l.zipIdx.foldl (λout e=>cgF m2 e out) []
theorem cg_cw{l:iF}(hl:l.length<=900000000){m1 m2:IM}:
  CW MJ U2 [] false (.loop (sub PV 1)) (cgS l m1 m2 [] 0) (.exit 2) {t:=Ue 135 0 [XF,(5,SW 0)],h:=cgH m1 m2 (wB l m2),m:=[]}:=by
 have hs:am l:=by unfold am;omega
 have:=CW.each (P:=MJ) (Γ:=U2) (h0:=[]) (rd:=false) (c:=sub PV 1) (σ:=iF) (ρ:=Empty) l.zipIdx (λe out=>.inl (cgF m2 e out))
  (λi out=>cgS l m1 m2 out (i:Int)) (.exit 2) (λout=>(zb6 135 [XF,(5,SW 0)] (cgH m1 m2 out))) (λr=>r.elim)
  (λi out=>out.length<=i) (by simp) (λr=>r.elim) ?_ ?_ [] (by simp)
 ·rw[aY (λout e=>cgF m2 e out)] at this
  exact this
 ·rintro i ⟨a,n⟩ out hp hout
  obtain⟨hi,he⟩:=MR.1 hp
  simp only[T1] at hi
  have e1:a=l[i]/\n=i:=by simpa[eq_comm] using he.symm
  obtain⟨ha,rfl⟩:=e1
  have h1:l[n]? = some a:=by rw[ha];exact Nd hi
  refine⟨λs' h=>?_,JL (rowAt h1 rfl) (UO MQ hi) (Uo hi hs) (by omega)⟩
  cases h
  unfold cgF
  cases zfN m2 n a<;>simp<;>omega
 ·intro out _
  rw[T1]
  exact JM (bl MQ l)
def caR(l:iF)(rp:bV):(IM×IM)⊕Unit:=UD (caE l) (caL l rp) ([],[])
theorem yB:JK l rp=bJ (.exit 0) (caZ l) caX (caR l rp):=rfl
def pT(l:iF)(rp:bV):iF×Int :=
 bif Zd (dN l=0) then (bif Zd (rp.length=l.length) then (match caR l rp with | .inl s=>(wB l s.2,0) | .inr _=>([],1)) else ([],1)) else ([],dN l)
theorem sF(h:(dN l != 0)=true):pT l rp=([],dN l):=by
 have h':dN l≠0:=by simpa using h
 simp[pT,h']
theorem Fk(h1:(dN l != 0)=false)(h2:rp.length≠l.length):pT l rp=([],1):=by
 have h':dN l=0:=by simpa using h1
 simp[pT,h',h2]
theorem Fl(h1:(dN l != 0)=false)(h2:rp.length=l.length)(h3:caR l rp=.inr u):pT l rp=([],1):=by
 have h':dN l=0:=by simpa using h1
 simp[pT,h',h2,h3]
theorem JN(h1:(dN l != 0)=false)(h2:rp.length=l.length){s:IM×IM}(h3:caR l rp=.inl s):pT l rp=(wB l s.2,0):=by
 have h':dN l=0:=by simpa using h1
 simp[pT,h',h2,h3]
theorem len_ne(h2:rp.length≠l.length):(((Ys rp).length:Int) != ((l.map MQ).length:Int))=true:=by
 simp;omega
theorem HQ(h2:rp.length=l.length):(((Ys rp).length:Int) != ((l.map MQ).length:Int))=false:=by
 simp;omega
theorem Fm(b n:Nat)(rows:bv)(m:IM)(k:Nat):(bK k m).map (λe=>(NS (ez b n rows) e.1,NS (ez b n rows) e.2.1,e.2.2))=bK k m:=by
 induction m generalizing k with
 | nil=>rfl
 | cons e m ih=>simp only[bK,NW,ih];rfl
theorem Fo(l:iF):ap (l.map MQ)=(l.map MQ).map (MK QB):=by simp[ap]
theorem cnt_e1(hs:am l)(hz:(dN l != 0)=true)(h:aT):(Ev MJ U2 123 [ab (l.map MQ),ab (Ys rp)] h (.UI [ab [],SW (dN l)]) h):=by
 exact Na (Qn (z0 (d:=NG [nq,SW (dN l)]) (zax (dN l)) (.c (@dZ l hs ([])) (.c hz .n)) h)) (by rfl) (by rfl)
theorem cnt_e2(hs:am l)(hz:(dN l != 0)=false)(Μ:(((Ys rp).length:Int) != ((l.map MQ).length:Int))=true)(h:aT):(Ev MJ U2 123 [ab (l.map MQ),ab (Ys rp)] h (.UI [ab [],SW 1]) h):=by
 exact Na (Qn (z0 (d:=NG [nq,SW 1]) [.val (SW (dN l)),.b false,.b true] (.c (@dZ l hs ([])) (.c hz (.c Μ .n))) h)) (by rfl) (by rfl)
theorem aErr0(hz:(dN l != 0)=false):dN l=0:=by simpa using hz
abbrev caS2(l:iF)(rp:bv)(z:Int):AS :=
 (zdF l rp z 0 (caH [] []))
theorem Cb{l:iF}(hs:am l){rp:bV}(hr:rp.length=l.length){u:Unit}(hc:caR l rp=.inr u)(hz:(dN l != 0)=false):
  CW MJ U2 [] false (.loop (sub PV 0)) (caS2 l (Ys rp) (dN l)) .ret {t:=Ue 135 0 [(4,uK),(5,SW 1)],h:=[],m:=[]}:=by
 have:=ca_cw hs hr
 rw[yB,hc] at this
 rw[aErr0 hz]
 exact this
theorem cnt_e3(hs:am l)(hr:rp.length=l.length)(hc:caR l rp=.inr u)(hz:(dN l != 0)=false)(Μ:(((Ys rp).length:Int) != ((l.map MQ).length:Int))=false)(h:aT):(Ev MJ U2 123 [ab (l.map MQ),ab (Ys rp)] h (.UI [ab [],SW 1]) h):=by
 have UE:=(@Cb (l) (hs) (rp) (hr) (u) (hc) (hz))
 exact Na (Qn (z0 (d:=NG [nq,SW 1]) [.val (SW (dN l)),.b false,.b false,.val (D.agg Zo),.sum [0,1,4,5,6,7,8,32,33,34] (Exit.ret) Ws] (.c (@dZ l hs ([])) (.c hz (.c Μ (.c (@yR ([])) (.c UE .n))))) h)) (by rfl) (by rfl)
theorem Fp{l:iF}(hs:am l){rp:bV}(hr:rp.length=l.length){m1 m2:IM}(hc:caR l rp=.inl (m1,m2))(hz:(dN l != 0)=false):
  CW MJ U2 [] false (.loop (sub PV 0)) (caS2 l (Ys rp) (dN l)) (.exit 0) (caZ l (m1,m2)):=by
 have:=ca_cw hs hr
 rw[yB,hc] at this
 rw[aErr0 hz]
 exact this
theorem cnt_ok(hs:am l)(hl:l.length<=900000000)(hr:rp.length=l.length)(hc:caR l rp=.inl (m1,m2))(hz:(dN l != 0)=false)(Μ:(((Ys rp).length:Int) != ((l.map MQ).length:Int))=false)(h:aT):(Ev MJ U2 123 [ab (l.map MQ),ab (Ys rp)] h (.UI [ab ((wB l m2).map MQ),SW 0]) h):=by
 have UE:=(@Fp (l) (hs) (rp) (hr) (m1) (m2) (hc) (hz))
 have hl1:=(@cg_cw (l) (hl) (m1) (m2))
 let v0:=MK MQ (wB l m2)
 refine Na (Qn (z0 (d:=NG [ab v0,SW 0]) [.val (SW (dN l)),.b false,.b false,.val (D.agg Zo),.sum [0,1,4,5,6,7,8,32,33,34] (NR 0) {t:=Ue 135 0 [(Wq 0 l),(4,nq),(5,SW 0),WZ],h:=[.var Zo,.map (bK 0 m1) (MO (m1,m2).fst),.map (bK 0 m2) (MO (m1,m2).2)],m:=[]},.nx 1,.st (.zjQ 4 5),.sum [4,5,8,108,109,110] (NR 2) {t:=Ue 135 0 [XF,(5,SW 0)],h:=(zcu m1 m2 (.T7 (ap v0) 0 5)),m:=[]},.st (.mask [4,5]),.st (.frz 3 v0),.st (.UN 0)] (.c (@dZ l hs ([])) (.c hz (.c Μ (.c (@yR ([])) (.c UE (.c hl1 (.c (show ap v0=(XZ v0) from ?_) (.c (show (Xw 3 v0 (bK 0 m1))=bK 0 m1 from ?_) (.c (show (Xw 3 v0 (bK 0 m2))=bK 0 m2 from ?_) .n))))))))) h)) (by rfl) (by rfl)<;>subst v0<;>(first|assumption|rfl|exact Fo _|exact Fm _ _ _ _ _)
theorem cnt_ev{l:iF}(hl:l.length<=900000000){rp:bV}(h:aT):Ev MJ U2 123 [ab (l.map MQ),ab (Ys rp)] h (.UI [ab ((pT l rp).1.map MQ),SW (pT l rp).2]) h:=by
 have hs:am l:=by unfold am;omega
 cases hz:(dN l != 0)
 ·by_cases hr:rp.length=l.length
  ·cases hc:caR l rp with
   | inl s=>obtain⟨m1,m2⟩:=s;rw[JN hz hr hc];exact cnt_ok hs hl hr hc hz (HQ hr) h
   | inr u=>rw[Fl hz hr hc];exact cnt_e3 hs hr hc hz (HQ hr) h
  ·rw[Fk hz hr];exact cnt_e2 hs hz (len_ne hr) h
 ·rw[sF hz];exact cnt_e1 hs hz h
abbrev cvV(xs:bV):List (bY):=ap (Ys xs)
abbrev cvS(w:T9)(ST T4:Int)(as_:bv)(rs:oF)(xs:bV)(i:Int):AS :=
 {t:=Ue 36 0 [Wx,(1,ab as_),(2,SW T4),Xv,(14,ab as_),(15,SW as_.length),(16,SW i)],h:=lkH w ST rs 1++[.T7 (cvV xs) 0 1],m:=[]}
theorem ku{h:aT}{v:Int}(hb:h[2]? = some (.T7 (cvV xs) 0 1))(hi:i<xs.length):aX MJ h 3 (.ref (Wf 2 (i:Int))) (SW v)=some (h.set 2 (.T7 (cvV (xs.set i v)) 0 1)):=by
 have e1:(cvV xs)[MU (i:Int)]? = some [SW xs[i]]:=by simp[hi]
 have e2:VB MJ 3=some 1:=by kernel_rfl
 have e3:(cvV xs).set (MU (i:Int)) [SW v]=cvV (xs.set i v):=by simp[List.map_set]
 unfold aX
 simp only[SW,D.cells,e2,hb,e1]
 rw[<-e3]
 rfl
theorem uP(hi:i<xs.length):UU (i:Int) (cvV xs).length=true:=by
 simp[UU];omega
noncomputable abbrev lO(w:T9)(ST:Int)(T4:Int)(a:Uj)(rs:oF)(xs:bV):aT:=[.var (Zl 1 2 w ST),.T7 (We rs a.T5 T4) 2 5,.T7 (cvV xs) 0 1,.var (Zf a)]
theorem JO(hw:w.ok)(hi:i<xs.length)(hr:ax (i:Int) as_ a.row 5)(U8:Zd ((i:Int)<(as_.length:Int))=true)(hwr:ML.wrap ((i:Int)+1)=((i+1:Nat):Int))(hb:rs.length<=999998000):(CW MJ Un (lkH w ST rs0 0) false (sub TD 0) (cvS w ST T4 as_ rs xs i) .normal (cvS w ST T4 as_ (rs++rdT 1 a.T5 0 T4) (xs.set i (ac w a.T5 T4 ST).1.rep) ((i+1:Nat):Int))):=by
 let v0:=D.agg [ak (ac w a.T5 T4 ST).fst.name,SW (ac w a.T5 T4 ST).fst.number,SW (ac w a.T5 T4 ST).fst.To,SW (ac w a.T5 T4 ST).fst.rep,SW (MX (ac w a.T5 T4 ST).fst.need).op,SW (MX (ac w a.T5 T4 ST).fst.need).c,ak (MX (ac w a.T5 T4 ST).fst.need).nm,SW (MX (ac w a.T5 T4 ST).fst.need).n,SW (MX (ac w a.T5 T4 ST).fst.need).d,ab (MX (ac w a.T5 T4 ST).fst.need).ks,SW (MX (ac w a.T5 T4 ST).fst.ζ).op,SW (MX (ac w a.T5 T4 ST).fst.ζ).c,ak (MX (ac w a.T5 T4 ST).fst.ζ).nm,SW (MX (ac w a.T5 T4 ST).fst.ζ).n,SW (MX (ac w a.T5 T4 ST).fst.ζ).d,ab (MX (ac w a.T5 T4 ST).fst.ζ).ks]
 let v1:bY:=[.ref (.T7 1 1),ab (MK MZ w.c),ab w.p,ab (MK M9 w.s),ab (MK M3 w.f),SW ST]
 let v2:=List.set xs i (ac w a.T5 T4 ST).fst.rep
 let v3:bY:=[.ref (.T7 1 2),ab (MK MZ w.c),ab w.p,ab (MK M9 w.s),ab (MK M3 w.f),SW ST]
 let v4:bY:=[SW a.T5,SW a.T4,SW a.Uf,SW a.UK,SW a.To]
 let v5:aT:=[.var v1,.T7 (ap (Us rs)) 1 5,.T7 (cvV xs) 0 1,.var v4]
 refine zX {t:=Ue 36 0 [(0,.ref (.ptr 0 0)),(1,ab as_),(2,SW T4),(8,.ref (.T7 2 0)),(14,ab as_),(15,SW (↑(MO as_):Int)),(16,SW (MN ML ((↑i:Int)+1)))],h:=[.var v1,.T7 (ap (Us (rs++rdT 1 a.T5 0 T4))) 1 5,.T7 (cvV v2) 0 1],m:=[]} M6 [.st (.mask [0,1,2,8,14,15,16]),.st (.ren 1 1),.st (.UN 3)] [.b true,.row (MQ a),.call v0 (lO w ST T4 a rs xs),.oh 10029 D.any (lkH w ST (rs++rdT 1 a.T5 0 T4) 2++[.T7 (cvV v2) 0 1,.var (MK QB (MQ a))])] (.c U8 (.c hr (.c (show Ev MJ Un 120 [.ref (.ptr 0 0),SW a.T5,SW T4] v5 v0 (lO w ST T4 a rs xs) from(Na (Ov (args:=[.ref (.ptr 0 0),SW a.T5,SW T4]) (H:=v5) [0,1] (Ev.upX [0,1] (@pt w hw ST (a.T5) T4 rs ?_) (by kernel_rfl) ⟨(by subst v0 v1 v2 v3 v4 v5;first|rfl|exact al _ _|first|assumption|rfl|omega|exact ku rfl hi|exact uP hi|exact aj _ _|exact ai),trivial⟩ ⟨(by subst v0 v1 v2 v3 v4 v5;first|rfl|exact al _ _|first|assumption|rfl|omega|exact ku rfl hi|exact uP hi|exact aj _ _|exact ai),trivial⟩) (by kernel_rfl) (by kernel_rfl) (by kernel_rfl) ⟨(by subst v0 v1 v2 v3 v4 v5;first|rfl|exact al _ _|first|assumption|rfl|omega|exact ku rfl hi|exact uP hi|exact aj _ _|exact ai),trivial⟩ ⟨(by subst v0 v1 v2 v3 v4 v5;first|rfl|exact al _ _|first|assumption|rfl|omega|exact ku rfl hi|exact uP hi|exact aj _ _|exact ai),trivial⟩) (by kernel_rfl) (by kernel_rfl))) (.c (show UU (↑i:Int) (MO (cvV xs))=true from ?_) (.c (show @Eq (Option (aT)) (aX MJ (lO w ST T4 a rs xs) 3 (.ref (.vp 2 0 (MU (↑i:Int)) 0)) (SW (ac w a.T5 T4 ST).fst.rep)) (some [.var v3,.T7 (ap (Us (rs++rdT 1 a.T5 0 T4))) 2 5,.T7 (cvV v2) 0 1,.var v4]) from ?_) (.c (vM (Us (rs++rdT 1 a.T5 0 T4)) 1 2 1) (.c (show MK (N8 (a8 1 2 1)) (cvV v2)=cvV v2 from ?_) (.c (iqT 3 (match 0==1 with|true=>.T7 (ap (Us (rs++rdT 1 a.T5 0 T4))) 1 5|false=>Ux (a8 1 2 1) (.var v3))) (.c (iV 3 (Us (rs++rdT 1 a.T5 0 T4)) 1 5) (.c (show MY 3 (match 0+1+1==1 with|true=>.T7 (ap (Us (rs++rdT 1 a.T5 0 T4))) 1 5|false=>Ux (a8 1 2 1) (.T7 (cvV v2) 0 1))=true from ?_) .n)))))))))) (by subst v0 v1 v2 v3 v4 v5;first|rfl|(simp only[hwr];rfl)) (by subst v0 v1 v2 v3 v4 v5;first|rfl|(simp only[hwr];rfl))<;>subst v0 v1 v2 v3 v4 v5<;>(first|assumption|rfl|omega|exact ku rfl hi|exact uP hi|exact aj _ _|exact ai)
theorem JP(U8:Zd ((i:Int)<(as_.length:Int))=false):(CW MJ Un (lkH w ST rs0 0) false (sub TD 0) (cvS w ST T4 as_ rs xs i) (.exit 0) (zb6 36 [(1,ab as_),Xv] (lkH w ST rs 1++[.T7 (cvV xs) 0 1]))):=by
 exact zx [.st (.mask [1,8])] [.b false] (.c U8 .n)
def mC(w:T9)(ST T4:Int)(l:iF):bV:=l.map λa=>(ac w a.T5 T4 ST).1.rep
def qf(T4:Int)(l:iF):oF:=l.flatMap λa=>rdT 1 a.T5 0 T4
theorem sG(T4:Int):∀l:iF,(qf T4 l).length<=l.length
 | []=>by simp[qf]
 | a::l=>by have:=sG T4 l;have:=zeT 1 a.T5 0 T4;simp only[qf,Ri,Nv,Nq] at *;omega
theorem JQ{f:Uj->Int}(hi:i<l.length)(ha:l[i]? = some a):((l.take i).map f++MS (l.length-i) 0).set i (f a)=(l.take (i+1)).map f++MS (l.length-(i+1)) 0:=by
 have e1:l.length-i=(l.length-(i+1))+1:=by omega
 rw[List.set_append_right _ _ (by simp;omega),List.take_add_one,ha,e1,List.replicate_succ]
 have:i-((l.take i).map f).length=0:=by simp;omega
 rw[this]
 simp
abbrev zbu(b:iF)(c:Nat)(d:T9)(e f:Int):bV:=(b.take c).map (λa=>(ac d a.T5 e f).1.rep)++MS (b.length-c) 0
theorem cv_cw{w:T9}(hw:w.ok){ST T4:Int}{l:iF}(hl:l.length<=90000000){rs0 rs:oF}(hb:rs.length<=900000000){V:List (bY)}(hV:V=cvV (MS l.length 0)):
  CW MJ Un (lkH w ST rs0 0) false (.loop (sub TD 0)) {t:=Ue 36 0 [(0,.ref (.ptr 0 0)),(1,ab (l.map MQ)),(2,SW T4),(8,.ref (.T7 2 0)),(14,ab (l.map MQ)),(15,SW (l.map MQ).length),(16,SW 0)],h:=lkH w ST rs 1++[.T7 V 0 1],m:=[]} (.exit 0) {t:=Ue 36 0 [(1,ab (l.map MQ)),(8,.ref (.T7 2 0))],h:=lkH w ST (rs++qf T4 l) 1++[.T7 (cvV (mC w ST T4 l)) 0 1],m:=[]}:=by
 subst hV
 have hs:am l:=by unfold am;omega
 have:=CW.zig (P:=MJ) (Γ:=Un) (h0:=lkH w ST rs0 0) (rd:=false) (c:=sub TD 0) l.length
  (λi=>cvS w ST T4 (l.map MQ) (rs++qf T4 (l.take i)) ((l.take i).map (λa=>(ac w a.T5 T4 ST).1.rep)++MS (l.length-i) 0) (i:Int)) (e:=.exit 0) (s':={t:=Ue 36 0 [(1,ab (l.map MQ)),(8,.ref (.T7 2 0))],h:=lkH w ST (rs++qf T4 l) 1++[.T7 (cvV (mC w ST T4 l)) 0 1],m:=[]}) (by simp) ?_ ?_
 ·have e0:rs++qf T4 (l.take 0)=rs:=by simp[qf]
  have e1:(l.take 0).map (λa=>(ac w a.T5 T4 ST).1.rep)++MS (l.length-0) 0=MS l.length 0:=by simp
  simp only[e0,e1] at this
  exact this
 ·intro i hi
  have ha:l[i]? = some l[i]:=Nd hi
  have key:=JO hw (ST:=ST) (T4:=T4) (rs0:=rs0) (rs:=rs++qf T4 (l.take i)) (xs:=(l.take i).map (λa=>(ac w a.T5 T4 ST).1.rep)++MS (l.length-i) 0) (i:=i) (by simp;omega) (rowAt ha rfl) (UO MQ hi) (Uo hi hs) (by have:=sG T4 (l.take i);simp at *;omega)
  rw[JQ (f:=λa=>(ac w a.T5 T4 ST).1.rep) hi ha] at key
  have e2:qf T4 (l.take (i+1))=qf T4 (l.take i)++rdT 1 l[i].T5 0 T4:=by
   unfold qf;rw[List.take_add_one,ha,Option.toList_some,List.flatMap_append,List.flatMap_singleton]
  rw[e2,<-OQ]
  exact key
 ·have:=JP (w:=w) (ST:=ST) (T4:=T4) (as_:=l.map MQ) (rs0:=rs0) (rs:=rs++qf T4 l) (xs:=mC w ST T4 l) (i:=l.length) (bl MQ l)
  have e3:l.map (λa=>(ac w a.T5 T4 ST).1.rep)++MS (l.length-l.length) 0=mC w ST T4 l:=by simp[mC]
  simp only[List.take_length,e3]
  exact this
theorem makeV(l:iF):MS (MU ((l.map MQ).length:Int)) [SW 0]=cvV (MS l.length 0):=by simp[]
theorem Cc(f:Ref->D)(n:Nat):(MS n [SW 0]).map (N8 f)=MS n [SW 0]:=by rw[List.map_replicate];rfl
theorem Cd(xs:bV):cvV xs=(Ys xs).map (MK QB):=by simp[]
noncomputable abbrev o8(w:T9)(ST:Int)(T4:Int)(l:iF)(rs:oF):aT:=[.var (Zl 1 1 w ST),.T7 (ap (Us (rs++qf T4 l))) 1 5]
theorem Fq(hw:w.ok)(hl:l.length<=90000000)(hb:rs.length<=900000000):(Ev MJ Un 65 [.ref (.ptr 0 0),ab (l.map MQ),SW T4] (lkH w ST rs 0) (.UI [ab ((pT l (mC w ST T4 l)).1.map MQ),SW (pT l (mC w ST T4 l)).2]) (lkH w ST (rs++qf T4 l) 1)):=by
 have UE:=(@cv_cw (w) (hw) (ST) (T4) (l) (hl) (rs) (rs) (hb) (XR (MO (MK MQ l)) (zc6)) (by first|assumption|rfl|omega|exact makeV _|exact Cc _ _|exact Cd _|exact aj _ _|exact ai|(simp;omega)))
 let v0:=MO (MK MQ l)
 let v1:bY:=(Zl 1 1 w ST)
 let v2:bY:=[ab (MK MQ (pT l (mC w ST T4 l)).fst),SW (pT l (mC w ST T4 l)).2]
 let v3:=zc6
 refine Na (Ev.zet (h':=(o8 w ST T4 l rs)) (d:=NG v2) UR [.nx 3,.st (.ren 1 1),.sum [0,1,2,8,14,15,16] (NR 0) {t:=Ue 36 0 [(Wq 1 l),Xv],h:=[.var v1,.T7 (ap (Us (rs++qf T4 l))) 1 5,.T7 (cvV (mC w ST T4 l)) 0 1],m:=[]},.st (.mask [1,8]),.st (.frz 2 (YZ (mC w ST T4 l))),.st (.UN 2),.val (NG v2)] (by kernel_rfl) (.c (show(Yv (↑v0:Int) (↑8:Int))=true from ?_) (.c (vM (Us rs) 1 0 1) (.c (show MK (N8 (a8 1 0 1)) (MS (MU (↑v0:Int)) v3)=MS (MU (↑v0:Int)) v3 from ?_) (.c UE (.c (show cvV (mC w ST T4 l)=MK (λx=>MK QB x) (YZ (mC w ST T4 l)) from ?_) (.c (show MK (N8 (ez 2 0 (YZ (mC w ST T4 l)))) (ap (Us (rs++qf T4 l)))=ap (Us (rs++qf T4 l)) from ?_) (.c (iqT 2 (zcP 0 2 0 (YZ (mC w ST T4 l)) (.var v1))) (.c (show MY 2 (match 0+1==2 with|true=>.U7|false=>Ux (ez 2 0 (YZ (mC w ST T4 l))) (.T7 (ap (Us (rs++qf T4 l))) 1 5))=true from ?_) (.c (Ns (Γ':=Un) (@cnt_ev l ?_ (mC w ST T4 l) (o8 w ST T4 l rs))) .n)))))))))) (by rfl) (by rfl)<;>subst v0 v1 v2 v3<;>(first|assumption|rfl|omega|exact makeV _|exact Cc _ _|exact Cd _|exact aj _ _|exact ai|(simp;omega))
def jC(r:UW)(T4:Int):Bool:=cW r != 0||!(Zd (T4>=0)&&Zd (T4<=1023))
def rcX(b:Bool)(e:Int)(L:iF)(rr:oF):iF×oF×Int:=match b with
 | true=>([],[],150)
 | false=>match (e != 0) with
  | true=>([],[],e)
  | false=>(L,rr,0)
noncomputable abbrev kv(w:T9)(r:UW)(ST:Int)(rr:oF):aT:=[.var (Zi w),.var (Z6 r),.var (Zl 3 1 w ST),.T7 (ap (Us rr)) 1 5]
noncomputable abbrev kw(w:T9)(r:UW)(ST:Int):aT:=[.var (Zi w),.var (Z6 r),.var (Zl 3 0 w ST),.T7 [] 0 5]
noncomputable abbrev fX(w:T9)(r:UW):aT:=[.var (Zi w),.var (Z6 r)]
abbrev zaT(b:UW)(c:Int):bY:=[.ref (.ptr 2 0),ab (MK MQ b.a),SW c]
theorem rcnt_a(hr:am r.a){rr:oF}{L:iF}(hc:Ev MJ Un 65 [.ref (.ptr 0 0),ab (r.a.map MQ),SW T4] (lkH w ST [] 0) (.UI [ab (L.map MQ),SW e]) (lkH w ST rr 1))(h:aT):(Ev MJ Un 26 [.agg w.l,.agg r.l,SW T4,SW ST] h (.UI [ab ((rcX (jC r T4) e L rr).1.map MQ),ab (Us (rcX (jC r T4) e L rr).2.1),SW (rcX (jC r T4) e L rr).2.2]) h):=by
 cases U5:cW r != 0||!(Zd (T4>=0)&&Zd (T4<=1023))
 ·cases Uy:e != 0
  ·refine Na (Qn (z0 (d:=NG [ab (MK MQ L),ab (Us rr),SW 0]) [.val (SW (cW r)),.val (Yq T4),.b false,.nx 1,.st (.zhX 2 0 5),.call (NG [ab (MK MQ L),SW e]) (kv w r ST rr),.st (.frz 3 (Us rr)),.b false] (.c (Ns (Γ':=Un) (@lX r hr (fX w r))) (.c (gd (!cW r != 0) (Ns (Γ':=Un) (@bG T4 0 1023 (fX w r)))) (.c U5 (.c (show Ev MJ Un 65 (zaT r T4) (kw w r ST) (NG [ab (MK MQ L),SW e]) (kv w r ST rr) from(Na (Ov (args:=(zaT r T4)) (H:=(kw w r ST)) [2,3] (@hc) (by kernel_rfl) (by kernel_rfl) (by kernel_rfl) ⟨?_,trivial⟩ ⟨?_,trivial⟩) (by kernel_rfl) (by kernel_rfl))) (.c (show ap (Us rr)=(XZ (Us rr)) from(by first|assumption|rfl|omega|exact aj _ _|exact ai)) (.c Uy .n)))))) h)) (by first|(have hh:jC r T4=true:=U5;simp only[rcX,hh];rfl)|(have hh:jC r T4=false:=U5;have h2:(e != 0)=true:=Uy;simp only[rcX,hh,h2];rfl)|(have hh:jC r T4=false:=U5;have h2:(e != 0)=false:=Uy;simp only[rcX,hh,h2];rfl)) (by rfl)<;>(first|rfl|exact al _ _|first|assumption|rfl|omega|exact aj _ _|exact ai)
  ·refine Na (Qn (z0 (d:=NG [nq,nq,SW e]) [.val (SW (cW r)),.val (Yq T4),.b false,.nx 1,.st (.zhX 2 0 5),.call (NG [ab (MK MQ L),SW e]) (kv w r ST rr),.st (.frz 3 (Us rr)),.b true] (.c (Ns (Γ':=Un) (@lX r hr (fX w r))) (.c (gd (!cW r != 0) (Ns (Γ':=Un) (@bG T4 0 1023 (fX w r)))) (.c U5 (.c (show Ev MJ Un 65 (zaT r T4) (kw w r ST) (NG [ab (MK MQ L),SW e]) (kv w r ST rr) from(Na (Ov (args:=(zaT r T4)) (H:=(kw w r ST)) [2,3] (@hc) (by kernel_rfl) (by kernel_rfl) (by kernel_rfl) ⟨?_,trivial⟩ ⟨?_,trivial⟩) (by kernel_rfl) (by kernel_rfl))) (.c (show ap (Us rr)=(XZ (Us rr)) from(by first|assumption|rfl|omega|exact aj _ _|exact ai)) (.c Uy .n)))))) h)) (by first|(have hh:jC r T4=true:=U5;simp only[rcX,hh];rfl)|(have hh:jC r T4=false:=U5;have h2:(e != 0)=true:=Uy;simp only[rcX,hh,h2];rfl)|(have hh:jC r T4=false:=U5;have h2:(e != 0)=false:=Uy;simp only[rcX,hh,h2];rfl)) (by rfl)<;>(first|rfl|exact al _ _|first|assumption|rfl|omega|exact aj _ _|exact ai)
 ·exact Na (Qn (z0 (d:=NG [nq,nq,SW 150]) [.val (SW (cW r)),.val (Yq T4),.b true] (.c (Ns (Γ':=Un) (@lX r hr (fX w r))) (.c (gd (!cW r != 0) (Ns (Γ':=Un) (@bG T4 0 1023 (fX w r)))) (.c U5 .n))) h)) (by first|(have hh:jC r T4=true:=U5;simp only[rcX,hh];rfl)|(have hh:jC r T4=false:=U5;have h2:(e != 0)=true:=Uy;simp only[rcX,hh,h2];rfl)|(have hh:jC r T4=false:=U5;have h2:(e != 0)=false:=Uy;simp only[rcX,hh,h2];rfl)) (by rfl)
def fY(w:T9)(r:UW)(T4 ST:Int):iF×oF×Int :=
 rcX (jC r T4) (pT r.a (mC w ST T4 r.a)).2 (pT r.a (mC w ST T4 r.a)).1 (qf T4 r.a)
theorem JR(hw:w.ok)(hr:r.a.length<=90000000)(h:aT):Ev MJ Un 26 [.agg w.l,.agg r.l,SW T4,SW ST] h (.UI [ab ((fY w r T4 ST).1.map MQ),ab (Us (fY w r T4 ST).2.1),SW (fY w r T4 ST).2.2]) h :=
 rcnt_a (by unfold am;omega) (by have:=Fq hw (ST:=ST) (T4:=T4) (l:=r.a) hr (rs:=[]) (by simp);simpa using this) h
theorem Fr(hw:w.ok):(Ej w ST st T4).length<=70656000:=by
 have:=rE hw (ST:=ST) (st:=st) (T4:=T4)
 unfold Ej
 simpa using this
theorem yC(hw:w.ok):(jK w st T4 ST).1.a.length<=70656000/\(jK w st T4 ST).2.1.length<=70725001:=by
 unfold jK
 split
 ·simp
 ·exact⟨Fr hw,vo hw⟩
theorem JS(m:IM)(e:Uj×Nat)(out:iF):(cgF m e out).length<=out.length+1:=by
 unfold cgF;cases zfN m e.2 e.1<;>simp
theorem q8(m:IM):∀(l:List (Uj×Nat)) (out:iF),(l.foldl (λout e=>cgF m e out) out).length<=out.length+l.length
 | [],_=>by simp
 | e::l,out=>by
  have h1:=q8 m l (cgF m e out)
  have h2:=JS m e out
  simp only[Nn,Nq];omega
theorem Ce(l:iF)(m:IM):(wB l m).length<=l.length:=by
 have:=q8 m l.zipIdx []
 simpa[wB] using this
theorem JT(l:iF)(rp:bV):(pT l rp).1.length<=l.length:=by
 unfold pT
 cases Zd (dN l=0)
 ·simp
 ·cases Zd (rp.length=l.length)
  ·simp
  ·simp only[cond_true]
   split
   ·exact Ce _ _
   ·simp
theorem JU(b:Bool)(e:Int)(L:iF)(rr:oF):(rcX b e L rr).1.length<=L.length/\(rcX b e L rr).2.1.length<=rr.length:=by
 unfold rcX
 split
 ·simp
 ·split<;>simp
theorem o9:(fY w r T4 ST).1.length<=r.a.length/\(fY w r T4 ST).2.1.length<=r.a.length:=by
 unfold fY
 have h1:=JU (jC r T4) (pT r.a (mC w ST T4 r.a)).2 (pT r.a (mC w ST T4 r.a)).1 (qf T4 r.a)
 have h2:=JT r.a (mC w ST T4 r.a)
 have h3:=sG T4 r.a
 omega
theorem Fs:zdy MJ U2 27 [ab []] [] λd h'=>(d=nq/\h'=[])\/(d=.ref (.T7 0 1)/\h'=[.T7 [] 1 6]):=by
 refine zdy.zeF (fn:=Tryz.f27) (c:=au Tryz.f27) rfl rfl λX hX=>?_
 rw[zh]
 refine VW.seq ((cl_r0 (l:=[]) X none hX (λ_=>rfl)).mono λe s hq=>?_)
 obtain⟨rfl,rfl⟩:=hq
 refine VW.seq (VW.seq (cl_r1 (l:=[]) λb hb=>?_))
 cases b with
 | true =>
  refine(cl_ct X none hX (λ_=>rfl)).mono λe s hq=>?_
  obtain⟨rfl,rfl⟩:=hq
  exact⟨.inr rfl,rfl,Rm,[nq],rfl,.inl ⟨rfl,rfl⟩⟩
 | false =>
  refine(cl_c (l:=[]) X none hX (λ_=>rfl)).mono λe s hq=>?_
  obtain⟨rfl,rfl⟩:=hq
  refine(Ea (l:=[]) (by simp) X none hX (λ_=>rfl)).mono λe s hq=>?_
  obtain⟨rfl,rfl⟩:=hq
  exact⟨.inr rfl,rfl,Rm,(XI 0 1),rfl,.inr ⟨rfl,rfl⟩⟩
theorem Cf(h:aT):Ev MJ U2 27 [ab []] h (ab []) h:=by
 have h0:Ev MJ U2 27 [ab []] [] (ab []) []:=by
  intro O w l vs R ra
  refine CallsIn.mono (Fs O w l vs R ra) ?_
  rintro e w' ⟨v,d',h',l',rfl,hq,R',E',rd⟩
  rcases hq with ⟨rfl,rfl⟩|⟨rfl,rfl⟩
  ·exact⟨v,_,_,l',rfl,⟨rfl,rfl⟩,R',E',sx _ _ rd⟩
  ·obtain⟨l2,R2,E2,r2, -⟩:=qN (Γ:=U2) (X:={O:=O,w:=w,l:=l,h:=[]}) {t:=(XI 0 1),h:=[.T7 [] 1 6],m:=[]} [.st (.frz 0 []),.st (.UN 0)] {t:=[ab []],h:=[],m:=[]} [] [([]:List (bY))=[]] (by kernel_rfl) ⟨rfl,trivial⟩ {tmps:=#[v],defers:=[]} w' ⟨l',R',E',⟨rd,trivial⟩,rfl⟩
   exact⟨v,ab [],[],l2,rfl,⟨rfl,rfl⟩,R2,E2,r2.1⟩
 exact Ev.zfM rfl h0 h
structure zkr where
 us:bv
 ms:Int
 cut:Bv
 e:Int
instance:Inhabited zkr:=⟨⟨[],0,[],0⟩⟩
def zkr.d(a:zkr):D:=.agg (X5 a.us a.ms (ce a.cut))
def zW(p:TO)(l:iF)(a:zkr):Prop:=am a.cut/\∀h,Ev MJ U2 13 [.agg p.l,ab (l.map MQ)] h (.UI [a.d,SW a.e]) h
open Classical in
noncomputable def Cg(p:TO)(l:iF):zkr:=if h:∃a,zW p l a then Classical.choose h else default
theorem JV{p:TO}(h:∃a,zW p l a):zW p l (Cg p l):=by
 unfold Cg
 rw[dif_pos h]
 exact SE h
structure DegX where
 a:zkr
 met:Bool
 rd:oF
 e:Int
def DegX.d(x:DegX):D:=.UI [x.a.d,T6 x.met,ab (Us x.rd),SW x.e]
def iu(rd:oF)(e:Int):DegX:=⟨⟨[],0,[],0⟩,false,rd,e⟩
def iv(w:T9)(T4 ST:Int)(p:TO):TO:=⟨p.nm,p.number,p.UC,p.UL,p.num,p.den,p.reqs.map (nj w T4 ST)⟩
noncomputable def JW(w:T9)(T4 ST:Int)(p:TO)(rs:oF)(l:iF):DegX :=
 let p':=iv w T4 ST p
 let a:=Cg p' l
 match a.e != 0 with
 | true=>iu [] a.e
 | false=>match (sX l).2 != 0 with
  | true=>iu [] (sX l).2
  | false=>match (gY l).2.2 != 0 with
   | true=>iu [] (gY l).2.2
   | false=>match (ti (gY l).1 (gY l).2.1 p.num p.den).2 != 0 with
    | true=>iu [] (ti (gY l).1 (gY l).2.1 p.num p.den).2
    | false=>⟨a,a.ms==0&&Zd ((sX l).1>=p.UL)&&Zd ((ti (gY l).1 (gY l).2.1 p.num p.den).1>=0),rs++(p.reqs.map (jB w T4 ST)).flatten,0⟩
noncomputable def tj(w:T9)(ps:DO)(st n T4 ST:Int):DegX :=
 match (aI w ps n T4 ST).2 with
 | false=>iu (rdT 3 n 0 T4) 0
 | true=>match (jK w st T4 ST).2.2 != 0 with
  | true=>iu [] (jK w st T4 ST).2.2
  | false=>match (fY w (jK w st T4 ST).1 T4 ST).2.2 != 0 with
   | true=>iu [] (fY w (jK w st T4 ST).1 T4 ST).2.2
   | false=>JW w T4 ST (aI w ps n T4 ST).1 (rdT 3 n 0 T4++(jK w st T4 ST).2.1++(fY w (jK w st T4 ST).1 T4 ST).2.1) (fY w (jK w st T4 ST).1 T4 ST).1
theorem lP(h:Ev MJ Un 7 (WB w st n T4 ST) [] (zaB e) []):Ev MJ Un 7 (WB w st n T4 ST) [] (iu [] e).d []:=Qn h
theorem q9(h:(e != 0)=true):(e==0)=false:=by simpa using h
theorem pa(h:(e != 0)=false):e=0:=by simpa using h
theorem deg_a(hw:w.ok){ps:DO}(hn:(ah w.f ST).length<=1000)
  (hp:∀h,Ev MJ Un 23 (Wp w n T4 ST) h (.UI [.agg (aI w ps n T4 ST).1.l,ab (Us (rdT 3 n 0 T4)),T6 (aI w ps n T4 ST).2]) h)
  (hok:(aI w ps n T4 ST).1.ok) (hq1:(aI w ps n T4 ST).1.reqs.length<=1000000) (hq2:∀q∈(aI w ps n T4 ST).1.reqs,q.U3.length<=1048576) (hq3:((aI w ps n T4 ST).1.reqs.map λq=>q.U3.length).sum<=1048576)
  (ha:(aI w ps n T4 ST).2=true->(fY w (jK w st T4 ST).1 T4 ST).2.2=0->∃a,zW (iv w T4 ST (aI w ps n T4 ST).1) (fY w (jK w st T4 ST).1 T4 ST).1 a) :
  Ev MJ Un 7 (WB w st n T4 ST) [] (tj w ps st n T4 ST).d []:=by
 unfold tj
 have hb1:(rdT 3 n 0 T4).length<=1000000:=by have:=zeT 3 n 0 T4;omega
 generalize hP:aI w ps n T4 ST=P at *
 obtain⟨p,ok⟩:=P
 simp only at hp hok hq1 hq2 hq3 ha ⊢
 generalize rdT 3 n 0 T4=q1 at *
 cases ok with
 | false=>exact Qn (mB (dg_N hb1 hp) JI)
 | true =>
  have hrof (h:aT):=rof_ev hw (st:=st) (T4:=T4) (ST:=ST) h
  obtain⟨l1,l2⟩:=yC hw (st:=st) (T4:=T4) (ST:=ST)
  generalize hR:jK w st T4 ST=R at *
  obtain⟨r,q2,e1⟩:=R
  simp only at hrof l1 l2 ha ⊢
  cases h1:e1 != 0 with
  | true=>exact lP (mB (dg_A hb1 hp hrof (JC (q9 h1))) HP)
  | false =>
   have:=pa h1;subst this
   have ziC (h:aT):=JR hw (r:=r) (by omega) (T4:=T4) (ST:=ST) h
   obtain⟨l3,l4⟩:=o9 (w:=w) (r:=r) (T4:=T4) (ST:=ST)
   generalize hC:fY w r T4 ST=C at *
   obtain⟨l,q3,e2⟩:=C
   simp only at ziC l3 l4 ha ⊢
   cases h2:e2 != 0 with
   | true=>exact lP (mB (dg_A hb1 hp hrof (HO (dg_B (by omega) ziC (Fe (q9 h2))))) HP)
   | false =>
    have:=pa h2;subst this
    have hsl:am l:=by unfold am;omega
    have haud:=(JV (ha (by trivial) (by first|rfl|trivial))).2
    unfold JW
    simp only
    have tail {e:Exit} {H:aT} (ht:CW MJ Un (hA w) false (bg (au Tryz.f7) 29) (sgD w (q1++q2++q3++(p.reqs.map (jB w T4 ST)).flatten) (Cg (iv w T4 ST p) l).us (ce (Cg (iv w T4 ST p) l).cut) (Cg (iv w T4 ST p) l).ms (iv w T4 ST p) r l (Cg (iv w T4 ST p) l).e) e (YY H)) :
      CW MJ Un (hA w) false (cR (cR (au Tryz.f7))) (sgA w st n T4 ST) e (YY H):=by
     refine dg_A hb1 hp hrof (HO (dg_B (by omega) ziC (JD ?_)))
     have hl3:(q1++q2).length+q3.length<=3000000000000:=by rw[Nv];omega
     by_cases hr0:p.reqs=[]
     ·have e1:p=pZ p:=by cases p;simp only at hr0;subst hr0;rfl
      have e2:iv w T4 ST p=pZ p:=by unfold iv;rw[hr0];rfl
      have e3:(p.reqs.map (jB w T4 ST)).flatten=[]:=by rw[hr0];rfl
      rw[e2,e3,List.append_nil] at ht
      rw[e2] at haud
      have:=dg_C0 (w:=w) (T4:=T4) (ST:=ST) (p:=p) (r:=r) (rs:=q1++q2) (q3:=q3) (l:=l) hl3 Cf haud ht
      rw[<-e1] at this
      exact this
     ·have hcl:=Hn (l:=p.reqs) hq1 hr0
      have e1:reqV p.reqs=ap (XE p):=by simp[ap]
      rw[e1] at hcl
      have hl:=Jp hw (T4:=T4) hn (l:=l) (rs:=q1++q2++q3) (p:=p) (r:=r) (show am p.reqs by unfold am;omega) hq2 (by simp only[Nv];omega)
      have e2:((ap (XE p)).length:Int)=(p.reqs.length:Int):=by simp
      refine dg_C (Q:=p.reqs.map (nj w T4 ST)) (q4:=(p.reqs.map (jB w T4 ST)).flatten) hl3 hcl ?_ haud ht
      rw[e2]
      exact hl
    generalize Cg (iv w T4 ST p) l=a at *
    generalize q1++q2++q3++(p.reqs.map (jB w T4 ST)).flatten=rs at *
    cases h3:a.e != 0 with
    | true=>exact lP (mB (tail (Ff (q9 h3))) yz)
    | false =>
     have ea:=pa h3
     rw[ea] at tail
     have zjl (h:aT):=Dr hsl h
     generalize sX l=E at *
     obtain⟨en,e4⟩:=E
     simp only at zjl ⊢
     cases h4:e4 != 0 with
     | true=>exact lP (mB (tail (sD (dg_D zjl (Fg (q9 h4))))) yz)
     | false =>
      have:=pa h4;subst this
      have zkD (h:aT):=Dm hsl h
      have hI:=Dn l
      generalize gY l=M at *
      obtain⟨mn,md,e5⟩:=M
      simp only at zkD hI ⊢
      cases h5:e5 != 0 with
      | true=>exact lP (mB (tail (sD (dg_D zjl (wA (dg_E zkD (Fh (q9 h5))))))) yz)
      | false =>
       have:=pa h5;subst this
       have hcmp (h:aT):=zN hI.1 hI.2 hok.nm hok.dn h
       simp only[zaS] at hcmp
       generalize ti mn md p.num p.den=K at *
       obtain⟨c,e6⟩:=K
       simp only at hcmp ⊢
       cases h6:e6 != 0 with
       | true=>exact lP (mB (tail (sD (dg_D zjl (wA (dg_E zkD (B8 (dg_F hcmp (Fi (q9 h6))))))))) yz)
       | false =>
        have:=pa h6;subst this
        have:=mB (tail (sD (dg_D zjl (wA (dg_E zkD (B8 (dg_F hcmp (JE dg_G)))))))) JH
        unfold DegX.d zkr.d
        exact this
end Go.Vi
open Go Go.Proofs
namespace Go.Vi
set_option maxHeartbeats 4000000
set_option maxRecDepth 100000
variable {a b e kk ST ko ks st T4:Int}{ds:dO}{f:Uh}{g:Int->Int}{l:By}{n t:Nat}{ns:bV}{p:TO}{ps:DO}{q:UA}{rs:oF}{s:VS}{w:T9}{α β:Type}
theorem pErr_or(p:TO):rF p=0\/rF p=190:=by
 unfold rF
 cases zgb p with
 | true=>exact .inr rfl
 | false =>
  simp only[cond_false]
  cases UD ckF p.reqs () with
  | inl _=>exact .inl rfl
  | inr _=>exact .inr rfl
theorem aErr_or(l:iF):dN l=0\/dN l=150:=by
 unfold dN
 cases l.any (λa=>!zP a) with
 | true=>exact .inr rfl
 | false=>exact .inl rfl
theorem net_err{l:iF}:(Ia p l).2.2=0/\rF p=0/\dN l=0\/((Ia p l).2.2=150\/(Ia p l).2.2=190\/(Ia p l).2.2=180):=by
 show(yZ p l (f8 l).2.2).2.2=0/\_\/((yZ p l (f8 l).2.2).2.2=150\/(yZ p l (f8 l).2.2).2.2=190\/(yZ p l (f8 l).2.2).2.2=180)
 unfold yZ f8
 rcases pErr_or p with h|h<;>rcases aErr_or l with h2|h2<;>rw[h,h2]<;>simp
theorem yD{l:iF}(h:∀h,Ev MJ U2 13 (XD p l) h (Wj e) h):zW p l ⟨[],0,[],e⟩:=⟨by simp[am],λh'=>Qn (h h')⟩
theorem zmQ(s:Bv×Nat)(x:Int):(MI s x).1.length=s.1.length:=by
 unfold MI
 simp
theorem Ft(by':bV):(El by').length=by'.length:=by
 have key:∀(l:bV) (s:Bv×Nat),(l.foldl MI s).1.length=s.1.length:=by
  intro l
  induction l with
  | nil=>intro s;rfl
  | cons x l ih=>intro s;rw[Nn,ih,zmQ]
 unfold El
 rw[key]
 simp
theorem Fu(hp:p.ok){l:iF}(hr:p.reqs.length<=64)(hl:l.length<=50000):∃a,zW p l a:=by
 rcases net_err (p:=p) (l:=l) with ⟨_,e1,e2⟩|he
 ·have hN:η p l:=⟨e1,e2,hr,hl⟩
  by_cases hf:zhI p l
  ·have h3:=hf.n
   have hn:nN p l=2+l.length+p.reqs.length:=rfl
   obtain⟨j,g,hR,hF,k,f,ρ,hB,hT,hg,_⟩:=L6 (es:=np p l) (n:=nN p l) (U3:=0) (to:=(nN p l:Int)-1) hf.e (λx hx=>(kT hN x hx).inn) (λx hx=>⟨(kT hN x hx).m0,(kT hN x hx).m1⟩) ⟨by omega,by simp;omega⟩ ⟨by omega,by omega⟩ (by omega)
   refine⟨⟨_,_,El g.2,0⟩,?_,Hk hp hN hf hR hF.ok.len⟩
   show(El g.2).length<=140737488355328
   rw[Ft,<-hg,hT.len]
   omega
  ·exact⟨_,yD (D4 hp hN hf)⟩
 ·exact⟨_,yD (DP he (λh=>Dt hp (by omega) (by omega) h))⟩
theorem zY(hf:w.f.length<=40):(Ej w ST st T4).length<=40960:=by
 have h1:=fa (fB w ST st T4) 1024 (ah w.f ST) (λn _=>OP (List.length_filterMap_le ..) bP)
 have h2:=cy (fs:=w.f) (ST:=ST)
 have h4:(ah w.f ST).length*1024<=40*1024:=OB _ (by omega)
 have h3:(kF w ST st T4).length<=40960:=by unfold kF;omega
 unfold Ej
 rw[RZ]
 exact h3
theorem ziZ(w:T9)(ps:DO)(n T4 ST:Int):(aI w ps n T4 ST).1=TQ\/(aI w ps n T4 ST).1∈ps/\vv (aI w ps n T4 ST).1=true:=by
 unfold aI
 cases zgK T4 with
 | true=>exact .inl rfl
 | false =>
  simp only
  unfold iz
  cases h:em ps (ja n) (atR 3 n 0 T4 ST w.f) with
  | true=>exact .inl rfl
  | false =>
   have h2:=vd h
   refine .inr ⟨h2.1,?_⟩
   have:=h2.2.1
   unfold ja at this
   rw[MT] at this
   exact this.2
theorem Ch(hs:∀x∈ps,x.ok)(hm:∀x∈ps,(x.reqs.map λq=>q.U3.length).sum<=1048576)(n T4 ST:Int):
  (aI w ps n T4 ST).1.ok/\(aI w ps n T4 ST).1.reqs.length<=64/\((aI w ps n T4 ST).1.reqs.map λq=>q.U3.length).sum<=1048576:=by
 rcases ziZ w ps n T4 ST with h|⟨h,h2⟩
 ·rw[h];exact⟨TO.zhe,by simp[TQ],by simp[TQ]⟩
 ·refine⟨hs _ h,?_,hm _ h⟩
  unfold vv at h2
  simp only[MT,decide_eq_true_eq] at h2
  omega
theorem JX{l:iS}{x:Nat}(h:x∈l):x<=l.sum:=by
 induction l with
 | nil=>cases h
 | cons a l ih =>
  rw[SM]
  rcases NF.1 h with rfl|h
  ·omega
  ·have:=ih h;omega
theorem zZ(l:bV):(Lib.compact l).length<=l.length:=by
 unfold Lib.compact Lib.compactUpTo
 rw[List.length_map]
 exact OP (List.length_filter_le _ _) (by simp)
theorem JY(hn:(ah w.f ST).length<=1000)(h2:q.U3.length<=1048576):(nj w T4 ST q).ok:=by
 refine⟨?_⟩
 show(ME w T4 ST q).length<=140737488355328
 have h:=(pQ (T4:=T4) hn q.U3 ([],[])).2
 unfold ME
 split
 ·simp
 ·refine OP (zZ _) ?_
  rw[RZ]
  simp at h
  omega
theorem Fv(h:p.ok)(hq:∀q∈p.reqs,(nj w T4 ST q).ok):(iv w T4 ST p).ok :=
 ⟨by have:=h.sr;unfold am at *;simpa[iv] using this,by
  intro q hm
  obtain⟨x,hx,rfl⟩:=Nt.1 hm
  exact hq x hx,h.nm,h.dn⟩
theorem HR(hw:w.ok)(hf:w.f.length<=40)(hwp:w.p=ps.map NU)(hs:∀x∈ps,x.ok)(hm:∀x∈ps,(x.reqs.map λq=>q.U3.length).sum<=1048576){n:Int}(h:aT):
  Ev MJ Un 7 (WB w st n T4 ST) h (tj w ps st n T4 ST).d h:=by
 obtain⟨h1,h2,h3⟩:=Ch (w:=w) hs hm n T4 ST
 have hq:∀q∈(aI w ps n T4 ST).1.reqs,q.U3.length<=1048576:=λq hq=>OP (JX (Nt.2 ⟨q,hq,rfl⟩)) h3
 refine Ev.zfM rfl (deg_a hw (by have:=cy (fs:=w.f) (ST:=ST);omega) (λh=>?_) h1 (by omega) hq h3 ?_) h
 ·rw[<-C3]
  exact xd hw hwp hs h
 ·intro _ _
  refine Fu (Fv h1 λq hx=>JY (by have:=cy (fs:=w.f) (ST:=ST);omega) (hq q hx)) (by simpa[iv] using h2) ?_
  have hc:=(o9 (w:=w) (r:=(jK w st T4 ST).1) (T4:=T4) (ST:=ST)).1
  have hr:(jK w st T4 ST).1.a.length<=40960:=by
   unfold jK
   split
   ·simp
   ·exact zY hf
  omega
def MG(s:VS)(n:Nat):Int:=bif s.2.getD n false then maxV (s.1.getD n default).value else -1
def wC(kk ks ko ST:Int)(l:By):bV:=(N9 1024).map (MG (l.foldl (Ρ kk ks ko ST) vZ))
theorem z6(s:VS)(rs:bV)(h:rs.length=1024)(n i:Nat):(zeo s rs n).getD i 0=if i=n/\n<1024 then MG s n else rs.getD i 0:=by
 unfold MG zeo
 by_cases hn:n<1024
 ·by_cases hi:i=n
  ·subst hi
   cases s.2.getD i false<;>simp[Nb,h,hn]
  ·have hi':n≠i:=λe=>hi e.symm
   cases s.2.getD n false<;>simp[Nb,hi,hi']
 ·cases s.2.getD n false<;>simp[Nb,hn,List.set_eq_of_length_le (show rs.length<=n by omega)]
theorem z7(s:VS)(rs:bV)(n:Nat):(zeo s rs n).length=rs.length:=by
 unfold zeo;cases s.2.getD n false<;>simp
theorem z8(kk ks ko ST:Int)(l:By):Zk kk ks ko ST l=wC kk ks ko ST l:=by
 unfold Zk wC ve
 generalize l.foldl (Ρ kk ks ko ST) vZ=s
 have hz:(MS 1024 (0:Int)).length=1024:=List.length_replicate ..
 have hz2:∀i,(MS 1024 (0:Int)).getD i 0=0:=λi=>by
  rw[Nb,List.getElem?_replicate];split<;>rfl
 revert hz hz2
 generalize MS 1024 (0:Int)=z
 intro hz hz2
 have key:∀m,m<=1024->((N9 m).foldl (zeo s) z).length=1024/\∀i,((N9 m).foldl (zeo s) z).getD i 0=if i<m then MG s i else 0:=by
  intro m
  induction m with
  | zero=>intro _;exact⟨hz,λi=>by rw[if_neg (Nat.not_lt_zero i)];exact hz2 i⟩
  | succ m ih =>
   intro hm
   obtain⟨h1,h2⟩:=ih (by omega)
   rw[List.range_succ,List.foldl_append]
   simp only[Nn,List.foldl_nil]
   refine⟨by rw[z7];exact h1,λi=>?_⟩
   rw[z6 s _ h1,h2]
   by_cases hi:i=m
   ·subst hi
    rw[if_pos ⟨rfl,by omega⟩,if_pos (by omega)]
   ·rw[if_neg (λh=>hi h.1)]
    by_cases U8:i<m
    ·rw[if_pos U8,if_pos (by omega)]
    ·rw[if_neg U8,if_neg (by omega)]
 obtain⟨h1,h2⟩:=key 1024 (Nat.le_refl _)
 refine List.ext_getElem (by rw[h1];simp) λi hi1 hi2=>?_
 have:=h2 i
 rw[Nb,Nd hi1] at this
 rw[h1] at hi1
 rw[if_pos hi1] at this
 simpa using this
theorem sI{l:List α}{x z:α}(hn:n<l.length):(l.set n x).getD t z=if t=n then x else l.getD t z:=by
 by_cases h:t=n
 ·subst h;simp[Nb,hn]
 ·have:n≠t:=λe=>h e.symm
  simp[Nb,h,this]
theorem Ci(hs:s.ok)(hn:n<1024):((gT f s n).1.getD t default,(gT f s n).2.getD t false)=if t=n/\zci f (s.1.getD t default) (s.2.getD t false)=true then (f,true) else (s.1.getD t default,s.2.getD t false):=by
 unfold gT
 by_cases ht:t=n
 ·subst ht
  cases h:zci f (s.1.getD t default) (s.2.getD t false)
  ·simp
  ·simp only[cond_true,and_self,if_true]
   rw[sI (by rw[hs.1];exact hn),sI (by rw[hs.2];exact hn)]
   simp
 ·cases h:zci f (s.1.getD n default) (s.2.getD n false)
  ·simp[ht]
  ·simp only[cond_true,ht,false_and,if_false]
   rw[sI (by rw[hs.1];exact hn),sI (by rw[hs.2];exact hn)]
   simp[ht]
theorem rb{f:Uh}{t:Nat}:∀(ns:iS) (s:VS),s.ok->ns.Nodup->(∀n∈ns,n<1024)->((ns.foldl (gT f) s).1.getD t default,(ns.foldl (gT f) s).2.getD t false)=if t∈ns/\zci f (s.1.getD t default) (s.2.getD t false)=true then (f,true) else (s.1.getD t default,s.2.getD t false)
 | [],s,_,_,_=>by simp
 | n::ns,s,hs,hd,hb=>by
  rw[List.nodup_cons] at hd
  have hn:=hb n (by simp)
  have h1:=Ci (f:=f) hs (t:=t) hn
  have h2:=rb (f:=f) (t:=t) ns (gT f s n) (zgF n hs) hd.2 (λm hm=>hb m (by simp[hm]))
  rw[Nn,h2]
  have e1:=congrArg Prod.fst h1
  have e2:=congrArg Prod.snd h1
  simp only at e1 e2
  by_cases ht:t=n
  ·subst ht
   rw[if_neg (λh=>hd.1 h.1),h1]
   simp
  ·simp only[ht,false_and,if_false] at e1 e2
   rw[e1,e2]
   simp[ht]
theorem JZ(ht:t<1024)(f:Uh)(hs:s.ok):((Ρ kk ks ko ST s f).1.getD t default,(Ρ kk ks ko ST s f).2.getD t false)=vI kk ks ko (t:Int) ST (s.1.getD t default,s.2.getD t false) f:=by
 unfold Ρ vI
 cases zgh kk ks ko ST f
 ·rfl
 ·simp only[cond_true]
  unfold vaF CS
  have hlo:0<=Kz f/\(Kz f=f.U3\/(Kz f=0/\f.U3<=0)):=by unfold Kz;simp;split<;>omega
  have hhi:An f<=1024/\(An f=f.Λ\/(An f=1024/\1024<=f.Λ)):=by unfold An;split<;>omega
  rw[rb _ _ hs (List.nodup_range' ..) (by intro n hn;rw[List.mem_range'_1] at hn;omega)]
  unfold cG zO
  have hm:(t∈List.range' (Kz f).toNat (An f-Kz f).toNat) ↔ f.U3<=(t:Int)/\(t:Int)<f.Λ:=by
   rw[List.mem_range'_1];omega
  have hv:(!s.2.getD t false||Zd (orI (br f.ST (s.1.getD t default).ST) (br f.no (s.1.getD t default).no)>=0))=zci f (s.1.getD t default) (s.2.getD t false):=rfl
  rw[hv]
  by_cases h1:f.U3<=(t:Int)/\(t:Int)<f.Λ
  ·cases h2:zci f (s.1.getD t default) (s.2.getD t false)
   ·simp
   ·simp[hm.2 h1,h1.1,h1.2]
  ·rw[if_neg (λh=>h1 (hm.1 h.1))]
   have:(Zd (f.U3<=(t:Int))&&Zd ((t:Int)<f.Λ))=false:=by
    cases hq:(Zd (f.U3<=(t:Int))&&Zd ((t:Int)<f.Λ))
    ·rfl
    ·simp at hq;exact absurd hq h1
   simp[this]
theorem Cj(ht:t<1024):∀(l:By) (s:VS),s.ok->((l.foldl (Ρ kk ks ko ST) s).1.getD t default,(l.foldl (Ρ kk ks ko ST) s).2.getD t false)=l.foldl (vI kk ks ko (t:Int) ST) (s.1.getD t default,s.2.getD t false)
 | [],_,_=>rfl
 | f::l,s,hs=>by
  rw[Nn,Nn,Cj ht l _ (ziq f hs),JZ ht f hs]
theorem wD(ht:t<1024):(Zk kk ks ko ST l).getD t 0=MG (l.foldl (Ρ kk ks ko ST) vZ) t:=by
 rw[z8]
 unfold wC
 simp[Nb,ht]
theorem Ck{x z:α}(h:t<n):(MS n x).getD t z=x:=by simp[Nb,h]
def atV(v:Int):Int×Bool:=bif Zd (v<0) then (0,false) else (v,true)
theorem uQ(ht:t<1024):atR kk ks ko (t:Int) ST l=atV ((Zk kk ks ko ST l).getD t 0):=by
 have h:=Cj (kk:=kk) (ks:=ks) (ko:=ko) (ST:=ST) ht l vZ KF
 have hz:(vZ.1.getD t default,vZ.2.getD t false)=(fz,false):=by unfold vZ;rw[Ck ht,Ck ht]
 rw[hz] at h
 rw[wD ht]
 unfold atR MG
 rw[<-h]
 simp only
 cases (l.foldl (Ρ kk ks ko ST) vZ).2.getD t false
 ·rfl
 ·simp only[Bool.not_true,Bool.false_or,cond_true,maxV,if_true,atV]
  generalize ((l.foldl (Ρ kk ks ko ST) vZ).1.getD t default).value=v
  by_cases hv:v<0
  ·simp only[hv,decide_true,cond_true]
   split
   ·rfl
   ·simp[hv]
  ·have:¬ -1>v:=by omega
   simp[hv,this]
theorem re(ht:t<1024):bO kk ks ko (t:Int) ((t:Int)+1) ST l=(ptO (Zk kk ks ko ST l) t).toList:=by
 unfold bO
 rw[C7]
 have h1:ptLo (t:Int)=(t:Int):=by unfold ptLo;simp;omega
 have h2:AL ((t:Int)+1)=(t:Int)+1:=by unfold AL;split<;>omega
 rw[h1,h2]
 have h3:((t:Int)+1-(t:Int)).toNat=1:=by omega
 rw[h3]
 simp only[Int.toNat_natCast,List.range'_one,QV,List.filterMap_nil]
 cases ptO (Zk kk ks ko ST l) t<;>rfl
theorem sJ(h0:0<=T4)(h1:T4<=1023)(h:bO kk ks ko T4 (T4+1) a l=bO kk ks ko T4 (T4+1) b l):atR kk ks ko T4 a l=atR kk ks ko T4 b l:=by
 obtain⟨t,rfl⟩:∃t:Nat,T4=(t:Int):=⟨T4.toNat,by omega⟩
 have ht:t<1024:=by omega
 rw[re ht,re ht] at h
 rw[uQ ht,uQ ht]
 generalize (Zk kk ks ko a l)=x at h ⊢
 generalize (Zk kk ks ko b l)=y at h ⊢
 unfold ptO at h
 unfold atV
 generalize x.getD t 0=p at h ⊢
 generalize y.getD t 0=q at h ⊢
 cases hx:Zd (p>=0)<;>cases hy:Zd (q>=0)<;>rw[hx,hy] at h<;>simp at h hx hy
 ·simp[hx,hy]
 ·rw[h]
def ZB(l:By)(rs:oF)(a b:Int):Prop:=∀r∈rs,VO l r a=VO l r b
theorem Cl(h:gU l rs a b=true):ZB l rs a b:=by
 intro r hr
 rw[Dg,List.all_eq_true] at h
 exact GG (h r hr)
theorem ZB.rd(h:ZB l (rdT kk ks ko T4) a b)(ht:zgK T4=false):atR kk ks ko T4 a l=atR kk ks ko T4 b l:=by
 have hr:0<=T4/\T4<=1023:=by simpa[zgK] using ht
 have hw:ML.wrap (T4+1)=T4+1:=wrap_i64 (by omega) (by omega)
 have:=h ⟨kk,ks,ko,T4,ML.wrap (T4+1)⟩ (by unfold rdT;rw[ht];simp)
 rw[hw] at this
 exact sJ hr.1 hr.2 this
theorem mD{n:Int}(h:ZB w.f (rdT 1 n 0 T4) a b):ac w n T4 a=ac w n T4 b:=by
 unfold ac
 cases ht:zgK T4
 ·simp only;rw[h.rd ht]
 ·rfl
theorem kx(h:ZB w.f [rdN] a b):ah w.f a=ah w.f b:=by
 have h1:bO 12 0 0 0 (0+1) a w.f=bO 12 0 0 0 (0+1) b w.f:=h rdN (by simp)
 have:=sJ (by omega) (by omega) h1
 unfold ah B0
 rw[this]
theorem fH{f g:α->List β}:∀{l:List α},(∀x∈l,f x=g x)->l.flatMap f=l.flatMap g
 | [],_=>rfl
 | x::l,h=>by rw[Ri,Ri,h x (by simp),fH λy hy=>h y (by simp[hy])]
theorem gS{f g:α->Option β}:∀{l:List α},(∀x∈l,f x=g x)->l.filterMap f=l.filterMap g
 | [],_=>rfl
 | x::l,h=>by rw[QV,QV,h x (by simp),gS λy hy=>h y (by simp[hy])]
theorem Fw{n:Int}(h:ZB w.f (cK w a st T4 n) a b):cK w a st T4 n=cK w b st T4 n/\fB w a st T4 n=fB w b st T4 n:=by
 have hp:wX w a st T4 n=wX w b st T4 n:=h ⟨5,st,n,0,T4⟩ (by simp[cK])
 refine⟨by unfold cK;rw[hp],?_⟩
 unfold fB
 rw[<-hp]
 refine gS λp hpm=>?_
 unfold attO
 cases hb:Ο p
 ·simp only[cond_false]
  have:ac w n p.T4 a=ac w n p.T4 b:=mD λr hr=>h r (by
   unfold cK
   refine O2 _ (Ry.2 ⟨p,hpm,?_⟩)
   unfold rdO;rw[hb];exact hr)
  unfold Gl
  rw[this]
 ·rfl
theorem Cm(h:ZB w.f (cV w a st T4) a b):cV w a st T4=cV w b st T4/\Ej w a st T4=Ej w b st T4:=by
 have hn:=kx (w:=w) (a:=a) (b:=b) λr hr=>h r (by unfold cV;simp only[OM] at hr;simp[hr])
 have key:∀n∈ah w.f a,cK w a st T4 n=cK w b st T4 n/\fB w a st T4 n=fB w b st T4 n:=λn hm=>Fw λr hr=>h r (by unfold cV;exact O2 _ (Ry.2 ⟨n,hm,hr⟩))
 unfold cV Ej kF
 rw[<-hn,fH λn hm=>(key n hm).1,fH λn hm=>(key n hm).2]
 exact⟨rfl,rfl⟩
theorem Cn(h:ZB w.f (jK w st T4 a).2.1 a b):jK w st T4 a=jK w st T4 b:=by
 unfold jK at h ⊢
 cases hb:vq st T4
 ·rw[hb] at h
  obtain⟨h1,h2⟩:=Cm h
  simp only[h1,h2]
 ·rfl
theorem uR{n:Int}:0<=(ac w n T4 ST).1.rep/\(ac w n T4 ST).1.rep<=2:=by
 have hz:0<=Uv.zero.rep/\Uv.zero.rep<=2:=by decide
 unfold ac
 split
 ·exact hz
 ·unfold iz
  split
  ·exact hz
  ·rename_i hb
   have:=(vd hb).2.1
   simp only[cJ,e8,Xl,MT,decide_eq_true_eq] at this
   simp only
   omega
theorem Co{l:iF}(hg:∀c,0<=g c/\g c<=2):∀(es:List CaE) (s:IM×IM),(∀e∈es,e.1.2=g e.1.1.T5)->(∀c v,U4 s.1 c=some v->v=g c)->∃s',UD (caE l) es s=.inl s'
 | [],s,_,_=>⟨s,rfl⟩
 | e::es,s,he,hs=>by
  have h1:=he e (by simp)
  have hb:bU e.1.2 (U4 s.1 e.1.1.T5)=false:=by
   unfold bU
   have:=hg e.1.1.T5
   rw[h1]
   cases hq:U4 s.1 e.1.1.T5 with
   | none=>simp;omega
   | some v =>
    have:=hs _ _ hq
    simp[this];omega
  simp only[UD,caE,caF,hb]
  refine Co hg es _ (λx hx=>he x (by simp[hx])) ?_
  intro c v hc
  simp only at hc
  rw[vr] at hc
  split at hc
  ·rename_i e2
   simp only[MM] at hc
   rw[<-hc,h1,e2]
  ·exact hs c v hc
theorem yE{l:iF}(hg:∀c,0<=g c/\g c<=2)(h:dN l=0):(pT l (l.map λa=>g a.T5)).2=0:=by
 obtain⟨s,hs⟩:=Co (l:=l) hg (caL l (l.map λa=>g a.T5)) ([],[]) (by
  intro e he
  unfold caL at he
  obtain⟨i,hi,hx⟩:=List.mem_iff_getElem.1 he
  simp only[List.getElem_zipIdx,List.getElem_zip,List.getElem_map] at hx
  rw[<-hx]) (by intro c v hc;simp[U4] at hc)
 unfold pT caR
 rw[h,hs]
 simp
theorem rep_g(w:T9)(ST T4:Int)(l:iF):mC w ST T4 l=l.map λa=>(λc=>(ac w c T4 ST).1.rep) a.T5:=rfl
theorem Aa{r:UW}(h:ZB w.f (fY w r T4 a).2.1 a b):fY w r T4 a=fY w r T4 b:=by
 unfold fY at h ⊢
 cases hb:jC r T4
 ·by_cases he:dN r.a=0
  ·have ha:=yE (l:=r.a) (g:=λc=>(ac w c T4 a).1.rep) (λc=>uR) he
   have hbq:=yE (l:=r.a) (g:=λc=>(ac w c T4 b).1.rep) (λc=>uR) he
   rw[<-rep_g] at ha hbq
   rw[hb,ha] at h
   simp only[rcX] at h
   have hr:mC w a T4 r.a=mC w b T4 r.a:=by
    unfold mC
    refine PE λx hx=>?_
    rw[mD (w:=w) (n:=x.T5) (T4:=T4) (a:=a) (b:=b) λq hq=>h q (Ry.2 ⟨x,hx,hq⟩)]
   rw[hr]
  ·have h1:(dN r.a != 0)=true:=by simpa using he
   rw[sF h1,sF h1]
 ·rfl
theorem Cp(s:RL)(n:Int):∃t,(eqN w T4 ST a s n).1=s.1++t:=by
 unfold eqN
 cases s.2.contains n
 ·exact⟨_,rfl⟩
 ·exact⟨[],by simp⟩
theorem jD{w:T9}{T4 ST a:Int}:∀(ns:bV) (s:RL),∃t,(ns.foldl (eqN w T4 ST a) s).1=s.1++t
 | [],s=>⟨[],by simp⟩
 | n::ns,s=>by
  obtain⟨t1,h1⟩:=Cp (w:=w) (T4:=T4) (ST:=ST) (a:=a) s n
  obtain⟨t2,h2⟩:=jD (w:=w) (T4:=T4) (ST:=ST) (a:=a) ns (eqN w T4 ST a s n)
  exact⟨t1++t2,by rw[Nn,h2,h1,OQ]⟩
theorem pf{w:T9}{T4 ST:Int}{ns:bV}:∀(f i:Nat) (s:RL),∃t,(Ε w T4 ST ns f i s).1=s.1++t
 | 0,_,s=>⟨[],by simp[Ε]⟩
 | f+1,i,s=>by
  cases ha:s.2[i]? with
  | none=>exact⟨[],by rw[gh ha];simp⟩
  | some a =>
   obtain⟨t1,h1⟩:=jD (w:=w) (T4:=T4) (ST:=ST) (a:=a) ns s
   obtain⟨t2,h2⟩:=pf (w:=w) (T4:=T4) (ST:=ST) (ns:=ns) f (i+1) (kU w T4 ST ns a s)
   exact⟨t1++t2,by simp only[Ε,ha];rw[h2];unfold kU;rw[h1,OQ]⟩
theorem dY{p q:oF}(h:ZB l (p++q) a b):ZB l p a b/\ZB l q a b :=
 ⟨λr hr=>h r (List.mem_append_left _ hr),λr hr=>h r (List.mem_append_right _ hr)⟩
theorem Cq{x:Int}(h0:0<=T4)(h1:T4<=1023)(s:RL)(n:Int)(h:ZB w.f (eqN w T4 a x s n).1 a b):eqN w T4 a x s n=eqN w T4 b x s n:=by
 unfold eqN at h ⊢
 cases hc:s.2.contains n
 ·rw[hc] at h
  simp only[cond_false] at h ⊢
  have hw:ML.wrap (T4+1)=T4+1:=wrap_i64 (by omega) (by omega)
  have h2:=(dY h).2 ⟨2,mnI x n,mxI x n,T4,ML.wrap (T4+1)⟩ (by simp)
  simp only[VO,hw] at h2
  have h3:=sJ h0 h1 h2
  have:zbI w T4 a x n=zbI w T4 b x n:=by unfold zbI;rw[h3]
  rw[this]
 ·rfl
theorem pg{x:Int}(h0:0<=T4)(h1:T4<=1023):∀(ns:bV) (s:RL),ZB w.f (ns.foldl (eqN w T4 a x) s).1 a b->ns.foldl (eqN w T4 a x) s=ns.foldl (eqN w T4 b x) s
 | [],_,_=>rfl
 | n::ns,s,h=>by
  rw[Nn] at h
  have h2:ZB w.f (eqN w T4 a x s n).1 a b:=by
   obtain⟨t,ht⟩:=jD (w:=w) (T4:=T4) (ST:=a) (a:=x) ns (eqN w T4 a x s n)
   rw[ht] at h
   exact(dY h).1
  have e:=Cq h0 h1 s n h2
  rw[Nn,Nn,<-e]
  exact pg h0 h1 ns _ h
theorem ph(h0:0<=T4)(h1:T4<=1023):∀(f i:Nat) (s:RL),ZB w.f (Ε w T4 a ns f i s).1 a b->Ε w T4 a ns f i s=Ε w T4 b ns f i s
 | 0,_,_,_=>rfl
 | f+1,i,s,h=>by
  cases ha:s.2[i]? with
  | none=>rw[gh ha,gh ha]
  | some x =>
   simp only[Ε,ha] at h ⊢
   have h2:ZB w.f (kU w T4 a ns x s).1 a b:=by
    obtain⟨t,ht⟩:=pf (w:=w) (T4:=T4) (ST:=a) (ns:=ns) f (i+1) (kU w T4 a ns x s)
    rw[ht] at h
    exact(dY h).1
   have e:kU w T4 a ns x s=kU w T4 b ns x s:=pg h0 h1 ns s h2
   rw[<-e]
   exact ph h0 h1 f (i+1) _ h
theorem Cr{c:Int}(hn:ah w.f a=ah w.f b)(h:ZB w.f (tk w c T4 a).1 a b):tk w c T4 a=tk w c T4 b:=by
 unfold tk at h ⊢
 cases hc:(!(Zd (c>=0)&&Zd (c<=4095))||!(Zd (T4>=0)&&Zd (T4<=1023)))
 ·rw[hc] at h
  simp only[PF,Bool.not_eq_false',MT,decide_eq_true_eq] at hc
  simp only at h ⊢
  unfold AO
  unfold iI at h ⊢
  rw[<-hn]
  rw[ph hc.2.1 hc.2.2 _ _ _ h]
 ·rfl
theorem rf{n:Int}(h:ZB w.f (rdT 3 n 0 T4) a b):aI w ps n T4 a=aI w ps n T4 b:=by
 unfold aI
 cases ht:zgK T4
 ·simp only;rw[h.rd ht]
 ·rfl
theorem uS(hn:ah w.f a=ah w.f b):∀(cs:bV) (s:oF×bV),ZB w.f (cs.foldl (frF w T4 a) s).1 a b->cs.foldl (frF w T4 a) s=cs.foldl (frF w T4 b) s
 | [],_,_=>rfl
 | c::cs,s,h=>by
  have h2:=h
  rw[Nn,ir] at h2
  have h3:=(dY h2).1
  have e:frF w T4 a s c=frF w T4 b s c:=by
   unfold frF at h3 ⊢
   rw[Cr hn (dY h3).2]
  rw[Nn] at h
  rw[Nn,Nn,<-e]
  exact uS hn cs _ h
theorem Cs(hn:ah w.f a=ah w.f b)(h:ZB w.f (jB w T4 a q) a b):jB w T4 a q=jB w T4 b q/\nj w T4 a q=nj w T4 b q:=by
 have e:=uS hn q.U3 ([],[]) h
 refine⟨by unfold jB;rw[e],?_⟩
 unfold nj ME
 rw[e]
theorem wE(hn:ah w.f a=ah w.f b)(h:ZB w.f (p.reqs.map (jB w T4 a)).flatten a b):iv w T4 a p=iv w T4 b p/\p.reqs.map (jB w T4 a)=p.reqs.map (jB w T4 b):=by
 have key:∀q∈p.reqs,jB w T4 a q=jB w T4 b q/\nj w T4 a q=nj w T4 b q:=λq hq =>
  Cs hn λr hr=>h r (List.mem_flatten.2 ⟨_,Nt.2 ⟨q,hq,rfl⟩,hr⟩)
 refine⟨?_,PE λq hq=>(key q hq).1⟩
 unfold iv
 rw[PE λq hq=>(key q hq).2]
theorem Ab{n:Int}(he:(tj w ps st n T4 a).e=0)(h:ZB w.f (tj w ps st n T4 a).rd a b):tj w ps st n T4 a=tj w ps st n T4 b:=by
 unfold tj at he h ⊢
 cases h1:(aI w ps n T4 a).2 with
 | false =>
  rw[h1] at h
  have e:=rf (ps:=ps) (w:=w) (a:=a) (b:=b) h
  rw[<-e,h1]
 | true =>
  rw[h1] at he h
  simp only at he h
  cases h2:(jK w st T4 a).2.2 != 0 with
  | true=>rw[h2] at he;simp[iu] at he;simp[he] at h2
  | false =>
   rw[h2] at he h
   simp only at he h
   cases h3:(fY w (jK w st T4 a).1 T4 a).2.2 != 0 with
   | true=>rw[h3] at he;simp[iu] at he;simp[he] at h3
   | false =>
    rw[h3] at he h
    simp only at he h
    generalize hl:(fY w (jK w st T4 a).1 T4 a).1=l at *
    unfold JW at he h
    simp only at he h
    have hA:ZB w.f (rdT 3 n 0 T4++(jK w st T4 a).2.1++(fY w (jK w st T4 a).1 T4 a).2.1++((aI w ps n T4 a).1.reqs.map (jB w T4 a)).flatten) a b:=by
     cases h4:(Cg (iv w T4 a (aI w ps n T4 a).1) l).e != 0 with
     | true=>rw[h4] at he;simp[iu] at he;simp[he] at h4
     | false =>
      rw[h4] at he h
      simp only at he h
      cases h5:(sX l).2 != 0 with
      | true=>rw[h5] at he;simp[iu] at he;simp[he] at h5
      | false =>
       rw[h5] at he h
       simp only at he h
       cases h6:(gY l).2.2 != 0 with
       | true=>rw[h6] at he;simp[iu] at he;simp[he] at h6
       | false =>
        rw[h6] at he h
        simp only at he h
        cases h7:(ti (gY l).1 (gY l).2.1 (aI w ps n T4 a).1.num (aI w ps n T4 a).1.den).2 != 0 with
        | true=>rw[h7] at he;simp[iu] at he;simp[he] at h7
        | false=>rw[h7] at h;exact h
    obtain⟨hB,hF⟩:=dY hA
    obtain⟨hC,hR⟩:=dY hB
    obtain⟨hP,hO⟩:=dY hC
    have eP:=rf (ps:=ps) hP
    have eO:=Cn hO
    have hn:ah w.f a=ah w.f b:=by
     refine kx λr hr=>hO r ?_
     unfold jK at h2 ⊢
     cases hb:vq st T4
     ·simp only[OM] at hr
      simp[cV,hr]
     ·rw[hb] at h2;simp at h2
    have eR:=Aa hR
    obtain⟨eF,eQ⟩:=wE hn hF
    rw[<-eP,h1,<-eO]
    simp only
    rw[h2,<-eR,h3]
    simp only
    rw[hl]
    unfold JW
    rw[<-eF,<-eQ]
theorem uT{w:T9}{T4 ST:Int}(hn:(ah w.f ST).length<=1000):∀qs:NE,(qs.map (jB w T4 ST)).flatten.length<=(qs.map λq=>q.U3.length).sum*1001001
 | []=>by simp
 | q::qs=>by
  have h1:=yw (w:=w) (T4:=T4) hn q
  have h2:=uT (T4:=T4) hn qs
  simp only[NW,List.flatten_cons,Nv,SM,Nat.add_mul]
  omega
theorem eZ(h:rs.length<=1):(iu rs e).rd.length<=100000000000000:=by
 show rs.length<=_
 omega
theorem Fy(hn:(ah w.f ST).length<=1000)(hs:(p.reqs.map λq=>q.U3.length).sum<=1048576){l:iF}(hr:rs.length<=1000000000):(JW w T4 ST p rs l).rd.length<=100000000000000:=by
 have h:=uT (w:=w) (T4:=T4) hn p.reqs
 have h2:(p.reqs.map λq=>q.U3.length).sum*1001001<=1048576*1001001:=OB _ hs
 unfold JW
 dsimp only
 split
 ·exact eZ (by simp)
 ·split
  ·exact eZ (by simp)
  ·split
   ·exact eZ (by simp)
   ·split
    ·exact eZ (by simp)
    ·show(rs++(p.reqs.map (jB w T4 ST)).flatten).length<=_
     rw[Nv]
     omega
theorem Ac(hw:w.ok){n:Int}(hn:(ah w.f ST).length<=1000)(hs:((aI w ps n T4 ST).1.reqs.map λq=>q.U3.length).sum<=1048576):am (tj w ps st n T4 ST).rd:=by
 have h1:=zeT 3 n 0 T4
 have h2:=yC hw (st:=st) (T4:=T4) (ST:=ST)
 have h3:=o9 (w:=w) (r:=(jK w st T4 ST).1) (T4:=T4) (ST:=ST)
 have key:(tj w ps st n T4 ST).rd.length<=100000000000000:=by
  unfold tj
  split
  ·exact eZ h1
  ·split
   ·exact eZ (by simp)
   ·split
    ·exact eZ (by simp)
    ·exact Fy hn hs (by simp only[Nv];omega)
 unfold am
 omega
theorem Fz(p:TO)(l:iF):am (Cg p l).cut:=by
 unfold Cg
 split
 ·rename_i h;exact(SE h).1
 ·show([]:Bv).length<=_
  simp
theorem FA(w:T9)(ps:DO)(st n T4 ST:Int):am (tj w ps st n T4 ST).a.cut:=by
 have hz:∀(rs:oF) (e:Int),am (iu rs e).a.cut:=λ_ _=>by simp[iu,am]
 unfold tj
 split
 ·exact hz _ _
 ·split
  ·exact hz _ _
  ·split
   ·exact hz _ _
   ·unfold JW
    dsimp only
    split
    ·exact hz _ _
    ·split
     ·exact hz _ _
     ·split
      ·exact hz _ _
      ·split
       ·exact hz _ _
       ·exact Fz _ _
structure T9.ok0 (w:T9):Prop where
 c:∀x∈w.c,x.ok
 s:∀x∈w.s,x.ok
 lc:am w.c
 ls:am w.s
 i:∀f∈w.f,f.ok
theorem sK(hw:w.ok0)(hwp:w.p=ps.map NU)(hs:∀x∈ps,x.ok)(hp:am ps)(hm:∀x∈ps,(x.reqs.map λq=>q.U3.length).sum<=1048576)
  (k0:∀h,Ev MJ Un 5 [] h (T6 true) h) {n later:Int} (h:aT):Ev MJ Un 4 [.agg w.l,SW st,SW n,SW T4,SW ST,SW later] h (T6 true) h:=by
 obtain⟨b,hb,kf⟩:=GF hw.c hw.lc hwp hp
 cases b with
 | false=>exact dp_few k0 kf h
 | true =>
  have hf:=hb rfl
  have hk:w.ok:=⟨hw.c,hw.s,by omega,hw.lc,hw.ls,hw.i⟩
  have hn:(ah w.f ST).length<=1000:=by have:=cy (fs:=w.f) (ST:=ST);omega
  have hq:=Ac hk (ps:=ps) (st:=st) (n:=n) (T4:=T4) (ST:=ST) hn (Ch (w:=w) hs hm n T4 ST).2.2
  have hc:=FA w ps st n T4 ST
  have k1:∀h,Ev MJ Un 7 (WB w st n T4 ST) h (tj w ps st n T4 ST).d h:=λh=>HR hk hf hwp hs hm h
  have k2:∀h,Ev MJ Un 7 (WB w st n T4 later) h (tj w ps st n T4 later).d h:=λh=>HR hk hf hwp hs hm h
  cases hz:((tj w ps st n T4 ST).e != 0||!gU w.f (tj w ps st n T4 ST).rd ST later) with
  | true=>exact dp_ne hk.sf hq hz k0 kf k1 h
  | false =>
   have hz2:=hz
   rw[PF] at hz2
   have he:(tj w ps st n T4 ST).e=0:=pa hz2.1
   have e:=Ab he (Cl (by simpa using hz2.2))
   rw[<-e] at k2
   exact dp_in hk.sf hq hz k0 kf k1 k2 (λh=>Ns (Aw hc (by simp) h)) (λh=>Ns (xg hq (by simp) h)) (by simp[he]) h
open Go.ChangeShapes Go.WideShapes Go.ChangeAt Go.RowKit Go.Proofs.YtelhocjibmofiaaGreatDoor
set_option maxRecDepth 100000
theorem iw:MJ.cellsOf 3=1:=by kernel_rfl
theorem rn:MJ.cellsOf 9=1:=by kernel_rfl
theorem wF:MJ.cellsOf 46=2:=by kernel_rfl
theorem FB:MJ.cellsOf 298=1:=by kernel_rfl
theorem FC:MJ.cellsOf 299=1:=by kernel_rfl
theorem FD:MJ.cellsOf 300=1:=by kernel_rfl
theorem FE:MJ.cellsOf 302=4:=by kernel_rfl
theorem FF:MJ.cellsOf 310=2:=by kernel_rfl
theorem FG:MJ.cellsOf 308=4:=by kernel_rfl
theorem FH:MJ.bytesOf 308=40:=by kernel_rfl
theorem FI:MJ.bytesOf 310=24:=by kernel_rfl
theorem FJ:MJ.bytesOf 312=32:=by kernel_rfl
theorem cells4:MJ.cellsOf 4=1:=by kernel_rfl
theorem J0:MJ.cellsOf 47=1:=by kernel_rfl
theorem J1:MJ.cellsOf 49=7:=by kernel_rfl
theorem J2:MJ.cellsOf 55=1:=by kernel_rfl
theorem J3:MJ.cellsOf 56=1:=by kernel_rfl
theorem J4:MJ.cellsOf 58=6:=by kernel_rfl
theorem bytes3:MJ.bytesOf 3=8:=by kernel_rfl
theorem J5:MJ.bytesOf 58=88:=by kernel_rfl
theorem J6:MJ.cellsOf 22=1:=by kernel_rfl
theorem J7:MJ.cellsOf 23=1:=by kernel_rfl
theorem J8:MJ.cellsOf 24=1:=by kernel_rfl
theorem Ct:MJ.cellsOf 26=3:=by kernel_rfl
theorem J9:MJ.cellsOf 27=1:=by kernel_rfl
theorem Ka:MJ.cellsOf 29=4:=by kernel_rfl
theorem Cu:MJ.cellsOf 95=3:=by kernel_rfl
theorem yF:MJ.cellsOf 188=2:=by kernel_rfl
theorem FK:MJ.cellsOf 190=8:=by kernel_rfl
theorem FL:MJ.cellsOf 312=4:=by kernel_rfl
theorem FM:MJ.cellsOf 121=1:=by kernel_rfl
theorem yG:MJ.cellsOf 123=6:=by kernel_rfl
theorem FN:MJ.cellsOf 125=16:=by kernel_rfl
theorem FO:MJ.bytesOf 302=96:=by kernel_rfl
theorem FP:MJ.bytesOf 123=72:=by kernel_rfl
theorem FQ:MJ.bytesOf 125=184:=by kernel_rfl
theorem Kb:MJ.bytesOf 49=80:=by kernel_rfl
theorem bd(h:Shp MJ n 3 ds):∃x,ds=[vi x]/\κ x:=by
 cases n with
 | zero=>exact h.elim
 | succ n =>
  simp only[Shp,Tryz.underlying3] at h
  obtain⟨x,rfl,hw⟩:=h
  refine⟨x,rfl,?_⟩
  have:=bounds_i64 hw
  exact this
theorem lQ(h:Shp MJ n 9 ds):∃s,ds=[vs s]:=by
 cases n with
 | zero=>exact h.elim
 | succ n =>
  simp only[Shp,Tryz.underlying9] at h
  obtain⟨s,rfl,_⟩:=h
  exact⟨s,rfl⟩
theorem uU(h:Shp MJ n 46 ds):∃a b,ds=[vi a,vi b]/\κ a/\κ b:=by
 cases n with
 | zero=>exact h.elim
 | succ n =>
  simp only[Shp,Tryz.underlying46,N6,iw,wF] at h
  obtain⟨hl,h1,h2,_⟩:=h
  obtain⟨a,e1,ha⟩:=bd h1
  obtain⟨b,e2,hb⟩:=bd h2
  match ds,hl with
  | [x,y],_ =>
   simp at e1 e2
   subst e1;subst e2
   exact⟨a,b,rfl,ha,hb⟩
theorem Cv(h:Shp MJ n 308 ds):∃c:Cls,ds=c.row/\c.ok:=by
 cases n with
 | zero=>exact h.elim
 | succ n =>
  simp only[Shp,Tryz.underlying308,N6,iw,rn,wF,FG] at h
  obtain⟨hl,h1,h2,h3,_⟩:=h
  obtain⟨s,e1⟩:=lQ h1
  obtain⟨x,e2,hx⟩:=bd h2
  obtain⟨a,b,e3,ha,hb⟩:=uU h3
  match ds,hl with
  | [p,q,r,t],_ =>
   simp at e1 e2 e3
   obtain⟨rfl,rfl⟩:=e3
   subst e1;subst e2
   exact⟨⟨s,x,a,b⟩,rfl,hx,ha,hb⟩
theorem Kc(h:Shp MJ n 310 ds):∃c:ziM,ds=c.row/\κ c.To:=by
 cases n with
 | zero=>exact h.elim
 | succ n =>
  simp only[Shp,Tryz.underlying310,N6,iw,rn,FF] at h
  obtain⟨hl,h1,h2,_⟩:=h
  obtain⟨s,e1⟩:=lQ h1
  obtain⟨x,e2,hx⟩:=bd h2
  match ds,hl with
  | [p,q],_ =>
   simp at e1 e2
   subst e1;subst e2
   exact⟨⟨s,x⟩,rfl,hx⟩
theorem iy{row:α->dO}{ok:α->Prop}:∀{es:bv},(∀r∈es,∃a,r=row a/\ok a)->∃l:List α,es=l.map row/\∀a∈l,ok a
 | [],_=>⟨[],rfl,by simp⟩
 | r::es,h=>by
  obtain⟨a,rfl,ha⟩:=h r (OI ..)
  obtain⟨l,rfl,hl⟩:=iy (λr hr=>h r (O2 _ hr))
  exact⟨a::l,rfl,λb hb=>(NF.1 hb).elim (λe=>e▸ha) (hl b)⟩
theorem el{k:Nat}(h:n*k<=reachBytes)(hk:1<=k):n<=140737488355328:=by
 have:n<=n*k:=Nat.le_mul_of_pos_right n hk
 unfold reachBytes at h
 omega
theorem pi(h:Shp MJ n 298 ds):∃l:List Cls,ds=[.sl (l.map Cls.row)]/\(∀c∈l,c.ok)/\am l:=by
 cases n with
 | zero=>exact h.elim
 | succ n =>
  simp only[Shp,Tryz.underlying298,FH] at h
  obtain⟨es,rfl,hb,he⟩:=h
  obtain⟨l,rfl,hl⟩:=iy (row:=Cls.row) (ok:=Cls.ok) (λr hr=>Cv (he r hr))
  exact⟨l,rfl,hl,by have:=el hb (by omega);simpa[am] using this⟩
theorem FR(h:Shp MJ n 299 ds):∃l:List ziM,ds=[.sl (l.map ziM.row)]/\(∀c∈l,κ c.To)/\am l:=by
 cases n with
 | zero=>exact h.elim
 | succ n =>
  simp only[Shp,Tryz.underlying299,FI] at h
  obtain⟨es,rfl,hb,he⟩:=h
  obtain⟨l,rfl,hl⟩:=iy (row:=ziM.row) (ok:=λc=>κ c.To) (λr hr=>Kc (he r hr))
  exact⟨l,rfl,hl,by have:=el hb (by omega);simpa[am] using this⟩
theorem FS(h:Shp MJ n 4 ds):∃b,ds=[.v (.bool b)]:=by
 cases n with
 | zero=>exact h.elim
 | succ n =>
  simp only[Shp,Tryz.underlying4] at h
  obtain⟨b,rfl⟩:=h
  exact⟨b,rfl⟩
theorem FT(h:Shp MJ n 56 ds):∃l,ds=[.sl l]:=by
 cases n with
 | zero=>exact h.elim
 | succ n =>
  simp only[Shp,Tryz.underlying56] at h
  obtain⟨es,rfl,_⟩:=h
  exact⟨es,rfl⟩
theorem FU(h:Shp MJ n 55 ds):∃l:bV,ds=[.sl (aW l)]/\am l:=by
 cases n with
 | zero=>exact h.elim
 | succ n =>
  simp only[Shp,Tryz.underlying55,bytes3] at h
  obtain⟨es,rfl,hb,he⟩:=h
  obtain⟨l,rfl,_⟩:=iy (row:=λn:Int=>[vi n]) (ok:=λ_=>True) (λr hr=>by obtain⟨x,e,_⟩:=bd (he r hr);exact⟨x,e,trivial⟩)
  exact⟨l,rfl,by have:=el hb (by omega);simpa[am] using this⟩
theorem Ke(h:Shp MJ n 58 ds):∃q:UA,ds=q.row/\q.ok:=by
 cases n with
 | zero=>exact h.elim
 | succ n =>
  simp only[Shp,Tryz.underlying58,N6,iw,cells4,rn,J2,J3,J4] at h
  obtain⟨hl,h1,h2,h3,h4,h5,h6,_⟩:=h
  obtain⟨s,e1⟩:=lQ h1
  obtain⟨a,e2,_⟩:=bd h2
  obtain⟨b,e3,_⟩:=bd h3
  obtain⟨c,e4⟩:=FS h4
  obtain⟨d,e5⟩:=FT h5
  obtain⟨f,e6,hf⟩:=FU h6
  match ds,hl with
  | [p1,p2,p3,p4,p5,p6],_ =>
   simp at e1 e2 e3 e4 e5 e6
   subst e1;subst e2;subst e3;subst e4;subst e5;subst e6
   exact⟨⟨s,a,b,c,d,f⟩,rfl,⟨hf⟩⟩
theorem Kf(h:Shp MJ n 95 ds):∃a b c,ds=[vi a,vi b,vi c]/\κ a/\κ b/\κ c:=by
 cases n with
 | zero=>exact h.elim
 | succ n =>
  simp only[Shp,Tryz.underlying95,N6,iw,Cu] at h
  obtain⟨hl,h1,h2,h3,_⟩:=h
  obtain⟨a,e1,ha⟩:=bd h1
  obtain⟨b,e2,hb⟩:=bd h2
  obtain⟨c,e3,hc⟩:=bd h3
  match ds,hl with
  | [p,q,r],_ =>
   simp at e1 e2 e3
   subst e1;subst e2;subst e3
   exact⟨a,b,c,rfl,ha,hb,hc⟩
theorem FV(h:Shp MJ n 188 ds):∃a b,ds=[vi a,vi b]/\κ a/\κ b:=by
 cases n with
 | zero=>exact h.elim
 | succ n =>
  simp only[Shp,Tryz.underlying188,N6,iw,yF] at h
  obtain⟨hl,h1,h2,_⟩:=h
  obtain⟨a,e1,ha⟩:=bd h1
  obtain⟨b,e2,hb⟩:=bd h2
  match ds,hl with
  | [p,q],_ =>
   simp at e1 e2
   subst e1;subst e2
   exact⟨a,b,rfl,ha,hb⟩
theorem FX(h:Shp MJ n 190 ds):∃f:Uh,ds=f.row/\f.ok:=by
 cases n with
 | zero=>exact h.elim
 | succ n =>
  simp only[Shp,Tryz.underlying190,N6,iw,Cu,yF,FK] at h
  obtain⟨hl,h1,h2,h3,h4,h5,_⟩:=h
  obtain⟨a,b,c,e1,ha,hb,hc⟩:=Kf h1
  obtain⟨d,e2,hd⟩:=bd h2
  obtain⟨x,y,e3,hx,hy⟩:=FV h3
  obtain⟨k,e4,hk⟩:=bd h4
  obtain⟨m,e5,hm⟩:=bd h5
  match ds,hl with
  | [p1,p2,p3,p4,p5,p6,p7,p8],_ =>
   simp at e1 e2 e3 e4 e5
   obtain⟨rfl,rfl,rfl⟩:=e1
   obtain⟨rfl,rfl⟩:=e3
   subst e2;subst e4;subst e5
   exact⟨⟨a,b,c,d,x,y,k,m⟩,rfl,ha,hb,hc,hd,hx,hy,hk,hm⟩
theorem Cw(h:Shp MJ n 27 ds):∃l:By,ds=[.sl (l.map M3)]/\(∀c∈l,c.ok):=by
 cases n with
 | zero=>exact h.elim
 | succ n =>
  simp only[Shp,Tryz.underlying27] at h
  obtain⟨es,rfl,_,he⟩:=h
  obtain⟨l,rfl,hl⟩:=iy (row:=M3) (ok:=Uh.ok) (λr hr=>FX (he r hr))
  exact⟨l,rfl,hl⟩
theorem ro:∀{ks:List U9},(∀k∈ks,k.ok)->jE ks
 | [],_=>trivial
 | k::_,h=>⟨h k (OI ..),ro λx hx=>h x (O2 _ hx)⟩
theorem sL:∀{n:Nat} {ds:dO},Shp MJ n 123 ds->∃r:U9,ds=r.row/\r.ok
 | 0,_,h=>h.elim
 | 1,_,h=>by
  simp only[Shp,T2,N6] at h
  exact h.2.1.elim
 | n+2,ds,h=>by
  rw[Shp,T2] at h
  simp only[N6,iw,rn,FM,yG] at h
  obtain⟨hl,h1,h2,h3,h4,h5,h6,_⟩:=h
  obtain⟨a,e1,ha⟩:=bd h1
  obtain⟨b,e2,hb⟩:=bd h2
  obtain⟨s,e3⟩:=lQ h3
  obtain⟨c,e4,hc⟩:=bd h4
  obtain⟨d,e5,hd⟩:=bd h5
  rw[Shp,Tryz.underlying121] at h6
  simp only[FP] at h6
  obtain⟨es,e6,hb6,he⟩:=h6
  obtain⟨l,rfl,hk⟩:=iy (row:=U9.row) (ok:=U9.ok) (λr hr=>sL (he r hr))
  have hs:am l:=by have:=el hb6 (by omega);simpa[am] using this
  match ds,hl with
  | [p1,p2,p3,p4,p5,p6],_ =>
   simp at e1 e2 e3 e4 e5 e6
   subst e1;subst e2;subst e3;subst e4;subst e5;subst e6
   refine⟨.mk a b s c d l,?_,?_⟩
   ·rw[U9.row,e7]
   ·rw[U9.ok];exact⟨⟨ha,hb,hc,hd,hs⟩,ro hk⟩
theorem Ad(h:Shp MJ n 125 ds):∃c:Uv,ds=c.row/\c.ok:=by
 cases n with
 | zero=>exact h.elim
 | succ n =>
  rw[Shp,Tryz.underlying125] at h
  simp only[N6,iw,rn,yG,FN] at h
  obtain⟨hl,h1,h2,h3,h4,h5,h6,_⟩:=h
  obtain⟨s,e1⟩:=lQ h1
  obtain⟨a,e2,_⟩:=bd h2
  obtain⟨b,e3,_⟩:=bd h3
  obtain⟨c,e4,_⟩:=bd h4
  obtain⟨r,e5,hr⟩:=sL h5
  obtain⟨t,e6,ht⟩:=sL h6
  rw[<-U9.zkj] at e5 e6
  match ds,hl with
  | [p1,p2,p3,p4,p5,p6,p7,p8,p9,p10,p11,p12,p13,p14,p15,p16],_ =>
   simp[RuF.row] at e1 e2 e3 e4 e5 e6
   obtain⟨rfl,rfl,rfl,rfl,rfl,rfl⟩:=e5
   obtain⟨rfl,rfl,rfl,rfl,rfl,rfl⟩:=e6
   subst e1;subst e2;subst e3;subst e4
   exact⟨⟨s,a,b,c,r,t⟩,rfl,hr,ht⟩
theorem wG(h:Shp MJ n 22 ds):∃l:IF,ds=[.sl (l.map MZ)]/\(∀c∈l,c.ok)/\am l:=by
 cases n with
 | zero=>exact h.elim
 | succ n =>
  simp only[Shp,Tryz.underlying22,FQ] at h
  obtain⟨es,rfl,hb,he⟩:=h
  obtain⟨l,rfl,hl⟩:=iy (row:=MZ) (ok:=Uv.ok) (λr hr=>Ad (he r hr))
  exact⟨l,rfl,hl,by have:=el hb (by omega);simpa[am] using this⟩
theorem wH(h:Shp MJ n 312 ds):∃c:zeH,ds=c.row/\True:=by
 cases n with
 | zero=>exact h.elim
 | succ n =>
  simp only[Shp,Tryz.underlying312,N6,iw,FL] at h
  obtain⟨hl,h1,h2,h3,h4,_⟩:=h
  obtain⟨a,e1,_⟩:=bd h1
  obtain⟨b,e2,_⟩:=bd h2
  obtain⟨c,e3,_⟩:=bd h3
  obtain⟨d,e4,_⟩:=bd h4
  match ds,hl with
  | [p,q,r,t],_ =>
   simp at e1 e2 e3 e4
   subst e1;subst e2;subst e3;subst e4
   exact⟨⟨a,b,c,d⟩,rfl,trivial⟩
theorem FY(h:Shp MJ n 302 ds):∃s:zfx,ds=s.row/\s.ok:=by
 cases n with
 | zero=>exact h.elim
 | succ n =>
  simp only[Shp,Tryz.underlying302,N6,FB,FC,FD,FE] at h
  obtain⟨hl,h1,h2,h3,h4,_⟩:=h
  obtain⟨a,e1,a1,a2⟩:=pi h1
  obtain⟨b,e2,b1,b2⟩:=FR h2
  obtain⟨c,e3,c1,c2⟩:=pi h3
  have h5:∃l:List zeH,(List.take 1 (List.drop 3 ds))=[.sl (l.map zeH.row)]/\am l:=by
   cases n with
   | zero=>exact h4.elim
   | succ n =>
    simp only[Shp,Tryz.underlying300,FJ] at h4
    obtain⟨es,e,hb,he⟩:=h4
    obtain⟨l,rfl,_⟩:=iy (row:=zeH.row) (ok:=λ_=>True) (λr hr=>wH (he r hr))
    exact⟨l,e,by have:=el hb (by omega);simpa[am] using this⟩
  obtain⟨d,e4,d1⟩:=h5
  match ds,hl with
  | [p,q,r,t],_ =>
   simp at e1 e2 e3 e4
   subst e1;subst e2;subst e3;subst e4
   exact⟨⟨a,b,c,d⟩,rfl,⟨a1,c1,b1,a2,c2,b2,by simpa[am,zfx.sys] using d1⟩⟩
theorem wI(h:Shp MJ n 24 ds):∃l:M2,ds=[.sl (l.map M9)]/\(∀c∈l,c.ok)/\am l:=by
 cases n with
 | zero=>exact h.elim
 | succ n =>
  simp only[Shp,Tryz.underlying24,FO] at h
  obtain⟨es,rfl,hb,he⟩:=h
  obtain⟨l,rfl,hl⟩:=iy (row:=M9) (ok:=zfx.ok) (λr hr=>FY (he r hr))
  exact⟨l,rfl,hl,by have:=el hb (by omega);simpa[am] using this⟩
theorem FZ(h:Shp MJ n 49 ds):∃p:TO,ds=p.row/\p.ok:=by
 cases n with
 | zero=>exact h.elim
 | succ n =>
  rw[Shp,Tryz.underlying49] at h
  simp only[N6,iw,rn,wF,J0,J1] at h
  obtain⟨hl,h1,h2,h3,h4,h5,h6,_⟩:=h
  obtain⟨s,e1⟩:=lQ h1
  obtain⟨a,e2,_⟩:=bd h2
  obtain⟨b,e3,_⟩:=bd h3
  obtain⟨c,e4,_⟩:=bd h4
  obtain⟨x,y,e5,hx,hy⟩:=uU h5
  cases n with
  | zero=>exact h6.elim
  | succ n =>
   simp only[Shp,Tryz.underlying47,J5] at h6
   obtain⟨es,e6,hb,he⟩:=h6
   obtain⟨l,rfl,hk⟩:=iy (row:=M0) (ok:=UA.ok) (λr hr=>Ke (he r hr))
   match ds,hl with
   | [p1,p2,p3,p4,p5,p6,p7],_ =>
    simp at e1 e2 e3 e4 e5 e6
    obtain⟨rfl,rfl⟩:=e5
    subst e1;subst e2;subst e3;subst e4;subst e6
    exact⟨⟨s,a,b,c,x,y,l⟩,rfl,⟨by have:=el hb (by omega);simpa[am] using this,hk,hx,hy⟩⟩
theorem Cx(h:Shp MJ n 23 ds):∃l:DO,ds=[.sl (l.map NU)]/\(∀c∈l,c.ok)/\am l:=by
 cases n with
 | zero=>exact h.elim
 | succ n =>
  simp only[Shp,Tryz.underlying23,Kb] at h
  obtain⟨es,rfl,hb,he⟩:=h
  obtain⟨l,rfl,hl⟩:=iy (row:=NU) (ok:=TO.ok) (λr hr=>FZ (he r hr))
  exact⟨l,rfl,hl,by have:=el hb (by omega);simpa[am] using this⟩
structure T9.okP (w:T9) (ps:DO):Prop where
 p:w.p=ps.map NU
 k:∀x∈ps,x.ok
 l:am ps
theorem Cy(h:Shp MJ n 29 ds):∃w:T9,ds.map .p=w.l/\w.ok0/\∃ps,w.okP ps:=by
 cases n with
 | zero=>exact h.elim
 | succ n =>
  rw[Shp,Tryz.underlying29] at h
  simp only[N6,Ct,J9,Ka] at h
  obtain⟨hl,h1,h2,_⟩:=h
  obtain⟨f,e4,hf⟩:=Cw h2
  cases n with
  | zero=>exact h1.elim
  | succ n =>
   rw[Shp,Tryz.underlying26] at h1
   simp only[N6,J6,J7,J8,Ct] at h1
   obtain⟨_,g1,g2,g3,_⟩:=h1
   obtain⟨c,e1,c1,c2⟩:=wG g1
   obtain⟨p,e2,p1,p2⟩:=Cx g2
   obtain⟨s,e3,s1,s2⟩:=wI g3
   match ds,hl with
   | [x,y,z,t],_ =>
    simp at e1 e2 e3 e4
    subst e1;subst e2;subst e3;subst e4
    exact⟨⟨c,p.map NU,s,f⟩,rfl,⟨c1,s1,c2,s2,hf⟩,p,rfl,p1,p2⟩
end Go.Vi
