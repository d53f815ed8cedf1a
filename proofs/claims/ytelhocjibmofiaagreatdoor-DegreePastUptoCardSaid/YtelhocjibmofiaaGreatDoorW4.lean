/- A part of the proof; no conditions of its own. -/
import Derived.Test.YtelhocjibmofiaaGreatDoorW3
open Decidable renaming decide -> Zd
open Go.Vi.Uj renaming row -> MQ
open Go.Proofs.Tryz renaming prog -> MJ, f62 -> QN, f64 -> SC, f114 -> RJ
open Go.Vi.Uv renaming row -> MZ
open Go.Vi.zfx renaming row -> M9
open Go.Vi.Uh renaming row -> M3
open Int renaming tmod -> Qw, tdiv -> Nz, toNat -> MU
open Go.IntKind renaming i64 -> ML, wrap -> MN
open Go.Vi.D renaming agg -> Oo, one -> RI, UI -> NG
open Go.Vi.U9 renaming fl -> MX
open List renaming map -> MK, length -> MO, getElem?_eq_some_iff -> MR, foldl_cons -> Nn, length_cons -> Nq, length_nil -> O3, foldl -> ND, length_append -> Nv, mergeSort -> Ro, filterMap_cons -> QV, flatMap_cons -> Ri, mem_flatMap -> Ry, mem_cons -> NF, getD -> Nb, getElem?_eq_getElem -> Nd, any -> QI, mem_of_getElem? -> NX, any_cons -> SR, getElem_mem -> Qg
open Go.Exit renaming normal -> M6, exit -> NR, ret -> Oq
open Go.Vi.Ev renaming zfO -> Na, zeY -> Ov, zet -> Oc, zfL -> Ns, zfp -> Qn, zjI -> QU
open Go.Value renaming oneCell' -> NZ
open Go.Vi.Uc renaming inn -> MY
open Go.Vi.CW renaming each -> PU
open Nat renaming le_trans -> OP, mul_le_mul_right -> OB
open Go.Vi.T9 renaming l -> Oi
open Option.some renaming injEq -> MM
open Bool renaming false_or -> PT
open Go.Vi.Dp renaming sl -> OX
open Go.Fn renaming func -> M7
open Go Go.Proofs
namespace Go.Vi
set_option maxRecDepth 100000
set_option maxHeartbeats 4000000
variable {P:Program}{a b:Uj}{as_ fs ns:bv}{ats:iF}{c dep U3 k kk ST ko ks n ni st T4 to v:Int}{et kt t:TypeId}{f:D}{h:aT}{i j:Nat}{w:T9}{x:RuF}
abbrev OR:=List PtT
abbrev oF:=List XG
variable {rs rs0:oF}
theorem wV{h:aT}{b e:Nat}{l:iF}(hb:h[b]? = some (.T7 (ap (l.map MQ)) e 5))(hl:l.length<4611686018427387904)(hT:∀x∈l,∀y∈l,x.T4=y.T4->x.T5=y.T5->x=y):
  Ev MJ U2 121 [.ref (.T7 b e),.p (Wl 122)] h (.UI []) (h.set b (.T7 (ap ((l.mergeSort leA).map MQ)) e 5)):=by
 have e1:∀l:iF,ap (l.map MQ)=KH l:=λl=>by simp[ap]
 rw[e1] at hb ⊢
 exact Ap hb hl hT
abbrev Wt(a:Int):bY:=[SW a,.ref (.T7 3 0)]
abbrev ofH(w:T9)(ST st:Int)(rs:oF)(ats:iF):aT:=[.var [.ref (.T7 1 1),ab (w.c.map MZ),ab w.p,ab (w.s.map M9),ab (w.f.map M3),SW ST],.T7 (ap (Us rs)) 1 5,.var (Wt st),.T7 (ap (ats.map MQ)) 0 5]
abbrev X4:Nat×D:=(zcH 6)
abbrev Wx:Nat×D:=(zcj 0 0)
abbrev oiS(w:T9)(ST st T4:Int)(ns:bv)(ni n:Int)(ps:bv)(rs:oF)(ats:iF)(j:Int):AS :=
 {t:=Ue 67 0 [Wx,(1,SW st),(2,SW T4),X4,(8,SW n),(16,ab ns),(17,SW ns.length),(18,SW ni),(26,ab ps),(27,SW ps.length),(28,SW j)],h:=ofH w ST st rs ats,m:=[]}
abbrev RA:=oF×iF
def Ο(p:PtT):Bool:=Zd (Qw p.value 16>12)||Zd (ML.wrap (Nz p.value 16)>=7)
def Gl(w:T9)(ST n:Int)(p:PtT):Uj:=⟨n,p.T4,Qw p.value 16,ML.wrap (Nz p.value 16),(ac w n p.T4 ST).1.To⟩
def pu(w:T9)(ST n:Int)(s:RA)(p:PtT):RA:=bif Ο p then s else (s.1++rdT 1 n 0 p.T4,s.2++[Gl w ST n p])
theorem bE(l:iF)(a b c d e:Int):ap (l.map MQ)++[[SW a,SW b,SW c,SW d,SW e]]=ap ((l++[Uj.mk a b c d e]).map MQ):=by simp[MQ]
abbrev Zu(a b:Nat)(c:List (bY))(d e:Nat)(f:List (bY))(g h:Nat)(i:Uc):Bool:=MY 4 (zb4 a b c 0 d e (match a==1 with|true=>.T7 (f) g 5|false=>Ux (a8 1 h g) (i)))
abbrev Y5(a:Nat):oN:=(some (.ref (.T7 a 0)))
abbrev VG(a:iF):List (bY):=ap (MK MQ a)
abbrev VV:D:=(.ref (.ptr 4 0))
abbrev zaq:BY:=[.st (.mask [0,1,2,6,8,16,17,18,26,27,28]),.st (.ren 1 1),.st (.ren 3 0),.st (.UN 4)]
abbrev zdH(a:oF)(b c:Int):bv:=(Us (a++rdT 1 b 0 c))
theorem KI(hw:w.ok){ps:bv}{p:PtT}(hr:ax (j:Int) ps p.row 2)(U8:Zd ((j:Int)<(ps.length:Int))=true)(hwr:ML.wrap ((j:Int)+1)=((j+1:Nat):Int))(hb:rs.length<=999998000)(ha:ats.length<=999998000):(CW MJ Un (lkH w ST rs0 0) false (sub QN 1) (oiS w ST st T4 ns ni n ps rs ats j) .normal (oiS w ST st T4 ns ni n ps (pu w ST n (rs,ats) p).1 (pu w ST n (rs,ats) p).2 ((j+1:Nat):Int))):=by
 cases U5:Zd (Qw p.value 16>12)||Zd (MN ML (Nz p.value 16)>=7)
 ·let v0:bY:=[SW n,SW p.T4,SW (Qw p.value 16),SW (MN ML (Nz p.value 16)),SW (ac w n p.T4 ST).fst.To]
  let v1:=Oo [ak (ac w n p.T4 ST).fst.name,SW (ac w n p.T4 ST).fst.number,SW (ac w n p.T4 ST).fst.To,SW (ac w n p.T4 ST).fst.rep,SW (MX (ac w n p.T4 ST).fst.need).op,SW (MX (ac w n p.T4 ST).fst.need).c,ak (MX (ac w n p.T4 ST).fst.need).nm,SW (MX (ac w n p.T4 ST).fst.need).n,SW (MX (ac w n p.T4 ST).fst.need).d,ab (MX (ac w n p.T4 ST).fst.need).ks,SW (MX (ac w n p.T4 ST).fst.ζ).op,SW (MX (ac w n p.T4 ST).fst.ζ).c,ak (MX (ac w n p.T4 ST).fst.ζ).nm,SW (MX (ac w n p.T4 ST).fst.ζ).n,SW (MX (ac w n p.T4 ST).fst.ζ).d,ab (MX (ac w n p.T4 ST).fst.ζ).ks]
  let v3:bY:=[.ref (.T7 1 1),ab (MK MZ w.c),ab w.p,ab (MK M9 w.s),ab (MK M3 w.f),SW ST]
  let v4:bY:=[.ref (.T7 1 2),ab (MK MZ w.c),ab w.p,ab (MK M9 w.s),ab (MK M3 w.f),SW ST]
  let v2:aT:=[.var v4,.T7 (ap (Us (rs++rdT 1 n 0 p.T4))) 2 5,.var [SW st,.ref (.T7 3 0)],.T7 (ap (MK MQ ats)) 0 5,.var [SW p.T4,SW p.value]]
  let v5:aT:=[.var v3,.T7 (ap (Us rs)) 1 5,.var [SW st,.ref (.T7 3 0)],.T7 (ap (MK MQ ats)) 0 5,.var [SW p.T4,SW p.value]]
  refine zX {t:=Ue 67 0 [(0,.ref (.ptr 0 0)),(1,SW st),(2,SW T4),(6,.ref (.ptr 2 0)),(8,SW n),(16,ab ns),(17,SW (↑(MO ns):Int)),(18,SW ni),(26,ab ps),(27,SW (↑(MO ps):Int)),(28,SW (MN ML ((↑j:Int)+1)))],h:=[.var v3,.T7 (ap (Us (rs++rdT 1 n 0 p.T4))) 1 5,.var [SW st,.ref (.T7 3 0)],.T7 (ap (MK MQ ats)++[v0]) 0 5],m:=[]} M6 [.st (.mask [0,1,2,6,8,16,17,18,26,27,28]),.st (.ren 1 1),.st (.ren 3 0),.st (.UN 4)] [.b true,.row [vi p.T4,vi p.value],.b false,.call v1 v2] (.c U8 (.c hr (.c (show(!Zd (16=0))=true from rfl) (.c (show(!Zd (16=0))=true from rfl) (.c U5 (.c (show Ev MJ Un 120 [.ref (.ptr 0 0),SW n,SW p.T4] v5 v1 v2 from(Na (Ov (args:=[.ref (.ptr 0 0),SW n,SW p.T4]) (H:=v5) [0,1] (Ev.upX [0,1] (@pt w hw ST n (p.T4) rs ?_) (by kernel_rfl) ⟨(by subst v0 v1 v3 v4 v2 v5;first|rfl|exact al _ _|first|assumption|rfl|omega|exact aj _ _|exact ai|(rw[bE];exact aj _ _)|(rw[bE];exact ai)|(simp[aR,RI,NZ,Um];omega)),trivial⟩ ⟨(by subst v0 v1 v3 v4 v2 v5;first|rfl|exact al _ _|first|assumption|rfl|omega|exact aj _ _|exact ai|(rw[bE];exact aj _ _)|(rw[bE];exact ai)|(simp[aR,RI,NZ,Um];omega)),trivial⟩) (by kernel_rfl) (by kernel_rfl) (by kernel_rfl) ⟨(by subst v0 v1 v3 v4 v2 v5;first|rfl|exact al _ _|first|assumption|rfl|omega|exact aj _ _|exact ai|(rw[bE];exact aj _ _)|(rw[bE];exact ai)|(simp[aR,RI,NZ,Um];omega)),trivial⟩ ⟨(by subst v0 v1 v3 v4 v2 v5;first|rfl|exact al _ _|first|assumption|rfl|omega|exact aj _ _|exact ai|(rw[bE];exact aj _ _)|(rw[bE];exact ai)|(simp[aR,RI,NZ,Um];omega)),trivial⟩) (by kernel_rfl) (by kernel_rfl))) (.c (show(List.all [v0] (aR 5)&&Um (MO (ap (MK MQ ats))+MO [v0]) 40)=true from ?_) (.e (.ref (.ptr 2 1)) (.e (.ref (.ptr 2 1)) (.e (.ref (.ptr 2 1)) (.c (show @Eq (oN) (some (.ref (.T7 3 0))) (some (.ref (.T7 3 0))) from rfl) (.c (show @Eq (oN) (some (.ref (.T7 3 0))) (some (.ref (.T7 3 0))) from rfl) (.c (show @Eq (oN) (some (.ref (.T7 3 0))) (some (.ref (.T7 3 0))) from rfl) (.e (.ref (.ptr 4 0)) (.e (.ref (.ptr 4 0)) (.c (show @Eq (oN) (some (SW p.T4)) (some (SW p.T4)) from rfl) (.c (show @Eq (oN) (some (SW p.T4)) (some (SW p.T4)) from rfl) (.e (.ref (.ptr 4 0)) (.c (show @Eq (oN) (some (SW p.T4)) (some (SW p.T4)) from rfl) (.e (.ref (.ptr 2 1)) (.c (vM (Us (rs++rdT 1 n 0 p.T4)) 1 2 1) (.c (vMa (MK MQ ats) [v0] 1 2 1) (.er [v0] (.c (vMa (MK MQ ats) [v0] 3 1 0) (.c (vM (Us (rs++rdT 1 n 0 p.T4)) 3 1 0) (.er [v0] (.c (iqT 4 (match 0==3 with|true=>.T7 (ap (MK MQ ats)++[v0]) 0 5|false=>Ux (a8 3 1 0) (match 0==1 with|true=>.T7 (ap (Us (rs++rdT 1 n 0 p.T4))) 1 5|false=>Ux (a8 1 2 1) (.var v4)))) (.c (show MY 4 (match 0+1==3 with|true=>.T7 (ap (MK MQ ats)++[v0]) 0 5|false=>Ux (a8 3 1 0) (match 0+1==1 with|true=>.T7 (ap (Us (rs++rdT 1 n 0 p.T4))) 1 5|false=>Ux (a8 1 2 1) (.T7 (ap (Us (rs++rdT 1 n 0 p.T4))) 2 5)))=true from ?_) (.c (iqT 4 (match 0+1+1==3 with|true=>.T7 (ap (MK MQ ats)++[v0]) 0 5|false=>Ux (a8 3 1 0) (match 0+1+1==1 with|true=>.T7 (ap (Us (rs++rdT 1 n 0 p.T4))) 1 5|false=>Ux (a8 1 2 1) (.var [SW st,.ref (.T7 3 1)])))) (.c (iVa 4 (MK MQ ats) [v0] 0 5) .n)))))))))))))))))))))))))))))) (by subst v0 v1 v3 v4 v2 v5;first|rfl|(have hh:Ο p=true:=U5;simp only[hwr,pu,hh,cond_true];first|done|rfl)|(have hh:Ο p=false:=U5;simp only[hwr,pu,hh,cond_false,bE];first|done|rfl)) (by subst v0 v1 v3 v4 v2 v5;first|rfl|(have hh:Ο p=true:=U5;simp only[hwr,pu,hh,cond_true];first|done|rfl)|(have hh:Ο p=false:=U5;simp only[hwr,pu,hh,cond_false,bE];first|done|rfl))<;>subst v0 v1 v3 v4 v2 v5<;>(first|assumption|rfl|omega|exact aj _ _|exact ai|(rw[bE];exact aj _ _)|(rw[bE];exact ai)|(simp[aR,RI,NZ,Um];omega))
 ·let v0:bY:=[.ref (.T7 1 1),ab (MK MZ w.c),ab w.p,ab (MK M9 w.s),ab (MK M3 w.f),SW ST]
  refine zX {t:=Ue 67 0 [(0,.ref (.ptr 0 0)),(1,SW st),(2,SW T4),(6,.ref (.ptr 2 0)),(8,SW n),(16,ab ns),(17,SW (↑(MO ns):Int)),(18,SW ni),(26,ab ps),(27,SW (↑(MO ps):Int)),(28,SW (MN ML ((↑j:Int)+1)))],h:=[.var v0,.T7 (ap (Us rs)) 1 5,.var [SW st,.ref (.T7 3 0)],.T7 (ap (MK MQ ats)) 0 5],m:=[]} M6 [.st (.mask [0,1,2,6,8,16,17,18,26,27,28]),.st (.ren 1 1),.st (.ren 3 0),.st (.UN 4)] [.b true,.row [vi p.T4,vi p.value],.b true] (.c U8 (.c hr (.c (show(!Zd (16=0))=true from rfl) (.c (show(!Zd (16=0))=true from rfl) (.c U5 (.c (vM (Us rs) 1 1 1) (.c (vM (MK MQ ats) 1 1 1) (.c (vM (MK MQ ats) 3 0 0) (.c (vM (Us rs) 3 0 0) (.c (iqT 4 (match 0==3 with|true=>.T7 (ap (MK MQ ats)) 0 5|false=>Ux (a8 3 0 0) (match 0==1 with|true=>.T7 (ap (Us rs)) 1 5|false=>Ux (a8 1 1 1) (.var v0)))) (.c (show MY 4 (match 0+1==3 with|true=>.T7 (ap (MK MQ ats)) 0 5|false=>Ux (a8 3 0 0) (match 0+1==1 with|true=>.T7 (ap (Us rs)) 1 5|false=>Ux (a8 1 1 1) (.T7 (ap (Us rs)) 1 5)))=true from ?_) (.c (iqT 4 (match 0+1+1==3 with|true=>.T7 (ap (MK MQ ats)) 0 5|false=>Ux (a8 3 0 0) (match 0+1+1==1 with|true=>.T7 (ap (Us rs)) 1 5|false=>Ux (a8 1 1 1) (.var [SW st,.ref (.T7 3 0)])))) (.c (iV 4 (MK MQ ats) 0 5) .n))))))))))))) (by subst v0;first|rfl|(have hh:Ο p=true:=U5;simp only[hwr,pu,hh,cond_true];first|done|rfl)|(have hh:Ο p=false:=U5;simp only[hwr,pu,hh,cond_false,bE];first|done|rfl)) (by subst v0;first|rfl|(have hh:Ο p=true:=U5;simp only[hwr,pu,hh,cond_true];first|done|rfl)|(have hh:Ο p=false:=U5;simp only[hwr,pu,hh,cond_false,bE];first|done|rfl))<;>subst v0<;>(first|assumption|rfl|omega|exact aj _ _|exact ai|(rw[bE];exact aj _ _)|(rw[bE];exact ai)|(simp[aR,RI,NZ,Um];omega))
abbrev YD(a b:Int)(c:bv)(d:D)(e:Int)(f:aT):AS:={t:=Ue 67 0 [(zcj 0 0),(1,SW a),(2,SW b),(zcH 6),(16,ab c),(17,d),(18,SW e)],h:=f,m:=[]}
theorem KJ{ps:bv}(U8:Zd ((j:Int)<(ps.length:Int))=false):(CW MJ Un (lkH w ST rs0 0) false (sub QN 1) (oiS w ST st T4 ns ni n ps rs ats j) (.exit 2) (YD st T4 ns (SW ns.length) ni (ofH w ST st rs ats))):=by
 exact zx [.st (.mask [0,1,2,6,16,17,18])] [.b false] (.c U8 .n)
theorem yO{s:RA}(p:PtT):(pu w ST n s p).1.length<=s.1.length+1/\(pu w ST n s p).2.length<=s.2.length+1:=by
 unfold pu
 cases Ο p
 ·have:=zeT 1 n 0 p.T4
  simp;omega
 ·simp
theorem oi_cw{w:T9}(hw:w.ok){ST st T4:Int}{ns:bv}{ni n:Int}{ps:OR}(hp:ps.length<=2000){rs0 rs:oF}{ats:iF}(hb:rs.length<=999990000)(ha:ats.length<=999990000):
  CW MJ Un (lkH w ST rs0 0) false (.loop (sub QN 1)) (oiS w ST st T4 ns ni n (ps.map PtT.row) rs ats 0) (.exit 2) (YD st T4 ns (SW ns.length) ni (ofH w ST st (ps.foldl (pu w ST n) (rs,ats)).1 (ps.foldl (pu w ST n) (rs,ats)).2)):=by
 have hl:am ps:=by unfold am;omega
 have:=PU (P:=MJ) (Γ:=Un) (h0:=lkH w ST rs0 0) (rd:=false) (c:=sub QN 1) (σ:=RA) (ρ:=Empty) ps (λp s=>.inl (pu w ST n s p))
  (λj s=>oiS w ST st T4 ns ni n (ps.map PtT.row) s.1 s.2 (j:Int)) (.exit 2) (λs=>(YD st T4 ns (SW ns.length) ni (ofH w ST st s.1 s.2))) (λr=>r.elim)
  (λj s=>s.1.length<=rs.length+j/\s.2.length<=ats.length+j) (by simp) (λr=>r.elim) ?_ ?_ (rs,ats) (by simp)
 ·rw[aY] at this
  exact this
 ·intro j p s hpj hs
  have hi:=(MR.1 hpj).1
  refine⟨λs' h=>by cases h;have:=yO (w:=w) (ST:=ST) (n:=n) (s:=s) p;omega,KI hw (rowAt hpj rfl) (UO _ hi) (Uo hi hl) (by omega) (by omega)⟩
 ·intro s _
  exact KJ (bl _ ps)
theorem bP{l:By}:(bO kk ks ko U3 to ST l).length<=1024:=by
 have key:∀(rs:bV) (ns:iS) (l:OR),(ns.foldl (λl n=>ptF (rs.getD n 0) n l) l).length<=l.length+ns.length:=by
  intro rs ns
  induction ns with
  | nil=>intro l;simp
  | cons n ns ih=>intro l;have:=ih (ptF (rs.getD n 0) n l);have h2:=C1 (rs.getD n 0) n l;simp only[Nn,Nq];omega
 unfold bO H0
 refine OP (key _ _ _) ?_
 have:AL to<=1024:=by unfold AL;split<;>omega
 simp only[O3,List.length_range']
 have:0<=ptLo U3:=sP U3
 omega
abbrev ooS(w:T9)(ST st T4:Int)(ns:bv)(rs:oF)(ats:iF)(i:Int):AS :=
 (YD st T4 ns (SW ns.length) i (ofH w ST st rs ats))
def gX(w:T9)(ST st T4:Int)(s:RA)(n:Int):RA:=(bO 5 st n 0 T4 ST w.f).foldl (pu w ST n) (s.1++[⟨5,st,n,0,T4⟩],s.2)
noncomputable abbrev rC(w:T9)(ST:Int)(st:Int)(rs:oF)(ats:iF):aT:=[.var (Zl 1 1 w ST),.T7 (ap (Us rs)) 1 5,.var (Wt st),.T7 (VG ats) 0 5]
theorem KK(hw:w.ok)(hr:ax (i:Int) ns [vi n] 1)(U8:Zd ((i:Int)<(ns.length:Int))=true)(hwr:ML.wrap ((i:Int)+1)=((i+1:Nat):Int))(hb:rs.length<=999980000)(ha:ats.length<=999980000):(CW MJ Un (lkH w ST rs0 0) false (sub QN 0) (ooS w ST st T4 ns rs ats i) .normal (ooS w ST st T4 ns (gX w ST st T4 (rs,ats) n).1 (gX w ST st T4 (rs,ats) n).2 ((i+1:Nat):Int))):=by
 have UE:=(@oi_cw (w) (hw) (ST) (st) (T4) (ns) ((↑i:Int)) (n) (bO 5 st n 0 T4 ST w.f) (by first|assumption|rfl|omega|exact aj _ _|exact OP bP (by omega)|(simp;omega)) (rs0) (rs++[{kind:=5,sub:=st,obj:=n,U3:=0,Λ:=T4}]) (ats) (by first|assumption|rfl|omega|exact aj _ _|exact OP bP (by omega)|(simp;omega)) (by first|assumption|rfl|omega|exact aj _ _|exact OP bP (by omega)|(simp;omega)))
 let v1:aT:=[.var [.ref (.T7 1 2),ab (MK MZ w.c),ab w.p,ab (MK M9 w.s),ab (MK M3 w.f),SW ST],.T7 (ap (Us (rs++[{kind:=5,sub:=st,obj:=n,U3:=0,Λ:=T4}]))) 2 5,.var [SW st,.ref (.T7 3 0)],.T7 (ap (MK MQ ats)) 0 5]
 let v2:=ND (pu w ST n) (rs++[{kind:=5,sub:=st,obj:=n,U3:=0,Λ:=T4}],ats) (bO 5 st n 0 T4 ST w.f)
 let v0:aT:=[.var [.ref (.T7 1 1),ab (MK MZ w.c),ab w.p,ab (MK M9 w.s),ab (MK M3 w.f),SW ST],.T7 (ap (Us v2.fst)) 1 5,.var [SW st,.ref (.T7 3 0)],.T7 (ap (MK MQ v2.2)) 0 5]
 let v3:=ab (MK PtT.row (bO 5 st n 0 T4 ST w.f))
 refine zX {t:=Ue 67 0 [(0,.ref (.ptr 0 0)),(1,SW st),(2,SW T4),(6,.ref (.ptr 2 0)),(16,ab ns),(17,SW (↑(MO ns):Int)),(18,SW (MN ML ((↑i:Int)+1)))],h:=v0,m:=[]} M6 [.st (.mask [0,1,2,6,16,17,18])] [.b true,.row [vi n],.call v3 v1,.st (.ren 1 1),.sum [0,1,2,6,8,16,17,18,26,27,28] (NR 2) {t:=Ue 67 0 [(0,.ref (.ptr 0 0)),(1,SW st),(2,SW T4),(6,.ref (.ptr 2 0)),(16,ab ns),(17,SW (↑(MO ns):Int)),(18,SW (↑i:Int))],h:=v0,m:=[]}] (.c U8 (.c hr (.c (show Ev MJ Un 119 [.ref (.ptr 0 0),SW st,SW n,SW T4] (rC w ST st rs ats) v3 v1 from(Na (Ov (args:=[.ref (.ptr 0 0),SW st,SW n,SW T4]) (H:=(rC w ST st rs ats)) [0,1] (Ev.upX [0,1] (@wU w hw ST st n T4 rs (by subst v1 v2 v0 v3;first|assumption|rfl|omega|exact aj _ _|exact OP bP (by subst v1 v2 v0 v3;omega)|(simp;omega))) (by kernel_rfl) ⟨?_,trivial⟩ ⟨?_,trivial⟩) (by kernel_rfl) (by kernel_rfl) (by kernel_rfl) ⟨?_,trivial⟩ ⟨?_,trivial⟩) (by kernel_rfl) (by kernel_rfl))) (.c (vM (Us (rs++[{kind:=5,sub:=st,obj:=n,U3:=0,Λ:=T4}])) 1 2 1) (.c (vM (MK MQ ats) 1 2 1) (.c UE .n)))))) (by subst v1 v2 v0 v3;first|rfl|(simp only[hwr];rfl)) (by subst v1 v2 v0 v3;first|rfl|(simp only[hwr];rfl))<;>subst v1 v2 v0 v3<;>(first|rfl|exact al _ _|first|assumption|rfl|omega|exact aj _ _|exact OP bP (by omega)|(simp;omega))
theorem KL(U8:Zd ((i:Int)<(ns.length:Int))=false):(CW MJ Un (lkH w ST rs0 0) false (sub QN 0) (ooS w ST st T4 ns rs ats i) (.exit 0) {t:=Ue 67 0 [X4],h:=ofH w ST st rs ats,m:=[]}):=by
 exact zx (zaM 6) [.b false] (.c U8 .n)
theorem rD{w:T9}{ST n:Int}:∀(ps:OR) (s:RA),(ps.foldl (pu w ST n) s).1.length<=s.1.length+ps.length/\(ps.foldl (pu w ST n) s).2.length<=s.2.length+ps.length
 | [],s=>by simp
 | p::ps,s=>by
  have h1:=yO (w:=w) (ST:=ST) (n:=n) (s:=s) p
  have h2:=rD (w:=w) (ST:=ST) (n:=n) ps (pu w ST n s p)
  simp only[Nn,Nq]
  omega
theorem C4(s:RA)(n:Int):(gX w ST st T4 s n).1.length<=s.1.length+1025/\(gX w ST st T4 s n).2.length<=s.2.length+1024:=by
 unfold gX
 have h1:=rD (w:=w) (ST:=ST) (n:=n) (bO 5 st n 0 T4 ST w.f) (s.1++[⟨5,st,n,0,T4⟩],s.2)
 have h2:=bP (kk:=5) (ks:=st) (ko:=n) (U3:=0) (to:=T4) (ST:=ST) (l:=w.f)
 simp only[Nv,Nq,O3] at h1
 omega
theorem oo_g(hw:w.ok){ns:bV}(hn:ns.length<=69000)(hb:rs.length<=800000000)(ha:ats.length<=1000):
  CW MJ Un (lkH w ST rs0 0) false (.loop (sub QN 0)) (ooS w ST st T4 (Ys ns) rs ats 0) (.exit 0) {t:=Ue 67 0 [X4],h:=ofH w ST st (ns.foldl (gX w ST st T4) (rs,ats)).1 (ns.foldl (gX w ST st T4) (rs,ats)).2,m:=[]}:=by
 have hl:am ns:=by unfold am;omega
 have:=PU (P:=MJ) (Γ:=Un) (h0:=lkH w ST rs0 0) (rd:=false) (c:=sub QN 0) (σ:=RA) (ρ:=Empty) ns (λn s=>.inl (gX w ST st T4 s n))
  (λi s=>ooS w ST st T4 (Ys ns) s.1 s.2 (i:Int)) (.exit 0) (λs=>{t:=Ue 67 0 [X4],h:=ofH w ST st s.1 s.2,m:=[]}) (λr=>r.elim)
  (λi s=>s.1.length<=rs.length+i*1025/\s.2.length<=ats.length+i*1025) (by simp) (λr=>r.elim) ?_ ?_ (rs,ats) (by simp)
 ·rw[aY] at this
  exact this
 ·intro i n s hni hs
  have hi:=(MR.1 hni).1
  refine⟨λs' h=>by cases h;have:=C4 (w:=w) (ST:=ST) (st:=st) (T4:=T4) s n;omega,KK hw (rowAt (row:=λn=>[vi n]) hni rfl) (UO (λn=>[vi n]) hi) (Uo hi hl) (by omega) (by omega)⟩
 ·intro s _
  exact KL (bl (λn=>[vi n]) ns)
theorem oo_cw{w:T9}(hw:w.ok){ST st T4:Int}{ns:bV}(hn:ns.length<=69000){rs0 rs:oF}(hb:rs.length<=800000000):
  CW MJ Un (lkH w ST rs0 0) false (.loop (sub QN 0)) (ooS w ST st T4 (Ys ns) rs [] 0) (.exit 0) {t:=Ue 67 0 [X4],h:=ofH w ST st (ns.foldl (gX w ST st T4) (rs,[])).1 (ns.foldl (gX w ST st T4) (rs,[])).2,m:=[]}:=oo_g hw hn hb (by simp)
def Ei(w:T9)(ST st T4:Int)(rs:oF):RA:=(ah w.f ST).foldl (gX w ST st T4) (rs++[rdN],[])
def wW(w:T9)(ST st T4:Int)(rs:oF):iF:=(Ei w ST st T4 rs).2.mergeSort leA
theorem cy{fs:By}:(ah fs ST).length<=fs.length:=by
 have:=jA (many:=B0 fs ST) fs []
 simp only[O3,Nat.zero_add] at this
 unfold ah HL
 simpa using this
noncomputable abbrev C5(w:T9)(ST:Int)(st:Int)(T4:Int)(rs:oF):aT:=[.var (Zl 1 1 w ST),.T7 (ap (Us (ND (gX w ST st T4) (rs++[rdN],[]) (ah w.f ST)).fst)) 1 5,.var (Wt st),.T7 (VG ((ND (gX w ST st T4) (rs++[rdN],[]) (ah w.f ST)).2)) 0 5]
noncomputable abbrev C6(w:T9)(ST:Int)(st:Int)(T4:Int)(rs:oF):aT:=[.var (Zl 1 1 w ST),.T7 (ap (Us (ND (gX w ST st T4) (rs++[rdN],[]) (ah w.f ST)).fst)) 1 5,.var (Wt st),.T7 (VG (Ro (Ei w ST st T4 rs).2 leA)) 0 5]
abbrev zcP(a b c:Nat)(d:bv)(e:Uc):Uc:=(match a==b with|true=>.U7|false=>Ux (ez b c d) (e))
theorem of_a(hw:w.ok)(hb:rs.length<=700000000)(hn:(ah w.f ST).length<=69000)(hl:(Ei w ST st T4 rs).2.length<4611686018427387904)(hT:∀x∈(Ei w ST st T4 rs).2,∀y∈(Ei w ST st T4 rs).2,x.T4=y.T4->x.T5=y.T5->x=y):(Ev MJ Un 62 (YO 0 st T4) (lkH w ST rs 0) (.agg [SW st,ab ((wW w ST st T4 rs).map MQ)]) (lkH w ST (Ei w ST st T4 rs).1 1)):=by
 have UE:=(@oo_cw (w) (hw) (ST) (st) (T4) (ah w.f ST) (hn) (rs) (rs++[rdN]) (by first|assumption|rfl|omega|exact aj _ _|exact ai|(simp;omega)))
 let v0:bY:=(Zl 1 1 w ST)
 let v1:=MK MQ (wW w ST st T4 rs)
 let v2:=ND (gX w ST st T4) (rs++[rdN],[]) (ah w.f ST)
 let v3:aT:=[.var (Zl 1 0 w ST),.T7 (ap (Us rs)) 0 5,.var [SW st,nq]]
 let v4:aT:=[.var v0,.T7 (zbm rs [rdN]) 1 5,.var [SW st,nq]]
 refine Na (Ev.post (d2:=Oo [SW st,ab v1]) (h2:=[.var v0,.T7 (ap (Us v2.fst)) 1 5]) (φ:=[(VG (Ro (Ei w ST st T4 rs).2 leA))=(W8 v1),MK (D.YK (ez 3 0 v1)) (ap (Us v2.fst))=ap (Us v2.fst),MY 2 (zcP 0 3 0 v1 (.var v0))=true,MY 2 (match 0+1==3 with|true=>.U7|false=>Ux (ez 3 0 v1) (.T7 (ap (Us v2.fst)) 1 5))=true]) [.st (.frz 3 v1),.st (.UN 2)] (Oc (h':=(C6 w ST st T4 rs)) (d:=Oo (Wt st)) UR [.call (ab (YZ (ah w.f ST))) v4,.st (.zhX 2 1 5),.sum [0,1,2,6,16,17,18] (NR 0) {t:=Ue 67 0 [X4],h:=(C5 w ST st T4 rs),m:=[]},.call (NG []) (C6 w ST st T4 rs)] (by kernel_rfl) (.c (show Ev MJ Un 118 YT v3 (ab (YZ (ah w.f ST))) v4 from(Na (Ov (args:=YT) (H:=v3) [0,1] (@Gk w hw ST rs ?_) (by kernel_rfl) (by kernel_rfl) (by kernel_rfl) ⟨(by subst v0 v1 v2 v3 v4;first|rfl|exact al _ _|first|assumption|rfl|omega|exact aj _ _|exact ai|(simp;omega)),trivial⟩ ⟨(by subst v0 v1 v2 v3 v4;first|rfl|exact al _ _|first|assumption|rfl|omega|exact aj _ _|exact ai|(simp;omega)),trivial⟩) (by kernel_rfl) (by kernel_rfl))) (.c UE (.c (Ns (Γ':=Un) (@wV (C5 w ST st T4 rs) 3 0 ((Ei w ST st T4 rs).2) ?_ hl hT)) .n)))) (by kernel_rfl) ⟨?_,?_,rfl,?_,trivial⟩) (by rfl) (by rfl)<;>subst v0 v1 v2 v3 v4<;>(first|assumption|rfl|omega|exact aj _ _|exact ai|(simp;omega))
def ptO(rs:bV)(n:Nat):Option PtT:=bif Zd (rs.getD n 0>=0) then some ⟨(n:Int),rs.getD n 0⟩ else none
theorem C7(rs:bV)(x to:Int):H0 rs x to=(List.range' x.toNat (AL to-x).toNat).filterMap (ptO rs):=by
 have key:∀(ns:iS) (l:OR),ns.foldl (λl n=>ptF (rs.getD n 0) n l) l=l++ns.filterMap (ptO rs):=by
  intro ns
  induction ns with
  | nil=>intro l;simp
  | cons n ns ih =>
   intro l
   rw[Nn,ih,QV]
   unfold ptF ptO
   cases Zd (rs.getD n 0>=0)<;>simp
 unfold H0
 rw[key];simp
theorem KM{rs:bV}{x:Int}:(H0 rs x to).Pairwise λp q=>p.T4<q.T4:=by
 rw[C7]
 refine List.Pairwise.filterMap (R:=λa b=>a<b) (ptO rs) ?_ (List.pairwise_lt_range' ..)
 intro a b hab p hp q hq
 unfold ptO at hp hq
 cases h1:Zd (rs.getD a 0>=0)<;>rw[h1] at hp<;>simp at hp
 cases h2:Zd (rs.getD b 0>=0)<;>rw[h2] at hq<;>simp at hq
 subst hp;subst hq
 simp;exact hab
theorem Ar{l:By}:(bO kk ks ko U3 to ST l).Pairwise λp q=>p.T4<q.T4:=KM
def attO(w:T9)(ST n:Int)(p:PtT):Option Uj:=bif Ο p then none else some (Gl w ST n p)
def rdO(n:Int)(p:PtT):oF:=bif Ο p then [] else rdT 1 n 0 p.T4
theorem vn(w:T9)(ST n:Int):∀(ps:OR) (s:RA),ps.foldl (pu w ST n) s=(s.1++ps.flatMap (rdO n),s.2++ps.filterMap (attO w ST n))
 | [],s=>by simp
 | p::ps,s=>by
  rw[Nn,vn w ST n ps,QV,Ri]
  unfold pu attO rdO
  cases Ο p<;>simp
abbrev wX(w:T9)(ST st T4 n:Int):OR:=bO 5 st n 0 T4 ST w.f
def cK(w:T9)(ST st T4 n:Int):oF:=⟨5,st,n,0,T4⟩::(wX w ST st T4 n).flatMap (rdO n)
def fB(w:T9)(ST st T4 n:Int):iF:=(wX w ST st T4 n).filterMap (attO w ST n)
theorem zlQ(w:T9)(ST st T4:Int)(s:RA)(n:Int):gX w ST st T4 s n=(s.1++cK w ST st T4 n,s.2++fB w ST st T4 n):=by
 unfold gX
 rw[vn]
 simp[cK,fB]
theorem wY(w:T9)(ST st T4:Int)(rs:oF):Ei w ST st T4 rs=(rs++rdN::(ah w.f ST).flatMap (cK w ST st T4),(ah w.f ST).flatMap (fB w ST st T4)):=by
 have key:∀(ns:bV) (s:RA),ns.foldl (gX w ST st T4) s=(s.1++ns.flatMap (cK w ST st T4),s.2++ns.flatMap (fB w ST st T4)):=by
  intro ns
  induction ns with
  | nil=>intro s;simp
  | cons n ns ih=>intro s;rw[Nn,ih,zlQ];simp
 unfold Ei
 rw[key];simp
def cV(w:T9)(ST st T4:Int):oF:=rdN::(ah w.f ST).flatMap (cK w ST st T4)
def kF(w:T9)(ST st T4:Int):iF:=(ah w.f ST).flatMap (fB w ST st T4)
def Ej(w:T9)(ST st T4:Int):iF:=(kF w ST st T4).mergeSort leA
theorem kG(h:a∈fB w ST st T4 n):a.T5=n/\∃p∈wX w ST st T4 n,Ο p=false/\a=Gl w ST n p:=by
 unfold fB at h
 obtain⟨p,hp,he⟩:=List.mem_filterMap.1 h
 unfold attO at he
 cases hb:Ο p<;>rw[hb] at he<;>simp at he
 subst he
 exact⟨rfl,p,hp,hb,rfl⟩
theorem Gm:∀x∈kF w ST st T4,∀y∈kF w ST st T4,x.T4=y.T4->x.T5=y.T5->x=y:=by
 intro x hx y hy ht hc
 obtain⟨n,hn,hx⟩:=Ry.1 hx
 obtain⟨n',hn',hy⟩:=Ry.1 hy
 obtain⟨e1,p,hp,_,rfl⟩:=kG hx
 obtain⟨e2,q,hq,_,rfl⟩:=kG hy
 have:n=n':=by rw[<-e1,<-e2,hc]
 subst this
 have hpq:p=q:=by
  have hinc:=Ar (kk:=5) (ks:=st) (ko:=n) (U3:=0) (to:=T4) (ST:=ST) (l:=w.f)
  have key:∀(l:OR),l.Pairwise (λp q=>p.T4<q.T4)->∀p∈l,∀q∈l,p.T4=q.T4->p=q:=by
   intro l
   induction l with
   | nil=>intro _ p hp;simp at hp
   | cons a l ih =>
    intro hl p hp q hq e
    rw[List.pairwise_cons] at hl
    rcases NF.1 hp with hp1|hp1<;>rcases NF.1 hq with hq1|hq1
    ·rw[hp1,hq1]
    ·have:=hl.1 q hq1;rw[hp1] at e;omega
    ·have:=hl.1 p hp1;rw[hq1] at e;omega
    ·exact ih hl.2 p hp1 q hq1 e
  exact key _ hinc p hp q hq ht
 rw[hpq]
theorem fa{α β:Type}(f:α->List β)(k:Nat):∀l:List α,(∀a∈l,(f a).length<=k)->(l.flatMap f).length<=l.length*k
 | [],_=>by simp
 | a::l,h=>by
  have:=fa f k l (λb hb=>h b (by simp[hb]))
  have h1:=h a (by simp)
  simp only[Ri,Nv,Nq,Nat.add_mul]
  omega
theorem rE(hw:w.ok):(kF w ST st T4).length<=70656000:=by
 have h1:=fa (fB w ST st T4) 1024 (ah w.f ST) (λn _=>OP (List.length_filterMap_le ..) bP)
 have h2:=cy (fs:=w.f) (ST:=ST)
 have h3:=hw.lf
 unfold kF
 have:(ah w.f ST).length*1024<=69000*1024:=OB _ (by omega)
 omega
theorem wZ:(cK w ST st T4 n).length<=1025:=by
 unfold cK
 have h1:=fa (rdO n) 1 (wX w ST st T4 n) (λp _=>by unfold rdO;cases Ο p<;>simp[zeT])
 have h2:=bP (kk:=5) (ks:=st) (ko:=n) (U3:=0) (to:=T4) (ST:=ST) (l:=w.f)
 simp only[Nq]
 simp only[wX] at h1 ⊢
 omega
theorem vo(hw:w.ok):(cV w ST st T4).length<=70725001:=by
 have h1:=fa (cK w ST st T4) 1025 (ah w.f ST) (λn _=>wZ)
 have h2:=cy (fs:=w.f) (ST:=ST)
 have h3:=hw.lf
 unfold cV
 have:(ah w.f ST).length*1025<=69000*1025:=OB _ (by omega)
 simp only[Nq]
 omega
theorem Gn(hw:w.ok)(hb:rs.length<=700000000):Ev MJ Un 62 (YO 0 st T4) (lkH w ST rs 0) (.agg [SW st,ab ((Ej w ST st T4).map MQ)]) (lkH w ST (rs++cV w ST st T4) 1):=by
 have h:=of_a hw (ST:=ST) (st:=st) (T4:=T4) hb (OP cy hw.lf) (by rw[wY];have:=rE hw (ST:=ST) (st:=st) (T4:=T4);unfold kF at this;simp only;omega) (by rw[wY];exact Gm)
 unfold wW at h
 rw[wY] at h
 exact h
theorem recOf0(hw:w.ok):Ev MJ Un 62 (YO 0 st T4) (lkH w ST [] 0) (.agg [SW st,ab ((Ej w ST st T4).map MQ)]) (lkH w ST (cV w ST st T4) 1):=by
 have:=Gn hw (ST:=ST) (st:=st) (T4:=T4) (rs:=[]) (by simp)
 simpa using this
def vq(st T4:Int):Bool:=!(Zd (st>=0)&&Zd (st<=19999))||!(Zd (T4>=0)&&Zd (T4<=1024))
structure UW where
 st:Int
 a:iF
def UW.l(r:UW):bY:=[SW r.st,ab (r.a.map MQ)]
def jK(w:T9)(st T4 ST:Int):UW×oF×Int:=match vq st T4 with
 | true=>(⟨0,[]⟩,[],150)
 | false=>(⟨st,Ej w ST st T4⟩,cV w ST st T4,0)
def KN(st T4:Int)(rr:oF)(aa:iF):UW×oF×Int:=match vq st T4 with
 | true=>(⟨0,[]⟩,[],150)
 | false=>(⟨st,aa⟩,rr,0)
noncomputable abbrev nl(w:T9):aT:=[.var (Zi w),.var [SW 0,nq]]
theorem rof_a{rr:oF}{aa:iF}(hof:Ev MJ Un 62 (YO 0 st T4) (lkH w ST [] 0) (.agg [SW st,ab (aa.map MQ)]) (lkH w ST rr 1))(h:aT):(Ev MJ Un 24 (Wp w st T4 ST) h (.UI [.agg (KN st T4 rr aa).1.l,ab (Us (KN st T4 rr aa).2.1),SW (KN st T4 rr aa).2.2]) h):=by
 cases U5:!(Zd (st>=0)&&Zd (st<=19999))||!(Zd (T4>=0)&&Zd (T4<=1024))
 ·let v0:aT:=[.var (Oi w),.var [SW 0,nq],.var (Zl 3 1 w ST),.T7 (ap (Us rr)) 1 5]
  let v1:aT:=[.var (Oi w),.var [SW 0,nq],.var (Zl 3 0 w ST),.T7 [] 0 5]
  let v2:bY:=[SW st,ab (MK MQ aa)]
  refine Na (Qn (z0 (d:=NG [Oo v2,ab (Us rr),SW 0]) [.val (Yt st 0 19999),.val (Yt T4 0 1024),.b false,.nx 1,.st (.zhX 2 0 5),.call (Oo v2) v0,.st (.frz 3 (Us rr))] (.c (Ns (Γ':=Un) (@bG st 0 19999 (nl w))) (.c (gd (!!(Zd (st>=0)&&Zd (st<=19999))) (Ns (Γ':=Un) (@bG T4 0 1024 (nl w)))) (.c U5 (.c (show Ev MJ Un 62 (YO 2 st T4) v1 (Oo v2) v0 from(Na (Ov (args:=(YO 2 st T4)) (H:=v1) [2,3] (@hof) (by kernel_rfl) (by kernel_rfl) (by kernel_rfl) ⟨?_,trivial⟩ ⟨?_,trivial⟩) (by kernel_rfl) (by kernel_rfl))) (.c (show ap (Us rr)=(W8 (Us rr)) from(by subst v0 v1 v2;first|assumption|rfl|omega|exact aj _ _|exact ai)) (.e (Oo v2) (.e Xs (.e Xs (.e Xs (.e Xs (.c (show @Eq (oN) (some (ab (Us rr))) (some (ab (Us rr))) from rfl) (.c (show @Eq (oN) (some (ab (Us rr))) (some (ab (Us rr))) from rfl) .n)))))))))))) h)) (by subst v0 v1 v2;first|(have hh:vq st T4=true:=U5;simp only[KN,hh];rfl)|(have hh:vq st T4=false:=U5;simp only[KN,hh];rfl)) (by rfl)<;>subst v0 v1 v2<;>(first|rfl|exact al _ _|first|assumption|rfl|omega|exact aj _ _|exact ai)
 ·exact Na (Qn (z0 (d:=NG [Oo [SW 0,nq],nq,SW 150]) [.val (Yt st 0 19999),.val (Yt T4 0 1024),.b true] (.c (Ns (Γ':=Un) (@bG st 0 19999 (nl w))) (.c (gd (!!(Zd (st>=0)&&Zd (st<=19999))) (Ns (Γ':=Un) (@bG T4 0 1024 (nl w)))) (.c U5 .n))) h)) (by first|(have hh:vq st T4=true:=U5;simp only[KN,hh];rfl)|(have hh:vq st T4=false:=U5;simp only[KN,hh];rfl)) (by rfl)
theorem rof_ev(hw:w.ok)(h:aT):Ev MJ Un 24 (Wp w st T4 ST) h (.UI [.agg (jK w st T4 ST).1.l,ab (Us (jK w st T4 ST).2.1),SW (jK w st T4 ST).2.2]) h :=
 rof_a (recOf0 hw) h
def KO(a:Uj):Bool:=Xl a.T5 0 4095&&Xl a.T4 0 1023&&Xl a.Uf 0 12&&Xl a.UK 0 6&&Xl a.To 0 60
def lW(o:Option Uj)(a:Uj):Bool:=!KO a||(match o with|none=>false|some b=>Zd (H1 b a>=0))
abbrev YF:Nat×D:=(1,.ref (.ptr 0 0))
abbrev zcX(a:bv)(b:D)(c d:Int):AS:={t:=Ue 61 0 [YF,(2,SW 0),(10,ab a),(11,b),(12,SW c)],h:=[.var [SW d,ab a]],m:=[]}
abbrev rkS(st:Int)(as_:bv)(i:Int):AS:=(zcX as_ (SW as_.length) i st)
abbrev rkX:Unit->Exit×AS:=λ_=>(.ret,{t:=Ue 61 0 [(2,SW 150)],h:=[],m:=[]})
def rkF(p:Option Uj×Uj)(_:Unit):Unit⊕Unit:=bif lW p.1 p.2 then .inr () else .inl ()
theorem rk0{x:Bool}:(!(Zd (a.T5>=0)&&Zd (a.T5<=4095))||!(Zd (a.T4>=0)&&Zd (a.T4<=1023))||!(Zd (a.Uf>=0)&&Zd (a.Uf<=12))||!(Zd (a.UK>=0)&&Zd (a.UK<=6))||!(Zd (a.To>=0)&&Zd (a.To<=60))||Zd ((0:Int)>0)&&x)=lW none a:=by simp[lW,KO,Xl]
theorem rk1:(!(Zd (a.T5>=0)&&Zd (a.T5<=4095))||!(Zd (a.T4>=0)&&Zd (a.T4<=1023))||!(Zd (a.Uf>=0)&&Zd (a.Uf<=12))||!(Zd (a.UK>=0)&&Zd (a.UK<=6))||!(Zd (a.To>=0)&&Zd (a.To<=60))||Zd (((i+1:Nat):Int)>0)&&Zd (orI (br b.T4 a.T4) (br b.T5 a.T5)>=0))=lW (some b) a:=by
 have:Zd (((i+1:Nat):Int)>0)=true:=decide_eq_true (by omega)
 rw[this]
 simp[lW,KO,Xl,H1]
noncomputable abbrev bo(st:Int)(l:iF)(a:Uj):aT:=[.var [SW st,ab (MK MQ l)],.var (Zf a)]
abbrev Zq(b:Uj):Bool:=(!(Zd (b.T5>=0)&&Zd (b.T5<=4095))||!(Zd (b.T4>=0)&&Zd (b.T4<=1023))||!(Zd (b.Uf>=0)&&Zd (b.Uf<=12))||!(Zd (b.UK>=0)&&Zd (b.UK<=6))||!(Zd (b.To>=0)&&Zd (b.To<=60)))
abbrev ZF(c d:Uj)(e:Bool):BY:=[.b true,.row (MQ c),.val (T6 (Zd (c.T5>=0)&&Zd (c.T5<=4095))),.val (zcr c.T4 1023),.val (zcr c.Uf 12),.val (zcr c.UK 6),.val (zcr c.To 60),.row (MQ d),.val (SW (orI (br d.T4 c.T4) (br d.T5 c.T5))),.b e]
abbrev Yo(b:Uj):Bool:=(!(!(Zd (b.T5>=0)&&Zd (b.T5<=4095))||!(Zd (b.T4>=0)&&Zd (b.T4<=1023))||!(Zd (b.Uf>=0)&&Zd (b.Uf<=12))||!(Zd (b.UK>=0)&&Zd (b.UK<=6))))
abbrev YQ(b:Uj):Bool:=(!(!(Zd (b.T5>=0)&&Zd (b.T5<=4095))||!(Zd (b.T4>=0)&&Zd (b.T4<=1023))||!(Zd (b.Uf>=0)&&Zd (b.Uf<=12))))
abbrev Xk(a:iF):D:=SW (↑(MO (MK MQ a)):Int)
abbrev Wm(a:Int):AS:={t:=Ue 61 0 [(2,SW a)],h:=[],m:=[]}
theorem Gp{l:iF}(hr:ax 0 (l.map MQ) a.row 5)(U8:Zd ((0:Int)<((l.map MQ).length:Int))=true):(CW MJ U2 [] false (sub SC 0) (rkS st (l.map MQ) 0) (ad (λ_=>rkS st (l.map MQ) 1) rkX (rkF (none,a) ())).1 (ad (λ_=>rkS st (l.map MQ) 1) rkX (rkF (none,a) ())).2):=by
 cases U5:!(Zd (a.T5>=0)&&Zd (a.T5<=4095))||!(Zd (a.T4>=0)&&Zd (a.T4<=1023))||!(Zd (a.Uf>=0)&&Zd (a.Uf<=12))||!(Zd (a.UK>=0)&&Zd (a.UK<=6))||!(Zd (a.To>=0)&&Zd (a.To<=60))||Zd (0>0)&&Zd (orI (br (Nb l (MU (MN ML (0-1))) default).T4 a.T4) (br (Nb l (MU (MN ML (0-1))) default).T5 a.T5)>=0)
 ·let v0:=Nb l (MU (MN ML (0-1))) default
  refine zX (zcX (MK MQ l) (Xk l) (MN ML (0+1)) st) M6 [.st (.mask [1,2,10,11,12]),.st (.trim 1)] (ZF a v0 false) (.c U8 (.c hr (.c (@bG (a.T5) 0 4095 (bo st l a)) (.c (gd (!!(Zd (a.T5>=0)&&Zd (a.T5<=4095))) (@bG (a.T4) 0 1023 (bo st l a))) (.c (gd (!(!(Zd (a.T5>=0)&&Zd (a.T5<=4095))||!(Zd (a.T4>=0)&&Zd (a.T4<=1023)))) (@bG (a.Uf) 0 12 (bo st l a))) (.c (gd (YQ a) (@bG (a.UK) 0 6 (bo st l a))) (.c (gd (Yo a) (@bG (a.To) 0 60 (bo st l a))) (.c (show(!(Zq a)&&Zd (0>0))=true->ax (MN ML (0-1)) (MK MQ l) (MQ v0) 5 from(λhg=>(by subst v0;first|assumption|rfl|(exfalso;simp at hg;done)|(simp_all;done)))) (.c (gd (!(Zq a)&&Zd (0>0)) (@kp v0 a (bo st l a))) (.c U5 .n)))))))))) ?_ ?_<;>subst v0<;>(first|(have hh:lW none a=true:=rk0.symm.trans U5;simp only[rkF,hh,cond_true];first|done|rfl)|(have hh:lW none a=false:=rk0.symm.trans U5;simp only[rkF,hh,cond_false];first|done|rfl))
 ·let v0:=Nb l (MU (MN ML (0-1))) default
  refine zX (Wm 150) Oq (YV [2] 0) (ZF a v0 true) (.c U8 (.c hr (.c (@bG (a.T5) 0 4095 (bo st l a)) (.c (gd (!!(Zd (a.T5>=0)&&Zd (a.T5<=4095))) (@bG (a.T4) 0 1023 (bo st l a))) (.c (gd (!(!(Zd (a.T5>=0)&&Zd (a.T5<=4095))||!(Zd (a.T4>=0)&&Zd (a.T4<=1023)))) (@bG (a.Uf) 0 12 (bo st l a))) (.c (gd (YQ a) (@bG (a.UK) 0 6 (bo st l a))) (.c (gd (Yo a) (@bG (a.To) 0 60 (bo st l a))) (.c (show(!(Zq a)&&Zd (0>0))=true->ax (MN ML (0-1)) (MK MQ l) (MQ v0) 5 from(λhg=>(by subst v0;first|assumption|rfl|(exfalso;simp at hg;done)|(simp_all;done)))) (.c (gd (!(Zq a)&&Zd (0>0)) (@kp v0 a (bo st l a))) (.c U5 .n)))))))))) ?_ ?_<;>subst v0<;>(first|(have hh:lW none a=true:=rk0.symm.trans U5;simp only[rkF,hh,cond_true];first|done|rfl)|(have hh:lW none a=false:=rk0.symm.trans U5;simp only[rkF,hh,cond_false];first|done|rfl))
noncomputable abbrev bp(st:Int)(as_:bv)(a:Uj):aT:=[.var [SW st,ab as_],.var (Zf a)]
theorem Gq(hr:ax ((i+1:Nat):Int) as_ a.row 5)(hb:ax (ML.wrap (((i+1:Nat):Int)-1)) as_ b.row 5)(U8:Zd (((i+1:Nat):Int)<(as_.length:Int))=true)(hw:ML.wrap (((i+1:Nat):Int)+1)=((i+1+1:Nat):Int)):(CW MJ U2 [] false (sub SC 0) (rkS st as_ ((i+1:Nat):Int)) (ad (λ_=>rkS st as_ ((i+1+1:Nat):Int)) rkX (rkF (some b,a) ())).1 (ad (λ_=>rkS st as_ ((i+1+1:Nat):Int)) rkX (rkF (some b,a) ())).2):=by
 cases U5:!(Zd (a.T5>=0)&&Zd (a.T5<=4095))||!(Zd (a.T4>=0)&&Zd (a.T4<=1023))||!(Zd (a.Uf>=0)&&Zd (a.Uf<=12))||!(Zd (a.UK>=0)&&Zd (a.UK<=6))||!(Zd (a.To>=0)&&Zd (a.To<=60))||Zd ((↑(i+1):Int)>0)&&Zd (orI (br b.T4 a.T4) (br b.T5 a.T5)>=0)
 ·refine zX (zcX as_ (SW (↑(MO as_):Int)) (MN ML ((↑(i+1):Int)+1)) st) M6 [.st (.mask [1,2,10,11,12]),.st (.trim 1)] (ZF a b false) (.c U8 (.c hr (.c (@bG (a.T5) 0 4095 (bp st as_ a)) (.c (gd (!!(Zd (a.T5>=0)&&Zd (a.T5<=4095))) (@bG (a.T4) 0 1023 (bp st as_ a))) (.c (gd (!(!(Zd (a.T5>=0)&&Zd (a.T5<=4095))||!(Zd (a.T4>=0)&&Zd (a.T4<=1023)))) (@bG (a.Uf) 0 12 (bp st as_ a))) (.c (gd (YQ a) (@bG (a.UK) 0 6 (bp st as_ a))) (.c (gd (Yo a) (@bG (a.To) 0 60 (bp st as_ a))) (.c (show(!(Zq a)&&Zd ((↑(i+1):Int)>0))=true->ax (MN ML ((↑(i+1):Int)-1)) as_ (MQ b) 5 from(λhg=>hb)) (.c (gd (!(Zq a)&&Zd ((↑(i+1):Int)>0)) (@kp b a (bp st as_ a))) (.c U5 .n)))))))))) ?_ ?_<;>(first|(have hh:lW (some b) a=true:=(rk1 (i:=i)).symm.trans U5;simp only[rkF,hh,cond_true];first|done|rfl)|(have hh:lW (some b) a=false:=(rk1 (i:=i)).symm.trans U5;simp only[rkF,hh,cond_false];first|done|rfl|(rw[hw];rfl)))
 ·refine zX (Wm 150) Oq (YV [2] 0) (ZF a b true) (.c U8 (.c hr (.c (@bG (a.T5) 0 4095 (bp st as_ a)) (.c (gd (!!(Zd (a.T5>=0)&&Zd (a.T5<=4095))) (@bG (a.T4) 0 1023 (bp st as_ a))) (.c (gd (!(!(Zd (a.T5>=0)&&Zd (a.T5<=4095))||!(Zd (a.T4>=0)&&Zd (a.T4<=1023)))) (@bG (a.Uf) 0 12 (bp st as_ a))) (.c (gd (YQ a) (@bG (a.UK) 0 6 (bp st as_ a))) (.c (gd (Yo a) (@bG (a.To) 0 60 (bp st as_ a))) (.c (show(!(Zq a)&&Zd ((↑(i+1):Int)>0))=true->ax (MN ML ((↑(i+1):Int)-1)) as_ (MQ b) 5 from(λhg=>hb)) (.c (gd (!(Zq a)&&Zd ((↑(i+1):Int)>0)) (@kp b a (bp st as_ a))) (.c U5 .n)))))))))) ?_ ?_<;>(first|(have hh:lW (some b) a=true:=(rk1 (i:=i)).symm.trans U5;simp only[rkF,hh,cond_true];first|done|rfl)|(have hh:lW (some b) a=false:=(rk1 (i:=i)).symm.trans U5;simp only[rkF,hh,cond_false];first|done|rfl|(rw[hw];rfl)))
theorem KP(U8:Zd ((i:Int)<(as_.length:Int))=false):(CW MJ U2 [] false (sub SC 0) (rkS st as_ i) (.exit 0) (Wm 0)):=by
 exact zx (YV [2] 0) [.b false] (.c U8 .n)
def sQ(l:iF):List (Option Uj×Uj):=(none::l.map some).zip l
def KQ(l:iF):Exit×AS:=bJ (.exit 0) (λ_:Unit=>(Wm 0)) rkX (UD rkF (sQ l) ())
theorem rk_cw{st:Int}{l:iF}(hl:am l):
  CW MJ U2 [] false (.loop (sub SC 0)) (rkS st (l.map MQ) 0) (KQ l).1 (KQ l).2:=by
 have hlen:(sQ l).length=l.length:=by simp[sQ]
 have:=PU (P:=MJ) (Γ:=U2) (h0:=[]) (rd:=false) (c:=sub SC 0) (sQ l) rkF (λi _=>rkS st (l.map MQ) (i:Int)) (.exit 0) (λ_:Unit=>(Wm 0)) rkX (λ_ _=>True) (by simp) (λ_=>by simp) ?_ ?_ () trivial
 ·exact this
 ·intro i p u hp _
  obtain⟨hi,he⟩:=MR.1 hp
  rw[hlen] at hi
  have h2:l[i]? = some p.2:=by subst he;simp[sQ,Nd hi]
  refine⟨λ_ _=>trivial,?_⟩
  obtain⟨o,a⟩:=p
  cases i with
  | zero =>
   have ho:o=none:=by have:=congrArg Prod.fst he;simpa[sQ] using this.symm
   subst ho
   exact Gp (rowAt h2 rfl) (UO MQ hi)
  | succ i =>
   have h1:l[i]? = some (l[i]'(by omega)):=Nd _
   have ho:o=some (l[i]'(by omega)):=by have:=congrArg Prod.fst he;simpa[sQ] using this.symm
   subst ho
   refine Gq (rowAt h2 rfl) ?_ (UO MQ hi) (Uo hi hl)
   have:ML.wrap (((i+1:Nat):Int)-1)=(i:Int):=by
    have:=hl;unfold am at this
    rw[wrap_i64 (by omega) (by omega)];omega
   rw[this]
   exact rowAt h1 rfl
 ·intro u _
  rw[hlen]
  exact KP (bl MQ l)
def cW(r:UW):Int:=bif !(Zd (r.st>=0)&&Zd (r.st<=19999)) then 150 else match UD rkF (sQ r.a) () with | .inl _=>0 | .inr _=>150
abbrev Z6(b:UW):bY:=[SW b.st,ab (MK MQ b.a)]
theorem lX{r:UW}(hl:am r.a)(h:aT):(Ev MJ U2 64 [.agg r.l] h (SW (cW r)) h):=by
 cases U5:!(Zd (r.st>=0)&&Zd (r.st<=19999))
 ·have hl1:=(@rk_cw (r.st) (r.a) (hl))
  unfold KQ at hl1
  revert hl1
  cases ho2:UD rkF (sQ r.a) () with
  | inl zlS =>
   intro hl1
   exact zD (SW 0) [.val (Yt r.st 0 19999),.b false,.sum [1,2,10,11,12] (NR 0) (Wm 0)] (.c (@bG (r.st) 0 19999 ([.var (Z6 r)])) (.c U5 (.c hl1 .n))) h (by simp only[cW,U5,ho2,cond_false])
  | inr zlR =>
   intro hl1
   exact zD (SW 150) [.val (Yt r.st 0 19999),.b false,.sum [1,2,10,11,12] (Oq) (Wm 150)] (.c (@bG (r.st) 0 19999 ([.var (Z6 r)])) (.c U5 (.c hl1 .n))) h (by simp only[cW,U5,ho2,cond_false])
 ·exact zD (SW 150) [.val (Yt r.st 0 19999),.b true] (.c (@bG (r.st) 0 19999 ([.var (Z6 r)])) (.c U5 .n)) h (by simp only[cW,U5,cond_true])
abbrev IM:=List (Int×Int)
def bK:Nat->IM->List (D×D×Nat)
 | _,[]=>[]
 | j,(k,v)::l=>(SW k,SW v,j)::bK (j+1) l
def imB(l:IM):Uc:=.map (bK 0 l) l.length
def U4:IM->Int->If
 | [],_=>none
 | (a,v)::l,k=>if a=k then some v else U4 l k
def bb:IM->Int->Int->IM
 | [],k,v=>[(k,v)]
 | (a,x)::l,k,v=>if a=k then (k,v)::l else (a,x)::bb l k v
theorem vr(l:IM)(k v k':Int):U4 (bb l k v) k'=if k=k' then some v else U4 l k':=by
 induction l with
 | nil=>simp[bb,U4]
 | cons e l ih =>
  obtain⟨a,x⟩:=e
  unfold bb
  by_cases h:a=k
  ·subst h
   simp only[if_true,U4]
   by_cases h2:a=k'<;>simp[h2]
  ·simp only[h,if_false,U4,ih]
   by_cases h2:a=k'
   ·subst h2;simp[Ne.symm h]
   ·simp[h2]
def Ek:IM->Int->Nat->Option (Nat×D)
 | [],_,_=>none
 | (a,v)::l,k,i=>if a=k then some (i,SW v) else Ek l k (i+1)
theorem pv(k:Int):∀(l:IM) (j i:Nat),eM (SW k) (bK j l) i=some (Ek l k i)
 | [],_,_=>rfl
 | (a,v)::l,j,i=>by
  simp only[bK,eM,Ek]
  by_cases h:a=k
  ·subst h;simp[mL]
  ·have:mL (SW k) (SW a)=some false:=by
    have h2:¬k=a:=λe=>h e.symm
    simp[mL,h2]
   rw[this]
   simp only[h,if_false]
   exact pv k l (j+1) (i+1)
theorem pw:∀{l:IM} {i:Nat},Ek l k i=none->U4 l k=none/\∀v,bb l k v=l++[(k,v)]
 | [],_,_=>by simp[U4,bb]
 | (a,x)::l,i,h=>by
  unfold Ek at h
  split at h
  ·simp at h
  ·rename_i Μ
   obtain⟨h1,h2⟩:=pw h
   simp only[U4,bb,Μ,if_false,h1,true_and]
   intro v;rw[h2];rfl
theorem py:∀{l:IM} {i j n:Nat} {d:D},Ek l k i=some (n,d)->∃v,d=SW v/\U4 l k=some v/\i<=n/\((bK j l)[n-i]?).map (λe=>e.2.2)=some (j+(n-i))/\∀x,bK j (bb l k x)=(bK j l).set (n-i) (SW k,SW x,j+(n-i))/\(bb l k x).length=l.length
 | [],_,_,_,_,h=>by simp[Ek] at h
 | (a,x)::l,i,j,n,d,h=>by
  unfold Ek at h
  split at h
  ·rename_i ha
   simp only[MM,Prod.mk.injEq] at h
   obtain⟨rfl,rfl⟩:=h
   exact⟨x,rfl,by simp[U4,ha],Nat.le_refl _,by simp[bK],λy=>by simp[bb,ha,bK]⟩
  ·rename_i ha
   obtain⟨v,h1,h2,h3,h4,h5⟩:=py (j:=j+1) h
   have e:n-i=(n-(i+1))+1:=by omega
   refine⟨v,h1,by simp[U4,ha,h2],by omega,?_,λy=>?_⟩
   ·rw[e];simp only[bK,List.getElem?_cons_succ,h4];congr 1;omega
   ·obtain⟨h6,h7⟩:=h5 y
    simp only[bb,ha,if_false,bK,h6]
    rw[e,List.set_cons_succ]
    refine⟨?_,by simp[h7]⟩
    rw[show j+1+(n-(i+1))=j+(n-(i+1)+1) by omega]
abbrev zaX(a:IM)(b:Int):bY:=[SW ((U4 a b).getD 0),T6 (U4 a b).isSome]
theorem vt{b:Nat}{l:IM}(hk:ed P kt (SW c)=true)(ht:P.underlying t=some (.map kt et))(hz:jm P et=some (.int .i64 0))(hb:h[b]? = some (imB l)):
  aM P h t (.ref (.mp b)) (SW c) true=some (.UI [SW ((U4 l c).getD 0),T6 (U4 l c).isSome]):=by
 unfold aM
 simp only[ht,rL,hb,imB,hk,if_true,hz,pv]
 cases hi:Ek l c 0 with
 | none =>
  rw[(pw hi).1];rfl
 | some p =>
  obtain⟨n,d⟩:=p
  obtain⟨v,rfl,h2,_⟩:=py (j:=0) hi
  rw[h2];rfl
theorem yP(k v:Int):∀(l:IM) (j:Nat),bK j (l++[(k,v)])=bK j l++[(SW k,SW v,j+l.length)]
 | [],j=>by simp[bK]
 | (a,x)::l,j=>by
  simp only[List.cons_append,bK,yP k v l (j+1),Nq]
  rw[show j+1+l.length=j+(l.length+1) by omega]
theorem vu{b:Nat}{l:IM}(hk:ed P kt (SW c)=true)(ht:P.underlying t=some (.map kt et))(hb:h[b]? = some (imB l)):
  aO P h t (zbb b) (SW c) (SW v)=some (h.set b (imB (bb l c v))):=by
 unfold aO
 simp only[ht,hb,imB,hk,if_true,pv]
 cases hi:Ek l c 0 with
 | none =>
  simp only[(pw hi).2 v,yP]
  simp
 | some p =>
  obtain⟨n,d⟩:=p
  obtain⟨x,rfl,_,_,h4,h5⟩:=py (j:=0) hi
  obtain⟨h6,h7⟩:=h5 v
  simp only[Nat.sub_zero,Nat.zero_add] at h4 h6
  cases hn:(bK 0 l)[n]? with
  | none=>rw[hn] at h4;simp at h4
  | some e =>
   rw[hn] at h4
   obtain⟨e1,e2,e3⟩:=e
   simp only[Option.map_some,MM] at h4
   subst h4
   simp only[h6,h7]
   rw[hn]
theorem sR(f:Ref->D):∀(l:IM) (j:Nat),(bK j l).map (λe=>(D.UG f e.1,D.UG f e.2.1,e.2.2))=bK j l
 | [],_=>rfl
 | (a,x)::l,j=>by simp only[bK,List.map_cons,sR f l (j+1)];rfl
theorem yQ(n:Nat):∀(l:IM) (j:Nat),((bK j l).all λe=>D.inn n e.1&&D.inn n e.2.1)=true
 | [],_=>rfl
 | (a,x)::l,j=>by simp only[bK,List.all_cons,yQ n l (j+1)];rfl
theorem iC{n:Nat}{l:IM}:MY n (imB l)=true:=yQ n l 0
theorem C8{l:iF}(h:aT):∀c∈l,Iv MJ U2 (.p (Wl 138)) [ag c.row] h (T6 (!zP c)) h:=λc _=>Iv.of (f:=138) (fi:=[]) (ca:=[]) UR (by kernel_rfl) (by kernel_rfl) (BX h)
def dN(l:iF):Int:=bif l.any (λa=>!zP a) then 150 else 0
abbrev Wr(a:iF):bY:=[ab (a.map MQ)]
theorem Gr{l:iF}(hl:am l)(hf:∀c∈l,Iv MJ U2 (.p (Wl 138)) [ag c.row] [] (T6 (!zP c)) [])(h:aT):(Ev MJ U2 73 (Wr l) h (SW (dN l)) h):=by
 cases U5:QI l λc=>!zP c
 ·exact zD (SW 0) [.val (T6 (QI l λc=>!zP c)),.b false] (.c (@HM l hl (fq 138) ([]) (λc=>!zP c) hf) (.c U5 .n)) h (by simp only[dN,U5,cond_false])
 ·exact zD (SW 150) [.val (T6 (QI l λc=>!zP c)),.b true] (.c (@HM l hl (fq 138) ([]) (λc=>!zP c) hf) (.c U5 .n)) h (by simp only[dN,U5,cond_true])
theorem dZ{l:iF}(hl:am l)(h:aT):Ev MJ U2 73 (Wr l) h (SW (dN l)) h:=Gr hl (C8 []) h
theorem C9{a b:Uj}(h:aT):(Ev MJ U2 207 [ag a.row,ag b.row] h (T6 (Zd (a.Uf>b.Uf)||(a.Uf==b.Uf&&Zd (a.T4<b.T4)))) h):=by
 exact z0 [] .n h
theorem Da{a b:Uj}(h:aT):(Ev MJ U2 208 [ag a.row,ag b.row] h (T6 (Zd (a.T4>=b.T4))) h):=by
 exact z0 [] .n h
abbrev Db:bY:=[T6 true,fnv 207,T6 true,fnv 208,T6 false,lit .nilFunc]
theorem yR(h:aT):(Ev MJ U2 168 [] h (.agg Db) h):=by
 exact z0 [] .n h
abbrev aW(l:bV):bv:=l.map λn=>[vi n]
structure UA where
 nm:ByteArray
 To:Int
 Uf:Int
 home:Bool
 names:bv
 U3:bV
 deriving Inhabited
def UA.row(q:UA):dO:=[vs q.nm,vi q.To,vi q.Uf,.v (.bool q.home),.sl q.names,.sl (aW q.U3)]
structure TO where
 nm:ByteArray
 number:Int
 UC:Int
 UL:Int
 num:Int
 den:Int
 reqs:List UA
 deriving Inhabited
variable {ps:List TO}
abbrev zcO(c:TO)(d:D):bY:=[ak c.nm,SW c.number,SW c.UC,SW c.UL,SW c.num,SW c.den,d]
abbrev Zb(a:TO)(b:bv):bY:=(zcO a (ab b))
def TO.l(p:TO):bY:=(Zb p (p.reqs.map UA.row))
structure UA.ok (q:UA):Prop where
 sf:am q.U3
structure TO.ok (p:TO):Prop where
 sr:am p.reqs
 rq:∀q∈p.reqs,q.ok
 nm:κ p.num
 dn:κ p.den
def xiF(p:Int->Bool)(c:Int)(s:Nat):Nat⊕Nat:=if p c=true then .inr s else .inl (s+1)
abbrev xiS(fs:bv)(f:D)(h:aT)(i:Int):AS:=(WM fs f i h)
abbrev xiX(h:aT):Nat->Exit×AS:=λk=>(.ret,{t:=Ue 19 0 [(4,SW (k:Int))],h:=h,m:=[]})
theorem KR{p:Int->Bool}(hr:ax (i:Int) fs [vi c] 1)(U8:Zd ((i:Int)<(fs.length:Int))=true)(hw:ML.wrap ((i:Int)+1)=((i+1:Nat):Int))(hi:Iv MJ U2 f [SW c] h (T6 (p c)) h):(CW MJ U2 h false (sub Tryz.f111 0) (xiS fs f h i) (ad (λ_=>xiS fs f h ((i+1:Nat):Int)) (xiX h) (xiF p c i)).1 (ad (λ_=>xiS fs f h ((i+1:Nat):Int)) (xiX h) (xiF p c i)).2):=by
 cases U5:p c
 ·refine zX {t:=Ue 19 0 [(0,ab fs),(1,f),(4,SW 0),(7,SW (↑(MO fs):Int)),(8,SW (MN ML ((↑i:Int)+1)))],h:=h,m:=[]} M6 [.st (.mask [0,1,4,7,8])] [.b true,.row [vi c],.zhY (T6 (p c)),.b false] (.c U8 (.c hr (.c (@hi) (.c U5 .n)))) ?_ ?_<;>(simp[xiF,ad, *])
 ·refine zX {t:=Ue 19 0 [(4,SW (↑i:Int))],h:=h,m:=[]} Oq [.st (.mask [4])] [.b true,.row [vi c],.zhY (T6 (p c)),.b true] (.c U8 (.c hr (.c (@hi) (.c U5 .n)))) ?_ ?_<;>(simp[xiF,ad, *])
theorem KS(U8:Zd ((i:Int)<(fs.length:Int))=false):(CW MJ U2 h false (sub Tryz.f111 0) (xiS fs f h i) (.exit 0) (Y6 h)):=by
 exact zx WH [.b false] (.c U8 .n)
def xiR(p:Int->Bool)(l:bV):Int:=match UD (xiF p) l 0 with | .inl _ => -1 | .inr k=>(k:Int)
def KT(h:aT)(p:Int->Bool)(l:bV):Exit×AS:=bJ (.exit 0) (λ_:Nat=>(Y6 h)) (xiX h) (UD (xiF p) l 0)
theorem xi_cw{l:bV}(hl:am l){f:D}{h:aT}{p:Int->Bool}(hf:∀c∈l,Iv MJ U2 f [SW c] h (T6 (p c)) h):
  CW MJ U2 h false (.loop (sub Tryz.f111 0)) (xiS (l.map (λn:Int=>[vi n])) f h 0) (KT h p l).1 (KT h p l).2:=by
 refine PU l (xiF p) (λi _=>xiS (l.map (λn:Int=>[vi n])) f h (i:Int)) (.exit 0) _ (xiX h) (λi s=>s=i) (by simp) (λ_=>by simp) ?_ ?_ 0 rfl
 ·intro i c s hc hs
  subst hs
  have hi:=(MR.1 hc).1
  refine⟨λs' h=>?_,KR (rowAt (row:=(λn:Int=>[vi n])) hc rfl) (UO (λn:Int=>[vi n]) hi) (Uo hi hl) (hf c (NX hc))⟩
  unfold xiF at h
  split at h<;>simp at h
  exact h.symm
 ·intro s hs
  exact KS (bl (λn:Int=>[vi n]) l)
theorem xii_ev{l:bV}(hl:am l){f:D}{h:aT}{p:Int->Bool}(hf:∀c∈l,Iv MJ U2 f [SW c] h (T6 (p c)) h):(Ev MJ U2 111 [ab (l.map (λn:Int=>[vi n])),f] h (SW (xiR p l)) h):=by
 have UE:=(@xi_cw (l) (hl) (f) (h) (p) (hf))
 unfold KT at UE
 revert UE
 cases ho1:UD (xiF p) l 0 with
 | inl zeL =>
  intro UE
  exact Na (Oc (h':=h) (d:=SW (-1)) UR (YI (NR 0) 0 h) (by kernel_rfl) (.c UE .n)) (by simp[xiR,ho1]) (by simp[])
 | inr Ζ =>
  intro UE
  exact Na (Oc (h':=h) (d:=(ZO Ζ)) UR (zcD Oq (ZO Ζ) h) (by kernel_rfl) (.c UE .n)) (by simp[xiR,ho1]) (by simp[])
theorem H2(p:Int->Bool)(l:bV):Zd (xiR p l>=0)=l.any p:=by
 have key:∀(l:bV) (s:Nat),(match UD (xiF p) l s with | .inl _=>false | .inr _=>true)=l.any p:=by
  intro l
  induction l with
  | nil=>intro s;rfl
  | cons c l ih =>
   intro s
   simp only[UD,xiF,SR]
   by_cases hp:p c=true
   ·simp[hp]
   ·simp only[hp,PT]
    exact ih (s+1)
 rw[<-key l 0]
 unfold xiR
 cases UD (xiF p) l 0<;>simp
theorem H3{l:bV}(hl:am l){f:D}{h:aT}{p:Int->Bool}(hf:∀c∈l,Iv MJ U2 f [SW c] h (T6 (p c)) h):(Ev MJ U2 52 [ab (l.map (λn:Int=>[vi n])),f] h (T6 (l.any p)) h):=by
 refine Na (Oc (h':=h) (d:=T6 (Zd (xiR p l>=0))) UR [.val (SW (xiR p l))] (by kernel_rfl) (.c (@xii_ev l hl f h p hf) .n)) ?_ ?_<;>(first|rfl|rw[<-H2])
abbrev ixS(fs:bv)(v:Int)(i:Int):AS:=(zb6 19 [(0,ab fs),(1,SW v),(4,SW 0),(7,SW fs.length),(8,SW i)] [])
abbrev ixX:Nat->Exit×AS:=λk=>(.ret,{t:=Ue 19 0 [(4,SW (k:Int))],h:=[],m:=[]})
theorem KU(hr:ax (i:Int) fs [vi c] 1)(U8:Zd ((i:Int)<(fs.length:Int))=true)(hw:ML.wrap ((i:Int)+1)=((i+1:Nat):Int)):(CW MJ U2 [] false (sub Tryz.f159 0) (ixS fs v i) (ad (λ_=>ixS fs v ((i+1:Nat):Int)) ixX (xiF (λc=>v==c) c i)).1 (ad (λ_=>ixS fs v ((i+1:Nat):Int)) ixX (xiF (λc=>v==c) c i)).2):=by
 cases U5:v==c
 ·exact zX {t:=Ue 19 0 [(0,ab fs),(1,SW v),(4,SW 0),(7,SW (↑(MO fs):Int)),(8,SW (MN ML ((↑i:Int)+1)))],h:=[],m:=[]} M6 [.st (.mask [0,1,4,7,8])] [.b true,.row [vi c],.b false] (.c U8 (.c hr (.c U5 .n))) (by simp only[xiF,U5,ad];first|done|rfl) (by simp only[xiF,U5,ad,hw];first|done|rfl)
 ·refine zX {t:=Ue 19 0 [(4,SW (↑i:Int))],h:=[],m:=[]} Oq [.st (.mask [4])] [.b true,.row [vi c],.b true] (.c U8 (.c hr (.c U5 .n))) ?_ ?_<;>(simp only[xiF,U5,ad];first|done|rfl)
theorem KV(U8:Zd ((i:Int)<(fs.length:Int))=false):(CW MJ U2 [] false (sub Tryz.f159 0) (ixS fs v i) (.exit 0) (zb6 19 [(4,SW 0)] [])):=by
 exact zx WH [.b false] (.c U8 .n)
def KW(v:Int)(l:bV):Exit×AS:=bJ (.exit 0) (λ_:Nat=>(zb6 19 [(4,SW 0)] [])) ixX (UD (xiF (λc=>v==c)) l 0)
theorem ix_cw{l:bV}(hl:am l){v:Int}:
  CW MJ U2 [] false (.loop (sub Tryz.f159 0)) (ixS (aW l) v 0) (KW v l).1 (KW v l).2:=by
 refine PU l (xiF (λc=>v==c)) (λi _=>ixS (aW l) v (i:Int)) (.exit 0) _ ixX (λi s=>s=i) (by simp) (λ_=>by simp) ?_ ?_ 0 rfl
 ·intro i c s hc hs
  subst hs
  have hi:=(MR.1 hc).1
  refine⟨λs' h=>?_,KU (rowAt (row:=λn:Int=>[vi n]) hc rfl) (UO (λn:Int=>[vi n]) hi) (Uo hi hl)⟩
  unfold xiF at h
  split at h<;>simp at h
  exact h.symm
 ·intro s hs
  exact KV (bl (λn:Int=>[vi n]) l)
theorem Gs{l:bV}(hl:am l){v:Int}(h:aT):(Ev MJ U2 159 [ab (aW l),SW v] h (SW (xiR (λc=>v==c) l)) h):=by
 have UE:=(@ix_cw (l) (hl) (v))
 unfold KW at UE
 revert UE
 cases ho1:UD (xiF λc=>v==c) l 0 with
 | inl zeL =>
  intro UE
  exact zD (SW (-1)) (YI (NR 0) 0 []) (.c UE .n) h (by simp[xiR,ho1])
 | inr Ζ =>
  intro UE
  exact zD (ZO Ζ) (zcD Oq (ZO Ζ) []) (.c UE .n) h (by simp[xiR,ho1])
theorem Gt(l:bV)(v:Int):l.any (λc=>v==c)=l.contains v:=by
 induction l with
 | nil=>rfl
 | cons a l ih=>rw[SR,List.contains_cons,ih]
theorem As{l:bV}(hl:am l)(h:aT):(Ev MJ U2 113 [ab (aW l),SW v] h (T6 (Zd (xiR (λc=>v==c) l>=0))) h):=by
 exact z0 [.val (SW (xiR (λc=>v==c) l))] (.c (@Gs l hl v ([])) .n) h
theorem w7{l:bV}(hl:am l){v:Int}(h:aT):Ev MJ U2 113 [ab (aW l),SW v] h (T6 (l.contains v)) h:=by rw[<-Gt,<-H2];exact As hl h
def xqF(p:UA->Bool)(c:UA)(s:Nat):Nat⊕Nat:=if p c=true then .inr s else .inl (s+1)
abbrev xqS(fs:bv)(f:D)(h:aT)(i:Int):AS:=(WM fs f i h)
abbrev xqX(h:aT):Nat->Exit×AS:=λk=>(.ret,{t:=Ue 19 0 [(4,SW (k:Int))],h:=h,m:=[]})
abbrev zaZ(a:UA):dO:=[vs a.nm,vi a.To,vi a.Uf,Dp.v (Value.bool a.home),OX a.names,OX (aW a.U3)]
theorem KX{c:UA}{p:UA->Bool}(hr:ax (i:Int) fs (UA.row c) 6)(U8:Zd ((i:Int)<(fs.length:Int))=true)(hw:ML.wrap ((i:Int)+1)=((i+1:Nat):Int))(hi:Iv MJ U2 f [ag (UA.row c)] h (T6 (p c)) h):(CW MJ U2 h false (sub Tryz.f194 0) (xqS fs f h i) (ad (λ_=>xqS fs f h ((i+1:Nat):Int)) (xqX h) (xqF p c i)).1 (ad (λ_=>xqS fs f h ((i+1:Nat):Int)) (xqX h) (xqF p c i)).2):=by
 cases U5:p c
 ·refine zX {t:=Ue 19 0 [(0,ab fs),(1,f),(4,SW 0),(7,SW (↑(MO fs):Int)),(8,SW (MN ML ((↑i:Int)+1)))],h:=h,m:=[]} M6 [.st (.mask [0,1,4,7,8])] [.b true,.row [vs c.nm,vi c.To,vi c.Uf,Dp.v (Value.bool c.home),OX c.names,OX (aW c.U3)],.zhY (T6 (p c)),.b false] (.c U8 (.c hr (.c (@hi) (.c U5 .n)))) ?_ ?_<;>(simp[xqF,ad, *])
 ·refine zX {t:=Ue 19 0 [(4,SW (↑i:Int))],h:=h,m:=[]} Oq [.st (.mask [4])] [.b true,.row [vs c.nm,vi c.To,vi c.Uf,Dp.v (Value.bool c.home),OX c.names,OX (aW c.U3)],.zhY (T6 (p c)),.b true] (.c U8 (.c hr (.c (@hi) (.c U5 .n)))) ?_ ?_<;>(simp[xqF,ad, *])
theorem KY(U8:Zd ((i:Int)<(fs.length:Int))=false):(CW MJ U2 h false (sub Tryz.f194 0) (xqS fs f h i) (.exit 0) (Y6 h)):=by
 exact zx WH [.b false] (.c U8 .n)
def xqR(p:UA->Bool)(l:List UA):Int:=match UD (xqF p) l 0 with | .inl _ => -1 | .inr k=>(k:Int)
def KZ(h:aT)(p:UA->Bool)(l:List UA):Exit×AS:=bJ (.exit 0) (λ_:Nat=>(Y6 h)) (xqX h) (UD (xqF p) l 0)
theorem xq_cw{l:List UA}(hl:am l){f:D}{h:aT}{p:UA->Bool}(hf:∀c∈l,Iv MJ U2 f [ag (UA.row c)] h (T6 (p c)) h):
  CW MJ U2 h false (.loop (sub Tryz.f194 0)) (xqS (l.map UA.row) f h 0) (KZ h p l).1 (KZ h p l).2:=by
 refine PU l (xqF p) (λi _=>xqS (l.map UA.row) f h (i:Int)) (.exit 0) _ (xqX h) (λi s=>s=i) (by simp) (λ_=>by simp) ?_ ?_ 0 rfl
 ·intro i c s hc hs
  subst hs
  have hi:=(MR.1 hc).1
  refine⟨λs' h=>?_,KX (rowAt hc rfl) (UO UA.row hi) (Uo hi hl) (hf c (NX hc))⟩
  unfold xqF at h
  split at h<;>simp at h
  exact h.symm
 ·intro s hs
  exact KY (bl UA.row l)
theorem xqi_ev{l:List UA}(hl:am l){f:D}{h:aT}{p:UA->Bool}(hf:∀c∈l,Iv MJ U2 f [ag (UA.row c)] h (T6 (p c)) h):(Ev MJ U2 194 [ab (l.map UA.row),f] h (SW (xqR p l)) h):=by
 have UE:=(@xq_cw (l) (hl) (f) (h) (p) (hf))
 unfold KZ at UE
 revert UE
 cases ho1:UD (xqF p) l 0 with
 | inl zeL =>
  intro UE
  exact Na (Oc (h':=h) (d:=SW (-1)) UR (YI (NR 0) 0 h) (by kernel_rfl) (.c UE .n)) (by simp[xqR,ho1]) (by simp[])
 | inr Ζ =>
  intro UE
  exact Na (Oc (h':=h) (d:=(ZO Ζ)) UR (zcD Oq (ZO Ζ) h) (by kernel_rfl) (.c UE .n)) (by simp[xqR,ho1]) (by simp[])
theorem xq_any(p:UA->Bool)(l:List UA):∀k:Nat,(match UD (xqF p) l k with | .inl _=>false | .inr _=>true)=l.any p:=by
 induction l with
 | nil=>intro k;rfl
 | cons f l ih =>
  intro k
  rw[SR]
  cases hf:p f
  ·simp only[UD,xqF,hf,Bool.false_eq_true,if_false,PT]
   exact ih (k+1)
  ·simp[UD,xqF,hf]
theorem xqR_ge(p:UA->Bool)(l:List UA):Zd (xqR p l>=0)=l.any p:=by
 rw[<-xq_any p l 0,xqR]
 split<;>simp
theorem xqc_ev{l:List UA}(hl:am l){f:D}{h:aT}{p:UA->Bool}(hf:∀c∈l,Iv MJ U2 f [ag (UA.row c)] h (T6 (p c)) h):(Ev MJ U2 160 [ab (l.map UA.row),f] h (T6 (l.any p)) h):=by
 refine Na (Oc (h':=h) (d:=T6 (Zd (xqR p l>=0))) UR [.val (SW (xqR p l))] (by kernel_rfl) (.c (@xqi_ev l hl f h p hf) .n)) ?_ ?_<;>(first|rfl|rw[<-xqR_ge])
theorem Gu{n:Int}(h:aT):(Ev MJ U2 162 [SW n] h (zau n) h):=by
 exact z0 [.val (Yt n 0 4095)] (.c (@cw n 0 4095 ([])) .n) h
noncomputable abbrev pz:aT:=[.var [fq 162]]
abbrev VH:aT:=[.var [fnv 162]]
abbrev zbr(a:Int):bY:=[SW a,.ref (.ptr 0 0)]
theorem Gv:(Ev MJ U2 195 (zbr n) VH (T6 (!Xl n 0 4095)) VH):=by
 exact Na (QU (h':=pz) (d:=T6 !Xl n 0 4095) UR [.val (zau n)] (by kernel_rfl) (.c (@Gu n pz) .n)) (by rfl) (by rfl)
abbrev zag(a:Int):D:=(T6 (!Xl a 0 4095))
abbrev zdv:D:=(.fn (.func 195) [] YT)
theorem Gw{l:bV}:∀c∈l,Iv MJ U2 zdv [SW c] VH (zag c) VH:=λc hm=>Iv.of UR rfl (by kernel_rfl) Gv
noncomputable abbrev Au:aT:=[.var [fq 162]]
theorem K0{l:bV}(hl:am l)(hf:∀c∈l,Iv MJ U2 zdv [SW c] VH (zag c) VH)(h:aT):(Ev MJ U2 163 [ab (aW l),fnv 162] h (T6 (!l.any λc=>!Xl c 0 4095)) h):=by
 exact z0 [.val (T6 (QI l λc=>!Xl c 0 4095))] (.c (@H3 l hl (D.fn (M7 195) [] YT) Au (λc=>!Xl c 0 4095) hf) .n) h
def frmB(q:UA):Bool:=!q.U3.any λc=>!Xl c 0 4095
def jG(q:UA):Bool:=Xl q.To 1 10000&&Xl q.Uf 0 12&&frmB q
abbrev zdB(b:UA):bY:=[ak b.nm,SW b.To,SW b.Uf,T6 b.home,ab b.names,ab (aW b.U3)]
abbrev ZD(a:UA):bY:=(zdB a)
noncomputable abbrev lY(q:UA):aT:=[.var (ZD q)]
theorem K1{q:UA}(hc:∀c∈q.U3,Iv MJ U2 zdv [SW c] VH (zag c) VH)(hq:am q.U3)(h:aT):(Ev MJ U2 117 [ag q.row] h (T6 (jG q)) h):=by
 exact z0 [.val (Yt q.To 1 10000),.val (Yt q.Uf 0 12),.val (T6 !QI q.U3 λc=>!Xl c 0 4095)] (.c (@cw (q.To) 1 10000 (lY q)) (.c (gd (Zd (q.To>=1)&&Zd (q.To<=10000)) (@cw (q.Uf) 0 12 (lY q))) (.c (gd (Zd (q.To>=1)&&Zd (q.To<=10000)&&(Zd (q.Uf>=0)&&Zd (q.Uf<=12))) (@K0 (q.U3) hq hc (lY q))) .n))) h
noncomputable abbrev w8(q:UA):aT:=[.var [fq 117],.var (ZD q)]
abbrev Vh:aT:=[.var [fnv 117]]
theorem Gx{q:UA}(hq:am q.U3)(hc:∀c∈q.U3,Iv MJ U2 zdv [SW c] VH (zag c) VH):(Ev MJ U2 161 [ag q.row,.ref (.ptr 0 0)] Vh (T6 (!jG q)) Vh):=by
 exact Na (QU (h':=[.var [fq 117]]) (d:=T6 !jG q) UR [.val (T6 (jG q))] (by kernel_rfl) (.c (@K1 q hc hq (w8 q)) .n)) (by rfl) (by rfl)
abbrev zdg:D:=(.fn (.func 161) [] YT)
theorem yS{l:List UA}(ha:∀q∈l,q.ok):∀q∈l,Iv MJ U2 zdg [ag q.row] Vh (T6 (!jG q)) Vh:=λq hm=>Iv.of UR rfl (by kernel_rfl) (Gx (ha q hm).sf Gw)
noncomputable abbrev w9:aT:=[.var [fq 117]]
theorem Gy{l:List UA}(hl:am l)(hf:∀q∈l,Iv MJ U2 zdg [ag q.row] Vh (T6 (!jG q)) Vh)(h:aT):(Ev MJ U2 116 [ab (l.map UA.row),fnv 117] h (T6 (!l.any λq=>!jG q)) h):=by
 exact z0 [.val (T6 (QI l λq=>!jG q))] (.c (@xqc_ev l hl (D.fn (M7 161) [] YT) w9 (λq=>!jG q) hf) .n) h
abbrev Yj(a:TO)(b:Dp):dO:=[vs a.nm,vi a.number,vi a.UC,vi a.UL,vi a.num,vi a.den,b]
def TO.row(p:TO):dO:=(Yj p (.sl (p.reqs.map UA.row)))
def H4(a b:Int):Bool:=fu a b==0&&Xl a 0 (ML.wrap (12*b))
def iB(n a b:Int):Bool:=Zd (a<=n)&&Zd (n<=b)
def vv(p:TO):Bool:=iB p.number 0 255&&iB p.UC 1 4&&iB p.UL 0 10000&&H4 p.num p.den&&Zd ((p.reqs.length:Int)<=64)&&(!p.reqs.any λq=>!jG q)
abbrev zdr(a:TO):bv:=MK UA.row a.reqs
noncomputable abbrev fb(p:TO):aT:=[.var (Zb p (zdr p))]
abbrev XS(a:TO):Bool:=Zd (a.number>=0)&&Zd (a.number<=255)&&(Zd (a.UC>=1)&&Zd (a.UC<=4))&&(Zd (a.UL>=0)&&Zd (a.UL<=10000))
abbrev zdb(a:TO):Bool:=(XS a)&&(fu a.num a.den==0&&Xl a.num 0 (MN ML (12*a.den)))&&Zd ((↑(MO (MK UA.row a.reqs)):Int)<=64)
theorem Gz{p:TO}(hp:p.ok)(hf:∀q∈p.reqs,Iv MJ U2 (.fn (.func 161) [] [.ref (.ptr 0 0)]) [ag q.row] [.var [fnv 117]] (T6 (!jG q)) [.var [fnv 117]])(h:aT):(Ev MJ U2 59 [ag p.row] h (T6 (vv p)) h):=by
 refine zD (T6 (Zd (p.number>=0)&&Zd (p.number<=255)&&(Zd (p.UC>=1)&&Zd (p.UC<=4))&&(Zd (p.UL>=0)&&Zd (p.UL<=10000))&&(fu p.num p.den==0&&Xl p.num 0 (MN ML (12*p.den)))&&Zd ((↑(MO (MK UA.row p.reqs)):Int)<=64)&&!QI p.reqs λq=>!jG q)) [.val (T6 (Zd (p.number>=0)&&Zd (p.number<=255))),.val (T6 (Zd (p.UC>=1)&&Zd (p.UC<=4))),.val (T6 (Zd (p.UL>=0)&&Zd (p.UL<=10000))),.val (T6 (fu p.num p.den==0&&Xl p.num 0 (MN ML (12*p.den)))),.val (T6 !QI p.reqs λq=>!jG q)] (.c (@cw (p.number) 0 255 (fb p)) (.c (gd (Zd (p.number>=0)&&Zd (p.number<=255)) (@cw (p.UC) 1 4 (fb p))) (.c (gd (Zd (p.number>=0)&&Zd (p.number<=255)&&(Zd (p.UC>=1)&&Zd (p.UC<=4))) (@cw (p.UL) 0 10000 (fb p))) (.c (gd (Zd (p.number>=0)&&Zd (p.number<=255)&&(Zd (p.UC>=1)&&Zd (p.UC<=4))&&(Zd (p.UL>=0)&&Zd (p.UL<=10000))) (@E9 (p.num) (p.den) ?_ ?_ (fb p))) (.c (gd (Zd (p.number>=0)&&Zd (p.number<=255)&&(Zd (p.UC>=1)&&Zd (p.UC<=4))&&(Zd (p.UL>=0)&&Zd (p.UL<=10000))&&(fu p.num p.den==0&&Xl p.num 0 (MN ML (12*p.den)))&&Zd ((↑(MO (MK UA.row p.reqs)):Int)<=64)) (@Gy (p.reqs) ?_ hf (fb p))) .n))))) h (by first|rfl|simp[vv,H4,iB])<;>(first|assumption|exact hp.nm|exact hp.dn|exact hp.sr)
noncomputable abbrev xa(p:TO)(n:Int):aT:=[.var [SW n],.var (Zb p (zdr p))]
theorem GA{p:TO}(hp:p.ok)(hf:∀q∈p.reqs,Iv MJ U2 zdg [ag q.row] Vh (T6 (!jG q)) Vh):(Ev MJ Un 58 [ag p.row,.ref (.ptr 0 0)] (XQ n) (T6 (p.number==n&&vv p)) (XQ n)):=by
 exact Na (QU (h':=(XQ n)) (d:=T6 (p.number==n&&vv p)) UR [.val (T6 (vv p))] (by kernel_rfl) (.c (gd (p.number==n) (Ns (Γ':=Un) (@Gz p hp hf (xa p n)))) .n)) (by rfl) (by rfl)
def TO.zero:TO:=⟨⟨#[]⟩,0,0,0,0,0,[]⟩
theorem TO.zhe:TO.zero.ok:=⟨by simp[TO.zero,am],by simp[TO.zero],by simp[TO.zero,κ],by simp[TO.zero,κ]⟩
theorem kI{l:List TO}(h:∀x∈l,x.ok)(n:Nat):(l.getD n default).ok:=by
 rcases Nat.lt_or_ge n l.length with hn|hn
 ·rw[Nb,Nd hn];exact h _ (Qg hn)
 ·rw[Nb,List.getElem?_eq_none hn];exact TO.zhe
def ja(n:Int)(p:TO):Bool:=p.number==n&&vv p
abbrev YJ:D:=ak {data:=#[]}
abbrev zcK:bY:=[YJ,SW 0,SW 0,SW 0,SW 0,SW 0,nq]
noncomputable abbrev lp0_x0(w:T9)(n:Int):aT:=(zek n (Zi w) 3 zcK)
theorem lp0(ht:(!(Zd (T4>=0)&&Zd (T4<=1023)))=true):(Ev MJ Un 60 (zcG w (ab (ps.map TO.row)) 3 n T4 ST 58) (XQ n) (.UI [ag TO.zero.row,ab [],T6 false]) (XQ n)):=by
 exact Na (Qn (QU (h':=(XQ n)) (d:=NG [Oo zcK,nq,T6 false]) UR [.val (Yq T4),.b true] (by kernel_rfl) (.c (Ns (Γ':=Un) (@cw T4 0 1023 (lp0_x0 w n))) (.c ht .n)))) (by rfl) (by rfl)
noncomputable abbrev yT(ps:List TO)(v:Int):bY:=[Oo (Zb (Nb ps (MU v) default) (zdr (Nb ps (MU v) default))),.ref (.ptr 0 0)]
noncomputable abbrev mG(w:T9)(n:Int):aT:=[.var [SW n],.var (Zi w),.var (Zw 3 n 0),.var zcK,.U7]
noncomputable abbrev H5(w:T9)(n:Int):aT:=(zek n (Zi w) 3 zcK)
theorem lp1{b:Bool}(ht:(!(Zd (T4>=0)&&Zd (T4<=1023)))=false)(hat:∀h,Ev MJ Un 68 (atA w 3 n 0 T4 ST) h (.UI [SW v,T6 b]) h)(_:∀x∈ps,x.ok)(_:∀p∈ps,∀q∈p.reqs,Iv MJ U2 zdg [ag q.row] Vh (T6 (!jG q)) Vh)(hi:Ev MJ Un 58 [ag (ps.getD v.toNat default).row,.ref (.ptr 0 0)] (XQ n) (T6 (ja n (ps.getD v.toNat default))) (XQ n)):(Ev MJ Un 60 (zcG w (ab (ps.map TO.row)) 3 n T4 ST 58) (XQ n) (.UI [ag (iz ps (ja n) TO.zero (v,b)).1.row,ab (wO 3 n 0 T4 (ML.wrap (T4+1))),T6 (iz ps (ja n) TO.zero (v,b)).2]) (XQ n)):=by
 cases U5:!b||Zd (v<0)||Zd (v>=(↑(MO (MK TO.row ps)):Int))||!ja n (Nb ps (MU v) default)
 ·let v0:=Nb ps (MU v) default
  let v1:=(zdr v0)
  let v2:bY:=(zdz 3 n 0 T4)
  refine Na (Qn (QU (h':=(XQ n)) (d:=NG [Oo (Zb v0 v1),(zai 3 n T4),T6 true]) UR (zdu T4 3 n v b (Yj v0 (OX v1)) (T6 (ja n v0))) (by kernel_rfl) (.c (Ns (Γ':=Un) (@cw T4 0 1023 (H5 w n))) (.c ht (.er [v2] (.c (@hat (mG w n)) (.c (show(!(!b||Zd (v<0)||Zd (v>=(↑(MO (MK TO.row ps)):Int))))=true->ax v (MK TO.row ps) (Yj v0 (OX v1)) 7 from(λhg=>(by subst v0 v1 v2;first|assumption|exact kI hs _|(refine bj (λ_=>rfl) ?_ ?_<;>simp_all;done)|(simp_all;done)))) (.c (show(!(!b||Zd (v<0)||Zd (v>=(↑(MO (MK TO.row ps)):Int))))=true->Ev MJ Un 58 (yT ps v) (mG w n) (T6 (ja n v0)) (mG w n) from(λhg=>(Na (Ov (args:=(yT ps v)) (H:=(mG w n)) [0] (@hi) (by kernel_rfl) (by kernel_rfl) (by kernel_rfl) trivial trivial) (by kernel_rfl) (by kernel_rfl)))) (.c U5 (.c (show ax v (MK TO.row ps) (Yj v0 (OX v1)) 7 from(by subst v0 v1 v2;first|assumption|exact kI hs _|(refine bj (λ_=>rfl) ?_ ?_<;>simp_all;done)|(simp_all;done))) .n)))))))))) ?_ ?_<;>subst v0 v1 v2<;>(first|(have hb:em ps (ja n) (v,b)=true:=by rw[<-U5];simp[em]);simp only[iz,hb];rfl|(have hb:em ps (ja n) (v,b)=false:=by rw[<-U5];simp[em]);simp only[iz,hb];rfl|rfl)
 ·let v0:=Nb ps (MU v) default
  let v1:bY:=(zdz 3 n 0 T4)
  refine Na (Qn (QU (h':=(XQ n)) (d:=NG [Oo zcK,(zai 3 n T4),T6 false]) UR [.val (Yq T4),.b false,.nx 1,.st (.frz 4 (wO 3 n 0 T4 (MN ML (T4+1)))),.val (NG [SW v,T6 b]),.row (Yj v0 (OX (zdr v0))),.val (T6 (ja n v0)),.b true] (by kernel_rfl) (.c (Ns (Γ':=Un) (@cw T4 0 1023 (H5 w n))) (.c ht (.er [v1] (.c (@hat (mG w n)) (.c (show(!(!b||Zd (v<0)||Zd (v>=(↑(MO (MK TO.row ps)):Int))))=true->ax v (MK TO.row ps) (Yj v0 (OX (zdr v0))) 7 from(λhg=>(by subst v0 v1;first|assumption|exact kI hs _|(refine bj (λ_=>rfl) ?_ ?_<;>simp_all;done)|(simp_all;done)))) (.c (show(!(!b||Zd (v<0)||Zd (v>=(↑(MO (MK TO.row ps)):Int))))=true->Ev MJ Un 58 (yT ps v) (mG w n) (T6 (ja n v0)) (mG w n) from(λhg=>(Na (Ov (args:=(yT ps v)) (H:=(mG w n)) [0] (@hi) (by kernel_rfl) (by kernel_rfl) (by kernel_rfl) trivial trivial) (by kernel_rfl) (by kernel_rfl)))) (.c U5 .n))))))))) ?_ ?_<;>subst v0 v1<;>(first|(have hb:em ps (ja n) (v,b)=true:=by rw[<-U5];simp[em]);simp only[iz,hb];rfl|(have hb:em ps (ja n) (v,b)=false:=by rw[<-U5];simp[em]);simp only[iz,hb];rfl|rfl)
def aI(w:T9)(ps:List TO)(n T4 ST:Int):TO×Bool:=match zgK T4 with
 | true=>(TO.zero,false)
 | false=>iz ps (ja n) TO.zero (atR 3 n 0 T4 ST w.f)
theorem vp157(hs:∀x∈ps,x.ok)(k:Nat):Ev MJ Un 58 [ag (ps.getD k default).row,.ref (.ptr 0 0)] (XQ n) (T6 (ja n (ps.getD k default))) (XQ n) :=
 GA (kI hs k) (yS (kI hs k).rq)
theorem Av(hw:w.ok)(hs:∀x∈ps,x.ok):Ev MJ Un 60 (zcG w (ab (ps.map TO.row)) 3 n T4 ST 58) (XQ n) (.UI [ag (aI w ps n T4 ST).1.row,ab (kC 3 n 0 T4),T6 (aI w ps n T4 ST).2]) (XQ n):=by
 unfold aI kC
 cases ht:zgK T4 with
 | true=>exact lp0 ht
 | false=>exact lp1 ht (λh=>Ns (BW hw.sf h)) hs (λp hp=>yS (hs p hp).rq) (vp157 hs _)
noncomputable abbrev iD(w:T9)(n:Int):aT:=[.var (Zi w),.var [SW n],.var zcK]
theorem Dc{q:TO}{rd:bv}{b:Bool}(hl:Ev MJ Un 60 (zcG w (ab w.p) 3 n T4 ST 58) (XQ n) (.UI [ag q.row,ab rd,T6 b]) (XQ n))(h:aT):(Ev MJ Un 23 (Wp w n T4 ST) h (.UI [ag q.row,ab rd,T6 b]) h):=by
 let v0:=NG [Oo (Zb q (zdr q)),ab rd,T6 b]
 exact z0 [.val v0] (.c (show Ev MJ Un 60 [Oo (Oi w),ab w.p,Oo (Zw 3 n 0),SW T4,SW ST,D.fn (M7 58) [] X0] (iD w n) v0 (iD w n) from(Na (Ov (args:=[Oo (Oi w),ab w.p,Oo (Zw 3 n 0),SW T4,SW ST,D.fn (M7 58) [] X0]) (H:=(iD w n)) [1] (@hl) (by kernel_rfl) (by kernel_rfl) (by kernel_rfl) trivial trivial) (by kernel_rfl) (by kernel_rfl))) .n) h
theorem xd(hw:w.ok)(hwp:w.p=ps.map TO.row)(hs:∀x∈ps,x.ok)(h:aT):Ev MJ Un 23 (Wp w n T4 ST) h (.UI [ag (aI w ps n T4 ST).1.row,ab (kC 3 n 0 T4),T6 (aI w ps n T4 ST).2]) h :=
 Dc (hwp▸Av hw hs) h
abbrev ZP:Nat×D:=(zcj 2 0)
abbrev ctS(x:RuF)(dep n i:Int):AS:=(zb6 37 [(1,SW dep),ZP,(5,SW n),(6,SW i)] [.var x.l])
abbrev zal(a:Int):AS:={t:=Ue 37 0 [(5,SW a)],h:=[],m:=[]}
abbrev ctE(n:Int):AS:=(zal n)
noncomputable abbrev fZ(x:RuF):aT:=[.var (Zj x)]
theorem K2{y:RuF}{m:Int}(hr:ax (i:Int) x.ks y.row 6)(hc:(Zd ((i:Int)<(x.ks.length:Int))&&Zd (n<300))=true)(hw:ML.wrap ((i:Int)+1)=((i+1:Nat):Int))(hk:∀h,Ev MJ U2 114 [.agg y.l,SW (ML.wrap (dep+1))] h (SW m) h):(CW MJ U2 [] false (sub RJ 0) (ctS x dep n i) .normal (ctS x dep (ML.wrap (n+m)) ((i+1:Nat):Int))):=by
 exact CW.cast (CW.zjH (s:={t:=Ue 37 0 [(1,SW dep),(2,.ref (.ptr 0 0)),(5,SW n),(6,SW (↑i:Int))],h:=(fZ x),m:=[]}) (s':={t:=Ue 37 0 [(1,SW dep),(2,.ref (.ptr 0 0)),(5,SW (MN ML (n+m))),(6,SW (MN ML ((↑i:Int)+1)))],h:=(fZ x),m:=[]}) (e:=M6) UR (φ:=[(Zd ((↑i:Int)<(↑(MO x.ks):Int))&&Zd (n<300))=true,ax (↑i:Int) x.ks [vi y.op,vi y.c,vs y.nm,vi y.n,vi y.d,OX y.ks] 6,Ev MJ U2 114 [Oo [SW y.op,SW y.c,ak y.nm,SW y.n,SW y.d,ab y.ks],SW (MN ML (dep+1))] (fZ x) (SW m) (fZ x)]) [.st (.mask [1,2,5,6])] [.b true,.row [vi y.op,vi y.c,vs y.nm,vi y.n,vi y.d,OX y.ks],.val (SW m)] (by kernel_rfl) ⟨hc,hr,(@hk ((fZ x))),trivial⟩) (by first|rfl|(rw[hw];first|done|rfl)|simp[hw]) (by first|rfl|(rw[hw];first|done|rfl)|simp[hw])
theorem Dd(hc:(Zd ((i:Int)<(x.ks.length:Int))&&Zd (n<300))=false):(CW MJ U2 [] false (sub RJ 0) (ctS x dep n i) (.exit 0) (ctE n)):=by
 exact CW.cast (CW.zjH (s:=(zb6 37 [(1,SW dep),ZP,(5,SW n),(6,(ZO i))] [.var (Zj x)])) (s':=(zal n)) (e:=NR 0) UR (φ:=[(Zd ((↑i:Int)<(↑(MO x.ks):Int))&&Zd (n<300))=false]) (YV [5] 0) [.b false] (by kernel_rfl) ⟨hc,trivial⟩) (by rfl) (by rfl)
theorem ct_a(hb:(Zd (dep>40)||Zd ((x.ks.length:Int)>300))=false)(hl:CW MJ U2 [] false (.loop (sub RJ 0)) (ctS x dep 1 0) (.exit 0) (ctE n))(h:aT):(Ev MJ U2 114 [.agg x.l,SW dep] h (SW n) h):=by
 have UE:=(@hl)
 exact Na (Ev.zjJ (P:=MJ) (Γ:=U2) (f:=114) (args:=[Oo (RuF.l x),SW dep]) (d:=SW n) UR (φ:=[(Zd (dep>40)||Zd ((↑(MO x.ks):Int)>300))=false,CW MJ U2 [] false (.loop (sub RJ 0)) (zb6 37 [(1,SW dep),ZP,(5,SW 1),(6,SW 0)] [.var (Zj x)]) (NR 0) (zal n)]) [.b false,.sum [1,2,5,6] (NR 0) (zal n)] (by kernel_rfl) ⟨hb,UE,trivial⟩ rfl rfl h) (by rfl) (by rfl)
theorem ct_b(hb:(Zd (dep>40)||Zd ((x.ks.length:Int)>300))=true)(h:aT):(Ev MJ U2 114 [.agg x.l,SW dep] h (SW 300) h):=by
 exact Na (Ev.zjJ (P:=MJ) (Γ:=U2) (f:=114) (args:=[Oo (RuF.l x),SW dep]) (d:=SW 300) UR (φ:=[(Zd (dep>40)||Zd ((↑(MO x.ks):Int)>300))=true]) [.b true] (by kernel_rfl) ⟨hb,trivial⟩ rfl rfl h) (by rfl) (by rfl)
def cnF(g:U9->Int)(k:U9)(n:Int):Int⊕Int:=bif Zd (n<300) then .inl (ML.wrap (n+g k)) else .inr n
abbrev cnX:Int->Exit×AS:=λn=>(.exit 0,ctE n)
theorem cnFin(p:Int⊕Int):∃n,bJ (.exit 0) (λn=>ctE n) cnX p=(.exit 0,ctE n):=by
 cases p with
 | inl n=>exact⟨n,rfl⟩
 | inr n=>exact⟨n,rfl⟩
theorem ct_cw{ks:List U9}(hx:x.ks=ks.map U9.row)(hl:am ks){g:U9->Int}(hk:∀k∈ks,∀h,Ev MJ U2 114 [.agg k.fl.l,SW (ML.wrap (dep+1))] h (SW (g k)) h):
  ∃n,CW MJ U2 [] false (.loop (sub RJ 0)) (ctS x dep 1 0) (.exit 0) (ctE n):=by
 have:=PU (P:=MJ) (Γ:=U2) (h0:=[]) (rd:=false) (c:=sub RJ 0) ks (cnF g) (λi n=>ctS x dep n (i:Int)) (.exit 0) (λn=>ctE n) cnX (λ_ _=>True) (by simp) (λ_=>by simp[]) ?_ ?_ 1 trivial
 ·obtain⟨n,hn⟩:=cnFin (UD (cnF g) ks 1)
  rw[hn] at this
  exact⟨n,this⟩
 ·intro i k n hp _
  obtain⟨hi,hpe⟩:=MR.1 hp
  have hlen:x.ks.length=ks.length:=by rw[hx];simp
  have h1:Zd ((i:Int)<(x.ks.length:Int))=true:=by simp;omega
  refine⟨λ_ _=>trivial,?_⟩
  cases hn:Zd (n<300) with
  | true =>
   unfold cnF
   rw[hn]
   refine K2 (y:=k.fl) ?_ (by rw[h1,hn];rfl) (Uo hi hl) (hk k (by subst hpe;exact Qg hi))
   rw[hx,U9.zkj]
   exact rowAt hp (by cases k;simp[U9.row])
  | false =>
   unfold cnF
   rw[hn]
   exact Dd (by rw[hn];simp)
 ·intro n _
  exact Dd (by rw[hx];simp)
mutual
theorem H6:∀(r:U9),r.ok->∀dep,∃m,∀h,Ev MJ U2 114 [.agg r.fl.l,SW dep] h (SW m) h
 | .mk op c nm n d ks,hr,dep=>by
  simp only[U9.ok] at hr
  have hs:=De ks hr.2 (ML.wrap (dep+1))
  cases hb:(Zd (dep>40)||Zd (((U9.mk op c nm n d ks).fl.ks.length:Int)>300)) with
  | true=>exact⟨_,λh=>ct_b hb h⟩
  | false =>
   have:∃g:U9->Int,∀k∈ks,∀h,Ev MJ U2 114 [.agg k.fl.l,SW (ML.wrap (dep+1))] h (SW (g k)) h:=by
    classical
    refine⟨λk=>if hk:k∈ks then Classical.choose (hs k hk) else 0,λk hk h=>?_⟩
    simp only[hk,dite_true]
    exact Classical.choose_spec (hs k hk) h
   obtain⟨g,hg⟩:=this
   obtain⟨m,hm⟩:=ct_cw (x:=(U9.mk op c nm n d ks).fl) (ks:=ks) (dep:=dep) (by simp[MX,e7]) hr.1.2.2.2.2 hg
   exact⟨m,λh=>ct_a hb hm h⟩
theorem De:∀(ks:List U9),jE ks->∀dep,∀k∈ks,∃m,∀h,Ev MJ U2 114 [.agg k.fl.l,SW dep] h (SW m) h
 | [],_,_,k,hk=>by simp at hk
 | a::ks,hs,dep,k,hk=>by
  simp only[jE] at hs
  have h1:=H6 a hs.1 dep
  have h2:=De ks hs.2 dep
  rcases NF.1 hk with rfl|hk
  ·exact h1
  ·exact h2 k hk
end
noncomputable abbrev pA(x:RuF):aT:=[.var (Zj x)]
theorem fewr_a(hk:∀h,Ev MJ U2 114 [.agg x.l,SW 0] h (SW n) h)(h:aT):(Ev MJ U2 57 [.agg x.l] h (T6 (Zd (n<250)&&Zd ((x.nm.size:Int)<=100))) h):=by
 exact Na (Ev.zjJ (P:=MJ) (Γ:=U2) (f:=57) (args:=[Oo (RuF.l x)]) (d:=T6 (Zd (n<250)&&Zd ((↑(ByteArray.size x.nm):Int)<=100))) UR (φ:=[Ev MJ U2 114 [Oo (Zj x),SW 0] (pA x) (SW n) (pA x)]) [.val (SW n)] (by kernel_rfl) ⟨(@hk ((pA x))),trivial⟩ rfl rfl h) (by rfl) (by rfl)
theorem xe{r:U9}(hr:r.ok):∃b,∀h,Ev MJ U2 57 [.agg r.fl.l] h (T6 b) h:=by
 obtain⟨n,hn⟩:=H6 r hr 0
 exact⟨_,λh=>fewr_a hn h⟩
end Go.Vi
