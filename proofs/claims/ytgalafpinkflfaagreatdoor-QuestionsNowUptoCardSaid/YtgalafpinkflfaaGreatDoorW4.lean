/- A part of the proof; no conditions of its own. -/
import Derived.Test.YtgalafpinkflfaaGreatDoorW3
open Decidable renaming decide -> Zd
open Go.Proofs.Tryz renaming prog -> MK, f103 -> RD, f213 -> RE, f63 -> Pb, f199 -> Sh, f117 -> Pv, f203 -> Qc, f50 -> Pc
open Go.Vi.tO renaming row -> MQ
open List renaming map -> ML, getD -> MT, length -> MO, getElem?_eq_some_iff -> MR, getElem?_eq_getElem -> Nh, mem_of_getElem? -> Ny, foldl -> Nx
open Go.Vi.IS renaming row -> MX
open Go.Vi.TK renaming row -> M4
open Go.Vi.If renaming row -> MY
open Go.Vi.Ev renaming WB -> Na, W9 -> OL, Xj -> M9
open Go.Vi.D renaming Tt -> Nt, agg -> Nk, fn -> Ot, U7 -> Nm
open Go.Vi.iS renaming l -> Nz
open Int renaming toNat -> MP, tdiv -> Nn, natAbs -> NO
open Go.IntKind renaming wrap -> MN, i64 -> MM, u64 -> Nd
open Go.Exit renaming normal -> M8, ret -> PL
open Go.Vi.CW renaming each -> OS
open Go.Vi.iN renaming UV -> MZ
open Go.Fn renaming func -> Nl
open Go.Vi.Dp renaming sl -> Om
open Classical renaming choose -> Ql
open Go.Vi.BV renaming fl -> M1
open Nat renaming gcd -> OG
open Go.LoopState renaming ready -> Np, busy -> Nu
open Go Go.Proofs
namespace Go.Vi
set_option maxRecDepth 100000
set_option maxHeartbeats 4000000
theorem recOf0{w:iS}(hw:w.ok){bv st bV:Int}:Ev MK Or 91 [.ref (.ptr 0 0),aT st,aT bV] (VF w bv [] 0) (.agg [aT st,ab ((Kh w bv st bV).map MQ)]) (VF w bv (jM w bv st bV) 1):=by
 have:=FB hw (bv:=bv) (st:=st) (bV:=bV) (rs:=[]) (by simp)
 grind
def FC(st bV:Int):Bool:=!(Zd (st>=0)&&Zd (st<=19999))||!(Zd (bV>=0)&&Zd (bV<=1024))
structure TC where
 st:Int
 a:List tO
def TC.l(r:TC):List D:=[aT r.st,ab (r.a.map MQ)]
def g9(w:iS)(st bV bv:Int):TC×List BY×Int:=match FC st bV with
 | true=>(⟨0,[]⟩,[],150)
 | false=>(⟨st,Kh w bv st bV⟩,jM w bv st bV,0)
def rofX(st bV:Int)(rr:List BY)(aa:List tO):TC×List BY×Int:=match FC st bV with
 | true=>(⟨0,[]⟩,[],150)
 | false=>(⟨st,aa⟩,rr,0)
noncomputable abbrev mm(w:iS):List iN:=[.var [ab (ML MX w.c),ab w.p,ab (ML M4 w.s),ab (ML MY w.f)],.var [aT 0,nq]]
theorem rof_a{w:iS}{st bV bv:Int}{rr:List BY}{aa:List tO}(hof:Ev MK Or 91 [.ref (.ptr 0 0),aT st,aT bV] (VF w bv [] 0) (.agg [aT st,ab (aa.map MQ)]) (VF w bv rr 1))(h:List iN):(Ev MK Or 41 [.agg w.l,aT st,aT bV,aT bv] h (.Tt [.agg (rofX st bV rr aa).1.l,ab (M2 (rofX st bV rr aa).2.1),aT (rofX st bV rr aa).2.2]) h):=by
 cases Of:!(Zd (st>=0)&&Zd (st<=19999))||!(Zd (bV>=0)&&Zd (bV<=1024))
 ·let v0:List D:=[aT st,ab (ML MQ aa)]
  exact Na (OL (y0 (d:=Nt [Nk v0,ab (M2 rr),aT 0]) [.v (M9 (Γ':=Or) (@br st 0 19999 (mm w))),.w (!!(Zd (st>=0)&&Zd (st<=19999))) (M9 (Γ':=Or) (@br bV 0 1024 (mm w))),.b Of,.n 1,.o (.WS 2 0 5),.c ((fX [2,3] (@hof) ⟨(by subst v0;grind),trivial⟩ ⟨(by subst v0;exact ak _ _),trivial⟩):Ev MK Or 91 [.ref (.ptr 2 0),aT st,aT bV] [.var (Nz w),.var [aT 0,nq],.var [.ref (.bY 3 0),ab (ML MX w.c),ab w.p,ab (ML M4 w.s),ab (ML MY w.f),aT bv],.bY [] 0 5] (Nk v0) [.var (Nz w),.var [aT 0,nq],.var [.ref (.bY 3 1),ab (ML MX w.c),ab w.p,ab (ML M4 w.s),ab (ML MY w.f),aT bv],.bY (ad (M2 rr)) 1 5]),((by subst v0;grind):ad (M2 rr)=ML (λx=>ML D.p x) (M2 rr)),pe (Nk v0),pe (.ref (.ptr 2 0)),pe (.ref (.ptr 2 0)),pe (.ref (.ptr 2 0)),pe (.ref (.ptr 2 0)),po (some (ab (M2 rr))),po (some (ab (M2 rr))),.o (.Vw 3 (M2 rr))] h)) (by subst v0;(have hh:FC st bV=false:=Of;simp[rofX,hh];rfl)) (by rfl)
 ·exact Na (OL (y0 (d:=Nt [Nk [aT 0,nq],nq,aT 150]) [.v (M9 (Γ':=Or) (@br st 0 19999 (mm w))),.w (!!(Zd (st>=0)&&Zd (st<=19999))) (M9 (Γ':=Or) (@br bV 0 1024 (mm w))),.b Of] h)) (by(have hh:FC st bV=true:=Of;simp only[rofX,hh];rfl)) (by rfl)
theorem Hz{w:iS}(hw:w.ok){st bV bv:Int}(h:List iN):Ev MK Or 41 [.agg w.l,aT st,aT bV,aT bv] h (.Tt [.agg (g9 w st bV bv).1.l,ab (M2 (g9 w st bV bv).2.1),aT (g9 w st bV bv).2.2]) h :=
 rof_a (recOf0 hw) h
def Ki(a:tO):Bool:=U3 a.dO 0 4095&&U3 a.bV 0 1023&&U3 a.IF 0 12&&U3 a.SW 0 6&&U3 a.oF 0 60
def ph(o:Option tO)(a:tO):Bool:=!Ki a||(match o with|none=>false|some b=>Zd (Hy b a>=0))
abbrev rkS(st:Int)(as_:List (List Dp))(i:Int):AS:={t:=DO 61 0 [(1,.ref (.ptr 0 0)),(2,aT 0),(10,ab as_),(11,aT as_.length),(12,aT i)],h:=[.var [aT st,ab as_]],m:=[]}
abbrev rkX:Unit->Exit×AS:=λ_=>(.ret,{t:=DO 61 0 [(2,aT 150)],h:=[],m:=[]})
def Φ(p:Option tO×tO)(_:Unit):Unit⊕Unit:=bif ph p.1 p.2 then .inr () else .inl ()
theorem rk0{a:tO}{x:Bool}:(!(Zd (a.dO>=0)&&Zd (a.dO<=4095))||!(Zd (a.bV>=0)&&Zd (a.bV<=1023))||!(Zd (a.IF>=0)&&Zd (a.IF<=12))||!(Zd (a.SW>=0)&&Zd (a.SW<=6))||!(Zd (a.oF>=0)&&Zd (a.oF<=60))||Zd ((0:Int)>0)&&x)=ph none a:=by simp[ph,Ki,U3]
theorem rk1{a b:tO}{i:Nat}:(!(Zd (a.dO>=0)&&Zd (a.dO<=4095))||!(Zd (a.bV>=0)&&Zd (a.bV<=1023))||!(Zd (a.IF>=0)&&Zd (a.IF<=12))||!(Zd (a.SW>=0)&&Zd (a.SW<=6))||!(Zd (a.oF>=0)&&Zd (a.oF<=60))||Zd (((i+1:Nat):Int)>0)&&Zd (Z6 (cz b.bV a.bV) (cz b.dO a.dO)>=0))=ph (some b) a:=by
 have:Zd (((i+1:Nat):Int)>0)=true:=decide_eq_true (by omega)
 rw[this]
 simp[ph,Ki,U3,Hy]
noncomputable abbrev bh(st:Int)(l:List tO)(a:tO):List iN:=[.var [aT st,ab (ML MQ l)],.var [aT a.dO,aT a.bV,aT a.IF,aT a.SW,aT a.oF]]
theorem FD{st:Int}{l:List tO}{a:tO}(hr:ap 0 (l.map MQ) a.row 5)(IN:Zd ((0:Int)<((l.map MQ).length:Int))=true):(CW MK At [] false (sub RD 0) (rkS st (l.map MQ) 0) (af (λ_=>rkS st (l.map MQ) 1) rkX (Φ (none,a) ())).1 (af (λ_=>rkS st (l.map MQ) 1) rkX (Φ (none,a) ())).2):=by
 cases Of:!(Zd (a.dO>=0)&&Zd (a.dO<=4095))||!(Zd (a.bV>=0)&&Zd (a.bV<=1023))||!(Zd (a.IF>=0)&&Zd (a.IF<=12))||!(Zd (a.SW>=0)&&Zd (a.SW<=6))||!(Zd (a.oF>=0)&&Zd (a.oF<=60))||Zd (0>0)&&Zd (Z6 (cz (MT l (MP (MN MM (0-1))) default).bV a.bV) (cz (MT l (MP (MN MM (0-1))) default).dO a.dO)>=0)
 ·let v0:=MT l (MP (MN MM (0-1))) default
  exact yX {t:=DO 61 0 [(1,.ref (.ptr 0 0)),(2,aT 0),(10,ab (ML MQ l)),(11,aT (↑(MO (ML MQ l)):Int)),(12,aT (MN MM (0+1)))],h:=[.var [aT st,ab (ML MQ l)]],m:=[]} M8 [.st (.mask [1,2,10,11,12]),.st (.trim 1)] [.b IN,.r hr,.v (@br (a.dO) 0 4095 (bh st l a)),.w (!!(Zd (a.dO>=0)&&Zd (a.dO<=4095))) (@br (a.bV) 0 1023 (bh st l a)),.w (!(!(Zd (a.dO>=0)&&Zd (a.dO<=4095))||!(Zd (a.bV>=0)&&Zd (a.bV<=1023)))) (@br (a.IF) 0 12 (bh st l a)),.w (!(!(Zd (a.dO>=0)&&Zd (a.dO<=4095))||!(Zd (a.bV>=0)&&Zd (a.bV<=1023))||!(Zd (a.IF>=0)&&Zd (a.IF<=12)))) (@br (a.SW) 0 6 (bh st l a)),.w (!(!(Zd (a.dO>=0)&&Zd (a.dO<=4095))||!(Zd (a.bV>=0)&&Zd (a.bV<=1023))||!(Zd (a.IF>=0)&&Zd (a.IF<=12))||!(Zd (a.SW>=0)&&Zd (a.SW<=6)))) (@br (a.oF) 0 60 (bh st l a)),((λhg=>(by subst v0;grind)):(!(!(Zd (a.dO>=0)&&Zd (a.dO<=4095))||!(Zd (a.bV>=0)&&Zd (a.bV<=1023))||!(Zd (a.IF>=0)&&Zd (a.IF<=12))||!(Zd (a.SW>=0)&&Zd (a.SW<=6))||!(Zd (a.oF>=0)&&Zd (a.oF<=60)))&&Zd (0>0))=true->ap (MN MM (0-1)) (ML MQ l) (MQ v0) 5),.a1 (.row (MQ v0)),.w (!(!(Zd (a.dO>=0)&&Zd (a.dO<=4095))||!(Zd (a.bV>=0)&&Zd (a.bV<=1023))||!(Zd (a.IF>=0)&&Zd (a.IF<=12))||!(Zd (a.SW>=0)&&Zd (a.SW<=6))||!(Zd (a.oF>=0)&&Zd (a.oF<=60)))&&Zd (0>0)) (@jF v0 a (bh st l a)),.b Of] (by subst v0;(have hh:ph none a=false:=rk0.symm.trans Of;simp[Φ,hh];first|done|rfl)) (by subst v0;(have hh:ph none a=false:=rk0.symm.trans Of;simp only[Φ,hh,cond_false];first|done|rfl))
 ·let v0:=MT l (MP (MN MM (0-1))) default
  refine yX {t:=DO 61 0 [(2,aT 150)],h:=[],m:=[]} PL [.st (.mask [2]),.st (.trim 0)] [.b IN,.r hr,.v (@br (a.dO) 0 4095 (bh st l a)),.w (!!(Zd (a.dO>=0)&&Zd (a.dO<=4095))) (@br (a.bV) 0 1023 (bh st l a)),.w (!(!(Zd (a.dO>=0)&&Zd (a.dO<=4095))||!(Zd (a.bV>=0)&&Zd (a.bV<=1023)))) (@br (a.IF) 0 12 (bh st l a)),.w (!(!(Zd (a.dO>=0)&&Zd (a.dO<=4095))||!(Zd (a.bV>=0)&&Zd (a.bV<=1023))||!(Zd (a.IF>=0)&&Zd (a.IF<=12)))) (@br (a.SW) 0 6 (bh st l a)),.w (!(!(Zd (a.dO>=0)&&Zd (a.dO<=4095))||!(Zd (a.bV>=0)&&Zd (a.bV<=1023))||!(Zd (a.IF>=0)&&Zd (a.IF<=12))||!(Zd (a.SW>=0)&&Zd (a.SW<=6)))) (@br (a.oF) 0 60 (bh st l a)),((λhg=>(by subst v0;grind)):(!(!(Zd (a.dO>=0)&&Zd (a.dO<=4095))||!(Zd (a.bV>=0)&&Zd (a.bV<=1023))||!(Zd (a.IF>=0)&&Zd (a.IF<=12))||!(Zd (a.SW>=0)&&Zd (a.SW<=6))||!(Zd (a.oF>=0)&&Zd (a.oF<=60)))&&Zd (0>0))=true->ap (MN MM (0-1)) (ML MQ l) (MQ v0) 5),.a1 (.row (MQ v0)),.w (!(!(Zd (a.dO>=0)&&Zd (a.dO<=4095))||!(Zd (a.bV>=0)&&Zd (a.bV<=1023))||!(Zd (a.IF>=0)&&Zd (a.IF<=12))||!(Zd (a.SW>=0)&&Zd (a.SW<=6))||!(Zd (a.oF>=0)&&Zd (a.oF<=60)))&&Zd (0>0)) (@jF v0 a (bh st l a)),.b Of] ?_ ?_<;>subst v0<;>(have hh:ph none a=true:=rk0.symm.trans Of;simp[Φ,hh];first|done|rfl)
noncomputable abbrev bj(st:Int)(as_:List (List Dp))(a:tO):List iN:=[.var [aT st,ab as_],.var [aT a.dO,aT a.bV,aT a.IF,aT a.SW,aT a.oF]]
theorem FE{st:Int}{as_:List (List Dp)}{a b:tO}{i:Nat}(hr:ap ((i+1:Nat):Int) as_ a.row 5)(hb:ap (MM.wrap (((i+1:Nat):Int)-1)) as_ b.row 5)(IN:Zd (((i+1:Nat):Int)<(as_.length:Int))=true)(hw:MM.wrap (((i+1:Nat):Int)+1)=((i+1+1:Nat):Int)):(CW MK At [] false (sub RD 0) (rkS st as_ ((i+1:Nat):Int)) (af (λ_=>rkS st as_ ((i+1+1:Nat):Int)) rkX (Φ (some b,a) ())).1 (af (λ_=>rkS st as_ ((i+1+1:Nat):Int)) rkX (Φ (some b,a) ())).2):=by
 cases Of:!(Zd (a.dO>=0)&&Zd (a.dO<=4095))||!(Zd (a.bV>=0)&&Zd (a.bV<=1023))||!(Zd (a.IF>=0)&&Zd (a.IF<=12))||!(Zd (a.SW>=0)&&Zd (a.SW<=6))||!(Zd (a.oF>=0)&&Zd (a.oF<=60))||Zd ((↑(i+1):Int)>0)&&Zd (Z6 (cz b.bV a.bV) (cz b.dO a.dO)>=0)
 ·refine yX {t:=DO 61 0 [(1,.ref (.ptr 0 0)),(2,aT 0),(10,ab as_),(11,aT (↑(MO as_):Int)),(12,aT (MN MM ((↑(i+1):Int)+1)))],h:=[.var [aT st,ab as_]],m:=[]} M8 [.st (.mask [1,2,10,11,12]),.st (.trim 1)] [.b IN,.r hr,.v (@br (a.dO) 0 4095 (bj st as_ a)),.w (!!(Zd (a.dO>=0)&&Zd (a.dO<=4095))) (@br (a.bV) 0 1023 (bj st as_ a)),.w (!(!(Zd (a.dO>=0)&&Zd (a.dO<=4095))||!(Zd (a.bV>=0)&&Zd (a.bV<=1023)))) (@br (a.IF) 0 12 (bj st as_ a)),.w (!(!(Zd (a.dO>=0)&&Zd (a.dO<=4095))||!(Zd (a.bV>=0)&&Zd (a.bV<=1023))||!(Zd (a.IF>=0)&&Zd (a.IF<=12)))) (@br (a.SW) 0 6 (bj st as_ a)),.w (!(!(Zd (a.dO>=0)&&Zd (a.dO<=4095))||!(Zd (a.bV>=0)&&Zd (a.bV<=1023))||!(Zd (a.IF>=0)&&Zd (a.IF<=12))||!(Zd (a.SW>=0)&&Zd (a.SW<=6)))) (@br (a.oF) 0 60 (bj st as_ a)),((λhg=>hb):(!(!(Zd (a.dO>=0)&&Zd (a.dO<=4095))||!(Zd (a.bV>=0)&&Zd (a.bV<=1023))||!(Zd (a.IF>=0)&&Zd (a.IF<=12))||!(Zd (a.SW>=0)&&Zd (a.SW<=6))||!(Zd (a.oF>=0)&&Zd (a.oF<=60)))&&Zd ((↑(i+1):Int)>0))=true->ap (MN MM ((↑(i+1):Int)-1)) as_ (MQ b) 5),.a1 (.row (MQ b)),.w (!(!(Zd (a.dO>=0)&&Zd (a.dO<=4095))||!(Zd (a.bV>=0)&&Zd (a.bV<=1023))||!(Zd (a.IF>=0)&&Zd (a.IF<=12))||!(Zd (a.SW>=0)&&Zd (a.SW<=6))||!(Zd (a.oF>=0)&&Zd (a.oF<=60)))&&Zd ((↑(i+1):Int)>0)) (@jF b a (bj st as_ a)),.b Of] ?_ ?_<;>(have hh:ph (some b) a=false:=(rk1 (i:=i)).symm.trans Of;simp only[Φ,hh,cond_false];first|done|rfl|(rw[hw];rfl))
 ·refine yX {t:=DO 61 0 [(2,aT 150)],h:=[],m:=[]} PL [.st (.mask [2]),.st (.trim 0)] [.b IN,.r hr,.v (@br (a.dO) 0 4095 (bj st as_ a)),.w (!!(Zd (a.dO>=0)&&Zd (a.dO<=4095))) (@br (a.bV) 0 1023 (bj st as_ a)),.w (!(!(Zd (a.dO>=0)&&Zd (a.dO<=4095))||!(Zd (a.bV>=0)&&Zd (a.bV<=1023)))) (@br (a.IF) 0 12 (bj st as_ a)),.w (!(!(Zd (a.dO>=0)&&Zd (a.dO<=4095))||!(Zd (a.bV>=0)&&Zd (a.bV<=1023))||!(Zd (a.IF>=0)&&Zd (a.IF<=12)))) (@br (a.SW) 0 6 (bj st as_ a)),.w (!(!(Zd (a.dO>=0)&&Zd (a.dO<=4095))||!(Zd (a.bV>=0)&&Zd (a.bV<=1023))||!(Zd (a.IF>=0)&&Zd (a.IF<=12))||!(Zd (a.SW>=0)&&Zd (a.SW<=6)))) (@br (a.oF) 0 60 (bj st as_ a)),((λhg=>hb):(!(!(Zd (a.dO>=0)&&Zd (a.dO<=4095))||!(Zd (a.bV>=0)&&Zd (a.bV<=1023))||!(Zd (a.IF>=0)&&Zd (a.IF<=12))||!(Zd (a.SW>=0)&&Zd (a.SW<=6))||!(Zd (a.oF>=0)&&Zd (a.oF<=60)))&&Zd ((↑(i+1):Int)>0))=true->ap (MN MM ((↑(i+1):Int)-1)) as_ (MQ b) 5),.a1 (.row (MQ b)),.w (!(!(Zd (a.dO>=0)&&Zd (a.dO<=4095))||!(Zd (a.bV>=0)&&Zd (a.bV<=1023))||!(Zd (a.IF>=0)&&Zd (a.IF<=12))||!(Zd (a.SW>=0)&&Zd (a.SW<=6))||!(Zd (a.oF>=0)&&Zd (a.oF<=60)))&&Zd ((↑(i+1):Int)>0)) (@jF b a (bj st as_ a)),.b Of] ?_ ?_<;>(have hh:ph (some b) a=true:=(rk1 (i:=i)).symm.trans Of;simp only[Φ,hh,cond_true];first|done|rfl)
theorem Kj{st:Int}{as_:List (List Dp)}{i:Nat}(IN:Zd ((i:Int)<(as_.length:Int))=false):(CW MK At [] false (sub RD 0) (rkS st as_ i) (.exit 0) {t:=DO 61 0 [(2,aT 0)],h:=[],m:=[]}):=by
 exact yx [.st (.mask [2]),.st (.trim 0)] [.b IN]
def sb(l:List tO):List (Option tO×tO):=(none::l.map some).zip l
def Kk(l:List tO):Exit×AS:=bu (.exit 0) (λ_:Unit=>{t:=DO 61 0 [(2,aT 0)],h:=[],m:=[]}) rkX (Tq Φ (sb l) ())
theorem rk_cw{st:Int}{l:List tO}(hl:ah l):
  CW MK At [] false (.loop (sub RD 0)) (rkS st (l.map MQ) 0) (Kk l).1 (Kk l).2:=by
 have hlen:(sb l).length=l.length:=by simp[sb]
 have:=OS (P:=MK) (Γ:=At) (h0:=[]) (rd:=false) (c:=sub RD 0) (sb l) Φ (λi _=>rkS st (l.map MQ) (i:Int)) (.exit 0) (λ_:Unit=>{t:=DO 61 0 [(2,aT 0)],h:=[],m:=[]}) rkX (λ_ _=>True) (by simp) (λ_=>by simp) ?_ ?_ () trivial
 ·exact this
 ·intro i p u hp _
  obtain⟨hi,he⟩:=MR.1 hp
  rw[hlen] at hi
  have h2:l[i]? = some p.2:=by subst he;simp[sb,Nh hi]
  refine⟨λ_ _=>trivial,?_⟩
  obtain⟨o,a⟩:=p
  cases i with
  | zero =>
   have ho:o=none:=by have:=congrArg Prod.fst he;simpa[sb] using this.symm
   subst ho
   exact FD (rowAt h2 rfl) (TG MQ hi)
  | succ i =>
   have h1:l[i]? = some (l[i]'(by omega)):=Nh _
   have ho:o=some (l[i]'(by omega)):=by have:=congrArg Prod.fst he;simpa[sb] using this.symm
   subst ho
   refine FE (rowAt h2 rfl) ?_ (TG MQ hi) (T4 hi hl)
   have:MM.wrap (((i+1:Nat):Int)-1)=(i:Int):=by
    have:=hl;unfold ah at this
    rw[wrap_i64 (by omega) (by omega)];omega
   rw[this]
   exact rowAt h1 rfl
 ·intro u _
  rw[hlen]
  exact Kj (be MQ l)
def dY(r:TC):Int:=bif !(Zd (r.st>=0)&&Zd (r.st<=19999)) then 150 else match Tq Φ (sb r.a) () with | .inl _=>0 | .inr _=>150
theorem kZ{r:TC}(hl:ah r.a)(h:List iN):(Ev MK At 103 [.agg r.l] h (aT (dY r)) h):=by
 cases Of:!(Zd (r.st>=0)&&Zd (r.st<=19999))
 ·have W1:=(@rk_cw (r.st) (r.a) (hl))
  unfold Kk at W1
  revert W1
  cases Xh:Tq Φ (sb r.a) () with
  | inl o2_0_0 =>
   intro W1
   exact yD (aT 0) [.v (@br (r.st) 0 19999 ([.var [aT r.st,ab (ML MQ r.a)]])),.b Of,.s [1,2,10,11,12] W1] h (by simp[dY,Of,Xh])
  | inr o2_1_0 =>
   intro W1
   exact yD (aT 150) [.v (@br (r.st) 0 19999 ([.var [aT r.st,ab (ML MQ r.a)]])),.b Of,.s [1,2,10,11,12] W1] h (by simp[dY,Xh])
 ·exact yD (aT 150) [.v (@br (r.st) 0 19999 ([.var [aT r.st,ab (ML MQ r.a)]])),.b Of] h (by simp[dY,Of])
abbrev IM:=List (Int×Int)
def bE:Nat->IM->List (D×D×Nat)
 | _,[]=>[]
 | j,(k,v)::l=>(aT k,aT v,j)::bE (j+1) l
def Zt(l:IM):iN:=.map (bE 0 l) l.length
def am:IM->Int->Option Int
 | [],_=>none
 | (a,v)::l,k=>if a=k then some v else am l k
def aV:IM->Int->Int->IM
 | [],k,v=>[(k,v)]
 | (a,x)::l,k,v=>if a=k then (k,v)::l else (a,x)::aV l k v
theorem Cr(l:IM)(k v k':Int):am (aV l k v) k'=if k=k' then some v else am l k':=by
 induction l with
 | nil=>simp[aV,am]
 | cons e l ih =>
  obtain⟨a,x⟩:=e
  unfold aV
  by_cases h:a=k
  ·subst h
   simp[am]
   grind
  ·simp[h,am,ih]
   grind
def DP:IM->Int->Nat->Option (Nat×D)
 | [],_,_=>none
 | (a,v)::l,k,i=>if a=k then some (i,aT v) else DP l k (i+1)
theorem ol(k:Int):∀(l:IM) (j i:Nat),dH (aT k) (bE j l) i=some (DP l k i)
 | [],_,_=>rfl
 | (a,v)::l,j,i=>by
  simp[bE,dH,DP]
  by_cases h:a=k
  ·subst h;simp[eF]
  ·have:eF (aT k) (aT a)=some false:=by
    have h2:¬k=a:=λe=>h e.symm
    simp[eF,h2]
   rw[this]
   simp[h]
   exact ol k l (j+1) (i+1)
theorem om{k:Int}:∀{l:IM} {i:Nat},DP l k i=none->am l k=none/\∀v,aV l k v=l++[(k,v)]
 | [],_,_=>by simp[am,aV]
 | (a,x)::l,i,h=>by
  unfold DP at h
  split at h
  ·simp at h
  ·rename_i UQ
   obtain⟨h1,h2⟩:=om h
   simp only[am,aV,UQ,if_false,h1,true_and]
   grind
theorem oq{k:Int}:∀{l:IM} {i j n:Nat} {d:D},DP l k i=some (n,d)->∃v,d=aT v/\am l k=some v/\i<=n/\((bE j l)[n-i]?).map (λe=>e.2.2)=some (j+(n-i))/\∀x,bE j (aV l k x)=(bE j l).set (n-i) (aT k,aT x,j+(n-i))/\(aV l k x).length=l.length
 | [],_,_,_,_,h=>by simp[DP] at h
 | (a,x)::l,i,j,n,d,h=>by
  unfold DP at h
  split at h
  ·rename_i ha
   simp at h
   obtain⟨rfl,rfl⟩:=h
   exact⟨x,rfl,by simp[am,ha],Nat.le_refl _,by simp[bE],λy=>by simp[aV,ha,bE]⟩
  ·rename_i ha
   obtain⟨v,h1,h2,h3,h4,h5⟩:=oq (j:=j+1) h
   have e:n-i=(n-(i+1))+1:=by omega
   refine⟨v,h1,by simp[am,ha,h2],by omega,?_,λy=>?_⟩
   ·rw[e];simp only[bE,List.getElem?_cons_succ,h4];congr 1;omega
   ·obtain⟨h6,h7⟩:=h5 y
    simp only[aV,ha,if_false,bE,h6]
    grind
theorem uM{P:Program}{h:List iN}{t:TypeId}{b:Nat}{l:IM}{c:Int}{kt et:TypeId}(hk:di P kt (aT c)=true)(ht:P.underlying t=some (.map kt et))(hz:i4 P et=some (.int .i64 0))(hb:h[b]? = some (Zt l)):
  aA P h t (.ref (.mp b)) (aT c) true=some (.Tt [aT ((am l c).getD 0),iF (am l c).isSome]):=by
 unfold aA
 simp[ht,mG,hb,Zt,hk,hz,ol]
 cases hi:DP l c 0 with
 | none =>
  rw[(om hi).1];rfl
 | some p =>
  obtain⟨n,d⟩:=p
  obtain⟨v,rfl,h2,_⟩:=oq (j:=0) hi
  rw[h2];rfl
theorem x8(k v:Int):∀(l:IM) (j:Nat),bE j (l++[(k,v)])=bE j l++[(aT k,aT v,j+l.length)]
 | [],j=>by simp[bE]
 | (a,x)::l,j=>by
  simp only[List.cons_append,bE,x8 k v l (j+1),List.length_cons]
  grind
theorem uN{P:Program}{h:List iN}{t:TypeId}{b:Nat}{l:IM}{c v:Int}{kt et:TypeId}(hk:di P kt (aT c)=true)(ht:P.underlying t=some (.map kt et))(hb:h[b]? = some (Zt l)):
  aH P h t (.ref (.mp b)) (aT c) (aT v)=some (h.set b (Zt (aV l c v))):=by
 unfold aH
 simp[ht,hb,Zt,hk,ol]
 cases hi:DP l c 0 with
 | none =>
  simp only[(om hi).2 v,x8]
  simp
 | some p =>
  obtain⟨n,d⟩:=p
  obtain⟨x,rfl,_,_,h4,h5⟩:=oq (j:=0) hi
  grind
theorem sc(f:Ref->D):∀(l:IM) (j:Nat),(bE j l).map (λe=>(D.Tz f e.1,D.Tz f e.2.1,e.2.2))=bE j l
 | [],_=>rfl
 | (a,x)::l,j=>by simp only[bE,List.map_cons,sc f l (j+1)];rfl
theorem x9(n:Nat):∀(l:IM) (j:Nat),((bE j l).all λe=>D.UV n e.1&&D.UV n e.2.1)=true
 | [],_=>rfl
 | (a,x)::l,j=>by simp only[bE,List.all_cons,x9 n l (j+1)];rfl
theorem ou{n:Nat}{l:IM}:MZ n (Zt l)=true:=x9 n l 0
theorem Cs{l:List tO}(h:List iN):∀c∈l,Iv MK At (.p (.v (.func (.func 201) #[] #[]))) [ag c.row] h (iF (!Es c)) h:=λc _=>Iv.of (f:=201) (fi:=[]) (ca:=[]) Ug (by kernel_rfl) (by kernel_rfl) (Bq h)
def eW(l:List tO):Int:=bif l.any (λa=>!Es a) then 150 else 0
theorem FF{l:List tO}(hl:ah l)(hf:∀c∈l,Iv MK At (.p (.v (.func (.func 201) #[] #[]))) [ag c.row] [] (iF (!Es c)) [])(h:List iN):(Ev MK At 115 [ab (l.map MQ)] h (aT (eW l)) h):=by
 cases Of:List.any l λc=>!Es c
 ·exact yD (aT 0) [.v (@Hp l hl (fq 201) ([]) (λc=>!Es c) hf),.b Of] h (by simp[eW,Of])
 ·exact yD (aT 150) [.v (@Hp l hl (fq 201) ([]) (λc=>!Es c) hf),.b Of] h (by simp[eW,Of])
theorem dN{l:List tO}(hl:ah l)(h:List iN):Ev MK At 115 [ab (l.map MQ)] h (aT (eW l)) h:=FF hl (Cs []) h
theorem Ct{a b:tO}(h:List iN):(Ev MK At 297 [ag a.row,ag b.row] h (iF (Zd (a.IF>b.IF)||(a.IF==b.IF&&Zd (a.bV<b.bV)))) h):=by
 exact y0 [] h
theorem Cu{a b:tO}(h:List iN):(Ev MK At 298 [ag a.row,ag b.row] h (iF (Zd (a.bV>=b.bV))) h):=by
 exact y0 [] h
abbrev Cv:List D:=[iF true,UZ 297,iF true,UZ 298,iF false,lit .nilFunc]
theorem yb(h:List iN):(Ev MK At 235 [] h (.agg Cv) h):=by
 exact y0 [] h
abbrev ay(l:List Int):List (List Dp):=l.map λn=>[vi n]
structure T2 where
 nm:ByteArray
 oF:Int
 IF:Int
 home:Bool
 names:List (List Dp)
 Do:List Int
 deriving Inhabited
def T2.row(q:T2):List Dp:=[vs q.nm,vi q.oF,vi q.IF,.v (.bool q.home),.sl q.names,.sl (ay q.Do)]
structure oN where
 nm:ByteArray
 number:Int
 T3:Int
 ON:Int
 num:Int
 den:Int
 reqs:List T2
 deriving Inhabited
def oN.l(p:oN):List D:=[aq p.nm,aT p.number,aT p.T3,aT p.ON,aT p.num,aT p.den,ab (p.reqs.map T2.row)]
structure T2.ok (q:T2):Prop where
 sf:ah q.Do
structure oN.ok (p:oN):Prop where
 sr:ah p.reqs
 rq:∀q∈p.reqs,q.ok
 nm:U5 p.num
 dn:U5 p.den
def Yj(p:Int->Bool)(c:Int)(s:Nat):Nat⊕Nat:=if p c=true then .inr s else .inl (s+1)
abbrev xiS(fs:List (List Dp))(f:D)(h:List iN)(i:Int):AS:={t:=DO 19 0 [(0,ab fs),(1,f),(4,aT 0),(7,aT fs.length),(8,aT i)],h:=h,m:=[]}
abbrev xiX(h:List iN):Nat->Exit×AS:=λk=>(.ret,{t:=DO 19 0 [(4,aT (k:Int))],h:=h,m:=[]})
theorem Kl{fs:List (List Dp)}{i:Nat}{c:Int}{f:D}{h:List iN}{p:Int->Bool}(hr:ap (i:Int) fs [vi c] 1)(IN:Zd ((i:Int)<(fs.length:Int))=true)(hw:MM.wrap ((i:Int)+1)=((i+1:Nat):Int))(hi:Iv MK At f [aT c] h (iF (p c)) h):(CW MK At h false (sub Tryz.f308 0) (xiS fs f h i) (af (λ_=>xiS fs f h ((i+1:Nat):Int)) (xiX h) (Yj p c i)).1 (af (λ_=>xiS fs f h ((i+1:Nat):Int)) (xiX h) (Yj p c i)).2):=by
 cases Of:p c
 ·refine yX {t:=DO 19 0 [(0,ab fs),(1,f),(4,aT 0),(7,aT (↑(MO fs):Int)),(8,aT (MN MM ((↑i:Int)+1)))],h:=h,m:=[]} M8 [.st (.mask [0,1,4,7,8])] [.b IN,.r hr,.i (@hi),.b Of] ?_ ?_<;>(simp[Yj,af,hw, *])
 ·refine yX {t:=DO 19 0 [(4,aT (↑i:Int))],h:=h,m:=[]} PL [.st (.mask [4])] [.b IN,.r hr,.i (@hi),.b Of] ?_ ?_<;>(simp[Yj,af,hw, *])
theorem Km{fs:List (List Dp)}{i:Nat}{f:D}{h:List iN}(IN:Zd ((i:Int)<(fs.length:Int))=false):(CW MK At h false (sub Tryz.f308 0) (xiS fs f h i) (.exit 0) {t:=DO 19 0 [(4,aT 0)],h:=h,m:=[]}):=by
 exact yx [.st (.mask [4])] [.b IN]
def xiR(p:Int->Bool)(l:List Int):Int:=match Tq (Yj p) l 0 with | .inl _ => -1 | .inr k=>(k:Int)
def Kn(h:List iN)(p:Int->Bool)(l:List Int):Exit×AS:=bu (.exit 0) (λ_:Nat=>{t:=DO 19 0 [(4,aT 0)],h:=h,m:=[]}) (xiX h) (Tq (Yj p) l 0)
theorem xi_cw{l:List Int}(hl:ah l){f:D}{h:List iN}{p:Int->Bool}(hf:∀c∈l,Iv MK At f [aT c] h (iF (p c)) h):
  CW MK At h false (.loop (sub Tryz.f308 0)) (xiS (l.map (λn:Int=>[vi n])) f h 0) (Kn h p l).1 (Kn h p l).2:=by
 refine OS l (Yj p) (λi _=>xiS (l.map (λn:Int=>[vi n])) f h (i:Int)) (.exit 0) _ (xiX h) (λi s=>s=i) (by simp) (λ_=>by simp) ?_ ?_ 0 rfl
 ·intro i c s hc hs
  subst hs
  have hi:=(MR.1 hc).1
  refine⟨λs' h=>?_,Kl (rowAt (row:=(λn:Int=>[vi n])) hc rfl) (TG (λn:Int=>[vi n]) hi) (T4 hi hl) (hf c (Ny hc))⟩
  grind [Yj]
 ·intro s hs
  exact Km (be (λn:Int=>[vi n]) l)
theorem xii_ev{l:List Int}(hl:ah l){f:D}{h:List iN}{p:Int->Bool}(hf:∀c∈l,Iv MK At f [aT c] h (iF (p c)) h):(Ev MK At 308 [ab (l.map (λn:Int=>[vi n])),f] h (aT (xiR p l)) h):=by
 have Tv:=(@xi_cw (l) (hl) (f) (h) (p) (hf))
 unfold Kn at Tv
 revert Tv
 cases Vj:Tq (Yj p) l 0 with
 | inl VC =>
  intro Tv
  exact Na (yF (h':=h) (d:=aT (-1)) [.s [0,1,4,7,8] Tv]) (by simp[xiR,Vj]) (by simp[xiR,Vj])
 | inr UD =>
  intro Tv
  exact Na (yF (h':=h) (d:=aT (↑UD:Int)) [.s [0,1,4,7,8] Tv]) (by simp[xiR,Vj]) (by simp[xiR,Vj])
theorem HA(p:Int->Bool)(l:List Int):Zd (xiR p l>=0)=l.any p:=by
 have key:∀(l:List Int) (s:Nat),(match Tq (Yj p) l s with | .inl _=>false | .inr _=>true)=l.any p:=by
  intro l
  induction l with
  | nil=>intro s;rfl
  | cons c l ih =>
   intro s
   simp[Tq,Yj]
   by_cases hp:p c=true
   ·simp[hp]
   simp_all
 rw[<-key l 0]
 grind [xiR]
theorem HB{l:List Int}(hl:ah l){f:D}{h:List iN}{p:Int->Bool}(hf:∀c∈l,Iv MK At f [aT c] h (iF (p c)) h):(Ev MK At 268 [ab (l.map (λn:Int=>[vi n])),f] h (iF (l.any p)) h):=by
 exact Na (yF (h':=h) (d:=iF (Zd (xiR p l>=0))) [.v (@xii_ev l hl f h p hf)]) (by grind [HA]) (by grind)
abbrev ixS(fs:List (List Dp))(v:Int)(i:Int):AS:={t:=DO 19 0 [(0,ab fs),(1,aT v),(4,aT 0),(7,aT fs.length),(8,aT i)],h:=[],m:=[]}
abbrev ixX:Nat->Exit×AS:=λk=>(.ret,{t:=DO 19 0 [(4,aT (k:Int))],h:=[],m:=[]})
theorem Ko{fs:List (List Dp)}{i:Nat}{c v:Int}(hr:ap (i:Int) fs [vi c] 1)(IN:Zd ((i:Int)<(fs.length:Int))=true)(hw:MM.wrap ((i:Int)+1)=((i+1:Nat):Int)):(CW MK At [] false (sub Tryz.f330 0) (ixS fs v i) (af (λ_=>ixS fs v ((i+1:Nat):Int)) ixX (Yj (λc=>v==c) c i)).1 (af (λ_=>ixS fs v ((i+1:Nat):Int)) ixX (Yj (λc=>v==c) c i)).2):=by
 cases Of:v==c
 ·exact yX {t:=DO 19 0 [(0,ab fs),(1,aT v),(4,aT 0),(7,aT (↑(MO fs):Int)),(8,aT (MN MM ((↑i:Int)+1)))],h:=[],m:=[]} M8 [.st (.mask [0,1,4,7,8])] [.b IN,.r hr,.b Of] (by simp only[Yj,Of,af];grind) (by simp only[Yj,Of,af,hw];grind)
 ·refine yX {t:=DO 19 0 [(4,aT (↑i:Int))],h:=[],m:=[]} PL [.st (.mask [4])] [.b IN,.r hr,.b Of] ?_ ?_<;>(simp only[Yj,Of,af];grind)
theorem Kp{fs:List (List Dp)}{i:Nat}{v:Int}(IN:Zd ((i:Int)<(fs.length:Int))=false):(CW MK At [] false (sub Tryz.f330 0) (ixS fs v i) (.exit 0) {t:=DO 19 0 [(4,aT 0)],h:=[],m:=[]}):=by
 exact yx [.st (.mask [4])] [.b IN]
def Kq(v:Int)(l:List Int):Exit×AS:=bu (.exit 0) (λ_:Nat=>{t:=DO 19 0 [(4,aT 0)],h:=[],m:=[]}) ixX (Tq (Yj (λc=>v==c)) l 0)
theorem ix_cw{l:List Int}(hl:ah l){v:Int}:
  CW MK At [] false (.loop (sub Tryz.f330 0)) (ixS (ay l) v 0) (Kq v l).1 (Kq v l).2:=by
 refine OS l (Yj (λc=>v==c)) (λi _=>ixS (ay l) v (i:Int)) (.exit 0) _ ixX (λi s=>s=i) (by simp) (λ_=>by simp) ?_ ?_ 0 rfl
 ·intro i c s hc hs
  subst hs
  have hi:=(MR.1 hc).1
  refine⟨λs' h=>?_,Ko (rowAt (row:=λn:Int=>[vi n]) hc rfl) (TG (λn:Int=>[vi n]) hi) (T4 hi hl)⟩
  grind [Yj]
 ·intro s hs
  exact Kp (be (λn:Int=>[vi n]) l)
theorem FG{l:List Int}(hl:ah l){v:Int}(h:List iN):(Ev MK At 330 [ab (ay l),aT v] h (aT (xiR (λc=>v==c) l)) h):=by
 have Tv:=(@ix_cw (l) (hl) (v))
 unfold Kq at Tv
 revert Tv
 cases Vj:Tq (Yj λc=>v==c) l 0 with
 | inl VC =>
  intro Tv
  exact yD (aT (-1)) [.s [0,1,4,7,8] Tv] h (by simp[xiR,Vj])
 | inr UD =>
  intro Tv
  exact yD (aT (↑UD:Int)) [.s [0,1,4,7,8] Tv] h (by simp[xiR,Vj])
theorem FH(l:List Int)(v:Int):l.any (λc=>v==c)=l.contains v:=by
 grind
theorem zK{l:List Int}(hl:ah l){v:Int}(h:List iN):(Ev MK At 314 [ab (ay l),aT v] h (iF (Zd (xiR (λc=>v==c) l>=0))) h):=by
 exact y0 [.v (@FG l hl v ([]))] h
theorem wx{l:List Int}(hl:ah l){v:Int}(h:List iN):Ev MK At 314 [ab (ay l),aT v] h (iF (l.contains v)) h:=by rw[<-FH,<-HA];exact zK hl h
def xqF(p:T2->Bool)(c:T2)(s:Nat):Nat⊕Nat:=if p c=true then .inr s else .inl (s+1)
abbrev xqS(fs:List (List Dp))(f:D)(h:List iN)(i:Int):AS:={t:=DO 19 0 [(0,ab fs),(1,f),(4,aT 0),(7,aT fs.length),(8,aT i)],h:=h,m:=[]}
abbrev xqX(h:List iN):Nat->Exit×AS:=λk=>(.ret,{t:=DO 19 0 [(4,aT (k:Int))],h:=h,m:=[]})
theorem Kr{fs:List (List Dp)}{i:Nat}{c:T2}{f:D}{h:List iN}{p:T2->Bool}(hr:ap (i:Int) fs (T2.row c) 6)(IN:Zd ((i:Int)<(fs.length:Int))=true)(hw:MM.wrap ((i:Int)+1)=((i+1:Nat):Int))(hi:Iv MK At f [ag (T2.row c)] h (iF (p c)) h):(CW MK At h false (sub Tryz.f302 0) (xqS fs f h i) (af (λ_=>xqS fs f h ((i+1:Nat):Int)) (xqX h) (xqF p c i)).1 (af (λ_=>xqS fs f h ((i+1:Nat):Int)) (xqX h) (xqF p c i)).2):=by
 cases Of:p c
 ·refine yX {t:=DO 19 0 [(0,ab fs),(1,f),(4,aT 0),(7,aT (↑(MO fs):Int)),(8,aT (MN MM ((↑i:Int)+1)))],h:=h,m:=[]} M8 [.st (.mask [0,1,4,7,8])] [.b IN,.r hr,.i (@hi),.b Of] ?_ ?_<;>(simp[xqF,af,hw, *])
 ·refine yX {t:=DO 19 0 [(4,aT (↑i:Int))],h:=h,m:=[]} PL [.st (.mask [4])] [.b IN,.r hr,.i (@hi),.b Of] ?_ ?_<;>(simp[xqF,af,hw, *])
theorem Ks{fs:List (List Dp)}{i:Nat}{f:D}{h:List iN}(IN:Zd ((i:Int)<(fs.length:Int))=false):(CW MK At h false (sub Tryz.f302 0) (xqS fs f h i) (.exit 0) {t:=DO 19 0 [(4,aT 0)],h:=h,m:=[]}):=by
 exact yx [.st (.mask [4])] [.b IN]
def xqR(p:T2->Bool)(l:List T2):Int:=match Tq (xqF p) l 0 with | .inl _ => -1 | .inr k=>(k:Int)
def Kt(h:List iN)(p:T2->Bool)(l:List T2):Exit×AS:=bu (.exit 0) (λ_:Nat=>{t:=DO 19 0 [(4,aT 0)],h:=h,m:=[]}) (xqX h) (Tq (xqF p) l 0)
theorem xq_cw{l:List T2}(hl:ah l){f:D}{h:List iN}{p:T2->Bool}(hf:∀c∈l,Iv MK At f [ag (T2.row c)] h (iF (p c)) h):
  CW MK At h false (.loop (sub Tryz.f302 0)) (xqS (l.map T2.row) f h 0) (Kt h p l).1 (Kt h p l).2:=by
 refine OS l (xqF p) (λi _=>xqS (l.map T2.row) f h (i:Int)) (.exit 0) _ (xqX h) (λi s=>s=i) (by simp) (λ_=>by simp) ?_ ?_ 0 rfl
 ·intro i c s hc hs
  subst hs
  have hi:=(MR.1 hc).1
  refine⟨λs' h=>?_,Kr (rowAt hc rfl) (TG T2.row hi) (T4 hi hl) (hf c (Ny hc))⟩
  grind [xqF]
 ·intro s hs
  exact Ks (be T2.row l)
theorem xqi_ev{l:List T2}(hl:ah l){f:D}{h:List iN}{p:T2->Bool}(hf:∀c∈l,Iv MK At f [ag (T2.row c)] h (iF (p c)) h):(Ev MK At 302 [ab (l.map T2.row),f] h (aT (xqR p l)) h):=by
 have Tv:=(@xq_cw (l) (hl) (f) (h) (p) (hf))
 unfold Kt at Tv
 revert Tv
 cases Vj:Tq (xqF p) l 0 with
 | inl VC =>
  intro Tv
  exact Na (yF (h':=h) (d:=aT (-1)) [.s [0,1,4,7,8] Tv]) (by simp[xqR,Vj]) (by simp[xqR,Vj])
 | inr UD =>
  intro Tv
  exact Na (yF (h':=h) (d:=aT (↑UD:Int)) [.s [0,1,4,7,8] Tv]) (by simp[xqR,Vj]) (by simp[xqR,Vj])
theorem xq_any(p:T2->Bool)(l:List T2):∀k:Nat,(match Tq (xqF p) l k with | .inl _=>false | .inr _=>true)=l.any p:=by
 induction l with
 | nil=>intro k;rfl
 | cons f l ih =>
  intro k
  rw[List.any_cons]
  cases hf:p f
  ·simp[Tq,xqF,hf]
   exact ih (k+1)
  ·simp[Tq,xqF,hf]
theorem xqR_ge(p:T2->Bool)(l:List T2):Zd (xqR p l>=0)=l.any p:=by
 rw[<-xq_any p l 0,xqR]
 split<;>simp
theorem xqc_ev{l:List T2}(hl:ah l){f:D}{h:List iN}{p:T2->Bool}(hf:∀c∈l,Iv MK At f [ag (T2.row c)] h (iF (p c)) h):(Ev MK At 247 [ab (l.map T2.row),f] h (iF (l.any p)) h):=by
 exact Na (yF (h':=h) (d:=iF (Zd (xqR p l>=0))) [.v (@xqi_ev l hl f h p hf)]) (by grind [xqR_ge]) (by grind)
theorem FI{n:Int}(h:List iN):(Ev MK At 249 [aT n] h (iF (U3 n 0 4095)) h):=by
 exact y0 [.v (@bn n 0 4095 ([]))] h
noncomputable abbrev ow:List iN:=[.var [fq 249]]
theorem FJ{n:Int}:(Ev MK At 303 [aT n,.ref (.ptr 0 0)] [.var [UZ 249]] (iF (!U3 n 0 4095)) [.var [UZ 249]]):=by
 exact Na (yT (h':=ow) (d:=iF !U3 n 0 4095) [.v (@FI n ow)]) (by rfl) (by rfl)
theorem FK{l:List Int}:∀c∈l,Iv MK At (.fn (.func 303) [] [.ref (.ptr 0 0)]) [aT c] [.var [UZ 249]] (iF (!U3 c 0 4095)) [.var [UZ 249]]:=λc hm=>Iv.of Ug rfl (by kernel_rfl) FJ
noncomputable abbrev zL:List iN:=[.var [fq 249]]
theorem Ku{l:List Int}(hl:ah l)(hf:∀c∈l,Iv MK At (.fn (.func 303) [] [.ref (.ptr 0 0)]) [aT c] [.var [UZ 249]] (iF (!U3 c 0 4095)) [.var [UZ 249]])(h:List iN):(Ev MK At 250 [ab (ay l),UZ 249] h (iF (!l.any λc=>!U3 c 0 4095)) h):=by
 exact y0 [.v (@HB l hl (Ot (Nl 303) [] [.ref (.ptr 0 0)]) zL (λc=>!U3 c 0 4095) hf)] h
def frmB(q:T2):Bool:=!q.Do.any λc=>!U3 c 0 4095
def lT(q:T2):Bool:=U3 q.oF 1 10000&&U3 q.IF 0 12&&frmB q
noncomputable abbrev la(q:T2):List iN:=[.var [aq q.nm,aT q.oF,aT q.IF,iF q.home,ab q.names,ab (ay q.Do)]]
theorem Kv{q:T2}(hc:∀c∈q.Do,Iv MK At (.fn (.func 303) [] [.ref (.ptr 0 0)]) [aT c] [.var [UZ 249]] (iF (!U3 c 0 4095)) [.var [UZ 249]])(hq:ah q.Do)(h:List iN):(Ev MK At 174 [ag q.row] h (iF (lT q)) h):=by
 exact y0 [.v (@bn (q.oF) 1 10000 (la q)),.w (Zd (q.oF>=1)&&Zd (q.oF<=10000)) (@bn (q.IF) 0 12 (la q)),.w (Zd (q.oF>=1)&&Zd (q.oF<=10000)&&(Zd (q.IF>=0)&&Zd (q.IF<=12))) (@Ku (q.Do) hq hc (la q))] h
noncomputable abbrev wy(q:T2):List iN:=[.var [fq 174],.var [aq q.nm,aT q.oF,aT q.IF,iF q.home,ab q.names,ab (ay q.Do)]]
theorem FL{q:T2}(hq:ah q.Do)(hc:∀c∈q.Do,Iv MK At (.fn (.func 303) [] [.ref (.ptr 0 0)]) [aT c] [.var [UZ 249]] (iF (!U3 c 0 4095)) [.var [UZ 249]]):(Ev MK At 248 [ag q.row,.ref (.ptr 0 0)] [.var [UZ 174]] (iF (!lT q)) [.var [UZ 174]]):=by
 exact Na (yT (h':=[.var [fq 174]]) (d:=iF !lT q) [.v (@Kv q hc hq (wy q))]) (by rfl) (by rfl)
theorem yc{l:List T2}(ha:∀q∈l,q.ok):∀q∈l,Iv MK At (.fn (.func 248) [] [.ref (.ptr 0 0)]) [ag q.row] [.var [UZ 174]] (iF (!lT q)) [.var [UZ 174]]:=λq hm=>Iv.of Ug rfl (by kernel_rfl) (FL (ha q hm).sf FK)
noncomputable abbrev wz:List iN:=[.var [fq 174]]
theorem FM{l:List T2}(hl:ah l)(hf:∀q∈l,Iv MK At (.fn (.func 248) [] [.ref (.ptr 0 0)]) [ag q.row] [.var [UZ 174]] (iF (!lT q)) [.var [UZ 174]])(h:List iN):(Ev MK At 173 [ab (l.map T2.row),UZ 174] h (iF (!l.any λq=>!lT q)) h):=by
 exact y0 [.v (@xqc_ev l hl (Ot (Nl 248) [] [.ref (.ptr 0 0)]) wz (λq=>!lT q) hf)] h
def oN.row(p:oN):List Dp:=[vs p.nm,vi p.number,vi p.T3,vi p.ON,vi p.num,vi p.den,.sl (p.reqs.map T2.row)]
def HC(a b:Int):Bool:=dS a b==0&&U3 a 0 (MM.wrap (12*b))
def iB(n a b:Int):Bool:=Zd (a<=n)&&Zd (n<=b)
def wA(p:oN):Bool:=iB p.number 0 255&&iB p.T3 1 4&&iB p.ON 0 10000&&HC p.num p.den&&Zd ((p.reqs.length:Int)<=64)&&(!p.reqs.any λq=>!lT q)
noncomputable abbrev eD(p:oN):List iN:=[.var [aq p.nm,aT p.number,aT p.T3,aT p.ON,aT p.num,aT p.den,ab (ML T2.row p.reqs)]]
theorem FN{p:oN}(hp:p.ok)(hf:∀q∈p.reqs,Iv MK At (.fn (.func 248) [] [.ref (.ptr 0 0)]) [ag q.row] [.var [UZ 174]] (iF (!lT q)) [.var [UZ 174]])(h:List iN):(Ev MK At 100 [ag p.row] h (iF (wA p)) h):=by
 refine yD (iF (Zd (p.number>=0)&&Zd (p.number<=255)&&(Zd (p.T3>=1)&&Zd (p.T3<=4))&&(Zd (p.ON>=0)&&Zd (p.ON<=10000))&&(dS p.num p.den==0&&U3 p.num 0 (MN MM (12*p.den)))&&Zd ((↑(MO (ML T2.row p.reqs)):Int)<=64)&&!List.any p.reqs λq=>!lT q)) [.v (@bn (p.number) 0 255 (eD p)),.w (Zd (p.number>=0)&&Zd (p.number<=255)) (@bn (p.T3) 1 4 (eD p)),.w (Zd (p.number>=0)&&Zd (p.number<=255)&&(Zd (p.T3>=1)&&Zd (p.T3<=4))) (@bn (p.ON) 0 10000 (eD p)),.w (Zd (p.number>=0)&&Zd (p.number<=255)&&(Zd (p.T3>=1)&&Zd (p.T3<=4))&&(Zd (p.ON>=0)&&Zd (p.ON<=10000))) (@xX (p.num) (p.den) ?_ ?_ (eD p)),.w (Zd (p.number>=0)&&Zd (p.number<=255)&&(Zd (p.T3>=1)&&Zd (p.T3<=4))&&(Zd (p.ON>=0)&&Zd (p.ON<=10000))&&(dS p.num p.den==0&&U3 p.num 0 (MN MM (12*p.den)))&&Zd ((↑(MO (ML T2.row p.reqs)):Int)<=64)) (@FM (p.reqs) ?_ hf (eD p))] h (by grind [wA,HC,iB])<;>(first|exact hp.nm|exact hp.dn|exact hp.sr)
noncomputable abbrev wB(p:oN)(n:Int):List iN:=[.var [aT n],.var [aq p.nm,aT p.number,aT p.T3,aT p.ON,aT p.num,aT p.den,ab (ML T2.row p.reqs)]]
theorem FO{p:oN}(hp:p.ok)(hf:∀q∈p.reqs,Iv MK At (.fn (.func 248) [] [.ref (.ptr 0 0)]) [ag q.row] [.var [UZ 174]] (iF (!lT q)) [.var [UZ 174]]){n:Int}:(Ev MK Or 99 [ag p.row,.ref (.ptr 0 0)] [.var [aT n]] (iF (p.number==n&&wA p)) [.var [aT n]]):=by
 exact Na (yT (h':=[.var [aT n]]) (d:=iF (p.number==n&&wA p)) [.w (p.number==n) (M9 (Γ':=Or) (@FN p hp hf (wB p n)))]) (by rfl) (by rfl)
def oN.zero:oN:=⟨⟨#[]⟩,0,0,0,0,0,[]⟩
theorem oN.WO:oN.zero.ok:=⟨by simp[oN.zero,ah],by simp[oN.zero],by simp[oN.zero,U5],by simp[oN.zero,U5]⟩
theorem yd{l:List oN}(h:∀x∈l,x.ok)(n:Nat):(l.getD n default).ok:=by
 rcases Nat.lt_or_ge n l.length with hn|hn
 ·grind
 ·rw[MT,List.getElem?_eq_none hn];exact oN.WO
def lU(n:Int)(p:oN):Bool:=p.number==n&&wA p
noncomputable abbrev lp0_x0(w:iS)(n:Int):List iN:=[.var [aT n],.var [ab (ML MX w.c),ab w.p,ab (ML M4 w.s),ab (ML MY w.f)],.var [aT 3,aT n,aT 0],.var [aq {data:=#[]},aT 0,aT 0,aT 0,aT 0,aT 0,nq]]
theorem lp0{w:iS}{ps:List oN}{n bV bv:Int}(ht:(!(Zd (bV>=0)&&Zd (bV<=1023)))=true):(Ev MK Or 101 [.agg w.l,ab (ps.map oN.row),.agg [aT 3,aT n,aT 0],aT bV,aT bv,.fn (.func 99) [] [.ref (.ptr 0 0)]] [.var [aT n]] (.Tt [ag oN.zero.row,ab [],iF false]) [.var [aT n]]):=by
 exact Na (OL (yT (h':=[.var [aT n]]) (d:=Nt [Nk [aq {data:=#[]},aT 0,aT 0,aT 0,aT 0,aT 0,nq],nq,iF false]) [.v (M9 (Γ':=Or) (@bn bV 0 1023 (lp0_x0 w n))),.b ht])) (by rfl) (by rfl)
noncomputable abbrev HD(ps:List oN)(v:Int):List D:=[Nk [aq (MT ps (MP v) default).nm,aT (MT ps (MP v) default).number,aT (MT ps (MP v) default).T3,aT (MT ps (MP v) default).ON,aT (MT ps (MP v) default).num,aT (MT ps (MP v) default).den,ab (ML T2.row (MT ps (MP v) default).reqs)],.ref (.ptr 0 0)]
noncomputable abbrev qv(w:iS)(n:Int):List iN:=[.var [aT n],.var [ab (ML MX w.c),ab w.p,ab (ML M4 w.s),ab (ML MY w.f)],.var [aT 3,aT n,aT 0],.var [aq {data:=#[]},aT 0,aT 0,aT 0,aT 0,aT 0,nq],.T1]
noncomputable abbrev HE(w:iS)(n:Int):List iN:=[.var [aT n],.var [ab (ML MX w.c),ab w.p,ab (ML M4 w.s),ab (ML MY w.f)],.var [aT 3,aT n,aT 0],.var [aq {data:=#[]},aT 0,aT 0,aT 0,aT 0,aT 0,nq]]
theorem lp1{w:iS}{ps:List oN}{n bV bv v:Int}{b:Bool}(ht:(!(Zd (bV>=0)&&Zd (bV<=1023)))=false)(Xt:∀h,Ev MK Or 106 (atA w 3 n 0 bV bv) h (.Tt [aT v,iF b]) h)(hs:∀x∈ps,x.ok)(hf:∀p∈ps,∀q∈p.reqs,Iv MK At (.fn (.func 248) [] [.ref (.ptr 0 0)]) [ag q.row] [.var [UZ 174]] (iF (!lT q)) [.var [UZ 174]])(hi:Ev MK Or 99 [ag (ps.getD v.toNat default).row,.ref (.ptr 0 0)] [.var [aT n]] (iF (lU n (ps.getD v.toNat default))) [.var [aT n]]):(Ev MK Or 101 [.agg w.l,ab (ps.map oN.row),.agg [aT 3,aT n,aT 0],aT bV,aT bv,.fn (.func 99) [] [.ref (.ptr 0 0)]] [.var [aT n]] (.Tt [ag (gE ps (lU n) oN.zero (v,b)).1.row,ab (pf 3 n 0 bV (MM.wrap (bV+1))),iF (gE ps (lU n) oN.zero (v,b)).2]) [.var [aT n]]):=by
 cases Of:!b||Zd (v<0)||Zd (v>=(↑(MO (ML oN.row ps)):Int))||!lU n (MT ps (MP v) default)
 ·let v0:=MT ps (MP v) default
  let v1:=ML T2.row v0.reqs
  refine Na (OL (yT (h':=[.var [aT n]]) (d:=Nt [Nk [aq v0.nm,aT v0.number,aT v0.T3,aT v0.ON,aT v0.num,aT v0.den,ab v1],ab [[vi 3,vi n,vi 0,vi bV,vi (MN MM (bV+1))]],iF true]) [.v (M9 (Γ':=Or) (@bn bV 0 1023 (HE w n))),.b ht,pr [[aT 3,aT n,aT 0,aT bV,aT (MN MM (bV+1))]],.n 1,.o (.Vw 4 (pf 3 n 0 bV (MN MM (bV+1)))),.v (@Xt (qv w n)),((λhg=>?_):(!(!b||Zd (v<0)||Zd (v>=(↑(MO (ML oN.row ps)):Int))))=true->ap v (ML oN.row ps) [vs v0.nm,vi v0.number,vi v0.T3,vi v0.ON,vi v0.num,vi v0.den,Om v1] 7),.a1 (.row [vs v0.nm,vi v0.number,vi v0.T3,vi v0.ON,vi v0.num,vi v0.den,Om v1]),.w (!(!b||Zd (v<0)||Zd (v>=(↑(MO (ML oN.row ps)):Int)))) (fX [0] (@hi) trivial trivial:Ev MK Or 99 (HD ps v) (qv w n) (iF (lU n v0)) (qv w n)),.b Of,.r (?_:ap v (ML oN.row ps) [vs v0.nm,vi v0.number,vi v0.T3,vi v0.ON,vi v0.num,vi v0.den,Om v1] 7)])) (by subst v0 v1;(have hb:ic ps (lU n) (v,b)=false:=by rw[<-Of];simp[ic]);simp only[gE,hb];rfl) (by subst v0 v1;grind)<;>subst v0 v1<;>(refine bW (λ_=>rfl) ?_ ?_<;>simp_all;done)
 ·let v0:=MT ps (MP v) default
  exact Na (OL (yT (h':=[.var [aT n]]) (d:=Nt [Nk [aq {data:=#[]},aT 0,aT 0,aT 0,aT 0,aT 0,nq],ab [[vi 3,vi n,vi 0,vi bV,vi (MN MM (bV+1))]],iF false]) [.v (M9 (Γ':=Or) (@bn bV 0 1023 (HE w n))),.b ht,pr [[aT 3,aT n,aT 0,aT bV,aT (MN MM (bV+1))]],.n 1,.o (.Vw 4 (pf 3 n 0 bV (MN MM (bV+1)))),.v (@Xt (qv w n)),((λhg=>(by subst v0;(refine bW (λ_=>rfl) ?_ ?_<;>simp_all;done))):(!(!b||Zd (v<0)||Zd (v>=(↑(MO (ML oN.row ps)):Int))))=true->ap v (ML oN.row ps) [vs v0.nm,vi v0.number,vi v0.T3,vi v0.ON,vi v0.num,vi v0.den,Om (ML T2.row v0.reqs)] 7),.a1 (.row [vs v0.nm,vi v0.number,vi v0.T3,vi v0.ON,vi v0.num,vi v0.den,Om (ML T2.row v0.reqs)]),.w (!(!b||Zd (v<0)||Zd (v>=(↑(MO (ML oN.row ps)):Int)))) (fX [0] (@hi) trivial trivial:Ev MK Or 99 (HD ps v) (qv w n) (iF (lU n v0)) (qv w n)),.b Of])) (by subst v0;(have hb:ic ps (lU n) (v,b)=true:=by rw[<-Of];simp[ic]);simp[gE,hb];rfl) (by subst v0;grind)<;>subst v0
def aQ(w:iS)(ps:List oN)(n bV bv:Int):oN×Bool:=match Ye bV with
 | true=>(oN.zero,false)
 | false=>gE ps (lU n) oN.zero (atR 3 n 0 bV bv w.f)
theorem vp157{ps:List oN}(hs:∀x∈ps,x.ok){n:Int}(k:Nat):Ev MK Or 99 [ag (ps.getD k default).row,.ref (.ptr 0 0)] [.var [aT n]] (iF (lU n (ps.getD k default))) [.var [aT n]] :=
 FO (yd hs k) (yc (yd hs k).rq)
theorem zM{w:iS}(hw:w.ok){ps:List oN}(hs:∀x∈ps,x.ok){n bV bv:Int}:Ev MK Or 101 [.agg w.l,ab (ps.map oN.row),.agg [aT 3,aT n,aT 0],aT bV,aT bv,.fn (.func 99) [] [.ref (.ptr 0 0)]] [.var [aT n]] (.Tt [ag (aQ w ps n bV bv).1.row,ab (gg 3 n 0 bV),iF (aQ w ps n bV bv).2]) [.var [aT n]]:=by
 unfold aQ gg
 cases ht:Ye bV with
 | true=>exact lp0 ht
 | false=>exact lp1 ht (λh=>M9 (zh hw.sf h)) hs (λp hp=>yc (hs p hp).rq) (vp157 hs _)
noncomputable abbrev lF(w:iS)(n:Int):List iN:=[.var [ab (ML MX w.c),ab w.p,ab (ML M4 w.s),ab (ML MY w.f)],.var [aT n],.var [aq {data:=#[]},aT 0,aT 0,aT 0,aT 0,aT 0,nq]]
theorem Cw{w:iS}{n bV bv:Int}{q:oN}{rd:List (List Dp)}{b:Bool}(hl:Ev MK Or 101 [.agg w.l,ab w.p,.agg [aT 3,aT n,aT 0],aT bV,aT bv,.fn (.func 99) [] [.ref (.ptr 0 0)]] [.var [aT n]] (.Tt [ag q.row,ab rd,iF b]) [.var [aT n]])(h:List iN):(Ev MK Or 40 [.agg w.l,aT n,aT bV,aT bv] h (.Tt [ag q.row,ab rd,iF b]) h):=by
 exact y0 [.v ((fX [1] (@hl) trivial trivial):Ev MK Or 101 [Nk (Nz w),ab w.p,Nk [aT 3,aT n,aT 0],aT bV,aT bv,Ot (Nl 99) [] [.ref (.ptr 1 0)]] (lF w n) (Nt [Nk [aq q.nm,aT q.number,aT q.T3,aT q.ON,aT q.num,aT q.den,ab (ML T2.row q.reqs)],ab rd,iF b]) (lF w n))] h
theorem wC{w:iS}(hw:w.ok){ps:List oN}(hwp:w.p=ps.map oN.row)(hs:∀x∈ps,x.ok){n bV bv:Int}(h:List iN):Ev MK Or 40 [.agg w.l,aT n,aT bV,aT bv] h (.Tt [ag (aQ w ps n bV bv).1.row,ab (gg 3 n 0 bV),iF (aQ w ps n bV bv).2]) h :=
 Cw (hwp▸zM hw hs) h
abbrev ctS(x:Vf)(dep n i:Int):AS:={t:=DO 37 0 [(1,aT dep),(2,.ref (.ptr 0 0)),(5,aT n),(6,aT i)],h:=[.var x.l],m:=[]}
abbrev ctE(n:Int):AS:={t:=DO 37 0 [(5,aT n)],h:=[],m:=[]}
noncomputable abbrev qw(x:Vf):List iN:=[.var [aT x.op,aT x.c,aq x.nm,aT x.n,aT x.d,ab x.ks]]
theorem Kw{x y:Vf}{dep n m:Int}{i:Nat}(hr:ap (i:Int) x.ks y.row 6)(hc:(Zd ((i:Int)<(x.ks.length:Int))&&Zd (n<300))=true)(hw:MM.wrap ((i:Int)+1)=((i+1:Nat):Int))(hk:∀h,Ev MK At 213 [.agg y.l,aT (MM.wrap (dep+1))] h (aT m) h):(CW MK At [] false (sub RE 0) (ctS x dep n i) .normal (ctS x dep (MM.wrap (n+m)) ((i+1:Nat):Int))):=by
 exact yX {t:=DO 37 0 [(1,aT dep),(2,.ref (.ptr 0 0)),(5,aT (MN MM (n+m))),(6,aT (MN MM ((↑i:Int)+1)))],h:=(qw x),m:=[]} M8 [.st (.mask [1,2,5,6])] [.b hc,.r hr,.v (@hk (qw x))] (by grind) (by(rw[hw];first|done|rfl))
theorem Cx{x:Vf}{dep n:Int}{i:Nat}(hc:(Zd ((i:Int)<(x.ks.length:Int))&&Zd (n<300))=false):(CW MK At [] false (sub RE 0) (ctS x dep n i) (.exit 0) (ctE n)):=by
 exact yx [.st (.mask [5]),.st (.trim 0)] [.b hc]
theorem ct_a{x:Vf}{dep n:Int}(hb:(Zd (dep>40)||Zd ((x.ks.length:Int)>300))=false)(hl:CW MK At [] false (.loop (sub RE 0)) (ctS x dep 1 0) (.exit 0) (ctE n))(h:List iN):(Ev MK At 213 [.agg x.l,aT dep] h (aT n) h):=by
 have Tv:=(@hl)
 exact y0 [.b hb,.s [1,2,5,6] Tv] h
theorem ct_b{x:Vf}{dep:Int}(hb:(Zd (dep>40)||Zd ((x.ks.length:Int)>300))=true)(h:List iN):(Ev MK At 213 [.agg x.l,aT dep] h (aT 300) h):=by
 exact y0 [.b hb] h
def cnF(g:BV->Int)(k:BV)(n:Int):Int⊕Int:=bif Zd (n<300) then .inl (MM.wrap (n+g k)) else .inr n
abbrev cnX:Int->Exit×AS:=λn=>(.exit 0,ctE n)
theorem cnFin(p:Int⊕Int):∃n,bu (.exit 0) (λn=>ctE n) cnX p=(.exit 0,ctE n):=by
 cases p with
 | inl n=>exact⟨n,rfl⟩
 | inr n=>exact⟨n,rfl⟩
theorem ct_cw{x:Vf}{ks:List BV}(hx:x.ks=ks.map BV.row)(hl:ah ks){dep:Int}{g:BV->Int}(hk:∀k∈ks,∀h,Ev MK At 213 [.agg k.fl.l,aT (MM.wrap (dep+1))] h (aT (g k)) h):
  ∃n,CW MK At [] false (.loop (sub RE 0)) (ctS x dep 1 0) (.exit 0) (ctE n):=by
 have:=OS (P:=MK) (Γ:=At) (h0:=[]) (rd:=false) (c:=sub RE 0) ks (cnF g) (λi n=>ctS x dep n (i:Int)) (.exit 0) (λn=>ctE n) cnX (λ_ _=>True) (by simp) (λ_=>by simp[cnX]) ?_ ?_ 1 trivial
 ·obtain⟨n,hn⟩:=cnFin (Tq (cnF g) ks 1)
  grind
 ·intro i k n hp _
  obtain⟨hi,hpe⟩:=MR.1 hp
  have hlen:x.ks.length=ks.length:=by rw[hx];simp
  have h1:Zd ((i:Int)<(x.ks.length:Int))=true:=by simp;omega
  refine⟨λ_ _=>trivial,?_⟩
  cases hn:Zd (n<300) with
  | true =>
   unfold cnF
   rw[hn]
   refine Kw (y:=k.fl) ?_ (by grind) (T4 hi hl) (hk k (by grind))
   rw[hx,BV.ζ]
   exact rowAt hp (by cases k;simp[BV.row])
  | false =>
   unfold cnF
   rw[hn]
   exact Cx (by rw[hn];simp)
 ·intro n _
  exact Cx (by rw[hx];simp)
mutual
theorem HF:∀(r:BV),r.ok->∀dep,∃m,∀h,Ev MK At 213 [.agg r.fl.l,aT dep] h (aT m) h
 | .mk op c nm n d ks,hr,dep=>by
  simp[BV.ok] at hr
  have hs:=Cy ks hr.2 (MM.wrap (dep+1))
  cases hb:(Zd (dep>40)||Zd (((BV.mk op c nm n d ks).fl.ks.length:Int)>300)) with
  | true=>exact⟨_,λh=>ct_b hb h⟩
  | false =>
   have:∃g:BV->Int,∀k∈ks,∀h,Ev MK At 213 [.agg k.fl.l,aT (MM.wrap (dep+1))] h (aT (g k)) h:=by
    classical
    refine⟨λk=>if hk:k∈ks then Ql (hs k hk) else 0,λk hk h=>?_⟩
    grind
   obtain⟨g,hg⟩:=this
   obtain⟨m,hm⟩:=ct_cw (x:=(BV.mk op c nm n d ks).fl) (ks:=ks) (dep:=dep) (by simp[M1,eA]) hr.1.2.2.2.2 hg
   exact⟨m,λh=>ct_a hb hm h⟩
theorem Cy:∀(ks:List BV),iJ ks->∀dep,∀k∈ks,∃m,∀h,Ev MK At 213 [.agg k.fl.l,aT dep] h (aT m) h
 | [],_,_,k,hk=>by simp at hk
 | a::ks,hs,dep,k,hk=>by
  simp[iJ] at hs
  have h1:=HF a hs.1 dep
  have h2:=Cy ks hs.2 dep
  rcases List.mem_cons.1 hk with rfl|hk
  ·exact h1
  ·exact h2 k hk
end
noncomputable abbrev Cz(x:Vf):List iN:=[.var [aT x.op,aT x.c,aq x.nm,aT x.n,aT x.d,ab x.ks]]
theorem fewr_a{x:Vf}{n:Int}(hk:∀h,Ev MK At 213 [.agg x.l,aT 0] h (aT n) h)(h:List iN):(Ev MK At 128 [.agg x.l] h (iF (Zd (n<250)&&Zd ((x.nm.size:Int)<=100))) h):=by
 exact y0 [.v (@hk (Cz x))] h
theorem CA{r:BV}(hr:r.ok):∃b,∀h,Ev MK At 128 [.agg r.fl.l] h (iF b) h:=by
 obtain⟨n,hn⟩:=HF r hr 0
 exact⟨_,λh=>fewr_a hn h⟩
abbrev bkL(cs:List IS)(ps:List oN)(ss:List TK):List D:=[ab (cs.map MX),ab (ps.map oN.row),ab (ss.map M4)]
abbrev fbS(cs:List IS)(ps:List oN)(ss:List TK)(i:Int):AS:={t:=DO 61 0 [(1,.ref (.ptr 0 0)),(3,aT i)],h:=[.var (bkL cs ps ss)],m:=[]}
abbrev fbE(cs:List IS)(ps:List oN)(ss:List TK):AS:={t:=DO 61 0 [(1,.ref (.ptr 0 0))],h:=[.var (bkL cs ps ss)],m:=[]}
abbrev fbX:Unit->Exit×AS:=λ_=>(.ret,{t:=DO 61 0 [(2,iF false)],h:=[],m:=[]})
noncomputable abbrev ox(cs:List IS)(ps:List oN)(ss:List TK):List iN:=[.var [ab (ML MX cs),ab (ML oN.row ps),ab (ML M4 ss)]]
theorem FP{cs:List IS}{ps:List oN}{ss:List TK}{c:IS}{b1 b2:Bool}{i:Nat}(hr:ap (i:Int) (cs.map MX) c.row 16)(IN:Zd ((i:Int)<((cs.map MX).length:Int))=true)(hb:(!b1||!b2)=true)
 (k1:∀h,Ev MK At 128 [.agg c.T0.fl.l] h (iF b1) h) (k2:∀h,Ev MK At 128 [.agg c.TM.fl.l] h (iF b2) h):(CW MK At [] false (sub Pb 0) (fbS cs ps ss i) .ret {t:=DO 61 0 [(2,iF false)],h:=[],m:=[]}):=by
 exact yx [.st (.mask [2]),.st (.trim 0)] [.b IN,.r hr,.v (@k1 (ox cs ps ss)),((λhg=>hr):(!!b1)=true->ap (↑i:Int) (ML MX cs) [vs c.name,vi c.number,vi c.oF,vi c.rep,vi (M1 c.T0).op,vi (M1 c.T0).c,vs (M1 c.T0).nm,vi (M1 c.T0).n,vi (M1 c.T0).d,Om (M1 c.T0).ks,vi (M1 c.TM).op,vi (M1 c.TM).c,vs (M1 c.TM).nm,vi (M1 c.TM).n,vi (M1 c.TM).d,Om (M1 c.TM).ks] 16),.a1 (.row [vs c.name,vi c.number,vi c.oF,vi c.rep,vi (M1 c.T0).op,vi (M1 c.T0).c,vs (M1 c.T0).nm,vi (M1 c.T0).n,vi (M1 c.T0).d,Om (M1 c.T0).ks,vi (M1 c.TM).op,vi (M1 c.TM).c,vs (M1 c.TM).nm,vi (M1 c.TM).n,vi (M1 c.TM).d,Om (M1 c.TM).ks]),.w (!!b1) (@k2 (ox cs ps ss)),.b hb]
noncomputable abbrev iM(cs:List IS)(ps:List oN)(ss:List TK):List iN:=[.var [ab (ML MX cs),ab (ML oN.row ps),ab (ML M4 ss)]]
theorem FQ{cs:List IS}{ps:List oN}{ss:List TK}{c:IS}{b1 b2:Bool}{i:Nat}(hr:ap (i:Int) (cs.map MX) c.row 16)(IN:Zd ((i:Int)<((cs.map MX).length:Int))=true)(hb:(!b1||!b2)=false)(hw:MM.wrap ((i:Int)+1)=((i+1:Nat):Int))
 (k1:∀h,Ev MK At 128 [.agg c.T0.fl.l] h (iF b1) h) (k2:∀h,Ev MK At 128 [.agg c.TM.fl.l] h (iF b2) h):(CW MK At [] false (sub Pb 0) (fbS cs ps ss i) .normal (fbS cs ps ss ((i+1:Nat):Int))):=by
 refine yX {t:=DO 61 0 [(1,.ref (.ptr 0 0)),(3,aT (MN MM ((↑i:Int)+1)))],h:=(iM cs ps ss),m:=[]} M8 [.st (.mask [1,3])] [.b IN,.r hr,.v (@k1 (iM cs ps ss)),((λhg=>hr):(!!b1)=true->ap (↑i:Int) (ML MX cs) [vs c.name,vi c.number,vi c.oF,vi c.rep,vi (M1 c.T0).op,vi (M1 c.T0).c,vs (M1 c.T0).nm,vi (M1 c.T0).n,vi (M1 c.T0).d,Om (M1 c.T0).ks,vi (M1 c.TM).op,vi (M1 c.TM).c,vs (M1 c.TM).nm,vi (M1 c.TM).n,vi (M1 c.TM).d,Om (M1 c.TM).ks] 16),.a1 (.row [vs c.name,vi c.number,vi c.oF,vi c.rep,vi (M1 c.T0).op,vi (M1 c.T0).c,vs (M1 c.T0).nm,vi (M1 c.T0).n,vi (M1 c.T0).d,Om (M1 c.T0).ks,vi (M1 c.TM).op,vi (M1 c.TM).c,vs (M1 c.TM).nm,vi (M1 c.TM).n,vi (M1 c.TM).d,Om (M1 c.TM).ks]),.w (!!b1) (@k2 (iM cs ps ss)),.b hb] ?_ ?_<;>(grind)
theorem Kx{cs:List IS}{ps:List oN}{ss:List TK}{i:Nat}(IN:Zd ((i:Int)<((cs.map MX).length:Int))=false):(CW MK At [] false (sub Pb 0) (fbS cs ps ss i) (.exit 0) (fbE cs ps ss)):=by
 exact yx [.st (.mask [1])] [.b IN]
def fbF(B:BV->Bool)(c:IS)(_:Unit):Unit⊕Unit:=bif !B c.T0||!B c.TM then .inr () else .inl ()
def Ky(B:BV->Bool)(cs:List IS)(ps:List oN)(ss:List TK):Exit×AS:=bu (.exit 0) (λ_:Unit=>fbE cs ps ss) fbX (Tq (fbF B) cs ())
theorem fb_cw{cs:List IS}{ps:List oN}{ss:List TK}{B:BV->Bool}(hl:ah cs)(hk:∀c∈cs,(∀h,Ev MK At 128 [.agg c.T0.fl.l] h (iF (B c.T0)) h)/\∀h,Ev MK At 128 [.agg c.TM.fl.l] h (iF (B c.TM)) h):
  CW MK At [] false (.loop (sub Pb 0)) (fbS cs ps ss 0) (Ky B cs ps ss).1 (Ky B cs ps ss).2:=by
 have:=OS (P:=MK) (Γ:=At) (h0:=[]) (rd:=false) (c:=sub Pb 0) cs (fbF B) (λi _=>fbS cs ps ss (i:Int)) (.exit 0) (λ_:Unit=>fbE cs ps ss) fbX (λ_ _=>True) (by simp) (λ_=>by simp) ?_ ?_ () trivial
 ·exact this
 ·intro i c u hp _
  obtain⟨hi,hpe⟩:=MR.1 hp
  have hm:c∈cs:=by subst hpe;exact List.getElem_mem hi
  refine⟨λ_ _=>trivial,?_⟩
  unfold fbF
  cases hb:(!B c.T0||!B c.TM) with
  | true=>exact FP (rowAt hp rfl) (TG MX hi) hb (hk c hm).1 (hk c hm).2
  | false=>exact FQ (rowAt hp rfl) (TG MX hi) hb (T4 hi hl) (hk c hm).1 (hk c hm).2
 ·intro u _
  exact Kx (be MX cs)
abbrev fpS(cs:List IS)(ps:List oN)(ss:List TK)(i:Int):AS:={t:=DO 61 0 [(1,.ref (.ptr 0 0)),(4,aT i)],h:=[.var (bkL cs ps ss)],m:=[]}
theorem FR{cs:List IS}{ps:List oN}{ss:List TK}{p:oN}{i:Nat}(hr:ap (i:Int) (ps.map oN.row) p.row 7)(IN:Zd ((i:Int)<((ps.map oN.row).length:Int))=true)(hb:Zd (((p.reqs.map T2.row).length:Int)>70)=true):(CW MK At [] false (sub Pb 1) (fpS cs ps ss i) .ret {t:=DO 61 0 [(2,iF false)],h:=[],m:=[]}):=by
 exact yx [.st (.mask [2]),.st (.trim 0)] [.b IN,.r hr,.b hb]
theorem FS{cs:List IS}{ps:List oN}{ss:List TK}{p:oN}{i:Nat}(hr:ap (i:Int) (ps.map oN.row) p.row 7)(IN:Zd ((i:Int)<((ps.map oN.row).length:Int))=true)(hb:Zd (((p.reqs.map T2.row).length:Int)>70)=false)(hw:MM.wrap ((i:Int)+1)=((i+1:Nat):Int)):(CW MK At [] false (sub Pb 1) (fpS cs ps ss i) .normal (fpS cs ps ss ((i+1:Nat):Int))):=by
 refine yX {t:=DO 61 0 [(1,.ref (.ptr 0 0)),(4,aT (MN MM ((↑i:Int)+1)))],h:=[.var [ab (ML MX cs),ab (ML oN.row ps),ab (ML M4 ss)]],m:=[]} M8 [.st (.mask [1,4])] [.b IN,.r hr,.b hb] ?_ ?_<;>(grind)
theorem Kz{cs:List IS}{ps:List oN}{ss:List TK}{i:Nat}(IN:Zd ((i:Int)<((ps.map oN.row).length:Int))=false):(CW MK At [] false (sub Pb 1) (fpS cs ps ss i) (.exit 2) (fbE cs ps ss)):=by
 exact yx [.st (.mask [1])] [.b IN]
def fpF(p:oN)(_:Unit):Unit⊕Unit:=bif Zd (((p.reqs.map T2.row).length:Int)>70) then .inr () else .inl ()
def KA(cs:List IS)(ps:List oN)(ss:List TK):Exit×AS:=bu (.exit 2) (λ_:Unit=>fbE cs ps ss) fbX (Tq fpF ps ())
theorem fp_cw{cs:List IS}{ps:List oN}{ss:List TK}(hl:ah ps):
  CW MK At [] false (.loop (sub Pb 1)) (fpS cs ps ss 0) (KA cs ps ss).1 (KA cs ps ss).2:=by
 have:=OS (P:=MK) (Γ:=At) (h0:=[]) (rd:=false) (c:=sub Pb 1) ps fpF (λi _=>fpS cs ps ss (i:Int)) (.exit 2) (λ_:Unit=>fbE cs ps ss) fbX (λ_ _=>True) (by simp) (λ_=>by simp) ?_ ?_ () trivial
 ·exact this
 ·intro i p u hp _
  have hi:=(MR.1 hp).1
  refine⟨λ_ _=>trivial,?_⟩
  unfold fpF
  cases hb:Zd (((p.reqs.map T2.row).length:Int)>70) with
  | true=>exact FR (rowAt hp rfl) (TG oN.row hi) hb
  | false=>exact FS (rowAt hp rfl) (TG oN.row hi) hb (T4 hi hl)
 ·intro u _
  exact Kz (be oN.row ps)
theorem fb_n{cs:List IS}{ps:List oN}{ss:List TK}(h1:CW MK At [] false (.loop (sub Pb 0)) (fbS cs ps ss 0) .ret {t:=DO 61 0 [(2,iF false)],h:=[],m:=[]})(h:List iN):(Ev MK At 63 [.agg (bkL cs ps ss)] h (iF false) h):=by
 have Tv:=(@h1)
 exact y0 [.s [1,3] Tv] h
theorem fb_m{cs:List IS}{ps:List oN}{ss:List TK}(h1:CW MK At [] false (.loop (sub Pb 0)) (fbS cs ps ss 0) (.exit 0) (fbE cs ps ss))(h2:CW MK At [] false (.loop (sub Pb 1)) (fpS cs ps ss 0) .ret {t:=DO 61 0 [(2,iF false)],h:=[],m:=[]})(h:List iN):(Ev MK At 63 [.agg (bkL cs ps ss)] h (iF false) h):=by
 have Tv:=(@h1)
 have W1:=(@h2)
 exact y0 [.s [1,3] Tv,.s [1,4] W1] h
def fbN(cs:List IS)(ps:List oN)(ss:List TK):Bool:=Zd (((cs.map MX).length:Int)<=16)&&Zd (((ps.map oN.row).length:Int)<=8)&&Zd (((ss.map M4).length:Int)<=6)
theorem fb_y{cs:List IS}{ps:List oN}{ss:List TK}(h1:CW MK At [] false (.loop (sub Pb 0)) (fbS cs ps ss 0) (.exit 0) (fbE cs ps ss))(h2:CW MK At [] false (.loop (sub Pb 1)) (fpS cs ps ss 0) (.exit 2) (fbE cs ps ss))(h:List iN):(Ev MK At 63 [.agg (bkL cs ps ss)] h (iF (fbN cs ps ss)) h):=by
 have Tv:=(@h1)
 have W1:=(@h2)
 exact y0 [.s [1,3] Tv,.s [1,4] W1] h
theorem fb_ex{cs:List IS}{ps:List oN}{ss:List TK}(hc:∀c∈cs,c.ok)(hl:ah cs)(hp:ah ps):∃b,∀h,Ev MK At 63 [.agg (bkL cs ps ss)] h (iF b) h:=by
 classical
 have hB:∀r:BV,r.ok->∀h,Ev MK At 128 [.agg r.fl.l] h (iF ((λr=>if hr:r.ok then Ql (CA hr) else false) r)) h:=λr hr h=>by
  grind
 generalize (λr:BV=>if hr:r.ok then Ql (CA hr) else false)=B at hB
 have h1:=fb_cw (ps:=ps) (ss:=ss) (B:=B) hl λc h=>⟨hB _ (hc c h).1,hB _ (hc c h).2⟩
 have h2:=fp_cw (cs:=cs) (ss:=ss) hp
 unfold Ky at h1
 unfold KA at h2
 cases hf:Tq (fbF B) cs () with
 | inr u=>rw[hf] at h1;exact⟨_,λh=>fb_n h1 h⟩
 | inl u =>
  rw[hf] at h1
  cases hg:Tq fpF ps () with
  | inr u=>rw[hg] at h2;exact⟨_,λh=>fb_m h1 h2 h⟩
  | inl u=>rw[hg] at h2;exact⟨_,λh=>fb_y h1 h2 h⟩
noncomputable abbrev FT(w:iS):List iN:=[.var [ab (ML MX w.c),ab w.p,ab (ML M4 w.s),ab (ML MY w.f)]]
theorem few_a{w:iS}{ps:List oN}{b:Bool}(k:∀h,Ev MK At 63 [.agg [ab (w.c.map MX),ab w.p,ab (w.s.map M4)]] h (iF b) h)(h:List iN):(Ev MK At 22 [.agg w.l] h (iF (b&&Zd (((w.f.map MY).length:Int)<=40))) h):=by
 exact y0 [.v (@k (FT w))] h
theorem FU{w:iS}(hc:∀c∈w.c,c.ok)(hl:ah w.c){ps:List oN}(hw:w.p=ps.map oN.row)(hp:ah ps):∃b:Bool,(b=true->w.f.length<=40)/\∀h,Ev MK At 22 [.agg w.l] h (iF b) h:=by
 obtain⟨b,hb⟩:=fb_ex (cs:=w.c) (ps:=ps) (ss:=w.s) hc hl hp
 refine⟨_,λhh=>?_,λh=>few_a (ps:=ps) (b:=b) (λh=>by grind) h⟩
 grind
theorem iO{n a b:Int}(h:List iN):(Ev MK At 267 [aT n,aT a,aT b] h (iF (U3 n a b)) h):=by
 exact y0 [] h
theorem KB{c:Int}(h:List iN):(Ev MK At 269 [aT c] h (iF (!U3 c 0 4095)) h):=by
 exact y0 [.v (@iO c 0 4095 ([]))] h
theorem KC{l:List Int}(h:List iN):∀c∈l,Iv MK At (.p (.v (.func (.func 269) #[] #[]))) [aT c] h (iF (!U3 c 0 4095)) h:=λc _=>Iv.of (f:=269) (fi:=[]) (ca:=[]) Ug (by kernel_rfl) (by kernel_rfl) (KB h)
def CB(q:T2):Bool:=U3 q.oF 1 10000&&U3 q.IF 0 12&&!(q.Do.any λc=>!U3 c 0 4095)
noncomputable abbrev oy(q:T2):List iN:=[.var [aq q.nm,aT q.oF,aT q.IF,iF q.home,ab q.names,ab (ay q.Do)]]
theorem good_a{q:T2}(hq:ah q.Do)(hf:∀c∈q.Do,Iv MK At (.p (.v (.func (.func 269) #[] #[]))) [aT c] [.var (q.row.map .p)] (iF (!U3 c 0 4095)) [.var (q.row.map .p)])(h:List iN):(Ev MK At 266 [ag q.row] h (iF (CB q)) h):=by
 exact y0 [.v (@iO (q.oF) 1 10000 (oy q)),.w (U3 q.oF 1 10000) (@iO (q.IF) 0 12 (oy q)),.w (U3 q.oF 1 10000&&U3 q.IF 0 12) (@HB (q.Do) hq (fq 269) (oy q) (λc=>!U3 c 0 4095) hf)] h
theorem CC{q:T2}(hq:ah q.Do)(h:List iN):Ev MK At 266 [ag q.row] h (iF (CB q)) h:=good_a hq (KC _) h
theorem dbn_t{b:Bool}(h:(!b)=false):b=true:=by grind
theorem dbn_f{b:Bool}(h:(!b)=true):b=false:=by grind
abbrev ckS(p:oN)(i:Int):AS:={t:=DO 57 0 [(2,aT 0),(3,UZ 266),(46,ab (p.reqs.map T2.row)),(47,aT ((p.reqs.map T2.row).length:Int)),(48,aT i)],h:=[.var p.l],m:=[]}
abbrev ckE(p:oN):AS:={t:=DO 57 0 [],h:=[.var p.l],m:=[]}
abbrev ckX(p:oN):Unit->Exit×AS:=λ_=>(.ret,{t:=DO 57 0 [(2,aT 190)],h:=[.var p.l],m:=[]})
def ckF(q:T2)(_:Unit):Unit⊕Unit:=bif CB q then .inl () else .inr ()
noncomputable abbrev oz(p:oN)(q:T2):List iN:=[.var [aq p.nm,aT p.number,aT p.T3,aT p.ON,aT p.num,aT p.den,ab (ML T2.row p.reqs)],.var [aq q.nm,aT q.oF,aT q.IF,iF q.home,ab q.names,ab (ay q.Do)]]
theorem FV{p:oN}{q:T2}{i:Nat}(hr:ap (i:Int) (p.reqs.map T2.row) q.row 6)(IN:Zd ((i:Int)<((p.reqs.map T2.row).length:Int))=true)(hw:MM.wrap ((i:Int)+1)=((i+1:Nat):Int))(hq:ah q.Do):(CW MK At [] false (sub Tryz.f188 0) (ckS p i) (af (λ_:Unit=>ckS p ((i+1:Nat):Int)) (ckX p) (ckF q ())).1 (af (λ_:Unit=>ckS p ((i+1:Nat):Int)) (ckX p) (ckF q ())).2):=by
 cases Of:!CB q
 ·exact yX {t:=DO 57 0 [(2,aT 0),(3,fq 266),(46,ab (ML T2.row p.reqs)),(47,aT (↑(MO (ML T2.row p.reqs)):Int)),(48,aT (MN MM ((↑i:Int)+1)))],h:=[.var [aq p.nm,aT p.number,aT p.T3,aT p.ON,aT p.num,aT p.den,ab (ML T2.row p.reqs)]],m:=[]} M8 [.st (.mask [2,3,46,47,48]),.st (.trim 1)] [.b IN,.r hr,.v (@CC q hq (oz p q)),.b Of] (by(have hh:CB q=true:=dbn_t Of;simp[ckF,hh,af];first|done|rfl)) (by(have hh:CB q=true:=dbn_t Of;simp only[ckF,hh,cond_true,af,hw];first|done|rfl))
 ·exact yX {t:=DO 57 0 [(2,aT 190)],h:=[.var [aq p.nm,aT p.number,aT p.T3,aT p.ON,aT p.num,aT p.den,ab (ML T2.row p.reqs)]],m:=[]} PL [.st (.mask [2]),.st (.trim 1)] [.b IN,.r hr,.v (@CC q hq (oz p q)),.b Of] (by(have hh:CB q=false:=dbn_f Of;simp[ckF,hh,af];first|done|rfl)) (by(have hh:CB q=false:=dbn_f Of;simp only[ckF,hh,cond_false,af];first|done|rfl))
theorem KD{p:oN}{i:Nat}(IN:Zd ((i:Int)<((p.reqs.map T2.row).length:Int))=false):(CW MK At [] false (sub Tryz.f188 0) (ckS p i) (.exit 0) (ckE p)):=by
 exact yx [.st (.mask [])] [.b IN]
def CD(p:oN):Exit×AS:=bu (.exit 0) (λ_:Unit=>ckE p) (ckX p) (Tq ckF p.reqs ())
theorem ck_cw{p:oN}(hp:p.ok):CW MK At [] false (.loop (sub Tryz.f188 0)) (ckS p 0) (CD p).1 (CD p).2:=by
 refine OS p.reqs ckF (λi _=>ckS p (i:Int)) (.exit 0) (λ_=>ckE p) (ckX p) (λ_ _=>True) (by simp) (λ_=>by simp[ckX]) ?_ ?_ () trivial
 ·intro i q _ hc _
  have hi:=(MR.1 hc).1
  exact⟨λ_ _=>trivial,FV (rowAt hc rfl) (TG T2.row hi) (T4 hi hp.sr) (hp.rq q (Ny hc)).sf⟩
 ·intro _ _
  exact KD (be T2.row p.reqs)
def zN(p:oN):Bool:=!U3 p.number 0 255||!U3 p.T3 1 4||!U3 p.ON 0 10000||(dS p.num p.den != 0)||!U3 p.num 0 (MM.wrap (12*p.den))||Zd (((p.reqs.map T2.row).length:Int)>64)
def ye(p:oN):Int:=bif zN p then 190 else match Tq ckF p.reqs () with | .inl _=>0 | .inr _=>190
noncomputable abbrev aK(p:oN):List iN:=[.var [aq p.nm,aT p.number,aT p.T3,aT p.ON,aT p.num,aT p.den,ab (ML T2.row p.reqs)]]
theorem oA{p:oN}(hp:p.ok)(hn:U5 p.num)(hd:U5 p.den)(h:List iN):(Ev MK At 188 [.agg p.l] h (aT (ye p)) h):=by
 cases Of:!U3 p.number 0 255||!U3 p.T3 1 4||!U3 p.ON 0 10000||dS p.num p.den != 0||!U3 p.num 0 (MN MM (12*p.den))||Zd ((↑(MO (ML T2.row p.reqs)):Int)>64)
 ·have W1:=(@ck_cw (p) (hp))
  unfold CD at W1
  revert W1
  cases Xh:Tq ckF p.reqs () with
  | inl o2_0_0 =>
   intro W1
   exact yD (aT 0) [.v (@iO (p.number) 0 255 (aK p)),.w (!!U3 p.number 0 255) (@iO (p.T3) 1 4 (aK p)),.w (!(!U3 p.number 0 255||!U3 p.T3 1 4)) (@iO (p.ON) 0 10000 (aK p)),.w (!(!U3 p.number 0 255||!U3 p.T3 1 4||!U3 p.ON 0 10000)) (@cY (p.num) (p.den) hn hd (aK p)),.w (!(!U3 p.number 0 255||!U3 p.T3 1 4||!U3 p.ON 0 10000||dS p.num p.den != 0)) (@iO (p.num) 0 (MN MM (12*p.den)) (aK p)),.b Of,.s [2,3,46,47,48] W1] h (by(have hh:zN p=false:=Of;simp[ye,hh,Xh];done))
  | inr o2_1_0 =>
   intro W1
   exact yD (aT 190) [.v (@iO (p.number) 0 255 (aK p)),.w (!!U3 p.number 0 255) (@iO (p.T3) 1 4 (aK p)),.w (!(!U3 p.number 0 255||!U3 p.T3 1 4)) (@iO (p.ON) 0 10000 (aK p)),.w (!(!U3 p.number 0 255||!U3 p.T3 1 4||!U3 p.ON 0 10000)) (@cY (p.num) (p.den) hn hd (aK p)),.w (!(!U3 p.number 0 255||!U3 p.T3 1 4||!U3 p.ON 0 10000||dS p.num p.den != 0)) (@iO (p.num) 0 (MN MM (12*p.den)) (aK p)),.b Of,.s [2,3,46,47,48] W1] h (by(have hh:zN p=false:=Of;simp[ye,Xh];done))
 ·exact yD (aT 190) [.v (@iO (p.number) 0 255 (aK p)),.w (!!U3 p.number 0 255) (@iO (p.T3) 1 4 (aK p)),.w (!(!U3 p.number 0 255||!U3 p.T3 1 4)) (@iO (p.ON) 0 10000 (aK p)),.w (!(!U3 p.number 0 255||!U3 p.T3 1 4||!U3 p.ON 0 10000)) (@cY (p.num) (p.den) hn hd (aK p)),.w (!(!U3 p.number 0 255||!U3 p.T3 1 4||!U3 p.ON 0 10000||dS p.num p.den != 0)) (@iO (p.num) 0 (MN MM (12*p.den)) (aK p)),.b Of] h (by(have hh:zN p=true:=Of;simp[ye,hh];done))
def elB(q:T2)(a:tO):Bool:=Zd (a.IF>=q.IF)&&(!q.home||a.SW==0)&&q.Do.contains a.dO
noncomputable abbrev zO(q:T2)(a:tO):List iN:=[.var [aq q.nm,aT q.oF,aT q.IF,iF q.home,ab q.names,ab (ay q.Do)],.var [aT a.dO,aT a.bV,aT a.IF,aT a.SW,aT a.oF]]
theorem CE{q:T2}{a:tO}(hq:ah q.Do)(h:List iN):(Ev MK At 273 [ag q.row,ag a.row] h (iF (elB q a)) h):=by
 exact y0 [.w (Zd (a.IF>=q.IF)&&(!q.home||a.SW==0)) (@wx (q.Do) hq (a.dO) (zO q a))] h
def Ν(a:tO)(s:List Int×Int)(q:T2):List Int×Int:=(bif elB q a then s.1++[s.2] else s.1,s.2+1)
def Xl(p:oN)(a:tO):List Int:=(p.reqs.foldl (Ν a) ([],0)).1
def al(l:List Int):List (List D):=l.map λn=>[aT n]
theorem jO(l:List Int)(n:Int):al l++[[aT n]]=al (l++[n]):=by simp[al]
theorem dD(l:List Int):(al l).length=l.length:=by simp[al]
theorem bd(f:Ref->D)(l:List Int):(al l).map (Nm f)=al l:=by simp[al,Nm,D.Tz]
theorem co(n:Nat)(l:List Int):(al l).all (D.UP n)=true:=by simp[al,D.UP,D.UV]
theorem sd(l:List Int):al l=(ay l).map (·.map .p):=by simp[al]
abbrev egS(p:oN)(a:tO)(l:List Int)(i:Int):AS:={t:=DO 24 0 [(3,.ref (.ptr 1 0)),(4,.ref (.bY 2 0)),(8,ab (p.reqs.map T2.row)),(9,aT ((p.reqs.map T2.row).length:Int)),(10,aT i)],h:=[.var p.l,.var (a.row.map .p),.bY (al l) 0 1],m:=[]}
abbrev egE(p:oN)(a:tO)(l:List Int):AS:={t:=DO 24 0 [(4,.ref (.bY 2 0))],h:=[.var p.l,.var (a.row.map .p),.bY (al l) 0 1],m:=[]}
noncomputable abbrev qx(p:oN)(a:tO)(q:T2)(l:List Int):List iN:=[.var [aq p.nm,aT p.number,aT p.T3,aT p.ON,aT p.num,aT p.den,ab (ML T2.row p.reqs)],.var [aT a.dO,aT a.bV,aT a.IF,aT a.SW,aT a.oF],.bY (al l) 0 1,.var [aq q.nm,aT q.oF,aT q.IF,iF q.home,ab q.names,ab (ay q.Do)]]
theorem KE{p:oN}{a:tO}{q:T2}{l:List Int}{i:Nat}(hr:ap (i:Int) (p.reqs.map T2.row) q.row 6)(IN:Zd ((i:Int)<((p.reqs.map T2.row).length:Int))=true)(hw:MM.wrap ((i:Int)+1)=((i+1:Nat):Int))(hq:ah q.Do)(hl:l.length<=1000000):(CW MK At [] false (sub Sh 0) (egS p a l i) .normal (egS p a (Ν a (l,(i:Int)) q).1 ((i+1:Nat):Int))):=by
 cases Of:elB q a
 ·let v0:=ML T2.row p.reqs
  let v1:List D:=[aT a.dO,aT a.bV,aT a.IF,aT a.SW,aT a.oF]
  refine yX {t:=DO 24 0 [(3,.ref (.ptr 1 0)),(4,.ref (.bY 2 0)),(8,ab v0),(9,aT (↑(MO v0):Int)),(10,aT (MN MM ((↑i:Int)+1)))],h:=[.var [aq p.nm,aT p.number,aT p.T3,aT p.ON,aT p.num,aT p.den,ab v0],.var v1,.bY (al l) 0 1],m:=[]} M8 [.st (.mask [3,4,8,9,10]),.st (.Vz 2 0),.st (.TD 3)] [.b IN,.r hr,.v (@CE q a hq (qx p a q l)),.b Of,(?_:ML (Nm (ax 2 0 0)) (al l)=al l),(rfl:MZ 3 (match 0==2 with|true=>.bY (al l) 0 1|false=>ST (ax 2 0 0) (.var [aq p.nm,aT p.number,aT p.T3,aT p.ON,aT p.num,aT p.den,ab v0]))=true),(rfl:MZ 3 (match 0+1==2 with|true=>.bY (al l) 0 1|false=>ST (ax 2 0 0) (.var v1))=true),(?_:MZ 3 (match 0+1+1==2 with|true=>.bY (al l) 0 1|false=>ST (ax 2 0 0) (.bY (al l) 0 1))=true)] (by subst v0 v1;grind) (by subst v0 v1;simp only[Ν,Of,cond_false,hw];rfl)<;>subst v0 v1<;>(first|exact bd _ _|exact co _ _)
 ·let v0:=ML T2.row p.reqs
  let v1:List D:=[aT a.dO,aT a.bV,aT a.IF,aT a.SW,aT a.oF]
  refine yX {t:=DO 24 0 [(3,.ref (.ptr 1 0)),(4,.ref (.bY 2 0)),(8,ab v0),(9,aT (↑(MO v0):Int)),(10,aT (MN MM ((↑i:Int)+1)))],h:=[.var [aq p.nm,aT p.number,aT p.T3,aT p.ON,aT p.num,aT p.den,ab v0],.var v1,.bY (al l++[[aT (↑i:Int)]]) 0 1],m:=[]} M8 [.st (.mask [3,4,8,9,10]),.st (.Vz 2 0),.st (.TD 3)] [.b IN,.r hr,.v (@CE q a hq (qx p a q l)),.b Of,((by subst v0 v1;grind [jO,bf,D.one,Value.oneCell',Tw,dD]):(List.all [[aT (↑i:Int)]] (bf 1)&&Tw (MO (al l)+MO [[aT (↑i:Int)]]) 8)=true),(?_:ML (Nm (ax 2 1 0)) (al l++[[aT (↑i:Int)]])=al l++[[aT (↑i:Int)]]),pr [[aT (↑i:Int)]],(rfl:MZ 3 (match 0==2 with|true=>.bY (al l++[[aT (↑i:Int)]]) 0 1|false=>ST (ax 2 1 0) (.var [aq p.nm,aT p.number,aT p.T3,aT p.ON,aT p.num,aT p.den,ab v0]))=true),(rfl:MZ 3 (match 0+1==2 with|true=>.bY (al l++[[aT (↑i:Int)]]) 0 1|false=>ST (ax 2 1 0) (.var v1))=true),(?_:MZ 3 (match 0+1+1==2 with|true=>.bY (al l++[[aT (↑i:Int)]]) 0 1|false=>ST (ax 2 1 0) (.bY (al l++[[aT (↑i:Int)]]) 1 1))=true)] (by subst v0 v1;grind) (by subst v0 v1;simp only[Ν,Of,cond_true,hw];(rw[jO];rfl))<;>subst v0 v1<;>(first|(rw[jO];exact bd _ _)|(rw[jO];exact co _ _))
theorem KF{p:oN}{a:tO}{l:List Int}{i:Nat}(IN:Zd ((i:Int)<((p.reqs.map T2.row).length:Int))=false):(CW MK At [] false (sub Sh 0) (egS p a l i) (.exit 0) (egE p a l)):=by
 exact yx [.st (.mask [4])] [.b IN]
theorem yf{a:tO}:∀(l:List T2) (s:List Int×Int),(l.foldl (Ν a) s).1.length<=s.1.length+l.length
 | [],s=>by simp
 | q::l,s=>by
  have:=yf (a:=a) l (Ν a s q)
  have h2:(Ν a s q).1.length<=s.1.length+1:=by unfold Ν;cases elB q a<;>simp
  grind
theorem eg_cw{p:oN}(hp:p.ok)(hn:p.reqs.length<=1000){a:tO}:CW MK At [] false (.loop (sub Sh 0)) {t:=DO 24 0 [(3,.ref (.ptr 1 0)),(4,.ref (.bY 2 0)),(8,ab (p.reqs.map T2.row)),(9,aT ((p.reqs.map T2.row).length:Int)),(10,aT 0)],h:=[.var p.l,.var (a.row.map .p),.bY [] 0 1],m:=[]} (.exit 0) (egE p a (Xl p a)):=by
 have:=OS (P:=MK) (Γ:=At) (h0:=[]) (rd:=false) (c:=sub Sh 0) (σ:=List Int×Int) (ρ:=Empty) p.reqs (λq s=>.inl (Ν a s q))
  (λi s=>egS p a s.1 (i:Int)) (.exit 0) (λs=>egE p a s.1) (λr=>r.elim) (λi s=>s.2=i/\s.1.length<=i) (by simp) (λr=>r.elim) ?_ ?_ ([],0) (by simp)
 ·rw[aP] at this
  exact this
 ·rintro i q ⟨l,k⟩ hc ⟨hk,hl⟩
  simp only at hk hl
  subst hk
  have hi:=(MR.1 hc).1
  refine⟨λs' h=>?_,KE (rowAt hc rfl) (TG T2.row hi) (T4 hi hp.sr) (hp.rq q (Ny hc)).sf (show l.length<=1000000 by omega)⟩
  grind [Ν]
 ·intro s _
  exact KF (be T2.row p.reqs)
theorem oB{p:oN}(hp:p.ok)(hn:p.reqs.length<=1000){a:tO}(h:List iN):(Ev MK At 199 [.agg p.l,ag a.row] h (ab (ay (Xl p a))) h):=by
 have Tv:=(@eg_cw (p) (hp) (hn) (a))
 exact y0 [.n 2,.o (.ZN 4 1),.s [3,4,8,9,10] Tv,((by exact sd _):al (Xl p a)=ML (λx=>ML D.p x) (ay (Xl p a))),.o (.Vw 2 (ay (Xl p a)))] h
def nwN(n d:Int):Int:=Nd.wrap (Nn (n.natAbs:Int) (OG d.natAbs n.natAbs:Int))
def nwD(n d:Int):Int:=Nd.wrap (Nn (d.natAbs:Int) (OG d.natAbs n.natAbs:Int))
def FX(n d:Int):Bool:=Zd (nwN n d>1073741824)||Zd (nwD n d>1073741824)
def nwSg(n d:Int):Bool:=!(Zd (n<0)==Zd (d<0))
def yg(n d:Int):Int×Int×Int:=match d==0 with
 | true=>(0,0,1)
 | false=>match FX n d with
  | true=>(0,0,2)
  | false=>match nwSg n d with
   | true=>(MM.wrap (0-MM.wrap (nwN n d)),MM.wrap (nwD n d),0)
   | false=>(MM.wrap (nwN n d),MM.wrap (nwD n d),0)
theorem KG{n d:Int}(hn:U5 n)(hd:U5 d)(h:List iN):(Ev MK At 118 [aT n,aT d] h (.Tt [.agg [aT (yg n d).1,aT (yg n d).2.1],aT (yg n d).2.2]) h):=by
 cases Of:d==0
 ·cases TH:Zd (MN Nd (Nn (↑(NO n):Int) (↑(OG (NO d) (NO n)):Int))>1073741824)||Zd (MN Nd (Nn (↑(NO d):Int) (↑(OG (NO d) (NO n)):Int))>1073741824)
  ·cases UU:!Zd (n<0)==Zd (d<0)
   ·exact yD (Nt [Nk [aT (MN MM (MN Nd (Nn (↑(NO n):Int) (↑(OG (NO d) (NO n)):Int)))),aT (MN MM (MN Nd (Nn (↑(NO d):Int) (↑(OG (NO d) (NO n)):Int))))],aT 0]) [.b Of,.v (@jE n d hn hd ([.var [aT 0,aT 0]])),.v (@gB n hn ([.var [aT 0,aT 0]])),((by simp_all):(!Zd ((↑(OG (NO d) (NO n)):Int)=0))=true),.v (@gB d hd ([.var [aT 0,aT 0]])),((by simp_all):(!Zd ((↑(OG (NO d) (NO n)):Int)=0))=true),.b TH,.b UU] h (by(have z0:(d==0)=false:=Of;have z1:FX n d=false:=TH;have z2:nwSg n d=false:=UU;simp only[yg,z0,z1,z2];first|done|rfl))
   ·exact yD (Nt [Nk [aT (MN MM (0-MN MM (MN Nd (Nn (↑(NO n):Int) (↑(OG (NO d) (NO n)):Int))))),aT (MN MM (MN Nd (Nn (↑(NO d):Int) (↑(OG (NO d) (NO n)):Int))))],aT 0]) [.b Of,.v (@jE n d hn hd ([.var [aT 0,aT 0]])),.v (@gB n hn ([.var [aT 0,aT 0]])),((by simp_all):(!Zd ((↑(OG (NO d) (NO n)):Int)=0))=true),.v (@gB d hd ([.var [aT 0,aT 0]])),((by simp_all):(!Zd ((↑(OG (NO d) (NO n)):Int)=0))=true),.b TH,.b UU] h (by(have z0:(d==0)=false:=Of;have z1:FX n d=false:=TH;have z2:nwSg n d=true:=UU;simp only[yg,z0,z1,z2];first|done|rfl))
  ·exact yD (Nt [Nk [aT 0,aT 0],aT 2]) [.b Of,.v (@jE n d hn hd ([.var [aT 0,aT 0]])),.v (@gB n hn ([.var [aT 0,aT 0]])),((by simp_all):(!Zd ((↑(OG (NO d) (NO n)):Int)=0))=true),.v (@gB d hd ([.var [aT 0,aT 0]])),.b ((by simp_all):(!Zd ((↑(OG (NO d) (NO n)):Int)=0))=true),TH] h (by(have z0:(d==0)=false:=Of;have z1:FX n d=true:=TH;simp[yg,z0,z1];first|done|rfl))
 ·exact yD (Nt [Nk [aT 0,aT 0],aT 1]) [.b Of] h (by(have z0:(d==0)=true:=Of;simp[yg,z0];first|done|rfl))
abbrev suT:List D:=DO 26 0 [(2,.ref (.ptr 0 0)),(3,.ref (.ptr 1 0)),(13,.fn (.func 203) [] [.ref (.ptr 2 0)])]
noncomputable abbrev suL(st:LoopState):iN:=.loop st none 0 suT #[14,15] (au (sub Pv 0)) (ai (sub Pv 0))
noncomputable abbrev Xv(c p:Int)(l:List (List Dp))(st:LoopState)(more:List iN):List iN:=[.var [aT c],.var [aT p],.var [ab l],.Ts,suL st]++more
abbrev suU(g c:Int):List D:=DO 26 0 [(2,.ref (.ptr 0 0)),(3,.ref (.ptr 1 0)),(5,aT g),(6,aT c)]
def XH(s:Int×Int)(a:tO):Int×Int:=(MM.wrap (s.1+a.oF),MM.wrap (s.2+MM.wrap (a.IF*a.oF)))
theorem su_asg{c p g x:Int}{l:List (List Dp)}{r:List D}:(CW MK At (Xv c p l .ready [.var r]) true (au (sub Pv 0)) {t:=dL suT [(14,aT g),(15,aT x)],h:=Xv c p l .ready [.var r],m:=[]} .normal {t:=suU g x,h:=Xv c p l .ready [.var r],m:=[]}):=by
 exact yx [.st (.mask [2,3,5,6])] []
theorem KH{c p g x:Int}{l:List (List Dp)}{r:List D}:(CW MK At (Xv c p l .ready [.var r]) true (ai (sub Pv 0)) {t:=suU g x,h:=Xv c p l .busy [.var r],m:=[]} .normal {t:=DO 26 0 [],h:=Xv (MM.wrap (c+x)) (MM.wrap (p+MM.wrap (g*x))) l .busy [.var r],m:=[]}):=by
 exact yx [.st (.mask [])] []
theorem KI{c p g x:Int}{l:List (List Dp)}{r:List D}:Iv MK At (.ref (.yl 4)) [aT g,aT x] (Xv c p l .ready [.var r]) (iF true) (Xv (MM.wrap (c+x)) (MM.wrap (p+MM.wrap (g*x))) l .ready [.var r]) :=
 Iv.round (h1:=Xv c p l .ready [.var r]) rfl rfl su_asg rfl KH rfl
abbrev swT(fs:List (List Dp))(i:Int):List D:=DO 19 0 [(0,.ref (.yl 4)),(5,ab fs),(6,aT fs.length),(7,aT i)]
theorem KJ{c p c0 p0:Int}{l:List (List Dp)}{a:tO}{i:Nat}(hr:ap (i:Int) l a.row 5)(IN:Zd ((i:Int)<(l.length:Int))=true)(hw:MM.wrap ((i:Int)+1)=((i+1:Nat):Int)):(CW MK At (Xv c0 p0 l .ready []) false (sub Qc 0) {t:=swT l i,h:=Xv c p l .ready [],m:=[]} .normal {t:=swT l ((i+1:Nat):Int),h:=Xv (XH (c,p) a).1 (XH (c,p) a).2 l .ready [],m:=[]}):=by
 exact yX {t:=DO 19 0 [(0,.ref (.yl 4)),(5,ab l),(6,aT (↑(MO l):Int)),(7,aT (MN MM ((↑i:Int)+1)))],h:=[.var [aT (MN MM (c+a.oF))],.var [aT (MN MM (p+MN MM (a.IF*a.oF)))],.var [ab l],.Ts,.loop Np none 0 (DO 26 0 [(2,.ref (.ptr 0 0)),(3,.ref (.ptr 1 0)),(13,Ot (Nl 203) [] [.ref (.ptr 2 0)])]) {toList:=[14,15]} (au (sub Pv 0)) (ai (sub Pv 0))],m:=[]} M8 [.st (.mask [0,5,6,7]),.st (.trim 5)] [.b IN,.r hr,.j (@KI c p (a.IF) (a.oF) l ([aT a.dO,aT a.bV,aT a.IF,aT a.SW,aT a.oF])),.e] (by grind) (by(simp only[hw];rfl))
theorem KK{c p c0 p0:Int}{l:List (List Dp)}{i:Nat}(IN:Zd ((i:Int)<(l.length:Int))=false):(CW MK At (Xv c0 p0 l .ready []) false (sub Qc 0) {t:=swT l i,h:=Xv c p l .ready [],m:=[]} (.exit 0) {t:=DO 19 0 [],h:=Xv c p l .ready [],m:=[]}):=by
 exact yx [.st (.mask [])] [.b IN]
theorem sw_cw{c0 p0:Int}{l:List tO}(hl:ah l):
  CW MK At (Xv c0 p0 (l.map MQ) .ready []) false (.loop (sub Qc 0)) {t:=swT (l.map MQ) 0,h:=Xv c0 p0 (l.map MQ) .ready [],m:=[]} (.exit 0)
   {t:=DO 19 0 [],h:=Xv (l.foldl XH (c0,p0)).1 (l.foldl XH (c0,p0)).2 (l.map MQ) .ready [],m:=[]}:=by
 have:=OS (P:=MK) (Γ:=At) (h0:=Xv c0 p0 (l.map MQ) .ready []) (rd:=false) (c:=sub Qc 0) (σ:=Int×Int) (ρ:=Empty) l (λf s=>.inl (XH s f))
  (λi s=>{t:=swT (l.map MQ) (i:Int),h:=Xv s.1 s.2 (l.map MQ) .ready [],m:=[]}) (.exit 0) (λs=>{t:=DO 19 0 [],h:=Xv s.1 s.2 (l.map MQ) .ready [],m:=[]}) (λr=>r.elim)
  (λ_ _=>True) (by simp) (λr=>r.elim) ?_ ?_ (c0,p0) trivial
 ·rw[aP] at this
  exact this
 ·intro i f s hf _
  have hi:=(MR.1 hf).1
  exact⟨λ_ _=>trivial,KJ (rowAt hf rfl) (TG _ hi) (T4 hi hl)⟩
 ·intro s _
  exact KK (be _ l)
theorem CF{c0 p0:Int}{l:List tO}(hl:ah l):(Ev MK At 203 [.ref (.yl 4),.ref (.ptr 2 0)] (Xv c0 p0 (l.map MQ) .ready []) (.Tt []) (Xv (l.foldl XH (c0,p0)).1 (l.foldl XH (c0,p0)).2 (l.map MQ) .ready [])):=by
 have Tv:=(@sw_cw (c0) (p0) (l) (hl))
 exact Na (yF (h':=[.var [aT (Nx XH (c0,p0) l).fst],.var [aT (Nx XH (c0,p0) l).2],.var [ab (ML MQ l)],.Ts,.loop Np none 0 (DO 26 0 [(2,.ref (.ptr 0 0)),(3,.ref (.ptr 1 0)),(13,Ot (Nl 203) [] [.ref (.ptr 2 0)])]) {toList:=[14,15]} (au (sub Pv 0)) (ai (sub Pv 0))]) (d:=Nt []) [.s [0,5,6,7] Tv]) (by rfl) (by rfl)
theorem FY{c0 p0:Int}{l:List tO}(hl:ah l):CW MK At [] false (sub Pv 0) {t:=suT,h:=[.var [aT c0],.var [aT p0],.var [ab (l.map MQ)]],m:=[]} .normal
  {t:=suT,h:=Xv (l.foldl XH (c0,p0)).1 (l.foldl XH (c0,p0)).2 (l.map MQ) .exhausted [],m:=[3]}:=by
 exact CW.rangeFunc (f:=203) (fi:=[]) (ca:=[.ref (.ptr 2 0)]) Ug (s:={t:=suT,h:=[.var [aT c0],.var [aT p0],.var [ab (l.map MQ)]],m:=[]}) (g:=.tmp 13) (ps:=#[14,15]) (asg:=au (sub Pv 0)) (body:=ai (sub Pv 0)) rfl (by kernel_rfl) (CF hl) rfl
def fh(l:List tO):Int×Int×Int:=match eW l != 0 with
 | true=>(0,0,eW l)
 | false=>((l.foldl XH (0,0)).1,(l.foldl XH (0,0)).2,0)
theorem CG{l:List tO}(hl:ah l)(h:List iN):(Ev MK At 117 [ab (l.map MQ)] h (.Tt [aT (fh l).1,aT (fh l).2.1,aT (fh l).2.2]) h):=by
 cases Of:eW l != 0
 ·have W1:=(@FY (0) (0) (l) (hl))
  exact yD (Nt [aT (Nx XH (0,0) l).fst,aT (Nx XH (0,0) l).2,aT 0]) [.v (@dN l hl ([.var [aT 0],.var [aT 0]])),.b Of,.a1 .inl,.s [2,3,13] W1,po (some (aT (Nx XH (0,0) l).fst)),po (some (aT (Nx XH (0,0) l).2)),po (some (aT (Nx XH (0,0) l).2))] h (by simp[fh,Of];done)
 ·exact yD (Nt [aT 0,aT 0,aT (eW l)]) [.v (@dN l hl ([.var [aT 0],.var [aT 0]])),.b Of] h (by simp[fh,Of];done)
theorem mo(x:Int):U5 (MM.wrap x):=by
 grind [IntKind.wrap_i64,U5]
theorem KL(s:Int×Int)(a:tO):U5 (XH s a).1/\U5 (XH s a).2:=⟨mo _,mo _⟩
theorem qy:∀(l:List tO) (s:Int×Int),U5 s.1/\U5 s.2->U5 (l.foldl XH s).1/\U5 (l.foldl XH s).2
 | [],_,h=>h
 | a::l,s,_=>qy l (XH s a) (KL s a)
theorem gH:U5 0:=by unfold U5;omega
theorem uO(l:List tO):U5 (fh l).1/\U5 (fh l).2.1:=by
 unfold fh
 cases eW l != 0
 ·exact qy l (0,0) ⟨gH,gH⟩
 ·exact⟨gH,gH⟩
def uP(c p e:Int):Int×Int×Int:=match e != 0 with
 | true=>(0,0,e)
 | false=>match c==0 with
  | true=>(0,1,0)
  | false=>yg p c
def gj(l:List tO):Int×Int×Int:=uP (fh l).1 (fh l).2.1 (fh l).2.2
theorem mean_a{l:List tO}{c p e:Int}(hc:U5 c)(hp:U5 p)(hs:∀h,Ev MK At 117 [ab (l.map MQ)] h (.Tt [aT c,aT p,aT e]) h)(h:List iN):(Ev MK At 51 [ab (l.map MQ)] h (.Tt [.agg [aT (uP c p e).1,aT (uP c p e).2.1],aT (uP c p e).2.2]) h):=by
 cases Of:e != 0
 ·cases TH:c==0
  ·exact yD (Nt [Nk [aT (yg p c).fst,aT (yg p c).2.fst],aT (yg p c).2.2]) [.v (@hs ([.var [aT 0,aT 0]])),.b Of,.b TH,.v (@KG p c hp hc ([.var [aT 0,aT 0]]))] h (by simp[uP,Of,TH];done)
  ·exact yD (Nt [Nk [aT 0,aT 1],aT 0]) [.v (@hs ([.var [aT 0,aT 0]])),.b Of,.b TH] h (by simp[uP,Of,TH];done)
 ·exact yD (Nt [Nk [aT 0,aT 0],aT e]) [.v (@hs ([.var [aT 0,aT 0]])),.b Of] h (by simp[uP,Of];done)
theorem uQ{l:List tO}(hl:ah l)(h:List iN):Ev MK At 51 [ab (l.map MQ)] h (.Tt [.agg [aT (gj l).1,aT (gj l).2.1],aT (gj l).2.2]) h :=
 mean_a (uO l).1 (uO l).2 (λh=>CG hl h) h
theorem FZ(n d:Int):U5 (yg n d).1/\U5 (yg n d).2.1:=by
 unfold yg
 split
 ·exact⟨gH,gH⟩
 ·split
  ·exact⟨gH,gH⟩
  ·split<;>exact⟨mo _,mo _⟩
theorem oC(l:List tO):U5 (gj l).1/\U5 (gj l).2.1:=by
 unfold gj uP
 split
 ·exact⟨gH,gH⟩
 ·split
  ·exact⟨gH,by unfold U5;simp⟩
  ·exact FZ _ _
abbrev eaT:List D:=DO 21 0 [(2,.ref (.ptr 0 0)),(12,.fn (.func 203) [] [.ref (.ptr 1 0)])]
noncomputable abbrev eaL(st:LoopState):iN:=.loop st none 0 eaT #[13,14] (au (sub Pc 0)) (ai (sub Pc 0))
noncomputable abbrev XA(c:Int)(l:List (List Dp))(st:LoopState)(more:List iN):List iN:=[.var [aT c],.var [ab l],.Ts,eaL st]++more
abbrev eaU(g c:Int):List D:=DO 21 0 [(2,.ref (.ptr 0 0)),(4,aT g),(5,aT c)]
def eaG(c g x:Int):Int:=match Zd (g>0) with|true=>MM.wrap (c+x)|false=>c
def eaF(c:Int)(a:tO):Int:=eaG c a.IF a.oF
theorem ea_asg{c g x:Int}{l:List (List Dp)}{r:List D}:(CW MK At (XA c l .ready [.var r]) true (au (sub Pc 0)) {t:=dL eaT [(13,aT g),(14,aT x)],h:=XA c l .ready [.var r],m:=[]} .normal {t:=eaU g x,h:=XA c l .ready [.var r],m:=[]}):=by
 exact yx [.st (.mask [2,4,5])] []
theorem KM{c g x:Int}{l:List (List Dp)}{r:List D}:(CW MK At (XA c l .ready [.var r]) true (ai (sub Pc 0)) {t:=eaU g x,h:=XA c l .busy [.var r],m:=[]} .normal {t:=DO 21 0 [],h:=XA (eaG c g x) l .busy [.var r],m:=[]}):=by
 cases Of:Zd (g>0)
 ·exact yX {t:=DO 21 0 [],h:=[.var [aT c],.var [ab l],.Ts,.loop Nu none 0 (DO 21 0 [(2,.ref (.ptr 0 0)),(12,Ot (Nl 203) [] [.ref (.ptr 1 0)])]) {toList:=[13,14]} (au (sub Pc 0)) (ai (sub Pc 0)),.var r],m:=[]} M8 [.st (.mask [])] [.b Of] (by grind) (by simp only[eaG,Of];grind)
 ·exact yX {t:=DO 21 0 [],h:=[.var [aT (MN MM (c+x))],.var [ab l],.Ts,.loop Nu none 0 (DO 21 0 [(2,.ref (.ptr 0 0)),(12,Ot (Nl 203) [] [.ref (.ptr 1 0)])]) {toList:=[13,14]} (au (sub Pc 0)) (ai (sub Pc 0)),.var r],m:=[]} M8 [.st (.mask [])] [.b Of] (by grind) (by simp only[eaG,Of];grind)
theorem KN{c g x:Int}{l:List (List Dp)}{r:List D}:Iv MK At (.ref (.yl 3)) [aT g,aT x] (XA c l .ready [.var r]) (iF true) (XA (eaG c g x) l .ready [.var r]) :=
 Iv.round (h1:=XA c l .ready [.var r]) rfl rfl ea_asg rfl KM rfl
abbrev ewT(fs:List (List Dp))(i:Int):List D:=DO 19 0 [(0,.ref (.yl 3)),(5,ab fs),(6,aT fs.length),(7,aT i)]
theorem KO{c c0:Int}{l:List (List Dp)}{a:tO}{i:Nat}(hr:ap (i:Int) l a.row 5)(IN:Zd ((i:Int)<(l.length:Int))=true)(hw:MM.wrap ((i:Int)+1)=((i+1:Nat):Int)):(CW MK At (XA c0 l .ready []) false (sub Qc 0) {t:=ewT l i,h:=XA c l .ready [],m:=[]} .normal {t:=ewT l ((i+1:Nat):Int),h:=XA (eaF c a) l .ready [],m:=[]}):=by
 exact yX {t:=DO 19 0 [(0,.ref (.yl 3)),(5,ab l),(6,aT (↑(MO l):Int)),(7,aT (MN MM ((↑i:Int)+1)))],h:=[.var [aT (eaG c a.IF a.oF)],.var [ab l],.Ts,.loop Np none 0 (DO 21 0 [(2,.ref (.ptr 0 0)),(12,Ot (Nl 203) [] [.ref (.ptr 1 0)])]) {toList:=[13,14]} (au (sub Pc 0)) (ai (sub Pc 0))],m:=[]} M8 [.st (.mask [0,5,6,7]),.st (.trim 4)] [.b IN,.r hr,.j (@KN c (a.IF) (a.oF) l ([aT a.dO,aT a.bV,aT a.IF,aT a.SW,aT a.oF])),.e] (by grind) (by(simp only[hw];rfl))
theorem KP{c c0:Int}{l:List (List Dp)}{i:Nat}(IN:Zd ((i:Int)<(l.length:Int))=false):(CW MK At (XA c0 l .ready []) false (sub Qc 0) {t:=ewT l i,h:=XA c l .ready [],m:=[]} (.exit 0) {t:=DO 19 0 [],h:=XA c l .ready [],m:=[]}):=by
 exact yx [.st (.mask [])] [.b IN]
theorem ew_cw{c0:Int}{l:List tO}(hl:ah l):
  CW MK At (XA c0 (l.map MQ) .ready []) false (.loop (sub Qc 0)) {t:=ewT (l.map MQ) 0,h:=XA c0 (l.map MQ) .ready [],m:=[]} (.exit 0)
   {t:=DO 19 0 [],h:=XA (l.foldl eaF c0) (l.map MQ) .ready [],m:=[]}:=by
 have:=OS (P:=MK) (Γ:=At) (h0:=XA c0 (l.map MQ) .ready []) (rd:=false) (c:=sub Qc 0) (σ:=Int) (ρ:=Empty) l (λf s=>.inl (eaF s f))
  (λi s=>{t:=ewT (l.map MQ) (i:Int),h:=XA s (l.map MQ) .ready [],m:=[]}) (.exit 0) (λs=>{t:=DO 19 0 [],h:=XA s (l.map MQ) .ready [],m:=[]}) (λr=>r.elim)
  (λ_ _=>True) (by simp) (λr=>r.elim) ?_ ?_ c0 trivial
 ·rw[aP] at this
  exact this
 ·intro i f s hf _
  have hi:=(MR.1 hf).1
  exact⟨λ_ _=>trivial,KO (rowAt hf rfl) (TG _ hi) (T4 hi hl)⟩
 ·intro s _
  exact KP (be _ l)
theorem CH{c0:Int}{l:List tO}(hl:ah l):(Ev MK At 203 [.ref (.yl 3),.ref (.ptr 1 0)] (XA c0 (l.map MQ) .ready []) (.Tt []) (XA (l.foldl eaF c0) (l.map MQ) .ready [])):=by
 have Tv:=(@ew_cw (c0) (l) (hl))
 exact Na (yF (h':=[.var [aT (Nx eaF c0 l)],.var [ab (ML MQ l)],.Ts,.loop Np none 0 (DO 21 0 [(2,.ref (.ptr 0 0)),(12,Ot (Nl 203) [] [.ref (.ptr 1 0)])]) {toList:=[13,14]} (au (sub Pc 0)) (ai (sub Pc 0))]) (d:=Nt []) [.s [0,5,6,7] Tv]) (by rfl) (by rfl)
theorem F0{c0:Int}{l:List tO}(hl:ah l):CW MK At [] false (sub Pc 0) {t:=eaT,h:=[.var [aT c0],.var [ab (l.map MQ)]],m:=[]} .normal
  {t:=eaT,h:=XA (l.foldl eaF c0) (l.map MQ) .exhausted [],m:=[2]}:=by
 exact CW.rangeFunc (f:=203) (fi:=[]) (ca:=[.ref (.ptr 1 0)]) Ug (s:={t:=eaT,h:=[.var [aT c0],.var [ab (l.map MQ)]],m:=[]}) (g:=.tmp 12) (ps:=#[13,14]) (asg:=au (sub Pc 0)) (body:=ai (sub Pc 0)) rfl (by kernel_rfl) (CH hl) rfl
def pi(l:List tO):Int×Int:=match eW l != 0 with
 | true=>(0,eW l)
 | false=>(l.foldl eaF 0,0)
theorem uR{l:List tO}(hl:ah l)(h:List iN):(Ev MK At 50 [ab (l.map MQ)] h (.Tt [aT (pi l).1,aT (pi l).2]) h):=by
 cases Of:eW l != 0
 ·have W1:=(@F0 (0) (l) (hl))
  exact yD (Nt [aT (Nx eaF 0 l),aT 0]) [.v (@dN l hl ([.var [aT 0]])),.b Of,.a1 .inl,.s [2,12] W1] h (by simp[pi,Of];done)
 ·exact yD (Nt [aT 0,aT (eW l)]) [.v (@dN l hl ([.var [aT 0]])),.b Of] h (by simp[pi,Of];done)
end Go.Vi
