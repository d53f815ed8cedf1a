/- A part of the proof; no conditions of its own. -/
import Derived.Test.YtelhocjibmofiaaGreatDoorW8
import Derived.Shelf.Slices.In.CompactI
open Decidable renaming decide -> Zd
open Go.Vi.Uu renaming row -> Nc
open Go.IntKind renaming i64 -> ML, wrap -> MN, u64 -> Nj
open Go.Proofs.Tryz renaming prog -> MJ, f28 -> Q9, f27 -> PA, isAgg3 -> TB, sizeOf3 -> S7, f7 -> NH
open List renaming length -> MO, getElem?_eq_some_iff -> MR, map -> MK, any -> QI, foldl_cons -> Nn, map_cons -> NW, sum_cons -> SM, length_cons -> Nq, length_nil -> O3, length_map -> N1, replicate -> MS, drop_zero -> Pk, contains -> OO, drop -> Oz, all -> N2, getElem?_append_left -> M4, filter_cons -> Ra, length_filter_le -> Tj, mergeSort -> Ro, all_eq_true -> Ni, map_map -> QY, mem_map -> Nt, getElem?_append_right -> Nm, map_append -> NP, append -> QZ, getElem?_map -> Om
open Go.Exit renaming normal -> M6, ret -> Oq, exit -> NR
open Go.Vi.Ev renaming zfO -> Na, zet -> Oc, zeY -> Ov, zfL -> Ns
open Go.Fn renaming func -> M7
open Bool renaming or_eq_false_iff -> PF, and_eq_true -> MT, or_eq_true -> Rr, not_true -> PS, false_eq_true -> NC, not_false -> PP, true_and -> Ou
open Go.Vi.Uj renaming row -> MQ
open Int renaming toNat -> MU
open Go.Vi.Uv renaming row -> MZ
open Go.Vi.zfx renaming row -> M9
open Go.Vi.Uh renaming row -> M3
open Go.Vi.T9 renaming l -> Oi
open Go.Vi.D renaming UI -> NG, UG -> NS, p -> QB, YK -> N8
open Go.Vi.Uc renaming inn -> MY
open Go.Value renaming oneCell' -> NZ, int -> Ox
open Go.Vi.UA renaming row -> M0
open Go.Sort renaming grow -> Qf, putRow -> Oh, ahead -> Ot, putCells -> O4, heap_grow_old -> P0, mapBlock -> Oj
open Array renaming getElem?_eq_some_iff -> OH, getElem?_modify -> Pv
open Go.World renaming cell? -> Rp
open Go.Calls renaming mono -> Rx
open Nat renaming le_of_not_lt -> PG, not_lt_zero -> Qj
open Go.Lib renaming compact -> Pt
open Go.Vi.CW renaming zig -> Rn
open Function renaming comp_def -> RX
open Prod.mk renaming injEq -> MP
open Go Go.Proofs
namespace Go.Vi
set_option maxRecDepth 100000
set_option maxHeartbeats 4000000
def xeF(p:Uu->Bool)(c:Uu)(s:Nat):Nat⊕Nat:=if p c=true then .inr s else .inl (s+1)
abbrev xeS(fs:bv)(f:D)(h:aT)(i:Int):AS:=(WM fs f i h)
abbrev xeX(h:aT):Nat->Exit×AS:=λk=>(.ret,{t:=Ue 19 0 [(4,SW (k:Int))],h:=h,m:=[]})
theorem Mh{fs:bv}{i:Nat}{c:Uu}{f:D}{h:aT}{p:Uu->Bool}(hr:ax (i:Int) fs (Nc c) 3)(U8:Zd ((i:Int)<(fs.length:Int))=true)(hw:ML.wrap ((i:Int)+1)=((i+1:Nat):Int))(hi:Iv MJ U2 f [ag (Nc c)] h (T6 (p c)) h):(CW MJ U2 h false (sub Tryz.f216 0) (xeS fs f h i) (ad (λ_=>xeS fs f h ((i+1:Nat):Int)) (xeX h) (xeF p c i)).1 (ad (λ_=>xeS fs f h ((i+1:Nat):Int)) (xeX h) (xeF p c i)).2):=by
 cases U5:p c
 ·refine zX {t:=Ue 19 0 [(0,ab fs),(1,f),(4,SW 0),(7,SW (↑(MO fs):Int)),(8,SW (MN ML ((↑i:Int)+1)))],h:=h,m:=[]} M6 [.st (.mask [0,1,4,7,8])] [.b true,.row [vi c.U3,vi c.to,vi c.most],.zhY (T6 (p c)),.b false] (.c U8 (.c hr (.c (@hi) (.c U5 .n)))) ?_ ?_<;>(simp[xeF,ad, *])
 ·refine zX {t:=Ue 19 0 [(4,SW (↑i:Int))],h:=h,m:=[]} Oq [.st (.mask [4])] [.b true,.row [vi c.U3,vi c.to,vi c.most],.zhY (T6 (p c)),.b true] (.c U8 (.c hr (.c (@hi) (.c U5 .n)))) ?_ ?_<;>(simp[xeF,ad, *])
theorem Mi{fs:bv}{i:Nat}{f:D}{h:aT}(U8:Zd ((i:Int)<(fs.length:Int))=false):(CW MJ U2 h false (sub Tryz.f216 0) (xeS fs f h i) (.exit 0) (Y6 h)):=by
 exact zx WH [.b false] (.c U8 .n)
def xeR(p:Uu->Bool)(l:tO):Int:=match UD (xeF p) l 0 with | .inl _ => -1 | .inr k=>(k:Int)
def Mj(h:aT)(p:Uu->Bool)(l:tO):Exit×AS:=bJ (.exit 0) (λ_:Nat=>(Y6 h)) (xeX h) (UD (xeF p) l 0)
theorem xe_cw{l:tO}(hl:am l){f:D}{h:aT}{p:Uu->Bool}(hf:∀c∈l,Iv MJ U2 f [ag (Nc c)] h (T6 (p c)) h):
  CW MJ U2 h false (.loop (sub Tryz.f216 0)) (xeS (l.map Nc) f h 0) (Mj h p l).1 (Mj h p l).2:=by
 refine CW.each l (xeF p) (λi _=>xeS (l.map Nc) f h (i:Int)) (.exit 0) _ (xeX h) (λi s=>s=i) (by simp) (λ_=>by simp) ?_ ?_ 0 rfl
 ·intro i c s hc hs
  subst hs
  have hi:=(MR.1 hc).1
  refine⟨λs' h=>?_,Mh (rowAt (row:=Nc) hc rfl) (UO Nc hi) (Uo hi hl) (hf c (List.mem_of_getElem? hc))⟩
  unfold xeF at h
  split at h<;>simp at h
  exact h.symm
 ·intro s hs
  exact Mi (bl Nc l)
theorem xei_ev{l:tO}(hl:am l){f:D}{h:aT}{p:Uu->Bool}(hf:∀c∈l,Iv MJ U2 f [ag (Nc c)] h (T6 (p c)) h):(Ev MJ U2 216 [ab (l.map Nc),f] h (SW (xeR p l)) h):=by
 have UE:=(@xe_cw (l) (hl) (f) (h) (p) (hf))
 unfold Mj at UE
 revert UE
 cases ho1:UD (xeF p) l 0 with
 | inl zeL =>
  intro UE
  exact Na (Oc (h':=h) (d:=SW (-1)) UR (YI (NR 0) 0 h) (by kernel_rfl) (.c UE .n)) (by simp[xeR,ho1]) (by simp[])
 | inr Ζ =>
  intro UE
  exact Na (Oc (h':=h) (d:=(ZO Ζ)) UR (zcD Oq (ZO Ζ) h) (by kernel_rfl) (.c UE .n)) (by simp[xeR,ho1]) (by simp[])
theorem xeR_ge(p:Uu->Bool)(l:tO):Zd (xeR p l>=0)=l.any p:=by
 have key:∀(l:tO) (s:Nat),(match UD (xeF p) l s with | .inl _=>false | .inr _=>true)=l.any p:=by
  intro l
  induction l with
  | nil=>intro s;rfl
  | cons c l ih =>
   intro s
   simp only[UD,xeF,List.any_cons]
   by_cases hp:p c=true
   ·simp[hp]
   ·simp only[hp,Bool.false_or]
    exact ih (s+1)
 rw[<-key l 0]
 unfold xeR
 cases UD (xeF p) l 0<;>simp
theorem xec_ev{l:tO}(hl:am l){f:D}{h:aT}{p:Uu->Bool}(hf:∀c∈l,Iv MJ U2 f [ag (Nc c)] h (T6 (p c)) h):(Ev MJ U2 190 [ab (l.map Nc),f] h (T6 (l.any p)) h):=by
 refine Na (Oc (h':=h) (d:=T6 (Zd (xeR p l>=0))) UR [.val (SW (xeR p l))] (by kernel_rfl) (.c (@xei_ev l hl f h p hf) .n)) ?_ ?_<;>(first|rfl|rw[<-xeR_ge])
def AE(n v:Int):Bool:=Zd (v>=0)&&Zd (v<n)
def jl(n:Int)(x:Uu):Bool:=!AE n x.U3||!AE n x.to||x.U3==x.to||Zd (x.most<0)||Zd (x.most>1073741824)
abbrev Ip(n:Int):aT:=[.var [SW n],.var [.fn (.func 189) [] YT]]
abbrev zdx(a:Int):aT:=[.var [SW a],.var [D.fn (M7 189) [] YT]]
theorem Iq{n v:Int}:(Ev MJ U2 189 [SW v,.ref (.ptr 0 0)] (Ip n) (T6 (AE n v)) (Ip n)):=by
 exact Na (Oc (h':=(zdx n)) (d:=T6 (Zd (v>=0)&&Zd (v<n))) UR [] (by kernel_rfl) .n) (by rfl) (by rfl)
noncomputable abbrev fd(n:Int)(x:Uu):aT:=[.var [SW n],.var [D.fn (M7 189) [] YT],.var (XB x)]
abbrev zbg(a:Int)(b:Uu):D:=T6 (!AE a b.U3||!AE a b.to||b.U3==b.to||Zd (b.most<0)||Zd (b.most>1073741824))
theorem edg_ev{n:Int}{x:Uu}:(Ev MJ U2 191 [ag x.row,.ref (.ptr 1 0)] (Ip n) (T6 (jl n x)) (Ip n)):=by
 exact Na (Ev.post (d2:=(zbg n x)) (h2:=(zdx n)) (φ:=[]) [.st (.trim 2)] (Oc (h':=(fd n x)) (d:=(zbg n x)) UR [.val (T6 (AE n x.U3)),.val (T6 (AE n x.to))] (by kernel_rfl) (.c (show Ev MJ U2 189 (zbr x.U3) (fd n x) (T6 (AE n x.U3)) (fd n x) from(Na (Ov (args:=(zbr x.U3)) (H:=(fd n x)) [0,1] (@Iq n (x.U3)) (by kernel_rfl) (by kernel_rfl) (by kernel_rfl) trivial trivial) (by kernel_rfl) (by kernel_rfl))) (.c (show(!!AE n x.U3)=true->Ev MJ U2 189 (zbr x.to) (fd n x) (T6 (AE n x.to)) (fd n x) from(λhg=>(Na (Ov (args:=(zbr x.to)) (H:=(fd n x)) [0,1] (@Iq n (x.to)) (by kernel_rfl) (by kernel_rfl) (by kernel_rfl) trivial trivial) (by kernel_rfl) (by kernel_rfl)))) .n))) (by kernel_rfl) trivial) (by rfl) (by rfl)
theorem edi_a{n:Int}{l:tO}:∀c∈l,Iv MJ U2 (.fn (.func 191) [] X0) [ag (Nc c)] (Ip n) (T6 (jl n c)) (Ip n):=λc _=>Iv.of (f:=191) (fi:=[]) (ca:=X0) UR rfl (by kernel_rfl) edg_ev
theorem Ir{n:Int}{l:tO}(hl:am l):Ev MJ U2 190 [ab (l.map Nc),.fn (.func 191) [] X0] (Ip n) (T6 (l.any (jl n))) (Ip n):=xec_ev hl edi_a
def xp(n:Int)(l:tO):Int:=match Zd (n<2)||Zd (n>4096)||Zd (((l.map Nc).length:Int)>65536) with
 | true=>180
 | false=>match l.any (jl n) with
  | true=>180
  | false=>0
noncomputable abbrev chk_ev_x0(n:Int):aT:=(zdx n)
theorem DZ{n:Int}{l:tO}(hl:am l)(h:aT):(Ev MJ U2 155 [SW n,ab (l.map Nc)] h (SW (xp n l)) h):=by
 cases U5:Zd (n<2)||Zd (n>4096)||Zd ((↑(MO (MK Nc l)):Int)>65536)
 ·cases Uy:QI l (jl n)
  ·exact zD (SW 0) [.b false,.val (T6 (QI l (jl n))),.b false] (.c U5 (.c (@Ir n l hl) (.c Uy .n))) h (by first|rfl|(simp only[xp,U5,Uy];first|done|rfl))
  ·exact zD (SW 180) [.b false,.val (T6 (QI l (jl n))),.b true] (.c U5 (.c (@Ir n l hl) (.c Uy .n))) h (by first|rfl|(simp only[xp,U5,Uy];first|done|rfl))
 ·exact zD (SW 180) [.b true] (.c U5 .n) h (by first|rfl|(simp only[xp,U5];first|done|rfl))
def pM(n a b:Int):Bool:=Zd (a<0)||Zd (a>=n)||Zd (b<0)||Zd (b>=n)||a==b
def It(n:Int)(l:tO)(a b:Int):Int:=match xp n l != 0 with
 | true=>xp n l
 | false=>match pM n a b with
  | true=>180
  | false=>0
theorem D1{n a b:Int}{l:tO}(hl:am l)(h:aT):(Ev MJ U2 101 [SW n,ab (l.map Nc),SW a,SW b] h (SW (It n l a b)) h):=by
 cases U5:xp n l != 0
 ·cases Uy:Zd (a<0)||Zd (a>=n)||Zd (b<0)||Zd (b>=n)||a==b
  ·exact zD (SW 0) [.val (SW (xp n l)),.b false,.b false] (.c (@DZ n l hl ([])) (.c U5 (.c Uy .n))) h (by first|rfl|(simp only[It,pM,U5,Uy];first|done|rfl))
  ·exact zD (SW 180) [.val (SW (xp n l)),.b false,.b true] (.c (@DZ n l hl ([])) (.c U5 (.c Uy .n))) h (by first|rfl|(simp only[It,pM,U5,Uy];first|done|rfl))
 ·exact zD (SW (xp n l)) (zax (xp n l)) (.c (@DZ n l hl ([])) (.c U5 .n)) h (by first|rfl|(simp only[It,U5];first|done|rfl))
theorem zgt.inn{n:Nat}{x:Uu}(h:zgt n x):ef n x:=⟨h.f0,by have:=h.ft;have:=h.tn;omega,by have:=h.f0;have:=h.ft;omega,h.tn⟩
theorem zgt.ok{n:Nat}{x:Uu}(h:zgt n x):jl (n:Int) x=false:=by
 obtain⟨a,b,c,d,e⟩:=h
 unfold jl AE
 simp only[PF,Bool.not_eq_false',MT,decide_eq_true_eq,decide_eq_false_iff_not,beq_eq_false_iff_ne]
 omega
theorem D2{p:TO}{mid:Int}:∀(bs:iF) (s:tO×Int),(bs.foldl (n3F p mid) s).1.length=s.1.length+gg p bs
 | [],s=>by simp[gg]
 | a::bs,s=>by
  rw[Nn,D2 bs]
  simp only[n3F,yY,gg,NW,SM]
  omega
theorem D3{mid sink:Int}:∀(qs:NE) (s:tO×Int),(qs.foldl (n4F mid sink) s).1.length=s.1.length+qs.length
 | [],s=>by simp
 | q::qs,s=>by
  rw[Nn,D3 qs]
  simp only[n4F,List.length_append,Nq,O3]
  omega
theorem vE(p:TO):∀(bs:iF),gg p bs<=bs.length*p.reqs.length
 | []=>by simp[gg]
 | a::bs=>by
  have h1:=vE p bs
  have h2:=sZ p a
  simp only[gg,NW,SM,Nq,Nat.add_mul,Nat.one_mul] at h1 ⊢
  omega
section
variable {p:TO} {l:iF}
theorem pN:(np p l).length=l.length+gg p l+p.reqs.length:=by
 unfold np LD
 rw[D3,D2,s7]
abbrev nN(p:TO)(l:iF):Nat:=2+l.length+p.reqs.length
theorem η.size(h:η p l):(np p l).length<=3300000:=by
 have h1:=vE p l
 have h2:l.length*p.reqs.length<=50000*64:=Nat.mul_le_mul h.ls h.rs
 have h3:=h.ls
 have h4:=h.rs
 rw[pN];omega
theorem η.sums(h:η p l):(f8 l).2.2=0:=by
 unfold f8
 rw[h.ae];rfl
theorem η.net(h:η p l):Ia p l=((nN p l:Int),np p l,0):=by
 have hN:nN p l=2+l.length+p.reqs.length:=rfl
 have h1:=h.ls
 have h2:=h.rs
 have e:ML.wrap (xh p l+1)=(nN p l:Int):=by rw[DT h,wrap_i64 (by omega) (by omega)];omega
 show yZ p l (f8 l).2.2=_
 unfold yZ
 rw[h.pe,h.sums,e]
 rfl
structure zhI (p:TO) (l:iF):Prop where
 n:nN p l<=4096
 e:(np p l).length<=65536
theorem η.chk(h:η p l)(hf:zhI p l):It (nN p l:Int) (np p l) 0 ((nN p l:Int)-1)=0:=by
 have hN:nN p l=2+l.length+p.reqs.length:=rfl
 have h1:=h.ls
 have h2:=h.rs
 have h3:=hf.e
 have h4:=hf.n
 have hb:(np p l).any (jl (nN p l:Int))=false:=List.any_eq_false.2 λx hx=>by rw[(kT h x hx).ok];simp
 have hc:xp (nN p l:Int) (np p l)=0:=by
  unfold xp
  have:(Zd ((nN p l:Int)<2)||Zd ((nN p l:Int)>4096)||Zd ((((np p l).map Nc).length:Int)>65536))=false:=by
   simp only[PF,decide_eq_false_iff_not,N1];omega
  rw[this,hb]
 unfold It
 rw[hc]
 have:pM (nN p l:Int) 0 ((nN p l:Int)-1)=false:=by
  unfold pM
  simp only[PF,decide_eq_false_iff_not,beq_eq_false_iff_ne];omega
 rw[this]
 rfl
def auR(p:TO)(l:iF)(fl:bV):AuS:=(l.foldl (a3F p fl) (⟨[],p.reqs.foldl auF 0,((l.map MQ).length:Int)⟩,0)).1
theorem Hk(hp:p.ok)(h:η p l)(hf:zhI p l){j:Nat}{g:bV×bV}(hR:ziJ (jb (nN p l) (np p l)) (np p l) (nN p l) 0 ((nN p l:Int)-1) j (MS (np p l).length 0) g)(hg:g.1.length=(np p l).length)(h0:aT):
  Ev MJ U2 13 [.agg p.l,ab (l.map MQ)] h0 (.UI [.agg [ab ((auR p l g.1).us.map zfY.row),SW (auR p l g.1).ms,ab (ce (El g.2))],SW 0]) h0:=by
 have h1:=h.ls
 have h2:=h.rs
 have h3:=hf.e
 have h4:=hf.n
 have hN:nN p l=2+l.length+p.reqs.length:=rfl
 have hw:ML.wrap ((nN p l:Int)-1)=(nN p l:Int)-1:=wrap_i64 (by omega) (by omega)
 refine Mf (n:=(nN p l:Int)) (es:=np p l) (ms:=p.reqs.foldl auF 0) (fl:=g.1) (cut:=El g.2) (s:=auR p l g.1) (λh=>?_) (λh=>?_) (au_cw (by omega)) ?_ h0
 ·have:=Dt hp (l:=l) (by omega) (by omega) h
  rw[η.net ‹η p l›] at this
  exact this
 ·unfold zdl;rw[hw]
  refine L0 (n:=nN p l) (by omega) (by omega) (by omega) (λx hx=>(kT ‹η p l› x hx).inn) ⟨by omega,by simp;omega⟩ ⟨by omega,by omega⟩ (λh=>?_) hR h
  have:=D1 (n:=(nN p l:Int)) (a:=0) (b:=(nN p l:Int)-1) (l:=np p l) (by unfold am;omega) h
  rw[η.chk ‹η p l› hf] at this
  exact this
 ·exact Me (s:=⟨[],p.reqs.foldl auF 0,((l.map MQ).length:Int)⟩) (c:=l.length) hp (by omega) (by omega) (by simp) (by rw[hg,pN];omega) (by omega) rfl
theorem η.chk_big(_:η p l)(hf:¬zhI p l):It (nN p l:Int) (np p l) 0 ((nN p l:Int)-1)=180:=by
 have hb:(Zd ((nN p l:Int)<2)||Zd ((nN p l:Int)>4096)||Zd ((((np p l).map Nc).length:Int)>65536))=true:=by
  rw[Rr,Rr,decide_eq_true_eq,decide_eq_true_eq,decide_eq_true_eq,N1]
  apply Classical.byContradiction
  intro hn
  exact hf ⟨by omega,by omega⟩
 have hc:xp (nN p l:Int) (np p l)=180:=by unfold xp;rw[hb]
 unfold It
 rw[hc]
 rfl
theorem D4(hp:p.ok)(h:η p l)(hf:¬zhI p l)(h0:aT):Ev MJ U2 13 [.agg p.l,ab (l.map MQ)] h0 (.UI [.agg [nq,SW 0,nq],SW 180]) h0:=by
 have h1:=h.ls
 have h2:=h.rs
 have hN:nN p l=2+l.length+p.reqs.length:=rfl
 have hw:ML.wrap ((nN p l:Int)-1)=(nN p l:Int)-1:=wrap_i64 (by omega) (by omega)
 refine DY (n:=(nN p l:Int)) (es:=np p l) (λh'=>?_) (λh'=>?_) h0
 ·have:=Dt hp (l:=l) (by omega) (by omega) h'
  rw[η.net h] at this
  exact this
 ·unfold zdl;rw[hw]
  refine LW (n:=nN p l) (λh'=>?_) rfl h'
  have h3:=h.size
  have:=D1 (n:=(nN p l:Int)) (a:=0) (b:=(nN p l:Int)-1) (l:=np p l) (by unfold am;omega) h'
  rw[η.chk_big h hf] at this
  exact this
end
abbrev RL:=oF×bV
abbrev eqH(w:T9)(rs:oF)(l:bV):aT:=[.var w.l,.T7 (ap (Us rs)) 0 5,.T7 (Xm l) 0 1,nh l]
abbrev Xv:Nat×D:=(8,.ref (.T7 2 0))
abbrev Vb:Nat×D:=(9,.ref (.T7 1 0))
abbrev VL:Nat×D:=(4,.ref (.ptr 0 0))
abbrev V6:Nat×D:=(11,.ref (.mp 3))
abbrev zcW(a b:Int)(c:bv)(d:D)(e:Nat×D)(f:D):bY:=Ue 100 0 [(2,SW a),(3,SW b),VL,Xv,Vb,(10,ab c),V6,(12,d),(45,ab c),e,(47,f)]
abbrev eiS(w:T9)(T4 ST:Int)(ns:bv)(rs:oF)(l:bV)(i:Nat)(k:Int):AS :=
 {t:=(zcW T4 ST ns (SW i) (46,SW ns.length) (SW k)),h:=eqH w rs l,m:=[]}
abbrev eoS(w:T9)(T4 ST:Int)(ns:bv)(rs:oF)(l:bV)(i:Nat):AS :=
 {t:=Ue 100 0 [(2,SW T4),(3,SW ST),VL,Xv,Vb,(10,ab ns),V6,(12,SW i)],h:=eqH w rs l,m:=[]}
abbrev eoE(w:T9)(rs:oF)(l:bV):AS :=
 {t:=Ue 100 0 [Xv,Vb],h:=eqH w rs l,m:=[]}
def mnI(a b:Int):Int:=if b<a then b else a
def mxI(a b:Int):Int:=if b>a then b else a
def zbI(w:T9)(T4 ST a n:Int):Bool:=(atR 2 (mnI a n) (mxI a n) T4 ST w.f).2&&(atR 2 (mnI a n) (mxI a n) T4 ST w.f).1==1
def eqN(w:T9)(T4 ST a:Int)(s:RL)(n:Int):RL :=
 bif s.2.contains n then s else (s.1++[⟨2,mnI a n,mxI a n,T4,ML.wrap (T4+1)⟩],bif zbI w T4 ST a n then s.2++[n] else s.2)
theorem lkE{h:aT}{l:bV}{c:Int}(hb:h[3]? = some (nh l)):aM MJ h 140 (zbb 3) (SW c) false=some (T6 (l.contains c)):=qW (kt:=3) (et:=4) (by kernel_rfl) (by kernel_rfl) (by kernel_rfl) hb
theorem upE{h:aT}{l:bV}{c:Int}(hb:h[3]? = some (nh l))(hn:l.contains c=false):aO MJ h 140 (zbb 3) (SW c) (T6 true)=some (h.set 3 (nh (l++[c]))):=qX (kt:=3) (et:=4) (by kernel_rfl) (by kernel_rfl) hb (by simpa using hn)
theorem xq{h:aT}{l:bV}{i e:Nat}{a:Int}(hb:h[2]? = some (.T7 (Xm l) e 1))(ha:l[i]? = some a):aN MJ h 3 (.ref (.vp 2 e (MU (i:Int)) 0))=some (SW a):=by
 have e1:(Xm l)[MU (i:Int)]? = some [SW a]:=by simp[ha]
 unfold aN
 simp only[hb,e1,if_true,Pk]
 rfl
theorem D5{l:bV}{i:Nat}{a:Int}(ha:l[i]? = some a):UU (i:Int) (Xm l).length=true:=by
 have:=(MR.1 ha).1
 simp[UU];omega
theorem cm(rs:oF)(a b c d e:Int):(zej rs [SW a,SW b,SW c,SW d,SW e])=ap (Us (rs++[⟨a,b,c,d,e⟩])):=by simp[ap,XG.row]
theorem Mk{l:bV}{i:Nat}{a:Int}(ha:l[i]? = some a):EO MJ 3 (Xm l) 0 0 (MU (i:Int)) 0 (SW a):=by
 have e1:(Xm l)[MU (i:Int)]? = some [SW a]:=by simp[ha]
 unfold EO
 simp only[e1,if_true,Pk]
 rfl
abbrev zc3(b c d:Int):bY:=[SW 2,(Z0 false b c),(Z0 true b c),SW d,(WJ d)]
noncomputable abbrev l5(w:T9)(T4:Int)(rs:oF)(l:bV)(a:Int)(n:Int):aT:=[.var (Zi w),.T7 (zej rs (zc3 n a T4)) 1 5,.T7 (Xm l) 0 1,.map (aV l) (MO l),.var (Zw 2 (if false=true then if n>a then n else a else if n<a then n else a) (if true=true then if n>a then n else a else if n<a then n else a)),.T7 [(zc3 n a T4)] 0 5]
abbrev Xc(a:bY)(b:oF)(c d:bV):aT:=[.var a,.T7 (ap (Us b)) 0 5,.T7 (Xm c) 0 1,.map (aV d) (MO d)]
abbrev zc7(a h i j:Int)(k:T9):Int:=(atR 2 (if false=true then if a>h then a else h else if a<h then a else h) (if true=true then if a>h then a else h else if a<h then a else h) i j k.f).fst
abbrev zda(a h i j:Int)(k:T9):Bool:=(atR 2 (if false=true then if a>h then a else h else if a<h then a else h) (if true=true then if a>h then a else h else if a<h then a else h) i j k.f).2
abbrev Xg(b c d e:Int)(g:T9):D:=(NG [SW (zc7 b c d e g),T6 (zda b c d e g)])
abbrev Wu:BY:=[.st (.mask [2,3,4,8,9,10,11,12,45,46,47]),.st (.ren 1 0),.st (.ren 2 0),.st (.UN 4)]
abbrev zcR(a:T9)(b:List (bY))(c:bV):aT:=[.var (Zi a),.T7 (b) 0 5,.T7 (Xm c) 0 1,.map (aV c) (MO c)]
theorem Ml{w:T9}(hwf:am w.f){T4 ST:Int}{ns:bv}{rs:oF}{l:bV}{i k:Nat}{a n:Int}(ha:l[i]? = some a)(hr:ax (k:Int) ns [vi n] 1)(U8:Zd ((k:Int)<(ns.length:Int))=true)(hwr:ML.wrap ((k:Int)+1)=((k+1:Nat):Int))(hb:rs.length<=999998000)(hl:l.length<=70000):(CW MJ U2 [] false (sub Q9 1) (eiS w T4 ST ns rs l i k) .normal (eiS w T4 ST ns (eqN w T4 ST a (rs,l) n).1 (eqN w T4 ST a (rs,l) n).2 i ((k+1:Nat):Int))):=by
 cases U5:OO l n
 ·cases Uy:(atR 2 (if false=true then if n>a then n else a else if n<a then n else a) (if true=true then if n>a then n else a else if n<a then n else a) T4 ST w.f).2&&(atR 2 (if false=true then if n>a then n else a else if n<a then n else a) (if true=true then if n>a then n else a else if n<a then n else a) T4 ST w.f).fst==1
  ·let v0:bY:=[SW 2,SW (if false=true then if n>a then n else a else if n<a then n else a),SW (if true=true then if n>a then n else a else if n<a then n else a),SW T4,SW (MN ML (T4+1))]
   let v1:aT:=[.var (Oi w),.T7 (ap (Us rs)) 0 5,.T7 (Xm l) 0 1,.map (aV l) (MO l)]
   refine zX {t:=Ue 100 0 [(2,SW T4),(3,SW ST),(4,.ref (.ptr 0 0)),(8,.ref (.T7 2 0)),(9,.ref (.T7 1 0)),(10,ab ns),(11,.ref (.mp 3)),(12,SW (↑i:Int)),(45,ab ns),(46,SW (↑(MO ns):Int)),(47,SW (MN ML ((↑k:Int)+1)))],h:=[.var [ab (MK MZ w.c),ab w.p,ab (MK M9 w.s),ab (MK M3 w.f)],.T7 (ap (Us rs)++[v0]) 0 5,.T7 (Xm l) 0 1,.map (aV l) (MO l)],m:=[]} M6 [.st (.mask [2,3,4,8,9,10,11,12,45,46,47]),.st (.ren 1 0),.st (.ren 2 0),.st (.UN 4)] [.b true,.row [vi n],.ov 53 (T6 (OO l n)),.b false,.ov 57 (SW a),.ov 63 (SW a),.val (NG [SW (atR 2 (if false=true then if n>a then n else a else if n<a then n else a) (if true=true then if n>a then n else a else if n<a then n else a) T4 ST w.f).fst,T6 (atR 2 (if false=true then if n>a then n else a else if n<a then n else a) (if true=true then if n>a then n else a else if n<a then n else a) T4 ST w.f).2]),.b false] (.c U8 (.c hr (.c (show @Eq (oN) (aM MJ v1 140 (.ref (.mp 3)) (SW n) false) (some (T6 (OO l n))) from ?_) (.c U5 (.c (show UU (↑i:Int) (MO (Xm l))=true from ?_) (.c (show @Eq (oN) (aN MJ v1 3 (.ref (.vp 2 0 (MU (↑i:Int)) 0))) (some (SW a)) from ?_) (.c (show UU (↑i:Int) (MO (Xm l))=true from ?_) (.c (show @Eq (oN) (aN MJ v1 3 (.ref (.vp 2 0 (MU (↑i:Int)) 0))) (some (SW a)) from ?_) (.c (show UU (↑i:Int) (MO (Xm l))=true from ?_) (.e (.ref (.vp 2 0 (MU (↑i:Int)) 0)) (.c (show UU (↑i:Int) (MO (Xm l))=true from ?_) (.e (.ref (.vp 2 0 (MU (↑i:Int)) 0)) (.c (show @Eq (oN) (if 0=0 then match (Xm l)[MU (↑i:Int)]? with|some row=>cn MJ 3 (Oz 0 row)|none=>none else none) (some (SW a)) from ?_) (.c (show @Eq (oN) (if 0=0 then match (Xm l)[MU (↑i:Int)]? with|some row=>cn MJ 3 (Oz 0 row)|none=>none else none) (some (SW a)) from ?_) (.c (show UU (↑i:Int) (MO (Xm l))=true from ?_) (.e (.ref (.vp 2 0 (MU (↑i:Int)) 0)) (.c (show UU (↑i:Int) (MO (Xm l))=true from ?_) (.e (.ref (.vp 2 0 (MU (↑i:Int)) 0)) (.c (show @Eq (oN) (if 0=0 then match (Xm l)[MU (↑i:Int)]? with|some row=>cn MJ 3 (Oz 0 row)|none=>none else none) (some (SW a)) from ?_) (.c (show @Eq (oN) (if 0=0 then match (Xm l)[MU (↑i:Int)]? with|some row=>cn MJ 3 (Oz 0 row)|none=>none else none) (some (SW a)) from ?_) (.c (show(N2 [v0] (aR 5)&&Um (MO (ap (Us rs))+MO [v0]) 40)=true from ?_) (.c (@BW 2 (if false=true then if n>a then n else a else if n<a then n else a) (if true=true then if n>a then n else a else if n<a then n else a) T4 ST (w.f) hwf (l5 w T4 rs l a n)) (.c Uy (.c (vMa (Us rs) [v0] 1 1 0) (.c (nM l 1 1 0) (.c (show MK (λe=>(NS (a8 1 1 0) e.fst,NS (a8 1 1 0) e.2.fst,e.2.2)) (aV l)=aV l from ?_) (.er [v0] (.c (nM l 2 0 0) (.c (vMa (Us rs) [v0] 2 0 0) (.c (show MK (λe=>(NS (a8 2 0 0) e.fst,NS (a8 2 0 0) e.2.fst,e.2.2)) (aV l)=aV l from ?_) (.er [v0] (.c (iqT 4 (match 0==2 with|true=>.T7 (Xm l) 0 1|false=>Ux (a8 2 0 0) (match 0==1 with|true=>.T7 (ap (Us rs)++[v0]) 0 5|false=>Ux (a8 1 1 0) (.var (Oi w))))) (.c (show MY 4 (match 0+1==2 with|true=>.T7 (Xm l) 0 1|false=>Ux (a8 2 0 0) (match 0+1==1 with|true=>.T7 (ap (Us rs)++[v0]) 0 5|false=>Ux (a8 1 1 0) (.T7 (ap (Us rs)++[v0]) 1 5)))=true from ?_) (.c (iN 4 l 0 1) (.c (show MY 4 (match 0+1+1+1==2 with|true=>.T7 (Xm l) 0 1|false=>Ux (a8 2 0 0) (match 0+1+1+1==1 with|true=>.T7 (ap (Us rs)++[v0]) 0 5|false=>Ux (a8 1 1 0) (.map (aV l) (MO l))))=true from ?_) .n))))))))))))))))))))))))))))))))))) (by subst v0 v1;first|(simp only[];first|done|rfl)|rfl|(have hh:zbI w T4 ST a n=true:=Uy;simp only[hwr,eqN,U5,hh,cond_true,cond_false,cm,aQ];first|done|rfl)|(have hh:zbI w T4 ST a n=false:=Uy;simp only[hwr,eqN,U5,hh,cond_false,cm];first|done|rfl)) (by subst v0 v1;first|(simp only[hwr,eqN,U5];first|done|rfl)|rfl|(have hh:zbI w T4 ST a n=true:=Uy;simp only[hwr,eqN,U5,hh,cond_true,cond_false,cm,aQ];first|done|rfl)|(have hh:zbI w T4 ST a n=false:=Uy;simp only[hwr,eqN,U5,hh,cond_false,cm];first|done|rfl))<;>subst v0 v1<;>(first|assumption|rfl|omega|exact lkE (l:=l) rfl|exact upE (l:=l) rfl (by assumption)|exact xq rfl ha|exact Mk ha|exact D5 ha|exact cU _ _|exact cg _ _|exact bD _ _|exact bz _ _|(rw[aQ];exact bD _ _)|(rw[aQ];exact bz _ _)|exact aj _ _|exact ai|(rw[cm];exact aj _ _)|(simp only[cm];exact ai)|(simp[aR,D.one,NZ,Um];omega))
  ·let v0:bY:=[SW 2,SW (mnI a n),SW (mxI a n),SW T4,SW (MN ML (T4+1))]
   let v1:bY:=[SW 2,SW (if false=true then if n>a then n else a else if n<a then n else a),SW (if true=true then if n>a then n else a else if n<a then n else a),SW T4,SW (MN ML (T4+1))]
   let v2:aT:=[.var (Oi w),.T7 (ap (Us rs)) 0 5,.T7 (Xm l) 0 1,.map (aV l) (MO l)]
   refine zX {t:=Ue 100 0 [(2,SW T4),(3,SW ST),(4,.ref (.ptr 0 0)),(8,.ref (.T7 2 0)),(9,.ref (.T7 1 0)),(10,ab ns),(11,.ref (.mp 3)),(12,SW (↑i:Int)),(45,ab ns),(46,SW (↑(MO ns):Int)),(47,SW (MN ML ((↑k:Int)+1)))],h:=[.var [ab (MK MZ w.c),ab w.p,ab (MK M9 w.s),ab (MK M3 w.f)],.T7 (ap (Us rs)++[v0]) 0 5,.T7 (Xm l++[[SW n]]) 0 1,.map (aV (l++[n])) (MO (l++[n]))],m:=[]} M6 [.st (.mask [2,3,4,8,9,10,11,12,45,46,47]),.st (.ren 1 0),.st (.ren 2 0),.st (.UN 4)] [.b true,.row [vi n],.ov 53 (T6 (OO l n)),.b false,.ov 57 (SW a),.ov 63 (SW a),.val (NG [SW (atR 2 (if false=true then if n>a then n else a else if n<a then n else a) (if true=true then if n>a then n else a else if n<a then n else a) T4 ST w.f).fst,T6 (atR 2 (if false=true then if n>a then n else a else if n<a then n else a) (if true=true then if n>a then n else a else if n<a then n else a) T4 ST w.f).2]),.b true,.oh 10089 D.any [.var (Oi w),.T7 (ap (Us rs)++[v0]) 1 5,.T7 (Xm l) 0 1,nh (l++[n]),.var [SW 2,SW (mnI a n),SW (mxI a n)],.T7 [v0] 0 5]] (.c U8 (.c hr (.c (show @Eq (oN) (aM MJ v2 140 (.ref (.mp 3)) (SW n) false) (some (T6 (OO l n))) from ?_) (.c U5 (.c (show UU (↑i:Int) (MO (Xm l))=true from ?_) (.c (show @Eq (oN) (aN MJ v2 3 (.ref (.vp 2 0 (MU (↑i:Int)) 0))) (some (SW a)) from ?_) (.c (show UU (↑i:Int) (MO (Xm l))=true from ?_) (.c (show @Eq (oN) (aN MJ v2 3 (.ref (.vp 2 0 (MU (↑i:Int)) 0))) (some (SW a)) from ?_) (.c (show UU (↑i:Int) (MO (Xm l))=true from ?_) (.e (.ref (.vp 2 0 (MU (↑i:Int)) 0)) (.c (show UU (↑i:Int) (MO (Xm l))=true from ?_) (.e (.ref (.vp 2 0 (MU (↑i:Int)) 0)) (.c (show @Eq (oN) (if 0=0 then match (Xm l)[MU (↑i:Int)]? with|some row=>cn MJ 3 (Oz 0 row)|none=>none else none) (some (SW a)) from ?_) (.c (show @Eq (oN) (if 0=0 then match (Xm l)[MU (↑i:Int)]? with|some row=>cn MJ 3 (Oz 0 row)|none=>none else none) (some (SW a)) from ?_) (.c (show UU (↑i:Int) (MO (Xm l))=true from ?_) (.e (.ref (.vp 2 0 (MU (↑i:Int)) 0)) (.c (show UU (↑i:Int) (MO (Xm l))=true from ?_) (.e (.ref (.vp 2 0 (MU (↑i:Int)) 0)) (.c (show @Eq (oN) (if 0=0 then match (Xm l)[MU (↑i:Int)]? with|some row=>cn MJ 3 (Oz 0 row)|none=>none else none) (some (SW a)) from ?_) (.c (show @Eq (oN) (if 0=0 then match (Xm l)[MU (↑i:Int)]? with|some row=>cn MJ 3 (Oz 0 row)|none=>none else none) (some (SW a)) from ?_) (.c (show(N2 [v1] (aR 5)&&Um (MO (ap (Us rs))+MO [v1]) 40)=true from ?_) (.c (@BW 2 (if false=true then if n>a then n else a else if n<a then n else a) (if true=true then if n>a then n else a else if n<a then n else a) T4 ST (w.f) hwf (l5 w T4 rs l a n)) (.c Uy (.c (show @Eq (Option (aT)) (aO MJ (l5 w T4 rs l a n) 140 (.ref (.mp 3)) (SW n) (T6 true)) (some [.var (Oi w),.T7 (ap (Us rs)++[v0]) 1 5,.T7 (Xm l) 0 1,.map (aV (l++[n])) (MO (l++[n])),.var [SW 2,SW (mnI a n),SW (mxI a n)],.T7 [v0] 0 5]) from ?_) (.c (show(N2 [[SW n]] (aR 1)&&Um (MO (Xm l)+MO [[SW n]]) 8)=true from ?_) (.c (vMa (Us rs) [v0] 1 1 0) (.c (nMa l [[SW n]] 1 1 0) (.c (show MK (λe=>(NS (a8 1 1 0) e.fst,NS (a8 1 1 0) e.2.fst,e.2.2)) (aV (l++[n]))=aV (l++[n]) from ?_) (.er [v0] (.er [[SW n]] (.c (nMa l [[SW n]] 2 1 0) (.c (vMa (Us rs) [v0] 2 1 0) (.c (show MK (λe=>(NS (a8 2 1 0) e.fst,NS (a8 2 1 0) e.2.fst,e.2.2)) (aV (l++[n]))=aV (l++[n]) from ?_) (.er [v0] (.er [[SW n]] (.c (iqT 4 (match 0==2 with|true=>.T7 (Xm l++[[SW n]]) 0 1|false=>Ux (a8 2 1 0) (match 0==1 with|true=>.T7 (ap (Us rs)++[v0]) 0 5|false=>Ux (a8 1 1 0) (.var (Oi w))))) (.c (show MY 4 (match 0+1==2 with|true=>.T7 (Xm l++[[SW n]]) 0 1|false=>Ux (a8 2 1 0) (match 0+1==1 with|true=>.T7 (ap (Us rs)++[v0]) 0 5|false=>Ux (a8 1 1 0) (.T7 (ap (Us rs)++[v0]) 1 5)))=true from ?_) (.c (iNa 4 l [[SW n]] 0 1) (.c (show MY 4 (match 0+1+1+1==2 with|true=>.T7 (Xm l++[[SW n]]) 0 1|false=>Ux (a8 2 1 0) (match 0+1+1+1==1 with|true=>.T7 (ap (Us rs)++[v0]) 0 5|false=>Ux (a8 1 1 0) (.map (aV (l++[n])) (MO (l++[n])))))=true from ?_) .n))))))))))))))))))))))))))))))))))))))) (by subst v0 v1 v2;first|(simp only[];first|done|rfl)|rfl|(have hh:zbI w T4 ST a n=true:=Uy;simp only[hwr,eqN,U5,hh,cond_true,cond_false,cm,aQ];first|done|rfl)|(have hh:zbI w T4 ST a n=false:=Uy;simp only[hwr,eqN,U5,hh,cond_false,cm];first|done|rfl)) (by subst v0 v1 v2;first|(simp only[hwr,eqN,U5];first|done|rfl)|rfl|(have hh:zbI w T4 ST a n=true:=Uy;simp only[hwr,eqN,U5,hh,cond_true,cond_false,cm,aQ];first|done|rfl)|(have hh:zbI w T4 ST a n=false:=Uy;simp only[hwr,eqN,U5,hh,cond_false,cm];first|done|rfl))<;>subst v0 v1 v2<;>(first|assumption|rfl|omega|exact lkE (l:=l) rfl|exact upE (l:=l) rfl (by assumption)|exact xq rfl ha|exact Mk ha|exact D5 ha|exact cU _ _|exact cg _ _|exact bD _ _|exact bz _ _|(rw[aQ];exact bD _ _)|(rw[aQ];exact bz _ _)|exact aj _ _|exact ai|(rw[cm];exact aj _ _)|(simp only[cm];exact ai)|(simp[aR,D.one,NZ,Um];omega))
 ·refine zX {t:=Ue 100 0 [(2,SW T4),(3,SW ST),(4,.ref (.ptr 0 0)),(8,.ref (.T7 2 0)),(9,.ref (.T7 1 0)),(10,ab ns),(11,.ref (.mp 3)),(12,SW (↑i:Int)),(45,ab ns),(46,SW (↑(MO ns):Int)),(47,SW (MN ML ((↑k:Int)+1)))],h:=[.var [ab (MK MZ w.c),ab w.p,ab (MK M9 w.s),ab (MK M3 w.f)],.T7 (ap (Us rs)) 0 5,.T7 (Xm l) 0 1,.map (aV l) (MO l)],m:=[]} M6 [.st (.mask [2,3,4,8,9,10,11,12,45,46,47]),.st (.ren 1 0),.st (.ren 2 0),.st (.UN 4)] [.b true,.row [vi n],.ov 53 (T6 (OO l n)),.b true] (.c U8 (.c hr (.c (show @Eq (oN) (aM MJ [.var (Oi w),.T7 (ap (Us rs)) 0 5,.T7 (Xm l) 0 1,.map (aV l) (MO l)] 140 (.ref (.mp 3)) (SW n) false) (some (T6 (OO l n))) from ?_) (.c U5 (.c (vM (Us rs) 1 0 0) (.c (nM l 1 0 0) (.c (show MK (λe=>(NS (a8 1 0 0) e.fst,NS (a8 1 0 0) e.2.fst,e.2.2)) (aV l)=aV l from ?_) (.c (nM l 2 0 0) (.c (vM (Us rs) 2 0 0) (.c (show MK (λe=>(NS (a8 2 0 0) e.fst,NS (a8 2 0 0) e.2.fst,e.2.2)) (aV l)=aV l from ?_) (.c (iqT 4 (match 0==2 with|true=>.T7 (Xm l) 0 1|false=>Ux (a8 2 0 0) (match 0==1 with|true=>.T7 (ap (Us rs)) 0 5|false=>Ux (a8 1 0 0) (.var (Oi w))))) (.c (show MY 4 (match 0+1==2 with|true=>.T7 (Xm l) 0 1|false=>Ux (a8 2 0 0) (match 0+1==1 with|true=>.T7 (ap (Us rs)) 0 5|false=>Ux (a8 1 0 0) (.T7 (ap (Us rs)) 0 5)))=true from ?_) (.c (iN 4 l 0 1) (.c (show MY 4 (match 0+1+1+1==2 with|true=>.T7 (Xm l) 0 1|false=>Ux (a8 2 0 0) (match 0+1+1+1==1 with|true=>.T7 (ap (Us rs)) 0 5|false=>Ux (a8 1 0 0) (.map (aV l) (MO l))))=true from ?_) .n)))))))))))))) (by first|(simp only[];first|done|rfl)|rfl|(have hh:zbI w T4 ST a n=true:=Uy;simp only[hwr,eqN,U5,hh,cond_true,cond_false,cm,aQ];first|done|rfl)|(have hh:zbI w T4 ST a n=false:=Uy;simp only[hwr,eqN,U5,hh,cond_false,cm];first|done|rfl)) (by first|(simp only[hwr,eqN,U5,cond_true];first|done|rfl)|rfl|(have hh:zbI w T4 ST a n=true:=Uy;simp only[hwr,eqN,U5,hh,cond_true,cond_false,cm,aQ];first|done|rfl)|(have hh:zbI w T4 ST a n=false:=Uy;simp only[hwr,eqN,U5,hh,cond_false,cm];first|done|rfl))<;>(first|assumption|rfl|omega|exact lkE (l:=l) rfl|exact upE (l:=l) rfl (by assumption)|exact xq rfl ha|exact Mk ha|exact D5 ha|exact cU _ _|exact cg _ _|exact bD _ _|exact bz _ _|(rw[aQ];exact bD _ _)|(rw[aQ];exact bz _ _)|exact aj _ _|exact ai|(rw[cm];exact aj _ _)|(simp only[cm];exact ai)|(simp[aR,D.one,NZ,Um];omega))
theorem Mm{w:T9}{T4 ST:Int}{ns:bv}{rs:oF}{l:bV}{i k:Nat}(U8:Zd ((k:Int)<(ns.length:Int))=false):(CW MJ U2 [] false (sub Q9 1) (eiS w T4 ST ns rs l i k) (.exit 2) (eoS w T4 ST ns rs l i)):=by
 exact zx [.st (.mask [2,3,4,8,9,10,11,12])] [.b false] (.c U8 .n)
theorem D6{w:T9}{T4 ST a:Int}(s:RL)(n:Int):(eqN w T4 ST a s n).1.length<=s.1.length+1/\s.2.length<=(eqN w T4 ST a s n).2.length/\(eqN w T4 ST a s n).2.length<=s.2.length+1:=by
 unfold eqN
 cases s.2.contains n<;>simp
 cases zbI w T4 ST a n<;>simp
theorem Mn{w:T9}{T4 ST a b:Int}{s:RL}{n:Int}{i:Nat}(h:s.2[i]? = some b):(eqN w T4 ST a s n).2[i]? = some b:=by
 have hi:=(MR.1 h).1
 unfold eqN
 cases s.2.contains n<;>simp[h]
 cases zbI w T4 ST a n<;>simp[h,M4 hi]
theorem ei_cw{w:T9}(hwf:am w.f){T4 ST:Int}{ns:bV}(hn:ns.length<=1000){rs:oF}{l:bV}{i:Nat}{a:Int}(ha:l[i]? = some a)(hb:rs.length<=999990000)(hl:l.length<=60000):
  CW MJ U2 [] false (.loop (sub Q9 1)) (eiS w T4 ST (Ys ns) rs l i 0) (.exit 2) (eoS w T4 ST (Ys ns) (ns.foldl (eqN w T4 ST a) (rs,l)).1 (ns.foldl (eqN w T4 ST a) (rs,l)).2 i):=by
 have hs:am ns:=by unfold am;omega
 have:=CW.each (P:=MJ) (Γ:=U2) (h0:=[]) (rd:=false) (c:=sub Q9 1) (σ:=RL) (ρ:=Empty) ns (λn s=>.inl (eqN w T4 ST a s n))
  (λk s=>eiS w T4 ST (Ys ns) s.1 s.2 i (k:Int)) (.exit 2) (λs=>eoS w T4 ST (Ys ns) s.1 s.2 i) (λr=>r.elim)
  (λk s=>s.2[i]? = some a/\s.1.length<=rs.length+k/\s.2.length<=l.length+k) (by simp) (λr=>r.elim) ?_ ?_ (rs,l) ⟨ha,by simp,by simp⟩
 ·rw[aY] at this
  exact this
 ·intro k n s hnk hs'
  have hi:=(MR.1 hnk).1
  refine⟨λs' h=>by cases h;have:=D6 (w:=w) (T4:=T4) (ST:=ST) (a:=a) s n;exact⟨Mn hs'.1,by omega,by omega⟩,Ml hwf hs'.1 (rowAt (row:=λn=>[vi n]) hnk rfl) (UO (λn=>[vi n]) hi) (Uo hi hs) (by omega) (by omega)⟩
 ·intro s _
  exact Mm (bl (λn=>[vi n]) ns)
def kU(w:T9)(T4 ST:Int)(ns:bV)(a:Int)(s:RL):RL:=ns.foldl (eqN w T4 ST a) s
theorem Mo{w:T9}(hwf:am w.f){T4 ST:Int}{ns:bV}(hn:ns.length<=1000){rs:oF}{l:bV}{i:Nat}{a:Int}(ha:l[i]? = some a)(hwr:ML.wrap ((i:Int)+1)=((i+1:Nat):Int))(U8:Zd ((i:Int)<((Xm l).length:Int))=true)(hb:rs.length<=999990000)(hl:l.length<=60000):(CW MJ U2 [] false (sub Q9 0) (eoS w T4 ST (ns.map λn=>[vi n]) rs l i) .normal (eoS w T4 ST (ns.map λn=>[vi n]) (kU w T4 ST ns a (rs,l)).1 (kU w T4 ST ns a (rs,l)).2 (i+1))):=by
 have UE:=(@ei_cw (w) (hwf) (T4) (ST) (ns) (hn) (rs) (l) (i) (a) (ha) (hb) (hl))
 let v0:=List.foldl (eqN w T4 ST a) (rs,l) ns
 refine zX {t:=Ue 100 0 [(2,SW T4),(3,SW ST),(4,.ref (.ptr 0 0)),(8,.ref (.T7 2 0)),(9,.ref (.T7 1 0)),(10,ab (MK (λn=>[vi n]) ns)),(11,.ref (.mp 3)),(12,SW (MN ML ((↑i:Int)+1)))],h:=[.var [ab (MK MZ w.c),ab w.p,ab (MK M9 w.s),ab (MK M3 w.f)],.T7 (ap (Us v0.fst)) 0 5,.T7 (Xm v0.2) 0 1,.map (aV v0.2) (MO v0.2)],m:=[]} M6 [.st (.mask [2,3,4,8,9,10,11,12])] [.b true,.sum [2,3,4,8,9,10,11,12,45,46,47] (NR 2) {t:=Ue 100 0 [(2,SW T4),(3,SW ST),(4,.ref (.ptr 0 0)),(8,.ref (.T7 2 0)),(9,.ref (.T7 1 0)),(10,ab (MK (λn=>[vi n]) ns)),(11,.ref (.mp 3)),(12,SW (↑i:Int))],h:=[.var (Oi w),.T7 (ap (Us v0.fst)) 0 5,.T7 (Xm v0.2) 0 1,.map (aV v0.2) (MO v0.2)],m:=[]}] (.c U8 (.c UE .n)) ?_ ?_<;>subst v0<;>(first|rfl|(simp only[hwr];rfl))
theorem Mp{w:T9}{T4 ST:Int}{ns:bv}{rs:oF}{l:bV}{i:Nat}(U8:Zd ((i:Int)<((Xm l).length:Int))=false):(CW MJ U2 [] false (sub Q9 0) (eoS w T4 ST ns rs l i) (.exit 0) (eoE w rs l)):=by
 exact zx [.st (.mask [8,9])] [.b false] (.c U8 .n)
def g9(ns l:bV):Nat:=(ns.filter λx=>!l.contains x).length
theorem zd(l:bV)(n:Int):∀ns:bV,g9 ns (l++[n])<=g9 ns l
 | []=>by simp[g9]
 | a::ns=>by
  have ih:=zd l n ns
  unfold g9 at *
  by_cases h:l.contains a=true
  ·have h2:(l++[n]).contains a=true:=by simp at h ⊢;exact .inl h
   simp only[Ra,h,h2,PS,NC,if_false];exact ih
  ·have h1:l.contains a=false:=by simpa using h
   simp only[Ra,h1,PP,if_true,Nq]
   split
   ·simp only[Nq];omega
   ·omega
theorem ze{l:bV}{n:Int}(hn:l.contains n=false):∀{ns:bV},n∈ns->g9 ns (l++[n])+1<=g9 ns l
 | a::ns,h=>by
  by_cases ha:a=n
  ·subst ha
   have ih:=zd l a ns
   have h2:(l++[a]).contains a=true:=by simp
   unfold g9 at *
   simp only[Ra,h2,hn,PS,PP,NC,if_false,if_true,Nq]
   omega
  ·have h':n∈ns:=(List.mem_cons.1 h).resolve_left λe=>ha e.symm
   have ih:=ze hn h'
   have h2:(l++[n]).contains a=l.contains a:=by
    rw[Bool.eq_iff_iff];simp[ha]
   unfold g9 at *
   simp only[Ra,h2]
   split
   ·simp only[Nq];omega
   ·exact ih
theorem D7{w:T9}{T4 ST a n:Int}{ns:bV}(hn:n∈ns)(s:RL):g9 ns (eqN w T4 ST a s n).2+(eqN w T4 ST a s n).2.length<=g9 ns s.2+s.2.length:=by
 unfold eqN
 cases hc:s.2.contains n
 ·cases zbI w T4 ST a n
  ·simp
  ·have:=ze hc hn
   simp;omega
 ·simp
theorem iH{w:T9}{T4 ST a:Int}{ns:bV}:∀(ms:bV),(∀n∈ms,n∈ns)->∀s:RL,g9 ns (ms.foldl (eqN w T4 ST a) s).2+(ms.foldl (eqN w T4 ST a) s).2.length<=g9 ns s.2+s.2.length/\(ms.foldl (eqN w T4 ST a) s).1.length<=s.1.length+ms.length
 | [],_,s=>by simp
 | n::ms,h,s=>by
  have h1:=D7 (w:=w) (T4:=T4) (ST:=ST) (a:=a) (h n (by simp)) s
  have h2:=iH (w:=w) (T4:=T4) (ST:=ST) (a:=a) ms (λx hx=>h x (List.mem_cons_of_mem _ hx)) (eqN w T4 ST a s n)
  have h3:=D6 (w:=w) (T4:=T4) (ST:=ST) (a:=a) s n
  simp only[Nn,Nq]
  omega
def Ε(w:T9)(T4 ST:Int)(ns:bV):Nat->Nat->RL->RL
 | 0,_,s=>s
 | f+1,i,s=>match s.2[i]? with
  | some a=>Ε w T4 ST ns f (i+1) (kU w T4 ST ns a s)
  | none=>s
theorem gh{w:T9}{T4 ST:Int}{ns:bV}{f i:Nat}{s:RL}(h:s.2[i]? = none):Ε w T4 ST ns f i s=s:=by
 cases f<;>simp[Ε,h]
theorem eo_g{w:T9}(hwf:am w.f){T4 ST:Int}{ns:bV}(hn:ns.length<=1000){rs:oF}{l:bV}(hb:rs.length<=900000000)(hl:g9 ns l+l.length<=ns.length+1):
  CW MJ U2 [] false (.loop (sub Q9 0)) (eoS w T4 ST (Ys ns) rs l 0) (.exit 0) (eoE w (Ε w T4 ST ns (ns.length+1) 0 (rs,l)).1 (Ε w T4 ST ns (ns.length+1) 0 (rs,l)).2):=by
 refine CW.loop (ι:={p:Nat×Nat×RL // p.2.1+p.1=ns.length+1/\g9 ns p.2.2.2+p.2.2.2.length<=ns.length+1/\p.2.2.1.length<=rs.length+p.2.1*1000/\Ε w T4 ST ns p.1 p.2.1 p.2.2=Ε w T4 ST ns (ns.length+1) 0 (rs,l)})
  (λp=>eoS w T4 ST (Ys ns) p.1.2.2.1 p.1.2.2.2 p.1.2.1) (λ_=>(.exit 0,eoE w (Ε w T4 ST ns (ns.length+1) 0 (rs,l)).1 (Ε w T4 ST ns (ns.length+1) 0 (rs,l)).2)) (λp=>p.1.1) ?_ ⟨(ns.length+1,0,(rs,l)),by simp,hl,by simp,rfl⟩
 rintro⟨⟨f,i,s⟩,h1,h2,h3,h4⟩
 simp only at h1 h2 h3 h4 ⊢
 cases ha:s.2[i]? with
 | none =>
  refine .inr ⟨by simp,?_⟩
  rw[gh ha] at h4
  rw[<-h4]
  refine Mp ?_
  rw[oY]
  have:=List.getElem?_eq_none_iff.1 ha
  exact decide_eq_false (by omega)
 | some a =>
  have hi:=(MR.1 ha).1
  obtain⟨g,rfl⟩:∃g,f=g+1:=⟨f-1,by omega⟩
  have hf:=iH (w:=w) (T4:=T4) (ST:=ST) (a:=a) (ns:=ns) ns (λ_ h=>h) s
  refine .inl ⟨⟨(g,i+1,kU w T4 ST ns a s),by simp only;omega,by simp only[kU];omega,by simp only[kU];omega,?_⟩,by simp only;omega,trivial,?_⟩
  ·simp only[Ε,ha] at h4
   exact h4
  ·refine Mo hwf hn ha ?_ ?_ ?_ ?_
   ·rw[wrap_i64 (by omega) (by omega)];omega
   ·rw[oY];exact decide_eq_true (by omega)
   ·omega
   ·omega
def iI(w:T9)(c T4 ST:Int):RL:=Ε w T4 ST (ah w.f ST) ((ah w.f ST).length+1) 0 ([rdN],[c])
def AO(w:T9)(c T4 ST:Int):bV:=(iI w c T4 ST).2.mergeSort λx y=>Zd (x<=y)
theorem Hl{x0 x1 x3:Uc}{l:bV}(hl:l.length<4611686018427387904):Ev MJ U2 69 (XI 2 0) [x0,x1,.T7 (Xm l) 0 1,x3] (.UI []) [x0,x1,.T7 (Xm (l.mergeSort λx y=>Zd (x<=y))) 0 1,x3] :=
 qV (h:=[x0,x1,.T7 (Xm l) 0 1,x3]) (b:=2) rfl hl
theorem rd_frz(l:oF):ap (Us l)=(Us l).map (MK QB):=rfl
theorem pO(ns:bV)(c:Int):g9 ns [c] + [c].length<=ns.length+1:=by
 have:=Tj (λx=>!([c]:bV).contains x) ns
 unfold g9;simp only[Nq,O3];omega
theorem eo1_cw{w:T9}(hw:w.ok){c T4 ST:Int}(hn:(ah w.f ST).length<=1000):
  CW MJ U2 [] false (.loop (sub Q9 0)) {t:=Ue 100 0 [(2,SW T4),(3,SW ST),VL,Xv,Vb,(10,ab (Ys (ah w.f ST))),V6,(12,SW 0)],h:=[.var w.l,.T7 Wn 0 5,.T7 [[SW c]] 0 1,.map [(SW c,T6 true,0)] 1],m:=[]}
   (.exit 0) (eoE w (iI w c T4 ST).1 (iI w c T4 ST).2) :=
 eo_g hw.sf hn (rs:=[rdN]) (l:=[c]) (by simp) (pO _ _)
noncomputable abbrev AF(w:T9)(c:Int)(T4:Int)(ST:Int):aT:=(zcR w (ap (Us (iI w c T4 ST).fst)) ((iI w c T4 ST).2))
noncomputable abbrev l6(w:T9):aT:=[.var (Zi w)]
abbrev Xw(a:Nat)(b:bv)(d:List (D×D×Nat)):List (D×D×Nat):=(zdm a b d)
abbrev XZ(a:bv):List (bY):=MK (λx=>MK QB x) a
theorem Mq{w:T9}(hw:w.ok){c T4 ST:Int}(hc:(!(Zd (c>=0)&&Zd (c<=4095))||!(Zd (T4>=0)&&Zd (T4<=1023)))=false)(hn:(ah w.f ST).length<=1000)(hl:(iI w c T4 ST).2.length<4611686018427387904)(hnum:∀h,Ev MJ U2 67 [.agg w.l,SW ST] h (.UI [ab (Ys (ah w.f ST)),.ref (.T7 h.length 0)]) (h++[.T7 Wn 0 5]))(h:aT):(Ev MJ U2 28 (Wp w c T4 ST) h (.UI [ab (Ys (AO w c T4 ST)),ab (Us (iI w c T4 ST).1)]) h):=by
 have UE:=(@eo1_cw (w) (hw) (c) (T4) (ST) (hn))
 refine zD (NG [ab (YZ (AO w c T4 ST)),ab (Us (iI w c T4 ST).fst)]) [.val (Yk c),.val (Yq T4),.b false,.call (NG [ab (YZ (ah w.f ST)),.ref (.T7 1 0)]) [.var (Oi w),.T7 Wn 0 5],.sum [2,3,4,8,9,10,11,12] (NR 0) {t:=Ue 100 0 [Xv,Vb],h:=(AF w c T4 ST),m:=[]},.call (NG []) (Xc (Oi w) ((iI w c T4 ST).fst) (zeg ((iI w c T4 ST).2)) ((iI w c T4 ST).2)),.st (.frz 2 (YZ (AO w c T4 ST))),.st (.frz 1 (Us (iI w c T4 ST).fst))] (.c (@cw c 0 4095 (l6 w)) (.c (gd (!!(Zd (c>=0)&&Zd (c<=4095))) (@cw T4 0 1023 (l6 w))) (.c hc (.c (@hnum (l6 w)) (.c UE (.c (@Hl (.var (Oi w)) (.T7 (ap (Us (iI w c T4 ST).fst)) 0 5) (.map (aV (iI w c T4 ST).2) (MO (iI w c T4 ST).2)) ((iI w c T4 ST).2) hl) (.c (show Xm (zeg ((iI w c T4 ST).2))=MK (λx=>MK QB x) (YZ (AO w c T4 ST)) from ?_) (.c (show MK (N8 (ez 2 0 (YZ (AO w c T4 ST)))) (ap (Us (iI w c T4 ST).fst))=ap (Us (iI w c T4 ST).fst) from ?_) (.c (show (zdm 2 (YZ (AO w c T4 ST)) (aV (iI w c T4 ST).2))=aV (iI w c T4 ST).2 from ?_) (.c (show ap (Us (iI w c T4 ST).fst)=(XZ (Us (iI w c T4 ST).fst)) from ?_) (.c (show (Xw 1 (Us (iI w c T4 ST).fst) (aV (iI w c T4 ST).2))=aV (iI w c T4 ST).2 from ?_) .n))))))))))) h (by first|rfl|(simp only[AO];rfl))<;>(first|assumption|rfl|omega|exact hw.lf|exact hw.sf|exact pO _ _|exact hl|exact HK _|exact rd_frz _|exact aj _ _|exact cg _ _|exact bz _ _|exact ai|exact aD _ _|(simp;done))
theorem vF{w:T9}{T4 ST:Int}{ns:bV}:∀(f i:Nat) (s:RL),g9 ns (Ε w T4 ST ns f i s).2+(Ε w T4 ST ns f i s).2.length<=g9 ns s.2+s.2.length/\(Ε w T4 ST ns f i s).1.length<=s.1.length+f*ns.length
 | 0,_,s=>by simp[Ε]
 | f+1,i,s=>by
  cases ha:s.2[i]? with
  | none=>rw[gh ha];simp
  | some a =>
   have h1:=iH (w:=w) (T4:=T4) (ST:=ST) (a:=a) (ns:=ns) ns (λ_ h=>h) s
   have h2:=vF (w:=w) (T4:=T4) (ST:=ST) (ns:=ns) f (i+1) (kU w T4 ST ns a s)
   simp only[Ε,ha]
   simp only[kU] at *
   rw[Nat.add_mul]
   omega
theorem zf{w:T9}{c T4 ST:Int}:(iI w c T4 ST).2.length<=(ah w.f ST).length+1/\(iI w c T4 ST).1.length<=1+((ah w.f ST).length+1)*(ah w.f ST).length:=by
 have h:=vF (w:=w) (T4:=T4) (ST:=ST) (ns:=ah w.f ST) ((ah w.f ST).length+1) 0 ([rdN],[c])
 have h1:=pO (ah w.f ST) c
 unfold iI
 simp only[Nq,O3] at h h1 ⊢
 omega
def tk(w:T9)(c T4 ST:Int):RL:=match (!(Zd (c>=0)&&Zd (c<=4095))||!(Zd (T4>=0)&&Zd (T4<=1023))) with
 | true=>([],[c])
 | false=>((iI w c T4 ST).1,AO w c T4 ST)
theorem zg{w:T9}{c T4 ST:Int}(hn:(ah w.f ST).length<=1000):(tk w c T4 ST).1.length<=1001001/\(tk w c T4 ST).2.length<=1001:=by
 have h:=zf (w:=w) (c:=c) (T4:=T4) (ST:=ST)
 have h2:((ah w.f ST).length+1)*(ah w.f ST).length<=1001*1000:=Nat.mul_le_mul (by omega) hn
 unfold tk
 split
 ·simp
 ·simp only[AO,List.length_mergeSort];omega
noncomputable abbrev rJ(w:T9):aT:=[.var (Zi w)]
theorem Mr{w:T9}{c T4 ST:Int}(hc:(!(Zd (c>=0)&&Zd (c<=4095))||!(Zd (T4>=0)&&Zd (T4<=1023)))=true)(h:aT):(Ev MJ U2 28 (Wp w c T4 ST) h (.UI [ab ([c].map λn=>[vi n]),ab (Us [])]) h):=by
 exact Na (Ev.zfp (z0 (d:=NG [ab [[vi c]],nq]) [.val (Yk c),.val (Yq T4),.b true,.nx 1,.st (.frz 1 [[vi c]])] (.c (@cw c 0 4095 (rJ w)) (.c (gd (!!(Zd (c>=0)&&Zd (c<=4095))) (@cw T4 0 1023 (rJ w))) (.c hc (.er [[SW c]] .n)))) h)) (by rfl) (by rfl)
theorem Hm{w:T9}(hw:w.ok){c T4 ST:Int}(hn:(ah w.f ST).length<=1000)(h:aT):Ev MJ U2 28 (Wp w c T4 ST) h (.UI [ab ((tk w c T4 ST).2.map λn=>[vi n]),ab (Us (tk w c T4 ST).1)]) h:=by
 unfold tk
 cases hc:(!(Zd (c>=0)&&Zd (c<=4095))||!(Zd (T4>=0)&&Zd (T4<=1023)))
 ·exact Mq hw hc hn (by have:=(zf (w:=w) (c:=c) (T4:=T4) (ST:=ST)).1;omega) (λh=>oZ hw.lf hw.sf h) h
 ·exact Mr hc h
theorem D8{w:T9}(hw:w.ok){c T4 ST:Int}(hn:(ah w.f ST).length<=1000)(h:aT):Ev MJ Un 28 (Wp w c T4 ST) h (.UI [ab ((tk w c T4 ST).2.map λn=>[vi n]),ab (Us (tk w c T4 ST).1)]) h:=Ns (Hm hw hn h)
abbrev reqV(l:NE):List (bY):=l.map λq=>q.row.map .p
theorem D9{l:NE}(hl:l.length<=1000000):(N2 (XZ (MK M0 l)) (aR 6)&&Um (MO ([]:List (bY))+MO (XZ (MK M0 l))) 88)=true:=by
 rw[MT]
 constructor
 ·rw[Ni]
  intro x hx
  simp only[QY,Nt,Function.comp] at hx
  obtain⟨q,_,rfl⟩:=hx
  rfl
 ·simp only[N1,O3,Nat.zero_add]
  unfold Um
  simp
  omega
abbrev zah(a:Nat)(b:NE):Nat×D:=(a,ab (b.map M0))
abbrev zby:bY:=Ue 8 0 [(2,.ref (.T7 0 1))]
abbrev zdc(a:NE):AS:={t:=Ue 8 0 [(zah 0 a),(2,nq),(zah 3 a),WS],h:=[],m:=[]}
theorem Ea{l:NE}(hl:l.length<=1000000):(CW MJ U2 [] false (cR (cR (au PA))) (zdc l) .ret {t:=zby,h:=[.T7 (reqV l) 1 6],m:=[]}):=by
 refine zX {t:=zby,h:=[.T7 (XZ (MK M0 l)) 1 6],m:=[]} Oq (zaM 2) [] (.c (show(Y9 (MK (λx=>MK QB x) (MK M0 l)) 6 ([]:List (bY)) 88)=true from(by exact D9 hl)) .n) ?_ ?_<;>(first|rfl|(simp only[reqV,QY];rfl))
theorem cl_r0{l:NE}:(CW MJ U2 [] false (cL (au PA)) {t:=Ue 8 0 [(zah 0 l)],h:=[],m:=[]} .normal (zb6 8 [(zah 0 l),(2,nq)] [])):=by
 exact zx [.st (.mask [0,2])] [] .n
theorem cl_c{l:NE}:(CW MJ U2 [] false (cR (cL (cR (au PA)))) (zdc l) .normal (zdc l)):=by
 exact zx [.st (.mask [0,2,3,4])] [.b false] (.er false .n)
def rOps:Code->Is
 | .region _ o _=>o
 | _=>#[]
def rId:Code->Nat
 | .region i _ _=>i
 | _=>0
theorem zh:au PA=.seq (cL (au PA)) (.seq (.seq (.region (rId (cL (cL (cR (au PA))))) (rOps (cL (cL (cR (au PA))))) false) (cR (cL (cR (au PA))))) (cR (cR (au PA)))):=by kernel_rfl
def noC:ο:=λ_ _ _=>none
theorem noC_ok:noC.Ok MJ U2:=λ_ _ _ _ h=>by simp[noC] at h
def lastO(o:oR):Oper:=o.getLastD default
abbrev clT(l:NE)(b:Bool):bY:=Ue 8 0 [(zah 0 l),(2,nq),(zah 3 l),(4,T6 b)]
theorem zkO{l:NE}{b:Bool}:UQ (Ue 8 0 [(zah 0 l),(2,nq),(zah 3 l)]) (lastO (rOps (cL (cL (cR (au PA))))).toList).dst (lit (.bool b))=clT l b:=by kernel_rfl
theorem cl_r1{X:Ctx}{r:Do}{l:NE}{Q:Exit->AS->Prop}(hQ:∀b:Bool,(b=true->l.map M0=[])->Q .normal {t:=clT l b,h:=[],m:=[]}):
  VW MJ U2 X r (.region (rId (cL (cL (cR (au PA))))) (rOps (cL (cL (cR (au PA))))) false) Q (zb6 8 [(zah 0 l),(2,nq)] []) :=
 VW.nilLast (os:=(rOps (cL (cL (cR (au PA))))).toList.dropLast) (o:=lastO (rOps (cL (cL (cR (au PA))))).toList) (t:=47) (yt:=47) (x:=3) (t1:=Ue 8 0 [(zah 0 l),(2,nq),(zah 3 l)]) (h1:=[])
  noC_ok (by kernel_rfl) (e:=58) (by kernel_rfl) (by kernel_rfl) (by kernel_rfl) (by kernel_rfl) rfl (λb hb=>zkO.symm▸hQ b hb)
theorem Hn{l:NE}(hl:l.length<=1000000)(Μ:l≠[]):Ev MJ U2 27 [ab (l.map M0)] [] (.ref (.T7 0 1)) [.T7 (reqV l) 1 6]:=by
 refine Ev.zky (fn:=PA) rfl (by kernel_rfl) (e:=.ret) (s:={t:=zby,h:=[.T7 (reqV l) 1 6],m:=[]}) ?_ (by kernel_rfl)
 rw[zh]
 refine CW.seq (cl_r0 (l:=l)) (CW.seq (s1:={t:=clT l false,h:=[],m:=[]}) (CW.seq (s1:={t:=clT l false,h:=[],m:=[]}) ?_ cl_c) (Ea hl))
 intro X r _ _
 refine cl_r1 λb hb=>?_
 cases b with
 | false=>exact⟨rfl,rfl⟩
 | true=>exact absurd (by simpa using hb rfl) Μ
end Go.Vi
open Go Go.Proofs Go.Shelf Go.RowKit Go.Sort
namespace Go.Vi
set_option maxHeartbeats 4000000
set_option maxRecDepth 100000
theorem Eb{P:Program}{Γ:aq}{f:FuncId}{vsx:At}{h:aT}{b e:Nat}{l m:bV}(hb:h[b]? = some (.T7 (bX l) e 1))(hlm:m.length=l.length)(Μ:l≠[]){d:D}{rv:Nat->Nat->Nat->Value}
  (hd:∀{w:World} {av:Nat->Prop} {loc:Loc} {T8 o cap:Nat},loc b=some (T8,mkP o cap)->l.length<=cap->Rel w av loc (h.set b (zdL m e)) d (rv T8 o cap))
  (H:∀{O:Nat->Prop} {w:World} {loc:Loc} (_:UJ Γ O w loc h) (T8 o cap:Nat),Ub O loc h T8->T8<w.heap.size->Sort.Holds (Ox .i64) w T8 o l.toArray->l.length<=cap ->
   Calls P f (#[.slice (some ⟨T8,o,none⟩) l.length cap]++vsx.toArray) w λe w'=>e=.returned (rv T8 o cap)/\∃n os,w'=Qf (Oh (Ox .i64) (Ot w n) T8 o m.toArray) os) :
  Ev P Γ f (.ref (.T7 b e)::vsx.map lit) h d (h.set b (zdL m e)):=by
 intro O w loc vs R ra
 obtain⟨y,rfl⟩:∃y,vs=y::vsx:=by
  match vs,ra with
  | y::ys,r=>exact⟨y,by rw[lT r.2]⟩
  | [],r=>simp[U1] at r
 have r:=ra.1
 simp only[Rel,Ua,hb] at r
 have hv:=r.2.2 trivial
 have B:=R.T8 b _ hb
 simp only[Up] at B
 have hlen:(bX l).length=l.length:=by simp[bX]
 refine callsIn_wide.2 ?_
 cases UZ:loc b with
 | none =>
  rw[UZ] at hv
  obtain⟨hn,_⟩:=hv
  exact absurd (by simpa[bX] using hn) Μ
 | some p =>
  obtain⟨T8,cp⟩:=p
  rw[UZ] at hv B
  obtain⟨o,cap,rfl,rfl,zgp⟩:=hv
  simp only at B
  obtain⟨o',cap',rc,c,T,fr,ys,zft,hcs,hle,hfr,hsz,zgY,pr,rest,hpr,hcl⟩:=B
  obtain⟨rfl,rfl⟩:=co rc
  have hys:=lL zgY
  subst hys
  have hblk:T8<w.heap.size:=(OH.1 zft).1
  have zfG:Ub O loc h T8:=.inr ⟨b,_,mkP o cap,hb,by simp,UZ⟩
  have hH:Sort.Holds (Ox .i64) w T8 o l.toArray:=by
   intro j hj
   have hj':j<l.length:=by simpa using hj
   have hc:c[o+j]? = some (Ox .i64 l[j]):=by
    rw[<-Array.getElem?_toList,hcl,List.append_assoc,Nm (by omega),show o+j-pr.length=j by omega,M4 (by simpa using hj')]
    simp[hj']
   constructor
   ·simp[Rp,zft,hc,hj']
   ·have:=hfr (o+j) (OH.1 hc).1
    obtain⟨lo,hi⟩:=fr
    simp only[World.frozen?,zft]
    rw[<-Bool.not_eq_true]
    simpa using this
  rw[hlen] at zgp ⊢
  have e0:(Value.slice (some ⟨T8,o,none⟩) l.length cap::vsx).toArray=#[.slice (some ⟨T8,o,none⟩) l.length cap]++vsx.toArray:=by simp
  rw[e0]
  refine Rx (H R T8 o cap zfG hblk hH zgp) ?_
  rintro e' w' ⟨rfl,n,os,rfl⟩
  have zjg:(Qf (Oh (Ox .i64) (Ot w n) T8 o m.toArray) os).heap[T8]? = some (.cells (O4 (Ox .i64) o m.toArray c) T fr):=by
   rw[P0 _ _ (by simpa[Oh,Oj,Ot] using hblk)]
   simp[Oh,Oj,Ot,Pv,zft,Sort.onCells]
  have zgo:(O4 (Ox .i64) o m.toArray c).toList=pr++m.map (Ox .i64)++rest:=by
   unfold O4
   rw[Array.toList_mapIdx,hcl]
   apply List.ext_getElem?
   intro i
   rw[List.getElem?_mapIdx]
   by_cases hp:i<pr.length
   ·rw[iZ hp,iZ hp]
    have:¬o<=i:=by omega
    simp[this,hp]
   obtain⟨q,rfl⟩:∃q,i=pr.length+q:=⟨i-pr.length,by omega⟩
   rw[jy,jy]
   by_cases hi:q<l.length
   ·rw[M4 (by simpa using hi),M4 (by simpa[hlm] using hi)]
    have hm:q<m.length:=by omega
    subst hpr
    simp[hi,hm]
   ·rw[Nm (by simpa using PG hi),Nm (by simpa[hlm] using PG hi)]
    subst hpr
    simp[hlm,hi]
  have key:=R.step (w':=Qf (Oh (Ox .i64) (Ot w n) T8 o m.toArray) os) (l':=loc) (h':=h.set b (zdL m e)) b (zdL m e)
   (by simp[Qf,Oh,Oj,Ot]) ⟨rfl,rfl,rfl,by simp[Qf,Oh,Oj,Ot]⟩ (λi hi=>be _ _ hi) (aK hb) (λ_ _=>rfl)
   (λz hz=>by rw[hb] at hz;cases hz;exact⟨⟨Nat.le_refl _,λ_=>by simp[bX,hlm],rfl⟩,λ_=>rfl⟩)
   (λk hk hno=>by
    have hkb:k≠T8:=λe=>hno _ (mkP o cap) hb (by simp) (by rw[UZ,e])
    rw[P0 _ _ (by simpa[Oh,Oj,Ot] using hk)]
    simp[Oh,Oj,Ot,Pv,Ne.symm hkb])
   (λk c hk=>.inl ⟨_,c,hb,by simp,hk⟩)
   (λE=>by
    simp only[Up,UZ]
    refine⟨o,cap,rfl,_,T,fr,m.map (Ox .i64),zjg,?_,?_,?_,?_,jz,pr,rest,hpr,zgo⟩
    ·simpa[O4] using hcs
    ·simpa[bX,hlm] using hle
    ·simpa[O4] using hfr
    ·simp[bX])
  exact⟨rv T8 o cap,d,_,loc,rfl,⟨rfl,rfl⟩,key.1,key.2,hd UZ zgp⟩
theorem xt{P:Program}{Γ:aq}{O:Nat->Prop}{g:Nat}{cf:Int->Int->Int}{w:World}{loc:Loc}{h:aT}(R:UJ Γ O w loc h){T8:Nat}(hblk:Ub O loc h T8)
  (hE:∀x y,Ev P Γ g [(zaW x),(zaW y)] [] (lit (.int .i64 (cf x y))) []) (o size:Nat):CmpLays1 P g #[] (Ox .i64) cf T8 o size w:=by
 intro m os dk hs x y
 generalize hW:sortWorld (Ox .i64) w T8 o m dk os=W
 have hb:T8<w.heap.size:=by
  rcases hblk with ho|ho
  ·exact R.obd T8 ho
  ·exact(R.inb T8 ho).1
 have zhC:∀b off v,¬Ub O loc h b->w.cell? ⟨b,off,none⟩=some v->W.cell? ⟨b,off,none⟩=some v/\¬Ub (λ_=>False) loc [] b:=by
  intro b off v hn hc
  have Μ:b≠T8:=λe=>hn (e▸hblk)
  refine⟨?_,λho=>ho.elim id (λh=>absurd h dI)⟩
  subst hW
  have U8:b<w.heap.size:=by
   simp only[Rp] at hc
   split at hc
   ·rename_i hx;exact(OH.1 hx).1
   ·simp at hc
  have:(sortWorld (Ox .i64) w T8 o m dk os).heap[b]? = w.heap[b]?:=by
   unfold sortWorld
   rw[P0 _ _ (by simpa[Oh,Oj,Ot] using U8)]
   simp[Oh,Oj,Ot,Pv,Ne.symm Μ]
  simp only[Rp,this]
  exact hc
 have R0:UJ Γ (λ_=>False) W loc []:=by
  refine⟨λT8 ho=>absurd ho dI,λT8 ho=>ho.elim,λb b' x x' k c c' hb=>by simp at hb,λb x hb=>by simp at hb,λg cs hg=>?_⟩
  exact Ur.mono zhC g 0 cs (R.glo g cs hg)
 have ra:U1 W (Ub (λ_=>False) loc []) loc [] [(zaW x),(zaW y)] [.int .i64 x,.int .i64 y]:=by
  simp[U1,Rel,UF]
 refine Rx (callsIn_wide.1 (hE x y (λ_=>False) W loc _ R0 ra)) ?_
 rintro e w' ⟨v,d2,h2,l',rfl,⟨rfl,rfl⟩,R',E',rd⟩
 refine⟨?_,rB E'.size (λb hb=>E'.same b hb dI) E'.tape⟩
 have:v=.int .i64 (cf x y):=by simpa[Rel,UF] using rd
 rw[this]
abbrev cmpZ(x y:Int):Int:=if x<y then -1 else if x>y then 1 else 0
theorem ltZ(x y:Int):ltOf cmpZ x y=Zd (x<y):=by
 unfold ltOf cmpZ
 by_cases h:x<y
 ·simp[h]
 ·by_cases g:x>y<;>simp[h,g]
theorem AG{P:Program}{ρ:Ren}{Γ:aq}(ok:POk P)(L:SlLaysF.n6 P ρ){g:Nat}(hg:ff P g=true)(hE:∀x y,Ev P Γ g [lit (.int .i64 x),lit (.int .i64 y)] [] (lit (.int .i64 (cmpZ x y))) [])
  {h:aT} {b e:Nat} {l:bV} (hb:h[b]? = some (.T7 (bX l) e 1)) (hl:l.length<4611686018427387904) (Μ:l≠[]) :
  Ev P Γ (ρ.f 6) [.ref (.T7 b e),.p (.v (.func (.func g) #[] #[]))] h (.UI []) (h.set b (.T7 (bX (l.mergeSort λx y=>Zd (x<=y))) e 1)):=by
 refine Eb (vsx:=[.func (.func g) #[] #[]]) hb (by simp) Μ (rv:=λ_ _ _=>.tuple #[]) (λ_ _=>by simp[Rel,U1]) λR T8 o cap zfG hblk hH zgp=>?_
 have eg:∀args w,(callFunc g args).run P w=.ok (.enter g args) w:=λargs w=>by
  unfold ff at hg
  split at hg
  ·rename_i fn hfn;exact zfh ok hfn hg args w
  ·simp at hg
 have h1:=Any.slices_SortFunc_total L (Ox .i64) (λ_=>rfl) cmpZ ⟨λx=>by rw[ltZ];simp,λx y z h1 h2=>by rw[ltZ] at *;simp at *;omega,λx y z h1 h2=>by rw[ltZ] at *;simp at *;omega⟩ g #[] T8 o cap l.toArray _ eg (xt R zfG hE o _) hH hblk (by simpa using hl) (λx y h1 h2=>by rw[ltZ] at h1 h2;simp at h1 h2;omega)
 have e2:(l.mergeSort λx y=>!(ltOf cmpZ) y x)=l.mergeSort λx y=>Zd (x<=y):=by
  congr 1
  funext x y
  rw[ltZ]
  by_cases h:x<=y<;>simp[h]<;>omega
 refine Rx (by simpa using h1) ?_
 rintro e' w' ⟨rfl,n,os,rfl⟩
 refine⟨rfl,n,os,?_⟩
 rw[<-e2]
 rfl
theorem Ec{P:Program}{ρ:Ren}{Γ:aq}(L:Lays2.n20 P ρ){h:aT}{b e:Nat}{l:bV}(hb:h[b]? = some (.T7 (bX l) e 1))(hl:l.length<4611686018427387904)(Μ:l≠[]):
  Ev P Γ (ρ.f 20) (XI b e) h (.ref (.vs b e 0 (Pt l).length none)) (h.set b (zdL (Pt l++MS (l.length-(Pt l).length) 0) e)):=by
 have hc:(Pt l).length<=l.length:=by
  unfold Pt Lib.compactUpTo
  rw[N1]
  exact Nat.le_trans (Tj _ _) (by simp)
 refine Eb (vsx:=[]) hb (by simp;omega) Μ (rv:=λT8 o cap=>.slice (some ⟨T8,o,none⟩) (Pt l).length cap) (λ{w av loc T8 o cap} UZ zgp=>?_) λR T8 o cap zfG hblk hH zgp=>?_
 ·simp only[Rel,Ua,aK hb]
  exact⟨rfl,Nat.le_refl _,λ_=>⟨by simp[bX],T8,o,cap,cap,UZ,.inl (by simp),by omega,by omega,λk h=>by cases h⟩⟩
 ·refine Rx (calls_of_every_depth λD=>AnyS.slices_Compact_int_in L D T8 o cap l _ hH (by omega) zgp) ?_
  rintro e' w' ⟨rfl,n,rfl⟩
  exact⟨rfl,n,#[],(Sort.grow_empty _).symm⟩
end Go.Vi
open Go Go.Proofs
set_option maxRecDepth 100000
namespace Go.Proofs
open Go.Shelf
def Tryz.zjK:Go.Shelf.Ren:=⟨fun|6=>29|15=>71|14=>70|28=>135|29=>136|20=>127|21=>128|22=>129|23=>130|24=>131|25=>132|26=>133|27=>134|46=>180|47=>181|48=>182|49=>183|50=>184|57=>212|n=>n,fun|22=>55|24=>3|25=>85|3=>3|39=>146|0=>0|53=>204|55=>176|4=>4|46=>198|45=>197|50=>141|5=>5|9=>9|66=>239|70=>243|76=>261|77=>262|n=>n,fun|n=>n⟩
theorem Tryz.sortFI:Go.Proofs.SlLaysF.n6 MJ Tryz.zjK:={
 mixed:=by kernel_rfl
 f6:=⟨Tryz.f29.name,by decide,Tryz.func29.trans (congrArg some (by kernel_rfl))⟩
 f14:=⟨Tryz.f70.name,by decide,Tryz.func70.trans (congrArg some (by kernel_rfl))⟩
 f15:=Tryz.func71.trans (congrArg some (by kernel_rfl))
 f20:=⟨Tryz.f127.name,by decide,Tryz.func127.trans (congrArg some (by kernel_rfl))⟩
 f21:=⟨Tryz.f128.name,by decide,Tryz.func128.trans (congrArg some (by kernel_rfl))⟩
 f22:=⟨Tryz.f129.name,by decide,Tryz.func129.trans (congrArg some (by kernel_rfl))⟩
 f23:=⟨Tryz.f130.name,by decide,Tryz.func130.trans (congrArg some (by kernel_rfl))⟩
 f24:=⟨Tryz.f131.name,by decide,Tryz.func131.trans (congrArg some (by kernel_rfl))⟩
 f25:=⟨Tryz.f132.name,by decide,Tryz.func132.trans (congrArg some (by kernel_rfl))⟩
 f26:=⟨Tryz.f133.name,by decide,Tryz.func133.trans (congrArg some (by kernel_rfl))⟩
 f27:=⟨Tryz.f134.name,by decide,Tryz.func134.trans (congrArg some (by kernel_rfl))⟩
 f28:=Tryz.func135.trans (congrArg some (by kernel_rfl))
 f29:=Tryz.func136.trans (congrArg some (by kernel_rfl))
 f46:=⟨Tryz.f180.name,by decide,Tryz.func180.trans (congrArg some (by kernel_rfl))⟩
 f47:=Tryz.func181.trans (congrArg some (by kernel_rfl))
 f48:=Tryz.func182.trans (congrArg some (by kernel_rfl))
 f49:=⟨Tryz.f183.name,by decide,Tryz.func183.trans (congrArg some (by kernel_rfl))⟩
 f50:=⟨Tryz.f184.name,by decide,Tryz.func184.trans (congrArg some (by kernel_rfl))⟩
 f57:=⟨Tryz.f212.name,by decide,Tryz.func212.trans (congrArg some (by kernel_rfl))⟩
 t0:=Tryz.underlying0
 a0:=Tryz.isAgg0
 z0:=Tryz.sizeOf0
 v0:=Tryz.zeroValue0
 t3:=Tryz.underlying3
 a3:=TB
 z3:=S7
 v3:=Tryz.zeroValue3
 t4:=Tryz.underlying4
 a4:=Tryz.isAgg4
 z4:=Tryz.sizeOf4
 v4:=Tryz.zeroValue4
 t5:=Tryz.underlying5
 a5:=Tryz.isAgg5
 z5:=Tryz.sizeOf5
 v5:=Tryz.zeroValue5
 t9:=Tryz.underlying9
 a9:=Tryz.isAgg9
 z9:=Tryz.sizeOf9
 v9:=Tryz.zeroValue9
 t22:=Tryz.underlying55
 a22:=Tryz.isAgg55
 z22:=Tryz.sizeOf55
 v22:=Tryz.zeroValue55
 a24:=TB
 z24:=S7
 t25:=Tryz.underlying85
 a25:=Tryz.isAgg85
 z25:=Tryz.sizeOf85
 v25:=Tryz.zeroValue85
 t39:=Tryz.underlying146
 a39:=Tryz.isAgg146
 z39:=Tryz.sizeOf146
 v39:=Tryz.zeroValue146
 t45:=Tryz.underlying197
 a45:=Tryz.isAgg197
 z45:=Tryz.sizeOf197
 v45:=Tryz.zeroValue197
 t46:=Tryz.underlying198
 a46:=Tryz.isAgg198
 z46:=Tryz.sizeOf198
 v46:=Tryz.zeroValue198
 t50:=Tryz.underlying141
 a50:=Tryz.isAgg141
 z50:=Tryz.sizeOf141
 v50:=Tryz.zeroValue141
 t53:=Tryz.underlying204
 a53:=Tryz.isAgg204
 z53:=Tryz.sizeOf204
 v53:=Tryz.zeroValue204
 t55:=Tryz.underlying176
 a55:=Tryz.isAgg176
 z55:=Tryz.sizeOf176
 v55:=Tryz.zeroValue176
 t66:=Tryz.underlying239
 a66:=Tryz.isAgg239
 z66:=Tryz.sizeOf239
 v66:=Tryz.zeroValue239
 t70:=Tryz.underlying243
 a70:=Tryz.isAgg243
 z70:=Tryz.sizeOf243
 v70:=Tryz.zeroValue243
 t76:=Tryz.underlying261
 a76:=Tryz.isAgg261
 z76:=Tryz.sizeOf261
 v76:=Tryz.zeroValue261
 t77:=Tryz.underlying262
 a77:=Tryz.isAgg262
 z77:=Tryz.sizeOf262
 v77:=Tryz.zeroValue262}
def Tryz.zkU:Go.Shelf.Ren:=⟨fun|20=>31|n=>n,fun|22=>55|3=>3|4=>4|0=>0|n=>n,fun|n=>n⟩
theorem Tryz.compI:Go.Proofs.Lays2.n20 MJ Tryz.zkU:={
 mixed:=by kernel_rfl
 f20:=Tryz.func31.trans (congrArg some (by kernel_rfl))
 t0:=Tryz.underlying0
 a0:=Tryz.isAgg0
 z0:=Tryz.sizeOf0
 v0:=Tryz.zeroValue0
 t3:=Tryz.underlying3
 a3:=TB
 z3:=S7
 v3:=Tryz.zeroValue3
 t4:=Tryz.underlying4
 a4:=Tryz.isAgg4
 z4:=Tryz.sizeOf4
 v4:=Tryz.zeroValue4
 t22:=Tryz.underlying55
 a22:=Tryz.isAgg55
 z22:=Tryz.sizeOf55
 v22:=Tryz.zeroValue55
 i3:=by kernel_rfl}
end Go.Proofs
namespace Go.Vi
set_option maxRecDepth 100000
set_option maxHeartbeats 4000000
open Go.Shelf
theorem Ed{h:aT}{b e:Nat}{l:bV}(hb:h[b]? = some (.T7 (bX l) e 1))(hl:l.length<4611686018427387904)(Μ:l≠[]):
  Ev MJ U2 29 [.ref (.T7 b e),.p (Wl 30)] h (.UI []) (h.set b (W4 l e)) :=
 AG UR Tryz.sortFI (by kernel_rfl) (λx y=>dq x y []) hb hl Μ
theorem Ho{h:aT}{b e:Nat}{l:bV}(hb:h[b]? = some (.T7 (bX l) e 1))(hl:l.length<4611686018427387904)(Μ:l≠[]):
  Ev MJ U2 31 (XI b e) h (.ref (.vs b e 0 (Pt l).length none)) (h.set b (zdL (Pt l++MS (l.length-(Pt l).length) 0) e)):=Ec Tryz.compI hb hl Μ
end Go.Vi
open Go Go.Proofs
namespace Go.Vi
set_option maxRecDepth 100000
set_option maxHeartbeats 4000000
abbrev lokH(rs:oF)(e:Nat):aT:=[.var (XI 1 e),.T7 (ap (Us rs)) e 5]
abbrev XJ(a:oF)(b:Nat):bY:=[ab (Us a),.ref (.ptr b 0)]
theorem vG{rs qs:oF}(hb:rs.length+qs.length<=3000000000000):(Ev MJ U2 22 [ab (Us qs),.ref (.ptr 0 0)] (lokH rs 0) (.UI []) (lokH (rs++qs) 1)):=by
 refine Na (Oc (h':=[.var [.ref (.T7 1 1)],.T7 (ap (Us rs)++MK (λx=>MK QB x) (Us qs)) 1 5]) (d:=NG []) UR [] (by kernel_rfl) (.c (show(N2 (MK (λx=>MK QB x) (Us qs)) (aR 5)&&Um (MO (ap (Us rs))+MO (MK (λx=>MK QB x) (Us qs))) 40)=true from(by first|assumption|rfl|omega|(simp only[Aq,Um,Ou,MT,decide_eq_true_eq,N1];omega))) .n)) ?_ ?_<;>(first|rfl|(simp only[lokH,Us,ap,NP];rfl)|(simp only[lokH,Us,ap,NP];done))
theorem AH(h:aT):(Ev MJ U2 31 [nq] h (ab []) h):=by
 exact Na (Ev.zfp (Ev.zjJ (d:=nq) UR [.b true] (by kernel_rfl) (.c (show Zd ((↑0:Int)<2)=true from rfl) .n) rfl rfl h)) (by rfl) (by rfl)
abbrev Vt(a:aT):AS:=(zb6 53 [(0,nq),(1,SW 0),(2,SW 0),(3,fq 30),(8,SW 1)] a)
theorem sfi_i{H:aT}:(CW MJ U2 H false (sub Tryz.f127 0) (Vt H) (.exit 0) (Yn 53 H)):=by
 exact CW.cast (CW.zjH (s':=(Yn 53 H)) (e:=NR 0) UR Xd [.b false] (by kernel_rfl) (.c (show Zd (1<0)=false from rfl) .n)) (by rfl) (by rfl)
theorem sfi_cw{H:aT}:CW MJ U2 H false (.loop (sub Tryz.f127 0)) (Vt H) (.exit 0) (Yn 53 H) :=
 Rn 0 (λ_=>(Vt H)) (by simp) (λi hi=>absurd hi (Qj i)) sfi_i
theorem Hp{H:aT}:(Ev MJ U2 127 [nq,SW 0,SW 0,fq 30] H (.UI []) H):=by
 have UE:=(@sfi_cw (H))
 exact Na (Oc (h':=H) (d:=NG []) UR [.sum [0,1,2,3,8] (NR 0) (Yn 53 H)] (by kernel_rfl) (.c UE .n)) (by rfl) (by rfl)
abbrev Wc(a:aT):AS:={t:=Ue 148 0 [(0,nq),(1,SW 0),(2,SW 0),(3,SW 0),(4,fq 30),(10,T6 true),(11,T6 true)],h:=a,m:=[]}
theorem sfp_i{H:aT}:(CW MJ U2 H false (sub Tryz.f70 0) (Wc H) .ret (Yn 148 H)):=by
 exact CW.cast (CW.zjH (s':=(Yn 148 H)) (e:=Oq) UR Xd [.b true,.val (NG [])] (by kernel_rfl) (.c (show Zd (MN ML (0-0)<=12)=true from rfl) (.c (@Hp (H)) .n))) (by rfl) (by rfl)
theorem sfp_cw{H:aT}:CW MJ U2 H false (.loop (sub Tryz.f70 0)) (Wc H) .ret (Yn 148 H) :=
 Rn 0 (λ_=>(Wc H)) (by simp) (λi hi=>absurd hi (Qj i)) sfp_i
theorem Hq{H:aT}:(Ev MJ U2 70 [nq,SW 0,SW 0,SW 0,fq 30] H (.UI []) H):=by
 have UE:=(@sfp_cw (H))
 exact Na (Oc (h':=H) (d:=NG []) UR [.sum [0,1,2,3,4,10,11] (Oq) (Yn 148 H)] (by kernel_rfl) (.c UE .n)) (by rfl) (by rfl)
theorem Ms(h:aT):(Ev MJ U2 71 [u64 (Nj.wrap 0)] h (SW 0) h):=by
 exact Na (Ev.zjJ (d:=SW (MN ML (0+MN ML (↑(UInt8.toNat (Array.getD (List.toArray (QZ (QZ [0,1,2,2,3,3,3,3,4,4,4,4,4,4,4,4,5,5,5,5,5,5,5,5,5,5,5,5,5,5,5,5,6,6,6,6,6,6,6,6,6,6,6,6,6,6,6,6,6,6,6,6,6,6,6,6,6,6,6,6,6,6,6,6] [7,7,7,7,7,7,7,7,7,7,7,7,7,7,7,7,7,7,7,7,7,7,7,7,7,7,7,7,7,7,7,7,7,7,7,7,7,7,7,7,7,7,7,7,7,7,7,7,7,7,7,7,7,7,7,7,7,7,7,7,7,7,7,7]) (QZ [8,8,8,8,8,8,8,8,8,8,8,8,8,8,8,8,8,8,8,8,8,8,8,8,8,8,8,8,8,8,8,8,8,8,8,8,8,8,8,8,8,8,8,8,8,8,8,8,8,8,8,8,8,8,8,8,8,8,8,8,8,8,8,8] [8,8,8,8,8,8,8,8,8,8,8,8,8,8,8,8,8,8,8,8,8,8,8,8,8,8,8,8,8,8,8,8,8,8,8,8,8,8,8,8,8,8,8,8,8,8,8,8,8,8,8,8,8,8,8,8,8,8,8,8,8,8,8,8]))) (MU (MN IntKind.u8 (MN Nj 0))) 0)):Int)))) UR [.b false,.inl,.b false,.b false,.b false] (by kernel_rfl) (.c (show false=false from rfl) (.c (show Zd (MN Nj 0>=4294967296)=false from rfl) (.c (show Zd (MN Nj 0>=65536)=false from rfl) (.c (show Zd (MN Nj 0>=256)=false from rfl) (.c (show UU (MN IntKind.u8 (MN Nj 0)) (ByteArray.size {data:=List.toArray (QZ (QZ [0,1,2,2,3,3,3,3,4,4,4,4,4,4,4,4,5,5,5,5,5,5,5,5,5,5,5,5,5,5,5,5,6,6,6,6,6,6,6,6,6,6,6,6,6,6,6,6,6,6,6,6,6,6,6,6,6,6,6,6,6,6,6,6] [7,7,7,7,7,7,7,7,7,7,7,7,7,7,7,7,7,7,7,7,7,7,7,7,7,7,7,7,7,7,7,7,7,7,7,7,7,7,7,7,7,7,7,7,7,7,7,7,7,7,7,7,7,7,7,7,7,7,7,7,7,7,7,7]) (QZ [8,8,8,8,8,8,8,8,8,8,8,8,8,8,8,8,8,8,8,8,8,8,8,8,8,8,8,8,8,8,8,8,8,8,8,8,8,8,8,8,8,8,8,8,8,8,8,8,8,8,8,8,8,8,8,8,8,8,8,8,8,8,8,8] [8,8,8,8,8,8,8,8,8,8,8,8,8,8,8,8,8,8,8,8,8,8,8,8,8,8,8,8,8,8,8,8,8,8,8,8,8,8,8,8,8,8,8,8,8,8,8,8,8,8,8,8,8,8,8,8,8,8,8,8,8,8,8,8]))})=true from rfl) .n))))) rfl rfl h) (by rfl) (by rfl)
theorem AI{H:aT}:(Ev MJ U2 29 [nq,fq 30] H (.UI []) H):=by
 exact Na (Oc (h':=H) (d:=NG []) UR [.val (SW 0),.val (NG [])] (by kernel_rfl) (.c (@Ms (H)) (.c (@Hq (H)) .n))) (by rfl) (by rfl)
abbrev zbl(a b:bV):bV:=(a++MS (b.length-a.length) 0)
theorem Hr{l:bV}(hl:l.length<4611686018427387904)(Μ:l≠[]):
  Ev MJ U2 31 (XI 0 0) [.T7 (ao l) 0 1] (ab (aW (Pt l))) [.U7]:=by
 have h1:=Ho (h:=[.T7 (bX l) 0 1]) (b:=0) (e:=0) (l:=l) rfl hl Μ
 generalize Pt l=m at h1 ⊢
 have h2:=Ev.post (d2:=.p (.sl (List.take m.length (Oz 0 (aW (zbl m l)))))) (h2:=[.U7]) (φ:=[bX (zbl m l)=(aW (zbl m l)).map (·.map .p)]) [.st (.frz 0 (aW (zbl m l)))] h1 rfl ⟨gL _,trivial⟩
 have e1:List.take m.length (Oz 0 (aW (zbl m l)))=aW m:=by
  rw[Pk]
  unfold aW
  rw[NP]
  exact List.take_left' (by simp)
 rw[e1] at h2
 exact h2
abbrev WI(a:T9)(b:D):aT:=[.var a.l,.var [nq,SW 0,nq],.var [T6 false],.var [b],.var [SW 0]]
abbrev hA(w:T9):aT:=(WI w nq)
abbrev Zx(a:TO):bY:=(zcO a (.ref (.T7 8 1)))
abbrev dgC(p:TO):bY:=(Zx p)
abbrev zcg(a b:bY)(c:List (bY))(d:Nat)(f g:bY):aT:=[.var a,.var [nq,SW 0,nq],.var [T6 false],.var b,.var [SW 0],.T7 c d 5,.var f,.var g]
abbrev dgB(w:T9)(rs:oF)(e:Nat)(pc:bY)(r:UW):aT:=(zcg w.l (XI 5 e) (ap (Us rs)) e pc r.l)
abbrev ZQ:Nat×D:=(zcL 10)
abbrev ZR:Nat×D:=(zcH 11)
abbrev ZS:Nat×D:=(zcj 12 3)
abbrev ZT:Nat×D:=(zcj 13 4)
abbrev Yz:Nat×D:=(15,.ref (.ptr 6 0))
abbrev Xr:Nat×D:=(5,.ref (.ptr 0 0))
abbrev W0:Nat×D:=(14,.fn (.func 22) [] (zez 3))
abbrev W1:Nat×D:=(82,.ref (.T7 8 1))
abbrev W9(a:iF):Nat×D:=(20,ab (a.map MQ))
abbrev zbB:Nat×D:=(23,.ref (.T7 10 0))
abbrev diS(w:T9)(T4 ST:Int)(l:iF)(rs:oF)(p:TO)(r:UW)(L:bv)(q:UA)(fs:bV)(n k i:Int):AS :=
 {t:=Ue 167 0 [(3,SW T4),(4,SW ST),Xr,ZQ,ZR,ZS,ZT,W0,Yz,(W9 l),(21,SW k),(zcj 22 9),zbB,W1,(83,SW n),(84,SW k),(90,ab (aW q.U3)),(91,(zcS (aW q.U3))),(92,SW i)],
  h:=dgB w rs 0 (dgC p) r++[.T7 (ap L) 1 6,.var (zbw q),.T7 (ao fs) 0 1],m:=[]}
abbrev diE(w:T9)(T4 ST:Int)(l:iF)(rs:oF)(p:TO)(r:UW)(L:bv)(q:UA)(fs:bV)(n k:Int):AS :=
 {t:=Ue 167 0 [(3,SW T4),(4,SW ST),Xr,ZQ,ZR,ZS,ZT,W0,Yz,(W9 l),(21,SW k),zbB,W1,(83,SW n),(84,SW k)],
  h:=dgB w rs 0 (dgC p) r++[.T7 (ap L) 1 6,.var (zbw q),.T7 (ao fs) 0 1],m:=[]}
abbrev Wa(a:bV):List (bY):=MK (λx=>MK QB x) (aW a)
theorem Ee(m:bV):(Wa m)=ao m:=by simp[ao]
theorem pP(f:Ref->D)(l m:bV):MK (N8 f) (ao l++(Wa m))=ao l++(Wa m):=by
 rw[Ee,NP,aB,aB]
theorem xu{l m:bV}(h:l.length+m.length<=100000000000):(N2 (Wa m) (aR 1)&&Um (MO (ao l)+MO (Wa m)) 8)=true:=by
 rw[MT]
 constructor
 ·rw[Ni]
  intro x hx
  simp only[QY,Nt,Function.comp] at hx
  obtain⟨q,_,rfl⟩:=hx
  rfl
 ·simp only[N1,dv]
  unfold Um
  simp
  omega
abbrev Yi:bY:=[.ref (.T7 5 0)]
abbrev zch(a:T9)(b:oF)(c:TO)(d:UW)(e:bv)(f:UA)(g:Uc):aT:=[.var (Zi a),.var [nq,SW 0,nq],.var [T6 false],.var Yi,.var [SW 0],.T7 (ap (Us b)) 0 5,.var (Zx c),.var (Z6 d),.T7 (ap e) 1 6,.var (ZD f),g]
noncomputable abbrev l7(w:T9)(rs:oF)(p:TO)(r:UW)(L:bv)(q:UA)(fs:bV):aT:=(zch w rs p r L q (.T7 (ao fs) 0 1))
abbrev Zp(b:bY)(c:Nat)(d:bv)(e:TO)(f:bY)(g:bv)(h:UA)(i:Uc):aT:=[.var b,.var [nq,SW 0,nq],.var [T6 false],.var [.ref (.T7 5 c)],.var [SW 0],.T7 (ap (d)) c 5,.var (zcO e (.ref (.T7 8 1))),.var f,.T7 (ap g) 1 6,.var (zdB h),i]
abbrev Vg:bY:=(zez 3)
theorem Mt{w:T9}{T4 ST n k:Int}{l:iF}{rs qs:oF}{p:TO}{r:UW}{L:bv}{q:UA}{fs gs:bV}{c:Int}{i:Nat}
  (hr:ax (i:Int) (aW q.U3) [vi c] 1) (U8:Zd ((i:Int)<((aW q.U3).length:Int))=true) (hw:ML.wrap ((i:Int)+1)=((i+1:Nat):Int))
  (heq:∀h,Ev MJ Un 28 [.agg w.l,SW c,SW T4,SW ST] h (.UI [ab (aW gs),ab (Us qs)]) h)
  (hb:rs.length+qs.length<=3000000000000) (hb2:fs.length+gs.length<=100000000000):(CW MJ Un (hA w) false (sub NH 1) (diS w T4 ST l rs p r L q fs n k i) .normal (diS w T4 ST l (rs++qs) p r L q (fs++gs) n k ((i+1:Nat):Int))):=by
 let v0:aT:=[.var (Oi w),.var [nq,SW 0,nq],.var [T6 false],.var [.ref (.T7 5 1)],.var [SW 0],.T7 (ap (Us (rs++qs))) 1 5,.var [ak p.nm,SW p.number,SW p.UC,SW p.UL,SW p.num,SW p.den,.ref (.T7 8 1)],.var [SW r.st,ab (MK MQ r.a)],.T7 (ap L) 1 6,.var [ak q.nm,SW q.To,SW q.Uf,T6 q.home,ab q.names,ab (aW q.U3)],.T7 (ao fs) 0 1]
 refine zX {t:=Ue 167 0 [(3,SW T4),(4,SW ST),(5,.ref (.ptr 0 0)),(10,.ref (.ptr 1 0)),(11,.ref (.ptr 2 0)),(12,.ref (.ptr 3 0)),(13,.ref (.ptr 4 0)),(14,D.fn (M7 22) [] [.ref (.ptr 3 0)]),(15,.ref (.ptr 6 0)),(20,ab (MK MQ l)),(21,SW k),(22,.ref (.ptr 9 0)),(23,.ref (.T7 10 0)),(82,.ref (.T7 8 1)),(83,SW n),(84,SW k),(90,ab (aW q.U3)),(91,SW (↑(MO (aW q.U3)):Int)),(92,SW (MN ML ((↑i:Int)+1)))],h:=[.var [ab (MK MZ w.c),ab w.p,ab (MK M9 w.s),ab (MK M3 w.f)],.var [nq,SW 0,nq],.var [T6 false],.var [.ref (.T7 5 0)],.var [SW 0],.T7 (ap (Us (rs++qs))) 0 5,.var [ak p.nm,SW p.number,SW p.UC,SW p.UL,SW p.num,SW p.den,.ref (.T7 8 1)],.var [SW r.st,ab (MK MQ r.a)],.T7 (ap L) 1 6,.var [ak q.nm,SW q.To,SW q.Uf,T6 q.home,ab q.names,ab (aW q.U3)],.T7 (ao fs++MK (λx=>MK QB x) (aW gs)) 0 1],m:=[]} M6 [.st (.mask [3,4,5,10,11,12,13,14,15,20,21,22,23,82,83,84,90,91,92]),.st (.ren 5 0),.st (.ren 10 0)] [.b true,.row [vi c],.val (NG [ab (aW gs),ab (Us qs)]),.call (NG []) v0] (.c U8 (.c hr (.c (@heq (l7 w rs p r L q fs)) (.c (show Ev MJ Un 22 [ab (Us qs),.ref (.ptr 3 0)] (l7 w rs p r L q fs) (NG []) v0 from(Na (Ov (args:=[ab (Us qs),.ref (.ptr 3 0)]) (H:=(l7 w rs p r L q fs)) [3,5] (Ns (@vG rs qs hb)) (by kernel_rfl) (by kernel_rfl) (by kernel_rfl) ⟨(by subst v0;first|rfl|exact al _ _|first|assumption|rfl|exact aD _ _|exact ai|exact aB _ _|exact aj _ _|exact aw _ _|exact pP _ _ _|exact xu hb2|omega|(simp only[Aq,Um,Ou,MT,decide_eq_true_eq,N1];omega)),trivial⟩ ⟨(by subst v0;first|rfl|exact al _ _|first|assumption|rfl|exact aD _ _|exact ai|exact aB _ _|exact aj _ _|exact aw _ _|exact pP _ _ _|exact xu hb2|omega|(simp only[Aq,Um,Ou,MT,decide_eq_true_eq,N1];omega)),trivial⟩) (by kernel_rfl) (by kernel_rfl))) (.c (show(N2 (MK (λx=>MK QB x) (aW gs)) (aR 1)&&Um (MO (ao fs)+MO (MK (λx=>MK QB x) (aW gs))) 8)=true from ?_) (.c (vM (Us (rs++qs)) 5 1 0) (.c (vM L 5 1 0) (.c (show MK (N8 (a8 5 1 0)) (ao fs++MK (λx=>MK QB x) (aW gs))=ao fs++MK (λx=>MK QB x) (aW gs) from ?_) (.c (show MK (N8 (a8 10 1 0)) (ao fs++MK (λx=>MK QB x) (aW gs))=ao fs++MK (λx=>MK QB x) (aW gs) from ?_) (.c (vM (Us (rs++qs)) 10 1 0) (.c (vM L 10 1 0) .n))))))))))) (by subst v0;first|rfl|(simp only[hw,diS,dgB,Us,ap,ao,aW,NP,QY,RX];rfl)) (by subst v0;first|rfl|(simp only[hw,diS,dgB,Us,ap,ao,aW,NP,QY,RX];rfl))<;>subst v0<;>(first|assumption|rfl|exact aD _ _|exact ai|exact aB _ _|exact aj _ _|exact aw _ _|exact pP _ _ _|exact xu hb2|omega|(simp only[Aq,Um,Ou,MT,decide_eq_true_eq,N1];omega))
abbrev zbx:BY:=[.st (.mask [3,4,5,10,11,12,13,14,15,20,21,23,82,83,84])]
theorem Mu{w:T9}{T4 ST n k:Int}{l:iF}{rs:oF}{p:TO}{r:UW}{L:bv}{q:UA}{fs:bV}{i:Nat}
  (U8:Zd ((i:Int)<((aW q.U3).length:Int))=false):(CW MJ Un (hA w) false (sub NH 1) (diS w T4 ST l rs p r L q fs n k i) (.exit 2) (diE w T4 ST l rs p r L q fs n k)):=by
 exact zx zbx [.b false] (.c U8 .n)
def frF(w:T9)(T4 ST:Int)(s:oF×bV)(c:Int):oF×bV:=(s.1++(tk w c T4 ST).1,s.2++(tk w c T4 ST).2)
theorem pQ{w:T9}{T4 ST:Int}(hn:(ah w.f ST).length<=1000):∀(cs:bV) (s:oF×bV),(cs.foldl (frF w T4 ST) s).1.length<=s.1.length+cs.length*1001001/\(cs.foldl (frF w T4 ST) s).2.length<=s.2.length+cs.length*1001
 | [],s=>by simp
 | c::cs,s=>by
  obtain⟨h1,h2⟩:=pQ (T4:=T4) hn cs (frF w T4 ST s c)
  obtain⟨g1,g2⟩:=zg (w:=w) (c:=c) (T4:=T4) (ST:=ST) hn
  have e1:(frF w T4 ST s c).1.length=s.1.length+(tk w c T4 ST).1.length:=by simp[frF]
  have e2:(frF w T4 ST s c).2.length=s.2.length+(tk w c T4 ST).2.length:=by simp[frF]
  rw[Nn,Nq]
  omega
theorem Mv{w:T9}(hw:w.ok){T4 ST n k:Int}(hn:(ah w.f ST).length<=1000){l:iF}{rs:oF}{p:TO}{r:UW}{L:bv}{q:UA}
  (hq:q.U3.length<=1048576) (hb:rs.length+q.U3.length*1001001<=3000000000000) :
  CW MJ Un (hA w) false (.loop (sub NH 1)) (diS w T4 ST l rs p r L q [] n k 0) (.exit 2) (diE w T4 ST l (q.U3.foldl (frF w T4 ST) (rs,[])).1 p r L q (q.U3.foldl (frF w T4 ST) (rs,[])).2 n k):=by
 have key (i:Nat) (hi:i<=q.U3.length):((q.U3.take i).foldl (frF w T4 ST) (rs,[])).1.length<=rs.length+i*1001001/\((q.U3.take i).foldl (frF w T4 ST) (rs,[])).2.length<=i*1001:=by
  have h1:=pQ (T4:=T4) hn (q.U3.take i) (rs,[])
  have hlen:(q.U3.take i).length=i:=by rw[List.length_take];omega
  rw[hlen] at h1
  simpa using h1
 have h0:=Rn (P:=MJ) (Γ:=Un) (h0:=hA w) (rd:=false) (c:=sub NH 1) q.U3.length (λi=>diS w T4 ST l ((q.U3.take i).foldl (frF w T4 ST) (rs,[])).1 p r L q ((q.U3.take i).foldl (frF w T4 ST) (rs,[])).2 n k (i:Int)) (e:=.exit 2) (by simp) (λi hi=>?_) (Mu (by simp))
 ·rw[List.take_length] at h0
  exact h0
 ·have hc:q.U3[i]? = some q.U3[i]:=List.getElem?_eq_getElem hi
  have e1:(q.U3.take (i+1)).foldl (frF w T4 ST) (rs,[])=frF w T4 ST ((q.U3.take i).foldl (frF w T4 ST) (rs,[])) q.U3[i]:=by
   rw[List.take_succ_eq_append_getElem hi,List.foldl_append,Nn,List.foldl_nil]
  obtain⟨k1,k2⟩:=key i (by omega)
  obtain⟨g1,g2⟩:=zg (w:=w) (c:=q.U3[i]) (T4:=T4) (ST:=ST) hn
  have heq:=D8 hw (c:=q.U3[i]) (T4:=T4) (ST:=ST) hn
  show CW MJ Un (hA w) false (sub NH 1) (diS w T4 ST l ((q.U3.take i).foldl (frF w T4 ST) (rs,[])).1 p r L q ((q.U3.take i).foldl (frF w T4 ST) (rs,[])).2 n k (i:Int)) .normal (diS w T4 ST l ((q.U3.take (i+1)).foldl (frF w T4 ST) (rs,[])).1 p r L q ((q.U3.take (i+1)).foldl (frF w T4 ST) (rs,[])).2 n k ((i+1:Nat):Int))
  rw[e1]
  have k3:i*1001001+1001001<=q.U3.length*1001001:=by omega
  generalize (q.U3.take i).foldl (frF w T4 ST) (rs,[])=s at *
  exact Mt (rowAt (row:=λn:Int=>[vi n]) hc rfl) (UO (λn:Int=>[vi n]) hi) (Uo hi (show q.U3.length<=_ by omega)) heq (by omega) (by omega)
theorem tyQ:(dz MJ 47,MJ.underlying 47,VB MJ 58,Ef MJ 58,VB MJ 55)=(some 58,some (.slice 58),some 6,some true,some 1):=by kernel_rfl
abbrev zbR(a:Nat):D:=D.ref (.vp 8 1 a 0)
abbrev zdI:D:=(.ref (.T7 8 1))
theorem tf{h:aT}{L:bv}{k:Nat}(hb:h[8]? = some (.T7 (ap L) 1 6))(hk:k<L.length):ba MJ h 47 zdI (SW (k:Int))=some (true,(zbR k)):=by
 have h3:=tyQ
 simp only[MP] at h3
 have h4:UU (k:Int) L.length=true:=by simp[UU];omega
 simp only[ba,VC,h3.2.1,h3.2.2.1,hb,if_true,and_self,N1,h4,Int.toNat_natCast]
abbrev zaD(a:Nat):D:=(.ref (.vp 8 1 a 0))
theorem tg{h:aT}{L:bv}{q:UA}{k:Nat}(hb:h[8]? = some (.T7 (ap L) 1 6))(hk:L[k]? = some q.row):aN MJ h 58 (zaD k)=some (ag q.row):=by
 have h3:=tyQ
 simp only[MP] at h3
 have h5:(ap L)[k]? = some (zbw q):=by rw[Om,hk];rfl
 simp only[aN,hb,if_true,h5,Pk,cn,h3.2.2.1,h3.2.2.2.1]
 rfl
abbrev Hs(q:UA)(R:bV):UA:=⟨q.nm,q.To,q.Uf,q.home,q.names,R⟩
abbrev Vm(a:Nat):D:=(.ref (.vp 8 1 a 5))
theorem th{h:aT}{L:bv}{q:UA}{R:bV}{k:Nat}(hb:h[8]? = some (.T7 (ap L) 1 6))(hk:L[k]? = some q.row):aX MJ h 55 (Vm k) (ab (aW R))=some (h.set 8 (.T7 (ap (L.set k (Hs q R).row)) 1 6)):=by
 have h3:=tyQ
 simp only[MP] at h3
 have h5:(ap L)[k]? = some (zbw q):=by rw[Om,hk];rfl
 have h6:(ap L).set k (bm (zbw q) 5 [ab (aW R)])=ap (L.set k (Hs q R).row):=by
  unfold ap
  rw[List.map_set]
  rfl
 simp only[aX,D.cells,h3.2.2.2.2,hb,if_true,h5]
 show some (h.set 8 (Uc.T7 ((ap L).set k (bm (zbw q) 5 [ab (aW R)])) 1 6))=_
 rw[h6]
abbrev zdh(a b:Int)(c d e:Nat×D)(f:Int)(g:D):bY:=Ue 167 0 [(3,SW a),(4,SW b),Xr,ZQ,ZR,ZS,ZT,c,Yz,d,e,(83,SW f),(84,g)]
abbrev doS(w:T9)(T4 ST:Int)(l:iF)(rs:oF)(p:TO)(r:UW)(L:bv)(n k:Int):AS :=
 {t:=(zdh T4 ST W0 (W9 l) W1 n (SW k)),
  h:=dgB w rs 0 (dgC p) r++[.T7 (ap L) 1 6],m:=[]}
noncomputable abbrev i7(w:T9)(rs2:oF)(p:TO)(r:UW)(L:bv)(q:UA)(fs:bV):aT:=(zch w rs2 p r L q (.T7 (ao (zeg fs)) 0 1))
noncomputable abbrev l8(w:T9)(rs2:oF)(p:TO)(r:UW)(L:bv)(q:UA)(fs:bV):aT:=(zch w rs2 p r L q (.T7 (ao fs) 0 1))
noncomputable abbrev l9(w:T9)(rs2:oF)(p:TO)(r:UW)(L:bv)(q:UA):aT:=(zch w rs2 p r L q (.U7))
abbrev W5:oN:=(some zdI)
abbrev W6:Uc:=(.var [T6 false])
abbrev V2(a:Nat):Ref:=(.vp 8 1 (MU (↑a:Int)) 0)
abbrev za7:BY:=[.st (.mask [3,4,5,10,11,12,13,14,15,20,82,83,84]),.st (.UN 9)]
abbrev zbM:D:=(.ref (.ptr 6 6))
abbrev zb8(a b:bY)(c:List (bY))(d e:bY)(f:Uc):aT:=[.var a,.var b,.var [T6 false],.var Yi,.var [SW 0],.T7 c 0 5,.var d,.var e,f]
abbrev zd0(a:bY)(b:oF)(c:TO)(d:bY)(e:bv):aT:=(zb8 a [nq,SW 0,nq] (ap (Us b)) (Zx c) d (.T7 (ap e) 1 6))
theorem Mw{w:T9}{T4 ST n:Int}{l:iF}{rs rs2:oF}{p:TO}{r:UW}{L:bv}{q:UA}{fs R:bV}{k:Nat}
  (hk:k<L.length) (hq:L[k]? = some q.row) (U8:Zd ((k:Int)<n)=true) (hw:ML.wrap ((k:Int)+1)=((k+1:Nat):Int))
  (UY:CW MJ Un (hA w) false (.loop (sub NH 1)) (diS w T4 ST l rs p r L q [] n k 0) (.exit 2) (diE w T4 ST l rs2 p r L q fs n k))
  (hso:Ev MJ U2 29 [.ref (.T7 0 0),fq 30] [.T7 (ao fs) 0 1] (.UI []) [.T7 (ao (fs.mergeSort λx y=>Zd (x<=y))) 0 1])
  (hco:Ev MJ U2 31 [.ref (.T7 0 0)] [.T7 (ao (fs.mergeSort λx y=>Zd (x<=y))) 0 1] (ab (aW R)) [.U7]):(CW MJ Un (hA w) false (sub NH 0) (doS w T4 ST l rs p r L n k) .normal (doS w T4 ST l rs2 p r (L.set k (Hs q R).row) n ((k+1:Nat):Int))):=by
 have UE:=(@UY)
 let v0:bY:=[SW r.st,ab (MK MQ r.a)]
 let v1:=List.set L k (M0 (Hs q R))
 refine zX {t:=Ue 167 0 [(3,SW T4),(4,SW ST),(5,.ref (.ptr 0 0)),(10,.ref (.ptr 1 0)),(11,.ref (.ptr 2 0)),(12,.ref (.ptr 3 0)),(13,.ref (.ptr 4 0)),(14,D.fn (M7 22) [] [.ref (.ptr 3 0)]),(15,.ref (.ptr 6 0)),(20,ab (MK MQ l)),(82,.ref (.T7 8 1)),(83,SW n),(84,SW (MN ML ((↑k:Int)+1)))],h:=[.var [ab (MK MZ w.c),ab w.p,ab (MK M9 w.s),ab (MK M3 w.f)],.var [nq,SW 0,nq],.var [T6 false],.var [.ref (.T7 5 0)],.var [SW 0],.T7 (ap (Us rs2)) 0 5,.var [ak p.nm,SW p.number,SW p.UC,SW p.UL,SW p.num,SW p.den,.ref (.T7 8 1)],.var v0,.T7 (ap v1) 1 6],m:=[]} M6 [.st (.mask [3,4,5,10,11,12,13,14,15,20,82,83,84]),.st (.UN 9)] [.b true,.ov 87 (.ref (.vp 8 1 k 0)),.ov 88 (ag (M0 q)),.nx 2,.st (.zjQ 23 1),.sum [3,4,5,10,11,12,13,14,15,20,21,22,23,82,83,84,90,91,92] (NR 2) {t:=Ue 167 0 [(3,SW T4),(4,SW ST),(5,.ref (.ptr 0 0)),(10,.ref (.ptr 1 0)),(11,.ref (.ptr 2 0)),(12,.ref (.ptr 3 0)),(13,.ref (.ptr 4 0)),(14,D.fn (M7 22) [] [.ref (.ptr 3 0)]),(15,.ref (.ptr 6 0)),(20,ab (MK MQ l)),(21,SW (↑k:Int)),(23,.ref (.T7 10 0)),(82,.ref (.T7 8 1)),(83,SW n),(84,SW (↑k:Int))],h:=(l8 w rs2 p r L q fs),m:=[]},.call (NG []) (i7 w rs2 p r L q fs),.call (ab (aW R)) (l9 w rs2 p r L q),.ov 118 (.ref (.vp 8 1 k 0)),.ov 119 (.ref (.vp 8 1 k 5)),.oh 10119 D.any (dgB w rs2 0 (dgC p) r++[.T7 (ap v1) 1 6,.var (MK QB (M0 q)),.U7])] (.c U8 (.c (show @Eq (Option (Bool×D)) (some (UU (↑k:Int) (MO (ap L)),.ref (.vp 8 1 (MU (↑k:Int)) 0))) (some (true,D.ref (.vp 8 1 k 0))) from(by subst v0 v1;first|(simp only[U8,cond_true,cond_false];done)|first|assumption|rfl|exact tf rfl hk|exact tg rfl hq|exact th rfl hq|exact aD _ _|exact ai|exact aB _ _|exact aj _ _|exact aw _ _|omega|(simp[UU];omega))) (.c (show @Eq (oN) (aN MJ [.var (Oi w),.var [nq,SW 0,nq],.var [T6 false],.var [.ref (.T7 5 0)],.var [SW 0],.T7 (ap (Us rs)) 0 5,.var [ak p.nm,SW p.number,SW p.UC,SW p.UL,SW p.num,SW p.den,.ref (.T7 8 1)],.var v0,.T7 (ap L) 1 6] 58 (.ref (.vp 8 1 k 0))) (some (D.agg [ak q.nm,SW q.To,SW q.Uf,T6 q.home,ab q.names,ab (aW q.U3)])) from ?_) (.c UE (.c (show Ev MJ Un 29 [.ref (.T7 10 0),fq 30] (l8 w rs2 p r L q fs) (NG []) (i7 w rs2 p r L q fs) from(Na (Ov (args:=[.ref (.T7 10 0),fq 30]) (H:=(l8 w rs2 p r L q fs)) [10] (Ns (@hso)) (by kernel_rfl) (by kernel_rfl) (by kernel_rfl) ⟨(by subst v0 v1;first|rfl|exact al _ _|first|assumption|rfl|exact tf rfl hk|exact tg rfl hq|exact th rfl hq|exact aD _ _|exact ai|exact aB _ _|exact aj _ _|exact aw _ _|omega|(simp[UU];omega)),trivial⟩ ⟨(by subst v0 v1;first|rfl|exact al _ _|first|assumption|rfl|exact tf rfl hk|exact tg rfl hq|exact th rfl hq|exact aD _ _|exact ai|exact aB _ _|exact aj _ _|exact aw _ _|omega|(simp[UU];omega)),trivial⟩) (by kernel_rfl) (by kernel_rfl))) (.c (show Ev MJ Un 31 [.ref (.T7 10 0)] (i7 w rs2 p r L q fs) (ab (aW R)) (l9 w rs2 p r L q) from(Na (Ov (args:=[.ref (.T7 10 0)]) (H:=(i7 w rs2 p r L q fs)) [10] (Ns (@hco)) (by kernel_rfl) (by kernel_rfl) (by kernel_rfl) ⟨(by subst v0 v1;first|rfl|exact al _ _|first|assumption|rfl|exact tf rfl hk|exact tg rfl hq|exact th rfl hq|exact aD _ _|exact ai|exact aB _ _|exact aj _ _|exact aw _ _|omega|(simp[UU];omega)),trivial⟩ trivial) (by kernel_rfl) (by kernel_rfl))) (.c (show @Eq (Option (Bool×D)) (some (UU (↑k:Int) (MO (ap L)),.ref (.vp 8 1 (MU (↑k:Int)) 0))) (some (true,D.ref (.vp 8 1 k 0))) from(by subst v0 v1;first|(simp only[U8,cond_true,cond_false];done)|first|assumption|rfl|exact tf rfl hk|exact tg rfl hq|exact th rfl hq|exact aD _ _|exact ai|exact aB _ _|exact aj _ _|exact aw _ _|omega|(simp[UU];omega))) (.c (show @Eq (oN) (some (.ref (.vp 8 1 k 5))) (some (.ref (.vp 8 1 k 5))) from rfl) (.c (show @Eq (Option (aT)) (aX MJ (l9 w rs2 p r L q) 55 (.ref (.vp 8 1 k 5)) (ab (aW R))) (some [.var (Oi w),.var [nq,SW 0,nq],.var [T6 false],.var [.ref (.T7 5 0)],.var [SW 0],.T7 (ap (Us rs2)) 0 5,.var [ak p.nm,SW p.number,SW p.UC,SW p.UL,SW p.num,SW p.den,.ref (.T7 8 1)],.var v0,.T7 (ap v1) 1 6,.var [ak q.nm,SW q.To,SW q.Uf,T6 q.home,ab q.names,ab (aW q.U3)],.U7]) from ?_) (.e (.ref (.ptr 6 6)) (.e (.ref (.ptr 6 6)) (.c (show @Eq (oN) (some (.ref (.T7 8 1))) (some (.ref (.T7 8 1))) from rfl) (.c (show @Eq (oN) (some (.ref (.T7 8 1))) (some (.ref (.T7 8 1))) from rfl) (.c (show UU (↑k:Int) (MO (ap L))=true from ?_) (.c (show(.ref (.vp 8 1 (MU (↑k:Int)) 0):D)=.ref (.vp 8 1 k 0) from ?_) (.e (.ref (.vp 8 1 k 5)) (.c (iqT 9 (.var (Oi w))) (.c (iqT 9 (.var [nq,SW 0,nq])) (.c (iqT 9 (.var [T6 false])) (.c (iqT 9 (.var [.ref (.T7 5 0)])) (.c (iqT 9 (.var [SW 0])) (.c (show MY 9 (.T7 (ap (Us rs2)) 0 5)=true from ?_) (.c (iqT 9 (.var [ak p.nm,SW p.number,SW p.UC,SW p.UL,SW p.num,SW p.den,.ref (.T7 8 1)])) (.c (iqT 9 (.var v0)) (.c (show MY 9 (.T7 (ap v1) 1 6)=true from ?_) .n))))))))))))))))))))))))) (by subst v0 v1;first|rfl|(simp only[hw]<;>rfl)) (by subst v0 v1;first|rfl|(simp only[hw]<;>rfl))<;>subst v0 v1<;>(first|assumption|rfl|exact tf rfl hk|exact tg rfl hq|exact th rfl hq|exact aD _ _|exact ai|exact aB _ _|exact aj _ _|exact aw _ _|omega|(simp[UU];omega))
end Go.Vi
