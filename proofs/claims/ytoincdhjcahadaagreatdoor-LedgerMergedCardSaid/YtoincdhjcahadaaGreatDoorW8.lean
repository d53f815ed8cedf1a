/- LedgerMerged: part of the proof: contracts of the functions that the law reaches, and the law. No conditions beyond the given statement's own. -/
import Derived.Test.YtoincdhjcahadaaGreatDoorW7
import Derived.Test.YtoincdhjcahadaaGreatDoorCards
import Derived.Test.YtoincdhjcahadaaGreatDoorTie
import Derived.WalkKit
import Derived.ProofKit
import Derived.OpenShut
import Derived.Deep.DeepHandedRow
import Derived.Lib.LaidTab
import Derived.LaidHandle
import Derived.LaidLaws
import Derived.LaidSub
import Derived.FnData
open Decidable renaming decide → Qd
open Bool renaming false_and → Dz, and_false → CD, or_eq_true → B5, and_eq_true → Am, or_eq_false_iff → CJ
open Classical renaming not_not → Fy
open List renaming getD → Cj, mem_append → A3, length_map → CX, pairwise_cons → Bs, mem_cons → AW, length_cons → Bw, length_nil → B6, mem_of_getElem? → Ba, getElem?_eq_some_iff → An, pairwise_append → En, length_eq_zero_iff → Fo, map → Ad, length → Ag, Sublist → E6, filter_sublist → F1, mem_filter → CE, append_nil → Eh, sublist_append_left → Fl, forall_mem_cons → BE, drop_drop → D9, take_append_drop → D1, drop_eq_nil_of_le → Ea, replicate → Bn, mapM_cons → FD, map_cons → Cp
open Go.Vi.EntT renaming row → Ax
open Go.Proofs.Tryz renaming prog → Ae, f17 → BT, f20 → BD, f19 → E8, f6 → E7, underlying22 → EA
open Go.Vi.Ev renaming nilW → Fh, frame0 → DB, glob0 → AJ, castH → AB, sym0 → AF
open Go.Vi.CW renaming seq → FT, cast → AR, symX → AU, symPan → EU
open Go.Vi.D renaming tup → AK
open Go.Vi.VInvP renaming of_call → CB
open Go.Exit renaming normal → A2, exit → A1
open Go.Vi.MeT renaming row → Ar
open Go.Vi.GrT renaming row → Ap
open Go.Vi.BuT renaming row → Ai
open Go.IntKind renaming i64 → Ak, wrap → Av
open Go.Vi.Dp renaming sl → Az
open Go.Value renaming bool → AG
open Go.Proofs.YtoincdhjcahadaaGreatDoor.Rows renaming laid_errors_errorType → E9, laid_sizar_requests_kinds → Dd
open Option renaming bind_eq_bind → FL, bind_eq_some_iff → CT, map_eq_some_iff → Aq
open Option.some renaming injEq → Af, inj → C0
open Go.DataW renaming trod → DI
open Prod.mk renaming injEq → Aj
open Go.DataW.agg renaming injEq → FU
open Go Go.Proofs
namespace Go.Vi
set_option maxRecDepth 100000
set_option maxHeartbeats 4000000
def eX(a b:StT):Prop:=a.time<b.time∨(a.time=b.time∧(a.campus<b.campus∨(a.campus=b.campus∧a.no<b.no)))
theorem cmp8_cases(a b:Int):(a<b∧ez a b = -1)∨(a=b∧ez a b=0)∨(b<a∧ez a b=1):=by
 unfold ez
 rcases Int.lt_trichotomy a b with h|h|h
 ·left;rw[decide_eq_true h];exact⟨h,rfl⟩
 ·right;left;subst h;simp
 ·right;right
  have h1:Qd (a<b)=false:=by simp;omega
  have h2:Qd (a>b)=true:=by simp;omega
  rw[h1,h2];exact⟨h,rfl⟩
theorem stCmp8_cases(a b:StT):(eX a b∧fd a b = -1)∨(¬eX a b∧¬eX b a∧fd a b=0)∨(eX b a∧fd a b=1):=by
 unfold fd eX
 rcases cmp8_cases a.time b.time with ⟨h1,e1⟩|⟨h1,e1⟩|⟨h1,e1⟩<;>rw[e1]
 ·left;exact⟨.inl h1,rfl⟩
 ·rcases cmp8_cases a.campus b.campus with ⟨h2,e2⟩|⟨h2,e2⟩|⟨h2,e2⟩<;>rw[e2]
  ·left;exact⟨.inr ⟨h1,.inl h2⟩,rfl⟩
  ·rcases cmp8_cases a.no b.no with ⟨h3,e3⟩|⟨h3,e3⟩|⟨h3,e3⟩<;>rw[e3]
   ·left;exact⟨.inr ⟨h1,.inr ⟨h2,h3⟩⟩,rfl⟩
   ·right;left;exact⟨by omega,by omega,rfl⟩
   ·right;right;exact⟨by omega,rfl⟩
  ·right;right;exact⟨by omega,rfl⟩
 ·right;right;exact⟨.inl h1,rfl⟩
theorem i9(a b:StT):a6 a b=fd a b:=by
 unfold a6 i7 fd gr
 rcases cmp8_cases a.time b.time with ⟨h1,e1⟩|⟨h1,e1⟩|⟨h1,e1⟩<;>rw[e1]
 ·have:(a.time==b.time)=false:=by simp;omega
  rw[this];rfl
 ·rcases cmp8_cases a.campus b.campus with ⟨h2,e2⟩|⟨h2,e2⟩|⟨h2,e2⟩<;>rw[e2]
  ·have:(a.campus==b.campus)=false:=by simp;omega
   rw[this,Dz,CD];rfl
  ·rcases cmp8_cases a.no b.no with ⟨h3,e3⟩|⟨h3,e3⟩|⟨h3,e3⟩<;>rw[e3]
   ·have:(a.no==b.no)=false:=by simp;omega
    rw[this,Dz,CD,CD];rfl
   ·rw[h1,h2,h3];simp
   ·have:(a.no==b.no)=false:=by simp;omega
    rw[this,Dz,CD,CD];rfl
  ·have:(a.campus==b.campus)=false:=by simp;omega
   rw[this,Dz,CD];rfl
 ·have:(a.time==b.time)=false:=by simp;omega
  rw[this];rfl
theorem qZ(a b:StT):fd a b≥0 ↔ ¬eX a b:=by
 rcases stCmp8_cases a b with ⟨h,e⟩|⟨h,_,e⟩|⟨h,e⟩<;>rw[e]
 ·exact⟨fun h=>by omega,fun h2=>absurd h h2⟩
 ·exact⟨fun _=>h,fun _=>by omega⟩
 ·refine⟨fun _ h2=>?_,fun _=>by omega⟩
  unfold eX at h h2
  omega
abbrev z0:StT:=⟨0,0,0⟩
structure FitI (pre:List EntT) (s:List StT×Option StT):Prop where
 n:s.1.length=7
 c:∀c:Nat,c<7→(s.1.getD c z0=z0∧∀y∈pre,y.campus ≠ c)∨∃x∈pre,s.1.getD c z0=x.st∧x.campus=c∧∀y∈pre,y.campus=c→y.time≤x.time∧y.no≤x.no
 p:(s.2=none∧pre=[])∨∃x∈pre,s.2=some x.st∧∀y∈pre,¬eX x.st y.st
 v:∀y∈pre,1≤y.no
def pD(s:StT)(o:Option StT):Bool:=match o with
 | none=>false
 | some p=>Qd (a6 p s≥0)
theorem v4{pre:List EntT}{s:List StT×Option StT}(I:FitI pre s)(e:EntT)(h0:0≤e.campus)(h7:e.campus<7):
  (pD e.st s.2||fiB (s.1.getD e.st.campus.toNat z0) e.st)=pre.any (fun x=>kC x.st e.st):=by
 have hc:((e.st.campus.toNat:Nat):Int)=e.campus:=by show((e.campus.toNat:Nat):Int)=_;omega
 have hlt:e.st.campus.toNat<7:=by omega
 rw[Bool.eq_iff_iff,B5,List.any_eq_true]
 constructor
 ·rintro (h|h)
  ·rcases I.p with ⟨h1,_⟩|⟨x,hx,h1,_⟩
   ·rw[h1] at h;cases h
   ·rw[h1] at h
    refine⟨x,hx,?_⟩
    unfold kC
    have:Qd (fd x.st e.st≥0)=true:=by rw[←i9];exact h
    rw[this];rfl
  ·rcases I.c _ hlt with ⟨h1,_⟩|⟨x,hx,h1,h2,_⟩
   ·rw[h1] at h;cases h
   ·rw[h1] at h
    refine⟨x,hx,?_⟩
    unfold kC
    have hcc:(x.st.campus==e.st.campus)=true:=by
     show(x.campus==e.campus)=true
     rw[h2,hc];simp
    unfold fiB at h
    rw[Am] at h
    rw[hcc,h.2];simp
 ·rintro⟨y,hy,h⟩
  unfold kC at h
  rw[B5] at h
  rcases h with h|h
  ·left
   rcases I.p with ⟨_,h1⟩|⟨x,hx,h1,h2⟩
   ·rw[h1] at hy;cases hy
   ·rw[h1]
    show Qd (a6 x.st e.st≥0)=true
    rw[i9]
    have ha:=(qZ y.st e.st).1 (by simpa using h)
    have hb:=h2 y hy
    simp only[decide_eq_true_eq]
    rw[qZ]
    unfold eX at *
    omega
  ·right
   rw[Am] at h
   have hcc:y.campus=((e.st.campus.toNat:Nat):Int):=by rw[hc];exact eq_of_beq h.1
   rcases I.c _ hlt with ⟨_,h1⟩|⟨x,hx,h1,h2,h3⟩
   ·exact absurd hcc (h1 y hy)
   ·rw[h1]
    have ⟨ht,hn⟩:=h3 y hy hcc
    have hv:=I.v x hx
    have hor:=h.2
    rw[B5] at hor
    simp only[decide_eq_true_eq] at hor
    unfold fiB
    rw[Am,B5]
    simp only[decide_eq_true_eq]
    refine⟨?_,?_⟩
    ·show x.no>0
     omega
    ·rcases hor with ho|ho
     ·left
      show x.time≥e.st.time
      have:y.st.time=y.time:=rfl
      omega
     ·right
      show x.no≥e.st.no
      have:y.st.no=y.no:=rfl
      omega
theorem v5{pre:List EntT}{s:List StT×Option StT}(I:FitI pre s)(e:EntT)(h0:0≤e.campus)(h7:e.campus<7)(hn:1≤e.no)(hb:pre.any (fun x=>kC x.st e.st)=false):
  FitI (pre++[e]) (s.1.set e.st.campus.toNat e.st,some e.st):=by
 have hc:((e.st.campus.toNat:Nat):Int)=e.campus:=by show((e.campus.toNat:Nat):Int)=_;omega
 have hlt:e.st.campus.toNat<7:=by omega
 rw[List.any_eq_false] at hb
 have hall:∀y∈pre,eX y.st e.st∧(y.campus=e.campus→y.time<e.time∧y.no<e.no):=by
  intro y hy
  have:=hb y hy
  unfold kC at this
  simp only[B5,Am,decide_eq_true_eq,beq_iff_eq,not_or,not_and] at this
  have h1:=(not_congr (qZ y.st e.st)).1 this.1
  refine⟨Fy.1 h1,fun hcc=>?_⟩
  have h2:=this.2 hcc
  have e1:y.st.time=y.time:=rfl
  have e2:e.st.time=e.time:=rfl
  have e3:y.st.no=y.no:=rfl
  have e4:e.st.no=e.no:=rfl
  omega
 refine⟨by simp[I.n],?_,?_,?_⟩
 ·intro c hc7
  by_cases hce:c=e.st.campus.toNat
  ·subst hce
   right
   refine⟨e,by simp,?_,hc.symm,?_⟩
   ·rw[Cj,List.getElem?_set_self (by rw[I.n];exact hlt)];rfl
   ·intro y hy hyc
    rw[A3] at hy
    rcases hy with hy|hy
    ·have:=(hall y hy).2 (by rw[hyc,hc]);omega
    ·simp at hy;subst hy;exact⟨Int.le_refl _,Int.le_refl _⟩
  ·have hg:(s.1.set e.st.campus.toNat e.st).getD c z0=s.1.getD c z0:=by
    rw[Cj,Cj,List.getElem?_set_ne (fun h=>hce h.symm)]
   simp only[hg]
   have hne:e.campus ≠ (c:Int):=by omega
   rcases I.c c hc7 with ⟨h1,h2⟩|⟨x,hx,h1,h2,h3⟩
   ·left
    refine⟨h1,fun y hy=>?_⟩
    rw[A3] at hy
    rcases hy with hy|hy
    ·exact h2 y hy
    ·simp at hy;subst hy;exact hne
   ·right
    refine⟨x,by simp[hx],h1,h2,fun y hy hyc=>?_⟩
    rw[A3] at hy
    rcases hy with hy|hy
    ·exact h3 y hy hyc
    ·simp at hy;subst hy;exact absurd hyc hne
 ·right
  refine⟨e,by simp,rfl,fun y hy=>?_⟩
  rw[A3] at hy
  rcases hy with hy|hy
  ·have:=(hall y hy).1
   unfold eX at *
   omega
  ·simp at hy;subst hy;unfold eX;omega
 ·intro y hy
  rw[A3] at hy
  rcases hy with hy|hy
  ·exact I.v y hy
  ·simp at hy;subst hy;exact hn
theorem wU:∀(l pre:List EntT) (s:List StT×Option StT),FitI pre s→(∀e∈l,(0≤e.campus∧e.campus<7)∧1≤e.no)→(match forL (fun e:EntT=>fiF e.st) l s with | .inl _=>true | .inr _=>false) = !oI pre l
 | [],_,_,_,_=>rfl
 | e::l,pre,s,I,hv=>by
  have ⟨⟨h0,h7⟩,hn⟩:=hv e (by simp)
  have hc:=v4 I e h0 h7
  unfold forL
  have hF:fiF e.st s=match pD e.st s.2||fiB (s.1.getD e.st.campus.toNat z0) e.st with|true=>.inr s.1|false=>.inl (s.1.set e.st.campus.toNat e.st,some e.st):=by
   unfold fiF pD
   cases s.2<;>rfl
  simp only[hF,hc,oI]
  cases hb:pre.any (fun x=>kC x.st e.st) with
  | true=>rfl
  | false=>exact wU l (pre++[e]) _ (v5 I e h0 h7 hn hb) (fun x hx=>hv x (by simp[hx]))
theorem zp:∀c:Nat,c<7→z7.getD c z0=z0:=by
 intro c hc
 have:c=0∨c=1∨c=2∨c=3∨c=4∨c=5∨c=6:=by omega
 rcases this with h|h|h|h|h|h|h<;>subst h<;>rfl
theorem fit_eq{l:List EntT}(hv:∀e∈l,(0≤e.campus∧e.campus<7)∧1≤e.no):sh l = !oI [] l :=
 wU l [] (z7,none) ⟨rfl,fun c hc=>.inl ⟨zp c hc,fun y hy=>by cases hy⟩,.inl ⟨rfl,rfl⟩,fun y hy=>by cases hy⟩ hv
theorem wV{l:List EntT}(h:wS l=true):∀e∈l,e.ok:=by
 intro e he
 unfold wS at h
 rw[Am,List.all_eq_true] at h
 have:=h.1 e he
 simp only[wR,Am,decide_eq_true_eq,CX] at this
 exact⟨by unfold aq;omega,by unfold aq;omega,by unfold aq;omega,by unfold aq;omega⟩
def FtOk(a b:EntT):Prop:=eX a.st b.st∧(a.campus=b.campus→a.time<b.time∧a.no<b.no)
theorem oJ(a b:EntT):kC a.st b.st=false ↔ FtOk a b:=by
 have e1:a.st.time=a.time:=rfl
 have e2:b.st.time=b.time:=rfl
 have e3:a.st.no=a.no:=rfl
 have e4:b.st.no=b.no:=rfl
 have e5:a.st.campus=a.campus:=rfl
 have e6:b.st.campus=b.campus:=rfl
 unfold kC FtOk
 rw[CJ,e1,e2,e3,e4,e5,e6]
 have h1:Qd (fd a.st b.st≥0)=false ↔ eX a.st b.st:=by
  rw[decide_eq_false_iff_not,qZ,Fy]
 rw[h1]
 refine and_congr_right fun _=>?_
 by_cases hc:a.campus=b.campus
 ·simp[hc]
 ·simp[hc]
def Fits(l:List EntT):Prop:=l.Pairwise FtOk
theorem oK:∀(l pre:List EntT),oI pre l=false ↔ (∀x∈pre,∀e∈l,FtOk x e)∧Fits l
 | [],pre=>by simp[oI,Fits]
 | e::l,pre=>by
  unfold oI
  rw[CJ,oK l,List.any_eq_false]
  unfold Fits
  rw[Bs]
  constructor
  ·rintro⟨h1,h2,h3⟩
   refine⟨fun x hx y hy=>?_,fun y hy=>h2 e (by simp) y hy,h3⟩
   rcases AW.1 hy with rfl|hy
   ·exact(oJ x y).1 (by simpa using h1 x hx)
   ·exact h2 x (by simp[hx]) y hy
  ·rintro⟨h1,h2,h3⟩
   refine⟨fun x hx=>by simpa using(oJ x e).2 (h1 x hx e (by simp)),fun x hx y hy=>?_,h3⟩
   rcases A3.1 hx with hx|hx
   ·exact h1 x hx y (by simp[hy])
   ·simp at hx;subst hx;exact h2 y hy
structure Led (l:List EntT):Prop where
 len:l.length≤65536
 e:∀x∈l,bb x=0
 f:Fits l
theorem lI{e:EntT}(h:bb e=0):(1≤e.time∧e.time≤1048576)∧(0≤e.campus∧e.campus<7)∧(1≤e.no∧e.no≤1048576):=qT (oD h)
theorem ja{l:List EntT}(h:∀e∈l,bb e=0):sh l=true ↔ Fits l:=by
 rw[fit_eq fun e he=>⟨(lI (h e he)).2.1,(lI (h e he)).2.2.1⟩]
 have:=oK l []
 cases hu:oI [] l with
 | true =>
  rw[hu] at this
  refine⟨fun h=>(by cases h),fun h=>?_⟩
  have:=this.2 ⟨by simp,h⟩
  cases this
 | false=>rw[hu] at this;exact⟨fun _=>(this.1 rfl).2,fun _=>rfl⟩
theorem wW:∀{l:List EntT},(∀e∈l,bb e=0)→forL lcF l ()=.inl ()
 | [],_=>rfl
 | e::l,h=>by
  have h1:lcF e ()=.inl ():=by unfold lcF;rw[h e (by simp)];rfl
  unfold forL
  rw[h1]
  exact wW fun x hx=>h x (by simp[hx])
theorem eH{l:List EntT}:a8 l=0 ↔ Led l:=by
 unfold a8
 constructor
 ·intro h
  cases hb:Qd (((l.map Ax).length:Int)>65536) with
  | true=>rw[hb] at h;cases h
  | false =>
   rw[hb] at h
   simp only at h
   cases hf:forL lcF l () with
   | inr r =>
    rw[hf] at h
    simp only at h
    exfalso
    have:∀(l:List EntT),forL lcF l ()=.inr r→r ≠ 0:=by
     intro l
     induction l with
     | nil=>intro h;cases h
     | cons x l ih =>
      intro h2
      unfold forL at h2
      cases hb2:bb x != 0 with
      | true =>
       simp only[lcF,hb2] at h2
       cases h2
       simpa using hb2
      | false=>simp only[lcF,hb2] at h2;exact ih h2
    exact this l hf h
   | inl u =>
    rw[hf] at h
    simp only at h
    have he:=pA ⟨u,hf⟩
    refine⟨by simp at hb;omega,he,(ja he).1 ?_⟩
    cases hfb:sh l with
    | true=>rfl
    | false=>rw[hfb] at h;cases h
 ·intro h
  have hb:Qd (((l.map Ax).length:Int)>65536)=false:=by have:=h.len;simp;omega
  rw[hb,wW h.e,(ja h.e).2 h.f]
  rfl
theorem lJ{a b:StT}(h:eX a b):¬eX b a:=by unfold eX at *;omega
theorem v7{a b:StT}(h:eX a b):Qd (a6 a b<0)=true:=by
 rw[i9]
 rcases stCmp8_cases a b with ⟨_,e⟩|⟨h1,_⟩|⟨h1,_⟩
 ·rw[e];rfl
 ·exact absurd h h1
 ·exact absurd h1 (lJ h)
theorem stEq_iff{a b:StT}:i7 a b=true ↔ a=b:=by
 cases a;cases b
 simp[i7]
def pE(l:List EntT)(n:EntT):List EntT×Int×Int:=match a8 l != 0 with
 | true=>([],0,a8 l)
 | false=>match bb n != 0 with
  | true=>([],0,bb n)
  | false=>match joR l [n] with
   | none=>([],0,390)
   | some y=>(y,idxR n y,0)
theorem mV{e:Int}(h:(e != 0)=true):(e==0)=false:=by simpa using h
theorem q8{L:List (List Dp)}{n:EntT}{e:Exit}{s':AS}{d:D}(hrest:CW Ae Γq (puH n 0) false (cR (cR (al BT))) {t:=puT L,h:=puH n 0,m:=[]} e s')(hend:dc Ae BT (cE Ae Γq noW 100) 0 e s' (some (30,[.ref (.ptr 1 0)]))=some (.ret d [])):Ev Ae Γq 17 [aa L,ag n.row] [] d [] :=
 (VRes.of_top (f:=17) (args:=[aa L,ag n.row]) (dfn:=cE Ae Γq noW 100) (h:=[]) (r:=.ret d []) (fn:=BT) (c:=al BT) pok rfl rfl wO (zb hrest) hend).call
theorem put_ok{l y:List EntT}{n:EntT}(hck:∀h,Ev Ae Γq 12 [aa (l.map Ax)] h (int 0) h)(hen:∀h,Ev Ae Γq 25 [ag n.row] h (int 0) h)(J:JoOk l [n])(hy:joR l [n]=some y)(hly:aq y):Ev Ae Γq 17 [aa (l.map Ax),ag n.row] [] (.tup [aa (y.map Ax),int (idxR n y),int 0]) []:=by
 have hjo:Ev Ae Γ0 33 [aa (l.map Ax),.ref (.vec 0 0)] [.vec [n.row.map .p] 0 31] (aa (y.map Ax)) [.gone] :=
  Ev.pre [.st (.frz 0 [n.row])] (h1:=[.gone]) (args2:=[aa (l.map Ax),aa ([n].map Ax)]) rfl ⟨rfl,trivial⟩ (wQ J hy [.gone])
 exact q8 (pu_ok hck hen hjo (idx_ev hly)) zc
theorem zq{l:List EntT}{n:EntT}(hl:a8 l=0)(hn:bb n=0)(hs:l.length≤50000)(ol:∀e∈l,e.ok)(on:n.ok):JoOk l [n] :=
 ⟨by simp only[Bw,B6];omega,ol,by simpa using on,fun e he=>(lI ((eH.1 hl).e e he)).2.1,by simpa using(lI hn).2.1⟩
theorem mW{a b y:List EntT}(h:joR a b=some y):y.length≤a.length+b.length:=by
 unfold joR at h
 cases hg:joG (a.length+b.length) a b [] with
 | none=>rw[hg] at h;cases h
 | some z =>
  rw[hg] at h
  simp only at h
  cases hf:sh z with
  | false=>rw[hf] at h;cases h
  | true =>
   rw[hf] at h
   cases h
   have:=(fE _ _ _ _ _ hg).2
   simp only[B6] at this
   omega
theorem zr{l:List EntT}{n:EntT}(hs:l.length≤50000)(ol:∀e∈l,e.ok)(on:n.ok)(h:List Blk):Ev Ae Γq 17 [aa (l.map Ax),ag n.row] h (.tup [aa ((pE l n).1.map Ax),int (pE l n).2.1,int (pE l n).2.2]) h:=by
 have hck:=fun h=>lD (l:=l) (show l.length≤_ by omega) ol h
 have hen:=fun h=>oC on h
 unfold pE
 cases h1:a8 l != 0 with
 | true =>
  have e1:=Fh (q8 (p2_pan (n:=n) (mV h1) hck) zi)
  exact DB rfl e1 h
 | false =>
  have h10:a8 l=0:=by simpa using h1
  rw[h10] at hck
  cases h2:bb n != 0 with
  | true =>
   have hr:CW Ae Γq (puH n 0) false (cR (cR (al BT))) {t:=puT (l.map Ax),h:=puH n 0,m:=[]} (.panic (dmC (bb n))) {t:=p3T (l.map Ax) n (bb n),h:=puH n 0,m:=[]}:=by
    show CW _ _ _ _ p2C _ _ _
    rw[pC]
    exact FT (p2_ok hck) (p3_pan (mV h2) hen)
   have e1:=Fh (q8 hr zj)
   exact DB rfl e1 h
  | false =>
   have h20:bb n=0:=by simpa using h2
   rw[h20] at hen
   have J:=zq h10 h20 hs ol on
   simp only
   cases h3:joR l [n] with
   | none =>
    have hr:CW Ae Γq (puH n 0) false (cR (cR (al BT))) {t:=puT (l.map Ax),h:=puH n 0,m:=[]} (.panic (dmC 390)) {t:=p4T (l.map Ax) n,h:=p4H n,m:=[]}:=by
     show CW _ _ _ _ p2C _ _ _
     rw[pC]
     refine FT (p2_ok hck) ?_
     rw[uv]
     exact FT (p3_ok hen) (p4_pan (uu J h3))
    have e1:=Fh (q8 hr zk)
    exact DB rfl e1 h
   | some y =>
    have:=mW h3
    simp only[Bw,B6] at this
    exact DB rfl (put_ok hck hen J h3 (show y.length≤_ by omega)) h
abbrev meH:List Blk:=[.var [int 0]]
abbrev meT(L M:List (List Dp)):List D:=mkT 16 0 [(0,aa L),(1,aa M),(4,nq),(5,.ref (.ptr 0 0))]
theorem me_ok{L M y:List (List Dp)}(hck:∀h,Ev Ae Γq 12 [aa L] h (int 0) h)(hcm:∀h,Ev Ae Γq 12 [aa M] h (int 0) h)(hjo:∀h,Ev Ae Γ0 33 [aa L,aa M] h (aa y) h):(CW Ae Γq meH false (cR (cR (al BD))) {t:=meT L M,h:=meH,m:=[]} .ret {t:=mkT 16 0 [(4,aa y),(5,.ref (.ptr 0 0))],h:=meH,m:=[]}):=by
 exact AR (AU (s':={t:=mkT 16 0 [(4,aa y),(5,.ref (.ptr 0 0))],h:=[.var [int 0]],m:=[]}) (e:=Exit.ret) pok [.st (.mask [4,5])] [.val (int 0),.val (AK []),.val (int 0),.val (AK []),.val (aa y)] (by kernel_rfl) (.c (@hck ([.var [int 0]])) (.c (AJ (Γ':=Γq) (@eD ([.var [int 0]]))) (.c (@hcm ([.var [int 0]])) (.c (AJ (Γ':=Γq) (@eD ([.var [int 0]]))) (.c (AJ (Γ':=Γq) (@hjo ([.var [int 0]]))) .n)))))) (by rfl) (by rfl)
theorem v8:al BD=.seq (.region (oG (cL (al BD))) (bk (cL (al BD))) false) (.seq (.region (oG (cL (cR (al BD)))) (bk (cL (cR (al BD)))) false) (cR (cR (al BD)))):=by kernel_rfl
abbrev m1T(L M:List (List Dp)):List D:=mkT 16 0 [(0,aa L),(1,aa M),(4,nq),(5,.ref (.ptr 0 0)),(6,.fn (.func 38) [] [.ref (.ptr 0 0)])]
theorem uz{L M:List (List Dp)}{e:Exit}{s':AS}(hrest:CW Ae Γq meH false (cR (cR (al BD))) {t:=meT L M,h:=meH,m:=[]} e s'):
  TopW Ae Γq (al BD) {t:=bJ BD [aa L,aa M],h:=[],m:=[]} e s' (some (38,[.ref (.ptr 0 0)])):=by
 rw[v8]
 refine TopW.seq (s1:={t:=meT L M,h:=meH,m:=[]}) (fun X=>VW.regionX (t':=meT L M) (h':=meH) (e:=.normal) gw (by kernel_rfl) ⟨rfl,rfl⟩) ?_
 exact TopW.deferH (os:=(bk (cL (cR (al BD)))).toList.dropLast) (o:=ur (bk (cL (cR (al BD)))).toList) (fv:=.tmp 6) (args:=#[]) (ats:=#[]) (t1:=m1T L M) (h1:=meH) (f:=38) (fi:=[]) (ca:=[.ref (.ptr 0 0)]) pok gw (by kernel_rfl) (by kernel_rfl) (by kernel_rfl) (by kernel_rfl) rfl (by kernel_rfl) (by kernel_rfl) (CW.pre [0,1,4,5] hrest)
noncomputable abbrev m2C:Code:=cR (cR (al BD))
noncomputable abbrev m2O:Array Oper:=bk (cL m2C)
noncomputable abbrev m3C:Code:=cR m2C
noncomputable abbrev m3O:Array Oper:=bk (cL m3C)
noncomputable abbrev m4C:Code:=cR m3C
noncomputable abbrev m4O:Array Oper:=bk (cL m4C)
theorem pF:m2C=.seq (.region (oG (cL m2C)) m2O false) m3C:=by kernel_rfl
theorem uA:m3C=.seq (.region (oG (cL m3C)) m3O false) m4C:=by kernel_rfl
theorem zt:m4C=.seq (.region (oG (cL m4C)) m4O false) (cR m4C):=by kernel_rfl
abbrev m2T(L M:List (List Dp))(e:Int):List D:=mkT 16 0 [(0,aa L),(1,aa M),(4,nq),(5,.ref (.ptr 0 0)),(7,aa L),(8,int e)]
abbrev m3T(L M:List (List Dp))(e:Int):List D:=mkT 16 0 [(0,aa L),(1,aa M),(4,nq),(5,.ref (.ptr 0 0)),(10,aa M),(11,int e)]
abbrev m4T(L M:List (List Dp)):List D:=mkT 16 0 [(0,aa L),(1,aa M),(4,nq),(5,.ref (.ptr 0 0)),(13,aa L),(14,aa M)]
theorem m2_pan{L M:List (List Dp)}{e:Int}(he:(e==0)=false)(hck:∀h,Ev Ae Γq 12 [aa L] h (int e) h):CW Ae Γq meH false m2C {t:=meT L M,h:=meH,m:=[]} (.panic (dmC e)) {t:=m2T L M e,h:=meH,m:=[]}:=by
 rw[pF]
 refine CW.out (by simp) (EU (os1:=m2O.toList.take 2) (rest:=[]) (o:=opN m2O 2) (fv:=lH (opN m2O 2)) (args:=bW (opN m2O 2)) (ats:=kB (opN m2O 2)) (h1:=meH) (φ:=[Ev Ae Γq 12 [aa L] meH (int e) meH]) pok (I:=noI) (fun _ _ _ _ _ _ _ _ h=>by simp[noI] at h) [.val (int e)] (by kernel_rfl) rfl (by kernel_rfl) ⟨hck _,trivial⟩ (by kernel_rfl) (by kernel_rfl) ?_ rfl)
 have e1:evalD Γq (m2T L M e) (lH (opN m2O 2))=.p (.v (.func (.func 32) #[] #[])):=by kernel_rfl
 have e2:(bW (opN m2O 2)).toList.map (evalD Γq (m2T L M e))=[int e]:=by kernel_rfl
 rw[e1,e2]
 exact CB pok (f:=32) (fi:=[]) (ca:=[]) rfl (by kernel_rfl) (mS e he _).glob0
theorem m3_pan{L M:List (List Dp)}{e:Int}(he:(e==0)=false)(hck:∀h,Ev Ae Γq 12 [aa M] h (int e) h):CW Ae Γq meH false m3C {t:=meT L M,h:=meH,m:=[]} (.panic (dmC e)) {t:=m3T L M e,h:=meH,m:=[]}:=by
 rw[uA]
 refine CW.out (by simp) (EU (os1:=m3O.toList.take 2) (rest:=[]) (o:=opN m3O 2) (fv:=lH (opN m3O 2)) (args:=bW (opN m3O 2)) (ats:=kB (opN m3O 2)) (h1:=meH) (φ:=[Ev Ae Γq 12 [aa M] meH (int e) meH]) pok (I:=noI) (fun _ _ _ _ _ _ _ _ h=>by simp[noI] at h) [.val (int e)] (by kernel_rfl) rfl (by kernel_rfl) ⟨hck _,trivial⟩ (by kernel_rfl) (by kernel_rfl) ?_ rfl)
 have e1:evalD Γq (m3T L M e) (lH (opN m3O 2))=.p (.v (.func (.func 32) #[] #[])):=by kernel_rfl
 have e2:(bW (opN m3O 2)).toList.map (evalD Γq (m3T L M e))=[int e]:=by kernel_rfl
 rw[e1,e2]
 exact CB pok (f:=32) (fi:=[]) (ca:=[]) rfl (by kernel_rfl) (mS e he _).glob0
theorem m2_ok{L M:List (List Dp)}(hck:∀h,Ev Ae Γq 12 [aa L] h (int 0) h):(CW Ae Γq meH false (cL (cR (cR (al BD)))) {t:=meT L M,h:=meH,m:=[]} .normal {t:=meT L M,h:=meH,m:=[]}):=by
 exact AR (AU (s':={t:=mkT 16 0 [(0,aa L),(1,aa M),(4,nq),(5,.ref (.ptr 0 0))],h:=[.var [int 0]],m:=[]}) (e:=A2) pok [.st (.mask [0,1,4,5])] [.val (int 0),.val (AK [])] (by kernel_rfl) (.c (@hck ([.var [int 0]])) (.c (AJ (Γ':=Γq) (@eD ([.var [int 0]]))) .n))) (by rfl) (by rfl)
theorem m3_ok{L M:List (List Dp)}(hck:∀h,Ev Ae Γq 12 [aa M] h (int 0) h):(CW Ae Γq meH false (cL (cR (cR (cR (al BD))))) {t:=meT L M,h:=meH,m:=[]} .normal {t:=meT L M,h:=meH,m:=[]}):=by
 exact AR (AU (s':={t:=mkT 16 0 [(0,aa L),(1,aa M),(4,nq),(5,.ref (.ptr 0 0))],h:=[.var [int 0]],m:=[]}) (e:=A2) pok [.st (.mask [0,1,4,5])] [.val (int 0),.val (AK [])] (by kernel_rfl) (.c (@hck ([.var [int 0]])) (.c (AJ (Γ':=Γq) (@eD ([.var [int 0]]))) .n))) (by rfl) (by rfl)
theorem m4_pan{L M:List (List Dp)}(hjo:VPan Ae Γ0 33 [aa L,aa M] [] fun c h'=>c=dmC 390∧h'=[]):CW Ae Γq meH false m4C {t:=meT L M,h:=meH,m:=[]} (.panic (dmC 390)) {t:=m4T L M,h:=meH,m:=[]}:=by
 rw[zt]
 refine CW.out (by simp) (EU (os1:=m4O.toList.take 2) (rest:=m4O.toList.drop 3) (o:=opN m4O 2) (fv:=lH (opN m4O 2)) (args:=bW (opN m4O 2)) (ats:=kB (opN m4O 2)) (h1:=meH) (φ:=[]) pok (I:=noI) (fun _ _ _ _ _ _ _ _ h=>by simp[noI] at h) [] (by kernel_rfl) rfl (by kernel_rfl) trivial (by kernel_rfl) (by kernel_rfl) ?_ rfl)
 have e1:evalD Γq (m4T L M) (lH (opN m4O 2))=.p (.v (.func (.func 33) #[] #[])):=by kernel_rfl
 have e2:(bW (opN m4O 2)).toList.map (evalD Γq (m4T L M))=[aa L,aa M]:=by kernel_rfl
 rw[e1,e2]
 refine CB pok (f:=33) (fi:=[]) (ca:=[]) rfl (by kernel_rfl) ?_
 exact VPan.frzArgs (args:=[aa L,aa M]) (h:=meH) (by rfl) hjo.glob0
theorem me_end{y:List (List Dp)}:dc Ae BD (cE Ae Γq noW 100) 0 .ret {t:=mkT 16 0 [(4,aa y),(5,.ref (.ptr 0 0))],h:=meH,m:=[]} (some (38,[.ref (.ptr 0 0)]))=some (.ret (.tup [aa y,int 0]) []):=by kernel_rfl
theorem zu{L M:List (List Dp)}{e:Int}:dc Ae BD (cE Ae Γq noW 100) 0 (.panic (dmC e)) {t:=m2T L M e,h:=meH,m:=[]} (some (38,[.ref (.ptr 0 0)]))=some (.ret (.tup [nq,int e]) []):=by kernel_rfl
theorem zw{L M:List (List Dp)}{e:Int}:dc Ae BD (cE Ae Γq noW 100) 0 (.panic (dmC e)) {t:=m3T L M e,h:=meH,m:=[]} (some (38,[.ref (.ptr 0 0)]))=some (.ret (.tup [nq,int e]) []):=by kernel_rfl
theorem zx{L M:List (List Dp)}:dc Ae BD (cE Ae Γq noW 100) 0 (.panic (dmC 390)) {t:=m4T L M,h:=meH,m:=[]} (some (38,[.ref (.ptr 0 0)]))=some (.ret (.tup [nq,int 390]) []):=by kernel_rfl
theorem v9{L M:List (List Dp)}{e:Exit}{s':AS}{d:D}(hrest:CW Ae Γq meH false (cR (cR (al BD))) {t:=meT L M,h:=meH,m:=[]} e s')(hend:dc Ae BD (cE Ae Γq noW 100) 0 e s' (some (38,[.ref (.ptr 0 0)]))=some (.ret d [])):Ev Ae Γq 20 [aa L,aa M] [] d [] :=
 (VRes.of_top (f:=20) (args:=[aa L,aa M]) (dfn:=cE Ae Γq noW 100) (h:=[]) (r:=.ret d []) (fn:=BD) (c:=al BD) pok rfl rfl wO (uz hrest) hend).call
def meR(a b:List EntT):List EntT×Int:=match a8 a != 0 with
 | true=>([],a8 a)
 | false=>match a8 b != 0 with
  | true=>([],a8 b)
  | false=>match joR a b with
   | none=>([],390)
   | some y=>(y,0)
theorem wa{a b:List EntT}(ha:a8 a=0)(hb:a8 b=0)(hs:a.length+b.length≤60000)(oa:∀e∈a,e.ok)(ob:∀e∈b,e.ok):JoOk a b :=
 ⟨hs,oa,ob,fun e he=>(lI ((eH.1 ha).e e he)).2.1,fun e he=>(lI ((eH.1 hb).e e he)).2.1⟩
theorem mX{a b:List EntT}(hs:a.length+b.length≤60000)(oa:∀e∈a,e.ok)(ob:∀e∈b,e.ok)(h:List Blk):Ev Ae Γq 20 [aa (a.map Ax),aa (b.map Ax)] h (.tup [aa ((meR a b).1.map Ax),int (meR a b).2]) h:=by
 have hca:=fun h=>lD (l:=a) (show a.length≤_ by omega) oa h
 have hcb:=fun h=>lD (l:=b) (show b.length≤_ by omega) ob h
 unfold meR
 cases h1:a8 a != 0 with
 | true =>
  have e1:=Fh (v9 (m2_pan (M:=b.map Ax) (mV h1) hca) zu)
  exact DB rfl e1 h
 | false =>
  have h10:a8 a=0:=by simpa using h1
  rw[h10] at hca
  cases h2:a8 b != 0 with
  | true =>
   have hr:CW Ae Γq meH false (cR (cR (al BD))) {t:=meT (a.map Ax) (b.map Ax),h:=meH,m:=[]} (.panic (dmC (a8 b))) {t:=m3T (a.map Ax) (b.map Ax) (a8 b),h:=meH,m:=[]}:=by
    show CW _ _ _ _ m2C _ _ _
    rw[pF]
    exact FT (m2_ok hca) (m3_pan (mV h2) hcb)
   have e1:=Fh (v9 hr zw)
   exact DB rfl e1 h
  | false =>
   have h20:a8 b=0:=by simpa using h2
   rw[h20] at hcb
   have J:=wa h10 h20 hs oa ob
   simp only
   cases h3:joR a b with
   | none =>
    have hr:CW Ae Γq meH false (cR (cR (al BD))) {t:=meT (a.map Ax) (b.map Ax),h:=meH,m:=[]} (.panic (dmC 390)) {t:=m4T (a.map Ax) (b.map Ax),h:=meH,m:=[]}:=by
     show CW _ _ _ _ m2C _ _ _
     rw[pF]
     refine FT (m2_ok hca) ?_
     rw[uA]
     exact FT (m3_ok hcb) (m4_pan (uu J h3))
    have e1:=Fh (v9 hr zx)
    exact DB rfl e1 h
   | some y=>exact DB rfl (v9 (me_ok hca hcb (fun h=>wQ J h3 h)) me_end) h
theorem zipEq{α:Type}{ne:α→α→Bool}(hne:∀a b,ne a b=false ↔ a=b){F:α×α→Unit→Unit⊕Unit}(hF:∀p u,F p u=bif ne p.1 p.2 then .inr () else .inl ()):∀(xs ys:List α),xs.length=ys.length→((match forL F (xs.zip ys) () with | .inl _=>true | .inr _=>false)=true ↔ xs=ys)
 | [],[],_=>by simp[forL]
 | [],_::_,h=>by simp at h
 | _::_,[],h=>by simp at h
 | x::xs,y::ys,h=>by
  have ih:=zipEq hne hF xs ys (by simpa using h)
  simp only[List.zip_cons_cons,forL,hF]
  cases hn:ne x y with
  | true =>
   simp only[cond_true]
   have:x ≠ y:=fun e=>by rw[(hne x y).2 e] at hn;cases hn
   simp[this]
  | false =>
   simp only[cond_false]
   rw[ih,(hne x y).1 hn]
   simp
theorem q9{α:Type}{row:α→List Dp}{ne:α→α→Bool}(hne:∀a b,ne a b=false ↔ a=b){F:α×α→Unit→Unit⊕Unit}(hF:∀p u,F p u=bif ne p.1 p.2 then .inr () else .inl ())(xs ys:List α):
  (if (((xs.map row).length:Int) != ((ys.map row).length:Int))=true then false else match forL F (xs.zip ys) () with | .inl _=>true | .inr _=>false)=true ↔ xs=ys:=by
 by_cases hl:xs.length=ys.length
 ·rw[if_neg (by simp[hl])]
  exact zipEq hne hF xs ys hl
 ·rw[if_pos (by simp;omega)]
  simp only[Bool.false_eq_true,false_iff]
  exact fun e=>hl (by rw[e])
theorem wb(a b:MeT):meNe a b=false ↔ a=b:=by cases a;cases b;simp[meNe]
theorem wc(a b:GrT):grNe a b=false ↔ a=b:=by cases a;cases b;simp[grNe]
theorem we(a b:BuT):buNe a b=false ↔ a=b:=by cases a;cases b;simp[buNe]
theorem wg(a b:Int):ss a b=false ↔ a=b:=by simp[ss]
theorem qm_iff(xs ys:List MeT):qmB xs ys=true ↔ xs=ys:=q9 (row:=Ar) wb (F:=qmF) (fun _ _=>rfl) xs ys
theorem qg_iff(xs ys:List GrT):qgB xs ys=true ↔ xs=ys:=q9 (row:=Ap) wc (F:=qgF) (fun _ _=>rfl) xs ys
theorem qi_iff(xs ys:List Int):qiB xs ys=true ↔ xs=ys:=q9 (row:=ab) wg (F:=qiF) (fun _ _=>rfl) xs ys
theorem qb_iff(xs ys:List BuT):qbB xs ys=true ↔ xs=ys:=q9 (row:=Ai) we (F:=qbF) (fun _ _=>rfl) xs ys
theorem zy(a b:ByteArray):eqS a b=true ↔ a=b:=by
 unfold eqS
 rw[beq_iff_eq,Array.toList_inj]
 cases a;cases b;simp
theorem uB(a b:SecT):secEq a b=true ↔ a=b:=by
 unfold secEq
 simp only[Am,qm_iff,qg_iff,qi_iff,beq_iff_eq]
 cases a;cases b
 simp only[SecT.mk.injEq]
 constructor
 ·rintro⟨⟨⟨⟨⟨⟨⟨⟨h1,h2⟩,h3⟩,h4⟩,h5⟩,h6⟩,h7⟩,h8⟩,h9⟩
  exact⟨h1,h2,h3,h4,h5,h7,h8,h9,h6⟩
 ·rintro⟨h1,h2,h3,h4,h5,h7,h8,h9,h6⟩
  exact⟨⟨⟨⟨⟨⟨⟨⟨h1,h2⟩,h3⟩,h4⟩,h5⟩,h6⟩,h7⟩,h8⟩,h9⟩
theorem wh(a b:RqT):rqEq a b=true ↔ a=b:=by
 unfold rqEq
 simp only[Am,qb_iff,beq_iff_eq]
 cases a;cases b
 simp only[RqT.mk.injEq]
 constructor
 ·rintro⟨⟨⟨⟨⟨⟨⟨h1,h2⟩,h3⟩,h4⟩,h5⟩,h6⟩,h7,h8,_⟩,h9⟩
  exact⟨h1,h2,h3,h4,h5,h6,h7,h8,h9⟩
 ·rintro⟨h1,h2,h3,h4,h5,h6,h7,h8,h9⟩
  exact⟨⟨⟨⟨⟨⟨⟨h1,h2⟩,h3⟩,h4⟩,h5⟩,h6⟩,h7,h8,trivial⟩,h9⟩
theorem kc(a b:EntT):de a b=true ↔ a=b:=by
 unfold de rW
 simp only[Am,zy,uB,wh,beq_iff_eq]
 cases a;cases b
 simp only[EntT.mk.injEq]
 constructor
 ·rintro⟨⟨⟨⟨⟨⟨⟨⟨⟨⟨⟨h1,h2,h3,_⟩,h4⟩,h5⟩,h6⟩,h7⟩,h8⟩,h9,h10,_⟩,h11⟩,h12⟩,h13⟩,h14,h15,_⟩
  exact⟨h1,h2,h3,h4,h5,h6,h7,h8,h9,h10,h11,h12,h13,h14,h15⟩
 ·rintro⟨h1,h2,h3,h4,h5,h6,h7,h8,h9,h10,h11,h12,h13,h14,h15⟩
  exact⟨⟨⟨⟨⟨⟨⟨⟨⟨⟨⟨h1,h2,h3,trivial⟩,h4⟩,h5⟩,h6⟩,h7⟩,h8⟩,h9,h10,trivial⟩,h11⟩,h12⟩,h13⟩,h14,h15,trivial⟩
theorem mY{a b c:StT}(h:eX a b)(g:eX b c):eX a c:=by unfold eX at *;omega
theorem wi{a b:StT}(h:¬eX b a)(g:a ≠ b):eX a b:=by
 have:¬(a.time=b.time∧a.campus=b.campus∧a.no=b.no):=fun⟨h1,h2,h3⟩=>g (by cases a;cases b;simp_all)
 unfold eX at *;omega
theorem uC{a b:StT}(h:eX a b):a ≠ b:=fun e=>by subst e;exact absurd h (lJ h)
theorem lK(a b:StT):Qd (a6 a b<0)=true ↔ eX a b:=by
 constructor
 ·intro h
  rw[i9] at h
  rcases stCmp8_cases a b with ⟨h1,_⟩|⟨_,_,e⟩|⟨_,e⟩
  ·exact h1
  ·rw[e] at h;cases h
  ·rw[e] at h;cases h
 ·exact v7
def bF(l:List EntT):Prop:=l.Pairwise fun a b=>eX a.st b.st
theorem Fits.sorted{l:List EntT}(h:Fits l):bF l:=h.imp fun h=>h.1
def Compat(a b:List EntT):Prop:=∀e∈a,∀f∈b,e.st=f.st→e=f
theorem Compat.symm{a b:List EntT}(h:Compat a b):Compat b a:=fun e he f hf hs=>(h f hf e he hs.symm).symm
def JSpec(x r o:List EntT):Option (List EntT)→Prop
 | some y=>bF y∧∀e,e∈y ↔ e∈x∨e∈r∨e∈o
 | none=>¬(Compat r o∧Compat x r∧Compat x o)
theorem JSpec.swap{x r o:List EntT}{res:Option (List EntT)}(h:JSpec x r o res):JSpec x o r res:=by
 cases res with
 | none=>exact fun⟨h1,h2,h3⟩=>h ⟨h1.symm,h3,h2⟩
 | some y=>exact⟨h.1,fun e=>by rw[h.2 e];constructor<;>(rintro (h|h|h)<;>simp[h])⟩
def Le(x g:List EntT):Prop:=∀e∈x,∀f∈g,¬eX f.st e.st
theorem mZ{x r o:List EntT}{f:EntT}{cont:List EntT→Option (List EntT)}(Sr:bF (f::r))(Sx:bF x)(hr:Le x (f::r))(ho:Le x o)(hfo:∀g∈o,¬eX g.st f.st)
  (ih:∀x',bF x'→Le x' r→Le x' o→JSpec x' r o (cont x')):JSpec x (f::r) o ((joF x f).bind cont):=by
 have hfr:=Bs.1 Sr
 have app:(∀l,x.getLast? = some l→l.st ≠ f.st)→JSpec x (f::r) o (cont (x++[f])):=by
  intro hl
  have hall:∀e∈x,eX e.st f.st:=by
   intro e he
   cases hx:x.getLast? with
   | none=>simp at hx;subst hx;cases he
   | some l =>
    obtain⟨hne,hg⟩:=qX hx
    have hlm:=Ba hg
    have h1:eX l.st f.st:=wi (hr l hlm f (by simp)) (hl l hx)
    obtain⟨i,hi⟩:=List.mem_iff_getElem?.1 he
    have hil:=(An.1 hi).1
    by_cases h2:i=x.length - 1
    ·rw[h2,hg] at hi
     cases hi
     exact h1
    ·have h3:=List.pairwise_iff_getElem.1 Sx i (x.length - 1) hil (by omega) (by omega)
     have e1:x[i]=e:=(An.1 hi).2
     have e2:x[x.length - 1]'(by omega)=l:=(An.1 hg).2
     rw[e1,e2] at h3
     exact mY h3 h1
  have hS:bF (x++[f]):=En.2 ⟨Sx,by simp,fun e he g hg=>by simp at hg;subst hg;exact hall e he⟩
  have h1:=ih (x++[f]) hS (fun e he g hg=>by
   rcases A3.1 he with he|he
   ·exact hr e he g (by simp[hg])
   ·simp at he;subst he;exact lJ (hfr.1 g hg)) (fun e he g hg=>by
   rcases A3.1 he with he|he
   ·exact ho e he g hg
   ·simp at he;subst he;exact hfo g hg)
  cases hc:cont (x++[f]) with
  | some y =>
   rw[hc] at h1
   refine⟨h1.1,fun e=>?_⟩
   rw[h1.2 e]
   simp only[A3,AW,List.not_mem_nil,or_false]
   constructor
   ·rintro ((h|h)|h|h)<;>simp[h]
   ·rintro (h|(h|h)|h)<;>simp[h]
  | none =>
   rw[hc] at h1
   rintro⟨c1,c2,c3⟩
   refine h1 ⟨fun e he g hg hs=>c1 e (by simp[he]) g hg hs,fun e he g hg hs=>?_,fun e he g hg hs=>?_⟩
   ·rcases A3.1 he with he|he
    ·exact c2 e he g (by simp[hg]) hs
    ·simp at he;subst he;exact absurd hs (uC (hfr.1 g hg))
   ·rcases A3.1 he with he|he
    ·exact c3 e he g hg hs
    ·simp at he;subst he;exact c1 e (by simp) g hg hs
 unfold joF
 cases hx:x.getLast? with
 | none=>exact app (fun l hl=>by rw[hx] at hl;cases hl)
 | some l =>
  have hlm:l∈x:=Ba (qX hx).2
  simp only
  cases hs:i7 l.st f.st with
  | false=>exact app (fun l' hl'=>by rw[hx] at hl';cases hl';intro e;rw[stEq_iff.2 e] at hs;cases hs)
  | true =>
   have hst:=stEq_iff.1 hs
   simp only
   cases hb:de l f with
   | false =>
    rintro⟨_,c2,_⟩
    have:=c2 l hlm f (by simp) hst
    rw[(kc l f).2 this] at hb
    cases hb
   | true =>
    have hlf:=(kc l f).1 hb
    subst hlf
    simp only[cond_true,Option.bind_some]
    have h1:=ih x Sx (fun e he g hg=>hr e he g (by simp[hg])) ho
    cases hc:cont x with
    | some y =>
     rw[hc] at h1
     refine⟨h1.1,fun e=>?_⟩
     rw[h1.2 e]
     constructor
     ·rintro (h|h|h)<;>simp[h]
     ·rintro (h|h|h)
      ·exact .inl h
      ·rcases AW.1 h with rfl|h
       ·exact .inl hlm
       ·exact .inr (.inl h)
      ·exact .inr (.inr h)
    | none =>
     rw[hc] at h1
     rintro⟨c1,c2,c3⟩
     exact h1 ⟨fun e he g hg hs=>c1 e (by simp[he]) g hg hs,fun e he g hg hs=>c2 e he g (by simp[hg]) hs,c3⟩
theorem gx:∀(k:Nat) (a b x:List EntT),a.length+b.length=k→bF a→bF b→bF x→Le x a→Le x b→JSpec x a b (joG k a b x)
 | 0,a,b,x,hk,_,_,Sx,_,_=>by
  have ha:a=[]:=Fo.1 (by omega)
  have hb:b=[]:=Fo.1 (by omega)
  subst ha;subst hb
  exact⟨Sx,by simp⟩
 | k+1,[],[],x,hk,_,_,Sx,_,_=>by simp at hk
 | k+1,[],m::b,x,hk,Sa,Sb,Sx,ha,hb=>by
  simp only[joG]
  exact(mZ Sb Sx hb ha (by simp) fun x' Sx' hb' ha'=>(gx k [] b x' (by simpa using hk) Sa (Bs.1 Sb).2 Sx' ha' hb').swap).swap
 | k+1,n::a,[],x,hk,Sa,Sb,Sx,ha,hb=>by
  simp only[joG]
  exact mZ Sa Sx ha hb (by simp) fun x' Sx' ha' hb'=>gx k a [] x' (by simpa using hk) (Bs.1 Sa).2 Sb Sx' ha' hb'
 | k+1,n::a,m::b,x,hk,Sa,Sb,Sx,ha,hb=>by
  simp only[joG]
  cases hc:Qd (a6 m.st n.st<0) with
  | true =>
   have hlt:=(lK m.st n.st).1 hc
   exact(mZ Sb Sx hb ha (fun g hg=>by
    rcases AW.1 hg with rfl|hg
    ·exact lJ hlt
    ·exact lJ (mY hlt ((Bs.1 Sa).1 g hg))) fun x' Sx' hb' ha'=>(gx k (n::a) b x' (by simp only[Bw] at hk ⊢;omega) Sa (Bs.1 Sb).2 Sx' ha' hb').swap).swap
  | false =>
   have hlt:¬eX m.st n.st:=fun h=>by rw[(lK m.st n.st).2 h] at hc;cases hc
   exact mZ Sa Sx ha hb (fun g hg=>by
    rcases AW.1 hg with rfl|hg
    ·exact hlt
    ·exact fun h=>hlt (mY ((Bs.1 Sb).1 g hg) h)) fun x' Sx' ha' hb'=>gx k a (m::b) x' (by simp only[Bw] at hk ⊢;omega) (Bs.1 Sa).2 Sb Sx' ha' hb'
def Uni(a b y:List EntT):Prop:=bF y∧∀e,e∈y ↔ e∈a∨e∈b
theorem oL:∀{y z:List EntT},bF y→bF z→(∀e,e∈y ↔ e∈z)→y=z
 | [],[],_,_,_=>rfl
 | [],q::z,_,_,h=>absurd ((h q).2 (by simp)) (by simp)
 | p::y,[],_,_,h=>absurd ((h p).1 (by simp)) (by simp)
 | p::y,q::z,Sy,Sz,h=>by
  have hy:=Bs.1 Sy
  have hz:=Bs.1 Sz
  have hpq:p=q:=by
   rcases AW.1 ((h p).1 (by simp)) with e|h1
   ·exact e
   ·rcases AW.1 ((h q).2 (by simp)) with e|h2
    ·exact e.symm
    ·exact absurd (hy.1 q h2) (lJ (hz.1 p h1))
  subst hpq
  have:y=z:=oL hy.2 hz.2 fun e=>by
   have h1:=h e
   simp only[AW] at h1
   constructor
   ·intro he
    rcases h1.1 (.inr he) with rfl|h2
    ·exact absurd rfl (uC (hy.1 _ he))
    ·exact h2
   ·intro he
    rcases h1.2 (.inr he) with rfl|h2
    ·exact absurd rfl (uC (hz.1 _ he))
    ·exact h2
  rw[this]
theorem so{y:List EntT}(S:bF y){e f:EntT}(he:e∈y)(hf:f∈y)(hs:e.st=f.st):e=f:=by
 induction y with
 | nil=>cases he
 | cons p y ih =>
  have hy:=Bs.1 S
  rcases AW.1 he with e1|he1
  ·rcases AW.1 hf with e2|hf1
   ·rw[e1,e2]
   ·rw[e1] at hs
    exact absurd hs (uC (hy.1 f hf1))
  ·rcases AW.1 hf with e2|hf1
   ·rw[e2] at hs
    exact absurd hs.symm (uC (hy.1 e he1))
   ·exact ih hy.2 he1 hf1
theorem Uni.compat{a b y:List EntT}(U:Uni a b y):Compat a b:=fun e he f hf hs=>so U.1 ((U.2 e).2 (.inl he)) ((U.2 f).2 (.inr hf)) hs
def Val(l:List EntT):Prop:=∀e∈l,bb e=0
theorem dh{a b:List EntT}(Sa:bF a)(Sb:bF b)(Va:Val a)(Vb:Val b)(y:List EntT):joR a b=some y ↔ Uni a b y∧Fits y:=by
 have h:=gx (a.length+b.length) a b [] rfl Sa Sb (by simp[bF]) (by simp[Le]) (by simp[Le])
 unfold joR
 cases hg:joG (a.length+b.length) a b [] with
 | none =>
  rw[hg] at h
  simp only[reduceCtorEq,false_iff]
  rintro⟨U,_⟩
  exact h ⟨U.compat,by simp[Compat],by simp[Compat]⟩
 | some z =>
  rw[hg] at h
  have hU:Uni a b z:=⟨h.1,fun e=>by rw[h.2 e];simp⟩
  have hV:∀e∈z,bb e=0:=fun e he=>by
   rcases(hU.2 e).1 he with h|h
   ·exact Va e h
   ·exact Vb e h
  simp only
  constructor
  ·intro he
   cases hf:sh z with
   | false=>rw[hf] at he;cases he
   | true =>
    rw[hf] at he
    cases he
    exact⟨hU,(ja hV).1 hf⟩
  ·rintro⟨U,F⟩
   have:z=y:=oL hU.1 U.1 fun e=>by rw[hU.2 e,U.2 e]
   subst this
   rw[(ja hV).2 F]
   rfl
theorem Uni.val{a b y:List EntT}(U:Uni a b y)(Va:Val a)(Vb:Val b):Val y:=fun e he=>by
 rcases(U.2 e).1 he with h|h
 ·exact Va e h
 ·exact Vb e h
abbrev smS(L:List (List Dp))(i:Int):AS:={t:=mkT 27 0 [(0,aa L),(1,aa L),(4,bool false),(5,int i)],h:=[],m:=[]}
theorem zz{L:List (List Dp)}{e:EntT}{i:Nat}(hr:ak (i:Int) L e.row 31)(hlt:Qd ((i:Int)<(L.length:Int))=true)(hw:Ak.wrap ((i:Int)+1)=((i+1:Nat):Int))(hsm:∀h,Ev Ae Γ0 37 [ag e.row,ag e.row] h (bool true) h):(CW Ae Γ0 [] false (sub E8 0) (smS L i) .normal (smS L ((i+1:Nat):Int))):=by
 refine AR (AU (s':={t:=mkT 27 0 [(0,aa L),(1,aa L),(4,bool false),(5,int (Av Ak ((↑i:Int)+1)))],h:=[],m:=[]}) (e:=A2) pok [.st (.mask [0,1,4,5]),.st (.trim 0)] [.b true,.row [vi e.time,vi e.campus,vi e.no,vi e.kind,vi e.stu,vi e.obj,vi e.term,vi e.val,vi e.frm,vi e.til,vs e.text,vi e.sec.id,vi e.sec.course,vi e.sec.term,vi e.sec.campus,vi e.sec.seats,Az (Ad Ar e.sec.mts),Az (Ad Ap e.sec.grs),Az (Ad ab e.sec.labs),Dp.v (AG e.sec.lab),vi e.req.campus,vi e.req.no,vi e.req.st,vi e.req.kind,vi e.req.time,Az (Ad Ai e.req.chs),vi e.req.gsec,vi e.req.glab,vi e.req.key,vi e.r,vi e.s],.row [vi e.time,vi e.campus,vi e.no,vi e.kind,vi e.stu,vi e.obj,vi e.term,vi e.val,vi e.frm,vi e.til,vs e.text,vi e.sec.id,vi e.sec.course,vi e.sec.term,vi e.sec.campus,vi e.sec.seats,Az (Ad Ar e.sec.mts),Az (Ad Ap e.sec.grs),Az (Ad ab e.sec.labs),Dp.v (AG e.sec.lab),vi e.req.campus,vi e.req.no,vi e.req.st,vi e.req.kind,vi e.req.time,Az (Ad Ai e.req.chs),vi e.req.gsec,vi e.req.glab,vi e.req.key,vi e.r,vi e.s],.val (bool true),.b false] (by kernel_rfl) (.c hlt (.c hr (.c hr (.c (@hsm ([])) (.c (show(!true)=false from rfl) .n)))))) ?_ ?_<;>(first|rfl|(rw[hw]<;>rfl))
theorem zA{L:List (List Dp)}{i:Nat}(hlt:Qd ((i:Int)<(L.length:Int))=false):(CW Ae Γ0 [] false (sub E8 0) (smS L i) (.exit 0) {t:=mkT 27 0 [],h:=[],m:=[]}):=by
 exact AR (AU (s':={t:=mkT 27 0 [],h:=[],m:=[]}) (e:=A1 0) pok [.st (.mask [])] [.b false] (by kernel_rfl) (.c hlt .n)) (by rfl) (by rfl)
theorem zB{l:List EntT}(hs:aq l)(ho:∀e∈l,e.ok):CW Ae Γ0 [] false (.loop (sub E8 0)) (smS (l.map Ax) 0) (.exit 0) {t:=mkT 27 0 [],h:=[],m:=[]}:=by
 have:=CW.each (P:=Ae) (Γ:=Γ0) (h0:=[]) (rd:=false) (c:=sub E8 0) (σ:=Unit) (ρ:=Empty) l (fun _ s=>.inl s) (fun j _=>smS (l.map Ax) (j:Int)) (.exit 0) (fun _=>{t:=mkT 27 0 [],h:=[],m:=[]}) (fun r=>r.elim) (fun _ _=>True) (by simp) (fun r=>r.elim) ?_ ?_ () trivial
 ·rw[ou (fun s _=>s)] at this
  exact this
 ·intro j e s hj _
  have hlt:=(An.1 hj).1
  have o:=ho e (Ba hj)
  have he:kb e e=true:=by rw[sn];exact(kc e e).2 rfl
  have hsm:∀h,Ev Ae Γ0 37 [ag e.row,ag e.row] h (bool true) h:=fun h=>by
   rw[←he]
   exact uw o.m o.g o.l o.c h
  exact⟨fun _ _=>trivial,zz (rowAt (row:=Ax) (sz:=31) hj rfl) (lt_len Ax hlt) (wrap_succ hlt hs) hsm⟩
 ·intro s _
  exact zA (bE Ax l)
theorem same_a{L:List (List Dp)}(hn:((L.length:Int) != (L.length:Int))=false)(hl:CW Ae Γ0 [] false (.loop (sub E8 0)) (smS L 0) (.exit 0) {t:=mkT 27 0 [],h:=[],m:=[]})(h:List Blk):(Ev Ae Γ0 19 [aa L,aa L] h (bool true) h):=by
 have hl0:=(@hl)
 exact AB (AF (d:=bool true) pok [.b false,.sum [0,1,4,5] (A1 0) {t:=mkT 27 0 [],h:=[],m:=[]}] (by kernel_rfl) (.c hn (.c hl0 .n)) rfl rfl h) (by rfl) (by rfl)
theorem rb{l:List EntT}(hs:aq l)(ho:∀e∈l,e.ok)(h:List Blk):Ev Ae Γ0 19 [aa (l.map Ax),aa (l.map Ax)] h (bool true) h:=same_a (by simp) (zB hs ho) h
theorem zC{A B:List (List Dp)}{f2:Bool}(h1:∀h,Ev Ae Γ0 11 [aa A] h (bool false) h)(h2:∀h,Ev Ae Γ0 11 [aa B] h (bool f2) h)(c1:∀h,False→Ev Ae Γq 12 [aa A] h (int 0) h)(c2:∀h,False→Ev Ae Γq 12 [aa B] h (int 0) h)(h:List Blk):(Ev Ae Γq 6 [aa A,aa B] h (bool true) h):=by
 refine AB (AF (d:=bool true) pok [.val (bool true),.b false,.val (bool false),.val (bool f2),.val (int 0),.val (int 0),.b true] (by kernel_rfl) (.c (@eG ([])) (.c (show(!true)=false from rfl) (.c (AJ (Γ':=Γq) (@h1 ([]))) (.c (show(!!false)=true→Ev Ae Γq 11 [aa B] [] (bool f2) [] from(fun hg=>(AJ (@h2 ([]))))) (.c (show(!(!false||!f2))=true→Ev Ae Γq 12 [aa A] [] (int 0) [] from(fun hg=>(@c1 ([]) ?_))) (.c (show(!(!false||!f2||0 != 0))=true→Ev Ae Γq 12 [aa B] [] (int 0) [] from(fun hg=>(@c2 ([]) ?_))) (.c (show(!false||!f2||0 != 0||0 != 0)=true from rfl) .n))))))) rfl rfl h) (by rfl) (by rfl)<;>(first|assumption|rfl|(cases hg;done)|(simp at hg;done)|(simp_all;done))
theorem zD{A B:List (List Dp)}(h1:∀h,Ev Ae Γ0 11 [aa A] h (bool true) h)(h2:∀h,Ev Ae Γ0 11 [aa B] h (bool false) h)(c1:∀h,False→Ev Ae Γq 12 [aa A] h (int 0) h)(c2:∀h,False→Ev Ae Γq 12 [aa B] h (int 0) h)(h:List Blk):(Ev Ae Γq 6 [aa A,aa B] h (bool true) h):=by
 refine AB (AF (d:=bool true) pok [.val (bool true),.b false,.val (bool true),.val (bool false),.val (int 0),.val (int 0),.b true] (by kernel_rfl) (.c (@eG ([])) (.c (show(!true)=false from rfl) (.c (AJ (Γ':=Γq) (@h1 ([]))) (.c (show(!!true)=true→Ev Ae Γq 11 [aa B] [] (bool false) [] from(fun hg=>(AJ (@h2 ([]))))) (.c (show(!(!true||!false))=true→Ev Ae Γq 12 [aa A] [] (int 0) [] from(fun hg=>(@c1 ([]) ?_))) (.c (show(!(!true||!false||0 != 0))=true→Ev Ae Γq 12 [aa B] [] (int 0) [] from(fun hg=>(@c2 ([]) ?_))) (.c (show(!true||!false||0 != 0||0 != 0)=true from rfl) .n))))))) rfl rfl h) (by rfl) (by rfl)<;>(first|assumption|rfl|(cases hg;done)|(simp at hg;done)|(simp_all;done))
theorem lm_ck{A B:List (List Dp)}{e1 e2:Int}(h1:∀h,Ev Ae Γ0 11 [aa A] h (bool true) h)(h2:∀h,Ev Ae Γ0 11 [aa B] h (bool true) h)(c1:∀h,Ev Ae Γq 12 [aa A] h (int e1) h)(c2:∀h,Ev Ae Γq 12 [aa B] h (int e2) h)(hcd:(!true||!true||e1 != 0||e2 != 0)=true)(h:List Blk):(Ev Ae Γq 6 [aa A,aa B] h (bool true) h):=by
 exact AB (AF (d:=bool true) pok [.val (bool true),.b false,.val (bool true),.val (bool true),.val (int e1),.val (int e2),.b true] (by kernel_rfl) (.c (@eG ([])) (.c (show(!true)=false from rfl) (.c (AJ (Γ':=Γq) (@h1 ([]))) (.c (show(!!true)=true→Ev Ae Γq 11 [aa B] [] (bool true) [] from(fun hg=>(AJ (@h2 ([]))))) (.c (show(!(!true||!true))=true→Ev Ae Γq 12 [aa A] [] (int e1) [] from(fun hg=>(@c1 ([])))) (.c (show(!(!true||!true||e1 != 0))=true→Ev Ae Γq 12 [aa B] [] (int e2) [] from(fun hg=>(@c2 ([])))) (.c hcd .n))))))) rfl rfl h) (by rfl) (by rfl)
abbrev lmS(A B X Y Z:List (List Dp))(e f g i:Int):AS:={t:=mkT 123 0 [(0,aa A),(1,aa B),(4,bool false),(5,aa X),(6,int e),(7,aa Y),(8,int f),(9,aa Z),(10,int g),(11,int i)],h:=[],m:=[]}
abbrev lmE(A B X Y Z:List (List Dp))(e f g:Int):AS:={t:=mkT 123 0 [(0,aa A),(1,aa B),(5,aa X),(6,int e),(7,aa Y),(8,int f),(9,aa Z),(10,int g)],h:=[],m:=[]}
theorem zE{A B X Y Z Z':List (List Dp)}{e f g:Int}{n:EntT}{ix g':Int}{i:Nat}(hr:ak (i:Int) B n.row 31)(hcd:(Qd ((i:Int)<(B.length:Int))&&(g==0))=true)(hw:Ak.wrap ((i:Int)+1)=((i+1:Nat):Int))(hpu:∀h,Ev Ae Γq 17 [aa Z,ag n.row] h (.tup [aa Z',int ix,int g']) h):(CW Ae Γq [] false (sub E7 0) (lmS A B X Y Z e f g i) .normal (lmS A B X Y Z' e f g' ((i+1:Nat):Int))):=by
 refine AR (AU (s':={t:=mkT 123 0 [(0,aa A),(1,aa B),(4,bool false),(5,aa X),(6,int e),(7,aa Y),(8,int f),(9,aa Z'),(10,int g'),(11,int (Av Ak ((↑i:Int)+1)))],h:=[],m:=[]}) (e:=A2) pok [.st (.mask [0,1,4,5,6,7,8,9,10,11]),.st (.trim 0)] [.b true,.row [vi n.time,vi n.campus,vi n.no,vi n.kind,vi n.stu,vi n.obj,vi n.term,vi n.val,vi n.frm,vi n.til,vs n.text,vi n.sec.id,vi n.sec.course,vi n.sec.term,vi n.sec.campus,vi n.sec.seats,Az (Ad Ar n.sec.mts),Az (Ad Ap n.sec.grs),Az (Ad ab n.sec.labs),Dp.v (AG n.sec.lab),vi n.req.campus,vi n.req.no,vi n.req.st,vi n.req.kind,vi n.req.time,Az (Ad Ai n.req.chs),vi n.req.gsec,vi n.req.glab,vi n.req.key,vi n.r,vi n.s],.val (AK [aa Z',int ix,int g'])] (by kernel_rfl) (.c hcd (.c hr (.c (@hpu ([])) .n)))) ?_ ?_<;>(first|rfl|(rw[hw]<;>rfl))
theorem lm_end{A B X Y Z:List (List Dp)}{e f g:Int}{i:Nat}(hcd:(Qd ((i:Int)<(B.length:Int))&&(g==0))=false):(CW Ae Γq [] false (sub E7 0) (lmS A B X Y Z e f g i) (.exit 0) (lmE A B X Y Z e f g)):=by
 exact AR (AU (s':={t:=mkT 123 0 [(0,aa A),(1,aa B),(5,aa X),(6,int e),(7,aa Y),(8,int f),(9,aa Z),(10,int g)],h:=[],m:=[]}) (e:=A1 0) pok [.st (.mask [0,1,5,6,7,8,9,10])] [.b false] (by kernel_rfl) (.c hcd .n)) (by rfl) (by rfl)
theorem lm_bad{A B X Z:List (List Dp)}(h1:∀h,Ev Ae Γ0 11 [aa A] h (bool true) h)(h2:∀h,Ev Ae Γ0 11 [aa B] h (bool true) h)(c1:∀h,Ev Ae Γq 12 [aa A] h (int 0) h)(c2:∀h,Ev Ae Γq 12 [aa B] h (int 0) h)
  (m1:∀h,Ev Ae Γq 20 [aa A,aa B] h (.tup [aa X,int 390]) h) (m2:∀h,Ev Ae Γq 20 [aa B,aa A] h (.tup [aa X,int 390]) h) (hl:CW Ae Γq [] false (.loop (sub E7 0)) (lmS A B X X A 390 390 0 0) (.exit 0) (lmE A B X X Z 390 390 390))
  (hsm:∀h,Ev Ae Γ0 19 [aa X,aa X] h (bool true) h) (h:List Blk):(Ev Ae Γq 6 [aa A,aa B] h (bool ((X.length:Int)==0)) h):=by
 have hl0:=(@hl)
 exact AB (AF (d:=bool (390==390&&(↑(Ag X):Int)==0)) pok [.val (bool true),.b false,.val (bool true),.val (bool true),.val (int 0),.val (int 0),.b false,.val (AK [aa X,int 390]),.val (AK [aa X,int 390]),.sum [0,1,4,5,6,7,8,9,10,11] (A1 0) {t:=mkT 123 0 [(0,aa A),(1,aa B),(5,aa X),(6,int 390),(7,aa X),(8,int 390),(9,aa Z),(10,int 390)],h:=[],m:=[]},.val (bool true),.b false,.b true] (by kernel_rfl) (.c (@eG ([])) (.c (show(!true)=false from rfl) (.c (AJ (Γ':=Γq) (@h1 ([]))) (.c (show(!!true)=true→Ev Ae Γq 11 [aa B] [] (bool true) [] from(fun hg=>(AJ (@h2 ([]))))) (.c (show(!(!true||!true))=true→Ev Ae Γq 12 [aa A] [] (int 0) [] from(fun hg=>(@c1 ([])))) (.c (show(!(!true||!true||0 != 0))=true→Ev Ae Γq 12 [aa B] [] (int 0) [] from(fun hg=>(@c2 ([])))) (.c (show(!true||!true||0 != 0||0 != 0)=false from rfl) (.c (@m1 ([])) (.c (@m2 ([])) (.c hl0 (.c (show(!(390 != 390||390 != 390))=true→Ev Ae Γq 19 [aa X,aa X] [] (bool true) [] from(fun hg=>(AJ (@hsm ([]))))) (.c (show(390 != 390||390 != 390||!true)=false from rfl) (.c (show(390 != 0)=true from rfl) .n))))))))))))) rfl rfl h) (by rfl) (by rfl)
theorem lm_go{A B X:List (List Dp)}(h1:∀h,Ev Ae Γ0 11 [aa A] h (bool true) h)(h2:∀h,Ev Ae Γ0 11 [aa B] h (bool true) h)(c1:∀h,Ev Ae Γq 12 [aa A] h (int 0) h)(c2:∀h,Ev Ae Γq 12 [aa B] h (int 0) h)
  (m1:∀h,Ev Ae Γq 20 [aa A,aa B] h (.tup [aa X,int 0]) h) (m2:∀h,Ev Ae Γq 20 [aa B,aa A] h (.tup [aa X,int 0]) h) (hl:CW Ae Γq [] false (.loop (sub E7 0)) (lmS A B X X A 0 0 0 0) (.exit 0) (lmE A B X X X 0 0 0))
  (hsm:∀h,Ev Ae Γ0 19 [aa X,aa X] h (bool true) h) (m3:∀h,Ev Ae Γq 20 [aa X,aa B] h (.tup [aa X,int 0]) h) (c3:∀h,Ev Ae Γq 12 [aa X] h (int 0) h) (h:List Blk):(Ev Ae Γq 6 [aa A,aa B] h (bool (Qd ((X.length:Int)≤Ak.wrap ((A.length:Int)+(B.length:Int))))) h):=by
 have hl0:=(@hl)
 exact AB (AF (d:=bool (true&&0==0&&true&&0==0&&Qd ((↑(Ag X):Int)≤Av Ak ((↑(Ag A):Int)+(↑(Ag B):Int))))) pok [.val (bool true),.b false,.val (bool true),.val (bool true),.val (int 0),.val (int 0),.b false,.val (AK [aa X,int 0]),.val (AK [aa X,int 0]),.sum [0,1,4,5,6,7,8,9,10,11] (A1 0) {t:=mkT 123 0 [(0,aa A),(1,aa B),(5,aa X),(6,int 0),(7,aa X),(8,int 0),(9,aa X),(10,int 0)],h:=[],m:=[]},.val (bool true),.b false,.b false,.val (AK [aa X,int 0]),.val (bool true),.val (bool true),.val (int 0)] (by kernel_rfl) (.c (@eG ([])) (.c (show(!true)=false from rfl) (.c (AJ (Γ':=Γq) (@h1 ([]))) (.c (show(!!true)=true→Ev Ae Γq 11 [aa B] [] (bool true) [] from(fun hg=>(AJ (@h2 ([]))))) (.c (show(!(!true||!true))=true→Ev Ae Γq 12 [aa A] [] (int 0) [] from(fun hg=>(@c1 ([])))) (.c (show(!(!true||!true||0 != 0))=true→Ev Ae Γq 12 [aa B] [] (int 0) [] from(fun hg=>(@c2 ([])))) (.c (show(!true||!true||0 != 0||0 != 0)=false from rfl) (.c (@m1 ([])) (.c (@m2 ([])) (.c hl0 (.c (show(!(0 != 0||0 != 0))=true→Ev Ae Γq 19 [aa X,aa X] [] (bool true) [] from(fun hg=>(AJ (@hsm ([]))))) (.c (show(0 != 0||0 != 0||!true)=false from rfl) (.c (show(0 != 0)=false from rfl) (.c (@m3 ([])) (.c (AJ (Γ':=Γq) (@hsm ([]))) (.c (show(true&&0==0)=true→Ev Ae Γq 19 [aa X,aa X] [] (bool true) [] from(fun hg=>(AJ (@hsm ([]))))) (.c (show(true&&0==0&&true)=true→Ev Ae Γq 12 [aa X] [] (int 0) [] from(fun hg=>(@c3 ([])))) .n))))))))))))))))) rfl rfl h) (by rfl) (by rfl)
theorem uD{a b:List EntT}(ha:a8 a=0)(hb:a8 b=0):meR a b=match joR a b with|none=>([],390)|some y=>(y,0):=by
 unfold meR
 rw[ha,hb]
 rfl
theorem uE{l:List EntT}(h:wS l=true):l.length≤16:=by
 unfold wS at h
 simp only[Am,decide_eq_true_eq,CX] at h
 omega
theorem Led.of_joR{a b y:List EntT}(A:Led a)(B:Led b)(h:joR a b=some y)(hl:a.length+b.length≤65536):Led y∧Uni a b y:=by
 obtain⟨U,F⟩:=(dh A.f.sorted B.f.sorted A.e B.e y).1 h
 have:=mW h
 exact⟨⟨by omega,U.val A.e B.e,F⟩,U⟩
theorem Uni.ok{a b y:List EntT}(U:Uni a b y)(oa:∀e∈a,e.ok)(ob:∀e∈b,e.ok):∀e∈y,e.ok:=fun e he=>by
 rcases(U.2 e).1 he with h|h
 ·exact oa e h
 ·exact ob e h
def pzF(n:EntT)(s:List EntT×Int):(List EntT×Int)⊕(List EntT×Int):=match s.2==0 with
 | true=>.inl ((pE s.1 n).1,(pE s.1 n).2.2)
 | false=>.inr s
def pzE(r:(List EntT×Int)⊕(List EntT×Int)):List EntT×Int:=match r with
 | .inl s=>s
 | .inr s=>s
theorem uF{a b x y:List EntT}{e f:Int}(lb:b.length≤16)(ob:∀n∈b,n.ok)(la:a.length≤16)(oa:∀n∈a,n.ok):
  CW Ae Γq [] false (.loop (sub E7 0)) (lmS (a.map Ax) (b.map Ax) (x.map Ax) (y.map Ax) (a.map Ax) e f 0 0) (.exit 0) (lmE (a.map Ax) (b.map Ax) (x.map Ax) (y.map Ax) ((pzE (forL pzF b (a,0))).1.map Ax) e f (pzE (forL pzF b (a,0))).2):=by
 have:=CW.each (P:=Ae) (Γ:=Γq) (h0:=[]) (rd:=false) (c:=sub E7 0) b pzF (fun j s=>lmS (a.map Ax) (b.map Ax) (x.map Ax) (y.map Ax) (s.1.map Ax) e f s.2 (j:Int)) (.exit 0)
  (fun s=>lmE (a.map Ax) (b.map Ax) (x.map Ax) (y.map Ax) (s.1.map Ax) e f s.2) (fun s=>(.exit 0,lmE (a.map Ax) (b.map Ax) (x.map Ax) (y.map Ax) (s.1.map Ax) e f s.2))
  (fun j s=>s.1.length≤16+j∧∀n∈s.1,n.ok) (by simp) (fun _=>by simp) ?_ ?_ (a,0) ⟨by simpa using la,oa⟩
 ·revert this
  cases forL pzF b (a,0)<;>exact id
 ·rintro j n ⟨z,g⟩ hj ⟨hz,oz⟩
  simp only at hz oz
  have hlt:=(An.1 hj).1
  have on:=ob n (Ba hj)
  have hr:=rowAt (row:=Ax) (sz:=31) hj rfl
  have hput:=fun h=>zr (l:=z) (n:=n) (by omega) oz on h
  have hmem:(∀m∈(pE z n).1,m.ok)∧(pE z n).1.length≤z.length+1:=by
   unfold pE
   cases h1:a8 z != 0 with
   | true=>exact⟨by simp,by simp⟩
   | false =>
    cases h2:bb n != 0 with
    | true=>exact⟨by simp,by simp⟩
    | false =>
     simp only
     cases h3:joR z [n] with
     | none=>exact⟨by simp,by simp⟩
     | some w =>
      have hA:=eH.1 (show a8 z=0 by simpa using h1)
      obtain⟨U,_⟩:=(dh hA.f.sorted (by simp[bF]) hA.e (by intro m hm;simp at hm;subst hm;simpa using h2) w).1 h3
      have:=mW h3
      exact⟨U.ok oz (by simpa using on),by simpa using this⟩
  cases hg:g==0 with
  | true =>
   have e1:pzF n (z,g)=.inl ((pE z n).1,(pE z n).2.2):=by unfold pzF;simp only[hg]
   rw[e1]
   refine⟨fun s' h=>?_,zE hr (by rw[lt_len Ax hlt,hg];rfl) (wrap_succ hlt (show b.length≤_ by omega)) hput⟩
   cases h
   exact⟨by have:=hmem.2;simp only;omega,hmem.1⟩
  | false =>
   have e1:pzF n (z,g)=.inr (z,g):=by unfold pzF;simp only[hg]
   rw[e1]
   exact⟨fun s' h=>(by cases h),lm_end (by rw[hg,CD])⟩
 ·rintro⟨z,g⟩ _
  exact lm_end (by rw[bE Ax b,Dz])
theorem wj{a b:List EntT}(Sa:bF a)(Sb:bF b)(Va:Val a)(Vb:Val b):joR a b=joR b a:=by
 apply Option.ext
 intro y
 rw[dh Sa Sb Va Vb,dh Sb Sa Vb Va]
 refine and_congr_left fun _=>and_congr_right fun _=>forall_congr' fun e=>?_
 rw[or_comm]
theorem zF{a:List EntT}(A:Led a):joR a []=some a:=(dh A.f.sorted (by simp[bF]) A.e (by simp[Val]) a).2 ⟨⟨A.f.sorted,by simp⟩,A.f⟩
theorem zG{a b b' y:List EntT}(A:Led a)(B:Led b)(h:joR a b=some y)(hs:E6 b' b):∃z,joR a b'=some z:=by
 classical
 obtain⟨U,F⟩:=(dh A.f.sorted B.f.sorted A.e B.e y).1 h
 refine⟨y.filter fun e=>Qd (e∈a∨e∈b'),(dh A.f.sorted (B.f.sorted.sublist hs) A.e (fun e he=>B.e e (hs.subset he)) _).2 ⟨⟨U.1.sublist F1,fun e=>?_⟩,F.sublist F1⟩⟩
 rw[CE,decide_eq_true_iff,U.2 e]
 constructor
 ·exact fun h=>h.2
 ·rintro (h|h)
  ·exact⟨.inl h,.inl h⟩
  ·exact⟨.inr (hs.subset h),.inr h⟩
theorem wl{a p z:List EntT}{n:EntT}(A:Led a)(P:Led (p++[n]))(h:joR a p=some z):joR z [n]=joR a (p++[n]):=by
 have Pp:bF p:=(En.1 P.f.sorted).1
 have Vp:Val p:=fun e he=>P.e e (by simp[he])
 have Vn:Val [n]:=fun e he=>P.e e (by simp at he;simp[he])
 obtain⟨U,F⟩:=(dh A.f.sorted Pp A.e Vp z).1 h
 apply Option.ext
 intro y
 rw[dh U.1 (by simp[bF]) (U.val A.e Vp) Vn,dh A.f.sorted P.f.sorted A.e P.e]
 refine and_congr_left fun _=>and_congr_right fun _=>forall_congr' fun e=>?_
 rw[U.2 e,A3,or_assoc]
theorem zH{n:List EntT}{s:List EntT×Int}(h:s.2 ≠ 0):pzE (forL pzF n s)=s:=by
 cases n with
 | nil=>rfl
 | cons m n =>
  have hg:(s.2==0)=false:=by simpa using h
  have e1:pzF m s=.inr s:=by unfold pzF;rw[hg]
  simp only[forL,e1,pzE]
theorem pz_go{a:List EntT}(A:Led a)(la:a.length≤16):∀(r p z:List EntT),(p++r).length≤16→Led (p++r)→joR a p=some z→(match joR a (p++r) with
  | some y=>pzE (forL pzF r (z,0))=(y,0)
  | none=>(pzE (forL pzF r (z,0))).2=390)
 | [],p,z,_,_,h=>by
  rw[Eh,h]
  rfl
 | n::r,p,z,hl,D,h=>by
  have e1:p++n::r=(p++[n])++r:=by simp
  rw[e1] at hl D ⊢
  have hsub:E6 (p++[n]) ((p++[n])++r):=Fl _ _
  have hll:(p++[n]).length≤16:=Nat.le_trans hsub.length_le hl
  have Dp:Led (p++[n]):=⟨by omega,fun e he=>D.e e (hsub.subset he),D.f.sublist hsub⟩
  have hn:bb n=0:=Dp.e n (by simp)
  have hs:=wl A Dp h
  have hsp:E6 p (p++[n]):=Fl _ _
  have hlp:p.length≤16:=Nat.le_trans hsp.length_le hll
  have hz:a8 z=0:=eH.2 (A.of_joR ⟨by omega,fun e he=>Dp.e e (hsp.subset he),Dp.f.sublist hsp⟩ h (by omega)).1
  have hput:pE z n=match joR a (p++[n]) with|none=>([],0,390)|some y=>(y,idxR n y,0):=by
   unfold pE
   rw[hz,hn,hs]
   rfl
  have e2:pzF n (z,0)=.inl ((pE z n).1,(pE z n).2.2):=rfl
  simp only[forL,e2]
  rw[hput]
  cases hj:joR a (p++[n]) with
  | some w=>exact pz_go A la r (p++[n]) w hl D hj
  | none =>
   simp only
   rw[zH (s:=([],390)) (by simp)]
   cases hj2:joR a ((p++[n])++r) with
   | none=>rfl
   | some y =>
    obtain⟨w,hw⟩:=zG A D hj2 hsub
    rw[hj] at hw
    cases hw
theorem kD{a b:List EntT}(sa:aq a)(sb:aq b)(h:List Blk):Ev Ae Γq 6 [aa (a.map Ax),aa (b.map Ax)] h (bool true) h:=by
 have f1:=fun h=>wT sa h
 have f2:=fun h=>wT sb h
 cases w1:wS a with
 | false=>rw[w1] at f1;exact zC f1 f2 (fun _ h=>h.elim) (fun _ h=>h.elim) h
 | true =>
  rw[w1] at f1
  cases w2:wS b with
  | false=>rw[w2] at f2;exact zD f1 f2 (fun _ h=>h.elim) (fun _ h=>h.elim) h
  | true =>
   rw[w2] at f2
   have oa:=wV w1
   have ob:=wV w2
   have la:=uE w1
   have lb:=uE w2
   have c1:=fun h=>lD sa oa h
   have c2:=fun h=>lD sb ob h
   cases hcd:(!true||!true||a8 a != 0||a8 b != 0) with
   | true=>exact lm_ck f1 f2 c1 c2 hcd h
   | false =>
    simp only[CJ,bne_eq_false_iff_eq] at hcd
    obtain⟨⟨_,ha⟩,hb⟩:=hcd
    rw[ha] at c1
    rw[hb] at c2
    have A:=eH.1 ha
    have B:=eH.1 hb
    have m1:=fun h=>mX (a:=a) (b:=b) (by omega) oa ob h
    have m2:=fun h=>mX (a:=b) (b:=a) (by omega) ob oa h
    rw[uD ha hb] at m1
    rw[uD hb ha,wj B.f.sorted A.f.sorted B.e A.e] at m2
    have hgo:=pz_go A la b [] a (by simpa using lb) (by simpa using B) (zF A)
    simp only[List.nil_append] at hgo
    cases hj:joR a b with
    | none =>
     rw[hj] at m1 m2 hgo
     simp only at m1 m2 hgo
     have hl:=uF (x:=[]) (y:=[]) (e:=390) (f:=390) lb ob la oa
     rw[hgo] at hl
     exact lm_bad (X:=[]) f1 f2 c1 c2 m1 m2 hl (fun h=>rb (l:=[]) (by simp[aq]) (by simp) h) h
    | some x =>
     rw[hj] at m1 m2 hgo
     simp only at m1 m2 hgo
     have hl:=uF (x:=x) (y:=x) (e:=0) (f:=0) lb ob la oa
     rw[hgo] at hl
     obtain⟨X,U⟩:=A.of_joR B hj (by omega)
     have lx:=mW hj
     have ox:=U.ok oa ob
     have hx:a8 x=0:=eH.2 X
     have m3:=fun h=>mX (a:=x) (b:=b) (by omega) ox ob h
     have hjx:joR x b=some x:=(dh X.f.sorted B.f.sorted X.e B.e x).2 ⟨⟨X.f.sorted,fun e=>⟨.inl,fun h=>h.elim id fun h=>(U.2 e).2 (.inr h)⟩⟩,X.f⟩
     rw[uD hx hb,hjx] at m3
     have c3:=fun h=>lD (l:=x) (show x.length≤_ by omega) ox h
     rw[hx] at c3
     have:=lm_go f1 f2 c1 c2 m1 m2 hl (fun h=>rb (show x.length≤_ by omega) ox h) m3 c3 h
     have hb2:Qd ((((x.map Ax).length:Nat):Int)≤Ak.wrap ((((a.map Ax).length:Nat):Int)+(((b.map Ax).length:Nat):Int)))=true:=by
      rw[wrap_i64 (by simp;omega) (by simp;omega)]
      simp
      omega
     rw[hb2] at this
     exact this
open Go.ChangeShapes Go.WideShapes Go.ChangeAt Go.RowKit Go.Proofs.YtoincdhjcahadaaGreatDoor
set_option maxRecDepth 100000
def I64(n:Int):Prop := -9223372036854775808≤n∧n≤9223372036854775807
theorem gy:Ae.cellsOf 3=1:=by kernel_rfl
theorem cells4:Ae.cellsOf 4=1:=by kernel_rfl
theorem cells9:Ae.cellsOf 9=1:=by kernel_rfl
theorem uG:Ae.cellsOf 28=3:=by kernel_rfl
theorem uH:Ae.cellsOf 32=2:=by kernel_rfl
theorem zI:Ae.cellsOf 33=1:=by kernel_rfl
theorem zJ:Ae.cellsOf 34=1:=by kernel_rfl
theorem zK:Ae.cellsOf 35=1:=by kernel_rfl
theorem uI:Ae.cellsOf 37=9:=by kernel_rfl
theorem zL:Ae.cellsOf 38=1:=by kernel_rfl
theorem uJ:Ae.cellsOf 40=2:=by kernel_rfl
theorem uK:Ae.cellsOf 42=9:=by kernel_rfl
theorem uL:Ae.cellsOf 44=2:=by kernel_rfl
theorem zM:Ae.cellsOf 46=31:=by kernel_rfl
theorem wm:Ae.cellsOf 118=5:=by kernel_rfl
theorem wn:Ae.cellsOf 120=3:=by kernel_rfl
theorem bytes3:Ae.bytesOf 3=8:=by kernel_rfl
theorem wo:Ae.bytesOf 118=40:=by kernel_rfl
theorem wp:Ae.bytesOf 120=24:=by kernel_rfl
theorem zN:Ae.bytesOf 40=16:=by kernel_rfl
theorem zO:Ae.bytesOf 46=320:=by kernel_rfl
theorem zP:tM Ae [3,4,9,22,28,32,33,34,35,37,38,40,42,44,46,118,120]=true:=by kernel_rfl
theorem aB{n:Nat}{ds:List Dp}(h:Shp Ae n 3 ds):∃x,ds=[vi x]∧I64 x:=by
 cases n with
 | zero=>exact h.elim
 | succ n =>
  simp only[Shp,Tryz.underlying3] at h
  obtain⟨x,rfl,hw⟩:=h
  exact⟨x,rfl,bounds_i64 hw⟩
theorem zQ{n:Nat}{ds:List Dp}(h:Shp Ae n 9 ds):∃s,ds=[vs s]:=by
 cases n with
 | zero=>exact h.elim
 | succ n =>
  simp only[Shp,Tryz.underlying9] at h
  obtain⟨s,rfl,_⟩:=h
  exact⟨s,rfl⟩
theorem wq{n:Nat}{ds:List Dp}(h:Shp Ae n 4 ds):∃b,ds=[.v (.bool b)]:=by
 cases n with
 | zero=>exact h.elim
 | succ n =>
  simp only[Shp,Tryz.underlying4] at h
  obtain⟨b,rfl⟩:=h
  exact⟨b,rfl⟩
theorem lL{α:Type}{row:α→List Dp}{ok:α→Prop}:∀{es:List (List Dp)},(∀r∈es,∃a,r=row a∧ok a)→∃l:List α,es=l.map row∧∀a∈l,ok a
 | [],_=>⟨[],rfl,by simp⟩
 | r::es,h=>by
  obtain⟨a,rfl,ha⟩:=h r (List.mem_cons_self ..)
  obtain⟨l,rfl,hl⟩:=lL (fun r hr=>h r (List.mem_cons_of_mem _ hr))
  exact⟨a::l,rfl,fun b hb=>(AW.1 hb).elim (fun e=>e▸ha) (hl b)⟩
theorem wr{n k:Nat}(h:n*k≤reachBytes)(hk:1≤k):n≤140737488355328:=by
 have:n≤n*k:=Nat.le_mul_of_pos_right n hk
 unfold reachBytes at h
 omega
theorem shp_st{n:Nat}{ds:List Dp}(h:Shp Ae n 28 ds):∃a:StT,ds=a.row∧True:=by
 cases n with
 | zero=>exact h.elim
 | succ n =>
  simp only[Shp,Tryz.underlying28,BE,gy,uG] at h
  obtain⟨hl,h1,h2,h3,_⟩:=h
  obtain⟨x1,e1,_⟩:=aB h1
  obtain⟨x2,e2,_⟩:=aB h2
  obtain⟨x3,e3,_⟩:=aB h3
  match ds,hl with
  | [p1,p2,p3],_ =>
   simp at e1 e2 e3
   subst e1;subst e2;subst e3
   exact⟨⟨x1,x2,x3⟩,rfl,trivial⟩
theorem shp_mt{n:Nat}{ds:List Dp}(h:Shp Ae n 118 ds):∃a:MeT,ds=a.row∧True:=by
 cases n with
 | zero=>exact h.elim
 | succ n =>
  simp only[Shp,Tryz.underlying118,BE,gy,wm] at h
  obtain⟨hl,h1,h2,h3,h4,h5,_⟩:=h
  obtain⟨x1,e1,_⟩:=aB h1
  obtain⟨x2,e2,_⟩:=aB h2
  obtain⟨x3,e3,_⟩:=aB h3
  obtain⟨x4,e4,_⟩:=aB h4
  obtain⟨x5,e5,_⟩:=aB h5
  match ds,hl with
  | [p1,p2,p3,p4,p5],_ =>
   simp at e1 e2 e3 e4 e5
   subst e1;subst e2;subst e3;subst e4;subst e5
   exact⟨⟨x1,x2,x3,x4,x5⟩,rfl,trivial⟩
theorem shp_gr{n:Nat}{ds:List Dp}(h:Shp Ae n 120 ds):∃a:GrT,ds=a.row∧True:=by
 cases n with
 | zero=>exact h.elim
 | succ n =>
  simp only[Shp,Tryz.underlying120,BE,gy,wn] at h
  obtain⟨hl,h1,h2,h3,_⟩:=h
  obtain⟨x1,e1,_⟩:=aB h1
  obtain⟨x2,e2,_⟩:=aB h2
  obtain⟨x3,e3,_⟩:=aB h3
  match ds,hl with
  | [p1,p2,p3],_ =>
   simp at e1 e2 e3
   subst e1;subst e2;subst e3
   exact⟨⟨x1,x2,x3⟩,rfl,trivial⟩
theorem wX{n:Nat}{ds:List Dp}(h:Shp Ae n 40 ds):∃a:BuT,ds=a.row∧True:=by
 cases n with
 | zero=>exact h.elim
 | succ n =>
  simp only[Shp,Tryz.underlying40,BE,gy,uJ] at h
  obtain⟨hl,h1,h2,_⟩:=h
  obtain⟨x1,e1,_⟩:=aB h1
  obtain⟨x2,e2,_⟩:=aB h2
  match ds,hl with
  | [p1,p2],_ =>
   simp at e1 e2
   subst e1;subst e2
   exact⟨⟨x1,x2⟩,rfl,trivial⟩
theorem ws{n:Nat}{ds:List Dp}(h:Shp Ae n 32 ds):∃a b,ds=[vi a,vi b]:=by
 cases n with
 | zero=>exact h.elim
 | succ n =>
  simp only[Shp,Tryz.underlying32,BE,gy,uH] at h
  obtain⟨hl,h1,h2,_⟩:=h
  obtain⟨x1,e1,_⟩:=aB h1
  obtain⟨x2,e2,_⟩:=aB h2
  match ds,hl with
  | [p1,p2],_ =>
   simp at e1 e2
   subst e1;subst e2
   exact⟨x1,x2,rfl⟩
theorem zR{n:Nat}{ds:List Dp}(h:Shp Ae n 44 ds):∃a b,ds=[vi a,vi b]:=by
 cases n with
 | zero=>exact h.elim
 | succ n =>
  simp only[Shp,Tryz.underlying44,BE,gy,uL] at h
  obtain⟨hl,h1,h2,_⟩:=h
  obtain⟨x1,e1,_⟩:=aB h1
  obtain⟨x2,e2,_⟩:=aB h2
  match ds,hl with
  | [p1,p2],_ =>
   simp at e1 e2
   subst e1;subst e2
   exact⟨x1,x2,rfl⟩
theorem zS{n:Nat}{ds:List Dp}(h:Shp Ae n 33 ds):∃l:List MeT,ds=[.sl (l.map Ar)]:=by
 cases n with
 | zero=>exact h.elim
 | succ n =>
  simp only[Shp,Tryz.underlying33,wo] at h
  obtain⟨es,rfl,_,he⟩:=h
  obtain⟨l,rfl,_⟩:=lL (row:=Ar) (ok:=fun _=>True) (fun r hr=>shp_mt (he r hr))
  exact⟨l,rfl⟩
theorem zT{n:Nat}{ds:List Dp}(h:Shp Ae n 34 ds):∃l:List GrT,ds=[.sl (l.map Ap)]:=by
 cases n with
 | zero=>exact h.elim
 | succ n =>
  simp only[Shp,Tryz.underlying34,wp] at h
  obtain⟨es,rfl,_,he⟩:=h
  obtain⟨l,rfl,_⟩:=lL (row:=Ap) (ok:=fun _=>True) (fun r hr=>shp_gr (he r hr))
  exact⟨l,rfl⟩
theorem zU{n:Nat}{ds:List Dp}(h:Shp Ae n 38 ds):∃l:List BuT,ds=[.sl (l.map Ai)]:=by
 cases n with
 | zero=>exact h.elim
 | succ n =>
  simp only[Shp,Tryz.underlying38,zN] at h
  obtain⟨es,rfl,_,he⟩:=h
  obtain⟨l,rfl,_⟩:=lL (row:=Ai) (ok:=fun _=>True) (fun r hr=>wX (he r hr))
  exact⟨l,rfl⟩
theorem wt{n:Nat}{ds:List Dp}(h:Shp Ae n 35 ds):∃l:List Int,ds=[.sl (l.map ab)]:=by
 cases n with
 | zero=>exact h.elim
 | succ n =>
  simp only[Shp,Tryz.underlying35,bytes3] at h
  obtain⟨es,rfl,_,he⟩:=h
  obtain⟨l,rfl,_⟩:=lL (row:=ab) (ok:=fun _=>True) (fun r hr=>by obtain⟨x,e,_⟩:=aB (he r hr);exact⟨x,e,trivial⟩)
  exact⟨l,rfl⟩
theorem zV{n:Nat}{ds:List Dp}(h:Shp Ae n 37 ds):∃s:SecT,ds=s.row:=by
 cases n with
 | zero=>exact h.elim
 | succ n =>
  simp only[Shp,Tryz.underlying37,BE,gy,cells4,zI,zJ,zK,uI] at h
  obtain⟨hl,h1,h2,h3,h4,h5,h6,h7,h8,h9,_⟩:=h
  obtain⟨x1,e1,_⟩:=aB h1
  obtain⟨x2,e2,_⟩:=aB h2
  obtain⟨x3,e3,_⟩:=aB h3
  obtain⟨x4,e4,_⟩:=aB h4
  obtain⟨x5,e5,_⟩:=aB h5
  obtain⟨x6,e6⟩:=zS h6
  obtain⟨x7,e7⟩:=zT h7
  obtain⟨x8,e8⟩:=wt h8
  obtain⟨x9,e9⟩:=wq h9
  match ds,hl with
  | [p1,p2,p3,p4,p5,p6,p7,p8,p9],_ =>
   simp at e1 e2 e3 e4 e5 e6 e7 e8 e9
   subst e1;subst e2;subst e3;subst e4;subst e5;subst e6;subst e7;subst e8;subst e9
   exact⟨⟨x1,x2,x3,x4,x5,x6,x7,x8,x9⟩,rfl⟩
theorem shp_rq{n:Nat}{ds:List Dp}(h:Shp Ae n 42 ds):∃r:RqT,ds=r.row:=by
 cases n with
 | zero=>exact h.elim
 | succ n =>
  simp only[Shp,Tryz.underlying42,BE,gy,zL,uJ,uK] at h
  obtain⟨hl,h1,h2,h3,h4,h5,h6,h7,h8,_⟩:=h
  obtain⟨x1,e1,_⟩:=aB h1
  obtain⟨x2,e2,_⟩:=aB h2
  obtain⟨x3,e3,_⟩:=aB h3
  obtain⟨x4,e4,_⟩:=aB h4
  obtain⟨x5,e5,_⟩:=aB h5
  obtain⟨x6,e6⟩:=zU h6
  obtain⟨⟨x7,x8⟩,e7,_⟩:=wX h7
  obtain⟨x9,e9,_⟩:=aB h8
  match ds,hl with
  | [p1,p2,p3,p4,p5,p6,p7,p8,p9],_ =>
   simp[Ai] at e1 e2 e3 e4 e5 e6 e7 e9
   obtain⟨e7,e8⟩:=e7
   subst e1;subst e2;subst e3;subst e4;subst e5;subst e6;subst e7;subst e8;subst e9
   exact⟨⟨x1,x2,x3,x4,x5,x6,x7,x8,x9⟩,rfl⟩
def EntT.val64(e:EntT):Prop:=e.val≤9223372036854775807
theorem be{α:Type}(n m:Nat)(l:List α):l.drop n=(l.drop n).take m++l.drop (n+m):=by
 rw[←D9,D1]
theorem zW{n:Nat}{ds:List Dp}(h:Shp Ae n 46 ds):∃e:EntT,ds=e.row∧e.val64:=by
 cases n with
 | zero=>exact h.elim
 | succ n =>
  simp only[Shp,Tryz.underlying46,BE,gy,cells9,uG,uH,uI,uK,uL,zM] at h
  obtain⟨hl,h1,h2,h3,h4,h5,h6,h7,h8,h9,h10,h11,_⟩:=h
  obtain⟨⟨a1,a2,a3⟩,e1,_⟩:=shp_st h1
  obtain⟨x2,e2,_⟩:=aB h2
  obtain⟨x3,e3,_⟩:=aB h3
  obtain⟨x4,e4,_⟩:=aB h4
  obtain⟨x5,e5,_⟩:=aB h5
  obtain⟨x6,e6,v6⟩:=aB h6
  obtain⟨b1,b2,e7⟩:=ws h7
  obtain⟨x8,e8⟩:=zQ h8
  obtain⟨x9,e9⟩:=zV h9
  obtain⟨x10,e10⟩:=shp_rq h10
  obtain⟨c1,c2,e11⟩:=zR h11
  have hd:ds=(ds.drop 0).take 3++((ds.drop 3).take 1++((ds.drop 4).take 1++((ds.drop 5).take 1++((ds.drop 6).take 1++((ds.drop 7).take 1++((ds.drop 8).take 2++((ds.drop 10).take 1++((ds.drop 11).take 9++((ds.drop 20).take 9++(ds.drop 29).take 2))))))))):=by
   have h29:ds.drop 29=(ds.drop 29).take 2:=by
    have:=be 29 2 ds
    rw[show ds.drop (29+2)=[] from Ea (by omega),Eh] at this
    exact this
   rw[←h29,←be 20 9,←be 11 9,←be 10 1,←be 8 2,←be 7 1,←be 6 1,←be 5 1,←be 4 1,←be 3 1,←be 0 3]
   rfl
  refine⟨⟨a1,a2,a3,x2,x3,x4,x5,x6,b1,b2,x8,x9,x10,c1,c2⟩,?_,v6.2⟩
  rw[hd,e1,e2,e3,e4,e5,e6,e7,e8,e9,e10,e11]
  rfl
theorem wu{n:Nat}{ds:List Dp}(h:Shp Ae n 22 ds):∃l:List EntT,ds=[.sl (l.map Ax)]∧aq l∧∀e∈l,e.val64:=by
 cases n with
 | zero=>exact h.elim
 | succ n =>
  simp only[Shp,EA,zO] at h
  obtain⟨es,rfl,hb,he⟩:=h
  obtain⟨l,rfl,hv⟩:=lL (row:=Ax) (ok:=EntT.val64) (fun r hr=>zW (he r hr))
  exact⟨l,rfl,by have:=wr hb (by omega);simpa[aq] using this,hv⟩
theorem re{H:Type}{enc:TypeId×Value→H}{W:World}{base:Nat}{v:Value}{d:DataW H}{p:List MemPlace}
  (hok:Value.okWide Ae W .any base 22 v) (h:DataW.Trod enc Ae W 0 (fun _=>true) true 22 v d p) (hw:(d.weights Ae 22).all (· ≤ reachBytes)=true) :
  ∃l:List EntT,(aq l∧∀e∈l,e.val64)∧Rel W (avs (fun _=>False) (fun _=>none) []) (fun _=>none) [] (aa (l.map Ax)) v:=by
 obtain⟨fuel,hf⟩:=h
 unfold Value.okWide at hok
 rw[EA] at hok
 have hc:v.cells.toList=[v]:=by
  cases v<;>first|rfl|skip
  unfold Cell.okWide at hok
  rw[EA] at hok
  exact hok.elim
 rw[hc] at hf
 obtain⟨ds,h1,h2⟩:=rU zP mz fuel 22 _ d p (by decide) hf hw
 obtain⟨l,rfl,hl⟩:=wu h1
 refine⟨l,hl,?_⟩
 simp only[RelPL,and_true] at h2
 simpa[aa,Rel] using h2
end Go.Vi
open Go Go.Proofs
namespace Go.Vi
set_option maxRecDepth 100000
set_option maxHeartbeats 4000000
theorem ke{a b:List EntT}(sa:aq a)(_va:∀e∈a,e.val64)(sb:aq b)(_vb:∀e∈b,e.val64)(h:List Blk):Ev Ae Γq 6 [aa (a.map Ax),aa (b.map Ax)] h (bool true) h :=
 kD sa sb h
open Go.ChangeShapes Go.WideShapes Go.ChangeAt Go.RowKit Go.Proofs.YtoincdhjcahadaaGreatDoor
set_option maxRecDepth 100000
theorem ownK:ownKnob Ae.godebug=none:=by kernel_rfl
theorem zX:laidOutB Ae=true:=by kernel_rfl
def kd(a b c d:Bool)(f g:Value):List Value:=[.bool a,.bool b,.bool c,.bool d,f,g]
def kf(k:Nat):Value:=.func (.func k) #[] #[]
def sq:List Value :=
 kd false false false false .nilFunc .nilFunc++kd false false false true (kf 384) (kf 385)++kd false false false true (kf 386) (kf 387)++kd false true false true (kf 388) (kf 389) ++
 kd false false false true (kf 390) (kf 391)++kd true true false false (kf 392) (kf 394)++kd true true false false (kf 396) (kf 397)++kd false true false false (kf 398) (kf 399) ++
 kd false true true false (kf 400) (kf 401)++kd true false false false (kf 393) (kf 402)
def rk4(a b:Int)(g k:Bool):List Value:=[.int .i64 a,.int .i64 b,.bool g,.bool k]
def rkCells:List Value:=rk4 0 0 false false++rk4 1 8 false true++rk4 0 0 true false++rk4 1 1 true false++rk4 1 1 false false++rk4 1 1 false false
def rf:Value:=.iface 157 (.agg #[.pointer (some ⟨3,111,none⟩)])
def zY(cs:List Value):Obj→Obj
 | .cells _ t frozen=>.cells cs.toArray t frozen
 | o=>o
noncomputable def kg(os:Os):World :=
 {World.holding Ae os ⟨#[],#[],[]⟩ with heap:=(((World.holding Ae os ⟨#[],#[],[]⟩).heap.modify 0 (zY rkCells)).modify 1 (zY [rf])).modify 2 (zY sq)}
abbrev laid3:List (String×DataW Unit):=[("errors.errorType",E9),("sizar/requests.kinds",Dd),("sizar/rules.kinds",Rows.laid_sizar_rules_kinds)]
theorem laid_met(os:Os)(args:Array Value):laidMetH Ae laid3 ((kg os).forCall (fun _ _=>0) ⟨#[],args,[]⟩).memory :=
 laidMetH_of_parts3 (fuel:=8) (laidMet_of_run' 8 (by kernel_rfl) (by kernel_rfl)) (by kernel_rfl) (by kernel_rfl)
end Go.Vi
open Go Go.Proofs
namespace Go.Vi
set_option maxHeartbeats 4000000
open Go.ChangeShapes Go.WideShapes Go.ChangeAt Go.RowKit Go.Proofs.YtoincdhjcahadaaGreatDoor
set_option maxRecDepth 100000
def kh(P:Program):List Field→Nat→Nat→Bool
 | [],acc,n=>acc==n
 | f::fs,acc,n=>f.offset==acc&&kh P fs (acc+P.cellsOf f.type) n
def wv(g:TypeId→DataW Unit→Option (List Value)):List TypeId→List (DataW Unit)→Option (List Value)
 | [],[]=>some []
 | t::ts,d::ds=>(g t d).bind fun a=>(wv g ts ds).map fun b=>a++b
 | _,_=>none
def lM(P:Program):Nat→TypeId→DataW Unit→Option (List Value)
 | 0,_,_=>none
 | n+1,t,d=>match P.underlying t with
  | some .bool=>match d with
   | .lit (.bool b)=>some [.bool b]
   | _=>none
  | some (.int k)=>match d with
   | .lit (.int _ x)=>some [.int k x]
   | _=>none
  | some (.struct fs)=>match d with
   | .agg ds=>if kh P fs.toList 0 (P.cellsOf t) then wv (fun f d=>lM P n f d) (fs.toList.map (·.type)) ds else none
   | _=>none
  | some (.array m e)=>match d with
   | .agg ds=>if Qd (P.cellsOf t=m*P.cellsOf e)=true then wv (fun f d=>lM P n f d) (Bn m e) ds else none
   | _=>none
  | _=>none
theorem oM{P:Program}{g:TypeId→DataW Unit→Option (List Value)}{tr:TypeId→List Value→Option (DataW Unit×List MemPlace)}{cs:List Value}
  (hg:∀t d ys,g t d=some ys→∀c p,tr t c=some (d,p)→c=ys):∀(fs:List Field) (acc:Nat) (xs:List (DataW Unit×List MemPlace)) (ys:List Value),
  (fs.mapM fun f=>tr f.type ((cs.drop f.offset).take (P.cellsOf f.type)))=some xs→kh P fs acc cs.length=true→wv g (fs.map (·.type)) (xs.map (·.1))=some ys→cs.drop acc=ys
 | [],acc,xs,ys,hm,hc,hz=>by
  simp at hm
  subst hm
  simp[wv] at hz
  subst hz
  simp[kh] at hc
  simp[hc]
 | f::fs,acc,xs,ys,hm,hc,hz=>by
  simp only[FD,FL,CT,Option.pure_def,Af] at hm
  obtain⟨x,hx,xs',hxs,rfl⟩:=hm
  simp only[kh,Am,beq_iff_eq] at hc
  simp only[Cp,wv,CT,Aq] at hz
  obtain⟨a,ha,b,hb,rfl⟩:=hz
  have h1:=hg _ _ _ ha _ x.2 (by rw[hx])
  have h2:=oM hg fs _ xs' b hxs hc.2 hb
  rw[←h1,←h2,hc.1,←D9,D1]
theorem rg{e:TypeId}{c:Nat}{g:TypeId→DataW Unit→Option (List Value)}{tr:TypeId→List Value→Option (DataW Unit×List MemPlace)}{cs:List Value}
  (hg:∀t d ys,g t d=some ys→∀c p,tr t c=some (d,p)→c=ys):∀(n k:Nat) (xs:List (DataW Unit×List MemPlace)) (ys:List Value),
  ((List.range' k n).mapM fun i=>tr e ((cs.drop (i*c)).take c))=some xs→cs.length=(k+n)*c→wv g (Bn n e) (xs.map (·.1))=some ys→cs.drop (k*c)=ys
 | 0,k,xs,ys,hm,hc,hz=>by
  simp at hm
  subst hm
  simp[wv] at hz
  subst hz
  exact Ea (by rw[hc];simp)
 | n+1,k,xs,ys,hm,hc,hz=>by
  rw[List.range'_succ] at hm
  simp only[FD,FL,CT,Option.pure_def,Af] at hm
  obtain⟨x,hx,xs',hxs,rfl⟩:=hm
  rw[List.replicate_succ] at hz
  simp only[Cp,wv,CT,Aq] at hz
  obtain⟨a,ha,b,hb,rfl⟩:=hz
  have h1:=hg _ _ _ ha _ x.2 (by rw[hx])
  have h2:=rg hg n (k+1) xs' b hxs (by rw[hc];congr 1;omega) hb
  rw[←h1,←h2,Nat.add_mul,Nat.one_mul,←D9,D1]
theorem kj{P:Program}{w:World}{sp:Nat→Bool}:∀(n:Nat) (t:TypeId) (d:DataW Unit) (ys:List Value),lM P n t d=some ys→∀(fuel:Nat) (cs:List Value) (p:List MemPlace),DI (fun _=>()) P w 0 sp false fuel t cs=some (d,p)→cs=ys
 | 0,_,_,_,h=>by simp[lM] at h
 | n+1,t,d,ys,h=>by
  intro fuel cs p ht
  cases fuel with
  | zero=>simp[DI] at ht
  | succ fuel =>
   unfold lM at h
   unfold DI at ht
   cases hu:P.underlying t with
   | none=>rw[hu] at h;simp at h
   | some td =>
    rw[hu] at h ht
    cases td with
    | bool =>
     simp only at h ht
     split at h
     ·split at ht<;>simp_all
     ·simp at h
    | int k =>
     simp only at h ht
     split at h
     ·split at ht
      all_goals (first|(simp_all;done)|(split at ht<;>simp_all))
     ·simp at h
    | struct fs =>
     simp only at h ht
     split at h
     ·split at h
      ·rename_i hc
       split at ht
       ·rename_i hl
        obtain⟨xs,hxs,he⟩:=Aq.1 ht
        simp only[Aj,FU] at he
        obtain⟨rfl,_⟩:=he
        have:=oM (tr:=fun t c=>DI (fun _=>()) P w 0 sp false fuel t c) (fun t d ys hg c p hp=>kj n t d ys hg fuel c p hp) fs.toList 0 xs ys hxs (by rw[hl];exact hc) h
        simpa using this
       ·simp at ht
      ·simp at h
     ·simp at h
    | array m e =>
     simp only at h ht
     split at h
     ·split at ht
      ·rename_i hl
       obtain⟨xs,hxs,he⟩:=Aq.1 ht
       simp only[Aj,FU] at he
       obtain⟨rfl,_⟩:=he
       split at h
       ·rename_i hc
        rw[List.range_eq_range'] at hxs
        have:=rg (tr:=fun t c=>DI (fun _=>()) P w 0 sp false fuel t c) (fun t d ys hg c p hp=>kj n t d ys hg fuel c p hp) m 0 xs ys hxs (by rw[hl,Nat.zero_add];exact of_decide_eq_true hc) h
        simpa using this
       ·simp at h
      ·simp at ht
     ·simp at h
    | _=>simp at h
theorem rj:Ae.globalNamed "sizar/requests.kinds" = some 0:=by kernel_rfl
noncomputable def rkT:TypeId:=((Ae.globals[0]?).map (·.type)).getD 0
theorem zZ:(Ae.globals[0]?).map (·.type)=some rkT:=by kernel_rfl
theorem uM:lM Ae 4 rkT Dd=some rkCells:=by kernel_rfl
theorem z1 {W:World} (h:laidMetH Ae laid3 W):laidMet Ae [("sizar/requests.kinds",Dd)] W:=(laidMetH_iff.1 h).1
theorem ww {W:World} (h:laidMetH Ae laid3 W):∃cs:Array Value,W.var? Ae "sizar/requests.kinds" = some cs∧cs.toList=rkCells:=by
 obtain⟨ps,hl,_,_⟩:=z1 h
 obtain⟨g,t,cs,fuel,p,q,h1,h2,h3,h4,_⟩:=hl
 rw[rj] at h1
 cases h1
 rw[zZ] at h2
 cases h2
 exact⟨cs,h3,kj 4 _ _ _ uM fuel _ _ h4⟩
theorem wx:Ae.globalNamed "errors.errorType" = some 1:=by kernel_rfl
theorem et_rt:(Ae.cutTypes.find? (·.1 == "internal/reflectlite.rtype")).map (·.2)=some 157:=by kernel_rfl
noncomputable def etN:Nat:=Ae.types.size
theorem et_row:((List.range etN).filter fun t=>Ae.rowNamed t [101,114,114,111,114])=[111]:=by kernel_rfl
theorem z2{W:World}(h:laidMetH Ae laid3 W):W.cell? ⟨1,0,none⟩=some rf:=by
 have h2:handlesMet Ae (laid3.filter fun x=>x.2.handleName?.isSome) W:=(laidMetH_iff.1 h).2
 obtain⟨name,u,ty,e1,e2,e3,e4,e5⟩:=h2 ("errors.errorType",E9) (CE.2 ⟨by simp,rfl⟩)
 have en:name=[101,114,114,111,114]:=(C0 e1).symm
 subst en
 obtain rfl:=C0 (et_rt.symm.trans e2)
 have hm:ty∈(List.range etN).filter fun t=>Ae.rowNamed t [101,114,114,111,114]:=CE.2 ⟨List.mem_range.2 e3,e4⟩
 rw[et_row] at hm
 obtain rfl:=List.mem_singleton.1 hm
 have hh:typeHandle Ae 111=.pointer (some ⟨3,111,none⟩):=by kernel_rfl
 rw[hh] at e5
 show W.cell? ⟨1,0,none⟩=some (.iface 157 (.agg #[.pointer (some ⟨3,111,none⟩)]))
 simpa using World.var?_cell wx e5 0
theorem lO{w:World}{av:Nat→Prop}{blk:Nat}{cs:Array Value}(hb:∀off,w.cell? ⟨blk,off,none⟩=cs[off]?)(hav:∀k,¬av k):∀(ys:List Value) (off:Nat),cs.toList.drop off=ys→RelCells w av blk off (ys.map .v)
 | [],_,_=>by simp[RelCells]
 | y::ys,off,h=>by
  have h1:cs[off]? = some y:=by
   have:=congrArg List.head? h
   rw[List.head?_drop] at this
   simpa using this
  have h2:cs.toList.drop (off+1)=ys:=by
   rw[←D9,h];rfl
  simp only[Cp,RelCells]
  exact⟨⟨hav blk,y,by rw[hb,h1],by simp[RelP]⟩,lO hb hav ys (off+1) h2⟩
theorem rkD_eq:t7=rkCells.map .v:=rfl
theorem uN{W:World}(h:laidMetH Ae laid3 W):∀g cs,Γq g=some cs→RelCells W (avs (fun _=>False) (fun _=>none) []) g 0 cs:=by
 intro g cs hg
 unfold Γq at hg
 split at hg
 ·have:=C0 hg
  subst this
  obtain⟨xs,h1,h2⟩:=ww h
  rw[rkD_eq]
  exact lO (cs:=xs) (fun off=>World.var?_cell rj h1 off) mz _ 0 (by rw[List.drop_zero,h2])
 ·have:=C0 hg
  subst this
  simp only[RelCells]
  exact⟨⟨mz _,rf,z2 h,by simp[RelP,rf]⟩,trivial⟩
 ·cases hg
end Go.Vi
