/- LedgerTimes: part of the proof: contracts of the functions that the law reaches, and the law. No conditions beyond the given statement's own. -/
import Derived.Test.YtoincdhjcahadaaGreatDoorW7
open Decidable renaming decide → Qd
open Bool renaming false_and → Ee, and_false → Db, or_eq_true → Cb, and_eq_true → Ap, or_eq_false_iff → Cw, false_eq_true → Bc
open Classical renaming not_not → FA
open List renaming getD → Cp, mem_append → A9, all_eq_true → AP, length_map → CE, pairwise_cons → Bu, mem_cons → A1, length_cons → Bq, length_nil → BG, mem_of_getElem? → Bh, getElem?_eq_some_iff → Ar, length_eq_zero_iff → Fq, map → Ag, length → Ah, all → C4, take → BR, drop → BS, length_filter_le → CF, mem_filter → Ch, filter_sublist → En
open Go.Vi.EntT renaming row → AB
open Go.Proofs.Tryz renaming prog → Ai, f17 → B2, f19 → Fc, f22 → EG
open Go.Vi.Ev renaming frame0 → FO, castH → AE, sym0 → AI, glob0 → AO
open Go.Vi.MeT renaming row → Av
open Go.Vi.GrT renaming row → Au
open Go.Vi.BuT renaming row → Ak
open Go.IntKind renaming i64 → An, wrap → Aw, u16 → CV
open Go.Vi.CW renaming cast → AX, symX → AY
open Go.Exit renaming normal → A6, exit → A5
open Go.Vi.Dp renaming sl → AC, v → AQ
open Go.Value renaming bool → AK, int → CJ
open Go.Vi.D renaming tup → AL, agg → Ao, grd → A4, any → Cd
open Int renaming toNat → AJ
open Option renaming isSome → DV, map → Ez
open Go.Operand renaming tmp → Aq
open Go Go.Proofs
namespace Go.Vi
set_option maxRecDepth 100000
set_option maxHeartbeats 4000000
def eH(a b:StT):Prop:=a.time<b.time∨(a.time=b.time∧(a.campus<b.campus∨(a.campus=b.campus∧a.no<b.no)))
theorem cmp8_cases(a b:Int):(a<b∧eB a b = -1)∨(a=b∧eB a b=0)∨(b<a∧eB a b=1):=by
 unfold eB
 rcases Int.lt_trichotomy a b with h|h|h
 ·left;rw[decide_eq_true h];exact⟨h,rfl⟩
 ·right;left;subst h;simp
 ·right;right
  have h1:Qd (a<b)=false:=by simp;omega
  have h2:Qd (a>b)=true:=by simp;omega
  rw[h1,h2];exact⟨h,rfl⟩
theorem stCmp8_cases(a b:StT):(eH a b∧ff a b = -1)∨(¬eH a b∧¬eH b a∧ff a b=0)∨(eH b a∧ff a b=1):=by
 unfold ff eH
 rcases cmp8_cases a.time b.time with ⟨h1,e1⟩|⟨h1,e1⟩|⟨h1,e1⟩<;>rw[e1]
 ·left;exact⟨.inl h1,rfl⟩
 ·rcases cmp8_cases a.campus b.campus with ⟨h2,e2⟩|⟨h2,e2⟩|⟨h2,e2⟩<;>rw[e2]
  ·left;exact⟨.inr ⟨h1,.inl h2⟩,rfl⟩
  ·rcases cmp8_cases a.no b.no with ⟨h3,e3⟩|⟨h3,e3⟩|⟨h3,e3⟩<;>rw[e3]
   ·left;exact⟨.inr ⟨h1,.inr ⟨h2,h3⟩⟩,rfl⟩
   ·right;left;exact⟨by omega,by omega,rfl⟩
   ·right;right;exact⟨by omega,rfl⟩
  ·right;right;exact⟨by omega,rfl⟩
 ·right;right;exact⟨.inl h1,rfl⟩
theorem jc(a b:StT):a7 a b=ff a b:=by
 unfold a7 ja ff gt
 rcases cmp8_cases a.time b.time with ⟨h1,e1⟩|⟨h1,e1⟩|⟨h1,e1⟩<;>rw[e1]
 ·have:(a.time==b.time)=false:=by simp;omega
  rw[this];rfl
 ·rcases cmp8_cases a.campus b.campus with ⟨h2,e2⟩|⟨h2,e2⟩|⟨h2,e2⟩<;>rw[e2]
  ·have:(a.campus==b.campus)=false:=by simp;omega
   rw[this,Ee,Db];rfl
  ·rcases cmp8_cases a.no b.no with ⟨h3,e3⟩|⟨h3,e3⟩|⟨h3,e3⟩<;>rw[e3]
   ·have:(a.no==b.no)=false:=by simp;omega
    rw[this,Ee,Db,Db];rfl
   ·rw[h1,h2,h3];simp
   ·have:(a.no==b.no)=false:=by simp;omega
    rw[this,Ee,Db,Db];rfl
  ·have:(a.campus==b.campus)=false:=by simp;omega
   rw[this,Ee,Db];rfl
 ·have:(a.time==b.time)=false:=by simp;omega
  rw[this];rfl
theorem rg(a b:StT):ff a b≥0 ↔ ¬eH a b:=by
 rcases stCmp8_cases a b with ⟨h,e⟩|⟨h,_,e⟩|⟨h,e⟩<;>rw[e]
 ·exact⟨fun h=>by omega,fun h2=>absurd h h2⟩
 ·exact⟨fun _=>h,fun _=>by omega⟩
 ·refine⟨fun _ h2=>?_,fun _=>by omega⟩
  unfold eH at h h2
  omega
abbrev z0:StT:=⟨0,0,0⟩
structure FitI (pre:List EntT) (s:List StT×Option StT):Prop where
 n:s.1.length=7
 c:∀c:Nat,c<7→(s.1.getD c z0=z0∧∀y∈pre,y.campus ≠ c)∨∃x∈pre,s.1.getD c z0=x.st∧x.campus=c∧∀y∈pre,y.campus=c→y.time≤x.time∧y.no≤x.no
 p:(s.2=none∧pre=[])∨∃x∈pre,s.2=some x.st∧∀y∈pre,¬eH x.st y.st
 v:∀y∈pre,1≤y.no
def pH(s:StT)(o:Option StT):Bool:=match o with
 | none=>false
 | some p=>Qd (a7 p s≥0)
theorem wj{pre:List EntT}{s:List StT×Option StT}(I:FitI pre s)(e:EntT)(h0:0≤e.campus)(h7:e.campus<7):
  (pH e.st s.2||fiB (s.1.getD e.st.campus.toNat z0) e.st)=pre.any (fun x=>kI x.st e.st):=by
 have hc:((e.st.campus.toNat:Nat):Int)=e.campus:=by show((e.campus.toNat:Nat):Int)=_;omega
 have hlt:e.st.campus.toNat<7:=by omega
 rw[Bool.eq_iff_iff,Cb,List.any_eq_true]
 constructor
 ·rintro (h|h)
  ·rcases I.p with ⟨h1,_⟩|⟨x,hx,h1,_⟩
   ·rw[h1] at h;cases h
   ·rw[h1] at h
    refine⟨x,hx,?_⟩
    unfold kI
    have:Qd (ff x.st e.st≥0)=true:=by rw[←jc];exact h
    rw[this];rfl
  ·rcases I.c _ hlt with ⟨h1,_⟩|⟨x,hx,h1,h2,_⟩
   ·rw[h1] at h;cases h
   ·rw[h1] at h
    refine⟨x,hx,?_⟩
    unfold kI
    have hcc:(x.st.campus==e.st.campus)=true:=by
     show(x.campus==e.campus)=true
     rw[h2,hc];simp
    unfold fiB at h
    rw[Ap] at h
    rw[hcc,h.2];simp
 ·rintro⟨y,hy,h⟩
  unfold kI at h
  rw[Cb] at h
  rcases h with h|h
  ·left
   rcases I.p with ⟨_,h1⟩|⟨x,hx,h1,h2⟩
   ·rw[h1] at hy;cases hy
   ·rw[h1]
    show Qd (a7 x.st e.st≥0)=true
    rw[jc]
    have ha:=(rg y.st e.st).1 (by simpa using h)
    have hb:=h2 y hy
    simp only[decide_eq_true_eq]
    rw[rg]
    unfold eH at *
    omega
  ·right
   rw[Ap] at h
   have hcc:y.campus=((e.st.campus.toNat:Nat):Int):=by rw[hc];exact eq_of_beq h.1
   rcases I.c _ hlt with ⟨_,h1⟩|⟨x,hx,h1,h2,h3⟩
   ·exact absurd hcc (h1 y hy)
   ·rw[h1]
    have ⟨ht,hn⟩:=h3 y hy hcc
    have hv:=I.v x hx
    have hor:=h.2
    rw[Cb] at hor
    simp only[decide_eq_true_eq] at hor
    unfold fiB
    rw[Ap,Cb]
    simp only[decide_eq_true_eq]
    refine⟨?_,?_⟩
    ·show x.no>0
     omega
    ·rcases hor with ho|ho
     ·left
      show x.time≥e.st.time
      have:y.st.time=y.time:=rfl
      omega
     ·right
      show x.no≥e.st.no
      have:y.st.no=y.no:=rfl
      omega
theorem wl{pre:List EntT}{s:List StT×Option StT}(I:FitI pre s)(e:EntT)(h0:0≤e.campus)(h7:e.campus<7)(hn:1≤e.no)(hb:pre.any (fun x=>kI x.st e.st)=false):
  FitI (pre++[e]) (s.1.set e.st.campus.toNat e.st,some e.st):=by
 have hc:((e.st.campus.toNat:Nat):Int)=e.campus:=by show((e.campus.toNat:Nat):Int)=_;omega
 have hlt:e.st.campus.toNat<7:=by omega
 rw[List.any_eq_false] at hb
 have hall:∀y∈pre,eH y.st e.st∧(y.campus=e.campus→y.time<e.time∧y.no<e.no):=by
  intro y hy
  have:=hb y hy
  unfold kI at this
  simp only[Cb,Ap,decide_eq_true_eq,beq_iff_eq,not_or,not_and] at this
  have h1:=(not_congr (rg y.st e.st)).1 this.1
  refine⟨FA.1 h1,fun hcc=>?_⟩
  have h2:=this.2 hcc
  have e1:y.st.time=y.time:=rfl
  have e2:e.st.time=e.time:=rfl
  have e3:y.st.no=y.no:=rfl
  have e4:e.st.no=e.no:=rfl
  omega
 refine⟨by simp[I.n],?_,?_,?_⟩
 ·intro c hc7
  by_cases hce:c=e.st.campus.toNat
  ·subst hce
   right
   refine⟨e,by simp,?_,hc.symm,?_⟩
   ·rw[Cp,List.getElem?_set_self (by rw[I.n];exact hlt)];rfl
   ·intro y hy hyc
    rw[A9] at hy
    rcases hy with hy|hy
    ·have:=(hall y hy).2 (by rw[hyc,hc]);omega
    ·simp at hy;subst hy;exact⟨Int.le_refl _,Int.le_refl _⟩
  ·have hg:(s.1.set e.st.campus.toNat e.st).getD c z0=s.1.getD c z0:=by
    rw[Cp,Cp,List.getElem?_set_ne (fun h=>hce h.symm)]
   simp only[hg]
   have hne:e.campus ≠ (c:Int):=by omega
   rcases I.c c hc7 with ⟨h1,h2⟩|⟨x,hx,h1,h2,h3⟩
   ·left
    refine⟨h1,fun y hy=>?_⟩
    rw[A9] at hy
    rcases hy with hy|hy
    ·exact h2 y hy
    ·simp at hy;subst hy;exact hne
   ·right
    refine⟨x,by simp[hx],h1,h2,fun y hy hyc=>?_⟩
    rw[A9] at hy
    rcases hy with hy|hy
    ·exact h3 y hy hyc
    ·simp at hy;subst hy;exact absurd hyc hne
 ·right
  refine⟨e,by simp,rfl,fun y hy=>?_⟩
  rw[A9] at hy
  rcases hy with hy|hy
  ·have:=(hall y hy).1
   unfold eH at *
   omega
  ·simp at hy;subst hy;unfold eH;omega
 ·intro y hy
  rw[A9] at hy
  rcases hy with hy|hy
  ·exact I.v y hy
  ·simp at hy;subst hy;exact hn
theorem w5:∀(l pre:List EntT) (s:List StT×Option StT),FitI pre s→(∀e∈l,(0≤e.campus∧e.campus<7)∧1≤e.no)→(match forL (fun e:EntT=>fiF e.st) l s with | .inl _=>true | .inr _=>false) = !oK pre l
 | [],_,_,_,_=>rfl
 | e::l,pre,s,I,hv=>by
  have ⟨⟨h0,h7⟩,hn⟩:=hv e (by simp)
  have hc:=wj I e h0 h7
  unfold forL
  have hF:fiF e.st s=match pH e.st s.2||fiB (s.1.getD e.st.campus.toNat z0) e.st with|true=>.inr s.1|false=>.inl (s.1.set e.st.campus.toNat e.st,some e.st):=by
   unfold fiF pH
   cases s.2<;>rfl
  simp only[hF,hc,oK]
  cases hb:pre.any (fun x=>kI x.st e.st) with
  | true=>rfl
  | false=>exact w5 l (pre++[e]) _ (wl I e h0 h7 hn hb) (fun x hx=>hv x (by simp[hx]))
theorem zA:∀c:Nat,c<7→z7.getD c z0=z0:=by
 intro c hc
 have:c=0∨c=1∨c=2∨c=3∨c=4∨c=5∨c=6:=by omega
 rcases this with h|h|h|h|h|h|h<;>subst h<;>rfl
theorem fit_eq{l:List EntT}(hv:∀e∈l,(0≤e.campus∧e.campus<7)∧1≤e.no):sm l = !oK [] l :=
 w5 l [] (z7,none) ⟨rfl,fun c hc=>.inl ⟨zA c hc,fun y hy=>by cases hy⟩,.inl ⟨rfl,rfl⟩,fun y hy=>by cases hy⟩ hv
theorem few_ok{l:List EntT}(h:zz l=true):∀e∈l,e.ok:=by
 intro e he
 unfold zz at h
 rw[Ap,AP] at h
 have:=h.1 e he
 simp only[uB,Ap,decide_eq_true_eq,CE] at this
 exact⟨by unfold ao;omega,by unfold ao;omega,by unfold ao;omega,by unfold ao;omega⟩
def FtOk(a b:EntT):Prop:=eH a.st b.st∧(a.campus=b.campus→a.time<b.time∧a.no<b.no)
theorem oL(a b:EntT):kI a.st b.st=false ↔ FtOk a b:=by
 have e1:a.st.time=a.time:=rfl
 have e2:b.st.time=b.time:=rfl
 have e3:a.st.no=a.no:=rfl
 have e4:b.st.no=b.no:=rfl
 have e5:a.st.campus=a.campus:=rfl
 have e6:b.st.campus=b.campus:=rfl
 unfold kI FtOk
 rw[Cw,e1,e2,e3,e4,e5,e6]
 have h1:Qd (ff a.st b.st≥0)=false ↔ eH a.st b.st:=by
  rw[decide_eq_false_iff_not,rg,FA]
 rw[h1]
 refine and_congr_right fun _=>?_
 by_cases hc:a.campus=b.campus
 ·simp[hc]
 ·simp[hc]
def Fits(l:List EntT):Prop:=l.Pairwise FtOk
theorem oM:∀(l pre:List EntT),oK pre l=false ↔ (∀x∈pre,∀e∈l,FtOk x e)∧Fits l
 | [],pre=>by simp[oK,Fits]
 | e::l,pre=>by
  unfold oK
  rw[Cw,oM l,List.any_eq_false]
  unfold Fits
  rw[Bu]
  constructor
  ·rintro⟨h1,h2,h3⟩
   refine⟨fun x hx y hy=>?_,fun y hy=>h2 e (by simp) y hy,h3⟩
   rcases A1.1 hy with rfl|hy
   ·exact(oL x y).1 (by simpa using h1 x hx)
   ·exact h2 x (by simp[hx]) y hy
  ·rintro⟨h1,h2,h3⟩
   refine⟨fun x hx=>by simpa using(oL x e).2 (h1 x hx e (by simp)),fun x hx y hy=>?_,h3⟩
   rcases A9.1 hx with hx|hx
   ·exact h1 x hx y (by simp[hy])
   ·simp at hx;subst hx;exact h2 y hy
structure Led (l:List EntT):Prop where
 len:l.length≤65536
 e:∀x∈l,aP x=0
 f:Fits l
theorem kj{e:EntT}(h:aP e=0):(1≤e.time∧e.time≤1048576)∧(0≤e.campus∧e.campus<7)∧(1≤e.no∧e.no≤1048576):=qX (gu h)
theorem jd{l:List EntT}(h:∀e∈l,aP e=0):sm l=true ↔ Fits l:=by
 rw[fit_eq fun e he=>⟨(kj (h e he)).2.1,(kj (h e he)).2.2.1⟩]
 have:=oM l []
 cases hu:oK [] l with
 | true =>
  rw[hu] at this
  refine⟨fun h=>(by cases h),fun h=>?_⟩
  have:=this.2 ⟨by simp,h⟩
  cases this
 | false=>rw[hu] at this;exact⟨fun _=>(this.1 rfl).2,fun _=>rfl⟩
theorem w6:∀{l:List EntT},(∀e∈l,aP e=0)→forL lcF l ()=.inl ()
 | [],_=>rfl
 | e::l,h=>by
  have h1:lcF e ()=.inl ():=by unfold lcF;rw[h e (by simp)];rfl
  unfold forL
  rw[h1]
  exact w6 fun x hx=>h x (by simp[hx])
theorem mY{l:List EntT}:dZ l=0 ↔ Led l:=by
 unfold dZ
 constructor
 ·intro h
  cases hb:Qd (((l.map AB).length:Int)>65536) with
  | true=>rw[hb] at h;cases h
  | false =>
   rw[hb] at h
   simp only at h
   cases hf:forL lcF l () with
   | inr r =>
    rw[hf] at h
    simp only at h
    exfalso
    have:∀(l:List EntT),forL lcF l ()=.inr r→r ≠ 0:=by
     intro l
     induction l with
     | nil=>intro h;cases h
     | cons x l ih =>
      intro h2
      unfold forL at h2
      cases hb2:aP x != 0 with
      | true =>
       simp only[lcF,hb2] at h2
       cases h2
       simpa using hb2
      | false=>simp only[lcF,hb2] at h2;exact ih h2
    exact this l hf h
   | inl u =>
    rw[hf] at h
    simp only at h
    have he:=pC ⟨u,hf⟩
    refine⟨by simp at hb;omega,he,(jd he).1 ?_⟩
    cases hfb:sm l with
    | true=>rfl
    | false=>rw[hfb] at h;cases h
 ·intro h
  have hb:Qd (((l.map AB).length:Int)>65536)=false:=by have:=h.len;simp;omega
  rw[hb,w6 h.e,(jd h.e).2 h.f]
  rfl
theorem lO{a b:StT}(h:eH a b):¬eH b a:=by unfold eH at *;omega
theorem wm{a b:StT}(h:eH a b):Qd (a7 a b<0)=true:=by
 rw[jc]
 rcases stCmp8_cases a b with ⟨_,e⟩|⟨h1,_⟩|⟨h1,_⟩
 ·rw[e];rfl
 ·exact absurd h h1
 ·exact absurd h1 (lO h)
theorem stEq_iff{a b:StT}:ja a b=true ↔ a=b:=by
 cases a;cases b
 simp[ja]
def sA(l:List EntT)(n:EntT):List EntT×Int×Int:=match dZ l != 0 with
 | true=>([],0,dZ l)
 | false=>match aP n != 0 with
  | true=>([],0,aP n)
  | false=>match joR l [n] with
   | none=>([],0,390)
   | some y=>(y,idxR n y,0)
theorem uF{e:Int}(h:(e != 0)=true):(e==0)=false:=by simpa using h
theorem rj{L:List (List Dp)}{n:EntT}{e:Exit}{s':AS}{d:D}(hrest:CW Ai Γq (puH n 0) false (cR (cR (aw B2))) {t:=puT L,h:=puH n 0,m:=[]} e s')(hend:fc Ai B2 (em Ai Γq noW 100) 0 e s' (some (30,[.ref (.ptr 1 0)]))=some (.ret d [])):Ev Ai Γq 17 [rowsD' L,ag n.row] [] d [] :=
 (VRes.of_top (f:=17) (args:=[rowsD' L,ag n.row]) (dfn:=em Ai Γq noW 100) (h:=[]) (r:=.ret d []) (fn:=B2) (c:=aw B2) pok rfl rfl dfn_ok (zj hrest) hend).call
theorem put_ok{l y:List EntT}{n:EntT}(hck:∀h,Ev Ai Γq 12 [rowsD' (l.map AB)] h (int 0) h)(hen:∀h,Ev Ai Γq 25 [ag n.row] h (int 0) h)(J:JoOk l [n])(hy:joR l [n]=some y)(hly:ao y):Ev Ai Γq 17 [rowsD' (l.map AB),ag n.row] [] (.tup [rowsD' (y.map AB),int (idxR n y),int 0]) []:=by
 have hjo:Ev Ai Γ0 33 [rowsD' (l.map AB),.ref (.vec 0 0)] [.vec [n.row.map .p] 0 31] (rowsD' (y.map AB)) [.gone] :=
  Ev.pre [.st (.frz 0 [n.row])] (h1:=[.gone]) (args2:=[rowsD' (l.map AB),rowsD' ([n].map AB)]) rfl ⟨rfl,trivial⟩ (joX_ok J hy [.gone])
 exact rj (pu_ok hck hen hjo (idx_ev hly)) zk
theorem zB{l:List EntT}{n:EntT}(hl:dZ l=0)(hn:aP n=0)(hs:l.length≤50000)(ol:∀e∈l,e.ok)(on:n.ok):JoOk l [n] :=
 ⟨by simp only[Bq,BG];omega,ol,by simpa using on,fun e he=>(kj ((mY.1 hl).e e he)).2.1,by simpa using(kj hn).2.1⟩
theorem pI{a b y:List EntT}(h:joR a b=some y):y.length≤a.length+b.length:=by
 unfold joR at h
 cases hg:joG (a.length+b.length) a b [] with
 | none=>rw[hg] at h;cases h
 | some z =>
  rw[hg] at h
  simp only at h
  cases hf:sm z with
  | false=>rw[hf] at h;cases h
  | true =>
   rw[hf] at h
   cases h
   have:=(fG _ _ _ _ _ hg).2
   simp only[BG] at this
   omega
theorem zC{l:List EntT}{n:EntT}(hs:l.length≤50000)(ol:∀e∈l,e.ok)(on:n.ok)(h:List Blk):Ev Ai Γq 17 [rowsD' (l.map AB),ag n.row] h (.tup [rowsD' ((sA l n).1.map AB),int (sA l n).2.1,int (sA l n).2.2]) h:=by
 have hck:=fun h=>qY (l:=l) (show l.length≤_ by omega) ol h
 have hen:=fun h=>oG on h
 unfold sA
 cases h1:dZ l != 0 with
 | true =>
  have e1:=Ev.nilW (rj (p2_pan (n:=n) (uF h1) hck) zr)
  exact FO rfl e1 h
 | false =>
  have h10:dZ l=0:=by simpa using h1
  rw[h10] at hck
  cases h2:aP n != 0 with
  | true =>
   have hr:CW Ai Γq (puH n 0) false (cR (cR (aw B2))) {t:=puT (l.map AB),h:=puH n 0,m:=[]} (.panic (dmC (aP n))) {t:=p3T (l.map AB) n (aP n),h:=puH n 0,m:=[]}:=by
    show CW _ _ _ _ p2C _ _ _
    rw[pG]
    exact CW.seq (p2_ok hck) (p3_pan (uF h2) hen)
   have e1:=Ev.nilW (rj hr zt)
   exact FO rfl e1 h
  | false =>
   have h20:aP n=0:=by simpa using h2
   rw[h20] at hen
   have J:=zB h10 h20 hs ol on
   simp only
   cases h3:joR l [n] with
   | none =>
    have hr:CW Ai Γq (puH n 0) false (cR (cR (aw B2))) {t:=puT (l.map AB),h:=puH n 0,m:=[]} (.panic (dmC 390)) {t:=p4T (l.map AB) n,h:=p4H n,m:=[]}:=by
     show CW _ _ _ _ p2C _ _ _
     rw[pG]
     refine CW.seq (p2_ok hck) ?_
     rw[uz]
     exact CW.seq (p3_ok hen) (p4_pan (zp J h3))
    have e1:=Ev.nilW (rj hr zu)
    exact FO rfl e1 h
   | some y =>
    have:=pI h3
    simp only[Bq,BG] at this
    exact FO rfl (put_ok hck hen J h3 (show y.length≤_ by omega)) h
theorem zipEq{α:Type}{ne:α→α→Bool}(hne:∀a b,ne a b=false ↔ a=b){F:α×α→Unit→Unit⊕Unit}(hF:∀p u,F p u=bif ne p.1 p.2 then .inr () else .inl ()):∀(xs ys:List α),xs.length=ys.length→((match forL F (xs.zip ys) () with | .inl _=>true | .inr _=>false)=true ↔ xs=ys)
 | [],[],_=>by simp[forL]
 | [],_::_,h=>by simp at h
 | _::_,[],h=>by simp at h
 | x::xs,y::ys,h=>by
  have ih:=zipEq hne hF xs ys (by simpa using h)
  simp only[List.zip_cons_cons,forL,hF]
  cases hn:ne x y with
  | true =>
   simp only[cond_true]
   have:x ≠ y:=fun e=>by rw[(hne x y).2 e] at hn;cases hn
   simp[this]
  | false =>
   simp only[cond_false]
   rw[ih,(hne x y).1 hn]
   simp
theorem rn{α:Type}{row:α→List Dp}{ne:α→α→Bool}(hne:∀a b,ne a b=false ↔ a=b){F:α×α→Unit→Unit⊕Unit}(hF:∀p u,F p u=bif ne p.1 p.2 then .inr () else .inl ())(xs ys:List α):
  (if (((xs.map row).length:Int) != ((ys.map row).length:Int))=true then false else match forL F (xs.zip ys) () with | .inl _=>true | .inr _=>false)=true ↔ xs=ys:=by
 by_cases hl:xs.length=ys.length
 ·rw[if_neg (by simp[hl])]
  exact zipEq hne hF xs ys hl
 ·rw[if_pos (by simp;omega)]
  simp only[Bc,false_iff]
  exact fun e=>hl (by rw[e])
theorem wn(a b:MeT):meNe a b=false ↔ a=b:=by cases a;cases b;simp[meNe]
theorem wo(a b:GrT):grNe a b=false ↔ a=b:=by cases a;cases b;simp[grNe]
theorem wp(a b:BuT):buNe a b=false ↔ a=b:=by cases a;cases b;simp[buNe]
theorem wq(a b:Int):sx a b=false ↔ a=b:=by simp[sx]
theorem qm_iff(xs ys:List MeT):qmB xs ys=true ↔ xs=ys:=rn (row:=Av) wn (F:=qmF) (fun _ _=>rfl) xs ys
theorem qg_iff(xs ys:List GrT):qgB xs ys=true ↔ xs=ys:=rn (row:=Au) wo (F:=qgF) (fun _ _=>rfl) xs ys
theorem qi_iff(xs ys:List Int):qiB xs ys=true ↔ xs=ys:=rn (row:=aa) wq (F:=qiF) (fun _ _=>rfl) xs ys
theorem qb_iff(xs ys:List BuT):qbB xs ys=true ↔ xs=ys:=rn (row:=Ak) wp (F:=qbF) (fun _ _=>rfl) xs ys
theorem zD(a b:ByteArray):eqS a b=true ↔ a=b:=by
 unfold eqS
 rw[beq_iff_eq,Array.toList_inj]
 cases a;cases b;simp
theorem uG(a b:SecT):secEq a b=true ↔ a=b:=by
 unfold secEq
 simp only[Ap,qm_iff,qg_iff,qi_iff,beq_iff_eq]
 cases a;cases b
 simp only[SecT.mk.injEq]
 constructor
 ·rintro⟨⟨⟨⟨⟨⟨⟨⟨h1,h2⟩,h3⟩,h4⟩,h5⟩,h6⟩,h7⟩,h8⟩,h9⟩
  exact⟨h1,h2,h3,h4,h5,h7,h8,h9,h6⟩
 ·rintro⟨h1,h2,h3,h4,h5,h7,h8,h9,h6⟩
  exact⟨⟨⟨⟨⟨⟨⟨⟨h1,h2⟩,h3⟩,h4⟩,h5⟩,h6⟩,h7⟩,h8⟩,h9⟩
theorem wr(a b:RqT):rqEq a b=true ↔ a=b:=by
 unfold rqEq
 simp only[Ap,qb_iff,beq_iff_eq]
 cases a;cases b
 simp only[RqT.mk.injEq]
 constructor
 ·rintro⟨⟨⟨⟨⟨⟨⟨h1,h2⟩,h3⟩,h4⟩,h5⟩,h6⟩,h7,h8,_⟩,h9⟩
  exact⟨h1,h2,h3,h4,h5,h6,h7,h8,h9⟩
 ·rintro⟨h1,h2,h3,h4,h5,h6,h7,h8,h9⟩
  exact⟨⟨⟨⟨⟨⟨⟨h1,h2⟩,h3⟩,h4⟩,h5⟩,h6⟩,h7,h8,trivial⟩,h9⟩
theorem kl(a b:EntT):dd a b=true ↔ a=b:=by
 unfold dd r9
 simp only[Ap,zD,uG,wr,beq_iff_eq]
 cases a;cases b
 simp only[EntT.mk.injEq]
 constructor
 ·rintro⟨⟨⟨⟨⟨⟨⟨⟨⟨⟨⟨h1,h2,h3,_⟩,h4⟩,h5⟩,h6⟩,h7⟩,h8⟩,h9,h10,_⟩,h11⟩,h12⟩,h13⟩,h14,h15,_⟩
  exact⟨h1,h2,h3,h4,h5,h6,h7,h8,h9,h10,h11,h12,h13,h14,h15⟩
 ·rintro⟨h1,h2,h3,h4,h5,h6,h7,h8,h9,h10,h11,h12,h13,h14,h15⟩
  exact⟨⟨⟨⟨⟨⟨⟨⟨⟨⟨⟨h1,h2,h3,trivial⟩,h4⟩,h5⟩,h6⟩,h7⟩,h8⟩,h9,h10,trivial⟩,h11⟩,h12⟩,h13⟩,h14,h15,trivial⟩
theorem mZ{a b c:StT}(h:eH a b)(g:eH b c):eH a c:=by unfold eH at *;omega
theorem ws{a b:StT}(h:¬eH b a)(g:a ≠ b):eH a b:=by
 have:¬(a.time=b.time∧a.campus=b.campus∧a.no=b.no):=fun⟨h1,h2,h3⟩=>g (by cases a;cases b;simp_all)
 unfold eH at *;omega
theorem uH{a b:StT}(h:eH a b):a ≠ b:=fun e=>by subst e;exact absurd h (lO h)
theorem lP(a b:StT):Qd (a7 a b<0)=true ↔ eH a b:=by
 constructor
 ·intro h
  rw[jc] at h
  rcases stCmp8_cases a b with ⟨h1,_⟩|⟨_,_,e⟩|⟨_,e⟩
  ·exact h1
  ·rw[e] at h;cases h
  ·rw[e] at h;cases h
 ·exact wm
def cF(l:List EntT):Prop:=l.Pairwise fun a b=>eH a.st b.st
theorem Fits.sorted{l:List EntT}(h:Fits l):cF l:=h.imp fun h=>h.1
def Compat(a b:List EntT):Prop:=∀e∈a,∀f∈b,e.st=f.st→e=f
theorem Compat.symm{a b:List EntT}(h:Compat a b):Compat b a:=fun e he f hf hs=>(h f hf e he hs.symm).symm
def JSpec(x r o:List EntT):Option (List EntT)→Prop
 | some y=>cF y∧∀e,e∈y ↔ e∈x∨e∈r∨e∈o
 | none=>¬(Compat r o∧Compat x r∧Compat x o)
theorem JSpec.swap{x r o:List EntT}{res:Option (List EntT)}(h:JSpec x r o res):JSpec x o r res:=by
 cases res with
 | none=>exact fun⟨h1,h2,h3⟩=>h ⟨h1.symm,h3,h2⟩
 | some y=>exact⟨h.1,fun e=>by rw[h.2 e];constructor<;>(rintro (h|h|h)<;>simp[h])⟩
def Le(x g:List EntT):Prop:=∀e∈x,∀f∈g,¬eH f.st e.st
theorem m9{x r o:List EntT}{f:EntT}{cont:List EntT→Option (List EntT)}(Sr:cF (f::r))(Sx:cF x)(hr:Le x (f::r))(ho:Le x o)(hfo:∀g∈o,¬eH g.st f.st)
  (ih:∀x',cF x'→Le x' r→Le x' o→JSpec x' r o (cont x')):JSpec x (f::r) o ((joF x f).bind cont):=by
 have hfr:=Bu.1 Sr
 have app:(∀l,x.getLast? = some l→l.st ≠ f.st)→JSpec x (f::r) o (cont (x++[f])):=by
  intro hl
  have hall:∀e∈x,eH e.st f.st:=by
   intro e he
   cases hx:x.getLast? with
   | none=>simp at hx;subst hx;cases he
   | some l =>
    obtain⟨hne,hg⟩:=rb hx
    have hlm:=Bh hg
    have h1:eH l.st f.st:=ws (hr l hlm f (by simp)) (hl l hx)
    obtain⟨i,hi⟩:=List.mem_iff_getElem?.1 he
    have hil:=(Ar.1 hi).1
    by_cases h2:i=x.length - 1
    ·rw[h2,hg] at hi
     cases hi
     exact h1
    ·have h3:=List.pairwise_iff_getElem.1 Sx i (x.length - 1) hil (by omega) (by omega)
     have e1:x[i]=e:=(Ar.1 hi).2
     have e2:x[x.length - 1]'(by omega)=l:=(Ar.1 hg).2
     rw[e1,e2] at h3
     exact mZ h3 h1
  have hS:cF (x++[f]):=List.pairwise_append.2 ⟨Sx,by simp,fun e he g hg=>by simp at hg;subst hg;exact hall e he⟩
  have h1:=ih (x++[f]) hS (fun e he g hg=>by
   rcases A9.1 he with he|he
   ·exact hr e he g (by simp[hg])
   ·simp at he;subst he;exact lO (hfr.1 g hg)) (fun e he g hg=>by
   rcases A9.1 he with he|he
   ·exact ho e he g hg
   ·simp at he;subst he;exact hfo g hg)
  cases hc:cont (x++[f]) with
  | some y =>
   rw[hc] at h1
   refine⟨h1.1,fun e=>?_⟩
   rw[h1.2 e]
   simp only[A9,A1,List.not_mem_nil,or_false]
   constructor
   ·rintro ((h|h)|h|h)<;>simp[h]
   ·rintro (h|(h|h)|h)<;>simp[h]
  | none =>
   rw[hc] at h1
   rintro⟨c1,c2,c3⟩
   refine h1 ⟨fun e he g hg hs=>c1 e (by simp[he]) g hg hs,fun e he g hg hs=>?_,fun e he g hg hs=>?_⟩
   ·rcases A9.1 he with he|he
    ·exact c2 e he g (by simp[hg]) hs
    ·simp at he;subst he;exact absurd hs (uH (hfr.1 g hg))
   ·rcases A9.1 he with he|he
    ·exact c3 e he g hg hs
    ·simp at he;subst he;exact c1 e (by simp) g hg hs
 unfold joF
 cases hx:x.getLast? with
 | none=>exact app (fun l hl=>by rw[hx] at hl;cases hl)
 | some l =>
  have hlm:l∈x:=Bh (rb hx).2
  simp only
  cases hs:ja l.st f.st with
  | false=>exact app (fun l' hl'=>by rw[hx] at hl';cases hl';intro e;rw[stEq_iff.2 e] at hs;cases hs)
  | true =>
   have hst:=stEq_iff.1 hs
   simp only
   cases hb:dd l f with
   | false =>
    rintro⟨_,c2,_⟩
    have:=c2 l hlm f (by simp) hst
    rw[(kl l f).2 this] at hb
    cases hb
   | true =>
    have hlf:=(kl l f).1 hb
    subst hlf
    simp only[cond_true,Option.bind_some]
    have h1:=ih x Sx (fun e he g hg=>hr e he g (by simp[hg])) ho
    cases hc:cont x with
    | some y =>
     rw[hc] at h1
     refine⟨h1.1,fun e=>?_⟩
     rw[h1.2 e]
     constructor
     ·rintro (h|h|h)<;>simp[h]
     ·rintro (h|h|h)
      ·exact .inl h
      ·rcases A1.1 h with rfl|h
       ·exact .inl hlm
       ·exact .inr (.inl h)
      ·exact .inr (.inr h)
    | none =>
     rw[hc] at h1
     rintro⟨c1,c2,c3⟩
     exact h1 ⟨fun e he g hg hs=>c1 e (by simp[he]) g hg hs,fun e he g hg hs=>c2 e he g (by simp[hg]) hs,c3⟩
theorem gz:∀(k:Nat) (a b x:List EntT),a.length+b.length=k→cF a→cF b→cF x→Le x a→Le x b→JSpec x a b (joG k a b x)
 | 0,a,b,x,hk,_,_,Sx,_,_=>by
  have ha:a=[]:=Fq.1 (by omega)
  have hb:b=[]:=Fq.1 (by omega)
  subst ha;subst hb
  exact⟨Sx,by simp⟩
 | k+1,[],[],x,hk,_,_,Sx,_,_=>by simp at hk
 | k+1,[],m::b,x,hk,Sa,Sb,Sx,ha,hb=>by
  simp only[joG]
  exact(m9 Sb Sx hb ha (by simp) fun x' Sx' hb' ha'=>(gz k [] b x' (by simpa using hk) Sa (Bu.1 Sb).2 Sx' ha' hb').swap).swap
 | k+1,n::a,[],x,hk,Sa,Sb,Sx,ha,hb=>by
  simp only[joG]
  exact m9 Sa Sx ha hb (by simp) fun x' Sx' ha' hb'=>gz k a [] x' (by simpa using hk) (Bu.1 Sa).2 Sb Sx' ha' hb'
 | k+1,n::a,m::b,x,hk,Sa,Sb,Sx,ha,hb=>by
  simp only[joG]
  cases hc:Qd (a7 m.st n.st<0) with
  | true =>
   have hlt:=(lP m.st n.st).1 hc
   exact(m9 Sb Sx hb ha (fun g hg=>by
    rcases A1.1 hg with rfl|hg
    ·exact lO hlt
    ·exact lO (mZ hlt ((Bu.1 Sa).1 g hg))) fun x' Sx' hb' ha'=>(gz k (n::a) b x' (by simp only[Bq] at hk ⊢;omega) Sa (Bu.1 Sb).2 Sx' ha' hb').swap).swap
  | false =>
   have hlt:¬eH m.st n.st:=fun h=>by rw[(lP m.st n.st).2 h] at hc;cases hc
   exact m9 Sa Sx ha hb (fun g hg=>by
    rcases A1.1 hg with rfl|hg
    ·exact hlt
    ·exact fun h=>hlt (mZ ((Bu.1 Sb).1 g hg) h)) fun x' Sx' ha' hb'=>gz k a (m::b) x' (by simp only[Bq] at hk ⊢;omega) (Bu.1 Sa).2 Sb Sx' ha' hb'
def Uni(a b y:List EntT):Prop:=cF y∧∀e,e∈y ↔ e∈a∨e∈b
theorem ko:∀{y z:List EntT},cF y→cF z→(∀e,e∈y ↔ e∈z)→y=z
 | [],[],_,_,_=>rfl
 | [],q::z,_,_,h=>absurd ((h q).2 (by simp)) (by simp)
 | p::y,[],_,_,h=>absurd ((h p).1 (by simp)) (by simp)
 | p::y,q::z,Sy,Sz,h=>by
  have hy:=Bu.1 Sy
  have hz:=Bu.1 Sz
  have hpq:p=q:=by
   rcases A1.1 ((h p).1 (by simp)) with e|h1
   ·exact e
   ·rcases A1.1 ((h q).2 (by simp)) with e|h2
    ·exact e.symm
    ·exact absurd (hy.1 q h2) (lO (hz.1 p h1))
  subst hpq
  have:y=z:=ko hy.2 hz.2 fun e=>by
   have h1:=h e
   simp only[A1] at h1
   constructor
   ·intro he
    rcases h1.1 (.inr he) with rfl|h2
    ·exact absurd rfl (uH (hy.1 _ he))
    ·exact h2
   ·intro he
    rcases h1.2 (.inr he) with rfl|h2
    ·exact absurd rfl (uH (hz.1 _ he))
    ·exact h2
  rw[this]
theorem su{y:List EntT}(S:cF y){e f:EntT}(he:e∈y)(hf:f∈y)(hs:e.st=f.st):e=f:=by
 induction y with
 | nil=>cases he
 | cons p y ih =>
  have hy:=Bu.1 S
  rcases A1.1 he with e1|he1
  ·rcases A1.1 hf with e2|hf1
   ·rw[e1,e2]
   ·rw[e1] at hs
    exact absurd hs (uH (hy.1 f hf1))
  ·rcases A1.1 hf with e2|hf1
   ·rw[e2] at hs
    exact absurd hs.symm (uH (hy.1 e he1))
   ·exact ih hy.2 he1 hf1
theorem Uni.compat{a b y:List EntT}(U:Uni a b y):Compat a b:=fun e he f hf hs=>su U.1 ((U.2 e).2 (.inl he)) ((U.2 f).2 (.inr hf)) hs
def Val(l:List EntT):Prop:=∀e∈l,aP e=0
theorem uI{a b:List EntT}(Sa:cF a)(Sb:cF b)(Va:Val a)(Vb:Val b)(y:List EntT):joR a b=some y ↔ Uni a b y∧Fits y:=by
 have h:=gz (a.length+b.length) a b [] rfl Sa Sb (by simp[cF]) (by simp[Le]) (by simp[Le])
 unfold joR
 cases hg:joG (a.length+b.length) a b [] with
 | none =>
  rw[hg] at h
  simp only[reduceCtorEq,false_iff]
  rintro⟨U,_⟩
  exact h ⟨U.compat,by simp[Compat],by simp[Compat]⟩
 | some z =>
  rw[hg] at h
  have hU:Uni a b z:=⟨h.1,fun e=>by rw[h.2 e];simp⟩
  have hV:∀e∈z,aP e=0:=fun e he=>by
   rcases(hU.2 e).1 he with h|h
   ·exact Va e h
   ·exact Vb e h
  simp only
  constructor
  ·intro he
   cases hf:sm z with
   | false=>rw[hf] at he;cases he
   | true =>
    rw[hf] at he
    cases he
    exact⟨hU,(jd hV).1 hf⟩
  ·rintro⟨U,F⟩
   have:z=y:=ko hU.1 U.1 fun e=>by rw[hU.2 e,U.2 e]
   subst this
   rw[(jd hV).2 F]
   rfl
theorem Uni.val{a b y:List EntT}(U:Uni a b y)(Va:Val a)(Vb:Val b):Val y:=fun e he=>by
 rcases(U.2 e).1 he with h|h
 ·exact Va e h
 ·exact Vb e h
abbrev smS(L:List (List Dp))(i:Int):AS:={t:=mkT 27 0 [(0,rowsD' L),(1,rowsD' L),(4,bool false),(5,int i)],h:=[],m:=[]}
theorem zE{L:List (List Dp)}{e:EntT}{i:Nat}(hr:ak (i:Int) L e.row 31)(hlt:Qd ((i:Int)<(L.length:Int))=true)(hw:An.wrap ((i:Int)+1)=((i+1:Nat):Int))(hsm:∀h,Ev Ai Γ0 37 [ag e.row,ag e.row] h (bool true) h):(CW Ai Γ0 [] false (sub Fc 0) (smS L i) .normal (smS L ((i+1:Nat):Int))):=by
 refine AX (AY (s':={t:=mkT 27 0 [(0,rowsD' L),(1,rowsD' L),(4,bool false),(5,int (Aw An ((↑i:Int)+1)))],h:=[],m:=[]}) (e:=A6) pok [.st (.mask [0,1,4,5]),.st (.trim 0)] [.b true,.row [vi e.time,vi e.campus,vi e.no,vi e.kind,vi e.stu,vi e.obj,vi e.term,vi e.val,vi e.frm,vi e.til,vs e.text,vi e.sec.id,vi e.sec.course,vi e.sec.term,vi e.sec.campus,vi e.sec.seats,AC (Ag Av e.sec.mts),AC (Ag Au e.sec.grs),AC (Ag aa e.sec.labs),AQ (AK e.sec.lab),vi e.req.campus,vi e.req.no,vi e.req.st,vi e.req.kind,vi e.req.time,AC (Ag Ak e.req.chs),vi e.req.gsec,vi e.req.glab,vi e.req.key,vi e.r,vi e.s],.row [vi e.time,vi e.campus,vi e.no,vi e.kind,vi e.stu,vi e.obj,vi e.term,vi e.val,vi e.frm,vi e.til,vs e.text,vi e.sec.id,vi e.sec.course,vi e.sec.term,vi e.sec.campus,vi e.sec.seats,AC (Ag Av e.sec.mts),AC (Ag Au e.sec.grs),AC (Ag aa e.sec.labs),AQ (AK e.sec.lab),vi e.req.campus,vi e.req.no,vi e.req.st,vi e.req.kind,vi e.req.time,AC (Ag Ak e.req.chs),vi e.req.gsec,vi e.req.glab,vi e.req.key,vi e.r,vi e.s],.val (bool true),.b false] (by kernel_rfl) (.c hlt (.c hr (.c hr (.c (@hsm ([])) (.c (show(!true)=false from rfl) .n)))))) ?_ ?_<;>(first|rfl|(rw[hw]<;>rfl))
theorem zF{L:List (List Dp)}{i:Nat}(hlt:Qd ((i:Int)<(L.length:Int))=false):(CW Ai Γ0 [] false (sub Fc 0) (smS L i) (.exit 0) {t:=mkT 27 0 [],h:=[],m:=[]}):=by
 exact AX (AY (s':={t:=mkT 27 0 [],h:=[],m:=[]}) (e:=A5 0) pok [.st (.mask [])] [.b false] (by kernel_rfl) (.c hlt .n)) (by rfl) (by rfl)
theorem zG{l:List EntT}(hs:ao l)(ho:∀e∈l,e.ok):CW Ai Γ0 [] false (.loop (sub Fc 0)) (smS (l.map AB) 0) (.exit 0) {t:=mkT 27 0 [],h:=[],m:=[]}:=by
 have:=CW.each (P:=Ai) (Γ:=Γ0) (h0:=[]) (rd:=false) (c:=sub Fc 0) (σ:=Unit) (ρ:=Empty) l (fun _ s=>.inl s) (fun j _=>smS (l.map AB) (j:Int)) (.exit 0) (fun _=>{t:=mkT 27 0 [],h:=[],m:=[]}) (fun r=>r.elim) (fun _ _=>True) (by simp) (fun r=>r.elim) ?_ ?_ () trivial
 ·rw[oA (fun s _=>s)] at this
  exact this
 ·intro j e s hj _
  have hlt:=(Ar.1 hj).1
  have o:=ho e (Bh hj)
  have he:kh e e=true:=by rw[ss];exact(kl e e).2 rfl
  have hsm:∀h,Ev Ai Γ0 37 [ag e.row,ag e.row] h (bool true) h:=fun h=>by
   rw[←he]
   exact uA o.m o.g o.l o.c h
  exact⟨fun _ _=>trivial,zE (rowAt (row:=AB) (sz:=31) hj rfl) (lt_len AB hlt) (wrap_succ hlt hs) hsm⟩
 ·intro s _
  exact zF (bE AB l)
theorem same_a{L:List (List Dp)}(hn:((L.length:Int) != (L.length:Int))=false)(hl:CW Ai Γ0 [] false (.loop (sub Fc 0)) (smS L 0) (.exit 0) {t:=mkT 27 0 [],h:=[],m:=[]})(h:List Blk):(Ev Ai Γ0 19 [rowsD' L,rowsD' L] h (bool true) h):=by
 have hl0:=(@hl)
 exact AE (AI (d:=bool true) pok [.b false,.sum [0,1,4,5] (A5 0) {t:=mkT 27 0 [],h:=[],m:=[]}] (by kernel_rfl) (.c hn (.c hl0 .n)) rfl rfl h) (by rfl) (by rfl)
theorem ro{l:List EntT}(hs:ao l)(ho:∀e∈l,e.ok)(h:List Blk):Ev Ai Γ0 19 [rowsD' (l.map AB),rowsD' (l.map AB)] h (bool true) h:=same_a (by simp) (zG hs ho) h
def knT(s:StT):Int:=An.wrap (An.wrap (8*s.time)+s.campus)
theorem uJ{s:StT}{r:Int}(hck:∀h,Ev Ai Γ0 39 [ag s.row] h (int r) h)(hr:(r != 0)=false)(h:List Blk):(Ev Ai Γ0 23 [ag s.row] h (.tup [int (knT s),int 0]) h):=by
 exact AE (AI (d:=AL [int (Aw An (Aw An (8*s.time)+s.campus)),int 0]) pok [.val (int r),.b false] (by kernel_rfl) (.c (@hck ([.var [int s.time,int s.campus,int s.no]])) (.c hr .n)) rfl rfl h) (by rfl) (by rfl)
theorem zH{s:StT}{r:Int}(hck:∀h,Ev Ai Γ0 39 [ag s.row] h (int r) h)(hr:(r != 0)=true)(h:List Blk):(Ev Ai Γ0 23 [ag s.row] h (.tup [int 0,int r]) h):=by
 exact AE (AI (d:=AL [int 0,int r]) pok [.val (int r),.b true] (by kernel_rfl) (.c (@hck ([.var [int s.time,int s.campus,int s.no]])) (.c hr .n)) rfl rfl h) (by rfl) (by rfl)
abbrev upS(L:List (List Dp))(kn:Int)(x:List EntT)(i:Int):AS:={t:=mkT 40 0 [(1,int kn),(4,.ref (.vec 0 0)),(15,rowsD' L),(16,int (L.length:Int)),(17,int i)],h:=[.vec (joV x) 0 31],m:=[]}
abbrev upE(x:List EntT):AS:={t:=mkT 40 0 [(4,.ref (.vec 0 0))],h:=[.vec (joV x) 0 31],m:=[]}
noncomputable abbrev uK(x:List EntT)(e:EntT):List Blk:=[.vec (joV x) 0 31,.var [int e.time,int e.campus,int e.no,int e.kind,int e.stu,int e.obj,int e.term,int e.val,int e.frm,int e.til,ah e.text,int e.sec.id,int e.sec.course,int e.sec.term,int e.sec.campus,int e.sec.seats,rowsD' (Ag Av e.sec.mts),rowsD' (Ag Au e.sec.grs),rowsD' (Ag aa e.sec.labs),bool e.sec.lab,int e.req.campus,int e.req.no,int e.req.st,int e.req.kind,int e.req.time,rowsD' (Ag Ak e.req.chs),int e.req.gsec,int e.req.glab,int e.req.key,int e.r,int e.s]]
theorem up_yes{L:List (List Dp)}{kn k:Int}{x:List EntT}{e:EntT}{i:Nat}(hr:ak (i:Int) L e.row 31)(hlt:Qd ((i:Int)<(L.length:Int))=true)(hw:An.wrap ((i:Int)+1)=((i+1:Nat):Int))(hkn:∀h,Ev Ai Γ0 23 [.agg [int e.time,int e.campus,int e.no]] h (.tup [int k,int 0]) h)(hq:((0:Int)==0&&Qd (k≤kn))=true)(hl:x.length≤1000000):(CW Ai Γq [] false (sub EG 0) (upS L kn x i) .normal (upS L kn (x++[e]) ((i+1:Nat):Int))):=by
 refine AX (AY (s':={t:=mkT 40 0 [(1,int kn),(4,.ref (.vec 0 0)),(15,rowsD' L),(16,int (↑(Ah L):Int)),(17,int (Aw An ((↑i:Int)+1)))],h:=[.vec (joV x++[[int e.time,int e.campus,int e.no,int e.kind,int e.stu,int e.obj,int e.term,int e.val,int e.frm,int e.til,ah e.text,int e.sec.id,int e.sec.course,int e.sec.term,int e.sec.campus,int e.sec.seats,rowsD' (Ag Av e.sec.mts),rowsD' (Ag Au e.sec.grs),rowsD' (Ag aa e.sec.labs),bool e.sec.lab,int e.req.campus,int e.req.no,int e.req.st,int e.req.kind,int e.req.time,rowsD' (Ag Ak e.req.chs),int e.req.gsec,int e.req.glab,int e.req.key,int e.r,int e.s]]) 0 31],m:=[]}) (e:=A6) pok [.st (.mask [1,4,15,16,17]),.st (.trimV 1),.st (.ren 0 0)] [.b true,.row [vi e.time,vi e.campus,vi e.no,vi e.kind,vi e.stu,vi e.obj,vi e.term,vi e.val,vi e.frm,vi e.til,vs e.text,vi e.sec.id,vi e.sec.course,vi e.sec.term,vi e.sec.campus,vi e.sec.seats,AC (Ag Av e.sec.mts),AC (Ag Au e.sec.grs),AC (Ag aa e.sec.labs),AQ (AK e.sec.lab),vi e.req.campus,vi e.req.no,vi e.req.st,vi e.req.kind,vi e.req.time,AC (Ag Ak e.req.chs),vi e.req.gsec,vi e.req.glab,vi e.req.key,vi e.r,vi e.s],.val (AL [int k,int 0]),.b true] (by kernel_rfl) (.c hlt (.c hr (.c (AO (Γ':=Γq) (@hkn ((uK x e)))) (.c hq (.c (show(C4 [[int e.time,int e.campus,int e.no,int e.kind,int e.stu,int e.obj,int e.term,int e.val,int e.frm,int e.til,ah e.text,int e.sec.id,int e.sec.course,int e.sec.term,int e.sec.campus,int e.sec.seats,rowsD' (Ag Av e.sec.mts),rowsD' (Ag Au e.sec.grs),rowsD' (Ag aa e.sec.labs),bool e.sec.lab,int e.req.campus,int e.req.no,int e.req.st,int e.req.kind,int e.req.time,rowsD' (Ag Ak e.req.chs),int e.req.gsec,int e.req.glab,int e.req.key,int e.r,int e.s]] (rowOk 31)&&roomOk (Ah (joV x)+Ah [[int e.time,int e.campus,int e.no,int e.kind,int e.stu,int e.obj,int e.term,int e.val,int e.frm,int e.til,ah e.text,int e.sec.id,int e.sec.course,int e.sec.term,int e.sec.campus,int e.sec.seats,rowsD' (Ag Av e.sec.mts),rowsD' (Ag Au e.sec.grs),rowsD' (Ag aa e.sec.labs),bool e.sec.lab,int e.req.campus,int e.req.no,int e.req.st,int e.req.kind,int e.req.time,rowsD' (Ag Ak e.req.chs),int e.req.gsec,int e.req.glab,int e.req.key,int e.r,int e.s]]) 320)=true from ?_) (.c (show Blk.inn 1 (.vec (joV x++[[int e.time,int e.campus,int e.no,int e.kind,int e.stu,int e.obj,int e.term,int e.val,int e.frm,int e.til,ah e.text,int e.sec.id,int e.sec.course,int e.sec.term,int e.sec.campus,int e.sec.seats,rowsD' (Ag Av e.sec.mts),rowsD' (Ag Au e.sec.grs),rowsD' (Ag aa e.sec.labs),bool e.sec.lab,int e.req.campus,int e.req.no,int e.req.st,int e.req.kind,int e.req.time,rowsD' (Ag Ak e.req.chs),int e.req.gsec,int e.req.glab,int e.req.key,int e.r,int e.s]]) 1 31)=true from ?_) (.c (show Ag (D.mapRL (jC 0 1 0)) (joV x++[[int e.time,int e.campus,int e.no,int e.kind,int e.stu,int e.obj,int e.term,int e.val,int e.frm,int e.til,ah e.text,int e.sec.id,int e.sec.course,int e.sec.term,int e.sec.campus,int e.sec.seats,rowsD' (Ag Av e.sec.mts),rowsD' (Ag Au e.sec.grs),rowsD' (Ag aa e.sec.labs),bool e.sec.lab,int e.req.campus,int e.req.no,int e.req.st,int e.req.kind,int e.req.time,rowsD' (Ag Ak e.req.chs),int e.req.gsec,int e.req.glab,int e.req.key,int e.r,int e.s]])=joV x++[[int e.time,int e.campus,int e.no,int e.kind,int e.stu,int e.obj,int e.term,int e.val,int e.frm,int e.til,ah e.text,int e.sec.id,int e.sec.course,int e.sec.term,int e.sec.campus,int e.sec.seats,rowsD' (Ag Av e.sec.mts),rowsD' (Ag Au e.sec.grs),rowsD' (Ag aa e.sec.labs),bool e.sec.lab,int e.req.campus,int e.req.no,int e.req.st,int e.req.kind,int e.req.time,rowsD' (Ag Ak e.req.chs),int e.req.gsec,int e.req.glab,int e.req.key,int e.r,int e.s]] from ?_) .n)))))))) (by first|rfl|(rw[hw]<;>rfl)|(rw[bg,hw];first|done|rfl)|(rw[hw,bg];first|done|rfl)) (by first|rfl|(rw[hw]<;>rfl)|(rw[bg,hw];first|done|rfl)|(rw[hw,bg];first|done|rfl))<;>(first|assumption|rfl|exact bb _ _|exact bc _ _|(rw[bg];exact bb _ _)|(rw[bg];exact bc _ _)|(simp[rowOk,D.one,Value.oneCell',roomOk,joV_len];omega))
noncomputable abbrev wt(x:List EntT)(e:EntT):List Blk:=[.vec (joV x) 0 31,.var [int e.time,int e.campus,int e.no,int e.kind,int e.stu,int e.obj,int e.term,int e.val,int e.frm,int e.til,ah e.text,int e.sec.id,int e.sec.course,int e.sec.term,int e.sec.campus,int e.sec.seats,rowsD' (Ag Av e.sec.mts),rowsD' (Ag Au e.sec.grs),rowsD' (Ag aa e.sec.labs),bool e.sec.lab,int e.req.campus,int e.req.no,int e.req.st,int e.req.kind,int e.req.time,rowsD' (Ag Ak e.req.chs),int e.req.gsec,int e.req.glab,int e.req.key,int e.r,int e.s]]
theorem up_no{L:List (List Dp)}{kn k:Int}{x:List EntT}{e:EntT}{i:Nat}(hr:ak (i:Int) L e.row 31)(hlt:Qd ((i:Int)<(L.length:Int))=true)(hw:An.wrap ((i:Int)+1)=((i+1:Nat):Int))(hkn:∀h,Ev Ai Γ0 23 [.agg [int e.time,int e.campus,int e.no]] h (.tup [int k,int 0]) h)(hq:((0:Int)==0&&Qd (k≤kn))=false):(CW Ai Γq [] false (sub EG 0) (upS L kn x i) .normal (upS L kn x ((i+1:Nat):Int))):=by
 refine AX (AY (s':={t:=mkT 40 0 [(1,int kn),(4,.ref (.vec 0 0)),(15,rowsD' L),(16,int (↑(Ah L):Int)),(17,int (Aw An ((↑i:Int)+1)))],h:=[.vec (joV x) 0 31],m:=[]}) (e:=A6) pok [.st (.mask [1,4,15,16,17]),.st (.trimV 1)] [.b true,.row [vi e.time,vi e.campus,vi e.no,vi e.kind,vi e.stu,vi e.obj,vi e.term,vi e.val,vi e.frm,vi e.til,vs e.text,vi e.sec.id,vi e.sec.course,vi e.sec.term,vi e.sec.campus,vi e.sec.seats,AC (Ag Av e.sec.mts),AC (Ag Au e.sec.grs),AC (Ag aa e.sec.labs),AQ (AK e.sec.lab),vi e.req.campus,vi e.req.no,vi e.req.st,vi e.req.kind,vi e.req.time,AC (Ag Ak e.req.chs),vi e.req.gsec,vi e.req.glab,vi e.req.key,vi e.r,vi e.s],.val (AL [int k,int 0]),.b false] (by kernel_rfl) (.c hlt (.c hr (.c (AO (Γ':=Γq) (@hkn ((wt x e)))) (.c hq (.c (show Blk.inn 1 (.vec (joV x) 0 31)=true from(by first|assumption|rfl|exact bb _ _|exact bc _ _)) .n)))))) ?_ ?_<;>(first|rfl|(rw[hw]<;>rfl))
theorem zI{L:List (List Dp)}{kn:Int}{x:List EntT}{i:Nat}(hlt:Qd ((i:Int)<(L.length:Int))=false):(CW Ai Γq [] false (sub EG 0) (upS L kn x i) (.exit 0) (upE x)):=by
 exact AX (AY (s':={t:=mkT 40 0 [(4,.ref (.vec 0 0))],h:=[.vec (joV x) 0 31],m:=[]}) (e:=A5 0) pok [.st (.mask [4])] [.b false] (by kernel_rfl) (.c hlt .n)) (by rfl) (by rfl)
theorem up_a{L:List (List Dp)}{kn:Int}{x:List EntT}(hck:∀h,Ev Ai Γq 12 [rowsD' L] h (int 0) h)(hl:CW Ai Γq [] false (.loop (sub EG 0)) (upS L kn [] 0) (.exit 0) (upE x))(h:List Blk):(Ev Ai Γq 22 [rowsD' L,int kn] h (.tup [rowsD' (x.map AB),int 0]) h):=by
 have hl0:=(@hl)
 exact AE (AI (d:=AL [rowsD' (Ag AB x),int 0]) pok [.val (int 0),.b false,.nx 1,.st (.nilT 4 31),.sum [1,4,15,16,17] (A5 0) {t:=mkT 40 0 [(4,.ref (.vec 0 0))],h:=[.vec (joV x) 0 31],m:=[]},.st (.frz 0 (Ag AB x))] (by kernel_rfl) (.c (@hck ([])) (.c (show(0 != 0)=false from rfl) (.c hl0 (.c (show joV x=Ag (fun x=>Ag D.p x) (Ag AB x) from(by first|assumption|rfl|exact pD _|exact bb _ _|exact bc _ _)) .n)))) rfl rfl h) (by rfl) (by rfl)
noncomputable abbrev cG(n:EntT):List Blk:=[.var [int n.time,int n.campus,int n.no,int n.kind,int n.stu,int n.obj,int n.term,int n.val,int n.frm,int n.til,ah n.text,int n.sec.id,int n.sec.course,int n.sec.term,int n.sec.campus,int n.sec.seats,rowsD' (Ag Av n.sec.mts),rowsD' (Ag Au n.sec.grs),rowsD' (Ag aa n.sec.labs),bool n.sec.lab,int n.req.campus,int n.req.no,int n.req.st,int n.req.kind,int n.req.time,rowsD' (Ag Ak n.req.chs),int n.req.gsec,int n.req.glab,int n.req.key,int n.r,int n.s]]
theorem ts_few{L:List (List Dp)}{n:EntT}{kn lt:Int}{fe:Bool}(hf:∀h,Ev Ai Γ0 11 [rowsD' L] h (bool false) h)(hfe:∀h,Ev Ai Γ0 16 [ag n.row] h (bool fe) h)(hck:∀h,False→Ev Ai Γq 12 [rowsD' L] h (int 0) h)(h:List Blk):(Ev Ai Γq 8 [rowsD' L,ag n.row,int kn,lit (.int .u16 lt)] h (bool true) h):=by
 exact AE (AI (d:=bool true) pok [.val (bool true),.b false,.val (bool false),.val (bool fe),.val (int 0),.b true] (by kernel_rfl) (.c (@gy ((cG n))) (.c (show(!true)=false from rfl) (.c (AO (Γ':=Γq) (@hf ((cG n)))) (.c (show(!!false)=true→Ev Ai Γq 16 [Ao [int n.time,int n.campus,int n.no,int n.kind,int n.stu,int n.obj,int n.term,int n.val,int n.frm,int n.til,ah n.text,int n.sec.id,int n.sec.course,int n.sec.term,int n.sec.campus,int n.sec.seats,rowsD' (Ag Av n.sec.mts),rowsD' (Ag Au n.sec.grs),rowsD' (Ag aa n.sec.labs),bool n.sec.lab,int n.req.campus,int n.req.no,int n.req.st,int n.req.kind,int n.req.time,rowsD' (Ag Ak n.req.chs),int n.req.gsec,int n.req.glab,int n.req.key,int n.r,int n.s]] (cG n) (bool fe) (cG n) from(fun hg=>(AO (@hfe ((cG n)))))) (.c (show(!(!false||!fe||Qd (kn<0)||Qd (kn>16777216)))=true→Ev Ai Γq 12 [rowsD' L] (cG n) (int 0) (cG n) from(fun hg=>(@hck ((cG n)) (by first|assumption|rfl|(cases hg;done)|(simp at hg;done))))) (.c (show(!false||!fe||Qd (kn<0)||Qd (kn>16777216)||0 != 0)=true from rfl) .n)))))) rfl rfl h) (by rfl) (by rfl)
noncomputable abbrev cH(n:EntT):List Blk:=[.var [int n.time,int n.campus,int n.no,int n.kind,int n.stu,int n.obj,int n.term,int n.val,int n.frm,int n.til,ah n.text,int n.sec.id,int n.sec.course,int n.sec.term,int n.sec.campus,int n.sec.seats,rowsD' (Ag Av n.sec.mts),rowsD' (Ag Au n.sec.grs),rowsD' (Ag aa n.sec.labs),bool n.sec.lab,int n.req.campus,int n.req.no,int n.req.st,int n.req.kind,int n.req.time,rowsD' (Ag Ak n.req.chs),int n.req.gsec,int n.req.glab,int n.req.key,int n.r,int n.s]]
theorem ts_out{L:List (List Dp)}{n:EntT}{kn lt r:Int}{fe:Bool}(hf:∀h,Ev Ai Γ0 11 [rowsD' L] h (bool true) h)(hfe:∀h,Ev Ai Γ0 16 [ag n.row] h (bool fe) h)(hck:∀h,Ev Ai Γq 12 [rowsD' L] h (int r) h)(hcd:(!true||!fe||Qd (kn<0)||Qd (kn>16777216)||r != 0)=true)(h:List Blk):(Ev Ai Γq 8 [rowsD' L,ag n.row,int kn,lit (.int .u16 lt)] h (bool true) h):=by
 exact AE (AI (d:=bool true) pok [.val (bool true),.b false,.val (bool true),.val (bool fe),.val (int r),.b true] (by kernel_rfl) (.c (@gy ((cH n))) (.c (show(!true)=false from rfl) (.c (AO (Γ':=Γq) (@hf ((cH n)))) (.c (show(!!true)=true→Ev Ai Γq 16 [Ao [int n.time,int n.campus,int n.no,int n.kind,int n.stu,int n.obj,int n.term,int n.val,int n.frm,int n.til,ah n.text,int n.sec.id,int n.sec.course,int n.sec.term,int n.sec.campus,int n.sec.seats,rowsD' (Ag Av n.sec.mts),rowsD' (Ag Au n.sec.grs),rowsD' (Ag aa n.sec.labs),bool n.sec.lab,int n.req.campus,int n.req.no,int n.req.st,int n.req.kind,int n.req.time,rowsD' (Ag Ak n.req.chs),int n.req.gsec,int n.req.glab,int n.req.key,int n.r,int n.s]] (cH n) (bool fe) (cH n) from(fun hg=>(AO (@hfe ((cH n)))))) (.c (show(!(!true||!fe||Qd (kn<0)||Qd (kn>16777216)))=true→Ev Ai Γq 12 [rowsD' L] (cH n) (int r) (cH n) from(fun hg=>(@hck ((cH n))))) (.c hcd .n)))))) rfl rfl h) (by rfl) (by rfl)
def TkT(A A':List (List Dp)):Prop:=some (d6 0 (A'.length:Int) A.length&&true&&(true||false)&&A.all fun r=>Qd (r.length=31),rowsD' (BR ((A'.length:Int).toNat - AJ 0) (BS (AJ 0) A)))=some (true,rowsD' A')
noncomputable abbrev bd(n:EntT):List Blk:=[.var [int n.time,int n.campus,int n.no,int n.kind,int n.stu,int n.obj,int n.term,int n.val,int n.frm,int n.til,ah n.text,int n.sec.id,int n.sec.course,int n.sec.term,int n.sec.campus,int n.sec.seats,rowsD' (Ag Av n.sec.mts),rowsD' (Ag Au n.sec.grs),rowsD' (Ag aa n.sec.labs),bool n.sec.lab,int n.req.campus,int n.req.no,int n.req.st,int n.req.kind,int n.req.time,rowsD' (Ag Ak n.req.chs),int n.req.gsec,int n.req.glab,int n.req.key,int n.r,int n.s]]
theorem ts_a{L X Y Z:List (List Dp)}{n:EntT}{kn lt g k hh ix:Int}(hf:∀h,Ev Ai Γ0 11 [rowsD' L] h (bool true) h)(hfe:∀h,Ev Ai Γ0 16 [ag n.row] h (bool true) h)(hck:∀h,Ev Ai Γq 12 [rowsD' L] h (int 0) h)(hcd:(!true||!true||Qd (kn<0)||Qd (kn>16777216)||(0:Int) != 0)=false)
  (u1:∀h,Ev Ai Γq 22 [rowsD' L,int kn] h (.tup [rowsD' X,int 0]) h) (u2:∀h,Ev Ai Γq 22 [rowsD' L,int (An.wrap (kn+An.wrap lt))] h (.tup [rowsD' Y,int 0]) h)
  (s1:∀h,Ev Ai Γ0 19 [rowsD' X,rowsD' X] h (bool true) h) (s2:∀h,Ev Ai Γ0 19 [rowsD' Y,rowsD' Y] h (bool true) h) (cx:∀h,Ev Ai Γq 12 [rowsD' X] h (int 0) h) (t1:TkT Y X) (t2:TkT L Y)
  (hc7:((0:Int) != 0||(0:Int) != 0||Qd ((X.length:Int)>(Y.length:Int))||Qd ((Y.length:Int)>(L.length:Int))||!true||!true||(0:Int) != 0)=false)
  (pu:∀h,Ev Ai Γq 17 [rowsD' L,ag n.row] h (.tup [rowsD' Z,int ix,int g]) h) (kw:∀h,Ev Ai Γ0 23 [.agg [int n.time,int n.campus,int n.no]] h (.tup [int k,int hh]) h)
  (hc11:(g != 0||hh != 0||Qd (k≤kn))=true) (h:List Blk):(Ev Ai Γq 8 [rowsD' L,ag n.row,int kn,lit (.int .u16 lt)] h (bool (g != 0||hh==0)) h):=by
 refine AE (AI (d:=bool (g != 0||hh==0)) pok [.val (bool true),.b false,.val (bool true),.val (bool true),.val (int 0),.b false,.val (AL [rowsD' X,int 0]),.val (AL [rowsD' Y,int 0]),.ov 83 (rowsD' X),.val (bool true),.ov 92 (rowsD' Y),.val (bool true),.val (int 0),.b false,.val (AL [rowsD' Z,int ix,int g]),.val (AL [int k,int hh]),.b true] (by kernel_rfl) (.c (@gy ((bd n))) (.c (show(!true)=false from rfl) (.c (AO (Γ':=Γq) (@hf ((bd n)))) (.c (show(!!true)=true→Ev Ai Γq 16 [Ao [int n.time,int n.campus,int n.no,int n.kind,int n.stu,int n.obj,int n.term,int n.val,int n.frm,int n.til,ah n.text,int n.sec.id,int n.sec.course,int n.sec.term,int n.sec.campus,int n.sec.seats,rowsD' (Ag Av n.sec.mts),rowsD' (Ag Au n.sec.grs),rowsD' (Ag aa n.sec.labs),bool n.sec.lab,int n.req.campus,int n.req.no,int n.req.st,int n.req.kind,int n.req.time,rowsD' (Ag Ak n.req.chs),int n.req.gsec,int n.req.glab,int n.req.key,int n.r,int n.s]] (bd n) (bool true) (bd n) from(fun hg=>(AO (@hfe ((bd n)))))) (.c (show(!(!true||!true||Qd (kn<0)||Qd (kn>16777216)))=true→Ev Ai Γq 12 [rowsD' L] (bd n) (int 0) (bd n) from(fun hg=>(@hck ((bd n))))) (.c hcd (.c (@u1 ((bd n))) (.c (@u2 ((bd n))) (.c (show(!(0 != 0||0 != 0||Qd ((↑(Ah X):Int)>(↑(Ah Y):Int))||Qd ((↑(Ah Y):Int)>(↑(Ah L):Int))))=true→some (d6 0 (↑(Ah X):Int) (Ah Y)&&true&&(true||DV (Ez (evalD Γq (Ag b8 (rowsD' L::Ao [int n.time,int n.campus,int n.no,int n.kind,int n.stu,int n.obj,int n.term,int n.val,int n.frm,int n.til,ah n.text,int n.sec.id,int n.sec.course,int n.sec.term,int n.sec.campus,int n.sec.seats,rowsD' (Ag Av n.sec.mts),rowsD' (Ag Au n.sec.grs),rowsD' (Ag aa n.sec.labs),bool n.sec.lab,int n.req.campus,int n.req.no,int n.req.st,int n.req.kind,int n.req.time,rowsD' (Ag Ak n.req.chs),int n.req.gsec,int n.req.glab,int n.req.key,int n.r,int n.s]::mkT 142 0 [(0,int kn),(1,D.p (AQ (CJ CV lt))),(3,.ref (.ptr 0 0)),(6,bool false),(7,rowsD' X),(8,int 0),(9,rowsD' Y),(10,int 0),(18,bool true),(19,bool !true),(20,rowsD' L),(21,bool true),(22,bool !true),(23,bool !true),(24,A4 (!!true) (Ao [int n.time,int n.campus,int n.no,int n.kind,int n.stu,int n.obj,int n.term,int n.val,int n.frm,int n.til,ah n.text,int n.sec.id,int n.sec.course,int n.sec.term,int n.sec.campus,int n.sec.seats,rowsD' (Ag Av n.sec.mts),rowsD' (Ag Au n.sec.grs),rowsD' (Ag aa n.sec.labs),bool n.sec.lab,int n.req.campus,int n.req.no,int n.req.st,int n.req.kind,int n.req.time,rowsD' (Ag Ak n.req.chs),int n.req.gsec,int n.req.glab,int n.req.key,int n.r,int n.s])),(25,A4 (!!true) (bool true)),(26,A4 (!!true) (bool !true)),(27,bool (!true||!true)),(28,bool (!true||!true)),(29,A4 (!(!true||!true)) (int kn)),(30,A4 (!(!true||!true)) (bool (Qd (kn<0)))),(31,bool (!true||!true||Qd (kn<0))),(32,bool (!true||!true||Qd (kn<0))),(33,A4 (!(!true||!true||Qd (kn<0))) (int kn)),(34,A4 (!(!true||!true||Qd (kn<0))) (bool (Qd (kn>16777216)))),(35,bool (!true||!true||Qd (kn<0)||Qd (kn>16777216))),(36,bool (!true||!true||Qd (kn<0)||Qd (kn>16777216))),(37,A4 (!(!true||!true||Qd (kn<0)||Qd (kn>16777216))) (rowsD' L)),(38,A4 (!(!true||!true||Qd (kn<0)||Qd (kn>16777216))) (int 0)),(39,A4 (!(!true||!true||Qd (kn<0)||Qd (kn>16777216))) (bool (0 != 0))),(40,bool (!true||!true||Qd (kn<0)||Qd (kn>16777216)||0 != 0)),(41,AL [rowsD' X,int 0]),(42,rowsD' L),(43,int kn),(44,AL [rowsD' X,int 0]),(45,rowsD' X),(46,int 0),(47,AL [rowsD' Y,int 0]),(48,rowsD' L),(49,int kn),(50,D.p (AQ (CJ CV lt))),(51,int (Aw An lt)),(52,int (Aw An (kn+Aw An lt))),(53,AL [rowsD' Y,int 0]),(54,rowsD' Y),(55,int 0),(56,int 0),(57,bool (0 != 0)),(58,bool (0 != 0)),(59,A4 (!0 != 0) (int 0)),(60,A4 (!0 != 0) (bool (0 != 0))),(61,bool (0 != 0||0 != 0)),(62,bool (0 != 0||0 != 0)),(63,A4 (!(0 != 0||0 != 0)) (rowsD' X)),(64,A4 (!(0 != 0||0 != 0)) (int (↑(Ah X):Int))),(65,A4 (!(0 != 0||0 != 0)) (rowsD' Y)),(66,A4 (!(0 != 0||0 != 0)) (int (↑(Ah Y):Int))),(67,A4 (!(0 != 0||0 != 0)) (bool (Qd ((↑(Ah X):Int)>(↑(Ah Y):Int))))),(68,bool (0 != 0||0 != 0||Qd ((↑(Ah X):Int)>(↑(Ah Y):Int)))),(69,bool (0 != 0||0 != 0||Qd ((↑(Ah X):Int)>(↑(Ah Y):Int)))),(70,A4 (!(0 != 0||0 != 0||Qd ((↑(Ah X):Int)>(↑(Ah Y):Int)))) (rowsD' Y)),(71,A4 (!(0 != 0||0 != 0||Qd ((↑(Ah X):Int)>(↑(Ah Y):Int)))) (int (↑(Ah Y):Int))),(72,A4 (!(0 != 0||0 != 0||Qd ((↑(Ah X):Int)>(↑(Ah Y):Int)))) (rowsD' L)),(73,A4 (!(0 != 0||0 != 0||Qd ((↑(Ah X):Int)>(↑(Ah Y):Int)))) (int (↑(Ah L):Int))),(74,A4 (!(0 != 0||0 != 0||Qd ((↑(Ah X):Int)>(↑(Ah Y):Int)))) (bool (Qd ((↑(Ah Y):Int)>(↑(Ah L):Int))))),(75,bool (0 != 0||0 != 0||Qd ((↑(Ah X):Int)>(↑(Ah Y):Int))||Qd ((↑(Ah Y):Int)>(↑(Ah L):Int)))),(76,bool (0 != 0||0 != 0||Qd ((↑(Ah X):Int)>(↑(Ah Y):Int))||Qd ((↑(Ah Y):Int)>(↑(Ah L):Int)))),(77,A4 (!(0 != 0||0 != 0||Qd ((↑(Ah X):Int)>(↑(Ah Y):Int))||Qd ((↑(Ah Y):Int)>(↑(Ah L):Int)))) (rowsD' X)),(78,A4 (!(0 != 0||0 != 0||Qd ((↑(Ah X):Int)>(↑(Ah Y):Int))||Qd ((↑(Ah Y):Int)>(↑(Ah L):Int)))) (rowsD' Y)),(79,A4 (!(0 != 0||0 != 0||Qd ((↑(Ah X):Int)>(↑(Ah Y):Int))||Qd ((↑(Ah Y):Int)>(↑(Ah L):Int)))) (rowsD' X)),(80,A4 (!(0 != 0||0 != 0||Qd ((↑(Ah X):Int)>(↑(Ah Y):Int))||Qd ((↑(Ah Y):Int)>(↑(Ah L):Int)))) (int (↑(Ah X):Int)))]))) (some (Aq 82))))&&C4 Y fun r=>Qd (Ah r=31),rowsD' (BR (AJ (↑(Ah X):Int) - AJ 0) (BS (AJ 0) Y)))=some (true,rowsD' X) from(fun hg=>?_)) (.c (show(!(0 != 0||0 != 0||Qd ((↑(Ah X):Int)>(↑(Ah Y):Int))||Qd ((↑(Ah Y):Int)>(↑(Ah L):Int))))=true→Ev Ai Γq 19 [rowsD' X,rowsD' X] (bd n) (bool true) (bd n) from(fun hg=>(AO (@s1 ((bd n)))))) (.c (show(!(0 != 0||0 != 0||Qd ((↑(Ah X):Int)>(↑(Ah Y):Int))||Qd ((↑(Ah Y):Int)>(↑(Ah L):Int))||!true))=true→some (d6 0 (↑(Ah Y):Int) (Ah L)&&true&&(true||DV (Ez (evalD Γq (Ag b8 (rowsD' L::Ao [int n.time,int n.campus,int n.no,int n.kind,int n.stu,int n.obj,int n.term,int n.val,int n.frm,int n.til,ah n.text,int n.sec.id,int n.sec.course,int n.sec.term,int n.sec.campus,int n.sec.seats,rowsD' (Ag Av n.sec.mts),rowsD' (Ag Au n.sec.grs),rowsD' (Ag aa n.sec.labs),bool n.sec.lab,int n.req.campus,int n.req.no,int n.req.st,int n.req.kind,int n.req.time,rowsD' (Ag Ak n.req.chs),int n.req.gsec,int n.req.glab,int n.req.key,int n.r,int n.s]::int kn::D.p (AQ (CJ CV lt))::Cd::.ref (.ptr 0 0)::Cd::Cd::bool false::rowsD' X::int 0::rowsD' Y::int 0::Cd::Cd::Cd::Cd::Cd::Cd::Cd::bool true::(bool !true)::rowsD' L::bool true::(bool !true)::(bool !true)::A4 (!!true) (Ao [int n.time,int n.campus,int n.no,int n.kind,int n.stu,int n.obj,int n.term,int n.val,int n.frm,int n.til,ah n.text,int n.sec.id,int n.sec.course,int n.sec.term,int n.sec.campus,int n.sec.seats,rowsD' (Ag Av n.sec.mts),rowsD' (Ag Au n.sec.grs),rowsD' (Ag aa n.sec.labs),bool n.sec.lab,int n.req.campus,int n.req.no,int n.req.st,int n.req.kind,int n.req.time,rowsD' (Ag Ak n.req.chs),int n.req.gsec,int n.req.glab,int n.req.key,int n.r,int n.s])::A4 (!!true) (bool true)::A4 (!!true) (bool !true)::bool (!true||!true)::bool (!true||!true)::A4 (!(!true||!true)) (int kn)::A4 (!(!true||!true)) (bool (Qd (kn<0)))::bool (!true||!true||Qd (kn<0))::bool (!true||!true||Qd (kn<0))::A4 (!(!true||!true||Qd (kn<0))) (int kn)::A4 (!(!true||!true||Qd (kn<0))) (bool (Qd (kn>16777216)))::bool (!true||!true||Qd (kn<0)||Qd (kn>16777216))::bool (!true||!true||Qd (kn<0)||Qd (kn>16777216))::A4 (!(!true||!true||Qd (kn<0)||Qd (kn>16777216))) (rowsD' L)::mkT 104 0 [(0,A4 (!(!true||!true||Qd (kn<0)||Qd (kn>16777216))) (int 0)),(1,A4 (!(!true||!true||Qd (kn<0)||Qd (kn>16777216))) (bool (0 != 0))),(2,bool (!true||!true||Qd (kn<0)||Qd (kn>16777216)||0 != 0)),(3,AL [rowsD' X,int 0]),(4,rowsD' L),(5,int kn),(6,AL [rowsD' X,int 0]),(7,rowsD' X),(8,int 0),(9,AL [rowsD' Y,int 0]),(10,rowsD' L),(11,int kn),(12,D.p (AQ (CJ CV lt))),(13,int (Aw An lt)),(14,int (Aw An (kn+Aw An lt))),(15,AL [rowsD' Y,int 0]),(16,rowsD' Y),(17,int 0),(18,int 0),(19,bool (0 != 0)),(20,bool (0 != 0)),(21,A4 (!0 != 0) (int 0)),(22,A4 (!0 != 0) (bool (0 != 0))),(23,bool (0 != 0||0 != 0)),(24,bool (0 != 0||0 != 0)),(25,A4 (!(0 != 0||0 != 0)) (rowsD' X)),(26,A4 (!(0 != 0||0 != 0)) (int (↑(Ah X):Int))),(27,A4 (!(0 != 0||0 != 0)) (rowsD' Y)),(28,A4 (!(0 != 0||0 != 0)) (int (↑(Ah Y):Int))),(29,A4 (!(0 != 0||0 != 0)) (bool (Qd ((↑(Ah X):Int)>(↑(Ah Y):Int))))),(30,bool (0 != 0||0 != 0||Qd ((↑(Ah X):Int)>(↑(Ah Y):Int)))),(31,bool (0 != 0||0 != 0||Qd ((↑(Ah X):Int)>(↑(Ah Y):Int)))),(32,A4 (!(0 != 0||0 != 0||Qd ((↑(Ah X):Int)>(↑(Ah Y):Int)))) (rowsD' Y)),(33,A4 (!(0 != 0||0 != 0||Qd ((↑(Ah X):Int)>(↑(Ah Y):Int)))) (int (↑(Ah Y):Int))),(34,A4 (!(0 != 0||0 != 0||Qd ((↑(Ah X):Int)>(↑(Ah Y):Int)))) (rowsD' L)),(35,A4 (!(0 != 0||0 != 0||Qd ((↑(Ah X):Int)>(↑(Ah Y):Int)))) (int (↑(Ah L):Int))),(36,A4 (!(0 != 0||0 != 0||Qd ((↑(Ah X):Int)>(↑(Ah Y):Int)))) (bool (Qd ((↑(Ah Y):Int)>(↑(Ah L):Int))))),(37,bool (0 != 0||0 != 0||Qd ((↑(Ah X):Int)>(↑(Ah Y):Int))||Qd ((↑(Ah Y):Int)>(↑(Ah L):Int)))),(38,bool (0 != 0||0 != 0||Qd ((↑(Ah X):Int)>(↑(Ah Y):Int))||Qd ((↑(Ah Y):Int)>(↑(Ah L):Int)))),(39,A4 (!(0 != 0||0 != 0||Qd ((↑(Ah X):Int)>(↑(Ah Y):Int))||Qd ((↑(Ah Y):Int)>(↑(Ah L):Int)))) (rowsD' X)),(40,A4 (!(0 != 0||0 != 0||Qd ((↑(Ah X):Int)>(↑(Ah Y):Int))||Qd ((↑(Ah Y):Int)>(↑(Ah L):Int)))) (rowsD' Y)),(41,A4 (!(0 != 0||0 != 0||Qd ((↑(Ah X):Int)>(↑(Ah Y):Int))||Qd ((↑(Ah Y):Int)>(↑(Ah L):Int)))) (rowsD' X)),(42,A4 (!(0 != 0||0 != 0||Qd ((↑(Ah X):Int)>(↑(Ah Y):Int))||Qd ((↑(Ah Y):Int)>(↑(Ah L):Int)))) (int (↑(Ah X):Int))),(43,A4 (!(0 != 0||0 != 0||Qd ((↑(Ah X):Int)>(↑(Ah Y):Int))||Qd ((↑(Ah Y):Int)>(↑(Ah L):Int)))) (rowsD' X)),(44,A4 (!(0 != 0||0 != 0||Qd ((↑(Ah X):Int)>(↑(Ah Y):Int))||Qd ((↑(Ah Y):Int)>(↑(Ah L):Int)))) (bool true)),(45,A4 (!(0 != 0||0 != 0||Qd ((↑(Ah X):Int)>(↑(Ah Y):Int))||Qd ((↑(Ah Y):Int)>(↑(Ah L):Int)))) (bool !true)),(46,bool (0 != 0||0 != 0||Qd ((↑(Ah X):Int)>(↑(Ah Y):Int))||Qd ((↑(Ah Y):Int)>(↑(Ah L):Int))||!true)),(47,bool (0 != 0||0 != 0||Qd ((↑(Ah X):Int)>(↑(Ah Y):Int))||Qd ((↑(Ah Y):Int)>(↑(Ah L):Int))||!true)),(48,A4 (!(0 != 0||0 != 0||Qd ((↑(Ah X):Int)>(↑(Ah Y):Int))||Qd ((↑(Ah Y):Int)>(↑(Ah L):Int))||!true)) (rowsD' Y)),(49,A4 (!(0 != 0||0 != 0||Qd ((↑(Ah X):Int)>(↑(Ah Y):Int))||Qd ((↑(Ah Y):Int)>(↑(Ah L):Int))||!true)) (rowsD' L)),(50,A4 (!(0 != 0||0 != 0||Qd ((↑(Ah X):Int)>(↑(Ah Y):Int))||Qd ((↑(Ah Y):Int)>(↑(Ah L):Int))||!true)) (rowsD' Y)),(51,A4 (!(0 != 0||0 != 0||Qd ((↑(Ah X):Int)>(↑(Ah Y):Int))||Qd ((↑(Ah Y):Int)>(↑(Ah L):Int))||!true)) (int (↑(Ah Y):Int)))]))) (some (Aq 91))))&&C4 L fun r=>Qd (Ah r=31),rowsD' (BR (AJ (↑(Ah Y):Int) - AJ 0) (BS (AJ 0) L)))=some (true,rowsD' Y) from(fun hg=>?_)) (.c (show(!(0 != 0||0 != 0||Qd ((↑(Ah X):Int)>(↑(Ah Y):Int))||Qd ((↑(Ah Y):Int)>(↑(Ah L):Int))||!true))=true→Ev Ai Γq 19 [rowsD' Y,rowsD' Y] (bd n) (bool true) (bd n) from(fun hg=>(AO (@s2 ((bd n)))))) (.c (show(!(0 != 0||0 != 0||Qd ((↑(Ah X):Int)>(↑(Ah Y):Int))||Qd ((↑(Ah Y):Int)>(↑(Ah L):Int))||!true||!true))=true→Ev Ai Γq 12 [rowsD' X] (bd n) (int 0) (bd n) from(fun hg=>(@cx ((bd n))))) (.c hc7 (.c (@pu ((bd n))) (.c (AO (Γ':=Γq) (@kw ((bd n)))) (.c hc11 .n))))))))))))))))) rfl rfl h) (by rfl) (by rfl)<;>(first|(simp only[];done)|first|assumption|rfl|exact t1|exact t2)
noncomputable abbrev aO(n:EntT):List Blk:=[.var [int n.time,int n.campus,int n.no,int n.kind,int n.stu,int n.obj,int n.term,int n.val,int n.frm,int n.til,ah n.text,int n.sec.id,int n.sec.course,int n.sec.term,int n.sec.campus,int n.sec.seats,rowsD' (Ag Av n.sec.mts),rowsD' (Ag Au n.sec.grs),rowsD' (Ag aa n.sec.labs),bool n.sec.lab,int n.req.campus,int n.req.no,int n.req.st,int n.req.kind,int n.req.time,rowsD' (Ag Ak n.req.chs),int n.req.gsec,int n.req.glab,int n.req.key,int n.r,int n.s]]
theorem ts_b{L X Y Z:List (List Dp)}{n:EntT}{kn lt k ix:Int}(hf:∀h,Ev Ai Γ0 11 [rowsD' L] h (bool true) h)(hfe:∀h,Ev Ai Γ0 16 [ag n.row] h (bool true) h)(hck:∀h,Ev Ai Γq 12 [rowsD' L] h (int 0) h)(hcd:(!true||!true||Qd (kn<0)||Qd (kn>16777216)||(0:Int) != 0)=false)
  (u1:∀h,Ev Ai Γq 22 [rowsD' L,int kn] h (.tup [rowsD' X,int 0]) h) (u2:∀h,Ev Ai Γq 22 [rowsD' L,int (An.wrap (kn+An.wrap lt))] h (.tup [rowsD' Y,int 0]) h)
  (s1:∀h,Ev Ai Γ0 19 [rowsD' X,rowsD' X] h (bool true) h) (s2:∀h,Ev Ai Γ0 19 [rowsD' Y,rowsD' Y] h (bool true) h) (cx:∀h,Ev Ai Γq 12 [rowsD' X] h (int 0) h) (t1:TkT Y X) (t2:TkT L Y)
  (hc7:((0:Int) != 0||(0:Int) != 0||Qd ((X.length:Int)>(Y.length:Int))||Qd ((Y.length:Int)>(L.length:Int))||!true||!true||(0:Int) != 0)=false)
  (pu:∀h,Ev Ai Γq 17 [rowsD' L,ag n.row] h (.tup [rowsD' Z,int ix,int 0]) h) (kw:∀h,Ev Ai Γ0 23 [.agg [int n.time,int n.campus,int n.no]] h (.tup [int k,int 0]) h)
  (hc11:((0:Int) != 0||(0:Int) != 0||Qd (k≤kn))=false) (u3:∀h,Ev Ai Γq 22 [rowsD' Z,int kn] h (.tup [rowsD' X,int 0]) h) (h:List Blk):(Ev Ai Γq 8 [rowsD' L,ag n.row,int kn,lit (.int .u16 lt)] h (bool true) h):=by
 refine AE (AI (d:=bool (0==0&&true)) pok [.val (bool true),.b false,.val (bool true),.val (bool true),.val (int 0),.b false,.val (AL [rowsD' X,int 0]),.val (AL [rowsD' Y,int 0]),.ov 83 (rowsD' X),.val (bool true),.ov 92 (rowsD' Y),.val (bool true),.val (int 0),.b false,.val (AL [rowsD' Z,int ix,int 0]),.val (AL [int k,int 0]),.b false,.val (AL [rowsD' X,int 0]),.val (bool true)] (by kernel_rfl) (.c (@gy ((aO n))) (.c (show(!true)=false from rfl) (.c (AO (Γ':=Γq) (@hf ((aO n)))) (.c (show(!!true)=true→Ev Ai Γq 16 [Ao [int n.time,int n.campus,int n.no,int n.kind,int n.stu,int n.obj,int n.term,int n.val,int n.frm,int n.til,ah n.text,int n.sec.id,int n.sec.course,int n.sec.term,int n.sec.campus,int n.sec.seats,rowsD' (Ag Av n.sec.mts),rowsD' (Ag Au n.sec.grs),rowsD' (Ag aa n.sec.labs),bool n.sec.lab,int n.req.campus,int n.req.no,int n.req.st,int n.req.kind,int n.req.time,rowsD' (Ag Ak n.req.chs),int n.req.gsec,int n.req.glab,int n.req.key,int n.r,int n.s]] (aO n) (bool true) (aO n) from(fun hg=>(AO (@hfe ((aO n)))))) (.c (show(!(!true||!true||Qd (kn<0)||Qd (kn>16777216)))=true→Ev Ai Γq 12 [rowsD' L] (aO n) (int 0) (aO n) from(fun hg=>(@hck ((aO n))))) (.c hcd (.c (@u1 ((aO n))) (.c (@u2 ((aO n))) (.c (show(!(0 != 0||0 != 0||Qd ((↑(Ah X):Int)>(↑(Ah Y):Int))||Qd ((↑(Ah Y):Int)>(↑(Ah L):Int))))=true→some (d6 0 (↑(Ah X):Int) (Ah Y)&&true&&(true||DV (Ez (evalD Γq (Ag b8 (rowsD' L::Ao [int n.time,int n.campus,int n.no,int n.kind,int n.stu,int n.obj,int n.term,int n.val,int n.frm,int n.til,ah n.text,int n.sec.id,int n.sec.course,int n.sec.term,int n.sec.campus,int n.sec.seats,rowsD' (Ag Av n.sec.mts),rowsD' (Ag Au n.sec.grs),rowsD' (Ag aa n.sec.labs),bool n.sec.lab,int n.req.campus,int n.req.no,int n.req.st,int n.req.kind,int n.req.time,rowsD' (Ag Ak n.req.chs),int n.req.gsec,int n.req.glab,int n.req.key,int n.r,int n.s]::mkT 142 0 [(0,int kn),(1,D.p (AQ (CJ CV lt))),(3,.ref (.ptr 0 0)),(6,bool false),(7,rowsD' X),(8,int 0),(9,rowsD' Y),(10,int 0),(18,bool true),(19,bool !true),(20,rowsD' L),(21,bool true),(22,bool !true),(23,bool !true),(24,A4 (!!true) (Ao [int n.time,int n.campus,int n.no,int n.kind,int n.stu,int n.obj,int n.term,int n.val,int n.frm,int n.til,ah n.text,int n.sec.id,int n.sec.course,int n.sec.term,int n.sec.campus,int n.sec.seats,rowsD' (Ag Av n.sec.mts),rowsD' (Ag Au n.sec.grs),rowsD' (Ag aa n.sec.labs),bool n.sec.lab,int n.req.campus,int n.req.no,int n.req.st,int n.req.kind,int n.req.time,rowsD' (Ag Ak n.req.chs),int n.req.gsec,int n.req.glab,int n.req.key,int n.r,int n.s])),(25,A4 (!!true) (bool true)),(26,A4 (!!true) (bool !true)),(27,bool (!true||!true)),(28,bool (!true||!true)),(29,A4 (!(!true||!true)) (int kn)),(30,A4 (!(!true||!true)) (bool (Qd (kn<0)))),(31,bool (!true||!true||Qd (kn<0))),(32,bool (!true||!true||Qd (kn<0))),(33,A4 (!(!true||!true||Qd (kn<0))) (int kn)),(34,A4 (!(!true||!true||Qd (kn<0))) (bool (Qd (kn>16777216)))),(35,bool (!true||!true||Qd (kn<0)||Qd (kn>16777216))),(36,bool (!true||!true||Qd (kn<0)||Qd (kn>16777216))),(37,A4 (!(!true||!true||Qd (kn<0)||Qd (kn>16777216))) (rowsD' L)),(38,A4 (!(!true||!true||Qd (kn<0)||Qd (kn>16777216))) (int 0)),(39,A4 (!(!true||!true||Qd (kn<0)||Qd (kn>16777216))) (bool (0 != 0))),(40,bool (!true||!true||Qd (kn<0)||Qd (kn>16777216)||0 != 0)),(41,AL [rowsD' X,int 0]),(42,rowsD' L),(43,int kn),(44,AL [rowsD' X,int 0]),(45,rowsD' X),(46,int 0),(47,AL [rowsD' Y,int 0]),(48,rowsD' L),(49,int kn),(50,D.p (AQ (CJ CV lt))),(51,int (Aw An lt)),(52,int (Aw An (kn+Aw An lt))),(53,AL [rowsD' Y,int 0]),(54,rowsD' Y),(55,int 0),(56,int 0),(57,bool (0 != 0)),(58,bool (0 != 0)),(59,A4 (!0 != 0) (int 0)),(60,A4 (!0 != 0) (bool (0 != 0))),(61,bool (0 != 0||0 != 0)),(62,bool (0 != 0||0 != 0)),(63,A4 (!(0 != 0||0 != 0)) (rowsD' X)),(64,A4 (!(0 != 0||0 != 0)) (int (↑(Ah X):Int))),(65,A4 (!(0 != 0||0 != 0)) (rowsD' Y)),(66,A4 (!(0 != 0||0 != 0)) (int (↑(Ah Y):Int))),(67,A4 (!(0 != 0||0 != 0)) (bool (Qd ((↑(Ah X):Int)>(↑(Ah Y):Int))))),(68,bool (0 != 0||0 != 0||Qd ((↑(Ah X):Int)>(↑(Ah Y):Int)))),(69,bool (0 != 0||0 != 0||Qd ((↑(Ah X):Int)>(↑(Ah Y):Int)))),(70,A4 (!(0 != 0||0 != 0||Qd ((↑(Ah X):Int)>(↑(Ah Y):Int)))) (rowsD' Y)),(71,A4 (!(0 != 0||0 != 0||Qd ((↑(Ah X):Int)>(↑(Ah Y):Int)))) (int (↑(Ah Y):Int))),(72,A4 (!(0 != 0||0 != 0||Qd ((↑(Ah X):Int)>(↑(Ah Y):Int)))) (rowsD' L)),(73,A4 (!(0 != 0||0 != 0||Qd ((↑(Ah X):Int)>(↑(Ah Y):Int)))) (int (↑(Ah L):Int))),(74,A4 (!(0 != 0||0 != 0||Qd ((↑(Ah X):Int)>(↑(Ah Y):Int)))) (bool (Qd ((↑(Ah Y):Int)>(↑(Ah L):Int))))),(75,bool (0 != 0||0 != 0||Qd ((↑(Ah X):Int)>(↑(Ah Y):Int))||Qd ((↑(Ah Y):Int)>(↑(Ah L):Int)))),(76,bool (0 != 0||0 != 0||Qd ((↑(Ah X):Int)>(↑(Ah Y):Int))||Qd ((↑(Ah Y):Int)>(↑(Ah L):Int)))),(77,A4 (!(0 != 0||0 != 0||Qd ((↑(Ah X):Int)>(↑(Ah Y):Int))||Qd ((↑(Ah Y):Int)>(↑(Ah L):Int)))) (rowsD' X)),(78,A4 (!(0 != 0||0 != 0||Qd ((↑(Ah X):Int)>(↑(Ah Y):Int))||Qd ((↑(Ah Y):Int)>(↑(Ah L):Int)))) (rowsD' Y)),(79,A4 (!(0 != 0||0 != 0||Qd ((↑(Ah X):Int)>(↑(Ah Y):Int))||Qd ((↑(Ah Y):Int)>(↑(Ah L):Int)))) (rowsD' X)),(80,A4 (!(0 != 0||0 != 0||Qd ((↑(Ah X):Int)>(↑(Ah Y):Int))||Qd ((↑(Ah Y):Int)>(↑(Ah L):Int)))) (int (↑(Ah X):Int)))]))) (some (Aq 82))))&&C4 Y fun r=>Qd (Ah r=31),rowsD' (BR (AJ (↑(Ah X):Int) - AJ 0) (BS (AJ 0) Y)))=some (true,rowsD' X) from(fun hg=>?_)) (.c (show(!(0 != 0||0 != 0||Qd ((↑(Ah X):Int)>(↑(Ah Y):Int))||Qd ((↑(Ah Y):Int)>(↑(Ah L):Int))))=true→Ev Ai Γq 19 [rowsD' X,rowsD' X] (aO n) (bool true) (aO n) from(fun hg=>(AO (@s1 ((aO n)))))) (.c (show(!(0 != 0||0 != 0||Qd ((↑(Ah X):Int)>(↑(Ah Y):Int))||Qd ((↑(Ah Y):Int)>(↑(Ah L):Int))||!true))=true→some (d6 0 (↑(Ah Y):Int) (Ah L)&&true&&(true||DV (Ez (evalD Γq (Ag b8 (rowsD' L::Ao [int n.time,int n.campus,int n.no,int n.kind,int n.stu,int n.obj,int n.term,int n.val,int n.frm,int n.til,ah n.text,int n.sec.id,int n.sec.course,int n.sec.term,int n.sec.campus,int n.sec.seats,rowsD' (Ag Av n.sec.mts),rowsD' (Ag Au n.sec.grs),rowsD' (Ag aa n.sec.labs),bool n.sec.lab,int n.req.campus,int n.req.no,int n.req.st,int n.req.kind,int n.req.time,rowsD' (Ag Ak n.req.chs),int n.req.gsec,int n.req.glab,int n.req.key,int n.r,int n.s]::int kn::D.p (AQ (CJ CV lt))::Cd::.ref (.ptr 0 0)::Cd::Cd::bool false::rowsD' X::int 0::rowsD' Y::int 0::Cd::Cd::Cd::Cd::Cd::Cd::Cd::bool true::(bool !true)::rowsD' L::bool true::(bool !true)::(bool !true)::A4 (!!true) (Ao [int n.time,int n.campus,int n.no,int n.kind,int n.stu,int n.obj,int n.term,int n.val,int n.frm,int n.til,ah n.text,int n.sec.id,int n.sec.course,int n.sec.term,int n.sec.campus,int n.sec.seats,rowsD' (Ag Av n.sec.mts),rowsD' (Ag Au n.sec.grs),rowsD' (Ag aa n.sec.labs),bool n.sec.lab,int n.req.campus,int n.req.no,int n.req.st,int n.req.kind,int n.req.time,rowsD' (Ag Ak n.req.chs),int n.req.gsec,int n.req.glab,int n.req.key,int n.r,int n.s])::A4 (!!true) (bool true)::A4 (!!true) (bool !true)::bool (!true||!true)::bool (!true||!true)::A4 (!(!true||!true)) (int kn)::A4 (!(!true||!true)) (bool (Qd (kn<0)))::bool (!true||!true||Qd (kn<0))::bool (!true||!true||Qd (kn<0))::A4 (!(!true||!true||Qd (kn<0))) (int kn)::A4 (!(!true||!true||Qd (kn<0))) (bool (Qd (kn>16777216)))::bool (!true||!true||Qd (kn<0)||Qd (kn>16777216))::bool (!true||!true||Qd (kn<0)||Qd (kn>16777216))::A4 (!(!true||!true||Qd (kn<0)||Qd (kn>16777216))) (rowsD' L)::mkT 104 0 [(0,A4 (!(!true||!true||Qd (kn<0)||Qd (kn>16777216))) (int 0)),(1,A4 (!(!true||!true||Qd (kn<0)||Qd (kn>16777216))) (bool (0 != 0))),(2,bool (!true||!true||Qd (kn<0)||Qd (kn>16777216)||0 != 0)),(3,AL [rowsD' X,int 0]),(4,rowsD' L),(5,int kn),(6,AL [rowsD' X,int 0]),(7,rowsD' X),(8,int 0),(9,AL [rowsD' Y,int 0]),(10,rowsD' L),(11,int kn),(12,D.p (AQ (CJ CV lt))),(13,int (Aw An lt)),(14,int (Aw An (kn+Aw An lt))),(15,AL [rowsD' Y,int 0]),(16,rowsD' Y),(17,int 0),(18,int 0),(19,bool (0 != 0)),(20,bool (0 != 0)),(21,A4 (!0 != 0) (int 0)),(22,A4 (!0 != 0) (bool (0 != 0))),(23,bool (0 != 0||0 != 0)),(24,bool (0 != 0||0 != 0)),(25,A4 (!(0 != 0||0 != 0)) (rowsD' X)),(26,A4 (!(0 != 0||0 != 0)) (int (↑(Ah X):Int))),(27,A4 (!(0 != 0||0 != 0)) (rowsD' Y)),(28,A4 (!(0 != 0||0 != 0)) (int (↑(Ah Y):Int))),(29,A4 (!(0 != 0||0 != 0)) (bool (Qd ((↑(Ah X):Int)>(↑(Ah Y):Int))))),(30,bool (0 != 0||0 != 0||Qd ((↑(Ah X):Int)>(↑(Ah Y):Int)))),(31,bool (0 != 0||0 != 0||Qd ((↑(Ah X):Int)>(↑(Ah Y):Int)))),(32,A4 (!(0 != 0||0 != 0||Qd ((↑(Ah X):Int)>(↑(Ah Y):Int)))) (rowsD' Y)),(33,A4 (!(0 != 0||0 != 0||Qd ((↑(Ah X):Int)>(↑(Ah Y):Int)))) (int (↑(Ah Y):Int))),(34,A4 (!(0 != 0||0 != 0||Qd ((↑(Ah X):Int)>(↑(Ah Y):Int)))) (rowsD' L)),(35,A4 (!(0 != 0||0 != 0||Qd ((↑(Ah X):Int)>(↑(Ah Y):Int)))) (int (↑(Ah L):Int))),(36,A4 (!(0 != 0||0 != 0||Qd ((↑(Ah X):Int)>(↑(Ah Y):Int)))) (bool (Qd ((↑(Ah Y):Int)>(↑(Ah L):Int))))),(37,bool (0 != 0||0 != 0||Qd ((↑(Ah X):Int)>(↑(Ah Y):Int))||Qd ((↑(Ah Y):Int)>(↑(Ah L):Int)))),(38,bool (0 != 0||0 != 0||Qd ((↑(Ah X):Int)>(↑(Ah Y):Int))||Qd ((↑(Ah Y):Int)>(↑(Ah L):Int)))),(39,A4 (!(0 != 0||0 != 0||Qd ((↑(Ah X):Int)>(↑(Ah Y):Int))||Qd ((↑(Ah Y):Int)>(↑(Ah L):Int)))) (rowsD' X)),(40,A4 (!(0 != 0||0 != 0||Qd ((↑(Ah X):Int)>(↑(Ah Y):Int))||Qd ((↑(Ah Y):Int)>(↑(Ah L):Int)))) (rowsD' Y)),(41,A4 (!(0 != 0||0 != 0||Qd ((↑(Ah X):Int)>(↑(Ah Y):Int))||Qd ((↑(Ah Y):Int)>(↑(Ah L):Int)))) (rowsD' X)),(42,A4 (!(0 != 0||0 != 0||Qd ((↑(Ah X):Int)>(↑(Ah Y):Int))||Qd ((↑(Ah Y):Int)>(↑(Ah L):Int)))) (int (↑(Ah X):Int))),(43,A4 (!(0 != 0||0 != 0||Qd ((↑(Ah X):Int)>(↑(Ah Y):Int))||Qd ((↑(Ah Y):Int)>(↑(Ah L):Int)))) (rowsD' X)),(44,A4 (!(0 != 0||0 != 0||Qd ((↑(Ah X):Int)>(↑(Ah Y):Int))||Qd ((↑(Ah Y):Int)>(↑(Ah L):Int)))) (bool true)),(45,A4 (!(0 != 0||0 != 0||Qd ((↑(Ah X):Int)>(↑(Ah Y):Int))||Qd ((↑(Ah Y):Int)>(↑(Ah L):Int)))) (bool !true)),(46,bool (0 != 0||0 != 0||Qd ((↑(Ah X):Int)>(↑(Ah Y):Int))||Qd ((↑(Ah Y):Int)>(↑(Ah L):Int))||!true)),(47,bool (0 != 0||0 != 0||Qd ((↑(Ah X):Int)>(↑(Ah Y):Int))||Qd ((↑(Ah Y):Int)>(↑(Ah L):Int))||!true)),(48,A4 (!(0 != 0||0 != 0||Qd ((↑(Ah X):Int)>(↑(Ah Y):Int))||Qd ((↑(Ah Y):Int)>(↑(Ah L):Int))||!true)) (rowsD' Y)),(49,A4 (!(0 != 0||0 != 0||Qd ((↑(Ah X):Int)>(↑(Ah Y):Int))||Qd ((↑(Ah Y):Int)>(↑(Ah L):Int))||!true)) (rowsD' L)),(50,A4 (!(0 != 0||0 != 0||Qd ((↑(Ah X):Int)>(↑(Ah Y):Int))||Qd ((↑(Ah Y):Int)>(↑(Ah L):Int))||!true)) (rowsD' Y)),(51,A4 (!(0 != 0||0 != 0||Qd ((↑(Ah X):Int)>(↑(Ah Y):Int))||Qd ((↑(Ah Y):Int)>(↑(Ah L):Int))||!true)) (int (↑(Ah Y):Int)))]))) (some (Aq 91))))&&C4 L fun r=>Qd (Ah r=31),rowsD' (BR (AJ (↑(Ah Y):Int) - AJ 0) (BS (AJ 0) L)))=some (true,rowsD' Y) from(fun hg=>?_)) (.c (show(!(0 != 0||0 != 0||Qd ((↑(Ah X):Int)>(↑(Ah Y):Int))||Qd ((↑(Ah Y):Int)>(↑(Ah L):Int))||!true))=true→Ev Ai Γq 19 [rowsD' Y,rowsD' Y] (aO n) (bool true) (aO n) from(fun hg=>(AO (@s2 ((aO n)))))) (.c (show(!(0 != 0||0 != 0||Qd ((↑(Ah X):Int)>(↑(Ah Y):Int))||Qd ((↑(Ah Y):Int)>(↑(Ah L):Int))||!true||!true))=true→Ev Ai Γq 12 [rowsD' X] (aO n) (int 0) (aO n) from(fun hg=>(@cx ((aO n))))) (.c hc7 (.c (@pu ((aO n))) (.c (AO (Γ':=Γq) (@kw ((aO n)))) (.c hc11 (.c (@u3 ((aO n))) (.c (show(0==0)=true→Ev Ai Γq 19 [rowsD' X,rowsD' X] (aO n) (bool true) (aO n) from(fun hg=>(AO (@s1 ((aO n)))))) .n))))))))))))))))))) rfl rfl h) (by rfl) (by rfl)<;>(first|(simp only[];done)|first|assumption|rfl|exact t1|exact t2)
theorem zJ{e:EntT}(h:uB e=true):e.ok:=by
 simp only[uB,Ap,decide_eq_true_eq,CE] at h
 exact⟨by unfold ao;omega,by unfold ao;omega,by unfold ao;omega,by unfold ao;omega⟩
theorem zK{l:List EntT}(h:zz l=true):l.length≤16:=by
 unfold zz at h
 simp only[Ap,decide_eq_true_eq,CE] at h
 omega
theorem Led.of_joR{a b y:List EntT}(A:Led a)(B:Led b)(h:joR a b=some y)(hl:a.length+b.length≤65536):Led y∧Uni a b y:=by
 obtain⟨U,F⟩:=(uI A.f.sorted B.f.sorted A.e B.e y).1 h
 have:=pI h
 exact⟨⟨by omega,U.val A.e B.e,F⟩,U⟩
theorem Uni.ok{a b y:List EntT}(U:Uni a b y)(oa:∀e∈a,e.ok)(ob:∀e∈b,e.ok):∀e∈y,e.ok:=fun e he=>by
 rcases(U.2 e).1 he with h|h
 ·exact oa e h
 ·exact ob e h
def upF(kn:Int)(l:List EntT):List EntT:=l.filter fun e=>Qd (knT e.st≤kn)
theorem wu(kn:Int)(p:List EntT)(e:EntT):upF kn (p++[e])=match Qd (knT e.st≤kn) with|true=>upF kn p++[e]|false=>upF kn p:=by
 unfold upF
 rw[List.filter_append]
 cases h:Qd (knT e.st≤kn)<;>simp_all
theorem uL{l:List EntT}{kn:Int}(hs:l.length≤60000)(V:Val l):CW Ai Γq [] false (.loop (sub EG 0)) (upS (l.map AB) kn [] 0) (.exit 0) (upE (upF kn l)):=by
 have:=CW.loopN (P:=Ai) (Γ:=Γq) (h0:=[]) (rd:=false) (c:=sub EG 0) l.length (fun j=>upS (l.map AB) kn (upF kn (l.take j)) (j:Int)) (e:=.exit 0) (s':=upE (upF kn l)) (by simp) (fun j hj=>?_) ?_
 ·exact this
 ·have hje:l[j]? = some l[j]:=List.getElem?_eq_getElem hj
  have hr:=rowAt (row:=AB) (sz:=31) hje rfl
  have hw:=wrap_succ hj (show l.length≤_ by omega)
  have he:=V l[j] (List.getElem_mem hj)
  have hkn:∀h,Ev Ai Γ0 23 [.agg [int l[j].time,int l[j].campus,int l[j].no]] h (.tup [int (knT l[j].st),int 0]) h:=fun h=>uJ (s:=l[j].st) (fun h=>iX h) (by rw[gu he];rfl) h
  have hlen:(upF kn (l.take j)).length≤1000000:=by
   have:=CF (fun e=>Qd (knT e.st≤kn)) (l.take j)
   have h2:=List.length_take_le j l
   unfold upF
   omega
  have e1:upF kn (l.take (j+1))=match Qd (knT l[j].st≤kn) with|true=>upF kn (l.take j)++[l[j]]|false=>upF kn (l.take j):=by
   rw[List.take_succ_eq_append_getElem hj,wu]
  rw[e1]
  cases hq:Qd (knT l[j].st≤kn) with
  | true=>exact up_yes hr (lt_len AB hj) hw hkn (by rw[hq];rfl) hlen
  | false=>exact up_no hr (lt_len AB hj) hw hkn (by rw[hq];rfl)
 ·rw[List.take_length]
  exact zI (bE AB l)
theorem pJ{l:List EntT}{kn:Int}(hs:l.length≤60000)(A:Led l)(ol:∀e∈l,e.ok)(h:List Blk):Ev Ai Γq 22 [rowsD' (l.map AB),int kn] h (.tup [rowsD' ((upF kn l).map AB),int 0]) h:=by
 have hck:=fun h=>qY (l:=l) (show l.length≤_ by omega) ol h
 rw[mY.2 A] at hck
 exact up_a hck (uL hs A.e) h
theorem w7{e:EntT}(h:aP e=0):knT e.st=8*e.time+e.campus:=by
 have:=kj h
 have e1:e.st.time=e.time:=rfl
 have e2:e.st.campus=e.campus:=rfl
 unfold knT
 rw[e1,e2,wrap_i64 (n:=8*e.time) (by omega) (by omega),wrap_i64 (by omega) (by omega)]
theorem wv{a b:EntT}(ha:aP a=0)(hb:aP b=0)(h:eH a.st b.st):knT a.st≤knT b.st:=by
 rw[w7 ha,w7 hb]
 have h1:=kj ha
 have h2:=kj hb
 have e1:a.st.time=a.time:=rfl
 have e2:b.st.time=b.time:=rfl
 have e3:a.st.campus=a.campus:=rfl
 have e4:b.st.campus=b.campus:=rfl
 unfold eH at h
 rw[e1,e2,e3,e4] at h
 omega
theorem na{kn:Int}:∀{l:List EntT},cF l→Val l→upF kn l=l.take (upF kn l).length
 | [],_,_=>rfl
 | a::l,S,V=>by
  have hS:=Bu.1 S
  have Vl:Val l:=fun e he=>V e (by simp[he])
  unfold upF
  rw[List.filter_cons]
  cases hq:Qd (knT a.st≤kn) with
  | true =>
   simp only[if_true,Bq,List.take_succ_cons]
   congr 1
   exact na hS.2 Vl
  | false =>
   have hn:l.filter (fun e=>Qd (knT e.st≤kn))=[]:=by
    rw[List.filter_eq_nil_iff]
    intro e he
    have:=wv (V a (by simp)) (V e (by simp[he])) (hS.1 e he)
    simp at hq ⊢
    omega
   simp only[Bc,if_false,hn,BG,List.take_zero]
theorem w8{l:List EntT}{k:Nat}{x:List EntT}(hx:x=l.take k)(hk:x.length=k)(hl:k≤l.length):TkT (l.map AB) (x.map AB):=by
 unfold TkT
 have h1:((l.map AB).all fun r=>Qd (r.length=31))=true:=by
  rw[List.all_map]
  exact AP.2 fun e _=>rfl
 have h2:BR ((((x.map AB).length:Nat):Int).toNat - AJ 0) (BS (AJ 0) (l.map AB))=x.map AB:=by
  have e1:(((x.map AB).length:Nat):Int).toNat - AJ 0=k:=by simp[hk]
  have e2:BS (AJ 0) (l.map AB)=l.map AB:=rfl
  rw[e1,e2,hx,List.map_take]
 have h3:d6 0 (((x.map AB).length:Nat):Int) (l.map AB).length=true:=by
  simp[d6]
  omega
 rw[h1,h2,h3]
 rfl
theorem Led.upF{l:List EntT}(A:Led l)(kn:Int):Led (upF kn l):=by
 have h1:(Vi.upF kn l).length≤l.length:=CF _ _
 have:=A.len
 exact⟨by omega,fun e he=>A.e e (Ch.1 he).1,A.f.sublist En⟩
theorem uM{k1 k2:Int}(h:k1≤k2)(l:List EntT):upF k1 (upF k2 l)=upF k1 l:=by
 unfold upF
 rw[List.filter_filter]
 apply List.filter_congr
 intro e _
 cases h1:Qd (knT e.st≤k1) with
 | false=>rfl
 | true =>
  have:Qd (knT e.st≤k2)=true:=by simp at h1 ⊢;omega
  rw[this];rfl
theorem rp{l:List EntT}{n:EntT}(h:(sA l n).2.2=0):∃y,dZ l=0∧aP n=0∧joR l [n]=some y∧sA l n=(y,idxR n y,0):=by
 unfold sA at h ⊢
 cases h1:dZ l != 0 with
 | true=>rw[h1] at h;simp at h1;exact absurd h h1
 | false =>
  rw[h1] at h
  cases h2:aP n != 0 with
  | true=>rw[h2] at h;simp at h2;exact absurd h h2
  | false =>
   rw[h2] at h
   simp only at h ⊢
   cases h3:joR l [n] with
   | none=>rw[h3] at h;cases h
   | some y=>exact⟨y,by simpa using h1,by simpa using h2,rfl,rfl⟩
theorem Led.one{n:EntT}(h:aP n=0):Led [n]:=⟨by simp,by intro e he;simp at he;subst he;exact h,by simp[Fits]⟩
theorem zL{l y:List EntT}{n:EntT}{kn:Int}(A:Led l)(hn:aP n=0)(h:joR l [n]=some y)(hk:¬knT n.st≤kn):upF kn y=upF kn l:=by
 obtain⟨U,F⟩:=(uI A.f.sorted (Led.one hn).f.sorted A.e (Led.one hn).e y).1 h
 refine ko (U.1.sublist En) (A.f.sorted.sublist En) fun e=>?_
 unfold upF
 rw[Ch,Ch,U.2 e]
 constructor
 ·rintro⟨h1|h1,h2⟩
  ·exact⟨h1,h2⟩
  ·simp at h1
   subst h1
   simp at h2
   exact absurd h2 hk
 ·rintro⟨h1,h2⟩
  exact⟨.inl h1,h2⟩
theorem nb{l:List EntT}{n:EntT}{kn lt:Int}(sl:ao l)(hlt:(Lit.int .u16 lt).wf=true)(h:List Blk):Ev Ai Γq 8 [rowsD' (l.map AB),ag n.row,int kn,lit (.int .u16 lt)] h (bool true) h:=by
 have f1:=fun h=>few_ev sl h
 have f2:=fun h=>uC (e:=n) h
 cases w1:zz l with
 | false=>rw[w1] at f1;exact ts_few f1 f2 (fun _ h=>h.elim) h
 | true =>
  rw[w1] at f1
  have ol:=few_ok w1
  have ll:=zK w1
  have c1:=fun h=>qY sl ol h
  cases hcd:(!true||!uB n||Qd (kn<0)||Qd (kn>16777216)||dZ l != 0) with
  | true=>exact ts_out f1 f2 c1 hcd h
  | false =>
   have hcd':=hcd
   simp only[Cw,bne_eq_false_iff_eq,Bool.not_eq_false',decide_eq_false_iff_not] at hcd'
   obtain⟨⟨⟨⟨_,w2⟩,k0⟩,k1⟩,hl⟩:=hcd'
   rw[w2] at f2
   rw[hl] at c1
   rw[w2,hl] at hcd
   have A:=mY.1 hl
   have on:=zJ w2
   have hlt2:0≤lt∧lt≤65535:=by
    have h2:=hlt
    simp only[Lit.wf,Ap,decide_eq_true_eq] at h2
    have a1:IntKind.min .u16=0:=by decide
    have a2:IntKind.max .u16=65535:=by decide
    omega
   have hk2:An.wrap (kn+An.wrap lt)=kn+lt:=by
    rw[wrap_i64 (n:=lt) (by omega) (by omega),wrap_i64 (by omega) (by omega)]
   have hkk:kn≤An.wrap (kn+An.wrap lt):=by omega
   generalize hk2v:An.wrap (kn+An.wrap lt)=k2 at hkk
   have X:=A.upF kn
   have Y:=A.upF k2
   have ox:∀e∈upF kn l,e.ok:=fun e he=>ol e (Ch.1 he).1
   have oy:∀e∈upF k2 l,e.ok:=fun e he=>ol e (Ch.1 he).1
   have lx:(upF kn l).length≤l.length:=CF _ _
   have ly:(upF k2 l).length≤l.length:=CF _ _
   have lxy:(upF kn l).length≤(upF k2 l).length:=by
    rw[←uM hkk l]
    exact CF _ _
   have u1:=fun h=>pJ (l:=l) (kn:=kn) (by omega) A ol h
   have u2:=fun h=>pJ (l:=l) (kn:=k2) (by omega) A ol h
   have cx:=fun h=>qY (l:=upF kn l) (show(upF kn l).length≤_ by omega) ox h
   rw[mY.2 X] at cx
   have t1:TkT ((upF k2 l).map AB) ((upF kn l).map AB):=by
    have:=na (kn:=kn) Y.f.sorted Y.e
    rw[uM hkk l] at this
    exact w8 this rfl lxy
   have t2:TkT (l.map AB) ((upF k2 l).map AB):=w8 (na (kn:=k2) A.f.sorted A.e) rfl ly
   have hc7:((0:Int) != 0||(0:Int) != 0||Qd (((((upF kn l).map AB).length:Nat):Int)>((((upF k2 l).map AB).length:Nat):Int))||Qd (((((upF k2 l).map AB).length:Nat):Int)>(((l.map AB).length:Nat):Int))||!true||!true||(0:Int) != 0)=false:=by
    simp
    omega
   have s1:=fun h=>ro (l:=upF kn l) (show(upF kn l).length≤_ by omega) ox h
   have s2:=fun h=>ro (l:=upF k2 l) (show(upF k2 l).length≤_ by omega) oy h
   have pu:=fun h=>zC (l:=l) (n:=n) (by omega) ol on h
   rw[←hk2v] at u2 s2 t1 t2 hc7
   cases hn:eX n.st != 0 with
   | true =>
    have kw:∀h,Ev Ai Γ0 23 [.agg [int n.time,int n.campus,int n.no]] h (.tup [int 0,int (eX n.st)]) h:=fun h=>zH (s:=n.st) (fun h=>iX h) hn h
    have:=ts_a f1 f2 c1 hcd u1 u2 s1 s2 cx t1 t2 hc7 pu kw (by rw[hn,Bool.or_true,Bool.true_or]) h
    have hg:((sA l n).2.2 != 0||eX n.st==0)=true:=by
     cases hg:(sA l n).2.2 != 0 with
     | true=>rfl
     | false =>
      obtain⟨y,_,h2,_⟩:=rp (show(sA l n).2.2=0 by simpa using hg)
      rw[gu h2] at hn
      cases hn
    rw[hg] at this
    exact this
   | false =>
    have hn0:eX n.st=0:=by simpa using hn
    have kw:∀h,Ev Ai Γ0 23 [.agg [int n.time,int n.campus,int n.no]] h (.tup [int (knT n.st),int 0]) h:=fun h=>uJ (s:=n.st) (fun h=>iX h) (by rw[hn0];rfl) h
    cases hc11:((sA l n).2.2 != 0||(0:Int) != 0||Qd (knT n.st≤kn)) with
    | true =>
     have:=ts_a f1 f2 c1 hcd u1 u2 s1 s2 cx t1 t2 hc7 pu kw hc11 h
     have hg:((sA l n).2.2 != 0||(0:Int)==0)=true:=by simp
     rw[hg] at this
     exact this
    | false =>
     have hc:=hc11
     simp only[Cw,bne_eq_false_iff_eq,decide_eq_false_iff_not] at hc
     obtain⟨y,_,en,hj,hp⟩:=rp hc.1.1
     rw[hp] at pu hc11
     obtain⟨Z,U⟩:=A.of_joR (Led.one en) hj (by simp only[Bq,BG];omega)
     have lz:=pI hj
     simp only[Bq,BG] at lz
     have u3:=fun h=>pJ (l:=y) (kn:=kn) (by omega) Z (U.ok ol (by simpa using on)) h
     rw[zL A en hj hc.2] at u3
     exact ts_b f1 f2 c1 hcd u1 u2 s1 s2 cx t1 t2 hc7 pu kw hc11 u3 h
end Go.Vi
