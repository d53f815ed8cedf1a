/- LedgerLast: part of the proof: contracts of the functions that the law reaches, and the law. No conditions beyond the given statement's own. -/
import Derived.Test.YtoincdhjcahadaaGreatDoorW5
open Decidable renaming decide → Dd
open Go Go.Proofs
namespace Go.Vi
set_option maxRecDepth 100000
set_option maxHeartbeats 4000000
def StLt(a b:StT):Prop:=a.time<b.time∨(a.time=b.time∧(a.campus<b.campus∨(a.campus=b.campus∧a.no<b.no)))
theorem cmp8_cases(a b:Int):(a<b∧cmp8 a b = -1)∨(a=b∧cmp8 a b=0)∨(b<a∧cmp8 a b=1):=by
 unfold cmp8
 rcases Int.lt_trichotomy a b with h|h|h
 ·left;rw[decide_eq_true h];exact⟨h,rfl⟩
 ·right;left;subst h;simp
 ·right;right
  have h1:Dd (a<b)=false:=by simp;omega
  have h2:Dd (a>b)=true:=by simp;omega
  rw[h1,h2];exact⟨h,rfl⟩
theorem stCmp8_cases(a b:StT):(StLt a b∧stCmp8 a b = -1)∨(¬StLt a b∧¬StLt b a∧stCmp8 a b=0)∨(StLt b a∧stCmp8 a b=1):=by
 unfold stCmp8 StLt
 rcases cmp8_cases a.time b.time with ⟨h1,e1⟩|⟨h1,e1⟩|⟨h1,e1⟩<;>rw[e1]
 ·left;exact⟨.inl h1,rfl⟩
 ·rcases cmp8_cases a.campus b.campus with ⟨h2,e2⟩|⟨h2,e2⟩|⟨h2,e2⟩<;>rw[e2]
  ·left;exact⟨.inr ⟨h1,.inl h2⟩,rfl⟩
  ·rcases cmp8_cases a.no b.no with ⟨h3,e3⟩|⟨h3,e3⟩|⟨h3,e3⟩<;>rw[e3]
   ·left;exact⟨.inr ⟨h1,.inr ⟨h2,h3⟩⟩,rfl⟩
   ·right;left;exact⟨by omega,by omega,rfl⟩
   ·right;right;exact⟨by omega,rfl⟩
  ·right;right;exact⟨by omega,rfl⟩
 ·right;right;exact⟨.inl h1,rfl⟩
theorem stCmp_eq(a b:StT):stCmp a b=stCmp8 a b:=by
 unfold stCmp stEq stCmp8 firstR
 rcases cmp8_cases a.time b.time with ⟨h1,e1⟩|⟨h1,e1⟩|⟨h1,e1⟩<;>rw[e1]
 ·have:(a.time==b.time)=false:=by simp;omega
  rw[this];rfl
 ·rcases cmp8_cases a.campus b.campus with ⟨h2,e2⟩|⟨h2,e2⟩|⟨h2,e2⟩<;>rw[e2]
  ·have:(a.campus==b.campus)=false:=by simp;omega
   rw[this,Bool.false_and,Bool.and_false];rfl
  ·rcases cmp8_cases a.no b.no with ⟨h3,e3⟩|⟨h3,e3⟩|⟨h3,e3⟩<;>rw[e3]
   ·have:(a.no==b.no)=false:=by simp;omega
    rw[this,Bool.false_and,Bool.and_false,Bool.and_false];rfl
   ·rw[h1,h2,h3];simp
   ·have:(a.no==b.no)=false:=by simp;omega
    rw[this,Bool.false_and,Bool.and_false,Bool.and_false];rfl
  ·have:(a.campus==b.campus)=false:=by simp;omega
   rw[this,Bool.false_and,Bool.and_false];rfl
 ·have:(a.time==b.time)=false:=by simp;omega
  rw[this];rfl
theorem cmp_ge(a b:StT):stCmp8 a b≥0 ↔ ¬StLt a b:=by
 rcases stCmp8_cases a b with ⟨h,e⟩|⟨h,_,e⟩|⟨h,e⟩<;>rw[e]
 ·exact⟨fun h=>by omega,fun h2=>absurd h h2⟩
 ·exact⟨fun _=>h,fun _=>by omega⟩
 ·refine⟨fun _ h2=>?_,fun _=>by omega⟩
  unfold StLt at h h2
  omega
abbrev z0:StT:=⟨0,0,0⟩
structure FitI (pre:List EntT) (s:List StT×Option StT):Prop where
 n:s.1.length=7
 c:∀c:Nat,c<7→(s.1.getD c z0=z0∧∀y∈pre,y.campus ≠ c)∨∃x∈pre,s.1.getD c z0=x.st∧x.campus=c∧∀y∈pre,y.campus=c→y.time≤x.time∧y.no≤x.no
 p:(s.2=none∧pre=[])∨∃x∈pre,s.2=some x.st∧∀y∈pre,¬StLt x.st y.st
 v:∀y∈pre,1≤y.no
def prevBad(s:StT)(o:Option StT):Bool:=match o with
 | none=>false
 | some p=>Dd (stCmp p s≥0)
theorem fit_cond{pre:List EntT}{s:List StT×Option StT}(I:FitI pre s)(e:EntT)(h0:0≤e.campus)(h7:e.campus<7):
  (prevBad e.st s.2||fiB (s.1.getD e.st.campus.toNat z0) e.st)=pre.any (fun x=>ftBad x.st e.st):=by
 have hc:((e.st.campus.toNat:Nat):Int)=e.campus:=by show((e.campus.toNat:Nat):Int)=_;omega
 have hlt:e.st.campus.toNat<7:=by omega
 rw[Bool.eq_iff_iff,Bool.or_eq_true,List.any_eq_true]
 constructor
 ·rintro (h|h)
  ·rcases I.p with ⟨h1,_⟩|⟨x,hx,h1,_⟩
   ·rw[h1] at h;cases h
   ·rw[h1] at h
    refine⟨x,hx,?_⟩
    unfold ftBad
    have:Dd (stCmp8 x.st e.st≥0)=true:=by rw[←stCmp_eq];exact h
    rw[this];rfl
  ·rcases I.c _ hlt with ⟨h1,_⟩|⟨x,hx,h1,h2,_⟩
   ·rw[h1] at h;cases h
   ·rw[h1] at h
    refine⟨x,hx,?_⟩
    unfold ftBad
    have hcc:(x.st.campus==e.st.campus)=true:=by
     show(x.campus==e.campus)=true
     rw[h2,hc];simp
    unfold fiB at h
    rw[Bool.and_eq_true] at h
    rw[hcc,h.2];simp
 ·rintro⟨y,hy,h⟩
  unfold ftBad at h
  rw[Bool.or_eq_true] at h
  rcases h with h|h
  ·left
   rcases I.p with ⟨_,h1⟩|⟨x,hx,h1,h2⟩
   ·rw[h1] at hy;cases hy
   ·rw[h1]
    show Dd (stCmp x.st e.st≥0)=true
    rw[stCmp_eq]
    have ha:=(cmp_ge y.st e.st).1 (by simpa using h)
    have hb:=h2 y hy
    simp only[decide_eq_true_eq]
    rw[cmp_ge]
    unfold StLt at *
    omega
  ·right
   rw[Bool.and_eq_true] at h
   have hcc:y.campus=((e.st.campus.toNat:Nat):Int):=by rw[hc];exact eq_of_beq h.1
   rcases I.c _ hlt with ⟨_,h1⟩|⟨x,hx,h1,h2,h3⟩
   ·exact absurd hcc (h1 y hy)
   ·rw[h1]
    have ⟨ht,hn⟩:=h3 y hy hcc
    have hv:=I.v x hx
    have hor:=h.2
    rw[Bool.or_eq_true] at hor
    simp only[decide_eq_true_eq] at hor
    unfold fiB
    rw[Bool.and_eq_true,Bool.or_eq_true]
    simp only[decide_eq_true_eq]
    refine⟨?_,?_⟩
    ·show x.no>0
     omega
    ·rcases hor with ho|ho
     ·left
      show x.time≥e.st.time
      have:y.st.time=y.time:=rfl
      omega
     ·right
      show x.no≥e.st.no
      have:y.st.no=y.no:=rfl
      omega
theorem fit_next{pre:List EntT}{s:List StT×Option StT}(I:FitI pre s)(e:EntT)(h0:0≤e.campus)(h7:e.campus<7)(hn:1≤e.no)(hb:pre.any (fun x=>ftBad x.st e.st)=false):
  FitI (pre++[e]) (s.1.set e.st.campus.toNat e.st,some e.st):=by
 have hc:((e.st.campus.toNat:Nat):Int)=e.campus:=by show((e.campus.toNat:Nat):Int)=_;omega
 have hlt:e.st.campus.toNat<7:=by omega
 rw[List.any_eq_false] at hb
 have hall:∀y∈pre,StLt y.st e.st∧(y.campus=e.campus→y.time<e.time∧y.no<e.no):=by
  intro y hy
  have:=hb y hy
  unfold ftBad at this
  simp only[Bool.or_eq_true,Bool.and_eq_true,decide_eq_true_eq,beq_iff_eq,not_or,not_and] at this
  have h1:=(not_congr (cmp_ge y.st e.st)).1 this.1
  refine⟨Classical.not_not.1 h1,fun hcc=>?_⟩
  have h2:=this.2 hcc
  have e1:y.st.time=y.time:=rfl
  have e2:e.st.time=e.time:=rfl
  have e3:y.st.no=y.no:=rfl
  have e4:e.st.no=e.no:=rfl
  omega
 refine⟨by simp[I.n],?_,?_,?_⟩
 ·intro c hc7
  by_cases hce:c=e.st.campus.toNat
  ·subst hce
   right
   refine⟨e,by simp,?_,hc.symm,?_⟩
   ·rw[List.getD,List.getElem?_set_self (by rw[I.n];exact hlt)];rfl
   ·intro y hy hyc
    rw[List.mem_append] at hy
    rcases hy with hy|hy
    ·have:=(hall y hy).2 (by rw[hyc,hc]);omega
    ·simp at hy;subst hy;exact⟨Int.le_refl _,Int.le_refl _⟩
  ·have hg:(s.1.set e.st.campus.toNat e.st).getD c z0=s.1.getD c z0:=by
    rw[List.getD,List.getD,List.getElem?_set_ne (fun h=>hce h.symm)]
   simp only[hg]
   have hne:e.campus ≠ (c:Int):=by omega
   rcases I.c c hc7 with ⟨h1,h2⟩|⟨x,hx,h1,h2,h3⟩
   ·left
    refine⟨h1,fun y hy=>?_⟩
    rw[List.mem_append] at hy
    rcases hy with hy|hy
    ·exact h2 y hy
    ·simp at hy;subst hy;exact hne
   ·right
    refine⟨x,by simp[hx],h1,h2,fun y hy hyc=>?_⟩
    rw[List.mem_append] at hy
    rcases hy with hy|hy
    ·exact h3 y hy hyc
    ·simp at hy;subst hy;exact absurd hyc hne
 ·right
  refine⟨e,by simp,rfl,fun y hy=>?_⟩
  rw[List.mem_append] at hy
  rcases hy with hy|hy
  ·have:=(hall y hy).1
   unfold StLt at *
   omega
  ·simp at hy;subst hy;unfold StLt;omega
 ·intro y hy
  rw[List.mem_append] at hy
  rcases hy with hy|hy
  ·exact I.v y hy
  ·simp at hy;subst hy;exact hn
theorem fit_go:∀(l pre:List EntT) (s:List StT×Option StT),FitI pre s→(∀e∈l,(0≤e.campus∧e.campus<7)∧1≤e.no)→(match forL (fun e:EntT=>fiF e.st) l s with | .inl _=>true | .inr _=>false) = !unfit pre l
 | [],_,_,_,_=>rfl
 | e::l,pre,s,I,hv=>by
  have ⟨⟨h0,h7⟩,hn⟩:=hv e (by simp)
  have hc:=fit_cond I e h0 h7
  unfold forL
  have hF:fiF e.st s=match prevBad e.st s.2||fiB (s.1.getD e.st.campus.toNat z0) e.st with|true=>.inr s.1|false=>.inl (s.1.set e.st.campus.toNat e.st,some e.st):=by
   unfold fiF prevBad
   cases s.2<;>rfl
  simp only[hF,hc,unfit]
  cases hb:pre.any (fun x=>ftBad x.st e.st) with
  | true=>rfl
  | false=>exact fit_go l (pre++[e]) _ (fit_next I e h0 h7 hn hb) (fun x hx=>hv x (by simp[hx]))
theorem z7_getD:∀c:Nat,c<7→z7.getD c z0=z0:=by
 intro c hc
 have:c=0∨c=1∨c=2∨c=3∨c=4∨c=5∨c=6:=by omega
 rcases this with h|h|h|h|h|h|h<;>subst h<;>rfl
theorem fit_eq{l:List EntT}(hv:∀e∈l,(0≤e.campus∧e.campus<7)∧1≤e.no):fitB l = !unfit [] l :=
 fit_go l [] (z7,none) ⟨rfl,fun c hc=>.inl ⟨z7_getD c hc,fun y hy=>by cases hy⟩,.inl ⟨rfl,rfl⟩,fun y hy=>by cases hy⟩ hv
theorem few_ok{l:List EntT}(h:fewR l=true):∀e∈l,e.ok:=by
 intro e he
 unfold fewR at h
 rw[Bool.and_eq_true,List.all_eq_true] at h
 have:=h.1 e he
 simp only[fewE,Bool.and_eq_true,decide_eq_true_eq,List.length_map] at this
 exact⟨by unfold Short;omega,by unfold Short;omega,by unfold Short;omega,by unfold Short;omega⟩
def joV(l:List EntT):List (List D):=l.map fun e=>e.row.map .p
theorem joV_app(l:List EntT)(n:EntT):joV l++[n.row.map .p]=joV (l++[n]):=by simp[joV]
theorem joV_appE(l:List EntT)(n:EntT):joV l++[[int n.time,int n.campus,int n.no,int n.kind,int n.stu,int n.obj,int n.term,int n.val,int n.frm,int n.til,strD n.text,int n.sec.id,int n.sec.course,int n.sec.term,int n.sec.campus,int n.sec.seats,rowsD' (List.map MeT.row n.sec.mts),rowsD' (List.map GrT.row n.sec.grs),rowsD' (List.map intRow n.sec.labs),bool n.sec.lab,int n.req.campus,int n.req.no,int n.req.st,int n.req.kind,int n.req.time,rowsD' (List.map BuT.row n.req.chs),int n.req.gsec,int n.req.glab,int n.req.key,int n.r,int n.s]]=joV (l++[n]):=joV_app l n
theorem joV_len(l:List EntT):(joV l).length=l.length:=by simp[joV]
theorem joV_map(f:Ref→D)(l:List EntT):(joV l).map (D.mapRL f)=joV l:=by
 unfold joV
 rw[List.map_map]
 rfl
theorem joV_inn(n:Nat)(l:List EntT):(joV l).all (D.innL n)=true:=by
 unfold joV
 rw[List.all_map]
 exact List.all_eq_true.2 fun e _=>rfl
theorem joV_frz(l:List EntT):joV l=(l.map EntT.row).map (·.map .p):=by simp[joV]
theorem jo_vp{x:List EntT}{i:Nat}{l:EntT}(hx:x[i]? = some l):VpIs Tryz.prog 28 (joV x) 1 1 i 0 (ag l.st.row):=by
 have e1:(joV x)[i]? = some (l.row.map .p):=by simp[joV,hx]
 unfold VpIs
 simp only[e1,if_true,List.drop_zero]
 rfl
theorem jo_vp2{x:List EntT}{i:Nat}{l:EntT}(hx:x[i]? = some l):VpIs Tryz.prog 46 (joV x) 1 1 i 0 (ag l.row):=by
 have e1:(joV x)[i]? = some (l.row.map .p):=by simp[joV,hx]
 unfold VpIs
 simp only[e1,if_true,List.drop_zero]
 rfl
abbrev joT:List D:=mkT 45 0 [(4,.ref (.ptr 0 0)),(9,.fn (.func 83) [] [.ref (.ptr 1 0),.ref (.ptr 2 0)])]
noncomputable abbrev joL(st:LoopState):Blk:=.loop st none 0 joT #[10] (rfAsg (sub Tryz.f33 0)) (rfBody (sub Tryz.f33 0))
noncomputable abbrev joH(A B:List (List Dp))(x:List EntT)(e:Nat)(st:LoopState)(more:List Blk):List Blk:=[.var [.ref (.vec 3 e)],.var [rowsD' A],.var [rowsD' B],.vec (joV x) e 31,.defd,joL st]++more
abbrev joU:List D:=mkT 45 0 [(4,.ref (.ptr 0 0)),(5,.ref (.ptr 7 0))]
abbrev evar(n:EntT):Blk:=.var (n.row.map .p)
theorem jo_asg{A B:List (List Dp)}{x:List EntT}{n:EntT}:(CW Tryz.prog Γ0 (joH A B x 1 .ready [evar n]) true (rfAsg (sub Tryz.f33 0)) {t:=setAll joT [(10,ag n.row)],h:=joH A B x 1 .ready [evar n],m:=[]} .normal {t:=joU,h:=joH A B x 1 .ready [evar n,evar n],m:=[]}):=by
 exact CW.cast (CW.symX (s':={t:=mkT 45 0 [(4,.ref (.ptr 0 0)),(5,.ref (.ptr 7 0))],h:=[.var [.ref (.vec 3 1)],.var [rowsD' A],.var [rowsD' B],.vec (joV x) 1 31,.defd,.loop LoopState.ready none 0 (mkT 45 0 [(4,.ref (.ptr 0 0)),(9,D.fn (Fn.func 83) [] [.ref (.ptr 1 0),.ref (.ptr 2 0)])]) {toList:=[10]} (rfAsg (sub Tryz.f33 0)) (rfBody (sub Tryz.f33 0)),.var [int n.time,int n.campus,int n.no,int n.kind,int n.stu,int n.obj,int n.term,int n.val,int n.frm,int n.til,strD n.text,int n.sec.id,int n.sec.course,int n.sec.term,int n.sec.campus,int n.sec.seats,rowsD' (List.map MeT.row n.sec.mts),rowsD' (List.map GrT.row n.sec.grs),rowsD' (List.map intRow n.sec.labs),bool n.sec.lab,int n.req.campus,int n.req.no,int n.req.st,int n.req.kind,int n.req.time,rowsD' (List.map BuT.row n.req.chs),int n.req.gsec,int n.req.glab,int n.req.key,int n.r,int n.s],.var [int n.time,int n.campus,int n.no,int n.kind,int n.stu,int n.obj,int n.term,int n.val,int n.frm,int n.til,strD n.text,int n.sec.id,int n.sec.course,int n.sec.term,int n.sec.campus,int n.sec.seats,rowsD' (List.map MeT.row n.sec.mts),rowsD' (List.map GrT.row n.sec.grs),rowsD' (List.map intRow n.sec.labs),bool n.sec.lab,int n.req.campus,int n.req.no,int n.req.st,int n.req.kind,int n.req.time,rowsD' (List.map BuT.row n.req.chs),int n.req.gsec,int n.req.glab,int n.req.key,int n.r,int n.s]],m:=[]}) (e:=Exit.normal) pok [.st (.mask [4,5])] [] (by kernel_rfl) .n) (by rfl) (by rfl)
theorem jo_ld{x:List EntT}{h:List Blk}{i:Nat}{l:EntT}(hx:x[i]? = some l)(hh:h[3]? = some (.vec (joV x) 1 31)):loadD Tryz.prog h 28 (.ref (.vp 3 1 i 0))=some (ag l.st.row):=by
 have e1:(joV x)[i]? = some (l.row.map .p):=by simp[joV,hx]
 unfold loadD
 simp only[hh,e1,if_true,List.drop_zero]
 rfl
theorem jo_ld2{x:List EntT}{h:List Blk}{i:Nat}{l:EntT}(hx:x[i]? = some l)(hh:h[3]? = some (.vec (joV x) 1 31)):loadD Tryz.prog h 46 (.ref (.vp 3 1 i 0))=some (ag l.row):=by
 have e1:(joV x)[i]? = some (l.row.map .p):=by simp[joV,hx]
 unfold loadD
 simp only[hh,e1,if_true,List.drop_zero]
 rfl
theorem demand_ev{e:Int}(h:List Blk):(Ev Tryz.prog Γ0 48 [bool true,int e] h (.tup []) h):=by
 exact Ev.castH (Ev.sym0 (d:=D.tup []) pok [.b false] (by kernel_rfl) (.c (show(!true)=false from rfl) .n) rfl rfl h) (by rfl) (by rfl)
theorem jo_b0{A B:List (List Dp)}{x:List EntT}{l n:EntT}(hk:Dd (IntKind.i64.wrap (((joV x).length:Int) - 1)≥0)=false)(he:(Dd (IntKind.i64.wrap (((joV x).length:Int) - 1)≥0)&&(l.st.time==n.time&&(l.st.campus==n.campus&&(l.st.no==n.no&&true))))=false)(hl:x.length≤1000000):(CW Tryz.prog Γ0 (joH A B x 1 .ready [evar n]) true (rfBody (sub Tryz.f33 0)) {t:=joU,h:=joH A B x 1 .busy [evar n,evar n],m:=[]} .normal {t:=mkT 45 0 [],h:=joH A B (x++[n]) 2 .busy [evar n],m:=[]}):=by
 refine CW.cast (CW.symX (s':={t:=mkT 45 0 [],h:=[.var [.ref (.vec 3 2)],.var [rowsD' A],.var [rowsD' B],.vec (joV x++[[int n.time,int n.campus,int n.no,int n.kind,int n.stu,int n.obj,int n.term,int n.val,int n.frm,int n.til,strD n.text,int n.sec.id,int n.sec.course,int n.sec.term,int n.sec.campus,int n.sec.seats,rowsD' (List.map MeT.row n.sec.mts),rowsD' (List.map GrT.row n.sec.grs),rowsD' (List.map intRow n.sec.labs),bool n.sec.lab,int n.req.campus,int n.req.no,int n.req.st,int n.req.kind,int n.req.time,rowsD' (List.map BuT.row n.req.chs),int n.req.gsec,int n.req.glab,int n.req.key,int n.r,int n.s]]) 2 31,.defd,.loop LoopState.busy none 0 (mkT 45 0 [(4,.ref (.ptr 0 0)),(9,D.fn (Fn.func 83) [] [.ref (.ptr 1 0),.ref (.ptr 2 0)])]) {toList:=[10]} (rfAsg (sub Tryz.f33 0)) (rfBody (sub Tryz.f33 0)),.var [int n.time,int n.campus,int n.no,int n.kind,int n.stu,int n.obj,int n.term,int n.val,int n.frm,int n.til,strD n.text,int n.sec.id,int n.sec.course,int n.sec.term,int n.sec.campus,int n.sec.seats,rowsD' (List.map MeT.row n.sec.mts),rowsD' (List.map GrT.row n.sec.grs),rowsD' (List.map intRow n.sec.labs),bool n.sec.lab,int n.req.campus,int n.req.no,int n.req.st,int n.req.kind,int n.req.time,rowsD' (List.map BuT.row n.req.chs),int n.req.gsec,int n.req.glab,int n.req.key,int n.r,int n.s]],m:=[]}) (e:=Exit.normal) pok [.st (.mask []),.st (.trimV 7)] [.ov 21 (ag (StT.row (EntT.st l))),.b false] (by kernel_rfl) (.c (show Dd (IntKind.wrap IntKind.i64 ((↑(List.length (joV x)):Int) - 1)≥0)=true→inR (IntKind.wrap IntKind.i64 ((↑(List.length (joV x)):Int) - 1)) (List.length (joV x))=true from(fun hg=>?_)) (.c (show Dd (IntKind.wrap IntKind.i64 ((↑(List.length (joV x)):Int) - 1)≥0)=true→loadD Tryz.prog [.var [.ref (.vec 3 1)],.var [rowsD' A],.var [rowsD' B],.vec (joV x) 1 31,.defd,.loop LoopState.busy none 0 (mkT 45 0 [(4,.ref (.ptr 0 0)),(9,D.fn (Fn.func 83) [] [.ref (.ptr 1 0),.ref (.ptr 2 0)])]) {toList:=[10]} (rfAsg (sub Tryz.f33 0)) (rfBody (sub Tryz.f33 0)),.var [int n.time,int n.campus,int n.no,int n.kind,int n.stu,int n.obj,int n.term,int n.val,int n.frm,int n.til,strD n.text,int n.sec.id,int n.sec.course,int n.sec.term,int n.sec.campus,int n.sec.seats,rowsD' (List.map MeT.row n.sec.mts),rowsD' (List.map GrT.row n.sec.grs),rowsD' (List.map intRow n.sec.labs),bool n.sec.lab,int n.req.campus,int n.req.no,int n.req.st,int n.req.kind,int n.req.time,rowsD' (List.map BuT.row n.req.chs),int n.req.gsec,int n.req.glab,int n.req.key,int n.r,int n.s],.var [int n.time,int n.campus,int n.no,int n.kind,int n.stu,int n.obj,int n.term,int n.val,int n.frm,int n.til,strD n.text,int n.sec.id,int n.sec.course,int n.sec.term,int n.sec.campus,int n.sec.seats,rowsD' (List.map MeT.row n.sec.mts),rowsD' (List.map GrT.row n.sec.grs),rowsD' (List.map intRow n.sec.labs),bool n.sec.lab,int n.req.campus,int n.req.no,int n.req.st,int n.req.kind,int n.req.time,rowsD' (List.map BuT.row n.req.chs),int n.req.gsec,int n.req.glab,int n.req.key,int n.r,int n.s]] 28 (evalD Γ0 (List.map stripD (mkT 45 0 [(4,.ref (.ptr 0 0)),(5,.ref (.ptr 7 0)),(6,int (IntKind.wrap IntKind.i64 ((↑(List.length (joV x)):Int) - 1))),(11,.ref (.vec 3 1)),(12,int (↑(List.length (joV x)):Int)),(13,int (IntKind.wrap IntKind.i64 ((↑(List.length (joV x)):Int) - 1))),(14,int (IntKind.wrap IntKind.i64 ((↑(List.length (joV x)):Int) - 1))),(15,bool (Dd (IntKind.wrap IntKind.i64 ((↑(List.length (joV x)):Int) - 1)≥0))),(16,bool (Dd (IntKind.wrap IntKind.i64 ((↑(List.length (joV x)):Int) - 1)≥0))),(17,D.grd (Dd (IntKind.wrap IntKind.i64 ((↑(List.length (joV x)):Int) - 1)≥0)) (.ref (.vec 3 1))),(18,D.grd (Dd (IntKind.wrap IntKind.i64 ((↑(List.length (joV x)):Int) - 1)≥0)) (int (IntKind.wrap IntKind.i64 ((↑(List.length (joV x)):Int) - 1)))),(19,D.grd (Dd (IntKind.wrap IntKind.i64 ((↑(List.length (joV x)):Int) - 1)≥0)) (.ref (.vp 3 1 (Int.toNat (IntKind.wrap IntKind.i64 ((↑(List.length (joV x)):Int) - 1))) 0))),(20,D.grd (Dd (IntKind.wrap IntKind.i64 ((↑(List.length (joV x)):Int) - 1)≥0)) (.ref (.vp 3 1 (Int.toNat (IntKind.wrap IntKind.i64 ((↑(List.length (joV x)):Int) - 1))) 0)))])) (Operand.tmp 20))=some (D.agg [int (EntT.st l).time,int (EntT.st l).campus,int (EntT.st l).no]) from(fun hg=>?_)) (.c he (.c (show(List.all [[int n.time,int n.campus,int n.no,int n.kind,int n.stu,int n.obj,int n.term,int n.val,int n.frm,int n.til,strD n.text,int n.sec.id,int n.sec.course,int n.sec.term,int n.sec.campus,int n.sec.seats,rowsD' (List.map MeT.row n.sec.mts),rowsD' (List.map GrT.row n.sec.grs),rowsD' (List.map intRow n.sec.labs),bool n.sec.lab,int n.req.campus,int n.req.no,int n.req.st,int n.req.kind,int n.req.time,rowsD' (List.map BuT.row n.req.chs),int n.req.gsec,int n.req.glab,int n.req.key,int n.r,int n.s]] (rowOk 31)&&roomOk (List.length (joV x)+List.length [[int n.time,int n.campus,int n.no,int n.kind,int n.stu,int n.obj,int n.term,int n.val,int n.frm,int n.til,strD n.text,int n.sec.id,int n.sec.course,int n.sec.term,int n.sec.campus,int n.sec.seats,rowsD' (List.map MeT.row n.sec.mts),rowsD' (List.map GrT.row n.sec.grs),rowsD' (List.map intRow n.sec.labs),bool n.sec.lab,int n.req.campus,int n.req.no,int n.req.st,int n.req.kind,int n.req.time,rowsD' (List.map BuT.row n.req.chs),int n.req.gsec,int n.req.glab,int n.req.key,int n.r,int n.s]]) 320)=true from ?_) (.c (show Blk.inn 7 (.var [.ref (.vec 3 2)])=true from rfl) (.c (show Blk.inn 7 (.var [rowsD' A])=true from rfl) (.c (show Blk.inn 7 (.var [rowsD' B])=true from rfl) (.c (show Blk.inn 7 (.vec (joV x++[[int n.time,int n.campus,int n.no,int n.kind,int n.stu,int n.obj,int n.term,int n.val,int n.frm,int n.til,strD n.text,int n.sec.id,int n.sec.course,int n.sec.term,int n.sec.campus,int n.sec.seats,rowsD' (List.map MeT.row n.sec.mts),rowsD' (List.map GrT.row n.sec.grs),rowsD' (List.map intRow n.sec.labs),bool n.sec.lab,int n.req.campus,int n.req.no,int n.req.st,int n.req.kind,int n.req.time,rowsD' (List.map BuT.row n.req.chs),int n.req.gsec,int n.req.glab,int n.req.key,int n.r,int n.s]]) 2 31)=true from ?_) (.c (show Blk.inn 7 .defd=true from rfl) (.c (show Blk.inn 7 (.loop LoopState.busy none 0 (mkT 45 0 [(4,.ref (.ptr 0 0)),(9,D.fn (Fn.func 83) [] [.ref (.ptr 1 0),.ref (.ptr 2 0)])]) {toList:=[10]} (rfAsg (sub Tryz.f33 0)) (rfBody (sub Tryz.f33 0)))=true from rfl) (.c (show Blk.inn 7 (.var [int n.time,int n.campus,int n.no,int n.kind,int n.stu,int n.obj,int n.term,int n.val,int n.frm,int n.til,strD n.text,int n.sec.id,int n.sec.course,int n.sec.term,int n.sec.campus,int n.sec.seats,rowsD' (List.map MeT.row n.sec.mts),rowsD' (List.map GrT.row n.sec.grs),rowsD' (List.map intRow n.sec.labs),bool n.sec.lab,int n.req.campus,int n.req.no,int n.req.st,int n.req.kind,int n.req.time,rowsD' (List.map BuT.row n.req.chs),int n.req.gsec,int n.req.glab,int n.req.key,int n.r,int n.s])=true from rfl) .n)))))))))))) (by first|rfl|(simp only[joV_appE];first|done|rfl)) (by first|rfl|(simp only[joV_appE];first|done|rfl))<;>(first|assumption|rfl|exact jo_vp hx|exact jo_vp2 hx|exact jo_ld hx rfl|exact jo_ld2 hx rfl|exact joV_map _ _|exact joV_inn _ _|(rw[joV_appE];exact joV_map _ _)|(rw[joV_appE];exact joV_inn _ _)|(cases hk.symm.trans hg)|(simp[rowOk,D.one,Value.oneCell',roomOk,joV_len];omega))
theorem jo_b1{A B:List (List Dp)}{x:List EntT}{l n:EntT}(hk:Dd (IntKind.i64.wrap (((joV x).length:Int) - 1)≥0)=true)(hi:inR (IntKind.i64.wrap (((joV x).length:Int) - 1)) (joV x).length=true)(hx:x[Int.toNat (IntKind.i64.wrap (((joV x).length:Int) - 1))]? = some l)(he:(Dd (IntKind.i64.wrap (((joV x).length:Int) - 1)≥0)&&(l.st.time==n.time&&(l.st.campus==n.campus&&(l.st.no==n.no&&true))))=false)(hl:x.length≤1000000):(CW Tryz.prog Γ0 (joH A B x 1 .ready [evar n]) true (rfBody (sub Tryz.f33 0)) {t:=joU,h:=joH A B x 1 .busy [evar n,evar n],m:=[]} .normal {t:=mkT 45 0 [],h:=joH A B (x++[n]) 2 .busy [evar n],m:=[]}):=by
 refine CW.cast (CW.symX (s':={t:=mkT 45 0 [],h:=[.var [.ref (.vec 3 2)],.var [rowsD' A],.var [rowsD' B],.vec (joV x++[[int n.time,int n.campus,int n.no,int n.kind,int n.stu,int n.obj,int n.term,int n.val,int n.frm,int n.til,strD n.text,int n.sec.id,int n.sec.course,int n.sec.term,int n.sec.campus,int n.sec.seats,rowsD' (List.map MeT.row n.sec.mts),rowsD' (List.map GrT.row n.sec.grs),rowsD' (List.map intRow n.sec.labs),bool n.sec.lab,int n.req.campus,int n.req.no,int n.req.st,int n.req.kind,int n.req.time,rowsD' (List.map BuT.row n.req.chs),int n.req.gsec,int n.req.glab,int n.req.key,int n.r,int n.s]]) 2 31,.defd,.loop LoopState.busy none 0 (mkT 45 0 [(4,.ref (.ptr 0 0)),(9,D.fn (Fn.func 83) [] [.ref (.ptr 1 0),.ref (.ptr 2 0)])]) {toList:=[10]} (rfAsg (sub Tryz.f33 0)) (rfBody (sub Tryz.f33 0)),.var [int n.time,int n.campus,int n.no,int n.kind,int n.stu,int n.obj,int n.term,int n.val,int n.frm,int n.til,strD n.text,int n.sec.id,int n.sec.course,int n.sec.term,int n.sec.campus,int n.sec.seats,rowsD' (List.map MeT.row n.sec.mts),rowsD' (List.map GrT.row n.sec.grs),rowsD' (List.map intRow n.sec.labs),bool n.sec.lab,int n.req.campus,int n.req.no,int n.req.st,int n.req.kind,int n.req.time,rowsD' (List.map BuT.row n.req.chs),int n.req.gsec,int n.req.glab,int n.req.key,int n.r,int n.s]],m:=[]}) (e:=Exit.normal) pok [.st (.mask []),.st (.trimV 7)] [.ov 21 (ag (StT.row (EntT.st l))),.b false] (by kernel_rfl) (.c (show Dd (IntKind.wrap IntKind.i64 ((↑(List.length (joV x)):Int) - 1)≥0)=true→inR (IntKind.wrap IntKind.i64 ((↑(List.length (joV x)):Int) - 1)) (List.length (joV x))=true from(fun hg=>hi)) (.c (show Dd (IntKind.wrap IntKind.i64 ((↑(List.length (joV x)):Int) - 1)≥0)=true→loadD Tryz.prog [.var [.ref (.vec 3 1)],.var [rowsD' A],.var [rowsD' B],.vec (joV x) 1 31,.defd,.loop LoopState.busy none 0 (mkT 45 0 [(4,.ref (.ptr 0 0)),(9,D.fn (Fn.func 83) [] [.ref (.ptr 1 0),.ref (.ptr 2 0)])]) {toList:=[10]} (rfAsg (sub Tryz.f33 0)) (rfBody (sub Tryz.f33 0)),.var [int n.time,int n.campus,int n.no,int n.kind,int n.stu,int n.obj,int n.term,int n.val,int n.frm,int n.til,strD n.text,int n.sec.id,int n.sec.course,int n.sec.term,int n.sec.campus,int n.sec.seats,rowsD' (List.map MeT.row n.sec.mts),rowsD' (List.map GrT.row n.sec.grs),rowsD' (List.map intRow n.sec.labs),bool n.sec.lab,int n.req.campus,int n.req.no,int n.req.st,int n.req.kind,int n.req.time,rowsD' (List.map BuT.row n.req.chs),int n.req.gsec,int n.req.glab,int n.req.key,int n.r,int n.s],.var [int n.time,int n.campus,int n.no,int n.kind,int n.stu,int n.obj,int n.term,int n.val,int n.frm,int n.til,strD n.text,int n.sec.id,int n.sec.course,int n.sec.term,int n.sec.campus,int n.sec.seats,rowsD' (List.map MeT.row n.sec.mts),rowsD' (List.map GrT.row n.sec.grs),rowsD' (List.map intRow n.sec.labs),bool n.sec.lab,int n.req.campus,int n.req.no,int n.req.st,int n.req.kind,int n.req.time,rowsD' (List.map BuT.row n.req.chs),int n.req.gsec,int n.req.glab,int n.req.key,int n.r,int n.s]] 28 (evalD Γ0 (List.map stripD (mkT 45 0 [(4,.ref (.ptr 0 0)),(5,.ref (.ptr 7 0)),(6,int (IntKind.wrap IntKind.i64 ((↑(List.length (joV x)):Int) - 1))),(11,.ref (.vec 3 1)),(12,int (↑(List.length (joV x)):Int)),(13,int (IntKind.wrap IntKind.i64 ((↑(List.length (joV x)):Int) - 1))),(14,int (IntKind.wrap IntKind.i64 ((↑(List.length (joV x)):Int) - 1))),(15,bool (Dd (IntKind.wrap IntKind.i64 ((↑(List.length (joV x)):Int) - 1)≥0))),(16,bool (Dd (IntKind.wrap IntKind.i64 ((↑(List.length (joV x)):Int) - 1)≥0))),(17,D.grd (Dd (IntKind.wrap IntKind.i64 ((↑(List.length (joV x)):Int) - 1)≥0)) (.ref (.vec 3 1))),(18,D.grd (Dd (IntKind.wrap IntKind.i64 ((↑(List.length (joV x)):Int) - 1)≥0)) (int (IntKind.wrap IntKind.i64 ((↑(List.length (joV x)):Int) - 1)))),(19,D.grd (Dd (IntKind.wrap IntKind.i64 ((↑(List.length (joV x)):Int) - 1)≥0)) (.ref (.vp 3 1 (Int.toNat (IntKind.wrap IntKind.i64 ((↑(List.length (joV x)):Int) - 1))) 0))),(20,D.grd (Dd (IntKind.wrap IntKind.i64 ((↑(List.length (joV x)):Int) - 1)≥0)) (.ref (.vp 3 1 (Int.toNat (IntKind.wrap IntKind.i64 ((↑(List.length (joV x)):Int) - 1))) 0)))])) (Operand.tmp 20))=some (D.agg [int (EntT.st l).time,int (EntT.st l).campus,int (EntT.st l).no]) from(fun hg=>?_)) (.c he (.c (show(List.all [[int n.time,int n.campus,int n.no,int n.kind,int n.stu,int n.obj,int n.term,int n.val,int n.frm,int n.til,strD n.text,int n.sec.id,int n.sec.course,int n.sec.term,int n.sec.campus,int n.sec.seats,rowsD' (List.map MeT.row n.sec.mts),rowsD' (List.map GrT.row n.sec.grs),rowsD' (List.map intRow n.sec.labs),bool n.sec.lab,int n.req.campus,int n.req.no,int n.req.st,int n.req.kind,int n.req.time,rowsD' (List.map BuT.row n.req.chs),int n.req.gsec,int n.req.glab,int n.req.key,int n.r,int n.s]] (rowOk 31)&&roomOk (List.length (joV x)+List.length [[int n.time,int n.campus,int n.no,int n.kind,int n.stu,int n.obj,int n.term,int n.val,int n.frm,int n.til,strD n.text,int n.sec.id,int n.sec.course,int n.sec.term,int n.sec.campus,int n.sec.seats,rowsD' (List.map MeT.row n.sec.mts),rowsD' (List.map GrT.row n.sec.grs),rowsD' (List.map intRow n.sec.labs),bool n.sec.lab,int n.req.campus,int n.req.no,int n.req.st,int n.req.kind,int n.req.time,rowsD' (List.map BuT.row n.req.chs),int n.req.gsec,int n.req.glab,int n.req.key,int n.r,int n.s]]) 320)=true from ?_) (.c (show Blk.inn 7 (.var [.ref (.vec 3 2)])=true from rfl) (.c (show Blk.inn 7 (.var [rowsD' A])=true from rfl) (.c (show Blk.inn 7 (.var [rowsD' B])=true from rfl) (.c (show Blk.inn 7 (.vec (joV x++[[int n.time,int n.campus,int n.no,int n.kind,int n.stu,int n.obj,int n.term,int n.val,int n.frm,int n.til,strD n.text,int n.sec.id,int n.sec.course,int n.sec.term,int n.sec.campus,int n.sec.seats,rowsD' (List.map MeT.row n.sec.mts),rowsD' (List.map GrT.row n.sec.grs),rowsD' (List.map intRow n.sec.labs),bool n.sec.lab,int n.req.campus,int n.req.no,int n.req.st,int n.req.kind,int n.req.time,rowsD' (List.map BuT.row n.req.chs),int n.req.gsec,int n.req.glab,int n.req.key,int n.r,int n.s]]) 2 31)=true from ?_) (.c (show Blk.inn 7 .defd=true from rfl) (.c (show Blk.inn 7 (.loop LoopState.busy none 0 (mkT 45 0 [(4,.ref (.ptr 0 0)),(9,D.fn (Fn.func 83) [] [.ref (.ptr 1 0),.ref (.ptr 2 0)])]) {toList:=[10]} (rfAsg (sub Tryz.f33 0)) (rfBody (sub Tryz.f33 0)))=true from rfl) (.c (show Blk.inn 7 (.var [int n.time,int n.campus,int n.no,int n.kind,int n.stu,int n.obj,int n.term,int n.val,int n.frm,int n.til,strD n.text,int n.sec.id,int n.sec.course,int n.sec.term,int n.sec.campus,int n.sec.seats,rowsD' (List.map MeT.row n.sec.mts),rowsD' (List.map GrT.row n.sec.grs),rowsD' (List.map intRow n.sec.labs),bool n.sec.lab,int n.req.campus,int n.req.no,int n.req.st,int n.req.kind,int n.req.time,rowsD' (List.map BuT.row n.req.chs),int n.req.gsec,int n.req.glab,int n.req.key,int n.r,int n.s])=true from rfl) .n)))))))))))) (by first|rfl|(simp only[joV_appE];first|done|rfl)) (by first|rfl|(simp only[joV_appE];first|done|rfl))<;>(first|assumption|rfl|exact jo_vp hx|exact jo_vp2 hx|exact jo_ld hx rfl|exact jo_ld2 hx rfl|exact joV_map _ _|exact joV_inn _ _|(rw[joV_appE];exact joV_map _ _)|(rw[joV_appE];exact joV_inn _ _)|(simp[rowOk,D.one,Value.oneCell',roomOk,joV_len];omega))
noncomputable abbrev jo_b2_x0(A:List (List Dp))(B:List (List Dp))(x:List EntT)(n:EntT):List Blk:=[.var [.ref (.vec 3 1)],.var [rowsD' A],.var [rowsD' B],.vec (joV x) 1 31,.defd,.loop LoopState.busy none 0 (mkT 45 0 [(4,.ref (.ptr 0 0)),(9,D.fn (Fn.func 83) [] [.ref (.ptr 1 0),.ref (.ptr 2 0)])]) {toList:=[10]} (rfAsg (sub Tryz.f33 0)) (rfBody (sub Tryz.f33 0)),.var [int n.time,int n.campus,int n.no,int n.kind,int n.stu,int n.obj,int n.term,int n.val,int n.frm,int n.til,strD n.text,int n.sec.id,int n.sec.course,int n.sec.term,int n.sec.campus,int n.sec.seats,rowsD' (List.map MeT.row n.sec.mts),rowsD' (List.map GrT.row n.sec.grs),rowsD' (List.map intRow n.sec.labs),bool n.sec.lab,int n.req.campus,int n.req.no,int n.req.st,int n.req.kind,int n.req.time,rowsD' (List.map BuT.row n.req.chs),int n.req.gsec,int n.req.glab,int n.req.key,int n.r,int n.s],.var [int n.time,int n.campus,int n.no,int n.kind,int n.stu,int n.obj,int n.term,int n.val,int n.frm,int n.til,strD n.text,int n.sec.id,int n.sec.course,int n.sec.term,int n.sec.campus,int n.sec.seats,rowsD' (List.map MeT.row n.sec.mts),rowsD' (List.map GrT.row n.sec.grs),rowsD' (List.map intRow n.sec.labs),bool n.sec.lab,int n.req.campus,int n.req.no,int n.req.st,int n.req.kind,int n.req.time,rowsD' (List.map BuT.row n.req.chs),int n.req.gsec,int n.req.glab,int n.req.key,int n.r,int n.s]]
theorem jo_b2{A B:List (List Dp)}{x:List EntT}{l n:EntT}(hk:Dd (IntKind.i64.wrap (((joV x).length:Int) - 1)≥0)=true)(hi:inR (IntKind.i64.wrap (((joV x).length:Int) - 1)) (joV x).length=true)(hx:x[Int.toNat (IntKind.i64.wrap (((joV x).length:Int) - 1))]? = some l)(he:(Dd (IntKind.i64.wrap (((joV x).length:Int) - 1)≥0)&&(l.st.time==n.time&&(l.st.campus==n.campus&&(l.st.no==n.no&&true))))=true)(hsm:∀h,Ev Tryz.prog Γ0 42 [ag l.row,ag n.row] h (bool true) h):(CW Tryz.prog Γ0 (joH A B x 1 .ready [evar n]) true (rfBody (sub Tryz.f33 0)) {t:=joU,h:=joH A B x 1 .busy [evar n,evar n],m:=[]} .normal {t:=mkT 45 0 [],h:=joH A B x 2 .busy [evar n],m:=[]}):=by
 refine CW.cast (CW.symX (s':={t:=mkT 45 0 [],h:=[.var [.ref (.vec 3 2)],.var [rowsD' A],.var [rowsD' B],.vec (joV x) 2 31,.defd,.loop LoopState.busy none 0 (mkT 45 0 [(4,.ref (.ptr 0 0)),(9,D.fn (Fn.func 83) [] [.ref (.ptr 1 0),.ref (.ptr 2 0)])]) {toList:=[10]} (rfAsg (sub Tryz.f33 0)) (rfBody (sub Tryz.f33 0)),.var [int n.time,int n.campus,int n.no,int n.kind,int n.stu,int n.obj,int n.term,int n.val,int n.frm,int n.til,strD n.text,int n.sec.id,int n.sec.course,int n.sec.term,int n.sec.campus,int n.sec.seats,rowsD' (List.map MeT.row n.sec.mts),rowsD' (List.map GrT.row n.sec.grs),rowsD' (List.map intRow n.sec.labs),bool n.sec.lab,int n.req.campus,int n.req.no,int n.req.st,int n.req.kind,int n.req.time,rowsD' (List.map BuT.row n.req.chs),int n.req.gsec,int n.req.glab,int n.req.key,int n.r,int n.s]],m:=[]}) (e:=Exit.normal) pok [.st (.mask []),.st (.ren 3 2),.st (.trimV 7)] [.ov 21 (ag (StT.row (EntT.st l))),.b true,.ov 29 (ag (EntT.row l)),.val (bool true),.val (D.tup [])] (by kernel_rfl) (.c (show Dd (IntKind.wrap IntKind.i64 ((↑(List.length (joV x)):Int) - 1)≥0)=true→inR (IntKind.wrap IntKind.i64 ((↑(List.length (joV x)):Int) - 1)) (List.length (joV x))=true from(fun hg=>hi)) (.c (show Dd (IntKind.wrap IntKind.i64 ((↑(List.length (joV x)):Int) - 1)≥0)=true→loadD Tryz.prog (jo_b2_x0 A B x n) 28 (evalD Γ0 (List.map stripD (mkT 45 0 [(4,.ref (.ptr 0 0)),(5,.ref (.ptr 7 0)),(6,int (IntKind.wrap IntKind.i64 ((↑(List.length (joV x)):Int) - 1))),(11,.ref (.vec 3 1)),(12,int (↑(List.length (joV x)):Int)),(13,int (IntKind.wrap IntKind.i64 ((↑(List.length (joV x)):Int) - 1))),(14,int (IntKind.wrap IntKind.i64 ((↑(List.length (joV x)):Int) - 1))),(15,bool (Dd (IntKind.wrap IntKind.i64 ((↑(List.length (joV x)):Int) - 1)≥0))),(16,bool (Dd (IntKind.wrap IntKind.i64 ((↑(List.length (joV x)):Int) - 1)≥0))),(17,D.grd (Dd (IntKind.wrap IntKind.i64 ((↑(List.length (joV x)):Int) - 1)≥0)) (.ref (.vec 3 1))),(18,D.grd (Dd (IntKind.wrap IntKind.i64 ((↑(List.length (joV x)):Int) - 1)≥0)) (int (IntKind.wrap IntKind.i64 ((↑(List.length (joV x)):Int) - 1)))),(19,D.grd (Dd (IntKind.wrap IntKind.i64 ((↑(List.length (joV x)):Int) - 1)≥0)) (.ref (.vp 3 1 (Int.toNat (IntKind.wrap IntKind.i64 ((↑(List.length (joV x)):Int) - 1))) 0))),(20,D.grd (Dd (IntKind.wrap IntKind.i64 ((↑(List.length (joV x)):Int) - 1)≥0)) (.ref (.vp 3 1 (Int.toNat (IntKind.wrap IntKind.i64 ((↑(List.length (joV x)):Int) - 1))) 0)))])) (Operand.tmp 20))=some (D.agg [int (EntT.st l).time,int (EntT.st l).campus,int (EntT.st l).no]) from(fun hg=>?_)) (.c he (.c hi (.c (show loadD Tryz.prog (jo_b2_x0 A B x n) 46 (.ref (.vp 3 1 (Int.toNat (IntKind.wrap IntKind.i64 ((↑(List.length (joV x)):Int) - 1))) 0))=some (D.agg [int l.time,int l.campus,int l.no,int l.kind,int l.stu,int l.obj,int l.term,int l.val,int l.frm,int l.til,strD l.text,int l.sec.id,int l.sec.course,int l.sec.term,int l.sec.campus,int l.sec.seats,rowsD' (List.map MeT.row l.sec.mts),rowsD' (List.map GrT.row l.sec.grs),rowsD' (List.map intRow l.sec.labs),bool l.sec.lab,int l.req.campus,int l.req.no,int l.req.st,int l.req.kind,int l.req.time,rowsD' (List.map BuT.row l.req.chs),int l.req.gsec,int l.req.glab,int l.req.key,int l.r,int l.s]) from ?_) (.c (@hsm ((jo_b2_x0 A B x n))) (.c (@demand_ev (390) ((jo_b2_x0 A B x n))) (.c (show List.map (D.mapRL (renR 3 1 2)) (joV x)=joV x from ?_) (.c (show Blk.inn 7 (match 0==3 with|true=>.vec (joV x) 2 31|false=>keepX (renR 3 1 2) (.var [.ref (.vec 3 1)]))=true from rfl) (.c (show Blk.inn 7 (match 0+1==3 with|true=>.vec (joV x) 2 31|false=>keepX (renR 3 1 2) (.var [rowsD' A]))=true from rfl) (.c (show Blk.inn 7 (match 0+1+1==3 with|true=>.vec (joV x) 2 31|false=>keepX (renR 3 1 2) (.var [rowsD' B]))=true from rfl) (.c (show Blk.inn 7 (match 0+1+1+1==3 with|true=>.vec (joV x) 2 31|false=>keepX (renR 3 1 2) (.vec (joV x) 1 31))=true from ?_) (.c (show Blk.inn 7 (match 0+1+1+1+1==3 with|true=>.vec (joV x) 2 31|false=>keepX (renR 3 1 2) .defd)=true from rfl) (.c (show Blk.inn 7 (match 0+1+1+1+1+1==3 with|true=>.vec (joV x) 2 31|false=>keepX (renR 3 1 2) (.loop LoopState.busy none 0 (mkT 45 0 [(4,.ref (.ptr 0 0)),(9,D.fn (Fn.func 83) [] [.ref (.ptr 1 0),.ref (.ptr 2 0)])]) {toList:=[10]} (rfAsg (sub Tryz.f33 0)) (rfBody (sub Tryz.f33 0))))=true from rfl) (.c (show Blk.inn 7 (match 0+1+1+1+1+1+1==3 with|true=>.vec (joV x) 2 31|false=>keepX (renR 3 1 2) (.var [int n.time,int n.campus,int n.no,int n.kind,int n.stu,int n.obj,int n.term,int n.val,int n.frm,int n.til,strD n.text,int n.sec.id,int n.sec.course,int n.sec.term,int n.sec.campus,int n.sec.seats,rowsD' (List.map MeT.row n.sec.mts),rowsD' (List.map GrT.row n.sec.grs),rowsD' (List.map intRow n.sec.labs),bool n.sec.lab,int n.req.campus,int n.req.no,int n.req.st,int n.req.kind,int n.req.time,rowsD' (List.map BuT.row n.req.chs),int n.req.gsec,int n.req.glab,int n.req.key,int n.r,int n.s]))=true from rfl) .n)))))))))))))))) (by rfl) (by rfl)<;>(first|assumption|rfl|exact jo_vp hx|exact jo_vp2 hx|exact jo_ld hx rfl|exact jo_ld2 hx rfl|exact joV_map _ _|exact joV_inn _ _|(rw[joV_appE];exact joV_map _ _)|(rw[joV_appE];exact joV_inn _ _))
noncomputable abbrev itS(A B:List (List Dp))(x:List EntT):AS:={t:=mkT 49 0 [(0,.ref (.yl 5)),(1,.ref (.ptr 1 0)),(2,.ref (.ptr 2 0))],h:=joH A B x 1 .ready [],m:=[]}
def SlT(A A':List (List Dp)):Prop:=some (slOk 1 (A.length:Int) A.length&&true&&(true||false)&&A.all fun r=>Dd (r.length=31),rowsD' (List.take ((A.length:Int).toNat - Int.toNat 1) (List.drop (Int.toNat 1) A)))=some (true,rowsD' A')
noncomputable abbrev it_a1_x0(A:List (List Dp))(B:List (List Dp))(x:List EntT):List Blk:=[.var [.ref (.vec 3 1)],.var [rowsD' A],.var [rowsD' B],.vec (joV x) 1 31,.defd,.loop LoopState.ready none 0 (mkT 45 0 [(4,.ref (.ptr 0 0)),(9,D.fn (Fn.func 83) [] [.ref (.ptr 1 0),.ref (.ptr 2 0)])]) {toList:=[10]} (rfAsg (sub Tryz.f33 0)) (rfBody (sub Tryz.f33 0))]
theorem it_a1{A0 B0 A A' B:List (List Dp)}{x0 x x':List EntT}{m n:EntT}(hAB:(Dd ((A.length:Int)>0)||Dd ((B.length:Int)>0))=true)(hb:Dd ((B.length:Int)>0)=false)(hra:RowAt 0 A n.row 31)(hrb:False→RowAt 0 B m.row 31)(hs:SlT A A')(hcd:(((A.length:Int)==0)||(Dd ((B.length:Int)>0)&&Dd (stCmp ⟨m.time,m.campus,m.no⟩ ⟨n.time,n.campus,n.no⟩<0)))=false)
  (hy:Iv Tryz.prog Γ0 (.ref (.yl 5)) [ag n.row] (joH A' B x 1 .ready [evar n]) (bool true) (joH A' B x' 2 .ready [evar n])):(CW Tryz.prog Γ0 (joH A0 B0 x0 0 .ready []) false (sub Tryz.f83 0) (itS A B x) .normal (itS A' B x')):=by
 refine CW.cast (CW.symX (s':={t:=mkT 49 0 [(0,.ref (.yl 5)),(1,.ref (.ptr 1 0)),(2,.ref (.ptr 2 0))],h:=[.var [.ref (.vec 3 1)],.var [rowsD' A'],.var [rowsD' B],.vec (joV x') 1 31,.defd,.loop LoopState.ready none 0 (mkT 45 0 [(4,.ref (.ptr 0 0)),(9,D.fn (Fn.func 83) [] [.ref (.ptr 1 0),.ref (.ptr 2 0)])]) {toList:=[10]} (rfAsg (sub Tryz.f33 0)) (rfBody (sub Tryz.f33 0))],m:=[]}) (e:=Exit.normal) pok [.st (.mask [0,1,2]),.st (.trimV 6),.st (.ren 3 1)] [.b true,.row [vi m.time,vi m.campus,vi m.no,vi m.kind,vi m.stu,vi m.obj,vi m.term,vi m.val,vi m.frm,vi m.til,vs m.text,vi m.sec.id,vi m.sec.course,vi m.sec.term,vi m.sec.campus,vi m.sec.seats,Dp.sl (List.map MeT.row m.sec.mts),Dp.sl (List.map GrT.row m.sec.grs),Dp.sl (List.map intRow m.sec.labs),Dp.v (Value.bool m.sec.lab),vi m.req.campus,vi m.req.no,vi m.req.st,vi m.req.kind,vi m.req.time,Dp.sl (List.map BuT.row m.req.chs),vi m.req.gsec,vi m.req.glab,vi m.req.key,vi m.r,vi m.s],.row [vi n.time,vi n.campus,vi n.no,vi n.kind,vi n.stu,vi n.obj,vi n.term,vi n.val,vi n.frm,vi n.til,vs n.text,vi n.sec.id,vi n.sec.course,vi n.sec.term,vi n.sec.campus,vi n.sec.seats,Dp.sl (List.map MeT.row n.sec.mts),Dp.sl (List.map GrT.row n.sec.grs),Dp.sl (List.map intRow n.sec.labs),Dp.v (Value.bool n.sec.lab),vi n.req.campus,vi n.req.no,vi n.req.st,vi n.req.kind,vi n.req.time,Dp.sl (List.map BuT.row n.req.chs),vi n.req.gsec,vi n.req.glab,vi n.req.key,vi n.r,vi n.s],.val (int (stCmp {time:=m.time,campus:=m.campus,no:=m.no} {time:=n.time,campus:=n.campus,no:=n.no})),.b false,.row [vi n.time,vi n.campus,vi n.no,vi n.kind,vi n.stu,vi n.obj,vi n.term,vi n.val,vi n.frm,vi n.til,vs n.text,vi n.sec.id,vi n.sec.course,vi n.sec.term,vi n.sec.campus,vi n.sec.seats,Dp.sl (List.map MeT.row n.sec.mts),Dp.sl (List.map GrT.row n.sec.grs),Dp.sl (List.map intRow n.sec.labs),Dp.v (Value.bool n.sec.lab),vi n.req.campus,vi n.req.no,vi n.req.st,vi n.req.kind,vi n.req.time,Dp.sl (List.map BuT.row n.req.chs),vi n.req.gsec,vi n.req.glab,vi n.req.key,vi n.r,vi n.s],.ov 43 (rowsD' A'),.inv (bool true) [.var [.ref (.vec 3 2)],.var [rowsD' A'],.var [rowsD' B],.vec (joV x') 2 31,.defd,.loop LoopState.ready none 0 (mkT 45 0 [(4,.ref (.ptr 0 0)),(9,D.fn (Fn.func 83) [] [.ref (.ptr 1 0),.ref (.ptr 2 0)])]) {toList:=[10]} (rfAsg (sub Tryz.f33 0)) (rfBody (sub Tryz.f33 0)),.var [int n.time,int n.campus,int n.no,int n.kind,int n.stu,int n.obj,int n.term,int n.val,int n.frm,int n.til,strD n.text,int n.sec.id,int n.sec.course,int n.sec.term,int n.sec.campus,int n.sec.seats,rowsD' (List.map MeT.row n.sec.mts),rowsD' (List.map GrT.row n.sec.grs),rowsD' (List.map intRow n.sec.labs),bool n.sec.lab,int n.req.campus,int n.req.no,int n.req.st,int n.req.kind,int n.req.time,rowsD' (List.map BuT.row n.req.chs),int n.req.gsec,int n.req.glab,int n.req.key,int n.r,int n.s]],.b false] (by kernel_rfl) (.c hAB (.c (show(!(↑(List.length A):Int)==0&&Dd ((↑(List.length B):Int)>0))=true→RowAt 0 B [vi m.time,vi m.campus,vi m.no,vi m.kind,vi m.stu,vi m.obj,vi m.term,vi m.val,vi m.frm,vi m.til,vs m.text,vi m.sec.id,vi m.sec.course,vi m.sec.term,vi m.sec.campus,vi m.sec.seats,Dp.sl (List.map MeT.row m.sec.mts),Dp.sl (List.map GrT.row m.sec.grs),Dp.sl (List.map intRow m.sec.labs),Dp.v (Value.bool m.sec.lab),vi m.req.campus,vi m.req.no,vi m.req.st,vi m.req.kind,vi m.req.time,Dp.sl (List.map BuT.row m.req.chs),vi m.req.gsec,vi m.req.glab,vi m.req.key,vi m.r,vi m.s] 31 from(fun hg=>(hrb (by first|exact hg|(simp at hg;done)|(simp_all;done))))) (.c (show(!(↑(List.length A):Int)==0&&Dd ((↑(List.length B):Int)>0))=true→RowAt 0 A [vi n.time,vi n.campus,vi n.no,vi n.kind,vi n.stu,vi n.obj,vi n.term,vi n.val,vi n.frm,vi n.til,vs n.text,vi n.sec.id,vi n.sec.course,vi n.sec.term,vi n.sec.campus,vi n.sec.seats,Dp.sl (List.map MeT.row n.sec.mts),Dp.sl (List.map GrT.row n.sec.grs),Dp.sl (List.map intRow n.sec.labs),Dp.v (Value.bool n.sec.lab),vi n.req.campus,vi n.req.no,vi n.req.st,vi n.req.kind,vi n.req.time,Dp.sl (List.map BuT.row n.req.chs),vi n.req.gsec,vi n.req.glab,vi n.req.key,vi n.r,vi n.s] 31 from(fun hg=>hra)) (.c (show(!(↑(List.length A):Int)==0&&Dd ((↑(List.length B):Int)>0))=true→Ev Tryz.prog Γ0 43 [D.agg [int m.time,int m.campus,int m.no],D.agg [int n.time,int n.campus,int n.no]] (it_a1_x0 A B x) (int (stCmp {time:=m.time,campus:=m.campus,no:=m.no} {time:=n.time,campus:=n.campus,no:=n.no})) (it_a1_x0 A B x) from(fun hg=>(@stcmp_ev ({time:=m.time,campus:=m.campus,no:=m.no}) ({time:=n.time,campus:=n.campus,no:=n.no}) ((it_a1_x0 A B x))))) (.c hcd (.c hra (.c (show some (slOk 1 (↑(List.length A):Int) (List.length A)&&true&&(true||false)&&List.all A fun r=>Dd (List.length r=31),rowsD' (List.take (Int.toNat (↑(List.length A):Int) - Int.toNat 1) (List.drop (Int.toNat 1) A)))=some (true,rowsD' A') from(by first|(simp only[hAB,hb,hcd,cond_true,cond_false];done)|first|assumption|rfl|exact hs|exact joV_map _ _|exact joV_inn _ _|(exfalso;simp_all;done))) (.c (@hy) (.c (show(!true)=false from rfl) (.c (show Blk.inn 6 (.var [.ref (.vec 3 2)])=true from rfl) (.c (show Blk.inn 6 (.var [rowsD' A'])=true from rfl) (.c (show Blk.inn 6 (.var [rowsD' B])=true from rfl) (.c (show Blk.inn 6 (.vec (joV x') 2 31)=true from ?_) (.c (show Blk.inn 6 .defd=true from rfl) (.c (show Blk.inn 6 (.loop LoopState.ready none 0 (mkT 45 0 [(4,.ref (.ptr 0 0)),(9,D.fn (Fn.func 83) [] [.ref (.ptr 1 0),.ref (.ptr 2 0)])]) {toList:=[10]} (rfAsg (sub Tryz.f33 0)) (rfBody (sub Tryz.f33 0)))=true from rfl) (.c (show List.map (D.mapRL (renR 3 2 1)) (joV x')=joV x' from ?_) .n))))))))))))))))) (by rfl) (by rfl)<;>(first|assumption|rfl|exact hs|exact joV_map _ _|exact joV_inn _ _|(exfalso;simp_all;done))
noncomputable abbrev it_a2_x0(A:List (List Dp))(B:List (List Dp))(x:List EntT):List Blk:=[.var [.ref (.vec 3 1)],.var [rowsD' A],.var [rowsD' B],.vec (joV x) 1 31,.defd,.loop LoopState.ready none 0 (mkT 45 0 [(4,.ref (.ptr 0 0)),(9,D.fn (Fn.func 83) [] [.ref (.ptr 1 0),.ref (.ptr 2 0)])]) {toList:=[10]} (rfAsg (sub Tryz.f33 0)) (rfBody (sub Tryz.f33 0))]
theorem it_a2{A0 B0 A A' B:List (List Dp)}{x0 x x':List EntT}{m n:EntT}(hAB:(Dd ((A.length:Int)>0)||Dd ((B.length:Int)>0))=true)(hb:Dd ((B.length:Int)>0)=true)(hra:RowAt 0 A n.row 31)(hrb:RowAt 0 B m.row 31)(hs:SlT A A')(hcd:(((A.length:Int)==0)||(Dd ((B.length:Int)>0)&&Dd (stCmp ⟨m.time,m.campus,m.no⟩ ⟨n.time,n.campus,n.no⟩<0)))=false)
  (hy:Iv Tryz.prog Γ0 (.ref (.yl 5)) [ag n.row] (joH A' B x 1 .ready [evar n]) (bool true) (joH A' B x' 2 .ready [evar n])):(CW Tryz.prog Γ0 (joH A0 B0 x0 0 .ready []) false (sub Tryz.f83 0) (itS A B x) .normal (itS A' B x')):=by
 refine CW.cast (CW.symX (s':={t:=mkT 49 0 [(0,.ref (.yl 5)),(1,.ref (.ptr 1 0)),(2,.ref (.ptr 2 0))],h:=[.var [.ref (.vec 3 1)],.var [rowsD' A'],.var [rowsD' B],.vec (joV x') 1 31,.defd,.loop LoopState.ready none 0 (mkT 45 0 [(4,.ref (.ptr 0 0)),(9,D.fn (Fn.func 83) [] [.ref (.ptr 1 0),.ref (.ptr 2 0)])]) {toList:=[10]} (rfAsg (sub Tryz.f33 0)) (rfBody (sub Tryz.f33 0))],m:=[]}) (e:=Exit.normal) pok [.st (.mask [0,1,2]),.st (.trimV 6),.st (.ren 3 1)] [.b true,.row [vi m.time,vi m.campus,vi m.no,vi m.kind,vi m.stu,vi m.obj,vi m.term,vi m.val,vi m.frm,vi m.til,vs m.text,vi m.sec.id,vi m.sec.course,vi m.sec.term,vi m.sec.campus,vi m.sec.seats,Dp.sl (List.map MeT.row m.sec.mts),Dp.sl (List.map GrT.row m.sec.grs),Dp.sl (List.map intRow m.sec.labs),Dp.v (Value.bool m.sec.lab),vi m.req.campus,vi m.req.no,vi m.req.st,vi m.req.kind,vi m.req.time,Dp.sl (List.map BuT.row m.req.chs),vi m.req.gsec,vi m.req.glab,vi m.req.key,vi m.r,vi m.s],.row [vi n.time,vi n.campus,vi n.no,vi n.kind,vi n.stu,vi n.obj,vi n.term,vi n.val,vi n.frm,vi n.til,vs n.text,vi n.sec.id,vi n.sec.course,vi n.sec.term,vi n.sec.campus,vi n.sec.seats,Dp.sl (List.map MeT.row n.sec.mts),Dp.sl (List.map GrT.row n.sec.grs),Dp.sl (List.map intRow n.sec.labs),Dp.v (Value.bool n.sec.lab),vi n.req.campus,vi n.req.no,vi n.req.st,vi n.req.kind,vi n.req.time,Dp.sl (List.map BuT.row n.req.chs),vi n.req.gsec,vi n.req.glab,vi n.req.key,vi n.r,vi n.s],.val (int (stCmp {time:=m.time,campus:=m.campus,no:=m.no} {time:=n.time,campus:=n.campus,no:=n.no})),.b false,.row [vi n.time,vi n.campus,vi n.no,vi n.kind,vi n.stu,vi n.obj,vi n.term,vi n.val,vi n.frm,vi n.til,vs n.text,vi n.sec.id,vi n.sec.course,vi n.sec.term,vi n.sec.campus,vi n.sec.seats,Dp.sl (List.map MeT.row n.sec.mts),Dp.sl (List.map GrT.row n.sec.grs),Dp.sl (List.map intRow n.sec.labs),Dp.v (Value.bool n.sec.lab),vi n.req.campus,vi n.req.no,vi n.req.st,vi n.req.kind,vi n.req.time,Dp.sl (List.map BuT.row n.req.chs),vi n.req.gsec,vi n.req.glab,vi n.req.key,vi n.r,vi n.s],.ov 43 (rowsD' A'),.inv (bool true) [.var [.ref (.vec 3 2)],.var [rowsD' A'],.var [rowsD' B],.vec (joV x') 2 31,.defd,.loop LoopState.ready none 0 (mkT 45 0 [(4,.ref (.ptr 0 0)),(9,D.fn (Fn.func 83) [] [.ref (.ptr 1 0),.ref (.ptr 2 0)])]) {toList:=[10]} (rfAsg (sub Tryz.f33 0)) (rfBody (sub Tryz.f33 0)),.var [int n.time,int n.campus,int n.no,int n.kind,int n.stu,int n.obj,int n.term,int n.val,int n.frm,int n.til,strD n.text,int n.sec.id,int n.sec.course,int n.sec.term,int n.sec.campus,int n.sec.seats,rowsD' (List.map MeT.row n.sec.mts),rowsD' (List.map GrT.row n.sec.grs),rowsD' (List.map intRow n.sec.labs),bool n.sec.lab,int n.req.campus,int n.req.no,int n.req.st,int n.req.kind,int n.req.time,rowsD' (List.map BuT.row n.req.chs),int n.req.gsec,int n.req.glab,int n.req.key,int n.r,int n.s]],.b false] (by kernel_rfl) (.c hAB (.c (show(!(↑(List.length A):Int)==0&&Dd ((↑(List.length B):Int)>0))=true→RowAt 0 B [vi m.time,vi m.campus,vi m.no,vi m.kind,vi m.stu,vi m.obj,vi m.term,vi m.val,vi m.frm,vi m.til,vs m.text,vi m.sec.id,vi m.sec.course,vi m.sec.term,vi m.sec.campus,vi m.sec.seats,Dp.sl (List.map MeT.row m.sec.mts),Dp.sl (List.map GrT.row m.sec.grs),Dp.sl (List.map intRow m.sec.labs),Dp.v (Value.bool m.sec.lab),vi m.req.campus,vi m.req.no,vi m.req.st,vi m.req.kind,vi m.req.time,Dp.sl (List.map BuT.row m.req.chs),vi m.req.gsec,vi m.req.glab,vi m.req.key,vi m.r,vi m.s] 31 from(fun hg=>hrb)) (.c (show(!(↑(List.length A):Int)==0&&Dd ((↑(List.length B):Int)>0))=true→RowAt 0 A [vi n.time,vi n.campus,vi n.no,vi n.kind,vi n.stu,vi n.obj,vi n.term,vi n.val,vi n.frm,vi n.til,vs n.text,vi n.sec.id,vi n.sec.course,vi n.sec.term,vi n.sec.campus,vi n.sec.seats,Dp.sl (List.map MeT.row n.sec.mts),Dp.sl (List.map GrT.row n.sec.grs),Dp.sl (List.map intRow n.sec.labs),Dp.v (Value.bool n.sec.lab),vi n.req.campus,vi n.req.no,vi n.req.st,vi n.req.kind,vi n.req.time,Dp.sl (List.map BuT.row n.req.chs),vi n.req.gsec,vi n.req.glab,vi n.req.key,vi n.r,vi n.s] 31 from(fun hg=>hra)) (.c (show(!(↑(List.length A):Int)==0&&Dd ((↑(List.length B):Int)>0))=true→Ev Tryz.prog Γ0 43 [D.agg [int m.time,int m.campus,int m.no],D.agg [int n.time,int n.campus,int n.no]] (it_a2_x0 A B x) (int (stCmp {time:=m.time,campus:=m.campus,no:=m.no} {time:=n.time,campus:=n.campus,no:=n.no})) (it_a2_x0 A B x) from(fun hg=>(@stcmp_ev ({time:=m.time,campus:=m.campus,no:=m.no}) ({time:=n.time,campus:=n.campus,no:=n.no}) ((it_a2_x0 A B x))))) (.c hcd (.c hra (.c (show some (slOk 1 (↑(List.length A):Int) (List.length A)&&true&&(true||false)&&List.all A fun r=>Dd (List.length r=31),rowsD' (List.take (Int.toNat (↑(List.length A):Int) - Int.toNat 1) (List.drop (Int.toNat 1) A)))=some (true,rowsD' A') from(by first|(simp only[hAB,hb,hcd,cond_true,cond_false];done)|first|assumption|rfl|exact hs|exact joV_map _ _|exact joV_inn _ _)) (.c (@hy) (.c (show(!true)=false from rfl) (.c (show Blk.inn 6 (.var [.ref (.vec 3 2)])=true from rfl) (.c (show Blk.inn 6 (.var [rowsD' A'])=true from rfl) (.c (show Blk.inn 6 (.var [rowsD' B])=true from rfl) (.c (show Blk.inn 6 (.vec (joV x') 2 31)=true from ?_) (.c (show Blk.inn 6 .defd=true from rfl) (.c (show Blk.inn 6 (.loop LoopState.ready none 0 (mkT 45 0 [(4,.ref (.ptr 0 0)),(9,D.fn (Fn.func 83) [] [.ref (.ptr 1 0),.ref (.ptr 2 0)])]) {toList:=[10]} (rfAsg (sub Tryz.f33 0)) (rfBody (sub Tryz.f33 0)))=true from rfl) (.c (show List.map (D.mapRL (renR 3 2 1)) (joV x')=joV x' from ?_) .n))))))))))))))))) (by rfl) (by rfl)<;>(first|assumption|rfl|exact hs|exact joV_map _ _|exact joV_inn _ _)
noncomputable abbrev it_b1_x0(A:List (List Dp))(B:List (List Dp))(x:List EntT):List Blk:=[.var [.ref (.vec 3 1)],.var [rowsD' A],.var [rowsD' B],.vec (joV x) 1 31,.defd,.loop LoopState.ready none 0 (mkT 45 0 [(4,.ref (.ptr 0 0)),(9,D.fn (Fn.func 83) [] [.ref (.ptr 1 0),.ref (.ptr 2 0)])]) {toList:=[10]} (rfAsg (sub Tryz.f33 0)) (rfBody (sub Tryz.f33 0))]
theorem it_b1{A0 B0 A B B':List (List Dp)}{x0 x x':List EntT}{m n:EntT}(hAB:(Dd ((A.length:Int)>0)||Dd ((B.length:Int)>0))=true)(ha:((A.length:Int)==0)=true)(hra:False→RowAt 0 A n.row 31)(hrb:RowAt 0 B m.row 31)(hs:SlT B B')(hcd:(((A.length:Int)==0)||(Dd ((B.length:Int)>0)&&Dd (stCmp ⟨m.time,m.campus,m.no⟩ ⟨n.time,n.campus,n.no⟩<0)))=true)
  (hy:Iv Tryz.prog Γ0 (.ref (.yl 5)) [ag m.row] (joH A B' x 1 .ready [evar m]) (bool true) (joH A B' x' 2 .ready [evar m])):(CW Tryz.prog Γ0 (joH A0 B0 x0 0 .ready []) false (sub Tryz.f83 0) (itS A B x) .normal (itS A B' x')):=by
 refine CW.cast (CW.symX (s':={t:=mkT 49 0 [(0,.ref (.yl 5)),(1,.ref (.ptr 1 0)),(2,.ref (.ptr 2 0))],h:=[.var [.ref (.vec 3 1)],.var [rowsD' A],.var [rowsD' B'],.vec (joV x') 1 31,.defd,.loop LoopState.ready none 0 (mkT 45 0 [(4,.ref (.ptr 0 0)),(9,D.fn (Fn.func 83) [] [.ref (.ptr 1 0),.ref (.ptr 2 0)])]) {toList:=[10]} (rfAsg (sub Tryz.f33 0)) (rfBody (sub Tryz.f33 0))],m:=[]}) (e:=Exit.normal) pok [.st (.mask [0,1,2]),.st (.trimV 6),.st (.ren 3 1)] [.b true,.row [vi m.time,vi m.campus,vi m.no,vi m.kind,vi m.stu,vi m.obj,vi m.term,vi m.val,vi m.frm,vi m.til,vs m.text,vi m.sec.id,vi m.sec.course,vi m.sec.term,vi m.sec.campus,vi m.sec.seats,Dp.sl (List.map MeT.row m.sec.mts),Dp.sl (List.map GrT.row m.sec.grs),Dp.sl (List.map intRow m.sec.labs),Dp.v (Value.bool m.sec.lab),vi m.req.campus,vi m.req.no,vi m.req.st,vi m.req.kind,vi m.req.time,Dp.sl (List.map BuT.row m.req.chs),vi m.req.gsec,vi m.req.glab,vi m.req.key,vi m.r,vi m.s],.row [vi n.time,vi n.campus,vi n.no,vi n.kind,vi n.stu,vi n.obj,vi n.term,vi n.val,vi n.frm,vi n.til,vs n.text,vi n.sec.id,vi n.sec.course,vi n.sec.term,vi n.sec.campus,vi n.sec.seats,Dp.sl (List.map MeT.row n.sec.mts),Dp.sl (List.map GrT.row n.sec.grs),Dp.sl (List.map intRow n.sec.labs),Dp.v (Value.bool n.sec.lab),vi n.req.campus,vi n.req.no,vi n.req.st,vi n.req.kind,vi n.req.time,Dp.sl (List.map BuT.row n.req.chs),vi n.req.gsec,vi n.req.glab,vi n.req.key,vi n.r,vi n.s],.val (int (stCmp {time:=m.time,campus:=m.campus,no:=m.no} {time:=n.time,campus:=n.campus,no:=n.no})),.b true,.row [vi m.time,vi m.campus,vi m.no,vi m.kind,vi m.stu,vi m.obj,vi m.term,vi m.val,vi m.frm,vi m.til,vs m.text,vi m.sec.id,vi m.sec.course,vi m.sec.term,vi m.sec.campus,vi m.sec.seats,Dp.sl (List.map MeT.row m.sec.mts),Dp.sl (List.map GrT.row m.sec.grs),Dp.sl (List.map intRow m.sec.labs),Dp.v (Value.bool m.sec.lab),vi m.req.campus,vi m.req.no,vi m.req.st,vi m.req.kind,vi m.req.time,Dp.sl (List.map BuT.row m.req.chs),vi m.req.gsec,vi m.req.glab,vi m.req.key,vi m.r,vi m.s],.ov 43 (rowsD' B'),.inv (bool true) [.var [.ref (.vec 3 2)],.var [rowsD' A],.var [rowsD' B'],.vec (joV x') 2 31,.defd,.loop LoopState.ready none 0 (mkT 45 0 [(4,.ref (.ptr 0 0)),(9,D.fn (Fn.func 83) [] [.ref (.ptr 1 0),.ref (.ptr 2 0)])]) {toList:=[10]} (rfAsg (sub Tryz.f33 0)) (rfBody (sub Tryz.f33 0)),.var [int m.time,int m.campus,int m.no,int m.kind,int m.stu,int m.obj,int m.term,int m.val,int m.frm,int m.til,strD m.text,int m.sec.id,int m.sec.course,int m.sec.term,int m.sec.campus,int m.sec.seats,rowsD' (List.map MeT.row m.sec.mts),rowsD' (List.map GrT.row m.sec.grs),rowsD' (List.map intRow m.sec.labs),bool m.sec.lab,int m.req.campus,int m.req.no,int m.req.st,int m.req.kind,int m.req.time,rowsD' (List.map BuT.row m.req.chs),int m.req.gsec,int m.req.glab,int m.req.key,int m.r,int m.s]],.b false] (by kernel_rfl) (.c hAB (.c (show(!(↑(List.length A):Int)==0&&Dd ((↑(List.length B):Int)>0))=true→RowAt 0 B [vi m.time,vi m.campus,vi m.no,vi m.kind,vi m.stu,vi m.obj,vi m.term,vi m.val,vi m.frm,vi m.til,vs m.text,vi m.sec.id,vi m.sec.course,vi m.sec.term,vi m.sec.campus,vi m.sec.seats,Dp.sl (List.map MeT.row m.sec.mts),Dp.sl (List.map GrT.row m.sec.grs),Dp.sl (List.map intRow m.sec.labs),Dp.v (Value.bool m.sec.lab),vi m.req.campus,vi m.req.no,vi m.req.st,vi m.req.kind,vi m.req.time,Dp.sl (List.map BuT.row m.req.chs),vi m.req.gsec,vi m.req.glab,vi m.req.key,vi m.r,vi m.s] 31 from(fun hg=>hrb)) (.c (show(!(↑(List.length A):Int)==0&&Dd ((↑(List.length B):Int)>0))=true→RowAt 0 A [vi n.time,vi n.campus,vi n.no,vi n.kind,vi n.stu,vi n.obj,vi n.term,vi n.val,vi n.frm,vi n.til,vs n.text,vi n.sec.id,vi n.sec.course,vi n.sec.term,vi n.sec.campus,vi n.sec.seats,Dp.sl (List.map MeT.row n.sec.mts),Dp.sl (List.map GrT.row n.sec.grs),Dp.sl (List.map intRow n.sec.labs),Dp.v (Value.bool n.sec.lab),vi n.req.campus,vi n.req.no,vi n.req.st,vi n.req.kind,vi n.req.time,Dp.sl (List.map BuT.row n.req.chs),vi n.req.gsec,vi n.req.glab,vi n.req.key,vi n.r,vi n.s] 31 from(fun hg=>(hra (by first|exact hg|(simp at hg;done)|(simp_all;done))))) (.c (show(!(↑(List.length A):Int)==0&&Dd ((↑(List.length B):Int)>0))=true→Ev Tryz.prog Γ0 43 [D.agg [int m.time,int m.campus,int m.no],D.agg [int n.time,int n.campus,int n.no]] (it_b1_x0 A B x) (int (stCmp {time:=m.time,campus:=m.campus,no:=m.no} {time:=n.time,campus:=n.campus,no:=n.no})) (it_b1_x0 A B x) from(fun hg=>(@stcmp_ev ({time:=m.time,campus:=m.campus,no:=m.no}) ({time:=n.time,campus:=n.campus,no:=n.no}) ((it_b1_x0 A B x))))) (.c hcd (.c hrb (.c (show some (slOk 1 (↑(List.length B):Int) (List.length B)&&true&&(true||false)&&List.all B fun r=>Dd (List.length r=31),rowsD' (List.take (Int.toNat (↑(List.length B):Int) - Int.toNat 1) (List.drop (Int.toNat 1) B)))=some (true,rowsD' B') from(by first|(simp only[hAB,ha,hcd,cond_true,cond_false];done)|first|assumption|rfl|exact hs|exact joV_map _ _|exact joV_inn _ _)) (.c (@hy) (.c (show(!true)=false from rfl) (.c (show Blk.inn 6 (.var [.ref (.vec 3 2)])=true from rfl) (.c (show Blk.inn 6 (.var [rowsD' A])=true from rfl) (.c (show Blk.inn 6 (.var [rowsD' B'])=true from rfl) (.c (show Blk.inn 6 (.vec (joV x') 2 31)=true from ?_) (.c (show Blk.inn 6 .defd=true from rfl) (.c (show Blk.inn 6 (.loop LoopState.ready none 0 (mkT 45 0 [(4,.ref (.ptr 0 0)),(9,D.fn (Fn.func 83) [] [.ref (.ptr 1 0),.ref (.ptr 2 0)])]) {toList:=[10]} (rfAsg (sub Tryz.f33 0)) (rfBody (sub Tryz.f33 0)))=true from rfl) (.c (show List.map (D.mapRL (renR 3 2 1)) (joV x')=joV x' from ?_) .n))))))))))))))))) (by rfl) (by rfl)<;>(first|assumption|rfl|exact hs|exact joV_map _ _|exact joV_inn _ _)
noncomputable abbrev it_b2_x0(A:List (List Dp))(B:List (List Dp))(x:List EntT):List Blk:=[.var [.ref (.vec 3 1)],.var [rowsD' A],.var [rowsD' B],.vec (joV x) 1 31,.defd,.loop LoopState.ready none 0 (mkT 45 0 [(4,.ref (.ptr 0 0)),(9,D.fn (Fn.func 83) [] [.ref (.ptr 1 0),.ref (.ptr 2 0)])]) {toList:=[10]} (rfAsg (sub Tryz.f33 0)) (rfBody (sub Tryz.f33 0))]
theorem it_b2{A0 B0 A B B':List (List Dp)}{x0 x x':List EntT}{m n:EntT}(hAB:(Dd ((A.length:Int)>0)||Dd ((B.length:Int)>0))=true)(ha:((A.length:Int)==0)=false)(hb:Dd ((B.length:Int)>0)=true)(hra:RowAt 0 A n.row 31)(hrb:RowAt 0 B m.row 31)(hs:SlT B B')(hcd:(((A.length:Int)==0)||(Dd ((B.length:Int)>0)&&Dd (stCmp ⟨m.time,m.campus,m.no⟩ ⟨n.time,n.campus,n.no⟩<0)))=true)
  (hy:Iv Tryz.prog Γ0 (.ref (.yl 5)) [ag m.row] (joH A B' x 1 .ready [evar m]) (bool true) (joH A B' x' 2 .ready [evar m])):(CW Tryz.prog Γ0 (joH A0 B0 x0 0 .ready []) false (sub Tryz.f83 0) (itS A B x) .normal (itS A B' x')):=by
 refine CW.cast (CW.symX (s':={t:=mkT 49 0 [(0,.ref (.yl 5)),(1,.ref (.ptr 1 0)),(2,.ref (.ptr 2 0))],h:=[.var [.ref (.vec 3 1)],.var [rowsD' A],.var [rowsD' B'],.vec (joV x') 1 31,.defd,.loop LoopState.ready none 0 (mkT 45 0 [(4,.ref (.ptr 0 0)),(9,D.fn (Fn.func 83) [] [.ref (.ptr 1 0),.ref (.ptr 2 0)])]) {toList:=[10]} (rfAsg (sub Tryz.f33 0)) (rfBody (sub Tryz.f33 0))],m:=[]}) (e:=Exit.normal) pok [.st (.mask [0,1,2]),.st (.trimV 6),.st (.ren 3 1)] [.b true,.row [vi m.time,vi m.campus,vi m.no,vi m.kind,vi m.stu,vi m.obj,vi m.term,vi m.val,vi m.frm,vi m.til,vs m.text,vi m.sec.id,vi m.sec.course,vi m.sec.term,vi m.sec.campus,vi m.sec.seats,Dp.sl (List.map MeT.row m.sec.mts),Dp.sl (List.map GrT.row m.sec.grs),Dp.sl (List.map intRow m.sec.labs),Dp.v (Value.bool m.sec.lab),vi m.req.campus,vi m.req.no,vi m.req.st,vi m.req.kind,vi m.req.time,Dp.sl (List.map BuT.row m.req.chs),vi m.req.gsec,vi m.req.glab,vi m.req.key,vi m.r,vi m.s],.row [vi n.time,vi n.campus,vi n.no,vi n.kind,vi n.stu,vi n.obj,vi n.term,vi n.val,vi n.frm,vi n.til,vs n.text,vi n.sec.id,vi n.sec.course,vi n.sec.term,vi n.sec.campus,vi n.sec.seats,Dp.sl (List.map MeT.row n.sec.mts),Dp.sl (List.map GrT.row n.sec.grs),Dp.sl (List.map intRow n.sec.labs),Dp.v (Value.bool n.sec.lab),vi n.req.campus,vi n.req.no,vi n.req.st,vi n.req.kind,vi n.req.time,Dp.sl (List.map BuT.row n.req.chs),vi n.req.gsec,vi n.req.glab,vi n.req.key,vi n.r,vi n.s],.val (int (stCmp {time:=m.time,campus:=m.campus,no:=m.no} {time:=n.time,campus:=n.campus,no:=n.no})),.b true,.row [vi m.time,vi m.campus,vi m.no,vi m.kind,vi m.stu,vi m.obj,vi m.term,vi m.val,vi m.frm,vi m.til,vs m.text,vi m.sec.id,vi m.sec.course,vi m.sec.term,vi m.sec.campus,vi m.sec.seats,Dp.sl (List.map MeT.row m.sec.mts),Dp.sl (List.map GrT.row m.sec.grs),Dp.sl (List.map intRow m.sec.labs),Dp.v (Value.bool m.sec.lab),vi m.req.campus,vi m.req.no,vi m.req.st,vi m.req.kind,vi m.req.time,Dp.sl (List.map BuT.row m.req.chs),vi m.req.gsec,vi m.req.glab,vi m.req.key,vi m.r,vi m.s],.ov 43 (rowsD' B'),.inv (bool true) [.var [.ref (.vec 3 2)],.var [rowsD' A],.var [rowsD' B'],.vec (joV x') 2 31,.defd,.loop LoopState.ready none 0 (mkT 45 0 [(4,.ref (.ptr 0 0)),(9,D.fn (Fn.func 83) [] [.ref (.ptr 1 0),.ref (.ptr 2 0)])]) {toList:=[10]} (rfAsg (sub Tryz.f33 0)) (rfBody (sub Tryz.f33 0)),.var [int m.time,int m.campus,int m.no,int m.kind,int m.stu,int m.obj,int m.term,int m.val,int m.frm,int m.til,strD m.text,int m.sec.id,int m.sec.course,int m.sec.term,int m.sec.campus,int m.sec.seats,rowsD' (List.map MeT.row m.sec.mts),rowsD' (List.map GrT.row m.sec.grs),rowsD' (List.map intRow m.sec.labs),bool m.sec.lab,int m.req.campus,int m.req.no,int m.req.st,int m.req.kind,int m.req.time,rowsD' (List.map BuT.row m.req.chs),int m.req.gsec,int m.req.glab,int m.req.key,int m.r,int m.s]],.b false] (by kernel_rfl) (.c hAB (.c (show(!(↑(List.length A):Int)==0&&Dd ((↑(List.length B):Int)>0))=true→RowAt 0 B [vi m.time,vi m.campus,vi m.no,vi m.kind,vi m.stu,vi m.obj,vi m.term,vi m.val,vi m.frm,vi m.til,vs m.text,vi m.sec.id,vi m.sec.course,vi m.sec.term,vi m.sec.campus,vi m.sec.seats,Dp.sl (List.map MeT.row m.sec.mts),Dp.sl (List.map GrT.row m.sec.grs),Dp.sl (List.map intRow m.sec.labs),Dp.v (Value.bool m.sec.lab),vi m.req.campus,vi m.req.no,vi m.req.st,vi m.req.kind,vi m.req.time,Dp.sl (List.map BuT.row m.req.chs),vi m.req.gsec,vi m.req.glab,vi m.req.key,vi m.r,vi m.s] 31 from(fun hg=>hrb)) (.c (show(!(↑(List.length A):Int)==0&&Dd ((↑(List.length B):Int)>0))=true→RowAt 0 A [vi n.time,vi n.campus,vi n.no,vi n.kind,vi n.stu,vi n.obj,vi n.term,vi n.val,vi n.frm,vi n.til,vs n.text,vi n.sec.id,vi n.sec.course,vi n.sec.term,vi n.sec.campus,vi n.sec.seats,Dp.sl (List.map MeT.row n.sec.mts),Dp.sl (List.map GrT.row n.sec.grs),Dp.sl (List.map intRow n.sec.labs),Dp.v (Value.bool n.sec.lab),vi n.req.campus,vi n.req.no,vi n.req.st,vi n.req.kind,vi n.req.time,Dp.sl (List.map BuT.row n.req.chs),vi n.req.gsec,vi n.req.glab,vi n.req.key,vi n.r,vi n.s] 31 from(fun hg=>hra)) (.c (show(!(↑(List.length A):Int)==0&&Dd ((↑(List.length B):Int)>0))=true→Ev Tryz.prog Γ0 43 [D.agg [int m.time,int m.campus,int m.no],D.agg [int n.time,int n.campus,int n.no]] (it_b2_x0 A B x) (int (stCmp {time:=m.time,campus:=m.campus,no:=m.no} {time:=n.time,campus:=n.campus,no:=n.no})) (it_b2_x0 A B x) from(fun hg=>(@stcmp_ev ({time:=m.time,campus:=m.campus,no:=m.no}) ({time:=n.time,campus:=n.campus,no:=n.no}) ((it_b2_x0 A B x))))) (.c hcd (.c hrb (.c (show some (slOk 1 (↑(List.length B):Int) (List.length B)&&true&&(true||false)&&List.all B fun r=>Dd (List.length r=31),rowsD' (List.take (Int.toNat (↑(List.length B):Int) - Int.toNat 1) (List.drop (Int.toNat 1) B)))=some (true,rowsD' B') from(by first|(simp only[hAB,ha,hb,hcd,cond_true,cond_false];done)|first|assumption|rfl|exact hs|exact joV_map _ _|exact joV_inn _ _)) (.c (@hy) (.c (show(!true)=false from rfl) (.c (show Blk.inn 6 (.var [.ref (.vec 3 2)])=true from rfl) (.c (show Blk.inn 6 (.var [rowsD' A])=true from rfl) (.c (show Blk.inn 6 (.var [rowsD' B'])=true from rfl) (.c (show Blk.inn 6 (.vec (joV x') 2 31)=true from ?_) (.c (show Blk.inn 6 .defd=true from rfl) (.c (show Blk.inn 6 (.loop LoopState.ready none 0 (mkT 45 0 [(4,.ref (.ptr 0 0)),(9,D.fn (Fn.func 83) [] [.ref (.ptr 1 0),.ref (.ptr 2 0)])]) {toList:=[10]} (rfAsg (sub Tryz.f33 0)) (rfBody (sub Tryz.f33 0)))=true from rfl) (.c (show List.map (D.mapRL (renR 3 2 1)) (joV x')=joV x' from ?_) .n))))))))))))))))) (by rfl) (by rfl)<;>(first|assumption|rfl|exact hs|exact joV_map _ _|exact joV_inn _ _)
theorem it_last{A0 B0 A B:List (List Dp)}{x0 x:List EntT}(hAB:(Dd ((A.length:Int)>0)||Dd ((B.length:Int)>0))=false):(CW Tryz.prog Γ0 (joH A0 B0 x0 0 .ready []) false (sub Tryz.f83 0) (itS A B x) (.exit 0) {t:=mkT 49 0 [],h:=joH A B x 1 .ready [],m:=[]}):=by
 exact CW.cast (CW.symX (s':={t:=mkT 49 0 [],h:=[.var [.ref (.vec 3 1)],.var [rowsD' A],.var [rowsD' B],.vec (joV x) 1 31,.defd,.loop LoopState.ready none 0 (mkT 45 0 [(4,.ref (.ptr 0 0)),(9,D.fn (Fn.func 83) [] [.ref (.ptr 1 0),.ref (.ptr 2 0)])]) {toList:=[10]} (rfAsg (sub Tryz.f33 0)) (rfBody (sub Tryz.f33 0))],m:=[]}) (e:=Exit.exit 0) pok [.st (.mask [])] [.b false] (by kernel_rfl) (.c hAB .n)) (by rfl) (by rfl)
def joF(x:List EntT)(n:EntT):Option (List EntT):=match x.getLast? with
 | none=>some (x++[n])
 | some l=>match stEq l.st n.st with
  | false=>some (x++[n])
  | true=>bif entEq l n then some x else none
def joG:Nat→List EntT→List EntT→List EntT→Option (List EntT)
 | 0,_,_,x=>some x
 | _+1,[],[],x=>some x
 | k+1,[],m::b,x=>(joF x m).bind (joG k [] b)
 | k+1,n::a,[],x=>(joF x n).bind (joG k a [])
 | k+1,n::a,m::b,x=>match Dd (stCmp m.st n.st<0) with
  | true=>(joF x m).bind (joG k (n::a) b)
  | false=>(joF x n).bind (joG k a (m::b))
theorem joF_len{x y:List EntT}{n:EntT}(h:joF x n=some y):y.length≤x.length+1:=by
 unfold joF at h
 split at h
 ·cases h;simp
 ·split at h
  ·cases h;simp
  ·rename_i l _ _ _
   cases hb:entEq l n<;>rw[hb] at h<;>cases h
   omega
theorem joF_mem{x y:List EntT}{n:EntT}(h:joF x n=some y):∀e∈y,e∈x∨e=n:=by
 unfold joF at h
 have h1:∀e∈x++[n],e∈x∨e=n:=by simp
 split at h
 ·cases h;exact h1
 ·split at h
  ·cases h;exact h1
  ·rename_i l _ _ _
   cases hb:entEq l n<;>rw[hb] at h<;>cases h
   exact fun e he=>.inl he
theorem same_ev'{a b:EntT}(o:a.ok){r:Bool}(hr:entEq a b=r)(h:List Blk):Ev Tryz.prog Γ0 42 [ag a.row,ag b.row] h (bool r) h:=by
 subst hr
 exact same_ev o.m o.g o.l o.c h
theorem joLast{α:Type}:∀{x:List α} {l:α},x.getLast? = some l→x ≠ []∧x[x.length - 1]? = some l:=by
 intro x l h
 rw[List.getLast?_eq_getElem?] at h
 exact⟨by rintro rfl;simp at h,h⟩
theorem joIv_ev{A B:List (List Dp)}{x y:List EntT}{n:EntT}(ho:∀e∈x,e.ok)(hl:x.length≤1000000)(hy:joF x n=some y):Iv Tryz.prog Γ0 (.ref (.yl 5)) [ag n.row] (joH A B x 1 .ready [evar n]) (bool true) (joH A B y 2 .ready [evar n]):=by
 unfold joF at hy
 cases hx:x.getLast? with
 | none =>
  rw[hx] at hy
  cases hy
  have e0:x=[]:=by simpa using hx
  have hk:Dd (IntKind.i64.wrap (((joV x).length:Int) - 1)≥0)=false:=by rw[e0];decide
  exact Iv.round (h1:=joH A B x 1 .ready [evar n,evar n]) rfl rfl jo_asg rfl (jo_b0 (l:=n) hk (by rw[hk,Bool.false_and]) hl) rfl
 | some l =>
  rw[hx] at hy
  obtain⟨hne,hg⟩:=joLast hx
  have hpos:0<x.length:=List.length_pos_iff.2 hne
  have hw:IntKind.i64.wrap (((joV x).length:Int) - 1)=((x.length - 1:Nat):Int):=by
   rw[joV_len,wrap_i64 (by omega) (by omega)];omega
  have hk:Dd (IntKind.i64.wrap (((joV x).length:Int) - 1)≥0)=true:=by rw[hw];simp
  have hi:inR (IntKind.i64.wrap (((joV x).length:Int) - 1)) (joV x).length=true:=by rw[hw];simp[inR,joV_len];omega
  have hx2:x[Int.toNat (IntKind.i64.wrap (((joV x).length:Int) - 1))]? = some l:=by rw[hw,Int.toNat_natCast];exact hg
  simp only at hy
  cases hs:stEq l.st n.st with
  | false =>
   rw[hs] at hy
   cases hy
   exact Iv.round (h1:=joH A B x 1 .ready [evar n,evar n]) rfl rfl jo_asg rfl (jo_b1 hk hi hx2 (by rw[hk,Bool.true_and];exact hs) hl) rfl
  | true =>
   rw[hs] at hy
   simp only at hy
   cases hb:entEq l n with
   | false=>rw[hb] at hy;cases hy
   | true =>
    rw[hb] at hy
    cases hy
    have hm:l∈x:=List.mem_of_getElem? hg
    exact Iv.round (h1:=joH A B x 1 .ready [evar n,evar n]) rfl rfl jo_asg rfl (jo_b2 hk hi hx2 (by rw[hk,Bool.true_and];exact hs) (fun h=>same_ev' (ho l hm) hb h)) rfl
theorem slT_cons(l:List EntT)(n:EntT):SlT ((n::l).map EntT.row) (l.map EntT.row):=by
 unfold SlT
 have h1:(((n::l).map EntT.row).all fun r=>Dd (r.length=31))=true:=by
  rw[List.all_map]
  exact List.all_eq_true.2 fun e _=>rfl
 rw[h1]
 have h2:List.take ((((n::l).map EntT.row).length:Int).toNat - Int.toNat 1) (List.drop (Int.toNat 1) ((n::l).map EntT.row))=l.map EntT.row:=by
  show List.take ((((n::l).map EntT.row).length:Int).toNat - 1) (l.map EntT.row)=_
  apply List.take_of_length_le
  simp
 rw[h2]
 have h3:slOk 1 (((n::l).map EntT.row).length:Int) ((n::l).map EntT.row).length=true:=by
  simp[slOk]
  omega
 rw[h3]
 rfl
structure JoI (a b x:List EntT) (k:Nat) (y:List EntT):Prop where
 kk:a.length+b.length=k
 l:x.length+a.length+b.length≤1000000
 oa:∀e∈a,e.ok
 ob:∀e∈b,e.ok
 ox:∀e∈x,e.ok
 g:joG k a b x=some y
theorem JoI.step_b{a b x x' y:List EntT}{m:EntT}{k:Nat}(I:JoI a (m::b) x (k+1) y)(hx:joF x m=some x')(hg:joG k a b x'=some y):JoI a b x' k y:=by
 have h1:=I.kk
 have h2:=I.l
 have h3:=joF_len hx
 simp only[List.length_cons] at h1 h2
 refine⟨by omega,by omega,I.oa,fun e he=>I.ob e (by simp[he]),fun e he=>?_,hg⟩
 rcases joF_mem hx e he with h|h
 ·exact I.ox e h
 ·exact I.ob e (by simp[h])
theorem JoI.step_a{a b x x' y:List EntT}{n:EntT}{k:Nat}(I:JoI (n::a) b x (k+1) y)(hx:joF x n=some x')(hg:joG k a b x'=some y):JoI a b x' k y:=by
 have h1:=I.kk
 have h2:=I.l
 have h3:=joF_len hx
 simp only[List.length_cons] at h1 h2
 refine⟨by omega,by omega,fun e he=>I.oa e (by simp[he]),I.ob,fun e he=>?_,hg⟩
 rcases joF_mem hx e he with h|h
 ·exact I.ox e h
 ·exact I.oa e (by simp[h])
theorem len_pos(n:EntT)(a:List EntT):Dd ((((n::a).map EntT.row).length:Int)>0)=true:=by first|(simp;done)|(simp;omega)
theorem len_ne(n:EntT)(a:List EntT):((((n::a).map EntT.row).length:Int)==0)=false:=by first|(simp;done)|(simp;omega)
theorem row0(n:EntT)(a:List EntT):RowAt 0 ((n::a).map EntT.row) n.row 31:=rowAt (row:=EntT.row) (n:=0) (l:=n::a) rfl rfl
theorem jo_cw{a b x y:List EntT}{k:Nat}(I:JoI a b x k y){A0 B0:List (List Dp)}{x0:List EntT}:
  CW Tryz.prog Γ0 (joH A0 B0 x0 0 .ready []) false (.loop (sub Tryz.f83 0)) (itS (a.map EntT.row) (b.map EntT.row) x) (.exit 0) {t:=mkT 49 0 [],h:=joH [] [] y 1 .ready [],m:=[]}:=by
 refine CW.loop (ι:={p:List EntT×List EntT×List EntT×Nat // JoI p.1 p.2.1 p.2.2.1 p.2.2.2 y}) (fun p=>itS (p.1.1.map EntT.row) (p.1.2.1.map EntT.row) p.1.2.2.1) (fun _=>(.exit 0,{t:=mkT 49 0 [],h:=joH [] [] y 1 .ready [],m:=[]})) (fun p=>p.1.2.2.2) ?_ ⟨(a,b,x,k),I⟩
 rintro⟨⟨a,b,x,k⟩,I⟩
 have hl:x.length≤1000000:=by have:=I.l;simp only at this;omega
 match a,b,k,I with
 | [],[],k,I =>
  right
  have hy:x=y:=by
   have:=I.g
   cases k with
   | zero=>simpa[joG] using this
   | succ k=>simpa[joG] using this
  subst hy
  exact⟨by simp,it_last rfl⟩
 | [],m::b,0,I=>have:=I.kk;simp at this
 | n::a,_,0,I=>have:=I.kk;simp at this
 | [],m::b,k+1,I =>
  left
  have hg:=I.g
  simp only[joG] at hg
  cases hx:joF x m with
  | none=>rw[hx] at hg;cases hg
  | some x' =>
   rw[hx] at hg
   refine⟨⟨([],b,x',k),I.step_b hx hg⟩,Nat.lt_succ_self k,rfl,?_⟩
   exact it_b1 (n:=m) (m:=m) (by rw[len_pos,Bool.or_true]) rfl (fun h=>h.elim) (row0 m b) (slT_cons b m) rfl (joIv_ev I.ox hl hx)
 | n::a,[],k+1,I =>
  left
  have hg:=I.g
  simp only[joG] at hg
  cases hx:joF x n with
  | none=>rw[hx] at hg;cases hg
  | some x' =>
   rw[hx] at hg
   refine⟨⟨(a,[],x',k),I.step_a hx hg⟩,Nat.lt_succ_self k,rfl,?_⟩
   exact it_a1 (n:=n) (m:=n) (by rw[len_pos,Bool.true_or]) rfl (row0 n a) (fun h=>h.elim) (slT_cons a n) (by rw[len_ne,Bool.false_or];rfl) (joIv_ev I.ox hl hx)
 | n::a,m::b,k+1,I =>
  left
  have hg:=I.g
  simp only[joG] at hg
  cases hc:Dd (stCmp m.st n.st<0) with
  | true =>
   rw[hc] at hg
   simp only at hg
   cases hx:joF x m with
   | none=>rw[hx] at hg;cases hg
   | some x' =>
    rw[hx] at hg
    refine⟨⟨(n::a,b,x',k),I.step_b hx hg⟩,Nat.lt_succ_self k,rfl,?_⟩
    exact it_b2 (n:=n) (m:=m) (by rw[len_pos,Bool.true_or]) (len_ne n a) (len_pos m b) (row0 n a) (row0 m b) (slT_cons b m) (by rw[len_ne,len_pos,Bool.false_or,Bool.true_and];exact hc) (joIv_ev I.ox hl hx)
  | false =>
   rw[hc] at hg
   simp only at hg
   cases hx:joF x n with
   | none=>rw[hx] at hg;cases hg
   | some x' =>
    rw[hx] at hg
    refine⟨⟨(a,m::b,x',k),I.step_a hx hg⟩,Nat.lt_succ_self k,rfl,?_⟩
    exact it_a2 (n:=n) (m:=m) (by rw[len_pos,Bool.true_or]) (len_pos m b) (row0 n a) (row0 m b) (slT_cons a n) (by rw[len_ne,len_pos,Bool.false_or,Bool.true_and];exact hc) (joIv_ev I.ox hl hx)
theorem joiter_a{A B:List (List Dp)}{y:List EntT}
  (hcw:CW Tryz.prog Γ0 (joH A B [] 0 .ready []) false (.loop (sub Tryz.f83 0)) (itS A B []) (.exit 0) {t:=mkT 49 0 [],h:=joH [] [] y 1 .ready [],m:=[]}):(Ev Tryz.prog Γ0 83 [.ref (.yl 5),.ref (.ptr 1 0),.ref (.ptr 2 0)] (joH A B [] 0 .ready []) (.tup []) (joH [] [] y 1 .ready [])):=by
 have hl0:=(@hcw)
 exact Ev.castH (Ev.of_sym (h':=[.var [.ref (.vec 3 1)],.var [rowsD' []],.var [rowsD' []],.vec (joV y) 1 31,.defd,.loop LoopState.ready none 0 (mkT 45 0 [(4,.ref (.ptr 0 0)),(9,D.fn (Fn.func 83) [] [.ref (.ptr 1 0),.ref (.ptr 2 0)])]) {toList:=[10]} (rfAsg (sub Tryz.f33 0)) (rfBody (sub Tryz.f33 0))]) (d:=D.tup []) pok [.st (.ren 3 1),.sum [0,1,2] (Exit.exit 0) {t:=mkT 49 0 [],h:=[.var [.ref (.vec 3 1)],.var [rowsD' []],.var [rowsD' []],.vec (joV y) 1 31,.defd,.loop LoopState.ready none 0 (mkT 45 0 [(4,.ref (.ptr 0 0)),(9,D.fn (Fn.func 83) [] [.ref (.ptr 1 0),.ref (.ptr 2 0)])]) {toList:=[10]} (rfAsg (sub Tryz.f33 0)) (rfBody (sub Tryz.f33 0))],m:=[]}] (by kernel_rfl) (.c (show([]:List (List D))=[] from rfl) (.c hl0 .n))) (by rfl) (by rfl)
abbrev joH0(A B:List (List Dp)):List Blk:=[.var [.ref (.vec 3 0)],.var [rowsD' A],.var [rowsD' B],.vec [] 0 31]
theorem jo_rf{a b y:List EntT}(I:JoI a b [] (a.length+b.length) y){h0:List Blk}:CW Tryz.prog Γ0 h0 false (sub Tryz.f33 0) {t:=joT,h:=joH0 (a.map EntT.row) (b.map EntT.row),m:=[]} .normal
  {t:=joT,h:=joH [] [] y 1 .exhausted [],m:=[4]} :=
 CW.rangeFunc (f:=83) (fi:=[]) (ca:=[.ref (.ptr 1 0),.ref (.ptr 2 0)]) pok (s:={t:=joT,h:=joH0 (a.map EntT.row) (b.map EntT.row),m:=[]}) (g:=.tmp 9) (ps:=#[10]) (asg:=rfAsg (sub Tryz.f33 0)) (body:=rfBody (sub Tryz.f33 0)) rfl (by kernel_rfl) (joiter_a (jo_cw I)) rfl
noncomputable abbrev joined_a_x0(y:List EntT):List Blk:=[.var [rowsD' (List.map EntT.row y)],.var [rowsD' []],.var [rowsD' []],.gone,.defd,.loop LoopState.exhausted none 0 (mkT 45 0 [(4,.ref (.ptr 0 0)),(9,D.fn (Fn.func 83) [] [.ref (.ptr 1 0),.ref (.ptr 2 0)])]) {toList:=[10]} (rfAsg (sub Tryz.f33 0)) (rfBody (sub Tryz.f33 0))]
theorem joined_a{A B:List (List Dp)}{y:List EntT}(hrf:CW Tryz.prog Γ0 [] false (sub Tryz.f33 0) {t:=joT,h:=joH0 A B,m:=[]} .normal {t:=joT,h:=joH [] [] y 1 .exhausted [],m:=[4]})
  (hfit:∀h,Ev Tryz.prog Γ0 27 [rowsD' (y.map EntT.row)] h (bool true) h) (hbig:Dd (((y.map EntT.row).length:Int)≤65536)=true) (h:List Blk):(Ev Tryz.prog Γ0 33 [rowsD' A,rowsD' B] h (rowsD' (y.map EntT.row)) h):=by
 have hl0:=(@hrf)
 exact Ev.castH (Ev.sym0 (d:=rowsD' (List.map EntT.row y)) pok [.inl,.nx 3,.st (.nilC 0 0 31),.sum [4,9] (Exit.normal) {t:=mkT 45 0 [(4,.ref (.ptr 0 0)),(9,D.fn (Fn.func 83) [] [.ref (.ptr 1 0),.ref (.ptr 2 0)])],h:=[.var [.ref (.vec 3 1)],.var [rowsD' []],.var [rowsD' []],.vec (joV y) 1 31,.defd,.loop LoopState.exhausted none 0 (mkT 45 0 [(4,.ref (.ptr 0 0)),(9,D.fn (Fn.func 83) [] [.ref (.ptr 1 0),.ref (.ptr 2 0)])]) {toList:=[10]} (rfAsg (sub Tryz.f33 0)) (rfBody (sub Tryz.f33 0))],m:=[4]},.st (.frz 3 (List.map EntT.row y)),.val (bool true),.val (D.tup []),.inl,.b false] (by kernel_rfl) (.c hl0 (.c (show joV y=List.map (fun x=>List.map D.p x) (List.map EntT.row y) from(by first|assumption|rfl|exact joV_frz _|exact joV_map _ _|exact joV_inn _ _)) (.c (@hfit ((joined_a_x0 y))) (.c (@demand_ev (390) ((joined_a_x0 y))) (.c (show(!Dd ((↑(List.length (List.map EntT.row y)):Int)≤65536))=false from(by rw[hbig]<;>rfl)) .n))))) rfl rfl h) (by rfl) (by rfl)
theorem joined_ev{a b y:List EntT}(hy:joG (a.length+b.length) a b []=some y)(ha:a.length+b.length≤60000)(oa:∀e∈a,e.ok)(ob:∀e∈b,e.ok)(hv:∀e∈y,0≤e.campus∧e.campus<7)(hf:fitB y=true)(hly:y.length≤65536)(h:List Blk):
  Ev Tryz.prog Γ0 33 [rowsD' (a.map EntT.row),rowsD' (b.map EntT.row)] h (rowsD' (y.map EntT.row)) h:=by
 refine joined_a (jo_rf ⟨rfl,by simp only[List.length_nil];omega,oa,ob,by simp,hy⟩) (fun h=>?_) (by simp;omega) h
 rw[←hf]
 exact fit_ev (show y.length≤_ by omega) hv h
theorem f35_ev{m n:EntT}:(Ev Tryz.prog Γ0 35 [ag m.row,.ref (.ptr 0 0)] [evar n] (bool (stEq m.st n.st)) [evar n]):=by
 exact Ev.castH (Ev.post (d2:=bool (m.time==n.time&&(m.campus==n.campus&&(m.no==n.no&&true)))) (h2:=[.var [int n.time,int n.campus,int n.no,int n.kind,int n.stu,int n.obj,int n.term,int n.val,int n.frm,int n.til,strD n.text,int n.sec.id,int n.sec.course,int n.sec.term,int n.sec.campus,int n.sec.seats,rowsD' (List.map MeT.row n.sec.mts),rowsD' (List.map GrT.row n.sec.grs),rowsD' (List.map intRow n.sec.labs),bool n.sec.lab,int n.req.campus,int n.req.no,int n.req.st,int n.req.kind,int n.req.time,rowsD' (List.map BuT.row n.req.chs),int n.req.gsec,int n.req.glab,int n.req.key,int n.r,int n.s]]) (φ:=[]) [.st (.trim 1)] (Ev.of_sym (h':=[.var [int n.time,int n.campus,int n.no,int n.kind,int n.stu,int n.obj,int n.term,int n.val,int n.frm,int n.til,strD n.text,int n.sec.id,int n.sec.course,int n.sec.term,int n.sec.campus,int n.sec.seats,rowsD' (List.map MeT.row n.sec.mts),rowsD' (List.map GrT.row n.sec.grs),rowsD' (List.map intRow n.sec.labs),bool n.sec.lab,int n.req.campus,int n.req.no,int n.req.st,int n.req.kind,int n.req.time,rowsD' (List.map BuT.row n.req.chs),int n.req.gsec,int n.req.glab,int n.req.key,int n.r,int n.s],.var [int m.time,int m.campus,int m.no,int m.kind,int m.stu,int m.obj,int m.term,int m.val,int m.frm,int m.til,strD m.text,int m.sec.id,int m.sec.course,int m.sec.term,int m.sec.campus,int m.sec.seats,rowsD' (List.map MeT.row m.sec.mts),rowsD' (List.map GrT.row m.sec.grs),rowsD' (List.map intRow m.sec.labs),bool m.sec.lab,int m.req.campus,int m.req.no,int m.req.st,int m.req.kind,int m.req.time,rowsD' (List.map BuT.row m.req.chs),int m.req.gsec,int m.req.glab,int m.req.key,int m.r,int m.s]]) (d:=bool (m.time==n.time&&(m.campus==n.campus&&(m.no==n.no&&true)))) pok [] (by kernel_rfl) .n) (by kernel_rfl) trivial) (by rfl) (by rfl)
abbrev ixS(L:List (List Dp))(n:EntT)(i:Int):AS:={t:=mkT 19 0 [(0,rowsD' L),(1,.fn (.func 35) [] [.ref (.ptr 0 0)]),(4,int 0),(7,int (L.length:Int)),(8,int i)],h:=[evar n],m:=[]}
noncomputable abbrev ix_body_x0(n:EntT):List Blk:=[.var [int n.time,int n.campus,int n.no,int n.kind,int n.stu,int n.obj,int n.term,int n.val,int n.frm,int n.til,strD n.text,int n.sec.id,int n.sec.course,int n.sec.term,int n.sec.campus,int n.sec.seats,rowsD' (List.map MeT.row n.sec.mts),rowsD' (List.map GrT.row n.sec.grs),rowsD' (List.map intRow n.sec.labs),bool n.sec.lab,int n.req.campus,int n.req.no,int n.req.st,int n.req.kind,int n.req.time,rowsD' (List.map BuT.row n.req.chs),int n.req.gsec,int n.req.glab,int n.req.key,int n.r,int n.s]]
theorem ix_body{L:List (List Dp)}{m n:EntT}{i:Nat}(hr:RowAt (i:Int) L m.row 31)(hlt:Dd ((i:Int)<(L.length:Int))=true)(hw:IntKind.i64.wrap ((i:Int)+1)=((i+1:Nat):Int))(he:stEq m.st n.st=false):(CW Tryz.prog Γ0 [evar n] false (sub Tryz.f34 0) (ixS L n i) .normal (ixS L n ((i+1:Nat):Int))):=by
 cases hc0:stEq (EntT.st m) (EntT.st n)
 ·refine CW.cast (CW.symX (s':={t:=mkT 19 0 [(0,rowsD' L),(1,D.fn (Fn.func 35) [] [.ref (.ptr 0 0)]),(4,int 0),(7,int (↑(List.length L):Int)),(8,int (IntKind.wrap IntKind.i64 ((↑i:Int)+1)))],h:=(ix_body_x0 n),m:=[]}) (e:=Exit.normal) pok [.st (.mask [0,1,4,7,8]),.st (.trim 1)] [.b true,.row [vi m.time,vi m.campus,vi m.no,vi m.kind,vi m.stu,vi m.obj,vi m.term,vi m.val,vi m.frm,vi m.til,vs m.text,vi m.sec.id,vi m.sec.course,vi m.sec.term,vi m.sec.campus,vi m.sec.seats,Dp.sl (List.map MeT.row m.sec.mts),Dp.sl (List.map GrT.row m.sec.grs),Dp.sl (List.map intRow m.sec.labs),Dp.v (Value.bool m.sec.lab),vi m.req.campus,vi m.req.no,vi m.req.st,vi m.req.kind,vi m.req.time,Dp.sl (List.map BuT.row m.req.chs),vi m.req.gsec,vi m.req.glab,vi m.req.key,vi m.r,vi m.s],.val (bool (stEq (EntT.st m) (EntT.st n))),.b false] (by kernel_rfl) (.c hlt (.c hr (.c (@f35_ev (m) (n)) (.c hc0 .n))))) ?_ ?_<;>(first|rfl|(rw[hw]<;>rfl)|(cases he.symm.trans hc0))
 ·refine CW.cast (CW.symX (s':={t:=mkT 19 0 [(0,rowsD' L),(1,D.fn (Fn.func 35) [] [.ref (.ptr 0 0)]),(4,int (↑i:Int)),(7,int (↑(List.length L):Int)),(8,int (↑i:Int))],h:=(ix_body_x0 n),m:=[]}) (e:=Exit.ret) pok [.st (.mask [0,1,4,7,8]),.st (.trim 1)] [.b true,.row [vi m.time,vi m.campus,vi m.no,vi m.kind,vi m.stu,vi m.obj,vi m.term,vi m.val,vi m.frm,vi m.til,vs m.text,vi m.sec.id,vi m.sec.course,vi m.sec.term,vi m.sec.campus,vi m.sec.seats,Dp.sl (List.map MeT.row m.sec.mts),Dp.sl (List.map GrT.row m.sec.grs),Dp.sl (List.map intRow m.sec.labs),Dp.v (Value.bool m.sec.lab),vi m.req.campus,vi m.req.no,vi m.req.st,vi m.req.kind,vi m.req.time,Dp.sl (List.map BuT.row m.req.chs),vi m.req.gsec,vi m.req.glab,vi m.req.key,vi m.r,vi m.s],.val (bool (stEq (EntT.st m) (EntT.st n))),.b true] (by kernel_rfl) (.c hlt (.c hr (.c (@f35_ev (m) (n)) (.c hc0 .n))))) ?_ ?_<;>(first|rfl|(rw[hw]<;>rfl)|(cases he.symm.trans hc0))
noncomputable abbrev ix_hit_x0(n:EntT):List Blk:=[.var [int n.time,int n.campus,int n.no,int n.kind,int n.stu,int n.obj,int n.term,int n.val,int n.frm,int n.til,strD n.text,int n.sec.id,int n.sec.course,int n.sec.term,int n.sec.campus,int n.sec.seats,rowsD' (List.map MeT.row n.sec.mts),rowsD' (List.map GrT.row n.sec.grs),rowsD' (List.map intRow n.sec.labs),bool n.sec.lab,int n.req.campus,int n.req.no,int n.req.st,int n.req.kind,int n.req.time,rowsD' (List.map BuT.row n.req.chs),int n.req.gsec,int n.req.glab,int n.req.key,int n.r,int n.s]]
theorem ix_hit{L:List (List Dp)}{m n:EntT}{i:Nat}(hr:RowAt (i:Int) L m.row 31)(hlt:Dd ((i:Int)<(L.length:Int))=true)(he:stEq m.st n.st=true):(CW Tryz.prog Γ0 [evar n] false (sub Tryz.f34 0) (ixS L n i) .ret {t:=mkT 19 0 [(4,int (i:Int))],h:=[evar n],m:=[]}):=by
 cases hc0:stEq (EntT.st m) (EntT.st n)
 ·refine CW.cast (CW.symX (s':={t:=mkT 19 0 [(0,rowsD' L),(1,D.fn (Fn.func 35) [] [.ref (.ptr 0 0)]),(4,int 0),(5,int (↑i:Int)),(7,int (↑(List.length L):Int)),(8,int (IntKind.wrap IntKind.i64 ((↑i:Int)+1))),(9,bool (Dd ((↑i:Int)<(↑(List.length L):Int)))),(10,int (↑i:Int)),(11,D.fn (Fn.func 35) [] [.ref (.ptr 0 0)]),(12,rowsD' L),(13,int (↑i:Int)),(14,D.ep [vi m.time,vi m.campus,vi m.no,vi m.kind,vi m.stu,vi m.obj,vi m.term,vi m.val,vi m.frm,vi m.til,vs m.text,vi m.sec.id,vi m.sec.course,vi m.sec.term,vi m.sec.campus,vi m.sec.seats,Dp.sl (List.map MeT.row m.sec.mts),Dp.sl (List.map GrT.row m.sec.grs),Dp.sl (List.map intRow m.sec.labs),Dp.v (Value.bool m.sec.lab),vi m.req.campus,vi m.req.no,vi m.req.st,vi m.req.kind,vi m.req.time,Dp.sl (List.map BuT.row m.req.chs),vi m.req.gsec,vi m.req.glab,vi m.req.key,vi m.r,vi m.s]),(15,D.agg [int m.time,int m.campus,int m.no,int m.kind,int m.stu,int m.obj,int m.term,int m.val,int m.frm,int m.til,strD m.text,int m.sec.id,int m.sec.course,int m.sec.term,int m.sec.campus,int m.sec.seats,rowsD' (List.map MeT.row m.sec.mts),rowsD' (List.map GrT.row m.sec.grs),rowsD' (List.map intRow m.sec.labs),bool m.sec.lab,int m.req.campus,int m.req.no,int m.req.st,int m.req.kind,int m.req.time,rowsD' (List.map BuT.row m.req.chs),int m.req.gsec,int m.req.glab,int m.req.key,int m.r,int m.s]),(16,bool (stEq (EntT.st m) (EntT.st n))),(18,int (IntKind.wrap IntKind.i64 ((↑i:Int)+1)))],h:=(ix_hit_x0 n),m:=[]}) (e:=Exit.normal) pok [] [.b true,.row [vi m.time,vi m.campus,vi m.no,vi m.kind,vi m.stu,vi m.obj,vi m.term,vi m.val,vi m.frm,vi m.til,vs m.text,vi m.sec.id,vi m.sec.course,vi m.sec.term,vi m.sec.campus,vi m.sec.seats,Dp.sl (List.map MeT.row m.sec.mts),Dp.sl (List.map GrT.row m.sec.grs),Dp.sl (List.map intRow m.sec.labs),Dp.v (Value.bool m.sec.lab),vi m.req.campus,vi m.req.no,vi m.req.st,vi m.req.kind,vi m.req.time,Dp.sl (List.map BuT.row m.req.chs),vi m.req.gsec,vi m.req.glab,vi m.req.key,vi m.r,vi m.s],.val (bool (stEq (EntT.st m) (EntT.st n))),.b false] (by kernel_rfl) (.c hlt (.c hr (.c (@f35_ev (m) (n)) (.c hc0 .n))))) ?_ ?_<;>(first|rfl|(cases he.symm.trans hc0))
 ·refine CW.cast (CW.symX (s':={t:=mkT 19 0 [(4,int (↑i:Int))],h:=(ix_hit_x0 n),m:=[]}) (e:=Exit.ret) pok [.st (.mask [4]),.st (.trim 1)] [.b true,.row [vi m.time,vi m.campus,vi m.no,vi m.kind,vi m.stu,vi m.obj,vi m.term,vi m.val,vi m.frm,vi m.til,vs m.text,vi m.sec.id,vi m.sec.course,vi m.sec.term,vi m.sec.campus,vi m.sec.seats,Dp.sl (List.map MeT.row m.sec.mts),Dp.sl (List.map GrT.row m.sec.grs),Dp.sl (List.map intRow m.sec.labs),Dp.v (Value.bool m.sec.lab),vi m.req.campus,vi m.req.no,vi m.req.st,vi m.req.kind,vi m.req.time,Dp.sl (List.map BuT.row m.req.chs),vi m.req.gsec,vi m.req.glab,vi m.req.key,vi m.r,vi m.s],.val (bool (stEq (EntT.st m) (EntT.st n))),.b true] (by kernel_rfl) (.c hlt (.c hr (.c (@f35_ev (m) (n)) (.c hc0 .n))))) ?_ ?_<;>(first|rfl|(cases he.symm.trans hc0))
theorem ix_last{L:List (List Dp)}{n:EntT}{i:Nat}(hlt:Dd ((i:Int)<(L.length:Int))=false):(CW Tryz.prog Γ0 [evar n] false (sub Tryz.f34 0) (ixS L n i) (.exit 0) {t:=mkT 19 0 [],h:=[evar n],m:=[]}):=by
 exact CW.cast (CW.symX (s':={t:=mkT 19 0 [],h:=[.var [int n.time,int n.campus,int n.no,int n.kind,int n.stu,int n.obj,int n.term,int n.val,int n.frm,int n.til,strD n.text,int n.sec.id,int n.sec.course,int n.sec.term,int n.sec.campus,int n.sec.seats,rowsD' (List.map MeT.row n.sec.mts),rowsD' (List.map GrT.row n.sec.grs),rowsD' (List.map intRow n.sec.labs),bool n.sec.lab,int n.req.campus,int n.req.no,int n.req.st,int n.req.kind,int n.req.time,rowsD' (List.map BuT.row n.req.chs),int n.req.gsec,int n.req.glab,int n.req.key,int n.r,int n.s]],m:=[]}) (e:=Exit.exit 0) pok [.st (.mask [])] [.b false] (by kernel_rfl) (.c hlt .n)) (by rfl) (by rfl)
def idxF(n m:EntT)(i:Nat):Nat⊕Nat:=match stEq m.st n.st with
 | true=>.inr i
 | false=>.inl (i+1)
def idxR(n:EntT)(y:List EntT):Int:=match forL (idxF n) y 0 with
 | .inl _ => -1
 | .inr i=>(i:Int)
theorem ix_each{y:List EntT}{n:EntT}(hs:Short y):CW Tryz.prog Γ0 [evar n] false (.loop (sub Tryz.f34 0)) (ixS (y.map EntT.row) n 0)
  (eachFin (.exit 0) (fun _:Nat=>{t:=mkT 19 0 [],h:=[evar n],m:=[]}) (fun i:Nat=>(.ret,{t:=mkT 19 0 [(4,int (i:Int))],h:=[evar n],m:=[]})) (forL (idxF n) y 0)).1 (eachFin (.exit 0) (fun _:Nat=>{t:=mkT 19 0 [],h:=[evar n],m:=[]}) (fun i:Nat=>(.ret,{t:=mkT 19 0 [(4,int (i:Int))],h:=[evar n],m:=[]})) (forL (idxF n) y 0)).2:=by
 refine CW.each y (idxF n) (fun j _=>ixS (y.map EntT.row) n (j:Int)) (.exit 0) _ _ (fun j s=>s=j) (by simp) (fun _=>by simp) ?_ ?_ 0 rfl
 ·rintro j m s hj rfl
  have hlt:=(List.getElem?_eq_some_iff.1 hj).1
  have hr:=rowAt (row:=EntT.row) (sz:=31) hj rfl
  refine⟨fun s' h=>?_,?_⟩
  ·unfold idxF at h
   split at h<;>cases h
   rfl
  ·unfold idxF
   cases hb:stEq m.st n.st with
   | true=>exact ix_hit hr (lt_len EntT.row hlt) hb
   | false=>exact ix_body hr (lt_len EntT.row hlt) (wrap_succ hlt hs) hb
 ·intro a _
  exact ix_last (ge_len EntT.row y)
theorem idx_o{L:List (List Dp)}{n:EntT}(hl:CW Tryz.prog Γ0 [evar n] false (.loop (sub Tryz.f34 0)) (ixS L n 0) (.exit 0) {t:=mkT 19 0 [],h:=[evar n],m:=[]}):(Ev Tryz.prog Γ0 34 [rowsD' L,.fn (.func 35) [] [.ref (.ptr 0 0)]] [evar n] (int (-1)) [evar n]):=by
 have hl0:=(@hl)
 exact Ev.castH (Ev.of_sym (h':=[.var [int n.time,int n.campus,int n.no,int n.kind,int n.stu,int n.obj,int n.term,int n.val,int n.frm,int n.til,strD n.text,int n.sec.id,int n.sec.course,int n.sec.term,int n.sec.campus,int n.sec.seats,rowsD' (List.map MeT.row n.sec.mts),rowsD' (List.map GrT.row n.sec.grs),rowsD' (List.map intRow n.sec.labs),bool n.sec.lab,int n.req.campus,int n.req.no,int n.req.st,int n.req.kind,int n.req.time,rowsD' (List.map BuT.row n.req.chs),int n.req.gsec,int n.req.glab,int n.req.key,int n.r,int n.s]]) (d:=int (-1)) pok [.sum [0,1,4,7,8] (Exit.exit 0) {t:=mkT 19 0 [],h:=[.var [int n.time,int n.campus,int n.no,int n.kind,int n.stu,int n.obj,int n.term,int n.val,int n.frm,int n.til,strD n.text,int n.sec.id,int n.sec.course,int n.sec.term,int n.sec.campus,int n.sec.seats,rowsD' (List.map MeT.row n.sec.mts),rowsD' (List.map GrT.row n.sec.grs),rowsD' (List.map intRow n.sec.labs),bool n.sec.lab,int n.req.campus,int n.req.no,int n.req.st,int n.req.kind,int n.req.time,rowsD' (List.map BuT.row n.req.chs),int n.req.gsec,int n.req.glab,int n.req.key,int n.r,int n.s]],m:=[]}] (by kernel_rfl) (.c hl0 .n)) (by rfl) (by rfl)
theorem idx_x{L:List (List Dp)}{n:EntT}{i:Nat}(hl:CW Tryz.prog Γ0 [evar n] false (.loop (sub Tryz.f34 0)) (ixS L n 0) .ret {t:=mkT 19 0 [(4,int (i:Int))],h:=[evar n],m:=[]}):(Ev Tryz.prog Γ0 34 [rowsD' L,.fn (.func 35) [] [.ref (.ptr 0 0)]] [evar n] (int (i:Int)) [evar n]):=by
 have hl0:=(@hl)
 exact Ev.castH (Ev.of_sym (h':=[.var [int n.time,int n.campus,int n.no,int n.kind,int n.stu,int n.obj,int n.term,int n.val,int n.frm,int n.til,strD n.text,int n.sec.id,int n.sec.course,int n.sec.term,int n.sec.campus,int n.sec.seats,rowsD' (List.map MeT.row n.sec.mts),rowsD' (List.map GrT.row n.sec.grs),rowsD' (List.map intRow n.sec.labs),bool n.sec.lab,int n.req.campus,int n.req.no,int n.req.st,int n.req.kind,int n.req.time,rowsD' (List.map BuT.row n.req.chs),int n.req.gsec,int n.req.glab,int n.req.key,int n.r,int n.s]]) (d:=int (↑i:Int)) pok [.sum [0,1,4,7,8] (Exit.ret) {t:=mkT 19 0 [(4,int (↑i:Int))],h:=[.var [int n.time,int n.campus,int n.no,int n.kind,int n.stu,int n.obj,int n.term,int n.val,int n.frm,int n.til,strD n.text,int n.sec.id,int n.sec.course,int n.sec.term,int n.sec.campus,int n.sec.seats,rowsD' (List.map MeT.row n.sec.mts),rowsD' (List.map GrT.row n.sec.grs),rowsD' (List.map intRow n.sec.labs),bool n.sec.lab,int n.req.campus,int n.req.no,int n.req.st,int n.req.kind,int n.req.time,rowsD' (List.map BuT.row n.req.chs),int n.req.gsec,int n.req.glab,int n.req.key,int n.r,int n.s]],m:=[]}] (by kernel_rfl) (.c hl0 .n)) (by rfl) (by rfl)
theorem idx_ev{y:List EntT}{n:EntT}(hs:Short y):Ev Tryz.prog Γ0 34 [rowsD' (y.map EntT.row),.fn (.func 35) [] [.ref (.ptr 0 0)]] [evar n] (int (idxR n y)) [evar n]:=by
 have:=ix_each (n:=n) hs
 unfold idxR
 cases hf:forL (idxF n) y 0 with
 | inl a=>rw[hf] at this;exact idx_o this
 | inr i=>rw[hf] at this;exact idx_x this
def cL:Code→Code
 | .seq a _=>a
 | .cond _ a _=>a
 | _=>.skip
def cR:Code→Code
 | .seq _ b=>b
 | .cond _ _ b=>b
 | _=>.skip
theorem try0_ev(h:List Blk):(Ev Tryz.prog Γ0 32 [int 0] h (.tup []) h):=by
 exact Ev.castH (Ev.sym0 (d:=D.tup []) pok [.val (D.tup [])] (by kernel_rfl) (.c (@demand_ev (0) ([])) .n) rfl rfl h) (by rfl) (by rfl)
abbrev puH(n:EntT)(e:Int):List Blk:=[evar n,.var [int e]]
abbrev puT(L:List (List Dp)):List D:=mkT 23 0 [(0,rowsD' L),(3,.ref (.ptr 0 0)),(4,nq),(5,int 0),(6,.ref (.ptr 1 0))]
noncomputable abbrev pu_ok_x0(n:EntT):List Blk:=[.var [int n.time,int n.campus,int n.no,int n.kind,int n.stu,int n.obj,int n.term,int n.val,int n.frm,int n.til,strD n.text,int n.sec.id,int n.sec.course,int n.sec.term,int n.sec.campus,int n.sec.seats,rowsD' (List.map MeT.row n.sec.mts),rowsD' (List.map GrT.row n.sec.grs),rowsD' (List.map intRow n.sec.labs),bool n.sec.lab,int n.req.campus,int n.req.no,int n.req.st,int n.req.kind,int n.req.time,rowsD' (List.map BuT.row n.req.chs),int n.req.gsec,int n.req.glab,int n.req.key,int n.r,int n.s],.var [int 0],.gone]
noncomputable abbrev pu_ok_x1(n:EntT):List Blk:=[.var [int n.time,int n.campus,int n.no,int n.kind,int n.stu,int n.obj,int n.term,int n.val,int n.frm,int n.til,strD n.text,int n.sec.id,int n.sec.course,int n.sec.term,int n.sec.campus,int n.sec.seats,rowsD' (List.map MeT.row n.sec.mts),rowsD' (List.map GrT.row n.sec.grs),rowsD' (List.map intRow n.sec.labs),bool n.sec.lab,int n.req.campus,int n.req.no,int n.req.st,int n.req.kind,int n.req.time,rowsD' (List.map BuT.row n.req.chs),int n.req.gsec,int n.req.glab,int n.req.key,int n.r,int n.s],.var [int 0]]
theorem pu_ok{L y:List (List Dp)}{n:EntT}{ix:Int}(hck:∀h,Ev Tryz.prog Γq 12 [rowsD' L] h (int 0) h)(hen:∀h,Ev Tryz.prog Γq 25 [ag n.row] h (int 0) h)
  (hjo:Ev Tryz.prog Γ0 33 [rowsD' L,.ref (.vec 0 0)] [.vec [n.row.map .p] 0 31] (rowsD' y) [.gone]) (hix:Ev Tryz.prog Γ0 34 [rowsD' y,.fn (.func 35) [] [.ref (.ptr 0 0)]] [evar n] (int ix) [evar n]):(CW Tryz.prog Γq (puH n 0) false (cR (cR (bodyC Tryz.f17))) {t:=puT L,h:=puH n 0,m:=[]} .ret {t:=mkT 23 0 [(4,rowsD' y),(5,int ix),(6,.ref (.ptr 1 0))],h:=puH n 0,m:=[]}):=by
 exact CW.cast (CW.symX (s':={t:=mkT 23 0 [(4,rowsD' y),(5,int ix),(6,.ref (.ptr 1 0))],h:=(pu_ok_x1 n),m:=[]}) (e:=Exit.ret) pok [.st (.mask [4,5,6]),.st (.trimV 2)] [.val (int 0),.val (D.tup []),.val (int 0),.val (D.tup []),.call (rowsD' y) (pu_ok_x0 n),.val (int ix)] (by kernel_rfl) (.c (@hck ((pu_ok_x1 n))) (.c (Ev.glob0 (Γ':=Γq) (@try0_ev ((pu_ok_x1 n)))) (.c (@hen ((pu_ok_x1 n))) (.c (Ev.glob0 (Γ':=Γq) (@try0_ev ((pu_ok_x1 n)))) (.c (show Ev Tryz.prog Γq 33 [rowsD' L,.ref (.vec 2 0)] [.var [int n.time,int n.campus,int n.no,int n.kind,int n.stu,int n.obj,int n.term,int n.val,int n.frm,int n.til,strD n.text,int n.sec.id,int n.sec.course,int n.sec.term,int n.sec.campus,int n.sec.seats,rowsD' (List.map MeT.row n.sec.mts),rowsD' (List.map GrT.row n.sec.grs),rowsD' (List.map intRow n.sec.labs),bool n.sec.lab,int n.req.campus,int n.req.no,int n.req.st,int n.req.kind,int n.req.time,rowsD' (List.map BuT.row n.req.chs),int n.req.gsec,int n.req.glab,int n.req.key,int n.r,int n.s],.var [int 0],.vec [[int n.time,int n.campus,int n.no,int n.kind,int n.stu,int n.obj,int n.term,int n.val,int n.frm,int n.til,strD n.text,int n.sec.id,int n.sec.course,int n.sec.term,int n.sec.campus,int n.sec.seats,rowsD' (List.map MeT.row n.sec.mts),rowsD' (List.map GrT.row n.sec.grs),rowsD' (List.map intRow n.sec.labs),bool n.sec.lab,int n.req.campus,int n.req.no,int n.req.st,int n.req.kind,int n.req.time,rowsD' (List.map BuT.row n.req.chs),int n.req.gsec,int n.req.glab,int n.req.key,int n.r,int n.s]] 0 31] (rowsD' y) (pu_ok_x0 n) from(Ev.castH (Ev.frameX (args:=[rowsD' L,.ref (.vec 2 0)]) (H:=[.var [int n.time,int n.campus,int n.no,int n.kind,int n.stu,int n.obj,int n.term,int n.val,int n.frm,int n.til,strD n.text,int n.sec.id,int n.sec.course,int n.sec.term,int n.sec.campus,int n.sec.seats,rowsD' (List.map MeT.row n.sec.mts),rowsD' (List.map GrT.row n.sec.grs),rowsD' (List.map intRow n.sec.labs),bool n.sec.lab,int n.req.campus,int n.req.no,int n.req.st,int n.req.kind,int n.req.time,rowsD' (List.map BuT.row n.req.chs),int n.req.gsec,int n.req.glab,int n.req.key,int n.r,int n.s],.var [int 0],.vec [[int n.time,int n.campus,int n.no,int n.kind,int n.stu,int n.obj,int n.term,int n.val,int n.frm,int n.til,strD n.text,int n.sec.id,int n.sec.course,int n.sec.term,int n.sec.campus,int n.sec.seats,rowsD' (List.map MeT.row n.sec.mts),rowsD' (List.map GrT.row n.sec.grs),rowsD' (List.map intRow n.sec.labs),bool n.sec.lab,int n.req.campus,int n.req.no,int n.req.st,int n.req.kind,int n.req.time,rowsD' (List.map BuT.row n.req.chs),int n.req.gsec,int n.req.glab,int n.req.key,int n.r,int n.s]] 0 31]) [2] (Ev.glob0 (@hjo)) (by kernel_rfl) (by kernel_rfl) (by kernel_rfl) ⟨(by first|rfl|exact mapRL_rows _ _|first|assumption|rfl),trivial⟩ trivial) (by kernel_rfl) (by kernel_rfl))) (.c (show Ev Tryz.prog Γq 34 [rowsD' y,D.fn (Fn.func 35) [] [.ref (.ptr 0 0)]] (pu_ok_x0 n) (int ix) (pu_ok_x0 n) from(Ev.castH (Ev.frameX (args:=[rowsD' y,D.fn (Fn.func 35) [] [.ref (.ptr 0 0)]]) (H:=(pu_ok_x0 n)) [0] (Ev.glob0 (@hix)) (by kernel_rfl) (by kernel_rfl) (by kernel_rfl) trivial trivial) (by kernel_rfl) (by kernel_rfl))) (.c (show Blk.inn 2 (.var [int n.time,int n.campus,int n.no,int n.kind,int n.stu,int n.obj,int n.term,int n.val,int n.frm,int n.til,strD n.text,int n.sec.id,int n.sec.course,int n.sec.term,int n.sec.campus,int n.sec.seats,rowsD' (List.map MeT.row n.sec.mts),rowsD' (List.map GrT.row n.sec.grs),rowsD' (List.map intRow n.sec.labs),bool n.sec.lab,int n.req.campus,int n.req.no,int n.req.st,int n.req.kind,int n.req.time,rowsD' (List.map BuT.row n.req.chs),int n.req.gsec,int n.req.glab,int n.req.key,int n.r,int n.s])=true from rfl) (.c (show Blk.inn 2 (.var [int 0])=true from rfl) .n))))))))) (by rfl) (by rfl)
def regOps:Code→Array Oper
 | .region _ o _=>o
 | _=>#[]
def idOf:Code→Nat
 | .region i _ _=>i
 | _=>0
theorem Ev.pre{P:Program}{Γ:Glob}{f:FuncId}{args args2:List D}{h h1 h2:List Blk}{d:D}(az:List Ans){φ:List Prop}(hp:Vi.pre h {t:=args,h:=h,m:=[]} az=some ({t:=args2,h:=h1,m:=[]},[],φ))(hφ:AllP φ)(hE:Ev P Γ f args2 h1 d h2):Ev P Γ f args h d h2:=by
 intro O w l vs R ra
 obtain⟨l2,R2,E2,r2, -⟩:=pre_ok (Γ:=Γ) (X:={O:=O,w:=w,l:=l,h:=h}) _ _ _ _ _ hp hφ {tmps:=vs.toArray,defers:=[]} w ⟨l,R,Ext.refl w l h,by simpa using ra,rfl⟩
 refine CallsIn.mono (hE O w l2 vs R2 (by simpa using r2)) ?_
 rintro e w' ⟨v,d',h',l',rfl,⟨rfl,rfl⟩,R',E',r'⟩
 exact⟨v,_,_,l',rfl,⟨rfl,rfl⟩,R',E2.trans E',r'⟩
theorem f17_code:bodyC Tryz.f17=.seq (.region (idOf (cL (bodyC Tryz.f17))) (regOps (cL (bodyC Tryz.f17))) false) (.seq (.region (idOf (cL (cR (bodyC Tryz.f17)))) (regOps (cL (cR (bodyC Tryz.f17)))) false) (cR (cR (bodyC Tryz.f17)))):=by kernel_rfl
def noCall:CallX:=fun _ _ _=>none
theorem noCall_ok:noCall.Ok Tryz.prog Γq:=fun _ _ _ _ h=>by simp[noCall] at h
def lastOp(o:List Oper):Oper:=o.getLastD default
abbrev u0T(L:List (List Dp))(n:EntT):List D:=mkT 23 0 [(0,rowsD' L),(1,ag n.row),(3,.ref (.ptr 0 0)),(4,nq),(5,int 0),(6,.ref (.ptr 1 0))]
abbrev u1T(L:List (List Dp))(n:EntT):List D:=mkT 23 0 [(0,rowsD' L),(1,ag n.row),(3,.ref (.ptr 0 0)),(4,nq),(5,int 0),(6,.ref (.ptr 1 0)),(8,.fn (.func 30) [] [.ref (.ptr 1 0)])]
theorem put_top{L:List (List Dp)}{n:EntT}{e:Exit}{s':AS}(hrest:CW Tryz.prog Γq (puH n 0) false (cR (cR (bodyC Tryz.f17))) {t:=puT L,h:=puH n 0,m:=[]} e s'):
  TopW Tryz.prog Γq (bodyC Tryz.f17) {t:=entryT Tryz.f17 [rowsD' L,ag n.row],h:=[],m:=[]} e s' (some (30,[.ref (.ptr 1 0)])):=by
 rw[f17_code]
 refine TopW.seq (s1:={t:=u0T L n,h:=puH n 0,m:=[]}) (fun X=>VW.regionX (t':=u0T L n) (h':=puH n 0) (e:=.normal) noCall_ok (by kernel_rfl) ⟨rfl,rfl⟩) ?_
 exact TopW.deferH (os:=(regOps (cL (cR (bodyC Tryz.f17)))).toList.dropLast) (o:=lastOp (regOps (cL (cR (bodyC Tryz.f17)))).toList) (fv:=.tmp 8) (args:=#[]) (ats:=#[]) (t1:=u1T L n) (h1:=puH n 0) (f:=30) (fi:=[]) (ca:=[.ref (.ptr 1 0)]) pok noCall_ok (by kernel_rfl) (by kernel_rfl) (by kernel_rfl) (by kernel_rfl) rfl (by kernel_rfl) (by kernel_rfl) (CW.pre [0,3,4,5,6] hrest)
theorem dfn_ok:DfF.Ok Tryz.prog Γq (runDfO Tryz.prog Γq noW 100):=(run_ok pok (W:=noW) (fun _ _ _ _ h=>by simp[noW] at h) 100).2.2.2.2
theorem put_end{y:List (List Dp)}{n:EntT}{ix:Int}:topEnd Tryz.prog Tryz.f17 (runDfO Tryz.prog Γq noW 100) 0 .ret {t:=mkT 23 0 [(4,rowsD' y),(5,int ix),(6,.ref (.ptr 1 0))],h:=puH n 0,m:=[]} (some (30,[.ref (.ptr 1 0)]))=some (.ret (.tup [rowsD' y,int ix,int 0]) []):=by kernel_rfl
theorem put_ev{l y:List EntT}{n:EntT}(hl:ledErr l=0)(hn:entErr n=0)(hs:l.length≤50000)(ol:∀e∈l,e.ok)(on:n.ok)(hy:joG (l.length+1) l [n] []=some y)(hv:∀e∈y,0≤e.campus∧e.campus<7)(hf:fitB y=true)(hly:y.length≤60000)(h:List Blk):
  Ev Tryz.prog Γq 17 [rowsD' (l.map EntT.row),ag n.row] h (.tup [rowsD' (y.map EntT.row),int (idxR n y),int 0]) h:=by
 have hck:∀h,Ev Tryz.prog Γq 12 [rowsD' (l.map EntT.row)] h (int 0) h:=fun h=>by
  have:=led_ev (l:=l) (show l.length≤_ by omega) ol h
  rw[hl] at this
  exact this
 have hen:∀h,Ev Tryz.prog Γq 25 [ag n.row] h (int 0) h:=fun h=>by
  have:=echeck_ev on h
  rw[hn] at this
  exact this
 have hjo:Ev Tryz.prog Γ0 33 [rowsD' (l.map EntT.row),.ref (.vec 0 0)] [.vec [n.row.map .p] 0 31] (rowsD' (y.map EntT.row)) [.gone] :=
  Ev.pre [.st (.frz 0 [n.row])] (h1:=[.gone]) (args2:=[rowsD' (l.map EntT.row),rowsD' ([n].map EntT.row)]) rfl ⟨rfl,trivial⟩ (joined_ev (b:=[n]) hy (by simp only[List.length_cons,List.length_nil];omega) ol (by simpa using on) hv hf (by omega) [.gone])
 have h1:=VRes.of_top (f:=17) (args:=[rowsD' (l.map EntT.row),ag n.row]) (dfn:=runDfO Tryz.prog Γq noW 100) (h:=[]) (r:=.ret (.tup [rowsD' (y.map EntT.row),int (idxR n y),int 0]) []) (fn:=Tryz.f17) (c:=bodyC Tryz.f17) pok rfl rfl dfn_ok (put_top (pu_ok hck hen hjo (idx_ev (show y.length≤_ by omega)))) put_end
 exact Ev.frame0 rfl h1.call h
end Go.Vi
