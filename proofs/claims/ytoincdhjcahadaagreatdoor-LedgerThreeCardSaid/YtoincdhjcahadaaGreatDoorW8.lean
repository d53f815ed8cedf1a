/- LedgerThree: part of the proof: contracts of the functions that the law reaches, and the law. No conditions beyond the given statement's own. -/
import Derived.Test.YtoincdhjcahadaaGreatDoorW7
import Derived.Test.YtoincdhjcahadaaGreatDoorCards
import Derived.Test.YtoincdhjcahadaaGreatDoorTie
import Derived.WalkKit
import Derived.ProofKit
import Derived.OpenShut
import Derived.Deep.DeepHandedRow
import Derived.Lib.LaidTab
import Derived.LaidHandle
import Derived.LaidLaws
import Derived.LaidSub
import Derived.FnData
open Decidable renaming decide → Dd
open Go Go.Proofs
namespace Go.Vi
set_option maxHeartbeats 4000000
set_option maxRecDepth 100000
theorem zipEq{α:Type}{ne:α→α→Bool}(hne:∀a b,ne a b=false ↔ a=b){F:α×α→Unit→Unit⊕Unit}(hF:∀p u,F p u=bif ne p.1 p.2 then .inr () else .inl ()):∀(xs ys:List α),xs.length=ys.length→((match forL F (xs.zip ys) () with | .inl _=>true | .inr _=>false)=true ↔ xs=ys)
 | [],[],_=>by simp[forL]
 | [],_::_,h=>by simp at h
 | _::_,[],h=>by simp at h
 | x::xs,y::ys,h=>by
  have ih:=zipEq hne hF xs ys (by simpa using h)
  simp only[List.zip_cons_cons,forL,hF]
  cases hn:ne x y with
  | true =>
   simp only[cond_true]
   have:x ≠ y:=fun e=>by rw[(hne x y).2 e] at hn;cases hn
   simp[this]
  | false =>
   simp only[cond_false]
   rw[ih,(hne x y).1 hn]
   simp
theorem eqB_of{α:Type}{row:α→List Dp}{ne:α→α→Bool}(hne:∀a b,ne a b=false ↔ a=b){F:α×α→Unit→Unit⊕Unit}(hF:∀p u,F p u=bif ne p.1 p.2 then .inr () else .inl ())(xs ys:List α):
  (if (((xs.map row).length:Int) != ((ys.map row).length:Int))=true then false else match forL F (xs.zip ys) () with | .inl _=>true | .inr _=>false)=true ↔ xs=ys:=by
 by_cases hl:xs.length=ys.length
 ·rw[if_neg (by simp[hl])]
  exact zipEq hne hF xs ys hl
 ·rw[if_pos (by simp;omega)]
  simp only[Bool.false_eq_true,false_iff]
  exact fun e=>hl (by rw[e])
theorem meNe_iff(a b:MeT):meNe a b=false ↔ a=b:=by cases a;cases b;simp[meNe]
theorem grNe_iff(a b:GrT):grNe a b=false ↔ a=b:=by cases a;cases b;simp[grNe]
theorem buNe_iff(a b:BuT):buNe a b=false ↔ a=b:=by cases a;cases b;simp[buNe]
theorem inNe_iff(a b:Int):inNe a b=false ↔ a=b:=by simp[inNe]
theorem qm_iff(xs ys:List MeT):qmB xs ys=true ↔ xs=ys:=eqB_of (row:=MeT.row) meNe_iff (F:=qmF) (fun _ _=>rfl) xs ys
theorem qg_iff(xs ys:List GrT):qgB xs ys=true ↔ xs=ys:=eqB_of (row:=GrT.row) grNe_iff (F:=qgF) (fun _ _=>rfl) xs ys
theorem qi_iff(xs ys:List Int):qiB xs ys=true ↔ xs=ys:=eqB_of (row:=intRow) inNe_iff (F:=qiF) (fun _ _=>rfl) xs ys
theorem qb_iff(xs ys:List BuT):qbB xs ys=true ↔ xs=ys:=eqB_of (row:=BuT.row) buNe_iff (F:=qbF) (fun _ _=>rfl) xs ys
theorem eqS_iff(a b:ByteArray):eqS a b=true ↔ a=b:=by
 unfold eqS
 rw[beq_iff_eq,Array.toList_inj]
 cases a;cases b;simp
theorem secEq_iff(a b:SecT):secEq a b=true ↔ a=b:=by
 unfold secEq
 simp only[Bool.and_eq_true,qm_iff,qg_iff,qi_iff,beq_iff_eq]
 cases a;cases b
 simp only[SecT.mk.injEq]
 constructor
 ·rintro⟨⟨⟨⟨⟨⟨⟨⟨h1,h2⟩,h3⟩,h4⟩,h5⟩,h6⟩,h7⟩,h8⟩,h9⟩
  exact⟨h1,h2,h3,h4,h5,h7,h8,h9,h6⟩
 ·rintro⟨h1,h2,h3,h4,h5,h7,h8,h9,h6⟩
  exact⟨⟨⟨⟨⟨⟨⟨⟨h1,h2⟩,h3⟩,h4⟩,h5⟩,h6⟩,h7⟩,h8⟩,h9⟩
theorem rqEq_iff(a b:RqT):rqEq a b=true ↔ a=b:=by
 unfold rqEq
 simp only[Bool.and_eq_true,qb_iff,beq_iff_eq]
 cases a;cases b
 simp only[RqT.mk.injEq]
 constructor
 ·rintro⟨⟨⟨⟨⟨⟨⟨h1,h2⟩,h3⟩,h4⟩,h5⟩,h6⟩,h7,h8,_⟩,h9⟩
  exact⟨h1,h2,h3,h4,h5,h6,h7,h8,h9⟩
 ·rintro⟨h1,h2,h3,h4,h5,h6,h7,h8,h9⟩
  exact⟨⟨⟨⟨⟨⟨⟨h1,h2⟩,h3⟩,h4⟩,h5⟩,h6⟩,h7,h8,trivial⟩,h9⟩
theorem entEq_iff(a b:EntT):entEq a b=true ↔ a=b:=by
 unfold entEq stEqB
 simp only[Bool.and_eq_true,eqS_iff,secEq_iff,rqEq_iff,beq_iff_eq]
 cases a;cases b
 simp only[EntT.mk.injEq]
 constructor
 ·rintro⟨⟨⟨⟨⟨⟨⟨⟨⟨⟨⟨h1,h2,h3,_⟩,h4⟩,h5⟩,h6⟩,h7⟩,h8⟩,h9,h10,_⟩,h11⟩,h12⟩,h13⟩,h14,h15,_⟩
  exact⟨h1,h2,h3,h4,h5,h6,h7,h8,h9,h10,h11,h12,h13,h14,h15⟩
 ·rintro⟨h1,h2,h3,h4,h5,h6,h7,h8,h9,h10,h11,h12,h13,h14,h15⟩
  exact⟨⟨⟨⟨⟨⟨⟨⟨⟨⟨⟨h1,h2,h3,trivial⟩,h4⟩,h5⟩,h6⟩,h7⟩,h8⟩,h9,h10,trivial⟩,h11⟩,h12⟩,h13⟩,h14,h15,trivial⟩
theorem lt_trans{a b c:StT}(h:StLt a b)(g:StLt b c):StLt a c:=by unfold StLt at *;omega
theorem lt_of_ne{a b:StT}(h:¬StLt b a)(g:a ≠ b):StLt a b:=by
 have:¬(a.time=b.time∧a.campus=b.campus∧a.no=b.no):=fun⟨h1,h2,h3⟩=>g (by cases a;cases b;simp_all)
 unfold StLt at *;omega
theorem lt_ne{a b:StT}(h:StLt a b):a ≠ b:=fun e=>by subst e;exact absurd h (lt_irr h)
theorem cmp_lt_iff(a b:StT):Dd (stCmp a b<0)=true ↔ StLt a b:=by
 constructor
 ·intro h
  rw[stCmp_eq] at h
  rcases stCmp8_cases a b with ⟨h1,_⟩|⟨_,_,e⟩|⟨_,e⟩
  ·exact h1
  ·rw[e] at h;cases h
  ·rw[e] at h;cases h
 ·exact stCmp_lt
def Sorted(l:List EntT):Prop:=l.Pairwise fun a b=>StLt a.st b.st
theorem Fits.sorted{l:List EntT}(h:Fits l):Sorted l:=h.imp fun h=>h.1
def Compat(a b:List EntT):Prop:=∀e∈a,∀f∈b,e.st=f.st→e=f
theorem Compat.symm{a b:List EntT}(h:Compat a b):Compat b a:=fun e he f hf hs=>(h f hf e he hs.symm).symm
def JSpec(x r o:List EntT):Option (List EntT)→Prop
 | some y=>Sorted y∧∀e,e∈y ↔ e∈x∨e∈r∨e∈o
 | none=>¬(Compat r o∧Compat x r∧Compat x o)
theorem JSpec.swap{x r o:List EntT}{res:Option (List EntT)}(h:JSpec x r o res):JSpec x o r res:=by
 cases res with
 | none=>exact fun⟨h1,h2,h3⟩=>h ⟨h1.symm,h3,h2⟩
 | some y=>exact⟨h.1,fun e=>by rw[h.2 e];constructor<;>(rintro (h|h|h)<;>simp[h])⟩
def Le(x g:List EntT):Prop:=∀e∈x,∀f∈g,¬StLt f.st e.st
theorem jo_step{x r o:List EntT}{f:EntT}{cont:List EntT→Option (List EntT)}(Sr:Sorted (f::r))(Sx:Sorted x)(hr:Le x (f::r))(ho:Le x o)(hfo:∀g∈o,¬StLt g.st f.st)
  (ih:∀x',Sorted x'→Le x' r→Le x' o→JSpec x' r o (cont x')):JSpec x (f::r) o ((joF x f).bind cont):=by
 have hfr:=List.pairwise_cons.1 Sr
 have app:(∀l,x.getLast? = some l→l.st ≠ f.st)→JSpec x (f::r) o (cont (x++[f])):=by
  intro hl
  have hall:∀e∈x,StLt e.st f.st:=by
   intro e he
   cases hx:x.getLast? with
   | none=>simp at hx;subst hx;cases he
   | some l =>
    obtain⟨hne,hg⟩:=joLast hx
    have hlm:=List.mem_of_getElem? hg
    have h1:StLt l.st f.st:=lt_of_ne (hr l hlm f (by simp)) (hl l hx)
    obtain⟨i,hi⟩:=List.mem_iff_getElem?.1 he
    have hil:=(List.getElem?_eq_some_iff.1 hi).1
    by_cases h2:i=x.length - 1
    ·rw[h2,hg] at hi
     cases hi
     exact h1
    ·have h3:=List.pairwise_iff_getElem.1 Sx i (x.length - 1) hil (by omega) (by omega)
     have e1:x[i]=e:=(List.getElem?_eq_some_iff.1 hi).2
     have e2:x[x.length - 1]'(by omega)=l:=(List.getElem?_eq_some_iff.1 hg).2
     rw[e1,e2] at h3
     exact lt_trans h3 h1
  have hS:Sorted (x++[f]):=List.pairwise_append.2 ⟨Sx,by simp,fun e he g hg=>by simp at hg;subst hg;exact hall e he⟩
  have h1:=ih (x++[f]) hS (fun e he g hg=>by
   rcases List.mem_append.1 he with he|he
   ·exact hr e he g (by simp[hg])
   ·simp at he;subst he;exact lt_irr (hfr.1 g hg)) (fun e he g hg=>by
   rcases List.mem_append.1 he with he|he
   ·exact ho e he g hg
   ·simp at he;subst he;exact hfo g hg)
  cases hc:cont (x++[f]) with
  | some y =>
   rw[hc] at h1
   refine⟨h1.1,fun e=>?_⟩
   rw[h1.2 e]
   simp only[List.mem_append,List.mem_cons,List.not_mem_nil,or_false]
   constructor
   ·rintro ((h|h)|h|h)<;>simp[h]
   ·rintro (h|(h|h)|h)<;>simp[h]
  | none =>
   rw[hc] at h1
   rintro⟨c1,c2,c3⟩
   refine h1 ⟨fun e he g hg hs=>c1 e (by simp[he]) g hg hs,fun e he g hg hs=>?_,fun e he g hg hs=>?_⟩
   ·rcases List.mem_append.1 he with he|he
    ·exact c2 e he g (by simp[hg]) hs
    ·simp at he;subst he;exact absurd hs (lt_ne (hfr.1 g hg))
   ·rcases List.mem_append.1 he with he|he
    ·exact c3 e he g hg hs
    ·simp at he;subst he;exact c1 e (by simp) g hg hs
 unfold joF
 cases hx:x.getLast? with
 | none=>exact app (fun l hl=>by rw[hx] at hl;cases hl)
 | some l =>
  have hlm:l∈x:=List.mem_of_getElem? (joLast hx).2
  simp only
  cases hs:stEq l.st f.st with
  | false=>exact app (fun l' hl'=>by rw[hx] at hl';cases hl';intro e;rw[stEq_iff.2 e] at hs;cases hs)
  | true =>
   have hst:=stEq_iff.1 hs
   simp only
   cases hb:entEq l f with
   | false =>
    rintro⟨_,c2,_⟩
    have:=c2 l hlm f (by simp) hst
    rw[(entEq_iff l f).2 this] at hb
    cases hb
   | true =>
    have hlf:=(entEq_iff l f).1 hb
    subst hlf
    simp only[cond_true,Option.bind_some]
    have h1:=ih x Sx (fun e he g hg=>hr e he g (by simp[hg])) ho
    cases hc:cont x with
    | some y =>
     rw[hc] at h1
     refine⟨h1.1,fun e=>?_⟩
     rw[h1.2 e]
     constructor
     ·rintro (h|h|h)<;>simp[h]
     ·rintro (h|h|h)
      ·exact .inl h
      ·rcases List.mem_cons.1 h with rfl|h
       ·exact .inl hlm
       ·exact .inr (.inl h)
      ·exact .inr (.inr h)
    | none =>
     rw[hc] at h1
     rintro⟨c1,c2,c3⟩
     exact h1 ⟨fun e he g hg hs=>c1 e (by simp[he]) g hg hs,fun e he g hg hs=>c2 e he g (by simp[hg]) hs,c3⟩
theorem joG_spec:∀(k:Nat) (a b x:List EntT),a.length+b.length=k→Sorted a→Sorted b→Sorted x→Le x a→Le x b→JSpec x a b (joG k a b x)
 | 0,a,b,x,hk,_,_,Sx,_,_=>by
  have ha:a=[]:=List.length_eq_zero_iff.1 (by omega)
  have hb:b=[]:=List.length_eq_zero_iff.1 (by omega)
  subst ha;subst hb
  exact⟨Sx,by simp⟩
 | k+1,[],[],x,hk,_,_,Sx,_,_=>by simp at hk
 | k+1,[],m::b,x,hk,Sa,Sb,Sx,ha,hb=>by
  simp only[joG]
  exact(jo_step Sb Sx hb ha (by simp) fun x' Sx' hb' ha'=>(joG_spec k [] b x' (by simpa using hk) Sa (List.pairwise_cons.1 Sb).2 Sx' ha' hb').swap).swap
 | k+1,n::a,[],x,hk,Sa,Sb,Sx,ha,hb=>by
  simp only[joG]
  exact jo_step Sa Sx ha hb (by simp) fun x' Sx' ha' hb'=>joG_spec k a [] x' (by simpa using hk) (List.pairwise_cons.1 Sa).2 Sb Sx' ha' hb'
 | k+1,n::a,m::b,x,hk,Sa,Sb,Sx,ha,hb=>by
  simp only[joG]
  cases hc:Dd (stCmp m.st n.st<0) with
  | true =>
   have hlt:=(cmp_lt_iff m.st n.st).1 hc
   exact(jo_step Sb Sx hb ha (fun g hg=>by
    rcases List.mem_cons.1 hg with rfl|hg
    ·exact lt_irr hlt
    ·exact lt_irr (lt_trans hlt ((List.pairwise_cons.1 Sa).1 g hg))) fun x' Sx' hb' ha'=>(joG_spec k (n::a) b x' (by simp only[List.length_cons] at hk ⊢;omega) Sa (List.pairwise_cons.1 Sb).2 Sx' ha' hb').swap).swap
  | false =>
   have hlt:¬StLt m.st n.st:=fun h=>by rw[(cmp_lt_iff m.st n.st).2 h] at hc;cases hc
   exact jo_step Sa Sx ha hb (fun g hg=>by
    rcases List.mem_cons.1 hg with rfl|hg
    ·exact hlt
    ·exact fun h=>hlt (lt_trans ((List.pairwise_cons.1 Sb).1 g hg) h)) fun x' Sx' ha' hb'=>joG_spec k a (m::b) x' (by simp only[List.length_cons] at hk ⊢;omega) (List.pairwise_cons.1 Sa).2 Sb Sx' ha' hb'
def Uni(a b y:List EntT):Prop:=Sorted y∧∀e,e∈y ↔ e∈a∨e∈b
theorem sorted_eq:∀{y z:List EntT},Sorted y→Sorted z→(∀e,e∈y ↔ e∈z)→y=z
 | [],[],_,_,_=>rfl
 | [],q::z,_,_,h=>absurd ((h q).2 (by simp)) (by simp)
 | p::y,[],_,_,h=>absurd ((h p).1 (by simp)) (by simp)
 | p::y,q::z,Sy,Sz,h=>by
  have hy:=List.pairwise_cons.1 Sy
  have hz:=List.pairwise_cons.1 Sz
  have hpq:p=q:=by
   rcases List.mem_cons.1 ((h p).1 (by simp)) with e|h1
   ·exact e
   ·rcases List.mem_cons.1 ((h q).2 (by simp)) with e|h2
    ·exact e.symm
    ·exact absurd (hy.1 q h2) (lt_irr (hz.1 p h1))
  subst hpq
  have:y=z:=sorted_eq hy.2 hz.2 fun e=>by
   have h1:=h e
   simp only[List.mem_cons] at h1
   constructor
   ·intro he
    rcases h1.1 (.inr he) with rfl|h2
    ·exact absurd rfl (lt_ne (hy.1 _ he))
    ·exact h2
   ·intro he
    rcases h1.2 (.inr he) with rfl|h2
    ·exact absurd rfl (lt_ne (hz.1 _ he))
    ·exact h2
  rw[this]
theorem sorted_inj{y:List EntT}(S:Sorted y){e f:EntT}(he:e∈y)(hf:f∈y)(hs:e.st=f.st):e=f:=by
 induction y with
 | nil=>cases he
 | cons p y ih =>
  have hy:=List.pairwise_cons.1 S
  rcases List.mem_cons.1 he with e1|he1
  ·rcases List.mem_cons.1 hf with e2|hf1
   ·rw[e1,e2]
   ·rw[e1] at hs
    exact absurd hs (lt_ne (hy.1 f hf1))
  ·rcases List.mem_cons.1 hf with e2|hf1
   ·rw[e2] at hs
    exact absurd hs.symm (lt_ne (hy.1 e he1))
   ·exact ih hy.2 he1 hf1
theorem Uni.compat{a b y:List EntT}(U:Uni a b y):Compat a b:=fun e he f hf hs=>sorted_inj U.1 ((U.2 e).2 (.inl he)) ((U.2 f).2 (.inr hf)) hs
def Val(l:List EntT):Prop:=∀e∈l,entErr e=0
theorem joR_iff{a b:List EntT}(Sa:Sorted a)(Sb:Sorted b)(Va:Val a)(Vb:Val b)(y:List EntT):joR a b=some y ↔ Uni a b y∧Fits y:=by
 have h:=joG_spec (a.length+b.length) a b [] rfl Sa Sb (by simp[Sorted]) (by simp[Le]) (by simp[Le])
 unfold joR
 cases hg:joG (a.length+b.length) a b [] with
 | none =>
  rw[hg] at h
  simp only[reduceCtorEq,false_iff]
  rintro⟨U,_⟩
  exact h ⟨U.compat,by simp[Compat],by simp[Compat]⟩
 | some z =>
  rw[hg] at h
  have hU:Uni a b z:=⟨h.1,fun e=>by rw[h.2 e];simp⟩
  have hV:∀e∈z,entErr e=0:=fun e he=>by
   rcases(hU.2 e).1 he with h|h
   ·exact Va e h
   ·exact Vb e h
  simp only
  constructor
  ·intro he
   cases hf:fitB z with
   | false=>rw[hf] at he;cases he
   | true =>
    rw[hf] at he
    cases he
    exact⟨hU,(fitB_iff hV).1 hf⟩
  ·rintro⟨U,F⟩
   have:z=y:=sorted_eq hU.1 U.1 fun e=>by rw[hU.2 e,U.2 e]
   subst this
   rw[(fitB_iff hV).2 F]
   rfl
theorem Uni.val{a b y:List EntT}(U:Uni a b y)(Va:Val a)(Vb:Val b):Val y:=fun e he=>by
 rcases(U.2 e).1 he with h|h
 ·exact Va e h
 ·exact Vb e h
theorem joR_assoc{a b c ab bc:List EntT}(Sa:Sorted a)(Sb:Sorted b)(Sc:Sorted c)(Va:Val a)(Vb:Val b)(Vc:Val c)(h1:joR a b=some ab)(h2:joR b c=some bc):joR ab c=joR a bc:=by
 obtain⟨U1,F1⟩:=(joR_iff Sa Sb Va Vb ab).1 h1
 obtain⟨U2,F2⟩:=(joR_iff Sb Sc Vb Vc bc).1 h2
 apply Option.ext
 intro y
 rw[joR_iff U1.1 Sc (U1.val Va Vb) Vc,joR_iff Sa U2.1 Va (U2.val Vb Vc)]
 refine and_congr_left fun _=>and_congr_right fun _=>forall_congr' fun e=>?_
 rw[U1.2 e,U2.2 e,or_assoc]
set_option maxHeartbeats 4000000
abbrev smS(L:List (List Dp))(i:Int):AS:={t:=mkT 27 0 [(0,rowsD' L),(1,rowsD' L),(4,bool false),(5,int i)],h:=[],m:=[]}
theorem sm_body{L:List (List Dp)}{e:EntT}{i:Nat}(hr:RowAt (i:Int) L e.row 31)(hlt:Dd ((i:Int)<(L.length:Int))=true)(hw:IntKind.i64.wrap ((i:Int)+1)=((i+1:Nat):Int))(hsm:∀h,Ev Tryz.prog Γ0 37 [ag e.row,ag e.row] h (bool true) h):(CW Tryz.prog Γ0 [] false (sub Tryz.f19 0) (smS L i) .normal (smS L ((i+1:Nat):Int))):=by
 refine CW.cast (CW.symX (s':={t:=mkT 27 0 [(0,rowsD' L),(1,rowsD' L),(4,bool false),(5,int (IntKind.wrap IntKind.i64 ((↑i:Int)+1)))],h:=[],m:=[]}) (e:=Exit.normal) pok [.st (.mask [0,1,4,5]),.st (.trim 0)] [.b true,.row [vi e.time,vi e.campus,vi e.no,vi e.kind,vi e.stu,vi e.obj,vi e.term,vi e.val,vi e.frm,vi e.til,vs e.text,vi e.sec.id,vi e.sec.course,vi e.sec.term,vi e.sec.campus,vi e.sec.seats,Dp.sl (List.map MeT.row e.sec.mts),Dp.sl (List.map GrT.row e.sec.grs),Dp.sl (List.map intRow e.sec.labs),Dp.v (Value.bool e.sec.lab),vi e.req.campus,vi e.req.no,vi e.req.st,vi e.req.kind,vi e.req.time,Dp.sl (List.map BuT.row e.req.chs),vi e.req.gsec,vi e.req.glab,vi e.req.key,vi e.r,vi e.s],.row [vi e.time,vi e.campus,vi e.no,vi e.kind,vi e.stu,vi e.obj,vi e.term,vi e.val,vi e.frm,vi e.til,vs e.text,vi e.sec.id,vi e.sec.course,vi e.sec.term,vi e.sec.campus,vi e.sec.seats,Dp.sl (List.map MeT.row e.sec.mts),Dp.sl (List.map GrT.row e.sec.grs),Dp.sl (List.map intRow e.sec.labs),Dp.v (Value.bool e.sec.lab),vi e.req.campus,vi e.req.no,vi e.req.st,vi e.req.kind,vi e.req.time,Dp.sl (List.map BuT.row e.req.chs),vi e.req.gsec,vi e.req.glab,vi e.req.key,vi e.r,vi e.s],.val (bool true),.b false] (by kernel_rfl) (.c hlt (.c hr (.c hr (.c (@hsm ([])) (.c (show(!true)=false from rfl) .n)))))) ?_ ?_<;>(first|rfl|(rw[hw]<;>rfl))
theorem sm_last{L:List (List Dp)}{i:Nat}(hlt:Dd ((i:Int)<(L.length:Int))=false):(CW Tryz.prog Γ0 [] false (sub Tryz.f19 0) (smS L i) (.exit 0) {t:=mkT 27 0 [],h:=[],m:=[]}):=by
 exact CW.cast (CW.symX (s':={t:=mkT 27 0 [],h:=[],m:=[]}) (e:=Exit.exit 0) pok [.st (.mask [])] [.b false] (by kernel_rfl) (.c hlt .n)) (by rfl) (by rfl)
theorem sm_each{l:List EntT}(hs:Short l)(ho:∀e∈l,e.ok):CW Tryz.prog Γ0 [] false (.loop (sub Tryz.f19 0)) (smS (l.map EntT.row) 0) (.exit 0) {t:=mkT 27 0 [],h:=[],m:=[]}:=by
 have:=CW.each (P:=Tryz.prog) (Γ:=Γ0) (h0:=[]) (rd:=false) (c:=sub Tryz.f19 0) (σ:=Unit) (ρ:=Empty) l (fun _ s=>.inl s) (fun j _=>smS (l.map EntT.row) (j:Int)) (.exit 0) (fun _=>{t:=mkT 27 0 [],h:=[],m:=[]}) (fun r=>r.elim) (fun _ _=>True) (by simp) (fun r=>r.elim) ?_ ?_ () trivial
 ·rw[forL_fold (fun s _=>s)] at this
  exact this
 ·intro j e s hj _
  have hlt:=(List.getElem?_eq_some_iff.1 hj).1
  have o:=ho e (List.mem_of_getElem? hj)
  have he:entEq37 e e=true:=by rw[entEq37_eq];exact(entEq_iff e e).2 rfl
  have hsm:∀h,Ev Tryz.prog Γ0 37 [ag e.row,ag e.row] h (bool true) h:=fun h=>by
   rw[←he]
   exact same37_ev o.m o.g o.l o.c h
  exact⟨fun _ _=>trivial,sm_body (rowAt (row:=EntT.row) (sz:=31) hj rfl) (lt_len EntT.row hlt) (wrap_succ hlt hs) hsm⟩
 ·intro s _
  exact sm_last (ge_len EntT.row l)
theorem same_a{L:List (List Dp)}(hn:((L.length:Int) != (L.length:Int))=false)(hl:CW Tryz.prog Γ0 [] false (.loop (sub Tryz.f19 0)) (smS L 0) (.exit 0) {t:=mkT 27 0 [],h:=[],m:=[]})(h:List Blk):(Ev Tryz.prog Γ0 19 [rowsD' L,rowsD' L] h (bool true) h):=by
 have hl0:=(@hl)
 exact Ev.castH (Ev.sym0 (d:=bool true) pok [.b false,.sum [0,1,4,5] (Exit.exit 0) {t:=mkT 27 0 [],h:=[],m:=[]}] (by kernel_rfl) (.c hn (.c hl0 .n)) rfl rfl h) (by rfl) (by rfl)
theorem sameL_ev{l:List EntT}(hs:Short l)(ho:∀e∈l,e.ok)(h:List Blk):Ev Tryz.prog Γ0 19 [rowsD' (l.map EntT.row),rowsD' (l.map EntT.row)] h (bool true) h:=same_a (by simp) (sm_each hs ho) h
theorem lt_few{A B C:List (List Dp)}{f1 f2 f3:Bool}(h1:∀h,Ev Tryz.prog Γ0 11 [rowsD' A] h (bool f1) h)(h2:∀h,Ev Tryz.prog Γ0 11 [rowsD' B] h (bool f2) h)(h3:∀h,Ev Tryz.prog Γ0 11 [rowsD' C] h (bool f3) h)(hcd:(!f1||!f2||!f3)=true)(h:List Blk):(Ev Tryz.prog Γq 7 [rowsD' A,rowsD' B,rowsD' C] h (bool true) h):=by
 exact Ev.castH (Ev.sym0 (d:=bool true) pok [.val (bool true),.b false,.val (bool f1),.val (bool f2),.val (bool f3),.b true] (by kernel_rfl) (.c (@sane39_ev ([])) (.c (show(!true)=false from rfl) (.c (Ev.glob0 (Γ':=Γq) (@h1 ([]))) (.c (show(!!f1)=true→Ev Tryz.prog Γq 11 [rowsD' B] [] (bool f2) [] from(fun hg=>(Ev.glob0 (@h2 ([]))))) (.c (show(!(!f1||!f2))=true→Ev Tryz.prog Γq 11 [rowsD' C] [] (bool f3) [] from(fun hg=>(Ev.glob0 (@h3 ([]))))) (.c hcd .n)))))) rfl rfl h) (by rfl) (by rfl)
theorem lt_err{A B C X Y:List (List Dp)}{e1 e2:Int}(h1:∀h,Ev Tryz.prog Γ0 11 [rowsD' A] h (bool true) h)(h2:∀h,Ev Tryz.prog Γ0 11 [rowsD' B] h (bool true) h)(h3:∀h,Ev Tryz.prog Γ0 11 [rowsD' C] h (bool true) h)
  (m1:∀h,Ev Tryz.prog Γq 20 [rowsD' A,rowsD' B] h (.tup [rowsD' X,int e1]) h) (m2:∀h,Ev Tryz.prog Γq 20 [rowsD' B,rowsD' C] h (.tup [rowsD' Y,int e2]) h) (hcd:(e1 != 0||e2 != 0)=true) (h:List Blk):(Ev Tryz.prog Γq 7 [rowsD' A,rowsD' B,rowsD' C] h (bool true) h):=by
 exact Ev.castH (Ev.sym0 (d:=bool true) pok [.val (bool true),.b false,.val (bool true),.val (bool true),.val (bool true),.b false,.val (D.tup [rowsD' X,int e1]),.val (D.tup [rowsD' Y,int e2]),.b true] (by kernel_rfl) (.c (@sane39_ev ([])) (.c (show(!true)=false from rfl) (.c (Ev.glob0 (Γ':=Γq) (@h1 ([]))) (.c (show(!!true)=true→Ev Tryz.prog Γq 11 [rowsD' B] [] (bool true) [] from(fun hg=>(Ev.glob0 (@h2 ([]))))) (.c (show(!(!true||!true))=true→Ev Tryz.prog Γq 11 [rowsD' C] [] (bool true) [] from(fun hg=>(Ev.glob0 (@h3 ([]))))) (.c (show(!true||!true||!true)=false from rfl) (.c (@m1 ([])) (.c (@m2 ([])) (.c hcd .n))))))))) rfl rfl h) (by rfl) (by rfl)
theorem lt_go{A B C X Y Z:List (List Dp)}{g:Int}(h1:∀h,Ev Tryz.prog Γ0 11 [rowsD' A] h (bool true) h)(h2:∀h,Ev Tryz.prog Γ0 11 [rowsD' B] h (bool true) h)(h3:∀h,Ev Tryz.prog Γ0 11 [rowsD' C] h (bool true) h)
  (m1:∀h,Ev Tryz.prog Γq 20 [rowsD' A,rowsD' B] h (.tup [rowsD' X,int 0]) h) (m2:∀h,Ev Tryz.prog Γq 20 [rowsD' B,rowsD' C] h (.tup [rowsD' Y,int 0]) h)
  (m3:∀h,Ev Tryz.prog Γq 20 [rowsD' X,rowsD' C] h (.tup [rowsD' Z,int g]) h) (m4:∀h,Ev Tryz.prog Γq 20 [rowsD' A,rowsD' Y] h (.tup [rowsD' Z,int g]) h) (hsm:∀h,Ev Tryz.prog Γ0 19 [rowsD' Z,rowsD' Z] h (bool true) h) (h:List Blk):(Ev Tryz.prog Γq 7 [rowsD' A,rowsD' B,rowsD' C] h (bool ((g==g)&&true)) h):=by
 exact Ev.castH (Ev.sym0 (d:=bool (g==g&&true)) pok [.val (bool true),.b false,.val (bool true),.val (bool true),.val (bool true),.b false,.val (D.tup [rowsD' X,int 0]),.val (D.tup [rowsD' Y,int 0]),.b false,.val (D.tup [rowsD' Z,int g]),.val (D.tup [rowsD' Z,int g]),.val (bool true)] (by kernel_rfl) (.c (@sane39_ev ([])) (.c (show(!true)=false from rfl) (.c (Ev.glob0 (Γ':=Γq) (@h1 ([]))) (.c (show(!!true)=true→Ev Tryz.prog Γq 11 [rowsD' B] [] (bool true) [] from(fun hg=>(Ev.glob0 (@h2 ([]))))) (.c (show(!(!true||!true))=true→Ev Tryz.prog Γq 11 [rowsD' C] [] (bool true) [] from(fun hg=>(Ev.glob0 (@h3 ([]))))) (.c (show(!true||!true||!true)=false from rfl) (.c (@m1 ([])) (.c (@m2 ([])) (.c (show(0 != 0||0 != 0)=false from rfl) (.c (@m3 ([])) (.c (@m4 ([])) (.c (show(g==g)=true→Ev Tryz.prog Γq 19 [rowsD' Z,rowsD' Z] [] (bool true) [] from(fun hg=>(Ev.glob0 (@hsm ([]))))) .n)))))))))))) rfl rfl h) (by rfl) (by rfl)
theorem meR_inv{a b:List EntT}(h:(meR a b).2=0):∃y,ledErr a=0∧ledErr b=0∧joR a b=some y∧meR a b=(y,0):=by
 unfold meR at h ⊢
 cases h1:ledErr a != 0 with
 | true=>rw[h1] at h;simp at h1;exact absurd h h1
 | false =>
  rw[h1] at h
  cases h2:ledErr b != 0 with
  | true=>rw[h2] at h;simp at h2;exact absurd h h2
  | false =>
   rw[h2] at h
   simp only at h ⊢
   cases h3:joR a b with
   | none=>rw[h3] at h;cases h
   | some y=>exact⟨y,by simpa using h1,by simpa using h2,rfl,rfl⟩
theorem meR_ok{a b:List EntT}(ha:ledErr a=0)(hb:ledErr b=0):meR a b=match joR a b with|none=>([],390)|some y=>(y,0):=by
 unfold meR
 rw[ha,hb]
 rfl
theorem few_len{l:List EntT}(h:fewR l=true):l.length≤16:=by
 unfold fewR at h
 simp only[Bool.and_eq_true,decide_eq_true_eq,List.length_map] at h
 omega
theorem Led.of_joR{a b y:List EntT}(A:Led a)(B:Led b)(h:joR a b=some y)(hl:a.length+b.length≤65536):Led y∧Uni a b y:=by
 obtain⟨U,F⟩:=(joR_iff A.f.sorted B.f.sorted A.e B.e y).1 h
 have:=joR_len h
 exact⟨⟨by omega,U.val A.e B.e,F⟩,U⟩
theorem Uni.ok{a b y:List EntT}(U:Uni a b y)(oa:∀e∈a,e.ok)(ob:∀e∈b,e.ok):∀e∈y,e.ok:=fun e he=>by
 rcases(U.2 e).1 he with h|h
 ·exact oa e h
 ·exact ob e h
theorem meR_mem{a b:List EntT}(oa:∀e∈a,e.ok)(ob:∀e∈b,e.ok):(∀e∈(meR a b).1,e.ok)∧(meR a b).1.length≤a.length+b.length:=by
 unfold meR
 cases h1:ledErr a != 0 with
 | true=>exact⟨by simp,by simp⟩
 | false =>
  cases h2:ledErr b != 0 with
  | true=>exact⟨by simp,by simp⟩
  | false =>
   simp only
   cases h3:joR a b with
   | none=>exact⟨by simp,by simp⟩
   | some y =>
    have ha:=led_iff.1 (show ledErr a=0 by simpa using h1)
    have hb:=led_iff.1 (show ledErr b=0 by simpa using h2)
    obtain⟨U,_⟩:=(joR_iff ha.f.sorted hb.f.sorted ha.e hb.e y).1 h3
    exact⟨U.ok oa ob,joR_len h3⟩
theorem ledgerThree_a{a b c:List EntT}(sa:Short a)(sb:Short b)(sc:Short c)(h:List Blk):Ev Tryz.prog Γq 7 [rowsD' (a.map EntT.row),rowsD' (b.map EntT.row),rowsD' (c.map EntT.row)] h (bool true) h:=by
 have f1:=fun h=>few_ev sa h
 have f2:=fun h=>few_ev sb h
 have f3:=fun h=>few_ev sc h
 cases hcd:(!fewR a||!fewR b||!fewR c) with
 | true=>exact lt_few f1 f2 f3 hcd h
 | false =>
  simp only[Bool.or_eq_false_iff,Bool.not_eq_false'] at hcd
  obtain⟨⟨w1,w2⟩,w3⟩:=hcd
  rw[w1] at f1
  rw[w2] at f2
  rw[w3] at f3
  have oa:=few_ok w1
  have ob:=few_ok w2
  have oc:=few_ok w3
  have la:=few_len w1
  have lb:=few_len w2
  have lc:=few_len w3
  have m1:=fun h=>merge_ev (a:=a) (b:=b) (by omega) oa ob h
  have m2:=fun h=>merge_ev (a:=b) (b:=c) (by omega) ob oc h
  cases he:((meR a b).2 != 0||(meR b c).2 != 0) with
  | true=>exact lt_err f1 f2 f3 m1 m2 he h
  | false =>
   simp only[Bool.or_eq_false_iff,bne_eq_false_iff_eq] at he
   obtain⟨ab,A,B,j1,q1⟩:=meR_inv he.1
   obtain⟨bc,_,C,j2,q2⟩:=meR_inv he.2
   rw[q1] at m1
   rw[q2] at m2
   have A':=led_iff.1 A
   have B':=led_iff.1 B
   have C':=led_iff.1 C
   obtain⟨D1,U1⟩:=A'.of_joR B' j1 (by omega)
   obtain⟨D2,U2⟩:=B'.of_joR C' j2 (by omega)
   have l1:=joR_len j1
   have l2:=joR_len j2
   have o1:=U1.ok oa ob
   have o2:=U2.ok ob oc
   have heq:meR a bc=meR ab c:=by
    rw[meR_ok A (led_iff.2 D2),meR_ok (led_iff.2 D1) C,joR_assoc A'.f.sorted B'.f.sorted C'.f.sorted A'.e B'.e C'.e j1 j2]
   have m3:=fun h=>merge_ev (a:=ab) (b:=c) (by omega) o1 oc h
   have m4:=fun h=>merge_ev (a:=a) (b:=bc) (by omega) oa o2 h
   rw[heq] at m4
   obtain⟨o3,l3⟩:=meR_mem o1 oc
   have:=lt_go f1 f2 f3 m1 m2 m3 m4 (fun h=>sameL_ev (show(meR ab c).1.length≤_ by omega) o3 h) h
   simpa using this
open Go.ChangeShapes Go.WideShapes Go.ChangeAt Go.RowKit Go.Proofs.YtoincdhjcahadaaGreatDoor
set_option maxRecDepth 100000
def I64(n:Int):Prop := -9223372036854775808≤n∧n≤9223372036854775807
theorem cells3:Tryz.prog.cellsOf 3=1:=by kernel_rfl
theorem cells4:Tryz.prog.cellsOf 4=1:=by kernel_rfl
theorem cells9:Tryz.prog.cellsOf 9=1:=by kernel_rfl
theorem cells28:Tryz.prog.cellsOf 28=3:=by kernel_rfl
theorem cells32:Tryz.prog.cellsOf 32=2:=by kernel_rfl
theorem cells33:Tryz.prog.cellsOf 33=1:=by kernel_rfl
theorem cells34:Tryz.prog.cellsOf 34=1:=by kernel_rfl
theorem cells35:Tryz.prog.cellsOf 35=1:=by kernel_rfl
theorem cells37:Tryz.prog.cellsOf 37=9:=by kernel_rfl
theorem cells38:Tryz.prog.cellsOf 38=1:=by kernel_rfl
theorem cells40:Tryz.prog.cellsOf 40=2:=by kernel_rfl
theorem cells42:Tryz.prog.cellsOf 42=9:=by kernel_rfl
theorem cells44:Tryz.prog.cellsOf 44=2:=by kernel_rfl
theorem cells46:Tryz.prog.cellsOf 46=31:=by kernel_rfl
theorem cells118:Tryz.prog.cellsOf 118=5:=by kernel_rfl
theorem cells120:Tryz.prog.cellsOf 120=3:=by kernel_rfl
theorem bytes3:Tryz.prog.bytesOf 3=8:=by kernel_rfl
theorem bytes118:Tryz.prog.bytesOf 118=40:=by kernel_rfl
theorem bytes120:Tryz.prog.bytesOf 120=24:=by kernel_rfl
theorem bytes40:Tryz.prog.bytesOf 40=16:=by kernel_rfl
theorem bytes46:Tryz.prog.bytesOf 46=320:=by kernel_rfl
theorem plain46:plainB Tryz.prog [3,4,9,22,28,32,33,34,35,37,38,40,42,44,46,118,120]=true:=by kernel_rfl
theorem shp_int{n:Nat}{ds:List Dp}(h:Shp Tryz.prog n 3 ds):∃x,ds=[vi x]∧I64 x:=by
 cases n with
 | zero=>exact h.elim
 | succ n =>
  simp only[Shp,Tryz.underlying3] at h
  obtain⟨x,rfl,hw⟩:=h
  exact⟨x,rfl,bounds_i64 hw⟩
theorem shp_str{n:Nat}{ds:List Dp}(h:Shp Tryz.prog n 9 ds):∃s,ds=[vs s]:=by
 cases n with
 | zero=>exact h.elim
 | succ n =>
  simp only[Shp,Tryz.underlying9] at h
  obtain⟨s,rfl,_⟩:=h
  exact⟨s,rfl⟩
theorem shp_bool{n:Nat}{ds:List Dp}(h:Shp Tryz.prog n 4 ds):∃b,ds=[.v (.bool b)]:=by
 cases n with
 | zero=>exact h.elim
 | succ n =>
  simp only[Shp,Tryz.underlying4] at h
  obtain⟨b,rfl⟩:=h
  exact⟨b,rfl⟩
theorem map_of{α:Type}{row:α→List Dp}{ok:α→Prop}:∀{es:List (List Dp)},(∀r∈es,∃a,r=row a∧ok a)→∃l:List α,es=l.map row∧∀a∈l,ok a
 | [],_=>⟨[],rfl,by simp⟩
 | r::es,h=>by
  obtain⟨a,rfl,ha⟩:=h r (List.mem_cons_self ..)
  obtain⟨l,rfl,hl⟩:=map_of (fun r hr=>h r (List.mem_cons_of_mem _ hr))
  exact⟨a::l,rfl,fun b hb=>(List.mem_cons.1 hb).elim (fun e=>e▸ha) (hl b)⟩
theorem short_of{n k:Nat}(h:n*k≤reachBytes)(hk:1≤k):n≤140737488355328:=by
 have:n≤n*k:=Nat.le_mul_of_pos_right n hk
 unfold reachBytes at h
 omega
theorem shp_st{n:Nat}{ds:List Dp}(h:Shp Tryz.prog n 28 ds):∃a:StT,ds=a.row∧True:=by
 cases n with
 | zero=>exact h.elim
 | succ n =>
  simp only[Shp,Tryz.underlying28,List.forall_mem_cons,cells3,cells28] at h
  obtain⟨hl,h1,h2,h3,_⟩:=h
  obtain⟨x1,e1,_⟩:=shp_int h1
  obtain⟨x2,e2,_⟩:=shp_int h2
  obtain⟨x3,e3,_⟩:=shp_int h3
  match ds,hl with
  | [p1,p2,p3],_ =>
   simp at e1 e2 e3
   subst e1;subst e2;subst e3
   exact⟨⟨x1,x2,x3⟩,rfl,trivial⟩
theorem shp_mt{n:Nat}{ds:List Dp}(h:Shp Tryz.prog n 118 ds):∃a:MeT,ds=a.row∧True:=by
 cases n with
 | zero=>exact h.elim
 | succ n =>
  simp only[Shp,Tryz.underlying118,List.forall_mem_cons,cells3,cells118] at h
  obtain⟨hl,h1,h2,h3,h4,h5,_⟩:=h
  obtain⟨x1,e1,_⟩:=shp_int h1
  obtain⟨x2,e2,_⟩:=shp_int h2
  obtain⟨x3,e3,_⟩:=shp_int h3
  obtain⟨x4,e4,_⟩:=shp_int h4
  obtain⟨x5,e5,_⟩:=shp_int h5
  match ds,hl with
  | [p1,p2,p3,p4,p5],_ =>
   simp at e1 e2 e3 e4 e5
   subst e1;subst e2;subst e3;subst e4;subst e5
   exact⟨⟨x1,x2,x3,x4,x5⟩,rfl,trivial⟩
theorem shp_gr{n:Nat}{ds:List Dp}(h:Shp Tryz.prog n 120 ds):∃a:GrT,ds=a.row∧True:=by
 cases n with
 | zero=>exact h.elim
 | succ n =>
  simp only[Shp,Tryz.underlying120,List.forall_mem_cons,cells3,cells120] at h
  obtain⟨hl,h1,h2,h3,_⟩:=h
  obtain⟨x1,e1,_⟩:=shp_int h1
  obtain⟨x2,e2,_⟩:=shp_int h2
  obtain⟨x3,e3,_⟩:=shp_int h3
  match ds,hl with
  | [p1,p2,p3],_ =>
   simp at e1 e2 e3
   subst e1;subst e2;subst e3
   exact⟨⟨x1,x2,x3⟩,rfl,trivial⟩
theorem shp_bu{n:Nat}{ds:List Dp}(h:Shp Tryz.prog n 40 ds):∃a:BuT,ds=a.row∧True:=by
 cases n with
 | zero=>exact h.elim
 | succ n =>
  simp only[Shp,Tryz.underlying40,List.forall_mem_cons,cells3,cells40] at h
  obtain⟨hl,h1,h2,_⟩:=h
  obtain⟨x1,e1,_⟩:=shp_int h1
  obtain⟨x2,e2,_⟩:=shp_int h2
  match ds,hl with
  | [p1,p2],_ =>
   simp at e1 e2
   subst e1;subst e2
   exact⟨⟨x1,x2⟩,rfl,trivial⟩
theorem shp_span{n:Nat}{ds:List Dp}(h:Shp Tryz.prog n 32 ds):∃a b,ds=[vi a,vi b]:=by
 cases n with
 | zero=>exact h.elim
 | succ n =>
  simp only[Shp,Tryz.underlying32,List.forall_mem_cons,cells3,cells32] at h
  obtain⟨hl,h1,h2,_⟩:=h
  obtain⟨x1,e1,_⟩:=shp_int h1
  obtain⟨x2,e2,_⟩:=shp_int h2
  match ds,hl with
  | [p1,p2],_ =>
   simp at e1 e2
   subst e1;subst e2
   exact⟨x1,x2,rfl⟩
theorem shp_sig{n:Nat}{ds:List Dp}(h:Shp Tryz.prog n 44 ds):∃a b,ds=[vi a,vi b]:=by
 cases n with
 | zero=>exact h.elim
 | succ n =>
  simp only[Shp,Tryz.underlying44,List.forall_mem_cons,cells3,cells44] at h
  obtain⟨hl,h1,h2,_⟩:=h
  obtain⟨x1,e1,_⟩:=shp_int h1
  obtain⟨x2,e2,_⟩:=shp_int h2
  match ds,hl with
  | [p1,p2],_ =>
   simp at e1 e2
   subst e1;subst e2
   exact⟨x1,x2,rfl⟩
theorem shp_mts{n:Nat}{ds:List Dp}(h:Shp Tryz.prog n 33 ds):∃l:List MeT,ds=[.sl (l.map MeT.row)]:=by
 cases n with
 | zero=>exact h.elim
 | succ n =>
  simp only[Shp,Tryz.underlying33,bytes118] at h
  obtain⟨es,rfl,_,he⟩:=h
  obtain⟨l,rfl,_⟩:=map_of (row:=MeT.row) (ok:=fun _=>True) (fun r hr=>shp_mt (he r hr))
  exact⟨l,rfl⟩
theorem shp_grs{n:Nat}{ds:List Dp}(h:Shp Tryz.prog n 34 ds):∃l:List GrT,ds=[.sl (l.map GrT.row)]:=by
 cases n with
 | zero=>exact h.elim
 | succ n =>
  simp only[Shp,Tryz.underlying34,bytes120] at h
  obtain⟨es,rfl,_,he⟩:=h
  obtain⟨l,rfl,_⟩:=map_of (row:=GrT.row) (ok:=fun _=>True) (fun r hr=>shp_gr (he r hr))
  exact⟨l,rfl⟩
theorem shp_chs{n:Nat}{ds:List Dp}(h:Shp Tryz.prog n 38 ds):∃l:List BuT,ds=[.sl (l.map BuT.row)]:=by
 cases n with
 | zero=>exact h.elim
 | succ n =>
  simp only[Shp,Tryz.underlying38,bytes40] at h
  obtain⟨es,rfl,_,he⟩:=h
  obtain⟨l,rfl,_⟩:=map_of (row:=BuT.row) (ok:=fun _=>True) (fun r hr=>shp_bu (he r hr))
  exact⟨l,rfl⟩
theorem shp_labs{n:Nat}{ds:List Dp}(h:Shp Tryz.prog n 35 ds):∃l:List Int,ds=[.sl (l.map intRow)]:=by
 cases n with
 | zero=>exact h.elim
 | succ n =>
  simp only[Shp,Tryz.underlying35,bytes3] at h
  obtain⟨es,rfl,_,he⟩:=h
  obtain⟨l,rfl,_⟩:=map_of (row:=intRow) (ok:=fun _=>True) (fun r hr=>by obtain⟨x,e,_⟩:=shp_int (he r hr);exact⟨x,e,trivial⟩)
  exact⟨l,rfl⟩
theorem shp_sec{n:Nat}{ds:List Dp}(h:Shp Tryz.prog n 37 ds):∃s:SecT,ds=s.row:=by
 cases n with
 | zero=>exact h.elim
 | succ n =>
  simp only[Shp,Tryz.underlying37,List.forall_mem_cons,cells3,cells4,cells33,cells34,cells35,cells37] at h
  obtain⟨hl,h1,h2,h3,h4,h5,h6,h7,h8,h9,_⟩:=h
  obtain⟨x1,e1,_⟩:=shp_int h1
  obtain⟨x2,e2,_⟩:=shp_int h2
  obtain⟨x3,e3,_⟩:=shp_int h3
  obtain⟨x4,e4,_⟩:=shp_int h4
  obtain⟨x5,e5,_⟩:=shp_int h5
  obtain⟨x6,e6⟩:=shp_mts h6
  obtain⟨x7,e7⟩:=shp_grs h7
  obtain⟨x8,e8⟩:=shp_labs h8
  obtain⟨x9,e9⟩:=shp_bool h9
  match ds,hl with
  | [p1,p2,p3,p4,p5,p6,p7,p8,p9],_ =>
   simp at e1 e2 e3 e4 e5 e6 e7 e8 e9
   subst e1;subst e2;subst e3;subst e4;subst e5;subst e6;subst e7;subst e8;subst e9
   exact⟨⟨x1,x2,x3,x4,x5,x6,x7,x8,x9⟩,rfl⟩
theorem shp_rq{n:Nat}{ds:List Dp}(h:Shp Tryz.prog n 42 ds):∃r:RqT,ds=r.row:=by
 cases n with
 | zero=>exact h.elim
 | succ n =>
  simp only[Shp,Tryz.underlying42,List.forall_mem_cons,cells3,cells38,cells40,cells42] at h
  obtain⟨hl,h1,h2,h3,h4,h5,h6,h7,h8,_⟩:=h
  obtain⟨x1,e1,_⟩:=shp_int h1
  obtain⟨x2,e2,_⟩:=shp_int h2
  obtain⟨x3,e3,_⟩:=shp_int h3
  obtain⟨x4,e4,_⟩:=shp_int h4
  obtain⟨x5,e5,_⟩:=shp_int h5
  obtain⟨x6,e6⟩:=shp_chs h6
  obtain⟨⟨x7,x8⟩,e7,_⟩:=shp_bu h7
  obtain⟨x9,e9,_⟩:=shp_int h8
  match ds,hl with
  | [p1,p2,p3,p4,p5,p6,p7,p8,p9],_ =>
   simp[BuT.row] at e1 e2 e3 e4 e5 e6 e7 e9
   obtain⟨e7,e8⟩:=e7
   subst e1;subst e2;subst e3;subst e4;subst e5;subst e6;subst e7;subst e8;subst e9
   exact⟨⟨x1,x2,x3,x4,x5,x6,x7,x8,x9⟩,rfl⟩
def EntT.val64(e:EntT):Prop:=e.val≤9223372036854775807
theorem take_split{α:Type}(n m:Nat)(l:List α):l.drop n=(l.drop n).take m++l.drop (n+m):=by
 rw[←List.drop_drop,List.take_append_drop]
theorem shp_ent{n:Nat}{ds:List Dp}(h:Shp Tryz.prog n 46 ds):∃e:EntT,ds=e.row∧e.val64:=by
 cases n with
 | zero=>exact h.elim
 | succ n =>
  simp only[Shp,Tryz.underlying46,List.forall_mem_cons,cells3,cells9,cells28,cells32,cells37,cells42,cells44,cells46] at h
  obtain⟨hl,h1,h2,h3,h4,h5,h6,h7,h8,h9,h10,h11,_⟩:=h
  obtain⟨⟨a1,a2,a3⟩,e1,_⟩:=shp_st h1
  obtain⟨x2,e2,_⟩:=shp_int h2
  obtain⟨x3,e3,_⟩:=shp_int h3
  obtain⟨x4,e4,_⟩:=shp_int h4
  obtain⟨x5,e5,_⟩:=shp_int h5
  obtain⟨x6,e6,v6⟩:=shp_int h6
  obtain⟨b1,b2,e7⟩:=shp_span h7
  obtain⟨x8,e8⟩:=shp_str h8
  obtain⟨x9,e9⟩:=shp_sec h9
  obtain⟨x10,e10⟩:=shp_rq h10
  obtain⟨c1,c2,e11⟩:=shp_sig h11
  have hd:ds=(ds.drop 0).take 3++((ds.drop 3).take 1++((ds.drop 4).take 1++((ds.drop 5).take 1++((ds.drop 6).take 1++((ds.drop 7).take 1++((ds.drop 8).take 2++((ds.drop 10).take 1++((ds.drop 11).take 9++((ds.drop 20).take 9++(ds.drop 29).take 2))))))))):=by
   have h29:ds.drop 29=(ds.drop 29).take 2:=by
    have:=take_split 29 2 ds
    rw[show ds.drop (29+2)=[] from List.drop_eq_nil_of_le (by omega),List.append_nil] at this
    exact this
   rw[←h29,←take_split 20 9,←take_split 11 9,←take_split 10 1,←take_split 8 2,←take_split 7 1,←take_split 6 1,←take_split 5 1,←take_split 4 1,←take_split 3 1,←take_split 0 3]
   rfl
  refine⟨⟨a1,a2,a3,x2,x3,x4,x5,x6,b1,b2,x8,x9,x10,c1,c2⟩,?_,v6.2⟩
  rw[hd,e1,e2,e3,e4,e5,e6,e7,e8,e9,e10,e11]
  rfl
theorem shp_ents{n:Nat}{ds:List Dp}(h:Shp Tryz.prog n 22 ds):∃l:List EntT,ds=[.sl (l.map EntT.row)]∧Short l∧∀e∈l,e.val64:=by
 cases n with
 | zero=>exact h.elim
 | succ n =>
  simp only[Shp,Tryz.underlying22,bytes46] at h
  obtain⟨es,rfl,hb,he⟩:=h
  obtain⟨l,rfl,hv⟩:=map_of (row:=EntT.row) (ok:=EntT.val64) (fun r hr=>shp_ent (he r hr))
  exact⟨l,rfl,by have:=short_of hb (by omega);simpa[Short] using this,hv⟩
theorem arg_ents{H:Type}{enc:TypeId×Value→H}{W:World}{base:Nat}{v:Value}{d:DataW H}{p:List MemPlace}
  (hok:Value.okWide Tryz.prog W .any base 22 v) (h:DataW.Trod enc Tryz.prog W 0 (fun _=>true) true 22 v d p) (hw:(d.weights Tryz.prog 22).all (· ≤ reachBytes)=true) :
  ∃l:List EntT,(Short l∧∀e∈l,e.val64)∧Rel W (avs (fun _=>False) (fun _=>none) []) (fun _=>none) [] (rowsD' (l.map EntT.row)) v:=by
 obtain⟨fuel,hf⟩:=h
 unfold Value.okWide at hok
 rw[Tryz.underlying22] at hok
 have hc:v.cells.toList=[v]:=by
  cases v<;>first|rfl|skip
  unfold Cell.okWide at hok
  rw[Tryz.underlying22] at hok
  exact hok.elim
 rw[hc] at hf
 obtain⟨ds,h1,h2⟩:=open_plain plain46 av_start fuel 22 _ d p (by decide) hf hw
 obtain⟨l,rfl,hl⟩:=shp_ents h1
 refine⟨l,hl,?_⟩
 simp only[RelPL,and_true] at h2
 simpa[rowsD',Rel] using h2
end Go.Vi
open Go Go.Proofs
namespace Go.Vi
set_option maxRecDepth 100000
set_option maxHeartbeats 4000000
theorem ledgerThree_ev{a b c:List EntT}(sa:Short a)(_va:∀e∈a,e.val64)(sb:Short b)(_vb:∀e∈b,e.val64)(sc:Short c)(_vc:∀e∈c,e.val64)(h:List Blk):Ev Tryz.prog Γq 7 [rowsD' (a.map EntT.row),rowsD' (b.map EntT.row),rowsD' (c.map EntT.row)] h (bool true) h :=
 ledgerThree_a sa sb sc h
open Go.ChangeShapes Go.WideShapes Go.ChangeAt Go.RowKit Go.Proofs.YtoincdhjcahadaaGreatDoor
set_option maxRecDepth 100000
theorem ownK:ownKnob Tryz.prog.godebug=none:=by kernel_rfl
theorem laidOut:laidOutB Tryz.prog=true:=by kernel_rfl
def kd(a b c d:Bool)(f g:Value):List Value:=[.bool a,.bool b,.bool c,.bool d,f,g]
def kf(k:Nat):Value:=.func (.func k) #[] #[]
def kindsCells:List Value :=
 kd false false false false .nilFunc .nilFunc++kd false false false true (kf 384) (kf 385)++kd false false false true (kf 386) (kf 387)++kd false true false true (kf 388) (kf 389) ++
 kd false false false true (kf 390) (kf 391)++kd true true false false (kf 392) (kf 394)++kd true true false false (kf 396) (kf 397)++kd false true false false (kf 398) (kf 399) ++
 kd false true true false (kf 400) (kf 401)++kd true false false false (kf 393) (kf 402)
def rk4(a b:Int)(g k:Bool):List Value:=[.int .i64 a,.int .i64 b,.bool g,.bool k]
def rkCells:List Value:=rk4 0 0 false false++rk4 1 8 false true++rk4 0 0 true false++rk4 1 1 true false++rk4 1 1 false false++rk4 1 1 false false
def etCell:Value:=.iface 157 (.agg #[.pointer (some ⟨3,111,none⟩)])
def layAt(cs:List Value):Obj→Obj
 | .cells _ t frozen=>.cells cs.toArray t frozen
 | o=>o
noncomputable def laidWorld(os:Os):World :=
 {World.holding Tryz.prog os ⟨#[],#[],[]⟩ with heap:=(((World.holding Tryz.prog os ⟨#[],#[],[]⟩).heap.modify 0 (layAt rkCells)).modify 1 (layAt [etCell])).modify 2 (layAt kindsCells)}
abbrev laid3:List (String×DataW Unit):=[("errors.errorType",Rows.laid_errors_errorType),("sizar/requests.kinds",Rows.laid_sizar_requests_kinds),("sizar/rules.kinds",Rows.laid_sizar_rules_kinds)]
theorem laid_met(os:Os)(args:Array Value):laidMetH Tryz.prog laid3 ((laidWorld os).forCall (fun _ _=>0) ⟨#[],args,[]⟩).memory :=
 laidMetH_of_parts3 (fuel:=8) (laidMet_of_run' 8 (by kernel_rfl) (by kernel_rfl)) (by kernel_rfl) (by kernel_rfl)
end Go.Vi
open Go Go.Proofs
namespace Go.Vi
set_option maxHeartbeats 4000000
open Go.ChangeShapes Go.WideShapes Go.ChangeAt Go.RowKit Go.Proofs.YtoincdhjcahadaaGreatDoor
set_option maxRecDepth 100000
def contigE(P:Program):List Field→Nat→Nat→Bool
 | [],acc,n=>acc==n
 | f::fs,acc,n=>f.offset==acc&&contigE P fs (acc+P.cellsOf f.type) n
def zipE(g:TypeId→DataW Unit→Option (List Value)):List TypeId→List (DataW Unit)→Option (List Value)
 | [],[]=>some []
 | t::ts,d::ds=>(g t d).bind fun a=>(zipE g ts ds).map fun b=>a++b
 | _,_=>none
def expect(P:Program):Nat→TypeId→DataW Unit→Option (List Value)
 | 0,_,_=>none
 | n+1,t,d=>match P.underlying t with
  | some .bool=>match d with
   | .lit (.bool b)=>some [.bool b]
   | _=>none
  | some (.int k)=>match d with
   | .lit (.int _ x)=>some [.int k x]
   | _=>none
  | some (.struct fs)=>match d with
   | .agg ds=>if contigE P fs.toList 0 (P.cellsOf t) then zipE (fun f d=>expect P n f d) (fs.toList.map (·.type)) ds else none
   | _=>none
  | some (.array m e)=>match d with
   | .agg ds=>if Dd (P.cellsOf t=m*P.cellsOf e)=true then zipE (fun f d=>expect P n f d) (List.replicate m e) ds else none
   | _=>none
  | _=>none
theorem fields_of{P:Program}{g:TypeId→DataW Unit→Option (List Value)}{tr:TypeId→List Value→Option (DataW Unit×List MemPlace)}{cs:List Value}
  (hg:∀t d ys,g t d=some ys→∀c p,tr t c=some (d,p)→c=ys):∀(fs:List Field) (acc:Nat) (xs:List (DataW Unit×List MemPlace)) (ys:List Value),
  (fs.mapM fun f=>tr f.type ((cs.drop f.offset).take (P.cellsOf f.type)))=some xs→contigE P fs acc cs.length=true→zipE g (fs.map (·.type)) (xs.map (·.1))=some ys→cs.drop acc=ys
 | [],acc,xs,ys,hm,hc,hz=>by
  simp at hm
  subst hm
  simp[zipE] at hz
  subst hz
  simp[contigE] at hc
  simp[hc]
 | f::fs,acc,xs,ys,hm,hc,hz=>by
  simp only[List.mapM_cons,Option.bind_eq_bind,Option.bind_eq_some_iff,Option.pure_def,Option.some.injEq] at hm
  obtain⟨x,hx,xs',hxs,rfl⟩:=hm
  simp only[contigE,Bool.and_eq_true,beq_iff_eq] at hc
  simp only[List.map_cons,zipE,Option.bind_eq_some_iff,Option.map_eq_some_iff] at hz
  obtain⟨a,ha,b,hb,rfl⟩:=hz
  have h1:=hg _ _ _ ha _ x.2 (by rw[hx])
  have h2:=fields_of hg fs _ xs' b hxs hc.2 hb
  rw[←h1,←h2,hc.1,←List.drop_drop,List.take_append_drop]
theorem elems_of{e:TypeId}{c:Nat}{g:TypeId→DataW Unit→Option (List Value)}{tr:TypeId→List Value→Option (DataW Unit×List MemPlace)}{cs:List Value}
  (hg:∀t d ys,g t d=some ys→∀c p,tr t c=some (d,p)→c=ys):∀(n k:Nat) (xs:List (DataW Unit×List MemPlace)) (ys:List Value),
  ((List.range' k n).mapM fun i=>tr e ((cs.drop (i*c)).take c))=some xs→cs.length=(k+n)*c→zipE g (List.replicate n e) (xs.map (·.1))=some ys→cs.drop (k*c)=ys
 | 0,k,xs,ys,hm,hc,hz=>by
  simp at hm
  subst hm
  simp[zipE] at hz
  subst hz
  exact List.drop_eq_nil_of_le (by rw[hc];simp)
 | n+1,k,xs,ys,hm,hc,hz=>by
  rw[List.range'_succ] at hm
  simp only[List.mapM_cons,Option.bind_eq_bind,Option.bind_eq_some_iff,Option.pure_def,Option.some.injEq] at hm
  obtain⟨x,hx,xs',hxs,rfl⟩:=hm
  rw[List.replicate_succ] at hz
  simp only[List.map_cons,zipE,Option.bind_eq_some_iff,Option.map_eq_some_iff] at hz
  obtain⟨a,ha,b,hb,rfl⟩:=hz
  have h1:=hg _ _ _ ha _ x.2 (by rw[hx])
  have h2:=elems_of hg n (k+1) xs' b hxs (by rw[hc];congr 1;omega) hb
  rw[←h1,←h2,Nat.add_mul,Nat.one_mul,←List.drop_drop,List.take_append_drop]
theorem expect_of{P:Program}{w:World}{sp:Nat→Bool}:∀(n:Nat) (t:TypeId) (d:DataW Unit) (ys:List Value),expect P n t d=some ys→∀(fuel:Nat) (cs:List Value) (p:List MemPlace),DataW.trod (fun _=>()) P w 0 sp false fuel t cs=some (d,p)→cs=ys
 | 0,_,_,_,h=>by simp[expect] at h
 | n+1,t,d,ys,h=>by
  intro fuel cs p ht
  cases fuel with
  | zero=>simp[DataW.trod] at ht
  | succ fuel =>
   unfold expect at h
   unfold DataW.trod at ht
   cases hu:P.underlying t with
   | none=>rw[hu] at h;simp at h
   | some td =>
    rw[hu] at h ht
    cases td with
    | bool =>
     simp only at h ht
     split at h
     ·split at ht<;>simp_all
     ·simp at h
    | int k =>
     simp only at h ht
     split at h
     ·split at ht
      all_goals (first|(simp_all;done)|(split at ht<;>simp_all))
     ·simp at h
    | struct fs =>
     simp only at h ht
     split at h
     ·split at h
      ·rename_i hc
       split at ht
       ·rename_i hl
        obtain⟨xs,hxs,he⟩:=Option.map_eq_some_iff.1 ht
        simp only[Prod.mk.injEq,DataW.agg.injEq] at he
        obtain⟨rfl,_⟩:=he
        have:=fields_of (tr:=fun t c=>DataW.trod (fun _=>()) P w 0 sp false fuel t c) (fun t d ys hg c p hp=>expect_of n t d ys hg fuel c p hp) fs.toList 0 xs ys hxs (by rw[hl];exact hc) h
        simpa using this
       ·simp at ht
      ·simp at h
     ·simp at h
    | array m e =>
     simp only at h ht
     split at h
     ·split at ht
      ·rename_i hl
       obtain⟨xs,hxs,he⟩:=Option.map_eq_some_iff.1 ht
       simp only[Prod.mk.injEq,DataW.agg.injEq] at he
       obtain⟨rfl,_⟩:=he
       split at h
       ·rename_i hc
        rw[List.range_eq_range'] at hxs
        have:=elems_of (tr:=fun t c=>DataW.trod (fun _=>()) P w 0 sp false fuel t c) (fun t d ys hg c p hp=>expect_of n t d ys hg fuel c p hp) m 0 xs ys hxs (by rw[hl,Nat.zero_add];exact of_decide_eq_true hc) h
        simpa using this
       ·simp at h
      ·simp at ht
     ·simp at h
    | _=>simp at h
theorem rk_named:Tryz.prog.globalNamed "sizar/requests.kinds" = some 0:=by kernel_rfl
noncomputable def rkT:TypeId:=((Tryz.prog.globals[0]?).map (·.type)).getD 0
theorem rk_type:(Tryz.prog.globals[0]?).map (·.type)=some rkT:=by kernel_rfl
theorem rk_expect:expect Tryz.prog 4 rkT Rows.laid_sizar_requests_kinds=some rkCells:=by kernel_rfl
theorem data_of {W:World} (h:laidMetH Tryz.prog laid3 W):laidMet Tryz.prog [("sizar/requests.kinds",Rows.laid_sizar_requests_kinds)] W:=(laidMetH_iff.1 h).1
theorem rk_cells {W:World} (h:laidMetH Tryz.prog laid3 W):∃cs:Array Value,W.var? Tryz.prog "sizar/requests.kinds" = some cs∧cs.toList=rkCells:=by
 obtain⟨ps,hl,_,_⟩:=data_of h
 obtain⟨g,t,cs,fuel,p,q,h1,h2,h3,h4,_⟩:=hl
 rw[rk_named] at h1
 cases h1
 rw[rk_type] at h2
 cases h2
 exact⟨cs,h3,expect_of 4 _ _ _ rk_expect fuel _ _ h4⟩
theorem et_named:Tryz.prog.globalNamed "errors.errorType" = some 1:=by kernel_rfl
theorem et_rt:(Tryz.prog.cutTypes.find? (·.1 == "internal/reflectlite.rtype")).map (·.2)=some 157:=by kernel_rfl
noncomputable def etN:Nat:=Tryz.prog.types.size
theorem et_row:((List.range etN).filter fun t=>Tryz.prog.rowNamed t [101,114,114,111,114])=[111]:=by kernel_rfl
theorem et_cell{W:World}(h:laidMetH Tryz.prog laid3 W):W.cell? ⟨1,0,none⟩=some etCell:=by
 have h2:handlesMet Tryz.prog (laid3.filter fun x=>x.2.handleName?.isSome) W:=(laidMetH_iff.1 h).2
 obtain⟨name,u,ty,e1,e2,e3,e4,e5⟩:=h2 ("errors.errorType",Rows.laid_errors_errorType) (List.mem_filter.2 ⟨by simp,rfl⟩)
 have en:name=[101,114,114,111,114]:=(Option.some.inj e1).symm
 subst en
 obtain rfl:=Option.some.inj (et_rt.symm.trans e2)
 have hm:ty∈(List.range etN).filter fun t=>Tryz.prog.rowNamed t [101,114,114,111,114]:=List.mem_filter.2 ⟨List.mem_range.2 e3,e4⟩
 rw[et_row] at hm
 obtain rfl:=List.mem_singleton.1 hm
 have hh:typeHandle Tryz.prog 111=.pointer (some ⟨3,111,none⟩):=by kernel_rfl
 rw[hh] at e5
 show W.cell? ⟨1,0,none⟩=some (.iface 157 (.agg #[.pointer (some ⟨3,111,none⟩)]))
 simpa using World.var?_cell et_named e5 0
theorem relCells_v{w:World}{av:Nat→Prop}{blk:Nat}{cs:Array Value}(hb:∀off,w.cell? ⟨blk,off,none⟩=cs[off]?)(hav:∀k,¬av k):∀(ys:List Value) (off:Nat),cs.toList.drop off=ys→RelCells w av blk off (ys.map .v)
 | [],_,_=>by simp[RelCells]
 | y::ys,off,h=>by
  have h1:cs[off]? = some y:=by
   have:=congrArg List.head? h
   rw[List.head?_drop] at this
   simpa using this
  have h2:cs.toList.drop (off+1)=ys:=by
   rw[←List.drop_drop,h];rfl
  simp only[List.map_cons,RelCells]
  exact⟨⟨hav blk,y,by rw[hb,h1],by simp[RelP]⟩,relCells_v hb hav ys (off+1) h2⟩
theorem rkD_eq:rkindsD=rkCells.map .v:=rfl
theorem kinds_glo{W:World}(h:laidMetH Tryz.prog laid3 W):∀g cs,Γq g=some cs→RelCells W (avs (fun _=>False) (fun _=>none) []) g 0 cs:=by
 intro g cs hg
 unfold Γq at hg
 split at hg
 ·have:=Option.some.inj hg
  subst this
  obtain⟨xs,h1,h2⟩:=rk_cells h
  rw[rkD_eq]
  exact relCells_v (cs:=xs) (fun off=>World.var?_cell rk_named h1 off) av_start _ 0 (by rw[List.drop_zero,h2])
 ·have:=Option.some.inj hg
  subst this
  simp only[RelCells]
  exact⟨⟨av_start _,etCell,et_cell h,by simp[RelP,etCell]⟩,trivial⟩
 ·cases hg
end Go.Vi
