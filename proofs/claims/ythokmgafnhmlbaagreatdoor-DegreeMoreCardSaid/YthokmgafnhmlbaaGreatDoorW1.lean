/- DegreeMore: part of the proof: contracts of the functions that the law reaches, and the law. No conditions beyond the given statement's own. -/
import Derived.Test.YthokmgafnhmlbaaGreatDoorV8
import Derived.Test.YthokmgafnhmlbaaGreatDoorChecked
open Decidable renaming decide → Dd
open Go Go.Proofs
namespace Go.Vi
set_option maxRecDepth 100000
set_option maxHeartbeats 4000000
theorem pok_of {P:Program} (h1:P.follows .mixedOrders=true) (h2:(P.funcs.toList.all fun fn=>!(fn.name == "runtime.NumGoroutine"))=true):POk P where
 mixed:=h1
 plain f fn hf:=by
  have:=List.all_eq_true.1 h2 fn (by rw[←Array.getElem?_toList] at hf;exact List.mem_of_getElem? hf)
  simpa using this
abbrev int(n:Int):D:=lit (.int .i64 n)
abbrev u64(n:Int):D:=lit (.int .u64 n)
abbrev bool(b:Bool):D:=lit (.bool b)
abbrev vi(n:Int):Dp:=.v (.int .i64 n)
abbrev vs(s:ByteArray):Dp:=.v (.string s)
abbrev strD(s:ByteArray):D:=lit (.string s)
abbrev rowsD'(es:List (List Dp)):D:=.p (.sl es)
abbrev ag(r:List Dp):D:=.agg (r.map .p)
abbrev nq:D:=lit (.slice none 0 0)
abbrev fq(k:Nat):D:=lit (.func (.func k) #[] #[])
abbrev Γ0:Glob:=fun _=>none
theorem pok:POk Tryz.prog:=pok_of (by kernel_rfl) (by kernel_rfl)
set_option maxRecDepth 100000
def I64(n:Int):Prop := -9223372036854775808≤n∧n≤9223372036854775807
theorem u64_neg{n:Int}(h:I64 n)(hn:n<0):IntKind.u64.wrap (0 - IntKind.u64.wrap n)=(n.natAbs:Int):=by
 obtain⟨h1,h2⟩:=h
 simp only[IntKind.wrap,IntKind.bits,IntKind.signed,Bool.false_and,Bool.false_eq_true,if_false]
 omega
theorem u64_pos{n:Int}(h:I64 n)(hn:¬n<0):IntKind.u64.wrap n=(n.natAbs:Int):=by
 obtain⟨h1,h2⟩:=h
 simp only[IntKind.wrap,IntKind.bits,IntKind.signed,Bool.false_and,Bool.false_eq_true,if_false]
 omega
theorem size_ev{n:Int}(hn:I64 n)(h:List Blk):Ev Tryz.prog Γ0 98 [int n] h (u64 n.natAbs) h:=by
 by_cases h0:n<0
 ·rw[←u64_neg hn h0]
  exact Ev.sym0 pok (φ:=[Dd (n<0)=true]) [.b true] (by kernel_rfl) ⟨by simpa using h0,trivial⟩ rfl rfl h
 ·rw[←u64_pos hn h0]
  exact Ev.sym0 pok (φ:=[Dd (n<0)=false]) [.b false] (by kernel_rfl) ⟨by simpa using h0,trivial⟩ rfl rfl h
abbrev stepCell:Blk:=.var [.fn (.func 97) [] [.ref (.ptr 0 0)]]
theorem step_ev:∀(y x:Nat),Ev Tryz.prog Γ0 97 [u64 x,u64 y,.ref (.ptr 0 0)] [stepCell] (u64 (Nat.gcd y x)) [stepCell]:=by
 intro y
 induction y using Nat.strongRecOn with
 | _ y ih =>
  intro x
  by_cases h0:y=0
  ·subst h0
   rw[Nat.gcd_zero_left]
   exact Ev.of_sym pok (φ:=[((0:Int)==0)=true]) [.b true] (by kernel_rfl) ⟨by simp,trivial⟩
  ·have hi:=ih (x % y) (Nat.mod_lt _ (by omega)) y
   rw[←Nat.gcd_rec] at hi
   refine Ev.of_sym pok (φ:=[((y:Int)==0)=false,(!Dd ((y:Int)=0))=true,Ev Tryz.prog Γ0 97 [u64 y,u64 ((x:Int).tmod y),.ref (.ptr 0 0)] [stepCell] (u64 (Nat.gcd y x)) [stepCell]]) [.b false,.val (u64 (Nat.gcd y x))] (by kernel_rfl) ⟨?_,?_,?_,trivial⟩
   ·simp;omega
   ·simp;omega
   ·rw[show(x:Int).tmod y=((x % y:Nat):Int) by rw[Int.tmod_eq_emod_of_nonneg (by omega)];simp]
    exact hi
theorem common_ev{a b:Int}(ha:I64 a)(hb:I64 b)(h:List Blk):Ev Tryz.prog Γ0 59 [int a,int b] h (u64 (Nat.gcd b.natAbs a.natAbs)) h :=
 Ev.sym0 pok (φ:=[Ev Tryz.prog Γ0 98 [int a] [stepCell] (u64 a.natAbs) [stepCell],Ev Tryz.prog Γ0 98 [int b] [stepCell] (u64 b.natAbs) [stepCell],
   Ev Tryz.prog Γ0 97 [u64 a.natAbs,u64 b.natAbs,.ref (.ptr 0 0)] [stepCell] (u64 (Nat.gcd b.natAbs a.natAbs)) [stepCell]])
  [.val (u64 a.natAbs),.val (u64 b.natAbs),.val (u64 (Nat.gcd b.natAbs a.natAbs))] (by kernel_rfl) ⟨size_ev ha _,size_ev hb _,step_ev _ _,trivial⟩ rfl rfl h
def badR(n d:Int):Bool:=Dd (d<1)||Dd (d>1073741824)||Dd (n < -1073741824)||Dd (n>1073741824)||(Nat.gcd d.natAbs n.natAbs:Int) != 1
def errR(n d:Int):Int:=if badR n d then 50 else 0
theorem check_ev{n d:Int}(hn:I64 n)(hd:I64 d)(h:List Blk):Ev Tryz.prog Γ0 32 [.agg [int n,int d]] h (int (errR n d)) h:=by
 have hc:=common_ev hn hd [.var [int n,int d]]
 cases hb:badR n d
 ·simp only[errR,hb]
  exact Ev.sym0 pok (φ:=[(!(Dd (d<1)||Dd (d>1073741824)||Dd (n < -1073741824)||Dd (n>1073741824)))=true →
    Ev Tryz.prog Γ0 59 [int n,int d] [.var [int n,int d]] (u64 (Nat.gcd d.natAbs n.natAbs)) [.var [int n,int d]],badR n d=false])
   [.val (u64 (Nat.gcd d.natAbs n.natAbs)),.b false] (by kernel_rfl) ⟨fun _=>hc,hb,trivial⟩ rfl rfl h
 ·simp only[errR,hb]
  exact Ev.sym0 pok (φ:=[(!(Dd (d<1)||Dd (d>1073741824)||Dd (n < -1073741824)||Dd (n>1073741824)))=true →
    Ev Tryz.prog Γ0 59 [int n,int d] [.var [int n,int d]] (u64 (Nat.gcd d.natAbs n.natAbs)) [.var [int n,int d]],badR n d=true])
   [.val (u64 (Nat.gcd d.natAbs n.natAbs)),.b true] (by kernel_rfl) ⟨fun _=>hc,hb,trivial⟩ rfl rfl h
def Short{α:Type}(l:List α):Prop:=l.length≤140737488355328
theorem getD_row{α:Type}{row:α→List Dp}{l:List α}{n:Nat}{a:α}(h:l[n]? = some a):(l.map row).getD n []=row a:=by
 simp[List.getD_eq_getElem?_getD,h]
theorem rowAt{α:Type}{row:α→List Dp}{l:List α}{n:Nat}{a:α}{sz:Nat}(h:l[n]? = some a)(hs:(row a).length=sz):RowAt (n:Int) (l.map row) (row a) sz:=by
 have:=(List.getElem?_eq_some_iff.1 h).1
 refine⟨?_,getD_row h,hs⟩
 simp[inR]
 omega
theorem wrap_succ{i n:Nat}(h:i<n)(hn:n≤140737488355328):IntKind.i64.wrap ((i:Int)+1)=((i+1:Nat):Int):=by
 rw[wrap_i64 (by omega) (by omega)];omega
theorem lt_len{α:Type}(row:α→List Dp){l:List α}{i:Nat}(h:i<l.length):Dd ((i:Int)<((l.map row).length:Int))=true:=by simp;omega
theorem ge_len{α:Type}(row:α→List Dp)(l:List α):Dd ((l.length:Int)<((l.map row).length:Int))=false:=by simp
theorem forL_fold{α σ:Type}(g:σ→α→σ):∀(l:List α) (s:σ),forL (fun a s=>(.inl (g s a):σ⊕Empty)) l s=.inl (l.foldl g s)
 | [],_=>rfl
 | a::l,s=>forL_fold g l (g s a)
def fnv(k:Nat):D:=lit (.func (.func k) #[] #[])
def inB(n a b:Int):Bool:=Dd (n≥a)&&Dd (n≤b)
abbrev inR1(l:List Int):List (List Dp):=l.map fun n=>[vi n]
structure AttT where
 course:Int
 term:Int
 grade:Int
 campus:Int
 credits:Int
 deriving Inhabited
def AttT.row(a:AttT):List Dp:=[vi a.course,vi a.term,vi a.grade,vi a.campus,vi a.credits]
structure ReqT where
 nm:ByteArray
 credits:Int
 grade:Int
 home:Bool
 names:List (List Dp)
 frm:List Int
 deriving Inhabited
def ReqT.row(q:ReqT):List Dp:=[vs q.nm,vi q.credits,vi q.grade,.v (.bool q.home),.sl q.names,.sl (inR1 q.frm)]
structure ProgT where
 nm:ByteArray
 number:Int
 uses:Int
 earn:Int
 num:Int
 den:Int
 reqs:List ReqT
 deriving Inhabited
def ProgT.l(p:ProgT):List D:=[strD p.nm,int p.number,int p.uses,int p.earn,int p.num,int p.den,rowsD' (p.reqs.map ReqT.row)]
structure ReqT.ok (q:ReqT):Prop where
 sf:Short q.frm
structure ProgT.ok (p:ProgT):Prop where
 sr:Short p.reqs
 rq:∀q∈p.reqs,q.ok
 nm:I64 p.num
 dn:I64 p.den
theorem Ev.post{P:Program}{Γ:Glob}{f:FuncId}{args:List D}{h h1 h2:List Blk}{d d2:D}(az:List Ans){φ:List Prop}(hE:Ev P Γ f args h d h1)(hp:pre h {t:=[d],h:=h1,m:=[]} az=some ({t:=[d2],h:=h2,m:=[]},[],φ))(hφ:AllP φ):Ev P Γ f args h d2 h2:=by
 intro O w l vs R ra
 refine CallsIn.mono (hE O w l vs R ra) ?_
 rintro e w' ⟨v,d',h',l',rfl,⟨rfl,rfl⟩,R',E',r'⟩
 obtain⟨l2,R2,E2,r2, -⟩:=pre_ok (Γ:=Γ) (X:={O:=O,w:=w,l:=l,h:=h}) _ _ _ _ _ hp hφ {tmps:=#[v],defers:=[]} w' ⟨l',R',E',⟨r',trivial⟩,rfl⟩
 exact⟨v,d2,h2,l2,rfl,⟨rfl,rfl⟩,R2,E2,r2.1⟩
set_option maxHeartbeats 4000000
def xaF(p:AttT→Bool)(c:AttT)(s:Nat):Nat⊕Nat:=if p c=true then .inr s else .inl (s+1)
abbrev xaS(fs:List (List Dp))(f:D)(h:List Blk)(i:Int):AS:={t:=mkT 19 0 [(0,rowsD' fs),(1,f),(4,int 0),(7,int fs.length),(8,int i)],h:=h,m:=[]}
abbrev xaX(h:List Blk):Nat→Exit×AS:=fun k=>(.ret,{t:=mkT 19 0 [(4,int (k:Int))],h:=h,m:=[]})
theorem xa_body{fs:List (List Dp)}{i:Nat}{c:AttT}{f:D}{h:List Blk}{p:AttT→Bool}(hr:RowAt (i:Int) fs (AttT.row c) 5)(hlt:Dd ((i:Int)<(fs.length:Int))=true)(hw:IntKind.i64.wrap ((i:Int)+1)=((i+1:Nat):Int))(hi:Iv Tryz.prog Γ0 f [ag (AttT.row c)] h (bool (p c)) h):(CW Tryz.prog Γ0 h false (sub Tryz.f133 0) (xaS fs f h i) (bodyFin (fun _=>xaS fs f h ((i+1:Nat):Int)) (xaX h) (xaF p c i)).1 (bodyFin (fun _=>xaS fs f h ((i+1:Nat):Int)) (xaX h) (xaF p c i)).2):=by
 cases hc0:p c
 ·exact CW.cast (CW.symX (s':={t:=mkT 19 0 [(0,rowsD' fs),(1,f),(4,int 0),(7,int (↑(List.length fs):Int)),(8,int (IntKind.wrap IntKind.i64 ((↑i:Int)+1)))],h:=h,m:=[]}) (e:=Exit.normal) pok [.st (.mask [0,1,4,7,8])] [.b true,.row (AttT.row c),.ival (bool (p c)),.b false] (by kernel_rfl) (.c hlt (.c hr (.c (@hi) (.c hc0 .n))))) (by simp[xaF,bodyFin, *]) (by simp[xaF,bodyFin, *])
 ·exact CW.cast (CW.symX (s':={t:=mkT 19 0 [(4,int (↑i:Int))],h:=h,m:=[]}) (e:=Exit.ret) pok [.st (.mask [4])] [.b true,.row (AttT.row c),.ival (bool (p c)),.b true] (by kernel_rfl) (.c hlt (.c hr (.c (@hi) (.c hc0 .n))))) (by simp[xaF,bodyFin, *]) (by simp[xaF,bodyFin, *])
theorem xa_last{fs:List (List Dp)}{i:Nat}{f:D}{h:List Blk}(hlt:Dd ((i:Int)<(fs.length:Int))=false):(CW Tryz.prog Γ0 h false (sub Tryz.f133 0) (xaS fs f h i) (.exit 0) {t:=mkT 19 0 [(4,int 0)],h:=h,m:=[]}):=by
 exact CW.cast (CW.symX (s':={t:=mkT 19 0 [(4,int 0)],h:=h,m:=[]}) (e:=Exit.exit 0) pok [.st (.mask [4])] [.b false] (by kernel_rfl) (.c hlt .n)) (by rfl) (by rfl)
def xaR(p:AttT→Bool)(l:List AttT):Int:=match forL (xaF p) l 0 with | .inl _ => -1 | .inr k=>(k:Int)
def xaFin(h:List Blk)(p:AttT→Bool)(l:List AttT):Exit×AS:=eachFin (.exit 0) (fun _:Nat=>{t:=mkT 19 0 [(4,int 0)],h:=h,m:=[]}) (xaX h) (forL (xaF p) l 0)
theorem xa_cw{l:List AttT}(hl:Short l){f:D}{h:List Blk}{p:AttT→Bool}(hf:∀c∈l,Iv Tryz.prog Γ0 f [ag (AttT.row c)] h (bool (p c)) h):
  CW Tryz.prog Γ0 h false (.loop (sub Tryz.f133 0)) (xaS (l.map AttT.row) f h 0) (xaFin h p l).1 (xaFin h p l).2:=by
 refine CW.each l (xaF p) (fun i _=>xaS (l.map AttT.row) f h (i:Int)) (.exit 0) _ (xaX h) (fun i s=>s=i) (by simp) (fun _=>by simp) ?_ ?_ 0 rfl
 ·intro i c s hc hs
  subst hs
  have hi:=(List.getElem?_eq_some_iff.1 hc).1
  refine⟨fun s' h=>?_,xa_body (rowAt (row:=AttT.row) hc rfl) (lt_len AttT.row hi) (wrap_succ hi hl) (hf c (List.mem_of_getElem? hc))⟩
  unfold xaF at h
  split at h<;>simp at h
  exact h.symm
 ·intro s hs
  exact xa_last (ge_len AttT.row l)
theorem xai_ev{l:List AttT}(hl:Short l){f:D}{h:List Blk}{p:AttT→Bool}(hf:∀c∈l,Iv Tryz.prog Γ0 f [ag (AttT.row c)] h (bool (p c)) h):(Ev Tryz.prog Γ0 133 [rowsD' (l.map AttT.row),f] h (int (xaR p l)) h):=by
 have hl0:=(@xa_cw (l) (hl) (f) (h) (p) (hf))
 unfold xaFin at hl0
 revert hl0
 cases ho1:forL (xaF p) l 0 with
 | inl o1_0_0 =>
  intro hl0
  exact Ev.castH (Ev.of_sym (h':=h) (d:=int (-1)) pok [.sum [0,1,4,7,8] (Exit.exit 0) {t:=mkT 19 0 [(4,int 0)],h:=h,m:=[]}] (by kernel_rfl) (.c hl0 .n)) (by simp[xaR,ho1]) (by simp[])
 | inr o1_1_0 =>
  intro hl0
  exact Ev.castH (Ev.of_sym (h':=h) (d:=int (↑o1_1_0:Int)) pok [.sum [0,1,4,7,8] (Exit.ret) {t:=mkT 19 0 [(4,int (↑o1_1_0:Int))],h:=h,m:=[]}] (by kernel_rfl) (.c hl0 .n)) (by simp[xaR,ho1]) (by simp[])
theorem xaR_ge(p:AttT→Bool)(l:List AttT):Dd (xaR p l≥0)=l.any p:=by
 have key:∀(l:List AttT) (s:Nat),(match forL (xaF p) l s with | .inl _=>false | .inr _=>true)=l.any p:=by
  intro l
  induction l with
  | nil=>intro s;rfl
  | cons c l ih =>
   intro s
   simp only[forL,xaF,List.any_cons]
   by_cases hp:p c=true
   ·simp[hp]
   ·simp only[hp,Bool.false_or]
    exact ih (s+1)
 rw[←key l 0]
 unfold xaR
 cases forL (xaF p) l 0<;>simp
theorem xac_ev{l:List AttT}(hl:Short l){f:D}{h:List Blk}{p:AttT→Bool}(hf:∀c∈l,Iv Tryz.prog Γ0 f [ag (AttT.row c)] h (bool (p c)) h):(Ev Tryz.prog Γ0 100 [rowsD' (l.map AttT.row),f] h (bool (l.any p)) h):=by
 refine Ev.castH (Ev.of_sym (h':=h) (d:=bool (Dd (xaR p l≥0))) pok [.val (int (xaR p l))] (by kernel_rfl) (.c (@xai_ev (l) (hl) (f) (h) (p) (hf)) .n)) ?_ ?_<;>(first|rfl|rw[←xaR_ge])
def xiF(p:Int→Bool)(c:Int)(s:Nat):Nat⊕Nat:=if p c=true then .inr s else .inl (s+1)
abbrev xiS(fs:List (List Dp))(f:D)(h:List Blk)(i:Int):AS:={t:=mkT 19 0 [(0,rowsD' fs),(1,f),(4,int 0),(7,int fs.length),(8,int i)],h:=h,m:=[]}
abbrev xiX(h:List Blk):Nat→Exit×AS:=fun k=>(.ret,{t:=mkT 19 0 [(4,int (k:Int))],h:=h,m:=[]})
theorem xi_body{fs:List (List Dp)}{i:Nat}{c:Int}{f:D}{h:List Blk}{p:Int→Bool}(hr:RowAt (i:Int) fs [vi c] 1)(hlt:Dd ((i:Int)<(fs.length:Int))=true)(hw:IntKind.i64.wrap ((i:Int)+1)=((i+1:Nat):Int))(hi:Iv Tryz.prog Γ0 f [int c] h (bool (p c)) h):(CW Tryz.prog Γ0 h false (sub Tryz.f58 0) (xiS fs f h i) (bodyFin (fun _=>xiS fs f h ((i+1:Nat):Int)) (xiX h) (xiF p c i)).1 (bodyFin (fun _=>xiS fs f h ((i+1:Nat):Int)) (xiX h) (xiF p c i)).2):=by
 cases hc0:p c
 ·exact CW.cast (CW.symX (s':={t:=mkT 19 0 [(0,rowsD' fs),(1,f),(4,int 0),(7,int (↑(List.length fs):Int)),(8,int (IntKind.wrap IntKind.i64 ((↑i:Int)+1)))],h:=h,m:=[]}) (e:=Exit.normal) pok [.st (.mask [0,1,4,7,8])] [.b true,.row [vi c],.ival (bool (p c)),.b false] (by kernel_rfl) (.c hlt (.c hr (.c (@hi) (.c hc0 .n))))) (by simp[xiF,bodyFin, *]) (by simp[xiF,bodyFin, *])
 ·exact CW.cast (CW.symX (s':={t:=mkT 19 0 [(4,int (↑i:Int))],h:=h,m:=[]}) (e:=Exit.ret) pok [.st (.mask [4])] [.b true,.row [vi c],.ival (bool (p c)),.b true] (by kernel_rfl) (.c hlt (.c hr (.c (@hi) (.c hc0 .n))))) (by simp[xiF,bodyFin, *]) (by simp[xiF,bodyFin, *])
theorem xi_last{fs:List (List Dp)}{i:Nat}{f:D}{h:List Blk}(hlt:Dd ((i:Int)<(fs.length:Int))=false):(CW Tryz.prog Γ0 h false (sub Tryz.f58 0) (xiS fs f h i) (.exit 0) {t:=mkT 19 0 [(4,int 0)],h:=h,m:=[]}):=by
 exact CW.cast (CW.symX (s':={t:=mkT 19 0 [(4,int 0)],h:=h,m:=[]}) (e:=Exit.exit 0) pok [.st (.mask [4])] [.b false] (by kernel_rfl) (.c hlt .n)) (by rfl) (by rfl)
def xiR(p:Int→Bool)(l:List Int):Int:=match forL (xiF p) l 0 with | .inl _ => -1 | .inr k=>(k:Int)
def xiFin(h:List Blk)(p:Int→Bool)(l:List Int):Exit×AS:=eachFin (.exit 0) (fun _:Nat=>{t:=mkT 19 0 [(4,int 0)],h:=h,m:=[]}) (xiX h) (forL (xiF p) l 0)
theorem xi_cw{l:List Int}(hl:Short l){f:D}{h:List Blk}{p:Int→Bool}(hf:∀c∈l,Iv Tryz.prog Γ0 f [int c] h (bool (p c)) h):
  CW Tryz.prog Γ0 h false (.loop (sub Tryz.f58 0)) (xiS (l.map (fun n:Int=>[vi n])) f h 0) (xiFin h p l).1 (xiFin h p l).2:=by
 refine CW.each l (xiF p) (fun i _=>xiS (l.map (fun n:Int=>[vi n])) f h (i:Int)) (.exit 0) _ (xiX h) (fun i s=>s=i) (by simp) (fun _=>by simp) ?_ ?_ 0 rfl
 ·intro i c s hc hs
  subst hs
  have hi:=(List.getElem?_eq_some_iff.1 hc).1
  refine⟨fun s' h=>?_,xi_body (rowAt (row:=(fun n:Int=>[vi n])) hc rfl) (lt_len (fun n:Int=>[vi n]) hi) (wrap_succ hi hl) (hf c (List.mem_of_getElem? hc))⟩
  unfold xiF at h
  split at h<;>simp at h
  exact h.symm
 ·intro s hs
  exact xi_last (ge_len (fun n:Int=>[vi n]) l)
theorem xii_ev{l:List Int}(hl:Short l){f:D}{h:List Blk}{p:Int→Bool}(hf:∀c∈l,Iv Tryz.prog Γ0 f [int c] h (bool (p c)) h):(Ev Tryz.prog Γ0 58 [rowsD' (l.map (fun n:Int=>[vi n])),f] h (int (xiR p l)) h):=by
 have hl0:=(@xi_cw (l) (hl) (f) (h) (p) (hf))
 unfold xiFin at hl0
 revert hl0
 cases ho1:forL (xiF p) l 0 with
 | inl o1_0_0 =>
  intro hl0
  exact Ev.castH (Ev.of_sym (h':=h) (d:=int (-1)) pok [.sum [0,1,4,7,8] (Exit.exit 0) {t:=mkT 19 0 [(4,int 0)],h:=h,m:=[]}] (by kernel_rfl) (.c hl0 .n)) (by simp[xiR,ho1]) (by simp[])
 | inr o1_1_0 =>
  intro hl0
  exact Ev.castH (Ev.of_sym (h':=h) (d:=int (↑o1_1_0:Int)) pok [.sum [0,1,4,7,8] (Exit.ret) {t:=mkT 19 0 [(4,int (↑o1_1_0:Int))],h:=h,m:=[]}] (by kernel_rfl) (.c hl0 .n)) (by simp[xiR,ho1]) (by simp[])
theorem xiR_ge(p:Int→Bool)(l:List Int):Dd (xiR p l≥0)=l.any p:=by
 have key:∀(l:List Int) (s:Nat),(match forL (xiF p) l s with | .inl _=>false | .inr _=>true)=l.any p:=by
  intro l
  induction l with
  | nil=>intro s;rfl
  | cons c l ih =>
   intro s
   simp only[forL,xiF,List.any_cons]
   by_cases hp:p c=true
   ·simp[hp]
   ·simp only[hp,Bool.false_or]
    exact ih (s+1)
 rw[←key l 0]
 unfold xiR
 cases forL (xiF p) l 0<;>simp
theorem xic_ev{l:List Int}(hl:Short l){f:D}{h:List Blk}{p:Int→Bool}(hf:∀c∈l,Iv Tryz.prog Γ0 f [int c] h (bool (p c)) h):(Ev Tryz.prog Γ0 30 [rowsD' (l.map (fun n:Int=>[vi n])),f] h (bool (l.any p)) h):=by
 refine Ev.castH (Ev.of_sym (h':=h) (d:=bool (Dd (xiR p l≥0))) pok [.val (int (xiR p l))] (by kernel_rfl) (.c (@xii_ev (l) (hl) (f) (h) (p) (hf)) .n)) ?_ ?_<;>(first|rfl|rw[←xiR_ge])
abbrev ixS(fs:List (List Dp))(v:Int)(i:Int):AS:={t:=mkT 19 0 [(0,rowsD' fs),(1,int v),(4,int 0),(7,int fs.length),(8,int i)],h:=[],m:=[]}
abbrev ixX:Nat→Exit×AS:=fun k=>(.ret,{t:=mkT 19 0 [(4,int (k:Int))],h:=[],m:=[]})
theorem ix_body{fs:List (List Dp)}{i:Nat}{c v:Int}(hr:RowAt (i:Int) fs [vi c] 1)(hlt:Dd ((i:Int)<(fs.length:Int))=true)(hw:IntKind.i64.wrap ((i:Int)+1)=((i+1:Nat):Int)):(CW Tryz.prog Γ0 [] false (sub Tryz.f99 0) (ixS fs v i) (bodyFin (fun _=>ixS fs v ((i+1:Nat):Int)) ixX (xiF (fun c=>v==c) c i)).1 (bodyFin (fun _=>ixS fs v ((i+1:Nat):Int)) ixX (xiF (fun c=>v==c) c i)).2):=by
 cases hc0:v==c
 ·exact CW.cast (CW.symX (s':={t:=mkT 19 0 [(0,rowsD' fs),(1,int v),(4,int 0),(7,int (↑(List.length fs):Int)),(8,int (IntKind.wrap IntKind.i64 ((↑i:Int)+1)))],h:=[],m:=[]}) (e:=Exit.normal) pok [.st (.mask [0,1,4,7,8])] [.b true,.row [vi c],.b false] (by kernel_rfl) (.c hlt (.c hr (.c hc0 .n)))) (by simp only[xiF,hc0,bodyFin];first|done|rfl) (by simp only[xiF,hc0,bodyFin,hw];first|done|rfl)
 ·exact CW.cast (CW.symX (s':={t:=mkT 19 0 [(4,int (↑i:Int))],h:=[],m:=[]}) (e:=Exit.ret) pok [.st (.mask [4])] [.b true,.row [vi c],.b true] (by kernel_rfl) (.c hlt (.c hr (.c hc0 .n)))) (by simp only[xiF,hc0,bodyFin];first|done|rfl) (by simp only[xiF,hc0,bodyFin];first|done|rfl)
theorem ix_last{fs:List (List Dp)}{i:Nat}{v:Int}(hlt:Dd ((i:Int)<(fs.length:Int))=false):(CW Tryz.prog Γ0 [] false (sub Tryz.f99 0) (ixS fs v i) (.exit 0) {t:=mkT 19 0 [(4,int 0)],h:=[],m:=[]}):=by
 exact CW.cast (CW.symX (s':={t:=mkT 19 0 [(4,int 0)],h:=[],m:=[]}) (e:=Exit.exit 0) pok [.st (.mask [4])] [.b false] (by kernel_rfl) (.c hlt .n)) (by rfl) (by rfl)
def ixFin(v:Int)(l:List Int):Exit×AS:=eachFin (.exit 0) (fun _:Nat=>{t:=mkT 19 0 [(4,int 0)],h:=[],m:=[]}) ixX (forL (xiF (fun c=>v==c)) l 0)
theorem ix_cw{l:List Int}(hl:Short l){v:Int}:
  CW Tryz.prog Γ0 [] false (.loop (sub Tryz.f99 0)) (ixS (inR1 l) v 0) (ixFin v l).1 (ixFin v l).2:=by
 refine CW.each l (xiF (fun c=>v==c)) (fun i _=>ixS (inR1 l) v (i:Int)) (.exit 0) _ ixX (fun i s=>s=i) (by simp) (fun _=>by simp) ?_ ?_ 0 rfl
 ·intro i c s hc hs
  subst hs
  have hi:=(List.getElem?_eq_some_iff.1 hc).1
  refine⟨fun s' h=>?_,ix_body (rowAt (row:=fun n:Int=>[vi n]) hc rfl) (lt_len (fun n:Int=>[vi n]) hi) (wrap_succ hi hl)⟩
  unfold xiF at h
  split at h<;>simp at h
  exact h.symm
 ·intro s hs
  exact ix_last (ge_len (fun n:Int=>[vi n]) l)
theorem index_ev{l:List Int}(hl:Short l){v:Int}(h:List Blk):(Ev Tryz.prog Γ0 99 [rowsD' (inR1 l),int v] h (int (xiR (fun c=>v==c) l)) h):=by
 have hl0:=(@ix_cw (l) (hl) (v))
 unfold ixFin at hl0
 revert hl0
 cases ho1:forL (xiF fun c=>v==c) l 0 with
 | inl o1_0_0 =>
  intro hl0
  exact Ev.castH (Ev.sym0 (d:=int (-1)) pok [.sum [0,1,4,7,8] (Exit.exit 0) {t:=mkT 19 0 [(4,int 0)],h:=[],m:=[]}] (by kernel_rfl) (.c hl0 .n) rfl rfl h) (by simp[xiR,ho1]) (by rfl)
 | inr o1_1_0 =>
  intro hl0
  exact Ev.castH (Ev.sym0 (d:=int (↑o1_1_0:Int)) pok [.sum [0,1,4,7,8] (Exit.ret) {t:=mkT 19 0 [(4,int (↑o1_1_0:Int))],h:=[],m:=[]}] (by kernel_rfl) (.c hl0 .n) rfl rfl h) (by simp[xiR,ho1]) (by rfl)
theorem any_cont(l:List Int)(v:Int):l.any (fun c=>v==c)=l.contains v:=by
 induction l with
 | nil=>rfl
 | cons a l ih=>rw[List.any_cons,List.contains_cons,ih]
theorem contains_a{l:List Int}(hl:Short l){v:Int}(h:List Blk):(Ev Tryz.prog Γ0 62 [rowsD' (inR1 l),int v] h (bool (Dd (xiR (fun c=>v==c) l≥0))) h):=by
 exact Ev.castH (Ev.sym0 (d:=bool (Dd (xiR (fun c=>v==c) l≥0))) pok [.val (int (xiR (fun c=>v==c) l))] (by kernel_rfl) (.c (@index_ev (l) (hl) (v) ([])) .n) rfl rfl h) (by rfl) (by rfl)
theorem contains_ev{l:List Int}(hl:Short l){v:Int}(h:List Blk):Ev Tryz.prog Γ0 62 [rowsD' (inR1 l),int v] h (bool (l.contains v)) h:=by rw[←any_cont,←xiR_ge];exact contains_a hl h
theorem dw_ev{n a b:Int}(h:List Blk):(Ev Tryz.prog Γ0 29 [int n,int a,int b] h (bool (inB n a b)) h):=by
 exact Ev.castH (Ev.sym0 (d:=bool (Dd (a≤n)&&Dd (n≤b))) pok [] (by kernel_rfl) .n rfl rfl h) (by rfl) (by rfl)
theorem nfar_ev{c:Int}(h:List Blk):(Ev Tryz.prog Γ0 31 [int c] h (bool (!inB c 0 4095)) h):=by
 exact Ev.castH (Ev.sym0 (d:=bool !inB c 0 4095) pok [.val (bool (inB c 0 4095))] (by kernel_rfl) (.c (@dw_ev (c) (0) (4095) ([])) .n) rfl rfl h) (by rfl) (by rfl)
theorem nfar_iv{l:List Int}(h:List Blk):∀c∈l,Iv Tryz.prog Γ0 (.p (.v (.func (.func 31) #[] #[]))) [int c] h (bool (!inB c 0 4095)) h:=fun c _=>Iv.of (f:=31) (fi:=[]) (ca:=[]) pok (by kernel_rfl) (by kernel_rfl) (nfar_ev h)
def reqB(q:ReqT):Bool:=inB q.credits 1 10000&&inB q.grade 0 12&&!(q.frm.any fun c=>!inB c 0 4095)
noncomputable abbrev good_a_x0(q:ReqT):List Blk:=[.var [strD q.nm,int q.credits,int q.grade,bool q.home,rowsD' q.names,rowsD' (inR1 q.frm)]]
theorem good_a{q:ReqT}(hq:Short q.frm)(hf:∀c∈q.frm,Iv Tryz.prog Γ0 (.p (.v (.func (.func 31) #[] #[]))) [int c] [.var (q.row.map .p)] (bool (!inB c 0 4095)) [.var (q.row.map .p)])(h:List Blk):(Ev Tryz.prog Γ0 28 [ag q.row] h (bool (reqB q)) h):=by
 exact Ev.castH (Ev.sym0 (d:=bool (inB q.credits 1 10000&&inB q.grade 0 12&&!List.any q.frm fun c=>!inB c 0 4095)) pok [.val (bool (inB q.credits 1 10000)),.val (bool (inB q.grade 0 12)),.val (bool (List.any q.frm fun c=>!inB c 0 4095))] (by kernel_rfl) (.c (@dw_ev (q.credits) (1) (10000) ((good_a_x0 q))) (.c (show inB q.credits 1 10000=true→Ev Tryz.prog Γ0 29 [int q.grade,int 0,int 12] (good_a_x0 q) (bool (inB q.grade 0 12)) (good_a_x0 q) from(fun hg=>(@dw_ev (q.grade) (0) (12) ((good_a_x0 q))))) (.c (show(inB q.credits 1 10000&&inB q.grade 0 12)=true→Ev Tryz.prog Γ0 30 [rowsD' (inR1 q.frm),fq 31] (good_a_x0 q) (bool (List.any q.frm fun c=>!inB c 0 4095)) (good_a_x0 q) from(fun hg=>(@xic_ev (q.frm) (hq) (fq 31) ((good_a_x0 q)) (fun c=>!inB c 0 4095) (hf)))) .n))) rfl rfl h) (by rfl) (by rfl)
theorem good_ev{q:ReqT}(hq:Short q.frm)(h:List Blk):Ev Tryz.prog Γ0 28 [ag q.row] h (bool (reqB q)) h:=good_a hq (nfar_iv _) h
theorem bn_t{b:Bool}(h:(!b)=false):b=true:=by cases b<;>simp_all
theorem bn_f{b:Bool}(h:(!b)=true):b=false:=by cases b<;>simp_all
abbrev ckS(p:ProgT)(i:Int):AS:={t:=mkT 57 0 [(2,int 0),(3,fnv 28),(46,rowsD' (p.reqs.map ReqT.row)),(47,int ((p.reqs.map ReqT.row).length:Int)),(48,int i)],h:=[.var p.l],m:=[]}
abbrev ckE(p:ProgT):AS:={t:=mkT 57 0 [],h:=[.var p.l],m:=[]}
abbrev ckX(p:ProgT):Unit→Exit×AS:=fun _=>(.ret,{t:=mkT 57 0 [(2,int 190)],h:=[.var p.l],m:=[]})
def ckF(q:ReqT)(_:Unit):Unit⊕Unit:=bif reqB q then .inl () else .inr ()
noncomputable abbrev ck_body_x0(p:ProgT)(q:ReqT):List Blk:=[.var [strD p.nm,int p.number,int p.uses,int p.earn,int p.num,int p.den,rowsD' (List.map ReqT.row p.reqs)],.var [strD q.nm,int q.credits,int q.grade,bool q.home,rowsD' q.names,rowsD' (inR1 q.frm)]]
theorem ck_body{p:ProgT}{q:ReqT}{i:Nat}(hr:RowAt (i:Int) (p.reqs.map ReqT.row) q.row 6)(hlt:Dd ((i:Int)<((p.reqs.map ReqT.row).length:Int))=true)(hw:IntKind.i64.wrap ((i:Int)+1)=((i+1:Nat):Int))(hq:Short q.frm):(CW Tryz.prog Γ0 [] false (sub Tryz.f11 0) (ckS p i) (bodyFin (fun _:Unit=>ckS p ((i+1:Nat):Int)) (ckX p) (ckF q ())).1 (bodyFin (fun _:Unit=>ckS p ((i+1:Nat):Int)) (ckX p) (ckF q ())).2):=by
 cases hc0:!reqB q
 ·exact CW.cast (CW.symX (s':={t:=mkT 57 0 [(2,int 0),(3,fq 28),(46,rowsD' (List.map ReqT.row p.reqs)),(47,int (↑(List.length (List.map ReqT.row p.reqs)):Int)),(48,int (IntKind.wrap IntKind.i64 ((↑i:Int)+1)))],h:=[.var [strD p.nm,int p.number,int p.uses,int p.earn,int p.num,int p.den,rowsD' (List.map ReqT.row p.reqs)]],m:=[]}) (e:=Exit.normal) pok [.st (.mask [2,3,46,47,48]),.st (.trim 1)] [.b true,.row [vs q.nm,vi q.credits,vi q.grade,Dp.v (Value.bool q.home),Dp.sl q.names,Dp.sl (inR1 q.frm)],.val (bool (reqB q)),.b false] (by kernel_rfl) (.c hlt (.c hr (.c (@good_ev (q) (hq) ((ck_body_x0 p q))) (.c hc0 .n))))) (by first|(have hh:reqB q=true:=bn_t hc0;simp only[ckF,hh,cond_true,bodyFin];first|done|rfl)|(have hh:reqB q=false:=bn_f hc0;simp only[ckF,hh,cond_false,bodyFin];first|done|rfl)) (by first|(have hh:reqB q=true:=bn_t hc0;simp only[ckF,hh,cond_true,bodyFin,hw];first|done|rfl)|(have hh:reqB q=false:=bn_f hc0;simp only[ckF,hh,cond_false,bodyFin];first|done|rfl))
 ·refine CW.cast (CW.symX (s':={t:=mkT 57 0 [(2,int 190)],h:=[.var [strD p.nm,int p.number,int p.uses,int p.earn,int p.num,int p.den,rowsD' (List.map ReqT.row p.reqs)]],m:=[]}) (e:=Exit.ret) pok [.st (.mask [2]),.st (.trim 1)] [.b true,.row [vs q.nm,vi q.credits,vi q.grade,Dp.v (Value.bool q.home),Dp.sl q.names,Dp.sl (inR1 q.frm)],.val (bool (reqB q)),.b true] (by kernel_rfl) (.c hlt (.c hr (.c (@good_ev (q) (hq) ((ck_body_x0 p q))) (.c hc0 .n))))) ?_ ?_<;>(first|(have hh:reqB q=true:=bn_t hc0;simp only[ckF,hh,cond_true,bodyFin,hw];first|done|rfl)|(have hh:reqB q=false:=bn_f hc0;simp only[ckF,hh,cond_false,bodyFin];first|done|rfl))
theorem ck_last{p:ProgT}{i:Nat}(hlt:Dd ((i:Int)<((p.reqs.map ReqT.row).length:Int))=false):(CW Tryz.prog Γ0 [] false (sub Tryz.f11 0) (ckS p i) (.exit 0) (ckE p)):=by
 exact CW.cast (CW.symX (s':={t:=mkT 57 0 [],h:=[.var [strD p.nm,int p.number,int p.uses,int p.earn,int p.num,int p.den,rowsD' (List.map ReqT.row p.reqs)]],m:=[]}) (e:=Exit.exit 0) pok [.st (.mask [])] [.b false] (by kernel_rfl) (.c hlt .n)) (by rfl) (by rfl)
def ckFin(p:ProgT):Exit×AS:=eachFin (.exit 0) (fun _:Unit=>ckE p) (ckX p) (forL ckF p.reqs ())
theorem ck_cw{p:ProgT}(hp:p.ok):CW Tryz.prog Γ0 [] false (.loop (sub Tryz.f11 0)) (ckS p 0) (ckFin p).1 (ckFin p).2:=by
 refine CW.each p.reqs ckF (fun i _=>ckS p (i:Int)) (.exit 0) (fun _=>ckE p) (ckX p) (fun _ _=>True) (by simp) (fun _=>by simp[]) ?_ ?_ () trivial
 ·intro i q _ hc _
  have hi:=(List.getElem?_eq_some_iff.1 hc).1
  exact⟨fun _ _=>trivial,ck_body (rowAt hc rfl) (lt_len ReqT.row hi) (wrap_succ hi hp.sr) (hp.rq q (List.mem_of_getElem? hc)).sf⟩
 ·intro _ _
  exact ck_last (ge_len ReqT.row p.reqs)
def pHead(p:ProgT):Bool:=!inB p.number 0 255||!inB p.uses 1 4||!inB p.earn 0 10000||(errR p.num p.den != 0)||!inB p.num 0 (IntKind.i64.wrap (12*p.den))||Dd (((p.reqs.map ReqT.row).length:Int)>64)
def pErr(p:ProgT):Int:=bif pHead p then 190 else match forL ckF p.reqs () with | .inl _=>0 | .inr _=>190
noncomputable abbrev dcheck_ev_x0(p:ProgT):List Blk:=[.var [strD p.nm,int p.number,int p.uses,int p.earn,int p.num,int p.den,rowsD' (List.map ReqT.row p.reqs)]]
noncomputable abbrev dcheck_ev_x1(p:ProgT):List D:=[int p.num,int 0,int (IntKind.wrap IntKind.i64 (12*p.den))]
theorem dcheck_ev{p:ProgT}(hp:p.ok)(hn:I64 p.num)(hd:I64 p.den)(h:List Blk):(Ev Tryz.prog Γ0 11 [.agg p.l] h (int (pErr p)) h):=by
 cases hc0:!inB p.number 0 255||!inB p.uses 1 4||!inB p.earn 0 10000||errR p.num p.den != 0||!inB p.num 0 (IntKind.wrap IntKind.i64 (12*p.den))||Dd ((↑(List.length (List.map ReqT.row p.reqs)):Int)>64)
 ·have hl1:=(@ck_cw (p) (hp))
  unfold ckFin at hl1
  revert hl1
  cases ho2:forL ckF p.reqs () with
  | inl o2_0_0 =>
   intro hl1
   exact Ev.castH (Ev.sym0 (d:=int 0) pok [.val (bool (inB p.number 0 255)),.val (bool (inB p.uses 1 4)),.val (bool (inB p.earn 0 10000)),.val (int (errR p.num p.den)),.val (bool (inB p.num 0 (IntKind.wrap IntKind.i64 (12*p.den)))),.b false,.sum [2,3,46,47,48] (Exit.exit 0) {t:=mkT 57 0 [],h:=(dcheck_ev_x0 p),m:=[]}] (by kernel_rfl) (.c (@dw_ev (p.number) (0) (255) ((dcheck_ev_x0 p))) (.c (show(!!inB p.number 0 255)=true→Ev Tryz.prog Γ0 29 [int p.uses,int 1,int 4] (dcheck_ev_x0 p) (bool (inB p.uses 1 4)) (dcheck_ev_x0 p) from(fun hg=>(@dw_ev (p.uses) (1) (4) ((dcheck_ev_x0 p))))) (.c (show(!(!inB p.number 0 255||!inB p.uses 1 4))=true→Ev Tryz.prog Γ0 29 [int p.earn,int 0,int 10000] (dcheck_ev_x0 p) (bool (inB p.earn 0 10000)) (dcheck_ev_x0 p) from(fun hg=>(@dw_ev (p.earn) (0) (10000) ((dcheck_ev_x0 p))))) (.c (show(!(!inB p.number 0 255||!inB p.uses 1 4||!inB p.earn 0 10000))=true→Ev Tryz.prog Γ0 32 [D.agg [int p.num,int p.den]] (dcheck_ev_x0 p) (int (errR p.num p.den)) (dcheck_ev_x0 p) from(fun hg=>(@check_ev (p.num) (p.den) (hn) (hd) ((dcheck_ev_x0 p))))) (.c (show(!(!inB p.number 0 255||!inB p.uses 1 4||!inB p.earn 0 10000||errR p.num p.den != 0))=true→Ev Tryz.prog Γ0 29 (dcheck_ev_x1 p) (dcheck_ev_x0 p) (bool (inB p.num 0 (IntKind.wrap IntKind.i64 (12*p.den)))) (dcheck_ev_x0 p) from(fun hg=>(@dw_ev (p.num) (0) (IntKind.wrap IntKind.i64 (12*p.den)) ((dcheck_ev_x0 p))))) (.c hc0 (.c hl1 .n))))))) rfl rfl h) (by first|(have hh:pHead p=true:=hc0;simp only[pErr,hh,cond_true];done)|(have hh:pHead p=false:=hc0;simp only[pErr,hh,cond_false,ho2];done)) (by rfl)
  | inr o2_1_0 =>
   intro hl1
   exact Ev.castH (Ev.sym0 (d:=int 190) pok [.val (bool (inB p.number 0 255)),.val (bool (inB p.uses 1 4)),.val (bool (inB p.earn 0 10000)),.val (int (errR p.num p.den)),.val (bool (inB p.num 0 (IntKind.wrap IntKind.i64 (12*p.den)))),.b false,.sum [2,3,46,47,48] (Exit.ret) {t:=mkT 57 0 [(2,int 190)],h:=(dcheck_ev_x0 p),m:=[]}] (by kernel_rfl) (.c (@dw_ev (p.number) (0) (255) ((dcheck_ev_x0 p))) (.c (show(!!inB p.number 0 255)=true→Ev Tryz.prog Γ0 29 [int p.uses,int 1,int 4] (dcheck_ev_x0 p) (bool (inB p.uses 1 4)) (dcheck_ev_x0 p) from(fun hg=>(@dw_ev (p.uses) (1) (4) ((dcheck_ev_x0 p))))) (.c (show(!(!inB p.number 0 255||!inB p.uses 1 4))=true→Ev Tryz.prog Γ0 29 [int p.earn,int 0,int 10000] (dcheck_ev_x0 p) (bool (inB p.earn 0 10000)) (dcheck_ev_x0 p) from(fun hg=>(@dw_ev (p.earn) (0) (10000) ((dcheck_ev_x0 p))))) (.c (show(!(!inB p.number 0 255||!inB p.uses 1 4||!inB p.earn 0 10000))=true→Ev Tryz.prog Γ0 32 [D.agg [int p.num,int p.den]] (dcheck_ev_x0 p) (int (errR p.num p.den)) (dcheck_ev_x0 p) from(fun hg=>(@check_ev (p.num) (p.den) (hn) (hd) ((dcheck_ev_x0 p))))) (.c (show(!(!inB p.number 0 255||!inB p.uses 1 4||!inB p.earn 0 10000||errR p.num p.den != 0))=true→Ev Tryz.prog Γ0 29 (dcheck_ev_x1 p) (dcheck_ev_x0 p) (bool (inB p.num 0 (IntKind.wrap IntKind.i64 (12*p.den)))) (dcheck_ev_x0 p) from(fun hg=>(@dw_ev (p.num) (0) (IntKind.wrap IntKind.i64 (12*p.den)) ((dcheck_ev_x0 p))))) (.c hc0 (.c hl1 .n))))))) rfl rfl h) (by first|(have hh:pHead p=true:=hc0;simp only[pErr,hh,cond_true];done)|(have hh:pHead p=false:=hc0;simp only[pErr,hh,cond_false,ho2];done)) (by rfl)
 ·exact Ev.castH (Ev.sym0 (d:=int 190) pok [.val (bool (inB p.number 0 255)),.val (bool (inB p.uses 1 4)),.val (bool (inB p.earn 0 10000)),.val (int (errR p.num p.den)),.val (bool (inB p.num 0 (IntKind.wrap IntKind.i64 (12*p.den)))),.b true] (by kernel_rfl) (.c (@dw_ev (p.number) (0) (255) ((dcheck_ev_x0 p))) (.c (show(!!inB p.number 0 255)=true→Ev Tryz.prog Γ0 29 [int p.uses,int 1,int 4] (dcheck_ev_x0 p) (bool (inB p.uses 1 4)) (dcheck_ev_x0 p) from(fun hg=>(@dw_ev (p.uses) (1) (4) ((dcheck_ev_x0 p))))) (.c (show(!(!inB p.number 0 255||!inB p.uses 1 4))=true→Ev Tryz.prog Γ0 29 [int p.earn,int 0,int 10000] (dcheck_ev_x0 p) (bool (inB p.earn 0 10000)) (dcheck_ev_x0 p) from(fun hg=>(@dw_ev (p.earn) (0) (10000) ((dcheck_ev_x0 p))))) (.c (show(!(!inB p.number 0 255||!inB p.uses 1 4||!inB p.earn 0 10000))=true→Ev Tryz.prog Γ0 32 [D.agg [int p.num,int p.den]] (dcheck_ev_x0 p) (int (errR p.num p.den)) (dcheck_ev_x0 p) from(fun hg=>(@check_ev (p.num) (p.den) (hn) (hd) ((dcheck_ev_x0 p))))) (.c (show(!(!inB p.number 0 255||!inB p.uses 1 4||!inB p.earn 0 10000||errR p.num p.den != 0))=true→Ev Tryz.prog Γ0 29 (dcheck_ev_x1 p) (dcheck_ev_x0 p) (bool (inB p.num 0 (IntKind.wrap IntKind.i64 (12*p.den)))) (dcheck_ev_x0 p) from(fun hg=>(@dw_ev (p.num) (0) (IntKind.wrap IntKind.i64 (12*p.den)) ((dcheck_ev_x0 p))))) (.c hc0 .n)))))) rfl rfl h) (by first|(have hh:pHead p=true:=hc0;simp only[pErr,hh,cond_true];done)|(have hh:pHead p=false:=hc0;simp only[pErr,hh,cond_false,hc0];done)) (by rfl)
def elB(q:ReqT)(a:AttT):Bool:=Dd (a.grade≥q.grade)&&(!q.home||a.campus==0)&&q.frm.contains a.course
noncomputable abbrev elig_ev_x0(q:ReqT)(a:AttT):List Blk:=[.var [strD q.nm,int q.credits,int q.grade,bool q.home,rowsD' q.names,rowsD' (inR1 q.frm)],.var [int a.course,int a.term,int a.grade,int a.campus,int a.credits]]
theorem elig_ev{q:ReqT}{a:AttT}(hq:Short q.frm)(h:List Blk):(Ev Tryz.prog Γ0 34 [ag q.row,ag a.row] h (bool (elB q a)) h):=by
 exact Ev.castH (Ev.sym0 (d:=bool (Dd (a.grade≥q.grade)&&(!q.home||a.campus==0)&&List.contains q.frm a.course)) pok [.val (bool (List.contains q.frm a.course))] (by kernel_rfl) (.c (show(Dd (a.grade≥q.grade)&&(!q.home||a.campus==0))=true→Ev Tryz.prog Γ0 62 [rowsD' (inR1 q.frm),int a.course] (elig_ev_x0 q a) (bool (List.contains q.frm a.course)) (elig_ev_x0 q a) from(fun hg=>(@contains_ev (q.frm) (hq) (a.course) ((elig_ev_x0 q a))))) .n) rfl rfl h) (by rfl) (by rfl)
def elF(a:AttT)(s:List Int×Int)(q:ReqT):List Int×Int:=(bif elB q a then s.1++[s.2] else s.1,s.2+1)
def elR(p:ProgT)(a:AttT):List Int:=(p.reqs.foldl (elF a) ([],0)).1
def vecI(l:List Int):List (List D):=l.map fun n=>[int n]
theorem vecI_app(l:List Int)(n:Int):vecI l++[[int n]]=vecI (l++[n]):=by simp[vecI]
theorem vecI_len(l:List Int):(vecI l).length=l.length:=by simp[vecI]
theorem vecI_map(f:Ref→D)(l:List Int):(vecI l).map (D.mapRL f)=vecI l:=by simp[vecI,D.mapRL,D.mapR]
theorem vecI_inn(n:Nat)(l:List Int):(vecI l).all (D.innL n)=true:=by simp[vecI,D.innL,D.inn]
theorem vecI_frz(l:List Int):vecI l=(inR1 l).map (·.map .p):=by simp[vecI]
abbrev egS(p:ProgT)(a:AttT)(l:List Int)(i:Int):AS:={t:=mkT 24 0 [(3,.ref (.ptr 1 0)),(4,.ref (.vec 2 0)),(8,rowsD' (p.reqs.map ReqT.row)),(9,int ((p.reqs.map ReqT.row).length:Int)),(10,int i)],h:=[.var p.l,.var (a.row.map .p),.vec (vecI l) 0 1],m:=[]}
abbrev egE(p:ProgT)(a:AttT)(l:List Int):AS:={t:=mkT 24 0 [(4,.ref (.vec 2 0))],h:=[.var p.l,.var (a.row.map .p),.vec (vecI l) 0 1],m:=[]}
noncomputable abbrev eg_body_x0(p:ProgT)(a:AttT)(q:ReqT)(l:List Int):List Blk:=[.var [strD p.nm,int p.number,int p.uses,int p.earn,int p.num,int p.den,rowsD' (List.map ReqT.row p.reqs)],.var [int a.course,int a.term,int a.grade,int a.campus,int a.credits],.vec (vecI l) 0 1,.var [strD q.nm,int q.credits,int q.grade,bool q.home,rowsD' q.names,rowsD' (inR1 q.frm)]]
theorem eg_body{p:ProgT}{a:AttT}{q:ReqT}{l:List Int}{i:Nat}(hr:RowAt (i:Int) (p.reqs.map ReqT.row) q.row 6)(hlt:Dd ((i:Int)<((p.reqs.map ReqT.row).length:Int))=true)(hw:IntKind.i64.wrap ((i:Int)+1)=((i+1:Nat):Int))(hq:Short q.frm)(hl:l.length≤1000000):(CW Tryz.prog Γ0 [] false (sub Tryz.f14 0) (egS p a l i) .normal (egS p a (elF a (l,(i:Int)) q).1 ((i+1:Nat):Int))):=by
 cases hc0:elB q a
 ·refine CW.cast (CW.symX (s':={t:=mkT 24 0 [(3,.ref (.ptr 1 0)),(4,.ref (.vec 2 0)),(8,rowsD' (List.map ReqT.row p.reqs)),(9,int (↑(List.length (List.map ReqT.row p.reqs)):Int)),(10,int (IntKind.wrap IntKind.i64 ((↑i:Int)+1)))],h:=[.var [strD p.nm,int p.number,int p.uses,int p.earn,int p.num,int p.den,rowsD' (List.map ReqT.row p.reqs)],.var [int a.course,int a.term,int a.grade,int a.campus,int a.credits],.vec (vecI l) 0 1],m:=[]}) (e:=Exit.normal) pok [.st (.mask [3,4,8,9,10]),.st (.ren 2 0),.st (.trimV 3)] [.b true,.row [vs q.nm,vi q.credits,vi q.grade,Dp.v (Value.bool q.home),Dp.sl q.names,Dp.sl (inR1 q.frm)],.val (bool (elB q a)),.b false] (by kernel_rfl) (.c hlt (.c hr (.c (@elig_ev (q) (a) (hq) ((eg_body_x0 p a q l))) (.c hc0 (.c (show List.map (D.mapRL (renR 2 0 0)) (vecI l)=vecI l from ?_) (.c (show Blk.inn 3 (match 0==2 with|true=>.vec (vecI l) 0 1|false=>keepX (renR 2 0 0) (.var [strD p.nm,int p.number,int p.uses,int p.earn,int p.num,int p.den,rowsD' (List.map ReqT.row p.reqs)]))=true from rfl) (.c (show Blk.inn 3 (match 0+1==2 with|true=>.vec (vecI l) 0 1|false=>keepX (renR 2 0 0) (.var [int a.course,int a.term,int a.grade,int a.campus,int a.credits]))=true from rfl) (.c (show Blk.inn 3 (match 0+1+1==2 with|true=>.vec (vecI l) 0 1|false=>keepX (renR 2 0 0) (.vec (vecI l) 0 1))=true from ?_) .n))))))))) (by simp only[];first|done|rfl|(rw[vecI_app];rfl)) (by simp only[elF,hc0,cond_false,hw];first|done|rfl|(rw[vecI_app];rfl))<;>(first|assumption|rfl|exact vecI_map _ _|exact vecI_inn _ _|(rw[vecI_app];exact vecI_map _ _)|(rw[vecI_app];exact vecI_inn _ _)|(simp[rowOk,D.one,Value.oneCell',roomOk,vecI_len];omega))
 ·refine CW.cast (CW.symX (s':={t:=mkT 24 0 [(3,.ref (.ptr 1 0)),(4,.ref (.vec 2 0)),(8,rowsD' (List.map ReqT.row p.reqs)),(9,int (↑(List.length (List.map ReqT.row p.reqs)):Int)),(10,int (IntKind.wrap IntKind.i64 ((↑i:Int)+1)))],h:=[.var [strD p.nm,int p.number,int p.uses,int p.earn,int p.num,int p.den,rowsD' (List.map ReqT.row p.reqs)],.var [int a.course,int a.term,int a.grade,int a.campus,int a.credits],.vec (vecI l++[[int (↑i:Int)]]) 0 1],m:=[]}) (e:=Exit.normal) pok [.st (.mask [3,4,8,9,10]),.st (.ren 2 0),.st (.trimV 3)] [.b true,.row [vs q.nm,vi q.credits,vi q.grade,Dp.v (Value.bool q.home),Dp.sl q.names,Dp.sl (inR1 q.frm)],.val (bool (elB q a)),.b true] (by kernel_rfl) (.c hlt (.c hr (.c (@elig_ev (q) (a) (hq) ((eg_body_x0 p a q l))) (.c hc0 (.c (show(List.all [[int (↑i:Int)]] (rowOk 1)&&roomOk (List.length (vecI l)+List.length [[int (↑i:Int)]]) 8)=true from ?_) (.c (show List.map (D.mapRL (renR 2 1 0)) (vecI l++[[int (↑i:Int)]])=vecI l++[[int (↑i:Int)]] from ?_) (.c (show [[int (↑i:Int)]]=[[int (↑i:Int)]] from rfl) (.c (show Blk.inn 3 (match 0==2 with|true=>.vec (vecI l++[[int (↑i:Int)]]) 0 1|false=>keepX (renR 2 1 0) (.var [strD p.nm,int p.number,int p.uses,int p.earn,int p.num,int p.den,rowsD' (List.map ReqT.row p.reqs)]))=true from rfl) (.c (show Blk.inn 3 (match 0+1==2 with|true=>.vec (vecI l++[[int (↑i:Int)]]) 0 1|false=>keepX (renR 2 1 0) (.var [int a.course,int a.term,int a.grade,int a.campus,int a.credits]))=true from rfl) (.c (show Blk.inn 3 (match 0+1+1==2 with|true=>.vec (vecI l++[[int (↑i:Int)]]) 0 1|false=>keepX (renR 2 1 0) (.vec (vecI l++[[int (↑i:Int)]]) 1 1))=true from ?_) .n))))))))))) (by simp only[];first|done|rfl|(rw[vecI_app];rfl)) (by simp only[elF,hc0,cond_true,hw];first|done|rfl|(rw[vecI_app];rfl))<;>(first|assumption|rfl|exact vecI_map _ _|exact vecI_inn _ _|(rw[vecI_app];exact vecI_map _ _)|(rw[vecI_app];exact vecI_inn _ _)|(simp[rowOk,D.one,Value.oneCell',roomOk,vecI_len];omega))
theorem eg_last{p:ProgT}{a:AttT}{l:List Int}{i:Nat}(hlt:Dd ((i:Int)<((p.reqs.map ReqT.row).length:Int))=false):(CW Tryz.prog Γ0 [] false (sub Tryz.f14 0) (egS p a l i) (.exit 0) (egE p a l)):=by
 exact CW.cast (CW.symX (s':={t:=mkT 24 0 [(4,.ref (.vec 2 0))],h:=[.var [strD p.nm,int p.number,int p.uses,int p.earn,int p.num,int p.den,rowsD' (List.map ReqT.row p.reqs)],.var [int a.course,int a.term,int a.grade,int a.campus,int a.credits],.vec (vecI l) 0 1],m:=[]}) (e:=Exit.exit 0) pok [.st (.mask [4])] [.b false] (by kernel_rfl) (.c hlt .n)) (by rfl) (by rfl)
theorem elF_fold{a:AttT}:∀(l:List ReqT) (s:List Int×Int),(l.foldl (elF a) s).1.length≤s.1.length+l.length
 | [],s=>by simp
 | q::l,s=>by
  have:=elF_fold (a:=a) l (elF a s q)
  have h2:(elF a s q).1.length≤s.1.length+1:=by unfold elF;cases elB q a<;>simp
  simp only[List.foldl_cons,List.length_cons];omega
theorem eg_cw{p:ProgT}(hp:p.ok)(hn:p.reqs.length≤1000){a:AttT}:CW Tryz.prog Γ0 [] false (.loop (sub Tryz.f14 0)) {t:=mkT 24 0 [(3,.ref (.ptr 1 0)),(4,.ref (.vec 2 0)),(8,rowsD' (p.reqs.map ReqT.row)),(9,int ((p.reqs.map ReqT.row).length:Int)),(10,int 0)],h:=[.var p.l,.var (a.row.map .p),.vec [] 0 1],m:=[]} (.exit 0) (egE p a (elR p a)):=by
 have:=CW.each (P:=Tryz.prog) (Γ:=Γ0) (h0:=[]) (rd:=false) (c:=sub Tryz.f14 0) (σ:=List Int×Int) (ρ:=Empty) p.reqs (fun q s=>.inl (elF a s q))
  (fun i s=>egS p a s.1 (i:Int)) (.exit 0) (fun s=>egE p a s.1) (fun r=>r.elim) (fun i s=>s.2=i∧s.1.length≤i) (by simp) (fun r=>r.elim) ?_ ?_ ([],0) (by simp)
 ·rw[forL_fold] at this
  exact this
 ·rintro i q ⟨l,k⟩ hc ⟨hk,hl⟩
  simp only at hk hl
  subst hk
  have hi:=(List.getElem?_eq_some_iff.1 hc).1
  refine⟨fun s' h=>?_,eg_body (rowAt hc rfl) (lt_len ReqT.row hi) (wrap_succ hi hp.sr) (hp.rq q (List.mem_of_getElem? hc)).sf (show l.length≤1000000 by omega)⟩
  cases h
  unfold elF
  refine⟨by simp,?_⟩
  cases elB q a<;>simp<;>omega
 ·intro s _
  exact eg_last (ge_len ReqT.row p.reqs)
theorem eligible_ev{p:ProgT}(hp:p.ok)(hn:p.reqs.length≤1000){a:AttT}(h:List Blk):(Ev Tryz.prog Γ0 14 [.agg p.l,ag a.row] h (rowsD' (inR1 (elR p a))) h):=by
 have hl0:=(@eg_cw (p) (hp) (hn) (a))
 exact Ev.castH (Ev.sym0 (d:=rowsD' (inR1 (elR p a))) pok [.nx 2,.st (.nilT 4 1),.sum [3,4,8,9,10] (Exit.exit 0) {t:=mkT 24 0 [(4,.ref (.vec 2 0))],h:=[.var [strD p.nm,int p.number,int p.uses,int p.earn,int p.num,int p.den,rowsD' (List.map ReqT.row p.reqs)],.var [int a.course,int a.term,int a.grade,int a.campus,int a.credits],.vec (vecI (elR p a)) 0 1],m:=[]},.st (.frz 2 (inR1 (elR p a)))] (by kernel_rfl) (.c hl0 (.c (show vecI (elR p a)=List.map (fun x=>List.map D.p x) (inR1 (elR p a)) from(by first|assumption|rfl|exact vecI_frz _|omega)) .n)) rfl rfl h) (by rfl) (by rfl)
def attB(a:AttT):Bool:=inB a.course 0 4095&&inB a.term 0 1023&&inB a.grade 0 12&&inB a.campus 0 6&&inB a.credits 0 60
theorem aw_ev{n a b:Int}(h:List Blk):(Ev Tryz.prog Γ0 134 [int n,int a,int b] h (bool (inB n a b)) h):=by
 exact Ev.castH (Ev.sym0 (d:=bool (Dd (a≤n)&&Dd (n≤b))) pok [] (by kernel_rfl) .n rfl rfl h) (by rfl) (by rfl)
noncomputable abbrev afits_ev_x0(a:AttT):List Blk:=[.var [int a.course,int a.term,int a.grade,int a.campus,int a.credits]]
theorem afits_ev{a:AttT}(h:List Blk):(Ev Tryz.prog Γ0 102 [ag a.row] h (bool (attB a)) h):=by
 exact Ev.castH (Ev.sym0 (d:=bool (inB a.course 0 4095&&inB a.term 0 1023&&inB a.grade 0 12&&inB a.campus 0 6&&inB a.credits 0 60)) pok [.val (bool (inB a.course 0 4095)),.val (bool (inB a.term 0 1023)),.val (bool (inB a.grade 0 12)),.val (bool (inB a.campus 0 6)),.val (bool (inB a.credits 0 60))] (by kernel_rfl) (.c (@aw_ev (a.course) (0) (4095) ((afits_ev_x0 a))) (.c (show inB a.course 0 4095=true→Ev Tryz.prog Γ0 134 [int a.term,int 0,int 1023] (afits_ev_x0 a) (bool (inB a.term 0 1023)) (afits_ev_x0 a) from(fun hg=>(@aw_ev (a.term) (0) (1023) ((afits_ev_x0 a))))) (.c (show(inB a.course 0 4095&&inB a.term 0 1023)=true→Ev Tryz.prog Γ0 134 [int a.grade,int 0,int 12] (afits_ev_x0 a) (bool (inB a.grade 0 12)) (afits_ev_x0 a) from(fun hg=>(@aw_ev (a.grade) (0) (12) ((afits_ev_x0 a))))) (.c (show(inB a.course 0 4095&&inB a.term 0 1023&&inB a.grade 0 12)=true→Ev Tryz.prog Γ0 134 [int a.campus,int 0,int 6] (afits_ev_x0 a) (bool (inB a.campus 0 6)) (afits_ev_x0 a) from(fun hg=>(@aw_ev (a.campus) (0) (6) ((afits_ev_x0 a))))) (.c (show(inB a.course 0 4095&&inB a.term 0 1023&&inB a.grade 0 12&&inB a.campus 0 6)=true→Ev Tryz.prog Γ0 134 [int a.credits,int 0,int 60] (afits_ev_x0 a) (bool (inB a.credits 0 60)) (afits_ev_x0 a) from(fun hg=>(@aw_ev (a.credits) (0) (60) ((afits_ev_x0 a))))) .n))))) rfl rfl h) (by rfl) (by rfl)
noncomputable abbrev nafits_ev_x0(a:AttT):List Blk:=[.var [int a.course,int a.term,int a.grade,int a.campus,int a.credits]]
theorem nafits_ev{a:AttT}(h:List Blk):(Ev Tryz.prog Γ0 101 [ag a.row] h (bool (!attB a)) h):=by
 exact Ev.castH (Ev.sym0 (d:=bool !attB a) pok [.val (bool (attB a))] (by kernel_rfl) (.c (@afits_ev (a) ((nafits_ev_x0 a))) .n) rfl rfl h) (by rfl) (by rfl)
theorem nafits_iv{l:List AttT}(h:List Blk):∀c∈l,Iv Tryz.prog Γ0 (.p (.v (.func (.func 101) #[] #[]))) [ag c.row] h (bool (!attB c)) h:=fun c _=>Iv.of (f:=101) (fi:=[]) (ca:=[]) pok (by kernel_rfl) (by kernel_rfl) (nafits_ev h)
def aErr(l:List AttT):Int:=bif l.any (fun a=>!attB a) then 150 else 0
theorem acheck_a{l:List AttT}(hl:Short l)(hf:∀c∈l,Iv Tryz.prog Γ0 (.p (.v (.func (.func 101) #[] #[]))) [ag c.row] [] (bool (!attB c)) [])(h:List Blk):(Ev Tryz.prog Γ0 63 [rowsD' (l.map AttT.row)] h (int (aErr l)) h):=by
 cases hc0:List.any l fun c=>!attB c
 ·exact Ev.castH (Ev.sym0 (d:=int 0) pok [.val (bool (List.any l fun c=>!attB c)),.b false] (by kernel_rfl) (.c (@xac_ev (l) (hl) (fq 101) ([]) (fun c=>!attB c) (hf)) (.c hc0 .n)) rfl rfl h) (by simp only[aErr,hc0,cond_false]) (by rfl)
 ·exact Ev.castH (Ev.sym0 (d:=int 150) pok [.val (bool (List.any l fun c=>!attB c)),.b true] (by kernel_rfl) (.c (@xac_ev (l) (hl) (fq 101) ([]) (fun c=>!attB c) (hf)) (.c hc0 .n)) rfl rfl h) (by simp only[aErr,hc0,cond_true]) (by rfl)
theorem acheck_ev{l:List AttT}(hl:Short l)(h:List Blk):Ev Tryz.prog Γ0 63 [rowsD' (l.map AttT.row)] h (int (aErr l)) h:=acheck_a hl (nafits_iv []) h
abbrev suT:List D:=mkT 26 0 [(2,.ref (.ptr 0 0)),(3,.ref (.ptr 1 0)),(13,.fn (.func 103) [] [.ref (.ptr 2 0)])]
noncomputable abbrev suL(st:LoopState):Blk:=.loop st none 0 suT #[14,15] (rfAsg (sub Tryz.f36 0)) (rfBody (sub Tryz.f36 0))
noncomputable abbrev suH(c p:Int)(l:List (List Dp))(st:LoopState)(more:List Blk):List Blk:=[.var [int c],.var [int p],.var [rowsD' l],.defd,suL st]++more
abbrev suU(g c:Int):List D:=mkT 26 0 [(2,.ref (.ptr 0 0)),(3,.ref (.ptr 1 0)),(5,int g),(6,int c)]
def suF(s:Int×Int)(a:AttT):Int×Int:=(IntKind.i64.wrap (s.1+a.credits),IntKind.i64.wrap (s.2+IntKind.i64.wrap (a.grade*a.credits)))
theorem su_asg{c p g x:Int}{l:List (List Dp)}{r:List D}:(CW Tryz.prog Γ0 (suH c p l .ready [.var r]) true (rfAsg (sub Tryz.f36 0)) {t:=setAll suT [(14,int g),(15,int x)],h:=suH c p l .ready [.var r],m:=[]} .normal {t:=suU g x,h:=suH c p l .ready [.var r],m:=[]}):=by
 exact CW.cast (CW.symX (s':={t:=mkT 26 0 [(2,.ref (.ptr 0 0)),(3,.ref (.ptr 1 0)),(5,int g),(6,int x)],h:=[.var [int c],.var [int p],.var [rowsD' l],.defd,.loop LoopState.ready none 0 (mkT 26 0 [(2,.ref (.ptr 0 0)),(3,.ref (.ptr 1 0)),(13,D.fn (Fn.func 103) [] [.ref (.ptr 2 0)])]) {toList:=[14,15]} (rfAsg (sub Tryz.f36 0)) (rfBody (sub Tryz.f36 0)),.var r],m:=[]}) (e:=Exit.normal) pok [.st (.mask [2,3,5,6])] [] (by kernel_rfl) .n) (by rfl) (by rfl)
theorem su_body{c p g x:Int}{l:List (List Dp)}{r:List D}:(CW Tryz.prog Γ0 (suH c p l .ready [.var r]) true (rfBody (sub Tryz.f36 0)) {t:=suU g x,h:=suH c p l .busy [.var r],m:=[]} .normal {t:=mkT 26 0 [],h:=suH (IntKind.i64.wrap (c+x)) (IntKind.i64.wrap (p+IntKind.i64.wrap (g*x))) l .busy [.var r],m:=[]}):=by
 exact CW.cast (CW.symX (s':={t:=mkT 26 0 [],h:=[.var [int (IntKind.wrap IntKind.i64 (c+x))],.var [int (IntKind.wrap IntKind.i64 (p+IntKind.wrap IntKind.i64 (g*x)))],.var [rowsD' l],.defd,.loop LoopState.busy none 0 (mkT 26 0 [(2,.ref (.ptr 0 0)),(3,.ref (.ptr 1 0)),(13,D.fn (Fn.func 103) [] [.ref (.ptr 2 0)])]) {toList:=[14,15]} (rfAsg (sub Tryz.f36 0)) (rfBody (sub Tryz.f36 0)),.var r],m:=[]}) (e:=Exit.normal) pok [.st (.mask [])] [] (by kernel_rfl) .n) (by rfl) (by rfl)
theorem suIv_ev{c p g x:Int}{l:List (List Dp)}{r:List D}:Iv Tryz.prog Γ0 (.ref (.yl 4)) [int g,int x] (suH c p l .ready [.var r]) (bool true) (suH (IntKind.i64.wrap (c+x)) (IntKind.i64.wrap (p+IntKind.i64.wrap (g*x))) l .ready [.var r]) :=
 Iv.round (h1:=suH c p l .ready [.var r]) rfl rfl su_asg rfl su_body rfl
abbrev swT(fs:List (List Dp))(i:Int):List D:=mkT 19 0 [(0,.ref (.yl 4)),(5,rowsD' fs),(6,int fs.length),(7,int i)]
theorem sw_body{c p c0 p0:Int}{l:List (List Dp)}{a:AttT}{i:Nat}(hr:RowAt (i:Int) l a.row 5)(hlt:Dd ((i:Int)<(l.length:Int))=true)(hw:IntKind.i64.wrap ((i:Int)+1)=((i+1:Nat):Int)):(CW Tryz.prog Γ0 (suH c0 p0 l .ready []) false (sub Tryz.f103 0) {t:=swT l i,h:=suH c p l .ready [],m:=[]} .normal {t:=swT l ((i+1:Nat):Int),h:=suH (suF (c,p) a).1 (suF (c,p) a).2 l .ready [],m:=[]}):=by
 refine CW.cast (CW.symX (s':={t:=mkT 19 0 [(0,.ref (.yl 4)),(5,rowsD' l),(6,int (↑(List.length l):Int)),(7,int (IntKind.wrap IntKind.i64 ((↑i:Int)+1)))],h:=[.var [int (IntKind.wrap IntKind.i64 (c+a.credits))],.var [int (IntKind.wrap IntKind.i64 (p+IntKind.wrap IntKind.i64 (a.grade*a.credits)))],.var [rowsD' l],.defd,.loop LoopState.ready none 0 (mkT 26 0 [(2,.ref (.ptr 0 0)),(3,.ref (.ptr 1 0)),(13,D.fn (Fn.func 103) [] [.ref (.ptr 2 0)])]) {toList:=[14,15]} (rfAsg (sub Tryz.f36 0)) (rfBody (sub Tryz.f36 0))],m:=[]}) (e:=Exit.normal) pok [.st (.mask [0,5,6,7]),.st (.trim 5)] [.b true,.row (AttT.row a),.inv (bool true) [.var [int (IntKind.wrap IntKind.i64 (c+a.credits))],.var [int (IntKind.wrap IntKind.i64 (p+IntKind.wrap IntKind.i64 (a.grade*a.credits)))],.var [rowsD' l],.defd,.loop LoopState.ready none 0 (mkT 26 0 [(2,.ref (.ptr 0 0)),(3,.ref (.ptr 1 0)),(13,D.fn (Fn.func 103) [] [.ref (.ptr 2 0)])]) {toList:=[14,15]} (rfAsg (sub Tryz.f36 0)) (rfBody (sub Tryz.f36 0)),.var [int a.course,int a.term,int a.grade,int a.campus,int a.credits]],.b false] (by kernel_rfl) (.c hlt (.c hr (.c (@suIv_ev (c) (p) (a.grade) (a.credits) (l) ([int a.course,int a.term,int a.grade,int a.campus,int a.credits])) (.c (show(!true)=false from rfl) .n))))) ?_ ?_<;>(first|rfl|(simp only[hw];rfl))
theorem sw_last{c p c0 p0:Int}{l:List (List Dp)}{i:Nat}(hlt:Dd ((i:Int)<(l.length:Int))=false):(CW Tryz.prog Γ0 (suH c0 p0 l .ready []) false (sub Tryz.f103 0) {t:=swT l i,h:=suH c p l .ready [],m:=[]} (.exit 0) {t:=mkT 19 0 [],h:=suH c p l .ready [],m:=[]}):=by
 exact CW.cast (CW.symX (s':={t:=mkT 19 0 [],h:=[.var [int c],.var [int p],.var [rowsD' l],.defd,.loop LoopState.ready none 0 (mkT 26 0 [(2,.ref (.ptr 0 0)),(3,.ref (.ptr 1 0)),(13,D.fn (Fn.func 103) [] [.ref (.ptr 2 0)])]) {toList:=[14,15]} (rfAsg (sub Tryz.f36 0)) (rfBody (sub Tryz.f36 0))],m:=[]}) (e:=Exit.exit 0) pok [.st (.mask [])] [.b false] (by kernel_rfl) (.c hlt .n)) (by rfl) (by rfl)
theorem sw_cw{c0 p0:Int}{l:List AttT}(hl:Short l):
  CW Tryz.prog Γ0 (suH c0 p0 (l.map AttT.row) .ready []) false (.loop (sub Tryz.f103 0)) {t:=swT (l.map AttT.row) 0,h:=suH c0 p0 (l.map AttT.row) .ready [],m:=[]} (.exit 0)
   {t:=mkT 19 0 [],h:=suH (l.foldl suF (c0,p0)).1 (l.foldl suF (c0,p0)).2 (l.map AttT.row) .ready [],m:=[]}:=by
 have:=CW.each (P:=Tryz.prog) (Γ:=Γ0) (h0:=suH c0 p0 (l.map AttT.row) .ready []) (rd:=false) (c:=sub Tryz.f103 0) (σ:=Int×Int) (ρ:=Empty) l (fun f s=>.inl (suF s f))
  (fun i s=>{t:=swT (l.map AttT.row) (i:Int),h:=suH s.1 s.2 (l.map AttT.row) .ready [],m:=[]}) (.exit 0) (fun s=>{t:=mkT 19 0 [],h:=suH s.1 s.2 (l.map AttT.row) .ready [],m:=[]}) (fun r=>r.elim)
  (fun _ _=>True) (by simp) (fun r=>r.elim) ?_ ?_ (c0,p0) trivial
 ·rw[forL_fold] at this
  exact this
 ·intro i f s hf _
  have hi:=(List.getElem?_eq_some_iff.1 hf).1
  exact⟨fun _ _=>trivial,sw_body (rowAt hf rfl) (lt_len _ hi) (wrap_succ hi hl)⟩
 ·intro s _
  exact sw_last (ge_len _ l)
theorem switer_ev{c0 p0:Int}{l:List AttT}(hl:Short l):(Ev Tryz.prog Γ0 103 [.ref (.yl 4),.ref (.ptr 2 0)] (suH c0 p0 (l.map AttT.row) .ready []) (.tup []) (suH (l.foldl suF (c0,p0)).1 (l.foldl suF (c0,p0)).2 (l.map AttT.row) .ready [])):=by
 have hl0:=(@sw_cw (c0) (p0) (l) (hl))
 exact Ev.castH (Ev.of_sym (h':=[.var [int (List.foldl suF (c0,p0) l).1],.var [int (List.foldl suF (c0,p0) l).2],.var [rowsD' (List.map AttT.row l)],.defd,.loop LoopState.ready none 0 (mkT 26 0 [(2,.ref (.ptr 0 0)),(3,.ref (.ptr 1 0)),(13,D.fn (Fn.func 103) [] [.ref (.ptr 2 0)])]) {toList:=[14,15]} (rfAsg (sub Tryz.f36 0)) (rfBody (sub Tryz.f36 0))]) (d:=D.tup []) pok [.sum [0,5,6,7] (Exit.exit 0) {t:=mkT 19 0 [],h:=[.var [int (List.foldl suF (c0,p0) l).1],.var [int (List.foldl suF (c0,p0) l).2],.var [rowsD' (List.map AttT.row l)],.defd,.loop LoopState.ready none 0 (mkT 26 0 [(2,.ref (.ptr 0 0)),(3,.ref (.ptr 1 0)),(13,D.fn (Fn.func 103) [] [.ref (.ptr 2 0)])]) {toList:=[14,15]} (rfAsg (sub Tryz.f36 0)) (rfBody (sub Tryz.f36 0))],m:=[]}] (by kernel_rfl) (.c hl0 .n)) (by rfl) (by rfl)
theorem su_rf_cw{c0 p0:Int}{l:List AttT}(hl:Short l):CW Tryz.prog Γ0 [] false (sub Tryz.f36 0) {t:=suT,h:=[.var [int c0],.var [int p0],.var [rowsD' (l.map AttT.row)]],m:=[]} .normal
  {t:=suT,h:=suH (l.foldl suF (c0,p0)).1 (l.foldl suF (c0,p0)).2 (l.map AttT.row) .exhausted [],m:=[3]}:=by
 exact CW.rangeFunc (f:=103) (fi:=[]) (ca:=[.ref (.ptr 2 0)]) pok (s:={t:=suT,h:=[.var [int c0],.var [int p0],.var [rowsD' (l.map AttT.row)]],m:=[]}) (g:=.tmp 13) (ps:=#[14,15]) (asg:=rfAsg (sub Tryz.f36 0)) (body:=rfBody (sub Tryz.f36 0)) rfl (by kernel_rfl) (switer_ev hl) rfl
def sumsR(l:List AttT):Int×Int×Int:=match aErr l != 0 with
 | true=>(0,0,aErr l)
 | false=>((l.foldl suF (0,0)).1,(l.foldl suF (0,0)).2,0)
theorem sums_ev{l:List AttT}(hl:Short l)(h:List Blk):(Ev Tryz.prog Γ0 36 [rowsD' (l.map AttT.row)] h (.tup [int (sumsR l).1,int (sumsR l).2.1,int (sumsR l).2.2]) h):=by
 cases hc0:aErr l != 0
 ·have hl1:=(@su_rf_cw (0) (0) (l) (hl))
  exact Ev.castH (Ev.sym0 (d:=D.tup [int (List.foldl suF (0,0) l).1,int (List.foldl suF (0,0) l).2,int 0]) pok [.val (int (aErr l)),.b false,.inl,.sum [2,3,13] (Exit.normal) {t:=mkT 26 0 [(2,.ref (.ptr 0 0)),(3,.ref (.ptr 1 0)),(13,D.fn (Fn.func 103) [] [.ref (.ptr 2 0)])],h:=[.var [int (List.foldl suF (0,0) l).1],.var [int (List.foldl suF (0,0) l).2],.var [rowsD' (List.map AttT.row l)],.defd,.loop LoopState.exhausted none 0 (mkT 26 0 [(2,.ref (.ptr 0 0)),(3,.ref (.ptr 1 0)),(13,D.fn (Fn.func 103) [] [.ref (.ptr 2 0)])]) {toList:=[14,15]} (rfAsg (sub Tryz.f36 0)) (rfBody (sub Tryz.f36 0))],m:=[3]}] (by kernel_rfl) (.c (@acheck_ev (l) (hl) ([.var [int 0],.var [int 0]])) (.c hc0 (.c hl1 (.e (int (List.foldl suF (0,0) l).1) (.e (int (List.foldl suF (0,0) l).2) (.e (int (List.foldl suF (0,0) l).2) .n)))))) rfl rfl h) (by simp only[sumsR,hc0];first|done|rfl) (by rfl)
 ·exact Ev.castH (Ev.sym0 (d:=D.tup [int 0,int 0,int (aErr l)]) pok [.val (int (aErr l)),.b true] (by kernel_rfl) (.c (@acheck_ev (l) (hl) ([.var [int 0],.var [int 0]])) (.c hc0 .n)) rfl rfl h) (by simp only[sumsR,hc0];first|done|rfl) (by rfl)
structure EdgT where
 frm:Int
 to:Int
 most:Int
 deriving Inhabited
def EdgT.row(e:EdgT):List Dp:=[vi e.frm,vi e.to,vi e.most]
def vecE(l:List EdgT):List (List D):=l.map fun e=>[int e.frm,int e.to,int e.most]
theorem vecE_app(l:List EdgT)(a b c:Int):vecE l++[[int a,int b,int c]]=vecE (l++[⟨a,b,c⟩]):=by simp[vecE]
theorem vecE_len(l:List EdgT):(vecE l).length=l.length:=by simp[vecE]
theorem vecE_map(f:Ref→D)(l:List EdgT):(vecE l).map (D.mapRL f)=vecE l:=by simp[vecE,D.mapRL,D.mapR]
theorem vecE_inn(n:Nat)(l:List EdgT):(vecE l).all (D.innL n)=true:=by simp[vecE,D.innL,D.inn]
theorem vecE_frz(l:List EdgT):vecE l=(l.map EdgT.row).map (·.map .p):=by simp[vecE,EdgT.row]
abbrev nH(p:ProgT)(l:List AttT)(mid:Int)(es:List EdgT):List Blk:=[.var p.l,.var [rowsD' (l.map AttT.row)],.var [.ref (.vec 4 0)],.var [int mid],.vec (vecE es) 0 3]
abbrev n1S(p:ProgT)(l:List AttT)(mid sink:Int)(es:List EdgT)(i:Int):AS:={t:=mkT 97 0 [(2,.ref (.ptr 0 0)),(3,.ref (.ptr 1 0)),(5,.ref (.ptr 2 0)),(7,.ref (.ptr 3 0)),(8,int sink),(37,rowsD' (l.map AttT.row)),(38,int ((l.map AttT.row).length:Int)),(39,int i)],h:=nH p l mid es,m:=[]}
abbrev n1E(p:ProgT)(l:List AttT)(mid sink:Int)(es:List EdgT):AS:={t:=mkT 97 0 [(2,.ref (.ptr 0 0)),(3,.ref (.ptr 1 0)),(5,.ref (.ptr 2 0)),(7,.ref (.ptr 3 0)),(8,int sink)],h:=nH p l mid es,m:=[]}
def n1F(p:ProgT)(s:List EdgT×Int)(a:AttT):List EdgT×Int:=(s.1++[⟨0,IntKind.i64.wrap (1+s.2),IntKind.i64.wrap (a.credits*p.uses)⟩],s.2+1)
theorem n1_body{p:ProgT}{l:List AttT}{a:AttT}{mid sink:Int}{es:List EdgT}{i:Nat}(hr:RowAt (i:Int) (l.map AttT.row) a.row 5)(hlt:Dd ((i:Int)<((l.map AttT.row).length:Int))=true)(hw:IntKind.i64.wrap ((i:Int)+1)=((i+1:Nat):Int))(hl:es.length≤1000000):(CW Tryz.prog Γ0 [] false (sub Tryz.f16 0) (n1S p l mid sink es i) .normal (n1S p l mid sink (n1F p (es,(i:Int)) a).1 ((i+1:Nat):Int))):=by
 refine CW.cast (CW.symX (s':={t:=mkT 97 0 [(2,.ref (.ptr 0 0)),(3,.ref (.ptr 1 0)),(5,.ref (.ptr 2 0)),(7,.ref (.ptr 3 0)),(8,int sink),(37,rowsD' (List.map AttT.row l)),(38,int (↑(List.length (List.map AttT.row l)):Int)),(39,int (IntKind.wrap IntKind.i64 ((↑i:Int)+1)))],h:=[.var [strD p.nm,int p.number,int p.uses,int p.earn,int p.num,int p.den,rowsD' (List.map ReqT.row p.reqs)],.var [rowsD' (List.map AttT.row l)],.var [.ref (.vec 4 0)],.var [int mid],.vec (vecE es++[[int 0,int (IntKind.wrap IntKind.i64 (1+(↑i:Int))),int (IntKind.wrap IntKind.i64 (a.credits*p.uses))]]) 0 3],m:=[]}) (e:=Exit.normal) pok [.st (.mask [2,3,5,7,8,37,38,39]),.st (.ren 4 0),.st (.trimV 5)] [.b true,.row (AttT.row a)] (by kernel_rfl) (.c hlt (.c hr (.c (show(List.all [[int 0,int (IntKind.wrap IntKind.i64 (1+(↑i:Int))),int (IntKind.wrap IntKind.i64 (a.credits*p.uses))]] (rowOk 3)&&roomOk (List.length (vecE es)+List.length [[int 0,int (IntKind.wrap IntKind.i64 (1+(↑i:Int))),int (IntKind.wrap IntKind.i64 (a.credits*p.uses))]]) 24)=true from ?_) (.c (show List.map (D.mapRL (renR 4 1 0)) (vecE es++[[int 0,int (IntKind.wrap IntKind.i64 (1+(↑i:Int))),int (IntKind.wrap IntKind.i64 (a.credits*p.uses))]])=vecE es++[[int 0,int (IntKind.wrap IntKind.i64 (1+(↑i:Int))),int (IntKind.wrap IntKind.i64 (a.credits*p.uses))]] from ?_) (.c (show [[int 0,int (IntKind.wrap IntKind.i64 (1+(↑i:Int))),int (IntKind.wrap IntKind.i64 (a.credits*p.uses))]]=[[int 0,int (IntKind.wrap IntKind.i64 (1+(↑i:Int))),int (IntKind.wrap IntKind.i64 (a.credits*p.uses))]] from rfl) (.c (show Blk.inn 5 (match 0==4 with|true=>.vec (vecE es++[[int 0,int (IntKind.wrap IntKind.i64 (1+(↑i:Int))),int (IntKind.wrap IntKind.i64 (a.credits*p.uses))]]) 0 3|false=>keepX (renR 4 1 0) (.var [strD p.nm,int p.number,int p.uses,int p.earn,int p.num,int p.den,rowsD' (List.map ReqT.row p.reqs)]))=true from rfl) (.c (show Blk.inn 5 (match 0+1==4 with|true=>.vec (vecE es++[[int 0,int (IntKind.wrap IntKind.i64 (1+(↑i:Int))),int (IntKind.wrap IntKind.i64 (a.credits*p.uses))]]) 0 3|false=>keepX (renR 4 1 0) (.var [rowsD' (List.map AttT.row l)]))=true from rfl) (.c (show Blk.inn 5 (match 0+1+1==4 with|true=>.vec (vecE es++[[int 0,int (IntKind.wrap IntKind.i64 (1+(↑i:Int))),int (IntKind.wrap IntKind.i64 (a.credits*p.uses))]]) 0 3|false=>keepX (renR 4 1 0) (.var [.ref (.vec 4 1)]))=true from rfl) (.c (show Blk.inn 5 (match 0+1+1+1==4 with|true=>.vec (vecE es++[[int 0,int (IntKind.wrap IntKind.i64 (1+(↑i:Int))),int (IntKind.wrap IntKind.i64 (a.credits*p.uses))]]) 0 3|false=>keepX (renR 4 1 0) (.var [int mid]))=true from rfl) (.c (show Blk.inn 5 (match 0+1+1+1+1==4 with|true=>.vec (vecE es++[[int 0,int (IntKind.wrap IntKind.i64 (1+(↑i:Int))),int (IntKind.wrap IntKind.i64 (a.credits*p.uses))]]) 0 3|false=>keepX (renR 4 1 0) (.vec (vecE es++[[int 0,int (IntKind.wrap IntKind.i64 (1+(↑i:Int))),int (IntKind.wrap IntKind.i64 (a.credits*p.uses))]]) 1 3))=true from ?_) .n))))))))))) (by simp only[];first|done|rfl) (by simp only[n1F,hw,vecE_app];first|done|rfl)<;>(first|assumption|rfl|exact vecE_map _ _|exact vecE_inn _ _|(rw[vecE_app];exact vecE_map _ _)|(rw[vecE_app];exact vecE_inn _ _)|(simp[rowOk,D.one,Value.oneCell',roomOk,vecE_len];omega))
theorem n1_last{p:ProgT}{l:List AttT}{mid sink:Int}{es:List EdgT}{i:Nat}(hlt:Dd ((i:Int)<((l.map AttT.row).length:Int))=false):(CW Tryz.prog Γ0 [] false (sub Tryz.f16 0) (n1S p l mid sink es i) (.exit 0) (n1E p l mid sink es)):=by
 exact CW.cast (CW.symX (s':={t:=mkT 97 0 [(2,.ref (.ptr 0 0)),(3,.ref (.ptr 1 0)),(5,.ref (.ptr 2 0)),(7,.ref (.ptr 3 0)),(8,int sink)],h:=[.var [strD p.nm,int p.number,int p.uses,int p.earn,int p.num,int p.den,rowsD' (List.map ReqT.row p.reqs)],.var [rowsD' (List.map AttT.row l)],.var [.ref (.vec 4 0)],.var [int mid],.vec (vecE es) 0 3],m:=[]}) (e:=Exit.exit 0) pok [.st (.mask [2,3,5,7,8])] [.b false] (by kernel_rfl) (.c hlt .n)) (by rfl) (by rfl)
theorem n1_len{p:ProgT}:∀(l:List AttT) (s:List EdgT×Int),(l.foldl (n1F p) s).1.length=s.1.length+l.length
 | [],s=>rfl
 | a::l,s=>by rw[List.foldl_cons,n1_len l];simp[n1F];omega
theorem n1_cw{p:ProgT}{l:List AttT}{mid sink:Int}(hl:l.length≤1000):CW Tryz.prog Γ0 [] false (.loop (sub Tryz.f16 0)) (n1S p l mid sink [] 0) (.exit 0) (n1E p l mid sink (l.foldl (n1F p) ([],0)).1):=by
 have:=CW.each (P:=Tryz.prog) (Γ:=Γ0) (h0:=[]) (rd:=false) (c:=sub Tryz.f16 0) (σ:=List EdgT×Int) (ρ:=Empty) l (fun a s=>.inl (n1F p s a))
  (fun i s=>n1S p l mid sink s.1 (i:Int)) (.exit 0) (fun s=>n1E p l mid sink s.1) (fun r=>r.elim) (fun i s=>s.2=i∧s.1.length≤i) (by simp) (fun r=>r.elim) ?_ ?_ ([],0) (by simp)
 ·rw[forL_fold] at this
  exact this
 ·rintro i a ⟨es,k⟩ hc ⟨hk,he⟩
  simp only at hk he
  subst hk
  have hi:=(List.getElem?_eq_some_iff.1 hc).1
  refine⟨fun s' h=>?_,n1_body (rowAt hc rfl) (lt_len AttT.row hi) (wrap_succ hi (by omega)) (show es.length≤1000000 by omega)⟩
  cases h
  simp[n1F];omega
 ·intro s _
  exact n1_last (ge_len AttT.row l)
abbrev npT(sink:Int):List D:=mkT 97 0 [(2,.ref (.ptr 0 0)),(3,.ref (.ptr 1 0)),(5,.ref (.ptr 2 0)),(7,.ref (.ptr 3 0)),(8,int sink),(58,.fn (.func 65) [] [.ref (.ptr 6 0),.ref (.ptr 5 0)])]
noncomputable abbrev npL(sink:Int)(st:LoopState):Blk:=.loop st none 0 (npT sink) #[59,60] (rfAsg (sub Tryz.f16 1)) (rfBody (sub Tryz.f16 1))
noncomputable abbrev npH(p:ProgT)(l:List AttT)(mid sink:Int)(es:List EdgT)(e:Nat)(st:LoopState)(more:List Blk):List Blk:=[.var p.l,.var [rowsD' (l.map AttT.row)],.var [.ref (.vec 4 e)],.var [int mid],.vec (vecE es) e 3,.var p.l,.var [rowsD' (l.map AttT.row)],.defd,npL sink st]++more
abbrev npU(sink i k:Int):List D:=mkT 97 0 [(2,.ref (.ptr 0 0)),(3,.ref (.ptr 1 0)),(5,.ref (.ptr 2 0)),(7,.ref (.ptr 3 0)),(8,int sink),(11,int i),(12,int k)]
theorem np_asg{p:ProgT}{l:List AttT}{mid sink:Int}{es:List EdgT}{i k:Int}{a:AttT}:(CW Tryz.prog Γ0 (npH p l mid sink es 1 .ready [.var (a.row.map .p)]) true (rfAsg (sub Tryz.f16 1)) {t:=setAll (npT sink) [(59,int i),(60,int k)],h:=npH p l mid sink es 1 .ready [.var (a.row.map .p)],m:=[]} .normal {t:=npU sink i k,h:=npH p l mid sink es 1 .ready [.var (a.row.map .p)],m:=[]}):=by
 exact CW.cast (CW.symX (s':={t:=mkT 97 0 [(2,.ref (.ptr 0 0)),(3,.ref (.ptr 1 0)),(5,.ref (.ptr 2 0)),(7,.ref (.ptr 3 0)),(8,int sink),(11,int i),(12,int k)],h:=[.var [strD p.nm,int p.number,int p.uses,int p.earn,int p.num,int p.den,rowsD' (List.map ReqT.row p.reqs)],.var [rowsD' (List.map AttT.row l)],.var [.ref (.vec 4 1)],.var [int mid],.vec (vecE es) 1 3,.var [strD p.nm,int p.number,int p.uses,int p.earn,int p.num,int p.den,rowsD' (List.map ReqT.row p.reqs)],.var [rowsD' (List.map AttT.row l)],.defd,.loop LoopState.ready none 0 (mkT 97 0 [(2,.ref (.ptr 0 0)),(3,.ref (.ptr 1 0)),(5,.ref (.ptr 2 0)),(7,.ref (.ptr 3 0)),(8,int sink),(58,D.fn (Fn.func 65) [] [.ref (.ptr 6 0),.ref (.ptr 5 0)])]) {toList:=[59,60]} (rfAsg (sub Tryz.f16 1)) (rfBody (sub Tryz.f16 1)),.var [int a.course,int a.term,int a.grade,int a.campus,int a.credits]],m:=[]}) (e:=Exit.normal) pok [.st (.mask [2,3,5,7,8,11,12])] [] (by kernel_rfl) .n) (by rfl) (by rfl)
def n2F(mid i cr:Int)(es:List EdgT)(k:Int):List EdgT:=es++[⟨IntKind.i64.wrap (1+i),IntKind.i64.wrap (mid+k),cr⟩]
theorem np_body{p:ProgT}{l:List AttT}{a:AttT}{mid sink:Int}{es:List EdgT}{i k:Int}(hr:RowAt i (l.map AttT.row) a.row 5)(hl:es.length≤1000000):(CW Tryz.prog Γ0 (npH p l mid sink es 1 .ready [.var (a.row.map .p)]) true (rfBody (sub Tryz.f16 1)) {t:=npU sink i k,h:=npH p l mid sink es 1 .busy [.var (a.row.map .p)],m:=[]} .normal {t:=mkT 97 0 [],h:=npH p l mid sink (n2F mid i a.credits es k) 2 .busy [.var (a.row.map .p)],m:=[]}):=by
 refine CW.cast (CW.symX (s':={t:=mkT 97 0 [],h:=[.var [strD p.nm,int p.number,int p.uses,int p.earn,int p.num,int p.den,rowsD' (List.map ReqT.row p.reqs)],.var [rowsD' (List.map AttT.row l)],.var [.ref (.vec 4 2)],.var [int mid],.vec (vecE es++[[int (IntKind.wrap IntKind.i64 (1+i)),int (IntKind.wrap IntKind.i64 (mid+k)),int a.credits]]) 2 3,.var [strD p.nm,int p.number,int p.uses,int p.earn,int p.num,int p.den,rowsD' (List.map ReqT.row p.reqs)],.var [rowsD' (List.map AttT.row l)],.defd,.loop LoopState.busy none 0 (mkT 97 0 [(2,.ref (.ptr 0 0)),(3,.ref (.ptr 1 0)),(5,.ref (.ptr 2 0)),(7,.ref (.ptr 3 0)),(8,int sink),(58,D.fn (Fn.func 65) [] [.ref (.ptr 6 0),.ref (.ptr 5 0)])]) {toList:=[59,60]} (rfAsg (sub Tryz.f16 1)) (rfBody (sub Tryz.f16 1)),.var [int a.course,int a.term,int a.grade,int a.campus,int a.credits]],m:=[]}) (e:=Exit.normal) pok [.st (.mask []),.st (.trimV 10)] [.row (AttT.row a)] (by kernel_rfl) (.c hr (.c (show(List.all [[int (IntKind.wrap IntKind.i64 (1+i)),int (IntKind.wrap IntKind.i64 (mid+k)),int a.credits]] (rowOk 3)&&roomOk (List.length (vecE es)+List.length [[int (IntKind.wrap IntKind.i64 (1+i)),int (IntKind.wrap IntKind.i64 (mid+k)),int a.credits]]) 24)=true from ?_) (.e (.ref (.vec 4 1)) (.e (.ref (.vec 4 1)) (.e (int mid) (.e (rowsD' (List.map AttT.row l)) (.c (show Blk.inn 10 (.var [strD p.nm,int p.number,int p.uses,int p.earn,int p.num,int p.den,rowsD' (List.map ReqT.row p.reqs)])=true from rfl) (.c (show Blk.inn 10 (.var [rowsD' (List.map AttT.row l)])=true from rfl) (.c (show Blk.inn 10 (.var [.ref (.vec 4 2)])=true from rfl) (.c (show Blk.inn 10 (.var [int mid])=true from rfl) (.c (show Blk.inn 10 (.vec (vecE es++[[int (IntKind.wrap IntKind.i64 (1+i)),int (IntKind.wrap IntKind.i64 (mid+k)),int a.credits]]) 2 3)=true from ?_) (.c (show Blk.inn 10 (.var [strD p.nm,int p.number,int p.uses,int p.earn,int p.num,int p.den,rowsD' (List.map ReqT.row p.reqs)])=true from rfl) (.c (show Blk.inn 10 (.var [rowsD' (List.map AttT.row l)])=true from rfl) (.c (show Blk.inn 10 .defd=true from rfl) (.c (show Blk.inn 10 (.loop LoopState.busy none 0 (mkT 97 0 [(2,.ref (.ptr 0 0)),(3,.ref (.ptr 1 0)),(5,.ref (.ptr 2 0)),(7,.ref (.ptr 3 0)),(8,int sink),(58,D.fn (Fn.func 65) [] [.ref (.ptr 6 0),.ref (.ptr 5 0)])]) {toList:=[59,60]} (rfAsg (sub Tryz.f16 1)) (rfBody (sub Tryz.f16 1)))=true from rfl) (.c (show Blk.inn 10 (.var [int a.course,int a.term,int a.grade,int a.campus,int a.credits])=true from rfl) .n))))))))))))))))) (by simp only[];first|done|rfl) (by simp only[n2F,vecE_app];first|done|rfl)<;>(first|assumption|rfl|exact vecE_map _ _|exact vecE_inn _ _|(rw[vecE_app];exact vecE_map _ _)|(rw[vecE_app];exact vecE_inn _ _)|(simp[rowOk,D.one,Value.oneCell',roomOk,vecE_len];omega))
theorem npIv_ev{p:ProgT}{l:List AttT}{a:AttT}{mid sink:Int}{es:List EdgT}{i k:Int}(hr:RowAt i (l.map AttT.row) a.row 5)(hl:es.length≤1000000):Iv Tryz.prog Γ0 (.ref (.yl 8)) [int i,int k] (npH p l mid sink es 1 .ready [.var (a.row.map .p)]) (bool true) (npH p l mid sink (n2F mid i a.credits es k) 2 .ready [.var (a.row.map .p)]) :=
 Iv.round (h1:=npH p l mid sink es 1 .ready [.var (a.row.map .p)]) rfl rfl np_asg rfl (np_body hr hl) rfl
noncomputable abbrev n2S(p:ProgT)(l:List AttT)(a:AttT)(mid sink:Int)(ks:List Int)(i:Int)(es:List EdgT)(j:Int):AS:={t:=mkT 30 0 [(0,.ref (.yl 8)),(1,.ref (.ptr 6 0)),(2,.ref (.ptr 5 0)),(4,int i),(8,rowsD' (l.map AttT.row)),(9,int ((l.map AttT.row).length:Int)),(10,int i),(17,rowsD' (inR1 ks)),(18,int ((inR1 ks).length:Int)),(19,int j)],h:=npH p l mid sink es 1 .ready [.var (a.row.map .p)],m:=[]}
noncomputable abbrev n2E(p:ProgT)(l:List AttT)(a:AttT)(mid sink:Int)(i:Int)(es:List EdgT):AS:={t:=mkT 30 0 [(0,.ref (.yl 8)),(1,.ref (.ptr 6 0)),(2,.ref (.ptr 5 0)),(8,rowsD' (l.map AttT.row)),(9,int ((l.map AttT.row).length:Int)),(10,int i)],h:=npH p l mid sink es 1 .ready [.var (a.row.map .p)],m:=[]}
theorem n2_body{p:ProgT}{l:List AttT}{a:AttT}{mid sink:Int}{ks:List Int}{e0 es:List EdgT}{i k:Int}{j:Nat}(hr:RowAt i (l.map AttT.row) a.row 5)(hk:RowAt (j:Int) (inR1 ks) [vi k] 1)(hlt:Dd ((j:Int)<((inR1 ks).length:Int))=true)(hw:IntKind.i64.wrap ((j:Int)+1)=((j+1:Nat):Int))(hl:es.length≤1000000):(CW Tryz.prog Γ0 (npH p l mid sink e0 0 .ready []) false (sub Tryz.f65 1) (n2S p l a mid sink ks i es j) .normal (n2S p l a mid sink ks i (n2F mid i a.credits es k) ((j+1:Nat):Int))):=by
 refine CW.cast (CW.symX (s':={t:=mkT 30 0 [(0,.ref (.yl 8)),(1,.ref (.ptr 6 0)),(2,.ref (.ptr 5 0)),(4,int i),(8,rowsD' (List.map AttT.row l)),(9,int (↑(List.length (List.map AttT.row l)):Int)),(10,int i),(17,rowsD' (inR1 ks)),(18,int (↑(List.length (inR1 ks)):Int)),(19,int (IntKind.wrap IntKind.i64 ((↑j:Int)+1)))],h:=[.var [strD p.nm,int p.number,int p.uses,int p.earn,int p.num,int p.den,rowsD' (List.map ReqT.row p.reqs)],.var [rowsD' (List.map AttT.row l)],.var [.ref (.vec 4 1)],.var [int mid],.vec (vecE (n2F mid i a.credits es k)) 1 3,.var [strD p.nm,int p.number,int p.uses,int p.earn,int p.num,int p.den,rowsD' (List.map ReqT.row p.reqs)],.var [rowsD' (List.map AttT.row l)],.defd,.loop LoopState.ready none 0 (mkT 97 0 [(2,.ref (.ptr 0 0)),(3,.ref (.ptr 1 0)),(5,.ref (.ptr 2 0)),(7,.ref (.ptr 3 0)),(8,int sink),(58,D.fn (Fn.func 65) [] [.ref (.ptr 6 0),.ref (.ptr 5 0)])]) {toList:=[59,60]} (rfAsg (sub Tryz.f16 1)) (rfBody (sub Tryz.f16 1)),.var [int a.course,int a.term,int a.grade,int a.campus,int a.credits]],m:=[]}) (e:=Exit.normal) pok [.st (.mask [0,1,2,4,8,9,10,17,18,19]),.st (.ren 4 1)] [.b true,.row [vi k],.inv (bool true) [.var [strD p.nm,int p.number,int p.uses,int p.earn,int p.num,int p.den,rowsD' (List.map ReqT.row p.reqs)],.var [rowsD' (List.map AttT.row l)],.var [.ref (.vec 4 2)],.var [int mid],.vec (vecE (n2F mid i a.credits es k)) 2 3,.var [strD p.nm,int p.number,int p.uses,int p.earn,int p.num,int p.den,rowsD' (List.map ReqT.row p.reqs)],.var [rowsD' (List.map AttT.row l)],.defd,.loop LoopState.ready none 0 (mkT 97 0 [(2,.ref (.ptr 0 0)),(3,.ref (.ptr 1 0)),(5,.ref (.ptr 2 0)),(7,.ref (.ptr 3 0)),(8,int sink),(58,D.fn (Fn.func 65) [] [.ref (.ptr 6 0),.ref (.ptr 5 0)])]) {toList:=[59,60]} (rfAsg (sub Tryz.f16 1)) (rfBody (sub Tryz.f16 1)),.var [int a.course,int a.term,int a.grade,int a.campus,int a.credits]],.b false] (by kernel_rfl) (.c hlt (.c hk (.c (@npIv_ev (p) (l) (a) (mid) (sink) (es) (i) (k) (hr) (hl)) (.c (show(!true)=false from rfl) (.c (show List.map (D.mapRL (renR 4 2 1)) (vecE (n2F mid i a.credits es k))=vecE (n2F mid i a.credits es k) from(by first|assumption|rfl|exact vecE_map _ _|exact vecE_inn _ _|omega)) .n)))))) ?_ ?_<;>(first|rfl|(rw[hw];rfl))
theorem n2_last{p:ProgT}{l:List AttT}{a:AttT}{mid sink:Int}{ks:List Int}{e0 es:List EdgT}{i:Int}{j:Nat}(hlt:Dd ((j:Int)<((inR1 ks).length:Int))=false):(CW Tryz.prog Γ0 (npH p l mid sink e0 0 .ready []) false (sub Tryz.f65 1) (n2S p l a mid sink ks i es j) (.exit 2) (n2E p l a mid sink i es)):=by
 exact CW.cast (CW.symX (s':={t:=mkT 30 0 [(0,.ref (.yl 8)),(1,.ref (.ptr 6 0)),(2,.ref (.ptr 5 0)),(8,rowsD' (List.map AttT.row l)),(9,int (↑(List.length (List.map AttT.row l)):Int)),(10,int i)],h:=[.var [strD p.nm,int p.number,int p.uses,int p.earn,int p.num,int p.den,rowsD' (List.map ReqT.row p.reqs)],.var [rowsD' (List.map AttT.row l)],.var [.ref (.vec 4 1)],.var [int mid],.vec (vecE es) 1 3,.var [strD p.nm,int p.number,int p.uses,int p.earn,int p.num,int p.den,rowsD' (List.map ReqT.row p.reqs)],.var [rowsD' (List.map AttT.row l)],.defd,.loop LoopState.ready none 0 (mkT 97 0 [(2,.ref (.ptr 0 0)),(3,.ref (.ptr 1 0)),(5,.ref (.ptr 2 0)),(7,.ref (.ptr 3 0)),(8,int sink),(58,D.fn (Fn.func 65) [] [.ref (.ptr 6 0),.ref (.ptr 5 0)])]) {toList:=[59,60]} (rfAsg (sub Tryz.f16 1)) (rfBody (sub Tryz.f16 1)),.var [int a.course,int a.term,int a.grade,int a.campus,int a.credits]],m:=[]}) (e:=Exit.exit 2) pok [.st (.mask [0,1,2,8,9,10])] [.b false] (by kernel_rfl) (.c hlt .n)) (by rfl) (by rfl)
theorem n2_len{mid i cr:Int}:∀(ks:List Int) (es:List EdgT),(ks.foldl (n2F mid i cr) es).length=es.length+ks.length
 | [],es=>rfl
 | k::ks,es=>by rw[List.foldl_cons,n2_len ks];simp[n2F];omega
theorem n2_cw{p:ProgT}{l:List AttT}{a:AttT}{mid sink:Int}{ks:List Int}{e0 es:List EdgT}{i:Int}(hr:RowAt i (l.map AttT.row) a.row 5)(hks:ks.length≤1000)(hes:es.length≤900000):CW Tryz.prog Γ0 (npH p l mid sink e0 0 .ready []) false (.loop (sub Tryz.f65 1)) (n2S p l a mid sink ks i es 0) (.exit 2) (n2E p l a mid sink i (ks.foldl (n2F mid i a.credits) es)):=by
 have:=CW.each (P:=Tryz.prog) (Γ:=Γ0) (h0:=npH p l mid sink e0 0 .ready []) (rd:=false) (c:=sub Tryz.f65 1) (σ:=List EdgT) (ρ:=Empty) ks (fun k s=>.inl (n2F mid i a.credits s k))
  (fun j s=>n2S p l a mid sink ks i s (j:Int)) (.exit 2) (fun s=>n2E p l a mid sink i s) (fun r=>r.elim) (fun j s=>s.length≤es.length+j) (by simp) (fun r=>r.elim) ?_ ?_ es (by simp)
 ·rw[forL_fold] at this
  exact this
 ·intro j k s hc he
  have hi:=(List.getElem?_eq_some_iff.1 hc).1
  refine⟨fun s' h=>?_,n2_body hr (rowAt (row:=fun n:Int=>[vi n]) hc rfl) (lt_len (fun n:Int=>[vi n]) hi) (wrap_succ hi (by omega)) (by omega)⟩
  cases h
  simp[n2F];omega
 ·intro s _
  exact n2_last (ge_len (fun n:Int=>[vi n]) ks)
noncomputable abbrev n3S(p:ProgT)(l:List AttT)(mid sink:Int)(es:List EdgT)(i:Int):AS:={t:=mkT 30 0 [(0,.ref (.yl 8)),(1,.ref (.ptr 6 0)),(2,.ref (.ptr 5 0)),(8,rowsD' (l.map AttT.row)),(9,int ((l.map AttT.row).length:Int)),(10,int i)],h:=npH p l mid sink es 1 .ready [],m:=[]}
noncomputable abbrev n3E(p:ProgT)(l:List AttT)(mid sink:Int)(es:List EdgT):AS:={t:=mkT 30 0 [],h:=npH p l mid sink es 1 .ready [],m:=[]}
def n3F(p:ProgT)(mid:Int)(s:List EdgT×Int)(a:AttT):List EdgT×Int:=((elR p a).foldl (n2F mid s.2 a.credits) s.1,s.2+1)
noncomputable abbrev n3_body_x0(p:ProgT)(l:List AttT)(a:AttT)(mid:Int)(sink:Int)(es:List EdgT):List Blk:=[.var [strD p.nm,int p.number,int p.uses,int p.earn,int p.num,int p.den,rowsD' (List.map ReqT.row p.reqs)],.var [rowsD' (List.map AttT.row l)],.var [.ref (.vec 4 1)],.var [int mid],.vec (vecE es) 1 3,.var [strD p.nm,int p.number,int p.uses,int p.earn,int p.num,int p.den,rowsD' (List.map ReqT.row p.reqs)],.var [rowsD' (List.map AttT.row l)],.defd,.loop LoopState.ready none 0 (mkT 97 0 [(2,.ref (.ptr 0 0)),(3,.ref (.ptr 1 0)),(5,.ref (.ptr 2 0)),(7,.ref (.ptr 3 0)),(8,int sink),(58,D.fn (Fn.func 65) [] [.ref (.ptr 6 0),.ref (.ptr 5 0)])]) {toList:=[59,60]} (rfAsg (sub Tryz.f16 1)) (rfBody (sub Tryz.f16 1)),.var [int a.course,int a.term,int a.grade,int a.campus,int a.credits]]
theorem n3_body{p:ProgT}{l:List AttT}{a:AttT}{mid sink:Int}{e0 es:List EdgT}{i:Nat}(hp:p.ok)(hn:p.reqs.length≤1000)(hr:RowAt (i:Int) (l.map AttT.row) a.row 5)(hks:(elR p a).length≤1000)(hlt:Dd ((i:Int)<((l.map AttT.row).length:Int))=true)(hw:IntKind.i64.wrap ((i:Int)+1)=((i+1:Nat):Int))(hes:es.length≤900000):(CW Tryz.prog Γ0 (npH p l mid sink e0 0 .ready []) false (sub Tryz.f65 0) (n3S p l mid sink es i) .normal (n3S p l mid sink (n3F p mid (es,(i:Int)) a).1 ((i+1:Nat):Int))):=by
 have hl0:=(@n2_cw (p) (l) (a) (mid) (sink) (elR p a) (e0) (es) ((↑i:Int)) (hr) (hks) (hes))
 refine CW.cast (CW.symX (s':={t:=mkT 30 0 [(0,.ref (.yl 8)),(1,.ref (.ptr 6 0)),(2,.ref (.ptr 5 0)),(8,rowsD' (List.map AttT.row l)),(9,int (↑(List.length (List.map AttT.row l)):Int)),(10,int (IntKind.wrap IntKind.i64 ((↑i:Int)+1)))],h:=[.var [strD p.nm,int p.number,int p.uses,int p.earn,int p.num,int p.den,rowsD' (List.map ReqT.row p.reqs)],.var [rowsD' (List.map AttT.row l)],.var [.ref (.vec 4 1)],.var [int mid],.vec (vecE (List.foldl (n2F mid (↑i:Int) a.credits) es (elR p a))) 1 3,.var [strD p.nm,int p.number,int p.uses,int p.earn,int p.num,int p.den,rowsD' (List.map ReqT.row p.reqs)],.var [rowsD' (List.map AttT.row l)],.defd,.loop LoopState.ready none 0 (mkT 97 0 [(2,.ref (.ptr 0 0)),(3,.ref (.ptr 1 0)),(5,.ref (.ptr 2 0)),(7,.ref (.ptr 3 0)),(8,int sink),(58,D.fn (Fn.func 65) [] [.ref (.ptr 6 0),.ref (.ptr 5 0)])]) {toList:=[59,60]} (rfAsg (sub Tryz.f16 1)) (rfBody (sub Tryz.f16 1))],m:=[]}) (e:=Exit.normal) pok [.st (.mask [0,1,2,8,9,10]),.st (.trimV 9)] [.b true,.row (AttT.row a),.val (rowsD' (inR1 (elR p a))),.sum [0,1,2,4,8,9,10,17,18,19] (Exit.exit 2) {t:=mkT 30 0 [(0,.ref (.yl 8)),(1,.ref (.ptr 6 0)),(2,.ref (.ptr 5 0)),(8,rowsD' (List.map AttT.row l)),(9,int (↑(List.length (List.map AttT.row l)):Int)),(10,int (↑i:Int))],h:=[.var [strD p.nm,int p.number,int p.uses,int p.earn,int p.num,int p.den,rowsD' (List.map ReqT.row p.reqs)],.var [rowsD' (List.map AttT.row l)],.var [.ref (.vec 4 1)],.var [int mid],.vec (vecE (List.foldl (n2F mid (↑i:Int) a.credits) es (elR p a))) 1 3,.var [strD p.nm,int p.number,int p.uses,int p.earn,int p.num,int p.den,rowsD' (List.map ReqT.row p.reqs)],.var [rowsD' (List.map AttT.row l)],.defd,.loop LoopState.ready none 0 (mkT 97 0 [(2,.ref (.ptr 0 0)),(3,.ref (.ptr 1 0)),(5,.ref (.ptr 2 0)),(7,.ref (.ptr 3 0)),(8,int sink),(58,D.fn (Fn.func 65) [] [.ref (.ptr 6 0),.ref (.ptr 5 0)])]) {toList:=[59,60]} (rfAsg (sub Tryz.f16 1)) (rfBody (sub Tryz.f16 1)),.var [int a.course,int a.term,int a.grade,int a.campus,int a.credits]],m:=[]}] (by kernel_rfl) (.c hlt (.c hr (.c (@eligible_ev (p) (hp) (hn) (a) ((n3_body_x0 p l a mid sink es))) (.c hl0 (.c (show Blk.inn 9 (.var [strD p.nm,int p.number,int p.uses,int p.earn,int p.num,int p.den,rowsD' (List.map ReqT.row p.reqs)])=true from rfl) (.c (show Blk.inn 9 (.var [rowsD' (List.map AttT.row l)])=true from rfl) (.c (show Blk.inn 9 (.var [.ref (.vec 4 1)])=true from rfl) (.c (show Blk.inn 9 (.var [int mid])=true from rfl) (.c (show Blk.inn 9 (.vec (vecE (List.foldl (n2F mid (↑i:Int) a.credits) es (elR p a))) 1 3)=true from(by first|assumption|rfl|exact vecE_map _ _|exact vecE_inn _ _|omega)) (.c (show Blk.inn 9 (.var [strD p.nm,int p.number,int p.uses,int p.earn,int p.num,int p.den,rowsD' (List.map ReqT.row p.reqs)])=true from rfl) (.c (show Blk.inn 9 (.var [rowsD' (List.map AttT.row l)])=true from rfl) (.c (show Blk.inn 9 .defd=true from rfl) (.c (show Blk.inn 9 (.loop LoopState.ready none 0 (mkT 97 0 [(2,.ref (.ptr 0 0)),(3,.ref (.ptr 1 0)),(5,.ref (.ptr 2 0)),(7,.ref (.ptr 3 0)),(8,int sink),(58,D.fn (Fn.func 65) [] [.ref (.ptr 6 0),.ref (.ptr 5 0)])]) {toList:=[59,60]} (rfAsg (sub Tryz.f16 1)) (rfBody (sub Tryz.f16 1)))=true from rfl) .n)))))))))))))) ?_ ?_<;>(first|rfl|(simp only[n3F,hw];first|done|rfl))
theorem n3_last{p:ProgT}{l:List AttT}{mid sink:Int}{e0 es:List EdgT}{i:Nat}(hlt:Dd ((i:Int)<((l.map AttT.row).length:Int))=false):(CW Tryz.prog Γ0 (npH p l mid sink e0 0 .ready []) false (sub Tryz.f65 0) (n3S p l mid sink es i) (.exit 0) (n3E p l mid sink es)):=by
 exact CW.cast (CW.symX (s':={t:=mkT 30 0 [],h:=[.var [strD p.nm,int p.number,int p.uses,int p.earn,int p.num,int p.den,rowsD' (List.map ReqT.row p.reqs)],.var [rowsD' (List.map AttT.row l)],.var [.ref (.vec 4 1)],.var [int mid],.vec (vecE es) 1 3,.var [strD p.nm,int p.number,int p.uses,int p.earn,int p.num,int p.den,rowsD' (List.map ReqT.row p.reqs)],.var [rowsD' (List.map AttT.row l)],.defd,.loop LoopState.ready none 0 (mkT 97 0 [(2,.ref (.ptr 0 0)),(3,.ref (.ptr 1 0)),(5,.ref (.ptr 2 0)),(7,.ref (.ptr 3 0)),(8,int sink),(58,D.fn (Fn.func 65) [] [.ref (.ptr 6 0),.ref (.ptr 5 0)])]) {toList:=[59,60]} (rfAsg (sub Tryz.f16 1)) (rfBody (sub Tryz.f16 1))],m:=[]}) (e:=Exit.exit 0) pok [.st (.mask [])] [.b false] (by kernel_rfl) (.c hlt .n)) (by rfl) (by rfl)
theorem elR_len(p:ProgT)(a:AttT):(elR p a).length≤p.reqs.length:=by
 have:=elF_fold (a:=a) p.reqs ([],0)
 unfold elR
 simpa using this
theorem n3_cw{p:ProgT}(hp:p.ok){l:List AttT}{mid sink:Int}{e0:List EdgT}(hn:p.reqs.length≤100)(hl:l.length≤100)(he0:e0.length≤1000):CW Tryz.prog Γ0 (npH p l mid sink e0 0 .ready []) false (.loop (sub Tryz.f65 0)) (n3S p l mid sink e0 0) (.exit 0) (n3E p l mid sink (l.foldl (n3F p mid) (e0,0)).1):=by
 have:=CW.each (P:=Tryz.prog) (Γ:=Γ0) (h0:=npH p l mid sink e0 0 .ready []) (rd:=false) (c:=sub Tryz.f65 0) (σ:=List EdgT×Int) (ρ:=Empty) l (fun a s=>.inl (n3F p mid s a))
  (fun i s=>n3S p l mid sink s.1 (i:Int)) (.exit 0) (fun s=>n3E p l mid sink s.1) (fun r=>r.elim) (fun i s=>s.2=i∧s.1.length≤1000+100*i) (by simp) (fun r=>r.elim) ?_ ?_ (e0,0) (by simp;omega)
 ·rw[forL_fold] at this
  exact this
 ·rintro i a ⟨es,k⟩ hc ⟨hk,he⟩
  simp only at hk he
  subst hk
  have hi:=(List.getElem?_eq_some_iff.1 hc).1
  have h1:=elR_len p a
  refine⟨fun s' h=>?_,n3_body hp (by omega) (rowAt hc rfl) (by omega) (lt_len AttT.row hi) (wrap_succ hi (by omega)) (show es.length≤900000 by omega)⟩
  cases h
  simp only[n3F,n2_len]
  refine⟨by simp,?_⟩
  omega
 ·intro s _
  exact n3_last (ge_len AttT.row l)
theorem npiter_ev{p:ProgT}(hp:p.ok){l:List AttT}{mid sink:Int}{e0:List EdgT}(hn:p.reqs.length≤100)(hl:l.length≤100)(he0:e0.length≤1000):(Ev Tryz.prog Γ0 65 [.ref (.yl 8),.ref (.ptr 6 0),.ref (.ptr 5 0)] (npH p l mid sink e0 0 .ready []) (.tup []) (npH p l mid sink (l.foldl (n3F p mid) (e0,0)).1 1 .ready [])):=by
 have hl0:=(@n3_cw (p) (hp) (l) (mid) (sink) (e0) (hn) (hl) (he0))
 exact Ev.castH (Ev.of_sym (h':=[.var [strD p.nm,int p.number,int p.uses,int p.earn,int p.num,int p.den,rowsD' (List.map ReqT.row p.reqs)],.var [rowsD' (List.map AttT.row l)],.var [.ref (.vec 4 1)],.var [int mid],.vec (vecE (List.foldl (n3F p mid) (e0,0) l).1) 1 3,.var [strD p.nm,int p.number,int p.uses,int p.earn,int p.num,int p.den,rowsD' (List.map ReqT.row p.reqs)],.var [rowsD' (List.map AttT.row l)],.defd,.loop LoopState.ready none 0 (mkT 97 0 [(2,.ref (.ptr 0 0)),(3,.ref (.ptr 1 0)),(5,.ref (.ptr 2 0)),(7,.ref (.ptr 3 0)),(8,int sink),(58,D.fn (Fn.func 65) [] [.ref (.ptr 6 0),.ref (.ptr 5 0)])]) {toList:=[59,60]} (rfAsg (sub Tryz.f16 1)) (rfBody (sub Tryz.f16 1))]) (d:=D.tup []) pok [.nx 1,.st (.ren 4 1),.sum [0,1,2,8,9,10] (Exit.exit 0) {t:=mkT 30 0 [],h:=[.var [strD p.nm,int p.number,int p.uses,int p.earn,int p.num,int p.den,rowsD' (List.map ReqT.row p.reqs)],.var [rowsD' (List.map AttT.row l)],.var [.ref (.vec 4 1)],.var [int mid],.vec (vecE (List.foldl (n3F p mid) (e0,0) l).1) 1 3,.var [strD p.nm,int p.number,int p.uses,int p.earn,int p.num,int p.den,rowsD' (List.map ReqT.row p.reqs)],.var [rowsD' (List.map AttT.row l)],.defd,.loop LoopState.ready none 0 (mkT 97 0 [(2,.ref (.ptr 0 0)),(3,.ref (.ptr 1 0)),(5,.ref (.ptr 2 0)),(7,.ref (.ptr 3 0)),(8,int sink),(58,D.fn (Fn.func 65) [] [.ref (.ptr 6 0),.ref (.ptr 5 0)])]) {toList:=[59,60]} (rfAsg (sub Tryz.f16 1)) (rfBody (sub Tryz.f16 1))],m:=[]}] (by kernel_rfl) (.c (show List.map (D.mapRL (renR 4 0 1)) (vecE e0)=vecE e0 from(by first|assumption|rfl|exact vecE_map _ _|exact vecE_inn _ _|omega)) (.c hl0 .n))) (by rfl) (by rfl)
noncomputable abbrev npH0(p:ProgT)(l:List AttT)(mid:Int)(es:List EdgT):List Blk:=[.var p.l,.var [rowsD' (l.map AttT.row)],.var [.ref (.vec 4 0)],.var [int mid],.vec (vecE es) 0 3,.var p.l,.var [rowsD' (l.map AttT.row)]]
theorem np_rf_cw{p:ProgT}(hp:p.ok){l:List AttT}{mid sink:Int}{e0:List EdgT}(hn:p.reqs.length≤100)(hl:l.length≤100)(he0:e0.length≤1000):CW Tryz.prog Γ0 [] false (sub Tryz.f16 1) {t:=npT sink,h:=npH0 p l mid e0,m:=[]} .normal
  {t:=npT sink,h:=npH p l mid sink (l.foldl (n3F p mid) (e0,0)).1 1 .exhausted [],m:=[7]}:=by
 exact CW.rangeFunc (f:=65) (fi:=[]) (ca:=[.ref (.ptr 6 0),.ref (.ptr 5 0)]) pok (s:={t:=npT sink,h:=npH0 p l mid e0,m:=[]}) (g:=.tmp 58) (ps:=#[59,60]) (asg:=rfAsg (sub Tryz.f16 1)) (body:=rfBody (sub Tryz.f16 1)) rfl (by kernel_rfl) (npiter_ev hp hn hl he0) rfl
noncomputable abbrev n4S(p:ProgT)(l:List AttT)(mid sink:Int)(es:List EdgT)(i:Int):AS:={t:=mkT 97 0 [(5,.ref (.ptr 2 0)),(7,.ref (.ptr 3 0)),(8,int sink),(76,rowsD' (p.reqs.map ReqT.row)),(77,int ((p.reqs.map ReqT.row).length:Int)),(78,int i)],h:=npH p l mid sink es 0 .exhausted [],m:=[7]}
noncomputable abbrev n4E(p:ProgT)(l:List AttT)(mid sink:Int)(es:List EdgT):AS:={t:=mkT 97 0 [(5,.ref (.ptr 2 0)),(8,int sink)],h:=npH p l mid sink es 0 .exhausted [],m:=[7]}
def n4F(mid sink:Int)(s:List EdgT×Int)(q:ReqT):List EdgT×Int:=(s.1++[⟨IntKind.i64.wrap (mid+s.2),sink,q.credits⟩],s.2+1)
theorem n4_body{p:ProgT}{l:List AttT}{q:ReqT}{mid sink:Int}{es:List EdgT}{i:Nat}(hr:RowAt (i:Int) (p.reqs.map ReqT.row) q.row 6)(hlt:Dd ((i:Int)<((p.reqs.map ReqT.row).length:Int))=true)(hw:IntKind.i64.wrap ((i:Int)+1)=((i+1:Nat):Int))(hl:es.length≤1000000):(CW Tryz.prog Γ0 [] false (sub Tryz.f16 2) (n4S p l mid sink es i) .normal (n4S p l mid sink (n4F mid sink (es,(i:Int)) q).1 ((i+1:Nat):Int))):=by
 refine CW.cast (CW.symX (s':={t:=mkT 97 0 [(5,.ref (.ptr 2 0)),(7,.ref (.ptr 3 0)),(8,int sink),(76,rowsD' (List.map ReqT.row p.reqs)),(77,int (↑(List.length (List.map ReqT.row p.reqs)):Int)),(78,int (IntKind.wrap IntKind.i64 ((↑i:Int)+1)))],h:=[.var [strD p.nm,int p.number,int p.uses,int p.earn,int p.num,int p.den,rowsD' (List.map ReqT.row p.reqs)],.var [rowsD' (List.map AttT.row l)],.var [.ref (.vec 4 0)],.var [int mid],.vec (vecE es++[[int (IntKind.wrap IntKind.i64 (mid+(↑i:Int))),int sink,int q.credits]]) 0 3,.var [strD p.nm,int p.number,int p.uses,int p.earn,int p.num,int p.den,rowsD' (List.map ReqT.row p.reqs)],.var [rowsD' (List.map AttT.row l)],.defd,.loop LoopState.exhausted none 0 (mkT 97 0 [(2,.ref (.ptr 0 0)),(3,.ref (.ptr 1 0)),(5,.ref (.ptr 2 0)),(7,.ref (.ptr 3 0)),(8,int sink),(58,D.fn (Fn.func 65) [] [.ref (.ptr 6 0),.ref (.ptr 5 0)])]) {toList:=[59,60]} (rfAsg (sub Tryz.f16 1)) (rfBody (sub Tryz.f16 1))],m:=[7]}) (e:=Exit.normal) pok [.st (.mask [5,7,8,76,77,78]),.st (.ren 4 0),.st (.trimV 9)] [.b true,.row [vs q.nm,vi q.credits,vi q.grade,Dp.v (Value.bool q.home),Dp.sl q.names,Dp.sl (inR1 q.frm)]] (by kernel_rfl) (.c hlt (.c hr (.c (show(List.all [[int (IntKind.wrap IntKind.i64 (mid+(↑i:Int))),int sink,int q.credits]] (rowOk 3)&&roomOk (List.length (vecE es)+List.length [[int (IntKind.wrap IntKind.i64 (mid+(↑i:Int))),int sink,int q.credits]]) 24)=true from ?_) (.c (show List.map (D.mapRL (renR 4 1 0)) (vecE es++[[int (IntKind.wrap IntKind.i64 (mid+(↑i:Int))),int sink,int q.credits]])=vecE es++[[int (IntKind.wrap IntKind.i64 (mid+(↑i:Int))),int sink,int q.credits]] from ?_) (.c (show [[int (IntKind.wrap IntKind.i64 (mid+(↑i:Int))),int sink,int q.credits]]=[[int (IntKind.wrap IntKind.i64 (mid+(↑i:Int))),int sink,int q.credits]] from rfl) (.c (show Blk.inn 9 (match 0==4 with|true=>.vec (vecE es++[[int (IntKind.wrap IntKind.i64 (mid+(↑i:Int))),int sink,int q.credits]]) 0 3|false=>keepX (renR 4 1 0) (.var [strD p.nm,int p.number,int p.uses,int p.earn,int p.num,int p.den,rowsD' (List.map ReqT.row p.reqs)]))=true from rfl) (.c (show Blk.inn 9 (match 0+1==4 with|true=>.vec (vecE es++[[int (IntKind.wrap IntKind.i64 (mid+(↑i:Int))),int sink,int q.credits]]) 0 3|false=>keepX (renR 4 1 0) (.var [rowsD' (List.map AttT.row l)]))=true from rfl) (.c (show Blk.inn 9 (match 0+1+1==4 with|true=>.vec (vecE es++[[int (IntKind.wrap IntKind.i64 (mid+(↑i:Int))),int sink,int q.credits]]) 0 3|false=>keepX (renR 4 1 0) (.var [.ref (.vec 4 1)]))=true from rfl) (.c (show Blk.inn 9 (match 0+1+1+1==4 with|true=>.vec (vecE es++[[int (IntKind.wrap IntKind.i64 (mid+(↑i:Int))),int sink,int q.credits]]) 0 3|false=>keepX (renR 4 1 0) (.var [int mid]))=true from rfl) (.c (show Blk.inn 9 (match 0+1+1+1+1==4 with|true=>.vec (vecE es++[[int (IntKind.wrap IntKind.i64 (mid+(↑i:Int))),int sink,int q.credits]]) 0 3|false=>keepX (renR 4 1 0) (.vec (vecE es++[[int (IntKind.wrap IntKind.i64 (mid+(↑i:Int))),int sink,int q.credits]]) 1 3))=true from ?_) (.c (show Blk.inn 9 (match 0+1+1+1+1+1==4 with|true=>.vec (vecE es++[[int (IntKind.wrap IntKind.i64 (mid+(↑i:Int))),int sink,int q.credits]]) 0 3|false=>keepX (renR 4 1 0) (.var [strD p.nm,int p.number,int p.uses,int p.earn,int p.num,int p.den,rowsD' (List.map ReqT.row p.reqs)]))=true from rfl) (.c (show Blk.inn 9 (match 0+1+1+1+1+1+1==4 with|true=>.vec (vecE es++[[int (IntKind.wrap IntKind.i64 (mid+(↑i:Int))),int sink,int q.credits]]) 0 3|false=>keepX (renR 4 1 0) (.var [rowsD' (List.map AttT.row l)]))=true from rfl) (.c (show Blk.inn 9 (match 0+1+1+1+1+1+1+1==4 with|true=>.vec (vecE es++[[int (IntKind.wrap IntKind.i64 (mid+(↑i:Int))),int sink,int q.credits]]) 0 3|false=>keepX (renR 4 1 0) .defd)=true from rfl) (.c (show Blk.inn 9 (match 0+1+1+1+1+1+1+1+1==4 with|true=>.vec (vecE es++[[int (IntKind.wrap IntKind.i64 (mid+(↑i:Int))),int sink,int q.credits]]) 0 3|false=>keepX (renR 4 1 0) (.loop LoopState.exhausted none 0 (mkT 97 0 [(2,.ref (.ptr 0 0)),(3,.ref (.ptr 1 0)),(5,.ref (.ptr 2 0)),(7,.ref (.ptr 3 0)),(8,int sink),(58,D.fn (Fn.func 65) [] [.ref (.ptr 6 0),.ref (.ptr 5 0)])]) {toList:=[59,60]} (rfAsg (sub Tryz.f16 1)) (rfBody (sub Tryz.f16 1))))=true from rfl) .n))))))))))))))) (by simp only[];first|done|rfl) (by simp only[n4F,hw,vecE_app];first|done|rfl)<;>(first|assumption|rfl|exact vecE_map _ _|exact vecE_inn _ _|(rw[vecE_app];exact vecE_map _ _)|(rw[vecE_app];exact vecE_inn _ _)|(simp[rowOk,D.one,Value.oneCell',roomOk,vecE_len];omega))
theorem n4_last{p:ProgT}{l:List AttT}{mid sink:Int}{es:List EdgT}{i:Nat}(hlt:Dd ((i:Int)<((p.reqs.map ReqT.row).length:Int))=false):(CW Tryz.prog Γ0 [] false (sub Tryz.f16 2) (n4S p l mid sink es i) (.exit 4) (n4E p l mid sink es)):=by
 exact CW.cast (CW.symX (s':={t:=mkT 97 0 [(5,.ref (.ptr 2 0)),(8,int sink)],h:=[.var [strD p.nm,int p.number,int p.uses,int p.earn,int p.num,int p.den,rowsD' (List.map ReqT.row p.reqs)],.var [rowsD' (List.map AttT.row l)],.var [.ref (.vec 4 0)],.var [int mid],.vec (vecE es) 0 3,.var [strD p.nm,int p.number,int p.uses,int p.earn,int p.num,int p.den,rowsD' (List.map ReqT.row p.reqs)],.var [rowsD' (List.map AttT.row l)],.defd,.loop LoopState.exhausted none 0 (mkT 97 0 [(2,.ref (.ptr 0 0)),(3,.ref (.ptr 1 0)),(5,.ref (.ptr 2 0)),(7,.ref (.ptr 3 0)),(8,int sink),(58,D.fn (Fn.func 65) [] [.ref (.ptr 6 0),.ref (.ptr 5 0)])]) {toList:=[59,60]} (rfAsg (sub Tryz.f16 1)) (rfBody (sub Tryz.f16 1))],m:=[7]}) (e:=Exit.exit 4) pok [.st (.mask [5,8])] [.b false] (by kernel_rfl) (.c hlt .n)) (by rfl) (by rfl)
theorem n4_cw{p:ProgT}{l:List AttT}{mid sink:Int}{e0:List EdgT}(hn:p.reqs.length≤100)(he:e0.length≤100000):CW Tryz.prog Γ0 [] false (.loop (sub Tryz.f16 2)) (n4S p l mid sink e0 0) (.exit 4) (n4E p l mid sink (p.reqs.foldl (n4F mid sink) (e0,0)).1):=by
 have:=CW.each (P:=Tryz.prog) (Γ:=Γ0) (h0:=[]) (rd:=false) (c:=sub Tryz.f16 2) (σ:=List EdgT×Int) (ρ:=Empty) p.reqs (fun a s=>.inl (n4F mid sink s a))
  (fun i s=>n4S p l mid sink s.1 (i:Int)) (.exit 4) (fun s=>n4E p l mid sink s.1) (fun r=>r.elim) (fun i s=>s.2=i∧s.1.length≤e0.length+i) (by simp) (fun r=>r.elim) ?_ ?_ (e0,0) (by simp)
 ·rw[forL_fold] at this
  exact this
 ·rintro i a ⟨es,k⟩ hc ⟨hk,he⟩
  simp only at hk he
  subst hk
  have hi:=(List.getElem?_eq_some_iff.1 hc).1
  refine⟨fun s' h=>?_,n4_body (rowAt hc rfl) (lt_len ReqT.row hi) (wrap_succ hi (by omega)) (show es.length≤1000000 by omega)⟩
  cases h
  simp[n4F];omega
 ·intro s _
  exact n4_last (ge_len ReqT.row p.reqs)
abbrev midR(l:List AttT):Int:=IntKind.i64.wrap (1+((l.map AttT.row).length:Int))
abbrev sinkR(p:ProgT)(l:List AttT):Int:=IntKind.i64.wrap (midR l+((p.reqs.map ReqT.row).length:Int))
def net1(p:ProgT)(l:List AttT):List EdgT:=(l.foldl (n1F p) ([],0)).1
def net2(p:ProgT)(l:List AttT):List EdgT:=(l.foldl (n3F p (midR l)) (net1 p l,0)).1
def net3(p:ProgT)(l:List AttT):List EdgT:=(p.reqs.foldl (n4F (midR l) (sinkR p l)) (net2 p l,0)).1
theorem net1_len(p:ProgT)(l:List AttT):(net1 p l).length=l.length:=by unfold net1;rw[n1_len];simp
theorem n3_len{p:ProgT}{mid:Int}:∀(l:List AttT) (s:List EdgT×Int),(l.foldl (n3F p mid) s).1.length≤s.1.length+l.length*p.reqs.length
 | [],s=>by simp
 | a::l,s=>by
  have h1:=n3_len (p:=p) (mid:=mid) l (n3F p mid s a)
  have h2:=elR_len p a
  simp only[List.foldl_cons,List.length_cons,Nat.add_mul,Nat.one_mul]
  simp only[n3F,n2_len] at h1 ⊢
  omega
theorem net2_len(p:ProgT)(l:List AttT)(hn:p.reqs.length≤100)(hl:l.length≤100):(net2 p l).length≤10100:=by
 unfold net2
 have h1:=n3_len (p:=p) (mid:=midR l) l (net1 p l,0)
 have h2:=net1_len p l
 have h3:l.length*p.reqs.length≤100*100:=Nat.mul_le_mul hl hn
 simp only at h1
 omega
def netX(p:ProgT)(l:List AttT)(e:Int):Int×List EdgT×Int:=match pErr p != 0 with
 | true=>(0,[],pErr p)
 | false=>match e != 0 with
  | true=>(0,[],e)
  | false=>(IntKind.i64.wrap (sinkR p l+1),net3 p l,0)
abbrev netR(p:ProgT)(l:List AttT):Int×List EdgT×Int:=netX p l (sumsR l).2.2
noncomputable abbrev net_a_x0(p:ProgT)(l:List AttT):List Blk:=[.var [strD p.nm,int p.number,int p.uses,int p.earn,int p.num,int p.den,rowsD' (List.map ReqT.row p.reqs)],.var [rowsD' (List.map AttT.row l)],.var [nq]]
noncomputable abbrev net_a_x1(p:ProgT):List D:=[D.agg [strD p.nm,int p.number,int p.uses,int p.earn,int p.num,int p.den,rowsD' (List.map ReqT.row p.reqs)]]
theorem net_a{p:ProgT}(hp:p.ok)(hpn:I64 p.num)(hpd:I64 p.den){l:List AttT}(hn:p.reqs.length≤100)(hl:l.length≤100)(h1:(net1 p l).length≤1000)(h2:(net2 p l).length≤100000){a b c:Int}(hs:∀h,Ev Tryz.prog Γ0 36 [rowsD' (l.map AttT.row)] h (.tup [int a,int b,int c]) h)(h:List Blk):(Ev Tryz.prog Γ0 16 [.agg p.l,rowsD' (l.map AttT.row)] h (.tup [int (netX p l c).1,rowsD' ((netX p l c).2.1.map EdgT.row),int (netX p l c).2.2]) h):=by
 cases hc0:pErr p != 0
 ·cases hc1:c != 0
  ·have hl2:=(@n1_cw (p) (l) (IntKind.wrap IntKind.i64 (1+(↑(List.length (List.map AttT.row l)):Int))) (IntKind.wrap IntKind.i64 (IntKind.wrap IntKind.i64 (1+(↑(List.length (List.map AttT.row l)):Int))+(↑(List.length (List.map ReqT.row p.reqs)):Int))) (by first|assumption|rfl|exact vecE_frz _|exact vecE_map _ _|exact vecE_inn _ _|omega))
   have hl3:=(@np_rf_cw (p) (hp) (l) (IntKind.wrap IntKind.i64 (1+(↑(List.length (List.map AttT.row l)):Int))) (IntKind.wrap IntKind.i64 (IntKind.wrap IntKind.i64 (1+(↑(List.length (List.map AttT.row l)):Int))+(↑(List.length (List.map ReqT.row p.reqs)):Int))) ((List.foldl (n1F p) ([],0) l).1) (hn) (hl) (h1))
   have hl4:=(@n4_cw (p) (l) (IntKind.wrap IntKind.i64 (1+(↑(List.length (List.map AttT.row l)):Int))) (IntKind.wrap IntKind.i64 (IntKind.wrap IntKind.i64 (1+(↑(List.length (List.map AttT.row l)):Int))+(↑(List.length (List.map ReqT.row p.reqs)):Int))) ((List.foldl (n3F p (IntKind.wrap IntKind.i64 (1+(↑(List.length (List.map AttT.row l)):Int)))) ((List.foldl (n1F p) ([],0) l).1,0) l).1) (hn) (h2))
   refine Ev.castH (Ev.nilW (Ev.sym0 (d:=D.tup [int (IntKind.wrap IntKind.i64 (IntKind.wrap IntKind.i64 (IntKind.wrap IntKind.i64 (1+(↑(List.length (List.map AttT.row l)):Int))+(↑(List.length (List.map ReqT.row p.reqs)):Int))+1)),rowsD' (List.map EdgT.row (net3 p l)),int 0]) pok [.val (int (pErr p)),.b false,.val (D.tup [int a,int b,int c]),.b false,.nx 3,.st (.nilC 2 0 3),.sum [2,3,5,7,8,37,38,39] (Exit.exit 0) {t:=mkT 97 0 [(2,.ref (.ptr 0 0)),(3,.ref (.ptr 1 0)),(5,.ref (.ptr 2 0)),(7,.ref (.ptr 3 0)),(8,int (IntKind.wrap IntKind.i64 (IntKind.wrap IntKind.i64 (1+(↑(List.length (List.map AttT.row l)):Int))+(↑(List.length (List.map ReqT.row p.reqs)):Int))))],h:=[.var [strD p.nm,int p.number,int p.uses,int p.earn,int p.num,int p.den,rowsD' (List.map ReqT.row p.reqs)],.var [rowsD' (List.map AttT.row l)],.var [.ref (.vec 4 0)],.var [int (IntKind.wrap IntKind.i64 (1+(↑(List.length (List.map AttT.row l)):Int)))],.vec (vecE (List.foldl (n1F p) ([],0) l).1) 0 3],m:=[]},.inl,.sum [2,3,5,7,8,58] (Exit.normal) {t:=mkT 97 0 [(2,.ref (.ptr 0 0)),(3,.ref (.ptr 1 0)),(5,.ref (.ptr 2 0)),(7,.ref (.ptr 3 0)),(8,int (IntKind.wrap IntKind.i64 (IntKind.wrap IntKind.i64 (1+(↑(List.length (List.map AttT.row l)):Int))+(↑(List.length (List.map ReqT.row p.reqs)):Int)))),(58,D.fn (Fn.func 65) [] [.ref (.ptr 6 0),.ref (.ptr 5 0)])],h:=[.var [strD p.nm,int p.number,int p.uses,int p.earn,int p.num,int p.den,rowsD' (List.map ReqT.row p.reqs)],.var [rowsD' (List.map AttT.row l)],.var [.ref (.vec 4 1)],.var [int (IntKind.wrap IntKind.i64 (1+(↑(List.length (List.map AttT.row l)):Int)))],.vec (vecE (List.foldl (n3F p (IntKind.wrap IntKind.i64 (1+(↑(List.length (List.map AttT.row l)):Int)))) ((List.foldl (n1F p) ([],0) l).1,0) l).1) 1 3,.var [strD p.nm,int p.number,int p.uses,int p.earn,int p.num,int p.den,rowsD' (List.map ReqT.row p.reqs)],.var [rowsD' (List.map AttT.row l)],.defd,.loop LoopState.exhausted none 0 (mkT 97 0 [(2,.ref (.ptr 0 0)),(3,.ref (.ptr 1 0)),(5,.ref (.ptr 2 0)),(7,.ref (.ptr 3 0)),(8,int (IntKind.wrap IntKind.i64 (IntKind.wrap IntKind.i64 (1+(↑(List.length (List.map AttT.row l)):Int))+(↑(List.length (List.map ReqT.row p.reqs)):Int)))),(58,D.fn (Fn.func 65) [] [.ref (.ptr 6 0),.ref (.ptr 5 0)])]) {toList:=[59,60]} (rfAsg (sub Tryz.f16 1)) (rfBody (sub Tryz.f16 1))],m:=[7]},.nx 1,.st (.ren 4 0),.sum [5,7,8,76,77,78] (Exit.exit 4) {t:=mkT 97 0 [(5,.ref (.ptr 2 0)),(8,int (IntKind.wrap IntKind.i64 (IntKind.wrap IntKind.i64 (1+(↑(List.length (List.map AttT.row l)):Int))+(↑(List.length (List.map ReqT.row p.reqs)):Int))))],h:=[.var [strD p.nm,int p.number,int p.uses,int p.earn,int p.num,int p.den,rowsD' (List.map ReqT.row p.reqs)],.var [rowsD' (List.map AttT.row l)],.var [.ref (.vec 4 0)],.var [int (IntKind.wrap IntKind.i64 (1+(↑(List.length (List.map AttT.row l)):Int)))],.vec (vecE (List.foldl (n4F (IntKind.wrap IntKind.i64 (1+(↑(List.length (List.map AttT.row l)):Int))) (IntKind.wrap IntKind.i64 (IntKind.wrap IntKind.i64 (1+(↑(List.length (List.map AttT.row l)):Int))+(↑(List.length (List.map ReqT.row p.reqs)):Int)))) ((List.foldl (n3F p (IntKind.wrap IntKind.i64 (1+(↑(List.length (List.map AttT.row l)):Int)))) ((List.foldl (n1F p) ([],0) l).1,0) l).1,0) p.reqs).1) 0 3,.var [strD p.nm,int p.number,int p.uses,int p.earn,int p.num,int p.den,rowsD' (List.map ReqT.row p.reqs)],.var [rowsD' (List.map AttT.row l)],.defd,.loop LoopState.exhausted none 0 (mkT 97 0 [(2,.ref (.ptr 0 0)),(3,.ref (.ptr 1 0)),(5,.ref (.ptr 2 0)),(7,.ref (.ptr 3 0)),(8,int (IntKind.wrap IntKind.i64 (IntKind.wrap IntKind.i64 (1+(↑(List.length (List.map AttT.row l)):Int))+(↑(List.length (List.map ReqT.row p.reqs)):Int)))),(58,D.fn (Fn.func 65) [] [.ref (.ptr 6 0),.ref (.ptr 5 0)])]) {toList:=[59,60]} (rfAsg (sub Tryz.f16 1)) (rfBody (sub Tryz.f16 1))],m:=[7]},.st (.frz 4 (List.map EdgT.row (net3 p l)))] (by kernel_rfl) (.c (@dcheck_ev (p) (hp) (hpn) (hpd) ((net_a_x0 p l))) (.c hc0 (.c (@hs ((net_a_x0 p l))) (.c hc1 (.c hl2 (.c hl3 (.c (show List.map (D.mapRL (renR 4 1 0)) (vecE (List.foldl (n3F p (IntKind.wrap IntKind.i64 (1+(↑(List.length (List.map AttT.row l)):Int)))) ((List.foldl (n1F p) ([],0) l).1,0) l).1)=vecE (List.foldl (n3F p (IntKind.wrap IntKind.i64 (1+(↑(List.length (List.map AttT.row l)):Int)))) ((List.foldl (n1F p) ([],0) l).1,0) l).1 from ?_) (.c hl4 (.c (show vecE (List.foldl (n4F (IntKind.wrap IntKind.i64 (1+(↑(List.length (List.map AttT.row l)):Int))) (IntKind.wrap IntKind.i64 (IntKind.wrap IntKind.i64 (1+(↑(List.length (List.map AttT.row l)):Int))+(↑(List.length (List.map ReqT.row p.reqs)):Int)))) ((List.foldl (n3F p (IntKind.wrap IntKind.i64 (1+(↑(List.length (List.map AttT.row l)):Int)))) ((List.foldl (n1F p) ([],0) l).1,0) l).1,0) p.reqs).1=List.map (fun x=>List.map D.p x) (List.map EdgT.row (net3 p l)) from ?_) (.e (rowsD' (List.map EdgT.row (net3 p l))) .n)))))))))) rfl rfl h)) (by simp only[netX,hc0,hc1];first|done|rfl) (by rfl)<;>(first|assumption|rfl|exact vecE_frz _|exact vecE_map _ _|exact vecE_inn _ _|omega)
  ·exact Ev.castH (Ev.nilW (Ev.sym0 (d:=D.tup [int 0,nq,int c]) pok [.val (int (pErr p)),.b false,.val (D.tup [int a,int b,int c]),.b true] (by kernel_rfl) (.c (@dcheck_ev (p) (hp) (hpn) (hpd) ((net_a_x0 p l))) (.c hc0 (.c (@hs ((net_a_x0 p l))) (.c hc1 .n)))) rfl rfl h)) (by simp only[netX,hc0,hc1];first|done|rfl) (by rfl)
 ·exact Ev.castH (Ev.nilW (Ev.sym0 (d:=D.tup [int 0,nq,int (pErr p)]) pok [.val (int (pErr p)),.b true] (by kernel_rfl) (.c (@dcheck_ev (p) (hp) (hpn) (hpd) ((net_a_x0 p l))) (.c hc0 .n)) rfl rfl h)) (by simp only[netX,hc0];first|done|rfl) (by rfl)
theorem net_ev{p:ProgT}(hp:p.ok){l:List AttT}(hn:p.reqs.length≤100)(hl:l.length≤100)(h:List Blk):Ev Tryz.prog Γ0 16 [.agg p.l,rowsD' (l.map AttT.row)] h (.tup [int (netR p l).1,rowsD' ((netR p l).2.1.map EdgT.row),int (netR p l).2.2]) h :=
 net_a hp hp.nm hp.dn hn hl (by have:=net1_len p l;omega) (by have:=net2_len p l hn hl;omega) (fun h=>sums_ev (by unfold Short;omega) h) h
end Go.Vi
