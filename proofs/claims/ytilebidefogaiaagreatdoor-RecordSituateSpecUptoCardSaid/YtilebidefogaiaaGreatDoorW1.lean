/- RecordSituateSpecUpto: part of the proof: contracts of the functions that the law reaches, and the law. No conditions beyond the given statement's own. -/
import Derived.Test.YtilebidefogaiaaGreatDoorV7
import Derived.Test.YtilebidefogaiaaGreatDoorChecked
import Derived.Test.YtilebidefogaiaaGreatDoorCards
import Derived.Test.YtilebidefogaiaaGreatDoorTie
import Derived.WalkKit
import Derived.ProofKit
import Derived.OpenShut
import Derived.Deep.DeepHandedRow
import Derived.Lib.LaidTab
open Decidable renaming decide → Zd
open List renaming mem_of_getElem? → H1, getElem?_eq_some_iff → Hs, forall_mem_cons → Iz, mem_cons → HR, length → Hn, foldl → HP, map → Hl
open Go.Proofs.Tryz renaming prog → Hm, f136 → Lq, f86 → IX, f178 → Li, f226 → Ic, f239 → Mp
open Go.Vi.Ev renaming sym0 → JE, of_sym → JP, castH → H4, glob0 → H5
open Go.IntKind renaming u64 → Ja, wrap → Ht, i64 → Hp
open Bool renaming false_and → Ix, false_eq_true → Ik, not_eq_true' → IU
open Nat renaming gcd → Io
open Int renaming tmod_eq_emod_of_nonneg → Mj
open Go.Exit renaming normal → HA, ret → IB, exit → HT
open Go.LoopState renaming busy → Ji, ready → Ia, exhausted → Ip, done → Kp
open Go.Vi.D renaming fn → I4
open Go.Fn renaming func → H2
open Go.Value renaming tuple → Ii
open Go.Code renaming ret → L9
open Go Go.Proofs
namespace Go.Vi
set_option maxRecDepth 100000
set_option maxHeartbeats 4000000
theorem pok_of {P:Program} (h1:P.follows .mixedOrders=true) (h2:(P.funcs.toList.all fun fn=>!(fn.name == "runtime.NumGoroutine"))=true):POk P where
 mixed:=h1
 plain f fn hf:=by
  have:=List.all_eq_true.1 h2 fn (by rw[←Array.getElem?_toList] at hf;exact H1 hf)
  simpa using this
abbrev int(n:Int):D:=lit (.int .i64 n)
abbrev u64(n:Int):D:=lit (.int .u64 n)
abbrev bool(b:Bool):D:=lit (.bool b)
abbrev vi(n:Int):Dp:=.v (.int .i64 n)
abbrev vs(s:ByteArray):Dp:=.v (.string s)
abbrev au(s:ByteArray):D:=lit (.string s)
abbrev ab(es:List (List Dp)):D:=.p (.sl es)
abbrev ag(r:List Dp):D:=.agg (r.map .p)
abbrev fq(k:Nat):D:=lit (.func (.func k) #[] #[])
abbrev nq:D:=lit (.slice none 0 0)
theorem gd{p:Prop}(c:Bool)(h:p):c=true→p:=fun _=>h
theorem eqa{b:Bool}(h:b=true):(b==true)=true:=by rw[h];rfl
theorem eqb{b:Bool}(h:b=false):(b==true)=false:=by rw[h];rfl
theorem eqc{b:Bool}(h:b=false):(b==false)=true:=by rw[h];rfl
theorem eqd{b:Bool}(h:b=true):(b==false)=false:=by rw[h];rfl
abbrev Γ0:aw:=fun _=>none
theorem pok:POk Hm:=pok_of (by kernel_rfl) (by kernel_rfl)
theorem zx{Γ:aw}{h0:List Blk}{rd:Bool}{c:Code}{s s':AS}{e:Exit}{φ:List Prop}(os az:List Ans)(hp:AllP φ)(hk:Bi h0 os (symC Hm Γ h0 rd c s az)=some (e,s',φ):=by kernel_rfl):CW Hm Γ h0 rd c s e s':=CW.symX pok os az hk hp
theorem zX{Γ:aw}{h0:List Blk}{rd:Bool}{c:Code}{s s2:AS}{e2:Exit}{φ:List Prop}(s':AS)(e:Exit)(os az:List Ans)(hp:AllP φ)(he:e=e2)(hs:s'=s2)(hk:Bi h0 os (symC Hm Γ h0 rd c s az)=some (e,s',φ):=by kernel_rfl):CW Hm Γ h0 rd c s e2 s2:=he▸hs▸CW.symX pok os az hk hp
theorem z0{Γ:aw}{f:FuncId}{args:List D}{d:D}{φ:List Prop}(az:List Ans)(hp:AllP φ)(h:List Blk)(hk:out0 (C3 Hm Γ f args [] az)=some (d,φ):=by kernel_rfl)(ha:D.innL 0 args=true:=by exact rfl)(hd:D.Om 0 d=true:=by exact rfl):Ev Hm Γ f args h d h:=JE pok az hk hp ha hd h
theorem zD{Γ:aw}{f:FuncId}{args:List D}{d2:D}{φ:List Prop}(d:D)(az:List Ans)(hp:AllP φ)(h:List Blk)(he:d=d2)(hk:out0 (C3 Hm Γ f args [] az)=some (d,φ):=by kernel_rfl)(ha:D.innL 0 args=true:=by exact rfl)(hd:D.Om 0 d=true:=by exact rfl):Ev Hm Γ f args h d2 h:=he▸JE pok az hk hp ha hd h
theorem pkt(a b:D){x:Bool}(h:x=true)(ha:ez a=true:=by exact rfl):cL (bool x) a b a:=Bb h ha
theorem pkf(a b:D){x:Bool}(h:x=false)(hb:ez b=true:=by exact rfl):cL (bool x) a b b:=Bc h hb
set_option maxRecDepth 100000
def I64(n:Int):Prop := -9223372036854775808≤n∧n≤9223372036854775807
theorem ym{n:Int}(h:I64 n)(hn:n<0):Ja.wrap (0 - Ja.wrap n)=(n.natAbs:Int):=by
 obtain⟨h1,h2⟩:=h
 simp only[Ht,IntKind.bits,IntKind.signed,Ix,Ik,if_false]
 omega
theorem yn{n:Int}(h:I64 n)(hn:¬n<0):Ja.wrap n=(n.natAbs:Int):=by
 obtain⟨h1,h2⟩:=h
 simp only[Ht,IntKind.bits,IntKind.signed,Ix,Ik,if_false]
 omega
theorem fH{n:Int}(hn:I64 n)(h:List Blk):Ev Hm Γ0 147 [int n] h (u64 n.natAbs) h:=by
 by_cases h0:n<0
 ·rw[←ym hn h0]
  exact JE pok (φ:=[Zd (n<0)=true]) [.b true] (by kernel_rfl) ⟨by simpa using h0,trivial⟩ rfl rfl h
 ·rw[←yn hn h0]
  exact JE pok (φ:=[Zd (n<0)=false]) [.b false] (by kernel_rfl) ⟨by simpa using h0,trivial⟩ rfl rfl h
theorem aY{n:Int}(hn:I64 n)(h:List Blk):Ev Hm Γ0 176 [int n] h (u64 n.natAbs) h:=by
 by_cases h0:n<0
 ·rw[←ym hn h0]
  exact JE pok (φ:=[Zd (n<0)=true]) [.b true] (by kernel_rfl) ⟨by simpa using h0,trivial⟩ rfl rfl h
 ·rw[←yn hn h0]
  exact JE pok (φ:=[Zd (n<0)=false]) [.b false] (by kernel_rfl) ⟨by simpa using h0,trivial⟩ rfl rfl h
abbrev c6:Blk:=.var [.fn (.func 146) [] [.ref (.ptr 0 0)]]
theorem Ee:∀(y x:Nat),Ev Hm Γ0 146 [u64 x,u64 y,.ref (.ptr 0 0)] [c6] (u64 (Io y x)) [c6]:=by
 intro y
 induction y using Nat.strongRecOn with
 | _ y ih =>
  intro x
  by_cases h0:y=0
  ·subst h0
   rw[Nat.gcd_zero_left]
   exact JP pok (φ:=[((0:Int)==0)=true]) [.b true] (by kernel_rfl) ⟨by simp,trivial⟩
  ·have hi:=ih (x % y) (Nat.mod_lt _ (by omega)) y
   rw[←Nat.gcd_rec] at hi
   refine JP pok (φ:=[((y:Int)==0)=false,(!Zd ((y:Int)=0))=true,Ev Hm Γ0 146 [u64 y,u64 ((x:Int).tmod y),.ref (.ptr 0 0)] [c6] (u64 (Io y x)) [c6]]) [.b false,.val (u64 (Io y x))] (by kernel_rfl) ⟨?_,?_,?_,trivial⟩
   ·simp;omega
   ·simp;omega
   ·rw[show(x:Int).tmod y=((x % y:Nat):Int) by rw[Mj (by omega)];simp]
    exact hi
theorem il{a b:Int}(ha:I64 a)(hb:I64 b)(h:List Blk):Ev Hm Γ0 101 [int a,int b] h (u64 (Io b.natAbs a.natAbs)) h :=
 JE pok (φ:=[Ev Hm Γ0 147 [int a] [c6] (u64 a.natAbs) [c6],Ev Hm Γ0 147 [int b] [c6] (u64 b.natAbs) [c6],
   Ev Hm Γ0 146 [u64 a.natAbs,u64 b.natAbs,.ref (.ptr 0 0)] [c6] (u64 (Io b.natAbs a.natAbs)) [c6]])
  [.val (u64 a.natAbs),.val (u64 b.natAbs),.val (u64 (Io b.natAbs a.natAbs))] (by kernel_rfl) ⟨fH ha _,fH hb _,Ee _ _,trivial⟩ rfl rfl h
def Ef(n d:Int):Bool:=Zd (d<1)||Zd (d>1073741824)||Zd (n < -1073741824)||Zd (n>1073741824)||(Io d.natAbs n.natAbs:Int) != 1
def yp(n d:Int):Int:=if Ef n d then 50 else 0
theorem Bq{n d:Int}(hn:I64 n)(hd:I64 d)(h:List Blk):Ev Hm Γ0 49 [.agg [int n,int d]] h (int (yp n d)) h:=by
 have hc:=il hn hd [.var [int n,int d]]
 cases hb:Ef n d
 ·simp only[yp,hb]
  exact JE pok (φ:=[(!(Zd (d<1)||Zd (d>1073741824)||Zd (n < -1073741824)||Zd (n>1073741824)))=true →
    Ev Hm Γ0 101 [int n,int d] [.var [int n,int d]] (u64 (Io d.natAbs n.natAbs)) [.var [int n,int d]],Ef n d=false])
   [.val (u64 (Io d.natAbs n.natAbs)),.b false] (by kernel_rfl) ⟨fun _=>hc,hb,trivial⟩ rfl rfl h
 ·simp only[yp,hb]
  exact JE pok (φ:=[(!(Zd (d<1)||Zd (d>1073741824)||Zd (n < -1073741824)||Zd (n>1073741824)))=true →
    Ev Hm Γ0 101 [int n,int d] [.var [int n,int d]] (u64 (Io d.natAbs n.natAbs)) [.var [int n,int d]],Ef n d=true])
   [.val (u64 (Io d.natAbs n.natAbs)),.b true] (by kernel_rfl) ⟨fun _=>hc,hb,trivial⟩ rfl rfl h
theorem Br(x y:Nat):(x:Int).tmod y=((x % y:Nat):Int):=by
 rw[Mj (by omega)];simp
theorem mC(p:Nat×Nat):CW Hm Γ0 [] false (.loop (sub Tryz.f175 0)) {t:=mkT 12 0 [(0,u64 p.1),(1,u64 p.2),(4,u64 0)],h:=[],m:=[]} (.exit 0) {t:=mkT 12 0 [(0,u64 (Io p.2 p.1)),(4,u64 0)],h:=[],m:=[]}:=by
 refine CW.loop (fun p:Nat×Nat=>{t:=mkT 12 0 [(0,u64 p.1),(1,u64 p.2),(4,u64 0)],h:=[],m:=[]}) (fun p=>(.exit 0,{t:=mkT 12 0 [(0,u64 (Io p.2 p.1)),(4,u64 0)],h:=[],m:=[]})) (fun p=>p.2) ?_ p
 rintro⟨x,y⟩
 by_cases h0:y=0
 ·subst h0
  refine .inr ⟨by simp,?_⟩
  simp only[Nat.gcd_zero_left]
  exact CW.sym pok (φ:=[Zd ((0:Int)>0)=false]) [0,4] [.b false] (by kernel_rfl) ⟨by simp,trivial⟩
 ·refine .inl ⟨(y,x % y),Nat.mod_lt _ (by omega),by simp only[←Nat.gcd_rec],?_⟩
  have:=CW.sym (P:=Hm) (Γ:=Γ0) (h0:=[]) (rd:=false) (c:=sub Tryz.f175 0) (s:={t:=mkT 12 0 [(0,u64 x),(1,u64 y),(4,u64 0)],h:=[],m:=[]}) (s':={t:=mkT 12 0 [(0,u64 y),(1,u64 ((x:Int).tmod y)),(4,u64 0)],h:=[],m:=[]}) (e:=.normal) pok
   (φ:=[Zd ((y:Int)>0)=true,(!Zd ((y:Int)=0))=true]) [0,1,4] [.b true] (by kernel_rfl) ⟨by simp;omega,by simp;omega,trivial⟩
  rw[Br] at this
  exact this
theorem dY(x y:Nat)(h:List Blk):Ev Hm Γ0 175 [u64 x,u64 y] h (u64 (Io y x)) h :=
 JE pok (φ:=[CW Hm Γ0 [] false (.loop (sub Tryz.f175 0)) {t:=mkT 12 0 [(0,u64 x),(1,u64 y),(4,u64 0)],h:=[],m:=[]} (.exit 0) {t:=mkT 12 0 [(0,u64 (Io y x)),(4,u64 0)],h:=[],m:=[]}])
  [.sum [0,1,4,5] (.exit 0) {t:=mkT 12 0 [(0,u64 (Io y x)),(4,u64 0)],h:=[],m:=[]}] (by kernel_rfl) ⟨mC (x,y),trivial⟩ rfl rfl h
theorem sW{n d:Int}(hn:I64 n)(hd:I64 d)(h:List Blk):Ev Hm Γ0 142 [.agg [int n,int d]] h (int (yp n d)) h:=by
 have h1:=aY hn [.var [int n,int d]]
 have h2:=aY hd [.var [int n,int d]]
 have h3:=dY n.natAbs d.natAbs [.var [int n,int d]]
 cases hb:Ef n d
 ·simp only[yp,hb]
  exact JE pok (φ:=[(!(Zd (d<1)||Zd (d>1073741824)||Zd (n < -1073741824)||Zd (n>1073741824)))=true →
    Ev Hm Γ0 176 [int n] [.var [int n,int d]] (u64 n.natAbs) [.var [int n,int d]],
    (!(Zd (d<1)||Zd (d>1073741824)||Zd (n < -1073741824)||Zd (n>1073741824)))=true →
    Ev Hm Γ0 176 [int d] [.var [int n,int d]] (u64 d.natAbs) [.var [int n,int d]],
    (!(Zd (d<1)||Zd (d>1073741824)||Zd (n < -1073741824)||Zd (n>1073741824)))=true →
    Ev Hm Γ0 175 [u64 n.natAbs,u64 d.natAbs] [.var [int n,int d]] (u64 (Io d.natAbs n.natAbs)) [.var [int n,int d]],Ef n d=false])
   [.val (u64 n.natAbs),.val (u64 d.natAbs),.val (u64 (Io d.natAbs n.natAbs)),.b false] (by kernel_rfl) ⟨fun _=>h1,fun _=>h2,fun _=>h3,hb,trivial⟩ rfl rfl h
 ·simp only[yp,hb]
  exact JE pok (φ:=[(!(Zd (d<1)||Zd (d>1073741824)||Zd (n < -1073741824)||Zd (n>1073741824)))=true →
    Ev Hm Γ0 176 [int n] [.var [int n,int d]] (u64 n.natAbs) [.var [int n,int d]],
    (!(Zd (d<1)||Zd (d>1073741824)||Zd (n < -1073741824)||Zd (n>1073741824)))=true →
    Ev Hm Γ0 176 [int d] [.var [int n,int d]] (u64 d.natAbs) [.var [int n,int d]],
    (!(Zd (d<1)||Zd (d>1073741824)||Zd (n < -1073741824)||Zd (n>1073741824)))=true →
    Ev Hm Γ0 175 [u64 n.natAbs,u64 d.natAbs] [.var [int n,int d]] (u64 (Io d.natAbs n.natAbs)) [.var [int n,int d]],Ef n d=true])
   [.val (u64 n.natAbs),.val (u64 d.natAbs),.val (u64 (Io d.natAbs n.natAbs)),.b true] (by kernel_rfl) ⟨fun _=>h1,fun _=>h2,fun _=>h3,hb,trivial⟩ rfl rfl h
set_option maxHeartbeats 20000
structure Cls where
 name:ByteArray
 earn:Int
 num:Int
 den:Int
 deriving Inhabited
def Cls.row(c:Cls):List Dp:=[vs c.name,vi c.earn,vi c.num,vi c.den]
def Cls.ok(c:Cls):Prop:=I64 c.earn∧I64 c.num∧I64 c.den
structure FeeT where
 name:ByteArray
 bY:Int
 deriving Inhabited
def FeeT.row(c:FeeT):List Dp:=[vs c.name,vi c.bY]
def af{α:Type}(l:List α):Prop:=l.length≤140737488355328
theorem Bs{α:Type}{row:α→List Dp}{l:List α}{n:Nat}{a:α}(h:l[n]? = some a):(l.map row).getD n []=row a:=by
 simp[List.getD_eq_getElem?_getD,h]
theorem rowAt{α:Type}{row:α→List Dp}{l:List α}{n:Nat}{a:α}{sz:Nat}(h:l[n]? = some a)(hs:(row a).length=sz):aj (n:Int) (l.map row) (row a) sz:=by
 have:=(Hs.1 h).1
 refine⟨?_,Bs h,hs⟩
 simp[inR]
 omega
set_option maxHeartbeats 40000
structure Sys where
 O8:List Cls
 Sk:List FeeT
 O9:List Cls
 clauses:List (List Dp)
structure Sys.ok (s:Sys):Prop where
 c:∀c∈s.O8,c.ok
 h:∀c∈s.O9,c.ok
 f:∀f∈s.Sk,I64 f.bY
 lc:af s.O8
 lh:af s.O9
 lf:af s.Sk
 ll:af s.clauses
def fnv(k:Nat):D:=lit (.func (.func k) #[] #[])
theorem f5(a:Int)(h:List Blk):Ev Hm Γ0 123 [int a] h (bool false) h:=by
 have:=JE (P:=Hm) (Γ:=Γ0) (f:=123) (args:=[int a]) (d:=bool (a != a)) pok (φ:=[]) [] (by kernel_rfl) trivial rfl rfl h
 simpa using this
def aU(a b:Int):Int:=if a<b then -1 else if a>b then 1 else 0
theorem cU(a b:Int)(h:List Blk):Ev Hm Γ0 66 [int a,int b] h (int (aU a b)) h:=by
 by_cases h1:a<b
 ·simp only[aU,h1,if_true]
  exact JE pok (φ:=[Ev Hm Γ0 123 [int a] [] (bool false) [],Ev Hm Γ0 123 [int b] [] (bool false) [],false=false,false=false,Zd (a<b)=true])
   [.val (bool false),.val (bool false),.b false,.b false,.b true] (by kernel_rfl) ⟨f5 _ _,f5 _ _,rfl,rfl,decide_eq_true h1,trivial⟩ rfl rfl h
 ·by_cases h2:a>b
  ·simp only[aU,h1,h2,if_true,if_false]
   exact JE pok (φ:=[Ev Hm Γ0 123 [int a] [] (bool false) [],Ev Hm Γ0 123 [int b] [] (bool false) [],false=false,false=false,Zd (a<b)=false,Zd (a>b)=true])
    [.val (bool false),.val (bool false),.b false,.b false,.b false,.b true] (by kernel_rfl) ⟨f5 _ _,f5 _ _,rfl,rfl,decide_eq_false h1,decide_eq_true h2,trivial⟩ rfl rfl h
  ·simp only[aU,h1,h2,if_false]
   exact JE pok (φ:=[Ev Hm Γ0 123 [int a] [] (bool false) [],Ev Hm Γ0 123 [int b] [] (bool false) [],false=false,false=false,Zd (a<b)=false,Zd (a>b)=false])
    [.val (bool false),.val (bool false),.b false,.b false,.b false,.b false] (by kernel_rfl) ⟨f5 _ _,f5 _ _,rfl,rfl,decide_eq_false h1,decide_eq_false h2,trivial⟩ rfl rfl h
theorem wrap_succ{i n:Nat}(h:i<n)(hn:n≤140737488355328):Hp.wrap ((i:Int)+1)=((i+1:Nat):Int):=by
 rw[wrap_i64 (by omega) (by omega)];omega
theorem lt_len{α:Type}(row:α→List Dp){l:List α}{i:Nat}(h:i<l.length):Zd ((i:Int)<((l.map row).length:Int))=true:=by simp;omega
theorem aJ{α:Type}(row:α→List Dp)(l:List α):Zd ((l.length:Int)<((l.map row).length:Int))=false:=by simp
def few(s:Vi.Sys):Bool:=Zd (Hp.wrap (Hp.wrap (Hp.wrap (((s.O8.map Cls.row).length:Int)+((s.Sk.map FeeT.row).length:Int))+((s.O9.map Cls.row).length:Int))+(s.clauses.length:Int))≤40)
set_option maxHeartbeats 400000
open Go.ChangeShapes Go.WideShapes Go.ChangeAt Go.RowKit Go.Proofs.YtilebidefogaiaaGreatDoor
set_option maxRecDepth 100000
theorem im:Hm.cellsOf 3=1:=by kernel_rfl
theorem uM:Hm.cellsOf 9=1:=by kernel_rfl
theorem yq:Hm.cellsOf 35=2:=by kernel_rfl
theorem Eg:Hm.cellsOf 72=1:=by kernel_rfl
theorem Eh:Hm.cellsOf 73=1:=by kernel_rfl
theorem Ei:Hm.cellsOf 74=1:=by kernel_rfl
theorem Ej:Hm.cellsOf 76=4:=by kernel_rfl
theorem Ek:Hm.cellsOf 87=2:=by kernel_rfl
theorem El:Hm.cellsOf 91=4:=by kernel_rfl
theorem Em:Hm.bytesOf 91=40:=by kernel_rfl
theorem En:Hm.bytesOf 87=24:=by kernel_rfl
theorem Bt:Hm.bytesOf 102=32:=by kernel_rfl
theorem ba{n:Nat}{ds:List Dp}(h:Shp Hm n 3 ds):∃x,ds=[vi x]∧I64 x:=by
 cases n with
 | zero=>exact h.elim
 | succ n =>
  simp only[Shp,Tryz.underlying3] at h
  obtain⟨x,rfl,hw⟩:=h
  refine⟨x,rfl,?_⟩
  have:=bounds_i64 hw
  exact this
theorem pa{n:Nat}{ds:List Dp}(h:Shp Hm n 9 ds):∃s,ds=[vs s]:=by
 cases n with
 | zero=>exact h.elim
 | succ n =>
  simp only[Shp,Tryz.underlying9] at h
  obtain⟨s,rfl,_⟩:=h
  exact⟨s,rfl⟩
theorem yr{n:Nat}{ds:List Dp}(h:Shp Hm n 35 ds):∃a b,ds=[vi a,vi b]∧I64 a∧I64 b:=by
 cases n with
 | zero=>exact h.elim
 | succ n =>
  simp only[Shp,Tryz.underlying35,Iz,im,yq] at h
  obtain⟨hl,h1,h2,_⟩:=h
  obtain⟨a,e1,ha⟩:=ba h1
  obtain⟨b,e2,hb⟩:=ba h2
  match ds,hl with
  | [x,y],_ =>
   simp at e1 e2
   subst e1;subst e2
   exact⟨a,b,rfl,ha,hb⟩
theorem yu{n:Nat}{ds:List Dp}(h:Shp Hm n 91 ds):∃c:Cls,ds=c.row∧c.ok:=by
 cases n with
 | zero=>exact h.elim
 | succ n =>
  simp only[Shp,Tryz.underlying91,Iz,im,uM,yq,El] at h
  obtain⟨hl,h1,h2,h3,_⟩:=h
  obtain⟨s,e1⟩:=pa h1
  obtain⟨x,e2,hx⟩:=ba h2
  obtain⟨a,b,e3,ha,hb⟩:=yr h3
  match ds,hl with
  | [p,q,r,t],_ =>
   simp at e1 e2 e3
   obtain⟨rfl,rfl⟩:=e3
   subst e1;subst e2
   exact⟨⟨s,x,a,b⟩,rfl,hx,ha,hb⟩
theorem Eo{n:Nat}{ds:List Dp}(h:Shp Hm n 87 ds):∃c:FeeT,ds=c.row∧I64 c.bY:=by
 cases n with
 | zero=>exact h.elim
 | succ n =>
  simp only[Shp,Tryz.underlying87,Iz,im,uM,Ek] at h
  obtain⟨hl,h1,h2,_⟩:=h
  obtain⟨s,e1⟩:=pa h1
  obtain⟨x,e2,hx⟩:=ba h2
  match ds,hl with
  | [p,q],_ =>
   simp at e1 e2
   subst e1;subst e2
   exact⟨⟨s,x⟩,rfl,hx⟩
theorem io{α:Type}{row:α→List Dp}{ok:α→Prop}:∀{es:List (List Dp)},(∀r∈es,∃a,r=row a∧ok a)→∃l:List α,es=l.map row∧∀a∈l,ok a
 | [],_=>⟨[],rfl,by simp⟩
 | r::es,h=>by
  obtain⟨a,rfl,ha⟩:=h r (List.mem_cons_self ..)
  obtain⟨l,rfl,hl⟩:=io (fun r hr=>h r (List.mem_cons_of_mem _ hr))
  exact⟨a::l,rfl,fun b hb=>(HR.1 hb).elim (fun e=>e▸ha) (hl b)⟩
theorem f7{n k:Nat}(h:n*k≤reachBytes)(hk:1≤k):n≤140737488355328:=by
 have:n≤n*k:=Nat.le_mul_of_pos_right n hk
 unfold reachBytes at h
 omega
theorem lD{n:Nat}{ds:List Dp}(h:Shp Hm n 72 ds):∃l:List Cls,ds=[.sl (l.map Cls.row)]∧(∀c∈l,c.ok)∧af l:=by
 cases n with
 | zero=>exact h.elim
 | succ n =>
  simp only[Shp,Tryz.underlying72,Em] at h
  obtain⟨es,rfl,hb,he⟩:=h
  obtain⟨l,rfl,hl⟩:=io (row:=Cls.row) (ok:=Cls.ok) (fun r hr=>yu (he r hr))
  exact⟨l,rfl,hl,by have:=f7 hb (by omega);simpa[af] using this⟩
theorem Bu{n:Nat}{ds:List Dp}(h:Shp Hm n 73 ds):∃l:List FeeT,ds=[.sl (l.map FeeT.row)]∧(∀c∈l,I64 c.bY)∧af l:=by
 cases n with
 | zero=>exact h.elim
 | succ n =>
  simp only[Shp,Tryz.underlying73,En] at h
  obtain⟨es,rfl,hb,he⟩:=h
  obtain⟨l,rfl,hl⟩:=io (row:=FeeT.row) (ok:=fun c=>I64 c.bY) (fun r hr=>Eo (he r hr))
  exact⟨l,rfl,hl,by have:=f7 hb (by omega);simpa[af] using this⟩
end Go.Vi
open Go Go.Proofs
namespace Go.Vi
set_option maxHeartbeats 4000000
open Go.ChangeShapes Go.WideShapes Go.ChangeAt Go.RowKit Go.Proofs.YtilebidefogaiaaGreatDoor
set_option maxRecDepth 100000
theorem ownK:ownKnob Hm.godebug=none:=by kernel_rfl
theorem Ep:laidOutB Hm=true:=by kernel_rfl
def kd(a b c d:Bool)(f g:Value):List Value:=[.bool a,.bool b,.bool c,.bool d,f,g]
def kf(k:Nat):Value:=.func (.func k) #[] #[]
def kindsCells:List Value :=
 kd false false false false .nilFunc .nilFunc++kd false false false true (kf 257) (kf 258)++kd false false false true (kf 259) (kf 260)++kd false true false true (kf 261) (kf 262) ++
 kd false false false true (kf 263) (kf 264)++kd true true false false (kf 265) (kf 267)++kd true true false false (kf 269) (kf 270)++kd false true false false (kf 271) (kf 272) ++
 kd false true true false (kf 273) (kf 274)++kd true false false false (kf 266) (kf 275)
noncomputable def lE(os:Os):World :=
 {World.holding Hm os ⟨#[],#[],[]⟩ with heap:=(World.holding Hm os ⟨#[],#[],[]⟩).heap.modify 0 fun
   | .cells _ t frozen=>.cells kindsCells.toArray t frozen
   | o=>o}
theorem laid_met (os:Os) (args:Array Value):laidMetH Hm [("sizar/rules.kinds",Rows.laid_sizar_rules_kinds)] ((lE os).forCall (fun _ _=>0) ⟨#[],args,[]⟩).memory :=
 laidMetH_of_parts3 (fuel:=8) (laidMet_nil _ _) (by kernel_rfl) (by kernel_rfl)
end Go.Vi
open Go Go.Proofs
namespace Go.Vi
set_option maxRecDepth 100000
set_option maxHeartbeats 4000000
structure FactT where
 kind:Int
 sub:Int
 obj:Int
 value:Int
 frm:Int
 By:Int
 known:Int
 no:Int
 deriving Inhabited
def FactT.row(f:FactT):List Dp:=[vi f.kind,vi f.sub,vi f.obj,vi f.value,vi f.frm,vi f.By,vi f.known,vi f.no]
def FactT.ok(f:FactT):Prop:=I64 f.kind∧I64 f.sub∧I64 f.obj∧I64 f.value∧I64 f.frm∧I64 f.By∧I64 f.known∧I64 f.no
def orI(a b:Int):Int:=if (a != 0)=true then a else if (b != 0)=true then b else 0
abbrev orR(a b:Int):List (List Dp):=[[vi a],[vi b]]
abbrev orS(a b:Int)(i:Int)(h:List Blk):AS:={t:=mkT 18 0 [(2,int 0),(3,int 0),(6,ab (orR a b)),(7,int 2),(8,int i)],h:=h,m:=[]}
theorem or_0{a b:Int}{h0 h:List Blk}(hr:aj 0 (orR a b) [vi a] 1)(hz:(a != 0)=false):(CW Hm Γ0 h0 false (sub Lq 0) (orS a b 0 h) .normal (orS a b 1 h)):=by
 refine zX {t:=mkT 18 0 [(2,int 0),(3,int 0),(6,ab [[vi a],[vi b]]),(7,int 2),(8,int (Ht Hp (0+1)))],h:=h,m:=[]} HA [.st (.mask [2,3,6,7,8])] [.b true,.row [vi a],.b false] (.c (show Zd (0<2)=true from rfl) (.c hr (.c hz .n))) ?_ ?_<;>(rfl)
theorem or_1{a b:Int}{h0 h:List Blk}(hr:aj 1 (orR a b) [vi b] 1)(hz:(b != 0)=false):(CW Hm Γ0 h0 false (sub Lq 0) (orS a b 1 h) .normal (orS a b 2 h)):=by
 refine zX {t:=mkT 18 0 [(2,int 0),(3,int 0),(6,ab [[vi a],[vi b]]),(7,int 2),(8,int (Ht Hp (1+1)))],h:=h,m:=[]} HA [.st (.mask [2,3,6,7,8])] [.b true,.row [vi b],.b false] (.c (show Zd (1<2)=true from rfl) (.c hr (.c hz .n))) ?_ ?_<;>(rfl)
theorem or_0r{a b:Int}{h0 h:List Blk}(hr:aj 0 (orR a b) [vi a] 1)(hz:(a != 0)=true):(CW Hm Γ0 h0 false (sub Lq 0) (orS a b 0 h) .ret {t:=mkT 18 0 [(2,int a)],h:=h,m:=[]}):=by
 refine zX {t:=mkT 18 0 [(2,int a)],h:=h,m:=[]} IB [.st (.mask [2])] [.b true,.row [vi a],.b true] (.c (show Zd (0<2)=true from rfl) (.c hr (.c hz .n))) ?_ ?_<;>(rfl)
theorem or_1r{a b:Int}{h0 h:List Blk}(hr:aj 1 (orR a b) [vi b] 1)(hz:(b != 0)=true):(CW Hm Γ0 h0 false (sub Lq 0) (orS a b 1 h) .ret {t:=mkT 18 0 [(2,int b)],h:=h,m:=[]}):=by
 refine zX {t:=mkT 18 0 [(2,int b)],h:=h,m:=[]} IB [.st (.mask [2])] [.b true,.row [vi b],.b true] (.c (show Zd (1<2)=true from rfl) (.c hr (.c hz .n))) ?_ ?_<;>(rfl)
theorem or_2{a b:Int}{h0 h:List Blk}:(CW Hm Γ0 h0 false (sub Lq 0) (orS a b 2 h) (.exit 0) {t:=mkT 18 0 [(2,int 0),(3,int 0)],h:=h,m:=[]}):=by
 refine zX {t:=mkT 18 0 [(2,int 0),(3,int 0)],h:=h,m:=[]} (HT 0) [.st (.mask [2,3])] [.b false] (.c (show Zd (2<2)=false from rfl) .n) ?_ ?_<;>(rfl)
def yv(a b:Int)(h:List Blk):Exit×AS:=match a != 0 with
 | true=>(.ret,{t:=mkT 18 0 [(2,int a)],h:=h,m:=[]})
 | false=>match b != 0 with
  | true=>(.ret,{t:=mkT 18 0 [(2,int b)],h:=h,m:=[]})
  | false=>(.exit 0,{t:=mkT 18 0 [(2,int 0),(3,int 0)],h:=h,m:=[]})
theorem or_cw{a b:Int}{h0 h:List Blk}:CW Hm Γ0 h0 false (.loop (sub Lq 0)) (orS a b 0 h) (yv a b h).1 (yv a b h).2:=by
 have r0:aj 0 (orR a b) [vi a] 1:=⟨rfl,rfl,rfl⟩
 have r1:aj 1 (orR a b) [vi b] 1:=⟨rfl,rfl,rfl⟩
 unfold yv
 cases ha:a != 0
 ·cases hb:b != 0
  ·refine CW.loopN 2 (fun i=>orS a b i h) (by simp) (fun i hi=>?_) or_2
   match i,hi with
   | 0,_=>exact or_0 r0 ha
   | 1,_=>exact or_1 r1 hb
  ·refine CW.loopN 1 (fun i=>orS a b i h) (by simp) (fun i hi=>?_) (or_1r r1 hb)
   match i,hi with
   | 0,_=>exact or_0 r0 ha
 ·exact CW.loopN 0 (fun i=>orS a b i h) (by simp) (fun i hi=>absurd hi (Nat.not_lt_zero i)) (or_0r r0 ha)
noncomputable abbrev dB(a:FactT)(b:FactT):List Blk:=[.var [int a.kind,int a.sub,int a.obj,int a.value,int a.frm,int a.By,int a.known,int a.no],.var [int b.kind,int b.sub,int b.obj,int b.value,int b.frm,int b.By,int b.known,int b.no]]
theorem jc{a b:FactT}(h:List Blk):(Ev Hm Γ0 84 [ag a.row,ag b.row] h (int (orI (aU a.known b.known) (aU a.no b.no))) h):=by
 have N1:=(@or_cw (aU a.known b.known) (aU a.no b.no) ([.var [int a.kind,int a.sub,int a.obj,int a.value,int a.frm,int a.By,int a.known,int a.no],.var [int b.kind,int b.sub,int b.obj,int b.value,int b.frm,int b.By,int b.known,int b.no],.vec [[int (aU a.known b.known)],[int (aU a.no b.no)]] 0 1]) ([.var [int a.kind,int a.sub,int a.obj,int a.value,int a.frm,int a.By,int a.known,int a.no],.var [int b.kind,int b.sub,int b.obj,int b.value,int b.frm,int b.By,int b.known,int b.no],.gone]))
 unfold yv at N1
 revert N1
 cases O0:aU a.known b.known != 0 with
 | false =>
  intro N1
  revert N1
  cases O1:aU a.no b.no != 0 with
  | false =>
   intro N1
   exact zD (int 0) [.val (int (aU a.known b.known)),.val (int (aU a.no b.no)),.inl,.st (.frz 2 (orR (aU a.known b.known) (aU a.no b.no))),.sum [2,3,6,7,8] (HT 0) {t:=mkT 18 0 [(2,int 0),(3,int 0)],h:=[.var [int a.kind,int a.sub,int a.obj,int a.value,int a.frm,int a.By,int a.known,int a.no],.var [int b.kind,int b.sub,int b.obj,int b.value,int b.frm,int b.By,int b.known,int b.no],.gone],m:=[]}] (.c (@cU (a.known) (b.known) (dB a b)) (.c (@cU (a.no) (b.no) (dB a b)) (.er [[int (aU a.known b.known)],[int (aU a.no b.no)]] (.c N1 (.e (.ref (.ptr 0 6)) (.e (int a.known) (.e (.ref (.ptr 1 6)) (.e (int b.known) (.e (.ref (.ptr 0 7)) (.e (.ref (.ptr 0 7)) (.e (int a.no) (.e (int a.no) (.e (.ref (.ptr 1 7)) (.e (.ref (.ptr 1 7)) (.e (int b.no) (.e (int b.no) .n)))))))))))))))) h (by simp[orI,O0,O1])
  | true =>
   intro N1
   exact zD (int (aU a.no b.no)) [.val (int (aU a.known b.known)),.val (int (aU a.no b.no)),.inl,.st (.frz 2 (orR (aU a.known b.known) (aU a.no b.no))),.sum [2,3,6,7,8] (IB) {t:=mkT 18 0 [(2,int (aU a.no b.no))],h:=[.var [int a.kind,int a.sub,int a.obj,int a.value,int a.frm,int a.By,int a.known,int a.no],.var [int b.kind,int b.sub,int b.obj,int b.value,int b.frm,int b.By,int b.known,int b.no],.gone],m:=[]}] (.c (@cU (a.known) (b.known) (dB a b)) (.c (@cU (a.no) (b.no) (dB a b)) (.er [[int (aU a.known b.known)],[int (aU a.no b.no)]] (.c N1 (.e (.ref (.ptr 0 6)) (.e (int a.known) (.e (.ref (.ptr 1 6)) (.e (int b.known) (.e (.ref (.ptr 0 7)) (.e (.ref (.ptr 0 7)) (.e (int a.no) (.e (int a.no) (.e (.ref (.ptr 1 7)) (.e (.ref (.ptr 1 7)) (.e (int b.no) (.e (int b.no) .n)))))))))))))))) h (by simp[orI,O0,O1])
 | true =>
  intro N1
  exact zD (int (aU a.known b.known)) [.val (int (aU a.known b.known)),.val (int (aU a.no b.no)),.inl,.st (.frz 2 (orR (aU a.known b.known) (aU a.no b.no))),.sum [2,3,6,7,8] (IB) {t:=mkT 18 0 [(2,int (aU a.known b.known))],h:=[.var [int a.kind,int a.sub,int a.obj,int a.value,int a.frm,int a.By,int a.known,int a.no],.var [int b.kind,int b.sub,int b.obj,int b.value,int b.frm,int b.By,int b.known,int b.no],.gone],m:=[]}] (.c (@cU (a.known) (b.known) (dB a b)) (.c (@cU (a.no) (b.no) (dB a b)) (.er [[int (aU a.known b.known)],[int (aU a.no b.no)]] (.c N1 (.e (.ref (.ptr 0 6)) (.e (int a.known) (.e (.ref (.ptr 1 6)) (.e (int b.known) (.e (.ref (.ptr 0 7)) (.e (.ref (.ptr 0 7)) (.e (int a.no) (.e (int a.no) (.e (.ref (.ptr 1 7)) (.e (.ref (.ptr 1 7)) (.e (int b.no) (.e (int b.no) .n)))))))))))))))) h (by simp[orI,O0])
theorem dC{n a b:Int}(h:List Blk):(Ev Hm Γ0 138 [int n,int a,int b] h (bool (Zd (a≤n)&&Zd (n≤b))) h):=by
 exact zD (bool (Zd (a≤n)&&Zd (n≤b))) [] .n h (by rfl)
def gi(f:FactT):Bool:=Zd (1≤f.kind)&&Zd (f.kind≤12)&&(Zd (0≤f.sub)&&Zd (f.sub≤20000))&&(Zd (0≤f.obj)&&Zd (f.obj≤20000))&&(Zd (-1≤f.value)&&Zd (f.value≤1099511627776)) &&
 Zd (0≤f.frm)&&Zd (f.frm<f.By)&&Zd (f.By≤1024)&&(Zd (1≤f.known)&&Zd (f.known≤16777216))&&(Zd (0≤f.no)&&Zd (f.no≤65535))
noncomputable abbrev dD(f:FactT):List Blk:=[.var [int f.kind,int f.sub,int f.obj,int f.value,int f.frm,int f.By,int f.known,int f.no]]
theorem Er{f:FactT}(h:List Blk):(Ev Hm Γ0 83 [ag f.row] h (bool (gi f)) h):=by
 exact z0 [.val (bool (Zd (1≤f.kind)&&Zd (f.kind≤12))),.val (bool (Zd (0≤f.sub)&&Zd (f.sub≤20000))),.val (bool (Zd (0≤f.obj)&&Zd (f.obj≤20000))),.val (bool (Zd (-1≤f.value)&&Zd (f.value≤1099511627776))),.val (bool (Zd (1≤f.known)&&Zd (f.known≤16777216))),.val (bool (Zd (0≤f.no)&&Zd (f.no≤65535)))] (.c (@dC (f.kind) 1 12 (dD f)) (.c (gd (Zd (1≤f.kind)&&Zd (f.kind≤12)) (@dC (f.sub) 0 20000 (dD f))) (.c (gd (Zd (1≤f.kind)&&Zd (f.kind≤12)&&(Zd (0≤f.sub)&&Zd (f.sub≤20000))) (@dC (f.obj) 0 20000 (dD f))) (.c (gd (Zd (1≤f.kind)&&Zd (f.kind≤12)&&(Zd (0≤f.sub)&&Zd (f.sub≤20000))&&(Zd (0≤f.obj)&&Zd (f.obj≤20000))) (@dC (f.value) (-1) 1099511627776 (dD f))) (.c (gd (Zd (1≤f.kind)&&Zd (f.kind≤12)&&(Zd (0≤f.sub)&&Zd (f.sub≤20000))&&(Zd (0≤f.obj)&&Zd (f.obj≤20000))&&(Zd (-1≤f.value)&&Zd (f.value≤1099511627776))&&Zd (0≤f.frm)&&Zd (f.frm<f.By)&&Zd (f.By≤1024)) (@dC (f.known) 1 16777216 (dD f))) (.c (gd (Zd (1≤f.kind)&&Zd (f.kind≤12)&&(Zd (0≤f.sub)&&Zd (f.sub≤20000))&&(Zd (0≤f.obj)&&Zd (f.obj≤20000))&&(Zd (-1≤f.value)&&Zd (f.value≤1099511627776))&&Zd (0≤f.frm)&&Zd (f.frm<f.By)&&Zd (f.By≤1024)&&(Zd (1≤f.known)&&Zd (f.known≤16777216))) (@dC (f.no) 0 65535 (dD f))) .n)))))) h
structure AttT where
 aT:Int
 term:Int
 oR:Int
 tO:Int
 bY:Int
 deriving Inhabited
def AttT.row(a:AttT):List Dp:=[vi a.aT,vi a.term,vi a.oR,vi a.tO,vi a.bY]
theorem bp{n a b:Int}(h:List Blk):(Ev Hm Γ0 59 [int n,int a,int b] h (bool (Zd (n≥a)&&Zd (n≤b))) h):=by
 exact z0 [] .n h
theorem eD{n a b:Int}(h:List Blk):(Ev Hm Γ0 87 [int n,int a,int b] h (bool (Zd (n≥a)&&Zd (n≤b))) h):=by
 exact z0 [] .n h
theorem bn{n a b:Int}(h:List Blk):(Ev Hm Γ0 67 [int n,int a,int b] h (bool (Zd (n≥a)&&Zd (n≤b))) h):=by
 exact z0 [] .n h
theorem bb{n a b:Int}(h:List Blk):(Ev Hm Γ0 113 [int n,int a,int b] h (bool (Zd (n≥a)&&Zd (n≤b))) h):=by
 exact z0 [] .n h
theorem ce{n a b:Int}(h:List Blk):(Ev Hm Γ0 125 [int n,int a,int b] h (bool (Zd (n≥a)&&Zd (n≤b))) h):=by
 exact z0 [] .n h
theorem cz{n a b:Int}(h:List Blk):(Ev Hm Γ0 164 [int n,int a,int b] h (bool (Zd (n≥a)&&Zd (n≤b))) h):=by
 exact z0 [] .n h
noncomputable abbrev cV(a:AttT)(b:AttT):List Blk:=[.var [int a.aT,int a.term,int a.oR,int a.tO,int a.bY],.var [int b.aT,int b.term,int b.oR,int b.tO,int b.bY]]
theorem Bw{a b:AttT}(h:List Blk):(Ev Hm Γ0 79 [ag a.row,ag b.row] h (int (orI (aU a.term b.term) (aU a.aT b.aT))) h):=by
 have N1:=(@or_cw (aU a.term b.term) (aU a.aT b.aT) ([.var [int a.aT,int a.term,int a.oR,int a.tO,int a.bY],.var [int b.aT,int b.term,int b.oR,int b.tO,int b.bY],.vec [[int (aU a.term b.term)],[int (aU a.aT b.aT)]] 0 1]) ([.var [int a.aT,int a.term,int a.oR,int a.tO,int a.bY],.var [int b.aT,int b.term,int b.oR,int b.tO,int b.bY],.gone]))
 unfold yv at N1
 revert N1
 cases O0:aU a.term b.term != 0 with
 | false =>
  intro N1
  revert N1
  cases O1:aU a.aT b.aT != 0 with
  | false =>
   intro N1
   exact zD (int 0) [.val (int (aU a.term b.term)),.val (int (aU a.aT b.aT)),.inl,.st (.frz 2 (orR (aU a.term b.term) (aU a.aT b.aT))),.sum [2,3,6,7,8] (HT 0) {t:=mkT 18 0 [(2,int 0),(3,int 0)],h:=[.var [int a.aT,int a.term,int a.oR,int a.tO,int a.bY],.var [int b.aT,int b.term,int b.oR,int b.tO,int b.bY],.gone],m:=[]}] (.c (@cU (a.term) (b.term) (cV a b)) (.c (@cU (a.aT) (b.aT) (cV a b)) (.er [[int (aU a.term b.term)],[int (aU a.aT b.aT)]] (.c N1 (.e (.ref (.ptr 0 1)) (.e (int a.term) (.e (.ref (.ptr 1 1)) (.e (int b.term) (.e (.ref (.ptr 0 0)) (.e (.ref (.ptr 0 0)) (.e (int a.aT) (.e (int a.aT) (.e (.ref (.ptr 1 0)) (.e (.ref (.ptr 1 0)) (.e (int b.aT) (.e (int b.aT) .n)))))))))))))))) h (by simp[orI,O0,O1])
  | true =>
   intro N1
   exact zD (int (aU a.aT b.aT)) [.val (int (aU a.term b.term)),.val (int (aU a.aT b.aT)),.inl,.st (.frz 2 (orR (aU a.term b.term) (aU a.aT b.aT))),.sum [2,3,6,7,8] (IB) {t:=mkT 18 0 [(2,int (aU a.aT b.aT))],h:=[.var [int a.aT,int a.term,int a.oR,int a.tO,int a.bY],.var [int b.aT,int b.term,int b.oR,int b.tO,int b.bY],.gone],m:=[]}] (.c (@cU (a.term) (b.term) (cV a b)) (.c (@cU (a.aT) (b.aT) (cV a b)) (.er [[int (aU a.term b.term)],[int (aU a.aT b.aT)]] (.c N1 (.e (.ref (.ptr 0 1)) (.e (int a.term) (.e (.ref (.ptr 1 1)) (.e (int b.term) (.e (.ref (.ptr 0 0)) (.e (.ref (.ptr 0 0)) (.e (int a.aT) (.e (int a.aT) (.e (.ref (.ptr 1 0)) (.e (.ref (.ptr 1 0)) (.e (int b.aT) (.e (int b.aT) .n)))))))))))))))) h (by simp[orI,O0,O1])
 | true =>
  intro N1
  exact zD (int (aU a.term b.term)) [.val (int (aU a.term b.term)),.val (int (aU a.aT b.aT)),.inl,.st (.frz 2 (orR (aU a.term b.term) (aU a.aT b.aT))),.sum [2,3,6,7,8] (IB) {t:=mkT 18 0 [(2,int (aU a.term b.term))],h:=[.var [int a.aT,int a.term,int a.oR,int a.tO,int a.bY],.var [int b.aT,int b.term,int b.oR,int b.tO,int b.bY],.gone],m:=[]}] (.c (@cU (a.term) (b.term) (cV a b)) (.c (@cU (a.aT) (b.aT) (cV a b)) (.er [[int (aU a.term b.term)],[int (aU a.aT b.aT)]] (.c N1 (.e (.ref (.ptr 0 1)) (.e (int a.term) (.e (.ref (.ptr 1 1)) (.e (int b.term) (.e (.ref (.ptr 0 0)) (.e (.ref (.ptr 0 0)) (.e (int a.aT) (.e (int a.aT) (.e (.ref (.ptr 1 0)) (.e (.ref (.ptr 1 0)) (.e (int b.aT) (.e (int b.aT) .n)))))))))))))))) h (by simp[orI,O0])
def inB(n a b:Int):Bool:=Zd (n≥a)&&Zd (n≤b)
def attB(a:AttT):Bool:=inB a.aT 0 4095&&inB a.term 0 1023&&inB a.oR 0 12&&inB a.tO 0 6&&inB a.bY 0 60
noncomputable abbrev dT(a:AttT):List Blk:=[.var [int a.aT,int a.term,int a.oR,int a.tO,int a.bY]]
theorem Bx{a:AttT}(h:List Blk):(Ev Hm Γ0 157 [ag a.row] h (bool (attB a)) h):=by
 exact z0 [.val (bool (Zd (a.aT≥0)&&Zd (a.aT≤4095))),.val (bool (Zd (a.term≥0)&&Zd (a.term≤1023))),.val (bool (Zd (a.oR≥0)&&Zd (a.oR≤12))),.val (bool (Zd (a.tO≥0)&&Zd (a.tO≤6))),.val (bool (Zd (a.bY≥0)&&Zd (a.bY≤60)))] (.c (@cz (a.aT) 0 4095 (dT a)) (.c (gd (Zd (a.aT≥0)&&Zd (a.aT≤4095)) (@cz (a.term) 0 1023 (dT a))) (.c (gd (Zd (a.aT≥0)&&Zd (a.aT≤4095)&&(Zd (a.term≥0)&&Zd (a.term≤1023))) (@cz (a.oR) 0 12 (dT a))) (.c (gd (Zd (a.aT≥0)&&Zd (a.aT≤4095)&&(Zd (a.term≥0)&&Zd (a.term≤1023))&&(Zd (a.oR≥0)&&Zd (a.oR≤12))) (@cz (a.tO) 0 6 (dT a))) (.c (gd (Zd (a.aT≥0)&&Zd (a.aT≤4095)&&(Zd (a.term≥0)&&Zd (a.term≤1023))&&(Zd (a.oR≥0)&&Zd (a.oR≤12))&&(Zd (a.tO≥0)&&Zd (a.tO≤6))) (@cz (a.bY) 0 60 (dT a))) .n))))) h
noncomputable abbrev qR(a:AttT):List Blk:=[.var [int a.aT,int a.term,int a.oR,int a.tO,int a.bY]]
theorem yw{a:AttT}(h:List Blk):(Ev Hm Γ0 156 [ag a.row] h (bool (!attB a)) h):=by
 exact z0 [.val (bool (attB a))] (.c (@Bx a (qR a)) .n) h
theorem yy{a:AttT}(h:List Blk):(Ev Hm Γ0 80 [ag a.row] h (bool (Zd (a.aT≥0)&&Zd (a.aT<4096)&&Zd (a.term≥0)&&Zd (a.term<1024)&&Zd (a.oR≥0)&&Zd (a.oR≤12)&&Zd (a.tO≥0)&&Zd (a.tO<7)&&Zd (a.bY≥0)&&Zd (a.bY≤60))) h):=by
 exact z0 [] .n h
theorem uN{a b:Int}(h:List Blk):(Ev Hm Γ0 75 [int a,int b] h (.agg [int 5,int a,int b]) h):=by
 exact z0 [] .n h
structure ClauseT where
 kind:Int
 when_:Int
 action:Int
 By:Int
 deriving Inhabited
def ClauseT.row(a:ClauseT):List Dp:=[vi a.kind,vi a.when_,vi a.action,vi a.By]
def xaF(p:AttT→Bool)(c:AttT)(s:Nat):Nat⊕Nat:=if p c=true then .inr s else .inl (s+1)
abbrev xaS(fs:List (List Dp))(f:D)(h:List Blk)(i:Int):AS:={t:=mkT 19 0 [(0,ab fs),(1,f),(4,int 0),(7,int fs.length),(8,int i)],h:=h,m:=[]}
abbrev xaX(h:List Blk):Nat→Exit×AS:=fun k=>(.ret,{t:=mkT 19 0 [(4,int (k:Int))],h:=h,m:=[]})
theorem Es{fs:List (List Dp)}{i:Nat}{c:AttT}{f:D}{h:List Blk}{p:AttT→Bool}(hr:aj (i:Int) fs (AttT.row c) 5)(iF:Zd ((i:Int)<(fs.length:Int))=true)(hw:Hp.wrap ((i:Int)+1)=((i+1:Nat):Int))(hi:Iv Hm Γ0 f [ag (AttT.row c)] h (bool (p c)) h):(CW Hm Γ0 h false (sub Tryz.f196 0) (xaS fs f h i) (ah (fun _=>xaS fs f h ((i+1:Nat):Int)) (xaX h) (xaF p c i)).1 (ah (fun _=>xaS fs f h ((i+1:Nat):Int)) (xaX h) (xaF p c i)).2):=by
 cases dO:p c
 ·refine zX {t:=mkT 19 0 [(0,ab fs),(1,f),(4,int 0),(7,int (↑(Hn fs):Int)),(8,int (Ht Hp ((↑i:Int)+1)))],h:=h,m:=[]} HA [.st (.mask [0,1,4,7,8])] [.b true,.row (AttT.row c),.ival (bool (p c)),.b false] (.c iF (.c hr (.c (@hi) (.c dO .n)))) ?_ ?_<;>(simp[xaF,ah, *])
 ·refine zX {t:=mkT 19 0 [(4,int (↑i:Int))],h:=h,m:=[]} IB [.st (.mask [4])] [.b true,.row (AttT.row c),.ival (bool (p c)),.b true] (.c iF (.c hr (.c (@hi) (.c dO .n)))) ?_ ?_<;>(simp[xaF,ah, *])
theorem Et{fs:List (List Dp)}{i:Nat}{f:D}{h:List Blk}(iF:Zd ((i:Int)<(fs.length:Int))=false):(CW Hm Γ0 h false (sub Tryz.f196 0) (xaS fs f h i) (.exit 0) {t:=mkT 19 0 [(4,int 0)],h:=h,m:=[]}):=by
 exact zx [.st (.mask [4])] [.b false] (.c iF .n)
def xaR(p:AttT→Bool)(l:List AttT):Int:=match forL (xaF p) l 0 with | .inl _ => -1 | .inr k=>(k:Int)
def Eu(h:List Blk)(p:AttT→Bool)(l:List AttT):Exit×AS:=a8 (.exit 0) (fun _:Nat=>{t:=mkT 19 0 [(4,int 0)],h:=h,m:=[]}) (xaX h) (forL (xaF p) l 0)
theorem xa_cw{l:List AttT}(hl:af l){f:D}{h:List Blk}{p:AttT→Bool}(hf:∀c∈l,Iv Hm Γ0 f [ag (AttT.row c)] h (bool (p c)) h):
  CW Hm Γ0 h false (.loop (sub Tryz.f196 0)) (xaS (l.map AttT.row) f h 0) (Eu h p l).1 (Eu h p l).2:=by
 refine CW.each l (xaF p) (fun i _=>xaS (l.map AttT.row) f h (i:Int)) (.exit 0) _ (xaX h) (fun i s=>s=i) (by simp) (fun _=>by simp) ?_ ?_ 0 rfl
 ·intro i c s hc hs
  subst hs
  have hi:=(Hs.1 hc).1
  refine⟨fun s' h=>?_,Es (rowAt hc rfl) (lt_len AttT.row hi) (wrap_succ hi hl) (hf c (H1 hc))⟩
  unfold xaF at h
  split at h<;>simp at h
  exact h.symm
 ·intro s hs
  exact Et (aJ AttT.row l)
theorem xai_ev{l:List AttT}(hl:af l){f:D}{h:List Blk}{p:AttT→Bool}(hf:∀c∈l,Iv Hm Γ0 f [ag (AttT.row c)] h (bool (p c)) h):(Ev Hm Γ0 196 [ab (l.map AttT.row),f] h (int (xaR p l)) h):=by
 have N1:=(@xa_cw (l) (hl) (f) (h) (p) (hf))
 unfold Eu at N1
 revert N1
 cases O0:forL (xaF p) l 0 with
 | inl o1_0_0 =>
  intro N1
  exact H4 (JP (h':=h) (d:=int (-1)) pok [.sum [0,1,4,7,8] (HT 0) {t:=mkT 19 0 [(4,int 0)],h:=h,m:=[]}] (by kernel_rfl) (.c N1 .n)) (by simp[xaR,O0]) (by simp[])
 | inr o1_1_0 =>
  intro N1
  exact H4 (JP (h':=h) (d:=int (↑o1_1_0:Int)) pok [.sum [0,1,4,7,8] (IB) {t:=mkT 19 0 [(4,int (↑o1_1_0:Int))],h:=h,m:=[]}] (by kernel_rfl) (.c N1 .n)) (by simp[xaR,O0]) (by simp[])
theorem xa_any(p:AttT→Bool)(l:List AttT):∀k:Nat,(match forL (xaF p) l k with | .inl _=>false | .inr _=>true)=l.any p:=by
 induction l with
 | nil=>intro k;rfl
 | cons f l ih =>
  intro k
  rw[List.any_cons]
  cases hf:p f
  ·simp only[forL,xaF,hf,Ik,if_false,Bool.false_or]
   exact ih (k+1)
  ·simp[forL,xaF,hf]
theorem xaR_ge(p:AttT→Bool)(l:List AttT):Zd (xaR p l≥0)=l.any p:=by
 rw[←xa_any p l 0,xaR]
 split<;>simp
theorem C7{l:List AttT}(hl:af l){f:D}{h:List Blk}{p:AttT→Bool}(hf:∀c∈l,Iv Hm Γ0 f [ag (AttT.row c)] h (bool (p c)) h):(Ev Hm Γ0 155 [ab (l.map AttT.row),f] h (bool (l.any p)) h):=by
 refine H4 (JP (h':=h) (d:=bool (Zd (xaR p l≥0))) pok [.val (int (xaR p l))] (by kernel_rfl) (.c (@xai_ev l hl f h p hf) .n)) ?_ ?_<;>(first|rfl|rw[←xaR_ge])
structure SysT where
 O8:List Cls
 Sk:List FeeT
 O9:List Cls
 clauses:List ClauseT
 deriving Inhabited
def SysT.sys(s:SysT):Vi.Sys:=⟨s.O8,s.Sk,s.O9,s.clauses.map ClauseT.row⟩
def SysT.row(s:SysT):List Dp:=[.sl (s.O8.map Cls.row),.sl (s.Sk.map FeeT.row),.sl (s.O9.map Cls.row),.sl (s.clauses.map ClauseT.row)]
def SysT.ok(s:SysT):Prop:=s.sys.ok
abbrev kd'(a b c d:Bool)(f g:Value):List Dp:=[.v (.bool a),.v (.bool b),.v (.bool c),.v (.bool d),.v f,.v g]
abbrev kf'(k:Nat):Value:=.func (.func k) #[] #[]
def yz:List Dp :=
 kd' false false false false .nilFunc .nilFunc++kd' false false false true (kf' 257) (kf' 258)++kd' false false false true (kf' 259) (kf' 260)++kd' false true false true (kf' 261) (kf' 262) ++
 kd' false false false true (kf' 263) (kf' 264)++kd' true true false false (kf' 265) (kf' 267)++kd' true true false false (kf' 269) (kf' 270)++kd' false true false false (kf' 271) (kf' 272) ++
 kd' false true true false (kf' 273) (kf' 274)++kd' true false false false (kf' 266) (kf' 275)
def Γk:aw:=fun g=>match g with|0=>some yz|_=>none
theorem Ew{a b:Int}(ha:I64 a)(hb:I64 b)(h:List Blk):(Ev Hm Γ0 114 [.agg [int a,int b]] h (bool (yp a b==0&&Zd (a≥0)&&Zd (a≤Hp.wrap (12*b)))) h):=by
 exact z0 [.val (int (yp a b))] (.c (@Bq a b ha hb ([.var [int a,int b]])) .n) h
abbrev ruD(op c:Int)(nm:ByteArray)(n d:Int)(ks:List (List Dp)):D:=.agg [int op,int c,au nm,int n,int d,ab ks]
theorem Ex{op c:Int}{nm:ByteArray}{n d:Int}{ks:List (List Dp)}(h:List Blk):(Ev Hm Γ0 257 [ruD op c nm n d ks] h (bool true) h):=by
 exact z0 [] .n h
theorem Ey{op c:Int}{nm:ByteArray}{n d:Int}{ks:List (List Dp)}(h:List Blk):(Ev Hm Γ0 259 [ruD op c nm n d ks] h (bool true) h):=by
 exact z0 [] .n h
theorem Ez{op c:Int}{nm:ByteArray}{n d:Int}{ks:List (List Dp)}(h:List Blk):(Ev Hm Γ0 261 [ruD op c nm n d ks] h (bool (inB n 0 200)) h):=by
 exact z0 [.val (bool (Zd (n≥0)&&Zd (n≤200)))] (.c (@bb n 0 200 ([.var [int op,int c,au nm,int n,int d,ab ks]])) .n) h
theorem EA{op c:Int}{nm:ByteArray}{n d:Int}{ks:List (List Dp)}(h:List Blk):(Ev Hm Γ0 263 [ruD op c nm n d ks] h (bool ((ks.length:Int)==1)) h):=by
 exact z0 [] .n h
theorem sX{op c:Int}{nm:ByteArray}{n d:Int}{ks:List (List Dp)}(h:List Blk):(Ev Hm Γ0 266 [ruD op c nm n d ks] h (bool (inB c 0 4095)) h):=by
 exact z0 [.val (bool (Zd (c≥0)&&Zd (c≤4095)))] (.c (@bb c 0 4095 ([.var [int op,int c,au nm,int n,int d,ab ks]])) .n) h
theorem EB{op c:Int}{nm:ByteArray}{n d:Int}{ks:List (List Dp)}(h:List Blk):(Ev Hm Γ0 265 [ruD op c nm n d ks] h (bool (inB c 0 4095&&inB n 0 12)) h):=by
 exact z0 [.val (bool (inB c 0 4095)),.val (bool (Zd (n≥0)&&Zd (n≤12)))] (.c (@sX op c nm n d ks ([.var [int op,int c,au nm,int n,int d,ab ks]])) (.c (gd (inB c 0 4095) (@bb n 0 12 ([.var [int op,int c,au nm,int n,int d,ab ks]]))) .n)) h
theorem EC{op c:Int}{nm:ByteArray}{n d:Int}{ks:List (List Dp)}(h:List Blk):(Ev Hm Γ0 269 [ruD op c nm n d ks] h (bool (inB c 0 4095&&inB n 1 100)) h):=by
 exact z0 [.val (bool (inB c 0 4095)),.val (bool (Zd (n≥1)&&Zd (n≤100)))] (.c (@sX op c nm n d ks ([.var [int op,int c,au nm,int n,int d,ab ks]])) (.c (gd (inB c 0 4095) (@bb n 1 100 ([.var [int op,int c,au nm,int n,int d,ab ks]]))) .n)) h
theorem ED{op c:Int}{nm:ByteArray}{n d:Int}{ks:List (List Dp)}(h:List Blk):(Ev Hm Γ0 271 [ruD op c nm n d ks] h (bool (inB n 0 10000)) h):=by
 exact z0 [.val (bool (Zd (n≥0)&&Zd (n≤10000)))] (.c (@bb n 0 10000 ([.var [int op,int c,au nm,int n,int d,ab ks]])) .n) h
def sY(a b:Int):Bool:=yp a b==0&&Zd (a≥0)&&Zd (a≤Hp.wrap (12*b))
theorem EE{op c:Int}{nm:ByteArray}{n d:Int}{ks:List (List Dp)}(hn:I64 n)(hd:I64 d)(h:List Blk):(Ev Hm Γ0 273 [ruD op c nm n d ks] h (bool (sY n d)) h):=by
 exact z0 [.val (bool (yp n d==0&&Zd (n≥0)&&Zd (n≤Ht Hp (12*d))))] (.c (@Ew n d hn hd ([.var [int op,int c,au nm,int n,int d,ab ks]])) .n) h
def aq(op c n d k:Int):Bool :=
 if (!(op==5||op==6||op==9)&&c != 0||!(op==3||op==5||op==6||op==7||op==8)&&n != 0||op != 8&&d != 0||(Zd (op≥5)&&Zd (op≤9))&&Zd (k>0))=true then false
 else if op=1 then true else if op=2 then true else if op=3 then inB n 0 200 else if op=4 then k==1 else if op=5 then inB c 0 4095&&inB n 0 12
 else if op=6 then inB c 0 4095&&inB n 1 100 else if op=7 then inB n 0 10000 else if op=8 then sY n d else if op=9 then inB c 0 4095 else false
noncomputable abbrev qS(c:Int)(nm:ByteArray)(n:Int)(d:Int)(ks:List (List Dp)):List Blk:=[.var [int 1,int c,au nm,int n,int d,ab ks],.var [bool false,bool false,bool false,bool true,fq 257,fq 258]]
theorem yA{c:Int}{nm:ByteArray}{n d:Int}{ks:List (List Dp)}(h:List Blk):(Ev Hm Γk 234 [ruD 1 c nm n d ks] h (bool (aq 1 c n d ks.length)) h):=by
 cases dO:!false&&c != 0||!false&&n != 0||!false&&d != 0||!true&&Zd ((↑(Hn ks):Int)>0)
 ·exact zD (bool true) [.val (bool (Zd (1≥1)&&Zd (1≤9))),.b false,.b false,.val (bool true)] (.c (H5 (Γ':=Γk) (@bb 1 1 9 ([.var [int 1,int c,au nm,int n,int d,ab ks]]))) (.c (show(!(Zd (1≥1)&&Zd (1≤9)))=false from rfl) (.c (show inR 1 10=true from rfl) (.c dO (.c (H5 (Γ':=Γk) (@Ex 1 c nm n d ks (qS c nm n d ks))) .n))))) h (by(simp_all[aq];done))
 ·exact zD (bool false) [.val (bool (Zd (1≥1)&&Zd (1≤9))),.b false,.b true] (.c (H5 (Γ':=Γk) (@bb 1 1 9 ([.var [int 1,int c,au nm,int n,int d,ab ks]]))) (.c (show(!(Zd (1≥1)&&Zd (1≤9)))=false from rfl) (.c (show inR 1 10=true from rfl) (.c dO .n)))) h (by(simp_all[aq];done))
noncomputable abbrev qT(c:Int)(nm:ByteArray)(n:Int)(d:Int)(ks:List (List Dp)):List Blk:=[.var [int 2,int c,au nm,int n,int d,ab ks],.var [bool false,bool false,bool false,bool true,fq 259,fq 260]]
theorem yB{c:Int}{nm:ByteArray}{n d:Int}{ks:List (List Dp)}(h:List Blk):(Ev Hm Γk 234 [ruD 2 c nm n d ks] h (bool (aq 2 c n d ks.length)) h):=by
 cases dO:!false&&c != 0||!false&&n != 0||!false&&d != 0||!true&&Zd ((↑(Hn ks):Int)>0)
 ·exact zD (bool true) [.val (bool (Zd (2≥1)&&Zd (2≤9))),.b false,.b false,.val (bool true)] (.c (H5 (Γ':=Γk) (@bb 2 1 9 ([.var [int 2,int c,au nm,int n,int d,ab ks]]))) (.c (show(!(Zd (2≥1)&&Zd (2≤9)))=false from rfl) (.c (show inR 2 10=true from rfl) (.c dO (.c (H5 (Γ':=Γk) (@Ey 2 c nm n d ks (qT c nm n d ks))) .n))))) h (by(simp_all[aq];done))
 ·exact zD (bool false) [.val (bool (Zd (2≥1)&&Zd (2≤9))),.b false,.b true] (.c (H5 (Γ':=Γk) (@bb 2 1 9 ([.var [int 2,int c,au nm,int n,int d,ab ks]]))) (.c (show(!(Zd (2≥1)&&Zd (2≤9)))=false from rfl) (.c (show inR 2 10=true from rfl) (.c dO .n)))) h (by(simp_all[aq];done))
noncomputable abbrev qU(c:Int)(nm:ByteArray)(n:Int)(d:Int)(ks:List (List Dp)):List Blk:=[.var [int 3,int c,au nm,int n,int d,ab ks],.var [bool false,bool true,bool false,bool true,fq 261,fq 262]]
theorem yC{c:Int}{nm:ByteArray}{n d:Int}{ks:List (List Dp)}(h:List Blk):(Ev Hm Γk 234 [ruD 3 c nm n d ks] h (bool (aq 3 c n d ks.length)) h):=by
 cases dO:!false&&c != 0||!true&&n != 0||!false&&d != 0||!true&&Zd ((↑(Hn ks):Int)>0)
 ·exact zD (bool (inB n 0 200)) [.val (bool (Zd (3≥1)&&Zd (3≤9))),.b false,.b false,.val (bool (inB n 0 200))] (.c (H5 (Γ':=Γk) (@bb 3 1 9 ([.var [int 3,int c,au nm,int n,int d,ab ks]]))) (.c (show(!(Zd (3≥1)&&Zd (3≤9)))=false from rfl) (.c (show inR 3 10=true from rfl) (.c dO (.c (H5 (Γ':=Γk) (@Ez 3 c nm n d ks (qU c nm n d ks))) .n))))) h (by(simp_all[aq];done))
 ·exact zD (bool false) [.val (bool (Zd (3≥1)&&Zd (3≤9))),.b false,.b true] (.c (H5 (Γ':=Γk) (@bb 3 1 9 ([.var [int 3,int c,au nm,int n,int d,ab ks]]))) (.c (show(!(Zd (3≥1)&&Zd (3≤9)))=false from rfl) (.c (show inR 3 10=true from rfl) (.c dO .n)))) h (by(simp_all[aq];done))
noncomputable abbrev qV(c:Int)(nm:ByteArray)(n:Int)(d:Int)(ks:List (List Dp)):List Blk:=[.var [int 4,int c,au nm,int n,int d,ab ks],.var [bool false,bool false,bool false,bool true,fq 263,fq 264]]
theorem yD{c:Int}{nm:ByteArray}{n d:Int}{ks:List (List Dp)}(h:List Blk):(Ev Hm Γk 234 [ruD 4 c nm n d ks] h (bool (aq 4 c n d ks.length)) h):=by
 cases dO:!false&&c != 0||!false&&n != 0||!false&&d != 0||!true&&Zd ((↑(Hn ks):Int)>0)
 ·exact zD (bool ((↑(Hn ks):Int)==1)) [.val (bool (Zd (4≥1)&&Zd (4≤9))),.b false,.b false,.val (bool ((↑(Hn ks):Int)==1))] (.c (H5 (Γ':=Γk) (@bb 4 1 9 ([.var [int 4,int c,au nm,int n,int d,ab ks]]))) (.c (show(!(Zd (4≥1)&&Zd (4≤9)))=false from rfl) (.c (show inR 4 10=true from rfl) (.c dO (.c (H5 (Γ':=Γk) (@EA 4 c nm n d ks (qV c nm n d ks))) .n))))) h (by(simp_all[aq];done))
 ·exact zD (bool false) [.val (bool (Zd (4≥1)&&Zd (4≤9))),.b false,.b true] (.c (H5 (Γ':=Γk) (@bb 4 1 9 ([.var [int 4,int c,au nm,int n,int d,ab ks]]))) (.c (show(!(Zd (4≥1)&&Zd (4≤9)))=false from rfl) (.c (show inR 4 10=true from rfl) (.c dO .n)))) h (by(simp_all[aq];done))
noncomputable abbrev qW(c:Int)(nm:ByteArray)(n:Int)(d:Int)(ks:List (List Dp)):List Blk:=[.var [int 5,int c,au nm,int n,int d,ab ks],.var [bool true,bool true,bool false,bool false,fq 265,fq 267]]
theorem yE{c:Int}{nm:ByteArray}{n d:Int}{ks:List (List Dp)}(h:List Blk):(Ev Hm Γk 234 [ruD 5 c nm n d ks] h (bool (aq 5 c n d ks.length)) h):=by
 cases dO:!true&&c != 0||!true&&n != 0||!false&&d != 0||!false&&Zd ((↑(Hn ks):Int)>0)
 ·exact zD (bool (inB c 0 4095&&inB n 0 12)) [.val (bool (Zd (5≥1)&&Zd (5≤9))),.b false,.b false,.val (bool (inB c 0 4095&&inB n 0 12))] (.c (H5 (Γ':=Γk) (@bb 5 1 9 ([.var [int 5,int c,au nm,int n,int d,ab ks]]))) (.c (show(!(Zd (5≥1)&&Zd (5≤9)))=false from rfl) (.c (show inR 5 10=true from rfl) (.c dO (.c (H5 (Γ':=Γk) (@EB 5 c nm n d ks (qW c nm n d ks))) .n))))) h (by(simp_all[aq];done))
 ·exact zD (bool false) [.val (bool (Zd (5≥1)&&Zd (5≤9))),.b false,.b true] (.c (H5 (Γ':=Γk) (@bb 5 1 9 ([.var [int 5,int c,au nm,int n,int d,ab ks]]))) (.c (show(!(Zd (5≥1)&&Zd (5≤9)))=false from rfl) (.c (show inR 5 10=true from rfl) (.c dO .n)))) h (by(simp_all[aq];done))
noncomputable abbrev qX(c:Int)(nm:ByteArray)(n:Int)(d:Int)(ks:List (List Dp)):List Blk:=[.var [int 6,int c,au nm,int n,int d,ab ks],.var [bool true,bool true,bool false,bool false,fq 269,fq 270]]
theorem yF{c:Int}{nm:ByteArray}{n d:Int}{ks:List (List Dp)}(h:List Blk):(Ev Hm Γk 234 [ruD 6 c nm n d ks] h (bool (aq 6 c n d ks.length)) h):=by
 cases dO:!true&&c != 0||!true&&n != 0||!false&&d != 0||!false&&Zd ((↑(Hn ks):Int)>0)
 ·exact zD (bool (inB c 0 4095&&inB n 1 100)) [.val (bool (Zd (6≥1)&&Zd (6≤9))),.b false,.b false,.val (bool (inB c 0 4095&&inB n 1 100))] (.c (H5 (Γ':=Γk) (@bb 6 1 9 ([.var [int 6,int c,au nm,int n,int d,ab ks]]))) (.c (show(!(Zd (6≥1)&&Zd (6≤9)))=false from rfl) (.c (show inR 6 10=true from rfl) (.c dO (.c (H5 (Γ':=Γk) (@EC 6 c nm n d ks (qX c nm n d ks))) .n))))) h (by(simp_all[aq];done))
 ·exact zD (bool false) [.val (bool (Zd (6≥1)&&Zd (6≤9))),.b false,.b true] (.c (H5 (Γ':=Γk) (@bb 6 1 9 ([.var [int 6,int c,au nm,int n,int d,ab ks]]))) (.c (show(!(Zd (6≥1)&&Zd (6≤9)))=false from rfl) (.c (show inR 6 10=true from rfl) (.c dO .n)))) h (by(simp_all[aq];done))
noncomputable abbrev qY(c:Int)(nm:ByteArray)(n:Int)(d:Int)(ks:List (List Dp)):List Blk:=[.var [int 7,int c,au nm,int n,int d,ab ks],.var [bool false,bool true,bool false,bool false,fq 271,fq 272]]
theorem yG{c:Int}{nm:ByteArray}{n d:Int}{ks:List (List Dp)}(h:List Blk):(Ev Hm Γk 234 [ruD 7 c nm n d ks] h (bool (aq 7 c n d ks.length)) h):=by
 cases dO:!false&&c != 0||!true&&n != 0||!false&&d != 0||!false&&Zd ((↑(Hn ks):Int)>0)
 ·exact zD (bool (inB n 0 10000)) [.val (bool (Zd (7≥1)&&Zd (7≤9))),.b false,.b false,.val (bool (inB n 0 10000))] (.c (H5 (Γ':=Γk) (@bb 7 1 9 ([.var [int 7,int c,au nm,int n,int d,ab ks]]))) (.c (show(!(Zd (7≥1)&&Zd (7≤9)))=false from rfl) (.c (show inR 7 10=true from rfl) (.c dO (.c (H5 (Γ':=Γk) (@ED 7 c nm n d ks (qY c nm n d ks))) .n))))) h (by(simp_all[aq];done))
 ·exact zD (bool false) [.val (bool (Zd (7≥1)&&Zd (7≤9))),.b false,.b true] (.c (H5 (Γ':=Γk) (@bb 7 1 9 ([.var [int 7,int c,au nm,int n,int d,ab ks]]))) (.c (show(!(Zd (7≥1)&&Zd (7≤9)))=false from rfl) (.c (show inR 7 10=true from rfl) (.c dO .n)))) h (by(simp_all[aq];done))
noncomputable abbrev qZ(c:Int)(nm:ByteArray)(n:Int)(d:Int)(ks:List (List Dp)):List Blk:=[.var [int 8,int c,au nm,int n,int d,ab ks],.var [bool false,bool true,bool true,bool false,fq 273,fq 274]]
theorem yH{c:Int}{nm:ByteArray}{n d:Int}{ks:List (List Dp)}(hn:I64 n)(hd:I64 d)(h:List Blk):(Ev Hm Γk 234 [ruD 8 c nm n d ks] h (bool (aq 8 c n d ks.length)) h):=by
 cases dO:!false&&c != 0||!true&&n != 0||!true&&d != 0||!false&&Zd ((↑(Hn ks):Int)>0)
 ·exact zD (bool (sY n d)) [.val (bool (Zd (8≥1)&&Zd (8≤9))),.b false,.b false,.val (bool (sY n d))] (.c (H5 (Γ':=Γk) (@bb 8 1 9 ([.var [int 8,int c,au nm,int n,int d,ab ks]]))) (.c (show(!(Zd (8≥1)&&Zd (8≤9)))=false from rfl) (.c (show inR 8 10=true from rfl) (.c dO (.c (H5 (Γ':=Γk) (@EE 8 c nm n d ks hn hd (qZ c nm n d ks))) .n))))) h (by(simp_all[aq];done))
 ·exact zD (bool false) [.val (bool (Zd (8≥1)&&Zd (8≤9))),.b false,.b true] (.c (H5 (Γ':=Γk) (@bb 8 1 9 ([.var [int 8,int c,au nm,int n,int d,ab ks]]))) (.c (show(!(Zd (8≥1)&&Zd (8≤9)))=false from rfl) (.c (show inR 8 10=true from rfl) (.c dO .n)))) h (by(simp_all[aq];done))
noncomputable abbrev q8(c:Int)(nm:ByteArray)(n:Int)(d:Int)(ks:List (List Dp)):List Blk:=[.var [int 9,int c,au nm,int n,int d,ab ks],.var [bool true,bool false,bool false,bool false,fq 266,fq 275]]
theorem yI{c:Int}{nm:ByteArray}{n d:Int}{ks:List (List Dp)}(h:List Blk):(Ev Hm Γk 234 [ruD 9 c nm n d ks] h (bool (aq 9 c n d ks.length)) h):=by
 cases dO:!true&&c != 0||!false&&n != 0||!false&&d != 0||!false&&Zd ((↑(Hn ks):Int)>0)
 ·exact zD (bool (inB c 0 4095)) [.val (bool (Zd (9≥1)&&Zd (9≤9))),.b false,.b false,.val (bool (inB c 0 4095))] (.c (H5 (Γ':=Γk) (@bb 9 1 9 ([.var [int 9,int c,au nm,int n,int d,ab ks]]))) (.c (show(!(Zd (9≥1)&&Zd (9≤9)))=false from rfl) (.c (show inR 9 10=true from rfl) (.c dO (.c (H5 (Γ':=Γk) (@sX 9 c nm n d ks (q8 c nm n d ks))) .n))))) h (by(simp_all[aq];done))
 ·exact zD (bool false) [.val (bool (Zd (9≥1)&&Zd (9≤9))),.b false,.b true] (.c (H5 (Γ':=Γk) (@bb 9 1 9 ([.var [int 9,int c,au nm,int n,int d,ab ks]]))) (.c (show(!(Zd (9≥1)&&Zd (9≤9)))=false from rfl) (.c (show inR 9 10=true from rfl) (.c dO .n)))) h (by(simp_all[aq];done))
theorem yJ{op c:Int}{nm:ByteArray}{n d:Int}{ks:List (List Dp)}(ho:(!(Zd (op≥1)&&Zd (op≤9)))=true)(h:List Blk):(Ev Hm Γk 234 [ruD op c nm n d ks] h (bool false) h):=by
 exact z0 [.val (bool (Zd (op≥1)&&Zd (op≤9))),.b true] (.c (H5 (Γ':=Γk) (@bb op 1 9 ([.var [int op,int c,au nm,int n,int d,ab ks]]))) (.c ho .n)) h
theorem q9{op c:Int}{nm:ByteArray}{n d:Int}{ks:List (List Dp)}(hn:I64 n)(hd:I64 d)(h:List Blk):Ev Hm Γk 234 [ruD op c nm n d ks] h (bool (aq op c n d ks.length)) h:=by
 by_cases ho:(!(Zd (op≥1)&&Zd (op≤9)))=true
 ·have:=yJ (op:=op) (c:=c) (nm:=nm) (n:=n) (d:=d) (ks:=ks) ho h
  have e:aq op c n d ks.length=false:=by
   simp only[IU,Bool.and_eq_false_iff,decide_eq_false_iff_not] at ho
   unfold aq
   split
   ·rfl
   ·repeat' (split;· omega)
    rfl
  rw[e];exact this
 ·have:op=1∨op=2∨op=3∨op=4∨op=5∨op=6∨op=7∨op=8∨op=9:=by
   simp only[IU,Bool.not_eq_false,Bool.and_eq_true,decide_eq_true_eq] at ho
   omega
  rcases this with rfl|rfl|rfl|rfl|rfl|rfl|rfl|rfl|rfl
  ·exact yA h
  ·exact yB h
  ·exact yC h
  ·exact yD h
  ·exact yE h
  ·exact yF h
  ·exact yG h
  ·exact yH hn hd h
  ·exact yI h
abbrev fz:FactT:=⟨0,0,0,0,0,0,0,0⟩
abbrev atT:List D:=mkT 50 0 [(6,.ref (.ptr 1 0)),(10,.ref (.ptr 2 0)),(11,.ref (.ptr 3 0)),(16,.fn (.func 178) [] [.ref (.ptr 4 0),.ref (.ptr 5 0),.ref (.ptr 6 0)])]
noncomputable abbrev atL(st:LoopState):Blk:=.loop st none 0 atT #[17] (aH (sub IX 0)) (ao (sub IX 0))
noncomputable abbrev atH(kk ks ko term known:Int)(fs:List (List Dp))(iS:FactT)(some:Bool)(st:LoopState)(more:List Blk):List Blk :=
 [.var [int kk,int ks,int ko],.var [int term],.var (iS.row.map .p),.var [bool some],.var [ab fs],.var [int kk,int ks,int ko],.var [int known],.defd,atL st]++more
abbrev atU:List D:=mkT 50 0 [(6,.ref (.ptr 1 0)),(10,.ref (.ptr 2 0)),(11,.ref (.ptr 3 0)),(12,.ref (.ptr 10 0))]
theorem at_asg{kk ks ko term known:Int}{fs:List (List Dp)}{iS f:FactT}{some:Bool}:(CW Hm Γ0 (atH kk ks ko term known fs iS some .ready [.var (f.row.map .p)]) true (aH (sub IX 0)) {t:=ey atT [(17,ag f.row)],h:=atH kk ks ko term known fs iS some .ready [.var (f.row.map .p)],m:=[]} .normal {t:=atU,h:=atH kk ks ko term known fs iS some .ready [.var (f.row.map .p),.var (f.row.map .p)],m:=[]}):=by
 let v0:List D:=[int f.kind,int f.sub,int f.obj,int f.value,int f.frm,int f.By,int f.known,int f.no]
 exact zx [.st (.mask [6,10,11,12])] [] .n
def atHit(term:Int)(iS:FactT)(some:Bool)(f:FactT):Bool:=Zd (f.frm≤term)&&Zd (term<f.By)&&(!some||Zd (orI (aU f.known iS.known) (aU f.no iS.no)≥0))
def bS(term:Int)(iS:FactT)(some:Bool)(f:FactT):FactT×Bool:=bif atHit term iS some f then (f,true) else (iS,some)
noncomputable abbrev jd(kk:Int)(ks:Int)(ko:Int)(term:Int)(known:Int)(fs:List (List Dp))(iS:FactT)(f:FactT)(some:Bool):List Blk:=[.var [int kk,int ks,int ko],.var [int term],.var [int iS.kind,int iS.sub,int iS.obj,int iS.value,int iS.frm,int iS.By,int iS.known,int iS.no],.var [bool some],.var [ab fs],.var [int kk,int ks,int ko],.var [int known],.defd,.loop Ji none 0 (mkT 50 0 [(6,.ref (.ptr 1 0)),(10,.ref (.ptr 2 0)),(11,.ref (.ptr 3 0)),(16,I4 (H2 178) [] [.ref (.ptr 4 0),.ref (.ptr 5 0),.ref (.ptr 6 0)])]) {toList:=[17]} (aH (sub IX 0)) (ao (sub IX 0)),.var [int f.kind,int f.sub,int f.obj,int f.value,int f.frm,int f.By,int f.known,int f.no],.var [int f.kind,int f.sub,int f.obj,int f.value,int f.frm,int f.By,int f.known,int f.no]]
theorem EF{kk ks ko term known:Int}{fs:List (List Dp)}{iS f:FactT}{some:Bool}:(CW Hm Γ0 (atH kk ks ko term known fs iS some .ready [.var (f.row.map .p)]) true (ao (sub IX 0)) {t:=atU,h:=atH kk ks ko term known fs iS some .busy [.var (f.row.map .p),.var (f.row.map .p)],m:=[]} .normal {t:=mkT 50 0 [],h:=atH kk ks ko term known fs (bS term iS some f).1 (bS term iS some f).2 .busy [.var (f.row.map .p),.var (f.row.map .p)],m:=[]}):=by
 cases dO:Zd (f.frm≤term)&&Zd (term<f.By)&&(!some||Zd (orI (aU f.known iS.known) (aU f.no iS.no)≥0))
 ·refine zX {t:=mkT 50 0 [],h:=(jd kk ks ko term known fs iS f some),m:=[]} HA [.st (.mask [])] [.val (int (orI (aU f.known iS.known) (aU f.no iS.no))),.b false] (.c (gd (Zd (f.frm≤term)&&Zd (term<f.By)&&!!some) (@jc f iS (jd kk ks ko term known fs iS f some))) (.c dO .n)) ?_ ?_<;>(first|rfl|(have hs:atHit term iS some f=false:=dO;simp only[bS,hs,cond_false];rfl))
 ·let v0:List D:=[int f.kind,int f.sub,int f.obj,int f.value,int f.frm,int f.By,int f.known,int f.no]
  refine zX {t:=mkT 50 0 [],h:=[.var [int kk,int ks,int ko],.var [int term],.var v0,.var [bool true],.var [ab fs],.var [int kk,int ks,int ko],.var [int known],.defd,.loop Ji none 0 (mkT 50 0 [(6,.ref (.ptr 1 0)),(10,.ref (.ptr 2 0)),(11,.ref (.ptr 3 0)),(16,I4 (H2 178) [] [.ref (.ptr 4 0),.ref (.ptr 5 0),.ref (.ptr 6 0)])]) {toList:=[17]} (aH (sub IX 0)) (ao (sub IX 0)),.var v0,.var v0],m:=[]} HA [.st (.mask [])] [.val (int (orI (aU f.known iS.known) (aU f.no iS.no))),.b true] (.c (gd (Zd (f.frm≤term)&&Zd (term<f.By)&&!!some) (@jc f iS (jd kk ks ko term known fs iS f some))) (.c dO .n)) ?_ ?_<;>subst v0<;>(first|rfl|(have hs:atHit term iS some f=true:=dO;simp only[bS,hs,cond_true];rfl))
theorem EG{kk ks ko term known:Int}{fs:List (List Dp)}{iS f:FactT}{some:Bool}:Iv Hm Γ0 (.ref (.yl 8)) [ag f.row] (atH kk ks ko term known fs iS some .ready [.var (f.row.map .p)]) (bool true) (atH kk ks ko term known fs (bS term iS some f).1 (bS term iS some f).2 .ready [.var (f.row.map .p),.var (f.row.map .p)]) :=
 Iv.round (h1:=atH kk ks ko term known fs iS some .ready [.var (f.row.map .p),.var (f.row.map .p)]) rfl rfl at_asg rfl EF rfl
def keyIs(kk ks ko:Int)(f:FactT):Bool:=f.kind==kk&&(f.sub==ks&&(f.obj==ko&&true))
def ofIs(kk ks ko known:Int)(f:FactT):Bool:=keyIs kk ks ko f&&Zd (f.known≤known)
abbrev ofT(fs:List (List Dp))(i:Int):List D:=mkT 30 0 [(0,.ref (.yl 8)),(1,.ref (.ptr 4 0)),(2,.ref (.ptr 5 0)),(3,.ref (.ptr 6 0)),(7,ab fs),(8,int fs.length),(9,int i)]
theorem of_body{kk ks ko term known:Int}{fs:List (List Dp)}{iS b0 f:FactT}{some s0:Bool}{i:Nat}(hr:aj (i:Int) fs f.row 8)(iF:Zd ((i:Int)<(fs.length:Int))=true)(hw:Hp.wrap ((i:Int)+1)=((i+1:Nat):Int)):(CW Hm Γ0 (atH kk ks ko term known fs b0 s0 .ready []) false (sub Li 0) {t:=ofT fs i,h:=atH kk ks ko term known fs iS some .ready [],m:=[]} .normal {t:=ofT fs ((i+1:Nat):Int),h:=atH kk ks ko term known fs (bif ofIs kk ks ko known f then bS term iS some f else (iS,some)).1 (bif ofIs kk ks ko known f then bS term iS some f else (iS,some)).2 .ready [],m:=[]}):=by
 cases dO:f.kind==kk&&(f.sub==ks&&(f.obj==ko&&true))
 ·refine zX {t:=mkT 30 0 [(0,.ref (.yl 8)),(1,.ref (.ptr 4 0)),(2,.ref (.ptr 5 0)),(3,.ref (.ptr 6 0)),(7,ab fs),(8,int (↑(Hn fs):Int)),(9,int (Ht Hp ((↑i:Int)+1)))],h:=[.var [int kk,int ks,int ko],.var [int term],.var [int iS.kind,int iS.sub,int iS.obj,int iS.value,int iS.frm,int iS.By,int iS.known,int iS.no],.var [bool some],.var [ab fs],.var [int kk,int ks,int ko],.var [int known],.defd,.loop Ia none 0 (mkT 50 0 [(6,.ref (.ptr 1 0)),(10,.ref (.ptr 2 0)),(11,.ref (.ptr 3 0)),(16,I4 (H2 178) [] [.ref (.ptr 4 0),.ref (.ptr 5 0),.ref (.ptr 6 0)])]) {toList:=[17]} (aH (sub IX 0)) (ao (sub IX 0))],m:=[]} HA [.st (.mask [0,1,2,3,7,8,9]),.st (.trim 9)] [.b true,.row [vi f.kind,vi f.sub,vi f.obj,vi f.value,vi f.frm,vi f.By,vi f.known,vi f.no],.g false,.g false,.g false,.g false,.ov 22 (bool false),.g false,.g false,.g false,.g false,.ov 28 (bool false),.b false] (.c iF (.c hr (.c (eqb dO) (.c (eqb dO) (.c (eqb dO) (.c (eqb dO) (.c (pkf (D.p (Dp.v (Ii {toList:=[]}))) (bool false) dO) (.f (.f (.f (.f (.c (pkf (D.p (Dp.v (Ii {toList:=[]}))) (bool false) rfl) (.er false .n))))))))))))) ?_ ?_<;>(first|rfl|(simp only[hw,ofIs,keyIs,dO,Ix,cond_false];rfl))
 ·cases oN:Zd (f.known≤known)
  ·refine zX {t:=mkT 30 0 [(0,.ref (.yl 8)),(1,.ref (.ptr 4 0)),(2,.ref (.ptr 5 0)),(3,.ref (.ptr 6 0)),(7,ab fs),(8,int (↑(Hn fs):Int)),(9,int (Ht Hp ((↑i:Int)+1)))],h:=[.var [int kk,int ks,int ko],.var [int term],.var [int iS.kind,int iS.sub,int iS.obj,int iS.value,int iS.frm,int iS.By,int iS.known,int iS.no],.var [bool some],.var [ab fs],.var [int kk,int ks,int ko],.var [int known],.defd,.loop Ia none 0 (mkT 50 0 [(6,.ref (.ptr 1 0)),(10,.ref (.ptr 2 0)),(11,.ref (.ptr 3 0)),(16,I4 (H2 178) [] [.ref (.ptr 4 0),.ref (.ptr 5 0),.ref (.ptr 6 0)])]) {toList:=[17]} (aH (sub IX 0)) (ao (sub IX 0))],m:=[]} HA [.st (.mask [0,1,2,3,7,8,9]),.st (.trim 9)] [.b true,.row [vi f.kind,vi f.sub,vi f.obj,vi f.value,vi f.frm,vi f.By,vi f.known,vi f.no],.g true,.g true,.g true,.g true,.ov 22 (bool (Zd (f.known≤known))),.g false,.g false,.g false,.g false,.ov 28 (bool false),.b false] (.c iF (.c hr (.c (eqa dO) (.c (eqa dO) (.c (eqa dO) (.c (eqa dO) (.c (pkt (bool (Zd (f.known≤known))) (bool false) dO) (.c (eqb oN) (.c (eqb oN) (.c (eqb oN) (.c (eqb oN) (.c (pkf (D.p (Dp.v (Ii {toList:=[]}))) (bool false) oN) (.er false .n))))))))))))) ?_ ?_<;>(first|rfl|(simp only[hw,ofIs,keyIs,dO,oN,Bool.and_false,cond_false];rfl))
  ·let v0:List D:=[int (bS term iS some f).1.kind,int (bS term iS some f).1.sub,int (bS term iS some f).1.obj,int (bS term iS some f).1.value,int (bS term iS some f).1.frm,int (bS term iS some f).1.By,int (bS term iS some f).1.known,int (bS term iS some f).1.no]
   let v1:List D:=[int f.kind,int f.sub,int f.obj,int f.value,int f.frm,int f.By,int f.known,int f.no]
   refine zX {t:=mkT 30 0 [(0,.ref (.yl 8)),(1,.ref (.ptr 4 0)),(2,.ref (.ptr 5 0)),(3,.ref (.ptr 6 0)),(7,ab fs),(8,int (↑(Hn fs):Int)),(9,int (Ht Hp ((↑i:Int)+1)))],h:=[.var [int kk,int ks,int ko],.var [int term],.var v0,.var [bool (bS term iS some f).2],.var [ab fs],.var [int kk,int ks,int ko],.var [int known],.defd,.loop Ia none 0 (mkT 50 0 [(6,.ref (.ptr 1 0)),(10,.ref (.ptr 2 0)),(11,.ref (.ptr 3 0)),(16,I4 (H2 178) [] [.ref (.ptr 4 0),.ref (.ptr 5 0),.ref (.ptr 6 0)])]) {toList:=[17]} (aH (sub IX 0)) (ao (sub IX 0))],m:=[]} HA [.st (.mask [0,1,2,3,7,8,9]),.st (.trim 9)] [.b true,.row [vi f.kind,vi f.sub,vi f.obj,vi f.value,vi f.frm,vi f.By,vi f.known,vi f.no],.g true,.g true,.g true,.g true,.ov 22 (bool (Zd (f.known≤known))),.g true,.g true,.g true,.inv (bool true) [.var [int kk,int ks,int ko],.var [int term],.var v0,.var [bool (bS term iS some f).2],.var [ab fs],.var [int kk,int ks,int ko],.var [int known],.defd,.loop Ia none 0 (mkT 50 0 [(6,.ref (.ptr 1 0)),(10,.ref (.ptr 2 0)),(11,.ref (.ptr 3 0)),(16,I4 (H2 178) [] [.ref (.ptr 4 0),.ref (.ptr 5 0),.ref (.ptr 6 0)])]) {toList:=[17]} (aH (sub IX 0)) (ao (sub IX 0)),.var v1,.var v1],.g true,.ov 28 (bool !true),.b false] (.c iF (.c hr (.c (eqa dO) (.c (eqa dO) (.c (eqa dO) (.c (eqa dO) (.c (pkt (bool (Zd (f.known≤known))) (bool false) dO) (.c (eqa oN) (.c (eqa oN) (.c (eqa oN) (.c (@EG kk ks ko term known fs iS f some) (.c (eqa oN) (.c (pkt (bool !true) (bool false) oN) (.c (show(!true)=false from rfl) .n)))))))))))))) ?_ ?_<;>subst v0 v1<;>(first|rfl|(simp only[hw,ofIs,keyIs,dO,oN,Bool.and_self,cond_true];rfl))
theorem EH{kk ks ko term known:Int}{fs:List (List Dp)}{iS b0:FactT}{some s0:Bool}{i:Nat}(iF:Zd ((i:Int)<(fs.length:Int))=false):(CW Hm Γ0 (atH kk ks ko term known fs b0 s0 .ready []) false (sub Li 0) {t:=ofT fs i,h:=atH kk ks ko term known fs iS some .ready [],m:=[]} (.exit 0) {t:=mkT 30 0 [],h:=atH kk ks ko term known fs iS some .ready [],m:=[]}):=by
 exact zx [.st (.mask [])] [.b false] (.c iF .n)
def ofGo(kk ks ko term known:Int)(s:FactT×Bool)(f:FactT):FactT×Bool:=bif ofIs kk ks ko known f then bS term s.1 s.2 f else s
theorem aC{α σ:Type}(g:σ→α→σ):∀(l:List α) (s:σ),forL (fun a s=>(.inl (g s a):σ⊕Empty)) l s=.inl (l.foldl g s)
 | [],_=>rfl
 | a::l,s=>aC g l (g s a)
theorem of_cw{kk ks ko term known:Int}{l:List FactT}(hl:af l){b0:FactT}{s0:Bool}:
  CW Hm Γ0 (atH kk ks ko term known (l.map FactT.row) b0 s0 .ready []) false (.loop (sub Li 0)) {t:=ofT (l.map FactT.row) 0,h:=atH kk ks ko term known (l.map FactT.row) b0 s0 .ready [],m:=[]} (.exit 0)
   {t:=mkT 30 0 [],h:=atH kk ks ko term known (l.map FactT.row) (l.foldl (ofGo kk ks ko term known) (b0,s0)).1 (l.foldl (ofGo kk ks ko term known) (b0,s0)).2 .ready [],m:=[]}:=by
 have:=CW.each (P:=Hm) (Γ:=Γ0) (h0:=atH kk ks ko term known (l.map FactT.row) b0 s0 .ready []) (rd:=false) (c:=sub Li 0) (σ:=FactT×Bool) (ρ:=Empty) l (fun f s=>.inl (ofGo kk ks ko term known s f))
  (fun i s=>{t:=ofT (l.map FactT.row) (i:Int),h:=atH kk ks ko term known (l.map FactT.row) s.1 s.2 .ready [],m:=[]}) (.exit 0) (fun s=>{t:=mkT 30 0 [],h:=atH kk ks ko term known (l.map FactT.row) s.1 s.2 .ready [],m:=[]}) (fun r=>r.elim)
  (fun _ _=>True) (by simp) (fun r=>r.elim) ?_ ?_ (b0,s0) trivial
 ·rw[aC] at this
  exact this
 ·intro i f s hf _
  have hi:=(Hs.1 hf).1
  exact⟨fun _ _=>trivial,of_body (rowAt hf rfl) (lt_len _ hi) (wrap_succ hi hl)⟩
 ·intro s _
  exact EH (aJ _ l)
theorem Bz{kk ks ko term known:Int}{l:List FactT}(hl:af l){b0:FactT}{s0:Bool}:(Ev Hm Γ0 178 [.ref (.yl 8),.ref (.ptr 4 0),.ref (.ptr 5 0),.ref (.ptr 6 0)] (atH kk ks ko term known (l.map FactT.row) b0 s0 .ready []) (.tup []) (atH kk ks ko term known (l.map FactT.row) (l.foldl (ofGo kk ks ko term known) (b0,s0)).1 (l.foldl (ofGo kk ks ko term known) (b0,s0)).2 .ready [])):=by
 have N1:=(@of_cw (kk) (ks) (ko) (term) (known) (l) (hl) (b0) (s0))
 let v1:=HP (ofGo kk ks ko term known) (b0,s0) l
 let v0:List Blk:=[.var [int kk,int ks,int ko],.var [int term],.var [int v1.1.kind,int v1.1.sub,int v1.1.obj,int v1.1.value,int v1.1.frm,int v1.1.By,int v1.1.known,int v1.1.no],.var [bool v1.2],.var [ab (Hl FactT.row l)],.var [int kk,int ks,int ko],.var [int known],.defd,.loop Ia none 0 (mkT 50 0 [(6,.ref (.ptr 1 0)),(10,.ref (.ptr 2 0)),(11,.ref (.ptr 3 0)),(16,I4 (H2 178) [] [.ref (.ptr 4 0),.ref (.ptr 5 0),.ref (.ptr 6 0)])]) {toList:=[17]} (aH (sub IX 0)) (ao (sub IX 0))]
 exact H4 (JP (h':=v0) (d:=D.tup []) pok [.sum [0,1,2,3,7,8,9] (HT 0) {t:=mkT 30 0 [],h:=v0,m:=[]}] (by kernel_rfl) (.c N1 .n)) (by rfl) (by rfl)
noncomputable abbrev atH0(kk ks ko term known:Int)(fs:List (List Dp))(iS:FactT)(some:Bool):List Blk :=
 [.var [int kk,int ks,int ko],.var [int term],.var (iS.row.map .p),.var [bool some],.var [ab fs],.var [int kk,int ks,int ko],.var [int known]]
theorem BA{kk ks ko term known:Int}{l:List FactT}(hl:af l){b0:FactT}{s0:Bool}:CW Hm Γ0 [] false (sub IX 0) {t:=atT,h:=atH0 kk ks ko term known (l.map FactT.row) b0 s0,m:=[]} .normal
  {t:=atT,h:=atH kk ks ko term known (l.map FactT.row) (l.foldl (ofGo kk ks ko term known) (b0,s0)).1 (l.foldl (ofGo kk ks ko term known) (b0,s0)).2 .exhausted [],m:=[7]}:=by
 exact CW.rangeFunc (f:=178) (fi:=[]) (ca:=[.ref (.ptr 4 0),.ref (.ptr 5 0),.ref (.ptr 6 0)]) pok (s:={t:=atT,h:=atH0 kk ks ko term known (l.map FactT.row) b0 s0,m:=[]}) (g:=.tmp 16) (ps:=#[17]) (asg:=aH (sub IX 0)) (body:=ao (sub IX 0)) rfl (by kernel_rfl) (Bz hl) rfl
def atR(kk ks ko term known:Int)(l:List FactT):Int×Bool :=
 let r:=l.foldl (ofGo kk ks ko term known) (fz,false)
 bif !r.2||Zd (r.1.value<0) then (0,false) else (r.1.value,true)
theorem BB{kk ks ko term known:Int}{l:List FactT}(hl:af l)(h:List Blk):(Ev Hm Γ0 86 [ab (l.map FactT.row),.agg [int kk,int ks,int ko],int term,int known] h (.tup [int (atR kk ks ko term known l).1,bool (atR kk ks ko term known l).2]) h):=by
 have N1:=(@BA (kk) (ks) (ko) (term) (known) (l) (hl) ({kind:=0,sub:=0,obj:=0,value:=0,frm:=0,By:=0,known:=0,no:=0}) (false))
 cases oN:!(HP (ofGo kk ks ko term known) ({kind:=0,sub:=0,obj:=0,value:=0,frm:=0,By:=0,known:=0,no:=0},false) l).2||Zd ((HP (ofGo kk ks ko term known) ({kind:=0,sub:=0,obj:=0,value:=0,frm:=0,By:=0,known:=0,no:=0},false) l).1.value<0)
 ·let v0:=HP (ofGo kk ks ko term known) ({kind:=0,sub:=0,obj:=0,value:=0,frm:=0,By:=0,known:=0,no:=0},false) l
  exact zD (D.tup [int v0.1.value,bool true]) [.inl,.sum [6,10,11,16] (HA) {t:=mkT 50 0 [(6,.ref (.ptr 1 0)),(10,.ref (.ptr 2 0)),(11,.ref (.ptr 3 0)),(16,I4 (H2 178) [] [.ref (.ptr 4 0),.ref (.ptr 5 0),.ref (.ptr 6 0)])],h:=[.var [int kk,int ks,int ko],.var [int term],.var [int v0.1.kind,int v0.1.sub,int v0.1.obj,int v0.1.value,int v0.1.frm,int v0.1.By,int v0.1.known,int v0.1.no],.var [bool v0.2],.var [ab (Hl FactT.row l)],.var [int kk,int ks,int ko],.var [int known],.defd,.loop Ip none 0 (mkT 50 0 [(6,.ref (.ptr 1 0)),(10,.ref (.ptr 2 0)),(11,.ref (.ptr 3 0)),(16,I4 (H2 178) [] [.ref (.ptr 4 0),.ref (.ptr 5 0),.ref (.ptr 6 0)])]) {toList:=[17]} (aH (sub IX 0)) (ao (sub IX 0))],m:=[7]},.b false] (.c N1 (.c oN .n)) h (by subst v0;simp only[atR,oN,cond_false])
 ·let v0:=HP (ofGo kk ks ko term known) ({kind:=0,sub:=0,obj:=0,value:=0,frm:=0,By:=0,known:=0,no:=0},false) l
  exact zD (D.tup [int 0,bool false]) [.inl,.sum [6,10,11,16] (HA) {t:=mkT 50 0 [(6,.ref (.ptr 1 0)),(10,.ref (.ptr 2 0)),(11,.ref (.ptr 3 0)),(16,I4 (H2 178) [] [.ref (.ptr 4 0),.ref (.ptr 5 0),.ref (.ptr 6 0)])],h:=[.var [int kk,int ks,int ko],.var [int term],.var [int v0.1.kind,int v0.1.sub,int v0.1.obj,int v0.1.value,int v0.1.frm,int v0.1.By,int v0.1.known,int v0.1.no],.var [bool v0.2],.var [ab (Hl FactT.row l)],.var [int kk,int ks,int ko],.var [int known],.defd,.loop Ip none 0 (mkT 50 0 [(6,.ref (.ptr 1 0)),(10,.ref (.ptr 2 0)),(11,.ref (.ptr 3 0)),(16,I4 (H2 178) [] [.ref (.ptr 4 0),.ref (.ptr 5 0),.ref (.ptr 6 0)])]) {toList:=[17]} (aH (sub IX 0)) (ao (sub IX 0))],m:=[7]},.b true] (.c N1 (.c oN .n)) h (by subst v0;simp only[atR,oN,cond_true])
inductive RuleT where
 | mk (op aT:Int) (name:ByteArray) (n d:Int) (kids:List RuleT)
mutual
def RuleT.row:RuleT→List Dp
 | .mk op c nm n d ks=>[vi op,vi c,vs nm,vi n,vi d,.sl (c7 ks)]
def c7:List RuleT→List (List Dp)
 | []=>[]
 | k::ks=>k.row::c7 ks
end
theorem eZ:∀ks:List RuleT,c7 ks=ks.map RuleT.row
 | []=>rfl
 | k::ks=>by simp[c7,eZ ks]
mutual
def RuleT.ok:RuleT→Prop
 | .mk op c _ n d ks=>(I64 op∧I64 c∧I64 n∧I64 d∧af ks)∧lF ks
def lF:List RuleT→Prop
 | []=>True
 | k::ks=>k.ok∧lF ks
end
theorem dU:∀{ks:List RuleT},lF ks→∀k∈ks,k.ok
 | [],_,k,hk=>by simp at hk
 | a::ks,h,k,hk=>by
  simp only[lF] at h
  rcases HR.1 hk with rfl|hk
  ·exact h.1
  ·exact dU h.2 k hk
structure RuF where
 op:Int
 c:Int
 nm:ByteArray
 n:Int
 d:Int
 ks:List (List Dp)
def RuF.row(x:RuF):List Dp:=[vi x.op,vi x.c,vs x.nm,vi x.n,vi x.d,.sl x.ks]
def RuF.l(x:RuF):List D:=[int x.op,int x.c,au x.nm,int x.n,int x.d,ab x.ks]
def RuF.formed(x:RuF):Bool:=aq x.op x.c x.n x.d x.ks.length
def RuF.ok(x:RuF):Prop:=I64 x.n∧I64 x.d
def j6(n1 dep:Int)(f:Bool):Bool:=Zd (n1>200)||Zd (dep>16)||!f
abbrev ckT:List D:=mkT 23 0 [(2,.ref (.ptr 1 0)),(3,.ref (.ptr 2 0)),(7,.fn (.func 240) [] [.ref (.ptr 4 0),.ref (.ptr 3 0)])]
noncomputable abbrev ckH(r:RuF)(e n:Int)(st:LoopState)(pe:Option Code):List Blk :=
 [.var r.l,.var [int e],.var [int n],.var r.l,.var [.fn (.func 239) [] [.ref (.ptr 4 0)]],.defd,.loop st pe 0 ckT #[8,9] (aH (sub Ic 0)) (ao (sub Ic 0))]
abbrev ckU(dep:Int):List D:=mkT 23 0 [(2,.ref (.ptr 1 0)),(3,.ref (.ptr 2 0)),(4,int dep),(5,.ref (.ptr 8 0)),(7,.fn (.func 240) [] [.ref (.ptr 4 0),.ref (.ptr 3 0)])]
theorem C8{r0:RuF}{m dep:Int}{x:RuF}:(CW Hm Γk (ckH r0 0 m .ready none++[.var (x.l)]) true (aH (sub Ic 0)) {t:=ey ckT [(8,int dep),(9,.agg x.l)],h:=ckH r0 0 m .ready none++[.var (x.l)],m:=[]} .normal {t:=ckU dep,h:=ckH r0 0 m .ready none++[.var (x.l),.var (x.l)],m:=[]}):=by
 let v0:List D:=[int r0.op,int r0.c,au r0.nm,int r0.n,int r0.d,ab r0.ks]
 let v1:List D:=[int x.op,int x.c,au x.nm,int x.n,int x.d,ab x.ks]
 exact zx [.st (.mask [2,3,4,5,7])] [] .n
noncomputable def wo(r0:RuF)(m1:Int)(more:List Blk)(b:Bool):Exit×AS:=match b with
 | true=>(.ret,{t:=mkT 23 0 [],h:=ckH r0 120 m1 .busy none++more,m:=[]})
 | false=>(.normal,{t:=mkT 23 0 [],h:=ckH r0 0 m1 .busy none++more,m:=[]})
noncomputable abbrev je(r0:RuF)(m:Int)(x:RuF):List Blk:=[.var [int r0.op,int r0.c,au r0.nm,int r0.n,int r0.d,ab r0.ks],.var [int 0],.var [int (Ht Hp (m+1))],.var [int r0.op,int r0.c,au r0.nm,int r0.n,int r0.d,ab r0.ks],.var [I4 (H2 239) [] [.ref (.ptr 4 0)]],.defd,.loop Ji none 0 (mkT 23 0 [(2,.ref (.ptr 1 0)),(3,.ref (.ptr 2 0)),(7,I4 (H2 240) [] [.ref (.ptr 4 0),.ref (.ptr 3 0)])]) {toList:=[8,9]} (aH (sub Ic 0)) (ao (sub Ic 0)),.var [int x.op,int x.c,au x.nm,int x.n,int x.d,ab x.ks],.var [int x.op,int x.c,au x.nm,int x.n,int x.d,ab x.ks]]
theorem EI{r0:RuF}{m dep:Int}{x:RuF}(hx:x.ok):(CW Hm Γk (ckH r0 0 m .ready none++[.var (x.l)]) true (ao (sub Ic 0)) {t:=ckU dep,h:=ckH r0 0 m .busy none++[.var (x.l),.var (x.l)],m:=[]} (wo r0 (Hp.wrap (m+1)) [.var (x.l),.var (x.l)] (j6 (Hp.wrap (m+1)) dep (x.formed))).1 (wo r0 (Hp.wrap (m+1)) [.var (x.l),.var (x.l)] (j6 (Hp.wrap (m+1)) dep (x.formed))).2):=by
 cases dO:Zd (Ht Hp (m+1)>200)||Zd (dep>16)||!aq x.op x.c x.n x.d (↑(Hn x.ks):Int)
 ·refine zX {t:=mkT 23 0 [],h:=(je r0 m x),m:=[]} HA [.st (.mask [])] [.val (bool (aq x.op x.c x.n x.d (↑(Hn x.ks):Int))),.b false] (.c (gd (!(Zd (Ht Hp (m+1)>200)||Zd (dep>16))) (@q9 (x.op) (x.c) (x.nm) (x.n) (x.d) (x.ks) (by exact hx.1) (by exact hx.2) (je r0 m x))) (.c dO .n)) ?_ ?_<;>(have hs:j6 (Hp.wrap (m+1)) dep (x.formed)=false:=dO;(first|(simp only[hs,wo];done)|(simp only[hs,wo];rfl)))
 ·let v0:List D:=[int r0.op,int r0.c,au r0.nm,int r0.n,int r0.d,ab r0.ks]
  let v1:List D:=[int x.op,int x.c,au x.nm,int x.n,int x.d,ab x.ks]
  refine zX {t:=mkT 23 0 [],h:=[.var v0,.var [int 120],.var [int (Ht Hp (m+1))],.var v0,.var [I4 (H2 239) [] [.ref (.ptr 4 0)]],.defd,.loop Ji none 0 (mkT 23 0 [(2,.ref (.ptr 1 0)),(3,.ref (.ptr 2 0)),(7,I4 (H2 240) [] [.ref (.ptr 4 0),.ref (.ptr 3 0)])]) {toList:=[8,9]} (aH (sub Ic 0)) (ao (sub Ic 0)),.var v1,.var v1],m:=[]} IB [.st (.mask [])] [.val (bool (aq x.op x.c x.n x.d (↑(Hn x.ks):Int))),.b true] (.c (gd (!(Zd (Ht Hp (m+1)>200)||Zd (dep>16))) (@q9 (x.op) (x.c) (x.nm) (x.n) (x.d) (x.ks) (by subst v0 v1;exact hx.1) (by subst v0 v1;exact hx.2) (je r0 m x))) (.c dO .n)) ?_ ?_<;>subst v0 v1<;>(have hs:j6 (Hp.wrap (m+1)) dep (x.formed)=true:=dO;(first|(simp only[hs,wo];done)|(simp only[hs,wo];rfl)))
noncomputable def ckSt(r0:RuF)(m1:Int)(b:Bool):List Blk:=match b with
 | true=>ckH r0 120 m1 .done (some .ret)
 | false=>ckH r0 0 m1 .ready none
theorem EJ{r0:RuF}{m dep:Int}{x:RuF}(hx:x.ok):Iv Hm Γk (.ref (.yl 6)) [int dep,.agg x.l] (ckH r0 0 m .ready none++[.var (x.l)]) (bool (!j6 (Hp.wrap (m+1)) dep (x.formed)))
  (ckSt r0 (Hp.wrap (m+1)) (j6 (Hp.wrap (m+1)) dep (x.formed))++[.var (x.l),.var (x.l)]):=by
 have hb:=EI (r0:=r0) (m:=m) (dep:=dep) hx
 cases h:j6 (Hp.wrap (m+1)) dep (x.formed)
 ·rw[h] at hb
  exact Iv.round (h1:=ckH r0 0 m .ready none++[.var (x.l),.var (x.l)]) rfl rfl C8 rfl hb rfl
 ·rw[h] at hb
  exact Iv.round (h1:=ckH r0 0 m .ready none++[.var (x.l),.var (x.l)]) rfl rfl C8 rfl hb rfl
mutual
def RuleT.walk:RuleT→Int→Int→Int×Bool
 | .mk op c _ n d ks,dep,m=>match j6 (Hp.wrap (m+1)) dep (aq op c n d ks.length) with
  | true=>(Hp.wrap (m+1),true)
  | false=>walkL ks (Hp.wrap (dep+1)) (Hp.wrap (m+1))
def walkL:List RuleT→Int→Int→Int×Bool
 | [],_,m=>(m,false)
 | k::ks,dep,m=>match k.walk dep m with
  | (m',true)=>(m',true)
  | (m',false)=>walkL ks dep m'
end
abbrev wkF(dep:Int)(k:RuleT)(m:Int):Int⊕Int:=match k.walk dep m with
 | (m',true)=>.inr m'
 | (m',false)=>.inl m'
theorem nn(dep:Int):∀(ks:List RuleT) (m:Int),forL (wkF dep) ks m=match walkL ks dep m with|(m',true)=>.inr m'|(m',false)=>.inl m'
 | [],m=>by simp[forL,walkL]
 | k::ks,m=>by
  simp only[forL,walkL,wkF]
  cases h:k.walk dep m with
  | mk m' b=>cases b with
   | true=>rfl
   | false=>exact nn dep ks m'
noncomputable abbrev wkS(x r0:RuF)(dep m i:Int):AS:={t:=mkT 30 0 [(1,int dep),(2,.ref (.yl 6)),(3,.ref (.ptr 4 0)),(7,bool false),(16,ab x.ks),(17,int x.ks.length),(18,int i)],h:=ckH r0 0 m .ready none++[.var (x.l)],m:=[]}
theorem BC{x r0:RuF}{dep m m0:Int}{i:Nat}{m':Int}{y:RuF}(hr:aj (i:Int) x.ks y.row 6)(iF:Zd ((i:Int)<(x.ks.length:Int))=true)(hw:Hp.wrap ((i:Int)+1)=((i+1:Nat):Int))
  (hk:Ev Hm Γk 239 [.agg y.l,int (Hp.wrap (dep+1)),.ref (.yl 6),.ref (.ptr 4 0)] (ckH r0 0 m .ready none) (bool true) (ckH r0 0 m' .ready none)):(CW Hm Γk (ckH r0 0 m0 .ready none) false (sub Mp 0) (wkS x r0 dep m i) .normal (wkS x r0 dep m' ((i+1:Nat):Int))):=by
 let v2:List D:=[int r0.op,int r0.c,au r0.nm,int r0.n,int r0.d,ab r0.ks]
 let v3:List D:=[int y.op,int y.c,au y.nm,int y.n,int y.d,ab y.ks]
 let v4:List D:=[int x.op,int x.c,au x.nm,int x.n,int x.d,ab x.ks]
 let v5:List D:=[.ref (.ptr 4 0),.ref (.ptr 3 0)]
 let v0:List Blk:=[.var v2,.var [int 0],.var [int m'],.var v2,.var [I4 (H2 239) [] [.ref (.ptr 4 0)]],.defd,.loop Ia none 0 (mkT 23 0 [(2,.ref (.ptr 1 0)),(3,.ref (.ptr 2 0)),(7,I4 (H2 240) [] v5)]) {toList:=[8,9]} (aH (sub Ic 0)) (ao (sub Ic 0)),.var v4,.var v3]
 let v1:List Blk:=[.var v2,.var [int 0],.var [int m],.var v2,.var [I4 (H2 239) [] [.ref (.ptr 4 0)]],.defd,.loop Ia none 0 (mkT 23 0 [(2,.ref (.ptr 1 0)),(3,.ref (.ptr 2 0)),(7,I4 (H2 240) [] v5)]) {toList:=[8,9]} (aH (sub Ic 0)) (ao (sub Ic 0)),.var v4,.var v3]
 refine zX {t:=mkT 30 0 [(1,int dep),(2,.ref (.yl 6)),(3,.ref (.ptr 4 0)),(7,bool false),(16,ab x.ks),(17,int (↑(Hn x.ks):Int)),(18,int (Ht Hp ((↑i:Int)+1)))],h:=[.var v2,.var [int 0],.var [int m'],.var v2,.var [I4 (H2 239) [] [.ref (.ptr 4 0)]],.defd,.loop Ia none 0 (mkT 23 0 [(2,.ref (.ptr 1 0)),(3,.ref (.ptr 2 0)),(7,I4 (H2 240) [] v5)]) {toList:=[8,9]} (aH (sub Ic 0)) (ao (sub Ic 0)),.var v4],m:=[]} HA [.st (.mask [1,2,3,7,16,17,18]),.st (.trim 8)] [.b true,.row [vi y.op,vi y.c,vs y.nm,vi y.n,vi y.d,Dp.sl y.ks],.call (bool true) v0,.b false] (.c iF (.c hr (.c (show Ev Hm Γk 239 [D.agg v3,int (Ht Hp (dep+1)),.ref (.yl 6),.ref (.ptr 4 0)] v1 (bool true) v0 from(H4 (Ev.frameX (args:=[D.agg v3,int (Ht Hp (dep+1)),.ref (.yl 6),.ref (.ptr 4 0)]) (H:=v1) [0,1,2,3,4,5,6] (@hk) (by kernel_rfl) (by kernel_rfl) (by kernel_rfl) trivial trivial) (by kernel_rfl) (by kernel_rfl))) (.c (show(!true)=false from rfl) .n)))) ?_ ?_<;>subst v2 v3 v4 v5 v0 v1<;>(first|rfl|(rw[hw];rfl))
noncomputable abbrev wkX(x r0:RuF)(m:Int):Exit×AS:=(.ret,{t:=mkT 30 0 [(7,bool false)],h:=ckH r0 120 m .done (some .ret)++[.var (x.l)],m:=[]})
theorem BD{x r0:RuF}{dep m m0:Int}{i:Nat}{m':Int}{y:RuF}(hr:aj (i:Int) x.ks y.row 6)(iF:Zd ((i:Int)<(x.ks.length:Int))=true)
  (hk:Ev Hm Γk 239 [.agg y.l,int (Hp.wrap (dep+1)),.ref (.yl 6),.ref (.ptr 4 0)] (ckH r0 0 m .ready none) (bool false) (ckH r0 120 m' .done (some .ret))):(CW Hm Γk (ckH r0 0 m0 .ready none) false (sub Mp 0) (wkS x r0 dep m i) (wkX x r0 m').1 (wkX x r0 m').2):=by
 let v2:List D:=[int r0.op,int r0.c,au r0.nm,int r0.n,int r0.d,ab r0.ks]
 let v3:List D:=[int y.op,int y.c,au y.nm,int y.n,int y.d,ab y.ks]
 let v4:List D:=[int x.op,int x.c,au x.nm,int x.n,int x.d,ab x.ks]
 let v5:List D:=[.ref (.ptr 4 0),.ref (.ptr 3 0)]
 let v0:List Blk:=[.var v2,.var [int 120],.var [int m'],.var v2,.var [I4 (H2 239) [] [.ref (.ptr 4 0)]],.defd,.loop Kp (some L9) 0 (mkT 23 0 [(2,.ref (.ptr 1 0)),(3,.ref (.ptr 2 0)),(7,I4 (H2 240) [] v5)]) {toList:=[8,9]} (aH (sub Ic 0)) (ao (sub Ic 0)),.var v4,.var v3]
 let v1:List Blk:=[.var v2,.var [int 0],.var [int m],.var v2,.var [I4 (H2 239) [] [.ref (.ptr 4 0)]],.defd,.loop Ia none 0 (mkT 23 0 [(2,.ref (.ptr 1 0)),(3,.ref (.ptr 2 0)),(7,I4 (H2 240) [] v5)]) {toList:=[8,9]} (aH (sub Ic 0)) (ao (sub Ic 0)),.var v4,.var v3]
 exact zx [.st (.mask [7]),.st (.trim 8)] [.b true,.row [vi y.op,vi y.c,vs y.nm,vi y.n,vi y.d,Dp.sl y.ks],.call (bool false) v0,.b true] (.c iF (.c hr (.c (show Ev Hm Γk 239 [D.agg v3,int (Ht Hp (dep+1)),.ref (.yl 6),.ref (.ptr 4 0)] v1 (bool false) v0 from(H4 (Ev.frameX (args:=[D.agg v3,int (Ht Hp (dep+1)),.ref (.yl 6),.ref (.ptr 4 0)]) (H:=v1) [0,1,2,3,4,5,6] (@hk) (by kernel_rfl) (by kernel_rfl) (by kernel_rfl) trivial trivial) (by kernel_rfl) (by kernel_rfl))) (.c (show(!false)=true from rfl) .n))))
theorem EK{x r0:RuF}{dep m m0:Int}{i:Nat}(iF:Zd ((i:Int)<(x.ks.length:Int))=false):(CW Hm Γk (ckH r0 0 m0 .ready none) false (sub Mp 0) (wkS x r0 dep m i) (.exit 0) {t:=mkT 30 0 [(7,bool false)],h:=ckH r0 0 m .ready none++[.var (x.l)],m:=[]}):=by
 let v0:List D:=[int r0.op,int r0.c,au r0.nm,int r0.n,int r0.d,ab r0.ks]
 exact zx [.st (.mask [7]),.st (.trim 8)] [.b false] (.c iF .n)
def RuleT.fl:RuleT→RuF
 | .mk op c nm n d ks=>⟨op,c,nm,n,d,c7 ks⟩
theorem RuleT.fl_row(r:RuleT):r.fl.row=r.row:=by cases r;rfl
theorem RuleT.fl_ok{r:RuleT}(h:r.ok):r.fl.ok:=by cases r;simp only[RuleT.ok] at h;exact⟨h.1.2.2.1,h.1.2.2.2.1⟩
noncomputable def wkFin(x r0:RuF)(p:Int⊕Int):Exit×AS:=a8 (.exit 0) (fun m'=>{t:=mkT 30 0 [(7,bool false)],h:=ckH r0 0 m' .ready none++[.var x.l],m:=[]}) (fun m'=>wkX x r0 m') p
theorem wk_cw{r0 x:RuF}{ks:List RuleT}(hx:x.ks=ks.map RuleT.row)(hl:af ks){dep m m0:Int}(hk:∀k∈ks,∀m,Ev Hm Γk 239 [.agg k.fl.l,int (Hp.wrap (dep+1)),.ref (.yl 6),.ref (.ptr 4 0)] (ckH r0 0 m .ready none) (bool (!(k.walk (Hp.wrap (dep+1)) m).2)) (ckSt r0 (k.walk (Hp.wrap (dep+1)) m).1 (k.walk (Hp.wrap (dep+1)) m).2)):
  CW Hm Γk (ckH r0 0 m0 .ready none) false (.loop (sub Mp 0)) (wkS x r0 dep m 0) (wkFin x r0 (forL (wkF (Hp.wrap (dep+1))) ks m)).1 (wkFin x r0 (forL (wkF (Hp.wrap (dep+1))) ks m)).2:=by
 refine CW.each ks (wkF (Hp.wrap (dep+1))) (fun i m=>wkS x r0 dep m (i:Int)) (.exit 0) _ (fun m'=>wkX x r0 m') (fun _ _=>True) (by simp) (fun _=>by simp) ?_ ?_ m trivial
 ·intro i k m Pz _
  have hi:=(Hs.1 Pz).1
  have hr:aj (i:Int) x.ks k.fl.row 6:=by rw[hx,k.fl_row];exact rowAt Pz (by cases k;rfl)
  have iF:Zd ((i:Int)<(x.ks.length:Int))=true:=by rw[hx];exact lt_len _ hi
  have hev:=hk k (H1 Pz) m
  refine⟨fun _ _=>trivial,?_⟩
  simp only[wkF]
  cases hw:k.walk (Hp.wrap (dep+1)) m with
  | mk m' b =>
   rw[hw] at hev
   cases b with
   | true=>exact BD hr iF hev
   | false=>exact BC hr iF (wrap_succ hi hl) hev
 ·intro m _
  exact EK (by rw[hx];exact aJ _ ks)
theorem walkA{r0 x:RuF}{dep m m':Int}(hi:Iv Hm Γk (.ref (.yl 6)) [int dep,.agg x.l] (ckH r0 0 m .ready none++[.var x.l]) (bool false) (ckH r0 120 m' .done (some .ret)++[.var x.l,.var x.l])):(Ev Hm Γk 239 [.agg x.l,int dep,.ref (.yl 6),.ref (.ptr 4 0)] (ckH r0 0 m .ready none) (bool false) (ckH r0 120 m' .done (some .ret))):=by
 let v0:List D:=[int r0.op,int r0.c,au r0.nm,int r0.n,int r0.d,ab r0.ks]
 let v1:List D:=[int x.op,int x.c,au x.nm,int x.n,int x.d,ab x.ks]
 exact H4 (Ev.symT (h':=[.var v0,.var [int 120],.var [int m'],.var v0,.var [I4 (H2 239) [] [.ref (.ptr 4 0)]],.defd,.loop Kp (some L9) 0 (mkT 23 0 [(2,.ref (.ptr 1 0)),(3,.ref (.ptr 2 0)),(7,I4 (H2 240) [] [.ref (.ptr 4 0),.ref (.ptr 3 0)])]) {toList:=[8,9]} (aH (sub Ic 0)) (ao (sub Ic 0))]) (d:=bool false) pok [.inv (bool false) [.var v0,.var [int 120],.var [int m'],.var v0,.var [I4 (H2 239) [] [.ref (.ptr 4 0)]],.defd,.loop Kp (some L9) 0 (mkT 23 0 [(2,.ref (.ptr 1 0)),(3,.ref (.ptr 2 0)),(7,I4 (H2 240) [] [.ref (.ptr 4 0),.ref (.ptr 3 0)])]) {toList:=[8,9]} (aH (sub Ic 0)) (ao (sub Ic 0)),.var v1,.var v1],.b true] (by kernel_rfl) (.c (@hi) (.c (show(!false)=true from rfl) .n))) (by rfl) (by rfl)
def BE:Int⊕Int→Int×Bool
 | .inl m=>(m,false)
 | .inr m=>(m,true)
theorem BF(dep:Int)(ks:List RuleT)(m:Int):BE (forL (wkF dep) ks m)=walkL ks dep m:=by
 rw[nn]
 cases walkL ks dep m with
 | mk m' b=>cases b<;>rfl
noncomputable abbrev uO(r0:RuF)(x:RuF)(m':Int):List Blk:=[.var [int r0.op,int r0.c,au r0.nm,int r0.n,int r0.d,ab r0.ks],.var [int 0],.var [int m'],.var [int r0.op,int r0.c,au r0.nm,int r0.n,int r0.d,ab r0.ks],.var [I4 (H2 239) [] [.ref (.ptr 4 0)]],.defd,.loop Ia none 0 (mkT 23 0 [(2,.ref (.ptr 1 0)),(3,.ref (.ptr 2 0)),(7,I4 (H2 240) [] [.ref (.ptr 4 0),.ref (.ptr 3 0)])]) {toList:=[8,9]} (aH (sub Ic 0)) (ao (sub Ic 0)),.var [int x.op,int x.c,au x.nm,int x.n,int x.d,ab x.ks],.var [int x.op,int x.c,au x.nm,int x.n,int x.d,ab x.ks]]
theorem walkB{r0 x:RuF}{ks:List RuleT}(hx:x.ks=ks.map RuleT.row)(hl:af ks){dep m m':Int}(hi:Iv Hm Γk (.ref (.yl 6)) [int dep,.agg x.l] (ckH r0 0 m .ready none++[.var x.l]) (bool true) (ckH r0 0 m' .ready none++[.var x.l,.var x.l]))
  (hk:∀k∈ks,∀m,Ev Hm Γk 239 [.agg k.fl.l,int (Hp.wrap (dep+1)),.ref (.yl 6),.ref (.ptr 4 0)] (ckH r0 0 m .ready none) (bool (!(k.walk (Hp.wrap (dep+1)) m).2)) (ckSt r0 (k.walk (Hp.wrap (dep+1)) m).1 (k.walk (Hp.wrap (dep+1)) m).2)):(Ev Hm Γk 239 [.agg x.l,int dep,.ref (.yl 6),.ref (.ptr 4 0)] (ckH r0 0 m .ready none) (bool (!(BE (forL (wkF (Hp.wrap (dep+1))) ks m')).2)) (ckSt r0 (BE (forL (wkF (Hp.wrap (dep+1))) ks m')).1 (BE (forL (wkF (Hp.wrap (dep+1))) ks m')).2)):=by
 have N1:=(@wk_cw (r0) (x) (ks) (hx) (hl) (dep) (m') (m) (hk))
 revert N1
 cases O0:forL (wkF (Ht Hp (dep+1))) ks m' with
 | inl o1_0_0 =>
  intro N1
  let v0:List D:=[int r0.op,int r0.c,au r0.nm,int r0.n,int r0.d,ab r0.ks]
  refine H4 (Ev.symT (h':=[.var v0,.var [int 0],.var [int o1_0_0],.var v0,.var [I4 (H2 239) [] [.ref (.ptr 4 0)]],.defd,.loop Ia none 0 (mkT 23 0 [(2,.ref (.ptr 1 0)),(3,.ref (.ptr 2 0)),(7,I4 (H2 240) [] [.ref (.ptr 4 0),.ref (.ptr 3 0)])]) {toList:=[8,9]} (aH (sub Ic 0)) (ao (sub Ic 0))]) (d:=bool true) pok [.inv (bool true) (uO r0 x m'),.b false,.st (.trim 8),.sum [1,2,3,7,16,17,18] (HT 0) {t:=mkT 30 0 [(7,bool false)],h:=[.var v0,.var [int 0],.var [int o1_0_0],.var v0,.var [I4 (H2 239) [] [.ref (.ptr 4 0)]],.defd,.loop Ia none 0 (mkT 23 0 [(2,.ref (.ptr 1 0)),(3,.ref (.ptr 2 0)),(7,I4 (H2 240) [] [.ref (.ptr 4 0),.ref (.ptr 3 0)])]) {toList:=[8,9]} (aH (sub Ic 0)) (ao (sub Ic 0)),.var [int x.op,int x.c,au x.nm,int x.n,int x.d,ab x.ks]],m:=[]}] (by kernel_rfl) (.c (@hi) (.c (show(!true)=false from rfl) (.c N1 .n)))) ?_ ?_<;>subst v0<;>(rfl)
 | inr o1_1_0 =>
  intro N1
  let v0:List D:=[int r0.op,int r0.c,au r0.nm,int r0.n,int r0.d,ab r0.ks]
  refine H4 (Ev.symT (h':=[.var v0,.var [int 120],.var [int o1_1_0],.var v0,.var [I4 (H2 239) [] [.ref (.ptr 4 0)]],.defd,.loop Kp (some L9) 0 (mkT 23 0 [(2,.ref (.ptr 1 0)),(3,.ref (.ptr 2 0)),(7,I4 (H2 240) [] [.ref (.ptr 4 0),.ref (.ptr 3 0)])]) {toList:=[8,9]} (aH (sub Ic 0)) (ao (sub Ic 0))]) (d:=bool false) pok [.inv (bool true) (uO r0 x m'),.b false,.st (.trim 8),.sum [1,2,3,7,16,17,18] (IB) {t:=mkT 30 0 [(7,bool false)],h:=[.var v0,.var [int 120],.var [int o1_1_0],.var v0,.var [I4 (H2 239) [] [.ref (.ptr 4 0)]],.defd,.loop Kp (some L9) 0 (mkT 23 0 [(2,.ref (.ptr 1 0)),(3,.ref (.ptr 2 0)),(7,I4 (H2 240) [] [.ref (.ptr 4 0),.ref (.ptr 3 0)])]) {toList:=[8,9]} (aH (sub Ic 0)) (ao (sub Ic 0)),.var [int x.op,int x.c,au x.nm,int x.n,int x.d,ab x.ks]],m:=[]}] (by kernel_rfl) (.c (@hi) (.c (show(!true)=false from rfl) (.c N1 .n)))) ?_ ?_<;>subst v0<;>(rfl)
end Go.Vi
