/- A part of the proof; no conditions of its own. -/
import Derived.Test.YtelhocjibmofiaaGreatDoorV10
import Derived.Test.YtelhocjibmofiaaGreatDoorProg
import Derived.Shelf.Slices.In.SortAlone
import Derived.Shelf.Slices.In.SortNone
import Derived.Sort.EveryDepth
open Decidable renaming decide -> Zd
open Array renaming getElem?_toList -> NV, getElem?_eq_some_iff -> OH, getElem?_modify -> Pv
open List renaming mem_of_getElem? -> NX, getElem?_eq_some_iff -> MR, length -> MO, foldl -> ND, map -> MK, append_assoc -> OQ, getElem?_append_right -> Nm, getElem?_append_left -> M4, map_cons -> NW, flatten_cons -> N0, cons_append -> R7, nil_append -> RS, ext_getElem? -> P9, idxOf?_eq_none_iff -> Q8, all -> N2, contains -> OO, mergeSort -> Ro
open Go.Proofs.Tryz renaming prog -> MJ, f76 -> Q7, f167 -> RH, f68 -> OS, f170 -> Rw, f67 -> Tt
open Go.Vi.D renaming zcN -> Ob, inn -> Pu, fn -> Oe, UI -> NG, YK -> N8, UG -> NS, one -> RI
open Go.Vi.Ev renaming zjJ -> Qd, zet -> Oc, zfO -> Na
open Go.IntKind renaming u64 -> Nj, wrap -> MN, i64 -> ML
open Bool renaming false_and -> N3, false_eq_true -> NC, and_false -> Oa, and_self -> Ow, true_and -> Ou, and_true -> PC
open Nat renaming gcd -> O0, le_of_ble_eq_true -> PM, not_lt_zero -> Qj, le_of_not_lt -> PG
open Go.Vi.CW renaming zjI -> Ts, zig -> Rn
open Go.Exit renaming normal -> M6, ret -> Oq, exit -> NR
open Go.LoopState renaming busy -> NJ, ready -> Nl, exhausted -> NM
open Go.Fn renaming func -> M7
open Go.Vi.Dp renaming v -> Qy
open Go.Value renaming tuple -> P3, int -> Ox, oneCell' -> NZ
open Go.Sort renaming grow -> Qf, putRow -> Oh, ahead -> Ot, putCells -> O4, heap_grow_old -> P0, mapBlock -> Oj
open Function renaming comp_def -> RX
open Go Go.Proofs
namespace Go.Vi
set_option maxRecDepth 100000
set_option maxHeartbeats 4000000
variable {a b c d kk ST ko ks T4:Int}{args:bY}{fs:bv}{h h0:aT}{i n:Nat}{rd s0 x:Bool}{s:AS}{Γ:aq}{α:Type}{φ:AT}
theorem pok_of {P:Program} (h1:P.follows .mixedOrders=true) (h2:(P.funcs.toList.all λfn=>!(fn.name == "runtime.NumGoroutine"))=true):POk P where
 mixed:=h1
 plain f fn hf:=by
  have:=List.all_eq_true.1 h2 fn (by rw[<-NV] at hf;exact NX hf)
  simpa using this
abbrev zaW(a:Int):D:=lit (.int .i64 a)
abbrev SW(n:Int):D:=(zaW n)
abbrev u64(n:Int):D:=lit (.int .u64 n)
abbrev T6(b:Bool):D:=lit (.bool b)
abbrev vi(n:Int):Dp:=.v (.int .i64 n)
abbrev vs(s:ByteArray):Dp:=.v (.string s)
abbrev ak(s:ByteArray):D:=lit (.string s)
abbrev ab(es:bv):D:=.p (.sl es)
abbrev ag(r:dO):D:=.agg (r.map .p)
abbrev fq(k:Nat):D:=lit (.func (.func k) #[] #[])
abbrev nq:D:=lit (.slice none 0 0)
theorem gd{p:Prop}(c:Bool)(h:p):c=true->p:=λ_=>h
theorem eqa{b:Bool}(h:b=true):(b==true)=true:=by rw[h];rfl
theorem eqb{b:Bool}(h:b=false):(b==true)=false:=by rw[h];rfl
theorem eqc{b:Bool}(h:b=false):(b==false)=true:=by rw[h];rfl
theorem eqd{b:Bool}(h:b=true):(b==false)=false:=by rw[h];rfl
abbrev U2:aq:=λ_=>none
theorem UR:POk MJ:=pok_of (by kernel_rfl) (by kernel_rfl)
theorem zx{c:Code}{s':AS}{e:Exit}(os az:BY)(hp:Uw φ)(hk:ER h0 os (symC MJ Γ h0 rd c s az)=some (e,s',φ):=by kernel_rfl):CW MJ Γ h0 rd c s e s':=CW.zjH UR os az hk hp
theorem zX{c:Code}{s2:AS}{e2:Exit}(s':AS)(e:Exit)(os az:BY)(hp:Uw φ)(he:e=e2)(hs:s'=s2)(hk:ER h0 os (symC MJ Γ h0 rd c s az)=some (e,s',φ):=by kernel_rfl):CW MJ Γ h0 rd c s e2 s2:=he▸hs▸CW.zjH UR os az hk hp
theorem z0{f:FuncId}{d:D}(az:BY)(hp:Uw φ)(h:aT)(hk:out0 (HG MJ Γ f args [] az)=some (d,φ):=by kernel_rfl)(ha:Ob 0 args=true:=by exact rfl)(hd:Pu 0 d=true:=by exact rfl):Ev MJ Γ f args h d h:=Qd UR az hk hp ha hd h
theorem zD{f:FuncId}{d2:D}(d:D)(az:BY)(hp:Uw φ)(h:aT)(he:d=d2)(hk:out0 (HG MJ Γ f args [] az)=some (d,φ):=by kernel_rfl)(ha:Ob 0 args=true:=by exact rfl)(hd:Pu 0 d=true:=by exact rfl):Ev MJ Γ f args h d2 h:=he▸Qd UR az hk hp ha hd h
theorem pkt(a b:D)(h:x=true)(ha:fT a=true:=by exact rfl):mm (T6 x) a b a:=EJ h ha
theorem pkf(a b:D)(h:x=false)(hb:fT b=true:=by exact rfl):mm (T6 x) a b b:=EK h hb
set_option maxRecDepth 100000
def κ(n:Int):Prop := -9223372036854775808<=n/\n<=9223372036854775807
theorem Ja{n:Int}(h:κ n)(hn:n<0):Nj.wrap (0-Nj.wrap n)=(n.natAbs:Int):=by
 obtain⟨h1,h2⟩:=h
 simp only[MN,IntKind.bits,IntKind.signed,N3,NC,if_false]
 omega
theorem Jb{n:Int}(h:κ n)(hn:¬n<0):Nj.wrap n=(n.natAbs:Int):=by
 obtain⟨h1,h2⟩:=h
 simp only[MN,IntKind.bits,IntKind.signed,N3,NC,if_false]
 omega
theorem iq{n:Int}(hn:κ n)(h:aT):Ev MJ U2 141 [SW n] h (u64 n.natAbs) h:=by
 by_cases h0:n<0
 ·rw[<-Ja hn h0]
  exact Qd UR (φ:=[Zd (n<0)=true]) [.b true] (by kernel_rfl) ⟨by simpa using h0,trivial⟩ rfl rfl h
 ·rw[<-Jb hn h0]
  exact Qd UR (φ:=[Zd (n<0)=false]) [.b false] (by kernel_rfl) ⟨by simpa using h0,trivial⟩ rfl rfl h
abbrev zez(a:Nat):bY:=[.ref (.ptr a 0)]
abbrev YT:bY:=(zez 0)
abbrev dL:Uc:=.var [.fn (.func 158) [] YT]
theorem Jc:∀(y x:Nat),Ev MJ U2 158 [u64 x,u64 y,.ref (.ptr 0 0)] [dL] (u64 (O0 y x)) [dL]:=by
 intro y
 induction y using Nat.strongRecOn with
 | _ y ih =>
  intro x
  by_cases h0:y=0
  ·subst h0
   rw[Nat.gcd_zero_left]
   exact Oc UR (φ:=[((0:Int)==0)=true]) [.b true] (by kernel_rfl) ⟨by simp,trivial⟩
  ·have hi:=ih (x % y) (Nat.mod_lt _ (by omega)) y
   rw[<-Nat.gcd_rec] at hi
   refine Oc UR (φ:=[((y:Int)==0)=false,(!Zd ((y:Int)=0))=true,Ev MJ U2 158 [u64 y,u64 ((x:Int).tmod y),.ref (.ptr 0 0)] [dL] (u64 (O0 y x)) [dL]]) [.b false,.val (u64 (O0 y x))] (by kernel_rfl) ⟨?_,?_,?_,trivial⟩
   ·simp;omega
   ·simp;omega
   ·rw[show(x:Int).tmod y=((x % y:Nat):Int) by rw[Int.tmod_eq_emod_of_nonneg (by omega)];simp]
    exact hi
abbrev VT(c d:Int):D:=(u64 (O0 c.natAbs d.natAbs))
theorem kn{a b:Int}(ha:κ a)(hb:κ b)(h:aT):Ev MJ U2 112 [SW a,SW b] h (VT b a) h :=
 Qd UR (φ:=[Ev MJ U2 141 [SW a] [dL] (u64 a.natAbs) [dL],Ev MJ U2 141 [SW b] [dL] (u64 b.natAbs) [dL],
   Ev MJ U2 158 [u64 a.natAbs,u64 b.natAbs,.ref (.ptr 0 0)] [dL] (VT b a) [dL]])
  [.val (u64 a.natAbs),.val (u64 b.natAbs),.val (VT b a)] (by kernel_rfl) ⟨iq ha _,iq hb _,Jc _ _,trivial⟩ rfl rfl h
def badR(n d:Int):Bool:=Zd (d<1)||Zd (d>1073741824)||Zd (n < -1073741824)||Zd (n>1073741824)||(O0 d.natAbs n.natAbs:Int) != 1
def fu(n d:Int):Int:=if badR n d then 50 else 0
abbrev X8(a b:Int):aT:=[.var [SW a,SW b]]
abbrev zbD(a b:Int):bY:=[.agg [SW a,SW b]]
theorem ek{n d:Int}(hn:κ n)(hd:κ d)(h:aT):Ev MJ U2 54 (zbD n d) h (SW (fu n d)) h:=by
 have hc:=kn hn hd (X8 n d)
 cases hb:badR n d
 ·simp only[fu,hb]
  exact Qd UR (φ:=[(!(Zd (d<1)||Zd (d>1073741824)||Zd (n < -1073741824)||Zd (n>1073741824)))=true ->
    Ev MJ U2 112 [SW n,SW d] (X8 n d) (VT d n) (X8 n d),badR n d=false])
   [.val (VT d n),.b false] (by kernel_rfl) ⟨λ_=>hc,hb,trivial⟩ rfl rfl h
 ·simp only[fu,hb]
  exact Qd UR (φ:=[(!(Zd (d<1)||Zd (d>1073741824)||Zd (n < -1073741824)||Zd (n>1073741824)))=true ->
    Ev MJ U2 112 [SW n,SW d] (X8 n d) (VT d n) (X8 n d),badR n d=true])
   [.val (VT d n),.b true] (by kernel_rfl) ⟨λ_=>hc,hb,trivial⟩ rfl rfl h
set_option maxHeartbeats 20000
structure Cls where
 name:ByteArray
 UL:Int
 num:Int
 den:Int
 deriving Inhabited
def Cls.row(c:Cls):dO:=[vs c.name,vi c.UL,vi c.num,vi c.den]
def Cls.ok(c:Cls):Prop:=κ c.UL/\κ c.num/\κ c.den
structure ziM where
 name:ByteArray
 To:Int
 deriving Inhabited
def ziM.row(c:ziM):dO:=[vs c.name,vi c.To]
def am(l:List α):Prop:=l.length<=140737488355328
theorem EW{row:α->dO}{l:List α}{a:α}(h:l[n]? = some a):(l.map row).getD n []=row a:=by
 simp[List.getD_eq_getElem?_getD,h]
theorem rowAt{row:α->dO}{l:List α}{a:α}{sz:Nat}(h:l[n]? = some a)(hs:(row a).length=sz):ax (n:Int) (l.map row) (row a) sz:=by
 have:=(MR.1 h).1
 refine⟨?_,EW h,hs⟩
 simp[UU]
 omega
set_option maxHeartbeats 40000
structure Sys where
 zgB:List Cls
 fees:List ziM
 zgy:List Cls
 clauses:bv
structure Sys.ok (s:Sys):Prop where
 c:∀c∈s.zgB,c.ok
 h:∀c∈s.zgy,c.ok
 f:∀f∈s.fees,κ f.To
 lc:am s.zgB
 lh:am s.zgy
 lf:am s.fees
 ll:am s.clauses
def fnv(k:Nat):D:=lit (.func (.func k) #[] #[])
theorem iY(a:Int)(h:aT):Ev MJ U2 72 [SW a] h (T6 false) h:=by
 have:=Qd (P:=MJ) (Γ:=U2) (f:=72) (args:=[SW a]) (d:=T6 (a != a)) UR (φ:=[]) [] (by kernel_rfl) trivial rfl rfl h
 simpa using this
def br(a b:Int):Int:=if a<b then -1 else if a>b then 1 else 0
abbrev zbz(a:Bool):BY:=[.val (T6 false),.val (T6 false),.b false,.b false,.b false,.b a]
theorem dq(a b:Int)(h:aT):Ev MJ U2 30 [SW a,SW b] h (SW (br a b)) h:=by
 by_cases h1:a<b
 ·simp only[br,h1,if_true]
  exact Qd UR (φ:=[Ev MJ U2 72 [SW a] [] (T6 false) [],Ev MJ U2 72 [SW b] [] (T6 false) [],false=false,false=false,Zd (a<b)=true])
   [.val (T6 false),.val (T6 false),.b false,.b false,.b true] (by kernel_rfl) ⟨iY _ _,iY _ _,rfl,rfl,decide_eq_true h1,trivial⟩ rfl rfl h
 ·by_cases h2:a>b
  ·simp only[br,h1,h2,if_true,if_false]
   exact Qd UR (φ:=[Ev MJ U2 72 [SW a] [] (T6 false) [],Ev MJ U2 72 [SW b] [] (T6 false) [],false=false,false=false,Zd (a<b)=false,Zd (a>b)=true])
    (zbz true) (by kernel_rfl) ⟨iY _ _,iY _ _,rfl,rfl,decide_eq_false h1,decide_eq_true h2,trivial⟩ rfl rfl h
  ·simp only[br,h1,h2,if_false]
   exact Qd UR (φ:=[Ev MJ U2 72 [SW a] [] (T6 false) [],Ev MJ U2 72 [SW b] [] (T6 false) [],false=false,false=false,Zd (a<b)=false,Zd (a>b)=false])
    (zbz false) (by kernel_rfl) ⟨iY _ _,iY _ _,rfl,rfl,decide_eq_false h1,decide_eq_false h2,trivial⟩ rfl rfl h
def oX(a b c d:Int):Int:=br (ML.wrap (a*d)) (ML.wrap (c*b))
def ti(a b c d:Int):Int×Int:=if fu a b != 0 then (0,fu a b) else if fu c d != 0 then (0,fu c d) else (oX a b c d,0)
abbrev hAB(a b c d:Int):aT:=[.var [SW a,SW b],.var [SW c,SW d]]
abbrev zcB(a b:Nat):bY:=[.ref (.ptr a 0),.ref (.ptr b 0)]
abbrev zbd:bY:=(zcB 0 1)
abbrev fAB:D:=.fn (.func 77) [] zbd
abbrev Wg(e f g h:Int):aT:=hAB e f g h++hAB e f g h
theorem EX(a b c d:Int):Ev MJ U2 77 zbd (Wg a b c d) (.UI [SW (oX a b c d),SW 0]) (Wg a b c d) :=
 Ev.zjI UR (φ:=[Ev MJ U2 30 [SW (ML.wrap (a*d)),SW (ML.wrap (c*b))] (Wg a b c d) (SW (oX a b c d)) (Wg a b c d)])
  [.val (SW (oX a b c d))] (by kernel_rfl) ⟨dq _ _ _,trivial⟩
def lJ(a b c d:Int)(i:Nat):AS:={t:=Ue 28 0 [(2,fAB),(6,SW 0),(7,SW 0),(13,.agg [SW a,SW b,SW c,SW d]),(14,SW i)],h:=(Wg a b c d),m:=[]}
abbrev zbF(c d:Int):D:=(SW (fu c d))
theorem HJ(c d:Int)(ha:κ a)(hb:κ b)(h0:(fu a b != 0)=false):CW MJ U2 (hAB a b c d) false (sub Q7 0) (lJ a b c d 0) .normal (lJ a b c d 1):=by
 have:=Ts (P:=MJ) (Γ:=U2) (h0:=hAB a b c d) (rd:=false) (c:=sub Q7 0) (s:=lJ a b c d 0) (e:=.normal) (s':={t:=Ue 28 0 [(2,fAB),(6,SW 0),(7,SW 0),(13,.agg [SW a,SW b,SW c,SW d]),(14,SW (ML.wrap (0+1)))],h:=(Wg a b c d),m:=[]}) UR
  (φ:=[Zd ((0:Int)<2)=true,UU 0 2=true,Ev MJ U2 54 (zbD a b) ((Wg a b c d)++(X8 a b)) (zbF a b) ((Wg a b c d)++(X8 a b)),(fu a b != 0)=false])
  [2,6,7,13,14] 4 (PM rfl) [.b true,.val (zbF a b),.b false] (by kernel_rfl) ⟨by decide,by decide,ek ha hb _,h0,trivial⟩
 exact this
theorem both_2(a b:Int)(hc:κ c)(hd:κ d)(h0:(fu c d != 0)=false):CW MJ U2 (hAB a b c d) false (sub Q7 0) (lJ a b c d 1) .normal (lJ a b c d 2):=by
 have:=Ts (P:=MJ) (Γ:=U2) (h0:=hAB a b c d) (rd:=false) (c:=sub Q7 0) (s:=lJ a b c d 1) (e:=.normal) (s':={t:=Ue 28 0 [(2,fAB),(6,SW 0),(7,SW 0),(13,.agg [SW a,SW b,SW c,SW d]),(14,SW (ML.wrap (1+1)))],h:=(Wg a b c d),m:=[]}) UR
  (φ:=[Zd ((1:Int)<2)=true,UU 1 2=true,Ev MJ U2 54 (zbD c d) ((Wg a b c d)++(X8 c d)) (zbF c d) ((Wg a b c d)++(X8 c d)),(fu c d != 0)=false])
  [2,6,7,13,14] 4 (PM rfl) [.b true,.val (zbF c d),.b false] (by kernel_rfl) ⟨by decide,by decide,ek hc hd _,h0,trivial⟩
 exact this
def retS(a b c d e:Int):AS:={t:=Ue 28 0 [(6,SW 0),(7,SW e)],h:=(Wg a b c d),m:=[]}
abbrev zaN:bY:=Ue 28 0 [(2,fAB),(6,SW 0),(7,SW 0)]
theorem zkW(ha:κ a)(hb:κ b)(hc:κ c)(hd:κ d):
  (∃e,ti a b c d=(0,e)/\CW MJ U2 (hAB a b c d) false (.loop (sub Q7 0)) (lJ a b c d 0) .ret (retS a b c d e)) \/
  (ti a b c d=(oX a b c d,0)/\CW MJ U2 (hAB a b c d) false (.loop (sub Q7 0)) (lJ a b c d 0) (.exit 0) {t:=zaN,h:=(Wg a b c d),m:=[]}):=by
 cases h0:fu a b != 0
 ·cases h1:fu c d != 0
  ·refine .inr ⟨by simp[ti,h0,h1],?_⟩
   refine Rn 2 (lJ a b c d) (by simp) (λi hi=>?_) ?_
   ·match i,hi with
    | 0,_=>exact HJ c d ha hb h0
    | 1,_=>exact both_2 a b hc hd h1
   ·exact Ts UR (φ:=[Zd ((2:Int)<2)=false]) [2,6,7] 4 (PM rfl) [.b false] (by kernel_rfl) ⟨by decide,trivial⟩
  ·refine .inl ⟨fu c d,by simp[ti,h0,h1],?_⟩
   refine Rn 1 (lJ a b c d) (by simp) (λi hi=>?_) ?_
   ·match i,hi with
    | 0,_=>exact HJ c d ha hb h0
   ·exact Ts UR (φ:=[Zd ((1:Int)<2)=true,UU 1 2=true,Ev MJ U2 54 (zbD c d) ((Wg a b c d)++(X8 c d)) (zbF c d) ((Wg a b c d)++(X8 c d)),(fu c d != 0)=true])
     [6,7] 4 (PM rfl) [.b true,.val (zbF c d),.b true] (by kernel_rfl) ⟨by decide,by decide,ek hc hd _,h1,trivial⟩
 ·refine .inl ⟨fu a b,by simp[ti,h0],?_⟩
  refine Rn 0 (lJ a b c d) (by simp) (λi hi=>absurd hi (Qj i)) ?_
  exact Ts UR (φ:=[Zd ((0:Int)<2)=true,UU 0 2=true,Ev MJ U2 54 (zbD a b) ((Wg a b c d)++(X8 a b)) (zbF a b) ((Wg a b c d)++(X8 a b)),(fu a b != 0)=true])
     [6,7] 4 (PM rfl) [.b true,.val (zbF a b),.b true] (by kernel_rfl) ⟨by decide,by decide,ek ha hb _,h0,trivial⟩
abbrev zaS(e f g h:Int):D:=(.UI [SW (ti e f g h).1,SW (ti e f g h).2])
theorem Jd(ha:κ a)(hb:κ b)(hc:κ c)(hd:κ d):Ev MJ U2 76 [.agg [SW a,SW b],.agg [SW c,SW d],fAB] (hAB a b c d) (.UI [SW (ti a b c d).1,SW (ti a b c d).2]) (hAB a b c d):=by
 rcases zkW ha hb hc hd with ⟨e,h1,h2⟩|⟨h1,h2⟩
 ·rw[h1]
  exact Ev.zjI UR (φ:=[CW MJ U2 (hAB a b c d) false (.loop (sub Q7 0)) (lJ a b c d 0) .ret (retS a b c d e)])
   [.sum [2,6,7,13,14] .ret (retS a b c d e)] (by kernel_rfl) ⟨h2,trivial⟩
 ·rw[h1]
  exact Ev.zjI UR (φ:=[CW MJ U2 (hAB a b c d) false (.loop (sub Q7 0)) (lJ a b c d 0) (.exit 0) {t:=Ue 28 0 [(2,fAB),(6,SW 0),(7,SW 0)],h:=hAB a b c d++hAB a b c d,m:=[]},
   Ev MJ U2 77 [.ref (.ptr 0 0),.ref (.ptr 1 0)] (hAB a b c d++hAB a b c d) (.UI [SW (oX a b c d),SW 0]) (hAB a b c d++hAB a b c d)])
   [.sum [2,6,7,13,14] (.exit 0) {t:=Ue 28 0 [(2,fAB),(6,SW 0),(7,SW 0)],h:=hAB a b c d++hAB a b c d,m:=[]},.val (.UI [SW (oX a b c d),SW 0])] (by kernel_rfl)
   ⟨h2,EX _ _ _ _,trivial⟩
theorem zN(ha:κ a)(hb:κ b)(hc:κ c)(hd:κ d)(h:aT):Ev MJ U2 34 [.agg [SW a,SW b],.agg [SW c,SW d]] h (zaS a b c d) h :=
 Qd UR (φ:=[Ev MJ U2 76 [.agg [SW a,SW b],.agg [SW c,SW d],fAB] (hAB a b c d) (zaS a b c d) (hAB a b c d)])
  [.val (zaS a b c d)] (by kernel_rfl) ⟨Jd ha hb hc hd,trivial⟩ rfl rfl h
set_option maxHeartbeats 4000000
structure Uh where
 kind:Int
 sub:Int
 obj:Int
 value:Int
 U3:Int
 Λ:Int
 ST:Int
 no:Int
 deriving Inhabited
variable {b0 Ug f:Uh}
abbrev ZL(a:Uh):dO:=[vi a.kind,vi a.sub,vi a.obj,vi a.value,vi a.U3,vi a.Λ,vi a.ST,vi a.no]
def Uh.row(f:Uh):dO:=(ZL f)
def Uh.ok(f:Uh):Prop:=κ f.kind/\κ f.sub/\κ f.obj/\κ f.value/\κ f.U3/\κ f.Λ/\κ f.ST/\κ f.no
def orI(a b:Int):Int:=if (a != 0)=true then a else if (b != 0)=true then b else 0
abbrev orR(a b:Int):bv:=[[vi a],[vi b]]
abbrev zb6(a:Nat)(b:List (Nat×D))(f:aT):AS:={t:=Ue a 0 b,h:=f,m:=[]}
abbrev zab(c:bv)(d:Int)(e:aT):AS:=(zb6 18 [(2,SW 0),(3,SW 0),(6,ab c),(7,SW 2),(8,SW d)] e)
abbrev orS(a b:Int)(i:Int)(h:aT):AS:=(zab (orR a b) i h)
theorem or_0(hr:ax 0 (orR a b) [vi a] 1)(hz:(a != 0)=false):(CW MJ U2 h0 false (sub RH 0) (orS a b 0 h) .normal (orS a b 1 h)):=by
 refine zX (zab [[vi a],[vi b]] (MN ML (0+1)) h) M6 [.st (.mask [2,3,6,7,8])] [.b true,.row [vi a],.b false] (.c (show Zd (0<2)=true from rfl) (.c hr (.c hz .n))) ?_ ?_<;>(first|rfl|simp_all)
theorem or_1(hr:ax 1 (orR a b) [vi b] 1)(hz:(b != 0)=false):(CW MJ U2 h0 false (sub RH 0) (orS a b 1 h) .normal (orS a b 2 h)):=by
 refine zX (zab [[vi a],[vi b]] (MN ML (1+1)) h) M6 [.st (.mask [2,3,6,7,8])] [.b true,.row [vi b],.b false] (.c (show Zd (1<2)=true from rfl) (.c hr (.c hz .n))) ?_ ?_<;>(first|rfl|simp_all)
abbrev Wz(b:Nat)(c:Int):bY:=Ue b 0 [(2,SW c)]
abbrev zaM(a:Nat):BY:=[.st (.mask [a])]
abbrev zcV(b:Int)(c:aT):AS:={t:=(Wz 18 b),h:=c,m:=[]}
theorem or_0r(hr:ax 0 (orR a b) [vi a] 1)(hz:(a != 0)=true):(CW MJ U2 h0 false (sub RH 0) (orS a b 0 h) .ret (zcV a h)):=by
 refine zX (zcV a h) Oq (zaM 2) [.b true,.row [vi a],.b true] (.c (show Zd (0<2)=true from rfl) (.c hr (.c hz .n))) ?_ ?_<;>(first|rfl|simp_all)
theorem or_1r(hr:ax 1 (orR a b) [vi b] 1)(hz:(b != 0)=true):(CW MJ U2 h0 false (sub RH 0) (orS a b 1 h) .ret (zcV b h)):=by
 refine zX (zcV b h) Oq (zaM 2) [.b true,.row [vi b],.b true] (.c (show Zd (1<2)=true from rfl) (.c hr (.c hz .n))) ?_ ?_<;>(first|rfl|simp_all)
abbrev VJ:bY:=Ue 18 0 [(2,SW 0),(3,SW 0)]
theorem or_2:(CW MJ U2 h0 false (sub RH 0) (orS a b 2 h) (.exit 0) {t:=VJ,h:=h,m:=[]}):=by
 refine zX {t:=VJ,h:=h,m:=[]} (NR 0) [.st (.mask [2,3])] [.b false] (.c (show Zd (2<2)=false from rfl) .n) ?_ ?_<;>(first|rfl|simp_all)
def BU(a b:Int)(h:aT):Exit×AS:=match a != 0 with
 | true=>(.ret,(zcV a h))
 | false=>match b != 0 with
  | true=>(.ret,(zcV b h))
  | false=>(.exit 0,{t:=VJ,h:=h,m:=[]})
theorem or_cw{a b:Int}{h0 h:aT}:CW MJ U2 h0 false (.loop (sub RH 0)) (orS a b 0 h) (BU a b h).1 (BU a b h).2:=by
 have r0:ax 0 (orR a b) [vi a] 1:=⟨rfl,rfl,rfl⟩
 have r1:ax 1 (orR a b) [vi b] 1:=⟨rfl,rfl,rfl⟩
 unfold BU
 cases ha:a != 0
 ·cases hb:b != 0
  ·refine Rn 2 (λi=>orS a b i h) (by simp) (λi hi=>?_) or_2
   match i,hi with
   | 0,_=>exact or_0 r0 ha
   | 1,_=>exact or_1 r1 hb
  ·refine Rn 1 (λi=>orS a b i h) (by simp) (λi hi=>?_) (or_1r r1 hb)
   match i,hi with
   | 0,_=>exact or_0 r0 ha
 ·exact Rn 0 (λi=>orS a b i h) (by simp) (λi hi=>absurd hi (Qj i)) (or_0r r0 ha)
abbrev Zg(b:Uh):bY:=[SW b.kind,SW b.sub,SW b.obj,SW b.value,SW b.U3,SW b.Λ,SW b.ST,SW b.no]
noncomputable abbrev eD(a:Uh)(b:Uh):aT:=[.var (Zg a),.var (Zg b)]
abbrev Yc(b:Int):oN:=(some (SW b))
abbrev XN(b:Uh):oN:=(some (SW b.no))
abbrev Vc(c d:Uh):D:=SW (orI (br c.ST d.ST) (br c.no d.no))
abbrev VN(c d:Uh):D:=SW (br c.ST d.ST)
abbrev zaI:D:=(.ref (.ptr 0 7))
abbrev zaJ:D:=(.ref (.ptr 1 7))
abbrev zbo(a:Nat):D:=(.ref (.ptr 1 a))
abbrev zbs(c d:Uh):D:=SW (br c.no d.no)
abbrev zbK(a:Nat):D:=(.ref (.ptr 0 a))
abbrev zcq(c d:Uh)(e:Exit)(f:bY):BY:=[.val (VN c d),.val (zbs c d),.inl,.st (.frz 2 (orR (br c.ST d.ST) (br c.no d.no))),.sum [2,3,6,7,8] (e) {t:=f,h:=[.var (Zg c),.var (Zg d),.U7],m:=[]}]
theorem sB{a b:Uh}(h:aT):(Ev MJ U2 125 [ag a.row,ag b.row] h (Vc a b) h):=by
 have UE:=(@or_cw (br a.ST b.ST) (br a.no b.no) ([.var (Zg a),.var (Zg b),.T7 [[(VN a b)],[(zbs a b)]] 0 1]) ([.var (Zg a),.var (Zg b),.U7]))
 unfold BU at UE
 revert UE
 cases ho1:br a.ST b.ST != 0 with
 | false =>
  intro UE
  revert UE
  cases ho2:br a.no b.no != 0 with
  | false =>
   intro UE
   exact zD (SW 0) (zcq a b (NR 0) VJ) (.c (@dq (a.ST) (b.ST) (eD a b)) (.c (@dq (a.no) (b.no) (eD a b)) (.er [[(VN a b)],[(zbs a b)]] (.c UE (.e (zbK 6) (.c (show @Eq (oN) (Yc a.ST) (Yc a.ST) from rfl) (.e (zbo 6) (.c (show @Eq (oN) (Yc b.ST) (Yc b.ST) from rfl) (.e zaI (.e zaI (.c (show @Eq (oN) (XN a) (XN a) from rfl) (.c (show @Eq (oN) (XN a) (XN a) from rfl) (.e zaJ (.e zaJ (.c (show @Eq (oN) (XN b) (XN b) from rfl) (.c (show @Eq (oN) (XN b) (XN b) from rfl) .n)))))))))))))))) h (by simp[orI,ho1,ho2])
  | true =>
   intro UE
   exact zD (zbs a b) (zcq a b Oq (Wz 18 (br a.no b.no))) (.c (@dq (a.ST) (b.ST) (eD a b)) (.c (@dq (a.no) (b.no) (eD a b)) (.er [[(VN a b)],[(zbs a b)]] (.c UE (.e (zbK 6) (.c (show @Eq (oN) (Yc a.ST) (Yc a.ST) from rfl) (.e (zbo 6) (.c (show @Eq (oN) (Yc b.ST) (Yc b.ST) from rfl) (.e zaI (.e zaI (.c (show @Eq (oN) (XN a) (XN a) from rfl) (.c (show @Eq (oN) (XN a) (XN a) from rfl) (.e zaJ (.e zaJ (.c (show @Eq (oN) (XN b) (XN b) from rfl) (.c (show @Eq (oN) (XN b) (XN b) from rfl) .n)))))))))))))))) h (by simp[orI,ho1,ho2])
 | true =>
  intro UE
  exact zD (VN a b) (zcq a b Oq (Wz 18 (br a.ST b.ST))) (.c (@dq (a.ST) (b.ST) (eD a b)) (.c (@dq (a.no) (b.no) (eD a b)) (.er [[(VN a b)],[(zbs a b)]] (.c UE (.e (zbK 6) (.c (show @Eq (oN) (Yc a.ST) (Yc a.ST) from rfl) (.e (zbo 6) (.c (show @Eq (oN) (Yc b.ST) (Yc b.ST) from rfl) (.e zaI (.e zaI (.c (show @Eq (oN) (XN a) (XN a) from rfl) (.c (show @Eq (oN) (XN a) (XN a) from rfl) (.e zaJ (.e zaJ (.c (show @Eq (oN) (XN b) (XN b) from rfl) (.c (show @Eq (oN) (XN b) (XN b) from rfl) .n)))))))))))))))) h (by simp[orI,ho1])
theorem Uo(h:i<n)(hn:n<=140737488355328):ML.wrap ((i:Int)+1)=((i+1:Nat):Int):=by
 rw[wrap_i64 (by omega) (by omega)];omega
theorem UO(row:α->dO){l:List α}(h:i<l.length):Zd ((i:Int)<((l.map row).length:Int))=true:=by simp;omega
theorem bl(row:α->dO)(l:List α):Zd ((l.length:Int)<((l.map row).length:Int))=false:=by simp
abbrev fz:Uh:=⟨0,0,0,0,0,0,0,0⟩
abbrev zc8:bY:=[.ref (.ptr 4 0),.ref (.ptr 5 0),.ref (.ptr 6 0)]
abbrev Zv:bY:=zc8
abbrev zcL(a:Nat):Nat×D:=(a,.ref (.ptr 1 0))
abbrev ZH:Nat×D:=(zcL 6)
abbrev zcj(a b:Nat):Nat×D:=(a,.ref (.ptr b 0))
abbrev zcH(a:Nat):Nat×D:=(a,.ref (.ptr 2 0))
abbrev atT:bY:=Ue 50 0 [ZH,(zcH 10),(zcj 11 3),(16,.fn (.func 170) [] Zv)]
noncomputable abbrev atL(st:LoopState):Uc:=.loop st none 0 atT #[17] (ar (sub OS 0)) (af (sub OS 0))
abbrev Zw(a b c:Int):bY:=[SW a,SW b,SW c]
abbrev Xi(a:Uh):bY:=(a.row.map .p)
noncomputable abbrev atH(kk ks ko T4 ST:Int)(fs:bv)(Ug:Uh)(some:Bool)(st:LoopState)(more:aT):aT :=
 [.var (Zw kk ks ko),.var [SW T4],.var (Xi Ug),.var [T6 some],.var [ab fs],.var (Zw kk ks ko),.var [SW ST],.Ut,atL st]++more
abbrev atU:bY:=Ue 50 0 [ZH,(zcH 10),(zcj 11 3),(zcj 12 10)]
abbrev zc9(b:bY):aT:=[.var b,.var b]
abbrev YA(a:Uh):aT:=(zc9 (a.row.map .p))
theorem at_asg{some:Bool}:(CW MJ U2 (atH kk ks ko T4 ST fs Ug some .ready [.var (Xi f)]) true (ar (sub OS 0)) {t:=dW atT [(17,ag f.row)],h:=atH kk ks ko T4 ST fs Ug some .ready [.var (Xi f)],m:=[]} .normal {t:=atU,h:=atH kk ks ko T4 ST fs Ug some .ready (YA f),m:=[]}):=by
 let v0:bY:=(Zg f)
 exact zx [.st (.mask [6,10,11,12])] [] .n
def zO(T4:Int)(Ug:Uh)(some:Bool)(f:Uh):Bool:=Zd (f.U3<=T4)&&Zd (T4<f.Λ)&&(!some||Zd (orI (br f.ST Ug.ST) (br f.no Ug.no)>=0))
def cG(T4:Int)(Ug:Uh)(some:Bool)(f:Uh):Uh×Bool:=bif zO T4 Ug some f then (f,true) else (Ug,some)
abbrev Zs:bY:=Ue 50 0 [(zcL 6),(zcH 10),(zcj 11 3),(16,Oe (M7 170) [] zc8)]
abbrev zaz:Array Tmp:={toList:=[17]}
noncomputable abbrev lK(kk:Int)(ks:Int)(ko:Int)(T4:Int)(ST:Int)(fs:bv)(Ug:Uh)(f:Uh)(some:Bool):aT:=[.var (Zw kk ks ko),.var [SW T4],.var (Zg Ug),.var [T6 some],.var [ab fs],.var (Zw kk ks ko),.var [SW ST],.Ut,.loop NJ none 0 (Zs) zaz (ar (sub OS 0)) (af (sub OS 0)),.var (Zg f),.var (Zg f)]
abbrev Xd:BY:=[.st (.mask [])]
theorem Je{some:Bool}:(CW MJ U2 (atH kk ks ko T4 ST fs Ug some .ready [.var (Xi f)]) true (af (sub OS 0)) {t:=atU,h:=atH kk ks ko T4 ST fs Ug some .busy (YA f),m:=[]} .normal {t:=Ue 50 0 [],h:=atH kk ks ko T4 ST fs (cG T4 Ug some f).1 (cG T4 Ug some f).2 .busy (YA f),m:=[]}):=by
 cases U5:Zd (f.U3<=T4)&&Zd (T4<f.Λ)&&(!some||Zd (orI (br f.ST Ug.ST) (br f.no Ug.no)>=0))
 ·refine zX {t:=Ue 50 0 [],h:=(lK kk ks ko T4 ST fs Ug f some),m:=[]} M6 Xd [.val (Vc f Ug),.b false] (.c (gd (Zd (f.U3<=T4)&&Zd (T4<f.Λ)&&!!some) (@sB f Ug (lK kk ks ko T4 ST fs Ug f some))) (.c U5 .n)) ?_ ?_<;>(first|rfl|(have hs:zO T4 Ug some f=true:=U5;simp only[cG,hs,cond_true];rfl)|(have hs:zO T4 Ug some f=false:=U5;simp only[cG,hs,cond_false];rfl))
 ·let v0:bY:=(Zg f)
  refine zX {t:=Ue 50 0 [],h:=[.var (Zw kk ks ko),.var [SW T4],.var v0,.var [T6 true],.var [ab fs],.var (Zw kk ks ko),.var [SW ST],.Ut,.loop NJ none 0 (Zs) zaz (ar (sub OS 0)) (af (sub OS 0)),.var v0,.var v0],m:=[]} M6 Xd [.val (Vc f Ug),.b true] (.c (gd (Zd (f.U3<=T4)&&Zd (T4<f.Λ)&&!!some) (@sB f Ug (lK kk ks ko T4 ST fs Ug f some))) (.c U5 .n)) ?_ ?_<;>subst v0<;>(first|rfl|(have hs:zO T4 Ug some f=true:=U5;simp only[cG,hs,cond_true];rfl)|(have hs:zO T4 Ug some f=false:=U5;simp only[cG,hs,cond_false];rfl))
theorem Jf{kk ks ko T4 ST:Int}{fs:bv}{Ug f:Uh}{some:Bool}:Iv MJ U2 (.ref (.yl 8)) [ag f.row] (atH kk ks ko T4 ST fs Ug some .ready [.var (Xi f)]) (T6 true) (atH kk ks ko T4 ST fs (cG T4 Ug some f).1 (cG T4 Ug some f).2 .ready (YA f)) :=
 Iv.round (h1:=atH kk ks ko T4 ST fs Ug some .ready (YA f)) rfl rfl at_asg rfl Je rfl
def qe(kk ks ko:Int)(f:Uh):Bool:=f.kind==kk&&(f.sub==ks&&(f.obj==ko&&true))
def zgh(kk ks ko ST:Int)(f:Uh):Bool:=qe kk ks ko f&&Zd (f.ST<=ST)
abbrev Wi:Nat×D:=(2,.ref (.ptr 5 0))
abbrev WY:Nat×D:=(0,.ref (.yl 8))
abbrev zac:Nat×D:=(1,.ref (.ptr 4 0))
abbrev zad:Nat×D:=(3,.ref (.ptr 6 0))
abbrev ofT(fs:bv)(i:Int):bY:=Ue 30 0 [WY,zac,Wi,zad,(7,ab fs),(8,SW fs.length),(9,SW i)]
abbrev Zy(a:Nat):D:=SW (MN ML ((↑a:Int)+1))
abbrev Yr(a:Nat)(b:bv):Nat×D:=(a,SW (↑(MO b):Int))
abbrev W7:D:=D.p (Qy (P3 {toList:=[]}))
abbrev VU(a:Uh)(b:Int):D:=(T6 (Zd (a.ST<=b)))
abbrev zaA:BY:=[.st (.mask [0,1,2,3,7,8,9]),.st (.trim 9)]
abbrev zce(a:Uh)(c:Bool)(d:D):BY:=[.b true,.row (ZL a),.g c,.g c,.g c,.g c,.ov 22 d,.g false,.g false,.g false,.g false,.ov 28 (T6 false),.b false]
abbrev zcC(a:bv)(b:Nat):bY:=Ue 30 0 [WY,zac,Wi,zad,(7,ab a),(Yr 8 a),(9,(Zy b))]
abbrev zep(a b c d:bY)(e:Uc)(f g:bY)(h:Array Tmp)(i:Code):aT:=[.var a,.var b,.var c,.var d,e,.var a,.var f,.Ut,.loop Nl none 0 g h (ar (i)) (af (i))]
theorem zeF{some:Bool}(hr:ax (i:Int) fs f.row 8)(U8:Zd ((i:Int)<(fs.length:Int))=true)(hw:ML.wrap ((i:Int)+1)=((i+1:Nat):Int)):(CW MJ U2 (atH kk ks ko T4 ST fs b0 s0 .ready []) false (sub Rw 0) {t:=ofT fs i,h:=atH kk ks ko T4 ST fs Ug some .ready [],m:=[]} .normal {t:=ofT fs ((i+1:Nat):Int),h:=atH kk ks ko T4 ST fs (bif zgh kk ks ko ST f then cG T4 Ug some f else (Ug,some)).1 (bif zgh kk ks ko ST f then cG T4 Ug some f else (Ug,some)).2 .ready [],m:=[]}):=by
 cases U5:f.kind==kk&&(f.sub==ks&&(f.obj==ko&&true))
 ·refine zX {t:=Ue 30 0 [(0,.ref (.yl 8)),(1,.ref (.ptr 4 0)),(2,.ref (.ptr 5 0)),(3,.ref (.ptr 6 0)),(7,ab fs),(8,SW (↑(MO fs):Int)),(9,SW (MN ML ((↑i:Int)+1)))],h:=[.var [SW kk,SW ks,SW ko],.var [SW T4],.var [SW Ug.kind,SW Ug.sub,SW Ug.obj,SW Ug.value,SW Ug.U3,SW Ug.Λ,SW Ug.ST,SW Ug.no],.var [T6 some],.var [ab fs],.var [SW kk,SW ks,SW ko],.var [SW ST],.Ut,.loop Nl none 0 (Ue 50 0 [(6,.ref (.ptr 1 0)),(10,.ref (.ptr 2 0)),(11,.ref (.ptr 3 0)),(16,Oe (M7 170) [] [.ref (.ptr 4 0),.ref (.ptr 5 0),.ref (.ptr 6 0)])]) {toList:=[17]} (ar (sub OS 0)) (af (sub OS 0))],m:=[]} M6 [.st (.mask [0,1,2,3,7,8,9]),.st (.trim 9)] [.b true,.row [vi f.kind,vi f.sub,vi f.obj,vi f.value,vi f.U3,vi f.Λ,vi f.ST,vi f.no],.g false,.g false,.g false,.g false,.ov 22 (T6 false),.g false,.g false,.g false,.g false,.ov 28 (T6 false),.b false] (.c U8 (.c hr (.c (show((f.kind==kk&&(f.sub==ks&&(f.obj==ko&&true)))==true)=false from(by rw[U5]<;>rfl)) (.c (show((f.kind==kk&&(f.sub==ks&&(f.obj==ko&&true)))==true)=false from(by rw[U5]<;>rfl)) (.c (show((f.kind==kk&&(f.sub==ks&&(f.obj==ko&&true)))==true)=false from(by rw[U5]<;>rfl)) (.c (show((f.kind==kk&&(f.sub==ks&&(f.obj==ko&&true)))==true)=false from(by rw[U5]<;>rfl)) (.c (pkf (D.p (Qy (P3 {toList:=[]}))) (T6 false) U5) (.f (.f (.f (.f (.c (pkf (D.p (Qy (P3 {toList:=[]}))) (T6 false) rfl) (.er false .n))))))))))))) ?_ ?_<;>(first|rfl|(simp only[hw,zgh,qe,U5,N3,cond_false];rfl))
 ·cases Uy:Zd (f.ST<=ST)
  ·refine zX {t:=Ue 30 0 [(0,.ref (.yl 8)),(1,.ref (.ptr 4 0)),(2,.ref (.ptr 5 0)),(3,.ref (.ptr 6 0)),(7,ab fs),(8,SW (↑(MO fs):Int)),(9,SW (MN ML ((↑i:Int)+1)))],h:=[.var [SW kk,SW ks,SW ko],.var [SW T4],.var [SW Ug.kind,SW Ug.sub,SW Ug.obj,SW Ug.value,SW Ug.U3,SW Ug.Λ,SW Ug.ST,SW Ug.no],.var [T6 some],.var [ab fs],.var [SW kk,SW ks,SW ko],.var [SW ST],.Ut,.loop Nl none 0 (Ue 50 0 [(6,.ref (.ptr 1 0)),(10,.ref (.ptr 2 0)),(11,.ref (.ptr 3 0)),(16,Oe (M7 170) [] [.ref (.ptr 4 0),.ref (.ptr 5 0),.ref (.ptr 6 0)])]) {toList:=[17]} (ar (sub OS 0)) (af (sub OS 0))],m:=[]} M6 [.st (.mask [0,1,2,3,7,8,9]),.st (.trim 9)] [.b true,.row [vi f.kind,vi f.sub,vi f.obj,vi f.value,vi f.U3,vi f.Λ,vi f.ST,vi f.no],.g true,.g true,.g true,.g true,.ov 22 (T6 (Zd (f.ST<=ST))),.g false,.g false,.g false,.g false,.ov 28 (T6 false),.b false] (.c U8 (.c hr (.c (show((f.kind==kk&&(f.sub==ks&&(f.obj==ko&&true)))==true)=true from(by rw[U5]<;>rfl)) (.c (show((f.kind==kk&&(f.sub==ks&&(f.obj==ko&&true)))==true)=true from(by rw[U5]<;>rfl)) (.c (show((f.kind==kk&&(f.sub==ks&&(f.obj==ko&&true)))==true)=true from(by rw[U5]<;>rfl)) (.c (show((f.kind==kk&&(f.sub==ks&&(f.obj==ko&&true)))==true)=true from(by rw[U5]<;>rfl)) (.c (pkt (T6 (Zd (f.ST<=ST))) (T6 false) U5) (.c (show(Zd (f.ST<=ST)==true)=false from(by rw[Uy]<;>rfl)) (.c (show(Zd (f.ST<=ST)==true)=false from(by rw[Uy]<;>rfl)) (.c (show(Zd (f.ST<=ST)==true)=false from(by rw[Uy]<;>rfl)) (.c (show(Zd (f.ST<=ST)==true)=false from(by rw[Uy]<;>rfl)) (.c (pkf (D.p (Qy (P3 {toList:=[]}))) (T6 false) Uy) (.er false .n))))))))))))) ?_ ?_<;>(first|rfl|(simp only[hw,zgh,qe,U5,Uy,Oa,cond_false];rfl))
  ·let v0:bY:=[SW (cG T4 Ug some f).fst.kind,SW (cG T4 Ug some f).fst.sub,SW (cG T4 Ug some f).fst.obj,SW (cG T4 Ug some f).fst.value,SW (cG T4 Ug some f).fst.U3,SW (cG T4 Ug some f).fst.Λ,SW (cG T4 Ug some f).fst.ST,SW (cG T4 Ug some f).fst.no]
   let v1:bY:=[SW f.kind,SW f.sub,SW f.obj,SW f.value,SW f.U3,SW f.Λ,SW f.ST,SW f.no]
   refine zX {t:=Ue 30 0 [(0,.ref (.yl 8)),(1,.ref (.ptr 4 0)),(2,.ref (.ptr 5 0)),(3,.ref (.ptr 6 0)),(7,ab fs),(8,SW (↑(MO fs):Int)),(9,SW (MN ML ((↑i:Int)+1)))],h:=[.var [SW kk,SW ks,SW ko],.var [SW T4],.var v0,.var [T6 (cG T4 Ug some f).2],.var [ab fs],.var [SW kk,SW ks,SW ko],.var [SW ST],.Ut,.loop Nl none 0 (Ue 50 0 [(6,.ref (.ptr 1 0)),(10,.ref (.ptr 2 0)),(11,.ref (.ptr 3 0)),(16,Oe (M7 170) [] [.ref (.ptr 4 0),.ref (.ptr 5 0),.ref (.ptr 6 0)])]) {toList:=[17]} (ar (sub OS 0)) (af (sub OS 0))],m:=[]} M6 [.st (.mask [0,1,2,3,7,8,9]),.st (.trim 9)] [.b true,.row [vi f.kind,vi f.sub,vi f.obj,vi f.value,vi f.U3,vi f.Λ,vi f.ST,vi f.no],.g true,.g true,.g true,.g true,.ov 22 (T6 (Zd (f.ST<=ST))),.g true,.g true,.g true,.inv (T6 true) [.var [SW kk,SW ks,SW ko],.var [SW T4],.var v0,.var [T6 (cG T4 Ug some f).2],.var [ab fs],.var [SW kk,SW ks,SW ko],.var [SW ST],.Ut,.loop Nl none 0 (Ue 50 0 [(6,.ref (.ptr 1 0)),(10,.ref (.ptr 2 0)),(11,.ref (.ptr 3 0)),(16,Oe (M7 170) [] [.ref (.ptr 4 0),.ref (.ptr 5 0),.ref (.ptr 6 0)])]) {toList:=[17]} (ar (sub OS 0)) (af (sub OS 0)),.var v1,.var v1],.g true,.ov 28 (T6 !true),.b false] (.c U8 (.c hr (.c (show((f.kind==kk&&(f.sub==ks&&(f.obj==ko&&true)))==true)=true from(by subst v0 v1;rw[U5]<;>rfl)) (.c (show((f.kind==kk&&(f.sub==ks&&(f.obj==ko&&true)))==true)=true from(by subst v0 v1;rw[U5]<;>rfl)) (.c (show((f.kind==kk&&(f.sub==ks&&(f.obj==ko&&true)))==true)=true from(by subst v0 v1;rw[U5]<;>rfl)) (.c (show((f.kind==kk&&(f.sub==ks&&(f.obj==ko&&true)))==true)=true from(by subst v0 v1;rw[U5]<;>rfl)) (.c (pkt (T6 (Zd (f.ST<=ST))) (T6 false) U5) (.c (show(Zd (f.ST<=ST)==true)=true from(by subst v0 v1;rw[Uy]<;>rfl)) (.c (show(Zd (f.ST<=ST)==true)=true from(by subst v0 v1;rw[Uy]<;>rfl)) (.c (show(Zd (f.ST<=ST)==true)=true from(by subst v0 v1;rw[Uy]<;>rfl)) (.c (@Jf kk ks ko T4 ST fs Ug f some) (.c (show(Zd (f.ST<=ST)==true)=true from(by subst v0 v1;rw[Uy]<;>rfl)) (.c (pkt (T6 !true) (T6 false) Uy) (.c (show(!true)=false from rfl) .n)))))))))))))) ?_ ?_<;>subst v0 v1<;>(first|rfl|(simp only[hw,zgh,qe,U5,Uy,Ow,cond_true];rfl))
theorem Jg{some:Bool}(U8:Zd ((i:Int)<(fs.length:Int))=false):(CW MJ U2 (atH kk ks ko T4 ST fs b0 s0 .ready []) false (sub Rw 0) {t:=ofT fs i,h:=atH kk ks ko T4 ST fs Ug some .ready [],m:=[]} (.exit 0) (zb6 30 [] (atH kk ks ko T4 ST fs Ug some .ready []))):=by
 exact zx Xd [.b false] (.c U8 .n)
def vI(kk ks ko T4 ST:Int)(s:Uh×Bool)(f:Uh):Uh×Bool:=bif zgh kk ks ko ST f then cG T4 s.1 s.2 f else s
theorem aY{σ:Type}(g:σ->α->σ):∀(l:List α) (s:σ),UD (λa s=>(.inl (g s a):σ⊕Empty)) l s=.inl (l.foldl g s)
 | [],_=>rfl
 | a::l,s=>aY g l (g s a)
abbrev Yn(a:Nat)(b:aT):AS:={t:=Ue a 0 [],h:=b,m:=[]}
abbrev X2(a:List Uh):bv:=(a.map Uh.row)
noncomputable abbrev zc5(a b c d e:Int)(f:List Uh)(g:Uh)(h:Bool)(i:LoopState):aT:=atH a b c d e (X2 f) (f.foldl (vI a b c d e) (g,h)).1 (f.foldl (vI a b c d e) (g,h)).2 i []
theorem zky{kk ks ko T4 ST:Int}{l:List Uh}(hl:am l){b0:Uh}{s0:Bool}:
  CW MJ U2 (atH kk ks ko T4 ST (X2 l) b0 s0 .ready []) false (.loop (sub Rw 0)) {t:=ofT (X2 l) 0,h:=atH kk ks ko T4 ST (X2 l) b0 s0 .ready [],m:=[]} (.exit 0)
   {t:=Ue 30 0 [],h:=(zc5 kk ks ko T4 ST l b0 s0 (.ready)),m:=[]}:=by
 have:=CW.each (P:=MJ) (Γ:=U2) (h0:=atH kk ks ko T4 ST (X2 l) b0 s0 .ready []) (rd:=false) (c:=sub Rw 0) (σ:=Uh×Bool) (ρ:=Empty) l (λf s=>.inl (vI kk ks ko T4 ST s f))
  (λi s=>{t:=ofT (X2 l) (i:Int),h:=atH kk ks ko T4 ST (X2 l) s.1 s.2 .ready [],m:=[]}) (.exit 0) (λs=>(Yn 30 (atH kk ks ko T4 ST (l.map Uh.row) s.1 s.2 .ready []))) (λr=>r.elim)
  (λ_ _=>True) (by simp) (λr=>r.elim) ?_ ?_ (b0,s0) trivial
 ·rw[aY] at this
  exact this
 ·intro i f s hf _
  have hi:=(MR.1 hf).1
  exact⟨λ_ _=>trivial,zeF (rowAt hf rfl) (UO _ hi) (Uo hi hl)⟩
 ·intro s _
  exact Jg (bl _ l)
abbrev XK(a:Uh×Bool):bY:=[SW a.fst.kind,SW a.fst.sub,SW a.fst.obj,SW a.fst.value,SW a.fst.U3,SW a.fst.Λ,SW a.fst.ST,SW a.fst.no]
abbrev zbf:bY:=[.ref (.yl 8),.ref (.ptr 4 0),.ref (.ptr 5 0),.ref (.ptr 6 0)]
abbrev zbC(a:List Uh):D:=ab (MK Uh.row a)
theorem EY{l:List Uh}(hl:am l):(Ev MJ U2 170 zbf (atH kk ks ko T4 ST (X2 l) b0 s0 .ready []) (.UI []) (zc5 kk ks ko T4 ST l b0 s0 (.ready))):=by
 have UE:=(@zky (kk) (ks) (ko) (T4) (ST) (l) (hl) (b0) (s0))
 let v1:=ND (vI kk ks ko T4 ST) (b0,s0) l
 let v0:aT:=(zep (Zw kk ks ko) [SW T4] (XK v1) [T6 v1.2] (.var [(zbC l)]) [SW ST] (Zs) zaz (sub OS 0))
 exact Na (Oc (h':=v0) (d:=NG []) UR [.sum [0,1,2,3,7,8,9] (NR 0) (Yn 30 v0)] (by kernel_rfl) (.c UE .n)) (by rfl) (by rfl)
noncomputable abbrev atH0(kk ks ko T4 ST:Int)(fs:bv)(Ug:Uh)(some:Bool):aT :=
 [.var (Zw kk ks ko),.var [SW T4],.var (Xi Ug),.var [T6 some],.var [ab fs],.var (Zw kk ks ko),.var [SW ST]]
theorem EZ{kk ks ko T4 ST:Int}{l:List Uh}(hl:am l){b0:Uh}{s0:Bool}:CW MJ U2 [] false (sub OS 0) {t:=atT,h:=atH0 kk ks ko T4 ST (X2 l) b0 s0,m:=[]} .normal
  {t:=atT,h:=(zc5 kk ks ko T4 ST l b0 s0 (.exhausted)),m:=[7]}:=by
 exact CW.rangeFunc (f:=170) (fi:=[]) (ca:=Zv) UR (s:={t:=atT,h:=atH0 kk ks ko T4 ST (X2 l) b0 s0,m:=[]}) (g:=.tmp 16) (ps:=#[17]) (asg:=ar (sub OS 0)) (body:=af (sub OS 0)) rfl (by kernel_rfl) (EY hl) rfl
def atR(kk ks ko T4 ST:Int)(l:List Uh):Int×Bool :=
 let r:=l.foldl (vI kk ks ko T4 ST) (fz,false)
 bif !r.2||Zd (r.1.value<0) then (0,false) else (r.1.value,true)
abbrev zeq(h k l m:bY)(n:Uc)(o p:bY)(q:Array Tmp)(r:Code):aT:=[.var h,.var k,.var l,.var m,n,.var h,.var o,.Ut,.loop NM none 0 p q (ar (r)) (af (r))]
abbrev zdR(a b c d e:bY)(f:Uc)(g:bY)(i:Array Tmp)(j:Code):AS:={t:=a,h:=(zeq b c d e f g (a) i j),m:=[7]}
theorem BW{kk ks ko T4 ST:Int}{l:List Uh}(hl:am l)(h:aT):(Ev MJ U2 68 [ab (X2 l),.agg (Zw kk ks ko),SW T4,SW ST] h (.UI [SW (atR kk ks ko T4 ST l).1,T6 (atR kk ks ko T4 ST l).2]) h):=by
 have UE:=(@EZ (kk) (ks) (ko) (T4) (ST) (l) (hl) ({kind:=0,sub:=0,obj:=0,value:=0,U3:=0,Λ:=0,ST:=0,no:=0}) (false))
 cases Uy:!(ND (vI kk ks ko T4 ST) ({kind:=0,sub:=0,obj:=0,value:=0,U3:=0,Λ:=0,ST:=0,no:=0},false) l).2||Zd ((ND (vI kk ks ko T4 ST) ({kind:=0,sub:=0,obj:=0,value:=0,U3:=0,Λ:=0,ST:=0,no:=0},false) l).fst.value<0)
 ·let v0:=ND (vI kk ks ko T4 ST) ({kind:=0,sub:=0,obj:=0,value:=0,U3:=0,Λ:=0,ST:=0,no:=0},false) l
  exact zD (NG [SW v0.fst.value,T6 true]) [.inl,.sum [6,10,11,16] (M6) (zdR Zs (Zw kk ks ko) [SW T4] (XK v0) [T6 v0.2] (.var [(zbC l)]) [SW ST] zaz (sub OS 0)),.b false] (.c UE (.c Uy .n)) h (by subst v0;simp only[atR,Uy,cond_false])
 ·let v0:=ND (vI kk ks ko T4 ST) ({kind:=0,sub:=0,obj:=0,value:=0,U3:=0,Λ:=0,ST:=0,no:=0},false) l
  exact zD (NG [SW 0,T6 false]) [.inl,.sum [6,10,11,16] (M6) (zdR Zs (Zw kk ks ko) [SW T4] (XK v0) [T6 v0.2] (.var [(zbC l)]) [SW ST] zaz (sub OS 0)),.b true] (.c UE (.c Uy .n)) h (by subst v0;simp only[atR,Uy,cond_true])
structure Uj where
 T5:Int
 T4:Int
 Uf:Int
 UK:Int
 To:Int
 deriving Inhabited
def Uj.row(a:Uj):dO:=[vi a.T5,vi a.T4,vi a.Uf,vi a.UK,vi a.To]
abbrev Yt(c d e:Int):D:=T6 (Zd (c>=d)&&Zd (c<=e))
theorem bG{n a b:Int}(h:aT):(Ev MJ U2 61 (Zw n a b) h (Yt n a b) h):=by
 exact z0 [] .n h
theorem cw{n a b:Int}(h:aT):(Ev MJ U2 66 (Zw n a b) h (Yt n a b) h):=by
 exact z0 [] .n h
theorem bw{n a b:Int}(h:aT):(Ev MJ U2 233 (Zw n a b) h (Yt n a b) h):=by
 exact z0 [] .n h
theorem dt{n a b:Int}(h:aT):(Ev MJ U2 169 (Zw n a b) h (Yt n a b) h):=by
 exact z0 [] .n h
abbrev Zf(b:Uj):bY:=[SW b.T5,SW b.T4,SW b.Uf,SW b.UK,SW b.To]
noncomputable abbrev dJ(a:Uj)(b:Uj):aT:=[.var (Zf a),.var (Zf b)]
abbrev Yu(b:Uj):oN:=(some (SW b.T5))
abbrev Xu:D:=(.ref (.ptr 1 0))
abbrev XU:D:=(.ref (.ptr 0 0))
abbrev Vv(c d:Uj):D:=SW (br c.T5 d.T5)
abbrev zaa(c d:Uj):D:=SW (br c.T4 d.T4)
abbrev zaH:D:=(.ref (.ptr 0 1))
abbrev zbE(c d:Uj):bv:=(orR (br c.T4 d.T4) (br c.T5 d.T5))
abbrev zcE(c d:Uj)(e:Exit)(f:bY):BY:=[.val (zaa c d),.val (Vv c d),.inl,.st (.frz 2 (zbE c d)),.sum [2,3,6,7,8] (e) {t:=f,h:=[.var (Zf c),.var (Zf d),.U7],m:=[]}]
theorem kp{a b:Uj}(h:aT):(Ev MJ U2 122 [ag a.row,ag b.row] h (SW (orI (br a.T4 b.T4) (br a.T5 b.T5))) h):=by
 have UE:=(@or_cw (br a.T4 b.T4) (br a.T5 b.T5) ([.var (Zf a),.var (Zf b),.T7 [[(zaa a b)],[(Vv a b)]] 0 1]) ([.var (Zf a),.var (Zf b),.U7]))
 unfold BU at UE
 revert UE
 cases ho1:br a.T4 b.T4 != 0 with
 | false =>
  intro UE
  revert UE
  cases ho2:br a.T5 b.T5 != 0 with
  | false =>
   intro UE
   exact zD (SW 0) (zcE a b (NR 0) VJ) (.c (@dq (a.T4) (b.T4) (dJ a b)) (.c (@dq (a.T5) (b.T5) (dJ a b)) (.er [[(zaa a b)],[(Vv a b)]] (.c UE (.e zaH (.c (show @Eq (oN) (Yc a.T4) (Yc a.T4) from rfl) (.e (zbo 1) (.c (show @Eq (oN) (Yc b.T4) (Yc b.T4) from rfl) (.e XU (.e XU (.c (show @Eq (oN) (Yu a) (Yu a) from rfl) (.c (show @Eq (oN) (Yu a) (Yu a) from rfl) (.e Xu (.e Xu (.c (show @Eq (oN) (Yu b) (Yu b) from rfl) (.c (show @Eq (oN) (Yu b) (Yu b) from rfl) .n)))))))))))))))) h (by simp[orI,ho1,ho2])
  | true =>
   intro UE
   exact zD (Vv a b) (zcE a b Oq (Wz 18 (br a.T5 b.T5))) (.c (@dq (a.T4) (b.T4) (dJ a b)) (.c (@dq (a.T5) (b.T5) (dJ a b)) (.er [[(zaa a b)],[(Vv a b)]] (.c UE (.e zaH (.c (show @Eq (oN) (Yc a.T4) (Yc a.T4) from rfl) (.e (zbo 1) (.c (show @Eq (oN) (Yc b.T4) (Yc b.T4) from rfl) (.e XU (.e XU (.c (show @Eq (oN) (Yu a) (Yu a) from rfl) (.c (show @Eq (oN) (Yu a) (Yu a) from rfl) (.e Xu (.e Xu (.c (show @Eq (oN) (Yu b) (Yu b) from rfl) (.c (show @Eq (oN) (Yu b) (Yu b) from rfl) .n)))))))))))))))) h (by simp[orI,ho1,ho2])
 | true =>
  intro UE
  exact zD (zaa a b) (zcE a b Oq (Wz 18 (br a.T4 b.T4))) (.c (@dq (a.T4) (b.T4) (dJ a b)) (.c (@dq (a.T5) (b.T5) (dJ a b)) (.er [[(zaa a b)],[(Vv a b)]] (.c UE (.e zaH (.c (show @Eq (oN) (Yc a.T4) (Yc a.T4) from rfl) (.e (zbo 1) (.c (show @Eq (oN) (Yc b.T4) (Yc b.T4) from rfl) (.e XU (.e XU (.c (show @Eq (oN) (Yu a) (Yu a) from rfl) (.c (show @Eq (oN) (Yu a) (Yu a) from rfl) (.e Xu (.e Xu (.c (show @Eq (oN) (Yu b) (Yu b) from rfl) (.c (show @Eq (oN) (Yu b) (Yu b) from rfl) .n)))))))))))))))) h (by simp[orI,ho1])
def Xl(n a b:Int):Bool:=Zd (n>=a)&&Zd (n<=b)
def zP(a:Uj):Bool:=Xl a.T5 0 4095&&Xl a.T4 0 1023&&Xl a.Uf 0 12&&Xl a.UK 0 6&&Xl a.To 0 60
noncomputable abbrev eW(a:Uj):aT:=[.var (Zf a)]
abbrev zcr(a c:Int):D:=T6 (Zd (a>=0)&&Zd (a<=c))
abbrev Yk(b:Int):D:=(zcr b 4095)
abbrev Yq(b:Int):D:=(zcr b 1023)
abbrev XT(b c d e f g:Int):Bool:=Zd (b>=0)&&Zd (b<=4095)&&(Zd (c>=d)&&Zd (c<=e))&&(Zd (f>=0)&&Zd (f<=g))
theorem E6{a:Uj}(h:aT):(Ev MJ U2 139 [ag a.row] h (T6 (zP a)) h):=by
 exact z0 [.val (Yk a.T5),.val (Yq a.T4),.val (zcr a.Uf 12),.val (zcr a.UK 6),.val (zcr a.To 60)] (.c (@dt (a.T5) 0 4095 (eW a)) (.c (gd (Zd (a.T5>=0)&&Zd (a.T5<=4095)) (@dt (a.T4) 0 1023 (eW a))) (.c (gd (Zd (a.T5>=0)&&Zd (a.T5<=4095)&&(Zd (a.T4>=0)&&Zd (a.T4<=1023))) (@dt (a.Uf) 0 12 (eW a))) (.c (gd (XT a.T5 a.T4 0 1023 a.Uf 12) (@dt (a.UK) 0 6 (eW a))) (.c (gd ((XT a.T5 a.T4 0 1023 a.Uf 12)&&(Zd (a.UK>=0)&&Zd (a.UK<=6))) (@dt (a.To) 0 60 (eW a))) .n))))) h
noncomputable abbrev uJ(a:Uj):aT:=[.var (Zf a)]
theorem BX{a:Uj}(h:aT):(Ev MJ U2 138 [ag a.row] h (T6 (!zP a)) h):=by
 exact z0 [.val (T6 (zP a))] (.c (@E6 a (uJ a)) .n) h
end Go.Vi
open Go Go.Proofs Go.Shelf
namespace Go.Vi
set_option maxHeartbeats 4000000
set_option maxRecDepth 100000
variable {av:Nat->Prop}{h:aT}{loc:Loc}{w:World}{α:Type}
theorem jy{a b c:List α}{q:Nat}:(a++b++c)[a.length+q]? = (b++c)[q]?:=by
 rw[OQ,Nm (by omega),show a.length+q-a.length=q by omega]
theorem iZ{a b c:List α}{i:Nat}(h:i<a.length):(a++b++c)[i]? = a[i]?:=by
 rw[OQ,M4 h]
abbrev bX(l:bV):List (bY):=l.map λn=>[SW n]
theorem lL:∀{l:bV} {ys:At},U1 w av loc h (bX l).flatten ys->ys=l.map (Ox .i64)
 | [],[],_=>rfl
 | [],_::_,r=>by simp[U1] at r
 | _::_,[],r=>by simp[U1] at r
 | n::l,y::ys,r=>by
  simp only[bX,NW,N0,R7,RS,U1] at r
  have h1:y=.int .i64 n:=by simpa[Rel,UF] using r.1
  rw[h1,lL (l:=l) r.2];rfl
theorem jz:∀{l:bV},U1 w av loc h (bX l).flatten (l.map (Ox .i64))
 | []=>trivial
 | n::l=>by
  simp only[bX,NW,N0,R7,RS,U1]
  exact⟨by simp[Rel,UF],jz (l:=l)⟩
abbrev XI(a c:Nat):bY:=[.ref (.T7 a c)]
abbrev zdL(c:bV)(d:Nat):Uc:=(.T7 (bX c) d 1)
abbrev W4(a:bV)(b:Nat):Uc:=(zdL (a.mergeSort λx y=>Zd (x<=y)) b)
abbrev Vk(a:bV):bV:=a.mergeSort λx y=>Zd (x<=y)
theorem wx{P:Program}{ρ:Ren}{Γ:aq}(L:Lays.n189 P ρ){b e:Nat}{l:bV}(hb:h[b]? = some (.T7 (bX l) e 1))(hl:l.length<4611686018427387904):
  Ev P Γ (ρ.f 189) [.ref (.T7 b e)] h (.UI []) (h.set b (.T7 (bX (l.mergeSort λx y=>Zd (x<=y))) e 1)):=by
 intro O w loc vs R ra
 obtain⟨y,rfl⟩:∃y,vs=[y]:=by
  match vs,ra with
  | [y],_=>exact⟨y,rfl⟩
  | [],r=>simp[U1] at r
  | _::_::_,r=>simp[U1] at r
 have r:=ra.1
 simp only[Rel,Ua,hb] at r
 have hv:=r.2.2 trivial
 have B:=R.T8 b _ hb
 simp only[Up] at B
 have hlen:(bX l).length=l.length:=by simp[bX]
 refine callsIn_wide.2 ?_
 cases UZ:loc b with
 | none =>
  rw[UZ] at hv B
  obtain⟨hn,rfl⟩:=hv
  have UE:l=[]:=by simpa[bX] using hn
  subst UE
  refine Calls.mono (calls_of_every_depth λD=>AnyS.slices_Sort_int_none_alone L D none 0 w) ?_
  rintro e' w' ⟨rfl,rfl⟩
  have hset:h.set b (.T7 (bX ([].mergeSort λx y=>Zd (x<=y))) e 1)=h:=by
   apply P9
   intro i
   by_cases hi:i=b
   ·subst hi;rw[aK hb,hb];simp
   ·rw[be _ _ hi]
  refine⟨.tuple #[],.UI [],_,loc,rfl,⟨rfl,rfl⟩,?_,?_,?_⟩
  ·rw[hset];exact R
  ·rw[hset];exact Ext.refl _ _ _
  ·simp[Rel,U1]
 | some p =>
  obtain⟨T8,cp⟩:=p
  rw[UZ] at hv B
  obtain⟨o,cap,rfl,rfl,zgp⟩:=hv
  simp only at B
  obtain⟨o',cap',rc,c,T,fr,ys,zft,hcs,hle,hfr,hsz,zgY,pr,rest,hpr,hcl⟩:=B
  obtain⟨rfl,rfl⟩:=co rc
  have hys:=lL zgY
  subst hys
  have hblk:T8<w.heap.size:=(OH.1 zft).1
  have hH:Sort.Holds (Ox .i64) w T8 o l.toArray:=by
   intro j hj
   have hj':j<l.length:=by simpa using hj
   have hc:c[o+j]? = some (Ox .i64 l[j]):=by
    rw[<-NV,hcl,OQ,Nm (by omega),show o+j-pr.length=j by omega,M4 (by simpa using hj')]
    simp[hj']
   constructor
   ·simp[World.cell?,zft,hc,hj']
   ·have:=hfr (o+j) (OH.1 hc).1
    obtain⟨lo,hi⟩:=fr
    simp only[World.frozen?,zft]
    rw[<-Bool.not_eq_true]
    simpa using this
  rw[hlen]
  refine Calls.mono (calls_of_every_depth λD=>AnyS.slices_Sort_int_alone L D T8 o cap l w hH hblk hl) ?_
  rintro e' w' ⟨rfl,n,os,rfl⟩
  have hlm:(l.mergeSort λx y=>Zd (x<=y)).length=l.length:=by simp
  generalize (l.mergeSort λx y=>Zd (x<=y))=m at hlm ⊢
  have zjg:(Qf (Oh (Ox .i64) (Ot w n) T8 o m.toArray) os).heap[T8]? = some (.cells (O4 (Ox .i64) o m.toArray c) T fr):=by
   rw[P0 _ _ (by simpa[Oh,Oj,Ot] using hblk)]
   simp[Oh,Oj,Ot,Pv,zft,Sort.onCells]
  have zgo:(O4 (Ox .i64) o m.toArray c).toList=pr++m.map (Ox .i64)++rest:=by
   unfold O4
   rw[Array.toList_mapIdx,hcl]
   apply P9
   intro i
   rw[List.getElem?_mapIdx]
   by_cases hp:i<pr.length
   ·rw[iZ hp,iZ hp]
    have:¬o<=i:=by omega
    simp[this,hp]
   obtain⟨q,rfl⟩:∃q,i=pr.length+q:=⟨i-pr.length,by omega⟩
   rw[jy,jy]
   by_cases hi:q<l.length
   ·rw[M4 (by simpa using hi),M4 (by simpa[hlm] using hi)]
    have hm:q<m.length:=by omega
    subst hpr
    simp[hi,hm]
   ·rw[Nm (by simpa using PG hi),Nm (by simpa[hlm] using PG hi)]
    subst hpr
    simp[hlm,hi]
  have key:=R.step (w':=Qf (Oh (Ox .i64) (Ot w n) T8 o m.toArray) os) (l':=loc) (h':=h.set b (.T7 (bX m) e 1)) b (.T7 (bX m) e 1)
   (by simp[Qf,Oh,Oj,Ot]) ⟨rfl,rfl,rfl,by simp[Qf,Oh,Oj,Ot]⟩ (λi hi=>be _ _ hi) (aK hb) (λ_ _=>rfl)
   (λz hz=>by rw[hb] at hz;cases hz;exact⟨⟨Nat.le_refl _,λ_=>by simp[bX,hlm],rfl⟩,λ_=>rfl⟩)
   (λk hk hno=>by
    have hkb:k≠T8:=λe=>hno _ (mkP o cap) hb (by simp) (by rw[UZ,e])
    rw[P0 _ _ (by simpa[Oh,Oj,Ot] using hk)]
    simp[Oh,Oj,Ot,Pv,Ne.symm hkb])
   (λk c hk=>.inl ⟨_,c,hb,by simp,hk⟩)
   (λE=>by
    simp only[Up,UZ]
    refine⟨o,cap,rfl,_,T,fr,m.map (Ox .i64),zjg,?_,?_,?_,?_,jz,pr,rest,hpr,zgo⟩
    ·simpa[O4] using hcs
    ·simpa[bX,hlm] using hle
    ·simpa[O4] using hfr
    ·simp[bX])
  exact⟨.tuple #[],.UI [],_,loc,rfl,⟨rfl,rfl⟩,key.1,key.2,by simp[Rel,U1]⟩
end Go.Vi
namespace Go.Proofs
open Go.Shelf
def Tryz.ziv:Go.Shelf.Ren:=⟨fun|189=>69|125=>71|257=>126|128=>135|129=>136|294=>171|295=>172|296=>173|297=>174|298=>175|299=>176|216=>177|300=>178|301=>179|328=>209|329=>181|330=>182|331=>210|332=>211|215=>72|343=>223|n=>n,fun|28=>55|3=>3|46=>146|0=>0|51=>204|53=>176|4=>4|183=>198|182=>197|131=>141|5=>5|9=>9|218=>239|222=>243|228=>261|229=>262|n=>n,fun|n=>n⟩
theorem Tryz.zmb:Go.Proofs.Lays.n189 MJ Tryz.ziv:={
 mixed:=by kernel_rfl
 f125:=Tryz.func71.trans (congrArg some (by kernel_rfl))
 f128:=Tryz.func135.trans (congrArg some (by kernel_rfl))
 f129:=Tryz.func136.trans (congrArg some (by kernel_rfl))
 f189:=Tryz.func69.trans (congrArg some (by kernel_rfl))
 f215:=Tryz.func72.trans (congrArg some (by kernel_rfl))
 f216:=Tryz.func177.trans (congrArg some (by kernel_rfl))
 f257:=Tryz.func126.trans (congrArg some (by kernel_rfl))
 f294:=Tryz.func171.trans (congrArg some (by kernel_rfl))
 f295:=Tryz.func172.trans (congrArg some (by kernel_rfl))
 f296:=Tryz.func173.trans (congrArg some (by kernel_rfl))
 f297:=Tryz.func174.trans (congrArg some (by kernel_rfl))
 f298:=Tryz.func175.trans (congrArg some (by kernel_rfl))
 f299:=Tryz.func176.trans (congrArg some (by kernel_rfl))
 f300:=Tryz.func178.trans (congrArg some (by kernel_rfl))
 f301:=Tryz.func179.trans (congrArg some (by kernel_rfl))
 f328:=Tryz.func209.trans (congrArg some (by kernel_rfl))
 f329:=Tryz.func181.trans (congrArg some (by kernel_rfl))
 f330:=Tryz.func182.trans (congrArg some (by kernel_rfl))
 f331:=Tryz.func210.trans (congrArg some (by kernel_rfl))
 f332:=Tryz.func211.trans (congrArg some (by kernel_rfl))
 f343:=Tryz.func223.trans (congrArg some (by kernel_rfl))
 t0:=Tryz.underlying0
 a0:=Tryz.isAgg0
 z0:=Tryz.sizeOf0
 v0:=Tryz.zeroValue0
 t3:=Tryz.underlying3
 a3:=Tryz.isAgg3
 z3:=Tryz.sizeOf3
 v3:=Tryz.zeroValue3
 t4:=Tryz.underlying4
 a4:=Tryz.isAgg4
 z4:=Tryz.sizeOf4
 v4:=Tryz.zeroValue4
 t5:=Tryz.underlying5
 a5:=Tryz.isAgg5
 z5:=Tryz.sizeOf5
 v5:=Tryz.zeroValue5
 t9:=Tryz.underlying9
 a9:=Tryz.isAgg9
 z9:=Tryz.sizeOf9
 v9:=Tryz.zeroValue9
 t28:=Tryz.underlying55
 a28:=Tryz.isAgg55
 z28:=Tryz.sizeOf55
 v28:=Tryz.zeroValue55
 t46:=Tryz.underlying146
 a46:=Tryz.isAgg146
 z46:=Tryz.sizeOf146
 v46:=Tryz.zeroValue146
 t51:=Tryz.underlying204
 a51:=Tryz.isAgg204
 z51:=Tryz.sizeOf204
 v51:=Tryz.zeroValue204
 t53:=Tryz.underlying176
 a53:=Tryz.isAgg176
 z53:=Tryz.sizeOf176
 v53:=Tryz.zeroValue176
 t131:=Tryz.underlying141
 a131:=Tryz.isAgg141
 z131:=Tryz.sizeOf141
 v131:=Tryz.zeroValue141
 t182:=Tryz.underlying197
 a182:=Tryz.isAgg197
 z182:=Tryz.sizeOf197
 v182:=Tryz.zeroValue197
 t183:=Tryz.underlying198
 a183:=Tryz.isAgg198
 z183:=Tryz.sizeOf198
 v183:=Tryz.zeroValue198
 t218:=Tryz.underlying239
 a218:=Tryz.isAgg239
 z218:=Tryz.sizeOf239
 v218:=Tryz.zeroValue239
 t222:=Tryz.underlying243
 a222:=Tryz.isAgg243
 z222:=Tryz.sizeOf243
 v222:=Tryz.zeroValue243
 t228:=Tryz.underlying261
 a228:=Tryz.isAgg261
 z228:=Tryz.sizeOf261
 v228:=Tryz.zeroValue261
 t229:=Tryz.underlying262
 a229:=Tryz.isAgg262
 z229:=Tryz.sizeOf262
 v229:=Tryz.zeroValue262}
end Go.Proofs
namespace Go.Vi
set_option maxRecDepth 100000
set_option maxHeartbeats 4000000
open Go.Shelf
theorem qV{h:aT}{b e:Nat}{l:bV}(hb:h[b]? = some (.T7 (bX l) e 1))(hl:l.length<4611686018427387904):
  Ev MJ U2 69 (XI b e) h (.UI []) (h.set b (W4 l e)):=wx Tryz.zmb hb hl
end Go.Vi
open Go
namespace Go.Vi
set_option maxRecDepth 100000
set_option maxHeartbeats 4000000
variable {P:Program}{b i:Nat}{c ST many:Int}{c0 c1 c2 fs:bv}{et kt t:TypeId}{f:Uh}{h:aT}{l:bV}
theorem Ev.post{Γ:aq}{f:FuncId}{args:bY}{h1 h2:aT}{d d2:D}(az:BY){φ:AT}(hE:Ev P Γ f args h d h1)(hp:pre h {t:=[d],h:=h1,m:=[]} az=some ({t:=[d2],h:=h2,m:=[]},[],φ))(hφ:Uw φ):Ev P Γ f args h d2 h2:=by
 intro O w l vs R ra
 refine CallsIn.mono (hE O w l vs R ra) ?_
 rintro e w' ⟨v,d',h',l',rfl,⟨rfl,rfl⟩,R',E',r'⟩
 obtain⟨l2,R2,E2,r2, -⟩:=qN (Γ:=Γ) (X:={O:=O,w:=w,l:=l,h:=h}) _ _ _ _ _ hp hφ {tmps:=#[v],defers:=[]} w' ⟨l',R',E',⟨r',trivial⟩,rfl⟩
 exact⟨v,d2,h2,l2,rfl,⟨rfl,rfl⟩,R2,E2,r2.1⟩
abbrev uK:D:=lit (.slice none 0 0)
abbrev aV(l:bV):List (D×D×Nat):=l.zipIdx.map λp=>(SW p.1,T6 true,p.2)
abbrev nh(l:bV):Uc:=.map (aV l) l.length
theorem lM(c:Int):∀(l:bV) (k i:Nat),eM (SW c) ((l.zipIdx k).map λp=>(SW p.1,T6 true,p.2)) i=some (match l.idxOf? c with|some j=>some (i+j,T6 true)|none=>none)
 | [],_,_=>rfl
 | a::l,k,i=>by
  have ih:=lM c l (k+1) (i+1)
  simp only[List.zipIdx_cons,NW,eM,mL,if_true,List.idxOf?_cons]
  by_cases h:a=c
  ·subst h;simp
  ·have h':(c==a)=false:=by simp;exact λe=>h e.symm
   have h'':(a==c)=false:=by simp;exact h
   rw[h',h'',ih]
   cases l.idxOf? c<;>simp<;>omega
abbrev zbb(a:Nat):D:=(.ref (.mp a))
theorem qW(hk:ed P kt (SW c)=true)(ht:P.underlying t=some (.map kt et))(hz:jm P et=some (.bool false))(hb:h[b]? = some (nh l)):
  aM P h t (zbb b) (SW c) false=some (T6 (l.contains c)):=by
 unfold aM
 simp only[ht,rL,hb,hk,if_true,hz,lM c l 0 0]
 cases hi:l.idxOf? c with
 | none =>
  have:l.contains c=false:=by
   rw[Q8] at hi
   simpa using hi
  simp only[this];rfl
 | some j =>
  have:l.contains c=true:=by
   have:¬l.idxOf? c=none:=by rw[hi];simp
   rw[Q8] at this
   simpa using this
  simp only[this];rfl
theorem qX(hk:ed P kt (SW c)=true)(ht:P.underlying t=some (.map kt et))(hb:h[b]? = some (nh l))(hn:l.contains c=false):
  aO P h t (zbb b) (SW c) (T6 true)=some (h.set b (nh (l++[c]))):=by
 have hi:l.idxOf? c=none:=by rw[Q8];simpa using hn
 unfold aO
 simp only[ht,hb,hk,if_true,lM c l 0 0,hi]
 simp[nh,aV,List.zipIdx_append]
abbrev Xm(l:bV):List (bY):=l.map λn=>[SW n]
theorem bz(l:bV)(f:Ref->D):(Xm l).map (N8 f)=Xm l:=by simp[Xm,N8,NS,RX]
theorem bD(l:bV)(k:Nat):(Xm l).all (Ob k)=true:=by simp[Xm,Ob,Pu]
theorem iN(n:Nat)(l:bV)(e sz:Nat):Uc.inn n (.T7 (Xm l) e sz)=true:=bD l n
theorem nM(l:bV)(a b c:Nat):(Xm l).map (N8 (a8 a b c))=Xm l:=bz l (a8 a b c)
theorem iNa(n:Nat)(l:bV)(b:List (bY))(e sz:Nat)(h:b.all (Ob n)=true:=by rfl):Uc.inn n (.T7 (Xm l++b) e sz)=true:=(List.all_append).trans (by rw[bD l n,h];rfl)
theorem nMa(l:bV)(q:List (bY))(a b c:Nat)(h:q.map (N8 (a8 a b c))=q:=by rfl):(Xm l++q).map (N8 (a8 a b c))=Xm l++q:=List.map_append.trans (by rw[bz l,h])
theorem aQ(l:bV)(n:Int):Xm l++[[SW n]]=Xm (l++[n]):=by simp[Xm]
theorem oY(l:bV):(Xm l).length=l.length:=by simp[Xm]
abbrev Xt:bY:=[SW 12,SW 0,SW 0]
abbrev nuH(c0 c1 c2:bv)(fs:bv)(s:Uc)(v:List (bY)):aT:=[.var [ab c0,ab c1,ab c2,ab fs],.var Xt,s,.T7 v 0 1]
abbrev XF:Nat×D:=(4,.ref (.T7 3 0))
abbrev zbe:Nat×D:=(9,.ref (.mp 2))
abbrev nuS(c0 c1 c2:bv)(fs:bv)(many:Int)(s:Uc)(v:List (bY))(i:Int):AS :=
 {t:=Ue 70 0 [XF,(5,uK),ZH,(7,SW many),zbe,(24,ab fs),(25,SW fs.length),(26,SW i)],h:=nuH c0 c1 c2 fs s v,m:=[]}
abbrev nuE(c0 c1 c2:bv)(fs:bv)(_:Int)(s:Uc)(v:List (bY)):AS :=
 {t:=Ue 70 0 [XF,(5,uK),ZH],h:=nuH c0 c1 c2 fs s v,m:=[]}
def υ(f:Uh)(l:bV):Bool:=f.kind==1&&(f.obj==0&&(Zd (f.sub>=0)&&Zd (f.sub<=4095)&&!l.contains f.sub))
def nuF(many:Int)(f:Uh)(l:bV):bV⊕bV:=if Zd ((l.length:Int)>=many)=true then .inr l else .inl (bif υ f l then l++[f.sub] else l)
theorem cU(l:bV)(k:Nat):((aV l).all λe=>Pu k e.1&&Pu k e.2.1)=true:=by simp[aV,Pu]
theorem cg(l:bV)(f:Ref->D):(aV l).map (λe=>(NS f e.1,NS f e.2.1,e.2.2))=aV l:=by simp[aV,NS,RX]
theorem bf(h:Zd (((Xm l).length:Int)>=many)=true):nuF many f l=.inr l:=by
 rw[oY] at h;simp only[nuF,h,if_true]
theorem eX(h:Zd (((Xm l).length:Int)>=many)=false)(hn:υ f l=false):nuF many f l=.inl l:=by
 rw[oY] at h;simp[nuF,h,hn]
theorem eY(h:Zd (((Xm l).length:Int)>=many)=false)(hn:υ f l=true):nuF many f l=.inl (l++[f.sub]):=by
 rw[oY] at h;simp[nuF,h,hn]
abbrev zef:D:=(.ref (.mp 2))
abbrev WG:D:=zef
theorem wy(hb:h[2]? = some (nh l)):aM MJ h 140 WG (SW c) false=some (T6 (l.contains c)):=qW (kt:=3) (et:=4) (by kernel_rfl) (by kernel_rfl) (by kernel_rfl) hb
theorem wz(hb:h[2]? = some (nh l))(hn:(!l.contains c)=true):aO MJ h 140 WG (SW c) (T6 true)=some (h.set 2 (nh (l++[c]))):=qX (kt:=3) (et:=4) (by kernel_rfl) (by kernel_rfl) hb (by simpa using hn)
noncomputable abbrev eG(c0:bv)(c1:bv)(c2:bv)(fs:bv)(l:bV)(f:Uh):aT:=[.var [ab c0,ab c1,ab c2,ab fs],.var Xt,.map (aV l) (MO l),.T7 (Xm l) 0 1,.var (Zg f)]
abbrev Yg(a b:Nat)(c:bV):List (D×D×Nat):=MK (λe=>(NS (a8 a b 0) e.fst,NS (a8 a b 0) e.2.fst,e.2.2)) (aV c)
abbrev YL(a b c d:bv)(e:bV):aT:=[.var [ab a,ab b,ab c,ab d],.var [SW 12,SW 0,SW 0],.map (aV e) (MO e),.T7 (Xm e) 0 1]
abbrev YV(a:iS)(b:Nat):BY:=[.st (.mask a),.st (.trim b)]
abbrev Xz:BY:=[.st (.mask [4,5,6,7,9,24,25,26]),.st (.ren 3 0),.st (.trim 4)]
abbrev za0(a:Uh):D:=(T6 (a.obj==0))
abbrev zcp(a:Int)(b:bv)(c:Nat)(d:aT):AS:={t:=Ue 70 0 [XF,(5,nq),ZH,(7,SW a),zbe,(24,ab b),(Yr 25 b),(26,(Zy c))],h:=d,m:=[]}
abbrev zcQ(a:Uh)(c:Bool)(d:D):BY:=[.b true,.row (ZL a),.b false,.g c,.g c,.g c,.g c,.ov 46 d,.g false,.g false,.ov 50 (T6 false),.g false,.g false,.g false,.g false,.ov 56 (T6 false),.b false]
theorem Jh(hr:ax (i:Int) fs f.row 8)(U8:Zd ((i:Int)<(fs.length:Int))=true)(hw:ML.wrap ((i:Int)+1)=((i+1:Nat):Int))(hl:l.length<=70000)
  (_:∀f,(Xm l).map (N8 f)=Xm l) (_:∀k,(Xm l).all (Ob k)=true):(CW MJ U2 [] false (sub Tt 0) (nuS c0 c1 c2 fs many (nh l) (Xm l) i) (ad (λl'=>nuS c0 c1 c2 fs many (nh l') (Xm l') ((i+1:Nat):Int)) (λl=>(.exit 0,nuE c0 c1 c2 fs many (nh l) (Xm l))) (nuF many f l)).1 (ad (λl'=>nuS c0 c1 c2 fs many (nh l') (Xm l') ((i+1:Nat):Int)) (λl=>(.exit 0,nuE c0 c1 c2 fs many (nh l) (Xm l))) (nuF many f l)).2):=by
 cases U5:Zd ((↑(MO (Xm l)):Int)>=many)
 ·cases Uy:f.kind==1
  ·let v0:=D.p (Qy (P3 {toList:=[]}))
   refine zX {t:=Ue 70 0 [(4,.ref (.T7 3 0)),(5,nq),(6,.ref (.ptr 1 0)),(7,SW many),(9,.ref (.mp 2)),(24,ab fs),(25,SW (↑(MO fs):Int)),(26,SW (MN ML ((↑i:Int)+1)))],h:=[.var [ab c0,ab c1,ab c2,ab fs],.var [SW 12,SW 0,SW 0],.map (aV l) (MO l),.T7 (Xm l) 0 1],m:=[]} M6 [.st (.mask [4,5,6,7,9,24,25,26]),.st (.ren 3 0),.st (.trim 4)] [.b true,.row [vi f.kind,vi f.sub,vi f.obj,vi f.value,vi f.U3,vi f.Λ,vi f.ST,vi f.no],.b false,.g false,.g false,.g false,.g false,.ov 46 (T6 false),.g false,.g false,.ov 50 (T6 false),.g false,.g false,.g false,.g false,.ov 56 (T6 false),.b false] (.c U8 (.c hr (.c U5 (.c (show((f.kind==1)==true)=false from(by subst v0;rw[Uy]<;>rfl)) (.c (show((f.kind==1)==true)=false from(by subst v0;rw[Uy]<;>rfl)) (.c (show((f.kind==1)==true)=false from(by subst v0;rw[Uy]<;>rfl)) (.c (show((f.kind==1)==true)=false from(by subst v0;rw[Uy]<;>rfl)) (.c (pkf v0 (T6 false) Uy) (.f (.f (.c (pkf v0 (T6 false) rfl) (.f (.f (.f (.f (.c (pkf v0 (T6 false) rfl) (.er false (.c (nM l 3 0 0) (.c (show MK (λe=>(NS (a8 3 0 0) e.fst,NS (a8 3 0 0) e.2.fst,e.2.2)) (aV l)=aV l from ?_) (.c (show(N2 (aV l) λe=>Pu 4 e.fst&&Pu 4 e.2.fst)=true from ?_) (.c (show N2 (Xm l) (Ob 4)=true from ?_) .n))))))))))))))))))))) (by subst v0;first|(rw[bf U5];rfl)|(rw[bf U5];done)|(rw[eY U5]<;>first|(simp only[υ,Uy,N3];done)|(simp only[ad];done)|(simp only[ad,hw,aQ];rfl))|(rw[eX U5]<;>first|(simp only[υ,Uy,N3];done)|(simp only[ad];done)|(simp only[ad,hw];rfl))) (by subst v0;first|(rw[bf U5];rfl)|(rw[bf U5];done)|(rw[eY U5]<;>first|(simp only[υ,U5,Uy,Ow,Ou,PC,Oa,N3,cond_true,cond_false];done)|(simp only[ad,hw];done)|(simp only[ad,hw];rfl))|(rw[eX U5]<;>first|(simp only[υ,Uy,N3];done)|(simp only[ad,hw];done)|(simp only[ad,hw];rfl)))<;>subst v0<;>(first|assumption|exact wy (l:=l) rfl|exact wz (l:=l) rfl (by assumption)|exact cU _ _|exact cg _ _|exact bD _ _|exact bz _ _|(rw[aQ];exact bD _ _)|(rw[aQ];exact bz _ _)|rfl|(simp[aR,RI,NZ,Um];omega))
  ·cases Δ:f.obj==0
   ·refine zX {t:=Ue 70 0 [(4,.ref (.T7 3 0)),(5,nq),(6,.ref (.ptr 1 0)),(7,SW many),(9,.ref (.mp 2)),(24,ab fs),(25,SW (↑(MO fs):Int)),(26,SW (MN ML ((↑i:Int)+1)))],h:=[.var [ab c0,ab c1,ab c2,ab fs],.var [SW 12,SW 0,SW 0],.map (aV l) (MO l),.T7 (Xm l) 0 1],m:=[]} M6 [.st (.mask [4,5,6,7,9,24,25,26]),.st (.ren 3 0),.st (.trim 4)] [.b true,.row [vi f.kind,vi f.sub,vi f.obj,vi f.value,vi f.U3,vi f.Λ,vi f.ST,vi f.no],.b false,.g true,.g true,.g true,.g true,.ov 46 (T6 (f.obj==0)),.g false,.g false,.ov 50 (T6 false),.g false,.g false,.g false,.g false,.ov 56 (T6 false),.b false] (.c U8 (.c hr (.c U5 (.c (show((f.kind==1)==true)=true from(by rw[Uy]<;>rfl)) (.c (show((f.kind==1)==true)=true from(by rw[Uy]<;>rfl)) (.c (show((f.kind==1)==true)=true from(by rw[Uy]<;>rfl)) (.c (show((f.kind==1)==true)=true from(by rw[Uy]<;>rfl)) (.c (pkt (T6 (f.obj==0)) (T6 false) Uy) (.c (show((f.obj==0)==true)=false from(by rw[Δ]<;>rfl)) (.c (show((f.obj==0)==true)=false from(by rw[Δ]<;>rfl)) (.c (pkf (D.p (Qy (P3 {toList:=[]}))) (T6 false) Δ) (.f (.f (.f (.f (.c (pkf (D.p (Qy (P3 {toList:=[]}))) (T6 false) rfl) (.er false (.c (nM l 3 0 0) (.c (show MK (λe=>(NS (a8 3 0 0) e.fst,NS (a8 3 0 0) e.2.fst,e.2.2)) (aV l)=aV l from ?_) (.c (show(N2 (aV l) λe=>Pu 4 e.fst&&Pu 4 e.2.fst)=true from ?_) (.c (show N2 (Xm l) (Ob 4)=true from ?_) .n))))))))))))))))))))) (by first|(rw[bf U5];rfl)|(rw[bf U5];done)|(rw[eY U5]<;>first|(simp only[υ,Uy,Δ,Oa,N3];done)|(simp only[ad];done)|(simp only[ad,hw,aQ];rfl))|(rw[eX U5]<;>first|(simp only[υ,Uy,Δ,Oa,N3];done)|(simp only[ad];done)|(simp only[ad,hw];rfl))) (by first|(rw[bf U5];rfl)|(rw[bf U5];done)|(rw[eY U5]<;>first|(simp only[υ,U5,Uy,Δ,Ow,Ou,PC,Oa,N3,cond_true,cond_false];done)|(simp only[ad,hw];done)|(simp only[ad,hw];rfl))|(rw[eX U5]<;>first|(simp only[υ,Uy,Δ,Oa,N3];done)|(simp only[ad,hw];done)|(simp only[ad,hw];rfl)))<;>(first|assumption|exact wy (l:=l) rfl|exact wz (l:=l) rfl (by assumption)|exact cU _ _|exact cg _ _|exact bD _ _|exact bz _ _|(rw[aQ];exact bD _ _)|(rw[aQ];exact bz _ _)|rfl|(simp[aR,RI,NZ,Um];omega))
   ·cases hc3:Zd (f.sub>=0)&&Zd (f.sub<=4095)
    ·refine zX {t:=Ue 70 0 [(4,.ref (.T7 3 0)),(5,nq),(6,.ref (.ptr 1 0)),(7,SW many),(9,.ref (.mp 2)),(24,ab fs),(25,SW (↑(MO fs):Int)),(26,SW (MN ML ((↑i:Int)+1)))],h:=[.var [ab c0,ab c1,ab c2,ab fs],.var [SW 12,SW 0,SW 0],.map (aV l) (MO l),.T7 (Xm l) 0 1],m:=[]} M6 [.st (.mask [4,5,6,7,9,24,25,26]),.st (.ren 3 0),.st (.trim 4)] [.b true,.row [vi f.kind,vi f.sub,vi f.obj,vi f.value,vi f.U3,vi f.Λ,vi f.ST,vi f.no],.b false,.g true,.g true,.g true,.g true,.ov 46 (T6 (f.obj==0)),.g true,.g true,.val (T6 (Zd (f.sub>=0)&&Zd (f.sub<=4095))),.ov 50 (T6 (Zd (f.sub>=0)&&Zd (f.sub<=4095))),.g false,.g false,.g false,.g false,.ov 56 (T6 false),.b false] (.c U8 (.c hr (.c U5 (.c (show((f.kind==1)==true)=true from(by rw[Uy]<;>rfl)) (.c (show((f.kind==1)==true)=true from(by rw[Uy]<;>rfl)) (.c (show((f.kind==1)==true)=true from(by rw[Uy]<;>rfl)) (.c (show((f.kind==1)==true)=true from(by rw[Uy]<;>rfl)) (.c (pkt (T6 (f.obj==0)) (T6 false) Uy) (.c (show((f.obj==0)==true)=true from(by rw[Δ]<;>rfl)) (.c (show((f.obj==0)==true)=true from(by rw[Δ]<;>rfl)) (.c (@cw (f.sub) 0 4095 (eG c0 c1 c2 fs l f)) (.c (pkt (T6 (Zd (f.sub>=0)&&Zd (f.sub<=4095))) (T6 false) Δ) (.c (show((Zd (f.sub>=0)&&Zd (f.sub<=4095))==true)=false from(by rw[hc3]<;>rfl)) (.c (show((Zd (f.sub>=0)&&Zd (f.sub<=4095))==true)=false from(by rw[hc3]<;>rfl)) (.c (show((Zd (f.sub>=0)&&Zd (f.sub<=4095))==true)=false from(by rw[hc3]<;>rfl)) (.c (show((Zd (f.sub>=0)&&Zd (f.sub<=4095))==true)=false from(by rw[hc3]<;>rfl)) (.c (pkf (D.p (Qy (P3 {toList:=[]}))) (T6 false) hc3) (.er false (.c (nM l 3 0 0) (.c (show MK (λe=>(NS (a8 3 0 0) e.fst,NS (a8 3 0 0) e.2.fst,e.2.2)) (aV l)=aV l from ?_) (.c (show(N2 (aV l) λe=>Pu 4 e.fst&&Pu 4 e.2.fst)=true from ?_) (.c (show N2 (Xm l) (Ob 4)=true from ?_) .n)))))))))))))))))))))) (by first|(rw[bf U5];rfl)|(rw[bf U5];done)|(rw[eY U5]<;>first|(simp only[υ,Uy,Δ,hc3,Oa,N3];done)|(simp only[ad];done)|(simp only[ad,hw,aQ];rfl))|(rw[eX U5]<;>first|(simp only[υ,Uy,Δ,hc3,Oa,N3];done)|(simp only[ad];done)|(simp only[ad,hw];rfl))) (by first|(rw[bf U5];rfl)|(rw[bf U5];done)|(rw[eY U5]<;>first|(simp only[υ,U5,Uy,Δ,hc3,Ow,Ou,PC,Oa,N3,cond_true,cond_false];done)|(simp only[ad,hw];done)|(simp only[ad,hw];rfl))|(rw[eX U5]<;>first|(simp only[υ,Uy,Δ,hc3,Oa,N3];done)|(simp only[ad,hw];done)|(simp only[ad,hw];rfl)))<;>(first|assumption|exact wy (l:=l) rfl|exact wz (l:=l) rfl (by assumption)|exact cU _ _|exact cg _ _|exact bD _ _|exact bz _ _|(rw[aQ];exact bD _ _)|(rw[aQ];exact bz _ _)|rfl|(simp[aR,RI,NZ,Um];omega))
    ·cases hc4:!OO l f.sub
     ·refine zX {t:=Ue 70 0 [(4,.ref (.T7 3 0)),(5,nq),(6,.ref (.ptr 1 0)),(7,SW many),(9,.ref (.mp 2)),(24,ab fs),(25,SW (↑(MO fs):Int)),(26,SW (MN ML ((↑i:Int)+1)))],h:=[.var [ab c0,ab c1,ab c2,ab fs],.var [SW 12,SW 0,SW 0],.map (aV l) (MO l),.T7 (Xm l) 0 1],m:=[]} M6 [.st (.mask [4,5,6,7,9,24,25,26]),.st (.ren 3 0),.st (.trim 4)] [.b true,.row [vi f.kind,vi f.sub,vi f.obj,vi f.value,vi f.U3,vi f.Λ,vi f.ST,vi f.no],.b false,.g true,.g true,.g true,.g true,.ov 46 (T6 (f.obj==0)),.g true,.g true,.val (T6 (Zd (f.sub>=0)&&Zd (f.sub<=4095))),.ov 50 (T6 (Zd (f.sub>=0)&&Zd (f.sub<=4095))),.g true,.g true,.g true,.ov 54 (T6 (OO l f.sub)),.g true,.ov 56 (T6 !OO l f.sub),.b false] (.c U8 (.c hr (.c U5 (.c (show((f.kind==1)==true)=true from(by rw[Uy]<;>rfl)) (.c (show((f.kind==1)==true)=true from(by rw[Uy]<;>rfl)) (.c (show((f.kind==1)==true)=true from(by rw[Uy]<;>rfl)) (.c (show((f.kind==1)==true)=true from(by rw[Uy]<;>rfl)) (.c (pkt (T6 (f.obj==0)) (T6 false) Uy) (.c (show((f.obj==0)==true)=true from(by rw[Δ]<;>rfl)) (.c (show((f.obj==0)==true)=true from(by rw[Δ]<;>rfl)) (.c (@cw (f.sub) 0 4095 (eG c0 c1 c2 fs l f)) (.c (pkt (T6 (Zd (f.sub>=0)&&Zd (f.sub<=4095))) (T6 false) Δ) (.c (show((Zd (f.sub>=0)&&Zd (f.sub<=4095))==true)=true from(by rw[hc3]<;>rfl)) (.c (show((Zd (f.sub>=0)&&Zd (f.sub<=4095))==true)=true from(by rw[hc3]<;>rfl)) (.c (show((Zd (f.sub>=0)&&Zd (f.sub<=4095))==true)=true from(by rw[hc3]<;>rfl)) (.c (show @Eq (oN) (aM MJ (eG c0 c1 c2 fs l f) 140 (.ref (.mp 2)) (SW f.sub) false) (some (T6 (OO l f.sub))) from ?_) (.c (show((Zd (f.sub>=0)&&Zd (f.sub<=4095))==true)=true from(by rw[hc3]<;>rfl)) (.c (pkt (T6 !OO l f.sub) (T6 false) hc3) (.c hc4 (.c (nM l 3 0 0) (.c (show MK (λe=>(NS (a8 3 0 0) e.fst,NS (a8 3 0 0) e.2.fst,e.2.2)) (aV l)=aV l from ?_) (.c (show(N2 (aV l) λe=>Pu 4 e.fst&&Pu 4 e.2.fst)=true from ?_) (.c (show N2 (Xm l) (Ob 4)=true from ?_) .n))))))))))))))))))))))) (by first|(rw[bf U5];rfl)|(rw[bf U5];done)|(rw[eY U5]<;>first|(simp only[υ,Uy,Δ,hc3,hc4,Oa];done)|(simp only[ad];done)|(simp only[ad,hw,aQ];rfl))|(rw[eX U5]<;>first|(simp only[υ,Uy,Δ,hc3,hc4,Oa];done)|(simp only[ad];done)|(simp only[ad,hw];rfl))) (by first|(rw[bf U5];rfl)|(rw[bf U5];done)|(rw[eY U5]<;>first|(simp only[υ,U5,Uy,Δ,hc3,hc4,Ow,Ou,PC,Oa,N3,cond_true,cond_false];done)|(simp only[ad,hw];done)|(simp only[ad,hw];rfl))|(rw[eX U5]<;>first|(simp only[υ,Uy,Δ,hc3,hc4,Oa];done)|(simp only[ad,hw];done)|(simp only[ad,hw];rfl)))<;>(first|assumption|exact wy (l:=l) rfl|exact wz (l:=l) rfl (by assumption)|exact cU _ _|exact cg _ _|exact bD _ _|exact bz _ _|(rw[aQ];exact bD _ _)|(rw[aQ];exact bz _ _)|rfl|(simp[aR,RI,NZ,Um];omega))
     ·refine zX {t:=Ue 70 0 [(4,.ref (.T7 3 0)),(5,nq),(6,.ref (.ptr 1 0)),(7,SW many),(9,.ref (.mp 2)),(24,ab fs),(25,SW (↑(MO fs):Int)),(26,SW (MN ML ((↑i:Int)+1)))],h:=[.var [ab c0,ab c1,ab c2,ab fs],.var [SW 12,SW 0,SW 0],.map (aV (l++[f.sub])) (MO (l++[f.sub])),.T7 (Xm l++[[SW f.sub]]) 0 1],m:=[]} M6 [.st (.mask [4,5,6,7,9,24,25,26]),.st (.ren 3 0),.st (.trim 4)] [.b true,.row [vi f.kind,vi f.sub,vi f.obj,vi f.value,vi f.U3,vi f.Λ,vi f.ST,vi f.no],.b false,.g true,.g true,.g true,.g true,.ov 46 (T6 (f.obj==0)),.g true,.g true,.val (T6 (Zd (f.sub>=0)&&Zd (f.sub<=4095))),.ov 50 (T6 (Zd (f.sub>=0)&&Zd (f.sub<=4095))),.g true,.g true,.g true,.ov 54 (T6 (OO l f.sub)),.g true,.ov 56 (T6 !OO l f.sub),.b true,.oh 10057 D.any (nuH c0 c1 c2 fs (nh (l++[f.sub])) (Xm l)++[.var (MK D.p (Uh.row f))])] (.c U8 (.c hr (.c U5 (.c (show((f.kind==1)==true)=true from(by rw[Uy]<;>rfl)) (.c (show((f.kind==1)==true)=true from(by rw[Uy]<;>rfl)) (.c (show((f.kind==1)==true)=true from(by rw[Uy]<;>rfl)) (.c (show((f.kind==1)==true)=true from(by rw[Uy]<;>rfl)) (.c (pkt (T6 (f.obj==0)) (T6 false) Uy) (.c (show((f.obj==0)==true)=true from(by rw[Δ]<;>rfl)) (.c (show((f.obj==0)==true)=true from(by rw[Δ]<;>rfl)) (.c (@cw (f.sub) 0 4095 (eG c0 c1 c2 fs l f)) (.c (pkt (T6 (Zd (f.sub>=0)&&Zd (f.sub<=4095))) (T6 false) Δ) (.c (show((Zd (f.sub>=0)&&Zd (f.sub<=4095))==true)=true from(by rw[hc3]<;>rfl)) (.c (show((Zd (f.sub>=0)&&Zd (f.sub<=4095))==true)=true from(by rw[hc3]<;>rfl)) (.c (show((Zd (f.sub>=0)&&Zd (f.sub<=4095))==true)=true from(by rw[hc3]<;>rfl)) (.c (show @Eq (oN) (aM MJ (eG c0 c1 c2 fs l f) 140 (.ref (.mp 2)) (SW f.sub) false) (some (T6 (OO l f.sub))) from ?_) (.c (show((Zd (f.sub>=0)&&Zd (f.sub<=4095))==true)=true from(by rw[hc3]<;>rfl)) (.c (pkt (T6 !OO l f.sub) (T6 false) hc3) (.c hc4 (.c (show @Eq (Option (aT)) (aO MJ (eG c0 c1 c2 fs l f) 140 (.ref (.mp 2)) (SW f.sub) (T6 true)) (some [.var [ab c0,ab c1,ab c2,ab fs],.var [SW 12,SW 0,SW 0],.map (aV (l++[f.sub])) (MO (l++[f.sub])),.T7 (Xm l) 0 1,.var [SW f.kind,SW f.sub,SW f.obj,SW f.value,SW f.U3,SW f.Λ,SW f.ST,SW f.no]]) from ?_) (.c (show(N2 [[SW f.sub]] (aR 1)&&Um (MO (Xm l)+MO [[SW f.sub]]) 8)=true from ?_) (.c (nMa l [[SW f.sub]] 3 1 0) (.c (show MK (λe=>(NS (a8 3 1 0) e.fst,NS (a8 3 1 0) e.2.fst,e.2.2)) (aV (l++[f.sub]))=aV (l++[f.sub]) from ?_) (.er [[SW f.sub]] (.c (show(N2 (aV (l++[f.sub])) λe=>Pu 4 e.fst&&Pu 4 e.2.fst)=true from ?_) (.c (show N2 (Xm l++[[SW f.sub]]) (Ob 4)=true from ?_) .n)))))))))))))))))))))))))) (by first|(rw[bf U5];rfl)|(rw[bf U5];done)|(rw[eY U5]<;>first|(simp only[υ,Uy,Δ,hc3,hc4,Ow];done)|(simp only[ad];done)|(simp only[ad,hw,aQ];rfl))|(rw[eX U5]<;>first|(simp only[υ,U5,Uy,Δ,hc3,hc4,Ow,Ou,PC,Oa,N3,cond_true,cond_false];done)|(simp only[ad,hw];done)|(simp only[ad,hw];rfl))) (by first|(rw[bf U5];rfl)|(rw[bf U5];done)|(rw[eY U5]<;>first|(simp only[υ,Uy,Δ,hc3,hc4,Ow];done)|(simp only[ad,hw,aQ];done)|(simp only[ad,hw,aQ];rfl))|(rw[eX U5]<;>first|(simp only[υ,U5,Uy,Δ,hc3,hc4,Ow,Ou,PC,Oa,N3,cond_true,cond_false];done)|(simp only[ad,hw];done)|(simp only[ad,hw];rfl)))<;>(first|assumption|exact wy (l:=l) rfl|exact wz (l:=l) rfl (by assumption)|exact cU _ _|exact cg _ _|exact bD _ _|exact bz _ _|(rw[aQ];exact bD _ _)|(rw[aQ];exact bz _ _)|rfl|(simp[aR,RI,NZ,Um];omega))
 ·refine zX {t:=Ue 70 0 [(4,.ref (.T7 3 0)),(5,nq),(6,.ref (.ptr 1 0))],h:=[.var [ab c0,ab c1,ab c2,ab fs],.var [SW 12,SW 0,SW 0],.map (aV l) (MO l),.T7 (Xm l) 0 1],m:=[]} (NR 0) [.st (.mask [4,5,6]),.st (.trim 4)] [.b true,.row [vi f.kind,vi f.sub,vi f.obj,vi f.value,vi f.U3,vi f.Λ,vi f.ST,vi f.no],.b true] (.c U8 (.c hr (.c U5 (.c (show(N2 (aV l) λe=>Pu 4 e.fst&&Pu 4 e.2.fst)=true from(by first|assumption|exact wy (l:=l) rfl|exact wz (l:=l) rfl (by assumption)|exact cU _ _|exact cg _ _|exact bD _ _|exact bz _ _|(rw[aQ];exact bD _ _)|(rw[aQ];exact bz _ _)|rfl|(simp[aR,RI,NZ,Um];omega))) (.c (show N2 (Xm l) (Ob 4)=true from(by first|assumption|exact wy (l:=l) rfl|exact wz (l:=l) rfl (by assumption)|exact cU _ _|exact cg _ _|exact bD _ _|exact bz _ _|(rw[aQ];exact bD _ _)|(rw[aQ];exact bz _ _)|rfl|(simp[aR,RI,NZ,Um];omega))) .n))))) ?_ ?_<;>(first|(rw[bf U5];rfl)|(rw[bf U5];done)|(rw[eY U5]<;>first|(simp only[υ,U5,Ow,Ou,PC,Oa,N3,cond_true,cond_false];done)|(simp only[ad,hw,aQ];done)|(simp only[ad,hw,aQ];rfl))|(rw[eX U5]<;>first|(simp only[υ,U5,Ow,Ou,PC,Oa,N3,cond_true,cond_false];done)|(simp only[ad,hw];done)|(simp only[ad,hw];rfl)))
theorem Ji{s:Uc}{v:List (bY)}(U8:Zd ((i:Int)<(fs.length:Int))=false):(CW MJ U2 [] false (sub Tt 0) (nuS c0 c1 c2 fs many s v i) (.exit 0) (nuE c0 c1 c2 fs many s v)):=by
 exact zx [.st (.mask [4,5,6])] [.b false] (.c U8 .n)
def nuG(r:bV⊕bV):bV:=match r with | .inl l=>l | .inr l=>l
theorem BZ{l':bV}(h:nuF many f l=.inl l'):l'.length<=l.length+1:=by
 unfold nuF at h
 split at h
 ·simp at h
 ·simp at h;subst h
  cases υ f l<;>simp
theorem nu_cw{c0 c1 c2:bv}{many:Int}{fs:List Uh}(hf:fs.length<=69000):
  CW MJ U2 [] false (.loop (sub Tt 0)) (nuS c0 c1 c2 (X2 fs) many (nh []) (Xm []) 0) (.exit 0) (nuE c0 c1 c2 (X2 fs) many (nh (nuG (UD (nuF many) fs []))) (Xm (nuG (UD (nuF many) fs [])))):=by
 have:=CW.each (P:=MJ) (Γ:=U2) (h0:=[]) (rd:=false) (c:=sub Tt 0) fs (nuF many) (λi l=>nuS c0 c1 c2 (X2 fs) many (nh l) (Xm l) (i:Int)) (.exit 0) (λl=>nuE c0 c1 c2 (X2 fs) many (nh l) (Xm l)) (λl=>(.exit 0,nuE c0 c1 c2 (X2 fs) many (nh l) (Xm l)))
  (λi l=>l.length<=i) (by simp) (by simp) ?_ ?_ [] (by simp)
 ·cases h:UD (nuF many) fs []<;>rw[h] at this<;>exact this
 ·intro i f l hfi hl
  have hi:=(MR.1 hfi).1
  refine⟨λl' h=>?_,Jh (rowAt hfi rfl) (UO _ hi) (Uo hi (by omega)) (by omega) (bz l) (bD l)⟩
  have:=BZ h
  omega
 ·intro l hl
  exact Ji (bl _ fs)
theorem HK(l:bV):Xm l=(l.map λn=>[vi n]).map (MK D.p):=by simp[Xm]
theorem E7{x0 x1 x2:Uc}{l:bV}(hl:l.length<4611686018427387904):Ev MJ U2 69 (XI 3 0) [x0,x1,x2,.T7 (Xm l) 0 1] (.UI []) [x0,x1,x2,.T7 (Xm (l.mergeSort λx y=>Zd (x<=y))) 0 1] :=
 qV (h:=[x0,x1,x2,.T7 (Xm l) 0 1]) (b:=3) rfl hl
theorem jA{many:Int}:∀(fs:List Uh) (l:bV),(nuG (UD (nuF many) fs l)).length<=l.length+fs.length
 | [],l=>by simp[UD,nuG]
 | f::fs,l=>by
  simp only[UD]
  cases h:nuF many f l with
  | inl l' =>
   have:=BZ h
   have:=jA (many:=many) fs l'
   simp only[List.length_cons];omega
  | inr l' =>
   have:l'=l:=by
    unfold nuF at h;split at h
    ·simp at h;exact h.symm
    ·simp at h
   subst this
   simp only[nuG];omega
theorem E8{fs:List Uh}(hf:fs.length<=69000):(nuG (UD (nuF many) fs [])).length<4611686018427387904:=by
 have:=jA (many:=many) fs []
 simp at this;omega
def HL(many:Int)(fs:List Uh):bV:=nuG (UD (nuF many) fs [])
def B0(fs:List Uh)(ST:Int):Int:=(atR 12 0 0 0 ST fs).1
def ah(fs:List Uh)(ST:Int):bV:=(HL (B0 fs ST) fs).mergeSort λx y=>Zd (x<=y)
noncomputable abbrev nuB(c0 c1 c2:bv)(fs:List Uh)(ST:Int)(r:Uc):aT:=[.var [ab c0,ab c1,ab c2,ab (X2 fs)],.var Xt,nh (nuG (UD (nuF (atR 12 0 0 0 ST fs).1) fs [])),.U7,r]
abbrev YE(a:Int)(b:List Uh):bV:=(nuG (UD (nuF (atR 12 0 0 0 a b).fst) b []))
noncomputable abbrev uL(c0:bv)(c1:bv)(c2:bv)(fs:List Uh)(ST:Int):aT:=[.var [ab c0,ab c1,ab c2,(zbC fs)],.var Xt,.map (aV (YE ST fs)) (MO (YE ST fs)),.T7 (Xm (YE ST fs)) 0 1]
noncomputable abbrev uM(c0:bv)(c1:bv)(c2:bv)(fs:List Uh):aT:=[.var [ab c0,ab c1,ab c2,(zbC fs)],.var Xt]
abbrev Ys(a:bV):bv:=(a.map λn=>[vi n])
abbrev YZ(a:bV):bv:=(MK (λn=>[vi n]) a)
abbrev Wn:List (bY):=[[SW 12,SW 0,SW 0,SW 0,SW 1]]
abbrev zdm(a:Nat)(b:bv)(c:List (D×D×Nat)):List (D×D×Nat):=MK (λe=>(NS (ez a 0 b) e.fst,NS (ez a 0 b) e.2.fst,e.2.2)) (c)
abbrev zeg(a:bV):bV:=(Ro a λx y=>Zd (x<=y))
theorem B1{fs:List Uh}(hf:fs.length<=69000)(hs:am fs):(Ev MJ U2 67 [.agg [ab c0,ab c1,ab c2,ab (X2 fs)],SW ST] [] (.UI [ab (Ys (ah fs ST)),.ref (.T7 4 0)]) (nuB c0 c1 c2 fs ST (.T7 Wn 0 5))):=by
 have UE:=(@nu_cw (c0) (c1) (c2) ((atR 12 0 0 0 ST fs).fst) (fs) (hf))
 let v0:=MO (YE ST fs)
 let v1:bY:=[ab c0,ab c1,ab c2,(zbC fs)]
 refine Na (Oc (h':=[.var v1,.var Xt,.map (aV (YE ST fs)) v0,.U7,.T7 Wn 0 5]) (d:=NG [ab (YZ (ah fs ST)),.ref (.T7 4 0)]) UR [.val (NG [SW (atR 12 0 0 0 ST fs).fst,T6 (atR 12 0 0 0 ST fs).2]),.nx 2,.st (.zjQ 4 1),.sum [4,5,6,7,9,24,25,26] (NR 0) {t:=Ue 70 0 [XF,(5,nq),ZH],h:=(uL c0 c1 c2 fs ST),m:=[]},.call (NG []) [.var v1,.var Xt,.map (aV (YE ST fs)) v0,.T7 (Xm (zeg (YE ST fs))) 0 1],.st (.frz 3 (YZ (ah fs ST)))] (by kernel_rfl) (.c (@BW 12 0 0 0 ST fs hs (uM c0 c1 c2 fs)) (.c UE (.c (@E7 (.var v1) (.var Xt) (.map (aV (YE ST fs)) v0) (YE ST fs) ?_) (.c (show Xm (zeg (YE ST fs))=MK (λx=>MK D.p x) (YZ (ah fs ST)) from ?_) (.c (show (zdm 3 (YZ (ah fs ST)) (aV (YE ST fs)))=aV (YE ST fs) from ?_) (.e (D.agg Xt) .n))))))) (by rfl) (by rfl)<;>subst v0 v1<;>(first|assumption|exact E8 hf|exact cg _ _|exact HK _)
theorem B2{fs:List Uh}(hf:fs.length<=69000)(hs:am fs):Ev MJ U2 67 [.agg [ab c0,ab c1,ab c2,ab (X2 fs)],SW ST] [] (.UI [ab (Ys (ah fs ST)),.ref (.T7 0 0)]) [.T7 Wn 0 5] :=
 Na ((B1 (c0:=c0) (c1:=c1) (c2:=c2) (ST:=ST) hf hs).Α [4] (by kernel_rfl) ⟨rfl,trivial⟩) (by kernel_rfl) (by kernel_rfl)
theorem oZ{fs:List Uh}(hf:fs.length<=69000)(hs:am fs)(h:aT):Ev MJ U2 67 [.agg [ab c0,ab c1,ab c2,ab (X2 fs)],SW ST] h (.UI [ab (Ys (ah fs ST)),.ref (.T7 h.length 0)]) (h++[.T7 Wn 0 5]) :=
 (B2 (c0:=c0) (c1:=c1) (c2:=c2) (ST:=ST) hf hs).zmJ (by kernel_rfl) rfl h
structure zeH where
 kind:Int
 when_:Int
 action:Int
 Λ:Int
 deriving Inhabited
def zeH.row(a:zeH):dO:=[vi a.kind,vi a.when_,vi a.action,vi a.Λ]
def xaF(p:Uj->Bool)(c:Uj)(s:Nat):Nat⊕Nat:=if p c=true then .inr s else .inl (s+1)
abbrev WM(a:bv)(b:D)(c:Int)(d:aT):AS:=(zb6 19 [(0,ab a),(1,b),(4,SW 0),(7,SW a.length),(8,SW c)] d)
abbrev xaS(fs:bv)(f:D)(h:aT)(i:Int):AS:=(WM fs f i h)
abbrev xaX(h:aT):Nat->Exit×AS:=λk=>(.ret,{t:=Ue 19 0 [(4,SW (k:Int))],h:=h,m:=[]})
abbrev ZO(a:Nat):D:=SW (↑a:Int)
abbrev WH:BY:=[.st (.mask [4])]
abbrev zap:BY:=[.st (.mask [0,1,4,7,8])]
abbrev zcF(a:Nat)(b:aT):AS:={t:=Ue 19 0 [(4,(ZO a))],h:=b,m:=[]}
abbrev zcU(a:bv)(b:D)(c:Nat)(d:aT):AS:={t:=Ue 19 0 [(0,ab a),(1,b),(4,SW 0),(Yr 7 a),(8,(Zy c))],h:=d,m:=[]}
theorem Jj{c:Uj}{f:D}{p:Uj->Bool}(hr:ax (i:Int) fs (Uj.row c) 5)(U8:Zd ((i:Int)<(fs.length:Int))=true)(hw:ML.wrap ((i:Int)+1)=((i+1:Nat):Int))(hi:Iv MJ U2 f [ag (Uj.row c)] h (T6 (p c)) h):(CW MJ U2 h false (sub Tryz.f185 0) (xaS fs f h i) (ad (λ_=>xaS fs f h ((i+1:Nat):Int)) (xaX h) (xaF p c i)).1 (ad (λ_=>xaS fs f h ((i+1:Nat):Int)) (xaX h) (xaF p c i)).2):=by
 cases U5:p c
 ·refine zX {t:=Ue 19 0 [(0,ab fs),(1,f),(4,SW 0),(7,SW (↑(MO fs):Int)),(8,SW (MN ML ((↑i:Int)+1)))],h:=h,m:=[]} M6 [.st (.mask [0,1,4,7,8])] [.b true,.row (Uj.row c),.zhY (T6 (p c)),.b false] (.c U8 (.c hr (.c (@hi) (.c U5 .n)))) ?_ ?_<;>(simp[xaF,ad, *])
 ·refine zX {t:=Ue 19 0 [(4,SW (↑i:Int))],h:=h,m:=[]} Oq [.st (.mask [4])] [.b true,.row (Uj.row c),.zhY (T6 (p c)),.b true] (.c U8 (.c hr (.c (@hi) (.c U5 .n)))) ?_ ?_<;>(simp[xaF,ad, *])
abbrev Y6(a:aT):AS:={t:=Ue 19 0 [(4,SW 0)],h:=a,m:=[]}
theorem Jk{f:D}(U8:Zd ((i:Int)<(fs.length:Int))=false):(CW MJ U2 h false (sub Tryz.f185 0) (xaS fs f h i) (.exit 0) (Y6 h)):=by
 exact zx WH [.b false] (.c U8 .n)
def xaR(p:Uj->Bool)(l:List Uj):Int:=match UD (xaF p) l 0 with | .inl _ => -1 | .inr k=>(k:Int)
def Jl(h:aT)(p:Uj->Bool)(l:List Uj):Exit×AS:=bJ (.exit 0) (λ_:Nat=>(Y6 h)) (xaX h) (UD (xaF p) l 0)
theorem xa_cw{l:List Uj}(hl:am l){f:D}{h:aT}{p:Uj->Bool}(hf:∀c∈l,Iv MJ U2 f [ag (Uj.row c)] h (T6 (p c)) h):
  CW MJ U2 h false (.loop (sub Tryz.f185 0)) (xaS (l.map Uj.row) f h 0) (Jl h p l).1 (Jl h p l).2:=by
 refine CW.each l (xaF p) (λi _=>xaS (l.map Uj.row) f h (i:Int)) (.exit 0) _ (xaX h) (λi s=>s=i) (by simp) (λ_=>by simp) ?_ ?_ 0 rfl
 ·intro i c s hc hs
  subst hs
  have hi:=(MR.1 hc).1
  refine⟨λs' h=>?_,Jj (rowAt hc rfl) (UO Uj.row hi) (Uo hi hl) (hf c (NX hc))⟩
  unfold xaF at h
  split at h<;>simp at h
  exact h.symm
 ·intro s hs
  exact Jk (bl Uj.row l)
abbrev zcD(d:Exit)(e:D)(f:aT):BY:=[.sum [0,1,4,7,8] (d) {t:=Ue 19 0 [(4,e)],h:=f,m:=[]}]
abbrev YI(a:Exit)(b:Int)(c:aT):BY:=(zcD a (SW b) c)
theorem xai_ev{l:List Uj}(hl:am l){f:D}{h:aT}{p:Uj->Bool}(hf:∀c∈l,Iv MJ U2 f [ag (Uj.row c)] h (T6 (p c)) h):(Ev MJ U2 185 [ab (l.map Uj.row),f] h (SW (xaR p l)) h):=by
 have UE:=(@xa_cw (l) (hl) (f) (h) (p) (hf))
 unfold Jl at UE
 revert UE
 cases ho1:UD (xaF p) l 0 with
 | inl zeL =>
  intro UE
  exact Na (Oc (h':=h) (d:=SW (-1)) UR (YI (NR 0) 0 h) (by kernel_rfl) (.c UE .n)) (by simp[xaR,ho1]) (by simp[])
 | inr Ζ =>
  intro UE
  exact Na (Oc (h':=h) (d:=(ZO Ζ)) UR (zcD Oq (ZO Ζ) h) (by kernel_rfl) (.c UE .n)) (by simp[xaR,ho1]) (by simp[])
theorem xa_any(p:Uj->Bool)(l:List Uj):∀k:Nat,(match UD (xaF p) l k with | .inl _=>false | .inr _=>true)=l.any p:=by
 induction l with
 | nil=>intro k;rfl
 | cons f l ih =>
  intro k
  rw[List.any_cons]
  cases hf:p f
  ·simp only[UD,xaF,hf,NC,if_false,Bool.false_or]
   exact ih (k+1)
  ·simp[UD,xaF,hf]
theorem xaR_ge(p:Uj->Bool)(l:List Uj):Zd (xaR p l>=0)=l.any p:=by
 rw[<-xa_any p l 0,xaR]
 split<;>simp
theorem HM{l:List Uj}(hl:am l){f:D}{h:aT}{p:Uj->Bool}(hf:∀c∈l,Iv MJ U2 f [ag (Uj.row c)] h (T6 (p c)) h):(Ev MJ U2 137 [ab (l.map Uj.row),f] h (T6 (l.any p)) h):=by
 refine Na (Oc (h':=h) (d:=T6 (Zd (xaR p l>=0))) UR [.val (SW (xaR p l))] (by kernel_rfl) (.c (@xai_ev l hl f h p hf) .n)) ?_ ?_<;>(first|rfl|rw[<-xaR_ge])
theorem E9{a b:Int}(ha:κ a)(hb:κ b)(h:aT):(Ev MJ U2 115 (zbD a b) h (T6 (fu a b==0&&Xl a 0 (ML.wrap (12*b)))) h):=by
 exact z0 [.val (zbF a b),.val (Yt a 0 (MN ML (12*b)))] (.c (@ek a b ha hb (X8 a b)) (.c (gd (fu a b==0) (@cw a 0 (MN ML (12*b)) (X8 a b))) .n)) h
structure zfx where
 zgB:List Cls
 fees:List ziM
 zgy:List Cls
 clauses:List zeH
 deriving Inhabited
def zfx.sys(s:zfx):Vi.Sys:=⟨s.zgB,s.fees,s.zgy,s.clauses.map zeH.row⟩
def zfx.row(s:zfx):dO:=[.sl (s.zgB.map Cls.row),.sl (s.fees.map ziM.row),.sl (s.zgy.map Cls.row),.sl (s.clauses.map zeH.row)]
def zfx.ok(s:zfx):Prop:=s.sys.ok
end Go.Vi
