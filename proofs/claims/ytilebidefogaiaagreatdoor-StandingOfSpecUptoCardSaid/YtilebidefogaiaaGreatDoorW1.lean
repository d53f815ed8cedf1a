/- StandingOfSpecUpto: part of the proof: contracts of the functions that the law reaches, and the law. No conditions beyond the given statement's own. -/
import Derived.Test.YtilebidefogaiaaGreatDoorV7
import Derived.Test.YtilebidefogaiaaGreatDoorChecked
open List renaming mem_of_getElem? → FV, getElem?_eq_some_iff → Fy, getElem?_eq_getElem → FK, any_cons → H7, drop_zero → JC, length → Fu, any → HP, map → Fo
open Go.Proofs.Tryz renaming prog → Fp, f95 → K3, f92 → K4, f102 → Im, f136 → Jo, f97 → K6, f44 → J6
open Go.Vi.Ev renaming sym0 → Gu, of_sym → Gz, symT → IY, castH → FP
open Go.IntKind renaming u64 → G3, wrap → Fz, i64 → Fs
open Bool renaming false_and → GC, false_eq_true → Gi, true_or → KH, false_or → HC
open Nat renaming gcd → Gr, le_of_ble_eq_true → HS, not_lt_zero → JA
open Int renaming tmod_eq_emod_of_nonneg → Kk
open Go.Vi.CW renaming loop → K2, sym → H5, symT → K5, loopN → JQ, each → Ha
open Go.Vi.Iv renaming of → Lz
open Go.Exit renaming normal → FH, ret → Gw, exit → Gf
open Go Go.Proofs
namespace Go.Vi
theorem pok_of {P : Program} (h1 : P.follows .mixedOrders = true) (h2 : (P.funcs.toList.all fun fn=>!(fn.name == "runtime.NumGoroutine")) = true) : POk P where
 mixed:=h1
 plain f fn hf:=by
  have:=List.all_eq_true.1 h2 fn (by rw [← Array.getElem?_toList] at hf; exact FV hf)
  simpa using this
abbrev int (n : Int) : D:=lit (.int .i64 n)
abbrev u64 (n : Int) : D:=lit (.int .u64 n)
abbrev bool (b : Bool) : D:=lit (.bool b)
abbrev vi (n : Int) : Dp:=.v (.int .i64 n)
abbrev vs (s : ByteArray) : Dp:=.v (.string s)
abbrev ak (s : ByteArray) : D:=lit (.string s)
abbrev ab (es : List (List Dp)) : D:=.p (.sl es)
abbrev ag (r : List Dp) : D:=.agg (r.map .p)
abbrev fq (k : Nat) : D:=lit (.func (.func k) #[] #[])
abbrev nq : D:=lit (.slice none 0 0)
theorem gd {p : Prop} (c : Bool) (h : p) : c = true → p:=fun _=>h
theorem eqa {b : Bool} (h : b = true) : (b == true) = true:=by rw [h]; rfl
theorem eqb {b : Bool} (h : b = false) : (b == true) = false:=by rw [h]; rfl
theorem eqc {b : Bool} (h : b = false) : (b == false) = true:=by rw [h]; rfl
theorem eqd {b : Bool} (h : b = true) : (b == false) = false:=by rw [h]; rfl
abbrev Γ0 : ap:=fun _=>none
theorem pok : POk Fp:=pok_of (by kernel_rfl) (by kernel_rfl)
theorem zx {Γ : ap} {h0 : List Blk} {rd : Bool} {c : Code} {s s' : AS} {e : Exit} {φ : List Prop} (os az : List Ans) (hp : AllP φ) (hk : AB h0 os (symC Fp Γ h0 rd c s az) = some (e,s',φ):=by kernel_rfl) : CW Fp Γ h0 rd c s e s':=CW.symX pok os az hk hp
theorem zX {Γ : ap} {h0 : List Blk} {rd : Bool} {c : Code} {s s2 : AS} {e2 : Exit} {φ : List Prop} (s' : AS) (e : Exit) (os az : List Ans) (hp : AllP φ) (he : e = e2) (hs : s' = s2) (hk : AB h0 os (symC Fp Γ h0 rd c s az) = some (e,s',φ):=by kernel_rfl) : CW Fp Γ h0 rd c s e2 s2:=he ▸ hs ▸ CW.symX pok os az hk hp
theorem z0 {Γ : ap} {f : FuncId} {args : List D} {d : D} {φ : List Prop} (az : List Ans) (hp : AllP φ) (h : List Blk) (hk : out0 (Ca Fp Γ f args [] az) = some (d,φ):=by kernel_rfl) (ha : D.innL 0 args = true:=by exact rfl) (hd : D.inn 0 d = true:=by exact rfl) : Ev Fp Γ f args h d h:=Gu pok az hk hp ha hd h
theorem zD {Γ : ap} {f : FuncId} {args : List D} {d2 : D} {φ : List Prop} (d : D) (az : List Ans) (hp : AllP φ) (h : List Blk) (he : d = d2) (hk : out0 (Ca Fp Γ f args [] az) = some (d,φ):=by kernel_rfl) (ha : D.innL 0 args = true:=by exact rfl) (hd : D.inn 0 d = true:=by exact rfl) : Ev Fp Γ f args h d2 h:=he ▸ Gu pok az hk hp ha hd h
theorem pkt (a b : D) {x : Bool} (h : x = true) (ha : eF a = true:=by exact rfl) : bU (bool x) a b a:=Au h ha
theorem pkf (a b : D) {x : Bool} (h : x = false) (hb : eF b = true:=by exact rfl) : bU (bool x) a b b:=Av h hb
set_option maxRecDepth 100000
def I64 (n : Int) : Prop := -9223372036854775808 ≤ n ∧ n ≤ 9223372036854775807
theorem xq {n : Int} (h : I64 n) (hn : n < 0) : G3.wrap (0 - G3.wrap n) = (n.natAbs : Int):=by
 obtain ⟨h1,h2⟩:=h
 simp only [Fz,IntKind.bits,IntKind.signed,GC,Gi,if_false]
 omega
theorem xr {n : Int} (h : I64 n) (hn : ¬ n < 0) : G3.wrap n = (n.natAbs : Int):=by
 obtain ⟨h1,h2⟩:=h
 simp only [Fz,IntKind.bits,IntKind.signed,GC,Gi,if_false]
 omega
theorem fO {n : Int} (hn : I64 n) (h : List Blk) : Ev Fp Γ0 147 [int n] h (u64 n.natAbs) h:=by
 by_cases h0 : n < 0
 ·rw [← xq hn h0]
  exact Gu pok (φ:=[decide (n < 0) = true]) [.b true] (by kernel_rfl) ⟨by simpa using h0,trivial⟩ rfl rfl h
 ·rw [← xr hn h0]
  exact Gu pok (φ:=[decide (n < 0) = false]) [.b false] (by kernel_rfl) ⟨by simpa using h0,trivial⟩ rfl rfl h
theorem aS {n : Int} (hn : I64 n) (h : List Blk) : Ev Fp Γ0 176 [int n] h (u64 n.natAbs) h:=by
 by_cases h0 : n < 0
 ·rw [← xq hn h0]
  exact Gu pok (φ:=[decide (n < 0) = true]) [.b true] (by kernel_rfl) ⟨by simpa using h0,trivial⟩ rfl rfl h
 ·rw [← xr hn h0]
  exact Gu pok (φ:=[decide (n < 0) = false]) [.b false] (by kernel_rfl) ⟨by simpa using h0,trivial⟩ rfl rfl h
abbrev cQ : Blk:=.var [.fn (.func 146) [] [.ref (.ptr 0 0)]]
theorem Dd : ∀ (y x : Nat),Ev Fp Γ0 146 [u64 x,u64 y,.ref (.ptr 0 0)] [cQ] (u64 (Gr y x)) [cQ]:=by
 intro y
 induction y using Nat.strongRecOn with
 | _ y ih =>
  intro x
  by_cases h0 : y = 0
  ·subst h0
   rw [Nat.gcd_zero_left]
   exact Gz pok (φ:=[((0 : Int) == 0) = true]) [.b true] (by kernel_rfl) ⟨by simp,trivial⟩
  ·have hi:=ih (x % y) (Nat.mod_lt _ (by omega)) y
   rw [← Nat.gcd_rec] at hi
   refine Gz pok (φ:=[((y : Int) == 0) = false,(!decide ((y : Int) = 0)) = true,Ev Fp Γ0 146 [u64 y,u64 ((x : Int).tmod y),.ref (.ptr 0 0)] [cQ] (u64 (Gr y x)) [cQ]]) [.b false,.val (u64 (Gr y x))] (by kernel_rfl) ⟨?_,?_,?_,trivial⟩
   ·simp; omega
   ·simp; omega
   ·rw [show (x : Int).tmod y = ((x % y : Nat) : Int) by rw [Kk (by omega)]; simp]
    exact hi
theorem iu {a b : Int} (ha : I64 a) (hb : I64 b) (h : List Blk) : Ev Fp Γ0 101 [int a,int b] h (u64 (Gr b.natAbs a.natAbs)) h :=
 Gu pok (φ:=[Ev Fp Γ0 147 [int a] [cQ] (u64 a.natAbs) [cQ],Ev Fp Γ0 147 [int b] [cQ] (u64 b.natAbs) [cQ],
   Ev Fp Γ0 146 [u64 a.natAbs,u64 b.natAbs,.ref (.ptr 0 0)] [cQ] (u64 (Gr b.natAbs a.natAbs)) [cQ]])
  [.val (u64 a.natAbs),.val (u64 b.natAbs),.val (u64 (Gr b.natAbs a.natAbs))] (by kernel_rfl) ⟨fO ha _,fO hb _,Dd _ _,trivial⟩ rfl rfl h
def De (n d : Int) : Bool:=decide (d < 1) || decide (d > 1073741824) || decide (n < -1073741824) || decide (n > 1073741824) || (Gr d.natAbs n.natAbs : Int) != 1
def bi (n d : Int) : Int:=if De n d then 50 else 0
theorem dT {n d : Int} (hn : I64 n) (hd : I64 d) (h : List Blk) : Ev Fp Γ0 49 [.agg [int n,int d]] h (int (bi n d)) h:=by
 have hc:=iu hn hd [.var [int n,int d]]
 cases hb : De n d
 ·simp only [bi,hb]
  exact Gu pok (φ:=[(!(decide (d < 1) || decide (d > 1073741824) || decide (n < -1073741824) || decide (n > 1073741824))) = true →
    Ev Fp Γ0 101 [int n,int d] [.var [int n,int d]] (u64 (Gr d.natAbs n.natAbs)) [.var [int n,int d]],De n d = false])
   [.val (u64 (Gr d.natAbs n.natAbs)),.b false] (by kernel_rfl) ⟨fun _=>hc,hb,trivial⟩ rfl rfl h
 ·simp only [bi,hb]
  exact Gu pok (φ:=[(!(decide (d < 1) || decide (d > 1073741824) || decide (n < -1073741824) || decide (n > 1073741824))) = true →
    Ev Fp Γ0 101 [int n,int d] [.var [int n,int d]] (u64 (Gr d.natAbs n.natAbs)) [.var [int n,int d]],De n d = true])
   [.val (u64 (Gr d.natAbs n.natAbs)),.b true] (by kernel_rfl) ⟨fun _=>hc,hb,trivial⟩ rfl rfl h
theorem AJ (x y : Nat) : (x : Int).tmod y = ((x % y : Nat) : Int):=by
 rw [Kk (by omega)]; simp
theorem mi (p : Nat × Nat) : CW Fp Γ0 [] false (.loop (sub Tryz.f175 0)) { t:=mkT 12 0 [(0,u64 p.1),(1,u64 p.2),(4,u64 0)],h:=[],m:=[] } (.exit 0) { t:=mkT 12 0 [(0,u64 (Gr p.2 p.1)),(4,u64 0)],h:=[],m:=[] }:=by
 refine K2 (fun p : Nat × Nat=>{ t:=mkT 12 0 [(0,u64 p.1),(1,u64 p.2),(4,u64 0)],h:=[],m:=[] }) (fun p=>(.exit 0,{ t:=mkT 12 0 [(0,u64 (Gr p.2 p.1)),(4,u64 0)],h:=[],m:=[] })) (fun p=>p.2) ?_ p
 rintro ⟨x,y⟩
 by_cases h0 : y = 0
 ·subst h0
  refine .inr ⟨by simp,?_⟩
  simp only [Nat.gcd_zero_left]
  exact H5 pok (φ:=[decide ((0 : Int) > 0) = false]) [0,4] [.b false] (by kernel_rfl) ⟨by simp,trivial⟩
 ·refine .inl ⟨(y,x % y),Nat.mod_lt _ (by omega),by simp only [← Nat.gcd_rec],?_⟩
  have:=H5 (P:=Fp) (Γ:=Γ0) (h0:=[]) (rd:=false) (c:=sub Tryz.f175 0) (s:={ t:=mkT 12 0 [(0,u64 x),(1,u64 y),(4,u64 0)],h:=[],m:=[] }) (s':={ t:=mkT 12 0 [(0,u64 y),(1,u64 ((x : Int).tmod y)),(4,u64 0)],h:=[],m:=[] }) (e:=.normal) pok
   (φ:=[decide ((y : Int) > 0) = true,(!decide ((y : Int) = 0)) = true]) [0,1,4] [.b true] (by kernel_rfl) ⟨by simp; omega,by simp; omega,trivial⟩
  rw [AJ] at this
  exact this
theorem dU (x y : Nat) (h : List Blk) : Ev Fp Γ0 175 [u64 x,u64 y] h (u64 (Gr y x)) h :=
 Gu pok (φ:=[CW Fp Γ0 [] false (.loop (sub Tryz.f175 0)) { t:=mkT 12 0 [(0,u64 x),(1,u64 y),(4,u64 0)],h:=[],m:=[] } (.exit 0) { t:=mkT 12 0 [(0,u64 (Gr y x)),(4,u64 0)],h:=[],m:=[] }])
  [.sum [0,1,4,5] (.exit 0) { t:=mkT 12 0 [(0,u64 (Gr y x)),(4,u64 0)],h:=[],m:=[] }] (by kernel_rfl) ⟨mi (x,y),trivial⟩ rfl rfl h
theorem cG {n d : Int} (hn : I64 n) (hd : I64 d) (h : List Blk) : Ev Fp Γ0 142 [.agg [int n,int d]] h (int (bi n d)) h:=by
 have h1:=aS hn [.var [int n,int d]]
 have h2:=aS hd [.var [int n,int d]]
 have h3:=dU n.natAbs d.natAbs [.var [int n,int d]]
 cases hb : De n d
 ·simp only [bi,hb]
  exact Gu pok (φ:=[(!(decide (d < 1) || decide (d > 1073741824) || decide (n < -1073741824) || decide (n > 1073741824))) = true →
    Ev Fp Γ0 176 [int n] [.var [int n,int d]] (u64 n.natAbs) [.var [int n,int d]],
    (!(decide (d < 1) || decide (d > 1073741824) || decide (n < -1073741824) || decide (n > 1073741824))) = true →
    Ev Fp Γ0 176 [int d] [.var [int n,int d]] (u64 d.natAbs) [.var [int n,int d]],
    (!(decide (d < 1) || decide (d > 1073741824) || decide (n < -1073741824) || decide (n > 1073741824))) = true →
    Ev Fp Γ0 175 [u64 n.natAbs,u64 d.natAbs] [.var [int n,int d]] (u64 (Gr d.natAbs n.natAbs)) [.var [int n,int d]],De n d = false])
   [.val (u64 n.natAbs),.val (u64 d.natAbs),.val (u64 (Gr d.natAbs n.natAbs)),.b false] (by kernel_rfl) ⟨fun _=>h1,fun _=>h2,fun _=>h3,hb,trivial⟩ rfl rfl h
 ·simp only [bi,hb]
  exact Gu pok (φ:=[(!(decide (d < 1) || decide (d > 1073741824) || decide (n < -1073741824) || decide (n > 1073741824))) = true →
    Ev Fp Γ0 176 [int n] [.var [int n,int d]] (u64 n.natAbs) [.var [int n,int d]],
    (!(decide (d < 1) || decide (d > 1073741824) || decide (n < -1073741824) || decide (n > 1073741824))) = true →
    Ev Fp Γ0 176 [int d] [.var [int n,int d]] (u64 d.natAbs) [.var [int n,int d]],
    (!(decide (d < 1) || decide (d > 1073741824) || decide (n < -1073741824) || decide (n > 1073741824))) = true →
    Ev Fp Γ0 175 [u64 n.natAbs,u64 d.natAbs] [.var [int n,int d]] (u64 (Gr d.natAbs n.natAbs)) [.var [int n,int d]],De n d = true])
   [.val (u64 n.natAbs),.val (u64 d.natAbs),.val (u64 (Gr d.natAbs n.natAbs)),.b true] (by kernel_rfl) ⟨fun _=>h1,fun _=>h2,fun _=>h3,hb,trivial⟩ rfl rfl h
set_option maxHeartbeats 20000
structure Cls where
 name : ByteArray
 earn : Int
 num : Int
 den : Int
 deriving Inhabited
def Cls.row (c : Cls) : List Dp:=[vs c.name,vi c.earn,vi c.num,vi c.den]
def Cls.ok (c : Cls) : Prop:=I64 c.earn ∧ I64 c.num ∧ I64 c.den
structure FeeT where
 name : ByteArray
 credits : Int
 deriving Inhabited
def FeeT.row (c : FeeT) : List Dp:=[vs c.name,vi c.credits]
def br {α : Type} (p : α → Bool) (l : List α) : Nat → Nat
 | 0=>0
 | n + 1=>match l[n]? with
  | some a=>if p a then n + 1 else br p l n
  | none=>br p l n
def lastIx {α : Type} (p : α → Bool) (l : List α) : Nat:=br p l l.length
def ad {α : Type} (l : List α) : Prop:=l.length ≤ 140737488355328
def ej (x : Nat) (h : List Blk) (k : Nat) : Exit × AS:=match k with
 | 0=>(.exit 0,{ t:=mkT x 0 [(4,int 0)],h:=h,m:=[] })
 | k=>(.ret,{ t:=mkT x 0 [(4,int k)],h:=h,m:=[] })
theorem AK {α : Type} {row : α → List Dp} {l : List α} {n : Nat} {a : α} (h : l[n]? = some a) : (l.map row).getD n [] = row a:=by
 simp [List.getD_eq_getElem?_getD,h]
theorem rowAt {α : Type} {row : α → List Dp} {l : List α} {n : Nat} {a : α} {sz : Nat} (h : l[n]? = some a) (hs : (row a).length = sz) : ah (n : Int) (l.map row) (row a) sz:=by
 have:=(Fy.1 h).1
 refine ⟨?_,AK h,hs⟩
 simp [inR]
 omega
theorem qn {n : Nat} (h : (n : Int) ≤ 9223372036854775806) : Fs.wrap ((n : Int) + 1 - 1) = n:=by
 rw [wrap_i64 (by omega) (by omega)]; omega
theorem qo {l : List Cls} (hl : ad l) {f : D} {h : List Blk} {p : Cls → Bool} (hf : ∀ c ∈ l,Iv Fp Γ0 f [ag c.row] h (bool (p c)) h) (n : Nat) (hn : n ≤ l.length) :
  CW Fp Γ0 h false (.loop (sub K3 0)) { t:=mkT 20 0 [(0,ab (l.map Cls.row)),(1,f),(4,int 0),(5,int n)],h:=h,m:=[] } (ej 20 h (br p l n)).1 (ej 20 h (br p l n)).2:=by
 refine K2 (ι:={ n : Nat // n ≤ l.length }) (fun n=>{ t:=mkT 20 0 [(0,ab (l.map Cls.row)),(1,f),(4,int 0),(5,int n.1)],h:=h,m:=[] }) (fun n=>ej 20 h (br p l n.1)) (fun n=>n.1) ?_ ⟨n,hn⟩
 rintro ⟨n,hn⟩
 cases n with
 | zero =>
  refine .inr ⟨by simp [br,ej],?_⟩
  exact H5 pok (φ:=[decide ((0 : Int) > 0) = false]) [4] [.b false] (by kernel_rfl) ⟨by simp,trivial⟩
 | succ n =>
  have ha : l[n]? = some l[n]:=FK (by omega)
  generalize l[n] = a at ha
  have hw : Fs.wrap ((n : Int) + 1 - 1) = n:=qn (by unfold ad at hl; omega)
  have h1 : decide ((n : Int) + 1 > 0) = true:=decide_eq_true (by omega)
  have h2 : ah (Fs.wrap ((n : Int) + 1 - 1)) (l.map Cls.row) a.row 4:=by rw [hw]; exact rowAt ha rfl
  have h4:=hf a (FV ha)
  cases hp : p a
  ·refine .inl ⟨⟨n,by omega⟩,by simp,by simp [br,ha,hp],?_⟩
   have:=H5 (P:=Fp) (Γ:=Γ0) (h0:=h) (rd:=false) (c:=sub K3 0) (s:={ t:=mkT 20 0 [(0,ab (l.map Cls.row)),(1,f),(4,int 0),(5,int (n + 1))],h:=h,m:=[] }) (e:=.normal)
    (s':={ t:=mkT 20 0 [(0,ab (l.map Cls.row)),(1,f),(4,int 0),(5,int (Fs.wrap ((n : Int) + 1 - 1)))],h:=h,m:=[] }) pok
    (φ:=[decide ((n : Int) + 1 > 0) = true,ah (Fs.wrap ((n : Int) + 1 - 1)) (l.map Cls.row) a.row 4,
     Iv Fp Γ0 f [ag a.row] h (bool (p a)) h,p a = false]) [0,1,4,5] [.b true,.row a.row,.ival (bool (p a)),.b false] (by kernel_rfl) ⟨h1,h2,h4,hp,trivial⟩
   rw [hw] at this
   exact this
  ·refine .inr ⟨by simp [br,ha,hp,ej],?_⟩
   simp only [br,ha,hp,if_true]
   exact H5 pok (φ:=[decide ((n : Int) + 1 > 0) = true,ah (Fs.wrap ((n : Int) + 1 - 1)) (l.map Cls.row) a.row 4,
     Iv Fp Γ0 f [ag a.row] h (bool (p a)) h,p a = true]) [4] [.b true,.row a.row,.ival (bool (p a)),.b true] (by kernel_rfl) ⟨h1,h2,h4,hp,trivial⟩
theorem jl {l : List Cls} (hl : ad l) {f : D} {h : List Blk} {p : Cls → Bool} (hf : ∀ c ∈ l,Iv Fp Γ0 f [ag c.row] h (bool (p c)) h) : Ev Fp Γ0 95 [ab (l.map Cls.row),f] h (int (lastIx p l)) h:=by
 have hloop:=qo hl hf l.length (Nat.le_refl _)
 have hlen : ((l.map Cls.row).length : Int) = l.length:=by simp
 unfold lastIx
 generalize br p l l.length = k at hloop ⊢
 rw [← hlen] at hloop
 cases k with
 | zero =>
  exact Gz pok (φ:=[CW Fp Γ0 h false (.loop (sub K3 0)) { t:=mkT 20 0 [(0,ab (l.map Cls.row)),(1,f),(4,int 0),(5,int (l.map Cls.row).length)],h:=h,m:=[] } (.exit 0) { t:=mkT 20 0 [(4,int 0)],h:=h,m:=[] }])
   [.sum [0,1,4,5] (.exit 0) { t:=mkT 20 0 [(4,int 0)],h:=h,m:=[] }] (by kernel_rfl) ⟨hloop,trivial⟩
 | succ k =>
  exact Gz pok (φ:=[CW Fp Γ0 h false (.loop (sub K3 0)) { t:=mkT 20 0 [(0,ab (l.map Cls.row)),(1,f),(4,int 0),(5,int (l.map Cls.row).length)],h:=h,m:=[] } .ret { t:=mkT 20 0 [(4,int ((k + 1 : Nat) : Int))],h:=h,m:=[] }])
   [.sum [0,1,4,5] .ret { t:=mkT 20 0 [(4,int ((k + 1 : Nat) : Int))],h:=h,m:=[] }] (by kernel_rfl) ⟨hloop,trivial⟩
set_option maxHeartbeats 40000
theorem qp {l : List FeeT} (hl : ad l) {f : D} {h : List Blk} {p : FeeT → Bool} (hf : ∀ c ∈ l,Iv Fp Γ0 f [ag c.row] h (bool (p c)) h) (n : Nat) (hn : n ≤ l.length) :
  CW Fp Γ0 h false (.loop (sub K4 0)) { t:=mkT 20 0 [(0,ab (l.map FeeT.row)),(1,f),(4,int 0),(5,int n)],h:=h,m:=[] } (ej 20 h (br p l n)).1 (ej 20 h (br p l n)).2:=by
 refine K2 (ι:={ n : Nat // n ≤ l.length }) (fun n=>{ t:=mkT 20 0 [(0,ab (l.map FeeT.row)),(1,f),(4,int 0),(5,int n.1)],h:=h,m:=[] }) (fun n=>ej 20 h (br p l n.1)) (fun n=>n.1) ?_ ⟨n,hn⟩
 rintro ⟨n,hn⟩
 cases n with
 | zero =>
  refine .inr ⟨by simp [br,ej],?_⟩
  exact H5 pok (φ:=[decide ((0 : Int) > 0) = false]) [4] [.b false] (by kernel_rfl) ⟨by simp,trivial⟩
 | succ n =>
  have ha : l[n]? = some l[n]:=FK (by omega)
  generalize l[n] = a at ha
  have hw : Fs.wrap ((n : Int) + 1 - 1) = n:=qn (by unfold ad at hl; omega)
  have h1 : decide ((n : Int) + 1 > 0) = true:=decide_eq_true (by omega)
  have h2 : ah (Fs.wrap ((n : Int) + 1 - 1)) (l.map FeeT.row) a.row 2:=by rw [hw]; exact rowAt ha rfl
  have h4:=hf a (FV ha)
  cases hp : p a
  ·refine .inl ⟨⟨n,by omega⟩,by simp,by simp [br,ha,hp],?_⟩
   have:=H5 (P:=Fp) (Γ:=Γ0) (h0:=h) (rd:=false) (c:=sub K4 0) (s:={ t:=mkT 20 0 [(0,ab (l.map FeeT.row)),(1,f),(4,int 0),(5,int (n + 1))],h:=h,m:=[] }) (e:=.normal)
    (s':={ t:=mkT 20 0 [(0,ab (l.map FeeT.row)),(1,f),(4,int 0),(5,int (Fs.wrap ((n : Int) + 1 - 1)))],h:=h,m:=[] }) pok
    (φ:=[decide ((n : Int) + 1 > 0) = true,ah (Fs.wrap ((n : Int) + 1 - 1)) (l.map FeeT.row) a.row 2,
     Iv Fp Γ0 f [ag a.row] h (bool (p a)) h,p a = false]) [0,1,4,5] [.b true,.row a.row,.ival (bool (p a)),.b false] (by kernel_rfl) ⟨h1,h2,h4,hp,trivial⟩
   rw [hw] at this
   exact this
  ·refine .inr ⟨by simp [br,ha,hp,ej],?_⟩
   simp only [br,ha,hp,if_true]
   exact H5 pok (φ:=[decide ((n : Int) + 1 > 0) = true,ah (Fs.wrap ((n : Int) + 1 - 1)) (l.map FeeT.row) a.row 2,
     Iv Fp Γ0 f [ag a.row] h (bool (p a)) h,p a = true]) [4] [.b true,.row a.row,.ival (bool (p a)),.b true] (by kernel_rfl) ⟨h1,h2,h4,hp,trivial⟩
theorem m9 {l : List FeeT} (hl : ad l) {f : D} {h : List Blk} {p : FeeT → Bool} (hf : ∀ c ∈ l,Iv Fp Γ0 f [ag c.row] h (bool (p c)) h) : Ev Fp Γ0 92 [ab (l.map FeeT.row),f] h (int (lastIx p l)) h:=by
 have hloop:=qp hl hf l.length (Nat.le_refl _)
 have hlen : ((l.map FeeT.row).length : Int) = l.length:=by simp
 unfold lastIx
 generalize br p l l.length = k at hloop ⊢
 rw [← hlen] at hloop
 cases k with
 | zero =>
  exact Gz pok (φ:=[CW Fp Γ0 h false (.loop (sub K4 0)) { t:=mkT 20 0 [(0,ab (l.map FeeT.row)),(1,f),(4,int 0),(5,int (l.map FeeT.row).length)],h:=h,m:=[] } (.exit 0) { t:=mkT 20 0 [(4,int 0)],h:=h,m:=[] }])
   [.sum [0,1,4,5] (.exit 0) { t:=mkT 20 0 [(4,int 0)],h:=h,m:=[] }] (by kernel_rfl) ⟨hloop,trivial⟩
 | succ k =>
  exact Gz pok (φ:=[CW Fp Γ0 h false (.loop (sub K4 0)) { t:=mkT 20 0 [(0,ab (l.map FeeT.row)),(1,f),(4,int 0),(5,int (l.map FeeT.row).length)],h:=h,m:=[] } .ret { t:=mkT 20 0 [(4,int ((k + 1 : Nat) : Int))],h:=h,m:=[] }])
   [.sum [0,1,4,5] .ret { t:=mkT 20 0 [(4,int ((k + 1 : Nat) : Int))],h:=h,m:=[] }] (by kernel_rfl) ⟨hloop,trivial⟩
def amt (n : Int) : Bool:=decide (n ≥ 0) && decide (n ≤ 10000)
theorem cm (n : Int) (h : List Blk) : Ev Fp Γ0 91 [int n] h (bool (amt n)) h :=
 Gu pok (φ:=[]) [] (by kernel_rfl) trivial rfl rfl h
def wrongB (c : Cls) : Bool:=!amt c.earn || bi c.num c.den != 0 || decide (c.num < 0) || decide (c.num > Fs.wrap (12 * c.den))
def wrongF (f : FeeT) : Bool:=!amt f.credits
theorem xt {c : Cls} (hc : c.ok) (h : List Blk) : Ev Fp Γ0 94 [ag c.row] h (bool (wrongB c)) h :=
 Gu pok (φ:=[Ev Fp Γ0 91 [int c.earn] [.var (c.row.map .p)] (bool (amt c.earn)) [.var (c.row.map .p)],
  (!!amt c.earn) = true → Ev Fp Γ0 49 [.agg [int c.num,int c.den]] [.var (c.row.map .p)] (int (bi c.num c.den)) [.var (c.row.map .p)]])
  [.val (bool (amt c.earn)),.val (int (bi c.num c.den))] (by kernel_rfl) ⟨cm _ _,fun _=>dT hc.2.1 hc.2.2 _,trivial⟩ rfl rfl h
theorem xu (c : FeeT) (h : List Blk) : Ev Fp Γ0 96 [ag c.row] h (bool (wrongF c)) h :=
 Gu pok (φ:=[Ev Fp Γ0 91 [int c.credits] [.var (c.row.map .p)] (bool (amt c.credits)) [.var (c.row.map .p)]])
  [.val (bool (amt c.credits))] (by kernel_rfl) ⟨cm _ _,trivial⟩ rfl rfl h
structure Sys where
 classes : List Cls
 fees : List FeeT
 honours : List Cls
 clauses : List (List Dp)
def Sys.cells (s : Sys) : List D:=[ab (s.classes.map Cls.row),ab (s.fees.map FeeT.row),ab (s.honours.map Cls.row),ab s.clauses]
structure Sys.ok (s : Sys) : Prop where
 c : ∀ c ∈ s.classes,c.ok
 h : ∀ c ∈ s.honours,c.ok
 f : ∀ f ∈ s.fees,I64 f.credits
 lc : ad s.classes
 lh : ad s.honours
 lf : ad s.fees
 ll : ad s.clauses
def fnv (k : Nat) : D:=lit (.func (.func k) #[] #[])
theorem qq {l : List Cls} (hl : ∀ c ∈ l,c.ok) (h : List Blk) : ∀ c ∈ l,Iv Fp Γ0 (fnv 94) [ag c.row] h (bool (wrongB c)) h :=
 fun c hc=>Lz (f:=94) (fi:=[]) (ca:=[]) pok (by kernel_rfl) (by kernel_rfl) (xt (hl c hc) h)
theorem xv {l : List FeeT} (h : List Blk) : ∀ c ∈ l,Iv Fp Γ0 (fnv 96) [ag c.row] h (bool (wrongF c)) h :=
 fun c _=>Lz (f:=96) (fi:=[]) (ca:=[]) pok (by kernel_rfl) (by kernel_rfl) (xu c h)
def badS (s : Sys) : Bool:=decide (Fs.wrap ((lastIx wrongB s.classes : Int) + (lastIx wrongB s.honours : Int)) > 0) || decide ((lastIx wrongF s.fees : Int) > 0)
def gR (s : Sys) : Int:=if badS s then 1 else 0
theorem lv {s : Sys} (hs : s.ok) (h : List Blk) : Ev Fp Γ0 43 [.agg s.cells] h (int (gR s)) h:=by
 have h1:=jl hs.lc (qq hs.c [.var s.cells])
 have h2:=jl hs.lh (qq hs.h [.var s.cells])
 have h3:=m9 hs.lf (xv (l:=s.fees) [.var s.cells])
 cases hb : badS s
 ·simp only [gR,hb]
  exact Gu pok (φ:=[Ev Fp Γ0 95 [ab (s.classes.map Cls.row),fnv 94] [.var s.cells] (int (lastIx wrongB s.classes)) [.var s.cells],
   Ev Fp Γ0 95 [ab (s.honours.map Cls.row),fnv 94] [.var s.cells] (int (lastIx wrongB s.honours)) [.var s.cells],
   (!decide (Fs.wrap ((lastIx wrongB s.classes : Int) + (lastIx wrongB s.honours : Int)) > 0)) = true → Ev Fp Γ0 92 [ab (s.fees.map FeeT.row),fnv 96] [.var s.cells] (int (lastIx wrongF s.fees)) [.var s.cells],badS s = false])
   [.val (int (lastIx wrongB s.classes)),.val (int (lastIx wrongB s.honours)),.val (int (lastIx wrongF s.fees)),.b false] (by kernel_rfl) ⟨h1,h2,fun _=>h3,hb,trivial⟩ rfl rfl h
 ·simp only [gR,hb]
  exact Gu pok (φ:=[Ev Fp Γ0 95 [ab (s.classes.map Cls.row),fnv 94] [.var s.cells] (int (lastIx wrongB s.classes)) [.var s.cells],
   Ev Fp Γ0 95 [ab (s.honours.map Cls.row),fnv 94] [.var s.cells] (int (lastIx wrongB s.honours)) [.var s.cells],
   (!decide (Fs.wrap ((lastIx wrongB s.classes : Int) + (lastIx wrongB s.honours : Int)) > 0)) = true → Ev Fp Γ0 92 [ab (s.fees.map FeeT.row),fnv 96] [.var s.cells] (int (lastIx wrongF s.fees)) [.var s.cells],badS s = true])
   [.val (int (lastIx wrongB s.classes)),.val (int (lastIx wrongB s.honours)),.val (int (lastIx wrongF s.fees)),.b true] (by kernel_rfl) ⟨h1,h2,fun _=>h3,hb,trivial⟩ rfl rfl h
def Cd (s : Sys) (x : Int) : Int × Int:=if gR s != 0 || !amt x then (0,1) else (lastIx (fun f : FeeT=>decide (f.credits ≤ x)) s.fees,0)
theorem Df (f : FeeT) (s : Sys) (x : Int) : Ev Fp Γ0 93 [ag f.row,.ref (.ptr 1 0)] [.var s.cells,.var [int x]] (bool (decide (f.credits ≤ x))) [.var s.cells,.var [int x]] :=
 IY pok (φ:=[]) [] (by kernel_rfl) trivial
theorem Ce {s : Sys} (hs : s.ok) (x : Int) (h : List Blk) : Ev Fp Γ0 41 [.agg s.cells,int x] h (.tup [int (Cd s x).1,int (Cd s x).2]) h:=by
 have h1:=lv hs [.var s.cells,.var [int x]]
 have h2:=cm x [.var s.cells,.var [int x]]
 cases hb : gR s != 0 || !amt x
 ·have h3:=m9 (f:=.fn (.func 93) [] [.ref (.ptr 1 0)]) (h:=[.var s.cells,.var [int x]]) hs.lf (p:=fun f : FeeT=>decide (f.credits ≤ x)) (fun c _=>Lz (f:=93) (fi:=[]) (ca:=[.ref (.ptr 1 0)]) pok (by kernel_rfl) (by kernel_rfl) (Df c s x))
  simp only [Cd,hb]
  exact Gu pok (φ:=[Ev Fp Γ0 43 [.agg s.cells] [.var s.cells,.var [int x]] (int (gR s)) [.var s.cells,.var [int x]],
   (!gR s != 0) = true → Ev Fp Γ0 91 [int x] [.var s.cells,.var [int x]] (bool (amt x)) [.var s.cells,.var [int x]],(gR s != 0 || !amt x) = false,
   Ev Fp Γ0 92 [ab (s.fees.map FeeT.row),.fn (.func 93) [] [.ref (.ptr 1 0)]] [.var s.cells,.var [int x]] (int (lastIx (fun f : FeeT=>decide (f.credits ≤ x)) s.fees)) [.var s.cells,.var [int x]]])
   [.val (int (gR s)),.val (bool (amt x)),.b false,.val (int (lastIx (fun f : FeeT=>decide (f.credits ≤ x)) s.fees))] (by kernel_rfl) ⟨h1,fun _=>h2,hb,h3,trivial⟩ rfl rfl h
 ·simp only [Cd,hb]
  exact Gu pok (φ:=[Ev Fp Γ0 43 [.agg s.cells] [.var s.cells,.var [int x]] (int (gR s)) [.var s.cells,.var [int x]],
   (!gR s != 0) = true → Ev Fp Γ0 91 [int x] [.var s.cells,.var [int x]] (bool (amt x)) [.var s.cells,.var [int x]],(gR s != 0 || !amt x) = true])
   [.val (int (gR s)),.val (bool (amt x)),.b true] (by kernel_rfl) ⟨h1,fun _=>h2,hb,trivial⟩ rfl rfl h
theorem gj (a : Int) (h : List Blk) : Ev Fp Γ0 123 [int a] h (bool false) h:=by
 have:=Gu (P:=Fp) (Γ:=Γ0) (f:=123) (args:=[int a]) (d:=bool (a != a)) pok (φ:=[]) [] (by kernel_rfl) trivial rfl rfl h
 simpa using this
def aN (a b : Int) : Int:=if a < b then -1 else if a > b then 1 else 0
theorem cH (a b : Int) (h : List Blk) : Ev Fp Γ0 66 [int a,int b] h (int (aN a b)) h:=by
 by_cases h1 : a < b
 ·simp only [aN,h1,if_true]
  exact Gu pok (φ:=[Ev Fp Γ0 123 [int a] [] (bool false) [],Ev Fp Γ0 123 [int b] [] (bool false) [],false = false,false = false,decide (a < b) = true])
   [.val (bool false),.val (bool false),.b false,.b false,.b true] (by kernel_rfl) ⟨gj _ _,gj _ _,rfl,rfl,decide_eq_true h1,trivial⟩ rfl rfl h
 ·by_cases h2 : a > b
  ·simp only [aN,h1,h2,if_true,if_false]
   exact Gu pok (φ:=[Ev Fp Γ0 123 [int a] [] (bool false) [],Ev Fp Γ0 123 [int b] [] (bool false) [],false = false,false = false,decide (a < b) = false,decide (a > b) = true])
    [.val (bool false),.val (bool false),.b false,.b false,.b false,.b true] (by kernel_rfl) ⟨gj _ _,gj _ _,rfl,rfl,decide_eq_false h1,decide_eq_true h2,trivial⟩ rfl rfl h
  ·simp only [aN,h1,h2,if_false]
   exact Gu pok (φ:=[Ev Fp Γ0 123 [int a] [] (bool false) [],Ev Fp Γ0 123 [int b] [] (bool false) [],false = false,false = false,decide (a < b) = false,decide (a > b) = false])
    [.val (bool false),.val (bool false),.b false,.b false,.b false,.b false] (by kernel_rfl) ⟨gj _ _,gj _ _,rfl,rfl,decide_eq_false h1,decide_eq_false h2,trivial⟩ rfl rfl h
def c9 (a b c d : Int) : Int:=aN (Fs.wrap (a * d)) (Fs.wrap (c * b))
def iv (a b c d : Int) : Int × Int:=if bi a b != 0 then (0,bi a b) else if bi c d != 0 then (0,bi c d) else (c9 a b c d,0)
abbrev hAB (a b c d : Int) : List Blk:=[.var [int a,int b],.var [int c,int d]]
abbrev fAB : D:=.fn (.func 103) [] [.ref (.ptr 0 0),.ref (.ptr 1 0)]
theorem AL (a b c d : Int) : Ev Fp Γ0 103 [.ref (.ptr 0 0),.ref (.ptr 1 0)] (hAB a b c d ++ hAB a b c d) (.tup [int (c9 a b c d),int 0]) (hAB a b c d ++ hAB a b c d) :=
 IY pok (φ:=[Ev Fp Γ0 66 [int (Fs.wrap (a * d)),int (Fs.wrap (c * b))] (hAB a b c d ++ hAB a b c d) (int (c9 a b c d)) (hAB a b c d ++ hAB a b c d)])
  [.val (int (c9 a b c d))] (by kernel_rfl) ⟨cH _ _ _,trivial⟩
def jm (a b c d : Int) (i : Nat) : AS:={ t:=mkT 28 0 [(2,fAB),(6,int 0),(7,int 0),(13,.agg [int a,int b,int c,int d]),(14,int i)],h:=hAB a b c d ++ hAB a b c d,m:=[] }
theorem Cf {a b : Int} (c d : Int) (ha : I64 a) (hb : I64 b) (h0 : (bi a b != 0) = false) : CW Fp Γ0 (hAB a b c d) false (sub Im 0) (jm a b c d 0) .normal (jm a b c d 1):=by
 have:=K5 (P:=Fp) (Γ:=Γ0) (h0:=hAB a b c d) (rd:=false) (c:=sub Im 0) (s:=jm a b c d 0) (e:=.normal) (s':={ t:=mkT 28 0 [(2,fAB),(6,int 0),(7,int 0),(13,.agg [int a,int b,int c,int d]),(14,int (Fs.wrap (0 + 1)))],h:=hAB a b c d ++ hAB a b c d,m:=[] }) pok
  (φ:=[decide ((0 : Int) < 2) = true,inR 0 2 = true,Ev Fp Γ0 49 [.agg [int a,int b]] (hAB a b c d ++ hAB a b c d ++ [.var [int a,int b]]) (int (bi a b)) (hAB a b c d ++ hAB a b c d ++ [.var [int a,int b]]),(bi a b != 0) = false])
  [2,6,7,13,14] 4 (HS rfl) [.b true,.val (int (bi a b)),.b false] (by kernel_rfl) ⟨by decide,by decide,dT ha hb _,h0,trivial⟩
 exact this
theorem both_2 (a b : Int) {c d : Int} (hc : I64 c) (hd : I64 d) (h0 : (bi c d != 0) = false) : CW Fp Γ0 (hAB a b c d) false (sub Im 0) (jm a b c d 1) .normal (jm a b c d 2):=by
 have:=K5 (P:=Fp) (Γ:=Γ0) (h0:=hAB a b c d) (rd:=false) (c:=sub Im 0) (s:=jm a b c d 1) (e:=.normal) (s':={ t:=mkT 28 0 [(2,fAB),(6,int 0),(7,int 0),(13,.agg [int a,int b,int c,int d]),(14,int (Fs.wrap (1 + 1)))],h:=hAB a b c d ++ hAB a b c d,m:=[] }) pok
  (φ:=[decide ((1 : Int) < 2) = true,inR 1 2 = true,Ev Fp Γ0 49 [.agg [int c,int d]] (hAB a b c d ++ hAB a b c d ++ [.var [int c,int d]]) (int (bi c d)) (hAB a b c d ++ hAB a b c d ++ [.var [int c,int d]]),(bi c d != 0) = false])
  [2,6,7,13,14] 4 (HS rfl) [.b true,.val (int (bi c d)),.b false] (by kernel_rfl) ⟨by decide,by decide,dT hc hd _,h0,trivial⟩
 exact this
def retS (a b c d e : Int) : AS:={ t:=mkT 28 0 [(6,int 0),(7,int e)],h:=hAB a b c d ++ hAB a b c d,m:=[] }
theorem both_loop {a b c d : Int} (ha : I64 a) (hb : I64 b) (hc : I64 c) (hd : I64 d) :
  (∃ e,iv a b c d = (0,e) ∧ CW Fp Γ0 (hAB a b c d) false (.loop (sub Im 0)) (jm a b c d 0) .ret (retS a b c d e)) ∨
  (iv a b c d = (c9 a b c d,0) ∧ CW Fp Γ0 (hAB a b c d) false (.loop (sub Im 0)) (jm a b c d 0) (.exit 0) { t:=mkT 28 0 [(2,fAB),(6,int 0),(7,int 0)],h:=hAB a b c d ++ hAB a b c d,m:=[] }):=by
 cases h0 : bi a b != 0
 ·cases h1 : bi c d != 0
  ·refine .inr ⟨by simp [iv,h0,h1],?_⟩
   refine JQ 2 (jm a b c d) (by simp) (fun i hi=>?_) ?_
   ·match i,hi with
    | 0,_=>exact Cf c d ha hb h0
    | 1,_=>exact both_2 a b hc hd h1
   ·exact K5 pok (φ:=[decide ((2 : Int) < 2) = false]) [2,6,7] 4 (HS rfl) [.b false] (by kernel_rfl) ⟨by decide,trivial⟩
  ·refine .inl ⟨bi c d,by simp [iv,h0,h1],?_⟩
   refine JQ 1 (jm a b c d) (by simp) (fun i hi=>?_) ?_
   ·match i,hi with
    | 0,_=>exact Cf c d ha hb h0
   ·exact K5 pok (φ:=[decide ((1 : Int) < 2) = true,inR 1 2 = true,Ev Fp Γ0 49 [.agg [int c,int d]] (hAB a b c d ++ hAB a b c d ++ [.var [int c,int d]]) (int (bi c d)) (hAB a b c d ++ hAB a b c d ++ [.var [int c,int d]]),(bi c d != 0) = true])
     [6,7] 4 (HS rfl) [.b true,.val (int (bi c d)),.b true] (by kernel_rfl) ⟨by decide,by decide,dT hc hd _,h1,trivial⟩
 ·refine .inl ⟨bi a b,by simp [iv,h0],?_⟩
  refine JQ 0 (jm a b c d) (by simp) (fun i hi=>absurd hi (JA i)) ?_
  exact K5 pok (φ:=[decide ((0 : Int) < 2) = true,inR 0 2 = true,Ev Fp Γ0 49 [.agg [int a,int b]] (hAB a b c d ++ hAB a b c d ++ [.var [int a,int b]]) (int (bi a b)) (hAB a b c d ++ hAB a b c d ++ [.var [int a,int b]]),(bi a b != 0) = true])
     [6,7] 4 (HS rfl) [.b true,.val (int (bi a b)),.b true] (by kernel_rfl) ⟨by decide,by decide,dT ha hb _,h0,trivial⟩
theorem Dg {a b c d : Int} (ha : I64 a) (hb : I64 b) (hc : I64 c) (hd : I64 d) : Ev Fp Γ0 102 [.agg [int a,int b],.agg [int c,int d],fAB] (hAB a b c d) (.tup [int (iv a b c d).1,int (iv a b c d).2]) (hAB a b c d):=by
 rcases both_loop ha hb hc hd with ⟨e,h1,h2⟩ | ⟨h1,h2⟩
 ·rw [h1]
  exact IY pok (φ:=[CW Fp Γ0 (hAB a b c d) false (.loop (sub Im 0)) (jm a b c d 0) .ret (retS a b c d e)])
   [.sum [2,6,7,13,14] .ret (retS a b c d e)] (by kernel_rfl) ⟨h2,trivial⟩
 ·rw [h1]
  exact IY pok (φ:=[CW Fp Γ0 (hAB a b c d) false (.loop (sub Im 0)) (jm a b c d 0) (.exit 0) { t:=mkT 28 0 [(2,fAB),(6,int 0),(7,int 0)],h:=hAB a b c d ++ hAB a b c d,m:=[] },
   Ev Fp Γ0 103 [.ref (.ptr 0 0),.ref (.ptr 1 0)] (hAB a b c d ++ hAB a b c d) (.tup [int (c9 a b c d),int 0]) (hAB a b c d ++ hAB a b c d)])
   [.sum [2,6,7,13,14] (.exit 0) { t:=mkT 28 0 [(2,fAB),(6,int 0),(7,int 0)],h:=hAB a b c d ++ hAB a b c d,m:=[] },.val (.tup [int (c9 a b c d),int 0])] (by kernel_rfl)
   ⟨h2,AL _ _ _ _,trivial⟩
theorem vt {a b c d : Int} (ha : I64 a) (hb : I64 b) (hc : I64 c) (hd : I64 d) (h : List Blk) : Ev Fp Γ0 51 [.agg [int a,int b],.agg [int c,int d]] h (.tup [int (iv a b c d).1,int (iv a b c d).2]) h :=
 Gu pok (φ:=[Ev Fp Γ0 102 [.agg [int a,int b],.agg [int c,int d],fAB] (hAB a b c d) (.tup [int (iv a b c d).1,int (iv a b c d).2]) (hAB a b c d)])
  [.val (.tup [int (iv a b c d).1,int (iv a b c d).2])] (by kernel_rfl) ⟨Dg ha hb hc hd,trivial⟩ rfl rfl h
def lw (earned n d : Int) (c : Cls) : Bool:=decide ((iv c.num c.den n d).1 ≤ 0) && decide (c.earn ≤ earned)
abbrev hOf (s : Sys) (earned n d : Int) : List Blk:=[.var s.cells,.var [int earned],.var [int n,int d]]
theorem xw {c : Cls} (hc : c.ok) (s : Sys) {earned n d : Int} (hn : I64 n) (hd : I64 d) : Ev Fp Γ0 141 [ag c.row,.ref (.ptr 2 0),.ref (.ptr 1 0)] (hOf s earned n d) (bool (lw earned n d c)) (hOf s earned n d) :=
 IY pok (φ:=[Ev Fp Γ0 51 [.agg [int c.num,int c.den],.agg [int n,int d]] (hOf s earned n d ++ [.var (c.row.map .p)]) (.tup [int (iv c.num c.den n d).1,int (iv c.num c.den n d).2]) (hOf s earned n d ++ [.var (c.row.map .p)])])
  [.val (.tup [int (iv c.num c.den n d).1,int (iv c.num c.den n d).2])] (by kernel_rfl) ⟨vt hc.2.1 hc.2.2 hn hd _,trivial⟩
def ofR (s : Sys) (l : List Cls) (earned n d : Int) : Int × Int :=
 if gR s != 0 || !amt earned then (0,1) else if bi n d != 0 then (0,bi n d) else (lastIx (lw earned n d) l,0)
theorem of_ev {s : Sys} (hs : s.ok) {l : List Cls} (hl : ∀ c ∈ l,c.ok) (hsl : ad l) {earned n d : Int} (hn : I64 n) (hd : I64 d) (h : List Blk) :
  Ev Fp Γ0 89 [.agg s.cells,ab (l.map Cls.row),int earned,.agg [int n,int d]] h (.tup [int (ofR s l earned n d).1,int (ofR s l earned n d).2]) h:=by
 have h1:=lv hs (hOf s earned n d)
 have h2:=cm earned (hOf s earned n d)
 have h4:=dT hn hd (hOf s earned n d)
 cases h0 : gR s != 0 || !amt earned
 ·cases h3 : bi n d != 0
  ·have h5:=jl (f:=.fn (.func 141) [] [.ref (.ptr 2 0),.ref (.ptr 1 0)]) (h:=hOf s earned n d) hsl (p:=lw earned n d) (fun c hc=>Lz (f:=141) (fi:=[]) (ca:=[.ref (.ptr 2 0),.ref (.ptr 1 0)]) pok (by kernel_rfl) (by kernel_rfl) (xw (hl c hc) s hn hd))
   simp only [ofR,h0,h3]
   exact Gu pok (φ:=[Ev Fp Γ0 43 [.agg s.cells] (hOf s earned n d) (int (gR s)) (hOf s earned n d),
    (!gR s != 0) = true → Ev Fp Γ0 91 [int earned] (hOf s earned n d) (bool (amt earned)) (hOf s earned n d),(gR s != 0 || !amt earned) = false,
    Ev Fp Γ0 49 [.agg [int n,int d]] (hOf s earned n d) (int (bi n d)) (hOf s earned n d),(bi n d != 0) = false,
    Ev Fp Γ0 95 [ab (l.map Cls.row),.fn (.func 141) [] [.ref (.ptr 2 0),.ref (.ptr 1 0)]] (hOf s earned n d) (int (lastIx (lw earned n d) l)) (hOf s earned n d)])
    [.val (int (gR s)),.val (bool (amt earned)),.b false,.val (int (bi n d)),.b false,.val (int (lastIx (lw earned n d) l))] (by kernel_rfl) ⟨h1,fun _=>h2,h0,h4,h3,h5,trivial⟩ rfl rfl h
  ·simp only [ofR,h0,h3]
   exact Gu pok (φ:=[Ev Fp Γ0 43 [.agg s.cells] (hOf s earned n d) (int (gR s)) (hOf s earned n d),
    (!gR s != 0) = true → Ev Fp Γ0 91 [int earned] (hOf s earned n d) (bool (amt earned)) (hOf s earned n d),(gR s != 0 || !amt earned) = false,
    Ev Fp Γ0 49 [.agg [int n,int d]] (hOf s earned n d) (int (bi n d)) (hOf s earned n d),(bi n d != 0) = true])
    [.val (int (gR s)),.val (bool (amt earned)),.b false,.val (int (bi n d)),.b true] (by kernel_rfl) ⟨h1,fun _=>h2,h0,h4,h3,trivial⟩ rfl rfl h
 ·simp only [ofR,h0]
  exact Gu pok (φ:=[Ev Fp Γ0 43 [.agg s.cells] (hOf s earned n d) (int (gR s)) (hOf s earned n d),
    (!gR s != 0) = true → Ev Fp Γ0 91 [int earned] (hOf s earned n d) (bool (amt earned)) (hOf s earned n d),(gR s != 0 || !amt earned) = true])
    [.val (int (gR s)),.val (bool (amt earned)),.b true] (by kernel_rfl) ⟨h1,fun _=>h2,h0,trivial⟩ rfl rfl h
abbrev qr (r : Int × Int) : D:=.tup [int r.1,int r.2]
theorem ui {s : Sys} (hs : s.ok) {earned n d : Int} (hn : I64 n) (hd : I64 d) (h : List Blk) : Ev Fp Γ0 37 [.agg s.cells,int earned,.agg [int n,int d]] h (qr (ofR s s.classes earned n d)) h :=
 Gu pok (φ:=[Ev Fp Γ0 89 [.agg s.cells,ab (s.classes.map Cls.row),int earned,.agg [int n,int d]] [.var s.cells,.var [int n,int d]] (qr (ofR s s.classes earned n d)) [.var s.cells,.var [int n,int d]]])
  [.val (qr (ofR s s.classes earned n d))] (by kernel_rfl) ⟨of_ev hs hs.c hs.lc hn hd _,trivial⟩ rfl rfl h
theorem qt {s : Sys} (hs : s.ok) {earned n d : Int} (hn : I64 n) (hd : I64 d) (h : List Blk) : Ev Fp Γ0 39 [.agg s.cells,int earned,.agg [int n,int d]] h (qr (ofR s s.honours earned n d)) h :=
 Gu pok (φ:=[Ev Fp Γ0 89 [.agg s.cells,ab (s.honours.map Cls.row),int earned,.agg [int n,int d]] [.var s.cells,.var [int n,int d]] (qr (ofR s s.honours earned n d)) [.var s.cells,.var [int n,int d]]])
  [.val (qr (ofR s s.honours earned n d))] (by kernel_rfl) ⟨of_ev hs hs.h hs.lh hn hd _,trivial⟩ rfl rfl h
set_option maxHeartbeats 4000000
structure FactT where
 kind : Int
 sub : Int
 obj : Int
 value : Int
 frm : Int
 til : Int
 known : Int
 no : Int
 deriving Inhabited
def FactT.row (f : FactT) : List Dp:=[vi f.kind,vi f.sub,vi f.obj,vi f.value,vi f.frm,vi f.til,vi f.known,vi f.no]
def FactT.ok (f : FactT) : Prop:=I64 f.kind ∧ I64 f.sub ∧ I64 f.obj ∧ I64 f.value ∧ I64 f.frm ∧ I64 f.til ∧ I64 f.known ∧ I64 f.no
def orI (a b : Int) : Int:=if (a != 0) = true then a else if (b != 0) = true then b else 0
abbrev orR (a b : Int) : List (List Dp):=[[vi a],[vi b]]
abbrev orS (a b : Int) (i : Int) (h : List Blk) : AS:={ t:=mkT 18 0 [(2,int 0),(3,int 0),(6,ab (orR a b)),(7,int 2),(8,int i)],h:=h,m:=[] }
theorem or_0 {a b : Int} {h0 h : List Blk} (hr : ah 0 (orR a b) [vi a] 1) (hz : (a != 0) = false) : (CW Fp Γ0 h0 false (sub Jo 0) (orS a b 0 h) .normal (orS a b 1 h)):=by
 refine zX { t:=mkT 18 0 [(2,int 0),(3,int 0),(6,ab [[vi a],[vi b]]),(7,int 2),(8,int (Fz Fs (0 + 1)))],h:=h,m:=[] } FH [.st (.mask [2,3,6,7,8])] [.b true,.row [vi a],.b false] (.c (show decide (0 < 2) = true from rfl) (.c hr (.c hz .n))) ?_ ?_ <;> (rfl)
theorem or_1 {a b : Int} {h0 h : List Blk} (hr : ah 1 (orR a b) [vi b] 1) (hz : (b != 0) = false) : (CW Fp Γ0 h0 false (sub Jo 0) (orS a b 1 h) .normal (orS a b 2 h)):=by
 refine zX { t:=mkT 18 0 [(2,int 0),(3,int 0),(6,ab [[vi a],[vi b]]),(7,int 2),(8,int (Fz Fs (1 + 1)))],h:=h,m:=[] } FH [.st (.mask [2,3,6,7,8])] [.b true,.row [vi b],.b false] (.c (show decide (1 < 2) = true from rfl) (.c hr (.c hz .n))) ?_ ?_ <;> (rfl)
theorem or_0r {a b : Int} {h0 h : List Blk} (hr : ah 0 (orR a b) [vi a] 1) (hz : (a != 0) = true) : (CW Fp Γ0 h0 false (sub Jo 0) (orS a b 0 h) .ret { t:=mkT 18 0 [(2,int a)],h:=h,m:=[] }):=by
 refine zX { t:=mkT 18 0 [(2,int a)],h:=h,m:=[] } Gw [.st (.mask [2])] [.b true,.row [vi a],.b true] (.c (show decide (0 < 2) = true from rfl) (.c hr (.c hz .n))) ?_ ?_ <;> (rfl)
theorem or_1r {a b : Int} {h0 h : List Blk} (hr : ah 1 (orR a b) [vi b] 1) (hz : (b != 0) = true) : (CW Fp Γ0 h0 false (sub Jo 0) (orS a b 1 h) .ret { t:=mkT 18 0 [(2,int b)],h:=h,m:=[] }):=by
 refine zX { t:=mkT 18 0 [(2,int b)],h:=h,m:=[] } Gw [.st (.mask [2])] [.b true,.row [vi b],.b true] (.c (show decide (1 < 2) = true from rfl) (.c hr (.c hz .n))) ?_ ?_ <;> (rfl)
theorem or_2 {a b : Int} {h0 h : List Blk} : (CW Fp Γ0 h0 false (sub Jo 0) (orS a b 2 h) (.exit 0) { t:=mkT 18 0 [(2,int 0),(3,int 0)],h:=h,m:=[] }):=by
 refine zX { t:=mkT 18 0 [(2,int 0),(3,int 0)],h:=h,m:=[] } (Gf 0) [.st (.mask [2,3])] [.b false] (.c (show decide (2 < 2) = false from rfl) .n) ?_ ?_ <;> (rfl)
def xx (a b : Int) (h : List Blk) : Exit × AS:=match a != 0 with
 | true=>(.ret,{ t:=mkT 18 0 [(2,int a)],h:=h,m:=[] })
 | false=>match b != 0 with
  | true=>(.ret,{ t:=mkT 18 0 [(2,int b)],h:=h,m:=[] })
  | false=>(.exit 0,{ t:=mkT 18 0 [(2,int 0),(3,int 0)],h:=h,m:=[] })
theorem or_cw {a b : Int} {h0 h : List Blk} : CW Fp Γ0 h0 false (.loop (sub Jo 0)) (orS a b 0 h) (xx a b h).1 (xx a b h).2:=by
 have r0 : ah 0 (orR a b) [vi a] 1:=⟨rfl,rfl,rfl⟩
 have r1 : ah 1 (orR a b) [vi b] 1:=⟨rfl,rfl,rfl⟩
 unfold xx
 cases ha : a != 0
 ·cases hb : b != 0
  ·refine JQ 2 (fun i=>orS a b i h) (by simp) (fun i hi=>?_) or_2
   match i,hi with
   | 0,_=>exact or_0 r0 ha
   | 1,_=>exact or_1 r1 hb
  ·refine JQ 1 (fun i=>orS a b i h) (by simp) (fun i hi=>?_) (or_1r r1 hb)
   match i,hi with
   | 0,_=>exact or_0 r0 ha
 ·exact JQ 0 (fun i=>orS a b i h) (by simp) (fun i hi=>absurd hi (JA i)) (or_0r r0 ha)
noncomputable abbrev dm (a : FactT) (b : FactT) : List Blk:=[.var [int a.kind,int a.sub,int a.obj,int a.value,int a.frm,int a.til,int a.known,int a.no],.var [int b.kind,int b.sub,int b.obj,int b.value,int b.frm,int b.til,int b.known,int b.no]]
theorem oJ {a b : FactT} (h : List Blk) : (Ev Fp Γ0 84 [ag a.row,ag b.row] h (int (orI (aN a.known b.known) (aN a.no b.no))) h):=by
 have hl0:=(@or_cw (aN a.known b.known) (aN a.no b.no) ([.var [int a.kind,int a.sub,int a.obj,int a.value,int a.frm,int a.til,int a.known,int a.no],.var [int b.kind,int b.sub,int b.obj,int b.value,int b.frm,int b.til,int b.known,int b.no],.vec [[int (aN a.known b.known)],[int (aN a.no b.no)]] 0 1]) ([.var [int a.kind,int a.sub,int a.obj,int a.value,int a.frm,int a.til,int a.known,int a.no],.var [int b.kind,int b.sub,int b.obj,int b.value,int b.frm,int b.til,int b.known,int b.no],.gone]))
 unfold xx at hl0
 revert hl0
 cases ho1 : aN a.known b.known != 0 with
 | false =>
  intro hl0
  revert hl0
  cases ho2 : aN a.no b.no != 0 with
  | false =>
   intro hl0
   exact zD (int 0) [.val (int (aN a.known b.known)),.val (int (aN a.no b.no)),.inl,.st (.frz 2 (orR (aN a.known b.known) (aN a.no b.no))),.sum [2,3,6,7,8] (Gf 0) { t:=mkT 18 0 [(2,int 0),(3,int 0)],h:=[.var [int a.kind,int a.sub,int a.obj,int a.value,int a.frm,int a.til,int a.known,int a.no],.var [int b.kind,int b.sub,int b.obj,int b.value,int b.frm,int b.til,int b.known,int b.no],.gone],m:=[] }] (.c (@cH (a.known) (b.known) (dm a b)) (.c (@cH (a.no) (b.no) (dm a b)) (.er [[int (aN a.known b.known)],[int (aN a.no b.no)]] (.c hl0 (.e (.ref (.ptr 0 6)) (.e (int a.known) (.e (.ref (.ptr 1 6)) (.e (int b.known) (.e (.ref (.ptr 0 7)) (.e (.ref (.ptr 0 7)) (.e (int a.no) (.e (int a.no) (.e (.ref (.ptr 1 7)) (.e (.ref (.ptr 1 7)) (.e (int b.no) (.e (int b.no) .n)))))))))))))))) h (by simp [orI,ho1,ho2])
  | true =>
   intro hl0
   exact zD (int (aN a.no b.no)) [.val (int (aN a.known b.known)),.val (int (aN a.no b.no)),.inl,.st (.frz 2 (orR (aN a.known b.known) (aN a.no b.no))),.sum [2,3,6,7,8] (Gw) { t:=mkT 18 0 [(2,int (aN a.no b.no))],h:=[.var [int a.kind,int a.sub,int a.obj,int a.value,int a.frm,int a.til,int a.known,int a.no],.var [int b.kind,int b.sub,int b.obj,int b.value,int b.frm,int b.til,int b.known,int b.no],.gone],m:=[] }] (.c (@cH (a.known) (b.known) (dm a b)) (.c (@cH (a.no) (b.no) (dm a b)) (.er [[int (aN a.known b.known)],[int (aN a.no b.no)]] (.c hl0 (.e (.ref (.ptr 0 6)) (.e (int a.known) (.e (.ref (.ptr 1 6)) (.e (int b.known) (.e (.ref (.ptr 0 7)) (.e (.ref (.ptr 0 7)) (.e (int a.no) (.e (int a.no) (.e (.ref (.ptr 1 7)) (.e (.ref (.ptr 1 7)) (.e (int b.no) (.e (int b.no) .n)))))))))))))))) h (by simp [orI,ho1,ho2])
 | true =>
  intro hl0
  exact zD (int (aN a.known b.known)) [.val (int (aN a.known b.known)),.val (int (aN a.no b.no)),.inl,.st (.frz 2 (orR (aN a.known b.known) (aN a.no b.no))),.sum [2,3,6,7,8] (Gw) { t:=mkT 18 0 [(2,int (aN a.known b.known))],h:=[.var [int a.kind,int a.sub,int a.obj,int a.value,int a.frm,int a.til,int a.known,int a.no],.var [int b.kind,int b.sub,int b.obj,int b.value,int b.frm,int b.til,int b.known,int b.no],.gone],m:=[] }] (.c (@cH (a.known) (b.known) (dm a b)) (.c (@cH (a.no) (b.no) (dm a b)) (.er [[int (aN a.known b.known)],[int (aN a.no b.no)]] (.c hl0 (.e (.ref (.ptr 0 6)) (.e (int a.known) (.e (.ref (.ptr 1 6)) (.e (int b.known) (.e (.ref (.ptr 0 7)) (.e (.ref (.ptr 0 7)) (.e (int a.no) (.e (int a.no) (.e (.ref (.ptr 1 7)) (.e (.ref (.ptr 1 7)) (.e (int b.no) (.e (int b.no) .n)))))))))))))))) h (by simp [orI,ho1])
theorem jn {α : Type} {l : List α} {i : Nat} {a : α} (h : l[i]? = some a) : l.drop i = a :: l.drop (i + 1):=by
 obtain ⟨h1,h2⟩:=Fy.1 h
 rw [List.drop_eq_getElem_cons h1,h2]
theorem wrap_succ {i n : Nat} (h : i < n) (hn : n ≤ 140737488355328) : Fs.wrap ((i : Int) + 1) = ((i + 1 : Nat) : Int):=by
 rw [wrap_i64 (by omega) (by omega)]; omega
theorem lt_len {α : Type} (row : α → List Dp) {l : List α} {i : Nat} (h : i < l.length) : decide ((i : Int) < ((l.map row).length : Int)) = true:=by simp; omega
theorem aC {α : Type} (row : α → List Dp) (l : List α) : decide ((l.length : Int) < ((l.map row).length : Int)) = false:=by simp
def aI (c : Cls) : Bool:=decide (c.earn < 0) || decide (c.earn > 10000) || bi c.num c.den != 0 || decide (c.num < 0) || decide (c.num > Fs.wrap (12 * c.den))
def iw (h : List Blk) (b : Bool) (l : List Cls) : Exit × AS:=match b with
 | true=>(.ret,{ t:=mkT 58 0 [(2,bool false)],h:=h,m:=[] })
 | false=>(.exit 0,{ t:=mkT 58 0 [(0,ab (l.map Cls.row)),(2,bool false)],h:=h,m:=[] })
theorem vu {l : List Cls} (hl : ∀ c ∈ l,c.ok) (hs : ad l) (h : List Blk) (i : Nat) (hi : i ≤ l.length) :
  CW Fp Γ0 h false (.loop (sub K6 0)) { t:=mkT 58 0 [(0,ab (l.map Cls.row)),(2,bool false),(3,int i)],h:=h,m:=[] } (iw h ((l.drop i).any aI) l).1 (iw h ((l.drop i).any aI) l).2:=by
 refine K2 (ι:={ n : Nat // n ≤ l.length }) (fun i=>{ t:=mkT 58 0 [(0,ab (l.map Cls.row)),(2,bool false),(3,int i.1)],h:=h,m:=[] }) (fun i=>iw h ((l.drop i.1).any aI) l) (fun i=>l.length - i.1) ?_ ⟨i,hi⟩
 rintro ⟨i,hi⟩
 by_cases hlt : i < l.length
 ·have ha : l[i]? = some l[i]:=FK hlt
  generalize l[i] = c at ha
  have hc:=hl c (FV ha)
  have hr : ah (i : Int) (l.map Cls.row) c.row 4:=rowAt ha rfl
  have hk:=cG hc.2.1 hc.2.2 h
  cases hp : aI c
  ·refine .inl ⟨⟨i + 1,hlt⟩,by simp only; omega,by simp [jn ha,hp],?_⟩
   have:=H5 (P:=Fp) (Γ:=Γ0) (h0:=h) (rd:=false) (c:=sub K6 0) (s:={ t:=mkT 58 0 [(0,ab (l.map Cls.row)),(2,bool false),(3,int i)],h:=h,m:=[] }) (e:=.normal)
    (s':={ t:=mkT 58 0 [(0,ab (l.map Cls.row)),(2,bool false),(3,int (Fs.wrap ((i : Int) + 1)))],h:=h,m:=[] }) pok
    (φ:=[decide ((i : Int) < ((l.map Cls.row).length : Int)) = true,ah i (l.map Cls.row) c.row 4,(!decide (c.earn < 0)) = true → ah i (l.map Cls.row) c.row 4,
     (!(decide (c.earn < 0) || decide (c.earn > 10000))) = true → ah i (l.map Cls.row) c.row 4,
     (!(decide (c.earn < 0) || decide (c.earn > 10000))) = true → Ev Fp Γ0 142 [.agg [int c.num,int c.den]] h (int (bi c.num c.den)) h,
     (!(decide (c.earn < 0) || decide (c.earn > 10000) || bi c.num c.den != 0)) = true → ah i (l.map Cls.row) c.row 4,
     (!(decide (c.earn < 0) || decide (c.earn > 10000) || bi c.num c.den != 0 || decide (c.num < 0))) = true → ah i (l.map Cls.row) c.row 4,
     (!(decide (c.earn < 0) || decide (c.earn > 10000) || bi c.num c.den != 0 || decide (c.num < 0))) = true → ah i (l.map Cls.row) c.row 4,aI c = false])
    [0,2,3] [.b true,.row c.row,.row c.row,.row c.row,.val (int (bi c.num c.den)),.row c.row,.row c.row,.row c.row,.b false] (by kernel_rfl)
    ⟨lt_len _ hlt,hr,fun _=>hr,fun _=>hr,fun _=>hk,fun _=>hr,fun _=>hr,fun _=>hr,hp,trivial⟩
   rw [wrap_succ hlt hs] at this
   exact this
  ·refine .inr ⟨by simp [jn ha,hp,iw],?_⟩
   simp only [jn ha,H7,hp,KH]
   exact H5 pok
    (φ:=[decide ((i : Int) < ((l.map Cls.row).length : Int)) = true,ah i (l.map Cls.row) c.row 4,(!decide (c.earn < 0)) = true → ah i (l.map Cls.row) c.row 4,
     (!(decide (c.earn < 0) || decide (c.earn > 10000))) = true → ah i (l.map Cls.row) c.row 4,
     (!(decide (c.earn < 0) || decide (c.earn > 10000))) = true → Ev Fp Γ0 142 [.agg [int c.num,int c.den]] h (int (bi c.num c.den)) h,
     (!(decide (c.earn < 0) || decide (c.earn > 10000) || bi c.num c.den != 0)) = true → ah i (l.map Cls.row) c.row 4,
     (!(decide (c.earn < 0) || decide (c.earn > 10000) || bi c.num c.den != 0 || decide (c.num < 0))) = true → ah i (l.map Cls.row) c.row 4,
     (!(decide (c.earn < 0) || decide (c.earn > 10000) || bi c.num c.den != 0 || decide (c.num < 0))) = true → ah i (l.map Cls.row) c.row 4,aI c = true])
    [2] [.b true,.row c.row,.row c.row,.row c.row,.val (int (bi c.num c.den)),.row c.row,.row c.row,.row c.row,.b true] (by kernel_rfl)
    ⟨lt_len _ hlt,hr,fun _=>hr,fun _=>hr,fun _=>hk,fun _=>hr,fun _=>hr,fun _=>hr,hp,trivial⟩
 ·have : i = l.length:=by omega
  subst this
  refine .inr ⟨by simp [iw],?_⟩
  simp only [List.drop_length,List.any_nil]
  exact H5 pok (φ:=[decide ((l.length : Int) < ((l.map Cls.row).length : Int)) = false]) [0,2] [.b false] (by kernel_rfl) ⟨aC _ l,trivial⟩
theorem uj {l : List Cls} (hl : ∀ c ∈ l,c.ok) (hs : ad l) (h : List Blk) : Ev Fp Γ0 97 [ab (l.map Cls.row)] h (bool (!l.any aI)) h:=by
 have hloop:=vu hl hs h 0 (Nat.zero_le _)
 rw [JC] at hloop
 cases hb : l.any aI
 ·rw [hb] at hloop
  exact Gz pok (φ:=[CW Fp Γ0 h false (.loop (sub K6 0)) { t:=mkT 58 0 [(0,ab (l.map Cls.row)),(2,bool false),(3,int 0)],h:=h,m:=[] } (.exit 0) { t:=mkT 58 0 [(0,ab (l.map Cls.row)),(2,bool false)],h:=h,m:=[] }])
   [.sum [0,2,3] (.exit 0) { t:=mkT 58 0 [(0,ab (l.map Cls.row)),(2,bool false)],h:=h,m:=[] }] (by kernel_rfl) ⟨hloop,trivial⟩
 ·rw [hb] at hloop
  exact Gz pok (φ:=[CW Fp Γ0 h false (.loop (sub K6 0)) { t:=mkT 58 0 [(0,ab (l.map Cls.row)),(2,bool false),(3,int 0)],h:=h,m:=[] } .ret { t:=mkT 58 0 [(2,bool false)],h:=h,m:=[] }])
   [.sum [0,2,3] .ret { t:=mkT 58 0 [(2,bool false)],h:=h,m:=[] }] (by kernel_rfl) ⟨hloop,trivial⟩
def dV (f : FeeT) : Bool:=decide (f.credits < 0) || decide (f.credits > 10000)
def lx (s : Sys) (b : Bool) : Exit × AS:=match b with
 | true=>(.ret,{ t:=mkT 37 0 [(2,int 1)],h:=[.var s.cells],m:=[] })
 | false=>(.exit 0,{ t:=mkT 37 0 [(1,.ref (.ptr 0 0)),(2,int 0)],h:=[.var s.cells],m:=[] })
theorem xy {s : Sys} (hs : s.ok) (i : Nat) (hi : i ≤ s.fees.length) :
  CW Fp Γ0 [] false (.loop (sub J6 0)) { t:=mkT 37 0 [(1,.ref (.ptr 0 0)),(2,int 0),(3,int i)],h:=[.var s.cells],m:=[] } (lx s ((s.fees.drop i).any dV)).1 (lx s ((s.fees.drop i).any dV)).2:=by
 refine K2 (ι:={ n : Nat // n ≤ s.fees.length }) (fun i=>{ t:=mkT 37 0 [(1,.ref (.ptr 0 0)),(2,int 0),(3,int i.1)],h:=[.var s.cells],m:=[] }) (fun i=>lx s ((s.fees.drop i.1).any dV)) (fun i=>s.fees.length - i.1) ?_ ⟨i,hi⟩
 rintro ⟨i,hi⟩
 by_cases hlt : i < s.fees.length
 ·have ha : s.fees[i]? = some s.fees[i]:=FK hlt
  generalize s.fees[i] = c at ha
  have hr : ah (i : Int) (s.fees.map FeeT.row) c.row 2:=rowAt ha rfl
  cases hp : dV c
  ·refine .inl ⟨⟨i + 1,hlt⟩,by simp only; omega,by simp [jn ha,hp],?_⟩
   have:=H5 (P:=Fp) (Γ:=Γ0) (h0:=[]) (rd:=false) (c:=sub J6 0) (s:={ t:=mkT 37 0 [(1,.ref (.ptr 0 0)),(2,int 0),(3,int i)],h:=[.var s.cells],m:=[] }) (e:=.normal)
    (s':={ t:=mkT 37 0 [(1,.ref (.ptr 0 0)),(2,int 0),(3,int (Fs.wrap ((i : Int) + 1)))],h:=[.var s.cells],m:=[] }) pok
    (φ:=[decide ((i : Int) < ((s.fees.map FeeT.row).length : Int)) = true,ah i (s.fees.map FeeT.row) c.row 2,(!decide (c.credits < 0)) = true → ah i (s.fees.map FeeT.row) c.row 2,dV c = false])
    [1,2,3] [.b true,.row c.row,.row c.row,.b false] (by kernel_rfl) ⟨lt_len _ hlt,hr,fun _=>hr,hp,trivial⟩
   rw [wrap_succ hlt hs.lf] at this
   exact this
  ·refine .inr ⟨by simp [jn ha,hp,lx],?_⟩
   simp only [jn ha,H7,hp,KH]
   exact H5 pok (φ:=[decide ((i : Int) < ((s.fees.map FeeT.row).length : Int)) = true,ah i (s.fees.map FeeT.row) c.row 2,(!decide (c.credits < 0)) = true → ah i (s.fees.map FeeT.row) c.row 2,dV c = true])
    [2] [.b true,.row c.row,.row c.row,.b true] (by kernel_rfl) ⟨lt_len _ hlt,hr,fun _=>hr,hp,trivial⟩
 ·have : i = s.fees.length:=by omega
  subst this
  refine .inr ⟨by simp [lx],?_⟩
  simp only [List.drop_length,List.any_nil]
  exact H5 pok (φ:=[decide ((s.fees.length : Int) < ((s.fees.map FeeT.row).length : Int)) = false]) [1,2] [.b false] (by kernel_rfl) ⟨aC _ s.fees,trivial⟩
def xz (s : Sys) : Bool:=s.fees.any dV || (!!s.classes.any aI || !!s.honours.any aI)
def jo (s : Sys) : Int:=if xz s then 1 else 0
theorem qu {s : Sys} (hs : s.ok) (h : List Blk) : Ev Fp Γ0 44 [.agg s.cells] h (int (jo s)) h:=by
 have hloop:=xy hs 0 (Nat.zero_le _)
 rw [JC] at hloop
 have h1:=uj hs.c hs.lc [.var s.cells]
 have h2:=uj hs.h hs.lh [.var s.cells]
 cases hb : s.fees.any dV
 ·rw [hb] at hloop
  cases hb2 : (!!s.classes.any aI || !!s.honours.any aI)
  ·simp only [jo,xz,hb,hb2]
   exact Gu pok (φ:=[CW Fp Γ0 [] false (.loop (sub J6 0)) { t:=mkT 37 0 [(1,.ref (.ptr 0 0)),(2,int 0),(3,int 0)],h:=[.var s.cells],m:=[] } (.exit 0) { t:=mkT 37 0 [(1,.ref (.ptr 0 0)),(2,int 0)],h:=[.var s.cells],m:=[] },
    Ev Fp Γ0 97 [ab (s.classes.map Cls.row)] [.var s.cells] (bool (!s.classes.any aI)) [.var s.cells],
    (!!!s.classes.any aI) = true → Ev Fp Γ0 97 [ab (s.honours.map Cls.row)] [.var s.cells] (bool (!s.honours.any aI)) [.var s.cells],(!!s.classes.any aI || !!s.honours.any aI) = false])
    [.sum [1,2,3] (.exit 0) { t:=mkT 37 0 [(1,.ref (.ptr 0 0)),(2,int 0)],h:=[.var s.cells],m:=[] },.val (bool (!s.classes.any aI)),.val (bool (!s.honours.any aI)),.b false] (by kernel_rfl) ⟨hloop,h1,fun _=>h2,hb2,trivial⟩ rfl rfl h
  ·simp only [jo,xz,hb,hb2]
   exact Gu pok (φ:=[CW Fp Γ0 [] false (.loop (sub J6 0)) { t:=mkT 37 0 [(1,.ref (.ptr 0 0)),(2,int 0),(3,int 0)],h:=[.var s.cells],m:=[] } (.exit 0) { t:=mkT 37 0 [(1,.ref (.ptr 0 0)),(2,int 0)],h:=[.var s.cells],m:=[] },
    Ev Fp Γ0 97 [ab (s.classes.map Cls.row)] [.var s.cells] (bool (!s.classes.any aI)) [.var s.cells],
    (!!!s.classes.any aI) = true → Ev Fp Γ0 97 [ab (s.honours.map Cls.row)] [.var s.cells] (bool (!s.honours.any aI)) [.var s.cells],(!!s.classes.any aI || !!s.honours.any aI) = true])
    [.sum [1,2,3] (.exit 0) { t:=mkT 37 0 [(1,.ref (.ptr 0 0)),(2,int 0)],h:=[.var s.cells],m:=[] },.val (bool (!s.classes.any aI)),.val (bool (!s.honours.any aI)),.b true] (by kernel_rfl) ⟨hloop,h1,fun _=>h2,hb2,trivial⟩ rfl rfl h
 ·rw [hb] at hloop
  simp only [jo,xz,hb,KH]
  exact Gu pok (φ:=[CW Fp Γ0 [] false (.loop (sub J6 0)) { t:=mkT 37 0 [(1,.ref (.ptr 0 0)),(2,int 0),(3,int 0)],h:=[.var s.cells],m:=[] } .ret { t:=mkT 37 0 [(2,int 1)],h:=[.var s.cells],m:=[] }])
    [.sum [1,2,3] .ret { t:=mkT 37 0 [(2,int 1)],h:=[.var s.cells],m:=[] }] (by kernel_rfl) ⟨hloop,trivial⟩ rfl rfl h
structure AttT where
 course : Int
 term : Int
 grade : Int
 campus : Int
 credits : Int
 deriving Inhabited
def AttT.row (a : AttT) : List Dp:=[vi a.course,vi a.term,vi a.grade,vi a.campus,vi a.credits]
theorem bc {n a b : Int} (h : List Blk) : (Ev Fp Γ0 59 [int n,int a,int b] h (bool (decide (n ≥ a) && decide (n ≤ b))) h):=by
 exact z0 [] .n h
theorem cn {n a b : Int} (h : List Blk) : (Ev Fp Γ0 87 [int n,int a,int b] h (bool (decide (n ≥ a) && decide (n ≤ b))) h):=by
 exact z0 [] .n h
theorem gA {n a b : Int} (h : List Blk) : (Ev Fp Γ0 67 [int n,int a,int b] h (bool (decide (n ≥ a) && decide (n ≤ b))) h):=by
 exact z0 [] .n h
theorem aY {n a b : Int} (h : List Blk) : (Ev Fp Γ0 113 [int n,int a,int b] h (bool (decide (n ≥ a) && decide (n ≤ b))) h):=by
 exact z0 [] .n h
theorem aJ {n a b : Int} (h : List Blk) : (Ev Fp Γ0 125 [int n,int a,int b] h (bool (decide (n ≥ a) && decide (n ≤ b))) h):=by
 exact z0 [] .n h
theorem co {n a b : Int} (h : List Blk) : (Ev Fp Γ0 164 [int n,int a,int b] h (bool (decide (n ≥ a) && decide (n ≤ b))) h):=by
 exact z0 [] .n h
noncomputable abbrev cI (a : AttT) (b : AttT) : List Blk:=[.var [int a.course,int a.term,int a.grade,int a.campus,int a.credits],.var [int b.course,int b.term,int b.grade,int b.campus,int b.credits]]
theorem iy {a b : AttT} (h : List Blk) : (Ev Fp Γ0 79 [ag a.row,ag b.row] h (int (orI (aN a.term b.term) (aN a.course b.course))) h):=by
 have hl0:=(@or_cw (aN a.term b.term) (aN a.course b.course) ([.var [int a.course,int a.term,int a.grade,int a.campus,int a.credits],.var [int b.course,int b.term,int b.grade,int b.campus,int b.credits],.vec [[int (aN a.term b.term)],[int (aN a.course b.course)]] 0 1]) ([.var [int a.course,int a.term,int a.grade,int a.campus,int a.credits],.var [int b.course,int b.term,int b.grade,int b.campus,int b.credits],.gone]))
 unfold xx at hl0
 revert hl0
 cases ho1 : aN a.term b.term != 0 with
 | false =>
  intro hl0
  revert hl0
  cases ho2 : aN a.course b.course != 0 with
  | false =>
   intro hl0
   exact zD (int 0) [.val (int (aN a.term b.term)),.val (int (aN a.course b.course)),.inl,.st (.frz 2 (orR (aN a.term b.term) (aN a.course b.course))),.sum [2,3,6,7,8] (Gf 0) { t:=mkT 18 0 [(2,int 0),(3,int 0)],h:=[.var [int a.course,int a.term,int a.grade,int a.campus,int a.credits],.var [int b.course,int b.term,int b.grade,int b.campus,int b.credits],.gone],m:=[] }] (.c (@cH (a.term) (b.term) (cI a b)) (.c (@cH (a.course) (b.course) (cI a b)) (.er [[int (aN a.term b.term)],[int (aN a.course b.course)]] (.c hl0 (.e (.ref (.ptr 0 1)) (.e (int a.term) (.e (.ref (.ptr 1 1)) (.e (int b.term) (.e (.ref (.ptr 0 0)) (.e (.ref (.ptr 0 0)) (.e (int a.course) (.e (int a.course) (.e (.ref (.ptr 1 0)) (.e (.ref (.ptr 1 0)) (.e (int b.course) (.e (int b.course) .n)))))))))))))))) h (by simp [orI,ho1,ho2])
  | true =>
   intro hl0
   exact zD (int (aN a.course b.course)) [.val (int (aN a.term b.term)),.val (int (aN a.course b.course)),.inl,.st (.frz 2 (orR (aN a.term b.term) (aN a.course b.course))),.sum [2,3,6,7,8] (Gw) { t:=mkT 18 0 [(2,int (aN a.course b.course))],h:=[.var [int a.course,int a.term,int a.grade,int a.campus,int a.credits],.var [int b.course,int b.term,int b.grade,int b.campus,int b.credits],.gone],m:=[] }] (.c (@cH (a.term) (b.term) (cI a b)) (.c (@cH (a.course) (b.course) (cI a b)) (.er [[int (aN a.term b.term)],[int (aN a.course b.course)]] (.c hl0 (.e (.ref (.ptr 0 1)) (.e (int a.term) (.e (.ref (.ptr 1 1)) (.e (int b.term) (.e (.ref (.ptr 0 0)) (.e (.ref (.ptr 0 0)) (.e (int a.course) (.e (int a.course) (.e (.ref (.ptr 1 0)) (.e (.ref (.ptr 1 0)) (.e (int b.course) (.e (int b.course) .n)))))))))))))))) h (by simp [orI,ho1,ho2])
 | true =>
  intro hl0
  exact zD (int (aN a.term b.term)) [.val (int (aN a.term b.term)),.val (int (aN a.course b.course)),.inl,.st (.frz 2 (orR (aN a.term b.term) (aN a.course b.course))),.sum [2,3,6,7,8] (Gw) { t:=mkT 18 0 [(2,int (aN a.term b.term))],h:=[.var [int a.course,int a.term,int a.grade,int a.campus,int a.credits],.var [int b.course,int b.term,int b.grade,int b.campus,int b.credits],.gone],m:=[] }] (.c (@cH (a.term) (b.term) (cI a b)) (.c (@cH (a.course) (b.course) (cI a b)) (.er [[int (aN a.term b.term)],[int (aN a.course b.course)]] (.c hl0 (.e (.ref (.ptr 0 1)) (.e (int a.term) (.e (.ref (.ptr 1 1)) (.e (int b.term) (.e (.ref (.ptr 0 0)) (.e (.ref (.ptr 0 0)) (.e (int a.course) (.e (int a.course) (.e (.ref (.ptr 1 0)) (.e (.ref (.ptr 1 0)) (.e (int b.course) (.e (int b.course) .n)))))))))))))))) h (by simp [orI,ho1])
def inB (n a b : Int) : Bool:=decide (n ≥ a) && decide (n ≤ b)
def attB (a : AttT) : Bool:=inB a.course 0 4095 && inB a.term 0 1023 && inB a.grade 0 12 && inB a.campus 0 6 && inB a.credits 0 60
noncomputable abbrev dJ (a : AttT) : List Blk:=[.var [int a.course,int a.term,int a.grade,int a.campus,int a.credits]]
theorem AM {a : AttT} (h : List Blk) : (Ev Fp Γ0 157 [ag a.row] h (bool (attB a)) h):=by
 exact z0 [.val (bool (decide (a.course ≥ 0) && decide (a.course ≤ 4095))),.val (bool (decide (a.term ≥ 0) && decide (a.term ≤ 1023))),.val (bool (decide (a.grade ≥ 0) && decide (a.grade ≤ 12))),.val (bool (decide (a.campus ≥ 0) && decide (a.campus ≤ 6))),.val (bool (decide (a.credits ≥ 0) && decide (a.credits ≤ 60)))] (.c (@co (a.course) 0 4095 (dJ a)) (.c (gd (decide (a.course ≥ 0) && decide (a.course ≤ 4095)) (@co (a.term) 0 1023 (dJ a))) (.c (gd (decide (a.course ≥ 0) && decide (a.course ≤ 4095) && (decide (a.term ≥ 0) && decide (a.term ≤ 1023))) (@co (a.grade) 0 12 (dJ a))) (.c (gd (decide (a.course ≥ 0) && decide (a.course ≤ 4095) && (decide (a.term ≥ 0) && decide (a.term ≤ 1023)) && (decide (a.grade ≥ 0) && decide (a.grade ≤ 12))) (@co (a.campus) 0 6 (dJ a))) (.c (gd (decide (a.course ≥ 0) && decide (a.course ≤ 4095) && (decide (a.term ≥ 0) && decide (a.term ≤ 1023)) && (decide (a.grade ≥ 0) && decide (a.grade ≤ 12)) && (decide (a.campus ≥ 0) && decide (a.campus ≤ 6))) (@co (a.credits) 0 60 (dJ a))) .n))))) h
noncomputable abbrev qv (a : AttT) : List Blk:=[.var [int a.course,int a.term,int a.grade,int a.campus,int a.credits]]
theorem xA {a : AttT} (h : List Blk) : (Ev Fp Γ0 156 [ag a.row] h (bool (!attB a)) h):=by
 exact z0 [.val (bool (attB a))] (.c (@AM a (qv a)) .n) h
theorem xB {a : AttT} (h : List Blk) : (Ev Fp Γ0 80 [ag a.row] h (bool (decide (a.course ≥ 0) && decide (a.course < 4096) && decide (a.term ≥ 0) && decide (a.term < 1024) && decide (a.grade ≥ 0) && decide (a.grade ≤ 12) && decide (a.campus ≥ 0) && decide (a.campus < 7) && decide (a.credits ≥ 0) && decide (a.credits ≤ 60))) h):=by
 exact z0 [] .n h
theorem ul {a b : Int} (h : List Blk) : (Ev Fp Γ0 75 [int a,int b] h (.agg [int 5,int a,int b]) h):=by
 exact z0 [] .n h
structure ClauseT where
 kind : Int
 when_ : Int
 action : Int
 til : Int
 deriving Inhabited
def ClauseT.row (a : ClauseT) : List Dp:=[vi a.kind,vi a.when_,vi a.action,vi a.til]
def xaF (p : AttT → Bool) (c : AttT) (s : Nat) : Nat ⊕ Nat:=if p c = true then .inr s else .inl (s + 1)
abbrev xaS (fs : List (List Dp)) (f : D) (h : List Blk) (i : Int) : AS:={ t:=mkT 19 0 [(0,ab fs),(1,f),(4,int 0),(7,int fs.length),(8,int i)],h:=h,m:=[] }
abbrev xaX (h : List Blk) : Nat → Exit × AS:=fun k=>(.ret,{ t:=mkT 19 0 [(4,int (k : Int))],h:=h,m:=[] })
theorem Dh {fs : List (List Dp)} {i : Nat} {c : AttT} {f : D} {h : List Blk} {p : AttT → Bool} (hr : ah (i : Int) fs (AttT.row c) 5) (hlt : decide ((i : Int) < (fs.length : Int)) = true) (hw : Fs.wrap ((i : Int) + 1) = ((i + 1 : Nat) : Int)) (hi : Iv Fp Γ0 f [ag (AttT.row c)] h (bool (p c)) h) : (CW Fp Γ0 h false (sub Tryz.f196 0) (xaS fs f h i) (ae (fun _=>xaS fs f h ((i + 1 : Nat) : Int)) (xaX h) (xaF p c i)).1 (ae (fun _=>xaS fs f h ((i + 1 : Nat) : Int)) (xaX h) (xaF p c i)).2):=by
 cases hc0 : p c
 ·refine zX { t:=mkT 19 0 [(0,ab fs),(1,f),(4,int 0),(7,int (↑(Fu fs) : Int)),(8,int (Fz Fs ((↑i : Int) + 1)))],h:=h,m:=[] } FH [.st (.mask [0,1,4,7,8])] [.b true,.row (AttT.row c),.ival (bool (p c)),.b false] (.c hlt (.c hr (.c (@hi) (.c hc0 .n)))) ?_ ?_ <;> (simp [xaF,ae, *])
 ·refine zX { t:=mkT 19 0 [(4,int (↑i : Int))],h:=h,m:=[] } Gw [.st (.mask [4])] [.b true,.row (AttT.row c),.ival (bool (p c)),.b true] (.c hlt (.c hr (.c (@hi) (.c hc0 .n)))) ?_ ?_ <;> (simp [xaF,ae, *])
theorem Di {fs : List (List Dp)} {i : Nat} {f : D} {h : List Blk} (hlt : decide ((i : Int) < (fs.length : Int)) = false) : (CW Fp Γ0 h false (sub Tryz.f196 0) (xaS fs f h i) (.exit 0) { t:=mkT 19 0 [(4,int 0)],h:=h,m:=[] }):=by
 exact zx [.st (.mask [4])] [.b false] (.c hlt .n)
def xaR (p : AttT → Bool) (l : List AttT) : Int:=match forL (xaF p) l 0 with | .inl _ => -1 | .inr k=>(k : Int)
def Dj (h : List Blk) (p : AttT → Bool) (l : List AttT) : Exit × AS:=aV (.exit 0) (fun _ : Nat=>{ t:=mkT 19 0 [(4,int 0)],h:=h,m:=[] }) (xaX h) (forL (xaF p) l 0)
theorem xa_cw {l : List AttT} (hl : ad l) {f : D} {h : List Blk} {p : AttT → Bool} (hf : ∀ c ∈ l,Iv Fp Γ0 f [ag (AttT.row c)] h (bool (p c)) h) :
  CW Fp Γ0 h false (.loop (sub Tryz.f196 0)) (xaS (l.map AttT.row) f h 0) (Dj h p l).1 (Dj h p l).2:=by
 refine Ha l (xaF p) (fun i _=>xaS (l.map AttT.row) f h (i : Int)) (.exit 0) _ (xaX h) (fun i s=>s = i) (by simp) (fun _=>by simp) ?_ ?_ 0 rfl
 ·intro i c s hc hs
  subst hs
  have hi:=(Fy.1 hc).1
  refine ⟨fun s' h=>?_,Dh (rowAt hc rfl) (lt_len AttT.row hi) (wrap_succ hi hl) (hf c (FV hc))⟩
  unfold xaF at h
  split at h <;> simp at h
  exact h.symm
 ·intro s hs
  exact Di (aC AttT.row l)
theorem xai_ev {l : List AttT} (hl : ad l) {f : D} {h : List Blk} {p : AttT → Bool} (hf : ∀ c ∈ l,Iv Fp Γ0 f [ag (AttT.row c)] h (bool (p c)) h) : (Ev Fp Γ0 196 [ab (l.map AttT.row),f] h (int (xaR p l)) h):=by
 have hl0:=(@xa_cw (l) (hl) (f) (h) (p) (hf))
 unfold Dj at hl0
 revert hl0
 cases ho1 : forL (xaF p) l 0 with
 | inl o1_0_0 =>
  intro hl0
  exact FP (Gz (h':=h) (d:=int (-1)) pok [.sum [0,1,4,7,8] (Gf 0) { t:=mkT 19 0 [(4,int 0)],h:=h,m:=[] }] (by kernel_rfl) (.c hl0 .n)) (by simp [xaR,ho1]) (by simp [])
 | inr o1_1_0 =>
  intro hl0
  exact FP (Gz (h':=h) (d:=int (↑o1_1_0 : Int)) pok [.sum [0,1,4,7,8] (Gw) { t:=mkT 19 0 [(4,int (↑o1_1_0 : Int))],h:=h,m:=[] }] (by kernel_rfl) (.c hl0 .n)) (by simp [xaR,ho1]) (by simp [])
theorem xa_any (p : AttT → Bool) (l : List AttT) : ∀ k : Nat,(match forL (xaF p) l k with | .inl _=>false | .inr _=>true) = l.any p:=by
 induction l with
 | nil=>intro k; rfl
 | cons f l ih =>
  intro k
  rw [H7]
  cases hf : p f
  ·simp only [forL,xaF,hf,Gi,if_false,HC]
   exact ih (k + 1)
  ·simp [forL,xaF,hf]
theorem xaR_ge (p : AttT → Bool) (l : List AttT) : decide (xaR p l ≥ 0) = l.any p:=by
 rw [← xa_any p l 0,xaR]
 split <;> simp
theorem Cg {l : List AttT} (hl : ad l) {f : D} {h : List Blk} {p : AttT → Bool} (hf : ∀ c ∈ l,Iv Fp Γ0 f [ag (AttT.row c)] h (bool (p c)) h) : (Ev Fp Γ0 155 [ab (l.map AttT.row),f] h (bool (l.any p)) h):=by
 refine FP (Gz (h':=h) (d:=bool (decide (xaR p l ≥ 0))) pok [.val (int (xaR p l))] (by kernel_rfl) (.c (@xai_ev l hl f h p hf) .n)) ?_ ?_ <;> (first | rfl | rw [← xaR_ge])
def xcF (p : Cls → Bool) (c : Cls) (s : Nat) : Nat ⊕ Nat:=if p c = true then .inr s else .inl (s + 1)
abbrev xcS (fs : List (List Dp)) (f : D) (h : List Blk) (i : Int) : AS:={ t:=mkT 19 0 [(0,ab fs),(1,f),(4,int 0),(7,int fs.length),(8,int i)],h:=h,m:=[] }
abbrev xcX (h : List Blk) : Nat → Exit × AS:=fun k=>(.ret,{ t:=mkT 19 0 [(4,int (k : Int))],h:=h,m:=[] })
theorem Dk {fs : List (List Dp)} {i : Nat} {c : Cls} {f : D} {h : List Blk} {p : Cls → Bool} (hr : ah (i : Int) fs (Cls.row c) 4) (hlt : decide ((i : Int) < (fs.length : Int)) = true) (hw : Fs.wrap ((i : Int) + 1) = ((i + 1 : Nat) : Int)) (hi : Iv Fp Γ0 f [ag (Cls.row c)] h (bool (p c)) h) : (CW Fp Γ0 h false (sub Tryz.f223 0) (xcS fs f h i) (ae (fun _=>xcS fs f h ((i + 1 : Nat) : Int)) (xcX h) (xcF p c i)).1 (ae (fun _=>xcS fs f h ((i + 1 : Nat) : Int)) (xcX h) (xcF p c i)).2):=by
 cases hc0 : p c
 ·refine zX { t:=mkT 19 0 [(0,ab fs),(1,f),(4,int 0),(7,int (↑(Fu fs) : Int)),(8,int (Fz Fs ((↑i : Int) + 1)))],h:=h,m:=[] } FH [.st (.mask [0,1,4,7,8])] [.b true,.row [vs c.name,vi c.earn,vi c.num,vi c.den],.ival (bool (p c)),.b false] (.c hlt (.c hr (.c (@hi) (.c hc0 .n)))) ?_ ?_ <;> (simp [xcF,ae, *])
 ·refine zX { t:=mkT 19 0 [(4,int (↑i : Int))],h:=h,m:=[] } Gw [.st (.mask [4])] [.b true,.row [vs c.name,vi c.earn,vi c.num,vi c.den],.ival (bool (p c)),.b true] (.c hlt (.c hr (.c (@hi) (.c hc0 .n)))) ?_ ?_ <;> (simp [xcF,ae, *])
theorem Dl {fs : List (List Dp)} {i : Nat} {f : D} {h : List Blk} (hlt : decide ((i : Int) < (fs.length : Int)) = false) : (CW Fp Γ0 h false (sub Tryz.f223 0) (xcS fs f h i) (.exit 0) { t:=mkT 19 0 [(4,int 0)],h:=h,m:=[] }):=by
 exact zx [.st (.mask [4])] [.b false] (.c hlt .n)
def xcR (p : Cls → Bool) (l : List Cls) : Int:=match forL (xcF p) l 0 with | .inl _ => -1 | .inr k=>(k : Int)
def Dm (h : List Blk) (p : Cls → Bool) (l : List Cls) : Exit × AS:=aV (.exit 0) (fun _ : Nat=>{ t:=mkT 19 0 [(4,int 0)],h:=h,m:=[] }) (xcX h) (forL (xcF p) l 0)
theorem xc_cw {l : List Cls} (hl : ad l) {f : D} {h : List Blk} {p : Cls → Bool} (hf : ∀ c ∈ l,Iv Fp Γ0 f [ag (Cls.row c)] h (bool (p c)) h) :
  CW Fp Γ0 h false (.loop (sub Tryz.f223 0)) (xcS (l.map Cls.row) f h 0) (Dm h p l).1 (Dm h p l).2:=by
 refine Ha l (xcF p) (fun i _=>xcS (l.map Cls.row) f h (i : Int)) (.exit 0) _ (xcX h) (fun i s=>s = i) (by simp) (fun _=>by simp) ?_ ?_ 0 rfl
 ·intro i c s hc hs
  subst hs
  have hi:=(Fy.1 hc).1
  refine ⟨fun s' h=>?_,Dk (rowAt hc rfl) (lt_len Cls.row hi) (wrap_succ hi hl) (hf c (FV hc))⟩
  unfold xcF at h
  split at h <;> simp at h
  exact h.symm
 ·intro s hs
  exact Dl (aC Cls.row l)
theorem xci_ev {l : List Cls} (hl : ad l) {f : D} {h : List Blk} {p : Cls → Bool} (hf : ∀ c ∈ l,Iv Fp Γ0 f [ag (Cls.row c)] h (bool (p c)) h) : (Ev Fp Γ0 223 [ab (l.map Cls.row),f] h (int (xcR p l)) h):=by
 have hl0:=(@xc_cw (l) (hl) (f) (h) (p) (hf))
 unfold Dm at hl0
 revert hl0
 cases ho1 : forL (xcF p) l 0 with
 | inl o1_0_0 =>
  intro hl0
  exact FP (Gz (h':=h) (d:=int (-1)) pok [.sum [0,1,4,7,8] (Gf 0) { t:=mkT 19 0 [(4,int 0)],h:=h,m:=[] }] (by kernel_rfl) (.c hl0 .n)) (by simp [xcR,ho1]) (by simp [])
 | inr o1_1_0 =>
  intro hl0
  exact FP (Gz (h':=h) (d:=int (↑o1_1_0 : Int)) pok [.sum [0,1,4,7,8] (Gw) { t:=mkT 19 0 [(4,int (↑o1_1_0 : Int))],h:=h,m:=[] }] (by kernel_rfl) (.c hl0 .n)) (by simp [xcR,ho1]) (by simp [])
theorem xc_any (p : Cls → Bool) (l : List Cls) : ∀ k : Nat,(match forL (xcF p) l k with | .inl _=>false | .inr _=>true) = l.any p:=by
 induction l with
 | nil=>intro k; rfl
 | cons f l ih =>
  intro k
  rw [H7]
  cases hf : p f
  ·simp only [forL,xcF,hf,Gi,if_false,HC]
   exact ih (k + 1)
  ·simp [forL,xcF,hf]
theorem xcR_ge (p : Cls → Bool) (l : List Cls) : decide (xcR p l ≥ 0) = l.any p:=by
 rw [← xc_any p l 0,xcR]
 split <;> simp
theorem xcc_ev {l : List Cls} (hl : ad l) {f : D} {h : List Blk} {p : Cls → Bool} (hf : ∀ c ∈ l,Iv Fp Γ0 f [ag (Cls.row c)] h (bool (p c)) h) : (Ev Fp Γ0 190 [ab (l.map Cls.row),f] h (bool (l.any p)) h):=by
 refine FP (Gz (h':=h) (d:=bool (decide (xcR p l ≥ 0))) pok [.val (int (xcR p l))] (by kernel_rfl) (.c (@xci_ev l hl f h p hf) .n)) ?_ ?_ <;> (first | rfl | rw [← xcR_ge])
def xfF (p : FeeT → Bool) (c : FeeT) (s : Nat) : Nat ⊕ Nat:=if p c = true then .inr s else .inl (s + 1)
abbrev xfS (fs : List (List Dp)) (f : D) (h : List Blk) (i : Int) : AS:={ t:=mkT 19 0 [(0,ab fs),(1,f),(4,int 0),(7,int fs.length),(8,int i)],h:=h,m:=[] }
abbrev xfX (h : List Blk) : Nat → Exit × AS:=fun k=>(.ret,{ t:=mkT 19 0 [(4,int (k : Int))],h:=h,m:=[] })
theorem Dn {fs : List (List Dp)} {i : Nat} {c : FeeT} {f : D} {h : List Blk} {p : FeeT → Bool} (hr : ah (i : Int) fs (FeeT.row c) 2) (hlt : decide ((i : Int) < (fs.length : Int)) = true) (hw : Fs.wrap ((i : Int) + 1) = ((i + 1 : Nat) : Int)) (hi : Iv Fp Γ0 f [ag (FeeT.row c)] h (bool (p c)) h) : (CW Fp Γ0 h false (sub Tryz.f224 0) (xfS fs f h i) (ae (fun _=>xfS fs f h ((i + 1 : Nat) : Int)) (xfX h) (xfF p c i)).1 (ae (fun _=>xfS fs f h ((i + 1 : Nat) : Int)) (xfX h) (xfF p c i)).2):=by
 cases hc0 : p c
 ·refine zX { t:=mkT 19 0 [(0,ab fs),(1,f),(4,int 0),(7,int (↑(Fu fs) : Int)),(8,int (Fz Fs ((↑i : Int) + 1)))],h:=h,m:=[] } FH [.st (.mask [0,1,4,7,8])] [.b true,.row [vs c.name,vi c.credits],.ival (bool (p c)),.b false] (.c hlt (.c hr (.c (@hi) (.c hc0 .n)))) ?_ ?_ <;> (simp [xfF,ae, *])
 ·refine zX { t:=mkT 19 0 [(4,int (↑i : Int))],h:=h,m:=[] } Gw [.st (.mask [4])] [.b true,.row [vs c.name,vi c.credits],.ival (bool (p c)),.b true] (.c hlt (.c hr (.c (@hi) (.c hc0 .n)))) ?_ ?_ <;> (simp [xfF,ae, *])
theorem Dq {fs : List (List Dp)} {i : Nat} {f : D} {h : List Blk} (hlt : decide ((i : Int) < (fs.length : Int)) = false) : (CW Fp Γ0 h false (sub Tryz.f224 0) (xfS fs f h i) (.exit 0) { t:=mkT 19 0 [(4,int 0)],h:=h,m:=[] }):=by
 exact zx [.st (.mask [4])] [.b false] (.c hlt .n)
def xfR (p : FeeT → Bool) (l : List FeeT) : Int:=match forL (xfF p) l 0 with | .inl _ => -1 | .inr k=>(k : Int)
def Dr (h : List Blk) (p : FeeT → Bool) (l : List FeeT) : Exit × AS:=aV (.exit 0) (fun _ : Nat=>{ t:=mkT 19 0 [(4,int 0)],h:=h,m:=[] }) (xfX h) (forL (xfF p) l 0)
theorem xf_cw {l : List FeeT} (hl : ad l) {f : D} {h : List Blk} {p : FeeT → Bool} (hf : ∀ c ∈ l,Iv Fp Γ0 f [ag (FeeT.row c)] h (bool (p c)) h) :
  CW Fp Γ0 h false (.loop (sub Tryz.f224 0)) (xfS (l.map FeeT.row) f h 0) (Dr h p l).1 (Dr h p l).2:=by
 refine Ha l (xfF p) (fun i _=>xfS (l.map FeeT.row) f h (i : Int)) (.exit 0) _ (xfX h) (fun i s=>s = i) (by simp) (fun _=>by simp) ?_ ?_ 0 rfl
 ·intro i c s hc hs
  subst hs
  have hi:=(Fy.1 hc).1
  refine ⟨fun s' h=>?_,Dn (rowAt hc rfl) (lt_len FeeT.row hi) (wrap_succ hi hl) (hf c (FV hc))⟩
  unfold xfF at h
  split at h <;> simp at h
  exact h.symm
 ·intro s hs
  exact Dq (aC FeeT.row l)
theorem xfi_ev {l : List FeeT} (hl : ad l) {f : D} {h : List Blk} {p : FeeT → Bool} (hf : ∀ c ∈ l,Iv Fp Γ0 f [ag (FeeT.row c)] h (bool (p c)) h) : (Ev Fp Γ0 224 [ab (l.map FeeT.row),f] h (int (xfR p l)) h):=by
 have hl0:=(@xf_cw (l) (hl) (f) (h) (p) (hf))
 unfold Dr at hl0
 revert hl0
 cases ho1 : forL (xfF p) l 0 with
 | inl o1_0_0 =>
  intro hl0
  exact FP (Gz (h':=h) (d:=int (-1)) pok [.sum [0,1,4,7,8] (Gf 0) { t:=mkT 19 0 [(4,int 0)],h:=h,m:=[] }] (by kernel_rfl) (.c hl0 .n)) (by simp [xfR,ho1]) (by simp [])
 | inr o1_1_0 =>
  intro hl0
  exact FP (Gz (h':=h) (d:=int (↑o1_1_0 : Int)) pok [.sum [0,1,4,7,8] (Gw) { t:=mkT 19 0 [(4,int (↑o1_1_0 : Int))],h:=h,m:=[] }] (by kernel_rfl) (.c hl0 .n)) (by simp [xfR,ho1]) (by simp [])
theorem xf_any (p : FeeT → Bool) (l : List FeeT) : ∀ k : Nat,(match forL (xfF p) l k with | .inl _=>false | .inr _=>true) = l.any p:=by
 induction l with
 | nil=>intro k; rfl
 | cons f l ih =>
  intro k
  rw [H7]
  cases hf : p f
  ·simp only [forL,xfF,hf,Gi,if_false,HC]
   exact ih (k + 1)
  ·simp [forL,xfF,hf]
theorem xfR_ge (p : FeeT → Bool) (l : List FeeT) : decide (xfR p l ≥ 0) = l.any p:=by
 rw [← xf_any p l 0,xfR]
 split <;> simp
theorem xfc_ev {l : List FeeT} (hl : ad l) {f : D} {h : List Blk} {p : FeeT → Bool} (hf : ∀ c ∈ l,Iv Fp Γ0 f [ag (FeeT.row c)] h (bool (p c)) h) : (Ev Fp Γ0 192 [ab (l.map FeeT.row),f] h (bool (l.any p)) h):=by
 refine FP (Gz (h':=h) (d:=bool (decide (xfR p l ≥ 0))) pok [.val (int (xfR p l))] (by kernel_rfl) (.c (@xfi_ev l hl f h p hf) .n)) ?_ ?_ <;> (first | rfl | rw [← xfR_ge])
def xlF (p : ClauseT → Bool) (c : ClauseT) (s : Nat) : Nat ⊕ Nat:=if p c = true then .inr s else .inl (s + 1)
abbrev xlS (fs : List (List Dp)) (f : D) (h : List Blk) (i : Int) : AS:={ t:=mkT 19 0 [(0,ab fs),(1,f),(4,int 0),(7,int fs.length),(8,int i)],h:=h,m:=[] }
abbrev xlX (h : List Blk) : Nat → Exit × AS:=fun k=>(.ret,{ t:=mkT 19 0 [(4,int (k : Int))],h:=h,m:=[] })
theorem Ds {fs : List (List Dp)} {i : Nat} {c : ClauseT} {f : D} {h : List Blk} {p : ClauseT → Bool} (hr : ah (i : Int) fs (ClauseT.row c) 4) (hlt : decide ((i : Int) < (fs.length : Int)) = true) (hw : Fs.wrap ((i : Int) + 1) = ((i + 1 : Nat) : Int)) (hi : Iv Fp Γ0 f [ag (ClauseT.row c)] h (bool (p c)) h) : (CW Fp Γ0 h false (sub Tryz.f225 0) (xlS fs f h i) (ae (fun _=>xlS fs f h ((i + 1 : Nat) : Int)) (xlX h) (xlF p c i)).1 (ae (fun _=>xlS fs f h ((i + 1 : Nat) : Int)) (xlX h) (xlF p c i)).2):=by
 cases hc0 : p c
 ·refine zX { t:=mkT 19 0 [(0,ab fs),(1,f),(4,int 0),(7,int (↑(Fu fs) : Int)),(8,int (Fz Fs ((↑i : Int) + 1)))],h:=h,m:=[] } FH [.st (.mask [0,1,4,7,8])] [.b true,.row [vi c.kind,vi c.when_,vi c.action,vi c.til],.ival (bool (p c)),.b false] (.c hlt (.c hr (.c (@hi) (.c hc0 .n)))) ?_ ?_ <;> (simp [xlF,ae, *])
 ·refine zX { t:=mkT 19 0 [(4,int (↑i : Int))],h:=h,m:=[] } Gw [.st (.mask [4])] [.b true,.row [vi c.kind,vi c.when_,vi c.action,vi c.til],.ival (bool (p c)),.b true] (.c hlt (.c hr (.c (@hi) (.c hc0 .n)))) ?_ ?_ <;> (simp [xlF,ae, *])
theorem Dt {fs : List (List Dp)} {i : Nat} {f : D} {h : List Blk} (hlt : decide ((i : Int) < (fs.length : Int)) = false) : (CW Fp Γ0 h false (sub Tryz.f225 0) (xlS fs f h i) (.exit 0) { t:=mkT 19 0 [(4,int 0)],h:=h,m:=[] }):=by
 exact zx [.st (.mask [4])] [.b false] (.c hlt .n)
def xlR (p : ClauseT → Bool) (l : List ClauseT) : Int:=match forL (xlF p) l 0 with | .inl _ => -1 | .inr k=>(k : Int)
def Du (h : List Blk) (p : ClauseT → Bool) (l : List ClauseT) : Exit × AS:=aV (.exit 0) (fun _ : Nat=>{ t:=mkT 19 0 [(4,int 0)],h:=h,m:=[] }) (xlX h) (forL (xlF p) l 0)
theorem xl_cw {l : List ClauseT} (hl : ad l) {f : D} {h : List Blk} {p : ClauseT → Bool} (hf : ∀ c ∈ l,Iv Fp Γ0 f [ag (ClauseT.row c)] h (bool (p c)) h) :
  CW Fp Γ0 h false (.loop (sub Tryz.f225 0)) (xlS (l.map ClauseT.row) f h 0) (Du h p l).1 (Du h p l).2:=by
 refine Ha l (xlF p) (fun i _=>xlS (l.map ClauseT.row) f h (i : Int)) (.exit 0) _ (xlX h) (fun i s=>s = i) (by simp) (fun _=>by simp) ?_ ?_ 0 rfl
 ·intro i c s hc hs
  subst hs
  have hi:=(Fy.1 hc).1
  refine ⟨fun s' h=>?_,Ds (rowAt hc rfl) (lt_len ClauseT.row hi) (wrap_succ hi hl) (hf c (FV hc))⟩
  unfold xlF at h
  split at h <;> simp at h
  exact h.symm
 ·intro s hs
  exact Dt (aC ClauseT.row l)
theorem xli_ev {l : List ClauseT} (hl : ad l) {f : D} {h : List Blk} {p : ClauseT → Bool} (hf : ∀ c ∈ l,Iv Fp Γ0 f [ag (ClauseT.row c)] h (bool (p c)) h) : (Ev Fp Γ0 225 [ab (l.map ClauseT.row),f] h (int (xlR p l)) h):=by
 have hl0:=(@xl_cw (l) (hl) (f) (h) (p) (hf))
 unfold Du at hl0
 revert hl0
 cases ho1 : forL (xlF p) l 0 with
 | inl o1_0_0 =>
  intro hl0
  exact FP (Gz (h':=h) (d:=int (-1)) pok [.sum [0,1,4,7,8] (Gf 0) { t:=mkT 19 0 [(4,int 0)],h:=h,m:=[] }] (by kernel_rfl) (.c hl0 .n)) (by simp [xlR,ho1]) (by simp [])
 | inr o1_1_0 =>
  intro hl0
  exact FP (Gz (h':=h) (d:=int (↑o1_1_0 : Int)) pok [.sum [0,1,4,7,8] (Gw) { t:=mkT 19 0 [(4,int (↑o1_1_0 : Int))],h:=h,m:=[] }] (by kernel_rfl) (.c hl0 .n)) (by simp [xlR,ho1]) (by simp [])
theorem xl_any (p : ClauseT → Bool) (l : List ClauseT) : ∀ k : Nat,(match forL (xlF p) l k with | .inl _=>false | .inr _=>true) = l.any p:=by
 induction l with
 | nil=>intro k; rfl
 | cons f l ih =>
  intro k
  rw [H7]
  cases hf : p f
  ·simp only [forL,xlF,hf,Gi,if_false,HC]
   exact ih (k + 1)
  ·simp [forL,xlF,hf]
theorem xlR_ge (p : ClauseT → Bool) (l : List ClauseT) : decide (xlR p l ≥ 0) = l.any p:=by
 rw [← xl_any p l 0,xlR]
 split <;> simp
theorem xlc_ev {l : List ClauseT} (hl : ad l) {f : D} {h : List Blk} {p : ClauseT → Bool} (hf : ∀ c ∈ l,Iv Fp Γ0 f [ag (ClauseT.row c)] h (bool (p c)) h) : (Ev Fp Γ0 194 [ab (l.map ClauseT.row),f] h (bool (l.any p)) h):=by
 refine FP (Gz (h':=h) (d:=bool (decide (xlR p l ≥ 0))) pok [.val (int (xlR p l))] (by kernel_rfl) (.c (@xli_ev l hl f h p hf) .n)) ?_ ?_ <;> (first | rfl | rw [← xlR_ge])
def mj (c : Cls) : Bool:=inB c.earn 0 10000 && (bi c.num c.den == 0 && inB c.num 0 (Fs.wrap (12 * c.den)))
theorem AN {a b : Int} (ha : I64 a) (hb : I64 b) (h : List Blk) : (Ev Fp Γ0 149 [.agg [int a,int b]] h (bool (bi a b == 0 && inB a 0 (Fs.wrap (12 * b)))) h):=by
 exact z0 [.val (int (bi a b)),.val (bool (decide (a ≥ 0) && decide (a ≤ Fz Fs (12 * b))))] (.c (@dT a b ha hb ([.var [int a,int b]])) (.c (gd (bi a b == 0) (@cn a 0 (Fz Fs (12 * b)) ([.var [int a,int b]]))) .n)) h
theorem Dv {c : Cls} (hc : c.ok) (h : List Blk) : (Ev Fp Γ0 148 [ag c.row] h (bool (mj c)) h):=by
 refine z0 [.val (bool (decide (c.earn ≥ 0) && decide (c.earn ≤ 10000))),.val (bool (bi c.num c.den == 0 && inB c.num 0 (Fz Fs (12 * c.den))))] (.c (@cn (c.earn) 0 10000 ([.var [ak c.name,int c.earn,int c.num,int c.den]])) (.c (gd (decide (c.earn ≥ 0) && decide (c.earn ≤ 10000)) (@AN (c.num) (c.den) ?_ ?_ ([.var [ak c.name,int c.earn,int c.num,int c.den]]))) .n)) h <;> (first | exact hc.2.1 | exact hc.2.2)
def ek (c : FeeT) : Bool:=inB c.credits 0 10000
theorem Dw {c : FeeT} (h : List Blk) : (Ev Fp Γ0 150 [ag c.row] h (bool (ek c)) h):=by
 exact z0 [.val (bool (decide (c.credits ≥ 0) && decide (c.credits ≤ 10000)))] (.c (@cn (c.credits) 0 10000 ([.var [ak c.name,int c.credits]])) .n) h
def l6 (c : ClauseT) : Bool:=inB c.kind 1 5 && inB c.when_ 0 2 && inB c.action 1 3 && inB c.til 0 12
theorem bcl_ev {c : ClauseT} (h : List Blk) : (Ev Fp Γ0 151 [ag c.row] h (bool (l6 c)) h):=by
 let v0 : List Blk:=[.var [int c.kind,int c.when_,int c.action,int c.til]]
 exact z0 [.val (bool (decide (c.kind ≥ 1) && decide (c.kind ≤ 5))),.val (bool (decide (c.when_ ≥ 0) && decide (c.when_ ≤ 2))),.val (bool (decide (c.action ≥ 1) && decide (c.action ≤ 3))),.val (bool (decide (c.til ≥ 0) && decide (c.til ≤ 12)))] (.c (@cn (c.kind) 1 5 (v0)) (.c (gd (decide (c.kind ≥ 1) && decide (c.kind ≤ 5)) (@cn (c.when_) 0 2 (v0))) (.c (gd (decide (c.kind ≥ 1) && decide (c.kind ≤ 5) && (decide (c.when_ ≥ 0) && decide (c.when_ ≤ 2))) (@cn (c.action) 1 3 (v0))) (.c (gd (decide (c.kind ≥ 1) && decide (c.kind ≤ 5) && (decide (c.when_ ≥ 0) && decide (c.when_ ≤ 2)) && (decide (c.action ≥ 1) && decide (c.action ≤ 3))) (@cn (c.til) 0 12 (v0))) .n)))) h
noncomputable abbrev qw (c : Cls) : List Blk:=[.var [fq 148],.var [ak c.name,int c.earn,int c.num,int c.den]]
theorem xC {c : Cls} (hc : c.ok) : (Ev Fp Γ0 191 [ag (Cls.row c),.ref (.ptr 0 0)] [.var [fnv 148]] (bool (!mj c)) [.var [fnv 148]]):=by
 exact FP (IY (h':=[.var [fq 148]]) (d:=bool !mj c) pok [.val (bool (mj c))] (by kernel_rfl) (.c (@Dv c hc (qw c)) .n)) (by rfl) (by rfl)
theorem qx {l : List Cls} (ha : ∀ c ∈ l,c.ok) : ∀ c ∈ l,Iv Fp Γ0 (.fn (.func 191) [] [.ref (.ptr 0 0)]) [ag (Cls.row c)] [.var [fnv 148]] (bool (!mj c)) [.var [fnv 148]]:=fun c hm=>Lz pok rfl (by kernel_rfl) (xC (ha c hm))
noncomputable abbrev qy : List Blk:=[.var [fq 148]]
theorem qz {l : List Cls} (hl : ad l) (ha : ∀ c ∈ l,c.ok) (hf : ∀ c ∈ l,Iv Fp Γ0 (.fn (.func 191) [] [.ref (.ptr 0 0)]) [ag (Cls.row c)] [.var [fnv 148]] (bool (!mj c)) [.var [fnv 148]]) (h : List Blk) : (Ev Fp Γ0 152 [ab (l.map Cls.row),fnv 148] h (bool (!l.any fun c=>!mj c)) h):=by
 exact z0 [.val (bool (HP l fun c=>!mj c))] (.c (@xcc_ev l hl (D.fn (Fn.func 191) [] [.ref (.ptr 0 0)]) qy (fun c=>!mj c) hf) .n) h
noncomputable abbrev qA (c : FeeT) : List Blk:=[.var [fq 150],.var [ak c.name,int c.credits]]
theorem xD {c : FeeT} : (Ev Fp Γ0 193 [ag (FeeT.row c),.ref (.ptr 0 0)] [.var [fnv 150]] (bool (!ek c)) [.var [fnv 150]]):=by
 exact FP (IY (h':=[.var [fq 150]]) (d:=bool !ek c) pok [.val (bool (ek c))] (by kernel_rfl) (.c (@Dw c (qA c)) .n)) (by rfl) (by rfl)
theorem xE {l : List FeeT} : ∀ c ∈ l,Iv Fp Γ0 (.fn (.func 193) [] [.ref (.ptr 0 0)]) [ag (FeeT.row c)] [.var [fnv 150]] (bool (!ek c)) [.var [fnv 150]]:=fun c hm=>Lz pok rfl (by kernel_rfl) (xD )
noncomputable abbrev qB : List Blk:=[.var [fq 150]]
theorem xF {l : List FeeT} (hl : ad l) (hf : ∀ c ∈ l,Iv Fp Γ0 (.fn (.func 193) [] [.ref (.ptr 0 0)]) [ag (FeeT.row c)] [.var [fnv 150]] (bool (!ek c)) [.var [fnv 150]]) (h : List Blk) : (Ev Fp Γ0 153 [ab (l.map FeeT.row),fnv 150] h (bool (!l.any fun c=>!ek c)) h):=by
 exact z0 [.val (bool (HP l fun c=>!ek c))] (.c (@xfc_ev l hl (D.fn (Fn.func 193) [] [.ref (.ptr 0 0)]) qB (fun c=>!ek c) hf) .n) h
noncomputable abbrev qC (c : ClauseT) : List Blk:=[.var [fq 151],.var [int c.kind,int c.when_,int c.action,int c.til]]
theorem xG {c : ClauseT} : (Ev Fp Γ0 195 [ag (ClauseT.row c),.ref (.ptr 0 0)] [.var [fnv 151]] (bool (!l6 c)) [.var [fnv 151]]):=by
 exact FP (IY (h':=[.var [fq 151]]) (d:=bool !l6 c) pok [.val (bool (l6 c))] (by kernel_rfl) (.c (@bcl_ev c (qC c)) .n)) (by rfl) (by rfl)
theorem xH {l : List ClauseT} : ∀ c ∈ l,Iv Fp Γ0 (.fn (.func 195) [] [.ref (.ptr 0 0)]) [ag (ClauseT.row c)] [.var [fnv 151]] (bool (!l6 c)) [.var [fnv 151]]:=fun c hm=>Lz pok rfl (by kernel_rfl) (xG )
noncomputable abbrev qD : List Blk:=[.var [fq 151]]
theorem xI {l : List ClauseT} (hl : ad l) (hf : ∀ c ∈ l,Iv Fp Γ0 (.fn (.func 195) [] [.ref (.ptr 0 0)]) [ag (ClauseT.row c)] [.var [fnv 151]] (bool (!l6 c)) [.var [fnv 151]]) (h : List Blk) : (Ev Fp Γ0 154 [ab (l.map ClauseT.row),fnv 151] h (bool (!l.any fun c=>!l6 c)) h):=by
 exact z0 [.val (bool (HP l fun c=>!l6 c))] (.c (@xlc_ev l hl (D.fn (Fn.func 195) [] [.ref (.ptr 0 0)]) qD (fun c=>!l6 c) hf) .n) h
structure SysT where
 classes : List Cls
 fees : List FeeT
 honours : List Cls
 clauses : List ClauseT
 deriving Inhabited
def SysT.sys (s : SysT) : Vi.Sys:=⟨s.classes,s.fees,s.honours,s.clauses.map ClauseT.row⟩
def SysT.row (s : SysT) : List Dp:=[.sl (s.classes.map Cls.row),.sl (s.fees.map FeeT.row),.sl (s.honours.map Cls.row),.sl (s.clauses.map ClauseT.row)]
def SysT.ok (s : SysT) : Prop:=s.sys.ok
theorem SysT.ok.sl {s : SysT} (h : s.ok) : ad s.clauses:=by have:=h.ll; simpa [ad,SysT.sys] using this
def na (s : SysT) : Bool:=(!s.classes.any fun c=>!mj c) && (!s.honours.any fun c=>!mj c) && (!s.fees.any fun c=>!ek c) && (!s.clauses.any fun c=>!l6 c)
noncomputable abbrev cR (s : SysT) : List Blk:=[.var [ab (Fo Cls.row s.classes),ab (Fo FeeT.row s.fees),ab (Fo Cls.row s.honours),ab (Fo ClauseT.row s.clauses)]]
theorem ly {s : SysT} (hs : s.ok) (h : List Blk) : (Ev Fp Γ0 105 [ag s.row] h (bool (na s)) h):=by
 refine z0 [.val (bool !HP s.classes fun c=>!mj c),.val (bool !HP s.honours fun c=>!mj c),.val (bool !HP s.fees fun c=>!ek c),.val (bool !HP s.clauses fun c=>!l6 c)] (.c (@qz (s.classes) ?_ ?_ ?_ (cR s)) (.c (gd (!HP s.classes fun c=>!mj c) (@qz (s.honours) ?_ ?_ ?_ (cR s))) (.c (gd ((!HP s.classes fun c=>!mj c) && !HP s.honours fun c=>!mj c) (@xF (s.fees) ?_ ?_ (cR s))) (.c (gd (((!HP s.classes fun c=>!mj c) && !HP s.honours fun c=>!mj c) && !HP s.fees fun c=>!ek c) (@xI (s.clauses) ?_ ?_ (cR s))) .n)))) h <;> (first | exact hs.lc | exact hs.lh | exact hs.lf | exact hs.sl | exact hs.c | exact hs.h | exact qx hs.c | exact qx hs.h | exact xE | exact xH)
end Go.Vi
