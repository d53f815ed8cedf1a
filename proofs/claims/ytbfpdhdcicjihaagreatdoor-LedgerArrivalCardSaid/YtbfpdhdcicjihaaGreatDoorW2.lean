/- LedgerArrival: part of the proof: contracts of the functions that the law reaches, and the law. No conditions beyond the given statement's own. -/
import Derived.Test.YtbfpdhdcicjihaaGreatDoorW1
open Decidable renaming decide → Qd
open Go.Proofs.Tryz renaming prog → GV, f110 → Ll, f98 → Mf, f66 → JF
open Go.Vi.D renaming agg → Hc, tup → IZ, p → Hf
open Go.Vi.Dp renaming v → G2
open Go.Value renaming nilFunc → Hw, int → GW, tuple → HG
open Go.Vi.BuT renaming row → G7
open Go.IntKind renaming i64 → GY, wrap → G1, u32 → GX, signed → LW, bits → Mr, u64 → Hg, u8 → GZ
open List renaming map → GU, length → G3, getElem?_eq_some_iff → G9, length_map → HW, map_take → Ng, take → Hl, all → Ia, drop → Hb, getElem?_map → IJ, getElem?_eq_getElem → HE, length_singleton → Ju
open Go.Exit renaming normal → Hz, exit → HJ
open BitVec renaming ofInt → G5, eq_of_toNat_eq → JK, toNat_ofInt → Lr, ofInt_natCast → Kp, toNat → GT
open Int renaming fdiv → Jf, toNat → Hh, toNat_natCast → Iw
open Nat renaming shiftRight_eq_div_pow → Mt, zero_add → I7, mul_one → Nh
open Option renaming map_some → HD, isSome → KN, map → KJ, getD_some → Ij
open Bool renaming false_eq_true → HO, true_and → Iy
open Go.Vi.Ev renaming glob0 → Hx
open Go.Operand renaming tmp → Jq
open Go Go.Proofs
namespace Go.Vi
set_option maxRecDepth 100000
set_option maxHeartbeats 4000000
structure QuT where
 kind:Int
 st:Int
 obj:Int
 term:Int
def QuT.row(q:QuT):List Dp:=[vi q.kind,vi q.st,vi q.obj,vi q.term]
def cU(m:Int)(q:QuT):Bool:=Qd (q.st<0)||Qd (q.st≥20000)||Qd (q.term<0)||Qd (q.term≥1024)||Qd (q.obj<0)||Qd (q.obj>m)
def mostQ(k:Int):Option Int:=if k=1 then some 4095 else if k=2 then some 0 else if k=3 then some 10000 else if k=4 then some 0 else if k=5 then some 255 else none
def nU(q:QuT):Int:=match mostQ q.kind with
 | none=>340
 | some m=>bif cU m q then 340 else 0
abbrev zch:List D:=[int 0,fq 121]
abbrev Qj:List (D × D × Nat):=[(int 1,.agg [int 4095,fq 120],0),(int 2,.agg zch,1),(int 3,.agg [int 10000,fq 121],2),(int 4,.agg zch,3),(int 5,.agg [int 255,fq 122],4)]
abbrev qkM:List Blk:=[.map Qj 5]
abbrev ZR:List (D × D × Nat):=[(int 1,Hc [int 4095,fq 120],0),(int 2,Hc zch,1),(int 3,Hc [int 10000,fq 121],2),(int 4,Hc zch,3),(int 5,Hc [int 255,fq 122],4)]
abbrev zb9:D:=(.ref (.mp 0))
theorem qkinds_b:(Ev GV Γ0 111 [] [] zb9 qkM):=by
 exact Ev.castH (Ev.of_sym (h':=[.map ZR 5]) (d:=.ref (.mp 0)) pok [] (by kernel_rfl) .n) (by rfl) (by rfl)
theorem bI(h:List Blk):Ev GV Γ0 111 [] h (.ref (.mp h.length)) (h++qkM):=qkinds_b.frameN (by kernel_rfl) rfl h
abbrev YG(a b c d:Int):List D:=[int a,int b,int c,int d]
noncomputable abbrev ue(st:Int)(obj:Int)(term:Int):List Blk:=[.var (YG 1 st obj term),.map ZR 5]
abbrev ZK:D:=(.ref (.ptr 0 0))
abbrev XJ(a:Int)(b:Nat):List D:=[Hc [int a,fq b],bool true]
abbrev XR:D:=(.ref (.mp 1))
theorem qk1_a{st obj term:Int}(h:List Blk):(Ev GV Γ0 96 [.agg (YG 1 st obj term)] h (int (bif cU 4095 ⟨1,st,obj,term⟩ then 340 else 0)) h):=by
 cases hc0:!true||Qd (st<0)||Qd (st≥20000)||Qd (term<0)||Qd (term≥1024)||Qd (obj<0)||Qd (obj>4095)
 ·let v0:=IZ (XJ 4095 120)
  exact zD (int 0) [.nx 1,.late,.call XR (ue st obj term),.b false] (.c (@bI ([.var (YG 1 st obj term)])) (.e ZK (.e ZK (.e ZK (.c (show some (int 1)=some (int 1) from rfl) (.c (show some (int 1)=some (int 1) from rfl) (.c (show some (int 1)=some (int 1) from rfl) (.c (show some v0=some v0 from rfl) (.c (show some v0=some v0 from rfl) (.c hc0 .n)))))))))) h (by subst v0;first|(have hh:cU 4095 ⟨1,st,obj,term⟩=true:=hc0;rw[hh];rfl)|(have hh:cU 4095 ⟨1,st,obj,term⟩=false:=hc0;rw[hh];rfl))
 ·let v0:=IZ (XJ 4095 120)
  exact zD (int 340) [.nx 1,.late,.call XR (ue st obj term),.b true] (.c (@bI ([.var (YG 1 st obj term)])) (.e ZK (.e ZK (.e ZK (.c (show some (int 1)=some (int 1) from rfl) (.c (show some (int 1)=some (int 1) from rfl) (.c (show some (int 1)=some (int 1) from rfl) (.c (show some v0=some v0 from rfl) (.c (show some v0=some v0 from rfl) (.c hc0 .n)))))))))) h (by subst v0;first|(have hh:cU 4095 ⟨1,st,obj,term⟩=true:=hc0;rw[hh];rfl)|(have hh:cU 4095 ⟨1,st,obj,term⟩=false:=hc0;rw[hh];rfl))
noncomputable abbrev uf(st:Int)(obj:Int)(term:Int):List Blk:=[.var (YG 2 st obj term),.map ZR 5]
abbrev Yw:D:=Hc zch
abbrev zca:D:=IZ [Yw,bool true]
theorem qk2_a{st obj term:Int}(h:List Blk):(Ev GV Γ0 96 [.agg (YG 2 st obj term)] h (int (bif cU 0 ⟨2,st,obj,term⟩ then 340 else 0)) h):=by
 cases hc0:!true||Qd (st<0)||Qd (st≥20000)||Qd (term<0)||Qd (term≥1024)||Qd (obj<0)||Qd (obj>0)
 ·let v0:=zca
  exact zD (int 0) [.nx 1,.late,.call XR (uf st obj term),.b false] (.c (@bI ([.var (YG 2 st obj term)])) (.e ZK (.e ZK (.e ZK (.c (show some (int 2)=some (int 2) from rfl) (.c (show some (int 2)=some (int 2) from rfl) (.c (show some (int 2)=some (int 2) from rfl) (.c (show some v0=some v0 from rfl) (.c (show some v0=some v0 from rfl) (.c hc0 .n)))))))))) h (by subst v0;first|(have hh:cU 0 ⟨2,st,obj,term⟩=true:=hc0;rw[hh];rfl)|(have hh:cU 0 ⟨2,st,obj,term⟩=false:=hc0;rw[hh];rfl))
 ·let v0:=zca
  exact zD (int 340) [.nx 1,.late,.call XR (uf st obj term),.b true] (.c (@bI ([.var (YG 2 st obj term)])) (.e ZK (.e ZK (.e ZK (.c (show some (int 2)=some (int 2) from rfl) (.c (show some (int 2)=some (int 2) from rfl) (.c (show some (int 2)=some (int 2) from rfl) (.c (show some v0=some v0 from rfl) (.c (show some v0=some v0 from rfl) (.c hc0 .n)))))))))) h (by subst v0;first|(have hh:cU 0 ⟨2,st,obj,term⟩=true:=hc0;rw[hh];rfl)|(have hh:cU 0 ⟨2,st,obj,term⟩=false:=hc0;rw[hh];rfl))
noncomputable abbrev ug(st:Int)(obj:Int)(term:Int):List Blk:=[.var (YG 3 st obj term),.map ZR 5]
theorem qk3_a{st obj term:Int}(h:List Blk):(Ev GV Γ0 96 [.agg (YG 3 st obj term)] h (int (bif cU 10000 ⟨3,st,obj,term⟩ then 340 else 0)) h):=by
 cases hc0:!true||Qd (st<0)||Qd (st≥20000)||Qd (term<0)||Qd (term≥1024)||Qd (obj<0)||Qd (obj>10000)
 ·let v0:=IZ (XJ 10000 121)
  exact zD (int 0) [.nx 1,.late,.call XR (ug st obj term),.b false] (.c (@bI ([.var (YG 3 st obj term)])) (.e ZK (.e ZK (.e ZK (.c (show some (int 3)=some (int 3) from rfl) (.c (show some (int 3)=some (int 3) from rfl) (.c (show some (int 3)=some (int 3) from rfl) (.c (show some v0=some v0 from rfl) (.c (show some v0=some v0 from rfl) (.c hc0 .n)))))))))) h (by subst v0;first|(have hh:cU 10000 ⟨3,st,obj,term⟩=true:=hc0;rw[hh];rfl)|(have hh:cU 10000 ⟨3,st,obj,term⟩=false:=hc0;rw[hh];rfl))
 ·let v0:=IZ (XJ 10000 121)
  exact zD (int 340) [.nx 1,.late,.call XR (ug st obj term),.b true] (.c (@bI ([.var (YG 3 st obj term)])) (.e ZK (.e ZK (.e ZK (.c (show some (int 3)=some (int 3) from rfl) (.c (show some (int 3)=some (int 3) from rfl) (.c (show some (int 3)=some (int 3) from rfl) (.c (show some v0=some v0 from rfl) (.c (show some v0=some v0 from rfl) (.c hc0 .n)))))))))) h (by subst v0;first|(have hh:cU 10000 ⟨3,st,obj,term⟩=true:=hc0;rw[hh];rfl)|(have hh:cU 10000 ⟨3,st,obj,term⟩=false:=hc0;rw[hh];rfl))
noncomputable abbrev uh(st:Int)(obj:Int)(term:Int):List Blk:=[.var (YG 4 st obj term),.map ZR 5]
theorem qk4_a{st obj term:Int}(h:List Blk):(Ev GV Γ0 96 [.agg (YG 4 st obj term)] h (int (bif cU 0 ⟨4,st,obj,term⟩ then 340 else 0)) h):=by
 cases hc0:!true||Qd (st<0)||Qd (st≥20000)||Qd (term<0)||Qd (term≥1024)||Qd (obj<0)||Qd (obj>0)
 ·let v0:=zca
  exact zD (int 0) [.nx 1,.late,.call XR (uh st obj term),.b false] (.c (@bI ([.var (YG 4 st obj term)])) (.e ZK (.e ZK (.e ZK (.c (show some (int 4)=some (int 4) from rfl) (.c (show some (int 4)=some (int 4) from rfl) (.c (show some (int 4)=some (int 4) from rfl) (.c (show some v0=some v0 from rfl) (.c (show some v0=some v0 from rfl) (.c hc0 .n)))))))))) h (by subst v0;first|(have hh:cU 0 ⟨4,st,obj,term⟩=true:=hc0;rw[hh];rfl)|(have hh:cU 0 ⟨4,st,obj,term⟩=false:=hc0;rw[hh];rfl))
 ·let v0:=zca
  exact zD (int 340) [.nx 1,.late,.call XR (uh st obj term),.b true] (.c (@bI ([.var (YG 4 st obj term)])) (.e ZK (.e ZK (.e ZK (.c (show some (int 4)=some (int 4) from rfl) (.c (show some (int 4)=some (int 4) from rfl) (.c (show some (int 4)=some (int 4) from rfl) (.c (show some v0=some v0 from rfl) (.c (show some v0=some v0 from rfl) (.c hc0 .n)))))))))) h (by subst v0;first|(have hh:cU 0 ⟨4,st,obj,term⟩=true:=hc0;rw[hh];rfl)|(have hh:cU 0 ⟨4,st,obj,term⟩=false:=hc0;rw[hh];rfl))
noncomputable abbrev ui(st:Int)(obj:Int)(term:Int):List Blk:=[.var (YG 5 st obj term),.map ZR 5]
theorem qk5_a{st obj term:Int}(h:List Blk):(Ev GV Γ0 96 [.agg (YG 5 st obj term)] h (int (bif cU 255 ⟨5,st,obj,term⟩ then 340 else 0)) h):=by
 cases hc0:!true||Qd (st<0)||Qd (st≥20000)||Qd (term<0)||Qd (term≥1024)||Qd (obj<0)||Qd (obj>255)
 ·let v0:=IZ (XJ 255 122)
  exact zD (int 0) [.nx 1,.late,.call XR (ui st obj term),.b false] (.c (@bI ([.var (YG 5 st obj term)])) (.e ZK (.e ZK (.e ZK (.c (show some (int 5)=some (int 5) from rfl) (.c (show some (int 5)=some (int 5) from rfl) (.c (show some (int 5)=some (int 5) from rfl) (.c (show some v0=some v0 from rfl) (.c (show some v0=some v0 from rfl) (.c hc0 .n)))))))))) h (by subst v0;first|(have hh:cU 255 ⟨5,st,obj,term⟩=true:=hc0;rw[hh];rfl)|(have hh:cU 255 ⟨5,st,obj,term⟩=false:=hc0;rw[hh];rfl))
 ·let v0:=IZ (XJ 255 122)
  exact zD (int 340) [.nx 1,.late,.call XR (ui st obj term),.b true] (.c (@bI ([.var (YG 5 st obj term)])) (.e ZK (.e ZK (.e ZK (.c (show some (int 5)=some (int 5) from rfl) (.c (show some (int 5)=some (int 5) from rfl) (.c (show some (int 5)=some (int 5) from rfl) (.c (show some v0=some v0 from rfl) (.c (show some v0=some v0 from rfl) (.c hc0 .n)))))))))) h (by subst v0;first|(have hh:cU 255 ⟨5,st,obj,term⟩=true:=hc0;rw[hh];rfl)|(have hh:cU 255 ⟨5,st,obj,term⟩=false:=hc0;rw[hh];rfl))
abbrev zah(a:D):List D:=[.agg [a,lit .nilFunc],bool false]
theorem lkQ{h:List Blk}{k:Int}(h1:¬k=1)(h2:¬k=2)(h3:¬k=3)(h4:¬k=4)(h5:¬k=5)(hb:h[1]? = some (.map Qj 5)):
  aX GV h 175 XR (int k) true=some (.tup (zah (int 0))):=by
 have e1:GV.underlying 175=some (.map 3 173):=by kernel_rfl
 have e2:cV GV 3 (int k)=true:=by kernel_rfl
 have e3:fd GV 173=some (.agg #[.int .i64 0,.nilFunc]):=by kernel_rfl
 have e4:b9 (int k) Qj 0=some none:=by
  have n1:bC (int k) (int 1)=some false:=by simp[bC,h1]
  have n2:bC (int k) (int 2)=some false:=by simp[bC,h2]
  have n3:bC (int k) (int 3)=some false:=by simp[bC,h3]
  have n4:bC (int k) (int 4)=some false:=by simp[bC,h4]
  have n5:bC (int k) (int 5)=some false:=by simp[bC,h5]
  simp only[b9,n1,n2,n3,n4,n5]
 unfold aX
 simp only[e1,j4,hb,e2,if_true,e3,e4]
 rfl
theorem lkQ2{k:Int}(h1:¬k=1)(h2:¬k=2)(h3:¬k=3)(h4:¬k=4)(h5:¬k=5):Ca GV 175 Qj (int k) true (.tup (zah (int 0))):=by
 have:=lkQ (h:=[.gone,.map Qj 5]) h1 h2 h3 h4 h5 rfl
 unfold Ca aX
 unfold aX at this
 simpa only [j4,List.getElem?_cons_zero,List.getElem?_cons_succ] using this
noncomputable abbrev uj(k:Int)(st:Int)(obj:Int)(term:Int):List Blk:=[.var (YG k st obj term),.map ZR 5]
theorem qkN_a{k st obj term:Int}(h1:¬k=1)(h2:¬k=2)(h3:¬k=3)(h4:¬k=4)(h5:¬k=5)(h:List Blk):(Ev GV Γ0 96 [.agg (YG k st obj term)] h (int 340) h):=by
 let v0:List Blk:=[.map ZR 0]
 let v1:=IZ [Hc [int 0,Hf (G2 Hw)],bool false]
 refine zD (int 340) [.nx 1,.late,.call XR (uj k st obj term),.ov 9 (IZ [Hc [int 0,lit Hw],bool false]),.b true] (.c (@bI ([.var (YG k st obj term)])) (.c (show aX GV (uj k st obj term) 175 XR (int k) true=some v1 from ?_) (.e ZK (.e ZK (.e ZK (.c (show some (int k)=some (int k) from rfl) (.c (show some (int k)=some (int k) from rfl) (.c (show some (int k)=some (int k) from rfl) (.c (show aX GV v0 175 zb9 (int k) true=some v1 from ?_) (.c (show aX GV v0 175 zb9 (int k) true=some v1 from ?_) (.c (show(!false||Qd (st<0)||Qd (st≥20000)||Qd (term<0)||Qd (term≥1024)||Qd (obj<0)||Qd (obj>0))=true from rfl) .n))))))))))) h (by subst v0 v1;first|rfl|(simp at hc0))<;>subst v0 v1<;>(first|assumption|rfl|exact lkQ h1 h2 h3 h4 h5 rfl|exact lkQ2 h1 h2 h3 h4 h5)
theorem kinds_cases(k:Int):k=1∨k=2∨k=3∨k=4∨k=5∨(¬k=1∧¬k=2∧¬k=3∧¬k=4∧¬k=5):=by omega
theorem yr(q:QuT)(h:List Blk):Ev GV Γ0 96 [ag q.row] h (int (nU q)) h:=by
 obtain⟨k,st,obj,term⟩:=q
 rcases kinds_cases k with rfl|rfl|rfl|rfl|rfl|⟨h1,h2,h3,h4,h5⟩
 ·exact qk1_a h
 ·exact qk2_a h
 ·exact qk3_a h
 ·exact qk4_a h
 ·exact qk5_a h
 ·have:nU ⟨k,st,obj,term⟩=340:=by simp[nU,mostQ,h1,h2,h3,h4,h5]
  rw[this];exact qkN_a h1 h2 h3 h4 h5 h
def AF(b c:BuT):Bool:=b.sec==c.sec&&(b.lab==c.lab&&true)
abbrev Xl:Nat × D:=(3,.ref (.ptr 0 0))
abbrev zbV(a:BuT):List Blk:=[.var (a.row.map .p)]
abbrev biS(l:List BuT)(b:BuT)(i:Int):AS:={t:=mkT 19 0 [(0,aa (l.map G7)),Xl,(7,(XO (l.map G7))),(8,int i)],h:=(zbV b),m:=[]}
abbrev Xc(a:BuT):List D:=[int a.sec,int a.lab]
theorem bi_body{l:List BuT}{b c:BuT}{i:Nat}(hr:af (i:Int) (l.map G7) c.row 2)(hlt:Qd ((i:Int)<((l.map G7).length:Int))=true)(hw:GY.wrap ((i:Int)+1)=((i+1:Nat):Int))(hb:(b.sec==c.sec&&(b.lab==c.lab&&true))=false):(CW GV Γ0 [] false (sub Ll 0) (biS l b i) .normal (biS l b ((i+1:Nat):Int))):=by
 refine zX {t:=mkT 19 0 [(0,aa (GU G7 l)),(3,.ref (.ptr 0 0)),(7,int (↑(G3 (GU G7 l)):Int)),(8,int (G1 GY ((↑i:Int)+1)))],h:=[.var [int b.sec,int b.lab]],m:=[]} Hz [.st (.mask [0,3,7,8])] [.b true,.row [vi c.sec,vi c.lab],.b false] (.c hlt (.c hr (.c hb .n))) ?_ ?_<;>(first|rfl|(rw[hw]<;>rfl))
abbrev X2(a:Nat):List D:=mkT 19 0 [(4,int (a:Int))]
theorem bi_hit{l:List BuT}{b c:BuT}{i:Nat}(hr:af (i:Int) (l.map G7) c.row 2)(hlt:Qd ((i:Int)<((l.map G7).length:Int))=true)(hb:(b.sec==c.sec&&(b.lab==c.lab&&true))=true):(CW GV Γ0 [] false (sub Ll 0) (biS l b i) .ret {t:=(X2 i),h:=(zbV b),m:=[]}):=by
 exact zx XL [.b true,.row (YN c),.b true] (.c hlt (.c hr (.c hb .n)))
abbrev X4(a:List (Nat × D))(c:BuT):AS:={t:=mkT 19 0 a,h:=(zbV c),m:=[]}
theorem En{l:List BuT}{b:BuT}{i:Nat}(hlt:Qd ((i:Int)<((l.map G7).length:Int))=false):(CW GV Γ0 [] false (sub Ll 0) (biS l b i) (.exit 0) (X4 [] b)):=by
 exact zx YI [.b false] (.c hlt .n)
def biF(b c:BuT)(i:Nat):Nat⊕Nat:=match AF b c with
 | true=>.inr i
 | false=>.inl (i+1)
abbrev Xs(a c:Nat)(d:Int)(e:List Blk):Exit × AS:=(.ret,{t:=mkT a 0 [(c,int d)],h:=e,m:=[]})
theorem Eo{l:List BuT}{b:BuT}(hl:ar l):CW GV Γ0 [] false (.loop (sub Ll 0)) (biS l b 0) (au (.exit 0) (fun _:Nat=>(X4 [] b)) (fun i:Nat=>(Xs 19 4 (i:Int) (zbV b))) (forL (biF b) l 0)).1 (au (.exit 0) (fun _:Nat=>(X4 [] b)) (fun i:Nat=>(Xs 19 4 (i:Int) (zbV b))) (forL (biF b) l 0)).2:=by
 refine CW.each l (biF b) (fun i _=>biS l b (i:Int)) (.exit 0) _ _ (fun i s=>s=i) (by simp) (fun _=>by simp) ?_ ?_ 0 rfl
 ·intro i c s hc hs
  subst hs
  have hi:=(G9.1 hc).1
  cases hb:AF b c with
  | true =>
   have e:biF b c s=.inr s:=by unfold biF;rw[hb]
   rw[e]
   exact⟨fun _ h=>(by cases h),bi_hit (rowAt hc rfl) (lt_len G7 hi) hb⟩
  | false =>
   have e:biF b c s=.inl (s+1):=by unfold biF;rw[hb]
   rw[e]
   exact⟨fun _ h=>(by cases h;rfl),bi_body (rowAt hc rfl) (lt_len G7 hi) (wrap_succ hi hl) hb⟩
 ·intro s _
  exact En (bm G7 l)
theorem bi_no{l:List BuT}{b:BuT}(hcw:CW GV Γ0 [] false (.loop (sub Ll 0)) (biS l b 0) (.exit 0) (X4 [] b))(h:List Blk):(Ev GV Γ0 110 [aa (l.map G7),ag b.row] h (int (-1)) h):=by
 have hl0:=(@hcw)
 exact z0 [.sum [0,3,7,8] (HJ 0) (QG 19 [.var [int b.sec,int b.lab]])] (.c hl0 .n) h
theorem bi_yes{l:List BuT}{b:BuT}{i:Nat}(hcw:CW GV Γ0 [] false (.loop (sub Ll 0)) (biS l b 0) .ret {t:=(X2 i),h:=(zbV b),m:=[]})(h:List Blk):(Ev GV Γ0 110 [aa (l.map G7),ag b.row] h (int (i:Int)) h):=by
 have hl0:=(@hcw)
 exact z0 [.sum [0,3,7,8] (Exit.ret) {t:=mkT 19 0 [(4,(Q9 i))],h:=[.var (Xc b)],m:=[]}] (.c hl0 .n) h
def biR(b:BuT)(l:List BuT):Int:=match forL (biF b) l 0 with
 | .inl _ => -1
 | .inr i=>(i:Int)
theorem yu{l:List BuT}{b:BuT}(hl:ar l)(h:List Blk):Ev GV Γ0 110 [aa (l.map G7),ag b.row] h (int (biR b l)) h:=by
 have h1:=Eo (b:=b) hl
 unfold biR
 cases e:forL (biF b) l 0 with
 | inl _=>rw[e] at h1;exact bi_no h1 h
 | inr i=>rw[e] at h1;exact bi_yes h1 h
theorem Ep(b:BuT)(l:List BuT):Qd (biR b l≥0)=l.any (AF b):=by
 have key:∀(l:List BuT) (s:Nat),(match forL (biF b) l s with | .inl _=>false | .inr _=>true)=l.any (AF b):=by
  intro l
  induction l with
  | nil=>intro s;rfl
  | cons c l ih =>
   intro s
   simp only[forL,biF,List.any_cons]
   cases hb:AF b c with
   | true=>rfl
   | false=>simpa using ih (s+1)
 rw[←key l 0]
 unfold biR
 cases forL (biF b) l 0<;>simp
abbrev Xk(a:Int):D:=bool (Qd (a≥0))
theorem Er{l:List BuT}{b:BuT}(hl:ar l)(h:List Blk):(Ev GV Γ0 95 [aa (l.map G7),ag b.row] h (Xk (biR b l)) h):=by
 exact z0 [.val (int (biR b l))] (.c (@yu l b hl ([.var (Xc b)])) .n) h
theorem AG{l:List BuT}{b:BuT}(hl:ar l)(h:List Blk):Ev GV Γ0 95 [aa (l.map G7),ag b.row] h (bool (l.any (AF b))) h:=by
 rw[←Ep];exact Er hl h
abbrev w8(b:BitVec 8):D:=lit (.int .u8 b.toNat)
abbrev w32(b:BitVec 32):D:=lit (.int .u32 b.toNat)
abbrev w64(b:BitVec 64):D:=lit (.int .u64 b.toNat)
abbrev v8(b:BitVec 8):Dp:=.v (.int .u8 b.toNat)
theorem gP{n:Nat}(b:BitVec n):G5 n (b.toNat:Int)=b:=JK (by simp[])
theorem AH(x:Int):GX.wrap x=((G5 32 x).toNat:Int):=by
 have h:GX.wrap x=x % 4294967296:=by simp[G1,LW,Mr]
 rw[h,Lr];omega
theorem Es(x:Int):Hg.wrap x=((G5 64 x).toNat:Int):=by
 have h:Hg.wrap x=x % 18446744073709551616:=by simp[G1,LW,Mr]
 rw[h,Lr];omega
theorem wr8(x:Int):GZ.wrap x=((G5 8 x).toNat:Int):=by
 have h:GZ.wrap x=x % 256:=by simp[G1,LW,Mr]
 rw[h,Lr];omega
theorem ul{n:Nat}(a b:BitVec n):G5 n ((a.toNat:Int)+b.toNat)=a+b:=by
 rw[BitVec.ofInt_add,gP,gP]
theorem bv_mul{n:Nat}(a b:BitVec n):G5 n ((a.toNat:Int)*b.toNat)=a*b:=by
 rw[BitVec.ofInt_mul,gP,gP]
theorem yv{n:Nat}(a:BitVec n)(s:Nat):G5 n ((a.toNat:Int)*2 ^ s)=a <<< s:=by
 apply JK
 have:(a.toNat:Int)*2 ^ s=((a.toNat*2 ^ s:Nat):Int):=by simp
 rw[this,Kp]
 simp[Nat.shiftLeft_eq]
theorem um(a s:Nat):Jf (a:Int) (2 ^ s)=((a >>> s:Nat):Int):=by
 have:(2:Int) ^ s=((2 ^ s:Nat):Int):=by simp
 rw[this,Mt,Int.fdiv_eq_ediv_of_nonneg _ (Int.natCast_nonneg _)]
 simp
theorem bv_shr{n:Nat}(a:BitVec n)(s:Nat):G5 n (Jf (a.toNat:Int) (2 ^ s))=a >>> s:=by
 apply JK
 rw[um,Kp]
 simp
 exact Nat.mod_eq_of_lt (by have:=a.isLt;have:=Nat.div_le_self a.toNat (2 ^ s);rw[Mt];omega)
theorem sH{n:Nat}(a:BitVec n)(s:Nat):Jf (a.toNat:Int) (2 ^ s)=((a >>> s).toNat:Int):=by
 rw[um];simp
def dz(x:BitVec 32)(s:Nat):BitVec 32:=(x <<< s) ||| (x >>> (32 - s))
theorem dU(x:BitVec 32)(s t:Nat)(h:t=32 - s):Hf (G2 (GW .u32 (GX.wrap ((G5 32 (GX.wrap ((x.toNat:Int)*2 ^ s)) ||| G5 32 ((x.toNat:Int).fdiv (2 ^ t))).toNat:Int))))=w32 (dz x s):=by
 subst h
 rw[AH (_*_),AH,gP,gP,yv,bv_shr];rfl
abbrev Zk(a:BitVec 32)(b:Int):D:=(Hf (G2 (GW GX (G1 GX (↑(GT (G5 32 (G1 GX ((↑(GT a):Int)*2 ^ min (Hh (G1 Hg (↑(GT (G5 64 (G1 Hg (-b)) &&& G5 64 31)):Int))) 32)) ||| G5 32 (Jf (↑(GT a):Int) (2 ^ min (Hh (G1 Hg (32 - G1 Hg (↑(GT (G5 64 (G1 Hg (-b)) &&& G5 64 31)):Int)))) 32)))):Int)))))
theorem Et{x:BitVec 32}(h:List Blk):(Ev GV Γ0 99 [w32 x,int (-7)] h (w32 (dz x 25)) h):=by
 exact zD (Zk x 7) [] (.c (show Qd (0≤G1 Hg (↑(GT (G5 64 (G1 Hg (-7)) &&& G5 64 31)):Int))=true from rfl) (.c (show Qd (0≤G1 Hg (32 - G1 Hg (↑(GT (G5 64 (G1 Hg (-7)) &&& G5 64 31)):Int)))=true from rfl) .n)) h (by exact dU x 25 7 rfl)
theorem AI{x:BitVec 32}(h:List Blk):(Ev GV Γ0 99 [w32 x,int (-18)] h (w32 (dz x 14)) h):=by
 exact zD (Zk x 18) [] (.c (show Qd (0≤G1 Hg (↑(GT (G5 64 (G1 Hg (-18)) &&& G5 64 31)):Int))=true from rfl) (.c (show Qd (0≤G1 Hg (32 - G1 Hg (↑(GT (G5 64 (G1 Hg (-18)) &&& G5 64 31)):Int)))=true from rfl) .n)) h (by exact dU x 14 18 rfl)
theorem AJ{x:BitVec 32}(h:List Blk):(Ev GV Γ0 99 [w32 x,int (-17)] h (w32 (dz x 15)) h):=by
 exact zD (Zk x 17) [] (.c (show Qd (0≤G1 Hg (↑(GT (G5 64 (G1 Hg (-17)) &&& G5 64 31)):Int))=true from rfl) (.c (show Qd (0≤G1 Hg (32 - G1 Hg (↑(GT (G5 64 (G1 Hg (-17)) &&& G5 64 31)):Int)))=true from rfl) .n)) h (by exact dU x 15 17 rfl)
theorem AK{x:BitVec 32}(h:List Blk):(Ev GV Γ0 99 [w32 x,int (-19)] h (w32 (dz x 13)) h):=by
 exact zD (Zk x 19) [] (.c (show Qd (0≤G1 Hg (↑(GT (G5 64 (G1 Hg (-19)) &&& G5 64 31)):Int))=true from rfl) (.c (show Qd (0≤G1 Hg (32 - G1 Hg (↑(GT (G5 64 (G1 Hg (-19)) &&& G5 64 31)):Int)))=true from rfl) .n)) h (by exact dU x 13 19 rfl)
theorem rot6_e{x:BitVec 32}(h:List Blk):(Ev GV Γ0 99 [w32 x,int (-6)] h (w32 (dz x 26)) h):=by
 exact zD (Zk x 6) [] (.c (show Qd (0≤G1 Hg (↑(GT (G5 64 (G1 Hg (-6)) &&& G5 64 31)):Int))=true from rfl) (.c (show Qd (0≤G1 Hg (32 - G1 Hg (↑(GT (G5 64 (G1 Hg (-6)) &&& G5 64 31)):Int)))=true from rfl) .n)) h (by exact dU x 26 6 rfl)
theorem Eu{x:BitVec 32}(h:List Blk):(Ev GV Γ0 99 [w32 x,int (-11)] h (w32 (dz x 21)) h):=by
 exact zD (Zk x 11) [] (.c (show Qd (0≤G1 Hg (↑(GT (G5 64 (G1 Hg (-11)) &&& G5 64 31)):Int))=true from rfl) (.c (show Qd (0≤G1 Hg (32 - G1 Hg (↑(GT (G5 64 (G1 Hg (-11)) &&& G5 64 31)):Int)))=true from rfl) .n)) h (by exact dU x 21 11 rfl)
theorem Ew{x:BitVec 32}(h:List Blk):(Ev GV Γ0 99 [w32 x,int (-25)] h (w32 (dz x 7)) h):=by
 exact zD (Zk x 25) [] (.c (show Qd (0≤G1 Hg (↑(GT (G5 64 (G1 Hg (-25)) &&& G5 64 31)):Int))=true from rfl) (.c (show Qd (0≤G1 Hg (32 - G1 Hg (↑(GT (G5 64 (G1 Hg (-25)) &&& G5 64 31)):Int)))=true from rfl) .n)) h (by exact dU x 7 25 rfl)
theorem rot2_e{x:BitVec 32}(h:List Blk):(Ev GV Γ0 99 [w32 x,int (-2)] h (w32 (dz x 30)) h):=by
 exact zD (Zk x 2) [] (.c (show Qd (0≤G1 Hg (↑(GT (G5 64 (G1 Hg (-2)) &&& G5 64 31)):Int))=true from rfl) (.c (show Qd (0≤G1 Hg (32 - G1 Hg (↑(GT (G5 64 (G1 Hg (-2)) &&& G5 64 31)):Int)))=true from rfl) .n)) h (by exact dU x 30 2 rfl)
theorem Ex{x:BitVec 32}(h:List Blk):(Ev GV Γ0 99 [w32 x,int (-13)] h (w32 (dz x 19)) h):=by
 exact zD (Zk x 13) [] (.c (show Qd (0≤G1 Hg (↑(GT (G5 64 (G1 Hg (-13)) &&& G5 64 31)):Int))=true from rfl) (.c (show Qd (0≤G1 Hg (32 - G1 Hg (↑(GT (G5 64 (G1 Hg (-13)) &&& G5 64 31)):Int)))=true from rfl) .n)) h (by exact dU x 19 13 rfl)
theorem Ey{x:BitVec 32}(h:List Blk):(Ev GV Γ0 99 [w32 x,int (-22)] h (w32 (dz x 10)) h):=by
 exact zD (Zk x 22) [] (.c (show Qd (0≤G1 Hg (↑(GT (G5 64 (G1 Hg (-22)) &&& G5 64 31)):Int))=true from rfl) (.c (show Qd (0≤G1 Hg (32 - G1 Hg (↑(GT (G5 64 (G1 Hg (-22)) &&& G5 64 31)):Int)))=true from rfl) .n)) h (by exact dU x 10 22 rfl)
theorem rn6:GY.wrap (0 - 6) = -6:=by kernel_rfl
theorem AL{x:BitVec 32}(h:List Blk):(Ev GV Γ0 99 [w32 x,int (GY.wrap (0 - 6))] h (w32 (dz x 26)) h):=by rw[rn6];exact rot6_e h
theorem rn11:GY.wrap (0 - 11) = -11:=by kernel_rfl
theorem yw{x:BitVec 32}(h:List Blk):(Ev GV Γ0 99 [w32 x,int (GY.wrap (0 - 11))] h (w32 (dz x 21)) h):=by rw[rn11];exact Eu h
theorem rn25:GY.wrap (0 - 25) = -25:=by kernel_rfl
theorem yy{x:BitVec 32}(h:List Blk):(Ev GV Γ0 99 [w32 x,int (GY.wrap (0 - 25))] h (w32 (dz x 7)) h):=by rw[rn25];exact Ew h
theorem rn2:GY.wrap (0 - 2) = -2:=by kernel_rfl
theorem AM{x:BitVec 32}(h:List Blk):(Ev GV Γ0 99 [w32 x,int (GY.wrap (0 - 2))] h (w32 (dz x 30)) h):=by rw[rn2];exact rot2_e h
theorem rn13:GY.wrap (0 - 13) = -13:=by kernel_rfl
theorem yz{x:BitVec 32}(h:List Blk):(Ev GV Γ0 99 [w32 x,int (GY.wrap (0 - 13))] h (w32 (dz x 19)) h):=by rw[rn13];exact Ex h
theorem rn22:GY.wrap (0 - 22) = -22:=by kernel_rfl
theorem yA{x:BitVec 32}(h:List Blk):(Ev GV Γ0 99 [w32 x,int (GY.wrap (0 - 22))] h (w32 (dz x 10)) h):=by rw[rn22];exact Ey h
def bs1(x:BitVec 32):BitVec 32:=dz x 26 ^^^ dz x 21 ^^^ dz x 7
def bs0(x:BitVec 32):BitVec 32:=dz x 30 ^^^ dz x 19 ^^^ dz x 10
abbrev Yq(a:Nat):D:=Hf (G2 (GW GX (↑(a):Int)))
abbrev YA(a b:Nat)(c:Int):Int:=G1 GX (↑(GT (G5 32 (G1 GX (↑(GT (G5 32 (↑(a):Int) ^^^ G5 32 (↑(b):Int))):Int)) ^^^ G5 32 c)):Int)
theorem Ez{x:BitVec 32}(h:List Blk):(Ev GV Γ0 100 [w32 x,int 6,int 11,int 25] h (w32 (bs1 x)) h):=by
 exact zD (Hf (G2 (GW GX (YA (GT (dz x 26)) (GT (dz x 21)) (↑(GT (dz x 7)):Int))))) [.val (Yq (GT (dz x 26))),.val (Yq (GT (dz x 21))),.val (Yq (GT (dz x 7)))] (.c (@AL x ([])) (.c (@yw x ([])) (.c (@yy x ([])) .n))) h (by simp only[AH,gP,bs1])
theorem EA{x:BitVec 32}(h:List Blk):(Ev GV Γ0 100 [w32 x,int 2,int 13,int 22] h (w32 (bs0 x)) h):=by
 exact zD (Hf (G2 (GW GX (YA (GT (dz x 30)) (GT (dz x 19)) (↑(GT (dz x 10)):Int))))) [.val (Yq (GT (dz x 30))),.val (Yq (GT (dz x 19))),.val (Yq (GT (dz x 10)))] (.c (@AM x ([])) (.c (@yz x ([])) (.c (@yA x ([])) .n))) h (by simp only[AH,gP,bs0])
abbrev byR(b:BitVec 8):List Dp:=[v8 b]
abbrev byD(l:List (BitVec 8)):D:=aa (l.map byR)
def woF(n:BitVec 32)(c:BitVec 8):BitVec 32:=n <<< 8 ||| c.setWidth 32
abbrev WQ(a:List (BitVec 8)):D:=int ((a.map byR).length:Int)
abbrev woS(bs:List (BitVec 8))(n:BitVec 32)(i:Int):AS:={t:=mkT 19 0 [(2,w32 n),(6,byD bs),(7,(WQ bs)),(8,int i)],h:=[],m:=[]}
theorem yB(b:BitVec 8):G5 32 (b.toNat:Int)=b.setWidth 32:=by
 apply JK
 rw[Kp];simp
abbrev VE(a:List (BitVec 8)):D:=aa (GU byR a)
abbrev zaj(a:Int)(b:Nat):Int:=G1 GX (↑(GT (G5 32 (G1 GX a) ||| G5 32 (G1 GX (↑(b):Int)))):Int)
theorem EB{bs:List (BitVec 8)}{n:BitVec 32}{c:BitVec 8}{i:Nat}(hr:af (i:Int) (bs.map byR) (byR c) 1)(hlt:Qd ((i:Int)<((bs.map byR).length:Int))=true)(hw:GY.wrap ((i:Int)+1)=((i+1:Nat):Int)):(CW GV Γ0 [] false (sub Mf 0) (woS bs n i) .normal (woS bs (woF n c) ((i+1:Nat):Int))):=by
 refine zX {t:=mkT 19 0 [(2,Hf (G2 (GW GX (G1 GX (↑(GT (G5 32 (G1 GX ((↑(GT n):Int)*2 ^ min (Hh 8) 32)) ||| G5 32 (G1 GX (↑(GT c):Int)))):Int))))),(6,aa (GU byR bs)),(7,int (↑(G3 (GU byR bs)):Int)),(8,int (G1 GY ((↑i:Int)+1)))],h:=[],m:=[]} Hz [.st (.mask [2,6,7,8])] [.b true,.row [G2 (GW GZ (↑(GT c):Int))]] (.c hlt (.c hr (.c (show Qd (0≤8)=true from rfl) .n))) ?_ ?_<;>(first|rfl|(simp only[AH,gP,yv,yB,hw];rfl))
theorem EC{bs:List (BitVec 8)}{n:BitVec 32}{i:Nat}(hlt:Qd ((i:Int)<((bs.map byR).length:Int))=false):(CW GV Γ0 [] false (sub Mf 0) (woS bs n i) (.exit 0) {t:=mkT 19 0 [(2,w32 n)],h:=[],m:=[]}):=by
 exact zx VC [.b false] (.c hlt .n)
theorem wo_cw{bs:List (BitVec 8)}(hn:bs.length≤1000):CW GV Γ0 [] false (.loop (sub Mf 0)) (woS bs 0 0) (.exit 0) {t:=mkT 19 0 [(2,w32 (bs.foldl woF 0))],h:=[],m:=[]}:=by
 have:=CW.each (P:=GV) (Γ:=Γ0) (h0:=[]) (rd:=false) (c:=sub Mf 0) (σ:=BitVec 32) (ρ:=Empty) bs (fun q s=>.inl (woF s q))
  (fun j s=>woS bs s (j:Int)) (.exit 0) (fun s=>{t:=mkT 19 0 [(2,w32 s)],h:=[],m:=[]}) (fun r=>r.elim) (fun _ _=>True) (by simp) (fun r=>r.elim) ?_ ?_ 0 trivial
 ·rw[l5] at this
  exact this
 ·intro j q s hq _
  have hi:=(G9.1 hq).1
  exact⟨fun _ _=>trivial,EB (rowAt hq rfl) (lt_len byR hi) (wrap_succ hi (by omega))⟩
 ·intro s _
  exact EC (bm byR bs)
def mg(bs:List (BitVec 8)):BitVec 32:=(bs.take 4).foldl woF 0
theorem ED{bs:List (BitVec 8)}(h4:4≤bs.length):cW GV [] 23 (byD bs) none (some (int 4)) none=some (true,byD (bs.take 4)):=by
 have e1:GV.underlying 23=some (.slice 5):=by kernel_rfl
 have e2:szOf GV 5=some 1:=by kernel_rfl
 have e3:co 0 4 bs.length=true:=by simp[co];omega
 have e4:(bs.map byR).all (fun r=>Qd (r.length=1))=true:=by simp[byR]
 simp only[cW,a9,s9,e1,e2,lenD,oy,sliceRow,HD,bT,bA,HW,intOf?,HO,if_false,dQ,e3,e4]
 simp[Ng]
abbrev YU(a b:Int)(c:List (List Dp)):D:=(zbB a b c)
theorem word_a{bs:List (BitVec 8)}(h4:4≤bs.length)(hc:CW GV Γ0 [] false (.loop (sub Mf 0)) (woS (bs.take 4) 0 0) (.exit 0) {t:=mkT 19 0 [(2,w32 (mg bs))],h:=[],m:=[]})(h:List Blk):(Ev GV Γ0 98 [byD bs] h (w32 (mg bs)) h):=by
 have hl0:=(@hc)
 exact z0 [.ov 6 (byD (Hl 4 bs)),.sum [2,6,7,8] (HJ 0) {t:=mkT 19 0 [(2,(Yq (GT (mg bs))))],h:=[],m:=[]}] (.c (show @Eq (Option (Bool×D)) (some (co 0 4 (G3 (GU byR bs))&&true&&(true||KN (KJ (evalD Γ0 (mkT 19 0 [(0,(VE bs)),(2,Hf (G2 (GW GX 0))),(5,(VE bs))])) (some (Operand.const (GW GY 4)))))&&Ia (GU byR bs) fun r=>Qd (G3 r=1),(YU 4 0 (GU byR bs)))) (some (true,(VE (Hl 4 bs)))) from(by first|(simp only[cond_true,cond_false];done)|first|assumption|exact ED h4)) (.c hl0 .n)) h
theorem EE{bs:List (BitVec 8)}(h4:4≤bs.length)(h:List Blk):Ev GV Γ0 98 [byD bs] h (w32 (mg bs)) h :=
 word_a h4 (wo_cw (by simp;omega)) h
def startL:List (BitVec 32):=[0x6a09e667,0xbb67ae85,0x3c6ef372,0xa54ff53a,0x510e527f,0x9b05688c,0x1f83d9ab,0x5be0cd19]
def numL:List (BitVec 32):=[
 0x428a2f98,0x71374491,0xb5c0fbcf,0xe9b5dba5,0x3956c25b,0x59f111f1,0x923f82a4,0xab1c5ed5,
 0xd807aa98,0x12835b01,0x243185be,0x550c7dc3,0x72be5d74,0x80deb1fe,0x9bdc06a7,0xc19bf174,
 0xe49b69c1,0xefbe4786,0x0fc19dc6,0x240ca1cc,0x2de92c6f,0x4a7484aa,0x5cb0a9dc,0x76f988da,
 0x983e5152,0xa831c66d,0xb00327c8,0xbf597fc7,0xc6e00bf3,0xd5a79147,0x06ca6351,0x14292967,
 0x27b70a85,0x2e1b2138,0x4d2c6dfc,0x53380d13,0x650a7354,0x766a0abb,0x81c2c92e,0x92722c85,
 0xa2bfe8a1,0xa81a664b,0xc24b8b70,0xc76c51a3,0xd192e819,0xd6990624,0xf40e3585,0x106aa070,
 0x19a4c116,0x1e376c08,0x2748774c,0x34b0bcb5,0x391c0cb3,0x4ed8aa4a,0x5b9cca4f,0x682e6ff3,
 0x748f82ee,0x78a5636f,0x84c87814,0x8cc70208,0x90befffa,0xa4506ceb,0xbef9a3f7,0xc67178f2]
abbrev c32(b:BitVec 32):Dp:=.v (.int .u32 b.toNat)
def Γd:ae:=fun g=>match g with|0=>some (startL.map c32)|2=>some (numL.map c32)|_=>none
structure S8 where
 a:BitVec 32
 b:BitVec 32
 c:BitVec 32
 d:BitVec 32
 e:BitVec 32
 f:BitVec 32
 g:BitVec 32
 h:BitVec 32
def S8.row(s:S8):List D:=[w32 s.a,w32 s.b,w32 s.c,w32 s.d,w32 s.e,w32 s.f,w32 s.g,w32 s.h]
theorem mh{hp:List Blk}{b:Nat}{ws:List (BitVec 32)}{z:Int}{i:Nat}(hb:hp[b]? = some (.var (ws.map w32)))(hz:z=i)(hi:i<ws.length):
  aD GV hp 116 (.ref (.ptr b (0+z.toNat*1)))=some (w32 (ws.getD i 0)):=by
 subst hz
 have e1:wr GV 116=some false:=by kernel_rfl
 have e2:szOf GV 116=some 1:=by kernel_rfl
 simp only[aD,hb,cm,e1,e2,Iw,I7,Nh,List.head?_drop,IJ,List.getD,HE hi,HD,Ij]
theorem vM{ws:List (BitVec 32)}{z:Int}{i:Nat}(hz:z=i)(hi:i<ws.length):((ws.map w32).drop (0+z.toNat*1)).head? = some (w32 (ws.getD i 0)):=by
 subst hz
 simp only[Iw,I7,Nh,List.head?_drop,IJ,List.getD,HE hi,HD,Ij]
theorem sI{hp hp':List Blk}{b:Nat}{ws:List (BitVec 32)}{z:Int}{i:Nat}{x:BitVec 32}(hb:hp[b]? = some (.var (ws.map w32)))(hz:z=i)(hi:i<ws.length)(he:hp'=hp.set b (.var ((ws.set i x).map w32))):
  aw GV hp 116 (.ref (.ptr b (0+z.toNat*1))) (w32 x)=some hp':=by
 subst hz;subst he
 have e2:szOf GV 116=some 1:=by kernel_rfl
 have e3:(w32 x).cells=some [w32 x]:=rfl
 have e4:i+1≤(ws.map w32).length:=by simp;omega
 have e5:aF (ws.map w32) i [w32 x]=(ws.set i x).map w32:=by
  simp only[aF,Ju]
  rw[List.map_set,List.set_eq_take_append_cons_drop,if_pos (by simpa using hi)]
  simp
 simp only[aw,e2,e3,Ju,if_true,hb,Iw,I7,Nh,e4,e5]
theorem yC{bs:List (BitVec 8)}{z:Int}{i:Nat}(hz:z=i)(hi:i≤bs.length):cW GV [] 23 (byD bs) (some (int z)) none none=some (true,byD (bs.drop i)):=by
 subst hz
 have e1:GV.underlying 23=some (.slice 5):=by kernel_rfl
 have e2:szOf GV 5=some 1:=by kernel_rfl
 have e3:co (i:Int) bs.length bs.length=true:=by simp[co];omega
 have e4:(bs.map byR).all (fun r=>Qd (r.length=1))=true:=by simp[byR]
 have e5:Hl (bs.length - i) (Hb i (bs.map byR))=(bs.drop i).map byR:=by
  rw[List.map_drop,List.take_of_length_le (by simp)]
 simp only[cW,a9,s9,e1,e2,lenD,oy,sliceRow,HD,bT,bA,HW,intOf?,HO,if_false,dQ,e3,e4,Iw,e5]
 simp
abbrev QY:Nat × D:=(zcE 0)
abbrev YS:Nat × D:=(4,.ref (.ptr 1 0))
abbrev abS(s:S8)(bs:List (BitVec 8))(ws:List (BitVec 32))(i:Int):AS:={t:=mkT 144 0 [QY,(1,byD bs),YS,(14,int i)],h:=[.var s.row,.var (ws.map w32)],m:=[]}
abbrev zbv(j:Int)(k l m:Nat)(n:Int)(o p q:Nat):List D:=[Hf (G2 (GW GX j)),Hf (G2 (GW GX (↑(k):Int))),Hf (G2 (GW GX (↑(l):Int))),Hf (G2 (GW GX (↑(m):Int))),Hf (G2 (GW GX n)),Hf (G2 (GW GX (↑(o):Int))),Hf (G2 (GW GX (↑(p):Int))),Hf (G2 (GW GX (↑(q):Int)))]
abbrev Zb(i:S8):List D:=(zbv (↑(GT i.a):Int) (GT i.b) (GT i.c) (GT i.d) (↑(GT i.e):Int) (GT i.f) (GT i.g) (GT i.h))
abbrev zb5(a:S8)(b:List D):List Blk:=[.var (Zb a),.var b]
noncomputable abbrev mi(s:S8)(ws:List (BitVec 32)):List Blk:=(zb5 s (GU w32 ws))
abbrev Xo(a b c:Nat):D:=(.ref (.ptr a (0+Hh (↑b:Int)*c)))
theorem AN{H:List Blk}{s:S8}{bs:List (BitVec 8)}{ws:List (BitVec 32)}{i:Nat}(hlt:Qd ((i:Int)<16)=true)(hw:GY.wrap ((i:Int)+1)=((i+1:Nat):Int))(hm:GY.wrap (4*(i:Int))=((4*i:Nat):Int))(hb:4*i≤bs.length)(hn:i<ws.length)(hr:inR (i:Int) 64=true)(hwd:∀h,Ev GV Γ0 98 [byD (bs.drop (4*i))] h (w32 (mg (bs.drop (4*i)))) h):(CW GV Γd H false (sub Tryz.f74 0) (abS s bs ws i) .normal (abS s bs (ws.set i (mg (bs.drop (4*i)))) ((i+1:Nat):Int))):=by
 let v0:=GU w32 (List.set ws i (mg (Hb (4*i) bs)))
 let v1:=G3 (GU byR bs)
 refine zX {t:=mkT 144 0 [(0,.ref (.ptr 0 0)),(1,aa (GU byR bs)),(4,.ref (.ptr 1 0)),(14,int (G1 GY ((↑i:Int)+1)))],h:=[.var [Hf (G2 (GW GX (↑(GT s.a):Int))),Hf (G2 (GW GX (↑(GT s.b):Int))),Hf (G2 (GW GX (↑(GT s.c):Int))),Hf (G2 (GW GX (↑(GT s.d):Int))),Hf (G2 (GW GX (↑(GT s.e):Int))),Hf (G2 (GW GX (↑(GT s.f):Int))),Hf (G2 (GW GX (↑(GT s.g):Int))),Hf (G2 (GW GX (↑(GT s.h):Int)))],.var v0],m:=[]} Hz [.st (.mask [0,1,4,14])] [.b true,.ov 21 (byD (Hb (4*i) bs)),.val (Hf (G2 (GW GX (↑(GT (mg (Hb (4*i) bs))):Int)))),.oh 10023 D.any [.var (S8.row s),.var v0]] (.c hlt (.c (show @Eq (Option (Bool×D)) (some (co (G1 GY (4*(↑i:Int))) (↑v1:Int) v1&&true&&(true||false)&&Ia (GU byR bs) fun r=>Qd (G3 r=1),aa (Hl (Hh (↑v1:Int) - Hh (G1 GY (4*(↑i:Int)))) (Hb (Hh (G1 GY (4*(↑i:Int)))) (GU byR bs))))) (some (true,aa (GU byR (Hb (4*i) bs)))) from(by subst v0 v1;first|(simp only[hlt,hr,cond_true,cond_false];done)|first|assumption|exact yC hm hb|exact sI (b:=1) rfl rfl hn rfl|exact hr)) (.c (Hx (Γ':=Γd) (@hwd (mi s ws))) (.c hr (.c (show @Eq (Option (List Blk)) (aw GV (mi s ws) 116 (.ref (.ptr 1 (0+Hh (↑i:Int)*1))) (Hf (G2 (GW GX (↑(GT (mg (Hb (4*i) bs))):Int))))) (some [.var [Hf (G2 (GW GX (↑(GT s.a):Int))),Hf (G2 (GW GX (↑(GT s.b):Int))),Hf (G2 (GW GX (↑(GT s.c):Int))),Hf (G2 (GW GX (↑(GT s.d):Int))),Hf (G2 (GW GX (↑(GT s.e):Int))),Hf (G2 (GW GX (↑(GT s.f):Int))),Hf (G2 (GW GX (↑(GT s.g):Int))),Hf (G2 (GW GX (↑(GT s.h):Int)))],.var v0]) from(by subst v0 v1;first|assumption|exact yC hm hb|exact sI (b:=1) rfl rfl hn rfl|exact hr)) .n))))) ?_ ?_<;>subst v0 v1<;>(first|rfl|(simp only[hw];rfl))
abbrev rqk(a b:Int)(g k:Bool):List Dp:=[vi a,vi b,.v (.bool g),.v (.bool k)]
def yD:List Dp:=rqk 0 0 false false++rqk 1 8 false true++rqk 0 0 true false++rqk 1 1 true false++rqk 1 1 false false++rqk 1 1 false false
def Γq:ae:=fun g=>match g with|0=>some (startL.map c32)|1=>some yD|2=>some (numL.map c32)|3=>some [.v (.iface 196 (.agg #[.pointer (some ⟨5,144,none⟩)]))]|_=>none
abbrev Qt(a:RqT):List (List Dp):=(a.chs.map G7)
abbrev rqD(k:Int)(r:RqT):List D:=(za0 r k (Qt r))
abbrev XK(c d:Int)(e f:Bool):List D:=[int c,int d,bool e,bool f]
abbrev rlH(k:Int)(r:RqT)(a b:Int)(g kk:Bool):List Blk:=[.var (rqD k r),.var (XK a b g kk)]
abbrev rlS(k:Int)(r:RqT)(a b:Int)(g kk:Bool)(n:Int)(ok:Bool)(i:Int):AS:={t:=mkT 147 0 [QH,Qi,(4,int n),(5,bool ok),(74,aa (Qt r)),(75,int ((Qt r).length:Int)),(76,int i)],h:=rlH k r a b g kk,m:=[]}
abbrev rlE(k:Int)(r:RqT)(a b:Int)(g kk:Bool)(n:Int)(ok:Bool):AS:={t:=mkT 147 0 [QH,Qi,(4,int n),(5,bool ok)],h:=rlH k r a b g kk,m:=[]}
theorem sl_to{α:Type}{row:α→List Dp}{sz:Nat}(hz:∀a,(row a).length=sz){l:List α}{i:Nat}(hs:i≤(l.map row).length):
  some ((co 0 (i:Int) (l.map row).length&&true&&(true||false)&&(l.map row).all fun r=>Qd (r.length=sz)),aa (Hl ((i:Int).toNat - (0:Int).toNat) (Hb (0:Int).toNat (l.map row))))=some (true,aa ((l.map row).take i)):=by
 have h1:co 0 (i:Int) (l.map row).length=true:=by
  unfold co
  simp only[Bool.and_eq_true,decide_eq_true_eq]
  omega
 have h2:((l.map row).all fun r=>Qd (r.length=sz))=true:=List.all_eq_true.2 fun r hr=>by
  obtain⟨a,_,rfl⟩:=List.mem_map.1 hr
  simp[hz]
 rw[h1,h2]
 rfl
abbrev Zp(a:RqT)(b:Int):List D:=(za0 a b (GU G7 a.chs))
abbrev ZQ:D:=Hf (G2 (HG {toList:=[]}))
abbrev QO(a:RqT):D:=aa (GU G7 a.chs)
abbrev QQ(a:Nat)(b:RqT):Nat × D:=(a,int (↑(G3 (GU G7 b.chs)):Int))
abbrev X1:List Ans:=[.st (.mask [1,3,4,5,74,75,76]),.st (.trim 2)]
abbrev zaW(c:Int)(d:Bool)(e:RqT)(f:Nat)(j l o:Int)(p q:Bool):AS:={t:=mkT 147 0 [QH,Qi,(4,int c),(5,bool d),(74,(QO e)),(QQ 75 e),(76,(ZP f))],h:=[.var (Zp e j),.var (XK l o p q)],m:=[]}
theorem rl_f{k:Int}{r:RqT}{a b:Int}{g kk:Bool}{n:Int}{c:BuT}{i:Nat}(hr:af (i:Int) (r.chs.map G7) c.row 2)(hlt:Qd ((i:Int)<((r.chs.map G7).length:Int))=true)(hw:GY.wrap ((i:Int)+1)=((i+1:Nat):Int)):(CW GV Γq [] false (sub JF 0) (rlS k r a b g kk n false i) .normal (rlS k r a b g kk n false ((i+1:Nat):Int))):=by
 refine zX {t:=mkT 147 0 [(1,.ref (.ptr 0 0)),(3,.ref (.ptr 1 0)),(4,int n),(5,bool false),(74,aa (GU G7 r.chs)),(75,int (↑(G3 (GU G7 r.chs)):Int)),(76,int (G1 GY ((↑i:Int)+1)))],h:=[.var [int r.campus,int r.no,int r.st,int k,int r.time,aa (GU G7 r.chs),int r.gsec,int r.glab,int r.key],.var [int a,int b,bool g,bool kk]],m:=[]} Hz [.st (.mask [1,3,4,5,74,75,76]),.st (.trim 2)] [.b true,.row [vi c.sec,vi c.lab],.g false,.g false,.ov 85 (bool false),.g false,.g false,.g false,.g false,.g false,.g false,.g false,.ov 94 (bool false)] (.c hlt (.c hr (.f (.f (.c (pkf (Hf (G2 (HG {toList:=[]}))) (bool false) rfl) (.f (.f (.f (.f (.f (.f (.f (.c (pkf (Hf (G2 (HG {toList:=[]}))) (bool false) rfl) .n))))))))))))) ?_ ?_<;>(first|rfl|(rw[hw]<;>rfl))
noncomputable abbrev EF(k:Int)(r:RqT)(a:Int)(b:Int)(g:Bool)(kk:Bool)(c:BuT):List Blk:=[.var (Zp r k),.var (XK a b g kk),.var (Xc c)]
abbrev VY(a:BuT):D:=(bool (buB a))
theorem rl_1{k:Int}{r:RqT}{a b:Int}{g kk:Bool}{n:Int}{c:BuT}{i:Nat}(hr:af (i:Int) (r.chs.map G7) c.row 2)(hlt:Qd ((i:Int)<((r.chs.map G7).length:Int))=true)(hw:GY.wrap ((i:Int)+1)=((i+1:Nat):Int))(hf:buB c=false):(CW GV Γq [] false (sub JF 0) (rlS k r a b g kk n true i) .normal (rlS k r a b g kk n false ((i+1:Nat):Int))):=by
 refine zX {t:=mkT 147 0 [(1,.ref (.ptr 0 0)),(3,.ref (.ptr 1 0)),(4,int n),(5,bool false),(74,aa (GU G7 r.chs)),(75,int (↑(G3 (GU G7 r.chs)):Int)),(76,int (G1 GY ((↑i:Int)+1)))],h:=[.var [int r.campus,int r.no,int r.st,int k,int r.time,aa (GU G7 r.chs),int r.gsec,int r.glab,int r.key],.var [int a,int b,bool g,bool kk]],m:=[]} Hz [.st (.mask [1,3,4,5,74,75,76]),.st (.trim 2)] [.b true,.row [vi c.sec,vi c.lab],.g true,.g true,.val (bool (buB c)),.ov 85 (bool (buB c)),.g false,.g false,.g false,.g false,.g false,.g false,.g false,.ov 94 (bool false)] (.c hlt (.c hr (.c (show(true==true)=true from rfl) (.c (show(true==true)=true from rfl) (.c (Hx (Γ':=Γq) (@iC c (EF k r a b g kk c))) (.c (pkt (bool (buB c)) (bool false) rfl) (.c (show(buB c==true)=false from(by rw[hf]<;>rfl)) (.c (show(buB c==true)=false from(by rw[hf]<;>rfl)) (.c (show(buB c==true)=false from(by rw[hf]<;>rfl)) (.c (show(buB c==true)=false from(by rw[hf]<;>rfl)) (.c (show(buB c==true)=false from(by rw[hf]<;>rfl)) (.c (show(buB c==true)=false from(by rw[hf]<;>rfl)) (.c (show(buB c==true)=false from(by rw[hf]<;>rfl)) (.c (pkf (Hf (G2 (HG {toList:=[]}))) (bool false) hf) .n)))))))))))))) ?_ ?_<;>(first|rfl|(rw[hw]<;>rfl))
noncomputable abbrev yE(k:Int)(r:RqT)(a:Int)(b:Int)(g:Bool)(kk:Bool)(c:BuT):List Blk:=[.var (Zp r k),.var (XK a b g kk),.var (Xc c)]
abbrev X6(a:Nat)(b:List (List Dp)):D:=bool (Qd ((↑a:Int)<(↑(G3 b):Int)))
abbrev zav(a:Nat)(b:RqT)(d:Int)(e:BuT)(f:List Dp):Bool:=co 0 (↑a:Int) (G3 (GU G7 b.chs))&&true&&(true||KN (KJ (evalD Γq (mkT 147 0 [QH,Qi,(4,int d),(5,bool true),(6,(Q9 a)),(7,.ref (.ptr 2 0)),(74,(QO b)),(QQ 75 b),(76,(Q9 a)),(77,(X6 a (GU G7 b.chs))),(78,(Q9 a)),(79,D.ep (YN e)),(80,Hc (Xc e)),(81,bool true),(82,bool true),(83,Hc (Xc e)),(84,bool (buB e)),(85,bool (buB e)),(86,bool (buB e)),(87,.ref (.ptr 0 5)),(88,(QO b)),(89,(Q9 a))])) (some (Jq 89))))&&Ia (GU G7 b.chs) fun f=>Qd (G3 f=2)
abbrev zbg(a:BuT)(d:Nat)(e:RqT)(f:Bool):List Ans:=[.b true,.row (YN a),.g true,.g true,.val (VY a),.ov 85 (VY a),.g true,.g true,.g true,.g true,.ov 90 (aa (Hl d (GU G7 e.chs))),.g true,.g true,.val (bool f),.g true,.ov 94 (bool !f)]
theorem rl_2{k:Int}{r:RqT}{a b:Int}{g kk:Bool}{n:Int}{c:BuT}{i:Nat}(hr:af (i:Int) (r.chs.map G7) c.row 2)(hlt:Qd ((i:Int)<((r.chs.map G7).length:Int))=true)(hw:GY.wrap ((i:Int)+1)=((i+1:Nat):Int))(hf:buB c=true)(hsl:i≤(r.chs.map G7).length)(hct:∀h,Ev GV Γ0 95 [aa ((r.chs.map G7).take i),ag c.row] h (bool true) h):(CW GV Γq [] false (sub JF 0) (rlS k r a b g kk n true i) .normal (rlS k r a b g kk n false ((i+1:Nat):Int))):=by
 refine zX {t:=mkT 147 0 [(1,.ref (.ptr 0 0)),(3,.ref (.ptr 1 0)),(4,int n),(5,bool !true),(74,aa (GU G7 r.chs)),(75,int (↑(G3 (GU G7 r.chs)):Int)),(76,int (G1 GY ((↑i:Int)+1)))],h:=[.var [int r.campus,int r.no,int r.st,int k,int r.time,aa (GU G7 r.chs),int r.gsec,int r.glab,int r.key],.var [int a,int b,bool g,bool kk]],m:=[]} Hz [.st (.mask [1,3,4,5,74,75,76]),.st (.trim 2)] [.b true,.row [vi c.sec,vi c.lab],.g true,.g true,.val (bool (buB c)),.ov 85 (bool (buB c)),.g true,.g true,.g true,.g true,.ov 90 (aa (Hl i (GU G7 r.chs))),.g true,.g true,.val (bool true),.g true,.ov 94 (bool !true)] (.c hlt (.c hr (.c (show(true==true)=true from rfl) (.c (show(true==true)=true from rfl) (.c (Hx (Γ':=Γq) (@iC c (yE k r a b g kk c))) (.c (pkt (bool (buB c)) (bool false) rfl) (.c (show(buB c==true)=true from(by rw[hf]<;>rfl)) (.c (show(buB c==true)=true from(by rw[hf]<;>rfl)) (.c (show(buB c==true)=true from(by rw[hf]<;>rfl)) (.c (show(buB c==true)=true from(by rw[hf]<;>rfl)) (.c (show @Eq (Option (Bool×D)) (some (co 0 (↑i:Int) (G3 (GU G7 r.chs))&&true&&(true||KN (KJ (evalD Γq (mkT 147 0 [(1,.ref (.ptr 0 0)),(3,.ref (.ptr 1 0)),(4,int n),(5,bool true),(6,int (↑i:Int)),(7,.ref (.ptr 2 0)),(74,aa (GU G7 r.chs)),(75,int (↑(G3 (GU G7 r.chs)):Int)),(76,int (↑i:Int)),(77,bool (Qd ((↑i:Int)<(↑(G3 (GU G7 r.chs)):Int)))),(78,int (↑i:Int)),(79,D.ep [vi c.sec,vi c.lab]),(80,Hc [int c.sec,int c.lab]),(81,bool true),(82,bool true),(83,Hc [int c.sec,int c.lab]),(84,bool (buB c)),(85,bool (buB c)),(86,bool (buB c)),(87,.ref (.ptr 0 5)),(88,aa (GU G7 r.chs)),(89,int (↑i:Int))])) (some (Jq 89))))&&Ia (GU G7 r.chs) fun r=>Qd (G3 r=2),aa (Hl (Hh (↑i:Int) - Hh 0) (Hb (Hh 0) (GU G7 r.chs))))) (some (true,aa (Hl i (GU G7 r.chs)))) from(by first|(simp only[hlt,hf];done)|first|assumption|rfl|exact sl_to (row:=G7) (fun _=>rfl) hsl)) (.c (show(buB c==true)=true from(by rw[hf]<;>rfl)) (.c (show(buB c==true)=true from(by rw[hf]<;>rfl)) (.c (Hx (Γ':=Γq) (@hct (yE k r a b g kk c))) (.c (show(buB c==true)=true from(by rw[hf]<;>rfl)) (.c (pkt (bool !true) (bool false) hf) .n)))))))))))))))) ?_ ?_<;>(first|rfl|(rw[hw]<;>rfl))
noncomputable abbrev yF(k:Int)(r:RqT)(a:Int)(b:Int)(g:Bool)(kk:Bool)(c:BuT):List Blk:=[.var (Zp r k),.var (XK a b g kk),.var (Xc c)]
theorem rl_3{k:Int}{r:RqT}{a b:Int}{g kk:Bool}{n:Int}{c:BuT}{i:Nat}(hr:af (i:Int) (r.chs.map G7) c.row 2)(hlt:Qd ((i:Int)<((r.chs.map G7).length:Int))=true)(hw:GY.wrap ((i:Int)+1)=((i+1:Nat):Int))(hf:buB c=true)(hsl:i≤(r.chs.map G7).length)(hct:∀h,Ev GV Γ0 95 [aa ((r.chs.map G7).take i),ag c.row] h (bool false) h):(CW GV Γq [] false (sub JF 0) (rlS k r a b g kk n true i) .normal (rlS k r a b g kk n true ((i+1:Nat):Int))):=by
 refine zX {t:=mkT 147 0 [(1,.ref (.ptr 0 0)),(3,.ref (.ptr 1 0)),(4,int n),(5,bool !false),(74,aa (GU G7 r.chs)),(75,int (↑(G3 (GU G7 r.chs)):Int)),(76,int (G1 GY ((↑i:Int)+1)))],h:=[.var [int r.campus,int r.no,int r.st,int k,int r.time,aa (GU G7 r.chs),int r.gsec,int r.glab,int r.key],.var [int a,int b,bool g,bool kk]],m:=[]} Hz [.st (.mask [1,3,4,5,74,75,76]),.st (.trim 2)] [.b true,.row [vi c.sec,vi c.lab],.g true,.g true,.val (bool (buB c)),.ov 85 (bool (buB c)),.g true,.g true,.g true,.g true,.ov 90 (aa (Hl i (GU G7 r.chs))),.g true,.g true,.val (bool false),.g true,.ov 94 (bool !false)] (.c hlt (.c hr (.c (show(true==true)=true from rfl) (.c (show(true==true)=true from rfl) (.c (Hx (Γ':=Γq) (@iC c (yF k r a b g kk c))) (.c (pkt (bool (buB c)) (bool false) rfl) (.c (show(buB c==true)=true from(by rw[hf]<;>rfl)) (.c (show(buB c==true)=true from(by rw[hf]<;>rfl)) (.c (show(buB c==true)=true from(by rw[hf]<;>rfl)) (.c (show(buB c==true)=true from(by rw[hf]<;>rfl)) (.c (show @Eq (Option (Bool×D)) (some (co 0 (↑i:Int) (G3 (GU G7 r.chs))&&true&&(true||KN (KJ (evalD Γq (mkT 147 0 [(1,.ref (.ptr 0 0)),(3,.ref (.ptr 1 0)),(4,int n),(5,bool true),(6,int (↑i:Int)),(7,.ref (.ptr 2 0)),(74,aa (GU G7 r.chs)),(75,int (↑(G3 (GU G7 r.chs)):Int)),(76,int (↑i:Int)),(77,bool (Qd ((↑i:Int)<(↑(G3 (GU G7 r.chs)):Int)))),(78,int (↑i:Int)),(79,D.ep [vi c.sec,vi c.lab]),(80,Hc [int c.sec,int c.lab]),(81,bool true),(82,bool true),(83,Hc [int c.sec,int c.lab]),(84,bool (buB c)),(85,bool (buB c)),(86,bool (buB c)),(87,.ref (.ptr 0 5)),(88,aa (GU G7 r.chs)),(89,int (↑i:Int))])) (some (Jq 89))))&&Ia (GU G7 r.chs) fun r=>Qd (G3 r=2),aa (Hl (Hh (↑i:Int) - Hh 0) (Hb (Hh 0) (GU G7 r.chs))))) (some (true,aa (Hl i (GU G7 r.chs)))) from(by first|(simp only[hlt,hf];done)|first|assumption|rfl|exact sl_to (row:=G7) (fun _=>rfl) hsl)) (.c (show(buB c==true)=true from(by rw[hf]<;>rfl)) (.c (show(buB c==true)=true from(by rw[hf]<;>rfl)) (.c (Hx (Γ':=Γq) (@hct (yF k r a b g kk c))) (.c (show(buB c==true)=true from(by rw[hf]<;>rfl)) (.c (pkt (bool !false) (bool false) hf) .n)))))))))))))))) ?_ ?_<;>(first|rfl|(rw[hw]<;>rfl))
theorem EG{k:Int}{r:RqT}{a b:Int}{g kk:Bool}{n:Int}{ok:Bool}{i:Nat}(hlt:Qd ((i:Int)<((Qt r).length:Int))=false):(CW GV Γq [] false (sub JF 0) (rlS k r a b g kk n ok i) (.exit 0) (rlE k r a b g kk n ok)):=by
 exact zx [.st (.mask [1,3,4,5])] [.b false] (.c hlt .n)
def AO(pre:List BuT):List BuT→Bool
 | []=>true
 | c::l=>buB c&&!pre.any (AF c)&&AO (pre++[c]) l
theorem mj{k:Int}{r:RqT}{a b:Int}{g kk:Bool}{n:Int}(hl:ar r.chs)(ok:Bool):CW GV Γq [] false (.loop (sub JF 0)) (rlS k r a b g kk n ok 0) (.exit 0) (rlE k r a b g kk n (ok&&AO [] r.chs)):=by
 refine CW.loop (ι:={p:Nat×Bool // p.1≤r.chs.length∧(ok&&AO [] r.chs)=(p.2&&AO (r.chs.take p.1) (r.chs.drop p.1))}) (fun p=>rlS k r a b g kk n p.1.2 (p.1.1:Int)) (fun _=>(.exit 0,rlE k r a b g kk n (ok&&AO [] r.chs))) (fun p=>r.chs.length - p.1.1) ?_ ⟨(0,ok),by simp,by simp⟩
 rintro⟨⟨i,o⟩,hi,ho⟩
 simp only at hi ho
 by_cases hlt:i<r.chs.length
 ·have hc:r.chs[i]? = some r.chs[i]:=HE hlt
  have hd:r.chs.drop i=r.chs[i]::r.chs.drop (i+1):=List.drop_eq_getElem_cons hlt
  have ht:r.chs.take (i+1)=r.chs.take i++[r.chs[i]]:=by rw[List.take_add_one,hc];rfl
  have hr:=rowAt (row:=G7) (sz:=2) hc rfl
  have hlt2:=lt_len G7 hlt
  have hw:=wrap_succ hlt hl
  have hsl:i≤(Qt r).length:=by rw[HW];omega
  have hct:∀h,Ev GV Γ0 95 [aa ((Qt r).take i),ag r.chs[i].row] h (bool ((r.chs.take i).any (AF r.chs[i]))) h:=by
   intro h
   rw[←Ng]
   exact AG (by unfold ar at *;rw[List.length_take];omega) h
  rw[hd] at ho
  simp only[AO] at ho
  rw[←ht] at ho
  cases o with
  | false=>exact .inl ⟨⟨(i+1,false),by simp;omega,by rw[ho];simp⟩,by simp;omega,rfl,rl_f hr hlt2 hw⟩
  | true =>
   cases hf:buB r.chs[i] with
   | false=>exact .inl ⟨⟨(i+1,false),by simp;omega,by rw[ho,hf];simp⟩,by simp;omega,rfl,rl_1 hr hlt2 hw hf⟩
   | true =>
    cases ha:(r.chs.take i).any (AF r.chs[i]) with
    | true=>rw[ha] at hct;exact .inl ⟨⟨(i+1,false),by simp;omega,by rw[ho,hf,ha];simp⟩,by simp;omega,rfl,rl_2 hr hlt2 hw hf hsl hct⟩
    | false=>rw[ha] at hct;exact .inl ⟨⟨(i+1,true),by simp;omega,by rw[ho,hf,ha];simp⟩,by simp;omega,rfl,rl_3 hr hlt2 hw hf hsl hct⟩
 ·have:i=r.chs.length:=by omega
  subst this
  rw[List.drop_length] at ho
  simp only[AO,Bool.and_true] at ho
  have h2:=EG (k:=k) (r:=r) (a:=a) (b:=b) (g:=g) (kk:=kk) (n:=n) (ok:=o) (bm G7 r.chs)
  refine .inr ⟨by simp,?_⟩
  show CW GV Γq [] false (sub JF 0) (rlS k r a b g kk n o (r.chs.length:Int)) (.exit 0) (rlE k r a b g kk n (ok&&AO [] r.chs))
  rw[ho]
  exact h2
theorem EH{r:RqT}(hh:(Qd (r.campus<0)||Qd (r.campus≥7)||Qd (r.no<1)||Qd (r.no>1048576)||Qd (r.st<0)||Qd (r.st≥20000)||Qd (r.time<1)||Qd (r.time>1048576)||Qd (r.kind<1)||Qd (r.kind>5))=true)(h:List Blk):(Ev GV Γq 66 [.agg (rqD r.kind r)] h (int 290) h):=by
 exact z0 [.b true] (.c hh .n) h
def rqR1(r:RqT)(ok:Bool):Int:=match !(ok&&(r.gsec==0&&(r.glab==0&&true))&&Qd (r.key≥0)&&Qd (r.key≤1048576)) with
 | true=>290
 | false=>0
abbrev ZC:D:=(.ref (.ptr 0 3))
abbrev ZZ(a:Nat)(b:Bool):List D:=mkT 147 0 [(zcE 1),(zbf 3 1),(4,int (↑a:Int)),(5,bool b)]
abbrev Qh:D:=(.ref (.ptr 0 5))
abbrev Qm(a:Int)(b:RqT)(c d:Int)(e f:Bool):AS:=(rlS a b c d e f ((b.chs.map G7).length:Int) (Qd (((b.chs.map G7).length:Int)≥c)&&Qd (((b.chs.map G7).length:Int)≤d)) 0)
abbrev YF:Option D:=(some (int 1))
abbrev zar(a:RqT)(c:Bool)(d:Int)(e:List D)(f g:Bool):List Ans:=[.b false,.sum [1,3,4,5,74,75,76] (HJ 0) {t:=(ZZ (G3 (GU G7 a.chs)) c),h:=[.var (Zp a d),.var e],m:=[]},.b false,.b f,.b g]
theorem rq1_a{r:RqT}{ok:Bool}(hh:(Qd (r.campus<0)||Qd (r.campus≥7)||Qd (r.no<1)||Qd (r.no>1048576)||Qd (r.st<0)||Qd (r.st≥20000)||Qd (r.time<1)||Qd (r.time>1048576)||Qd ((1:Int)<1)||Qd ((1:Int)>5))=false)(hcw:CW GV Γq [] false (.loop (sub JF 0)) (Qm 1 r 1 8 false true) (.exit 0) (rlE 1 r 1 8 false true ((Qt r).length:Int) ok))(h:List Blk):(Ev GV Γq 66 [.agg (rqD 1 r)] h (int (rqR1 r ok)) h):=by
 have hl0:=(@hcw)
 cases hc1:!(ok&&(r.gsec==0&&(r.glab==0&&true))&&Qd (r.key≥0)&&Qd (r.key≤1048576))
 ·let v0:=(QO r)
  exact zD (int 0) (zar r ok 1 (XK 1 8 false true) true false) (.c hh (.c (show inR 1 6=true from rfl) (.e ZC (.e ZC (.c (show @Eq (Option D) YF YF from rfl) (.c (show @Eq (Option D) YF YF from rfl) (.e Qh (.e Qh (.e Qh (.c (show @Eq (Option D) (some v0) (some v0) from rfl) (.c (show @Eq (Option D) (some v0) (some v0) from rfl) (.c (show @Eq (Option D) (some v0) (some v0) from rfl) (.c hl0 (.er false (.er true (.c hc1 .n)))))))))))))))) h (by subst v0;first|rfl|(simp only[rqR1,hc1];first|done|rfl))
 ·let v0:=(QO r)
  exact zD (int 290) (zar r ok 1 (XK 1 8 false true) true true) (.c hh (.c (show inR 1 6=true from rfl) (.e ZC (.e ZC (.c (show @Eq (Option D) YF YF from rfl) (.c (show @Eq (Option D) YF YF from rfl) (.e Qh (.e Qh (.e Qh (.c (show @Eq (Option D) (some v0) (some v0) from rfl) (.c (show @Eq (Option D) (some v0) (some v0) from rfl) (.c (show @Eq (Option D) (some v0) (some v0) from rfl) (.c hl0 (.er false (.er true (.c hc1 .n)))))))))))))))) h (by subst v0;first|rfl|(simp only[rqR1,hc1];first|done|rfl))
abbrev Yd:Option D:=(some (int 2))
abbrev zaz(a:RqT)(c d:Int):List Ans:=[.b false,.sum [1,3,4,5,74,75,76] (HJ 0) {t:=(ZZ (G3 (GU G7 a.chs)) false),h:=[.var (Zp a c),.var (XK d d true false)],m:=[]},.b true,.g false,.g false,.g false,.ov 103 (bool false),.g false,.g false,.g false,.g false,.g false,.g false,.g false,.g false,.g false,.g false,.g false,.g false,.g false,.ov 118 (bool false),.b false,.b true]
theorem rq2_f{r:RqT}(hh:(Qd (r.campus<0)||Qd (r.campus≥7)||Qd (r.no<1)||Qd (r.no>1048576)||Qd (r.st<0)||Qd (r.st≥20000)||Qd (r.time<1)||Qd (r.time>1048576)||Qd ((2:Int)<1)||Qd ((2:Int)>5))=false)(hcw:CW GV Γq [] false (.loop (sub JF 0)) (Qm 2 r 0 0 true false) (.exit 0) (rlE 2 r 0 0 true false ((Qt r).length:Int) false))(h:List Blk):(Ev GV Γq 66 [.agg (rqD 2 r)] h (int 290) h):=by
 have hl0:=(@hcw)
 let v0:=(QO r)
 exact z0 (zaz r 2 0) (.c hh (.c (show inR 2 6=true from rfl) (.e ZC (.e ZC (.c (show @Eq (Option D) Yd Yd from rfl) (.c (show @Eq (Option D) Yd Yd from rfl) (.e Qh (.e Qh (.e Qh (.c (show @Eq (Option D) (some v0) (some v0) from rfl) (.c (show @Eq (Option D) (some v0) (some v0) from rfl) (.c (show @Eq (Option D) (some v0) (some v0) from rfl) (.c hl0 (.er true (.f (.f (.f (.c (pkf (ZQ) (bool false) rfl) (.f (.f (.f (.er false (.er false (.er false (.er false (.er false (.er false (.er false (.er false (.er false (.f (.c (pkf (ZQ) (bool false) rfl) (.er false (.c (show(!(false&&r.key==0))=true from rfl) .n)))))))))))))))))))))))))))))))))) h
def rqR2(r:RqT)(gb:Bool):Int:=match !(gb&&r.key==0) with
 | true=>290
 | false=>0
noncomputable abbrev f7(r:RqT):List Blk:=[.var (Zp r 2),.var (XK 0 0 true false)]
abbrev zaH(a:RqT)(c:List Blk)(d:Bool):List Ans:=[.b false,.sum [1,3,4,5,74,75,76] (HJ 0) {t:=(ZZ (G3 (GU G7 a.chs)) true),h:=(c),m:=[]},.b true,.g true,.g true,.g true,.val (bool d),.ov 103 (bool d),.g false,.g false,.g false,.g false,.g false,.g false,.g false,.g false,.g false,.g false,.g false,.g false,.g false,.ov 118 (bool false),.b false,.b true]
noncomputable abbrev zaI(a:Nat)(c:RqT)(d e:Bool):List Ans:=[.b false,.sum [1,3,4,5,74,75,76] (HJ 0) {t:=(ZZ a true),h:=(f7 c),m:=[]},.b true,.g true,.g true,.g true,.val (bool d),.ov 103 (bool d),.g true,.g true,.g true,.g false,.g false,.g false,.g false,.g false,.g false,.g false,.g false,.g false,.g true,.ov 117 (bool true),.ov 118 (bool true),.b false,.b e]
theorem rq2_t{r:RqT}{gb:Bool}(hh:(Qd (r.campus<0)||Qd (r.campus≥7)||Qd (r.no<1)||Qd (r.no>1048576)||Qd (r.st<0)||Qd (r.st≥20000)||Qd (r.time<1)||Qd (r.time>1048576)||Qd ((2:Int)<1)||Qd ((2:Int)>5))=false)(hcw:CW GV Γq [] false (.loop (sub JF 0)) (Qm 2 r 0 0 true false) (.exit 0) (rlE 2 r 0 0 true false ((Qt r).length:Int) true))(hgv:∀h,Ev GV Γ0 94 [.agg [int r.gsec,int r.glab]] h (bool gb) h)(hn:(((Qt r).length:Int)==0)=true)(h:List Blk):(Ev GV Γq 66 [.agg (rqD 2 r)] h (int (rqR2 r gb)) h):=by
 have hl0:=(@hcw)
 cases hc1:gb
 ·let v0:=(QO r)
  exact zD (int 290) (zaH r (f7 r) gb) (.c hh (.c (show inR 2 6=true from rfl) (.e ZC (.e ZC (.c (show @Eq (Option D) Yd Yd from rfl) (.c (show @Eq (Option D) Yd Yd from rfl) (.e Qh (.e Qh (.e Qh (.c (show @Eq (Option D) (some v0) (some v0) from rfl) (.c (show @Eq (Option D) (some v0) (some v0) from rfl) (.c (show @Eq (Option D) (some v0) (some v0) from rfl) (.c hl0 (.er true (.c (show(true==true)=true from rfl) (.c (show(true==true)=true from rfl) (.c (show(true==true)=true from rfl) (.c (Hx (Γ':=Γq) (@hgv (f7 r))) (.c (pkt (bool gb) (bool false) rfl) (.c (show(gb==true)=false from(by subst v0;rw[hc1]<;>rfl)) (.c (show(gb==true)=false from(by subst v0;rw[hc1]<;>rfl)) (.c (show(gb==true)=false from(by subst v0;rw[hc1]<;>rfl)) (.er false (.er false (.er false (.er false (.er false (.er false (.er false (.er false (.er false (.c (show(gb==true)=false from(by subst v0;rw[hc1]<;>rfl)) (.c (pkf (ZQ) (bool false) hc1) (.er false (.c (show(!(false&&r.key==0))=true from rfl) .n))))))))))))))))))))))))))))))))))) h (by subst v0;first|rfl|(simp only[rqR2,hc1];first|done|rfl))
 ·cases hc2:!(true&&r.key==0)
  ·let v0:=G3 (GU G7 r.chs)
   let v1:=(QO r)
   exact zD (int 0) (zaI v0 r gb false) (.c hh (.c (show inR 2 6=true from rfl) (.e ZC (.e ZC (.c (show @Eq (Option D) Yd Yd from rfl) (.c (show @Eq (Option D) Yd Yd from rfl) (.e Qh (.e Qh (.e Qh (.c (show @Eq (Option D) (some v1) (some v1) from rfl) (.c (show @Eq (Option D) (some v1) (some v1) from rfl) (.c (show @Eq (Option D) (some v1) (some v1) from rfl) (.c hl0 (.er true (.c (show(true==true)=true from rfl) (.c (show(true==true)=true from rfl) (.c (show(true==true)=true from rfl) (.c (Hx (Γ':=Γq) (@hgv (f7 r))) (.c (pkt (bool gb) (bool false) rfl) (.c (show(gb==true)=true from(by subst v0 v1;rw[hc1]<;>rfl)) (.c (show(gb==true)=true from(by subst v0 v1;rw[hc1]<;>rfl)) (.c (show(gb==true)=true from(by subst v0 v1;rw[hc1]<;>rfl)) (.c (show(((↑v0:Int)==0)==false)=false from(by subst v0 v1;rw[hn]<;>rfl)) (.c (show(((↑v0:Int)==0)==false)=false from(by subst v0 v1;rw[hn]<;>rfl)) (.c (show(((↑v0:Int)==0)==false)=false from(by subst v0 v1;rw[hn]<;>rfl)) (.c (show(((↑v0:Int)==0)==false)=false from(by subst v0 v1;rw[hn]<;>rfl)) (.c (show(((↑v0:Int)==0)==false)=false from(by subst v0 v1;rw[hn]<;>rfl)) (.c (show(((↑v0:Int)==0)==false)=false from(by subst v0 v1;rw[hn]<;>rfl)) (.c (show(((↑v0:Int)==0)==false)=false from(by subst v0 v1;rw[hn]<;>rfl)) (.c (show(((↑v0:Int)==0)==false)=false from(by subst v0 v1;rw[hn]<;>rfl)) (.c (show(((↑v0:Int)==0)==false)=false from(by subst v0 v1;rw[hn]<;>rfl)) (.c (show(gb==true)=true from(by subst v0 v1;rw[hc1]<;>rfl)) (.c (pkt (bool true) (ZQ) hn) (.c (pkt (bool true) (bool false) hc1) (.er false (.c hc2 .n)))))))))))))))))))))))))))))))))))) h (by subst v0 v1;first|rfl|(simp only[rqR2,hc2];first|done|rfl))
  ·let v0:=G3 (GU G7 r.chs)
   let v1:=(QO r)
   exact zD (int 290) (zaI v0 r gb true) (.c hh (.c (show inR 2 6=true from rfl) (.e ZC (.e ZC (.c (show @Eq (Option D) Yd Yd from rfl) (.c (show @Eq (Option D) Yd Yd from rfl) (.e Qh (.e Qh (.e Qh (.c (show @Eq (Option D) (some v1) (some v1) from rfl) (.c (show @Eq (Option D) (some v1) (some v1) from rfl) (.c (show @Eq (Option D) (some v1) (some v1) from rfl) (.c hl0 (.er true (.c (show(true==true)=true from rfl) (.c (show(true==true)=true from rfl) (.c (show(true==true)=true from rfl) (.c (Hx (Γ':=Γq) (@hgv (f7 r))) (.c (pkt (bool gb) (bool false) rfl) (.c (show(gb==true)=true from(by subst v0 v1;rw[hc1]<;>rfl)) (.c (show(gb==true)=true from(by subst v0 v1;rw[hc1]<;>rfl)) (.c (show(gb==true)=true from(by subst v0 v1;rw[hc1]<;>rfl)) (.c (show(((↑v0:Int)==0)==false)=false from(by subst v0 v1;rw[hn]<;>rfl)) (.c (show(((↑v0:Int)==0)==false)=false from(by subst v0 v1;rw[hn]<;>rfl)) (.c (show(((↑v0:Int)==0)==false)=false from(by subst v0 v1;rw[hn]<;>rfl)) (.c (show(((↑v0:Int)==0)==false)=false from(by subst v0 v1;rw[hn]<;>rfl)) (.c (show(((↑v0:Int)==0)==false)=false from(by subst v0 v1;rw[hn]<;>rfl)) (.c (show(((↑v0:Int)==0)==false)=false from(by subst v0 v1;rw[hn]<;>rfl)) (.c (show(((↑v0:Int)==0)==false)=false from(by subst v0 v1;rw[hn]<;>rfl)) (.c (show(((↑v0:Int)==0)==false)=false from(by subst v0 v1;rw[hn]<;>rfl)) (.c (show(((↑v0:Int)==0)==false)=false from(by subst v0 v1;rw[hn]<;>rfl)) (.c (show(gb==true)=true from(by subst v0 v1;rw[hc1]<;>rfl)) (.c (pkt (bool true) (ZQ) hn) (.c (pkt (bool true) (bool false) hc1) (.er false (.c hc2 .n)))))))))))))))))))))))))))))))))))) h (by subst v0 v1;first|rfl|(simp only[rqR2,hc2];first|done|rfl))
abbrev QX:Option D:=(some (int 3))
theorem rq3_f{r:RqT}(hh:(Qd (r.campus<0)||Qd (r.campus≥7)||Qd (r.no<1)||Qd (r.no>1048576)||Qd (r.st<0)||Qd (r.st≥20000)||Qd (r.time<1)||Qd (r.time>1048576)||Qd ((3:Int)<1)||Qd ((3:Int)>5))=false)(hcw:CW GV Γq [] false (.loop (sub JF 0)) (Qm 3 r 1 1 true false) (.exit 0) (rlE 3 r 1 1 true false ((Qt r).length:Int) false))(h:List Blk):(Ev GV Γq 66 [.agg (rqD 3 r)] h (int 290) h):=by
 have hl0:=(@hcw)
 let v0:=(QO r)
 exact z0 (zaz r 3 1) (.c hh (.c (show inR 3 6=true from rfl) (.e ZC (.e ZC (.c (show @Eq (Option D) QX QX from rfl) (.c (show @Eq (Option D) QX QX from rfl) (.e Qh (.e Qh (.e Qh (.c (show @Eq (Option D) (some v0) (some v0) from rfl) (.c (show @Eq (Option D) (some v0) (some v0) from rfl) (.c (show @Eq (Option D) (some v0) (some v0) from rfl) (.c hl0 (.er true (.f (.f (.f (.c (pkf (ZQ) (bool false) rfl) (.f (.f (.f (.er false (.er false (.er false (.er false (.er false (.er false (.er false (.er false (.er false (.f (.c (pkf (ZQ) (bool false) rfl) (.er false (.c (show(!(false&&r.key==0))=true from rfl) .n)))))))))))))))))))))))))))))))))) h
def rqR3(r:RqT)(gb:Bool)(c:BuT):Int:=match !(gb&&c.sec != r.gsec&&r.key==0) with
 | true=>290
 | false=>0
noncomputable abbrev f9(r:RqT):List Blk:=[.var (Zp r 3),.var (XK 1 1 true false)]
abbrev WJ(a:BuT)(b:RqT):D:=(bool (a.sec != b.gsec))
noncomputable abbrev zaL(a:Nat)(d:RqT)(e:Bool)(f:BuT)(i:Bool):List Ans:=[.b false,.sum [1,3,4,5,74,75,76] (HJ 0) {t:=(ZZ a true),h:=(f9 d),m:=[]},.b true,.g true,.g true,.g true,.val (bool e),.ov 103 (bool e),.g true,.g true,.g true,.g true,.g true,.g true,.row (YN f),.g true,.g true,.g true,.g true,.g true,.g true,.g true,.ov 117 (WJ f d),.ov 118 (WJ f d),.b false,.b i]
theorem rq3_t{r:RqT}{gb:Bool}(hh:(Qd (r.campus<0)||Qd (r.campus≥7)||Qd (r.no<1)||Qd (r.no>1048576)||Qd (r.st<0)||Qd (r.st≥20000)||Qd (r.time<1)||Qd (r.time>1048576)||Qd ((3:Int)<1)||Qd ((3:Int)>5))=false)(hcw:CW GV Γq [] false (.loop (sub JF 0)) (Qm 3 r 1 1 true false) (.exit 0) (rlE 3 r 1 1 true false ((Qt r).length:Int) true))(hgv:∀h,Ev GV Γ0 94 [.agg [int r.gsec,int r.glab]] h (bool gb) h){c:BuT}(hn:(((Qt r).length:Int)==0)=false)(hc:af 0 (Qt r) c.row 2)(h:List Blk):(Ev GV Γq 66 [.agg (rqD 3 r)] h (int (rqR3 r gb c)) h):=by
 have hl0:=(@hcw)
 cases hc1:gb
 ·let v0:=(QO r)
  exact zD (int 290) (zaH r (f9 r) gb) (.c hh (.c (show inR 3 6=true from rfl) (.e ZC (.e ZC (.c (show @Eq (Option D) QX QX from rfl) (.c (show @Eq (Option D) QX QX from rfl) (.e Qh (.e Qh (.e Qh (.c (show @Eq (Option D) (some v0) (some v0) from rfl) (.c (show @Eq (Option D) (some v0) (some v0) from rfl) (.c (show @Eq (Option D) (some v0) (some v0) from rfl) (.c hl0 (.er true (.c (show(true==true)=true from rfl) (.c (show(true==true)=true from rfl) (.c (show(true==true)=true from rfl) (.c (Hx (Γ':=Γq) (@hgv (f9 r))) (.c (pkt (bool gb) (bool false) rfl) (.c (show(gb==true)=false from(by subst v0;rw[hc1]<;>rfl)) (.c (show(gb==true)=false from(by subst v0;rw[hc1]<;>rfl)) (.c (show(gb==true)=false from(by subst v0;rw[hc1]<;>rfl)) (.er false (.er false (.er false (.er false (.er false (.er false (.er false (.er false (.er false (.c (show(gb==true)=false from(by subst v0;rw[hc1]<;>rfl)) (.c (pkf (ZQ) (bool false) hc1) (.er false (.c (show(!(false&&r.key==0))=true from rfl) .n))))))))))))))))))))))))))))))))))) h (by subst v0;first|rfl|(simp only[rqR3,hc1,Iy,Bool.false_and];first|done|rfl))
 ·cases hc2:!(c.sec != r.gsec&&r.key==0)
  ·let v0:=G3 (GU G7 r.chs)
   let v1:=(QO r)
   exact zD (int 0) (zaL v0 r gb c false) (.c hh (.c (show inR 3 6=true from rfl) (.e ZC (.e ZC (.c (show @Eq (Option D) QX QX from rfl) (.c (show @Eq (Option D) QX QX from rfl) (.e Qh (.e Qh (.e Qh (.c (show @Eq (Option D) (some v1) (some v1) from rfl) (.c (show @Eq (Option D) (some v1) (some v1) from rfl) (.c (show @Eq (Option D) (some v1) (some v1) from rfl) (.c hl0 (.er true (.c (show(true==true)=true from rfl) (.c (show(true==true)=true from rfl) (.c (show(true==true)=true from rfl) (.c (Hx (Γ':=Γq) (@hgv (f9 r))) (.c (pkt (bool gb) (bool false) rfl) (.c (show(gb==true)=true from(by subst v0 v1;rw[hc1]<;>rfl)) (.c (show(gb==true)=true from(by subst v0 v1;rw[hc1]<;>rfl)) (.c (show(gb==true)=true from(by subst v0 v1;rw[hc1]<;>rfl)) (.c (show(((↑v0:Int)==0)==false)=true from(by subst v0 v1;rw[hn]<;>rfl)) (.c (show(((↑v0:Int)==0)==false)=true from(by subst v0 v1;rw[hn]<;>rfl)) (.c (show(((↑v0:Int)==0)==false)=true from(by subst v0 v1;rw[hn]<;>rfl)) (.c hc (.c (show(((↑v0:Int)==0)==false)=true from(by subst v0 v1;rw[hn]<;>rfl)) (.c (show(((↑v0:Int)==0)==false)=true from(by subst v0 v1;rw[hn]<;>rfl)) (.c (show(((↑v0:Int)==0)==false)=true from(by subst v0 v1;rw[hn]<;>rfl)) (.c (show(((↑v0:Int)==0)==false)=true from(by subst v0 v1;rw[hn]<;>rfl)) (.c (show(((↑v0:Int)==0)==false)=true from(by subst v0 v1;rw[hn]<;>rfl)) (.c (show(((↑v0:Int)==0)==false)=true from(by subst v0 v1;rw[hn]<;>rfl)) (.c (show(gb==true)=true from(by subst v0 v1;rw[hc1]<;>rfl)) (.c (pkf (bool true) (WJ c r) hn) (.c (pkt (WJ c r) (bool false) hc1) (.er false (.c hc2 .n))))))))))))))))))))))))))))))))))))) h (by subst v0 v1;first|rfl|(simp only[rqR3,hc2,Iy];first|done|rfl))
  ·let v0:=G3 (GU G7 r.chs)
   let v1:=(QO r)
   exact zD (int 290) (zaL v0 r gb c true) (.c hh (.c (show inR 3 6=true from rfl) (.e ZC (.e ZC (.c (show @Eq (Option D) QX QX from rfl) (.c (show @Eq (Option D) QX QX from rfl) (.e Qh (.e Qh (.e Qh (.c (show @Eq (Option D) (some v1) (some v1) from rfl) (.c (show @Eq (Option D) (some v1) (some v1) from rfl) (.c (show @Eq (Option D) (some v1) (some v1) from rfl) (.c hl0 (.er true (.c (show(true==true)=true from rfl) (.c (show(true==true)=true from rfl) (.c (show(true==true)=true from rfl) (.c (Hx (Γ':=Γq) (@hgv (f9 r))) (.c (pkt (bool gb) (bool false) rfl) (.c (show(gb==true)=true from(by subst v0 v1;rw[hc1]<;>rfl)) (.c (show(gb==true)=true from(by subst v0 v1;rw[hc1]<;>rfl)) (.c (show(gb==true)=true from(by subst v0 v1;rw[hc1]<;>rfl)) (.c (show(((↑v0:Int)==0)==false)=true from(by subst v0 v1;rw[hn]<;>rfl)) (.c (show(((↑v0:Int)==0)==false)=true from(by subst v0 v1;rw[hn]<;>rfl)) (.c (show(((↑v0:Int)==0)==false)=true from(by subst v0 v1;rw[hn]<;>rfl)) (.c hc (.c (show(((↑v0:Int)==0)==false)=true from(by subst v0 v1;rw[hn]<;>rfl)) (.c (show(((↑v0:Int)==0)==false)=true from(by subst v0 v1;rw[hn]<;>rfl)) (.c (show(((↑v0:Int)==0)==false)=true from(by subst v0 v1;rw[hn]<;>rfl)) (.c (show(((↑v0:Int)==0)==false)=true from(by subst v0 v1;rw[hn]<;>rfl)) (.c (show(((↑v0:Int)==0)==false)=true from(by subst v0 v1;rw[hn]<;>rfl)) (.c (show(((↑v0:Int)==0)==false)=true from(by subst v0 v1;rw[hn]<;>rfl)) (.c (show(gb==true)=true from(by subst v0 v1;rw[hc1]<;>rfl)) (.c (pkf (bool true) (WJ c r) hn) (.c (pkt (WJ c r) (bool false) hc1) (.er false (.c hc2 .n))))))))))))))))))))))))))))))))))))) h (by subst v0 v1;first|rfl|(simp only[rqR3,hc2,Iy];first|done|rfl))
def rqR4(r:RqT)(ok:Bool):Int:=match !(ok&&(r.gsec==0&&(r.glab==0&&true))&&r.key==0) with
 | true=>290
 | false=>0
abbrev YZ:Option D:=(some (int 4))
abbrev WI:List D:=[int 1,int 1,bool false,bool false]
theorem rq4_a{r:RqT}{ok:Bool}(hh:(Qd (r.campus<0)||Qd (r.campus≥7)||Qd (r.no<1)||Qd (r.no>1048576)||Qd (r.st<0)||Qd (r.st≥20000)||Qd (r.time<1)||Qd (r.time>1048576)||Qd ((4:Int)<1)||Qd ((4:Int)>5))=false)(hcw:CW GV Γq [] false (.loop (sub JF 0)) (Qm 4 r 1 1 false false) (.exit 0) (rlE 4 r 1 1 false false ((Qt r).length:Int) ok))(h:List Blk):(Ev GV Γq 66 [.agg (rqD 4 r)] h (int (rqR4 r ok)) h):=by
 have hl0:=(@hcw)
 cases hc1:!(ok&&(r.gsec==0&&(r.glab==0&&true))&&r.key==0)
 ·let v0:=(QO r)
  exact zD (int 0) (zar r ok 4 WI false false) (.c hh (.c (show inR 4 6=true from rfl) (.e ZC (.e ZC (.c (show @Eq (Option D) YZ YZ from rfl) (.c (show @Eq (Option D) YZ YZ from rfl) (.e Qh (.e Qh (.e Qh (.c (show @Eq (Option D) (some v0) (some v0) from rfl) (.c (show @Eq (Option D) (some v0) (some v0) from rfl) (.c (show @Eq (Option D) (some v0) (some v0) from rfl) (.c hl0 (.er false (.er false (.c hc1 .n)))))))))))))))) h (by subst v0;first|rfl|(simp only[rqR4,hc1];first|done|rfl))
 ·let v0:=(QO r)
  exact zD (int 290) (zar r ok 4 WI false true) (.c hh (.c (show inR 4 6=true from rfl) (.e ZC (.e ZC (.c (show @Eq (Option D) YZ YZ from rfl) (.c (show @Eq (Option D) YZ YZ from rfl) (.e Qh (.e Qh (.e Qh (.c (show @Eq (Option D) (some v0) (some v0) from rfl) (.c (show @Eq (Option D) (some v0) (some v0) from rfl) (.c (show @Eq (Option D) (some v0) (some v0) from rfl) (.c hl0 (.er false (.er false (.c hc1 .n)))))))))))))))) h (by subst v0;first|rfl|(simp only[rqR4,hc1];first|done|rfl))
def rqR5(r:RqT)(ok:Bool):Int:=match !(ok&&(r.gsec==0&&(r.glab==0&&true))&&r.key==0) with
 | true=>290
 | false=>0
abbrev Y0:Option D:=(some (int 5))
theorem rq5_a{r:RqT}{ok:Bool}(hh:(Qd (r.campus<0)||Qd (r.campus≥7)||Qd (r.no<1)||Qd (r.no>1048576)||Qd (r.st<0)||Qd (r.st≥20000)||Qd (r.time<1)||Qd (r.time>1048576)||Qd ((5:Int)<1)||Qd ((5:Int)>5))=false)(hcw:CW GV Γq [] false (.loop (sub JF 0)) (Qm 5 r 1 1 false false) (.exit 0) (rlE 5 r 1 1 false false ((Qt r).length:Int) ok))(h:List Blk):(Ev GV Γq 66 [.agg (rqD 5 r)] h (int (rqR5 r ok)) h):=by
 have hl0:=(@hcw)
 cases hc1:!(ok&&(r.gsec==0&&(r.glab==0&&true))&&r.key==0)
 ·let v0:=(QO r)
  exact zD (int 0) (zar r ok 5 WI false false) (.c hh (.c (show inR 5 6=true from rfl) (.e ZC (.e ZC (.c (show @Eq (Option D) Y0 Y0 from rfl) (.c (show @Eq (Option D) Y0 Y0 from rfl) (.e Qh (.e Qh (.e Qh (.c (show @Eq (Option D) (some v0) (some v0) from rfl) (.c (show @Eq (Option D) (some v0) (some v0) from rfl) (.c (show @Eq (Option D) (some v0) (some v0) from rfl) (.c hl0 (.er false (.er false (.c hc1 .n)))))))))))))))) h (by subst v0;first|rfl|(simp only[rqR5,hc1];first|done|rfl))
 ·let v0:=(QO r)
  exact zD (int 290) (zar r ok 5 WI false true) (.c hh (.c (show inR 5 6=true from rfl) (.e ZC (.e ZC (.c (show @Eq (Option D) Y0 Y0 from rfl) (.c (show @Eq (Option D) Y0 Y0 from rfl) (.e Qh (.e Qh (.e Qh (.c (show @Eq (Option D) (some v0) (some v0) from rfl) (.c (show @Eq (Option D) (some v0) (some v0) from rfl) (.c (show @Eq (Option D) (some v0) (some v0) from rfl) (.c hl0 (.er false (.er false (.c hc1 .n)))))))))))))))) h (by subst v0;first|rfl|(simp only[rqR5,hc1];first|done|rfl))
end Go.Vi
