/- A part of the proof; no conditions of its own. -/
import Derived.Test.YtelhocjibmofiaaGreatDoorW1
open Decidable renaming decide -> Zd
open Go.Proofs.Tryz renaming prog -> MJ, f219 -> NO, f231 -> SX, f100 -> NA
open Go.IntKind renaming i64 -> ML, wrap -> MN
open List renaming length -> MO, getElem?_eq_some_iff -> MR, getElem?_eq_getElem -> Nd, getD -> Nb, getElem_mem -> Qg, map -> MK, mem_map -> Nt, flatten -> Nf, set -> OZ
open Go.Vi.Ev renaming zfL -> Ns, zfO -> Na, zeY -> Ov, zjI -> QU
open Bool renaming not_eq_true' -> OC
open Go.Vi.D renaming fn -> Oe, agg -> Oo, UI -> NG
open Go.Fn renaming func -> M7
open Go.LoopState renaming busy -> NJ, ready -> Nl, done -> PJ, exhausted -> NM
open Go.Exit renaming normal -> M6, ret -> Oq
open Go.Vi.Dp renaming sl -> OX
open Go.Code renaming ret -> RB
open Go.Vi.zfx renaming row -> M9
open Go.Vi.Uh renaming row -> M3
open Int renaming toNat -> MU
open Option renaming some -> Ps
open Go Go.Proofs
namespace Go.Vi
set_option maxRecDepth 100000
set_option maxHeartbeats 4000000
variable {b:Bool}{c d dep kk ST ko m m' m0 n T4 v:Int}{f f0 g:Uh}{fs ks:bv}{h:aT}{i off:Nat}{nm:ByteArray}{rs:bY}{s0:Bv}{α:Type}
abbrev M2:=List zfx
abbrev By:=List Uh
variable {b0 Ug:By}
abbrev iF:=List Uj
abbrev kd'(a b c d:Bool)(f g:Value):dO:=[.v (.bool a),.v (.bool b),.v (.bool c),.v (.bool d),.v f,.v g]
abbrev kf'(k:Nat):Value:=.func (.func k) #[] #[]
def CF:dO :=
 kd' false false false false .nilFunc .nilFunc++kd' false false false true (kf' 250) (kf' 251)++kd' false false false true (kf' 252) (kf' 253)++kd' false true false true (kf' 254) (kf' 255) ++
 kd' false false false true (kf' 256) (kf' 257)++kd' true true false false (kf' 258) (kf' 260)++kd' true true false false (kf' 262) (kf' 263)++kd' false true false false (kf' 264) (kf' 265) ++
 kd' false true true false (kf' 266) (kf' 268)++kd' true false false false (kf' 259) (kf' 269)
def Un:aq:=λg=>match g with|0=>some CF|_=>none
theorem Kj{a b:Int}(ha:κ a)(hb:κ b)(h:aT):(Ev MJ U2 267 (zbD a b) h (T6 (fu a b==0&&Zd (a>=0)&&Zd (a<=ML.wrap (12*b)))) h):=by
 exact z0 [.val (zbF a b)] (.c (@ek a b ha hb (X8 a b)) .n) h
abbrev Z9(a b:Int)(e:ByteArray)(f g:Int)(h:bv):bY:=[SW a,SW b,ak e,SW f,SW g,ab h]
abbrev ruD(op c:Int)(nm:ByteArray)(n d:Int)(ks:bv):D:=.agg (Z9 op c nm n d ks)
theorem Kk{op c:Int}{nm:ByteArray}{n d:Int}{ks:bv}(h:aT):(Ev MJ U2 250 [ruD op c nm n d ks] h (T6 true) h):=by
 exact z0 [] .n h
theorem Kl{op c:Int}{nm:ByteArray}{n d:Int}{ks:bv}(h:aT):(Ev MJ U2 252 [ruD op c nm n d ks] h (T6 true) h):=by
 exact z0 [] .n h
abbrev Z3(a b:Int)(e:ByteArray)(f g:Int)(h:bv):aT:=([.var [SW a,SW b,ak e,SW f,SW g,ab h]])
theorem Km{op c:Int}{nm:ByteArray}{n d:Int}{ks:bv}(h:aT):(Ev MJ U2 254 [ruD op c nm n d ks] h (T6 (Xl n 0 200)) h):=by
 exact z0 [.val (Yt n 0 200)] (.c (@bw n 0 200 (Z3 op c nm n d ks)) .n) h
theorem Kn{op c:Int}{nm:ByteArray}{n d:Int}{ks:bv}(h:aT):(Ev MJ U2 256 [ruD op c nm n d ks] h (T6 ((ks.length:Int)==1)) h):=by
 exact z0 [] .n h
abbrev zau(a:Int):D:=T6 (Xl a 0 4095)
theorem wM{op c:Int}{nm:ByteArray}{n d:Int}{ks:bv}(h:aT):(Ev MJ U2 259 [ruD op c nm n d ks] h (zau c) h):=by
 exact z0 [.val (Yk c)] (.c (@bw c 0 4095 (Z3 op c nm n d ks)) .n) h
theorem Ko{op c:Int}{nm:ByteArray}{n d:Int}{ks:bv}(h:aT):(Ev MJ U2 258 [ruD op c nm n d ks] h (T6 (Xl c 0 4095&&Xl n 0 12)) h):=by
 exact z0 [.val (zau c),.val (zcr n 12)] (.c (@wM op c nm n d ks (Z3 op c nm n d ks)) (.c (gd (Xl c 0 4095) (@bw n 0 12 (Z3 op c nm n d ks))) .n)) h
theorem Kp{op c:Int}{nm:ByteArray}{n d:Int}{ks:bv}(h:aT):(Ev MJ U2 262 [ruD op c nm n d ks] h (T6 (Xl c 0 4095&&Xl n 1 100)) h):=by
 exact z0 [.val (zau c),.val (Yt n 1 100)] (.c (@wM op c nm n d ks (Z3 op c nm n d ks)) (.c (gd (Xl c 0 4095) (@bw n 1 100 (Z3 op c nm n d ks))) .n)) h
abbrev zaK(a:Int):D:=(T6 (Xl a 0 10000))
theorem Kq{op c:Int}{nm:ByteArray}{n d:Int}{ks:bv}(h:aT):(Ev MJ U2 264 [ruD op c nm n d ks] h (zaK n) h):=by
 exact z0 [.val (Yt n 0 10000)] (.c (@bw n 0 10000 (Z3 op c nm n d ks)) .n) h
def Ga(a b:Int):Bool:=fu a b==0&&Zd (a>=0)&&Zd (a<=ML.wrap (12*b))
theorem Kr{op c:Int}{nm:ByteArray}{n d:Int}{ks:bv}(hn:κ n)(hd:κ d)(h:aT):(Ev MJ U2 266 [ruD op c nm n d ks] h (T6 (Ga n d)) h):=by
 exact z0 [.val (T6 (fu n d==0&&Zd (n>=0)&&Zd (n<=MN ML (12*d))))] (.c (@Kj n d hn hd (Z3 op c nm n d ks)) .n) h
def ay(op c n d k:Int):Bool :=
 if (!(op==5||op==6||op==9)&&c != 0||!(op==3||op==5||op==6||op==7||op==8)&&n != 0||op != 8&&d != 0||(Zd (op>=5)&&Zd (op<=9))&&Zd (k>0))=true then false
 else if op=1 then true else if op=2 then true else if op=3 then Xl n 0 200 else if op=4 then k==1 else if op=5 then Xl c 0 4095&&Xl n 0 12
 else if op=6 then Xl c 0 4095&&Xl n 1 100 else if op=7 then Xl n 0 10000 else if op=8 then Ga n d else if op=9 then Xl c 0 4095 else false
abbrev zae(a:Bool)(b c:Nat):bY:=[T6 false,T6 a,T6 false,T6 true,fq b,fq c]
noncomputable abbrev uX(c:Int)(nm:ByteArray)(n:Int)(d:Int)(ks:bv):aT:=[.var (Z9 1 c nm n d ks),.var (zae false 250 251)]
abbrev Yp(a:Nat)(c:Bool):BY:=[.val (T6 (Zd (a>=1)&&Zd (a<=9))),.b false,.b false,.val (T6 c)]
abbrev YC(a:Nat):D:=(T6 (Zd (a>=1)&&Zd (a<=9)))
theorem CG(h:aT):(Ev MJ Un 226 [ruD 1 c nm n d ks] h (T6 (ay 1 c n d ks.length)) h):=by
 cases U5:!false&&c != 0||!false&&n != 0||!false&&d != 0||!true&&Zd ((↑(MO ks):Int)>0)
 ·exact zD (T6 true) (Yp 1 true) (.c (Ns (Γ':=Un) (@bw 1 1 9 (Z3 1 c nm n d ks))) (.c (show(!(Zd (1>=1)&&Zd (1<=9)))=false from rfl) (.c (show UU 1 10=true from rfl) (.c U5 (.c (Ns (Γ':=Un) (@Kk 1 c nm n d ks (uX c nm n d ks))) .n))))) h (by first|rfl|(simp[ay];done)|(simp_all[ay];done))
 ·exact zD (T6 false) [.val (YC 1),.b false,.b true] (.c (Ns (Γ':=Un) (@bw 1 1 9 (Z3 1 c nm n d ks))) (.c (show(!(Zd (1>=1)&&Zd (1<=9)))=false from rfl) (.c (show UU 1 10=true from rfl) (.c U5 .n)))) h (by first|rfl|(simp[ay];done)|(simp_all[ay];done))
noncomputable abbrev uY(c:Int)(nm:ByteArray)(n:Int)(d:Int)(ks:bv):aT:=[.var (Z9 2 c nm n d ks),.var (zae false 252 253)]
theorem CH(h:aT):(Ev MJ Un 226 [ruD 2 c nm n d ks] h (T6 (ay 2 c n d ks.length)) h):=by
 cases U5:!false&&c != 0||!false&&n != 0||!false&&d != 0||!true&&Zd ((↑(MO ks):Int)>0)
 ·exact zD (T6 true) (Yp 2 true) (.c (Ns (Γ':=Un) (@bw 2 1 9 (Z3 2 c nm n d ks))) (.c (show(!(Zd (2>=1)&&Zd (2<=9)))=false from rfl) (.c (show UU 2 10=true from rfl) (.c U5 (.c (Ns (Γ':=Un) (@Kl 2 c nm n d ks (uY c nm n d ks))) .n))))) h (by first|rfl|(simp[ay];done)|(simp_all[ay];done))
 ·exact zD (T6 false) [.val (YC 2),.b false,.b true] (.c (Ns (Γ':=Un) (@bw 2 1 9 (Z3 2 c nm n d ks))) (.c (show(!(Zd (2>=1)&&Zd (2<=9)))=false from rfl) (.c (show UU 2 10=true from rfl) (.c U5 .n)))) h (by first|rfl|(simp[ay];done)|(simp_all[ay];done))
noncomputable abbrev uZ(c:Int)(nm:ByteArray)(n:Int)(d:Int)(ks:bv):aT:=[.var (Z9 3 c nm n d ks),.var (zae true 254 255)]
theorem CI(h:aT):(Ev MJ Un 226 [ruD 3 c nm n d ks] h (T6 (ay 3 c n d ks.length)) h):=by
 cases U5:!false&&c != 0||!true&&n != 0||!false&&d != 0||!true&&Zd ((↑(MO ks):Int)>0)
 ·exact zD (T6 (Xl n 0 200)) (Yp 3 (Xl n 0 200)) (.c (Ns (Γ':=Un) (@bw 3 1 9 (Z3 3 c nm n d ks))) (.c (show(!(Zd (3>=1)&&Zd (3<=9)))=false from rfl) (.c (show UU 3 10=true from rfl) (.c U5 (.c (Ns (Γ':=Un) (@Km 3 c nm n d ks (uZ c nm n d ks))) .n))))) h (by first|rfl|(simp[ay];done)|(simp_all[ay];done))
 ·exact zD (T6 false) [.val (YC 3),.b false,.b true] (.c (Ns (Γ':=Un) (@bw 3 1 9 (Z3 3 c nm n d ks))) (.c (show(!(Zd (3>=1)&&Zd (3<=9)))=false from rfl) (.c (show UU 3 10=true from rfl) (.c U5 .n)))) h (by first|rfl|(simp[ay];done)|(simp_all[ay];done))
noncomputable abbrev u0(c:Int)(nm:ByteArray)(n:Int)(d:Int)(ks:bv):aT:=[.var (Z9 4 c nm n d ks),.var (zae false 256 257)]
theorem CJ(h:aT):(Ev MJ Un 226 [ruD 4 c nm n d ks] h (T6 (ay 4 c n d ks.length)) h):=by
 cases U5:!false&&c != 0||!false&&n != 0||!false&&d != 0||!true&&Zd ((↑(MO ks):Int)>0)
 ·exact zD (T6 ((↑(MO ks):Int)==1)) (Yp 4 ((↑(MO ks):Int)==1)) (.c (Ns (Γ':=Un) (@bw 4 1 9 (Z3 4 c nm n d ks))) (.c (show(!(Zd (4>=1)&&Zd (4<=9)))=false from rfl) (.c (show UU 4 10=true from rfl) (.c U5 (.c (Ns (Γ':=Un) (@Kn 4 c nm n d ks (u0 c nm n d ks))) .n))))) h (by first|rfl|(simp[ay];done)|(simp_all[ay];done))
 ·exact zD (T6 false) [.val (YC 4),.b false,.b true] (.c (Ns (Γ':=Un) (@bw 4 1 9 (Z3 4 c nm n d ks))) (.c (show(!(Zd (4>=1)&&Zd (4<=9)))=false from rfl) (.c (show UU 4 10=true from rfl) (.c U5 .n)))) h (by first|rfl|(simp[ay];done)|(simp_all[ay];done))
noncomputable abbrev u3(c:Int)(nm:ByteArray)(n:Int)(d:Int)(ks:bv):aT:=[.var (Z9 5 c nm n d ks),.var [T6 true,T6 true,T6 false,T6 false,fq 258,fq 260]]
theorem CK(h:aT):(Ev MJ Un 226 [ruD 5 c nm n d ks] h (T6 (ay 5 c n d ks.length)) h):=by
 cases U5:!true&&c != 0||!true&&n != 0||!false&&d != 0||!false&&Zd ((↑(MO ks):Int)>0)
 ·exact zD (T6 (Xl c 0 4095&&Xl n 0 12)) (Yp 5 (Xl c 0 4095&&Xl n 0 12)) (.c (Ns (Γ':=Un) (@bw 5 1 9 (Z3 5 c nm n d ks))) (.c (show(!(Zd (5>=1)&&Zd (5<=9)))=false from rfl) (.c (show UU 5 10=true from rfl) (.c U5 (.c (Ns (Γ':=Un) (@Ko 5 c nm n d ks (u3 c nm n d ks))) .n))))) h (by first|rfl|(simp[ay];done)|(simp_all[ay];done))
 ·exact zD (T6 false) [.val (YC 5),.b false,.b true] (.c (Ns (Γ':=Un) (@bw 5 1 9 (Z3 5 c nm n d ks))) (.c (show(!(Zd (5>=1)&&Zd (5<=9)))=false from rfl) (.c (show UU 5 10=true from rfl) (.c U5 .n)))) h (by first|rfl|(simp[ay];done)|(simp_all[ay];done))
noncomputable abbrev u4(c:Int)(nm:ByteArray)(n:Int)(d:Int)(ks:bv):aT:=[.var (Z9 6 c nm n d ks),.var [T6 true,T6 true,T6 false,T6 false,fq 262,fq 263]]
theorem CL(h:aT):(Ev MJ Un 226 [ruD 6 c nm n d ks] h (T6 (ay 6 c n d ks.length)) h):=by
 cases U5:!true&&c != 0||!true&&n != 0||!false&&d != 0||!false&&Zd ((↑(MO ks):Int)>0)
 ·exact zD (T6 (Xl c 0 4095&&Xl n 1 100)) (Yp 6 (Xl c 0 4095&&Xl n 1 100)) (.c (Ns (Γ':=Un) (@bw 6 1 9 (Z3 6 c nm n d ks))) (.c (show(!(Zd (6>=1)&&Zd (6<=9)))=false from rfl) (.c (show UU 6 10=true from rfl) (.c U5 (.c (Ns (Γ':=Un) (@Kp 6 c nm n d ks (u4 c nm n d ks))) .n))))) h (by first|rfl|(simp[ay];done)|(simp_all[ay];done))
 ·exact zD (T6 false) [.val (YC 6),.b false,.b true] (.c (Ns (Γ':=Un) (@bw 6 1 9 (Z3 6 c nm n d ks))) (.c (show(!(Zd (6>=1)&&Zd (6<=9)))=false from rfl) (.c (show UU 6 10=true from rfl) (.c U5 .n)))) h (by first|rfl|(simp[ay];done)|(simp_all[ay];done))
noncomputable abbrev u5(c:Int)(nm:ByteArray)(n:Int)(d:Int)(ks:bv):aT:=[.var (Z9 7 c nm n d ks),.var [T6 false,T6 true,T6 false,T6 false,fq 264,fq 265]]
theorem CM(h:aT):(Ev MJ Un 226 [ruD 7 c nm n d ks] h (T6 (ay 7 c n d ks.length)) h):=by
 cases U5:!false&&c != 0||!true&&n != 0||!false&&d != 0||!false&&Zd ((↑(MO ks):Int)>0)
 ·exact zD (zaK n) (Yp 7 (Xl n 0 10000)) (.c (Ns (Γ':=Un) (@bw 7 1 9 (Z3 7 c nm n d ks))) (.c (show(!(Zd (7>=1)&&Zd (7<=9)))=false from rfl) (.c (show UU 7 10=true from rfl) (.c U5 (.c (Ns (Γ':=Un) (@Kq 7 c nm n d ks (u5 c nm n d ks))) .n))))) h (by first|rfl|(simp[ay];done)|(simp_all[ay];done))
 ·exact zD (T6 false) [.val (YC 7),.b false,.b true] (.c (Ns (Γ':=Un) (@bw 7 1 9 (Z3 7 c nm n d ks))) (.c (show(!(Zd (7>=1)&&Zd (7<=9)))=false from rfl) (.c (show UU 7 10=true from rfl) (.c U5 .n)))) h (by first|rfl|(simp[ay];done)|(simp_all[ay];done))
noncomputable abbrev u6(c:Int)(nm:ByteArray)(n:Int)(d:Int)(ks:bv):aT:=[.var (Z9 8 c nm n d ks),.var [T6 false,T6 true,T6 true,T6 false,fq 266,fq 268]]
theorem CN(hn:κ n)(hd:κ d)(h:aT):(Ev MJ Un 226 [ruD 8 c nm n d ks] h (T6 (ay 8 c n d ks.length)) h):=by
 cases U5:!false&&c != 0||!true&&n != 0||!true&&d != 0||!false&&Zd ((↑(MO ks):Int)>0)
 ·exact zD (T6 (Ga n d)) (Yp 8 (Ga n d)) (.c (Ns (Γ':=Un) (@bw 8 1 9 (Z3 8 c nm n d ks))) (.c (show(!(Zd (8>=1)&&Zd (8<=9)))=false from rfl) (.c (show UU 8 10=true from rfl) (.c U5 (.c (Ns (Γ':=Un) (@Kr 8 c nm n d ks hn hd (u6 c nm n d ks))) .n))))) h (by first|rfl|(simp[ay];done)|(simp_all[ay];done))
 ·exact zD (T6 false) [.val (YC 8),.b false,.b true] (.c (Ns (Γ':=Un) (@bw 8 1 9 (Z3 8 c nm n d ks))) (.c (show(!(Zd (8>=1)&&Zd (8<=9)))=false from rfl) (.c (show UU 8 10=true from rfl) (.c U5 .n)))) h (by first|rfl|(simp[ay];done)|(simp_all[ay];done))
noncomputable abbrev u7(c:Int)(nm:ByteArray)(n:Int)(d:Int)(ks:bv):aT:=[.var (Z9 9 c nm n d ks),.var [T6 true,T6 false,T6 false,T6 false,fq 259,fq 269]]
theorem CO(h:aT):(Ev MJ Un 226 [ruD 9 c nm n d ks] h (T6 (ay 9 c n d ks.length)) h):=by
 cases U5:!true&&c != 0||!false&&n != 0||!false&&d != 0||!false&&Zd ((↑(MO ks):Int)>0)
 ·exact zD (zau c) (Yp 9 (Xl c 0 4095)) (.c (Ns (Γ':=Un) (@bw 9 1 9 (Z3 9 c nm n d ks))) (.c (show(!(Zd (9>=1)&&Zd (9<=9)))=false from rfl) (.c (show UU 9 10=true from rfl) (.c U5 (.c (Ns (Γ':=Un) (@wM 9 c nm n d ks (u7 c nm n d ks))) .n))))) h (by first|rfl|(simp[ay];done)|(simp_all[ay];done))
 ·exact zD (T6 false) [.val (YC 9),.b false,.b true] (.c (Ns (Γ':=Un) (@bw 9 1 9 (Z3 9 c nm n d ks))) (.c (show(!(Zd (9>=1)&&Zd (9<=9)))=false from rfl) (.c (show UU 9 10=true from rfl) (.c U5 .n)))) h (by first|rfl|(simp[ay];done)|(simp_all[ay];done))
theorem CP{op:Int}(ho:(!(Zd (op>=1)&&Zd (op<=9)))=true)(h:aT):(Ev MJ Un 226 [ruD op c nm n d ks] h (T6 false) h):=by
 exact z0 [.val (Yt op 1 9),.b true] (.c (Ns (Γ':=Un) (@bw op 1 9 (Z3 op c nm n d ks))) (.c ho .n)) h
theorem u9{op c:Int}{nm:ByteArray}{n d:Int}{ks:bv}(hn:κ n)(hd:κ d)(h:aT):Ev MJ Un 226 [ruD op c nm n d ks] h (T6 (ay op c n d ks.length)) h:=by
 by_cases ho:(!(Zd (op>=1)&&Zd (op<=9)))=true
 ·have:=CP (op:=op) (c:=c) (nm:=nm) (n:=n) (d:=d) (ks:=ks) ho h
  have e:ay op c n d ks.length=false:=by
   simp only[OC,Bool.and_eq_false_iff,decide_eq_false_iff_not] at ho
   unfold ay
   split
   ·rfl
   ·repeat' (split;· omega)
    rfl
  rw[e];exact this
 ·have:op=1\/op=2\/op=3\/op=4\/op=5\/op=6\/op=7\/op=8\/op=9:=by
   simp only[OC,Bool.not_eq_false,Bool.and_eq_true,decide_eq_true_eq] at ho
   omega
  rcases this with rfl|rfl|rfl|rfl|rfl|rfl|rfl|rfl|rfl
  ·exact CG h
  ·exact CH h
  ·exact CI h
  ·exact CJ h
  ·exact CK h
  ·exact CL h
  ·exact CM h
  ·exact CN hn hd h
  ·exact CO h
inductive U9 where
 | mk (op T5:Int) (name:ByteArray) (n d:Int) (kids:List U9)
variable {r:U9}
mutual
def U9.row:U9->dO
 | .mk op c nm n d ks=>[vi op,vi c,vs nm,vi n,vi d,.sl (ky ks)]
def ky:List U9->bv
 | []=>[]
 | k::ks=>k.row::ky ks
end
theorem e7:∀ks:List U9,ky ks=ks.map U9.row
 | []=>rfl
 | k::ks=>by simp[ky,e7 ks]
mutual
def U9.ok:U9->Prop
 | .mk op c _ n d ks=>(κ op/\κ c/\κ n/\κ d/\am ks)/\jE ks
def jE:List U9->Prop
 | []=>True
 | k::ks=>k.ok/\jE ks
end
theorem pn:∀{ks:List U9},jE ks->∀k∈ks,k.ok
 | [],_,k,hk=>by simp at hk
 | a::ks,h,k,hk=>by
  simp only[jE] at h
  rcases List.mem_cons.1 hk with rfl|hk
  ·exact h.1
  ·exact pn h.2 k hk
structure RuF where
 op:Int
 c:Int
 nm:ByteArray
 n:Int
 d:Int
 ks:bv
variable {r0 x y:RuF}
def RuF.row(x:RuF):dO:=[vi x.op,vi x.c,vs x.nm,vi x.n,vi x.d,.sl x.ks]
abbrev Zj(a:RuF):bY:=[SW a.op,SW a.c,ak a.nm,SW a.n,SW a.d,ab a.ks]
def RuF.l(x:RuF):bY:=(Zj x)
def RuF.formed(x:RuF):Bool:=ay x.op x.c x.n x.d x.ks.length
def RuF.ok(x:RuF):Prop:=κ x.n/\κ x.d
def po(n1 dep:Int)(f:Bool):Bool:=Zd (n1>200)||Zd (dep>16)||!f
abbrev Z7:bY:=(zcB 4 3)
abbrev Y2:Nat×D:=(zcL 2)
abbrev Y3:Nat×D:=(zcH 3)
abbrev ckT:bY:=Ue 23 0 [Y2,Y3,(7,.fn (.func 232) [] Z7)]
abbrev Ya:bY:=(zez 4)
noncomputable abbrev ckH(r:RuF)(e n:Int)(st:LoopState)(pe:Of):aT :=
 [.var r.l,.var [SW e],.var [SW n],.var r.l,.var [.fn (.func 231) [] Ya],.Ut,.loop st pe 0 ckT #[8,9] (ar (sub NO 0)) (af (sub NO 0))]
abbrev ckU(dep:Int):bY:=Ue 23 0 [Y2,Y3,(4,SW dep),(5,.ref (.ptr 8 0)),(7,.fn (.func 232) [] Z7)]
noncomputable abbrev YG(a:RuF)(b:Int):aT:=ckH a 0 b .ready none
abbrev zak(a:RuF):aT:=(zc9 (a.l))
theorem HU:(CW MJ Un ((YG r0 m)++[.var (x.l)]) true (ar (sub NO 0)) {t:=dW ckT [(8,SW dep),(9,.agg x.l)],h:=(YG r0 m)++[.var (x.l)],m:=[]} .normal {t:=ckU dep,h:=(YG r0 m)++(zak x),m:=[]}):=by
 let v0:bY:=(Zj r0)
 let v1:bY:=(Zj x)
 exact zx [.st (.mask [2,3,4,5,7])] [] .n
abbrev Xy(a:Nat)(b:aT):AS:={t:=Ue a 0 [],h:=b,m:=[]}
noncomputable def qh(r0:RuF)(m1:Int)(more:aT)(b:Bool):Exit×AS:=match b with
 | true=>(.ret,{t:=Ue 23 0 [],h:=ckH r0 120 m1 .busy none++more,m:=[]})
 | false=>(.normal,(Xy 23 (ckH r0 0 m1 .busy none++more)))
abbrev Zr:bY:=Ue 23 0 [(zcL 2),(zcH 3),(7,Oe (M7 232) [] (zcB 4 3))]
abbrev Wb:Array Tmp:={toList:=[8,9]}
abbrev zd1:bY:=[Oe (M7 231) [] Ya]
noncomputable abbrev lR(r0:RuF)(m:Int)(x:RuF):aT:=[.var (Zj r0),.var [SW 0],.var [SW (MN ML (m+1))],.var (Zj r0),.var zd1,.Ut,.loop NJ none 0 (Zr) Wb (ar (sub NO 0)) (af (sub NO 0)),.var (Zj x),.var (Zj x)]
theorem Ks(hx:x.ok):(CW MJ Un ((YG r0 m)++[.var (x.l)]) true (af (sub NO 0)) {t:=ckU dep,h:=ckH r0 0 m .busy none++(zak x),m:=[]} (qh r0 (ML.wrap (m+1)) (zak x) (po (ML.wrap (m+1)) dep (x.formed))).1 (qh r0 (ML.wrap (m+1)) (zak x) (po (ML.wrap (m+1)) dep (x.formed))).2):=by
 cases U5:Zd (MN ML (m+1)>200)||Zd (dep>16)||!ay x.op x.c x.n x.d (↑(MO x.ks):Int)
 ·refine zX (Xy 23 (lR r0 m x)) M6 Xd [.val (T6 (ay x.op x.c x.n x.d (↑(MO x.ks):Int))),.b false] (.c (gd (!(Zd (MN ML (m+1)>200)||Zd (dep>16))) (@u9 (x.op) (x.c) (x.nm) (x.n) (x.d) (x.ks) (by first|assumption|exact hx.1|exact hx.2|rfl) (by first|assumption|exact hx.1|exact hx.2|rfl) (lR r0 m x))) (.c U5 .n)) ?_ ?_<;>(first|(have hs:po (ML.wrap (m+1)) dep (x.formed)=true:=U5;(first|(simp only[hs,qh];done)|(simp only[hs,qh];rfl)))|(have hs:po (ML.wrap (m+1)) dep (x.formed)=false:=U5;(first|(simp only[hs,qh];done)|(simp only[hs,qh];rfl))))
 ·let v0:bY:=(Zj r0)
  let v1:bY:=(Zj x)
  refine zX {t:=Ue 23 0 [],h:=[.var v0,.var [SW 120],.var [SW (MN ML (m+1))],.var v0,.var zd1,.Ut,.loop NJ none 0 (Zr) Wb (ar (sub NO 0)) (af (sub NO 0)),.var v1,.var v1],m:=[]} Oq Xd [.val (T6 (ay x.op x.c x.n x.d (↑(MO x.ks):Int))),.b true] (.c (gd (!(Zd (MN ML (m+1)>200)||Zd (dep>16))) (@u9 (x.op) (x.c) (x.nm) (x.n) (x.d) (x.ks) (by subst v0 v1;first|assumption|exact hx.1|exact hx.2|rfl) (by subst v0 v1;first|assumption|exact hx.1|exact hx.2|rfl) (lR r0 m x))) (.c U5 .n)) ?_ ?_<;>subst v0 v1<;>(first|(have hs:po (ML.wrap (m+1)) dep (x.formed)=true:=U5;(first|(simp only[hs,qh];done)|(simp only[hs,qh];rfl)))|(have hs:po (ML.wrap (m+1)) dep (x.formed)=false:=U5;(first|(simp only[hs,qh];done)|(simp only[hs,qh];rfl))))
noncomputable abbrev Vw(a:RuF)(b:Int):aT:=ckH a 120 b .done (some .ret)
noncomputable def Kt(r0:RuF)(m1:Int)(b:Bool):aT:=match b with
 | true=>(Vw r0 m1)
 | false=>(YG r0 m1)
theorem Ku(hx:x.ok):Iv MJ Un (.ref (.yl 6)) [SW dep,.agg x.l] ((YG r0 m)++[.var (x.l)]) (T6 (!po (ML.wrap (m+1)) dep (x.formed)))
  (Kt r0 (ML.wrap (m+1)) (po (ML.wrap (m+1)) dep (x.formed))++(zak x)):=by
 have hb:=Ks (r0:=r0) (m:=m) (dep:=dep) hx
 cases h:po (ML.wrap (m+1)) dep (x.formed)
 ·rw[h] at hb
  exact Iv.round (h1:=(YG r0 m)++(zak x)) rfl rfl HU rfl hb rfl
 ·rw[h] at hb
  exact Iv.round (h1:=(YG r0 m)++(zak x)) rfl rfl HU rfl hb rfl
mutual
def U9.walk:U9->Int->Int->Int×Bool
 | .mk op c _ n d ks,dep,m=>match po (ML.wrap (m+1)) dep (ay op c n d ks.length) with
  | true=>(ML.wrap (m+1),true)
  | false=>zhk ks (ML.wrap (dep+1)) (ML.wrap (m+1))
def zhk:List U9->Int->Int->Int×Bool
 | [],_,m=>(m,false)
 | k::ks,dep,m=>match k.walk dep m with
  | (m',true)=>(m',true)
  | (m',false)=>zhk ks dep m'
end
abbrev wkF(dep:Int)(k:U9)(m:Int):Int⊕Int:=match k.walk dep m with
 | (m',true)=>.inr m'
 | (m',false)=>.inl m'
theorem rz(dep:Int):∀(ks:List U9) (m:Int),UD (wkF dep) ks m=match zhk ks dep m with|(m',true)=>.inr m'|(m',false)=>.inl m'
 | [],m=>by simp[UD,zhk]
 | k::ks,m=>by
  simp only[UD,zhk,wkF]
  cases h:k.walk dep m with
  | mk m' b=>cases b with
   | true=>rfl
   | false=>exact rz dep ks m'
abbrev zeE(a:Int)(b:RuF)(c d:D)(e:aT):AS:={t:=Ue 30 0 [(1,SW a),(2,.ref (.yl 6)),(zcj 3 4),(7,T6 false),(16,ab b.ks),(17,c),(18,d)],h:=e,m:=[]}
noncomputable abbrev wkS(x r0:RuF)(dep m i:Int):AS:=(zeE dep x (SW x.ks.length) (SW i) ((YG r0 m)++[.var (x.l)]))
abbrev WJ(a:Int):D:=SW (MN ML (a+1))
abbrev VI(a:RuF):dO:=[vi a.op,vi a.c,vs a.nm,vi a.n,vi a.d,OX a.ks]
abbrev zcy:bY:=zd1
abbrev zdk(a:bY)(b:Int):bY:=[Oo a,(WJ b),.ref (.yl 6),.ref (.ptr 4 0)]
abbrev zdZ(a:bY):bY:=(Ue 23 0 [(2,.ref (.ptr 1 0)),(3,.ref (.ptr 2 0)),(7,Oe (M7 232) [] a)])
abbrev zeb:D:=Oe (M7 231) [] (zez 4)
theorem Gb(hr:ax (i:Int) x.ks y.row 6)(U8:Zd ((i:Int)<(x.ks.length:Int))=true)(hw:ML.wrap ((i:Int)+1)=((i+1:Nat):Int))
  (hk:Ev MJ Un 231 [.agg y.l,SW (ML.wrap (dep+1)),.ref (.yl 6),.ref (.ptr 4 0)] (ckH r0 0 m .ready none) (T6 true) (ckH r0 0 m' .ready none)):(CW MJ Un (ckH r0 0 m0 .ready none) false (sub SX 0) (wkS x r0 dep m i) .normal (wkS x r0 dep m' ((i+1:Nat):Int))):=by
 let v2:bY:=[SW r0.op,SW r0.c,ak r0.nm,SW r0.n,SW r0.d,ab r0.ks]
 let v3:bY:=[SW y.op,SW y.c,ak y.nm,SW y.n,SW y.d,ab y.ks]
 let v4:bY:=[SW x.op,SW x.c,ak x.nm,SW x.n,SW x.d,ab x.ks]
 let v5:bY:=[.ref (.ptr 4 0),.ref (.ptr 3 0)]
 let v0:aT:=[.var v2,.var [SW 0],.var [SW m'],.var v2,.var [Oe (M7 231) [] [.ref (.ptr 4 0)]],.Ut,.loop Nl none 0 (Ue 23 0 [(2,.ref (.ptr 1 0)),(3,.ref (.ptr 2 0)),(7,Oe (M7 232) [] v5)]) {toList:=[8,9]} (ar (sub NO 0)) (af (sub NO 0)),.var v4,.var v3]
 let v1:aT:=[.var v2,.var [SW 0],.var [SW m],.var v2,.var [Oe (M7 231) [] [.ref (.ptr 4 0)]],.Ut,.loop Nl none 0 (Ue 23 0 [(2,.ref (.ptr 1 0)),(3,.ref (.ptr 2 0)),(7,Oe (M7 232) [] v5)]) {toList:=[8,9]} (ar (sub NO 0)) (af (sub NO 0)),.var v4,.var v3]
 refine zX {t:=Ue 30 0 [(1,SW dep),(2,.ref (.yl 6)),(3,.ref (.ptr 4 0)),(7,T6 false),(16,ab x.ks),(17,SW (↑(MO x.ks):Int)),(18,SW (MN ML ((↑i:Int)+1)))],h:=[.var v2,.var [SW 0],.var [SW m'],.var v2,.var [Oe (M7 231) [] [.ref (.ptr 4 0)]],.Ut,.loop Nl none 0 (Ue 23 0 [(2,.ref (.ptr 1 0)),(3,.ref (.ptr 2 0)),(7,Oe (M7 232) [] v5)]) {toList:=[8,9]} (ar (sub NO 0)) (af (sub NO 0)),.var v4],m:=[]} M6 [.st (.mask [1,2,3,7,16,17,18]),.st (.trim 8)] [.b true,.row [vi y.op,vi y.c,vs y.nm,vi y.n,vi y.d,OX y.ks],.call (T6 true) v0,.b false] (.c U8 (.c hr (.c (show Ev MJ Un 231 [Oo v3,SW (MN ML (dep+1)),.ref (.yl 6),.ref (.ptr 4 0)] v1 (T6 true) v0 from(Na (Ov (args:=[Oo v3,SW (MN ML (dep+1)),.ref (.yl 6),.ref (.ptr 4 0)]) (H:=v1) [0,1,2,3,4,5,6] (@hk) (by kernel_rfl) (by kernel_rfl) (by kernel_rfl) trivial trivial) (by kernel_rfl) (by kernel_rfl))) (.c (show(!true)=false from rfl) .n)))) ?_ ?_<;>subst v2 v3 v4 v5 v0 v1<;>(first|rfl|(rw[hw];rfl))
abbrev zam:bY:=Ue 30 0 [(7,T6 false)]
noncomputable abbrev wkX(x r0:RuF)(m:Int):Exit×AS:=(.ret,{t:=zam,h:=(Vw r0 m)++[.var (x.l)],m:=[]})
theorem Gc(hr:ax (i:Int) x.ks y.row 6)(U8:Zd ((i:Int)<(x.ks.length:Int))=true)
  (hk:Ev MJ Un 231 [.agg y.l,SW (ML.wrap (dep+1)),.ref (.yl 6),.ref (.ptr 4 0)] (YG r0 m) (T6 false) (Vw r0 m')):(CW MJ Un (YG r0 m0) false (sub SX 0) (wkS x r0 dep m i) (wkX x r0 m').1 (wkX x r0 m').2):=by
 let v2:bY:=(Zj r0)
 let v3:bY:=(Zj y)
 let v4:bY:=(Zj x)
 let v5:bY:=Z7
 let v0:aT:=[.var v2,.var [SW 120],.var [SW m'],.var v2,.var zcy,.Ut,.loop PJ (some RB) 0 (Ue 23 0 [Y2,Y3,(7,Oe (M7 232) [] v5)]) Wb (ar (sub NO 0)) (af (sub NO 0)),.var v4,.var v3]
 let v1:aT:=[.var v2,.var [SW 0],.var [SW m],.var v2,.var [zeb],.Ut,.loop Nl none 0 (zdZ v5) {toList:=[8,9]} (ar (sub NO 0)) (af (sub NO 0)),.var v4,.var v3]
 exact zx (YV [7] 8) [.b true,.row (VI y),.call (T6 false) v0,.b true] (.c U8 (.c hr (.c (show Ev MJ Un 231 (zdk v3 dep) v1 (T6 false) v0 from(Na (Ov (args:=(zdk v3 dep)) (H:=v1) [0,1,2,3,4,5,6] (@hk) (by kernel_rfl) (by kernel_rfl) (by kernel_rfl) trivial trivial) (by kernel_rfl) (by kernel_rfl))) (.c (show(!false)=true from rfl) .n))))
theorem Kv(U8:Zd ((i:Int)<(x.ks.length:Int))=false):(CW MJ Un (YG r0 m0) false (sub SX 0) (wkS x r0 dep m i) (.exit 0) {t:=zam,h:=(YG r0 m)++[.var (x.l)],m:=[]}):=by
 let v0:bY:=(Zj r0)
 exact zx (YV [7] 8) [.b false] (.c U8 .n)
def U9.fl:U9->RuF
 | .mk op c nm n d ks=>⟨op,c,nm,n,d,ky ks⟩
theorem U9.zkj(r:U9):r.fl.row=r.row:=by cases r;rfl
theorem U9.fl_ok(h:r.ok):r.fl.ok:=by cases r;simp only[U9.ok] at h;exact⟨h.1.2.2.1,h.1.2.2.2.1⟩
noncomputable def wkFin(x r0:RuF)(p:Int⊕Int):Exit×AS:=bJ (.exit 0) (λm'=>{t:=zam,h:=(YG r0 m')++[.var x.l],m:=[]}) (λm'=>wkX x r0 m') p
theorem wk_cw{r0 x:RuF}{ks:List U9}(hx:x.ks=ks.map U9.row)(hl:am ks){dep m m0:Int}(hk:∀k∈ks,∀m,Ev MJ Un 231 [.agg k.fl.l,SW (ML.wrap (dep+1)),.ref (.yl 6),.ref (.ptr 4 0)] (YG r0 m) (T6 (!(k.walk (ML.wrap (dep+1)) m).2)) (Kt r0 (k.walk (ML.wrap (dep+1)) m).1 (k.walk (ML.wrap (dep+1)) m).2)):
  CW MJ Un (YG r0 m0) false (.loop (sub SX 0)) (wkS x r0 dep m 0) (wkFin x r0 (UD (wkF (ML.wrap (dep+1))) ks m)).1 (wkFin x r0 (UD (wkF (ML.wrap (dep+1))) ks m)).2:=by
 refine CW.each ks (wkF (ML.wrap (dep+1))) (λi m=>wkS x r0 dep m (i:Int)) (.exit 0) _ (λm'=>wkX x r0 m') (λ_ _=>True) (by simp) (λ_=>by simp) ?_ ?_ m trivial
 ·intro i k m hki _
  have hi:=(MR.1 hki).1
  have hr:ax (i:Int) x.ks k.fl.row 6:=by rw[hx,k.zkj];exact rowAt hki (by cases k;rfl)
  have U8:Zd ((i:Int)<(x.ks.length:Int))=true:=by rw[hx];exact UO _ hi
  have hev:=hk k (List.mem_of_getElem? hki) m
  refine⟨λ_ _=>trivial,?_⟩
  simp only[wkF]
  cases hw:k.walk (ML.wrap (dep+1)) m with
  | mk m' b =>
   rw[hw] at hev
   cases b with
   | true=>exact Gc hr U8 hev
   | false=>exact Gb hr U8 (Uo hi hl) hev
 ·intro m _
  exact Kv (by rw[hx];exact bl _ ks)
abbrev Wd(a:bY)(b:Int):bY:=[.agg a,SW b,.ref (.yl 6),.ref (.ptr 4 0)]
theorem walkA(hi:Iv MJ Un (.ref (.yl 6)) [SW dep,.agg x.l] ((YG r0 m)++[.var x.l]) (T6 false) ((Vw r0 m')++(zc9 x.l))):(Ev MJ Un 231 (Wd x.l dep) (YG r0 m) (T6 false) (Vw r0 m')):=by
 let v0:bY:=(Zj r0)
 let v1:bY:=(Zj x)
 exact Na (QU (h':=[.var v0,.var [SW 120],.var [SW m'],.var v0,.var zd1,.Ut,.loop PJ (some RB) 0 (Zr) Wb (ar (sub NO 0)) (af (sub NO 0))]) (d:=T6 false) UR [.inv (T6 false) [.var v0,.var [SW 120],.var [SW m'],.var v0,.var zcy,.Ut,.loop PJ (some RB) 0 (Zr) Wb (ar (sub NO 0)) (af (sub NO 0)),.var v1,.var v1],.b true] (by kernel_rfl) (.c (@hi) (.c (show(!false)=true from rfl) .n))) (by rfl) (by rfl)
def Ah:Int⊕Int->Int×Bool
 | .inl m=>(m,false)
 | .inr m=>(m,true)
theorem Gd(dep:Int)(ks:List U9)(m:Int):Ah (UD (wkF dep) ks m)=zhk ks dep m:=by
 rw[rz]
 cases zhk ks dep m with
 | mk m' b=>cases b<;>rfl
noncomputable abbrev yI(r0:RuF)(x:RuF)(m':Int):aT:=[.var (Zj r0),.var [SW 0],.var [SW m'],.var (Zj r0),.var zd1,.Ut,.loop Nl none 0 (Zr) Wb (ar (sub NO 0)) (af (sub NO 0)),.var (Zj x),.var (Zj x)]
noncomputable abbrev zea(a c:RuF)(d:Int)(e:Exit)(f:bY)(g i:Int)(j:Uc):BY:=[.inv (T6 true) (yI a c d),.b false,.st (.trim 8),.sum [1,2,3,7,16,17,18] (e) {t:=zam,h:=[.var f,.var [SW g],.var [SW i],.var f,.var zcy,.Ut,j,.var (Zj c)],m:=[]}]
theorem walkB{ks:List U9}(hx:x.ks=ks.map U9.row)(hl:am ks)(hi:Iv MJ Un (.ref (.yl 6)) [SW dep,.agg x.l] ((YG r0 m)++[.var x.l]) (T6 true) ((YG r0 m')++(zc9 x.l)))
  (hk:∀k∈ks,∀m,Ev MJ Un 231 [.agg k.fl.l,SW (ML.wrap (dep+1)),.ref (.yl 6),.ref (.ptr 4 0)] (YG r0 m) (T6 (!(k.walk (ML.wrap (dep+1)) m).2)) (Kt r0 (k.walk (ML.wrap (dep+1)) m).1 (k.walk (ML.wrap (dep+1)) m).2)):(Ev MJ Un 231 (Wd x.l dep) (YG r0 m) (T6 (!(Ah (UD (wkF (ML.wrap (dep+1))) ks m')).2)) (Kt r0 (Ah (UD (wkF (ML.wrap (dep+1))) ks m')).1 (Ah (UD (wkF (ML.wrap (dep+1))) ks m')).2)):=by
 have UE:=(@wk_cw (r0) (x) (ks) (hx) (hl) (dep) (m') (m) (hk))
 revert UE
 cases ho1:UD (wkF (MN ML (dep+1))) ks m' with
 | inl zeL =>
  intro UE
  let v0:bY:=(Zj r0)
  refine Na (QU (h':=[.var v0,.var [SW 0],.var [SW zeL],.var v0,.var zcy,.Ut,.loop Nl none 0 (Zr) Wb (ar (sub NO 0)) (af (sub NO 0))]) (d:=T6 true) UR (zea r0 x m' (Exit.exit 0) v0 0 zeL (.loop Nl none 0 (Zr) Wb (ar (sub NO 0)) (af (sub NO 0)))) (by kernel_rfl) (.c (@hi) (.c (show(!true)=false from rfl) (.c UE .n)))) ?_ ?_<;>subst v0<;>(first|rfl|(simp only[ho1,Ah,Kt];rfl))
 | inr Ζ =>
  intro UE
  let v0:bY:=(Zj r0)
  refine Na (QU (h':=[.var v0,.var [SW 120],.var [SW Ζ],.var v0,.var zd1,.Ut,.loop PJ (some RB) 0 (Zr) Wb (ar (sub NO 0)) (af (sub NO 0))]) (d:=T6 false) UR (zea r0 x m' Oq v0 120 Ζ (.loop PJ (some RB) 0 (Zr) Wb (ar (sub NO 0)) (af (sub NO 0)))) (by kernel_rfl) (.c (@hi) (.c (show(!true)=false from rfl) (.c UE .n)))) ?_ ?_<;>subst v0<;>(first|rfl|(simp only[ho1,Ah,Kt];rfl))
theorem yJ(r0:RuF):∀(r:U9),r.ok->∀(dep m:Int),Ev MJ Un 231 (Wd r.fl.l dep) (YG r0 m) (T6 (!(r.walk dep m).2)) (Kt r0 (r.walk dep m).1 (r.walk dep m).2)
 | .mk op c nm n d ks,hr,dep,m=>by
  have hok:=U9.fl_ok hr
  simp only[U9.ok] at hr
  have hiv:=Ku (r0:=r0) (m:=m) (dep:=dep) hok
  have hlen:((U9.mk op c nm n d ks).fl.ks.length:Int)=ks.length:=by simp[U9.fl,e7]
  have hf:(U9.mk op c nm n d ks).fl.formed=ay op c n d ks.length:=by
   show ay op c n d ((U9.mk op c nm n d ks).fl.ks.length:Int)=_
   rw[hlen]
  rw[hf] at hiv
  simp only[U9.walk]
  cases hs:po (ML.wrap (m+1)) dep (ay op c n d ks.length) with
  | true =>
   rw[hs] at hiv
   exact walkA hiv
  | false =>
   rw[hs] at hiv
   have:=walkB (r0:=r0) (x:=(U9.mk op c nm n d ks).fl) (ks:=ks) (e7 ks) hr.1.2.2.2.2 (m:=m) (dep:=dep) hiv (λk hk m=>yJ r0 k (pn hr.2 k hk) _ m)
   rw[Gd] at this
   exact this
termination_by r=>SizeOf.sizeOf r
decreasing_by
 have:=List.sizeOf_lt_of_mem hk
 simp only[U9.mk.sizeOf_spec]
 omega
noncomputable abbrev kz(x:RuF)(m':Int):aT:=[.var (Zj x),.var [SW 120],.var [SW m'],.var (Zj x),.var zd1,.Ut,.loop PJ (some RB) 0 (Zr) Wb (ar (sub NO 0)) (af (sub NO 0))]
abbrev WT(a b c:Nat):bY:=[.ref (.yl a),.ref (.ptr b 0),.ref (.ptr c 0)]
theorem Ai(hk:Ev MJ Un 231 (Wd x.l 1) (YG x 0) (T6 false) (Vw x m')):(Ev MJ Un 232 (WT 6 4 3) (YG x 0) (.UI []) (Vw x m')):=by
 exact Na (Ev.zet (h':=(kz x m')) (d:=NG []) UR [.call (T6 false) (kz x m')] (by kernel_rfl) (.c (@hk) .n)) (by rfl) (by rfl)
noncomputable abbrev kA(x:RuF)(m':Int):aT:=[.var (Zj x),.var [SW 0],.var [SW m'],.var (Zj x),.var zcy,.Ut,.loop Nl none 0 (Zr) Wb (ar (sub NO 0)) (af (sub NO 0))]
theorem Aj(hk:Ev MJ Un 231 (Wd x.l 1) (YG x 0) (T6 true) (YG x m')):(Ev MJ Un 232 (WT 6 4 3) (YG x 0) (.UI []) (YG x m')):=by
 exact Na (Ev.zet (h':=(kA x m')) (d:=NG []) UR [.call (T6 true) (kA x m')] (by kernel_rfl) (.c (@hk) .n)) (by rfl) (by rfl)
abbrev ckH0(r:RuF):aT:=[.var r.l,.var [SW 0],.var [SW 0],.var r.l,.var [.fn (.func 231) [] Ya]]
abbrev za2(a:RuF):AS:={t:=ckT,h:=ckH0 a,m:=[]}
theorem ckT_rf(hk:Ev MJ Un 231 (Wd x.l 1) (YG x 0) (T6 false) (Vw x m')):
  CW MJ Un [] false (sub NO 0) (za2 x) .ret {t:=ckT,h:=ckH x 120 m' .exhausted (some .ret),m:=[5]} :=
 CW.rangeFunc (f:=232) (fi:=[]) (ca:=Z7) UR (s:=(za2 x)) (g:=.tmp 7) (ps:=#[8,9]) (asg:=ar (sub NO 0)) (body:=af (sub NO 0)) rfl (by kernel_rfl) (Ai hk) rfl
theorem ckF_rf(hk:Ev MJ Un 231 (Wd x.l 1) (YG x 0) (T6 true) (YG x m')):
  CW MJ Un [] false (sub NO 0) (za2 x) .normal {t:=ckT,h:=ckH x 0 m' .exhausted none,m:=[5]} :=
 CW.rangeFunc (f:=232) (fi:=[]) (ca:=Z7) UR (s:=(za2 x)) (g:=.tmp 7) (ps:=#[8,9]) (asg:=ar (sub NO 0)) (body:=af (sub NO 0)) rfl (by kernel_rfl) (Aj hk) rfl
def U9.bad(r:U9):Bool:=(r.walk 1 0).2
noncomputable def Kw(x:RuF)(p:Int×Bool):Exit×AS:=match p.2 with
 | true=>(.ret,{t:=ckT,h:=ckH x 120 p.1 .exhausted (some .ret),m:=[5]})
 | false=>(.normal,{t:=ckT,h:=ckH x 0 p.1 .exhausted none,m:=[5]})
theorem Ge{r:U9}(hr:r.ok){x:RuF}(hx:x=r.fl):CW MJ Un [] false (sub NO 0) (za2 x) (Kw x (r.walk 1 0)).1 (Kw x (r.walk 1 0)).2:=by
 subst hx
 have hk:=yJ r.fl r hr 1 0
 unfold Kw
 cases h:r.walk 1 0 with
 | mk m' b =>
  rw[h] at hk
  cases b with
  | true=>exact ckT_rf hk
  | false=>exact ckF_rf hk
def gI(b:Bool):Int:=match b with|true=>120|false=>0
theorem Kx(hr:r.ok)(hx:x=r.fl)(h:aT):(Ev MJ Un 219 [.agg x.l] h (SW (gI r.bad)) h):=by
 have UE:=(@Ge (r) (hr) (x) (hx))
 revert UE
 cases ho1:U9.walk r 1 0 with
 | mk zeL o1_0_1 =>
  intro UE
  revert UE
  cases ho2:o1_0_1 with
  | false =>
   intro UE
   exact zD (SW 0) [.inl,.sum [2,3,7] (M6) {t:=Zr,h:=[.var (Zj x),.var [SW 0],.var [SW zeL],.var (Zj x),.var zcy,.Ut,.loop NM none 0 (Zr) Wb (ar (sub NO 0)) (af (sub NO 0))],m:=[5]}] (.c UE .n) h (by simp[U9.bad,gI,ho1,ho2])
  | true =>
   intro UE
   exact zD (SW 120) [.inl,.sum [2,3,7] (Oq) {t:=Zr,h:=[.var (Zj x),.var [SW 120],.var [SW zeL],.var (Zj x),.var zd1,.Ut,.loop NM (some RB) 0 (Zr) Wb (ar (sub NO 0)) (af (sub NO 0))],m:=[5]}] (.c UE .n) h (by simp[U9.bad,gI,ho1,ho2])
theorem kB{r:U9}(hr:r.ok)(h:aT):Ev MJ Un 219 [.agg r.fl.l] h (SW (gI r.bad)) h:=by
 exact Kx hr rfl h
structure Uv where
 name:ByteArray
 number:Int
 To:Int
 rep:Int
 need:U9
 ζ:U9
def Uv.row(c:Uv):dO:=[vs c.name,vi c.number,vi c.To,vi c.rep,
 vi c.need.fl.op,vi c.need.fl.c,vs c.need.fl.nm,vi c.need.fl.n,vi c.need.fl.d,.sl c.need.fl.ks,vi c.ζ.fl.op,vi c.ζ.fl.c,vs c.ζ.fl.nm,vi c.ζ.fl.n,vi c.ζ.fl.d,.sl c.ζ.fl.ks]
def Uv.ok(c:Uv):Prop:=c.need.ok/\c.ζ.ok
def e8(c:Uv):Bool:=Xl c.number 0 4095&&Xl c.To 1 60&&Xl c.rep 0 2&&(gI c.need.bad==0)&&(gI c.ζ.bad==0)
abbrev ZY(a:Uv):bY:=[ak a.name,SW a.number,SW a.To,SW a.rep,SW (U9.fl a.need).op,SW (U9.fl a.need).c,ak (U9.fl a.need).nm,SW (U9.fl a.need).n,SW (U9.fl a.need).d,ab (U9.fl a.need).ks,SW (U9.fl a.ζ).op,SW (U9.fl a.ζ).c,ak (U9.fl a.ζ).nm,SW (U9.fl a.ζ).n,SW (U9.fl a.ζ).d,ab (U9.fl a.ζ).ks]
noncomputable abbrev du(c:Uv):aT:=[.var (ZY c)]
theorem Ak{c:Uv}(hc:c.ok)(h:aT):(Ev MJ Un 197 [ag c.row] h (T6 (e8 c)) h):=by
 refine z0 [.val (Yk c.number),.val (Yt c.To 1 60),.val (Yt c.rep 0 2),.val (SW (gI (U9.bad c.need))),.val (SW (gI (U9.bad c.ζ)))] (.c (Ns (Γ':=Un) (@cw (c.number) 0 4095 (du c))) (.c (gd (Zd (c.number>=0)&&Zd (c.number<=4095)) (Ns (Γ':=Un) (@cw (c.To) 1 60 (du c)))) (.c (gd (Zd (c.number>=0)&&Zd (c.number<=4095)&&(Zd (c.To>=1)&&Zd (c.To<=60))) (Ns (Γ':=Un) (@cw (c.rep) 0 2 (du c)))) (.c (gd (XT c.number c.To 1 60 c.rep 2) (@kB (c.need) ?_ (du c))) (.c (gd ((XT c.number c.To 1 60 c.rep 2)&&gI (U9.bad c.need)==0) (@kB (c.ζ) ?_ (du c))) .n))))) h<;>(first|assumption|exact hc.1|exact hc.2)
noncomputable abbrev wN(c:Uv)(n:Int):aT:=[.var [SW n],.var (ZY c)]
abbrev XQ(a:Int):aT:=[.var [SW a]]
abbrev za5(a:Uv)(b:Int):D:=T6 (a.number==b&&e8 a)
theorem yK{c:Uv}(hc:c.ok){n:Int}:(Ev MJ Un 196 [ag c.row,.ref (.ptr 0 0)] (XQ n) (za5 c n) (XQ n)):=by
 exact Na (QU (h':=(XQ n)) (d:=(za5 c n)) UR [.val (T6 (e8 c))] (by kernel_rfl) (.c (gd (c.number==n) (@Ak c hc (wN c n))) .n)) (by rfl) (by rfl)
structure T9 where
 c:List Uv
 p:bv
 s:M2
 f:By
variable {w:T9}
abbrev zbQ(a:T9):D:=ab (a.c.map Uv.row)
def T9.l(w:T9):bY:=[(zbQ w),ab w.p,ab (w.s.map M9),ab (w.f.map M3)]
abbrev atA(w:T9)(kk ks ko T4 ST:Int):bY:=[ab (w.f.map M3),.agg (Zw kk ks ko),SW T4,SW ST]
abbrev wO(kk ks ko a b:Int):bv:=[[vi kk,vi ks,vi ko,vi a,vi b]]
theorem bj[Inhabited α]{row:α->dO}{l:List α}{sz:Nat}(hs:∀x,(row x).length=sz)(h0:0<=v)(h1:v<(l.length:Int)):ax v (l.map row) (row (l.getD v.toNat default)) sz:=by
 obtain⟨n,rfl⟩:∃n:Nat,v=n:=⟨v.toNat,by omega⟩
 have hn:n<l.length:=by omega
 have hx:l[n]? = some l[n]:=Nd hn
 have:l.getD (MU (n:Int)) default=l[n]:=by simp[Nb,hx]
 rw[this]
 exact rowAt hx (hs _)
def em[Inhabited α](l:List α)(valid:α->Bool)(p:Int×Bool):Bool:=!p.2||Zd (p.1<0)||Zd (p.1>=(l.length:Int))||!valid (l.getD p.1.toNat default)
def iz[Inhabited α](l:List α)(valid:α->Bool)(z:α)(p:Int×Bool):α×Bool:=match em l valid p with
 | true=>(z,false)
 | false=>(l.getD p.1.toNat default,true)
theorem vd[Inhabited α]{l:List α}{valid:α->Bool}{p:Int×Bool}(h:em l valid p=false):l.getD p.1.toNat default∈l/\valid (l.getD p.1.toNat default)=true/\p.2=true/\0<=p.1/\p.1<l.length:=by
 unfold em at h
 simp only[Bool.or_eq_false_iff,Bool.not_eq_false',decide_eq_false_iff_not] at h
 obtain⟨⟨⟨h1,h2⟩,h3⟩,h4⟩:=h
 refine⟨?_,h4,h1,by omega,by omega⟩
 have:p.1.toNat<l.length:=by omega
 rw[Nb,Nd this]
 exact Qg this
structure T9.ok (w:T9):Prop where
 c:∀x∈w.c,x.ok
 s:∀x∈w.s,x.ok
 lf:w.f.length<=69000
 lc:am w.c
 ls:am w.s
 i:∀f∈w.f,f.ok
theorem T9.ok.sf(h:w.ok):am w.f:=by have:=h.lf;unfold am;omega
def zgK(T4:Int):Bool:=!(Zd (T4>=0)&&Zd (T4<=1023))
def kC(kk ks ko T4:Int):bv:=match zgK T4 with
 | true=>[]
 | false=>wO kk ks ko T4 (ML.wrap (T4+1))
def U9.zero:U9:=.mk 0 0 ⟨#[]⟩ 0 0 []
def Uv.zero:Uv:=⟨⟨#[]⟩,0,0,0,U9.zero,U9.zero⟩
instance:Inhabited Uv:=⟨Uv.zero⟩
theorem Uv.zhe:Uv.zero.ok:=by
 have:U9.zero.ok:=⟨by unfold κ am;simp,trivial⟩
 exact⟨this,this⟩
theorem lS{l:List Uv}(h:∀x∈l,x.ok)(n:Nat):(l.getD n default).ok:=by
 rcases Nat.lt_or_ge n l.length with hn|hn
 ·rw[Nb,Nd hn];exact h _ (Qg hn)
 ·rw[Nb,List.getElem?_eq_none hn];exact Uv.zhe
abbrev crsZ:D:=ag Uv.zero.row
def cJ(n:Int)(c:Uv):Bool:=c.number==n&&e8 c
abbrev ZA:bY:=[ak {data:=#[]},SW 0,SW 0,SW 0,SW 0,SW 0,ak {data:=#[]},SW 0,SW 0,nq,SW 0,SW 0,ak {data:=#[]},SW 0,SW 0,nq]
abbrev WN(a:T9):bY:=[ab (MK Uv.row a.c),ab a.p,ab (MK M9 a.s),ab (MK M3 a.f)]
abbrev zek(a:Int)(b:bY)(c:Int)(d:bY):aT:=[.var [SW a],.var b,.var (Zw c a 0),.var d]
noncomputable abbrev lc0_x0(w:T9)(n:Int):aT:=(zek n (WN w) 1 ZA)
abbrev zcG(a:T9)(b:D)(c d e f:Int)(g:FuncId):bY:=[.agg a.l,b,.agg (Zw c d 0),SW e,SW f,.fn (.func g) [] YT]
theorem lc0(ht:(!(Zd (T4>=0)&&Zd (T4<=1023)))=true):(Ev MJ Un 198 (zcG w (zbQ w) 1 n T4 ST 196) (XQ n) (.UI [crsZ,ab [],T6 false]) (XQ n)):=by
 exact Na (Ev.zfp (QU (h':=(XQ n)) (d:=NG [Oo ZA,nq,T6 false]) UR [.val (Yq T4),.b true] (by kernel_rfl) (.c (Ns (Γ':=Un) (@cw T4 0 1023 (lc0_x0 w n))) (.c ht .n)))) (by rfl) (by rfl)
noncomputable abbrev yL(w:T9)(v:Int):bY:=[Oo [ak (Nb w.c (MU v) default).name,SW (Nb w.c (MU v) default).number,SW (Nb w.c (MU v) default).To,SW (Nb w.c (MU v) default).rep,SW (U9.fl (Nb w.c (MU v) default).need).op,SW (U9.fl (Nb w.c (MU v) default).need).c,ak (U9.fl (Nb w.c (MU v) default).need).nm,SW (U9.fl (Nb w.c (MU v) default).need).n,SW (U9.fl (Nb w.c (MU v) default).need).d,ab (U9.fl (Nb w.c (MU v) default).need).ks,SW (U9.fl (Nb w.c (MU v) default).ζ).op,SW (U9.fl (Nb w.c (MU v) default).ζ).c,ak (U9.fl (Nb w.c (MU v) default).ζ).nm,SW (U9.fl (Nb w.c (MU v) default).ζ).n,SW (U9.fl (Nb w.c (MU v) default).ζ).d,ab (U9.fl (Nb w.c (MU v) default).ζ).ks],.ref (.ptr 0 0)]
noncomputable abbrev mF(w:T9)(n:Int):aT:=[.var [SW n],.var (WN w),.var (Zw 1 n 0),.var ZA,.U7]
noncomputable abbrev HV(w:T9)(n:Int):aT:=(zek n (WN w) 1 ZA)
abbrev Zn(a:Uv):dO:=[vs a.name,vi a.number,vi a.To,vi a.rep,vi (U9.fl a.need).op,vi (U9.fl a.need).c,vs (U9.fl a.need).nm,vi (U9.fl a.need).n,vi (U9.fl a.need).d,OX (U9.fl a.need).ks,vi (U9.fl a.ζ).op,vi (U9.fl a.ζ).c,vs (U9.fl a.ζ).nm,vi (U9.fl a.ζ).n,vi (U9.fl a.ζ).d,OX (U9.fl a.ζ).ks]
abbrev VY(a:T9):bv:=(MK Uv.row a.c)
abbrev zai(a b c:Int):D:=ab [[vi a,vi b,vi 0,vi c,vi (MN ML (c+1))]]
abbrev zdu(a c d e:Int)(f:Bool)(g:dO)(h:D):BY:=[.val (Yq a),.b false,.nx 1,.st (.frz 4 (wO c d 0 a (MN ML (a+1)))),.val (NG [SW e,T6 f]),.row g,.val (h),.b false,.row g]
abbrev zdz(a b c d:Int):bY:=[SW a,SW b,SW c,SW d,(WJ d)]
theorem lc1(ht:(!(Zd (T4>=0)&&Zd (T4<=1023)))=false)(hat:∀h,Ev MJ Un 68 (atA w 1 n 0 T4 ST) h (.UI [SW v,T6 b]) h)(hs:∀x∈w.c,x.ok):(Ev MJ Un 198 (zcG w (zbQ w) 1 n T4 ST 196) (XQ n) (.UI [ag (iz w.c (cJ n) Uv.zero (v,b)).1.row,ab (wO 1 n 0 T4 (ML.wrap (T4+1))),T6 (iz w.c (cJ n) Uv.zero (v,b)).2]) (XQ n)):=by
 cases U5:!b||Zd (v<0)||Zd (v>=(↑(MO (VY w)):Int))||!((Nb w.c (MU v) default).number==n&&e8 (Nb w.c (MU v) default))
 ·let v0:=Nb w.c (MU v) default
  let v1:=MK Uv.row w.c
  let v2:bY:=(zdz 1 n 0 T4)
  refine Na (Ev.zfp (QU (h':=(XQ n)) (d:=NG [Oo (ZY v0),(zai 1 n T4),T6 true]) UR (zdu T4 1 n v b (Zn v0) (za5 v0 n)) (by kernel_rfl) (.c (Ns (Γ':=Un) (@cw T4 0 1023 (HV w n))) (.c ht (.er [v2] (.c (@hat (mF w n)) (.c (show(!(!b||Zd (v<0)||Zd (v>=(↑(MO v1):Int))))=true->ax v v1 (Zn v0) 16 from(λhg=>?_)) (.c (show(!(!b||Zd (v<0)||Zd (v>=(↑(MO v1):Int))))=true->Ev MJ Un 196 (yL w v) (mF w n) (za5 v0 n) (mF w n) from(λhg=>(Na (Ov (args:=(yL w v)) (H:=(mF w n)) [0] (@yK v0 ?_ n) (by kernel_rfl) (by kernel_rfl) (by kernel_rfl) trivial trivial) (by kernel_rfl) (by kernel_rfl)))) (.c U5 (.c (show ax v v1 (Zn v0) 16 from ?_) .n)))))))))) (by subst v0 v1 v2;first|(have hb:em w.c (cJ n) (v,b)=true:=by rw[<-U5];simp[em,cJ]);simp only[iz,hb];rfl|(have hb:em w.c (cJ n) (v,b)=false:=by rw[<-U5];simp[em,cJ]);simp only[iz,hb];rfl|rfl) (by subst v0 v1 v2;first|(have hb:em w.c (cJ n) (v,b)=true:=by rw[<-U5];simp[em,cJ]);simp only[iz,hb];rfl|(have hb:em w.c (cJ n) (v,b)=false:=by rw[<-U5];simp[em,cJ]);simp only[];rfl|rfl)<;>subst v0 v1 v2<;>(first|assumption|exact lS hs _|(refine bj (λ_=>rfl) ?_ ?_<;>simp_all;done)|(simp_all;done))
 ·let v0:=Nb w.c (MU v) default
  let v1:bY:=(zdz 1 n 0 T4)
  refine Na (Ev.zfp (QU (h':=(XQ n)) (d:=NG [Oo ZA,(zai 1 n T4),T6 false]) UR [.val (Yq T4),.b false,.nx 1,.st (.frz 4 (wO 1 n 0 T4 (MN ML (T4+1)))),.val (NG [SW v,T6 b]),.row (Zn v0),.val (za5 v0 n),.b true] (by kernel_rfl) (.c (Ns (Γ':=Un) (@cw T4 0 1023 (HV w n))) (.c ht (.er [v1] (.c (@hat (mF w n)) (.c (show(!(!b||Zd (v<0)||Zd (v>=(↑(MO (VY w)):Int))))=true->ax v (VY w) (Zn v0) 16 from(λhg=>(by subst v0 v1;first|assumption|exact lS hs _|(refine bj (λ_=>rfl) ?_ ?_<;>simp_all;done)|(simp_all;done)))) (.c (show(!(!b||Zd (v<0)||Zd (v>=(↑(MO (VY w)):Int))))=true->Ev MJ Un 196 (yL w v) (mF w n) (za5 v0 n) (mF w n) from(λhg=>(Na (Ov (args:=(yL w v)) (H:=(mF w n)) [0] (@yK v0 (by subst v0 v1;first|assumption|exact lS hs _|(refine bj (λ_=>rfl) ?_ ?_<;>simp_all;done)|(simp_all;done)) n) (by kernel_rfl) (by kernel_rfl) (by kernel_rfl) trivial trivial) (by kernel_rfl) (by kernel_rfl)))) (.c U5 .n))))))))) ?_ ?_<;>subst v0 v1<;>(first|(have hb:em w.c (cJ n) (v,b)=true:=by rw[<-U5];simp[em,cJ]);simp only[iz,hb];rfl|(have hb:em w.c (cJ n) (v,b)=false:=by rw[<-U5];simp[em,cJ]);simp only[iz,hb];rfl|rfl)
def ac(w:T9)(n T4 ST:Int):Uv×Bool:=match zgK T4 with
 | true=>(Uv.zero,false)
 | false=>iz w.c (cJ n) Uv.zero (atR 1 n 0 T4 ST w.f)
abbrev zbL(a:T9)(b c d:Int)(e:bv):D:=(.UI [ag (ac a b c d).1.row,ab (e),T6 (ac a b c d).2])
theorem Al{w:T9}(hw:w.ok){n T4 ST:Int}:Ev MJ Un 198 [.agg w.l,ab (w.c.map Uv.row),.agg [SW 1,SW n,SW 0],SW T4,SW ST,.fn (.func 196) [] [.ref (.ptr 0 0)]] [.var [SW n]] (.UI [ag (ac w n T4 ST).1.row,ab (kC 1 n 0 T4),T6 (ac w n T4 ST).2]) [.var [SW n]]:=by
 unfold ac kC
 cases ht:zgK T4 with
 | true=>exact lc0 ht
 | false=>exact lc1 ht (λh=>Ns (BW hw.sf h)) hw.c
noncomputable abbrev gJ(w:T9)(n:Int):aT:=[.var (WN w),.var [SW n],.var ZA]
abbrev X0:bY:=(zez 1)
abbrev Wp(a:T9)(b c d:Int):bY:=[.agg a.l,SW b,SW c,SW d]
theorem Am(hw:w.ok)(h:aT):(Ev MJ Un 165 (Wp w n T4 ST) h (zbL w n T4 ST (kC 1 n 0 T4)) h):=by
 let v0:=NG [Oo [ak (ac w n T4 ST).fst.name,SW (ac w n T4 ST).fst.number,SW (ac w n T4 ST).fst.To,SW (ac w n T4 ST).fst.rep,SW (U9.fl (ac w n T4 ST).fst.need).op,SW (U9.fl (ac w n T4 ST).fst.need).c,ak (U9.fl (ac w n T4 ST).fst.need).nm,SW (U9.fl (ac w n T4 ST).fst.need).n,SW (U9.fl (ac w n T4 ST).fst.need).d,ab (U9.fl (ac w n T4 ST).fst.need).ks,SW (U9.fl (ac w n T4 ST).fst.ζ).op,SW (U9.fl (ac w n T4 ST).fst.ζ).c,ak (U9.fl (ac w n T4 ST).fst.ζ).nm,SW (U9.fl (ac w n T4 ST).fst.ζ).n,SW (U9.fl (ac w n T4 ST).fst.ζ).d,ab (U9.fl (ac w n T4 ST).fst.ζ).ks],ab (kC 1 n 0 T4),T6 (ac w n T4 ST).2]
 exact z0 [.val v0] (.c (show Ev MJ Un 198 [Oo (T9.l w),ab (VY w),Oo (Zw 1 n 0),SW T4,SW ST,Oe (M7 196) [] X0] (gJ w n) v0 (gJ w n) from(Na (Ov (args:=[Oo (T9.l w),ab (VY w),Oo (Zw 1 n 0),SW T4,SW ST,Oe (M7 196) [] X0]) (H:=(gJ w n)) [1] (@Al w hw n T4 ST) (by kernel_rfl) (by kernel_rfl) (by kernel_rfl) trivial trivial) (by kernel_rfl) (by kernel_rfl))) .n) h
abbrev dB(l:By):List (bY):=l.map λf=>f.row.map .p
abbrev eo(l:Bv):List (bY):=l.map λb=>[T6 b]
abbrev bF(l:bV):List (bY):=l.map λn=>[SW n]
abbrev ZW:Nat×D:=(zcj 8 3)
abbrev YB:Nat×D:=(zcH 7)
abbrev vaT:bY:=Ue 63 0 [ZH,YB,ZW,(15,.fn (.func 170) [] Zv)]
noncomputable abbrev vaL(st:LoopState):Uc:=.loop st none 0 vaT #[16] (ar (sub NA 0)) (af (sub NA 0))
abbrev zbJ(a:By):bY:=(dB a).flatten
noncomputable abbrev vaH(kk ks ko ST:Int)(fs:bv)(rs:bY)(Ug:By)(some:Bv)(st:LoopState)(more:aT):aT :=
 [.var (Zw kk ks ko),.var rs,.var (zbJ Ug),.var (eo some).flatten,.var [ab fs],.var (Zw kk ks ko),.var [SW ST],.Ut,vaL st]++more
abbrev zaV(a:Nat):Nat×D:=(a,.ref (.ptr 10 0))
abbrev vaU:bY:=Ue 63 0 [ZH,YB,ZW,(zaV 9)]
theorem va_asg{ks:Int}{some:Bv}:(CW MJ U2 (vaH kk ks ko ST fs rs Ug some .ready [.var (Xi f)]) true (ar (sub NA 0)) {t:=dW vaT [(16,ag f.row)],h:=vaH kk ks ko ST fs rs Ug some .ready [.var (Xi f)],m:=[]} .normal {t:=vaU,h:=vaH kk ks ko ST fs rs Ug some .ready (YA f),m:=[]}):=by
 let v0:bY:=(Zg f)
 exact zx [.st (.mask [6,7,8,9])] [] .n
theorem sM{n:Nat}{l:Bv}(hb:h[3]? = some (.var (eo l).flatten))(hs:l[n]? = some b)(ho:off=n*1):aN MJ h 4 (.ref (.ptr 3 off))=some (T6 b):=by
 subst ho
 exact nI (sz:=1) (j:=0) (row:=[T6 b]) (by kernel_rfl) (by kernel_rfl) hb (λr hr=>by obtain⟨_,_,rfl⟩:=Nt.1 hr;rfl) (by simp[hs]) rfl
abbrev zbp(a:Nat):D:=(.ref (.ptr 2 a))
theorem CQ{n:Nat}{l:By}(hb:h[2]? = some (.var (zbJ l)))(hs:l[n]? = some g)(ho:off=n*8):aN MJ h 190 (zbp off)=some (ag g.row):=by
 subst ho
 exact Er (sz:=8) (row:=g.row.map .p) (by kernel_rfl) (by kernel_rfl) hb (by simp[M3]) (by simp[hs])
theorem HW{n:Nat}{l:By}(hb:h[2]? = some (.var (dB l).flatten))(hn:n<l.length)(ho:off=n*8):aX MJ h 190 (.ref (.ptr 2 off)) (ag f.row)=some (h.set 2 (.var (dB (l.set n f)).flatten)):=by
 subst ho
 rw[nJ (sz:=8) (new:=f.row.map .p) rfl (by kernel_rfl) rfl hb (by simp[M3]) (by simpa using hn),dB,dB,List.map_set]
theorem HX{n:Nat}{l:Bv}(hb:h[3]? = some (.var (eo l).flatten))(hn:n<l.length)(ho:off=n*1):aX MJ h 4 (.ref (.ptr 3 off)) (T6 b)=some (h.set 3 (.var (eo (l.set n b)).flatten)):=by
 subst ho
 rw[nJ (sz:=1) (new:=[T6 b]) rfl (by kernel_rfl) rfl hb (λr hr=>by obtain⟨_,_,rfl⟩:=Nt.1 hr;rfl) (by simpa using hn),eo,eo,List.map_set]
theorem i4{l:List α}{n:Nat}{a:α}(h:l[n]? = some a):n<l.length:=(MR.1 h).1
def zci(f g:Uh)(b:Bool):Bool:=!b||Zd (orI (br f.ST g.ST) (br f.no g.no)>=0)
noncomputable abbrev vaS(kk ks ko ST:Int)(fs:bv)(rs:bY)(Ug:By)(some:Bv)(f:Uh)(t:Int):AS:={t:=Ue 63 0 [ZH,YB,ZW,(zaV 9),(10,SW t)],h:=vaH kk ks ko ST fs rs Ug some .busy (YA f),m:=[]}
abbrev Zt:bY:=(Ue 63 0 [(zcL 6),(zcH 7),(zcj 8 3),(15,Oe (M7 170) [] zc8)])
abbrev X9:Array Tmp:={toList:=[16]}
noncomputable abbrev iA(kk:Int)(ks:Int)(ko:Int)(ST:Int)(fs:bv)(rs:bY)(Ug:By)(some:Bv)(f:Uh):aT:=[.var (Zw kk ks ko),.var rs,.var (Nf (dB Ug)),.var (Nf (eo some)),.var [ab fs],.var (Zw kk ks ko),.var [SW ST],.Ut,.loop NJ none 0 Zt X9 (ar (sub NA 0)) (af (sub NA 0)),.var (Zg f),.var (Zg f)]
abbrev Xa(a b c:Nat):D:=(.ref (.ptr a (0+MU (↑b:Int)*c)))
theorem va_b{ks:Int}{some:Bv}{n:Nat}(hb:Ug[n]? = .some g)(hs:some[n]? = .some b)(hn:UU (n:Int) 1024=true)(U8:Zd ((n:Int)<if false=true then if 1024>f.Λ then 1024 else f.Λ else if 1024<f.Λ then 1024 else f.Λ)=true):(CW MJ U2 (vaH kk ks ko ST fs rs b0 s0 .ready [.var (Xi f0)]) true (sub NA 1) (vaS kk ks ko ST fs rs Ug some f (n:Int)) .normal (vaS kk ks ko ST fs rs (bif zci f g b then Ug.set n f else Ug) (bif zci f g b then some.set n true else some) f (ML.wrap ((n:Int)+1)))):=by
 cases U5:!b||Zd (orI (br f.ST g.ST) (br f.no g.no)>=0)
 ·refine zX {t:=Ue 63 0 [ZH,YB,ZW,(zaV 9),(10,(Zy n))],h:=(iA kk ks ko ST fs rs Ug some f),m:=[]} M6 [.st (.mask [6,7,8,9,10])] [.b true,.ov 31 (T6 b),.ov 37 (ag (M3 g)),.val (Vc f g),.b false] (.c U8 (.c hn (.c (show @Eq (oN) (aN MJ (iA kk ks ko ST fs rs Ug some f) 4 (Xa 3 n 1)) (Ps (T6 b)) from ?_) (.c (show(!!b)=true->UU (↑n:Int) 1024=true from(λhg=>hn)) (.c (show(!!b)=true->aN MJ (iA kk ks ko ST fs rs Ug some f) 190 (Xa 2 n 8)=Ps (Oo (Zg g)) from(λhg=>?_)) (.c (gd (!!b) (@sB f g (iA kk ks ko ST fs rs Ug some f))) (.c U5 .n))))))) (by first|rfl|(have hh:zci f g b=true:=U5;simp only[hh,cond_true];first|done|rfl)|(have hh:zci f g b=false:=U5;simp only[hh,cond_false];first|done|rfl)) (by first|rfl|(have hh:zci f g b=true:=U5;simp only[hh,cond_true];first|done|rfl)|(have hh:zci f g b=false:=U5;simp only[hh,cond_false];first|done|rfl))<;>(first|assumption|rfl|exact sM rfl hs (by simp)|exact CQ rfl hb (by simp)|exact HW rfl (i4 hb) (by simp)|exact HX rfl (i4 hs) (by simp)|(simp_all;done))
 ·let v0:bY:=(Zg f)
  let v1:aT:=[.var (Zw kk ks ko),.var rs,.var (Nf (dB (OZ Ug n f))),.var (Nf (eo (OZ some n true))),.var [ab fs],.var (Zw kk ks ko),.var [SW ST],.Ut,.loop NJ none 0 Zt X9 (ar (sub NA 0)) (af (sub NA 0)),.var v0,.var v0]
  let v2:aT:=[.var (Zw kk ks ko),.var rs,.var (Nf (dB (OZ Ug n f))),.var (Nf (eo some)),.var [ab fs],.var (Zw kk ks ko),.var [SW ST],.Ut,.loop NJ none 0 Zt X9 (ar (sub NA 0)) (af (sub NA 0)),.var v0,.var v0]
  let v3:=MK D.p (M3 f)
  refine zX {t:=Ue 63 0 [ZH,YB,ZW,(zaV 9),(10,(Zy n))],h:=v1,m:=[]} M6 [.st (.mask [6,7,8,9,10])] [.b true,.ov 31 (T6 b),.ov 37 (ag (M3 g)),.val (Vc f g),.b true,.oh 10044 D.any (vaH kk ks ko ST fs rs (OZ Ug n f) some NJ (zc9 v3)),.oh 10045 D.any (vaH kk ks ko ST fs rs (OZ Ug n f) (OZ some n true) NJ (zc9 v3))] (.c U8 (.c hn (.c (show @Eq (oN) (aN MJ (iA kk ks ko ST fs rs Ug some f) 4 (Xa 3 n 1)) (Ps (T6 b)) from ?_) (.c (show(!!b)=true->UU (↑n:Int) 1024=true from(λhg=>hn)) (.c (show(!!b)=true->aN MJ (iA kk ks ko ST fs rs Ug some f) 190 (Xa 2 n 8)=Ps (Oo (Zg g)) from(λhg=>?_)) (.c (gd (!!b) (@sB f g (iA kk ks ko ST fs rs Ug some f))) (.c U5 (.c hn (.c (show @Eq (Option (aT)) (aX MJ (iA kk ks ko ST fs rs Ug some f) 190 (Xa 2 n 8) (Oo v0)) (Ps v2) from ?_) (.c hn (.c (show @Eq (Option (aT)) (aX MJ v2 4 (Xa 3 n 1) (T6 true)) (Ps v1) from ?_) .n))))))))))) (by subst v0 v1 v2 v3;first|rfl|(have hh:zci f g b=true:=U5;simp only[hh,cond_true];first|done|rfl)|(have hh:zci f g b=false:=U5;simp only[hh,cond_false];first|done|rfl)) (by subst v0 v1 v2 v3;first|rfl|(have hh:zci f g b=true:=U5;simp only[hh,cond_true];first|done|rfl)|(have hh:zci f g b=false:=U5;simp only[hh,cond_false];first|done|rfl))<;>subst v0 v1 v2 v3<;>(first|assumption|rfl|exact sM rfl hs (by simp)|exact CQ rfl hb (by simp)|exact HW rfl (i4 hb) (by simp)|exact HX rfl (i4 hs) (by simp)|(simp_all;done))
theorem va_l{ks:Int}{some:Bv}{x:Int}(U8:Zd (x<if false=true then if 1024>f.Λ then 1024 else f.Λ else if 1024<f.Λ then 1024 else f.Λ)=false):(CW MJ U2 (vaH kk ks ko ST fs rs b0 s0 .ready [.var (Xi f0)]) true (sub NA 1) (vaS kk ks ko ST fs rs Ug some f x) (.exit 2) (Yn 63 (vaH kk ks ko ST fs rs Ug some .busy (zc9 (f.row.map .p))))):=by
 let v0:bY:=(Zg f)
 exact zx Xd [.b false] (.c U8 .n)
abbrev VS:=By×Bv
def VS.ok(s:VS):Prop:=s.1.length=1024/\s.2.length=1024
def An(f:Uh):Int:=if f.Λ<1024 then f.Λ else 1024
def gT(f:Uh)(s:VS)(n:Nat):VS:=bif zci f (s.1.getD n default) (s.2.getD n false) then (s.1.set n f,s.2.set n true) else s
def CS(f:Uh)(x:Int)(s:VS):VS:=(List.range' x.toNat (An f-x).toNat).foldl (gT f) s
theorem zgF{s:VS}(n:Nat)(h:s.ok):(gT f s n).ok:=by
 unfold gT
 cases zci f (s.1.getD n default) (s.2.getD n false)
 ·exact h
 ·exact⟨by simpa using h.1,by simpa using h.2⟩
theorem CT(f:Uh):(if false=true then if 1024>f.Λ then 1024 else f.Λ else if 1024<f.Λ then 1024 else f.Λ)=An f:=by
 unfold An;simp;split<;>split<;>omega
theorem va_cw{kk ks ko ST:Int}{fs:bv}{rs:bY}{Ug b0:By}{some s0:Bv}{f f0:Uh}{x:Int}(hx:0<=x)(ho:VS.ok (Ug,some)):
  CW MJ U2 (vaH kk ks ko ST fs rs b0 s0 .ready [.var (Xi f0)]) true (.loop (sub NA 1)) (vaS kk ks ko ST fs rs Ug some f x) (.exit 2) {t:=Ue 63 0 [],h:=vaH kk ks ko ST fs rs (CS f x (Ug,some)).1 (CS f x (Ug,some)).2 .busy (YA f),m:=[]}:=by
 have hx':((x.toNat:Nat):Int)=x:=by omega
 have hh:An f<=1024:=by unfold An;split<;>omega
 have:=CW.each (P:=MJ) (Γ:=U2) (h0:=vaH kk ks ko ST fs rs b0 s0 .ready [.var (Xi f0)]) (rd:=true) (c:=sub NA 1) (σ:=VS) (ρ:=Empty) (List.range' x.toNat (An f-x).toNat) (λn s=>.inl (gT f s n))
  (λi s=>vaS kk ks ko ST fs rs s.1 s.2 f (x+(i:Int))) (.exit 2) (λs=>(Yn 63 (vaH kk ks ko ST fs rs s.1 s.2 .busy (zc9 (f.row.map .p))))) (λr=>r.elim)
  (λ_ s=>s.ok) (by simp) (λr=>r.elim) ?_ ?_ (Ug,some) ho
 ·rw[aY (λs n=>gT f s n)] at this
  simpa[bJ,CS] using this
 ·intro i n s hn hs
  obtain⟨hi,he⟩:=MR.1 hn
  simp only[List.length_range'] at hi
  simp only[List.getElem_range',Nat.one_mul] at he
  have U8:(n:Int)<An f:=by omega
  have hb:s.1[n]? = .some (s.1.getD n default):=by
   rw[Nb,Nd (by rw[hs.1];omega)];rfl
  have hc:s.2[n]? = .some (s.2.getD n false):=by
   rw[Nb,Nd (by rw[hs.2];omega)];rfl
  refine⟨λs' h=>by cases h;exact zgF n hs,?_⟩
  have key:=va_b (kk:=kk) (ks:=ks) (ko:=ko) (ST:=ST) (fs:=fs) (rs:=rs) (b0:=b0) (s0:=s0) (f:=f) (f0:=f0) hb hc (by simp[UU];omega) (by rw[CT];simpa using U8)
  rw[wrap_i64 (by omega) (by omega)] at key
  have e1:x+(i:Int)=(n:Int):=by omega
  have e2:x+((i+1:Nat):Int)=(n:Int)+1:=by omega
  simp only[ad,e1,e2]
  unfold gT
  cases hq:zci f (s.1.getD n default) (s.2.getD n false)<;>rw[hq] at key<;>exact key
 ·intro s _
  refine va_l ?_
  rw[CT]
  simp
  omega
theorem Ky{ks:Int}{some:Bv}(ho:VS.ok (Ug,some)):(CW MJ U2 (vaH kk ks ko ST fs rs Ug some .ready [.var (Xi f)]) true (af (sub NA 0)) {t:=vaU,h:=vaH kk ks ko ST fs rs Ug some .busy (YA f),m:=[]} .normal {t:=Ue 63 0 [],h:=vaH kk ks ko ST fs rs (CS f (if true=true then if f.U3>0 then f.U3 else 0 else if f.U3<0 then f.U3 else 0) (Ug,some)).1 (CS f (if true=true then if f.U3>0 then f.U3 else 0 else if f.U3<0 then f.U3 else 0) (Ug,some)).2 .busy (YA f),m:=[]}):=by
 have UE:=(@va_cw (kk) (ks) (ko) (ST) (fs) (rs) (Ug) (Ug) (some) (some) (f) (f) (if true=true then if f.U3>0 then f.U3 else 0 else if f.U3<0 then f.U3 else 0) (by first|assumption|(simp;split<;>omega)|(simp;done)) (ho))
 let v1:bY:=(Zg f)
 let v0:aT:=[.var (Zw kk ks ko),.var rs,.var (Nf (dB (CS f (if true=true then if f.U3>0 then f.U3 else 0 else if f.U3<0 then f.U3 else 0) (Ug,some)).fst)),.var (Nf (eo (CS f (if true=true then if f.U3>0 then f.U3 else 0 else if f.U3<0 then f.U3 else 0) (Ug,some)).2)),.var [ab fs],.var (Zw kk ks ko),.var [SW ST],.Ut,.loop NJ none 0 Zt X9 (ar (sub NA 0)) (af (sub NA 0)),.var v1,.var v1]
 exact zx Xd [.sum [6,7,8,9,10] (Exit.exit 2) (Xy 63 v0)] (.c UE .n)
end Go.Vi
