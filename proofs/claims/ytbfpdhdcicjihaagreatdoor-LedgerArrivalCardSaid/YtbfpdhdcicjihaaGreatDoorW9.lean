/- LedgerArrival: part of the proof: contracts of the functions that the law reaches, and the law. No conditions beyond the given statement's own. -/
import Derived.Test.YtbfpdhdcicjihaaGreatDoorW8
open Decidable renaming decide → Qd
open BitVec renaming ofInt → G5, toNat → GT, shiftRight_add → Mx, ofNat → HY
open Int renaming fdiv → Jf, toNat → Hh
open Go.Proofs.Tryz renaming prog → GV, f103 → KR, f106 → JG, f101 → KS, f77 → Mh, f79 → Mi, f81 → Mj, f83 → Mk
open Go.IntKind renaming wrap → G1, u64 → Hg, u8 → GZ, i64 → GY
open List renaming length_map → HW, all_eq_true → Hs, mem_map → HS, map_append → HK, map_map → Jz, map → GU, all → Ia, length → G3, append_assoc → IA, cons_append → KW, take_succ_eq_append_getElem → I4, length_append → Hv, length_cons → HZ, take_length → Jx, getElem?_eq_getElem → HE, sizeOf_lt_of_mem → MW, mem_cons → HB
open Bool renaming true_and → Iy, and_eq_true → G6
open Go.Vi.Blk renaming inn → Ho
open Go.Vi.D renaming mapRL → HP, p → Hf, fn → Hy, agg → Hc, tup → IZ
open Go.Vi.Dp renaming v → G2
open Go.Value renaming int → GW, nilFunc → Hw, slice → G8, iface → Hd
open Go.Exit renaming normal → Hz, exit → HJ
open Go.Vi.Ev renaming castH → HU, post → LP, of_sym → Jj, frameX → Io, upX → Ls
open Go.Vi.CW renaming loopN → Jb
open UInt8 renaming toNat → Kg
open ByteArray renaming size → IG
open Go.Fn renaming func → He
open Go.Vi.Val renaming rows → Ie, rows_map → JL
open SizeOf renaming sizeOf → J9
open Go.Vi.MeT renaming row → Hm
open Go.Vi.GrT renaming row → Hn
open Go.Vi.BuT renaming row → G7
open Go Go.Proofs
namespace Go.Vi
set_option maxRecDepth 100000
set_option maxHeartbeats 4000000
def pI(n:Int):BitVec 64:=G5 64 n <<< 1 ^^^ G5 64 (Jf n (2 ^ 63))
theorem uns_ev{n:Int}(h:List Blk):(Ev GV Γ0 104 [int n] h (w64 (pI n)) h):=by
 exact zD (u64 (G1 Hg (↑(GT (G5 64 (G1 Hg (G1 Hg n*2 ^ min (Hh 1) 64)) ^^^ G5 64 (G1 Hg (Jf n (2 ^ min (Hh 63) 64))))):Int))) [] (.c (show Qd (0≤1)=true from rfl) (.c (show Qd (0≤63)=true from rfl) .n)) h (by first|rfl|(simp only[Es,gP,yv,pI]<;>rfl))
abbrev nmS(l:List (BitVec 8))(e:Nat)(u:BitVec 64):AS:={t:=mkT 20 0 [(0,.ref (.vec 0 e)),(1,w64 u),(4,bD)],h:=[.vec (l.map byV) e 1],m:=[]}
def GS(u:BitVec 64):BitVec 8:=u.setWidth 8 ||| 128
theorem BN{u:BitVec 64}:GZ.wrap ((G5 8 (GZ.wrap (u.toNat:Int)) ||| G5 8 128).toNat:Int)=((GS u).toNat:Int):=by
 rw[wr8 (u.toNat:Int),wr8,gP,gP,mw];rfl
abbrev uW(y:Int):D:=.p (.v (.int .u8 y))
theorem bb{l:List (BitVec 8)}{y:Int}(hl:l.length≤100000000000):([[uW y]].all (rowOk 1)&&roomOk ((l.map byV).length + [[uW y]].length) 1)=true:=by
 have:([[uW y]].all (rowOk 1))=true:=rfl
 rw[this]
 simp only[roomOk,HW,List.length_singleton,Iy,G6,decide_eq_true_eq]
 omega
theorem bc(k e:Nat)(l:List (BitVec 8))(y:Int):Ho k (.vec (l.map byV++[[uW y]]) e 1)=true:=by
 simp only[Ho]
 rw[Hs]
 intro r hr
 rcases List.mem_append.1 hr with hr|hr
 ·obtain⟨b,_,rfl⟩:=HS.1 hr
  rfl
 ·rw[List.mem_singleton] at hr
  rw[hr];rfl
theorem bd(f:Ref→D)(l:List (BitVec 8))(y:Int):(l.map byV++[[uW y]]).map (HP f)=l.map byV++[[uW y]]:=by
 rw[HK,Jz];rfl
theorem fN{l:List (BitVec 8)}{x:BitVec 8}{y:Int}(hy:y=(x.toNat:Int)):l.map byV++[[uW y]]=(l++[x]).map byV:=by
 subst hy
 rw[HK];rfl
theorem aK(k e:Nat)(l:List (BitVec 8)):Ho k (.vec (l.map byV) e 1)=true:=by
 simp only[Ho]
 rw[Hs]
 intro r hr
 obtain⟨b,_,rfl⟩:=HS.1 hr
 rfl
theorem aL(f:Ref→D)(l:List (BitVec 8)):(l.map byV).map (HP f)=l.map byV:=by
 rw[Jz];rfl
theorem pJ{u:BitVec 64}:Jf (u.toNat:Int) (2 ^ min (Hh 7) 64)=((u >>> 7).toNat:Int):=sH u 7
theorem BO{l:List (BitVec 8)}{u:BitVec 64}(hge:Qd ((u.toNat:Int)≥128)=true)(hl:l.length≤100000000000):(CW GV Γ0 [.vec (l.map byV) 0 1] false (sub KR 0) (nmS l 0 u) .normal (nmS (l++[GS u]) 1 (u >>> 7))):=by
 refine zX {t:=mkT 20 0 [(0,.ref (.vec 0 1)),(1,u64 (Jf (↑(GT u):Int) (2 ^ min (Hh 7) 64))),(4,nq)],h:=[.vec (GU byV l++[[Hf (G2 (GW GZ (G1 GZ (↑(GT (G5 8 (G1 GZ (↑(GT u):Int)) ||| G5 8 128)):Int))))]]) 1 1],m:=[]} Hz [.st (.mask [0,1,4]),.st (.trimV 1)] [.b true] (.c hge (.c (show(Ia [[Hf (G2 (GW GZ (G1 GZ (↑(GT (G5 8 (G1 GZ (↑(GT u):Int)) ||| G5 8 128)):Int))))]] (rowOk 1)&&roomOk (G3 (GU byV l)+G3 (α:=List D) [[Hf (G2 (GW GZ (G1 GZ (↑(GT (G5 8 (G1 GZ (↑(GT u):Int)) ||| G5 8 128)):Int))))]]) 1)=true from ?_) (.c (show Qd (0≤7)=true from rfl) (.c (show Ho 1 (.vec (GU byV l++[[Hf (G2 (GW GZ (G1 GZ (↑(GT (G5 8 (G1 GZ (↑(GT u):Int)) ||| G5 8 128)):Int))))]]) 1 1)=true from ?_) .n)))) (by first|rfl|(rw[pJ,fN BN]<;>rfl)) (by first|rfl|(rw[pJ,fN BN]<;>rfl))<;>(first|assumption|rfl|exact bb hl|exact bc _ _ _ _|exact bd _ _ _)
theorem BP{H:List (BitVec 8)}{l:List (BitVec 8)}{u:BitVec 64}(hge:Qd ((u.toNat:Int)≥128)=true)(hl:l.length≤100000000000):(CW GV Γ0 [.vec (H.map byV) 0 1] false (sub KR 0) (nmS l 1 u) .normal (nmS (l++[GS u]) 1 (u >>> 7))):=by
 refine zX {t:=mkT 20 0 [(0,.ref (.vec 0 1)),(1,u64 (Jf (↑(GT u):Int) (2 ^ min (Hh 7) 64))),(4,nq)],h:=[.vec (GU byV l++[[Hf (G2 (GW GZ (G1 GZ (↑(GT (G5 8 (G1 GZ (↑(GT u):Int)) ||| G5 8 128)):Int))))]]) 1 1],m:=[]} Hz [.st (.mask [0,1,4]),.st (.trimV 1),.st (.ren 0 1)] [.b true] (.c hge (.c (show(Ia [[Hf (G2 (GW GZ (G1 GZ (↑(GT (G5 8 (G1 GZ (↑(GT u):Int)) ||| G5 8 128)):Int))))]] (rowOk 1)&&roomOk (G3 (GU byV l)+G3 (α:=List D) [[Hf (G2 (GW GZ (G1 GZ (↑(GT (G5 8 (G1 GZ (↑(GT u):Int)) ||| G5 8 128)):Int))))]]) 1)=true from ?_) (.c (show Qd (0≤7)=true from rfl) (.c (show Ho 1 (.vec (GU byV l++[[Hf (G2 (GW GZ (G1 GZ (↑(GT (G5 8 (G1 GZ (↑(GT u):Int)) ||| G5 8 128)):Int))))]]) 2 1)=true from ?_) (.c (show GU (HP (cX 0 2 1)) (GU byV l++[[Hf (G2 (GW GZ (G1 GZ (↑(GT (G5 8 (G1 GZ (↑(GT u):Int)) ||| G5 8 128)):Int))))]])=GU byV l++[[Hf (G2 (GW GZ (G1 GZ (↑(GT (G5 8 (G1 GZ (↑(GT u):Int)) ||| G5 8 128)):Int))))]] from ?_) .n))))) (by first|rfl|(rw[pJ,fN BN]<;>rfl)) (by first|rfl|(rw[pJ,fN BN]<;>rfl))<;>(first|assumption|rfl|exact bb hl|exact bc _ _ _ _|exact bd _ _ _)
theorem zr{H:List (BitVec 8)}{l:List (BitVec 8)}{u:BitVec 64}{e:Nat}(hge:Qd ((u.toNat:Int)≥128)=false):(CW GV Γ0 [.vec (H.map byV) 0 1] false (sub KR 0) (nmS l e u) (.exit 0) (nmS l e u)):=by
 exact zx [.st (.mask [0,1,4])] [.b false] (.c hge .n)
theorem BQ{u:BitVec 64}:GZ.wrap (u.toNat:Int)=((u.setWidth 8).toNat:Int):=by rw[wr8,mw]
theorem nm_a0{l:List (BitVec 8)}{u:BitVec 64}(hl:l.length≤100000000000)
  (hc:CW GV Γ0 [.vec (l.map byV) 0 1] false (.loop (sub KR 0)) (nmS l 0 u) (.exit 0) (nmS l 0 u)):(Ev GV Γ0 103 [.ref (.vec 0 0),w64 u] [.vec (l.map byV) 0 1] (.ref (.vec 0 1)) [.vec ((l++[u.setWidth 8]).map byV) 1 1]):=by
 have hl0:=(@hc)
 refine HU (LP (d2:=.ref (.vec 0 1)) (h2:=[.vec (GU byV l++[[Hf (G2 (GW GZ (G1 GZ (↑(GT u):Int))))]]) 1 1]) (φ:=[Ho 1 (.vec (GU byV l++[[Hf (G2 (GW GZ (G1 GZ (↑(GT u):Int))))]]) 1 1)=true]) [.st (.trimV 1)] (Jj (h':=[.vec (GU byV l++[[Hf (G2 (GW GZ (G1 GZ (↑(GT u):Int))))]]) 1 1,.vec [[Hf (G2 (GW GZ (G1 GZ (↑(GT u):Int))))]] 0 1]) (d:=.ref (.vec 0 1)) pok [.sum [0,1,4] (HJ 0) {t:=mkT 20 0 [(0,.ref (.vec 0 0)),(1,u64 (↑(GT u):Int)),(4,nq)],h:=[.vec (GU byV l) 0 1],m:=[]}] (by kernel_rfl) (.c hl0 (.c (show(Ia [[Hf (G2 (GW GZ (G1 GZ (↑(GT u):Int))))]] (rowOk 1)&&roomOk (G3 (GU byV l)+G3 (α:=List D) [[Hf (G2 (GW GZ (G1 GZ (↑(GT u):Int))))]]) 1)=true from ?_) .n))) (by kernel_rfl) ⟨?_,trivial⟩) (by first|rfl|(rw[fN BQ]<;>rfl)) (by first|rfl|(rw[fN BQ]<;>rfl))<;>(first|assumption|rfl|exact bb hl|exact bc _ _ _ _|exact bd _ _ _)
theorem nm_a1{l k:List (BitVec 8)}{u v:BitVec 64}(hl:k.length≤100000000000)
  (hc:CW GV Γ0 [.vec (l.map byV) 0 1] false (.loop (sub KR 0)) (nmS l 0 u) (.exit 0) (nmS k 1 v)):(Ev GV Γ0 103 [.ref (.vec 0 0),w64 u] [.vec (l.map byV) 0 1] (.ref (.vec 0 1)) [.vec ((k++[v.setWidth 8]).map byV) 1 1]):=by
 have hl0:=(@hc)
 refine HU (LP (d2:=.ref (.vec 0 1)) (h2:=[.vec (GU byV k++[[Hf (G2 (GW GZ (G1 GZ (↑(GT v):Int))))]]) 1 1]) (φ:=[Ho 1 (.vec (GU byV k++[[Hf (G2 (GW GZ (G1 GZ (↑(GT v):Int))))]]) 2 1)=true,GU (HP (cX 0 2 1)) (GU byV k++[[Hf (G2 (GW GZ (G1 GZ (↑(GT v):Int))))]])=GU byV k++[[Hf (G2 (GW GZ (G1 GZ (↑(GT v):Int))))]]]) [.st (.trimV 1),.st (.ren 0 1)] (Jj (h':=[.vec (GU byV k++[[Hf (G2 (GW GZ (G1 GZ (↑(GT v):Int))))]]) 2 1,.vec [[Hf (G2 (GW GZ (G1 GZ (↑(GT v):Int))))]] 0 1]) (d:=.ref (.vec 0 2)) pok [.sum [0,1,4] (HJ 0) {t:=mkT 20 0 [(0,.ref (.vec 0 1)),(1,u64 (↑(GT v):Int)),(4,nq)],h:=[.vec (GU byV k) 1 1],m:=[]}] (by kernel_rfl) (.c hl0 (.c (show(Ia [[Hf (G2 (GW GZ (G1 GZ (↑(GT v):Int))))]] (rowOk 1)&&roomOk (G3 (GU byV k)+G3 (α:=List D) [[Hf (G2 (GW GZ (G1 GZ (↑(GT v):Int))))]]) 1)=true from ?_) .n))) (by kernel_rfl) ⟨?_,?_,trivial⟩) (by first|rfl|(rw[fN BQ]<;>rfl)) (by first|rfl|(rw[fN BQ]<;>rfl))<;>(first|assumption|rfl|exact bb hl|exact bc _ _ _ _|exact bd _ _ _)
def nmL(u:BitVec 64)(i:Nat):List (BitVec 8):=(List.range i).map fun j=>GS (u >>> (7*j))
theorem BR(u:BitVec 64)(i:Nat):nmL u (i+1)=nmL u i++[GS (u >>> (7*i))]:=by
 unfold nmL;rw[List.range_succ,HK];rfl
def nmN:Nat→BitVec 64→Nat
 | 0,_=>0
 | k+1,u=>match Qd (u.toNat<128) with
  | true=>0
  | false=>nmN k (u >>> 7)+1
def gk(u:BitVec 64):List (BitVec 8):=nmL u (nmN 10 u)++[(u >>> (7*nmN 10 u)).setWidth 8]
theorem uX:∀(k:Nat) (u:BitVec 64),nmN k u≤k
 | 0,_=>Nat.le_refl _
 | k+1,u=>by
  unfold nmN
  split
  ·omega
  ·have:=uX k (u >>> 7);omega
theorem shr7(u:BitVec 64)(i:Nat):(u >>> 7) >>> (7*i)=u >>> (7*(i+1)):=by
 rw[←Mx];congr 1;omega
theorem CG:∀(k:Nat) (u:BitVec 64) (i:Nat),i<nmN k u→128≤(u >>> (7*i)).toNat
 | 0,_,i,h=>by simp[nmN] at h
 | k+1,u,i,h=>by
  unfold nmN at h
  split at h
  ·omega
  ·rename_i hd
   have hd:=of_decide_eq_false hd
   cases i with
   | zero=>simp;omega
   | succ i =>
    rw[←shr7]
    exact CG k _ i (by omega)
theorem CH:∀(k:Nat) (u:BitVec 64),u.toNat<128 ^ k→1≤k→(u >>> (7*nmN k u)).toNat<128
 | 0,_,_,h=>by omega
 | k+1,u,h,_=>by
  unfold nmN
  split
  ·rename_i hd
   have hd:=of_decide_eq_true hd
   simpa using hd
  ·rename_i hd
   have hd:=of_decide_eq_false hd
   rw[←shr7]
   have h7:(u >>> 7).toNat=u.toNat / 128:=by simp[Nat.shiftRight_eq_div_pow]
   have hlt:(u >>> 7).toNat<128 ^ k:=by
    rw[h7]
    rw[Nat.pow_succ] at h
    exact Nat.div_lt_of_lt_mul (by rw[Nat.mul_comm];exact h)
   refine CH k _ hlt ?_
   rcases Nat.eq_zero_or_pos k with rfl|hk
   ·simp at h;omega
   ·exact hk
noncomputable def nmT(l:List (BitVec 8))(u:BitVec 64):Nat→AS
 | 0=>nmS l 0 u
 | n+1=>nmS (l++nmL u (n+1)) 1 (u >>> (7*(n+1)))
theorem nm_l{l:List (BitVec 8)}{u:BitVec 64}(hl:l.length≤1000000000):
  CW GV Γ0 [.vec (l.map byV) 0 1] false (.loop (sub KR 0)) (nmS l 0 u) (.exit 0) (nmT l u (nmN 10 u)):=by
 have hlast:=CH 10 u (by have:=u.isLt;omega) (by omega)
 have hge:=CG 10 u
 have hle:=uX 10 u
 generalize nmN 10 u=n at hlast hge hle
 have h0:=Jb (P:=GV) (Γ:=Γ0) (h0:=[.vec (l.map byV) 0 1]) (rd:=false) (c:=sub KR 0) n (nmT l u) (e:=.exit 0) (s':=nmT l u n) (by simp) (fun i hi=>?_) ?_
 ·exact h0
 ·have hg:=hge i hi
  cases i with
  | zero =>
   have e:nmL u 1=[GS u]:=by simp[nmL]
   show CW _ _ _ _ _ (nmS l 0 u) _ (nmS (l++nmL u 1) 1 (u >>> (7*1)))
   rw[e]
   exact BO (decide_eq_true (by simp at hg;omega)) (by omega)
  | succ j =>
   show CW _ _ _ _ _ (nmS (l++nmL u (j+1)) 1 (u >>> (7*(j+1)))) _ (nmS (l++nmL u (j+1+1)) 1 (u >>> (7*(j+1+1))))
   rw[BR u (j+1),←IA]
   have e2:u >>> (7*(j+1+1))=(u >>> (7*(j+1))) >>> 7:=by rw[←Mx];congr 1
   rw[e2]
   exact BP (decide_eq_true (by omega)) (by simp[nmL];omega)
 ·cases n with
  | zero=>exact zr (decide_eq_false (by simp at hlast;omega))
  | succ j=>exact zr (decide_eq_false (by omega))
theorem uY{l:List (BitVec 8)}{u:BitVec 64}(hl:l.length≤1000000000):Ev GV Γ0 103 [.ref (.vec 0 0),w64 u] [.vec (l.map byV) 0 1] (.ref (.vec 0 1)) [.vec ((l++gk u).map byV) 1 1]:=by
 have h:=nm_l (l:=l) (u:=u) hl
 unfold gk
 have hle:=uX 10 u
 generalize nmN 10 u=n at h hle
 cases n with
 | zero =>
  exact nm_a0 (by omega) h
 | succ j =>
  rw[←IA]
  exact nm_a1 (by simp[nmL];omega) h
theorem kQ(u:BitVec 64):(gk u).length≤11:=by
 unfold gk
 have:=uX 10 u
 simp[nmL];omega
theorem Gj{l:List (BitVec 8)}:l.map byV++[[uW 1]]=(l++[1]).map byV:=fN (x:=1) rfl
theorem Gk{l:List (BitVec 8)}:l.map byV++[[uW 2]]=(l++[2]).map byV:=fN (x:=2) rfl
theorem Gl{l:List (BitVec 8)}:l.map byV++[[uW 3]]=(l++[3]).map byV:=fN (x:=3) rfl
noncomputable abbrev mB(l:List (BitVec 8))(n:Int):List Blk:=[.vec (GU byV l++[[Hf (G2 (GW GZ 1))]]) 1 1,.var [int 1,int n,ad emp,nq],.vec [[Hf (G2 (GW GZ 1))]] 0 1]
noncomputable abbrev mC(m:List (BitVec 8))(n:Int):List Blk:=[.vec (GU byV m) 2 1,.var [int 1,int n,ad emp,nq],.vec [[Hf (G2 (GW GZ 1))]] 0 1]
theorem wnum_a{l m:List (BitVec 8)}{n:Int}(hl:l.length≤1000000000)
  (hn:Ev GV Γ0 103 [.ref (.vec 0 0),w64 (pI n)] [.vec (l.map byV++[[uW 1]]) 0 1] (.ref (.vec 0 1)) [.vec (m.map byV) 1 1]):(Ev GV Γ0 102 [.ref (.vec 0 0),ag (ao n)] [.vec (l.map byV) 0 1] (.ref (.vec 0 1)) [.vec (m.map byV) 1 1]):=by
 refine HU (LP (d2:=.ref (.vec 0 1)) (h2:=[.vec (GU byV m) 1 1]) (φ:=[Ho 1 (.vec (GU byV m) 2 1)=true,GU (HP (cX 0 2 1)) (GU byV m)=GU byV m]) [.st (.trimV 1),.st (.ren 0 1)] (Jj (h':=(mC m n)) (d:=.ref (.vec 0 2)) pok [.val (u64 (↑(GT (pI n)):Int)),.call (.ref (.vec 0 2)) (mC m n)] (by kernel_rfl) (.c (show(Ia [[Hf (G2 (GW GZ 1))]] (rowOk 1)&&roomOk (G3 (GU byV l)+G3 (α:=List D) [[Hf (G2 (GW GZ 1))]]) 1)=true from(by first|assumption|rfl|exact bb (by omega)|exact bc _ _ _ _|exact bd _ _ _|exact aL _ _|exact aK _ _ _)) (.c (@uns_ev (n) ((mB l n))) (.c (show Ev GV Γ0 103 [.ref (.vec 0 1),u64 (↑(GT (pI n)):Int)] (mB l n) (.ref (.vec 0 2)) (mC m n) from(HU (Io (args:=[.ref (.vec 0 1),u64 (↑(GT (pI n)):Int)]) (H:=(mB l n)) [0] (Ls [1] (@hn) (by kernel_rfl) ⟨?_,trivial⟩ ⟨?_,trivial⟩) (by kernel_rfl) (by kernel_rfl) (by kernel_rfl) ⟨?_,trivial⟩ ⟨?_,trivial⟩) (by kernel_rfl) (by kernel_rfl))) (.e (.ref (.ptr 1 1)) (.e (.ref (.ptr 1 1)) (.e (.ref (.ptr 1 1)) (.c (show @Eq (Option D) (some (int n)) (some (int n)) from rfl) (.c (show @Eq (Option D) (some (int n)) (some (int n)) from rfl) (.c (show @Eq (Option D) (some (int n)) (some (int n)) from rfl) .n)))))))))) (by kernel_rfl) ⟨(by first|assumption|rfl|exact bb (by omega)|exact bc _ _ _ _|exact bd _ _ _|exact aL _ _|exact aK _ _ _),(by first|assumption|rfl|exact bb (by omega)|exact bc _ _ _ _|exact bd _ _ _|exact aL _ _|exact aK _ _ _),trivial⟩) (by first|rfl|done) (by first|rfl|done)<;>(first|rfl|exact ay _ _|first|assumption|rfl|exact bb (by omega)|exact bc _ _ _ _|exact bd _ _ _|exact aL _ _|exact aK _ _ _)
theorem zt{l:List (BitVec 8)}{n:Int}(hl:l.length≤100000000):Ev GV Γ0 102 [.ref (.vec 0 0),ag (ao n)] [.vec (l.map byV) 0 1] (.ref (.vec 0 1)) [.vec ((l++[1]++gk (pI n)).map byV) 1 1]:=by
 refine wnum_a (by omega) ?_
 rw[Gj]
 exact uY (by simp;omega)
abbrev stR(s:ByteArray):List (List D):=s.data.toList.map fun b=>[lit (.int .u8 b.toNat)]
theorem rM(s:ByteArray):stR s=(dP s).map byV:=jZ s
theorem mD{l:List (BitVec 8)}{s:ByteArray}(hl:l.length+s.size≤100000000000):((stR s).all (rowOk 1)&&roomOk ((l.map byV).length+(stR s).length) 1)=true:=by
 rw[rM]
 have e6:((dP s).map byV).all (rowOk 1)=true:=by
  rw[Hs];intro x hx;obtain⟨b,_,rfl⟩:=HS.1 hx;rfl
 have e7:(dP s).length=s.size:=by simp[dP]
 rw[e6]
 simp only[roomOk,HW,e7,Iy,G6,decide_eq_true_eq]
 omega
theorem mF(k e:Nat)(l:List (BitVec 8))(s:ByteArray):Ho k (.vec (l.map byV++stR s) e 1)=true:=by
 rw[rM,←HK];exact aK _ _ _
theorem mG(f:Ref→D)(l:List (BitVec 8))(s:ByteArray):(l.map byV++stR s).map (HP f)=l.map byV++stR s:=by
 rw[rM,←HK];exact aL _ _
theorem Gm{l m:List (BitVec 8)}{s:ByteArray}(hl:l.length≤1000000000)(hm:m.length+s.size≤100000000000)
  (hn:Ev GV Γ0 103 [.ref (.vec 0 0),.p (.v (.int .u64 (Hg.wrap (s.size:Int))))] [.vec (l.map byV++[[uW 2]]) 0 1] (.ref (.vec 0 1)) [.vec (m.map byV) 1 1]):(Ev GV Γ0 105 [.ref (.vec 0 0),ag (gj s)] [.vec (l.map byV) 0 1] (.ref (.vec 0 1)) [.vec ((m++dP s).map byV) 1 1]):=by
 refine HU (LP (d2:=.ref (.vec 0 1)) (h2:=[.vec (GU byV m++GU (fun b=>[lit (GW GZ (↑(Kg b):Int))]) s.data.toList) 1 1]) (φ:=[Ho 1 (.vec (GU byV m++GU (fun b=>[lit (GW GZ (↑(Kg b):Int))]) s.data.toList) 3 1)=true,GU (HP (cX 0 3 1)) (GU byV m++GU (fun b=>[lit (GW GZ (↑(Kg b):Int))]) s.data.toList)=GU byV m++GU (fun b=>[lit (GW GZ (↑(Kg b):Int))]) s.data.toList]) [.st (.trimV 1),.st (.ren 0 1)] (Jj (h':=[.vec (GU byV m++GU (fun b=>[lit (GW GZ (↑(Kg b):Int))]) s.data.toList) 3 1,.var [int 2,int 0,ad s,nq],.vec [[Hf (G2 (GW GZ 2))]] 0 1]) (d:=.ref (.vec 0 3)) pok [.call (.ref (.vec 0 2)) [.vec (GU byV m) 2 1,.var [int 2,int 0,ad s,nq],.vec [[Hf (G2 (GW GZ 2))]] 0 1]] (by kernel_rfl) (.c (show(Ia [[Hf (G2 (GW GZ 2))]] (rowOk 1)&&roomOk (G3 (GU byV l)+G3 (α:=List D) [[Hf (G2 (GW GZ 2))]]) 1)=true from(by first|assumption|rfl|exact bb (by omega)|exact mD hm|exact bc _ _ _ _|exact bd _ _ _|exact aL _ _|exact aK _ _ _|exact mF _ _ _ _|exact mG _ _ _)) (.c (show Ev GV Γ0 103 [.ref (.vec 0 1),u64 (G1 Hg (↑(IG s):Int))] [.vec (GU byV l++[[Hf (G2 (GW GZ 2))]]) 1 1,.var [int 2,int 0,ad s,nq],.vec [[Hf (G2 (GW GZ 2))]] 0 1] (.ref (.vec 0 2)) [.vec (GU byV m) 2 1,.var [int 2,int 0,ad s,nq],.vec [[Hf (G2 (GW GZ 2))]] 0 1] from(HU (Io (args:=[.ref (.vec 0 1),u64 (G1 Hg (↑(IG s):Int))]) (H:=[.vec (GU byV l++[[Hf (G2 (GW GZ 2))]]) 1 1,.var [int 2,int 0,ad s,nq],.vec [[Hf (G2 (GW GZ 2))]] 0 1]) [0] (Ls [1] (@hn) (by kernel_rfl) ⟨?_,trivial⟩ ⟨?_,trivial⟩) (by kernel_rfl) (by kernel_rfl) (by kernel_rfl) ⟨?_,trivial⟩ ⟨?_,trivial⟩) (by kernel_rfl) (by kernel_rfl))) (.c (show(Ia (GU (fun b=>[lit (GW GZ (↑(Kg b):Int))]) s.data.toList) (rowOk 1)&&roomOk (G3 (GU byV m)+G3 (GU (fun b=>[lit (GW GZ (↑(Kg b):Int))]) s.data.toList)) 1)=true from(by first|assumption|rfl|exact bb (by omega)|exact mD hm|exact bc _ _ _ _|exact bd _ _ _|exact aL _ _|exact aK _ _ _|exact mF _ _ _ _|exact mG _ _ _)) (.e (.ref (.ptr 1 2)) (.e (.ref (.ptr 1 2)) (.e (.ref (.ptr 1 2)) (.c (show @Eq (Option D) (some (ad s)) (some (ad s)) from rfl) (.c (show @Eq (Option D) (some (ad s)) (some (ad s)) from rfl) (.c (show @Eq (Option D) (some (ad s)) (some (ad s)) from rfl) (.e (.ref (.ptr 1 2)) (.e (.ref (.ptr 1 2)) (.e (.ref (.ptr 1 2)) (.e (.ref (.ptr 1 2)) (.c (show @Eq (Option D) (some (ad s)) (some (ad s)) from rfl) (.c (show @Eq (Option D) (some (ad s)) (some (ad s)) from rfl) (.c (show @Eq (Option D) (some (ad s)) (some (ad s)) from rfl) (.c (show @Eq (Option D) (some (ad s)) (some (ad s)) from rfl) .n)))))))))))))))))) (by kernel_rfl) ⟨(by first|assumption|rfl|exact bb (by omega)|exact mD hm|exact bc _ _ _ _|exact bd _ _ _|exact aL _ _|exact aK _ _ _|exact mF _ _ _ _|exact mG _ _ _),(by first|assumption|rfl|exact bb (by omega)|exact mD hm|exact bc _ _ _ _|exact bd _ _ _|exact aL _ _|exact aK _ _ _|exact mF _ _ _ _|exact mG _ _ _),trivial⟩) (by first|rfl|(rw[HK,←rM]<;>rfl)) (by first|rfl|(rw[HK,←rM]<;>rfl))<;>(first|rfl|exact ay _ _|first|assumption|rfl|exact bb (by omega)|exact mD hm|exact bc _ _ _ _|exact bd _ _ _|exact aL _ _|exact aK _ _ _|exact mF _ _ _ _|exact mG _ _ _)
theorem uZ{l:List (BitVec 8)}{s:ByteArray}(hl:l.length≤100000000)(hs:s.size≤1000000000):Ev GV Γ0 105 [.ref (.vec 0 0),ag (gj s)] [.vec (l.map byV) 0 1] (.ref (.vec 0 1)) [.vec ((l++[2]++gk (HY 64 s.size)++dP s).map byV) 1 1]:=by
 have h1:=kQ (HY 64 s.size)
 refine Gm (by omega) (by simp;omega) ?_
 have e:Hg.wrap (s.size:Int)=((HY 64 s.size).toNat:Int):=by rw[Es];congr 2
 rw[Gk,e]
 exact uY (by simp;omega)
abbrev wrF:D:=.fn (.func 106) [] [.ref (.ptr 1 0)]
abbrev wrH(l:List (BitVec 8))(e:Nat):List Blk:=[.vec (l.map byV) e 1,.var [.ref (.ptr 2 0)],.var [lit .nilFunc,fq 102,fq 105,wrF]]
abbrev wlS(l:List (BitVec 8))(r:List (List Dp))(i:Int):AS:={t:=mkT 35 0 [(0,.ref (.vec 0 1)),(2,.ref (.ptr 1 0)),(5,bD),(17,aa r),(18,int (r.length:Int)),(19,int i)],h:=wrH l 1++[.var [int 3,int 0,ad emp,.p (.sl r)]],m:=[]}
theorem wl_num{H l:List (BitVec 8)}{r:List (List Dp)}{n:Int}{i:Nat}(hr:af (i:Int) r (ao n) 4)(hlt:Qd ((i:Int)<(r.length:Int))=true)(hw:GY.wrap ((i:Int)+1)=((i+1:Nat):Int))(hl:l.length≤100000000):(CW GV Γ0 (wrH H 0) false (sub JG 0) (wlS l r i) .normal (wlS (l++[1]++gk (pI n)) r ((i+1:Nat):Int))):=by
 refine CW.cast (CW.symX (s':={t:=mkT 35 0 [(0,.ref (.vec 0 1)),(2,.ref (.ptr 1 0)),(5,nq),(17,aa r),(18,int (↑(G3 r):Int)),(19,int (G1 GY ((↑i:Int)+1)))],h:=[.vec (GU byV (l++[1]++gk (pI n))) 1 1,.var [.ref (.ptr 2 0)],.var [Hf (G2 Hw),fq 102,fq 105,Hy (He 106) [] [.ref (.ptr 1 0)]],.var [int 3,int 0,ad emp,aa r]],m:=[]}) (e:=Hz) pok [.st (.mask [0,2,5,17,18,19]),.st (.trimV 4),.st (.ren 0 1)] [.b true,.row [vi 1,vi n,vs emp,G2 (G8 none 0 0)],.call (.ref (.vec 0 2)) [.vec (GU byV (l++[1]++gk (pI n))) 2 1,.var [.ref (.ptr 2 0)],.var [Hf (G2 Hw),fq 102,fq 105,Hy (He 106) [] [.ref (.ptr 1 0)]],.var [int 3,int 0,ad emp,aa r],.var [int 1,int n,ad emp,nq]]] (by kernel_rfl) (.c hlt (.c hr (.c (show inR 1 4=true from rfl) (.c (show Ev GV Γ0 102 [.ref (.vec 0 1),Hc [int 1,int n,ad emp,nq]] [.vec (GU byV l) 1 1,.var [.ref (.ptr 2 0)],.var [Hf (G2 Hw),fq 102,fq 105,Hy (He 106) [] [.ref (.ptr 1 0)]],.var [int 3,int 0,ad emp,aa r],.var [int 1,int n,ad emp,nq]] (.ref (.vec 0 2)) [.vec (GU byV (l++[1]++gk (pI n))) 2 1,.var [.ref (.ptr 2 0)],.var [Hf (G2 Hw),fq 102,fq 105,Hy (He 106) [] [.ref (.ptr 1 0)]],.var [int 3,int 0,ad emp,aa r],.var [int 1,int n,ad emp,nq]] from(HU (Io (args:=[.ref (.vec 0 1),Hc [int 1,int n,ad emp,nq]]) (H:=[.vec (GU byV l) 1 1,.var [.ref (.ptr 2 0)],.var [Hf (G2 Hw),fq 102,fq 105,Hy (He 106) [] [.ref (.ptr 1 0)]],.var [int 3,int 0,ad emp,aa r],.var [int 1,int n,ad emp,nq]]) [0] (Ls [1] (@zt (l) (n) (hl)) (by kernel_rfl) ⟨?_,trivial⟩ ⟨?_,trivial⟩) (by kernel_rfl) (by kernel_rfl) (by kernel_rfl) ⟨?_,trivial⟩ ⟨?_,trivial⟩) (by kernel_rfl) (by kernel_rfl))) (.c (show @Eq (Option D) (some (.ref (.ptr 2 0))) (some (.ref (.ptr 2 0))) from rfl) (.e (.ref (.ptr 4 0)) (.c (show @Eq (Option D) (some (int 1)) (some (int 1)) from rfl) (.e (.ref (.ptr 2 0)) (.c (show inR 1 4=true from rfl) (.e (.ref (.ptr 2 1)) (.e (.ref (.ptr 2 1)) (.c (show @Eq (Option D) (some (fq 102)) (some (fq 102)) from rfl) (.e (Hc [int 1,int n,ad emp,nq]) (.c (show Ho 4 (.vec (GU byV (l++[1]++gk (pI n))) 2 1)=true from(by first|assumption|rfl|exact aL _ _|exact aK _ _ _)) (.c (show Ho 4 (.var [.ref (.ptr 2 0)])=true from rfl) (.c (show Ho 4 (.var [Hf (G2 Hw),fq 102,fq 105,Hy (He 106) [] [.ref (.ptr 1 0)]])=true from rfl) (.c (show Ho 4 (.var [int 3,int 0,ad emp,aa r])=true from rfl) (.c (show GU (HP (cX 0 2 1)) (GU byV (l++[1]++gk (pI n)))=GU byV (l++[1]++gk (pI n)) from(by first|assumption|rfl|exact aL _ _|exact aK _ _ _)) .n))))))))))))))))))) (by first|rfl|(rw[hw]<;>rfl)) (by first|rfl|(rw[hw]<;>rfl))<;>(first|rfl|exact ay _ _|first|assumption|rfl|exact aL _ _|exact aK _ _ _)
theorem Gn{H l:List (BitVec 8)}{r:List (List Dp)}{s:ByteArray}{i:Nat}(hr:af (i:Int) r (gj s) 4)(hlt:Qd ((i:Int)<(r.length:Int))=true)(hw:GY.wrap ((i:Int)+1)=((i+1:Nat):Int))(hl:l.length≤100000000)(hs:s.size≤1000000000):(CW GV Γ0 (wrH H 0) false (sub JG 0) (wlS l r i) .normal (wlS (l++[2]++gk (HY 64 s.size)++dP s) r ((i+1:Nat):Int))):=by
 refine CW.cast (CW.symX (s':={t:=mkT 35 0 [(0,.ref (.vec 0 1)),(2,.ref (.ptr 1 0)),(5,nq),(17,aa r),(18,int (↑(G3 r):Int)),(19,int (G1 GY ((↑i:Int)+1)))],h:=[.vec (GU byV (l++[2]++gk (HY 64 (IG s))++dP s)) 1 1,.var [.ref (.ptr 2 0)],.var [Hf (G2 Hw),fq 102,fq 105,Hy (He 106) [] [.ref (.ptr 1 0)]],.var [int 3,int 0,ad emp,aa r]],m:=[]}) (e:=Hz) pok [.st (.mask [0,2,5,17,18,19]),.st (.trimV 4),.st (.ren 0 1)] [.b true,.row [vi 2,vi 0,vs s,G2 (G8 none 0 0)],.call (.ref (.vec 0 2)) [.vec (GU byV (l++[2]++gk (HY 64 (IG s))++dP s)) 2 1,.var [.ref (.ptr 2 0)],.var [Hf (G2 Hw),fq 102,fq 105,Hy (He 106) [] [.ref (.ptr 1 0)]],.var [int 3,int 0,ad emp,aa r],.var [int 2,int 0,ad s,nq]]] (by kernel_rfl) (.c hlt (.c hr (.c (show inR 2 4=true from rfl) (.c (show Ev GV Γ0 105 [.ref (.vec 0 1),Hc [int 2,int 0,ad s,nq]] [.vec (GU byV l) 1 1,.var [.ref (.ptr 2 0)],.var [Hf (G2 Hw),fq 102,fq 105,Hy (He 106) [] [.ref (.ptr 1 0)]],.var [int 3,int 0,ad emp,aa r],.var [int 2,int 0,ad s,nq]] (.ref (.vec 0 2)) [.vec (GU byV (l++[2]++gk (HY 64 (IG s))++dP s)) 2 1,.var [.ref (.ptr 2 0)],.var [Hf (G2 Hw),fq 102,fq 105,Hy (He 106) [] [.ref (.ptr 1 0)]],.var [int 3,int 0,ad emp,aa r],.var [int 2,int 0,ad s,nq]] from(HU (Io (args:=[.ref (.vec 0 1),Hc [int 2,int 0,ad s,nq]]) (H:=[.vec (GU byV l) 1 1,.var [.ref (.ptr 2 0)],.var [Hf (G2 Hw),fq 102,fq 105,Hy (He 106) [] [.ref (.ptr 1 0)]],.var [int 3,int 0,ad emp,aa r],.var [int 2,int 0,ad s,nq]]) [0] (Ls [1] (@uZ (l) (s) (hl) (hs)) (by kernel_rfl) ⟨?_,trivial⟩ ⟨?_,trivial⟩) (by kernel_rfl) (by kernel_rfl) (by kernel_rfl) ⟨?_,trivial⟩ ⟨?_,trivial⟩) (by kernel_rfl) (by kernel_rfl))) (.c (show @Eq (Option D) (some (.ref (.ptr 2 0))) (some (.ref (.ptr 2 0))) from rfl) (.e (.ref (.ptr 4 0)) (.c (show @Eq (Option D) (some (int 2)) (some (int 2)) from rfl) (.e (.ref (.ptr 2 0)) (.c (show inR 2 4=true from rfl) (.e (.ref (.ptr 2 2)) (.e (.ref (.ptr 2 2)) (.c (show @Eq (Option D) (some (fq 105)) (some (fq 105)) from rfl) (.e (Hc [int 2,int 0,ad s,nq]) (.c (show Ho 4 (.vec (GU byV (l++[2]++gk (HY 64 (IG s))++dP s)) 2 1)=true from(by first|assumption|rfl|exact aL _ _|exact aK _ _ _)) (.c (show Ho 4 (.var [.ref (.ptr 2 0)])=true from rfl) (.c (show Ho 4 (.var [Hf (G2 Hw),fq 102,fq 105,Hy (He 106) [] [.ref (.ptr 1 0)]])=true from rfl) (.c (show Ho 4 (.var [int 3,int 0,ad emp,aa r])=true from rfl) (.c (show GU (HP (cX 0 2 1)) (GU byV (l++[2]++gk (HY 64 (IG s))++dP s))=GU byV (l++[2]++gk (HY 64 (IG s))++dP s) from(by first|assumption|rfl|exact aL _ _|exact aK _ _ _)) .n))))))))))))))))))) (by first|rfl|(rw[hw]<;>rfl)) (by first|rfl|(rw[hw]<;>rfl))<;>(first|rfl|exact ay _ _|first|assumption|rfl|exact aL _ _|exact aK _ _ _)
theorem Gp{H l m:List (BitVec 8)}{r q:List (List Dp)}{i:Nat}(hr:af (i:Int) r (aG q) 4)(hlt:Qd ((i:Int)<(r.length:Int))=true)(hw:GY.wrap ((i:Int)+1)=((i+1:Nat):Int))
  (hrec:Ev GV Γ0 106 [.ref (.vec 0 0),liO q,.ref (.ptr 1 0)] (wrH l 0) (.ref (.vec 0 1)) (wrH m 1)):(CW GV Γ0 (wrH H 0) false (sub JG 0) (wlS l r i) .normal (wlS m r ((i+1:Nat):Int))):=by
 refine CW.cast (CW.symX (s':={t:=mkT 35 0 [(0,.ref (.vec 0 1)),(2,.ref (.ptr 1 0)),(5,nq),(17,aa r),(18,int (↑(G3 r):Int)),(19,int (G1 GY ((↑i:Int)+1)))],h:=[.vec (GU byV m) 1 1,.var [.ref (.ptr 2 0)],.var [Hf (G2 Hw),fq 102,fq 105,Hy (He 106) [] [.ref (.ptr 1 0)]],.var [int 3,int 0,ad emp,aa r]],m:=[]}) (e:=Hz) pok [.st (.mask [0,2,5,17,18,19]),.st (.trimV 4),.st (.ren 0 1)] [.b true,.row [vi 3,vi 0,vs emp,Dp.sl q],.call (.ref (.vec 0 2)) [.vec (GU byV m) 2 1,.var [.ref (.ptr 2 0)],.var [Hf (G2 Hw),fq 102,fq 105,Hy (He 106) [] [.ref (.ptr 1 0)]],.var [int 3,int 0,ad emp,aa r],.var [int 3,int 0,ad emp,aa q]]] (by kernel_rfl) (.c hlt (.c hr (.c (show inR 3 4=true from rfl) (.c (show Ev GV Γ0 106 [.ref (.vec 0 1),Hc [int 3,int 0,ad emp,aa q],.ref (.ptr 1 0)] [.vec (GU byV l) 1 1,.var [.ref (.ptr 2 0)],.var [Hf (G2 Hw),fq 102,fq 105,Hy (He 106) [] [.ref (.ptr 1 0)]],.var [int 3,int 0,ad emp,aa r],.var [int 3,int 0,ad emp,aa q]] (.ref (.vec 0 2)) [.vec (GU byV m) 2 1,.var [.ref (.ptr 2 0)],.var [Hf (G2 Hw),fq 102,fq 105,Hy (He 106) [] [.ref (.ptr 1 0)]],.var [int 3,int 0,ad emp,aa r],.var [int 3,int 0,ad emp,aa q]] from(HU (Io (args:=[.ref (.vec 0 1),Hc [int 3,int 0,ad emp,aa q],.ref (.ptr 1 0)]) (H:=[.vec (GU byV l) 1 1,.var [.ref (.ptr 2 0)],.var [Hf (G2 Hw),fq 102,fq 105,Hy (He 106) [] [.ref (.ptr 1 0)]],.var [int 3,int 0,ad emp,aa r],.var [int 3,int 0,ad emp,aa q]]) [0,1,2] (Ls [1,0,0] (@hrec) (by kernel_rfl) ⟨?_,trivial⟩ ⟨?_,trivial⟩) (by kernel_rfl) (by kernel_rfl) (by kernel_rfl) ⟨?_,trivial⟩ ⟨?_,trivial⟩) (by kernel_rfl) (by kernel_rfl))) (.c (show @Eq (Option D) (some (.ref (.ptr 2 0))) (some (.ref (.ptr 2 0))) from rfl) (.e (.ref (.ptr 4 0)) (.c (show @Eq (Option D) (some (int 3)) (some (int 3)) from rfl) (.e (.ref (.ptr 2 0)) (.c (show inR 3 4=true from rfl) (.e (.ref (.ptr 2 3)) (.e (.ref (.ptr 2 3)) (.c (show @Eq (Option D) (some (Hy (He 106) [] [.ref (.ptr 1 0)])) (some (Hy (He 106) [] [.ref (.ptr 1 0)])) from rfl) (.e (Hc [int 3,int 0,ad emp,aa q]) (.c (show Ho 4 (.vec (GU byV m) 2 1)=true from(by first|assumption|rfl|exact aL _ _|exact aK _ _ _)) (.c (show Ho 4 (.var [.ref (.ptr 2 0)])=true from rfl) (.c (show Ho 4 (.var [Hf (G2 Hw),fq 102,fq 105,Hy (He 106) [] [.ref (.ptr 1 0)]])=true from rfl) (.c (show Ho 4 (.var [int 3,int 0,ad emp,aa r])=true from rfl) (.c (show GU (HP (cX 0 2 1)) (GU byV m)=GU byV m from(by first|assumption|rfl|exact aL _ _|exact aK _ _ _)) .n))))))))))))))))))) (by first|rfl|(rw[hw]<;>rfl)) (by first|rfl|(rw[hw]<;>rfl))<;>(first|rfl|exact ay _ _|first|assumption|rfl|exact aL _ _|exact aK _ _ _)
theorem Gq{H l:List (BitVec 8)}{r:List (List Dp)}{i:Nat}(hlt:Qd ((i:Int)<(r.length:Int))=false):(CW GV Γ0 (wrH H 0) false (sub JG 0) (wlS l r i) (.exit 0) {t:=mkT 35 0 [(0,.ref (.vec 0 1)),(5,bD)],h:=wrH l 1++[.var [int 3,int 0,ad emp,.p (.sl r)]],m:=[]}):=by
 exact CW.cast (CW.symX (s':={t:=mkT 35 0 [(0,.ref (.vec 0 1)),(5,nq)],h:=[.vec (GU byV l) 1 1,.var [.ref (.ptr 2 0)],.var [Hf (G2 Hw),fq 102,fq 105,Hy (He 106) [] [.ref (.ptr 1 0)]],.var [int 3,int 0,ad emp,aa r]],m:=[]}) (e:=HJ 0) pok [.st (.mask [0,5])] [.b false] (by kernel_rfl) (.c hlt .n)) (by rfl) (by rfl)
theorem Gr{l k m:List (BitVec 8)}{r:List (List Dp)}(hl:l.length≤1000000000)
  (hn:Ev GV Γ0 103 [.ref (.vec 0 0),.p (.v (.int .u64 (Hg.wrap (r.length:Int))))] [.vec (l.map byV++[[uW 3]]) 0 1] (.ref (.vec 0 1)) [.vec (k.map byV) 1 1])
  (hc:CW GV Γ0 (wrH l 0) false (.loop (sub JG 0)) (wlS k r 0) (.exit 0) {t:=mkT 35 0 [(0,.ref (.vec 0 1)),(5,bD)],h:=wrH m 1++[.var [int 3,int 0,ad emp,.p (.sl r)]],m:=[]}):(Ev GV Γ0 106 [.ref (.vec 0 0),liO r,.ref (.ptr 1 0)] (wrH l 0) (.ref (.vec 0 1)) (wrH m 1)):=by
 have hl0:=(@hc)
 refine HU (LP (d2:=.ref (.vec 0 1)) (h2:=[.vec (GU byV m) 1 1,.var [.ref (.ptr 2 0)],.var [Hf (G2 Hw),fq 102,fq 105,Hy (He 106) [] [.ref (.ptr 1 0)]]]) (φ:=[Ho 3 (.vec (GU byV m) 1 1)=true,Ho 3 (.var [.ref (.ptr 2 0)])=true,Ho 3 (.var [Hf (G2 Hw),fq 102,fq 105,Hy (He 106) [] [.ref (.ptr 1 0)]])=true]) [.st (.trimV 3)] (Jj (h':=[.vec (GU byV m) 1 1,.var [.ref (.ptr 2 0)],.var [Hf (G2 Hw),fq 102,fq 105,Hy (He 106) [] [.ref (.ptr 1 0)]],.var [int 3,int 0,ad emp,aa r]]) (d:=.ref (.vec 0 1)) pok [.call (.ref (.vec 0 2)) [.vec (GU byV k) 2 1,.var [.ref (.ptr 2 0)],.var [Hf (G2 Hw),fq 102,fq 105,Hy (He 106) [] [.ref (.ptr 1 0)]],.var [int 3,int 0,ad emp,aa r],.vec [[Hf (G2 (GW GZ 3))]] 0 1],.st (.mask [0,2,4,5]),.st (.trimV 4),.st (.ren 0 1),.sum [0,2,5,17,18,19] (HJ 0) {t:=mkT 35 0 [(0,.ref (.vec 0 1)),(5,nq)],h:=[.vec (GU byV m) 1 1,.var [.ref (.ptr 2 0)],.var [Hf (G2 Hw),fq 102,fq 105,Hy (He 106) [] [.ref (.ptr 1 0)]],.var [int 3,int 0,ad emp,aa r]],m:=[]}] (by kernel_rfl) (.c (show(Ia [[Hf (G2 (GW GZ 3))]] (rowOk 1)&&roomOk (G3 (GU byV l)+G3 (α:=List D) [[Hf (G2 (GW GZ 3))]]) 1)=true from(by first|assumption|rfl|exact bb (by omega)|exact bc _ _ _ _|exact bd _ _ _|exact aL _ _|exact aK _ _ _)) (.c (show Ev GV Γ0 103 [.ref (.vec 0 1),u64 (G1 Hg (↑(G3 r):Int))] [.vec (GU byV l++[[Hf (G2 (GW GZ 3))]]) 1 1,.var [.ref (.ptr 2 0)],.var [Hf (G2 Hw),fq 102,fq 105,Hy (He 106) [] [.ref (.ptr 1 0)]],.var [int 3,int 0,ad emp,aa r],.vec [[Hf (G2 (GW GZ 3))]] 0 1] (.ref (.vec 0 2)) [.vec (GU byV k) 2 1,.var [.ref (.ptr 2 0)],.var [Hf (G2 Hw),fq 102,fq 105,Hy (He 106) [] [.ref (.ptr 1 0)]],.var [int 3,int 0,ad emp,aa r],.vec [[Hf (G2 (GW GZ 3))]] 0 1] from(HU (Io (args:=[.ref (.vec 0 1),u64 (G1 Hg (↑(G3 r):Int))]) (H:=[.vec (GU byV l++[[Hf (G2 (GW GZ 3))]]) 1 1,.var [.ref (.ptr 2 0)],.var [Hf (G2 Hw),fq 102,fq 105,Hy (He 106) [] [.ref (.ptr 1 0)]],.var [int 3,int 0,ad emp,aa r],.vec [[Hf (G2 (GW GZ 3))]] 0 1]) [0] (Ls [1] (@hn) (by kernel_rfl) ⟨?_,trivial⟩ ⟨?_,trivial⟩) (by kernel_rfl) (by kernel_rfl) (by kernel_rfl) ⟨?_,trivial⟩ ⟨?_,trivial⟩) (by kernel_rfl) (by kernel_rfl))) (.e (.ref (.ptr 3 3)) (.e (.ref (.ptr 3 3)) (.e (.ref (.ptr 3 3)) (.c (show @Eq (Option D) (some (aa r)) (some (aa r)) from rfl) (.c (show @Eq (Option D) (some (aa r)) (some (aa r)) from rfl) (.c (show @Eq (Option D) (some (aa r)) (some (aa r)) from rfl) (.c (show Ho 4 (.vec (GU byV k) 2 1)=true from(by first|assumption|rfl|exact bb (by omega)|exact bc _ _ _ _|exact bd _ _ _|exact aL _ _|exact aK _ _ _)) (.c (show Ho 4 (.var [.ref (.ptr 2 0)])=true from rfl) (.c (show Ho 4 (.var [Hf (G2 Hw),fq 102,fq 105,Hy (He 106) [] [.ref (.ptr 1 0)]])=true from rfl) (.c (show Ho 4 (.var [int 3,int 0,ad emp,aa r])=true from rfl) (.c (show GU (HP (cX 0 2 1)) (GU byV k)=GU byV k from(by first|assumption|rfl|exact bb (by omega)|exact bc _ _ _ _|exact bd _ _ _|exact aL _ _|exact aK _ _ _)) (.c hl0 .n))))))))))))))) (by kernel_rfl) ⟨(by first|assumption|rfl|exact bb (by omega)|exact bc _ _ _ _|exact bd _ _ _|exact aL _ _|exact aK _ _ _),rfl,rfl,trivial⟩) (by rfl) (by rfl)<;>(first|rfl|exact ay _ _|first|assumption|rfl|exact bb (by omega)|exact bc _ _ _ _|exact bd _ _ _|exact aL _ _|exact aK _ _ _)
mutual
def encR:Val→List (BitVec 8)
 | .num n=>[1]++gk (pI n)
 | .text s=>[2]++gk (HY 64 s.size)++dP s
 | .list l=>[3]++gk (HY 64 l.length)++ek l
def ek:List Val→List (BitVec 8)
 | []=>[]
 | v::l=>encR v++ek l
end
theorem pK:∀(a b:List Val),ek (a++b)=ek a++ek b
 | [],b=>by simp[ek]
 | v::a,b=>by simp only[KW,ek,pK a b,IA]
theorem rN(l:List Val)(i:Nat)(hi:i<l.length):ek (l.take (i+1))=ek (l.take i)++encR l[i]:=by
 rw[I4 hi,pK]
 simp[ek]
theorem pL(l:List Val)(i:Nat):(ek (l.take i)).length≤(ek l).length:=by
 conv=>rhs;rw[←List.take_append_drop i l,pK]
 simp
theorem pM(s:ByteArray):(dP s).length=s.size:=by simp[dP]
theorem zu(m:List Val)(buf:List (BitVec 8))(hlen:(buf++encR (.list m)).length≤100000000):
  Ev GV Γ0 106 [.ref (.vec 0 0),liO (Ie m),.ref (.ptr 1 0)] (wrH buf 0) (.ref (.vec 0 1)) (wrH (buf++encR (.list m)) 1):=by
 have e0:buf++encR (.list m)=(buf++[3]++gk (HY 64 m.length))++ek m:=by simp[encR]
 rw[e0] at hlen ⊢
 generalize hk:buf++[3]++gk (HY 64 m.length)=k at hlen ⊢
 have hbk:buf.length≤k.length:=by rw[←hk];simp
 have hrl:(Ie m).length=m.length:=by rw[JL];simp
 have hmlen:m.length≤(ek m).length:=by
  have:∀l:List Val,l.length≤(ek l).length:=by
   intro l
   induction l with
   | nil=>simp[ek]
   | cons v l ih =>
    have h1:1≤(encR v).length:=by cases v<;>simp[encR]<;>omega
    simp only[ek,Hv,HZ];omega
  exact this m
 rw[Hv] at hlen
 refine Gr (k:=k) (by omega) ?_ ?_
 ·have e:Hg.wrap ((Ie m).length:Int)=((HY 64 m.length).toNat:Int):=by rw[hrl,Es];congr 2
  rw[Gl,e,←hk]
  exact uY (by simp;omega)
 ·have hall:m.take m.length=m:=Jx
  have h0:=Jb (P:=GV) (Γ:=Γ0) (h0:=wrH buf 0) (rd:=false) (c:=sub JG 0) m.length (fun i=>wlS (k++ek (m.take i)) (Ie m) (i:Int)) (e:=.exit 0) (by simp) (fun i hi=>?_) (Gq (H:=buf) (l:=k++ek (m.take m.length)) (r:=Ie m) (i:=m.length) (by rw[hrl];simp))
  ·rw[hall] at h0
   simpa[ek] using h0
  ·have ha:m[i]? = some m[i]:=HE hi
   have hr:af (i:Int) (Ie m) (m[i]).row 4:=by
    rw[JL]
    exact rowAt (row:=Val.row) ha (by cases m[i]<;>rfl)
   have hlt:Qd ((i:Int)<((Ie m).length:Int))=true:=by rw[hrl];simp;omega
   have hw:=wrap_succ (i:=i) (n:=m.length) hi (by omega)
   have hle:=pL m i
   have hle1:=pL m (i+1)
   rw[rN m i hi] at hle1 ⊢
   rw[Hv] at hle1
   have hb:(k++ek (m.take i)).length≤100000000:=by rw[Hv];omega
   have hmem:m[i]∈m:=List.getElem_mem hi
   have hsz:J9 m[i]<J9 m:=MW hmem
   rw[←IA]
   generalize hv:m[i]=v at hr hle1 hsz
   cases v with
   | num n =>
    have:=wl_num (H:=buf) (l:=k++ek (m.take i)) (r:=Ie m) hr hlt hw hb
    simpa[encR] using this
   | text s =>
    have hs:s.size≤1000000000:=by
     simp only[encR,Hv,pM] at hle1;omega
    have:=Gn (H:=buf) (l:=k++ek (m.take i)) (r:=Ie m) hr hlt hw hb hs
    simpa[encR] using this
   | list q =>
    have:=zu q (k++ek (m.take i)) (by rw[Hv,Hv];omega)
    exact Gp (H:=buf) hr hlt hw this
termination_by J9 m
decreasing_by
 simp_wf
 simp only[Val.list.sizeOf_spec] at hsz
 omega
theorem fm_num{n:Int}(h:List Blk):(Ev GV Γ0 101 [ag (ao n)] h (.tup [int 0,bool true]) h):=by
 exact zD (IZ [int 0,bool true]) [.b false,.b true] (.c (show(!(Qd (1<1)||Qd (1>3)))=true→inR 1 4=true from(fun hg=>rfl)) (.c (show(Qd (1<1)||Qd (1>3)||!(eqS emp {data:=#[]}&&(↑0:Int)==0))=false from rfl) (.c (show Qd (1<3)=true from rfl) .n))) h (by first|rfl|done)
theorem Gs{s:ByteArray}(h:List Blk):(Ev GV Γ0 101 [ag (gj s)] h (.tup [int 0,bool true]) h):=by
 exact zD (IZ [int 0,bool true]) [.b false,.b true] (.c (show(!(Qd (2<1)||Qd (2>3)))=true→inR 2 4=true from(fun hg=>rfl)) (.c (show(Qd (2<1)||Qd (2>3)||!(0==0&&(↑0:Int)==0))=false from rfl) (.c (show Qd (2<3)=true from rfl) .n))) h (by first|rfl|done)
abbrev fmS(b0 b1:Blk)(r:List (List Dp))(dep:Int)(i:Int):AS:={t:=mkT 74 0 [(2,int dep),(3,bool false),(55,aa r),(56,int (r.length:Int)),(57,int i)],h:=[b0,b1],m:=[]}
def mxI(a b:Int):Int:=if b>a then b else a
noncomputable abbrev BS(b0:Blk)(b1:Blk)(k:Int)(x:Int)(s:ByteArray):List Blk:=[b0,b1,.var [int k,int x,ad s,nq]]
theorem fm_b1{b0 b1:Blk}(hb0:Ho 2 b0=true)(hb1:Ho 2 b1=true){r:List (List Dp)}{k x:Int}{s:ByteArray}{dep d:Int}{i:Nat}(hr:af (i:Int) r [vi k,vi x,vs s,.v (.slice none 0 0)] 4)(hlt:Qd ((i:Int)<(r.length:Int))=true)(hw:GY.wrap ((i:Int)+1)=((i+1:Nat):Int))
  (hv:∀h,Ev GV Γ0 101 [.agg [int k,int x,ad s,bD]] h (.tup [int d,bool true]) h):(CW GV Γ0 [] false (sub KS 0) (fmS b0 b1 r dep i) .normal (fmS b0 b1 r (mxI dep d) ((i+1:Nat):Int))):=by
 refine zX {t:=mkT 74 0 [(2,int (if true=true then if d>dep then d else dep else if d<dep then d else dep)),(3,bool false),(55,aa r),(56,int (↑(G3 r):Int)),(57,int (G1 GY ((↑i:Int)+1)))],h:=[b0,b1],m:=[]} Hz [.st (.mask [2,3,55,56,57]),.st (.trimV 2)] [.b true,.row [vi k,vi x,vs s,G2 (G8 none 0 0)],.val (IZ [int d,bool true]),.b false] (.c hlt (.c hr (.c (@hv (BS b0 b1 k x s)) (.c (show(!true)=false from rfl) (.c hb0 (.c hb1 .n)))))) ?_ ?_<;>(first|rfl|(rw[hw]<;>rfl))
theorem fm_b2{b0 b1:Blk}(hb0:Ho 2 b0=true)(hb1:Ho 2 b1=true){r:List (List Dp)}{k x:Int}{s:ByteArray}{q:List (List Dp)}{dep d:Int}{i:Nat}(hr:af (i:Int) r [vi k,vi x,vs s,.sl q] 4)(hlt:Qd ((i:Int)<(r.length:Int))=true)(hw:GY.wrap ((i:Int)+1)=((i+1:Nat):Int))
  (hv:∀h,Ev GV Γ0 101 [.agg [int k,int x,ad s,.p (.sl q)]] h (.tup [int d,bool true]) h):(CW GV Γ0 [] false (sub KS 0) (fmS b0 b1 r dep i) .normal (fmS b0 b1 r (mxI dep d) ((i+1:Nat):Int))):=by
 refine zX {t:=mkT 74 0 [(2,int (if true=true then if d>dep then d else dep else if d<dep then d else dep)),(3,bool false),(55,aa r),(56,int (↑(G3 r):Int)),(57,int (G1 GY ((↑i:Int)+1)))],h:=[b0,b1],m:=[]} Hz [.st (.mask [2,3,55,56,57]),.st (.trimV 2)] [.b true,.row [vi k,vi x,vs s,Dp.sl q],.val (IZ [int d,bool true]),.b false] (.c hlt (.c hr (.c (@hv ([b0,b1,.var [int k,int x,ad s,aa q]])) (.c (show(!true)=false from rfl) (.c hb0 (.c hb1 .n)))))) ?_ ?_<;>(first|rfl|(rw[hw]<;>rfl))
theorem Gu{b0 b1:Blk}{r:List (List Dp)}{dep:Int}{i:Nat}(hlt:Qd ((i:Int)<(r.length:Int))=false):(CW GV Γ0 [] false (sub KS 0) (fmS b0 b1 r dep i) (.exit 0) {t:=mkT 74 0 [(2,int dep),(3,bool false)],h:=[b0,b1],m:=[]}):=by
 exact zx [.st (.mask [2,3])] [.b false] (.c hlt .n)
theorem Gv{r:List (List Dp)}{dep:Int}(hc:∀b0 b1,Ho 2 b0=true→Ho 2 b1=true→CW GV Γ0 [] false (.loop (sub KS 0)) (fmS b0 b1 r 0 0) (.exit 0) {t:=mkT 74 0 [(2,int dep),(3,bool false)],h:=[b0,b1],m:=[]})(h:List Blk):(Ev GV Γ0 101 [liO r] h (.tup [int (GY.wrap (dep+1)),bool true]) h):=by
 have hl0:=(@hc (.var [int 3,int 0,ad emp,aa r]) (.var [bool false,bool (eqS emp {data:=#[]}&&(↑(G3 r):Int)==0),bool (0==0&&(↑(G3 r):Int)==0),bool (0==0&&eqS emp {data:=#[]})]) (by first|assumption|rfl|decide|omega|simp_all) (by first|assumption|rfl|decide|omega|simp_all))
 exact zD (IZ [int (G1 GY (dep+1)),bool true]) [.b false,.b false,.sum [2,3,55,56,57] (HJ 0) {t:=mkT 74 0 [(2,int dep),(3,bool false)],h:=[.var [int 3,int 0,ad emp,aa r],.var [bool false,bool (eqS emp {data:=#[]}&&(↑(G3 r):Int)==0),bool (0==0&&(↑(G3 r):Int)==0),bool (0==0&&eqS emp {data:=#[]})]],m:=[]}] (.c (show(!(Qd (3<1)||Qd (3>3)))=true→inR 3 4=true from(fun hg=>rfl)) (.c (show(Qd (3<1)||Qd (3>3)||!(0==0&&eqS emp {data:=#[]}))=false from rfl) (.c (show Qd (3<3)=false from rfl) (.c hl0 .n)))) h (by first|rfl|done)
mutual
def i6:Val→Int
 | .num _=>0
 | .text _=>0
 | .list l=>j1 0 l+1
def j1:Int→List Val→Int
 | a,[]=>a
 | a,v::l=>j1 (mxI a (i6 v)) l
end
theorem u0:∀(l m:List Val) (a:Int),j1 a (l++m)=j1 (j1 a l) m
 | [],m,a=>by simp[j1]
 | v::l,m,a=>by simp only[KW,j1,u0 l m]
theorem zw(l:List Val)(i:Nat)(hi:i<l.length):j1 0 (l.take (i+1))=mxI (j1 0 (l.take i)) (i6 l[i]):=by
 rw[I4 hi,u0]
 simp[j1]
theorem mxI_l(a b:Int):a≤mxI a b:=by unfold mxI;split<;>omega
theorem mxI_r(a b:Int):b≤mxI a b:=by unfold mxI;split<;>omega
theorem sW:∀(l:List Val) (a:Int),a≤j1 a l
 | [],a=>by simp[j1]
 | v::l,a=>by
  have:=sW l (mxI a (i6 v))
  have:=mxI_l a (i6 v)
  simp only[j1];omega
theorem u1:∀(l:List Val) (a:Int) (v:Val),v∈l→i6 v≤j1 a l
 | w::l,a,v,h=>by
  simp only[j1]
  rcases HB.mp h with h|h
  ·have:=sW l (mxI a (i6 w))
   have:=mxI_r a (i6 w)
   rw[h];omega
  ·exact u1 l _ v h
theorem u3:∀(l:List Val) (v:Val),v∈l→(encR v).length≤(ek l).length
 | w::l,v,h=>by
  simp only[ek,Hv]
  rcases HB.mp h with h|h
  ·rw[h];omega
  ·have:=u3 l v h
   omega
theorem ot(l:List Val):l.length≤(ek l).length:=by
 induction l with
 | nil=>simp[ek]
 | cons v l ih =>
  have h1:1≤(encR v).length:=by cases v<;>simp[encR]<;>omega
  simp only[ek,Hv,HZ];omega
theorem rO(v:Val)(hd:i6 v≤100)(hl:(encR v).length≤100000000)(h:List Blk):
  Ev GV Γ0 101 [ag v.row] h (.tup [int (i6 v),bool true]) h:=by
 match v with
 | .num n=>exact fm_num h
 | .text s=>exact Gs h
 | .list m =>
  simp only[i6] at hd
  simp only[encR,Hv] at hl
  have hc:=ot m
  have hrl:(Ie m).length=m.length:=by rw[JL];simp
  have hall:m.take m.length=m:=Jx
  have h00:=sW m 0
  have key:∀b0 b1,Ho 2 b0=true→Ho 2 b1=true→CW GV Γ0 [] false (.loop (sub KS 0)) (fmS b0 b1 (Ie m) 0 0) (.exit 0) {t:=mkT 74 0 [(2,int (j1 0 m)),(3,bool false)],h:=[b0,b1],m:=[]}:=by
   intro b0 b1 hb0 hb1
   have h0:=Jb (P:=GV) (Γ:=Γ0) (h0:=[]) (rd:=false) (c:=sub KS 0) m.length (fun i=>fmS b0 b1 (Ie m) (j1 0 (m.take i)) (i:Int)) (e:=.exit 0) (by simp) (fun i hi=>?_) (Gu (b0:=b0) (b1:=b1) (r:=Ie m) (dep:=j1 0 (m.take m.length)) (i:=m.length) (by rw[hrl];simp))
   ·rw[hall] at h0
    simpa[j1] using h0
   ·have ha:m[i]? = some m[i]:=HE hi
    have hr:af (i:Int) (Ie m) (m[i]).row 4:=by
     rw[JL]
     exact rowAt (row:=Val.row) ha (by cases m[i]<;>rfl)
    have hlt:Qd ((i:Int)<((Ie m).length:Int))=true:=by rw[hrl];simp;omega
    have hw:=wrap_succ (i:=i) (n:=m.length) hi (by omega)
    have hmem:m[i]∈m:=List.getElem_mem hi
    have hsz:J9 m[i]<J9 m:=MW hmem
    have hd1:=u1 m 0 m[i] hmem
    have hl1:=u3 m m[i] hmem
    have hv:=rO m[i] (by omega) (by omega)
    show CW GV Γ0 [] false (sub KS 0) (fmS b0 b1 (Ie m) (j1 0 (m.take i)) (i:Int)) .normal (fmS b0 b1 (Ie m) (j1 0 (m.take (i+1))) ((i+1:Nat):Int))
    rw[zw m i hi]
    generalize m[i]=w at hr hv
    cases w with
    | num n=>exact fm_b1 hb0 hb1 hr hlt hw hv
    | text s=>exact fm_b1 hb0 hb1 hr hlt hw hv
    | list q=>exact fm_b2 hb0 hb1 hr hlt hw hv
  have e:=Gv key h
  have hw:GY.wrap (j1 0 m+1)=j1 0 m+1:=wrap_i64 (by omega) (by omega)
  rw[hw] at e
  exact e
termination_by J9 v
decreasing_by
 simp_wf
 omega
theorem ck_a{r:List (List Dp)}{d:Int}(hf:∀h,Ev GV Γ0 101 [liO r] h (.tup [int d,bool true]) h)(hd:Qd (d>16)=false)(h:List Blk):(Ev GV Γ0 85 [liO r] h (int 0) h):=by
 exact z0 [.val (IZ [int d,bool true]),.b false,.b false] (.c (@hf ([.var [int 3,int 0,ad emp,aa r]])) (.c (show(!true)=false from rfl) (.c hd .n))) h
abbrev wrA:D:=.fn (.func 106) [] [.ref (.ptr 1 0)]
theorem nw_ev:(Ev GV Γ0 86 [] [] (.ref (.ptr 0 0)) [.var [lit .nilFunc,fq 102,fq 105,wrA],.var [.ref (.ptr 0 0)]]):=by
 let v0:List Blk:=[.var [Hf (G2 Hw),fq 102,fq 105,Hy (He 106) [] [.ref (.ptr 1 0)]],.var [.ref (.ptr 0 0)]]
 exact HU (LP (d2:=.ref (.ptr 0 0)) (h2:=v0) (φ:=[]) [.st (.trim 2)] (Jj (h':=v0) (d:=.ref (.ptr 0 0)) pok [] (by kernel_rfl) (.c (show inR 1 4=true from rfl) (.c (show inR 2 4=true from rfl) (.c (show inR 3 4=true from rfl) .n)))) (by kernel_rfl) trivial) (by rfl) (by rfl)
abbrev nlH:List Blk:=[.var [.ref (.ptr 1 0)],.var [lit .nilFunc,fq 102,fq 105,.fn (.func 106) [] [.ref (.ptr 0 0)]]]
abbrev xlS(l:List (BitVec 8))(r:List (List Dp))(i:Int):AS:={t:=mkT 35 0 [(0,.ref (.vec 2 1)),(2,.ref (.ptr 0 0)),(5,bD),(17,aa r),(18,int (r.length:Int)),(19,int i)],h:=nlH++[.vec (l.map byV) 1 1,.var [int 3,int 0,ad emp,.p (.sl r)]],m:=[]}
theorem xl_num{l:List (BitVec 8)}{r:List (List Dp)}{n:Int}{i:Nat}(hr:af (i:Int) r (ao n) 4)(hlt:Qd ((i:Int)<(r.length:Int))=true)(hw:GY.wrap ((i:Int)+1)=((i+1:Nat):Int))(hl:l.length≤100000000):(CW GV Γ0 nlH false (sub JG 0) (xlS l r i) .normal (xlS (l++[1]++gk (pI n)) r ((i+1:Nat):Int))):=by
 let v2:=GU byV (l++[1]++gk (pI n))
 let v3:List D:=[int 1,int n,ad emp,nq]
 let v4:List D:=[int 3,int 0,ad emp,aa r]
 let v0:List Blk:=[.var [.ref (.ptr 1 0)],.var [Hf (G2 Hw),fq 102,fq 105,Hy (He 106) [] [.ref (.ptr 0 0)]],.vec v2 2 1,.var v4,.var v3]
 let v1:List Blk:=[.var [.ref (.ptr 1 0)],.var [Hf (G2 Hw),fq 102,fq 105,Hy (He 106) [] [.ref (.ptr 0 0)]],.vec (GU byV l) 1 1,.var v4,.var v3]
 refine zX {t:=mkT 35 0 [(0,.ref (.vec 2 1)),(2,.ref (.ptr 0 0)),(5,nq),(17,aa r),(18,int (↑(G3 r):Int)),(19,int (G1 GY ((↑i:Int)+1)))],h:=[.var [.ref (.ptr 1 0)],.var [Hf (G2 Hw),fq 102,fq 105,Hy (He 106) [] [.ref (.ptr 0 0)]],.vec v2 1 1,.var v4],m:=[]} Hz [.st (.mask [0,2,5,17,18,19]),.st (.trimV 4),.st (.ren 2 1)] [.b true,.row [vi 1,vi n,vs emp,G2 (G8 none 0 0)],.call (.ref (.vec 2 2)) v0] (.c hlt (.c hr (.c (show inR 1 4=true from rfl) (.c (show Ev GV Γ0 102 [.ref (.vec 2 1),Hc v3] v1 (.ref (.vec 2 2)) v0 from(HU (Io (args:=[.ref (.vec 2 1),Hc v3]) (H:=v1) [2] (Ls [1] (@zt l n hl) (by kernel_rfl) ⟨?_,trivial⟩ ⟨?_,trivial⟩) (by kernel_rfl) (by kernel_rfl) (by kernel_rfl) ⟨?_,trivial⟩ ⟨?_,trivial⟩) (by kernel_rfl) (by kernel_rfl))) (.c (show @Eq (Option D) (some (.ref (.ptr 1 0))) (some (.ref (.ptr 1 0))) from rfl) (.e (.ref (.ptr 4 0)) (.c (show @Eq (Option D) (some (int 1)) (some (int 1)) from rfl) (.e (.ref (.ptr 1 0)) (.c (show inR 1 4=true from rfl) (.e (.ref (.ptr 1 1)) (.e (.ref (.ptr 1 1)) (.c (show @Eq (Option D) (some (fq 102)) (some (fq 102)) from rfl) (.e (Hc v3) (.c (show Ho 4 (.var [.ref (.ptr 1 0)])=true from rfl) (.c (show Ho 4 (.var [Hf (G2 Hw),fq 102,fq 105,Hy (He 106) [] [.ref (.ptr 0 0)]])=true from rfl) (.c (show Ho 4 (.vec v2 2 1)=true from(by subst v2 v3 v4 v0 v1;first|assumption|rfl|exact aL _ _|exact aK _ _ _)) (.c (show Ho 4 (.var v4)=true from rfl) (.c (show GU (HP (cX 2 2 1)) v2=GU byV (l++[1]++gk (pI n)) from(by subst v2 v3 v4 v0 v1;first|assumption|rfl|exact aL _ _|exact aK _ _ _)) .n)))))))))))))))))) (by subst v2 v3 v4 v0 v1;first|rfl|(rw[hw]<;>rfl)) (by subst v2 v3 v4 v0 v1;first|rfl|(rw[hw]<;>rfl))<;>subst v2 v3 v4 v0 v1<;>(first|rfl|exact ay _ _|first|assumption|rfl|exact aL _ _|exact aK _ _ _)
theorem Gw{l:List (BitVec 8)}{r:List (List Dp)}{s:ByteArray}{i:Nat}(hr:af (i:Int) r (gj s) 4)(hlt:Qd ((i:Int)<(r.length:Int))=true)(hw:GY.wrap ((i:Int)+1)=((i+1:Nat):Int))(hl:l.length≤100000000)(hs:s.size≤1000000000):(CW GV Γ0 nlH false (sub JG 0) (xlS l r i) .normal (xlS (l++[2]++gk (HY 64 s.size)++dP s) r ((i+1:Nat):Int))):=by
 let v0:=GU byV (l++[2]++gk (HY 64 (IG s))++dP s)
 let v3:List D:=[int 3,int 0,ad emp,aa r]
 let v4:List D:=[int 2,int 0,ad s,nq]
 let v1:List Blk:=[.var [.ref (.ptr 1 0)],.var [Hf (G2 Hw),fq 102,fq 105,Hy (He 106) [] [.ref (.ptr 0 0)]],.vec (GU byV l) 1 1,.var v3,.var v4]
 let v2:List Blk:=[.var [.ref (.ptr 1 0)],.var [Hf (G2 Hw),fq 102,fq 105,Hy (He 106) [] [.ref (.ptr 0 0)]],.vec v0 2 1,.var v3,.var v4]
 refine zX {t:=mkT 35 0 [(0,.ref (.vec 2 1)),(2,.ref (.ptr 0 0)),(5,nq),(17,aa r),(18,int (↑(G3 r):Int)),(19,int (G1 GY ((↑i:Int)+1)))],h:=[.var [.ref (.ptr 1 0)],.var [Hf (G2 Hw),fq 102,fq 105,Hy (He 106) [] [.ref (.ptr 0 0)]],.vec v0 1 1,.var v3],m:=[]} Hz [.st (.mask [0,2,5,17,18,19]),.st (.trimV 4),.st (.ren 2 1)] [.b true,.row [vi 2,vi 0,vs s,G2 (G8 none 0 0)],.call (.ref (.vec 2 2)) v2] (.c hlt (.c hr (.c (show inR 2 4=true from rfl) (.c (show Ev GV Γ0 105 [.ref (.vec 2 1),Hc v4] v1 (.ref (.vec 2 2)) v2 from(HU (Io (args:=[.ref (.vec 2 1),Hc v4]) (H:=v1) [2] (Ls [1] (@uZ l s hl hs) (by kernel_rfl) ⟨?_,trivial⟩ ⟨?_,trivial⟩) (by kernel_rfl) (by kernel_rfl) (by kernel_rfl) ⟨?_,trivial⟩ ⟨?_,trivial⟩) (by kernel_rfl) (by kernel_rfl))) (.c (show @Eq (Option D) (some (.ref (.ptr 1 0))) (some (.ref (.ptr 1 0))) from rfl) (.e (.ref (.ptr 4 0)) (.c (show @Eq (Option D) (some (int 2)) (some (int 2)) from rfl) (.e (.ref (.ptr 1 0)) (.c (show inR 2 4=true from rfl) (.e (.ref (.ptr 1 2)) (.e (.ref (.ptr 1 2)) (.c (show @Eq (Option D) (some (fq 105)) (some (fq 105)) from rfl) (.e (Hc v4) (.c (show Ho 4 (.var [.ref (.ptr 1 0)])=true from rfl) (.c (show Ho 4 (.var [Hf (G2 Hw),fq 102,fq 105,Hy (He 106) [] [.ref (.ptr 0 0)]])=true from rfl) (.c (show Ho 4 (.vec v0 2 1)=true from(by subst v0 v3 v4 v1 v2;first|assumption|rfl|exact aL _ _|exact aK _ _ _)) (.c (show Ho 4 (.var v3)=true from rfl) (.c (show GU (HP (cX 2 2 1)) v0=GU byV (l++[2]++gk (HY 64 (IG s))++dP s) from(by subst v0 v3 v4 v1 v2;first|assumption|rfl|exact aL _ _|exact aK _ _ _)) .n)))))))))))))))))) (by subst v0 v3 v4 v1 v2;first|rfl|(rw[hw]<;>rfl)) (by subst v0 v3 v4 v1 v2;first|rfl|(rw[hw]<;>rfl))<;>subst v0 v3 v4 v1 v2<;>(first|rfl|exact ay _ _|first|assumption|rfl|exact aL _ _|exact aK _ _ _)
theorem Gx{l m:List (BitVec 8)}{r q:List (List Dp)}{i:Nat}(hr:af (i:Int) r (aG q) 4)(hlt:Qd ((i:Int)<(r.length:Int))=true)(hw:GY.wrap ((i:Int)+1)=((i+1:Nat):Int))
  (hrec:Ev GV Γ0 106 [.ref (.vec 0 0),liO q,.ref (.ptr 1 0)] (wrH l 0) (.ref (.vec 0 1)) (wrH m 1)):(CW GV Γ0 nlH false (sub JG 0) (xlS l r i) .normal (xlS m r ((i+1:Nat):Int))):=by
 let v2:List D:=[int 3,int 0,ad emp,aa q]
 let v3:List D:=[int 3,int 0,ad emp,aa r]
 let v0:List Blk:=[.var [.ref (.ptr 1 0)],.var [Hf (G2 Hw),fq 102,fq 105,Hy (He 106) [] [.ref (.ptr 0 0)]],.vec (GU byV m) 2 1,.var v3,.var v2]
 let v1:List Blk:=[.var [.ref (.ptr 1 0)],.var [Hf (G2 Hw),fq 102,fq 105,Hy (He 106) [] [.ref (.ptr 0 0)]],.vec (GU byV l) 1 1,.var v3,.var v2]
 refine zX {t:=mkT 35 0 [(0,.ref (.vec 2 1)),(2,.ref (.ptr 0 0)),(5,nq),(17,aa r),(18,int (↑(G3 r):Int)),(19,int (G1 GY ((↑i:Int)+1)))],h:=[.var [.ref (.ptr 1 0)],.var [Hf (G2 Hw),fq 102,fq 105,Hy (He 106) [] [.ref (.ptr 0 0)]],.vec (GU byV m) 1 1,.var v3],m:=[]} Hz [.st (.mask [0,2,5,17,18,19]),.st (.trimV 4),.st (.ren 2 1)] [.b true,.row [vi 3,vi 0,vs emp,Dp.sl q],.call (.ref (.vec 2 2)) v0] (.c hlt (.c hr (.c (show inR 3 4=true from rfl) (.c (show Ev GV Γ0 106 [.ref (.vec 2 1),Hc v2,.ref (.ptr 0 0)] v1 (.ref (.vec 2 2)) v0 from(HU (Io (args:=[.ref (.vec 2 1),Hc v2,.ref (.ptr 0 0)]) (H:=v1) [2,0,1] (Ls [1,0,0] (@hrec) (by kernel_rfl) ⟨?_,trivial⟩ ⟨?_,trivial⟩) (by kernel_rfl) (by kernel_rfl) (by kernel_rfl) ⟨?_,trivial⟩ ⟨?_,trivial⟩) (by kernel_rfl) (by kernel_rfl))) (.c (show @Eq (Option D) (some (.ref (.ptr 1 0))) (some (.ref (.ptr 1 0))) from rfl) (.e (.ref (.ptr 4 0)) (.c (show @Eq (Option D) (some (int 3)) (some (int 3)) from rfl) (.e (.ref (.ptr 1 0)) (.c (show inR 3 4=true from rfl) (.e (.ref (.ptr 1 3)) (.e (.ref (.ptr 1 3)) (.c (show @Eq (Option D) (some (Hy (He 106) [] [.ref (.ptr 0 0)])) (some (Hy (He 106) [] [.ref (.ptr 0 0)])) from rfl) (.e (Hc v2) (.c (show Ho 4 (.var [.ref (.ptr 1 0)])=true from rfl) (.c (show Ho 4 (.var [Hf (G2 Hw),fq 102,fq 105,Hy (He 106) [] [.ref (.ptr 0 0)]])=true from rfl) (.c (show Ho 4 (.vec (GU byV m) 2 1)=true from(by subst v2 v3 v0 v1;first|assumption|rfl|exact aL _ _|exact aK _ _ _)) (.c (show Ho 4 (.var v3)=true from rfl) (.c (show GU (HP (cX 2 2 1)) (GU byV m)=GU byV m from(by subst v2 v3 v0 v1;first|assumption|rfl|exact aL _ _|exact aK _ _ _)) .n)))))))))))))))))) (by subst v2 v3 v0 v1;first|rfl|(rw[hw]<;>rfl)) (by subst v2 v3 v0 v1;first|rfl|(rw[hw]<;>rfl))<;>subst v2 v3 v0 v1<;>(first|rfl|exact ay _ _|first|assumption|rfl|exact aL _ _|exact aK _ _ _)
theorem Gy{l:List (BitVec 8)}{r:List (List Dp)}{i:Nat}(hlt:Qd ((i:Int)<(r.length:Int))=false):(CW GV Γ0 nlH false (sub JG 0) (xlS l r i) (.exit 0) {t:=mkT 35 0 [(0,.ref (.vec 2 1)),(5,bD)],h:=nlH++[.vec (l.map byV) 1 1,.var [int 3,int 0,ad emp,.p (.sl r)]],m:=[]}):=by
 exact zx [.st (.mask [0,5])] [.b false] (.c hlt .n)
theorem Gz{k m:List (BitVec 8)}{r:List (List Dp)}
  (hn:Ev GV Γ0 103 [.ref (.vec 0 0),.p (.v (.int .u64 (Hg.wrap (r.length:Int))))] [.vec [[uW 3]] 0 1] (.ref (.vec 0 1)) [.vec (k.map byV) 1 1])
  (hc:CW GV Γ0 nlH false (.loop (sub JG 0)) (xlS k r 0) (.exit 0) {t:=mkT 35 0 [(0,.ref (.vec 2 1)),(5,bD)],h:=nlH++[.vec (m.map byV) 1 1,.var [int 3,int 0,ad emp,.p (.sl r)]],m:=[]}):(Ev GV Γ0 106 [bD,liO r,.ref (.ptr 0 0)] nlH (.ref (.vec 2 1)) (nlH++[.vec (m.map byV) 1 1])):=by
 have hl0:=(@hc)
 let v3:List D:=[int 3,int 0,ad emp,aa r]
 let v0:List Blk:=[.var [.ref (.ptr 1 0)],.var [Hf (G2 Hw),fq 102,fq 105,Hy (He 106) [] [.ref (.ptr 0 0)]],.vec [[Hf (G2 (GW GZ 3))]] 1 1,.var v3,.vec [[Hf (G2 (GW GZ 3))]] 0 1]
 let v1:List Blk:=[.var [.ref (.ptr 1 0)],.var [Hf (G2 Hw),fq 102,fq 105,Hy (He 106) [] [.ref (.ptr 0 0)]],.vec (GU byV k) 2 1,.var v3,.vec [[Hf (G2 (GW GZ 3))]] 0 1]
 let v2:List Blk:=[.var [.ref (.ptr 1 0)],.var [Hf (G2 Hw),fq 102,fq 105,Hy (He 106) [] [.ref (.ptr 0 0)]],.vec (GU byV m) 1 1,.var v3]
 refine HU (LP (d2:=.ref (.vec 2 1)) (h2:=[.var [.ref (.ptr 1 0)],.var [Hf (G2 Hw),fq 102,fq 105,Hy (He 106) [] [.ref (.ptr 0 0)]],.vec (GU byV m) 1 1]) (φ:=[Ho 3 (.var [.ref (.ptr 1 0)])=true,Ho 3 (.var [Hf (G2 Hw),fq 102,fq 105,Hy (He 106) [] [.ref (.ptr 0 0)]])=true,Ho 3 (.vec (GU byV m) 1 1)=true]) [.st (.trimV 3)] (Jj (h':=v2) (d:=.ref (.vec 2 1)) pok [.st (.nilT 0 1),.call (.ref (.vec 2 2)) v1,.st (.mask [0,2,4,5]),.st (.trimV 4),.st (.ren 2 1),.sum [0,2,5,17,18,19] (HJ 0) {t:=mkT 35 0 [(0,.ref (.vec 2 1)),(5,nq)],h:=v2,m:=[]}] (by kernel_rfl) (.c (show(Ia [[Hf (G2 (GW GZ 3))]] (rowOk 1)&&roomOk (G3 ([]:List (List D))+G3 (α:=List D) [[Hf (G2 (GW GZ 3))]]) 1)=true from rfl) (.c (show Ev GV Γ0 103 [.ref (.vec 2 1),u64 (G1 Hg (↑(G3 r):Int))] v0 (.ref (.vec 2 2)) v1 from(HU (Io (args:=[.ref (.vec 2 1),u64 (G1 Hg (↑(G3 r):Int))]) (H:=v0) [2] (Ls [1] (@hn) (by kernel_rfl) ⟨?_,trivial⟩ ⟨?_,trivial⟩) (by kernel_rfl) (by kernel_rfl) (by kernel_rfl) ⟨?_,trivial⟩ ⟨?_,trivial⟩) (by kernel_rfl) (by kernel_rfl))) (.e (.ref (.ptr 3 3)) (.e (.ref (.ptr 3 3)) (.e (.ref (.ptr 3 3)) (.c (show @Eq (Option D) (some (aa r)) (some (aa r)) from rfl) (.c (show @Eq (Option D) (some (aa r)) (some (aa r)) from rfl) (.c (show @Eq (Option D) (some (aa r)) (some (aa r)) from rfl) (.c (show Ho 4 (.var [.ref (.ptr 1 0)])=true from rfl) (.c (show Ho 4 (.var [Hf (G2 Hw),fq 102,fq 105,Hy (He 106) [] [.ref (.ptr 0 0)]])=true from rfl) (.c (show Ho 4 (.vec (GU byV k) 2 1)=true from(by subst v3 v0 v1 v2;first|assumption|rfl|exact bb (by subst v3 v0 v1 v2;omega)|exact bc _ _ _ _|exact bd _ _ _|exact aL _ _|exact aK _ _ _)) (.c (show Ho 4 (.var v3)=true from rfl) (.c (show GU (HP (cX 2 2 1)) (GU byV k)=GU byV k from(by subst v3 v0 v1 v2;first|assumption|rfl|exact bb (by subst v3 v0 v1 v2;omega)|exact bc _ _ _ _|exact bd _ _ _|exact aL _ _|exact aK _ _ _)) (.c hl0 .n))))))))))))))) (by kernel_rfl) ⟨rfl,rfl,(by subst v3 v0 v1 v2;first|assumption|rfl|exact bb (by subst v3 v0 v1 v2;omega)|exact bc _ _ _ _|exact bd _ _ _|exact aL _ _|exact aK _ _ _),trivial⟩) (by rfl) (by rfl)<;>subst v3 v0 v1 v2<;>(first|rfl|exact ay _ _|first|assumption|rfl|exact bb (by omega)|exact bc _ _ _ _|exact bd _ _ _|exact aL _ _|exact aK _ _ _)
theorem wr_nil(m:List Val)(hlen:(encR (.list m)).length≤100000000):
  Ev GV Γ0 106 [bD,liO (Ie m),.ref (.ptr 0 0)] nlH (.ref (.vec 2 1)) (nlH++[.vec ((encR (.list m)).map byV) 1 1]):=by
 have e0:encR (.list m)=([3]++gk (HY 64 m.length))++ek m:=by simp[encR]
 rw[e0] at hlen ⊢
 generalize hk:([3]++gk (HY 64 m.length):List (BitVec 8))=k at hlen ⊢
 have hrl:(Ie m).length=m.length:=by rw[JL];simp
 have hmlen:=ot m
 rw[Hv] at hlen
 refine Gz (k:=k) ?_ ?_
 ·have e:Hg.wrap ((Ie m).length:Int)=((HY 64 m.length).toNat:Int):=by rw[hrl,Es];congr 2
  have:=uY (l:=[3]) (u:=HY 64 m.length) (by simp)
  rw[hk] at this
  rw[e]
  exact this
 ·have hall:m.take m.length=m:=Jx
  have h0:=Jb (P:=GV) (Γ:=Γ0) (h0:=nlH) (rd:=false) (c:=sub JG 0) m.length (fun i=>xlS (k++ek (m.take i)) (Ie m) (i:Int)) (e:=.exit 0) (by simp) (fun i hi=>?_) (Gy (l:=k++ek (m.take m.length)) (r:=Ie m) (i:=m.length) (by rw[hrl];simp))
  ·rw[hall] at h0
   simpa[ek] using h0
  ·have ha:m[i]? = some m[i]:=HE hi
   have hr:af (i:Int) (Ie m) (m[i]).row 4:=by
    rw[JL]
    exact rowAt (row:=Val.row) ha (by cases m[i]<;>rfl)
   have hlt:Qd ((i:Int)<((Ie m).length:Int))=true:=by rw[hrl];simp;omega
   have hw:=wrap_succ (i:=i) (n:=m.length) hi (by omega)
   have hle:=pL m i
   have hle1:=pL m (i+1)
   rw[rN m i hi] at hle1 ⊢
   rw[Hv] at hle1
   have hb:(k++ek (m.take i)).length≤100000000:=by rw[Hv];omega
   rw[←IA]
   generalize hv:m[i]=v at hr hle1
   cases v with
   | num n =>
    have:=xl_num (l:=k++ek (m.take i)) (r:=Ie m) hr hlt hw hb
    simpa[encR] using this
   | text s =>
    have hs:s.size≤1000000000:=by
     simp only[encR,Hv,pM] at hle1;omega
    have:=Gw (l:=k++ek (m.take i)) (r:=Ie m) hr hlt hw hb hs
    simpa[encR] using this
   | list q =>
    have:=zu q (k++ek (m.take i)) (by rw[Hv,Hv];omega)
    exact Gx hr hlt hw this
abbrev encH(r:List (List Dp)):List Blk:=[.var [int 3,int 0,ad emp,.p (.sl r)],.var [lit .nilFunc,fq 102,fq 105,.fn (.func 106) [] [.ref (.ptr 2 0)]],.var [.ref (.ptr 1 0)]]
noncomputable abbrev gT(m:List (BitVec 8))(r:List (List Dp)):List Blk:=[.var [int 3,int 0,ad emp,aa r],.var [Hf (G2 Hw),fq 102,fq 105,Hy (He 106) [] [.ref (.ptr 2 0)]],.var [.ref (.ptr 1 0)],.vec (GU byV m) 1 1]
noncomputable abbrev eU(r:List (List Dp)):List Blk:=[.var [int 3,int 0,ad emp,aa r],.var [Hf (G2 Hw),fq 102,fq 105,Hy (He 106) [] [.ref (.ptr 2 0)]],.var [.ref (.ptr 1 0)]]
theorem BT{m:List (BitVec 8)}{r:List (List Dp)}
  (hck:∀h,Ev GV Γ0 85 [liO r] h (int 0) h)
  (hw:Ev GV Γ0 106 [bD,liO r,.ref (.ptr 0 0)] nlH (.ref (.vec 2 1)) (nlH++[.vec (m.map byV) 1 1])):(Ev GV Γ0 46 [liO r] [] (.tup [.ref (.vec 3 1),int 0]) (encH r++[.vec (m.map byV) 1 1])):=by
 let v0:List D:=[int 3,int 0,ad emp,aa r]
 exact HU (Jj (h':=(gT m r)) (d:=IZ [.ref (.vec 3 1),int 0]) pok [.val (int 0),.b false,.call (.ref (.ptr 1 0)) (eU r),.call (.ref (.vec 3 1)) (gT m r)] (by kernel_rfl) (.c (@hck ([.var v0])) (.c (show(0 != 0)=false from rfl) (.c (show Ev GV Γ0 86 [] [.var v0] (.ref (.ptr 1 0)) (eU r) from(HU (Io (args:=[]) (H:=[.var v0]) [] (@nw_ev) (by kernel_rfl) (by kernel_rfl) (by kernel_rfl) trivial trivial) (by kernel_rfl) (by kernel_rfl))) (.c (show inR 3 4=true from rfl) (.c (show Ev GV Γ0 106 [nq,Hc v0,.ref (.ptr 2 0)] (eU r) (.ref (.vec 3 1)) (gT m r) from(HU (Io (args:=[nq,Hc v0,.ref (.ptr 2 0)]) (H:=(eU r)) [2,1] (@hw) (by kernel_rfl) (by kernel_rfl) (by kernel_rfl) trivial ⟨(by subst v0;first|rfl|exact ay _ _|first|assumption|rfl|exact aL _ _|exact aK _ _ _),trivial⟩) (by kernel_rfl) (by kernel_rfl))) (.e (.ref (.ptr 0 0)) (.e (.ref (.ptr 0 0)) (.c (show @Eq (Option D) (some (int 3)) (some (int 3)) from rfl) (.c (show @Eq (Option D) (some (int 3)) (some (int 3)) from rfl) (.e (.ref (.ptr 1 0)) (.c (show inR 3 4=true from rfl) (.e (.ref (.ptr 1 3)) (.e (.ref (.ptr 1 3)) (.c (show @Eq (Option D) (some (Hy (He 106) [] [.ref (.ptr 2 0)])) (some (Hy (He 106) [] [.ref (.ptr 2 0)])) from rfl) (.e (Hc v0) (.e (Hc v0) .n))))))))))))))))) (by rfl) (by rfl)
theorem zy(m:List Val)(hd:i6 (.list m)≤16)(hl:(encR (.list m)).length≤100000000):
  Ev GV Γ0 46 [liO (Ie m)] [] (.tup [.ref (.vec 3 1),int 0]) (encH (Ie m)++[.vec ((encR (.list m)).map byV) 1 1]) :=
 BT (fun h=>ck_a (d:=i6 (.list m)) (rO (.list m) (by omega) hl) (by simp;omega) h) (wr_nil m hl)
theorem Ev.gc{P:Program}{Γ:ae}{f:FuncId}{args:List D}{h h' h2:List Blk}{d:D}(he:Ev P Γ f args h d h')(g:∀b:Nat,h2[b]? = h'[b]? ∨ h2[b]? = some Blk.gone):Ev P Γ f args h d h2:=by
 intro O w l vs R ra
 obtain⟨h1,h2'⟩:=he O w l vs R ra
 refine⟨h1,fun cs hr=>?_⟩
 obtain⟨e,w',fr,⟨v,d',h3,l',g1,⟨g2,g2'⟩,g3,g4,g5⟩,rest⟩:=h2' cs hr
 subst g2;subst g2'
 exact⟨e,w',fr,⟨v,d',h2,l',g1,⟨rfl,rfl⟩,g3.gc g,g4.gc g,nm g (fun _=>tu g) g5⟩,rest⟩
def goneAt(ks:List Nat):Nat→List Blk→List Blk
 | _,[]=>[]
 | i,x::h=>(match zY i ks with
  | true=>.gone
  | false=>x)::goneAt ks (i+1) h
theorem ou(ks:List Nat):∀(h:List Blk) (i b:Nat),(goneAt ks i h)[b]? = h[b]? ∨ (goneAt ks i h)[b]? = some Blk.gone
 | [],_,_=>.inl rfl
 | x::h,i,0=>by
  simp only[goneAt,List.getElem?_cons_zero]
  split
  ·exact .inr rfl
  ·exact .inl rfl
 | x::h,i,b+1=>by
  simp only[goneAt,List.getElem?_cons_succ]
  exact ou ks h (i+1) b
theorem Ev.goneAt{P:Program}{Γ:ae}{f:FuncId}{args:List D}{h h':List Blk}{d:D}(ks:List Nat)(he:Ev P Γ f args h d h'):Ev P Γ f args h d (goneAt ks 0 h'):=he.gc (ou ks h' 0)
theorem list_b{l:List AnyT}{r:List (List Dp)}
  (hc:CW GV Γ0 [.vec (l.map anR) 0 1] false (.loop (sub Tryz.f45 0)) {t:=mkT 78 0 [(2,.ref (.ptr 1 0)),(3,.ref (.ptr 2 0)),(13,.ref (.vec 0 0)),(14,int ((l.map anR).length:Int)),(15,int 0)],h:=[.vec (l.map anR) 0 1,.var [int 0,int 0,ad emp,bD],.var [int 3,int 0,ad emp,.ref (.vec 3 0)],.vec [] 0 4],m:=[]} (.exit 0) {t:=mkT 78 0 [(2,.ref (.ptr 1 0)),(3,.ref (.ptr 2 0))],h:=[.vec (l.map anR) 0 1,.var [int 0,int 0,ad emp,bD],.var [int 3,int 0,ad emp,.ref (.vec 3 0)],.vec (r.map dpR) 0 4],m:=[]}):(Ev GV Γ0 45 [.ref (.vec 0 0)] [.vec (l.map anR) 0 1] (.agg [int 3,int 0,ad emp,.ref (.vec 3 0)]) [.vec (l.map anR) 0 1,.var [int 3,int 0,ad emp,.ref (.vec 3 0)],.var [int 3,int 0,ad emp,.ref (.vec 3 0)],.vec (r.map dpR) 0 4]):=by
 have hl0:=(@hc)
 let v0:List D:=[int 3,int 0,ad emp,.ref (.vec 3 0)]
 exact HU (Jj (h':=[.vec (GU anR l) 0 1,.var v0,.var v0,.vec (GU dpR r) 0 4]) (d:=Hc v0) pok [.nx 3,.st (.nilC 2 3 4),.sum [2,3,13,14,15] (HJ 0) {t:=mkT 78 0 [(2,.ref (.ptr 1 0)),(3,.ref (.ptr 2 0))],h:=[.vec (GU anR l) 0 1,.var [int 0,int 0,ad emp,nq],.var v0,.vec (GU dpR r) 0 4],m:=[]}] (by kernel_rfl) (.c hl0 .n)) (by rfl) (by rfl)
theorem zz{l:List AnyT}(hl:l.length≤1000000)(hb:∀a b,AnyT.bun a b∈l→Gi a b):
  Ev GV Γ0 45 [.ref (.vec 0 0)] [.vec (l.map anR) 0 1] (.agg [int 3,int 0,ad emp,.ref (.vec 3 0)]) [.vec (l.map anR) 0 1,.gone,.gone,.vec ((l.map i4).map dpR) 0 4] :=
 (list_b (li_l hl hb)).goneAt [1,2]
theorem kR{α:Type}(f:α→List Dp)(l:List α)(i:Nat)(hi:i<l.length):(l.take (i+1)).map f=(l.take i).map f++[f l[i]]:=by
 rw[I4 hi,HK];rfl
def meV(m:MeT):List Dp:=aG [ao m.day,ao m.frm,ao m.til,ao m.fst,ao m.lst]
abbrev meA(r:List Dp):D:=.agg (r.map .p)
noncomputable abbrev i7(m:MeT):List Blk:=[.var [int m.day,int m.frm,int m.til,int m.fst,int m.lst],.var [int 0,int 0,ad {data:=#[]},nq],.vec [[Hf (G2 (Hd 3 (GW GY m.day)))],[Hf (G2 (Hd 3 (GW GY m.frm)))],[Hf (G2 (Hd 3 (GW GY m.til)))],[Hf (G2 (Hd 3 (GW GY m.fst)))],[Hf (G2 (Hd 3 (GW GY m.lst)))]] 0 1]
theorem meC_ev{m:MeT}(h:List Blk):(Ev GV Γ0 78 [ag m.row] h (meA (meV m)) h):=by
 let v0:List D:=[int 3,int 0,ad emp,aa [[vi 1,vi m.day,vs emp,G2 (G8 none 0 0)],[vi 1,vi m.frm,vs emp,G2 (G8 none 0 0)],[vi 1,vi m.til,vs emp,G2 (G8 none 0 0)],[vi 1,vi m.fst,vs emp,G2 (G8 none 0 0)],[vi 1,vi m.lst,vs emp,G2 (G8 none 0 0)]]]
 refine z0 [.call (Hc v0) (i7 m)] (.c (show Ev GV Γ0 45 [.ref (.vec 2 0)] (i7 m) (Hc v0) (i7 m) from(HU (Io (args:=[.ref (.vec 2 0)]) (H:=(i7 m)) [2] (@BK (m.day) (m.frm) (m.til) (m.fst) (m.lst)) (by kernel_rfl) (by kernel_rfl) (by kernel_rfl) ⟨?_,trivial⟩ ⟨?_,trivial⟩) (by kernel_rfl) (by kernel_rfl))) .n) h<;>subst v0<;>(first|rfl|exact ay _ _|first|assumption|rfl|decide|omega|simp_all)
abbrev meS(l:List MeT)(vr:List (List Dp))(i:Int):AS:={t:=mkT 25 0 [(1,fq 78),(4,.ref (.ptr 0 0)),(5,.ref (.ptr 1 0)),(9,aa (l.map Hm)),(10,int ((l.map Hm).length:Int)),(11,int i)],h:=[.var [int 0,int 0,ad emp,bD],.var [int 3,int 0,ad emp,.ref (.vec 2 0)],.vec (vr.map dpR) 0 4],m:=[]}
noncomputable abbrev wn(vr:List (List Dp))(m:MeT):List Blk:=[.var [int 0,int 0,ad emp,nq],.var [int 3,int 0,ad emp,.ref (.vec 2 0)],.vec (GU dpR vr) 0 4,.var [int m.day,int m.frm,int m.til,int m.fst,int m.lst]]
theorem GA{l:List MeT}{vr:List (List Dp)}{m:MeT}{i:Nat}(hr:af (i:Int) (l.map Hm) (Hm m) 5)(hlt:Qd ((i:Int)<((l.map Hm).length:Int))=true)(hw:GY.wrap ((i:Int)+1)=((i+1:Nat):Int))(hn:vr.length≤1000000000):(CW GV Γ0 [] false (sub Mh 0) (meS l vr i) .normal (meS l (vr++[meV m]) ((i+1:Nat):Int))):=by
 let v0:List D:=[int 3,int 0,ad emp,aa [[vi 1,vi m.day,vs emp,G2 (G8 none 0 0)],[vi 1,vi m.frm,vs emp,G2 (G8 none 0 0)],[vi 1,vi m.til,vs emp,G2 (G8 none 0 0)],[vi 1,vi m.fst,vs emp,G2 (G8 none 0 0)],[vi 1,vi m.lst,vs emp,G2 (G8 none 0 0)]]]
 refine zX {t:=mkT 25 0 [(1,fq 78),(4,.ref (.ptr 0 0)),(5,.ref (.ptr 1 0)),(9,aa (GU Hm l)),(10,int (↑(G3 (GU Hm l)):Int)),(11,int (G1 GY ((↑i:Int)+1)))],h:=[.var [int 0,int 0,ad emp,nq],.var [int 3,int 0,ad emp,.ref (.vec 2 0)],.vec (GU dpR vr++[v0]) 0 4],m:=[]} Hz [.st (.mask [1,4,5,9,10,11]),.st (.trimV 3),.st (.ren 2 0)] [.b true,.row [vi m.day,vi m.frm,vi m.til,vi m.fst,vi m.lst],.val (Hc v0)] (.c hlt (.c hr (.c (@meC_ev m (wn vr m)) (.c (show(Ia [v0] (rowOk 4)&&roomOk (G3 (GU dpR vr)+G3 (α:=List D) [v0]) 56)=true from ?_) (.e (.ref (.ptr 1 3)) (.e (.ref (.ptr 1 3)) (.e (.ref (.ptr 1 3)) (.c (show @Eq (Option D) (some (.ref (.vec 2 0))) (some (.ref (.vec 2 0))) from rfl) (.c (show @Eq (Option D) (some (.ref (.vec 2 0))) (some (.ref (.vec 2 0))) from rfl) (.c (show @Eq (Option D) (some (.ref (.vec 2 0))) (some (.ref (.vec 2 0))) from rfl) (.e (Hc [int m.day,int m.frm,int m.til,int m.fst,int m.lst]) (.e (.ref (.ptr 1 3)) (.c (show Ho 3 (.var [int 0,int 0,ad emp,nq])=true from rfl) (.c (show Ho 3 (.var [int 3,int 0,ad emp,.ref (.vec 2 1)])=true from rfl) (.c (show Ho 3 (.vec (GU dpR vr++[v0]) 1 4)=true from ?_) (.c (show GU (HP (cX 2 1 0)) (GU dpR vr++[v0])=GU dpR vr++[v0] from ?_) .n)))))))))))))))) (by subst v0;first|rfl|(rw[hw];simp only[meS,HK]<;>rfl)) (by subst v0;first|rfl|(rw[hw];simp only[meS,HK]<;>rfl))<;>subst v0<;>(first|assumption|rfl|exact bB hn ⟨rfl,rfl⟩|exact ct _ _ _ (meV m)|exact cv _ _ (meV m))
theorem GB{l:List MeT}{vr:List (List Dp)}{i:Nat}(hlt:Qd ((i:Int)<((l.map Hm).length:Int))=false):(CW GV Γ0 [] false (sub Mh 0) (meS l vr i) (.exit 0) {t:=mkT 25 0 [(4,.ref (.ptr 0 0)),(5,.ref (.ptr 1 0))],h:=[.var [int 0,int 0,ad emp,bD],.var [int 3,int 0,ad emp,.ref (.vec 2 0)],.vec (vr.map dpR) 0 4],m:=[]}):=by
 exact zx [.st (.mask [4,5])] [.b false] (.c hlt .n)
theorem me_l{l:List MeT}(hl:l.length≤1000000):CW GV Γ0 [] false (.loop (sub Mh 0)) (meS l [] 0) (.exit 0) {t:=mkT 25 0 [(4,.ref (.ptr 0 0)),(5,.ref (.ptr 1 0))],h:=[.var [int 0,int 0,ad emp,bD],.var [int 3,int 0,ad emp,.ref (.vec 2 0)],.vec ((l.map meV).map dpR) 0 4],m:=[]}:=by
 have hall:l.take l.length=l:=Jx
 have h0:=Jb (P:=GV) (Γ:=Γ0) (h0:=[]) (rd:=false) (c:=sub Mh 0) l.length (fun i=>meS l ((l.take i).map meV) (i:Int)) (e:=.exit 0) (by simp) (fun i hi=>?_) (GB (l:=l) (vr:=(l.take l.length).map meV) (i:=l.length) (bm Hm l))
 ·rw[hall] at h0
  exact h0
 ·rw[kR _ _ _ hi]
  exact GA (rowAt (HE hi) rfl) (lt_len Hm hi) (wrap_succ hi (by omega)) (by simp;omega)
theorem me_a{l:List MeT}{r:List (List Dp)}(hc:CW GV Γ0 [] false (.loop (sub Mh 0)) {t:=mkT 25 0 [(1,fq 78),(4,.ref (.ptr 0 0)),(5,.ref (.ptr 1 0)),(9,aa (l.map Hm)),(10,int ((l.map Hm).length:Int)),(11,int 0)],h:=[.var [int 0,int 0,ad emp,bD],.var [int 3,int 0,ad emp,.ref (.vec 2 0)],.vec [] 0 4],m:=[]} (.exit 0) {t:=mkT 25 0 [(4,.ref (.ptr 0 0)),(5,.ref (.ptr 1 0))],h:=[.var [int 0,int 0,ad emp,bD],.var [int 3,int 0,ad emp,.ref (.vec 2 0)],.vec (r.map dpR) 0 4],m:=[]})(h:List Blk):(Ev GV Γ0 77 [aa (l.map Hm),fq 78] h (liO r) h):=by
 have hl0:=(@hc)
 exact z0 [.nx 3,.st (.nilC 1 3 4),.sum [1,4,5,9,10,11] (HJ 0) {t:=mkT 25 0 [(4,.ref (.ptr 0 0)),(5,.ref (.ptr 1 0))],h:=[.var [int 0,int 0,ad emp,nq],.var [int 3,int 0,ad emp,.ref (.vec 2 0)],.vec (GU dpR r) 0 4],m:=[]},.st (.frz 2 r)] (.c hl0 (.c (show GU dpR r=GU (fun x=>GU Hf x) r from(by first|assumption|rfl|decide|omega|simp_all)) .n)) h
theorem meE_ev{l:List MeT}(hl:l.length≤1000000)(h:List Blk):Ev GV Γ0 77 [aa (l.map Hm),fq 78] h (liO (l.map meV)) h:=me_a (me_l hl) h
def grV(m:GrT):List Dp:=aG [ao m.grp,ao m.seats,ao m.til]
abbrev grA(r:List Dp):D:=.agg (r.map .p)
noncomputable abbrev i8(m:GrT):List Blk:=[.var [int m.grp,int m.seats,int m.til],.var [int 0,int 0,ad {data:=#[]},nq],.vec [[Hf (G2 (Hd 3 (GW GY m.grp)))],[Hf (G2 (Hd 3 (GW GY m.seats)))],[Hf (G2 (Hd 3 (GW GY m.til)))]] 0 1]
theorem grC_ev{m:GrT}(h:List Blk):(Ev GV Γ0 80 [ag m.row] h (grA (grV m)) h):=by
 let v0:List D:=[int 3,int 0,ad emp,aa [[vi 1,vi m.grp,vs emp,G2 (G8 none 0 0)],[vi 1,vi m.seats,vs emp,G2 (G8 none 0 0)],[vi 1,vi m.til,vs emp,G2 (G8 none 0 0)]]]
 refine z0 [.call (Hc v0) (i8 m)] (.c (show Ev GV Γ0 45 [.ref (.vec 2 0)] (i8 m) (Hc v0) (i8 m) from(HU (Io (args:=[.ref (.vec 2 0)]) (H:=(i8 m)) [2] (@uV (m.grp) (m.seats) (m.til)) (by kernel_rfl) (by kernel_rfl) (by kernel_rfl) ⟨?_,trivial⟩ ⟨?_,trivial⟩) (by kernel_rfl) (by kernel_rfl))) .n) h<;>subst v0<;>(first|rfl|exact ay _ _|first|assumption|rfl|decide|omega|simp_all)
abbrev grS(l:List GrT)(vr:List (List Dp))(i:Int):AS:={t:=mkT 25 0 [(1,fq 80),(4,.ref (.ptr 0 0)),(5,.ref (.ptr 1 0)),(9,aa (l.map Hn)),(10,int ((l.map Hn).length:Int)),(11,int i)],h:=[.var [int 0,int 0,ad emp,bD],.var [int 3,int 0,ad emp,.ref (.vec 2 0)],.vec (vr.map dpR) 0 4],m:=[]}
noncomputable abbrev wo(vr:List (List Dp))(m:GrT):List Blk:=[.var [int 0,int 0,ad emp,nq],.var [int 3,int 0,ad emp,.ref (.vec 2 0)],.vec (GU dpR vr) 0 4,.var [int m.grp,int m.seats,int m.til]]
theorem GC{l:List GrT}{vr:List (List Dp)}{m:GrT}{i:Nat}(hr:af (i:Int) (l.map Hn) (Hn m) 3)(hlt:Qd ((i:Int)<((l.map Hn).length:Int))=true)(hw:GY.wrap ((i:Int)+1)=((i+1:Nat):Int))(hn:vr.length≤1000000000):(CW GV Γ0 [] false (sub Mi 0) (grS l vr i) .normal (grS l (vr++[grV m]) ((i+1:Nat):Int))):=by
 let v0:List D:=[int 3,int 0,ad emp,aa [[vi 1,vi m.grp,vs emp,G2 (G8 none 0 0)],[vi 1,vi m.seats,vs emp,G2 (G8 none 0 0)],[vi 1,vi m.til,vs emp,G2 (G8 none 0 0)]]]
 refine zX {t:=mkT 25 0 [(1,fq 80),(4,.ref (.ptr 0 0)),(5,.ref (.ptr 1 0)),(9,aa (GU Hn l)),(10,int (↑(G3 (GU Hn l)):Int)),(11,int (G1 GY ((↑i:Int)+1)))],h:=[.var [int 0,int 0,ad emp,nq],.var [int 3,int 0,ad emp,.ref (.vec 2 0)],.vec (GU dpR vr++[v0]) 0 4],m:=[]} Hz [.st (.mask [1,4,5,9,10,11]),.st (.trimV 3),.st (.ren 2 0)] [.b true,.row [vi m.grp,vi m.seats,vi m.til],.val (Hc v0)] (.c hlt (.c hr (.c (@grC_ev m (wo vr m)) (.c (show(Ia [v0] (rowOk 4)&&roomOk (G3 (GU dpR vr)+G3 (α:=List D) [v0]) 56)=true from ?_) (.e (.ref (.ptr 1 3)) (.e (.ref (.ptr 1 3)) (.e (.ref (.ptr 1 3)) (.c (show @Eq (Option D) (some (.ref (.vec 2 0))) (some (.ref (.vec 2 0))) from rfl) (.c (show @Eq (Option D) (some (.ref (.vec 2 0))) (some (.ref (.vec 2 0))) from rfl) (.c (show @Eq (Option D) (some (.ref (.vec 2 0))) (some (.ref (.vec 2 0))) from rfl) (.e (Hc [int m.grp,int m.seats,int m.til]) (.e (.ref (.ptr 1 3)) (.c (show Ho 3 (.var [int 0,int 0,ad emp,nq])=true from rfl) (.c (show Ho 3 (.var [int 3,int 0,ad emp,.ref (.vec 2 1)])=true from rfl) (.c (show Ho 3 (.vec (GU dpR vr++[v0]) 1 4)=true from ?_) (.c (show GU (HP (cX 2 1 0)) (GU dpR vr++[v0])=GU dpR vr++[v0] from ?_) .n)))))))))))))))) (by subst v0;first|rfl|(rw[hw];simp only[grS,HK]<;>rfl)) (by subst v0;first|rfl|(rw[hw];simp only[grS,HK]<;>rfl))<;>subst v0<;>(first|assumption|rfl|exact bB hn ⟨rfl,rfl⟩|exact ct _ _ _ (grV m)|exact cv _ _ (grV m))
theorem GD{l:List GrT}{vr:List (List Dp)}{i:Nat}(hlt:Qd ((i:Int)<((l.map Hn).length:Int))=false):(CW GV Γ0 [] false (sub Mi 0) (grS l vr i) (.exit 0) {t:=mkT 25 0 [(4,.ref (.ptr 0 0)),(5,.ref (.ptr 1 0))],h:=[.var [int 0,int 0,ad emp,bD],.var [int 3,int 0,ad emp,.ref (.vec 2 0)],.vec (vr.map dpR) 0 4],m:=[]}):=by
 exact zx [.st (.mask [4,5])] [.b false] (.c hlt .n)
theorem gr_l{l:List GrT}(hl:l.length≤1000000):CW GV Γ0 [] false (.loop (sub Mi 0)) (grS l [] 0) (.exit 0) {t:=mkT 25 0 [(4,.ref (.ptr 0 0)),(5,.ref (.ptr 1 0))],h:=[.var [int 0,int 0,ad emp,bD],.var [int 3,int 0,ad emp,.ref (.vec 2 0)],.vec ((l.map grV).map dpR) 0 4],m:=[]}:=by
 have hall:l.take l.length=l:=Jx
 have h0:=Jb (P:=GV) (Γ:=Γ0) (h0:=[]) (rd:=false) (c:=sub Mi 0) l.length (fun i=>grS l ((l.take i).map grV) (i:Int)) (e:=.exit 0) (by simp) (fun i hi=>?_) (GD (l:=l) (vr:=(l.take l.length).map grV) (i:=l.length) (bm Hn l))
 ·rw[hall] at h0
  exact h0
 ·rw[kR _ _ _ hi]
  exact GC (rowAt (HE hi) rfl) (lt_len Hn hi) (wrap_succ hi (by omega)) (by simp;omega)
theorem gr_a{l:List GrT}{r:List (List Dp)}(hc:CW GV Γ0 [] false (.loop (sub Mi 0)) {t:=mkT 25 0 [(1,fq 80),(4,.ref (.ptr 0 0)),(5,.ref (.ptr 1 0)),(9,aa (l.map Hn)),(10,int ((l.map Hn).length:Int)),(11,int 0)],h:=[.var [int 0,int 0,ad emp,bD],.var [int 3,int 0,ad emp,.ref (.vec 2 0)],.vec [] 0 4],m:=[]} (.exit 0) {t:=mkT 25 0 [(4,.ref (.ptr 0 0)),(5,.ref (.ptr 1 0))],h:=[.var [int 0,int 0,ad emp,bD],.var [int 3,int 0,ad emp,.ref (.vec 2 0)],.vec (r.map dpR) 0 4],m:=[]})(h:List Blk):(Ev GV Γ0 79 [aa (l.map Hn),fq 80] h (liO r) h):=by
 have hl0:=(@hc)
 exact z0 [.nx 3,.st (.nilC 1 3 4),.sum [1,4,5,9,10,11] (HJ 0) {t:=mkT 25 0 [(4,.ref (.ptr 0 0)),(5,.ref (.ptr 1 0))],h:=[.var [int 0,int 0,ad emp,nq],.var [int 3,int 0,ad emp,.ref (.vec 2 0)],.vec (GU dpR r) 0 4],m:=[]},.st (.frz 2 r)] (.c hl0 (.c (show GU dpR r=GU (fun x=>GU Hf x) r from(by first|assumption|rfl|decide|omega|simp_all)) .n)) h
theorem grE_ev{l:List GrT}(hl:l.length≤1000000)(h:List Blk):Ev GV Γ0 79 [aa (l.map Hn),fq 80] h (liO (l.map grV)) h:=gr_a (gr_l hl) h
def inV(m:Int):List Dp:=ao m
abbrev inA(r:List Dp):D:=.agg (r.map .p)
theorem inC_ev{m:Int}(h:List Blk):(Ev GV Γ0 82 [int m] h (inA (inV m)) h):=by
 exact z0 [] .n h
abbrev GE(l:List Int)(vr:List (List Dp))(i:Int):AS:={t:=mkT 25 0 [(1,fq 82),(4,.ref (.ptr 0 0)),(5,.ref (.ptr 1 0)),(9,aa (l.map ab)),(10,int ((l.map ab).length:Int)),(11,int i)],h:=[.var [int 0,int 0,ad emp,bD],.var [int 3,int 0,ad emp,.ref (.vec 2 0)],.vec (vr.map dpR) 0 4],m:=[]}
noncomputable abbrev wp(vr:List (List Dp)):List Blk:=[.var [int 0,int 0,ad emp,nq],.var [int 3,int 0,ad emp,.ref (.vec 2 0)],.vec (GU dpR vr) 0 4]
theorem GF{l:List Int}{vr:List (List Dp)}{m:Int}{i:Nat}(hr:af (i:Int) (l.map ab) (ab m) 1)(hlt:Qd ((i:Int)<((l.map ab).length:Int))=true)(hw:GY.wrap ((i:Int)+1)=((i+1:Nat):Int))(hn:vr.length≤1000000000):(CW GV Γ0 [] false (sub Mj 0) (GE l vr i) .normal (GE l (vr++[inV m]) ((i+1:Nat):Int))):=by
 let v0:List D:=[int 1,int m,ad emp,nq]
 refine zX {t:=mkT 25 0 [(1,fq 82),(4,.ref (.ptr 0 0)),(5,.ref (.ptr 1 0)),(9,aa (GU ab l)),(10,int (↑(G3 (GU ab l)):Int)),(11,int (G1 GY ((↑i:Int)+1)))],h:=[.var [int 0,int 0,ad emp,nq],.var [int 3,int 0,ad emp,.ref (.vec 2 0)],.vec (GU dpR vr++[v0]) 0 4],m:=[]} Hz [.st (.mask [1,4,5,9,10,11]),.st (.trimV 3),.st (.ren 2 0)] [.b true,.row [vi m],.val (Hc v0)] (.c hlt (.c hr (.c (@inC_ev m (wp vr)) (.c (show(Ia [v0] (rowOk 4)&&roomOk (G3 (GU dpR vr)+G3 (α:=List D) [v0]) 56)=true from ?_) (.e (.ref (.ptr 1 3)) (.e (.ref (.ptr 1 3)) (.e (.ref (.ptr 1 3)) (.c (show @Eq (Option D) (some (.ref (.vec 2 0))) (some (.ref (.vec 2 0))) from rfl) (.c (show @Eq (Option D) (some (.ref (.vec 2 0))) (some (.ref (.vec 2 0))) from rfl) (.c (show @Eq (Option D) (some (.ref (.vec 2 0))) (some (.ref (.vec 2 0))) from rfl) (.e (.ref (.ptr 1 3)) (.c (show Ho 3 (.var [int 0,int 0,ad emp,nq])=true from rfl) (.c (show Ho 3 (.var [int 3,int 0,ad emp,.ref (.vec 2 1)])=true from rfl) (.c (show Ho 3 (.vec (GU dpR vr++[v0]) 1 4)=true from ?_) (.c (show GU (HP (cX 2 1 0)) (GU dpR vr++[v0])=GU dpR vr++[v0] from ?_) .n))))))))))))))) (by subst v0;first|rfl|(rw[hw];simp only[GE,HK]<;>rfl)) (by subst v0;first|rfl|(rw[hw];simp only[GE,HK]<;>rfl))<;>subst v0<;>(first|assumption|rfl|exact bB hn ⟨rfl,rfl⟩|exact ct _ _ _ (inV m)|exact cv _ _ (inV m))
theorem GG{l:List Int}{vr:List (List Dp)}{i:Nat}(hlt:Qd ((i:Int)<((l.map ab).length:Int))=false):(CW GV Γ0 [] false (sub Mj 0) (GE l vr i) (.exit 0) {t:=mkT 25 0 [(4,.ref (.ptr 0 0)),(5,.ref (.ptr 1 0))],h:=[.var [int 0,int 0,ad emp,bD],.var [int 3,int 0,ad emp,.ref (.vec 2 0)],.vec (vr.map dpR) 0 4],m:=[]}):=by
 exact zx [.st (.mask [4,5])] [.b false] (.c hlt .n)
theorem in_l{l:List Int}(hl:l.length≤1000000):CW GV Γ0 [] false (.loop (sub Mj 0)) (GE l [] 0) (.exit 0) {t:=mkT 25 0 [(4,.ref (.ptr 0 0)),(5,.ref (.ptr 1 0))],h:=[.var [int 0,int 0,ad emp,bD],.var [int 3,int 0,ad emp,.ref (.vec 2 0)],.vec ((l.map inV).map dpR) 0 4],m:=[]}:=by
 have hall:l.take l.length=l:=Jx
 have h0:=Jb (P:=GV) (Γ:=Γ0) (h0:=[]) (rd:=false) (c:=sub Mj 0) l.length (fun i=>GE l ((l.take i).map inV) (i:Int)) (e:=.exit 0) (by simp) (fun i hi=>?_) (GG (l:=l) (vr:=(l.take l.length).map inV) (i:=l.length) (bm ab l))
 ·rw[hall] at h0
  exact h0
 ·rw[kR _ _ _ hi]
  exact GF (rowAt (HE hi) rfl) (lt_len ab hi) (wrap_succ hi (by omega)) (by simp;omega)
theorem in_a{l:List Int}{r:List (List Dp)}(hc:CW GV Γ0 [] false (.loop (sub Mj 0)) {t:=mkT 25 0 [(1,fq 82),(4,.ref (.ptr 0 0)),(5,.ref (.ptr 1 0)),(9,aa (l.map ab)),(10,int ((l.map ab).length:Int)),(11,int 0)],h:=[.var [int 0,int 0,ad emp,bD],.var [int 3,int 0,ad emp,.ref (.vec 2 0)],.vec [] 0 4],m:=[]} (.exit 0) {t:=mkT 25 0 [(4,.ref (.ptr 0 0)),(5,.ref (.ptr 1 0))],h:=[.var [int 0,int 0,ad emp,bD],.var [int 3,int 0,ad emp,.ref (.vec 2 0)],.vec (r.map dpR) 0 4],m:=[]})(h:List Blk):(Ev GV Γ0 81 [aa (l.map ab),fq 82] h (liO r) h):=by
 have hl0:=(@hc)
 exact z0 [.nx 3,.st (.nilC 1 3 4),.sum [1,4,5,9,10,11] (HJ 0) {t:=mkT 25 0 [(4,.ref (.ptr 0 0)),(5,.ref (.ptr 1 0))],h:=[.var [int 0,int 0,ad emp,nq],.var [int 3,int 0,ad emp,.ref (.vec 2 0)],.vec (GU dpR r) 0 4],m:=[]},.st (.frz 2 r)] (.c hl0 (.c (show GU dpR r=GU (fun x=>GU Hf x) r from(by first|assumption|rfl|decide|omega|simp_all)) .n)) h
theorem inE_ev{l:List Int}(hl:l.length≤1000000)(h:List Blk):Ev GV Γ0 81 [aa (l.map ab),fq 82] h (liO (l.map inV)) h:=in_a (in_l hl) h
def buV(m:BuT):List Dp:=aG [ao m.sec,ao m.lab]
abbrev buA(r:List Dp):D:=.agg (r.map .p)
noncomputable abbrev i9(m:BuT):List Blk:=[.var [int m.sec,int m.lab],.var [int 0,int 0,ad {data:=#[]},nq],.vec [[Hf (G2 (Hd 3 (GW GY m.sec)))],[Hf (G2 (Hd 3 (GW GY m.lab)))]] 0 1]
theorem buC_ev{m:BuT}(h:List Blk):(Ev GV Γ0 84 [ag m.row] h (buA (buV m)) h):=by
 let v0:List D:=[int 3,int 0,ad emp,aa [[vi 1,vi m.sec,vs emp,G2 (G8 none 0 0)],[vi 1,vi m.lab,vs emp,G2 (G8 none 0 0)]]]
 refine z0 [.call (Hc v0) (i9 m)] (.c (show Ev GV Γ0 45 [.ref (.vec 2 0)] (i9 m) (Hc v0) (i9 m) from(HU (Io (args:=[.ref (.vec 2 0)]) (H:=(i9 m)) [2] (@pH (m.sec) (m.lab)) (by kernel_rfl) (by kernel_rfl) (by kernel_rfl) ⟨?_,trivial⟩ ⟨?_,trivial⟩) (by kernel_rfl) (by kernel_rfl))) .n) h<;>subst v0<;>(first|rfl|exact ay _ _|first|assumption|rfl|decide|omega|simp_all)
abbrev buS(l:List BuT)(vr:List (List Dp))(i:Int):AS:={t:=mkT 25 0 [(1,fq 84),(4,.ref (.ptr 0 0)),(5,.ref (.ptr 1 0)),(9,aa (l.map G7)),(10,int ((l.map G7).length:Int)),(11,int i)],h:=[.var [int 0,int 0,ad emp,bD],.var [int 3,int 0,ad emp,.ref (.vec 2 0)],.vec (vr.map dpR) 0 4],m:=[]}
noncomputable abbrev wq(vr:List (List Dp))(m:BuT):List Blk:=[.var [int 0,int 0,ad emp,nq],.var [int 3,int 0,ad emp,.ref (.vec 2 0)],.vec (GU dpR vr) 0 4,.var [int m.sec,int m.lab]]
theorem GH{l:List BuT}{vr:List (List Dp)}{m:BuT}{i:Nat}(hr:af (i:Int) (l.map G7) (G7 m) 2)(hlt:Qd ((i:Int)<((l.map G7).length:Int))=true)(hw:GY.wrap ((i:Int)+1)=((i+1:Nat):Int))(hn:vr.length≤1000000000):(CW GV Γ0 [] false (sub Mk 0) (buS l vr i) .normal (buS l (vr++[buV m]) ((i+1:Nat):Int))):=by
 let v0:List D:=[int 3,int 0,ad emp,aa [[vi 1,vi m.sec,vs emp,G2 (G8 none 0 0)],[vi 1,vi m.lab,vs emp,G2 (G8 none 0 0)]]]
 refine zX {t:=mkT 25 0 [(1,fq 84),(4,.ref (.ptr 0 0)),(5,.ref (.ptr 1 0)),(9,aa (GU G7 l)),(10,int (↑(G3 (GU G7 l)):Int)),(11,int (G1 GY ((↑i:Int)+1)))],h:=[.var [int 0,int 0,ad emp,nq],.var [int 3,int 0,ad emp,.ref (.vec 2 0)],.vec (GU dpR vr++[v0]) 0 4],m:=[]} Hz [.st (.mask [1,4,5,9,10,11]),.st (.trimV 3),.st (.ren 2 0)] [.b true,.row [vi m.sec,vi m.lab],.val (Hc v0)] (.c hlt (.c hr (.c (@buC_ev m (wq vr m)) (.c (show(Ia [v0] (rowOk 4)&&roomOk (G3 (GU dpR vr)+G3 (α:=List D) [v0]) 56)=true from ?_) (.e (.ref (.ptr 1 3)) (.e (.ref (.ptr 1 3)) (.e (.ref (.ptr 1 3)) (.c (show @Eq (Option D) (some (.ref (.vec 2 0))) (some (.ref (.vec 2 0))) from rfl) (.c (show @Eq (Option D) (some (.ref (.vec 2 0))) (some (.ref (.vec 2 0))) from rfl) (.c (show @Eq (Option D) (some (.ref (.vec 2 0))) (some (.ref (.vec 2 0))) from rfl) (.e (Hc [int m.sec,int m.lab]) (.e (.ref (.ptr 1 3)) (.c (show Ho 3 (.var [int 0,int 0,ad emp,nq])=true from rfl) (.c (show Ho 3 (.var [int 3,int 0,ad emp,.ref (.vec 2 1)])=true from rfl) (.c (show Ho 3 (.vec (GU dpR vr++[v0]) 1 4)=true from ?_) (.c (show GU (HP (cX 2 1 0)) (GU dpR vr++[v0])=GU dpR vr++[v0] from ?_) .n)))))))))))))))) (by subst v0;first|rfl|(rw[hw];simp only[buS,HK]<;>rfl)) (by subst v0;first|rfl|(rw[hw];simp only[buS,HK]<;>rfl))<;>subst v0<;>(first|assumption|rfl|exact bB hn ⟨rfl,rfl⟩|exact ct _ _ _ (buV m)|exact cv _ _ (buV m))
theorem GI{l:List BuT}{vr:List (List Dp)}{i:Nat}(hlt:Qd ((i:Int)<((l.map G7).length:Int))=false):(CW GV Γ0 [] false (sub Mk 0) (buS l vr i) (.exit 0) {t:=mkT 25 0 [(4,.ref (.ptr 0 0)),(5,.ref (.ptr 1 0))],h:=[.var [int 0,int 0,ad emp,bD],.var [int 3,int 0,ad emp,.ref (.vec 2 0)],.vec (vr.map dpR) 0 4],m:=[]}):=by
 exact zx [.st (.mask [4,5])] [.b false] (.c hlt .n)
theorem bu_l{l:List BuT}(hl:l.length≤1000000):CW GV Γ0 [] false (.loop (sub Mk 0)) (buS l [] 0) (.exit 0) {t:=mkT 25 0 [(4,.ref (.ptr 0 0)),(5,.ref (.ptr 1 0))],h:=[.var [int 0,int 0,ad emp,bD],.var [int 3,int 0,ad emp,.ref (.vec 2 0)],.vec ((l.map buV).map dpR) 0 4],m:=[]}:=by
 have hall:l.take l.length=l:=Jx
 have h0:=Jb (P:=GV) (Γ:=Γ0) (h0:=[]) (rd:=false) (c:=sub Mk 0) l.length (fun i=>buS l ((l.take i).map buV) (i:Int)) (e:=.exit 0) (by simp) (fun i hi=>?_) (GI (l:=l) (vr:=(l.take l.length).map buV) (i:=l.length) (bm G7 l))
 ·rw[hall] at h0
  exact h0
 ·rw[kR _ _ _ hi]
  exact GH (rowAt (HE hi) rfl) (lt_len G7 hi) (wrap_succ hi (by omega)) (by simp;omega)
theorem bu_a{l:List BuT}{r:List (List Dp)}(hc:CW GV Γ0 [] false (.loop (sub Mk 0)) {t:=mkT 25 0 [(1,fq 84),(4,.ref (.ptr 0 0)),(5,.ref (.ptr 1 0)),(9,aa (l.map G7)),(10,int ((l.map G7).length:Int)),(11,int 0)],h:=[.var [int 0,int 0,ad emp,bD],.var [int 3,int 0,ad emp,.ref (.vec 2 0)],.vec [] 0 4],m:=[]} (.exit 0) {t:=mkT 25 0 [(4,.ref (.ptr 0 0)),(5,.ref (.ptr 1 0))],h:=[.var [int 0,int 0,ad emp,bD],.var [int 3,int 0,ad emp,.ref (.vec 2 0)],.vec (r.map dpR) 0 4],m:=[]})(h:List Blk):(Ev GV Γ0 83 [aa (l.map G7),fq 84] h (liO r) h):=by
 have hl0:=(@hc)
 exact z0 [.nx 3,.st (.nilC 1 3 4),.sum [1,4,5,9,10,11] (HJ 0) {t:=mkT 25 0 [(4,.ref (.ptr 0 0)),(5,.ref (.ptr 1 0))],h:=[.var [int 0,int 0,ad emp,nq],.var [int 3,int 0,ad emp,.ref (.vec 2 0)],.vec (GU dpR r) 0 4],m:=[]},.st (.frz 2 r)] (.c hl0 (.c (show GU dpR r=GU (fun x=>GU Hf x) r from(by first|assumption|rfl|decide|omega|simp_all)) .n)) h
theorem buE_ev{l:List BuT}(hl:l.length≤1000000)(h:List Blk):Ev GV Γ0 83 [aa (l.map G7),fq 84] h (liO (l.map buV)) h:=bu_a (bu_l hl) h
end Go.Vi
