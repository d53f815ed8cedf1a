/- LedgerArrival: part of the proof: contracts of the functions that the law reaches, and the law. No conditions beyond the given statement's own. -/
import Derived.Test.YtbfpdhdcicjihaaGreatDoorW7
open Decidable renaming decide → Qd
open Go.Proofs.Tryz renaming prog → GV, f43 → IE, f27 → KQ, f29 → M7, f10 → Kf, f45 → Kl
open Go.IntKind renaming i64 → GY, wrap → G1, u8 → GZ
open Go.Exit renaming normal → Hz, exit → HJ
open List renaming length → G3, map → GU, drop → Hb, all → Ia, take → Hl, map_cons → Il, drop_zero → IW, all_eq_true → Hs, mem_map → HS, length_map → HW, length_singleton → Ju, map_append → HK, map_map → Jz, getElem?_cons_zero → Hu, map_congr_left → J0
open Go.Operand renaming tmp → Jq
open Go.Vi.D renaming ref → Jd, mapRL → HP, agg → Hc, any → IM, cells → KL, p → Hf
open Bool renaming and_eq_true → G6, and_self → Lq
open Go.Vi.Ev renaming castH → HU, of_sym → Jj, glob0 → Hx
open Go.Vi.CW renaming loopN → Jb
open Option renaming map_some → HD, map → KJ
open Go.Vi.Dp renaming sl → Hj, v → G2
open Go.Value renaming bool → Ht, int → GW, iface → Hd, slice → G8
open Go.Vi.Blk renaming inn → Ho
open BitVec renaming toNat → GT
open Int renaming toNat → Hh
open Go Go.Proofs
namespace Go.Vi
set_option maxRecDepth 100000
set_option maxHeartbeats 4000000
abbrev ZO(a:D):List (List D):=[[.ref (.av 2 0 32 1)],[a]]
abbrev zbz(a:Nat):Nat × D:=(a,.ref (.vec 3 0))
abbrev QS(a:D)(b c:Int):List D:=mkT 36 0 [(zbz 0),(2,a),(3,int b),(zbz 9),(10,int 2),(11,int c)]
abbrev za5(a b:Blk)(c:List D)(d:D):List Blk:=[a,b,.var c,.vec (ZO d) 0 1]
abbrev Cw(b0:Blk)(b1:Blk)(T:List D)(y:D)(n i:Int):AS:={t:=(QS bD n i),h:=(za5 b0 b1 T y),m:=[]}
abbrev Qk:Ref:=(.av 2 0 32 1)
abbrev Vj:List Ans:=[.st (.mask [0,2,3,9,10,11])]
abbrev Vx(a:Int):List Ans:=[.b true,.ov 17 (int a),.b false]
theorem ccA_0{H:List Blk}{b0:Blk}{b1:Blk}{T:List D}{y:D}{n m r:Int}(hl:builtinD GV (za5 b0 b1 T y) .len [23] [.ref Qk]=some (true,int m,(za5 b0 b1 T y)))(hw:GY.wrap (n+m)=r)(hneg:Qd (GY.wrap (n+m)<0)=false):(CW GV Γ0 H false (sub IE 0) (Cw b0 b1 T y n 0) .normal (Cw b0 b1 T y r 1)):=by
 refine zX {t:=(QS nq (G1 GY (n+m)) (G1 GY (0+1))),h:=(za5 b0 b1 T y),m:=[]} Hz Vj (Vx m) (.c (show Qd (0<2)=true from rfl) (.c (show inR 0 (G3 (ZO y))=true from rfl) (.c (show @Eq (Option (Bool×D×List Blk)) (some (true,int (↑32:Int),(za5 b0 b1 T y))) (some (true,int m,(za5 b0 b1 T y))) from(by first|(simp only[hneg,cond_true,cond_false];done)|first|assumption|rfl)) (.c hneg .n)))) ?_ ?_<;>(first|rfl|(simp only[hw]<;>rfl))
abbrev YQ:Nat × D:=(zbz 0)
theorem ccA_1{H:List Blk}{b0:Blk}{b1:Blk}{T:List D}{y:D}{n m r:Int}(hl:builtinD GV (za5 b0 b1 T y) .len [23] [y]=some (true,int m,(za5 b0 b1 T y)))(hw:GY.wrap (n+m)=r)(hneg:Qd (GY.wrap (n+m)<0)=false):(CW GV Γ0 H false (sub IE 0) (Cw b0 b1 T y n 1) .normal (Cw b0 b1 T y r 2)):=by
 refine zX {t:=(QS nq (G1 GY (n+m)) (G1 GY (1+1))),h:=(za5 b0 b1 T y),m:=[]} Hz Vj (Vx m) (.c (show Qd (1<2)=true from rfl) (.c (show inR 1 (G3 (ZO y))=true from rfl) (.c (show @Eq (Option (Bool×D×List Blk)) (builtinD GV (za5 b0 b1 T y) Builtin.len [23] (GU (evalD Γ0 (mkT 36 0 [YQ,(2,nq),(3,int n),(5,y),(zbz 9),(10,int 2),(11,int 1),(12,bool (Qd (1<2))),(13,.ref (.vp 3 0 1 0)),(14,y),(15,int n),(16,y)])) [Jq 16])) (some (true,int m,(za5 b0 b1 T y))) from(by first|assumption|rfl)) (.c hneg .n)))) ?_ ?_<;>(first|rfl|(simp only[hw]<;>rfl))
theorem ccA_2{H:List Blk}{b0:Blk}{b1:Blk}{T:List D}{y:D}{n:Int}:(CW GV Γ0 H false (sub IE 0) (Cw b0 b1 T y n 2) (.exit 0) {t:=mkT 36 0 [YQ,(2,bD),(3,int n)],h:=(za5 b0 b1 T y),m:=[]}):=by
 exact zx [.st (.mask [0,2,3])] [.b false] (.c (show Qd (2<2)=false from rfl) .n)
abbrev VV(a:Nat)(b:Int):List D:=mkT 36 0 [(2,bD),(6,.ref (.vec 4 a)),(zbz 25),(26,int 2),(27,int b)]
abbrev zaS(a b:Blk)(c:List D)(d:D)(f:List (List D))(g:Nat):List Blk:=[a,b,.var c,.vec (ZO d) 0 1,.vec f g 1]
abbrev Cx(b0:Blk)(b1:Blk)(T:List D)(y:D)(rows:List (List D))(e:Nat)(i:Int):AS:={t:=(VV e i),h:=(zaS b0 b1 T y rows e),m:=[]}
abbrev Vs:List Ans:=[.st (.mask [2,6,25,26,27])]
abbrev V4(a:List D):List (List D):=(chunk 1 32 (Hb 0 a))
theorem cdA_0{H:List Blk}{b0:Blk}{b1:Blk}{T:List D}{y:D}{rows rows':List (List D)}(ha:builtinD GV (zaS b0 b1 T y rows 1) .append [23,23] [.ref (.vec 4 1),.ref Qk]=some (true,Jd (.vec 4 2),(zaS b0 b1 T y rows' 2))):(CW GV Γ0 H false (sub IE 1) (Cx b0 b1 T y rows 1 0) .normal (Cx b0 b1 T y rows' 2 1)):=by
 let v14:=Hb 1 (Hb 0 T)
 let v6:=Hb 1 (Hb 1 v14)
 let v7:=Hb 1 (Hb 1 v6)
 let v2:=Hb 1 (Hb 1 v7)
 let v8:=Hb 1 (Hb 1 v2)
 let v3:=Hb 1 (Hb 1 v8)
 let v9:=Hb 1 (Hb 1 v3)
 let v0:=Hb 1 (Hb 1 v9)
 let v10:=Hb 1 (Hb 1 v0)
 let v4:=Hb 1 (Hb 1 v10)
 let v11:=Hb 1 (Hb 1 v4)
 let v1:=Hb 1 (Hb 1 v11)
 let v12:=Hb 1 (Hb 1 v1)
 let v5:=Hb 1 (Hb 1 v12)
 let v13:=Hb 1 (Hb 1 v5)
 exact zx Vs [.b true,.oh 33 (.ref (.vec 4 2)) (zaS b0 b1 T y rows' 2)] (.c (show Qd (0<2)=true from rfl) (.c (show inR 0 (G3 (ZO y))=true from rfl) (.c (show @Eq (Option (Bool×D×List Blk)) (some (Ia (V4 T) (rowOk 1)&&roomOk (G3 rows+G3 (V4 T)) 1,.ref (.vec 4 2),[b0,b1,.var T,.vec (ZO y) 0 1,.vec (rows++[Hl 1 (Hb 0 T),Hl 1 v14,Hl 1 (Hb 1 v14),Hl 1 v6,Hl 1 (Hb 1 v6),Hl 1 v7,Hl 1 (Hb 1 v7),Hl 1 v2,Hl 1 (Hb 1 v2),Hl 1 v8,Hl 1 (Hb 1 v8),Hl 1 v3,Hl 1 (Hb 1 v3),Hl 1 v9,Hl 1 (Hb 1 v9),Hl 1 v0,Hl 1 (Hb 1 v0),Hl 1 v10,Hl 1 (Hb 1 v10),Hl 1 v4,Hl 1 (Hb 1 v4),Hl 1 v11,Hl 1 (Hb 1 v11),Hl 1 v1,Hl 1 (Hb 1 v1),Hl 1 v12,Hl 1 (Hb 1 v12),Hl 1 v5,Hl 1 (Hb 1 v5),Hl 1 v13,Hl 1 (Hb 1 v13),Hl 1 (Hb 1 (Hb 1 v13))]) 2 1])) (some (true,Jd (.vec 4 2),(zaS b0 b1 T y rows' 2))) from(by subst v14 v6 v7 v2 v8 v3 v9 v0 v10 v4 v11 v1 v12 v5 v13;first|(simp only[cond_true,cond_false];done)|first|assumption|rfl)) .n)))
abbrev Vr:D:=(.ref (.vec 4 3))
theorem cdA_1{H:List Blk}{b0:Blk}{b1:Blk}{T:List D}{y:D}{rows rows':List (List D)}(ha:builtinD GV (zaS b0 b1 T y rows 2) .append [23,23] [.ref (.vec 4 2),y]=some (true,Jd (.vec 4 3),(zaS b0 b1 T y rows' 3))):(CW GV Γ0 H false (sub IE 1) (Cx b0 b1 T y rows 2 1) .normal (Cx b0 b1 T y rows' 3 2)):=by
 exact zx Vs [.b true,.oh 33 Vr (zaS b0 b1 T y rows' 3)] (.c (show Qd (1<2)=true from rfl) (.c (show inR 1 (G3 (ZO y))=true from rfl) (.c (show @Eq (Option (Bool×D×List Blk)) (builtinD GV (zaS b0 b1 T y rows 2) Builtin.append [23,23] (GU (evalD Γ0 (mkT 36 0 [(2,nq),(6,.ref (.vec 4 2)),(8,y),(zbz 25),(26,int 2),(27,int 1),(28,bool (Qd (1<2))),(29,.ref (.vp 3 0 1 0)),(30,y),(31,.ref (.vec 4 2)),(32,y)])) [Jq 31,Jq 32])) (some (true,Jd (.vec 4 3),(zaS b0 b1 T y rows' 3))) from(by first|assumption|rfl)) .n)))
abbrev Xi:List D:=mkT 36 0 [(2,bD),(6,.ref (.vec 4 3))]
theorem cdA_2{H:List Blk}{b0:Blk}{b1:Blk}{T:List D}{y:D}{rows:List (List D)}:(CW GV Γ0 H false (sub IE 1) (Cx b0 b1 T y rows 3 2) (.exit 2) {t:=Xi,h:=(zaS b0 b1 T y rows 3),m:=[]}):=by
 exact zx [.st (.mask [2,6])] [.b false] (.c (show Qd (2<2)=false from rfl) .n)
theorem Cy:∀l:List (BitVec 8),chunk 1 l.length (l.map w8)=l.map byV
 | []=>rfl
 | b::l=>by
  simp only[List.length_cons,Il,chunk,List.take_succ_cons,List.take_zero,List.drop_succ_cons,IW,Cy l]
theorem sV{hp:List Blk}{b:Nat}{t:List (BitVec 8)}(hb:hp[b]? = some (.var (t.map w8)))(ht:t.length=32):rowsD hp (.ref (.av b 0 32 1))=some (t.map byV):=by
 simp only[rowsD,hb,IW,←ht,Cy]
theorem BE{hp:List Blk}:rowsD hp bD=some (([]:List (BitVec 8)).map byV):=rfl
theorem uS{hp:List Blk}{k e:Nat}{a l:List (BitVec 8)}{x:D}(hk:hp[k]? = some (.vec (a.map byV) e 1))(hx:rowsD hp x=some (l.map byV))(hr:a.length+l.length≤1000000000000):
  builtinD GV hp .append [23,23] [.ref (.vec k e),x]=some (true,Jd (.vec k (e+1)),hp.set k (.vec ((a++l).map byV) (e+1) 1)):=by
 have e1:cn GV 23=some 5:=by kernel_rfl
 have e2:GV.underlying 23=some (.slice 5):=by kernel_rfl
 have e3:szOf GV 5=some 1:=by kernel_rfl
 have e4:bytesOf GV 5=some 1:=by kernel_rfl
 have e5:cP GV 5=some [lit (.int .u8 0)]:=by kernel_rfl
 have e6:(l.map byV).all (rowOk 1)=true:=by
  rw[Hs];intro x hx;obtain⟨b,_,rfl⟩:=HS.1 hx;rfl
 have e7:roomOk ((a.map byV).length+(l.map byV).length) 1=true:=by
  simp only[roomOk,HW,G6,decide_eq_true_eq];omega
 have e8:isIntT (.slice 5)=false:=rfl
 simp only[builtinD,ow,e1,e2,e8,Bool.false_eq_true,if_false,e3,e4,e5,hx,Ju,if_true,hk,and_self,e6,e7,Bool.and_true,HK]
abbrev caH(b0 b1:Blk)(T:List D)(y:D):List Blk:=(za5 b0 b1 T y)
abbrev caG(b0 b1:Blk)(T:List D)(y:D)(x:Blk):List Blk:=[b0,b1,.var T,.vec (ZO y) 0 1,x]
noncomputable abbrev zn(b0:Blk)(b1:Blk)(T:List D)(y:D):List Blk:=(zaS b0 b1 T y [] 1)
abbrev Yh(a b:D)(c:List Blk):AS:={t:=mkT 36 0 [(zbz 0),(2,a),(3,b)],h:=c,m:=[]}
abbrev VQ(a:Nat):D:=(.ref (.vec a 1))
abbrev zcz(a:AS)(b c:List Blk):List Ans:=[.sum [0,2,3,9,10,11] (HJ 0) a,.call (VQ 4) (b),.sum [2,6,25,26,27] (HJ 2) {t:=mkT 36 0 [(2,nq),(6,.ref (.vec 4 3))],h:=c,m:=[]}]
theorem catA_a{b0 b1:Blk}{T:List D}{y:D}{n:Int}{rows:List (List D)}
  (h0:CW GV Γ0 (caH b0 b1 T y) false (.loop (sub IE 0)) (Cw b0 b1 T y 0 0) (.exit 0) (Yh bD (int n) (caH b0 b1 T y)))
  (hg:Ev GV Γ0 76 [bD,int n] (caH b0 b1 T y) (VQ 4) (caG b0 b1 T y (.vec [] 1 1)))
  (h1:CW GV Γ0 (caH b0 b1 T y) false (.loop (sub IE 1)) (Cx b0 b1 T y [] 1 0) (.exit 2) {t:=Xi,h:=caG b0 b1 T y (.vec rows 3 1),m:=[]}):(Ev GV Γ0 43 X8 (caH b0 b1 T y) Vr (caG b0 b1 T y (.vec rows 3 1))):=by
 have hl0:=(@h0)
 have hl1:=(@h1)
 exact HU (Jj (h':=(zaS b0 b1 T y rows 3)) (d:=.ref (.vec 4 3)) pok (zcz {t:=mkT 36 0 [YQ,(2,nq),(3,int n)],h:=(za5 b0 b1 T y),m:=[]} (zn b0 b1 T y) (zaS b0 b1 T y rows 3)) (by kernel_rfl) (.c hl0 (.c (@hg) (.c hl1 .n)))) (by rfl) (by rfl)
theorem cc_l{b0 b1:Blk}{t:List (BitVec 8)}{y:D}{m:Nat}(hm:m≤100000000000)(hl:jb GV (caH b0 b1 (t.map w8) y) 23 y=some (int m)):
  CW GV Γ0 (caH b0 b1 (t.map w8) y) false (.loop (sub IE 0)) (Cw b0 b1 (t.map w8) y 0 0) (.exit 0) (Yh bD (int (32+m:Nat)) (caH b0 b1 (t.map w8) y)):=by
 have w0:GY.wrap (0+(32:Nat))=32:=by rw[wrap_i64 (by omega) (by omega)];omega
 have w1:GY.wrap (32+(m:Int))=((32+m:Nat):Int):=by rw[wrap_i64 (by omega) (by omega)];omega
 have h0:=Jb (P:=GV) (Γ:=Γ0) (h0:=caH b0 b1 (t.map w8) y) (rd:=false) (c:=sub IE 0) 2 (fun i=>Cw b0 b1 (t.map w8) y (match i with|0=>0|1=>32|_=>((32+m:Nat):Int)) (i:Int)) (e:=.exit 0) (by simp) (fun i hi=>?_) (ccA_2 (H:=caH b0 b1 (t.map w8) y) (n:=((32+m:Nat):Int)))
 ·exact h0
 ·have:i=0∨i=1:=by omega
  rcases this with rfl|rfl
  ·exact ccA_0 (n:=0) (m:=32) (r:=32) (by kernel_rfl) w0 (by show Qd (GY.wrap (0+(32:Nat))<0)=false;rw[w0];rfl)
  ·exact ccA_1 (n:=32) (m:=m) (r:=((32+m:Nat):Int)) (by simp only[builtinD,hl,HD,keep]) w1 (by rw[w1];simp;omega)
theorem cd_l{b0 b1:Blk}{t l:List (BitVec 8)}{y:D}(ht:t.length=32)(hl:l.length≤100000000000)(hy:∀hp:List Blk,rowsD hp y=some (l.map byV)):
  CW GV Γ0 (caH b0 b1 (t.map w8) y) false (.loop (sub IE 1)) (Cx b0 b1 (t.map w8) y [] 1 0) (.exit 2) {t:=Xi,h:=caG b0 b1 (t.map w8) y (.vec ((t++l).map byV) 3 1),m:=[]}:=by
 have h0:=Jb (P:=GV) (Γ:=Γ0) (h0:=caH b0 b1 (t.map w8) y) (rd:=false) (c:=sub IE 1) 2 (fun i=>Cx b0 b1 (t.map w8) y (match i with|0=>[]|1=>t.map byV|_=>(t++l).map byV) (i+1) (i:Int)) (e:=.exit 2) (by simp) (fun i hi=>?_) (cdA_2 (H:=caH b0 b1 (t.map w8) y) (y:=y) (rows:=(t++l).map byV))
 ·exact h0
 ·have:i=0∨i=1:=by omega
  rcases this with rfl|rfl
  ·exact cdA_0 (uS (a:=[]) (l:=t) rfl (sV rfl ht) (by simp[ht]))
  ·exact cdA_1 (uS (a:=t) (l:=l) rfl (hy _) (by omega))
theorem BF{b0 b1:Blk}{t l:List (BitVec 8)}{y:D}(hm0:gh b0=false)(hm1:gh b1=false)(ht:t.length=32)(hl:l.length≤100000000000)(hlen:∀hp:List Blk,jb GV hp 23 y=some (int (l.length:Int)))(hy:∀hp:List Blk,rowsD hp y=some (l.map byV)):
  Ev GV Γ0 43 X8 (caH b0 b1 (t.map w8) y) Vr (caG b0 b1 (t.map w8) y (.vec ((t++l).map byV) 3 1)):=by
 refine catA_a (cc_l hl (hlen _)) ?_ (cd_l ht hl hy)
 exact HU (Ev.frameN (zm (n:=32+l.length) (by omega) (by omega)) rfl rfl (caH b0 b1 (t.map w8) y)) rfl rfl
theorem zo{z k:List (BitVec 8)}{t l:List (BitVec 8)}{y:D}(ht:t.length=32)(hl:l.length≤100000000000)(hlen:∀hp:List Blk,jb GV hp 23 y=some (int (l.length:Int)))(hy:∀hp:List Blk,rowsD hp y=some (l.map byV))(hm:∀f,D.mapR f y=y):
  Ev GV Γ0 43 X8 (caH (.var (z.map w8)) (.vec (k.map byV) 0 1) (t.map w8) y) (byD (t++l)) (caG (.var (z.map w8)) (.vec (k.map byV) 0 1) (t.map w8) y .gone):=by
 have h1:=Ev.post (d2:=byD (t++l)) (h2:=[.var (HP (qD 4 3 ((t++l).map byR)) (z.map w8)),.vec (k.map byV) 0 1,.var (HP (qD 4 3 ((t++l).map byR)) (t.map w8)),.vec (ZO y) 0 1,.gone]) (φ:=[(t++l).map byV=(V1 (t++l)),(k.map byV).map (HP (qD 4 3 ((t++l).map byR)))=k.map byV,[[Jd Qk],[y]].map (HP (qD 4 3 ((t++l).map byR)))=[[Jd Qk],[y]]]) [.st (.frz 4 ((t++l).map byR))] (BF (b0:=.var (z.map w8)) (b1:=.vec (k.map byV) 0 1) rfl rfl ht hl hlen hy) rfl ⟨hfz,?_,?_,trivial⟩
 ·rw[cN,cN] at h1
  exact h1
 ·rw[Jz];rfl
 ·simp only[Il,List.map_nil,HP,hm]
  rfl
noncomputable abbrev uT(b:List (BitVec 8))(d1:List (BitVec 8))(z:List D)(tv:List (List D)):List Blk:=[.var z,.vec tv 0 1,.var (GU w8 d1),.vec (ZO (aa (GU byR b))) 0 1,.gone]
abbrev QP:D:=(.ref (.ptr 2 0))
abbrev Y3(a:List D)(b:List (List D))(c:List D):List Blk:=[.var a,.vec b 0 1,.var c]
abbrev Xv(a:Nat):List D:=[.ref (.vec a 0)]
abbrev WD(a:List D)(b:List (List D)):List Blk:=[.var a,.vec b 0 1]
abbrev zaa:D:=(.ref (.vec 1 0))
abbrev zax(a:List D)(c:List (List D))(d:List (BitVec 8))(e:List (List D)):List Blk:=[.var a,.vec c 0 1,.var (d.map w8),.vec e 0 1,.gone]
abbrev zbC(a:List D)(c:List (List D))(d e:List (BitVec 8))(f:List Blk)(g:List (BitVec 8))(h:List (List D)):List Ans:=[.oh 4 ZK [.var a],.ox 7 zaa (WD a c),.val (WP d),.oh 5 QP (Y3 a c a),.oh 10005 IM (Y3 a c (GU w8 d)),.call (aa (GU byR e)) (f),.val (Hc (GU w8 g)),.oh 10004 IM [.var (GU w8 g),.vec c 0 1,.var (GU w8 d),.vec h 0 1,.gone]]
abbrev zbL(a:ByteArray)(c:D)(d e f:List (BitVec 8)):D:=(evalD Γd [ad a,c,IM,IM,.ref (.ptr 0 0),.ref (.ptr 2 0),ad a,.ref (.vec 1 0),Hc (GU w8 d),.ref Qk,c,.ref (.vec 3 0),aa (GU byR e),Hc (GU w8 f)] (Jq 13))
theorem tag_b{s:ByteArray}{b:List (BitVec 8)}{l d1 d2:List (BitVec 8)}{z:List D}{tv:List (List D)}
  (hal1:bg GV [] 51 ZK [.var z])
  (hcv:cb GV [.var z] 9 23 (ad s)=some (.ref (.vec 1 0),(WD z tv)))
  (hs1:Ev GV Γd 42 (Xv 1) (WD z tv) (cO d1) (WD z tv))
  (hal2:bg GV (WD z tv) 51 QP (Y3 z tv z))
  (hst:aw GV (Y3 z tv z) 51 QP (cO d1)=some (Y3 z tv (d1.map w8)))
  (hcat:Ev GV Γd 43 X8 [.var z,.vec tv 0 1,.var (d1.map w8),.vec (ZO (byD b)) 0 1] (byD l) (zax z tv d1 (ZO (byD b))))
  (hs2:Ev GV Γd 42 [byD l] (zax z tv d1 (ZO (byD b))) (cO d2) (zax z tv d1 (ZO (byD b))))
  (hst2:aw GV (zax z tv d1 (ZO (byD b))) 51 ZK (cO d2)=some (zax (d2.map w8) tv d1 (ZO (byD b)))):(CW GV Γd [] false (ap KQ) {t:=ba KQ [ad s,byD b],h:=[],m:=[]} .ret {t:=mkT 14 0 [ZM],h:=(zax (d2.map w8) tv d1 (ZO (byD b))),m:=[]}):=by
 let v0:List Blk:=[.var (GU w8 d2),.vec tv 0 1,.var (GU w8 d1),.vec (ZO (aa (GU byR b))) 0 1,.gone]
 refine zx XL (zbC z tv d1 l (uT b d1 z tv) d2 (ZO (byD b))) (.c (show bg GV [] 51 ZK [.var z] from ?_) (.c (show CvIs GV [.var z] 9 23 (ad s) zaa (WD z tv) from ?_) (.c (@hs1) (.c (show bg GV (WD z tv) 51 QP (Y3 z tv z) from ?_) (.c (show @Eq (Option (List Blk)) (aw GV (Y3 z tv z) 51 QP (WP d1)) (some (Y3 z tv (GU w8 d1))) from ?_) (.c (show co 0 (↑32:Int) 32=true from rfl) (.c (@hcat) (.c (@hs2) (.c (show @Eq (Option (List Blk)) (aw GV (uT b d1 z tv) 51 ZK (zbL s (aa (GU byR b)) d1 l d2)) (some v0) from ?_) .n)))))))))<;>subst v0<;>(first|assumption|exact⟨.inl hcv⟩|rfl)
noncomputable abbrev uU(d1:List (BitVec 8))(z:List D)(tv:List (List D)):List Blk:=[.var z,.vec tv 0 1,.var (GU w8 d1),.vec (ZO nq) 0 1,.gone]
theorem tag_n{s:ByteArray}{l d1 d2:List (BitVec 8)}{z:List D}{tv:List (List D)}
  (hal1:bg GV [] 51 ZK [.var z])
  (hcv:cb GV [.var z] 9 23 (ad s)=some (.ref (.vec 1 0),(WD z tv)))
  (hs1:Ev GV Γd 42 (Xv 1) (WD z tv) (cO d1) (WD z tv))
  (hal2:bg GV (WD z tv) 51 QP (Y3 z tv z))
  (hst:aw GV (Y3 z tv z) 51 QP (cO d1)=some (Y3 z tv (d1.map w8)))
  (hcat:Ev GV Γd 43 X8 (za5 (.var z) (.vec tv 0 1) (d1.map w8) bD) (byD l) (zax z tv d1 (ZO bD)))
  (hs2:Ev GV Γd 42 [byD l] (zax z tv d1 (ZO bD)) (cO d2) (zax z tv d1 (ZO bD)))
  (hst2:aw GV (zax z tv d1 (ZO bD)) 51 ZK (cO d2)=some (zax (d2.map w8) tv d1 (ZO bD))):(CW GV Γd [] false (ap KQ) {t:=ba KQ [ad s,bD],h:=[],m:=[]} .ret {t:=mkT 14 0 [ZM],h:=(zax (d2.map w8) tv d1 (ZO bD)),m:=[]}):=by
 let v0:List Blk:=[.var (GU w8 d2),.vec tv 0 1,.var (GU w8 d1),.vec (ZO nq) 0 1,.gone]
 refine zx XL (zbC z tv d1 l (uU d1 z tv) d2 (ZO bD)) (.c (show bg GV [] 51 ZK [.var z] from ?_) (.c (show CvIs GV [.var z] 9 23 (ad s) zaa (WD z tv) from ?_) (.c (@hs1) (.c (show bg GV (WD z tv) 51 QP (Y3 z tv z) from ?_) (.c (show @Eq (Option (List Blk)) (aw GV (Y3 z tv z) 51 QP (WP d1)) (some (Y3 z tv (GU w8 d1))) from ?_) (.c (show co 0 (↑32:Int) 32=true from rfl) (.c (@hcat) (.c (@hs2) (.c (show @Eq (Option (List Blk)) (aw GV (uU d1 z tv) 51 ZK (zbL s nq d1 l d2)) (some v0) from ?_) .n)))))))))<;>subst v0<;>(first|assumption|exact⟨.inl hcv⟩|rfl)
def dP(s:ByteArray):List (BitVec 8):=s.data.toList.map UInt8.toBitVec
theorem jZ(s:ByteArray):cG s=(dP s).map byV:=by
 unfold cG dP;rw[Jz];rfl
theorem wl(h:List Blk):bg GV h 51 (.ref (.ptr h.length 0)) (h++(Yi zb32)):=by
 have e:cP GV 51=some (zb32.map w8):=by kernel_rfl
 simp only[bg,opSem,e,HD,eW]
theorem Cz{s:ByteArray}{h:List Blk}:cb GV h 9 23 (ad s)=some (.ref (.vec h.length 0),h++(Qs (dP s) 0)):=by
 have e1:GV.underlying 9=some .string:=by kernel_rfl
 have e2:cn GV 23=some 5:=by kernel_rfl
 have e3:u8T GV 5=true:=by kernel_rfl
 simp only[cb,e1,e2,e3,jZ]
theorem j0{hp:List Blk}{k:Nat}{a l:List (BitVec 8)}(hk:hp[k]? = some (.var (a.map w8)))(ha:a.length=32)(hl:l.length=32):aw GV hp 51 (.ref (.ptr k 0)) (cO l)=some (hp.set k (.var (l.map w8))):=by
 have e2:szOf GV 51=some 32:=by kernel_rfl
 have e3:(l.map w8).length=32:=by simp[hl]
 have e3':(a.map w8).length=32:=by simp[ha]
 have e4:KL (.agg (l.map w8))=some (l.map w8):=by simp only[KL,zk,if_true]
 have e5:aF (a.map w8) 0 (l.map w8)=l.map w8:=by simp[aF,ha,hl]
 simp only[aw,e4,e2,e3,if_true,hk,Nat.zero_add,e3',Nat.le_refl,e5]
theorem rI{hp:List Blk}{k:Nat}{l:List (BitVec 8)}(hk:hp[k]? = some (.var (l.map w8)))(hl:l.length=32):aD GV hp 51 (.ref (.ptr k 0))=some (cO l):=by
 have e1:wr GV 51=some true:=by kernel_rfl
 have e2:szOf GV 51=some 32:=by kernel_rfl
 have e3:32≤(l.map w8).length:=by simp[hl]
 have e4:(l.map w8).take 32=l.map w8:=List.take_of_length_le (by simp[hl])
 simp only[aD,hk,cm,e1,e2,IW,e3,if_true,e4]
def wx(t b:List (BitVec 8)):List (BitVec 8):=wj (wj t++b)
theorem kO(t b:List (BitVec 8)):(wx t b).length=32:=iY _
theorem ge:zb32.length=32:=by simp[zb32]
theorem CA{l:List (BitVec 8)}{args:List D}{H:List Blk}(hl:l.length=32)(ha:D.innL 0 args=true)(hw:CW GV Γd [] false (ap KQ) {t:=ba KQ args,h:=[],m:=[]} .ret {t:=mkT 14 0 [ZM],h:=.var (l.map w8)::H,m:=[]})(h:List Blk):
  Ev GV Γd 27 args h (cO l) h:=by
 have hfn:GV.funcs[27]? = some KQ:=by kernel_rfl
 refine Ev.of_cw0 (ds:=[cO l]) hfn (by kernel_rfl) hw (.inr rfl) rfl ?_ rfl ha sU h
 have e1:KQ.results.toList=[.cell 4 51]:=by kernel_rfl
 rw[e1]
 have e2:=rI (hp:=.var (l.map w8)::H) (k:=0) (l:=l) rfl hl
 have e3:(mkT 14 0 [(4,Jd (.ptr 0 0))]).getD 4 .any=.ref (.ptr 0 0):=rfl
 simp only[aR,fo,e3,e2]
theorem len_by(b:List (BitVec 8))(hp:List Blk):jb GV hp 23 (byD b)=some (int (b.length:Int)):=by
 have e1:GV.underlying 23=some (.slice 5):=by kernel_rfl
 simp only[jb,e1,lenD,HD,HW]
abbrev Wx(a:ByteArray):List Blk:=[.var (zb32.map w8),.vec ((dP a).map byV) 0 1]
theorem CB{s:ByteArray}:Ev GV Γd 42 (Xv 1) (Wx s) (cO (wj (dP s))) (Wx s):=F8 rfl
theorem rJ{s:ByteArray}{b:List (BitVec 8)}(hb:b.length≤100000000000)(h:List Blk):Ev GV Γd 27 [ad s,byD b] h (cO (wx (dP s) b)) h:=by
 have h1:=CB (s:=s)
 have hs1:=iY (dP s)
 unfold wx
 generalize hd1:wj (dP s)=d1 at h1 hs1
 have hs2:=iY (d1++b)
 have h2 (H:List Blk):Ev GV Γd 42 [byD (d1++b)] H (cO (wj (d1++b))) H:=zl H
 generalize wj (d1++b)=d2 at hs2 h2
 refine CA hs2 rfl (tag_b (l:=d1++b) (d1:=d1) (d2:=d2) (z:=zb32.map w8) (tv:=(dP s).map byV) (wl []) (Cz (h:=(Yi zb32))) h1 (wl (Wx s)) (j0 (k:=2) (a:=zb32) rfl ge hs1) ?_ (h2 _) (j0 (k:=0) (a:=zb32) rfl ge hs2)) h
 exact(zo hs1 hb (len_by b) (fun _=>zf b) (fun _=>rfl)).glob0
theorem wm{s:ByteArray}(h:List Blk):Ev GV Γd 27 [ad s,bD] h (cO (wx (dP s) [])) h:=by
 have h1:=CB (s:=s)
 have hs1:=iY (dP s)
 unfold wx
 generalize hd1:wj (dP s)=d1 at h1 hs1
 have hs2:=iY (d1++[])
 have h2 (H:List Blk):Ev GV Γd 42 [byD (d1++[])] H (cO (wj (d1++[]))) H:=zl H
 generalize wj (d1++[])=d2 at hs2 h2
 refine CA hs2 rfl (tag_n (l:=d1++[]) (d1:=d1) (d2:=d2) (z:=zb32.map w8) (tv:=(dP s).map byV) (wl []) (Cz (h:=(Yi zb32))) h1 (wl (Wx s)) (j0 (k:=2) (a:=zb32) rfl ge hs1) ?_ (h2 _) (j0 (k:=0) (a:=zb32) rfl ge hs2)) h
 have hlen:∀hp:List Blk,jb GV hp 23 bD=some (int ((([]:List (BitVec 8)).length:Nat):Int)):=by
  intro hp
  have e1:GV.underlying 23=some (.slice 5):=by kernel_rfl
  simp only[jb,e1,lenD,HD,List.length_nil]
 exact(zo hs1 (by simp) hlen (fun _=>BE) (fun _=>rfl)).glob0
abbrev ZI:List (List D):=[[.ref (.av 0 0 32 1)],[.ref (.av 1 0 32 1)]]
abbrev za4(a b c:List D):List Blk:=[.var a,.var b,.var c,.vec ZI 0 1]
abbrev CC(T:List D)(U:List D)(Z:List D)(n i:Int):AS:={t:=(QS bD n i),h:=(za4 T U Z),m:=[]}
abbrev QJ(a:D)(b c:Int)(d:List Blk):AS:={t:=mkT 36 0 [(zbz 0),(2,a),(3,int b),(zbz 9),(10,int 2),(11,int c)],h:=d,m:=[]}
abbrev QV:Ref:=(.av 0 0 32 1)
theorem ccB_0{H:List Blk}{T:List D}{U:List D}{Z:List D}{n m r:Int}(hl:builtinD GV (za4 T U Z) .len [23] [.ref QV]=some (true,int m,(za4 T U Z)))(hw:GY.wrap (n+m)=r)(hneg:Qd (GY.wrap (n+m)<0)=false):(CW GV Γ0 H false (sub IE 0) (CC T U Z n 0) .normal (CC T U Z r 1)):=by
 let v0:List Blk:=(za4 T U Z)
 refine zX (QJ nq (G1 GY (n+m)) (G1 GY (0+1)) v0) Hz Vj (Vx m) (.c (show Qd (0<2)=true from rfl) (.c (show inR 0 (G3 (α:=List D) ZI)=true from rfl) (.c (show @Eq (Option (Bool×D×List Blk)) (some (true,int (↑32:Int),v0)) (some (true,int m,v0)) from(by subst v0;first|(simp only[hneg,cond_true,cond_false];done)|first|assumption|rfl)) (.c hneg .n)))) ?_ ?_<;>subst v0<;>(first|rfl|(simp only[hw]<;>rfl))
abbrev QW:Ref:=(.av 1 0 32 1)
theorem ccB_1{H:List Blk}{T:List D}{U:List D}{Z:List D}{n m r:Int}(hl:builtinD GV (za4 T U Z) .len [23] [.ref QW]=some (true,int m,(za4 T U Z)))(hw:GY.wrap (n+m)=r)(hneg:Qd (GY.wrap (n+m)<0)=false):(CW GV Γ0 H false (sub IE 0) (CC T U Z n 1) .normal (CC T U Z r 2)):=by
 let v0:List Blk:=(za4 T U Z)
 refine zX (QJ nq (G1 GY (n+m)) (G1 GY (1+1)) v0) Hz Vj (Vx m) (.c (show Qd (1<2)=true from rfl) (.c (show inR 1 (G3 (α:=List D) ZI)=true from rfl) (.c (show @Eq (Option (Bool×D×List Blk)) (some (true,int (↑32:Int),v0)) (some (true,int m,v0)) from(by subst v0;first|(simp only[hneg,cond_true,cond_false];done)|first|assumption|rfl)) (.c hneg .n)))) ?_ ?_<;>subst v0<;>(first|rfl|(simp only[hw]<;>rfl))
theorem ccB_2{H:List Blk}{T:List D}{U:List D}{Z:List D}{n:Int}:(CW GV Γ0 H false (sub IE 0) (CC T U Z n 2) (.exit 0) {t:=mkT 36 0 [YQ,(2,bD),(3,int n)],h:=(za4 T U Z),m:=[]}):=by
 exact zx [.st (.mask [0,2,3])] [.b false] (.c (show Qd (2<2)=false from rfl) .n)
abbrev zbe(a b c:List D)(d:List (List D))(f:Nat):List Blk:=[.var a,.var b,.var c,.vec ZI 0 1,.vec d f 1]
abbrev CD(T:List D)(U:List D)(Z:List D)(rows:List (List D))(e:Nat)(i:Int):AS:={t:=(VV e i),h:=(zbe T U Z rows e),m:=[]}
theorem cdB_0{H:List Blk}{T:List D}{U:List D}{Z:List D}{rows rows':List (List D)}(ha:builtinD GV (zbe T U Z rows 1) .append [23,23] [.ref (.vec 4 1),.ref QV]=some (true,Jd (.vec 4 2),[.var T,.var U,.var Z,.vec ZI 0 1,.vec rows' 2 1])):(CW GV Γ0 H false (sub IE 1) (CD T U Z rows 1 0) .normal (CD T U Z rows' 2 1)):=by
 let v7:List Blk:=[.var T,.var U,.var Z,.vec ZI 0 1,.vec rows' 2 1]
 let v15:=Hb 1 (Hb 0 T)
 let v6:=Hb 1 (Hb 1 v15)
 let v8:=Hb 1 (Hb 1 v6)
 let v2:=Hb 1 (Hb 1 v8)
 let v9:=Hb 1 (Hb 1 v2)
 let v3:=Hb 1 (Hb 1 v9)
 let v10:=Hb 1 (Hb 1 v3)
 let v0:=Hb 1 (Hb 1 v10)
 let v11:=Hb 1 (Hb 1 v0)
 let v4:=Hb 1 (Hb 1 v11)
 let v12:=Hb 1 (Hb 1 v4)
 let v1:=Hb 1 (Hb 1 v12)
 let v13:=Hb 1 (Hb 1 v1)
 let v5:=Hb 1 (Hb 1 v13)
 let v14:=Hb 1 (Hb 1 v5)
 exact zx Vs [.b true,.oh 33 (.ref (.vec 4 2)) v7] (.c (show Qd (0<2)=true from rfl) (.c (show inR 0 (G3 (α:=List D) ZI)=true from rfl) (.c (show @Eq (Option (Bool×D×List Blk)) (some (Ia (V4 T) (rowOk 1)&&roomOk (G3 rows+G3 (V4 T)) 1,.ref (.vec 4 2),[.var T,.var U,.var Z,.vec ZI 0 1,.vec (rows++[Hl 1 (Hb 0 T),Hl 1 v15,Hl 1 (Hb 1 v15),Hl 1 v6,Hl 1 (Hb 1 v6),Hl 1 v8,Hl 1 (Hb 1 v8),Hl 1 v2,Hl 1 (Hb 1 v2),Hl 1 v9,Hl 1 (Hb 1 v9),Hl 1 v3,Hl 1 (Hb 1 v3),Hl 1 v10,Hl 1 (Hb 1 v10),Hl 1 v0,Hl 1 (Hb 1 v0),Hl 1 v11,Hl 1 (Hb 1 v11),Hl 1 v4,Hl 1 (Hb 1 v4),Hl 1 v12,Hl 1 (Hb 1 v12),Hl 1 v1,Hl 1 (Hb 1 v1),Hl 1 v13,Hl 1 (Hb 1 v13),Hl 1 v5,Hl 1 (Hb 1 v5),Hl 1 v14,Hl 1 (Hb 1 v14),Hl 1 (Hb 1 (Hb 1 v14))]) 2 1])) (some (true,Jd (.vec 4 2),v7)) from(by subst v7 v15 v6 v8 v2 v9 v3 v10 v0 v11 v4 v12 v1 v13 v5 v14;first|(simp only[cond_true,cond_false];done)|first|assumption|rfl)) .n)))
theorem cdB_1{H:List Blk}{T:List D}{U:List D}{Z:List D}{rows rows':List (List D)}(ha:builtinD GV (zbe T U Z rows 2) .append [23,23] [.ref (.vec 4 2),.ref QW]=some (true,Jd (.vec 4 3),(zbe T U Z rows' 3))):(CW GV Γ0 H false (sub IE 1) (CD T U Z rows 2 1) .normal (CD T U Z rows' 3 2)):=by
 let v7:List Blk:=(zbe T U Z rows' 3)
 let v15:=Hb 1 (Hb 0 U)
 let v6:=Hb 1 (Hb 1 v15)
 let v8:=Hb 1 (Hb 1 v6)
 let v2:=Hb 1 (Hb 1 v8)
 let v9:=Hb 1 (Hb 1 v2)
 let v3:=Hb 1 (Hb 1 v9)
 let v10:=Hb 1 (Hb 1 v3)
 let v0:=Hb 1 (Hb 1 v10)
 let v11:=Hb 1 (Hb 1 v0)
 let v4:=Hb 1 (Hb 1 v11)
 let v12:=Hb 1 (Hb 1 v4)
 let v1:=Hb 1 (Hb 1 v12)
 let v13:=Hb 1 (Hb 1 v1)
 let v5:=Hb 1 (Hb 1 v13)
 let v14:=Hb 1 (Hb 1 v5)
 exact zx Vs [.b true,.oh 33 Vr v7] (.c (show Qd (1<2)=true from rfl) (.c (show inR 1 (G3 (α:=List D) ZI)=true from rfl) (.c (show @Eq (Option (Bool×D×List Blk)) (some (Ia (V4 U) (rowOk 1)&&roomOk (G3 rows+G3 (V4 U)) 1,.ref (.vec 4 3),[.var T,.var U,.var Z,.vec ZI 0 1,.vec (rows++[Hl 1 (Hb 0 U),Hl 1 v15,Hl 1 (Hb 1 v15),Hl 1 v6,Hl 1 (Hb 1 v6),Hl 1 v8,Hl 1 (Hb 1 v8),Hl 1 v2,Hl 1 (Hb 1 v2),Hl 1 v9,Hl 1 (Hb 1 v9),Hl 1 v3,Hl 1 (Hb 1 v3),Hl 1 v10,Hl 1 (Hb 1 v10),Hl 1 v0,Hl 1 (Hb 1 v0),Hl 1 v11,Hl 1 (Hb 1 v11),Hl 1 v4,Hl 1 (Hb 1 v4),Hl 1 v12,Hl 1 (Hb 1 v12),Hl 1 v1,Hl 1 (Hb 1 v1),Hl 1 v13,Hl 1 (Hb 1 v13),Hl 1 v5,Hl 1 (Hb 1 v5),Hl 1 v14,Hl 1 (Hb 1 v14),Hl 1 (Hb 1 (Hb 1 v14))]) 3 1])) (some (true,Jd (.vec 4 3),v7)) from(by subst v7 v15 v6 v8 v2 v9 v3 v10 v0 v11 v4 v12 v1 v13 v5 v14;first|(simp only[cond_true,cond_false];done)|first|assumption|rfl)) .n)))
theorem cdB_2{H:List Blk}{T:List D}{U:List D}{Z:List D}{rows:List (List D)}:(CW GV Γ0 H false (sub IE 1) (CD T U Z rows 3 2) (.exit 2) {t:=Xi,h:=(zbe T U Z rows 3),m:=[]}):=by
 exact zx [.st (.mask [2,6])] [.b false] (.c (show Qd (2<2)=false from rfl) .n)
abbrev cbH(T U Z:List D):List Blk:=(za4 T U Z)
abbrev cbG(T U Z:List D)(x:Blk):List Blk:=[.var T,.var U,.var Z,.vec ZI 0 1,x]
noncomputable abbrev zp(T:List D)(U:List D)(Z:List D):List Blk:=(zbe T U Z [] 1)
noncomputable abbrev zq(T:List D)(U:List D)(Z:List D):List Blk:=(za4 T U Z)
theorem catB_a{T U Z:List D}{n:Int}{rows:List (List D)}
  (h0:CW GV Γ0 (cbH T U Z) false (.loop (sub IE 0)) (CC T U Z 0 0) (.exit 0) (Yh bD (int n) (cbH T U Z)))
  (hg:Ev GV Γ0 76 [bD,int n] (cbH T U Z) (VQ 4) (cbG T U Z (.vec [] 1 1)))
  (h1:CW GV Γ0 (cbH T U Z) false (.loop (sub IE 1)) (CD T U Z [] 1 0) (.exit 2) {t:=Xi,h:=cbG T U Z (.vec rows 3 1),m:=[]}):(Ev GV Γ0 43 X8 (cbH T U Z) Vr (cbG T U Z (.vec rows 3 1))):=by
 have hl0:=(@h0)
 have hl1:=(@h1)
 let v0:List Blk:=(zbe T U Z rows 3)
 exact HU (Jj (h':=v0) (d:=.ref (.vec 4 3)) pok (zcz (Yh nq (int n) (zq T U Z)) (zp T U Z) v0) (by kernel_rfl) (.c hl0 (.c (@hg) (.c hl1 .n)))) (by rfl) (by rfl)
abbrev Xp(a b c:List (BitVec 8)):List Blk:=cbH (a.map w8) (b.map w8) (c.map w8)
theorem ccB_l{t u z:List (BitVec 8)}:
  CW GV Γ0 (Xp t u z) false (.loop (sub IE 0)) (CC (t.map w8) (u.map w8) (z.map w8) 0 0) (.exit 0) (Yh bD (int 64) (cbH (t.map w8) (u.map w8) (z.map w8))):=by
 have w0:GY.wrap (0+(32:Int))=32:=by rw[wrap_i64 (by omega) (by omega)];omega
 have w1:GY.wrap (32+(32:Int))=64:=by rw[wrap_i64 (by omega) (by omega)];omega
 have h0:=Jb (P:=GV) (Γ:=Γ0) (h0:=(Xp t u z)) (rd:=false) (c:=sub IE 0) 2 (fun i=>CC (t.map w8) (u.map w8) (z.map w8) (match i with|0=>0|1=>32|_=>64) (i:Int)) (e:=.exit 0) (by simp) (fun i hi=>?_) (ccB_2 (H:=(Xp t u z)) (n:=64))
 ·exact h0
 ·have:i=0∨i=1:=by omega
  rcases this with rfl|rfl
  ·exact ccB_0 (n:=0) (m:=32) (r:=32) (by kernel_rfl) w0 (by show Qd (GY.wrap (0+(32:Int))<0)=false;rw[w0];rfl)
  ·exact ccB_1 (n:=32) (m:=32) (r:=64) (by kernel_rfl) w1 (by show Qd (GY.wrap (32+(32:Int))<0)=false;rw[w1];rfl)
theorem cdB_l{t u z:List (BitVec 8)}(ht:t.length=32)(hu:u.length=32):
  CW GV Γ0 (Xp t u z) false (.loop (sub IE 1)) (CD (t.map w8) (u.map w8) (z.map w8) [] 1 0) (.exit 2) {t:=Xi,h:=cbG (t.map w8) (u.map w8) (z.map w8) (.vec ((t++u).map byV) 3 1),m:=[]}:=by
 have h0:=Jb (P:=GV) (Γ:=Γ0) (h0:=(Xp t u z)) (rd:=false) (c:=sub IE 1) 2 (fun i=>CD (t.map w8) (u.map w8) (z.map w8) (match i with|0=>[]|1=>t.map byV|_=>(t++u).map byV) (i+1) (i:Int)) (e:=.exit 2) (by simp) (fun i hi=>?_) (cdB_2 (H:=(Xp t u z)) (rows:=(t++u).map byV))
 ·exact h0
 ·have:i=0∨i=1:=by omega
  rcases this with rfl|rfl
  ·exact cdB_0 (uS (a:=[]) (l:=t) rfl (sV rfl ht) (by simp[ht]))
  ·exact cdB_1 (uS (a:=t) (l:=u) rfl (sV rfl hu) (by omega))
abbrev WA(a b:List (BitVec 8))(c:List D):List Blk:=cbG (a.map w8) (b.map w8) c .gone
theorem F9{t u z:List (BitVec 8)}(ht:t.length=32)(hu:u.length=32):
  Ev GV Γ0 43 X8 (Xp t u z) (byD (t++u)) (WA t u (z.map w8)):=by
 have hv:Ev GV Γ0 43 X8 (Xp t u z) Vr (cbG (t.map w8) (u.map w8) (z.map w8) (.vec ((t++u).map byV) 3 1)) :=
  catB_a (ccB_l (z:=z)) (HU (Ev.frameN (zm (n:=64) (by omega) (by omega)) rfl rfl (Xp t u z)) rfl rfl) (cdB_l ht hu)
 have h1:=Ev.post (d2:=byD (t++u)) (h2:=[.var (HP (qD 4 3 ((t++u).map byR)) (t.map w8)),.var (HP (qD 4 3 ((t++u).map byR)) (u.map w8)),.var (HP (qD 4 3 ((t++u).map byR)) (z.map w8)),.vec ZI 0 1,.gone]) (φ:=[(t++u).map byV=(V1 (t++u)),[[Jd QV],[.ref QW]].map (HP (qD 4 3 ((t++u).map byR)))=[[Jd QV],[.ref QW]]]) [.st (.frz 4 ((t++u).map byR))] hv rfl ⟨hfz,rfl,trivial⟩
 rw[cN,cN,cN] at h1
 exact h1
noncomputable abbrev om(e:List (BitVec 8))(d:List (BitVec 8))(z:List D):List Blk:=[.var (GU w8 e),.var (GU w8 d),.var z,.vec ZI 0 1,.gone]
theorem Ga{e d x:List (BitVec 8)}{z:List D}{l:List (BitVec 8)}
  (hb1:(KL (cO e)).map (eW [])=some (true,Jd (.ptr 0 0),(Yi e)))
  (hb2:(KL (cO d)).map (eW (Yi e))=some (true,Jd (.ptr 1 0),[.var (e.map w8),.var (d.map w8)]))
  (hal:bg GV [.var (e.map w8),.var (d.map w8)] 51 QP [.var (e.map w8),.var (d.map w8),.var z])
  (hcat:Ev GV Γd 43 X8 (cbH (e.map w8) (d.map w8) z) (byD l) (WA e d z))
  (htg:Ev GV Γd 27 [ad "chain".toUTF8,byD l] (WA e d z) (cO x) (WA e d z))
  (hst:aw GV (WA e d z) 51 QP (cO x)=some (WA e d (x.map w8))):(CW GV Γd [] false (ap M7) {t:=ba M7 [cO e,cO d],h:=[],m:=[]} .ret {t:=mkT 10 0 [(4,.ref (.ptr 2 0))],h:=(WA e d (x.map w8)),m:=[]}):=by
 let v0:List Blk:=[.var (GU w8 e),.var (GU w8 d),.var (GU w8 x),.vec ZI 0 1,.gone]
 let v1:List Blk:=[.var (GU w8 e),.var (GU w8 d)]
 refine zx XL [.oh 2 ZK (Wb e),.oh 3 Y5 v1,.oh 4 QP [.var (GU w8 e),.var (GU w8 d),.var z],.call (aa (GU byR l)) (om e d z),.val (WP x),.oh 10004 IM (cbG (GU w8 e) (GU w8 d) (GU w8 x) .gone)] (.c (show @Eq (Option (Bool×D×List Blk)) (KJ (eW []) (KL (Hc (GU w8 e)))) (some (true,Jd (.ptr 0 0),(Wb e))) from ?_) (.c (show @Eq (Option (Bool×D×List Blk)) (KJ (eW (Wb e)) (KL (Hc (GU w8 d)))) (some (true,Jd (.ptr 1 0),v1)) from ?_) (.c (show bg GV v1 51 QP [.var (GU w8 e),.var (GU w8 d),.var z] from ?_) (.c (show co 0 (↑32:Int) 32=true from rfl) (.c (show co 0 (↑32:Int) 32=true from rfl) (.c (@hcat) (.c (@htg) (.c (show @Eq (Option (List Blk)) (aw GV (om e d z) 51 QP (evalD Γd [Hc (GU w8 e),Hc (GU w8 d),.ref (.ptr 0 0),.ref (.ptr 1 0),.ref (.ptr 2 0),.ref QV,.ref QW,.ref (.vec 3 0),aa (GU byR l),Hc (GU w8 x)] (Jq 9))) (some v0) from ?_) (.e (.ref QV) (.e (.ref QW) .n))))))))))<;>subst v0 v1<;>(first|assumption|rfl)
theorem rK{l:List (BitVec 8)}:KL (cO l)=some (l.map w8):=by simp only[KL,zk,if_true]
def rL (e d:List (BitVec 8)):List (BitVec 8):=wx (dP "chain".toUTF8) (e++d)
theorem oq(e d:List (BitVec 8)):(rL e d).length=32:=kO _ _
theorem BG{e d:List (BitVec 8)}(he:e.length=32)(hd:d.length=32)(h:List Blk):Ev GV Γd 29 [cO e,cO d] h (cO (rL e d)) h:=by
 have hlen:=oq e d
 have htg (H:List Blk):Ev GV Γd 27 [ad "chain".toUTF8,byD (e++d)] H (cO (rL e d)) H:=rJ (by simp;omega) H
 generalize rL e d=x at hlen htg
 have hfn:GV.funcs[29]? = some M7:=by kernel_rfl
 have hw:=Ga (e:=e) (d:=d) (x:=x) (z:=zb32.map w8) (l:=e++d) (by rw[rK];rfl) (by rw[rK];rfl) (wl [.var (e.map w8),.var (d.map w8)]) (F9 he hd).glob0 (htg _) (j0 (k:=2) (a:=zb32) rfl ge hlen)
 refine Ev.of_cw0 (ds:=[cO x]) hfn (by kernel_rfl) hw (.inr rfl) rfl ?_ rfl ?_ sU h
 ·have e1:M7.results.toList=[.cell 4 51]:=by kernel_rfl
  rw[e1]
  have e2:=rI (hp:=(WA e d (x.map w8))) (k:=2) (l:=x) rfl hlen
  have e3:(mkT 10 0 [(4,Jd (.ptr 2 0))]).getD 4 .any=.ref (.ptr 2 0):=rfl
  simp only[aR,fo,e3,e2]
 ·simp only[D.innL,D.inn,oj,Lq]
theorem gdq:GLe Γd Γq:=by
 intro g cs h
 unfold Γd at h
 unfold Γq
 split at h<;>first|exact h|simp at h
abbrev dgS(L:List (List Dp))(x:List (BitVec 8))(i:Int):AS:={t:=mkT 36 0 [Zz,(3,int 0),(15,aa L),(16,(XO L)),(17,int i)],h:=(Yi x),m:=[]}
noncomputable abbrev ej(e:EntT)(x:List (BitVec 8)):List Blk:=[.var (GU w8 x),.var (zaw e)]
theorem Gb{L:List (List Dp)}{e:EntT}{i:Nat}{b x y z:List (BitVec 8)}
  (he:af (i:Int) L e.row 31) (hlt:Qd ((i:Int)<(L.length:Int))=true) (hw:GY.wrap ((i:Int)+1)=((i+1:Nat):Int))
  (henc:∀h,Ev GV Γq 28 [ag e.row] h (.tup [byD b,int 0]) h)
  (htg:∀h,Ev GV Γq 27 [ad "entry".toUTF8,byD b] h (cO y) h)
  (hch:∀h,Ev GV Γq 29 [cO x,cO y] h (cO z) h)
  (hld:aD GV [.var (x.map w8),.var (e.row.map .p)] 51 (.ref (.ptr 0 0))=some (cO x))
  (hst:aw GV [.var (x.map w8),.var (e.row.map .p)] 51 (.ref (.ptr 0 0)) (cO z)=some [.var (z.map w8),.var (e.row.map .p)]):(CW GV Γq [] false (sub Kf 0) (dgS L x i) .normal (dgS L z ((i+1:Nat):Int))):=by
 let v1:=GU MeT.row e.sec.mts
 let v2:=GU GrT.row e.sec.grs
 let v3:=GU ab e.sec.labs
 let v4:=GU BuT.row e.req.chs
 let v0:List D:=[int e.time,int e.campus,int e.no,int e.kind,int e.stu,int e.obj,int e.term,int e.val,int e.frm,int e.til,ad e.text,int e.sec.id,int e.sec.course,int e.sec.term,int e.sec.campus,int e.sec.seats,aa v1,aa v2,aa v3,bool e.sec.lab,int e.req.campus,int e.req.no,int e.req.st,int e.req.kind,int e.req.time,aa v4,int e.req.gsec,int e.req.glab,int e.req.key,int e.r,int e.s]
 let v5:List D:=[aa (GU byR b),int 0]
 refine zX {t:=mkT 36 0 [(2,.ref (.ptr 0 0)),(3,int 0),(15,aa L),(16,int (↑(G3 L):Int)),(17,int (G1 GY ((↑i:Int)+1)))],h:=[.var (GU w8 z)],m:=[]} Hz [.st (.mask [2,3,15,16,17]),.st (.trimV 1)] [.b true,.row [vi e.time,vi e.campus,vi e.no,vi e.kind,vi e.stu,vi e.obj,vi e.term,vi e.val,vi e.frm,vi e.til,vs e.text,vi e.sec.id,vi e.sec.course,vi e.sec.term,vi e.sec.campus,vi e.sec.seats,Hj v1,Hj v2,Hj v3,G2 (Ht e.sec.lab),vi e.req.campus,vi e.req.no,vi e.req.st,vi e.req.kind,vi e.req.time,Hj v4,vi e.req.gsec,vi e.req.glab,vi e.req.key,vi e.r,vi e.s],.val (D.tup v5),.b false,.ov 30 (cO x),.val (Hc (GU w8 y)),.val (Hc (GU w8 z)),.oh 10002 IM [.var (GU w8 z),.var (GU Hf (EntT.row e))]] (.c hlt (.c he (.c (@henc (ej e x)) (.c (show(0 != 0)=false from rfl) (.c (show @Eq (Option D) (aD GV (ej e x) 51 (.ref (.ptr 0 0))) (some (Hc (GU w8 x))) from ?_) (.c (@htg (ej e x)) (.c (@hch (ej e x)) (.c (show @Eq (Option (List Blk)) (aw GV (ej e x) 51 (.ref (.ptr 0 0)) (evalD Γq [IM,IM,.ref (.ptr 0 0),int 0,IM,.ref (.ptr 1 0),aa (GU byR b),int 0,IM,IM,IM,IM,IM,IM,IM,aa L,int (↑(G3 L):Int),int (↑i:Int),bool (Qd ((↑i:Int)<(↑(G3 L):Int))),D.ep [vi e.time,vi e.campus,vi e.no,vi e.kind,vi e.stu,vi e.obj,vi e.term,vi e.val,vi e.frm,vi e.til,vs e.text,vi e.sec.id,vi e.sec.course,vi e.sec.term,vi e.sec.campus,vi e.sec.seats,Hj v1,Hj v2,Hj v3,G2 (Ht e.sec.lab),vi e.req.campus,vi e.req.no,vi e.req.st,vi e.req.kind,vi e.req.time,Hj v4,vi e.req.gsec,vi e.req.glab,vi e.req.key,vi e.r,vi e.s],Hc v0,D.tup v5,Hc v0,D.tup v5,aa (GU byR b),int 0,int 0,bool (0 != 0),IM,IM,Hc (GU w8 x),aa (GU byR b),Hc (GU w8 y),Hc (GU w8 z),IM,IM] (Jq 33))) (some [.var (GU w8 z),.var v0]) from ?_) (.c (show @Eq (Option D) (cm GV 51 (Hb 0 (GU w8 x))) (some (Hc (GU w8 x))) from ?_) (.c (show @Eq (Option D) (cm GV 51 (Hb 0 (GU w8 x))) (some (Hc (GU w8 x))) from ?_) (.c (show Ho 1 (.var (GU w8 z))=true from ?_) .n))))))))))) (by subst v1 v2 v3 v4 v0 v5;first|rfl|(simp only[hw]<;>rfl)) (by subst v1 v2 v3 v4 v0 v5;first|rfl|(simp only[hw]<;>rfl))<;>subst v1 v2 v3 v4 v0 v5<;>(first|assumption|rfl|exact oj _)
abbrev zcF:List D:=mkT 36 0 [Zz,(3,int 0)]
abbrev zaX(a:List (BitVec 8)):AS:={t:=zcF,h:=(Yi a),m:=[]}
theorem Gc{L:List (List Dp)}{i:Nat}{x:List (BitVec 8)}(hlt:Qd ((i:Int)<(L.length:Int))=false):(CW GV Γq [] false (sub Kf 0) (dgS L x i) (.exit 0) (zaX x)):=by
 exact zx Vk [.b false] (.c hlt .n)
theorem Gd{x:List (BitVec 8)}(hld:aD GV (Yi x) 51 ZK=some (cO x))
  (hst:aw GV (Yi x) 51 ZK (cO x)=some (Yi x)):(CW GV Γq [] false (cD (ap Kf) 13) (zaX x) .ret (zaX x)):=by
 refine zx Vk [.ov 35 (cO x),.oh 10002 IM (Wb x)] (.c (show @Eq (Option D) (aD GV (Wb x) 51 ZK) (some (WP x)) from ?_) (.c (show @Eq (Option (List Blk)) (aw GV (Wb x) 51 ZK (WP x)) (some (Wb x)) from ?_) .n))<;>(first|assumption|rfl|exact oj _)
theorem dig_a{L:List (List Dp)}{x0 x:List (BitVec 8)}{z:List D}
  (hck:∀h,Ev GV Γq 6 [aa L] h (int 0) h)
  (htg:∀h,Ev GV Γq 27 [ad "ledger".toUTF8,bD] h (cO x0) h)
  (hal:bg GV [] 51 ZK [.var z])
  (hst:aw GV [.var z] 51 ZK (cO x0)=some (Yi x0))
  (hl:CW GV Γq [] false (.loop (sub Kf 0)) (dgS L x0 0) (.exit 0) (zaX x))
  (ht:CW GV Γq [] false (cD (ap Kf) 13) (zaX x) .ret (zaX x)):(CW GV Γq [] false (ap Kf) {t:=ba Kf [aa L],h:=[],m:=[]} .ret (zaX x)):=by
 have hl0:=(@hl)
 have hl1:=(@ht)
 refine zx Vk [.oh 2 ZK [.var z],.val (int 0),.b false,.val (Hc (GU w8 x0)),.oh 10002 IM (Wb x0),.sum [2,3,15,16,17] (HJ 0) {t:=zcF,h:=(Wb x),m:=[]},.ssum [2,3] Exit.ret {t:=zcF,h:=(Wb x)}] (.c (show bg GV [] 51 ZK [.var z] from ?_) (.c (@hck ([.var z])) (.c (show(0 != 0)=false from rfl) (.c (@htg ([.var z])) (.c (show @Eq (Option (List Blk)) (aw GV [.var z] 51 ZK (Hc (GU w8 x0))) (some (Wb x0)) from ?_) (.c hl0 (.c hl1 .n)))))))<;>(first|assumption|rfl|exact oj _)
abbrev zaf(a:List (List Dp)):List Blk:=([.var [aa a]])
theorem ar_few{L O:List (List Dp)}(hsane:∀h,Ev GV Γq 4 [] h (bool true) h)(hf:∀h,Ev GV Γ0 5 [aa L] h (bool false) h)(hc:∀(h:List Blk),False→Ev GV Γq 6 [aa L] h (int 0) h)(h:List Blk):(Ev GV Γq 3 [aa L,aa O] h (bool true) h):=by
 exact z0 [.val (bool true),.b false,.val (bool false),.val (int 0),.b true] (.c (@hsane (zaf L)) (.c (show(!true)=false from rfl) (.c (Hx (Γ':=Γq) (@hf (zaf L))) (.c (show(!(!false||Qd ((↑(G3 O):Int)>20)))=true→Ev GV Γq 6 [aa L] [.var [aa L]] (int 0) [.var [aa L]] from(fun hg=>(@hc (zaf L) (by first|assumption|rfl|(exact absurd hg (by simp)))))) (.c (show(!false||Qd ((↑(G3 O):Int)>20)||0 != 0)=true from rfl) .n))))) h
theorem ar_bad{L O:List (List Dp)}{e:Int}(hsane:∀h,Ev GV Γq 4 [] h (bool true) h)(hf:∀h,Ev GV Γ0 5 [aa L] h (bool true) h)
  (hc:∀h,Ev GV Γq 6 [aa L] h (int e) h) (hb:(!true||Qd ((O.length:Int)>20)||e != 0)=true) (h:List Blk):(Ev GV Γq 3 [aa L,aa O] h (bool true) h):=by
 exact z0 [.val (bool true),.b false,.val (bool true),.val (int e),.b true] (.c (@hsane (zaf L)) (.c (show(!true)=false from rfl) (.c (Hx (Γ':=Γq) (@hf (zaf L))) (.c (gd (!(!true||Qd ((↑(G3 O):Int)>20))) (@hc (zaf L))) (.c hb .n))))) h
abbrev w32L(x:Fin 32→BitVec 8):List D:=[w8 (x 0),w8 (x 1),w8 (x 2),w8 (x 3),w8 (x 4),w8 (x 5),w8 (x 6),w8 (x 7),w8 (x 8),w8 (x 9),w8 (x 10),w8 (x 11),w8 (x 12),w8 (x 13),w8 (x 14),w8 (x 15),w8 (x 16),w8 (x 17),w8 (x 18),w8 (x 19),w8 (x 20),w8 (x 21),w8 (x 22),w8 (x 23),w8 (x 24),w8 (x 25),w8 (x 26),w8 (x 27),w8 (x 28),w8 (x 29),w8 (x 30),w8 (x 31)]
noncomputable abbrev BH(L:List (List Dp))(x:Fin 32→BitVec 8):List Blk:=[.var [aa L],.gone,.var [aa L],.var [Hf (G2 (GW GZ (↑(GT (x 0)):Int))),Hf (G2 (GW GZ (↑(GT (x 1)):Int))),Hf (G2 (GW GZ (↑(GT (x 2)):Int))),Hf (G2 (GW GZ (↑(GT (x 3)):Int))),Hf (G2 (GW GZ (↑(GT (x 4)):Int))),Hf (G2 (GW GZ (↑(GT (x 5)):Int))),Hf (G2 (GW GZ (↑(GT (x 6)):Int))),Hf (G2 (GW GZ (↑(GT (x 7)):Int))),Hf (G2 (GW GZ (↑(GT (x 8)):Int))),Hf (G2 (GW GZ (↑(GT (x 9)):Int))),Hf (G2 (GW GZ (↑(GT (x 10)):Int))),Hf (G2 (GW GZ (↑(GT (x 11)):Int))),Hf (G2 (GW GZ (↑(GT (x 12)):Int))),Hf (G2 (GW GZ (↑(GT (x 13)):Int))),Hf (G2 (GW GZ (↑(GT (x 14)):Int))),Hf (G2 (GW GZ (↑(GT (x 15)):Int))),Hf (G2 (GW GZ (↑(GT (x 16)):Int))),Hf (G2 (GW GZ (↑(GT (x 17)):Int))),Hf (G2 (GW GZ (↑(GT (x 18)):Int))),Hf (G2 (GW GZ (↑(GT (x 19)):Int))),Hf (G2 (GW GZ (↑(GT (x 20)):Int))),Hf (G2 (GW GZ (↑(GT (x 21)):Int))),Hf (G2 (GW GZ (↑(GT (x 22)):Int))),Hf (G2 (GW GZ (↑(GT (x 23)):Int))),Hf (G2 (GW GZ (↑(GT (x 24)):Int))),Hf (G2 (GW GZ (↑(GT (x 25)):Int))),Hf (G2 (GW GZ (↑(GT (x 26)):Int))),Hf (G2 (GW GZ (↑(GT (x 27)):Int))),Hf (G2 (GW GZ (↑(GT (x 28)):Int))),Hf (G2 (GW GZ (↑(GT (x 29)):Int))),Hf (G2 (GW GZ (↑(GT (x 30)):Int))),Hf (G2 (GW GZ (↑(GT (x 31)):Int)))],.var [Hf (G2 (GW GZ (↑(GT (x 0)):Int))),Hf (G2 (GW GZ (↑(GT (x 1)):Int))),Hf (G2 (GW GZ (↑(GT (x 2)):Int))),Hf (G2 (GW GZ (↑(GT (x 3)):Int))),Hf (G2 (GW GZ (↑(GT (x 4)):Int))),Hf (G2 (GW GZ (↑(GT (x 5)):Int))),Hf (G2 (GW GZ (↑(GT (x 6)):Int))),Hf (G2 (GW GZ (↑(GT (x 7)):Int))),Hf (G2 (GW GZ (↑(GT (x 8)):Int))),Hf (G2 (GW GZ (↑(GT (x 9)):Int))),Hf (G2 (GW GZ (↑(GT (x 10)):Int))),Hf (G2 (GW GZ (↑(GT (x 11)):Int))),Hf (G2 (GW GZ (↑(GT (x 12)):Int))),Hf (G2 (GW GZ (↑(GT (x 13)):Int))),Hf (G2 (GW GZ (↑(GT (x 14)):Int))),Hf (G2 (GW GZ (↑(GT (x 15)):Int))),Hf (G2 (GW GZ (↑(GT (x 16)):Int))),Hf (G2 (GW GZ (↑(GT (x 17)):Int))),Hf (G2 (GW GZ (↑(GT (x 18)):Int))),Hf (G2 (GW GZ (↑(GT (x 19)):Int))),Hf (G2 (GW GZ (↑(GT (x 20)):Int))),Hf (G2 (GW GZ (↑(GT (x 21)):Int))),Hf (G2 (GW GZ (↑(GT (x 22)):Int))),Hf (G2 (GW GZ (↑(GT (x 23)):Int))),Hf (G2 (GW GZ (↑(GT (x 24)):Int))),Hf (G2 (GW GZ (↑(GT (x 25)):Int))),Hf (G2 (GW GZ (↑(GT (x 26)):Int))),Hf (G2 (GW GZ (↑(GT (x 27)):Int))),Hf (G2 (GW GZ (↑(GT (x 28)):Int))),Hf (G2 (GW GZ (↑(GT (x 29)):Int))),Hf (G2 (GW GZ (↑(GT (x 30)):Int))),Hf (G2 (GW GZ (↑(GT (x 31)):Int)))]]
noncomputable abbrev BI(L:List (List Dp))(x:Fin 32→BitVec 8):List Blk:=[.var [aa L],.gone,.var [aa L],.var [Hf (G2 (GW GZ (↑(GT (x 0)):Int))),Hf (G2 (GW GZ (↑(GT (x 1)):Int))),Hf (G2 (GW GZ (↑(GT (x 2)):Int))),Hf (G2 (GW GZ (↑(GT (x 3)):Int))),Hf (G2 (GW GZ (↑(GT (x 4)):Int))),Hf (G2 (GW GZ (↑(GT (x 5)):Int))),Hf (G2 (GW GZ (↑(GT (x 6)):Int))),Hf (G2 (GW GZ (↑(GT (x 7)):Int))),Hf (G2 (GW GZ (↑(GT (x 8)):Int))),Hf (G2 (GW GZ (↑(GT (x 9)):Int))),Hf (G2 (GW GZ (↑(GT (x 10)):Int))),Hf (G2 (GW GZ (↑(GT (x 11)):Int))),Hf (G2 (GW GZ (↑(GT (x 12)):Int))),Hf (G2 (GW GZ (↑(GT (x 13)):Int))),Hf (G2 (GW GZ (↑(GT (x 14)):Int))),Hf (G2 (GW GZ (↑(GT (x 15)):Int))),Hf (G2 (GW GZ (↑(GT (x 16)):Int))),Hf (G2 (GW GZ (↑(GT (x 17)):Int))),Hf (G2 (GW GZ (↑(GT (x 18)):Int))),Hf (G2 (GW GZ (↑(GT (x 19)):Int))),Hf (G2 (GW GZ (↑(GT (x 20)):Int))),Hf (G2 (GW GZ (↑(GT (x 21)):Int))),Hf (G2 (GW GZ (↑(GT (x 22)):Int))),Hf (G2 (GW GZ (↑(GT (x 23)):Int))),Hf (G2 (GW GZ (↑(GT (x 24)):Int))),Hf (G2 (GW GZ (↑(GT (x 25)):Int))),Hf (G2 (GW GZ (↑(GT (x 26)):Int))),Hf (G2 (GW GZ (↑(GT (x 27)):Int))),Hf (G2 (GW GZ (↑(GT (x 28)):Int))),Hf (G2 (GW GZ (↑(GT (x 29)):Int))),Hf (G2 (GW GZ (↑(GT (x 30)):Int))),Hf (G2 (GW GZ (↑(GT (x 31)):Int)))]]
abbrev zb0(a:List (List Dp)):AS:={t:=mkT 89 0 [Zz,XV],h:=(QF a a),m:=[]}
theorem ar_ok{L O X:List (List Dp)}{x:Fin 32→BitVec 8}(hsane:∀h,Ev GV Γq 4 [] h (bool true) h)(hf:∀h,Ev GV Γ0 5 [aa L] h (bool true) h)
  (hc:∀h,Ev GV Γq 6 [aa L] h (int 0) h) (hb:(!true||Qd ((O.length:Int)>20)||(0:Int) != 0)=false)
  (h1:CW GV Γq [] false (.loop (sub Tryz.f3 0)) (arS O L [] 0) (.exit 0) (arE O L X))
  (h2:CW GV Γq [] false (.loop (sub Tryz.f3 1)) (asS L X (GY.wrap ((L.length:Int) - 1))) (.exit 2) (zb0 L))
  (hd:∀h,Ev GV Γq 10 [aa L] h (.tup [.agg (w32L x),int 0]) h)
  (hs:∀h,Ev GV Γ0 11 [aa L,aa L] h (bool true) h) (h:List Blk):(Ev GV Γq 3 [aa L,aa O] h (bool true) h):=by
 have hl0:=(@h1)
 have hl1:=(@h2)
 exact zD (bool (true&&0==0&&0==0&&((↑(GT (x 0)):Int)==(↑(GT (x 0)):Int)&&((↑(GT (x 1)):Int)==(↑(GT (x 1)):Int)&&((↑(GT (x 2)):Int)==(↑(GT (x 2)):Int)&&((↑(GT (x 3)):Int)==(↑(GT (x 3)):Int)&&((↑(GT (x 4)):Int)==(↑(GT (x 4)):Int)&&((↑(GT (x 5)):Int)==(↑(GT (x 5)):Int)&&((↑(GT (x 6)):Int)==(↑(GT (x 6)):Int)&&((↑(GT (x 7)):Int)==(↑(GT (x 7)):Int)&&((↑(GT (x 8)):Int)==(↑(GT (x 8)):Int)&&((↑(GT (x 9)):Int)==(↑(GT (x 9)):Int)&&((↑(GT (x 10)):Int)==(↑(GT (x 10)):Int)&&((↑(GT (x 11)):Int)==(↑(GT (x 11)):Int)&&((↑(GT (x 12)):Int)==(↑(GT (x 12)):Int)&&((↑(GT (x 13)):Int)==(↑(GT (x 13)):Int)&&((↑(GT (x 14)):Int)==(↑(GT (x 14)):Int)&&((↑(GT (x 15)):Int)==(↑(GT (x 15)):Int)&&((↑(GT (x 16)):Int)==(↑(GT (x 16)):Int)&&((↑(GT (x 17)):Int)==(↑(GT (x 17)):Int)&&((↑(GT (x 18)):Int)==(↑(GT (x 18)):Int)&&((↑(GT (x 19)):Int)==(↑(GT (x 19)):Int)&&((↑(GT (x 20)):Int)==(↑(GT (x 20)):Int)&&((↑(GT (x 21)):Int)==(↑(GT (x 21)):Int)&&((↑(GT (x 22)):Int)==(↑(GT (x 22)):Int)&&((↑(GT (x 23)):Int)==(↑(GT (x 23)):Int)&&((↑(GT (x 24)):Int)==(↑(GT (x 24)):Int)&&((↑(GT (x 25)):Int)==(↑(GT (x 25)):Int)&&((↑(GT (x 26)):Int)==(↑(GT (x 26)):Int)&&((↑(GT (x 27)):Int)==(↑(GT (x 27)):Int)&&((↑(GT (x 28)):Int)==(↑(GT (x 28)):Int)&&((↑(GT (x 29)):Int)==(↑(GT (x 29)):Int)&&((↑(GT (x 30)):Int)==(↑(GT (x 30)):Int)&&((↑(GT (x 31)):Int)==(↑(GT (x 31)):Int)&&true)))))))))))))))))))))))))))))))))) [.val (bool true),.b false,.val (bool true),.val (int 0),.b false,.nx 3,.st (.frz 1 []),.sum [1,2,5,6,7] (HJ 0) {t:=mkT 89 0 [Zz,XV,zcd],h:=(QF L X),m:=[]},.sum [2,5,6,8] (HJ 2) (zb0 L),.val (D.tup [Hc [Hf (G2 (GW GZ (↑(GT (x 0)):Int))),Hf (G2 (GW GZ (↑(GT (x 1)):Int))),Hf (G2 (GW GZ (↑(GT (x 2)):Int))),Hf (G2 (GW GZ (↑(GT (x 3)):Int))),Hf (G2 (GW GZ (↑(GT (x 4)):Int))),Hf (G2 (GW GZ (↑(GT (x 5)):Int))),Hf (G2 (GW GZ (↑(GT (x 6)):Int))),Hf (G2 (GW GZ (↑(GT (x 7)):Int))),Hf (G2 (GW GZ (↑(GT (x 8)):Int))),Hf (G2 (GW GZ (↑(GT (x 9)):Int))),Hf (G2 (GW GZ (↑(GT (x 10)):Int))),Hf (G2 (GW GZ (↑(GT (x 11)):Int))),Hf (G2 (GW GZ (↑(GT (x 12)):Int))),Hf (G2 (GW GZ (↑(GT (x 13)):Int))),Hf (G2 (GW GZ (↑(GT (x 14)):Int))),Hf (G2 (GW GZ (↑(GT (x 15)):Int))),Hf (G2 (GW GZ (↑(GT (x 16)):Int))),Hf (G2 (GW GZ (↑(GT (x 17)):Int))),Hf (G2 (GW GZ (↑(GT (x 18)):Int))),Hf (G2 (GW GZ (↑(GT (x 19)):Int))),Hf (G2 (GW GZ (↑(GT (x 20)):Int))),Hf (G2 (GW GZ (↑(GT (x 21)):Int))),Hf (G2 (GW GZ (↑(GT (x 22)):Int))),Hf (G2 (GW GZ (↑(GT (x 23)):Int))),Hf (G2 (GW GZ (↑(GT (x 24)):Int))),Hf (G2 (GW GZ (↑(GT (x 25)):Int))),Hf (G2 (GW GZ (↑(GT (x 26)):Int))),Hf (G2 (GW GZ (↑(GT (x 27)):Int))),Hf (G2 (GW GZ (↑(GT (x 28)):Int))),Hf (G2 (GW GZ (↑(GT (x 29)):Int))),Hf (G2 (GW GZ (↑(GT (x 30)):Int))),Hf (G2 (GW GZ (↑(GT (x 31)):Int)))],int 0]),.val (D.tup [Hc [Hf (G2 (GW GZ (↑(GT (x 0)):Int))),Hf (G2 (GW GZ (↑(GT (x 1)):Int))),Hf (G2 (GW GZ (↑(GT (x 2)):Int))),Hf (G2 (GW GZ (↑(GT (x 3)):Int))),Hf (G2 (GW GZ (↑(GT (x 4)):Int))),Hf (G2 (GW GZ (↑(GT (x 5)):Int))),Hf (G2 (GW GZ (↑(GT (x 6)):Int))),Hf (G2 (GW GZ (↑(GT (x 7)):Int))),Hf (G2 (GW GZ (↑(GT (x 8)):Int))),Hf (G2 (GW GZ (↑(GT (x 9)):Int))),Hf (G2 (GW GZ (↑(GT (x 10)):Int))),Hf (G2 (GW GZ (↑(GT (x 11)):Int))),Hf (G2 (GW GZ (↑(GT (x 12)):Int))),Hf (G2 (GW GZ (↑(GT (x 13)):Int))),Hf (G2 (GW GZ (↑(GT (x 14)):Int))),Hf (G2 (GW GZ (↑(GT (x 15)):Int))),Hf (G2 (GW GZ (↑(GT (x 16)):Int))),Hf (G2 (GW GZ (↑(GT (x 17)):Int))),Hf (G2 (GW GZ (↑(GT (x 18)):Int))),Hf (G2 (GW GZ (↑(GT (x 19)):Int))),Hf (G2 (GW GZ (↑(GT (x 20)):Int))),Hf (G2 (GW GZ (↑(GT (x 21)):Int))),Hf (G2 (GW GZ (↑(GT (x 22)):Int))),Hf (G2 (GW GZ (↑(GT (x 23)):Int))),Hf (G2 (GW GZ (↑(GT (x 24)):Int))),Hf (G2 (GW GZ (↑(GT (x 25)):Int))),Hf (G2 (GW GZ (↑(GT (x 26)):Int))),Hf (G2 (GW GZ (↑(GT (x 27)):Int))),Hf (G2 (GW GZ (↑(GT (x 28)):Int))),Hf (G2 (GW GZ (↑(GT (x 29)):Int))),Hf (G2 (GW GZ (↑(GT (x 30)):Int))),Hf (G2 (GW GZ (↑(GT (x 31)):Int)))],int 0]),.val (bool true)] (.c (@hsane (zaf L)) (.c (show(!true)=false from rfl) (.c (Hx (Γ':=Γq) (@hf (zaf L))) (.c (gd (!(!true||Qd ((↑(G3 O):Int)>20))) (@hc (zaf L))) (.c hb (.c (show([]:List (List D))=[] from rfl) (.c hl0 (.c hl1 (.c (@hd (QF L L)) (.c (@hd (BI L x)) (.c (Hx (Γ':=Γq) (@hs (BH L x))) .n))))))))))) h (by first|rfl|simp)
theorem Ge{l:List EntT}(h:Ck l=true):l.length≤16:=by
 unfold Ck at h
 simp only[G6,decide_eq_true_eq,HW] at h
 omega
inductive Val where
 | num (n:Int)
 | text (s:ByteArray)
 | list (l:List Val)
abbrev emp:ByteArray:=⟨#[]⟩
mutual
def Val.row:Val→List Dp
 | .num n=>[vi 1,vi n,vs emp,.v (.slice none 0 0)]
 | .text s=>[vi 2,vi 0,vs s,.v (.slice none 0 0)]
 | .list l=>[vi 3,vi 0,vs emp,.sl (Val.rows l)]
def Val.rows:List Val→List (List Dp)
 | []=>[]
 | v::l=>v.row::Val.rows l
end
theorem Val.rows_map:∀l:List Val,Val.rows l=l.map Val.row
 | []=>rfl
 | v::l=>by simp only[Val.rows,Il,Val.rows_map l]
inductive AnyT where
 | num (n:Int)
 | text (s:ByteArray)
 | bool (b:Bool)
 | bun (a b:Int)
 | val (r:List (List Dp))
def CE:AnyT→D
 | .num n=>lit (.iface 3 (.int .i64 n))
 | .text s=>lit (.iface 9 (.string s))
 | .bool b=>lit (.iface 4 (.bool b))
 | .bun a b=>lit (.iface 41 (.agg #[.int .i64 a,.int .i64 b]))
 | .val r=>.fn (.yield 104) [] [.agg [int 3,int 0,ad emp,.p (.sl r)]]
abbrev dpR(r:List Dp):List D:=r.map .p
abbrev anR(a:AnyT):List D:=[CE a]
theorem iZ{l:List AnyT}{a:AnyT}{i:Nat}{hp:List Blk}(ha:l[i]? = some a):aJ GV (.vec (l.map anR) 0 1::hp) 132 V9 (int (i:Int))=some (true,(Vt 0 i)):=by
 have e1:GV.underlying 132=some (.slice 20):=by kernel_rfl
 have e2:szOf GV 20=some 1:=by kernel_rfl
 have hl:=(List.getElem?_eq_some_iff.1 ha).1
 have hr:inR (i:Int) (l.map anR).length=true:=fc rfl (by simpa using hl)
 simp only[aJ,intOf?,e1,e2,Hu,hr,Int.toNat_natCast]
 rfl
abbrev Xu(a:Nat):D:=(.ref (.vp 0 0 a 0))
theorem i2{l:List AnyT}{a:AnyT}{i:Nat}{hp:List Blk}(ha:l[i]? = some a):aD GV (.vec (l.map anR) 0 1::hp) 20 (Xu i)=some (CE a):=by
 have e1:wr GV 20=some false:=by kernel_rfl
 have e2:szOf GV 20=some 1:=by kernel_rfl
 have e3:(l.map anR)[i]? = some [CE a]:=by simp[ha]
 simp only[aD,Hu,e3,if_true,cm,e1,e2,IW,List.head?_cons]
theorem dB(f:Ref→D)(l:List AnyT):(l.map anR).map (HP f)=l.map anR:=by
 rw[Jz]
 apply J0
 intro a _
 cases a<;>rfl
theorem dC(k:Nat)(l:List AnyT):Ho k (.vec (l.map anR) 0 1)=true:=by
 simp only[Ho]
 rw[Hs]
 intro r hr
 obtain⟨a,_,rfl⟩:=HS.1 hr
 cases a<;>rfl
theorem pF(k:Nat):∀r:List Dp,D.innL k (r.map .p)=true
 | []=>rfl
 | x::r=>by simp only[Il,D.innL,D.inn,pF k r,Lq]
theorem pG(f:Ref→D):∀r:List Dp,HP f (r.map .p)=r.map .p
 | []=>rfl
 | x::r=>by simp only[Il,HP,D.mapR,pG f r]
theorem ct(k e:Nat)(vr:List (List Dp))(v:List Dp):Ho k (.vec (vr.map dpR++[v.map .p]) e 4)=true:=by
 simp only[Ho]
 rw[Hs]
 intro r hr
 rcases List.mem_append.1 hr with hr|hr
 ·obtain⟨a,_,rfl⟩:=HS.1 hr
  exact pF k _
 ·rw[List.mem_singleton] at hr
  rw[hr];exact pF k _
theorem cv(f:Ref→D)(vr:List (List Dp))(v:List Dp):(vr.map dpR++[v.map Hf]).map (HP f)=vr.map dpR++[v.map Hf]:=by
 rw[HK,Jz]
 congr 1
 ·apply J0
  intro a _
  exact pG f _
 ·simp only[Il,List.map_nil,pG]
abbrev zbi(a:Nat):List D:=[int 3,int 0,ad emp,.ref (.vec a 0)]
abbrev Z2:List D:=(zbi 3)
abbrev zbh(a:Int)(b:D):List D:=[int a,int 0,ad emp,b]
abbrev Qx:List D:=(zbh 0 bD)
abbrev Yk:Nat × D:=(zbf 2 1)
abbrev YR:Nat × D:=(zbf 3 2)
abbrev zaN(a:List AnyT)(b:Int)(c:List (List D)):AS:={t:=mkT 78 0 [Yk,YR,(13,.ref (.vec 0 0)),(14,int ((a.map anR).length:Int)),(15,int b)],h:=[.vec (a.map anR) 0 1,.var Qx,.var Z2,.vec c 0 4],m:=[]}
abbrev liS(l:List AnyT)(vr:List (List Dp))(i:Int):AS:=(zaN l i (vr.map dpR))
theorem bB{vr:List (List Dp)}{r:List D}(hn:vr.length≤1000000000)(hr:r.length=4∧r.all D.one=true):([r].all (rowOk 4)&&roomOk ((vr.map dpR).length + [r].length) 56)=true:=by
 simp only[List.all_cons,List.all_nil,rowOk,hr.1,hr.2,roomOk,HW,Ju,decide_true,Bool.and_true,Bool.true_and,G6,decide_eq_true_eq]
 omega
abbrev ao(n:Int):List Dp:=[vi 1,vi n,vs emp,.v (.slice none 0 0)]
abbrev gj(s:ByteArray):List Dp:=[vi 2,vi 0,vs s,.v (.slice none 0 0)]
abbrev aG(r:List (List Dp)):List Dp:=[vi 3,vi 0,vs emp,.sl r]
abbrev ZA(a:List AnyT)(b:Nat)(c:List (List Dp))(d:List D):AS:={t:=mkT 78 0 [(zbf 2 1),(zbf 3 2),(13,.ref (.vec 0 0)),(14,int (↑(G3 (GU anR a)):Int)),(15,int (G1 GY ((↑b:Int)+1)))],h:=[.vec (GU anR a) 0 1,.var (zbh 0 nq),.var (zbi 3),.vec (GU dpR c++[d]) 0 4],m:=[]}
abbrev ZL(a:List AnyT)(b:List (List D)):List Blk:=[.vec (GU anR a) 0 1,.var (zbh 0 nq),.var (zbi 3),.vec (b) 0 4]
abbrev Qf:List D:=(zbh 0 nq)
abbrev QT(a b:Nat):List D:=(zbh 3 (.ref (.vec a b)))
abbrev Yl:List Ans:=[.st (.mask [2,3,13,14,15]),.st (.trimV 4),.st (.ren 3 0)]
abbrev YK(a:List AnyT):List Blk:=[.vec (a.map anR) 0 1]
abbrev Xr(a:Nat)(b:List (List Dp))(c:List D):List (List D):=GU (HP (cX a 1 0)) (GU dpR b++[c])
abbrev X3(a:List (List Dp))(b:List D):Blk:=(.vec (GU dpR a++[b]) 1 4)
abbrev WH(a:Nat):Ref:=(.vp 0 0 (Hh (↑a:Int)) 0)
abbrev WS(a:List AnyT):List (List D):=GU (HP (cX 3 1 0)) (GU anR a)
abbrev Vo(a:List AnyT):Blk:=(.vec (GU anR a) 0 1)
abbrev zbW:Blk:=(.var (QT 3 1))
theorem li_num{l:List AnyT}{vr:List (List Dp)}{n:Int}{i:Nat}(ha:l[i]? = some (.num n))(hlt:Qd ((i:Int)<((l.map anR).length:Int))=true)(hw:GY.wrap ((i:Int)+1)=((i+1:Nat):Int))(hn:vr.length≤1000000000):(CW GV Γ0 [.vec (l.map anR) 0 1] false (sub Kl 0) (liS l vr i) .normal (liS l (vr++[ao n]) ((i+1:Nat):Int))):=by
 let v0:List D:=[int 1,int n,ad {data:=#[]},nq]
 refine zX {t:=mkT 78 0 [(2,.ref (.ptr 1 0)),(3,.ref (.ptr 2 0)),(13,.ref (.vec 0 0)),(14,int (↑(G3 (GU anR l)):Int)),(15,int (G1 GY ((↑i:Int)+1)))],h:=[.vec (GU anR l) 0 1,.var [int 0,int 0,ad emp,nq],.var [int 3,int 0,ad emp,.ref (.vec 3 0)],.vec (GU dpR vr++[v0]) 0 4],m:=[]} Hz [.st (.mask [2,3,13,14,15]),.st (.trimV 4),.st (.ren 3 0)] [.b true,.ov 17 (.ref (.vp 0 0 i 0)),.ov 18 (CE (AnyT.num n)),.b true] (.c hlt (.c (show @Eq (Option (Bool×D)) (some (inR (↑i:Int) (G3 (GU anR l)),.ref (.vp 0 0 (Hh (↑i:Int)) 0))) (some (true,Jd (.vp 0 0 i 0))) from(by subst v0;first|(simp only[hlt,cond_true,cond_false];done)|first|assumption|rfl|exact iZ (hp:=[]) ha|exact i2 (hp:=[]) ha|exact bB hn ⟨rfl,rfl⟩|exact dB _ _|exact dC _ _|exact ct _ _ _ (ao n)|exact cv _ _ (ao n))) (.c (show @Eq (Option D) (aD GV [.vec (GU anR l) 0 1,.var [int 0,int 0,ad emp,nq],.var [int 3,int 0,ad emp,.ref (.vec 3 0)],.vec (GU dpR vr) 0 4] 20 (.ref (.vp 0 0 i 0))) (some (Hf (G2 (Hd 3 (GW GY n))))) from ?_) (.er true (.c (show(Ia [v0] (rowOk 4)&&roomOk (G3 (GU dpR vr)+G3 (α:=List D) [v0]) 56)=true from ?_) (.c (show Ho 4 (.vec (GU anR l) 0 1)=true from ?_) (.c (show Ho 4 (.var [int 0,int 0,ad emp,nq])=true from rfl) (.c (show Ho 4 (.var [int 3,int 0,ad emp,.ref (.vec 3 1)])=true from rfl) (.c (show Ho 4 (.vec (GU dpR vr++[v0]) 1 4)=true from ?_) (.c (show GU (HP (cX 3 1 0)) (GU dpR vr++[v0])=GU dpR vr++[v0] from ?_) (.c (show GU (HP (cX 3 1 0)) (GU anR l)=GU anR l from ?_) .n))))))))))) (by subst v0;first|rfl|(rw[hw];simp only[liS,HK]<;>rfl)) (by subst v0;first|rfl|(rw[hw];simp only[liS,HK]<;>rfl))<;>subst v0<;>(first|assumption|rfl|exact iZ (hp:=[]) ha|exact i2 (hp:=[]) ha|exact bB hn ⟨rfl,rfl⟩|exact dB _ _|exact dC _ _|exact ct _ _ _ (ao n)|exact cv _ _ (ao n))
abbrev YL(a:ByteArray):List D:=[int 2,int 0,ad a,nq]
theorem Gf{l:List AnyT}{vr:List (List Dp)}{s:ByteArray}{i:Nat}(ha:l[i]? = some (.text s))(hlt:Qd ((i:Int)<((l.map anR).length:Int))=true)(hw:GY.wrap ((i:Int)+1)=((i+1:Nat):Int))(hn:vr.length≤1000000000):(CW GV Γ0 [.vec (l.map anR) 0 1] false (sub Kl 0) (liS l vr i) .normal (liS l (vr++[gj s]) ((i+1:Nat):Int))):=by
 let v0:List D:=[int 2,int 0,ad s,nq]
 refine zX {t:=mkT 78 0 [(2,.ref (.ptr 1 0)),(3,.ref (.ptr 2 0)),(13,.ref (.vec 0 0)),(14,int (↑(G3 (GU anR l)):Int)),(15,int (G1 GY ((↑i:Int)+1)))],h:=[.vec (GU anR l) 0 1,.var [int 0,int 0,ad emp,nq],.var [int 3,int 0,ad emp,.ref (.vec 3 0)],.vec (GU dpR vr++[v0]) 0 4],m:=[]} Hz [.st (.mask [2,3,13,14,15]),.st (.trimV 4),.st (.ren 3 0)] [.b true,.ov 17 (.ref (.vp 0 0 i 0)),.ov 18 (CE (AnyT.text s)),.b false,.b true] (.c hlt (.c (show @Eq (Option (Bool×D)) (some (inR (↑i:Int) (G3 (GU anR l)),.ref (.vp 0 0 (Hh (↑i:Int)) 0))) (some (true,Jd (.vp 0 0 i 0))) from(by subst v0;first|(simp only[hlt,cond_true,cond_false];done)|first|assumption|rfl|exact iZ (hp:=[]) ha|exact i2 (hp:=[]) ha|exact bB hn ⟨rfl,rfl⟩|exact dB _ _|exact dC _ _|exact ct _ _ _ (gj s)|exact cv _ _ (gj s))) (.c (show @Eq (Option D) (aD GV [.vec (GU anR l) 0 1,.var [int 0,int 0,ad emp,nq],.var [int 3,int 0,ad emp,.ref (.vec 3 0)],.vec (GU dpR vr) 0 4] 20 (.ref (.vp 0 0 i 0))) (some (Hf (G2 (Hd 9 (Value.string s))))) from ?_) (.er false (.er true (.c (show(Ia [v0] (rowOk 4)&&roomOk (G3 (GU dpR vr)+G3 (α:=List D) [v0]) 56)=true from ?_) (.c (show Ho 4 (.vec (GU anR l) 0 1)=true from ?_) (.c (show Ho 4 (.var [int 0,int 0,ad emp,nq])=true from rfl) (.c (show Ho 4 (.var [int 3,int 0,ad emp,.ref (.vec 3 1)])=true from rfl) (.c (show Ho 4 (.vec (GU dpR vr++[v0]) 1 4)=true from ?_) (.c (show GU (HP (cX 3 1 0)) (GU dpR vr++[v0])=GU dpR vr++[v0] from ?_) (.c (show GU (HP (cX 3 1 0)) (GU anR l)=GU anR l from ?_) .n)))))))))))) (by subst v0;first|rfl|(rw[hw];simp only[liS,HK]<;>rfl)) (by subst v0;first|rfl|(rw[hw];simp only[liS,HK]<;>rfl))<;>subst v0<;>(first|assumption|rfl|exact iZ (hp:=[]) ha|exact i2 (hp:=[]) ha|exact bB hn ⟨rfl,rfl⟩|exact dB _ _|exact dC _ _|exact ct _ _ _ (gj s)|exact cv _ _ (gj s))
abbrev zb4(a:Nat)(c:Bool):List Ans:=[.b true,.ov 17 (Xu a),.ov 18 (CE (AnyT.bool c)),.b false,.b false,.b true,.b c]
theorem Gg{l:List AnyT}{vr:List (List Dp)}{i:Nat}(ha:l[i]? = some (.bool true))(hlt:Qd ((i:Int)<((l.map anR).length:Int))=true)(hw:GY.wrap ((i:Int)+1)=((i+1:Nat):Int))(hn:vr.length≤1000000000):(CW GV Γ0 [.vec (l.map anR) 0 1] false (sub Kl 0) (liS l vr i) .normal (liS l (vr++[ao 1]) ((i+1:Nat):Int))):=by
 let v0:List D:=[int 1,int 1,ad {data:=#[]},nq]
 refine zX {t:=mkT 78 0 [(2,.ref (.ptr 1 0)),(3,.ref (.ptr 2 0)),(13,.ref (.vec 0 0)),(14,int (↑(G3 (GU anR l)):Int)),(15,int (G1 GY ((↑i:Int)+1)))],h:=[.vec (GU anR l) 0 1,.var [int 0,int 0,ad emp,nq],.var [int 3,int 0,ad emp,.ref (.vec 3 0)],.vec (GU dpR vr++[v0]) 0 4],m:=[]} Hz [.st (.mask [2,3,13,14,15]),.st (.trimV 4),.st (.ren 3 0)] [.b true,.ov 17 (.ref (.vp 0 0 i 0)),.ov 18 (CE (AnyT.bool true)),.b false,.b false,.b true,.b true] (.c hlt (.c (show @Eq (Option (Bool×D)) (some (inR (↑i:Int) (G3 (GU anR l)),.ref (.vp 0 0 (Hh (↑i:Int)) 0))) (some (true,Jd (.vp 0 0 i 0))) from(by subst v0;first|(simp only[hlt,cond_true,cond_false];done)|first|assumption|rfl|exact iZ (hp:=[]) ha|exact i2 (hp:=[]) ha|exact bB hn ⟨rfl,rfl⟩|exact dB _ _|exact dC _ _|exact ct _ _ _ (ao 1)|exact cv _ _ (ao 1))) (.c (show @Eq (Option D) (aD GV [.vec (GU anR l) 0 1,.var [int 0,int 0,ad emp,nq],.var [int 3,int 0,ad emp,.ref (.vec 3 0)],.vec (GU dpR vr) 0 4] 20 (.ref (.vp 0 0 i 0))) (some (Hf (G2 (Hd 4 (Ht true))))) from ?_) (.er false (.er false (.er true (.er true (.c (show(Ia [v0] (rowOk 4)&&roomOk (G3 (GU dpR vr)+G3 (α:=List D) [v0]) 56)=true from ?_) (.c (show Ho 4 (.vec (GU anR l) 0 1)=true from ?_) (.c (show Ho 4 (.var [int 0,int 0,ad emp,nq])=true from rfl) (.c (show Ho 4 (.var [int 3,int 0,ad emp,.ref (.vec 3 1)])=true from rfl) (.c (show Ho 4 (.vec (GU dpR vr++[v0]) 1 4)=true from ?_) (.c (show GU (HP (cX 3 1 0)) (GU dpR vr++[v0])=GU dpR vr++[v0] from ?_) (.c (show GU (HP (cX 3 1 0)) (GU anR l)=GU anR l from ?_) .n)))))))))))))) (by subst v0;first|rfl|(rw[hw];simp only[liS,HK]<;>rfl)) (by subst v0;first|rfl|(rw[hw];simp only[liS,HK]<;>rfl))<;>subst v0<;>(first|assumption|rfl|exact iZ (hp:=[]) ha|exact i2 (hp:=[]) ha|exact bB hn ⟨rfl,rfl⟩|exact dB _ _|exact dC _ _|exact ct _ _ _ (ao 1)|exact cv _ _ (ao 1))
theorem BJ{l:List AnyT}{vr:List (List Dp)}{i:Nat}(ha:l[i]? = some (.bool false))(hlt:Qd ((i:Int)<((l.map anR).length:Int))=true)(hw:GY.wrap ((i:Int)+1)=((i+1:Nat):Int))(hn:vr.length≤1000000000):(CW GV Γ0 [.vec (l.map anR) 0 1] false (sub Kl 0) (liS l vr i) .normal (liS l (vr++[ao 0]) ((i+1:Nat):Int))):=by
 let v0:List D:=[int 1,int 0,ad {data:=#[]},nq]
 refine zX {t:=mkT 78 0 [(2,.ref (.ptr 1 0)),(3,.ref (.ptr 2 0)),(13,.ref (.vec 0 0)),(14,int (↑(G3 (GU anR l)):Int)),(15,int (G1 GY ((↑i:Int)+1)))],h:=[.vec (GU anR l) 0 1,.var [int 0,int 0,ad emp,nq],.var [int 3,int 0,ad emp,.ref (.vec 3 0)],.vec (GU dpR vr++[v0]) 0 4],m:=[]} Hz [.st (.mask [2,3,13,14,15]),.st (.trimV 4),.st (.ren 3 0)] [.b true,.ov 17 (.ref (.vp 0 0 i 0)),.ov 18 (CE (AnyT.bool false)),.b false,.b false,.b true,.b false] (.c hlt (.c (show @Eq (Option (Bool×D)) (some (inR (↑i:Int) (G3 (GU anR l)),.ref (.vp 0 0 (Hh (↑i:Int)) 0))) (some (true,Jd (.vp 0 0 i 0))) from(by subst v0;first|(simp only[hlt,cond_true,cond_false];done)|first|assumption|rfl|exact iZ (hp:=[]) ha|exact i2 (hp:=[]) ha|exact bB hn ⟨rfl,rfl⟩|exact dB _ _|exact dC _ _|exact ct _ _ _ (ao 0)|exact cv _ _ (ao 0))) (.c (show @Eq (Option D) (aD GV [.vec (GU anR l) 0 1,.var [int 0,int 0,ad emp,nq],.var [int 3,int 0,ad emp,.ref (.vec 3 0)],.vec (GU dpR vr) 0 4] 20 (.ref (.vp 0 0 i 0))) (some (Hf (G2 (Hd 4 (Ht false))))) from ?_) (.er false (.er false (.er true (.er false (.c (show(Ia [v0] (rowOk 4)&&roomOk (G3 (GU dpR vr)+G3 (α:=List D) [v0]) 56)=true from ?_) (.c (show Ho 4 (.vec (GU anR l) 0 1)=true from ?_) (.c (show Ho 4 (.var [int 0,int 0,ad emp,nq])=true from rfl) (.c (show Ho 4 (.var [int 3,int 0,ad emp,.ref (.vec 3 1)])=true from rfl) (.c (show Ho 4 (.vec (GU dpR vr++[v0]) 1 4)=true from ?_) (.c (show GU (HP (cX 3 1 0)) (GU dpR vr++[v0])=GU dpR vr++[v0] from ?_) (.c (show GU (HP (cX 3 1 0)) (GU anR l)=GU anR l from ?_) .n)))))))))))))) (by subst v0;first|rfl|(rw[hw];simp only[liS,HK]<;>rfl)) (by subst v0;first|rfl|(rw[hw];simp only[liS,HK]<;>rfl))<;>subst v0<;>(first|assumption|rfl|exact iZ (hp:=[]) ha|exact i2 (hp:=[]) ha|exact bB hn ⟨rfl,rfl⟩|exact dB _ _|exact dC _ _|exact ct _ _ _ (ao 0)|exact cv _ _ (ao 0))
abbrev Zt(a:List (List Dp)):List D:=(zbh 3 (aa a))
theorem li_val{l:List AnyT}{vr:List (List Dp)}{r:List (List Dp)}{i:Nat}(ha:l[i]? = some (.val r))(hlt:Qd ((i:Int)<((l.map anR).length:Int))=true)(hw:GY.wrap ((i:Int)+1)=((i+1:Nat):Int))(hn:vr.length≤1000000000):(CW GV Γ0 [.vec (l.map anR) 0 1] false (sub Kl 0) (liS l vr i) .normal (liS l (vr++[aG r]) ((i+1:Nat):Int))):=by
 let v0:List D:=[int 3,int 0,ad emp,aa r]
 refine zX {t:=mkT 78 0 [(2,.ref (.ptr 1 0)),(3,.ref (.ptr 2 0)),(13,.ref (.vec 0 0)),(14,int (↑(G3 (GU anR l)):Int)),(15,int (G1 GY ((↑i:Int)+1)))],h:=[.vec (GU anR l) 0 1,.var [int 0,int 0,ad emp,nq],.var [int 3,int 0,ad emp,.ref (.vec 3 0)],.vec (GU dpR vr++[v0]) 0 4],m:=[]} Hz [.st (.mask [2,3,13,14,15]),.st (.trimV 4),.st (.ren 3 0)] [.b true,.ov 17 (.ref (.vp 0 0 i 0)),.ov 18 (D.fn (Fn.yield 104) [] [Hc [int 3,int 0,ad emp,Hf (Hj r)]]),.b false,.b false,.b false,.b false,.b true] (.c hlt (.c (show @Eq (Option (Bool×D)) (some (inR (↑i:Int) (G3 (GU anR l)),.ref (.vp 0 0 (Hh (↑i:Int)) 0))) (some (true,Jd (.vp 0 0 i 0))) from(by subst v0;first|(simp only[hlt,cond_true,cond_false];done)|first|assumption|rfl|exact iZ (hp:=[]) ha|exact i2 (hp:=[]) ha|exact bB hn ⟨rfl,rfl⟩|exact dB _ _|exact dC _ _|exact ct _ _ _ (aG r)|exact cv _ _ (aG r))) (.c (show @Eq (Option D) (aD GV [.vec (GU anR l) 0 1,.var [int 0,int 0,ad emp,nq],.var [int 3,int 0,ad emp,.ref (.vec 3 0)],.vec (GU dpR vr) 0 4] 20 (.ref (.vp 0 0 i 0))) (some (D.fn (Fn.yield 104) [] [Hc v0])) from ?_) (.er false (.er false (.er false (.er false (.er true (.c (show(Ia [v0] (rowOk 4)&&roomOk (G3 (GU dpR vr)+G3 (α:=List D) [v0]) 56)=true from ?_) (.c (show Ho 4 (.vec (GU anR l) 0 1)=true from ?_) (.c (show Ho 4 (.var [int 0,int 0,ad emp,nq])=true from rfl) (.c (show Ho 4 (.var [int 3,int 0,ad emp,.ref (.vec 3 1)])=true from rfl) (.c (show Ho 4 (.vec (GU dpR vr++[v0]) 1 4)=true from ?_) (.c (show GU (HP (cX 3 1 0)) (GU dpR vr++[v0])=GU dpR vr++[v0] from ?_) (.c (show GU (HP (cX 3 1 0)) (GU anR l)=GU anR l from ?_) .n))))))))))))))) (by subst v0;first|rfl|(rw[hw];simp only[liS,HK]<;>rfl)) (by subst v0;first|rfl|(rw[hw];simp only[liS,HK]<;>rfl))<;>subst v0<;>(first|assumption|rfl|exact iZ (hp:=[]) ha|exact i2 (hp:=[]) ha|exact bB hn ⟨rfl,rfl⟩|exact dB _ _|exact dC _ _|exact ct _ _ _ (aG r)|exact cv _ _ (aG r))
abbrev zaV(a:List AnyT)(b:List (List Dp)):AS:={t:=mkT 78 0 [Yk,YR],h:=[.vec (a.map anR) 0 1,.var Qx,.var Z2,.vec (b.map dpR) 0 4],m:=[]}
theorem Gh{l:List AnyT}{vr:List (List Dp)}{i:Nat}(hlt:Qd ((i:Int)<((l.map anR).length:Int))=false):(CW GV Γ0 (YK l) false (sub Kl 0) (liS l vr i) (.exit 0) (zaV l vr)):=by
 exact zx Vk [.b false] (.c hlt .n)
abbrev Xe(a:List (List Dp)):List D:=(zbh 3 (.p (.sl a)))
abbrev liO(r:List (List Dp)):D:=.agg (Xe r)
theorem CF{l:List AnyT}{r:List (List Dp)}
  (hc:CW GV Γ0 (YK l) false (.loop (sub Kl 0)) (zaN l 0 []) (.exit 0) (zaV l r)):(Ev GV Γ0 45 Xt (YK l) (liO r) (YK l)):=by
 have hl0:=(@hc)
 let v0:List D:=(Zt r)
 refine HU (Ev.post (d2:=Hc v0) (h2:=[.vec (GU anR l) 0 1]) (φ:=[Ho 1 (Vo l)=true]) [.st (.trimV 1)] (Jj (h':=[.vec (GU anR l) 0 1,.var v0,.var v0,.gone]) (d:=Hc v0) pok [.nx 3,.st (.nilC 2 3 4),.sum [2,3,13,14,15] (HJ 0) {t:=mkT 78 0 [Yk,YR],h:=(ZL l (GU dpR r)),m:=[]},.st (.frz 3 r)] (by kernel_rfl) (.c hl0 (.c (show GU dpR r=GU (fun x=>GU Hf x) r from ?_) (.c (show GU (HP (qD 3 0 r)) (GU anR l)=GU anR l from ?_) .n)))) (by kernel_rfl) ⟨?_,trivial⟩) (by rfl) (by rfl)<;>subst v0<;>(first|assumption|rfl|exact dB _ _|exact dC _ _)
abbrev Zm(b:Int):List D:=[Hf (G2 (Hd 3 (GW GY b)))]
noncomputable abbrev i3(l:List AnyT)(vr:List (List Dp))(a:Int)(b:Int):List Blk:=[.vec (GU anR l) 0 1,.var Qf,.var Z2,.vec (GU dpR vr) 0 4,.var [int a,int b],.vec [(Zm a),(Zm b)] 0 1]
abbrev Zl:Dp:=G2 (G8 none 0 0)
abbrev Xx:D:=(.ref (.ptr 2 3))
abbrev XP:Option D:=(some (.ref (.vec 3 0)))
abbrev W6:D:=(.ref (.ptr 4 0))
abbrev W9(b:Int):D:=lit (.iface 3 (.int .i64 b))
abbrev zan(b:Int):List Dp:=[vi 1,vi b,vs emp,Zl]
abbrev zcO(a:List (List Dp)):List D:=[int 3,int 0,ad emp,aa a]
abbrev zcm(c d:Int):List D:=(zcO [(zan c),(zan d)])
theorem li_bun{l:List AnyT}{vr:List (List Dp)}{a b:Int}{i:Nat}(ha:l[i]? = some (.bun a b))(hlt:Qd ((i:Int)<((l.map anR).length:Int))=true)(hw:GY.wrap ((i:Int)+1)=((i+1:Nat):Int))(hn:vr.length≤1000000000)
  (hrec:Ev GV Γ0 45 [.ref (.vec 0 0)] [.vec [[lit (.iface 3 (.int .i64 a))],[lit (.iface 3 (.int .i64 b))]] 0 1] (liO [ao a,ao b]) [.vec [[lit (.iface 3 (.int .i64 a))],[lit (.iface 3 (.int .i64 b))]] 0 1]):(CW GV Γ0 [.vec (l.map anR) 0 1] false (sub Kl 0) (liS l vr i) .normal (liS l (vr++[aG [ao a,ao b]]) ((i+1:Nat):Int))):=by
 let v0:List D:=[int 3,int 0,ad emp,aa [[vi 1,vi a,vs emp,G2 (G8 none 0 0)],[vi 1,vi b,vs emp,G2 (G8 none 0 0)]]]
 refine zX {t:=mkT 78 0 [(2,.ref (.ptr 1 0)),(3,.ref (.ptr 2 0)),(13,.ref (.vec 0 0)),(14,int (↑(G3 (GU anR l)):Int)),(15,int (G1 GY ((↑i:Int)+1)))],h:=[.vec (GU anR l) 0 1,.var [int 0,int 0,ad emp,nq],.var [int 3,int 0,ad emp,.ref (.vec 3 0)],.vec (GU dpR vr++[v0]) 0 4],m:=[]} Hz [.st (.mask [2,3,13,14,15]),.st (.trimV 4),.st (.ren 3 0)] [.b true,.ov 17 (.ref (.vp 0 0 i 0)),.ov 18 (CE (AnyT.bun a b)),.b false,.b false,.b false,.b true,.call (Hc v0) (i3 l vr a b)] (.c hlt (.c (show @Eq (Option (Bool×D)) (some (inR (↑i:Int) (G3 (GU anR l)),.ref (.vp 0 0 (Hh (↑i:Int)) 0))) (some (true,Jd (.vp 0 0 i 0))) from(by subst v0;first|(simp only[hlt,cond_true,cond_false];done)|first|assumption|rfl|exact iZ (hp:=[]) ha|exact i2 (hp:=[]) ha|exact bB hn ⟨rfl,rfl⟩|exact dB _ _|exact dC _ _|exact ct _ _ _ (aG [ao a,ao b])|exact cv _ _ (aG [ao a,ao b]))) (.c (show @Eq (Option D) (aD GV [.vec (GU anR l) 0 1,.var [int 0,int 0,ad emp,nq],.var [int 3,int 0,ad emp,.ref (.vec 3 0)],.vec (GU dpR vr) 0 4] 20 (.ref (.vp 0 0 i 0))) (some (Hf (G2 (Hd 41 (Value.agg {toList:=[GW GY a,GW GY b]}))))) from ?_) (.er false (.er false (.er false (.er true (.c (show Ev GV Γ0 45 [.ref (.vec 5 0)] (i3 l vr a b) (Hc v0) (i3 l vr a b) from(HU (Ev.frameX (args:=[.ref (.vec 5 0)]) (H:=(i3 l vr a b)) [5] (@hrec) (by kernel_rfl) (by kernel_rfl) (by kernel_rfl) ⟨(by subst v0;first|rfl|exact ay _ _|first|assumption|rfl|exact iZ (hp:=[]) ha|exact i2 (hp:=[]) ha|exact bB hn ⟨rfl,rfl⟩|exact dB _ _|exact dC _ _|exact ct _ _ _ (aG [ao a,ao b])|exact cv _ _ (aG [ao a,ao b])),trivial⟩ ⟨(by subst v0;first|rfl|exact ay _ _|first|assumption|rfl|exact iZ (hp:=[]) ha|exact i2 (hp:=[]) ha|exact bB hn ⟨rfl,rfl⟩|exact dB _ _|exact dC _ _|exact ct _ _ _ (aG [ao a,ao b])|exact cv _ _ (aG [ao a,ao b])),trivial⟩) (by kernel_rfl) (by kernel_rfl))) (.c (show(Ia [v0] (rowOk 4)&&roomOk (G3 (GU dpR vr)+G3 (α:=List D) [v0]) 56)=true from ?_) (.e (.ref (.ptr 2 3)) (.e (.ref (.ptr 2 3)) (.e (.ref (.ptr 2 3)) (.e (.ref (.ptr 2 3)) (.c (show @Eq (Option D) (some (.ref (.vec 3 0))) (some (.ref (.vec 3 0))) from rfl) (.c (show @Eq (Option D) (some (.ref (.vec 3 0))) (some (.ref (.vec 3 0))) from rfl) (.c (show @Eq (Option D) (some (.ref (.vec 3 0))) (some (.ref (.vec 3 0))) from rfl) (.c (show @Eq (Option D) (some (.ref (.vec 3 0))) (some (.ref (.vec 3 0))) from rfl) (.e (.ref (.ptr 4 0)) (.c (show @Eq (Option D) (some (int a)) (some (int a)) from rfl) (.e (.ref (.ptr 4 1)) (.c (show @Eq (Option D) (some (int b)) (some (int b)) from rfl) (.e (.ref (.ptr 2 3)) (.c (show Ho 4 (.vec (GU anR l) 0 1)=true from ?_) (.c (show Ho 4 (.var [int 0,int 0,ad emp,nq])=true from rfl) (.c (show Ho 4 (.var [int 3,int 0,ad emp,.ref (.vec 3 1)])=true from rfl) (.c (show Ho 4 (.vec (GU dpR vr++[v0]) 1 4)=true from ?_) (.c (show GU (HP (cX 3 1 0)) (GU dpR vr++[v0])=GU dpR vr++[v0] from ?_) (.c (show GU (HP (cX 3 1 0)) (GU anR l)=GU anR l from ?_) .n)))))))))))))))))))))))))))) (by subst v0;first|rfl|(rw[hw];simp only[liS,HK]<;>rfl)) (by subst v0;first|rfl|(rw[hw];simp only[liS,HK]<;>rfl))<;>subst v0<;>(first|assumption|rfl|exact iZ (hp:=[]) ha|exact i2 (hp:=[]) ha|exact bB hn ⟨rfl,rfl⟩|exact dB _ _|exact dC _ _|exact ct _ _ _ (aG [ao a,ao b])|exact cv _ _ (aG [ao a,ao b]))
def i4:AnyT→List Dp
 | .num n=>ao n
 | .text s=>gj s
 | .bool b=>ao (bif b then 1 else 0)
 | .bun a b=>aG [ao a,ao b]
 | .val r=>aG r
abbrev Gi(a b:Int):Prop:=Ev GV Γ0 45 [.ref (.vec 0 0)] [.vec [[lit (.iface 3 (.int .i64 a))],[lit (.iface 3 (.int .i64 b))]] 0 1] (liO [ao a,ao b]) [.vec [[lit (.iface 3 (.int .i64 a))],[lit (.iface 3 (.int .i64 b))]] 0 1]
theorem li_l{l:List AnyT}(hl:l.length≤1000000)(hb:∀a b,AnyT.bun a b∈l→Gi a b):
  CW GV Γ0 (YK l) false (.loop (sub Kl 0)) (liS l [] 0) (.exit 0) (zaV l (l.map i4)):=by
 have hall:l.take l.length=l:=List.take_length
 have h0:=Jb (P:=GV) (Γ:=Γ0) (h0:=(YK l)) (rd:=false) (c:=sub Kl 0) l.length (fun i=>liS l ((l.take i).map i4) (i:Int)) (e:=.exit 0) (by simp) (fun i hi=>?_) (Gh (l:=l) (vr:=(l.take l.length).map i4) (i:=l.length) (by simp))
 ·rw[hall] at h0
  exact h0
 ·have ha:l[i]? = some l[i]:=List.getElem?_eq_getElem hi
  have hlt:Qd ((i:Int)<((l.map anR).length:Int))=true:=by simp;omega
  have hw:=wrap_succ (i:=i) (n:=l.length) hi (by omega)
  have e:(l.take (i+1)).map i4=(l.take i).map i4++[i4 l[i]]:=by
   rw[List.take_succ_eq_append_getElem hi,HK];rfl
  have hn:((l.take i).map i4).length≤1000000000:=by simp;omega
  rw[e]
  cases hx:l[i] with
  | num n=>rw[hx] at ha;exact li_num ha hlt hw hn
  | text s=>rw[hx] at ha;exact Gf ha hlt hw hn
  | bool b =>
   rw[hx] at ha
   cases b
   ·exact BJ ha hlt hw hn
   ·exact Gg ha hlt hw hn
  | bun a b=>rw[hx] at ha;exact li_bun ha hlt hw hn (hb a b (List.mem_of_getElem? ha))
  | val m=>rw[hx] at ha;exact li_val ha hlt hw hn
theorem bunOk(a b:Int):Gi a b :=
 CF (l:=[.num a,.num b]) (r:=[ao a,ao b]) (li_l (l:=[.num a,.num b]) (by simp) (by simp))
theorem i5{l:List AnyT}(hl:l.length≤1000000):Ev GV Γ0 45 Xt (YK l) (liO (l.map i4)) (YK l) :=
 CF (li_l hl (fun a b _=>bunOk a b))
abbrev iN(n:Int):D:=(W9 n)
theorem pH{a b:Int}:Ev GV Γ0 45 Xt [.vec [[iN a],[iN b]] 0 1] (liO [ao a,ao b]) [.vec [[iN a],[iN b]] 0 1]:=i5 (l:=[.num a,.num b]) (by simp)
theorem uV{a b c:Int}:Ev GV Γ0 45 Xt [.vec [[iN a],[iN b],[iN c]] 0 1] (liO [ao a,ao b,ao c]) [.vec [[iN a],[iN b],[iN c]] 0 1]:=i5 (l:=[.num a,.num b,.num c]) (by simp)
theorem BK{a b c d e:Int}:Ev GV Γ0 45 Xt [.vec [[iN a],[iN b],[iN c],[iN d],[iN e]] 0 1] (liO [ao a,ao b,ao c,ao d,ao e]) [.vec [[iN a],[iN b],[iN c],[iN d],[iN e]] 0 1]:=i5 (l:=[.num a,.num b,.num c,.num d,.num e]) (by simp)
abbrev iL(r:List (List Dp)):D:=.fn (.yield 104) [] [.agg (Xe r)]
abbrev iB(b:Bool):D:=lit (.iface 4 (.bool b))
abbrev iT(s:ByteArray):D:=lit (.iface 9 (.string s))
abbrev iU(a b:Int):D:=lit (.iface 41 (.agg #[.int .i64 a,.int .i64 b]))
abbrev H9(a b c d e:Int)(m g l:List (List Dp))(x:Bool):List Blk:=[.vec [[iN a],[iN b],[iN c],[iN d],[iN e],[iL m],[iL g],[iL l],[iB x]] 0 1]
theorem BL{a b c d e:Int}{m g l:List (List Dp)}{x:Bool}:Ev GV Γ0 45 Xt (H9 a b c d e m g l x) (liO [ao a,ao b,ao c,ao d,ao e,aG m,aG g,aG l,ao (bif x then 1 else 0)]) (H9 a b c d e m g l x):=i5 (l:=[.num a,.num b,.num c,.num d,.num e,.val m,.val g,.val l,.bool x]) (by simp)
abbrev H8(a b c d e:Int)(m:List (List Dp))(u v k:Int):List Blk:=[.vec [[iN a],[iN b],[iN c],[iN d],[iN e],[iL m],[iU u v],[iN k]] 0 1]
theorem BM{a b c d e u v k:Int}{m:List (List Dp)}:Ev GV Γ0 45 Xt (H8 a b c d e m u v k) (liO [ao a,ao b,ao c,ao d,ao e,aG m,aG [ao u,ao v],ao k]) (H8 a b c d e m u v k):=i5 (l:=[.num a,.num b,.num c,.num d,.num e,.val m,.bun u v,.num k]) (by simp)
abbrev H10(a b c d e:Int)(r1 r2 r3 r4:List (List Dp))(s:ByteArray):List Blk:=[.vec [[iL r1],[iN a],[iN b],[iN c],[iN d],[iN e],[iL r2],[iT s],[iL r3],[iL r4]] 0 1]
end Go.Vi
