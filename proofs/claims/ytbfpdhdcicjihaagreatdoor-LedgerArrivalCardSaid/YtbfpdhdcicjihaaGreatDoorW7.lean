/- LedgerArrival: part of the proof: contracts of the functions that the law reaches, and the law. No conditions beyond the given statement's own. -/
import Derived.Test.YtbfpdhdcicjihaaGreatDoorW6
open Decidable renaming decide → Qd
open Go.Proofs.Tryz renaming prog → GV, f74 → JD, f75 → KP, f42 → IL
open Go.IntKind renaming i64 → GY, wrap → G1, u32 → GX, u8 → GZ, u64 → Hg
open List renaming map → GU, set → Lx, getD → HC, drop → Hb, range → H7, replicate → HA, map_set → MJ, length_singleton → Ju, getElem?_cons_zero → Hu, map_map → Jz, all_eq_true → Hs, mem_map → HS, take_of_length_le → H3, map_drop → LO, length_map → HW, map_take → Ng, take → Hl, length → G3, all → Ia, map_cons → Il, drop_zero → IW
open Go.Exit renaming normal → Hz, exit → HJ
open Go.Vi.D renaming any → IM, p → Hf, tup → IZ, cells → KL, ref → Jd, mapRL → HP, agg → Hc
open Int renaming toNat → Hh, fdiv → Jf, toNat_natCast → Iw
open Go.Vi.Dp renaming v → G2
open Go.Value renaming int → GW
open BitVec renaming toNat → GT, ofInt → G5, eq_of_toNat_eq → JK, ofInt_natCast → Kp, ofNat → HY
open Go.Vi.CW renaming loopN → Jb
open Go.Vi.Ev renaming castH → HU, of_sym → Jj, frameX → Io, glob0 → Hx
open Nat renaming zero_add → I7, le_refl → Hq
open Go.Vi.Blk renaming vec → J1
open Option renaming map_some → HD, isSome → KN, map → KJ
open Bool renaming false_eq_true → HO, and_self → Lq
open Go.Fn renaming func → He
open Go.Operand renaming tmp → Jq
open Go Go.Proofs
namespace Go.Vi
set_option maxRecDepth 100000
set_option maxHeartbeats 4000000
theorem BB{H:List Blk}{s:S8}{ws:List (BitVec 32)}:(CW GV Γd H false (sub JD 1) (acS s ws 64) (.exit 2) (zba s ws)):=by
 exact zx [.st (.mask [0,4])] [.b false] (.c (show Qd (64<64)=false from rfl) .n)
theorem FQ{H:List Blk}{s v:S8}{ws:List (BitVec 32)}:(CW GV Γd H false (sub JD 2) (adS s ws v 64) (.exit 4) (Qo 144 0 9 2 [.var s.row,.var (ws.map w32),.var v.row])):=by
 exact zx [.st (.mask [0,9])] [.b false] (.c (show Qd (64<64)=false from rfl) .n)
abbrev zb1(a:Int):List D:=mkT 144 0 [QY,XA,(129,int a)]
abbrev aeS(ss:List (BitVec 32))(ws:List (BitVec 32))(vs:List (BitVec 32))(i:Int):AS:={t:=(zb1 i),h:=[.var (ss.map w32),.var (ws.map w32),.var (vs.map w32)],m:=[]}
theorem FR{H:List Blk}{ss ws vs:List (BitVec 32)}{i:Nat}(hlt:Qd ((i:Int)<8)=true)(hw:GY.wrap ((i:Int)+1)=((i+1:Nat):Int))(hs:i<ss.length)(hv:i<vs.length)(hr:inR (i:Int) 8=true):(CW GV Γd H false (sub JD 3) (aeS ss ws vs i) .normal (aeS (ss.set i (ss.getD i 0+vs.getD i 0)) ws vs ((i+1:Nat):Int))):=by
 let v0:List Blk:=[.var (GU w32 (Lx ss i (HC ss i 0+HC vs i 0))),.var (GU w32 ws),.var (GU w32 vs)]
 let v1:List Blk:=[.var (GU w32 ss),.var (GU w32 ws),.var (GU w32 vs)]
 refine zX {t:=mkT 144 0 [(0,.ref (.ptr 0 0)),(9,.ref (.ptr 2 0)),(129,int (G1 GY ((↑i:Int)+1)))],h:=v0,m:=[]} Hz [.st (.mask [0,9,129])] [.b true,.ov 136 (w32 (HC ss i 0)),.ov 139 (w32 (HC vs i 0)),.oh 10142 IM v0] (.c hlt (.c hr (.c (show aD GV v1 116 (.ref (.ptr 0 (0+Hh (↑i:Int)*1)))=some (Hf (G2 (GW GX (↑(GT (HC ss i 0)):Int)))) from ?_) (.c hr (.c (show aD GV v1 116 (.ref (.ptr 2 (0+Hh (↑i:Int)*1)))=some (Hf (G2 (GW GX (↑(GT (HC vs i 0)):Int)))) from ?_) (.c hr (.c (show @Eq (Option (List Blk)) (aw GV v1 116 (.ref (.ptr 0 (0+Hh (↑i:Int)*1))) (Hf (G2 (GW GX (G1 GX ((↑(GT (HC ss i 0)):Int)+(↑(GT (HC vs i 0)):Int))))))) (some v0) from ?_) (.e (.ref (.ptr 0 0)) (.c hr (.e (.ref (.ptr 0 (0+Hh (↑i:Int)*(fun x=>x.size) GV.types[116]))) (.c (show List.head? (Hb (0+Hh (↑i:Int)*1) (GU w32 ss))=some (Hf (G2 (GW GX (↑(GT (HC ss i 0)):Int)))) from ?_) (.c hr (.e (.ref (.ptr 2 (0+Hh (↑i:Int)*(fun x=>x.size) GV.types[116]))) (.c (show List.head? (Hb (0+Hh (↑i:Int)*1) (GU w32 vs))=some (Hf (G2 (GW GX (↑(GT (HC vs i 0)):Int)))) from ?_) (.e (.ref (.ptr 0 0)) (.c hr (.e (.ref (.ptr 0 (0+Hh (↑i:Int)*(fun x=>x.size) GV.types[116]))) .n))))))))))))))))) (by subst v0 v1;first|rfl|(simp only[hw]<;>rfl)) (by subst v0 v1;first|rfl|(simp only[hw]<;>rfl))<;>subst v0 v1<;>(first|assumption|exact vM rfl hs|exact vM rfl hv|exact mh (b:=0) rfl rfl hs|exact mh (b:=2) rfl rfl hv|exact uP (b:=0) (by simp only[AH,ul]) rfl rfl hs rfl|exact hr)
abbrev Z5:D:=lit (.int .u32 0)
abbrev z64:List D:=[Z5,Z5,Z5,Z5,Z5,Z5,Z5,Z5,Z5,Z5,Z5,Z5,Z5,Z5,Z5,Z5,Z5,Z5,Z5,Z5,Z5,Z5,Z5,Z5,Z5,Z5,Z5,Z5,Z5,Z5,Z5,Z5,Z5,Z5,Z5,Z5,Z5,Z5,Z5,Z5,Z5,Z5,Z5,Z5,Z5,Z5,Z5,Z5,Z5,Z5,Z5,Z5,Z5,Z5,Z5,Z5,Z5,Z5,Z5,Z5,Z5,Z5,Z5,Z5]
theorem FS{H:List Blk}{s v:S8}{ws:List (BitVec 32)}:(CW GV Γd H false (sub JD 3) {t:=(zb1 8),h:=(YM s ws v),m:=[]} (.exit 6) (QG 144 [.var s.row,.var (ws.map w32),.var v.row])):=by
 exact zx YI [.b false] (.c (show Qd (8<8)=false from rfl) .n)
def ws0(bs:List (BitVec 8))(n:Nat):List (BitVec 32):=(H7 n).foldl (fun l k=>l.set k (mg (bs.drop (4*k)))) (HA 64 0)
def ws1(ws:List (BitVec 32))(n:Nat):List (BitVec 32):=(H7 n).foldl (fun l k=>l.set (16+k) (sch l (16+k))) ws
def vR(ws:List (BitVec 32))(s:S8)(n:Nat):S8:=(H7 n).foldl (fun v t=>rnd v (numL.getD t 0) (ws.getD t 0)) s
def S8.toL(s:S8):List (BitVec 32):=[s.a,s.b,s.c,s.d,s.e,s.f,s.g,s.h]
def ssR(ss vs:List (BitVec 32))(n:Nat):List (BitVec 32):=(H7 n).foldl (fun l k=>l.set k (l.getD k 0+vs.getD k 0)) ss
def addS(s v:S8):S8:=⟨s.a+v.a,s.b+v.b,s.c+v.c,s.d+v.d,s.e+v.e,s.f+v.f,s.g+v.g,s.h+v.h⟩
def sR(s:S8)(bs:List (BitVec 8)):S8:=addS s (vR (ws1 (ws0 bs 16) 48) s 64)
theorem aH{α:Type}(f:α→Nat→α)(a:α)(n:Nat):(H7 (n+1)).foldl f a=f ((H7 n).foldl f a) n:=by
 rw[List.range_succ,List.foldl_append];rfl
theorem fM{α:Type}(f:List α→Nat→List α)(hf:∀l k,(f l k).length=l.length):∀(n:Nat) (l:List α),((H7 n).foldl f l).length=l.length:=by
 intro n l
 induction n with
 | zero=>rfl
 | succ n ih=>rw[aH,hf,ih]
theorem sS(bs:List (BitVec 8))(n:Nat):(ws0 bs n).length=64:=by
 unfold ws0;rw[fM _ (by intros;simp)];simp
theorem zb(ws:List (BitVec 32))(n:Nat):(ws1 ws n).length=ws.length:=by
 unfold ws1;rw[fM _ (by intros;simp)]
theorem FT(ss vs:List (BitVec 32))(n:Nat):(ssR ss vs n).length=ss.length:=by
 unfold ssR;rw[fM _ (by intros;simp)]
theorem fc{z:Int}{i n:Nat}(hz:z=i)(hi:i<n):inR z n=true:=by subst hz;simp[inR];omega
theorem ab_l{H:List Blk}{s:S8}{bs:List (BitVec 8)}(hb:bs.length=64):CW GV Γd H false (.loop (sub JD 0)) (abS s bs (ws0 bs 0) 0) (.exit 0) (zba s (ws0 bs 16)):=by
 refine Jb 16 (fun i=>abS s bs (ws0 bs i) (i:Int)) (by simp) (fun i hi=>?_) Bz
 have e:ws0 bs (i+1)=(ws0 bs i).set i (mg (bs.drop (4*i))):=by unfold ws0;rw[aH]
 rw[e]
 have hn:i<(ws0 bs i).length:=by rw[sS];omega
 exact AN (by simp;omega) (wrap_succ hi (by omega)) (by rw[wrap_i64 (by omega) (by omega)];omega) (by omega) hn (fc rfl (by omega)) (EE (by simp;omega))
theorem ac_l{H:List Blk}{s:S8}{ws:List (BitVec 32)}(hb:ws.length=64):CW GV Γd H false (.loop (sub JD 1)) (acS s ws 16) (.exit 2) (zba s (ws1 ws 48)):=by
 refine Jb 48 (fun i=>acS s (ws1 ws i) ((16+i:Nat):Int)) (by simp) (fun i hi=>?_) BB
 have e:ws1 ws (i+1)=(ws1 ws i).set (16+i) (sch (ws1 ws i) (16+i)):=by unfold ws1;rw[aH]
 rw[e]
 have hl:(ws1 ws i).length=64:=by rw[zb,hb]
 have w (k:Nat) (hk:k≤16):GY.wrap (((16+i:Nat):Int) - (k:Int))=((16+i - k:Nat):Int):=by rw[wrap_i64 (by omega) (by omega)];omega
 exact BA (by simp;omega) (wrap_succ (n:=64) (by omega) (by omega)) (w 15 (by omega)) (w 16 (by omega)) (w 7 (by omega)) (w 2 (by omega)) (by omega) (by omega) (by omega) (by omega) (by omega) (fc rfl (by omega)) (fc (w 15 (by omega)) (by omega)) (fc (w 16 (by omega)) (by omega)) (fc (w 7 (by omega)) (by omega)) (fc (w 2 (by omega)) (by omega))
theorem ad_l{H:List Blk}{s:S8}{ws:List (BitVec 32)}(hb:ws.length=64):CW GV Γd H false (.loop (sub JD 2)) (adS s ws s 0) (.exit 4) (Qo 144 0 9 2 [.var s.row,.var (ws.map w32),.var (vR ws s 64).row]):=by
 refine Jb 64 (fun i=>adS s ws (vR ws s i) (i:Int)) (by simp) (fun i hi=>?_) FQ
 have e:vR ws s (i+1)=rnd (vR ws s i) (numL.getD i 0) (ws.getD i 0):=by unfold vR;rw[aH]
 rw[e]
 exact FP (by simp;omega) (wrap_succ hi (by omega)) (by omega) (fc rfl (by omega)) hi
theorem ae_l{H:List Blk}{s v:S8}{ws:List (BitVec 32)}:CW GV Γd H false (.loop (sub JD 3)) {t:=(zb1 0),h:=(YM s ws v),m:=[]} (.exit 6) (QG 144 [.var (addS s v).row,.var (ws.map w32),.var v.row]):=by
 have:=Jb (P:=GV) (Γ:=Γd) (h0:=H) (rd:=false) (c:=sub JD 3) 8 (fun i=>aeS (ssR s.toL v.toL i) ws v.toL (i:Int)) (e:=.exit 6) (by simp) (fun i hi=>?_) (FS (s:=addS s v) (v:=v) (ws:=ws))
 ·exact this
 ·have e:ssR s.toL v.toL (i+1)=(ssR s.toL v.toL i).set i ((ssR s.toL v.toL i).getD i 0+v.toL.getD i 0):=by unfold ssR;rw[aH]
  rw[e]
  exact FR (by simp;omega) (wrap_succ hi (by omega)) (by rw[FT];exact hi) hi (fc rfl hi)
theorem BC{s v r:S8}{bs:List (BitVec 8)}{wa wb:List (BitVec 32)}
  (h0:CW GV Γd [.var s.row] false (.loop (sub JD 0)) {t:=mkT 144 0 [QY,(1,byD bs),YS,(14,int 0)],h:=[.var s.row,.var z64],m:=[]} (.exit 0) (zba s wa))
  (h1:CW GV Γd [.var s.row] false (.loop (sub JD 1)) (acS s wa 16) (.exit 2) (zba s wb))
  (h2:CW GV Γd [.var s.row] false (.loop (sub JD 2)) (adS s wb s 0) (.exit 4) (Qo 144 0 9 2 [.var s.row,.var (wb.map w32),.var v.row]))
  (h3:CW GV Γd [.var s.row] false (.loop (sub JD 3)) {t:=(zb1 0),h:=(YM s wb v),m:=[]} (.exit 6) (QG 144 [.var r.row,.var (wb.map w32),.var v.row])):(Ev GV Γd 74 [.ref (.ptr 0 0),byD bs] [.var s.row] (.tup []) [.var r.row]):=by
 have hl0:=(@h0)
 have hl1:=(@h1)
 have hl2:=(@h2)
 have hl3:=(@h3)
 exact HU (Ev.post (d2:=IZ []) (h2:=[.var (Zb r)]) (φ:=[]) [.st (.trim 1)] (Jj (h':=[.var (Zb r),.var (GU w32 wb),.var (Zb v)]) (d:=IZ []) pok [.sum [0,1,4,14] (HJ 0) {t:=mkT 144 0 [QY,YS],h:=(zb5 s (GU w32 wa)),m:=[]},.sum [0,4,6] (HJ 2) {t:=mkT 144 0 [QY,YS],h:=(zb5 s (GU w32 wb)),m:=[]},.sum [0,4,9,69] (HJ 4) {t:=mkT 144 0 [QY,XA],h:=[.var (Zb s),.var (GU w32 wb),.var (Zb v)],m:=[]},.sum [0,9,129] (HJ 6) {t:=mkT 144 0 [],h:=[.var (Zb r),.var (GU w32 wb),.var (Zb v)],m:=[]}] (by kernel_rfl) (.c hl0 (.c hl1 (.c hl2 (.c hl3 .n))))) (by kernel_rfl) trivial) (by rfl) (by rfl)
theorem rF{s:S8}{bs:List (BitVec 8)}(hb:bs.length=64):Ev GV Γd 74 [.ref (.ptr 0 0),byD bs] [.var s.row] (.tup []) [.var (sR s bs).row] :=
 BC (ab_l hb) (ac_l (sS bs 16)) (ad_l (by rw[zb,sS])) ae_l
abbrev byV(b:BitVec 8):List D:=[w8 b]
def bOf(u:BitVec 64)(i:Nat):BitVec 8:=(u >>> (8*i)).setWidth 8
theorem mw(b:BitVec 64):G5 8 (b.toNat:Int)=b.setWidth 8:=by
 apply JK
 rw[Kp];simp
theorem uQ{u:BitVec 64}{i:Nat}(hi:i<8)(hsh:GY.wrap (8*(i:Int))=((8*i:Nat):Int)):
  GZ.wrap (Jf (u.toNat:Int) (2 ^ min (Hh (GY.wrap (8*(i:Int)))) 64))=((bOf u i).toNat:Int):=by
 rw[hsh,Iw,Nat.min_eq_left (by omega),sH,wr8,mw];rfl
abbrev Wv(a:Int):D:=(.p (.v (.int .u8 a)))
abbrev WV(a b:Nat):D:=(.ref (.vp a 0 b 0))
theorem zc{hp hp':List Blk}{l:List (BitVec 8)}{k:Nat}{x:BitVec 8}{y:Int}(hy:y=(x.toNat:Int))(hb:hp[0]? = some (.vec (l.map byV) 0 1))(hi:k<l.length)(he:hp'=hp.set 0 (.vec ((l.set k x).map byV) 0 1)):
  aw GV hp 5 (WV 0 k) (Wv y)=some hp':=by
 subst hy;subst he
 have e2:szOf GV 5=some 1:=by kernel_rfl
 have e3:KL (Wv (x.toNat:Int))=some [w8 x]:=rfl
 have e4:(l.map byV)[k]? = some (byV l[k]):=by simp[hi]
 have e5:aF (byV l[k]) 0 [w8 x]=byV x:=rfl
 have e6:(l.set k x).map byV=(l.map byV).set k (byV x):=by rw[MJ]
 simp only[aw,e2,e3,Ju,if_true,hb,e4,e5,e6,I7,Hq]
abbrev Vt(a b:Nat):D:=Jd (.vp a 0 b 0)
theorem pu_ix{hp:List Blk}{l:List (BitVec 8)}{at' n k:Nat}{c:Option Nat}{z:Int}(hn:at'+z.toNat=k)(hr:inR z n=true):
  aJ GV (.vec (l.map byV) 0 1::hp) 23 (.ref (.vs 0 0 at' n c)) (int z)=some (true,(Vt 0 k)):=by
 subst hn
 have e1:GV.underlying 23=some (.slice 5):=by kernel_rfl
 have e2:szOf GV 5=some 1:=by kernel_rfl
 simp only[aJ,intOf?,e1,e2,Hu,hr]
 rfl
abbrev Qs(a:List (BitVec 8))(b:Nat):List Blk:=[.vec (a.map byV) b 1]
abbrev puS(l:List (BitVec 8))(at' n:Nat)(c:Option Nat)(u:BitVec 64)(i:Int):AS:={t:=mkT 23 0 [(0,.ref (.vs 0 0 at' n c)),(1,w64 u),(6,int n),(7,int i)],h:=(Qs l 0),m:=[]}
abbrev VK(a:BitVec 64)(b:Nat):D:=(Hf (G2 (GW GZ (G1 GZ (Jf (↑(GT a):Int) (2 ^ min (Hh (G1 GY (8*(↑b:Int)))) 64))))))
theorem FU{H:List Blk}{l:List (BitVec 8)}{at' n:Nat}{c:Option Nat}{u:BitVec 64}{i k:Nat}(hlt:Qd ((i:Int)<(n:Int))=true)(hw:GY.wrap ((i:Int)+1)=((i+1:Nat):Int))(hsh:GY.wrap (8*(i:Int))=((8*i:Nat):Int))(h0:Qd (0≤GY.wrap (8*(i:Int)))=true)(hi:i<8)(hn:at'+(GY.wrap (GY.wrap ((n:Int) - 1) - (i:Int))).toNat=k)(hl:k<l.length)(hr:inR (GY.wrap (GY.wrap ((n:Int) - 1) - (i:Int))) n=true):(CW GV Γ0 H false (sub KP 0) (puS l at' n c u i) .normal (puS (l.set k (bOf u i)) at' n c u ((i+1:Nat):Int))):=by
 let v0:List Blk:=[.vec (GU byV (Lx l k (bOf u i))) 0 1]
 refine zX {t:=mkT 23 0 [(0,.ref (.vs 0 0 at' n c)),(1,u64 (↑(GT u):Int)),(6,int (↑n:Int)),(7,int (G1 GY ((↑i:Int)+1)))],h:=v0,m:=[]} Hz [.st (.mask [0,1,6,7])] [.b true,.ov 21 (.ref (.vp 0 0 k 0)),.oh 10021 IM v0] (.c hlt (.c h0 (.c (show @Eq (Option (Bool×D)) (some (inR (G1 GY (G1 GY ((↑n:Int) - 1) - (↑i:Int))) n,.ref (.vp 0 0 (at'+Hh (G1 GY (G1 GY ((↑n:Int) - 1) - (↑i:Int)))) 0))) (some (true,Jd (.vp 0 0 k 0))) from(by subst v0;first|(simp only[hr];done)|first|assumption|exact zc (uQ hi hsh) rfl hl rfl|exact pu_ix (hp:=[]) (l:=l) (c:=c) hn hr)) (.c (show @Eq (Option (List Blk)) (aw GV [.vec (GU byV l) 0 1] 5 (.ref (.vp 0 0 k 0)) (Hf (G2 (GW GZ (G1 GZ (Jf (↑(GT u):Int) (2 ^ min (Hh (G1 GY (8*(↑i:Int)))) 64))))))) (some v0) from(by subst v0;first|assumption|exact zc (uQ hi hsh) rfl hl rfl|exact pu_ix (hp:=[]) (l:=l) (c:=c) hn hr)) .n)))) ?_ ?_<;>subst v0<;>(first|rfl|(simp only[hw]<;>rfl))
theorem FV{H:List Blk}{l:List (BitVec 8)}{at' n:Nat}{c:Option Nat}{u:BitVec 64}(hlt:Qd ((n:Int)<(n:Int))=false):(CW GV Γ0 H false (sub KP 0) (puS l at' n c u n) (.exit 0) {t:=mkT 23 0 [],h:=(Qs l 0),m:=[]}):=by
 exact zx YI [.b false] (.c hlt .n)
def puR(l:List (BitVec 8))(at' n:Nat)(u:BitVec 64)(k:Nat):List (BitVec 8):=(H7 k).foldl (fun l i=>l.set (at'+(n - 1 - i)) (bOf u i)) l
theorem my(l:List (BitVec 8))(at' n:Nat)(u:BitVec 64)(k:Nat):(puR l at' n u k).length=l.length:=by
 unfold puR;rw[fM _ (by intros;simp)]
theorem pu_l{H:List Blk}{l:List (BitVec 8)}{at' n:Nat}{c:Option Nat}{u:BitVec 64}(hn:n≤8)(hl:at'+n≤l.length):
  CW GV Γ0 H false (.loop (sub KP 0)) (puS l at' n c u 0) (.exit 0) {t:=mkT 23 0 [],h:=(Qs (puR l at' n u n) 0),m:=[]}:=by
 refine Jb n (fun i=>puS (puR l at' n u i) at' n c u (i:Int)) (by simp) (fun i hi=>?_) (FV (by simp))
 have e:puR l at' n u (i+1)=(puR l at' n u i).set (at'+(n - 1 - i)) (bOf u i):=by unfold puR;rw[aH]
 rw[e]
 have h8:GY.wrap (8*(i:Int))=((8*i:Nat):Int):=by rw[wrap_i64 (by omega) (by omega)];omega
 have hz:GY.wrap (GY.wrap ((n:Int) - 1) - (i:Int))=((n - 1 - i:Nat):Int):=by
  rw[wrap_i64 (n:=(n:Int) - 1) (by omega) (by omega),wrap_i64 (by omega) (by omega)];omega
 exact FU (by simp;omega) (wrap_succ hi (by omega)) h8 (by rw[h8];simp;omega) (by omega) (by rw[hz,Iw]) (by rw[my];omega) (fc hz (by omega))
theorem put_a{l r:List (BitVec 8)}{at' n:Nat}{c:Option Nat}{u:BitVec 64}
  (hc:CW GV Γ0 (Qs l 0) false (.loop (sub KP 0)) (puS l at' n c u 0) (.exit 0) {t:=mkT 23 0 [],h:=(Qs r 0),m:=[]}):(Ev GV Γ0 75 [.ref (.vs 0 0 at' n c),w64 u] (Qs l 0) (.tup []) (Qs r 0)):=by
 have hl0:=(@hc)
 exact HU (Jj (h':=[.vec (GU byV r) 0 1]) (d:=IZ []) pok [.sum [0,1,6,7] (HJ 0) (QG 23 [.vec (GU byV r) 0 1])] (by kernel_rfl) (.c hl0 .n)) (by rfl) (by rfl)
theorem zd{l:List (BitVec 8)}{at' n:Nat}{c:Option Nat}{u:BitVec 64}(hn:n≤8)(hl:at'+n≤l.length):Ev GV Γ0 75 [.ref (.vs 0 0 at' n c),w64 u] (Qs l 0) (.tup []) (Qs (puR l at' n u n) 0) :=
 put_a (pu_l hn hl)
theorem ze{hp hp':List Blk}{l:List (BitVec 8)}{k:Nat}{x:BitVec 8}{y:Int}(hy:y=(x.toNat:Int))(hb:hp[0]? = some (.var (l.map w8)))(hi:k<l.length)(he:hp'=hp.set 0 (.var ((l.set k x).map w8))):
  aw GV hp 5 (YW k) (Wv y)=some hp':=by
 subst hy;subst he
 have e2:szOf GV 5=some 1:=by kernel_rfl
 have e3:KL (Wv (x.toNat:Int))=some [w8 x]:=rfl
 have e4:k+1≤(l.map w8).length:=by simp;omega
 have e5:aF (l.map w8) k [w8 x]=(l.set k x).map w8:=by
  simp only[aF,Ju]
  rw[MJ,List.set_eq_take_append_cons_drop,if_pos (by simpa using hi)]
  simp
 simp only[aw,e2,e3,Ju,if_true,hb,e4,e5]
theorem pv_ix{hp:List Blk}{l:List (BitVec 8)}{at' n k:Nat}{z:Int}(hn:at'+z.toNat=k)(hr:inR z n=true):
  aJ GV (.var (l.map w8)::hp) 23 (.ref (.av 0 at' n 1)) (int z)=some (true,Jd (.ptr 0 k)):=by
 subst hn
 have e1:GV.underlying 23=some (.slice 5):=by kernel_rfl
 have e2:szOf GV 5=some 1:=by kernel_rfl
 simp only[aJ,intOf?,e1,e2,Hu,hr]
 simp
abbrev Yi(a:List (BitVec 8)):List Blk:=[.var (a.map w8)]
abbrev pvS(l:List (BitVec 8))(at' n:Nat)(u:BitVec 64)(i:Int):AS:={t:=mkT 23 0 [(0,.ref (.av 0 at' n 1)),(1,w64 u),(6,int n),(7,int i)],h:=(Yi l),m:=[]}
abbrev Wb(a:List (BitVec 8)):List Blk:=[.var (GU w8 a)]
theorem FX{H:List Blk}{l:List (BitVec 8)}{at' n:Nat}{u:BitVec 64}{i k:Nat}(hlt:Qd ((i:Int)<(n:Int))=true)(hw:GY.wrap ((i:Int)+1)=((i+1:Nat):Int))(hsh:GY.wrap (8*(i:Int))=((8*i:Nat):Int))(h0:Qd (0≤GY.wrap (8*(i:Int)))=true)(hi:i<8)(hn:at'+(GY.wrap (GY.wrap ((n:Int) - 1) - (i:Int))).toNat=k)(hl:k<l.length)(hr:inR (GY.wrap (GY.wrap ((n:Int) - 1) - (i:Int))) n=true):(CW GV Γ0 H false (sub KP 0) (pvS l at' n u i) .normal (pvS (l.set k (bOf u i)) at' n u ((i+1:Nat):Int))):=by
 let v0:List Blk:=[.var (GU w8 (Lx l k (bOf u i)))]
 refine zX {t:=mkT 23 0 [(0,.ref (.av 0 at' n 1)),(1,u64 (↑(GT u):Int)),(6,int (↑n:Int)),(7,int (G1 GY ((↑i:Int)+1)))],h:=v0,m:=[]} Hz [.st (.mask [0,1,6,7])] [.b true,.ov 21 (.ref (.ptr 0 k)),.oh 10021 IM v0] (.c hlt (.c h0 (.c (show @Eq (Option (Bool×D)) (some (inR (G1 GY (G1 GY ((↑n:Int) - 1) - (↑i:Int))) n,.ref (.ptr 0 (at'+Hh (G1 GY (G1 GY ((↑n:Int) - 1) - (↑i:Int)))*(fun x=>x.size) GV.types[5])))) (some (true,Jd (.ptr 0 k))) from(by subst v0;first|(simp only[hr];done)|first|assumption|exact ze (uQ hi hsh) rfl hl rfl|exact pv_ix (hp:=[]) (l:=l) hn hr)) (.c (show @Eq (Option (List Blk)) (aw GV [.var (GU w8 l)] 5 (.ref (.ptr 0 k)) (Hf (G2 (GW GZ (G1 GZ (Jf (↑(GT u):Int) (2 ^ min (Hh (G1 GY (8*(↑i:Int)))) 64))))))) (some v0) from(by subst v0;first|assumption|exact ze (uQ hi hsh) rfl hl rfl|exact pv_ix (hp:=[]) (l:=l) hn hr)) .n)))) ?_ ?_<;>subst v0<;>(first|rfl|(simp only[hw]<;>rfl))
theorem FY{H:List Blk}{l:List (BitVec 8)}{at' n:Nat}{u:BitVec 64}(hlt:Qd ((n:Int)<(n:Int))=false):(CW GV Γ0 H false (sub KP 0) (pvS l at' n u n) (.exit 0) (QG 23 [.var (l.map w8)])):=by
 exact zx YI [.b false] (.c hlt .n)
theorem pv_l{H:List Blk}{l:List (BitVec 8)}{at' n:Nat}{u:BitVec 64}(hn:n≤8)(hl:at'+n≤l.length):
  CW GV Γ0 H false (.loop (sub KP 0)) (pvS l at' n u 0) (.exit 0) (QG 23 [.var ((puR l at' n u n).map w8)]):=by
 refine Jb n (fun i=>pvS (puR l at' n u i) at' n u (i:Int)) (by simp) (fun i hi=>?_) (FY (by simp))
 have e:puR l at' n u (i+1)=(puR l at' n u i).set (at'+(n - 1 - i)) (bOf u i):=by unfold puR;rw[aH]
 rw[e]
 have h8:GY.wrap (8*(i:Int))=((8*i:Nat):Int):=by rw[wrap_i64 (by omega) (by omega)];omega
 have hz:GY.wrap (GY.wrap ((n:Int) - 1) - (i:Int))=((n - 1 - i:Nat):Int):=by
  rw[wrap_i64 (n:=(n:Int) - 1) (by omega) (by omega),wrap_i64 (by omega) (by omega)];omega
 exact FX (by simp;omega) (wrap_succ hi (by omega)) h8 (by rw[h8];simp;omega) (by omega) (by rw[hz,Iw]) (by rw[my];omega) (fc hz (by omega))
theorem putv_a{l r:List (BitVec 8)}{at' n:Nat}{u:BitVec 64}
  (hc:CW GV Γ0 (Yi l) false (.loop (sub KP 0)) (pvS l at' n u 0) (.exit 0) (QG 23 [.var (r.map w8)])):(Ev GV Γ0 75 [.ref (.av 0 at' n 1),w64 u] (Yi l) (.tup []) (Yi r)):=by
 have hl0:=(@hc)
 exact HU (Jj (h':=(Wb r)) (d:=IZ []) pok [.sum [0,1,6,7] (HJ 0) (QG 23 [.var (GU w8 r)])] (by kernel_rfl) (.c hl0 .n)) (by rfl) (by rfl)
theorem FZ{l:List (BitVec 8)}{at' n:Nat}{u:BitVec 64}(hn:n≤8)(hl:at'+n≤l.length):Ev GV Γ0 75 [.ref (.av 0 at' n 1),w64 u] (Yi l) (.tup []) (Yi (puR l at' n u n)) :=
 putv_a (pv_l hn hl)
abbrev Wq(a:Nat):List (List D):=(HA a (0:BitVec 8)).map byV
def zv128:List (List D):=(Wq 128)
def zb32:List (BitVec 8):=HA 32 0
def Cn(r:List (BitVec 8)):List (BitVec 8):=r++HA (128 - r.length) 0
def GR(r:List (BitVec 8)):List (BitVec 8):=(Cn r).set r.length 0x80
theorem pE{r:List (BitVec 8)}(h:r.length≤64):(Cn r).length=128:=by simp[Cn];omega
theorem iX{r:List (BitVec 8)}(h:r.length≤64):(GR r).length=128:=by simp[GR,pE h]
abbrev Yc:Ref:=(.vs 2 0 0 64 (some 128))
theorem Co{h0 h1:Blk}:eo GV [h0,h1] 23 (int 64) (int 128)=some (true,.ref Yc,[h0,h1,.vec zv128 0 1]):=by kernel_rfl
theorem zf{h:List Blk}(r:List (BitVec 8)):rowsD h (byD r)=some (r.map byV):=by
 simp only[rowsD,Jz];rfl
theorem Cp{h0 h1:Blk}{r:List (BitVec 8)}(hr:r.length≤64):builtinD GV [h0,h1,.vec zv128 0 1] .copy [23,23] [.ref (.vs 2 0 0 64 (some 128)),byD r]=some (true,int ((r.map byR).length:Int),[h0,h1,.vec ((Cn r).map byV) 0 1]):=by
 have e1:cn GV 23=some 5:=by kernel_rfl
 have e2:szOf GV 5=some 1:=by kernel_rfl
 have e3:(r.map byV).all (rowOk 1)=true:=by
  rw[Hs];intro x hx;obtain⟨b,_,rfl⟩:=HS.1 hx;rfl
 have e5:mN [h0,h1,.vec zv128 0 1] (.ref (.vs 2 0 0 64 (some 128)))=some (2,0,zv128,1,0,64):=by
  simp[mN]
 have e6:min r.length 64=r.length:=by omega
 have e7:(r.map byV).take r.length=r.map byV:=H3 (by simp)
 have e8:zv128.drop (0+r.length)=(HA (128 - r.length) (0:BitVec 8)).map byV:=by
  unfold zv128;rw[←LO,List.drop_replicate,I7]
 have e9:rV (byD r)=true:=rfl
 have hh:(if r.length=0 then [h0,h1,J1 zv128 0 1] else [h0,h1,J1 zv128 0 1].set 2 (.vec (zv128.take 0++(r.map byV++zv128.drop (0+r.length))) 0 1))=[h0,h1,.vec ((Cn r).map byV) 0 1]:=by
  split
  ·rename_i h
   have:r=[]:=List.eq_nil_of_length_eq_zero h
   subst this;rfl
  ·rw[e8];simp[Cn]
 simp only[builtinD,tm,zL,e1,e2,zf,e5,e6,e7,e9,e3,and_self,if_true,hh,HW]
theorem Cq{h0 h1:Blk}{l:List (BitVec 8)}{k:Nat}(hi:k<l.length):
  aw GV [h0,h1,.vec (l.map byV) 0 1] 5 (WV 2 k) (Wv 128)=some [h0,h1,.vec ((l.set k 0x80).map byV) 0 1]:=by
 have e2:szOf GV 5=some 1:=by kernel_rfl
 have e3:KL (Wv 128)=some [w8 0x80]:=rfl
 have e4:(l.map byV)[k]? = some (byV l[k]):=by simp[hi]
 have e5:aF (byV l[k]) 0 [w8 0x80]=byV 0x80:=rfl
 have e6:(l.set k 0x80).map byV=(l.map byV).set k (byV 0x80):=by rw[MJ]
 have e7:[h0,h1,J1 (l.map byV) 0 1][2]? = some (.vec (l.map byV) 0 1):=rfl
 have e8 (x:Blk):[h0,h1,J1 (l.map byV) 0 1].set 2 x=[h0,h1,x]:=rfl
 simp only[aw,e2,e3,Ju,if_true,e7,e4,e5,e6,I7,Hq,e8]
theorem Cr{h0 h1:Blk}{l:List (List D)}{z:Int}{k:Nat}(hz:z=k)(hk:k<64):aJ GV [h0,h1,.vec l 0 1] 23 (.ref Yc) (int z)=some (true,.ref (.vp 2 0 k 0)):=by
 subst hz
 have e1:GV.underlying 23=some (.slice 5):=by kernel_rfl
 have e2:szOf GV 5=some 1:=by kernel_rfl
 have hr:inR (k:Int) 64=true:=fc rfl hk
 have e7:[h0,h1,J1 l 0 1][2]? = some (.vec l 0 1):=rfl
 simp only[aJ,intOf?,e1,e2,e7,hr,Iw,I7]
 rfl
theorem zg{h:List Blk}{bs:List (BitVec 8)}{n:Nat}{z:Int}(hz:z=n)(h4:n≤bs.length):cW GV h 23 (byD bs) none (some (int z)) none=some (true,byD (bs.take n)):=by
 subst hz
 have e1:GV.underlying 23=some (.slice 5):=by kernel_rfl
 have e2:szOf GV 5=some 1:=by kernel_rfl
 have e3:co 0 n bs.length=true:=by simp[co];omega
 have e4:(bs.map byR).all (fun r=>Qd (r.length=1))=true:=by simp[byR]
 simp only[cW,a9,s9,e1,e2,lenD,oy,sliceRow,HD,bT,bA,HW,intOf?,HO,if_false,dQ,e3,e4]
 simp[Ng]
theorem F0{h:List Blk}{bs:List (BitVec 8)}{z:Int}{i:Nat}(hz:z=i)(hi:i≤bs.length):cW GV h 23 (byD bs) (some (int z)) none none=some (true,byD (bs.drop i)):=by
 subst hz
 have e1:GV.underlying 23=some (.slice 5):=by kernel_rfl
 have e2:szOf GV 5=some 1:=by kernel_rfl
 have e3:co (i:Int) bs.length bs.length=true:=by simp[co];omega
 have e4:(bs.map byR).all (fun r=>Qd (r.length=1))=true:=by simp[byR]
 have e5:Hl (bs.length - i) (Hb i (bs.map byR))=(bs.drop i).map byR:=by
  rw[LO,H3 (by simp)]
 simp only[cW,a9,s9,e1,e2,lenD,oy,sliceRow,HD,bT,bA,HW,intOf?,HO,if_false,dQ,e3,e4,Iw,e5]
 simp
theorem zh{h:List Blk}{bs:List (BitVec 8)}{i:Nat}(hi:64*i+64≤bs.length):cW GV h 23 (byD (bs.drop (64*i))) (some (int 64)) none none=some (true,byD (bs.drop (64*(i+1)))):=by
 have:=F0 (h:=h) (bs:=bs.drop (64*i)) (z:=64) (i:=64) rfl (by simp;omega)
 rw[List.drop_drop] at this
 exact this
abbrev fnA:D:=.fn (.func 74) Zi []
abbrev zaR(a c d:D)(e f:List D):AS:={t:=mkT 69 0 [(0,a),Zz,Qi,(4,c),(5,d)],h:=[.var e,.var f],m:=[]}
abbrev suS(z b:List (BitVec 8))(s:S8)(k:Nat):AS:=(zaR (byD b) fnA (byD (b.drop (64*k))) (z.map w8) s.row)
noncomputable abbrev oc(z:List (BitVec 8))(s':S8):List Blk:=[.var (GU w8 z),.var (Zb s')]
noncomputable abbrev od(z:List (BitVec 8))(s:S8):List Blk:=[.var (GU w8 z),.var (Zb s)]
abbrev zbG:D:=D.fn (He 74) Zi []
abbrev zcI(a:List (List Dp))(c:List (Nat × D)):Bool:=co 0 64 (G3 a)&&true&&(true||KN (KJ (evalD Γd (mkT 69 0 c)) (some (Operand.const (GW GY 64)))))
theorem F1{z b:List (BitVec 8)}{s s':S8}{k:Nat}(hge:Qd ((((b.drop (64*k)).map byR).length:Int)≥64)=true)(hl:64≤(b.drop (64*k)).length)(hl2:64*k+64≤b.length)
  (hab:Ev GV Γd 74 [.ref (.ptr 0 0),byD ((b.drop (64*k)).take 64)] [.var s.row] (.tup []) [.var s'.row]):(CW GV Γd [] false (sub IL 0) (suS z b s k) .normal (suS z b s' (k+1))):=by
 let v0:=GU byR (Hb (64*k) b)
 let v1:=Hl 64 (Hb (64*k) b)
 let v2:=Hb (64*(k+1)) b
 refine zx [.st (.mask [0,2,3,4,5])] [.b true,.ov 19 (byD v1),.call (IZ []) (oc z s'),.ov 16 (byD v2)] (.c hge (.c (show @Eq (Option (Bool×D)) (some ((zcI v0 [(0,aa (GU byR b)),Zz,Qi,(4,zbG),(5,aa v0),(12,aa v0),(13,(QI v0)),(14,bool (Qd ((↑(G3 v0):Int)≥64))),(17,zbG),(18,aa v0)])&&Ia v0 fun r=>Qd (G3 r=1),(YU 64 0 v0))) (some (true,(VE v1))) from ?_) (.c (show Ev GV Γd 74 (zcH (VE v1)) (od z s) (IZ []) (oc z s') from(HU (Io (args:=(zcH (VE v1))) (H:=(od z s)) [1] (@hab) (by kernel_rfl) (by kernel_rfl) (by kernel_rfl) trivial trivial) (by kernel_rfl) (by kernel_rfl))) (.c (show @Eq (Option (Bool×D)) (some (co 64 (↑(G3 v0):Int) (G3 v0)&&true&&(true||false)&&Ia v0 fun r=>Qd (G3 r=1),(Q3 v0 64))) (some (true,(VE v2))) from ?_) .n))))<;>subst v0 v1 v2<;>(first|(simp only[hge];done)|first|assumption|exact zg (h:=[]) (z:=64) rfl hl|exact zh (h:=[]) hl2)
theorem F2{z b:List (BitVec 8)}{s:S8}{k:Nat}(hge:Qd ((((b.drop (64*k)).map byR).length:Int)≥64)=false):(CW GV Γd [] false (sub IL 0) (suS z b s k) (.exit 0) (suS z b s k)):=by
 exact zx [.st (.mask [0,2,3,4,5])] [.b false] (.c hge .n)
abbrev Qp(a:List (BitVec 8))(b:S8):List Blk:=[.var (a.map w8),.var b.row,.gone]
abbrev svS(z e:List (BitVec 8))(s:S8)(k:Nat):AS:={t:=mkT 69 0 [Zz,Qi,(4,fnA),(6,byD (e.drop (64*k)))],h:=(Qp z s),m:=[]}
abbrev zaY(a:List (BitVec 8))(b:List D):List Blk:=[.var (GU w8 a),.var b,.gone]
noncomputable abbrev oe(z:List (BitVec 8))(s':S8):List Blk:=(zaY z (Zb s'))
noncomputable abbrev og(z:List (BitVec 8))(s:S8):List Blk:=(zaY z (Zb s))
theorem F3{z b:List (BitVec 8)}{s s':S8}{k:Nat}(hge:Qd ((((b.drop (64*k)).map byR).length:Int)>0)=true)(hl:64≤(b.drop (64*k)).length)(hl2:64*k+64≤b.length)
  (hab:Ev GV Γd 74 [.ref (.ptr 0 0),byD ((b.drop (64*k)).take 64)] [.var s.row] (.tup []) [.var s'.row]):(CW GV Γd [] false (sub IL 1) (svS z b s k) .normal (svS z b s' (k+1))):=by
 let v0:=GU byR (Hb (64*k) b)
 let v1:=Hl 64 (Hb (64*k) b)
 let v2:=Hb (64*(k+1)) b
 refine zx [.st (.mask [2,3,4,6])] [.b true,.ov 51 (byD v1),.call (IZ []) (oe z s'),.ov 48 (byD v2)] (.c hge (.c (show @Eq (Option (Bool×D)) (some ((zcI v0 [Zz,Qi,(4,zbG),(6,aa v0),(44,aa v0),(45,(QI v0)),(46,(VB (G3 v0))),(49,zbG),(50,aa v0)])&&Ia v0 fun r=>Qd (G3 r=1),(YU 64 0 v0))) (some (true,(VE v1))) from ?_) (.c (show Ev GV Γd 74 (zcH (VE v1)) (og z s) (IZ []) (oe z s') from(HU (Io (args:=(zcH (VE v1))) (H:=(og z s)) [1] (@hab) (by kernel_rfl) (by kernel_rfl) (by kernel_rfl) trivial trivial) (by kernel_rfl) (by kernel_rfl))) (.c (show @Eq (Option (Bool×D)) (some (co 64 (↑(G3 v0):Int) (G3 v0)&&true&&(true||false)&&Ia v0 fun r=>Qd (G3 r=1),(Q3 v0 64))) (some (true,(VE v2))) from ?_) .n))))<;>subst v0 v1 v2<;>(first|(simp only[hge];done)|first|assumption|exact zg (h:=[]) (z:=64) rfl hl|exact zh (h:=[]) hl2)
abbrev Vk:List Ans:=[.st (.mask [2,3])]
theorem F4{z b:List (BitVec 8)}{s:S8}{k:Nat}(hge:Qd ((((b.drop (64*k)).map byR).length:Int)>0)=false):(CW GV Γd [] false (sub IL 1) (svS z b s k) (.exit 2) {t:=mkT 69 0 [Zz,Qi],h:=(Qp z s),m:=[]}):=by
 exact zx Vk [.b false] (.c hge .n)
abbrev swS(l:List (BitVec 8))(s:S8)(i:Int):AS:={t:=mkT 69 0 [Zz,(53,.agg s.row),(54,int i)],h:=(Qp l s),m:=[]}
theorem sw_ix{s:S8}{z:Int}{i:Nat}(hz:z=i)(hi:i<8):mY GV 118 (.agg s.row) (int z)=some (true,w32 (s.toL.getD i 0)):=by
 subst hz
 have:i=0∨i=1∨i=2∨i=3∨i=4∨i=5∨i=6∨i=7:=by omega
 rcases this with rfl|rfl|rfl|rfl|rfl|rfl|rfl|rfl<;>(show _=_;kernel_rfl)
theorem sw_sl{H:List Blk}{l:List (BitVec 8)}{z y:Int}{i:Nat}(hz:z=((4*i:Nat):Int))(hy:y=((4*i+4:Nat):Int))(hi:i<8):
  cW GV (.var (l.map w8)::H) 51 ZK (some (int z)) (some (int y)) none=some (true,Jd (.av 0 (4*i) 4 1)):=by
 subst hz;subst hy
 have e1:GV.underlying 51=some (.array 32 5):=by kernel_rfl
 have e2:szOf GV 5=some 1:=by kernel_rfl
 have e3:co ((4*i:Nat):Int) ((4*i+4:Nat):Int) 32=true:=by simp[co];omega
 have e4:¬(((4*i+4:Nat):Int)=((4*i:Nat):Int)):=by omega
 simp only[cW,eu,a9,s9,e1,e2,HD,intOf?,Hu,e3,e4,if_false,Iw,I7,Nat.mul_one]
 simp
theorem wh(b:BitVec 32):G5 64 (b.toNat:Int)=b.setWidth 64:=by
 apply JK
 rw[Kp];simp
theorem cN(f:Ref→D):∀l:List (BitVec 8),HP f (l.map w8)=l.map w8
 | []=>rfl
 | b::l=>by simp only[Il,HP,D.mapR,cN f l]
abbrev Xh(a:Ref)(b:Int):List D:=[.ref (a),.p (.v (.int .u64 b))]
theorem F5{l l':List (BitVec 8)}{s:S8}{at' n:Nat}{y:Int}(he:Ev GV Γ0 75 (Xh (.av 0 at' n 1) y) (Yi l) (.tup []) (Yi l')):
  Ev GV Γ0 75 (Xh (.av 0 at' n 1) y) (Qp l s) (.tup []) (Qp l' s):=by
 refine HU (Io (H:=(Qp l s)) [0] he rfl rfl ?_ trivial trivial) rfl ?_
 ·show [Blk.var (HP _ (l.map w8))]=_
  rw[cN]
 ·show [Blk.var (HP _ (l'.map w8)),Blk.var s.row,Blk.gone]=_
  rw[cN]
noncomputable abbrev oi(l':List (BitVec 8))(s:S8):List Blk:=(zaY l' (Zb s))
theorem F6{l l':List (BitVec 8)}{s:S8}{i:Nat}(hlt:Qd ((i:Int)<8)=true)(hw:GY.wrap ((i:Int)+1)=((i+1:Nat):Int))(h4:GY.wrap (4*(i:Int))=((4*i:Nat):Int))(h5:GY.wrap (GY.wrap (4*(i:Int))+4)=((4*i+4:Nat):Int))(hi:i<8)
  (hput:Ev GV Γ0 75 [.ref (.av 0 (4*i) 4 1),.p (.v (.int .u64 (Hg.wrap ((s.toL.getD i 0).toNat:Int))))] [.var (l.map w8),.var s.row,.gone] (.tup []) [.var (l'.map w8),.var s.row,.gone]):(CW GV Γd [] false (sub IL 2) (swS l s i) .normal (swS l' s ((i+1:Nat):Int))):=by
 refine zX {t:=mkT 69 0 [(2,.ref (.ptr 0 0)),(53,Hc [Hf (G2 (GW GX (↑(GT s.a):Int))),Hf (G2 (GW GX (↑(GT s.b):Int))),Hf (G2 (GW GX (↑(GT s.c):Int))),Hf (G2 (GW GX (↑(GT s.d):Int))),Hf (G2 (GW GX (↑(GT s.e):Int))),Hf (G2 (GW GX (↑(GT s.f):Int))),Hf (G2 (GW GX (↑(GT s.g):Int))),Hf (G2 (GW GX (↑(GT s.h):Int)))]),(54,int (G1 GY ((↑i:Int)+1)))],h:=(oi l' s),m:=[]} Hz [.st (.mask [2,53,54])] [.b true,.ov 57 (w32 (HC (S8.toL s) i 0)),.ov 63 (.ref (.av 0 (4*i) 4 1)),.call (IZ []) (oi l' s)] (.c hlt (.c (show @Eq (Option (Bool×D)) (mY GV 118 (Hc [Hf (G2 (GW GX (↑(GT s.a):Int))),Hf (G2 (GW GX (↑(GT s.b):Int))),Hf (G2 (GW GX (↑(GT s.c):Int))),Hf (G2 (GW GX (↑(GT s.d):Int))),Hf (G2 (GW GX (↑(GT s.e):Int))),Hf (G2 (GW GX (↑(GT s.f):Int))),Hf (G2 (GW GX (↑(GT s.g):Int))),Hf (G2 (GW GX (↑(GT s.h):Int)))]) (int (↑i:Int))) (some (true,Hf (G2 (GW GX (↑(GT (HC (S8.toL s) i 0)):Int))))) from(by first|assumption|exact sw_ix rfl hi|exact sw_sl (H:=[]) (l:=l) h4 h5 hi)) (.c (show @Eq (Option (Bool×D)) (some (co (G1 GY (4*(↑i:Int))) (G1 GY (G1 GY (4*(↑i:Int))+4)) 32,if G1 GY (G1 GY (4*(↑i:Int))+4)=G1 GY (4*(↑i:Int)) then Hf (Dp.sl []) else .ref (.av 0 (0+Hh (G1 GY (4*(↑i:Int)))*1) (Hh (G1 GY (G1 GY (4*(↑i:Int))+4)) - Hh (G1 GY (4*(↑i:Int)))) 1))) (some (true,Jd (.av 0 (4*i) 4 1))) from(by first|(simp only[hlt,cond_true,cond_false];done)|first|assumption|exact sw_ix rfl hi|exact sw_sl (H:=[]) (l:=l) h4 h5 hi)) (.c (Hx (Γ':=Γd) (@hput)) .n)))) ?_ ?_<;>(first|rfl|(simp only[hw]<;>rfl))
theorem F7{l:List (BitVec 8)}{s:S8}:(CW GV Γd [] false (sub IL 2) (swS l s 8) (.exit 4) {t:=mkT 69 0 [Zz],h:=(Qp l s),m:=[]}):=by
 exact zx VC [.b false] (.c (show Qd (8<8)=false from rfl) .n)
theorem preN{h0:List Blk}{s:AS}:pre h0 s []=some (s,[],[]):=rfl
theorem Ev.of_cw0{P:Program}{Γ:ae}{f:FuncId}{args:List D}{fn:Func}{d:D}{e:Exit}{s:AS}{ds:List D}(hf:P.funcs[f]? = some fn)(hb:fn.body.isSome=true)
  (hw:CW P Γ [] false (ap fn) {t:=ba fn args,h:=[],m:=[]} e s) (he:e=.normal∨e=.ret) (hm:s.m=[]) (hr:aR P s.t s.h fn.results.toList=some ds) (hd:cI ds=d)
  (ha:D.innL 0 args=true) (hi:D.inn 0 d=true) (h:List Blk):Ev P Γ f args h d h:=by
 have h1:Ev P Γ f args [] d s.h:=by
  refine Ev.of_cw hf hb hw ?_
  obtain⟨t,hh,m⟩:=s
  simp only at hm hr ⊢
  subst hm
  have hs:sf [] hh=hh:=rfl
  rcases he with rfl|rfl<;>simp only[finF,preN,marksOk,List.all_nil,List.nodup_nil,decide_true,Lq,hs,hr,hd,List.append_nil]
 have h2:=Ev.trim (h:=[]) hi rfl h1
 exact Ev.frame0 ha (by simpa using h2) h
abbrev zv1(z:List D)(s:S8)(v:List (List D)):List Blk:=[.var z,.var s.row,.vec v 0 1]
abbrev startS:S8:=⟨0x6a09e667,0xbb67ae85,0x3c6ef372,0xa54ff53a,0x510e527f,0x9b05688c,0x1f83d9ab,0x5be0cd19⟩
abbrev zbm(a:Int):D:=Hf (G2 (GW GZ a))
abbrev Zg:List D:=[(zbm 0)]
abbrev YC(a:List Dp)(b:List (BitVec 8)):List (List D):=GU (fun a=>GU Hf a) (GU byR b)
abbrev WP(a:List (BitVec 8)):D:=(Hc (GU w8 a))
abbrev VO(a:List D)(b:S8):List Blk:=[.var a,.var b.row,.gone]
abbrev V1(a:List (BitVec 8)):List (List D):=(a.map byR).map (·.map .p)
abbrev zau(a:List D)(b:S8):List Blk:=[.var a,.var (Zb b),.vec [Zg,Zg,Zg,Zg,Zg,Zg,Zg,Zg,Zg,Zg,Zg,Zg,Zg,Zg,Zg,Zg,Zg,Zg,Zg,Zg,Zg,Zg,Zg,Zg,Zg,Zg,Zg,Zg,Zg,Zg,Zg,Zg,Zg,Zg,Zg,Zg,Zg,Zg,Zg,Zg,Zg,Zg,Zg,Zg,Zg,Zg,Zg,Zg,Zg,Zg,Zg,Zg,Zg,Zg,Zg,Zg,Zg,Zg,Zg,Zg,Zg,Zg,Zg,Zg,Zg,Zg,Zg,Zg,Zg,Zg,Zg,Zg,Zg,Zg,Zg,Zg,Zg,Zg,Zg,Zg,Zg,Zg,Zg,Zg,Zg,Zg,Zg,Zg,Zg,Zg,Zg,Zg,Zg,Zg,Zg,Zg,Zg,Zg,Zg,Zg,Zg,Zg,Zg,Zg,Zg,Zg,Zg,Zg,Zg,Zg,Zg,Zg,Zg,Zg,Zg,Zg,Zg,Zg,Zg,Zg,Zg,Zg,Zg,Zg,Zg,Zg,Zg,Zg] 0 1]
abbrev zaT(a:List D)(b:S8)(c:List (List D)):List Blk:=[.var a,.var (Zb b),.vec c 0 1]
abbrev zbk(a:List Blk):AS:={t:=mkT 69 0 [Zz],h:=a,m:=[]}
abbrev zbO(a:List Blk):AS:={t:=mkT 69 0 [Zz,Qi],h:=a,m:=[]}
abbrev zbZ(a:List (BitVec 8))(b:Nat)(c:List D)(d:S8):AS:={t:=mkT 69 0 [Zz,Qi,(4,fnA),(6,.p (.sl (((a.map byR).drop 0).take b)))],h:=(VO (HP (qD 2 0 (a.map byR)) c) d),m:=[]}
abbrev zci(a:S8)(b:List D):AS:={t:=mkT 69 0 [Zz,(53,.agg a.row),(54,int 0)],h:=(VO b a),m:=[]}
abbrev zcA(a:List Dp)(b:List (BitVec 8))(c:List D)(d:S8)(e:List (List D)):List Blk:=if min (G3 (YC a b)) 64=0 then (zaT c d e) else Lx (zaT c d e) 2 (.vec (Hl 0 e++(Hl (min (G3 (YC a b)) 64) (YC a b)++Hb (0+min (G3 (YC a b)) 64) e)) 0 1)
theorem sum_lo{b r x l:List (BitVec 8)}{s1 s2:S8}{z:List D}{zv ev ew:List (List D)}{k:Nat}
  (hal:bg GV [] 51 (.ref (.ptr 0 0)) [.var z])
  (h0:CW GV Γd [] false (.loop (sub IL 0)) {t:=mkT 69 0 [(0,byD b),(2,.ref (.ptr 0 0)),(3,.ref (.ptr 1 0)),(4,fnA),(5,byD b)],h:=[.var z,.var startS.row],m:=[]} (.exit 0) {t:=mkT 69 0 [(0,byD b),(2,.ref (.ptr 0 0)),(3,.ref (.ptr 1 0)),(4,fnA),(5,byD r)],h:=[.var z,.var s1.row],m:=[]})
  (hmk:eo GV [.var z,.var s1.row] 23 (int 64) (int 128)=some (true,Jd (.vs 2 0 0 64 (some 128)),zv1 z s1 zv))
  (hcp:builtinD GV (zv1 z s1 zv) .copy [23,23] [.ref (.vs 2 0 0 64 (some 128)),byD r]=some (true,int ((r.map byR).length:Int),zv1 z s1 ev))
  (hix:aJ GV (zv1 z s1 ev) 23 (.ref (.vs 2 0 0 64 (some 128))) (int ((r.map byR).length:Int))=some (true,Jd (.vp 2 0 k 0)))
  (hst:aw GV (zv1 z s1 ev) 5 (.ref (.vp 2 0 k 0)) (.p (.v (.int .u8 128)))=some (zv1 z s1 ew))
  (hgt:Qd (((r.map byR).length:Int)>55)=false)
  (hput:Ev GV Γ0 75 [.ref (.vs 2 0 56 8 (some 72)),.p (.v (.int .u64 (Hg.wrap (Hg.wrap ((b.map byR).length:Int)*8))))] (zv1 z s1 ew) (.tup []) (zv1 z s1 (x.map byV)))
  (hfz:x.map byV=(x.map byR).map (·.map .p))
  (h1:CW GV Γd [] false (.loop (sub IL 1)) {t:=mkT 69 0 [(2,.ref (.ptr 0 0)),(3,.ref (.ptr 1 0)),(4,fnA),(6,.p (.sl (((x.map byR).drop 0).take 64)))],h:=[.var (HP (qD 2 0 (x.map byR)) z),.var s1.row,.gone],m:=[]} (.exit 2) {t:=mkT 69 0 [(2,.ref (.ptr 0 0)),(3,.ref (.ptr 1 0))],h:=[.var z,.var s2.row,.gone],m:=[]})
  (h2:CW GV Γd [] false (.loop (sub IL 2)) {t:=mkT 69 0 [(2,.ref (.ptr 0 0)),(53,.agg s2.row),(54,int 0)],h:=[.var z,.var s2.row,.gone],m:=[]} (.exit 4) {t:=mkT 69 0 [(2,.ref (.ptr 0 0))],h:=[.var (l.map w8),.var s2.row,.gone],m:=[]})
  (hld:aD GV [.var (l.map w8),.var s2.row,.gone] 51 (.ref (.ptr 0 0))=some (.agg (l.map w8)))
  (hsd:aw GV [.var (l.map w8),.var s2.row,.gone] 51 (.ref (.ptr 0 0)) (.agg (l.map w8))=some [.var (l.map w8),.var s2.row,.gone]):(CW GV Γd [] false (ap IL) {t:=ba IL [byD b],h:=[],m:=[]} .ret {t:=mkT 69 0 [(2,.ref (.ptr 0 0))],h:=[.var (l.map w8),.var s2.row,.gone],m:=[]}):=by
 have hl0:=(@h0)
 have hl1:=(@h1)
 have hl2:=(@h2)
 let v0:=G3 (GU byR r)
 refine zx [.st (.mask [2])] [.oh 2 (.ref (.ptr 0 0)) [.var z],.sum [0,2,3,4,5] (HJ 0) {t:=mkT 69 0 [(0,aa (GU byR b)),(2,.ref (.ptr 0 0)),(3,.ref (.ptr 1 0)),(4,D.fn (He 74) [.ref (.ptr 1 0)] []),(5,aa (GU byR r))],h:=[.var z,.var [Hf (G2 (GW GX (↑(GT s1.a):Int))),Hf (G2 (GW GX (↑(GT s1.b):Int))),Hf (G2 (GW GX (↑(GT s1.c):Int))),Hf (G2 (GW GX (↑(GT s1.d):Int))),Hf (G2 (GW GX (↑(GT s1.e):Int))),Hf (G2 (GW GX (↑(GT s1.f):Int))),Hf (G2 (GW GX (↑(GT s1.g):Int))),Hf (G2 (GW GX (↑(GT s1.h):Int)))]],m:=[]},.oh 21 (.ref (.vs 2 0 0 64 (some 128))) (zv1 z s1 zv),.oh 24 (int (↑v0:Int)) (zv1 z s1 ev),.ov 28 (.ref (.vp 2 0 k 0)),.oh 10028 IM (zv1 z s1 ew),.b false,.call (IZ []) [.var z,.var [Hf (G2 (GW GX (↑(GT s1.a):Int))),Hf (G2 (GW GX (↑(GT s1.b):Int))),Hf (G2 (GW GX (↑(GT s1.c):Int))),Hf (G2 (GW GX (↑(GT s1.d):Int))),Hf (G2 (GW GX (↑(GT s1.e):Int))),Hf (G2 (GW GX (↑(GT s1.f):Int))),Hf (G2 (GW GX (↑(GT s1.g):Int))),Hf (G2 (GW GX (↑(GT s1.h):Int)))],.vec (GU byV x) 0 1],.st (.frz 2 (GU byR x)),.sum [2,3,4,6] (HJ 2) {t:=mkT 69 0 [(2,.ref (.ptr 0 0)),(3,.ref (.ptr 1 0))],h:=[.var z,.var [Hf (G2 (GW GX (↑(GT s2.a):Int))),Hf (G2 (GW GX (↑(GT s2.b):Int))),Hf (G2 (GW GX (↑(GT s2.c):Int))),Hf (G2 (GW GX (↑(GT s2.d):Int))),Hf (G2 (GW GX (↑(GT s2.e):Int))),Hf (G2 (GW GX (↑(GT s2.f):Int))),Hf (G2 (GW GX (↑(GT s2.g):Int))),Hf (G2 (GW GX (↑(GT s2.h):Int)))],.gone],m:=[]},.sum [2,53,54] (HJ 4) {t:=mkT 69 0 [(2,.ref (.ptr 0 0))],h:=[.var (GU w8 l),.var [Hf (G2 (GW GX (↑(GT s2.a):Int))),Hf (G2 (GW GX (↑(GT s2.b):Int))),Hf (G2 (GW GX (↑(GT s2.c):Int))),Hf (G2 (GW GX (↑(GT s2.d):Int))),Hf (G2 (GW GX (↑(GT s2.e):Int))),Hf (G2 (GW GX (↑(GT s2.f):Int))),Hf (G2 (GW GX (↑(GT s2.g):Int))),Hf (G2 (GW GX (↑(GT s2.h):Int)))],.gone],m:=[]},.ov 68 (Hc (GU w8 l)),.oh 10002 IM [.var (GU w8 l),.var (S8.row s2),.gone]] (.c (show bg GV [] 51 (.ref (.ptr 0 0)) [.var z] from(by subst v0;first|assumption|rfl)) (.c hl0 (.c (show @Eq (Option (Bool×D×List Blk)) (some (Qd (0<64)&&Qd (64≤128)&&Qd (128*(↑1:Int)≤281474976710656)&&Qd (128≤281474976710656),.ref (.vs 2 0 0 64 (some 128)),[.var z,.var [Hf (G2 (GW GX (↑(GT s1.a):Int))),Hf (G2 (GW GX (↑(GT s1.b):Int))),Hf (G2 (GW GX (↑(GT s1.c):Int))),Hf (G2 (GW GX (↑(GT s1.d):Int))),Hf (G2 (GW GX (↑(GT s1.e):Int))),Hf (G2 (GW GX (↑(GT s1.f):Int))),Hf (G2 (GW GX (↑(GT s1.g):Int))),Hf (G2 (GW GX (↑(GT s1.h):Int)))],.vec [[Hf (G2 (GW GZ 0))],[Hf (G2 (GW GZ 0))],[Hf (G2 (GW GZ 0))],[Hf (G2 (GW GZ 0))],[Hf (G2 (GW GZ 0))],[Hf (G2 (GW GZ 0))],[Hf (G2 (GW GZ 0))],[Hf (G2 (GW GZ 0))],[Hf (G2 (GW GZ 0))],[Hf (G2 (GW GZ 0))],[Hf (G2 (GW GZ 0))],[Hf (G2 (GW GZ 0))],[Hf (G2 (GW GZ 0))],[Hf (G2 (GW GZ 0))],[Hf (G2 (GW GZ 0))],[Hf (G2 (GW GZ 0))],[Hf (G2 (GW GZ 0))],[Hf (G2 (GW GZ 0))],[Hf (G2 (GW GZ 0))],[Hf (G2 (GW GZ 0))],[Hf (G2 (GW GZ 0))],[Hf (G2 (GW GZ 0))],[Hf (G2 (GW GZ 0))],[Hf (G2 (GW GZ 0))],[Hf (G2 (GW GZ 0))],[Hf (G2 (GW GZ 0))],[Hf (G2 (GW GZ 0))],[Hf (G2 (GW GZ 0))],[Hf (G2 (GW GZ 0))],[Hf (G2 (GW GZ 0))],[Hf (G2 (GW GZ 0))],[Hf (G2 (GW GZ 0))],[Hf (G2 (GW GZ 0))],[Hf (G2 (GW GZ 0))],[Hf (G2 (GW GZ 0))],[Hf (G2 (GW GZ 0))],[Hf (G2 (GW GZ 0))],[Hf (G2 (GW GZ 0))],[Hf (G2 (GW GZ 0))],[Hf (G2 (GW GZ 0))],[Hf (G2 (GW GZ 0))],[Hf (G2 (GW GZ 0))],[Hf (G2 (GW GZ 0))],[Hf (G2 (GW GZ 0))],[Hf (G2 (GW GZ 0))],[Hf (G2 (GW GZ 0))],[Hf (G2 (GW GZ 0))],[Hf (G2 (GW GZ 0))],[Hf (G2 (GW GZ 0))],[Hf (G2 (GW GZ 0))],[Hf (G2 (GW GZ 0))],[Hf (G2 (GW GZ 0))],[Hf (G2 (GW GZ 0))],[Hf (G2 (GW GZ 0))],[Hf (G2 (GW GZ 0))],[Hf (G2 (GW GZ 0))],[Hf (G2 (GW GZ 0))],[Hf (G2 (GW GZ 0))],[Hf (G2 (GW GZ 0))],[Hf (G2 (GW GZ 0))],[Hf (G2 (GW GZ 0))],[Hf (G2 (GW GZ 0))],[Hf (G2 (GW GZ 0))],[Hf (G2 (GW GZ 0))],[Hf (G2 (GW GZ 0))],[Hf (G2 (GW GZ 0))],[Hf (G2 (GW GZ 0))],[Hf (G2 (GW GZ 0))],[Hf (G2 (GW GZ 0))],[Hf (G2 (GW GZ 0))],[Hf (G2 (GW GZ 0))],[Hf (G2 (GW GZ 0))],[Hf (G2 (GW GZ 0))],[Hf (G2 (GW GZ 0))],[Hf (G2 (GW GZ 0))],[Hf (G2 (GW GZ 0))],[Hf (G2 (GW GZ 0))],[Hf (G2 (GW GZ 0))],[Hf (G2 (GW GZ 0))],[Hf (G2 (GW GZ 0))],[Hf (G2 (GW GZ 0))],[Hf (G2 (GW GZ 0))],[Hf (G2 (GW GZ 0))],[Hf (G2 (GW GZ 0))],[Hf (G2 (GW GZ 0))],[Hf (G2 (GW GZ 0))],[Hf (G2 (GW GZ 0))],[Hf (G2 (GW GZ 0))],[Hf (G2 (GW GZ 0))],[Hf (G2 (GW GZ 0))],[Hf (G2 (GW GZ 0))],[Hf (G2 (GW GZ 0))],[Hf (G2 (GW GZ 0))],[Hf (G2 (GW GZ 0))],[Hf (G2 (GW GZ 0))],[Hf (G2 (GW GZ 0))],[Hf (G2 (GW GZ 0))],[Hf (G2 (GW GZ 0))],[Hf (G2 (GW GZ 0))],[Hf (G2 (GW GZ 0))],[Hf (G2 (GW GZ 0))],[Hf (G2 (GW GZ 0))],[Hf (G2 (GW GZ 0))],[Hf (G2 (GW GZ 0))],[Hf (G2 (GW GZ 0))],[Hf (G2 (GW GZ 0))],[Hf (G2 (GW GZ 0))],[Hf (G2 (GW GZ 0))],[Hf (G2 (GW GZ 0))],[Hf (G2 (GW GZ 0))],[Hf (G2 (GW GZ 0))],[Hf (G2 (GW GZ 0))],[Hf (G2 (GW GZ 0))],[Hf (G2 (GW GZ 0))],[Hf (G2 (GW GZ 0))],[Hf (G2 (GW GZ 0))],[Hf (G2 (GW GZ 0))],[Hf (G2 (GW GZ 0))],[Hf (G2 (GW GZ 0))],[Hf (G2 (GW GZ 0))],[Hf (G2 (GW GZ 0))],[Hf (G2 (GW GZ 0))],[Hf (G2 (GW GZ 0))],[Hf (G2 (GW GZ 0))],[Hf (G2 (GW GZ 0))],[Hf (G2 (GW GZ 0))],[Hf (G2 (GW GZ 0))],[Hf (G2 (GW GZ 0))]] 0 1])) (some (true,Jd (.vs 2 0 0 64 (some 128)),[.var z,.var [Hf (G2 (GW GX (↑(GT s1.a):Int))),Hf (G2 (GW GX (↑(GT s1.b):Int))),Hf (G2 (GW GX (↑(GT s1.c):Int))),Hf (G2 (GW GX (↑(GT s1.d):Int))),Hf (G2 (GW GX (↑(GT s1.e):Int))),Hf (G2 (GW GX (↑(GT s1.f):Int))),Hf (G2 (GW GX (↑(GT s1.g):Int))),Hf (G2 (GW GX (↑(GT s1.h):Int)))],.vec zv 0 1])) from ?_) (.c (show @Eq (Option (Bool×D×List Blk)) (some (Ia (GU (fun x=>GU Hf x) (GU byR r)) (rowOk 1),int (↑(min (G3 (GU (fun x=>GU Hf x) (GU byR r))) 64):Int),if min (G3 (GU (fun x=>GU Hf x) (GU byR r))) 64=0 then [.var z,.var [Hf (G2 (GW GX (↑(GT s1.a):Int))),Hf (G2 (GW GX (↑(GT s1.b):Int))),Hf (G2 (GW GX (↑(GT s1.c):Int))),Hf (G2 (GW GX (↑(GT s1.d):Int))),Hf (G2 (GW GX (↑(GT s1.e):Int))),Hf (G2 (GW GX (↑(GT s1.f):Int))),Hf (G2 (GW GX (↑(GT s1.g):Int))),Hf (G2 (GW GX (↑(GT s1.h):Int)))],.vec zv 0 1] else Lx [.var z,.var [Hf (G2 (GW GX (↑(GT s1.a):Int))),Hf (G2 (GW GX (↑(GT s1.b):Int))),Hf (G2 (GW GX (↑(GT s1.c):Int))),Hf (G2 (GW GX (↑(GT s1.d):Int))),Hf (G2 (GW GX (↑(GT s1.e):Int))),Hf (G2 (GW GX (↑(GT s1.f):Int))),Hf (G2 (GW GX (↑(GT s1.g):Int))),Hf (G2 (GW GX (↑(GT s1.h):Int)))],.vec zv 0 1] 2 (.vec (Hl 0 zv++(Hl (min (G3 (GU (fun x=>GU Hf x) (GU byR r))) 64) (GU (fun x=>GU Hf x) (GU byR r))++Hb (0+min (G3 (GU (fun x=>GU Hf x) (GU byR r))) 64) zv)) 0 1))) (some (true,int (↑v0:Int),[.var z,.var [Hf (G2 (GW GX (↑(GT s1.a):Int))),Hf (G2 (GW GX (↑(GT s1.b):Int))),Hf (G2 (GW GX (↑(GT s1.c):Int))),Hf (G2 (GW GX (↑(GT s1.d):Int))),Hf (G2 (GW GX (↑(GT s1.e):Int))),Hf (G2 (GW GX (↑(GT s1.f):Int))),Hf (G2 (GW GX (↑(GT s1.g):Int))),Hf (G2 (GW GX (↑(GT s1.h):Int)))],.vec ev 0 1])) from ?_) (.c (show @Eq (Option (Bool×D)) (some (inR (↑v0:Int) 64,.ref (.vp 2 0 (0+Hh (↑v0:Int)) 0))) (some (true,Jd (.vp 2 0 k 0))) from ?_) (.c (show @Eq (Option (List Blk)) (aw GV [.var z,.var [Hf (G2 (GW GX (↑(GT s1.a):Int))),Hf (G2 (GW GX (↑(GT s1.b):Int))),Hf (G2 (GW GX (↑(GT s1.c):Int))),Hf (G2 (GW GX (↑(GT s1.d):Int))),Hf (G2 (GW GX (↑(GT s1.e):Int))),Hf (G2 (GW GX (↑(GT s1.f):Int))),Hf (G2 (GW GX (↑(GT s1.g):Int))),Hf (G2 (GW GX (↑(GT s1.h):Int)))],.vec ev 0 1] 5 (.ref (.vp 2 0 k 0)) (Hf (G2 (GW GZ 128)))) (some [.var z,.var [Hf (G2 (GW GX (↑(GT s1.a):Int))),Hf (G2 (GW GX (↑(GT s1.b):Int))),Hf (G2 (GW GX (↑(GT s1.c):Int))),Hf (G2 (GW GX (↑(GT s1.d):Int))),Hf (G2 (GW GX (↑(GT s1.e):Int))),Hf (G2 (GW GX (↑(GT s1.f):Int))),Hf (G2 (GW GX (↑(GT s1.g):Int))),Hf (G2 (GW GX (↑(GT s1.h):Int)))],.vec ew 0 1]) from(by subst v0;first|assumption|rfl)) (.c hgt (.c (show(co (G1 GY ((↑64:Int) - 8)) (↑64:Int) 64&&true&&(true||false)&&true)=true from rfl) (.c (Hx (Γ':=Γd) (@hput)) (.c (show GU byV x=GU (fun x=>GU Hf x) (GU byR x) from(by subst v0;first|assumption|rfl)) (.c hl1 (.c hl2 (.c (show aD GV [.var (GU w8 l),.var [Hf (G2 (GW GX (↑(GT s2.a):Int))),Hf (G2 (GW GX (↑(GT s2.b):Int))),Hf (G2 (GW GX (↑(GT s2.c):Int))),Hf (G2 (GW GX (↑(GT s2.d):Int))),Hf (G2 (GW GX (↑(GT s2.e):Int))),Hf (G2 (GW GX (↑(GT s2.f):Int))),Hf (G2 (GW GX (↑(GT s2.g):Int))),Hf (G2 (GW GX (↑(GT s2.h):Int)))],.gone] 51 (.ref (.ptr 0 0))=some (Hc (GU w8 l)) from(by subst v0;first|assumption|rfl)) (.c (show @Eq (Option (List Blk)) (aw GV [.var (GU w8 l),.var [Hf (G2 (GW GX (↑(GT s2.a):Int))),Hf (G2 (GW GX (↑(GT s2.b):Int))),Hf (G2 (GW GX (↑(GT s2.c):Int))),Hf (G2 (GW GX (↑(GT s2.d):Int))),Hf (G2 (GW GX (↑(GT s2.e):Int))),Hf (G2 (GW GX (↑(GT s2.f):Int))),Hf (G2 (GW GX (↑(GT s2.g):Int))),Hf (G2 (GW GX (↑(GT s2.h):Int)))],.gone] 51 (.ref (.ptr 0 0)) (Hc (GU w8 l))) (some [.var (GU w8 l),.var [Hf (G2 (GW GX (↑(GT s2.a):Int))),Hf (G2 (GW GX (↑(GT s2.b):Int))),Hf (G2 (GW GX (↑(GT s2.c):Int))),Hf (G2 (GW GX (↑(GT s2.d):Int))),Hf (G2 (GW GX (↑(GT s2.e):Int))),Hf (G2 (GW GX (↑(GT s2.f):Int))),Hf (G2 (GW GX (↑(GT s2.g):Int))),Hf (G2 (GW GX (↑(GT s2.h):Int)))],.gone]) from(by subst v0;first|assumption|rfl)) .n))))))))))))))<;>subst v0<;>(first|(simp only[];done)|first|assumption|rfl)
theorem sum_hi{b r x l:List (BitVec 8)}{s1 s2:S8}{z:List D}{zv ev ew:List (List D)}{k:Nat}
  (hal:bg GV [] 51 (.ref (.ptr 0 0)) [.var z])
  (h0:CW GV Γd [] false (.loop (sub IL 0)) {t:=mkT 69 0 [(0,byD b),(2,.ref (.ptr 0 0)),(3,.ref (.ptr 1 0)),(4,fnA),(5,byD b)],h:=[.var z,.var startS.row],m:=[]} (.exit 0) {t:=mkT 69 0 [(0,byD b),(2,.ref (.ptr 0 0)),(3,.ref (.ptr 1 0)),(4,fnA),(5,byD r)],h:=[.var z,.var s1.row],m:=[]})
  (hmk:eo GV [.var z,.var s1.row] 23 (int 64) (int 128)=some (true,Jd (.vs 2 0 0 64 (some 128)),zv1 z s1 zv))
  (hcp:builtinD GV (zv1 z s1 zv) .copy [23,23] [.ref (.vs 2 0 0 64 (some 128)),byD r]=some (true,int ((r.map byR).length:Int),zv1 z s1 ev))
  (hix:aJ GV (zv1 z s1 ev) 23 (.ref (.vs 2 0 0 64 (some 128))) (int ((r.map byR).length:Int))=some (true,Jd (.vp 2 0 k 0)))
  (hst:aw GV (zv1 z s1 ev) 5 (.ref (.vp 2 0 k 0)) (.p (.v (.int .u8 128)))=some (zv1 z s1 ew))
  (hgt:Qd (((r.map byR).length:Int)>55)=true) (hew:ew.length=128)
  (hput:Ev GV Γ0 75 [.ref (.vs 2 0 120 8 (some 8)),.p (.v (.int .u64 (Hg.wrap (Hg.wrap ((b.map byR).length:Int)*8))))] (zv1 z s1 ew) (.tup []) (zv1 z s1 (x.map byV)))
  (hfz:x.map byV=(x.map byR).map (·.map .p))
  (h1:CW GV Γd [] false (.loop (sub IL 1)) {t:=mkT 69 0 [(2,.ref (.ptr 0 0)),(3,.ref (.ptr 1 0)),(4,fnA),(6,.p (.sl (((x.map byR).drop 0).take 128)))],h:=[.var (HP (qD 2 0 (x.map byR)) z),.var s1.row,.gone],m:=[]} (.exit 2) {t:=mkT 69 0 [(2,.ref (.ptr 0 0)),(3,.ref (.ptr 1 0))],h:=[.var z,.var s2.row,.gone],m:=[]})
  (h2:CW GV Γd [] false (.loop (sub IL 2)) {t:=mkT 69 0 [(2,.ref (.ptr 0 0)),(53,.agg s2.row),(54,int 0)],h:=[.var z,.var s2.row,.gone],m:=[]} (.exit 4) {t:=mkT 69 0 [(2,.ref (.ptr 0 0))],h:=[.var (l.map w8),.var s2.row,.gone],m:=[]})
  (hld:aD GV [.var (l.map w8),.var s2.row,.gone] 51 (.ref (.ptr 0 0))=some (.agg (l.map w8)))
  (hsd:aw GV [.var (l.map w8),.var s2.row,.gone] 51 (.ref (.ptr 0 0)) (.agg (l.map w8))=some [.var (l.map w8),.var s2.row,.gone]):(CW GV Γd [] false (ap IL) {t:=ba IL [byD b],h:=[],m:=[]} .ret {t:=mkT 69 0 [(2,.ref (.ptr 0 0))],h:=[.var (l.map w8),.var s2.row,.gone],m:=[]}):=by
 have hl0:=(@h0)
 have hl1:=(@h1)
 have hl2:=(@h2)
 let v0:=G3 (GU byR r)
 refine zx [.st (.mask [2])] [.oh 2 (.ref (.ptr 0 0)) [.var z],.sum [0,2,3,4,5] (HJ 0) {t:=mkT 69 0 [(0,aa (GU byR b)),(2,.ref (.ptr 0 0)),(3,.ref (.ptr 1 0)),(4,D.fn (He 74) [.ref (.ptr 1 0)] []),(5,aa (GU byR r))],h:=[.var z,.var [Hf (G2 (GW GX (↑(GT s1.a):Int))),Hf (G2 (GW GX (↑(GT s1.b):Int))),Hf (G2 (GW GX (↑(GT s1.c):Int))),Hf (G2 (GW GX (↑(GT s1.d):Int))),Hf (G2 (GW GX (↑(GT s1.e):Int))),Hf (G2 (GW GX (↑(GT s1.f):Int))),Hf (G2 (GW GX (↑(GT s1.g):Int))),Hf (G2 (GW GX (↑(GT s1.h):Int)))]],m:=[]},.oh 21 (.ref (.vs 2 0 0 64 (some 128))) (zv1 z s1 zv),.oh 24 (int (↑v0:Int)) (zv1 z s1 ev),.ov 28 (.ref (.vp 2 0 k 0)),.oh 10028 IM (zv1 z s1 ew),.b true,.call (IZ []) [.var z,.var [Hf (G2 (GW GX (↑(GT s1.a):Int))),Hf (G2 (GW GX (↑(GT s1.b):Int))),Hf (G2 (GW GX (↑(GT s1.c):Int))),Hf (G2 (GW GX (↑(GT s1.d):Int))),Hf (G2 (GW GX (↑(GT s1.e):Int))),Hf (G2 (GW GX (↑(GT s1.f):Int))),Hf (G2 (GW GX (↑(GT s1.g):Int))),Hf (G2 (GW GX (↑(GT s1.h):Int)))],.vec (GU byV x) 0 1],.st (.frz 2 (GU byR x)),.sum [2,3,4,6] (HJ 2) {t:=mkT 69 0 [(2,.ref (.ptr 0 0)),(3,.ref (.ptr 1 0))],h:=[.var z,.var [Hf (G2 (GW GX (↑(GT s2.a):Int))),Hf (G2 (GW GX (↑(GT s2.b):Int))),Hf (G2 (GW GX (↑(GT s2.c):Int))),Hf (G2 (GW GX (↑(GT s2.d):Int))),Hf (G2 (GW GX (↑(GT s2.e):Int))),Hf (G2 (GW GX (↑(GT s2.f):Int))),Hf (G2 (GW GX (↑(GT s2.g):Int))),Hf (G2 (GW GX (↑(GT s2.h):Int)))],.gone],m:=[]},.sum [2,53,54] (HJ 4) {t:=mkT 69 0 [(2,.ref (.ptr 0 0))],h:=[.var (GU w8 l),.var [Hf (G2 (GW GX (↑(GT s2.a):Int))),Hf (G2 (GW GX (↑(GT s2.b):Int))),Hf (G2 (GW GX (↑(GT s2.c):Int))),Hf (G2 (GW GX (↑(GT s2.d):Int))),Hf (G2 (GW GX (↑(GT s2.e):Int))),Hf (G2 (GW GX (↑(GT s2.f):Int))),Hf (G2 (GW GX (↑(GT s2.g):Int))),Hf (G2 (GW GX (↑(GT s2.h):Int)))],.gone],m:=[]},.ov 68 (Hc (GU w8 l)),.oh 10002 IM [.var (GU w8 l),.var (S8.row s2),.gone]] (.c (show bg GV [] 51 (.ref (.ptr 0 0)) [.var z] from ?_) (.c hl0 (.c (show @Eq (Option (Bool×D×List Blk)) (some (Qd (0<64)&&Qd (64≤128)&&Qd (128*(↑1:Int)≤281474976710656)&&Qd (128≤281474976710656),.ref (.vs 2 0 0 64 (some 128)),[.var z,.var [Hf (G2 (GW GX (↑(GT s1.a):Int))),Hf (G2 (GW GX (↑(GT s1.b):Int))),Hf (G2 (GW GX (↑(GT s1.c):Int))),Hf (G2 (GW GX (↑(GT s1.d):Int))),Hf (G2 (GW GX (↑(GT s1.e):Int))),Hf (G2 (GW GX (↑(GT s1.f):Int))),Hf (G2 (GW GX (↑(GT s1.g):Int))),Hf (G2 (GW GX (↑(GT s1.h):Int)))],.vec [[Hf (G2 (GW GZ 0))],[Hf (G2 (GW GZ 0))],[Hf (G2 (GW GZ 0))],[Hf (G2 (GW GZ 0))],[Hf (G2 (GW GZ 0))],[Hf (G2 (GW GZ 0))],[Hf (G2 (GW GZ 0))],[Hf (G2 (GW GZ 0))],[Hf (G2 (GW GZ 0))],[Hf (G2 (GW GZ 0))],[Hf (G2 (GW GZ 0))],[Hf (G2 (GW GZ 0))],[Hf (G2 (GW GZ 0))],[Hf (G2 (GW GZ 0))],[Hf (G2 (GW GZ 0))],[Hf (G2 (GW GZ 0))],[Hf (G2 (GW GZ 0))],[Hf (G2 (GW GZ 0))],[Hf (G2 (GW GZ 0))],[Hf (G2 (GW GZ 0))],[Hf (G2 (GW GZ 0))],[Hf (G2 (GW GZ 0))],[Hf (G2 (GW GZ 0))],[Hf (G2 (GW GZ 0))],[Hf (G2 (GW GZ 0))],[Hf (G2 (GW GZ 0))],[Hf (G2 (GW GZ 0))],[Hf (G2 (GW GZ 0))],[Hf (G2 (GW GZ 0))],[Hf (G2 (GW GZ 0))],[Hf (G2 (GW GZ 0))],[Hf (G2 (GW GZ 0))],[Hf (G2 (GW GZ 0))],[Hf (G2 (GW GZ 0))],[Hf (G2 (GW GZ 0))],[Hf (G2 (GW GZ 0))],[Hf (G2 (GW GZ 0))],[Hf (G2 (GW GZ 0))],[Hf (G2 (GW GZ 0))],[Hf (G2 (GW GZ 0))],[Hf (G2 (GW GZ 0))],[Hf (G2 (GW GZ 0))],[Hf (G2 (GW GZ 0))],[Hf (G2 (GW GZ 0))],[Hf (G2 (GW GZ 0))],[Hf (G2 (GW GZ 0))],[Hf (G2 (GW GZ 0))],[Hf (G2 (GW GZ 0))],[Hf (G2 (GW GZ 0))],[Hf (G2 (GW GZ 0))],[Hf (G2 (GW GZ 0))],[Hf (G2 (GW GZ 0))],[Hf (G2 (GW GZ 0))],[Hf (G2 (GW GZ 0))],[Hf (G2 (GW GZ 0))],[Hf (G2 (GW GZ 0))],[Hf (G2 (GW GZ 0))],[Hf (G2 (GW GZ 0))],[Hf (G2 (GW GZ 0))],[Hf (G2 (GW GZ 0))],[Hf (G2 (GW GZ 0))],[Hf (G2 (GW GZ 0))],[Hf (G2 (GW GZ 0))],[Hf (G2 (GW GZ 0))],[Hf (G2 (GW GZ 0))],[Hf (G2 (GW GZ 0))],[Hf (G2 (GW GZ 0))],[Hf (G2 (GW GZ 0))],[Hf (G2 (GW GZ 0))],[Hf (G2 (GW GZ 0))],[Hf (G2 (GW GZ 0))],[Hf (G2 (GW GZ 0))],[Hf (G2 (GW GZ 0))],[Hf (G2 (GW GZ 0))],[Hf (G2 (GW GZ 0))],[Hf (G2 (GW GZ 0))],[Hf (G2 (GW GZ 0))],[Hf (G2 (GW GZ 0))],[Hf (G2 (GW GZ 0))],[Hf (G2 (GW GZ 0))],[Hf (G2 (GW GZ 0))],[Hf (G2 (GW GZ 0))],[Hf (G2 (GW GZ 0))],[Hf (G2 (GW GZ 0))],[Hf (G2 (GW GZ 0))],[Hf (G2 (GW GZ 0))],[Hf (G2 (GW GZ 0))],[Hf (G2 (GW GZ 0))],[Hf (G2 (GW GZ 0))],[Hf (G2 (GW GZ 0))],[Hf (G2 (GW GZ 0))],[Hf (G2 (GW GZ 0))],[Hf (G2 (GW GZ 0))],[Hf (G2 (GW GZ 0))],[Hf (G2 (GW GZ 0))],[Hf (G2 (GW GZ 0))],[Hf (G2 (GW GZ 0))],[Hf (G2 (GW GZ 0))],[Hf (G2 (GW GZ 0))],[Hf (G2 (GW GZ 0))],[Hf (G2 (GW GZ 0))],[Hf (G2 (GW GZ 0))],[Hf (G2 (GW GZ 0))],[Hf (G2 (GW GZ 0))],[Hf (G2 (GW GZ 0))],[Hf (G2 (GW GZ 0))],[Hf (G2 (GW GZ 0))],[Hf (G2 (GW GZ 0))],[Hf (G2 (GW GZ 0))],[Hf (G2 (GW GZ 0))],[Hf (G2 (GW GZ 0))],[Hf (G2 (GW GZ 0))],[Hf (G2 (GW GZ 0))],[Hf (G2 (GW GZ 0))],[Hf (G2 (GW GZ 0))],[Hf (G2 (GW GZ 0))],[Hf (G2 (GW GZ 0))],[Hf (G2 (GW GZ 0))],[Hf (G2 (GW GZ 0))],[Hf (G2 (GW GZ 0))],[Hf (G2 (GW GZ 0))],[Hf (G2 (GW GZ 0))],[Hf (G2 (GW GZ 0))],[Hf (G2 (GW GZ 0))],[Hf (G2 (GW GZ 0))],[Hf (G2 (GW GZ 0))],[Hf (G2 (GW GZ 0))],[Hf (G2 (GW GZ 0))]] 0 1])) (some (true,Jd (.vs 2 0 0 64 (some 128)),[.var z,.var [Hf (G2 (GW GX (↑(GT s1.a):Int))),Hf (G2 (GW GX (↑(GT s1.b):Int))),Hf (G2 (GW GX (↑(GT s1.c):Int))),Hf (G2 (GW GX (↑(GT s1.d):Int))),Hf (G2 (GW GX (↑(GT s1.e):Int))),Hf (G2 (GW GX (↑(GT s1.f):Int))),Hf (G2 (GW GX (↑(GT s1.g):Int))),Hf (G2 (GW GX (↑(GT s1.h):Int)))],.vec zv 0 1])) from(by subst v0;first|(simp only[];done)|first|assumption|rfl|(simp[hew]))) (.c (show @Eq (Option (Bool×D×List Blk)) (some (Ia (GU (fun x=>GU Hf x) (GU byR r)) (rowOk 1),int (↑(min (G3 (GU (fun x=>GU Hf x) (GU byR r))) 64):Int),if min (G3 (GU (fun x=>GU Hf x) (GU byR r))) 64=0 then [.var z,.var [Hf (G2 (GW GX (↑(GT s1.a):Int))),Hf (G2 (GW GX (↑(GT s1.b):Int))),Hf (G2 (GW GX (↑(GT s1.c):Int))),Hf (G2 (GW GX (↑(GT s1.d):Int))),Hf (G2 (GW GX (↑(GT s1.e):Int))),Hf (G2 (GW GX (↑(GT s1.f):Int))),Hf (G2 (GW GX (↑(GT s1.g):Int))),Hf (G2 (GW GX (↑(GT s1.h):Int)))],.vec zv 0 1] else Lx [.var z,.var [Hf (G2 (GW GX (↑(GT s1.a):Int))),Hf (G2 (GW GX (↑(GT s1.b):Int))),Hf (G2 (GW GX (↑(GT s1.c):Int))),Hf (G2 (GW GX (↑(GT s1.d):Int))),Hf (G2 (GW GX (↑(GT s1.e):Int))),Hf (G2 (GW GX (↑(GT s1.f):Int))),Hf (G2 (GW GX (↑(GT s1.g):Int))),Hf (G2 (GW GX (↑(GT s1.h):Int)))],.vec zv 0 1] 2 (.vec (Hl 0 zv++(Hl (min (G3 (GU (fun x=>GU Hf x) (GU byR r))) 64) (GU (fun x=>GU Hf x) (GU byR r))++Hb (0+min (G3 (GU (fun x=>GU Hf x) (GU byR r))) 64) zv)) 0 1))) (some (true,int (↑v0:Int),[.var z,.var [Hf (G2 (GW GX (↑(GT s1.a):Int))),Hf (G2 (GW GX (↑(GT s1.b):Int))),Hf (G2 (GW GX (↑(GT s1.c):Int))),Hf (G2 (GW GX (↑(GT s1.d):Int))),Hf (G2 (GW GX (↑(GT s1.e):Int))),Hf (G2 (GW GX (↑(GT s1.f):Int))),Hf (G2 (GW GX (↑(GT s1.g):Int))),Hf (G2 (GW GX (↑(GT s1.h):Int)))],.vec ev 0 1])) from(by subst v0;first|(simp only[hgt,cond_true,cond_false];done)|first|assumption|rfl|(simp[hew]))) (.c (show @Eq (Option (Bool×D)) (some (inR (↑v0:Int) 64,.ref (.vp 2 0 (0+Hh (↑v0:Int)) 0))) (some (true,Jd (.vp 2 0 k 0))) from(by subst v0;first|(simp only[hgt,cond_true,cond_false];done)|first|assumption|rfl|(simp[hew]))) (.c (show @Eq (Option (List Blk)) (aw GV [.var z,.var [Hf (G2 (GW GX (↑(GT s1.a):Int))),Hf (G2 (GW GX (↑(GT s1.b):Int))),Hf (G2 (GW GX (↑(GT s1.c):Int))),Hf (G2 (GW GX (↑(GT s1.d):Int))),Hf (G2 (GW GX (↑(GT s1.e):Int))),Hf (G2 (GW GX (↑(GT s1.f):Int))),Hf (G2 (GW GX (↑(GT s1.g):Int))),Hf (G2 (GW GX (↑(GT s1.h):Int)))],.vec ev 0 1] 5 (.ref (.vp 2 0 k 0)) (Hf (G2 (GW GZ 128)))) (some [.var z,.var [Hf (G2 (GW GX (↑(GT s1.a):Int))),Hf (G2 (GW GX (↑(GT s1.b):Int))),Hf (G2 (GW GX (↑(GT s1.c):Int))),Hf (G2 (GW GX (↑(GT s1.d):Int))),Hf (G2 (GW GX (↑(GT s1.e):Int))),Hf (G2 (GW GX (↑(GT s1.f):Int))),Hf (G2 (GW GX (↑(GT s1.g):Int))),Hf (G2 (GW GX (↑(GT s1.h):Int)))],.vec ew 0 1]) from ?_) (.c hgt (.c (show Qd (0+Hh 128≤G3 ew)=true from ?_) (.c (show(co (G1 GY ((↑128:Int) - 8)) (↑128:Int) 128&&true&&(true||false)&&true)=true from rfl) (.c (Hx (Γ':=Γd) (@hput)) (.c (show GU byV x=GU (fun x=>GU Hf x) (GU byR x) from ?_) (.c hl1 (.c hl2 (.c (show aD GV [.var (GU w8 l),.var [Hf (G2 (GW GX (↑(GT s2.a):Int))),Hf (G2 (GW GX (↑(GT s2.b):Int))),Hf (G2 (GW GX (↑(GT s2.c):Int))),Hf (G2 (GW GX (↑(GT s2.d):Int))),Hf (G2 (GW GX (↑(GT s2.e):Int))),Hf (G2 (GW GX (↑(GT s2.f):Int))),Hf (G2 (GW GX (↑(GT s2.g):Int))),Hf (G2 (GW GX (↑(GT s2.h):Int)))],.gone] 51 (.ref (.ptr 0 0))=some (Hc (GU w8 l)) from ?_) (.c (show @Eq (Option (List Blk)) (aw GV [.var (GU w8 l),.var [Hf (G2 (GW GX (↑(GT s2.a):Int))),Hf (G2 (GW GX (↑(GT s2.b):Int))),Hf (G2 (GW GX (↑(GT s2.c):Int))),Hf (G2 (GW GX (↑(GT s2.d):Int))),Hf (G2 (GW GX (↑(GT s2.e):Int))),Hf (G2 (GW GX (↑(GT s2.f):Int))),Hf (G2 (GW GX (↑(GT s2.g):Int))),Hf (G2 (GW GX (↑(GT s2.h):Int)))],.gone] 51 (.ref (.ptr 0 0)) (Hc (GU w8 l))) (some [.var (GU w8 l),.var [Hf (G2 (GW GX (↑(GT s2.a):Int))),Hf (G2 (GW GX (↑(GT s2.b):Int))),Hf (G2 (GW GX (↑(GT s2.c):Int))),Hf (G2 (GW GX (↑(GT s2.d):Int))),Hf (G2 (GW GX (↑(GT s2.e):Int))),Hf (G2 (GW GX (↑(GT s2.f):Int))),Hf (G2 (GW GX (↑(GT s2.g):Int))),Hf (G2 (GW GX (↑(GT s2.h):Int)))],.gone]) from ?_) .n)))))))))))))))<;>subst v0<;>(first|assumption|rfl|(simp[hew]))
def ww(s:S8)(b:List (BitVec 8))(n:Nat):S8:=(H7 n).foldl (fun s k=>sR s ((b.drop (64*k)).take 64)) s
theorem rH(s:S8)(b:List (BitVec 8))(n:Nat):ww s b (n+1)=sR (ww s b n) ((b.drop (64*n)).take 64):=by
 unfold ww;rw[aH]
theorem su_l{b:List (BitVec 8)}{s:S8}{z:List (BitVec 8)}:CW GV Γd [] false (.loop (sub IL 0)) (suS z b s 0) (.exit 0) (suS z b (ww s b (b.length / 64)) (b.length / 64)):=by
 refine Jb (b.length / 64) (fun k=>suS z b (ww s b k) k) (by simp) (fun k hk=>?_) (F2 (by simp;omega))
 rw[rH]
 have h1:64*k+64≤b.length:=by omega
 have h2:64≤(b.drop (64*k)).length:=by simp;omega
 exact F1 (by simp;omega) h2 h1 (rF (by simp;omega))
theorem sv_l{b:List (BitVec 8)}{s:S8}{z:List (BitVec 8)}{m:Nat}(hm:b.length=64*m):CW GV Γd [] false (.loop (sub IL 1)) (svS z b s 0) (.exit 2) {t:=mkT 69 0 [Zz,Qi],h:=(Qp z (ww s b m)),m:=[]}:=by
 refine Jb m (fun k=>svS z b (ww s b k) k) (by simp) (fun k hk=>?_) (F4 (by simp;omega))
 rw[rH]
 have h1:64*k+64≤b.length:=by omega
 have h2:64≤(b.drop (64*k)).length:=by simp;omega
 exact F3 (by simp;omega) h2 h1 (rF (by simp;omega))
def Cs(s:S8)(n:Nat):List (BitVec 8):=(H7 n).foldl (fun l i=>puR l (4*i) 4 ((s.toL.getD i 0).setWidth 64) 4) zb32
theorem zi(s:S8)(n:Nat):Cs s (n+1)=puR (Cs s n) (4*n) 4 ((s.toL.getD n 0).setWidth 64) 4:=by
 unfold Cs;rw[aH]
theorem dN(s:S8)(n:Nat):(Cs s n).length=32:=by
 unfold Cs;rw[fM _ (by intros;simp[my])];simp[zb32]
theorem sw_l{s:S8}:CW GV Γd [] false (.loop (sub IL 2)) (swS zb32 s 0) (.exit 4) {t:=mkT 69 0 [Zz],h:=(Qp (Cs s 8) s),m:=[]}:=by
 refine Jb 8 (fun i=>swS (Cs s i) s (i:Int)) (by simp) (fun i hi=>?_) F7
 rw[zi]
 have h4:GY.wrap (4*(i:Int))=((4*i:Nat):Int):=by rw[wrap_i64 (by omega) (by omega)];omega
 refine F6 (by simp;omega) (wrap_succ hi (by omega)) h4 (by rw[h4,wrap_i64 (by omega) (by omega)];omega) hi ?_
 rw[Es,wh]
 exact F5 (FZ (by omega) (by rw[dN];omega))
theorem Ct:bg GV [] 51 ZK (Yi zb32):=by
 unfold bg;kernel_rfl
theorem zj{l:List (BitVec 8)}{s:S8}(hl:l.length=32):aD GV (Qp l s) 51 ZK=some (.agg (l.map w8)):=by
 have e1:wr GV 51=some true:=by kernel_rfl
 have e2:szOf GV 51=some 32:=by kernel_rfl
 have e3:32≤(l.map w8).length:=by simp[hl]
 have e4:(l.map w8).take 32=l.map w8:=H3 (by simp[hl])
 simp only[aD,Hu,cm,e1,e2,IW,e3,if_true,e4]
theorem zk(l:List (BitVec 8)):(l.map w8).all D.one=true:=by
 rw[Hs];intro x hx;obtain⟨b,_,rfl⟩:=HS.1 hx;rfl
theorem Cu{l:List (BitVec 8)}{s:S8}(hl:l.length=32):aw GV (Qp l s) 51 ZK (.agg (l.map w8))=some (Qp l s):=by
 have e2:szOf GV 51=some 32:=by kernel_rfl
 have e3:(l.map w8).length=32:=by simp[hl]
 have e4:KL (.agg (l.map w8))=some (l.map w8):=by simp only[KL,zk,if_true]
 have e5:aF (l.map w8) 0 (l.map w8)=l.map w8:=by simp[aF]
 simp only[aw,e4,e2,e3,if_true,Hu,I7,Hq,e5]
 rfl
theorem Cv{l l':List (BitVec 8)}{s:S8}{z:List (BitVec 8)}{at' n:Nat}{c:Option Nat}{y:Int}(he:Ev GV Γ0 75 (Xh (.vs 0 0 at' n c) y) (Qs l 0) (.tup []) (Qs l' 0)):
  Ev GV Γ0 75 (Xh (.vs 2 0 at' n c) y) (zv1 (z.map w8) s (l.map byV)) (.tup []) (zv1 (z.map w8) s (l'.map byV)):=by
 have hv (f:Ref→D) (l:List (BitVec 8)):(l.map byV).map (HP f)=l.map byV:=by
  rw[Jz];rfl
 refine HU (Io (H:=zv1 (z.map w8) s (l.map byV)) [2] he rfl rfl rfl ⟨hv _ l,trivial⟩ ⟨hv _ l',trivial⟩) rfl ?_
 rfl
theorem len_u(n:Nat):Hg.wrap (Hg.wrap (n:Int)*8)=((HY 64 n*8).toNat:Int):=by
 rw[Es (_*_),Es]
 have h8:(8:Int)=(((8:BitVec 64).toNat:Nat):Int):=rfl
 rw[h8,bv_mul]
 congr 2
theorem hfz{x:List (BitVec 8)}:x.map byV=(x.map byR).map (·.map .p):=by rw[Jz];rfl
def wi(r:List (BitVec 8))(u:BitVec 64):List (BitVec 8):=puR (GR r) 56 8 u 8
def sT(r:List (BitVec 8))(u:BitVec 64):List (BitVec 8):=puR (GR r) 120 8 u 8
def sumS(s1:S8)(r:List (BitVec 8))(u:BitVec 64):S8:=match Qd (r.length>55) with
 | true=>ww s1 (sT r u) 2
 | false=>ww s1 ((wi r u).take 64) 1
def wj(b:List (BitVec 8)):List (BitVec 8):=Cs (sumS (ww startS b (b.length / 64)) (b.drop (64*(b.length / 64))) (HY 64 b.length*8)) 8
theorem iY(b:List (BitVec 8)):(wj b).length=32:=dN _ _
theorem oj{k:Nat}(l:List (BitVec 8)):D.innL k (l.map w8)=true:=by
 induction l with
 | nil=>rfl
 | cons b l ih=>simp only[Il,D.innL,D.inn,ih,Lq]
abbrev cO(l:List (BitVec 8)):D:=.agg (l.map w8)
theorem sU{l:List (BitVec 8)}:D.inn 0 (cO l)=true:=oj l
theorem zl{b:List (BitVec 8)}(h:List Blk):Ev GV Γd 42 [byD b] h (cO (wj b)) h:=by
 have hr:(b.drop (64*(b.length / 64))).length<64:=by simp;omega
 have hfn:GV.funcs[42]? = some IL:=by kernel_rfl
 have hfin {s2:S8} {l:List (BitVec 8)} (hl:l.length=32) (hw:CW GV Γd [] false (ap IL) {t:=ba IL [byD b],h:=[],m:=[]} .ret {t:=mkT 69 0 [(2,.ref (.ptr 0 0))],h:=[.var (l.map w8),.var s2.row,.gone],m:=[]}) :
   Ev GV Γd 42 [byD b] h (cO l) h:=by
  refine Ev.of_cw0 (ds:=[cO l]) hfn (by kernel_rfl) hw (.inr rfl) rfl ?_ rfl rfl sU h
  have e1:IL.results.toList=[.cell 2 51]:=by kernel_rfl
  rw[e1]
  have e2:=zj (l:=l) (s:=s2) hl
  have e3:(mkT 69 0 [(2,Jd (.ptr 0 0))]).getD 2 .any=.ref (.ptr 0 0):=rfl
  simp only[aR,fo,e3,e2]
 have hu:Hg.wrap (Hg.wrap ((b.map byR).length:Int)*8)=((HY 64 b.length*8).toNat:Int):=by rw[HW,len_u]
 unfold wj
 generalize hu0:HY 64 b.length*8=u at hu
 generalize hr0:b.drop (64*(b.length / 64))=r at hr
 unfold sumS
 have h0:=su_l (b:=b) (s:=startS) (z:=zb32)
 cases hgt:Qd (r.length>55) with
 | false =>
  simp only[]
  have hlen:(wi r u).length=128:=by unfold wi;rw[my,iX (by omega)]
  refine hfin (dN _ _) (sum_lo (k:=r.length) (r:=r) (s1:=ww startS b (b.length / 64)) (z:=zb32.map w8) (zv:=zv128) (ev:=(Cn r).map byV) (ew:=(GR r).map byV) (x:=wi r u) Ct ?_ Co (Cp (by omega)) (Cr (by simp) hr) (Cq (by rw[pE (by omega)];omega)) (decide_eq_false (by have:=of_decide_eq_false hgt;simp only[HW];omega)) ?_ hfz ?_ sw_l (zj (dN _ _)) (Cu (dN _ _)))
  ·rw[←hr0];exact h0
  ·rw[hu]
   exact Cv (zd (by omega) (by rw[iX (by omega)];omega))
  ·rw[cN]
   have e:(((wi r u).map byR).drop 0).take 64=((wi r u).take 64).map byR:=by rw[IW,Ng]
   rw[e]
   exact sv_l (by simp;omega)
 | true =>
  simp only[]
  have hlen:(sT r u).length=128:=by unfold sT;rw[my,iX (by omega)]
  refine hfin (dN _ _) (sum_hi (k:=r.length) (r:=r) (s1:=ww startS b (b.length / 64)) (z:=zb32.map w8) (zv:=zv128) (ev:=(Cn r).map byV) (ew:=(GR r).map byV) (x:=sT r u) Ct ?_ Co (Cp (by omega)) (Cr (by simp) hr) (Cq (by rw[pE (by omega)];omega)) (decide_eq_true (by have:=of_decide_eq_true hgt;simp only[HW];omega)) (by simp[iX (r:=r) (by omega)]) ?_ hfz ?_ sw_l (zj (dN _ _)) (Cu (dN _ _)))
  ·rw[←hr0];exact h0
  ·rw[hu]
   exact Cv (zd (by omega) (by rw[iX (by omega)];omega))
  ·rw[cN]
   have e:(((sT r u).map byR).drop 0).take 128=(sT r u).map byR:=by rw[IW,H3 (by simp;omega)]
   rw[e]
   exact sv_l (b:=sT r u) (m:=2) (by rw[hlen])
theorem mz:∀l:List (BitVec 8),eQ (l.map byV)=some (l.map byR)
 | []=>rfl
 | b::l=>by
  have:=mz l
  simp only[Il,eQ,this]
  rfl
theorem uR:∀l:List (BitVec 8),sC (l.map w8)=true
 | []=>rfl
 | b::l=>by simp only[Il,sC,uR l,iA,Lq]
theorem BD{l:List (BitVec 8)}:iA (cO l)=true:=uR l
theorem F8{l:List (BitVec 8)}{h:List Blk}{k e:Nat}(hk:h[k]? = some (.vec (l.map byV) e 1)):Ev GV Γd 42 [.ref (.vec k e)] h (cO (wj l)) h:=by
 have e1:vG h [.ref (.vec k e)]=[byD l]:=by
  have e0:Nat.beq e e=true:=Nat.beq_refl e
  simp only[vG,kv,hk,frzV,mz,e0]
 exact Ev.frzArgs (by rw[e1];rfl) BD (by rw[e1];exact zl [])
abbrev bD:D:=lit (.slice none 0 0)
theorem grow_mk{n:Nat}{z:Int}(hz:z=n)(h0:0<n)(hn:n≤1000000000000):dj GV [] 23 3 bD (int z)=some (.ref (.vec 0 0),[.vec ((HA n (0:BitVec 8)).map byV) 0 1]):=by
 subst hz
 have e1:cn GV 23=some 5:=by kernel_rfl
 have e2:GV.underlying 3=some (.int .i64):=by kernel_rfl
 have e3:szOf GV 5=some 1:=by kernel_rfl
 have e4:bytesOf GV 5=some 1:=by kernel_rfl
 have e5:fd GV 5=some (.int .u8 0):=by kernel_rfl
 have e6:Qd ((GW .u8 0).cells.size=1∧0<1∧(0:Int)<(n:Int)∧(n:Int).toNat*1≤140737488355328∧(n:Int)≤4611686018427387904)=true:=by
  refine decide_eq_true ⟨rfl,by omega,by omega,by omega,by omega⟩
 have e7:HA n [lit (.int .u8 0)]=(HA n (0:BitVec 8)).map byV:=by rw[List.map_replicate];rfl
 simp only[dj,e1,e2,e3,e4,e5,e6,List.length_nil,List.nil_append]
 rw[Iw,←e7];rfl
abbrev V9:D:=(.ref (.vec 0 0))
theorem grow_tr{n:Nat}(h0:0<n):lk GV (Qs (HA n (0:BitVec 8)) 0) 23 V9 none (some (int 0))=some (.ref (.vec 0 1),[.vec [] 1 1]):=by
 have e1:cn GV 23=some 5:=by kernel_rfl
 have e3:szOf GV 5=some 1:=by kernel_rfl
 have hne:(Wq n) ≠ []:=by
  intro h
  have:=congrArg G3 h
  simp at this;omega
 have e6:Qd (True∧True∧(Wq n) ≠ [])=true:=decide_eq_true ⟨trivial,trivial,hne⟩
 have b1:a9 (QN 0) 1=some 0:=rfl
 have b0:a9 none 0=some 0:=rfl
 simp only[lk,e1,e3,b0,b1,Hu,e6]
 rfl
theorem capd_nil:capD GV 23 bD=some (int 0):=by kernel_rfl
abbrev Yf(a:Nat):D:=int (G1 GY ((↑a:Int) - G1 GY (0 - (↑0:Int))))
abbrev YH:D:=(.ref (.vec 0 1))
abbrev V8(a:Nat):D:=bool (Qd (G1 GY ((↑a:Int) - G1 GY (0 - (↑0:Int)))>0))
theorem grow_a{n:Nat}(h0:0<n)(hn:n≤1000000000000)(hneg:Qd ((n:Int)<0)=false)(hw:GY.wrap ((n:Int) - GY.wrap (0 - 0))=n)(hpos:Qd (GY.wrap ((n:Int) - GY.wrap (0 - 0))>0)=true):(Ev GV Γ0 76 [bD,int n] [] YH [.vec [] 1 1]):=by
 cases hc0:Qd (G1 GY ((↑n:Int) - G1 GY (0 - (↑0:Int)))>0)
 ·refine HU (Jj (h':=[]) (d:=nq) pok [.b false,.ox 10 (int 0) [],.b false] (by kernel_rfl) (.c hneg (.c (show @Eq (Option (D×List Blk)) (some (int 0,[])) (some (int 0,[])) from(by first|assumption|rw[capd_nil]<;>rfl|exact grow_mk hw h0 hn|exact grow_tr h0|rfl)) (.c hc0 .n)))) ?_ ?_<;>(first|rfl|(rw[hpos] at hc0;cases hc0))
 ·let v0:List Blk:=[.vec (GU byV (HA n 0)) 0 1]
  refine HU (Jj (h':=[.vec [] 1 1]) (d:=.ref (.vec 0 1)) pok [.b false,.ox 10 (int 0) [],.b true,.ox 19 (int 0) [],.ox 22 V9 v0,.ox 25 YH [.vec [] 1 1]] (by kernel_rfl) (.c hneg (.c (show @Eq (Option (D×List Blk)) (some (int 0,[])) (some (int 0,[])) from ?_) (.c hc0 (.c (show @Eq (Option (D×List Blk)) (some (int 0,[])) (some (int 0,[])) from ?_) (.c (show(co 0 0 0&&true&&(true||KN (KJ (evalD Γ0 (nq::(Yf n)::IM::IM::nq::(Q9 n)::bool (Qd ((↑n:Int)<0))::IM::(Q9 n)::nq::int 0::nq::int (↑0:Int)::mkT 14 0 [(0,int (G1 GY (0 - (↑0:Int)))),(1,(Yf n)),(2,(Yf n)),(3,(V8 n)),(4,nq),(5,nq),(6,int 0)])) (some (Jq 19))))&&true)=true from rfl) (.c (show @Eq (Option (D×List Blk)) (dj GV [] 23 3 nq (Yf n)) (some (.ref (.vec 0 0),v0)) from ?_) (.c (show @Eq (Option (D×List Blk)) (lk GV v0 23 V9 none (KJ (evalD Γ0 [nq,(Yf n),IM,IM,nq,(Q9 n),bool (Qd ((↑n:Int)<0)),IM,(Q9 n),nq,int 0,nq,int (↑0:Int),int (G1 GY (0 - (↑0:Int))),(Yf n),(Yf n),(V8 n),nq,nq,int 0,nq,(Yf n),.ref (.vec 0 0),nq,int (↑0:Int),IM,IM]) (some (Jq 24)))) (some (.ref (.vec 0 1),[.vec [] 1 1])) from ?_) .n)))))))) (by subst v0;first|rfl|(rw[hpos] at hc0;cases hc0)) (by subst v0;first|rfl|(rw[hpos] at hc0;cases hc0))<;>subst v0<;>(first|assumption|rw[capd_nil]<;>rfl|exact grow_mk hw h0 hn|exact grow_tr h0|rfl)
theorem zm{n:Nat}(h0:0<n)(hn:n≤1000000000000):Ev GV Γ0 76 [bD,int n] [] YH [.vec [] 1 1]:=by
 have hz:GY.wrap (0 - 0)=0:=by kernel_rfl
 have hw:GY.wrap ((n:Int) - GY.wrap (0 - 0))=n:=by rw[hz,wrap_i64 (by omega) (by omega)];omega
 exact grow_a h0 hn (by simp) hw (by rw[hw];simp;omega)
end Go.Vi
