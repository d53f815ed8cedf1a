/- LedgerArrival: part of the proof: contracts of the functions that the law reaches, and the law. No conditions beyond the given statement's own. -/
import Derived.Test.YtbfpdhdcicjihaaGreatDoorW3
open Decidable renaming decide → Qd
open ByteArray renaming empty → KK
open Go.Proofs.Tryz renaming prog → GV, f71 → Lz, f18 → Ki, f6 → Md, f22 → Hr
open Nat renaming zero_le → L4
open Go.IntKind renaming i64 → GY, wrap → G1
open List renaming length → G3, getElem?_eq_some_iff → G9, flatten → H1, set → Lx, map → GU, mem_of_getElem? → HL, drop_zero → IW
open Go.Exit renaming normal → Hz, ret → Im, exit → HJ
open Go.Vi.Blk renaming inn → Ho
open Go.Vi.MeT renaming row → Hm
open Go.Vi.GrT renaming row → Hn
open Go.Vi.BuT renaming row → G7
open Go.Vi.Dp renaming sl → Hj, v → G2
open Go.Value renaming bool → Ht, tuple → HG
open Go.Vi.StT renaming row → JP
open Go.Vi.D renaming any → IM, p → Hf, agg → Hc, fn → Hy
open Go.Vi.EntT renaming row → Hi
open Int renaming toNat → Hh
open Go.Operand renaming tmp → Jq
open Go.LoopState renaming busy → I6
open Go.Fn renaming func → He
open Go Go.Proofs
namespace Go.Vi
set_option maxHeartbeats 4000000
set_option maxRecDepth 100000
theorem Ev.argW{P:Program}{Γ:ae}{f:FuncId}{args:List D}{h h':List Blk}{d:D}(he:Ev P Γ f (D.nilWL args) h d h'):Ev P Γ f args h d h':=fun O w l vs R ra=>he O w l vs R (iz _ _ ra)
def SecT.zero:SecT:=⟨0,0,0,0,0,[],[],[],false⟩
def RqT.zero:RqT:=⟨0,0,0,0,0,[],0,0,0⟩
def EntT.bare(e:EntT):EntT:=⟨e.time,e.campus,e.no,e.kind,0,0,0,0,0,0,KK,.zero,.zero,e.r,e.s⟩
def EntT.clr(e:EntT)(k:Int):EntT :=
 if k=1 then {e with frm:=0,til:=0,text:=KK} else if k=2∨k=8 then {e with stu:=0,obj:=0,val:=0,term:=0} else if k=3∨k=5 then {e with stu:=0,obj:=0,val:=0,frm:=0,til:=0}
 else if k=4 then {e with stu:=0,obj:=0,val:=0,frm:=0,til:=0,term:=0} else if k=6 then {e with sec:=.zero} else if k=7 then {e with req:=.zero} else {e with term:=0}
def gradeR(e:EntT):Int:=mustR (inS e.stu 0 19999&&inS e.term 0 1023&&inS e.obj 0 4095&&yG e)
def zC(e:EntT)(k:Int):Int:=if k=1 then mustR (catB e) else if k=2 then gradeR e else if k=3∨k=5 then mustR (EN e) else if k=4 then petR e else if k=6 then rp e.sec else if k=7 then ro e.req else if k=8 then nU ⟨e.val,e.stu,e.obj,e.term⟩ else mustR (inS e.term 0 1023)
def EntT.st(e:EntT):StT:=⟨e.time,e.campus,e.no⟩
def bh(e:EntT):Int:=match j8 e.st != 0 with
 | true=>j8 e.st
 | false=>if 1≤e.kind∧e.kind≤9 then enR 0 (dv (e.clr e.kind) e.bare) (zC e e.kind) else 370
theorem EW(e:EntT)(h:List Blk):Ev GV Γ0 33 [.agg (ZU e)] h (int (j8 e.st)) h:=Ac (s:=e.st) h
abbrev zbo(a:EntT)(b c d:Int):List D:=[.agg (QR a.kind a 0 0 b 0 c d),.agg (ff a.kind a)]
theorem mm{e:EntT}(o:e.ok)(h:List Blk):Ev GV Γq 15 [ag e.row] h (int (bh e)) h:=by
 have hst:=EW e
 show Ev GV Γq 15 [.agg (b5 e.kind e)] h (int (bh e)) h
 unfold bh
 cases hb:(j8 e.st != 0) with
 | true=>exact en_st hst hb h
 | false =>
  have h0:j8 e.st=0:=by simpa using hb
  rw[h0] at hst
  simp only
  by_cases hk:1≤e.kind∧e.kind≤9
  ·rw[if_pos hk]
   have hkk:e.kind=1∨e.kind=2∨e.kind=3∨e.kind=4∨e.kind=5∨e.kind=6∨e.kind=7∨e.kind=8∨e.kind=9:=by omega
   rcases hkk with hk|hk|hk|hk|hk|hk|hk|hk|hk
   ·have hsm:∀h,Ev GV Γ0 9 [.agg (nW e.kind e e.stu e.obj e.term e.val 0 0 KK (rq e.sec) (rqD e.req.kind e.req)),.agg (ff e.kind e)] h (bool (dv (e.clr 1) e.bare)) h:=fun h=>Ev.argW (dy (a:=e.clr 1) (b:=e.bare) o.m o.g o.l o.c h)
    have hck:∀h,Ev GV Γ0 54 [.agg (b5 e.kind e)] h (int (zC e 1)) h:=fun h=>cat_ev h
    rw[hk] at hsm hck ⊢
    exact en1_a hst hsm hck h
   ·have hsm:∀h,Ev GV Γ0 9 [.agg (nW e.kind e 0 0 0 0 e.frm e.til e.text (rq e.sec) (rqD e.req.kind e.req)),.agg (ff e.kind e)] h (bool (dv (e.clr 2) e.bare)) h:=fun h=>Ev.argW (dy (a:=e.clr 2) (b:=e.bare) o.m o.g o.l o.c h)
    have hck:∀h,Ev GV Γ0 57 [.agg (b5 e.kind e)] h (int (zC e 2)) h:=fun h=>yH h
    rw[hk] at hsm hck ⊢
    exact en2_a hst hsm hck h
   ·have hsm:∀h,Ev GV Γ0 9 [.agg (nW e.kind e 0 0 e.term 0 0 0 e.text (rq e.sec) (rqD e.req.kind e.req)),.agg (ff e.kind e)] h (bool (dv (e.clr 3) e.bare)) h:=fun h=>Ev.argW (dy (a:=e.clr 3) (b:=e.bare) o.m o.g o.l o.c h)
    have hck:∀h,Ev GV Γ0 58 [.agg (b5 e.kind e)] h (int (zC e 3)) h:=fun h=>rn h
    rw[hk] at hsm hck ⊢
    exact en3_a hst hsm hck h
   ·have hsm:∀h,Ev GV Γ0 9 [.agg (nW e.kind e 0 0 0 0 0 0 e.text (rq e.sec) (rqD e.req.kind e.req)),.agg (ff e.kind e)] h (bool (dv (e.clr 4) e.bare)) h:=fun h=>Ev.argW (dy (a:=e.clr 4) (b:=e.bare) o.m o.g o.l o.c h)
    have hck:∀h,Ev GV Γ0 60 [.agg (b5 e.kind e)] h (int (zC e 4)) h:=fun h=>pet_ev h
    rw[hk] at hsm hck ⊢
    exact en4_a hst hsm hck h
   ·have hsm:∀h,Ev GV Γ0 9 [.agg (nW e.kind e 0 0 e.term 0 0 0 e.text (rq e.sec) (rqD e.req.kind e.req)),.agg (ff e.kind e)] h (bool (dv (e.clr 5) e.bare)) h:=fun h=>Ev.argW (dy (a:=e.clr 5) (b:=e.bare) o.m o.g o.l o.c h)
    have hck:∀h,Ev GV Γ0 58 [.agg (b5 e.kind e)] h (int (zC e 5)) h:=fun h=>rn h
    rw[hk] at hsm hck ⊢
    exact en5_a hst hsm hck h
   ·have hsm:∀h,Ev GV Γ0 9 [.agg (nW e.kind e e.stu e.obj e.term e.val e.frm e.til e.text yL (rqD e.req.kind e.req)),.agg (ff e.kind e)] h (bool (dv (e.clr 6) e.bare)) h:=fun h=>Ev.argW (dy (a:=e.clr 6) (b:=e.bare) (L4 _) (L4 _) (L4 _) o.c h)
    have hck:∀h,Ev GV Γq 62 [.agg (b5 e.kind e)] h (int (zC e 6)) h:=fun h=>EU o.g o.l h
    rw[hk] at hsm hck ⊢
    exact en6_a hst hsm hck h
   ·have hsm:∀h,Ev GV Γ0 9 [.agg (nW e.kind e e.stu e.obj e.term e.val e.frm e.til e.text (rq e.sec) ET),.agg (ff e.kind e)] h (bool (dv (e.clr 7) e.bare)) h:=fun h=>Ev.argW (dy (a:=e.clr 7) (b:=e.bare) o.m o.g o.l (L4 _) h)
    have hck:∀h,Ev GV Γq 65 [.agg (b5 e.kind e)] h (int (zC e 7)) h:=fun h=>EV o.c h
    rw[hk] at hsm hck ⊢
    exact en7_a hst hsm hck h
   ·have hsm:∀h,Ev GV Γ0 9 [.agg (nW e.kind e 0 0 0 0 e.frm e.til e.text (rq e.sec) (rqD e.req.kind e.req)),.agg (ff e.kind e)] h (bool (dv (e.clr 8) e.bare)) h:=fun h=>Ev.argW (dy (a:=e.clr 8) (b:=e.bare) o.m o.g o.l o.c h)
    have hck:∀h,Ev GV Γ0 67 [.agg (b5 e.kind e)] h (int (zC e 8)) h:=fun h=>AR h
    rw[hk] at hsm hck ⊢
    exact en8_a hst hsm hck h
   ·have hsm:∀h,Ev GV Γ0 9 [.agg (nW e.kind e e.stu e.obj 0 e.val e.frm e.til e.text (rq e.sec) (rqD e.req.kind e.req)),.agg (ff e.kind e)] h (bool (dv (e.clr 9) e.bare)) h:=fun h=>Ev.argW (dy (a:=e.clr 9) (b:=e.bare) o.m o.g o.l o.c h)
    have hck:∀h,Ev GV Γ0 69 [.agg (b5 e.kind e)] h (int (zC e 9)) h:=fun h=>EO h
    rw[hk] at hsm hck ⊢
    exact en9_a hst hsm hck h
  ·rw[if_neg hk]
   exact enN_a hk hst h
set_option maxHeartbeats 4000000
abbrev fsS(L:List (List Dp))(i:Int):AS:={t:=mkT 15 0 [(5,aa L),(6,(XO L)),(7,int i)],h:=[],m:=[]}
theorem EX{L:List (List Dp)}{i:Nat}(hr:af (i:Int) L [vi 0] 1)(hlt:Qd ((i:Int)<(L.length:Int))=true)(hw:GY.wrap ((i:Int)+1)=((i+1:Nat):Int)):(CW GV Γ0 [] false (sub Lz 0) (fsS L i) .normal (fsS L ((i+1:Nat):Int))):=by
 refine zX {t:=mkT 15 0 [(5,aa L),(6,int (↑(G3 L):Int)),(7,int (G1 GY ((↑i:Int)+1)))],h:=[],m:=[]} Hz [.st (.mask [5,6,7])] [.b true,.row [vi 0],.b false] (.c hlt (.c hr (.c (show(0 != 0)=false from rfl) .n))) ?_ ?_<;>(first|rfl|(rw[hw]<;>rfl))
abbrev YE(a:Nat)(b:Int):AS:={t:=mkT a 0 [(2,int b)],h:=[],m:=[]}
theorem fs_hit{L:List (List Dp)}{i:Nat}{n:Int}(hr:af (i:Int) L [vi n] 1)(hlt:Qd ((i:Int)<(L.length:Int))=true)(hn:(n != 0)=true):(CW GV Γ0 [] false (sub Lz 0) (fsS L i) .ret (YE 15 n)):=by
 exact zx VC [.b true,.row [vi n],.b true] (.c hlt (.c hr (.c hn .n)))
abbrev Wt:AS:={t:=mkT 15 0 [],h:=[],m:=[]}
theorem EY{L:List (List Dp)}{i:Nat}(hlt:Qd ((i:Int)<(L.length:Int))=false):(CW GV Γ0 [] false (sub Lz 0) (fsS L i) (.exit 0) Wt):=by
 exact zx YI [.b false] (.c hlt .n)
def fsF(n:Int)(_:Unit):Unit⊕Int:=match n != 0 with
 | true=>.inr n
 | false=>.inl ()
theorem EZ{l:List Int}(hs:ar l):CW GV Γ0 [] false (.loop (sub Lz 0)) (fsS (l.map ab) 0) (au (.exit 0) (fun _:Unit=>Wt) (fun n:Int=>(.ret,(YE 15 n))) (forL fsF l ())).1 (au (.exit 0) (fun _:Unit=>Wt) (fun n:Int=>(.ret,(YE 15 n))) (forL fsF l ())).2:=by
 refine CW.each l fsF (fun j _=>fsS (l.map ab) (j:Int)) (.exit 0) _ _ (fun _ _=>True) (by simp) (fun _=>by simp) ?_ ?_ () trivial
 ·intro j n a hj _
  have hlt:=(G9.1 hj).1
  have hr:=rowAt (row:=ab) (sz:=1) hj rfl
  refine⟨fun _ _=>trivial,?_⟩
  cases hb:n != 0 with
  | true =>
   have e:fsF n a=.inr n:=by unfold fsF;rw[hb]
   rw[e]
   exact fs_hit hr (lt_len ab hlt) hb
  | false =>
   have e:fsF n a=.inl ():=by unfold fsF;rw[hb]
   rw[e]
   have h0:n=0:=by simpa using hb
   subst h0
   exact EX hr (lt_len ab hlt) (wrap_succ hlt hs)
 ·intro a _
  exact EY (bm ab l)
theorem E5{L:List (List Dp)}{n:Int}(hl:CW GV Γ0 [] false (.loop (sub Lz 0)) (fsS L 0) .ret (YE 15 n))(h:List Blk):(Ev GV Γ0 71 [aa L] h (int n) h):=by
 have hl0:=(@hl)
 exact z0 [.sum [5,6,7] (Im) (YE 15 n)] (.c hl0 .n) h
theorem E6{L:List (List Dp)}(hl:CW GV Γ0 [] false (.loop (sub Lz 0)) (fsS L 0) (.exit 0) Wt)(h:List Blk):(Ev GV Γ0 71 [aa L] h (int 0) h):=by
 have hl0:=(@hl)
 exact z0 [.sum [5,6,7] (HJ 0) Wt] (.c hl0 .n) h
def iP(l:List Int):Int:=match forL fsF l () with
 | .inl _=>0
 | .inr n=>n
theorem AZ{l:List Int}(hs:ar l)(h:List Blk):Ev GV Γ0 71 [aa (l.map ab)] h (int (iP l)) h:=by
 have:=EZ hs
 unfold iP
 cases hf:forL fsF l () with
 | inl a=>rw[hf] at this;exact E6 this h
 | inr n=>rw[hf] at this;exact E5 this h
theorem yM(x y z:Int)(h:List Blk):Ev GV Γ0 71 [aa [[vi x],[vi y],[vi z]]] h (int (iP [x,y,z])) h:=AZ (l:=[x,y,z]) (by simp[ar]) h
abbrev Xt:List D:=[.ref (.vec 0 0)]
theorem vU(x y z:Int):Ev GV Γ0 71 Xt [.vec [[int x],[int y],[int z]] 0 1] (int (iP [x,y,z])) [.vec [[int x],[int y],[int z]] 0 1]:=Ev.frzArgs (by rfl) rfl (yM x y z [])
def kc(a b:StT):Bool:=a.time==b.time&&(a.campus==b.campus&&(a.no==b.no&&true))
def bq(a b:StT):Int:=match kc a b with
 | true=>0
 | false=>iP [fH a.time b.time,fH a.campus b.campus,fH a.no b.no]
noncomputable abbrev gQ(a:StT)(b:StT):List Blk:=[.var (Z9 a),.var (Z9 b),.vec [[int (fH a.time b.time)],[int (fH a.campus b.campus)],[int (fH a.no b.no)]] 0 1]
noncomputable abbrev gR(a:StT)(b:StT):List Blk:=[.var (Z9 a),.var (Z9 b)]
abbrev QN(b:Int):Option D:=(some (int b))
abbrev YW(a:Nat):D:=(.ref (.ptr 0 a))
abbrev Y5:D:=(.ref (.ptr 1 0))
abbrev Xw:D:=(.ref (.ptr 1 2))
abbrev WF(c d:StT):D:=(int (iP [fH c.time d.time,fH c.campus d.campus,fH c.no d.no]))
abbrev WK:List D:=[.ref (.vec 2 0)]
abbrev WX:D:=(.ref (.ptr 1 1))
theorem da{a b:StT}(h:List Blk):(Ev GV Γ0 35 [ag a.row,ag b.row] h (int (bq a b)) h):=by
 cases hc0:a.time==b.time&&(a.campus==b.campus&&(a.no==b.no&&true))
 ·refine zD (WF a b) [.b false,.val (int (fH a.time b.time)),.val (int (fH a.campus b.campus)),.val (int (fH a.no b.no)),.val (WF a b)] (.c hc0 (.c (@sD (a.time) (b.time) (gR a b)) (.c (@sD (a.campus) (b.campus) (gR a b)) (.c (@sD (a.no) (b.no) (gR a b)) (.c (show Ev GV Γ0 71 WK (gQ a b) (WF a b) (gQ a b) from(Ev.castH (Ev.frameX (args:=WK) (H:=(gQ a b)) [2] (@vU (fH a.time b.time) (fH a.campus b.campus) (fH a.no b.no)) (by kernel_rfl) (by kernel_rfl) (by kernel_rfl) ⟨?_,trivial⟩ ⟨?_,trivial⟩) (by kernel_rfl) (by kernel_rfl))) (.e ZK (.c (show @Eq (Option D) (QN a.time) (QN a.time) from rfl) (.e Y5 (.c (show @Eq (Option D) (QN b.time) (QN b.time) from rfl) (.e (YW 1) (.e (YW 1) (.c (show @Eq (Option D) (QN a.campus) (QN a.campus) from rfl) (.c (show @Eq (Option D) (QN a.campus) (QN a.campus) from rfl) (.e WX (.e WX (.c (show @Eq (Option D) (QN b.campus) (QN b.campus) from rfl) (.c (show @Eq (Option D) (QN b.campus) (QN b.campus) from rfl) (.e (YW 2) (.e (YW 2) (.e (YW 2) (.c (show @Eq (Option D) (QN a.no) (QN a.no) from rfl) (.c (show @Eq (Option D) (QN a.no) (QN a.no) from rfl) (.c (show @Eq (Option D) (QN a.no) (QN a.no) from rfl) (.e Xw (.e Xw (.e Xw (.c (show @Eq (Option D) (QN b.no) (QN b.no) from rfl) (.c (show @Eq (Option D) (QN b.no) (QN b.no) from rfl) (.c (show @Eq (Option D) (QN b.no) (QN b.no) from rfl) .n))))))))))))))))))))))))))))) h (by first|rfl|(have hh:kc a b=true:=hc0;simp only[bq,hh];first|done|rfl)|(have hh:kc a b=false:=hc0;simp only[bq,hh];first|done|rfl))<;>(first|rfl|exact ay _ _|first|assumption|rfl|decide|omega|simp_all)
 ·exact zD (int 0) [.b true] (.c hc0 .n) h (by first|rfl|(have hh:kc a b=true:=hc0;simp only[bq,hh];first|done|rfl)|(have hh:kc a b=false:=hc0;simp only[bq,hh];first|done|rfl))
def stA(l:List StT):List (List D):=l.map fun s=>s.row.map .p
theorem yN{l:List StT}:∀r∈stA l,r.length=3:=fun r hr=>by obtain⟨s,_,rfl⟩:=List.mem_map.1 hr;rfl
abbrev zcK(a:List StT):List D:=(stA a).flatten
theorem jF(k:Nat)(l:List StT):Ho k (.var (zcK l))=true:=by
 show D.innL k (zcK l)=true
 induction l with
 | nil=>rfl
 | cons s l ih=>exact ih
theorem vV{h:List Blk}{off n:Nat}{l:List StT}{b:StT}(hb:h[0]? = some (.var (zcK l)))(hs:l[n]? = some b)(ho:off=n*3):aD GV h 31 (YW off)=some (ag b.row):=by
 subst ho
 exact zJ (sz:=3) (row:=b.row.map .p) (by kernel_rfl) (by kernel_rfl) hb yN (by simp[stA,hs])
theorem vW{h:List Blk}{off n:Nat}{l:List StT}{b:StT}(hb:h[0]? = some (.var (stA l).flatten))(hn:n<l.length)(ho:off=n*3):aw GV h 31 (.ref (.ptr 0 off)) (ag b.row)=some (h.set 0 (.var (stA (l.set n b)).flatten)):=by
 subst ho
 rw[wB (sz:=3) (new:=b.row.map .p) rfl (by kernel_rfl) rfl hb yN (by simpa[stA] using hn),stA,stA,List.map_set]
abbrev zbp(a:List (List Dp))(b c:D)(d:List D):AS:={t:=mkT 58 0 [(0,aa a),Xl,(8,aa a),(9,b),(10,c)],h:=[.var d],m:=[]}
abbrev fiS(l:List (List Dp))(lst:List StT)(i:Int):AS:=(zbp l (XO l) (int i) (zcK lst))
abbrev fiX(lst:List StT):AS:={t:=(XC 58 2),h:=[.var (zcK lst)],m:=[]}
abbrev fiE(lst:List StT):AS:=(QG 58 [.var (zcK lst)])
def fiB(b s:StT):Bool:=Qd (b.no>0)&&(Qd (b.time≥s.time)||Qd (b.no≥s.no))
abbrev zaM(e:EntT)(g h i j:List (List Dp)):List Dp:=[vi e.time,vi e.campus,vi e.no,vi e.kind,vi e.stu,vi e.obj,vi e.term,vi e.val,vi e.frm,vi e.til,vs e.text,vi e.sec.id,vi e.sec.course,vi e.sec.term,vi e.sec.campus,vi e.sec.seats,Hj g,Hj h,Hj i,G2 (Ht e.sec.lab),vi e.req.campus,vi e.req.no,vi e.req.st,vi e.req.kind,vi e.req.time,Hj j,vi e.req.gsec,vi e.req.glab,vi e.req.key,vi e.r,vi e.s]
abbrev Zc(a:EntT)(b c d f:List (List Dp)):List Dp:=(zaM a b c d f)
abbrev Zs(a:EntT):List (List Dp):=GU ab a.sec.labs
abbrev ZD(a:EntT):List (List Dp):=GU G7 a.req.chs
abbrev ZE(a:EntT):List (List Dp):=GU Hn a.sec.grs
abbrev ZF(a:EntT):List (List Dp):=GU Hm a.sec.mts
abbrev Yr(a:EntT):Ref:=(.ptr 0 (0+Hh a.campus*3))
abbrev Ww(a:List D)(c:EntT)(d:StT):List Blk:=[.var a,.var (GU Hf (Hi c)),.var (GU Hf (JP (EntT.st c))),.var (GU Hf (JP d))]
abbrev W8(a:List StT):List D:=(H1 (stA a))
abbrev Vm:List Ans:=[.st (.mask [0,3,8,9,10]),.st (.trimV 1)]
abbrev V2(a:StT):D:=bool (Qd (a.no>0))
theorem fi_0{l:List (List Dp)}{lst:List StT}{e:EntT}{b:StT}{n:Nat}(hr:af 0 l e.row 31)(hlt:Qd ((0:Int)<(l.length:Int))=true)(hc:inR e.campus 7=true)(hn:e.campus.toNat=n)(hb:lst[n]? = some b)(hq2:Qd (b.no>0)=false):(CW GV Γ0 [] false (sub Ki 0) (fiS l lst 0) .normal (fiS l (lst.set n e.st) 1)):=by
 let v1:=H1 (stA (Lx lst n (EntT.st e)))
 let v2:List D:=(ZU e)
 let v3:List D:=(Z9 b)
 let v4:=(ZF e)
 let v5:=(ZE e)
 let v6:=(Zs e)
 let v7:=(ZD e)
 let v0:List D:=(Zf e e.term v4 v5 v6 v7)
 refine zX (zbp l (QI l) (int (G1 GY (0+1))) v1) Hz Vm [.b true,.row (Zc e v4 v5 v6 v7),.ov 20 (ag (JP b)),.g false,.g false,.g false,.g false,.g false,.g false,.g false,.g false,.g false,.ov 33 (bool false),.g true,.g true,.g true,.g true,.g false,.g false,.g false,.g false,.g false,.g false,.g false,.g false,.g false,.g false,.g false,.g false,.g true,.ov 51 (bool false),.ov 52 (bool false),.b false,.oh 10056 IM (Ww v1 e b)] (.c hlt (.c hr (.c hc (.c (show @Eq (Option D) (aD GV [.var (W8 lst),.var v0,.var v2] 31 (.ref (Yr e))) (some (Hc v3)) from ?_) (.c (show(Qd (0>0)==true)=false from rfl) (.c (show(Qd (0>0)==true)=false from rfl) (.c (show(Qd (0>0)==true)=false from rfl) (.c (show(Qd (0>0)==true)=false from rfl) (.c (show(Qd (0>0)==true)=false from rfl) (.c (show(Qd (0>0)==true)=false from rfl) (.c (show(Qd (0>0)==true)=false from rfl) (.c (show(Qd (0>0)==true)=false from rfl) (.c (show(Qd (0>0)==true)=false from rfl) (.c (show gr (bool (Qd (0>0))) (ZQ) (bool false) (bool false) from ?_) (.c (show(false==false)=true from rfl) (.c (show(false==false)=true from rfl) (.c (show(false==false)=true from rfl) (.c (show(false==false)=true from rfl) (.c (show(Qd (b.no>0)==true)=false from(by subst v1 v2 v3 v4 v5 v6 v7 v0;rw[hq2]<;>rfl)) (.c (show(Qd (b.no>0)==true)=false from(by subst v1 v2 v3 v4 v5 v6 v7 v0;rw[hq2]<;>rfl)) (.c (show(Qd (b.no>0)==true)=false from(by subst v1 v2 v3 v4 v5 v6 v7 v0;rw[hq2]<;>rfl)) (.c (show(Qd (b.no>0)==true)=false from(by subst v1 v2 v3 v4 v5 v6 v7 v0;rw[hq2]<;>rfl)) (.c (show(Qd (b.no>0)==true)=false from(by subst v1 v2 v3 v4 v5 v6 v7 v0;rw[hq2]<;>rfl)) (.c (show(Qd (b.no>0)==true)=false from(by subst v1 v2 v3 v4 v5 v6 v7 v0;rw[hq2]<;>rfl)) (.er false (.er false (.er false (.er false (.er false (.c (show(Qd (b.no>0)==true)=false from(by subst v1 v2 v3 v4 v5 v6 v7 v0;rw[hq2]<;>rfl)) (.c (show(false==false)=true from rfl) (.c (pkf (ZQ) (bool false) hq2) (.c (pkf (bool true) (bool false) rfl) (.er false (.c hc (.c (show @Eq (Option (List Blk)) (aw GV [.var (W8 lst),.var v0,.var v2,.var v3] 31 (.ref (Yr e)) (evalD Γ0 [aa l,IM,IM,.ref (.ptr 0 0),int 0,.ref (.ptr 1 0),.ref (.ptr 2 0),.ref (.ptr 3 0),aa l,(QI l),int 0,bool (Qd (0<(↑(G3 l):Int))),int 0,D.ep (Zc e v4 v5 v6 v7),Hc v0,.ref (.ptr 1 0),Hc v2,.ref (.ptr 2 1),int e.campus,.ref (Yr e),Hc v3,int 0,bool (Qd (0>0)),bool (Qd (0>0)),ZQ,ZQ,ZQ,ZQ,ZQ,ZQ,ZQ,ZQ,ZQ,bool false,bool false,.ref (.ptr 3 2),int b.no,(V2 b),(V2 b),ZQ,ZQ,ZQ,ZQ,ZQ,ZQ,ZQ,ZQ,ZQ,ZQ,ZQ,ZQ,bool false,bool false,.ref (.ptr 2 1),int e.campus,Hc v2,.ref (Yr e),IM] (Jq 55))) (some [.var v1,.var v0,.var (Z9 (EntT.st e)),.var v3]) from ?_) (.c (show Ho 1 (.var v1)=true from ?_) .n))))))))))))))))))))))))))))))))))))) (by subst v1 v2 v3 v4 v5 v6 v7 v0;first|rfl|(rw[hw]<;>rfl)) (by subst v1 v2 v3 v4 v5 v6 v7 v0;first|rfl|(rw[hw]<;>rfl))<;>subst v1 v2 v3 v4 v5 v6 v7 v0<;>(first|assumption|rfl|exact jF _ _|exact vV rfl hb (by simp[hn])|exact vW (b:=e.st) rfl (G9.1 hb).1 (by simp[hn]))
abbrev zbb(a:List StT)(c:EntT)(d:StT):List Blk:=[.var (W8 a),.var (Za c c.kind),.var (ZU c),.var (Z9 d)]
noncomputable abbrev E7(lst:List StT)(e:EntT)(b:StT):List Blk:=(zbb lst e b)
abbrev Zd(a:EntT):List Dp:=(zaM a (GU Hm a.sec.mts) (GU Hn a.sec.grs) (GU ab a.sec.labs) (GU G7 a.req.chs))
abbrev X5(a:List Nat)(b:Nat):List Ans:=[.st (.mask a),.st (.trimV b)]
abbrev zbD(a:List StT):AS:={t:=(XC 58 2),h:=[.var (W8 a)],m:=[]}
abbrev zbU(a b:EntT):List D:=[.agg (ZU a),.agg (ZU b)]
abbrev zcS(a:List StT)(b:EntT):List Blk:=[.var (W8 a),.var (Za b b.kind),.var (ZU b)]
theorem fi_A{l:List (List Dp)}{lst:List StT}{e:EntT}{b:StT}{n:Nat}{p:EntT}{c:Int}{i:Nat}(hr:af (i:Int) l e.row 31)(hlt:Qd ((i:Int)<(l.length:Int))=true)(hp:af (G1 GY ((i:Int) - 1)) l p.row 31)(hcp:∀h,Ev GV Γ0 35 (zbU p e) h (int c) h)(hc:inR e.campus 7=true)(hn:e.campus.toNat=n)(hb:lst[n]? = some b)(hi:Qd ((i:Int)>0)=true)(hq1:Qd (c≥0)=true):(CW GV Γ0 [] false (sub Ki 0) (fiS l lst i) .ret (fiX lst)):=by
 refine zX (zbD lst) Im (X5 [2] 1) [.b true,.row (Zd e),.ov 20 (ag (JP b)),.g true,.g true,.g true,.g true,.row (Zd p),.g true,.g true,.g true,.g true,.val (int c),.g true,.ov 33 (Xk c),.g false,.g false,.g false,.g false,.g false,.g false,.g false,.g false,.g false,.g false,.g false,.g false,.g false,.g false,.g false,.g false,.g false,.ov 52 (bool true),.b true] (.c hlt (.c hr (.c hc (.c (show @Eq (Option D) (aD GV (zcS lst e) 31 (.ref (Yr e))) (some (Hc (Z9 b))) from ?_) (.c (show(Qd ((↑i:Int)>0)==true)=true from(by rw[hi]<;>rfl)) (.c (show(Qd ((↑i:Int)>0)==true)=true from(by rw[hi]<;>rfl)) (.c (show(Qd ((↑i:Int)>0)==true)=true from(by rw[hi]<;>rfl)) (.c (show(Qd ((↑i:Int)>0)==true)=true from(by rw[hi]<;>rfl)) (.c hp (.c (show(Qd ((↑i:Int)>0)==true)=true from(by rw[hi]<;>rfl)) (.c (show(Qd ((↑i:Int)>0)==true)=true from(by rw[hi]<;>rfl)) (.c (show(Qd ((↑i:Int)>0)==true)=true from(by rw[hi]<;>rfl)) (.c (show(Qd ((↑i:Int)>0)==true)=true from(by rw[hi]<;>rfl)) (.c (@hcp (E7 lst e b)) (.c (show(Qd ((↑i:Int)>0)==true)=true from(by rw[hi]<;>rfl)) (.c (pkt (Xk c) (bool false) hi) (.c (show(Qd (c≥0)==false)=false from(by rw[hq1]<;>rfl)) (.c (show(Qd (c≥0)==false)=false from(by rw[hq1]<;>rfl)) (.c (show(Qd (c≥0)==false)=false from(by rw[hq1]<;>rfl)) (.c (show(Qd (c≥0)==false)=false from(by rw[hq1]<;>rfl)) (.er false (.er false (.er false (.er false (.er false (.er false (.er false (.er false (.er false (.er false (.er false (.er false (.c (show(Qd (c≥0)==false)=false from(by rw[hq1]<;>rfl)) (.c (pkt (bool true) (ZQ) hq1) (.er true (.c (show Ho 1 (.var (W8 lst))=true from ?_) .n)))))))))))))))))))))))))))))))))))) (by first|rfl|(rw[hw]<;>rfl)) (by first|rfl|(rw[hw]<;>rfl))<;>(first|assumption|rfl|exact jF _ _|exact vV rfl hb (by simp[hn])|exact vW (b:=e.st) rfl (G9.1 hb).1 (by simp[hn]))
noncomputable abbrev yO(lst:List StT)(e:EntT)(b:StT):List Blk:=(zbb lst e b)
abbrev Vc(a:Nat):D:=int (G1 GY ((↑a:Int) - 1))
abbrev VB(a:Nat):D:=bool (Qd ((↑a:Int)>0))
theorem fi_B{l:List (List Dp)}{lst:List StT}{e:EntT}{b:StT}{n:Nat}{p:EntT}{c:Int}{i:Nat}(hr:af (i:Int) l e.row 31)(hlt:Qd ((i:Int)<(l.length:Int))=true)(hp:af (G1 GY ((i:Int) - 1)) l p.row 31)(hcp:∀h,Ev GV Γ0 35 [.agg [int p.time,int p.campus,int p.no],.agg [int e.time,int e.campus,int e.no]] h (int c) h)(hc:inR e.campus 7=true)(hn:e.campus.toNat=n)(hb:lst[n]? = some b)(hi:Qd ((i:Int)>0)=true)(hq1:Qd (c≥0)=false)(hq2:Qd (b.no>0)=false)(hw:GY.wrap ((i:Int)+1)=((i+1:Nat):Int)):(CW GV Γ0 [] false (sub Ki 0) (fiS l lst i) .normal (fiS l (lst.set n e.st) ((i+1:Nat):Int))):=by
 let v1:=H1 (stA (Lx lst n (EntT.st e)))
 let v2:List D:=[int e.time,int e.campus,int e.no]
 let v3:List D:=[int b.time,int b.campus,int b.no]
 let v4:=GU Hm e.sec.mts
 let v5:=GU Hn e.sec.grs
 let v6:=GU ab e.sec.labs
 let v7:=GU G7 e.req.chs
 let v0:List D:=[int e.time,int e.campus,int e.no,int e.kind,int e.stu,int e.obj,int e.term,int e.val,int e.frm,int e.til,ad e.text,int e.sec.id,int e.sec.course,int e.sec.term,int e.sec.campus,int e.sec.seats,aa v4,aa v5,aa v6,bool e.sec.lab,int e.req.campus,int e.req.no,int e.req.st,int e.req.kind,int e.req.time,aa v7,int e.req.gsec,int e.req.glab,int e.req.key,int e.r,int e.s]
 let v8:=GU Hm p.sec.mts
 let v9:=GU Hn p.sec.grs
 let v10:=GU ab p.sec.labs
 let v11:=GU G7 p.req.chs
 refine zX {t:=mkT 58 0 [(0,aa l),(3,.ref (.ptr 0 0)),(8,aa l),(9,int (↑(G3 l):Int)),(10,int (G1 GY ((↑i:Int)+1)))],h:=[.var v1],m:=[]} Hz [.st (.mask [0,3,8,9,10]),.st (.trimV 1)] [.b true,.row [vi e.time,vi e.campus,vi e.no,vi e.kind,vi e.stu,vi e.obj,vi e.term,vi e.val,vi e.frm,vi e.til,vs e.text,vi e.sec.id,vi e.sec.course,vi e.sec.term,vi e.sec.campus,vi e.sec.seats,Hj v4,Hj v5,Hj v6,G2 (Ht e.sec.lab),vi e.req.campus,vi e.req.no,vi e.req.st,vi e.req.kind,vi e.req.time,Hj v7,vi e.req.gsec,vi e.req.glab,vi e.req.key,vi e.r,vi e.s],.ov 20 (ag (JP b)),.g true,.g true,.g true,.g true,.row [vi p.time,vi p.campus,vi p.no,vi p.kind,vi p.stu,vi p.obj,vi p.term,vi p.val,vi p.frm,vi p.til,vs p.text,vi p.sec.id,vi p.sec.course,vi p.sec.term,vi p.sec.campus,vi p.sec.seats,Hj v8,Hj v9,Hj v10,G2 (Ht p.sec.lab),vi p.req.campus,vi p.req.no,vi p.req.st,vi p.req.kind,vi p.req.time,Hj v11,vi p.req.gsec,vi p.req.glab,vi p.req.key,vi p.r,vi p.s],.g true,.g true,.g true,.g true,.val (int c),.g true,.ov 33 (bool (Qd (c≥0))),.g true,.g true,.g true,.g true,.g false,.g false,.g false,.g false,.g false,.g false,.g false,.g false,.g false,.g false,.g false,.g false,.g true,.ov 51 (bool false),.ov 52 (bool false),.b false,.oh 10056 IM [.var v1,.var (GU Hf (Hi e)),.var (GU Hf (JP (EntT.st e))),.var (GU Hf (JP b))]] (.c hlt (.c hr (.c hc (.c (show @Eq (Option D) (aD GV [.var (H1 (stA lst)),.var v0,.var v2] 31 (.ref (.ptr 0 (0+Hh e.campus*3)))) (some (Hc v3)) from ?_) (.c (show(Qd ((↑i:Int)>0)==true)=true from(by subst v1 v2 v3 v4 v5 v6 v7 v0 v8 v9 v10 v11;rw[hi]<;>rfl)) (.c (show(Qd ((↑i:Int)>0)==true)=true from(by subst v1 v2 v3 v4 v5 v6 v7 v0 v8 v9 v10 v11;rw[hi]<;>rfl)) (.c (show(Qd ((↑i:Int)>0)==true)=true from(by subst v1 v2 v3 v4 v5 v6 v7 v0 v8 v9 v10 v11;rw[hi]<;>rfl)) (.c (show(Qd ((↑i:Int)>0)==true)=true from(by subst v1 v2 v3 v4 v5 v6 v7 v0 v8 v9 v10 v11;rw[hi]<;>rfl)) (.c hp (.c (show(Qd ((↑i:Int)>0)==true)=true from(by subst v1 v2 v3 v4 v5 v6 v7 v0 v8 v9 v10 v11;rw[hi]<;>rfl)) (.c (show(Qd ((↑i:Int)>0)==true)=true from(by subst v1 v2 v3 v4 v5 v6 v7 v0 v8 v9 v10 v11;rw[hi]<;>rfl)) (.c (show(Qd ((↑i:Int)>0)==true)=true from(by subst v1 v2 v3 v4 v5 v6 v7 v0 v8 v9 v10 v11;rw[hi]<;>rfl)) (.c (show(Qd ((↑i:Int)>0)==true)=true from(by subst v1 v2 v3 v4 v5 v6 v7 v0 v8 v9 v10 v11;rw[hi]<;>rfl)) (.c (@hcp (yO lst e b)) (.c (show(Qd ((↑i:Int)>0)==true)=true from(by subst v1 v2 v3 v4 v5 v6 v7 v0 v8 v9 v10 v11;rw[hi]<;>rfl)) (.c (pkt (bool (Qd (c≥0))) (bool false) hi) (.c (show(Qd (c≥0)==false)=true from(by subst v1 v2 v3 v4 v5 v6 v7 v0 v8 v9 v10 v11;rw[hq1]<;>rfl)) (.c (show(Qd (c≥0)==false)=true from(by subst v1 v2 v3 v4 v5 v6 v7 v0 v8 v9 v10 v11;rw[hq1]<;>rfl)) (.c (show(Qd (c≥0)==false)=true from(by subst v1 v2 v3 v4 v5 v6 v7 v0 v8 v9 v10 v11;rw[hq1]<;>rfl)) (.c (show(Qd (c≥0)==false)=true from(by subst v1 v2 v3 v4 v5 v6 v7 v0 v8 v9 v10 v11;rw[hq1]<;>rfl)) (.c (show(Qd (b.no>0)==true)=false from(by subst v1 v2 v3 v4 v5 v6 v7 v0 v8 v9 v10 v11;rw[hq2]<;>rfl)) (.c (show(Qd (b.no>0)==true)=false from(by subst v1 v2 v3 v4 v5 v6 v7 v0 v8 v9 v10 v11;rw[hq2]<;>rfl)) (.c (show(Qd (b.no>0)==true)=false from(by subst v1 v2 v3 v4 v5 v6 v7 v0 v8 v9 v10 v11;rw[hq2]<;>rfl)) (.c (show(Qd (b.no>0)==true)=false from(by subst v1 v2 v3 v4 v5 v6 v7 v0 v8 v9 v10 v11;rw[hq2]<;>rfl)) (.c (show(Qd (b.no>0)==true)=false from(by subst v1 v2 v3 v4 v5 v6 v7 v0 v8 v9 v10 v11;rw[hq2]<;>rfl)) (.c (show(Qd (b.no>0)==true)=false from(by subst v1 v2 v3 v4 v5 v6 v7 v0 v8 v9 v10 v11;rw[hq2]<;>rfl)) (.er false (.er false (.er false (.er false (.er false (.c (show(Qd (b.no>0)==true)=false from(by subst v1 v2 v3 v4 v5 v6 v7 v0 v8 v9 v10 v11;rw[hq2]<;>rfl)) (.c (show(Qd (c≥0)==false)=true from(by subst v1 v2 v3 v4 v5 v6 v7 v0 v8 v9 v10 v11;rw[hq1]<;>rfl)) (.c (pkf (Hf (G2 (HG {toList:=[]}))) (bool false) hq2) (.c (pkf (bool true) (bool false) hq1) (.er false (.c hc (.c (show @Eq (Option (List Blk)) (aw GV (yO lst e b) 31 (.ref (.ptr 0 (0+Hh e.campus*3))) (evalD Γ0 [aa l,IM,IM,.ref (.ptr 0 0),int (↑i:Int),.ref (.ptr 1 0),.ref (.ptr 2 0),.ref (.ptr 3 0),aa l,int (↑(G3 l):Int),int (↑i:Int),bool (Qd ((↑i:Int)<(↑(G3 l):Int))),int (↑i:Int),D.ep [vi e.time,vi e.campus,vi e.no,vi e.kind,vi e.stu,vi e.obj,vi e.term,vi e.val,vi e.frm,vi e.til,vs e.text,vi e.sec.id,vi e.sec.course,vi e.sec.term,vi e.sec.campus,vi e.sec.seats,Hj v4,Hj v5,Hj v6,G2 (Ht e.sec.lab),vi e.req.campus,vi e.req.no,vi e.req.st,vi e.req.kind,vi e.req.time,Hj v7,vi e.req.gsec,vi e.req.glab,vi e.req.key,vi e.r,vi e.s],Hc v0,.ref (.ptr 1 0),Hc v2,.ref (.ptr 2 1),int e.campus,.ref (.ptr 0 (0+Hh e.campus*3)),Hc v3,int (↑i:Int),bool (Qd ((↑i:Int)>0)),bool (Qd ((↑i:Int)>0)),aa l,int (↑i:Int),int (G1 GY ((↑i:Int) - 1)),D.ep [vi p.time,vi p.campus,vi p.no,vi p.kind,vi p.stu,vi p.obj,vi p.term,vi p.val,vi p.frm,vi p.til,vs p.text,vi p.sec.id,vi p.sec.course,vi p.sec.term,vi p.sec.campus,vi p.sec.seats,Hj v8,Hj v9,Hj v10,G2 (Ht p.sec.lab),vi p.req.campus,vi p.req.no,vi p.req.st,vi p.req.kind,vi p.req.time,Hj v11,vi p.req.gsec,vi p.req.glab,vi p.req.key,vi p.r,vi p.s],D.ep [vi p.time,vi p.campus,vi p.no,vi p.kind,vi p.stu,vi p.obj,vi p.term,vi p.val,vi p.frm,vi p.til,vs p.text,vi p.sec.id,vi p.sec.course,vi p.sec.term,vi p.sec.campus,vi p.sec.seats,Hj v8,Hj v9,Hj v10,G2 (Ht p.sec.lab),vi p.req.campus,vi p.req.no,vi p.req.st,vi p.req.kind,vi p.req.time,Hj v11,vi p.req.gsec,vi p.req.glab,vi p.req.key,vi p.r,vi p.s],Hc [int p.time,int p.campus,int p.no],Hc v2,int c,bool (Qd (c≥0)),bool (Qd (c≥0)),bool (Qd (c≥0)),.ref (.ptr 3 2),int b.no,bool (Qd (b.no>0)),bool (Qd (b.no>0)),Hf (G2 (HG {toList:=[]})),Hf (G2 (HG {toList:=[]})),Hf (G2 (HG {toList:=[]})),Hf (G2 (HG {toList:=[]})),Hf (G2 (HG {toList:=[]})),Hf (G2 (HG {toList:=[]})),Hf (G2 (HG {toList:=[]})),Hf (G2 (HG {toList:=[]})),Hf (G2 (HG {toList:=[]})),Hf (G2 (HG {toList:=[]})),Hf (G2 (HG {toList:=[]})),Hf (G2 (HG {toList:=[]})),bool false,bool false,.ref (.ptr 2 1),int e.campus,Hc v2,.ref (.ptr 0 (0+Hh e.campus*3)),IM] (Jq 55))) (some [.var v1,.var v0,.var [int (EntT.st e).time,int (EntT.st e).campus,int (EntT.st e).no],.var v3]) from ?_) (.c (show Ho 1 (.var v1)=true from ?_) .n))))))))))))))))))))))))))))))))))))))) (by subst v1 v2 v3 v4 v5 v6 v7 v0 v8 v9 v10 v11;first|rfl|(rw[hw]<;>rfl)) (by subst v1 v2 v3 v4 v5 v6 v7 v0 v8 v9 v10 v11;first|rfl|(rw[hw]<;>rfl))<;>subst v1 v2 v3 v4 v5 v6 v7 v0 v8 v9 v10 v11<;>(first|assumption|rfl|exact jF _ _|exact vV rfl hb (by simp[hn])|exact vW (b:=e.st) rfl (G9.1 hb).1 (by simp[hn]))
noncomputable abbrev E8(lst:List StT)(e:EntT)(b:StT):List Blk:=(zbb lst e b)
abbrev zaB(a:EntT)(d:StT)(f:EntT)(h:Int)(i:Bool)(j:D):List Ans:=[.b true,.row (Zd a),.ov 20 (ag (JP d)),.g true,.g true,.g true,.g true,.row (Zd f),.g true,.g true,.g true,.g true,.val (int h),.g true,.ov 33 (Xk h),.g true,.g true,.g true,.g true,.g true,.g true,.g true,.g true,.g true,.g true,.g i,.g i,.g i,.g i,.g i,.g true,.ov 50 (j),.g true,.ov 51 (j),.ov 52 (j),.b true]
theorem fi_C{l:List (List Dp)}{lst:List StT}{e:EntT}{b:StT}{n:Nat}{p:EntT}{c:Int}{i:Nat}(hr:af (i:Int) l e.row 31)(hlt:Qd ((i:Int)<(l.length:Int))=true)(hp:af (G1 GY ((i:Int) - 1)) l p.row 31)(hcp:∀h,Ev GV Γ0 35 (zbU p e) h (int c) h)(hc:inR e.campus 7=true)(hn:e.campus.toNat=n)(hb:lst[n]? = some b)(hi:Qd ((i:Int)>0)=true)(hq1:Qd (c≥0)=false)(hq2:Qd (b.no>0)=true)(hq3:Qd (b.time≥e.time)=true):(CW GV Γ0 [] false (sub Ki 0) (fiS l lst i) .ret (fiX lst)):=by
 refine zX (zbD lst) Im (X5 [2] 1) (zaB e b p c false (bool true)) (.c hlt (.c hr (.c hc (.c (show @Eq (Option D) (aD GV (zcS lst e) 31 (.ref (Yr e))) (some (Hc (Z9 b))) from ?_) (.c (show(Qd ((↑i:Int)>0)==true)=true from(by rw[hi]<;>rfl)) (.c (show(Qd ((↑i:Int)>0)==true)=true from(by rw[hi]<;>rfl)) (.c (show(Qd ((↑i:Int)>0)==true)=true from(by rw[hi]<;>rfl)) (.c (show(Qd ((↑i:Int)>0)==true)=true from(by rw[hi]<;>rfl)) (.c hp (.c (show(Qd ((↑i:Int)>0)==true)=true from(by rw[hi]<;>rfl)) (.c (show(Qd ((↑i:Int)>0)==true)=true from(by rw[hi]<;>rfl)) (.c (show(Qd ((↑i:Int)>0)==true)=true from(by rw[hi]<;>rfl)) (.c (show(Qd ((↑i:Int)>0)==true)=true from(by rw[hi]<;>rfl)) (.c (@hcp (E8 lst e b)) (.c (show(Qd ((↑i:Int)>0)==true)=true from(by rw[hi]<;>rfl)) (.c (pkt (Xk c) (bool false) hi) (.c (show(Qd (c≥0)==false)=true from(by rw[hq1]<;>rfl)) (.c (show(Qd (c≥0)==false)=true from(by rw[hq1]<;>rfl)) (.c (show(Qd (c≥0)==false)=true from(by rw[hq1]<;>rfl)) (.c (show(Qd (c≥0)==false)=true from(by rw[hq1]<;>rfl)) (.c (show(Qd (b.no>0)==true)=true from(by rw[hq2]<;>rfl)) (.c (show(Qd (b.no>0)==true)=true from(by rw[hq2]<;>rfl)) (.c (show(Qd (b.no>0)==true)=true from(by rw[hq2]<;>rfl)) (.c (show(Qd (b.no>0)==true)=true from(by rw[hq2]<;>rfl)) (.c (show(Qd (b.no>0)==true)=true from(by rw[hq2]<;>rfl)) (.c (show(Qd (b.no>0)==true)=true from(by rw[hq2]<;>rfl)) (.c (show(Qd (b.time≥e.time)==false)=false from(by rw[hq3]<;>rfl)) (.c (show(Qd (b.time≥e.time)==false)=false from(by rw[hq3]<;>rfl)) (.c (show(Qd (b.time≥e.time)==false)=false from(by rw[hq3]<;>rfl)) (.c (show(Qd (b.time≥e.time)==false)=false from(by rw[hq3]<;>rfl)) (.c (show(Qd (b.time≥e.time)==false)=false from(by rw[hq3]<;>rfl)) (.c (show(Qd (b.no>0)==true)=true from(by rw[hq2]<;>rfl)) (.c (pkt (bool true) (ZQ) hq3) (.c (show(Qd (c≥0)==false)=true from(by rw[hq1]<;>rfl)) (.c (pkt (bool true) (bool false) hq2) (.c (show gr (Xk c) (bool true) (bool true) (bool true) from(by first|exact tI hq1 rfl|exact tJ hq1 rfl)) (.er true (.c (show Ho 1 (.var (W8 lst))=true from ?_) .n)))))))))))))))))))))))))))))))))))))) (by first|rfl|(rw[hw]<;>rfl)) (by first|rfl|(rw[hw]<;>rfl))<;>(first|assumption|rfl|exact jF _ _|exact vV rfl hb (by simp[hn])|exact vW (b:=e.st) rfl (G9.1 hb).1 (by simp[hn]))
noncomputable abbrev E9(lst:List StT)(e:EntT)(b:StT):List Blk:=(zbb lst e b)
abbrev YX(a:StT)(c:EntT):D:=bool (Qd (a.no≥c.no))
theorem fi_D{l:List (List Dp)}{lst:List StT}{e:EntT}{b:StT}{n:Nat}{p:EntT}{c:Int}{i:Nat}(hr:af (i:Int) l e.row 31)(hlt:Qd ((i:Int)<(l.length:Int))=true)(hp:af (G1 GY ((i:Int) - 1)) l p.row 31)(hcp:∀h,Ev GV Γ0 35 (zbU p e) h (int c) h)(hc:inR e.campus 7=true)(hn:e.campus.toNat=n)(hb:lst[n]? = some b)(hi:Qd ((i:Int)>0)=true)(hq1:Qd (c≥0)=false)(hq2:Qd (b.no>0)=true)(hq3:Qd (b.time≥e.time)=false)(hq4:Qd (b.no≥e.no)=true):(CW GV Γ0 [] false (sub Ki 0) (fiS l lst i) .ret (fiX lst)):=by
 refine zX (zbD lst) Im (X5 [2] 1) (zaB e b p c true (YX b e)) (.c hlt (.c hr (.c hc (.c (show @Eq (Option D) (aD GV (zcS lst e) 31 (.ref (Yr e))) (some (Hc (Z9 b))) from ?_) (.c (show(Qd ((↑i:Int)>0)==true)=true from(by rw[hi]<;>rfl)) (.c (show(Qd ((↑i:Int)>0)==true)=true from(by rw[hi]<;>rfl)) (.c (show(Qd ((↑i:Int)>0)==true)=true from(by rw[hi]<;>rfl)) (.c (show(Qd ((↑i:Int)>0)==true)=true from(by rw[hi]<;>rfl)) (.c hp (.c (show(Qd ((↑i:Int)>0)==true)=true from(by rw[hi]<;>rfl)) (.c (show(Qd ((↑i:Int)>0)==true)=true from(by rw[hi]<;>rfl)) (.c (show(Qd ((↑i:Int)>0)==true)=true from(by rw[hi]<;>rfl)) (.c (show(Qd ((↑i:Int)>0)==true)=true from(by rw[hi]<;>rfl)) (.c (@hcp (E9 lst e b)) (.c (show(Qd ((↑i:Int)>0)==true)=true from(by rw[hi]<;>rfl)) (.c (pkt (Xk c) (bool false) hi) (.c (show(Qd (c≥0)==false)=true from(by rw[hq1]<;>rfl)) (.c (show(Qd (c≥0)==false)=true from(by rw[hq1]<;>rfl)) (.c (show(Qd (c≥0)==false)=true from(by rw[hq1]<;>rfl)) (.c (show(Qd (c≥0)==false)=true from(by rw[hq1]<;>rfl)) (.c (show(Qd (b.no>0)==true)=true from(by rw[hq2]<;>rfl)) (.c (show(Qd (b.no>0)==true)=true from(by rw[hq2]<;>rfl)) (.c (show(Qd (b.no>0)==true)=true from(by rw[hq2]<;>rfl)) (.c (show(Qd (b.no>0)==true)=true from(by rw[hq2]<;>rfl)) (.c (show(Qd (b.no>0)==true)=true from(by rw[hq2]<;>rfl)) (.c (show(Qd (b.no>0)==true)=true from(by rw[hq2]<;>rfl)) (.c (show(Qd (b.time≥e.time)==false)=true from(by rw[hq3]<;>rfl)) (.c (show(Qd (b.time≥e.time)==false)=true from(by rw[hq3]<;>rfl)) (.c (show(Qd (b.time≥e.time)==false)=true from(by rw[hq3]<;>rfl)) (.c (show(Qd (b.time≥e.time)==false)=true from(by rw[hq3]<;>rfl)) (.c (show(Qd (b.time≥e.time)==false)=true from(by rw[hq3]<;>rfl)) (.c (show(Qd (b.no>0)==true)=true from(by rw[hq2]<;>rfl)) (.c (pkf (bool true) (YX b e) hq3) (.c (show(Qd (c≥0)==false)=true from(by rw[hq1]<;>rfl)) (.c (pkt (YX b e) (bool false) hq2) (.c (pkf (bool true) (YX b e) hq1) (.c hq4 (.c (show Ho 1 (.var (W8 lst))=true from ?_) .n)))))))))))))))))))))))))))))))))))))) (by first|rfl|(rw[hw]<;>rfl)) (by first|rfl|(rw[hw]<;>rfl))<;>(first|assumption|rfl|exact jF _ _|exact vV rfl hb (by simp[hn])|exact vW (b:=e.st) rfl (G9.1 hb).1 (by simp[hn]))
noncomputable abbrev yP(lst:List StT)(e:EntT)(b:StT):List Blk:=(zbb lst e b)
theorem fi_E{l:List (List Dp)}{lst:List StT}{e:EntT}{b:StT}{n:Nat}{p:EntT}{c:Int}{i:Nat}(hr:af (i:Int) l e.row 31)(hlt:Qd ((i:Int)<(l.length:Int))=true)(hp:af (G1 GY ((i:Int) - 1)) l p.row 31)(hcp:∀h,Ev GV Γ0 35 [.agg [int p.time,int p.campus,int p.no],.agg [int e.time,int e.campus,int e.no]] h (int c) h)(hc:inR e.campus 7=true)(hn:e.campus.toNat=n)(hb:lst[n]? = some b)(hi:Qd ((i:Int)>0)=true)(hq1:Qd (c≥0)=false)(hq2:Qd (b.no>0)=true)(hq3:Qd (b.time≥e.time)=false)(hq4:Qd (b.no≥e.no)=false)(hw:GY.wrap ((i:Int)+1)=((i+1:Nat):Int)):(CW GV Γ0 [] false (sub Ki 0) (fiS l lst i) .normal (fiS l (lst.set n e.st) ((i+1:Nat):Int))):=by
 let v1:=H1 (stA (Lx lst n (EntT.st e)))
 let v2:List D:=[int e.time,int e.campus,int e.no]
 let v3:List D:=[int b.time,int b.campus,int b.no]
 let v4:=GU Hm e.sec.mts
 let v5:=GU Hn e.sec.grs
 let v6:=GU ab e.sec.labs
 let v7:=GU G7 e.req.chs
 let v0:List D:=[int e.time,int e.campus,int e.no,int e.kind,int e.stu,int e.obj,int e.term,int e.val,int e.frm,int e.til,ad e.text,int e.sec.id,int e.sec.course,int e.sec.term,int e.sec.campus,int e.sec.seats,aa v4,aa v5,aa v6,bool e.sec.lab,int e.req.campus,int e.req.no,int e.req.st,int e.req.kind,int e.req.time,aa v7,int e.req.gsec,int e.req.glab,int e.req.key,int e.r,int e.s]
 let v8:=GU Hm p.sec.mts
 let v9:=GU Hn p.sec.grs
 let v10:=GU ab p.sec.labs
 let v11:=GU G7 p.req.chs
 refine zX {t:=mkT 58 0 [(0,aa l),(3,.ref (.ptr 0 0)),(8,aa l),(9,int (↑(G3 l):Int)),(10,int (G1 GY ((↑i:Int)+1)))],h:=[.var v1],m:=[]} Hz [.st (.mask [0,3,8,9,10]),.st (.trimV 1)] [.b true,.row [vi e.time,vi e.campus,vi e.no,vi e.kind,vi e.stu,vi e.obj,vi e.term,vi e.val,vi e.frm,vi e.til,vs e.text,vi e.sec.id,vi e.sec.course,vi e.sec.term,vi e.sec.campus,vi e.sec.seats,Hj v4,Hj v5,Hj v6,G2 (Ht e.sec.lab),vi e.req.campus,vi e.req.no,vi e.req.st,vi e.req.kind,vi e.req.time,Hj v7,vi e.req.gsec,vi e.req.glab,vi e.req.key,vi e.r,vi e.s],.ov 20 (ag (JP b)),.g true,.g true,.g true,.g true,.row [vi p.time,vi p.campus,vi p.no,vi p.kind,vi p.stu,vi p.obj,vi p.term,vi p.val,vi p.frm,vi p.til,vs p.text,vi p.sec.id,vi p.sec.course,vi p.sec.term,vi p.sec.campus,vi p.sec.seats,Hj v8,Hj v9,Hj v10,G2 (Ht p.sec.lab),vi p.req.campus,vi p.req.no,vi p.req.st,vi p.req.kind,vi p.req.time,Hj v11,vi p.req.gsec,vi p.req.glab,vi p.req.key,vi p.r,vi p.s],.g true,.g true,.g true,.g true,.val (int c),.g true,.ov 33 (bool (Qd (c≥0))),.g true,.g true,.g true,.g true,.g true,.g true,.g true,.g true,.g true,.g true,.g true,.g true,.g true,.g true,.g true,.g true,.ov 50 (bool (Qd (b.no≥e.no))),.g true,.ov 51 (bool (Qd (b.no≥e.no))),.ov 52 (bool (Qd (b.no≥e.no))),.b false,.oh 10056 IM [.var v1,.var (GU Hf (Hi e)),.var (GU Hf (JP (EntT.st e))),.var (GU Hf (JP b))]] (.c hlt (.c hr (.c hc (.c (show @Eq (Option D) (aD GV [.var (H1 (stA lst)),.var v0,.var v2] 31 (.ref (.ptr 0 (0+Hh e.campus*3)))) (some (Hc v3)) from ?_) (.c (show(Qd ((↑i:Int)>0)==true)=true from(by subst v1 v2 v3 v4 v5 v6 v7 v0 v8 v9 v10 v11;rw[hi]<;>rfl)) (.c (show(Qd ((↑i:Int)>0)==true)=true from(by subst v1 v2 v3 v4 v5 v6 v7 v0 v8 v9 v10 v11;rw[hi]<;>rfl)) (.c (show(Qd ((↑i:Int)>0)==true)=true from(by subst v1 v2 v3 v4 v5 v6 v7 v0 v8 v9 v10 v11;rw[hi]<;>rfl)) (.c (show(Qd ((↑i:Int)>0)==true)=true from(by subst v1 v2 v3 v4 v5 v6 v7 v0 v8 v9 v10 v11;rw[hi]<;>rfl)) (.c hp (.c (show(Qd ((↑i:Int)>0)==true)=true from(by subst v1 v2 v3 v4 v5 v6 v7 v0 v8 v9 v10 v11;rw[hi]<;>rfl)) (.c (show(Qd ((↑i:Int)>0)==true)=true from(by subst v1 v2 v3 v4 v5 v6 v7 v0 v8 v9 v10 v11;rw[hi]<;>rfl)) (.c (show(Qd ((↑i:Int)>0)==true)=true from(by subst v1 v2 v3 v4 v5 v6 v7 v0 v8 v9 v10 v11;rw[hi]<;>rfl)) (.c (show(Qd ((↑i:Int)>0)==true)=true from(by subst v1 v2 v3 v4 v5 v6 v7 v0 v8 v9 v10 v11;rw[hi]<;>rfl)) (.c (@hcp (yP lst e b)) (.c (show(Qd ((↑i:Int)>0)==true)=true from(by subst v1 v2 v3 v4 v5 v6 v7 v0 v8 v9 v10 v11;rw[hi]<;>rfl)) (.c (pkt (bool (Qd (c≥0))) (bool false) hi) (.c (show(Qd (c≥0)==false)=true from(by subst v1 v2 v3 v4 v5 v6 v7 v0 v8 v9 v10 v11;rw[hq1]<;>rfl)) (.c (show(Qd (c≥0)==false)=true from(by subst v1 v2 v3 v4 v5 v6 v7 v0 v8 v9 v10 v11;rw[hq1]<;>rfl)) (.c (show(Qd (c≥0)==false)=true from(by subst v1 v2 v3 v4 v5 v6 v7 v0 v8 v9 v10 v11;rw[hq1]<;>rfl)) (.c (show(Qd (c≥0)==false)=true from(by subst v1 v2 v3 v4 v5 v6 v7 v0 v8 v9 v10 v11;rw[hq1]<;>rfl)) (.c (show(Qd (b.no>0)==true)=true from(by subst v1 v2 v3 v4 v5 v6 v7 v0 v8 v9 v10 v11;rw[hq2]<;>rfl)) (.c (show(Qd (b.no>0)==true)=true from(by subst v1 v2 v3 v4 v5 v6 v7 v0 v8 v9 v10 v11;rw[hq2]<;>rfl)) (.c (show(Qd (b.no>0)==true)=true from(by subst v1 v2 v3 v4 v5 v6 v7 v0 v8 v9 v10 v11;rw[hq2]<;>rfl)) (.c (show(Qd (b.no>0)==true)=true from(by subst v1 v2 v3 v4 v5 v6 v7 v0 v8 v9 v10 v11;rw[hq2]<;>rfl)) (.c (show(Qd (b.no>0)==true)=true from(by subst v1 v2 v3 v4 v5 v6 v7 v0 v8 v9 v10 v11;rw[hq2]<;>rfl)) (.c (show(Qd (b.no>0)==true)=true from(by subst v1 v2 v3 v4 v5 v6 v7 v0 v8 v9 v10 v11;rw[hq2]<;>rfl)) (.c (show(Qd (b.time≥e.time)==false)=true from(by subst v1 v2 v3 v4 v5 v6 v7 v0 v8 v9 v10 v11;rw[hq3]<;>rfl)) (.c (show(Qd (b.time≥e.time)==false)=true from(by subst v1 v2 v3 v4 v5 v6 v7 v0 v8 v9 v10 v11;rw[hq3]<;>rfl)) (.c (show(Qd (b.time≥e.time)==false)=true from(by subst v1 v2 v3 v4 v5 v6 v7 v0 v8 v9 v10 v11;rw[hq3]<;>rfl)) (.c (show(Qd (b.time≥e.time)==false)=true from(by subst v1 v2 v3 v4 v5 v6 v7 v0 v8 v9 v10 v11;rw[hq3]<;>rfl)) (.c (show(Qd (b.time≥e.time)==false)=true from(by subst v1 v2 v3 v4 v5 v6 v7 v0 v8 v9 v10 v11;rw[hq3]<;>rfl)) (.c (show(Qd (b.no>0)==true)=true from(by subst v1 v2 v3 v4 v5 v6 v7 v0 v8 v9 v10 v11;rw[hq2]<;>rfl)) (.c (pkf (bool true) (bool (Qd (b.no≥e.no))) hq3) (.c (show(Qd (c≥0)==false)=true from(by subst v1 v2 v3 v4 v5 v6 v7 v0 v8 v9 v10 v11;rw[hq1]<;>rfl)) (.c (pkt (bool (Qd (b.no≥e.no))) (bool false) hq2) (.c (pkf (bool true) (bool (Qd (b.no≥e.no))) hq1) (.c hq4 (.c hc (.c (show @Eq (Option (List Blk)) (aw GV (yP lst e b) 31 (.ref (.ptr 0 (0+Hh e.campus*3))) (evalD Γ0 [aa l,IM,IM,.ref (.ptr 0 0),int (↑i:Int),.ref (.ptr 1 0),.ref (.ptr 2 0),.ref (.ptr 3 0),aa l,int (↑(G3 l):Int),int (↑i:Int),bool (Qd ((↑i:Int)<(↑(G3 l):Int))),int (↑i:Int),D.ep [vi e.time,vi e.campus,vi e.no,vi e.kind,vi e.stu,vi e.obj,vi e.term,vi e.val,vi e.frm,vi e.til,vs e.text,vi e.sec.id,vi e.sec.course,vi e.sec.term,vi e.sec.campus,vi e.sec.seats,Hj v4,Hj v5,Hj v6,G2 (Ht e.sec.lab),vi e.req.campus,vi e.req.no,vi e.req.st,vi e.req.kind,vi e.req.time,Hj v7,vi e.req.gsec,vi e.req.glab,vi e.req.key,vi e.r,vi e.s],Hc v0,.ref (.ptr 1 0),Hc v2,.ref (.ptr 2 1),int e.campus,.ref (.ptr 0 (0+Hh e.campus*3)),Hc v3,int (↑i:Int),bool (Qd ((↑i:Int)>0)),bool (Qd ((↑i:Int)>0)),aa l,int (↑i:Int),int (G1 GY ((↑i:Int) - 1)),D.ep [vi p.time,vi p.campus,vi p.no,vi p.kind,vi p.stu,vi p.obj,vi p.term,vi p.val,vi p.frm,vi p.til,vs p.text,vi p.sec.id,vi p.sec.course,vi p.sec.term,vi p.sec.campus,vi p.sec.seats,Hj v8,Hj v9,Hj v10,G2 (Ht p.sec.lab),vi p.req.campus,vi p.req.no,vi p.req.st,vi p.req.kind,vi p.req.time,Hj v11,vi p.req.gsec,vi p.req.glab,vi p.req.key,vi p.r,vi p.s],D.ep [vi p.time,vi p.campus,vi p.no,vi p.kind,vi p.stu,vi p.obj,vi p.term,vi p.val,vi p.frm,vi p.til,vs p.text,vi p.sec.id,vi p.sec.course,vi p.sec.term,vi p.sec.campus,vi p.sec.seats,Hj v8,Hj v9,Hj v10,G2 (Ht p.sec.lab),vi p.req.campus,vi p.req.no,vi p.req.st,vi p.req.kind,vi p.req.time,Hj v11,vi p.req.gsec,vi p.req.glab,vi p.req.key,vi p.r,vi p.s],Hc [int p.time,int p.campus,int p.no],Hc v2,int c,bool (Qd (c≥0)),bool (Qd (c≥0)),bool (Qd (c≥0)),.ref (.ptr 3 2),int b.no,bool (Qd (b.no>0)),bool (Qd (b.no>0)),.ref (.ptr 3 0),int b.time,.ref (.ptr 2 0),int e.time,bool (Qd (b.time≥e.time)),bool (Qd (b.time≥e.time)),.ref (.ptr 3 2),int b.no,.ref (.ptr 2 2),int e.no,bool (Qd (b.no≥e.no)),bool (Qd (b.no≥e.no)),bool (Qd (b.no≥e.no)),bool (Qd (b.no≥e.no)),.ref (.ptr 2 1),int e.campus,Hc v2,.ref (.ptr 0 (0+Hh e.campus*3)),IM] (Jq 55))) (some [.var v1,.var v0,.var [int (EntT.st e).time,int (EntT.st e).campus,int (EntT.st e).no],.var v3]) from ?_) (.c (show Ho 1 (.var v1)=true from ?_) .n)))))))))))))))))))))))))))))))))))))))) (by subst v1 v2 v3 v4 v5 v6 v7 v0 v8 v9 v10 v11;first|rfl|(rw[hw]<;>rfl)) (by subst v1 v2 v3 v4 v5 v6 v7 v0 v8 v9 v10 v11;first|rfl|(rw[hw]<;>rfl))<;>subst v1 v2 v3 v4 v5 v6 v7 v0 v8 v9 v10 v11<;>(first|assumption|rfl|exact jF _ _|exact vV rfl hb (by simp[hn])|exact vW (b:=e.st) rfl (G9.1 hb).1 (by simp[hn]))
theorem Fa{l:List (List Dp)}{lst:List StT}{i:Nat}(hlt:Qd ((i:Int)<(l.length:Int))=false):(CW GV Γ0 [] false (sub Ki 0) (fiS l lst i) (.exit 0) (fiE lst)):=by
 exact zx YI [.b false] (.c hlt .n)
def z7:List StT:=[⟨0,0,0⟩,⟨0,0,0⟩,⟨0,0,0⟩,⟨0,0,0⟩,⟨0,0,0⟩,⟨0,0,0⟩,⟨0,0,0⟩]
def fiF(e:StT)(s:List StT×Option StT):(List StT×Option StT)⊕List StT :=
 match (match s.2 with|none=>false|some p=>Qd (bq p e≥0))||fiB (s.1.getD e.campus.toNat ⟨0,0,0⟩) e with
 | true=>.inr s.1
 | false=>.inl (s.1.set e.campus.toNat e,some e)
structure FiInv (l:List EntT) (j:Nat) (s:List StT×Option StT):Prop where
 n:s.1.length=7
 z:j=0→s.1=z7∧s.2=none
 p:∀i,j=i+1→∃e,l[i]? = some e∧s.2=some e.st
theorem inR7{n:Int}(h0:0≤n)(h7:n<7):inR n 7=true:=by simp[inR];omega
abbrev zai(b:List StT × Option StT)(c:List StT)(d:EntT)(f:List EntT):Exit × AS:=(au (.exit 0) (fun b:List StT×Option StT=>fiE b.1) (fun c:List StT=>(.ret,fiX c)) (forL (fun d:EntT=>fiF d.st) f (z7,none)))
theorem Fb{l:List EntT}(hs:ar l)(hv:∀e∈l,0≤e.campus∧e.campus<7):CW GV Γ0 [] false (.loop (sub Ki 0)) (fiS (l.map Hi) z7 0)
  (au (.exit 0) (fun a:List StT×Option StT=>fiE a.1) (fun a:List StT=>(.ret,fiX a)) (forL (fun e:EntT=>fiF e.st) l (z7,none))).1 (au (.exit 0) (fun a:List StT×Option StT=>fiE a.1) (fun a:List StT=>(.ret,fiX a)) (forL (fun e:EntT=>fiF e.st) l (z7,none))).2:=by
 refine CW.each l (fun e:EntT=>fiF e.st) (fun j a=>fiS (l.map Hi) a.1 (j:Int)) (.exit 0) _ _ (FiInv l) (by simp) (fun _=>by simp) ?_ ?_ (z7,none) ⟨rfl,fun _=>⟨rfl,rfl⟩,fun i h=>by omega⟩
 ·intro j e a hj I
  have hlt:=(G9.1 hj).1
  have hm:e∈l:=HL hj
  have ⟨c0,c7⟩:=hv e hm
  have hc:=inR7 c0 c7
  have hr:=rowAt (row:=Hi) (sz:=31) hj rfl
  have hlt2:=lt_len Hi hlt
  have hw:=wrap_succ hlt hs
  have hb:a.1[e.campus.toNat]? = some (a.1.getD e.campus.toNat ⟨0,0,0⟩):=by
   rw[List.getD,List.getElem?_eq_getElem (by rw[I.n];omega)];rfl
  generalize hB:a.1.getD e.campus.toNat ⟨0,0,0⟩=b at hb
  have hB':a.1.getD e.st.campus.toNat ⟨0,0,0⟩=b:=hB
  refine⟨fun a' ha=>?_,?_⟩
  ·unfold fiF at ha
   split at ha
   ·cases ha
   ·cases ha
    exact⟨by simp[I.n],fun h=>by omega,fun i h=>⟨e,by rw[←show j=i by omega];exact hj,rfl⟩⟩
  ·cases j with
   | zero =>
    obtain⟨h1,h2⟩:=I.z rfl
    have hbz:b=⟨0,0,0⟩:=by
     rw[←hB,h1]
     have:e.campus.toNat=0∨e.campus.toNat=1∨e.campus.toNat=2∨e.campus.toNat=3∨e.campus.toNat=4∨e.campus.toNat=5∨e.campus.toNat=6:=by omega
     rcases this with h|h|h|h|h|h|h<;>rw[h]<;>rfl
    have e1:fiF e.st a=.inl (a.1.set e.campus.toNat e.st,some e.st):=by
     unfold fiF
     rw[h2,hB',hbz]
     rfl
    rw[e1]
    exact fi_0 hr hlt2 hc rfl hb (by rw[hbz];rfl)
   | succ i =>
    obtain⟨p,hp,hp2⟩:=I.p i rfl
    have hlp:=(G9.1 hp).1
    have hwp:G1 GY (((i+1:Nat):Int) - 1)=((i:Nat):Int):=by
     have:ar l:=hs
     unfold ar at this
     rw[wrap_i64 (by omega) (by omega)];omega
    have hrp:af (G1 GY (((i+1:Nat):Int) - 1)) (l.map Hi) p.row 31:=by
     rw[hwp]
     exact rowAt (row:=Hi) (sz:=31) hp rfl
    have hcp:∀h,Ev GV Γ0 35 [.agg [int p.time,int p.campus,int p.no],.agg [int e.time,int e.campus,int e.no]] h (int (bq p.st e.st)) h:=fun h=>da (a:=p.st) (b:=e.st) h
    have hi:Qd (((i+1:Nat):Int)>0)=true:=by simp only[decide_eq_true_eq];omega
    have eF:fiF e.st a=match Qd (bq p.st e.st≥0)||fiB b e.st with|true=>.inr a.1|false=>.inl (a.1.set e.campus.toNat e.st,some e.st):=by
     unfold fiF
     rw[hp2,hB']
     rfl
    rw[eF]
    unfold fiB
    cases q1:Qd (bq p.st e.st≥0) with
    | true=>exact fi_A hr hlt2 hrp hcp hc rfl hb hi q1
    | false =>
     cases q2:Qd (b.no>0) with
     | false=>exact fi_B hr hlt2 hrp hcp hc rfl hb hi q1 q2 hw
     | true =>
      cases q3:Qd (b.time≥e.st.time) with
      | true=>exact fi_C hr hlt2 hrp hcp hc rfl hb hi q1 q2 q3
      | false =>
       cases q4:Qd (b.no≥e.st.no) with
       | true=>exact fi_D hr hlt2 hrp hcp hc rfl hb hi q1 q2 q3 q4
       | false=>exact fi_E hr hlt2 hrp hcp hc rfl hb hi q1 q2 q3 q4 hw
 ·intro a _
  exact Fa (bm Hi l)
theorem fit_x{L:List (List Dp)}{lst:List StT}(hl:CW GV Γ0 [] false (.loop (sub Ki 0)) (fiS L z7 0) .ret (fiX lst))(h:List Blk):(Ev GV Γ0 18 [aa L] h (bool false) h):=by
 have hl0:=(@hl)
 exact z0 [.sum [0,3,8,9,10] (Im) (zbD lst)] (.c hl0 .n) h
theorem fit_o{L:List (List Dp)}{lst:List StT}(hl:CW GV Γ0 [] false (.loop (sub Ki 0)) (fiS L z7 0) (.exit 0) (fiE lst))(h:List Blk):(Ev GV Γ0 18 [aa L] h (bool true) h):=by
 have hl0:=(@hl)
 exact z0 [.sum [0,3,8,9,10] (HJ 0) (QG 58 [.var (H1 (stA lst))])] (.c hl0 .n) h
def vX(l:List EntT):Bool:=match forL (fun e:EntT=>fiF e.st) l (z7,none) with
 | .inl _=>true
 | .inr _=>false
abbrev WC(a:List EntT):List D:=[aa (a.map Hi)]
theorem yQ{l:List EntT}(hs:ar l)(hv:∀e∈l,0≤e.campus∧e.campus<7)(h:List Blk):Ev GV Γ0 18 (WC l) h (bool (vX l)) h:=by
 have:=Fb hs hv
 unfold vX
 cases hf:forL (fun e:EntT=>fiF e.st) l (z7,none) with
 | inl a=>rw[hf] at this;exact fit_o this h
 | inr n=>rw[hf] at this;exact fit_x this h
abbrev lcS(l:List (List Dp))(i:Int):AS:={t:=mkT 23 0 [(0,aa l),(2,int 0),(8,aa l),(9,(XO l)),(10,int i)],h:=[],m:=[]}
noncomputable abbrev vY(e:EntT):List Blk:=(za1 e)
abbrev zbs(a:EntT)(c:D)(d:Bool):List Ans:=[.b true,.row (Zd a),.val (c),.b d]
theorem Fc{l:List (List Dp)}{e:EntT}{i:Nat}(hr:af (i:Int) l e.row 31)(hlt:Qd ((i:Int)<(l.length:Int))=true)(hw:GY.wrap ((i:Int)+1)=((i+1:Nat):Int))(hck:∀h,Ev GV Γq 15 [ag e.row] h (int 0) h):(CW GV Γq [] false (sub Md 0) (lcS l i) .normal (lcS l ((i+1:Nat):Int))):=by
 refine zX {t:=mkT 23 0 [(0,aa l),(2,int 0),(8,aa l),(9,int (↑(G3 l):Int)),(10,int (G1 GY ((↑i:Int)+1)))],h:=[],m:=[]} Hz [.st (.mask [0,2,8,9,10]),.st (.trim 0)] [.b true,.row [vi e.time,vi e.campus,vi e.no,vi e.kind,vi e.stu,vi e.obj,vi e.term,vi e.val,vi e.frm,vi e.til,vs e.text,vi e.sec.id,vi e.sec.course,vi e.sec.term,vi e.sec.campus,vi e.sec.seats,Hj (GU Hm e.sec.mts),Hj (GU Hn e.sec.grs),Hj (GU ab e.sec.labs),G2 (Ht e.sec.lab),vi e.req.campus,vi e.req.no,vi e.req.st,vi e.req.kind,vi e.req.time,Hj (GU G7 e.req.chs),vi e.req.gsec,vi e.req.glab,vi e.req.key,vi e.r,vi e.s],.val (int 0),.b false] (.c hlt (.c hr (.c (@hck (vY e)) (.c (show(0 != 0)=false from rfl) .n)))) ?_ ?_<;>(first|rfl|(rw[hw]<;>rfl))
noncomputable abbrev yR(e:EntT):List Blk:=(za1 e)
theorem lc_bad{l:List (List Dp)}{e:EntT}{i:Nat}{r:Int}(hr:af (i:Int) l e.row 31)(hlt:Qd ((i:Int)<(l.length:Int))=true)(hck:∀h,Ev GV Γq 15 [ag e.row] h (int r) h)(hn:(r != 0)=true):(CW GV Γq [] false (sub Md 0) (lcS l i) .ret (YE 23 r)):=by
 exact zx (Vg [2] 0) (zbs e (int r) true) (.c hlt (.c hr (.c (@hck (yR e)) (.c hn .n))))
abbrev Wr(a:List (Nat × D)):AS:={t:=mkT 23 0 a,h:=[],m:=[]}
theorem Fd{l:List (List Dp)}{i:Nat}(hlt:Qd ((i:Int)<(l.length:Int))=false):(CW GV Γq [] false (sub Md 0) (lcS l i) (.exit 0) (Wr [(0,aa l)])):=by
 exact zx [.st (.mask [0])] [.b false] (.c hlt .n)
def lcF(e:EntT)(_:Unit):Unit⊕Int:=match bh e != 0 with
 | true=>.inr (bh e)
 | false=>.inl ()
theorem Fe{l:List EntT}(hs:ar l)(ho:∀e∈l,e.ok):CW GV Γq [] false (.loop (sub Md 0)) (lcS (l.map Hi) 0)
  (au (.exit 0) (fun _:Unit=>(Wr [(0,aa (l.map Hi))])) (fun r:Int=>(.ret,(YE 23 r))) (forL lcF l ())).1 (au (.exit 0) (fun _:Unit=>(Wr [(0,aa (l.map Hi))])) (fun r:Int=>(.ret,(YE 23 r))) (forL lcF l ())).2:=by
 refine CW.each l lcF (fun j _=>lcS (l.map Hi) (j:Int)) (.exit 0) _ _ (fun _ _=>True) (by simp) (fun _=>by simp) ?_ ?_ () trivial
 ·intro j e a hj _
  have hlt:=(G9.1 hj).1
  have hr:=rowAt (row:=Hi) (sz:=31) hj rfl
  have hck:=fun h=>mm (ho e (HL hj)) h
  refine⟨fun _ _=>trivial,?_⟩
  cases hb:bh e != 0 with
  | true =>
   have e1:lcF e a=.inr (bh e):=by unfold lcF;rw[hb]
   rw[e1]
   exact lc_bad hr (lt_len Hi hlt) hck hb
  | false =>
   have e1:lcF e a=.inl ():=by unfold lcF;rw[hb]
   rw[e1]
   have h0:bh e=0:=by simpa using hb
   rw[h0] at hck
   exact Fc hr (lt_len Hi hlt) (wrap_succ hlt hs) hck
 ·intro a _
  exact Fd (bm Hi l)
theorem Ff{L:List (List Dp)}(hb:Qd ((L.length:Int)>65536)=true)(h:List Blk):(Ev GV Γq 6 [aa L] h (int 2) h):=by
 exact z0 [.b true] (.c hb .n) h
theorem led_r{L:List (List Dp)}{r:Int}(hb:Qd ((L.length:Int)>65536)=false)(hl:CW GV Γq [] false (.loop (sub Md 0)) (lcS L 0) .ret (YE 23 r))(h:List Blk):(Ev GV Γq 6 [aa L] h (int r) h):=by
 have hl0:=(@hl)
 exact z0 [.b false,.sum [0,2,8,9,10] (Im) (YE 23 r)] (.c hb (.c hl0 .n)) h
theorem led_f{L:List (List Dp)}{f:Bool}(hb:Qd ((L.length:Int)>65536)=false)(hl:CW GV Γq [] false (.loop (sub Md 0)) (lcS L 0) (.exit 0) (Wr [(0,aa L)]))(hf:∀h,Ev GV Γ0 18 [aa L] h (bool f) h)(h:List Blk):(Ev GV Γq 6 [aa L] h (int (bif f then 0 else 390)) h):=by
 have hl0:=(@hl)
 cases hc1:!f
 ·exact zD (int 0) [.b false,.sum [0,2,8,9,10] (HJ 0) (Wr [(0,aa L)]),.val (bool f),.b false] (.c hb (.c hl0 (.c (Ev.glob0 (Γ':=Γq) (@hf ([]))) (.c hc1 .n)))) h (by first|rfl|(cases f<;>simp_all))
 ·exact zD (int 390) [.b false,.sum [0,2,8,9,10] (HJ 0) (Wr [(0,aa L)]),.val (bool f),.b true] (.c hb (.c hl0 (.c (Ev.glob0 (Γ':=Γq) (@hf ([]))) (.c hc1 .n)))) h (by first|rfl|(cases f<;>simp_all))
theorem ru{e:EntT}(h:bh e=0):j8 e.st=0:=by
 unfold bh at h
 cases hb:(j8 e.st != 0) with
 | true=>rw[hb] at h;exact h
 | false=>simpa using hb
theorem uC{s:StT}(h:j8 s=0):(1≤s.time∧s.time≤1048576)∧(0≤s.campus∧s.campus<7)∧(1≤s.no∧s.no≤1048576):=by
 unfold j8 at h
 cases hb:xI s with
 | true=>rw[hb] at h;simp at h
 | false =>
  simp[xI,inS] at hb
  omega
theorem sL:∀{l:List EntT},(∃u,forL lcF l ()=.inl u)→∀e∈l,bh e=0
 | [],_,e,he=>by cases he
 | x::l,h,e,he=>by
  obtain⟨u,h⟩:=h
  unfold forL at h
  cases hb:bh x != 0 with
  | true=>simp only[lcF,hb] at h;cases h
  | false =>
   simp only[lcF,hb] at h
   cases he with
   | head=>simpa using hb
   | tail _ he=>exact sL ⟨u,h⟩ e he
def fJ(l:List EntT):Int:=match Qd (((l.map Hi).length:Int)>65536) with
 | true=>2
 | false=>match forL lcF l () with
  | .inr r=>r
  | .inl _=>bif vX l then 0 else 390
theorem yS{l:List EntT}(hs:ar l)(ho:∀e∈l,e.ok)(h:List Blk):Ev GV Γq 6 (WC l) h (int (fJ l)) h:=by
 unfold fJ
 cases hb:Qd (((l.map Hi).length:Int)>65536) with
 | true=>exact Ff hb h
 | false =>
  have:=Fe hs ho
  simp only
  cases hf:forL lcF l () with
  | inr r=>rw[hf] at this;exact led_r hb this h
  | inl u =>
   rw[hf] at this
   have hv:∀e∈l,0≤e.campus∧e.campus<7:=fun e he=>(uC (ru (sL ⟨u,hf⟩ e he))).2.1
   exact led_f hb this (fun h=>yQ hs hv h) h
def joV(l:List EntT):List (List D):=l.map fun e=>e.row.map .p
theorem Fg(l:List EntT)(n:EntT):joV l++[n.row.map .p]=joV (l++[n]):=by simp[joV]
theorem cM(l:List EntT)(n:EntT):joV l++[(Za n n.kind)]=joV (l++[n]):=Fg l n
theorem joV_len(l:List EntT):(joV l).length=l.length:=by simp[joV]
theorem bJ(f:Ref→D)(l:List EntT):(joV l).map (D.mapRL f)=joV l:=by
 unfold joV
 rw[List.map_map]
 rfl
theorem bK(n:Nat)(l:List EntT):(joV l).all (D.innL n)=true:=by
 unfold joV
 rw[List.all_map]
 exact List.all_eq_true.2 fun e _=>rfl
theorem yT(l:List EntT):joV l=(l.map Hi).map (·.map .p):=by simp[joV]
theorem A1{x:List EntT}{i:Nat}{l:EntT}(hx:x[i]? = some l):GO GV 31 (joV x) 1 1 i 0 (ag l.st.row):=by
 have e1:(joV x)[i]? = some (l.row.map .p):=by simp[joV,hx]
 unfold GO
 simp only[e1,if_true,IW]
 rfl
theorem uD{x:List EntT}{i:Nat}{l:EntT}(hx:x[i]? = some l):GO GV 47 (joV x) 1 1 i 0 (ag l.row):=by
 have e1:(joV x)[i]? = some (l.row.map .p):=by simp[joV,hx]
 unfold GO
 simp only[e1,if_true,IW]
 rfl
abbrev ZM:Nat × D:=(zcE 4)
abbrev zcH(a:D):List D:=[.ref (.ptr 1 0),a]
abbrev Qb:List D:=(zcH (.ref (.ptr 2 0)))
abbrev joT:List D:=mkT 45 0 [ZM,(9,.fn (.func 73) [] Qb)]
noncomputable abbrev joL(f:FuncId)(st:LoopState):Blk:=.loop st none f joT #[10] (aV (sub Hr 0)) (aq (sub Hr 0))
noncomputable abbrev joH(f:FuncId)(A B:List (List Dp))(x:List EntT)(e:Nat)(st:LoopState)(more:List Blk):List Blk:=[.var [.ref (.vec 3 e)],.var [aa A],.var [aa B],.vec (joV x) e 31,.defd,joL f st]++more
abbrev joU:List D:=mkT 45 0 [ZM,(VG 5)]
abbrev a5(n:EntT):Blk:=.var (n.row.map .p)
noncomputable abbrev Xd(a:FuncId)(b c:List (List Dp))(d:List EntT)(e:EntT):List Blk:=joH a b c d 1 .ready [a5 e]
abbrev Vl(a:Nat):List Ans:=[.st (.mask [a,5])]
theorem uE{f:FuncId}{A B:List (List Dp)}{x:List EntT}{n:EntT}:(CW GV Γ0 (Xd f A B x n) true (aV (sub Hr 0)) {t:=dI joT [(10,ag n.row)],h:=(Xd f A B x n),m:=[]} .normal {t:=joU,h:=joH f A B x 1 .ready [a5 n,a5 n],m:=[]}):=by
 let v0:List D:=(Za n n.kind)
 exact zx (Vl 4) [] .n
theorem A2{x:List EntT}{h:List Blk}{i:Nat}{l:EntT}(hx:x[i]? = some l)(hh:h[3]? = some (.vec (joV x) 1 31)):aD GV h 31 (.ref (.vp 3 1 i 0))=some (ag l.st.row):=by
 have e1:(joV x)[i]? = some (l.row.map .p):=by simp[joV,hx]
 unfold aD
 simp only[hh,e1,if_true,IW]
 rfl
theorem yU{x:List EntT}{h:List Blk}{i:Nat}{l:EntT}(hx:x[i]? = some l)(hh:h[3]? = some (.vec (joV x) 1 31)):aD GV h 47 (.ref (.vp 3 1 i 0))=some (ag l.row):=by
 have e1:(joV x)[i]? = some (l.row.map .p):=by simp[joV,hx]
 unfold aD
 simp only[hh,e1,if_true,IW]
 rfl
theorem mn{e:Int}(h:List Blk):(Ev GV Γ0 36 [bool true,int e] h (.tup []) h):=by
 exact z0 [.b false] (.c (show(!true)=false from rfl) .n) h
abbrev zbu:Array Tmp:={toList:=[10]}
abbrev Yg:Array Tmp:=zbu
abbrev YO(a:List EntT):Ref:=(.vp 3 1 (Hh (G1 GY ((↑(G3 (joV a)):Int) - 1))) 0)
abbrev zbd:List D:=[.ref (.vec 3 1)]
abbrev YP:List D:=zbd
abbrev Xj(a:List D):Nat × D:=(9,Hy (He 73) [] a)
noncomputable abbrev XD(a:FuncId)(b c:List (List Dp))(d:List EntT)(e:EntT):List Blk:=joH a b c d 1 .busy [a5 e,a5 e]
abbrev XI:List D:=[.ref (.vec 3 2)]
abbrev zcn(a:List D):List D:=(mkT 45 0 [ZM,(Xj a)])
theorem jo_b0{f:FuncId}{A B:List (List Dp)}{x:List EntT}{l n:EntT}(hk:Qd (GY.wrap (((joV x).length:Int) - 1)≥0)=false)(he:(Qd (GY.wrap (((joV x).length:Int) - 1)≥0)&&(l.st.time==n.time&&(l.st.campus==n.campus&&(l.st.no==n.no&&true))))=false)(hl:x.length≤1000000):(CW GV Γ0 (Xd f A B x n) true (aq (sub Hr 0)) {t:=joU,h:=(XD f A B x n),m:=[]} .normal (QG 45 (joH f A B (x++[n]) 2 .busy [a5 n]))):=by
 let v0:List D:=(Za n n.kind)
 let v1:List D:=Qb
 refine zX {t:=mkT 45 0 [],h:=[.var XI,.var [aa A],.var [aa B],.vec (joV x++[v0]) 2 31,.defd,.loop I6 none f (zcn v1) Yg (aV (sub Hr 0)) (aq (sub Hr 0)),.var v0],m:=[]} Hz (X5 [] 7) [.ov 21 (ag (JP (EntT.st l))),.b false] (.c (show Qd (G1 GY ((↑(G3 (joV x)):Int) - 1)≥0)=true→inR (G1 GY ((↑(G3 (joV x)):Int) - 1)) (G3 (joV x))=true from(fun hg=>?_)) (.c (show Qd (G1 GY ((↑(G3 (joV x)):Int) - 1)≥0)=true→aD GV [.var YP,.var [aa A],.var [aa B],.vec (joV x) 1 31,.defd,.loop I6 none f (zcn v1) Yg (aV (sub Hr 0)) (aq (sub Hr 0)),.var v0,.var v0] 31 (.ref (YO x))=some (Hc (Z9 (EntT.st l))) from(fun hg=>?_)) (.c he (.c (show(List.all [v0] (rowOk 31)&&roomOk (G3 (joV x)+G3 (α:=List D) [v0]) 320)=true from ?_) (.c (show Ho 7 (.var XI)=true from rfl) (.c (show Ho 7 (.var [aa A])=true from rfl) (.c (show Ho 7 (.var [aa B])=true from rfl) (.c (show Ho 7 (.vec (joV x++[v0]) 2 31)=true from ?_) (.c (show Ho 7 .defd=true from rfl) (.c (show Ho 7 (.loop I6 none f (zcn v1) Yg (aV (sub Hr 0)) (aq (sub Hr 0)))=true from rfl) (.c (show Ho 7 (.var v0)=true from rfl) .n))))))))))) (by subst v0 v1;first|rfl|(simp only[cM];first|done|rfl)) (by subst v0 v1;first|rfl|(simp only[cM];first|done|rfl))<;>subst v0 v1<;>(first|assumption|rfl|exact A1 hx|exact uD hx|exact A2 hx rfl|exact yU hx rfl|exact bJ _ _|exact bK _ _|(rw[cM];exact bJ _ _)|(rw[cM];exact bK _ _)|(cases hk.symm.trans hg)|(simp[rowOk,D.one,Value.oneCell',roomOk,joV_len];omega))
theorem jo_b1{f:FuncId}{A B:List (List Dp)}{x:List EntT}{l n:EntT}(hk:Qd (GY.wrap (((joV x).length:Int) - 1)≥0)=true)(hi:inR (GY.wrap (((joV x).length:Int) - 1)) (joV x).length=true)(hx:x[Hh (GY.wrap (((joV x).length:Int) - 1))]? = some l)(he:(Qd (GY.wrap (((joV x).length:Int) - 1)≥0)&&(l.st.time==n.time&&(l.st.campus==n.campus&&(l.st.no==n.no&&true))))=false)(hl:x.length≤1000000):(CW GV Γ0 (Xd f A B x n) true (aq (sub Hr 0)) {t:=joU,h:=(XD f A B x n),m:=[]} .normal (QG 45 (joH f A B (x++[n]) 2 .busy [a5 n]))):=by
 let v0:List D:=(Za n n.kind)
 let v1:List D:=Qb
 refine zX {t:=mkT 45 0 [],h:=[.var XI,.var [aa A],.var [aa B],.vec (joV x++[v0]) 2 31,.defd,.loop I6 none f (zcn v1) Yg (aV (sub Hr 0)) (aq (sub Hr 0)),.var v0],m:=[]} Hz (X5 [] 7) [.ov 21 (ag (JP (EntT.st l))),.b false] (.c (show Qd (G1 GY ((↑(G3 (joV x)):Int) - 1)≥0)=true→inR (G1 GY ((↑(G3 (joV x)):Int) - 1)) (G3 (joV x))=true from(fun hg=>hi)) (.c (show Qd (G1 GY ((↑(G3 (joV x)):Int) - 1)≥0)=true→aD GV [.var YP,.var [aa A],.var [aa B],.vec (joV x) 1 31,.defd,.loop I6 none f (zcn v1) Yg (aV (sub Hr 0)) (aq (sub Hr 0)),.var v0,.var v0] 31 (.ref (YO x))=some (Hc (Z9 (EntT.st l))) from(fun hg=>?_)) (.c he (.c (show(List.all [v0] (rowOk 31)&&roomOk (G3 (joV x)+G3 (α:=List D) [v0]) 320)=true from ?_) (.c (show Ho 7 (.var XI)=true from rfl) (.c (show Ho 7 (.var [aa A])=true from rfl) (.c (show Ho 7 (.var [aa B])=true from rfl) (.c (show Ho 7 (.vec (joV x++[v0]) 2 31)=true from ?_) (.c (show Ho 7 .defd=true from rfl) (.c (show Ho 7 (.loop I6 none f (zcn v1) Yg (aV (sub Hr 0)) (aq (sub Hr 0)))=true from rfl) (.c (show Ho 7 (.var v0)=true from rfl) .n))))))))))) (by subst v0 v1;first|rfl|(simp only[cM];first|done|rfl)) (by subst v0 v1;first|rfl|(simp only[cM];first|done|rfl))<;>subst v0 v1<;>(first|assumption|rfl|exact A1 hx|exact uD hx|exact A2 hx rfl|exact yU hx rfl|exact bJ _ _|exact bK _ _|(rw[cM];exact bJ _ _)|(rw[cM];exact bK _ _)|(simp[rowOk,D.one,Value.oneCell',roomOk,joV_len];omega))
abbrev zam:List D:=mkT 45 0 [(zcE 4),(9,Hy (He 73) [] (zcH (.ref (.ptr 2 0))))]
abbrev ZJ:List D:=zam
noncomputable abbrev kK(f:FuncId)(A:List (List Dp))(B:List (List Dp))(x:List EntT)(n:EntT):List Blk:=[.var YP,.var [aa A],.var [aa B],.vec (joV x) 1 31,.defd,.loop I6 none f (ZJ) Yg (aV (sub Hr 0)) (aq (sub Hr 0)),.var (Za n n.kind),.var (Za n n.kind)]
abbrev Ye(a:Nat)(b:List EntT)(c:Blk):Blk:=(match a==3 with|true=>.vec (joV b) 2 31|false=>keepX (cX 3 1 2) c)
theorem jo_b2{f:FuncId}{A B:List (List Dp)}{x:List EntT}{l n:EntT}(hk:Qd (GY.wrap (((joV x).length:Int) - 1)≥0)=true)(hi:inR (GY.wrap (((joV x).length:Int) - 1)) (joV x).length=true)(hx:x[Hh (GY.wrap (((joV x).length:Int) - 1))]? = some l)(he:(Qd (GY.wrap (((joV x).length:Int) - 1)≥0)&&(l.st.time==n.time&&(l.st.campus==n.campus&&(l.st.no==n.no&&true))))=true)(hsm:∀h,Ev GV Γ0 9 (VJ l n) h (bool true) h):(CW GV Γ0 (Xd f A B x n) true (aq (sub Hr 0)) {t:=joU,h:=(XD f A B x n),m:=[]} .normal (QG 45 (joH f A B x 2 .busy [a5 n]))):=by
 let v0:List D:=(Za n n.kind)
 refine zx [.st (.mask []),.st (.ren 3 2),.st (.trimV 7)] [.ov 21 (ag (JP (EntT.st l))),.b true,.ov 29 (ag (Hi l)),.val (bool true),.val (D.tup [])] (.c (show Qd (G1 GY ((↑(G3 (joV x)):Int) - 1)≥0)=true→inR (G1 GY ((↑(G3 (joV x)):Int) - 1)) (G3 (joV x))=true from(fun hg=>hi)) (.c (show Qd (G1 GY ((↑(G3 (joV x)):Int) - 1)≥0)=true→aD GV (kK f A B x n) 31 (.ref (YO x))=some (Hc (Z9 (EntT.st l))) from(fun hg=>?_)) (.c he (.c hi (.c (show @Eq (Option D) (aD GV (kK f A B x n) 47 (.ref (YO x))) (some (Hc (Za l l.kind))) from ?_) (.c (@hsm (kK f A B x n)) (.c (@mn 390 (kK f A B x n)) (.c (show GU (D.mapRL (cX 3 1 2)) (joV x)=joV x from ?_) (.c (show Ho 7 (Ye 0 x (.var zbd))=true from rfl) (.c (show Ho 7 (Ye (0+1) x (.var [aa A]))=true from rfl) (.c (show Ho 7 (Ye (0+1+1) x (.var [aa B]))=true from rfl) (.c (show Ho 7 (Ye (0+1+1+1) x (.vec (joV x) 1 31))=true from ?_) (.c (show Ho 7 (Ye (0+1+1+1+1) x (.defd))=true from rfl) (.c (show Ho 7 (match 0+1+1+1+1+1==3 with|true=>.vec (joV x) 2 31|false=>keepX (cX 3 1 2) (.loop I6 none f (ZJ) Yg (aV (sub Hr 0)) (aq (sub Hr 0))))=true from rfl) (.c (show Ho 7 (Ye (0+1+1+1+1+1+1) x (.var v0))=true from rfl) .n)))))))))))))))<;>subst v0<;>(first|assumption|rfl|exact A1 hx|exact uD hx|exact A2 hx rfl|exact yU hx rfl|exact bJ _ _|exact bK _ _|(rw[cM];exact bJ _ _)|(rw[cM];exact bK _ _))
end Go.Vi
