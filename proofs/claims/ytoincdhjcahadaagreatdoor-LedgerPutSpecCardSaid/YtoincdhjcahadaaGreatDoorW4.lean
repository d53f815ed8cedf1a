/- LedgerPutSpec: part of the proof: contracts of the functions that the law reaches, and the law. No conditions beyond the given statement's own. -/
import Derived.Test.YtoincdhjcahadaaGreatDoorW3
open Decidable renaming decide → Qd
open ByteArray renaming empty → Eg
open Go.Proofs.Tryz renaming prog → Di, f76 → Hz, f27 → Gj, f12 → HA, f33 → DI
open Nat renaming zero_le → HZ
open Go.IntKind renaming i64 → Dk, wrap → Ds
open List renaming length → Dl, getElem?_eq_some_iff → Dq, flatten → Ei, map → Dh, mem_of_getElem? → D1, drop_zero → GU
open Go.Exit renaming normal → DZ, ret → Ee, exit → DV
open Go.Vi.Blk renaming inn → D6
open Go.Vi.MeT renaming row → DA
open Go.Vi.GrT renaming row → Dx
open Go.Vi.BuT renaming row → Dn
open Go.Vi.Dp renaming sl → Dw, v → DS
open Go.Value renaming bool → DE, tuple → DF, oneCell' → Iu
open Go.Vi.StT renaming row → FP
open Go.Vi.D renaming any → Gb, p → EK, agg → Dy, ep → Ii, fn → DW, grd → FR
open Go.Vi.EntT renaming row → Dt
open Int renaming toNat → Dz
open Go.Operand renaming tmp → DD
open Go.LoopState renaming busy → EY
open Go.Fn renaming func → DB
open Go Go.Proofs
namespace Go.Vi
set_option maxHeartbeats 4000000
set_option maxRecDepth 100000
theorem Ev.argW{P:Program}{Γ:ae}{f:FuncId}{args:List D}{h h':List Blk}{d:D}(he:Ev P Γ f (D.nilWL args) h d h'):Ev P Γ f args h d h':=fun O w l vs R ra=>he O w l vs R (gO _ _ ra)
def SecT.zero:SecT:=⟨0,0,0,0,0,[],[],[],false⟩
def RqT.zero:RqT:=⟨0,0,0,0,0,[],0,0,0⟩
def EntT.bare(e:EntT):EntT:=⟨e.time,e.campus,e.no,e.kind,0,0,0,0,0,0,Eg,.zero,.zero,e.r,e.s⟩
def EntT.clr(e:EntT)(k:Int):EntT :=
 if k=1 then {e with frm:=0,til:=0,text:=Eg} else if k=2∨k=8 then {e with stu:=0,obj:=0,val:=0,term:=0} else if k=3∨k=5 then {e with stu:=0,obj:=0,val:=0,frm:=0,til:=0}
 else if k=4 then {e with stu:=0,obj:=0,val:=0,frm:=0,til:=0,term:=0} else if k=6 then {e with sec:=.zero} else if k=7 then {e with req:=.zero} else {e with term:=0}
def gradeR(e:EntT):Int:=mustR (inS e.stu 0 19999&&inS e.term 0 1023&&inS e.obj 0 4095&&pA e)
def tR(e:EntT)(k:Int):Int:=if k=1 then mustR (catB e) else if k=2 then gradeR e else if k=3∨k=5 then mustR (Bc e) else if k=4 then petR e else if k=6 then kT e.sec else if k=7 then kS e.req else if k=8 then ef ⟨e.val,e.stu,e.obj,e.term⟩ else mustR (inS e.term 0 1023)
def EntT.st(e:EntT):StT:=⟨e.time,e.campus,e.no⟩
def aH(e:EntT):Int:=match fR e.st != 0 with
 | true=>fR e.st
 | false=>if 1≤e.kind∧e.kind≤9 then enR 0 (bW (e.clr e.kind) e.bare) (tR e e.kind) else 370
theorem Bl(e:EntT)(h:List Blk):Ev Di Γ0 39 [.agg [int e.time,int e.campus,int e.no]] h (int (fR e.st)) h:=xv (s:=e.st) h
theorem pC{e:EntT}(o:e.ok)(h:List Blk):Ev Di Γq 25 [ag e.row] h (int (aH e)) h:=by
 have hst:=Bl e
 show Ev Di Γq 25 [.agg (aQ e.kind e)] h (int (aH e)) h
 unfold aH
 cases hb:(fR e.st != 0) with
 | true=>exact en_st hst hb h
 | false =>
  have h0:fR e.st=0:=by simpa using hb
  rw[h0] at hst
  simp only
  by_cases hk:1≤e.kind∧e.kind≤9
  ·rw[if_pos hk]
   have hkk:e.kind=1∨e.kind=2∨e.kind=3∨e.kind=4∨e.kind=5∨e.kind=6∨e.kind=7∨e.kind=8∨e.kind=9:=by omega
   rcases hkk with hk|hk|hk|hk|hk|hk|hk|hk|hk
   ·have hsm:∀h,Ev Di Γ0 42 [.agg (eh e.kind e e.stu e.obj e.term e.val 0 0 Eg (f8 e.sec) (rqD e.req.kind e.req)),.agg (ek e.kind e)] h (bool (bW (e.clr 1) e.bare)) h:=fun h=>Ev.argW (dn (a:=e.clr 1) (b:=e.bare) o.m o.g o.l o.c h)
    have hck:∀h,Ev Di Γ0 57 [.agg (aQ e.kind e)] h (int (tR e 1)) h:=fun h=>cat_ev h
    rw[hk] at hsm hck ⊢
    exact en1_a hst hsm hck h
   ·have hsm:∀h,Ev Di Γ0 42 [.agg (eh e.kind e 0 0 0 0 e.frm e.til e.text (f8 e.sec) (rqD e.req.kind e.req)),.agg (ek e.kind e)] h (bool (bW (e.clr 2) e.bare)) h:=fun h=>Ev.argW (dn (a:=e.clr 2) (b:=e.bare) o.m o.g o.l o.c h)
    have hck:∀h,Ev Di Γ0 60 [.agg (aQ e.kind e)] h (int (tR e 2)) h:=fun h=>vC h
    rw[hk] at hsm hck ⊢
    exact en2_a hst hsm hck h
   ·have hsm:∀h,Ev Di Γ0 42 [.agg (eh e.kind e 0 0 e.term 0 0 0 e.text (f8 e.sec) (rqD e.req.kind e.req)),.agg (ek e.kind e)] h (bool (bW (e.clr 3) e.bare)) h:=fun h=>Ev.argW (dn (a:=e.clr 3) (b:=e.bare) o.m o.g o.l o.c h)
    have hck:∀h,Ev Di Γ0 61 [.agg (aQ e.kind e)] h (int (tR e 3)) h:=fun h=>pB h
    rw[hk] at hsm hck ⊢
    exact en3_a hst hsm hck h
   ·have hsm:∀h,Ev Di Γ0 42 [.agg (eh e.kind e 0 0 0 0 0 0 e.text (f8 e.sec) (rqD e.req.kind e.req)),.agg (ek e.kind e)] h (bool (bW (e.clr 4) e.bare)) h:=fun h=>Ev.argW (dn (a:=e.clr 4) (b:=e.bare) o.m o.g o.l o.c h)
    have hck:∀h,Ev Di Γ0 63 [.agg (aQ e.kind e)] h (int (tR e 4)) h:=fun h=>pet_ev h
    rw[hk] at hsm hck ⊢
    exact en4_a hst hsm hck h
   ·have hsm:∀h,Ev Di Γ0 42 [.agg (eh e.kind e 0 0 e.term 0 0 0 e.text (f8 e.sec) (rqD e.req.kind e.req)),.agg (ek e.kind e)] h (bool (bW (e.clr 5) e.bare)) h:=fun h=>Ev.argW (dn (a:=e.clr 5) (b:=e.bare) o.m o.g o.l o.c h)
    have hck:∀h,Ev Di Γ0 61 [.agg (aQ e.kind e)] h (int (tR e 5)) h:=fun h=>pB h
    rw[hk] at hsm hck ⊢
    exact en5_a hst hsm hck h
   ·have hsm:∀h,Ev Di Γ0 42 [.agg (eh e.kind e e.stu e.obj e.term e.val e.frm e.til e.text bX (rqD e.req.kind e.req)),.agg (ek e.kind e)] h (bool (bW (e.clr 6) e.bare)) h:=fun h=>Ev.argW (dn (a:=e.clr 6) (b:=e.bare) (HZ _) (HZ _) (HZ _) o.c h)
    have hck:∀h,Ev Di Γq 65 [.agg (aQ e.kind e)] h (int (tR e 6)) h:=fun h=>Bj o.g o.l h
    rw[hk] at hsm hck ⊢
    exact en6_a hst hsm hck h
   ·have hsm:∀h,Ev Di Γ0 42 [.agg (eh e.kind e e.stu e.obj e.term e.val e.frm e.til e.text (f8 e.sec) dZ),.agg (ek e.kind e)] h (bool (bW (e.clr 7) e.bare)) h:=fun h=>Ev.argW (dn (a:=e.clr 7) (b:=e.bare) o.m o.g o.l (HZ _) h)
    have hck:∀h,Ev Di Γq 68 [.agg (aQ e.kind e)] h (int (tR e 7)) h:=fun h=>Bk o.c h
    rw[hk] at hsm hck ⊢
    exact en7_a hst hsm hck h
   ·have hsm:∀h,Ev Di Γ0 42 [.agg (eh e.kind e 0 0 0 0 e.frm e.til e.text (f8 e.sec) (rqD e.req.kind e.req)),.agg (ek e.kind e)] h (bool (bW (e.clr 8) e.bare)) h:=fun h=>Ev.argW (dn (a:=e.clr 8) (b:=e.bare) o.m o.g o.l o.c h)
    have hck:∀h,Ev Di Γ0 70 [.agg (aQ e.kind e)] h (int (tR e 8)) h:=fun h=>xJ h
    rw[hk] at hsm hck ⊢
    exact en8_a hst hsm hck h
   ·have hsm:∀h,Ev Di Γ0 42 [.agg (eh e.kind e e.stu e.obj 0 e.val e.frm e.til e.text (f8 e.sec) (rqD e.req.kind e.req)),.agg (ek e.kind e)] h (bool (bW (e.clr 9) e.bare)) h:=fun h=>Ev.argW (dn (a:=e.clr 9) (b:=e.bare) o.m o.g o.l o.c h)
    have hck:∀h,Ev Di Γ0 72 [.agg (aQ e.kind e)] h (int (tR e 9)) h:=fun h=>Bd h
    rw[hk] at hsm hck ⊢
    exact en9_a hst hsm hck h
  ·rw[if_neg hk]
   exact enN_a hk hst h
set_option maxHeartbeats 4000000
abbrev fsS(L:List (List Dp))(i:Int):AS:={t:=mkT 15 0 [(5,aa L),(6,int (L.length:Int)),(7,int i)],h:=[],m:=[]}
theorem Bm{L:List (List Dp)}{i:Nat}(hr:ad (i:Int) L [vi 0] 1)(hlt:Qd ((i:Int)<(L.length:Int))=true)(hw:Dk.wrap ((i:Int)+1)=((i+1:Nat):Int)):(CW Di Γ0 [] false (sub Hz 0) (fsS L i) .normal (fsS L ((i+1:Nat):Int))):=by
 refine zX {t:=mkT 15 0 [(5,aa L),(6,int (↑(Dl L):Int)),(7,int (Ds Dk ((↑i:Int)+1)))],h:=[],m:=[]} DZ [.st (.mask [5,6,7])] [.b true,.row [vi 0],.b false] (.c hlt (.c hr (.c (show(0 != 0)=false from rfl) .n))) ?_ ?_<;>(first|rfl|(rw[hw]<;>rfl))
theorem fs_hit{L:List (List Dp)}{i:Nat}{n:Int}(hr:ad (i:Int) L [vi n] 1)(hlt:Qd ((i:Int)<(L.length:Int))=true)(hn:(n != 0)=true):(CW Di Γ0 [] false (sub Hz 0) (fsS L i) .ret {t:=mkT 15 0 [(2,int n)],h:=[],m:=[]}):=by
 exact zx [.st (.mask [2])] [.b true,.row [vi n],.b true] (.c hlt (.c hr (.c hn .n)))
theorem Bn{L:List (List Dp)}{i:Nat}(hlt:Qd ((i:Int)<(L.length:Int))=false):(CW Di Γ0 [] false (sub Hz 0) (fsS L i) (.exit 0) {t:=mkT 15 0 [],h:=[],m:=[]}):=by
 exact zx [.st (.mask [])] [.b false] (.c hlt .n)
def fsF(n:Int)(_:Unit):Unit⊕Int:=match n != 0 with
 | true=>.inr n
 | false=>.inl ()
theorem Bo{l:List Int}(hs:ai l):CW Di Γ0 [] false (.loop (sub Hz 0)) (fsS (l.map ab) 0) (af (.exit 0) (fun _:Unit=>{t:=mkT 15 0 [],h:=[],m:=[]}) (fun n:Int=>(.ret,{t:=mkT 15 0 [(2,int n)],h:=[],m:=[]})) (forL fsF l ())).1 (af (.exit 0) (fun _:Unit=>{t:=mkT 15 0 [],h:=[],m:=[]}) (fun n:Int=>(.ret,{t:=mkT 15 0 [(2,int n)],h:=[],m:=[]})) (forL fsF l ())).2:=by
 refine CW.each l fsF (fun j _=>fsS (l.map ab) (j:Int)) (.exit 0) _ _ (fun _ _=>True) (by simp) (fun _=>by simp) ?_ ?_ () trivial
 ·intro j n a hj _
  have hlt:=(Dq.1 hj).1
  have hr:=rowAt (row:=ab) (sz:=1) hj rfl
  refine⟨fun _ _=>trivial,?_⟩
  cases hb:n != 0 with
  | true =>
   have e:fsF n a=.inr n:=by unfold fsF;rw[hb]
   rw[e]
   exact fs_hit hr (lt_len ab hlt) hb
  | false =>
   have e:fsF n a=.inl ():=by unfold fsF;rw[hb]
   rw[e]
   have h0:n=0:=by simpa using hb
   subst h0
   exact Bm hr (lt_len ab hlt) (wrap_succ hlt hs)
 ·intro a _
  exact Bn (aY ab l)
theorem Bp{L:List (List Dp)}{n:Int}(hl:CW Di Γ0 [] false (.loop (sub Hz 0)) (fsS L 0) .ret {t:=mkT 15 0 [(2,int n)],h:=[],m:=[]})(h:List Blk):(Ev Di Γ0 76 [aa L] h (int n) h):=by
 have hl0:=(@hl)
 exact z0 [.sum [5,6,7] (Ee) {t:=mkT 15 0 [(2,int n)],h:=[],m:=[]}] (.c hl0 .n) h
theorem Bq{L:List (List Dp)}(hl:CW Di Γ0 [] false (.loop (sub Hz 0)) (fsS L 0) (.exit 0) {t:=mkT 15 0 [],h:=[],m:=[]})(h:List Blk):(Ev Di Γ0 76 [aa L] h (int 0) h):=by
 have hl0:=(@hl)
 exact z0 [.sum [5,6,7] (DV 0) {t:=mkT 15 0 [],h:=[],m:=[]}] (.c hl0 .n) h
def gT(l:List Int):Int:=match forL fsF l () with
 | .inl _=>0
 | .inr n=>n
theorem xO{l:List Int}(hs:ai l)(h:List Blk):Ev Di Γ0 76 [aa (l.map ab)] h (int (gT l)) h:=by
 have:=Bo hs
 unfold gT
 cases hf:forL fsF l () with
 | inl a=>rw[hf] at this;exact Bq this h
 | inr n=>rw[hf] at this;exact Bp this h
theorem vH(x y z:Int)(h:List Blk):Ev Di Γ0 76 [aa [[vi x],[vi y],[vi z]]] h (int (gT [x,y,z])) h:=xO (l:=[x,y,z]) (by simp[ai]) h
theorem tz(x y z:Int):Ev Di Γ0 76 [.ref (.vec 0 0)] [.vec [[int x],[int y],[int z]] 0 1] (int (gT [x,y,z])) [.vec [[int x],[int y],[int z]] 0 1]:=Ev.frzArgs (by rfl) rfl (vH x y z [])
def fp(a b:StT):Bool:=a.time==b.time&&(a.campus==b.campus&&(a.no==b.no&&true))
def bc(a b:StT):Int:=match fp a b with
 | true=>0
 | false=>gT [cB a.time b.time,cB a.campus b.campus,cB a.no b.no]
noncomputable abbrev fX(a:StT)(b:StT):List Blk:=[.var [int a.time,int a.campus,int a.no],.var [int b.time,int b.campus,int b.no],.vec [[int (cB a.time b.time)],[int (cB a.campus b.campus)],[int (cB a.no b.no)]] 0 1]
noncomputable abbrev fY(a:StT)(b:StT):List Blk:=[.var [int a.time,int a.campus,int a.no],.var [int b.time,int b.campus,int b.no]]
theorem cJ{a b:StT}(h:List Blk):(Ev Di Γ0 43 [ag a.row,ag b.row] h (int (bc a b)) h):=by
 cases hc0:a.time==b.time&&(a.campus==b.campus&&(a.no==b.no&&true))
 ·refine zD (int (gT [cB a.time b.time,cB a.campus b.campus,cB a.no b.no])) [.b false,.val (int (cB a.time b.time)),.val (int (cB a.campus b.campus)),.val (int (cB a.no b.no)),.val (int (gT [cB a.time b.time,cB a.campus b.campus,cB a.no b.no]))] (.c hc0 (.c (@qw (a.time) (b.time) (fY a b)) (.c (@qw (a.campus) (b.campus) (fY a b)) (.c (@qw (a.no) (b.no) (fY a b)) (.c (show Ev Di Γ0 76 [.ref (.vec 2 0)] (fX a b) (int (gT [cB a.time b.time,cB a.campus b.campus,cB a.no b.no])) (fX a b) from(Ev.castH (Ev.frameX (args:=[.ref (.vec 2 0)]) (H:=(fX a b)) [2] (@tz (cB a.time b.time) (cB a.campus b.campus) (cB a.no b.no)) (by kernel_rfl) (by kernel_rfl) (by kernel_rfl) ⟨?_,trivial⟩ ⟨?_,trivial⟩) (by kernel_rfl) (by kernel_rfl))) (.e (.ref (.ptr 0 0)) (.e (int a.time) (.e (.ref (.ptr 1 0)) (.e (int b.time) (.e (.ref (.ptr 0 1)) (.e (.ref (.ptr 0 1)) (.e (int a.campus) (.e (int a.campus) (.e (.ref (.ptr 1 1)) (.e (.ref (.ptr 1 1)) (.e (int b.campus) (.e (int b.campus) (.e (.ref (.ptr 0 2)) (.e (.ref (.ptr 0 2)) (.e (.ref (.ptr 0 2)) (.e (int a.no) (.e (int a.no) (.e (int a.no) (.e (.ref (.ptr 1 2)) (.e (.ref (.ptr 1 2)) (.e (.ref (.ptr 1 2)) (.e (int b.no) (.e (int b.no) (.e (int b.no) .n))))))))))))))))))))))))))))) h (by first|rfl|(have hh:fp a b=true:=hc0;simp only[bc,hh];first|done|rfl)|(have hh:fp a b=false:=hc0;simp only[bc,hh];first|done|rfl))<;>(first|rfl|exact lY _ _|first|assumption|rfl|decide|omega|simp_all)
 ·exact zD (int 0) [.b true] (.c hc0 .n) h (by first|rfl|(have hh:fp a b=true:=hc0;simp only[bc,hh];first|done|rfl)|(have hh:fp a b=false:=hc0;simp only[bc,hh];first|done|rfl))
def stA(l:List StT):List (List D):=l.map fun s=>s.row.map .p
theorem vI{l:List StT}:∀r∈stA l,r.length=3:=fun r hr=>by obtain⟨s,_,rfl⟩:=List.mem_map.1 hr;rfl
theorem iL(k:Nat)(l:List StT):D6 k (.var (stA l).flatten)=true:=by
 show D.innL k (stA l).flatten=true
 induction l with
 | nil=>rfl
 | cons s l ih=>exact ih
theorem tA{h:List Blk}{off n:Nat}{l:List StT}{b:StT}(hb:h[0]? = some (.var (stA l).flatten))(hs:l[n]? = some b)(ho:off=n*3):bw Di h 28 (.ref (.ptr 0 off))=some (ag b.row):=by
 subst ho
 exact xl (sz:=3) (row:=b.row.map .p) (by kernel_rfl) (by kernel_rfl) hb vI (by simp[stA,hs])
theorem tB{h:List Blk}{off n:Nat}{l:List StT}{b:StT}(hb:h[0]? = some (.var (stA l).flatten))(hn:n<l.length)(ho:off=n*3):ft Di h 28 (.ref (.ptr 0 off)) (ag b.row)=some (h.set 0 (.var (stA (l.set n b)).flatten)):=by
 subst ho
 rw[uQ (sz:=3) (new:=b.row.map .p) rfl (by kernel_rfl) rfl hb vI (by simpa[stA] using hn),stA,stA,List.map_set]
abbrev fiS(l:List (List Dp))(lst:List StT)(i:Int):AS:={t:=mkT 58 0 [(0,aa l),(3,.ref (.ptr 0 0)),(8,aa l),(9,int (l.length:Int)),(10,int i)],h:=[.var (stA lst).flatten],m:=[]}
abbrev fiX(lst:List StT):AS:={t:=mkT 58 0 [(2,bool false)],h:=[.var (stA lst).flatten],m:=[]}
abbrev fiE(lst:List StT):AS:={t:=mkT 58 0 [],h:=[.var (stA lst).flatten],m:=[]}
def fiB(b s:StT):Bool:=Qd (b.no>0)&&(Qd (b.time≥s.time)||Qd (b.no≥s.no))
theorem fi_0{l:List (List Dp)}{lst:List StT}{e:EntT}{b:StT}{n:Nat}(hr:ad 0 l e.row 31)(hlt:Qd ((0:Int)<(l.length:Int))=true)(hc:inR e.campus 7=true)(hn:e.campus.toNat=n)(hb:lst[n]? = some b)(hq2:Qd (b.no>0)=false):(CW Di Γ0 [] false (sub Gj 0) (fiS l lst 0) .normal (fiS l (lst.set n e.st) 1)):=by
 let v1:List D:=[int e.time,int e.campus,int e.no]
 let v2:=Ei (stA (List.set lst n (EntT.st e)))
 let v3:List D:=[int b.time,int b.campus,int b.no]
 let v4:=Dh DA e.sec.mts
 let v5:=Dh Dx e.sec.grs
 let v6:=Dh ab e.sec.labs
 let v7:=Dh Dn e.req.chs
 let v0:List D:=[int e.time,int e.campus,int e.no,int e.kind,int e.stu,int e.obj,int e.term,int e.val,int e.frm,int e.til,ax e.text,int e.sec.id,int e.sec.course,int e.sec.term,int e.sec.campus,int e.sec.seats,aa v4,aa v5,aa v6,bool e.sec.lab,int e.req.campus,int e.req.no,int e.req.st,int e.req.kind,int e.req.time,aa v7,int e.req.gsec,int e.req.glab,int e.req.key,int e.r,int e.s]
 refine zX {t:=mkT 58 0 [(0,aa l),(3,.ref (.ptr 0 0)),(8,aa l),(9,int (↑(Dl l):Int)),(10,int (Ds Dk (0+1)))],h:=[.var v2],m:=[]} DZ [.st (.mask [0,3,8,9,10]),.st (.trimV 1)] [.b true,.row [vi e.time,vi e.campus,vi e.no,vi e.kind,vi e.stu,vi e.obj,vi e.term,vi e.val,vi e.frm,vi e.til,vs e.text,vi e.sec.id,vi e.sec.course,vi e.sec.term,vi e.sec.campus,vi e.sec.seats,Dw v4,Dw v5,Dw v6,DS (DE e.sec.lab),vi e.req.campus,vi e.req.no,vi e.req.st,vi e.req.kind,vi e.req.time,Dw v7,vi e.req.gsec,vi e.req.glab,vi e.req.key,vi e.r,vi e.s],.ov 20 (ag (FP b)),.g false,.g false,.g false,.g false,.g false,.g false,.g false,.g false,.g false,.ov 33 (bool false),.g true,.g true,.g true,.g true,.g false,.g false,.g false,.g false,.g false,.g false,.g false,.g false,.g false,.g false,.g false,.g false,.g true,.ov 51 (bool false),.ov 52 (bool false),.b false,.oh 10056 Gb [.var v2,.var (Dh EK (Dt e)),.var (Dh EK (FP (EntT.st e))),.var (Dh EK (FP b))]] (.c hlt (.c hr (.c hc (.c (show bw Di [.var (Ei (stA lst)),.var v0,.var v1] 28 (.ref (.ptr 0 (0+Dz e.campus*3)))=some (Dy v3) from ?_) (.c (show(Qd (0>0)==true)=false from rfl) (.c (show(Qd (0>0)==true)=false from rfl) (.c (show(Qd (0>0)==true)=false from rfl) (.c (show(Qd (0>0)==true)=false from rfl) (.c (show(Qd (0>0)==true)=false from rfl) (.c (show(Qd (0>0)==true)=false from rfl) (.c (show(Qd (0>0)==true)=false from rfl) (.c (show(Qd (0>0)==true)=false from rfl) (.c (show(Qd (0>0)==true)=false from rfl) (.c (show dB (bool (Qd (0>0))) (EK (DS (DF {toList:=[]}))) (bool false) (bool false) from ?_) (.c (show(false==false)=true from rfl) (.c (show(false==false)=true from rfl) (.c (show(false==false)=true from rfl) (.c (show(false==false)=true from rfl) (.c (show(Qd (b.no>0)==true)=false from(by subst v1 v2 v3 v4 v5 v6 v7 v0;rw[hq2]<;>rfl)) (.c (show(Qd (b.no>0)==true)=false from(by subst v1 v2 v3 v4 v5 v6 v7 v0;rw[hq2]<;>rfl)) (.c (show(Qd (b.no>0)==true)=false from(by subst v1 v2 v3 v4 v5 v6 v7 v0;rw[hq2]<;>rfl)) (.c (show(Qd (b.no>0)==true)=false from(by subst v1 v2 v3 v4 v5 v6 v7 v0;rw[hq2]<;>rfl)) (.c (show(Qd (b.no>0)==true)=false from(by subst v1 v2 v3 v4 v5 v6 v7 v0;rw[hq2]<;>rfl)) (.c (show(Qd (b.no>0)==true)=false from(by subst v1 v2 v3 v4 v5 v6 v7 v0;rw[hq2]<;>rfl)) (.er false (.er false (.er false (.er false (.er false (.c (show(Qd (b.no>0)==true)=false from(by subst v1 v2 v3 v4 v5 v6 v7 v0;rw[hq2]<;>rfl)) (.c (show(false==false)=true from rfl) (.c (pkf (EK (DS (DF {toList:=[]}))) (bool false) hq2) (.c (pkf (bool true) (bool false) rfl) (.er false (.c hc (.c (show ft Di [.var (Ei (stA lst)),.var v0,.var v1,.var v3] 28 (evalD Γ0 [aa l,Gb,Gb,.ref (.ptr 0 0),int 0,.ref (.ptr 1 0),.ref (.ptr 2 0),.ref (.ptr 3 0),aa l,int (↑(Dl l):Int),int 0,bool (Qd (0<(↑(Dl l):Int))),int 0,Ii [vi e.time,vi e.campus,vi e.no,vi e.kind,vi e.stu,vi e.obj,vi e.term,vi e.val,vi e.frm,vi e.til,vs e.text,vi e.sec.id,vi e.sec.course,vi e.sec.term,vi e.sec.campus,vi e.sec.seats,Dw v4,Dw v5,Dw v6,DS (DE e.sec.lab),vi e.req.campus,vi e.req.no,vi e.req.st,vi e.req.kind,vi e.req.time,Dw v7,vi e.req.gsec,vi e.req.glab,vi e.req.key,vi e.r,vi e.s],Dy v0,.ref (.ptr 1 0),Dy v1,.ref (.ptr 2 1),int e.campus,.ref (.ptr 0 (0+Dz e.campus*3)),Dy v3,int 0,bool (Qd (0>0)),bool (Qd (0>0)),EK (DS (DF {toList:=[]})),EK (DS (DF {toList:=[]})),EK (DS (DF {toList:=[]})),EK (DS (DF {toList:=[]})),EK (DS (DF {toList:=[]})),EK (DS (DF {toList:=[]})),EK (DS (DF {toList:=[]})),EK (DS (DF {toList:=[]})),EK (DS (DF {toList:=[]})),bool false,bool false,.ref (.ptr 3 2),int b.no,bool (Qd (b.no>0)),bool (Qd (b.no>0)),EK (DS (DF {toList:=[]})),EK (DS (DF {toList:=[]})),EK (DS (DF {toList:=[]})),EK (DS (DF {toList:=[]})),EK (DS (DF {toList:=[]})),EK (DS (DF {toList:=[]})),EK (DS (DF {toList:=[]})),EK (DS (DF {toList:=[]})),EK (DS (DF {toList:=[]})),EK (DS (DF {toList:=[]})),EK (DS (DF {toList:=[]})),EK (DS (DF {toList:=[]})),bool false,bool false,.ref (.ptr 2 1),int e.campus,Dy v1,.ref (.ptr 0 (0+Dz e.campus*3)),Gb] (DD 56)) (evalD Γ0 [aa l,Gb,Gb,.ref (.ptr 0 0),int 0,.ref (.ptr 1 0),.ref (.ptr 2 0),.ref (.ptr 3 0),aa l,int (↑(Dl l):Int),int 0,bool (Qd (0<(↑(Dl l):Int))),int 0,Ii [vi e.time,vi e.campus,vi e.no,vi e.kind,vi e.stu,vi e.obj,vi e.term,vi e.val,vi e.frm,vi e.til,vs e.text,vi e.sec.id,vi e.sec.course,vi e.sec.term,vi e.sec.campus,vi e.sec.seats,Dw v4,Dw v5,Dw v6,DS (DE e.sec.lab),vi e.req.campus,vi e.req.no,vi e.req.st,vi e.req.kind,vi e.req.time,Dw v7,vi e.req.gsec,vi e.req.glab,vi e.req.key,vi e.r,vi e.s],Dy v0,.ref (.ptr 1 0),Dy v1,.ref (.ptr 2 1),int e.campus,.ref (.ptr 0 (0+Dz e.campus*3)),Dy v3,int 0,bool (Qd (0>0)),bool (Qd (0>0)),EK (DS (DF {toList:=[]})),EK (DS (DF {toList:=[]})),EK (DS (DF {toList:=[]})),EK (DS (DF {toList:=[]})),EK (DS (DF {toList:=[]})),EK (DS (DF {toList:=[]})),EK (DS (DF {toList:=[]})),EK (DS (DF {toList:=[]})),EK (DS (DF {toList:=[]})),bool false,bool false,.ref (.ptr 3 2),int b.no,bool (Qd (b.no>0)),bool (Qd (b.no>0)),EK (DS (DF {toList:=[]})),EK (DS (DF {toList:=[]})),EK (DS (DF {toList:=[]})),EK (DS (DF {toList:=[]})),EK (DS (DF {toList:=[]})),EK (DS (DF {toList:=[]})),EK (DS (DF {toList:=[]})),EK (DS (DF {toList:=[]})),EK (DS (DF {toList:=[]})),EK (DS (DF {toList:=[]})),EK (DS (DF {toList:=[]})),EK (DS (DF {toList:=[]})),bool false,bool false,.ref (.ptr 2 1),int e.campus,Dy v1,.ref (.ptr 0 (0+Dz e.campus*3)),Gb] (DD 55))=some [.var v2,.var v0,.var [int (EntT.st e).time,int (EntT.st e).campus,int (EntT.st e).no],.var v3] from ?_) (.c (show D6 1 (.var v2)=true from ?_) .n))))))))))))))))))))))))))))))))))))) (by subst v1 v2 v3 v4 v5 v6 v7 v0;first|rfl|(rw[hw]<;>rfl)) (by subst v1 v2 v3 v4 v5 v6 v7 v0;first|rfl|(rw[hw]<;>rfl))<;>subst v1 v2 v3 v4 v5 v6 v7 v0<;>(first|assumption|rfl|exact iL _ _|exact tA rfl hb (by simp[hn])|exact tB (b:=e.st) rfl (Dq.1 hb).1 (by simp[hn]))
noncomputable abbrev Br(lst:List StT)(e:EntT)(b:StT):List Blk:=[.var (Ei (stA lst)),.var [int e.time,int e.campus,int e.no,int e.kind,int e.stu,int e.obj,int e.term,int e.val,int e.frm,int e.til,ax e.text,int e.sec.id,int e.sec.course,int e.sec.term,int e.sec.campus,int e.sec.seats,aa (Dh DA e.sec.mts),aa (Dh Dx e.sec.grs),aa (Dh ab e.sec.labs),bool e.sec.lab,int e.req.campus,int e.req.no,int e.req.st,int e.req.kind,int e.req.time,aa (Dh Dn e.req.chs),int e.req.gsec,int e.req.glab,int e.req.key,int e.r,int e.s],.var [int e.time,int e.campus,int e.no],.var [int b.time,int b.campus,int b.no]]
theorem fi_A{l:List (List Dp)}{lst:List StT}{e:EntT}{b:StT}{n:Nat}{p:EntT}{c:Int}{i:Nat}(hr:ad (i:Int) l e.row 31)(hlt:Qd ((i:Int)<(l.length:Int))=true)(hp:ad (Ds Dk ((i:Int) - 1)) l p.row 31)(hcp:∀h,Ev Di Γ0 43 [.agg [int p.time,int p.campus,int p.no],.agg [int e.time,int e.campus,int e.no]] h (int c) h)(hc:inR e.campus 7=true)(hn:e.campus.toNat=n)(hb:lst[n]? = some b)(hi:Qd ((i:Int)>0)=true)(hq1:Qd (c≥0)=true):(CW Di Γ0 [] false (sub Gj 0) (fiS l lst i) .ret (fiX lst)):=by
 refine zX {t:=mkT 58 0 [(2,bool false)],h:=[.var (Ei (stA lst))],m:=[]} Ee [.st (.mask [2]),.st (.trimV 1)] [.b true,.row [vi e.time,vi e.campus,vi e.no,vi e.kind,vi e.stu,vi e.obj,vi e.term,vi e.val,vi e.frm,vi e.til,vs e.text,vi e.sec.id,vi e.sec.course,vi e.sec.term,vi e.sec.campus,vi e.sec.seats,Dw (Dh DA e.sec.mts),Dw (Dh Dx e.sec.grs),Dw (Dh ab e.sec.labs),DS (DE e.sec.lab),vi e.req.campus,vi e.req.no,vi e.req.st,vi e.req.kind,vi e.req.time,Dw (Dh Dn e.req.chs),vi e.req.gsec,vi e.req.glab,vi e.req.key,vi e.r,vi e.s],.ov 20 (ag (FP b)),.g true,.g true,.g true,.g true,.row [vi p.time,vi p.campus,vi p.no,vi p.kind,vi p.stu,vi p.obj,vi p.term,vi p.val,vi p.frm,vi p.til,vs p.text,vi p.sec.id,vi p.sec.course,vi p.sec.term,vi p.sec.campus,vi p.sec.seats,Dw (Dh DA p.sec.mts),Dw (Dh Dx p.sec.grs),Dw (Dh ab p.sec.labs),DS (DE p.sec.lab),vi p.req.campus,vi p.req.no,vi p.req.st,vi p.req.kind,vi p.req.time,Dw (Dh Dn p.req.chs),vi p.req.gsec,vi p.req.glab,vi p.req.key,vi p.r,vi p.s],.g true,.g true,.g true,.g true,.val (int c),.g true,.ov 33 (bool (Qd (c≥0))),.g false,.g false,.g false,.g false,.g false,.g false,.g false,.g false,.g false,.g false,.g false,.g false,.g false,.g false,.g false,.g false,.g false,.ov 52 (bool true),.b true] (.c hlt (.c hr (.c hc (.c (show bw Di [.var (Ei (stA lst)),.var [int e.time,int e.campus,int e.no,int e.kind,int e.stu,int e.obj,int e.term,int e.val,int e.frm,int e.til,ax e.text,int e.sec.id,int e.sec.course,int e.sec.term,int e.sec.campus,int e.sec.seats,aa (Dh DA e.sec.mts),aa (Dh Dx e.sec.grs),aa (Dh ab e.sec.labs),bool e.sec.lab,int e.req.campus,int e.req.no,int e.req.st,int e.req.kind,int e.req.time,aa (Dh Dn e.req.chs),int e.req.gsec,int e.req.glab,int e.req.key,int e.r,int e.s],.var [int e.time,int e.campus,int e.no]] 28 (.ref (.ptr 0 (0+Dz e.campus*3)))=some (Dy [int b.time,int b.campus,int b.no]) from ?_) (.c (show(Qd ((↑i:Int)>0)==true)=true from(by rw[hi]<;>rfl)) (.c (show(Qd ((↑i:Int)>0)==true)=true from(by rw[hi]<;>rfl)) (.c (show(Qd ((↑i:Int)>0)==true)=true from(by rw[hi]<;>rfl)) (.c (show(Qd ((↑i:Int)>0)==true)=true from(by rw[hi]<;>rfl)) (.c hp (.c (show(Qd ((↑i:Int)>0)==true)=true from(by rw[hi]<;>rfl)) (.c (show(Qd ((↑i:Int)>0)==true)=true from(by rw[hi]<;>rfl)) (.c (show(Qd ((↑i:Int)>0)==true)=true from(by rw[hi]<;>rfl)) (.c (show(Qd ((↑i:Int)>0)==true)=true from(by rw[hi]<;>rfl)) (.c (@hcp (Br lst e b)) (.c (show(Qd ((↑i:Int)>0)==true)=true from(by rw[hi]<;>rfl)) (.c (pkt (bool (Qd (c≥0))) (bool false) hi) (.c (show(Qd (c≥0)==false)=false from(by rw[hq1]<;>rfl)) (.c (show(Qd (c≥0)==false)=false from(by rw[hq1]<;>rfl)) (.c (show(Qd (c≥0)==false)=false from(by rw[hq1]<;>rfl)) (.c (show(Qd (c≥0)==false)=false from(by rw[hq1]<;>rfl)) (.er false (.er false (.er false (.er false (.er false (.er false (.er false (.er false (.er false (.er false (.er false (.er false (.c (show(Qd (c≥0)==false)=false from(by rw[hq1]<;>rfl)) (.c (pkt (bool true) (EK (DS (DF {toList:=[]}))) hq1) (.er true (.c (show D6 1 (.var (Ei (stA lst)))=true from ?_) .n)))))))))))))))))))))))))))))))))))) (by first|rfl|(rw[hw]<;>rfl)) (by first|rfl|(rw[hw]<;>rfl))<;>(first|assumption|rfl|exact iL _ _|exact tA rfl hb (by simp[hn])|exact tB (b:=e.st) rfl (Dq.1 hb).1 (by simp[hn]))
noncomputable abbrev vJ(lst:List StT)(e:EntT)(b:StT):List Blk:=[.var (Ei (stA lst)),.var [int e.time,int e.campus,int e.no,int e.kind,int e.stu,int e.obj,int e.term,int e.val,int e.frm,int e.til,ax e.text,int e.sec.id,int e.sec.course,int e.sec.term,int e.sec.campus,int e.sec.seats,aa (Dh DA e.sec.mts),aa (Dh Dx e.sec.grs),aa (Dh ab e.sec.labs),bool e.sec.lab,int e.req.campus,int e.req.no,int e.req.st,int e.req.kind,int e.req.time,aa (Dh Dn e.req.chs),int e.req.gsec,int e.req.glab,int e.req.key,int e.r,int e.s],.var [int e.time,int e.campus,int e.no],.var [int b.time,int b.campus,int b.no]]
theorem fi_B{l:List (List Dp)}{lst:List StT}{e:EntT}{b:StT}{n:Nat}{p:EntT}{c:Int}{i:Nat}(hr:ad (i:Int) l e.row 31)(hlt:Qd ((i:Int)<(l.length:Int))=true)(hp:ad (Ds Dk ((i:Int) - 1)) l p.row 31)(hcp:∀h,Ev Di Γ0 43 [.agg [int p.time,int p.campus,int p.no],.agg [int e.time,int e.campus,int e.no]] h (int c) h)(hc:inR e.campus 7=true)(hn:e.campus.toNat=n)(hb:lst[n]? = some b)(hi:Qd ((i:Int)>0)=true)(hq1:Qd (c≥0)=false)(hq2:Qd (b.no>0)=false)(hw:Dk.wrap ((i:Int)+1)=((i+1:Nat):Int)):(CW Di Γ0 [] false (sub Gj 0) (fiS l lst i) .normal (fiS l (lst.set n e.st) ((i+1:Nat):Int))):=by
 let v1:List D:=[int e.time,int e.campus,int e.no]
 let v2:=Ei (stA (List.set lst n (EntT.st e)))
 let v3:=Dh DA p.sec.mts
 let v4:=Dh Dx p.sec.grs
 let v5:=Dh ab p.sec.labs
 let v6:=Dh Dn p.req.chs
 let v7:List D:=[int b.time,int b.campus,int b.no]
 let v8:=Dh DA e.sec.mts
 let v9:=Dh Dx e.sec.grs
 let v10:=Dh ab e.sec.labs
 let v11:=Dh Dn e.req.chs
 let v0:List D:=[int e.time,int e.campus,int e.no,int e.kind,int e.stu,int e.obj,int e.term,int e.val,int e.frm,int e.til,ax e.text,int e.sec.id,int e.sec.course,int e.sec.term,int e.sec.campus,int e.sec.seats,aa v8,aa v9,aa v10,bool e.sec.lab,int e.req.campus,int e.req.no,int e.req.st,int e.req.kind,int e.req.time,aa v11,int e.req.gsec,int e.req.glab,int e.req.key,int e.r,int e.s]
 refine zX {t:=mkT 58 0 [(0,aa l),(3,.ref (.ptr 0 0)),(8,aa l),(9,int (↑(Dl l):Int)),(10,int (Ds Dk ((↑i:Int)+1)))],h:=[.var v2],m:=[]} DZ [.st (.mask [0,3,8,9,10]),.st (.trimV 1)] [.b true,.row [vi e.time,vi e.campus,vi e.no,vi e.kind,vi e.stu,vi e.obj,vi e.term,vi e.val,vi e.frm,vi e.til,vs e.text,vi e.sec.id,vi e.sec.course,vi e.sec.term,vi e.sec.campus,vi e.sec.seats,Dw v8,Dw v9,Dw v10,DS (DE e.sec.lab),vi e.req.campus,vi e.req.no,vi e.req.st,vi e.req.kind,vi e.req.time,Dw v11,vi e.req.gsec,vi e.req.glab,vi e.req.key,vi e.r,vi e.s],.ov 20 (ag (FP b)),.g true,.g true,.g true,.g true,.row [vi p.time,vi p.campus,vi p.no,vi p.kind,vi p.stu,vi p.obj,vi p.term,vi p.val,vi p.frm,vi p.til,vs p.text,vi p.sec.id,vi p.sec.course,vi p.sec.term,vi p.sec.campus,vi p.sec.seats,Dw v3,Dw v4,Dw v5,DS (DE p.sec.lab),vi p.req.campus,vi p.req.no,vi p.req.st,vi p.req.kind,vi p.req.time,Dw v6,vi p.req.gsec,vi p.req.glab,vi p.req.key,vi p.r,vi p.s],.g true,.g true,.g true,.g true,.val (int c),.g true,.ov 33 (bool (Qd (c≥0))),.g true,.g true,.g true,.g true,.g false,.g false,.g false,.g false,.g false,.g false,.g false,.g false,.g false,.g false,.g false,.g false,.g true,.ov 51 (bool false),.ov 52 (bool false),.b false,.oh 10056 Gb [.var v2,.var (Dh EK (Dt e)),.var (Dh EK (FP (EntT.st e))),.var (Dh EK (FP b))]] (.c hlt (.c hr (.c hc (.c (show bw Di [.var (Ei (stA lst)),.var v0,.var v1] 28 (.ref (.ptr 0 (0+Dz e.campus*3)))=some (Dy v7) from ?_) (.c (show(Qd ((↑i:Int)>0)==true)=true from(by subst v1 v2 v3 v4 v5 v6 v7 v8 v9 v10 v11 v0;rw[hi]<;>rfl)) (.c (show(Qd ((↑i:Int)>0)==true)=true from(by subst v1 v2 v3 v4 v5 v6 v7 v8 v9 v10 v11 v0;rw[hi]<;>rfl)) (.c (show(Qd ((↑i:Int)>0)==true)=true from(by subst v1 v2 v3 v4 v5 v6 v7 v8 v9 v10 v11 v0;rw[hi]<;>rfl)) (.c (show(Qd ((↑i:Int)>0)==true)=true from(by subst v1 v2 v3 v4 v5 v6 v7 v8 v9 v10 v11 v0;rw[hi]<;>rfl)) (.c hp (.c (show(Qd ((↑i:Int)>0)==true)=true from(by subst v1 v2 v3 v4 v5 v6 v7 v8 v9 v10 v11 v0;rw[hi]<;>rfl)) (.c (show(Qd ((↑i:Int)>0)==true)=true from(by subst v1 v2 v3 v4 v5 v6 v7 v8 v9 v10 v11 v0;rw[hi]<;>rfl)) (.c (show(Qd ((↑i:Int)>0)==true)=true from(by subst v1 v2 v3 v4 v5 v6 v7 v8 v9 v10 v11 v0;rw[hi]<;>rfl)) (.c (show(Qd ((↑i:Int)>0)==true)=true from(by subst v1 v2 v3 v4 v5 v6 v7 v8 v9 v10 v11 v0;rw[hi]<;>rfl)) (.c (@hcp (vJ lst e b)) (.c (show(Qd ((↑i:Int)>0)==true)=true from(by subst v1 v2 v3 v4 v5 v6 v7 v8 v9 v10 v11 v0;rw[hi]<;>rfl)) (.c (pkt (bool (Qd (c≥0))) (bool false) hi) (.c (show(Qd (c≥0)==false)=true from(by subst v1 v2 v3 v4 v5 v6 v7 v8 v9 v10 v11 v0;rw[hq1]<;>rfl)) (.c (show(Qd (c≥0)==false)=true from(by subst v1 v2 v3 v4 v5 v6 v7 v8 v9 v10 v11 v0;rw[hq1]<;>rfl)) (.c (show(Qd (c≥0)==false)=true from(by subst v1 v2 v3 v4 v5 v6 v7 v8 v9 v10 v11 v0;rw[hq1]<;>rfl)) (.c (show(Qd (c≥0)==false)=true from(by subst v1 v2 v3 v4 v5 v6 v7 v8 v9 v10 v11 v0;rw[hq1]<;>rfl)) (.c (show(Qd (b.no>0)==true)=false from(by subst v1 v2 v3 v4 v5 v6 v7 v8 v9 v10 v11 v0;rw[hq2]<;>rfl)) (.c (show(Qd (b.no>0)==true)=false from(by subst v1 v2 v3 v4 v5 v6 v7 v8 v9 v10 v11 v0;rw[hq2]<;>rfl)) (.c (show(Qd (b.no>0)==true)=false from(by subst v1 v2 v3 v4 v5 v6 v7 v8 v9 v10 v11 v0;rw[hq2]<;>rfl)) (.c (show(Qd (b.no>0)==true)=false from(by subst v1 v2 v3 v4 v5 v6 v7 v8 v9 v10 v11 v0;rw[hq2]<;>rfl)) (.c (show(Qd (b.no>0)==true)=false from(by subst v1 v2 v3 v4 v5 v6 v7 v8 v9 v10 v11 v0;rw[hq2]<;>rfl)) (.c (show(Qd (b.no>0)==true)=false from(by subst v1 v2 v3 v4 v5 v6 v7 v8 v9 v10 v11 v0;rw[hq2]<;>rfl)) (.er false (.er false (.er false (.er false (.er false (.c (show(Qd (b.no>0)==true)=false from(by subst v1 v2 v3 v4 v5 v6 v7 v8 v9 v10 v11 v0;rw[hq2]<;>rfl)) (.c (show(Qd (c≥0)==false)=true from(by subst v1 v2 v3 v4 v5 v6 v7 v8 v9 v10 v11 v0;rw[hq1]<;>rfl)) (.c (pkf (EK (DS (DF {toList:=[]}))) (bool false) hq2) (.c (pkf (bool true) (bool false) hq1) (.er false (.c hc (.c (show ft Di (vJ lst e b) 28 (evalD Γ0 [aa l,Gb,Gb,.ref (.ptr 0 0),int (↑i:Int),.ref (.ptr 1 0),.ref (.ptr 2 0),.ref (.ptr 3 0),aa l,int (↑(Dl l):Int),int (↑i:Int),bool (Qd ((↑i:Int)<(↑(Dl l):Int))),int (↑i:Int),Ii [vi e.time,vi e.campus,vi e.no,vi e.kind,vi e.stu,vi e.obj,vi e.term,vi e.val,vi e.frm,vi e.til,vs e.text,vi e.sec.id,vi e.sec.course,vi e.sec.term,vi e.sec.campus,vi e.sec.seats,Dw v8,Dw v9,Dw v10,DS (DE e.sec.lab),vi e.req.campus,vi e.req.no,vi e.req.st,vi e.req.kind,vi e.req.time,Dw v11,vi e.req.gsec,vi e.req.glab,vi e.req.key,vi e.r,vi e.s],Dy v0,.ref (.ptr 1 0),Dy v1,.ref (.ptr 2 1),int e.campus,.ref (.ptr 0 (0+Dz e.campus*3)),Dy v7,int (↑i:Int),bool (Qd ((↑i:Int)>0)),bool (Qd ((↑i:Int)>0)),aa l,int (↑i:Int),int (Ds Dk ((↑i:Int) - 1)),Ii [vi p.time,vi p.campus,vi p.no,vi p.kind,vi p.stu,vi p.obj,vi p.term,vi p.val,vi p.frm,vi p.til,vs p.text,vi p.sec.id,vi p.sec.course,vi p.sec.term,vi p.sec.campus,vi p.sec.seats,Dw v3,Dw v4,Dw v5,DS (DE p.sec.lab),vi p.req.campus,vi p.req.no,vi p.req.st,vi p.req.kind,vi p.req.time,Dw v6,vi p.req.gsec,vi p.req.glab,vi p.req.key,vi p.r,vi p.s],Ii [vi p.time,vi p.campus,vi p.no,vi p.kind,vi p.stu,vi p.obj,vi p.term,vi p.val,vi p.frm,vi p.til,vs p.text,vi p.sec.id,vi p.sec.course,vi p.sec.term,vi p.sec.campus,vi p.sec.seats,Dw v3,Dw v4,Dw v5,DS (DE p.sec.lab),vi p.req.campus,vi p.req.no,vi p.req.st,vi p.req.kind,vi p.req.time,Dw v6,vi p.req.gsec,vi p.req.glab,vi p.req.key,vi p.r,vi p.s],Dy [int p.time,int p.campus,int p.no],Dy v1,int c,bool (Qd (c≥0)),bool (Qd (c≥0)),bool (Qd (c≥0)),.ref (.ptr 3 2),int b.no,bool (Qd (b.no>0)),bool (Qd (b.no>0)),EK (DS (DF {toList:=[]})),EK (DS (DF {toList:=[]})),EK (DS (DF {toList:=[]})),EK (DS (DF {toList:=[]})),EK (DS (DF {toList:=[]})),EK (DS (DF {toList:=[]})),EK (DS (DF {toList:=[]})),EK (DS (DF {toList:=[]})),EK (DS (DF {toList:=[]})),EK (DS (DF {toList:=[]})),EK (DS (DF {toList:=[]})),EK (DS (DF {toList:=[]})),bool false,bool false,.ref (.ptr 2 1),int e.campus,Dy v1,.ref (.ptr 0 (0+Dz e.campus*3)),Gb] (DD 56)) (evalD Γ0 [aa l,Gb,Gb,.ref (.ptr 0 0),int (↑i:Int),.ref (.ptr 1 0),.ref (.ptr 2 0),.ref (.ptr 3 0),aa l,int (↑(Dl l):Int),int (↑i:Int),bool (Qd ((↑i:Int)<(↑(Dl l):Int))),int (↑i:Int),Ii [vi e.time,vi e.campus,vi e.no,vi e.kind,vi e.stu,vi e.obj,vi e.term,vi e.val,vi e.frm,vi e.til,vs e.text,vi e.sec.id,vi e.sec.course,vi e.sec.term,vi e.sec.campus,vi e.sec.seats,Dw v8,Dw v9,Dw v10,DS (DE e.sec.lab),vi e.req.campus,vi e.req.no,vi e.req.st,vi e.req.kind,vi e.req.time,Dw v11,vi e.req.gsec,vi e.req.glab,vi e.req.key,vi e.r,vi e.s],Dy v0,.ref (.ptr 1 0),Dy v1,.ref (.ptr 2 1),int e.campus,.ref (.ptr 0 (0+Dz e.campus*3)),Dy v7,int (↑i:Int),bool (Qd ((↑i:Int)>0)),bool (Qd ((↑i:Int)>0)),aa l,int (↑i:Int),int (Ds Dk ((↑i:Int) - 1)),Ii [vi p.time,vi p.campus,vi p.no,vi p.kind,vi p.stu,vi p.obj,vi p.term,vi p.val,vi p.frm,vi p.til,vs p.text,vi p.sec.id,vi p.sec.course,vi p.sec.term,vi p.sec.campus,vi p.sec.seats,Dw v3,Dw v4,Dw v5,DS (DE p.sec.lab),vi p.req.campus,vi p.req.no,vi p.req.st,vi p.req.kind,vi p.req.time,Dw v6,vi p.req.gsec,vi p.req.glab,vi p.req.key,vi p.r,vi p.s],Ii [vi p.time,vi p.campus,vi p.no,vi p.kind,vi p.stu,vi p.obj,vi p.term,vi p.val,vi p.frm,vi p.til,vs p.text,vi p.sec.id,vi p.sec.course,vi p.sec.term,vi p.sec.campus,vi p.sec.seats,Dw v3,Dw v4,Dw v5,DS (DE p.sec.lab),vi p.req.campus,vi p.req.no,vi p.req.st,vi p.req.kind,vi p.req.time,Dw v6,vi p.req.gsec,vi p.req.glab,vi p.req.key,vi p.r,vi p.s],Dy [int p.time,int p.campus,int p.no],Dy v1,int c,bool (Qd (c≥0)),bool (Qd (c≥0)),bool (Qd (c≥0)),.ref (.ptr 3 2),int b.no,bool (Qd (b.no>0)),bool (Qd (b.no>0)),EK (DS (DF {toList:=[]})),EK (DS (DF {toList:=[]})),EK (DS (DF {toList:=[]})),EK (DS (DF {toList:=[]})),EK (DS (DF {toList:=[]})),EK (DS (DF {toList:=[]})),EK (DS (DF {toList:=[]})),EK (DS (DF {toList:=[]})),EK (DS (DF {toList:=[]})),EK (DS (DF {toList:=[]})),EK (DS (DF {toList:=[]})),EK (DS (DF {toList:=[]})),bool false,bool false,.ref (.ptr 2 1),int e.campus,Dy v1,.ref (.ptr 0 (0+Dz e.campus*3)),Gb] (DD 55))=some [.var v2,.var v0,.var [int (EntT.st e).time,int (EntT.st e).campus,int (EntT.st e).no],.var v7] from ?_) (.c (show D6 1 (.var v2)=true from ?_) .n))))))))))))))))))))))))))))))))))))))) (by subst v1 v2 v3 v4 v5 v6 v7 v8 v9 v10 v11 v0;first|rfl|(rw[hw]<;>rfl)) (by subst v1 v2 v3 v4 v5 v6 v7 v8 v9 v10 v11 v0;first|rfl|(rw[hw]<;>rfl))<;>subst v1 v2 v3 v4 v5 v6 v7 v8 v9 v10 v11 v0<;>(first|assumption|rfl|exact iL _ _|exact tA rfl hb (by simp[hn])|exact tB (b:=e.st) rfl (Dq.1 hb).1 (by simp[hn]))
noncomputable abbrev Bs(lst:List StT)(e:EntT)(b:StT):List Blk:=[.var (Ei (stA lst)),.var [int e.time,int e.campus,int e.no,int e.kind,int e.stu,int e.obj,int e.term,int e.val,int e.frm,int e.til,ax e.text,int e.sec.id,int e.sec.course,int e.sec.term,int e.sec.campus,int e.sec.seats,aa (Dh DA e.sec.mts),aa (Dh Dx e.sec.grs),aa (Dh ab e.sec.labs),bool e.sec.lab,int e.req.campus,int e.req.no,int e.req.st,int e.req.kind,int e.req.time,aa (Dh Dn e.req.chs),int e.req.gsec,int e.req.glab,int e.req.key,int e.r,int e.s],.var [int e.time,int e.campus,int e.no],.var [int b.time,int b.campus,int b.no]]
theorem fi_C{l:List (List Dp)}{lst:List StT}{e:EntT}{b:StT}{n:Nat}{p:EntT}{c:Int}{i:Nat}(hr:ad (i:Int) l e.row 31)(hlt:Qd ((i:Int)<(l.length:Int))=true)(hp:ad (Ds Dk ((i:Int) - 1)) l p.row 31)(hcp:∀h,Ev Di Γ0 43 [.agg [int p.time,int p.campus,int p.no],.agg [int e.time,int e.campus,int e.no]] h (int c) h)(hc:inR e.campus 7=true)(hn:e.campus.toNat=n)(hb:lst[n]? = some b)(hi:Qd ((i:Int)>0)=true)(hq1:Qd (c≥0)=false)(hq2:Qd (b.no>0)=true)(hq3:Qd (b.time≥e.time)=true):(CW Di Γ0 [] false (sub Gj 0) (fiS l lst i) .ret (fiX lst)):=by
 refine zX {t:=mkT 58 0 [(2,bool false)],h:=[.var (Ei (stA lst))],m:=[]} Ee [.st (.mask [2]),.st (.trimV 1)] [.b true,.row [vi e.time,vi e.campus,vi e.no,vi e.kind,vi e.stu,vi e.obj,vi e.term,vi e.val,vi e.frm,vi e.til,vs e.text,vi e.sec.id,vi e.sec.course,vi e.sec.term,vi e.sec.campus,vi e.sec.seats,Dw (Dh DA e.sec.mts),Dw (Dh Dx e.sec.grs),Dw (Dh ab e.sec.labs),DS (DE e.sec.lab),vi e.req.campus,vi e.req.no,vi e.req.st,vi e.req.kind,vi e.req.time,Dw (Dh Dn e.req.chs),vi e.req.gsec,vi e.req.glab,vi e.req.key,vi e.r,vi e.s],.ov 20 (ag (FP b)),.g true,.g true,.g true,.g true,.row [vi p.time,vi p.campus,vi p.no,vi p.kind,vi p.stu,vi p.obj,vi p.term,vi p.val,vi p.frm,vi p.til,vs p.text,vi p.sec.id,vi p.sec.course,vi p.sec.term,vi p.sec.campus,vi p.sec.seats,Dw (Dh DA p.sec.mts),Dw (Dh Dx p.sec.grs),Dw (Dh ab p.sec.labs),DS (DE p.sec.lab),vi p.req.campus,vi p.req.no,vi p.req.st,vi p.req.kind,vi p.req.time,Dw (Dh Dn p.req.chs),vi p.req.gsec,vi p.req.glab,vi p.req.key,vi p.r,vi p.s],.g true,.g true,.g true,.g true,.val (int c),.g true,.ov 33 (bool (Qd (c≥0))),.g true,.g true,.g true,.g true,.g true,.g true,.g true,.g true,.g true,.g true,.g false,.g false,.g false,.g false,.g false,.g true,.ov 50 (bool true),.g true,.ov 51 (bool true),.ov 52 (bool true),.b true] (.c hlt (.c hr (.c hc (.c (show bw Di [.var (Ei (stA lst)),.var [int e.time,int e.campus,int e.no,int e.kind,int e.stu,int e.obj,int e.term,int e.val,int e.frm,int e.til,ax e.text,int e.sec.id,int e.sec.course,int e.sec.term,int e.sec.campus,int e.sec.seats,aa (Dh DA e.sec.mts),aa (Dh Dx e.sec.grs),aa (Dh ab e.sec.labs),bool e.sec.lab,int e.req.campus,int e.req.no,int e.req.st,int e.req.kind,int e.req.time,aa (Dh Dn e.req.chs),int e.req.gsec,int e.req.glab,int e.req.key,int e.r,int e.s],.var [int e.time,int e.campus,int e.no]] 28 (.ref (.ptr 0 (0+Dz e.campus*3)))=some (Dy [int b.time,int b.campus,int b.no]) from ?_) (.c (show(Qd ((↑i:Int)>0)==true)=true from(by rw[hi]<;>rfl)) (.c (show(Qd ((↑i:Int)>0)==true)=true from(by rw[hi]<;>rfl)) (.c (show(Qd ((↑i:Int)>0)==true)=true from(by rw[hi]<;>rfl)) (.c (show(Qd ((↑i:Int)>0)==true)=true from(by rw[hi]<;>rfl)) (.c hp (.c (show(Qd ((↑i:Int)>0)==true)=true from(by rw[hi]<;>rfl)) (.c (show(Qd ((↑i:Int)>0)==true)=true from(by rw[hi]<;>rfl)) (.c (show(Qd ((↑i:Int)>0)==true)=true from(by rw[hi]<;>rfl)) (.c (show(Qd ((↑i:Int)>0)==true)=true from(by rw[hi]<;>rfl)) (.c (@hcp (Bs lst e b)) (.c (show(Qd ((↑i:Int)>0)==true)=true from(by rw[hi]<;>rfl)) (.c (pkt (bool (Qd (c≥0))) (bool false) hi) (.c (show(Qd (c≥0)==false)=true from(by rw[hq1]<;>rfl)) (.c (show(Qd (c≥0)==false)=true from(by rw[hq1]<;>rfl)) (.c (show(Qd (c≥0)==false)=true from(by rw[hq1]<;>rfl)) (.c (show(Qd (c≥0)==false)=true from(by rw[hq1]<;>rfl)) (.c (show(Qd (b.no>0)==true)=true from(by rw[hq2]<;>rfl)) (.c (show(Qd (b.no>0)==true)=true from(by rw[hq2]<;>rfl)) (.c (show(Qd (b.no>0)==true)=true from(by rw[hq2]<;>rfl)) (.c (show(Qd (b.no>0)==true)=true from(by rw[hq2]<;>rfl)) (.c (show(Qd (b.no>0)==true)=true from(by rw[hq2]<;>rfl)) (.c (show(Qd (b.no>0)==true)=true from(by rw[hq2]<;>rfl)) (.c (show(Qd (b.time≥e.time)==false)=false from(by rw[hq3]<;>rfl)) (.c (show(Qd (b.time≥e.time)==false)=false from(by rw[hq3]<;>rfl)) (.c (show(Qd (b.time≥e.time)==false)=false from(by rw[hq3]<;>rfl)) (.c (show(Qd (b.time≥e.time)==false)=false from(by rw[hq3]<;>rfl)) (.c (show(Qd (b.time≥e.time)==false)=false from(by rw[hq3]<;>rfl)) (.c (show(Qd (b.no>0)==true)=true from(by rw[hq2]<;>rfl)) (.c (pkt (bool true) (EK (DS (DF {toList:=[]}))) hq3) (.c (show(Qd (c≥0)==false)=true from(by rw[hq1]<;>rfl)) (.c (pkt (bool true) (bool false) hq2) (.c (show dB (bool (Qd (c≥0))) (bool true) (bool true) (bool true) from(by first|exact nd hq1 rfl|exact jv hq1 rfl)) (.er true (.c (show D6 1 (.var (Ei (stA lst)))=true from ?_) .n)))))))))))))))))))))))))))))))))))))) (by first|rfl|(rw[hw]<;>rfl)) (by first|rfl|(rw[hw]<;>rfl))<;>(first|assumption|rfl|exact iL _ _|exact tA rfl hb (by simp[hn])|exact tB (b:=e.st) rfl (Dq.1 hb).1 (by simp[hn]))
noncomputable abbrev Bt(lst:List StT)(e:EntT)(b:StT):List Blk:=[.var (Ei (stA lst)),.var [int e.time,int e.campus,int e.no,int e.kind,int e.stu,int e.obj,int e.term,int e.val,int e.frm,int e.til,ax e.text,int e.sec.id,int e.sec.course,int e.sec.term,int e.sec.campus,int e.sec.seats,aa (Dh DA e.sec.mts),aa (Dh Dx e.sec.grs),aa (Dh ab e.sec.labs),bool e.sec.lab,int e.req.campus,int e.req.no,int e.req.st,int e.req.kind,int e.req.time,aa (Dh Dn e.req.chs),int e.req.gsec,int e.req.glab,int e.req.key,int e.r,int e.s],.var [int e.time,int e.campus,int e.no],.var [int b.time,int b.campus,int b.no]]
theorem fi_D{l:List (List Dp)}{lst:List StT}{e:EntT}{b:StT}{n:Nat}{p:EntT}{c:Int}{i:Nat}(hr:ad (i:Int) l e.row 31)(hlt:Qd ((i:Int)<(l.length:Int))=true)(hp:ad (Ds Dk ((i:Int) - 1)) l p.row 31)(hcp:∀h,Ev Di Γ0 43 [.agg [int p.time,int p.campus,int p.no],.agg [int e.time,int e.campus,int e.no]] h (int c) h)(hc:inR e.campus 7=true)(hn:e.campus.toNat=n)(hb:lst[n]? = some b)(hi:Qd ((i:Int)>0)=true)(hq1:Qd (c≥0)=false)(hq2:Qd (b.no>0)=true)(hq3:Qd (b.time≥e.time)=false)(hq4:Qd (b.no≥e.no)=true):(CW Di Γ0 [] false (sub Gj 0) (fiS l lst i) .ret (fiX lst)):=by
 refine zX {t:=mkT 58 0 [(2,bool false)],h:=[.var (Ei (stA lst))],m:=[]} Ee [.st (.mask [2]),.st (.trimV 1)] [.b true,.row [vi e.time,vi e.campus,vi e.no,vi e.kind,vi e.stu,vi e.obj,vi e.term,vi e.val,vi e.frm,vi e.til,vs e.text,vi e.sec.id,vi e.sec.course,vi e.sec.term,vi e.sec.campus,vi e.sec.seats,Dw (Dh DA e.sec.mts),Dw (Dh Dx e.sec.grs),Dw (Dh ab e.sec.labs),DS (DE e.sec.lab),vi e.req.campus,vi e.req.no,vi e.req.st,vi e.req.kind,vi e.req.time,Dw (Dh Dn e.req.chs),vi e.req.gsec,vi e.req.glab,vi e.req.key,vi e.r,vi e.s],.ov 20 (ag (FP b)),.g true,.g true,.g true,.g true,.row [vi p.time,vi p.campus,vi p.no,vi p.kind,vi p.stu,vi p.obj,vi p.term,vi p.val,vi p.frm,vi p.til,vs p.text,vi p.sec.id,vi p.sec.course,vi p.sec.term,vi p.sec.campus,vi p.sec.seats,Dw (Dh DA p.sec.mts),Dw (Dh Dx p.sec.grs),Dw (Dh ab p.sec.labs),DS (DE p.sec.lab),vi p.req.campus,vi p.req.no,vi p.req.st,vi p.req.kind,vi p.req.time,Dw (Dh Dn p.req.chs),vi p.req.gsec,vi p.req.glab,vi p.req.key,vi p.r,vi p.s],.g true,.g true,.g true,.g true,.val (int c),.g true,.ov 33 (bool (Qd (c≥0))),.g true,.g true,.g true,.g true,.g true,.g true,.g true,.g true,.g true,.g true,.g true,.g true,.g true,.g true,.g true,.g true,.ov 50 (bool (Qd (b.no≥e.no))),.g true,.ov 51 (bool (Qd (b.no≥e.no))),.ov 52 (bool (Qd (b.no≥e.no))),.b true] (.c hlt (.c hr (.c hc (.c (show bw Di [.var (Ei (stA lst)),.var [int e.time,int e.campus,int e.no,int e.kind,int e.stu,int e.obj,int e.term,int e.val,int e.frm,int e.til,ax e.text,int e.sec.id,int e.sec.course,int e.sec.term,int e.sec.campus,int e.sec.seats,aa (Dh DA e.sec.mts),aa (Dh Dx e.sec.grs),aa (Dh ab e.sec.labs),bool e.sec.lab,int e.req.campus,int e.req.no,int e.req.st,int e.req.kind,int e.req.time,aa (Dh Dn e.req.chs),int e.req.gsec,int e.req.glab,int e.req.key,int e.r,int e.s],.var [int e.time,int e.campus,int e.no]] 28 (.ref (.ptr 0 (0+Dz e.campus*3)))=some (Dy [int b.time,int b.campus,int b.no]) from ?_) (.c (show(Qd ((↑i:Int)>0)==true)=true from(by rw[hi]<;>rfl)) (.c (show(Qd ((↑i:Int)>0)==true)=true from(by rw[hi]<;>rfl)) (.c (show(Qd ((↑i:Int)>0)==true)=true from(by rw[hi]<;>rfl)) (.c (show(Qd ((↑i:Int)>0)==true)=true from(by rw[hi]<;>rfl)) (.c hp (.c (show(Qd ((↑i:Int)>0)==true)=true from(by rw[hi]<;>rfl)) (.c (show(Qd ((↑i:Int)>0)==true)=true from(by rw[hi]<;>rfl)) (.c (show(Qd ((↑i:Int)>0)==true)=true from(by rw[hi]<;>rfl)) (.c (show(Qd ((↑i:Int)>0)==true)=true from(by rw[hi]<;>rfl)) (.c (@hcp (Bt lst e b)) (.c (show(Qd ((↑i:Int)>0)==true)=true from(by rw[hi]<;>rfl)) (.c (pkt (bool (Qd (c≥0))) (bool false) hi) (.c (show(Qd (c≥0)==false)=true from(by rw[hq1]<;>rfl)) (.c (show(Qd (c≥0)==false)=true from(by rw[hq1]<;>rfl)) (.c (show(Qd (c≥0)==false)=true from(by rw[hq1]<;>rfl)) (.c (show(Qd (c≥0)==false)=true from(by rw[hq1]<;>rfl)) (.c (show(Qd (b.no>0)==true)=true from(by rw[hq2]<;>rfl)) (.c (show(Qd (b.no>0)==true)=true from(by rw[hq2]<;>rfl)) (.c (show(Qd (b.no>0)==true)=true from(by rw[hq2]<;>rfl)) (.c (show(Qd (b.no>0)==true)=true from(by rw[hq2]<;>rfl)) (.c (show(Qd (b.no>0)==true)=true from(by rw[hq2]<;>rfl)) (.c (show(Qd (b.no>0)==true)=true from(by rw[hq2]<;>rfl)) (.c (show(Qd (b.time≥e.time)==false)=true from(by rw[hq3]<;>rfl)) (.c (show(Qd (b.time≥e.time)==false)=true from(by rw[hq3]<;>rfl)) (.c (show(Qd (b.time≥e.time)==false)=true from(by rw[hq3]<;>rfl)) (.c (show(Qd (b.time≥e.time)==false)=true from(by rw[hq3]<;>rfl)) (.c (show(Qd (b.time≥e.time)==false)=true from(by rw[hq3]<;>rfl)) (.c (show(Qd (b.no>0)==true)=true from(by rw[hq2]<;>rfl)) (.c (pkf (bool true) (bool (Qd (b.no≥e.no))) hq3) (.c (show(Qd (c≥0)==false)=true from(by rw[hq1]<;>rfl)) (.c (pkt (bool (Qd (b.no≥e.no))) (bool false) hq2) (.c (pkf (bool true) (bool (Qd (b.no≥e.no))) hq1) (.c hq4 (.c (show D6 1 (.var (Ei (stA lst)))=true from ?_) .n)))))))))))))))))))))))))))))))))))))) (by first|rfl|(rw[hw]<;>rfl)) (by first|rfl|(rw[hw]<;>rfl))<;>(first|assumption|rfl|exact iL _ _|exact tA rfl hb (by simp[hn])|exact tB (b:=e.st) rfl (Dq.1 hb).1 (by simp[hn]))
noncomputable abbrev vK(lst:List StT)(e:EntT)(b:StT):List Blk:=[.var (Ei (stA lst)),.var [int e.time,int e.campus,int e.no,int e.kind,int e.stu,int e.obj,int e.term,int e.val,int e.frm,int e.til,ax e.text,int e.sec.id,int e.sec.course,int e.sec.term,int e.sec.campus,int e.sec.seats,aa (Dh DA e.sec.mts),aa (Dh Dx e.sec.grs),aa (Dh ab e.sec.labs),bool e.sec.lab,int e.req.campus,int e.req.no,int e.req.st,int e.req.kind,int e.req.time,aa (Dh Dn e.req.chs),int e.req.gsec,int e.req.glab,int e.req.key,int e.r,int e.s],.var [int e.time,int e.campus,int e.no],.var [int b.time,int b.campus,int b.no]]
theorem fi_E{l:List (List Dp)}{lst:List StT}{e:EntT}{b:StT}{n:Nat}{p:EntT}{c:Int}{i:Nat}(hr:ad (i:Int) l e.row 31)(hlt:Qd ((i:Int)<(l.length:Int))=true)(hp:ad (Ds Dk ((i:Int) - 1)) l p.row 31)(hcp:∀h,Ev Di Γ0 43 [.agg [int p.time,int p.campus,int p.no],.agg [int e.time,int e.campus,int e.no]] h (int c) h)(hc:inR e.campus 7=true)(hn:e.campus.toNat=n)(hb:lst[n]? = some b)(hi:Qd ((i:Int)>0)=true)(hq1:Qd (c≥0)=false)(hq2:Qd (b.no>0)=true)(hq3:Qd (b.time≥e.time)=false)(hq4:Qd (b.no≥e.no)=false)(hw:Dk.wrap ((i:Int)+1)=((i+1:Nat):Int)):(CW Di Γ0 [] false (sub Gj 0) (fiS l lst i) .normal (fiS l (lst.set n e.st) ((i+1:Nat):Int))):=by
 let v1:List D:=[int e.time,int e.campus,int e.no]
 let v2:=Ei (stA (List.set lst n (EntT.st e)))
 let v3:=Dh DA p.sec.mts
 let v4:=Dh Dx p.sec.grs
 let v5:=Dh ab p.sec.labs
 let v6:=Dh Dn p.req.chs
 let v7:List D:=[int b.time,int b.campus,int b.no]
 let v8:=Dh DA e.sec.mts
 let v9:=Dh Dx e.sec.grs
 let v10:=Dh ab e.sec.labs
 let v11:=Dh Dn e.req.chs
 let v0:List D:=[int e.time,int e.campus,int e.no,int e.kind,int e.stu,int e.obj,int e.term,int e.val,int e.frm,int e.til,ax e.text,int e.sec.id,int e.sec.course,int e.sec.term,int e.sec.campus,int e.sec.seats,aa v8,aa v9,aa v10,bool e.sec.lab,int e.req.campus,int e.req.no,int e.req.st,int e.req.kind,int e.req.time,aa v11,int e.req.gsec,int e.req.glab,int e.req.key,int e.r,int e.s]
 refine zX {t:=mkT 58 0 [(0,aa l),(3,.ref (.ptr 0 0)),(8,aa l),(9,int (↑(Dl l):Int)),(10,int (Ds Dk ((↑i:Int)+1)))],h:=[.var v2],m:=[]} DZ [.st (.mask [0,3,8,9,10]),.st (.trimV 1)] [.b true,.row [vi e.time,vi e.campus,vi e.no,vi e.kind,vi e.stu,vi e.obj,vi e.term,vi e.val,vi e.frm,vi e.til,vs e.text,vi e.sec.id,vi e.sec.course,vi e.sec.term,vi e.sec.campus,vi e.sec.seats,Dw v8,Dw v9,Dw v10,DS (DE e.sec.lab),vi e.req.campus,vi e.req.no,vi e.req.st,vi e.req.kind,vi e.req.time,Dw v11,vi e.req.gsec,vi e.req.glab,vi e.req.key,vi e.r,vi e.s],.ov 20 (ag (FP b)),.g true,.g true,.g true,.g true,.row [vi p.time,vi p.campus,vi p.no,vi p.kind,vi p.stu,vi p.obj,vi p.term,vi p.val,vi p.frm,vi p.til,vs p.text,vi p.sec.id,vi p.sec.course,vi p.sec.term,vi p.sec.campus,vi p.sec.seats,Dw v3,Dw v4,Dw v5,DS (DE p.sec.lab),vi p.req.campus,vi p.req.no,vi p.req.st,vi p.req.kind,vi p.req.time,Dw v6,vi p.req.gsec,vi p.req.glab,vi p.req.key,vi p.r,vi p.s],.g true,.g true,.g true,.g true,.val (int c),.g true,.ov 33 (bool (Qd (c≥0))),.g true,.g true,.g true,.g true,.g true,.g true,.g true,.g true,.g true,.g true,.g true,.g true,.g true,.g true,.g true,.g true,.ov 50 (bool (Qd (b.no≥e.no))),.g true,.ov 51 (bool (Qd (b.no≥e.no))),.ov 52 (bool (Qd (b.no≥e.no))),.b false,.oh 10056 Gb [.var v2,.var (Dh EK (Dt e)),.var (Dh EK (FP (EntT.st e))),.var (Dh EK (FP b))]] (.c hlt (.c hr (.c hc (.c (show bw Di [.var (Ei (stA lst)),.var v0,.var v1] 28 (.ref (.ptr 0 (0+Dz e.campus*3)))=some (Dy v7) from ?_) (.c (show(Qd ((↑i:Int)>0)==true)=true from(by subst v1 v2 v3 v4 v5 v6 v7 v8 v9 v10 v11 v0;rw[hi]<;>rfl)) (.c (show(Qd ((↑i:Int)>0)==true)=true from(by subst v1 v2 v3 v4 v5 v6 v7 v8 v9 v10 v11 v0;rw[hi]<;>rfl)) (.c (show(Qd ((↑i:Int)>0)==true)=true from(by subst v1 v2 v3 v4 v5 v6 v7 v8 v9 v10 v11 v0;rw[hi]<;>rfl)) (.c (show(Qd ((↑i:Int)>0)==true)=true from(by subst v1 v2 v3 v4 v5 v6 v7 v8 v9 v10 v11 v0;rw[hi]<;>rfl)) (.c hp (.c (show(Qd ((↑i:Int)>0)==true)=true from(by subst v1 v2 v3 v4 v5 v6 v7 v8 v9 v10 v11 v0;rw[hi]<;>rfl)) (.c (show(Qd ((↑i:Int)>0)==true)=true from(by subst v1 v2 v3 v4 v5 v6 v7 v8 v9 v10 v11 v0;rw[hi]<;>rfl)) (.c (show(Qd ((↑i:Int)>0)==true)=true from(by subst v1 v2 v3 v4 v5 v6 v7 v8 v9 v10 v11 v0;rw[hi]<;>rfl)) (.c (show(Qd ((↑i:Int)>0)==true)=true from(by subst v1 v2 v3 v4 v5 v6 v7 v8 v9 v10 v11 v0;rw[hi]<;>rfl)) (.c (@hcp (vK lst e b)) (.c (show(Qd ((↑i:Int)>0)==true)=true from(by subst v1 v2 v3 v4 v5 v6 v7 v8 v9 v10 v11 v0;rw[hi]<;>rfl)) (.c (pkt (bool (Qd (c≥0))) (bool false) hi) (.c (show(Qd (c≥0)==false)=true from(by subst v1 v2 v3 v4 v5 v6 v7 v8 v9 v10 v11 v0;rw[hq1]<;>rfl)) (.c (show(Qd (c≥0)==false)=true from(by subst v1 v2 v3 v4 v5 v6 v7 v8 v9 v10 v11 v0;rw[hq1]<;>rfl)) (.c (show(Qd (c≥0)==false)=true from(by subst v1 v2 v3 v4 v5 v6 v7 v8 v9 v10 v11 v0;rw[hq1]<;>rfl)) (.c (show(Qd (c≥0)==false)=true from(by subst v1 v2 v3 v4 v5 v6 v7 v8 v9 v10 v11 v0;rw[hq1]<;>rfl)) (.c (show(Qd (b.no>0)==true)=true from(by subst v1 v2 v3 v4 v5 v6 v7 v8 v9 v10 v11 v0;rw[hq2]<;>rfl)) (.c (show(Qd (b.no>0)==true)=true from(by subst v1 v2 v3 v4 v5 v6 v7 v8 v9 v10 v11 v0;rw[hq2]<;>rfl)) (.c (show(Qd (b.no>0)==true)=true from(by subst v1 v2 v3 v4 v5 v6 v7 v8 v9 v10 v11 v0;rw[hq2]<;>rfl)) (.c (show(Qd (b.no>0)==true)=true from(by subst v1 v2 v3 v4 v5 v6 v7 v8 v9 v10 v11 v0;rw[hq2]<;>rfl)) (.c (show(Qd (b.no>0)==true)=true from(by subst v1 v2 v3 v4 v5 v6 v7 v8 v9 v10 v11 v0;rw[hq2]<;>rfl)) (.c (show(Qd (b.no>0)==true)=true from(by subst v1 v2 v3 v4 v5 v6 v7 v8 v9 v10 v11 v0;rw[hq2]<;>rfl)) (.c (show(Qd (b.time≥e.time)==false)=true from(by subst v1 v2 v3 v4 v5 v6 v7 v8 v9 v10 v11 v0;rw[hq3]<;>rfl)) (.c (show(Qd (b.time≥e.time)==false)=true from(by subst v1 v2 v3 v4 v5 v6 v7 v8 v9 v10 v11 v0;rw[hq3]<;>rfl)) (.c (show(Qd (b.time≥e.time)==false)=true from(by subst v1 v2 v3 v4 v5 v6 v7 v8 v9 v10 v11 v0;rw[hq3]<;>rfl)) (.c (show(Qd (b.time≥e.time)==false)=true from(by subst v1 v2 v3 v4 v5 v6 v7 v8 v9 v10 v11 v0;rw[hq3]<;>rfl)) (.c (show(Qd (b.time≥e.time)==false)=true from(by subst v1 v2 v3 v4 v5 v6 v7 v8 v9 v10 v11 v0;rw[hq3]<;>rfl)) (.c (show(Qd (b.no>0)==true)=true from(by subst v1 v2 v3 v4 v5 v6 v7 v8 v9 v10 v11 v0;rw[hq2]<;>rfl)) (.c (pkf (bool true) (bool (Qd (b.no≥e.no))) hq3) (.c (show(Qd (c≥0)==false)=true from(by subst v1 v2 v3 v4 v5 v6 v7 v8 v9 v10 v11 v0;rw[hq1]<;>rfl)) (.c (pkt (bool (Qd (b.no≥e.no))) (bool false) hq2) (.c (pkf (bool true) (bool (Qd (b.no≥e.no))) hq1) (.c hq4 (.c hc (.c (show ft Di (vK lst e b) 28 (evalD Γ0 [aa l,Gb,Gb,.ref (.ptr 0 0),int (↑i:Int),.ref (.ptr 1 0),.ref (.ptr 2 0),.ref (.ptr 3 0),aa l,int (↑(Dl l):Int),int (↑i:Int),bool (Qd ((↑i:Int)<(↑(Dl l):Int))),int (↑i:Int),Ii [vi e.time,vi e.campus,vi e.no,vi e.kind,vi e.stu,vi e.obj,vi e.term,vi e.val,vi e.frm,vi e.til,vs e.text,vi e.sec.id,vi e.sec.course,vi e.sec.term,vi e.sec.campus,vi e.sec.seats,Dw v8,Dw v9,Dw v10,DS (DE e.sec.lab),vi e.req.campus,vi e.req.no,vi e.req.st,vi e.req.kind,vi e.req.time,Dw v11,vi e.req.gsec,vi e.req.glab,vi e.req.key,vi e.r,vi e.s],Dy v0,.ref (.ptr 1 0),Dy v1,.ref (.ptr 2 1),int e.campus,.ref (.ptr 0 (0+Dz e.campus*3)),Dy v7,int (↑i:Int),bool (Qd ((↑i:Int)>0)),bool (Qd ((↑i:Int)>0)),aa l,int (↑i:Int),int (Ds Dk ((↑i:Int) - 1)),Ii [vi p.time,vi p.campus,vi p.no,vi p.kind,vi p.stu,vi p.obj,vi p.term,vi p.val,vi p.frm,vi p.til,vs p.text,vi p.sec.id,vi p.sec.course,vi p.sec.term,vi p.sec.campus,vi p.sec.seats,Dw v3,Dw v4,Dw v5,DS (DE p.sec.lab),vi p.req.campus,vi p.req.no,vi p.req.st,vi p.req.kind,vi p.req.time,Dw v6,vi p.req.gsec,vi p.req.glab,vi p.req.key,vi p.r,vi p.s],Ii [vi p.time,vi p.campus,vi p.no,vi p.kind,vi p.stu,vi p.obj,vi p.term,vi p.val,vi p.frm,vi p.til,vs p.text,vi p.sec.id,vi p.sec.course,vi p.sec.term,vi p.sec.campus,vi p.sec.seats,Dw v3,Dw v4,Dw v5,DS (DE p.sec.lab),vi p.req.campus,vi p.req.no,vi p.req.st,vi p.req.kind,vi p.req.time,Dw v6,vi p.req.gsec,vi p.req.glab,vi p.req.key,vi p.r,vi p.s],Dy [int p.time,int p.campus,int p.no],Dy v1,int c,bool (Qd (c≥0)),bool (Qd (c≥0)),bool (Qd (c≥0)),.ref (.ptr 3 2),int b.no,bool (Qd (b.no>0)),bool (Qd (b.no>0)),.ref (.ptr 3 0),int b.time,.ref (.ptr 2 0),int e.time,bool (Qd (b.time≥e.time)),bool (Qd (b.time≥e.time)),.ref (.ptr 3 2),int b.no,.ref (.ptr 2 2),int e.no,bool (Qd (b.no≥e.no)),bool (Qd (b.no≥e.no)),bool (Qd (b.no≥e.no)),bool (Qd (b.no≥e.no)),.ref (.ptr 2 1),int e.campus,Dy v1,.ref (.ptr 0 (0+Dz e.campus*3)),Gb] (DD 56)) (evalD Γ0 [aa l,Gb,Gb,.ref (.ptr 0 0),int (↑i:Int),.ref (.ptr 1 0),.ref (.ptr 2 0),.ref (.ptr 3 0),aa l,int (↑(Dl l):Int),int (↑i:Int),bool (Qd ((↑i:Int)<(↑(Dl l):Int))),int (↑i:Int),Ii [vi e.time,vi e.campus,vi e.no,vi e.kind,vi e.stu,vi e.obj,vi e.term,vi e.val,vi e.frm,vi e.til,vs e.text,vi e.sec.id,vi e.sec.course,vi e.sec.term,vi e.sec.campus,vi e.sec.seats,Dw v8,Dw v9,Dw v10,DS (DE e.sec.lab),vi e.req.campus,vi e.req.no,vi e.req.st,vi e.req.kind,vi e.req.time,Dw v11,vi e.req.gsec,vi e.req.glab,vi e.req.key,vi e.r,vi e.s],Dy v0,.ref (.ptr 1 0),Dy v1,.ref (.ptr 2 1),int e.campus,.ref (.ptr 0 (0+Dz e.campus*3)),Dy v7,int (↑i:Int),bool (Qd ((↑i:Int)>0)),bool (Qd ((↑i:Int)>0)),aa l,int (↑i:Int),int (Ds Dk ((↑i:Int) - 1)),Ii [vi p.time,vi p.campus,vi p.no,vi p.kind,vi p.stu,vi p.obj,vi p.term,vi p.val,vi p.frm,vi p.til,vs p.text,vi p.sec.id,vi p.sec.course,vi p.sec.term,vi p.sec.campus,vi p.sec.seats,Dw v3,Dw v4,Dw v5,DS (DE p.sec.lab),vi p.req.campus,vi p.req.no,vi p.req.st,vi p.req.kind,vi p.req.time,Dw v6,vi p.req.gsec,vi p.req.glab,vi p.req.key,vi p.r,vi p.s],Ii [vi p.time,vi p.campus,vi p.no,vi p.kind,vi p.stu,vi p.obj,vi p.term,vi p.val,vi p.frm,vi p.til,vs p.text,vi p.sec.id,vi p.sec.course,vi p.sec.term,vi p.sec.campus,vi p.sec.seats,Dw v3,Dw v4,Dw v5,DS (DE p.sec.lab),vi p.req.campus,vi p.req.no,vi p.req.st,vi p.req.kind,vi p.req.time,Dw v6,vi p.req.gsec,vi p.req.glab,vi p.req.key,vi p.r,vi p.s],Dy [int p.time,int p.campus,int p.no],Dy v1,int c,bool (Qd (c≥0)),bool (Qd (c≥0)),bool (Qd (c≥0)),.ref (.ptr 3 2),int b.no,bool (Qd (b.no>0)),bool (Qd (b.no>0)),.ref (.ptr 3 0),int b.time,.ref (.ptr 2 0),int e.time,bool (Qd (b.time≥e.time)),bool (Qd (b.time≥e.time)),.ref (.ptr 3 2),int b.no,.ref (.ptr 2 2),int e.no,bool (Qd (b.no≥e.no)),bool (Qd (b.no≥e.no)),bool (Qd (b.no≥e.no)),bool (Qd (b.no≥e.no)),.ref (.ptr 2 1),int e.campus,Dy v1,.ref (.ptr 0 (0+Dz e.campus*3)),Gb] (DD 55))=some [.var v2,.var v0,.var [int (EntT.st e).time,int (EntT.st e).campus,int (EntT.st e).no],.var v7] from ?_) (.c (show D6 1 (.var v2)=true from ?_) .n)))))))))))))))))))))))))))))))))))))))) (by subst v1 v2 v3 v4 v5 v6 v7 v8 v9 v10 v11 v0;first|rfl|(rw[hw]<;>rfl)) (by subst v1 v2 v3 v4 v5 v6 v7 v8 v9 v10 v11 v0;first|rfl|(rw[hw]<;>rfl))<;>subst v1 v2 v3 v4 v5 v6 v7 v8 v9 v10 v11 v0<;>(first|assumption|rfl|exact iL _ _|exact tA rfl hb (by simp[hn])|exact tB (b:=e.st) rfl (Dq.1 hb).1 (by simp[hn]))
theorem Bu{l:List (List Dp)}{lst:List StT}{i:Nat}(hlt:Qd ((i:Int)<(l.length:Int))=false):(CW Di Γ0 [] false (sub Gj 0) (fiS l lst i) (.exit 0) (fiE lst)):=by
 exact zx [.st (.mask [])] [.b false] (.c hlt .n)
def z7:List StT:=[⟨0,0,0⟩,⟨0,0,0⟩,⟨0,0,0⟩,⟨0,0,0⟩,⟨0,0,0⟩,⟨0,0,0⟩,⟨0,0,0⟩]
def fiF(e:StT)(s:List StT×Option StT):(List StT×Option StT)⊕List StT :=
 match (match s.2 with|none=>false|some p=>Qd (bc p e≥0))||fiB (s.1.getD e.campus.toNat ⟨0,0,0⟩) e with
 | true=>.inr s.1
 | false=>.inl (s.1.set e.campus.toNat e,some e)
structure FiInv (l:List EntT) (j:Nat) (s:List StT×Option StT):Prop where
 n:s.1.length=7
 z:j=0→s.1=z7∧s.2=none
 p:∀i,j=i+1→∃e,l[i]? = some e∧s.2=some e.st
theorem inR7{n:Int}(h0:0≤n)(h7:n<7):inR n 7=true:=by simp[inR];omega
theorem Bw{l:List EntT}(hs:ai l)(hv:∀e∈l,0≤e.campus∧e.campus<7):CW Di Γ0 [] false (.loop (sub Gj 0)) (fiS (l.map Dt) z7 0)
  (af (.exit 0) (fun a:List StT×Option StT=>fiE a.1) (fun a:List StT=>(.ret,fiX a)) (forL (fun e:EntT=>fiF e.st) l (z7,none))).1 (af (.exit 0) (fun a:List StT×Option StT=>fiE a.1) (fun a:List StT=>(.ret,fiX a)) (forL (fun e:EntT=>fiF e.st) l (z7,none))).2:=by
 refine CW.each l (fun e:EntT=>fiF e.st) (fun j a=>fiS (l.map Dt) a.1 (j:Int)) (.exit 0) _ _ (FiInv l) (by simp) (fun _=>by simp) ?_ ?_ (z7,none) ⟨rfl,fun _=>⟨rfl,rfl⟩,fun i h=>by omega⟩
 ·intro j e a hj I
  have hlt:=(Dq.1 hj).1
  have hm:e∈l:=D1 hj
  have ⟨c0,c7⟩:=hv e hm
  have hc:=inR7 c0 c7
  have hr:=rowAt (row:=Dt) (sz:=31) hj rfl
  have hlt2:=lt_len Dt hlt
  have hw:=wrap_succ hlt hs
  have hb:a.1[e.campus.toNat]? = some (a.1.getD e.campus.toNat ⟨0,0,0⟩):=by
   rw[List.getD,List.getElem?_eq_getElem (by rw[I.n];omega)];rfl
  generalize hB:a.1.getD e.campus.toNat ⟨0,0,0⟩=b at hb
  have hB':a.1.getD e.st.campus.toNat ⟨0,0,0⟩=b:=hB
  refine⟨fun a' ha=>?_,?_⟩
  ·unfold fiF at ha
   split at ha
   ·cases ha
   ·cases ha
    exact⟨by simp[I.n],fun h=>by omega,fun i h=>⟨e,by rw[←show j=i by omega];exact hj,rfl⟩⟩
  ·cases j with
   | zero =>
    obtain⟨h1,h2⟩:=I.z rfl
    have hbz:b=⟨0,0,0⟩:=by
     rw[←hB,h1]
     have:e.campus.toNat=0∨e.campus.toNat=1∨e.campus.toNat=2∨e.campus.toNat=3∨e.campus.toNat=4∨e.campus.toNat=5∨e.campus.toNat=6:=by omega
     rcases this with h|h|h|h|h|h|h<;>rw[h]<;>rfl
    have e1:fiF e.st a=.inl (a.1.set e.campus.toNat e.st,some e.st):=by
     unfold fiF
     rw[h2,hB',hbz]
     rfl
    rw[e1]
    exact fi_0 hr hlt2 hc rfl hb (by rw[hbz];rfl)
   | succ i =>
    obtain⟨p,hp,hp2⟩:=I.p i rfl
    have hlp:=(Dq.1 hp).1
    have hwp:Ds Dk (((i+1:Nat):Int) - 1)=((i:Nat):Int):=by
     have:ai l:=hs
     unfold ai at this
     rw[wrap_i64 (by omega) (by omega)];omega
    have hrp:ad (Ds Dk (((i+1:Nat):Int) - 1)) (l.map Dt) p.row 31:=by
     rw[hwp]
     exact rowAt (row:=Dt) (sz:=31) hp rfl
    have hcp:∀h,Ev Di Γ0 43 [.agg [int p.time,int p.campus,int p.no],.agg [int e.time,int e.campus,int e.no]] h (int (bc p.st e.st)) h:=fun h=>cJ (a:=p.st) (b:=e.st) h
    have hi:Qd (((i+1:Nat):Int)>0)=true:=by simp only[decide_eq_true_eq];omega
    have eF:fiF e.st a=match Qd (bc p.st e.st≥0)||fiB b e.st with|true=>.inr a.1|false=>.inl (a.1.set e.campus.toNat e.st,some e.st):=by
     unfold fiF
     rw[hp2,hB']
     rfl
    rw[eF]
    unfold fiB
    cases q1:Qd (bc p.st e.st≥0) with
    | true=>exact fi_A hr hlt2 hrp hcp hc rfl hb hi q1
    | false =>
     cases q2:Qd (b.no>0) with
     | false=>exact fi_B hr hlt2 hrp hcp hc rfl hb hi q1 q2 hw
     | true =>
      cases q3:Qd (b.time≥e.st.time) with
      | true=>exact fi_C hr hlt2 hrp hcp hc rfl hb hi q1 q2 q3
      | false =>
       cases q4:Qd (b.no≥e.st.no) with
       | true=>exact fi_D hr hlt2 hrp hcp hc rfl hb hi q1 q2 q3 q4
       | false=>exact fi_E hr hlt2 hrp hcp hc rfl hb hi q1 q2 q3 q4 hw
 ·intro a _
  exact Bu (aY Dt l)
theorem fit_x{L:List (List Dp)}{lst:List StT}(hl:CW Di Γ0 [] false (.loop (sub Gj 0)) (fiS L z7 0) .ret (fiX lst))(h:List Blk):(Ev Di Γ0 27 [aa L] h (bool false) h):=by
 have hl0:=(@hl)
 exact z0 [.sum [0,3,8,9,10] (Ee) {t:=mkT 58 0 [(2,bool false)],h:=[.var (Ei (stA lst))],m:=[]}] (.c hl0 .n) h
theorem fit_o{L:List (List Dp)}{lst:List StT}(hl:CW Di Γ0 [] false (.loop (sub Gj 0)) (fiS L z7 0) (.exit 0) (fiE lst))(h:List Blk):(Ev Di Γ0 27 [aa L] h (bool true) h):=by
 have hl0:=(@hl)
 exact z0 [.sum [0,3,8,9,10] (DV 0) {t:=mkT 58 0 [],h:=[.var (Ei (stA lst))],m:=[]}] (.c hl0 .n) h
def pD(l:List EntT):Bool:=match forL (fun e:EntT=>fiF e.st) l (z7,none) with
 | .inl _=>true
 | .inr _=>false
theorem vL{l:List EntT}(hs:ai l)(hv:∀e∈l,0≤e.campus∧e.campus<7)(h:List Blk):Ev Di Γ0 27 [aa (l.map Dt)] h (bool (pD l)) h:=by
 have:=Bw hs hv
 unfold pD
 cases hf:forL (fun e:EntT=>fiF e.st) l (z7,none) with
 | inl a=>rw[hf] at this;exact fit_o this h
 | inr n=>rw[hf] at this;exact fit_x this h
abbrev lcS(l:List (List Dp))(i:Int):AS:={t:=mkT 23 0 [(0,aa l),(2,int 0),(8,aa l),(9,int (l.length:Int)),(10,int i)],h:=[],m:=[]}
noncomputable abbrev tC(e:EntT):List Blk:=[.var [int e.time,int e.campus,int e.no,int e.kind,int e.stu,int e.obj,int e.term,int e.val,int e.frm,int e.til,ax e.text,int e.sec.id,int e.sec.course,int e.sec.term,int e.sec.campus,int e.sec.seats,aa (Dh DA e.sec.mts),aa (Dh Dx e.sec.grs),aa (Dh ab e.sec.labs),bool e.sec.lab,int e.req.campus,int e.req.no,int e.req.st,int e.req.kind,int e.req.time,aa (Dh Dn e.req.chs),int e.req.gsec,int e.req.glab,int e.req.key,int e.r,int e.s]]
theorem Bx{l:List (List Dp)}{e:EntT}{i:Nat}(hr:ad (i:Int) l e.row 31)(hlt:Qd ((i:Int)<(l.length:Int))=true)(hw:Dk.wrap ((i:Int)+1)=((i+1:Nat):Int))(hck:∀h,Ev Di Γq 25 [ag e.row] h (int 0) h):(CW Di Γq [] false (sub HA 0) (lcS l i) .normal (lcS l ((i+1:Nat):Int))):=by
 refine zX {t:=mkT 23 0 [(0,aa l),(2,int 0),(8,aa l),(9,int (↑(Dl l):Int)),(10,int (Ds Dk ((↑i:Int)+1)))],h:=[],m:=[]} DZ [.st (.mask [0,2,8,9,10]),.st (.trim 0)] [.b true,.row [vi e.time,vi e.campus,vi e.no,vi e.kind,vi e.stu,vi e.obj,vi e.term,vi e.val,vi e.frm,vi e.til,vs e.text,vi e.sec.id,vi e.sec.course,vi e.sec.term,vi e.sec.campus,vi e.sec.seats,Dw (Dh DA e.sec.mts),Dw (Dh Dx e.sec.grs),Dw (Dh ab e.sec.labs),DS (DE e.sec.lab),vi e.req.campus,vi e.req.no,vi e.req.st,vi e.req.kind,vi e.req.time,Dw (Dh Dn e.req.chs),vi e.req.gsec,vi e.req.glab,vi e.req.key,vi e.r,vi e.s],.val (int 0),.b false] (.c hlt (.c hr (.c (@hck (tC e)) (.c (show(0 != 0)=false from rfl) .n)))) ?_ ?_<;>(first|rfl|(rw[hw]<;>rfl))
noncomputable abbrev vM(e:EntT):List Blk:=[.var [int e.time,int e.campus,int e.no,int e.kind,int e.stu,int e.obj,int e.term,int e.val,int e.frm,int e.til,ax e.text,int e.sec.id,int e.sec.course,int e.sec.term,int e.sec.campus,int e.sec.seats,aa (Dh DA e.sec.mts),aa (Dh Dx e.sec.grs),aa (Dh ab e.sec.labs),bool e.sec.lab,int e.req.campus,int e.req.no,int e.req.st,int e.req.kind,int e.req.time,aa (Dh Dn e.req.chs),int e.req.gsec,int e.req.glab,int e.req.key,int e.r,int e.s]]
theorem lc_bad{l:List (List Dp)}{e:EntT}{i:Nat}{r:Int}(hr:ad (i:Int) l e.row 31)(hlt:Qd ((i:Int)<(l.length:Int))=true)(hck:∀h,Ev Di Γq 25 [ag e.row] h (int r) h)(hn:(r != 0)=true):(CW Di Γq [] false (sub HA 0) (lcS l i) .ret {t:=mkT 23 0 [(2,int r)],h:=[],m:=[]}):=by
 exact zx [.st (.mask [2]),.st (.trim 0)] [.b true,.row [vi e.time,vi e.campus,vi e.no,vi e.kind,vi e.stu,vi e.obj,vi e.term,vi e.val,vi e.frm,vi e.til,vs e.text,vi e.sec.id,vi e.sec.course,vi e.sec.term,vi e.sec.campus,vi e.sec.seats,Dw (Dh DA e.sec.mts),Dw (Dh Dx e.sec.grs),Dw (Dh ab e.sec.labs),DS (DE e.sec.lab),vi e.req.campus,vi e.req.no,vi e.req.st,vi e.req.kind,vi e.req.time,Dw (Dh Dn e.req.chs),vi e.req.gsec,vi e.req.glab,vi e.req.key,vi e.r,vi e.s],.val (int r),.b true] (.c hlt (.c hr (.c (@hck (vM e)) (.c hn .n))))
theorem Bz{l:List (List Dp)}{i:Nat}(hlt:Qd ((i:Int)<(l.length:Int))=false):(CW Di Γq [] false (sub HA 0) (lcS l i) (.exit 0) {t:=mkT 23 0 [(0,aa l)],h:=[],m:=[]}):=by
 exact zx [.st (.mask [0])] [.b false] (.c hlt .n)
def lcF(e:EntT)(_:Unit):Unit⊕Int:=match aH e != 0 with
 | true=>.inr (aH e)
 | false=>.inl ()
theorem BA{l:List EntT}(hs:ai l)(ho:∀e∈l,e.ok):CW Di Γq [] false (.loop (sub HA 0)) (lcS (l.map Dt) 0)
  (af (.exit 0) (fun _:Unit=>{t:=mkT 23 0 [(0,aa (l.map Dt))],h:=[],m:=[]}) (fun r:Int=>(.ret,{t:=mkT 23 0 [(2,int r)],h:=[],m:=[]})) (forL lcF l ())).1 (af (.exit 0) (fun _:Unit=>{t:=mkT 23 0 [(0,aa (l.map Dt))],h:=[],m:=[]}) (fun r:Int=>(.ret,{t:=mkT 23 0 [(2,int r)],h:=[],m:=[]})) (forL lcF l ())).2:=by
 refine CW.each l lcF (fun j _=>lcS (l.map Dt) (j:Int)) (.exit 0) _ _ (fun _ _=>True) (by simp) (fun _=>by simp) ?_ ?_ () trivial
 ·intro j e a hj _
  have hlt:=(Dq.1 hj).1
  have hr:=rowAt (row:=Dt) (sz:=31) hj rfl
  have hck:=fun h=>pC (ho e (D1 hj)) h
  refine⟨fun _ _=>trivial,?_⟩
  cases hb:aH e != 0 with
  | true =>
   have e1:lcF e a=.inr (aH e):=by unfold lcF;rw[hb]
   rw[e1]
   exact lc_bad hr (lt_len Dt hlt) hck hb
  | false =>
   have e1:lcF e a=.inl ():=by unfold lcF;rw[hb]
   rw[e1]
   have h0:aH e=0:=by simpa using hb
   rw[h0] at hck
   exact Bx hr (lt_len Dt hlt) (wrap_succ hlt hs) hck
 ·intro a _
  exact Bz (aY Dt l)
theorem BB{L:List (List Dp)}(hb:Qd ((L.length:Int)>65536)=true)(h:List Blk):(Ev Di Γq 12 [aa L] h (int 2) h):=by
 exact z0 [.b true] (.c hb .n) h
theorem led_r{L:List (List Dp)}{r:Int}(hb:Qd ((L.length:Int)>65536)=false)(hl:CW Di Γq [] false (.loop (sub HA 0)) (lcS L 0) .ret {t:=mkT 23 0 [(2,int r)],h:=[],m:=[]})(h:List Blk):(Ev Di Γq 12 [aa L] h (int r) h):=by
 have hl0:=(@hl)
 exact z0 [.b false,.sum [0,2,8,9,10] (Ee) {t:=mkT 23 0 [(2,int r)],h:=[],m:=[]}] (.c hb (.c hl0 .n)) h
theorem led_f{L:List (List Dp)}{f:Bool}(hb:Qd ((L.length:Int)>65536)=false)(hl:CW Di Γq [] false (.loop (sub HA 0)) (lcS L 0) (.exit 0) {t:=mkT 23 0 [(0,aa L)],h:=[],m:=[]})(hf:∀h,Ev Di Γ0 27 [aa L] h (bool f) h)(h:List Blk):(Ev Di Γq 12 [aa L] h (int (bif f then 0 else 390)) h):=by
 have hl0:=(@hl)
 cases hc1:!f
 ·exact zD (int 0) [.b false,.sum [0,2,8,9,10] (DV 0) {t:=mkT 23 0 [(0,aa L)],h:=[],m:=[]},.val (bool f),.b false] (.c hb (.c hl0 (.c (Ev.glob0 (Γ':=Γq) (@hf ([]))) (.c hc1 .n)))) h (by first|rfl|(cases f<;>simp_all))
 ·exact zD (int 390) [.b false,.sum [0,2,8,9,10] (DV 0) {t:=mkT 23 0 [(0,aa L)],h:=[],m:=[]},.val (bool f),.b true] (.c hb (.c hl0 (.c (Ev.glob0 (Γ':=Γq) (@hf ([]))) (.c hc1 .n)))) h (by first|rfl|(cases f<;>simp_all))
theorem kU{e:EntT}(h:aH e=0):fR e.st=0:=by
 unfold aH at h
 cases hb:(fR e.st != 0) with
 | true=>rw[hb] at h;exact h
 | false=>simpa using hb
theorem nI{s:StT}(h:fR s=0):(1≤s.time∧s.time≤1048576)∧(0≤s.campus∧s.campus<7)∧(1≤s.no∧s.no≤1048576):=by
 unfold fR at h
 cases hb:qv s with
 | true=>rw[hb] at h;simp at h
 | false =>
  simp[qv,inS] at hb
  omega
theorem nJ:∀{l:List EntT},(∃u,forL lcF l ()=.inl u)→∀e∈l,aH e=0
 | [],_,e,he=>by cases he
 | x::l,h,e,he=>by
  obtain⟨u,h⟩:=h
  unfold forL at h
  cases hb:aH x != 0 with
  | true=>simp only[lcF,hb] at h;cases h
  | false =>
   simp only[lcF,hb] at h
   cases he with
   | head=>simpa using hb
   | tail _ he=>exact nJ ⟨u,h⟩ e he
def bZ(l:List EntT):Int:=match Qd (((l.map Dt).length:Int)>65536) with
 | true=>2
 | false=>match forL lcF l () with
  | .inr r=>r
  | .inl _=>bif pD l then 0 else 390
theorem led_ev{l:List EntT}(hs:ai l)(ho:∀e∈l,e.ok)(h:List Blk):Ev Di Γq 12 [aa (l.map Dt)] h (int (bZ l)) h:=by
 unfold bZ
 cases hb:Qd (((l.map Dt).length:Int)>65536) with
 | true=>exact BB hb h
 | false =>
  have:=BA hs ho
  simp only
  cases hf:forL lcF l () with
  | inr r=>rw[hf] at this;exact led_r hb this h
  | inl u =>
   rw[hf] at this
   have hv:∀e∈l,0≤e.campus∧e.campus<7:=fun e he=>(nI (kU (nJ ⟨u,hf⟩ e he))).2.1
   exact led_f hb this (fun h=>vL hs hv h) h
def joV(l:List EntT):List (List D):=l.map fun e=>e.row.map .p
theorem BC(l:List EntT)(n:EntT):joV l++[n.row.map .p]=joV (l++[n]):=by simp[joV]
theorem cn(l:List EntT)(n:EntT):joV l++[[int n.time,int n.campus,int n.no,int n.kind,int n.stu,int n.obj,int n.term,int n.val,int n.frm,int n.til,ax n.text,int n.sec.id,int n.sec.course,int n.sec.term,int n.sec.campus,int n.sec.seats,aa (Dh DA n.sec.mts),aa (Dh Dx n.sec.grs),aa (Dh ab n.sec.labs),bool n.sec.lab,int n.req.campus,int n.req.no,int n.req.st,int n.req.kind,int n.req.time,aa (Dh Dn n.req.chs),int n.req.gsec,int n.req.glab,int n.req.key,int n.r,int n.s]]=joV (l++[n]):=BC l n
theorem joV_len(l:List EntT):(joV l).length=l.length:=by simp[joV]
theorem bl(f:Ref→D)(l:List EntT):(joV l).map (D.mapRL f)=joV l:=by
 unfold joV
 rw[List.map_map]
 rfl
theorem bm(n:Nat)(l:List EntT):(joV l).all (D.innL n)=true:=by
 unfold joV
 rw[List.all_map]
 exact List.all_eq_true.2 fun e _=>rfl
theorem vN(l:List EntT):joV l=(l.map Dt).map (·.map .p):=by simp[joV]
theorem xP{x:List EntT}{i:Nat}{l:EntT}(hx:x[i]? = some l):Db Di 28 (joV x) 1 1 i 0 (ag l.st.row):=by
 have e1:(joV x)[i]? = some (l.row.map .p):=by simp[joV,hx]
 unfold Db
 simp only[e1,if_true,GU]
 rfl
theorem sr{x:List EntT}{i:Nat}{l:EntT}(hx:x[i]? = some l):Db Di 46 (joV x) 1 1 i 0 (ag l.row):=by
 have e1:(joV x)[i]? = some (l.row.map .p):=by simp[joV,hx]
 unfold Db
 simp only[e1,if_true,GU]
 rfl
abbrev joT:List D:=mkT 45 0 [(4,.ref (.ptr 0 0)),(9,.fn (.func 83) [] [.ref (.ptr 1 0),.ref (.ptr 2 0)])]
noncomputable abbrev joL(f:FuncId)(st:LoopState):Blk:=.loop st none f joT #[10] (aM (sub DI 0)) (ap (sub DI 0))
noncomputable abbrev joH(f:FuncId)(A B:List (List Dp))(x:List EntT)(e:Nat)(st:LoopState)(more:List Blk):List Blk:=[.var [.ref (.vec 3 e)],.var [aa A],.var [aa B],.vec (joV x) e 31,.defd,joL f st]++more
abbrev joU:List D:=mkT 45 0 [(4,.ref (.ptr 0 0)),(5,.ref (.ptr 7 0))]
abbrev aO(n:EntT):Blk:=.var (n.row.map .p)
theorem ss{f:FuncId}{A B:List (List Dp)}{x:List EntT}{n:EntT}:(CW Di Γ0 (joH f A B x 1 .ready [aO n]) true (aM (sub DI 0)) {t:=dd joT [(10,ag n.row)],h:=joH f A B x 1 .ready [aO n],m:=[]} .normal {t:=joU,h:=joH f A B x 1 .ready [aO n,aO n],m:=[]}):=by
 let v0:List D:=[int n.time,int n.campus,int n.no,int n.kind,int n.stu,int n.obj,int n.term,int n.val,int n.frm,int n.til,ax n.text,int n.sec.id,int n.sec.course,int n.sec.term,int n.sec.campus,int n.sec.seats,aa (Dh DA n.sec.mts),aa (Dh Dx n.sec.grs),aa (Dh ab n.sec.labs),bool n.sec.lab,int n.req.campus,int n.req.no,int n.req.st,int n.req.kind,int n.req.time,aa (Dh Dn n.req.chs),int n.req.gsec,int n.req.glab,int n.req.key,int n.r,int n.s]
 exact zx [.st (.mask [4,5])] [] .n
theorem xQ{x:List EntT}{h:List Blk}{i:Nat}{l:EntT}(hx:x[i]? = some l)(hh:h[3]? = some (.vec (joV x) 1 31)):bw Di h 28 (.ref (.vp 3 1 i 0))=some (ag l.st.row):=by
 have e1:(joV x)[i]? = some (l.row.map .p):=by simp[joV,hx]
 unfold bw
 simp only[hh,e1,if_true,GU]
 rfl
theorem vO{x:List EntT}{h:List Blk}{i:Nat}{l:EntT}(hx:x[i]? = some l)(hh:h[3]? = some (.vec (joV x) 1 31)):bw Di h 46 (.ref (.vp 3 1 i 0))=some (ag l.row):=by
 have e1:(joV x)[i]? = some (l.row.map .p):=by simp[joV,hx]
 unfold bw
 simp only[hh,e1,if_true,GU]
 rfl
theorem kV{e:Int}(h:List Blk):(Ev Di Γ0 48 [bool true,int e] h (.tup []) h):=by
 exact z0 [.b false] (.c (show(!true)=false from rfl) .n) h
theorem jo_b0{f:FuncId}{A B:List (List Dp)}{x:List EntT}{l n:EntT}(hk:Qd (Dk.wrap (((joV x).length:Int) - 1)≥0)=false)(he:(Qd (Dk.wrap (((joV x).length:Int) - 1)≥0)&&(l.st.time==n.time&&(l.st.campus==n.campus&&(l.st.no==n.no&&true))))=false)(hl:x.length≤1000000):(CW Di Γ0 (joH f A B x 1 .ready [aO n]) true (ap (sub DI 0)) {t:=joU,h:=joH f A B x 1 .busy [aO n,aO n],m:=[]} .normal {t:=mkT 45 0 [],h:=joH f A B (x++[n]) 2 .busy [aO n],m:=[]}):=by
 let v0:List D:=[int n.time,int n.campus,int n.no,int n.kind,int n.stu,int n.obj,int n.term,int n.val,int n.frm,int n.til,ax n.text,int n.sec.id,int n.sec.course,int n.sec.term,int n.sec.campus,int n.sec.seats,aa (Dh DA n.sec.mts),aa (Dh Dx n.sec.grs),aa (Dh ab n.sec.labs),bool n.sec.lab,int n.req.campus,int n.req.no,int n.req.st,int n.req.kind,int n.req.time,aa (Dh Dn n.req.chs),int n.req.gsec,int n.req.glab,int n.req.key,int n.r,int n.s]
 let v1:List D:=[.ref (.ptr 1 0),.ref (.ptr 2 0)]
 refine zX {t:=mkT 45 0 [],h:=[.var [.ref (.vec 3 2)],.var [aa A],.var [aa B],.vec (joV x++[v0]) 2 31,.defd,.loop EY none f (mkT 45 0 [(4,.ref (.ptr 0 0)),(9,DW (DB 83) [] v1)]) {toList:=[10]} (aM (sub DI 0)) (ap (sub DI 0)),.var v0],m:=[]} DZ [.st (.mask []),.st (.trimV 7)] [.ov 21 (ag (FP (EntT.st l))),.b false] (.c (show Qd (Ds Dk ((↑(Dl (joV x)):Int) - 1)≥0)=true→inR (Ds Dk ((↑(Dl (joV x)):Int) - 1)) (Dl (joV x))=true from(fun hg=>?_)) (.c (show Qd (Ds Dk ((↑(Dl (joV x)):Int) - 1)≥0)=true→bw Di [.var [.ref (.vec 3 1)],.var [aa A],.var [aa B],.vec (joV x) 1 31,.defd,.loop EY none f (mkT 45 0 [(4,.ref (.ptr 0 0)),(9,DW (DB 83) [] v1)]) {toList:=[10]} (aM (sub DI 0)) (ap (sub DI 0)),.var v0,.var v0] 28 (evalD Γ0 (Dh c5 (mkT 45 0 [(4,.ref (.ptr 0 0)),(5,.ref (.ptr 7 0)),(6,int (Ds Dk ((↑(Dl (joV x)):Int) - 1))),(11,.ref (.vec 3 1)),(12,int (↑(Dl (joV x)):Int)),(13,int (Ds Dk ((↑(Dl (joV x)):Int) - 1))),(14,int (Ds Dk ((↑(Dl (joV x)):Int) - 1))),(15,bool (Qd (Ds Dk ((↑(Dl (joV x)):Int) - 1)≥0))),(16,bool (Qd (Ds Dk ((↑(Dl (joV x)):Int) - 1)≥0))),(17,FR (Qd (Ds Dk ((↑(Dl (joV x)):Int) - 1)≥0)) (.ref (.vec 3 1))),(18,FR (Qd (Ds Dk ((↑(Dl (joV x)):Int) - 1)≥0)) (int (Ds Dk ((↑(Dl (joV x)):Int) - 1)))),(19,FR (Qd (Ds Dk ((↑(Dl (joV x)):Int) - 1)≥0)) (.ref (.vp 3 1 (Dz (Ds Dk ((↑(Dl (joV x)):Int) - 1))) 0))),(20,FR (Qd (Ds Dk ((↑(Dl (joV x)):Int) - 1)≥0)) (.ref (.vp 3 1 (Dz (Ds Dk ((↑(Dl (joV x)):Int) - 1))) 0)))])) (DD 20))=some (Dy [int (EntT.st l).time,int (EntT.st l).campus,int (EntT.st l).no]) from(fun hg=>?_)) (.c he (.c (show(List.all [v0] (rowOk 31)&&roomOk (Dl (joV x)+Dl [v0]) 320)=true from ?_) (.c (show D6 7 (.var [.ref (.vec 3 2)])=true from rfl) (.c (show D6 7 (.var [aa A])=true from rfl) (.c (show D6 7 (.var [aa B])=true from rfl) (.c (show D6 7 (.vec (joV x++[v0]) 2 31)=true from ?_) (.c (show D6 7 .defd=true from rfl) (.c (show D6 7 (.loop EY none f (mkT 45 0 [(4,.ref (.ptr 0 0)),(9,DW (DB 83) [] v1)]) {toList:=[10]} (aM (sub DI 0)) (ap (sub DI 0)))=true from rfl) (.c (show D6 7 (.var v0)=true from rfl) .n))))))))))) (by subst v0 v1;first|rfl|(simp only[cn];first|done|rfl)) (by subst v0 v1;first|rfl|(simp only[cn];first|done|rfl))<;>subst v0 v1<;>(first|assumption|rfl|exact xP hx|exact sr hx|exact xQ hx rfl|exact vO hx rfl|exact bl _ _|exact bm _ _|(rw[cn];exact bl _ _)|(rw[cn];exact bm _ _)|(cases hk.symm.trans hg)|(simp[rowOk,D.one,Iu,roomOk,joV_len];omega))
theorem jo_b1{f:FuncId}{A B:List (List Dp)}{x:List EntT}{l n:EntT}(_hk:Qd (Dk.wrap (((joV x).length:Int) - 1)≥0)=true)(hi:inR (Dk.wrap (((joV x).length:Int) - 1)) (joV x).length=true)(hx:x[Dz (Dk.wrap (((joV x).length:Int) - 1))]? = some l)(he:(Qd (Dk.wrap (((joV x).length:Int) - 1)≥0)&&(l.st.time==n.time&&(l.st.campus==n.campus&&(l.st.no==n.no&&true))))=false)(hl:x.length≤1000000):(CW Di Γ0 (joH f A B x 1 .ready [aO n]) true (ap (sub DI 0)) {t:=joU,h:=joH f A B x 1 .busy [aO n,aO n],m:=[]} .normal {t:=mkT 45 0 [],h:=joH f A B (x++[n]) 2 .busy [aO n],m:=[]}):=by
 let v0:List D:=[int n.time,int n.campus,int n.no,int n.kind,int n.stu,int n.obj,int n.term,int n.val,int n.frm,int n.til,ax n.text,int n.sec.id,int n.sec.course,int n.sec.term,int n.sec.campus,int n.sec.seats,aa (Dh DA n.sec.mts),aa (Dh Dx n.sec.grs),aa (Dh ab n.sec.labs),bool n.sec.lab,int n.req.campus,int n.req.no,int n.req.st,int n.req.kind,int n.req.time,aa (Dh Dn n.req.chs),int n.req.gsec,int n.req.glab,int n.req.key,int n.r,int n.s]
 let v1:List D:=[.ref (.ptr 1 0),.ref (.ptr 2 0)]
 refine zX {t:=mkT 45 0 [],h:=[.var [.ref (.vec 3 2)],.var [aa A],.var [aa B],.vec (joV x++[v0]) 2 31,.defd,.loop EY none f (mkT 45 0 [(4,.ref (.ptr 0 0)),(9,DW (DB 83) [] v1)]) {toList:=[10]} (aM (sub DI 0)) (ap (sub DI 0)),.var v0],m:=[]} DZ [.st (.mask []),.st (.trimV 7)] [.ov 21 (ag (FP (EntT.st l))),.b false] (.c (show Qd (Ds Dk ((↑(Dl (joV x)):Int) - 1)≥0)=true→inR (Ds Dk ((↑(Dl (joV x)):Int) - 1)) (Dl (joV x))=true from(fun hg=>hi)) (.c (show Qd (Ds Dk ((↑(Dl (joV x)):Int) - 1)≥0)=true→bw Di [.var [.ref (.vec 3 1)],.var [aa A],.var [aa B],.vec (joV x) 1 31,.defd,.loop EY none f (mkT 45 0 [(4,.ref (.ptr 0 0)),(9,DW (DB 83) [] v1)]) {toList:=[10]} (aM (sub DI 0)) (ap (sub DI 0)),.var v0,.var v0] 28 (evalD Γ0 (Dh c5 (mkT 45 0 [(4,.ref (.ptr 0 0)),(5,.ref (.ptr 7 0)),(6,int (Ds Dk ((↑(Dl (joV x)):Int) - 1))),(11,.ref (.vec 3 1)),(12,int (↑(Dl (joV x)):Int)),(13,int (Ds Dk ((↑(Dl (joV x)):Int) - 1))),(14,int (Ds Dk ((↑(Dl (joV x)):Int) - 1))),(15,bool (Qd (Ds Dk ((↑(Dl (joV x)):Int) - 1)≥0))),(16,bool (Qd (Ds Dk ((↑(Dl (joV x)):Int) - 1)≥0))),(17,FR (Qd (Ds Dk ((↑(Dl (joV x)):Int) - 1)≥0)) (.ref (.vec 3 1))),(18,FR (Qd (Ds Dk ((↑(Dl (joV x)):Int) - 1)≥0)) (int (Ds Dk ((↑(Dl (joV x)):Int) - 1)))),(19,FR (Qd (Ds Dk ((↑(Dl (joV x)):Int) - 1)≥0)) (.ref (.vp 3 1 (Dz (Ds Dk ((↑(Dl (joV x)):Int) - 1))) 0))),(20,FR (Qd (Ds Dk ((↑(Dl (joV x)):Int) - 1)≥0)) (.ref (.vp 3 1 (Dz (Ds Dk ((↑(Dl (joV x)):Int) - 1))) 0)))])) (DD 20))=some (Dy [int (EntT.st l).time,int (EntT.st l).campus,int (EntT.st l).no]) from(fun hg=>?_)) (.c he (.c (show(List.all [v0] (rowOk 31)&&roomOk (Dl (joV x)+Dl [v0]) 320)=true from ?_) (.c (show D6 7 (.var [.ref (.vec 3 2)])=true from rfl) (.c (show D6 7 (.var [aa A])=true from rfl) (.c (show D6 7 (.var [aa B])=true from rfl) (.c (show D6 7 (.vec (joV x++[v0]) 2 31)=true from ?_) (.c (show D6 7 .defd=true from rfl) (.c (show D6 7 (.loop EY none f (mkT 45 0 [(4,.ref (.ptr 0 0)),(9,DW (DB 83) [] v1)]) {toList:=[10]} (aM (sub DI 0)) (ap (sub DI 0)))=true from rfl) (.c (show D6 7 (.var v0)=true from rfl) .n))))))))))) (by subst v0 v1;first|rfl|(simp only[cn];first|done|rfl)) (by subst v0 v1;first|rfl|(simp only[cn];first|done|rfl))<;>subst v0 v1<;>(first|assumption|rfl|exact xP hx|exact sr hx|exact xQ hx rfl|exact vO hx rfl|exact bl _ _|exact bm _ _|(rw[cn];exact bl _ _)|(rw[cn];exact bm _ _)|(simp[rowOk,D.one,Iu,roomOk,joV_len];omega))
noncomputable abbrev jJ(f:FuncId)(A:List (List Dp))(B:List (List Dp))(x:List EntT)(n:EntT):List Blk:=[.var [.ref (.vec 3 1)],.var [aa A],.var [aa B],.vec (joV x) 1 31,.defd,.loop EY none f (mkT 45 0 [(4,.ref (.ptr 0 0)),(9,DW (DB 83) [] [.ref (.ptr 1 0),.ref (.ptr 2 0)])]) {toList:=[10]} (aM (sub DI 0)) (ap (sub DI 0)),.var [int n.time,int n.campus,int n.no,int n.kind,int n.stu,int n.obj,int n.term,int n.val,int n.frm,int n.til,ax n.text,int n.sec.id,int n.sec.course,int n.sec.term,int n.sec.campus,int n.sec.seats,aa (Dh DA n.sec.mts),aa (Dh Dx n.sec.grs),aa (Dh ab n.sec.labs),bool n.sec.lab,int n.req.campus,int n.req.no,int n.req.st,int n.req.kind,int n.req.time,aa (Dh Dn n.req.chs),int n.req.gsec,int n.req.glab,int n.req.key,int n.r,int n.s],.var [int n.time,int n.campus,int n.no,int n.kind,int n.stu,int n.obj,int n.term,int n.val,int n.frm,int n.til,ax n.text,int n.sec.id,int n.sec.course,int n.sec.term,int n.sec.campus,int n.sec.seats,aa (Dh DA n.sec.mts),aa (Dh Dx n.sec.grs),aa (Dh ab n.sec.labs),bool n.sec.lab,int n.req.campus,int n.req.no,int n.req.st,int n.req.kind,int n.req.time,aa (Dh Dn n.req.chs),int n.req.gsec,int n.req.glab,int n.req.key,int n.r,int n.s]]
theorem jo_b2{f:FuncId}{A B:List (List Dp)}{x:List EntT}{l n:EntT}(_hk:Qd (Dk.wrap (((joV x).length:Int) - 1)≥0)=true)(hi:inR (Dk.wrap (((joV x).length:Int) - 1)) (joV x).length=true)(hx:x[Dz (Dk.wrap (((joV x).length:Int) - 1))]? = some l)(he:(Qd (Dk.wrap (((joV x).length:Int) - 1)≥0)&&(l.st.time==n.time&&(l.st.campus==n.campus&&(l.st.no==n.no&&true))))=true)(hsm:∀h,Ev Di Γ0 42 [ag l.row,ag n.row] h (bool true) h):(CW Di Γ0 (joH f A B x 1 .ready [aO n]) true (ap (sub DI 0)) {t:=joU,h:=joH f A B x 1 .busy [aO n,aO n],m:=[]} .normal {t:=mkT 45 0 [],h:=joH f A B x 2 .busy [aO n],m:=[]}):=by
 let v0:List D:=[int n.time,int n.campus,int n.no,int n.kind,int n.stu,int n.obj,int n.term,int n.val,int n.frm,int n.til,ax n.text,int n.sec.id,int n.sec.course,int n.sec.term,int n.sec.campus,int n.sec.seats,aa (Dh DA n.sec.mts),aa (Dh Dx n.sec.grs),aa (Dh ab n.sec.labs),bool n.sec.lab,int n.req.campus,int n.req.no,int n.req.st,int n.req.kind,int n.req.time,aa (Dh Dn n.req.chs),int n.req.gsec,int n.req.glab,int n.req.key,int n.r,int n.s]
 refine zx [.st (.mask []),.st (.ren 3 2),.st (.trimV 7)] [.ov 21 (ag (FP (EntT.st l))),.b true,.ov 29 (ag (Dt l)),.val (bool true),.val (D.tup [])] (.c (show Qd (Ds Dk ((↑(Dl (joV x)):Int) - 1)≥0)=true→inR (Ds Dk ((↑(Dl (joV x)):Int) - 1)) (Dl (joV x))=true from(fun hg=>hi)) (.c (show Qd (Ds Dk ((↑(Dl (joV x)):Int) - 1)≥0)=true→bw Di (jJ f A B x n) 28 (evalD Γ0 (Dh c5 (mkT 45 0 [(4,.ref (.ptr 0 0)),(5,.ref (.ptr 7 0)),(6,int (Ds Dk ((↑(Dl (joV x)):Int) - 1))),(11,.ref (.vec 3 1)),(12,int (↑(Dl (joV x)):Int)),(13,int (Ds Dk ((↑(Dl (joV x)):Int) - 1))),(14,int (Ds Dk ((↑(Dl (joV x)):Int) - 1))),(15,bool (Qd (Ds Dk ((↑(Dl (joV x)):Int) - 1)≥0))),(16,bool (Qd (Ds Dk ((↑(Dl (joV x)):Int) - 1)≥0))),(17,FR (Qd (Ds Dk ((↑(Dl (joV x)):Int) - 1)≥0)) (.ref (.vec 3 1))),(18,FR (Qd (Ds Dk ((↑(Dl (joV x)):Int) - 1)≥0)) (int (Ds Dk ((↑(Dl (joV x)):Int) - 1)))),(19,FR (Qd (Ds Dk ((↑(Dl (joV x)):Int) - 1)≥0)) (.ref (.vp 3 1 (Dz (Ds Dk ((↑(Dl (joV x)):Int) - 1))) 0))),(20,FR (Qd (Ds Dk ((↑(Dl (joV x)):Int) - 1)≥0)) (.ref (.vp 3 1 (Dz (Ds Dk ((↑(Dl (joV x)):Int) - 1))) 0)))])) (DD 20))=some (Dy [int (EntT.st l).time,int (EntT.st l).campus,int (EntT.st l).no]) from(fun hg=>?_)) (.c he (.c hi (.c (show bw Di (jJ f A B x n) 46 (.ref (.vp 3 1 (Dz (Ds Dk ((↑(Dl (joV x)):Int) - 1))) 0))=some (Dy [int l.time,int l.campus,int l.no,int l.kind,int l.stu,int l.obj,int l.term,int l.val,int l.frm,int l.til,ax l.text,int l.sec.id,int l.sec.course,int l.sec.term,int l.sec.campus,int l.sec.seats,aa (Dh DA l.sec.mts),aa (Dh Dx l.sec.grs),aa (Dh ab l.sec.labs),bool l.sec.lab,int l.req.campus,int l.req.no,int l.req.st,int l.req.kind,int l.req.time,aa (Dh Dn l.req.chs),int l.req.gsec,int l.req.glab,int l.req.key,int l.r,int l.s]) from ?_) (.c (@hsm (jJ f A B x n)) (.c (@kV 390 (jJ f A B x n)) (.c (show Dh (D.mapRL (lr 3 1 2)) (joV x)=joV x from ?_) (.c (show D6 7 (match 0==3 with|true=>.vec (joV x) 2 31|false=>keepX (lr 3 1 2) (.var [.ref (.vec 3 1)]))=true from rfl) (.c (show D6 7 (match 0+1==3 with|true=>.vec (joV x) 2 31|false=>keepX (lr 3 1 2) (.var [aa A]))=true from rfl) (.c (show D6 7 (match 0+1+1==3 with|true=>.vec (joV x) 2 31|false=>keepX (lr 3 1 2) (.var [aa B]))=true from rfl) (.c (show D6 7 (match 0+1+1+1==3 with|true=>.vec (joV x) 2 31|false=>keepX (lr 3 1 2) (.vec (joV x) 1 31))=true from ?_) (.c (show D6 7 (match 0+1+1+1+1==3 with|true=>.vec (joV x) 2 31|false=>keepX (lr 3 1 2) .defd)=true from rfl) (.c (show D6 7 (match 0+1+1+1+1+1==3 with|true=>.vec (joV x) 2 31|false=>keepX (lr 3 1 2) (.loop EY none f (mkT 45 0 [(4,.ref (.ptr 0 0)),(9,DW (DB 83) [] [.ref (.ptr 1 0),.ref (.ptr 2 0)])]) {toList:=[10]} (aM (sub DI 0)) (ap (sub DI 0))))=true from rfl) (.c (show D6 7 (match 0+1+1+1+1+1+1==3 with|true=>.vec (joV x) 2 31|false=>keepX (lr 3 1 2) (.var v0))=true from rfl) .n)))))))))))))))<;>subst v0<;>(first|assumption|rfl|exact xP hx|exact sr hx|exact xQ hx rfl|exact vO hx rfl|exact bl _ _|exact bm _ _|(rw[cn];exact bl _ _)|(rw[cn];exact bm _ _))
end Go.Vi
