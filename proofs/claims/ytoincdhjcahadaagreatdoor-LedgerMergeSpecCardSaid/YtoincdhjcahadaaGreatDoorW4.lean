/- LedgerMergeSpec: part of the proof: contracts of the functions that the law reaches, and the law. No conditions beyond the given statement's own. -/
import Derived.Test.YtoincdhjcahadaaGreatDoorW3
open Decidable renaming decide → Qd
open ByteArray renaming empty → Dm
open Go.Proofs.Tryz renaming prog → Cr, f76 → GG, f27 → Fo, f12 → GH, f33 → CO
open Nat renaming zero_le → G6
open Go.IntKind renaming i64 → Ct, wrap → Cz
open List renaming length → Cw, getElem?_eq_some_iff → Cx, flatten → Dn, map → Cq, mem_of_getElem? → Da, drop_zero → FY
open Go.Exit renaming normal → C7, ret → Dj, exit → C4
open Go.Vi.Blk renaming inn → Db
open Go.Vi.MeT renaming row → CE
open Go.Vi.GrT renaming row → CA
open Go.Vi.BuT renaming row → Cv
open Go.Vi.Dp renaming sl → CB, v → CZ
open Go.Value renaming bool → CI, tuple → CL, oneCell' → Fi
open Go.Vi.StT renaming row → EL
open Go.Vi.D renaming any → Fh, p → Ej, agg → CF, ep → Ho, fn → C5, grd → GI
open Go.Vi.EntT renaming row → CG
open Int renaming toNat → CQ
open Go.Operand renaming tmp → CK
open Go.LoopState renaming busy → D3
open Go.Fn renaming func → CH
open Go Go.Proofs
namespace Go.Vi
set_option maxHeartbeats 4000000
set_option maxRecDepth 100000
theorem Ev.argW{P:Program}{Γ:af}{f:FuncId}{args:List D}{h h':List Blk}{d:D}(he:Ev P Γ f (D.nilWL args) h d h'):Ev P Γ f args h d h':=fun O w l vs R ra=>he O w l vs R (gQ _ _ ra)
def SecT.zero:SecT:=⟨0,0,0,0,0,[],[],[],false⟩
def RqT.zero:RqT:=⟨0,0,0,0,0,[],0,0,0⟩
def EntT.bare(e:EntT):EntT:=⟨e.time,e.campus,e.no,e.kind,0,0,0,0,0,0,Dm,.zero,.zero,e.r,e.s⟩
def EntT.clr(e:EntT)(k:Int):EntT :=
 if k=1 then {e with frm:=0,til:=0,text:=Dm} else if k=2∨k=8 then {e with stu:=0,obj:=0,val:=0,term:=0} else if k=3∨k=5 then {e with stu:=0,obj:=0,val:=0,frm:=0,til:=0}
 else if k=4 then {e with stu:=0,obj:=0,val:=0,frm:=0,til:=0,term:=0} else if k=6 then {e with sec:=.zero} else if k=7 then {e with req:=.zero} else {e with term:=0}
def gradeR(e:EntT):Int:=mustR (inS e.stu 0 19999&&inS e.term 0 1023&&inS e.obj 0 4095&&pc e)
def tc(e:EntT)(k:Int):Int:=if k=1 then mustR (catB e) else if k=2 then gradeR e else if k=3∨k=5 then mustR (Aw e) else if k=4 then petR e else if k=6 then kO e.sec else if k=7 then kN e.req else if k=8 then ek ⟨e.val,e.stu,e.obj,e.term⟩ else mustR (inS e.term 0 1023)
def EntT.st(e:EntT):StT:=⟨e.time,e.campus,e.no⟩
def bz(e:EntT):Int:=match fU e.st != 0 with
 | true=>fU e.st
 | false=>if 1≤e.kind∧e.kind≤9 then enR 0 (b4 (e.clr e.kind) e.bare) (tc e e.kind) else 370
theorem AF(e:EntT)(h:List Blk):Ev Cr Γ0 39 [.agg [int e.time,int e.campus,int e.no]] h (int (fU e.st)) h:=wI (s:=e.st) h
theorem uY{e:EntT}(o:e.ok)(h:List Blk):Ev Cr Γq 25 [ag e.row] h (int (bz e)) h:=by
 have hst:=AF e
 show Ev Cr Γq 25 [.agg (aS e.kind e)] h (int (bz e)) h
 unfold bz
 cases hb:(fU e.st != 0) with
 | true=>exact en_st hst hb h
 | false =>
  have h0:fU e.st=0:=by simpa using hb
  rw[h0] at hst
  simp only
  by_cases hk:1≤e.kind∧e.kind≤9
  ·rw[if_pos hk]
   have hkk:e.kind=1∨e.kind=2∨e.kind=3∨e.kind=4∨e.kind=5∨e.kind=6∨e.kind=7∨e.kind=8∨e.kind=9:=by omega
   rcases hkk with hk|hk|hk|hk|hk|hk|hk|hk|hk
   ·have hsm:∀h,Ev Cr Γ0 42 [.agg (em e.kind e e.stu e.obj e.term e.val 0 0 Dm (ge e.sec) (rqD e.req.kind e.req)),.agg (ew e.kind e)] h (bool (b4 (e.clr 1) e.bare)) h:=fun h=>Ev.argW (du (a:=e.clr 1) (b:=e.bare) o.m o.g o.l o.c h)
    have hck:∀h,Ev Cr Γ0 57 [.agg (aS e.kind e)] h (int (tc e 1)) h:=fun h=>cat_ev h
    rw[hk] at hsm hck ⊢
    exact en1_a hst hsm hck h
   ·have hsm:∀h,Ev Cr Γ0 42 [.agg (em e.kind e 0 0 0 0 e.frm e.til e.text (ge e.sec) (rqD e.req.kind e.req)),.agg (ew e.kind e)] h (bool (b4 (e.clr 2) e.bare)) h:=fun h=>Ev.argW (du (a:=e.clr 2) (b:=e.bare) o.m o.g o.l o.c h)
    have hck:∀h,Ev Cr Γ0 60 [.agg (aS e.kind e)] h (int (tc e 2)) h:=fun h=>uU h
    rw[hk] at hsm hck ⊢
    exact en2_a hst hsm hck h
   ·have hsm:∀h,Ev Cr Γ0 42 [.agg (em e.kind e 0 0 e.term 0 0 0 e.text (ge e.sec) (rqD e.req.kind e.req)),.agg (ew e.kind e)] h (bool (b4 (e.clr 3) e.bare)) h:=fun h=>Ev.argW (du (a:=e.clr 3) (b:=e.bare) o.m o.g o.l o.c h)
    have hck:∀h,Ev Cr Γ0 61 [.agg (aS e.kind e)] h (int (tc e 3)) h:=fun h=>pf h
    rw[hk] at hsm hck ⊢
    exact en3_a hst hsm hck h
   ·have hsm:∀h,Ev Cr Γ0 42 [.agg (em e.kind e 0 0 0 0 0 0 e.text (ge e.sec) (rqD e.req.kind e.req)),.agg (ew e.kind e)] h (bool (b4 (e.clr 4) e.bare)) h:=fun h=>Ev.argW (du (a:=e.clr 4) (b:=e.bare) o.m o.g o.l o.c h)
    have hck:∀h,Ev Cr Γ0 63 [.agg (aS e.kind e)] h (int (tc e 4)) h:=fun h=>pet_ev h
    rw[hk] at hsm hck ⊢
    exact en4_a hst hsm hck h
   ·have hsm:∀h,Ev Cr Γ0 42 [.agg (em e.kind e 0 0 e.term 0 0 0 e.text (ge e.sec) (rqD e.req.kind e.req)),.agg (ew e.kind e)] h (bool (b4 (e.clr 5) e.bare)) h:=fun h=>Ev.argW (du (a:=e.clr 5) (b:=e.bare) o.m o.g o.l o.c h)
    have hck:∀h,Ev Cr Γ0 61 [.agg (aS e.kind e)] h (int (tc e 5)) h:=fun h=>pf h
    rw[hk] at hsm hck ⊢
    exact en5_a hst hsm hck h
   ·have hsm:∀h,Ev Cr Γ0 42 [.agg (em e.kind e e.stu e.obj e.term e.val e.frm e.til e.text b5 (rqD e.req.kind e.req)),.agg (ew e.kind e)] h (bool (b4 (e.clr 6) e.bare)) h:=fun h=>Ev.argW (du (a:=e.clr 6) (b:=e.bare) (G6 _) (G6 _) (G6 _) o.c h)
    have hck:∀h,Ev Cr Γq 65 [.agg (aS e.kind e)] h (int (tc e 6)) h:=fun h=>AD o.g o.l h
    rw[hk] at hsm hck ⊢
    exact en6_a hst hsm hck h
   ·have hsm:∀h,Ev Cr Γ0 42 [.agg (em e.kind e e.stu e.obj e.term e.val e.frm e.til e.text (ge e.sec) d6),.agg (ew e.kind e)] h (bool (b4 (e.clr 7) e.bare)) h:=fun h=>Ev.argW (du (a:=e.clr 7) (b:=e.bare) o.m o.g o.l (G6 _) h)
    have hck:∀h,Ev Cr Γq 68 [.agg (aS e.kind e)] h (int (tc e 7)) h:=fun h=>AE o.c h
    rw[hk] at hsm hck ⊢
    exact en7_a hst hsm hck h
   ·have hsm:∀h,Ev Cr Γ0 42 [.agg (em e.kind e 0 0 0 0 e.frm e.til e.text (ge e.sec) (rqD e.req.kind e.req)),.agg (ew e.kind e)] h (bool (b4 (e.clr 8) e.bare)) h:=fun h=>Ev.argW (du (a:=e.clr 8) (b:=e.bare) o.m o.g o.l o.c h)
    have hck:∀h,Ev Cr Γ0 70 [.agg (aS e.kind e)] h (int (tc e 8)) h:=fun h=>wW h
    rw[hk] at hsm hck ⊢
    exact en8_a hst hsm hck h
   ·have hsm:∀h,Ev Cr Γ0 42 [.agg (em e.kind e e.stu e.obj 0 e.val e.frm e.til e.text (ge e.sec) (rqD e.req.kind e.req)),.agg (ew e.kind e)] h (bool (b4 (e.clr 9) e.bare)) h:=fun h=>Ev.argW (du (a:=e.clr 9) (b:=e.bare) o.m o.g o.l o.c h)
    have hck:∀h,Ev Cr Γ0 72 [.agg (aS e.kind e)] h (int (tc e 9)) h:=fun h=>Ax h
    rw[hk] at hsm hck ⊢
    exact en9_a hst hsm hck h
  ·rw[if_neg hk]
   exact enN_a hk hst h
set_option maxHeartbeats 4000000
abbrev fsS(L:List (List Dp))(i:Int):AS:={t:=mkT 15 0 [(5,aa L),(6,int (L.length:Int)),(7,int i)],h:=[],m:=[]}
theorem AG{L:List (List Dp)}{i:Nat}(hr:ad (i:Int) L [vi 0] 1)(hlt:Qd ((i:Int)<(L.length:Int))=true)(hw:Ct.wrap ((i:Int)+1)=((i+1:Nat):Int)):(CW Cr Γ0 [] false (sub GG 0) (fsS L i) .normal (fsS L ((i+1:Nat):Int))):=by
 refine zX {t:=mkT 15 0 [(5,aa L),(6,int (↑(Cw L):Int)),(7,int (Cz Ct ((↑i:Int)+1)))],h:=[],m:=[]} C7 [.st (.mask [5,6,7])] [.b true,.row [vi 0],.b false] (.c hlt (.c hr (.c (show(0 != 0)=false from rfl) .n))) ?_ ?_<;>(first|rfl|(rw[hw]<;>rfl))
theorem fs_hit{L:List (List Dp)}{i:Nat}{n:Int}(hr:ad (i:Int) L [vi n] 1)(hlt:Qd ((i:Int)<(L.length:Int))=true)(hn:(n != 0)=true):(CW Cr Γ0 [] false (sub GG 0) (fsS L i) .ret {t:=mkT 15 0 [(2,int n)],h:=[],m:=[]}):=by
 exact zx [.st (.mask [2])] [.b true,.row [vi n],.b true] (.c hlt (.c hr (.c hn .n)))
theorem AH{L:List (List Dp)}{i:Nat}(hlt:Qd ((i:Int)<(L.length:Int))=false):(CW Cr Γ0 [] false (sub GG 0) (fsS L i) (.exit 0) {t:=mkT 15 0 [],h:=[],m:=[]}):=by
 exact zx [.st (.mask [])] [.b false] (.c hlt .n)
def fsF(n:Int)(_:Unit):Unit⊕Int:=match n != 0 with
 | true=>.inr n
 | false=>.inl ()
theorem AI{l:List Int}(hs:am l):CW Cr Γ0 [] false (.loop (sub GG 0)) (fsS (l.map ab) 0) (aj (.exit 0) (fun _:Unit=>{t:=mkT 15 0 [],h:=[],m:=[]}) (fun n:Int=>(.ret,{t:=mkT 15 0 [(2,int n)],h:=[],m:=[]})) (forL fsF l ())).1 (aj (.exit 0) (fun _:Unit=>{t:=mkT 15 0 [],h:=[],m:=[]}) (fun n:Int=>(.ret,{t:=mkT 15 0 [(2,int n)],h:=[],m:=[]})) (forL fsF l ())).2:=by
 refine CW.each l fsF (fun j _=>fsS (l.map ab) (j:Int)) (.exit 0) _ _ (fun _ _=>True) (by simp) (fun _=>by simp) ?_ ?_ () trivial
 ·intro j n a hj _
  have hlt:=(Cx.1 hj).1
  have hr:=rowAt (row:=ab) (sz:=1) hj rfl
  refine⟨fun _ _=>trivial,?_⟩
  cases hb:n != 0 with
  | true =>
   have e:fsF n a=.inr n:=by unfold fsF;rw[hb]
   rw[e]
   exact fs_hit hr (lt_len ab hlt) hb
  | false =>
   have e:fsF n a=.inl ():=by unfold fsF;rw[hb]
   rw[e]
   have h0:n=0:=by simpa using hb
   subst h0
   exact AG hr (lt_len ab hlt) (wrap_succ hlt hs)
 ·intro a _
  exact AH (a9 ab l)
theorem AJ{L:List (List Dp)}{n:Int}(hl:CW Cr Γ0 [] false (.loop (sub GG 0)) (fsS L 0) .ret {t:=mkT 15 0 [(2,int n)],h:=[],m:=[]})(h:List Blk):(Ev Cr Γ0 76 [aa L] h (int n) h):=by
 have hl0:=(@hl)
 exact z0 [.sum [5,6,7] (Dj) {t:=mkT 15 0 [(2,int n)],h:=[],m:=[]}] (.c hl0 .n) h
theorem AK{L:List (List Dp)}(hl:CW Cr Γ0 [] false (.loop (sub GG 0)) (fsS L 0) (.exit 0) {t:=mkT 15 0 [],h:=[],m:=[]})(h:List Blk):(Ev Cr Γ0 76 [aa L] h (int 0) h):=by
 have hl0:=(@hl)
 exact z0 [.sum [5,6,7] (C4 0) {t:=mkT 15 0 [],h:=[],m:=[]}] (.c hl0 .n) h
def gU(l:List Int):Int:=match forL fsF l () with
 | .inl _=>0
 | .inr n=>n
theorem w5{l:List Int}(hs:am l)(h:List Blk):Ev Cr Γ0 76 [aa (l.map ab)] h (int (gU l)) h:=by
 have:=AI hs
 unfold gU
 cases hf:forL fsF l () with
 | inl a=>rw[hf] at this;exact AK this h
 | inr n=>rw[hf] at this;exact AJ this h
theorem uZ(x y z:Int)(h:List Blk):Ev Cr Γ0 76 [aa [[vi x],[vi y],[vi z]]] h (int (gU [x,y,z])) h:=w5 (l:=[x,y,z]) (by simp[am]) h
theorem sS(x y z:Int):Ev Cr Γ0 76 [.ref (.vec 0 0)] [.vec [[int x],[int y],[int z]] 0 1] (int (gU [x,y,z])) [.vec [[int x],[int y],[int z]] 0 1]:=Ev.frzArgs (by rfl) rfl (uZ x y z [])
def te(a b:StT):Bool:=a.time==b.time&&(a.campus==b.campus&&(a.no==b.no&&true))
def bf(a b:StT):Int:=match te a b with
 | true=>0
 | false=>gU [cC a.time b.time,cC a.campus b.campus,cC a.no b.no]
noncomputable abbrev f4(a:StT)(b:StT):List Blk:=[.var [int a.time,int a.campus,int a.no],.var [int b.time,int b.campus,int b.no],.vec [[int (cC a.time b.time)],[int (cC a.campus b.campus)],[int (cC a.no b.no)]] 0 1]
noncomputable abbrev f6(a:StT)(b:StT):List Blk:=[.var [int a.time,int a.campus,int a.no],.var [int b.time,int b.campus,int b.no]]
theorem cJ{a b:StT}(h:List Blk):(Ev Cr Γ0 43 [ag a.row,ag b.row] h (int (bf a b)) h):=by
 cases hc0:a.time==b.time&&(a.campus==b.campus&&(a.no==b.no&&true))
 ·refine zD (int (gU [cC a.time b.time,cC a.campus b.campus,cC a.no b.no])) [.b false,.val (int (cC a.time b.time)),.val (int (cC a.campus b.campus)),.val (int (cC a.no b.no)),.val (int (gU [cC a.time b.time,cC a.campus b.campus,cC a.no b.no]))] (.c hc0 (.c (@pZ (a.time) (b.time) (f6 a b)) (.c (@pZ (a.campus) (b.campus) (f6 a b)) (.c (@pZ (a.no) (b.no) (f6 a b)) (.c (show Ev Cr Γ0 76 [.ref (.vec 2 0)] (f4 a b) (int (gU [cC a.time b.time,cC a.campus b.campus,cC a.no b.no])) (f4 a b) from(Ev.castH (Ev.frameX (args:=[.ref (.vec 2 0)]) (H:=(f4 a b)) [2] (@sS (cC a.time b.time) (cC a.campus b.campus) (cC a.no b.no)) (by kernel_rfl) (by kernel_rfl) (by kernel_rfl) ⟨?_,trivial⟩ ⟨?_,trivial⟩) (by kernel_rfl) (by kernel_rfl))) (.e (.ref (.ptr 0 0)) (.e (int a.time) (.e (.ref (.ptr 1 0)) (.e (int b.time) (.e (.ref (.ptr 0 1)) (.e (.ref (.ptr 0 1)) (.e (int a.campus) (.e (int a.campus) (.e (.ref (.ptr 1 1)) (.e (.ref (.ptr 1 1)) (.e (int b.campus) (.e (int b.campus) (.e (.ref (.ptr 0 2)) (.e (.ref (.ptr 0 2)) (.e (.ref (.ptr 0 2)) (.e (int a.no) (.e (int a.no) (.e (int a.no) (.e (.ref (.ptr 1 2)) (.e (.ref (.ptr 1 2)) (.e (.ref (.ptr 1 2)) (.e (int b.no) (.e (int b.no) (.e (int b.no) .n))))))))))))))))))))))))))))) h (by first|rfl|(have hh:te a b=true:=hc0;simp only[bf,hh];first|done|rfl)|(have hh:te a b=false:=hc0;simp only[bf,hh];first|done|rfl))<;>(first|rfl|exact sx _ _|first|assumption|rfl|decide|omega|simp_all)
 ·exact zD (int 0) [.b true] (.c hc0 .n) h (by first|rfl|(have hh:te a b=true:=hc0;simp only[bf,hh];first|done|rfl)|(have hh:te a b=false:=hc0;simp only[bf,hh];first|done|rfl))
def stA(l:List StT):List (List D):=l.map fun s=>s.row.map .p
theorem u0{l:List StT}:∀r∈stA l,r.length=3:=fun r hr=>by obtain⟨s,_,rfl⟩:=List.mem_map.1 hr;rfl
theorem iJ(k:Nat)(l:List StT):Db k (.var (stA l).flatten)=true:=by
 show D.innL k (stA l).flatten=true
 induction l with
 | nil=>rfl
 | cons s l ih=>exact ih
theorem sT{h:List Blk}{off n:Nat}{l:List StT}{b:StT}(hb:h[0]? = some (.var (stA l).flatten))(hs:l[n]? = some b)(ho:off=n*3):bB Cr h 28 (.ref (.ptr 0 off))=some (ag b.row):=by
 subst ho
 exact wA (sz:=3) (row:=b.row.map .p) (by kernel_rfl) (by kernel_rfl) hb u0 (by simp[stA,hs])
theorem sU{h:List Blk}{off n:Nat}{l:List StT}{b:StT}(hb:h[0]? = some (.var (stA l).flatten))(hn:n<l.length)(ho:off=n*3):fy Cr h 28 (.ref (.ptr 0 off)) (ag b.row)=some (h.set 0 (.var (stA (l.set n b)).flatten)):=by
 subst ho
 rw[um (sz:=3) (new:=b.row.map .p) rfl (by kernel_rfl) rfl hb u0 (by simpa[stA] using hn),stA,stA,List.map_set]
abbrev fiS(l:List (List Dp))(lst:List StT)(i:Int):AS:={t:=mkT 58 0 [(0,aa l),(3,.ref (.ptr 0 0)),(8,aa l),(9,int (l.length:Int)),(10,int i)],h:=[.var (stA lst).flatten],m:=[]}
abbrev fiX(lst:List StT):AS:={t:=mkT 58 0 [(2,bool false)],h:=[.var (stA lst).flatten],m:=[]}
abbrev fiE(lst:List StT):AS:={t:=mkT 58 0 [],h:=[.var (stA lst).flatten],m:=[]}
def fiB(b s:StT):Bool:=Qd (b.no>0)&&(Qd (b.time≥s.time)||Qd (b.no≥s.no))
theorem fi_0{l:List (List Dp)}{lst:List StT}{e:EntT}{b:StT}{n:Nat}(hr:ad 0 l e.row 31)(hlt:Qd ((0:Int)<(l.length:Int))=true)(hc:inR e.campus 7=true)(hn:e.campus.toNat=n)(hb:lst[n]? = some b)(hq2:Qd (b.no>0)=false):(CW Cr Γ0 [] false (sub Fo 0) (fiS l lst 0) .normal (fiS l (lst.set n e.st) 1)):=by
 let v1:List D:=[int e.time,int e.campus,int e.no]
 let v2:=Dn (stA (List.set lst n (EntT.st e)))
 let v3:List D:=[int b.time,int b.campus,int b.no]
 let v4:=Cq CE e.sec.mts
 let v5:=Cq CA e.sec.grs
 let v6:=Cq ab e.sec.labs
 let v7:=Cq Cv e.req.chs
 let v0:List D:=[int e.time,int e.campus,int e.no,int e.kind,int e.stu,int e.obj,int e.term,int e.val,int e.frm,int e.til,aw e.text,int e.sec.id,int e.sec.course,int e.sec.term,int e.sec.campus,int e.sec.seats,aa v4,aa v5,aa v6,bool e.sec.lab,int e.req.campus,int e.req.no,int e.req.st,int e.req.kind,int e.req.time,aa v7,int e.req.gsec,int e.req.glab,int e.req.key,int e.r,int e.s]
 refine zX {t:=mkT 58 0 [(0,aa l),(3,.ref (.ptr 0 0)),(8,aa l),(9,int (↑(Cw l):Int)),(10,int (Cz Ct (0+1)))],h:=[.var v2],m:=[]} C7 [.st (.mask [0,3,8,9,10]),.st (.trimV 1)] [.b true,.row [vi e.time,vi e.campus,vi e.no,vi e.kind,vi e.stu,vi e.obj,vi e.term,vi e.val,vi e.frm,vi e.til,vs e.text,vi e.sec.id,vi e.sec.course,vi e.sec.term,vi e.sec.campus,vi e.sec.seats,CB v4,CB v5,CB v6,CZ (CI e.sec.lab),vi e.req.campus,vi e.req.no,vi e.req.st,vi e.req.kind,vi e.req.time,CB v7,vi e.req.gsec,vi e.req.glab,vi e.req.key,vi e.r,vi e.s],.ov 20 (ag (EL b)),.g false,.g false,.g false,.g false,.g false,.g false,.g false,.g false,.g false,.ov 33 (bool false),.g true,.g true,.g true,.g true,.g false,.g false,.g false,.g false,.g false,.g false,.g false,.g false,.g false,.g false,.g false,.g false,.g true,.ov 51 (bool false),.ov 52 (bool false),.b false,.oh 10056 Fh [.var v2,.var (Cq Ej (CG e)),.var (Cq Ej (EL (EntT.st e))),.var (Cq Ej (EL b))]] (.c hlt (.c hr (.c hc (.c (show bB Cr [.var (Dn (stA lst)),.var v0,.var v1] 28 (.ref (.ptr 0 (0+CQ e.campus*3)))=some (CF v3) from ?_) (.c (show(Qd (0>0)==true)=false from rfl) (.c (show(Qd (0>0)==true)=false from rfl) (.c (show(Qd (0>0)==true)=false from rfl) (.c (show(Qd (0>0)==true)=false from rfl) (.c (show(Qd (0>0)==true)=false from rfl) (.c (show(Qd (0>0)==true)=false from rfl) (.c (show(Qd (0>0)==true)=false from rfl) (.c (show(Qd (0>0)==true)=false from rfl) (.c (show(Qd (0>0)==true)=false from rfl) (.c (show dD (bool (Qd (0>0))) (Ej (CZ (CL {toList:=[]}))) (bool false) (bool false) from ?_) (.c (show(false==false)=true from rfl) (.c (show(false==false)=true from rfl) (.c (show(false==false)=true from rfl) (.c (show(false==false)=true from rfl) (.c (show(Qd (b.no>0)==true)=false from(by subst v1 v2 v3 v4 v5 v6 v7 v0;rw[hq2]<;>rfl)) (.c (show(Qd (b.no>0)==true)=false from(by subst v1 v2 v3 v4 v5 v6 v7 v0;rw[hq2]<;>rfl)) (.c (show(Qd (b.no>0)==true)=false from(by subst v1 v2 v3 v4 v5 v6 v7 v0;rw[hq2]<;>rfl)) (.c (show(Qd (b.no>0)==true)=false from(by subst v1 v2 v3 v4 v5 v6 v7 v0;rw[hq2]<;>rfl)) (.c (show(Qd (b.no>0)==true)=false from(by subst v1 v2 v3 v4 v5 v6 v7 v0;rw[hq2]<;>rfl)) (.c (show(Qd (b.no>0)==true)=false from(by subst v1 v2 v3 v4 v5 v6 v7 v0;rw[hq2]<;>rfl)) (.er false (.er false (.er false (.er false (.er false (.c (show(Qd (b.no>0)==true)=false from(by subst v1 v2 v3 v4 v5 v6 v7 v0;rw[hq2]<;>rfl)) (.c (show(false==false)=true from rfl) (.c (pkf (Ej (CZ (CL {toList:=[]}))) (bool false) hq2) (.c (pkf (bool true) (bool false) rfl) (.er false (.c hc (.c (show fy Cr [.var (Dn (stA lst)),.var v0,.var v1,.var v3] 28 (evalD Γ0 [aa l,Fh,Fh,.ref (.ptr 0 0),int 0,.ref (.ptr 1 0),.ref (.ptr 2 0),.ref (.ptr 3 0),aa l,int (↑(Cw l):Int),int 0,bool (Qd (0<(↑(Cw l):Int))),int 0,Ho [vi e.time,vi e.campus,vi e.no,vi e.kind,vi e.stu,vi e.obj,vi e.term,vi e.val,vi e.frm,vi e.til,vs e.text,vi e.sec.id,vi e.sec.course,vi e.sec.term,vi e.sec.campus,vi e.sec.seats,CB v4,CB v5,CB v6,CZ (CI e.sec.lab),vi e.req.campus,vi e.req.no,vi e.req.st,vi e.req.kind,vi e.req.time,CB v7,vi e.req.gsec,vi e.req.glab,vi e.req.key,vi e.r,vi e.s],CF v0,.ref (.ptr 1 0),CF v1,.ref (.ptr 2 1),int e.campus,.ref (.ptr 0 (0+CQ e.campus*3)),CF v3,int 0,bool (Qd (0>0)),bool (Qd (0>0)),Ej (CZ (CL {toList:=[]})),Ej (CZ (CL {toList:=[]})),Ej (CZ (CL {toList:=[]})),Ej (CZ (CL {toList:=[]})),Ej (CZ (CL {toList:=[]})),Ej (CZ (CL {toList:=[]})),Ej (CZ (CL {toList:=[]})),Ej (CZ (CL {toList:=[]})),Ej (CZ (CL {toList:=[]})),bool false,bool false,.ref (.ptr 3 2),int b.no,bool (Qd (b.no>0)),bool (Qd (b.no>0)),Ej (CZ (CL {toList:=[]})),Ej (CZ (CL {toList:=[]})),Ej (CZ (CL {toList:=[]})),Ej (CZ (CL {toList:=[]})),Ej (CZ (CL {toList:=[]})),Ej (CZ (CL {toList:=[]})),Ej (CZ (CL {toList:=[]})),Ej (CZ (CL {toList:=[]})),Ej (CZ (CL {toList:=[]})),Ej (CZ (CL {toList:=[]})),Ej (CZ (CL {toList:=[]})),Ej (CZ (CL {toList:=[]})),bool false,bool false,.ref (.ptr 2 1),int e.campus,CF v1,.ref (.ptr 0 (0+CQ e.campus*3)),Fh] (CK 56)) (evalD Γ0 [aa l,Fh,Fh,.ref (.ptr 0 0),int 0,.ref (.ptr 1 0),.ref (.ptr 2 0),.ref (.ptr 3 0),aa l,int (↑(Cw l):Int),int 0,bool (Qd (0<(↑(Cw l):Int))),int 0,Ho [vi e.time,vi e.campus,vi e.no,vi e.kind,vi e.stu,vi e.obj,vi e.term,vi e.val,vi e.frm,vi e.til,vs e.text,vi e.sec.id,vi e.sec.course,vi e.sec.term,vi e.sec.campus,vi e.sec.seats,CB v4,CB v5,CB v6,CZ (CI e.sec.lab),vi e.req.campus,vi e.req.no,vi e.req.st,vi e.req.kind,vi e.req.time,CB v7,vi e.req.gsec,vi e.req.glab,vi e.req.key,vi e.r,vi e.s],CF v0,.ref (.ptr 1 0),CF v1,.ref (.ptr 2 1),int e.campus,.ref (.ptr 0 (0+CQ e.campus*3)),CF v3,int 0,bool (Qd (0>0)),bool (Qd (0>0)),Ej (CZ (CL {toList:=[]})),Ej (CZ (CL {toList:=[]})),Ej (CZ (CL {toList:=[]})),Ej (CZ (CL {toList:=[]})),Ej (CZ (CL {toList:=[]})),Ej (CZ (CL {toList:=[]})),Ej (CZ (CL {toList:=[]})),Ej (CZ (CL {toList:=[]})),Ej (CZ (CL {toList:=[]})),bool false,bool false,.ref (.ptr 3 2),int b.no,bool (Qd (b.no>0)),bool (Qd (b.no>0)),Ej (CZ (CL {toList:=[]})),Ej (CZ (CL {toList:=[]})),Ej (CZ (CL {toList:=[]})),Ej (CZ (CL {toList:=[]})),Ej (CZ (CL {toList:=[]})),Ej (CZ (CL {toList:=[]})),Ej (CZ (CL {toList:=[]})),Ej (CZ (CL {toList:=[]})),Ej (CZ (CL {toList:=[]})),Ej (CZ (CL {toList:=[]})),Ej (CZ (CL {toList:=[]})),Ej (CZ (CL {toList:=[]})),bool false,bool false,.ref (.ptr 2 1),int e.campus,CF v1,.ref (.ptr 0 (0+CQ e.campus*3)),Fh] (CK 55))=some [.var v2,.var v0,.var [int (EntT.st e).time,int (EntT.st e).campus,int (EntT.st e).no],.var v3] from ?_) (.c (show Db 1 (.var v2)=true from ?_) .n))))))))))))))))))))))))))))))))))))) (by subst v1 v2 v3 v4 v5 v6 v7 v0;first|rfl|(rw[hw]<;>rfl)) (by subst v1 v2 v3 v4 v5 v6 v7 v0;first|rfl|(rw[hw]<;>rfl))<;>subst v1 v2 v3 v4 v5 v6 v7 v0<;>(first|assumption|rfl|exact iJ _ _|exact sT rfl hb (by simp[hn])|exact sU (b:=e.st) rfl (Cx.1 hb).1 (by simp[hn]))
noncomputable abbrev AL(lst:List StT)(e:EntT)(b:StT):List Blk:=[.var (Dn (stA lst)),.var [int e.time,int e.campus,int e.no,int e.kind,int e.stu,int e.obj,int e.term,int e.val,int e.frm,int e.til,aw e.text,int e.sec.id,int e.sec.course,int e.sec.term,int e.sec.campus,int e.sec.seats,aa (Cq CE e.sec.mts),aa (Cq CA e.sec.grs),aa (Cq ab e.sec.labs),bool e.sec.lab,int e.req.campus,int e.req.no,int e.req.st,int e.req.kind,int e.req.time,aa (Cq Cv e.req.chs),int e.req.gsec,int e.req.glab,int e.req.key,int e.r,int e.s],.var [int e.time,int e.campus,int e.no],.var [int b.time,int b.campus,int b.no]]
theorem fi_A{l:List (List Dp)}{lst:List StT}{e:EntT}{b:StT}{n:Nat}{p:EntT}{c:Int}{i:Nat}(hr:ad (i:Int) l e.row 31)(hlt:Qd ((i:Int)<(l.length:Int))=true)(hp:ad (Cz Ct ((i:Int) - 1)) l p.row 31)(hcp:∀h,Ev Cr Γ0 43 [.agg [int p.time,int p.campus,int p.no],.agg [int e.time,int e.campus,int e.no]] h (int c) h)(hc:inR e.campus 7=true)(hn:e.campus.toNat=n)(hb:lst[n]? = some b)(hi:Qd ((i:Int)>0)=true)(hq1:Qd (c≥0)=true):(CW Cr Γ0 [] false (sub Fo 0) (fiS l lst i) .ret (fiX lst)):=by
 refine zX {t:=mkT 58 0 [(2,bool false)],h:=[.var (Dn (stA lst))],m:=[]} Dj [.st (.mask [2]),.st (.trimV 1)] [.b true,.row [vi e.time,vi e.campus,vi e.no,vi e.kind,vi e.stu,vi e.obj,vi e.term,vi e.val,vi e.frm,vi e.til,vs e.text,vi e.sec.id,vi e.sec.course,vi e.sec.term,vi e.sec.campus,vi e.sec.seats,CB (Cq CE e.sec.mts),CB (Cq CA e.sec.grs),CB (Cq ab e.sec.labs),CZ (CI e.sec.lab),vi e.req.campus,vi e.req.no,vi e.req.st,vi e.req.kind,vi e.req.time,CB (Cq Cv e.req.chs),vi e.req.gsec,vi e.req.glab,vi e.req.key,vi e.r,vi e.s],.ov 20 (ag (EL b)),.g true,.g true,.g true,.g true,.row [vi p.time,vi p.campus,vi p.no,vi p.kind,vi p.stu,vi p.obj,vi p.term,vi p.val,vi p.frm,vi p.til,vs p.text,vi p.sec.id,vi p.sec.course,vi p.sec.term,vi p.sec.campus,vi p.sec.seats,CB (Cq CE p.sec.mts),CB (Cq CA p.sec.grs),CB (Cq ab p.sec.labs),CZ (CI p.sec.lab),vi p.req.campus,vi p.req.no,vi p.req.st,vi p.req.kind,vi p.req.time,CB (Cq Cv p.req.chs),vi p.req.gsec,vi p.req.glab,vi p.req.key,vi p.r,vi p.s],.g true,.g true,.g true,.g true,.val (int c),.g true,.ov 33 (bool (Qd (c≥0))),.g false,.g false,.g false,.g false,.g false,.g false,.g false,.g false,.g false,.g false,.g false,.g false,.g false,.g false,.g false,.g false,.g false,.ov 52 (bool true),.b true] (.c hlt (.c hr (.c hc (.c (show bB Cr [.var (Dn (stA lst)),.var [int e.time,int e.campus,int e.no,int e.kind,int e.stu,int e.obj,int e.term,int e.val,int e.frm,int e.til,aw e.text,int e.sec.id,int e.sec.course,int e.sec.term,int e.sec.campus,int e.sec.seats,aa (Cq CE e.sec.mts),aa (Cq CA e.sec.grs),aa (Cq ab e.sec.labs),bool e.sec.lab,int e.req.campus,int e.req.no,int e.req.st,int e.req.kind,int e.req.time,aa (Cq Cv e.req.chs),int e.req.gsec,int e.req.glab,int e.req.key,int e.r,int e.s],.var [int e.time,int e.campus,int e.no]] 28 (.ref (.ptr 0 (0+CQ e.campus*3)))=some (CF [int b.time,int b.campus,int b.no]) from ?_) (.c (show(Qd ((↑i:Int)>0)==true)=true from(by rw[hi]<;>rfl)) (.c (show(Qd ((↑i:Int)>0)==true)=true from(by rw[hi]<;>rfl)) (.c (show(Qd ((↑i:Int)>0)==true)=true from(by rw[hi]<;>rfl)) (.c (show(Qd ((↑i:Int)>0)==true)=true from(by rw[hi]<;>rfl)) (.c hp (.c (show(Qd ((↑i:Int)>0)==true)=true from(by rw[hi]<;>rfl)) (.c (show(Qd ((↑i:Int)>0)==true)=true from(by rw[hi]<;>rfl)) (.c (show(Qd ((↑i:Int)>0)==true)=true from(by rw[hi]<;>rfl)) (.c (show(Qd ((↑i:Int)>0)==true)=true from(by rw[hi]<;>rfl)) (.c (@hcp (AL lst e b)) (.c (show(Qd ((↑i:Int)>0)==true)=true from(by rw[hi]<;>rfl)) (.c (pkt (bool (Qd (c≥0))) (bool false) hi) (.c (show(Qd (c≥0)==false)=false from(by rw[hq1]<;>rfl)) (.c (show(Qd (c≥0)==false)=false from(by rw[hq1]<;>rfl)) (.c (show(Qd (c≥0)==false)=false from(by rw[hq1]<;>rfl)) (.c (show(Qd (c≥0)==false)=false from(by rw[hq1]<;>rfl)) (.er false (.er false (.er false (.er false (.er false (.er false (.er false (.er false (.er false (.er false (.er false (.er false (.c (show(Qd (c≥0)==false)=false from(by rw[hq1]<;>rfl)) (.c (pkt (bool true) (Ej (CZ (CL {toList:=[]}))) hq1) (.er true (.c (show Db 1 (.var (Dn (stA lst)))=true from ?_) .n)))))))))))))))))))))))))))))))))))) (by first|rfl|(rw[hw]<;>rfl)) (by first|rfl|(rw[hw]<;>rfl))<;>(first|assumption|rfl|exact iJ _ _|exact sT rfl hb (by simp[hn])|exact sU (b:=e.st) rfl (Cx.1 hb).1 (by simp[hn]))
noncomputable abbrev u1(lst:List StT)(e:EntT)(b:StT):List Blk:=[.var (Dn (stA lst)),.var [int e.time,int e.campus,int e.no,int e.kind,int e.stu,int e.obj,int e.term,int e.val,int e.frm,int e.til,aw e.text,int e.sec.id,int e.sec.course,int e.sec.term,int e.sec.campus,int e.sec.seats,aa (Cq CE e.sec.mts),aa (Cq CA e.sec.grs),aa (Cq ab e.sec.labs),bool e.sec.lab,int e.req.campus,int e.req.no,int e.req.st,int e.req.kind,int e.req.time,aa (Cq Cv e.req.chs),int e.req.gsec,int e.req.glab,int e.req.key,int e.r,int e.s],.var [int e.time,int e.campus,int e.no],.var [int b.time,int b.campus,int b.no]]
theorem fi_B{l:List (List Dp)}{lst:List StT}{e:EntT}{b:StT}{n:Nat}{p:EntT}{c:Int}{i:Nat}(hr:ad (i:Int) l e.row 31)(hlt:Qd ((i:Int)<(l.length:Int))=true)(hp:ad (Cz Ct ((i:Int) - 1)) l p.row 31)(hcp:∀h,Ev Cr Γ0 43 [.agg [int p.time,int p.campus,int p.no],.agg [int e.time,int e.campus,int e.no]] h (int c) h)(hc:inR e.campus 7=true)(hn:e.campus.toNat=n)(hb:lst[n]? = some b)(hi:Qd ((i:Int)>0)=true)(hq1:Qd (c≥0)=false)(hq2:Qd (b.no>0)=false)(hw:Ct.wrap ((i:Int)+1)=((i+1:Nat):Int)):(CW Cr Γ0 [] false (sub Fo 0) (fiS l lst i) .normal (fiS l (lst.set n e.st) ((i+1:Nat):Int))):=by
 let v1:List D:=[int e.time,int e.campus,int e.no]
 let v2:=Dn (stA (List.set lst n (EntT.st e)))
 let v3:=Cq CE p.sec.mts
 let v4:=Cq CA p.sec.grs
 let v5:=Cq ab p.sec.labs
 let v6:=Cq Cv p.req.chs
 let v7:List D:=[int b.time,int b.campus,int b.no]
 let v8:=Cq CE e.sec.mts
 let v9:=Cq CA e.sec.grs
 let v10:=Cq ab e.sec.labs
 let v11:=Cq Cv e.req.chs
 let v0:List D:=[int e.time,int e.campus,int e.no,int e.kind,int e.stu,int e.obj,int e.term,int e.val,int e.frm,int e.til,aw e.text,int e.sec.id,int e.sec.course,int e.sec.term,int e.sec.campus,int e.sec.seats,aa v8,aa v9,aa v10,bool e.sec.lab,int e.req.campus,int e.req.no,int e.req.st,int e.req.kind,int e.req.time,aa v11,int e.req.gsec,int e.req.glab,int e.req.key,int e.r,int e.s]
 refine zX {t:=mkT 58 0 [(0,aa l),(3,.ref (.ptr 0 0)),(8,aa l),(9,int (↑(Cw l):Int)),(10,int (Cz Ct ((↑i:Int)+1)))],h:=[.var v2],m:=[]} C7 [.st (.mask [0,3,8,9,10]),.st (.trimV 1)] [.b true,.row [vi e.time,vi e.campus,vi e.no,vi e.kind,vi e.stu,vi e.obj,vi e.term,vi e.val,vi e.frm,vi e.til,vs e.text,vi e.sec.id,vi e.sec.course,vi e.sec.term,vi e.sec.campus,vi e.sec.seats,CB v8,CB v9,CB v10,CZ (CI e.sec.lab),vi e.req.campus,vi e.req.no,vi e.req.st,vi e.req.kind,vi e.req.time,CB v11,vi e.req.gsec,vi e.req.glab,vi e.req.key,vi e.r,vi e.s],.ov 20 (ag (EL b)),.g true,.g true,.g true,.g true,.row [vi p.time,vi p.campus,vi p.no,vi p.kind,vi p.stu,vi p.obj,vi p.term,vi p.val,vi p.frm,vi p.til,vs p.text,vi p.sec.id,vi p.sec.course,vi p.sec.term,vi p.sec.campus,vi p.sec.seats,CB v3,CB v4,CB v5,CZ (CI p.sec.lab),vi p.req.campus,vi p.req.no,vi p.req.st,vi p.req.kind,vi p.req.time,CB v6,vi p.req.gsec,vi p.req.glab,vi p.req.key,vi p.r,vi p.s],.g true,.g true,.g true,.g true,.val (int c),.g true,.ov 33 (bool (Qd (c≥0))),.g true,.g true,.g true,.g true,.g false,.g false,.g false,.g false,.g false,.g false,.g false,.g false,.g false,.g false,.g false,.g false,.g true,.ov 51 (bool false),.ov 52 (bool false),.b false,.oh 10056 Fh [.var v2,.var (Cq Ej (CG e)),.var (Cq Ej (EL (EntT.st e))),.var (Cq Ej (EL b))]] (.c hlt (.c hr (.c hc (.c (show bB Cr [.var (Dn (stA lst)),.var v0,.var v1] 28 (.ref (.ptr 0 (0+CQ e.campus*3)))=some (CF v7) from ?_) (.c (show(Qd ((↑i:Int)>0)==true)=true from(by subst v1 v2 v3 v4 v5 v6 v7 v8 v9 v10 v11 v0;rw[hi]<;>rfl)) (.c (show(Qd ((↑i:Int)>0)==true)=true from(by subst v1 v2 v3 v4 v5 v6 v7 v8 v9 v10 v11 v0;rw[hi]<;>rfl)) (.c (show(Qd ((↑i:Int)>0)==true)=true from(by subst v1 v2 v3 v4 v5 v6 v7 v8 v9 v10 v11 v0;rw[hi]<;>rfl)) (.c (show(Qd ((↑i:Int)>0)==true)=true from(by subst v1 v2 v3 v4 v5 v6 v7 v8 v9 v10 v11 v0;rw[hi]<;>rfl)) (.c hp (.c (show(Qd ((↑i:Int)>0)==true)=true from(by subst v1 v2 v3 v4 v5 v6 v7 v8 v9 v10 v11 v0;rw[hi]<;>rfl)) (.c (show(Qd ((↑i:Int)>0)==true)=true from(by subst v1 v2 v3 v4 v5 v6 v7 v8 v9 v10 v11 v0;rw[hi]<;>rfl)) (.c (show(Qd ((↑i:Int)>0)==true)=true from(by subst v1 v2 v3 v4 v5 v6 v7 v8 v9 v10 v11 v0;rw[hi]<;>rfl)) (.c (show(Qd ((↑i:Int)>0)==true)=true from(by subst v1 v2 v3 v4 v5 v6 v7 v8 v9 v10 v11 v0;rw[hi]<;>rfl)) (.c (@hcp (u1 lst e b)) (.c (show(Qd ((↑i:Int)>0)==true)=true from(by subst v1 v2 v3 v4 v5 v6 v7 v8 v9 v10 v11 v0;rw[hi]<;>rfl)) (.c (pkt (bool (Qd (c≥0))) (bool false) hi) (.c (show(Qd (c≥0)==false)=true from(by subst v1 v2 v3 v4 v5 v6 v7 v8 v9 v10 v11 v0;rw[hq1]<;>rfl)) (.c (show(Qd (c≥0)==false)=true from(by subst v1 v2 v3 v4 v5 v6 v7 v8 v9 v10 v11 v0;rw[hq1]<;>rfl)) (.c (show(Qd (c≥0)==false)=true from(by subst v1 v2 v3 v4 v5 v6 v7 v8 v9 v10 v11 v0;rw[hq1]<;>rfl)) (.c (show(Qd (c≥0)==false)=true from(by subst v1 v2 v3 v4 v5 v6 v7 v8 v9 v10 v11 v0;rw[hq1]<;>rfl)) (.c (show(Qd (b.no>0)==true)=false from(by subst v1 v2 v3 v4 v5 v6 v7 v8 v9 v10 v11 v0;rw[hq2]<;>rfl)) (.c (show(Qd (b.no>0)==true)=false from(by subst v1 v2 v3 v4 v5 v6 v7 v8 v9 v10 v11 v0;rw[hq2]<;>rfl)) (.c (show(Qd (b.no>0)==true)=false from(by subst v1 v2 v3 v4 v5 v6 v7 v8 v9 v10 v11 v0;rw[hq2]<;>rfl)) (.c (show(Qd (b.no>0)==true)=false from(by subst v1 v2 v3 v4 v5 v6 v7 v8 v9 v10 v11 v0;rw[hq2]<;>rfl)) (.c (show(Qd (b.no>0)==true)=false from(by subst v1 v2 v3 v4 v5 v6 v7 v8 v9 v10 v11 v0;rw[hq2]<;>rfl)) (.c (show(Qd (b.no>0)==true)=false from(by subst v1 v2 v3 v4 v5 v6 v7 v8 v9 v10 v11 v0;rw[hq2]<;>rfl)) (.er false (.er false (.er false (.er false (.er false (.c (show(Qd (b.no>0)==true)=false from(by subst v1 v2 v3 v4 v5 v6 v7 v8 v9 v10 v11 v0;rw[hq2]<;>rfl)) (.c (show(Qd (c≥0)==false)=true from(by subst v1 v2 v3 v4 v5 v6 v7 v8 v9 v10 v11 v0;rw[hq1]<;>rfl)) (.c (pkf (Ej (CZ (CL {toList:=[]}))) (bool false) hq2) (.c (pkf (bool true) (bool false) hq1) (.er false (.c hc (.c (show fy Cr (u1 lst e b) 28 (evalD Γ0 [aa l,Fh,Fh,.ref (.ptr 0 0),int (↑i:Int),.ref (.ptr 1 0),.ref (.ptr 2 0),.ref (.ptr 3 0),aa l,int (↑(Cw l):Int),int (↑i:Int),bool (Qd ((↑i:Int)<(↑(Cw l):Int))),int (↑i:Int),Ho [vi e.time,vi e.campus,vi e.no,vi e.kind,vi e.stu,vi e.obj,vi e.term,vi e.val,vi e.frm,vi e.til,vs e.text,vi e.sec.id,vi e.sec.course,vi e.sec.term,vi e.sec.campus,vi e.sec.seats,CB v8,CB v9,CB v10,CZ (CI e.sec.lab),vi e.req.campus,vi e.req.no,vi e.req.st,vi e.req.kind,vi e.req.time,CB v11,vi e.req.gsec,vi e.req.glab,vi e.req.key,vi e.r,vi e.s],CF v0,.ref (.ptr 1 0),CF v1,.ref (.ptr 2 1),int e.campus,.ref (.ptr 0 (0+CQ e.campus*3)),CF v7,int (↑i:Int),bool (Qd ((↑i:Int)>0)),bool (Qd ((↑i:Int)>0)),aa l,int (↑i:Int),int (Cz Ct ((↑i:Int) - 1)),Ho [vi p.time,vi p.campus,vi p.no,vi p.kind,vi p.stu,vi p.obj,vi p.term,vi p.val,vi p.frm,vi p.til,vs p.text,vi p.sec.id,vi p.sec.course,vi p.sec.term,vi p.sec.campus,vi p.sec.seats,CB v3,CB v4,CB v5,CZ (CI p.sec.lab),vi p.req.campus,vi p.req.no,vi p.req.st,vi p.req.kind,vi p.req.time,CB v6,vi p.req.gsec,vi p.req.glab,vi p.req.key,vi p.r,vi p.s],Ho [vi p.time,vi p.campus,vi p.no,vi p.kind,vi p.stu,vi p.obj,vi p.term,vi p.val,vi p.frm,vi p.til,vs p.text,vi p.sec.id,vi p.sec.course,vi p.sec.term,vi p.sec.campus,vi p.sec.seats,CB v3,CB v4,CB v5,CZ (CI p.sec.lab),vi p.req.campus,vi p.req.no,vi p.req.st,vi p.req.kind,vi p.req.time,CB v6,vi p.req.gsec,vi p.req.glab,vi p.req.key,vi p.r,vi p.s],CF [int p.time,int p.campus,int p.no],CF v1,int c,bool (Qd (c≥0)),bool (Qd (c≥0)),bool (Qd (c≥0)),.ref (.ptr 3 2),int b.no,bool (Qd (b.no>0)),bool (Qd (b.no>0)),Ej (CZ (CL {toList:=[]})),Ej (CZ (CL {toList:=[]})),Ej (CZ (CL {toList:=[]})),Ej (CZ (CL {toList:=[]})),Ej (CZ (CL {toList:=[]})),Ej (CZ (CL {toList:=[]})),Ej (CZ (CL {toList:=[]})),Ej (CZ (CL {toList:=[]})),Ej (CZ (CL {toList:=[]})),Ej (CZ (CL {toList:=[]})),Ej (CZ (CL {toList:=[]})),Ej (CZ (CL {toList:=[]})),bool false,bool false,.ref (.ptr 2 1),int e.campus,CF v1,.ref (.ptr 0 (0+CQ e.campus*3)),Fh] (CK 56)) (evalD Γ0 [aa l,Fh,Fh,.ref (.ptr 0 0),int (↑i:Int),.ref (.ptr 1 0),.ref (.ptr 2 0),.ref (.ptr 3 0),aa l,int (↑(Cw l):Int),int (↑i:Int),bool (Qd ((↑i:Int)<(↑(Cw l):Int))),int (↑i:Int),Ho [vi e.time,vi e.campus,vi e.no,vi e.kind,vi e.stu,vi e.obj,vi e.term,vi e.val,vi e.frm,vi e.til,vs e.text,vi e.sec.id,vi e.sec.course,vi e.sec.term,vi e.sec.campus,vi e.sec.seats,CB v8,CB v9,CB v10,CZ (CI e.sec.lab),vi e.req.campus,vi e.req.no,vi e.req.st,vi e.req.kind,vi e.req.time,CB v11,vi e.req.gsec,vi e.req.glab,vi e.req.key,vi e.r,vi e.s],CF v0,.ref (.ptr 1 0),CF v1,.ref (.ptr 2 1),int e.campus,.ref (.ptr 0 (0+CQ e.campus*3)),CF v7,int (↑i:Int),bool (Qd ((↑i:Int)>0)),bool (Qd ((↑i:Int)>0)),aa l,int (↑i:Int),int (Cz Ct ((↑i:Int) - 1)),Ho [vi p.time,vi p.campus,vi p.no,vi p.kind,vi p.stu,vi p.obj,vi p.term,vi p.val,vi p.frm,vi p.til,vs p.text,vi p.sec.id,vi p.sec.course,vi p.sec.term,vi p.sec.campus,vi p.sec.seats,CB v3,CB v4,CB v5,CZ (CI p.sec.lab),vi p.req.campus,vi p.req.no,vi p.req.st,vi p.req.kind,vi p.req.time,CB v6,vi p.req.gsec,vi p.req.glab,vi p.req.key,vi p.r,vi p.s],Ho [vi p.time,vi p.campus,vi p.no,vi p.kind,vi p.stu,vi p.obj,vi p.term,vi p.val,vi p.frm,vi p.til,vs p.text,vi p.sec.id,vi p.sec.course,vi p.sec.term,vi p.sec.campus,vi p.sec.seats,CB v3,CB v4,CB v5,CZ (CI p.sec.lab),vi p.req.campus,vi p.req.no,vi p.req.st,vi p.req.kind,vi p.req.time,CB v6,vi p.req.gsec,vi p.req.glab,vi p.req.key,vi p.r,vi p.s],CF [int p.time,int p.campus,int p.no],CF v1,int c,bool (Qd (c≥0)),bool (Qd (c≥0)),bool (Qd (c≥0)),.ref (.ptr 3 2),int b.no,bool (Qd (b.no>0)),bool (Qd (b.no>0)),Ej (CZ (CL {toList:=[]})),Ej (CZ (CL {toList:=[]})),Ej (CZ (CL {toList:=[]})),Ej (CZ (CL {toList:=[]})),Ej (CZ (CL {toList:=[]})),Ej (CZ (CL {toList:=[]})),Ej (CZ (CL {toList:=[]})),Ej (CZ (CL {toList:=[]})),Ej (CZ (CL {toList:=[]})),Ej (CZ (CL {toList:=[]})),Ej (CZ (CL {toList:=[]})),Ej (CZ (CL {toList:=[]})),bool false,bool false,.ref (.ptr 2 1),int e.campus,CF v1,.ref (.ptr 0 (0+CQ e.campus*3)),Fh] (CK 55))=some [.var v2,.var v0,.var [int (EntT.st e).time,int (EntT.st e).campus,int (EntT.st e).no],.var v7] from ?_) (.c (show Db 1 (.var v2)=true from ?_) .n))))))))))))))))))))))))))))))))))))))) (by subst v1 v2 v3 v4 v5 v6 v7 v8 v9 v10 v11 v0;first|rfl|(rw[hw]<;>rfl)) (by subst v1 v2 v3 v4 v5 v6 v7 v8 v9 v10 v11 v0;first|rfl|(rw[hw]<;>rfl))<;>subst v1 v2 v3 v4 v5 v6 v7 v8 v9 v10 v11 v0<;>(first|assumption|rfl|exact iJ _ _|exact sT rfl hb (by simp[hn])|exact sU (b:=e.st) rfl (Cx.1 hb).1 (by simp[hn]))
noncomputable abbrev AM(lst:List StT)(e:EntT)(b:StT):List Blk:=[.var (Dn (stA lst)),.var [int e.time,int e.campus,int e.no,int e.kind,int e.stu,int e.obj,int e.term,int e.val,int e.frm,int e.til,aw e.text,int e.sec.id,int e.sec.course,int e.sec.term,int e.sec.campus,int e.sec.seats,aa (Cq CE e.sec.mts),aa (Cq CA e.sec.grs),aa (Cq ab e.sec.labs),bool e.sec.lab,int e.req.campus,int e.req.no,int e.req.st,int e.req.kind,int e.req.time,aa (Cq Cv e.req.chs),int e.req.gsec,int e.req.glab,int e.req.key,int e.r,int e.s],.var [int e.time,int e.campus,int e.no],.var [int b.time,int b.campus,int b.no]]
theorem fi_C{l:List (List Dp)}{lst:List StT}{e:EntT}{b:StT}{n:Nat}{p:EntT}{c:Int}{i:Nat}(hr:ad (i:Int) l e.row 31)(hlt:Qd ((i:Int)<(l.length:Int))=true)(hp:ad (Cz Ct ((i:Int) - 1)) l p.row 31)(hcp:∀h,Ev Cr Γ0 43 [.agg [int p.time,int p.campus,int p.no],.agg [int e.time,int e.campus,int e.no]] h (int c) h)(hc:inR e.campus 7=true)(hn:e.campus.toNat=n)(hb:lst[n]? = some b)(hi:Qd ((i:Int)>0)=true)(hq1:Qd (c≥0)=false)(hq2:Qd (b.no>0)=true)(hq3:Qd (b.time≥e.time)=true):(CW Cr Γ0 [] false (sub Fo 0) (fiS l lst i) .ret (fiX lst)):=by
 refine zX {t:=mkT 58 0 [(2,bool false)],h:=[.var (Dn (stA lst))],m:=[]} Dj [.st (.mask [2]),.st (.trimV 1)] [.b true,.row [vi e.time,vi e.campus,vi e.no,vi e.kind,vi e.stu,vi e.obj,vi e.term,vi e.val,vi e.frm,vi e.til,vs e.text,vi e.sec.id,vi e.sec.course,vi e.sec.term,vi e.sec.campus,vi e.sec.seats,CB (Cq CE e.sec.mts),CB (Cq CA e.sec.grs),CB (Cq ab e.sec.labs),CZ (CI e.sec.lab),vi e.req.campus,vi e.req.no,vi e.req.st,vi e.req.kind,vi e.req.time,CB (Cq Cv e.req.chs),vi e.req.gsec,vi e.req.glab,vi e.req.key,vi e.r,vi e.s],.ov 20 (ag (EL b)),.g true,.g true,.g true,.g true,.row [vi p.time,vi p.campus,vi p.no,vi p.kind,vi p.stu,vi p.obj,vi p.term,vi p.val,vi p.frm,vi p.til,vs p.text,vi p.sec.id,vi p.sec.course,vi p.sec.term,vi p.sec.campus,vi p.sec.seats,CB (Cq CE p.sec.mts),CB (Cq CA p.sec.grs),CB (Cq ab p.sec.labs),CZ (CI p.sec.lab),vi p.req.campus,vi p.req.no,vi p.req.st,vi p.req.kind,vi p.req.time,CB (Cq Cv p.req.chs),vi p.req.gsec,vi p.req.glab,vi p.req.key,vi p.r,vi p.s],.g true,.g true,.g true,.g true,.val (int c),.g true,.ov 33 (bool (Qd (c≥0))),.g true,.g true,.g true,.g true,.g true,.g true,.g true,.g true,.g true,.g true,.g false,.g false,.g false,.g false,.g false,.g true,.ov 50 (bool true),.g true,.ov 51 (bool true),.ov 52 (bool true),.b true] (.c hlt (.c hr (.c hc (.c (show bB Cr [.var (Dn (stA lst)),.var [int e.time,int e.campus,int e.no,int e.kind,int e.stu,int e.obj,int e.term,int e.val,int e.frm,int e.til,aw e.text,int e.sec.id,int e.sec.course,int e.sec.term,int e.sec.campus,int e.sec.seats,aa (Cq CE e.sec.mts),aa (Cq CA e.sec.grs),aa (Cq ab e.sec.labs),bool e.sec.lab,int e.req.campus,int e.req.no,int e.req.st,int e.req.kind,int e.req.time,aa (Cq Cv e.req.chs),int e.req.gsec,int e.req.glab,int e.req.key,int e.r,int e.s],.var [int e.time,int e.campus,int e.no]] 28 (.ref (.ptr 0 (0+CQ e.campus*3)))=some (CF [int b.time,int b.campus,int b.no]) from ?_) (.c (show(Qd ((↑i:Int)>0)==true)=true from(by rw[hi]<;>rfl)) (.c (show(Qd ((↑i:Int)>0)==true)=true from(by rw[hi]<;>rfl)) (.c (show(Qd ((↑i:Int)>0)==true)=true from(by rw[hi]<;>rfl)) (.c (show(Qd ((↑i:Int)>0)==true)=true from(by rw[hi]<;>rfl)) (.c hp (.c (show(Qd ((↑i:Int)>0)==true)=true from(by rw[hi]<;>rfl)) (.c (show(Qd ((↑i:Int)>0)==true)=true from(by rw[hi]<;>rfl)) (.c (show(Qd ((↑i:Int)>0)==true)=true from(by rw[hi]<;>rfl)) (.c (show(Qd ((↑i:Int)>0)==true)=true from(by rw[hi]<;>rfl)) (.c (@hcp (AM lst e b)) (.c (show(Qd ((↑i:Int)>0)==true)=true from(by rw[hi]<;>rfl)) (.c (pkt (bool (Qd (c≥0))) (bool false) hi) (.c (show(Qd (c≥0)==false)=true from(by rw[hq1]<;>rfl)) (.c (show(Qd (c≥0)==false)=true from(by rw[hq1]<;>rfl)) (.c (show(Qd (c≥0)==false)=true from(by rw[hq1]<;>rfl)) (.c (show(Qd (c≥0)==false)=true from(by rw[hq1]<;>rfl)) (.c (show(Qd (b.no>0)==true)=true from(by rw[hq2]<;>rfl)) (.c (show(Qd (b.no>0)==true)=true from(by rw[hq2]<;>rfl)) (.c (show(Qd (b.no>0)==true)=true from(by rw[hq2]<;>rfl)) (.c (show(Qd (b.no>0)==true)=true from(by rw[hq2]<;>rfl)) (.c (show(Qd (b.no>0)==true)=true from(by rw[hq2]<;>rfl)) (.c (show(Qd (b.no>0)==true)=true from(by rw[hq2]<;>rfl)) (.c (show(Qd (b.time≥e.time)==false)=false from(by rw[hq3]<;>rfl)) (.c (show(Qd (b.time≥e.time)==false)=false from(by rw[hq3]<;>rfl)) (.c (show(Qd (b.time≥e.time)==false)=false from(by rw[hq3]<;>rfl)) (.c (show(Qd (b.time≥e.time)==false)=false from(by rw[hq3]<;>rfl)) (.c (show(Qd (b.time≥e.time)==false)=false from(by rw[hq3]<;>rfl)) (.c (show(Qd (b.no>0)==true)=true from(by rw[hq2]<;>rfl)) (.c (pkt (bool true) (Ej (CZ (CL {toList:=[]}))) hq3) (.c (show(Qd (c≥0)==false)=true from(by rw[hq1]<;>rfl)) (.c (pkt (bool true) (bool false) hq2) (.c (show dD (bool (Qd (c≥0))) (bool true) (bool true) (bool true) from(by first|exact mQ hq1 rfl|exact jt hq1 rfl)) (.er true (.c (show Db 1 (.var (Dn (stA lst)))=true from ?_) .n)))))))))))))))))))))))))))))))))))))) (by first|rfl|(rw[hw]<;>rfl)) (by first|rfl|(rw[hw]<;>rfl))<;>(first|assumption|rfl|exact iJ _ _|exact sT rfl hb (by simp[hn])|exact sU (b:=e.st) rfl (Cx.1 hb).1 (by simp[hn]))
noncomputable abbrev AN(lst:List StT)(e:EntT)(b:StT):List Blk:=[.var (Dn (stA lst)),.var [int e.time,int e.campus,int e.no,int e.kind,int e.stu,int e.obj,int e.term,int e.val,int e.frm,int e.til,aw e.text,int e.sec.id,int e.sec.course,int e.sec.term,int e.sec.campus,int e.sec.seats,aa (Cq CE e.sec.mts),aa (Cq CA e.sec.grs),aa (Cq ab e.sec.labs),bool e.sec.lab,int e.req.campus,int e.req.no,int e.req.st,int e.req.kind,int e.req.time,aa (Cq Cv e.req.chs),int e.req.gsec,int e.req.glab,int e.req.key,int e.r,int e.s],.var [int e.time,int e.campus,int e.no],.var [int b.time,int b.campus,int b.no]]
theorem fi_D{l:List (List Dp)}{lst:List StT}{e:EntT}{b:StT}{n:Nat}{p:EntT}{c:Int}{i:Nat}(hr:ad (i:Int) l e.row 31)(hlt:Qd ((i:Int)<(l.length:Int))=true)(hp:ad (Cz Ct ((i:Int) - 1)) l p.row 31)(hcp:∀h,Ev Cr Γ0 43 [.agg [int p.time,int p.campus,int p.no],.agg [int e.time,int e.campus,int e.no]] h (int c) h)(hc:inR e.campus 7=true)(hn:e.campus.toNat=n)(hb:lst[n]? = some b)(hi:Qd ((i:Int)>0)=true)(hq1:Qd (c≥0)=false)(hq2:Qd (b.no>0)=true)(hq3:Qd (b.time≥e.time)=false)(hq4:Qd (b.no≥e.no)=true):(CW Cr Γ0 [] false (sub Fo 0) (fiS l lst i) .ret (fiX lst)):=by
 refine zX {t:=mkT 58 0 [(2,bool false)],h:=[.var (Dn (stA lst))],m:=[]} Dj [.st (.mask [2]),.st (.trimV 1)] [.b true,.row [vi e.time,vi e.campus,vi e.no,vi e.kind,vi e.stu,vi e.obj,vi e.term,vi e.val,vi e.frm,vi e.til,vs e.text,vi e.sec.id,vi e.sec.course,vi e.sec.term,vi e.sec.campus,vi e.sec.seats,CB (Cq CE e.sec.mts),CB (Cq CA e.sec.grs),CB (Cq ab e.sec.labs),CZ (CI e.sec.lab),vi e.req.campus,vi e.req.no,vi e.req.st,vi e.req.kind,vi e.req.time,CB (Cq Cv e.req.chs),vi e.req.gsec,vi e.req.glab,vi e.req.key,vi e.r,vi e.s],.ov 20 (ag (EL b)),.g true,.g true,.g true,.g true,.row [vi p.time,vi p.campus,vi p.no,vi p.kind,vi p.stu,vi p.obj,vi p.term,vi p.val,vi p.frm,vi p.til,vs p.text,vi p.sec.id,vi p.sec.course,vi p.sec.term,vi p.sec.campus,vi p.sec.seats,CB (Cq CE p.sec.mts),CB (Cq CA p.sec.grs),CB (Cq ab p.sec.labs),CZ (CI p.sec.lab),vi p.req.campus,vi p.req.no,vi p.req.st,vi p.req.kind,vi p.req.time,CB (Cq Cv p.req.chs),vi p.req.gsec,vi p.req.glab,vi p.req.key,vi p.r,vi p.s],.g true,.g true,.g true,.g true,.val (int c),.g true,.ov 33 (bool (Qd (c≥0))),.g true,.g true,.g true,.g true,.g true,.g true,.g true,.g true,.g true,.g true,.g true,.g true,.g true,.g true,.g true,.g true,.ov 50 (bool (Qd (b.no≥e.no))),.g true,.ov 51 (bool (Qd (b.no≥e.no))),.ov 52 (bool (Qd (b.no≥e.no))),.b true] (.c hlt (.c hr (.c hc (.c (show bB Cr [.var (Dn (stA lst)),.var [int e.time,int e.campus,int e.no,int e.kind,int e.stu,int e.obj,int e.term,int e.val,int e.frm,int e.til,aw e.text,int e.sec.id,int e.sec.course,int e.sec.term,int e.sec.campus,int e.sec.seats,aa (Cq CE e.sec.mts),aa (Cq CA e.sec.grs),aa (Cq ab e.sec.labs),bool e.sec.lab,int e.req.campus,int e.req.no,int e.req.st,int e.req.kind,int e.req.time,aa (Cq Cv e.req.chs),int e.req.gsec,int e.req.glab,int e.req.key,int e.r,int e.s],.var [int e.time,int e.campus,int e.no]] 28 (.ref (.ptr 0 (0+CQ e.campus*3)))=some (CF [int b.time,int b.campus,int b.no]) from ?_) (.c (show(Qd ((↑i:Int)>0)==true)=true from(by rw[hi]<;>rfl)) (.c (show(Qd ((↑i:Int)>0)==true)=true from(by rw[hi]<;>rfl)) (.c (show(Qd ((↑i:Int)>0)==true)=true from(by rw[hi]<;>rfl)) (.c (show(Qd ((↑i:Int)>0)==true)=true from(by rw[hi]<;>rfl)) (.c hp (.c (show(Qd ((↑i:Int)>0)==true)=true from(by rw[hi]<;>rfl)) (.c (show(Qd ((↑i:Int)>0)==true)=true from(by rw[hi]<;>rfl)) (.c (show(Qd ((↑i:Int)>0)==true)=true from(by rw[hi]<;>rfl)) (.c (show(Qd ((↑i:Int)>0)==true)=true from(by rw[hi]<;>rfl)) (.c (@hcp (AN lst e b)) (.c (show(Qd ((↑i:Int)>0)==true)=true from(by rw[hi]<;>rfl)) (.c (pkt (bool (Qd (c≥0))) (bool false) hi) (.c (show(Qd (c≥0)==false)=true from(by rw[hq1]<;>rfl)) (.c (show(Qd (c≥0)==false)=true from(by rw[hq1]<;>rfl)) (.c (show(Qd (c≥0)==false)=true from(by rw[hq1]<;>rfl)) (.c (show(Qd (c≥0)==false)=true from(by rw[hq1]<;>rfl)) (.c (show(Qd (b.no>0)==true)=true from(by rw[hq2]<;>rfl)) (.c (show(Qd (b.no>0)==true)=true from(by rw[hq2]<;>rfl)) (.c (show(Qd (b.no>0)==true)=true from(by rw[hq2]<;>rfl)) (.c (show(Qd (b.no>0)==true)=true from(by rw[hq2]<;>rfl)) (.c (show(Qd (b.no>0)==true)=true from(by rw[hq2]<;>rfl)) (.c (show(Qd (b.no>0)==true)=true from(by rw[hq2]<;>rfl)) (.c (show(Qd (b.time≥e.time)==false)=true from(by rw[hq3]<;>rfl)) (.c (show(Qd (b.time≥e.time)==false)=true from(by rw[hq3]<;>rfl)) (.c (show(Qd (b.time≥e.time)==false)=true from(by rw[hq3]<;>rfl)) (.c (show(Qd (b.time≥e.time)==false)=true from(by rw[hq3]<;>rfl)) (.c (show(Qd (b.time≥e.time)==false)=true from(by rw[hq3]<;>rfl)) (.c (show(Qd (b.no>0)==true)=true from(by rw[hq2]<;>rfl)) (.c (pkf (bool true) (bool (Qd (b.no≥e.no))) hq3) (.c (show(Qd (c≥0)==false)=true from(by rw[hq1]<;>rfl)) (.c (pkt (bool (Qd (b.no≥e.no))) (bool false) hq2) (.c (pkf (bool true) (bool (Qd (b.no≥e.no))) hq1) (.c hq4 (.c (show Db 1 (.var (Dn (stA lst)))=true from ?_) .n)))))))))))))))))))))))))))))))))))))) (by first|rfl|(rw[hw]<;>rfl)) (by first|rfl|(rw[hw]<;>rfl))<;>(first|assumption|rfl|exact iJ _ _|exact sT rfl hb (by simp[hn])|exact sU (b:=e.st) rfl (Cx.1 hb).1 (by simp[hn]))
noncomputable abbrev u3(lst:List StT)(e:EntT)(b:StT):List Blk:=[.var (Dn (stA lst)),.var [int e.time,int e.campus,int e.no,int e.kind,int e.stu,int e.obj,int e.term,int e.val,int e.frm,int e.til,aw e.text,int e.sec.id,int e.sec.course,int e.sec.term,int e.sec.campus,int e.sec.seats,aa (Cq CE e.sec.mts),aa (Cq CA e.sec.grs),aa (Cq ab e.sec.labs),bool e.sec.lab,int e.req.campus,int e.req.no,int e.req.st,int e.req.kind,int e.req.time,aa (Cq Cv e.req.chs),int e.req.gsec,int e.req.glab,int e.req.key,int e.r,int e.s],.var [int e.time,int e.campus,int e.no],.var [int b.time,int b.campus,int b.no]]
theorem fi_E{l:List (List Dp)}{lst:List StT}{e:EntT}{b:StT}{n:Nat}{p:EntT}{c:Int}{i:Nat}(hr:ad (i:Int) l e.row 31)(hlt:Qd ((i:Int)<(l.length:Int))=true)(hp:ad (Cz Ct ((i:Int) - 1)) l p.row 31)(hcp:∀h,Ev Cr Γ0 43 [.agg [int p.time,int p.campus,int p.no],.agg [int e.time,int e.campus,int e.no]] h (int c) h)(hc:inR e.campus 7=true)(hn:e.campus.toNat=n)(hb:lst[n]? = some b)(hi:Qd ((i:Int)>0)=true)(hq1:Qd (c≥0)=false)(hq2:Qd (b.no>0)=true)(hq3:Qd (b.time≥e.time)=false)(hq4:Qd (b.no≥e.no)=false)(hw:Ct.wrap ((i:Int)+1)=((i+1:Nat):Int)):(CW Cr Γ0 [] false (sub Fo 0) (fiS l lst i) .normal (fiS l (lst.set n e.st) ((i+1:Nat):Int))):=by
 let v1:List D:=[int e.time,int e.campus,int e.no]
 let v2:=Dn (stA (List.set lst n (EntT.st e)))
 let v3:=Cq CE p.sec.mts
 let v4:=Cq CA p.sec.grs
 let v5:=Cq ab p.sec.labs
 let v6:=Cq Cv p.req.chs
 let v7:List D:=[int b.time,int b.campus,int b.no]
 let v8:=Cq CE e.sec.mts
 let v9:=Cq CA e.sec.grs
 let v10:=Cq ab e.sec.labs
 let v11:=Cq Cv e.req.chs
 let v0:List D:=[int e.time,int e.campus,int e.no,int e.kind,int e.stu,int e.obj,int e.term,int e.val,int e.frm,int e.til,aw e.text,int e.sec.id,int e.sec.course,int e.sec.term,int e.sec.campus,int e.sec.seats,aa v8,aa v9,aa v10,bool e.sec.lab,int e.req.campus,int e.req.no,int e.req.st,int e.req.kind,int e.req.time,aa v11,int e.req.gsec,int e.req.glab,int e.req.key,int e.r,int e.s]
 refine zX {t:=mkT 58 0 [(0,aa l),(3,.ref (.ptr 0 0)),(8,aa l),(9,int (↑(Cw l):Int)),(10,int (Cz Ct ((↑i:Int)+1)))],h:=[.var v2],m:=[]} C7 [.st (.mask [0,3,8,9,10]),.st (.trimV 1)] [.b true,.row [vi e.time,vi e.campus,vi e.no,vi e.kind,vi e.stu,vi e.obj,vi e.term,vi e.val,vi e.frm,vi e.til,vs e.text,vi e.sec.id,vi e.sec.course,vi e.sec.term,vi e.sec.campus,vi e.sec.seats,CB v8,CB v9,CB v10,CZ (CI e.sec.lab),vi e.req.campus,vi e.req.no,vi e.req.st,vi e.req.kind,vi e.req.time,CB v11,vi e.req.gsec,vi e.req.glab,vi e.req.key,vi e.r,vi e.s],.ov 20 (ag (EL b)),.g true,.g true,.g true,.g true,.row [vi p.time,vi p.campus,vi p.no,vi p.kind,vi p.stu,vi p.obj,vi p.term,vi p.val,vi p.frm,vi p.til,vs p.text,vi p.sec.id,vi p.sec.course,vi p.sec.term,vi p.sec.campus,vi p.sec.seats,CB v3,CB v4,CB v5,CZ (CI p.sec.lab),vi p.req.campus,vi p.req.no,vi p.req.st,vi p.req.kind,vi p.req.time,CB v6,vi p.req.gsec,vi p.req.glab,vi p.req.key,vi p.r,vi p.s],.g true,.g true,.g true,.g true,.val (int c),.g true,.ov 33 (bool (Qd (c≥0))),.g true,.g true,.g true,.g true,.g true,.g true,.g true,.g true,.g true,.g true,.g true,.g true,.g true,.g true,.g true,.g true,.ov 50 (bool (Qd (b.no≥e.no))),.g true,.ov 51 (bool (Qd (b.no≥e.no))),.ov 52 (bool (Qd (b.no≥e.no))),.b false,.oh 10056 Fh [.var v2,.var (Cq Ej (CG e)),.var (Cq Ej (EL (EntT.st e))),.var (Cq Ej (EL b))]] (.c hlt (.c hr (.c hc (.c (show bB Cr [.var (Dn (stA lst)),.var v0,.var v1] 28 (.ref (.ptr 0 (0+CQ e.campus*3)))=some (CF v7) from ?_) (.c (show(Qd ((↑i:Int)>0)==true)=true from(by subst v1 v2 v3 v4 v5 v6 v7 v8 v9 v10 v11 v0;rw[hi]<;>rfl)) (.c (show(Qd ((↑i:Int)>0)==true)=true from(by subst v1 v2 v3 v4 v5 v6 v7 v8 v9 v10 v11 v0;rw[hi]<;>rfl)) (.c (show(Qd ((↑i:Int)>0)==true)=true from(by subst v1 v2 v3 v4 v5 v6 v7 v8 v9 v10 v11 v0;rw[hi]<;>rfl)) (.c (show(Qd ((↑i:Int)>0)==true)=true from(by subst v1 v2 v3 v4 v5 v6 v7 v8 v9 v10 v11 v0;rw[hi]<;>rfl)) (.c hp (.c (show(Qd ((↑i:Int)>0)==true)=true from(by subst v1 v2 v3 v4 v5 v6 v7 v8 v9 v10 v11 v0;rw[hi]<;>rfl)) (.c (show(Qd ((↑i:Int)>0)==true)=true from(by subst v1 v2 v3 v4 v5 v6 v7 v8 v9 v10 v11 v0;rw[hi]<;>rfl)) (.c (show(Qd ((↑i:Int)>0)==true)=true from(by subst v1 v2 v3 v4 v5 v6 v7 v8 v9 v10 v11 v0;rw[hi]<;>rfl)) (.c (show(Qd ((↑i:Int)>0)==true)=true from(by subst v1 v2 v3 v4 v5 v6 v7 v8 v9 v10 v11 v0;rw[hi]<;>rfl)) (.c (@hcp (u3 lst e b)) (.c (show(Qd ((↑i:Int)>0)==true)=true from(by subst v1 v2 v3 v4 v5 v6 v7 v8 v9 v10 v11 v0;rw[hi]<;>rfl)) (.c (pkt (bool (Qd (c≥0))) (bool false) hi) (.c (show(Qd (c≥0)==false)=true from(by subst v1 v2 v3 v4 v5 v6 v7 v8 v9 v10 v11 v0;rw[hq1]<;>rfl)) (.c (show(Qd (c≥0)==false)=true from(by subst v1 v2 v3 v4 v5 v6 v7 v8 v9 v10 v11 v0;rw[hq1]<;>rfl)) (.c (show(Qd (c≥0)==false)=true from(by subst v1 v2 v3 v4 v5 v6 v7 v8 v9 v10 v11 v0;rw[hq1]<;>rfl)) (.c (show(Qd (c≥0)==false)=true from(by subst v1 v2 v3 v4 v5 v6 v7 v8 v9 v10 v11 v0;rw[hq1]<;>rfl)) (.c (show(Qd (b.no>0)==true)=true from(by subst v1 v2 v3 v4 v5 v6 v7 v8 v9 v10 v11 v0;rw[hq2]<;>rfl)) (.c (show(Qd (b.no>0)==true)=true from(by subst v1 v2 v3 v4 v5 v6 v7 v8 v9 v10 v11 v0;rw[hq2]<;>rfl)) (.c (show(Qd (b.no>0)==true)=true from(by subst v1 v2 v3 v4 v5 v6 v7 v8 v9 v10 v11 v0;rw[hq2]<;>rfl)) (.c (show(Qd (b.no>0)==true)=true from(by subst v1 v2 v3 v4 v5 v6 v7 v8 v9 v10 v11 v0;rw[hq2]<;>rfl)) (.c (show(Qd (b.no>0)==true)=true from(by subst v1 v2 v3 v4 v5 v6 v7 v8 v9 v10 v11 v0;rw[hq2]<;>rfl)) (.c (show(Qd (b.no>0)==true)=true from(by subst v1 v2 v3 v4 v5 v6 v7 v8 v9 v10 v11 v0;rw[hq2]<;>rfl)) (.c (show(Qd (b.time≥e.time)==false)=true from(by subst v1 v2 v3 v4 v5 v6 v7 v8 v9 v10 v11 v0;rw[hq3]<;>rfl)) (.c (show(Qd (b.time≥e.time)==false)=true from(by subst v1 v2 v3 v4 v5 v6 v7 v8 v9 v10 v11 v0;rw[hq3]<;>rfl)) (.c (show(Qd (b.time≥e.time)==false)=true from(by subst v1 v2 v3 v4 v5 v6 v7 v8 v9 v10 v11 v0;rw[hq3]<;>rfl)) (.c (show(Qd (b.time≥e.time)==false)=true from(by subst v1 v2 v3 v4 v5 v6 v7 v8 v9 v10 v11 v0;rw[hq3]<;>rfl)) (.c (show(Qd (b.time≥e.time)==false)=true from(by subst v1 v2 v3 v4 v5 v6 v7 v8 v9 v10 v11 v0;rw[hq3]<;>rfl)) (.c (show(Qd (b.no>0)==true)=true from(by subst v1 v2 v3 v4 v5 v6 v7 v8 v9 v10 v11 v0;rw[hq2]<;>rfl)) (.c (pkf (bool true) (bool (Qd (b.no≥e.no))) hq3) (.c (show(Qd (c≥0)==false)=true from(by subst v1 v2 v3 v4 v5 v6 v7 v8 v9 v10 v11 v0;rw[hq1]<;>rfl)) (.c (pkt (bool (Qd (b.no≥e.no))) (bool false) hq2) (.c (pkf (bool true) (bool (Qd (b.no≥e.no))) hq1) (.c hq4 (.c hc (.c (show fy Cr (u3 lst e b) 28 (evalD Γ0 [aa l,Fh,Fh,.ref (.ptr 0 0),int (↑i:Int),.ref (.ptr 1 0),.ref (.ptr 2 0),.ref (.ptr 3 0),aa l,int (↑(Cw l):Int),int (↑i:Int),bool (Qd ((↑i:Int)<(↑(Cw l):Int))),int (↑i:Int),Ho [vi e.time,vi e.campus,vi e.no,vi e.kind,vi e.stu,vi e.obj,vi e.term,vi e.val,vi e.frm,vi e.til,vs e.text,vi e.sec.id,vi e.sec.course,vi e.sec.term,vi e.sec.campus,vi e.sec.seats,CB v8,CB v9,CB v10,CZ (CI e.sec.lab),vi e.req.campus,vi e.req.no,vi e.req.st,vi e.req.kind,vi e.req.time,CB v11,vi e.req.gsec,vi e.req.glab,vi e.req.key,vi e.r,vi e.s],CF v0,.ref (.ptr 1 0),CF v1,.ref (.ptr 2 1),int e.campus,.ref (.ptr 0 (0+CQ e.campus*3)),CF v7,int (↑i:Int),bool (Qd ((↑i:Int)>0)),bool (Qd ((↑i:Int)>0)),aa l,int (↑i:Int),int (Cz Ct ((↑i:Int) - 1)),Ho [vi p.time,vi p.campus,vi p.no,vi p.kind,vi p.stu,vi p.obj,vi p.term,vi p.val,vi p.frm,vi p.til,vs p.text,vi p.sec.id,vi p.sec.course,vi p.sec.term,vi p.sec.campus,vi p.sec.seats,CB v3,CB v4,CB v5,CZ (CI p.sec.lab),vi p.req.campus,vi p.req.no,vi p.req.st,vi p.req.kind,vi p.req.time,CB v6,vi p.req.gsec,vi p.req.glab,vi p.req.key,vi p.r,vi p.s],Ho [vi p.time,vi p.campus,vi p.no,vi p.kind,vi p.stu,vi p.obj,vi p.term,vi p.val,vi p.frm,vi p.til,vs p.text,vi p.sec.id,vi p.sec.course,vi p.sec.term,vi p.sec.campus,vi p.sec.seats,CB v3,CB v4,CB v5,CZ (CI p.sec.lab),vi p.req.campus,vi p.req.no,vi p.req.st,vi p.req.kind,vi p.req.time,CB v6,vi p.req.gsec,vi p.req.glab,vi p.req.key,vi p.r,vi p.s],CF [int p.time,int p.campus,int p.no],CF v1,int c,bool (Qd (c≥0)),bool (Qd (c≥0)),bool (Qd (c≥0)),.ref (.ptr 3 2),int b.no,bool (Qd (b.no>0)),bool (Qd (b.no>0)),.ref (.ptr 3 0),int b.time,.ref (.ptr 2 0),int e.time,bool (Qd (b.time≥e.time)),bool (Qd (b.time≥e.time)),.ref (.ptr 3 2),int b.no,.ref (.ptr 2 2),int e.no,bool (Qd (b.no≥e.no)),bool (Qd (b.no≥e.no)),bool (Qd (b.no≥e.no)),bool (Qd (b.no≥e.no)),.ref (.ptr 2 1),int e.campus,CF v1,.ref (.ptr 0 (0+CQ e.campus*3)),Fh] (CK 56)) (evalD Γ0 [aa l,Fh,Fh,.ref (.ptr 0 0),int (↑i:Int),.ref (.ptr 1 0),.ref (.ptr 2 0),.ref (.ptr 3 0),aa l,int (↑(Cw l):Int),int (↑i:Int),bool (Qd ((↑i:Int)<(↑(Cw l):Int))),int (↑i:Int),Ho [vi e.time,vi e.campus,vi e.no,vi e.kind,vi e.stu,vi e.obj,vi e.term,vi e.val,vi e.frm,vi e.til,vs e.text,vi e.sec.id,vi e.sec.course,vi e.sec.term,vi e.sec.campus,vi e.sec.seats,CB v8,CB v9,CB v10,CZ (CI e.sec.lab),vi e.req.campus,vi e.req.no,vi e.req.st,vi e.req.kind,vi e.req.time,CB v11,vi e.req.gsec,vi e.req.glab,vi e.req.key,vi e.r,vi e.s],CF v0,.ref (.ptr 1 0),CF v1,.ref (.ptr 2 1),int e.campus,.ref (.ptr 0 (0+CQ e.campus*3)),CF v7,int (↑i:Int),bool (Qd ((↑i:Int)>0)),bool (Qd ((↑i:Int)>0)),aa l,int (↑i:Int),int (Cz Ct ((↑i:Int) - 1)),Ho [vi p.time,vi p.campus,vi p.no,vi p.kind,vi p.stu,vi p.obj,vi p.term,vi p.val,vi p.frm,vi p.til,vs p.text,vi p.sec.id,vi p.sec.course,vi p.sec.term,vi p.sec.campus,vi p.sec.seats,CB v3,CB v4,CB v5,CZ (CI p.sec.lab),vi p.req.campus,vi p.req.no,vi p.req.st,vi p.req.kind,vi p.req.time,CB v6,vi p.req.gsec,vi p.req.glab,vi p.req.key,vi p.r,vi p.s],Ho [vi p.time,vi p.campus,vi p.no,vi p.kind,vi p.stu,vi p.obj,vi p.term,vi p.val,vi p.frm,vi p.til,vs p.text,vi p.sec.id,vi p.sec.course,vi p.sec.term,vi p.sec.campus,vi p.sec.seats,CB v3,CB v4,CB v5,CZ (CI p.sec.lab),vi p.req.campus,vi p.req.no,vi p.req.st,vi p.req.kind,vi p.req.time,CB v6,vi p.req.gsec,vi p.req.glab,vi p.req.key,vi p.r,vi p.s],CF [int p.time,int p.campus,int p.no],CF v1,int c,bool (Qd (c≥0)),bool (Qd (c≥0)),bool (Qd (c≥0)),.ref (.ptr 3 2),int b.no,bool (Qd (b.no>0)),bool (Qd (b.no>0)),.ref (.ptr 3 0),int b.time,.ref (.ptr 2 0),int e.time,bool (Qd (b.time≥e.time)),bool (Qd (b.time≥e.time)),.ref (.ptr 3 2),int b.no,.ref (.ptr 2 2),int e.no,bool (Qd (b.no≥e.no)),bool (Qd (b.no≥e.no)),bool (Qd (b.no≥e.no)),bool (Qd (b.no≥e.no)),.ref (.ptr 2 1),int e.campus,CF v1,.ref (.ptr 0 (0+CQ e.campus*3)),Fh] (CK 55))=some [.var v2,.var v0,.var [int (EntT.st e).time,int (EntT.st e).campus,int (EntT.st e).no],.var v7] from ?_) (.c (show Db 1 (.var v2)=true from ?_) .n)))))))))))))))))))))))))))))))))))))))) (by subst v1 v2 v3 v4 v5 v6 v7 v8 v9 v10 v11 v0;first|rfl|(rw[hw]<;>rfl)) (by subst v1 v2 v3 v4 v5 v6 v7 v8 v9 v10 v11 v0;first|rfl|(rw[hw]<;>rfl))<;>subst v1 v2 v3 v4 v5 v6 v7 v8 v9 v10 v11 v0<;>(first|assumption|rfl|exact iJ _ _|exact sT rfl hb (by simp[hn])|exact sU (b:=e.st) rfl (Cx.1 hb).1 (by simp[hn]))
theorem AO{l:List (List Dp)}{lst:List StT}{i:Nat}(hlt:Qd ((i:Int)<(l.length:Int))=false):(CW Cr Γ0 [] false (sub Fo 0) (fiS l lst i) (.exit 0) (fiE lst)):=by
 exact zx [.st (.mask [])] [.b false] (.c hlt .n)
def z7:List StT:=[⟨0,0,0⟩,⟨0,0,0⟩,⟨0,0,0⟩,⟨0,0,0⟩,⟨0,0,0⟩,⟨0,0,0⟩,⟨0,0,0⟩]
def fiF(e:StT)(s:List StT×Option StT):(List StT×Option StT)⊕List StT :=
 match (match s.2 with|none=>false|some p=>Qd (bf p e≥0))||fiB (s.1.getD e.campus.toNat ⟨0,0,0⟩) e with
 | true=>.inr s.1
 | false=>.inl (s.1.set e.campus.toNat e,some e)
structure FiInv (l:List EntT) (j:Nat) (s:List StT×Option StT):Prop where
 n:s.1.length=7
 z:j=0→s.1=z7∧s.2=none
 p:∀i,j=i+1→∃e,l[i]? = some e∧s.2=some e.st
theorem inR7{n:Int}(h0:0≤n)(h7:n<7):inR n 7=true:=by simp[inR];omega
theorem AP{l:List EntT}(hs:am l)(hv:∀e∈l,0≤e.campus∧e.campus<7):CW Cr Γ0 [] false (.loop (sub Fo 0)) (fiS (l.map CG) z7 0)
  (aj (.exit 0) (fun a:List StT×Option StT=>fiE a.1) (fun a:List StT=>(.ret,fiX a)) (forL (fun e:EntT=>fiF e.st) l (z7,none))).1 (aj (.exit 0) (fun a:List StT×Option StT=>fiE a.1) (fun a:List StT=>(.ret,fiX a)) (forL (fun e:EntT=>fiF e.st) l (z7,none))).2:=by
 refine CW.each l (fun e:EntT=>fiF e.st) (fun j a=>fiS (l.map CG) a.1 (j:Int)) (.exit 0) _ _ (FiInv l) (by simp) (fun _=>by simp) ?_ ?_ (z7,none) ⟨rfl,fun _=>⟨rfl,rfl⟩,fun i h=>by omega⟩
 ·intro j e a hj I
  have hlt:=(Cx.1 hj).1
  have hm:e∈l:=Da hj
  have ⟨c0,c7⟩:=hv e hm
  have hc:=inR7 c0 c7
  have hr:=rowAt (row:=CG) (sz:=31) hj rfl
  have hlt2:=lt_len CG hlt
  have hw:=wrap_succ hlt hs
  have hb:a.1[e.campus.toNat]? = some (a.1.getD e.campus.toNat ⟨0,0,0⟩):=by
   rw[List.getD,List.getElem?_eq_getElem (by rw[I.n];omega)];rfl
  generalize hB:a.1.getD e.campus.toNat ⟨0,0,0⟩=b at hb
  have hB':a.1.getD e.st.campus.toNat ⟨0,0,0⟩=b:=hB
  refine⟨fun a' ha=>?_,?_⟩
  ·unfold fiF at ha
   split at ha
   ·cases ha
   ·cases ha
    exact⟨by simp[I.n],fun h=>by omega,fun i h=>⟨e,by rw[←show j=i by omega];exact hj,rfl⟩⟩
  ·cases j with
   | zero =>
    obtain⟨h1,h2⟩:=I.z rfl
    have hbz:b=⟨0,0,0⟩:=by
     rw[←hB,h1]
     have:e.campus.toNat=0∨e.campus.toNat=1∨e.campus.toNat=2∨e.campus.toNat=3∨e.campus.toNat=4∨e.campus.toNat=5∨e.campus.toNat=6:=by omega
     rcases this with h|h|h|h|h|h|h<;>rw[h]<;>rfl
    have e1:fiF e.st a=.inl (a.1.set e.campus.toNat e.st,some e.st):=by
     unfold fiF
     rw[h2,hB',hbz]
     rfl
    rw[e1]
    exact fi_0 hr hlt2 hc rfl hb (by rw[hbz];rfl)
   | succ i =>
    obtain⟨p,hp,hp2⟩:=I.p i rfl
    have hlp:=(Cx.1 hp).1
    have hwp:Cz Ct (((i+1:Nat):Int) - 1)=((i:Nat):Int):=by
     have:am l:=hs
     unfold am at this
     rw[wrap_i64 (by omega) (by omega)];omega
    have hrp:ad (Cz Ct (((i+1:Nat):Int) - 1)) (l.map CG) p.row 31:=by
     rw[hwp]
     exact rowAt (row:=CG) (sz:=31) hp rfl
    have hcp:∀h,Ev Cr Γ0 43 [.agg [int p.time,int p.campus,int p.no],.agg [int e.time,int e.campus,int e.no]] h (int (bf p.st e.st)) h:=fun h=>cJ (a:=p.st) (b:=e.st) h
    have hi:Qd (((i+1:Nat):Int)>0)=true:=by simp only[decide_eq_true_eq];omega
    have eF:fiF e.st a=match Qd (bf p.st e.st≥0)||fiB b e.st with|true=>.inr a.1|false=>.inl (a.1.set e.campus.toNat e.st,some e.st):=by
     unfold fiF
     rw[hp2,hB']
     rfl
    rw[eF]
    unfold fiB
    cases q1:Qd (bf p.st e.st≥0) with
    | true=>exact fi_A hr hlt2 hrp hcp hc rfl hb hi q1
    | false =>
     cases q2:Qd (b.no>0) with
     | false=>exact fi_B hr hlt2 hrp hcp hc rfl hb hi q1 q2 hw
     | true =>
      cases q3:Qd (b.time≥e.st.time) with
      | true=>exact fi_C hr hlt2 hrp hcp hc rfl hb hi q1 q2 q3
      | false =>
       cases q4:Qd (b.no≥e.st.no) with
       | true=>exact fi_D hr hlt2 hrp hcp hc rfl hb hi q1 q2 q3 q4
       | false=>exact fi_E hr hlt2 hrp hcp hc rfl hb hi q1 q2 q3 q4 hw
 ·intro a _
  exact AO (a9 CG l)
theorem fit_x{L:List (List Dp)}{lst:List StT}(hl:CW Cr Γ0 [] false (.loop (sub Fo 0)) (fiS L z7 0) .ret (fiX lst))(h:List Blk):(Ev Cr Γ0 27 [aa L] h (bool false) h):=by
 have hl0:=(@hl)
 exact z0 [.sum [0,3,8,9,10] (Dj) {t:=mkT 58 0 [(2,bool false)],h:=[.var (Dn (stA lst))],m:=[]}] (.c hl0 .n) h
theorem fit_o{L:List (List Dp)}{lst:List StT}(hl:CW Cr Γ0 [] false (.loop (sub Fo 0)) (fiS L z7 0) (.exit 0) (fiE lst))(h:List Blk):(Ev Cr Γ0 27 [aa L] h (bool true) h):=by
 have hl0:=(@hl)
 exact z0 [.sum [0,3,8,9,10] (C4 0) {t:=mkT 58 0 [],h:=[.var (Dn (stA lst))],m:=[]}] (.c hl0 .n) h
def fitB(l:List EntT):Bool:=match forL (fun e:EntT=>fiF e.st) l (z7,none) with
 | .inl _=>true
 | .inr _=>false
theorem u4{l:List EntT}(hs:am l)(hv:∀e∈l,0≤e.campus∧e.campus<7)(h:List Blk):Ev Cr Γ0 27 [aa (l.map CG)] h (bool (fitB l)) h:=by
 have:=AP hs hv
 unfold fitB
 cases hf:forL (fun e:EntT=>fiF e.st) l (z7,none) with
 | inl a=>rw[hf] at this;exact fit_o this h
 | inr n=>rw[hf] at this;exact fit_x this h
abbrev lcS(l:List (List Dp))(i:Int):AS:={t:=mkT 23 0 [(0,aa l),(2,int 0),(8,aa l),(9,int (l.length:Int)),(10,int i)],h:=[],m:=[]}
noncomputable abbrev sV(e:EntT):List Blk:=[.var [int e.time,int e.campus,int e.no,int e.kind,int e.stu,int e.obj,int e.term,int e.val,int e.frm,int e.til,aw e.text,int e.sec.id,int e.sec.course,int e.sec.term,int e.sec.campus,int e.sec.seats,aa (Cq CE e.sec.mts),aa (Cq CA e.sec.grs),aa (Cq ab e.sec.labs),bool e.sec.lab,int e.req.campus,int e.req.no,int e.req.st,int e.req.kind,int e.req.time,aa (Cq Cv e.req.chs),int e.req.gsec,int e.req.glab,int e.req.key,int e.r,int e.s]]
theorem AQ{l:List (List Dp)}{e:EntT}{i:Nat}(hr:ad (i:Int) l e.row 31)(hlt:Qd ((i:Int)<(l.length:Int))=true)(hw:Ct.wrap ((i:Int)+1)=((i+1:Nat):Int))(hck:∀h,Ev Cr Γq 25 [ag e.row] h (int 0) h):(CW Cr Γq [] false (sub GH 0) (lcS l i) .normal (lcS l ((i+1:Nat):Int))):=by
 refine zX {t:=mkT 23 0 [(0,aa l),(2,int 0),(8,aa l),(9,int (↑(Cw l):Int)),(10,int (Cz Ct ((↑i:Int)+1)))],h:=[],m:=[]} C7 [.st (.mask [0,2,8,9,10]),.st (.trim 0)] [.b true,.row [vi e.time,vi e.campus,vi e.no,vi e.kind,vi e.stu,vi e.obj,vi e.term,vi e.val,vi e.frm,vi e.til,vs e.text,vi e.sec.id,vi e.sec.course,vi e.sec.term,vi e.sec.campus,vi e.sec.seats,CB (Cq CE e.sec.mts),CB (Cq CA e.sec.grs),CB (Cq ab e.sec.labs),CZ (CI e.sec.lab),vi e.req.campus,vi e.req.no,vi e.req.st,vi e.req.kind,vi e.req.time,CB (Cq Cv e.req.chs),vi e.req.gsec,vi e.req.glab,vi e.req.key,vi e.r,vi e.s],.val (int 0),.b false] (.c hlt (.c hr (.c (@hck (sV e)) (.c (show(0 != 0)=false from rfl) .n)))) ?_ ?_<;>(first|rfl|(rw[hw]<;>rfl))
noncomputable abbrev u5(e:EntT):List Blk:=[.var [int e.time,int e.campus,int e.no,int e.kind,int e.stu,int e.obj,int e.term,int e.val,int e.frm,int e.til,aw e.text,int e.sec.id,int e.sec.course,int e.sec.term,int e.sec.campus,int e.sec.seats,aa (Cq CE e.sec.mts),aa (Cq CA e.sec.grs),aa (Cq ab e.sec.labs),bool e.sec.lab,int e.req.campus,int e.req.no,int e.req.st,int e.req.kind,int e.req.time,aa (Cq Cv e.req.chs),int e.req.gsec,int e.req.glab,int e.req.key,int e.r,int e.s]]
theorem lc_bad{l:List (List Dp)}{e:EntT}{i:Nat}{r:Int}(hr:ad (i:Int) l e.row 31)(hlt:Qd ((i:Int)<(l.length:Int))=true)(hck:∀h,Ev Cr Γq 25 [ag e.row] h (int r) h)(hn:(r != 0)=true):(CW Cr Γq [] false (sub GH 0) (lcS l i) .ret {t:=mkT 23 0 [(2,int r)],h:=[],m:=[]}):=by
 exact zx [.st (.mask [2]),.st (.trim 0)] [.b true,.row [vi e.time,vi e.campus,vi e.no,vi e.kind,vi e.stu,vi e.obj,vi e.term,vi e.val,vi e.frm,vi e.til,vs e.text,vi e.sec.id,vi e.sec.course,vi e.sec.term,vi e.sec.campus,vi e.sec.seats,CB (Cq CE e.sec.mts),CB (Cq CA e.sec.grs),CB (Cq ab e.sec.labs),CZ (CI e.sec.lab),vi e.req.campus,vi e.req.no,vi e.req.st,vi e.req.kind,vi e.req.time,CB (Cq Cv e.req.chs),vi e.req.gsec,vi e.req.glab,vi e.req.key,vi e.r,vi e.s],.val (int r),.b true] (.c hlt (.c hr (.c (@hck (u5 e)) (.c hn .n))))
theorem AR{l:List (List Dp)}{i:Nat}(hlt:Qd ((i:Int)<(l.length:Int))=false):(CW Cr Γq [] false (sub GH 0) (lcS l i) (.exit 0) {t:=mkT 23 0 [(0,aa l)],h:=[],m:=[]}):=by
 exact zx [.st (.mask [0])] [.b false] (.c hlt .n)
def lcF(e:EntT)(_:Unit):Unit⊕Int:=match bz e != 0 with
 | true=>.inr (bz e)
 | false=>.inl ()
theorem AU{l:List EntT}(hs:am l)(ho:∀e∈l,e.ok):CW Cr Γq [] false (.loop (sub GH 0)) (lcS (l.map CG) 0)
  (aj (.exit 0) (fun _:Unit=>{t:=mkT 23 0 [(0,aa (l.map CG))],h:=[],m:=[]}) (fun r:Int=>(.ret,{t:=mkT 23 0 [(2,int r)],h:=[],m:=[]})) (forL lcF l ())).1 (aj (.exit 0) (fun _:Unit=>{t:=mkT 23 0 [(0,aa (l.map CG))],h:=[],m:=[]}) (fun r:Int=>(.ret,{t:=mkT 23 0 [(2,int r)],h:=[],m:=[]})) (forL lcF l ())).2:=by
 refine CW.each l lcF (fun j _=>lcS (l.map CG) (j:Int)) (.exit 0) _ _ (fun _ _=>True) (by simp) (fun _=>by simp) ?_ ?_ () trivial
 ·intro j e a hj _
  have hlt:=(Cx.1 hj).1
  have hr:=rowAt (row:=CG) (sz:=31) hj rfl
  have hck:=fun h=>uY (ho e (Da hj)) h
  refine⟨fun _ _=>trivial,?_⟩
  cases hb:bz e != 0 with
  | true =>
   have e1:lcF e a=.inr (bz e):=by unfold lcF;rw[hb]
   rw[e1]
   exact lc_bad hr (lt_len CG hlt) hck hb
  | false =>
   have e1:lcF e a=.inl ():=by unfold lcF;rw[hb]
   rw[e1]
   have h0:bz e=0:=by simpa using hb
   rw[h0] at hck
   exact AQ hr (lt_len CG hlt) (wrap_succ hlt hs) hck
 ·intro a _
  exact AR (a9 CG l)
theorem AV{L:List (List Dp)}(hb:Qd ((L.length:Int)>65536)=true)(h:List Blk):(Ev Cr Γq 12 [aa L] h (int 2) h):=by
 exact z0 [.b true] (.c hb .n) h
theorem led_r{L:List (List Dp)}{r:Int}(hb:Qd ((L.length:Int)>65536)=false)(hl:CW Cr Γq [] false (.loop (sub GH 0)) (lcS L 0) .ret {t:=mkT 23 0 [(2,int r)],h:=[],m:=[]})(h:List Blk):(Ev Cr Γq 12 [aa L] h (int r) h):=by
 have hl0:=(@hl)
 exact z0 [.b false,.sum [0,2,8,9,10] (Dj) {t:=mkT 23 0 [(2,int r)],h:=[],m:=[]}] (.c hb (.c hl0 .n)) h
theorem led_f{L:List (List Dp)}{f:Bool}(hb:Qd ((L.length:Int)>65536)=false)(hl:CW Cr Γq [] false (.loop (sub GH 0)) (lcS L 0) (.exit 0) {t:=mkT 23 0 [(0,aa L)],h:=[],m:=[]})(hf:∀h,Ev Cr Γ0 27 [aa L] h (bool f) h)(h:List Blk):(Ev Cr Γq 12 [aa L] h (int (bif f then 0 else 390)) h):=by
 have hl0:=(@hl)
 cases hc1:!f
 ·exact zD (int 0) [.b false,.sum [0,2,8,9,10] (C4 0) {t:=mkT 23 0 [(0,aa L)],h:=[],m:=[]},.val (bool f),.b false] (.c hb (.c hl0 (.c (Ev.glob0 (Γ':=Γq) (@hf ([]))) (.c hc1 .n)))) h (by first|rfl|(cases f<;>simp_all))
 ·exact zD (int 390) [.b false,.sum [0,2,8,9,10] (C4 0) {t:=mkT 23 0 [(0,aa L)],h:=[],m:=[]},.val (bool f),.b true] (.c hb (.c hl0 (.c (Ev.glob0 (Γ':=Γq) (@hf ([]))) (.c hc1 .n)))) h (by first|rfl|(cases f<;>simp_all))
theorem kQ{e:EntT}(h:bz e=0):fU e.st=0:=by
 unfold bz at h
 cases hb:(fU e.st != 0) with
 | true=>rw[hb] at h;exact h
 | false=>simpa using hb
theorem nt{s:StT}(h:fU s=0):(1≤s.time∧s.time≤1048576)∧(0≤s.campus∧s.campus<7)∧(1≤s.no∧s.no≤1048576):=by
 unfold fU at h
 cases hb:pY s with
 | true=>rw[hb] at h;simp at h
 | false =>
  simp[pY,inS] at hb
  omega
theorem nu:∀{l:List EntT},(∃u,forL lcF l ()=.inl u)→∀e∈l,bz e=0
 | [],_,e,he=>by cases he
 | x::l,h,e,he=>by
  obtain⟨u,h⟩:=h
  unfold forL at h
  cases hb:bz x != 0 with
  | true=>simp only[lcF,hb] at h;cases h
  | false =>
   simp only[lcF,hb] at h
   cases he with
   | head=>simpa using hb
   | tail _ he=>exact nu ⟨u,h⟩ e he
def aO(l:List EntT):Int:=match Qd (((l.map CG).length:Int)>65536) with
 | true=>2
 | false=>match forL lcF l () with
  | .inr r=>r
  | .inl _=>bif fitB l then 0 else 390
theorem yL{l:List EntT}(hs:am l)(ho:∀e∈l,e.ok)(h:List Blk):Ev Cr Γq 12 [aa (l.map CG)] h (int (aO l)) h:=by
 unfold aO
 cases hb:Qd (((l.map CG).length:Int)>65536) with
 | true=>exact AV hb h
 | false =>
  have:=AU hs ho
  simp only
  cases hf:forL lcF l () with
  | inr r=>rw[hf] at this;exact led_r hb this h
  | inl u =>
   rw[hf] at this
   have hv:∀e∈l,0≤e.campus∧e.campus<7:=fun e he=>(nt (kQ (nu ⟨u,hf⟩ e he))).2.1
   exact led_f hb this (fun h=>u4 hs hv h) h
def joV(l:List EntT):List (List D):=l.map fun e=>e.row.map .p
theorem AW(l:List EntT)(n:EntT):joV l++[n.row.map .p]=joV (l++[n]):=by simp[joV]
theorem ae(l:List EntT)(n:EntT):joV l++[[int n.time,int n.campus,int n.no,int n.kind,int n.stu,int n.obj,int n.term,int n.val,int n.frm,int n.til,aw n.text,int n.sec.id,int n.sec.course,int n.sec.term,int n.sec.campus,int n.sec.seats,aa (Cq CE n.sec.mts),aa (Cq CA n.sec.grs),aa (Cq ab n.sec.labs),bool n.sec.lab,int n.req.campus,int n.req.no,int n.req.st,int n.req.kind,int n.req.time,aa (Cq Cv n.req.chs),int n.req.gsec,int n.req.glab,int n.req.key,int n.r,int n.s]]=joV (l++[n]):=AW l n
theorem joV_len(l:List EntT):(joV l).length=l.length:=by simp[joV]
theorem aF(f:Ref→D)(l:List EntT):(joV l).map (D.mapRL f)=joV l:=by
 unfold joV
 rw[List.map_map]
 rfl
theorem aG(n:Nat)(l:List EntT):(joV l).all (D.innL n)=true:=by
 unfold joV
 rw[List.all_map]
 exact List.all_eq_true.2 fun e _=>rfl
theorem nv(l:List EntT):joV l=(l.map CG).map (·.map .p):=by simp[joV]
theorem w6{x:List EntT}{i:Nat}{l:EntT}(hx:x[i]? = some l):Cl Cr 28 (joV x) 1 1 i 0 (ag l.st.row):=by
 have e1:(joV x)[i]? = some (l.row.map .p):=by simp[joV,hx]
 unfold Cl
 simp only[e1,if_true,FY]
 rfl
theorem rQ{x:List EntT}{i:Nat}{l:EntT}(hx:x[i]? = some l):Cl Cr 46 (joV x) 1 1 i 0 (ag l.row):=by
 have e1:(joV x)[i]? = some (l.row.map .p):=by simp[joV,hx]
 unfold Cl
 simp only[e1,if_true,FY]
 rfl
abbrev joT:List D:=mkT 45 0 [(4,.ref (.ptr 0 0)),(9,.fn (.func 83) [] [.ref (.ptr 1 0),.ref (.ptr 2 0)])]
noncomputable abbrev joL(f:FuncId)(st:LoopState):Blk:=.loop st none f joT #[10] (aP (sub CO 0)) (aq (sub CO 0))
noncomputable abbrev joH(f:FuncId)(A B:List (List Dp))(x:List EntT)(e:Nat)(st:LoopState)(more:List Blk):List Blk:=[.var [.ref (.vec 3 e)],.var [aa A],.var [aa B],.vec (joV x) e 31,.defd,joL f st]++more
abbrev joU:List D:=mkT 45 0 [(4,.ref (.ptr 0 0)),(5,.ref (.ptr 7 0))]
abbrev bp(n:EntT):Blk:=.var (n.row.map .p)
theorem rR{f:FuncId}{A B:List (List Dp)}{x:List EntT}{n:EntT}:(CW Cr Γ0 (joH f A B x 1 .ready [bp n]) true (aP (sub CO 0)) {t:=dh joT [(10,ag n.row)],h:=joH f A B x 1 .ready [bp n],m:=[]} .normal {t:=joU,h:=joH f A B x 1 .ready [bp n,bp n],m:=[]}):=by
 let v0:List D:=[int n.time,int n.campus,int n.no,int n.kind,int n.stu,int n.obj,int n.term,int n.val,int n.frm,int n.til,aw n.text,int n.sec.id,int n.sec.course,int n.sec.term,int n.sec.campus,int n.sec.seats,aa (Cq CE n.sec.mts),aa (Cq CA n.sec.grs),aa (Cq ab n.sec.labs),bool n.sec.lab,int n.req.campus,int n.req.no,int n.req.st,int n.req.kind,int n.req.time,aa (Cq Cv n.req.chs),int n.req.gsec,int n.req.glab,int n.req.key,int n.r,int n.s]
 exact zx [.st (.mask [4,5])] [] .n
theorem w7{x:List EntT}{h:List Blk}{i:Nat}{l:EntT}(hx:x[i]? = some l)(hh:h[3]? = some (.vec (joV x) 1 31)):bB Cr h 28 (.ref (.vp 3 1 i 0))=some (ag l.st.row):=by
 have e1:(joV x)[i]? = some (l.row.map .p):=by simp[joV,hx]
 unfold bB
 simp only[hh,e1,if_true,FY]
 rfl
theorem u6{x:List EntT}{h:List Blk}{i:Nat}{l:EntT}(hx:x[i]? = some l)(hh:h[3]? = some (.vec (joV x) 1 31)):bB Cr h 46 (.ref (.vp 3 1 i 0))=some (ag l.row):=by
 have e1:(joV x)[i]? = some (l.row.map .p):=by simp[joV,hx]
 unfold bB
 simp only[hh,e1,if_true,FY]
 rfl
theorem kR{e:Int}(h:List Blk):(Ev Cr Γ0 48 [bool true,int e] h (.tup []) h):=by
 exact z0 [.b false] (.c (show(!true)=false from rfl) .n) h
theorem jo_b0{f:FuncId}{A B:List (List Dp)}{x:List EntT}{l n:EntT}(hk:Qd (Ct.wrap (((joV x).length:Int) - 1)≥0)=false)(he:(Qd (Ct.wrap (((joV x).length:Int) - 1)≥0)&&(l.st.time==n.time&&(l.st.campus==n.campus&&(l.st.no==n.no&&true))))=false)(hl:x.length≤1000000):(CW Cr Γ0 (joH f A B x 1 .ready [bp n]) true (aq (sub CO 0)) {t:=joU,h:=joH f A B x 1 .busy [bp n,bp n],m:=[]} .normal {t:=mkT 45 0 [],h:=joH f A B (x++[n]) 2 .busy [bp n],m:=[]}):=by
 let v0:List D:=[int n.time,int n.campus,int n.no,int n.kind,int n.stu,int n.obj,int n.term,int n.val,int n.frm,int n.til,aw n.text,int n.sec.id,int n.sec.course,int n.sec.term,int n.sec.campus,int n.sec.seats,aa (Cq CE n.sec.mts),aa (Cq CA n.sec.grs),aa (Cq ab n.sec.labs),bool n.sec.lab,int n.req.campus,int n.req.no,int n.req.st,int n.req.kind,int n.req.time,aa (Cq Cv n.req.chs),int n.req.gsec,int n.req.glab,int n.req.key,int n.r,int n.s]
 let v1:List D:=[.ref (.ptr 1 0),.ref (.ptr 2 0)]
 refine zX {t:=mkT 45 0 [],h:=[.var [.ref (.vec 3 2)],.var [aa A],.var [aa B],.vec (joV x++[v0]) 2 31,.defd,.loop D3 none f (mkT 45 0 [(4,.ref (.ptr 0 0)),(9,C5 (CH 83) [] v1)]) {toList:=[10]} (aP (sub CO 0)) (aq (sub CO 0)),.var v0],m:=[]} C7 [.st (.mask []),.st (.trimV 7)] [.ov 21 (ag (EL (EntT.st l))),.b false] (.c (show Qd (Cz Ct ((↑(Cw (joV x)):Int) - 1)≥0)=true→inR (Cz Ct ((↑(Cw (joV x)):Int) - 1)) (Cw (joV x))=true from(fun hg=>?_)) (.c (show Qd (Cz Ct ((↑(Cw (joV x)):Int) - 1)≥0)=true→bB Cr [.var [.ref (.vec 3 1)],.var [aa A],.var [aa B],.vec (joV x) 1 31,.defd,.loop D3 none f (mkT 45 0 [(4,.ref (.ptr 0 0)),(9,C5 (CH 83) [] v1)]) {toList:=[10]} (aP (sub CO 0)) (aq (sub CO 0)),.var v0,.var v0] 28 (evalD Γ0 (Cq c5 (mkT 45 0 [(4,.ref (.ptr 0 0)),(5,.ref (.ptr 7 0)),(6,int (Cz Ct ((↑(Cw (joV x)):Int) - 1))),(11,.ref (.vec 3 1)),(12,int (↑(Cw (joV x)):Int)),(13,int (Cz Ct ((↑(Cw (joV x)):Int) - 1))),(14,int (Cz Ct ((↑(Cw (joV x)):Int) - 1))),(15,bool (Qd (Cz Ct ((↑(Cw (joV x)):Int) - 1)≥0))),(16,bool (Qd (Cz Ct ((↑(Cw (joV x)):Int) - 1)≥0))),(17,GI (Qd (Cz Ct ((↑(Cw (joV x)):Int) - 1)≥0)) (.ref (.vec 3 1))),(18,GI (Qd (Cz Ct ((↑(Cw (joV x)):Int) - 1)≥0)) (int (Cz Ct ((↑(Cw (joV x)):Int) - 1)))),(19,GI (Qd (Cz Ct ((↑(Cw (joV x)):Int) - 1)≥0)) (.ref (.vp 3 1 (CQ (Cz Ct ((↑(Cw (joV x)):Int) - 1))) 0))),(20,GI (Qd (Cz Ct ((↑(Cw (joV x)):Int) - 1)≥0)) (.ref (.vp 3 1 (CQ (Cz Ct ((↑(Cw (joV x)):Int) - 1))) 0)))])) (CK 20))=some (CF [int (EntT.st l).time,int (EntT.st l).campus,int (EntT.st l).no]) from(fun hg=>?_)) (.c he (.c (show(List.all [v0] (rowOk 31)&&roomOk (Cw (joV x)+Cw [v0]) 320)=true from ?_) (.c (show Db 7 (.var [.ref (.vec 3 2)])=true from rfl) (.c (show Db 7 (.var [aa A])=true from rfl) (.c (show Db 7 (.var [aa B])=true from rfl) (.c (show Db 7 (.vec (joV x++[v0]) 2 31)=true from ?_) (.c (show Db 7 .defd=true from rfl) (.c (show Db 7 (.loop D3 none f (mkT 45 0 [(4,.ref (.ptr 0 0)),(9,C5 (CH 83) [] v1)]) {toList:=[10]} (aP (sub CO 0)) (aq (sub CO 0)))=true from rfl) (.c (show Db 7 (.var v0)=true from rfl) .n))))))))))) (by subst v0 v1;first|rfl|(simp only[ae];first|done|rfl)) (by subst v0 v1;first|rfl|(simp only[ae];first|done|rfl))<;>subst v0 v1<;>(first|assumption|rfl|exact w6 hx|exact rQ hx|exact w7 hx rfl|exact u6 hx rfl|exact aF _ _|exact aG _ _|(rw[ae];exact aF _ _)|(rw[ae];exact aG _ _)|(cases hk.symm.trans hg)|(simp[rowOk,D.one,Fi,roomOk,joV_len];omega))
theorem jo_b1{f:FuncId}{A B:List (List Dp)}{x:List EntT}{l n:EntT}(_hk:Qd (Ct.wrap (((joV x).length:Int) - 1)≥0)=true)(hi:inR (Ct.wrap (((joV x).length:Int) - 1)) (joV x).length=true)(hx:x[CQ (Ct.wrap (((joV x).length:Int) - 1))]? = some l)(he:(Qd (Ct.wrap (((joV x).length:Int) - 1)≥0)&&(l.st.time==n.time&&(l.st.campus==n.campus&&(l.st.no==n.no&&true))))=false)(hl:x.length≤1000000):(CW Cr Γ0 (joH f A B x 1 .ready [bp n]) true (aq (sub CO 0)) {t:=joU,h:=joH f A B x 1 .busy [bp n,bp n],m:=[]} .normal {t:=mkT 45 0 [],h:=joH f A B (x++[n]) 2 .busy [bp n],m:=[]}):=by
 let v0:List D:=[int n.time,int n.campus,int n.no,int n.kind,int n.stu,int n.obj,int n.term,int n.val,int n.frm,int n.til,aw n.text,int n.sec.id,int n.sec.course,int n.sec.term,int n.sec.campus,int n.sec.seats,aa (Cq CE n.sec.mts),aa (Cq CA n.sec.grs),aa (Cq ab n.sec.labs),bool n.sec.lab,int n.req.campus,int n.req.no,int n.req.st,int n.req.kind,int n.req.time,aa (Cq Cv n.req.chs),int n.req.gsec,int n.req.glab,int n.req.key,int n.r,int n.s]
 let v1:List D:=[.ref (.ptr 1 0),.ref (.ptr 2 0)]
 refine zX {t:=mkT 45 0 [],h:=[.var [.ref (.vec 3 2)],.var [aa A],.var [aa B],.vec (joV x++[v0]) 2 31,.defd,.loop D3 none f (mkT 45 0 [(4,.ref (.ptr 0 0)),(9,C5 (CH 83) [] v1)]) {toList:=[10]} (aP (sub CO 0)) (aq (sub CO 0)),.var v0],m:=[]} C7 [.st (.mask []),.st (.trimV 7)] [.ov 21 (ag (EL (EntT.st l))),.b false] (.c (show Qd (Cz Ct ((↑(Cw (joV x)):Int) - 1)≥0)=true→inR (Cz Ct ((↑(Cw (joV x)):Int) - 1)) (Cw (joV x))=true from(fun hg=>hi)) (.c (show Qd (Cz Ct ((↑(Cw (joV x)):Int) - 1)≥0)=true→bB Cr [.var [.ref (.vec 3 1)],.var [aa A],.var [aa B],.vec (joV x) 1 31,.defd,.loop D3 none f (mkT 45 0 [(4,.ref (.ptr 0 0)),(9,C5 (CH 83) [] v1)]) {toList:=[10]} (aP (sub CO 0)) (aq (sub CO 0)),.var v0,.var v0] 28 (evalD Γ0 (Cq c5 (mkT 45 0 [(4,.ref (.ptr 0 0)),(5,.ref (.ptr 7 0)),(6,int (Cz Ct ((↑(Cw (joV x)):Int) - 1))),(11,.ref (.vec 3 1)),(12,int (↑(Cw (joV x)):Int)),(13,int (Cz Ct ((↑(Cw (joV x)):Int) - 1))),(14,int (Cz Ct ((↑(Cw (joV x)):Int) - 1))),(15,bool (Qd (Cz Ct ((↑(Cw (joV x)):Int) - 1)≥0))),(16,bool (Qd (Cz Ct ((↑(Cw (joV x)):Int) - 1)≥0))),(17,GI (Qd (Cz Ct ((↑(Cw (joV x)):Int) - 1)≥0)) (.ref (.vec 3 1))),(18,GI (Qd (Cz Ct ((↑(Cw (joV x)):Int) - 1)≥0)) (int (Cz Ct ((↑(Cw (joV x)):Int) - 1)))),(19,GI (Qd (Cz Ct ((↑(Cw (joV x)):Int) - 1)≥0)) (.ref (.vp 3 1 (CQ (Cz Ct ((↑(Cw (joV x)):Int) - 1))) 0))),(20,GI (Qd (Cz Ct ((↑(Cw (joV x)):Int) - 1)≥0)) (.ref (.vp 3 1 (CQ (Cz Ct ((↑(Cw (joV x)):Int) - 1))) 0)))])) (CK 20))=some (CF [int (EntT.st l).time,int (EntT.st l).campus,int (EntT.st l).no]) from(fun hg=>?_)) (.c he (.c (show(List.all [v0] (rowOk 31)&&roomOk (Cw (joV x)+Cw [v0]) 320)=true from ?_) (.c (show Db 7 (.var [.ref (.vec 3 2)])=true from rfl) (.c (show Db 7 (.var [aa A])=true from rfl) (.c (show Db 7 (.var [aa B])=true from rfl) (.c (show Db 7 (.vec (joV x++[v0]) 2 31)=true from ?_) (.c (show Db 7 .defd=true from rfl) (.c (show Db 7 (.loop D3 none f (mkT 45 0 [(4,.ref (.ptr 0 0)),(9,C5 (CH 83) [] v1)]) {toList:=[10]} (aP (sub CO 0)) (aq (sub CO 0)))=true from rfl) (.c (show Db 7 (.var v0)=true from rfl) .n))))))))))) (by subst v0 v1;first|rfl|(simp only[ae];first|done|rfl)) (by subst v0 v1;first|rfl|(simp only[ae];first|done|rfl))<;>subst v0 v1<;>(first|assumption|rfl|exact w6 hx|exact rQ hx|exact w7 hx rfl|exact u6 hx rfl|exact aF _ _|exact aG _ _|(rw[ae];exact aF _ _)|(rw[ae];exact aG _ _)|(simp[rowOk,D.one,Fi,roomOk,joV_len];omega))
noncomputable abbrev jG(f:FuncId)(A:List (List Dp))(B:List (List Dp))(x:List EntT)(n:EntT):List Blk:=[.var [.ref (.vec 3 1)],.var [aa A],.var [aa B],.vec (joV x) 1 31,.defd,.loop D3 none f (mkT 45 0 [(4,.ref (.ptr 0 0)),(9,C5 (CH 83) [] [.ref (.ptr 1 0),.ref (.ptr 2 0)])]) {toList:=[10]} (aP (sub CO 0)) (aq (sub CO 0)),.var [int n.time,int n.campus,int n.no,int n.kind,int n.stu,int n.obj,int n.term,int n.val,int n.frm,int n.til,aw n.text,int n.sec.id,int n.sec.course,int n.sec.term,int n.sec.campus,int n.sec.seats,aa (Cq CE n.sec.mts),aa (Cq CA n.sec.grs),aa (Cq ab n.sec.labs),bool n.sec.lab,int n.req.campus,int n.req.no,int n.req.st,int n.req.kind,int n.req.time,aa (Cq Cv n.req.chs),int n.req.gsec,int n.req.glab,int n.req.key,int n.r,int n.s],.var [int n.time,int n.campus,int n.no,int n.kind,int n.stu,int n.obj,int n.term,int n.val,int n.frm,int n.til,aw n.text,int n.sec.id,int n.sec.course,int n.sec.term,int n.sec.campus,int n.sec.seats,aa (Cq CE n.sec.mts),aa (Cq CA n.sec.grs),aa (Cq ab n.sec.labs),bool n.sec.lab,int n.req.campus,int n.req.no,int n.req.st,int n.req.kind,int n.req.time,aa (Cq Cv n.req.chs),int n.req.gsec,int n.req.glab,int n.req.key,int n.r,int n.s]]
theorem jo_b2{f:FuncId}{A B:List (List Dp)}{x:List EntT}{l n:EntT}(_hk:Qd (Ct.wrap (((joV x).length:Int) - 1)≥0)=true)(hi:inR (Ct.wrap (((joV x).length:Int) - 1)) (joV x).length=true)(hx:x[CQ (Ct.wrap (((joV x).length:Int) - 1))]? = some l)(he:(Qd (Ct.wrap (((joV x).length:Int) - 1)≥0)&&(l.st.time==n.time&&(l.st.campus==n.campus&&(l.st.no==n.no&&true))))=true)(hsm:∀h,Ev Cr Γ0 42 [ag l.row,ag n.row] h (bool true) h):(CW Cr Γ0 (joH f A B x 1 .ready [bp n]) true (aq (sub CO 0)) {t:=joU,h:=joH f A B x 1 .busy [bp n,bp n],m:=[]} .normal {t:=mkT 45 0 [],h:=joH f A B x 2 .busy [bp n],m:=[]}):=by
 let v0:List D:=[int n.time,int n.campus,int n.no,int n.kind,int n.stu,int n.obj,int n.term,int n.val,int n.frm,int n.til,aw n.text,int n.sec.id,int n.sec.course,int n.sec.term,int n.sec.campus,int n.sec.seats,aa (Cq CE n.sec.mts),aa (Cq CA n.sec.grs),aa (Cq ab n.sec.labs),bool n.sec.lab,int n.req.campus,int n.req.no,int n.req.st,int n.req.kind,int n.req.time,aa (Cq Cv n.req.chs),int n.req.gsec,int n.req.glab,int n.req.key,int n.r,int n.s]
 refine zx [.st (.mask []),.st (.ren 3 2),.st (.trimV 7)] [.ov 21 (ag (EL (EntT.st l))),.b true,.ov 29 (ag (CG l)),.val (bool true),.val (D.tup [])] (.c (show Qd (Cz Ct ((↑(Cw (joV x)):Int) - 1)≥0)=true→inR (Cz Ct ((↑(Cw (joV x)):Int) - 1)) (Cw (joV x))=true from(fun hg=>hi)) (.c (show Qd (Cz Ct ((↑(Cw (joV x)):Int) - 1)≥0)=true→bB Cr (jG f A B x n) 28 (evalD Γ0 (Cq c5 (mkT 45 0 [(4,.ref (.ptr 0 0)),(5,.ref (.ptr 7 0)),(6,int (Cz Ct ((↑(Cw (joV x)):Int) - 1))),(11,.ref (.vec 3 1)),(12,int (↑(Cw (joV x)):Int)),(13,int (Cz Ct ((↑(Cw (joV x)):Int) - 1))),(14,int (Cz Ct ((↑(Cw (joV x)):Int) - 1))),(15,bool (Qd (Cz Ct ((↑(Cw (joV x)):Int) - 1)≥0))),(16,bool (Qd (Cz Ct ((↑(Cw (joV x)):Int) - 1)≥0))),(17,GI (Qd (Cz Ct ((↑(Cw (joV x)):Int) - 1)≥0)) (.ref (.vec 3 1))),(18,GI (Qd (Cz Ct ((↑(Cw (joV x)):Int) - 1)≥0)) (int (Cz Ct ((↑(Cw (joV x)):Int) - 1)))),(19,GI (Qd (Cz Ct ((↑(Cw (joV x)):Int) - 1)≥0)) (.ref (.vp 3 1 (CQ (Cz Ct ((↑(Cw (joV x)):Int) - 1))) 0))),(20,GI (Qd (Cz Ct ((↑(Cw (joV x)):Int) - 1)≥0)) (.ref (.vp 3 1 (CQ (Cz Ct ((↑(Cw (joV x)):Int) - 1))) 0)))])) (CK 20))=some (CF [int (EntT.st l).time,int (EntT.st l).campus,int (EntT.st l).no]) from(fun hg=>?_)) (.c he (.c hi (.c (show bB Cr (jG f A B x n) 46 (.ref (.vp 3 1 (CQ (Cz Ct ((↑(Cw (joV x)):Int) - 1))) 0))=some (CF [int l.time,int l.campus,int l.no,int l.kind,int l.stu,int l.obj,int l.term,int l.val,int l.frm,int l.til,aw l.text,int l.sec.id,int l.sec.course,int l.sec.term,int l.sec.campus,int l.sec.seats,aa (Cq CE l.sec.mts),aa (Cq CA l.sec.grs),aa (Cq ab l.sec.labs),bool l.sec.lab,int l.req.campus,int l.req.no,int l.req.st,int l.req.kind,int l.req.time,aa (Cq Cv l.req.chs),int l.req.gsec,int l.req.glab,int l.req.key,int l.r,int l.s]) from ?_) (.c (@hsm (jG f A B x n)) (.c (@kR 390 (jG f A B x n)) (.c (show Cq (D.mapRL (iq 3 1 2)) (joV x)=joV x from ?_) (.c (show Db 7 (match 0==3 with|true=>.vec (joV x) 2 31|false=>keepX (iq 3 1 2) (.var [.ref (.vec 3 1)]))=true from rfl) (.c (show Db 7 (match 0+1==3 with|true=>.vec (joV x) 2 31|false=>keepX (iq 3 1 2) (.var [aa A]))=true from rfl) (.c (show Db 7 (match 0+1+1==3 with|true=>.vec (joV x) 2 31|false=>keepX (iq 3 1 2) (.var [aa B]))=true from rfl) (.c (show Db 7 (match 0+1+1+1==3 with|true=>.vec (joV x) 2 31|false=>keepX (iq 3 1 2) (.vec (joV x) 1 31))=true from ?_) (.c (show Db 7 (match 0+1+1+1+1==3 with|true=>.vec (joV x) 2 31|false=>keepX (iq 3 1 2) .defd)=true from rfl) (.c (show Db 7 (match 0+1+1+1+1+1==3 with|true=>.vec (joV x) 2 31|false=>keepX (iq 3 1 2) (.loop D3 none f (mkT 45 0 [(4,.ref (.ptr 0 0)),(9,C5 (CH 83) [] [.ref (.ptr 1 0),.ref (.ptr 2 0)])]) {toList:=[10]} (aP (sub CO 0)) (aq (sub CO 0))))=true from rfl) (.c (show Db 7 (match 0+1+1+1+1+1+1==3 with|true=>.vec (joV x) 2 31|false=>keepX (iq 3 1 2) (.var v0))=true from rfl) .n)))))))))))))))<;>subst v0<;>(first|assumption|rfl|exact w6 hx|exact rQ hx|exact w7 hx rfl|exact u6 hx rfl|exact aF _ _|exact aG _ _|(rw[ae];exact aF _ _)|(rw[ae];exact aG _ _))
end Go.Vi
