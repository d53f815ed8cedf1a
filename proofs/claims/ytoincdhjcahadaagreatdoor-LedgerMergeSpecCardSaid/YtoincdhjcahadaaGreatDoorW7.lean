/- LedgerMergeSpec: part of the proof: contracts of the functions that the law reaches, and the law. No conditions beyond the given statement's own. -/
import Derived.Test.YtoincdhjcahadaaGreatDoorW6
open Decidable renaming decide → Qd
open Go.Vi.MeT renaming row → CE
open Go.Vi.GrT renaming row → CA
open Go.Vi.BuT renaming row → Cv
open Go.Proofs.Tryz renaming prog → Cr, f11 → GJ, f20 → DK, f19 → Hg
open Go.IntKind renaming i64 → Ct, wrap → Cz
open Go.Vi.Dp renaming sl → CB
open List renaming map → Cq, getElem?_eq_some_iff → Cx, all_cons → Ep, mem_of_getElem? → Da, zip_cons_cons → Ie, getD → Et, mem_append → C2, pairwise_cons → Dq, mem_cons → CU, length_eq_zero_iff → Gj, length_cons → Dk
open Go.Value renaming bool → CI
open Go.Vi.EntT renaming row → CG
open Bool renaming true_and → DE, eq_iff_iff → Er, and_eq_true → Cy, and_false → Ea, false_and → En, or_false → GT, not_eq_true' → DI, or_eq_false_iff → DX, or_eq_true → Eb
open Go.Vi.Ev renaming argW → Ga, frame0 → G7, glob0 → CT
open ByteArray renaming empty → Dm
open BitVec renaming ofInt → DQ, ofNat → GA, toNat_ofNat → HY
open Go.Vi.Memo renaming ok_of → FI
open Classical renaming not_not → HE
open Go.Vi.VInvP renaming of_call → F4
open Go Go.Proofs
namespace Go.Vi
set_option maxRecDepth 100000
set_option maxHeartbeats 4000000
def yO(e:EntT):Bool:=Qd ((e.text.size:Int)≤1000)&&Qd (((e.sec.mts.map CE).length:Int)≤20)&&Qd (((e.sec.grs.map CA).length:Int)≤12)&&Qd (((e.sec.labs.map ab).length:Int)≤12)&&Qd (((e.req.chs.map Cv).length:Int)≤12)
theorem Bs{e:EntT}(h:List Blk):(Ev Cr Γ0 16 [ag e.row] h (bool (yO e)) h):=by
 exact z0 [] .n h
abbrev fwS(l:List (List Dp))(i:Int):AS:={t:=mkT 19 0 [(0,aa l),(3,int i)],h:=[],m:=[]}
abbrev fwX:AS:={t:=mkT 19 0 [(2,bool false)],h:=[],m:=[]}
abbrev fwE(l:List (List Dp)):AS:={t:=mkT 19 0 [(0,aa l)],h:=[],m:=[]}
theorem fw_ok{l:List (List Dp)}{e:EntT}{i:Nat}(hr:ad (i:Int) l e.row 31)(hlt:Qd ((i:Int)<(l.length:Int))=true)(hw:Ct.wrap ((i:Int)+1)=((i+1:Nat):Int))(hf:∀h,Ev Cr Γ0 16 [ag e.row] h (bool true) h):(CW Cr Γ0 [] false (sub GJ 0) (fwS l i) .normal (fwS l ((i+1:Nat):Int))):=by
 refine zX {t:=mkT 19 0 [(0,aa l),(3,int (Cz Ct ((↑i:Int)+1)))],h:=[],m:=[]} Exit.normal [.st (.mask [0,3]),.st (.trim 0)] [.b true,.row [vi e.time,vi e.campus,vi e.no,vi e.kind,vi e.stu,vi e.obj,vi e.term,vi e.val,vi e.frm,vi e.til,vs e.text,vi e.sec.id,vi e.sec.course,vi e.sec.term,vi e.sec.campus,vi e.sec.seats,CB (Cq CE e.sec.mts),CB (Cq CA e.sec.grs),CB (Cq ab e.sec.labs),Dp.v (CI e.sec.lab),vi e.req.campus,vi e.req.no,vi e.req.st,vi e.req.kind,vi e.req.time,CB (Cq Cv e.req.chs),vi e.req.gsec,vi e.req.glab,vi e.req.key,vi e.r,vi e.s],.val (bool true),.b false] (.c hlt (.c hr (.c (@hf ([])) (.c (show(!true)=false from rfl) .n)))) ?_ ?_<;>(first|rfl|(rw[hw]<;>rfl))
theorem fw_bad{l:List (List Dp)}{e:EntT}{i:Nat}(hr:ad (i:Int) l e.row 31)(hlt:Qd ((i:Int)<(l.length:Int))=true)(hf:∀h,Ev Cr Γ0 16 [ag e.row] h (bool false) h):(CW Cr Γ0 [] false (sub GJ 0) (fwS l i) .ret fwX):=by
 exact zx [.st (.mask [2]),.st (.trim 0)] [.b true,.row [vi e.time,vi e.campus,vi e.no,vi e.kind,vi e.stu,vi e.obj,vi e.term,vi e.val,vi e.frm,vi e.til,vs e.text,vi e.sec.id,vi e.sec.course,vi e.sec.term,vi e.sec.campus,vi e.sec.seats,CB (Cq CE e.sec.mts),CB (Cq CA e.sec.grs),CB (Cq ab e.sec.labs),Dp.v (CI e.sec.lab),vi e.req.campus,vi e.req.no,vi e.req.st,vi e.req.kind,vi e.req.time,CB (Cq Cv e.req.chs),vi e.req.gsec,vi e.req.glab,vi e.req.key,vi e.r,vi e.s],.val (bool false),.b true] (.c hlt (.c hr (.c (@hf ([])) (.c (show(!false)=true from rfl) .n))))
theorem Bt{l:List (List Dp)}{i:Nat}(hlt:Qd ((i:Int)<(l.length:Int))=false):(CW Cr Γ0 [] false (sub GJ 0) (fwS l i) (.exit 0) (fwE l)):=by
 exact zx [.st (.mask [0])] [.b false] (.c hlt .n)
def fwF(e:EntT)(_:Unit):Unit⊕Unit:=match yO e with
 | true=>.inl ()
 | false=>.inr ()
theorem Bu{l:List EntT}(hs:am l):CW Cr Γ0 [] false (.loop (sub GJ 0)) (fwS (l.map CG) 0) (aj (.exit 0) (fun _:Unit=>fwE (l.map CG)) (fun _:Unit=>(.ret,fwX)) (forL fwF l ())).1 (aj (.exit 0) (fun _:Unit=>fwE (l.map CG)) (fun _:Unit=>(.ret,fwX)) (forL fwF l ())).2:=by
 refine CW.each l fwF (fun j _=>fwS (l.map CG) (j:Int)) (.exit 0) _ _ (fun _ _=>True) (by simp) (fun _=>by simp) ?_ ?_ () trivial
 ·intro j e a hj _
  have hlt:=(Cx.1 hj).1
  have hr:=rowAt (row:=CG) (sz:=31) hj rfl
  have hf:=fun h=>Bs (e:=e) h
  refine⟨fun _ _=>trivial,?_⟩
  unfold fwF
  cases hb:yO e with
  | true=>rw[hb] at hf;exact fw_ok hr (lt_len CG hlt) (wrap_succ hlt hs) hf
  | false=>rw[hb] at hf;exact fw_bad hr (lt_len CG hlt) hf
 ·intro a _
  exact Bt (a9 CG l)
theorem few_x{L:List (List Dp)}(hl:CW Cr Γ0 [] false (.loop (sub GJ 0)) (fwS L 0) .ret fwX)(h:List Blk):(Ev Cr Γ0 11 [aa L] h (bool false) h):=by
 have hl0:=(@hl)
 exact z0 [.sum [0,3] (Exit.ret) {t:=mkT 19 0 [(2,bool false)],h:=[],m:=[]}] (.c hl0 .n) h
theorem few_o{L:List (List Dp)}(hl:CW Cr Γ0 [] false (.loop (sub GJ 0)) (fwS L 0) (.exit 0) (fwE L))(h:List Blk):(Ev Cr Γ0 11 [aa L] h (bool (Qd ((L.length:Int)≤16))) h):=by
 have hl0:=(@hl)
 exact z0 [.sum [0,3] (Exit.exit 0) {t:=mkT 19 0 [(0,aa L)],h:=[],m:=[]}] (.c hl0 .n) h
theorem vA:∀{l:List EntT},forL fwF l ()=(match l.all yO with|true=>.inl ()|false=>.inr ())
 | []=>rfl
 | e::l=>by
  unfold forL
  rw[Ep]
  cases hb:yO e with
  | true=>simp only[fwF,hb,DE];exact vA
  | false=>simp only[fwF,hb];rfl
def yP(l:List EntT):Bool:=l.all yO&&Qd (((l.map CG).length:Int)≤16)
theorem yQ{l:List EntT}(hs:am l)(h:List Blk):Ev Cr Γ0 11 [aa (l.map CG)] h (bool (yP l)) h:=by
 have:=Bu hs
 rw[vA] at this
 unfold yP
 cases hf:l.all yO with
 | true=>rw[hf] at this;rw[DE];exact few_o this h
 | false=>rw[hf] at this;exact few_x this h
def rW(r:RqT):Bool:=Qd (r.campus<0)||Qd (r.campus≥7)||Qd (r.no<1)||Qd (r.no>1048576)||Qd (r.st<0)||Qd (r.st≥20000)||Qd (r.time<1)||Qd (r.time>1048576)
def rqLen(r:RqT):Int:=((r.chs.map Cv).length:Int)
def rqZ(r:RqT):Bool:=(r.gsec==0&&(r.glab==0&&true))
def rqG(r:RqT):Bool:=buB ⟨r.gsec,r.glab⟩
def rq1B(r:RqT):Bool:=match dupB [] r.chs with
 | true=>false
 | false=>Qd (rqLen r≥1)&&Qd (rqLen r≤8)&&rqZ r&&Qd (r.key≥0)&&Qd (r.key≤1048576)
def pm(r:RqT):Bool:=match rW r with
 | true=>false
 | false=>match r.chs.all buB with
  | false=>false
  | true=>if r.kind=1 then rq1B r else if r.kind=2 then rqLen r==0&&rqG r&&r.key==0 else if r.kind=3 then rqLen r==1&&rqG r&&(r.chs.headD ⟨0,0⟩).sec != r.gsec&&r.key==0
   else if r.kind=4∨r.kind=5 then rqLen r==1&&rqZ r&&r.key==0 else false
theorem sY{r:RqT}(hs:am r.chs)(h:List Blk):Ev Cr Γ0 101 [.agg (rqD r.kind r)] h (bool (pm r)) h:=by
 unfold pm
 cases hh:rW r with
 | true=>exact vq_hd hh h
 | false =>
  have h0:∀k,_:=fun k=>Bj (k:=k) hs
  simp only[vr] at h0
  cases ha:r.chs.all buB with
  | false=>simp only[ha] at h0;exact vq_c hh (h0 r.kind) h
  | true =>
   simp only[ha] at h0
   simp only
   have hgv:∀h,Ev Cr Γ0 109 [.agg [int r.gsec,int r.glab]] h (bool (rqG r)) h:=fun h=>nD (b:=⟨r.gsec,r.glab⟩) h
   by_cases k1:r.kind=1
   ·rw[if_pos k1,k1]
    have hd:=Bi (k:=1) (z:=rqZ r) hs
    unfold rq1B
    cases hdd:dupB [] r.chs with
    | true=>exact vq_1r hh (h0 1) (hd.1 hdd) h
    | false=>exact vq_1 hh (h0 1) (hd.2 hdd) h
   ·rw[if_neg k1]
    by_cases k2:r.kind=2
    ·rw[if_pos k2,k2]
     exact vq_2 hh (h0 2) hgv h
    ·rw[if_neg k2]
     by_cases k3:r.kind=3
     ·rw[if_pos k3,k3]
      cases hc:r.chs with
      | nil =>
       have hl:(((r.chs.map Cv).length:Int)==1)=false:=by rw[hc];rfl
       have hl2:(rqLen r==1)=false:=hl
       rw[hl2]
       exact vq_3n hh (h0 3) hl h
      | cons c l =>
       have hR:ad 0 (r.chs.map Cv) c.row 2:=rowAt (n:=0) (by rw[hc];rfl) rfl
       exact vq_3 hh (h0 3) hgv hR h
     ·rw[if_neg k3]
      by_cases k4:r.kind=4
      ·rw[if_pos (.inl k4),k4]
       exact vq_4 hh (h0 4) h
      ·by_cases k5:r.kind=5
       ·rw[if_pos (.inr k5),k5]
        exact vq_5 hh (h0 5) h
       ·rw[if_neg (by omega)]
        exact vq_n hh (h0 r.kind) (by simpa using k1) (by simpa using k2) (by simpa using k3) (by simpa using k4) (by simpa using k5) h
def gV(r:RqT):Int:=match pm r with
 | true=>0
 | false=>290
theorem xp{r:RqT}(hs:am r.chs)(h:List Blk):Ev Cr Γ0 80 [.agg (rqD r.kind r)] h (int (gV r)) h:=by
 have:=fun h=>sY hs h
 unfold gV
 cases hb:pm r with
 | true=>rw[hb] at this;exact vr_t this h
 | false=>rw[hb] at this;exact vr_f this h
def EntT.used(e:EntT)(k:Int):EntT :=
 if k=1 then {e.bare with kind:=k,frm:=e.frm,til:=e.til,text:=e.text} else if k=2∨k=8 then {e.bare with kind:=k,stu:=e.stu,obj:=e.obj,val:=e.val,term:=e.term} else if k=3∨k=5 then {e.bare with kind:=k,stu:=e.stu,obj:=e.obj,val:=e.val,frm:=e.frm,til:=e.til}
 else if k=4 then {e.bare with kind:=k,stu:=e.stu,obj:=e.obj,val:=e.val,term:=e.term,frm:=e.frm,til:=e.til} else if k=6 then {e.bare with kind:=k,sec:=e.sec} else if k=7 then {e.bare with kind:=k,req:=e.req} else {e.bare with kind:=k,term:=e.term}
def fErr(e:EntT)(k:Int):Int:=if k=1 then iM (!(aR e&&Qd ((e.text.size:Int)≤65536))) else if k=2 then iM (!(inS e.stu 0 19999&&inS e.term 0 1023&&inS e.obj 0 4095&&dm e)) else if k=3∨k=5 then iM (!(inS e.stu 0 19999&&aR e&&inS e.obj 0 7&&(e.val==1||e.val == -1)))
 else if k=4 then iM (!(inS e.stu 0 19999&&aR e&&inS e.obj 0 (c8 e.term)&&(e.val == -1||inS e.val 1 1099511627776))) else if k=6 then dn e.sec else if k=7 then gV e.req else if k=8 then ek ⟨e.val,e.stu,e.obj,e.term⟩ else iM (!(inS e.term 0 1023))
def cK(e:EntT):Int:=match fE e.st != 0 with
 | true=>fE e.st
 | false=>if 1≤e.kind∧e.kind≤9 then enR 0 (iL e (e.used e.kind)) (fErr e e.kind) else 370
theorem qh{e:EntT}(o:e.ok)(h:List Blk):Ev Cr Γ0 28 [ag e.row] h (int (cK e)) h:=by
 have hst:∀h,Ev Cr Γ0 44 [.agg [int e.time,int e.campus,int e.no]] h (int (fE e.st)) h:=fun h=>uz (s:=e.st) h
 unfold cK
 cases hb:(fE e.st != 0) with
 | true=>exact rc_st hst hb h
 | false =>
  have h0:fE e.st=0:=by simpa using hb
  rw[h0] at hst
  simp only
  by_cases hk:1≤e.kind∧e.kind≤9
  ·rw[if_pos hk]
   have hin:inS e.kind 1 9=true:=by simp[inS];omega
   have hkk:e.kind=1∨e.kind=2∨e.kind=3∨e.kind=4∨e.kind=5∨e.kind=6∨e.kind=7∨e.kind=8∨e.kind=9:=by omega
   have go:∀(u:List D) (sb:Bool) (r:Int),(∀h,Ev Cr Γ0 46 [.agg (aS e.kind e)] h (.agg u) h)→(∀h,Ev Cr Γ0 37 [ag e.row,.agg u] h (bool sb) h)→(∀h,Ev Cr Γ0 47 [.agg (aS e.kind e)] h (int r) h)→Ev Cr Γ0 28 [ag e.row] h (int (enR 0 sb r)) h:=fun u sb r hu hs hf=>rc_k hst hin hu hs hf h
   rcases hkk with hk|hk|hk|hk|hk|hk|hk|hk|hk
   ·rw[hk] at go ⊢
    exact go (em 1 e 0 0 0 0 e.frm e.til e.text b5 d6) _ _ (fun h=>us1_a h) (fun h=>Ga (bo (a:=e) (b:=e.used 1) o.m o.g o.l o.c h)) (fun h=>fd1_a h)
   ·rw[hk] at go ⊢
    exact go (em 2 e e.stu e.obj e.term e.val 0 0 Dm b5 d6) _ _ (fun h=>us2_a h) (fun h=>Ga (bo (a:=e) (b:=e.used 2) o.m o.g o.l o.c h)) (fun h=>fd2_a h)
   ·rw[hk] at go ⊢
    exact go (em 3 e e.stu e.obj 0 e.val e.frm e.til Dm b5 d6) _ _ (fun h=>us3_a h) (fun h=>Ga (bo (a:=e) (b:=e.used 3) o.m o.g o.l o.c h)) (fun h=>fd3_a h)
   ·rw[hk] at go ⊢
    exact go (em 4 e e.stu e.obj e.term e.val e.frm e.til Dm b5 d6) _ _ (fun h=>us4_a h) (fun h=>Ga (bo (a:=e) (b:=e.used 4) o.m o.g o.l o.c h)) (fun h=>fd4_a h)
   ·rw[hk] at go ⊢
    exact go (em 5 e e.stu e.obj 0 e.val e.frm e.til Dm b5 d6) _ _ (fun h=>us5_a h) (fun h=>Ga (bo (a:=e) (b:=e.used 5) o.m o.g o.l o.c h)) (fun h=>fd5_a h)
   ·rw[hk] at go ⊢
    exact go (em 6 e 0 0 0 0 0 0 Dm (ge e.sec) d6) _ _ (fun h=>us6_a h) (fun h=>Ga (bo (a:=e) (b:=e.used 6) o.m o.g o.l o.c h)) (fun h=>fd6_a (fun h=>nC o.g o.l h) h)
   ·rw[hk] at go ⊢
    exact go (em 7 e 0 0 0 0 0 0 Dm b5 (rqD e.req.kind e.req)) _ _ (fun h=>us7_a h) (fun h=>Ga (bo (a:=e) (b:=e.used 7) o.m o.g o.l o.c h)) (fun h=>fd7_a (fun h=>xp o.c h) h)
   ·rw[hk] at go ⊢
    exact go (em 8 e e.stu e.obj e.term e.val 0 0 Dm b5 d6) _ _ (fun h=>us8_a h) (fun h=>Ga (bo (a:=e) (b:=e.used 8) o.m o.g o.l o.c h)) (fun h=>fd8_a h)
   ·rw[hk] at go ⊢
    exact go (em 9 e 0 0 e.term 0 0 0 Dm b5 d6) _ _ (fun h=>us9_a h) (fun h=>Ga (bo (a:=e) (b:=e.used 9) o.m o.g o.l o.c h)) (fun h=>fd9_a h)
  ·rw[if_neg hk]
   exact rc_n hst (by simp[inS];omega) h
def rcF(e:EntT)(_:Unit):Unit⊕Int:=match cK e != 0 with
 | true=>.inr (cK e)
 | false=>.inl ()
theorem Bw{l:List EntT}(hs:am l)(ho:∀e∈l,e.ok):CW Cr Γ0 [] false (.loop (sub Tryz.f13 0)) (rcS (l.map CG) 0)
  (aj (.exit 0) (fun _:Unit=>{t:=mkT 25 0 [(0,aa (l.map CG))],h:=[],m:=[]}) (fun r:Int=>(.ret,{t:=mkT 25 0 [(2,int r)],h:=[],m:=[]})) (forL rcF l ())).1 (aj (.exit 0) (fun _:Unit=>{t:=mkT 25 0 [(0,aa (l.map CG))],h:=[],m:=[]}) (fun r:Int=>(.ret,{t:=mkT 25 0 [(2,int r)],h:=[],m:=[]})) (forL rcF l ())).2:=by
 refine CW.each l rcF (fun j _=>rcS (l.map CG) (j:Int)) (.exit 0) _ _ (fun _ _=>True) (by simp) (fun _=>by simp) ?_ ?_ () trivial
 ·intro j e a hj _
  have hlt:=(Cx.1 hj).1
  have hr:=rowAt (row:=CG) (sz:=31) hj rfl
  have hck:=fun h=>qh (ho e (Da hj)) h
  refine⟨fun _ _=>trivial,?_⟩
  cases hb:cK e != 0 with
  | true =>
   have e1:rcF e a=.inr (cK e):=by unfold rcF;rw[hb]
   rw[e1]
   exact rc_bad hr (lt_len CG hlt) hck hb
  | false =>
   have e1:rcF e a=.inl ():=by unfold rcF;rw[hb]
   rw[e1]
   have h0:cK e=0:=by simpa using hb
   rw[h0] at hck
   exact Bp hr (lt_len CG hlt) (wrap_succ hlt hs) hck
 ·intro a _
  exact Bq (a9 CG l)
def jK(l:List EntT):Int:=match Qd (((l.map CG).length:Int)>65536) with
 | true=>2
 | false=>match forL rcF l () with
  | .inr r=>r
  | .inl _=>bif !ci [] l then 0 else 390
theorem vB{l:List EntT}(hs:am l)(ho:∀e∈l,e.ok)(h:List Blk):Ev Cr Γ0 13 [aa (l.map CG)] h (int (jK l)) h:=by
 unfold jK
 cases hb:Qd (((l.map CG).length:Int)>65536) with
 | true=>exact Br hb h
 | false =>
  have:=Bw hs ho
  simp only
  cases hf:forL rcF l () with
  | inr r=>rw[hf] at this;exact red_r hb this h
  | inl u=>rw[hf] at this;exact red_f hb this (fun h=>vz hs h) h
theorem vC(s:StT):fE s=fU s:=by
 have:oY s=pY s:=by
  rw[Er]
  simp[oY,pY,inS]
  omega
 unfold fE fU
 rw[this]
theorem vD(a b:BuT):lr a b=lr b a:=by
 rw[Er]
 simp only[lr,Cy,beq_iff_eq]
 constructor<;>(rintro⟨h1,h2,h3⟩;exact⟨h1.symm,h2.symm,h3⟩)
theorem vF:∀(l pre:List BuT),pu pre l=(l.all buB&&!dupB pre l)
 | [],_=>rfl
 | c::l,pre=>by
  have h1:pre.any (lr c)=pre.any (fun y=>lr y c):=by
   congr 1;funext y;exact vD c y
  simp only[pu,dupB,Ep,vF l,h1]
  cases buB c<;>cases pre.any (fun y=>lr y c)<;>cases l.all buB<;>cases dupB (pre++[c]) l<;>rfl
theorem Bx(k:Int)(r:RqT):rqHd k r=(rW r||Qd (k<1)||Qd (k>5)):=rfl
theorem fu{c:BuT}{l:List BuT}:(((c::l).map Cv).length:Int)=(l.length:Int)+1:=by simp
theorem vG(r:RqT):gV r=kN r:=by
 unfold gV pm kN
 rw[Bx]
 cases hh:rW r with
 | true=>rfl
 | false =>
  simp only[Bool.false_or]
  by_cases hk:r.kind<1∨r.kind>5
  ·have h1:(Qd (r.kind<1)||Qd (r.kind>5))=true:=by simpa using hk
   rw[h1,if_neg (by omega),if_neg (by omega),if_neg (by omega),if_neg (by omega)]
   cases r.chs.all buB<;>rfl
  ·have h1:(Qd (r.kind<1)||Qd (r.kind>5))=false:=by simp;omega
   rw[h1]
   simp only
   by_cases k1:r.kind=1
   ·rw[if_pos k1,if_pos k1]
    unfold rqR1 rB rq1B
    rw[vF]
    show(match (match r.chs.all buB with|false=>false|true=>match dupB [] r.chs with|true=>false|false=>Qd (rqLen r≥1)&&Qd (rqLen r≤8)&&rqZ r&&Qd (r.key≥0)&&Qd (r.key≤1048576)) with|true=>(0:Int)|false=>290)=(match !(Qd (rqLen r≥1)&&Qd (rqLen r≤8)&&(r.chs.all buB&&!dupB [] r.chs)&&rqZ r&&Qd (r.key≥0)&&Qd (r.key≤1048576)) with|true=>(290:Int)|false=>0)
    cases r.chs.all buB<;>cases dupB [] r.chs<;>cases Qd (rqLen r≥1)<;>cases Qd (rqLen r≤8)<;>cases rqZ r<;>cases Qd (r.key≥0)<;>cases Qd (r.key≤1048576)<;>rfl
   ·rw[if_neg k1,if_neg k1]
    by_cases k2:r.kind=2
    ·rw[if_pos k2,if_pos k2]
     unfold rq2R Cm rB rqLen rqG
     cases hc:r.chs with
     | nil=>cases buB ⟨r.gsec,r.glab⟩<;>cases h:(r.key==0)<;>simp[pu]
     | cons c l =>
      have e1:Qd ((((c::l).map Cv).length:Int)≤0)=false:=by rw[fu];simp<;>omega
      have e2:((((c::l).map Cv).length:Int)==0)=false:=by rw[fu];simp<;>omega
      rw[e1,e2]
      simp only[Ea,En]
      cases (c::l).all buB<;>rfl
    ·rw[if_neg k2,if_neg k2]
     by_cases k3:r.kind=3
     ·rw[if_pos k3,if_pos k3]
      unfold rq3R Cn rB rqLen rqG
      cases hc:r.chs with
      | nil=>simp
      | cons c l =>
       cases l with
       | nil =>
        have e1:pu [] [c]=(buB c&&true):=by simp[pu]
        rw[e1]
        simp only[Ep,List.all_nil,List.headD_cons]
        cases buB c<;>cases buB ⟨r.gsec,r.glab⟩<;>cases (c.sec != r.gsec)<;>cases (r.key==0)<;>rfl
       | cons d l =>
        have e1:Qd ((((c::d::l).map Cv).length:Int)≤1)=false:=by rw[fu];simp<;>omega
        have e2:((((c::d::l).map Cv).length:Int)==1)=false:=by rw[fu];simp<;>omega
        rw[e1,e2]
        simp only[Ea,En]
        cases (c::d::l).all buB<;>rfl
     ·rw[if_neg k3,if_neg k3]
      rw[if_pos (show r.kind=4∨r.kind=5 by omega)]
      have goal2:(match (match r.chs.all buB with|false=>false|true=>rqLen r==1&&rqZ r&&r.key==0) with|true=>(0:Int)|false=>290)=(match !(rB 1 1 r&&rqZ r&&r.key==0) with|true=>(290:Int)|false=>0):=by
       unfold rB rqLen
       cases hc:r.chs with
       | nil=>simp
       | cons c l =>
        cases l with
        | nil =>
         have e1:pu [] [c]=(buB c&&true):=by simp[pu]
         rw[e1]
         simp only[Ep,List.all_nil]
         cases buB c<;>cases rqZ r<;>cases (r.key==0)<;>rfl
        | cons d l =>
         have e1:Qd ((((c::d::l).map Cv).length:Int)≤1)=false:=by rw[fu];simp<;>omega
         have e2:((((c::d::l).map Cv).length:Int)==1)=false:=by rw[fu];simp<;>omega
         rw[e1,e2]
         simp only[Ea,En]
         cases (c::d::l).all buB<;>rfl
      by_cases k4:r.kind=4
      ·rw[if_pos k4];exact goal2
      ·rw[if_neg k4];exact goal2
def qi(o:Option GrT):Int:=match o with
 | none => -1
 | some p=>p.grp
def okG(o:Option GrT):Prop:=∀p,o=some p→0≤p.grp∧p.grp<8
theorem xq(g:GrT)(o:Option GrT)(h:okG o):uM g (qi o)=iO g (kU g o):=by
 rw[Er]
 cases o with
 | none =>
  have e:Ct.wrap (qi none+1)=0:=by decide
  simp only[uM,e,inW,iO,kU,GT]
  simp
  omega
 | some p =>
  have ⟨h0,h8⟩:=h p rfl
  have e:Ct.wrap (qi (some p)+1)=p.grp+1:=wrap_i64 (by show _≤p.grp+1;omega) (by show p.grp+1≤_;omega)
  simp only[uM,e,inW,iO,kU]
  simp
  omega
theorem xr{g:GrT}{b:Bool}(h:iO g b=false):okG (some g):=by
 intro p hp
 cases hp
 simp[iO] at h
 omega
def qj{α β:Type}(f:α→Int)(x:α⊕β):Option Int:=match x with
 | .inl a=>some (f a)
 | .inr _=>none
theorem gF_eq:∀(l:List GrT) (all:Int) (o:Option GrT),okG o→qj (·.1) (forL gF l (all,qi o))=qj (·.1) (forL foF l (all,o))
 | [],_,_,_=>rfl
 | g::l,all,o,h=>by
  unfold forL
  have hb:=xq g o h
  cases hf:iO g (kU g o) with
  | true =>
   have e1:gF g (all,qi o)=.inr ():=by unfold gF;rw[hb,hf]
   have e2:foF g (all,o)=.inr ():=by unfold foF;rw[hf]
   rw[e1,e2]
   rfl
  | false =>
   have e1:gF g (all,qi o)=.inl (Ct.wrap (all+g.seats),qi (some g)):=by unfold gF;rw[hb,hf];rfl
   have e2:foF g (all,o)=.inl (Ct.wrap (all+g.seats),some g):=by unfold foF;rw[hf]
   rw[e1,e2]
   exact gF_eq l _ _ (xr hf)
def qk(o:Option Int):Int:=match o with
 | none => -1
 | some p=>p
def okI(o:Option Int):Prop:=∀p,o=some p→0≤p∧p<4000
theorem Bz(n:Int)(o:Option Int)(h:okI o):(!inW n (Ct.wrap (qk o+1)) 3999)=iP n (kV n o):=by
 rw[Er]
 cases o with
 | none =>
  have e:Ct.wrap (qk none+1)=0:=by decide
  simp only[e,inW,iP,kV,GT]
  simp
  omega
 | some p =>
  have ⟨h0,h8⟩:=h p rfl
  have e:Ct.wrap (qk (some p)+1)=p+1:=wrap_i64 (by show _≤p+1;omega) (by show p+1≤_;omega)
  simp only[e,inW,iP,kV]
  simp
  omega
theorem xt{n:Int}{b:Bool}(h:iP n b=false):okI (some n):=by
 intro p hp
 cases hp
 simp[iP] at h
 omega
theorem lF_eq:∀(l:List Int) (o:Option Int),okI o→qj (fun _=>0) (forL lF l (qk o))=qj (fun _=>0) (forL fbF l o)
 | [],_,_=>rfl
 | n::l,o,h=>by
  unfold forL
  have hb:=Bz n o h
  cases hf:iP n (kV n o) with
  | true =>
   have e1:lF n (qk o)=.inr ():=by unfold lF;rw[hb,hf]
   have e2:fbF n o=.inr ():=by unfold fbF;rw[hf]
   rw[e1,e2]
   rfl
  | false =>
   have e1:lF n (qk o)=.inl (qk (some n)):=by unfold lF;rw[hb,hf];rfl
   have e2:fbF n o=.inl (some n):=by unfold fbF;rw[hf]
   rw[e1,e2]
   exact lF_eq l _ (xt hf)
theorem vH(s:SecT)(all:Int):o9 s all=(!secHd23 s&&Qd (all≤s.seats)):=by
 rw[Er]
 unfold o9 secHd23 inW
 cases s.lab with
 | false =>
  simp only[En,GT,Bool.not_false,Bool.and_true,Cy,decide_eq_true_eq,DI,DX,decide_eq_false_iff_not]
  omega
 | true =>
  simp only[DE,Cy,decide_eq_true_eq,DI,DX,decide_eq_false_iff_not]
  omega
theorem BA(s:SecT):qc s=secB23 s:=by
 unfold qc secB23
 have h1:=gF_eq s.grs 0 none (fun _ h=>by cases h)
 have h2:=lF_eq s.labs none (fun _ h=>by cases h)
 change qj _ (forL gF s.grs (0,-1))=_ at h1
 change qj _ (forL lF s.labs (-1))=_ at h2
 cases e1:forL gF s.grs (0,-1) with
 | inr u =>
  rw[e1] at h1
  cases e2:forL foF s.grs (0,none) with
  | inr _=>cases secHd23 s<;>rfl
  | inl a=>rw[e2] at h1;cases h1
 | inl a =>
  rw[e1] at h1
  cases e2:forL foF s.grs (0,none) with
  | inr _=>rw[e2] at h1;cases h1
  | inl b =>
   rw[e2] at h1
   have hab:a.1=b.1:=by simpa[qj] using h1
   simp only
   cases e3:forL lF s.labs (-1) with
   | inr _ =>
    rw[e3] at h2
    cases e4:forL fbF s.labs none with
    | inr _=>cases secHd23 s<;>rfl
    | inl _=>rw[e4] at h2;cases h2
   | inl _ =>
    rw[e3] at h2
    cases e4:forL fbF s.labs none with
    | inr _=>rw[e4] at h2;cases h2
    | inl _ =>
     simp only[vH,hab]
     cases secHd23 s<;>rfl
theorem vI(s:SecT):dn s=kO s:=by
 unfold dn kO
 rw[BA]
 cases secB23 s<;>rfl
theorem sZ(a b:SecT):fW a b=secEq a b:=rfl
theorem vJ(a b:RqT):kT a b=rqEq a b:=by
 have hq:qbB a.chs b.chs=(match (((a.chs.map Cv).length:Int) != ((b.chs.map Cv).length:Int)) with|true=>false|false=>match qbR a.chs b.chs with | .inl _=>true | .inr _=>false):=by
  unfold qbB
  cases (((a.chs.map Cv).length:Int) != ((b.chs.map Cv).length:Int))<;>rfl
 unfold kT rqEq
 rw[hq]
 simp only[bne]
 cases (((a.chs.map Cv).length:Int)==((b.chs.map Cv).length:Int))<;>cases qbR a.chs b.chs<;>cases (a.campus==b.campus)<;>cases (a.no==b.no)<;>cases (a.st==b.st)<;>cases (a.kind==b.kind)<;>cases (a.time==b.time)<;>cases (a.gsec==b.gsec&&(a.glab==b.glab&&true))<;>cases (a.key==b.key)<;>rfl
theorem iQ(a b:EntT):iL a b=b4 a b:=by
 unfold iL b4
 rw[sZ,vJ]
 generalize (qb a b&&a.kind==b.kind&&a.stu==b.stu&&a.obj==b.obj&&a.term==b.term&&a.val==b.val&&(a.frm==b.frm&&(a.til==b.til&&true))&&eqS a.text b.text)=x
 generalize (a.r==b.r&&(a.s==b.s&&true))=y
 cases x<;>cases y<;>cases secEq a.sec b.sec<;>cases rqEq a.req b.req<;>rfl
theorem gW{α:Type}(ne:α→α→Bool)(f:α×α→Unit→Unit⊕Unit)(hf:∀p u,f p u=bif ne p.1 p.2 then .inr () else .inl ())(h:∀a,ne a a=false):∀l:List α,forL f (l.zip l) ()=.inl ()
 | []=>rfl
 | a::l=>by
  rw[Ie]
  unfold forL
  rw[hf,h]
  exact gW ne f hf h l
theorem xu(l:List MeT):qmB l l=true:=by
 unfold qmB qmR
 rw[if_neg (by simp),gW meNe qmF (fun _ _=>rfl) (fun a=>by simp[meNe])]
theorem xv(l:List GrT):qgB l l=true:=by
 unfold qgB qgR
 rw[if_neg (by simp),gW grNe qgF (fun _ _=>rfl) (fun a=>by simp[grNe])]
theorem xw(l:List Int):qiB l l=true:=by
 unfold qiB qiR
 rw[if_neg (by simp),gW rg qiF (fun _ _=>rfl) (fun a=>by simp[rg])]
theorem xx(l:List BuT):qbB l l=true:=by
 unfold qbB qbR
 rw[if_neg (by simp),gW buNe qbF (fun _ _=>rfl) (fun a=>by simp[buNe])]
theorem s7(s:SecT):secEq s s=true:=by simp[secEq,xu,xv,xw]
theorem vK(r:RqT):rqEq r r=true:=by simp[rqEq,xx]
theorem xy(t:ByteArray):eqS t t=true:=by simp[eqS]
theorem xz(e:EntT)(hk:1≤e.kind∧e.kind≤9):b4 e (e.used e.kind)=b4 (e.clr e.kind) e.bare:=by
 have hkk:e.kind=1∨e.kind=2∨e.kind=3∨e.kind=4∨e.kind=5∨e.kind=6∨e.kind=7∨e.kind=8∨e.kind=9:=by omega
 obtain⟨time,campus,no,kind,stu,obj,term,val,frm,til,text,sec,req,r,s⟩:=e
 simp only at hkk
 rcases hkk with rfl|rfl|rfl|rfl|rfl|rfl|rfl|rfl|rfl <;>
  simp[EntT.used,EntT.clr,EntT.bare,b4,qb,s7,vK,xy]
theorem xA{n:Int}(h:0≤n):wV n=n.tmod 16:=by
 unfold wV
 obtain⟨m,rfl⟩:=Int.eq_ofNat_of_zero_le h
 have h1:(DQ Ct.bits (m:Int) &&& DQ Ct.bits 15).toNat=m % 16:=by
  have e1:DQ Ct.bits (m:Int)=GA 64 m:=by
   show DQ 64 (m:Int)=_
   exact BitVec.ofInt_natCast 64 m
  have e2:DQ Ct.bits 15=GA 64 15:=rfl
  rw[e1,e2]
  show(GA 64 m &&& GA 64 15).toNat=m % 16
  rw[BitVec.toNat_and,HY,HY]
  have:(15 % 2 ^ 64:Nat)=2 ^ 4 - 1:=by decide
  rw[this,Nat.and_two_pow_sub_one_eq_mod]
  omega
 rw[h1,wrap_i64 (by omega) (by omega),Int.ofNat_tmod]
 rfl
theorem BB{n:Int}(h:0≤n)(h2:n≤9223372036854775807):shr4 n=Ct.wrap (n.tdiv 16):=by
 have e:n.tdiv 16=n / 16:=Int.tdiv_eq_ediv_of_nonneg h
 rw[e,wrap_i64 (by omega) (by omega)]
 show n.fdiv 16=n / 16
 exact Int.fdiv_eq_ediv_of_nonneg n (by decide)
theorem iR(e:EntT):aR e=a7 e.frm e.til:=rfl
theorem vL(e:EntT)(hv:e.val≤9223372036854775807):dm e=pc e:=by
 unfold dm pc
 by_cases h:0≤e.val
 ·rw[xA h,BB h hv]
 ·have:Qd (e.val≥0)=false:=by simp;omega
  rw[this]
  rfl
theorem xB(e:EntT):iM (!(inS e.stu 0 19999&&aR e&&inS e.obj 0 (c8 e.term)&&(e.val == -1||inS e.val 1 1099511627776)))=petR e:=by
 rw[nz,iR]
 unfold petR AB c8
 by_cases h7:e.term=7
 ·simp only[h7,beq_self_eq_true,if_pos];rfl
 ·by_cases h9:e.term=9
  ·simp only[h9];rfl
  ·by_cases h8:e.term=8
   ·simp only[h8];rfl
   ·by_cases h10:e.term=10
    ·simp only[h10];rfl
    ·have e7:(e.term==7)=false:=by simpa using h7
     have e8:(e.term==8)=false:=by simpa using h8
     have e9:(e.term==9)=false:=by simpa using h9
     have e10:(e.term==10)=false:=by simpa using h10
     rw[e7,e8,e9,e10,if_neg h7,if_neg h9,if_neg h8,if_neg h10]
     have:inS e.obj 0 (-1)=false:=by simp[inS];omega
     simp only[this,Ea,En]
     rfl
theorem BC(e:EntT)(hv:e.val≤9223372036854775807)(k:Int):fErr e k=tc e k:=by
 unfold fErr tc
 simp only[nz,vI,vG,iR,vL e hv]
 have hp:=xB e
 rw[nz,iR] at hp
 rw[hp]
 rfl
theorem vM(e:EntT)(hv:e.val≤9223372036854775807):cK e=bz e:=by
 unfold cK bz
 rw[vC]
 cases (fU e.st != 0) with
 | true=>rfl
 | false =>
  simp only
  by_cases hk:1≤e.kind∧e.kind≤9
  ·rw[if_pos hk,if_pos hk,iQ,xz e hk,BC e hv]
  ·rw[if_neg hk,if_neg hk]
set_option maxRecDepth 1000000
abbrev tk(a b c k t:Int):List D:=[int a,int b,int c,int k,int 0,int 0,int t,int 0,int 0,int 0,aw ⟨#[]⟩,int 0,int 0,int 0,int 0,int 0,nq,nq,nq,bool false,int 0,int 0,int 0,int 0,int 0,nq,int 0,int 0,int 0,int 0,int 0]
def s39m0:Memo:=⟨20,[.ref (.vec 0 0),.ref (.vs 0 0 1 2 false)],[.vec [(tk 2 0 1 9 3),(tk 2 1 1 9 3),(tk 5 0 2 9 3)] 0 31,.gone,.gone,.gone,.gone,.gone,.gone,.gone,.gone,.gone,.gone,.gone,.vec [(tk 2 0 1 9 3),(tk 2 1 1 9 3),(tk 5 0 2 9 3)] 2 31,.gone,.gone,.gone,.gone,.gone,.gone,.gone,.gone,.gone,.gone,.gone,.gone,.gone,.gone,.gone,.gone,.gone,.vec [(tk 2 0 1 9 3),(tk 2 1 1 9 3),(tk 5 0 2 9 3)] 2 31,.gone,.gone,.gone,.gone,.gone,.gone],.ret (.tup [.ref (.vec 46 2),int 0]) [.vec [(tk 2 0 1 9 3),(tk 2 1 1 9 3),(tk 5 0 2 9 3)] 0 31,.gone,.gone,.gone,.gone,.gone,.gone,.gone,.gone,.gone,.gone,.gone,.vec [(tk 2 0 1 9 3),(tk 2 1 1 9 3),(tk 5 0 2 9 3)] 2 31,.gone,.gone,.gone,.gone,.gone,.gone,.gone,.gone,.gone,.gone,.gone,.gone,.gone,.gone,.gone,.gone,.gone,.vec [(tk 2 0 1 9 3),(tk 2 1 1 9 3),(tk 5 0 2 9 3)] 2 31,.gone,.gone,.gone,.gone,.gone,.gone,.gone,.gone,.gone,.gone,.gone,.gone,.gone,.gone,.gone,.vec [(tk 2 0 1 9 3),(tk 2 1 1 9 3),(tk 5 0 2 9 3)] 2 31,.gone,.gone,.gone,.gone,.gone,.gone,.gone,.gone,.gone,.gone]⟩
theorem xC:s39m0.Ok Cr Γq:=FI pok (ms:=[]) (by kernel_rfl) trivial
def s39m1:Memo:=⟨17,[.ref (.vec 0 0),.agg (tk 2 0 9 9 3)],[.vec [(tk 2 0 1 9 3),(tk 2 1 1 9 3),(tk 5 0 2 9 3)] 0 31,.gone,.gone,.gone,.gone,.gone,.gone,.gone,.gone,.gone,.gone,.gone,.vec [(tk 2 0 1 9 3),(tk 2 1 1 9 3),(tk 5 0 2 9 3)] 2 31,.gone,.gone,.gone,.gone,.gone,.gone,.gone,.gone,.gone,.gone,.gone,.gone,.gone,.gone,.gone,.gone,.gone,.vec [(tk 2 0 1 9 3),(tk 2 1 1 9 3),(tk 5 0 2 9 3)] 2 31,.gone,.gone,.gone,.gone,.gone,.gone,.gone,.gone,.gone,.gone,.gone,.gone,.gone,.gone,.gone,.vec [(tk 2 0 1 9 3),(tk 2 1 1 9 3),(tk 5 0 2 9 3)] 2 31,.gone,.gone,.gone,.gone,.gone,.gone,.gone,.gone,.gone,.gone],.ret (.tup [nq,int 0,int 390]) [.vec [(tk 2 0 1 9 3),(tk 2 1 1 9 3),(tk 5 0 2 9 3)] 0 31,.gone,.gone,.gone,.gone,.gone,.gone,.gone,.gone,.gone,.gone,.gone,.vec [(tk 2 0 1 9 3),(tk 2 1 1 9 3),(tk 5 0 2 9 3)] 2 31,.gone,.gone,.gone,.gone,.gone,.gone,.gone,.gone,.gone,.gone,.gone,.gone,.gone,.gone,.gone,.gone,.gone,.vec [(tk 2 0 1 9 3),(tk 2 1 1 9 3),(tk 5 0 2 9 3)] 2 31,.gone,.gone,.gone,.gone,.gone,.gone,.gone,.gone,.gone,.gone,.gone,.gone,.gone,.gone,.gone,.vec [(tk 2 0 1 9 3),(tk 2 1 1 9 3),(tk 5 0 2 9 3)] 2 31,.gone,.gone,.gone,.gone,.gone,.gone,.gone,.gone,.gone,.gone]⟩
theorem xD:s39m1.Ok Cr Γq:=FI pok (ms:=[]) (by kernel_rfl) trivial
def s39m2:Memo:=⟨17,[.ref (.vs 0 0 0 2 false),.agg (tk 5 0 2 9 3)],[.vec [(tk 2 0 1 9 3),(tk 2 1 1 9 3),(tk 5 0 2 9 3)] 0 31],.ret (.tup [.ref (.vec 12 2),int 2,int 0]) [.vec [(tk 2 0 1 9 3),(tk 2 1 1 9 3),(tk 5 0 2 9 3)] 0 31,.gone,.gone,.gone,.gone,.gone,.gone,.gone,.gone,.gone,.gone,.gone,.vec [(tk 2 0 1 9 3),(tk 2 1 1 9 3),(tk 5 0 2 9 3)] 2 31,.gone,.gone,.gone,.gone,.gone,.gone]⟩
theorem xE:s39m2.Ok Cr Γq:=FI pok (ms:=[]) (by kernel_rfl) trivial
def s39m3:Memo:=⟨17,[.ref (.vs 0 0 1 2 false),.agg (tk 2 0 1 9 3)],[.vec [(tk 2 0 1 9 3),(tk 2 1 1 9 3),(tk 5 0 2 9 3)] 0 31,.gone,.gone,.gone,.gone,.gone,.gone,.gone,.gone,.gone,.gone,.gone,.vec [(tk 2 0 1 9 3),(tk 2 1 1 9 3),(tk 5 0 2 9 3)] 2 31,.gone,.gone,.gone,.gone,.gone,.gone],.ret (.tup [.ref (.vec 30 2),int 0,int 0]) [.vec [(tk 2 0 1 9 3),(tk 2 1 1 9 3),(tk 5 0 2 9 3)] 0 31,.gone,.gone,.gone,.gone,.gone,.gone,.gone,.gone,.gone,.gone,.gone,.vec [(tk 2 0 1 9 3),(tk 2 1 1 9 3),(tk 5 0 2 9 3)] 2 31,.gone,.gone,.gone,.gone,.gone,.gone,.gone,.gone,.gone,.gone,.gone,.gone,.gone,.gone,.gone,.gone,.gone,.vec [(tk 2 0 1 9 3),(tk 2 1 1 9 3),(tk 5 0 2 9 3)] 2 31,.gone,.gone,.gone,.gone,.gone,.gone]⟩
theorem xF:s39m3.Ok Cr Γq:=FI pok (ms:=[]) (by kernel_rfl) trivial
def s39m4:Memo:=⟨22,[.ref (.vec 0 0),int 16],[.vec [(tk 2 0 1 9 3),(tk 2 1 1 9 3),(tk 5 0 2 9 3)] 0 31,.gone,.gone,.gone,.gone,.gone,.gone,.gone,.gone,.gone,.gone,.gone,.vec [(tk 2 0 1 9 3),(tk 2 1 1 9 3),(tk 5 0 2 9 3)] 2 31,.gone,.gone,.gone,.gone,.gone,.gone,.gone,.gone,.gone,.gone,.gone,.gone,.gone,.gone,.gone,.gone,.gone,.vec [(tk 2 0 1 9 3),(tk 2 1 1 9 3),(tk 5 0 2 9 3)] 2 31,.gone,.gone,.gone,.gone,.gone,.gone,.gone,.gone,.gone,.gone,.gone,.gone,.gone,.gone,.gone,.vec [(tk 2 0 1 9 3),(tk 2 1 1 9 3),(tk 5 0 2 9 3)] 2 31,.gone,.gone,.gone,.gone,.gone,.gone,.gone,.gone,.gone,.gone],.ret (.tup [.ref (.vec 59 0),int 0]) [.vec [(tk 2 0 1 9 3),(tk 2 1 1 9 3),(tk 5 0 2 9 3)] 0 31,.gone,.gone,.gone,.gone,.gone,.gone,.gone,.gone,.gone,.gone,.gone,.vec [(tk 2 0 1 9 3),(tk 2 1 1 9 3),(tk 5 0 2 9 3)] 2 31,.gone,.gone,.gone,.gone,.gone,.gone,.gone,.gone,.gone,.gone,.gone,.gone,.gone,.gone,.gone,.gone,.gone,.vec [(tk 2 0 1 9 3),(tk 2 1 1 9 3),(tk 5 0 2 9 3)] 2 31,.gone,.gone,.gone,.gone,.gone,.gone,.gone,.gone,.gone,.gone,.gone,.gone,.gone,.gone,.gone,.vec [(tk 2 0 1 9 3),(tk 2 1 1 9 3),(tk 5 0 2 9 3)] 2 31,.gone,.gone,.gone,.gone,.gone,.gone,.gone,.gone,.gone,.gone,.gone,.gone,.vec [(tk 2 0 1 9 3)] 0 31,.gone,.gone]⟩
theorem xG:s39m4.Ok Cr Γq:=FI pok (ms:=[]) (by kernel_rfl) trivial
def s39m5:Memo:=⟨12,[.ref (.vec 0 0)],[.vec [(tk 2 0 1 9 3),(tk 2 1 1 9 3),(tk 5 0 2 9 3)] 0 31,.gone,.gone,.gone,.gone,.gone,.gone,.gone,.gone,.gone,.gone,.gone,.vec [(tk 2 0 1 9 3),(tk 2 1 1 9 3),(tk 5 0 2 9 3)] 2 31,.gone,.gone,.gone,.gone,.gone,.gone,.gone,.gone,.gone,.gone,.gone,.gone,.gone,.gone,.gone,.gone,.gone,.vec [(tk 2 0 1 9 3),(tk 2 1 1 9 3),(tk 5 0 2 9 3)] 2 31,.gone,.gone,.gone,.gone,.gone,.gone,.gone,.gone,.gone,.gone,.gone,.gone,.gone,.gone,.gone,.vec [(tk 2 0 1 9 3),(tk 2 1 1 9 3),(tk 5 0 2 9 3)] 2 31,.gone,.gone,.gone,.gone,.gone,.gone,.gone,.gone,.gone,.gone,.gone,.gone,.vec [(tk 2 0 1 9 3)] 0 31,.gone,.gone],.ret (int 0) [.vec [(tk 2 0 1 9 3),(tk 2 1 1 9 3),(tk 5 0 2 9 3)] 0 31,.gone,.gone,.gone,.gone,.gone,.gone,.gone,.gone,.gone,.gone,.gone,.vec [(tk 2 0 1 9 3),(tk 2 1 1 9 3),(tk 5 0 2 9 3)] 2 31,.gone,.gone,.gone,.gone,.gone,.gone,.gone,.gone,.gone,.gone,.gone,.gone,.gone,.gone,.gone,.gone,.gone,.vec [(tk 2 0 1 9 3),(tk 2 1 1 9 3),(tk 5 0 2 9 3)] 2 31,.gone,.gone,.gone,.gone,.gone,.gone,.gone,.gone,.gone,.gone,.gone,.gone,.gone,.gone,.gone,.vec [(tk 2 0 1 9 3),(tk 2 1 1 9 3),(tk 5 0 2 9 3)] 2 31,.gone,.gone,.gone,.gone,.gone,.gone,.gone,.gone,.gone,.gone,.gone,.gone,.vec [(tk 2 0 1 9 3)] 0 31,.gone,.gone]⟩
theorem xH:s39m5.Ok Cr Γq:=FI pok (ms:=[]) (by kernel_rfl) trivial
def s39mR:Memo:=⟨10,[],[],.ret (bool true) []⟩
theorem xI:s39mR.Ok Cr Γq:=FI pok (ms:=[s39m0,s39m1,s39m2,s39m3,s39m4,s39m5]) (by kernel_rfl) ⟨xC,xD,xE,xF,xG,xH,trivial⟩
theorem pn(h:List Blk):Ev Cr Γq 10 [] h (bool true) h:=G7 rfl (Memo.call xI rfl) h
def ex(a b:StT):Prop:=a.time<b.time∨(a.time=b.time∧(a.campus<b.campus∨(a.campus=b.campus∧a.no<b.no)))
theorem cmp8_cases(a b:Int):(a<b∧cC a b = -1)∨(a=b∧cC a b=0)∨(b<a∧cC a b=1):=by
 unfold cC
 rcases Int.lt_trichotomy a b with h|h|h
 ·left;rw[decide_eq_true h];exact⟨h,rfl⟩
 ·right;left;subst h;simp
 ·right;right
  have h1:Qd (a<b)=false:=by simp;omega
  have h2:Qd (a>b)=true:=by simp;omega
  rw[h1,h2];exact⟨h,rfl⟩
theorem stCmp8_cases(a b:StT):(ex a b∧bO a b = -1)∨(¬ex a b∧¬ex b a∧bO a b=0)∨(ex b a∧bO a b=1):=by
 unfold bO ex
 rcases cmp8_cases a.time b.time with ⟨h1,e1⟩|⟨h1,e1⟩|⟨h1,e1⟩<;>rw[e1]
 ·left;exact⟨.inl h1,rfl⟩
 ·rcases cmp8_cases a.campus b.campus with ⟨h2,e2⟩|⟨h2,e2⟩|⟨h2,e2⟩<;>rw[e2]
  ·left;exact⟨.inr ⟨h1,.inl h2⟩,rfl⟩
  ·rcases cmp8_cases a.no b.no with ⟨h3,e3⟩|⟨h3,e3⟩|⟨h3,e3⟩<;>rw[e3]
   ·left;exact⟨.inr ⟨h1,.inr ⟨h2,h3⟩⟩,rfl⟩
   ·right;left;exact⟨by omega,by omega,rfl⟩
   ·right;right;exact⟨by omega,rfl⟩
  ·right;right;exact⟨by omega,rfl⟩
 ·right;right;exact⟨.inl h1,rfl⟩
theorem jL(a b:StT):bf a b=bO a b:=by
 unfold bf te bO gU
 rcases cmp8_cases a.time b.time with ⟨h1,e1⟩|⟨h1,e1⟩|⟨h1,e1⟩<;>rw[e1]
 ·have:(a.time==b.time)=false:=by simp;omega
  rw[this];rfl
 ·rcases cmp8_cases a.campus b.campus with ⟨h2,e2⟩|⟨h2,e2⟩|⟨h2,e2⟩<;>rw[e2]
  ·have:(a.campus==b.campus)=false:=by simp;omega
   rw[this,En,Ea];rfl
  ·rcases cmp8_cases a.no b.no with ⟨h3,e3⟩|⟨h3,e3⟩|⟨h3,e3⟩<;>rw[e3]
   ·have:(a.no==b.no)=false:=by simp;omega
    rw[this,En,Ea,Ea];rfl
   ·rw[h1,h2,h3];simp
   ·have:(a.no==b.no)=false:=by simp;omega
    rw[this,En,Ea,Ea];rfl
  ·have:(a.campus==b.campus)=false:=by simp;omega
   rw[this,En,Ea];rfl
 ·have:(a.time==b.time)=false:=by simp;omega
  rw[this];rfl
theorem rX(a b:StT):bO a b≥0 ↔ ¬ex a b:=by
 rcases stCmp8_cases a b with ⟨h,e⟩|⟨h,_,e⟩|⟨h,e⟩<;>rw[e]
 ·exact⟨fun h=>by omega,fun h2=>absurd h h2⟩
 ·exact⟨fun _=>h,fun _=>by omega⟩
 ·refine⟨fun _ h2=>?_,fun _=>by omega⟩
  unfold ex at h h2
  omega
abbrev z00:StT:=⟨0,0,0⟩
structure FitI (pre:List EntT) (s:List StT×Option StT):Prop where
 n:s.1.length=7
 c:∀c:Nat,c<7→(s.1.getD c z00=z00∧∀y∈pre,y.campus ≠ c)∨∃x∈pre,s.1.getD c z00=x.st∧x.campus=c∧∀y∈pre,y.campus=c→y.time≤x.time∧y.no≤x.no
 p:(s.2=none∧pre=[])∨∃x∈pre,s.2=some x.st∧∀y∈pre,¬ex x.st y.st
 v:∀y∈pre,1≤y.no
def ql(s:StT)(o:Option StT):Bool:=match o with
 | none=>false
 | some p=>Qd (bf p s≥0)
theorem xJ{pre:List EntT}{s:List StT×Option StT}(I:FitI pre s)(e:EntT)(h0:0≤e.campus)(h7:e.campus<7):
  (ql e.st s.2||fiB (s.1.getD e.st.campus.toNat z00) e.st)=pre.any (fun x=>f7 x.st e.st):=by
 have hc:((e.st.campus.toNat:Nat):Int)=e.campus:=by show((e.campus.toNat:Nat):Int)=_;omega
 have hlt:e.st.campus.toNat<7:=by omega
 rw[Er,Eb,List.any_eq_true]
 constructor
 ·rintro (h|h)
  ·rcases I.p with ⟨h1,_⟩|⟨x,hx,h1,_⟩
   ·rw[h1] at h;cases h
   ·rw[h1] at h
    refine⟨x,hx,?_⟩
    unfold f7
    have:Qd (bO x.st e.st≥0)=true:=by rw[←jL];exact h
    rw[this];rfl
  ·rcases I.c _ hlt with ⟨h1,_⟩|⟨x,hx,h1,h2,_⟩
   ·rw[h1] at h;cases h
   ·rw[h1] at h
    refine⟨x,hx,?_⟩
    unfold f7
    have hcc:(x.st.campus==e.st.campus)=true:=by
     show(x.campus==e.campus)=true
     rw[h2,hc];simp
    unfold fiB at h
    rw[Cy] at h
    rw[hcc,h.2];simp
 ·rintro⟨y,hy,h⟩
  unfold f7 at h
  rw[Eb] at h
  rcases h with h|h
  ·left
   rcases I.p with ⟨_,h1⟩|⟨x,hx,h1,h2⟩
   ·rw[h1] at hy;cases hy
   ·rw[h1]
    show Qd (bf x.st e.st≥0)=true
    rw[jL]
    have ha:=(rX y.st e.st).1 (by simpa using h)
    have hb:=h2 y hy
    simp only[decide_eq_true_eq]
    rw[rX]
    unfold ex at *
    omega
  ·right
   rw[Cy] at h
   have hcc:y.campus=((e.st.campus.toNat:Nat):Int):=by rw[hc];exact eq_of_beq h.1
   rcases I.c _ hlt with ⟨_,h1⟩|⟨x,hx,h1,h2,h3⟩
   ·exact absurd hcc (h1 y hy)
   ·rw[h1]
    have ⟨ht,hn⟩:=h3 y hy hcc
    have hv:=I.v x hx
    have hor:=h.2
    rw[Eb] at hor
    simp only[decide_eq_true_eq] at hor
    unfold fiB
    rw[Cy,Eb]
    simp only[decide_eq_true_eq]
    refine⟨?_,?_⟩
    ·show x.no>0
     omega
    ·rcases hor with ho|ho
     ·left
      show x.time≥e.st.time
      have:y.st.time=y.time:=rfl
      omega
     ·right
      show x.no≥e.st.no
      have:y.st.no=y.no:=rfl
      omega
theorem xK{pre:List EntT}{s:List StT×Option StT}(I:FitI pre s)(e:EntT)(h0:0≤e.campus)(h7:e.campus<7)(hn:1≤e.no)(hb:pre.any (fun x=>f7 x.st e.st)=false):
  FitI (pre++[e]) (s.1.set e.st.campus.toNat e.st,some e.st):=by
 have hc:((e.st.campus.toNat:Nat):Int)=e.campus:=by show((e.campus.toNat:Nat):Int)=_;omega
 have hlt:e.st.campus.toNat<7:=by omega
 rw[List.any_eq_false] at hb
 have hall:∀y∈pre,ex y.st e.st∧(y.campus=e.campus→y.time<e.time∧y.no<e.no):=by
  intro y hy
  have:=hb y hy
  unfold f7 at this
  simp only[Eb,Cy,decide_eq_true_eq,beq_iff_eq,not_or,not_and] at this
  have h1:=(not_congr (rX y.st e.st)).1 this.1
  refine⟨HE.1 h1,fun hcc=>?_⟩
  have h2:=this.2 hcc
  have e1:y.st.time=y.time:=rfl
  have e2:e.st.time=e.time:=rfl
  have e3:y.st.no=y.no:=rfl
  have e4:e.st.no=e.no:=rfl
  omega
 refine⟨by simp[I.n],?_,?_,?_⟩
 ·intro c hc7
  by_cases hce:c=e.st.campus.toNat
  ·subst hce
   right
   refine⟨e,by simp,?_,hc.symm,?_⟩
   ·rw[Et,List.getElem?_set_self (by rw[I.n];exact hlt)];rfl
   ·intro y hy hyc
    rw[C2] at hy
    rcases hy with hy|hy
    ·have:=(hall y hy).2 (by rw[hyc,hc]);omega
    ·simp at hy;subst hy;exact⟨Int.le_refl _,Int.le_refl _⟩
  ·have hg:(s.1.set e.st.campus.toNat e.st).getD c z00=s.1.getD c z00:=by
    rw[Et,Et,List.getElem?_set_ne (fun h=>hce h.symm)]
   simp only[hg]
   have hne:e.campus ≠ (c:Int):=by omega
   rcases I.c c hc7 with ⟨h1,h2⟩|⟨x,hx,h1,h2,h3⟩
   ·left
    refine⟨h1,fun y hy=>?_⟩
    rw[C2] at hy
    rcases hy with hy|hy
    ·exact h2 y hy
    ·simp at hy;subst hy;exact hne
   ·right
    refine⟨x,by simp[hx],h1,h2,fun y hy hyc=>?_⟩
    rw[C2] at hy
    rcases hy with hy|hy
    ·exact h3 y hy hyc
    ·simp at hy;subst hy;exact absurd hyc hne
 ·right
  refine⟨e,by simp,rfl,fun y hy=>?_⟩
  rw[C2] at hy
  rcases hy with hy|hy
  ·have:=(hall y hy).1
   unfold ex at *
   omega
  ·simp at hy;subst hy;unfold ex;omega
 ·intro y hy
  rw[C2] at hy
  rcases hy with hy|hy
  ·exact I.v y hy
  ·simp at hy;subst hy;exact hn
theorem yR:∀(l pre:List EntT) (s:List StT×Option StT),FitI pre s→(∀e∈l,(0≤e.campus∧e.campus<7)∧1≤e.no)→(match forL (fun e:EntT=>fiF e.st) l s with | .inl _=>true | .inr _=>false) = !ci pre l
 | [],_,_,_,_=>rfl
 | e::l,pre,s,I,hv=>by
  have ⟨⟨h0,h7⟩,hn⟩:=hv e (by simp)
  have hc:=xJ I e h0 h7
  unfold forL
  have hF:fiF e.st s=match ql e.st s.2||fiB (s.1.getD e.st.campus.toNat z00) e.st with|true=>.inr s.1|false=>.inl (s.1.set e.st.campus.toNat e.st,some e.st):=by
   unfold fiF ql
   cases s.2<;>rfl
  simp only[hF,hc,ci]
  cases hb:pre.any (fun x=>f7 x.st e.st) with
  | true=>rfl
  | false=>exact yR l (pre++[e]) _ (xK I e h0 h7 hn hb) (fun x hx=>hv x (by simp[hx]))
theorem BD:∀c:Nat,c<7→z7.getD c z00=z00:=by
 intro c hc
 have:c=0∨c=1∨c=2∨c=3∨c=4∨c=5∨c=6:=by omega
 rcases this with h|h|h|h|h|h|h<;>subst h<;>rfl
theorem fit_eq{l:List EntT}(hv:∀e∈l,(0≤e.campus∧e.campus<7)∧1≤e.no):fitB l = !ci [] l :=
 yR l [] (z7,none) ⟨rfl,fun c hc=>.inl ⟨BD c hc,fun y hy=>by cases hy⟩,.inl ⟨rfl,rfl⟩,fun y hy=>by cases hy⟩ hv
theorem yS:∀{l:List EntT},(∀e∈l,e.val≤9223372036854775807)→forL rcF l ()=forL lcF l ()
 | [],_=>rfl
 | e::l,h=>by
  have h1:rcF e ()=lcF e ():=by unfold rcF lcF;rw[vM e (h e (by simp))];cases bz e != 0<;>rfl
  unfold forL
  rw[h1]
  cases lcF e () with
  | inl u=>exact yS fun x hx=>h x (by simp[hx])
  | inr r=>rfl
theorem po{l:List EntT}(h:∀e∈l,e.val≤9223372036854775807):jK l=aO l:=by
 unfold jK aO
 rw[yS h]
 cases Qd (((l.map CG).length:Int)>65536) with
 | true=>rfl
 | false =>
  simp only
  cases hf:forL lcF l () with
  | inr r=>rfl
  | inl u =>
   have:=nu ⟨u,hf⟩
   rw[fit_eq fun e he=>by
    have h1:=nt (kQ (this e he))
    exact⟨h1.2.1,h1.2.2.1⟩]
theorem yT{l:List EntT}(h:yP l=true):∀e∈l,e.ok:=by
 intro e he
 unfold yP at h
 rw[Cy,List.all_eq_true] at h
 have:=h.1 e he
 simp only[yO,Cy,decide_eq_true_eq,List.length_map] at this
 exact⟨by unfold am;omega,by unfold am;omega,by unfold am;omega,by unfold am;omega⟩
def FtOk(a b:EntT):Prop:=ex a.st b.st∧(a.campus=b.campus→a.time<b.time∧a.no<b.no)
theorem pp(a b:EntT):f7 a.st b.st=false ↔ FtOk a b:=by
 have e1:a.st.time=a.time:=rfl
 have e2:b.st.time=b.time:=rfl
 have e3:a.st.no=a.no:=rfl
 have e4:b.st.no=b.no:=rfl
 have e5:a.st.campus=a.campus:=rfl
 have e6:b.st.campus=b.campus:=rfl
 unfold f7 FtOk
 rw[DX,e1,e2,e3,e4,e5,e6]
 have h1:Qd (bO a.st b.st≥0)=false ↔ ex a.st b.st:=by
  rw[decide_eq_false_iff_not,rX,HE]
 rw[h1]
 refine and_congr_right fun _=>?_
 by_cases hc:a.campus=b.campus
 ·simp[hc]
 ·simp[hc]
def Fits(l:List EntT):Prop:=l.Pairwise FtOk
theorem pq:∀(l pre:List EntT),ci pre l=false ↔ (∀x∈pre,∀e∈l,FtOk x e)∧Fits l
 | [],pre=>by simp[ci,Fits]
 | e::l,pre=>by
  unfold ci
  rw[DX,pq l,List.any_eq_false]
  unfold Fits
  rw[Dq]
  constructor
  ·rintro⟨h1,h2,h3⟩
   refine⟨fun x hx y hy=>?_,fun y hy=>h2 e (by simp) y hy,h3⟩
   rcases CU.1 hy with rfl|hy
   ·exact(pp x y).1 (by simpa using h1 x hx)
   ·exact h2 x (by simp[hx]) y hy
  ·rintro⟨h1,h2,h3⟩
   refine⟨fun x hx=>by simpa using(pp x e).2 (h1 x hx e (by simp)),fun x hx y hy=>?_,h3⟩
   rcases C2.1 hx with hx|hx
   ·exact h1 x hx y (by simp[hy])
   ·simp at hx;subst hx;exact h2 y hy
structure Led (l:List EntT):Prop where
 len:l.length≤65536
 e:∀x∈l,bz x=0
 f:Fits l
theorem mf{e:EntT}(h:bz e=0):(1≤e.time∧e.time≤1048576)∧(0≤e.campus∧e.campus<7)∧(1≤e.no∧e.no≤1048576):=nt (kQ h)
theorem jM{l:List EntT}(h:∀e∈l,bz e=0):fitB l=true ↔ Fits l:=by
 rw[fit_eq fun e he=>⟨(mf (h e he)).2.1,(mf (h e he)).2.2.1⟩]
 have:=pq l []
 cases hu:ci [] l with
 | true =>
  rw[hu] at this
  refine⟨fun h=>(by cases h),fun h=>?_⟩
  have:=this.2 ⟨by simp,h⟩
  cases this
 | false=>rw[hu] at this;exact⟨fun _=>(this.1 rfl).2,fun _=>rfl⟩
theorem yU:∀{l:List EntT},(∀e∈l,bz e=0)→forL lcF l ()=.inl ()
 | [],_=>rfl
 | e::l,h=>by
  have h1:lcF e ()=.inl ():=by unfold lcF;rw[h e (by simp)];rfl
  unfold forL
  rw[h1]
  exact yU fun x hx=>h x (by simp[hx])
theorem eV{l:List EntT}:aO l=0 ↔ Led l:=by
 unfold aO
 constructor
 ·intro h
  cases hb:Qd (((l.map CG).length:Int)>65536) with
  | true=>rw[hb] at h;cases h
  | false =>
   rw[hb] at h
   simp only at h
   cases hf:forL lcF l () with
   | inr r =>
    rw[hf] at h
    simp only at h
    exfalso
    have:∀(l:List EntT),forL lcF l ()=.inr r→r ≠ 0:=by
     intro l
     induction l with
     | nil=>intro h;cases h
     | cons x l ih =>
      intro h2
      unfold forL at h2
      cases hb2:bz x != 0 with
      | true =>
       simp only[lcF,hb2] at h2
       cases h2
       simpa using hb2
      | false=>simp only[lcF,hb2] at h2;exact ih h2
    exact this l hf h
   | inl u =>
    rw[hf] at h
    simp only at h
    have he:=nu ⟨u,hf⟩
    refine⟨by simp at hb;omega,he,(jM he).1 ?_⟩
    cases hfb:fitB l with
    | true=>rfl
    | false=>rw[hfb] at h;cases h
 ·intro h
  have hb:Qd (((l.map CG).length:Int)>65536)=false:=by have:=h.len;simp;omega
  rw[hb,yU h.e,(jM h.e).2 h.f]
  rfl
theorem mg{a b:StT}(h:ex a b):¬ex b a:=by unfold ex at *;omega
theorem xL{a b:StT}(h:ex a b):Qd (bf a b<0)=true:=by
 rw[jL]
 rcases stCmp8_cases a b with ⟨_,e⟩|⟨h1,_⟩|⟨h1,_⟩
 ·rw[e];rfl
 ·exact absurd h h1
 ·exact absurd h1 (mg h)
theorem stEq_iff{a b:StT}:te a b=true ↔ a=b:=by
 cases a;cases b
 simp[te]
theorem vN{e:Int}(h:(e != 0)=true):(e==0)=false:=by simpa using h
theorem BE{a b y:List EntT}(h:joR a b=some y):y.length≤a.length+b.length:=by
 unfold joR at h
 cases hg:joG (a.length+b.length) a b [] with
 | none=>rw[hg] at h;cases h
 | some z =>
  rw[hg] at h
  simp only at h
  cases hf:fitB z with
  | false=>rw[hf] at h;cases h
  | true =>
   rw[hf] at h
   cases h
   have:=(eU _ _ _ _ _ hg).2
   simp only[List.length_nil] at this
   omega
abbrev meH:List Blk:=[.var [int 0]]
abbrev meT(L M:List (List Dp)):List D:=mkT 16 0 [(0,aa L),(1,aa M),(4,nq),(5,.ref (.ptr 0 0))]
theorem me_ok{L M y:List (List Dp)}(hck:∀h,Ev Cr Γq 12 [aa L] h (int 0) h)(hcm:∀h,Ev Cr Γq 12 [aa M] h (int 0) h)(hjo:∀h,Ev Cr Γ0 33 [aa L,aa M] h (aa y) h):(CW Cr Γq meH false (cR (cR (ax DK))) {t:=meT L M,h:=meH,m:=[]} .ret {t:=mkT 16 0 [(4,aa y),(5,.ref (.ptr 0 0))],h:=meH,m:=[]}):=by
 exact zx [.st (.mask [4,5])] [.val (int 0),.val (D.tup []),.val (int 0),.val (D.tup []),.val (aa y)] (.c (@hck ([.var [int 0]])) (.c (CT (Γ':=Γq) (@ny ([.var [int 0]]))) (.c (@hcm ([.var [int 0]])) (.c (CT (Γ':=Γq) (@ny ([.var [int 0]]))) (.c (CT (Γ':=Γq) (@hjo ([.var [int 0]]))) .n)))))
theorem xM:ax DK=.seq (.region (tf (cL (ax DK))) (b7 (cL (ax DK))) false) (.seq (.region (tf (cL (cR (ax DK)))) (b7 (cL (cR (ax DK)))) false) (cR (cR (ax DK)))):=by kernel_rfl
abbrev m1T(L M:List (List Dp)):List D:=mkT 16 0 [(0,aa L),(1,aa M),(4,nq),(5,.ref (.ptr 0 0)),(6,.fn (.func 38) [] [.ref (.ptr 0 0)])]
theorem vO{L M:List (List Dp)}{e:Exit}{s':AS}(hrest:CW Cr Γq meH false (cR (cR (ax DK))) {t:=meT L M,h:=meH,m:=[]} e s'):
  TopW Cr Γq (ax DK) {t:=bL DK [aa L,aa M],h:=[],m:=[]} e s' (some (38,[.ref (.ptr 0 0)])):=by
 rw[xM]
 refine TopW.seq (s1:={t:=meT L M,h:=meH,m:=[]}) (fun X=>VW.regionX (t':=meT L M) (h':=meH) (e:=.normal) pg (by kernel_rfl) ⟨rfl,rfl⟩) ?_
 exact TopW.deferH (os:=(b7 (cL (cR (ax DK)))).toList.dropLast) (o:=yM (b7 (cL (cR (ax DK)))).toList) (fv:=.tmp 6) (args:=#[]) (ats:=#[]) (t1:=m1T L M) (h1:=meH) (f:=38) (fi:=[]) (ca:=[.ref (.ptr 0 0)]) pok pg (by kernel_rfl) (by kernel_rfl) (by kernel_rfl) (by kernel_rfl) rfl (by kernel_rfl) (by kernel_rfl) (CW.pre [0,1,4,5] hrest)
noncomputable abbrev m2C:Code:=cR (cR (ax DK))
noncomputable abbrev m2O:Array Oper:=b7 (cL m2C)
noncomputable abbrev m3C:Code:=cR m2C
noncomputable abbrev m3O:Array Oper:=b7 (cL m3C)
noncomputable abbrev m4C:Code:=cR m3C
noncomputable abbrev m4O:Array Oper:=b7 (cL m4C)
theorem qm:m2C=.seq (.region (tf (cL m2C)) m2O false) m3C:=by kernel_rfl
theorem vQ:m3C=.seq (.region (tf (cL m3C)) m3O false) m4C:=by kernel_rfl
theorem BF:m4C=.seq (.region (tf (cL m4C)) m4O false) (cR m4C):=by kernel_rfl
abbrev m2T(L M:List (List Dp))(e:Int):List D:=mkT 16 0 [(0,aa L),(1,aa M),(4,nq),(5,.ref (.ptr 0 0)),(7,aa L),(8,int e)]
abbrev m3T(L M:List (List Dp))(e:Int):List D:=mkT 16 0 [(0,aa L),(1,aa M),(4,nq),(5,.ref (.ptr 0 0)),(10,aa M),(11,int e)]
abbrev m4T(L M:List (List Dp)):List D:=mkT 16 0 [(0,aa L),(1,aa M),(4,nq),(5,.ref (.ptr 0 0)),(13,aa L),(14,aa M)]
theorem m2_pan{L M:List (List Dp)}{e:Int}(he:(e==0)=false)(hck:∀h,Ev Cr Γq 12 [aa L] h (int e) h):CW Cr Γq meH false m2C {t:=meT L M,h:=meH,m:=[]} (.panic (dmC e)) {t:=m2T L M e,h:=meH,m:=[]}:=by
 rw[qm]
 refine CW.out (by simp) (CW.symPan (os1:=m2O.toList.take 2) (rest:=[]) (o:=opN m2O 2) (fv:=rU (opN m2O 2)) (args:=dl (opN m2O 2)) (ats:=qf (opN m2O 2)) (h1:=meH) (φ:=[Ev Cr Γq 12 [aa L] meH (int e) meH]) pok (I:=noI) (fun _ _ _ _ _ _ _ _ h=>by simp[noI] at h) [.val (int e)] (by kernel_rfl) rfl (by kernel_rfl) ⟨hck _,trivial⟩ (by kernel_rfl) (by kernel_rfl) ?_ rfl)
 have e1:evalD Γq (m2T L M e) (rU (opN m2O 2))=.p (.v (.func (.func 32) #[] #[])):=by kernel_rfl
 have e2:(dl (opN m2O 2)).toList.map (evalD Γq (m2T L M e))=[int e]:=by kernel_rfl
 rw[e1,e2]
 exact F4 pok (f:=32) (fi:=[]) (ca:=[]) rfl (by kernel_rfl) (vg e he _).glob0
theorem m3_pan{L M:List (List Dp)}{e:Int}(he:(e==0)=false)(hck:∀h,Ev Cr Γq 12 [aa M] h (int e) h):CW Cr Γq meH false m3C {t:=meT L M,h:=meH,m:=[]} (.panic (dmC e)) {t:=m3T L M e,h:=meH,m:=[]}:=by
 rw[vQ]
 refine CW.out (by simp) (CW.symPan (os1:=m3O.toList.take 2) (rest:=[]) (o:=opN m3O 2) (fv:=rU (opN m3O 2)) (args:=dl (opN m3O 2)) (ats:=qf (opN m3O 2)) (h1:=meH) (φ:=[Ev Cr Γq 12 [aa M] meH (int e) meH]) pok (I:=noI) (fun _ _ _ _ _ _ _ _ h=>by simp[noI] at h) [.val (int e)] (by kernel_rfl) rfl (by kernel_rfl) ⟨hck _,trivial⟩ (by kernel_rfl) (by kernel_rfl) ?_ rfl)
 have e1:evalD Γq (m3T L M e) (rU (opN m3O 2))=.p (.v (.func (.func 32) #[] #[])):=by kernel_rfl
 have e2:(dl (opN m3O 2)).toList.map (evalD Γq (m3T L M e))=[int e]:=by kernel_rfl
 rw[e1,e2]
 exact F4 pok (f:=32) (fi:=[]) (ca:=[]) rfl (by kernel_rfl) (vg e he _).glob0
theorem m2_ok{L M:List (List Dp)}(hck:∀h,Ev Cr Γq 12 [aa L] h (int 0) h):(CW Cr Γq meH false (cL (cR (cR (ax DK)))) {t:=meT L M,h:=meH,m:=[]} .normal {t:=meT L M,h:=meH,m:=[]}):=by
 exact zx [.st (.mask [0,1,4,5])] [.val (int 0),.val (D.tup [])] (.c (@hck ([.var [int 0]])) (.c (CT (Γ':=Γq) (@ny ([.var [int 0]]))) .n))
theorem m3_ok{L M:List (List Dp)}(hck:∀h,Ev Cr Γq 12 [aa M] h (int 0) h):(CW Cr Γq meH false (cL (cR (cR (cR (ax DK))))) {t:=meT L M,h:=meH,m:=[]} .normal {t:=meT L M,h:=meH,m:=[]}):=by
 exact zx [.st (.mask [0,1,4,5])] [.val (int 0),.val (D.tup [])] (.c (@hck ([.var [int 0]])) (.c (CT (Γ':=Γq) (@ny ([.var [int 0]]))) .n))
theorem m4_pan{L M:List (List Dp)}(hjo:VPan Cr Γ0 33 [aa L,aa M] [] fun c h'=>c=dmC 390∧h'=[]):CW Cr Γq meH false m4C {t:=meT L M,h:=meH,m:=[]} (.panic (dmC 390)) {t:=m4T L M,h:=meH,m:=[]}:=by
 rw[BF]
 refine CW.out (by simp) (CW.symPan (os1:=m4O.toList.take 2) (rest:=m4O.toList.drop 3) (o:=opN m4O 2) (fv:=rU (opN m4O 2)) (args:=dl (opN m4O 2)) (ats:=qf (opN m4O 2)) (h1:=meH) (φ:=[]) pok (I:=noI) (fun _ _ _ _ _ _ _ _ h=>by simp[noI] at h) [] (by kernel_rfl) rfl (by kernel_rfl) trivial (by kernel_rfl) (by kernel_rfl) ?_ rfl)
 have e1:evalD Γq (m4T L M) (rU (opN m4O 2))=.p (.v (.func (.func 33) #[] #[])):=by kernel_rfl
 have e2:(dl (opN m4O 2)).toList.map (evalD Γq (m4T L M))=[aa L,aa M]:=by kernel_rfl
 rw[e1,e2]
 refine F4 pok (f:=33) (fi:=[]) (ca:=[]) rfl (by kernel_rfl) ?_
 exact VPan.frzArgs (args:=[aa L,aa M]) (h:=meH) (by rfl) hjo.glob0
theorem me_end{y:List (List Dp)}:fC Cr DK (eH Cr Γq noW 100) 0 .ret {t:=mkT 16 0 [(4,aa y),(5,.ref (.ptr 0 0))],h:=meH,m:=[]} (some (38,[.ref (.ptr 0 0)]))=some (.ret (.tup [aa y,int 0]) []):=by kernel_rfl
theorem BG{L M:List (List Dp)}{e:Int}:fC Cr DK (eH Cr Γq noW 100) 0 (.panic (dmC e)) {t:=m2T L M e,h:=meH,m:=[]} (some (38,[.ref (.ptr 0 0)]))=some (.ret (.tup [nq,int e]) []):=by kernel_rfl
theorem BH{L M:List (List Dp)}{e:Int}:fC Cr DK (eH Cr Γq noW 100) 0 (.panic (dmC e)) {t:=m3T L M e,h:=meH,m:=[]} (some (38,[.ref (.ptr 0 0)]))=some (.ret (.tup [nq,int e]) []):=by kernel_rfl
theorem BI{L M:List (List Dp)}:fC Cr DK (eH Cr Γq noW 100) 0 (.panic (dmC 390)) {t:=m4T L M,h:=meH,m:=[]} (some (38,[.ref (.ptr 0 0)]))=some (.ret (.tup [nq,int 390]) []):=by kernel_rfl
theorem xN{L M:List (List Dp)}{e:Exit}{s':AS}{d:D}(hrest:CW Cr Γq meH false (cR (cR (ax DK))) {t:=meT L M,h:=meH,m:=[]} e s')(hend:fC Cr DK (eH Cr Γq noW 100) 0 e s' (some (38,[.ref (.ptr 0 0)]))=some (.ret d [])):Ev Cr Γq 20 [aa L,aa M] [] d [] :=
 (VRes.of_top (f:=20) (args:=[aa L,aa M]) (dfn:=eH Cr Γq noW 100) (h:=[]) (r:=.ret d []) (fn:=DK) (c:=ax DK) pok rfl rfl dfn_ok (vO hrest) hend).call
def meR(a b:List EntT):List EntT×Int:=match aO a != 0 with
 | true=>([],aO a)
 | false=>match aO b != 0 with
  | true=>([],aO b)
  | false=>match joR a b with
   | none=>([],390)
   | some y=>(y,0)
theorem xO{a b:List EntT}(ha:aO a=0)(hb:aO b=0)(hs:a.length+b.length≤60000)(oa:∀e∈a,e.ok)(ob:∀e∈b,e.ok):JoOk a b :=
 ⟨hs,oa,ob,fun e he=>(mf ((eV.1 ha).e e he)).2.1,fun e he=>(mf ((eV.1 hb).e e he)).2.1⟩
theorem xP{a b:List EntT}(hs:a.length+b.length≤60000)(oa:∀e∈a,e.ok)(ob:∀e∈b,e.ok)(h:List Blk):Ev Cr Γq 20 [aa (a.map CG),aa (b.map CG)] h (.tup [aa ((meR a b).1.map CG),int (meR a b).2]) h:=by
 have hca:=fun h=>yL (l:=a) (show a.length≤_ by omega) oa h
 have hcb:=fun h=>yL (l:=b) (show b.length≤_ by omega) ob h
 unfold meR
 cases h1:aO a != 0 with
 | true =>
  have e1:=Ev.nilW (xN (m2_pan (M:=b.map CG) (vN h1) hca) BG)
  exact G7 rfl e1 h
 | false =>
  have h10:aO a=0:=by simpa using h1
  rw[h10] at hca
  cases h2:aO b != 0 with
  | true =>
   have hr:CW Cr Γq meH false (cR (cR (ax DK))) {t:=meT (a.map CG) (b.map CG),h:=meH,m:=[]} (.panic (dmC (aO b))) {t:=m3T (a.map CG) (b.map CG) (aO b),h:=meH,m:=[]}:=by
    show CW _ _ _ _ m2C _ _ _
    rw[qm]
    exact CW.seq (m2_ok hca) (m3_pan (vN h2) hcb)
   have e1:=Ev.nilW (xN hr BH)
   exact G7 rfl e1 h
  | false =>
   have h20:aO b=0:=by simpa using h2
   rw[h20] at hcb
   have J:=xO h10 h20 hs oa ob
   simp only
   cases h3:joR a b with
   | none =>
    have hr:CW Cr Γq meH false (cR (cR (ax DK))) {t:=meT (a.map CG) (b.map CG),h:=meH,m:=[]} (.panic (dmC 390)) {t:=m4T (a.map CG) (b.map CG),h:=meH,m:=[]}:=by
     show CW _ _ _ _ m2C _ _ _
     rw[qm]
     refine CW.seq (m2_ok hca) ?_
     rw[vQ]
     exact CW.seq (m3_ok hcb) (m4_pan (A4 J h3))
    have e1:=Ev.nilW (xN hr BI)
    exact G7 rfl e1 h
   | some y=>exact G7 rfl (xN (me_ok hca hcb (fun h=>joX_ok J h3 h)) me_end) h
theorem zipEq{α:Type}{ne:α→α→Bool}(hne:∀a b,ne a b=false ↔ a=b){F:α×α→Unit→Unit⊕Unit}(hF:∀p u,F p u=bif ne p.1 p.2 then .inr () else .inl ()):∀(xs ys:List α),xs.length=ys.length→((match forL F (xs.zip ys) () with | .inl _=>true | .inr _=>false)=true ↔ xs=ys)
 | [],[],_=>by simp[forL]
 | [],_::_,h=>by simp at h
 | _::_,[],h=>by simp at h
 | x::xs,y::ys,h=>by
  have ih:=zipEq hne hF xs ys (by simpa using h)
  simp only[Ie,forL,hF]
  cases hn:ne x y with
  | true =>
   simp only[cond_true]
   have:x ≠ y:=fun e=>by rw[(hne x y).2 e] at hn;cases hn
   simp[this]
  | false =>
   simp only[cond_false]
   rw[ih,(hne x y).1 hn]
   simp
theorem rY{α:Type}{row:α→List Dp}{ne:α→α→Bool}(hne:∀a b,ne a b=false ↔ a=b){F:α×α→Unit→Unit⊕Unit}(hF:∀p u,F p u=bif ne p.1 p.2 then .inr () else .inl ())(xs ys:List α):
  (if (((xs.map row).length:Int) != ((ys.map row).length:Int))=true then false else match forL F (xs.zip ys) () with | .inl _=>true | .inr _=>false)=true ↔ xs=ys:=by
 by_cases hl:xs.length=ys.length
 ·rw[if_neg (by simp[hl])]
  exact zipEq hne hF xs ys hl
 ·rw[if_pos (by simp;omega)]
  simp only[Bool.false_eq_true,false_iff]
  exact fun e=>hl (by rw[e])
theorem xQ(a b:MeT):meNe a b=false ↔ a=b:=by cases a;cases b;simp[meNe]
theorem xR(a b:GrT):grNe a b=false ↔ a=b:=by cases a;cases b;simp[grNe]
theorem xS(a b:BuT):buNe a b=false ↔ a=b:=by cases a;cases b;simp[buNe]
theorem xU(a b:Int):rg a b=false ↔ a=b:=by simp[rg]
theorem qm_iff(xs ys:List MeT):qmB xs ys=true ↔ xs=ys:=rY (row:=CE) xQ (F:=qmF) (fun _ _=>rfl) xs ys
theorem qg_iff(xs ys:List GrT):qgB xs ys=true ↔ xs=ys:=rY (row:=CA) xR (F:=qgF) (fun _ _=>rfl) xs ys
theorem qi_iff(xs ys:List Int):qiB xs ys=true ↔ xs=ys:=rY (row:=ab) xU (F:=qiF) (fun _ _=>rfl) xs ys
theorem qb_iff(xs ys:List BuT):qbB xs ys=true ↔ xs=ys:=rY (row:=Cv) xS (F:=qbF) (fun _ _=>rfl) xs ys
theorem BJ(a b:ByteArray):eqS a b=true ↔ a=b:=by
 unfold eqS
 rw[beq_iff_eq,Array.toList_inj]
 cases a;cases b;simp
theorem vR(a b:SecT):secEq a b=true ↔ a=b:=by
 unfold secEq
 simp only[Cy,qm_iff,qg_iff,qi_iff,beq_iff_eq]
 cases a;cases b
 simp only[SecT.mk.injEq]
 constructor
 ·rintro⟨⟨⟨⟨⟨⟨⟨⟨h1,h2⟩,h3⟩,h4⟩,h5⟩,h6⟩,h7⟩,h8⟩,h9⟩
  exact⟨h1,h2,h3,h4,h5,h7,h8,h9,h6⟩
 ·rintro⟨h1,h2,h3,h4,h5,h7,h8,h9,h6⟩
  exact⟨⟨⟨⟨⟨⟨⟨⟨h1,h2⟩,h3⟩,h4⟩,h5⟩,h6⟩,h7⟩,h8⟩,h9⟩
theorem xV(a b:RqT):rqEq a b=true ↔ a=b:=by
 unfold rqEq
 simp only[Cy,qb_iff,beq_iff_eq]
 cases a;cases b
 simp only[RqT.mk.injEq]
 constructor
 ·rintro⟨⟨⟨⟨⟨⟨⟨h1,h2⟩,h3⟩,h4⟩,h5⟩,h6⟩,h7,h8,_⟩,h9⟩
  exact⟨h1,h2,h3,h4,h5,h6,h7,h8,h9⟩
 ·rintro⟨h1,h2,h3,h4,h5,h6,h7,h8,h9⟩
  exact⟨⟨⟨⟨⟨⟨⟨h1,h2⟩,h3⟩,h4⟩,h5⟩,h6⟩,h7,h8,trivial⟩,h9⟩
theorem eW(a b:EntT):b4 a b=true ↔ a=b:=by
 unfold b4 qb
 simp only[Cy,BJ,vR,xV,beq_iff_eq]
 cases a;cases b
 simp only[EntT.mk.injEq]
 constructor
 ·rintro⟨⟨⟨⟨⟨⟨⟨⟨⟨⟨⟨h1,h2,h3,_⟩,h4⟩,h5⟩,h6⟩,h7⟩,h8⟩,h9,h10,_⟩,h11⟩,h12⟩,h13⟩,h14,h15,_⟩
  exact⟨h1,h2,h3,h4,h5,h6,h7,h8,h9,h10,h11,h12,h13,h14,h15⟩
 ·rintro⟨h1,h2,h3,h4,h5,h6,h7,h8,h9,h10,h11,h12,h13,h14,h15⟩
  exact⟨⟨⟨⟨⟨⟨⟨⟨⟨⟨⟨h1,h2,h3,trivial⟩,h4⟩,h5⟩,h6⟩,h7⟩,h8⟩,h9,h10,trivial⟩,h11⟩,h12⟩,h13⟩,h14,h15,trivial⟩
theorem gX{a b c:StT}(h:ex a b)(g:ex b c):ex a c:=by unfold ex at *;omega
theorem rZ{a b:StT}(h:¬ex b a)(g:a ≠ b):ex a b:=by
 have:¬(a.time=b.time∧a.campus=b.campus∧a.no=b.no):=fun⟨h1,h2,h3⟩=>g (by cases a;cases b;simp_all)
 unfold ex at *;omega
theorem vS{a b:StT}(h:ex a b):a ≠ b:=fun e=>by subst e;exact absurd h (mg h)
theorem mh(a b:StT):Qd (bf a b<0)=true ↔ ex a b:=by
 constructor
 ·intro h
  rw[jL] at h
  rcases stCmp8_cases a b with ⟨h1,_⟩|⟨_,_,e⟩|⟨_,e⟩
  ·exact h1
  ·rw[e] at h;cases h
  ·rw[e] at h;cases h
 ·exact xL
def bc(l:List EntT):Prop:=l.Pairwise fun a b=>ex a.st b.st
theorem Fits.sorted{l:List EntT}(h:Fits l):bc l:=h.imp fun h=>h.1
def Compat(a b:List EntT):Prop:=∀e∈a,∀f∈b,e.st=f.st→e=f
theorem Compat.symm{a b:List EntT}(h:Compat a b):Compat b a:=fun e he f hf hs=>(h f hf e he hs.symm).symm
def JSpec(x r o:List EntT):Option (List EntT)→Prop
 | some y=>bc y∧∀e,e∈y ↔ e∈x∨e∈r∨e∈o
 | none=>¬(Compat r o∧Compat x r∧Compat x o)
theorem JSpec.swap{x r o:List EntT}{res:Option (List EntT)}(h:JSpec x r o res):JSpec x o r res:=by
 cases res with
 | none=>exact fun⟨h1,h2,h3⟩=>h ⟨h1.symm,h3,h2⟩
 | some y=>exact⟨h.1,fun e=>by rw[h.2 e];constructor<;>(rintro (h|h|h)<;>simp[h])⟩
def Le(x g:List EntT):Prop:=∀e∈x,∀f∈g,¬ex f.st e.st
theorem nE{x r o:List EntT}{f:EntT}{cont:List EntT→Option (List EntT)}(Sr:bc (f::r))(Sx:bc x)(hr:Le x (f::r))(ho:Le x o)(hfo:∀g∈o,¬ex g.st f.st)
  (ih:∀x',bc x'→Le x' r→Le x' o→JSpec x' r o (cont x')):JSpec x (f::r) o ((joF x f).bind cont):=by
 have hfr:=Dq.1 Sr
 have app:(∀l,x.getLast? = some l→l.st ≠ f.st)→JSpec x (f::r) o (cont (x++[f])):=by
  intro hl
  have hall:∀e∈x,ex e.st f.st:=by
   intro e he
   cases hx:x.getLast? with
   | none=>simp at hx;subst hx;cases he
   | some l =>
    obtain⟨hne,hg⟩:=rT hx
    have hlm:=Da hg
    have h1:ex l.st f.st:=rZ (hr l hlm f (by simp)) (hl l hx)
    obtain⟨i,hi⟩:=List.mem_iff_getElem?.1 he
    have hil:=(Cx.1 hi).1
    by_cases h2:i=x.length - 1
    ·rw[h2,hg] at hi
     cases hi
     exact h1
    ·have h3:=List.pairwise_iff_getElem.1 Sx i (x.length - 1) hil (by omega) (by omega)
     have e1:x[i]=e:=(Cx.1 hi).2
     have e2:x[x.length - 1]'(by omega)=l:=(Cx.1 hg).2
     rw[e1,e2] at h3
     exact gX h3 h1
  have hS:bc (x++[f]):=List.pairwise_append.2 ⟨Sx,by simp,fun e he g hg=>by simp at hg;subst hg;exact hall e he⟩
  have h1:=ih (x++[f]) hS (fun e he g hg=>by
   rcases C2.1 he with he|he
   ·exact hr e he g (by simp[hg])
   ·simp at he;subst he;exact mg (hfr.1 g hg)) (fun e he g hg=>by
   rcases C2.1 he with he|he
   ·exact ho e he g hg
   ·simp at he;subst he;exact hfo g hg)
  cases hc:cont (x++[f]) with
  | some y =>
   rw[hc] at h1
   refine⟨h1.1,fun e=>?_⟩
   rw[h1.2 e]
   simp only[C2,CU,List.not_mem_nil,or_false]
   constructor
   ·rintro ((h|h)|h|h)<;>simp[h]
   ·rintro (h|(h|h)|h)<;>simp[h]
  | none =>
   rw[hc] at h1
   rintro⟨c1,c2,c3⟩
   refine h1 ⟨fun e he g hg hs=>c1 e (by simp[he]) g hg hs,fun e he g hg hs=>?_,fun e he g hg hs=>?_⟩
   ·rcases C2.1 he with he|he
    ·exact c2 e he g (by simp[hg]) hs
    ·simp at he;subst he;exact absurd hs (vS (hfr.1 g hg))
   ·rcases C2.1 he with he|he
    ·exact c3 e he g hg hs
    ·simp at he;subst he;exact c1 e (by simp) g hg hs
 unfold joF
 cases hx:x.getLast? with
 | none=>exact app (fun l hl=>by rw[hx] at hl;cases hl)
 | some l =>
  have hlm:l∈x:=Da (rT hx).2
  simp only
  cases hs:te l.st f.st with
  | false=>exact app (fun l' hl'=>by rw[hx] at hl';cases hl';intro e;rw[stEq_iff.2 e] at hs;cases hs)
  | true =>
   have hst:=stEq_iff.1 hs
   simp only
   cases hb:b4 l f with
   | false =>
    rintro⟨_,c2,_⟩
    have:=c2 l hlm f (by simp) hst
    rw[(eW l f).2 this] at hb
    cases hb
   | true =>
    have hlf:=(eW l f).1 hb
    subst hlf
    simp only[cond_true,Option.bind_some]
    have h1:=ih x Sx (fun e he g hg=>hr e he g (by simp[hg])) ho
    cases hc:cont x with
    | some y =>
     rw[hc] at h1
     refine⟨h1.1,fun e=>?_⟩
     rw[h1.2 e]
     constructor
     ·rintro (h|h|h)<;>simp[h]
     ·rintro (h|h|h)
      ·exact .inl h
      ·rcases CU.1 h with rfl|h
       ·exact .inl hlm
       ·exact .inr (.inl h)
      ·exact .inr (.inr h)
    | none =>
     rw[hc] at h1
     rintro⟨c1,c2,c3⟩
     exact h1 ⟨fun e he g hg hs=>c1 e (by simp[he]) g hg hs,fun e he g hg hs=>c2 e he g (by simp[hg]) hs,c3⟩
theorem d8:∀(k:Nat) (a b x:List EntT),a.length+b.length=k→bc a→bc b→bc x→Le x a→Le x b→JSpec x a b (joG k a b x)
 | 0,a,b,x,hk,_,_,Sx,_,_=>by
  have ha:a=[]:=Gj.1 (by omega)
  have hb:b=[]:=Gj.1 (by omega)
  subst ha;subst hb
  exact⟨Sx,by simp⟩
 | k+1,[],[],x,hk,_,_,Sx,_,_=>by simp at hk
 | k+1,[],m::b,x,hk,Sa,Sb,Sx,ha,hb=>by
  simp only[joG]
  exact(nE Sb Sx hb ha (by simp) fun x' Sx' hb' ha'=>(d8 k [] b x' (by simpa using hk) Sa (Dq.1 Sb).2 Sx' ha' hb').swap).swap
 | k+1,n::a,[],x,hk,Sa,Sb,Sx,ha,hb=>by
  simp only[joG]
  exact nE Sa Sx ha hb (by simp) fun x' Sx' ha' hb'=>d8 k a [] x' (by simpa using hk) (Dq.1 Sa).2 Sb Sx' ha' hb'
 | k+1,n::a,m::b,x,hk,Sa,Sb,Sx,ha,hb=>by
  simp only[joG]
  cases hc:Qd (bf m.st n.st<0) with
  | true =>
   have hlt:=(mh m.st n.st).1 hc
   exact(nE Sb Sx hb ha (fun g hg=>by
    rcases CU.1 hg with rfl|hg
    ·exact mg hlt
    ·exact mg (gX hlt ((Dq.1 Sa).1 g hg))) fun x' Sx' hb' ha'=>(d8 k (n::a) b x' (by simp only[Dk] at hk ⊢;omega) Sa (Dq.1 Sb).2 Sx' ha' hb').swap).swap
  | false =>
   have hlt:¬ex m.st n.st:=fun h=>by rw[(mh m.st n.st).2 h] at hc;cases hc
   exact nE Sa Sx ha hb (fun g hg=>by
    rcases CU.1 hg with rfl|hg
    ·exact hlt
    ·exact fun h=>hlt (gX ((Dq.1 Sb).1 g hg) h)) fun x' Sx' ha' hb'=>d8 k a (m::b) x' (by simp only[Dk] at hk ⊢;omega) (Dq.1 Sa).2 Sb Sx' ha' hb'
def Uni(a b y:List EntT):Prop:=bc y∧∀e,e∈y ↔ e∈a∨e∈b
theorem gY:∀{y z:List EntT},bc y→bc z→(∀e,e∈y ↔ e∈z)→y=z
 | [],[],_,_,_=>rfl
 | [],q::z,_,_,h=>absurd ((h q).2 (by simp)) (by simp)
 | p::y,[],_,_,h=>absurd ((h p).1 (by simp)) (by simp)
 | p::y,q::z,Sy,Sz,h=>by
  have hy:=Dq.1 Sy
  have hz:=Dq.1 Sz
  have hpq:p=q:=by
   rcases CU.1 ((h p).1 (by simp)) with e|h1
   ·exact e
   ·rcases CU.1 ((h q).2 (by simp)) with e|h2
    ·exact e.symm
    ·exact absurd (hy.1 q h2) (mg (hz.1 p h1))
  subst hpq
  have:y=z:=gY hy.2 hz.2 fun e=>by
   have h1:=h e
   simp only[CU] at h1
   constructor
   ·intro he
    rcases h1.1 (.inr he) with rfl|h2
    ·exact absurd rfl (vS (hy.1 _ he))
    ·exact h2
   ·intro he
    rcases h1.2 (.inr he) with rfl|h2
    ·exact absurd rfl (vS (hz.1 _ he))
    ·exact h2
  rw[this]
theorem s8{y:List EntT}(S:bc y){e f:EntT}(he:e∈y)(hf:f∈y)(hs:e.st=f.st):e=f:=by
 induction y with
 | nil=>cases he
 | cons p y ih =>
  have hy:=Dq.1 S
  rcases CU.1 he with e1|he1
  ·rcases CU.1 hf with e2|hf1
   ·rw[e1,e2]
   ·rw[e1] at hs
    exact absurd hs (vS (hy.1 f hf1))
  ·rcases CU.1 hf with e2|hf1
   ·rw[e2] at hs
    exact absurd hs.symm (vS (hy.1 e he1))
   ·exact ih hy.2 he1 hf1
theorem Uni.compat{a b y:List EntT}(U:Uni a b y):Compat a b:=fun e he f hf hs=>s8 U.1 ((U.2 e).2 (.inl he)) ((U.2 f).2 (.inr hf)) hs
def Val(l:List EntT):Prop:=∀e∈l,bz e=0
theorem BK{a b:List EntT}(Sa:bc a)(Sb:bc b)(Va:Val a)(Vb:Val b)(y:List EntT):joR a b=some y ↔ Uni a b y∧Fits y:=by
 have h:=d8 (a.length+b.length) a b [] rfl Sa Sb (by simp[bc]) (by simp[Le]) (by simp[Le])
 unfold joR
 cases hg:joG (a.length+b.length) a b [] with
 | none =>
  rw[hg] at h
  simp only[reduceCtorEq,false_iff]
  rintro⟨U,_⟩
  exact h ⟨U.compat,by simp[Compat],by simp[Compat]⟩
 | some z =>
  rw[hg] at h
  have hU:Uni a b z:=⟨h.1,fun e=>by rw[h.2 e];simp⟩
  have hV:∀e∈z,bz e=0:=fun e he=>by
   rcases(hU.2 e).1 he with h|h
   ·exact Va e h
   ·exact Vb e h
  simp only
  constructor
  ·intro he
   cases hf:fitB z with
   | false=>rw[hf] at he;cases he
   | true =>
    rw[hf] at he
    cases he
    exact⟨hU,(jM hV).1 hf⟩
  ·rintro⟨U,F⟩
   have:z=y:=gY hU.1 U.1 fun e=>by rw[hU.2 e,U.2 e]
   subst this
   rw[(jM hV).2 F]
   rfl
abbrev smS(L:List (List Dp))(i:Int):AS:={t:=mkT 27 0 [(0,aa L),(1,aa L),(4,bool false),(5,int i)],h:=[],m:=[]}
theorem BL{L:List (List Dp)}{e:EntT}{i:Nat}(hr:ad (i:Int) L e.row 31)(hlt:Qd ((i:Int)<(L.length:Int))=true)(hw:Ct.wrap ((i:Int)+1)=((i+1:Nat):Int))(hsm:∀h,Ev Cr Γ0 37 [ag e.row,ag e.row] h (bool true) h):(CW Cr Γ0 [] false (sub Hg 0) (smS L i) .normal (smS L ((i+1:Nat):Int))):=by
 refine zX {t:=mkT 27 0 [(0,aa L),(1,aa L),(4,bool false),(5,int (Cz Ct ((↑i:Int)+1)))],h:=[],m:=[]} Exit.normal [.st (.mask [0,1,4,5]),.st (.trim 0)] [.b true,.row [vi e.time,vi e.campus,vi e.no,vi e.kind,vi e.stu,vi e.obj,vi e.term,vi e.val,vi e.frm,vi e.til,vs e.text,vi e.sec.id,vi e.sec.course,vi e.sec.term,vi e.sec.campus,vi e.sec.seats,CB (Cq CE e.sec.mts),CB (Cq CA e.sec.grs),CB (Cq ab e.sec.labs),Dp.v (CI e.sec.lab),vi e.req.campus,vi e.req.no,vi e.req.st,vi e.req.kind,vi e.req.time,CB (Cq Cv e.req.chs),vi e.req.gsec,vi e.req.glab,vi e.req.key,vi e.r,vi e.s],.row [vi e.time,vi e.campus,vi e.no,vi e.kind,vi e.stu,vi e.obj,vi e.term,vi e.val,vi e.frm,vi e.til,vs e.text,vi e.sec.id,vi e.sec.course,vi e.sec.term,vi e.sec.campus,vi e.sec.seats,CB (Cq CE e.sec.mts),CB (Cq CA e.sec.grs),CB (Cq ab e.sec.labs),Dp.v (CI e.sec.lab),vi e.req.campus,vi e.req.no,vi e.req.st,vi e.req.kind,vi e.req.time,CB (Cq Cv e.req.chs),vi e.req.gsec,vi e.req.glab,vi e.req.key,vi e.r,vi e.s],.val (bool true),.b false] (.c hlt (.c hr (.c hr (.c (@hsm ([])) (.c (show(!true)=false from rfl) .n))))) ?_ ?_<;>(first|rfl|(rw[hw]<;>rfl))
theorem BM{L:List (List Dp)}{i:Nat}(hlt:Qd ((i:Int)<(L.length:Int))=false):(CW Cr Γ0 [] false (sub Hg 0) (smS L i) (.exit 0) {t:=mkT 27 0 [],h:=[],m:=[]}):=by
 exact zx [.st (.mask [])] [.b false] (.c hlt .n)
theorem BN{l:List EntT}(hs:am l)(ho:∀e∈l,e.ok):CW Cr Γ0 [] false (.loop (sub Hg 0)) (smS (l.map CG) 0) (.exit 0) {t:=mkT 27 0 [],h:=[],m:=[]}:=by
 have:=CW.each (P:=Cr) (Γ:=Γ0) (h0:=[]) (rd:=false) (c:=sub Hg 0) (σ:=Unit) (ρ:=Empty) l (fun _ s=>.inl s) (fun j _=>smS (l.map CG) (j:Int)) (.exit 0) (fun _=>{t:=mkT 27 0 [],h:=[],m:=[]}) (fun r=>r.elim) (fun _ _=>True) (by simp) (fun r=>r.elim) ?_ ?_ () trivial
 ·rw[oX (fun s _=>s)] at this
  exact this
 ·intro j e s hj _
  have hlt:=(Cx.1 hj).1
  have o:=ho e (Da hj)
  have he:iL e e=true:=by rw[iQ];exact(eW e e).2 rfl
  have hsm:∀h,Ev Cr Γ0 37 [ag e.row,ag e.row] h (bool true) h:=fun h=>by
   rw[←he]
   exact bo o.m o.g o.l o.c h
  exact⟨fun _ _=>trivial,BL (rowAt (row:=CG) (sz:=31) hj rfl) (lt_len CG hlt) (wrap_succ hlt hs) hsm⟩
 ·intro s _
  exact BM (a9 CG l)
theorem same_a{L:List (List Dp)}(hn:((L.length:Int) != (L.length:Int))=false)(hl:CW Cr Γ0 [] false (.loop (sub Hg 0)) (smS L 0) (.exit 0) {t:=mkT 27 0 [],h:=[],m:=[]})(h:List Blk):(Ev Cr Γ0 19 [aa L,aa L] h (bool true) h):=by
 have hl0:=(@hl)
 exact z0 [.b false,.sum [0,1,4,5] (Exit.exit 0) {t:=mkT 27 0 [],h:=[],m:=[]}] (.c hn (.c hl0 .n)) h
theorem xW{l:List EntT}(hs:am l)(ho:∀e∈l,e.ok)(h:List Blk):Ev Cr Γ0 19 [aa (l.map CG),aa (l.map CG)] h (bool true) h:=same_a (by simp) (BN hs ho) h
end Go.Vi
