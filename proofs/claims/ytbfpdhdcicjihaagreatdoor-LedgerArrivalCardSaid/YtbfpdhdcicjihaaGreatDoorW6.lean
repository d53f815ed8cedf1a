/- LedgerArrival: part of the proof: contracts of the functions that the law reaches, and the law. No conditions beyond the given statement's own. -/
import Derived.Test.YtbfpdhdcicjihaaGreatDoorW5
open Decidable renaming decide → Qd
open Option.some renaming injEq → G0
open List renaming length_cons → HZ, length_nil → IP, map → GU, getElem?_eq_some_iff → G9, getD → HC, mem_append → HN, pairwise_cons → Ib, mem_cons → HB, mem_of_getElem? → HL, length_eq_zero_iff → Mw, length → G3, head? → JM, drop → Hb
open Go.Proofs.Tryz renaming prog → GV, f8 → I8, f48 → MU, f5 → Me, f11 → Mg, f3 → K3, f74 → JD
open Go.Vi.EntT renaming row → Hi
open Go.Vi.VInvP renaming of_call → K0
open Go.Vi.MeT renaming row → Hm
open Go.Vi.GrT renaming row → Hn
open Go.Vi.BuT renaming row → G7
open Go.Vi.Ev renaming glob0 → Hx, frame0 → L5
open Go.Exit renaming exit → HJ, normal → Hz
open Bool renaming or_eq_false_iff → JS, true_and → Iy, false_and → Li, and_false → J4, or_eq_true → JH, and_eq_true → G6
open Go.IntKind renaming i64 → GY, wrap → G1, u32 → GX
open Go.Vi.Dp renaming sl → Hj, v → G2
open Go.Value renaming bool → Ht, int → GW
open Go.Vi.Memo renaming ok_of → Kx
open Classical renaming not_not → MI
open Go.Vi.D renaming p → Hf
open BitVec renaming toNat → GT, ofInt → G5
open Int renaming toNat → Hh
open Go Go.Proofs
namespace Go.Vi
set_option maxRecDepth 100000
set_option maxHeartbeats 4000000
def joR(a b:List EntT):Option (List EntT):=match joG (a.length+b.length) a b [] with
 | none=>none
 | some y=>bif vX y then some y else none
theorem gS:∀(k:Nat) (a b x y:List EntT),joG k a b x=some y→(∀e∈y,e∈a∨e∈b∨e∈x)∧y.length≤x.length+a.length+b.length
 | 0,a,b,x,y,h=>by simp only[joG,G0] at h;subst h;exact⟨fun e he=>.inr (.inr he),by omega⟩
 | _+1,[],[],x,y,h=>by simp only[joG,G0] at h;subst h;exact⟨fun e he=>.inr (.inr he),by omega⟩
 | k+1,[],m::b,x,y,h=>by
  simp only[joG] at h
  cases hx:joF x m with
  | none=>rw[hx] at h;cases h
  | some x' =>
   rw[hx] at h
   obtain⟨h1,h2⟩:=gS k _ _ _ _ h
   have h3:=fK hx
   refine⟨fun e he=>?_,by simp only[HZ,IP] at *;omega⟩
   rcases h1 e he with h|h|h
   ·exact .inl h
   ·exact .inr (.inl (by simp[h]))
   ·rcases joF_mem hx e h with h|h
    ·exact .inr (.inr h)
    ·exact .inr (.inl (by simp[h]))
 | k+1,n::a,[],x,y,h=>by
  simp only[joG] at h
  cases hx:joF x n with
  | none=>rw[hx] at h;cases h
  | some x' =>
   rw[hx] at h
   obtain⟨h1,h2⟩:=gS k _ _ _ _ h
   have h3:=fK hx
   refine⟨fun e he=>?_,by simp only[HZ,IP] at *;omega⟩
   rcases h1 e he with h|h|h
   ·exact .inl (by simp[h])
   ·exact .inr (.inl h)
   ·rcases joF_mem hx e h with h|h
    ·exact .inr (.inr h)
    ·exact .inl (by simp[h])
 | k+1,n::a,m::b,x,y,h=>by
  simp only[joG] at h
  cases hc:Qd (bq m.st n.st<0) with
  | true =>
   rw[hc] at h
   simp only at h
   cases hx:joF x m with
   | none=>rw[hx] at h;cases h
   | some x' =>
    rw[hx] at h
    obtain⟨h1,h2⟩:=gS k _ _ _ _ h
    have h3:=fK hx
    refine⟨fun e he=>?_,by simp only[HZ] at *;omega⟩
    rcases h1 e he with h|h|h
    ·exact .inl h
    ·exact .inr (.inl (by simp[h]))
    ·rcases joF_mem hx e h with h|h
     ·exact .inr (.inr h)
     ·exact .inr (.inl (by simp[h]))
  | false =>
   rw[hc] at h
   simp only at h
   cases hx:joF x n with
   | none=>rw[hx] at h;cases h
   | some x' =>
    rw[hx] at h
    obtain⟨h1,h2⟩:=gS k _ _ _ _ h
    have h3:=fK hx
    refine⟨fun e he=>?_,by simp only[HZ] at *;omega⟩
    rcases h1 e he with h|h|h
    ·exact .inl (by simp[h])
    ·exact .inr (.inl h)
    ·rcases joF_mem hx e h with h|h
     ·exact .inr (.inr h)
     ·exact .inl (by simp[h])
structure JoOk (a b:List EntT):Prop where
 l:a.length+b.length≤60000
 oa:∀e∈a,e.ok
 ob:∀e∈b,e.ok
 va:∀e∈a,0≤e.campus∧e.campus<7
 vb:∀e∈b,0≤e.campus∧e.campus<7
theorem joX_ok{a b y:List EntT}(J:JoOk a b)(hy:joR a b=some y)(h:List Blk):Ev GV Γ0 22 (XY a b) h (aa (y.map Hi)) h:=by
 unfold joR at hy
 cases hg:joG (a.length+b.length) a b [] with
 | none=>rw[hg] at hy;cases hy
 | some z =>
  rw[hg] at hy
  simp only at hy
  cases hf:vX z with
  | false=>rw[hf] at hy;cases hy
  | true =>
   rw[hf] at hy
   cases hy
   obtain⟨h1,h2⟩:=gS _ _ _ _ _ hg
   have:=J.l
   refine yV hg J.l J.oa J.ob (fun e he=>?_) hf (by simp only[IP] at h2;omega) h
   rcases h1 e he with h|h|h
   ·exact J.va e h
   ·exact J.vb e h
   ·cases h
theorem Ft{a b:List EntT}(J:JoOk a b)(hy:joR a b=none):VPan GV Γ0 22 (XY a b) [] fun c h'=>c=dmC 390∧h'=[]:=by
 unfold joR at hy
 cases hg:joG (a.length+b.length) a b [] with
 | none=>exact wc hg J.l J.oa J.ob
 | some z =>
  rw[hg] at hy
  simp only at hy
  cases hf:vX z with
  | true=>rw[hf] at hy;cases hy
  | false =>
   obtain⟨h1,h2⟩:=gS _ _ _ _ _ hg
   have:=J.l
   refine sN hg J.l J.oa J.ob (fun e he=>?_) hf (by simp only[IP] at h2;omega)
   rcases h1 e he with h|h|h
   ·exact J.va e h
   ·exact J.vb e h
   ·cases h
noncomputable abbrev p2C:Code:=cR (cR (ap I8))
noncomputable abbrev p2O:Array Oper:=cq (cL p2C)
noncomputable abbrev p3C:Code:=cR p2C
noncomputable abbrev p3O:Array Oper:=cq (cL p3C)
noncomputable abbrev p4C:Code:=cR p3C
noncomputable abbrev p4O:Array Oper:=cq (cL p4C)
noncomputable abbrev opN(os:Array Oper)(k:Nat):Oper:=(os.toList.drop k).headD default
theorem sO:p2C=.seq (.region (wv (cL p2C)) p2O false) p3C:=by kernel_rfl
theorem y3:p3C=.seq (.region (wv (cL p3C)) p3O false) p4C:=by kernel_rfl
theorem Fu:p4C=.seq (.region (wv (cL p4C)) p4O false) (cR p4C):=by kernel_rfl
abbrev p2T(L:List (List Dp))(e:Int):List D:=mkT 23 0 [(0,aa L),Xl,(4,nq),(5,int 0),Wp,(9,aa L),(10,int e)]
theorem p2_pan{L:List (List Dp)}{n:EntT}{e:Int}(he:(e==0)=false)(hck:∀h,Ev GV Γq 6 [aa L] h (int e) h):CW GV Γq (puH n 0) false p2C (XQ L n) (zb8 e) {t:=p2T L e,h:=puH n 0,m:=[]}:=by
 rw[sO]
 refine CW.out (by simp) (CW.symPan (os1:=p2O.toList.take 2) (rest:=[]) (o:=opN p2O 2) (fv:=uI (opN p2O 2)) (args:=dM (opN p2O 2)) (ats:=sM (opN p2O 2)) (h1:=puH n 0) (φ:=[Ev GV Γq 6 [aa L] (puH n 0) (int e) (puH n 0)]) pok (I:=noI) (fun _ _ _ _ _ _ _ _ h=>by simp[noI] at h) [.val (int e)] (by kernel_rfl) rfl (by kernel_rfl) ⟨hck _,trivial⟩ (by kernel_rfl) (by kernel_rfl) ?_ rfl)
 have e1:evalD Γq (p2T L e) (uI (opN p2O 2))=.p (Wm 21):=by kernel_rfl
 have e2:(dM (opN p2O 2)).toList.map (evalD Γq (p2T L e))=[int e]:=by kernel_rfl
 rw[e1,e2]
 exact K0 pok (f:=21) (fi:=[]) (ca:=[]) rfl (by kernel_rfl) (y1 e he _).glob0
noncomputable abbrev uJ(n:EntT):List Blk:=(zcj n)
theorem p2_ok{L:List (List Dp)}{n:EntT}(hck:∀h,Ev GV Γq 6 [aa L] h (int 0) h):(CW GV Γq (puH n 0) false (cL (cR (cR (ap I8)))) (XQ L n) .normal (XQ L n)):=by
 exact zx [.st (.mask [0,3,4,5,6])] [.val (int 0),.val (D.tup [])] (.c (@hck (uJ n)) (.c (Hx (Γ':=Γq) (@pA (uJ n))) .n))
abbrev p3T(L:List (List Dp))(n:EntT)(e:Int):List D:=mkT 23 0 [(0,aa L),Xl,(4,nq),(5,int 0),Wp,(12,ag n.row),(13,int e)]
theorem p3_pan{L:List (List Dp)}{n:EntT}{e:Int}(he:(e==0)=false)(hen:∀h,Ev GV Γq 15 [ag n.row] h (int e) h):CW GV Γq (puH n 0) false p3C (XQ L n) (zb8 e) {t:=p3T L n e,h:=puH n 0,m:=[]}:=by
 rw[y3]
 refine CW.out (by simp) (CW.symPan (os1:=p3O.toList.take 2) (rest:=[]) (o:=opN p3O 2) (fv:=uI (opN p3O 2)) (args:=dM (opN p3O 2)) (ats:=sM (opN p3O 2)) (h1:=puH n 0) (φ:=[Ev GV Γq 15 [ag n.row] (puH n 0) (int e) (puH n 0)]) pok (I:=noI) (fun _ _ _ _ _ _ _ _ h=>by simp[noI] at h) [.val (int e)] (by kernel_rfl) rfl (by kernel_rfl) ⟨hen _,trivial⟩ (by kernel_rfl) (by kernel_rfl) ?_ rfl)
 have e1:evalD Γq (p3T L n e) (uI (opN p3O 2))=.p (Wm 21):=by kernel_rfl
 have e2:(dM (opN p3O 2)).toList.map (evalD Γq (p3T L n e))=[int e]:=by kernel_rfl
 rw[e1,e2]
 exact K0 pok (f:=21) (fi:=[]) (ca:=[]) rfl (by kernel_rfl) (y1 e he _).glob0
noncomputable abbrev uK(n:EntT):List Blk:=(zcj n)
theorem p3_ok{L:List (List Dp)}{n:EntT}(hen:∀h,Ev GV Γq 15 [ag n.row] h (int 0) h):(CW GV Γq (puH n 0) false (cL (cR (cR (cR (ap I8))))) (XQ L n) .normal (XQ L n)):=by
 exact zx [.st (.mask [0,3,4,5,6])] [.val (int 0),.val (D.tup [])] (.c (@hen (uK n)) (.c (Hx (Γ':=Γq) (@pA (uK n))) .n))
abbrev p4T(L:List (List Dp))(n:EntT):List D:=mkT 23 0 [(0,aa L),Xl,(4,nq),(5,int 0),Wp,(15,aa L),(16,ag n.row),(17,.ref (.vec 2 0))]
abbrev p4H(n:EntT):List Blk:=[a5 n,.var [int 0],.vec [n.row.map .p] 0 31]
theorem p4_pan{L:List (List Dp)}{n:EntT}(hjo:VPan GV Γ0 22 [aa L,aa [n.row]] [] fun c h'=>c=dmC 390∧h'=[]):CW GV Γq (puH n 0) false p4C (XQ L n) X9 {t:=p4T L n,h:=p4H n,m:=[]}:=by
 rw[Fu]
 refine CW.out (by simp) (CW.symPan (os1:=p4O.toList.take 3) (rest:=p4O.toList.drop 4) (o:=opN p4O 3) (fv:=uI (opN p4O 3)) (args:=dM (opN p4O 3)) (ats:=sM (opN p4O 3)) (h1:=p4H n) (φ:=[]) pok (I:=noI) (fun _ _ _ _ _ _ _ _ h=>by simp[noI] at h) [] (by kernel_rfl) rfl (by kernel_rfl) trivial (by kernel_rfl) (by kernel_rfl) ?_ rfl)
 have e1:evalD Γq (p4T L n) (uI (opN p4O 3))=.p (Wm 22):=by kernel_rfl
 have e2:(dM (opN p4O 3)).toList.map (evalD Γq (p4T L n))=[aa L,.ref (.vec 2 0)]:=by kernel_rfl
 rw[e1,e2]
 refine K0 pok (f:=22) (fi:=[]) (ca:=[]) rfl (by kernel_rfl) ?_
 exact VPan.frzArgs (args:=[aa L,.ref (.vec 2 0)]) (h:=p4H n) (by rfl) hjo.glob0
theorem Fv{L:List (List Dp)}{n:EntT}{e:Int}:gq GV I8 (fy GV Γq noW 100) 0 (zb8 e) {t:=p2T L e,h:=puH n 0,m:=[]} (some (19,Zi))=some (.ret (.tup [nq,int 0,int e]) []):=by kernel_rfl
theorem Fw{L:List (List Dp)}{n:EntT}{e:Int}:gq GV I8 (fy GV Γq noW 100) 0 (zb8 e) {t:=p3T L n e,h:=puH n 0,m:=[]} (some (19,Zi))=some (.ret (.tup [nq,int 0,int e]) []):=by kernel_rfl
theorem Fy{L:List (List Dp)}{n:EntT}:gq GV I8 (fy GV Γq noW 100) 0 X9 {t:=p4T L n,h:=p4H n,m:=[]} (some (19,Zi))=some (.ret (.tup [nq,int 0,int 390]) []):=by kernel_rfl
theorem Fz{a b:RqT}(hl:ar a.chs)(he:(((Qt a).length:Int) != ((Qt b).length:Int))=false):
  CW GV Γ0 [] false (.loop (sub MU 0)) (rqS a b 0) (au (.exit 0) (fun _:Unit=>(Y1 [] a b)) (fun _:Unit=>(.ret,rqX a b)) (qbR a.chs b.chs)).1 (au (.exit 0) (fun _:Unit=>(Y1 [] a b)) (fun _:Unit=>(.ret,rqX a b)) (qbR a.chs b.chs)).2:=by
 have hlen:a.chs.length=b.chs.length:=by simp at he;omega
 have hz:(a.chs.zip b.chs).length=a.chs.length:=by simp[hlen]
 refine CW.each (a.chs.zip b.chs) qbF (fun i _=>rqS a b (i:Int)) (.exit 0) _ (fun _=>(.ret,rqX a b)) (fun _ _=>True) (by simp) (fun _=>by simp) ?_ ?_ () trivial
 ·intro i p u hp _
  obtain⟨hi,he⟩:=G9.1 hp
  have hx:i<a.chs.length:=by omega
  have hy:i<b.chs.length:=by omega
  have h1:a.chs[i]? = some p.1:=by subst he;simp[hx]
  have h2:b.chs[i]? = some p.2:=by subst he;simp[hy]
  refine⟨fun _ _=>trivial,?_⟩
  unfold qbF buNe
  cases hn:(!(p.1.sec==p.2.sec&&(p.1.lab==p.2.lab&&true))) with
  | true=>exact rq_bad (x:=p.1) (y:=p.2) (rowAt h1 rfl) (rowAt h2 rfl) (lt_len _ hx) hn
  | false=>exact Dy (x:=p.1) (y:=p.2) (rowAt h1 rfl) (rowAt h2 rfl) (lt_len _ hx) (wrap_succ hx hl) hn
 ·intro u _
  rw[hz]
  exact Dz (bm _ a.chs)
theorem rs_hd{a b:RqT}(hh:(a.campus != b.campus||a.no != b.no||a.st != b.st||a.kind != b.kind||a.time != b.time||!(a.gsec==b.gsec&&(a.glab==b.glab&&true))||a.key != b.key||(((Qt a).length:Int) != ((Qt b).length:Int)))=true)(h:List Blk):(Ev GV Γ0 48 [ag a.row,ag b.row] h (bool false) h):=by
 exact z0 [.b true] (.c hh .n) h
theorem rs_r{a b:RqT}(hh:(a.campus != b.campus||a.no != b.no||a.st != b.st||a.kind != b.kind||a.time != b.time||!(a.gsec==b.gsec&&(a.glab==b.glab&&true))||a.key != b.key||(((Qt a).length:Int) != ((Qt b).length:Int)))=false)(hl:CW GV Γ0 [] false (.loop (sub MU 0)) (rqS a b 0) .ret (rqX a b))(h:List Blk):(Ev GV Γ0 48 [ag a.row,ag b.row] h (bool false) h):=by
 have hl0:=(@hl)
 exact z0 [.b false,.sum [2,3,5] (Exit.ret) {t:=mkT 80 0 [Yb],h:=[.var (Zp a a.kind),.var (Zp b b.kind)],m:=[]}] (.c hh (.c hl0 .n)) h
theorem rs_e{a b:RqT}(hh:(a.campus != b.campus||a.no != b.no||a.st != b.st||a.kind != b.kind||a.time != b.time||!(a.gsec==b.gsec&&(a.glab==b.glab&&true))||a.key != b.key||(((Qt a).length:Int) != ((Qt b).length:Int)))=false)(hl:CW GV Γ0 [] false (.loop (sub MU 0)) (rqS a b 0) (.exit 0) (Y1 [] a b))(h:List Blk):(Ev GV Γ0 48 [ag a.row,ag b.row] h (bool true) h):=by
 have hl0:=(@hl)
 exact z0 [.b false,.sum [2,3,5] (HJ 0) {t:=mkT 80 0 [],h:=[.var (Zp a a.kind),.var (Zp b b.kind)],m:=[]}] (.c hh (.c hl0 .n)) h
def mq(a b:RqT):Bool:=match (a.campus != b.campus||a.no != b.no||a.st != b.st||a.kind != b.kind||a.time != b.time||!(a.gsec==b.gsec&&(a.glab==b.glab&&true))||a.key != b.key||(((a.chs.map G7).length:Int) != ((b.chs.map G7).length:Int))) with
 | true=>false
 | false=>match qbR a.chs b.chs with
  | .inl _=>true
  | .inr _=>false
theorem Be{a b:RqT}(hc:ar a.chs)(h:List Blk):Ev GV Γ0 48 [ag a.row,ag b.row] h (bool (mq a b)) h:=by
 unfold mq
 cases hh:(a.campus != b.campus||a.no != b.no||a.st != b.st||a.kind != b.kind||a.time != b.time||!(a.gsec==b.gsec&&(a.glab==b.glab&&true))||a.key != b.key||(((Qt a).length:Int) != ((Qt b).length:Int))) with
 | true=>exact rs_hd hh h
 | false =>
  have he:(((Qt a).length:Int) != ((Qt b).length:Int))=false:=by
   simp only[JS] at hh;exact hh.2
  have:=Fz hc he
  simp only
  cases hf:qbR a.chs b.chs with
  | inl u=>rw[hf] at this;exact rs_e hh this h
  | inr u=>rw[hf] at this;exact rs_r hh this h
def mt(a b:EntT):Bool:=vH a b&&a.kind==b.kind&&a.stu==b.stu&&a.obj==b.obj&&a.term==b.term&&a.val==b.val&&(a.frm==b.frm&&(a.til==b.til&&true))&&eqS a.text b.text&&(a.r==b.r&&(a.s==b.s&&true))&&gM a.sec b.sec&&mq a.req b.req
noncomputable abbrev jY(a:EntT)(b:EntT):List Blk:=[.var (Za a a.kind),.var (Za b b.kind)]
theorem y4{a b:EntT}(hm:ar a.sec.mts)(hgr:ar a.sec.grs)(hi:ar a.sec.labs)(hc:ar a.req.chs)(h:List Blk):(Ev GV Γ0 30 (VJ a b) h (bool (mt a b)) h):=by
 exact zD (bool ((Z0 a b)&&(a.r==b.r&&(a.s==b.s&&true))&&gM a.sec b.sec&&mq a.req b.req)) [.val (bool (gM a.sec b.sec)),.val (bool (mq a.req b.req))] (.c (gd ((Z0 a b)&&(a.r==b.r&&(a.s==b.s&&true))) (@Ad (a.sec) (b.sec) hm hgr hi (jY a b))) (.c (gd ((Z0 a b)&&(a.r==b.r&&(a.s==b.s&&true))&&gM a.sec b.sec) (@Be (a.req) (b.req) hc (jY a b))) .n)) h (by first|rfl|(simp only[mt,vH];first|done|rfl))
def mV(a b:StT):Bool:=Qd (gu a b≥0)||a.campus==b.campus&&(Qd (a.time≥b.time)||Qd (a.no≥b.no))
def rC(pre:List EntT):List EntT→Bool
 | []=>false
 | e::l=>pre.any (fun x=>mV x.st e.st)||rC (pre++[e]) l
def sP(e:EntT):Bool:=Qd ((e.text.size:Int)≤1000)&&Qd (((e.sec.mts.map Hm).length:Int)≤20)&&Qd (((e.sec.grs.map Hn).length:Int)≤12)&&Qd (((e.sec.labs.map ab).length:Int)≤12)&&Qd (((e.req.chs.map G7).length:Int)≤12)
theorem FA{e:EntT}(h:List Blk):(Ev GV Γ0 17 [ag e.row] h (bool (sP e)) h):=by
 exact z0 [] .n h
abbrev fwS(l:List (List Dp))(i:Int):AS:={t:=mkT 19 0 [(0,aa l),(3,int i)],h:=[],m:=[]}
abbrev fwX:AS:={t:=(XC 19 2),h:=[],m:=[]}
abbrev fwE(l:List (List Dp)):AS:={t:=mkT 19 0 [(0,aa l)],h:=[],m:=[]}
theorem fw_ok{l:List (List Dp)}{e:EntT}{i:Nat}(hr:af (i:Int) l e.row 31)(hlt:Qd ((i:Int)<(l.length:Int))=true)(hw:GY.wrap ((i:Int)+1)=((i+1:Nat):Int))(hf:∀h,Ev GV Γ0 17 [ag e.row] h (bool true) h):(CW GV Γ0 [] false (sub Me 0) (fwS l i) .normal (fwS l ((i+1:Nat):Int))):=by
 refine zX {t:=mkT 19 0 [(0,aa l),(3,int (G1 GY ((↑i:Int)+1)))],h:=[],m:=[]} Hz [.st (.mask [0,3]),.st (.trim 0)] [.b true,.row [vi e.time,vi e.campus,vi e.no,vi e.kind,vi e.stu,vi e.obj,vi e.term,vi e.val,vi e.frm,vi e.til,vs e.text,vi e.sec.id,vi e.sec.course,vi e.sec.term,vi e.sec.campus,vi e.sec.seats,Hj (GU Hm e.sec.mts),Hj (GU Hn e.sec.grs),Hj (GU ab e.sec.labs),G2 (Ht e.sec.lab),vi e.req.campus,vi e.req.no,vi e.req.st,vi e.req.kind,vi e.req.time,Hj (GU G7 e.req.chs),vi e.req.gsec,vi e.req.glab,vi e.req.key,vi e.r,vi e.s],.val (bool true),.b false] (.c hlt (.c hr (.c (@hf ([])) (.c (show(!true)=false from rfl) .n)))) ?_ ?_<;>(first|rfl|(rw[hw]<;>rfl))
theorem fw_bad{l:List (List Dp)}{e:EntT}{i:Nat}(hr:af (i:Int) l e.row 31)(hlt:Qd ((i:Int)<(l.length:Int))=true)(hf:∀h,Ev GV Γ0 17 [ag e.row] h (bool false) h):(CW GV Γ0 [] false (sub Me 0) (fwS l i) .ret fwX):=by
 exact zx (Vg [2] 0) (zbs e (bool false) true) (.c hlt (.c hr (.c (@hf ([])) (.c (show(!false)=true from rfl) .n))))
theorem FB{l:List (List Dp)}{i:Nat}(hlt:Qd ((i:Int)<(l.length:Int))=false):(CW GV Γ0 [] false (sub Me 0) (fwS l i) (.exit 0) (fwE l)):=by
 exact zx [.st (.mask [0])] [.b false] (.c hlt .n)
def fwF(e:EntT)(_:Unit):Unit⊕Unit:=match sP e with
 | true=>.inl ()
 | false=>.inr ()
theorem FC{l:List EntT}(hs:ar l):CW GV Γ0 [] false (.loop (sub Me 0)) (fwS (l.map Hi) 0) (au (.exit 0) (fun _:Unit=>fwE (l.map Hi)) (fun _:Unit=>(.ret,fwX)) (forL fwF l ())).1 (au (.exit 0) (fun _:Unit=>fwE (l.map Hi)) (fun _:Unit=>(.ret,fwX)) (forL fwF l ())).2:=by
 refine CW.each l fwF (fun j _=>fwS (l.map Hi) (j:Int)) (.exit 0) _ _ (fun _ _=>True) (by simp) (fun _=>by simp) ?_ ?_ () trivial
 ·intro j e a hj _
  have hlt:=(G9.1 hj).1
  have hr:=rowAt (row:=Hi) (sz:=31) hj rfl
  have hf:=fun h=>FA (e:=e) h
  refine⟨fun _ _=>trivial,?_⟩
  unfold fwF
  cases hb:sP e with
  | true=>rw[hb] at hf;exact fw_ok hr (lt_len Hi hlt) (wrap_succ hlt hs) hf
  | false=>rw[hb] at hf;exact fw_bad hr (lt_len Hi hlt) hf
 ·intro a _
  exact FB (bm Hi l)
theorem few_x{L:List (List Dp)}(hl:CW GV Γ0 [] false (.loop (sub Me 0)) (fwS L 0) .ret fwX)(h:List Blk):(Ev GV Γ0 5 [aa L] h (bool false) h):=by
 have hl0:=(@hl)
 exact z0 [.sum [0,3] (Exit.ret) {t:=(XC 19 2),h:=[],m:=[]}] (.c hl0 .n) h
theorem few_o{L:List (List Dp)}(hl:CW GV Γ0 [] false (.loop (sub Me 0)) (fwS L 0) (.exit 0) (fwE L))(h:List Blk):(Ev GV Γ0 5 [aa L] h (bool (Qd ((L.length:Int)≤16))) h):=by
 have hl0:=(@hl)
 exact z0 [.sum [0,3] (HJ 0) {t:=mkT 19 0 [(0,aa L)],h:=[],m:=[]}] (.c hl0 .n) h
theorem y5:∀{l:List EntT},forL fwF l ()=(match l.all sP with|true=>.inl ()|false=>.inr ())
 | []=>rfl
 | e::l=>by
  unfold forL
  rw[List.all_cons]
  cases hb:sP e with
  | true=>simp only[fwF,hb,Iy];exact y5
  | false=>simp only[fwF,hb];rfl
def Ck(l:List EntT):Bool:=l.all sP&&Qd (((l.map Hi).length:Int)≤16)
theorem few_ev{l:List EntT}(hs:ar l)(h:List Blk):Ev GV Γ0 5 (WC l) h (bool (Ck l)) h:=by
 have:=FC hs
 rw[y5] at this
 unfold Ck
 cases hf:l.all sP with
 | true=>rw[hf] at this;rw[Iy];exact few_o this h
 | false=>rw[hf] at this;exact few_x this h
theorem we(a b:SecT):gM a b=secEq a b:=rfl
theorem y6(a b:RqT):mq a b=rqEq a b:=by
 have hq:qbB a.chs b.chs=(match (((Qt a).length:Int) != ((Qt b).length:Int)) with|true=>false|false=>match qbR a.chs b.chs with | .inl _=>true | .inr _=>false):=by
  unfold qbB
  cases (((Qt a).length:Int) != ((Qt b).length:Int))<;>rfl
 unfold mq rqEq
 rw[hq]
 simp only[bne]
 cases (((Qt a).length:Int)==((Qt b).length:Int))<;>cases qbR a.chs b.chs<;>cases (a.campus==b.campus)<;>cases (a.no==b.no)<;>cases (a.st==b.st)<;>cases (a.kind==b.kind)<;>cases (a.time==b.time)<;>cases (a.gsec==b.gsec&&(a.glab==b.glab&&true))<;>cases (a.key==b.key)<;>rfl
theorem wg(a b:EntT):mt a b=dv a b:=by
 unfold mt dv
 rw[we,y6]
 generalize (vH a b&&a.kind==b.kind&&a.stu==b.stu&&a.obj==b.obj&&a.term==b.term&&a.val==b.val&&(a.frm==b.frm&&(a.til==b.til&&true))&&eqS a.text b.text)=x
 generalize (a.r==b.r&&(a.s==b.s&&true))=y
 cases x<;>cases y<;>cases secEq a.sec b.sec<;>cases rqEq a.req b.req<;>rfl
set_option maxRecDepth 1000000
abbrev tk(a b c k t:Int):List D:=[int a,int b,int c,int k,int 0,int 0,int t,int 0,int 0,int 0,ad ⟨#[]⟩,int 0,int 0,int 0,int 0,int 0,nq,nq,nq,bool false,int 0,int 0,int 0,int 0,int 0,nq,int 0,int 0,int 0,int 0,int 0]
def s39m0:Memo:=⟨13,[.ref (.vec 0 0),.ref (.vs 0 0 1 2 none)],[.vec [(tk 2 0 1 9 3),(tk 2 1 1 9 3),(tk 5 0 2 9 3)] 0 31,.gone,.gone,.gone,.gone,.gone,.gone,.gone,.gone,.gone,.gone,.gone,.vec [(tk 2 0 1 9 3),(tk 2 1 1 9 3),(tk 5 0 2 9 3)] 2 31,.gone,.gone,.gone,.gone,.gone,.gone,.gone,.gone,.gone,.gone,.gone,.gone,.gone,.gone,.gone,.gone,.gone,.vec [(tk 2 0 1 9 3),(tk 2 1 1 9 3),(tk 5 0 2 9 3)] 2 31,.gone,.gone,.gone,.gone,.gone,.gone],.ret (.tup [.ref (.vec 46 2),int 0]) [.vec [(tk 2 0 1 9 3),(tk 2 1 1 9 3),(tk 5 0 2 9 3)] 0 31,.gone,.gone,.gone,.gone,.gone,.gone,.gone,.gone,.gone,.gone,.gone,.vec [(tk 2 0 1 9 3),(tk 2 1 1 9 3),(tk 5 0 2 9 3)] 2 31,.gone,.gone,.gone,.gone,.gone,.gone,.gone,.gone,.gone,.gone,.gone,.gone,.gone,.gone,.gone,.gone,.gone,.vec [(tk 2 0 1 9 3),(tk 2 1 1 9 3),(tk 5 0 2 9 3)] 2 31,.gone,.gone,.gone,.gone,.gone,.gone,.gone,.gone,.gone,.gone,.gone,.gone,.gone,.gone,.gone,.vec [(tk 2 0 1 9 3),(tk 2 1 1 9 3),(tk 5 0 2 9 3)] 2 31,.gone,.gone,.gone,.gone,.gone,.gone,.gone,.gone,.gone,.gone]⟩
theorem Bf:s39m0.Ok GV Γq:=Kx pok (ms:=[]) (by kernel_rfl) trivial
def s39m1:Memo:=⟨8,[.ref (.vec 0 0),.agg (tk 2 0 9 9 3)],[.vec [(tk 2 0 1 9 3),(tk 2 1 1 9 3),(tk 5 0 2 9 3)] 0 31,.gone,.gone,.gone,.gone,.gone,.gone,.gone,.gone,.gone,.gone,.gone,.vec [(tk 2 0 1 9 3),(tk 2 1 1 9 3),(tk 5 0 2 9 3)] 2 31,.gone,.gone,.gone,.gone,.gone,.gone,.gone,.gone,.gone,.gone,.gone,.gone,.gone,.gone,.gone,.gone,.gone,.vec [(tk 2 0 1 9 3),(tk 2 1 1 9 3),(tk 5 0 2 9 3)] 2 31,.gone,.gone,.gone,.gone,.gone,.gone,.gone,.gone,.gone,.gone,.gone,.gone,.gone,.gone,.gone,.vec [(tk 2 0 1 9 3),(tk 2 1 1 9 3),(tk 5 0 2 9 3)] 2 31,.gone,.gone,.gone,.gone,.gone,.gone,.gone,.gone,.gone,.gone],.ret (.tup [nq,int 0,int 390]) [.vec [(tk 2 0 1 9 3),(tk 2 1 1 9 3),(tk 5 0 2 9 3)] 0 31,.gone,.gone,.gone,.gone,.gone,.gone,.gone,.gone,.gone,.gone,.gone,.vec [(tk 2 0 1 9 3),(tk 2 1 1 9 3),(tk 5 0 2 9 3)] 2 31,.gone,.gone,.gone,.gone,.gone,.gone,.gone,.gone,.gone,.gone,.gone,.gone,.gone,.gone,.gone,.gone,.gone,.vec [(tk 2 0 1 9 3),(tk 2 1 1 9 3),(tk 5 0 2 9 3)] 2 31,.gone,.gone,.gone,.gone,.gone,.gone,.gone,.gone,.gone,.gone,.gone,.gone,.gone,.gone,.gone,.vec [(tk 2 0 1 9 3),(tk 2 1 1 9 3),(tk 5 0 2 9 3)] 2 31,.gone,.gone,.gone,.gone,.gone,.gone,.gone,.gone,.gone,.gone]⟩
theorem Bg:s39m1.Ok GV Γq:=Kx pok (ms:=[]) (by kernel_rfl) trivial
def s39m2:Memo:=⟨8,[.ref (.vs 0 0 0 2 none),.agg (tk 5 0 2 9 3)],[.vec [(tk 2 0 1 9 3),(tk 2 1 1 9 3),(tk 5 0 2 9 3)] 0 31],.ret (.tup [.ref (.vec 12 2),int 2,int 0]) [.vec [(tk 2 0 1 9 3),(tk 2 1 1 9 3),(tk 5 0 2 9 3)] 0 31,.gone,.gone,.gone,.gone,.gone,.gone,.gone,.gone,.gone,.gone,.gone,.vec [(tk 2 0 1 9 3),(tk 2 1 1 9 3),(tk 5 0 2 9 3)] 2 31,.gone,.gone,.gone,.gone,.gone,.gone]⟩
theorem Bh:s39m2.Ok GV Γq:=Kx pok (ms:=[]) (by kernel_rfl) trivial
def s39m3:Memo:=⟨8,[.ref (.vs 0 0 1 2 none),.agg (tk 2 0 1 9 3)],[.vec [(tk 2 0 1 9 3),(tk 2 1 1 9 3),(tk 5 0 2 9 3)] 0 31,.gone,.gone,.gone,.gone,.gone,.gone,.gone,.gone,.gone,.gone,.gone,.vec [(tk 2 0 1 9 3),(tk 2 1 1 9 3),(tk 5 0 2 9 3)] 2 31,.gone,.gone,.gone,.gone,.gone,.gone],.ret (.tup [.ref (.vec 30 2),int 0,int 0]) [.vec [(tk 2 0 1 9 3),(tk 2 1 1 9 3),(tk 5 0 2 9 3)] 0 31,.gone,.gone,.gone,.gone,.gone,.gone,.gone,.gone,.gone,.gone,.gone,.vec [(tk 2 0 1 9 3),(tk 2 1 1 9 3),(tk 5 0 2 9 3)] 2 31,.gone,.gone,.gone,.gone,.gone,.gone,.gone,.gone,.gone,.gone,.gone,.gone,.gone,.gone,.gone,.gone,.gone,.vec [(tk 2 0 1 9 3),(tk 2 1 1 9 3),(tk 5 0 2 9 3)] 2 31,.gone,.gone,.gone,.gone,.gone,.gone]⟩
theorem Bi:s39m3.Ok GV Γq:=Kx pok (ms:=[]) (by kernel_rfl) trivial
def s39m4:Memo:=⟨14,[.ref (.vec 0 0),int 16],[.vec [(tk 2 0 1 9 3),(tk 2 1 1 9 3),(tk 5 0 2 9 3)] 0 31,.gone,.gone,.gone,.gone,.gone,.gone,.gone,.gone,.gone,.gone,.gone,.vec [(tk 2 0 1 9 3),(tk 2 1 1 9 3),(tk 5 0 2 9 3)] 2 31,.gone,.gone,.gone,.gone,.gone,.gone,.gone,.gone,.gone,.gone,.gone,.gone,.gone,.gone,.gone,.gone,.gone,.vec [(tk 2 0 1 9 3),(tk 2 1 1 9 3),(tk 5 0 2 9 3)] 2 31,.gone,.gone,.gone,.gone,.gone,.gone,.gone,.gone,.gone,.gone,.gone,.gone,.gone,.gone,.gone,.vec [(tk 2 0 1 9 3),(tk 2 1 1 9 3),(tk 5 0 2 9 3)] 2 31,.gone,.gone,.gone,.gone,.gone,.gone,.gone,.gone,.gone,.gone],.ret (.tup [.ref (.vec 59 0),int 0]) [.vec [(tk 2 0 1 9 3),(tk 2 1 1 9 3),(tk 5 0 2 9 3)] 0 31,.gone,.gone,.gone,.gone,.gone,.gone,.gone,.gone,.gone,.gone,.gone,.vec [(tk 2 0 1 9 3),(tk 2 1 1 9 3),(tk 5 0 2 9 3)] 2 31,.gone,.gone,.gone,.gone,.gone,.gone,.gone,.gone,.gone,.gone,.gone,.gone,.gone,.gone,.gone,.gone,.gone,.vec [(tk 2 0 1 9 3),(tk 2 1 1 9 3),(tk 5 0 2 9 3)] 2 31,.gone,.gone,.gone,.gone,.gone,.gone,.gone,.gone,.gone,.gone,.gone,.gone,.gone,.gone,.gone,.vec [(tk 2 0 1 9 3),(tk 2 1 1 9 3),(tk 5 0 2 9 3)] 2 31,.gone,.gone,.gone,.gone,.gone,.gone,.gone,.gone,.gone,.gone,.gone,.gone,.vec [(tk 2 0 1 9 3)] 0 31,.gone,.gone]⟩
theorem Bj:s39m4.Ok GV Γq:=Kx pok (ms:=[]) (by kernel_rfl) trivial
def s39m5:Memo:=⟨6,[.ref (.vec 0 0)],[.vec [(tk 2 0 1 9 3),(tk 2 1 1 9 3),(tk 5 0 2 9 3)] 0 31,.gone,.gone,.gone,.gone,.gone,.gone,.gone,.gone,.gone,.gone,.gone,.vec [(tk 2 0 1 9 3),(tk 2 1 1 9 3),(tk 5 0 2 9 3)] 2 31,.gone,.gone,.gone,.gone,.gone,.gone,.gone,.gone,.gone,.gone,.gone,.gone,.gone,.gone,.gone,.gone,.gone,.vec [(tk 2 0 1 9 3),(tk 2 1 1 9 3),(tk 5 0 2 9 3)] 2 31,.gone,.gone,.gone,.gone,.gone,.gone,.gone,.gone,.gone,.gone,.gone,.gone,.gone,.gone,.gone,.vec [(tk 2 0 1 9 3),(tk 2 1 1 9 3),(tk 5 0 2 9 3)] 2 31,.gone,.gone,.gone,.gone,.gone,.gone,.gone,.gone,.gone,.gone,.gone,.gone,.vec [(tk 2 0 1 9 3)] 0 31,.gone,.gone],.ret (int 0) [.vec [(tk 2 0 1 9 3),(tk 2 1 1 9 3),(tk 5 0 2 9 3)] 0 31,.gone,.gone,.gone,.gone,.gone,.gone,.gone,.gone,.gone,.gone,.gone,.vec [(tk 2 0 1 9 3),(tk 2 1 1 9 3),(tk 5 0 2 9 3)] 2 31,.gone,.gone,.gone,.gone,.gone,.gone,.gone,.gone,.gone,.gone,.gone,.gone,.gone,.gone,.gone,.gone,.gone,.vec [(tk 2 0 1 9 3),(tk 2 1 1 9 3),(tk 5 0 2 9 3)] 2 31,.gone,.gone,.gone,.gone,.gone,.gone,.gone,.gone,.gone,.gone,.gone,.gone,.gone,.gone,.gone,.vec [(tk 2 0 1 9 3),(tk 2 1 1 9 3),(tk 5 0 2 9 3)] 2 31,.gone,.gone,.gone,.gone,.gone,.gone,.gone,.gone,.gone,.gone,.gone,.gone,.vec [(tk 2 0 1 9 3)] 0 31,.gone,.gone]⟩
theorem Bk:s39m5.Ok GV Γq:=Kx pok (ms:=[]) (by kernel_rfl) trivial
def s39mR:Memo:=⟨4,[],[],.ret (bool true) []⟩
theorem Bl:s39mR.Ok GV Γq:=Kx pok (ms:=[s39m0,s39m1,s39m2,s39m3,s39m4,s39m5]) (by kernel_rfl) ⟨Bf,Bg,Bh,Bi,Bj,Bk,trivial⟩
theorem mu(h:List Blk):Ev GV Γq 4 [] h (bool true) h:=L5 rfl (Memo.call Bl rfl) h
def gi(a b:StT):Prop:=a.time<b.time∨(a.time=b.time∧(a.campus<b.campus∨(a.campus=b.campus∧a.no<b.no)))
theorem cmp8_cases(a b:Int):(a<b∧fH a b = -1)∨(a=b∧fH a b=0)∨(b<a∧fH a b=1):=by
 unfold fH
 rcases Int.lt_trichotomy a b with h|h|h
 ·left;rw[decide_eq_true h];exact⟨h,rfl⟩
 ·right;left;subst h;simp
 ·right;right
  have h1:Qd (a<b)=false:=by simp;omega
  have h2:Qd (a>b)=true:=by simp;omega
  rw[h1,h2];exact⟨h,rfl⟩
theorem stCmp8_cases(a b:StT):(gi a b∧gu a b = -1)∨(¬gi a b∧¬gi b a∧gu a b=0)∨(gi b a∧gu a b=1):=by
 unfold gu gi
 rcases cmp8_cases a.time b.time with ⟨h1,e1⟩|⟨h1,e1⟩|⟨h1,e1⟩<;>rw[e1]
 ·left;exact⟨.inl h1,rfl⟩
 ·rcases cmp8_cases a.campus b.campus with ⟨h2,e2⟩|⟨h2,e2⟩|⟨h2,e2⟩<;>rw[e2]
  ·left;exact⟨.inr ⟨h1,.inl h2⟩,rfl⟩
  ·rcases cmp8_cases a.no b.no with ⟨h3,e3⟩|⟨h3,e3⟩|⟨h3,e3⟩<;>rw[e3]
   ·left;exact⟨.inr ⟨h1,.inr ⟨h2,h3⟩⟩,rfl⟩
   ·right;left;exact⟨by omega,by omega,rfl⟩
   ·right;right;exact⟨by omega,rfl⟩
  ·right;right;exact⟨by omega,rfl⟩
 ·right;right;exact⟨.inl h1,rfl⟩
theorem kM(a b:StT):bq a b=gu a b:=by
 unfold bq kc gu iP
 rcases cmp8_cases a.time b.time with ⟨h1,e1⟩|⟨h1,e1⟩|⟨h1,e1⟩<;>rw[e1]
 ·have:(a.time==b.time)=false:=by simp;omega
  rw[this];rfl
 ·rcases cmp8_cases a.campus b.campus with ⟨h2,e2⟩|⟨h2,e2⟩|⟨h2,e2⟩<;>rw[e2]
  ·have:(a.campus==b.campus)=false:=by simp;omega
   rw[this,Li,J4];rfl
  ·rcases cmp8_cases a.no b.no with ⟨h3,e3⟩|⟨h3,e3⟩|⟨h3,e3⟩<;>rw[e3]
   ·have:(a.no==b.no)=false:=by simp;omega
    rw[this,Li,J4,J4];rfl
   ·rw[h1,h2,h3];simp
   ·have:(a.no==b.no)=false:=by simp;omega
    rw[this,Li,J4,J4];rfl
  ·have:(a.campus==b.campus)=false:=by simp;omega
   rw[this,Li,J4];rfl
 ·have:(a.time==b.time)=false:=by simp;omega
  rw[this];rfl
theorem uL(a b:StT):gu a b≥0 ↔ ¬gi a b:=by
 rcases stCmp8_cases a b with ⟨h,e⟩|⟨h,_,e⟩|⟨h,e⟩<;>rw[e]
 ·exact⟨fun h=>by omega,fun h2=>absurd h h2⟩
 ·exact⟨fun _=>h,fun _=>by omega⟩
 ·refine⟨fun _ h2=>?_,fun _=>by omega⟩
  unfold gi at h h2
  omega
abbrev z00:StT:=⟨0,0,0⟩
structure FitI (pre:List EntT) (s:List StT×Option StT):Prop where
 n:s.1.length=7
 c:∀c:Nat,c<7→(s.1.getD c z00=z00∧∀y∈pre,y.campus ≠ c)∨∃x∈pre,s.1.getD c z00=x.st∧x.campus=c∧∀y∈pre,y.campus=c→y.time≤x.time∧y.no≤x.no
 p:(s.2=none∧pre=[])∨∃x∈pre,s.2=some x.st∧∀y∈pre,¬gi x.st y.st
 v:∀y∈pre,1≤y.no
def sQ(s:StT)(o:Option StT):Bool:=match o with
 | none=>false
 | some p=>Qd (bq p s≥0)
theorem Bm{pre:List EntT}{s:List StT×Option StT}(I:FitI pre s)(e:EntT)(h0:0≤e.campus)(h7:e.campus<7):
  (sQ e.st s.2||fiB (s.1.getD e.st.campus.toNat z00) e.st)=pre.any (fun x=>mV x.st e.st):=by
 have hc:((e.st.campus.toNat:Nat):Int)=e.campus:=by show((e.campus.toNat:Nat):Int)=_;omega
 have hlt:e.st.campus.toNat<7:=by omega
 rw[Bool.eq_iff_iff,JH,List.any_eq_true]
 constructor
 ·rintro (h|h)
  ·rcases I.p with ⟨h1,_⟩|⟨x,hx,h1,_⟩
   ·rw[h1] at h;cases h
   ·rw[h1] at h
    refine⟨x,hx,?_⟩
    unfold mV
    have:Qd (gu x.st e.st≥0)=true:=by rw[←kM];exact h
    rw[this];rfl
  ·rcases I.c _ hlt with ⟨h1,_⟩|⟨x,hx,h1,h2,_⟩
   ·rw[h1] at h;cases h
   ·rw[h1] at h
    refine⟨x,hx,?_⟩
    unfold mV
    have hcc:(x.st.campus==e.st.campus)=true:=by
     show(x.campus==e.campus)=true
     rw[h2,hc];simp
    unfold fiB at h
    rw[G6] at h
    rw[hcc,h.2];simp
 ·rintro⟨y,hy,h⟩
  unfold mV at h
  rw[JH] at h
  rcases h with h|h
  ·left
   rcases I.p with ⟨_,h1⟩|⟨x,hx,h1,h2⟩
   ·rw[h1] at hy;cases hy
   ·rw[h1]
    show Qd (bq x.st e.st≥0)=true
    rw[kM]
    have ha:=(uL y.st e.st).1 (by simpa using h)
    have hb:=h2 y hy
    simp only[decide_eq_true_eq]
    rw[uL]
    unfold gi at *
    omega
  ·right
   rw[G6] at h
   have hcc:y.campus=((e.st.campus.toNat:Nat):Int):=by rw[hc];exact eq_of_beq h.1
   rcases I.c _ hlt with ⟨_,h1⟩|⟨x,hx,h1,h2,h3⟩
   ·exact absurd hcc (h1 y hy)
   ·rw[h1]
    have ⟨ht,hn⟩:=h3 y hy hcc
    have hv:=I.v x hx
    have hor:=h.2
    rw[JH] at hor
    simp only[decide_eq_true_eq] at hor
    unfold fiB
    rw[G6,JH]
    simp only[decide_eq_true_eq]
    refine⟨?_,?_⟩
    ·show x.no>0
     omega
    ·rcases hor with ho|ho
     ·left
      show x.time≥e.st.time
      have:y.st.time=y.time:=rfl
      omega
     ·right
      show x.no≥e.st.no
      have:y.st.no=y.no:=rfl
      omega
theorem Bn{pre:List EntT}{s:List StT×Option StT}(I:FitI pre s)(e:EntT)(h0:0≤e.campus)(h7:e.campus<7)(hn:1≤e.no)(hb:pre.any (fun x=>mV x.st e.st)=false):
  FitI (pre++[e]) (s.1.set e.st.campus.toNat e.st,some e.st):=by
 have hc:((e.st.campus.toNat:Nat):Int)=e.campus:=by show((e.campus.toNat:Nat):Int)=_;omega
 have hlt:e.st.campus.toNat<7:=by omega
 rw[List.any_eq_false] at hb
 have hall:∀y∈pre,gi y.st e.st∧(y.campus=e.campus→y.time<e.time∧y.no<e.no):=by
  intro y hy
  have:=hb y hy
  unfold mV at this
  simp only[JH,G6,decide_eq_true_eq,beq_iff_eq,not_or,not_and] at this
  have h1:=(not_congr (uL y.st e.st)).1 this.1
  refine⟨MI.1 h1,fun hcc=>?_⟩
  have h2:=this.2 hcc
  have e1:y.st.time=y.time:=rfl
  have e2:e.st.time=e.time:=rfl
  have e3:y.st.no=y.no:=rfl
  have e4:e.st.no=e.no:=rfl
  omega
 refine⟨by simp[I.n],?_,?_,?_⟩
 ·intro c hc7
  by_cases hce:c=e.st.campus.toNat
  ·subst hce
   right
   refine⟨e,by simp,?_,hc.symm,?_⟩
   ·rw[HC,List.getElem?_set_self (by rw[I.n];exact hlt)];rfl
   ·intro y hy hyc
    rw[HN] at hy
    rcases hy with hy|hy
    ·have:=(hall y hy).2 (by rw[hyc,hc]);omega
    ·simp at hy;subst hy;exact⟨Int.le_refl _,Int.le_refl _⟩
  ·have hg:(s.1.set e.st.campus.toNat e.st).getD c z00=s.1.getD c z00:=by
    rw[HC,HC,List.getElem?_set_ne (fun h=>hce h.symm)]
   simp only[hg]
   have hne:e.campus ≠ (c:Int):=by omega
   rcases I.c c hc7 with ⟨h1,h2⟩|⟨x,hx,h1,h2,h3⟩
   ·left
    refine⟨h1,fun y hy=>?_⟩
    rw[HN] at hy
    rcases hy with hy|hy
    ·exact h2 y hy
    ·simp at hy;subst hy;exact hne
   ·right
    refine⟨x,by simp[hx],h1,h2,fun y hy hyc=>?_⟩
    rw[HN] at hy
    rcases hy with hy|hy
    ·exact h3 y hy hyc
    ·simp at hy;subst hy;exact absurd hyc hne
 ·right
  refine⟨e,by simp,rfl,fun y hy=>?_⟩
  rw[HN] at hy
  rcases hy with hy|hy
  ·have:=(hall y hy).1
   unfold gi at *
   omega
  ·simp at hy;subst hy;unfold gi;omega
 ·intro y hy
  rw[HN] at hy
  rcases hy with hy|hy
  ·exact I.v y hy
  ·simp at hy;subst hy;exact hn
theorem Cl:∀(l pre:List EntT) (s:List StT×Option StT),FitI pre s→(∀e∈l,(0≤e.campus∧e.campus<7)∧1≤e.no)→(match forL (fun e:EntT=>fiF e.st) l s with | .inl _=>true | .inr _=>false) = !rC pre l
 | [],_,_,_,_=>rfl
 | e::l,pre,s,I,hv=>by
  have ⟨⟨h0,h7⟩,hn⟩:=hv e (by simp)
  have hc:=Bm I e h0 h7
  unfold forL
  have hF:fiF e.st s=match sQ e.st s.2||fiB (s.1.getD e.st.campus.toNat z00) e.st with|true=>.inr s.1|false=>.inl (s.1.set e.st.campus.toNat e.st,some e.st):=by
   unfold fiF sQ
   cases s.2<;>rfl
  simp only[hF,hc,rC]
  cases hb:pre.any (fun x=>mV x.st e.st) with
  | true=>rfl
  | false=>exact Cl l (pre++[e]) _ (Bn I e h0 h7 hn hb) (fun x hx=>hv x (by simp[hx]))
theorem FD:∀c:Nat,c<7→z7.getD c z00=z00:=by
 intro c hc
 have:c=0∨c=1∨c=2∨c=3∨c=4∨c=5∨c=6:=by omega
 rcases this with h|h|h|h|h|h|h<;>subst h<;>rfl
theorem fit_eq{l:List EntT}(hv:∀e∈l,(0≤e.campus∧e.campus<7)∧1≤e.no):vX l = !rC [] l :=
 Cl l [] (z7,none) ⟨rfl,fun c hc=>.inl ⟨FD c hc,fun y hy=>by cases hy⟩,.inl ⟨rfl,rfl⟩,fun y hy=>by cases hy⟩ hv
theorem few_ok{l:List EntT}(h:Ck l=true):∀e∈l,e.ok:=by
 intro e he
 unfold Ck at h
 rw[G6,List.all_eq_true] at h
 have:=h.1 e he
 simp only[sP,G6,decide_eq_true_eq,List.length_map] at this
 exact⟨by unfold ar;omega,by unfold ar;omega,by unfold ar;omega,by unfold ar;omega⟩
def FtOk(a b:EntT):Prop:=gi a.st b.st∧(a.campus=b.campus→a.time<b.time∧a.no<b.no)
theorem rD(a b:EntT):mV a.st b.st=false ↔ FtOk a b:=by
 have e1:a.st.time=a.time:=rfl
 have e2:b.st.time=b.time:=rfl
 have e3:a.st.no=a.no:=rfl
 have e4:b.st.no=b.no:=rfl
 have e5:a.st.campus=a.campus:=rfl
 have e6:b.st.campus=b.campus:=rfl
 unfold mV FtOk
 rw[JS,e1,e2,e3,e4,e5,e6]
 have h1:Qd (gu a.st b.st≥0)=false ↔ gi a.st b.st:=by
  rw[decide_eq_false_iff_not,uL,MI]
 rw[h1]
 refine and_congr_right fun _=>?_
 by_cases hc:a.campus=b.campus
 ·simp[hc]
 ·simp[hc]
def Fits(l:List EntT):Prop:=l.Pairwise FtOk
theorem rE:∀(l pre:List EntT),rC pre l=false ↔ (∀x∈pre,∀e∈l,FtOk x e)∧Fits l
 | [],pre=>by simp[rC,Fits]
 | e::l,pre=>by
  unfold rC
  rw[JS,rE l,List.any_eq_false]
  unfold Fits
  rw[Ib]
  constructor
  ·rintro⟨h1,h2,h3⟩
   refine⟨fun x hx y hy=>?_,fun y hy=>h2 e (by simp) y hy,h3⟩
   rcases HB.1 hy with rfl|hy
   ·exact(rD x y).1 (by simpa using h1 x hx)
   ·exact h2 x (by simp[hx]) y hy
  ·rintro⟨h1,h2,h3⟩
   refine⟨fun x hx=>by simpa using(rD x e).2 (h1 x hx e (by simp)),fun x hx y hy=>?_,h3⟩
   rcases HN.1 hx with hx|hx
   ·exact h1 x hx y (by simp[hy])
   ·simp at hx;subst hx;exact h2 y hy
structure Led (l:List EntT):Prop where
 len:l.length≤65536
 e:∀x∈l,bh x=0
 f:Fits l
theorem uM{e:EntT}(h:bh e=0):(1≤e.time∧e.time≤1048576)∧(0≤e.campus∧e.campus<7)∧(1≤e.no∧e.no≤1048576):=uC (ru h)
theorem kN{l:List EntT}(h:∀e∈l,bh e=0):vX l=true ↔ Fits l:=by
 rw[fit_eq fun e he=>⟨(uM (h e he)).2.1,(uM (h e he)).2.2.1⟩]
 have:=rE l []
 cases hu:rC [] l with
 | true =>
  rw[hu] at this
  refine⟨fun h=>(by cases h),fun h=>?_⟩
  have:=this.2 ⟨by simp,h⟩
  cases this
 | false=>rw[hu] at this;exact⟨fun _=>(this.1 rfl).2,fun _=>rfl⟩
theorem Cm:∀{l:List EntT},(∀e∈l,bh e=0)→forL lcF l ()=.inl ()
 | [],_=>rfl
 | e::l,h=>by
  have h1:lcF e ()=.inl ():=by unfold lcF;rw[h e (by simp)];rfl
  unfold forL
  rw[h1]
  exact Cm fun x hx=>h x (by simp[hx])
theorem pB{l:List EntT}:fJ l=0 ↔ Led l:=by
 unfold fJ
 constructor
 ·intro h
  cases hb:Qd (((l.map Hi).length:Int)>65536) with
  | true=>rw[hb] at h;cases h
  | false =>
   rw[hb] at h
   simp only at h
   cases hf:forL lcF l () with
   | inr r =>
    rw[hf] at h
    simp only at h
    exfalso
    have:∀(l:List EntT),forL lcF l ()=.inr r→r ≠ 0:=by
     intro l
     induction l with
     | nil=>intro h;cases h
     | cons x l ih =>
      intro h2
      unfold forL at h2
      cases hb2:bh x != 0 with
      | true =>
       simp only[lcF,hb2] at h2
       cases h2
       simpa using hb2
      | false=>simp only[lcF,hb2] at h2;exact ih h2
    exact this l hf h
   | inl u =>
    rw[hf] at h
    simp only at h
    have he:=sL ⟨u,hf⟩
    refine⟨by simp at hb;omega,he,(kN he).1 ?_⟩
    cases hfb:vX l with
    | true=>rfl
    | false=>rw[hfb] at h;cases h
 ·intro h
  have hb:Qd (((l.map Hi).length:Int)>65536)=false:=by have:=h.len;simp;omega
  rw[hb,Cm h.e,(kN h.e).2 h.f]
  rfl
theorem nZ{a b:StT}(h:gi a b):¬gi b a:=by unfold gi at *;omega
theorem Bo{a b:StT}(h:gi a b):Qd (bq a b<0)=true:=by
 rw[kM]
 rcases stCmp8_cases a b with ⟨_,e⟩|⟨h1,_⟩|⟨h1,_⟩
 ·rw[e];rfl
 ·exact absurd h h1
 ·exact absurd h1 (nZ h)
theorem stEq_iff{a b:StT}:kc a b=true ↔ a=b:=by
 cases a;cases b
 simp[kc]
def Bp(l:List EntT)(n:EntT):List EntT×Int×Int:=match fJ l != 0 with
 | true=>([],0,fJ l)
 | false=>match bh n != 0 with
  | true=>([],0,bh n)
  | false=>match joR l [n] with
   | none=>([],0,390)
   | some y=>(y,idxR n y,0)
theorem y7{e:Int}(h:(e != 0)=true):(e==0)=false:=by simpa using h
theorem uN{L:List (List Dp)}{n:EntT}{e:Exit}{s':AS}{d:D}(hrest:CW GV Γq (puH n 0) false (cR (cR (ap I8))) (XQ L n) e s')(hend:gq GV I8 (fy GV Γq noW 100) 0 e s' (some (19,Zi))=some (.ret d [])):Ev GV Γq 8 [aa L,ag n.row] [] d [] :=
 (VRes.of_top (f:=8) (args:=[aa L,ag n.row]) (dfn:=fy GV Γq noW 100) (h:=[]) (r:=.ret d []) (fn:=I8) (c:=ap I8) pok rfl rfl dfn_ok (Fm hrest) hend).call
theorem put_ok{l y:List EntT}{n:EntT}(hck:∀h,Ev GV Γq 6 (WC l) h (int 0) h)(hen:∀h,Ev GV Γq 15 [ag n.row] h (int 0) h)(J:JoOk l [n])(hy:joR l [n]=some y)(hly:ar y):Ev GV Γq 8 [aa (l.map Hi),ag n.row] [] (.tup [aa (y.map Hi),int (idxR n y),int 0]) []:=by
 have hjo:Ev GV Γ0 22 [aa (l.map Hi),.ref (.vec 0 0)] [.vec [n.row.map .p] 0 31] (aa (y.map Hi)) [.gone] :=
  Ev.pre [.st (.frz 0 [n.row])] (h1:=[.gone]) (args2:=[aa (l.map Hi),aa ([n].map Hi)]) rfl ⟨rfl,trivial⟩ (joX_ok J hy [.gone])
 exact uN (pu_ok hck hen hjo (idx_ev hly)) Fo
theorem FE{l:List EntT}{n:EntT}(hl:fJ l=0)(hn:bh n=0)(hs:l.length≤50000)(ol:∀e∈l,e.ok)(on:n.ok):JoOk l [n] :=
 ⟨by simp only[HZ,IP];omega,ol,by simpa using on,fun e he=>(uM ((pB.1 hl).e e he)).2.1,by simpa using(uM hn).2.1⟩
theorem FF{a b y:List EntT}(h:joR a b=some y):y.length≤a.length+b.length:=by
 unfold joR at h
 cases hg:joG (a.length+b.length) a b [] with
 | none=>rw[hg] at h;cases h
 | some z =>
  rw[hg] at h
  simp only at h
  cases hf:vX z with
  | false=>rw[hf] at h;cases h
  | true =>
   rw[hf] at h
   cases h
   have:=(gS _ _ _ _ _ hg).2
   simp only[IP] at this
   omega
theorem FG{l:List EntT}{n:EntT}(hs:l.length≤50000)(ol:∀e∈l,e.ok)(on:n.ok)(h:List Blk):Ev GV Γq 8 [aa (l.map Hi),ag n.row] h (.tup [aa ((Bp l n).1.map Hi),int (Bp l n).2.1,int (Bp l n).2.2]) h:=by
 have hck:=fun h=>yS (l:=l) (show l.length≤_ by omega) ol h
 have hen:=fun h=>mm on h
 unfold Bp
 cases h1:fJ l != 0 with
 | true =>
  have e1:=Ev.nilW (uN (p2_pan (n:=n) (y7 h1) hck) Fv)
  exact L5 rfl e1 h
 | false =>
  have h10:fJ l=0:=by simpa using h1
  rw[h10] at hck
  cases h2:bh n != 0 with
  | true =>
   have hr:CW GV Γq (puH n 0) false (cR (cR (ap I8))) {t:=puT (l.map Hi),h:=puH n 0,m:=[]} (zb8 (bh n)) {t:=p3T (l.map Hi) n (bh n),h:=puH n 0,m:=[]}:=by
    show CW _ _ _ _ p2C _ _ _
    rw[sO]
    exact CW.seq (p2_ok hck) (p3_pan (y7 h2) hen)
   have e1:=Ev.nilW (uN hr Fw)
   exact L5 rfl e1 h
  | false =>
   have h20:bh n=0:=by simpa using h2
   rw[h20] at hen
   have J:=FE h10 h20 hs ol on
   simp only
   cases h3:joR l [n] with
   | none =>
    have hr:CW GV Γq (puH n 0) false (cR (cR (ap I8))) {t:=puT (l.map Hi),h:=puH n 0,m:=[]} X9 {t:=p4T (l.map Hi) n,h:=p4H n,m:=[]}:=by
     show CW _ _ _ _ p2C _ _ _
     rw[sO]
     refine CW.seq (p2_ok hck) ?_
     rw[y3]
     exact CW.seq (p3_ok hen) (p4_pan (Ft J h3))
    have e1:=Ev.nilW (uN hr Fy)
    exact L5 rfl e1 h
   | some y =>
    have:=FF h3
    simp only[HZ,IP] at this
    exact L5 rfl (put_ok hck hen J h3 (show y.length≤_ by omega)) h
theorem zipEq{α:Type}{ne:α→α→Bool}(hne:∀a b,ne a b=false ↔ a=b){F:α×α→Unit→Unit⊕Unit}(hF:∀p u,F p u=bif ne p.1 p.2 then .inr () else .inl ()):∀(xs ys:List α),xs.length=ys.length→((match forL F (xs.zip ys) () with | .inl _=>true | .inr _=>false)=true ↔ xs=ys)
 | [],[],_=>by simp[forL]
 | [],_::_,h=>by simp at h
 | _::_,[],h=>by simp at h
 | x::xs,y::ys,h=>by
  have ih:=zipEq hne hF xs ys (by simpa using h)
  simp only[List.zip_cons_cons,forL,hF]
  cases hn:ne x y with
  | true =>
   simp only[cond_true]
   have:x ≠ y:=fun e=>by rw[(hne x y).2 e] at hn;cases hn
   simp[this]
  | false =>
   simp only[cond_false]
   rw[ih,(hne x y).1 hn]
   simp
theorem uO{α:Type}{row:α→List Dp}{ne:α→α→Bool}(hne:∀a b,ne a b=false ↔ a=b){F:α×α→Unit→Unit⊕Unit}(hF:∀p u,F p u=bif ne p.1 p.2 then .inr () else .inl ())(xs ys:List α):
  (if (((xs.map row).length:Int) != ((ys.map row).length:Int))=true then false else match forL F (xs.zip ys) () with | .inl _=>true | .inr _=>false)=true ↔ xs=ys:=by
 by_cases hl:xs.length=ys.length
 ·rw[if_neg (by simp[hl])]
  exact zipEq hne hF xs ys hl
 ·rw[if_pos (by simp;omega)]
  simp only[Bool.false_eq_true,false_iff]
  exact fun e=>hl (by rw[e])
theorem Bq(a b:MeT):meNe a b=false ↔ a=b:=by cases a;cases b;simp[meNe]
theorem Br(a b:GrT):grNe a b=false ↔ a=b:=by cases a;cases b;simp[grNe]
theorem Bs(a b:BuT):buNe a b=false ↔ a=b:=by cases a;cases b;simp[buNe]
theorem Bt(a b:Int):wu a b=false ↔ a=b:=by simp[wu]
theorem qm_iff(xs ys:List MeT):qmB xs ys=true ↔ xs=ys:=uO (row:=Hm) Bq (F:=qmF) (fun _ _=>rfl) xs ys
theorem qg_iff(xs ys:List GrT):qgB xs ys=true ↔ xs=ys:=uO (row:=Hn) Br (F:=qgF) (fun _ _=>rfl) xs ys
theorem qi_iff(xs ys:List Int):qiB xs ys=true ↔ xs=ys:=uO (row:=ab) Bt (F:=qiF) (fun _ _=>rfl) xs ys
theorem qb_iff(xs ys:List BuT):qbB xs ys=true ↔ xs=ys:=uO (row:=G7) Bs (F:=qbF) (fun _ _=>rfl) xs ys
theorem FH(a b:ByteArray):eqS a b=true ↔ a=b:=by
 unfold eqS
 rw[beq_iff_eq,Array.toList_inj]
 cases a;cases b;simp
theorem y8(a b:SecT):secEq a b=true ↔ a=b:=by
 unfold secEq
 simp only[G6,qm_iff,qg_iff,qi_iff,beq_iff_eq]
 cases a;cases b
 simp only[SecT.mk.injEq]
 constructor
 ·rintro⟨⟨⟨⟨⟨⟨⟨⟨h1,h2⟩,h3⟩,h4⟩,h5⟩,h6⟩,h7⟩,h8⟩,h9⟩
  exact⟨h1,h2,h3,h4,h5,h7,h8,h9,h6⟩
 ·rintro⟨h1,h2,h3,h4,h5,h7,h8,h9,h6⟩
  exact⟨⟨⟨⟨⟨⟨⟨⟨h1,h2⟩,h3⟩,h4⟩,h5⟩,h6⟩,h7⟩,h8⟩,h9⟩
theorem Bu(a b:RqT):rqEq a b=true ↔ a=b:=by
 unfold rqEq
 simp only[G6,qb_iff,beq_iff_eq]
 cases a;cases b
 simp only[RqT.mk.injEq]
 constructor
 ·rintro⟨⟨⟨⟨⟨⟨⟨h1,h2⟩,h3⟩,h4⟩,h5⟩,h6⟩,h7,h8,_⟩,h9⟩
  exact⟨h1,h2,h3,h4,h5,h6,h7,h8,h9⟩
 ·rintro⟨h1,h2,h3,h4,h5,h6,h7,h8,h9⟩
  exact⟨⟨⟨⟨⟨⟨⟨h1,h2⟩,h3⟩,h4⟩,h5⟩,h6⟩,h7,h8,trivial⟩,h9⟩
theorem iR(a b:EntT):dv a b=true ↔ a=b:=by
 unfold dv vH
 simp only[G6,FH,y8,Bu,beq_iff_eq]
 cases a;cases b
 simp only[EntT.mk.injEq]
 constructor
 ·rintro⟨⟨⟨⟨⟨⟨⟨⟨⟨⟨⟨h1,h2,h3,_⟩,h4⟩,h5⟩,h6⟩,h7⟩,h8⟩,h9,h10,_⟩,h11⟩,h12⟩,h13⟩,h14,h15,_⟩
  exact⟨h1,h2,h3,h4,h5,h6,h7,h8,h9,h10,h11,h12,h13,h14,h15⟩
 ·rintro⟨h1,h2,h3,h4,h5,h6,h7,h8,h9,h10,h11,h12,h13,h14,h15⟩
  exact⟨⟨⟨⟨⟨⟨⟨⟨⟨⟨⟨h1,h2,h3,trivial⟩,h4⟩,h5⟩,h6⟩,h7⟩,h8⟩,h9,h10,trivial⟩,h11⟩,h12⟩,h13⟩,h14,h15,trivial⟩
theorem pC{a b c:StT}(h:gi a b)(g:gi b c):gi a c:=by unfold gi at *;omega
theorem Bw{a b:StT}(h:¬gi b a)(g:a ≠ b):gi a b:=by
 have:¬(a.time=b.time∧a.campus=b.campus∧a.no=b.no):=fun⟨h1,h2,h3⟩=>g (by cases a;cases b;simp_all)
 unfold gi at *;omega
theorem y9{a b:StT}(h:gi a b):a ≠ b:=fun e=>by subst e;exact absurd h (nZ h)
theorem n6(a b:StT):Qd (bq a b<0)=true ↔ gi a b:=by
 constructor
 ·intro h
  rw[kM] at h
  rcases stCmp8_cases a b with ⟨h1,_⟩|⟨_,_,e⟩|⟨_,e⟩
  ·exact h1
  ·rw[e] at h;cases h
  ·rw[e] at h;cases h
 ·exact Bo
def cr(l:List EntT):Prop:=l.Pairwise fun a b=>gi a.st b.st
theorem Fits.sorted{l:List EntT}(h:Fits l):cr l:=h.imp fun h=>h.1
def Compat(a b:List EntT):Prop:=∀e∈a,∀f∈b,e.st=f.st→e=f
theorem Compat.symm{a b:List EntT}(h:Compat a b):Compat b a:=fun e he f hf hs=>(h f hf e he hs.symm).symm
def JSpec(x r o:List EntT):Option (List EntT)→Prop
 | some y=>cr y∧∀e,e∈y ↔ e∈x∨e∈r∨e∈o
 | none=>¬(Compat r o∧Compat x r∧Compat x o)
theorem JSpec.swap{x r o:List EntT}{res:Option (List EntT)}(h:JSpec x r o res):JSpec x o r res:=by
 cases res with
 | none=>exact fun⟨h1,h2,h3⟩=>h ⟨h1.symm,h3,h2⟩
 | some y=>exact⟨h.1,fun e=>by rw[h.2 e];constructor<;>(rintro (h|h|h)<;>simp[h])⟩
def Le(x g:List EntT):Prop:=∀e∈x,∀f∈g,¬gi f.st e.st
theorem pD{x r o:List EntT}{f:EntT}{cont:List EntT→Option (List EntT)}(Sr:cr (f::r))(Sx:cr x)(hr:Le x (f::r))(ho:Le x o)(hfo:∀g∈o,¬gi g.st f.st)
  (ih:∀x',cr x'→Le x' r→Le x' o→JSpec x' r o (cont x')):JSpec x (f::r) o ((joF x f).bind cont):=by
 have hfr:=Ib.1 Sr
 have app:(∀l,x.getLast? = some l→l.st ≠ f.st)→JSpec x (f::r) o (cont (x++[f])):=by
  intro hl
  have hall:∀e∈x,gi e.st f.st:=by
   intro e he
   cases hx:x.getLast? with
   | none=>simp at hx;subst hx;cases he
   | some l =>
    obtain⟨hne,hg⟩:=uG hx
    have hlm:=HL hg
    have h1:gi l.st f.st:=Bw (hr l hlm f (by simp)) (hl l hx)
    obtain⟨i,hi⟩:=List.mem_iff_getElem?.1 he
    have hil:=(G9.1 hi).1
    by_cases h2:i=x.length - 1
    ·rw[h2,hg] at hi
     cases hi
     exact h1
    ·have h3:=List.pairwise_iff_getElem.1 Sx i (x.length - 1) hil (by omega) (by omega)
     have e1:x[i]=e:=(G9.1 hi).2
     have e2:x[x.length - 1]'(by omega)=l:=(G9.1 hg).2
     rw[e1,e2] at h3
     exact pC h3 h1
  have hS:cr (x++[f]):=List.pairwise_append.2 ⟨Sx,by simp,fun e he g hg=>by simp at hg;subst hg;exact hall e he⟩
  have h1:=ih (x++[f]) hS (fun e he g hg=>by
   rcases HN.1 he with he|he
   ·exact hr e he g (by simp[hg])
   ·simp at he;subst he;exact nZ (hfr.1 g hg)) (fun e he g hg=>by
   rcases HN.1 he with he|he
   ·exact ho e he g hg
   ·simp at he;subst he;exact hfo g hg)
  cases hc:cont (x++[f]) with
  | some y =>
   rw[hc] at h1
   refine⟨h1.1,fun e=>?_⟩
   rw[h1.2 e]
   simp only[HN,HB,List.not_mem_nil,or_false]
   constructor
   ·rintro ((h|h)|h|h)<;>simp[h]
   ·rintro (h|(h|h)|h)<;>simp[h]
  | none =>
   rw[hc] at h1
   rintro⟨c1,c2,c3⟩
   refine h1 ⟨fun e he g hg hs=>c1 e (by simp[he]) g hg hs,fun e he g hg hs=>?_,fun e he g hg hs=>?_⟩
   ·rcases HN.1 he with he|he
    ·exact c2 e he g (by simp[hg]) hs
    ·simp at he;subst he;exact absurd hs (y9 (hfr.1 g hg))
   ·rcases HN.1 he with he|he
    ·exact c3 e he g hg hs
    ·simp at he;subst he;exact c1 e (by simp) g hg hs
 unfold joF
 cases hx:x.getLast? with
 | none=>exact app (fun l hl=>by rw[hx] at hl;cases hl)
 | some l =>
  have hlm:l∈x:=HL (uG hx).2
  simp only
  cases hs:kc l.st f.st with
  | false=>exact app (fun l' hl'=>by rw[hx] at hl';cases hl';intro e;rw[stEq_iff.2 e] at hs;cases hs)
  | true =>
   have hst:=stEq_iff.1 hs
   simp only
   cases hb:dv l f with
   | false =>
    rintro⟨_,c2,_⟩
    have:=c2 l hlm f (by simp) hst
    rw[(iR l f).2 this] at hb
    cases hb
   | true =>
    have hlf:=(iR l f).1 hb
    subst hlf
    simp only[cond_true,Option.bind_some]
    have h1:=ih x Sx (fun e he g hg=>hr e he g (by simp[hg])) ho
    cases hc:cont x with
    | some y =>
     rw[hc] at h1
     refine⟨h1.1,fun e=>?_⟩
     rw[h1.2 e]
     constructor
     ·rintro (h|h|h)<;>simp[h]
     ·rintro (h|h|h)
      ·exact .inl h
      ·rcases HB.1 h with rfl|h
       ·exact .inl hlm
       ·exact .inr (.inl h)
      ·exact .inr (.inr h)
    | none =>
     rw[hc] at h1
     rintro⟨c1,c2,c3⟩
     exact h1 ⟨fun e he g hg hs=>c1 e (by simp[he]) g hg hs,fun e he g hg hs=>c2 e he g (by simp[hg]) hs,c3⟩
theorem iV:∀(k:Nat) (a b x:List EntT),a.length+b.length=k→cr a→cr b→cr x→Le x a→Le x b→JSpec x a b (joG k a b x)
 | 0,a,b,x,hk,_,_,Sx,_,_=>by
  have ha:a=[]:=Mw.1 (by omega)
  have hb:b=[]:=Mw.1 (by omega)
  subst ha;subst hb
  exact⟨Sx,by simp⟩
 | k+1,[],[],x,hk,_,_,Sx,_,_=>by simp at hk
 | k+1,[],m::b,x,hk,Sa,Sb,Sx,ha,hb=>by
  simp only[joG]
  exact(pD Sb Sx hb ha (by simp) fun x' Sx' hb' ha'=>(iV k [] b x' (by simpa using hk) Sa (Ib.1 Sb).2 Sx' ha' hb').swap).swap
 | k+1,n::a,[],x,hk,Sa,Sb,Sx,ha,hb=>by
  simp only[joG]
  exact pD Sa Sx ha hb (by simp) fun x' Sx' ha' hb'=>iV k a [] x' (by simpa using hk) (Ib.1 Sa).2 Sb Sx' ha' hb'
 | k+1,n::a,m::b,x,hk,Sa,Sb,Sx,ha,hb=>by
  simp only[joG]
  cases hc:Qd (bq m.st n.st<0) with
  | true =>
   have hlt:=(n6 m.st n.st).1 hc
   exact(pD Sb Sx hb ha (fun g hg=>by
    rcases HB.1 hg with rfl|hg
    ·exact nZ hlt
    ·exact nZ (pC hlt ((Ib.1 Sa).1 g hg))) fun x' Sx' hb' ha'=>(iV k (n::a) b x' (by simp only[HZ] at hk ⊢;omega) Sa (Ib.1 Sb).2 Sx' ha' hb').swap).swap
  | false =>
   have hlt:¬gi m.st n.st:=fun h=>by rw[(n6 m.st n.st).2 h] at hc;cases hc
   exact pD Sa Sx ha hb (fun g hg=>by
    rcases HB.1 hg with rfl|hg
    ·exact hlt
    ·exact fun h=>hlt (pC ((Ib.1 Sb).1 g hg) h)) fun x' Sx' ha' hb'=>iV k a (m::b) x' (by simp only[HZ] at hk ⊢;omega) (Ib.1 Sa).2 Sb Sx' ha' hb'
def Uni(a b y:List EntT):Prop:=cr y∧∀e,e∈y ↔ e∈a∨e∈b
theorem iW:∀{y z:List EntT},cr y→cr z→(∀e,e∈y ↔ e∈z)→y=z
 | [],[],_,_,_=>rfl
 | [],q::z,_,_,h=>absurd ((h q).2 (by simp)) (by simp)
 | p::y,[],_,_,h=>absurd ((h p).1 (by simp)) (by simp)
 | p::y,q::z,Sy,Sz,h=>by
  have hy:=Ib.1 Sy
  have hz:=Ib.1 Sz
  have hpq:p=q:=by
   rcases HB.1 ((h p).1 (by simp)) with e|h1
   ·exact e
   ·rcases HB.1 ((h q).2 (by simp)) with e|h2
    ·exact e.symm
    ·exact absurd (hy.1 q h2) (nZ (hz.1 p h1))
  subst hpq
  have:y=z:=iW hy.2 hz.2 fun e=>by
   have h1:=h e
   simp only[HB] at h1
   constructor
   ·intro he
    rcases h1.1 (.inr he) with rfl|h2
    ·exact absurd rfl (y9 (hy.1 _ he))
    ·exact h2
   ·intro he
    rcases h1.2 (.inr he) with rfl|h2
    ·exact absurd rfl (y9 (hz.1 _ he))
    ·exact h2
  rw[this]
theorem n9{y:List EntT}(S:cr y){e f:EntT}(he:e∈y)(hf:f∈y)(hs:e.st=f.st):e=f:=by
 induction y with
 | nil=>cases he
 | cons p y ih =>
  have hy:=Ib.1 S
  rcases HB.1 he with e1|he1
  ·rcases HB.1 hf with e2|hf1
   ·rw[e1,e2]
   ·rw[e1] at hs
    exact absurd hs (y9 (hy.1 f hf1))
  ·rcases HB.1 hf with e2|hf1
   ·rw[e2] at hs
    exact absurd hs.symm (y9 (hy.1 e he1))
   ·exact ih hy.2 he1 hf1
theorem Uni.compat{a b y:List EntT}(U:Uni a b y):Compat a b:=fun e he f hf hs=>n9 U.1 ((U.2 e).2 (.inl he)) ((U.2 f).2 (.inr hf)) hs
def Vld(l:List EntT):Prop:=∀e∈l,bh e=0
theorem FI{a b:List EntT}(Sa:cr a)(Sb:cr b)(Va:Vld a)(Vb:Vld b)(y:List EntT):joR a b=some y ↔ Uni a b y∧Fits y:=by
 have h:=iV (a.length+b.length) a b [] rfl Sa Sb (by simp[cr]) (by simp[Le]) (by simp[Le])
 unfold joR
 cases hg:joG (a.length+b.length) a b [] with
 | none =>
  rw[hg] at h
  simp only[reduceCtorEq,false_iff]
  rintro⟨U,_⟩
  exact h ⟨U.compat,by simp[Compat],by simp[Compat]⟩
 | some z =>
  rw[hg] at h
  have hU:Uni a b z:=⟨h.1,fun e=>by rw[h.2 e];simp⟩
  have hV:∀e∈z,bh e=0:=fun e he=>by
   rcases(hU.2 e).1 he with h|h
   ·exact Va e h
   ·exact Vb e h
  simp only
  constructor
  ·intro he
   cases hf:vX z with
   | false=>rw[hf] at he;cases he
   | true =>
    rw[hf] at he
    cases he
    exact⟨hU,(kN hV).1 hf⟩
  ·rintro⟨U,F⟩
   have:z=y:=iW hU.1 U.1 fun e=>by rw[hU.2 e,U.2 e]
   subst this
   rw[(kN hV).2 F]
   rfl
abbrev smS(L:List (List Dp))(i:Int):AS:={t:=mkT 27 0 [(0,aa L),(1,aa L),Yb,(5,int i)],h:=[],m:=[]}
theorem FJ{L:List (List Dp)}{e:EntT}{i:Nat}(hr:af (i:Int) L e.row 31)(hlt:Qd ((i:Int)<(L.length:Int))=true)(hw:GY.wrap ((i:Int)+1)=((i+1:Nat):Int))(hsm:∀h,Ev GV Γ0 30 [ag e.row,ag e.row] h (bool true) h):(CW GV Γ0 [] false (sub Mg 0) (smS L i) .normal (smS L ((i+1:Nat):Int))):=by
 refine zX {t:=mkT 27 0 [(0,aa L),(1,aa L),(4,bool false),(5,int (G1 GY ((↑i:Int)+1)))],h:=[],m:=[]} Hz [.st (.mask [0,1,4,5]),.st (.trim 0)] [.b true,.row [vi e.time,vi e.campus,vi e.no,vi e.kind,vi e.stu,vi e.obj,vi e.term,vi e.val,vi e.frm,vi e.til,vs e.text,vi e.sec.id,vi e.sec.course,vi e.sec.term,vi e.sec.campus,vi e.sec.seats,Hj (GU Hm e.sec.mts),Hj (GU Hn e.sec.grs),Hj (GU ab e.sec.labs),G2 (Ht e.sec.lab),vi e.req.campus,vi e.req.no,vi e.req.st,vi e.req.kind,vi e.req.time,Hj (GU G7 e.req.chs),vi e.req.gsec,vi e.req.glab,vi e.req.key,vi e.r,vi e.s],.row [vi e.time,vi e.campus,vi e.no,vi e.kind,vi e.stu,vi e.obj,vi e.term,vi e.val,vi e.frm,vi e.til,vs e.text,vi e.sec.id,vi e.sec.course,vi e.sec.term,vi e.sec.campus,vi e.sec.seats,Hj (GU Hm e.sec.mts),Hj (GU Hn e.sec.grs),Hj (GU ab e.sec.labs),G2 (Ht e.sec.lab),vi e.req.campus,vi e.req.no,vi e.req.st,vi e.req.kind,vi e.req.time,Hj (GU G7 e.req.chs),vi e.req.gsec,vi e.req.glab,vi e.req.key,vi e.r,vi e.s],.val (bool true),.b false] (.c hlt (.c hr (.c hr (.c (@hsm ([])) (.c (show(!true)=false from rfl) .n))))) ?_ ?_<;>(first|rfl|(rw[hw]<;>rfl))
abbrev Wu:AS:={t:=mkT 27 0 [],h:=[],m:=[]}
theorem FK{L:List (List Dp)}{i:Nat}(hlt:Qd ((i:Int)<(L.length:Int))=false):(CW GV Γ0 [] false (sub Mg 0) (smS L i) (.exit 0) Wu):=by
 exact zx YI [.b false] (.c hlt .n)
theorem FL{l:List EntT}(hs:ar l)(ho:∀e∈l,e.ok):CW GV Γ0 [] false (.loop (sub Mg 0)) (smS (l.map Hi) 0) (.exit 0) Wu:=by
 have:=CW.each (P:=GV) (Γ:=Γ0) (h0:=[]) (rd:=false) (c:=sub Mg 0) (σ:=Unit) (ρ:=Empty) l (fun _ s=>.inl s) (fun j _=>smS (l.map Hi) (j:Int)) (.exit 0) (fun _=>Wu) (fun r=>r.elim) (fun _ _=>True) (by simp) (fun r=>r.elim) ?_ ?_ () trivial
 ·rw[l5 (fun s _=>s)] at this
  exact this
 ·intro j e s hj _
  have hlt:=(G9.1 hj).1
  have o:=ho e (HL hj)
  have he:mt e e=true:=by rw[wg];exact(iR e e).2 rfl
  have hsm:∀h,Ev GV Γ0 30 (VJ e e) h (bool true) h:=fun h=>by
   rw[←he]
   exact y4 o.m o.g o.l o.c h
  exact⟨fun _ _=>trivial,FJ (rowAt (row:=Hi) (sz:=31) hj rfl) (lt_len Hi hlt) (wrap_succ hlt hs) hsm⟩
 ·intro s _
  exact FK (bm Hi l)
theorem same_a{L:List (List Dp)}(hn:((L.length:Int) != (L.length:Int))=false)(hl:CW GV Γ0 [] false (.loop (sub Mg 0)) (smS L 0) (.exit 0) Wu)(h:List Blk):(Ev GV Γ0 11 [aa L,aa L] h (bool true) h):=by
 have hl0:=(@hl)
 exact z0 (zbJ Wu) (.c hn (.c hl0 .n)) h
theorem Bx{l:List EntT}(hs:ar l)(ho:∀e∈l,e.ok)(h:List Blk):Ev GV Γ0 11 (XY l l) h (bool true) h:=same_a (by simp) (FL hs ho) h
abbrev QF(a b:List (List Dp)):List Blk:=[.var [aa a],.gone,.var [aa b]]
theorem ap_put{L X Y:List (List Dp)}{n y:EntT}{i at_:Int}
  (hn:af i L n.row 31) (hp:∀h,Ev GV Γq 8 [aa X,ag n.row] h (.tup [aa Y,int at_,int 0]) h)
  (hb:((0:Int) != 0||Qd (at_<0)||Qd (at_≥(Y.length:Int))||!true)=false) (hy:af at_ Y y.row 31)
  (hs:∀h,Ev GV Γ0 9 (VJ y n) h (bool true) h):(Ev GV Γq 7 [int i,.ref (.ptr 2 0),.ref (.ptr 0 0)] (QF L X) (bool true) (QF L Y)):=by
 let v0:=(ZF n)
 let v1:=(ZE n)
 let v2:=(Zs n)
 let v3:=(ZD n)
 exact Ev.castH (Ev.of_sym (h':=(QF L Y)) (d:=bool true) pok [.row (Zc n v0 v1 v2 v3),.val (D.tup [aa Y,int at_,int 0]),.row (Zd y),.row (Zc n v0 v1 v2 v3),.val (bool true),.b false] (by kernel_rfl) (.c hn (.c (@hp (QF L X)) (.c (show(!(0 != 0||Qd (at_<0)||Qd (at_≥(↑(G3 Y):Int))))=true→af at_ Y (Zd y) 31 from(fun hg=>hy)) (.c (show(!(0 != 0||Qd (at_<0)||Qd (at_≥(↑(G3 Y):Int))))=true→af i L (Zc n v0 v1 v2 v3) 31 from(fun hg=>hn)) (.c (gd (!(0 != 0||Qd (at_<0)||Qd (at_≥(↑(G3 Y):Int)))) (Hx (Γ':=Γq) (@hs (QF L X)))) (.c hb .n))))))) (by rfl) (by rfl)
abbrev u8R(n:Int):List Dp:=[.v (.int .u8 n)]
abbrev XF:List D:=[.ref (.ptr 2 0),.ref (.ptr 0 0)]
abbrev XV:Nat × D:=(5,.ref (.ptr 2 0))
abbrev arS(O L X:List (List Dp))(i:Int):AS:={t:=mkT 89 0 [(1,aa O),Zz,XV,(6,.fn (.func 7) [] XF),(7,int i)],h:=(QF L X),m:=[]}
abbrev arE(_ L X:List (List Dp)):AS:={t:=mkT 89 0 [Zz,XV,(6,.fn (.func 7) [] XF)],h:=(QF L X),m:=[]}
abbrev zcd:Nat × D:=(6,D.fn (Fn.func 7) [] XF)
theorem FM{O L X Y:List (List Dp)}{n:Int}{i:Nat}
  (hr:af (i:Int) O (u8R n) 1) (hz:(!Qd ((L.length:Int)=0))=true) (hlt:(Qd ((i:Int)<(O.length:Int))&&Qd ((L.length:Int)>0))=true) (hw:GY.wrap ((i:Int)+1)=((i+1:Nat):Int))
  (hp:Ev GV Γq 7 [int (Int.tmod (G1 GY n) (L.length:Int)),.ref (.ptr 2 0),.ref (.ptr 0 0)] [.var [aa L],.gone,.var [aa X]] (bool true) [.var [aa L],.gone,.var [aa Y]]):(CW GV Γq [] false (sub K3 0) (arS O L X i) .normal (arS O L Y ((i+1:Nat):Int))):=by
 refine zX {t:=mkT 89 0 [(1,aa O),(2,.ref (.ptr 0 0)),(5,.ref (.ptr 2 0)),(6,D.fn (Fn.func 7) [] [.ref (.ptr 2 0),.ref (.ptr 0 0)]),(7,int (G1 GY ((↑i:Int)+1)))],h:=[.var [aa L],.gone,.var [aa Y]],m:=[]} Hz [.st (.mask [1,2,5,6,7])] [.b true,.row [G2 (GW IntKind.u8 n)],.call (bool true) [.var [aa L],.gone,.var [aa Y]],.b false] (.c hlt (.c hr (.c hz (.c (@hp) (.c (show @Eq (Option D) (some (aa L)) (some (aa L)) from rfl) (.c (show(!true)=false from rfl) .n)))))) ?_ ?_<;>(first|rfl|(simp only[hw]<;>rfl))
theorem za{O L X:List (List Dp)}{i:Nat}(hlt:(Qd ((i:Int)<(O.length:Int))&&Qd ((L.length:Int)>0))=false):(CW GV Γq [] false (sub K3 0) (arS O L X i) (.exit 0) (arE O L X)):=by
 exact zx [.st (.mask [2,5,6])] [.b false] (.c hlt .n)
abbrev asS(L X:List (List Dp))(i:Int):AS:={t:=mkT 89 0 [Zz,XV,(6,.fn (.func 7) [] XF),(8,int i)],h:=(QF L X),m:=[]}
theorem FN{L X Y:List (List Dp)}{i:Nat}
  (hw:GY.wrap ((i:Int) - 1)=(i:Int) - 1) (h0:Qd ((i:Int)≥0)=true)
  (hp:Ev GV Γq 7 [int (i:Int),.ref (.ptr 2 0),.ref (.ptr 0 0)] [.var [aa L],.gone,.var [aa X]] (bool true) [.var [aa L],.gone,.var [aa Y]]):(CW GV Γq [] false (sub K3 1) (asS L X i) .normal (asS L Y ((i:Int) - 1))):=by
 refine zX {t:=mkT 89 0 [(2,.ref (.ptr 0 0)),(5,.ref (.ptr 2 0)),(6,D.fn (Fn.func 7) [] [.ref (.ptr 2 0),.ref (.ptr 0 0)]),(8,int (G1 GY ((↑i:Int) - 1)))],h:=[.var [aa L],.gone,.var [aa Y]],m:=[]} Hz [.st (.mask [2,5,6,8])] [.b true,.call (bool true) [.var [aa L],.gone,.var [aa Y]],.b false] (.c h0 (.c (@hp) (.c (show(!true)=false from rfl) .n))) ?_ ?_<;>(first|rfl|(simp only[hw]<;>rfl))
theorem FO{L X:List (List Dp)}:(CW GV Γq [] false (sub K3 1) (asS L X (-1)) (.exit 2) {t:=mkT 89 0 [Zz,XV],h:=(QF L X),m:=[]}):=by
 exact zx (Vl 2) [.b false] (.c (show Qd (-1≥0)=false from rfl) .n)
abbrev Qo(a b c d:Nat)(e:List Blk):AS:={t:=mkT a 0 [(b,.ref (.ptr b 0)),(c,.ref (.ptr d 0))],h:=e,m:=[]}
abbrev zba(a:S8)(b:List (BitVec 32)):AS:=(Qo 144 0 4 1 [.var a.row,.var (b.map w32)])
theorem Bz{H:List Blk}{s:S8}{bs:List (BitVec 8)}{ws:List (BitVec 32)}:(CW GV Γd H false (sub JD 0) (abS s bs ws 16) (.exit 0) (zba s ws)):=by
 exact zx [.st (.mask [0,4])] [.b false] (.c (show Qd (16<16)=false from rfl) .n)
def sch(ws:List (BitVec 32))(i:Nat):BitVec 32 :=
 let x:=ws.getD (i - 15) 0
 let y:=ws.getD (i - 2) 0
 ws.getD (i - 16) 0+(dz x 25 ^^^ dz x 14 ^^^ x >>> 3)+ws.getD (i - 7) 0+(dz y 15 ^^^ dz y 13 ^^^ y >>> 10)
abbrev acS(s:S8)(ws:List (BitVec 32))(i:Int):AS:={t:=mkT 144 0 [QY,YS,(6,int i)],h:=[.var s.row,.var (ws.map w32)],m:=[]}
theorem uP{hp hp':List Blk}{b:Nat}{ws:List (BitVec 32)}{z:Int}{i:Nat}{x:BitVec 32}{y:Int}(hy:y=(x.toNat:Int))(hb:hp[b]? = some (.var (ws.map w32)))(hz:z=i)(hi:i<ws.length)(he:hp'=hp.set b (.var ((ws.set i x).map w32))):
  aw GV hp 116 (.ref (.ptr b (0+z.toNat*1))) (.p (.v (.int .u32 y)))=some hp':=by
 subst hy
 exact sI hb hz hi he
noncomputable abbrev bo(s:S8)(ws:List (BitVec 32)):List Blk:=(zb5 s (GU w32 ws))
abbrev Qe(a:List (BitVec 32))(b:Nat):Option D:=some (Hf (G2 (GW GX (↑(GT (HC a b 0)):Int))))
abbrev Q8(a:Nat)(b:Int)(c:List (BitVec 32)):Option D:=JM (Hb (0+Hh (G1 GY ((↑a:Int) - b))*1) (GU w32 c))
abbrev Wl(a:Nat)(b:Int):D:=(.ref (.ptr 1 (0+Hh (G1 GY ((↑a:Int) - b))*1)))
abbrev zb6(a:List (BitVec 32))(b c d e:Nat)(f:Int):Int:=(YA (GT (dz (HC a (b - c) 0) d)) (GT (dz (HC a (b - c) 0) e)) (Int.fdiv (↑(GT (HC a (b - c) 0)):Int) (2 ^ min (Hh f) 32)))
theorem BA{H:List Blk}{s:S8}{ws:List (BitVec 32)}{i:Nat}(hlt:Qd ((i:Int)<64)=true)(hw:GY.wrap ((i:Int)+1)=((i+1:Nat):Int))(h15:GY.wrap ((i:Int) - 15)=((i - 15:Nat):Int))(h16:GY.wrap ((i:Int) - 16)=((i - 16:Nat):Int))(h7:GY.wrap ((i:Int) - 7)=((i - 7:Nat):Int))(h2:GY.wrap ((i:Int) - 2)=((i - 2:Nat):Int))
  (hn:i<ws.length) (n15:i - 15<ws.length) (n16:i - 16<ws.length) (n7:i - 7<ws.length) (n2:i - 2<ws.length) (hr:inR (i:Int) 64=true) (r15:inR (GY.wrap ((i:Int) - 15)) 64=true) (r16:inR (GY.wrap ((i:Int) - 16)) 64=true) (r7:inR (GY.wrap ((i:Int) - 7)) 64=true) (r2:inR (GY.wrap ((i:Int) - 2)) 64=true):(CW GV Γd H false (sub JD 1) (acS s ws i) .normal (acS s (ws.set i (sch ws i)) ((i+1:Nat):Int))):=by
 let v0:=GU w32 (List.set ws i (sch ws i))
 refine zX {t:=mkT 144 0 [(0,.ref (.ptr 0 0)),(4,.ref (.ptr 1 0)),(6,int (G1 GY ((↑i:Int)+1)))],h:=[.var [Hf (G2 (GW GX (↑(GT s.a):Int))),Hf (G2 (GW GX (↑(GT s.b):Int))),Hf (G2 (GW GX (↑(GT s.c):Int))),Hf (G2 (GW GX (↑(GT s.d):Int))),Hf (G2 (GW GX (↑(GT s.e):Int))),Hf (G2 (GW GX (↑(GT s.f):Int))),Hf (G2 (GW GX (↑(GT s.g):Int))),Hf (G2 (GW GX (↑(GT s.h):Int)))],.var v0],m:=[]} Hz [.st (.mask [0,4,6])] [.b true,.ov 32 (w32 (HC ws (i - 15) 0)),.ov 36 (w32 (HC ws (i - 2) 0)),.ov 41 (w32 (HC ws (i - 16) 0)),.val (Hf (G2 (GW GX (↑(GT (dz (HC ws (i - 15) 0) 25)):Int)))),.val (Hf (G2 (GW GX (↑(GT (dz (HC ws (i - 15) 0) 14)):Int)))),.ov 54 (w32 (HC ws (i - 7) 0)),.val (Hf (G2 (GW GX (↑(GT (dz (HC ws (i - 2) 0) 15)):Int)))),.val (Hf (G2 (GW GX (↑(GT (dz (HC ws (i - 2) 0) 13)):Int)))),.oh 10065 D.any [.var (S8.row s),.var v0]] (.c hlt (.c r15 (.c (show aD GV (bo s ws) 116 (.ref (.ptr 1 (0+Hh (G1 GY ((↑i:Int) - 15))*1)))=some (Hf (G2 (GW GX (↑(GT (HC ws (i - 15) 0)):Int)))) from ?_) (.c r2 (.c (show aD GV (bo s ws) 116 (.ref (.ptr 1 (0+Hh (G1 GY ((↑i:Int) - 2))*1)))=some (Hf (G2 (GW GX (↑(GT (HC ws (i - 2) 0)):Int)))) from ?_) (.c r16 (.c (show aD GV (bo s ws) 116 (.ref (.ptr 1 (0+Hh (G1 GY ((↑i:Int) - 16))*1)))=some (Hf (G2 (GW GX (↑(GT (HC ws (i - 16) 0)):Int)))) from ?_) (.c (Hx (Γ':=Γd) (@Et (HC ws (i - 15) 0) (bo s ws))) (.c (Hx (Γ':=Γd) (@AI (HC ws (i - 15) 0) (bo s ws))) (.c (show Qd (0≤3)=true from rfl) (.c r7 (.c (show aD GV (bo s ws) 116 (.ref (.ptr 1 (0+Hh (G1 GY ((↑i:Int) - 7))*1)))=some (Hf (G2 (GW GX (↑(GT (HC ws (i - 7) 0)):Int)))) from ?_) (.c (Hx (Γ':=Γd) (@AJ (HC ws (i - 2) 0) (bo s ws))) (.c (Hx (Γ':=Γd) (@AK (HC ws (i - 2) 0) (bo s ws))) (.c (show Qd (0≤10)=true from rfl) (.c hr (.c (show @Eq (Option (List Blk)) (aw GV (bo s ws) 116 (.ref (.ptr 1 (0+Hh (↑i:Int)*1))) (Hf (G2 (GW GX (G1 GX (G1 GX (G1 GX ((↑(GT (HC ws (i - 16) 0)):Int)+G1 GX (↑(GT (G5 32 (G1 GX (↑(GT (G5 32 (↑(GT (dz (HC ws (i - 15) 0) 25)):Int) ^^^ G5 32 (↑(GT (dz (HC ws (i - 15) 0) 14)):Int))):Int)) ^^^ G5 32 (Int.fdiv (↑(GT (HC ws (i - 15) 0)):Int) (2 ^ min (Hh 3) 32)))):Int))+(↑(GT (HC ws (i - 7) 0)):Int))+G1 GX (↑(GT (G5 32 (G1 GX (↑(GT (G5 32 (↑(GT (dz (HC ws (i - 2) 0) 15)):Int) ^^^ G5 32 (↑(GT (dz (HC ws (i - 2) 0) 13)):Int))):Int)) ^^^ G5 32 (Int.fdiv (↑(GT (HC ws (i - 2) 0)):Int) (2 ^ min (Hh 10) 32)))):Int))))))) (some [.var [Hf (G2 (GW GX (↑(GT s.a):Int))),Hf (G2 (GW GX (↑(GT s.b):Int))),Hf (G2 (GW GX (↑(GT s.c):Int))),Hf (G2 (GW GX (↑(GT s.d):Int))),Hf (G2 (GW GX (↑(GT s.e):Int))),Hf (G2 (GW GX (↑(GT s.f):Int))),Hf (G2 (GW GX (↑(GT s.g):Int))),Hf (G2 (GW GX (↑(GT s.h):Int)))],.var v0]) from ?_) (.c r16 (.e (.ref (.ptr 1 (0+Hh (G1 GY ((↑i:Int) - 16))*(fun x=>x.size) GV.types[116]))) (.c r16 (.e (.ref (.ptr 1 (0+Hh (G1 GY ((↑i:Int) - 16))*(fun x=>x.size) GV.types[116]))) (.c r16 (.e (.ref (.ptr 1 (0+Hh (G1 GY ((↑i:Int) - 16))*(fun x=>x.size) GV.types[116]))) (.c r16 (.e (.ref (.ptr 1 (0+Hh (G1 GY ((↑i:Int) - 16))*(fun x=>x.size) GV.types[116]))) (.c r16 (.e (.ref (.ptr 1 (0+Hh (G1 GY ((↑i:Int) - 16))*(fun x=>x.size) GV.types[116]))) (.c (show JM (Hb (0+Hh (G1 GY ((↑i:Int) - 16))*1) (GU w32 ws))=some (Hf (G2 (GW GX (↑(GT (HC ws (i - 16) 0)):Int)))) from ?_) (.c (show JM (Hb (0+Hh (G1 GY ((↑i:Int) - 16))*1) (GU w32 ws))=some (Hf (G2 (GW GX (↑(GT (HC ws (i - 16) 0)):Int)))) from ?_) (.c (show JM (Hb (0+Hh (G1 GY ((↑i:Int) - 16))*1) (GU w32 ws))=some (Hf (G2 (GW GX (↑(GT (HC ws (i - 16) 0)):Int)))) from ?_) (.c (show JM (Hb (0+Hh (G1 GY ((↑i:Int) - 16))*1) (GU w32 ws))=some (Hf (G2 (GW GX (↑(GT (HC ws (i - 16) 0)):Int)))) from ?_) (.c (show JM (Hb (0+Hh (G1 GY ((↑i:Int) - 16))*1) (GU w32 ws))=some (Hf (G2 (GW GX (↑(GT (HC ws (i - 16) 0)):Int)))) from ?_) (.c r7 (.e (.ref (.ptr 1 (0+Hh (G1 GY ((↑i:Int) - 7))*(fun x=>x.size) GV.types[116]))) (.c r7 (.e (.ref (.ptr 1 (0+Hh (G1 GY ((↑i:Int) - 7))*(fun x=>x.size) GV.types[116]))) (.c r7 (.e (.ref (.ptr 1 (0+Hh (G1 GY ((↑i:Int) - 7))*(fun x=>x.size) GV.types[116]))) (.c r7 (.e (.ref (.ptr 1 (0+Hh (G1 GY ((↑i:Int) - 7))*(fun x=>x.size) GV.types[116]))) (.c r7 (.e (.ref (.ptr 1 (0+Hh (G1 GY ((↑i:Int) - 7))*(fun x=>x.size) GV.types[116]))) (.c (show JM (Hb (0+Hh (G1 GY ((↑i:Int) - 7))*1) (GU w32 ws))=some (Hf (G2 (GW GX (↑(GT (HC ws (i - 7) 0)):Int)))) from ?_) (.c (show JM (Hb (0+Hh (G1 GY ((↑i:Int) - 7))*1) (GU w32 ws))=some (Hf (G2 (GW GX (↑(GT (HC ws (i - 7) 0)):Int)))) from ?_) (.c (show JM (Hb (0+Hh (G1 GY ((↑i:Int) - 7))*1) (GU w32 ws))=some (Hf (G2 (GW GX (↑(GT (HC ws (i - 7) 0)):Int)))) from ?_) (.c (show JM (Hb (0+Hh (G1 GY ((↑i:Int) - 7))*1) (GU w32 ws))=some (Hf (G2 (GW GX (↑(GT (HC ws (i - 7) 0)):Int)))) from ?_) (.c (show JM (Hb (0+Hh (G1 GY ((↑i:Int) - 7))*1) (GU w32 ws))=some (Hf (G2 (GW GX (↑(GT (HC ws (i - 7) 0)):Int)))) from ?_) (.c hr (.e (.ref (.ptr 1 (0+Hh (↑i:Int)*(fun x=>x.size) GV.types[116]))) .n))))))))))))))))))))))))))))))))))))))))))))))))) (by subst v0;first|rfl|(simp only[hw];rfl)) (by subst v0;first|rfl|(simp only[hw];rfl))<;>subst v0<;>(first|assumption|exact vM h15 n15|exact vM h16 n16|exact vM h7 n7|exact vM h2 n2|exact mh (b:=1) rfl h15 n15|exact mh (b:=1) rfl h16 n16|exact mh (b:=1) rfl h7 n7|exact mh (b:=1) rfl h2 n2|exact uP (b:=1) (by simp only[AH,gP,ul,sH,sch];rfl) rfl rfl hn rfl|exact hr)
theorem n_load{i:Nat}{z:Int}{cs:List Dp}(hc:cs=numL.map c32)(hz:z=i)(hi:i<64):aD GV [] 116 (.ep (cs.drop (z.toNat*1)))=some (w32 (numL.getD i 0)):=by
 subst hz;subst hc
 have e1:wr GV 116=some false:=by kernel_rfl
 have e2:szOf GV 116=some 1:=by kernel_rfl
 have hl:i<numL.length:=by simpa[numL] using hi
 simp only[aD,cm,e1,e2,Int.toNat_natCast,Nat.mul_one,List.head?_map,List.head?_drop,List.getElem?_map,HC,List.getElem?_eq_getElem hl,Option.map_some,Option.getD_some]
def rndP(v:S8)(k w:BitVec 32):BitVec 32:=v.h+bs1 v.e+(v.g ^^^ v.e &&& (v.f ^^^ v.g))+k+w
def rndQ(v:S8):BitVec 32:=bs0 v.a+(v.a &&& v.b ||| v.c &&& (v.a ||| v.b))
def rnd(v:S8)(k w:BitVec 32):S8:=⟨rndP v k w+rndQ v,v.a,v.b,v.c,v.d+rndP v k w,v.e,v.f,v.g⟩
abbrev YM(a:S8)(b:List (BitVec 32))(c:S8):List Blk:=[.var a.row,.var (b.map w32),.var c.row]
abbrev XA:Nat × D:=(9,.ref (.ptr 2 0))
abbrev adS(s:S8)(ws:List (BitVec 32))(v:S8)(i:Int):AS:={t:=mkT 144 0 [QY,YS,XA,(69,int i)],h:=(YM s ws v),m:=[]}
noncomputable abbrev ga(s:S8)(v:S8)(ws:List (BitVec 32)):List Blk:=[.var (Zb s),.var (GU w32 ws),.var (Zb v)]
abbrev Ym(a:S8)(b:Nat)(c:List (BitVec 32)):Int:=G1 GX (G1 GX (G1 GX (G1 GX ((↑(GT a.h):Int)+(↑(GT (bs1 a.e)):Int))+G1 GX (↑(GT (G5 32 (↑(GT a.g):Int) ^^^ G5 32 (G1 GX (↑(GT (G5 32 (↑(GT a.e):Int) &&& G5 32 (G1 GX (↑(GT (G5 32 (↑(GT a.f):Int) ^^^ G5 32 (↑(GT a.g):Int))):Int)))):Int)))):Int))+(↑(GT (HC numL b 0)):Int))+(↑(GT (HC c b 0)):Int))
theorem FP{H:List Blk}{s v:S8}{ws:List (BitVec 32)}{i:Nat}(hlt:Qd ((i:Int)<64)=true)(hw:GY.wrap ((i:Int)+1)=((i+1:Nat):Int))(hn:i<ws.length)(hr:inR (i:Int) 64=true)(h64:i<64):(CW GV Γd H false (sub JD 2) (adS s ws v i) .normal (adS s ws (rnd v (numL.getD i 0) (ws.getD i 0)) ((i+1:Nat):Int))):=by
 refine zX {t:=mkT 144 0 [(0,.ref (.ptr 0 0)),(4,.ref (.ptr 1 0)),(9,.ref (.ptr 2 0)),(69,int (G1 GY ((↑i:Int)+1)))],h:=[.var [Hf (G2 (GW GX (↑(GT s.a):Int))),Hf (G2 (GW GX (↑(GT s.b):Int))),Hf (G2 (GW GX (↑(GT s.c):Int))),Hf (G2 (GW GX (↑(GT s.d):Int))),Hf (G2 (GW GX (↑(GT s.e):Int))),Hf (G2 (GW GX (↑(GT s.f):Int))),Hf (G2 (GW GX (↑(GT s.g):Int))),Hf (G2 (GW GX (↑(GT s.h):Int)))],.var (GU w32 ws),.var [Hf (G2 (GW GX (G1 GX (G1 GX (G1 GX (G1 GX (G1 GX ((↑(GT v.h):Int)+(↑(GT (bs1 v.e)):Int))+G1 GX (↑(GT (G5 32 (↑(GT v.g):Int) ^^^ G5 32 (G1 GX (↑(GT (G5 32 (↑(GT v.e):Int) &&& G5 32 (G1 GX (↑(GT (G5 32 (↑(GT v.f):Int) ^^^ G5 32 (↑(GT v.g):Int))):Int)))):Int)))):Int))+(↑(GT (HC numL i 0)):Int))+(↑(GT (HC ws i 0)):Int))+G1 GX ((↑(GT (bs0 v.a)):Int)+G1 GX (↑(GT (G5 32 (G1 GX (↑(GT (G5 32 (↑(GT v.a):Int) &&& G5 32 (↑(GT v.b):Int))):Int)) ||| G5 32 (G1 GX (↑(GT (G5 32 (↑(GT v.c):Int) &&& G5 32 (G1 GX (↑(GT (G5 32 (↑(GT v.a):Int) ||| G5 32 (↑(GT v.b):Int))):Int)))):Int)))):Int)))))),Hf (G2 (GW GX (↑(GT v.a):Int))),Hf (G2 (GW GX (↑(GT v.b):Int))),Hf (G2 (GW GX (↑(GT v.c):Int))),Hf (G2 (GW GX (G1 GX ((↑(GT v.d):Int)+G1 GX (G1 GX (G1 GX (G1 GX ((↑(GT v.h):Int)+(↑(GT (bs1 v.e)):Int))+G1 GX (↑(GT (G5 32 (↑(GT v.g):Int) ^^^ G5 32 (G1 GX (↑(GT (G5 32 (↑(GT v.e):Int) &&& G5 32 (G1 GX (↑(GT (G5 32 (↑(GT v.f):Int) ^^^ G5 32 (↑(GT v.g):Int))):Int)))):Int)))):Int))+(↑(GT (HC numL i 0)):Int))+(↑(GT (HC ws i 0)):Int)))))),Hf (G2 (GW GX (↑(GT v.e):Int))),Hf (G2 (GW GX (↑(GT v.f):Int))),Hf (G2 (GW GX (↑(GT v.g):Int)))]],m:=[]} Hz [.st (.mask [0,4,9,69])] [.b true,.val (Hf (G2 (GW GX (↑(GT (bs1 v.e)):Int)))),.ov 92 (w32 (HC numL i 0)),.ov 96 (w32 (HC ws i 0)),.val (Hf (G2 (GW GX (↑(GT (bs0 v.a)):Int))))] (.c hlt (.c (show inR 7 8=true from rfl) (.c (show inR 4 8=true from rfl) (.c (Hx (Γ':=Γd) (@Ez (v.e) (ga s v ws))) (.c (show inR 6 8=true from rfl) (.c (show inR 4 8=true from rfl) (.c (show inR 5 8=true from rfl) (.c (show inR 6 8=true from rfl) (.c hr (.c (show aD GV (ga s v ws) 116 (D.ep (Hb (Hh (↑i:Int)*1) (GU c32 numL)))=some (Hf (G2 (GW GX (↑(GT (HC numL i 0)):Int)))) from ?_) (.c hr (.c (show aD GV (ga s v ws) 116 (.ref (.ptr 1 (0+Hh (↑i:Int)*1)))=some (Hf (G2 (GW GX (↑(GT (HC ws i 0)):Int)))) from ?_) (.c (show inR 0 8=true from rfl) (.c (Hx (Γ':=Γd) (@EA (v.a) (ga s v ws))) (.c (show inR 0 8=true from rfl) (.c (show inR 1 8=true from rfl) (.c (show inR 2 8=true from rfl) (.c (show inR 0 8=true from rfl) (.c (show inR 1 8=true from rfl) (.c (show co 1 (↑8:Int) 8=true from rfl) (.c (show co 0 7 8=true from rfl) (.er true (.e (.ref (.av 2 1 7 1)) (.e (.ref (.av 2 0 7 1)) (.c (show inR 4 8=true from rfl) (.c (show inR 4 8=true from rfl) (.c (show inR 0 8=true from rfl) .n))))))))))))))))))))))))))) (by first|rfl|(simp only[hw,AH,gP,ul];rfl)) (by first|rfl|(simp only[hw,AH,gP,ul];rfl))<;>(first|assumption|exact mh (b:=1) rfl rfl hn|exact n_load rfl rfl h64|exact hr)
end Go.Vi
