/- LedgerPutSpec: part of the proof: contracts of the functions that the law reaches, and the law. No conditions beyond the given statement's own. -/
import Derived.Test.YtoincdhjcahadaaGreatDoorW5
open Decidable renaming decide → Qd
open Option.some renaming injEq → Dj
open List renaming length_cons → Ex, length_nil → Fg, map → Dh, getElem?_eq_some_iff → Dq, length → Dl
open Go.Proofs.Tryz renaming prog → Di, f17 → EP, f52 → IT, f99 → Fo, f101 → Em
open Go.Vi.EntT renaming row → Dt
open Go.Vi.VInvP renaming of_call → G0
open Go.Vi.MeT renaming row → DA
open Go.Vi.GrT renaming row → Dx
open Go.Vi.BuT renaming row → Dn
open Go.Vi.CW renaming each → FZ
open Go.Exit renaming ret → Ee, exit → DV, normal → DZ
open Go.Value renaming tuple → DF
open ByteArray renaming empty → Eg
open Go.IntKind renaming i64 → Dk, wrap → Ds
open Go Go.Proofs
namespace Go.Vi
set_option maxRecDepth 100000
set_option maxHeartbeats 4000000
def joR(a b:List EntT):Option (List EntT):=match joG (a.length+b.length) a b [] with
 | none=>none
 | some y=>bif pD y then some y else none
theorem fZ:∀(k:Nat) (a b x y:List EntT),joG k a b x=some y→(∀e∈y,e∈a∨e∈b∨e∈x)∧y.length≤x.length+a.length+b.length
 | 0,a,b,x,y,h=>by simp only[joG,Dj] at h;subst h;exact⟨fun e he=>.inr (.inr he),by omega⟩
 | _+1,[],[],x,y,h=>by simp only[joG,Dj] at h;subst h;exact⟨fun e he=>.inr (.inr he),by omega⟩
 | k+1,[],m::b,x,y,h=>by
  simp only[joG] at h
  cases hx:joF x m with
  | none=>rw[hx] at h;cases h
  | some x' =>
   rw[hx] at h
   obtain⟨h1,h2⟩:=fZ k _ _ _ _ h
   have h3:=eM hx
   refine⟨fun e he=>?_,by simp only[Ex,Fg] at *;omega⟩
   rcases h1 e he with h|h|h
   ·exact .inl h
   ·exact .inr (.inl (by simp[h]))
   ·rcases joF_mem hx e h with h|h
    ·exact .inr (.inr h)
    ·exact .inr (.inl (by simp[h]))
 | k+1,n::a,[],x,y,h=>by
  simp only[joG] at h
  cases hx:joF x n with
  | none=>rw[hx] at h;cases h
  | some x' =>
   rw[hx] at h
   obtain⟨h1,h2⟩:=fZ k _ _ _ _ h
   have h3:=eM hx
   refine⟨fun e he=>?_,by simp only[Ex,Fg] at *;omega⟩
   rcases h1 e he with h|h|h
   ·exact .inl (by simp[h])
   ·exact .inr (.inl h)
   ·rcases joF_mem hx e h with h|h
    ·exact .inr (.inr h)
    ·exact .inl (by simp[h])
 | k+1,n::a,m::b,x,y,h=>by
  simp only[joG] at h
  cases hc:Qd (bc m.st n.st<0) with
  | true =>
   rw[hc] at h
   simp only at h
   cases hx:joF x m with
   | none=>rw[hx] at h;cases h
   | some x' =>
    rw[hx] at h
    obtain⟨h1,h2⟩:=fZ k _ _ _ _ h
    have h3:=eM hx
    refine⟨fun e he=>?_,by simp only[Ex] at *;omega⟩
    rcases h1 e he with h|h|h
    ·exact .inl h
    ·exact .inr (.inl (by simp[h]))
    ·rcases joF_mem hx e h with h|h
     ·exact .inr (.inr h)
     ·exact .inr (.inl (by simp[h]))
  | false =>
   rw[hc] at h
   simp only at h
   cases hx:joF x n with
   | none=>rw[hx] at h;cases h
   | some x' =>
    rw[hx] at h
    obtain⟨h1,h2⟩:=fZ k _ _ _ _ h
    have h3:=eM hx
    refine⟨fun e he=>?_,by simp only[Ex] at *;omega⟩
    rcases h1 e he with h|h|h
    ·exact .inl (by simp[h])
    ·exact .inr (.inl h)
    ·rcases joF_mem hx e h with h|h
     ·exact .inr (.inr h)
     ·exact .inl (by simp[h])
structure JoOk (a b:List EntT):Prop where
 l:a.length+b.length≤60000
 oa:∀e∈a,e.ok
 ob:∀e∈b,e.ok
 va:∀e∈a,0≤e.campus∧e.campus<7
 vb:∀e∈b,0≤e.campus∧e.campus<7
theorem joX_ok{a b y:List EntT}(J:JoOk a b)(hy:joR a b=some y)(h:List Blk):Ev Di Γ0 33 [aa (a.map Dt),aa (b.map Dt)] h (aa (y.map Dt)) h:=by
 unfold joR at hy
 cases hg:joG (a.length+b.length) a b [] with
 | none=>rw[hg] at hy;cases hy
 | some z =>
  rw[hg] at hy
  simp only at hy
  cases hf:pD z with
  | false=>rw[hf] at hy;cases hy
  | true =>
   rw[hf] at hy
   cases hy
   obtain⟨h1,h2⟩:=fZ _ _ _ _ _ hg
   have:=J.l
   refine vQ hg J.l J.oa J.ob (fun e he=>?_) hf (by simp only[Fg] at h2;omega) h
   rcases h1 e he with h|h|h
   ·exact J.va e h
   ·exact J.vb e h
   ·cases h
theorem BO{a b:List EntT}(J:JoOk a b)(hy:joR a b=none):VPan Di Γ0 33 [aa (a.map Dt),aa (b.map Dt)] [] fun c h'=>c=dmC 390∧h'=[]:=by
 unfold joR at hy
 cases hg:joG (a.length+b.length) a b [] with
 | none=>exact tE hg J.l J.oa J.ob
 | some z =>
  rw[hg] at hy
  simp only at hy
  cases hf:pD z with
  | true=>rw[hf] at hy;cases hy
  | false =>
   obtain⟨h1,h2⟩:=fZ _ _ _ _ _ hg
   have:=J.l
   refine qC hg J.l J.oa J.ob (fun e he=>?_) hf (by simp only[Fg] at h2;omega)
   rcases h1 e he with h|h|h
   ·exact J.va e h
   ·exact J.vb e h
   ·cases h
noncomputable abbrev p2C:Code:=cR (cR (au EP))
noncomputable abbrev p2O:Array Oper:=b5 (cL p2C)
noncomputable abbrev p3C:Code:=cR p2C
noncomputable abbrev p3O:Array Oper:=b5 (cL p3C)
noncomputable abbrev p4C:Code:=cR p3C
noncomputable abbrev p4O:Array Oper:=b5 (cL p4C)
noncomputable abbrev opN(os:Array Oper)(k:Nat):Oper:=(os.toList.drop k).headD default
theorem qD:p2C=.seq (.region (tT (cL p2C)) p2O false) p3C:=by kernel_rfl
theorem vX:p3C=.seq (.region (tT (cL p3C)) p3O false) p4C:=by kernel_rfl
theorem BP:p4C=.seq (.region (tT (cL p4C)) p4O false) (cR p4C):=by kernel_rfl
abbrev p2T(L:List (List Dp))(e:Int):List D:=mkT 23 0 [(0,aa L),(3,.ref (.ptr 0 0)),(4,nq),(5,int 0),(6,.ref (.ptr 1 0)),(9,aa L),(10,int e)]
theorem p2_pan{L:List (List Dp)}{n:EntT}{e:Int}(he:(e==0)=false)(hck:∀h,Ev Di Γq 12 [aa L] h (int e) h):CW Di Γq (puH n 0) false p2C {t:=puT L,h:=puH n 0,m:=[]} (.panic (dmC e)) {t:=p2T L e,h:=puH n 0,m:=[]}:=by
 rw[qD]
 refine CW.out (by simp) (CW.symPan (os1:=p2O.toList.take 2) (rest:=[]) (o:=opN p2O 2) (fv:=sx (opN p2O 2)) (args:=di (opN p2O 2)) (ats:=qB (opN p2O 2)) (h1:=puH n 0) (φ:=[Ev Di Γq 12 [aa L] (puH n 0) (int e) (puH n 0)]) pok (I:=noI) (fun _ _ _ _ _ _ _ _ h=>by simp[noI] at h) [.val (int e)] (by kernel_rfl) rfl (by kernel_rfl) ⟨hck _,trivial⟩ (by kernel_rfl) (by kernel_rfl) ?_ rfl)
 have e1:evalD Γq (p2T L e) (sx (opN p2O 2))=.p (.v (.func (.func 32) #[] #[])):=by kernel_rfl
 have e2:(di (opN p2O 2)).toList.map (evalD Γq (p2T L e))=[int e]:=by kernel_rfl
 rw[e1,e2]
 exact G0 pok (f:=32) (fi:=[]) (ca:=[]) rfl (by kernel_rfl) (vV e he _).glob0
noncomputable abbrev sy(n:EntT):List Blk:=[.var [int n.time,int n.campus,int n.no,int n.kind,int n.stu,int n.obj,int n.term,int n.val,int n.frm,int n.til,ax n.text,int n.sec.id,int n.sec.course,int n.sec.term,int n.sec.campus,int n.sec.seats,aa (Dh DA n.sec.mts),aa (Dh Dx n.sec.grs),aa (Dh ab n.sec.labs),bool n.sec.lab,int n.req.campus,int n.req.no,int n.req.st,int n.req.kind,int n.req.time,aa (Dh Dn n.req.chs),int n.req.gsec,int n.req.glab,int n.req.key,int n.r,int n.s],.var [int 0]]
theorem p2_ok{L:List (List Dp)}{n:EntT}(hck:∀h,Ev Di Γq 12 [aa L] h (int 0) h):(CW Di Γq (puH n 0) false (cL (cR (cR (au EP)))) {t:=puT L,h:=puH n 0,m:=[]} .normal {t:=puT L,h:=puH n 0,m:=[]}):=by
 exact zx [.st (.mask [0,3,4,5,6])] [.val (int 0),.val (D.tup [])] (.c (@hck (sy n)) (.c (Ev.glob0 (Γ':=Γq) (@nK (sy n))) .n))
abbrev p3T(L:List (List Dp))(n:EntT)(e:Int):List D:=mkT 23 0 [(0,aa L),(3,.ref (.ptr 0 0)),(4,nq),(5,int 0),(6,.ref (.ptr 1 0)),(12,ag n.row),(13,int e)]
theorem p3_pan{L:List (List Dp)}{n:EntT}{e:Int}(he:(e==0)=false)(hen:∀h,Ev Di Γq 25 [ag n.row] h (int e) h):CW Di Γq (puH n 0) false p3C {t:=puT L,h:=puH n 0,m:=[]} (.panic (dmC e)) {t:=p3T L n e,h:=puH n 0,m:=[]}:=by
 rw[vX]
 refine CW.out (by simp) (CW.symPan (os1:=p3O.toList.take 2) (rest:=[]) (o:=opN p3O 2) (fv:=sx (opN p3O 2)) (args:=di (opN p3O 2)) (ats:=qB (opN p3O 2)) (h1:=puH n 0) (φ:=[Ev Di Γq 25 [ag n.row] (puH n 0) (int e) (puH n 0)]) pok (I:=noI) (fun _ _ _ _ _ _ _ _ h=>by simp[noI] at h) [.val (int e)] (by kernel_rfl) rfl (by kernel_rfl) ⟨hen _,trivial⟩ (by kernel_rfl) (by kernel_rfl) ?_ rfl)
 have e1:evalD Γq (p3T L n e) (sx (opN p3O 2))=.p (.v (.func (.func 32) #[] #[])):=by kernel_rfl
 have e2:(di (opN p3O 2)).toList.map (evalD Γq (p3T L n e))=[int e]:=by kernel_rfl
 rw[e1,e2]
 exact G0 pok (f:=32) (fi:=[]) (ca:=[]) rfl (by kernel_rfl) (vV e he _).glob0
noncomputable abbrev sA(n:EntT):List Blk:=[.var [int n.time,int n.campus,int n.no,int n.kind,int n.stu,int n.obj,int n.term,int n.val,int n.frm,int n.til,ax n.text,int n.sec.id,int n.sec.course,int n.sec.term,int n.sec.campus,int n.sec.seats,aa (Dh DA n.sec.mts),aa (Dh Dx n.sec.grs),aa (Dh ab n.sec.labs),bool n.sec.lab,int n.req.campus,int n.req.no,int n.req.st,int n.req.kind,int n.req.time,aa (Dh Dn n.req.chs),int n.req.gsec,int n.req.glab,int n.req.key,int n.r,int n.s],.var [int 0]]
theorem p3_ok{L:List (List Dp)}{n:EntT}(hen:∀h,Ev Di Γq 25 [ag n.row] h (int 0) h):(CW Di Γq (puH n 0) false (cL (cR (cR (cR (au EP))))) {t:=puT L,h:=puH n 0,m:=[]} .normal {t:=puT L,h:=puH n 0,m:=[]}):=by
 exact zx [.st (.mask [0,3,4,5,6])] [.val (int 0),.val (D.tup [])] (.c (@hen (sA n)) (.c (Ev.glob0 (Γ':=Γq) (@nK (sA n))) .n))
abbrev p4T(L:List (List Dp))(n:EntT):List D:=mkT 23 0 [(0,aa L),(3,.ref (.ptr 0 0)),(4,nq),(5,int 0),(6,.ref (.ptr 1 0)),(15,aa L),(16,ag n.row),(17,.ref (.vec 2 0))]
abbrev p4H(n:EntT):List Blk:=[aO n,.var [int 0],.vec [n.row.map .p] 0 31]
theorem p4_pan{L:List (List Dp)}{n:EntT}(hjo:VPan Di Γ0 33 [aa L,aa [n.row]] [] fun c h'=>c=dmC 390∧h'=[]):CW Di Γq (puH n 0) false p4C {t:=puT L,h:=puH n 0,m:=[]} (.panic (dmC 390)) {t:=p4T L n,h:=p4H n,m:=[]}:=by
 rw[BP]
 refine CW.out (by simp) (CW.symPan (os1:=p4O.toList.take 3) (rest:=p4O.toList.drop 4) (o:=opN p4O 3) (fv:=sx (opN p4O 3)) (args:=di (opN p4O 3)) (ats:=qB (opN p4O 3)) (h1:=p4H n) (φ:=[]) pok (I:=noI) (fun _ _ _ _ _ _ _ _ h=>by simp[noI] at h) [] (by kernel_rfl) rfl (by kernel_rfl) trivial (by kernel_rfl) (by kernel_rfl) ?_ rfl)
 have e1:evalD Γq (p4T L n) (sx (opN p4O 3))=.p (.v (.func (.func 33) #[] #[])):=by kernel_rfl
 have e2:(di (opN p4O 3)).toList.map (evalD Γq (p4T L n))=[aa L,.ref (.vec 2 0)]:=by kernel_rfl
 rw[e1,e2]
 refine G0 pok (f:=33) (fi:=[]) (ca:=[]) rfl (by kernel_rfl) ?_
 exact VPan.frzArgs (args:=[aa L,.ref (.vec 2 0)]) (h:=p4H n) (by rfl) hjo.glob0
theorem BQ{L:List (List Dp)}{n:EntT}{e:Int}:fz Di EP (eA Di Γq noW 100) 0 (.panic (dmC e)) {t:=p2T L e,h:=puH n 0,m:=[]} (some (30,[.ref (.ptr 1 0)]))=some (.ret (.tup [nq,int 0,int e]) []):=by kernel_rfl
theorem BR{L:List (List Dp)}{n:EntT}{e:Int}:fz Di EP (eA Di Γq noW 100) 0 (.panic (dmC e)) {t:=p3T L n e,h:=puH n 0,m:=[]} (some (30,[.ref (.ptr 1 0)]))=some (.ret (.tup [nq,int 0,int e]) []):=by kernel_rfl
theorem BS{L:List (List Dp)}{n:EntT}:fz Di EP (eA Di Γq noW 100) 0 (.panic (dmC 390)) {t:=p4T L n,h:=p4H n,m:=[]} (some (30,[.ref (.ptr 1 0)]))=some (.ret (.tup [nq,int 0,int 390]) []):=by kernel_rfl
theorem BT{a b:RqT}(hl:ai a.chs)(he:(((a.chs.map Dn).length:Int) != ((b.chs.map Dn).length:Int))=false):
  CW Di Γ0 [] false (.loop (sub IT 0)) (rqS a b 0) (af (.exit 0) (fun _:Unit=>{t:=mkT 80 0 [],h:=[.var (a.row.map .p),.var (b.row.map .p)],m:=[]}) (fun _:Unit=>(.ret,rqX a b)) (qbR a.chs b.chs)).1 (af (.exit 0) (fun _:Unit=>{t:=mkT 80 0 [],h:=[.var (a.row.map .p),.var (b.row.map .p)],m:=[]}) (fun _:Unit=>(.ret,rqX a b)) (qbR a.chs b.chs)).2:=by
 have hlen:a.chs.length=b.chs.length:=by simp at he;omega
 have hz:(a.chs.zip b.chs).length=a.chs.length:=by simp[hlen]
 refine FZ (a.chs.zip b.chs) qbF (fun i _=>rqS a b (i:Int)) (.exit 0) _ (fun _=>(.ret,rqX a b)) (fun _ _=>True) (by simp) (fun _=>by simp) ?_ ?_ () trivial
 ·intro i p u hp _
  obtain⟨hi,he⟩:=Dq.1 hp
  have hx:i<a.chs.length:=by omega
  have hy:i<b.chs.length:=by omega
  have h1:a.chs[i]? = some p.1:=by subst he;simp[hx]
  have h2:b.chs[i]? = some p.2:=by subst he;simp[hy]
  refine⟨fun _ _=>trivial,?_⟩
  unfold qbF buNe
  cases hn:(!(p.1.sec==p.2.sec&&(p.1.lab==p.2.lab&&true))) with
  | true=>exact rq_bad (x:=p.1) (y:=p.2) (rowAt h1 rfl) (rowAt h2 rfl) (lt_len _ hx) hn
  | false=>exact Ax (x:=p.1) (y:=p.2) (rowAt h1 rfl) (rowAt h2 rfl) (lt_len _ hx) (wrap_succ hx hl) hn
 ·intro u _
  rw[hz]
  exact Ay (aY _ a.chs)
theorem rs_hd{a b:RqT}(hh:(a.campus != b.campus||a.no != b.no||a.st != b.st||a.kind != b.kind||a.time != b.time||!(a.gsec==b.gsec&&(a.glab==b.glab&&true))||a.key != b.key||(((a.chs.map Dn).length:Int) != ((b.chs.map Dn).length:Int)))=true)(h:List Blk):(Ev Di Γ0 52 [ag a.row,ag b.row] h (bool false) h):=by
 exact z0 [.b true] (.c hh .n) h
theorem rs_r{a b:RqT}(hh:(a.campus != b.campus||a.no != b.no||a.st != b.st||a.kind != b.kind||a.time != b.time||!(a.gsec==b.gsec&&(a.glab==b.glab&&true))||a.key != b.key||(((a.chs.map Dn).length:Int) != ((b.chs.map Dn).length:Int)))=false)(hl:CW Di Γ0 [] false (.loop (sub IT 0)) (rqS a b 0) .ret (rqX a b))(h:List Blk):(Ev Di Γ0 52 [ag a.row,ag b.row] h (bool false) h):=by
 have hl0:=(@hl)
 exact z0 [.b false,.sum [2,3,5] (Ee) {t:=mkT 80 0 [(4,bool false)],h:=[.var [int a.campus,int a.no,int a.st,int a.kind,int a.time,aa (Dh Dn a.chs),int a.gsec,int a.glab,int a.key],.var [int b.campus,int b.no,int b.st,int b.kind,int b.time,aa (Dh Dn b.chs),int b.gsec,int b.glab,int b.key]],m:=[]}] (.c hh (.c hl0 .n)) h
theorem rs_e{a b:RqT}(hh:(a.campus != b.campus||a.no != b.no||a.st != b.st||a.kind != b.kind||a.time != b.time||!(a.gsec==b.gsec&&(a.glab==b.glab&&true))||a.key != b.key||(((a.chs.map Dn).length:Int) != ((b.chs.map Dn).length:Int)))=false)(hl:CW Di Γ0 [] false (.loop (sub IT 0)) (rqS a b 0) (.exit 0) {t:=mkT 80 0 [],h:=[.var (a.row.map .p),.var (b.row.map .p)],m:=[]})(h:List Blk):(Ev Di Γ0 52 [ag a.row,ag b.row] h (bool true) h):=by
 have hl0:=(@hl)
 exact z0 [.b false,.sum [2,3,5] (DV 0) {t:=mkT 80 0 [],h:=[.var [int a.campus,int a.no,int a.st,int a.kind,int a.time,aa (Dh Dn a.chs),int a.gsec,int a.glab,int a.key],.var [int b.campus,int b.no,int b.st,int b.kind,int b.time,aa (Dh Dn b.chs),int b.gsec,int b.glab,int b.key]],m:=[]}] (.c hh (.c hl0 .n)) h
def kX(a b:RqT):Bool:=match (a.campus != b.campus||a.no != b.no||a.st != b.st||a.kind != b.kind||a.time != b.time||!(a.gsec==b.gsec&&(a.glab==b.glab&&true))||a.key != b.key||(((a.chs.map Dn).length:Int) != ((b.chs.map Dn).length:Int))) with
 | true=>false
 | false=>match qbR a.chs b.chs with
  | .inl _=>true
  | .inr _=>false
theorem ye{a b:RqT}(hc:ai a.chs)(h:List Blk):Ev Di Γ0 52 [ag a.row,ag b.row] h (bool (kX a b)) h:=by
 unfold kX
 cases hh:(a.campus != b.campus||a.no != b.no||a.st != b.st||a.kind != b.kind||a.time != b.time||!(a.gsec==b.gsec&&(a.glab==b.glab&&true))||a.key != b.key||(((a.chs.map Dn).length:Int) != ((b.chs.map Dn).length:Int))) with
 | true=>exact rs_hd hh h
 | false =>
  have he:(((a.chs.map Dn).length:Int) != ((b.chs.map Dn).length:Int))=false:=by
   simp only[Bool.or_eq_false_iff] at hh;exact hh.2
  have:=BT hc he
  simp only
  cases hf:qbR a.chs b.chs with
  | inl u=>rw[hf] at this;exact rs_e hh this h
  | inr u=>rw[hf] at this;exact rs_r hh this h
def iO(a b:EntT):Bool:=qx a b&&a.kind==b.kind&&a.stu==b.stu&&a.obj==b.obj&&a.term==b.term&&a.val==b.val&&(a.frm==b.frm&&(a.til==b.til&&true))&&eqS a.text b.text&&(a.r==b.r&&(a.s==b.s&&true))&&fT a.sec b.sec&&kX a.req b.req
noncomputable abbrev jb(a:EntT)(b:EntT):List Blk:=[.var [int a.time,int a.campus,int a.no,int a.kind,int a.stu,int a.obj,int a.term,int a.val,int a.frm,int a.til,ax a.text,int a.sec.id,int a.sec.course,int a.sec.term,int a.sec.campus,int a.sec.seats,aa (Dh DA a.sec.mts),aa (Dh Dx a.sec.grs),aa (Dh ab a.sec.labs),bool a.sec.lab,int a.req.campus,int a.req.no,int a.req.st,int a.req.kind,int a.req.time,aa (Dh Dn a.req.chs),int a.req.gsec,int a.req.glab,int a.req.key,int a.r,int a.s],.var [int b.time,int b.campus,int b.no,int b.kind,int b.stu,int b.obj,int b.term,int b.val,int b.frm,int b.til,ax b.text,int b.sec.id,int b.sec.course,int b.sec.term,int b.sec.campus,int b.sec.seats,aa (Dh DA b.sec.mts),aa (Dh Dx b.sec.grs),aa (Dh ab b.sec.labs),bool b.sec.lab,int b.req.campus,int b.req.no,int b.req.st,int b.req.kind,int b.req.time,aa (Dh Dn b.req.chs),int b.req.gsec,int b.req.glab,int b.req.key,int b.r,int b.s]]
theorem bn{a b:EntT}(hm:ai a.sec.mts)(hgr:ai a.sec.grs)(hi:ai a.sec.labs)(hc:ai a.req.chs)(h:List Blk):(Ev Di Γ0 37 [ag a.row,ag b.row] h (bool (iO a b)) h):=by
 exact zD (bool (a.time==b.time&&(a.campus==b.campus&&(a.no==b.no&&true))&&a.kind==b.kind&&a.stu==b.stu&&a.obj==b.obj&&a.term==b.term&&a.val==b.val&&(a.frm==b.frm&&(a.til==b.til&&true))&&eqS a.text b.text&&(a.r==b.r&&(a.s==b.s&&true))&&fT a.sec b.sec&&kX a.req b.req)) [.val (bool (fT a.sec b.sec)),.val (bool (kX a.req b.req))] (.c (gd (a.time==b.time&&(a.campus==b.campus&&(a.no==b.no&&true))&&a.kind==b.kind&&a.stu==b.stu&&a.obj==b.obj&&a.term==b.term&&a.val==b.val&&(a.frm==b.frm&&(a.til==b.til&&true))&&eqS a.text b.text&&(a.r==b.r&&(a.s==b.s&&true))) (@xw (a.sec) (b.sec) hm hgr hi (jb a b))) (.c (gd (a.time==b.time&&(a.campus==b.campus&&(a.no==b.no&&true))&&a.kind==b.kind&&a.stu==b.stu&&a.obj==b.obj&&a.term==b.term&&a.val==b.val&&(a.frm==b.frm&&(a.til==b.til&&true))&&eqS a.text b.text&&(a.r==b.r&&(a.s==b.s&&true))&&fT a.sec b.sec) (@ye (a.req) (b.req) hc (jb a b))) .n)) h (by first|rfl|(simp only[iO,qx];first|done|rfl))
def c8(t:Int):Int:=match t==7 with
 | true=>4095
 | false=>match t==9 with
  | true=>4095
  | false=>match t==8 with
   | true=>3999
   | false=>match t==10 with
    | true=>0
    | false => -1
theorem pH{t:Int}(h:List Blk):(Ev Di Γ0 78 [int t] h (int (c8 t)) h):=by
 cases hc0:t==7
 ·cases hc1:t==9
  ·cases hc2:t==8
   ·cases hc3:t==10
    ·exact zD (int (-1)) [.b false,.b false,.b false,.b false] (.c hc0 (.c hc1 (.c hc2 (.c hc3 .n)))) h (by first|rfl|(simp only[c8,hc0,hc1,hc2,hc3];first|done|rfl))
    ·exact zD (int 0) [.b false,.b false,.b false,.b true] (.c hc0 (.c hc1 (.c hc2 (.c hc3 .n)))) h (by first|rfl|(simp only[c8,hc0,hc1,hc2,hc3];first|done|rfl))
   ·exact zD (int 3999) [.b false,.b false,.b true] (.c hc0 (.c hc1 (.c hc2 .n))) h (by first|rfl|(simp only[c8,hc0,hc1,hc2];first|done|rfl))
  ·exact zD (int 4095) [.b false,.b true] (.c hc0 (.c hc1 .n)) h (by first|rfl|(simp only[c8,hc0,hc1];first|done|rfl))
 ·exact zD (int 4095) [.b true,.b true] (.c hc0 (.c hc0 .n)) h (by first|rfl|(simp only[c8,hc0];first|done|rfl))
theorem yf{e:EntT}(h:List Blk):(Ev Di Γ0 82 [ag e.row] h (.agg [int e.val,int e.stu,int e.obj,int e.term]) h):=by
 exact z0 [] .n h
noncomputable abbrev yg(e:EntT):List Blk:=[.var [int e.time,int e.campus,int e.no,int e.kind,int e.stu,int e.obj,int e.term,int e.val,int e.frm,int e.til,ax e.text,int e.sec.id,int e.sec.course,int e.sec.term,int e.sec.campus,int e.sec.seats,aa (Dh DA e.sec.mts),aa (Dh Dx e.sec.grs),aa (Dh ab e.sec.labs),bool e.sec.lab,int e.req.campus,int e.req.no,int e.req.st,int e.req.kind,int e.req.time,aa (Dh Dn e.req.chs),int e.req.gsec,int e.req.glab,int e.req.key,int e.r,int e.s]]
theorem rc_st{e:EntT}{st:Int}(hst:∀h,Ev Di Γ0 44 [.agg [int e.time,int e.campus,int e.no]] h (int st) h)(hb:(st != 0)=true)(h:List Blk):(Ev Di Γ0 28 [ag e.row] h (int st) h):=by
 exact z0 [.val (int st),.b true] (.c (@hst (yg e)) (.c hb .n)) h
noncomputable abbrev vY(e:EntT):List Blk:=[.var [int e.time,int e.campus,int e.no,int e.kind,int e.stu,int e.obj,int e.term,int e.val,int e.frm,int e.til,ax e.text,int e.sec.id,int e.sec.course,int e.sec.term,int e.sec.campus,int e.sec.seats,aa (Dh DA e.sec.mts),aa (Dh Dx e.sec.grs),aa (Dh ab e.sec.labs),bool e.sec.lab,int e.req.campus,int e.req.no,int e.req.st,int e.req.kind,int e.req.time,aa (Dh Dn e.req.chs),int e.req.gsec,int e.req.glab,int e.req.key,int e.r,int e.s]]
theorem rc_n{e:EntT}(hst:∀h,Ev Di Γ0 44 [.agg [int e.time,int e.campus,int e.no]] h (int 0) h)(hin:inS e.kind 1 9=false)(h:List Blk):(Ev Di Γ0 28 [ag e.row] h (int 370) h):=by
 exact z0 [.val (int 0),.b false,.val (bool (inS e.kind 1 9)),.g false,.g false,.g false,.g false,.g false,.ov 20 (bool true),.b true] (.c (@hst (vY e)) (.c (show(0 != 0)=false from rfl) (.c (@aA (e.kind) 1 9 (vY e)) (.c (show((!inS e.kind 1 9)==false)=false from(by rw[hin]<;>rfl)) (.c (show((!inS e.kind 1 9)==false)=false from(by rw[hin]<;>rfl)) (.c (show((!inS e.kind 1 9)==false)=false from(by rw[hin]<;>rfl)) (.c (show((!inS e.kind 1 9)==false)=false from(by rw[hin]<;>rfl)) (.c (show((!inS e.kind 1 9)==false)=false from(by rw[hin]<;>rfl)) (.c (show dB (bool !inS e.kind 1 9) (bool true) (D.p (Dp.v (DF {toList:=[]}))) (bool true) from(nd (by rw[hin]<;>rfl) rfl)) (.er true .n)))))))))) h
noncomputable abbrev rc_k_x0(e:EntT):List D:=[D.agg [int e.time,int e.campus,int e.no,int e.kind,int e.stu,int e.obj,int e.term,int e.val,int e.frm,int e.til,ax e.text,int e.sec.id,int e.sec.course,int e.sec.term,int e.sec.campus,int e.sec.seats,aa (Dh DA e.sec.mts),aa (Dh Dx e.sec.grs),aa (Dh ab e.sec.labs),bool e.sec.lab,int e.req.campus,int e.req.no,int e.req.st,int e.req.kind,int e.req.time,aa (Dh Dn e.req.chs),int e.req.gsec,int e.req.glab,int e.req.key,int e.r,int e.s]]
noncomputable abbrev d5(e:EntT):List Blk:=[.var [int e.time,int e.campus,int e.no,int e.kind,int e.stu,int e.obj,int e.term,int e.val,int e.frm,int e.til,ax e.text,int e.sec.id,int e.sec.course,int e.sec.term,int e.sec.campus,int e.sec.seats,aa (Dh DA e.sec.mts),aa (Dh Dx e.sec.grs),aa (Dh ab e.sec.labs),bool e.sec.lab,int e.req.campus,int e.req.no,int e.req.st,int e.req.kind,int e.req.time,aa (Dh Dn e.req.chs),int e.req.gsec,int e.req.glab,int e.req.key,int e.r,int e.s]]
theorem rc_k{e:EntT}{u:List D}{sb:Bool}{r:Int}(hst:∀h,Ev Di Γ0 44 [.agg [int e.time,int e.campus,int e.no]] h (int 0) h)(hin:inS e.kind 1 9=true)(hu:∀h,Ev Di Γ0 46 [ag e.row] h (.agg u) h)(hs:∀h,Ev Di Γ0 37 [ag e.row,.agg u] h (bool sb) h)(hf:∀h,Ev Di Γ0 47 [ag e.row] h (int r) h)(h:List Blk):(Ev Di Γ0 28 [ag e.row] h (int (enR 0 sb r)) h):=by
 cases hc0:!sb
 ·exact zD (int r) [.val (int 0),.b false,.val (bool (inS e.kind 1 9)),.g true,.g true,.g true,.val (D.agg u),.g true,.val (bool sb),.g true,.ov 20 (bool !sb),.b false,.val (int r)] (.c (@hst (d5 e)) (.c (show(0 != 0)=false from rfl) (.c (@aA (e.kind) 1 9 (d5 e)) (.c (show((!inS e.kind 1 9)==false)=true from(by rw[hin]<;>rfl)) (.c (show((!inS e.kind 1 9)==false)=true from(by rw[hin]<;>rfl)) (.c (show((!inS e.kind 1 9)==false)=true from(by rw[hin]<;>rfl)) (.c (@hu (d5 e)) (.c (show((!inS e.kind 1 9)==false)=true from(by rw[hin]<;>rfl)) (.c (@hs (d5 e)) (.c (show((!inS e.kind 1 9)==false)=true from(by rw[hin]<;>rfl)) (.c (show dB (bool !inS e.kind 1 9) (bool true) (bool !sb) (bool !sb) from(jv (by rw[hin]<;>rfl) rfl)) (.c hc0 (.c (@hf (d5 e)) .n))))))))))))) h (by first|rfl|(simp only[enR,hc0];first|done|rfl))
 ·exact zD (int 370) [.val (int 0),.b false,.val (bool (inS e.kind 1 9)),.g true,.g true,.g true,.val (D.agg u),.g true,.val (bool sb),.g true,.ov 20 (bool !sb),.b true] (.c (@hst (d5 e)) (.c (show(0 != 0)=false from rfl) (.c (@aA (e.kind) 1 9 (d5 e)) (.c (show((!inS e.kind 1 9)==false)=true from(by rw[hin]<;>rfl)) (.c (show((!inS e.kind 1 9)==false)=true from(by rw[hin]<;>rfl)) (.c (show((!inS e.kind 1 9)==false)=true from(by rw[hin]<;>rfl)) (.c (@hu (d5 e)) (.c (show((!inS e.kind 1 9)==false)=true from(by rw[hin]<;>rfl)) (.c (@hs (d5 e)) (.c (show((!inS e.kind 1 9)==false)=true from(by rw[hin]<;>rfl)) (.c (show dB (bool !inS e.kind 1 9) (bool true) (bool !sb) (bool !sb) from(jv (by rw[hin]<;>rfl) rfl)) (.c hc0 .n)))))))))))) h (by first|rfl|(simp only[enR,hc0];first|done|rfl))
theorem us1_a{e:EntT}(h:List Blk):(Ev Di Γ0 46 [.agg (aQ 1 e)] h (.agg (eh 1 e 0 0 0 0 e.frm e.til e.text bX dZ)) h):=by
 exact z0 [.b false,.b false,.b false,.b false,.b false,.b false,.b false,.b false,.b false,.b true,.b true,.b true] (.c (show(1==2)=false from rfl) (.c (show(1==3)=false from rfl) (.c (show(1==5)=false from rfl) (.c (show(1==4)=false from rfl) (.c (show(1==8)=false from rfl) (.c (show(1==2)=false from rfl) (.c (show(1==4)=false from rfl) (.c (show(1==8)=false from rfl) (.c (show(1==9)=false from rfl) (.c (show(1==1)=true from rfl) (.c (show(1==1)=true from rfl) (.c (show(1==1)=true from rfl) .n)))))))))))) h
theorem us2_a{e:EntT}(h:List Blk):(Ev Di Γ0 46 [.agg (aQ 2 e)] h (.agg (eh 2 e e.stu e.obj e.term e.val 0 0 Eg bX dZ)) h):=by
 exact z0 [.b true,.b true,.b true,.b true,.b false,.b false,.b false,.b false,.b false,.b false,.b false] (.c (show(2==2)=true from rfl) (.c (show(2==2)=true from rfl) (.c (show(2==2)=true from rfl) (.c (show(2==2)=true from rfl) (.c (show(2==1)=false from rfl) (.c (show(2==3)=false from rfl) (.c (show(2==5)=false from rfl) (.c (show(2==4)=false from rfl) (.c (show(2==1)=false from rfl) (.c (show(2==6)=false from rfl) (.c (show(2==7)=false from rfl) .n))))))))))) h
theorem us3_a{e:EntT}(h:List Blk):(Ev Di Γ0 46 [.agg (aQ 3 e)] h (.agg (eh 3 e e.stu e.obj 0 e.val e.frm e.til Eg bX dZ)) h):=by
 exact z0 [.b false,.b true,.b true,.b false,.b false,.b false,.b false,.b false,.b true,.b true,.b false,.b false,.b false] (.c (show(3==2)=false from rfl) (.c (show(3==3)=true from rfl) (.c (show(3==3)=true from rfl) (.c (show(3==2)=false from rfl) (.c (show(3==4)=false from rfl) (.c (show(3==8)=false from rfl) (.c (show(3==9)=false from rfl) (.c (show(3==1)=false from rfl) (.c (show(3==3)=true from rfl) (.c (show(3==3)=true from rfl) (.c (show(3==1)=false from rfl) (.c (show(3==6)=false from rfl) (.c (show(3==7)=false from rfl) .n))))))))))))) h
theorem us4_a{e:EntT}(h:List Blk):(Ev Di Γ0 46 [.agg (aQ 4 e)] h (.agg (eh 4 e e.stu e.obj e.term e.val e.frm e.til Eg bX dZ)) h):=by
 exact z0 [.b false,.b false,.b false,.b true,.b true,.b false,.b true,.b true,.b false,.b false,.b false,.b true,.b false,.b false,.b false] (.c (show(4==2)=false from rfl) (.c (show(4==3)=false from rfl) (.c (show(4==5)=false from rfl) (.c (show(4==4)=true from rfl) (.c (show(4==4)=true from rfl) (.c (show(4==2)=false from rfl) (.c (show(4==4)=true from rfl) (.c (show(4==4)=true from rfl) (.c (show(4==1)=false from rfl) (.c (show(4==3)=false from rfl) (.c (show(4==5)=false from rfl) (.c (show(4==4)=true from rfl) (.c (show(4==1)=false from rfl) (.c (show(4==6)=false from rfl) (.c (show(4==7)=false from rfl) .n))))))))))))))) h
theorem us5_a{e:EntT}(h:List Blk):(Ev Di Γ0 46 [.agg (aQ 5 e)] h (.agg (eh 5 e e.stu e.obj 0 e.val e.frm e.til Eg bX dZ)) h):=by
 exact z0 [.b false,.b false,.b true,.b true,.b false,.b false,.b false,.b false,.b false,.b false,.b true,.b true,.b false,.b false,.b false] (.c (show(5==2)=false from rfl) (.c (show(5==3)=false from rfl) (.c (show(5==5)=true from rfl) (.c (show(5==5)=true from rfl) (.c (show(5==2)=false from rfl) (.c (show(5==4)=false from rfl) (.c (show(5==8)=false from rfl) (.c (show(5==9)=false from rfl) (.c (show(5==1)=false from rfl) (.c (show(5==3)=false from rfl) (.c (show(5==5)=true from rfl) (.c (show(5==5)=true from rfl) (.c (show(5==1)=false from rfl) (.c (show(5==6)=false from rfl) (.c (show(5==7)=false from rfl) .n))))))))))))))) h
theorem us6_a{e:EntT}(h:List Blk):(Ev Di Γ0 46 [.agg (aQ 6 e)] h (.agg (eh 6 e 0 0 0 0 0 0 Eg (f8 e.sec) dZ)) h):=by
 exact z0 [.b false,.b false,.b false,.b false,.b false,.b false,.b false,.b false,.b false,.b false,.b false,.b false,.b false,.b false,.b true] (.c (show(6==2)=false from rfl) (.c (show(6==3)=false from rfl) (.c (show(6==5)=false from rfl) (.c (show(6==4)=false from rfl) (.c (show(6==8)=false from rfl) (.c (show(6==2)=false from rfl) (.c (show(6==4)=false from rfl) (.c (show(6==8)=false from rfl) (.c (show(6==9)=false from rfl) (.c (show(6==1)=false from rfl) (.c (show(6==3)=false from rfl) (.c (show(6==5)=false from rfl) (.c (show(6==4)=false from rfl) (.c (show(6==1)=false from rfl) (.c (show(6==6)=true from rfl) .n))))))))))))))) h
theorem us7_a{e:EntT}(h:List Blk):(Ev Di Γ0 46 [.agg (aQ 7 e)] h (.agg (eh 7 e 0 0 0 0 0 0 Eg bX (rqD e.req.kind e.req))) h):=by
 exact z0 [.b false,.b false,.b false,.b false,.b false,.b false,.b false,.b false,.b false,.b false,.b false,.b false,.b false,.b false,.b false,.b true] (.c (show(7==2)=false from rfl) (.c (show(7==3)=false from rfl) (.c (show(7==5)=false from rfl) (.c (show(7==4)=false from rfl) (.c (show(7==8)=false from rfl) (.c (show(7==2)=false from rfl) (.c (show(7==4)=false from rfl) (.c (show(7==8)=false from rfl) (.c (show(7==9)=false from rfl) (.c (show(7==1)=false from rfl) (.c (show(7==3)=false from rfl) (.c (show(7==5)=false from rfl) (.c (show(7==4)=false from rfl) (.c (show(7==1)=false from rfl) (.c (show(7==6)=false from rfl) (.c (show(7==7)=true from rfl) .n)))))))))))))))) h
theorem us8_a{e:EntT}(h:List Blk):(Ev Di Γ0 46 [.agg (aQ 8 e)] h (.agg (eh 8 e e.stu e.obj e.term e.val 0 0 Eg bX dZ)) h):=by
 exact z0 [.b false,.b false,.b false,.b false,.b true,.b false,.b false,.b true,.b true,.b false,.b false,.b false,.b false,.b false,.b false,.b false] (.c (show(8==2)=false from rfl) (.c (show(8==3)=false from rfl) (.c (show(8==5)=false from rfl) (.c (show(8==4)=false from rfl) (.c (show(8==8)=true from rfl) (.c (show(8==2)=false from rfl) (.c (show(8==4)=false from rfl) (.c (show(8==8)=true from rfl) (.c (show(8==8)=true from rfl) (.c (show(8==1)=false from rfl) (.c (show(8==3)=false from rfl) (.c (show(8==5)=false from rfl) (.c (show(8==4)=false from rfl) (.c (show(8==1)=false from rfl) (.c (show(8==6)=false from rfl) (.c (show(8==7)=false from rfl) .n)))))))))))))))) h
theorem us9_a{e:EntT}(h:List Blk):(Ev Di Γ0 46 [.agg (aQ 9 e)] h (.agg (eh 9 e 0 0 e.term 0 0 0 Eg bX dZ)) h):=by
 exact z0 [.b false,.b false,.b false,.b false,.b false,.b false,.b false,.b false,.b true,.b false,.b false,.b false,.b false,.b false,.b false,.b false] (.c (show(9==2)=false from rfl) (.c (show(9==3)=false from rfl) (.c (show(9==5)=false from rfl) (.c (show(9==4)=false from rfl) (.c (show(9==8)=false from rfl) (.c (show(9==2)=false from rfl) (.c (show(9==4)=false from rfl) (.c (show(9==8)=false from rfl) (.c (show(9==9)=true from rfl) (.c (show(9==1)=false from rfl) (.c (show(9==3)=false from rfl) (.c (show(9==5)=false from rfl) (.c (show(9==4)=false from rfl) (.c (show(9==1)=false from rfl) (.c (show(9==6)=false from rfl) (.c (show(9==7)=false from rfl) .n)))))))))))))))) h
def dj(e:EntT):Bool:=e.val == -1||Qd (e.val≥0)&&Qd (e.val.tmod 16≤12)&&Qd (Dk.wrap (e.val.tdiv 16)<7)
def iP(b:Bool):Int:=match b with
 | true=>370
 | false=>0
theorem nL(b:Bool):iP (!b)=mustR b:=by cases b<;>rfl
def aP(e:EntT):Bool:=Qd (e.frm≥0)&&Qd (e.frm<e.til)&&Qd (e.til≤1024)
noncomputable abbrev jL(e:EntT):List Blk:=[.var [int e.time,int e.campus,int e.no,int 1,int e.stu,int e.obj,int e.term,int e.val,int e.frm,int e.til,ax e.text,int e.sec.id,int e.sec.course,int e.sec.term,int e.sec.campus,int e.sec.seats,aa (Dh DA e.sec.mts),aa (Dh Dx e.sec.grs),aa (Dh ab e.sec.labs),bool e.sec.lab,int e.req.campus,int e.req.no,int e.req.st,int e.req.kind,int e.req.time,aa (Dh Dn e.req.chs),int e.req.gsec,int e.req.glab,int e.req.key,int e.r,int e.s]]
theorem fd1_a{e:EntT}(h:List Blk):(Ev Di Γ0 47 [.agg (aQ 1 e)] h (int (iP (!(aP e&&Qd ((e.text.size:Int)≤65536))))) h):=by
 cases hc0:!(Qd (e.frm≥0)&&Qd (e.frm<e.til)&&Qd (e.til≤1024)&&Qd ((↑(ByteArray.size e.text):Int)≤65536))
 ·exact zD (int 0) [.val (bool (inS e.stu 0 19999)),.val (bool (inS e.term 0 1023)),.b true,.b false] (.c (@aA (e.stu) 0 19999 (jL e)) (.c (@aA (e.term) 0 1023 (jL e)) (.c (show(1==1)=true from rfl) (.c hc0 .n)))) h (by first|rfl|(have hh:(!(aP e&&Qd ((e.text.size:Int)≤65536)))=true:=hc0;rw[hh];rfl)|(have hh:(!(aP e&&Qd ((e.text.size:Int)≤65536)))=false:=hc0;rw[hh];rfl))
 ·exact zD (int 370) [.val (bool (inS e.stu 0 19999)),.val (bool (inS e.term 0 1023)),.b true,.b true] (.c (@aA (e.stu) 0 19999 (jL e)) (.c (@aA (e.term) 0 1023 (jL e)) (.c (show(1==1)=true from rfl) (.c hc0 .n)))) h (by first|rfl|(have hh:(!(aP e&&Qd ((e.text.size:Int)≤65536)))=true:=hc0;rw[hh];rfl)|(have hh:(!(aP e&&Qd ((e.text.size:Int)≤65536)))=false:=hc0;rw[hh];rfl))
noncomputable abbrev ff(e:EntT):List Blk:=[.var [int e.time,int e.campus,int e.no,int 2,int e.stu,int e.obj,int e.term,int e.val,int e.frm,int e.til,ax e.text,int e.sec.id,int e.sec.course,int e.sec.term,int e.sec.campus,int e.sec.seats,aa (Dh DA e.sec.mts),aa (Dh Dx e.sec.grs),aa (Dh ab e.sec.labs),bool e.sec.lab,int e.req.campus,int e.req.no,int e.req.st,int e.req.kind,int e.req.time,aa (Dh Dn e.req.chs),int e.req.gsec,int e.req.glab,int e.req.key,int e.r,int e.s]]
theorem fd2_a{e:EntT}(h:List Blk):(Ev Di Γ0 47 [.agg (aQ 2 e)] h (int (iP (!(inS e.stu 0 19999&&inS e.term 0 1023&&inS e.obj 0 4095&&dj e)))) h):=by
 cases hc0:!(inS e.stu 0 19999&&inS e.term 0 1023&&inS e.obj 0 4095&&(e.val == -1||Qd (e.val≥0)&&Qd (Int.tmod e.val 16≤12)&&Qd (Ds Dk (Int.tdiv e.val 16)<7)))
 ·exact zD (int 0) [.val (bool (inS e.stu 0 19999)),.val (bool (inS e.term 0 1023)),.b false,.b true,.val (bool (inS e.obj 0 4095)),.b false] (.c (@aA (e.stu) 0 19999 (ff e)) (.c (@aA (e.term) 0 1023 (ff e)) (.c (show(2==1)=false from rfl) (.c (show(2==2)=true from rfl) (.c (gd (inS e.stu 0 19999&&inS e.term 0 1023) (@aA (e.obj) 0 4095 (ff e))) (.c (show(inS e.stu 0 19999&&inS e.term 0 1023&&inS e.obj 0 4095&&!e.val == -1&&Qd (e.val≥0))=true→(!Qd (16=0))=true from(fun hg=>rfl)) (.c (show(inS e.stu 0 19999&&inS e.term 0 1023&&inS e.obj 0 4095&&!e.val == -1&&(Qd (e.val≥0)&&Qd (Int.tmod e.val 16≤12)))=true→(!Qd (16=0))=true from(fun hg=>rfl)) (.c hc0 .n)))))))) h (by first|rfl|(have hh:(!(inS e.stu 0 19999&&inS e.term 0 1023&&inS e.obj 0 4095&&dj e))=true:=hc0;rw[hh];rfl)|(have hh:(!(inS e.stu 0 19999&&inS e.term 0 1023&&inS e.obj 0 4095&&dj e))=false:=hc0;rw[hh];rfl))
 ·exact zD (int 370) [.val (bool (inS e.stu 0 19999)),.val (bool (inS e.term 0 1023)),.b false,.b true,.val (bool (inS e.obj 0 4095)),.b true] (.c (@aA (e.stu) 0 19999 (ff e)) (.c (@aA (e.term) 0 1023 (ff e)) (.c (show(2==1)=false from rfl) (.c (show(2==2)=true from rfl) (.c (gd (inS e.stu 0 19999&&inS e.term 0 1023) (@aA (e.obj) 0 4095 (ff e))) (.c (show(inS e.stu 0 19999&&inS e.term 0 1023&&inS e.obj 0 4095&&!e.val == -1&&Qd (e.val≥0))=true→(!Qd (16=0))=true from(fun hg=>rfl)) (.c (show(inS e.stu 0 19999&&inS e.term 0 1023&&inS e.obj 0 4095&&!e.val == -1&&(Qd (e.val≥0)&&Qd (Int.tmod e.val 16≤12)))=true→(!Qd (16=0))=true from(fun hg=>rfl)) (.c hc0 .n)))))))) h (by first|rfl|(have hh:(!(inS e.stu 0 19999&&inS e.term 0 1023&&inS e.obj 0 4095&&dj e))=true:=hc0;rw[hh];rfl)|(have hh:(!(inS e.stu 0 19999&&inS e.term 0 1023&&inS e.obj 0 4095&&dj e))=false:=hc0;rw[hh];rfl))
noncomputable abbrev fg(e:EntT):List Blk:=[.var [int e.time,int e.campus,int e.no,int 3,int e.stu,int e.obj,int e.term,int e.val,int e.frm,int e.til,ax e.text,int e.sec.id,int e.sec.course,int e.sec.term,int e.sec.campus,int e.sec.seats,aa (Dh DA e.sec.mts),aa (Dh Dx e.sec.grs),aa (Dh ab e.sec.labs),bool e.sec.lab,int e.req.campus,int e.req.no,int e.req.st,int e.req.kind,int e.req.time,aa (Dh Dn e.req.chs),int e.req.gsec,int e.req.glab,int e.req.key,int e.r,int e.s]]
theorem fd3_a{e:EntT}(h:List Blk):(Ev Di Γ0 47 [.agg (aQ 3 e)] h (int (iP (!(inS e.stu 0 19999&&aP e&&inS e.obj 0 7&&(e.val==1||e.val == -1))))) h):=by
 cases hc0:!(inS e.stu 0 19999&&(Qd (e.frm≥0)&&Qd (e.frm<e.til)&&Qd (e.til≤1024))&&inS e.obj 0 7&&(e.val==1||e.val == -1))
 ·exact zD (int 0) [.val (bool (inS e.stu 0 19999)),.val (bool (inS e.term 0 1023)),.b false,.b false,.b true,.b true,.val (bool (inS e.obj 0 7)),.b false] (.c (@aA (e.stu) 0 19999 (fg e)) (.c (@aA (e.term) 0 1023 (fg e)) (.c (show(3==1)=false from rfl) (.c (show(3==2)=false from rfl) (.c (show(3==3)=true from rfl) (.c (show(3==3)=true from rfl) (.c (gd (inS e.stu 0 19999&&(Qd (e.frm≥0)&&Qd (e.frm<e.til)&&Qd (e.til≤1024))) (@aA (e.obj) 0 7 (fg e))) (.c hc0 .n)))))))) h (by first|rfl|(have hh:(!(inS e.stu 0 19999&&aP e&&inS e.obj 0 7&&(e.val==1||e.val == -1)))=true:=hc0;rw[hh];rfl)|(have hh:(!(inS e.stu 0 19999&&aP e&&inS e.obj 0 7&&(e.val==1||e.val == -1)))=false:=hc0;rw[hh];rfl))
 ·exact zD (int 370) [.val (bool (inS e.stu 0 19999)),.val (bool (inS e.term 0 1023)),.b false,.b false,.b true,.b true,.val (bool (inS e.obj 0 7)),.b true] (.c (@aA (e.stu) 0 19999 (fg e)) (.c (@aA (e.term) 0 1023 (fg e)) (.c (show(3==1)=false from rfl) (.c (show(3==2)=false from rfl) (.c (show(3==3)=true from rfl) (.c (show(3==3)=true from rfl) (.c (gd (inS e.stu 0 19999&&(Qd (e.frm≥0)&&Qd (e.frm<e.til)&&Qd (e.til≤1024))) (@aA (e.obj) 0 7 (fg e))) (.c hc0 .n)))))))) h (by first|rfl|(have hh:(!(inS e.stu 0 19999&&aP e&&inS e.obj 0 7&&(e.val==1||e.val == -1)))=true:=hc0;rw[hh];rfl)|(have hh:(!(inS e.stu 0 19999&&aP e&&inS e.obj 0 7&&(e.val==1||e.val == -1)))=false:=hc0;rw[hh];rfl))
noncomputable abbrev co(e:EntT):List Blk:=[.var [int e.time,int e.campus,int e.no,int 4,int e.stu,int e.obj,int e.term,int e.val,int e.frm,int e.til,ax e.text,int e.sec.id,int e.sec.course,int e.sec.term,int e.sec.campus,int e.sec.seats,aa (Dh DA e.sec.mts),aa (Dh Dx e.sec.grs),aa (Dh ab e.sec.labs),bool e.sec.lab,int e.req.campus,int e.req.no,int e.req.st,int e.req.kind,int e.req.time,aa (Dh Dn e.req.chs),int e.req.gsec,int e.req.glab,int e.req.key,int e.r,int e.s]]
theorem fd4_a{e:EntT}(h:List Blk):(Ev Di Γ0 47 [.agg (aQ 4 e)] h (int (iP (!(inS e.stu 0 19999&&aP e&&inS e.obj 0 (c8 e.term)&&(e.val == -1||inS e.val 1 1099511627776))))) h):=by
 cases hc0:!(inS e.stu 0 19999&&(Qd (e.frm≥0)&&Qd (e.frm<e.til)&&Qd (e.til≤1024))&&inS e.obj 0 (c8 e.term)&&(e.val == -1||inS e.val 1 1099511627776))
 ·exact zD (int 0) [.val (bool (inS e.stu 0 19999)),.val (bool (inS e.term 0 1023)),.b false,.b false,.b false,.b false,.b true,.val (int (c8 e.term)),.val (bool (inS e.obj 0 (c8 e.term))),.val (bool (inS e.val 1 1099511627776)),.b false] (.c (@aA (e.stu) 0 19999 (co e)) (.c (@aA (e.term) 0 1023 (co e)) (.c (show(4==1)=false from rfl) (.c (show(4==2)=false from rfl) (.c (show(4==3)=false from rfl) (.c (show(4==5)=false from rfl) (.c (show(4==4)=true from rfl) (.c (gd (inS e.stu 0 19999&&(Qd (e.frm≥0)&&Qd (e.frm<e.til)&&Qd (e.til≤1024))) (@pH (e.term) (co e))) (.c (gd (inS e.stu 0 19999&&(Qd (e.frm≥0)&&Qd (e.frm<e.til)&&Qd (e.til≤1024))) (@aA (e.obj) 0 (c8 e.term) (co e))) (.c (gd (inS e.stu 0 19999&&(Qd (e.frm≥0)&&Qd (e.frm<e.til)&&Qd (e.til≤1024))&&inS e.obj 0 (c8 e.term)&&!e.val == -1) (@aA (e.val) 1 1099511627776 (co e))) (.c hc0 .n))))))))))) h (by first|rfl|(have hh:(!(inS e.stu 0 19999&&aP e&&inS e.obj 0 (c8 e.term)&&(e.val == -1||inS e.val 1 1099511627776)))=true:=hc0;rw[hh];rfl)|(have hh:(!(inS e.stu 0 19999&&aP e&&inS e.obj 0 (c8 e.term)&&(e.val == -1||inS e.val 1 1099511627776)))=false:=hc0;rw[hh];rfl))
 ·exact zD (int 370) [.val (bool (inS e.stu 0 19999)),.val (bool (inS e.term 0 1023)),.b false,.b false,.b false,.b false,.b true,.val (int (c8 e.term)),.val (bool (inS e.obj 0 (c8 e.term))),.val (bool (inS e.val 1 1099511627776)),.b true] (.c (@aA (e.stu) 0 19999 (co e)) (.c (@aA (e.term) 0 1023 (co e)) (.c (show(4==1)=false from rfl) (.c (show(4==2)=false from rfl) (.c (show(4==3)=false from rfl) (.c (show(4==5)=false from rfl) (.c (show(4==4)=true from rfl) (.c (gd (inS e.stu 0 19999&&(Qd (e.frm≥0)&&Qd (e.frm<e.til)&&Qd (e.til≤1024))) (@pH (e.term) (co e))) (.c (gd (inS e.stu 0 19999&&(Qd (e.frm≥0)&&Qd (e.frm<e.til)&&Qd (e.til≤1024))) (@aA (e.obj) 0 (c8 e.term) (co e))) (.c (gd (inS e.stu 0 19999&&(Qd (e.frm≥0)&&Qd (e.frm<e.til)&&Qd (e.til≤1024))&&inS e.obj 0 (c8 e.term)&&!e.val == -1) (@aA (e.val) 1 1099511627776 (co e))) (.c hc0 .n))))))))))) h (by first|rfl|(have hh:(!(inS e.stu 0 19999&&aP e&&inS e.obj 0 (c8 e.term)&&(e.val == -1||inS e.val 1 1099511627776)))=true:=hc0;rw[hh];rfl)|(have hh:(!(inS e.stu 0 19999&&aP e&&inS e.obj 0 (c8 e.term)&&(e.val == -1||inS e.val 1 1099511627776)))=false:=hc0;rw[hh];rfl))
noncomputable abbrev fh(e:EntT):List Blk:=[.var [int e.time,int e.campus,int e.no,int 5,int e.stu,int e.obj,int e.term,int e.val,int e.frm,int e.til,ax e.text,int e.sec.id,int e.sec.course,int e.sec.term,int e.sec.campus,int e.sec.seats,aa (Dh DA e.sec.mts),aa (Dh Dx e.sec.grs),aa (Dh ab e.sec.labs),bool e.sec.lab,int e.req.campus,int e.req.no,int e.req.st,int e.req.kind,int e.req.time,aa (Dh Dn e.req.chs),int e.req.gsec,int e.req.glab,int e.req.key,int e.r,int e.s]]
theorem fd5_a{e:EntT}(h:List Blk):(Ev Di Γ0 47 [.agg (aQ 5 e)] h (int (iP (!(inS e.stu 0 19999&&aP e&&inS e.obj 0 7&&(e.val==1||e.val == -1))))) h):=by
 cases hc0:!(inS e.stu 0 19999&&(Qd (e.frm≥0)&&Qd (e.frm<e.til)&&Qd (e.til≤1024))&&inS e.obj 0 7&&(e.val==1||e.val == -1))
 ·exact zD (int 0) [.val (bool (inS e.stu 0 19999)),.val (bool (inS e.term 0 1023)),.b false,.b false,.b false,.b true,.val (bool (inS e.obj 0 7)),.b false] (.c (@aA (e.stu) 0 19999 (fh e)) (.c (@aA (e.term) 0 1023 (fh e)) (.c (show(5==1)=false from rfl) (.c (show(5==2)=false from rfl) (.c (show(5==3)=false from rfl) (.c (show(5==5)=true from rfl) (.c (gd (inS e.stu 0 19999&&(Qd (e.frm≥0)&&Qd (e.frm<e.til)&&Qd (e.til≤1024))) (@aA (e.obj) 0 7 (fh e))) (.c hc0 .n)))))))) h (by first|rfl|(have hh:(!(inS e.stu 0 19999&&aP e&&inS e.obj 0 7&&(e.val==1||e.val == -1)))=true:=hc0;rw[hh];rfl)|(have hh:(!(inS e.stu 0 19999&&aP e&&inS e.obj 0 7&&(e.val==1||e.val == -1)))=false:=hc0;rw[hh];rfl))
 ·exact zD (int 370) [.val (bool (inS e.stu 0 19999)),.val (bool (inS e.term 0 1023)),.b false,.b false,.b false,.b true,.val (bool (inS e.obj 0 7)),.b true] (.c (@aA (e.stu) 0 19999 (fh e)) (.c (@aA (e.term) 0 1023 (fh e)) (.c (show(5==1)=false from rfl) (.c (show(5==2)=false from rfl) (.c (show(5==3)=false from rfl) (.c (show(5==5)=true from rfl) (.c (gd (inS e.stu 0 19999&&(Qd (e.frm≥0)&&Qd (e.frm<e.til)&&Qd (e.til≤1024))) (@aA (e.obj) 0 7 (fh e))) (.c hc0 .n)))))))) h (by first|rfl|(have hh:(!(inS e.stu 0 19999&&aP e&&inS e.obj 0 7&&(e.val==1||e.val == -1)))=true:=hc0;rw[hh];rfl)|(have hh:(!(inS e.stu 0 19999&&aP e&&inS e.obj 0 7&&(e.val==1||e.val == -1)))=false:=hc0;rw[hh];rfl))
noncomputable abbrev jM(e:EntT):List Blk:=[.var [int e.time,int e.campus,int e.no,int 9,int e.stu,int e.obj,int e.term,int e.val,int e.frm,int e.til,ax e.text,int e.sec.id,int e.sec.course,int e.sec.term,int e.sec.campus,int e.sec.seats,aa (Dh DA e.sec.mts),aa (Dh Dx e.sec.grs),aa (Dh ab e.sec.labs),bool e.sec.lab,int e.req.campus,int e.req.no,int e.req.st,int e.req.kind,int e.req.time,aa (Dh Dn e.req.chs),int e.req.gsec,int e.req.glab,int e.req.key,int e.r,int e.s]]
theorem fd9_a{e:EntT}(h:List Blk):(Ev Di Γ0 47 [.agg (aQ 9 e)] h (int (iP (!(inS e.term 0 1023)))) h):=by
 cases hc0:!inS e.term 0 1023
 ·exact zD (int 0) [.val (bool (inS e.stu 0 19999)),.val (bool (inS e.term 0 1023)),.b false,.b false,.b false,.b false,.b false,.b false,.b false,.b false,.b true,.b false] (.c (@aA (e.stu) 0 19999 (jM e)) (.c (@aA (e.term) 0 1023 (jM e)) (.c (show(9==1)=false from rfl) (.c (show(9==2)=false from rfl) (.c (show(9==3)=false from rfl) (.c (show(9==5)=false from rfl) (.c (show(9==4)=false from rfl) (.c (show(9==6)=false from rfl) (.c (show(9==7)=false from rfl) (.c (show(9==8)=false from rfl) (.c (show(9==9)=true from rfl) (.c hc0 .n)))))))))))) h (by first|rfl|(have hh:(!(inS e.term 0 1023))=true:=hc0;rw[hh];rfl)|(have hh:(!(inS e.term 0 1023))=false:=hc0;rw[hh];rfl))
 ·exact zD (int 370) [.val (bool (inS e.stu 0 19999)),.val (bool (inS e.term 0 1023)),.b false,.b false,.b false,.b false,.b false,.b false,.b false,.b false,.b true,.b true] (.c (@aA (e.stu) 0 19999 (jM e)) (.c (@aA (e.term) 0 1023 (jM e)) (.c (show(9==1)=false from rfl) (.c (show(9==2)=false from rfl) (.c (show(9==3)=false from rfl) (.c (show(9==5)=false from rfl) (.c (show(9==4)=false from rfl) (.c (show(9==6)=false from rfl) (.c (show(9==7)=false from rfl) (.c (show(9==8)=false from rfl) (.c (show(9==9)=true from rfl) (.c hc0 .n)))))))))))) h (by first|rfl|(have hh:(!(inS e.term 0 1023))=true:=hc0;rw[hh];rfl)|(have hh:(!(inS e.term 0 1023))=false:=hc0;rw[hh];rfl))
noncomputable abbrev nM(e:EntT):List Blk:=[.var [int e.time,int e.campus,int e.no,int 6,int e.stu,int e.obj,int e.term,int e.val,int e.frm,int e.til,ax e.text,int e.sec.id,int e.sec.course,int e.sec.term,int e.sec.campus,int e.sec.seats,aa (Dh DA e.sec.mts),aa (Dh Dx e.sec.grs),aa (Dh ab e.sec.labs),bool e.sec.lab,int e.req.campus,int e.req.no,int e.req.st,int e.req.kind,int e.req.time,aa (Dh Dn e.req.chs),int e.req.gsec,int e.req.glab,int e.req.key,int e.r,int e.s]]
theorem fd6_a{e:EntT}{r:Int}(hr:∀h,Ev Di Γ0 79 [.agg (f8 e.sec)] h (int r) h)(h:List Blk):(Ev Di Γ0 47 [.agg (aQ 6 e)] h (int r) h):=by
 exact z0 [.val (bool (inS e.stu 0 19999)),.val (bool (inS e.term 0 1023)),.b false,.b false,.b false,.b false,.b false,.b true,.val (int r)] (.c (@aA (e.stu) 0 19999 (nM e)) (.c (@aA (e.term) 0 1023 (nM e)) (.c (show(6==1)=false from rfl) (.c (show(6==2)=false from rfl) (.c (show(6==3)=false from rfl) (.c (show(6==5)=false from rfl) (.c (show(6==4)=false from rfl) (.c (show(6==6)=true from rfl) (.c (@hr (nM e)) .n))))))))) h
noncomputable abbrev nN(e:EntT):List Blk:=[.var [int e.time,int e.campus,int e.no,int 7,int e.stu,int e.obj,int e.term,int e.val,int e.frm,int e.til,ax e.text,int e.sec.id,int e.sec.course,int e.sec.term,int e.sec.campus,int e.sec.seats,aa (Dh DA e.sec.mts),aa (Dh Dx e.sec.grs),aa (Dh ab e.sec.labs),bool e.sec.lab,int e.req.campus,int e.req.no,int e.req.st,int e.req.kind,int e.req.time,aa (Dh Dn e.req.chs),int e.req.gsec,int e.req.glab,int e.req.key,int e.r,int e.s]]
theorem fd7_a{e:EntT}{r:Int}(hr:∀h,Ev Di Γ0 80 [.agg (rqD e.req.kind e.req)] h (int r) h)(h:List Blk):(Ev Di Γ0 47 [.agg (aQ 7 e)] h (int r) h):=by
 exact z0 [.val (bool (inS e.stu 0 19999)),.val (bool (inS e.term 0 1023)),.b false,.b false,.b false,.b false,.b false,.b false,.b true,.val (int r)] (.c (@aA (e.stu) 0 19999 (nN e)) (.c (@aA (e.term) 0 1023 (nN e)) (.c (show(7==1)=false from rfl) (.c (show(7==2)=false from rfl) (.c (show(7==3)=false from rfl) (.c (show(7==5)=false from rfl) (.c (show(7==4)=false from rfl) (.c (show(7==6)=false from rfl) (.c (show(7==7)=true from rfl) (.c (@hr (nN e)) .n)))))))))) h
noncomputable abbrev jN(e:EntT):List Blk:=[.var [int e.time,int e.campus,int e.no,int 8,int e.stu,int e.obj,int e.term,int e.val,int e.frm,int e.til,ax e.text,int e.sec.id,int e.sec.course,int e.sec.term,int e.sec.campus,int e.sec.seats,aa (Dh DA e.sec.mts),aa (Dh Dx e.sec.grs),aa (Dh ab e.sec.labs),bool e.sec.lab,int e.req.campus,int e.req.no,int e.req.st,int e.req.kind,int e.req.time,aa (Dh Dn e.req.chs),int e.req.gsec,int e.req.glab,int e.req.key,int e.r,int e.s]]
theorem fd8_a{e:EntT}(h:List Blk):(Ev Di Γ0 47 [.agg (aQ 8 e)] h (int (ef ⟨e.val,e.stu,e.obj,e.term⟩)) h):=by
 exact z0 [.val (bool (inS e.stu 0 19999)),.val (bool (inS e.term 0 1023)),.b false,.b false,.b false,.b false,.b false,.b false,.b false,.b true,.val (D.agg [int e.val,int e.stu,int e.obj,int e.term]),.val (int (ef {kind:=e.val,st:=e.stu,obj:=e.obj,term:=e.term}))] (.c (@aA (e.stu) 0 19999 (jN e)) (.c (@aA (e.term) 0 1023 (jN e)) (.c (show(8==1)=false from rfl) (.c (show(8==2)=false from rfl) (.c (show(8==3)=false from rfl) (.c (show(8==5)=false from rfl) (.c (show(8==4)=false from rfl) (.c (show(8==6)=false from rfl) (.c (show(8==7)=false from rfl) (.c (show(8==8)=true from rfl) (.c (@yf ({time:=e.time,campus:=e.campus,no:=e.no,kind:=8,stu:=e.stu,obj:=e.obj,term:=e.term,val:=e.val,frm:=e.frm,til:=e.til,text:=e.text,sec:=e.sec,req:=e.req,r:=e.r,s:=e.s}) (jN e)) (.c (@vv ({kind:=e.val,st:=e.stu,obj:=e.obj,term:=e.term}) (jN e)) .n)))))))))))) h
abbrev foS(s:SecT)(all i:Int):AS:={t:=mkT 174 0 [(1,.ref (.ptr 0 0)),(3,int all),(4,int i)],h:=[.var (f8 s)],m:=[]}
abbrev foX(s:SecT):AS:={t:=mkT 174 0 [(2,bool false)],h:=[.var (f8 s)],m:=[]}
abbrev foE(s:SecT)(all:Int):AS:={t:=mkT 174 0 [(1,.ref (.ptr 0 0)),(3,int all)],h:=[.var (f8 s)],m:=[]}
def iQ(g:GrT)(b:Bool):Bool:=Qd (g.grp<0)||Qd (g.grp≥8)||b||Qd (g.seats<0)||Qd (g.seats>4096)||Qd (g.til<0)||Qd (g.til>1048576)
theorem fo0_ok{s:SecT}{g p:GrT}{all:Int}(hr:ad 0 (s.grs.map Dx) g.row 3)(hp:False→ad (Ds Dk (0 - 1)) (s.grs.map Dx) p.row 3)(hlt:Qd ((0:Int)<((s.grs.map Dx).length:Int))=true)(hb:(Qd (g.grp<0)||Qd (g.grp≥8)||(Qd ((0:Int)>0)&&Qd (p.grp≥g.grp))||Qd (g.seats<0)||Qd (g.seats>4096)||Qd (g.til<0)||Qd (g.til>1048576))=false):(CW Di Γ0 [] false (sub Fo 0) (foS s all 0) .normal (foS s (Dk.wrap (all+g.seats)) 1)):=by
 refine zX {t:=mkT 174 0 [(1,.ref (.ptr 0 0)),(3,int (Ds Dk (all+g.seats))),(4,int (Ds Dk (0+1)))],h:=[.var [int s.id,int s.course,int s.term,int s.campus,int s.seats,aa (Dh DA s.mts),aa (Dh Dx s.grs),aa (Dh ab s.labs),bool s.lab]],m:=[]} DZ [.st (.mask [1,3,4]),.st (.trim 1)] [.b true,.row [vi g.grp,vi g.seats,vi g.til],.row [vi p.grp,vi p.seats,vi p.til],.b false] (.c hlt (.c hr (.c (show(!(Qd (g.grp<0)||Qd (g.grp≥8))&&Qd (0>0))=true→ad (Ds Dk (0 - 1)) (Dh Dx s.grs) [vi p.grp,vi p.seats,vi p.til] 3 from(fun hg=>(hp (by first|exact hg|(simp at hg;done))))) (.c hb .n)))) ?_ ?_<;>(first|rfl|(rw[hw]<;>rfl))
theorem BU{s:SecT}{g p:GrT}{all:Int}(hr:ad 0 (s.grs.map Dx) g.row 3)(hp:False→ad (Ds Dk (0 - 1)) (s.grs.map Dx) p.row 3)(hlt:Qd ((0:Int)<((s.grs.map Dx).length:Int))=true)(hb:(Qd (g.grp<0)||Qd (g.grp≥8)||(Qd ((0:Int)>0)&&Qd (p.grp≥g.grp))||Qd (g.seats<0)||Qd (g.seats>4096)||Qd (g.til<0)||Qd (g.til>1048576))=true):(CW Di Γ0 [] false (sub Fo 0) (foS s all 0) .ret (foX s)):=by
 exact zx [.st (.mask [2]),.st (.trim 1)] [.b true,.row [vi g.grp,vi g.seats,vi g.til],.row [vi p.grp,vi p.seats,vi p.til],.b true] (.c hlt (.c hr (.c (show(!(Qd (g.grp<0)||Qd (g.grp≥8))&&Qd (0>0))=true→ad (Ds Dk (0 - 1)) (Dh Dx s.grs) [vi p.grp,vi p.seats,vi p.til] 3 from(fun hg=>(hp (by first|exact hg|(simp at hg;done))))) (.c hb .n))))
theorem foN_ok{s:SecT}{g p:GrT}{all:Int}{i:Nat}(hr:ad (i:Int) (s.grs.map Dx) g.row 3)(hp:ad (Ds Dk ((i:Int) - 1)) (s.grs.map Dx) p.row 3)(hlt:Qd ((i:Int)<((s.grs.map Dx).length:Int))=true)(hw:Dk.wrap ((i:Int)+1)=((i+1:Nat):Int))(hb:(Qd (g.grp<0)||Qd (g.grp≥8)||(Qd ((i:Int)>0)&&Qd (p.grp≥g.grp))||Qd (g.seats<0)||Qd (g.seats>4096)||Qd (g.til<0)||Qd (g.til>1048576))=false):(CW Di Γ0 [] false (sub Fo 0) (foS s all (i:Int)) .normal (foS s (Dk.wrap (all+g.seats)) ((i+1:Nat):Int))):=by
 refine zX {t:=mkT 174 0 [(1,.ref (.ptr 0 0)),(3,int (Ds Dk (all+g.seats))),(4,int (Ds Dk ((↑i:Int)+1)))],h:=[.var [int s.id,int s.course,int s.term,int s.campus,int s.seats,aa (Dh DA s.mts),aa (Dh Dx s.grs),aa (Dh ab s.labs),bool s.lab]],m:=[]} DZ [.st (.mask [1,3,4]),.st (.trim 1)] [.b true,.row [vi g.grp,vi g.seats,vi g.til],.row [vi p.grp,vi p.seats,vi p.til],.b false] (.c hlt (.c hr (.c (show(!(Qd (g.grp<0)||Qd (g.grp≥8))&&Qd ((↑i:Int)>0))=true→ad (Ds Dk ((↑i:Int) - 1)) (Dh Dx s.grs) [vi p.grp,vi p.seats,vi p.til] 3 from(fun hg=>hp)) (.c hb .n)))) ?_ ?_<;>(first|rfl|(rw[hw]<;>rfl))
theorem BW{s:SecT}{g p:GrT}{all:Int}{i:Nat}(hr:ad (i:Int) (s.grs.map Dx) g.row 3)(hp:ad (Ds Dk ((i:Int) - 1)) (s.grs.map Dx) p.row 3)(hlt:Qd ((i:Int)<((s.grs.map Dx).length:Int))=true)(hb:(Qd (g.grp<0)||Qd (g.grp≥8)||(Qd ((i:Int)>0)&&Qd (p.grp≥g.grp))||Qd (g.seats<0)||Qd (g.seats>4096)||Qd (g.til<0)||Qd (g.til>1048576))=true):(CW Di Γ0 [] false (sub Fo 0) (foS s all (i:Int)) .ret (foX s)):=by
 exact zx [.st (.mask [2]),.st (.trim 1)] [.b true,.row [vi g.grp,vi g.seats,vi g.til],.row [vi p.grp,vi p.seats,vi p.til],.b true] (.c hlt (.c hr (.c (show(!(Qd (g.grp<0)||Qd (g.grp≥8))&&Qd ((↑i:Int)>0))=true→ad (Ds Dk ((↑i:Int) - 1)) (Dh Dx s.grs) [vi p.grp,vi p.seats,vi p.til] 3 from(fun hg=>hp)) (.c hb .n))))
theorem BX{s:SecT}{all:Int}{i:Nat}(hlt:Qd ((i:Int)<((s.grs.map Dx).length:Int))=false):(CW Di Γ0 [] false (sub Fo 0) (foS s all i) (.exit 0) (foE s all)):=by
 exact zx [.st (.mask [1,3])] [.b false] (.c hlt .n)
abbrev vZ(s:SecT)(all i:Int):AS:={t:=mkT 174 0 [(1,.ref (.ptr 0 0)),(3,int all),(6,int i)],h:=[.var (f8 s)],m:=[]}
theorem fb0_ok{s:SecT}{n q all:Int}(hr:ad 0 (s.labs.map ab) [vi n] 1)(hp:False→ad (Ds Dk (0 - 1)) (s.labs.map ab) [vi q] 1)(hlt:Qd ((0:Int)<((s.labs.map ab).length:Int))=true)(hb:(Qd (n<0)||Qd (n≥4000)||(Qd ((0:Int)>0)&&Qd (q≥n)))=false):(CW Di Γ0 [] false (sub Fo 1) (vZ s all 0) .normal (vZ s all 1)):=by
 refine zX {t:=mkT 174 0 [(1,.ref (.ptr 0 0)),(3,int all),(6,int (Ds Dk (0+1)))],h:=[.var [int s.id,int s.course,int s.term,int s.campus,int s.seats,aa (Dh DA s.mts),aa (Dh Dx s.grs),aa (Dh ab s.labs),bool s.lab]],m:=[]} DZ [.st (.mask [1,3,6]),.st (.trim 1)] [.b true,.row [vi n],.row [vi n],.row [vi q],.row [vi n],.b false] (.c hlt (.c hr (.c (show(!Qd (n<0))=true→ad 0 (Dh ab s.labs) [vi n] 1 from(fun hg=>hr)) (.c (show(!(Qd (n<0)||Qd (n≥4000))&&Qd (0>0))=true→ad (Ds Dk (0 - 1)) (Dh ab s.labs) [vi q] 1 from(fun hg=>(hp (by first|exact hg|(simp at hg;done))))) (.c (show(!(Qd (n<0)||Qd (n≥4000))&&Qd (0>0))=true→ad 0 (Dh ab s.labs) [vi n] 1 from(fun hg=>hr)) (.c hb .n)))))) ?_ ?_<;>(first|rfl|(rw[hw]<;>rfl))
theorem BZ{s:SecT}{n q all:Int}(hr:ad 0 (s.labs.map ab) [vi n] 1)(hp:False→ad (Ds Dk (0 - 1)) (s.labs.map ab) [vi q] 1)(hlt:Qd ((0:Int)<((s.labs.map ab).length:Int))=true)(hb:(Qd (n<0)||Qd (n≥4000)||(Qd ((0:Int)>0)&&Qd (q≥n)))=true):(CW Di Γ0 [] false (sub Fo 1) (vZ s all 0) .ret (foX s)):=by
 exact zx [.st (.mask [2]),.st (.trim 1)] [.b true,.row [vi n],.row [vi n],.row [vi q],.row [vi n],.b true] (.c hlt (.c hr (.c (show(!Qd (n<0))=true→ad 0 (Dh ab s.labs) [vi n] 1 from(fun hg=>hr)) (.c (show(!(Qd (n<0)||Qd (n≥4000))&&Qd (0>0))=true→ad (Ds Dk (0 - 1)) (Dh ab s.labs) [vi q] 1 from(fun hg=>(hp (by first|exact hg|(simp at hg;done))))) (.c (show(!(Qd (n<0)||Qd (n≥4000))&&Qd (0>0))=true→ad 0 (Dh ab s.labs) [vi n] 1 from(fun hg=>hr)) (.c hb .n))))))
theorem fbN_ok{s:SecT}{n q all:Int}{i:Nat}(hr:ad (i:Int) (s.labs.map ab) [vi n] 1)(hp:ad (Ds Dk ((i:Int) - 1)) (s.labs.map ab) [vi q] 1)(hlt:Qd ((i:Int)<((s.labs.map ab).length:Int))=true)(hw:Dk.wrap ((i:Int)+1)=((i+1:Nat):Int))(hb:(Qd (n<0)||Qd (n≥4000)||(Qd ((i:Int)>0)&&Qd (q≥n)))=false):(CW Di Γ0 [] false (sub Fo 1) (vZ s all (i:Int)) .normal (vZ s all ((i+1:Nat):Int))):=by
 refine zX {t:=mkT 174 0 [(1,.ref (.ptr 0 0)),(3,int all),(6,int (Ds Dk ((↑i:Int)+1)))],h:=[.var [int s.id,int s.course,int s.term,int s.campus,int s.seats,aa (Dh DA s.mts),aa (Dh Dx s.grs),aa (Dh ab s.labs),bool s.lab]],m:=[]} DZ [.st (.mask [1,3,6]),.st (.trim 1)] [.b true,.row [vi n],.row [vi n],.row [vi q],.row [vi n],.b false] (.c hlt (.c hr (.c (show(!Qd (n<0))=true→ad (↑i:Int) (Dh ab s.labs) [vi n] 1 from(fun hg=>hr)) (.c (show(!(Qd (n<0)||Qd (n≥4000))&&Qd ((↑i:Int)>0))=true→ad (Ds Dk ((↑i:Int) - 1)) (Dh ab s.labs) [vi q] 1 from(fun hg=>hp)) (.c (show(!(Qd (n<0)||Qd (n≥4000))&&Qd ((↑i:Int)>0))=true→ad (↑i:Int) (Dh ab s.labs) [vi n] 1 from(fun hg=>hr)) (.c hb .n)))))) ?_ ?_<;>(first|rfl|(rw[hw]<;>rfl))
theorem B1{s:SecT}{n q all:Int}{i:Nat}(hr:ad (i:Int) (s.labs.map ab) [vi n] 1)(hp:ad (Ds Dk ((i:Int) - 1)) (s.labs.map ab) [vi q] 1)(hlt:Qd ((i:Int)<((s.labs.map ab).length:Int))=true)(hb:(Qd (n<0)||Qd (n≥4000)||(Qd ((i:Int)>0)&&Qd (q≥n)))=true):(CW Di Γ0 [] false (sub Fo 1) (vZ s all (i:Int)) .ret (foX s)):=by
 exact zx [.st (.mask [2]),.st (.trim 1)] [.b true,.row [vi n],.row [vi n],.row [vi q],.row [vi n],.b true] (.c hlt (.c hr (.c (show(!Qd (n<0))=true→ad (↑i:Int) (Dh ab s.labs) [vi n] 1 from(fun hg=>hr)) (.c (show(!(Qd (n<0)||Qd (n≥4000))&&Qd ((↑i:Int)>0))=true→ad (Ds Dk ((↑i:Int) - 1)) (Dh ab s.labs) [vi q] 1 from(fun hg=>hp)) (.c (show(!(Qd (n<0)||Qd (n≥4000))&&Qd ((↑i:Int)>0))=true→ad (↑i:Int) (Dh ab s.labs) [vi n] 1 from(fun hg=>hr)) (.c hb .n))))))
theorem B2{s:SecT}{all:Int}{i:Nat}(hlt:Qd ((i:Int)<((s.labs.map ab).length:Int))=false):(CW Di Γ0 [] false (sub Fo 1) (vZ s all i) (.exit 2) (foE s all)):=by
 exact zx [.st (.mask [1,3])] [.b false] (.c hlt .n)
def kY(g:GrT)(o:Option GrT):Bool:=match o with
 | none=>false
 | some p=>Qd (p.grp≥g.grp)
def foF(g:GrT)(a:Int×Option GrT):(Int×Option GrT)⊕Unit:=match iQ g (kY g a.2) with
 | true=>.inr ()
 | false=>.inl (Dk.wrap (a.1+g.seats),some g)
def kZ(n:Int)(o:Option Int):Bool:=match o with
 | none=>false
 | some p=>Qd (p≥n)
def iR(n:Int)(b:Bool):Bool:=Qd (n<0)||Qd (n≥4000)||b
def fbF(n:Int)(a:Option Int):Option Int⊕Unit:=match iR n (kZ n a) with
 | true=>.inr ()
 | false=>.inl (some n)
structure PvInv {α:Type} (l:List α) (j:Nat) (o:Option α):Prop where
 z:j=0→o=none
 p:∀i,j=i+1→∃e,l[i]? = some e∧o=some e
theorem PvInv.next{α:Type}{l:List α}{j:Nat}{e:α}(h:l[j]? = some e):PvInv l (j+1) (some e):=⟨fun h=>by omega,fun i hi=>⟨e,by rw[←show j=i by omega];exact h,rfl⟩⟩
theorem pI{i n:Nat}(h:i<n)(hn:n≤140737488355328):Ds Dk (((i+1:Nat):Int) - 1)=(i:Int):=by
 rw[wrap_i64 (by omega) (by omega)];omega
theorem B3{s:SecT}(hs:ai s.grs):CW Di Γ0 [] false (.loop (sub Fo 0)) (foS s 0 0) (af (.exit 0) (fun a:Int×Option GrT=>foE s a.1) (fun _:Unit=>(.ret,foX s)) (forL foF s.grs (0,none))).1 (af (.exit 0) (fun a:Int×Option GrT=>foE s a.1) (fun _:Unit=>(.ret,foX s)) (forL foF s.grs (0,none))).2:=by
 refine FZ s.grs foF (fun j a=>foS s a.1 (j:Int)) (.exit 0) _ _ (fun j a=>PvInv s.grs j a.2) (by simp) (fun _=>by simp) ?_ ?_ (0,none) ⟨fun _=>rfl,fun i h=>by omega⟩
 ·intro j g a hj I
  have hlt:=(Dq.1 hj).1
  have hr:=rowAt (row:=Dx) (sz:=3) hj rfl
  have hlt2:=lt_len Dx hlt
  refine⟨fun a' ha=>?_,?_⟩
  ·unfold foF at ha
   split at ha
   ·cases ha
   ·cases ha;exact PvInv.next hj
  ·cases j with
   | zero =>
    have h2:=I.z rfl
    have hB:iQ g (kY g a.2)=iQ g (Qd ((0:Int)>0)&&Qd (g.grp≥g.grp)):=by rw[h2];rfl
    unfold foF
    rw[hB]
    cases hb:iQ g (Qd ((0:Int)>0)&&Qd (g.grp≥g.grp)) with
    | true=>exact BU (p:=g) hr (fun h=>h.elim) hlt2 hb
    | false=>exact fo0_ok (p:=g) hr (fun h=>h.elim) hlt2 hb
   | succ i =>
    obtain⟨p,hp,hp2⟩:=I.p i rfl
    have hlp:=(Dq.1 hp).1
    have hrp:ad (Ds Dk (((i+1:Nat):Int) - 1)) (s.grs.map Dx) p.row 3:=by
     rw[pI hlp hs]
     exact rowAt (row:=Dx) (sz:=3) hp rfl
    have hi:Qd (((i+1:Nat):Int)>0)=true:=by simp only[decide_eq_true_eq];omega
    have hB:iQ g (kY g a.2)=iQ g (Qd (((i+1:Nat):Int)>0)&&Qd (p.grp≥g.grp)):=by rw[hp2,hi];rfl
    unfold foF
    rw[hB]
    cases hb:iQ g (Qd (((i+1:Nat):Int)>0)&&Qd (p.grp≥g.grp)) with
    | true=>exact BW hr hrp hlt2 hb
    | false=>exact foN_ok hr hrp hlt2 (wrap_succ hlt hs) hb
 ·intro a _
  exact BX (aY Dx s.grs)
theorem B4{s:SecT}{all:Int}(hs:ai s.labs):CW Di Γ0 [] false (.loop (sub Fo 1)) (vZ s all 0) (af (.exit 2) (fun _:Option Int=>foE s all) (fun _:Unit=>(.ret,foX s)) (forL fbF s.labs none)).1 (af (.exit 2) (fun _:Option Int=>foE s all) (fun _:Unit=>(.ret,foX s)) (forL fbF s.labs none)).2:=by
 refine FZ s.labs fbF (fun j _=>vZ s all (j:Int)) (.exit 2) _ _ (fun j a=>PvInv s.labs j a) (by simp) (fun _=>by simp) ?_ ?_ none ⟨fun _=>rfl,fun i h=>by omega⟩
 ·intro j n a hj I
  have hlt:=(Dq.1 hj).1
  have hr:=rowAt (row:=ab) (sz:=1) hj rfl
  have hlt2:=lt_len ab hlt
  refine⟨fun a' ha=>?_,?_⟩
  ·unfold fbF at ha
   split at ha
   ·cases ha
   ·cases ha;exact PvInv.next hj
  ·cases j with
   | zero =>
    have h2:=I.z rfl
    have hB:iR n (kZ n a)=iR n (Qd ((0:Int)>0)&&Qd (n≥n)):=by rw[h2];rfl
    unfold fbF
    rw[hB]
    cases hb:iR n (Qd ((0:Int)>0)&&Qd (n≥n)) with
    | true=>exact BZ (q:=n) hr (fun h=>h.elim) hlt2 hb
    | false=>exact fb0_ok (q:=n) hr (fun h=>h.elim) hlt2 hb
   | succ i =>
    obtain⟨p,hp,hp2⟩:=I.p i rfl
    have hlp:=(Dq.1 hp).1
    have hrp:ad (Ds Dk (((i+1:Nat):Int) - 1)) (s.labs.map ab) [vi p] 1:=by
     rw[pI hlp hs]
     exact rowAt (row:=ab) (sz:=1) hp rfl
    have hi:Qd (((i+1:Nat):Int)>0)=true:=by simp only[decide_eq_true_eq];omega
    have hB:iR n (kZ n a)=iR n (Qd (((i+1:Nat):Int)>0)&&Qd (p≥n)):=by rw[hp2,hi];rfl
    unfold fbF
    rw[hB]
    cases hb:iR n (Qd (((i+1:Nat):Int)>0)&&Qd (p≥n)) with
    | true=>exact B1 hr hrp hlt2 hb
    | false=>exact fbN_ok hr hrp hlt2 (wrap_succ hlt hs) hb
 ·intro a _
  exact B2 (aY ab s.labs)
theorem fq_hd{s:SecT}(hh:(Qd (s.id<0)||Qd (s.id≥4000)||Qd (s.course<0)||Qd (s.course≥4096)||Qd (s.term<0)||Qd (s.term≥1024)||Qd (s.campus<0)||Qd (s.campus≥7)||Qd (s.seats<0)||Qd (s.seats>4096)||Qd (((s.grs.map Dx).length:Int)>8)||s.lab&&Qd (((s.labs.map ab).length:Int)>0))=true)(h:List Blk):(Ev Di Γ0 99 [.agg (f8 s)] h (bool false) h):=by
 exact z0 [.b true] (.c hh .n) h
theorem fq_g{s:SecT}(hh:(Qd (s.id<0)||Qd (s.id≥4000)||Qd (s.course<0)||Qd (s.course≥4096)||Qd (s.term<0)||Qd (s.term≥1024)||Qd (s.campus<0)||Qd (s.campus≥7)||Qd (s.seats<0)||Qd (s.seats>4096)||Qd (((s.grs.map Dx).length:Int)>8)||s.lab&&Qd (((s.labs.map ab).length:Int)>0))=false)(h1:CW Di Γ0 [] false (.loop (sub Fo 0)) (foS s 0 0) .ret (foX s))(h:List Blk):(Ev Di Γ0 99 [.agg (f8 s)] h (bool false) h):=by
 have hl0:=(@h1)
 exact z0 [.b false,.sum [1,3,4] (Ee) {t:=mkT 174 0 [(2,bool false)],h:=[.var [int s.id,int s.course,int s.term,int s.campus,int s.seats,aa (Dh DA s.mts),aa (Dh Dx s.grs),aa (Dh ab s.labs),bool s.lab]],m:=[]}] (.c hh (.c hl0 .n)) h
theorem fq_l{s:SecT}{all:Int}(hh:(Qd (s.id<0)||Qd (s.id≥4000)||Qd (s.course<0)||Qd (s.course≥4096)||Qd (s.term<0)||Qd (s.term≥1024)||Qd (s.campus<0)||Qd (s.campus≥7)||Qd (s.seats<0)||Qd (s.seats>4096)||Qd (((s.grs.map Dx).length:Int)>8)||s.lab&&Qd (((s.labs.map ab).length:Int)>0))=false)(h1:CW Di Γ0 [] false (.loop (sub Fo 0)) (foS s 0 0) (.exit 0) (foE s all))(h2:CW Di Γ0 [] false (.loop (sub Fo 1)) (vZ s all 0) .ret (foX s))(h:List Blk):(Ev Di Γ0 99 [.agg (f8 s)] h (bool false) h):=by
 have hl0:=(@h1)
 have hl1:=(@h2)
 let v0:List Blk:=[.var [int s.id,int s.course,int s.term,int s.campus,int s.seats,aa (Dh DA s.mts),aa (Dh Dx s.grs),aa (Dh ab s.labs),bool s.lab]]
 exact z0 [.b false,.sum [1,3,4] (DV 0) {t:=mkT 174 0 [(1,.ref (.ptr 0 0)),(3,int all)],h:=v0,m:=[]},.sum [1,3,6] (Ee) {t:=mkT 174 0 [(2,bool false)],h:=v0,m:=[]}] (.c hh (.c hl0 (.c hl1 .n))) h
theorem fq_e{s:SecT}{all:Int}(hh:(Qd (s.id<0)||Qd (s.id≥4000)||Qd (s.course<0)||Qd (s.course≥4096)||Qd (s.term<0)||Qd (s.term≥1024)||Qd (s.campus<0)||Qd (s.campus≥7)||Qd (s.seats<0)||Qd (s.seats>4096)||Qd (((s.grs.map Dx).length:Int)>8)||s.lab&&Qd (((s.labs.map ab).length:Int)>0))=false)(h1:CW Di Γ0 [] false (.loop (sub Fo 0)) (foS s 0 0) (.exit 0) (foE s all))(h2:CW Di Γ0 [] false (.loop (sub Fo 1)) (vZ s all 0) (.exit 2) (foE s all))(h:List Blk):(Ev Di Γ0 99 [.agg (f8 s)] h (bool (Qd (all≤s.seats))) h):=by
 have hl0:=(@h1)
 have hl1:=(@h2)
 let v0:List Blk:=[.var [int s.id,int s.course,int s.term,int s.campus,int s.seats,aa (Dh DA s.mts),aa (Dh Dx s.grs),aa (Dh ab s.labs),bool s.lab]]
 exact z0 [.b false,.sum [1,3,4] (DV 0) {t:=mkT 174 0 [(1,.ref (.ptr 0 0)),(3,int all)],h:=v0,m:=[]},.sum [1,3,6] (DV 2) {t:=mkT 174 0 [(1,.ref (.ptr 0 0)),(3,int all)],h:=v0,m:=[]}] (.c hh (.c hl0 (.c hl1 .n))) h
def secHd23(s:SecT):Bool:=Qd (s.id<0)||Qd (s.id≥4000)||Qd (s.course<0)||Qd (s.course≥4096)||Qd (s.term<0)||Qd (s.term≥1024)||Qd (s.campus<0)||Qd (s.campus≥7)||Qd (s.seats<0)||Qd (s.seats>4096)||Qd (((s.grs.map Dx).length:Int)>8)||s.lab&&Qd (((s.labs.map ab).length:Int)>0)
def secB23(s:SecT):Bool:=match secHd23 s with
 | true=>false
 | false=>match forL foF s.grs (0,none) with
  | .inr _=>false
  | .inl a=>match forL fbF s.labs none with
   | .inr _=>false
   | .inl _=>Qd (a.1≤s.seats)
theorem pJ{s:SecT}(hgr:ai s.grs)(hi:ai s.labs)(h:List Blk):Ev Di Γ0 99 [.agg (f8 s)] h (bool (secB23 s)) h:=by
 unfold secB23
 cases hh:secHd23 s with
 | true=>exact fq_hd hh h
 | false =>
  have h1:=B3 hgr
  simp only
  cases hf:forL foF s.grs (0,none) with
  | inr u=>rw[hf] at h1;exact fq_g hh h1 h
  | inl a =>
   rw[hf] at h1
   have h2:=B4 (all:=a.1) hi
   simp only
   cases hg2:forL fbF s.labs none with
   | inr u=>rw[hg2] at h2;exact fq_l hh h1 h2 h
   | inl b=>rw[hg2] at h2;exact fq_e hh h1 h2 h
def dk(s:SecT):Int:=match secB23 s with
 | false=>230
 | true=>fV s.mts
noncomputable abbrev cA(s:SecT):List Blk:=[.var [int s.id,int s.course,int s.term,int s.campus,int s.seats,aa (Dh DA s.mts),aa (Dh Dx s.grs),aa (Dh ab s.labs),bool s.lab]]
theorem nO{s:SecT}(hgr:ai s.grs)(hi:ai s.labs)(h:List Blk):(Ev Di Γ0 79 [.agg (f8 s)] h (int (dk s)) h):=by
 cases hc0:!secB23 s
 ·exact zD (int (fV s.mts)) [.val (bool (secB23 s)),.b false,.val (int (fV s.mts))] (.c (@pJ s hgr hi (cA s)) (.c hc0 (.c (@vo (s.mts) (cA s)) .n))) h (by first|rfl|(have hh:secB23 s=true:=(by first|exact hc0|simpa using hc0);simp only[dk,hh];first|done|rfl)|(have hh:secB23 s=false:=(by first|exact hc0|simpa using hc0);simp only[dk,hh];first|done|rfl))
 ·exact zD (int 230) [.val (bool (secB23 s)),.b true] (.c (@pJ s hgr hi (cA s)) (.c hc0 .n)) h (by first|rfl|(have hh:secB23 s=true:=(by first|exact hc0|simpa using hc0);simp only[dk,hh];first|done|rfl)|(have hh:secB23 s=false:=(by first|exact hc0|simpa using hc0);simp only[dk,hh];first|done|rfl))
theorem nP{b:BuT}(h:List Blk):(Ev Di Γ0 109 [ag b.row] h (bool (buB b)) h):=by
 exact z0 [] .n h
abbrev vaS(k:Int)(r:RqT)(i:Int):AS:={t:=mkT 171 0 [(1,.ref (.ptr 0 0)),(3,int i)],h:=[.var (rqD k r)],m:=[]}
abbrev vaX(k:Int)(r:RqT):AS:={t:=mkT 171 0 [(2,bool false)],h:=[.var (rqD k r)],m:=[]}
abbrev vaE(k:Int)(r:RqT):AS:={t:=mkT 171 0 [(1,.ref (.ptr 0 0))],h:=[.var (rqD k r)],m:=[]}
noncomputable abbrev sB(k:Int)(r:RqT):List Blk:=[.var [int r.campus,int r.no,int r.st,int k,int r.time,aa (Dh Dn r.chs),int r.gsec,int r.glab,int r.key]]
theorem va_ok{k:Int}{r:RqT}{c:BuT}{i:Nat}(hr:ad (i:Int) (r.chs.map Dn) c.row 2)(hlt:Qd ((i:Int)<((r.chs.map Dn).length:Int))=true)(hw:Dk.wrap ((i:Int)+1)=((i+1:Nat):Int))(hf:(!buB c)=false):(CW Di Γ0 [] false (sub Em 0) (vaS k r i) .normal (vaS k r ((i+1:Nat):Int))):=by
 refine zX {t:=mkT 171 0 [(1,.ref (.ptr 0 0)),(3,int (Ds Dk ((↑i:Int)+1)))],h:=(sB k r),m:=[]} DZ [.st (.mask [1,3]),.st (.trim 1)] [.b true,.row [vi c.sec,vi c.lab],.val (bool (buB c)),.b false] (.c hlt (.c hr (.c (@nP c (sB k r)) (.c hf .n)))) ?_ ?_<;>(first|rfl|(rw[hw]<;>rfl))
noncomputable abbrev wa(k:Int)(r:RqT):List Blk:=[.var [int r.campus,int r.no,int r.st,int k,int r.time,aa (Dh Dn r.chs),int r.gsec,int r.glab,int r.key]]
theorem va_bad{k:Int}{r:RqT}{c:BuT}{i:Nat}(hr:ad (i:Int) (r.chs.map Dn) c.row 2)(hlt:Qd ((i:Int)<((r.chs.map Dn).length:Int))=true)(hf:(!buB c)=true):(CW Di Γ0 [] false (sub Em 0) (vaS k r i) .ret (vaX k r)):=by
 exact zx [.st (.mask [2]),.st (.trim 1)] [.b true,.row [vi c.sec,vi c.lab],.val (bool (buB c)),.b true] (.c hlt (.c hr (.c (@nP c (wa k r)) (.c hf .n))))
theorem B5{k:Int}{r:RqT}{i:Nat}(hlt:Qd ((i:Int)<((r.chs.map Dn).length:Int))=false):(CW Di Γ0 [] false (sub Em 0) (vaS k r i) (.exit 0) (vaE k r)):=by
 exact zx [.st (.mask [1])] [.b false] (.c hlt .n)
abbrev vcS(k:Int)(r:RqT)(z:Bool)(i j:Int):AS:={t:=mkT 171 0 [(1,.ref (.ptr 0 0)),(4,bool z),(5,int i),(6,int j)],h:=[.var (rqD k r)],m:=[]}
abbrev vcE(k:Int)(r:RqT)(z:Bool)(i:Int):AS:={t:=mkT 171 0 [(1,.ref (.ptr 0 0)),(4,bool z),(5,int i)],h:=[.var (rqD k r)],m:=[]}
theorem vc_ne{k:Int}{r:RqT}{z:Bool}{x y:BuT}{i j:Nat}(hr:ad (j:Int) (r.chs.map Dn) y.row 2)(hr2:ad (i:Int) (r.chs.map Dn) x.row 2)(hlt:Qd ((j:Int)<(i:Int))=true)(hw:Dk.wrap ((j:Int)+1)=((j+1:Nat):Int))(he:(y.sec==x.sec&&(y.lab==x.lab&&true))=false):(CW Di Γ0 [] false (sub Em 2) (vcS k r z i j) .normal (vcS k r z i ((j+1:Nat):Int))):=by
 refine zX {t:=mkT 171 0 [(1,.ref (.ptr 0 0)),(4,bool z),(5,int (↑i:Int)),(6,int (Ds Dk ((↑j:Int)+1)))],h:=[.var [int r.campus,int r.no,int r.st,int k,int r.time,aa (Dh Dn r.chs),int r.gsec,int r.glab,int r.key]],m:=[]} DZ [.st (.mask [1,4,5,6]),.st (.trim 1)] [.b true,.row [vi y.sec,vi y.lab],.row [vi x.sec,vi x.lab],.b false] (.c hlt (.c hr (.c hr2 (.c he .n)))) ?_ ?_<;>(first|rfl|(rw[hw]<;>rfl))
theorem vc_eq{k:Int}{r:RqT}{z:Bool}{x y:BuT}{i j:Nat}(hr:ad (j:Int) (r.chs.map Dn) y.row 2)(hr2:ad (i:Int) (r.chs.map Dn) x.row 2)(hlt:Qd ((j:Int)<(i:Int))=true)(he:(y.sec==x.sec&&(y.lab==x.lab&&true))=true):(CW Di Γ0 [] false (sub Em 2) (vcS k r z i j) .ret (vaX k r)):=by
 exact zx [.st (.mask [2]),.st (.trim 1)] [.b true,.row [vi y.sec,vi y.lab],.row [vi x.sec,vi x.lab],.b true] (.c hlt (.c hr (.c hr2 (.c he .n))))
theorem B6{k:Int}{r:RqT}{z:Bool}{i j:Nat}(hlt:Qd ((j:Int)<(i:Int))=false):(CW Di Γ0 [] false (sub Em 2) (vcS k r z i j) (.exit 5) (vcE k r z i)):=by
 exact zx [.st (.mask [1,4,5])] [.b false] (.c hlt .n)
theorem vd_n{k:Int}{r:RqT}{z:Bool}{i:Nat}(hlt:Qd ((i:Int)<((r.chs.map Dn).length:Int))=true)(hw:Dk.wrap ((i:Int)+1)=((i+1:Nat):Int))(h5:CW Di Γ0 [] false (.loop (sub Em 2)) (vcS k r z i 0) (.exit 5) (vcE k r z i)):(CW Di Γ0 [] false (sub Em 1) (vcE k r z i) .normal (vcE k r z ((i+1:Nat):Int))):=by
 have hl0:=(@h5)
 let v0:List Blk:=[.var [int r.campus,int r.no,int r.st,int k,int r.time,aa (Dh Dn r.chs),int r.gsec,int r.glab,int r.key]]
 refine zX {t:=mkT 171 0 [(1,.ref (.ptr 0 0)),(4,bool z),(5,int (Ds Dk ((↑i:Int)+1)))],h:=v0,m:=[]} DZ [.st (.mask [1,4,5]),.st (.trim 1)] [.b true,.sum [1,4,5,6] (DV 5) {t:=mkT 171 0 [(1,.ref (.ptr 0 0)),(4,bool z),(5,int (↑i:Int))],h:=v0,m:=[]}] (.c hlt (.c hl0 .n)) ?_ ?_<;>subst v0<;>(first|rfl|(rw[hw]<;>rfl))
theorem vd_r{k:Int}{r:RqT}{z:Bool}{i:Nat}(hlt:Qd ((i:Int)<((r.chs.map Dn).length:Int))=true)(h5:CW Di Γ0 [] false (.loop (sub Em 2)) (vcS k r z i 0) .ret (vaX k r)):(CW Di Γ0 [] false (sub Em 1) (vcE k r z i) .ret (vaX k r)):=by
 have hl0:=(@h5)
 let v0:List Blk:=[.var [int r.campus,int r.no,int r.st,int k,int r.time,aa (Dh Dn r.chs),int r.gsec,int r.glab,int r.key]]
 exact zx [.st (.mask [2]),.st (.trim 1)] [.b true,.sum [1,4,5,6] (Ee) {t:=mkT 171 0 [(2,bool false)],h:=v0,m:=[]}] (.c hlt (.c hl0 .n))
theorem B7{k:Int}{r:RqT}{z:Bool}{i:Nat}(hlt:Qd ((i:Int)<((r.chs.map Dn).length:Int))=false):(CW Di Γ0 [] false (sub Em 1) (vcE k r z i) (.exit 3) {t:=mkT 171 0 [(1,.ref (.ptr 0 0)),(4,bool z)],h:=[.var (rqD k r)],m:=[]}):=by
 exact zx [.st (.mask [1,4])] [.b false] (.c hlt .n)
def vcF(x y:BuT)(_:Unit):Unit⊕Unit:=match lD y x with
 | true=>.inr ()
 | false=>.inl ()
theorem B8{k:Int}{r:RqT}{z:Bool}{i:Nat}{x:BuT}(hs:ai r.chs)(hx:r.chs[i]? = some x):CW Di Γ0 [] false (.loop (sub Em 2)) (vcS k r z i 0) (af (.exit 5) (fun _:Unit=>vcE k r z i) (fun _:Unit=>(.ret,vaX k r)) (forL (vcF x) (r.chs.take i) ())).1 (af (.exit 5) (fun _:Unit=>vcE k r z i) (fun _:Unit=>(.ret,vaX k r)) (forL (vcF x) (r.chs.take i) ())).2:=by
 have hi:=(Dq.1 hx).1
 have hlen:(r.chs.take i).length=i:=by simp;omega
 refine FZ (r.chs.take i) (vcF x) (fun j _=>vcS k r z i (j:Int)) (.exit 5) _ _ (fun _ _=>True) (by simp) (fun _=>by simp) ?_ ?_ () trivial
 ·intro j y a hj _
  have hlt:=(Dq.1 hj).1
  rw[hlen] at hlt
  have hj2:r.chs[j]? = some y:=by rw[List.getElem?_take] at hj;split at hj<;>simp_all
  have hr:=rowAt (row:=Dn) (sz:=2) hj2 rfl
  have hr2:=rowAt (row:=Dn) (sz:=2) hx rfl
  have hl2:Qd ((j:Int)<(i:Int))=true:=by simp only[decide_eq_true_eq];omega
  refine⟨fun _ _=>trivial,?_⟩
  unfold vcF
  cases hb:lD y x with
  | true=>exact vc_eq hr hr2 hl2 hb
  | false=>exact vc_ne hr hr2 hl2 (wrap_succ (n:=r.chs.length) (by omega) hs) hb
 ·intro a _
  exact B6 (by rw[hlen];simp)
theorem wb:∀{l:List BuT} {x:BuT},forL (vcF x) l ()=(match l.any (fun y=>lD y x) with|true=>.inr ()|false=>.inl ())
 | [],_=>rfl
 | y::l,x=>by
  unfold forL
  rw[List.any_cons]
  cases hb:lD y x with
  | true=>simp only[vcF,hb];rfl
  | false=>simp only[vcF,hb,Bool.false_or];exact wb
def dupB(pre:List BuT):List BuT→Bool
 | []=>false
 | c::l=>pre.any (fun y=>lD y c)||dupB (pre++[c]) l
theorem B9{k:Int}{r:RqT}{z:Bool}(hs:ai r.chs):(dupB [] r.chs=true→CW Di Γ0 [] false (.loop (sub Em 1)) (vcE k r z 0) .ret (vaX k r))∧(dupB [] r.chs=false→CW Di Γ0 [] false (.loop (sub Em 1)) (vcE k r z 0) (.exit 3) {t:=mkT 171 0 [(1,.ref (.ptr 0 0)),(4,bool z)],h:=[.var (rqD k r)],m:=[]}):=by
 have key:CW Di Γ0 [] false (.loop (sub Em 1)) (vcE k r z ((0:Nat):Int)) (match dupB [] r.chs with|true=>Ee|false=>.exit 3) (match dupB [] r.chs with|true=>vaX k r|false=>{t:=mkT 171 0 [(1,.ref (.ptr 0 0)),(4,bool z)],h:=[.var (rqD k r)],m:=[]}):=by
  refine CW.loop (ι:={i:Nat // i≤r.chs.length∧dupB [] r.chs=dupB (r.chs.take i) (r.chs.drop i)}) (fun p=>vcE k r z (p.1:Int)) (fun _=>(match dupB [] r.chs with|true=>Ee|false=>.exit 3,match dupB [] r.chs with|true=>vaX k r|false=>{t:=mkT 171 0 [(1,.ref (.ptr 0 0)),(4,bool z)],h:=[.var (rqD k r)],m:=[]})) (fun p=>r.chs.length - p.1) ?_ ⟨0,by simp,by simp⟩
  rintro⟨i,hi,hd⟩
  try simp only at hi hd
  by_cases hlt:i<r.chs.length
  ·have hc:r.chs[i]? = some r.chs[i]:=List.getElem?_eq_getElem hlt
   have hdr:r.chs.drop i=r.chs[i]::r.chs.drop (i+1):=List.drop_eq_getElem_cons hlt
   have htk:r.chs.take (i+1)=r.chs.take i++[r.chs[i]]:=by rw[List.take_add_one,hc];rfl
   rw[hdr] at hd
   simp only[dupB] at hd
   rw[←htk] at hd
   have h5:=B8 (k:=k) (z:=z) hs hc
   rw[wb] at h5
   cases ha:(r.chs.take i).any (fun y=>lD y r.chs[i]) with
   | true =>
    rw[ha] at h5 hd
    have hd2:dupB [] r.chs=true:=by rw[hd];rfl
    refine .inr ⟨by rw[hd2];simp,?_⟩
    show CW Di Γ0 [] false (sub Em 1) (vcE k r z (i:Int)) (match dupB [] r.chs with|true=>Ee|false=>.exit 3) (match dupB [] r.chs with|true=>vaX k r|false=>_)
    rw[hd2]
    exact vd_r (lt_len Dn hlt) h5
   | false =>
    rw[ha] at h5 hd
    exact .inl ⟨⟨i+1,by omega,by rw[hd];rfl⟩,by simp;omega,rfl,vd_n (lt_len Dn hlt) (wrap_succ hlt hs) h5⟩
  ·have hi2:i=r.chs.length:=by omega
   subst hi2
   rw[List.drop_length] at hd
   have hd2:dupB [] r.chs=false:=by rw[hd];rfl
   refine .inr ⟨by rw[hd2];simp,?_⟩
   show CW Di Γ0 [] false (sub Em 1) (vcE k r z (r.chs.length:Int)) (match dupB [] r.chs with|true=>Ee|false=>.exit 3) (match dupB [] r.chs with|true=>vaX k r|false=>_)
   rw[hd2]
   exact B7 (aY Dn r.chs)
 refine⟨fun h=>?_,fun h=>?_⟩
 ·rw[h] at key;exact key
 ·rw[h] at key;exact key
def vaF(c:BuT)(_:Unit):Unit⊕Unit:=match !buB c with
 | true=>.inr ()
 | false=>.inl ()
theorem Ca{k:Int}{r:RqT}(hs:ai r.chs):CW Di Γ0 [] false (.loop (sub Em 0)) (vaS k r 0) (af (.exit 0) (fun _:Unit=>vaE k r) (fun _:Unit=>(.ret,vaX k r)) (forL vaF r.chs ())).1 (af (.exit 0) (fun _:Unit=>vaE k r) (fun _:Unit=>(.ret,vaX k r)) (forL vaF r.chs ())).2:=by
 refine FZ r.chs vaF (fun j _=>vaS k r (j:Int)) (.exit 0) _ _ (fun _ _=>True) (by simp) (fun _=>by simp) ?_ ?_ () trivial
 ·intro j c a hj _
  have hlt:=(Dq.1 hj).1
  have hr:=rowAt (row:=Dn) (sz:=2) hj rfl
  refine⟨fun _ _=>trivial,?_⟩
  unfold vaF
  cases hb:!buB c with
  | true=>exact va_bad hr (lt_len Dn hlt) hb
  | false=>exact va_ok hr (lt_len Dn hlt) (wrap_succ hlt hs) hb
 ·intro a _
  exact B5 (aY Dn r.chs)
theorem wc:∀{l:List BuT},forL vaF l ()=(match l.all buB with|true=>.inl ()|false=>.inr ())
 | []=>rfl
 | c::l=>by
  unfold forL
  rw[List.all_cons]
  cases hb:buB c with
  | true=>simp only[vaF,hb,Bool.not_true,Bool.true_and];exact wc
  | false=>simp only[vaF,hb];rfl
theorem vq_hd{r:RqT}(hh:(Qd (r.campus<0)||Qd (r.campus≥7)||Qd (r.no<1)||Qd (r.no>1048576)||Qd (r.st<0)||Qd (r.st≥20000)||Qd (r.time<1)||Qd (r.time>1048576))=true)(h:List Blk):(Ev Di Γ0 101 [.agg (rqD r.kind r)] h (bool false) h):=by
 exact z0 [.b true] (.c hh .n) h
theorem vq_c{r:RqT}(hh:(Qd (r.campus<0)||Qd (r.campus≥7)||Qd (r.no<1)||Qd (r.no>1048576)||Qd (r.st<0)||Qd (r.st≥20000)||Qd (r.time<1)||Qd (r.time>1048576))=false)(h0:CW Di Γ0 [] false (.loop (sub Em 0)) (vaS r.kind r 0) .ret (vaX r.kind r))(h:List Blk):(Ev Di Γ0 101 [.agg (rqD r.kind r)] h (bool false) h):=by
 have hl0:=(@h0)
 exact z0 [.b false,.sum [1,3] (Ee) {t:=mkT 171 0 [(2,bool false)],h:=[.var [int r.campus,int r.no,int r.st,int r.kind,int r.time,aa (Dh Dn r.chs),int r.gsec,int r.glab,int r.key]],m:=[]}] (.c hh (.c hl0 .n)) h
theorem vq_1r{r:RqT}(hh:(Qd (r.campus<0)||Qd (r.campus≥7)||Qd (r.no<1)||Qd (r.no>1048576)||Qd (r.st<0)||Qd (r.st≥20000)||Qd (r.time<1)||Qd (r.time>1048576))=false)(h0:CW Di Γ0 [] false (.loop (sub Em 0)) (vaS 1 r 0) (.exit 0) (vaE 1 r))(h1:CW Di Γ0 [] false (.loop (sub Em 1)) (vcE 1 r (r.gsec==0&&(r.glab==0&&true)) 0) .ret (vaX 1 r))(h:List Blk):(Ev Di Γ0 101 [.agg (rqD 1 r)] h (bool false) h):=by
 have hl0:=(@h0)
 have hl1:=(@h1)
 let v0:List Blk:=[.var [int r.campus,int r.no,int r.st,int 1,int r.time,aa (Dh Dn r.chs),int r.gsec,int r.glab,int r.key]]
 exact z0 [.b false,.sum [1,3] (DV 0) {t:=mkT 171 0 [(1,.ref (.ptr 0 0))],h:=v0,m:=[]},.b true,.sum [1,4,5] (Ee) {t:=mkT 171 0 [(2,bool false)],h:=v0,m:=[]}] (.c hh (.c hl0 (.c (show(1==1)=true from rfl) (.c hl1 .n)))) h
theorem vq_1{r:RqT}(hh:(Qd (r.campus<0)||Qd (r.campus≥7)||Qd (r.no<1)||Qd (r.no>1048576)||Qd (r.st<0)||Qd (r.st≥20000)||Qd (r.time<1)||Qd (r.time>1048576))=false)(h0:CW Di Γ0 [] false (.loop (sub Em 0)) (vaS 1 r 0) (.exit 0) (vaE 1 r))(h1:CW Di Γ0 [] false (.loop (sub Em 1)) (vcE 1 r (r.gsec==0&&(r.glab==0&&true)) 0) (.exit 3) {t:=mkT 171 0 [(1,.ref (.ptr 0 0)),(4,bool (r.gsec==0&&(r.glab==0&&true)))],h:=[.var (rqD 1 r)],m:=[]})(h:List Blk):(Ev Di Γ0 101 [.agg (rqD 1 r)] h (bool (Qd (((r.chs.map Dn).length:Int)≥1)&&Qd (((r.chs.map Dn).length:Int)≤8)&&(r.gsec==0&&(r.glab==0&&true))&&Qd (r.key≥0)&&Qd (r.key≤1048576))) h):=by
 have hl0:=(@h0)
 have hl1:=(@h1)
 let v0:List Blk:=[.var [int r.campus,int r.no,int r.st,int 1,int r.time,aa (Dh Dn r.chs),int r.gsec,int r.glab,int r.key]]
 exact z0 [.b false,.sum [1,3] (DV 0) {t:=mkT 171 0 [(1,.ref (.ptr 0 0))],h:=v0,m:=[]},.b true,.sum [1,4,5] (DV 3) {t:=mkT 171 0 [(1,.ref (.ptr 0 0)),(4,bool (r.gsec==0&&(r.glab==0&&true)))],h:=v0,m:=[]}] (.c hh (.c hl0 (.c (show(1==1)=true from rfl) (.c hl1 .n)))) h
noncomputable abbrev we(r:RqT):List Blk:=[.var [int r.campus,int r.no,int r.st,int 2,int r.time,aa (Dh Dn r.chs),int r.gsec,int r.glab,int r.key]]
theorem vq_2{r:RqT}{gb:Bool}(hh:(Qd (r.campus<0)||Qd (r.campus≥7)||Qd (r.no<1)||Qd (r.no>1048576)||Qd (r.st<0)||Qd (r.st≥20000)||Qd (r.time<1)||Qd (r.time>1048576))=false)(h0:CW Di Γ0 [] false (.loop (sub Em 0)) (vaS 2 r 0) (.exit 0) (vaE 2 r))(hgv:∀h,Ev Di Γ0 109 [.agg [int r.gsec,int r.glab]] h (bool gb) h)(h:List Blk):(Ev Di Γ0 101 [.agg (rqD 2 r)] h (bool (((r.chs.map Dn).length:Int)==0&&gb&&r.key==0)) h):=by
 have hl0:=(@h0)
 exact z0 [.b false,.sum [1,3] (DV 0) {t:=mkT 171 0 [(1,.ref (.ptr 0 0))],h:=(we r),m:=[]},.b false,.b true,.val (bool gb)] (.c hh (.c hl0 (.c (show(2==1)=false from rfl) (.c (show(2==2)=true from rfl) (.c (gd ((↑(Dl (Dh Dn r.chs)):Int)==0) (@hgv (we r))) .n))))) h
noncomputable abbrev wg(r:RqT):List Blk:=[.var [int r.campus,int r.no,int r.st,int 3,int r.time,aa (Dh Dn r.chs),int r.gsec,int r.glab,int r.key]]
theorem vq_3{r:RqT}{gb:Bool}{c:BuT}(hh:(Qd (r.campus<0)||Qd (r.campus≥7)||Qd (r.no<1)||Qd (r.no>1048576)||Qd (r.st<0)||Qd (r.st≥20000)||Qd (r.time<1)||Qd (r.time>1048576))=false)(h0:CW Di Γ0 [] false (.loop (sub Em 0)) (vaS 3 r 0) (.exit 0) (vaE 3 r))(hgv:∀h,Ev Di Γ0 109 [.agg [int r.gsec,int r.glab]] h (bool gb) h)(hp:ad 0 (r.chs.map Dn) c.row 2)(h:List Blk):(Ev Di Γ0 101 [.agg (rqD 3 r)] h (bool (((r.chs.map Dn).length:Int)==1&&gb&&c.sec != r.gsec&&r.key==0)) h):=by
 have hl0:=(@h0)
 let v0:=Dl (Dh Dn r.chs)
 exact z0 [.b false,.sum [1,3] (DV 0) {t:=mkT 171 0 [(1,.ref (.ptr 0 0))],h:=(wg r),m:=[]},.b false,.b false,.b true,.val (bool gb),.row [vi c.sec,vi c.lab]] (.c hh (.c hl0 (.c (show(3==1)=false from rfl) (.c (show(3==2)=false from rfl) (.c (show(3==3)=true from rfl) (.c (gd ((↑v0:Int)==1) (@hgv (wg r))) (.c (show((↑v0:Int)==1&&gb)=true→ad 0 (Dh Dn r.chs) [vi c.sec,vi c.lab] 2 from(fun hg=>hp)) .n))))))) h
theorem vq_3n{r:RqT}(hh:(Qd (r.campus<0)||Qd (r.campus≥7)||Qd (r.no<1)||Qd (r.no>1048576)||Qd (r.st<0)||Qd (r.st≥20000)||Qd (r.time<1)||Qd (r.time>1048576))=false)(h0:CW Di Γ0 [] false (.loop (sub Em 0)) (vaS 3 r 0) (.exit 0) (vaE 3 r))(hn:(((r.chs.map Dn).length:Int)==1)=false)(h:List Blk):(Ev Di Γ0 101 [.agg (rqD 3 r)] h (bool false) h):=by
 have hl0:=(@h0)
 let v0:=Dl (Dh Dn r.chs)
 let v1:=D.p (Dp.v (DF {toList:=[]}))
 exact z0 [.b false,.sum [1,3] (DV 0) {t:=mkT 171 0 [(1,.ref (.ptr 0 0))],h:=[.var [int r.campus,int r.no,int r.st,int 3,int r.time,aa (Dh Dn r.chs),int r.gsec,int r.glab,int r.key]],m:=[]},.b false,.b false,.b true,.g false,.g false,.g false,.ov 139 (bool false),.g false,.g false,.g false,.g false,.g false,.g false,.g false,.g false,.g false,.ov 150 (bool false),.g false,.g false,.g false,.ov 155 (bool false)] (.c hh (.c hl0 (.c (show(3==1)=false from rfl) (.c (show(3==2)=false from rfl) (.c (show(3==3)=true from rfl) (.c (show(((↑v0:Int)==1)==true)=false from(by subst v0 v1;rw[hn]<;>rfl)) (.c (show(((↑v0:Int)==1)==true)=false from(by subst v0 v1;rw[hn]<;>rfl)) (.c (show(((↑v0:Int)==1)==true)=false from(by subst v0 v1;rw[hn]<;>rfl)) (.c (pkf v1 (bool false) hn) (.f (.f (.f (.f (.f (.f (.f (.f (.f (.c (pkf v1 (bool false) rfl) (.f (.f (.f (.c (pkf v1 (bool false) rfl) .n))))))))))))))))))))))) h
theorem vq_4{r:RqT}(hh:(Qd (r.campus<0)||Qd (r.campus≥7)||Qd (r.no<1)||Qd (r.no>1048576)||Qd (r.st<0)||Qd (r.st≥20000)||Qd (r.time<1)||Qd (r.time>1048576))=false)(h0:CW Di Γ0 [] false (.loop (sub Em 0)) (vaS 4 r 0) (.exit 0) (vaE 4 r))(h:List Blk):(Ev Di Γ0 101 [.agg (rqD 4 r)] h (bool (((r.chs.map Dn).length:Int)==1&&(r.gsec==0&&(r.glab==0&&true))&&r.key==0)) h):=by
 have hl0:=(@h0)
 exact z0 [.b false,.sum [1,3] (DV 0) {t:=mkT 171 0 [(1,.ref (.ptr 0 0))],h:=[.var [int r.campus,int r.no,int r.st,int 4,int r.time,aa (Dh Dn r.chs),int r.gsec,int r.glab,int r.key]],m:=[]},.b false,.b false,.b false,.b true,.b true] (.c hh (.c hl0 (.c (show(4==1)=false from rfl) (.c (show(4==2)=false from rfl) (.c (show(4==3)=false from rfl) (.c (show(4==4)=true from rfl) (.c (show(4==4)=true from rfl) .n))))))) h
theorem vq_5{r:RqT}(hh:(Qd (r.campus<0)||Qd (r.campus≥7)||Qd (r.no<1)||Qd (r.no>1048576)||Qd (r.st<0)||Qd (r.st≥20000)||Qd (r.time<1)||Qd (r.time>1048576))=false)(h0:CW Di Γ0 [] false (.loop (sub Em 0)) (vaS 5 r 0) (.exit 0) (vaE 5 r))(h:List Blk):(Ev Di Γ0 101 [.agg (rqD 5 r)] h (bool (((r.chs.map Dn).length:Int)==1&&(r.gsec==0&&(r.glab==0&&true))&&r.key==0)) h):=by
 have hl0:=(@h0)
 exact z0 [.b false,.sum [1,3] (DV 0) {t:=mkT 171 0 [(1,.ref (.ptr 0 0))],h:=[.var [int r.campus,int r.no,int r.st,int 5,int r.time,aa (Dh Dn r.chs),int r.gsec,int r.glab,int r.key]],m:=[]},.b false,.b false,.b false,.b false,.b true] (.c hh (.c hl0 (.c (show(5==1)=false from rfl) (.c (show(5==2)=false from rfl) (.c (show(5==3)=false from rfl) (.c (show(5==4)=false from rfl) (.c (show(5==5)=true from rfl) .n))))))) h
theorem vq_n{r:RqT}(hh:(Qd (r.campus<0)||Qd (r.campus≥7)||Qd (r.no<1)||Qd (r.no>1048576)||Qd (r.st<0)||Qd (r.st≥20000)||Qd (r.time<1)||Qd (r.time>1048576))=false)(h0:CW Di Γ0 [] false (.loop (sub Em 0)) (vaS r.kind r 0) (.exit 0) (vaE r.kind r))(n1:(r.kind==1)=false)(n2:(r.kind==2)=false)(n3:(r.kind==3)=false)(n4:(r.kind==4)=false)(n5:(r.kind==5)=false)(h:List Blk):(Ev Di Γ0 101 [.agg (rqD r.kind r)] h (bool false) h):=by
 have hl0:=(@h0)
 exact z0 [.b false,.sum [1,3] (DV 0) {t:=mkT 171 0 [(1,.ref (.ptr 0 0))],h:=[.var [int r.campus,int r.no,int r.st,int r.kind,int r.time,aa (Dh Dn r.chs),int r.gsec,int r.glab,int r.key]],m:=[]},.b false,.b false,.b false,.b false,.b false] (.c hh (.c hl0 (.c n1 (.c n2 (.c n3 (.c n4 (.c n5 .n))))))) h
noncomputable abbrev Cb(r:RqT):List Blk:=[.var [int r.campus,int r.no,int r.st,int r.kind,int r.time,aa (Dh Dn r.chs),int r.gsec,int r.glab,int r.key]]
theorem vr_t{r:RqT}(hv:∀h,Ev Di Γ0 101 [.agg (rqD r.kind r)] h (bool true) h)(h:List Blk):(Ev Di Γ0 80 [.agg (rqD r.kind r)] h (int 0) h):=by
 exact z0 [.val (bool true),.b false] (.c (@hv (Cb r)) (.c (show(!true)=false from rfl) .n)) h
noncomputable abbrev Cc(r:RqT):List Blk:=[.var [int r.campus,int r.no,int r.st,int r.kind,int r.time,aa (Dh Dn r.chs),int r.gsec,int r.glab,int r.key]]
theorem vr_f{r:RqT}(hv:∀h,Ev Di Γ0 101 [.agg (rqD r.kind r)] h (bool false) h)(h:List Blk):(Ev Di Γ0 80 [.agg (rqD r.kind r)] h (int 290) h):=by
 exact z0 [.val (bool false),.b true] (.c (@hv (Cc r)) (.c (show(!false)=true from rfl) .n)) h
end Go.Vi
