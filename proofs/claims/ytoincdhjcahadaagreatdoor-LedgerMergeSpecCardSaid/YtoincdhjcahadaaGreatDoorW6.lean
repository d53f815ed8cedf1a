/- LedgerMergeSpec: part of the proof: contracts of the functions that the law reaches, and the law. No conditions beyond the given statement's own. -/
import Derived.Test.YtoincdhjcahadaaGreatDoorW5
open Decidable renaming decide → Qd
open Go.Vi.BuT renaming row → Cv
open Go.Proofs.Tryz renaming prog → Cr, f52 → HN, f99 → Em, f101 → Du, f29 → Ew, f13 → Hf
open Go.Vi.CW renaming each → E7
open List renaming getElem?_eq_some_iff → Cx, map → Cq, getElem?_take → Eh, any_cons → F8, getElem?_eq_getElem → C6, drop_eq_getElem_cons → Ed, length → Cw
open Go.Exit renaming ret → Dj, exit → C4, normal → C7
open Go.Vi.MeT renaming row → CE
open Go.Vi.GrT renaming row → CA
open Go.Vi.Dp renaming v → CZ, sl → CB
open Go.Value renaming tuple → CL, bool → CI
open ByteArray renaming empty → Dm
open Go.IntKind renaming i64 → Ct, wrap → Cz
open Bool renaming false_or → Dy
open Go.Vi.EntT renaming row → CG
open Go Go.Proofs
namespace Go.Vi
set_option maxRecDepth 100000
set_option maxHeartbeats 4000000
theorem A5{a b:RqT}(hl:am a.chs)(he:(((a.chs.map Cv).length:Int) != ((b.chs.map Cv).length:Int))=false):
  CW Cr Γ0 [] false (.loop (sub HN 0)) (rqS a b 0) (aj (.exit 0) (fun _:Unit=>{t:=mkT 80 0 [],h:=[.var (a.row.map .p),.var (b.row.map .p)],m:=[]}) (fun _:Unit=>(.ret,rqX a b)) (qbR a.chs b.chs)).1 (aj (.exit 0) (fun _:Unit=>{t:=mkT 80 0 [],h:=[.var (a.row.map .p),.var (b.row.map .p)],m:=[]}) (fun _:Unit=>(.ret,rqX a b)) (qbR a.chs b.chs)).2:=by
 have hlen:a.chs.length=b.chs.length:=by simp at he;omega
 have hz:(a.chs.zip b.chs).length=a.chs.length:=by simp[hlen]
 refine E7 (a.chs.zip b.chs) qbF (fun i _=>rqS a b (i:Int)) (.exit 0) _ (fun _=>(.ret,rqX a b)) (fun _ _=>True) (by simp) (fun _=>by simp) ?_ ?_ () trivial
 ·intro i p u hp _
  obtain⟨hi,he⟩:=Cx.1 hp
  have hx:i<a.chs.length:=by omega
  have hy:i<b.chs.length:=by omega
  have h1:a.chs[i]? = some p.1:=by subst he;simp[hx]
  have h2:b.chs[i]? = some p.2:=by subst he;simp[hy]
  refine⟨fun _ _=>trivial,?_⟩
  unfold qbF buNe
  cases hn:(!(p.1.sec==p.2.sec&&(p.1.lab==p.2.lab&&true))) with
  | true=>exact rq_bad (x:=p.1) (y:=p.2) (rowAt h1 rfl) (rowAt h2 rfl) (lt_len _ hx) hn
  | false=>exact zP (x:=p.1) (y:=p.2) (rowAt h1 rfl) (rowAt h2 rfl) (lt_len _ hx) (wrap_succ hx hl) hn
 ·intro u _
  rw[hz]
  exact zQ (a9 _ a.chs)
theorem rs_hd{a b:RqT}(hh:(a.campus != b.campus||a.no != b.no||a.st != b.st||a.kind != b.kind||a.time != b.time||!(a.gsec==b.gsec&&(a.glab==b.glab&&true))||a.key != b.key||(((a.chs.map Cv).length:Int) != ((b.chs.map Cv).length:Int)))=true)(h:List Blk):(Ev Cr Γ0 52 [ag a.row,ag b.row] h (bool false) h):=by
 exact z0 [.b true] (.c hh .n) h
theorem rs_r{a b:RqT}(hh:(a.campus != b.campus||a.no != b.no||a.st != b.st||a.kind != b.kind||a.time != b.time||!(a.gsec==b.gsec&&(a.glab==b.glab&&true))||a.key != b.key||(((a.chs.map Cv).length:Int) != ((b.chs.map Cv).length:Int)))=false)(hl:CW Cr Γ0 [] false (.loop (sub HN 0)) (rqS a b 0) .ret (rqX a b))(h:List Blk):(Ev Cr Γ0 52 [ag a.row,ag b.row] h (bool false) h):=by
 have hl0:=(@hl)
 exact z0 [.b false,.sum [2,3,5] (Dj) {t:=mkT 80 0 [(4,bool false)],h:=[.var [int a.campus,int a.no,int a.st,int a.kind,int a.time,aa (Cq Cv a.chs),int a.gsec,int a.glab,int a.key],.var [int b.campus,int b.no,int b.st,int b.kind,int b.time,aa (Cq Cv b.chs),int b.gsec,int b.glab,int b.key]],m:=[]}] (.c hh (.c hl0 .n)) h
theorem rs_e{a b:RqT}(hh:(a.campus != b.campus||a.no != b.no||a.st != b.st||a.kind != b.kind||a.time != b.time||!(a.gsec==b.gsec&&(a.glab==b.glab&&true))||a.key != b.key||(((a.chs.map Cv).length:Int) != ((b.chs.map Cv).length:Int)))=false)(hl:CW Cr Γ0 [] false (.loop (sub HN 0)) (rqS a b 0) (.exit 0) {t:=mkT 80 0 [],h:=[.var (a.row.map .p),.var (b.row.map .p)],m:=[]})(h:List Blk):(Ev Cr Γ0 52 [ag a.row,ag b.row] h (bool true) h):=by
 have hl0:=(@hl)
 exact z0 [.b false,.sum [2,3,5] (C4 0) {t:=mkT 80 0 [],h:=[.var [int a.campus,int a.no,int a.st,int a.kind,int a.time,aa (Cq Cv a.chs),int a.gsec,int a.glab,int a.key],.var [int b.campus,int b.no,int b.st,int b.kind,int b.time,aa (Cq Cv b.chs),int b.gsec,int b.glab,int b.key]],m:=[]}] (.c hh (.c hl0 .n)) h
def kT(a b:RqT):Bool:=match (a.campus != b.campus||a.no != b.no||a.st != b.st||a.kind != b.kind||a.time != b.time||!(a.gsec==b.gsec&&(a.glab==b.glab&&true))||a.key != b.key||(((a.chs.map Cv).length:Int) != ((b.chs.map Cv).length:Int))) with
 | true=>false
 | false=>match qbR a.chs b.chs with
  | .inl _=>true
  | .inr _=>false
theorem xk{a b:RqT}(hc:am a.chs)(h:List Blk):Ev Cr Γ0 52 [ag a.row,ag b.row] h (bool (kT a b)) h:=by
 unfold kT
 cases hh:(a.campus != b.campus||a.no != b.no||a.st != b.st||a.kind != b.kind||a.time != b.time||!(a.gsec==b.gsec&&(a.glab==b.glab&&true))||a.key != b.key||(((a.chs.map Cv).length:Int) != ((b.chs.map Cv).length:Int))) with
 | true=>exact rs_hd hh h
 | false =>
  have he:(((a.chs.map Cv).length:Int) != ((b.chs.map Cv).length:Int))=false:=by
   simp only[Bool.or_eq_false_iff] at hh;exact hh.2
  have:=A5 hc he
  simp only
  cases hf:qbR a.chs b.chs with
  | inl u=>rw[hf] at this;exact rs_e hh this h
  | inr u=>rw[hf] at this;exact rs_r hh this h
def iL(a b:EntT):Bool:=qb a b&&a.kind==b.kind&&a.stu==b.stu&&a.obj==b.obj&&a.term==b.term&&a.val==b.val&&(a.frm==b.frm&&(a.til==b.til&&true))&&eqS a.text b.text&&(a.r==b.r&&(a.s==b.s&&true))&&fW a.sec b.sec&&kT a.req b.req
noncomputable abbrev i9(a:EntT)(b:EntT):List Blk:=[.var [int a.time,int a.campus,int a.no,int a.kind,int a.stu,int a.obj,int a.term,int a.val,int a.frm,int a.til,aw a.text,int a.sec.id,int a.sec.course,int a.sec.term,int a.sec.campus,int a.sec.seats,aa (Cq CE a.sec.mts),aa (Cq CA a.sec.grs),aa (Cq ab a.sec.labs),bool a.sec.lab,int a.req.campus,int a.req.no,int a.req.st,int a.req.kind,int a.req.time,aa (Cq Cv a.req.chs),int a.req.gsec,int a.req.glab,int a.req.key,int a.r,int a.s],.var [int b.time,int b.campus,int b.no,int b.kind,int b.stu,int b.obj,int b.term,int b.val,int b.frm,int b.til,aw b.text,int b.sec.id,int b.sec.course,int b.sec.term,int b.sec.campus,int b.sec.seats,aa (Cq CE b.sec.mts),aa (Cq CA b.sec.grs),aa (Cq ab b.sec.labs),bool b.sec.lab,int b.req.campus,int b.req.no,int b.req.st,int b.req.kind,int b.req.time,aa (Cq Cv b.req.chs),int b.req.gsec,int b.req.glab,int b.req.key,int b.r,int b.s]]
theorem bo{a b:EntT}(hm:am a.sec.mts)(hgr:am a.sec.grs)(hi:am a.sec.labs)(hc:am a.req.chs)(h:List Blk):(Ev Cr Γ0 37 [ag a.row,ag b.row] h (bool (iL a b)) h):=by
 exact zD (bool (a.time==b.time&&(a.campus==b.campus&&(a.no==b.no&&true))&&a.kind==b.kind&&a.stu==b.stu&&a.obj==b.obj&&a.term==b.term&&a.val==b.val&&(a.frm==b.frm&&(a.til==b.til&&true))&&eqS a.text b.text&&(a.r==b.r&&(a.s==b.s&&true))&&fW a.sec b.sec&&kT a.req b.req)) [.val (bool (fW a.sec b.sec)),.val (bool (kT a.req b.req))] (.c (gd (a.time==b.time&&(a.campus==b.campus&&(a.no==b.no&&true))&&a.kind==b.kind&&a.stu==b.stu&&a.obj==b.obj&&a.term==b.term&&a.val==b.val&&(a.frm==b.frm&&(a.til==b.til&&true))&&eqS a.text b.text&&(a.r==b.r&&(a.s==b.s&&true))) (@wJ (a.sec) (b.sec) hm hgr hi (i9 a b))) (.c (gd (a.time==b.time&&(a.campus==b.campus&&(a.no==b.no&&true))&&a.kind==b.kind&&a.stu==b.stu&&a.obj==b.obj&&a.term==b.term&&a.val==b.val&&(a.frm==b.frm&&(a.til==b.til&&true))&&eqS a.text b.text&&(a.r==b.r&&(a.s==b.s&&true))&&fW a.sec b.sec) (@xk (a.req) (b.req) hc (i9 a b))) .n)) h (by first|rfl|(simp only[iL,qb];first|done|rfl))
def c8(t:Int):Int:=match t==7 with
 | true=>4095
 | false=>match t==9 with
  | true=>4095
  | false=>match t==8 with
   | true=>3999
   | false=>match t==10 with
    | true=>0
    | false => -1
theorem pi{t:Int}(h:List Blk):(Ev Cr Γ0 78 [int t] h (int (c8 t)) h):=by
 cases hc0:t==7
 ·cases hc1:t==9
  ·cases hc2:t==8
   ·cases hc3:t==10
    ·exact zD (int (-1)) [.b false,.b false,.b false,.b false] (.c hc0 (.c hc1 (.c hc2 (.c hc3 .n)))) h (by first|rfl|(simp only[c8,hc0,hc1,hc2,hc3];first|done|rfl))
    ·exact zD (int 0) [.b false,.b false,.b false,.b true] (.c hc0 (.c hc1 (.c hc2 (.c hc3 .n)))) h (by first|rfl|(simp only[c8,hc0,hc1,hc2,hc3];first|done|rfl))
   ·exact zD (int 3999) [.b false,.b false,.b true] (.c hc0 (.c hc1 (.c hc2 .n))) h (by first|rfl|(simp only[c8,hc0,hc1,hc2];first|done|rfl))
  ·exact zD (int 4095) [.b false,.b true] (.c hc0 (.c hc1 .n)) h (by first|rfl|(simp only[c8,hc0,hc1];first|done|rfl))
 ·exact zD (int 4095) [.b true,.b true] (.c hc0 (.c hc0 .n)) h (by first|rfl|(simp only[c8,hc0];first|done|rfl))
theorem xl{e:EntT}(h:List Blk):(Ev Cr Γ0 82 [ag e.row] h (.agg [int e.val,int e.stu,int e.obj,int e.term]) h):=by
 exact z0 [] .n h
noncomputable abbrev xm(e:EntT):List Blk:=[.var [int e.time,int e.campus,int e.no,int e.kind,int e.stu,int e.obj,int e.term,int e.val,int e.frm,int e.til,aw e.text,int e.sec.id,int e.sec.course,int e.sec.term,int e.sec.campus,int e.sec.seats,aa (Cq CE e.sec.mts),aa (Cq CA e.sec.grs),aa (Cq ab e.sec.labs),bool e.sec.lab,int e.req.campus,int e.req.no,int e.req.st,int e.req.kind,int e.req.time,aa (Cq Cv e.req.chs),int e.req.gsec,int e.req.glab,int e.req.key,int e.r,int e.s]]
theorem rc_st{e:EntT}{st:Int}(hst:∀h,Ev Cr Γ0 44 [.agg [int e.time,int e.campus,int e.no]] h (int st) h)(hb:(st != 0)=true)(h:List Blk):(Ev Cr Γ0 28 [ag e.row] h (int st) h):=by
 exact z0 [.val (int st),.b true] (.c (@hst (xm e)) (.c hb .n)) h
noncomputable abbrev vk(e:EntT):List Blk:=[.var [int e.time,int e.campus,int e.no,int e.kind,int e.stu,int e.obj,int e.term,int e.val,int e.frm,int e.til,aw e.text,int e.sec.id,int e.sec.course,int e.sec.term,int e.sec.campus,int e.sec.seats,aa (Cq CE e.sec.mts),aa (Cq CA e.sec.grs),aa (Cq ab e.sec.labs),bool e.sec.lab,int e.req.campus,int e.req.no,int e.req.st,int e.req.kind,int e.req.time,aa (Cq Cv e.req.chs),int e.req.gsec,int e.req.glab,int e.req.key,int e.r,int e.s]]
theorem rc_n{e:EntT}(hst:∀h,Ev Cr Γ0 44 [.agg [int e.time,int e.campus,int e.no]] h (int 0) h)(hin:inS e.kind 1 9=false)(h:List Blk):(Ev Cr Γ0 28 [ag e.row] h (int 370) h):=by
 exact z0 [.val (int 0),.b false,.val (bool (inS e.kind 1 9)),.g false,.g false,.g false,.g false,.g false,.ov 20 (bool true),.b true] (.c (@hst (vk e)) (.c (show(0 != 0)=false from rfl) (.c (@aB (e.kind) 1 9 (vk e)) (.c (show((!inS e.kind 1 9)==false)=false from(by rw[hin]<;>rfl)) (.c (show((!inS e.kind 1 9)==false)=false from(by rw[hin]<;>rfl)) (.c (show((!inS e.kind 1 9)==false)=false from(by rw[hin]<;>rfl)) (.c (show((!inS e.kind 1 9)==false)=false from(by rw[hin]<;>rfl)) (.c (show((!inS e.kind 1 9)==false)=false from(by rw[hin]<;>rfl)) (.c (show dD (bool !inS e.kind 1 9) (bool true) (D.p (CZ (CL {toList:=[]}))) (bool true) from(mQ (by rw[hin]<;>rfl) rfl)) (.er true .n)))))))))) h
noncomputable abbrev rc_k_x0(e:EntT):List D:=[D.agg [int e.time,int e.campus,int e.no,int e.kind,int e.stu,int e.obj,int e.term,int e.val,int e.frm,int e.til,aw e.text,int e.sec.id,int e.sec.course,int e.sec.term,int e.sec.campus,int e.sec.seats,aa (Cq CE e.sec.mts),aa (Cq CA e.sec.grs),aa (Cq ab e.sec.labs),bool e.sec.lab,int e.req.campus,int e.req.no,int e.req.st,int e.req.kind,int e.req.time,aa (Cq Cv e.req.chs),int e.req.gsec,int e.req.glab,int e.req.key,int e.r,int e.s]]
noncomputable abbrev d7(e:EntT):List Blk:=[.var [int e.time,int e.campus,int e.no,int e.kind,int e.stu,int e.obj,int e.term,int e.val,int e.frm,int e.til,aw e.text,int e.sec.id,int e.sec.course,int e.sec.term,int e.sec.campus,int e.sec.seats,aa (Cq CE e.sec.mts),aa (Cq CA e.sec.grs),aa (Cq ab e.sec.labs),bool e.sec.lab,int e.req.campus,int e.req.no,int e.req.st,int e.req.kind,int e.req.time,aa (Cq Cv e.req.chs),int e.req.gsec,int e.req.glab,int e.req.key,int e.r,int e.s]]
theorem rc_k{e:EntT}{u:List D}{sb:Bool}{r:Int}(hst:∀h,Ev Cr Γ0 44 [.agg [int e.time,int e.campus,int e.no]] h (int 0) h)(hin:inS e.kind 1 9=true)(hu:∀h,Ev Cr Γ0 46 [ag e.row] h (.agg u) h)(hs:∀h,Ev Cr Γ0 37 [ag e.row,.agg u] h (bool sb) h)(hf:∀h,Ev Cr Γ0 47 [ag e.row] h (int r) h)(h:List Blk):(Ev Cr Γ0 28 [ag e.row] h (int (enR 0 sb r)) h):=by
 cases hc0:!sb
 ·exact zD (int r) [.val (int 0),.b false,.val (bool (inS e.kind 1 9)),.g true,.g true,.g true,.val (D.agg u),.g true,.val (bool sb),.g true,.ov 20 (bool !sb),.b false,.val (int r)] (.c (@hst (d7 e)) (.c (show(0 != 0)=false from rfl) (.c (@aB (e.kind) 1 9 (d7 e)) (.c (show((!inS e.kind 1 9)==false)=true from(by rw[hin]<;>rfl)) (.c (show((!inS e.kind 1 9)==false)=true from(by rw[hin]<;>rfl)) (.c (show((!inS e.kind 1 9)==false)=true from(by rw[hin]<;>rfl)) (.c (@hu (d7 e)) (.c (show((!inS e.kind 1 9)==false)=true from(by rw[hin]<;>rfl)) (.c (@hs (d7 e)) (.c (show((!inS e.kind 1 9)==false)=true from(by rw[hin]<;>rfl)) (.c (show dD (bool !inS e.kind 1 9) (bool true) (bool !sb) (bool !sb) from(jt (by rw[hin]<;>rfl) rfl)) (.c hc0 (.c (@hf (d7 e)) .n))))))))))))) h (by first|rfl|(simp only[enR,hc0];first|done|rfl))
 ·exact zD (int 370) [.val (int 0),.b false,.val (bool (inS e.kind 1 9)),.g true,.g true,.g true,.val (D.agg u),.g true,.val (bool sb),.g true,.ov 20 (bool !sb),.b true] (.c (@hst (d7 e)) (.c (show(0 != 0)=false from rfl) (.c (@aB (e.kind) 1 9 (d7 e)) (.c (show((!inS e.kind 1 9)==false)=true from(by rw[hin]<;>rfl)) (.c (show((!inS e.kind 1 9)==false)=true from(by rw[hin]<;>rfl)) (.c (show((!inS e.kind 1 9)==false)=true from(by rw[hin]<;>rfl)) (.c (@hu (d7 e)) (.c (show((!inS e.kind 1 9)==false)=true from(by rw[hin]<;>rfl)) (.c (@hs (d7 e)) (.c (show((!inS e.kind 1 9)==false)=true from(by rw[hin]<;>rfl)) (.c (show dD (bool !inS e.kind 1 9) (bool true) (bool !sb) (bool !sb) from(jt (by rw[hin]<;>rfl) rfl)) (.c hc0 .n)))))))))))) h (by first|rfl|(simp only[enR,hc0];first|done|rfl))
theorem us1_a{e:EntT}(h:List Blk):(Ev Cr Γ0 46 [.agg (aS 1 e)] h (.agg (em 1 e 0 0 0 0 e.frm e.til e.text b5 d6)) h):=by
 exact z0 [.b false,.b false,.b false,.b false,.b false,.b false,.b false,.b false,.b false,.b true,.b true,.b true] (.c (show(1==2)=false from rfl) (.c (show(1==3)=false from rfl) (.c (show(1==5)=false from rfl) (.c (show(1==4)=false from rfl) (.c (show(1==8)=false from rfl) (.c (show(1==2)=false from rfl) (.c (show(1==4)=false from rfl) (.c (show(1==8)=false from rfl) (.c (show(1==9)=false from rfl) (.c (show(1==1)=true from rfl) (.c (show(1==1)=true from rfl) (.c (show(1==1)=true from rfl) .n)))))))))))) h
theorem us2_a{e:EntT}(h:List Blk):(Ev Cr Γ0 46 [.agg (aS 2 e)] h (.agg (em 2 e e.stu e.obj e.term e.val 0 0 Dm b5 d6)) h):=by
 exact z0 [.b true,.b true,.b true,.b true,.b false,.b false,.b false,.b false,.b false,.b false,.b false] (.c (show(2==2)=true from rfl) (.c (show(2==2)=true from rfl) (.c (show(2==2)=true from rfl) (.c (show(2==2)=true from rfl) (.c (show(2==1)=false from rfl) (.c (show(2==3)=false from rfl) (.c (show(2==5)=false from rfl) (.c (show(2==4)=false from rfl) (.c (show(2==1)=false from rfl) (.c (show(2==6)=false from rfl) (.c (show(2==7)=false from rfl) .n))))))))))) h
theorem us3_a{e:EntT}(h:List Blk):(Ev Cr Γ0 46 [.agg (aS 3 e)] h (.agg (em 3 e e.stu e.obj 0 e.val e.frm e.til Dm b5 d6)) h):=by
 exact z0 [.b false,.b true,.b true,.b false,.b false,.b false,.b false,.b false,.b true,.b true,.b false,.b false,.b false] (.c (show(3==2)=false from rfl) (.c (show(3==3)=true from rfl) (.c (show(3==3)=true from rfl) (.c (show(3==2)=false from rfl) (.c (show(3==4)=false from rfl) (.c (show(3==8)=false from rfl) (.c (show(3==9)=false from rfl) (.c (show(3==1)=false from rfl) (.c (show(3==3)=true from rfl) (.c (show(3==3)=true from rfl) (.c (show(3==1)=false from rfl) (.c (show(3==6)=false from rfl) (.c (show(3==7)=false from rfl) .n))))))))))))) h
theorem us4_a{e:EntT}(h:List Blk):(Ev Cr Γ0 46 [.agg (aS 4 e)] h (.agg (em 4 e e.stu e.obj e.term e.val e.frm e.til Dm b5 d6)) h):=by
 exact z0 [.b false,.b false,.b false,.b true,.b true,.b false,.b true,.b true,.b false,.b false,.b false,.b true,.b false,.b false,.b false] (.c (show(4==2)=false from rfl) (.c (show(4==3)=false from rfl) (.c (show(4==5)=false from rfl) (.c (show(4==4)=true from rfl) (.c (show(4==4)=true from rfl) (.c (show(4==2)=false from rfl) (.c (show(4==4)=true from rfl) (.c (show(4==4)=true from rfl) (.c (show(4==1)=false from rfl) (.c (show(4==3)=false from rfl) (.c (show(4==5)=false from rfl) (.c (show(4==4)=true from rfl) (.c (show(4==1)=false from rfl) (.c (show(4==6)=false from rfl) (.c (show(4==7)=false from rfl) .n))))))))))))))) h
theorem us5_a{e:EntT}(h:List Blk):(Ev Cr Γ0 46 [.agg (aS 5 e)] h (.agg (em 5 e e.stu e.obj 0 e.val e.frm e.til Dm b5 d6)) h):=by
 exact z0 [.b false,.b false,.b true,.b true,.b false,.b false,.b false,.b false,.b false,.b false,.b true,.b true,.b false,.b false,.b false] (.c (show(5==2)=false from rfl) (.c (show(5==3)=false from rfl) (.c (show(5==5)=true from rfl) (.c (show(5==5)=true from rfl) (.c (show(5==2)=false from rfl) (.c (show(5==4)=false from rfl) (.c (show(5==8)=false from rfl) (.c (show(5==9)=false from rfl) (.c (show(5==1)=false from rfl) (.c (show(5==3)=false from rfl) (.c (show(5==5)=true from rfl) (.c (show(5==5)=true from rfl) (.c (show(5==1)=false from rfl) (.c (show(5==6)=false from rfl) (.c (show(5==7)=false from rfl) .n))))))))))))))) h
theorem us6_a{e:EntT}(h:List Blk):(Ev Cr Γ0 46 [.agg (aS 6 e)] h (.agg (em 6 e 0 0 0 0 0 0 Dm (ge e.sec) d6)) h):=by
 exact z0 [.b false,.b false,.b false,.b false,.b false,.b false,.b false,.b false,.b false,.b false,.b false,.b false,.b false,.b false,.b true] (.c (show(6==2)=false from rfl) (.c (show(6==3)=false from rfl) (.c (show(6==5)=false from rfl) (.c (show(6==4)=false from rfl) (.c (show(6==8)=false from rfl) (.c (show(6==2)=false from rfl) (.c (show(6==4)=false from rfl) (.c (show(6==8)=false from rfl) (.c (show(6==9)=false from rfl) (.c (show(6==1)=false from rfl) (.c (show(6==3)=false from rfl) (.c (show(6==5)=false from rfl) (.c (show(6==4)=false from rfl) (.c (show(6==1)=false from rfl) (.c (show(6==6)=true from rfl) .n))))))))))))))) h
theorem us7_a{e:EntT}(h:List Blk):(Ev Cr Γ0 46 [.agg (aS 7 e)] h (.agg (em 7 e 0 0 0 0 0 0 Dm b5 (rqD e.req.kind e.req))) h):=by
 exact z0 [.b false,.b false,.b false,.b false,.b false,.b false,.b false,.b false,.b false,.b false,.b false,.b false,.b false,.b false,.b false,.b true] (.c (show(7==2)=false from rfl) (.c (show(7==3)=false from rfl) (.c (show(7==5)=false from rfl) (.c (show(7==4)=false from rfl) (.c (show(7==8)=false from rfl) (.c (show(7==2)=false from rfl) (.c (show(7==4)=false from rfl) (.c (show(7==8)=false from rfl) (.c (show(7==9)=false from rfl) (.c (show(7==1)=false from rfl) (.c (show(7==3)=false from rfl) (.c (show(7==5)=false from rfl) (.c (show(7==4)=false from rfl) (.c (show(7==1)=false from rfl) (.c (show(7==6)=false from rfl) (.c (show(7==7)=true from rfl) .n)))))))))))))))) h
theorem us8_a{e:EntT}(h:List Blk):(Ev Cr Γ0 46 [.agg (aS 8 e)] h (.agg (em 8 e e.stu e.obj e.term e.val 0 0 Dm b5 d6)) h):=by
 exact z0 [.b false,.b false,.b false,.b false,.b true,.b false,.b false,.b true,.b true,.b false,.b false,.b false,.b false,.b false,.b false,.b false] (.c (show(8==2)=false from rfl) (.c (show(8==3)=false from rfl) (.c (show(8==5)=false from rfl) (.c (show(8==4)=false from rfl) (.c (show(8==8)=true from rfl) (.c (show(8==2)=false from rfl) (.c (show(8==4)=false from rfl) (.c (show(8==8)=true from rfl) (.c (show(8==8)=true from rfl) (.c (show(8==1)=false from rfl) (.c (show(8==3)=false from rfl) (.c (show(8==5)=false from rfl) (.c (show(8==4)=false from rfl) (.c (show(8==1)=false from rfl) (.c (show(8==6)=false from rfl) (.c (show(8==7)=false from rfl) .n)))))))))))))))) h
theorem us9_a{e:EntT}(h:List Blk):(Ev Cr Γ0 46 [.agg (aS 9 e)] h (.agg (em 9 e 0 0 e.term 0 0 0 Dm b5 d6)) h):=by
 exact z0 [.b false,.b false,.b false,.b false,.b false,.b false,.b false,.b false,.b true,.b false,.b false,.b false,.b false,.b false,.b false,.b false] (.c (show(9==2)=false from rfl) (.c (show(9==3)=false from rfl) (.c (show(9==5)=false from rfl) (.c (show(9==4)=false from rfl) (.c (show(9==8)=false from rfl) (.c (show(9==2)=false from rfl) (.c (show(9==4)=false from rfl) (.c (show(9==8)=false from rfl) (.c (show(9==9)=true from rfl) (.c (show(9==1)=false from rfl) (.c (show(9==3)=false from rfl) (.c (show(9==5)=false from rfl) (.c (show(9==4)=false from rfl) (.c (show(9==1)=false from rfl) (.c (show(9==6)=false from rfl) (.c (show(9==7)=false from rfl) .n)))))))))))))))) h
def dm(e:EntT):Bool:=e.val == -1||Qd (e.val≥0)&&Qd (e.val.tmod 16≤12)&&Qd (Ct.wrap (e.val.tdiv 16)<7)
def iM(b:Bool):Int:=match b with
 | true=>370
 | false=>0
theorem nz(b:Bool):iM (!b)=mustR b:=by cases b<;>rfl
def aR(e:EntT):Bool:=Qd (e.frm≥0)&&Qd (e.frm<e.til)&&Qd (e.til≤1024)
noncomputable abbrev jH(e:EntT):List Blk:=[.var [int e.time,int e.campus,int e.no,int 1,int e.stu,int e.obj,int e.term,int e.val,int e.frm,int e.til,aw e.text,int e.sec.id,int e.sec.course,int e.sec.term,int e.sec.campus,int e.sec.seats,aa (Cq CE e.sec.mts),aa (Cq CA e.sec.grs),aa (Cq ab e.sec.labs),bool e.sec.lab,int e.req.campus,int e.req.no,int e.req.st,int e.req.kind,int e.req.time,aa (Cq Cv e.req.chs),int e.req.gsec,int e.req.glab,int e.req.key,int e.r,int e.s]]
theorem fd1_a{e:EntT}(h:List Blk):(Ev Cr Γ0 47 [.agg (aS 1 e)] h (int (iM (!(aR e&&Qd ((e.text.size:Int)≤65536))))) h):=by
 cases hc0:!(Qd (e.frm≥0)&&Qd (e.frm<e.til)&&Qd (e.til≤1024)&&Qd ((↑(ByteArray.size e.text):Int)≤65536))
 ·exact zD (int 0) [.val (bool (inS e.stu 0 19999)),.val (bool (inS e.term 0 1023)),.b true,.b false] (.c (@aB (e.stu) 0 19999 (jH e)) (.c (@aB (e.term) 0 1023 (jH e)) (.c (show(1==1)=true from rfl) (.c hc0 .n)))) h (by first|rfl|(have hh:(!(aR e&&Qd ((e.text.size:Int)≤65536)))=true:=hc0;rw[hh];rfl)|(have hh:(!(aR e&&Qd ((e.text.size:Int)≤65536)))=false:=hc0;rw[hh];rfl))
 ·exact zD (int 370) [.val (bool (inS e.stu 0 19999)),.val (bool (inS e.term 0 1023)),.b true,.b true] (.c (@aB (e.stu) 0 19999 (jH e)) (.c (@aB (e.term) 0 1023 (jH e)) (.c (show(1==1)=true from rfl) (.c hc0 .n)))) h (by first|rfl|(have hh:(!(aR e&&Qd ((e.text.size:Int)≤65536)))=true:=hc0;rw[hh];rfl)|(have hh:(!(aR e&&Qd ((e.text.size:Int)≤65536)))=false:=hc0;rw[hh];rfl))
noncomputable abbrev fo(e:EntT):List Blk:=[.var [int e.time,int e.campus,int e.no,int 2,int e.stu,int e.obj,int e.term,int e.val,int e.frm,int e.til,aw e.text,int e.sec.id,int e.sec.course,int e.sec.term,int e.sec.campus,int e.sec.seats,aa (Cq CE e.sec.mts),aa (Cq CA e.sec.grs),aa (Cq ab e.sec.labs),bool e.sec.lab,int e.req.campus,int e.req.no,int e.req.st,int e.req.kind,int e.req.time,aa (Cq Cv e.req.chs),int e.req.gsec,int e.req.glab,int e.req.key,int e.r,int e.s]]
theorem fd2_a{e:EntT}(h:List Blk):(Ev Cr Γ0 47 [.agg (aS 2 e)] h (int (iM (!(inS e.stu 0 19999&&inS e.term 0 1023&&inS e.obj 0 4095&&dm e)))) h):=by
 cases hc0:!(inS e.stu 0 19999&&inS e.term 0 1023&&inS e.obj 0 4095&&(e.val == -1||Qd (e.val≥0)&&Qd (Int.tmod e.val 16≤12)&&Qd (Cz Ct (Int.tdiv e.val 16)<7)))
 ·exact zD (int 0) [.val (bool (inS e.stu 0 19999)),.val (bool (inS e.term 0 1023)),.b false,.b true,.val (bool (inS e.obj 0 4095)),.b false] (.c (@aB (e.stu) 0 19999 (fo e)) (.c (@aB (e.term) 0 1023 (fo e)) (.c (show(2==1)=false from rfl) (.c (show(2==2)=true from rfl) (.c (gd (inS e.stu 0 19999&&inS e.term 0 1023) (@aB (e.obj) 0 4095 (fo e))) (.c (show(inS e.stu 0 19999&&inS e.term 0 1023&&inS e.obj 0 4095&&!e.val == -1&&Qd (e.val≥0))=true→(!Qd (16=0))=true from(fun hg=>rfl)) (.c (show(inS e.stu 0 19999&&inS e.term 0 1023&&inS e.obj 0 4095&&!e.val == -1&&(Qd (e.val≥0)&&Qd (Int.tmod e.val 16≤12)))=true→(!Qd (16=0))=true from(fun hg=>rfl)) (.c hc0 .n)))))))) h (by first|rfl|(have hh:(!(inS e.stu 0 19999&&inS e.term 0 1023&&inS e.obj 0 4095&&dm e))=true:=hc0;rw[hh];rfl)|(have hh:(!(inS e.stu 0 19999&&inS e.term 0 1023&&inS e.obj 0 4095&&dm e))=false:=hc0;rw[hh];rfl))
 ·exact zD (int 370) [.val (bool (inS e.stu 0 19999)),.val (bool (inS e.term 0 1023)),.b false,.b true,.val (bool (inS e.obj 0 4095)),.b true] (.c (@aB (e.stu) 0 19999 (fo e)) (.c (@aB (e.term) 0 1023 (fo e)) (.c (show(2==1)=false from rfl) (.c (show(2==2)=true from rfl) (.c (gd (inS e.stu 0 19999&&inS e.term 0 1023) (@aB (e.obj) 0 4095 (fo e))) (.c (show(inS e.stu 0 19999&&inS e.term 0 1023&&inS e.obj 0 4095&&!e.val == -1&&Qd (e.val≥0))=true→(!Qd (16=0))=true from(fun hg=>rfl)) (.c (show(inS e.stu 0 19999&&inS e.term 0 1023&&inS e.obj 0 4095&&!e.val == -1&&(Qd (e.val≥0)&&Qd (Int.tmod e.val 16≤12)))=true→(!Qd (16=0))=true from(fun hg=>rfl)) (.c hc0 .n)))))))) h (by first|rfl|(have hh:(!(inS e.stu 0 19999&&inS e.term 0 1023&&inS e.obj 0 4095&&dm e))=true:=hc0;rw[hh];rfl)|(have hh:(!(inS e.stu 0 19999&&inS e.term 0 1023&&inS e.obj 0 4095&&dm e))=false:=hc0;rw[hh];rfl))
noncomputable abbrev fp(e:EntT):List Blk:=[.var [int e.time,int e.campus,int e.no,int 3,int e.stu,int e.obj,int e.term,int e.val,int e.frm,int e.til,aw e.text,int e.sec.id,int e.sec.course,int e.sec.term,int e.sec.campus,int e.sec.seats,aa (Cq CE e.sec.mts),aa (Cq CA e.sec.grs),aa (Cq ab e.sec.labs),bool e.sec.lab,int e.req.campus,int e.req.no,int e.req.st,int e.req.kind,int e.req.time,aa (Cq Cv e.req.chs),int e.req.gsec,int e.req.glab,int e.req.key,int e.r,int e.s]]
theorem fd3_a{e:EntT}(h:List Blk):(Ev Cr Γ0 47 [.agg (aS 3 e)] h (int (iM (!(inS e.stu 0 19999&&aR e&&inS e.obj 0 7&&(e.val==1||e.val == -1))))) h):=by
 cases hc0:!(inS e.stu 0 19999&&(Qd (e.frm≥0)&&Qd (e.frm<e.til)&&Qd (e.til≤1024))&&inS e.obj 0 7&&(e.val==1||e.val == -1))
 ·exact zD (int 0) [.val (bool (inS e.stu 0 19999)),.val (bool (inS e.term 0 1023)),.b false,.b false,.b true,.b true,.val (bool (inS e.obj 0 7)),.b false] (.c (@aB (e.stu) 0 19999 (fp e)) (.c (@aB (e.term) 0 1023 (fp e)) (.c (show(3==1)=false from rfl) (.c (show(3==2)=false from rfl) (.c (show(3==3)=true from rfl) (.c (show(3==3)=true from rfl) (.c (gd (inS e.stu 0 19999&&(Qd (e.frm≥0)&&Qd (e.frm<e.til)&&Qd (e.til≤1024))) (@aB (e.obj) 0 7 (fp e))) (.c hc0 .n)))))))) h (by first|rfl|(have hh:(!(inS e.stu 0 19999&&aR e&&inS e.obj 0 7&&(e.val==1||e.val == -1)))=true:=hc0;rw[hh];rfl)|(have hh:(!(inS e.stu 0 19999&&aR e&&inS e.obj 0 7&&(e.val==1||e.val == -1)))=false:=hc0;rw[hh];rfl))
 ·exact zD (int 370) [.val (bool (inS e.stu 0 19999)),.val (bool (inS e.term 0 1023)),.b false,.b false,.b true,.b true,.val (bool (inS e.obj 0 7)),.b true] (.c (@aB (e.stu) 0 19999 (fp e)) (.c (@aB (e.term) 0 1023 (fp e)) (.c (show(3==1)=false from rfl) (.c (show(3==2)=false from rfl) (.c (show(3==3)=true from rfl) (.c (show(3==3)=true from rfl) (.c (gd (inS e.stu 0 19999&&(Qd (e.frm≥0)&&Qd (e.frm<e.til)&&Qd (e.til≤1024))) (@aB (e.obj) 0 7 (fp e))) (.c hc0 .n)))))))) h (by first|rfl|(have hh:(!(inS e.stu 0 19999&&aR e&&inS e.obj 0 7&&(e.val==1||e.val == -1)))=true:=hc0;rw[hh];rfl)|(have hh:(!(inS e.stu 0 19999&&aR e&&inS e.obj 0 7&&(e.val==1||e.val == -1)))=false:=hc0;rw[hh];rfl))
noncomputable abbrev cq(e:EntT):List Blk:=[.var [int e.time,int e.campus,int e.no,int 4,int e.stu,int e.obj,int e.term,int e.val,int e.frm,int e.til,aw e.text,int e.sec.id,int e.sec.course,int e.sec.term,int e.sec.campus,int e.sec.seats,aa (Cq CE e.sec.mts),aa (Cq CA e.sec.grs),aa (Cq ab e.sec.labs),bool e.sec.lab,int e.req.campus,int e.req.no,int e.req.st,int e.req.kind,int e.req.time,aa (Cq Cv e.req.chs),int e.req.gsec,int e.req.glab,int e.req.key,int e.r,int e.s]]
theorem fd4_a{e:EntT}(h:List Blk):(Ev Cr Γ0 47 [.agg (aS 4 e)] h (int (iM (!(inS e.stu 0 19999&&aR e&&inS e.obj 0 (c8 e.term)&&(e.val == -1||inS e.val 1 1099511627776))))) h):=by
 cases hc0:!(inS e.stu 0 19999&&(Qd (e.frm≥0)&&Qd (e.frm<e.til)&&Qd (e.til≤1024))&&inS e.obj 0 (c8 e.term)&&(e.val == -1||inS e.val 1 1099511627776))
 ·exact zD (int 0) [.val (bool (inS e.stu 0 19999)),.val (bool (inS e.term 0 1023)),.b false,.b false,.b false,.b false,.b true,.val (int (c8 e.term)),.val (bool (inS e.obj 0 (c8 e.term))),.val (bool (inS e.val 1 1099511627776)),.b false] (.c (@aB (e.stu) 0 19999 (cq e)) (.c (@aB (e.term) 0 1023 (cq e)) (.c (show(4==1)=false from rfl) (.c (show(4==2)=false from rfl) (.c (show(4==3)=false from rfl) (.c (show(4==5)=false from rfl) (.c (show(4==4)=true from rfl) (.c (gd (inS e.stu 0 19999&&(Qd (e.frm≥0)&&Qd (e.frm<e.til)&&Qd (e.til≤1024))) (@pi (e.term) (cq e))) (.c (gd (inS e.stu 0 19999&&(Qd (e.frm≥0)&&Qd (e.frm<e.til)&&Qd (e.til≤1024))) (@aB (e.obj) 0 (c8 e.term) (cq e))) (.c (gd (inS e.stu 0 19999&&(Qd (e.frm≥0)&&Qd (e.frm<e.til)&&Qd (e.til≤1024))&&inS e.obj 0 (c8 e.term)&&!e.val == -1) (@aB (e.val) 1 1099511627776 (cq e))) (.c hc0 .n))))))))))) h (by first|rfl|(have hh:(!(inS e.stu 0 19999&&aR e&&inS e.obj 0 (c8 e.term)&&(e.val == -1||inS e.val 1 1099511627776)))=true:=hc0;rw[hh];rfl)|(have hh:(!(inS e.stu 0 19999&&aR e&&inS e.obj 0 (c8 e.term)&&(e.val == -1||inS e.val 1 1099511627776)))=false:=hc0;rw[hh];rfl))
 ·exact zD (int 370) [.val (bool (inS e.stu 0 19999)),.val (bool (inS e.term 0 1023)),.b false,.b false,.b false,.b false,.b true,.val (int (c8 e.term)),.val (bool (inS e.obj 0 (c8 e.term))),.val (bool (inS e.val 1 1099511627776)),.b true] (.c (@aB (e.stu) 0 19999 (cq e)) (.c (@aB (e.term) 0 1023 (cq e)) (.c (show(4==1)=false from rfl) (.c (show(4==2)=false from rfl) (.c (show(4==3)=false from rfl) (.c (show(4==5)=false from rfl) (.c (show(4==4)=true from rfl) (.c (gd (inS e.stu 0 19999&&(Qd (e.frm≥0)&&Qd (e.frm<e.til)&&Qd (e.til≤1024))) (@pi (e.term) (cq e))) (.c (gd (inS e.stu 0 19999&&(Qd (e.frm≥0)&&Qd (e.frm<e.til)&&Qd (e.til≤1024))) (@aB (e.obj) 0 (c8 e.term) (cq e))) (.c (gd (inS e.stu 0 19999&&(Qd (e.frm≥0)&&Qd (e.frm<e.til)&&Qd (e.til≤1024))&&inS e.obj 0 (c8 e.term)&&!e.val == -1) (@aB (e.val) 1 1099511627776 (cq e))) (.c hc0 .n))))))))))) h (by first|rfl|(have hh:(!(inS e.stu 0 19999&&aR e&&inS e.obj 0 (c8 e.term)&&(e.val == -1||inS e.val 1 1099511627776)))=true:=hc0;rw[hh];rfl)|(have hh:(!(inS e.stu 0 19999&&aR e&&inS e.obj 0 (c8 e.term)&&(e.val == -1||inS e.val 1 1099511627776)))=false:=hc0;rw[hh];rfl))
noncomputable abbrev ft(e:EntT):List Blk:=[.var [int e.time,int e.campus,int e.no,int 5,int e.stu,int e.obj,int e.term,int e.val,int e.frm,int e.til,aw e.text,int e.sec.id,int e.sec.course,int e.sec.term,int e.sec.campus,int e.sec.seats,aa (Cq CE e.sec.mts),aa (Cq CA e.sec.grs),aa (Cq ab e.sec.labs),bool e.sec.lab,int e.req.campus,int e.req.no,int e.req.st,int e.req.kind,int e.req.time,aa (Cq Cv e.req.chs),int e.req.gsec,int e.req.glab,int e.req.key,int e.r,int e.s]]
theorem fd5_a{e:EntT}(h:List Blk):(Ev Cr Γ0 47 [.agg (aS 5 e)] h (int (iM (!(inS e.stu 0 19999&&aR e&&inS e.obj 0 7&&(e.val==1||e.val == -1))))) h):=by
 cases hc0:!(inS e.stu 0 19999&&(Qd (e.frm≥0)&&Qd (e.frm<e.til)&&Qd (e.til≤1024))&&inS e.obj 0 7&&(e.val==1||e.val == -1))
 ·exact zD (int 0) [.val (bool (inS e.stu 0 19999)),.val (bool (inS e.term 0 1023)),.b false,.b false,.b false,.b true,.val (bool (inS e.obj 0 7)),.b false] (.c (@aB (e.stu) 0 19999 (ft e)) (.c (@aB (e.term) 0 1023 (ft e)) (.c (show(5==1)=false from rfl) (.c (show(5==2)=false from rfl) (.c (show(5==3)=false from rfl) (.c (show(5==5)=true from rfl) (.c (gd (inS e.stu 0 19999&&(Qd (e.frm≥0)&&Qd (e.frm<e.til)&&Qd (e.til≤1024))) (@aB (e.obj) 0 7 (ft e))) (.c hc0 .n)))))))) h (by first|rfl|(have hh:(!(inS e.stu 0 19999&&aR e&&inS e.obj 0 7&&(e.val==1||e.val == -1)))=true:=hc0;rw[hh];rfl)|(have hh:(!(inS e.stu 0 19999&&aR e&&inS e.obj 0 7&&(e.val==1||e.val == -1)))=false:=hc0;rw[hh];rfl))
 ·exact zD (int 370) [.val (bool (inS e.stu 0 19999)),.val (bool (inS e.term 0 1023)),.b false,.b false,.b false,.b true,.val (bool (inS e.obj 0 7)),.b true] (.c (@aB (e.stu) 0 19999 (ft e)) (.c (@aB (e.term) 0 1023 (ft e)) (.c (show(5==1)=false from rfl) (.c (show(5==2)=false from rfl) (.c (show(5==3)=false from rfl) (.c (show(5==5)=true from rfl) (.c (gd (inS e.stu 0 19999&&(Qd (e.frm≥0)&&Qd (e.frm<e.til)&&Qd (e.til≤1024))) (@aB (e.obj) 0 7 (ft e))) (.c hc0 .n)))))))) h (by first|rfl|(have hh:(!(inS e.stu 0 19999&&aR e&&inS e.obj 0 7&&(e.val==1||e.val == -1)))=true:=hc0;rw[hh];rfl)|(have hh:(!(inS e.stu 0 19999&&aR e&&inS e.obj 0 7&&(e.val==1||e.val == -1)))=false:=hc0;rw[hh];rfl))
noncomputable abbrev jI(e:EntT):List Blk:=[.var [int e.time,int e.campus,int e.no,int 9,int e.stu,int e.obj,int e.term,int e.val,int e.frm,int e.til,aw e.text,int e.sec.id,int e.sec.course,int e.sec.term,int e.sec.campus,int e.sec.seats,aa (Cq CE e.sec.mts),aa (Cq CA e.sec.grs),aa (Cq ab e.sec.labs),bool e.sec.lab,int e.req.campus,int e.req.no,int e.req.st,int e.req.kind,int e.req.time,aa (Cq Cv e.req.chs),int e.req.gsec,int e.req.glab,int e.req.key,int e.r,int e.s]]
theorem fd9_a{e:EntT}(h:List Blk):(Ev Cr Γ0 47 [.agg (aS 9 e)] h (int (iM (!(inS e.term 0 1023)))) h):=by
 cases hc0:!inS e.term 0 1023
 ·exact zD (int 0) [.val (bool (inS e.stu 0 19999)),.val (bool (inS e.term 0 1023)),.b false,.b false,.b false,.b false,.b false,.b false,.b false,.b false,.b true,.b false] (.c (@aB (e.stu) 0 19999 (jI e)) (.c (@aB (e.term) 0 1023 (jI e)) (.c (show(9==1)=false from rfl) (.c (show(9==2)=false from rfl) (.c (show(9==3)=false from rfl) (.c (show(9==5)=false from rfl) (.c (show(9==4)=false from rfl) (.c (show(9==6)=false from rfl) (.c (show(9==7)=false from rfl) (.c (show(9==8)=false from rfl) (.c (show(9==9)=true from rfl) (.c hc0 .n)))))))))))) h (by first|rfl|(have hh:(!(inS e.term 0 1023))=true:=hc0;rw[hh];rfl)|(have hh:(!(inS e.term 0 1023))=false:=hc0;rw[hh];rfl))
 ·exact zD (int 370) [.val (bool (inS e.stu 0 19999)),.val (bool (inS e.term 0 1023)),.b false,.b false,.b false,.b false,.b false,.b false,.b false,.b false,.b true,.b true] (.c (@aB (e.stu) 0 19999 (jI e)) (.c (@aB (e.term) 0 1023 (jI e)) (.c (show(9==1)=false from rfl) (.c (show(9==2)=false from rfl) (.c (show(9==3)=false from rfl) (.c (show(9==5)=false from rfl) (.c (show(9==4)=false from rfl) (.c (show(9==6)=false from rfl) (.c (show(9==7)=false from rfl) (.c (show(9==8)=false from rfl) (.c (show(9==9)=true from rfl) (.c hc0 .n)))))))))))) h (by first|rfl|(have hh:(!(inS e.term 0 1023))=true:=hc0;rw[hh];rfl)|(have hh:(!(inS e.term 0 1023))=false:=hc0;rw[hh];rfl))
noncomputable abbrev nA(e:EntT):List Blk:=[.var [int e.time,int e.campus,int e.no,int 6,int e.stu,int e.obj,int e.term,int e.val,int e.frm,int e.til,aw e.text,int e.sec.id,int e.sec.course,int e.sec.term,int e.sec.campus,int e.sec.seats,aa (Cq CE e.sec.mts),aa (Cq CA e.sec.grs),aa (Cq ab e.sec.labs),bool e.sec.lab,int e.req.campus,int e.req.no,int e.req.st,int e.req.kind,int e.req.time,aa (Cq Cv e.req.chs),int e.req.gsec,int e.req.glab,int e.req.key,int e.r,int e.s]]
theorem fd6_a{e:EntT}{r:Int}(hr:∀h,Ev Cr Γ0 79 [.agg (ge e.sec)] h (int r) h)(h:List Blk):(Ev Cr Γ0 47 [.agg (aS 6 e)] h (int r) h):=by
 exact z0 [.val (bool (inS e.stu 0 19999)),.val (bool (inS e.term 0 1023)),.b false,.b false,.b false,.b false,.b false,.b true,.val (int r)] (.c (@aB (e.stu) 0 19999 (nA e)) (.c (@aB (e.term) 0 1023 (nA e)) (.c (show(6==1)=false from rfl) (.c (show(6==2)=false from rfl) (.c (show(6==3)=false from rfl) (.c (show(6==5)=false from rfl) (.c (show(6==4)=false from rfl) (.c (show(6==6)=true from rfl) (.c (@hr (nA e)) .n))))))))) h
noncomputable abbrev nB(e:EntT):List Blk:=[.var [int e.time,int e.campus,int e.no,int 7,int e.stu,int e.obj,int e.term,int e.val,int e.frm,int e.til,aw e.text,int e.sec.id,int e.sec.course,int e.sec.term,int e.sec.campus,int e.sec.seats,aa (Cq CE e.sec.mts),aa (Cq CA e.sec.grs),aa (Cq ab e.sec.labs),bool e.sec.lab,int e.req.campus,int e.req.no,int e.req.st,int e.req.kind,int e.req.time,aa (Cq Cv e.req.chs),int e.req.gsec,int e.req.glab,int e.req.key,int e.r,int e.s]]
theorem fd7_a{e:EntT}{r:Int}(hr:∀h,Ev Cr Γ0 80 [.agg (rqD e.req.kind e.req)] h (int r) h)(h:List Blk):(Ev Cr Γ0 47 [.agg (aS 7 e)] h (int r) h):=by
 exact z0 [.val (bool (inS e.stu 0 19999)),.val (bool (inS e.term 0 1023)),.b false,.b false,.b false,.b false,.b false,.b false,.b true,.val (int r)] (.c (@aB (e.stu) 0 19999 (nB e)) (.c (@aB (e.term) 0 1023 (nB e)) (.c (show(7==1)=false from rfl) (.c (show(7==2)=false from rfl) (.c (show(7==3)=false from rfl) (.c (show(7==5)=false from rfl) (.c (show(7==4)=false from rfl) (.c (show(7==6)=false from rfl) (.c (show(7==7)=true from rfl) (.c (@hr (nB e)) .n)))))))))) h
noncomputable abbrev jJ(e:EntT):List Blk:=[.var [int e.time,int e.campus,int e.no,int 8,int e.stu,int e.obj,int e.term,int e.val,int e.frm,int e.til,aw e.text,int e.sec.id,int e.sec.course,int e.sec.term,int e.sec.campus,int e.sec.seats,aa (Cq CE e.sec.mts),aa (Cq CA e.sec.grs),aa (Cq ab e.sec.labs),bool e.sec.lab,int e.req.campus,int e.req.no,int e.req.st,int e.req.kind,int e.req.time,aa (Cq Cv e.req.chs),int e.req.gsec,int e.req.glab,int e.req.key,int e.r,int e.s]]
theorem fd8_a{e:EntT}(h:List Blk):(Ev Cr Γ0 47 [.agg (aS 8 e)] h (int (ek ⟨e.val,e.stu,e.obj,e.term⟩)) h):=by
 exact z0 [.val (bool (inS e.stu 0 19999)),.val (bool (inS e.term 0 1023)),.b false,.b false,.b false,.b false,.b false,.b false,.b false,.b true,.val (D.agg [int e.val,int e.stu,int e.obj,int e.term]),.val (int (ek {kind:=e.val,st:=e.stu,obj:=e.obj,term:=e.term}))] (.c (@aB (e.stu) 0 19999 (jJ e)) (.c (@aB (e.term) 0 1023 (jJ e)) (.c (show(8==1)=false from rfl) (.c (show(8==2)=false from rfl) (.c (show(8==3)=false from rfl) (.c (show(8==5)=false from rfl) (.c (show(8==4)=false from rfl) (.c (show(8==6)=false from rfl) (.c (show(8==7)=false from rfl) (.c (show(8==8)=true from rfl) (.c (@xl ({time:=e.time,campus:=e.campus,no:=e.no,kind:=8,stu:=e.stu,obj:=e.obj,term:=e.term,val:=e.val,frm:=e.frm,til:=e.til,text:=e.text,sec:=e.sec,req:=e.req,r:=e.r,s:=e.s}) (jJ e)) (.c (@uP ({kind:=e.val,st:=e.stu,obj:=e.obj,term:=e.term}) (jJ e)) .n)))))))))))) h
abbrev foS(s:SecT)(all i:Int):AS:={t:=mkT 174 0 [(1,.ref (.ptr 0 0)),(3,int all),(4,int i)],h:=[.var (ge s)],m:=[]}
abbrev foX(s:SecT):AS:={t:=mkT 174 0 [(2,bool false)],h:=[.var (ge s)],m:=[]}
abbrev foE(s:SecT)(all:Int):AS:={t:=mkT 174 0 [(1,.ref (.ptr 0 0)),(3,int all)],h:=[.var (ge s)],m:=[]}
def iO(g:GrT)(b:Bool):Bool:=Qd (g.grp<0)||Qd (g.grp≥8)||b||Qd (g.seats<0)||Qd (g.seats>4096)||Qd (g.til<0)||Qd (g.til>1048576)
theorem fo0_ok{s:SecT}{g p:GrT}{all:Int}(hr:ad 0 (s.grs.map CA) g.row 3)(hp:False→ad (Cz Ct (0 - 1)) (s.grs.map CA) p.row 3)(hlt:Qd ((0:Int)<((s.grs.map CA).length:Int))=true)(hb:(Qd (g.grp<0)||Qd (g.grp≥8)||(Qd ((0:Int)>0)&&Qd (p.grp≥g.grp))||Qd (g.seats<0)||Qd (g.seats>4096)||Qd (g.til<0)||Qd (g.til>1048576))=false):(CW Cr Γ0 [] false (sub Em 0) (foS s all 0) .normal (foS s (Ct.wrap (all+g.seats)) 1)):=by
 refine zX {t:=mkT 174 0 [(1,.ref (.ptr 0 0)),(3,int (Cz Ct (all+g.seats))),(4,int (Cz Ct (0+1)))],h:=[.var [int s.id,int s.course,int s.term,int s.campus,int s.seats,aa (Cq CE s.mts),aa (Cq CA s.grs),aa (Cq ab s.labs),bool s.lab]],m:=[]} C7 [.st (.mask [1,3,4]),.st (.trim 1)] [.b true,.row [vi g.grp,vi g.seats,vi g.til],.row [vi p.grp,vi p.seats,vi p.til],.b false] (.c hlt (.c hr (.c (show(!(Qd (g.grp<0)||Qd (g.grp≥8))&&Qd (0>0))=true→ad (Cz Ct (0 - 1)) (Cq CA s.grs) [vi p.grp,vi p.seats,vi p.til] 3 from(fun hg=>(hp (by first|exact hg|(simp at hg;done))))) (.c hb .n)))) ?_ ?_<;>(first|rfl|(rw[hw]<;>rfl))
theorem A6{s:SecT}{g p:GrT}{all:Int}(hr:ad 0 (s.grs.map CA) g.row 3)(hp:False→ad (Cz Ct (0 - 1)) (s.grs.map CA) p.row 3)(hlt:Qd ((0:Int)<((s.grs.map CA).length:Int))=true)(hb:(Qd (g.grp<0)||Qd (g.grp≥8)||(Qd ((0:Int)>0)&&Qd (p.grp≥g.grp))||Qd (g.seats<0)||Qd (g.seats>4096)||Qd (g.til<0)||Qd (g.til>1048576))=true):(CW Cr Γ0 [] false (sub Em 0) (foS s all 0) .ret (foX s)):=by
 exact zx [.st (.mask [2]),.st (.trim 1)] [.b true,.row [vi g.grp,vi g.seats,vi g.til],.row [vi p.grp,vi p.seats,vi p.til],.b true] (.c hlt (.c hr (.c (show(!(Qd (g.grp<0)||Qd (g.grp≥8))&&Qd (0>0))=true→ad (Cz Ct (0 - 1)) (Cq CA s.grs) [vi p.grp,vi p.seats,vi p.til] 3 from(fun hg=>(hp (by first|exact hg|(simp at hg;done))))) (.c hb .n))))
theorem foN_ok{s:SecT}{g p:GrT}{all:Int}{i:Nat}(hr:ad (i:Int) (s.grs.map CA) g.row 3)(hp:ad (Cz Ct ((i:Int) - 1)) (s.grs.map CA) p.row 3)(hlt:Qd ((i:Int)<((s.grs.map CA).length:Int))=true)(hw:Ct.wrap ((i:Int)+1)=((i+1:Nat):Int))(hb:(Qd (g.grp<0)||Qd (g.grp≥8)||(Qd ((i:Int)>0)&&Qd (p.grp≥g.grp))||Qd (g.seats<0)||Qd (g.seats>4096)||Qd (g.til<0)||Qd (g.til>1048576))=false):(CW Cr Γ0 [] false (sub Em 0) (foS s all (i:Int)) .normal (foS s (Ct.wrap (all+g.seats)) ((i+1:Nat):Int))):=by
 refine zX {t:=mkT 174 0 [(1,.ref (.ptr 0 0)),(3,int (Cz Ct (all+g.seats))),(4,int (Cz Ct ((↑i:Int)+1)))],h:=[.var [int s.id,int s.course,int s.term,int s.campus,int s.seats,aa (Cq CE s.mts),aa (Cq CA s.grs),aa (Cq ab s.labs),bool s.lab]],m:=[]} C7 [.st (.mask [1,3,4]),.st (.trim 1)] [.b true,.row [vi g.grp,vi g.seats,vi g.til],.row [vi p.grp,vi p.seats,vi p.til],.b false] (.c hlt (.c hr (.c (show(!(Qd (g.grp<0)||Qd (g.grp≥8))&&Qd ((↑i:Int)>0))=true→ad (Cz Ct ((↑i:Int) - 1)) (Cq CA s.grs) [vi p.grp,vi p.seats,vi p.til] 3 from(fun hg=>hp)) (.c hb .n)))) ?_ ?_<;>(first|rfl|(rw[hw]<;>rfl))
theorem A7{s:SecT}{g p:GrT}{all:Int}{i:Nat}(hr:ad (i:Int) (s.grs.map CA) g.row 3)(hp:ad (Cz Ct ((i:Int) - 1)) (s.grs.map CA) p.row 3)(hlt:Qd ((i:Int)<((s.grs.map CA).length:Int))=true)(hb:(Qd (g.grp<0)||Qd (g.grp≥8)||(Qd ((i:Int)>0)&&Qd (p.grp≥g.grp))||Qd (g.seats<0)||Qd (g.seats>4096)||Qd (g.til<0)||Qd (g.til>1048576))=true):(CW Cr Γ0 [] false (sub Em 0) (foS s all (i:Int)) .ret (foX s)):=by
 exact zx [.st (.mask [2]),.st (.trim 1)] [.b true,.row [vi g.grp,vi g.seats,vi g.til],.row [vi p.grp,vi p.seats,vi p.til],.b true] (.c hlt (.c hr (.c (show(!(Qd (g.grp<0)||Qd (g.grp≥8))&&Qd ((↑i:Int)>0))=true→ad (Cz Ct ((↑i:Int) - 1)) (Cq CA s.grs) [vi p.grp,vi p.seats,vi p.til] 3 from(fun hg=>hp)) (.c hb .n))))
theorem A8{s:SecT}{all:Int}{i:Nat}(hlt:Qd ((i:Int)<((s.grs.map CA).length:Int))=false):(CW Cr Γ0 [] false (sub Em 0) (foS s all i) (.exit 0) (foE s all)):=by
 exact zx [.st (.mask [1,3])] [.b false] (.c hlt .n)
abbrev vn(s:SecT)(all i:Int):AS:={t:=mkT 174 0 [(1,.ref (.ptr 0 0)),(3,int all),(6,int i)],h:=[.var (ge s)],m:=[]}
theorem fb0_ok{s:SecT}{n q all:Int}(hr:ad 0 (s.labs.map ab) [vi n] 1)(hp:False→ad (Cz Ct (0 - 1)) (s.labs.map ab) [vi q] 1)(hlt:Qd ((0:Int)<((s.labs.map ab).length:Int))=true)(hb:(Qd (n<0)||Qd (n≥4000)||(Qd ((0:Int)>0)&&Qd (q≥n)))=false):(CW Cr Γ0 [] false (sub Em 1) (vn s all 0) .normal (vn s all 1)):=by
 refine zX {t:=mkT 174 0 [(1,.ref (.ptr 0 0)),(3,int all),(6,int (Cz Ct (0+1)))],h:=[.var [int s.id,int s.course,int s.term,int s.campus,int s.seats,aa (Cq CE s.mts),aa (Cq CA s.grs),aa (Cq ab s.labs),bool s.lab]],m:=[]} C7 [.st (.mask [1,3,6]),.st (.trim 1)] [.b true,.row [vi n],.row [vi n],.row [vi q],.row [vi n],.b false] (.c hlt (.c hr (.c (show(!Qd (n<0))=true→ad 0 (Cq ab s.labs) [vi n] 1 from(fun hg=>hr)) (.c (show(!(Qd (n<0)||Qd (n≥4000))&&Qd (0>0))=true→ad (Cz Ct (0 - 1)) (Cq ab s.labs) [vi q] 1 from(fun hg=>(hp (by first|exact hg|(simp at hg;done))))) (.c (show(!(Qd (n<0)||Qd (n≥4000))&&Qd (0>0))=true→ad 0 (Cq ab s.labs) [vi n] 1 from(fun hg=>hr)) (.c hb .n)))))) ?_ ?_<;>(first|rfl|(rw[hw]<;>rfl))
theorem A9{s:SecT}{n q all:Int}(hr:ad 0 (s.labs.map ab) [vi n] 1)(hp:False→ad (Cz Ct (0 - 1)) (s.labs.map ab) [vi q] 1)(hlt:Qd ((0:Int)<((s.labs.map ab).length:Int))=true)(hb:(Qd (n<0)||Qd (n≥4000)||(Qd ((0:Int)>0)&&Qd (q≥n)))=true):(CW Cr Γ0 [] false (sub Em 1) (vn s all 0) .ret (foX s)):=by
 exact zx [.st (.mask [2]),.st (.trim 1)] [.b true,.row [vi n],.row [vi n],.row [vi q],.row [vi n],.b true] (.c hlt (.c hr (.c (show(!Qd (n<0))=true→ad 0 (Cq ab s.labs) [vi n] 1 from(fun hg=>hr)) (.c (show(!(Qd (n<0)||Qd (n≥4000))&&Qd (0>0))=true→ad (Cz Ct (0 - 1)) (Cq ab s.labs) [vi q] 1 from(fun hg=>(hp (by first|exact hg|(simp at hg;done))))) (.c (show(!(Qd (n<0)||Qd (n≥4000))&&Qd (0>0))=true→ad 0 (Cq ab s.labs) [vi n] 1 from(fun hg=>hr)) (.c hb .n))))))
theorem fbN_ok{s:SecT}{n q all:Int}{i:Nat}(hr:ad (i:Int) (s.labs.map ab) [vi n] 1)(hp:ad (Cz Ct ((i:Int) - 1)) (s.labs.map ab) [vi q] 1)(hlt:Qd ((i:Int)<((s.labs.map ab).length:Int))=true)(hw:Ct.wrap ((i:Int)+1)=((i+1:Nat):Int))(hb:(Qd (n<0)||Qd (n≥4000)||(Qd ((i:Int)>0)&&Qd (q≥n)))=false):(CW Cr Γ0 [] false (sub Em 1) (vn s all (i:Int)) .normal (vn s all ((i+1:Nat):Int))):=by
 refine zX {t:=mkT 174 0 [(1,.ref (.ptr 0 0)),(3,int all),(6,int (Cz Ct ((↑i:Int)+1)))],h:=[.var [int s.id,int s.course,int s.term,int s.campus,int s.seats,aa (Cq CE s.mts),aa (Cq CA s.grs),aa (Cq ab s.labs),bool s.lab]],m:=[]} C7 [.st (.mask [1,3,6]),.st (.trim 1)] [.b true,.row [vi n],.row [vi n],.row [vi q],.row [vi n],.b false] (.c hlt (.c hr (.c (show(!Qd (n<0))=true→ad (↑i:Int) (Cq ab s.labs) [vi n] 1 from(fun hg=>hr)) (.c (show(!(Qd (n<0)||Qd (n≥4000))&&Qd ((↑i:Int)>0))=true→ad (Cz Ct ((↑i:Int) - 1)) (Cq ab s.labs) [vi q] 1 from(fun hg=>hp)) (.c (show(!(Qd (n<0)||Qd (n≥4000))&&Qd ((↑i:Int)>0))=true→ad (↑i:Int) (Cq ab s.labs) [vi n] 1 from(fun hg=>hr)) (.c hb .n)))))) ?_ ?_<;>(first|rfl|(rw[hw]<;>rfl))
theorem Ba{s:SecT}{n q all:Int}{i:Nat}(hr:ad (i:Int) (s.labs.map ab) [vi n] 1)(hp:ad (Cz Ct ((i:Int) - 1)) (s.labs.map ab) [vi q] 1)(hlt:Qd ((i:Int)<((s.labs.map ab).length:Int))=true)(hb:(Qd (n<0)||Qd (n≥4000)||(Qd ((i:Int)>0)&&Qd (q≥n)))=true):(CW Cr Γ0 [] false (sub Em 1) (vn s all (i:Int)) .ret (foX s)):=by
 exact zx [.st (.mask [2]),.st (.trim 1)] [.b true,.row [vi n],.row [vi n],.row [vi q],.row [vi n],.b true] (.c hlt (.c hr (.c (show(!Qd (n<0))=true→ad (↑i:Int) (Cq ab s.labs) [vi n] 1 from(fun hg=>hr)) (.c (show(!(Qd (n<0)||Qd (n≥4000))&&Qd ((↑i:Int)>0))=true→ad (Cz Ct ((↑i:Int) - 1)) (Cq ab s.labs) [vi q] 1 from(fun hg=>hp)) (.c (show(!(Qd (n<0)||Qd (n≥4000))&&Qd ((↑i:Int)>0))=true→ad (↑i:Int) (Cq ab s.labs) [vi n] 1 from(fun hg=>hr)) (.c hb .n))))))
theorem Bb{s:SecT}{all:Int}{i:Nat}(hlt:Qd ((i:Int)<((s.labs.map ab).length:Int))=false):(CW Cr Γ0 [] false (sub Em 1) (vn s all i) (.exit 2) (foE s all)):=by
 exact zx [.st (.mask [1,3])] [.b false] (.c hlt .n)
def kU(g:GrT)(o:Option GrT):Bool:=match o with
 | none=>false
 | some p=>Qd (p.grp≥g.grp)
def foF(g:GrT)(a:Int×Option GrT):(Int×Option GrT)⊕Unit:=match iO g (kU g a.2) with
 | true=>.inr ()
 | false=>.inl (Ct.wrap (a.1+g.seats),some g)
def kV(n:Int)(o:Option Int):Bool:=match o with
 | none=>false
 | some p=>Qd (p≥n)
def iP(n:Int)(b:Bool):Bool:=Qd (n<0)||Qd (n≥4000)||b
def fbF(n:Int)(a:Option Int):Option Int⊕Unit:=match iP n (kV n a) with
 | true=>.inr ()
 | false=>.inl (some n)
structure PvInv {α:Type} (l:List α) (j:Nat) (o:Option α):Prop where
 z:j=0→o=none
 p:∀i,j=i+1→∃e,l[i]? = some e∧o=some e
theorem PvInv.next{α:Type}{l:List α}{j:Nat}{e:α}(h:l[j]? = some e):PvInv l (j+1) (some e):=⟨fun h=>by omega,fun i hi=>⟨e,by rw[←show j=i by omega];exact h,rfl⟩⟩
theorem pj{i n:Nat}(h:i<n)(hn:n≤140737488355328):Cz Ct (((i+1:Nat):Int) - 1)=(i:Int):=by
 rw[wrap_i64 (by omega) (by omega)];omega
theorem Bc{s:SecT}(hs:am s.grs):CW Cr Γ0 [] false (.loop (sub Em 0)) (foS s 0 0) (aj (.exit 0) (fun a:Int×Option GrT=>foE s a.1) (fun _:Unit=>(.ret,foX s)) (forL foF s.grs (0,none))).1 (aj (.exit 0) (fun a:Int×Option GrT=>foE s a.1) (fun _:Unit=>(.ret,foX s)) (forL foF s.grs (0,none))).2:=by
 refine E7 s.grs foF (fun j a=>foS s a.1 (j:Int)) (.exit 0) _ _ (fun j a=>PvInv s.grs j a.2) (by simp) (fun _=>by simp) ?_ ?_ (0,none) ⟨fun _=>rfl,fun i h=>by omega⟩
 ·intro j g a hj I
  have hlt:=(Cx.1 hj).1
  have hr:=rowAt (row:=CA) (sz:=3) hj rfl
  have hlt2:=lt_len CA hlt
  refine⟨fun a' ha=>?_,?_⟩
  ·unfold foF at ha
   split at ha
   ·cases ha
   ·cases ha;exact PvInv.next hj
  ·cases j with
   | zero =>
    have h2:=I.z rfl
    have hB:iO g (kU g a.2)=iO g (Qd ((0:Int)>0)&&Qd (g.grp≥g.grp)):=by rw[h2];rfl
    unfold foF
    rw[hB]
    cases hb:iO g (Qd ((0:Int)>0)&&Qd (g.grp≥g.grp)) with
    | true=>exact A6 (p:=g) hr (fun h=>h.elim) hlt2 hb
    | false=>exact fo0_ok (p:=g) hr (fun h=>h.elim) hlt2 hb
   | succ i =>
    obtain⟨p,hp,hp2⟩:=I.p i rfl
    have hlp:=(Cx.1 hp).1
    have hrp:ad (Cz Ct (((i+1:Nat):Int) - 1)) (s.grs.map CA) p.row 3:=by
     rw[pj hlp hs]
     exact rowAt (row:=CA) (sz:=3) hp rfl
    have hi:Qd (((i+1:Nat):Int)>0)=true:=by simp only[decide_eq_true_eq];omega
    have hB:iO g (kU g a.2)=iO g (Qd (((i+1:Nat):Int)>0)&&Qd (p.grp≥g.grp)):=by rw[hp2,hi];rfl
    unfold foF
    rw[hB]
    cases hb:iO g (Qd (((i+1:Nat):Int)>0)&&Qd (p.grp≥g.grp)) with
    | true=>exact A7 hr hrp hlt2 hb
    | false=>exact foN_ok hr hrp hlt2 (wrap_succ hlt hs) hb
 ·intro a _
  exact A8 (a9 CA s.grs)
theorem Bd{s:SecT}{all:Int}(hs:am s.labs):CW Cr Γ0 [] false (.loop (sub Em 1)) (vn s all 0) (aj (.exit 2) (fun _:Option Int=>foE s all) (fun _:Unit=>(.ret,foX s)) (forL fbF s.labs none)).1 (aj (.exit 2) (fun _:Option Int=>foE s all) (fun _:Unit=>(.ret,foX s)) (forL fbF s.labs none)).2:=by
 refine E7 s.labs fbF (fun j _=>vn s all (j:Int)) (.exit 2) _ _ (fun j a=>PvInv s.labs j a) (by simp) (fun _=>by simp) ?_ ?_ none ⟨fun _=>rfl,fun i h=>by omega⟩
 ·intro j n a hj I
  have hlt:=(Cx.1 hj).1
  have hr:=rowAt (row:=ab) (sz:=1) hj rfl
  have hlt2:=lt_len ab hlt
  refine⟨fun a' ha=>?_,?_⟩
  ·unfold fbF at ha
   split at ha
   ·cases ha
   ·cases ha;exact PvInv.next hj
  ·cases j with
   | zero =>
    have h2:=I.z rfl
    have hB:iP n (kV n a)=iP n (Qd ((0:Int)>0)&&Qd (n≥n)):=by rw[h2];rfl
    unfold fbF
    rw[hB]
    cases hb:iP n (Qd ((0:Int)>0)&&Qd (n≥n)) with
    | true=>exact A9 (q:=n) hr (fun h=>h.elim) hlt2 hb
    | false=>exact fb0_ok (q:=n) hr (fun h=>h.elim) hlt2 hb
   | succ i =>
    obtain⟨p,hp,hp2⟩:=I.p i rfl
    have hlp:=(Cx.1 hp).1
    have hrp:ad (Cz Ct (((i+1:Nat):Int) - 1)) (s.labs.map ab) [vi p] 1:=by
     rw[pj hlp hs]
     exact rowAt (row:=ab) (sz:=1) hp rfl
    have hi:Qd (((i+1:Nat):Int)>0)=true:=by simp only[decide_eq_true_eq];omega
    have hB:iP n (kV n a)=iP n (Qd (((i+1:Nat):Int)>0)&&Qd (p≥n)):=by rw[hp2,hi];rfl
    unfold fbF
    rw[hB]
    cases hb:iP n (Qd (((i+1:Nat):Int)>0)&&Qd (p≥n)) with
    | true=>exact Ba hr hrp hlt2 hb
    | false=>exact fbN_ok hr hrp hlt2 (wrap_succ hlt hs) hb
 ·intro a _
  exact Bb (a9 ab s.labs)
theorem fq_hd{s:SecT}(hh:(Qd (s.id<0)||Qd (s.id≥4000)||Qd (s.course<0)||Qd (s.course≥4096)||Qd (s.term<0)||Qd (s.term≥1024)||Qd (s.campus<0)||Qd (s.campus≥7)||Qd (s.seats<0)||Qd (s.seats>4096)||Qd (((s.grs.map CA).length:Int)>8)||s.lab&&Qd (((s.labs.map ab).length:Int)>0))=true)(h:List Blk):(Ev Cr Γ0 99 [.agg (ge s)] h (bool false) h):=by
 exact z0 [.b true] (.c hh .n) h
theorem fq_g{s:SecT}(hh:(Qd (s.id<0)||Qd (s.id≥4000)||Qd (s.course<0)||Qd (s.course≥4096)||Qd (s.term<0)||Qd (s.term≥1024)||Qd (s.campus<0)||Qd (s.campus≥7)||Qd (s.seats<0)||Qd (s.seats>4096)||Qd (((s.grs.map CA).length:Int)>8)||s.lab&&Qd (((s.labs.map ab).length:Int)>0))=false)(h1:CW Cr Γ0 [] false (.loop (sub Em 0)) (foS s 0 0) .ret (foX s))(h:List Blk):(Ev Cr Γ0 99 [.agg (ge s)] h (bool false) h):=by
 have hl0:=(@h1)
 exact z0 [.b false,.sum [1,3,4] (Dj) {t:=mkT 174 0 [(2,bool false)],h:=[.var [int s.id,int s.course,int s.term,int s.campus,int s.seats,aa (Cq CE s.mts),aa (Cq CA s.grs),aa (Cq ab s.labs),bool s.lab]],m:=[]}] (.c hh (.c hl0 .n)) h
theorem fq_l{s:SecT}{all:Int}(hh:(Qd (s.id<0)||Qd (s.id≥4000)||Qd (s.course<0)||Qd (s.course≥4096)||Qd (s.term<0)||Qd (s.term≥1024)||Qd (s.campus<0)||Qd (s.campus≥7)||Qd (s.seats<0)||Qd (s.seats>4096)||Qd (((s.grs.map CA).length:Int)>8)||s.lab&&Qd (((s.labs.map ab).length:Int)>0))=false)(h1:CW Cr Γ0 [] false (.loop (sub Em 0)) (foS s 0 0) (.exit 0) (foE s all))(h2:CW Cr Γ0 [] false (.loop (sub Em 1)) (vn s all 0) .ret (foX s))(h:List Blk):(Ev Cr Γ0 99 [.agg (ge s)] h (bool false) h):=by
 have hl0:=(@h1)
 have hl1:=(@h2)
 let v0:List Blk:=[.var [int s.id,int s.course,int s.term,int s.campus,int s.seats,aa (Cq CE s.mts),aa (Cq CA s.grs),aa (Cq ab s.labs),bool s.lab]]
 exact z0 [.b false,.sum [1,3,4] (C4 0) {t:=mkT 174 0 [(1,.ref (.ptr 0 0)),(3,int all)],h:=v0,m:=[]},.sum [1,3,6] (Dj) {t:=mkT 174 0 [(2,bool false)],h:=v0,m:=[]}] (.c hh (.c hl0 (.c hl1 .n))) h
theorem fq_e{s:SecT}{all:Int}(hh:(Qd (s.id<0)||Qd (s.id≥4000)||Qd (s.course<0)||Qd (s.course≥4096)||Qd (s.term<0)||Qd (s.term≥1024)||Qd (s.campus<0)||Qd (s.campus≥7)||Qd (s.seats<0)||Qd (s.seats>4096)||Qd (((s.grs.map CA).length:Int)>8)||s.lab&&Qd (((s.labs.map ab).length:Int)>0))=false)(h1:CW Cr Γ0 [] false (.loop (sub Em 0)) (foS s 0 0) (.exit 0) (foE s all))(h2:CW Cr Γ0 [] false (.loop (sub Em 1)) (vn s all 0) (.exit 2) (foE s all))(h:List Blk):(Ev Cr Γ0 99 [.agg (ge s)] h (bool (Qd (all≤s.seats))) h):=by
 have hl0:=(@h1)
 have hl1:=(@h2)
 let v0:List Blk:=[.var [int s.id,int s.course,int s.term,int s.campus,int s.seats,aa (Cq CE s.mts),aa (Cq CA s.grs),aa (Cq ab s.labs),bool s.lab]]
 exact z0 [.b false,.sum [1,3,4] (C4 0) {t:=mkT 174 0 [(1,.ref (.ptr 0 0)),(3,int all)],h:=v0,m:=[]},.sum [1,3,6] (C4 2) {t:=mkT 174 0 [(1,.ref (.ptr 0 0)),(3,int all)],h:=v0,m:=[]}] (.c hh (.c hl0 (.c hl1 .n))) h
def secHd23(s:SecT):Bool:=Qd (s.id<0)||Qd (s.id≥4000)||Qd (s.course<0)||Qd (s.course≥4096)||Qd (s.term<0)||Qd (s.term≥1024)||Qd (s.campus<0)||Qd (s.campus≥7)||Qd (s.seats<0)||Qd (s.seats>4096)||Qd (((s.grs.map CA).length:Int)>8)||s.lab&&Qd (((s.labs.map ab).length:Int)>0)
def secB23(s:SecT):Bool:=match secHd23 s with
 | true=>false
 | false=>match forL foF s.grs (0,none) with
  | .inr _=>false
  | .inl a=>match forL fbF s.labs none with
   | .inr _=>false
   | .inl _=>Qd (a.1≤s.seats)
theorem pk{s:SecT}(hgr:am s.grs)(hi:am s.labs)(h:List Blk):Ev Cr Γ0 99 [.agg (ge s)] h (bool (secB23 s)) h:=by
 unfold secB23
 cases hh:secHd23 s with
 | true=>exact fq_hd hh h
 | false =>
  have h1:=Bc hgr
  simp only
  cases hf:forL foF s.grs (0,none) with
  | inr u=>rw[hf] at h1;exact fq_g hh h1 h
  | inl a =>
   rw[hf] at h1
   have h2:=Bd (all:=a.1) hi
   simp only
   cases hg2:forL fbF s.labs none with
   | inr u=>rw[hg2] at h2;exact fq_l hh h1 h2 h
   | inl b=>rw[hg2] at h2;exact fq_e hh h1 h2 h
def dn(s:SecT):Int:=match secB23 s with
 | false=>230
 | true=>fY s.mts
noncomputable abbrev cB(s:SecT):List Blk:=[.var [int s.id,int s.course,int s.term,int s.campus,int s.seats,aa (Cq CE s.mts),aa (Cq CA s.grs),aa (Cq ab s.labs),bool s.lab]]
theorem nC{s:SecT}(hgr:am s.grs)(hi:am s.labs)(h:List Blk):(Ev Cr Γ0 79 [.agg (ge s)] h (int (dn s)) h):=by
 cases hc0:!secB23 s
 ·exact zD (int (fY s.mts)) [.val (bool (secB23 s)),.b false,.val (int (fY s.mts))] (.c (@pk s hgr hi (cB s)) (.c hc0 (.c (@uL (s.mts) (cB s)) .n))) h (by first|rfl|(have hh:secB23 s=true:=(by first|exact hc0|simpa using hc0);simp only[dn,hh];first|done|rfl)|(have hh:secB23 s=false:=(by first|exact hc0|simpa using hc0);simp only[dn,hh];first|done|rfl))
 ·exact zD (int 230) [.val (bool (secB23 s)),.b true] (.c (@pk s hgr hi (cB s)) (.c hc0 .n)) h (by first|rfl|(have hh:secB23 s=true:=(by first|exact hc0|simpa using hc0);simp only[dn,hh];first|done|rfl)|(have hh:secB23 s=false:=(by first|exact hc0|simpa using hc0);simp only[dn,hh];first|done|rfl))
theorem nD{b:BuT}(h:List Blk):(Ev Cr Γ0 109 [ag b.row] h (bool (buB b)) h):=by
 exact z0 [] .n h
abbrev vaS(k:Int)(r:RqT)(i:Int):AS:={t:=mkT 171 0 [(1,.ref (.ptr 0 0)),(3,int i)],h:=[.var (rqD k r)],m:=[]}
abbrev vaX(k:Int)(r:RqT):AS:={t:=mkT 171 0 [(2,bool false)],h:=[.var (rqD k r)],m:=[]}
abbrev vaE(k:Int)(r:RqT):AS:={t:=mkT 171 0 [(1,.ref (.ptr 0 0))],h:=[.var (rqD k r)],m:=[]}
noncomputable abbrev rV(k:Int)(r:RqT):List Blk:=[.var [int r.campus,int r.no,int r.st,int k,int r.time,aa (Cq Cv r.chs),int r.gsec,int r.glab,int r.key]]
theorem va_ok{k:Int}{r:RqT}{c:BuT}{i:Nat}(hr:ad (i:Int) (r.chs.map Cv) c.row 2)(hlt:Qd ((i:Int)<((r.chs.map Cv).length:Int))=true)(hw:Ct.wrap ((i:Int)+1)=((i+1:Nat):Int))(hf:(!buB c)=false):(CW Cr Γ0 [] false (sub Du 0) (vaS k r i) .normal (vaS k r ((i+1:Nat):Int))):=by
 refine zX {t:=mkT 171 0 [(1,.ref (.ptr 0 0)),(3,int (Cz Ct ((↑i:Int)+1)))],h:=(rV k r),m:=[]} C7 [.st (.mask [1,3]),.st (.trim 1)] [.b true,.row [vi c.sec,vi c.lab],.val (bool (buB c)),.b false] (.c hlt (.c hr (.c (@nD c (rV k r)) (.c hf .n)))) ?_ ?_<;>(first|rfl|(rw[hw]<;>rfl))
noncomputable abbrev vo(k:Int)(r:RqT):List Blk:=[.var [int r.campus,int r.no,int r.st,int k,int r.time,aa (Cq Cv r.chs),int r.gsec,int r.glab,int r.key]]
theorem va_bad{k:Int}{r:RqT}{c:BuT}{i:Nat}(hr:ad (i:Int) (r.chs.map Cv) c.row 2)(hlt:Qd ((i:Int)<((r.chs.map Cv).length:Int))=true)(hf:(!buB c)=true):(CW Cr Γ0 [] false (sub Du 0) (vaS k r i) .ret (vaX k r)):=by
 exact zx [.st (.mask [2]),.st (.trim 1)] [.b true,.row [vi c.sec,vi c.lab],.val (bool (buB c)),.b true] (.c hlt (.c hr (.c (@nD c (vo k r)) (.c hf .n))))
theorem Be{k:Int}{r:RqT}{i:Nat}(hlt:Qd ((i:Int)<((r.chs.map Cv).length:Int))=false):(CW Cr Γ0 [] false (sub Du 0) (vaS k r i) (.exit 0) (vaE k r)):=by
 exact zx [.st (.mask [1])] [.b false] (.c hlt .n)
abbrev vcS(k:Int)(r:RqT)(z:Bool)(i j:Int):AS:={t:=mkT 171 0 [(1,.ref (.ptr 0 0)),(4,bool z),(5,int i),(6,int j)],h:=[.var (rqD k r)],m:=[]}
abbrev vcE(k:Int)(r:RqT)(z:Bool)(i:Int):AS:={t:=mkT 171 0 [(1,.ref (.ptr 0 0)),(4,bool z),(5,int i)],h:=[.var (rqD k r)],m:=[]}
theorem vc_ne{k:Int}{r:RqT}{z:Bool}{x y:BuT}{i j:Nat}(hr:ad (j:Int) (r.chs.map Cv) y.row 2)(hr2:ad (i:Int) (r.chs.map Cv) x.row 2)(hlt:Qd ((j:Int)<(i:Int))=true)(hw:Ct.wrap ((j:Int)+1)=((j+1:Nat):Int))(he:(y.sec==x.sec&&(y.lab==x.lab&&true))=false):(CW Cr Γ0 [] false (sub Du 2) (vcS k r z i j) .normal (vcS k r z i ((j+1:Nat):Int))):=by
 refine zX {t:=mkT 171 0 [(1,.ref (.ptr 0 0)),(4,bool z),(5,int (↑i:Int)),(6,int (Cz Ct ((↑j:Int)+1)))],h:=[.var [int r.campus,int r.no,int r.st,int k,int r.time,aa (Cq Cv r.chs),int r.gsec,int r.glab,int r.key]],m:=[]} C7 [.st (.mask [1,4,5,6]),.st (.trim 1)] [.b true,.row [vi y.sec,vi y.lab],.row [vi x.sec,vi x.lab],.b false] (.c hlt (.c hr (.c hr2 (.c he .n)))) ?_ ?_<;>(first|rfl|(rw[hw]<;>rfl))
theorem vc_eq{k:Int}{r:RqT}{z:Bool}{x y:BuT}{i j:Nat}(hr:ad (j:Int) (r.chs.map Cv) y.row 2)(hr2:ad (i:Int) (r.chs.map Cv) x.row 2)(hlt:Qd ((j:Int)<(i:Int))=true)(he:(y.sec==x.sec&&(y.lab==x.lab&&true))=true):(CW Cr Γ0 [] false (sub Du 2) (vcS k r z i j) .ret (vaX k r)):=by
 exact zx [.st (.mask [2]),.st (.trim 1)] [.b true,.row [vi y.sec,vi y.lab],.row [vi x.sec,vi x.lab],.b true] (.c hlt (.c hr (.c hr2 (.c he .n))))
theorem Bf{k:Int}{r:RqT}{z:Bool}{i j:Nat}(hlt:Qd ((j:Int)<(i:Int))=false):(CW Cr Γ0 [] false (sub Du 2) (vcS k r z i j) (.exit 5) (vcE k r z i)):=by
 exact zx [.st (.mask [1,4,5])] [.b false] (.c hlt .n)
theorem vd_n{k:Int}{r:RqT}{z:Bool}{i:Nat}(hlt:Qd ((i:Int)<((r.chs.map Cv).length:Int))=true)(hw:Ct.wrap ((i:Int)+1)=((i+1:Nat):Int))(h5:CW Cr Γ0 [] false (.loop (sub Du 2)) (vcS k r z i 0) (.exit 5) (vcE k r z i)):(CW Cr Γ0 [] false (sub Du 1) (vcE k r z i) .normal (vcE k r z ((i+1:Nat):Int))):=by
 have hl0:=(@h5)
 let v0:List Blk:=[.var [int r.campus,int r.no,int r.st,int k,int r.time,aa (Cq Cv r.chs),int r.gsec,int r.glab,int r.key]]
 refine zX {t:=mkT 171 0 [(1,.ref (.ptr 0 0)),(4,bool z),(5,int (Cz Ct ((↑i:Int)+1)))],h:=v0,m:=[]} C7 [.st (.mask [1,4,5]),.st (.trim 1)] [.b true,.sum [1,4,5,6] (C4 5) {t:=mkT 171 0 [(1,.ref (.ptr 0 0)),(4,bool z),(5,int (↑i:Int))],h:=v0,m:=[]}] (.c hlt (.c hl0 .n)) ?_ ?_<;>subst v0<;>(first|rfl|(rw[hw]<;>rfl))
theorem vd_r{k:Int}{r:RqT}{z:Bool}{i:Nat}(hlt:Qd ((i:Int)<((r.chs.map Cv).length:Int))=true)(h5:CW Cr Γ0 [] false (.loop (sub Du 2)) (vcS k r z i 0) .ret (vaX k r)):(CW Cr Γ0 [] false (sub Du 1) (vcE k r z i) .ret (vaX k r)):=by
 have hl0:=(@h5)
 let v0:List Blk:=[.var [int r.campus,int r.no,int r.st,int k,int r.time,aa (Cq Cv r.chs),int r.gsec,int r.glab,int r.key]]
 exact zx [.st (.mask [2]),.st (.trim 1)] [.b true,.sum [1,4,5,6] (Dj) {t:=mkT 171 0 [(2,bool false)],h:=v0,m:=[]}] (.c hlt (.c hl0 .n))
theorem Bg{k:Int}{r:RqT}{z:Bool}{i:Nat}(hlt:Qd ((i:Int)<((r.chs.map Cv).length:Int))=false):(CW Cr Γ0 [] false (sub Du 1) (vcE k r z i) (.exit 3) {t:=mkT 171 0 [(1,.ref (.ptr 0 0)),(4,bool z)],h:=[.var (rqD k r)],m:=[]}):=by
 exact zx [.st (.mask [1,4])] [.b false] (.c hlt .n)
def vcF(x y:BuT)(_:Unit):Unit⊕Unit:=match lr y x with
 | true=>.inr ()
 | false=>.inl ()
theorem Bh{k:Int}{r:RqT}{z:Bool}{i:Nat}{x:BuT}(hs:am r.chs)(hx:r.chs[i]? = some x):CW Cr Γ0 [] false (.loop (sub Du 2)) (vcS k r z i 0) (aj (.exit 5) (fun _:Unit=>vcE k r z i) (fun _:Unit=>(.ret,vaX k r)) (forL (vcF x) (r.chs.take i) ())).1 (aj (.exit 5) (fun _:Unit=>vcE k r z i) (fun _:Unit=>(.ret,vaX k r)) (forL (vcF x) (r.chs.take i) ())).2:=by
 have hi:=(Cx.1 hx).1
 have hlen:(r.chs.take i).length=i:=by simp;omega
 refine E7 (r.chs.take i) (vcF x) (fun j _=>vcS k r z i (j:Int)) (.exit 5) _ _ (fun _ _=>True) (by simp) (fun _=>by simp) ?_ ?_ () trivial
 ·intro j y a hj _
  have hlt:=(Cx.1 hj).1
  rw[hlen] at hlt
  have hj2:r.chs[j]? = some y:=by rw[Eh] at hj;split at hj<;>simp_all
  have hr:=rowAt (row:=Cv) (sz:=2) hj2 rfl
  have hr2:=rowAt (row:=Cv) (sz:=2) hx rfl
  have hl2:Qd ((j:Int)<(i:Int))=true:=by simp only[decide_eq_true_eq];omega
  refine⟨fun _ _=>trivial,?_⟩
  unfold vcF
  cases hb:lr y x with
  | true=>exact vc_eq hr hr2 hl2 hb
  | false=>exact vc_ne hr hr2 hl2 (wrap_succ (n:=r.chs.length) (by omega) hs) hb
 ·intro a _
  exact Bf (by rw[hlen];simp)
theorem vq:∀{l:List BuT} {x:BuT},forL (vcF x) l ()=(match l.any (fun y=>lr y x) with|true=>.inr ()|false=>.inl ())
 | [],_=>rfl
 | y::l,x=>by
  unfold forL
  rw[F8]
  cases hb:lr y x with
  | true=>simp only[vcF,hb];rfl
  | false=>simp only[vcF,hb,Dy];exact vq
def dupB(pre:List BuT):List BuT→Bool
 | []=>false
 | c::l=>pre.any (fun y=>lr y c)||dupB (pre++[c]) l
theorem Bi{k:Int}{r:RqT}{z:Bool}(hs:am r.chs):(dupB [] r.chs=true→CW Cr Γ0 [] false (.loop (sub Du 1)) (vcE k r z 0) .ret (vaX k r))∧(dupB [] r.chs=false→CW Cr Γ0 [] false (.loop (sub Du 1)) (vcE k r z 0) (.exit 3) {t:=mkT 171 0 [(1,.ref (.ptr 0 0)),(4,bool z)],h:=[.var (rqD k r)],m:=[]}):=by
 have key:CW Cr Γ0 [] false (.loop (sub Du 1)) (vcE k r z ((0:Nat):Int)) (match dupB [] r.chs with|true=>Dj|false=>.exit 3) (match dupB [] r.chs with|true=>vaX k r|false=>{t:=mkT 171 0 [(1,.ref (.ptr 0 0)),(4,bool z)],h:=[.var (rqD k r)],m:=[]}):=by
  refine CW.loop (ι:={i:Nat // i≤r.chs.length∧dupB [] r.chs=dupB (r.chs.take i) (r.chs.drop i)}) (fun p=>vcE k r z (p.1:Int)) (fun _=>(match dupB [] r.chs with|true=>Dj|false=>.exit 3,match dupB [] r.chs with|true=>vaX k r|false=>{t:=mkT 171 0 [(1,.ref (.ptr 0 0)),(4,bool z)],h:=[.var (rqD k r)],m:=[]})) (fun p=>r.chs.length - p.1) ?_ ⟨0,by simp,by simp⟩
  rintro⟨i,hi,hd⟩
  try simp only at hi hd
  by_cases hlt:i<r.chs.length
  ·have hc:r.chs[i]? = some r.chs[i]:=C6 hlt
   have hdr:r.chs.drop i=r.chs[i]::r.chs.drop (i+1):=Ed hlt
   have htk:r.chs.take (i+1)=r.chs.take i++[r.chs[i]]:=by rw[List.take_add_one,hc];rfl
   rw[hdr] at hd
   simp only[dupB] at hd
   rw[←htk] at hd
   have h5:=Bh (k:=k) (z:=z) hs hc
   rw[vq] at h5
   cases ha:(r.chs.take i).any (fun y=>lr y r.chs[i]) with
   | true =>
    rw[ha] at h5 hd
    have hd2:dupB [] r.chs=true:=by rw[hd];rfl
    refine .inr ⟨by rw[hd2];simp,?_⟩
    show CW Cr Γ0 [] false (sub Du 1) (vcE k r z (i:Int)) (match dupB [] r.chs with|true=>Dj|false=>.exit 3) (match dupB [] r.chs with|true=>vaX k r|false=>_)
    rw[hd2]
    exact vd_r (lt_len Cv hlt) h5
   | false =>
    rw[ha] at h5 hd
    exact .inl ⟨⟨i+1,by omega,by rw[hd];rfl⟩,by simp;omega,rfl,vd_n (lt_len Cv hlt) (wrap_succ hlt hs) h5⟩
  ·have hi2:i=r.chs.length:=by omega
   subst hi2
   rw[List.drop_length] at hd
   have hd2:dupB [] r.chs=false:=by rw[hd];rfl
   refine .inr ⟨by rw[hd2];simp,?_⟩
   show CW Cr Γ0 [] false (sub Du 1) (vcE k r z (r.chs.length:Int)) (match dupB [] r.chs with|true=>Dj|false=>.exit 3) (match dupB [] r.chs with|true=>vaX k r|false=>_)
   rw[hd2]
   exact Bg (a9 Cv r.chs)
 refine⟨fun h=>?_,fun h=>?_⟩
 ·rw[h] at key;exact key
 ·rw[h] at key;exact key
def vaF(c:BuT)(_:Unit):Unit⊕Unit:=match !buB c with
 | true=>.inr ()
 | false=>.inl ()
theorem Bj{k:Int}{r:RqT}(hs:am r.chs):CW Cr Γ0 [] false (.loop (sub Du 0)) (vaS k r 0) (aj (.exit 0) (fun _:Unit=>vaE k r) (fun _:Unit=>(.ret,vaX k r)) (forL vaF r.chs ())).1 (aj (.exit 0) (fun _:Unit=>vaE k r) (fun _:Unit=>(.ret,vaX k r)) (forL vaF r.chs ())).2:=by
 refine E7 r.chs vaF (fun j _=>vaS k r (j:Int)) (.exit 0) _ _ (fun _ _=>True) (by simp) (fun _=>by simp) ?_ ?_ () trivial
 ·intro j c a hj _
  have hlt:=(Cx.1 hj).1
  have hr:=rowAt (row:=Cv) (sz:=2) hj rfl
  refine⟨fun _ _=>trivial,?_⟩
  unfold vaF
  cases hb:!buB c with
  | true=>exact va_bad hr (lt_len Cv hlt) hb
  | false=>exact va_ok hr (lt_len Cv hlt) (wrap_succ hlt hs) hb
 ·intro a _
  exact Be (a9 Cv r.chs)
theorem vr:∀{l:List BuT},forL vaF l ()=(match l.all buB with|true=>.inl ()|false=>.inr ())
 | []=>rfl
 | c::l=>by
  unfold forL
  rw[List.all_cons]
  cases hb:buB c with
  | true=>simp only[vaF,hb,Bool.not_true,Bool.true_and];exact vr
  | false=>simp only[vaF,hb];rfl
theorem vq_hd{r:RqT}(hh:(Qd (r.campus<0)||Qd (r.campus≥7)||Qd (r.no<1)||Qd (r.no>1048576)||Qd (r.st<0)||Qd (r.st≥20000)||Qd (r.time<1)||Qd (r.time>1048576))=true)(h:List Blk):(Ev Cr Γ0 101 [.agg (rqD r.kind r)] h (bool false) h):=by
 exact z0 [.b true] (.c hh .n) h
theorem vq_c{r:RqT}(hh:(Qd (r.campus<0)||Qd (r.campus≥7)||Qd (r.no<1)||Qd (r.no>1048576)||Qd (r.st<0)||Qd (r.st≥20000)||Qd (r.time<1)||Qd (r.time>1048576))=false)(h0:CW Cr Γ0 [] false (.loop (sub Du 0)) (vaS r.kind r 0) .ret (vaX r.kind r))(h:List Blk):(Ev Cr Γ0 101 [.agg (rqD r.kind r)] h (bool false) h):=by
 have hl0:=(@h0)
 exact z0 [.b false,.sum [1,3] (Dj) {t:=mkT 171 0 [(2,bool false)],h:=[.var [int r.campus,int r.no,int r.st,int r.kind,int r.time,aa (Cq Cv r.chs),int r.gsec,int r.glab,int r.key]],m:=[]}] (.c hh (.c hl0 .n)) h
theorem vq_1r{r:RqT}(hh:(Qd (r.campus<0)||Qd (r.campus≥7)||Qd (r.no<1)||Qd (r.no>1048576)||Qd (r.st<0)||Qd (r.st≥20000)||Qd (r.time<1)||Qd (r.time>1048576))=false)(h0:CW Cr Γ0 [] false (.loop (sub Du 0)) (vaS 1 r 0) (.exit 0) (vaE 1 r))(h1:CW Cr Γ0 [] false (.loop (sub Du 1)) (vcE 1 r (r.gsec==0&&(r.glab==0&&true)) 0) .ret (vaX 1 r))(h:List Blk):(Ev Cr Γ0 101 [.agg (rqD 1 r)] h (bool false) h):=by
 have hl0:=(@h0)
 have hl1:=(@h1)
 let v0:List Blk:=[.var [int r.campus,int r.no,int r.st,int 1,int r.time,aa (Cq Cv r.chs),int r.gsec,int r.glab,int r.key]]
 exact z0 [.b false,.sum [1,3] (C4 0) {t:=mkT 171 0 [(1,.ref (.ptr 0 0))],h:=v0,m:=[]},.b true,.sum [1,4,5] (Dj) {t:=mkT 171 0 [(2,bool false)],h:=v0,m:=[]}] (.c hh (.c hl0 (.c (show(1==1)=true from rfl) (.c hl1 .n)))) h
theorem vq_1{r:RqT}(hh:(Qd (r.campus<0)||Qd (r.campus≥7)||Qd (r.no<1)||Qd (r.no>1048576)||Qd (r.st<0)||Qd (r.st≥20000)||Qd (r.time<1)||Qd (r.time>1048576))=false)(h0:CW Cr Γ0 [] false (.loop (sub Du 0)) (vaS 1 r 0) (.exit 0) (vaE 1 r))(h1:CW Cr Γ0 [] false (.loop (sub Du 1)) (vcE 1 r (r.gsec==0&&(r.glab==0&&true)) 0) (.exit 3) {t:=mkT 171 0 [(1,.ref (.ptr 0 0)),(4,bool (r.gsec==0&&(r.glab==0&&true)))],h:=[.var (rqD 1 r)],m:=[]})(h:List Blk):(Ev Cr Γ0 101 [.agg (rqD 1 r)] h (bool (Qd (((r.chs.map Cv).length:Int)≥1)&&Qd (((r.chs.map Cv).length:Int)≤8)&&(r.gsec==0&&(r.glab==0&&true))&&Qd (r.key≥0)&&Qd (r.key≤1048576))) h):=by
 have hl0:=(@h0)
 have hl1:=(@h1)
 let v0:List Blk:=[.var [int r.campus,int r.no,int r.st,int 1,int r.time,aa (Cq Cv r.chs),int r.gsec,int r.glab,int r.key]]
 exact z0 [.b false,.sum [1,3] (C4 0) {t:=mkT 171 0 [(1,.ref (.ptr 0 0))],h:=v0,m:=[]},.b true,.sum [1,4,5] (C4 3) {t:=mkT 171 0 [(1,.ref (.ptr 0 0)),(4,bool (r.gsec==0&&(r.glab==0&&true)))],h:=v0,m:=[]}] (.c hh (.c hl0 (.c (show(1==1)=true from rfl) (.c hl1 .n)))) h
noncomputable abbrev vt(r:RqT):List Blk:=[.var [int r.campus,int r.no,int r.st,int 2,int r.time,aa (Cq Cv r.chs),int r.gsec,int r.glab,int r.key]]
theorem vq_2{r:RqT}{gb:Bool}(hh:(Qd (r.campus<0)||Qd (r.campus≥7)||Qd (r.no<1)||Qd (r.no>1048576)||Qd (r.st<0)||Qd (r.st≥20000)||Qd (r.time<1)||Qd (r.time>1048576))=false)(h0:CW Cr Γ0 [] false (.loop (sub Du 0)) (vaS 2 r 0) (.exit 0) (vaE 2 r))(hgv:∀h,Ev Cr Γ0 109 [.agg [int r.gsec,int r.glab]] h (bool gb) h)(h:List Blk):(Ev Cr Γ0 101 [.agg (rqD 2 r)] h (bool (((r.chs.map Cv).length:Int)==0&&gb&&r.key==0)) h):=by
 have hl0:=(@h0)
 exact z0 [.b false,.sum [1,3] (C4 0) {t:=mkT 171 0 [(1,.ref (.ptr 0 0))],h:=(vt r),m:=[]},.b false,.b true,.val (bool gb)] (.c hh (.c hl0 (.c (show(2==1)=false from rfl) (.c (show(2==2)=true from rfl) (.c (gd ((↑(Cw (Cq Cv r.chs)):Int)==0) (@hgv (vt r))) .n))))) h
noncomputable abbrev vu(r:RqT):List Blk:=[.var [int r.campus,int r.no,int r.st,int 3,int r.time,aa (Cq Cv r.chs),int r.gsec,int r.glab,int r.key]]
theorem vq_3{r:RqT}{gb:Bool}{c:BuT}(hh:(Qd (r.campus<0)||Qd (r.campus≥7)||Qd (r.no<1)||Qd (r.no>1048576)||Qd (r.st<0)||Qd (r.st≥20000)||Qd (r.time<1)||Qd (r.time>1048576))=false)(h0:CW Cr Γ0 [] false (.loop (sub Du 0)) (vaS 3 r 0) (.exit 0) (vaE 3 r))(hgv:∀h,Ev Cr Γ0 109 [.agg [int r.gsec,int r.glab]] h (bool gb) h)(hp:ad 0 (r.chs.map Cv) c.row 2)(h:List Blk):(Ev Cr Γ0 101 [.agg (rqD 3 r)] h (bool (((r.chs.map Cv).length:Int)==1&&gb&&c.sec != r.gsec&&r.key==0)) h):=by
 have hl0:=(@h0)
 let v0:=Cw (Cq Cv r.chs)
 exact z0 [.b false,.sum [1,3] (C4 0) {t:=mkT 171 0 [(1,.ref (.ptr 0 0))],h:=(vu r),m:=[]},.b false,.b false,.b true,.val (bool gb),.row [vi c.sec,vi c.lab]] (.c hh (.c hl0 (.c (show(3==1)=false from rfl) (.c (show(3==2)=false from rfl) (.c (show(3==3)=true from rfl) (.c (gd ((↑v0:Int)==1) (@hgv (vu r))) (.c (show((↑v0:Int)==1&&gb)=true→ad 0 (Cq Cv r.chs) [vi c.sec,vi c.lab] 2 from(fun hg=>hp)) .n))))))) h
theorem vq_3n{r:RqT}(hh:(Qd (r.campus<0)||Qd (r.campus≥7)||Qd (r.no<1)||Qd (r.no>1048576)||Qd (r.st<0)||Qd (r.st≥20000)||Qd (r.time<1)||Qd (r.time>1048576))=false)(h0:CW Cr Γ0 [] false (.loop (sub Du 0)) (vaS 3 r 0) (.exit 0) (vaE 3 r))(hn:(((r.chs.map Cv).length:Int)==1)=false)(h:List Blk):(Ev Cr Γ0 101 [.agg (rqD 3 r)] h (bool false) h):=by
 have hl0:=(@h0)
 let v0:=Cw (Cq Cv r.chs)
 let v1:=D.p (CZ (CL {toList:=[]}))
 exact z0 [.b false,.sum [1,3] (C4 0) {t:=mkT 171 0 [(1,.ref (.ptr 0 0))],h:=[.var [int r.campus,int r.no,int r.st,int 3,int r.time,aa (Cq Cv r.chs),int r.gsec,int r.glab,int r.key]],m:=[]},.b false,.b false,.b true,.g false,.g false,.g false,.ov 139 (bool false),.g false,.g false,.g false,.g false,.g false,.g false,.g false,.g false,.g false,.ov 150 (bool false),.g false,.g false,.g false,.ov 155 (bool false)] (.c hh (.c hl0 (.c (show(3==1)=false from rfl) (.c (show(3==2)=false from rfl) (.c (show(3==3)=true from rfl) (.c (show(((↑v0:Int)==1)==true)=false from(by subst v0 v1;rw[hn]<;>rfl)) (.c (show(((↑v0:Int)==1)==true)=false from(by subst v0 v1;rw[hn]<;>rfl)) (.c (show(((↑v0:Int)==1)==true)=false from(by subst v0 v1;rw[hn]<;>rfl)) (.c (pkf v1 (bool false) hn) (.f (.f (.f (.f (.f (.f (.f (.f (.f (.c (pkf v1 (bool false) rfl) (.f (.f (.f (.c (pkf v1 (bool false) rfl) .n))))))))))))))))))))))) h
theorem vq_4{r:RqT}(hh:(Qd (r.campus<0)||Qd (r.campus≥7)||Qd (r.no<1)||Qd (r.no>1048576)||Qd (r.st<0)||Qd (r.st≥20000)||Qd (r.time<1)||Qd (r.time>1048576))=false)(h0:CW Cr Γ0 [] false (.loop (sub Du 0)) (vaS 4 r 0) (.exit 0) (vaE 4 r))(h:List Blk):(Ev Cr Γ0 101 [.agg (rqD 4 r)] h (bool (((r.chs.map Cv).length:Int)==1&&(r.gsec==0&&(r.glab==0&&true))&&r.key==0)) h):=by
 have hl0:=(@h0)
 exact z0 [.b false,.sum [1,3] (C4 0) {t:=mkT 171 0 [(1,.ref (.ptr 0 0))],h:=[.var [int r.campus,int r.no,int r.st,int 4,int r.time,aa (Cq Cv r.chs),int r.gsec,int r.glab,int r.key]],m:=[]},.b false,.b false,.b false,.b true,.b true] (.c hh (.c hl0 (.c (show(4==1)=false from rfl) (.c (show(4==2)=false from rfl) (.c (show(4==3)=false from rfl) (.c (show(4==4)=true from rfl) (.c (show(4==4)=true from rfl) .n))))))) h
theorem vq_5{r:RqT}(hh:(Qd (r.campus<0)||Qd (r.campus≥7)||Qd (r.no<1)||Qd (r.no>1048576)||Qd (r.st<0)||Qd (r.st≥20000)||Qd (r.time<1)||Qd (r.time>1048576))=false)(h0:CW Cr Γ0 [] false (.loop (sub Du 0)) (vaS 5 r 0) (.exit 0) (vaE 5 r))(h:List Blk):(Ev Cr Γ0 101 [.agg (rqD 5 r)] h (bool (((r.chs.map Cv).length:Int)==1&&(r.gsec==0&&(r.glab==0&&true))&&r.key==0)) h):=by
 have hl0:=(@h0)
 exact z0 [.b false,.sum [1,3] (C4 0) {t:=mkT 171 0 [(1,.ref (.ptr 0 0))],h:=[.var [int r.campus,int r.no,int r.st,int 5,int r.time,aa (Cq Cv r.chs),int r.gsec,int r.glab,int r.key]],m:=[]},.b false,.b false,.b false,.b false,.b true] (.c hh (.c hl0 (.c (show(5==1)=false from rfl) (.c (show(5==2)=false from rfl) (.c (show(5==3)=false from rfl) (.c (show(5==4)=false from rfl) (.c (show(5==5)=true from rfl) .n))))))) h
theorem vq_n{r:RqT}(hh:(Qd (r.campus<0)||Qd (r.campus≥7)||Qd (r.no<1)||Qd (r.no>1048576)||Qd (r.st<0)||Qd (r.st≥20000)||Qd (r.time<1)||Qd (r.time>1048576))=false)(h0:CW Cr Γ0 [] false (.loop (sub Du 0)) (vaS r.kind r 0) (.exit 0) (vaE r.kind r))(n1:(r.kind==1)=false)(n2:(r.kind==2)=false)(n3:(r.kind==3)=false)(n4:(r.kind==4)=false)(n5:(r.kind==5)=false)(h:List Blk):(Ev Cr Γ0 101 [.agg (rqD r.kind r)] h (bool false) h):=by
 have hl0:=(@h0)
 exact z0 [.b false,.sum [1,3] (C4 0) {t:=mkT 171 0 [(1,.ref (.ptr 0 0))],h:=[.var [int r.campus,int r.no,int r.st,int r.kind,int r.time,aa (Cq Cv r.chs),int r.gsec,int r.glab,int r.key]],m:=[]},.b false,.b false,.b false,.b false,.b false] (.c hh (.c hl0 (.c n1 (.c n2 (.c n3 (.c n4 (.c n5 .n))))))) h
noncomputable abbrev Bk(r:RqT):List Blk:=[.var [int r.campus,int r.no,int r.st,int r.kind,int r.time,aa (Cq Cv r.chs),int r.gsec,int r.glab,int r.key]]
theorem vr_t{r:RqT}(hv:∀h,Ev Cr Γ0 101 [.agg (rqD r.kind r)] h (bool true) h)(h:List Blk):(Ev Cr Γ0 80 [.agg (rqD r.kind r)] h (int 0) h):=by
 exact z0 [.val (bool true),.b false] (.c (@hv (Bk r)) (.c (show(!true)=false from rfl) .n)) h
noncomputable abbrev Bl(r:RqT):List Blk:=[.var [int r.campus,int r.no,int r.st,int r.kind,int r.time,aa (Cq Cv r.chs),int r.gsec,int r.glab,int r.key]]
theorem vr_f{r:RqT}(hv:∀h,Ev Cr Γ0 101 [.agg (rqD r.kind r)] h (bool false) h)(h:List Blk):(Ev Cr Γ0 80 [.agg (rqD r.kind r)] h (int 290) h):=by
 exact z0 [.val (bool false),.b true] (.c (@hv (Bl r)) (.c (show(!false)=true from rfl) .n)) h
abbrev ftO(l:List (List Dp))(i:Int):AS:={t:=mkT 53 0 [(0,aa l),(3,int i)],h:=[],m:=[]}
abbrev ftI(l:List (List Dp))(i k:Int):AS:={t:=mkT 53 0 [(0,aa l),(3,int i),(4,int k)],h:=[],m:=[]}
abbrev ftX:AS:={t:=mkT 53 0 [(2,bool false)],h:=[],m:=[]}
def f7(a b:StT):Bool:=Qd (bO a b≥0)||a.campus==b.campus&&(Qd (a.time≥b.time)||Qd (a.no≥b.no))
noncomputable abbrev xn(x:EntT)(e:EntT):List Blk:=[.var [int x.time,int x.campus,int x.no],.var [int e.time,int e.campus,int e.no]]
theorem ft_ok{l:List (List Dp)}{x e:EntT}{c:Int}{i k:Nat}(hr:ad (k:Int) l x.row 31)(hr2:ad (i:Int) l e.row 31)(hlt:Qd ((k:Int)<(i:Int))=true)(hw:Ct.wrap ((k:Int)+1)=((k+1:Nat):Int))(hcp:∀h,Ev Cr Γ0 36 [.agg [int x.time,int x.campus,int x.no],.agg [int e.time,int e.campus,int e.no]] h (int c) h)(hb:(Qd (c≥0)||x.campus==e.campus&&(Qd (x.time≥e.time)||Qd (x.no≥e.no)))=false):(CW Cr Γ0 [] false (sub Ew 1) (ftI l i k) .normal (ftI l i ((k+1:Nat):Int))):=by
 refine zX {t:=mkT 53 0 [(0,aa l),(3,int (↑i:Int)),(4,int (Cz Ct ((↑k:Int)+1)))],h:=[],m:=[]} C7 [.st (.mask [0,3,4]),.st (.trim 0)] [.b true,.row [vi x.time,vi x.campus,vi x.no,vi x.kind,vi x.stu,vi x.obj,vi x.term,vi x.val,vi x.frm,vi x.til,vs x.text,vi x.sec.id,vi x.sec.course,vi x.sec.term,vi x.sec.campus,vi x.sec.seats,CB (Cq CE x.sec.mts),CB (Cq CA x.sec.grs),CB (Cq ab x.sec.labs),CZ (CI x.sec.lab),vi x.req.campus,vi x.req.no,vi x.req.st,vi x.req.kind,vi x.req.time,CB (Cq Cv x.req.chs),vi x.req.gsec,vi x.req.glab,vi x.req.key,vi x.r,vi x.s],.row [vi e.time,vi e.campus,vi e.no,vi e.kind,vi e.stu,vi e.obj,vi e.term,vi e.val,vi e.frm,vi e.til,vs e.text,vi e.sec.id,vi e.sec.course,vi e.sec.term,vi e.sec.campus,vi e.sec.seats,CB (Cq CE e.sec.mts),CB (Cq CA e.sec.grs),CB (Cq ab e.sec.labs),CZ (CI e.sec.lab),vi e.req.campus,vi e.req.no,vi e.req.st,vi e.req.kind,vi e.req.time,CB (Cq Cv e.req.chs),vi e.req.gsec,vi e.req.glab,vi e.req.key,vi e.r,vi e.s],.val (int c),.b false] (.c hlt (.c hr (.c hr2 (.c (@hcp (xn x e)) (.c hb .n))))) ?_ ?_<;>(first|rfl|(rw[hw]<;>rfl))
noncomputable abbrev vv(x:EntT)(e:EntT):List Blk:=[.var [int x.time,int x.campus,int x.no],.var [int e.time,int e.campus,int e.no]]
theorem ft_bad{l:List (List Dp)}{x e:EntT}{c:Int}{i k:Nat}(hr:ad (k:Int) l x.row 31)(hr2:ad (i:Int) l e.row 31)(hlt:Qd ((k:Int)<(i:Int))=true)(hcp:∀h,Ev Cr Γ0 36 [.agg [int x.time,int x.campus,int x.no],.agg [int e.time,int e.campus,int e.no]] h (int c) h)(hb:(Qd (c≥0)||x.campus==e.campus&&(Qd (x.time≥e.time)||Qd (x.no≥e.no)))=true):(CW Cr Γ0 [] false (sub Ew 1) (ftI l i k) .ret ftX):=by
 exact zx [.st (.mask [2]),.st (.trim 0)] [.b true,.row [vi x.time,vi x.campus,vi x.no,vi x.kind,vi x.stu,vi x.obj,vi x.term,vi x.val,vi x.frm,vi x.til,vs x.text,vi x.sec.id,vi x.sec.course,vi x.sec.term,vi x.sec.campus,vi x.sec.seats,CB (Cq CE x.sec.mts),CB (Cq CA x.sec.grs),CB (Cq ab x.sec.labs),CZ (CI x.sec.lab),vi x.req.campus,vi x.req.no,vi x.req.st,vi x.req.kind,vi x.req.time,CB (Cq Cv x.req.chs),vi x.req.gsec,vi x.req.glab,vi x.req.key,vi x.r,vi x.s],.row [vi e.time,vi e.campus,vi e.no,vi e.kind,vi e.stu,vi e.obj,vi e.term,vi e.val,vi e.frm,vi e.til,vs e.text,vi e.sec.id,vi e.sec.course,vi e.sec.term,vi e.sec.campus,vi e.sec.seats,CB (Cq CE e.sec.mts),CB (Cq CA e.sec.grs),CB (Cq ab e.sec.labs),CZ (CI e.sec.lab),vi e.req.campus,vi e.req.no,vi e.req.st,vi e.req.kind,vi e.req.time,CB (Cq Cv e.req.chs),vi e.req.gsec,vi e.req.glab,vi e.req.key,vi e.r,vi e.s],.val (int c),.b true] (.c hlt (.c hr (.c hr2 (.c (@hcp (vv x e)) (.c hb .n)))))
theorem Bm{l:List (List Dp)}{i k:Nat}(hlt:Qd ((k:Int)<(i:Int))=false):(CW Cr Γ0 [] false (sub Ew 1) (ftI l i k) (.exit 2) (ftO l i)):=by
 exact zx [.st (.mask [0,3])] [.b false] (.c hlt .n)
theorem fo_n{l:List (List Dp)}{i:Nat}(hlt:Qd ((i:Int)<(l.length:Int))=true)(hw:Ct.wrap ((i:Int)+1)=((i+1:Nat):Int))(h5:CW Cr Γ0 [] false (.loop (sub Ew 1)) (ftI l i 0) (.exit 2) (ftO l i)):(CW Cr Γ0 [] false (sub Ew 0) (ftO l i) .normal (ftO l ((i+1:Nat):Int))):=by
 have hl0:=(@h5)
 refine zX {t:=mkT 53 0 [(0,aa l),(3,int (Cz Ct ((↑i:Int)+1)))],h:=[],m:=[]} C7 [.st (.mask [0,3]),.st (.trim 0)] [.b true,.sum [0,3,4] (C4 2) {t:=mkT 53 0 [(0,aa l),(3,int (↑i:Int))],h:=[],m:=[]}] (.c hlt (.c hl0 .n)) ?_ ?_<;>(first|rfl|(rw[hw]<;>rfl))
theorem fo_r{l:List (List Dp)}{i:Nat}(hlt:Qd ((i:Int)<(l.length:Int))=true)(h5:CW Cr Γ0 [] false (.loop (sub Ew 1)) (ftI l i 0) .ret ftX):(CW Cr Γ0 [] false (sub Ew 0) (ftO l i) .ret ftX):=by
 have hl0:=(@h5)
 exact zx [.st (.mask [2]),.st (.trim 0)] [.b true,.sum [0,3,4] (Dj) {t:=mkT 53 0 [(2,bool false)],h:=[],m:=[]}] (.c hlt (.c hl0 .n))
theorem fo_e{l:List (List Dp)}{i:Nat}(hlt:Qd ((i:Int)<(l.length:Int))=false):(CW Cr Γ0 [] false (sub Ew 0) (ftO l i) (.exit 0) {t:=mkT 53 0 [],h:=[],m:=[]}):=by
 exact zx [.st (.mask [])] [.b false] (.c hlt .n)
def ftF(e:EntT)(x:EntT)(_:Unit):Unit⊕Unit:=match f7 x.st e.st with
 | true=>.inr ()
 | false=>.inl ()
theorem Bn{l:List EntT}{i:Nat}{e:EntT}(hs:am l)(hx:l[i]? = some e):CW Cr Γ0 [] false (.loop (sub Ew 1)) (ftI (l.map CG) i 0) (aj (.exit 2) (fun _:Unit=>ftO (l.map CG) i) (fun _:Unit=>(.ret,ftX)) (forL (ftF e) (l.take i) ())).1 (aj (.exit 2) (fun _:Unit=>ftO (l.map CG) i) (fun _:Unit=>(.ret,ftX)) (forL (ftF e) (l.take i) ())).2:=by
 have hi:=(Cx.1 hx).1
 have hlen:(l.take i).length=i:=by simp;omega
 refine E7 (l.take i) (ftF e) (fun j _=>ftI (l.map CG) i (j:Int)) (.exit 2) _ _ (fun _ _=>True) (by simp) (fun _=>by simp) ?_ ?_ () trivial
 ·intro j x a hj _
  have hlt:=(Cx.1 hj).1
  rw[hlen] at hlt
  have hj2:l[j]? = some x:=by rw[Eh] at hj;split at hj<;>simp_all
  have hr:=rowAt (row:=CG) (sz:=31) hj2 rfl
  have hr2:=rowAt (row:=CG) (sz:=31) hx rfl
  have hl2:Qd ((j:Int)<(i:Int))=true:=by simp only[decide_eq_true_eq];omega
  have hcp:∀h,Ev Cr Γ0 36 [.agg [int x.time,int x.campus,int x.no],.agg [int e.time,int e.campus,int e.no]] h (int (bO x.st e.st)) h:=fun h=>oZ (a:=x.st) (b:=e.st) h
  refine⟨fun _ _=>trivial,?_⟩
  unfold ftF
  cases hb:f7 x.st e.st with
  | true=>exact ft_bad hr hr2 hl2 hcp hb
  | false=>exact ft_ok hr hr2 hl2 (wrap_succ (n:=l.length) (by omega) hs) hcp hb
 ·intro a _
  exact Bm (by rw[hlen];simp)
theorem vw:∀{l:List EntT} {e:EntT},forL (ftF e) l ()=(match l.any (fun x=>f7 x.st e.st) with|true=>.inr ()|false=>.inl ())
 | [],_=>rfl
 | y::l,x=>by
  unfold forL
  rw[F8]
  cases hb:f7 y.st x.st with
  | true=>simp only[ftF,hb];rfl
  | false=>simp only[ftF,hb,Dy];exact vw
def ci(pre:List EntT):List EntT→Bool
 | []=>false
 | e::l=>pre.any (fun x=>f7 x.st e.st)||ci (pre++[e]) l
theorem Bo{l:List EntT}(hs:am l):(ci [] l=true→CW Cr Γ0 [] false (.loop (sub Ew 0)) (ftO (l.map CG) 0) .ret ftX)∧(ci [] l=false→CW Cr Γ0 [] false (.loop (sub Ew 0)) (ftO (l.map CG) 0) (.exit 0) {t:=mkT 53 0 [],h:=[],m:=[]}):=by
 have key:CW Cr Γ0 [] false (.loop (sub Ew 0)) (ftO (l.map CG) ((0:Nat):Int)) (match ci [] l with|true=>Dj|false=>.exit 0) (match ci [] l with|true=>ftX|false=>{t:=mkT 53 0 [],h:=[],m:=[]}):=by
  refine CW.loop (ι:={i:Nat // i≤l.length∧ci [] l=ci (l.take i) (l.drop i)}) (fun p=>ftO (l.map CG) (p.1:Int)) (fun _=>(match ci [] l with|true=>Dj|false=>.exit 0,match ci [] l with|true=>ftX|false=>{t:=mkT 53 0 [],h:=[],m:=[]})) (fun p=>l.length - p.1) ?_ ⟨0,by simp,by simp⟩
  rintro⟨i,hi,hd⟩
  try simp only at hi hd
  by_cases hlt:i<l.length
  ·have hc:l[i]? = some l[i]:=C6 hlt
   have hdr:l.drop i=l[i]::l.drop (i+1):=Ed hlt
   have htk:l.take (i+1)=l.take i++[l[i]]:=by rw[List.take_add_one,hc];rfl
   rw[hdr] at hd
   simp only[ci] at hd
   rw[←htk] at hd
   have h5:=Bn hs hc
   rw[vw] at h5
   cases ha:(l.take i).any (fun x=>f7 x.st l[i].st) with
   | true =>
    rw[ha] at h5 hd
    have hd2:ci [] l=true:=by rw[hd];rfl
    refine .inr ⟨by rw[hd2];simp,?_⟩
    show CW Cr Γ0 [] false (sub Ew 0) (ftO (l.map CG) (i:Int)) (match ci [] l with|true=>Dj|false=>.exit 0) (match ci [] l with|true=>ftX|false=>_)
    rw[hd2]
    exact fo_r (lt_len CG hlt) h5
   | false =>
    rw[ha] at h5 hd
    exact .inl ⟨⟨i+1,by omega,by rw[hd];rfl⟩,by simp;omega,rfl,fo_n (lt_len CG hlt) (wrap_succ hlt hs) h5⟩
  ·have hi2:i=l.length:=by omega
   subst hi2
   rw[List.drop_length] at hd
   have hd2:ci [] l=false:=by rw[hd];rfl
   refine .inr ⟨by rw[hd2];simp,?_⟩
   show CW Cr Γ0 [] false (sub Ew 0) (ftO (l.map CG) (l.length:Int)) (match ci [] l with|true=>Dj|false=>.exit 0) (match ci [] l with|true=>ftX|false=>_)
   rw[hd2]
   exact fo_e (a9 CG l)
 refine⟨fun h=>?_,fun h=>?_⟩
 ·rw[h] at key;exact key
 ·rw[h] at key;exact key
theorem rfit_x{L:List (List Dp)}(hl:CW Cr Γ0 [] false (.loop (sub Ew 0)) (ftO L 0) .ret ftX)(h:List Blk):(Ev Cr Γ0 29 [aa L] h (bool false) h):=by
 have hl0:=(@hl)
 exact z0 [.sum [0,3] (Dj) {t:=mkT 53 0 [(2,bool false)],h:=[],m:=[]}] (.c hl0 .n) h
theorem rfit_o{L:List (List Dp)}(hl:CW Cr Γ0 [] false (.loop (sub Ew 0)) (ftO L 0) (.exit 0) {t:=mkT 53 0 [],h:=[],m:=[]})(h:List Blk):(Ev Cr Γ0 29 [aa L] h (bool true) h):=by
 have hl0:=(@hl)
 exact z0 [.sum [0,3] (C4 0) {t:=mkT 53 0 [],h:=[],m:=[]}] (.c hl0 .n) h
theorem vz{l:List EntT}(hs:am l)(h:List Blk):Ev Cr Γ0 29 [aa (l.map CG)] h (bool (!ci [] l)) h:=by
 have:=Bo hs
 cases hf:ci [] l with
 | true=>exact rfit_x (this.1 hf) h
 | false=>exact rfit_o (this.2 hf) h
abbrev rcS(l:List (List Dp))(i:Int):AS:={t:=mkT 25 0 [(0,aa l),(3,int i)],h:=[],m:=[]}
theorem Bp{l:List (List Dp)}{e:EntT}{i:Nat}(hr:ad (i:Int) l e.row 31)(hlt:Qd ((i:Int)<(l.length:Int))=true)(hw:Ct.wrap ((i:Int)+1)=((i+1:Nat):Int))(hck:∀h,Ev Cr Γ0 28 [ag e.row] h (int 0) h):(CW Cr Γ0 [] false (sub Hf 0) (rcS l i) .normal (rcS l ((i+1:Nat):Int))):=by
 refine zX {t:=mkT 25 0 [(0,aa l),(3,int (Cz Ct ((↑i:Int)+1)))],h:=[],m:=[]} C7 [.st (.mask [0,3]),.st (.trim 0)] [.b true,.row [vi e.time,vi e.campus,vi e.no,vi e.kind,vi e.stu,vi e.obj,vi e.term,vi e.val,vi e.frm,vi e.til,vs e.text,vi e.sec.id,vi e.sec.course,vi e.sec.term,vi e.sec.campus,vi e.sec.seats,CB (Cq CE e.sec.mts),CB (Cq CA e.sec.grs),CB (Cq ab e.sec.labs),CZ (CI e.sec.lab),vi e.req.campus,vi e.req.no,vi e.req.st,vi e.req.kind,vi e.req.time,CB (Cq Cv e.req.chs),vi e.req.gsec,vi e.req.glab,vi e.req.key,vi e.r,vi e.s],.val (int 0),.b false] (.c hlt (.c hr (.c (@hck ([])) (.c (show(0 != 0)=false from rfl) .n)))) ?_ ?_<;>(first|rfl|(rw[hw]<;>rfl))
theorem rc_bad{l:List (List Dp)}{e:EntT}{i:Nat}{r:Int}(hr:ad (i:Int) l e.row 31)(hlt:Qd ((i:Int)<(l.length:Int))=true)(hck:∀h,Ev Cr Γ0 28 [ag e.row] h (int r) h)(hn:(r != 0)=true):(CW Cr Γ0 [] false (sub Hf 0) (rcS l i) .ret {t:=mkT 25 0 [(2,int r)],h:=[],m:=[]}):=by
 exact zx [.st (.mask [2]),.st (.trim 0)] [.b true,.row [vi e.time,vi e.campus,vi e.no,vi e.kind,vi e.stu,vi e.obj,vi e.term,vi e.val,vi e.frm,vi e.til,vs e.text,vi e.sec.id,vi e.sec.course,vi e.sec.term,vi e.sec.campus,vi e.sec.seats,CB (Cq CE e.sec.mts),CB (Cq CA e.sec.grs),CB (Cq ab e.sec.labs),CZ (CI e.sec.lab),vi e.req.campus,vi e.req.no,vi e.req.st,vi e.req.kind,vi e.req.time,CB (Cq Cv e.req.chs),vi e.req.gsec,vi e.req.glab,vi e.req.key,vi e.r,vi e.s],.val (int r),.b true] (.c hlt (.c hr (.c (@hck ([])) (.c hn .n))))
theorem Bq{l:List (List Dp)}{i:Nat}(hlt:Qd ((i:Int)<(l.length:Int))=false):(CW Cr Γ0 [] false (sub Hf 0) (rcS l i) (.exit 0) {t:=mkT 25 0 [(0,aa l)],h:=[],m:=[]}):=by
 exact zx [.st (.mask [0])] [.b false] (.c hlt .n)
theorem Br{L:List (List Dp)}(hb:Qd ((L.length:Int)>65536)=true)(h:List Blk):(Ev Cr Γ0 13 [aa L] h (int 2) h):=by
 exact z0 [.b true] (.c hb .n) h
theorem red_r{L:List (List Dp)}{r:Int}(hb:Qd ((L.length:Int)>65536)=false)(hl:CW Cr Γ0 [] false (.loop (sub Hf 0)) (rcS L 0) .ret {t:=mkT 25 0 [(2,int r)],h:=[],m:=[]})(h:List Blk):(Ev Cr Γ0 13 [aa L] h (int r) h):=by
 have hl0:=(@hl)
 exact z0 [.b false,.sum [0,3] (Dj) {t:=mkT 25 0 [(2,int r)],h:=[],m:=[]}] (.c hb (.c hl0 .n)) h
theorem red_f{L:List (List Dp)}{f:Bool}(hb:Qd ((L.length:Int)>65536)=false)(hl:CW Cr Γ0 [] false (.loop (sub Hf 0)) (rcS L 0) (.exit 0) {t:=mkT 25 0 [(0,aa L)],h:=[],m:=[]})(hf:∀h,Ev Cr Γ0 29 [aa L] h (bool f) h)(h:List Blk):(Ev Cr Γ0 13 [aa L] h (int (bif f then 0 else 390)) h):=by
 have hl0:=(@hl)
 cases hc1:!f
 ·exact zD (int 0) [.b false,.sum [0,3] (C4 0) {t:=mkT 25 0 [(0,aa L)],h:=[],m:=[]},.val (bool f),.b false] (.c hb (.c hl0 (.c (@hf ([])) (.c hc1 .n)))) h (by first|rfl|(cases f<;>simp_all))
 ·exact zD (int 390) [.b false,.sum [0,3] (C4 0) {t:=mkT 25 0 [(0,aa L)],h:=[],m:=[]},.val (bool f),.b true] (.c hb (.c hl0 (.c (@hf ([])) (.c hc1 .n)))) h (by first|rfl|(cases f<;>simp_all))
end Go.Vi
