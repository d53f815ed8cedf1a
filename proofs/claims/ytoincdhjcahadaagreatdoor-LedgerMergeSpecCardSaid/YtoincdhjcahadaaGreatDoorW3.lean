/- LedgerMergeSpec: part of the proof: contracts of the functions that the law reaches, and the law. No conditions beyond the given statement's own. -/
import Derived.Test.YtoincdhjcahadaaGreatDoorW2
open Decidable renaming decide → Qd
open Nat renaming lt_of_lt_of_le → D7
open Go.World renaming cell? → He
open Array renaming getElem?_eq_none → Gi
open Go.Proofs.Tryz renaming prog → Cr
open List renaming map → Cq, getElem?_cons_zero → CV
open Go.Vi.MeT renaming row → CE
open Go.Vi.GrT renaming row → CA
open Go.Vi.BuT renaming row → Cv
open ByteArray renaming size → GO, empty → Dm
open Go.IntKind renaming i64 → Ct, wrap → Cz
open BitVec renaming ofInt → DQ, toNat → Gz
open Int renaming toNat → CQ
open Go.Vi.EntT renaming row → CG
open Go.Vi.D renaming tup → DC, p → Ej, fn → C5, agg → CF
open Bool renaming and_eq_true → Cy
open Go.Vi.Dp renaming v → CZ
open Go.Vi.Ev renaming glob0 → CT
open Go.Fn renaming func → CH
open Go.Value renaming nilFunc → C1
open Go.Op renaming call → Ht, fieldAddr → Fy, load → Hu, lookup → Gv, move → Hv, extract → Eg, alloc → G2, store → G3, assign → Gw
open Go.Callee renaming value → Ff
open Go.Operand renaming func → E8, tmp → CK
open Go.Ground renaming data → CN, gcOnly → EW, chain → DP, phase → CD, textOnly → EI
open Go.Departure renaming lateStores → Dh
open Go Go.Proofs
namespace Go.Vi
set_option maxRecDepth 100000
set_option maxHeartbeats 4000000
theorem Ext.bump{w w':World}{l:Loc}{h:List Blk}(hs:w.heap.size≤w'.heap.size)(hk:∀k,k<w.heap.size→w'.heap[k]? = w.heap[k]?)(ht:w'.tape=w.tape∧w'.os=w.os∧w'.output=w.output∧w.drawn≤w'.drawn):Ext w l h w' l h :=
 ⟨hs,fun k hk' _=>hk k hk',fun _ ho=>.inl ho,fun _ x hx=>⟨x,hx,x.le_refl,fun _=>rfl⟩,ht⟩
theorem Rep.bump{Γ:af}{O:Nat→Prop}{w w':World}{l:Loc}{h:List Blk}(R:Rep Γ O w l h)(hs:w.heap.size≤w'.heap.size)(hk:∀k,k<w.heap.size→w'.heap[k]? = w.heap[k]?)(ht:w'.tape=w.tape∧w'.os=w.os∧w'.output=w.output∧w.drawn≤w'.drawn):Rep Γ O w' l h where
 inb k ho:=⟨D7 (R.inb k ho).1 hs,(R.inb k ho).2⟩
 obd k ho:=D7 (R.obd k ho) hs
 inj:=R.inj
 blk b x hx:=by
  by_cases hg:x=.gone
  ·subst hg;trivial
  ·exact BlkOk.ext (Ext.bump hs hk ht) rfl (fun blk cp hl=>hk blk (R.inb blk ⟨b,x,cp,hx,hg,hl⟩).1) (R.blk b x hx)
 glo g cs hg:=by
  have E:=Ext.bump (l:=l) (h:=h) hs hk ht
  have hb:=R.glo g cs hg
  clear hg
  generalize hz:0=o at hb
  clear hz
  induction cs generalizing o with
  | nil=>trivial
  | cons c cs ih =>
   simp only[RelCells] at hb ⊢
   obtain⟨⟨h1,y,h2,h3⟩,h4⟩:=hb
   have hlt:g<w.heap.size:=by
    rcases Nat.lt_or_ge g w.heap.size with h|h
    ·exact h
    ·simp[He,Gi h] at h2
   refine⟨⟨h1,y,?_,E.relP h3⟩,ih _ h4⟩
   rw[←h2]
   simp[He,hk g hlt]
theorem iI(w:World)(o:Obj):(w.alloc o).heap.size=w.heap.size+1:=Array.size_push _
theorem kM(w:World)(o:Obj)(k:Nat)(hk:k<w.heap.size):(w.alloc o).heap[k]? = w.heap[k]?:=by
 show(w.heap.push o)[k]? = _
 rw[Array.getElem?_push,if_neg (Nat.ne_of_lt hk)]
namespace As
abbrev Gt:Dp:=.v (.iface 157 (.agg #[.pointer (some ⟨3,111,none⟩)]))
abbrev Co(e:Int):D:=lit (.iface 127 (.agg #[.int .i64 e]))
theorem sN(w:World):Calls Cr 89 #[.nilIface] w fun e w'=>e=.returned (.int .i64 0)∧w'=w.alloc (.cells #[.int .i64 0] 127):=by
 go_enter Tryz.func89,Tryz.ntmps89
 go_wp2_with (first|(go_at_call 102;refine(as_nil _ _).mono ?_;rintro e w' ⟨rfl,rfl⟩))
 go_ret
 exact⟨rfl,rfl⟩
set_option maxHeartbeats 4000000 in
theorem sO(e:Int)(w:World)(hg:w.cell? ⟨1,0,none⟩=some (.iface 157 (.agg #[.pointer (some ⟨3,111,none⟩)]))):
  Calls Cr 89 #[.iface 127 (.agg #[.int .i64 e])] w fun ev w'=>ev=.returned (.int .i64 e)∧w.heap.size≤w'.heap.size∧(∀k,k<w.heap.size→w'.heap[k]? = w.heap[k]?)∧w'.tape=w.tape∧w'.os=w.os∧w'.output=w.output∧w.drawn≤w'.drawn:=by
 have hlt:1<w.heap.size:=by
  rcases Nat.lt_or_ge 1 w.heap.size with h|h
  ·exact h
  ·simp[He,Gi h] at hg
 have hgA:(w.alloc (.cells #[.int .i64 0] 127)).cell? ⟨1,0,none⟩=some (.iface 157 (.agg #[.pointer (some ⟨3,111,none⟩)])):=by
  rw[World.cell?_alloc_lt _ _ ⟨1,0,none⟩ hlt];exact hg
 have htA:(w.alloc (.cells #[.int .i64 0] 127)).cell? ⟨w.heap.size,0,none⟩=some (.int .i64 0):=by simp
 have hfA:(w.alloc (.cells #[.int .i64 0] 127)).frozen? ⟨w.heap.size,0,none⟩=false:=by simp
 go_enter Tryz.func89,Tryz.ntmps89
 go_wp2_with (first|(go_at_call 102;refine(as_hit e _ _ _ hgA htA hfA).mono ?_;rintro e w' ⟨rfl,rfl⟩))
 go_ret
 refine⟨rfl,?_,fun k hk=>?_,rfl,rfl,rfl,Nat.le_refl _⟩
 ·simp only[iI];omega
 ·iterate 4 rw[kM _ _ k (by simp only[iI];omega)]
  exact kM _ _ k hk
theorem code_hit{Γ:af}(hΓ:Γ 1=some [Gt])(e:Int)(h:List Blk):Ev Cr Γ 89 [Co e] h (int e) h:=by
 intro O w l vs R ra
 obtain⟨y,rfl⟩:∃y,vs=[y]:=by
  match vs,ra with
  | [y],_=>exact⟨y,rfl⟩
  | [],r=>simp[RelL] at r
  | _::_::_,r=>simp[RelL] at r
 have r:=ra.1
 simp only[Rel,RelP] at r
 subst r
 have hg:=(R.glo 1 _ hΓ).1.2
 obtain⟨y,hy,ry⟩:=hg
 simp only[RelP] at ry
 subst ry
 refine callsIn_wide.2 (Calls.mono (sO e w hy) ?_)
 rintro ev w' ⟨rfl,hs,hk,ht⟩
 exact⟨_,int e,h,l,rfl,⟨rfl,rfl⟩,R.bump hs hk ht,Ext.bump hs hk ht,by simp[Rel,RelP]⟩
theorem code_nil{Γ:af}(h:List Blk):Ev Cr Γ 89 [lit .nilIface] h (int 0) h:=by
 intro O w l vs R ra
 obtain⟨y,rfl⟩:∃y,vs=[y]:=by
  match vs,ra with
  | [y],_=>exact⟨y,rfl⟩
  | [],r=>simp[RelL] at r
  | _::_::_,r=>simp[RelL] at r
 have r:=ra.1
 simp only[Rel,RelP] at r
 subst r
 refine callsIn_wide.2 (Calls.mono (sN w) ?_)
 rintro ev w' ⟨rfl,rfl⟩
 have hs:w.heap.size≤(w.alloc (.cells #[.int .i64 0] 127)).heap.size:=by rw[iI];omega
 have hk:∀k,k<w.heap.size→(w.alloc (.cells #[.int .i64 0] 127)).heap[k]? = w.heap[k]?:=fun k hk=>kM _ _ k hk
 have ht:(w.alloc (.cells #[.int .i64 0] 127)).tape=w.tape∧(w.alloc (.cells #[.int .i64 0] 127)).os=w.os∧(w.alloc (.cells #[.int .i64 0] 127)).output=w.output∧w.drawn≤(w.alloc (.cells #[.int .i64 0] 127)).drawn:=⟨rfl,rfl,rfl,Nat.le_refl _⟩
 exact⟨_,int 0,h,l,rfl,⟨rfl,rfl⟩,R.bump hs hk ht,Ext.bump hs hk ht,by simp[Rel,RelP]⟩
end As
set_option maxHeartbeats 4000000
set_option maxRecDepth 100000
def catB(e:EntT):Bool:=a7 e.frm e.til&&Qd ((e.text.size:Int)≤65536)
noncomputable abbrev pa(e:EntT):List Blk:=[.var [int e.time,int e.campus,int e.no,int e.kind,int e.stu,int e.obj,int e.term,int e.val,int e.frm,int e.til,aw e.text,int e.sec.id,int e.sec.course,int e.sec.term,int e.sec.campus,int e.sec.seats,aa (Cq CE e.sec.mts),aa (Cq CA e.sec.grs),aa (Cq ab e.sec.labs),bool e.sec.lab,int e.req.campus,int e.req.no,int e.req.st,int e.req.kind,int e.req.time,aa (Cq Cv e.req.chs),int e.req.gsec,int e.req.glab,int e.req.key,int e.r,int e.s]]
theorem cat_ev{e:EntT}(h:List Blk):(Ev Cr Γ0 57 [ag e.row] h (int (mustR (catB e))) h):=by
 exact zD (int (mustR (a7 e.frm e.til&&Qd ((↑(GO e.text):Int)≤65536)))) [.val (bool (a7 e.frm e.til)),.val (int (mustR (a7 e.frm e.til&&Qd ((↑(GO e.text):Int)≤65536))))] (.c (@fV (e.frm) (e.til) (pa e)) (.c (@d5 (a7 e.frm e.til&&Qd ((↑(GO e.text):Int)≤65536)) (pa e)) .n)) h (by first|rfl|(simp only[catB,];first|done|rfl))
def wV(n:Int):Int:=Ct.wrap ((DQ Ct.bits n &&& DQ Ct.bits 15).toNat)
def shr4(n:Int):Int:=n.fdiv (2 ^ (min (4:Int).toNat Ct.bits))
def pc(e:EntT):Bool:=e.val == -1||Qd (e.val≥0)&&Qd (wV e.val≤12)&&Qd (shr4 e.val<7)
noncomputable abbrev dj(e:EntT):List Blk:=[.var [int e.time,int e.campus,int e.no,int e.kind,int e.stu,int e.obj,int e.term,int e.val,int e.frm,int e.til,aw e.text,int e.sec.id,int e.sec.course,int e.sec.term,int e.sec.campus,int e.sec.seats,aa (Cq CE e.sec.mts),aa (Cq CA e.sec.grs),aa (Cq ab e.sec.labs),bool e.sec.lab,int e.req.campus,int e.req.no,int e.req.st,int e.req.kind,int e.req.time,aa (Cq Cv e.req.chs),int e.req.gsec,int e.req.glab,int e.req.key,int e.r,int e.s]]
theorem uU{e:EntT}(h:List Blk):(Ev Cr Γ0 60 [ag e.row] h (int (mustR (inS e.stu 0 19999&&inS e.term 0 1023&&inS e.obj 0 4095&&pc e))) h):=by
 exact zD (int (mustR (inS e.stu 0 19999&&inS e.term 0 1023&&inS e.obj 0 4095&&(e.val == -1||Qd (e.val≥0)&&Qd (Cz Ct (↑(Gz (DQ 64 e.val &&& DQ 64 15)):Int)≤12)&&Qd (Int.fdiv e.val (2 ^ min (CQ 4) 64)<7))))) [.val (bool (inS e.stu 0 19999)),.val (bool (inS e.term 0 1023)),.val (bool (inS e.obj 0 4095)),.val (int (mustR (inS e.stu 0 19999&&inS e.term 0 1023&&inS e.obj 0 4095&&(e.val == -1||Qd (e.val≥0)&&Qd (Cz Ct (↑(Gz (DQ 64 e.val &&& DQ 64 15)):Int)≤12)&&Qd (Int.fdiv e.val (2 ^ min (CQ 4) 64)<7)))))] (.c (show(!e.val == -1&&(Qd (e.val≥0)&&Qd (Cz Ct (↑(Gz (DQ 64 e.val &&& DQ 64 15)):Int)≤12)))=true→Qd (0≤4)=true from(fun hg=>rfl)) (.c (@kI e (dj e)) (.c (gd (inS e.stu 0 19999) (@yE e (dj e))) (.c (gd (inS e.stu 0 19999&&inS e.term 0 1023) (@di (e.obj) 0 4095 (dj e))) (.c (@d5 (inS e.stu 0 19999&&inS e.term 0 1023&&inS e.obj 0 4095&&(e.val == -1||Qd (e.val≥0)&&Qd (Cz Ct (↑(Gz (DQ 64 e.val &&& DQ 64 15)):Int)≤12)&&Qd (Int.fdiv e.val (2 ^ min (CQ 4) 64)<7))) (dj e)) .n))))) h (by first|rfl|(simp only[pc,wV,shr4,];first|done|rfl))
def Aw(e:EntT):Bool:=inS e.stu 0 19999&&a7 e.frm e.til&&inS e.obj 0 7&&(e.val==1||e.val == -1)
noncomputable abbrev dk(e:EntT):List Blk:=[.var [int e.time,int e.campus,int e.no,int e.kind,int e.stu,int e.obj,int e.term,int e.val,int e.frm,int e.til,aw e.text,int e.sec.id,int e.sec.course,int e.sec.term,int e.sec.campus,int e.sec.seats,aa (Cq CE e.sec.mts),aa (Cq CA e.sec.grs),aa (Cq ab e.sec.labs),bool e.sec.lab,int e.req.campus,int e.req.no,int e.req.st,int e.req.kind,int e.req.time,aa (Cq Cv e.req.chs),int e.req.gsec,int e.req.glab,int e.req.key,int e.r,int e.s]]
theorem pf{e:EntT}(h:List Blk):(Ev Cr Γ0 61 [ag e.row] h (int (mustR (Aw e))) h):=by
 exact zD (int (mustR (inS e.stu 0 19999&&a7 e.frm e.til&&inS e.obj 0 7&&(e.val==1||e.val == -1)))) [.val (bool (inS e.stu 0 19999)),.val (bool (a7 e.frm e.til)),.val (bool (inS e.obj 0 7)),.val (int (mustR (inS e.stu 0 19999&&a7 e.frm e.til&&inS e.obj 0 7&&(e.val==1||e.val == -1))))] (.c (@kI e (dk e)) (.c (gd (inS e.stu 0 19999) (@fV (e.frm) (e.til) (dk e))) (.c (gd (inS e.stu 0 19999&&a7 e.frm e.til) (@di (e.obj) 0 7 (dk e))) (.c (@d5 (inS e.stu 0 19999&&a7 e.frm e.til&&inS e.obj 0 7&&(e.val==1||e.val == -1)) (dk e)) .n)))) h (by first|rfl|(simp only[Aw,];first|done|rfl))
noncomputable abbrev qd(e:EntT):List Blk:=[.var [int e.time,int e.campus,int e.no,int e.kind,int e.stu,int e.obj,int e.term,int e.val,int e.frm,int e.til,aw e.text,int e.sec.id,int e.sec.course,int e.sec.term,int e.sec.campus,int e.sec.seats,aa (Cq CE e.sec.mts),aa (Cq CA e.sec.grs),aa (Cq ab e.sec.labs),bool e.sec.lab,int e.req.campus,int e.req.no,int e.req.st,int e.req.kind,int e.req.time,aa (Cq Cv e.req.chs),int e.req.gsec,int e.req.glab,int e.req.key,int e.r,int e.s]]
theorem wW{e:EntT}(h:List Blk):(Ev Cr Γ0 70 [ag e.row] h (int (ek ⟨e.val,e.stu,e.obj,e.term⟩)) h):=by
 exact z0 [.val (int (ek {kind:=e.val,st:=e.stu,obj:=e.obj,term:=e.term}))] (.c (@uO ({kind:=e.val,st:=e.stu,obj:=e.obj,term:=e.term}) (qd e)) .n) h
noncomputable abbrev md(e:EntT):List Blk:=[.var [int e.time,int e.campus,int e.no,int e.kind,int e.stu,int e.obj,int e.term,int e.val,int e.frm,int e.til,aw e.text,int e.sec.id,int e.sec.course,int e.sec.term,int e.sec.campus,int e.sec.seats,aa (Cq CE e.sec.mts),aa (Cq CA e.sec.grs),aa (Cq ab e.sec.labs),bool e.sec.lab,int e.req.campus,int e.req.no,int e.req.st,int e.req.kind,int e.req.time,aa (Cq Cv e.req.chs),int e.req.gsec,int e.req.glab,int e.req.key,int e.r,int e.s]]
theorem Ax{e:EntT}(h:List Blk):(Ev Cr Γ0 72 [ag e.row] h (int (mustR (inS e.term 0 1023))) h):=by
 exact z0 [.val (bool (inS e.term 0 1023)),.val (int (mustR (inS e.term 0 1023)))] (.c (@yE e (md e)) (.c (@d5 (inS e.term 0 1023) (md e)) .n)) h
def wX(m:Int)(e:EntT):Bool:=inS e.stu 0 19999&&a7 e.frm e.til&&inS e.obj 0 m&&(e.val == -1||inS e.val 1 1099511627776)
noncomputable abbrev dG(e:EntT):List Blk:=[.var [int e.time,int e.campus,int e.no,int e.kind,int e.stu,int e.obj,int 7,int e.val,int e.frm,int e.til,aw e.text,int e.sec.id,int e.sec.course,int e.sec.term,int e.sec.campus,int e.sec.seats,aa (Cq CE e.sec.mts),aa (Cq CA e.sec.grs),aa (Cq ab e.sec.labs),bool e.sec.lab,int e.req.campus,int e.req.no,int e.req.st,int e.req.kind,int e.req.time,aa (Cq Cv e.req.chs),int e.req.gsec,int e.req.glab,int e.req.key,int e.r,int e.s],.map [(int 7,int 4095,0),(int 9,int 4095,1),(int 8,int 3999,2),(int 10,int 0,3)] 4]
theorem Ay{e:EntT}(h:List Blk):(Ev Cr Γ0 63 [ag (CG {e with term:=7})] h (int (mustR (wX 4095 e))) h):=by
 exact zD (int (mustR (true&&inS e.stu 0 19999&&a7 e.frm e.til&&inS e.obj 0 4095&&(e.val == -1||inS e.val 1 1099511627776)))) [.val (bool (inS e.stu 0 19999)),.val (bool (a7 e.frm e.til)),.val (bool (inS e.obj 0 4095)),.val (bool (inS e.val 1 1099511627776)),.val (int (mustR (true&&inS e.stu 0 19999&&a7 e.frm e.til&&inS e.obj 0 4095&&(e.val == -1||inS e.val 1 1099511627776))))] (.c (gd true (@kI ({time:=e.time,campus:=e.campus,no:=e.no,kind:=e.kind,stu:=e.stu,obj:=e.obj,term:=7,val:=e.val,frm:=e.frm,til:=e.til,text:=e.text,sec:=e.sec,req:=e.req,r:=e.r,s:=e.s}) (dG e))) (.c (gd (true&&inS e.stu 0 19999) (@fV (e.frm) (e.til) (dG e))) (.c (gd (true&&inS e.stu 0 19999&&a7 e.frm e.til) (@di (e.obj) 0 4095 (dG e))) (.c (gd (true&&inS e.stu 0 19999&&a7 e.frm e.til&&inS e.obj 0 4095&&!e.val == -1) (@di (e.val) 1 1099511627776 (dG e))) (.c (@d5 (true&&inS e.stu 0 19999&&a7 e.frm e.til&&inS e.obj 0 4095&&(e.val == -1||inS e.val 1 1099511627776)) (dG e)) .n))))) h (by first|rfl|(simp only[wX,];first|done|rfl))
noncomputable abbrev dH(e:EntT):List Blk:=[.var [int e.time,int e.campus,int e.no,int e.kind,int e.stu,int e.obj,int 9,int e.val,int e.frm,int e.til,aw e.text,int e.sec.id,int e.sec.course,int e.sec.term,int e.sec.campus,int e.sec.seats,aa (Cq CE e.sec.mts),aa (Cq CA e.sec.grs),aa (Cq ab e.sec.labs),bool e.sec.lab,int e.req.campus,int e.req.no,int e.req.st,int e.req.kind,int e.req.time,aa (Cq Cv e.req.chs),int e.req.gsec,int e.req.glab,int e.req.key,int e.r,int e.s],.map [(int 7,int 4095,0),(int 9,int 4095,1),(int 8,int 3999,2),(int 10,int 0,3)] 4]
theorem Az{e:EntT}(h:List Blk):(Ev Cr Γ0 63 [ag (CG {e with term:=9})] h (int (mustR (wX 4095 e))) h):=by
 exact zD (int (mustR (true&&inS e.stu 0 19999&&a7 e.frm e.til&&inS e.obj 0 4095&&(e.val == -1||inS e.val 1 1099511627776)))) [.val (bool (inS e.stu 0 19999)),.val (bool (a7 e.frm e.til)),.val (bool (inS e.obj 0 4095)),.val (bool (inS e.val 1 1099511627776)),.val (int (mustR (true&&inS e.stu 0 19999&&a7 e.frm e.til&&inS e.obj 0 4095&&(e.val == -1||inS e.val 1 1099511627776))))] (.c (gd true (@kI ({time:=e.time,campus:=e.campus,no:=e.no,kind:=e.kind,stu:=e.stu,obj:=e.obj,term:=9,val:=e.val,frm:=e.frm,til:=e.til,text:=e.text,sec:=e.sec,req:=e.req,r:=e.r,s:=e.s}) (dH e))) (.c (gd (true&&inS e.stu 0 19999) (@fV (e.frm) (e.til) (dH e))) (.c (gd (true&&inS e.stu 0 19999&&a7 e.frm e.til) (@di (e.obj) 0 4095 (dH e))) (.c (gd (true&&inS e.stu 0 19999&&a7 e.frm e.til&&inS e.obj 0 4095&&!e.val == -1) (@di (e.val) 1 1099511627776 (dH e))) (.c (@d5 (true&&inS e.stu 0 19999&&a7 e.frm e.til&&inS e.obj 0 4095&&(e.val == -1||inS e.val 1 1099511627776)) (dH e)) .n))))) h (by first|rfl|(simp only[wX,];first|done|rfl))
noncomputable abbrev dI(e:EntT):List Blk:=[.var [int e.time,int e.campus,int e.no,int e.kind,int e.stu,int e.obj,int 8,int e.val,int e.frm,int e.til,aw e.text,int e.sec.id,int e.sec.course,int e.sec.term,int e.sec.campus,int e.sec.seats,aa (Cq CE e.sec.mts),aa (Cq CA e.sec.grs),aa (Cq ab e.sec.labs),bool e.sec.lab,int e.req.campus,int e.req.no,int e.req.st,int e.req.kind,int e.req.time,aa (Cq Cv e.req.chs),int e.req.gsec,int e.req.glab,int e.req.key,int e.r,int e.s],.map [(int 7,int 4095,0),(int 9,int 4095,1),(int 8,int 3999,2),(int 10,int 0,3)] 4]
theorem AA{e:EntT}(h:List Blk):(Ev Cr Γ0 63 [ag (CG {e with term:=8})] h (int (mustR (wX 3999 e))) h):=by
 exact zD (int (mustR (true&&inS e.stu 0 19999&&a7 e.frm e.til&&inS e.obj 0 3999&&(e.val == -1||inS e.val 1 1099511627776)))) [.val (bool (inS e.stu 0 19999)),.val (bool (a7 e.frm e.til)),.val (bool (inS e.obj 0 3999)),.val (bool (inS e.val 1 1099511627776)),.val (int (mustR (true&&inS e.stu 0 19999&&a7 e.frm e.til&&inS e.obj 0 3999&&(e.val == -1||inS e.val 1 1099511627776))))] (.c (gd true (@kI ({time:=e.time,campus:=e.campus,no:=e.no,kind:=e.kind,stu:=e.stu,obj:=e.obj,term:=8,val:=e.val,frm:=e.frm,til:=e.til,text:=e.text,sec:=e.sec,req:=e.req,r:=e.r,s:=e.s}) (dI e))) (.c (gd (true&&inS e.stu 0 19999) (@fV (e.frm) (e.til) (dI e))) (.c (gd (true&&inS e.stu 0 19999&&a7 e.frm e.til) (@di (e.obj) 0 3999 (dI e))) (.c (gd (true&&inS e.stu 0 19999&&a7 e.frm e.til&&inS e.obj 0 3999&&!e.val == -1) (@di (e.val) 1 1099511627776 (dI e))) (.c (@d5 (true&&inS e.stu 0 19999&&a7 e.frm e.til&&inS e.obj 0 3999&&(e.val == -1||inS e.val 1 1099511627776)) (dI e)) .n))))) h (by first|rfl|(simp only[wX,];first|done|rfl))
noncomputable abbrev c6(e:EntT):List Blk:=[.var [int e.time,int e.campus,int e.no,int e.kind,int e.stu,int e.obj,int 10,int e.val,int e.frm,int e.til,aw e.text,int e.sec.id,int e.sec.course,int e.sec.term,int e.sec.campus,int e.sec.seats,aa (Cq CE e.sec.mts),aa (Cq CA e.sec.grs),aa (Cq ab e.sec.labs),bool e.sec.lab,int e.req.campus,int e.req.no,int e.req.st,int e.req.kind,int e.req.time,aa (Cq Cv e.req.chs),int e.req.gsec,int e.req.glab,int e.req.key,int e.r,int e.s],.map [(int 7,int 4095,0),(int 9,int 4095,1),(int 8,int 3999,2),(int 10,int 0,3)] 4]
theorem wY{e:EntT}(h:List Blk):(Ev Cr Γ0 63 [ag (CG {e with term:=10})] h (int (mustR (wX 0 e))) h):=by
 exact zD (int (mustR (true&&inS e.stu 0 19999&&a7 e.frm e.til&&inS e.obj 0 0&&(e.val == -1||inS e.val 1 1099511627776)))) [.val (bool (inS e.stu 0 19999)),.val (bool (a7 e.frm e.til)),.val (bool (inS e.obj 0 0)),.val (bool (inS e.val 1 1099511627776)),.val (int (mustR (true&&inS e.stu 0 19999&&a7 e.frm e.til&&inS e.obj 0 0&&(e.val == -1||inS e.val 1 1099511627776))))] (.c (gd true (@kI ({time:=e.time,campus:=e.campus,no:=e.no,kind:=e.kind,stu:=e.stu,obj:=e.obj,term:=10,val:=e.val,frm:=e.frm,til:=e.til,text:=e.text,sec:=e.sec,req:=e.req,r:=e.r,s:=e.s}) (c6 e))) (.c (gd (true&&inS e.stu 0 19999) (@fV (e.frm) (e.til) (c6 e))) (.c (gd (true&&inS e.stu 0 19999&&a7 e.frm e.til) (@di (e.obj) 0 0 (c6 e))) (.c (gd (true&&inS e.stu 0 19999&&a7 e.frm e.til&&inS e.obj 0 0&&!e.val == -1) (@di (e.val) 1 1099511627776 (c6 e))) (.c (@d5 (true&&inS e.stu 0 19999&&a7 e.frm e.til&&inS e.obj 0 0&&(e.val == -1||inS e.val 1 1099511627776)) (c6 e)) .n))))) h (by first|rfl|(simp only[wX,];first|done|rfl))
theorem lkP2{k:Int}(h1:¬k=7)(h2:¬k=9)(h3:¬k=8)(h4:¬k=10):yD Cr 108 [(int 7,int 4095,0),(int 9,int 4095,1),(int 8,int 3999,2),(int 10,int 0,3)] (int k) true (.tup [int 0,bool false]):=by
 have e1:Cr.underlying 108=some (.map 3 3):=by kernel_rfl
 have e2:cz Cr 3 (int k)=true:=by kernel_rfl
 have e3:gh Cr 3=some (.int .i64 0):=by kernel_rfl
 have e4:bR (int k) [(int 7,int 4095,0),(int 9,int 4095,1),(int 8,int 3999,2),(int 10,int 0,3)] 0=some none:=by
  have n1:bi (int k) (int 7)=some false:=by simp[bi,h1]
  have n2:bi (int k) (int 9)=some false:=by simp[bi,h2]
  have n3:bi (int k) (int 8)=some false:=by simp[bi,h3]
  have n4:bi (int k) (int 10)=some false:=by simp[bi,h4]
  simp only[bR,n1,n2,n3,n4]
 unfold yD aU
 simp only[e1,jc,CV,e2,if_true,e3,e4]
 rfl
theorem lkP{h:List Blk}{b:Nat}{k:Int}(h1:¬k=7)(h2:¬k=9)(h3:¬k=8)(h4:¬k=10)(hb:h[b]? = some (.map [(int 7,int 4095,0),(int 9,int 4095,1),(int 8,int 3999,2),(int 10,int 0,3)] 4)):aU Cr h 108 (.ref (.mp b)) (int k) true=some (.tup [int 0,bool false]):=by
 have e1:Cr.underlying 108=some (.map 3 3):=by kernel_rfl
 have e2:cz Cr 3 (int k)=true:=by kernel_rfl
 have e3:gh Cr 3=some (.int .i64 0):=by kernel_rfl
 have e4:bR (int k) [(int 7,int 4095,0),(int 9,int 4095,1),(int 8,int 3999,2),(int 10,int 0,3)] 0=some none:=by
  have n1:bi (int k) (int 7)=some false:=by simp[bi,h1]
  have n2:bi (int k) (int 9)=some false:=by simp[bi,h2]
  have n3:bi (int k) (int 8)=some false:=by simp[bi,h3]
  have n4:bi (int k) (int 10)=some false:=by simp[bi,h4]
  simp only[bR,n1,n2,n3,n4]
 unfold aU
 simp only[e1,jc,hb,e2,if_true,e3,e4]
 rfl
noncomputable abbrev dJ(e:EntT):List Blk:=[.var [int e.time,int e.campus,int e.no,int e.kind,int e.stu,int e.obj,int e.term,int e.val,int e.frm,int e.til,aw e.text,int e.sec.id,int e.sec.course,int e.sec.term,int e.sec.campus,int e.sec.seats,aa (Cq CE e.sec.mts),aa (Cq CA e.sec.grs),aa (Cq ab e.sec.labs),bool e.sec.lab,int e.req.campus,int e.req.no,int e.req.st,int e.req.kind,int e.req.time,aa (Cq Cv e.req.chs),int e.req.gsec,int e.req.glab,int e.req.key,int e.r,int e.s],.map [(int 7,int 4095,0),(int 9,int 4095,1),(int 8,int 3999,2),(int 10,int 0,3)] 4]
theorem petN_a{e:EntT}(h1:¬e.term=7)(h2:¬e.term=9)(h3:¬e.term=8)(h4:¬e.term=10)(h:List Blk):(Ev Cr Γ0 63 [ag e.row] h (int 370) h):=by
 exact z0 [.ov 10 (DC [int 0,bool false]),.val (bool (inS e.stu 0 19999)),.val (bool (a7 e.frm e.til)),.val (bool (inS e.obj 0 0)),.val (bool (inS e.val 1 1099511627776)),.val (int (mustR (false&&inS e.stu 0 19999&&a7 e.frm e.til&&inS e.obj 0 0&&(e.val == -1||inS e.val 1 1099511627776))))] (.c (show aU Cr (dJ e) 108 (.ref (.mp 1)) (int e.term) true=some (DC [int 0,bool false]) from(by first|assumption|rfl|exact lkP h1 h2 h3 h4 rfl|exact lkP2 h1 h2 h3 h4)) (.c (gd false (@kI e (dJ e))) (.c (gd (false&&inS e.stu 0 19999) (@fV (e.frm) (e.til) (dJ e))) (.c (gd (false&&inS e.stu 0 19999&&a7 e.frm e.til) (@di (e.obj) 0 0 (dJ e))) (.c (gd (false&&inS e.stu 0 19999&&a7 e.frm e.til&&inS e.obj 0 0&&!e.val == -1) (@di (e.val) 1 1099511627776 (dJ e))) (.c (@d5 (false&&inS e.stu 0 19999&&a7 e.frm e.til&&inS e.obj 0 0&&(e.val == -1||inS e.val 1 1099511627776)) (dJ e)) .n)))))) h
def AB(t:Int):Option Int:=if t=7 then some 4095 else if t=9 then some 4095 else if t=8 then some 3999 else if t=10 then some 0 else none
def petR(e:EntT):Int:=match AB e.term with
 | none=>370
 | some m=>mustR (wX m e)
theorem pet_ev{e:EntT}(h:List Blk):Ev Cr Γ0 63 [ag e.row] h (int (petR e)) h:=by
 unfold petR AB
 by_cases h1:e.term=7
 ·have he:e={e with term:=7}:=by cases e;simp at h1;subst h1;rfl
  rw[if_pos h1]
  have:=Ay (e:=e) h
  rw[←he] at this
  exact this
 ·rw[if_neg h1]
  by_cases h2:e.term=9
  ·have he:e={e with term:=9}:=by cases e;simp at h2;subst h2;rfl
   rw[if_pos h2]
   have:=Az (e:=e) h
   rw[←he] at this
   exact this
  ·rw[if_neg h2]
   by_cases h3:e.term=8
   ·have he:e={e with term:=8}:=by cases e;simp at h3;subst h3;rfl
    rw[if_pos h3]
    have:=AA (e:=e) h
    rw[←he] at this
    exact this
   ·rw[if_neg h3]
    by_cases h4:e.term=10
    ·have he:e={e with term:=10}:=by cases e;simp at h4;subst h4;rfl
     rw[if_pos h4]
     have:=wY (e:=e) h
     rw[←he] at this
     exact this
    ·rw[if_neg h4]
     exact petN_a h1 h2 h3 h4 h
def rqHd(k:Int)(r:RqT):Bool:=Qd (r.campus<0)||Qd (r.campus≥7)||Qd (r.no<1)||Qd (r.no>1048576)||Qd (r.st<0)||Qd (r.st≥20000)||Qd (r.time<1)||Qd (r.time>1048576)||Qd (k<1)||Qd (k>5)
def rB(a b:Int)(r:RqT):Bool:=Qd (((r.chs.map Cv).length:Int)≥a)&&Qd (((r.chs.map Cv).length:Int)≤b)&&pu [] r.chs
def rq2R(r:RqT):Int:=match rB 0 0 r with
 | true=>Cm r (buB ⟨r.gsec,r.glab⟩)
 | false=>290
def rq3R(r:RqT):Int:=match rB 1 1 r with
 | true=>Cn r (buB ⟨r.gsec,r.glab⟩) (r.chs.headD ⟨0,0⟩)
 | false=>290
def kN(r:RqT):Int:=match rqHd r.kind r with
 | true=>290
 | false=>if r.kind=1 then rqR1 r (rB 1 8 r) else if r.kind=2 then rq2R r else if r.kind=3 then rq3R r else if r.kind=4 then rqR4 r (rB 1 1 r) else rqR5 r (rB 1 1 r)
theorem sP{r:RqT}(hc:am r.chs)(h:List Blk):Ev Cr Γq 69 [ag r.row] h (int (kN r)) h:=by
 unfold kN
 cases hh:rqHd r.kind r with
 | true=>exact Ao hh h
 | false =>
  simp only
  have hgv:∀h,Ev Cr Γ0 91 [.agg [int r.gsec,int r.glab]] h (bool (buB ⟨r.gsec,r.glab⟩)) h:=fun h=>gT (b:=⟨r.gsec,r.glab⟩) h
  have hk:r.kind=1∨r.kind=2∨r.kind=3∨r.kind=4∨r.kind=5:=by
   simp[rqHd] at hh
   omega
  have hrow:ag r.row=.agg (rqD r.kind r):=rfl
  rw[hrow]
  rcases hk with hk|hk|hk|hk|hk
  ·rw[hk] at hh ⊢
   rw[if_pos rfl]
   exact rq1_a hh (kL hc _) h
  ·rw[hk] at hh ⊢
   rw[if_neg (by decide),if_pos rfl]
   have hl:=kL (k:=2) (r:=r) (a:=0) (b:=0) (g:=true) (kk:=false) (n:=((r.chs.map Cv).length:Int)) hc (Qd (((r.chs.map Cv).length:Int)≥0)&&Qd (((r.chs.map Cv).length:Int)≤0))
   unfold rq2R
   cases ht:rB 0 0 r with
   | true =>
    have hn:(((r.chs.map Cv).length:Int)==0)=true:=by
     simp only[rB,Cy,decide_eq_true_eq] at ht
     simp only[beq_iff_eq]
     omega
    exact rq2_t hh (ht▸hl) hgv hn h
   | false=>exact rq2_f hh (ht▸hl) h
  ·rw[hk] at hh ⊢
   rw[if_neg (by decide),if_neg (by decide),if_pos rfl]
   have hl:=kL (k:=3) (r:=r) (a:=1) (b:=1) (g:=true) (kk:=false) (n:=((r.chs.map Cv).length:Int)) hc (Qd (((r.chs.map Cv).length:Int)≥1)&&Qd (((r.chs.map Cv).length:Int)≤1))
   unfold rq3R
   cases ht:rB 1 1 r with
   | true =>
    have hn:((r.chs.map Cv).length:Int)≥1:=by
     simp only[rB,Cy,decide_eq_true_eq] at ht
     omega
    have hne:(((r.chs.map Cv).length:Int)==0)=false:=by
     simp only[beq_eq_false_iff_ne,ne_eq]
     omega
    cases hch:r.chs with
    | nil=>rw[hch] at hn;simp at hn
    | cons c l =>
     have hR:ad 0 (r.chs.map Cv) c.row 2:=rowAt (n:=0) (by rw[hch];rfl) rfl
     have:=rq3_t hh (ht▸hl) hgv hne hR h
     simpa only [List.headD_cons] using this
   | false=>exact rq3_f hh (ht▸hl) h
  ·rw[hk] at hh ⊢
   rw[if_neg (by decide),if_neg (by decide),if_neg (by decide),if_pos rfl]
   exact rq4_a hh (kL hc _) h
  ·rw[hk] at hh ⊢
   rw[if_neg (by decide),if_neg (by decide),if_neg (by decide),if_neg (by decide)]
   exact rq5_a hh (kL hc _) h
open As (Co)
theorem AC(e:Int)(h:List Blk):Ev Cr Γq 89 [Co e] h (int e) h:=As.code_hit rfl e h
theorem wZ(h:List Blk):Ev Cr Γq 89 [lit .nilIface] h (int 0) h:=As.code_nil h
noncomputable abbrev uV(s:SecT):List Blk:=[.var [int s.id,int s.course,int s.term,int s.campus,int s.seats,aa (Cq CE s.mts),aa (Cq CA s.grs),aa (Cq ab s.labs),bool s.lab]]
theorem sk_bad{s:SecT}(hgr:am s.grs)(hi:am s.labs)(hb:qc s=false)(h:List Blk):(Ev Cr Γ0 90 [ag s.row] h (Co 230) h):=by
 exact z0 [.val (bool (qc s)),.b true] (.c (@iH s hgr hi (uV s)) (.c (show(!qc s)=true from(by rw[hb]<;>rfl)) .n)) h
noncomputable abbrev rC(s:SecT):List Blk:=[.var [int s.id,int s.course,int s.term,int s.campus,int s.seats,aa (Cq CE s.mts),aa (Cq CA s.grs),aa (Cq ab s.labs),bool s.lab]]
theorem sk_me{s:SecT}(hgr:am s.grs)(hi:am s.labs)(hb:qc s=true)(hm:(fY s.mts != 0)=true)(h:List Blk):(Ev Cr Γ0 90 [ag s.row] h (Co (fY s.mts)) h):=by
 exact z0 [.val (bool (qc s)),.b false,.val (int (fY s.mts)),.b true] (.c (@iH s hgr hi (rC s)) (.c (show(!qc s)=false from(by rw[hb]<;>rfl)) (.c (@uI (s.mts) (rC s)) (.c hm .n)))) h
noncomputable abbrev rD(s:SecT):List Blk:=[.var [int s.id,int s.course,int s.term,int s.campus,int s.seats,aa (Cq CE s.mts),aa (Cq CA s.grs),aa (Cq ab s.labs),bool s.lab]]
theorem sk_ok{s:SecT}(hgr:am s.grs)(hi:am s.labs)(hb:qc s=true)(hm:(fY s.mts != 0)=false)(h:List Blk):(Ev Cr Γ0 90 [ag s.row] h (lit .nilIface) h):=by
 exact z0 [.val (bool (qc s)),.b false,.val (int (fY s.mts)),.b false] (.c (@iH s hgr hi (rD s)) (.c (show(!qc s)=false from(by rw[hb]<;>rfl)) (.c (@uI (s.mts) (rD s)) (.c hm .n)))) h
noncomputable abbrev uW(s:SecT):List Blk:=[.var [int s.id,int s.course,int s.term,int s.campus,int s.seats,aa (Cq CE s.mts),aa (Cq CA s.grs),aa (Cq ab s.labs),bool s.lab]]
theorem sc_e{s:SecT}{e:Int}(hk:∀h,Ev Cr Γ0 90 [ag s.row] h (Co e) h)(h:List Blk):(Ev Cr Γq 66 [ag s.row] h (int e) h):=by
 exact z0 [.val (Ej (CZ (Value.iface 127 (Value.agg {toList:=[Value.int Ct e]})))),.val (int e)] (.c (CT (Γ':=Γq) (@hk (uW s))) (.c (@AC e (uW s)) .n)) h
noncomputable abbrev uX(s:SecT):List Blk:=[.var [int s.id,int s.course,int s.term,int s.campus,int s.seats,aa (Cq CE s.mts),aa (Cq CA s.grs),aa (Cq ab s.labs),bool s.lab]]
theorem sc_n{s:SecT}(hk:∀h,Ev Cr Γ0 90 [ag s.row] h (lit .nilIface) h)(h:List Blk):(Ev Cr Γq 66 [ag s.row] h (int 0) h):=by
 exact z0 [.val (Ej (CZ Value.nilIface)),.val (int 0)] (.c (CT (Γ':=Γq) (@hk (uX s))) (.c (@wZ (uX s)) .n)) h
def kO(s:SecT):Int:=match qc s with
 | false=>230
 | true=>fY s.mts
theorem qe{s:SecT}(hgr:am s.grs)(hi:am s.labs)(h:List Blk):Ev Cr Γq 66 [ag s.row] h (int (kO s)) h:=by
 unfold kO
 cases hb:qc s with
 | false=>exact sc_e (fun h=>sk_bad hgr hi hb h) h
 | true =>
  cases hm:(fY s.mts != 0) with
  | true=>exact sc_e (fun h=>sk_me hgr hi hb hm h) h
  | false =>
   have h0:fY s.mts=0:=by simpa using hm
   rw[h0]
   exact sc_n (fun h=>sk_ok hgr hi hb hm h) h
abbrev kfn(k b:Nat):D:=.fn (.func k) [] [.ref (.ptr b 0)]
abbrev ekM:List Blk:=[.var [fq 53],.var [kfn 55 0],.map [(int 1,.agg [fq 56,fq 57],0),(int 2,.agg [kfn 54 0,fq 60],1),(int 3,.agg [kfn 55 0,fq 61],2),(int 4,.agg [kfn 62 1,fq 63],3),(int 5,.agg [kfn 55 0,fq 61],4),(int 6,.agg [fq 64,fq 65],5),(int 7,.agg [fq 67,fq 68],6),(int 8,.agg [kfn 54 0,fq 70],7),(int 9,.agg [fq 71,fq 72],8)] 9]
abbrev ekMn(n:Nat):List Blk:=[.var [fq 53],.var [kfn 55 n],.map [(int 1,.agg [fq 56,fq 57],0),(int 2,.agg [kfn 54 n,fq 60],1),(int 3,.agg [kfn 55 n,fq 61],2),(int 4,.agg [kfn 62 (n+1),fq 63],3),(int 5,.agg [kfn 55 n,fq 61],4),(int 6,.agg [fq 64,fq 65],5),(int 7,.agg [fq 67,fq 68],6),(int 8,.agg [kfn 54 n,fq 70],7),(int 9,.agg [fq 71,fq 72],8)] 9]
theorem ekinds_b:(Ev Cr Γ0 41 [] [] (.ref (.mp 2)) ekM):=by
 exact Ev.castH (Ev.of_sym (h':=[.var [fq 53],.var [C5 (CH 55) [] [.ref (.ptr 0 0)]],.map [(int 1,CF [fq 56,fq 57],0),(int 2,CF [C5 (CH 54) [] [.ref (.ptr 0 0)],fq 60],1),(int 3,CF [C5 (CH 55) [] [.ref (.ptr 0 0)],fq 61],2),(int 4,CF [C5 (CH 62) [] [.ref (.ptr 1 0)],fq 63],3),(int 5,CF [C5 (CH 55) [] [.ref (.ptr 0 0)],fq 61],4),(int 6,CF [fq 64,fq 65],5),(int 7,CF [fq 67,fq 68],6),(int 8,CF [C5 (CH 54) [] [.ref (.ptr 0 0)],fq 70],7),(int 9,CF [fq 71,fq 72],8)] 9]) (d:=.ref (.mp 2)) pok [] (by kernel_rfl) .n) (by rfl) (by rfl)
theorem aJ(h:List Blk):Ev Cr Γ0 41 [] h (.ref (.mp (h.length+2))) (h++ekMn h.length):=ekinds_b.frameN (by kernel_rfl) rfl h
end Go.Vi
open Go Go.Proofs
namespace Go.Vi
set_option maxRecDepth 100000
set_option maxHeartbeats 4000000
abbrev b5:List D:=[int 0,int 0,int 0,int 0,int 0,nq,nq,nq,bool false]
abbrev d6:List D:=[int 0,int 0,int 0,int 0,int 0,nq,int 0,int 0,int 0]
abbrev ge(s:SecT):List D:=s.row.map .p
abbrev em(k:Int)(e:EntT)(stu obj term val frm til:Int)(text:ByteArray)(sec req:List D):List D:=[int e.time,int e.campus,int e.no,int k,int stu,int obj,int term,int val,int frm,int til,lit (.string text)]++sec++req++[int e.r,int e.s]
abbrev ew(k:Int)(e:EntT):List D:=em k e 0 0 0 0 0 0 Dm b5 d6
abbrev aS(k:Int)(e:EntT):List D:=em k e e.stu e.obj e.term e.val e.frm e.til e.text (ge e.sec) (rqD e.req.kind e.req)
def enR(st:Int)(sb:Bool)(r:Int):Int:=match st != 0 with
 | true=>st
 | false=>match !sb with
  | true=>370
  | false=>r
noncomputable abbrev w4(e:EntT):List Blk:=[.var [int e.time,int e.campus,int e.no,int e.kind,int e.stu,int e.obj,int e.term,int e.val,int e.frm,int e.til,aw e.text,int e.sec.id,int e.sec.course,int e.sec.term,int e.sec.campus,int e.sec.seats,aa (Cq CE e.sec.mts),aa (Cq CA e.sec.grs),aa (Cq ab e.sec.labs),bool e.sec.lab,int e.req.campus,int e.req.no,int e.req.st,int e.req.kind,int e.req.time,aa (Cq Cv e.req.chs),int e.req.gsec,int e.req.glab,int e.req.key,int e.r,int e.s]]
theorem en_st{e:EntT}{st:Int}(hst:∀h,Ev Cr Γ0 39 [.agg [int e.time,int e.campus,int e.no]] h (int st) h)(hb:(st != 0)=true)(h:List Blk):(Ev Cr Γq 25 [.agg (aS e.kind e)] h (int st) h):=by
 exact z0 [.val (int st),.b true] (.c (CT (Γ':=Γq) (@hst (w4 e))) (.c hb .n)) h
noncomputable abbrev sQ(e:EntT):List Blk:=[.var [int e.time,int e.campus,int e.no,int e.kind,int e.stu,int e.obj,int e.term,int e.val,int e.frm,int e.til,aw e.text,int e.sec.id,int e.sec.course,int e.sec.term,int e.sec.campus,int e.sec.seats,aa (Cq CE e.sec.mts),aa (Cq CA e.sec.grs),aa (Cq ab e.sec.labs),bool e.sec.lab,int e.req.campus,int e.req.no,int e.req.st,int e.req.kind,int e.req.time,aa (Cq Cv e.req.chs),int e.req.gsec,int e.req.glab,int e.req.key,int e.r,int e.s]]
theorem AD{e:EntT}(hgr:am e.sec.grs)(hi:am e.sec.labs)(h:List Blk):(Ev Cr Γq 65 [ag e.row] h (int (kO e.sec)) h):=by
 exact z0 [.val (int (kO e.sec))] (.c (@qe (e.sec) hgr hi (sQ e)) .n) h
noncomputable abbrev sR(e:EntT):List Blk:=[.var [int e.time,int e.campus,int e.no,int e.kind,int e.stu,int e.obj,int e.term,int e.val,int e.frm,int e.til,aw e.text,int e.sec.id,int e.sec.course,int e.sec.term,int e.sec.campus,int e.sec.seats,aa (Cq CE e.sec.mts),aa (Cq CA e.sec.grs),aa (Cq ab e.sec.labs),bool e.sec.lab,int e.req.campus,int e.req.no,int e.req.st,int e.req.kind,int e.req.time,aa (Cq Cv e.req.chs),int e.req.gsec,int e.req.glab,int e.req.key,int e.r,int e.s]]
theorem AE{e:EntT}(hc:am e.req.chs)(h:List Blk):(Ev Cr Γq 68 [ag e.row] h (int (kN e.req)) h):=by
 exact z0 [.val (int (kN e.req))] (.c (@sP (e.req) hc (sR e)) .n) h
noncomputable abbrev nh(e:EntT):List Blk:=[.var [int e.time,int e.campus,int e.no,int 1,int e.stu,int e.obj,int e.term,int e.val,int e.frm,int e.til,aw e.text,int e.sec.id,int e.sec.course,int e.sec.term,int e.sec.campus,int e.sec.seats,aa (Cq CE e.sec.mts),aa (Cq CA e.sec.grs),aa (Cq ab e.sec.labs),bool e.sec.lab,int e.req.campus,int e.req.no,int e.req.st,int e.req.kind,int e.req.time,aa (Cq Cv e.req.chs),int e.req.gsec,int e.req.glab,int e.req.key,int e.r,int e.s],.var [fq 53],.var [C5 (CH 55) [] [.ref (.ptr 1 0)]],.map [(int 1,CF [fq 56,fq 57],0),(int 2,CF [C5 (CH 54) [] [.ref (.ptr 1 0)],fq 60],1),(int 3,CF [C5 (CH 55) [] [.ref (.ptr 1 0)],fq 61],2),(int 4,CF [C5 (CH 62) [] [.ref (.ptr 2 0)],fq 63],3),(int 5,CF [C5 (CH 55) [] [.ref (.ptr 1 0)],fq 61],4),(int 6,CF [fq 64,fq 65],5),(int 7,CF [fq 67,fq 68],6),(int 8,CF [C5 (CH 54) [] [.ref (.ptr 1 0)],fq 70],7),(int 9,CF [fq 71,fq 72],8)] 9,.var [fq 56,fq 57],.var [int e.time,int e.campus,int e.no,int 1,int e.stu,int e.obj,int e.term,int e.val,int 0,int 0,aw {data:=#[]},int e.sec.id,int e.sec.course,int e.sec.term,int e.sec.campus,int e.sec.seats,aa (Cq CE e.sec.mts),aa (Cq CA e.sec.grs),aa (Cq ab e.sec.labs),bool e.sec.lab,int e.req.campus,int e.req.no,int e.req.st,int e.req.kind,int e.req.time,aa (Cq Cv e.req.chs),int e.req.gsec,int e.req.glab,int e.req.key,int e.r,int e.s]]
noncomputable abbrev rE(e:EntT):List Blk:=[.var [int e.time,int e.campus,int e.no,int 1,int e.stu,int e.obj,int e.term,int e.val,int e.frm,int e.til,aw e.text,int e.sec.id,int e.sec.course,int e.sec.term,int e.sec.campus,int e.sec.seats,aa (Cq CE e.sec.mts),aa (Cq CA e.sec.grs),aa (Cq ab e.sec.labs),bool e.sec.lab,int e.req.campus,int e.req.no,int e.req.st,int e.req.kind,int e.req.time,aa (Cq Cv e.req.chs),int e.req.gsec,int e.req.glab,int e.req.key,int e.r,int e.s],.var [fq 53],.var [C5 (CH 55) [] [.ref (.ptr 1 0)]],.map [(int 1,CF [fq 56,fq 57],0),(int 2,CF [C5 (CH 54) [] [.ref (.ptr 1 0)],fq 60],1),(int 3,CF [C5 (CH 55) [] [.ref (.ptr 1 0)],fq 61],2),(int 4,CF [C5 (CH 62) [] [.ref (.ptr 2 0)],fq 63],3),(int 5,CF [C5 (CH 55) [] [.ref (.ptr 1 0)],fq 61],4),(int 6,CF [fq 64,fq 65],5),(int 7,CF [fq 67,fq 68],6),(int 8,CF [C5 (CH 54) [] [.ref (.ptr 1 0)],fq 70],7),(int 9,CF [fq 71,fq 72],8)] 9]
noncomputable abbrev jx(e:EntT):List Blk:=[.var [int e.time,int e.campus,int e.no,int 1,int e.stu,int e.obj,int e.term,int e.val,int e.frm,int e.til,aw e.text,int e.sec.id,int e.sec.course,int e.sec.term,int e.sec.campus,int e.sec.seats,aa (Cq CE e.sec.mts),aa (Cq CA e.sec.grs),aa (Cq ab e.sec.labs),bool e.sec.lab,int e.req.campus,int e.req.no,int e.req.st,int e.req.kind,int e.req.time,aa (Cq Cv e.req.chs),int e.req.gsec,int e.req.glab,int e.req.key,int e.r,int e.s]]
theorem en1_a{e:EntT}{r:Int}{sb:Bool}(hst:∀h,Ev Cr Γ0 39 [.agg [int e.time,int e.campus,int e.no]] h (int 0) h)(hsm:∀h,Ev Cr Γ0 42 [.agg (em 1 e e.stu e.obj e.term e.val 0 0 Dm (ge e.sec) (rqD e.req.kind e.req)),.agg (ew 1 e)] h (bool sb) h)(hck:∀h,Ev Cr Γ0 57 [.agg (aS 1 e)] h (int r) h)(h:List Blk):(Ev Cr Γq 25 [.agg (aS 1 e)] h (int (enR 0 sb r)) h):=by
 cases hc0:!sb
 ·let v0:=DC [CF [fq 56,fq 57],bool true]
  exact zD (int r) [.val (int 0),.b false,.late,.call (.ref (.mp 3)) (rE e),.b false,.inl,.val (bool sb),.b false,.val (int r)] (.c (CT (Γ':=Γq) (@hst (jx e))) (.c (show(0 != 0)=false from rfl) (.c (CT (Γ':=Γq) (@aJ (jx e))) (.e (.ref (.ptr 0 3)) (.e (.ref (.ptr 0 3)) (.e (.ref (.ptr 0 3)) (.e (int 1) (.e (int 1) (.e (int 1) (.c (show some v0=some v0 from rfl) (.c (show some v0=some v0 from rfl) (.c (show(!true)=false from rfl) (.c (CT (Γ':=Γq) (@hsm (nh e))) (.c hc0 (.c (CT (Γ':=Γq) (@hck (nh e))) .n))))))))))))))) h (by subst v0;first|rfl|(simp only[enR,hc0];first|done|rfl))
 ·let v0:=DC [CF [fq 56,fq 57],bool true]
  exact zD (int 370) [.val (int 0),.b false,.late,.call (.ref (.mp 3)) (rE e),.b false,.inl,.val (bool sb),.b true] (.c (CT (Γ':=Γq) (@hst (jx e))) (.c (show(0 != 0)=false from rfl) (.c (CT (Γ':=Γq) (@aJ (jx e))) (.e (.ref (.ptr 0 3)) (.e (.ref (.ptr 0 3)) (.e (.ref (.ptr 0 3)) (.e (int 1) (.e (int 1) (.e (int 1) (.c (show some v0=some v0 from rfl) (.c (show some v0=some v0 from rfl) (.c (show(!true)=false from rfl) (.c (CT (Γ':=Γq) (@hsm (nh e))) (.c hc0 .n)))))))))))))) h (by subst v0;first|rfl|(simp only[enR,hc0];first|done|rfl))
noncomputable abbrev ni(e:EntT):List Blk:=[.var [int e.time,int e.campus,int e.no,int 2,int e.stu,int e.obj,int e.term,int e.val,int e.frm,int e.til,aw e.text,int e.sec.id,int e.sec.course,int e.sec.term,int e.sec.campus,int e.sec.seats,aa (Cq CE e.sec.mts),aa (Cq CA e.sec.grs),aa (Cq ab e.sec.labs),bool e.sec.lab,int e.req.campus,int e.req.no,int e.req.st,int e.req.kind,int e.req.time,aa (Cq Cv e.req.chs),int e.req.gsec,int e.req.glab,int e.req.key,int e.r,int e.s],.var [fq 53],.var [C5 (CH 55) [] [.ref (.ptr 1 0)]],.map [(int 1,CF [fq 56,fq 57],0),(int 2,CF [C5 (CH 54) [] [.ref (.ptr 1 0)],fq 60],1),(int 3,CF [C5 (CH 55) [] [.ref (.ptr 1 0)],fq 61],2),(int 4,CF [C5 (CH 62) [] [.ref (.ptr 2 0)],fq 63],3),(int 5,CF [C5 (CH 55) [] [.ref (.ptr 1 0)],fq 61],4),(int 6,CF [fq 64,fq 65],5),(int 7,CF [fq 67,fq 68],6),(int 8,CF [C5 (CH 54) [] [.ref (.ptr 1 0)],fq 70],7),(int 9,CF [fq 71,fq 72],8)] 9,.var [C5 (CH 54) [] [.ref (.ptr 1 0)],fq 60],.var [int e.time,int e.campus,int e.no,int 2,int 0,int 0,int 0,int 0,int e.frm,int e.til,aw e.text,int e.sec.id,int e.sec.course,int e.sec.term,int e.sec.campus,int e.sec.seats,aa (Cq CE e.sec.mts),aa (Cq CA e.sec.grs),aa (Cq ab e.sec.labs),bool e.sec.lab,int e.req.campus,int e.req.no,int e.req.st,int e.req.kind,int e.req.time,aa (Cq Cv e.req.chs),int e.req.gsec,int e.req.glab,int e.req.key,int e.r,int e.s]]
noncomputable abbrev rF(e:EntT):List Blk:=[.var [int e.time,int e.campus,int e.no,int 2,int e.stu,int e.obj,int e.term,int e.val,int e.frm,int e.til,aw e.text,int e.sec.id,int e.sec.course,int e.sec.term,int e.sec.campus,int e.sec.seats,aa (Cq CE e.sec.mts),aa (Cq CA e.sec.grs),aa (Cq ab e.sec.labs),bool e.sec.lab,int e.req.campus,int e.req.no,int e.req.st,int e.req.kind,int e.req.time,aa (Cq Cv e.req.chs),int e.req.gsec,int e.req.glab,int e.req.key,int e.r,int e.s],.var [fq 53],.var [C5 (CH 55) [] [.ref (.ptr 1 0)]],.map [(int 1,CF [fq 56,fq 57],0),(int 2,CF [C5 (CH 54) [] [.ref (.ptr 1 0)],fq 60],1),(int 3,CF [C5 (CH 55) [] [.ref (.ptr 1 0)],fq 61],2),(int 4,CF [C5 (CH 62) [] [.ref (.ptr 2 0)],fq 63],3),(int 5,CF [C5 (CH 55) [] [.ref (.ptr 1 0)],fq 61],4),(int 6,CF [fq 64,fq 65],5),(int 7,CF [fq 67,fq 68],6),(int 8,CF [C5 (CH 54) [] [.ref (.ptr 1 0)],fq 70],7),(int 9,CF [fq 71,fq 72],8)] 9]
noncomputable abbrev jy(e:EntT):List Blk:=[.var [int e.time,int e.campus,int e.no,int 2,int e.stu,int e.obj,int e.term,int e.val,int e.frm,int e.til,aw e.text,int e.sec.id,int e.sec.course,int e.sec.term,int e.sec.campus,int e.sec.seats,aa (Cq CE e.sec.mts),aa (Cq CA e.sec.grs),aa (Cq ab e.sec.labs),bool e.sec.lab,int e.req.campus,int e.req.no,int e.req.st,int e.req.kind,int e.req.time,aa (Cq Cv e.req.chs),int e.req.gsec,int e.req.glab,int e.req.key,int e.r,int e.s]]
theorem en2_a{e:EntT}{r:Int}{sb:Bool}(hst:∀h,Ev Cr Γ0 39 [.agg [int e.time,int e.campus,int e.no]] h (int 0) h)(hsm:∀h,Ev Cr Γ0 42 [.agg (em 2 e 0 0 0 0 e.frm e.til e.text (ge e.sec) (rqD e.req.kind e.req)),.agg (ew 2 e)] h (bool sb) h)(hck:∀h,Ev Cr Γ0 60 [.agg (aS 2 e)] h (int r) h)(h:List Blk):(Ev Cr Γq 25 [.agg (aS 2 e)] h (int (enR 0 sb r)) h):=by
 cases hc0:!sb
 ·let v0:=DC [CF [C5 (CH 54) [] [.ref (.ptr 1 0)],fq 60],bool true]
  exact zD (int r) [.val (int 0),.b false,.late,.call (.ref (.mp 3)) (rF e),.b false,.inl,.inl,.val (bool sb),.b false,.val (int r)] (.c (CT (Γ':=Γq) (@hst (jy e))) (.c (show(0 != 0)=false from rfl) (.c (CT (Γ':=Γq) (@aJ (jy e))) (.e (.ref (.ptr 0 3)) (.e (.ref (.ptr 0 3)) (.e (.ref (.ptr 0 3)) (.e (int 2) (.e (int 2) (.e (int 2) (.c (show some v0=some v0 from rfl) (.c (show some v0=some v0 from rfl) (.c (show(!true)=false from rfl) (.c (CT (Γ':=Γq) (@hsm (ni e))) (.c hc0 (.c (CT (Γ':=Γq) (@hck (ni e))) .n))))))))))))))) h (by subst v0;first|rfl|(simp only[enR,hc0];first|done|rfl))
 ·let v0:=DC [CF [C5 (CH 54) [] [.ref (.ptr 1 0)],fq 60],bool true]
  exact zD (int 370) [.val (int 0),.b false,.late,.call (.ref (.mp 3)) (rF e),.b false,.inl,.inl,.val (bool sb),.b true] (.c (CT (Γ':=Γq) (@hst (jy e))) (.c (show(0 != 0)=false from rfl) (.c (CT (Γ':=Γq) (@aJ (jy e))) (.e (.ref (.ptr 0 3)) (.e (.ref (.ptr 0 3)) (.e (.ref (.ptr 0 3)) (.e (int 2) (.e (int 2) (.e (int 2) (.c (show some v0=some v0 from rfl) (.c (show some v0=some v0 from rfl) (.c (show(!true)=false from rfl) (.c (CT (Γ':=Γq) (@hsm (ni e))) (.c hc0 .n)))))))))))))) h (by subst v0;first|rfl|(simp only[enR,hc0];first|done|rfl))
noncomputable abbrev nj(e:EntT):List Blk:=[.var [int e.time,int e.campus,int e.no,int 3,int e.stu,int e.obj,int e.term,int e.val,int e.frm,int e.til,aw e.text,int e.sec.id,int e.sec.course,int e.sec.term,int e.sec.campus,int e.sec.seats,aa (Cq CE e.sec.mts),aa (Cq CA e.sec.grs),aa (Cq ab e.sec.labs),bool e.sec.lab,int e.req.campus,int e.req.no,int e.req.st,int e.req.kind,int e.req.time,aa (Cq Cv e.req.chs),int e.req.gsec,int e.req.glab,int e.req.key,int e.r,int e.s],.var [fq 53],.var [C5 (CH 55) [] [.ref (.ptr 1 0)]],.map [(int 1,CF [fq 56,fq 57],0),(int 2,CF [C5 (CH 54) [] [.ref (.ptr 1 0)],fq 60],1),(int 3,CF [C5 (CH 55) [] [.ref (.ptr 1 0)],fq 61],2),(int 4,CF [C5 (CH 62) [] [.ref (.ptr 2 0)],fq 63],3),(int 5,CF [C5 (CH 55) [] [.ref (.ptr 1 0)],fq 61],4),(int 6,CF [fq 64,fq 65],5),(int 7,CF [fq 67,fq 68],6),(int 8,CF [C5 (CH 54) [] [.ref (.ptr 1 0)],fq 70],7),(int 9,CF [fq 71,fq 72],8)] 9,.var [C5 (CH 55) [] [.ref (.ptr 1 0)],fq 61],.var [int e.time,int e.campus,int e.no,int 3,int 0,int 0,int e.term,int 0,int 0,int 0,aw e.text,int e.sec.id,int e.sec.course,int e.sec.term,int e.sec.campus,int e.sec.seats,aa (Cq CE e.sec.mts),aa (Cq CA e.sec.grs),aa (Cq ab e.sec.labs),bool e.sec.lab,int e.req.campus,int e.req.no,int e.req.st,int e.req.kind,int e.req.time,aa (Cq Cv e.req.chs),int e.req.gsec,int e.req.glab,int e.req.key,int e.r,int e.s]]
noncomputable abbrev rH(e:EntT):List Blk:=[.var [int e.time,int e.campus,int e.no,int 3,int e.stu,int e.obj,int e.term,int e.val,int e.frm,int e.til,aw e.text,int e.sec.id,int e.sec.course,int e.sec.term,int e.sec.campus,int e.sec.seats,aa (Cq CE e.sec.mts),aa (Cq CA e.sec.grs),aa (Cq ab e.sec.labs),bool e.sec.lab,int e.req.campus,int e.req.no,int e.req.st,int e.req.kind,int e.req.time,aa (Cq Cv e.req.chs),int e.req.gsec,int e.req.glab,int e.req.key,int e.r,int e.s],.var [fq 53],.var [C5 (CH 55) [] [.ref (.ptr 1 0)]],.map [(int 1,CF [fq 56,fq 57],0),(int 2,CF [C5 (CH 54) [] [.ref (.ptr 1 0)],fq 60],1),(int 3,CF [C5 (CH 55) [] [.ref (.ptr 1 0)],fq 61],2),(int 4,CF [C5 (CH 62) [] [.ref (.ptr 2 0)],fq 63],3),(int 5,CF [C5 (CH 55) [] [.ref (.ptr 1 0)],fq 61],4),(int 6,CF [fq 64,fq 65],5),(int 7,CF [fq 67,fq 68],6),(int 8,CF [C5 (CH 54) [] [.ref (.ptr 1 0)],fq 70],7),(int 9,CF [fq 71,fq 72],8)] 9]
noncomputable abbrev jz(e:EntT):List Blk:=[.var [int e.time,int e.campus,int e.no,int 3,int e.stu,int e.obj,int e.term,int e.val,int e.frm,int e.til,aw e.text,int e.sec.id,int e.sec.course,int e.sec.term,int e.sec.campus,int e.sec.seats,aa (Cq CE e.sec.mts),aa (Cq CA e.sec.grs),aa (Cq ab e.sec.labs),bool e.sec.lab,int e.req.campus,int e.req.no,int e.req.st,int e.req.kind,int e.req.time,aa (Cq Cv e.req.chs),int e.req.gsec,int e.req.glab,int e.req.key,int e.r,int e.s]]
theorem en3_a{e:EntT}{r:Int}{sb:Bool}(hst:∀h,Ev Cr Γ0 39 [.agg [int e.time,int e.campus,int e.no]] h (int 0) h)(hsm:∀h,Ev Cr Γ0 42 [.agg (em 3 e 0 0 e.term 0 0 0 e.text (ge e.sec) (rqD e.req.kind e.req)),.agg (ew 3 e)] h (bool sb) h)(hck:∀h,Ev Cr Γ0 61 [.agg (aS 3 e)] h (int r) h)(h:List Blk):(Ev Cr Γq 25 [.agg (aS 3 e)] h (int (enR 0 sb r)) h):=by
 cases hc0:!sb
 ·let v0:=DC [CF [C5 (CH 55) [] [.ref (.ptr 1 0)],fq 61],bool true]
  exact zD (int r) [.val (int 0),.b false,.late,.call (.ref (.mp 3)) (rH e),.b false,.inl,.inl,.val (bool sb),.b false,.val (int r)] (.c (CT (Γ':=Γq) (@hst (jz e))) (.c (show(0 != 0)=false from rfl) (.c (CT (Γ':=Γq) (@aJ (jz e))) (.e (.ref (.ptr 0 3)) (.e (.ref (.ptr 0 3)) (.e (.ref (.ptr 0 3)) (.e (int 3) (.e (int 3) (.e (int 3) (.c (show some v0=some v0 from rfl) (.c (show some v0=some v0 from rfl) (.c (show(!true)=false from rfl) (.c (CT (Γ':=Γq) (@hsm (nj e))) (.c hc0 (.c (CT (Γ':=Γq) (@hck (nj e))) .n))))))))))))))) h (by subst v0;first|rfl|(simp only[enR,hc0];first|done|rfl))
 ·let v0:=DC [CF [C5 (CH 55) [] [.ref (.ptr 1 0)],fq 61],bool true]
  exact zD (int 370) [.val (int 0),.b false,.late,.call (.ref (.mp 3)) (rH e),.b false,.inl,.inl,.val (bool sb),.b true] (.c (CT (Γ':=Γq) (@hst (jz e))) (.c (show(0 != 0)=false from rfl) (.c (CT (Γ':=Γq) (@aJ (jz e))) (.e (.ref (.ptr 0 3)) (.e (.ref (.ptr 0 3)) (.e (.ref (.ptr 0 3)) (.e (int 3) (.e (int 3) (.e (int 3) (.c (show some v0=some v0 from rfl) (.c (show some v0=some v0 from rfl) (.c (show(!true)=false from rfl) (.c (CT (Γ':=Γq) (@hsm (nj e))) (.c hc0 .n)))))))))))))) h (by subst v0;first|rfl|(simp only[enR,hc0];first|done|rfl))
noncomputable abbrev nk(e:EntT):List Blk:=[.var [int e.time,int e.campus,int e.no,int 4,int e.stu,int e.obj,int e.term,int e.val,int e.frm,int e.til,aw e.text,int e.sec.id,int e.sec.course,int e.sec.term,int e.sec.campus,int e.sec.seats,aa (Cq CE e.sec.mts),aa (Cq CA e.sec.grs),aa (Cq ab e.sec.labs),bool e.sec.lab,int e.req.campus,int e.req.no,int e.req.st,int e.req.kind,int e.req.time,aa (Cq Cv e.req.chs),int e.req.gsec,int e.req.glab,int e.req.key,int e.r,int e.s],.var [fq 53],.var [C5 (CH 55) [] [.ref (.ptr 1 0)]],.map [(int 1,CF [fq 56,fq 57],0),(int 2,CF [C5 (CH 54) [] [.ref (.ptr 1 0)],fq 60],1),(int 3,CF [C5 (CH 55) [] [.ref (.ptr 1 0)],fq 61],2),(int 4,CF [C5 (CH 62) [] [.ref (.ptr 2 0)],fq 63],3),(int 5,CF [C5 (CH 55) [] [.ref (.ptr 1 0)],fq 61],4),(int 6,CF [fq 64,fq 65],5),(int 7,CF [fq 67,fq 68],6),(int 8,CF [C5 (CH 54) [] [.ref (.ptr 1 0)],fq 70],7),(int 9,CF [fq 71,fq 72],8)] 9,.var [C5 (CH 62) [] [.ref (.ptr 2 0)],fq 63],.var [int e.time,int e.campus,int e.no,int 4,int 0,int 0,int 0,int 0,int 0,int 0,aw e.text,int e.sec.id,int e.sec.course,int e.sec.term,int e.sec.campus,int e.sec.seats,aa (Cq CE e.sec.mts),aa (Cq CA e.sec.grs),aa (Cq ab e.sec.labs),bool e.sec.lab,int e.req.campus,int e.req.no,int e.req.st,int e.req.kind,int e.req.time,aa (Cq Cv e.req.chs),int e.req.gsec,int e.req.glab,int e.req.key,int e.r,int e.s]]
noncomputable abbrev rI(e:EntT):List Blk:=[.var [int e.time,int e.campus,int e.no,int 4,int e.stu,int e.obj,int e.term,int e.val,int e.frm,int e.til,aw e.text,int e.sec.id,int e.sec.course,int e.sec.term,int e.sec.campus,int e.sec.seats,aa (Cq CE e.sec.mts),aa (Cq CA e.sec.grs),aa (Cq ab e.sec.labs),bool e.sec.lab,int e.req.campus,int e.req.no,int e.req.st,int e.req.kind,int e.req.time,aa (Cq Cv e.req.chs),int e.req.gsec,int e.req.glab,int e.req.key,int e.r,int e.s],.var [fq 53],.var [C5 (CH 55) [] [.ref (.ptr 1 0)]],.map [(int 1,CF [fq 56,fq 57],0),(int 2,CF [C5 (CH 54) [] [.ref (.ptr 1 0)],fq 60],1),(int 3,CF [C5 (CH 55) [] [.ref (.ptr 1 0)],fq 61],2),(int 4,CF [C5 (CH 62) [] [.ref (.ptr 2 0)],fq 63],3),(int 5,CF [C5 (CH 55) [] [.ref (.ptr 1 0)],fq 61],4),(int 6,CF [fq 64,fq 65],5),(int 7,CF [fq 67,fq 68],6),(int 8,CF [C5 (CH 54) [] [.ref (.ptr 1 0)],fq 70],7),(int 9,CF [fq 71,fq 72],8)] 9]
noncomputable abbrev jA(e:EntT):List Blk:=[.var [int e.time,int e.campus,int e.no,int 4,int e.stu,int e.obj,int e.term,int e.val,int e.frm,int e.til,aw e.text,int e.sec.id,int e.sec.course,int e.sec.term,int e.sec.campus,int e.sec.seats,aa (Cq CE e.sec.mts),aa (Cq CA e.sec.grs),aa (Cq ab e.sec.labs),bool e.sec.lab,int e.req.campus,int e.req.no,int e.req.st,int e.req.kind,int e.req.time,aa (Cq Cv e.req.chs),int e.req.gsec,int e.req.glab,int e.req.key,int e.r,int e.s]]
theorem en4_a{e:EntT}{r:Int}{sb:Bool}(hst:∀h,Ev Cr Γ0 39 [.agg [int e.time,int e.campus,int e.no]] h (int 0) h)(hsm:∀h,Ev Cr Γ0 42 [.agg (em 4 e 0 0 0 0 0 0 e.text (ge e.sec) (rqD e.req.kind e.req)),.agg (ew 4 e)] h (bool sb) h)(hck:∀h,Ev Cr Γ0 63 [.agg (aS 4 e)] h (int r) h)(h:List Blk):(Ev Cr Γq 25 [.agg (aS 4 e)] h (int (enR 0 sb r)) h):=by
 cases hc0:!sb
 ·let v0:=DC [CF [C5 (CH 62) [] [.ref (.ptr 2 0)],fq 63],bool true]
  exact zD (int r) [.val (int 0),.b false,.late,.call (.ref (.mp 3)) (rI e),.b false,.inl,.inl,.inl,.val (bool sb),.b false,.val (int r)] (.c (CT (Γ':=Γq) (@hst (jA e))) (.c (show(0 != 0)=false from rfl) (.c (CT (Γ':=Γq) (@aJ (jA e))) (.e (.ref (.ptr 0 3)) (.e (.ref (.ptr 0 3)) (.e (.ref (.ptr 0 3)) (.e (int 4) (.e (int 4) (.e (int 4) (.c (show some v0=some v0 from rfl) (.c (show some v0=some v0 from rfl) (.c (show(!true)=false from rfl) (.c (CT (Γ':=Γq) (@hsm (nk e))) (.c hc0 (.c (CT (Γ':=Γq) (@hck (nk e))) .n))))))))))))))) h (by subst v0;first|rfl|(simp only[enR,hc0];first|done|rfl))
 ·let v0:=DC [CF [C5 (CH 62) [] [.ref (.ptr 2 0)],fq 63],bool true]
  exact zD (int 370) [.val (int 0),.b false,.late,.call (.ref (.mp 3)) (rI e),.b false,.inl,.inl,.inl,.val (bool sb),.b true] (.c (CT (Γ':=Γq) (@hst (jA e))) (.c (show(0 != 0)=false from rfl) (.c (CT (Γ':=Γq) (@aJ (jA e))) (.e (.ref (.ptr 0 3)) (.e (.ref (.ptr 0 3)) (.e (.ref (.ptr 0 3)) (.e (int 4) (.e (int 4) (.e (int 4) (.c (show some v0=some v0 from rfl) (.c (show some v0=some v0 from rfl) (.c (show(!true)=false from rfl) (.c (CT (Γ':=Γq) (@hsm (nk e))) (.c hc0 .n)))))))))))))) h (by subst v0;first|rfl|(simp only[enR,hc0];first|done|rfl))
noncomputable abbrev nl(e:EntT):List Blk:=[.var [int e.time,int e.campus,int e.no,int 5,int e.stu,int e.obj,int e.term,int e.val,int e.frm,int e.til,aw e.text,int e.sec.id,int e.sec.course,int e.sec.term,int e.sec.campus,int e.sec.seats,aa (Cq CE e.sec.mts),aa (Cq CA e.sec.grs),aa (Cq ab e.sec.labs),bool e.sec.lab,int e.req.campus,int e.req.no,int e.req.st,int e.req.kind,int e.req.time,aa (Cq Cv e.req.chs),int e.req.gsec,int e.req.glab,int e.req.key,int e.r,int e.s],.var [fq 53],.var [C5 (CH 55) [] [.ref (.ptr 1 0)]],.map [(int 1,CF [fq 56,fq 57],0),(int 2,CF [C5 (CH 54) [] [.ref (.ptr 1 0)],fq 60],1),(int 3,CF [C5 (CH 55) [] [.ref (.ptr 1 0)],fq 61],2),(int 4,CF [C5 (CH 62) [] [.ref (.ptr 2 0)],fq 63],3),(int 5,CF [C5 (CH 55) [] [.ref (.ptr 1 0)],fq 61],4),(int 6,CF [fq 64,fq 65],5),(int 7,CF [fq 67,fq 68],6),(int 8,CF [C5 (CH 54) [] [.ref (.ptr 1 0)],fq 70],7),(int 9,CF [fq 71,fq 72],8)] 9,.var [C5 (CH 55) [] [.ref (.ptr 1 0)],fq 61],.var [int e.time,int e.campus,int e.no,int 5,int 0,int 0,int e.term,int 0,int 0,int 0,aw e.text,int e.sec.id,int e.sec.course,int e.sec.term,int e.sec.campus,int e.sec.seats,aa (Cq CE e.sec.mts),aa (Cq CA e.sec.grs),aa (Cq ab e.sec.labs),bool e.sec.lab,int e.req.campus,int e.req.no,int e.req.st,int e.req.kind,int e.req.time,aa (Cq Cv e.req.chs),int e.req.gsec,int e.req.glab,int e.req.key,int e.r,int e.s]]
noncomputable abbrev rJ(e:EntT):List Blk:=[.var [int e.time,int e.campus,int e.no,int 5,int e.stu,int e.obj,int e.term,int e.val,int e.frm,int e.til,aw e.text,int e.sec.id,int e.sec.course,int e.sec.term,int e.sec.campus,int e.sec.seats,aa (Cq CE e.sec.mts),aa (Cq CA e.sec.grs),aa (Cq ab e.sec.labs),bool e.sec.lab,int e.req.campus,int e.req.no,int e.req.st,int e.req.kind,int e.req.time,aa (Cq Cv e.req.chs),int e.req.gsec,int e.req.glab,int e.req.key,int e.r,int e.s],.var [fq 53],.var [C5 (CH 55) [] [.ref (.ptr 1 0)]],.map [(int 1,CF [fq 56,fq 57],0),(int 2,CF [C5 (CH 54) [] [.ref (.ptr 1 0)],fq 60],1),(int 3,CF [C5 (CH 55) [] [.ref (.ptr 1 0)],fq 61],2),(int 4,CF [C5 (CH 62) [] [.ref (.ptr 2 0)],fq 63],3),(int 5,CF [C5 (CH 55) [] [.ref (.ptr 1 0)],fq 61],4),(int 6,CF [fq 64,fq 65],5),(int 7,CF [fq 67,fq 68],6),(int 8,CF [C5 (CH 54) [] [.ref (.ptr 1 0)],fq 70],7),(int 9,CF [fq 71,fq 72],8)] 9]
noncomputable abbrev jB(e:EntT):List Blk:=[.var [int e.time,int e.campus,int e.no,int 5,int e.stu,int e.obj,int e.term,int e.val,int e.frm,int e.til,aw e.text,int e.sec.id,int e.sec.course,int e.sec.term,int e.sec.campus,int e.sec.seats,aa (Cq CE e.sec.mts),aa (Cq CA e.sec.grs),aa (Cq ab e.sec.labs),bool e.sec.lab,int e.req.campus,int e.req.no,int e.req.st,int e.req.kind,int e.req.time,aa (Cq Cv e.req.chs),int e.req.gsec,int e.req.glab,int e.req.key,int e.r,int e.s]]
theorem en5_a{e:EntT}{r:Int}{sb:Bool}(hst:∀h,Ev Cr Γ0 39 [.agg [int e.time,int e.campus,int e.no]] h (int 0) h)(hsm:∀h,Ev Cr Γ0 42 [.agg (em 5 e 0 0 e.term 0 0 0 e.text (ge e.sec) (rqD e.req.kind e.req)),.agg (ew 5 e)] h (bool sb) h)(hck:∀h,Ev Cr Γ0 61 [.agg (aS 5 e)] h (int r) h)(h:List Blk):(Ev Cr Γq 25 [.agg (aS 5 e)] h (int (enR 0 sb r)) h):=by
 cases hc0:!sb
 ·let v0:=DC [CF [C5 (CH 55) [] [.ref (.ptr 1 0)],fq 61],bool true]
  exact zD (int r) [.val (int 0),.b false,.late,.call (.ref (.mp 3)) (rJ e),.b false,.inl,.inl,.val (bool sb),.b false,.val (int r)] (.c (CT (Γ':=Γq) (@hst (jB e))) (.c (show(0 != 0)=false from rfl) (.c (CT (Γ':=Γq) (@aJ (jB e))) (.e (.ref (.ptr 0 3)) (.e (.ref (.ptr 0 3)) (.e (.ref (.ptr 0 3)) (.e (int 5) (.e (int 5) (.e (int 5) (.c (show some v0=some v0 from rfl) (.c (show some v0=some v0 from rfl) (.c (show(!true)=false from rfl) (.c (CT (Γ':=Γq) (@hsm (nl e))) (.c hc0 (.c (CT (Γ':=Γq) (@hck (nl e))) .n))))))))))))))) h (by subst v0;first|rfl|(simp only[enR,hc0];first|done|rfl))
 ·let v0:=DC [CF [C5 (CH 55) [] [.ref (.ptr 1 0)],fq 61],bool true]
  exact zD (int 370) [.val (int 0),.b false,.late,.call (.ref (.mp 3)) (rJ e),.b false,.inl,.inl,.val (bool sb),.b true] (.c (CT (Γ':=Γq) (@hst (jB e))) (.c (show(0 != 0)=false from rfl) (.c (CT (Γ':=Γq) (@aJ (jB e))) (.e (.ref (.ptr 0 3)) (.e (.ref (.ptr 0 3)) (.e (.ref (.ptr 0 3)) (.e (int 5) (.e (int 5) (.e (int 5) (.c (show some v0=some v0 from rfl) (.c (show some v0=some v0 from rfl) (.c (show(!true)=false from rfl) (.c (CT (Γ':=Γq) (@hsm (nl e))) (.c hc0 .n)))))))))))))) h (by subst v0;first|rfl|(simp only[enR,hc0];first|done|rfl))
noncomputable abbrev nm(e:EntT):List Blk:=[.var [int e.time,int e.campus,int e.no,int 6,int e.stu,int e.obj,int e.term,int e.val,int e.frm,int e.til,aw e.text,int e.sec.id,int e.sec.course,int e.sec.term,int e.sec.campus,int e.sec.seats,aa (Cq CE e.sec.mts),aa (Cq CA e.sec.grs),aa (Cq ab e.sec.labs),bool e.sec.lab,int e.req.campus,int e.req.no,int e.req.st,int e.req.kind,int e.req.time,aa (Cq Cv e.req.chs),int e.req.gsec,int e.req.glab,int e.req.key,int e.r,int e.s],.var [fq 53],.var [C5 (CH 55) [] [.ref (.ptr 1 0)]],.map [(int 1,CF [fq 56,fq 57],0),(int 2,CF [C5 (CH 54) [] [.ref (.ptr 1 0)],fq 60],1),(int 3,CF [C5 (CH 55) [] [.ref (.ptr 1 0)],fq 61],2),(int 4,CF [C5 (CH 62) [] [.ref (.ptr 2 0)],fq 63],3),(int 5,CF [C5 (CH 55) [] [.ref (.ptr 1 0)],fq 61],4),(int 6,CF [fq 64,fq 65],5),(int 7,CF [fq 67,fq 68],6),(int 8,CF [C5 (CH 54) [] [.ref (.ptr 1 0)],fq 70],7),(int 9,CF [fq 71,fq 72],8)] 9,.var [fq 64,fq 65],.var [int e.time,int e.campus,int e.no,int 6,int e.stu,int e.obj,int e.term,int e.val,int e.frm,int e.til,aw e.text,int 0,int 0,int 0,int 0,int 0,nq,nq,nq,bool false,int e.req.campus,int e.req.no,int e.req.st,int e.req.kind,int e.req.time,aa (Cq Cv e.req.chs),int e.req.gsec,int e.req.glab,int e.req.key,int e.r,int e.s]]
noncomputable abbrev rK(e:EntT):List Blk:=[.var [int e.time,int e.campus,int e.no,int 6,int e.stu,int e.obj,int e.term,int e.val,int e.frm,int e.til,aw e.text,int e.sec.id,int e.sec.course,int e.sec.term,int e.sec.campus,int e.sec.seats,aa (Cq CE e.sec.mts),aa (Cq CA e.sec.grs),aa (Cq ab e.sec.labs),bool e.sec.lab,int e.req.campus,int e.req.no,int e.req.st,int e.req.kind,int e.req.time,aa (Cq Cv e.req.chs),int e.req.gsec,int e.req.glab,int e.req.key,int e.r,int e.s],.var [fq 53],.var [C5 (CH 55) [] [.ref (.ptr 1 0)]],.map [(int 1,CF [fq 56,fq 57],0),(int 2,CF [C5 (CH 54) [] [.ref (.ptr 1 0)],fq 60],1),(int 3,CF [C5 (CH 55) [] [.ref (.ptr 1 0)],fq 61],2),(int 4,CF [C5 (CH 62) [] [.ref (.ptr 2 0)],fq 63],3),(int 5,CF [C5 (CH 55) [] [.ref (.ptr 1 0)],fq 61],4),(int 6,CF [fq 64,fq 65],5),(int 7,CF [fq 67,fq 68],6),(int 8,CF [C5 (CH 54) [] [.ref (.ptr 1 0)],fq 70],7),(int 9,CF [fq 71,fq 72],8)] 9]
noncomputable abbrev jC(e:EntT):List Blk:=[.var [int e.time,int e.campus,int e.no,int 6,int e.stu,int e.obj,int e.term,int e.val,int e.frm,int e.til,aw e.text,int e.sec.id,int e.sec.course,int e.sec.term,int e.sec.campus,int e.sec.seats,aa (Cq CE e.sec.mts),aa (Cq CA e.sec.grs),aa (Cq ab e.sec.labs),bool e.sec.lab,int e.req.campus,int e.req.no,int e.req.st,int e.req.kind,int e.req.time,aa (Cq Cv e.req.chs),int e.req.gsec,int e.req.glab,int e.req.key,int e.r,int e.s]]
theorem en6_a{e:EntT}{r:Int}{sb:Bool}(hst:∀h,Ev Cr Γ0 39 [.agg [int e.time,int e.campus,int e.no]] h (int 0) h)(hsm:∀h,Ev Cr Γ0 42 [.agg (em 6 e e.stu e.obj e.term e.val e.frm e.til e.text b5 (rqD e.req.kind e.req)),.agg (ew 6 e)] h (bool sb) h)(hck:∀h,Ev Cr Γq 65 [.agg (aS 6 e)] h (int r) h)(h:List Blk):(Ev Cr Γq 25 [.agg (aS 6 e)] h (int (enR 0 sb r)) h):=by
 cases hc0:!sb
 ·let v0:=DC [CF [fq 64,fq 65],bool true]
  exact zD (int r) [.val (int 0),.b false,.late,.call (.ref (.mp 3)) (rK e),.b false,.inl,.val (bool sb),.b false,.val (int r)] (.c (CT (Γ':=Γq) (@hst (jC e))) (.c (show(0 != 0)=false from rfl) (.c (CT (Γ':=Γq) (@aJ (jC e))) (.e (.ref (.ptr 0 3)) (.e (.ref (.ptr 0 3)) (.e (.ref (.ptr 0 3)) (.e (int 6) (.e (int 6) (.e (int 6) (.c (show some v0=some v0 from rfl) (.c (show some v0=some v0 from rfl) (.c (show(!true)=false from rfl) (.c (CT (Γ':=Γq) (@hsm (nm e))) (.c hc0 (.c (@hck (nm e)) .n))))))))))))))) h (by subst v0;first|rfl|(simp only[enR,hc0];first|done|rfl))
 ·let v0:=DC [CF [fq 64,fq 65],bool true]
  exact zD (int 370) [.val (int 0),.b false,.late,.call (.ref (.mp 3)) (rK e),.b false,.inl,.val (bool sb),.b true] (.c (CT (Γ':=Γq) (@hst (jC e))) (.c (show(0 != 0)=false from rfl) (.c (CT (Γ':=Γq) (@aJ (jC e))) (.e (.ref (.ptr 0 3)) (.e (.ref (.ptr 0 3)) (.e (.ref (.ptr 0 3)) (.e (int 6) (.e (int 6) (.e (int 6) (.c (show some v0=some v0 from rfl) (.c (show some v0=some v0 from rfl) (.c (show(!true)=false from rfl) (.c (CT (Γ':=Γq) (@hsm (nm e))) (.c hc0 .n)))))))))))))) h (by subst v0;first|rfl|(simp only[enR,hc0];first|done|rfl))
noncomputable abbrev np(e:EntT):List Blk:=[.var [int e.time,int e.campus,int e.no,int 7,int e.stu,int e.obj,int e.term,int e.val,int e.frm,int e.til,aw e.text,int e.sec.id,int e.sec.course,int e.sec.term,int e.sec.campus,int e.sec.seats,aa (Cq CE e.sec.mts),aa (Cq CA e.sec.grs),aa (Cq ab e.sec.labs),bool e.sec.lab,int e.req.campus,int e.req.no,int e.req.st,int e.req.kind,int e.req.time,aa (Cq Cv e.req.chs),int e.req.gsec,int e.req.glab,int e.req.key,int e.r,int e.s],.var [fq 53],.var [C5 (CH 55) [] [.ref (.ptr 1 0)]],.map [(int 1,CF [fq 56,fq 57],0),(int 2,CF [C5 (CH 54) [] [.ref (.ptr 1 0)],fq 60],1),(int 3,CF [C5 (CH 55) [] [.ref (.ptr 1 0)],fq 61],2),(int 4,CF [C5 (CH 62) [] [.ref (.ptr 2 0)],fq 63],3),(int 5,CF [C5 (CH 55) [] [.ref (.ptr 1 0)],fq 61],4),(int 6,CF [fq 64,fq 65],5),(int 7,CF [fq 67,fq 68],6),(int 8,CF [C5 (CH 54) [] [.ref (.ptr 1 0)],fq 70],7),(int 9,CF [fq 71,fq 72],8)] 9,.var [fq 67,fq 68],.var [int e.time,int e.campus,int e.no,int 7,int e.stu,int e.obj,int e.term,int e.val,int e.frm,int e.til,aw e.text,int e.sec.id,int e.sec.course,int e.sec.term,int e.sec.campus,int e.sec.seats,aa (Cq CE e.sec.mts),aa (Cq CA e.sec.grs),aa (Cq ab e.sec.labs),bool e.sec.lab,int 0,int 0,int 0,int 0,int 0,nq,int 0,int 0,int 0,int e.r,int e.s]]
noncomputable abbrev rL(e:EntT):List Blk:=[.var [int e.time,int e.campus,int e.no,int 7,int e.stu,int e.obj,int e.term,int e.val,int e.frm,int e.til,aw e.text,int e.sec.id,int e.sec.course,int e.sec.term,int e.sec.campus,int e.sec.seats,aa (Cq CE e.sec.mts),aa (Cq CA e.sec.grs),aa (Cq ab e.sec.labs),bool e.sec.lab,int e.req.campus,int e.req.no,int e.req.st,int e.req.kind,int e.req.time,aa (Cq Cv e.req.chs),int e.req.gsec,int e.req.glab,int e.req.key,int e.r,int e.s],.var [fq 53],.var [C5 (CH 55) [] [.ref (.ptr 1 0)]],.map [(int 1,CF [fq 56,fq 57],0),(int 2,CF [C5 (CH 54) [] [.ref (.ptr 1 0)],fq 60],1),(int 3,CF [C5 (CH 55) [] [.ref (.ptr 1 0)],fq 61],2),(int 4,CF [C5 (CH 62) [] [.ref (.ptr 2 0)],fq 63],3),(int 5,CF [C5 (CH 55) [] [.ref (.ptr 1 0)],fq 61],4),(int 6,CF [fq 64,fq 65],5),(int 7,CF [fq 67,fq 68],6),(int 8,CF [C5 (CH 54) [] [.ref (.ptr 1 0)],fq 70],7),(int 9,CF [fq 71,fq 72],8)] 9]
noncomputable abbrev jD(e:EntT):List Blk:=[.var [int e.time,int e.campus,int e.no,int 7,int e.stu,int e.obj,int e.term,int e.val,int e.frm,int e.til,aw e.text,int e.sec.id,int e.sec.course,int e.sec.term,int e.sec.campus,int e.sec.seats,aa (Cq CE e.sec.mts),aa (Cq CA e.sec.grs),aa (Cq ab e.sec.labs),bool e.sec.lab,int e.req.campus,int e.req.no,int e.req.st,int e.req.kind,int e.req.time,aa (Cq Cv e.req.chs),int e.req.gsec,int e.req.glab,int e.req.key,int e.r,int e.s]]
theorem en7_a{e:EntT}{r:Int}{sb:Bool}(hst:∀h,Ev Cr Γ0 39 [.agg [int e.time,int e.campus,int e.no]] h (int 0) h)(hsm:∀h,Ev Cr Γ0 42 [.agg (em 7 e e.stu e.obj e.term e.val e.frm e.til e.text (ge e.sec) d6),.agg (ew 7 e)] h (bool sb) h)(hck:∀h,Ev Cr Γq 68 [.agg (aS 7 e)] h (int r) h)(h:List Blk):(Ev Cr Γq 25 [.agg (aS 7 e)] h (int (enR 0 sb r)) h):=by
 cases hc0:!sb
 ·let v0:=DC [CF [fq 67,fq 68],bool true]
  exact zD (int r) [.val (int 0),.b false,.late,.call (.ref (.mp 3)) (rL e),.b false,.inl,.val (bool sb),.b false,.val (int r)] (.c (CT (Γ':=Γq) (@hst (jD e))) (.c (show(0 != 0)=false from rfl) (.c (CT (Γ':=Γq) (@aJ (jD e))) (.e (.ref (.ptr 0 3)) (.e (.ref (.ptr 0 3)) (.e (.ref (.ptr 0 3)) (.e (int 7) (.e (int 7) (.e (int 7) (.c (show some v0=some v0 from rfl) (.c (show some v0=some v0 from rfl) (.c (show(!true)=false from rfl) (.c (CT (Γ':=Γq) (@hsm (np e))) (.c hc0 (.c (@hck (np e)) .n))))))))))))))) h (by subst v0;first|rfl|(simp only[enR,hc0];first|done|rfl))
 ·let v0:=DC [CF [fq 67,fq 68],bool true]
  exact zD (int 370) [.val (int 0),.b false,.late,.call (.ref (.mp 3)) (rL e),.b false,.inl,.val (bool sb),.b true] (.c (CT (Γ':=Γq) (@hst (jD e))) (.c (show(0 != 0)=false from rfl) (.c (CT (Γ':=Γq) (@aJ (jD e))) (.e (.ref (.ptr 0 3)) (.e (.ref (.ptr 0 3)) (.e (.ref (.ptr 0 3)) (.e (int 7) (.e (int 7) (.e (int 7) (.c (show some v0=some v0 from rfl) (.c (show some v0=some v0 from rfl) (.c (show(!true)=false from rfl) (.c (CT (Γ':=Γq) (@hsm (np e))) (.c hc0 .n)))))))))))))) h (by subst v0;first|rfl|(simp only[enR,hc0];first|done|rfl))
noncomputable abbrev nr(e:EntT):List Blk:=[.var [int e.time,int e.campus,int e.no,int 8,int e.stu,int e.obj,int e.term,int e.val,int e.frm,int e.til,aw e.text,int e.sec.id,int e.sec.course,int e.sec.term,int e.sec.campus,int e.sec.seats,aa (Cq CE e.sec.mts),aa (Cq CA e.sec.grs),aa (Cq ab e.sec.labs),bool e.sec.lab,int e.req.campus,int e.req.no,int e.req.st,int e.req.kind,int e.req.time,aa (Cq Cv e.req.chs),int e.req.gsec,int e.req.glab,int e.req.key,int e.r,int e.s],.var [fq 53],.var [C5 (CH 55) [] [.ref (.ptr 1 0)]],.map [(int 1,CF [fq 56,fq 57],0),(int 2,CF [C5 (CH 54) [] [.ref (.ptr 1 0)],fq 60],1),(int 3,CF [C5 (CH 55) [] [.ref (.ptr 1 0)],fq 61],2),(int 4,CF [C5 (CH 62) [] [.ref (.ptr 2 0)],fq 63],3),(int 5,CF [C5 (CH 55) [] [.ref (.ptr 1 0)],fq 61],4),(int 6,CF [fq 64,fq 65],5),(int 7,CF [fq 67,fq 68],6),(int 8,CF [C5 (CH 54) [] [.ref (.ptr 1 0)],fq 70],7),(int 9,CF [fq 71,fq 72],8)] 9,.var [C5 (CH 54) [] [.ref (.ptr 1 0)],fq 70],.var [int e.time,int e.campus,int e.no,int 8,int 0,int 0,int 0,int 0,int e.frm,int e.til,aw e.text,int e.sec.id,int e.sec.course,int e.sec.term,int e.sec.campus,int e.sec.seats,aa (Cq CE e.sec.mts),aa (Cq CA e.sec.grs),aa (Cq ab e.sec.labs),bool e.sec.lab,int e.req.campus,int e.req.no,int e.req.st,int e.req.kind,int e.req.time,aa (Cq Cv e.req.chs),int e.req.gsec,int e.req.glab,int e.req.key,int e.r,int e.s]]
noncomputable abbrev rM(e:EntT):List Blk:=[.var [int e.time,int e.campus,int e.no,int 8,int e.stu,int e.obj,int e.term,int e.val,int e.frm,int e.til,aw e.text,int e.sec.id,int e.sec.course,int e.sec.term,int e.sec.campus,int e.sec.seats,aa (Cq CE e.sec.mts),aa (Cq CA e.sec.grs),aa (Cq ab e.sec.labs),bool e.sec.lab,int e.req.campus,int e.req.no,int e.req.st,int e.req.kind,int e.req.time,aa (Cq Cv e.req.chs),int e.req.gsec,int e.req.glab,int e.req.key,int e.r,int e.s],.var [fq 53],.var [C5 (CH 55) [] [.ref (.ptr 1 0)]],.map [(int 1,CF [fq 56,fq 57],0),(int 2,CF [C5 (CH 54) [] [.ref (.ptr 1 0)],fq 60],1),(int 3,CF [C5 (CH 55) [] [.ref (.ptr 1 0)],fq 61],2),(int 4,CF [C5 (CH 62) [] [.ref (.ptr 2 0)],fq 63],3),(int 5,CF [C5 (CH 55) [] [.ref (.ptr 1 0)],fq 61],4),(int 6,CF [fq 64,fq 65],5),(int 7,CF [fq 67,fq 68],6),(int 8,CF [C5 (CH 54) [] [.ref (.ptr 1 0)],fq 70],7),(int 9,CF [fq 71,fq 72],8)] 9]
noncomputable abbrev jE(e:EntT):List Blk:=[.var [int e.time,int e.campus,int e.no,int 8,int e.stu,int e.obj,int e.term,int e.val,int e.frm,int e.til,aw e.text,int e.sec.id,int e.sec.course,int e.sec.term,int e.sec.campus,int e.sec.seats,aa (Cq CE e.sec.mts),aa (Cq CA e.sec.grs),aa (Cq ab e.sec.labs),bool e.sec.lab,int e.req.campus,int e.req.no,int e.req.st,int e.req.kind,int e.req.time,aa (Cq Cv e.req.chs),int e.req.gsec,int e.req.glab,int e.req.key,int e.r,int e.s]]
theorem en8_a{e:EntT}{r:Int}{sb:Bool}(hst:∀h,Ev Cr Γ0 39 [.agg [int e.time,int e.campus,int e.no]] h (int 0) h)(hsm:∀h,Ev Cr Γ0 42 [.agg (em 8 e 0 0 0 0 e.frm e.til e.text (ge e.sec) (rqD e.req.kind e.req)),.agg (ew 8 e)] h (bool sb) h)(hck:∀h,Ev Cr Γ0 70 [.agg (aS 8 e)] h (int r) h)(h:List Blk):(Ev Cr Γq 25 [.agg (aS 8 e)] h (int (enR 0 sb r)) h):=by
 cases hc0:!sb
 ·let v0:=DC [CF [C5 (CH 54) [] [.ref (.ptr 1 0)],fq 70],bool true]
  exact zD (int r) [.val (int 0),.b false,.late,.call (.ref (.mp 3)) (rM e),.b false,.inl,.inl,.val (bool sb),.b false,.val (int r)] (.c (CT (Γ':=Γq) (@hst (jE e))) (.c (show(0 != 0)=false from rfl) (.c (CT (Γ':=Γq) (@aJ (jE e))) (.e (.ref (.ptr 0 3)) (.e (.ref (.ptr 0 3)) (.e (.ref (.ptr 0 3)) (.e (int 8) (.e (int 8) (.e (int 8) (.c (show some v0=some v0 from rfl) (.c (show some v0=some v0 from rfl) (.c (show(!true)=false from rfl) (.c (CT (Γ':=Γq) (@hsm (nr e))) (.c hc0 (.c (CT (Γ':=Γq) (@hck (nr e))) .n))))))))))))))) h (by subst v0;first|rfl|(simp only[enR,hc0];first|done|rfl))
 ·let v0:=DC [CF [C5 (CH 54) [] [.ref (.ptr 1 0)],fq 70],bool true]
  exact zD (int 370) [.val (int 0),.b false,.late,.call (.ref (.mp 3)) (rM e),.b false,.inl,.inl,.val (bool sb),.b true] (.c (CT (Γ':=Γq) (@hst (jE e))) (.c (show(0 != 0)=false from rfl) (.c (CT (Γ':=Γq) (@aJ (jE e))) (.e (.ref (.ptr 0 3)) (.e (.ref (.ptr 0 3)) (.e (.ref (.ptr 0 3)) (.e (int 8) (.e (int 8) (.e (int 8) (.c (show some v0=some v0 from rfl) (.c (show some v0=some v0 from rfl) (.c (show(!true)=false from rfl) (.c (CT (Γ':=Γq) (@hsm (nr e))) (.c hc0 .n)))))))))))))) h (by subst v0;first|rfl|(simp only[enR,hc0];first|done|rfl))
noncomputable abbrev ns(e:EntT):List Blk:=[.var [int e.time,int e.campus,int e.no,int 9,int e.stu,int e.obj,int e.term,int e.val,int e.frm,int e.til,aw e.text,int e.sec.id,int e.sec.course,int e.sec.term,int e.sec.campus,int e.sec.seats,aa (Cq CE e.sec.mts),aa (Cq CA e.sec.grs),aa (Cq ab e.sec.labs),bool e.sec.lab,int e.req.campus,int e.req.no,int e.req.st,int e.req.kind,int e.req.time,aa (Cq Cv e.req.chs),int e.req.gsec,int e.req.glab,int e.req.key,int e.r,int e.s],.var [fq 53],.var [C5 (CH 55) [] [.ref (.ptr 1 0)]],.map [(int 1,CF [fq 56,fq 57],0),(int 2,CF [C5 (CH 54) [] [.ref (.ptr 1 0)],fq 60],1),(int 3,CF [C5 (CH 55) [] [.ref (.ptr 1 0)],fq 61],2),(int 4,CF [C5 (CH 62) [] [.ref (.ptr 2 0)],fq 63],3),(int 5,CF [C5 (CH 55) [] [.ref (.ptr 1 0)],fq 61],4),(int 6,CF [fq 64,fq 65],5),(int 7,CF [fq 67,fq 68],6),(int 8,CF [C5 (CH 54) [] [.ref (.ptr 1 0)],fq 70],7),(int 9,CF [fq 71,fq 72],8)] 9,.var [fq 71,fq 72],.var [int e.time,int e.campus,int e.no,int 9,int e.stu,int e.obj,int 0,int e.val,int e.frm,int e.til,aw e.text,int e.sec.id,int e.sec.course,int e.sec.term,int e.sec.campus,int e.sec.seats,aa (Cq CE e.sec.mts),aa (Cq CA e.sec.grs),aa (Cq ab e.sec.labs),bool e.sec.lab,int e.req.campus,int e.req.no,int e.req.st,int e.req.kind,int e.req.time,aa (Cq Cv e.req.chs),int e.req.gsec,int e.req.glab,int e.req.key,int e.r,int e.s]]
noncomputable abbrev rN(e:EntT):List Blk:=[.var [int e.time,int e.campus,int e.no,int 9,int e.stu,int e.obj,int e.term,int e.val,int e.frm,int e.til,aw e.text,int e.sec.id,int e.sec.course,int e.sec.term,int e.sec.campus,int e.sec.seats,aa (Cq CE e.sec.mts),aa (Cq CA e.sec.grs),aa (Cq ab e.sec.labs),bool e.sec.lab,int e.req.campus,int e.req.no,int e.req.st,int e.req.kind,int e.req.time,aa (Cq Cv e.req.chs),int e.req.gsec,int e.req.glab,int e.req.key,int e.r,int e.s],.var [fq 53],.var [C5 (CH 55) [] [.ref (.ptr 1 0)]],.map [(int 1,CF [fq 56,fq 57],0),(int 2,CF [C5 (CH 54) [] [.ref (.ptr 1 0)],fq 60],1),(int 3,CF [C5 (CH 55) [] [.ref (.ptr 1 0)],fq 61],2),(int 4,CF [C5 (CH 62) [] [.ref (.ptr 2 0)],fq 63],3),(int 5,CF [C5 (CH 55) [] [.ref (.ptr 1 0)],fq 61],4),(int 6,CF [fq 64,fq 65],5),(int 7,CF [fq 67,fq 68],6),(int 8,CF [C5 (CH 54) [] [.ref (.ptr 1 0)],fq 70],7),(int 9,CF [fq 71,fq 72],8)] 9]
noncomputable abbrev jF(e:EntT):List Blk:=[.var [int e.time,int e.campus,int e.no,int 9,int e.stu,int e.obj,int e.term,int e.val,int e.frm,int e.til,aw e.text,int e.sec.id,int e.sec.course,int e.sec.term,int e.sec.campus,int e.sec.seats,aa (Cq CE e.sec.mts),aa (Cq CA e.sec.grs),aa (Cq ab e.sec.labs),bool e.sec.lab,int e.req.campus,int e.req.no,int e.req.st,int e.req.kind,int e.req.time,aa (Cq Cv e.req.chs),int e.req.gsec,int e.req.glab,int e.req.key,int e.r,int e.s]]
theorem en9_a{e:EntT}{r:Int}{sb:Bool}(hst:∀h,Ev Cr Γ0 39 [.agg [int e.time,int e.campus,int e.no]] h (int 0) h)(hsm:∀h,Ev Cr Γ0 42 [.agg (em 9 e e.stu e.obj 0 e.val e.frm e.til e.text (ge e.sec) (rqD e.req.kind e.req)),.agg (ew 9 e)] h (bool sb) h)(hck:∀h,Ev Cr Γ0 72 [.agg (aS 9 e)] h (int r) h)(h:List Blk):(Ev Cr Γq 25 [.agg (aS 9 e)] h (int (enR 0 sb r)) h):=by
 cases hc0:!sb
 ·let v0:=DC [CF [fq 71,fq 72],bool true]
  exact zD (int r) [.val (int 0),.b false,.late,.call (.ref (.mp 3)) (rN e),.b false,.inl,.val (bool sb),.b false,.val (int r)] (.c (CT (Γ':=Γq) (@hst (jF e))) (.c (show(0 != 0)=false from rfl) (.c (CT (Γ':=Γq) (@aJ (jF e))) (.e (.ref (.ptr 0 3)) (.e (.ref (.ptr 0 3)) (.e (.ref (.ptr 0 3)) (.e (int 9) (.e (int 9) (.e (int 9) (.c (show some v0=some v0 from rfl) (.c (show some v0=some v0 from rfl) (.c (show(!true)=false from rfl) (.c (CT (Γ':=Γq) (@hsm (ns e))) (.c hc0 (.c (CT (Γ':=Γq) (@hck (ns e))) .n))))))))))))))) h (by subst v0;first|rfl|(simp only[enR,hc0];first|done|rfl))
 ·let v0:=DC [CF [fq 71,fq 72],bool true]
  exact zD (int 370) [.val (int 0),.b false,.late,.call (.ref (.mp 3)) (rN e),.b false,.inl,.val (bool sb),.b true] (.c (CT (Γ':=Γq) (@hst (jF e))) (.c (show(0 != 0)=false from rfl) (.c (CT (Γ':=Γq) (@aJ (jF e))) (.e (.ref (.ptr 0 3)) (.e (.ref (.ptr 0 3)) (.e (.ref (.ptr 0 3)) (.e (int 9) (.e (int 9) (.e (int 9) (.c (show some v0=some v0 from rfl) (.c (show some v0=some v0 from rfl) (.c (show(!true)=false from rfl) (.c (CT (Γ':=Γq) (@hsm (ns e))) (.c hc0 .n)))))))))))))) h (by subst v0;first|rfl|(simp only[enR,hc0];first|done|rfl))
abbrev ekKV(n:Nat):List (D×D×Nat):=[(int 1,.agg [fq 56,fq 57],0),(int 2,.agg [kfn 54 n,fq 60],1),(int 3,.agg [kfn 55 n,fq 61],2),(int 4,.agg [kfn 62 (n+1),fq 63],3),(int 5,.agg [kfn 55 n,fq 61],4),(int 6,.agg [fq 64,fq 65],5),(int 7,.agg [fq 67,fq 68],6),(int 8,.agg [kfn 54 n,fq 70],7),(int 9,.agg [fq 71,fq 72],8)]
theorem lkE2{k:Int}(hk:¬(1≤k∧k≤9))(n:Nat):yD Cr 78 (ekKV n) (int k) true (.tup [.agg [lit .nilFunc,lit .nilFunc],bool false]):=by
 have e1:Cr.underlying 78=some (.map 3 76):=by kernel_rfl
 have e2:cz Cr 3 (int k)=true:=by kernel_rfl
 have e3:gh Cr 76=some (.agg #[.nilFunc,.nilFunc]):=by kernel_rfl
 have e4:bR (int k) (ekKV n) 0=some none:=by
  have nn:∀m:Int,1≤m→m≤9→bi (int k) (int m)=some false:=fun m h1 h2=>by
   have:¬k=m:=by omega
   simp[bi,this]
  simp only[bR,nn 1 (by decide) (by decide),nn 2 (by decide) (by decide),nn 3 (by decide) (by decide),nn 4 (by decide) (by decide),nn 5 (by decide) (by decide),nn 6 (by decide) (by decide),nn 7 (by decide) (by decide),nn 8 (by decide) (by decide),nn 9 (by decide) (by decide)]
 unfold yD aU
 simp only[e1,jc,CV,e2,if_true,e3,e4]
 rfl
noncomputable abbrev rO(e:EntT):List Blk:=[.var [int e.time,int e.campus,int e.no,int e.kind,int e.stu,int e.obj,int e.term,int e.val,int e.frm,int e.til,aw e.text,int e.sec.id,int e.sec.course,int e.sec.term,int e.sec.campus,int e.sec.seats,aa (Cq CE e.sec.mts),aa (Cq CA e.sec.grs),aa (Cq ab e.sec.labs),bool e.sec.lab,int e.req.campus,int e.req.no,int e.req.st,int e.req.kind,int e.req.time,aa (Cq Cv e.req.chs),int e.req.gsec,int e.req.glab,int e.req.key,int e.r,int e.s],.var [fq 53],.var [C5 (CH 55) [] [.ref (.ptr 1 0)]],.map [(int 1,CF [fq 56,fq 57],0),(int 2,CF [C5 (CH 54) [] [.ref (.ptr 1 0)],fq 60],1),(int 3,CF [C5 (CH 55) [] [.ref (.ptr 1 0)],fq 61],2),(int 4,CF [C5 (CH 62) [] [.ref (.ptr 2 0)],fq 63],3),(int 5,CF [C5 (CH 55) [] [.ref (.ptr 1 0)],fq 61],4),(int 6,CF [fq 64,fq 65],5),(int 7,CF [fq 67,fq 68],6),(int 8,CF [C5 (CH 54) [] [.ref (.ptr 1 0)],fq 70],7),(int 9,CF [fq 71,fq 72],8)] 9]
noncomputable abbrev rP(e:EntT):List Blk:=[.var [int e.time,int e.campus,int e.no,int e.kind,int e.stu,int e.obj,int e.term,int e.val,int e.frm,int e.til,aw e.text,int e.sec.id,int e.sec.course,int e.sec.term,int e.sec.campus,int e.sec.seats,aa (Cq CE e.sec.mts),aa (Cq CA e.sec.grs),aa (Cq ab e.sec.labs),bool e.sec.lab,int e.req.campus,int e.req.no,int e.req.st,int e.req.kind,int e.req.time,aa (Cq Cv e.req.chs),int e.req.gsec,int e.req.glab,int e.req.key,int e.r,int e.s]]
theorem enN_a{e:EntT}(hk:¬(1≤e.kind∧e.kind≤9))(hst:∀h,Ev Cr Γ0 39 [.agg [int e.time,int e.campus,int e.no]] h (int 0) h)(h:List Blk):(Ev Cr Γq 25 [.agg (aS e.kind e)] h (int 370) h):=by
 let v1:List D:=[int e.time,int e.campus,int e.no,int e.kind,int e.stu,int e.obj,int e.term,int e.val,int e.frm,int e.til,aw e.text,int e.sec.id,int e.sec.course,int e.sec.term,int e.sec.campus,int e.sec.seats,aa (Cq CE e.sec.mts),aa (Cq CA e.sec.grs),aa (Cq ab e.sec.labs),bool e.sec.lab,int e.req.campus,int e.req.no,int e.req.st,int e.req.kind,int e.req.time,aa (Cq Cv e.req.chs),int e.req.gsec,int e.req.glab,int e.req.key,int e.r,int e.s]
 let v2:List Blk:=[.map [(int 1,CF [fq 56,fq 57],0),(int 2,CF [C5 (CH 54) [] [.ref (.ptr 1 0)],fq 60],1),(int 3,CF [C5 (CH 55) [] [.ref (.ptr 1 0)],fq 61],2),(int 4,CF [C5 (CH 62) [] [.ref (.ptr 2 0)],fq 63],3),(int 5,CF [C5 (CH 55) [] [.ref (.ptr 1 0)],fq 61],4),(int 6,CF [fq 64,fq 65],5),(int 7,CF [fq 67,fq 68],6),(int 8,CF [C5 (CH 54) [] [.ref (.ptr 1 0)],fq 70],7),(int 9,CF [fq 71,fq 72],8)] 0]
 let v3:List D:=[int e.time,int e.campus,int e.no]
 let v0:=List.getD [mkT 40 0 [(0,CF v1),(1,.ref (.ptr 0 0)),(2,int 0),(3,int 0),(7,.ref (.ptr 0 0)),(8,CF v3),(9,int 0),(10,int 0),(11,bool (0 != 0))],mkT 40 0 [(0,CF v1),(1,.ref (.ptr 0 0)),(2,int 0),(3,int 0),(7,.ref (.ptr 0 0)),(8,CF v3),(9,int 0),(10,int 0),(11,bool (0 != 0)),(14,.ref (.mp 3))],mkT 40 0 [(0,CF v1),(1,.ref (.ptr 0 0)),(2,int 0),(3,int 0),(7,.ref (.ptr 0 0)),(8,CF v3),(9,int 0),(10,int 0),(11,bool (0 != 0)),(14,.ref (.mp 3)),(15,.ref (.ptr 0 3))],mkT 40 0 [(0,CF v1),(1,.ref (.ptr 0 0)),(2,int 0),(3,int 0),(7,.ref (.ptr 0 0)),(8,CF v3),(9,int 0),(10,int 0),(11,bool (0 != 0)),(14,.ref (.mp 3)),(15,.ref (.ptr 0 3)),(16,int e.kind)],mkT 40 0 [(0,CF v1),(1,.ref (.ptr 0 0)),(2,int 0),(3,int 0),(7,.ref (.ptr 0 0)),(8,CF v3),(9,int 0),(10,int 0),(11,bool (0 != 0)),(14,.ref (.mp 3)),(15,.ref (.ptr 0 3)),(16,int e.kind),(17,DC [CF [Ej (CZ C1),Ej (CZ C1)],bool false])],mkT 40 0 [(0,CF v1),(1,.ref (.ptr 0 0)),(2,int 0),(3,int 0),(7,.ref (.ptr 0 0)),(8,CF v3),(9,int 0),(10,int 0),(11,bool (0 != 0)),(13,DC [CF [Ej (CZ C1),Ej (CZ C1)],bool false]),(14,.ref (.mp 3)),(15,.ref (.ptr 0 3)),(16,int e.kind),(17,DC [CF [Ej (CZ C1),Ej (CZ C1)],bool false])],mkT 40 0 [(0,CF v1),(1,.ref (.ptr 0 0)),(2,int 0),(3,int 0),(7,.ref (.ptr 0 0)),(8,CF v3),(9,int 0),(10,int 0),(11,bool (0 != 0)),(13,DC [CF [Ej (CZ C1),Ej (CZ C1)],bool false]),(14,.ref (.mp 3)),(15,.ref (.ptr 0 3)),(16,int e.kind),(17,DC [CF [Ej (CZ C1),Ej (CZ C1)],bool false]),(18,CF [Ej (CZ C1),Ej (CZ C1)])],mkT 40 0 [(0,CF v1),(1,.ref (.ptr 0 0)),(2,int 0),(3,int 0),(7,.ref (.ptr 0 0)),(8,CF v3),(9,int 0),(10,int 0),(11,bool (0 != 0)),(13,DC [CF [Ej (CZ C1),Ej (CZ C1)],bool false]),(14,.ref (.mp 3)),(15,.ref (.ptr 0 3)),(16,int e.kind),(17,DC [CF [Ej (CZ C1),Ej (CZ C1)],bool false]),(18,CF [Ej (CZ C1),Ej (CZ C1)]),(19,bool false)],mkT 40 0 [(0,CF v1),(1,.ref (.ptr 0 0)),(2,int 0),(3,int 0),(4,.ref (.ptr 4 0)),(7,.ref (.ptr 0 0)),(8,CF v3),(9,int 0),(10,int 0),(11,bool (0 != 0)),(13,DC [CF [Ej (CZ C1),Ej (CZ C1)],bool false]),(14,.ref (.mp 3)),(15,.ref (.ptr 0 3)),(16,int e.kind),(17,DC [CF [Ej (CZ C1),Ej (CZ C1)],bool false]),(18,CF [Ej (CZ C1),Ej (CZ C1)]),(19,bool false)],mkT 40 0 [(0,CF v1),(1,.ref (.ptr 0 0)),(2,int 0),(3,int 0),(4,.ref (.ptr 4 0)),(7,.ref (.ptr 0 0)),(8,CF v3),(9,int 0),(10,int 0),(11,bool (0 != 0)),(13,DC [CF [Ej (CZ C1),Ej (CZ C1)],bool false]),(14,.ref (.mp 3)),(15,.ref (.ptr 0 3)),(16,int e.kind),(17,DC [CF [Ej (CZ C1),Ej (CZ C1)],bool false]),(18,CF [Ej (CZ C1),Ej (CZ C1)]),(19,bool false)]] (aN (sv [{dst:=some 14,op:=Ht {callee:=Ff (E8 41),args:=#[],argTypes:=#[]},type:=78,pos:= "entries.go:99",after:=#[],guard:=none},{dst:=some 15,op:=Fy 46 (CK 1) 1,type:=0,pos:= "entries.go:99",after:=#[],guard:=none},{dst:=some 16,op:=Hu 3 (CK 15),type:=3,pos:= "entries.go:99",after:=#[{on:=1,ground:=CN}],guard:=none},{dst:=some 17,op:=Gv 78 (CK 14) (CK 16) true,type:=77,pos:= "entries.go:99",after:=#[{on:=0,ground:=CN},{on:=2,ground:=CN}],guard:=none},{dst:=some 13,op:=Hv (CK 17),type:=77,pos:= "entries.go:99",after:=#[{on:=3,ground:=CN}],guard:=none},{dst:=some 18,op:=Eg (CK 13) 0,type:=76,pos:= "entries.go:99",after:=#[{on:=4,ground:=CN}],guard:=none},{dst:=some 19,op:=Eg (CK 13) 1,type:=4,pos:= "entries.go:99",after:=#[{on:=4,ground:=CN},{on:=8,ground:=EW Dh}],guard:=none},{dst:=some 4,op:=G2 76,type:=0,pos:= "entries.go:99",after:=#[],guard:=none},{dst:=none,op:=G3 76 (CK 4) (CK 18),type:=0,pos:= "entries.go:99",after:=#[{on:=7,ground:=CN},{on:=5,ground:=CN},{on:=0,ground:=DP},{on:=0,ground:=CD},{on:=1,ground:=CD},{on:=2,ground:=CD},{on:=3,ground:=CD},{on:=4,ground:=CD},{on:=5,ground:=CD},{on:=6,ground:=EI Dh},{on:=7,ground:=CD}],guard:=none},{dst:=some 5,op:=Gw (CK 19),type:=4,pos:= "entries.go:99",after:=#[{on:=6,ground:=CN},{on:=8,ground:=DP},{on:=0,ground:=CD},{on:=1,ground:=CD},{on:=2,ground:=CD},{on:=3,ground:=CD},{on:=4,ground:=CD},{on:=5,ground:=CD},{on:=6,ground:=CD},{on:=7,ground:=CD},{on:=8,ground:=CD}],guard:=none}] (bb [{dst:=some 14,op:=Ht {callee:=Ff (E8 41),args:=#[],argTypes:=#[]},type:=78,pos:= "entries.go:99",after:=#[],guard:=none},{dst:=some 15,op:=Fy 46 (CK 1) 1,type:=0,pos:= "entries.go:99",after:=#[],guard:=none},{dst:=some 16,op:=Hu 3 (CK 15),type:=3,pos:= "entries.go:99",after:=#[{on:=1,ground:=CN}],guard:=none},{dst:=some 17,op:=Gv 78 (CK 14) (CK 16) true,type:=77,pos:= "entries.go:99",after:=#[{on:=0,ground:=CN},{on:=2,ground:=CN}],guard:=none},{dst:=some 13,op:=Hv (CK 17),type:=77,pos:= "entries.go:99",after:=#[{on:=3,ground:=CN}],guard:=none},{dst:=some 18,op:=Eg (CK 13) 0,type:=76,pos:= "entries.go:99",after:=#[{on:=4,ground:=CN}],guard:=none},{dst:=some 19,op:=Eg (CK 13) 1,type:=4,pos:= "entries.go:99",after:=#[{on:=4,ground:=CN},{on:=8,ground:=EW Dh}],guard:=none},{dst:=some 4,op:=G2 76,type:=0,pos:= "entries.go:99",after:=#[],guard:=none},{dst:=none,op:=G3 76 (CK 4) (CK 18),type:=0,pos:= "entries.go:99",after:=#[{on:=7,ground:=CN},{on:=5,ground:=CN},{on:=0,ground:=DP},{on:=0,ground:=CD},{on:=1,ground:=CD},{on:=2,ground:=CD},{on:=3,ground:=CD},{on:=4,ground:=CD},{on:=5,ground:=CD},{on:=6,ground:=EI Dh},{on:=7,ground:=CD}],guard:=none},{dst:=some 5,op:=Gw (CK 19),type:=4,pos:= "entries.go:99",after:=#[{on:=6,ground:=CN},{on:=8,ground:=DP},{on:=0,ground:=CD},{on:=1,ground:=CD},{on:=2,ground:=CD},{on:=3,ground:=CD},{on:=4,ground:=CD},{on:=5,ground:=CD},{on:=6,ground:=CD},{on:=7,ground:=CD},{on:=8,ground:=CD}],guard:=none}] []) (gC [{dst:=some 14,op:=Ht {callee:=Ff (E8 41),args:=#[],argTypes:=#[]},type:=78,pos:= "entries.go:99",after:=#[],guard:=none},{dst:=some 15,op:=Fy 46 (CK 1) 1,type:=0,pos:= "entries.go:99",after:=#[],guard:=none},{dst:=some 16,op:=Hu 3 (CK 15),type:=3,pos:= "entries.go:99",after:=#[{on:=1,ground:=CN}],guard:=none},{dst:=some 17,op:=Gv 78 (CK 14) (CK 16) true,type:=77,pos:= "entries.go:99",after:=#[{on:=0,ground:=CN},{on:=2,ground:=CN}],guard:=none},{dst:=some 13,op:=Hv (CK 17),type:=77,pos:= "entries.go:99",after:=#[{on:=3,ground:=CN}],guard:=none},{dst:=some 18,op:=Eg (CK 13) 0,type:=76,pos:= "entries.go:99",after:=#[{on:=4,ground:=CN}],guard:=none},{dst:=some 19,op:=Eg (CK 13) 1,type:=4,pos:= "entries.go:99",after:=#[{on:=4,ground:=CN},{on:=8,ground:=EW Dh}],guard:=none},{dst:=some 4,op:=G2 76,type:=0,pos:= "entries.go:99",after:=#[],guard:=none},{dst:=none,op:=G3 76 (CK 4) (CK 18),type:=0,pos:= "entries.go:99",after:=#[{on:=7,ground:=CN},{on:=5,ground:=CN},{on:=0,ground:=DP},{on:=0,ground:=CD},{on:=1,ground:=CD},{on:=2,ground:=CD},{on:=3,ground:=CD},{on:=4,ground:=CD},{on:=5,ground:=CD},{on:=6,ground:=EI Dh},{on:=7,ground:=CD}],guard:=none},{dst:=some 5,op:=Gw (CK 19),type:=4,pos:= "entries.go:99",after:=#[{on:=6,ground:=CN},{on:=8,ground:=DP},{on:=0,ground:=CD},{on:=1,ground:=CD},{on:=2,ground:=CD},{on:=3,ground:=CD},{on:=4,ground:=CD},{on:=5,ground:=CD},{on:=6,ground:=CD},{on:=7,ground:=CD},{on:=8,ground:=CD}],guard:=none}] (bb [{dst:=some 14,op:=Ht {callee:=Ff (E8 41),args:=#[],argTypes:=#[]},type:=78,pos:= "entries.go:99",after:=#[],guard:=none},{dst:=some 15,op:=Fy 46 (CK 1) 1,type:=0,pos:= "entries.go:99",after:=#[],guard:=none},{dst:=some 16,op:=Hu 3 (CK 15),type:=3,pos:= "entries.go:99",after:=#[{on:=1,ground:=CN}],guard:=none},{dst:=some 17,op:=Gv 78 (CK 14) (CK 16) true,type:=77,pos:= "entries.go:99",after:=#[{on:=0,ground:=CN},{on:=2,ground:=CN}],guard:=none},{dst:=some 13,op:=Hv (CK 17),type:=77,pos:= "entries.go:99",after:=#[{on:=3,ground:=CN}],guard:=none},{dst:=some 18,op:=Eg (CK 13) 0,type:=76,pos:= "entries.go:99",after:=#[{on:=4,ground:=CN}],guard:=none},{dst:=some 19,op:=Eg (CK 13) 1,type:=4,pos:= "entries.go:99",after:=#[{on:=4,ground:=CN},{on:=8,ground:=EW Dh}],guard:=none},{dst:=some 4,op:=G2 76,type:=0,pos:= "entries.go:99",after:=#[],guard:=none},{dst:=none,op:=G3 76 (CK 4) (CK 18),type:=0,pos:= "entries.go:99",after:=#[{on:=7,ground:=CN},{on:=5,ground:=CN},{on:=0,ground:=DP},{on:=0,ground:=CD},{on:=1,ground:=CD},{on:=2,ground:=CD},{on:=3,ground:=CD},{on:=4,ground:=CD},{on:=5,ground:=CD},{on:=6,ground:=EI Dh},{on:=7,ground:=CD}],guard:=none},{dst:=some 5,op:=Gw (CK 19),type:=4,pos:= "entries.go:99",after:=#[{on:=6,ground:=CN},{on:=8,ground:=DP},{on:=0,ground:=CD},{on:=1,ground:=CD},{on:=2,ground:=CD},{on:=3,ground:=CD},{on:=4,ground:=CD},{on:=5,ground:=CD},{on:=6,ground:=CD},{on:=7,ground:=CD},{on:=8,ground:=CD}],guard:=none}] []))) (0+1+1+1)) []
 let v4:=DC [CF [Ej (CZ C1),Ej (CZ C1)],bool false]
 refine z0 [.val (int 0),.b false,.late,.call (.ref (.mp 3)) (rO e),.ov 17 (DC [CF [lit C1,lit C1],bool false]),.b true] (.c (CT (Γ':=Γq) (@hst (rP e))) (.c (show(0 != 0)=false from rfl) (.c (CT (Γ':=Γq) (@aJ (rP e))) (.c (show aU Cr (rO e) 78 (.ref (.mp 3)) (int e.kind) true=some v4 from ?_) (.e (.ref (.ptr 0 3)) (.e (.ref (.ptr 0 3)) (.e (.ref (.ptr 0 3)) (.e (int e.kind) (.e (int e.kind) (.e (int e.kind) (.c (show aU Cr v2 78 (.ref (.mp 0)) (evalD Γq v0 (CK 16)) true=some v4 from ?_) (.c (show aU Cr v2 78 (.ref (.mp 0)) (evalD Γq v0 (CK 16)) true=some v4 from ?_) (.c (show(!false)=true from rfl) .n))))))))))))) h<;>subst v1 v2 v3 v0 v4<;>(first|assumption|rfl|exact lkE2 hk _)
end Go.Vi
