/- LedgerPutSpec: part of the proof: contracts of the functions that the law reaches, and the law. No conditions beyond the given statement's own. -/
import Derived.Test.YtoincdhjcahadaaGreatDoorW2
open Decidable renaming decide → Qd
open Nat renaming lt_of_lt_of_le → E7
open Go.World renaming cell? → H7
open Array renaming getElem?_eq_none → Hb
open Go.Proofs.Tryz renaming prog → Di
open List renaming map → Dh, getElem?_cons_zero → DN
open Go.Vi.MeT renaming row → DA
open Go.Vi.GrT renaming row → Dx
open Go.Vi.BuT renaming row → Dn
open ByteArray renaming size → HI, empty → Eg
open Go.IntKind renaming i64 → Dk, wrap → Ds
open BitVec renaming ofInt → EJ, toNat → Hp
open Int renaming toNat → Dz
open Go.Vi.EntT renaming row → Dt
open Go.Vi.D renaming tup → Ew, p → EK, fn → DW, agg → Dy
open Bool renaming and_eq_true → Dr
open Go.Vi.Dp renaming v → DS
open Go.Vi.Ev renaming glob0 → DL
open Go.Fn renaming func → DB
open Go.Value renaming nilFunc → DT
open Go.Op renaming call → Ip, fieldAddr → Gu, load → Iq, lookup → Hl, move → Ir, extract → Fe, alloc → HV, store → HW, assign → Hm
open Go.Callee renaming value → F9
open Go.Operand renaming func → F5, tmp → DD
open Go.Ground renaming data → DH, gcOnly → FX, chain → EI, phase → Dv, textOnly → FN
open Go.Departure renaming lateStores → Ed
open Go Go.Proofs
namespace Go.Vi
set_option maxRecDepth 100000
set_option maxHeartbeats 4000000
theorem Ext.bump{w w':World}{l:Loc}{h:List Blk}(hs:w.heap.size≤w'.heap.size)(hk:∀k,k<w.heap.size→w'.heap[k]? = w.heap[k]?)(ht:w'.tape=w.tape∧w'.os=w.os∧w'.output=w.output∧w.drawn≤w'.drawn):Ext w l h w' l h :=
 ⟨hs,fun k hk' _=>hk k hk',fun _ ho=>.inl ho,fun _ x hx=>⟨x,hx,x.le_refl,fun _=>rfl⟩,ht⟩
theorem Rep.bump{Γ:ae}{O:Nat→Prop}{w w':World}{l:Loc}{h:List Blk}(R:Rep Γ O w l h)(hs:w.heap.size≤w'.heap.size)(hk:∀k,k<w.heap.size→w'.heap[k]? = w.heap[k]?)(ht:w'.tape=w.tape∧w'.os=w.os∧w'.output=w.output∧w.drawn≤w'.drawn):Rep Γ O w' l h where
 inb k ho:=⟨E7 (R.inb k ho).1 hs,(R.inb k ho).2⟩
 obd k ho:=E7 (R.obd k ho) hs
 inj:=R.inj
 blk b x hx:=by
  by_cases hg:x=.gone
  ·subst hg;trivial
  ·exact BlkOk.ext (Ext.bump hs hk ht) rfl (fun blk cp hl=>hk blk (R.inb blk ⟨b,x,cp,hx,hg,hl⟩).1) (R.blk b x hx)
 glo g cs hg:=by
  have E:=Ext.bump (l:=l) (h:=h) hs hk ht
  have hb:=R.glo g cs hg
  clear hg
  generalize hz:0=o at hb
  clear hz
  induction cs generalizing o with
  | nil=>trivial
  | cons c cs ih =>
   simp only[RelCells] at hb ⊢
   obtain⟨⟨h1,y,h2,h3⟩,h4⟩:=hb
   have hlt:g<w.heap.size:=by
    rcases Nat.lt_or_ge g w.heap.size with h|h
    ·exact h
    ·simp[H7,Hb h] at h2
   refine⟨⟨h1,y,?_,E.relP h3⟩,ih _ h4⟩
   rw[←h2]
   simp[H7,hk g hlt]
theorem iK(w:World)(o:Obj):(w.alloc o).heap.size=w.heap.size+1:=Array.size_push _
theorem kR(w:World)(o:Obj)(k:Nat)(hk:k<w.heap.size):(w.alloc o).heap[k]? = w.heap[k]?:=by
 show(w.heap.push o)[k]? = _
 rw[Array.getElem?_push,if_neg (Nat.ne_of_lt hk)]
namespace As
abbrev Gt:Dp:=.v (.iface 157 (.agg #[.pointer (some ⟨3,111,none⟩)]))
abbrev De(e:Int):D:=lit (.iface 127 (.agg #[.int .i64 e]))
theorem tp(w:World):Calls Di 89 #[.nilIface] w fun e w'=>e=.returned (.int .i64 0)∧w'=w.alloc (.cells #[.int .i64 0] 127):=by
 go_enter Tryz.func89,Tryz.ntmps89
 go_wp2_with (first|(go_at_call 102;refine(as_nil _ _).mono ?_;rintro e w' ⟨rfl,rfl⟩))
 go_ret
 exact⟨rfl,rfl⟩
set_option maxHeartbeats 4000000 in
theorem tq(e:Int)(w:World)(hg:w.cell? ⟨1,0,none⟩=some (.iface 157 (.agg #[.pointer (some ⟨3,111,none⟩)]))):
  Calls Di 89 #[.iface 127 (.agg #[.int .i64 e])] w fun ev w'=>ev=.returned (.int .i64 e)∧w.heap.size≤w'.heap.size∧(∀k,k<w.heap.size→w'.heap[k]? = w.heap[k]?)∧w'.tape=w.tape∧w'.os=w.os∧w'.output=w.output∧w.drawn≤w'.drawn:=by
 have hlt:1<w.heap.size:=by
  rcases Nat.lt_or_ge 1 w.heap.size with h|h
  ·exact h
  ·simp[H7,Hb h] at hg
 have hgA:(w.alloc (.cells #[.int .i64 0] 127)).cell? ⟨1,0,none⟩=some (.iface 157 (.agg #[.pointer (some ⟨3,111,none⟩)])):=by
  rw[World.cell?_alloc_lt _ _ ⟨1,0,none⟩ hlt];exact hg
 have htA:(w.alloc (.cells #[.int .i64 0] 127)).cell? ⟨w.heap.size,0,none⟩=some (.int .i64 0):=by simp
 have hfA:(w.alloc (.cells #[.int .i64 0] 127)).frozen? ⟨w.heap.size,0,none⟩=false:=by simp
 go_enter Tryz.func89,Tryz.ntmps89
 go_wp2_with (first|(go_at_call 102;refine(as_hit e _ _ _ hgA htA hfA).mono ?_;rintro e w' ⟨rfl,rfl⟩))
 go_ret
 refine⟨rfl,?_,fun k hk=>?_,rfl,rfl,rfl,Nat.le_refl _⟩
 ·simp only[iK];omega
 ·iterate 4 rw[kR _ _ k (by simp only[iK];omega)]
  exact kR _ _ k hk
theorem code_hit{Γ:ae}(hΓ:Γ 1=some [Gt])(e:Int)(h:List Blk):Ev Di Γ 89 [De e] h (int e) h:=by
 intro O w l vs R ra
 obtain⟨y,rfl⟩:∃y,vs=[y]:=by
  match vs,ra with
  | [y],_=>exact⟨y,rfl⟩
  | [],r=>simp[RelL] at r
  | _::_::_,r=>simp[RelL] at r
 have r:=ra.1
 simp only[Rel,RelP] at r
 subst r
 have hg:=(R.glo 1 _ hΓ).1.2
 obtain⟨y,hy,ry⟩:=hg
 simp only[RelP] at ry
 subst ry
 refine callsIn_wide.2 (Calls.mono (tq e w hy) ?_)
 rintro ev w' ⟨rfl,hs,hk,ht⟩
 exact⟨_,int e,h,l,rfl,⟨rfl,rfl⟩,R.bump hs hk ht,Ext.bump hs hk ht,by simp[Rel,RelP]⟩
theorem code_nil{Γ:ae}(h:List Blk):Ev Di Γ 89 [lit .nilIface] h (int 0) h:=by
 intro O w l vs R ra
 obtain⟨y,rfl⟩:∃y,vs=[y]:=by
  match vs,ra with
  | [y],_=>exact⟨y,rfl⟩
  | [],r=>simp[RelL] at r
  | _::_::_,r=>simp[RelL] at r
 have r:=ra.1
 simp only[Rel,RelP] at r
 subst r
 refine callsIn_wide.2 (Calls.mono (tp w) ?_)
 rintro ev w' ⟨rfl,rfl⟩
 have hs:w.heap.size≤(w.alloc (.cells #[.int .i64 0] 127)).heap.size:=by rw[iK];omega
 have hk:∀k,k<w.heap.size→(w.alloc (.cells #[.int .i64 0] 127)).heap[k]? = w.heap[k]?:=fun k hk=>kR _ _ k hk
 have ht:(w.alloc (.cells #[.int .i64 0] 127)).tape=w.tape∧(w.alloc (.cells #[.int .i64 0] 127)).os=w.os∧(w.alloc (.cells #[.int .i64 0] 127)).output=w.output∧w.drawn≤(w.alloc (.cells #[.int .i64 0] 127)).drawn:=⟨rfl,rfl,rfl,Nat.le_refl _⟩
 exact⟨_,int 0,h,l,rfl,⟨rfl,rfl⟩,R.bump hs hk ht,Ext.bump hs hk ht,by simp[Rel,RelP]⟩
end As
set_option maxHeartbeats 4000000
set_option maxRecDepth 100000
def catB(e:EntT):Bool:=a6 e.frm e.til&&Qd ((e.text.size:Int)≤65536)
noncomputable abbrev pz(e:EntT):List Blk:=[.var [int e.time,int e.campus,int e.no,int e.kind,int e.stu,int e.obj,int e.term,int e.val,int e.frm,int e.til,ax e.text,int e.sec.id,int e.sec.course,int e.sec.term,int e.sec.campus,int e.sec.seats,aa (Dh DA e.sec.mts),aa (Dh Dx e.sec.grs),aa (Dh ab e.sec.labs),bool e.sec.lab,int e.req.campus,int e.req.no,int e.req.st,int e.req.kind,int e.req.time,aa (Dh Dn e.req.chs),int e.req.gsec,int e.req.glab,int e.req.key,int e.r,int e.s]]
theorem cat_ev{e:EntT}(h:List Blk):(Ev Di Γ0 57 [ag e.row] h (int (mustR (catB e))) h):=by
 exact zD (int (mustR (a6 e.frm e.til&&Qd ((↑(HI e.text):Int)≤65536)))) [.val (bool (a6 e.frm e.til)),.val (int (mustR (a6 e.frm e.til&&Qd ((↑(HI e.text):Int)≤65536))))] (.c (@fS (e.frm) (e.til) (pz e)) (.c (@dY (a6 e.frm e.til&&Qd ((↑(HI e.text):Int)≤65536)) (pz e)) .n)) h (by first|rfl|(simp only[catB,];first|done|rfl))
def xI(n:Int):Int:=Dk.wrap ((EJ Dk.bits n &&& EJ Dk.bits 15).toNat)
def shr4(n:Int):Int:=n.fdiv (2 ^ (min (4:Int).toNat Dk.bits))
def pA(e:EntT):Bool:=e.val == -1||Qd (e.val≥0)&&Qd (xI e.val≤12)&&Qd (shr4 e.val<7)
noncomputable abbrev dg(e:EntT):List Blk:=[.var [int e.time,int e.campus,int e.no,int e.kind,int e.stu,int e.obj,int e.term,int e.val,int e.frm,int e.til,ax e.text,int e.sec.id,int e.sec.course,int e.sec.term,int e.sec.campus,int e.sec.seats,aa (Dh DA e.sec.mts),aa (Dh Dx e.sec.grs),aa (Dh ab e.sec.labs),bool e.sec.lab,int e.req.campus,int e.req.no,int e.req.st,int e.req.kind,int e.req.time,aa (Dh Dn e.req.chs),int e.req.gsec,int e.req.glab,int e.req.key,int e.r,int e.s]]
theorem vC{e:EntT}(h:List Blk):(Ev Di Γ0 60 [ag e.row] h (int (mustR (inS e.stu 0 19999&&inS e.term 0 1023&&inS e.obj 0 4095&&pA e))) h):=by
 exact zD (int (mustR (inS e.stu 0 19999&&inS e.term 0 1023&&inS e.obj 0 4095&&(e.val == -1||Qd (e.val≥0)&&Qd (Ds Dk (↑(Hp (EJ 64 e.val &&& EJ 64 15)):Int)≤12)&&Qd (Int.fdiv e.val (2 ^ min (Dz 4) 64)<7))))) [.val (bool (inS e.stu 0 19999)),.val (bool (inS e.term 0 1023)),.val (bool (inS e.obj 0 4095)),.val (int (mustR (inS e.stu 0 19999&&inS e.term 0 1023&&inS e.obj 0 4095&&(e.val == -1||Qd (e.val≥0)&&Qd (Ds Dk (↑(Hp (EJ 64 e.val &&& EJ 64 15)):Int)≤12)&&Qd (Int.fdiv e.val (2 ^ min (Dz 4) 64)<7)))))] (.c (show(!e.val == -1&&(Qd (e.val≥0)&&Qd (Ds Dk (↑(Hp (EJ 64 e.val &&& EJ 64 15)):Int)≤12)))=true→Qd (0≤4)=true from(fun hg=>rfl)) (.c (@kM e (dg e)) (.c (gd (inS e.stu 0 19999) (@zm e (dg e))) (.c (gd (inS e.stu 0 19999&&inS e.term 0 1023) (@de (e.obj) 0 4095 (dg e))) (.c (@dY (inS e.stu 0 19999&&inS e.term 0 1023&&inS e.obj 0 4095&&(e.val == -1||Qd (e.val≥0)&&Qd (Ds Dk (↑(Hp (EJ 64 e.val &&& EJ 64 15)):Int)≤12)&&Qd (Int.fdiv e.val (2 ^ min (Dz 4) 64)<7))) (dg e)) .n))))) h (by first|rfl|(simp only[pA,xI,shr4,];first|done|rfl))
def Bc(e:EntT):Bool:=inS e.stu 0 19999&&a6 e.frm e.til&&inS e.obj 0 7&&(e.val==1||e.val == -1)
noncomputable abbrev dh(e:EntT):List Blk:=[.var [int e.time,int e.campus,int e.no,int e.kind,int e.stu,int e.obj,int e.term,int e.val,int e.frm,int e.til,ax e.text,int e.sec.id,int e.sec.course,int e.sec.term,int e.sec.campus,int e.sec.seats,aa (Dh DA e.sec.mts),aa (Dh Dx e.sec.grs),aa (Dh ab e.sec.labs),bool e.sec.lab,int e.req.campus,int e.req.no,int e.req.st,int e.req.kind,int e.req.time,aa (Dh Dn e.req.chs),int e.req.gsec,int e.req.glab,int e.req.key,int e.r,int e.s]]
theorem pB{e:EntT}(h:List Blk):(Ev Di Γ0 61 [ag e.row] h (int (mustR (Bc e))) h):=by
 exact zD (int (mustR (inS e.stu 0 19999&&a6 e.frm e.til&&inS e.obj 0 7&&(e.val==1||e.val == -1)))) [.val (bool (inS e.stu 0 19999)),.val (bool (a6 e.frm e.til)),.val (bool (inS e.obj 0 7)),.val (int (mustR (inS e.stu 0 19999&&a6 e.frm e.til&&inS e.obj 0 7&&(e.val==1||e.val == -1))))] (.c (@kM e (dh e)) (.c (gd (inS e.stu 0 19999) (@fS (e.frm) (e.til) (dh e))) (.c (gd (inS e.stu 0 19999&&a6 e.frm e.til) (@de (e.obj) 0 7 (dh e))) (.c (@dY (inS e.stu 0 19999&&a6 e.frm e.til&&inS e.obj 0 7&&(e.val==1||e.val == -1)) (dh e)) .n)))) h (by first|rfl|(simp only[Bc,];first|done|rfl))
noncomputable abbrev qz(e:EntT):List Blk:=[.var [int e.time,int e.campus,int e.no,int e.kind,int e.stu,int e.obj,int e.term,int e.val,int e.frm,int e.til,ax e.text,int e.sec.id,int e.sec.course,int e.sec.term,int e.sec.campus,int e.sec.seats,aa (Dh DA e.sec.mts),aa (Dh Dx e.sec.grs),aa (Dh ab e.sec.labs),bool e.sec.lab,int e.req.campus,int e.req.no,int e.req.st,int e.req.kind,int e.req.time,aa (Dh Dn e.req.chs),int e.req.gsec,int e.req.glab,int e.req.key,int e.r,int e.s]]
theorem xJ{e:EntT}(h:List Blk):(Ev Di Γ0 70 [ag e.row] h (int (ef ⟨e.val,e.stu,e.obj,e.term⟩)) h):=by
 exact z0 [.val (int (ef {kind:=e.val,st:=e.stu,obj:=e.obj,term:=e.term}))] (.c (@vu ({kind:=e.val,st:=e.stu,obj:=e.obj,term:=e.term}) (qz e)) .n) h
noncomputable abbrev mt(e:EntT):List Blk:=[.var [int e.time,int e.campus,int e.no,int e.kind,int e.stu,int e.obj,int e.term,int e.val,int e.frm,int e.til,ax e.text,int e.sec.id,int e.sec.course,int e.sec.term,int e.sec.campus,int e.sec.seats,aa (Dh DA e.sec.mts),aa (Dh Dx e.sec.grs),aa (Dh ab e.sec.labs),bool e.sec.lab,int e.req.campus,int e.req.no,int e.req.st,int e.req.kind,int e.req.time,aa (Dh Dn e.req.chs),int e.req.gsec,int e.req.glab,int e.req.key,int e.r,int e.s]]
theorem Bd{e:EntT}(h:List Blk):(Ev Di Γ0 72 [ag e.row] h (int (mustR (inS e.term 0 1023))) h):=by
 exact z0 [.val (bool (inS e.term 0 1023)),.val (int (mustR (inS e.term 0 1023)))] (.c (@zm e (mt e)) (.c (@dY (inS e.term 0 1023) (mt e)) .n)) h
def xK(m:Int)(e:EntT):Bool:=inS e.stu 0 19999&&a6 e.frm e.til&&inS e.obj 0 m&&(e.val == -1||inS e.val 1 1099511627776)
noncomputable abbrev dE(e:EntT):List Blk:=[.var [int e.time,int e.campus,int e.no,int e.kind,int e.stu,int e.obj,int 7,int e.val,int e.frm,int e.til,ax e.text,int e.sec.id,int e.sec.course,int e.sec.term,int e.sec.campus,int e.sec.seats,aa (Dh DA e.sec.mts),aa (Dh Dx e.sec.grs),aa (Dh ab e.sec.labs),bool e.sec.lab,int e.req.campus,int e.req.no,int e.req.st,int e.req.kind,int e.req.time,aa (Dh Dn e.req.chs),int e.req.gsec,int e.req.glab,int e.req.key,int e.r,int e.s],.map [(int 7,int 4095,0),(int 9,int 4095,1),(int 8,int 3999,2),(int 10,int 0,3)] 4]
theorem Be{e:EntT}(h:List Blk):(Ev Di Γ0 63 [ag (Dt {e with term:=7})] h (int (mustR (xK 4095 e))) h):=by
 exact zD (int (mustR (true&&inS e.stu 0 19999&&a6 e.frm e.til&&inS e.obj 0 4095&&(e.val == -1||inS e.val 1 1099511627776)))) [.val (bool (inS e.stu 0 19999)),.val (bool (a6 e.frm e.til)),.val (bool (inS e.obj 0 4095)),.val (bool (inS e.val 1 1099511627776)),.val (int (mustR (true&&inS e.stu 0 19999&&a6 e.frm e.til&&inS e.obj 0 4095&&(e.val == -1||inS e.val 1 1099511627776))))] (.c (gd true (@kM ({time:=e.time,campus:=e.campus,no:=e.no,kind:=e.kind,stu:=e.stu,obj:=e.obj,term:=7,val:=e.val,frm:=e.frm,til:=e.til,text:=e.text,sec:=e.sec,req:=e.req,r:=e.r,s:=e.s}) (dE e))) (.c (gd (true&&inS e.stu 0 19999) (@fS (e.frm) (e.til) (dE e))) (.c (gd (true&&inS e.stu 0 19999&&a6 e.frm e.til) (@de (e.obj) 0 4095 (dE e))) (.c (gd (true&&inS e.stu 0 19999&&a6 e.frm e.til&&inS e.obj 0 4095&&!e.val == -1) (@de (e.val) 1 1099511627776 (dE e))) (.c (@dY (true&&inS e.stu 0 19999&&a6 e.frm e.til&&inS e.obj 0 4095&&(e.val == -1||inS e.val 1 1099511627776)) (dE e)) .n))))) h (by first|rfl|(simp only[xK,];first|done|rfl))
noncomputable abbrev dF(e:EntT):List Blk:=[.var [int e.time,int e.campus,int e.no,int e.kind,int e.stu,int e.obj,int 9,int e.val,int e.frm,int e.til,ax e.text,int e.sec.id,int e.sec.course,int e.sec.term,int e.sec.campus,int e.sec.seats,aa (Dh DA e.sec.mts),aa (Dh Dx e.sec.grs),aa (Dh ab e.sec.labs),bool e.sec.lab,int e.req.campus,int e.req.no,int e.req.st,int e.req.kind,int e.req.time,aa (Dh Dn e.req.chs),int e.req.gsec,int e.req.glab,int e.req.key,int e.r,int e.s],.map [(int 7,int 4095,0),(int 9,int 4095,1),(int 8,int 3999,2),(int 10,int 0,3)] 4]
theorem Bf{e:EntT}(h:List Blk):(Ev Di Γ0 63 [ag (Dt {e with term:=9})] h (int (mustR (xK 4095 e))) h):=by
 exact zD (int (mustR (true&&inS e.stu 0 19999&&a6 e.frm e.til&&inS e.obj 0 4095&&(e.val == -1||inS e.val 1 1099511627776)))) [.val (bool (inS e.stu 0 19999)),.val (bool (a6 e.frm e.til)),.val (bool (inS e.obj 0 4095)),.val (bool (inS e.val 1 1099511627776)),.val (int (mustR (true&&inS e.stu 0 19999&&a6 e.frm e.til&&inS e.obj 0 4095&&(e.val == -1||inS e.val 1 1099511627776))))] (.c (gd true (@kM ({time:=e.time,campus:=e.campus,no:=e.no,kind:=e.kind,stu:=e.stu,obj:=e.obj,term:=9,val:=e.val,frm:=e.frm,til:=e.til,text:=e.text,sec:=e.sec,req:=e.req,r:=e.r,s:=e.s}) (dF e))) (.c (gd (true&&inS e.stu 0 19999) (@fS (e.frm) (e.til) (dF e))) (.c (gd (true&&inS e.stu 0 19999&&a6 e.frm e.til) (@de (e.obj) 0 4095 (dF e))) (.c (gd (true&&inS e.stu 0 19999&&a6 e.frm e.til&&inS e.obj 0 4095&&!e.val == -1) (@de (e.val) 1 1099511627776 (dF e))) (.c (@dY (true&&inS e.stu 0 19999&&a6 e.frm e.til&&inS e.obj 0 4095&&(e.val == -1||inS e.val 1 1099511627776)) (dF e)) .n))))) h (by first|rfl|(simp only[xK,];first|done|rfl))
noncomputable abbrev dG(e:EntT):List Blk:=[.var [int e.time,int e.campus,int e.no,int e.kind,int e.stu,int e.obj,int 8,int e.val,int e.frm,int e.til,ax e.text,int e.sec.id,int e.sec.course,int e.sec.term,int e.sec.campus,int e.sec.seats,aa (Dh DA e.sec.mts),aa (Dh Dx e.sec.grs),aa (Dh ab e.sec.labs),bool e.sec.lab,int e.req.campus,int e.req.no,int e.req.st,int e.req.kind,int e.req.time,aa (Dh Dn e.req.chs),int e.req.gsec,int e.req.glab,int e.req.key,int e.r,int e.s],.map [(int 7,int 4095,0),(int 9,int 4095,1),(int 8,int 3999,2),(int 10,int 0,3)] 4]
theorem Bg{e:EntT}(h:List Blk):(Ev Di Γ0 63 [ag (Dt {e with term:=8})] h (int (mustR (xK 3999 e))) h):=by
 exact zD (int (mustR (true&&inS e.stu 0 19999&&a6 e.frm e.til&&inS e.obj 0 3999&&(e.val == -1||inS e.val 1 1099511627776)))) [.val (bool (inS e.stu 0 19999)),.val (bool (a6 e.frm e.til)),.val (bool (inS e.obj 0 3999)),.val (bool (inS e.val 1 1099511627776)),.val (int (mustR (true&&inS e.stu 0 19999&&a6 e.frm e.til&&inS e.obj 0 3999&&(e.val == -1||inS e.val 1 1099511627776))))] (.c (gd true (@kM ({time:=e.time,campus:=e.campus,no:=e.no,kind:=e.kind,stu:=e.stu,obj:=e.obj,term:=8,val:=e.val,frm:=e.frm,til:=e.til,text:=e.text,sec:=e.sec,req:=e.req,r:=e.r,s:=e.s}) (dG e))) (.c (gd (true&&inS e.stu 0 19999) (@fS (e.frm) (e.til) (dG e))) (.c (gd (true&&inS e.stu 0 19999&&a6 e.frm e.til) (@de (e.obj) 0 3999 (dG e))) (.c (gd (true&&inS e.stu 0 19999&&a6 e.frm e.til&&inS e.obj 0 3999&&!e.val == -1) (@de (e.val) 1 1099511627776 (dG e))) (.c (@dY (true&&inS e.stu 0 19999&&a6 e.frm e.til&&inS e.obj 0 3999&&(e.val == -1||inS e.val 1 1099511627776)) (dG e)) .n))))) h (by first|rfl|(simp only[xK,];first|done|rfl))
noncomputable abbrev c6(e:EntT):List Blk:=[.var [int e.time,int e.campus,int e.no,int e.kind,int e.stu,int e.obj,int 10,int e.val,int e.frm,int e.til,ax e.text,int e.sec.id,int e.sec.course,int e.sec.term,int e.sec.campus,int e.sec.seats,aa (Dh DA e.sec.mts),aa (Dh Dx e.sec.grs),aa (Dh ab e.sec.labs),bool e.sec.lab,int e.req.campus,int e.req.no,int e.req.st,int e.req.kind,int e.req.time,aa (Dh Dn e.req.chs),int e.req.gsec,int e.req.glab,int e.req.key,int e.r,int e.s],.map [(int 7,int 4095,0),(int 9,int 4095,1),(int 8,int 3999,2),(int 10,int 0,3)] 4]
theorem xL{e:EntT}(h:List Blk):(Ev Di Γ0 63 [ag (Dt {e with term:=10})] h (int (mustR (xK 0 e))) h):=by
 exact zD (int (mustR (true&&inS e.stu 0 19999&&a6 e.frm e.til&&inS e.obj 0 0&&(e.val == -1||inS e.val 1 1099511627776)))) [.val (bool (inS e.stu 0 19999)),.val (bool (a6 e.frm e.til)),.val (bool (inS e.obj 0 0)),.val (bool (inS e.val 1 1099511627776)),.val (int (mustR (true&&inS e.stu 0 19999&&a6 e.frm e.til&&inS e.obj 0 0&&(e.val == -1||inS e.val 1 1099511627776))))] (.c (gd true (@kM ({time:=e.time,campus:=e.campus,no:=e.no,kind:=e.kind,stu:=e.stu,obj:=e.obj,term:=10,val:=e.val,frm:=e.frm,til:=e.til,text:=e.text,sec:=e.sec,req:=e.req,r:=e.r,s:=e.s}) (c6 e))) (.c (gd (true&&inS e.stu 0 19999) (@fS (e.frm) (e.til) (c6 e))) (.c (gd (true&&inS e.stu 0 19999&&a6 e.frm e.til) (@de (e.obj) 0 0 (c6 e))) (.c (gd (true&&inS e.stu 0 19999&&a6 e.frm e.til&&inS e.obj 0 0&&!e.val == -1) (@de (e.val) 1 1099511627776 (c6 e))) (.c (@dY (true&&inS e.stu 0 19999&&a6 e.frm e.til&&inS e.obj 0 0&&(e.val == -1||inS e.val 1 1099511627776)) (c6 e)) .n))))) h (by first|rfl|(simp only[xK,];first|done|rfl))
theorem lkP2{k:Int}(h1:¬k=7)(h2:¬k=9)(h3:¬k=8)(h4:¬k=10):zl Di 108 [(int 7,int 4095,0),(int 9,int 4095,1),(int 8,int 3999,2),(int 10,int 0,3)] (int k) true (.tup [int 0,bool false]):=by
 have e1:Di.underlying 108=some (.map 3 3):=by kernel_rfl
 have e2:cy Di 3 (int k)=true:=by kernel_rfl
 have e3:ge Di 3=some (.int .i64 0):=by kernel_rfl
 have e4:bO (int k) [(int 7,int 4095,0),(int 9,int 4095,1),(int 8,int 3999,2),(int 10,int 0,3)] 0=some none:=by
  have n1:bf (int k) (int 7)=some false:=by simp[bf,h1]
  have n2:bf (int k) (int 9)=some false:=by simp[bf,h2]
  have n3:bf (int k) (int 8)=some false:=by simp[bf,h3]
  have n4:bf (int k) (int 10)=some false:=by simp[bf,h4]
  simp only[bO,n1,n2,n3,n4]
 unfold zl aR
 simp only[e1,je,DN,e2,if_true,e3,e4]
 rfl
theorem lkP{h:List Blk}{b:Nat}{k:Int}(h1:¬k=7)(h2:¬k=9)(h3:¬k=8)(h4:¬k=10)(hb:h[b]? = some (.map [(int 7,int 4095,0),(int 9,int 4095,1),(int 8,int 3999,2),(int 10,int 0,3)] 4)):aR Di h 108 (.ref (.mp b)) (int k) true=some (.tup [int 0,bool false]):=by
 have e1:Di.underlying 108=some (.map 3 3):=by kernel_rfl
 have e2:cy Di 3 (int k)=true:=by kernel_rfl
 have e3:ge Di 3=some (.int .i64 0):=by kernel_rfl
 have e4:bO (int k) [(int 7,int 4095,0),(int 9,int 4095,1),(int 8,int 3999,2),(int 10,int 0,3)] 0=some none:=by
  have n1:bf (int k) (int 7)=some false:=by simp[bf,h1]
  have n2:bf (int k) (int 9)=some false:=by simp[bf,h2]
  have n3:bf (int k) (int 8)=some false:=by simp[bf,h3]
  have n4:bf (int k) (int 10)=some false:=by simp[bf,h4]
  simp only[bO,n1,n2,n3,n4]
 unfold aR
 simp only[e1,je,hb,e2,if_true,e3,e4]
 rfl
noncomputable abbrev dH(e:EntT):List Blk:=[.var [int e.time,int e.campus,int e.no,int e.kind,int e.stu,int e.obj,int e.term,int e.val,int e.frm,int e.til,ax e.text,int e.sec.id,int e.sec.course,int e.sec.term,int e.sec.campus,int e.sec.seats,aa (Dh DA e.sec.mts),aa (Dh Dx e.sec.grs),aa (Dh ab e.sec.labs),bool e.sec.lab,int e.req.campus,int e.req.no,int e.req.st,int e.req.kind,int e.req.time,aa (Dh Dn e.req.chs),int e.req.gsec,int e.req.glab,int e.req.key,int e.r,int e.s],.map [(int 7,int 4095,0),(int 9,int 4095,1),(int 8,int 3999,2),(int 10,int 0,3)] 4]
theorem petN_a{e:EntT}(h1:¬e.term=7)(h2:¬e.term=9)(h3:¬e.term=8)(h4:¬e.term=10)(h:List Blk):(Ev Di Γ0 63 [ag e.row] h (int 370) h):=by
 exact z0 [.ov 10 (Ew [int 0,bool false]),.val (bool (inS e.stu 0 19999)),.val (bool (a6 e.frm e.til)),.val (bool (inS e.obj 0 0)),.val (bool (inS e.val 1 1099511627776)),.val (int (mustR (false&&inS e.stu 0 19999&&a6 e.frm e.til&&inS e.obj 0 0&&(e.val == -1||inS e.val 1 1099511627776))))] (.c (show aR Di (dH e) 108 (.ref (.mp 1)) (int e.term) true=some (Ew [int 0,bool false]) from(by first|assumption|rfl|exact lkP h1 h2 h3 h4 rfl|exact lkP2 h1 h2 h3 h4)) (.c (gd false (@kM e (dH e))) (.c (gd (false&&inS e.stu 0 19999) (@fS (e.frm) (e.til) (dH e))) (.c (gd (false&&inS e.stu 0 19999&&a6 e.frm e.til) (@de (e.obj) 0 0 (dH e))) (.c (gd (false&&inS e.stu 0 19999&&a6 e.frm e.til&&inS e.obj 0 0&&!e.val == -1) (@de (e.val) 1 1099511627776 (dH e))) (.c (@dY (false&&inS e.stu 0 19999&&a6 e.frm e.til&&inS e.obj 0 0&&(e.val == -1||inS e.val 1 1099511627776)) (dH e)) .n)))))) h
def Bh(t:Int):Option Int:=if t=7 then some 4095 else if t=9 then some 4095 else if t=8 then some 3999 else if t=10 then some 0 else none
def petR(e:EntT):Int:=match Bh e.term with
 | none=>370
 | some m=>mustR (xK m e)
theorem pet_ev{e:EntT}(h:List Blk):Ev Di Γ0 63 [ag e.row] h (int (petR e)) h:=by
 unfold petR Bh
 by_cases h1:e.term=7
 ·have he:e={e with term:=7}:=by cases e;simp at h1;subst h1;rfl
  rw[if_pos h1]
  have:=Be (e:=e) h
  rw[←he] at this
  exact this
 ·rw[if_neg h1]
  by_cases h2:e.term=9
  ·have he:e={e with term:=9}:=by cases e;simp at h2;subst h2;rfl
   rw[if_pos h2]
   have:=Bf (e:=e) h
   rw[←he] at this
   exact this
  ·rw[if_neg h2]
   by_cases h3:e.term=8
   ·have he:e={e with term:=8}:=by cases e;simp at h3;subst h3;rfl
    rw[if_pos h3]
    have:=Bg (e:=e) h
    rw[←he] at this
    exact this
   ·rw[if_neg h3]
    by_cases h4:e.term=10
    ·have he:e={e with term:=10}:=by cases e;simp at h4;subst h4;rfl
     rw[if_pos h4]
     have:=xL (e:=e) h
     rw[←he] at this
     exact this
    ·rw[if_neg h4]
     exact petN_a h1 h2 h3 h4 h
def rqHd(k:Int)(r:RqT):Bool:=Qd (r.campus<0)||Qd (r.campus≥7)||Qd (r.no<1)||Qd (r.no>1048576)||Qd (r.st<0)||Qd (r.st≥20000)||Qd (r.time<1)||Qd (r.time>1048576)||Qd (k<1)||Qd (k>5)
def sa(a b:Int)(r:RqT):Bool:=Qd (((r.chs.map Dn).length:Int)≥a)&&Qd (((r.chs.map Dn).length:Int)≤b)&&pQ [] r.chs
def rq2R(r:RqT):Int:=match sa 0 0 r with
 | true=>Dc r (buB ⟨r.gsec,r.glab⟩)
 | false=>290
def rq3R(r:RqT):Int:=match sa 1 1 r with
 | true=>Dd r (buB ⟨r.gsec,r.glab⟩) (r.chs.headD ⟨0,0⟩)
 | false=>290
def kS(r:RqT):Int:=match rqHd r.kind r with
 | true=>290
 | false=>if r.kind=1 then rqR1 r (sa 1 8 r) else if r.kind=2 then rq2R r else if r.kind=3 then rq3R r else if r.kind=4 then rqR4 r (sa 1 1 r) else rqR5 r (sa 1 1 r)
theorem tt{r:RqT}(hc:ai r.chs)(h:List Blk):Ev Di Γq 69 [ag r.row] h (int (kS r)) h:=by
 unfold kS
 cases hh:rqHd r.kind r with
 | true=>exact A6 hh h
 | false =>
  simp only
  have hgv:∀h,Ev Di Γ0 91 [.agg [int r.gsec,int r.glab]] h (bool (buB ⟨r.gsec,r.glab⟩)) h:=fun h=>gR (b:=⟨r.gsec,r.glab⟩) h
  have hk:r.kind=1∨r.kind=2∨r.kind=3∨r.kind=4∨r.kind=5:=by
   simp[rqHd] at hh
   omega
  have hrow:ag r.row=.agg (rqD r.kind r):=rfl
  rw[hrow]
  rcases hk with hk|hk|hk|hk|hk
  ·rw[hk] at hh ⊢
   rw[if_pos rfl]
   exact rq1_a hh (kQ hc _) h
  ·rw[hk] at hh ⊢
   rw[if_neg (by decide),if_pos rfl]
   have hl:=kQ (k:=2) (r:=r) (a:=0) (b:=0) (g:=true) (kk:=false) (n:=((r.chs.map Dn).length:Int)) hc (Qd (((r.chs.map Dn).length:Int)≥0)&&Qd (((r.chs.map Dn).length:Int)≤0))
   unfold rq2R
   cases ht:sa 0 0 r with
   | true =>
    have hn:(((r.chs.map Dn).length:Int)==0)=true:=by
     simp only[sa,Dr,decide_eq_true_eq] at ht
     simp only[beq_iff_eq]
     omega
    exact rq2_t hh (ht▸hl) hgv hn h
   | false=>exact rq2_f hh (ht▸hl) h
  ·rw[hk] at hh ⊢
   rw[if_neg (by decide),if_neg (by decide),if_pos rfl]
   have hl:=kQ (k:=3) (r:=r) (a:=1) (b:=1) (g:=true) (kk:=false) (n:=((r.chs.map Dn).length:Int)) hc (Qd (((r.chs.map Dn).length:Int)≥1)&&Qd (((r.chs.map Dn).length:Int)≤1))
   unfold rq3R
   cases ht:sa 1 1 r with
   | true =>
    have hn:((r.chs.map Dn).length:Int)≥1:=by
     simp only[sa,Dr,decide_eq_true_eq] at ht
     omega
    have hne:(((r.chs.map Dn).length:Int)==0)=false:=by
     simp only[beq_eq_false_iff_ne,ne_eq]
     omega
    cases hch:r.chs with
    | nil=>rw[hch] at hn;simp at hn
    | cons c l =>
     have hR:ad 0 (r.chs.map Dn) c.row 2:=rowAt (n:=0) (by rw[hch];rfl) rfl
     have:=rq3_t hh (ht▸hl) hgv hne hR h
     simpa only [List.headD_cons] using this
   | false=>exact rq3_f hh (ht▸hl) h
  ·rw[hk] at hh ⊢
   rw[if_neg (by decide),if_neg (by decide),if_neg (by decide),if_pos rfl]
   exact rq4_a hh (kQ hc _) h
  ·rw[hk] at hh ⊢
   rw[if_neg (by decide),if_neg (by decide),if_neg (by decide),if_neg (by decide)]
   exact rq5_a hh (kQ hc _) h
open As (De)
theorem Bi(e:Int)(h:List Blk):Ev Di Γq 89 [De e] h (int e) h:=As.code_hit rfl e h
theorem xM(h:List Blk):Ev Di Γq 89 [lit .nilIface] h (int 0) h:=As.code_nil h
noncomputable abbrev vD(s:SecT):List Blk:=[.var [int s.id,int s.course,int s.term,int s.campus,int s.seats,aa (Dh DA s.mts),aa (Dh Dx s.grs),aa (Dh ab s.labs),bool s.lab]]
theorem sk_bad{s:SecT}(hgr:ai s.grs)(hi:ai s.labs)(hb:qy s=false)(h:List Blk):(Ev Di Γ0 90 [ag s.row] h (De 230) h):=by
 exact z0 [.val (bool (qy s)),.b true] (.c (@iJ s hgr hi (vD s)) (.c (show(!qy s)=true from(by rw[hb]<;>rfl)) .n)) h
noncomputable abbrev sc(s:SecT):List Blk:=[.var [int s.id,int s.course,int s.term,int s.campus,int s.seats,aa (Dh DA s.mts),aa (Dh Dx s.grs),aa (Dh ab s.labs),bool s.lab]]
theorem sk_me{s:SecT}(hgr:ai s.grs)(hi:ai s.labs)(hb:qy s=true)(hm:(fV s.mts != 0)=true)(h:List Blk):(Ev Di Γ0 90 [ag s.row] h (De (fV s.mts)) h):=by
 exact z0 [.val (bool (qy s)),.b false,.val (int (fV s.mts)),.b true] (.c (@iJ s hgr hi (sc s)) (.c (show(!qy s)=false from(by rw[hb]<;>rfl)) (.c (@vg (s.mts) (sc s)) (.c hm .n)))) h
noncomputable abbrev sd(s:SecT):List Blk:=[.var [int s.id,int s.course,int s.term,int s.campus,int s.seats,aa (Dh DA s.mts),aa (Dh Dx s.grs),aa (Dh ab s.labs),bool s.lab]]
theorem sk_ok{s:SecT}(hgr:ai s.grs)(hi:ai s.labs)(hb:qy s=true)(hm:(fV s.mts != 0)=false)(h:List Blk):(Ev Di Γ0 90 [ag s.row] h (lit .nilIface) h):=by
 exact z0 [.val (bool (qy s)),.b false,.val (int (fV s.mts)),.b false] (.c (@iJ s hgr hi (sd s)) (.c (show(!qy s)=false from(by rw[hb]<;>rfl)) (.c (@vg (s.mts) (sd s)) (.c hm .n)))) h
noncomputable abbrev vF(s:SecT):List Blk:=[.var [int s.id,int s.course,int s.term,int s.campus,int s.seats,aa (Dh DA s.mts),aa (Dh Dx s.grs),aa (Dh ab s.labs),bool s.lab]]
theorem sc_e{s:SecT}{e:Int}(hk:∀h,Ev Di Γ0 90 [ag s.row] h (De e) h)(h:List Blk):(Ev Di Γq 66 [ag s.row] h (int e) h):=by
 exact z0 [.val (EK (DS (Value.iface 127 (Value.agg {toList:=[Value.int Dk e]})))),.val (int e)] (.c (DL (Γ':=Γq) (@hk (vF s))) (.c (@Bi e (vF s)) .n)) h
noncomputable abbrev vG(s:SecT):List Blk:=[.var [int s.id,int s.course,int s.term,int s.campus,int s.seats,aa (Dh DA s.mts),aa (Dh Dx s.grs),aa (Dh ab s.labs),bool s.lab]]
theorem sc_n{s:SecT}(hk:∀h,Ev Di Γ0 90 [ag s.row] h (lit .nilIface) h)(h:List Blk):(Ev Di Γq 66 [ag s.row] h (int 0) h):=by
 exact z0 [.val (EK (DS Value.nilIface)),.val (int 0)] (.c (DL (Γ':=Γq) (@hk (vG s))) (.c (@xM (vG s)) .n)) h
def kT(s:SecT):Int:=match qy s with
 | false=>230
 | true=>fV s.mts
theorem qA{s:SecT}(hgr:ai s.grs)(hi:ai s.labs)(h:List Blk):Ev Di Γq 66 [ag s.row] h (int (kT s)) h:=by
 unfold kT
 cases hb:qy s with
 | false=>exact sc_e (fun h=>sk_bad hgr hi hb h) h
 | true =>
  cases hm:(fV s.mts != 0) with
  | true=>exact sc_e (fun h=>sk_me hgr hi hb hm h) h
  | false =>
   have h0:fV s.mts=0:=by simpa using hm
   rw[h0]
   exact sc_n (fun h=>sk_ok hgr hi hb hm h) h
abbrev kfn(k b:Nat):D:=.fn (.func k) [] [.ref (.ptr b 0)]
abbrev ekM:List Blk:=[.var [fq 53],.var [kfn 55 0],.map [(int 1,.agg [fq 56,fq 57],0),(int 2,.agg [kfn 54 0,fq 60],1),(int 3,.agg [kfn 55 0,fq 61],2),(int 4,.agg [kfn 62 1,fq 63],3),(int 5,.agg [kfn 55 0,fq 61],4),(int 6,.agg [fq 64,fq 65],5),(int 7,.agg [fq 67,fq 68],6),(int 8,.agg [kfn 54 0,fq 70],7),(int 9,.agg [fq 71,fq 72],8)] 9]
abbrev ekMn(n:Nat):List Blk:=[.var [fq 53],.var [kfn 55 n],.map [(int 1,.agg [fq 56,fq 57],0),(int 2,.agg [kfn 54 n,fq 60],1),(int 3,.agg [kfn 55 n,fq 61],2),(int 4,.agg [kfn 62 (n+1),fq 63],3),(int 5,.agg [kfn 55 n,fq 61],4),(int 6,.agg [fq 64,fq 65],5),(int 7,.agg [fq 67,fq 68],6),(int 8,.agg [kfn 54 n,fq 70],7),(int 9,.agg [fq 71,fq 72],8)] 9]
theorem ekinds_b:(Ev Di Γ0 41 [] [] (.ref (.mp 2)) ekM):=by
 exact Ev.castH (Ev.of_sym (h':=[.var [fq 53],.var [DW (DB 55) [] [.ref (.ptr 0 0)]],.map [(int 1,Dy [fq 56,fq 57],0),(int 2,Dy [DW (DB 54) [] [.ref (.ptr 0 0)],fq 60],1),(int 3,Dy [DW (DB 55) [] [.ref (.ptr 0 0)],fq 61],2),(int 4,Dy [DW (DB 62) [] [.ref (.ptr 1 0)],fq 63],3),(int 5,Dy [DW (DB 55) [] [.ref (.ptr 0 0)],fq 61],4),(int 6,Dy [fq 64,fq 65],5),(int 7,Dy [fq 67,fq 68],6),(int 8,Dy [DW (DB 54) [] [.ref (.ptr 0 0)],fq 70],7),(int 9,Dy [fq 71,fq 72],8)] 9]) (d:=.ref (.mp 2)) pok [] (by kernel_rfl) .n) (by rfl) (by rfl)
theorem aG(h:List Blk):Ev Di Γ0 41 [] h (.ref (.mp (h.length+2))) (h++ekMn h.length):=ekinds_b.frameN (by kernel_rfl) rfl h
end Go.Vi
open Go Go.Proofs
namespace Go.Vi
set_option maxRecDepth 100000
set_option maxHeartbeats 4000000
abbrev bX:List D:=[int 0,int 0,int 0,int 0,int 0,nq,nq,nq,bool false]
abbrev dZ:List D:=[int 0,int 0,int 0,int 0,int 0,nq,int 0,int 0,int 0]
abbrev f8(s:SecT):List D:=s.row.map .p
abbrev eh(k:Int)(e:EntT)(stu obj term val frm til:Int)(text:ByteArray)(sec req:List D):List D:=[int e.time,int e.campus,int e.no,int k,int stu,int obj,int term,int val,int frm,int til,lit (.string text)]++sec++req++[int e.r,int e.s]
abbrev ek(k:Int)(e:EntT):List D:=eh k e 0 0 0 0 0 0 Eg bX dZ
abbrev aQ(k:Int)(e:EntT):List D:=eh k e e.stu e.obj e.term e.val e.frm e.til e.text (f8 e.sec) (rqD e.req.kind e.req)
def enR(st:Int)(sb:Bool)(r:Int):Int:=match st != 0 with
 | true=>st
 | false=>match !sb with
  | true=>370
  | false=>r
noncomputable abbrev xN(e:EntT):List Blk:=[.var [int e.time,int e.campus,int e.no,int e.kind,int e.stu,int e.obj,int e.term,int e.val,int e.frm,int e.til,ax e.text,int e.sec.id,int e.sec.course,int e.sec.term,int e.sec.campus,int e.sec.seats,aa (Dh DA e.sec.mts),aa (Dh Dx e.sec.grs),aa (Dh ab e.sec.labs),bool e.sec.lab,int e.req.campus,int e.req.no,int e.req.st,int e.req.kind,int e.req.time,aa (Dh Dn e.req.chs),int e.req.gsec,int e.req.glab,int e.req.key,int e.r,int e.s]]
theorem en_st{e:EntT}{st:Int}(hst:∀h,Ev Di Γ0 39 [.agg [int e.time,int e.campus,int e.no]] h (int st) h)(hb:(st != 0)=true)(h:List Blk):(Ev Di Γq 25 [.agg (aQ e.kind e)] h (int st) h):=by
 exact z0 [.val (int st),.b true] (.c (DL (Γ':=Γq) (@hst (xN e))) (.c hb .n)) h
noncomputable abbrev tu(e:EntT):List Blk:=[.var [int e.time,int e.campus,int e.no,int e.kind,int e.stu,int e.obj,int e.term,int e.val,int e.frm,int e.til,ax e.text,int e.sec.id,int e.sec.course,int e.sec.term,int e.sec.campus,int e.sec.seats,aa (Dh DA e.sec.mts),aa (Dh Dx e.sec.grs),aa (Dh ab e.sec.labs),bool e.sec.lab,int e.req.campus,int e.req.no,int e.req.st,int e.req.kind,int e.req.time,aa (Dh Dn e.req.chs),int e.req.gsec,int e.req.glab,int e.req.key,int e.r,int e.s]]
theorem Bj{e:EntT}(hgr:ai e.sec.grs)(hi:ai e.sec.labs)(h:List Blk):(Ev Di Γq 65 [ag e.row] h (int (kT e.sec)) h):=by
 exact z0 [.val (int (kT e.sec))] (.c (@qA (e.sec) hgr hi (tu e)) .n) h
noncomputable abbrev tw(e:EntT):List Blk:=[.var [int e.time,int e.campus,int e.no,int e.kind,int e.stu,int e.obj,int e.term,int e.val,int e.frm,int e.til,ax e.text,int e.sec.id,int e.sec.course,int e.sec.term,int e.sec.campus,int e.sec.seats,aa (Dh DA e.sec.mts),aa (Dh Dx e.sec.grs),aa (Dh ab e.sec.labs),bool e.sec.lab,int e.req.campus,int e.req.no,int e.req.st,int e.req.kind,int e.req.time,aa (Dh Dn e.req.chs),int e.req.gsec,int e.req.glab,int e.req.key,int e.r,int e.s]]
theorem Bk{e:EntT}(hc:ai e.req.chs)(h:List Blk):(Ev Di Γq 68 [ag e.row] h (int (kS e.req)) h):=by
 exact z0 [.val (int (kS e.req))] (.c (@tt (e.req) hc (tw e)) .n) h
noncomputable abbrev nz(e:EntT):List Blk:=[.var [int e.time,int e.campus,int e.no,int 1,int e.stu,int e.obj,int e.term,int e.val,int e.frm,int e.til,ax e.text,int e.sec.id,int e.sec.course,int e.sec.term,int e.sec.campus,int e.sec.seats,aa (Dh DA e.sec.mts),aa (Dh Dx e.sec.grs),aa (Dh ab e.sec.labs),bool e.sec.lab,int e.req.campus,int e.req.no,int e.req.st,int e.req.kind,int e.req.time,aa (Dh Dn e.req.chs),int e.req.gsec,int e.req.glab,int e.req.key,int e.r,int e.s],.var [fq 53],.var [DW (DB 55) [] [.ref (.ptr 1 0)]],.map [(int 1,Dy [fq 56,fq 57],0),(int 2,Dy [DW (DB 54) [] [.ref (.ptr 1 0)],fq 60],1),(int 3,Dy [DW (DB 55) [] [.ref (.ptr 1 0)],fq 61],2),(int 4,Dy [DW (DB 62) [] [.ref (.ptr 2 0)],fq 63],3),(int 5,Dy [DW (DB 55) [] [.ref (.ptr 1 0)],fq 61],4),(int 6,Dy [fq 64,fq 65],5),(int 7,Dy [fq 67,fq 68],6),(int 8,Dy [DW (DB 54) [] [.ref (.ptr 1 0)],fq 70],7),(int 9,Dy [fq 71,fq 72],8)] 9,.var [fq 56,fq 57],.var [int e.time,int e.campus,int e.no,int 1,int e.stu,int e.obj,int e.term,int e.val,int 0,int 0,ax {data:=#[]},int e.sec.id,int e.sec.course,int e.sec.term,int e.sec.campus,int e.sec.seats,aa (Dh DA e.sec.mts),aa (Dh Dx e.sec.grs),aa (Dh ab e.sec.labs),bool e.sec.lab,int e.req.campus,int e.req.no,int e.req.st,int e.req.kind,int e.req.time,aa (Dh Dn e.req.chs),int e.req.gsec,int e.req.glab,int e.req.key,int e.r,int e.s]]
noncomputable abbrev se(e:EntT):List Blk:=[.var [int e.time,int e.campus,int e.no,int 1,int e.stu,int e.obj,int e.term,int e.val,int e.frm,int e.til,ax e.text,int e.sec.id,int e.sec.course,int e.sec.term,int e.sec.campus,int e.sec.seats,aa (Dh DA e.sec.mts),aa (Dh Dx e.sec.grs),aa (Dh ab e.sec.labs),bool e.sec.lab,int e.req.campus,int e.req.no,int e.req.st,int e.req.kind,int e.req.time,aa (Dh Dn e.req.chs),int e.req.gsec,int e.req.glab,int e.req.key,int e.r,int e.s],.var [fq 53],.var [DW (DB 55) [] [.ref (.ptr 1 0)]],.map [(int 1,Dy [fq 56,fq 57],0),(int 2,Dy [DW (DB 54) [] [.ref (.ptr 1 0)],fq 60],1),(int 3,Dy [DW (DB 55) [] [.ref (.ptr 1 0)],fq 61],2),(int 4,Dy [DW (DB 62) [] [.ref (.ptr 2 0)],fq 63],3),(int 5,Dy [DW (DB 55) [] [.ref (.ptr 1 0)],fq 61],4),(int 6,Dy [fq 64,fq 65],5),(int 7,Dy [fq 67,fq 68],6),(int 8,Dy [DW (DB 54) [] [.ref (.ptr 1 0)],fq 70],7),(int 9,Dy [fq 71,fq 72],8)] 9]
noncomputable abbrev jA(e:EntT):List Blk:=[.var [int e.time,int e.campus,int e.no,int 1,int e.stu,int e.obj,int e.term,int e.val,int e.frm,int e.til,ax e.text,int e.sec.id,int e.sec.course,int e.sec.term,int e.sec.campus,int e.sec.seats,aa (Dh DA e.sec.mts),aa (Dh Dx e.sec.grs),aa (Dh ab e.sec.labs),bool e.sec.lab,int e.req.campus,int e.req.no,int e.req.st,int e.req.kind,int e.req.time,aa (Dh Dn e.req.chs),int e.req.gsec,int e.req.glab,int e.req.key,int e.r,int e.s]]
theorem en1_a{e:EntT}{r:Int}{sb:Bool}(hst:∀h,Ev Di Γ0 39 [.agg [int e.time,int e.campus,int e.no]] h (int 0) h)(hsm:∀h,Ev Di Γ0 42 [.agg (eh 1 e e.stu e.obj e.term e.val 0 0 Eg (f8 e.sec) (rqD e.req.kind e.req)),.agg (ek 1 e)] h (bool sb) h)(hck:∀h,Ev Di Γ0 57 [.agg (aQ 1 e)] h (int r) h)(h:List Blk):(Ev Di Γq 25 [.agg (aQ 1 e)] h (int (enR 0 sb r)) h):=by
 cases hc0:!sb
 ·let v0:=Ew [Dy [fq 56,fq 57],bool true]
  exact zD (int r) [.val (int 0),.b false,.late,.call (.ref (.mp 3)) (se e),.b false,.inl,.val (bool sb),.b false,.val (int r)] (.c (DL (Γ':=Γq) (@hst (jA e))) (.c (show(0 != 0)=false from rfl) (.c (DL (Γ':=Γq) (@aG (jA e))) (.e (.ref (.ptr 0 3)) (.e (.ref (.ptr 0 3)) (.e (.ref (.ptr 0 3)) (.e (int 1) (.e (int 1) (.e (int 1) (.c (show some v0=some v0 from rfl) (.c (show some v0=some v0 from rfl) (.c (show(!true)=false from rfl) (.c (DL (Γ':=Γq) (@hsm (nz e))) (.c hc0 (.c (DL (Γ':=Γq) (@hck (nz e))) .n))))))))))))))) h (by subst v0;first|rfl|(simp only[enR,hc0];first|done|rfl))
 ·let v0:=Ew [Dy [fq 56,fq 57],bool true]
  exact zD (int 370) [.val (int 0),.b false,.late,.call (.ref (.mp 3)) (se e),.b false,.inl,.val (bool sb),.b true] (.c (DL (Γ':=Γq) (@hst (jA e))) (.c (show(0 != 0)=false from rfl) (.c (DL (Γ':=Γq) (@aG (jA e))) (.e (.ref (.ptr 0 3)) (.e (.ref (.ptr 0 3)) (.e (.ref (.ptr 0 3)) (.e (int 1) (.e (int 1) (.e (int 1) (.c (show some v0=some v0 from rfl) (.c (show some v0=some v0 from rfl) (.c (show(!true)=false from rfl) (.c (DL (Γ':=Γq) (@hsm (nz e))) (.c hc0 .n)))))))))))))) h (by subst v0;first|rfl|(simp only[enR,hc0];first|done|rfl))
noncomputable abbrev nA(e:EntT):List Blk:=[.var [int e.time,int e.campus,int e.no,int 2,int e.stu,int e.obj,int e.term,int e.val,int e.frm,int e.til,ax e.text,int e.sec.id,int e.sec.course,int e.sec.term,int e.sec.campus,int e.sec.seats,aa (Dh DA e.sec.mts),aa (Dh Dx e.sec.grs),aa (Dh ab e.sec.labs),bool e.sec.lab,int e.req.campus,int e.req.no,int e.req.st,int e.req.kind,int e.req.time,aa (Dh Dn e.req.chs),int e.req.gsec,int e.req.glab,int e.req.key,int e.r,int e.s],.var [fq 53],.var [DW (DB 55) [] [.ref (.ptr 1 0)]],.map [(int 1,Dy [fq 56,fq 57],0),(int 2,Dy [DW (DB 54) [] [.ref (.ptr 1 0)],fq 60],1),(int 3,Dy [DW (DB 55) [] [.ref (.ptr 1 0)],fq 61],2),(int 4,Dy [DW (DB 62) [] [.ref (.ptr 2 0)],fq 63],3),(int 5,Dy [DW (DB 55) [] [.ref (.ptr 1 0)],fq 61],4),(int 6,Dy [fq 64,fq 65],5),(int 7,Dy [fq 67,fq 68],6),(int 8,Dy [DW (DB 54) [] [.ref (.ptr 1 0)],fq 70],7),(int 9,Dy [fq 71,fq 72],8)] 9,.var [DW (DB 54) [] [.ref (.ptr 1 0)],fq 60],.var [int e.time,int e.campus,int e.no,int 2,int 0,int 0,int 0,int 0,int e.frm,int e.til,ax e.text,int e.sec.id,int e.sec.course,int e.sec.term,int e.sec.campus,int e.sec.seats,aa (Dh DA e.sec.mts),aa (Dh Dx e.sec.grs),aa (Dh ab e.sec.labs),bool e.sec.lab,int e.req.campus,int e.req.no,int e.req.st,int e.req.kind,int e.req.time,aa (Dh Dn e.req.chs),int e.req.gsec,int e.req.glab,int e.req.key,int e.r,int e.s]]
noncomputable abbrev sf(e:EntT):List Blk:=[.var [int e.time,int e.campus,int e.no,int 2,int e.stu,int e.obj,int e.term,int e.val,int e.frm,int e.til,ax e.text,int e.sec.id,int e.sec.course,int e.sec.term,int e.sec.campus,int e.sec.seats,aa (Dh DA e.sec.mts),aa (Dh Dx e.sec.grs),aa (Dh ab e.sec.labs),bool e.sec.lab,int e.req.campus,int e.req.no,int e.req.st,int e.req.kind,int e.req.time,aa (Dh Dn e.req.chs),int e.req.gsec,int e.req.glab,int e.req.key,int e.r,int e.s],.var [fq 53],.var [DW (DB 55) [] [.ref (.ptr 1 0)]],.map [(int 1,Dy [fq 56,fq 57],0),(int 2,Dy [DW (DB 54) [] [.ref (.ptr 1 0)],fq 60],1),(int 3,Dy [DW (DB 55) [] [.ref (.ptr 1 0)],fq 61],2),(int 4,Dy [DW (DB 62) [] [.ref (.ptr 2 0)],fq 63],3),(int 5,Dy [DW (DB 55) [] [.ref (.ptr 1 0)],fq 61],4),(int 6,Dy [fq 64,fq 65],5),(int 7,Dy [fq 67,fq 68],6),(int 8,Dy [DW (DB 54) [] [.ref (.ptr 1 0)],fq 70],7),(int 9,Dy [fq 71,fq 72],8)] 9]
noncomputable abbrev jB(e:EntT):List Blk:=[.var [int e.time,int e.campus,int e.no,int 2,int e.stu,int e.obj,int e.term,int e.val,int e.frm,int e.til,ax e.text,int e.sec.id,int e.sec.course,int e.sec.term,int e.sec.campus,int e.sec.seats,aa (Dh DA e.sec.mts),aa (Dh Dx e.sec.grs),aa (Dh ab e.sec.labs),bool e.sec.lab,int e.req.campus,int e.req.no,int e.req.st,int e.req.kind,int e.req.time,aa (Dh Dn e.req.chs),int e.req.gsec,int e.req.glab,int e.req.key,int e.r,int e.s]]
theorem en2_a{e:EntT}{r:Int}{sb:Bool}(hst:∀h,Ev Di Γ0 39 [.agg [int e.time,int e.campus,int e.no]] h (int 0) h)(hsm:∀h,Ev Di Γ0 42 [.agg (eh 2 e 0 0 0 0 e.frm e.til e.text (f8 e.sec) (rqD e.req.kind e.req)),.agg (ek 2 e)] h (bool sb) h)(hck:∀h,Ev Di Γ0 60 [.agg (aQ 2 e)] h (int r) h)(h:List Blk):(Ev Di Γq 25 [.agg (aQ 2 e)] h (int (enR 0 sb r)) h):=by
 cases hc0:!sb
 ·let v0:=Ew [Dy [DW (DB 54) [] [.ref (.ptr 1 0)],fq 60],bool true]
  exact zD (int r) [.val (int 0),.b false,.late,.call (.ref (.mp 3)) (sf e),.b false,.inl,.inl,.val (bool sb),.b false,.val (int r)] (.c (DL (Γ':=Γq) (@hst (jB e))) (.c (show(0 != 0)=false from rfl) (.c (DL (Γ':=Γq) (@aG (jB e))) (.e (.ref (.ptr 0 3)) (.e (.ref (.ptr 0 3)) (.e (.ref (.ptr 0 3)) (.e (int 2) (.e (int 2) (.e (int 2) (.c (show some v0=some v0 from rfl) (.c (show some v0=some v0 from rfl) (.c (show(!true)=false from rfl) (.c (DL (Γ':=Γq) (@hsm (nA e))) (.c hc0 (.c (DL (Γ':=Γq) (@hck (nA e))) .n))))))))))))))) h (by subst v0;first|rfl|(simp only[enR,hc0];first|done|rfl))
 ·let v0:=Ew [Dy [DW (DB 54) [] [.ref (.ptr 1 0)],fq 60],bool true]
  exact zD (int 370) [.val (int 0),.b false,.late,.call (.ref (.mp 3)) (sf e),.b false,.inl,.inl,.val (bool sb),.b true] (.c (DL (Γ':=Γq) (@hst (jB e))) (.c (show(0 != 0)=false from rfl) (.c (DL (Γ':=Γq) (@aG (jB e))) (.e (.ref (.ptr 0 3)) (.e (.ref (.ptr 0 3)) (.e (.ref (.ptr 0 3)) (.e (int 2) (.e (int 2) (.e (int 2) (.c (show some v0=some v0 from rfl) (.c (show some v0=some v0 from rfl) (.c (show(!true)=false from rfl) (.c (DL (Γ':=Γq) (@hsm (nA e))) (.c hc0 .n)))))))))))))) h (by subst v0;first|rfl|(simp only[enR,hc0];first|done|rfl))
noncomputable abbrev nB(e:EntT):List Blk:=[.var [int e.time,int e.campus,int e.no,int 3,int e.stu,int e.obj,int e.term,int e.val,int e.frm,int e.til,ax e.text,int e.sec.id,int e.sec.course,int e.sec.term,int e.sec.campus,int e.sec.seats,aa (Dh DA e.sec.mts),aa (Dh Dx e.sec.grs),aa (Dh ab e.sec.labs),bool e.sec.lab,int e.req.campus,int e.req.no,int e.req.st,int e.req.kind,int e.req.time,aa (Dh Dn e.req.chs),int e.req.gsec,int e.req.glab,int e.req.key,int e.r,int e.s],.var [fq 53],.var [DW (DB 55) [] [.ref (.ptr 1 0)]],.map [(int 1,Dy [fq 56,fq 57],0),(int 2,Dy [DW (DB 54) [] [.ref (.ptr 1 0)],fq 60],1),(int 3,Dy [DW (DB 55) [] [.ref (.ptr 1 0)],fq 61],2),(int 4,Dy [DW (DB 62) [] [.ref (.ptr 2 0)],fq 63],3),(int 5,Dy [DW (DB 55) [] [.ref (.ptr 1 0)],fq 61],4),(int 6,Dy [fq 64,fq 65],5),(int 7,Dy [fq 67,fq 68],6),(int 8,Dy [DW (DB 54) [] [.ref (.ptr 1 0)],fq 70],7),(int 9,Dy [fq 71,fq 72],8)] 9,.var [DW (DB 55) [] [.ref (.ptr 1 0)],fq 61],.var [int e.time,int e.campus,int e.no,int 3,int 0,int 0,int e.term,int 0,int 0,int 0,ax e.text,int e.sec.id,int e.sec.course,int e.sec.term,int e.sec.campus,int e.sec.seats,aa (Dh DA e.sec.mts),aa (Dh Dx e.sec.grs),aa (Dh ab e.sec.labs),bool e.sec.lab,int e.req.campus,int e.req.no,int e.req.st,int e.req.kind,int e.req.time,aa (Dh Dn e.req.chs),int e.req.gsec,int e.req.glab,int e.req.key,int e.r,int e.s]]
noncomputable abbrev sg(e:EntT):List Blk:=[.var [int e.time,int e.campus,int e.no,int 3,int e.stu,int e.obj,int e.term,int e.val,int e.frm,int e.til,ax e.text,int e.sec.id,int e.sec.course,int e.sec.term,int e.sec.campus,int e.sec.seats,aa (Dh DA e.sec.mts),aa (Dh Dx e.sec.grs),aa (Dh ab e.sec.labs),bool e.sec.lab,int e.req.campus,int e.req.no,int e.req.st,int e.req.kind,int e.req.time,aa (Dh Dn e.req.chs),int e.req.gsec,int e.req.glab,int e.req.key,int e.r,int e.s],.var [fq 53],.var [DW (DB 55) [] [.ref (.ptr 1 0)]],.map [(int 1,Dy [fq 56,fq 57],0),(int 2,Dy [DW (DB 54) [] [.ref (.ptr 1 0)],fq 60],1),(int 3,Dy [DW (DB 55) [] [.ref (.ptr 1 0)],fq 61],2),(int 4,Dy [DW (DB 62) [] [.ref (.ptr 2 0)],fq 63],3),(int 5,Dy [DW (DB 55) [] [.ref (.ptr 1 0)],fq 61],4),(int 6,Dy [fq 64,fq 65],5),(int 7,Dy [fq 67,fq 68],6),(int 8,Dy [DW (DB 54) [] [.ref (.ptr 1 0)],fq 70],7),(int 9,Dy [fq 71,fq 72],8)] 9]
noncomputable abbrev jC(e:EntT):List Blk:=[.var [int e.time,int e.campus,int e.no,int 3,int e.stu,int e.obj,int e.term,int e.val,int e.frm,int e.til,ax e.text,int e.sec.id,int e.sec.course,int e.sec.term,int e.sec.campus,int e.sec.seats,aa (Dh DA e.sec.mts),aa (Dh Dx e.sec.grs),aa (Dh ab e.sec.labs),bool e.sec.lab,int e.req.campus,int e.req.no,int e.req.st,int e.req.kind,int e.req.time,aa (Dh Dn e.req.chs),int e.req.gsec,int e.req.glab,int e.req.key,int e.r,int e.s]]
theorem en3_a{e:EntT}{r:Int}{sb:Bool}(hst:∀h,Ev Di Γ0 39 [.agg [int e.time,int e.campus,int e.no]] h (int 0) h)(hsm:∀h,Ev Di Γ0 42 [.agg (eh 3 e 0 0 e.term 0 0 0 e.text (f8 e.sec) (rqD e.req.kind e.req)),.agg (ek 3 e)] h (bool sb) h)(hck:∀h,Ev Di Γ0 61 [.agg (aQ 3 e)] h (int r) h)(h:List Blk):(Ev Di Γq 25 [.agg (aQ 3 e)] h (int (enR 0 sb r)) h):=by
 cases hc0:!sb
 ·let v0:=Ew [Dy [DW (DB 55) [] [.ref (.ptr 1 0)],fq 61],bool true]
  exact zD (int r) [.val (int 0),.b false,.late,.call (.ref (.mp 3)) (sg e),.b false,.inl,.inl,.val (bool sb),.b false,.val (int r)] (.c (DL (Γ':=Γq) (@hst (jC e))) (.c (show(0 != 0)=false from rfl) (.c (DL (Γ':=Γq) (@aG (jC e))) (.e (.ref (.ptr 0 3)) (.e (.ref (.ptr 0 3)) (.e (.ref (.ptr 0 3)) (.e (int 3) (.e (int 3) (.e (int 3) (.c (show some v0=some v0 from rfl) (.c (show some v0=some v0 from rfl) (.c (show(!true)=false from rfl) (.c (DL (Γ':=Γq) (@hsm (nB e))) (.c hc0 (.c (DL (Γ':=Γq) (@hck (nB e))) .n))))))))))))))) h (by subst v0;first|rfl|(simp only[enR,hc0];first|done|rfl))
 ·let v0:=Ew [Dy [DW (DB 55) [] [.ref (.ptr 1 0)],fq 61],bool true]
  exact zD (int 370) [.val (int 0),.b false,.late,.call (.ref (.mp 3)) (sg e),.b false,.inl,.inl,.val (bool sb),.b true] (.c (DL (Γ':=Γq) (@hst (jC e))) (.c (show(0 != 0)=false from rfl) (.c (DL (Γ':=Γq) (@aG (jC e))) (.e (.ref (.ptr 0 3)) (.e (.ref (.ptr 0 3)) (.e (.ref (.ptr 0 3)) (.e (int 3) (.e (int 3) (.e (int 3) (.c (show some v0=some v0 from rfl) (.c (show some v0=some v0 from rfl) (.c (show(!true)=false from rfl) (.c (DL (Γ':=Γq) (@hsm (nB e))) (.c hc0 .n)))))))))))))) h (by subst v0;first|rfl|(simp only[enR,hc0];first|done|rfl))
noncomputable abbrev nC(e:EntT):List Blk:=[.var [int e.time,int e.campus,int e.no,int 4,int e.stu,int e.obj,int e.term,int e.val,int e.frm,int e.til,ax e.text,int e.sec.id,int e.sec.course,int e.sec.term,int e.sec.campus,int e.sec.seats,aa (Dh DA e.sec.mts),aa (Dh Dx e.sec.grs),aa (Dh ab e.sec.labs),bool e.sec.lab,int e.req.campus,int e.req.no,int e.req.st,int e.req.kind,int e.req.time,aa (Dh Dn e.req.chs),int e.req.gsec,int e.req.glab,int e.req.key,int e.r,int e.s],.var [fq 53],.var [DW (DB 55) [] [.ref (.ptr 1 0)]],.map [(int 1,Dy [fq 56,fq 57],0),(int 2,Dy [DW (DB 54) [] [.ref (.ptr 1 0)],fq 60],1),(int 3,Dy [DW (DB 55) [] [.ref (.ptr 1 0)],fq 61],2),(int 4,Dy [DW (DB 62) [] [.ref (.ptr 2 0)],fq 63],3),(int 5,Dy [DW (DB 55) [] [.ref (.ptr 1 0)],fq 61],4),(int 6,Dy [fq 64,fq 65],5),(int 7,Dy [fq 67,fq 68],6),(int 8,Dy [DW (DB 54) [] [.ref (.ptr 1 0)],fq 70],7),(int 9,Dy [fq 71,fq 72],8)] 9,.var [DW (DB 62) [] [.ref (.ptr 2 0)],fq 63],.var [int e.time,int e.campus,int e.no,int 4,int 0,int 0,int 0,int 0,int 0,int 0,ax e.text,int e.sec.id,int e.sec.course,int e.sec.term,int e.sec.campus,int e.sec.seats,aa (Dh DA e.sec.mts),aa (Dh Dx e.sec.grs),aa (Dh ab e.sec.labs),bool e.sec.lab,int e.req.campus,int e.req.no,int e.req.st,int e.req.kind,int e.req.time,aa (Dh Dn e.req.chs),int e.req.gsec,int e.req.glab,int e.req.key,int e.r,int e.s]]
noncomputable abbrev sh(e:EntT):List Blk:=[.var [int e.time,int e.campus,int e.no,int 4,int e.stu,int e.obj,int e.term,int e.val,int e.frm,int e.til,ax e.text,int e.sec.id,int e.sec.course,int e.sec.term,int e.sec.campus,int e.sec.seats,aa (Dh DA e.sec.mts),aa (Dh Dx e.sec.grs),aa (Dh ab e.sec.labs),bool e.sec.lab,int e.req.campus,int e.req.no,int e.req.st,int e.req.kind,int e.req.time,aa (Dh Dn e.req.chs),int e.req.gsec,int e.req.glab,int e.req.key,int e.r,int e.s],.var [fq 53],.var [DW (DB 55) [] [.ref (.ptr 1 0)]],.map [(int 1,Dy [fq 56,fq 57],0),(int 2,Dy [DW (DB 54) [] [.ref (.ptr 1 0)],fq 60],1),(int 3,Dy [DW (DB 55) [] [.ref (.ptr 1 0)],fq 61],2),(int 4,Dy [DW (DB 62) [] [.ref (.ptr 2 0)],fq 63],3),(int 5,Dy [DW (DB 55) [] [.ref (.ptr 1 0)],fq 61],4),(int 6,Dy [fq 64,fq 65],5),(int 7,Dy [fq 67,fq 68],6),(int 8,Dy [DW (DB 54) [] [.ref (.ptr 1 0)],fq 70],7),(int 9,Dy [fq 71,fq 72],8)] 9]
noncomputable abbrev jD(e:EntT):List Blk:=[.var [int e.time,int e.campus,int e.no,int 4,int e.stu,int e.obj,int e.term,int e.val,int e.frm,int e.til,ax e.text,int e.sec.id,int e.sec.course,int e.sec.term,int e.sec.campus,int e.sec.seats,aa (Dh DA e.sec.mts),aa (Dh Dx e.sec.grs),aa (Dh ab e.sec.labs),bool e.sec.lab,int e.req.campus,int e.req.no,int e.req.st,int e.req.kind,int e.req.time,aa (Dh Dn e.req.chs),int e.req.gsec,int e.req.glab,int e.req.key,int e.r,int e.s]]
theorem en4_a{e:EntT}{r:Int}{sb:Bool}(hst:∀h,Ev Di Γ0 39 [.agg [int e.time,int e.campus,int e.no]] h (int 0) h)(hsm:∀h,Ev Di Γ0 42 [.agg (eh 4 e 0 0 0 0 0 0 e.text (f8 e.sec) (rqD e.req.kind e.req)),.agg (ek 4 e)] h (bool sb) h)(hck:∀h,Ev Di Γ0 63 [.agg (aQ 4 e)] h (int r) h)(h:List Blk):(Ev Di Γq 25 [.agg (aQ 4 e)] h (int (enR 0 sb r)) h):=by
 cases hc0:!sb
 ·let v0:=Ew [Dy [DW (DB 62) [] [.ref (.ptr 2 0)],fq 63],bool true]
  exact zD (int r) [.val (int 0),.b false,.late,.call (.ref (.mp 3)) (sh e),.b false,.inl,.inl,.inl,.val (bool sb),.b false,.val (int r)] (.c (DL (Γ':=Γq) (@hst (jD e))) (.c (show(0 != 0)=false from rfl) (.c (DL (Γ':=Γq) (@aG (jD e))) (.e (.ref (.ptr 0 3)) (.e (.ref (.ptr 0 3)) (.e (.ref (.ptr 0 3)) (.e (int 4) (.e (int 4) (.e (int 4) (.c (show some v0=some v0 from rfl) (.c (show some v0=some v0 from rfl) (.c (show(!true)=false from rfl) (.c (DL (Γ':=Γq) (@hsm (nC e))) (.c hc0 (.c (DL (Γ':=Γq) (@hck (nC e))) .n))))))))))))))) h (by subst v0;first|rfl|(simp only[enR,hc0];first|done|rfl))
 ·let v0:=Ew [Dy [DW (DB 62) [] [.ref (.ptr 2 0)],fq 63],bool true]
  exact zD (int 370) [.val (int 0),.b false,.late,.call (.ref (.mp 3)) (sh e),.b false,.inl,.inl,.inl,.val (bool sb),.b true] (.c (DL (Γ':=Γq) (@hst (jD e))) (.c (show(0 != 0)=false from rfl) (.c (DL (Γ':=Γq) (@aG (jD e))) (.e (.ref (.ptr 0 3)) (.e (.ref (.ptr 0 3)) (.e (.ref (.ptr 0 3)) (.e (int 4) (.e (int 4) (.e (int 4) (.c (show some v0=some v0 from rfl) (.c (show some v0=some v0 from rfl) (.c (show(!true)=false from rfl) (.c (DL (Γ':=Γq) (@hsm (nC e))) (.c hc0 .n)))))))))))))) h (by subst v0;first|rfl|(simp only[enR,hc0];first|done|rfl))
noncomputable abbrev nD(e:EntT):List Blk:=[.var [int e.time,int e.campus,int e.no,int 5,int e.stu,int e.obj,int e.term,int e.val,int e.frm,int e.til,ax e.text,int e.sec.id,int e.sec.course,int e.sec.term,int e.sec.campus,int e.sec.seats,aa (Dh DA e.sec.mts),aa (Dh Dx e.sec.grs),aa (Dh ab e.sec.labs),bool e.sec.lab,int e.req.campus,int e.req.no,int e.req.st,int e.req.kind,int e.req.time,aa (Dh Dn e.req.chs),int e.req.gsec,int e.req.glab,int e.req.key,int e.r,int e.s],.var [fq 53],.var [DW (DB 55) [] [.ref (.ptr 1 0)]],.map [(int 1,Dy [fq 56,fq 57],0),(int 2,Dy [DW (DB 54) [] [.ref (.ptr 1 0)],fq 60],1),(int 3,Dy [DW (DB 55) [] [.ref (.ptr 1 0)],fq 61],2),(int 4,Dy [DW (DB 62) [] [.ref (.ptr 2 0)],fq 63],3),(int 5,Dy [DW (DB 55) [] [.ref (.ptr 1 0)],fq 61],4),(int 6,Dy [fq 64,fq 65],5),(int 7,Dy [fq 67,fq 68],6),(int 8,Dy [DW (DB 54) [] [.ref (.ptr 1 0)],fq 70],7),(int 9,Dy [fq 71,fq 72],8)] 9,.var [DW (DB 55) [] [.ref (.ptr 1 0)],fq 61],.var [int e.time,int e.campus,int e.no,int 5,int 0,int 0,int e.term,int 0,int 0,int 0,ax e.text,int e.sec.id,int e.sec.course,int e.sec.term,int e.sec.campus,int e.sec.seats,aa (Dh DA e.sec.mts),aa (Dh Dx e.sec.grs),aa (Dh ab e.sec.labs),bool e.sec.lab,int e.req.campus,int e.req.no,int e.req.st,int e.req.kind,int e.req.time,aa (Dh Dn e.req.chs),int e.req.gsec,int e.req.glab,int e.req.key,int e.r,int e.s]]
noncomputable abbrev si(e:EntT):List Blk:=[.var [int e.time,int e.campus,int e.no,int 5,int e.stu,int e.obj,int e.term,int e.val,int e.frm,int e.til,ax e.text,int e.sec.id,int e.sec.course,int e.sec.term,int e.sec.campus,int e.sec.seats,aa (Dh DA e.sec.mts),aa (Dh Dx e.sec.grs),aa (Dh ab e.sec.labs),bool e.sec.lab,int e.req.campus,int e.req.no,int e.req.st,int e.req.kind,int e.req.time,aa (Dh Dn e.req.chs),int e.req.gsec,int e.req.glab,int e.req.key,int e.r,int e.s],.var [fq 53],.var [DW (DB 55) [] [.ref (.ptr 1 0)]],.map [(int 1,Dy [fq 56,fq 57],0),(int 2,Dy [DW (DB 54) [] [.ref (.ptr 1 0)],fq 60],1),(int 3,Dy [DW (DB 55) [] [.ref (.ptr 1 0)],fq 61],2),(int 4,Dy [DW (DB 62) [] [.ref (.ptr 2 0)],fq 63],3),(int 5,Dy [DW (DB 55) [] [.ref (.ptr 1 0)],fq 61],4),(int 6,Dy [fq 64,fq 65],5),(int 7,Dy [fq 67,fq 68],6),(int 8,Dy [DW (DB 54) [] [.ref (.ptr 1 0)],fq 70],7),(int 9,Dy [fq 71,fq 72],8)] 9]
noncomputable abbrev jE(e:EntT):List Blk:=[.var [int e.time,int e.campus,int e.no,int 5,int e.stu,int e.obj,int e.term,int e.val,int e.frm,int e.til,ax e.text,int e.sec.id,int e.sec.course,int e.sec.term,int e.sec.campus,int e.sec.seats,aa (Dh DA e.sec.mts),aa (Dh Dx e.sec.grs),aa (Dh ab e.sec.labs),bool e.sec.lab,int e.req.campus,int e.req.no,int e.req.st,int e.req.kind,int e.req.time,aa (Dh Dn e.req.chs),int e.req.gsec,int e.req.glab,int e.req.key,int e.r,int e.s]]
theorem en5_a{e:EntT}{r:Int}{sb:Bool}(hst:∀h,Ev Di Γ0 39 [.agg [int e.time,int e.campus,int e.no]] h (int 0) h)(hsm:∀h,Ev Di Γ0 42 [.agg (eh 5 e 0 0 e.term 0 0 0 e.text (f8 e.sec) (rqD e.req.kind e.req)),.agg (ek 5 e)] h (bool sb) h)(hck:∀h,Ev Di Γ0 61 [.agg (aQ 5 e)] h (int r) h)(h:List Blk):(Ev Di Γq 25 [.agg (aQ 5 e)] h (int (enR 0 sb r)) h):=by
 cases hc0:!sb
 ·let v0:=Ew [Dy [DW (DB 55) [] [.ref (.ptr 1 0)],fq 61],bool true]
  exact zD (int r) [.val (int 0),.b false,.late,.call (.ref (.mp 3)) (si e),.b false,.inl,.inl,.val (bool sb),.b false,.val (int r)] (.c (DL (Γ':=Γq) (@hst (jE e))) (.c (show(0 != 0)=false from rfl) (.c (DL (Γ':=Γq) (@aG (jE e))) (.e (.ref (.ptr 0 3)) (.e (.ref (.ptr 0 3)) (.e (.ref (.ptr 0 3)) (.e (int 5) (.e (int 5) (.e (int 5) (.c (show some v0=some v0 from rfl) (.c (show some v0=some v0 from rfl) (.c (show(!true)=false from rfl) (.c (DL (Γ':=Γq) (@hsm (nD e))) (.c hc0 (.c (DL (Γ':=Γq) (@hck (nD e))) .n))))))))))))))) h (by subst v0;first|rfl|(simp only[enR,hc0];first|done|rfl))
 ·let v0:=Ew [Dy [DW (DB 55) [] [.ref (.ptr 1 0)],fq 61],bool true]
  exact zD (int 370) [.val (int 0),.b false,.late,.call (.ref (.mp 3)) (si e),.b false,.inl,.inl,.val (bool sb),.b true] (.c (DL (Γ':=Γq) (@hst (jE e))) (.c (show(0 != 0)=false from rfl) (.c (DL (Γ':=Γq) (@aG (jE e))) (.e (.ref (.ptr 0 3)) (.e (.ref (.ptr 0 3)) (.e (.ref (.ptr 0 3)) (.e (int 5) (.e (int 5) (.e (int 5) (.c (show some v0=some v0 from rfl) (.c (show some v0=some v0 from rfl) (.c (show(!true)=false from rfl) (.c (DL (Γ':=Γq) (@hsm (nD e))) (.c hc0 .n)))))))))))))) h (by subst v0;first|rfl|(simp only[enR,hc0];first|done|rfl))
noncomputable abbrev nE(e:EntT):List Blk:=[.var [int e.time,int e.campus,int e.no,int 6,int e.stu,int e.obj,int e.term,int e.val,int e.frm,int e.til,ax e.text,int e.sec.id,int e.sec.course,int e.sec.term,int e.sec.campus,int e.sec.seats,aa (Dh DA e.sec.mts),aa (Dh Dx e.sec.grs),aa (Dh ab e.sec.labs),bool e.sec.lab,int e.req.campus,int e.req.no,int e.req.st,int e.req.kind,int e.req.time,aa (Dh Dn e.req.chs),int e.req.gsec,int e.req.glab,int e.req.key,int e.r,int e.s],.var [fq 53],.var [DW (DB 55) [] [.ref (.ptr 1 0)]],.map [(int 1,Dy [fq 56,fq 57],0),(int 2,Dy [DW (DB 54) [] [.ref (.ptr 1 0)],fq 60],1),(int 3,Dy [DW (DB 55) [] [.ref (.ptr 1 0)],fq 61],2),(int 4,Dy [DW (DB 62) [] [.ref (.ptr 2 0)],fq 63],3),(int 5,Dy [DW (DB 55) [] [.ref (.ptr 1 0)],fq 61],4),(int 6,Dy [fq 64,fq 65],5),(int 7,Dy [fq 67,fq 68],6),(int 8,Dy [DW (DB 54) [] [.ref (.ptr 1 0)],fq 70],7),(int 9,Dy [fq 71,fq 72],8)] 9,.var [fq 64,fq 65],.var [int e.time,int e.campus,int e.no,int 6,int e.stu,int e.obj,int e.term,int e.val,int e.frm,int e.til,ax e.text,int 0,int 0,int 0,int 0,int 0,nq,nq,nq,bool false,int e.req.campus,int e.req.no,int e.req.st,int e.req.kind,int e.req.time,aa (Dh Dn e.req.chs),int e.req.gsec,int e.req.glab,int e.req.key,int e.r,int e.s]]
noncomputable abbrev sj(e:EntT):List Blk:=[.var [int e.time,int e.campus,int e.no,int 6,int e.stu,int e.obj,int e.term,int e.val,int e.frm,int e.til,ax e.text,int e.sec.id,int e.sec.course,int e.sec.term,int e.sec.campus,int e.sec.seats,aa (Dh DA e.sec.mts),aa (Dh Dx e.sec.grs),aa (Dh ab e.sec.labs),bool e.sec.lab,int e.req.campus,int e.req.no,int e.req.st,int e.req.kind,int e.req.time,aa (Dh Dn e.req.chs),int e.req.gsec,int e.req.glab,int e.req.key,int e.r,int e.s],.var [fq 53],.var [DW (DB 55) [] [.ref (.ptr 1 0)]],.map [(int 1,Dy [fq 56,fq 57],0),(int 2,Dy [DW (DB 54) [] [.ref (.ptr 1 0)],fq 60],1),(int 3,Dy [DW (DB 55) [] [.ref (.ptr 1 0)],fq 61],2),(int 4,Dy [DW (DB 62) [] [.ref (.ptr 2 0)],fq 63],3),(int 5,Dy [DW (DB 55) [] [.ref (.ptr 1 0)],fq 61],4),(int 6,Dy [fq 64,fq 65],5),(int 7,Dy [fq 67,fq 68],6),(int 8,Dy [DW (DB 54) [] [.ref (.ptr 1 0)],fq 70],7),(int 9,Dy [fq 71,fq 72],8)] 9]
noncomputable abbrev jF(e:EntT):List Blk:=[.var [int e.time,int e.campus,int e.no,int 6,int e.stu,int e.obj,int e.term,int e.val,int e.frm,int e.til,ax e.text,int e.sec.id,int e.sec.course,int e.sec.term,int e.sec.campus,int e.sec.seats,aa (Dh DA e.sec.mts),aa (Dh Dx e.sec.grs),aa (Dh ab e.sec.labs),bool e.sec.lab,int e.req.campus,int e.req.no,int e.req.st,int e.req.kind,int e.req.time,aa (Dh Dn e.req.chs),int e.req.gsec,int e.req.glab,int e.req.key,int e.r,int e.s]]
theorem en6_a{e:EntT}{r:Int}{sb:Bool}(hst:∀h,Ev Di Γ0 39 [.agg [int e.time,int e.campus,int e.no]] h (int 0) h)(hsm:∀h,Ev Di Γ0 42 [.agg (eh 6 e e.stu e.obj e.term e.val e.frm e.til e.text bX (rqD e.req.kind e.req)),.agg (ek 6 e)] h (bool sb) h)(hck:∀h,Ev Di Γq 65 [.agg (aQ 6 e)] h (int r) h)(h:List Blk):(Ev Di Γq 25 [.agg (aQ 6 e)] h (int (enR 0 sb r)) h):=by
 cases hc0:!sb
 ·let v0:=Ew [Dy [fq 64,fq 65],bool true]
  exact zD (int r) [.val (int 0),.b false,.late,.call (.ref (.mp 3)) (sj e),.b false,.inl,.val (bool sb),.b false,.val (int r)] (.c (DL (Γ':=Γq) (@hst (jF e))) (.c (show(0 != 0)=false from rfl) (.c (DL (Γ':=Γq) (@aG (jF e))) (.e (.ref (.ptr 0 3)) (.e (.ref (.ptr 0 3)) (.e (.ref (.ptr 0 3)) (.e (int 6) (.e (int 6) (.e (int 6) (.c (show some v0=some v0 from rfl) (.c (show some v0=some v0 from rfl) (.c (show(!true)=false from rfl) (.c (DL (Γ':=Γq) (@hsm (nE e))) (.c hc0 (.c (@hck (nE e)) .n))))))))))))))) h (by subst v0;first|rfl|(simp only[enR,hc0];first|done|rfl))
 ·let v0:=Ew [Dy [fq 64,fq 65],bool true]
  exact zD (int 370) [.val (int 0),.b false,.late,.call (.ref (.mp 3)) (sj e),.b false,.inl,.val (bool sb),.b true] (.c (DL (Γ':=Γq) (@hst (jF e))) (.c (show(0 != 0)=false from rfl) (.c (DL (Γ':=Γq) (@aG (jF e))) (.e (.ref (.ptr 0 3)) (.e (.ref (.ptr 0 3)) (.e (.ref (.ptr 0 3)) (.e (int 6) (.e (int 6) (.e (int 6) (.c (show some v0=some v0 from rfl) (.c (show some v0=some v0 from rfl) (.c (show(!true)=false from rfl) (.c (DL (Γ':=Γq) (@hsm (nE e))) (.c hc0 .n)))))))))))))) h (by subst v0;first|rfl|(simp only[enR,hc0];first|done|rfl))
noncomputable abbrev nF(e:EntT):List Blk:=[.var [int e.time,int e.campus,int e.no,int 7,int e.stu,int e.obj,int e.term,int e.val,int e.frm,int e.til,ax e.text,int e.sec.id,int e.sec.course,int e.sec.term,int e.sec.campus,int e.sec.seats,aa (Dh DA e.sec.mts),aa (Dh Dx e.sec.grs),aa (Dh ab e.sec.labs),bool e.sec.lab,int e.req.campus,int e.req.no,int e.req.st,int e.req.kind,int e.req.time,aa (Dh Dn e.req.chs),int e.req.gsec,int e.req.glab,int e.req.key,int e.r,int e.s],.var [fq 53],.var [DW (DB 55) [] [.ref (.ptr 1 0)]],.map [(int 1,Dy [fq 56,fq 57],0),(int 2,Dy [DW (DB 54) [] [.ref (.ptr 1 0)],fq 60],1),(int 3,Dy [DW (DB 55) [] [.ref (.ptr 1 0)],fq 61],2),(int 4,Dy [DW (DB 62) [] [.ref (.ptr 2 0)],fq 63],3),(int 5,Dy [DW (DB 55) [] [.ref (.ptr 1 0)],fq 61],4),(int 6,Dy [fq 64,fq 65],5),(int 7,Dy [fq 67,fq 68],6),(int 8,Dy [DW (DB 54) [] [.ref (.ptr 1 0)],fq 70],7),(int 9,Dy [fq 71,fq 72],8)] 9,.var [fq 67,fq 68],.var [int e.time,int e.campus,int e.no,int 7,int e.stu,int e.obj,int e.term,int e.val,int e.frm,int e.til,ax e.text,int e.sec.id,int e.sec.course,int e.sec.term,int e.sec.campus,int e.sec.seats,aa (Dh DA e.sec.mts),aa (Dh Dx e.sec.grs),aa (Dh ab e.sec.labs),bool e.sec.lab,int 0,int 0,int 0,int 0,int 0,nq,int 0,int 0,int 0,int e.r,int e.s]]
noncomputable abbrev sk(e:EntT):List Blk:=[.var [int e.time,int e.campus,int e.no,int 7,int e.stu,int e.obj,int e.term,int e.val,int e.frm,int e.til,ax e.text,int e.sec.id,int e.sec.course,int e.sec.term,int e.sec.campus,int e.sec.seats,aa (Dh DA e.sec.mts),aa (Dh Dx e.sec.grs),aa (Dh ab e.sec.labs),bool e.sec.lab,int e.req.campus,int e.req.no,int e.req.st,int e.req.kind,int e.req.time,aa (Dh Dn e.req.chs),int e.req.gsec,int e.req.glab,int e.req.key,int e.r,int e.s],.var [fq 53],.var [DW (DB 55) [] [.ref (.ptr 1 0)]],.map [(int 1,Dy [fq 56,fq 57],0),(int 2,Dy [DW (DB 54) [] [.ref (.ptr 1 0)],fq 60],1),(int 3,Dy [DW (DB 55) [] [.ref (.ptr 1 0)],fq 61],2),(int 4,Dy [DW (DB 62) [] [.ref (.ptr 2 0)],fq 63],3),(int 5,Dy [DW (DB 55) [] [.ref (.ptr 1 0)],fq 61],4),(int 6,Dy [fq 64,fq 65],5),(int 7,Dy [fq 67,fq 68],6),(int 8,Dy [DW (DB 54) [] [.ref (.ptr 1 0)],fq 70],7),(int 9,Dy [fq 71,fq 72],8)] 9]
noncomputable abbrev jG(e:EntT):List Blk:=[.var [int e.time,int e.campus,int e.no,int 7,int e.stu,int e.obj,int e.term,int e.val,int e.frm,int e.til,ax e.text,int e.sec.id,int e.sec.course,int e.sec.term,int e.sec.campus,int e.sec.seats,aa (Dh DA e.sec.mts),aa (Dh Dx e.sec.grs),aa (Dh ab e.sec.labs),bool e.sec.lab,int e.req.campus,int e.req.no,int e.req.st,int e.req.kind,int e.req.time,aa (Dh Dn e.req.chs),int e.req.gsec,int e.req.glab,int e.req.key,int e.r,int e.s]]
theorem en7_a{e:EntT}{r:Int}{sb:Bool}(hst:∀h,Ev Di Γ0 39 [.agg [int e.time,int e.campus,int e.no]] h (int 0) h)(hsm:∀h,Ev Di Γ0 42 [.agg (eh 7 e e.stu e.obj e.term e.val e.frm e.til e.text (f8 e.sec) dZ),.agg (ek 7 e)] h (bool sb) h)(hck:∀h,Ev Di Γq 68 [.agg (aQ 7 e)] h (int r) h)(h:List Blk):(Ev Di Γq 25 [.agg (aQ 7 e)] h (int (enR 0 sb r)) h):=by
 cases hc0:!sb
 ·let v0:=Ew [Dy [fq 67,fq 68],bool true]
  exact zD (int r) [.val (int 0),.b false,.late,.call (.ref (.mp 3)) (sk e),.b false,.inl,.val (bool sb),.b false,.val (int r)] (.c (DL (Γ':=Γq) (@hst (jG e))) (.c (show(0 != 0)=false from rfl) (.c (DL (Γ':=Γq) (@aG (jG e))) (.e (.ref (.ptr 0 3)) (.e (.ref (.ptr 0 3)) (.e (.ref (.ptr 0 3)) (.e (int 7) (.e (int 7) (.e (int 7) (.c (show some v0=some v0 from rfl) (.c (show some v0=some v0 from rfl) (.c (show(!true)=false from rfl) (.c (DL (Γ':=Γq) (@hsm (nF e))) (.c hc0 (.c (@hck (nF e)) .n))))))))))))))) h (by subst v0;first|rfl|(simp only[enR,hc0];first|done|rfl))
 ·let v0:=Ew [Dy [fq 67,fq 68],bool true]
  exact zD (int 370) [.val (int 0),.b false,.late,.call (.ref (.mp 3)) (sk e),.b false,.inl,.val (bool sb),.b true] (.c (DL (Γ':=Γq) (@hst (jG e))) (.c (show(0 != 0)=false from rfl) (.c (DL (Γ':=Γq) (@aG (jG e))) (.e (.ref (.ptr 0 3)) (.e (.ref (.ptr 0 3)) (.e (.ref (.ptr 0 3)) (.e (int 7) (.e (int 7) (.e (int 7) (.c (show some v0=some v0 from rfl) (.c (show some v0=some v0 from rfl) (.c (show(!true)=false from rfl) (.c (DL (Γ':=Γq) (@hsm (nF e))) (.c hc0 .n)))))))))))))) h (by subst v0;first|rfl|(simp only[enR,hc0];first|done|rfl))
noncomputable abbrev nG(e:EntT):List Blk:=[.var [int e.time,int e.campus,int e.no,int 8,int e.stu,int e.obj,int e.term,int e.val,int e.frm,int e.til,ax e.text,int e.sec.id,int e.sec.course,int e.sec.term,int e.sec.campus,int e.sec.seats,aa (Dh DA e.sec.mts),aa (Dh Dx e.sec.grs),aa (Dh ab e.sec.labs),bool e.sec.lab,int e.req.campus,int e.req.no,int e.req.st,int e.req.kind,int e.req.time,aa (Dh Dn e.req.chs),int e.req.gsec,int e.req.glab,int e.req.key,int e.r,int e.s],.var [fq 53],.var [DW (DB 55) [] [.ref (.ptr 1 0)]],.map [(int 1,Dy [fq 56,fq 57],0),(int 2,Dy [DW (DB 54) [] [.ref (.ptr 1 0)],fq 60],1),(int 3,Dy [DW (DB 55) [] [.ref (.ptr 1 0)],fq 61],2),(int 4,Dy [DW (DB 62) [] [.ref (.ptr 2 0)],fq 63],3),(int 5,Dy [DW (DB 55) [] [.ref (.ptr 1 0)],fq 61],4),(int 6,Dy [fq 64,fq 65],5),(int 7,Dy [fq 67,fq 68],6),(int 8,Dy [DW (DB 54) [] [.ref (.ptr 1 0)],fq 70],7),(int 9,Dy [fq 71,fq 72],8)] 9,.var [DW (DB 54) [] [.ref (.ptr 1 0)],fq 70],.var [int e.time,int e.campus,int e.no,int 8,int 0,int 0,int 0,int 0,int e.frm,int e.til,ax e.text,int e.sec.id,int e.sec.course,int e.sec.term,int e.sec.campus,int e.sec.seats,aa (Dh DA e.sec.mts),aa (Dh Dx e.sec.grs),aa (Dh ab e.sec.labs),bool e.sec.lab,int e.req.campus,int e.req.no,int e.req.st,int e.req.kind,int e.req.time,aa (Dh Dn e.req.chs),int e.req.gsec,int e.req.glab,int e.req.key,int e.r,int e.s]]
noncomputable abbrev sm(e:EntT):List Blk:=[.var [int e.time,int e.campus,int e.no,int 8,int e.stu,int e.obj,int e.term,int e.val,int e.frm,int e.til,ax e.text,int e.sec.id,int e.sec.course,int e.sec.term,int e.sec.campus,int e.sec.seats,aa (Dh DA e.sec.mts),aa (Dh Dx e.sec.grs),aa (Dh ab e.sec.labs),bool e.sec.lab,int e.req.campus,int e.req.no,int e.req.st,int e.req.kind,int e.req.time,aa (Dh Dn e.req.chs),int e.req.gsec,int e.req.glab,int e.req.key,int e.r,int e.s],.var [fq 53],.var [DW (DB 55) [] [.ref (.ptr 1 0)]],.map [(int 1,Dy [fq 56,fq 57],0),(int 2,Dy [DW (DB 54) [] [.ref (.ptr 1 0)],fq 60],1),(int 3,Dy [DW (DB 55) [] [.ref (.ptr 1 0)],fq 61],2),(int 4,Dy [DW (DB 62) [] [.ref (.ptr 2 0)],fq 63],3),(int 5,Dy [DW (DB 55) [] [.ref (.ptr 1 0)],fq 61],4),(int 6,Dy [fq 64,fq 65],5),(int 7,Dy [fq 67,fq 68],6),(int 8,Dy [DW (DB 54) [] [.ref (.ptr 1 0)],fq 70],7),(int 9,Dy [fq 71,fq 72],8)] 9]
noncomputable abbrev jH(e:EntT):List Blk:=[.var [int e.time,int e.campus,int e.no,int 8,int e.stu,int e.obj,int e.term,int e.val,int e.frm,int e.til,ax e.text,int e.sec.id,int e.sec.course,int e.sec.term,int e.sec.campus,int e.sec.seats,aa (Dh DA e.sec.mts),aa (Dh Dx e.sec.grs),aa (Dh ab e.sec.labs),bool e.sec.lab,int e.req.campus,int e.req.no,int e.req.st,int e.req.kind,int e.req.time,aa (Dh Dn e.req.chs),int e.req.gsec,int e.req.glab,int e.req.key,int e.r,int e.s]]
theorem en8_a{e:EntT}{r:Int}{sb:Bool}(hst:∀h,Ev Di Γ0 39 [.agg [int e.time,int e.campus,int e.no]] h (int 0) h)(hsm:∀h,Ev Di Γ0 42 [.agg (eh 8 e 0 0 0 0 e.frm e.til e.text (f8 e.sec) (rqD e.req.kind e.req)),.agg (ek 8 e)] h (bool sb) h)(hck:∀h,Ev Di Γ0 70 [.agg (aQ 8 e)] h (int r) h)(h:List Blk):(Ev Di Γq 25 [.agg (aQ 8 e)] h (int (enR 0 sb r)) h):=by
 cases hc0:!sb
 ·let v0:=Ew [Dy [DW (DB 54) [] [.ref (.ptr 1 0)],fq 70],bool true]
  exact zD (int r) [.val (int 0),.b false,.late,.call (.ref (.mp 3)) (sm e),.b false,.inl,.inl,.val (bool sb),.b false,.val (int r)] (.c (DL (Γ':=Γq) (@hst (jH e))) (.c (show(0 != 0)=false from rfl) (.c (DL (Γ':=Γq) (@aG (jH e))) (.e (.ref (.ptr 0 3)) (.e (.ref (.ptr 0 3)) (.e (.ref (.ptr 0 3)) (.e (int 8) (.e (int 8) (.e (int 8) (.c (show some v0=some v0 from rfl) (.c (show some v0=some v0 from rfl) (.c (show(!true)=false from rfl) (.c (DL (Γ':=Γq) (@hsm (nG e))) (.c hc0 (.c (DL (Γ':=Γq) (@hck (nG e))) .n))))))))))))))) h (by subst v0;first|rfl|(simp only[enR,hc0];first|done|rfl))
 ·let v0:=Ew [Dy [DW (DB 54) [] [.ref (.ptr 1 0)],fq 70],bool true]
  exact zD (int 370) [.val (int 0),.b false,.late,.call (.ref (.mp 3)) (sm e),.b false,.inl,.inl,.val (bool sb),.b true] (.c (DL (Γ':=Γq) (@hst (jH e))) (.c (show(0 != 0)=false from rfl) (.c (DL (Γ':=Γq) (@aG (jH e))) (.e (.ref (.ptr 0 3)) (.e (.ref (.ptr 0 3)) (.e (.ref (.ptr 0 3)) (.e (int 8) (.e (int 8) (.e (int 8) (.c (show some v0=some v0 from rfl) (.c (show some v0=some v0 from rfl) (.c (show(!true)=false from rfl) (.c (DL (Γ':=Γq) (@hsm (nG e))) (.c hc0 .n)))))))))))))) h (by subst v0;first|rfl|(simp only[enR,hc0];first|done|rfl))
noncomputable abbrev nH(e:EntT):List Blk:=[.var [int e.time,int e.campus,int e.no,int 9,int e.stu,int e.obj,int e.term,int e.val,int e.frm,int e.til,ax e.text,int e.sec.id,int e.sec.course,int e.sec.term,int e.sec.campus,int e.sec.seats,aa (Dh DA e.sec.mts),aa (Dh Dx e.sec.grs),aa (Dh ab e.sec.labs),bool e.sec.lab,int e.req.campus,int e.req.no,int e.req.st,int e.req.kind,int e.req.time,aa (Dh Dn e.req.chs),int e.req.gsec,int e.req.glab,int e.req.key,int e.r,int e.s],.var [fq 53],.var [DW (DB 55) [] [.ref (.ptr 1 0)]],.map [(int 1,Dy [fq 56,fq 57],0),(int 2,Dy [DW (DB 54) [] [.ref (.ptr 1 0)],fq 60],1),(int 3,Dy [DW (DB 55) [] [.ref (.ptr 1 0)],fq 61],2),(int 4,Dy [DW (DB 62) [] [.ref (.ptr 2 0)],fq 63],3),(int 5,Dy [DW (DB 55) [] [.ref (.ptr 1 0)],fq 61],4),(int 6,Dy [fq 64,fq 65],5),(int 7,Dy [fq 67,fq 68],6),(int 8,Dy [DW (DB 54) [] [.ref (.ptr 1 0)],fq 70],7),(int 9,Dy [fq 71,fq 72],8)] 9,.var [fq 71,fq 72],.var [int e.time,int e.campus,int e.no,int 9,int e.stu,int e.obj,int 0,int e.val,int e.frm,int e.til,ax e.text,int e.sec.id,int e.sec.course,int e.sec.term,int e.sec.campus,int e.sec.seats,aa (Dh DA e.sec.mts),aa (Dh Dx e.sec.grs),aa (Dh ab e.sec.labs),bool e.sec.lab,int e.req.campus,int e.req.no,int e.req.st,int e.req.kind,int e.req.time,aa (Dh Dn e.req.chs),int e.req.gsec,int e.req.glab,int e.req.key,int e.r,int e.s]]
noncomputable abbrev sn(e:EntT):List Blk:=[.var [int e.time,int e.campus,int e.no,int 9,int e.stu,int e.obj,int e.term,int e.val,int e.frm,int e.til,ax e.text,int e.sec.id,int e.sec.course,int e.sec.term,int e.sec.campus,int e.sec.seats,aa (Dh DA e.sec.mts),aa (Dh Dx e.sec.grs),aa (Dh ab e.sec.labs),bool e.sec.lab,int e.req.campus,int e.req.no,int e.req.st,int e.req.kind,int e.req.time,aa (Dh Dn e.req.chs),int e.req.gsec,int e.req.glab,int e.req.key,int e.r,int e.s],.var [fq 53],.var [DW (DB 55) [] [.ref (.ptr 1 0)]],.map [(int 1,Dy [fq 56,fq 57],0),(int 2,Dy [DW (DB 54) [] [.ref (.ptr 1 0)],fq 60],1),(int 3,Dy [DW (DB 55) [] [.ref (.ptr 1 0)],fq 61],2),(int 4,Dy [DW (DB 62) [] [.ref (.ptr 2 0)],fq 63],3),(int 5,Dy [DW (DB 55) [] [.ref (.ptr 1 0)],fq 61],4),(int 6,Dy [fq 64,fq 65],5),(int 7,Dy [fq 67,fq 68],6),(int 8,Dy [DW (DB 54) [] [.ref (.ptr 1 0)],fq 70],7),(int 9,Dy [fq 71,fq 72],8)] 9]
noncomputable abbrev jI(e:EntT):List Blk:=[.var [int e.time,int e.campus,int e.no,int 9,int e.stu,int e.obj,int e.term,int e.val,int e.frm,int e.til,ax e.text,int e.sec.id,int e.sec.course,int e.sec.term,int e.sec.campus,int e.sec.seats,aa (Dh DA e.sec.mts),aa (Dh Dx e.sec.grs),aa (Dh ab e.sec.labs),bool e.sec.lab,int e.req.campus,int e.req.no,int e.req.st,int e.req.kind,int e.req.time,aa (Dh Dn e.req.chs),int e.req.gsec,int e.req.glab,int e.req.key,int e.r,int e.s]]
theorem en9_a{e:EntT}{r:Int}{sb:Bool}(hst:∀h,Ev Di Γ0 39 [.agg [int e.time,int e.campus,int e.no]] h (int 0) h)(hsm:∀h,Ev Di Γ0 42 [.agg (eh 9 e e.stu e.obj 0 e.val e.frm e.til e.text (f8 e.sec) (rqD e.req.kind e.req)),.agg (ek 9 e)] h (bool sb) h)(hck:∀h,Ev Di Γ0 72 [.agg (aQ 9 e)] h (int r) h)(h:List Blk):(Ev Di Γq 25 [.agg (aQ 9 e)] h (int (enR 0 sb r)) h):=by
 cases hc0:!sb
 ·let v0:=Ew [Dy [fq 71,fq 72],bool true]
  exact zD (int r) [.val (int 0),.b false,.late,.call (.ref (.mp 3)) (sn e),.b false,.inl,.val (bool sb),.b false,.val (int r)] (.c (DL (Γ':=Γq) (@hst (jI e))) (.c (show(0 != 0)=false from rfl) (.c (DL (Γ':=Γq) (@aG (jI e))) (.e (.ref (.ptr 0 3)) (.e (.ref (.ptr 0 3)) (.e (.ref (.ptr 0 3)) (.e (int 9) (.e (int 9) (.e (int 9) (.c (show some v0=some v0 from rfl) (.c (show some v0=some v0 from rfl) (.c (show(!true)=false from rfl) (.c (DL (Γ':=Γq) (@hsm (nH e))) (.c hc0 (.c (DL (Γ':=Γq) (@hck (nH e))) .n))))))))))))))) h (by subst v0;first|rfl|(simp only[enR,hc0];first|done|rfl))
 ·let v0:=Ew [Dy [fq 71,fq 72],bool true]
  exact zD (int 370) [.val (int 0),.b false,.late,.call (.ref (.mp 3)) (sn e),.b false,.inl,.val (bool sb),.b true] (.c (DL (Γ':=Γq) (@hst (jI e))) (.c (show(0 != 0)=false from rfl) (.c (DL (Γ':=Γq) (@aG (jI e))) (.e (.ref (.ptr 0 3)) (.e (.ref (.ptr 0 3)) (.e (.ref (.ptr 0 3)) (.e (int 9) (.e (int 9) (.e (int 9) (.c (show some v0=some v0 from rfl) (.c (show some v0=some v0 from rfl) (.c (show(!true)=false from rfl) (.c (DL (Γ':=Γq) (@hsm (nH e))) (.c hc0 .n)))))))))))))) h (by subst v0;first|rfl|(simp only[enR,hc0];first|done|rfl))
abbrev ekKV(n:Nat):List (D×D×Nat):=[(int 1,.agg [fq 56,fq 57],0),(int 2,.agg [kfn 54 n,fq 60],1),(int 3,.agg [kfn 55 n,fq 61],2),(int 4,.agg [kfn 62 (n+1),fq 63],3),(int 5,.agg [kfn 55 n,fq 61],4),(int 6,.agg [fq 64,fq 65],5),(int 7,.agg [fq 67,fq 68],6),(int 8,.agg [kfn 54 n,fq 70],7),(int 9,.agg [fq 71,fq 72],8)]
theorem lkE2{k:Int}(hk:¬(1≤k∧k≤9))(n:Nat):zl Di 78 (ekKV n) (int k) true (.tup [.agg [lit .nilFunc,lit .nilFunc],bool false]):=by
 have e1:Di.underlying 78=some (.map 3 76):=by kernel_rfl
 have e2:cy Di 3 (int k)=true:=by kernel_rfl
 have e3:ge Di 76=some (.agg #[.nilFunc,.nilFunc]):=by kernel_rfl
 have e4:bO (int k) (ekKV n) 0=some none:=by
  have nn:∀m:Int,1≤m→m≤9→bf (int k) (int m)=some false:=fun m h1 h2=>by
   have:¬k=m:=by omega
   simp[bf,this]
  simp only[bO,nn 1 (by decide) (by decide),nn 2 (by decide) (by decide),nn 3 (by decide) (by decide),nn 4 (by decide) (by decide),nn 5 (by decide) (by decide),nn 6 (by decide) (by decide),nn 7 (by decide) (by decide),nn 8 (by decide) (by decide),nn 9 (by decide) (by decide)]
 unfold zl aR
 simp only[e1,je,DN,e2,if_true,e3,e4]
 rfl
noncomputable abbrev so(e:EntT):List Blk:=[.var [int e.time,int e.campus,int e.no,int e.kind,int e.stu,int e.obj,int e.term,int e.val,int e.frm,int e.til,ax e.text,int e.sec.id,int e.sec.course,int e.sec.term,int e.sec.campus,int e.sec.seats,aa (Dh DA e.sec.mts),aa (Dh Dx e.sec.grs),aa (Dh ab e.sec.labs),bool e.sec.lab,int e.req.campus,int e.req.no,int e.req.st,int e.req.kind,int e.req.time,aa (Dh Dn e.req.chs),int e.req.gsec,int e.req.glab,int e.req.key,int e.r,int e.s],.var [fq 53],.var [DW (DB 55) [] [.ref (.ptr 1 0)]],.map [(int 1,Dy [fq 56,fq 57],0),(int 2,Dy [DW (DB 54) [] [.ref (.ptr 1 0)],fq 60],1),(int 3,Dy [DW (DB 55) [] [.ref (.ptr 1 0)],fq 61],2),(int 4,Dy [DW (DB 62) [] [.ref (.ptr 2 0)],fq 63],3),(int 5,Dy [DW (DB 55) [] [.ref (.ptr 1 0)],fq 61],4),(int 6,Dy [fq 64,fq 65],5),(int 7,Dy [fq 67,fq 68],6),(int 8,Dy [DW (DB 54) [] [.ref (.ptr 1 0)],fq 70],7),(int 9,Dy [fq 71,fq 72],8)] 9]
noncomputable abbrev sq(e:EntT):List Blk:=[.var [int e.time,int e.campus,int e.no,int e.kind,int e.stu,int e.obj,int e.term,int e.val,int e.frm,int e.til,ax e.text,int e.sec.id,int e.sec.course,int e.sec.term,int e.sec.campus,int e.sec.seats,aa (Dh DA e.sec.mts),aa (Dh Dx e.sec.grs),aa (Dh ab e.sec.labs),bool e.sec.lab,int e.req.campus,int e.req.no,int e.req.st,int e.req.kind,int e.req.time,aa (Dh Dn e.req.chs),int e.req.gsec,int e.req.glab,int e.req.key,int e.r,int e.s]]
theorem enN_a{e:EntT}(hk:¬(1≤e.kind∧e.kind≤9))(hst:∀h,Ev Di Γ0 39 [.agg [int e.time,int e.campus,int e.no]] h (int 0) h)(h:List Blk):(Ev Di Γq 25 [.agg (aQ e.kind e)] h (int 370) h):=by
 let v1:List D:=[int e.time,int e.campus,int e.no,int e.kind,int e.stu,int e.obj,int e.term,int e.val,int e.frm,int e.til,ax e.text,int e.sec.id,int e.sec.course,int e.sec.term,int e.sec.campus,int e.sec.seats,aa (Dh DA e.sec.mts),aa (Dh Dx e.sec.grs),aa (Dh ab e.sec.labs),bool e.sec.lab,int e.req.campus,int e.req.no,int e.req.st,int e.req.kind,int e.req.time,aa (Dh Dn e.req.chs),int e.req.gsec,int e.req.glab,int e.req.key,int e.r,int e.s]
 let v2:List Blk:=[.map [(int 1,Dy [fq 56,fq 57],0),(int 2,Dy [DW (DB 54) [] [.ref (.ptr 1 0)],fq 60],1),(int 3,Dy [DW (DB 55) [] [.ref (.ptr 1 0)],fq 61],2),(int 4,Dy [DW (DB 62) [] [.ref (.ptr 2 0)],fq 63],3),(int 5,Dy [DW (DB 55) [] [.ref (.ptr 1 0)],fq 61],4),(int 6,Dy [fq 64,fq 65],5),(int 7,Dy [fq 67,fq 68],6),(int 8,Dy [DW (DB 54) [] [.ref (.ptr 1 0)],fq 70],7),(int 9,Dy [fq 71,fq 72],8)] 0]
 let v3:List D:=[int e.time,int e.campus,int e.no]
 let v0:=List.getD [mkT 40 0 [(0,Dy v1),(1,.ref (.ptr 0 0)),(2,int 0),(3,int 0),(7,.ref (.ptr 0 0)),(8,Dy v3),(9,int 0),(10,int 0),(11,bool (0 != 0))],mkT 40 0 [(0,Dy v1),(1,.ref (.ptr 0 0)),(2,int 0),(3,int 0),(7,.ref (.ptr 0 0)),(8,Dy v3),(9,int 0),(10,int 0),(11,bool (0 != 0)),(14,.ref (.mp 3))],mkT 40 0 [(0,Dy v1),(1,.ref (.ptr 0 0)),(2,int 0),(3,int 0),(7,.ref (.ptr 0 0)),(8,Dy v3),(9,int 0),(10,int 0),(11,bool (0 != 0)),(14,.ref (.mp 3)),(15,.ref (.ptr 0 3))],mkT 40 0 [(0,Dy v1),(1,.ref (.ptr 0 0)),(2,int 0),(3,int 0),(7,.ref (.ptr 0 0)),(8,Dy v3),(9,int 0),(10,int 0),(11,bool (0 != 0)),(14,.ref (.mp 3)),(15,.ref (.ptr 0 3)),(16,int e.kind)],mkT 40 0 [(0,Dy v1),(1,.ref (.ptr 0 0)),(2,int 0),(3,int 0),(7,.ref (.ptr 0 0)),(8,Dy v3),(9,int 0),(10,int 0),(11,bool (0 != 0)),(14,.ref (.mp 3)),(15,.ref (.ptr 0 3)),(16,int e.kind),(17,Ew [Dy [EK (DS DT),EK (DS DT)],bool false])],mkT 40 0 [(0,Dy v1),(1,.ref (.ptr 0 0)),(2,int 0),(3,int 0),(7,.ref (.ptr 0 0)),(8,Dy v3),(9,int 0),(10,int 0),(11,bool (0 != 0)),(13,Ew [Dy [EK (DS DT),EK (DS DT)],bool false]),(14,.ref (.mp 3)),(15,.ref (.ptr 0 3)),(16,int e.kind),(17,Ew [Dy [EK (DS DT),EK (DS DT)],bool false])],mkT 40 0 [(0,Dy v1),(1,.ref (.ptr 0 0)),(2,int 0),(3,int 0),(7,.ref (.ptr 0 0)),(8,Dy v3),(9,int 0),(10,int 0),(11,bool (0 != 0)),(13,Ew [Dy [EK (DS DT),EK (DS DT)],bool false]),(14,.ref (.mp 3)),(15,.ref (.ptr 0 3)),(16,int e.kind),(17,Ew [Dy [EK (DS DT),EK (DS DT)],bool false]),(18,Dy [EK (DS DT),EK (DS DT)])],mkT 40 0 [(0,Dy v1),(1,.ref (.ptr 0 0)),(2,int 0),(3,int 0),(7,.ref (.ptr 0 0)),(8,Dy v3),(9,int 0),(10,int 0),(11,bool (0 != 0)),(13,Ew [Dy [EK (DS DT),EK (DS DT)],bool false]),(14,.ref (.mp 3)),(15,.ref (.ptr 0 3)),(16,int e.kind),(17,Ew [Dy [EK (DS DT),EK (DS DT)],bool false]),(18,Dy [EK (DS DT),EK (DS DT)]),(19,bool false)],mkT 40 0 [(0,Dy v1),(1,.ref (.ptr 0 0)),(2,int 0),(3,int 0),(4,.ref (.ptr 4 0)),(7,.ref (.ptr 0 0)),(8,Dy v3),(9,int 0),(10,int 0),(11,bool (0 != 0)),(13,Ew [Dy [EK (DS DT),EK (DS DT)],bool false]),(14,.ref (.mp 3)),(15,.ref (.ptr 0 3)),(16,int e.kind),(17,Ew [Dy [EK (DS DT),EK (DS DT)],bool false]),(18,Dy [EK (DS DT),EK (DS DT)]),(19,bool false)],mkT 40 0 [(0,Dy v1),(1,.ref (.ptr 0 0)),(2,int 0),(3,int 0),(4,.ref (.ptr 4 0)),(7,.ref (.ptr 0 0)),(8,Dy v3),(9,int 0),(10,int 0),(11,bool (0 != 0)),(13,Ew [Dy [EK (DS DT),EK (DS DT)],bool false]),(14,.ref (.mp 3)),(15,.ref (.ptr 0 3)),(16,int e.kind),(17,Ew [Dy [EK (DS DT),EK (DS DT)],bool false]),(18,Dy [EK (DS DT),EK (DS DT)]),(19,bool false)]] (aL (s7 [{dst:=some 14,op:=Ip {callee:=F9 (F5 41),args:=#[],argTypes:=#[]},type:=78,pos:= "entries.go:99",after:=#[],guard:=none},{dst:=some 15,op:=Gu 46 (DD 1) 1,type:=0,pos:= "entries.go:99",after:=#[],guard:=none},{dst:=some 16,op:=Iq 3 (DD 15),type:=3,pos:= "entries.go:99",after:=#[{on:=1,ground:=DH}],guard:=none},{dst:=some 17,op:=Hl 78 (DD 14) (DD 16) true,type:=77,pos:= "entries.go:99",after:=#[{on:=0,ground:=DH},{on:=2,ground:=DH}],guard:=none},{dst:=some 13,op:=Ir (DD 17),type:=77,pos:= "entries.go:99",after:=#[{on:=3,ground:=DH}],guard:=none},{dst:=some 18,op:=Fe (DD 13) 0,type:=76,pos:= "entries.go:99",after:=#[{on:=4,ground:=DH}],guard:=none},{dst:=some 19,op:=Fe (DD 13) 1,type:=4,pos:= "entries.go:99",after:=#[{on:=4,ground:=DH},{on:=8,ground:=FX Ed}],guard:=none},{dst:=some 4,op:=HV 76,type:=0,pos:= "entries.go:99",after:=#[],guard:=none},{dst:=none,op:=HW 76 (DD 4) (DD 18),type:=0,pos:= "entries.go:99",after:=#[{on:=7,ground:=DH},{on:=5,ground:=DH},{on:=0,ground:=EI},{on:=0,ground:=Dv},{on:=1,ground:=Dv},{on:=2,ground:=Dv},{on:=3,ground:=Dv},{on:=4,ground:=Dv},{on:=5,ground:=Dv},{on:=6,ground:=FN Ed},{on:=7,ground:=Dv}],guard:=none},{dst:=some 5,op:=Hm (DD 19),type:=4,pos:= "entries.go:99",after:=#[{on:=6,ground:=DH},{on:=8,ground:=EI},{on:=0,ground:=Dv},{on:=1,ground:=Dv},{on:=2,ground:=Dv},{on:=3,ground:=Dv},{on:=4,ground:=Dv},{on:=5,ground:=Dv},{on:=6,ground:=Dv},{on:=7,ground:=Dv},{on:=8,ground:=Dv}],guard:=none}] (a9 [{dst:=some 14,op:=Ip {callee:=F9 (F5 41),args:=#[],argTypes:=#[]},type:=78,pos:= "entries.go:99",after:=#[],guard:=none},{dst:=some 15,op:=Gu 46 (DD 1) 1,type:=0,pos:= "entries.go:99",after:=#[],guard:=none},{dst:=some 16,op:=Iq 3 (DD 15),type:=3,pos:= "entries.go:99",after:=#[{on:=1,ground:=DH}],guard:=none},{dst:=some 17,op:=Hl 78 (DD 14) (DD 16) true,type:=77,pos:= "entries.go:99",after:=#[{on:=0,ground:=DH},{on:=2,ground:=DH}],guard:=none},{dst:=some 13,op:=Ir (DD 17),type:=77,pos:= "entries.go:99",after:=#[{on:=3,ground:=DH}],guard:=none},{dst:=some 18,op:=Fe (DD 13) 0,type:=76,pos:= "entries.go:99",after:=#[{on:=4,ground:=DH}],guard:=none},{dst:=some 19,op:=Fe (DD 13) 1,type:=4,pos:= "entries.go:99",after:=#[{on:=4,ground:=DH},{on:=8,ground:=FX Ed}],guard:=none},{dst:=some 4,op:=HV 76,type:=0,pos:= "entries.go:99",after:=#[],guard:=none},{dst:=none,op:=HW 76 (DD 4) (DD 18),type:=0,pos:= "entries.go:99",after:=#[{on:=7,ground:=DH},{on:=5,ground:=DH},{on:=0,ground:=EI},{on:=0,ground:=Dv},{on:=1,ground:=Dv},{on:=2,ground:=Dv},{on:=3,ground:=Dv},{on:=4,ground:=Dv},{on:=5,ground:=Dv},{on:=6,ground:=FN Ed},{on:=7,ground:=Dv}],guard:=none},{dst:=some 5,op:=Hm (DD 19),type:=4,pos:= "entries.go:99",after:=#[{on:=6,ground:=DH},{on:=8,ground:=EI},{on:=0,ground:=Dv},{on:=1,ground:=Dv},{on:=2,ground:=Dv},{on:=3,ground:=Dv},{on:=4,ground:=Dv},{on:=5,ground:=Dv},{on:=6,ground:=Dv},{on:=7,ground:=Dv},{on:=8,ground:=Dv}],guard:=none}] []) (gA [{dst:=some 14,op:=Ip {callee:=F9 (F5 41),args:=#[],argTypes:=#[]},type:=78,pos:= "entries.go:99",after:=#[],guard:=none},{dst:=some 15,op:=Gu 46 (DD 1) 1,type:=0,pos:= "entries.go:99",after:=#[],guard:=none},{dst:=some 16,op:=Iq 3 (DD 15),type:=3,pos:= "entries.go:99",after:=#[{on:=1,ground:=DH}],guard:=none},{dst:=some 17,op:=Hl 78 (DD 14) (DD 16) true,type:=77,pos:= "entries.go:99",after:=#[{on:=0,ground:=DH},{on:=2,ground:=DH}],guard:=none},{dst:=some 13,op:=Ir (DD 17),type:=77,pos:= "entries.go:99",after:=#[{on:=3,ground:=DH}],guard:=none},{dst:=some 18,op:=Fe (DD 13) 0,type:=76,pos:= "entries.go:99",after:=#[{on:=4,ground:=DH}],guard:=none},{dst:=some 19,op:=Fe (DD 13) 1,type:=4,pos:= "entries.go:99",after:=#[{on:=4,ground:=DH},{on:=8,ground:=FX Ed}],guard:=none},{dst:=some 4,op:=HV 76,type:=0,pos:= "entries.go:99",after:=#[],guard:=none},{dst:=none,op:=HW 76 (DD 4) (DD 18),type:=0,pos:= "entries.go:99",after:=#[{on:=7,ground:=DH},{on:=5,ground:=DH},{on:=0,ground:=EI},{on:=0,ground:=Dv},{on:=1,ground:=Dv},{on:=2,ground:=Dv},{on:=3,ground:=Dv},{on:=4,ground:=Dv},{on:=5,ground:=Dv},{on:=6,ground:=FN Ed},{on:=7,ground:=Dv}],guard:=none},{dst:=some 5,op:=Hm (DD 19),type:=4,pos:= "entries.go:99",after:=#[{on:=6,ground:=DH},{on:=8,ground:=EI},{on:=0,ground:=Dv},{on:=1,ground:=Dv},{on:=2,ground:=Dv},{on:=3,ground:=Dv},{on:=4,ground:=Dv},{on:=5,ground:=Dv},{on:=6,ground:=Dv},{on:=7,ground:=Dv},{on:=8,ground:=Dv}],guard:=none}] (a9 [{dst:=some 14,op:=Ip {callee:=F9 (F5 41),args:=#[],argTypes:=#[]},type:=78,pos:= "entries.go:99",after:=#[],guard:=none},{dst:=some 15,op:=Gu 46 (DD 1) 1,type:=0,pos:= "entries.go:99",after:=#[],guard:=none},{dst:=some 16,op:=Iq 3 (DD 15),type:=3,pos:= "entries.go:99",after:=#[{on:=1,ground:=DH}],guard:=none},{dst:=some 17,op:=Hl 78 (DD 14) (DD 16) true,type:=77,pos:= "entries.go:99",after:=#[{on:=0,ground:=DH},{on:=2,ground:=DH}],guard:=none},{dst:=some 13,op:=Ir (DD 17),type:=77,pos:= "entries.go:99",after:=#[{on:=3,ground:=DH}],guard:=none},{dst:=some 18,op:=Fe (DD 13) 0,type:=76,pos:= "entries.go:99",after:=#[{on:=4,ground:=DH}],guard:=none},{dst:=some 19,op:=Fe (DD 13) 1,type:=4,pos:= "entries.go:99",after:=#[{on:=4,ground:=DH},{on:=8,ground:=FX Ed}],guard:=none},{dst:=some 4,op:=HV 76,type:=0,pos:= "entries.go:99",after:=#[],guard:=none},{dst:=none,op:=HW 76 (DD 4) (DD 18),type:=0,pos:= "entries.go:99",after:=#[{on:=7,ground:=DH},{on:=5,ground:=DH},{on:=0,ground:=EI},{on:=0,ground:=Dv},{on:=1,ground:=Dv},{on:=2,ground:=Dv},{on:=3,ground:=Dv},{on:=4,ground:=Dv},{on:=5,ground:=Dv},{on:=6,ground:=FN Ed},{on:=7,ground:=Dv}],guard:=none},{dst:=some 5,op:=Hm (DD 19),type:=4,pos:= "entries.go:99",after:=#[{on:=6,ground:=DH},{on:=8,ground:=EI},{on:=0,ground:=Dv},{on:=1,ground:=Dv},{on:=2,ground:=Dv},{on:=3,ground:=Dv},{on:=4,ground:=Dv},{on:=5,ground:=Dv},{on:=6,ground:=Dv},{on:=7,ground:=Dv},{on:=8,ground:=Dv}],guard:=none}] []))) (0+1+1+1)) []
 let v4:=Ew [Dy [EK (DS DT),EK (DS DT)],bool false]
 refine z0 [.val (int 0),.b false,.late,.call (.ref (.mp 3)) (so e),.ov 17 (Ew [Dy [lit DT,lit DT],bool false]),.b true] (.c (DL (Γ':=Γq) (@hst (sq e))) (.c (show(0 != 0)=false from rfl) (.c (DL (Γ':=Γq) (@aG (sq e))) (.c (show aR Di (so e) 78 (.ref (.mp 3)) (int e.kind) true=some v4 from ?_) (.e (.ref (.ptr 0 3)) (.e (.ref (.ptr 0 3)) (.e (.ref (.ptr 0 3)) (.e (int e.kind) (.e (int e.kind) (.e (int e.kind) (.c (show aR Di v2 78 (.ref (.mp 0)) (evalD Γq v0 (DD 16)) true=some v4 from ?_) (.c (show aR Di v2 78 (.ref (.mp 0)) (evalD Γq v0 (DD 16)) true=some v4 from ?_) (.c (show(!false)=true from rfl) .n))))))))))))) h<;>subst v1 v2 v3 v0 v4<;>(first|assumption|rfl|exact lkE2 hk _)
end Go.Vi
