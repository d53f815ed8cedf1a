/- LedgerCheckSpec: part of the proof: contracts of the functions that the law reaches, and the law. No conditions beyond the given statement's own. -/
import Derived.Test.YtoincdhjcahadaaGreatDoorW6
import Derived.Test.YtoincdhjcahadaaGreatDoorCards
import Derived.Test.YtoincdhjcahadaaGreatDoorTie
import Derived.WalkKit
import Derived.ProofKit
import Derived.OpenShut
import Derived.Deep.DeepHandedRow
import Derived.Lib.LaidTab
import Derived.LaidHandle
import Derived.LaidLaws
import Derived.LaidSub
import Derived.FnData
open Decidable renaming decide → Dd
open Go Go.Proofs
namespace Go.Vi
set_option maxRecDepth 100000
set_option maxHeartbeats 4000000
def fewE(e:EntT):Bool:=Dd ((e.text.size:Int)≤1000)&&Dd (((e.sec.mts.map MeT.row).length:Int)≤20)&&Dd (((e.sec.grs.map GrT.row).length:Int)≤12)&&Dd (((e.sec.labs.map intRow).length:Int)≤12)&&Dd (((e.req.chs.map BuT.row).length:Int)≤12)
theorem fewe_ev{e:EntT}(h:List Blk):(Ev Tryz.prog Γ0 16 [ag e.row] h (bool (fewE e)) h):=by
 exact Ev.castH (Ev.sym0 (d:=bool (Dd ((↑(ByteArray.size e.text):Int)≤1000)&&Dd ((↑(List.length (List.map MeT.row e.sec.mts)):Int)≤20)&&Dd ((↑(List.length (List.map GrT.row e.sec.grs)):Int)≤12)&&Dd ((↑(List.length (List.map intRow e.sec.labs)):Int)≤12)&&Dd ((↑(List.length (List.map BuT.row e.req.chs)):Int)≤12))) pok [] (by kernel_rfl) .n rfl rfl h) (by rfl) (by rfl)
abbrev fwS(l:List (List Dp))(i:Int):AS:={t:=mkT 19 0 [(0,rowsD' l),(3,int i)],h:=[],m:=[]}
abbrev fwX:AS:={t:=mkT 19 0 [(2,bool false)],h:=[],m:=[]}
abbrev fwE(l:List (List Dp)):AS:={t:=mkT 19 0 [(0,rowsD' l)],h:=[],m:=[]}
theorem fw_ok{l:List (List Dp)}{e:EntT}{i:Nat}(hr:RowAt (i:Int) l e.row 31)(hlt:Dd ((i:Int)<(l.length:Int))=true)(hw:IntKind.i64.wrap ((i:Int)+1)=((i+1:Nat):Int))(hf:∀h,Ev Tryz.prog Γ0 16 [ag e.row] h (bool true) h):(CW Tryz.prog Γ0 [] false (sub Tryz.f11 0) (fwS l i) .normal (fwS l ((i+1:Nat):Int))):=by
 refine CW.cast (CW.symX (s':={t:=mkT 19 0 [(0,rowsD' l),(3,int (IntKind.wrap IntKind.i64 ((↑i:Int)+1)))],h:=[],m:=[]}) (e:=Exit.normal) pok [.st (.mask [0,3]),.st (.trim 0)] [.b true,.row [vi e.time,vi e.campus,vi e.no,vi e.kind,vi e.stu,vi e.obj,vi e.term,vi e.val,vi e.frm,vi e.til,vs e.text,vi e.sec.id,vi e.sec.course,vi e.sec.term,vi e.sec.campus,vi e.sec.seats,Dp.sl (List.map MeT.row e.sec.mts),Dp.sl (List.map GrT.row e.sec.grs),Dp.sl (List.map intRow e.sec.labs),Dp.v (Value.bool e.sec.lab),vi e.req.campus,vi e.req.no,vi e.req.st,vi e.req.kind,vi e.req.time,Dp.sl (List.map BuT.row e.req.chs),vi e.req.gsec,vi e.req.glab,vi e.req.key,vi e.r,vi e.s],.val (bool true),.b false] (by kernel_rfl) (.c hlt (.c hr (.c (@hf ([])) (.c (show(!true)=false from rfl) .n))))) ?_ ?_<;>(first|rfl|(rw[hw]<;>rfl))
theorem fw_bad{l:List (List Dp)}{e:EntT}{i:Nat}(hr:RowAt (i:Int) l e.row 31)(hlt:Dd ((i:Int)<(l.length:Int))=true)(hf:∀h,Ev Tryz.prog Γ0 16 [ag e.row] h (bool false) h):(CW Tryz.prog Γ0 [] false (sub Tryz.f11 0) (fwS l i) .ret fwX):=by
 exact CW.cast (CW.symX (s':={t:=mkT 19 0 [(2,bool false)],h:=[],m:=[]}) (e:=Exit.ret) pok [.st (.mask [2]),.st (.trim 0)] [.b true,.row [vi e.time,vi e.campus,vi e.no,vi e.kind,vi e.stu,vi e.obj,vi e.term,vi e.val,vi e.frm,vi e.til,vs e.text,vi e.sec.id,vi e.sec.course,vi e.sec.term,vi e.sec.campus,vi e.sec.seats,Dp.sl (List.map MeT.row e.sec.mts),Dp.sl (List.map GrT.row e.sec.grs),Dp.sl (List.map intRow e.sec.labs),Dp.v (Value.bool e.sec.lab),vi e.req.campus,vi e.req.no,vi e.req.st,vi e.req.kind,vi e.req.time,Dp.sl (List.map BuT.row e.req.chs),vi e.req.gsec,vi e.req.glab,vi e.req.key,vi e.r,vi e.s],.val (bool false),.b true] (by kernel_rfl) (.c hlt (.c hr (.c (@hf ([])) (.c (show(!false)=true from rfl) .n))))) (by rfl) (by rfl)
theorem fw_last{l:List (List Dp)}{i:Nat}(hlt:Dd ((i:Int)<(l.length:Int))=false):(CW Tryz.prog Γ0 [] false (sub Tryz.f11 0) (fwS l i) (.exit 0) (fwE l)):=by
 exact CW.cast (CW.symX (s':={t:=mkT 19 0 [(0,rowsD' l)],h:=[],m:=[]}) (e:=Exit.exit 0) pok [.st (.mask [0])] [.b false] (by kernel_rfl) (.c hlt .n)) (by rfl) (by rfl)
def fwF(e:EntT)(_:Unit):Unit⊕Unit:=match fewE e with
 | true=>.inl ()
 | false=>.inr ()
theorem fw_each{l:List EntT}(hs:Short l):CW Tryz.prog Γ0 [] false (.loop (sub Tryz.f11 0)) (fwS (l.map EntT.row) 0) (eachFin (.exit 0) (fun _:Unit=>fwE (l.map EntT.row)) (fun _:Unit=>(.ret,fwX)) (forL fwF l ())).1 (eachFin (.exit 0) (fun _:Unit=>fwE (l.map EntT.row)) (fun _:Unit=>(.ret,fwX)) (forL fwF l ())).2:=by
 refine CW.each l fwF (fun j _=>fwS (l.map EntT.row) (j:Int)) (.exit 0) _ _ (fun _ _=>True) (by simp) (fun _=>by simp) ?_ ?_ () trivial
 ·intro j e a hj _
  have hlt:=(List.getElem?_eq_some_iff.1 hj).1
  have hr:=rowAt (row:=EntT.row) (sz:=31) hj rfl
  have hf:=fun h=>fewe_ev (e:=e) h
  refine⟨fun _ _=>trivial,?_⟩
  unfold fwF
  cases hb:fewE e with
  | true=>rw[hb] at hf;exact fw_ok hr (lt_len EntT.row hlt) (wrap_succ hlt hs) hf
  | false=>rw[hb] at hf;exact fw_bad hr (lt_len EntT.row hlt) hf
 ·intro a _
  exact fw_last (ge_len EntT.row l)
theorem few_x{L:List (List Dp)}(hl:CW Tryz.prog Γ0 [] false (.loop (sub Tryz.f11 0)) (fwS L 0) .ret fwX)(h:List Blk):(Ev Tryz.prog Γ0 11 [rowsD' L] h (bool false) h):=by
 have hl0:=(@hl)
 exact Ev.castH (Ev.sym0 (d:=bool false) pok [.sum [0,3] (Exit.ret) {t:=mkT 19 0 [(2,bool false)],h:=[],m:=[]}] (by kernel_rfl) (.c hl0 .n) rfl rfl h) (by rfl) (by rfl)
theorem few_o{L:List (List Dp)}(hl:CW Tryz.prog Γ0 [] false (.loop (sub Tryz.f11 0)) (fwS L 0) (.exit 0) (fwE L))(h:List Blk):(Ev Tryz.prog Γ0 11 [rowsD' L] h (bool (Dd ((L.length:Int)≤16))) h):=by
 have hl0:=(@hl)
 exact Ev.castH (Ev.sym0 (d:=bool (Dd ((↑(List.length L):Int)≤16))) pok [.sum [0,3] (Exit.exit 0) {t:=mkT 19 0 [(0,rowsD' L)],h:=[],m:=[]}] (by kernel_rfl) (.c hl0 .n) rfl rfl h) (by rfl) (by rfl)
theorem fwF_all:∀{l:List EntT},forL fwF l ()=(match l.all fewE with|true=>.inl ()|false=>.inr ())
 | []=>rfl
 | e::l=>by
  unfold forL
  rw[List.all_cons]
  cases hb:fewE e with
  | true=>simp only[fwF,hb,Bool.true_and];exact fwF_all
  | false=>simp only[fwF,hb];rfl
def fewR(l:List EntT):Bool:=l.all fewE&&Dd (((l.map EntT.row).length:Int)≤16)
theorem few_ev{l:List EntT}(hs:Short l)(h:List Blk):Ev Tryz.prog Γ0 11 [rowsD' (l.map EntT.row)] h (bool (fewR l)) h:=by
 have:=fw_each hs
 rw[fwF_all] at this
 unfold fewR
 cases hf:l.all fewE with
 | true=>rw[hf] at this;rw[Bool.true_and];exact few_o this h
 | false=>rw[hf] at this;exact few_x this h
abbrev laS(l:List (List Dp))(c:Int)(s:StT)(i:Int):AS:={t:=mkT 24 0 [(1,int c),(4,.ref (.ptr 0 0)),(9,rowsD' l),(10,int (l.length:Int)),(11,int i)],h:=[.var (s.row.map .p)],m:=[]}
abbrev laE(s:StT):AS:={t:=mkT 24 0 [(4,.ref (.ptr 0 0))],h:=[.var (s.row.map .p)],m:=[]}
theorem la_t{l:List (List Dp)}{e:EntT}{s:StT}{c:Int}{i:Nat}(hr:RowAt (i:Int) l e.row 31)(hlt:Dd ((i:Int)<(l.length:Int))=true)(hw:IntKind.i64.wrap ((i:Int)+1)=((i+1:Nat):Int))(hf:(e.campus==c)=true):(CW Tryz.prog Γ0 [] false (sub Tryz.f14 0) (laS l c s i) .normal (laS l c e.st ((i+1:Nat):Int))):=by
 refine CW.cast (CW.symX (s':={t:=mkT 24 0 [(1,int c),(4,.ref (.ptr 0 0)),(9,rowsD' l),(10,int (↑(List.length l):Int)),(11,int (IntKind.wrap IntKind.i64 ((↑i:Int)+1)))],h:=[.var [int e.time,int e.campus,int e.no]],m:=[]}) (e:=Exit.normal) pok [.st (.mask [1,4,9,10,11]),.st (.trim 1)] [.b true,.row [vi e.time,vi e.campus,vi e.no,vi e.kind,vi e.stu,vi e.obj,vi e.term,vi e.val,vi e.frm,vi e.til,vs e.text,vi e.sec.id,vi e.sec.course,vi e.sec.term,vi e.sec.campus,vi e.sec.seats,Dp.sl (List.map MeT.row e.sec.mts),Dp.sl (List.map GrT.row e.sec.grs),Dp.sl (List.map intRow e.sec.labs),Dp.v (Value.bool e.sec.lab),vi e.req.campus,vi e.req.no,vi e.req.st,vi e.req.kind,vi e.req.time,Dp.sl (List.map BuT.row e.req.chs),vi e.req.gsec,vi e.req.glab,vi e.req.key,vi e.r,vi e.s],.b true] (by kernel_rfl) (.c hlt (.c hr (.c hf .n)))) ?_ ?_<;>(first|rfl|(rw[hw]<;>rfl))
theorem la_f{l:List (List Dp)}{e:EntT}{s:StT}{c:Int}{i:Nat}(hr:RowAt (i:Int) l e.row 31)(hlt:Dd ((i:Int)<(l.length:Int))=true)(hw:IntKind.i64.wrap ((i:Int)+1)=((i+1:Nat):Int))(hf:(e.campus==c)=false):(CW Tryz.prog Γ0 [] false (sub Tryz.f14 0) (laS l c s i) .normal (laS l c s ((i+1:Nat):Int))):=by
 refine CW.cast (CW.symX (s':={t:=mkT 24 0 [(1,int c),(4,.ref (.ptr 0 0)),(9,rowsD' l),(10,int (↑(List.length l):Int)),(11,int (IntKind.wrap IntKind.i64 ((↑i:Int)+1)))],h:=[.var [int s.time,int s.campus,int s.no]],m:=[]}) (e:=Exit.normal) pok [.st (.mask [1,4,9,10,11]),.st (.trim 1)] [.b true,.row [vi e.time,vi e.campus,vi e.no,vi e.kind,vi e.stu,vi e.obj,vi e.term,vi e.val,vi e.frm,vi e.til,vs e.text,vi e.sec.id,vi e.sec.course,vi e.sec.term,vi e.sec.campus,vi e.sec.seats,Dp.sl (List.map MeT.row e.sec.mts),Dp.sl (List.map GrT.row e.sec.grs),Dp.sl (List.map intRow e.sec.labs),Dp.v (Value.bool e.sec.lab),vi e.req.campus,vi e.req.no,vi e.req.st,vi e.req.kind,vi e.req.time,Dp.sl (List.map BuT.row e.req.chs),vi e.req.gsec,vi e.req.glab,vi e.req.key,vi e.r,vi e.s],.b false] (by kernel_rfl) (.c hlt (.c hr (.c hf .n)))) ?_ ?_<;>(first|rfl|(rw[hw]<;>rfl))
theorem la_last{l:List (List Dp)}{s:StT}{c:Int}{i:Nat}(hlt:Dd ((i:Int)<(l.length:Int))=false):(CW Tryz.prog Γ0 [] false (sub Tryz.f14 0) (laS l c s i) (.exit 0) (laE s)):=by
 exact CW.cast (CW.symX (s':={t:=mkT 24 0 [(4,.ref (.ptr 0 0))],h:=[.var [int s.time,int s.campus,int s.no]],m:=[]}) (e:=Exit.exit 0) pok [.st (.mask [4])] [.b false] (by kernel_rfl) (.c hlt .n)) (by rfl) (by rfl)
abbrev lrS(l:List (List Dp))(c:Int)(s:StT)(i:Int):AS:={t:=mkT 29 0 [(0,rowsD' l),(1,int c),(4,.ref (.ptr 0 0)),(5,.ref (.ptr 1 0)),(6,int i)],h:=[.var [int 0,int 0,int 0],.var (s.row.map .p)],m:=[]}
abbrev lrE(s:StT):AS:={t:=mkT 29 0 [(4,.ref (.ptr 0 0)),(5,.ref (.ptr 1 0))],h:=[.var [int 0,int 0,int 0],.var (s.row.map .p)],m:=[]}
theorem lr_t{l:List (List Dp)}{e:EntT}{s:StT}{c:Int}{i:Nat}(hr:RowAt (i:Int) l e.row 31)(hlt:Dd ((i:Int)<(l.length:Int))=true)(hw:IntKind.i64.wrap ((i:Int)+1)=((i+1:Nat):Int))(hf:(e.campus==c)=true):(CW Tryz.prog Γ0 [] false (sub Tryz.f15 0) (lrS l c s i) .normal (lrS l c e.st ((i+1:Nat):Int))):=by
 refine CW.cast (CW.symX (s':={t:=mkT 29 0 [(0,rowsD' l),(1,int c),(4,.ref (.ptr 0 0)),(5,.ref (.ptr 1 0)),(6,int (IntKind.wrap IntKind.i64 ((↑i:Int)+1)))],h:=[.var [int 0,int 0,int 0],.var [int e.time,int e.campus,int e.no]],m:=[]}) (e:=Exit.normal) pok [.st (.mask [0,1,4,5,6]),.st (.trim 2)] [.b true,.row [vi e.time,vi e.campus,vi e.no,vi e.kind,vi e.stu,vi e.obj,vi e.term,vi e.val,vi e.frm,vi e.til,vs e.text,vi e.sec.id,vi e.sec.course,vi e.sec.term,vi e.sec.campus,vi e.sec.seats,Dp.sl (List.map MeT.row e.sec.mts),Dp.sl (List.map GrT.row e.sec.grs),Dp.sl (List.map intRow e.sec.labs),Dp.v (Value.bool e.sec.lab),vi e.req.campus,vi e.req.no,vi e.req.st,vi e.req.kind,vi e.req.time,Dp.sl (List.map BuT.row e.req.chs),vi e.req.gsec,vi e.req.glab,vi e.req.key,vi e.r,vi e.s],.b true,.row [vi e.time,vi e.campus,vi e.no,vi e.kind,vi e.stu,vi e.obj,vi e.term,vi e.val,vi e.frm,vi e.til,vs e.text,vi e.sec.id,vi e.sec.course,vi e.sec.term,vi e.sec.campus,vi e.sec.seats,Dp.sl (List.map MeT.row e.sec.mts),Dp.sl (List.map GrT.row e.sec.grs),Dp.sl (List.map intRow e.sec.labs),Dp.v (Value.bool e.sec.lab),vi e.req.campus,vi e.req.no,vi e.req.st,vi e.req.kind,vi e.req.time,Dp.sl (List.map BuT.row e.req.chs),vi e.req.gsec,vi e.req.glab,vi e.req.key,vi e.r,vi e.s]] (by kernel_rfl) (.c hlt (.c hr (.c hf (.c hr .n))))) ?_ ?_<;>(first|rfl|(rw[hw]<;>rfl))
theorem lr_f{l:List (List Dp)}{e:EntT}{s:StT}{c:Int}{i:Nat}(hr:RowAt (i:Int) l e.row 31)(hlt:Dd ((i:Int)<(l.length:Int))=true)(hw:IntKind.i64.wrap ((i:Int)+1)=((i+1:Nat):Int))(hf:(e.campus==c)=false):(CW Tryz.prog Γ0 [] false (sub Tryz.f15 0) (lrS l c s i) .normal (lrS l c s ((i+1:Nat):Int))):=by
 refine CW.cast (CW.symX (s':={t:=mkT 29 0 [(0,rowsD' l),(1,int c),(4,.ref (.ptr 0 0)),(5,.ref (.ptr 1 0)),(6,int (IntKind.wrap IntKind.i64 ((↑i:Int)+1)))],h:=[.var [int 0,int 0,int 0],.var [int s.time,int s.campus,int s.no]],m:=[]}) (e:=Exit.normal) pok [.st (.mask [0,1,4,5,6]),.st (.trim 2)] [.b true,.row [vi e.time,vi e.campus,vi e.no,vi e.kind,vi e.stu,vi e.obj,vi e.term,vi e.val,vi e.frm,vi e.til,vs e.text,vi e.sec.id,vi e.sec.course,vi e.sec.term,vi e.sec.campus,vi e.sec.seats,Dp.sl (List.map MeT.row e.sec.mts),Dp.sl (List.map GrT.row e.sec.grs),Dp.sl (List.map intRow e.sec.labs),Dp.v (Value.bool e.sec.lab),vi e.req.campus,vi e.req.no,vi e.req.st,vi e.req.kind,vi e.req.time,Dp.sl (List.map BuT.row e.req.chs),vi e.req.gsec,vi e.req.glab,vi e.req.key,vi e.r,vi e.s],.b false] (by kernel_rfl) (.c hlt (.c hr (.c hf .n)))) ?_ ?_<;>(first|rfl|(rw[hw]<;>rfl))
theorem lr_last{l:List (List Dp)}{s:StT}{c:Int}{i:Nat}(hlt:Dd ((i:Int)<(l.length:Int))=false):(CW Tryz.prog Γ0 [] false (sub Tryz.f15 0) (lrS l c s i) (.exit 0) (lrE s)):=by
 exact CW.cast (CW.symX (s':={t:=mkT 29 0 [(4,.ref (.ptr 0 0)),(5,.ref (.ptr 1 0))],h:=[.var [int 0,int 0,int 0],.var [int s.time,int s.campus,int s.no]],m:=[]}) (e:=Exit.exit 0) pok [.st (.mask [4,5])] [.b false] (by kernel_rfl) (.c hlt .n)) (by rfl) (by rfl)
def laG(c:Int)(s:StT)(e:EntT):StT:=match e.campus==c with
 | true=>e.st
 | false=>s
def lastR(l:List EntT)(c:Int):StT:=l.foldl (laG c) ⟨0,c,0⟩
theorem la_each{l:List EntT}{c:Int}(hs:Short l):CW Tryz.prog Γ0 [] false (.loop (sub Tryz.f14 0)) (laS (l.map EntT.row) c ⟨0,c,0⟩ 0) (.exit 0) (laE (lastR l c)):=by
 have:=CW.each (P:=Tryz.prog) (Γ:=Γ0) (h0:=[]) (rd:=false) (c:=sub Tryz.f14 0) (σ:=StT) (ρ:=Empty) l (fun e s=>.inl (laG c s e)) (fun j s=>laS (l.map EntT.row) c s (j:Int)) (.exit 0) (fun s=>laE s) (fun r=>r.elim) (fun _ _=>True) (by simp) (fun r=>r.elim) ?_ ?_ ⟨0,c,0⟩ trivial
 ·rw[forL_fold (fun s e=>laG c s e)] at this
  exact this
 ·intro j e a hj _
  have hlt:=(List.getElem?_eq_some_iff.1 hj).1
  have hr:=rowAt (row:=EntT.row) (sz:=31) hj rfl
  refine⟨fun _ _=>trivial,?_⟩
  unfold laG
  cases hb:e.campus==c with
  | true=>exact la_t hr (lt_len EntT.row hlt) (wrap_succ hlt hs) hb
  | false=>exact la_f hr (lt_len EntT.row hlt) (wrap_succ hlt hs) hb
 ·intro a _
  exact la_last (ge_len EntT.row l)
theorem lr_each{l:List EntT}{c:Int}(hs:Short l):CW Tryz.prog Γ0 [] false (.loop (sub Tryz.f15 0)) (lrS (l.map EntT.row) c ⟨0,c,0⟩ 0) (.exit 0) (lrE (lastR l c)):=by
 have:=CW.each (P:=Tryz.prog) (Γ:=Γ0) (h0:=[]) (rd:=false) (c:=sub Tryz.f15 0) (σ:=StT) (ρ:=Empty) l (fun e s=>.inl (laG c s e)) (fun j s=>lrS (l.map EntT.row) c s (j:Int)) (.exit 0) (fun s=>lrE s) (fun r=>r.elim) (fun _ _=>True) (by simp) (fun r=>r.elim) ?_ ?_ ⟨0,c,0⟩ trivial
 ·rw[forL_fold (fun s e=>laG c s e)] at this
  exact this
 ·intro j e a hj _
  have hlt:=(List.getElem?_eq_some_iff.1 hj).1
  have hr:=rowAt (row:=EntT.row) (sz:=31) hj rfl
  refine⟨fun _ _=>trivial,?_⟩
  unfold laG
  cases hb:e.campus==c with
  | true=>exact lr_t hr (lt_len EntT.row hlt) (wrap_succ hlt hs) hb
  | false=>exact lr_f hr (lt_len EntT.row hlt) (wrap_succ hlt hs) hb
 ·intro a _
  exact lr_last (ge_len EntT.row l)
theorem last_a{L:List (List Dp)}{c:Int}{s:StT}(hl:CW Tryz.prog Γ0 [] false (.loop (sub Tryz.f14 0)) (laS L c ⟨0,c,0⟩ 0) (.exit 0) (laE s))(h:List Blk):(Ev Tryz.prog Γ0 14 [rowsD' L,int c] h (ag s.row) h):=by
 have hl0:=(@hl)
 exact Ev.castH (Ev.sym0 (d:=D.agg [int s.time,int s.campus,int s.no]) pok [.sum [1,4,9,10,11] (Exit.exit 0) {t:=mkT 24 0 [(4,.ref (.ptr 0 0))],h:=[.var [int s.time,int s.campus,int s.no]],m:=[]}] (by kernel_rfl) (.c hl0 .n) rfl rfl h) (by rfl) (by rfl)
theorem rlast_a{L:List (List Dp)}{c:Int}{s:StT}(hl:CW Tryz.prog Γ0 [] false (.loop (sub Tryz.f15 0)) (lrS L c ⟨0,c,0⟩ 0) (.exit 0) (lrE s))(h:List Blk):(Ev Tryz.prog Γ0 15 [rowsD' L,int c] h (ag s.row) h):=by
 have hl0:=(@hl)
 exact Ev.castH (Ev.sym0 (d:=D.agg [int s.time,int s.campus,int s.no]) pok [.sum [0,1,4,5,6] (Exit.exit 0) {t:=mkT 29 0 [(4,.ref (.ptr 0 0)),(5,.ref (.ptr 1 0))],h:=[.var [int 0,int 0,int 0],.var [int s.time,int s.campus,int s.no]],m:=[]}] (by kernel_rfl) (.c hl0 .n) rfl rfl h) (by rfl) (by rfl)
theorem last_ev{l:List EntT}{c:Int}(hs:Short l)(h:List Blk):Ev Tryz.prog Γ0 14 [rowsD' (l.map EntT.row),int c] h (ag (lastR l c).row) h:=last_a (la_each hs) h
theorem rlast_ev{l:List EntT}{c:Int}(hs:Short l)(h:List Blk):Ev Tryz.prog Γ0 15 [rowsD' (l.map EntT.row),int c] h (ag (lastR l c).row) h:=rlast_a (lr_each hs) h
def rqHd29(r:RqT):Bool:=Dd (r.campus<0)||Dd (r.campus≥7)||Dd (r.no<1)||Dd (r.no>1048576)||Dd (r.st<0)||Dd (r.st≥20000)||Dd (r.time<1)||Dd (r.time>1048576)
def rqLen(r:RqT):Int:=((r.chs.map BuT.row).length:Int)
def rqZ(r:RqT):Bool:=(r.gsec==0&&(r.glab==0&&true))
def rqG(r:RqT):Bool:=buB ⟨r.gsec,r.glab⟩
def rq1B(r:RqT):Bool:=match dupB [] r.chs with
 | true=>false
 | false=>Dd (rqLen r≥1)&&Dd (rqLen r≤8)&&rqZ r&&Dd (r.key≥0)&&Dd (r.key≤1048576)
def reqB29(r:RqT):Bool:=match rqHd29 r with
 | true=>false
 | false=>match r.chs.all buB with
  | false=>false
  | true=>if r.kind=1 then rq1B r else if r.kind=2 then rqLen r==0&&rqG r&&r.key==0 else if r.kind=3 then rqLen r==1&&rqG r&&(r.chs.headD ⟨0,0⟩).sec != r.gsec&&r.key==0
   else if r.kind=4∨r.kind=5 then rqLen r==1&&rqZ r&&r.key==0 else false
theorem valid29_ev{r:RqT}(hs:Short r.chs)(h:List Blk):Ev Tryz.prog Γ0 101 [.agg (rqD r.kind r)] h (bool (reqB29 r)) h:=by
 unfold reqB29
 cases hh:rqHd29 r with
 | true=>exact vq_hd hh h
 | false =>
  have h0:∀k,_:=fun k=>va_each (k:=k) hs
  simp only[vaF_all] at h0
  cases ha:r.chs.all buB with
  | false=>simp only[ha] at h0;exact vq_c hh (h0 r.kind) h
  | true =>
   simp only[ha] at h0
   simp only
   have hgv:∀h,Ev Tryz.prog Γ0 109 [.agg [int r.gsec,int r.glab]] h (bool (rqG r)) h:=fun h=>rform_ev (b:=⟨r.gsec,r.glab⟩) h
   by_cases k1:r.kind=1
   ·rw[if_pos k1,k1]
    have hd:=vd_loop (k:=1) (z:=rqZ r) hs
    unfold rq1B
    cases hdd:dupB [] r.chs with
    | true=>exact vq_1r hh (h0 1) (hd.1 hdd) h
    | false=>exact vq_1 hh (h0 1) (hd.2 hdd) h
   ·rw[if_neg k1]
    by_cases k2:r.kind=2
    ·rw[if_pos k2,k2]
     exact vq_2 hh (h0 2) hgv h
    ·rw[if_neg k2]
     by_cases k3:r.kind=3
     ·rw[if_pos k3,k3]
      cases hc:r.chs with
      | nil =>
       have hl:(((r.chs.map BuT.row).length:Int)==1)=false:=by rw[hc];rfl
       have hl2:(rqLen r==1)=false:=hl
       rw[hl2]
       exact vq_3n hh (h0 3) hl h
      | cons c l =>
       have hR:RowAt 0 (r.chs.map BuT.row) c.row 2:=rowAt (n:=0) (by rw[hc];rfl) rfl
       exact vq_3 hh (h0 3) hgv hR h
     ·rw[if_neg k3]
      by_cases k4:r.kind=4
      ·rw[if_pos (.inl k4),k4]
       exact vq_4 hh (h0 4) h
      ·by_cases k5:r.kind=5
       ·rw[if_pos (.inr k5),k5]
        exact vq_5 hh (h0 5) h
       ·rw[if_neg (by omega)]
        exact vq_n hh (h0 r.kind) (by simpa using k1) (by simpa using k2) (by simpa using k3) (by simpa using k4) (by simpa using k5) h
def reqErr29(r:RqT):Int:=match reqB29 r with
 | true=>0
 | false=>290
theorem req29_ev{r:RqT}(hs:Short r.chs)(h:List Blk):Ev Tryz.prog Γ0 80 [.agg (rqD r.kind r)] h (int (reqErr29 r)) h:=by
 have:=fun h=>valid29_ev hs h
 unfold reqErr29
 cases hb:reqB29 r with
 | true=>rw[hb] at this;exact vr_t this h
 | false=>rw[hb] at this;exact vr_f this h
def EntT.used(e:EntT)(k:Int):EntT :=
 if k=1 then {e.bare with kind:=k,frm:=e.frm,til:=e.til,text:=e.text} else if k=2∨k=8 then {e.bare with kind:=k,stu:=e.stu,obj:=e.obj,val:=e.val,term:=e.term} else if k=3∨k=5 then {e.bare with kind:=k,stu:=e.stu,obj:=e.obj,val:=e.val,frm:=e.frm,til:=e.til}
 else if k=4 then {e.bare with kind:=k,stu:=e.stu,obj:=e.obj,val:=e.val,term:=e.term,frm:=e.frm,til:=e.til} else if k=6 then {e.bare with kind:=k,sec:=e.sec} else if k=7 then {e.bare with kind:=k,req:=e.req} else {e.bare with kind:=k,term:=e.term}
def fErr(e:EntT)(k:Int):Int:=if k=1 then mustN (!(spanB37 e&&Dd ((e.text.size:Int)≤65536))) else if k=2 then mustN (!(inS e.stu 0 19999&&inS e.term 0 1023&&inS e.obj 0 4095&&gradeB37 e)) else if k=3∨k=5 then mustN (!(inS e.stu 0 19999&&spanB37 e&&inS e.obj 0 7&&(e.val==1||e.val == -1)))
 else if k=4 then mustN (!(inS e.stu 0 19999&&spanB37 e&&inS e.obj 0 (mostR e.term)&&(e.val == -1||inS e.val 1 1099511627776))) else if k=6 then secErr23 e.sec else if k=7 then reqErr29 e.req else if k=8 then checkQ ⟨e.val,e.stu,e.obj,e.term⟩ else mustN (!(inS e.term 0 1023))
def entErr37(e:EntT):Int:=match stErr8 e.st != 0 with
 | true=>stErr8 e.st
 | false=>if 1≤e.kind∧e.kind≤9 then enR 0 (entEq37 e (e.used e.kind)) (fErr e e.kind) else 370
theorem rcheck37_ev{e:EntT}(o:e.ok)(h:List Blk):Ev Tryz.prog Γ0 28 [ag e.row] h (int (entErr37 e)) h:=by
 have hst:∀h,Ev Tryz.prog Γ0 44 [.agg [int e.time,int e.campus,int e.no]] h (int (stErr8 e.st)) h:=fun h=>stchk8_ev (s:=e.st) h
 unfold entErr37
 cases hb:(stErr8 e.st != 0) with
 | true=>exact rc_st hst hb h
 | false =>
  have h0:stErr8 e.st=0:=by simpa using hb
  rw[h0] at hst
  simp only
  by_cases hk:1≤e.kind∧e.kind≤9
  ·rw[if_pos hk]
   have hin:inS e.kind 1 9=true:=by simp[inS];omega
   have hkk:e.kind=1∨e.kind=2∨e.kind=3∨e.kind=4∨e.kind=5∨e.kind=6∨e.kind=7∨e.kind=8∨e.kind=9:=by omega
   have go:∀(u:List D) (sb:Bool) (r:Int),(∀h,Ev Tryz.prog Γ0 46 [.agg (fullD e.kind e)] h (.agg u) h)→(∀h,Ev Tryz.prog Γ0 37 [ag e.row,.agg u] h (bool sb) h)→(∀h,Ev Tryz.prog Γ0 47 [.agg (fullD e.kind e)] h (int r) h)→Ev Tryz.prog Γ0 28 [ag e.row] h (int (enR 0 sb r)) h:=fun u sb r hu hs hf=>rc_k hst hin hu hs hf h
   rcases hkk with hk|hk|hk|hk|hk|hk|hk|hk|hk
   ·rw[hk] at go ⊢
    exact go (entD 1 e 0 0 0 0 e.frm e.til e.text nilSec nilRq) _ _ (fun h=>us1_a h) (fun h=>Ev.argW (same37_ev (a:=e) (b:=e.used 1) o.m o.g o.l o.c h)) (fun h=>fd1_a h)
   ·rw[hk] at go ⊢
    exact go (entD 2 e e.stu e.obj e.term e.val 0 0 ByteArray.empty nilSec nilRq) _ _ (fun h=>us2_a h) (fun h=>Ev.argW (same37_ev (a:=e) (b:=e.used 2) o.m o.g o.l o.c h)) (fun h=>fd2_a h)
   ·rw[hk] at go ⊢
    exact go (entD 3 e e.stu e.obj 0 e.val e.frm e.til ByteArray.empty nilSec nilRq) _ _ (fun h=>us3_a h) (fun h=>Ev.argW (same37_ev (a:=e) (b:=e.used 3) o.m o.g o.l o.c h)) (fun h=>fd3_a h)
   ·rw[hk] at go ⊢
    exact go (entD 4 e e.stu e.obj e.term e.val e.frm e.til ByteArray.empty nilSec nilRq) _ _ (fun h=>us4_a h) (fun h=>Ev.argW (same37_ev (a:=e) (b:=e.used 4) o.m o.g o.l o.c h)) (fun h=>fd4_a h)
   ·rw[hk] at go ⊢
    exact go (entD 5 e e.stu e.obj 0 e.val e.frm e.til ByteArray.empty nilSec nilRq) _ _ (fun h=>us5_a h) (fun h=>Ev.argW (same37_ev (a:=e) (b:=e.used 5) o.m o.g o.l o.c h)) (fun h=>fd5_a h)
   ·rw[hk] at go ⊢
    exact go (entD 6 e 0 0 0 0 0 0 ByteArray.empty (secD e.sec) nilRq) _ _ (fun h=>us6_a h) (fun h=>Ev.argW (same37_ev (a:=e) (b:=e.used 6) o.m o.g o.l o.c h)) (fun h=>fd6_a (fun h=>seccheck23_ev o.g o.l h) h)
   ·rw[hk] at go ⊢
    exact go (entD 7 e 0 0 0 0 0 0 ByteArray.empty nilSec (rqD e.req.kind e.req)) _ _ (fun h=>us7_a h) (fun h=>Ev.argW (same37_ev (a:=e) (b:=e.used 7) o.m o.g o.l o.c h)) (fun h=>fd7_a (fun h=>req29_ev o.c h) h)
   ·rw[hk] at go ⊢
    exact go (entD 8 e e.stu e.obj e.term e.val 0 0 ByteArray.empty nilSec nilRq) _ _ (fun h=>us8_a h) (fun h=>Ev.argW (same37_ev (a:=e) (b:=e.used 8) o.m o.g o.l o.c h)) (fun h=>fd8_a h)
   ·rw[hk] at go ⊢
    exact go (entD 9 e 0 0 e.term 0 0 0 ByteArray.empty nilSec nilRq) _ _ (fun h=>us9_a h) (fun h=>Ev.argW (same37_ev (a:=e) (b:=e.used 9) o.m o.g o.l o.c h)) (fun h=>fd9_a h)
  ·rw[if_neg hk]
   exact rc_n hst (by simp[inS];omega) h
def rcF(e:EntT)(_:Unit):Unit⊕Int:=match entErr37 e != 0 with
 | true=>.inr (entErr37 e)
 | false=>.inl ()
theorem rc_each{l:List EntT}(hs:Short l)(ho:∀e∈l,e.ok):CW Tryz.prog Γ0 [] false (.loop (sub Tryz.f13 0)) (rcS (l.map EntT.row) 0)
  (eachFin (.exit 0) (fun _:Unit=>{t:=mkT 25 0 [(0,rowsD' (l.map EntT.row))],h:=[],m:=[]}) (fun r:Int=>(.ret,{t:=mkT 25 0 [(2,int r)],h:=[],m:=[]})) (forL rcF l ())).1 (eachFin (.exit 0) (fun _:Unit=>{t:=mkT 25 0 [(0,rowsD' (l.map EntT.row))],h:=[],m:=[]}) (fun r:Int=>(.ret,{t:=mkT 25 0 [(2,int r)],h:=[],m:=[]})) (forL rcF l ())).2:=by
 refine CW.each l rcF (fun j _=>rcS (l.map EntT.row) (j:Int)) (.exit 0) _ _ (fun _ _=>True) (by simp) (fun _=>by simp) ?_ ?_ () trivial
 ·intro j e a hj _
  have hlt:=(List.getElem?_eq_some_iff.1 hj).1
  have hr:=rowAt (row:=EntT.row) (sz:=31) hj rfl
  have hck:=fun h=>rcheck37_ev (ho e (List.mem_of_getElem? hj)) h
  refine⟨fun _ _=>trivial,?_⟩
  cases hb:entErr37 e != 0 with
  | true =>
   have e1:rcF e a=.inr (entErr37 e):=by unfold rcF;rw[hb]
   rw[e1]
   exact rc_bad hr (lt_len EntT.row hlt) hck hb
  | false =>
   have e1:rcF e a=.inl ():=by unfold rcF;rw[hb]
   rw[e1]
   have h0:entErr37 e=0:=by simpa using hb
   rw[h0] at hck
   exact rc_body hr (lt_len EntT.row hlt) (wrap_succ hlt hs) hck
 ·intro a _
  exact rc_last (ge_len EntT.row l)
def ledErr39(l:List EntT):Int:=match Dd (((l.map EntT.row).length:Int)>65536) with
 | true=>2
 | false=>match forL rcF l () with
  | .inr r=>r
  | .inl _=>bif !unfit [] l then 0 else 390
theorem rled_ev{l:List EntT}(hs:Short l)(ho:∀e∈l,e.ok)(h:List Blk):Ev Tryz.prog Γ0 13 [rowsD' (l.map EntT.row)] h (int (ledErr39 l)) h:=by
 unfold ledErr39
 cases hb:Dd (((l.map EntT.row).length:Int)>65536) with
 | true=>exact red_big hb h
 | false =>
  have:=rc_each hs ho
  simp only
  cases hf:forL rcF l () with
  | inr r=>rw[hf] at this;exact red_r hb this h
  | inl u=>rw[hf] at this;exact red_f hb this (fun h=>rfit_ev hs h) h
theorem stErr8_eq(s:StT):stErr8 s=stErr s:=by
 have:stBad8 s=stBad s:=by
  rw[Bool.eq_iff_iff]
  simp[stBad8,stBad,inS]
  omega
 unfold stErr8 stErr
 rw[this]
theorem buIs_comm(a b:BuT):buIs a b=buIs b a:=by
 rw[Bool.eq_iff_iff]
 simp only[buIs,Bool.and_eq_true,beq_iff_eq]
 constructor<;>(rintro⟨h1,h2,h3⟩;exact⟨h1.symm,h2.symm,h3⟩)
theorem chOk_eq:∀(l pre:List BuT),chOk pre l=(l.all buB&&!dupB pre l)
 | [],_=>rfl
 | c::l,pre=>by
  have h1:pre.any (buIs c)=pre.any (fun y=>buIs y c):=by
   congr 1;funext y;exact buIs_comm c y
  simp only[chOk,dupB,List.all_cons,chOk_eq l,h1]
  cases buB c<;>cases pre.any (fun y=>buIs y c)<;>cases l.all buB<;>cases dupB (pre++[c]) l<;>rfl
theorem rqHd_eq(k:Int)(r:RqT):rqHd k r=(rqHd29 r||Dd (k<1)||Dd (k>5)):=rfl
theorem len_cons{c:BuT}{l:List BuT}:(((c::l).map BuT.row).length:Int)=(l.length:Int)+1:=by simp
theorem reqErr_eq(r:RqT):reqErr29 r=reqErr r:=by
 unfold reqErr29 reqB29 reqErr
 rw[rqHd_eq]
 cases hh:rqHd29 r with
 | true=>rfl
 | false =>
  simp only[Bool.false_or]
  by_cases hk:r.kind<1∨r.kind>5
  ·have h1:(Dd (r.kind<1)||Dd (r.kind>5))=true:=by simpa using hk
   rw[h1,if_neg (by omega),if_neg (by omega),if_neg (by omega),if_neg (by omega)]
   cases r.chs.all buB<;>rfl
  ·have h1:(Dd (r.kind<1)||Dd (r.kind>5))=false:=by simp;omega
   rw[h1]
   simp only
   by_cases k1:r.kind=1
   ·rw[if_pos k1,if_pos k1]
    unfold rqR1 rqCt rq1B
    rw[chOk_eq]
    show(match (match r.chs.all buB with|false=>false|true=>match dupB [] r.chs with|true=>false|false=>Dd (rqLen r≥1)&&Dd (rqLen r≤8)&&rqZ r&&Dd (r.key≥0)&&Dd (r.key≤1048576)) with|true=>(0:Int)|false=>290)=(match !(Dd (rqLen r≥1)&&Dd (rqLen r≤8)&&(r.chs.all buB&&!dupB [] r.chs)&&rqZ r&&Dd (r.key≥0)&&Dd (r.key≤1048576)) with|true=>(290:Int)|false=>0)
    cases r.chs.all buB<;>cases dupB [] r.chs<;>cases Dd (rqLen r≥1)<;>cases Dd (rqLen r≤8)<;>cases rqZ r<;>cases Dd (r.key≥0)<;>cases Dd (r.key≤1048576)<;>rfl
   ·rw[if_neg k1,if_neg k1]
    by_cases k2:r.kind=2
    ·rw[if_pos k2,if_pos k2]
     unfold rq2R rqR2 rqCt rqLen rqG
     cases hc:r.chs with
     | nil=>cases buB ⟨r.gsec,r.glab⟩<;>cases h:(r.key==0)<;>simp[chOk]
     | cons c l =>
      have e1:Dd ((((c::l).map BuT.row).length:Int)≤0)=false:=by rw[len_cons];simp<;>omega
      have e2:((((c::l).map BuT.row).length:Int)==0)=false:=by rw[len_cons];simp<;>omega
      rw[e1,e2]
      simp only[Bool.and_false,Bool.false_and]
      cases (c::l).all buB<;>rfl
    ·rw[if_neg k2,if_neg k2]
     by_cases k3:r.kind=3
     ·rw[if_pos k3,if_pos k3]
      unfold rq3R rqR3 rqCt rqLen rqG
      cases hc:r.chs with
      | nil=>simp
      | cons c l =>
       cases l with
       | nil =>
        have e1:chOk [] [c]=(buB c&&true):=by simp[chOk]
        rw[e1]
        simp only[List.all_cons,List.all_nil,List.headD_cons]
        cases buB c<;>cases buB ⟨r.gsec,r.glab⟩<;>cases (c.sec != r.gsec)<;>cases (r.key==0)<;>rfl
       | cons d l =>
        have e1:Dd ((((c::d::l).map BuT.row).length:Int)≤1)=false:=by rw[len_cons];simp<;>omega
        have e2:((((c::d::l).map BuT.row).length:Int)==1)=false:=by rw[len_cons];simp<;>omega
        rw[e1,e2]
        simp only[Bool.and_false,Bool.false_and]
        cases (c::d::l).all buB<;>rfl
     ·rw[if_neg k3,if_neg k3]
      rw[if_pos (show r.kind=4∨r.kind=5 by omega)]
      have goal2:(match (match r.chs.all buB with|false=>false|true=>rqLen r==1&&rqZ r&&r.key==0) with|true=>(0:Int)|false=>290)=(match !(rqCt 1 1 r&&rqZ r&&r.key==0) with|true=>(290:Int)|false=>0):=by
       unfold rqCt rqLen
       cases hc:r.chs with
       | nil=>simp
       | cons c l =>
        cases l with
        | nil =>
         have e1:chOk [] [c]=(buB c&&true):=by simp[chOk]
         rw[e1]
         simp only[List.all_cons,List.all_nil]
         cases buB c<;>cases rqZ r<;>cases (r.key==0)<;>rfl
        | cons d l =>
         have e1:Dd ((((c::d::l).map BuT.row).length:Int)≤1)=false:=by rw[len_cons];simp<;>omega
         have e2:((((c::d::l).map BuT.row).length:Int)==1)=false:=by rw[len_cons];simp<;>omega
         rw[e1,e2]
         simp only[Bool.and_false,Bool.false_and]
         cases (c::d::l).all buB<;>rfl
      by_cases k4:r.kind=4
      ·rw[if_pos k4];exact goal2
      ·rw[if_neg k4];exact goal2
def lastG(o:Option GrT):Int:=match o with
 | none => -1
 | some p=>p.grp
def okG(o:Option GrT):Prop:=∀p,o=some p→0≤p.grp∧p.grp<8
theorem grBad_eq(g:GrT)(o:Option GrT)(h:okG o):grBad g (lastG o)=foBad g (foPrev g o):=by
 rw[Bool.eq_iff_iff]
 cases o with
 | none =>
  have e:IntKind.i64.wrap (lastG none+1)=0:=by decide
  simp only[grBad,e,inW,foBad,foPrev,Bool.or_false]
  simp
  omega
 | some p =>
  have ⟨h0,h8⟩:=h p rfl
  have e:IntKind.i64.wrap (lastG (some p)+1)=p.grp+1:=wrap_i64 (by show _≤p.grp+1;omega) (by show p.grp+1≤_;omega)
  simp only[grBad,e,inW,foBad,foPrev]
  simp
  omega
theorem foBad_ok{g:GrT}{b:Bool}(h:foBad g b=false):okG (some g):=by
 intro p hp
 cases hp
 simp[foBad] at h
 omega
def sumOf{α β:Type}(f:α→Int)(x:α⊕β):Option Int:=match x with
 | .inl a=>some (f a)
 | .inr _=>none
theorem gF_eq:∀(l:List GrT) (all:Int) (o:Option GrT),okG o→sumOf (·.1) (forL gF l (all,lastG o))=sumOf (·.1) (forL foF l (all,o))
 | [],_,_,_=>rfl
 | g::l,all,o,h=>by
  unfold forL
  have hb:=grBad_eq g o h
  cases hf:foBad g (foPrev g o) with
  | true =>
   have e1:gF g (all,lastG o)=.inr ():=by unfold gF;rw[hb,hf]
   have e2:foF g (all,o)=.inr ():=by unfold foF;rw[hf]
   rw[e1,e2]
   rfl
  | false =>
   have e1:gF g (all,lastG o)=.inl (IntKind.i64.wrap (all+g.seats),lastG (some g)):=by unfold gF;rw[hb,hf];rfl
   have e2:foF g (all,o)=.inl (IntKind.i64.wrap (all+g.seats),some g):=by unfold foF;rw[hf]
   rw[e1,e2]
   exact gF_eq l _ _ (foBad_ok hf)
def lastI(o:Option Int):Int:=match o with
 | none => -1
 | some p=>p
def okI(o:Option Int):Prop:=∀p,o=some p→0≤p∧p<4000
theorem lBad_eq(n:Int)(o:Option Int)(h:okI o):(!inW n (IntKind.i64.wrap (lastI o+1)) 3999)=fbBad n (fbPrev n o):=by
 rw[Bool.eq_iff_iff]
 cases o with
 | none =>
  have e:IntKind.i64.wrap (lastI none+1)=0:=by decide
  simp only[e,inW,fbBad,fbPrev,Bool.or_false]
  simp
  omega
 | some p =>
  have ⟨h0,h8⟩:=h p rfl
  have e:IntKind.i64.wrap (lastI (some p)+1)=p+1:=wrap_i64 (by show _≤p+1;omega) (by show p+1≤_;omega)
  simp only[e,inW,fbBad,fbPrev]
  simp
  omega
theorem fbBad_ok{n:Int}{b:Bool}(h:fbBad n b=false):okI (some n):=by
 intro p hp
 cases hp
 simp[fbBad] at h
 omega
theorem lF_eq:∀(l:List Int) (o:Option Int),okI o→sumOf (fun _=>0) (forL lF l (lastI o))=sumOf (fun _=>0) (forL fbF l o)
 | [],_,_=>rfl
 | n::l,o,h=>by
  unfold forL
  have hb:=lBad_eq n o h
  cases hf:fbBad n (fbPrev n o) with
  | true =>
   have e1:lF n (lastI o)=.inr ():=by unfold lF;rw[hb,hf]
   have e2:fbF n o=.inr ():=by unfold fbF;rw[hf]
   rw[e1,e2]
   rfl
  | false =>
   have e1:lF n (lastI o)=.inl (lastI (some n)):=by unfold lF;rw[hb,hf];rfl
   have e2:fbF n o=.inl (some n):=by unfold fbF;rw[hf]
   rw[e1,e2]
   exact lF_eq l _ (fbBad_ok hf)
theorem secEnd_eq(s:SecT)(all:Int):secEnd s all=(!secHd23 s&&Dd (all≤s.seats)):=by
 rw[Bool.eq_iff_iff]
 unfold secEnd secHd23 inW
 cases s.lab with
 | false =>
  simp only[Bool.false_and,Bool.or_false,Bool.not_false,Bool.and_true,Bool.and_eq_true,decide_eq_true_eq,Bool.not_eq_true',Bool.or_eq_false_iff,decide_eq_false_iff_not]
  omega
 | true =>
  simp only[Bool.true_and,Bool.and_eq_true,decide_eq_true_eq,Bool.not_eq_true',Bool.or_eq_false_iff,decide_eq_false_iff_not]
  omega
theorem secB_eq(s:SecT):secB s=secB23 s:=by
 unfold secB secB23
 have h1:=gF_eq s.grs 0 none (fun _ h=>by cases h)
 have h2:=lF_eq s.labs none (fun _ h=>by cases h)
 change sumOf _ (forL gF s.grs (0,-1))=_ at h1
 change sumOf _ (forL lF s.labs (-1))=_ at h2
 cases e1:forL gF s.grs (0,-1) with
 | inr u =>
  rw[e1] at h1
  cases e2:forL foF s.grs (0,none) with
  | inr _=>cases secHd23 s<;>rfl
  | inl a=>rw[e2] at h1;cases h1
 | inl a =>
  rw[e1] at h1
  cases e2:forL foF s.grs (0,none) with
  | inr _=>rw[e2] at h1;cases h1
  | inl b =>
   rw[e2] at h1
   have hab:a.1=b.1:=by simpa[sumOf] using h1
   simp only
   cases e3:forL lF s.labs (-1) with
   | inr _ =>
    rw[e3] at h2
    cases e4:forL fbF s.labs none with
    | inr _=>cases secHd23 s<;>rfl
    | inl _=>rw[e4] at h2;cases h2
   | inl _ =>
    rw[e3] at h2
    cases e4:forL fbF s.labs none with
    | inr _=>rw[e4] at h2;cases h2
    | inl _ =>
     simp only[secEnd_eq,hab]
     cases secHd23 s<;>rfl
theorem secErr_eq(s:SecT):secErr23 s=secErr s:=by
 unfold secErr23 secErr
 rw[secB_eq]
 cases secB23 s<;>rfl
theorem secEq37_eq(a b:SecT):secEq37 a b=secEq a b:=rfl
theorem rqEq37_eq(a b:RqT):rqEq37 a b=rqEq a b:=by
 have hq:qbB a.chs b.chs=(match (((a.chs.map BuT.row).length:Int) != ((b.chs.map BuT.row).length:Int)) with|true=>false|false=>match qbR a.chs b.chs with | .inl _=>true | .inr _=>false):=by
  unfold qbB
  cases (((a.chs.map BuT.row).length:Int) != ((b.chs.map BuT.row).length:Int))<;>rfl
 unfold rqEq37 rqEq
 rw[hq]
 simp only[bne]
 cases (((a.chs.map BuT.row).length:Int)==((b.chs.map BuT.row).length:Int))<;>cases qbR a.chs b.chs<;>cases (a.campus==b.campus)<;>cases (a.no==b.no)<;>cases (a.st==b.st)<;>cases (a.kind==b.kind)<;>cases (a.time==b.time)<;>cases (a.gsec==b.gsec&&(a.glab==b.glab&&true))<;>cases (a.key==b.key)<;>rfl
theorem entEq37_eq(a b:EntT):entEq37 a b=entEq a b:=by
 unfold entEq37 entEq
 rw[secEq37_eq,rqEq37_eq]
 generalize (stEqB a b&&a.kind==b.kind&&a.stu==b.stu&&a.obj==b.obj&&a.term==b.term&&a.val==b.val&&(a.frm==b.frm&&(a.til==b.til&&true))&&eqS a.text b.text)=x
 generalize (a.r==b.r&&(a.s==b.s&&true))=y
 cases x<;>cases y<;>cases secEq a.sec b.sec<;>cases rqEq a.req b.req<;>rfl
theorem forL_zip{α:Type}(ne:α→α→Bool)(f:α×α→Unit→Unit⊕Unit)(hf:∀p u,f p u=bif ne p.1 p.2 then .inr () else .inl ())(h:∀a,ne a a=false):∀l:List α,forL f (l.zip l) ()=.inl ()
 | []=>rfl
 | a::l=>by
  rw[List.zip_cons_cons]
  unfold forL
  rw[hf,h]
  exact forL_zip ne f hf h l
theorem qmB_self(l:List MeT):qmB l l=true:=by
 unfold qmB qmR
 rw[if_neg (by simp),forL_zip meNe qmF (fun _ _=>rfl) (fun a=>by simp[meNe])]
theorem qgB_self(l:List GrT):qgB l l=true:=by
 unfold qgB qgR
 rw[if_neg (by simp),forL_zip grNe qgF (fun _ _=>rfl) (fun a=>by simp[grNe])]
theorem qiB_self(l:List Int):qiB l l=true:=by
 unfold qiB qiR
 rw[if_neg (by simp),forL_zip inNe qiF (fun _ _=>rfl) (fun a=>by simp[inNe])]
theorem qbB_self(l:List BuT):qbB l l=true:=by
 unfold qbB qbR
 rw[if_neg (by simp),forL_zip buNe qbF (fun _ _=>rfl) (fun a=>by simp[buNe])]
theorem secEq_self(s:SecT):secEq s s=true:=by simp[secEq,qmB_self,qgB_self,qiB_self]
theorem rqEq_self(r:RqT):rqEq r r=true:=by simp[rqEq,qbB_self]
theorem eqS_self(t:ByteArray):eqS t t=true:=by simp[eqS]
theorem used_clr(e:EntT)(hk:1≤e.kind∧e.kind≤9):entEq e (e.used e.kind)=entEq (e.clr e.kind) e.bare:=by
 have hkk:e.kind=1∨e.kind=2∨e.kind=3∨e.kind=4∨e.kind=5∨e.kind=6∨e.kind=7∨e.kind=8∨e.kind=9:=by omega
 obtain⟨time,campus,no,kind,stu,obj,term,val,frm,til,text,sec,req,r,s⟩:=e
 simp only at hkk
 rcases hkk with rfl|rfl|rfl|rfl|rfl|rfl|rfl|rfl|rfl <;>
  simp[EntT.used,EntT.clr,EntT.bare,entEq,stEqB,secEq_self,rqEq_self,eqS_self]
theorem and15_eq{n:Int}(h:0≤n):and15 n=n.tmod 16:=by
 unfold and15
 obtain⟨m,rfl⟩:=Int.eq_ofNat_of_zero_le h
 have h1:(BitVec.ofInt IntKind.i64.bits (m:Int) &&& BitVec.ofInt IntKind.i64.bits 15).toNat=m % 16:=by
  have e1:BitVec.ofInt IntKind.i64.bits (m:Int)=BitVec.ofNat 64 m:=by
   show BitVec.ofInt 64 (m:Int)=_
   exact BitVec.ofInt_natCast 64 m
  have e2:BitVec.ofInt IntKind.i64.bits 15=BitVec.ofNat 64 15:=rfl
  rw[e1,e2]
  show(BitVec.ofNat 64 m &&& BitVec.ofNat 64 15).toNat=m % 16
  rw[BitVec.toNat_and,BitVec.toNat_ofNat,BitVec.toNat_ofNat]
  have:(15 % 2 ^ 64:Nat)=2 ^ 4 - 1:=by decide
  rw[this,Nat.and_two_pow_sub_one_eq_mod]
  omega
 rw[h1,wrap_i64 (by omega) (by omega),Int.ofNat_tmod]
 rfl
theorem shr4_eq{n:Int}(h:0≤n)(h2:n≤9223372036854775807):shr4 n=IntKind.i64.wrap (n.tdiv 16):=by
 have e:n.tdiv 16=n / 16:=Int.tdiv_eq_ediv_of_nonneg h
 rw[e,wrap_i64 (by omega) (by omega)]
 show n.fdiv 16=n / 16
 exact Int.fdiv_eq_ediv_of_nonneg n (by decide)
theorem spanB37_eq(e:EntT):spanB37 e=spanB e.frm e.til:=rfl
theorem gradeB_eq(e:EntT)(hv:e.val≤9223372036854775807):gradeB37 e=gradeB e:=by
 unfold gradeB37 gradeB
 by_cases h:0≤e.val
 ·rw[and15_eq h,shr4_eq h hv]
 ·have:Dd (e.val≥0)=false:=by simp;omega
  rw[this]
  rfl
theorem mostP_eq(e:EntT):mustN (!(inS e.stu 0 19999&&spanB37 e&&inS e.obj 0 (mostR e.term)&&(e.val == -1||inS e.val 1 1099511627776)))=petR e:=by
 rw[mustN_eq,spanB37_eq]
 unfold petR mostP mostR
 by_cases h7:e.term=7
 ·simp only[h7,beq_self_eq_true,if_pos];rfl
 ·by_cases h9:e.term=9
  ·simp only[h9];rfl
  ·by_cases h8:e.term=8
   ·simp only[h8];rfl
   ·by_cases h10:e.term=10
    ·simp only[h10];rfl
    ·have e7:(e.term==7)=false:=by simpa using h7
     have e8:(e.term==8)=false:=by simpa using h8
     have e9:(e.term==9)=false:=by simpa using h9
     have e10:(e.term==10)=false:=by simpa using h10
     rw[e7,e8,e9,e10,if_neg h7,if_neg h9,if_neg h8,if_neg h10]
     have:inS e.obj 0 (-1)=false:=by simp[inS];omega
     simp only[this,Bool.and_false,Bool.false_and]
     rfl
theorem fErr_eq(e:EntT)(hv:e.val≤9223372036854775807)(k:Int):fErr e k=kErr e k:=by
 unfold fErr kErr
 simp only[mustN_eq,secErr_eq,reqErr_eq,spanB37_eq,gradeB_eq e hv]
 have hp:=mostP_eq e
 rw[mustN_eq,spanB37_eq] at hp
 rw[hp]
 rfl
theorem entErr_eq(e:EntT)(hv:e.val≤9223372036854775807):entErr37 e=entErr e:=by
 unfold entErr37 entErr
 rw[stErr8_eq]
 cases (stErr e.st != 0) with
 | true=>rfl
 | false =>
  simp only
  by_cases hk:1≤e.kind∧e.kind≤9
  ·rw[if_pos hk,if_pos hk,entEq37_eq,used_clr e hk,fErr_eq e hv]
  ·rw[if_neg hk,if_neg hk]
set_option maxRecDepth 1000000
abbrev tk(a b c k t:Int):List D:=[int a,int b,int c,int k,int 0,int 0,int t,int 0,int 0,int 0,strD ⟨#[]⟩,int 0,int 0,int 0,int 0,int 0,nq,nq,nq,bool false,int 0,int 0,int 0,int 0,int 0,nq,int 0,int 0,int 0,int 0,int 0]
def s39m0:Memo:=⟨20,[.ref (.vec 0 0),.ref (.vs 0 0 1 2 false)],[.vec [(tk 2 0 1 9 3),(tk 2 1 1 9 3),(tk 5 0 2 9 3)] 0 31,.gone,.gone,.gone,.gone,.gone,.gone,.gone,.gone,.gone,.gone,.gone,.vec [(tk 2 0 1 9 3),(tk 2 1 1 9 3),(tk 5 0 2 9 3)] 2 31,.gone,.gone,.gone,.gone,.gone,.gone,.gone,.gone,.gone,.gone,.gone,.gone,.gone,.gone,.gone,.gone,.gone,.vec [(tk 2 0 1 9 3),(tk 2 1 1 9 3),(tk 5 0 2 9 3)] 2 31,.gone,.gone,.gone,.gone,.gone,.gone],.ret (.tup [.ref (.vec 46 2),int 0]) [.vec [(tk 2 0 1 9 3),(tk 2 1 1 9 3),(tk 5 0 2 9 3)] 0 31,.gone,.gone,.gone,.gone,.gone,.gone,.gone,.gone,.gone,.gone,.gone,.vec [(tk 2 0 1 9 3),(tk 2 1 1 9 3),(tk 5 0 2 9 3)] 2 31,.gone,.gone,.gone,.gone,.gone,.gone,.gone,.gone,.gone,.gone,.gone,.gone,.gone,.gone,.gone,.gone,.gone,.vec [(tk 2 0 1 9 3),(tk 2 1 1 9 3),(tk 5 0 2 9 3)] 2 31,.gone,.gone,.gone,.gone,.gone,.gone,.gone,.gone,.gone,.gone,.gone,.gone,.gone,.gone,.gone,.vec [(tk 2 0 1 9 3),(tk 2 1 1 9 3),(tk 5 0 2 9 3)] 2 31,.gone,.gone,.gone,.gone,.gone,.gone,.gone,.gone,.gone,.gone]⟩
theorem s39m0_ok:s39m0.Ok Tryz.prog Γq:=Memo.ok_of pok (ms:=[]) (by kernel_rfl) trivial
def s39m1:Memo:=⟨17,[.ref (.vec 0 0),.agg (tk 2 0 9 9 3)],[.vec [(tk 2 0 1 9 3),(tk 2 1 1 9 3),(tk 5 0 2 9 3)] 0 31,.gone,.gone,.gone,.gone,.gone,.gone,.gone,.gone,.gone,.gone,.gone,.vec [(tk 2 0 1 9 3),(tk 2 1 1 9 3),(tk 5 0 2 9 3)] 2 31,.gone,.gone,.gone,.gone,.gone,.gone,.gone,.gone,.gone,.gone,.gone,.gone,.gone,.gone,.gone,.gone,.gone,.vec [(tk 2 0 1 9 3),(tk 2 1 1 9 3),(tk 5 0 2 9 3)] 2 31,.gone,.gone,.gone,.gone,.gone,.gone,.gone,.gone,.gone,.gone,.gone,.gone,.gone,.gone,.gone,.vec [(tk 2 0 1 9 3),(tk 2 1 1 9 3),(tk 5 0 2 9 3)] 2 31,.gone,.gone,.gone,.gone,.gone,.gone,.gone,.gone,.gone,.gone],.ret (.tup [nq,int 0,int 390]) [.vec [(tk 2 0 1 9 3),(tk 2 1 1 9 3),(tk 5 0 2 9 3)] 0 31,.gone,.gone,.gone,.gone,.gone,.gone,.gone,.gone,.gone,.gone,.gone,.vec [(tk 2 0 1 9 3),(tk 2 1 1 9 3),(tk 5 0 2 9 3)] 2 31,.gone,.gone,.gone,.gone,.gone,.gone,.gone,.gone,.gone,.gone,.gone,.gone,.gone,.gone,.gone,.gone,.gone,.vec [(tk 2 0 1 9 3),(tk 2 1 1 9 3),(tk 5 0 2 9 3)] 2 31,.gone,.gone,.gone,.gone,.gone,.gone,.gone,.gone,.gone,.gone,.gone,.gone,.gone,.gone,.gone,.vec [(tk 2 0 1 9 3),(tk 2 1 1 9 3),(tk 5 0 2 9 3)] 2 31,.gone,.gone,.gone,.gone,.gone,.gone,.gone,.gone,.gone,.gone]⟩
theorem s39m1_ok:s39m1.Ok Tryz.prog Γq:=Memo.ok_of pok (ms:=[]) (by kernel_rfl) trivial
def s39m2:Memo:=⟨17,[.ref (.vs 0 0 0 2 false),.agg (tk 5 0 2 9 3)],[.vec [(tk 2 0 1 9 3),(tk 2 1 1 9 3),(tk 5 0 2 9 3)] 0 31],.ret (.tup [.ref (.vec 12 2),int 2,int 0]) [.vec [(tk 2 0 1 9 3),(tk 2 1 1 9 3),(tk 5 0 2 9 3)] 0 31,.gone,.gone,.gone,.gone,.gone,.gone,.gone,.gone,.gone,.gone,.gone,.vec [(tk 2 0 1 9 3),(tk 2 1 1 9 3),(tk 5 0 2 9 3)] 2 31,.gone,.gone,.gone,.gone,.gone,.gone]⟩
theorem s39m2_ok:s39m2.Ok Tryz.prog Γq:=Memo.ok_of pok (ms:=[]) (by kernel_rfl) trivial
def s39m3:Memo:=⟨17,[.ref (.vs 0 0 1 2 false),.agg (tk 2 0 1 9 3)],[.vec [(tk 2 0 1 9 3),(tk 2 1 1 9 3),(tk 5 0 2 9 3)] 0 31,.gone,.gone,.gone,.gone,.gone,.gone,.gone,.gone,.gone,.gone,.gone,.vec [(tk 2 0 1 9 3),(tk 2 1 1 9 3),(tk 5 0 2 9 3)] 2 31,.gone,.gone,.gone,.gone,.gone,.gone],.ret (.tup [.ref (.vec 30 2),int 0,int 0]) [.vec [(tk 2 0 1 9 3),(tk 2 1 1 9 3),(tk 5 0 2 9 3)] 0 31,.gone,.gone,.gone,.gone,.gone,.gone,.gone,.gone,.gone,.gone,.gone,.vec [(tk 2 0 1 9 3),(tk 2 1 1 9 3),(tk 5 0 2 9 3)] 2 31,.gone,.gone,.gone,.gone,.gone,.gone,.gone,.gone,.gone,.gone,.gone,.gone,.gone,.gone,.gone,.gone,.gone,.vec [(tk 2 0 1 9 3),(tk 2 1 1 9 3),(tk 5 0 2 9 3)] 2 31,.gone,.gone,.gone,.gone,.gone,.gone]⟩
theorem s39m3_ok:s39m3.Ok Tryz.prog Γq:=Memo.ok_of pok (ms:=[]) (by kernel_rfl) trivial
def s39m4:Memo:=⟨22,[.ref (.vec 0 0),int 16],[.vec [(tk 2 0 1 9 3),(tk 2 1 1 9 3),(tk 5 0 2 9 3)] 0 31,.gone,.gone,.gone,.gone,.gone,.gone,.gone,.gone,.gone,.gone,.gone,.vec [(tk 2 0 1 9 3),(tk 2 1 1 9 3),(tk 5 0 2 9 3)] 2 31,.gone,.gone,.gone,.gone,.gone,.gone,.gone,.gone,.gone,.gone,.gone,.gone,.gone,.gone,.gone,.gone,.gone,.vec [(tk 2 0 1 9 3),(tk 2 1 1 9 3),(tk 5 0 2 9 3)] 2 31,.gone,.gone,.gone,.gone,.gone,.gone,.gone,.gone,.gone,.gone,.gone,.gone,.gone,.gone,.gone,.vec [(tk 2 0 1 9 3),(tk 2 1 1 9 3),(tk 5 0 2 9 3)] 2 31,.gone,.gone,.gone,.gone,.gone,.gone,.gone,.gone,.gone,.gone],.ret (.tup [.ref (.vec 59 0),int 0]) [.vec [(tk 2 0 1 9 3),(tk 2 1 1 9 3),(tk 5 0 2 9 3)] 0 31,.gone,.gone,.gone,.gone,.gone,.gone,.gone,.gone,.gone,.gone,.gone,.vec [(tk 2 0 1 9 3),(tk 2 1 1 9 3),(tk 5 0 2 9 3)] 2 31,.gone,.gone,.gone,.gone,.gone,.gone,.gone,.gone,.gone,.gone,.gone,.gone,.gone,.gone,.gone,.gone,.gone,.vec [(tk 2 0 1 9 3),(tk 2 1 1 9 3),(tk 5 0 2 9 3)] 2 31,.gone,.gone,.gone,.gone,.gone,.gone,.gone,.gone,.gone,.gone,.gone,.gone,.gone,.gone,.gone,.vec [(tk 2 0 1 9 3),(tk 2 1 1 9 3),(tk 5 0 2 9 3)] 2 31,.gone,.gone,.gone,.gone,.gone,.gone,.gone,.gone,.gone,.gone,.gone,.gone,.vec [(tk 2 0 1 9 3)] 0 31,.gone,.gone]⟩
theorem s39m4_ok:s39m4.Ok Tryz.prog Γq:=Memo.ok_of pok (ms:=[]) (by kernel_rfl) trivial
def s39m5:Memo:=⟨12,[.ref (.vec 0 0)],[.vec [(tk 2 0 1 9 3),(tk 2 1 1 9 3),(tk 5 0 2 9 3)] 0 31,.gone,.gone,.gone,.gone,.gone,.gone,.gone,.gone,.gone,.gone,.gone,.vec [(tk 2 0 1 9 3),(tk 2 1 1 9 3),(tk 5 0 2 9 3)] 2 31,.gone,.gone,.gone,.gone,.gone,.gone,.gone,.gone,.gone,.gone,.gone,.gone,.gone,.gone,.gone,.gone,.gone,.vec [(tk 2 0 1 9 3),(tk 2 1 1 9 3),(tk 5 0 2 9 3)] 2 31,.gone,.gone,.gone,.gone,.gone,.gone,.gone,.gone,.gone,.gone,.gone,.gone,.gone,.gone,.gone,.vec [(tk 2 0 1 9 3),(tk 2 1 1 9 3),(tk 5 0 2 9 3)] 2 31,.gone,.gone,.gone,.gone,.gone,.gone,.gone,.gone,.gone,.gone,.gone,.gone,.vec [(tk 2 0 1 9 3)] 0 31,.gone,.gone],.ret (int 0) [.vec [(tk 2 0 1 9 3),(tk 2 1 1 9 3),(tk 5 0 2 9 3)] 0 31,.gone,.gone,.gone,.gone,.gone,.gone,.gone,.gone,.gone,.gone,.gone,.vec [(tk 2 0 1 9 3),(tk 2 1 1 9 3),(tk 5 0 2 9 3)] 2 31,.gone,.gone,.gone,.gone,.gone,.gone,.gone,.gone,.gone,.gone,.gone,.gone,.gone,.gone,.gone,.gone,.gone,.vec [(tk 2 0 1 9 3),(tk 2 1 1 9 3),(tk 5 0 2 9 3)] 2 31,.gone,.gone,.gone,.gone,.gone,.gone,.gone,.gone,.gone,.gone,.gone,.gone,.gone,.gone,.gone,.vec [(tk 2 0 1 9 3),(tk 2 1 1 9 3),(tk 5 0 2 9 3)] 2 31,.gone,.gone,.gone,.gone,.gone,.gone,.gone,.gone,.gone,.gone,.gone,.gone,.vec [(tk 2 0 1 9 3)] 0 31,.gone,.gone]⟩
theorem s39m5_ok:s39m5.Ok Tryz.prog Γq:=Memo.ok_of pok (ms:=[]) (by kernel_rfl) trivial
def s39mR:Memo:=⟨10,[],[],.ret (bool true) []⟩
theorem s39mR_ok:s39mR.Ok Tryz.prog Γq:=Memo.ok_of pok (ms:=[s39m0,s39m1,s39m2,s39m3,s39m4,s39m5]) (by kernel_rfl) ⟨s39m0_ok,s39m1_ok,s39m2_ok,s39m3_ok,s39m4_ok,s39m5_ok,trivial⟩
theorem sane39_ev(h:List Blk):Ev Tryz.prog Γq 10 [] h (bool true) h:=Ev.frame0 rfl (Memo.call s39mR_ok rfl) h
def StLt(a b:StT):Prop:=a.time<b.time∨(a.time=b.time∧(a.campus<b.campus∨(a.campus=b.campus∧a.no<b.no)))
theorem cmp8_cases(a b:Int):(a<b∧cmp8 a b = -1)∨(a=b∧cmp8 a b=0)∨(b<a∧cmp8 a b=1):=by
 unfold cmp8
 rcases Int.lt_trichotomy a b with h|h|h
 ·left;rw[decide_eq_true h];exact⟨h,rfl⟩
 ·right;left;subst h;simp
 ·right;right
  have h1:Dd (a<b)=false:=by simp;omega
  have h2:Dd (a>b)=true:=by simp;omega
  rw[h1,h2];exact⟨h,rfl⟩
theorem stCmp8_cases(a b:StT):(StLt a b∧stCmp8 a b = -1)∨(¬StLt a b∧¬StLt b a∧stCmp8 a b=0)∨(StLt b a∧stCmp8 a b=1):=by
 unfold stCmp8 StLt
 rcases cmp8_cases a.time b.time with ⟨h1,e1⟩|⟨h1,e1⟩|⟨h1,e1⟩<;>rw[e1]
 ·left;exact⟨.inl h1,rfl⟩
 ·rcases cmp8_cases a.campus b.campus with ⟨h2,e2⟩|⟨h2,e2⟩|⟨h2,e2⟩<;>rw[e2]
  ·left;exact⟨.inr ⟨h1,.inl h2⟩,rfl⟩
  ·rcases cmp8_cases a.no b.no with ⟨h3,e3⟩|⟨h3,e3⟩|⟨h3,e3⟩<;>rw[e3]
   ·left;exact⟨.inr ⟨h1,.inr ⟨h2,h3⟩⟩,rfl⟩
   ·right;left;exact⟨by omega,by omega,rfl⟩
   ·right;right;exact⟨by omega,rfl⟩
  ·right;right;exact⟨by omega,rfl⟩
 ·right;right;exact⟨.inl h1,rfl⟩
theorem stCmp_eq(a b:StT):stCmp a b=stCmp8 a b:=by
 unfold stCmp stEq stCmp8 firstR
 rcases cmp8_cases a.time b.time with ⟨h1,e1⟩|⟨h1,e1⟩|⟨h1,e1⟩<;>rw[e1]
 ·have:(a.time==b.time)=false:=by simp;omega
  rw[this];rfl
 ·rcases cmp8_cases a.campus b.campus with ⟨h2,e2⟩|⟨h2,e2⟩|⟨h2,e2⟩<;>rw[e2]
  ·have:(a.campus==b.campus)=false:=by simp;omega
   rw[this,Bool.false_and,Bool.and_false];rfl
  ·rcases cmp8_cases a.no b.no with ⟨h3,e3⟩|⟨h3,e3⟩|⟨h3,e3⟩<;>rw[e3]
   ·have:(a.no==b.no)=false:=by simp;omega
    rw[this,Bool.false_and,Bool.and_false,Bool.and_false];rfl
   ·rw[h1,h2,h3];simp
   ·have:(a.no==b.no)=false:=by simp;omega
    rw[this,Bool.false_and,Bool.and_false,Bool.and_false];rfl
  ·have:(a.campus==b.campus)=false:=by simp;omega
   rw[this,Bool.false_and,Bool.and_false];rfl
 ·have:(a.time==b.time)=false:=by simp;omega
  rw[this];rfl
theorem cmp_ge(a b:StT):stCmp8 a b≥0 ↔ ¬StLt a b:=by
 rcases stCmp8_cases a b with ⟨h,e⟩|⟨h,_,e⟩|⟨h,e⟩<;>rw[e]
 ·exact⟨fun h=>by omega,fun h2=>absurd h h2⟩
 ·exact⟨fun _=>h,fun _=>by omega⟩
 ·refine⟨fun _ h2=>?_,fun _=>by omega⟩
  unfold StLt at h h2
  omega
abbrev z0:StT:=⟨0,0,0⟩
structure FitI (pre:List EntT) (s:List StT×Option StT):Prop where
 n:s.1.length=7
 c:∀c:Nat,c<7→(s.1.getD c z0=z0∧∀y∈pre,y.campus ≠ c)∨∃x∈pre,s.1.getD c z0=x.st∧x.campus=c∧∀y∈pre,y.campus=c→y.time≤x.time∧y.no≤x.no
 p:(s.2=none∧pre=[])∨∃x∈pre,s.2=some x.st∧∀y∈pre,¬StLt x.st y.st
 v:∀y∈pre,1≤y.no
def prevBad(s:StT)(o:Option StT):Bool:=match o with
 | none=>false
 | some p=>Dd (stCmp p s≥0)
theorem fit_cond{pre:List EntT}{s:List StT×Option StT}(I:FitI pre s)(e:EntT)(h0:0≤e.campus)(h7:e.campus<7):
  (prevBad e.st s.2||fiB (s.1.getD e.st.campus.toNat z0) e.st)=pre.any (fun x=>ftBad x.st e.st):=by
 have hc:((e.st.campus.toNat:Nat):Int)=e.campus:=by show((e.campus.toNat:Nat):Int)=_;omega
 have hlt:e.st.campus.toNat<7:=by omega
 rw[Bool.eq_iff_iff,Bool.or_eq_true,List.any_eq_true]
 constructor
 ·rintro (h|h)
  ·rcases I.p with ⟨h1,_⟩|⟨x,hx,h1,_⟩
   ·rw[h1] at h;cases h
   ·rw[h1] at h
    refine⟨x,hx,?_⟩
    unfold ftBad
    have:Dd (stCmp8 x.st e.st≥0)=true:=by rw[←stCmp_eq];exact h
    rw[this];rfl
  ·rcases I.c _ hlt with ⟨h1,_⟩|⟨x,hx,h1,h2,_⟩
   ·rw[h1] at h;cases h
   ·rw[h1] at h
    refine⟨x,hx,?_⟩
    unfold ftBad
    have hcc:(x.st.campus==e.st.campus)=true:=by
     show(x.campus==e.campus)=true
     rw[h2,hc];simp
    unfold fiB at h
    rw[Bool.and_eq_true] at h
    rw[hcc,h.2];simp
 ·rintro⟨y,hy,h⟩
  unfold ftBad at h
  rw[Bool.or_eq_true] at h
  rcases h with h|h
  ·left
   rcases I.p with ⟨_,h1⟩|⟨x,hx,h1,h2⟩
   ·rw[h1] at hy;cases hy
   ·rw[h1]
    show Dd (stCmp x.st e.st≥0)=true
    rw[stCmp_eq]
    have ha:=(cmp_ge y.st e.st).1 (by simpa using h)
    have hb:=h2 y hy
    simp only[decide_eq_true_eq]
    rw[cmp_ge]
    unfold StLt at *
    omega
  ·right
   rw[Bool.and_eq_true] at h
   have hcc:y.campus=((e.st.campus.toNat:Nat):Int):=by rw[hc];exact eq_of_beq h.1
   rcases I.c _ hlt with ⟨_,h1⟩|⟨x,hx,h1,h2,h3⟩
   ·exact absurd hcc (h1 y hy)
   ·rw[h1]
    have ⟨ht,hn⟩:=h3 y hy hcc
    have hv:=I.v x hx
    have hor:=h.2
    rw[Bool.or_eq_true] at hor
    simp only[decide_eq_true_eq] at hor
    unfold fiB
    rw[Bool.and_eq_true,Bool.or_eq_true]
    simp only[decide_eq_true_eq]
    refine⟨?_,?_⟩
    ·show x.no>0
     omega
    ·rcases hor with ho|ho
     ·left
      show x.time≥e.st.time
      have:y.st.time=y.time:=rfl
      omega
     ·right
      show x.no≥e.st.no
      have:y.st.no=y.no:=rfl
      omega
theorem fit_next{pre:List EntT}{s:List StT×Option StT}(I:FitI pre s)(e:EntT)(h0:0≤e.campus)(h7:e.campus<7)(hn:1≤e.no)(hb:pre.any (fun x=>ftBad x.st e.st)=false):
  FitI (pre++[e]) (s.1.set e.st.campus.toNat e.st,some e.st):=by
 have hc:((e.st.campus.toNat:Nat):Int)=e.campus:=by show((e.campus.toNat:Nat):Int)=_;omega
 have hlt:e.st.campus.toNat<7:=by omega
 rw[List.any_eq_false] at hb
 have hall:∀y∈pre,StLt y.st e.st∧(y.campus=e.campus→y.time<e.time∧y.no<e.no):=by
  intro y hy
  have:=hb y hy
  unfold ftBad at this
  simp only[Bool.or_eq_true,Bool.and_eq_true,decide_eq_true_eq,beq_iff_eq,not_or,not_and] at this
  have h1:=(not_congr (cmp_ge y.st e.st)).1 this.1
  refine⟨Classical.not_not.1 h1,fun hcc=>?_⟩
  have h2:=this.2 hcc
  have e1:y.st.time=y.time:=rfl
  have e2:e.st.time=e.time:=rfl
  have e3:y.st.no=y.no:=rfl
  have e4:e.st.no=e.no:=rfl
  omega
 refine⟨by simp[I.n],?_,?_,?_⟩
 ·intro c hc7
  by_cases hce:c=e.st.campus.toNat
  ·subst hce
   right
   refine⟨e,by simp,?_,hc.symm,?_⟩
   ·rw[List.getD,List.getElem?_set_self (by rw[I.n];exact hlt)];rfl
   ·intro y hy hyc
    rw[List.mem_append] at hy
    rcases hy with hy|hy
    ·have:=(hall y hy).2 (by rw[hyc,hc]);omega
    ·simp at hy;subst hy;exact⟨Int.le_refl _,Int.le_refl _⟩
  ·have hg:(s.1.set e.st.campus.toNat e.st).getD c z0=s.1.getD c z0:=by
    rw[List.getD,List.getD,List.getElem?_set_ne (fun h=>hce h.symm)]
   simp only[hg]
   have hne:e.campus ≠ (c:Int):=by omega
   rcases I.c c hc7 with ⟨h1,h2⟩|⟨x,hx,h1,h2,h3⟩
   ·left
    refine⟨h1,fun y hy=>?_⟩
    rw[List.mem_append] at hy
    rcases hy with hy|hy
    ·exact h2 y hy
    ·simp at hy;subst hy;exact hne
   ·right
    refine⟨x,by simp[hx],h1,h2,fun y hy hyc=>?_⟩
    rw[List.mem_append] at hy
    rcases hy with hy|hy
    ·exact h3 y hy hyc
    ·simp at hy;subst hy;exact absurd hyc hne
 ·right
  refine⟨e,by simp,rfl,fun y hy=>?_⟩
  rw[List.mem_append] at hy
  rcases hy with hy|hy
  ·have:=(hall y hy).1
   unfold StLt at *
   omega
  ·simp at hy;subst hy;unfold StLt;omega
 ·intro y hy
  rw[List.mem_append] at hy
  rcases hy with hy|hy
  ·exact I.v y hy
  ·simp at hy;subst hy;exact hn
theorem fit_go:∀(l pre:List EntT) (s:List StT×Option StT),FitI pre s→(∀e∈l,(0≤e.campus∧e.campus<7)∧1≤e.no)→(match forL (fun e:EntT=>fiF e.st) l s with | .inl _=>true | .inr _=>false) = !unfit pre l
 | [],_,_,_,_=>rfl
 | e::l,pre,s,I,hv=>by
  have ⟨⟨h0,h7⟩,hn⟩:=hv e (by simp)
  have hc:=fit_cond I e h0 h7
  unfold forL
  have hF:fiF e.st s=match prevBad e.st s.2||fiB (s.1.getD e.st.campus.toNat z0) e.st with|true=>.inr s.1|false=>.inl (s.1.set e.st.campus.toNat e.st,some e.st):=by
   unfold fiF prevBad
   cases s.2<;>rfl
  simp only[hF,hc,unfit]
  cases hb:pre.any (fun x=>ftBad x.st e.st) with
  | true=>rfl
  | false=>exact fit_go l (pre++[e]) _ (fit_next I e h0 h7 hn hb) (fun x hx=>hv x (by simp[hx]))
theorem z7_getD:∀c:Nat,c<7→z7.getD c z0=z0:=by
 intro c hc
 have:c=0∨c=1∨c=2∨c=3∨c=4∨c=5∨c=6:=by omega
 rcases this with h|h|h|h|h|h|h<;>subst h<;>rfl
theorem fit_eq{l:List EntT}(hv:∀e∈l,(0≤e.campus∧e.campus<7)∧1≤e.no):fitB l = !unfit [] l :=
 fit_go l [] (z7,none) ⟨rfl,fun c hc=>.inl ⟨z7_getD c hc,fun y hy=>by cases hy⟩,.inl ⟨rfl,rfl⟩,fun y hy=>by cases hy⟩ hv
theorem lrF_eq:∀{l:List EntT},(∀e∈l,e.val≤9223372036854775807)→forL rcF l ()=forL lcF l ()
 | [],_=>rfl
 | e::l,h=>by
  have h1:rcF e ()=lcF e ():=by unfold rcF lcF;rw[entErr_eq e (h e (by simp))];cases entErr e != 0<;>rfl
  unfold forL
  rw[h1]
  cases lcF e () with
  | inl u=>exact lrF_eq fun x hx=>h x (by simp[hx])
  | inr r=>rfl
theorem ledErr_eq{l:List EntT}(h:∀e∈l,e.val≤9223372036854775807):ledErr39 l=ledErr l:=by
 unfold ledErr39 ledErr
 rw[lrF_eq h]
 cases Dd (((l.map EntT.row).length:Int)>65536) with
 | true=>rfl
 | false =>
  simp only
  cases hf:forL lcF l () with
  | inr r=>rfl
  | inl u =>
   have:=lcF_all ⟨u,hf⟩
   rw[fit_eq fun e he=>by
    have h1:=stErr_in (entErr_st (this e he))
    exact⟨h1.2.1,h1.2.2.1⟩]
theorem ls_few{L:List (List Dp)}{c:Int}(hf:∀h,Ev Tryz.prog Γ0 11 [rowsD' L] h (bool false) h)(h:List Blk):(Ev Tryz.prog Γq 3 [rowsD' L,int c] h (bool true) h):=by
 exact Ev.castH (Ev.sym0 (d:=bool true) pok [.val (bool true),.b false,.val (bool false),.b true] (by kernel_rfl) (.c (@sane39_ev ([])) (.c (show(!true)=false from rfl) (.c (Ev.glob0 (Γ':=Γq) (@hf ([]))) (.c (show(!false)=true from rfl) .n)))) rfl rfl h) (by rfl) (by rfl)
theorem ls_go{L:List (List Dp)}{c r:Int}{s z:StT}(hf:∀h,Ev Tryz.prog Γ0 11 [rowsD' L] h (bool true) h)(h1:∀h,Ev Tryz.prog Γq 12 [rowsD' L] h (int r) h)(h2:∀h,Ev Tryz.prog Γ0 13 [rowsD' L] h (int r) h)(h3:∀h,Ev Tryz.prog Γ0 14 [rowsD' L,int c] h (ag s.row) h)(h4:∀h,Ev Tryz.prog Γ0 15 [rowsD' L,int c] h (ag s.row) h)(h5:∀h,Ev Tryz.prog Γ0 14 [rowsD' L,int 0] h (ag z.row) h)(h6:∀h,Ev Tryz.prog Γ0 15 [rowsD' L,int 0] h (ag z.row) h)(h:List Blk):(Ev Tryz.prog Γq 3 [rowsD' L,int c] h (bool (r==r&&(s.time==s.time&&(s.campus==s.campus&&(s.no==s.no&&true)))&&(z.time==z.time&&(z.campus==z.campus&&(z.no==z.no&&true))))) h):=by
 exact Ev.castH (Ev.sym0 (d:=bool (r==r&&(s.time==s.time&&(s.campus==s.campus&&(s.no==s.no&&true)))&&(z.time==z.time&&(z.campus==z.campus&&(z.no==z.no&&true))))) pok [.val (bool true),.b false,.val (bool true),.b false,.val (int r),.val (int r),.val (D.agg [int s.time,int s.campus,int s.no]),.val (D.agg [int s.time,int s.campus,int s.no]),.val (D.agg [int z.time,int z.campus,int z.no]),.val (D.agg [int z.time,int z.campus,int z.no])] (by kernel_rfl) (.c (@sane39_ev ([])) (.c (show(!true)=false from rfl) (.c (Ev.glob0 (Γ':=Γq) (@hf ([]))) (.c (show(!true)=false from rfl) (.c (@h1 ([])) (.c (Ev.glob0 (Γ':=Γq) (@h2 ([]))) (.c (show(r==r)=true→Ev Tryz.prog Γq 14 [rowsD' L,int c] [] (D.agg [int s.time,int s.campus,int s.no]) [] from(fun hg=>(Ev.glob0 (@h3 ([]))))) (.c (show(r==r)=true→Ev Tryz.prog Γq 15 [rowsD' L,int c] [] (D.agg [int s.time,int s.campus,int s.no]) [] from(fun hg=>(Ev.glob0 (@h4 ([]))))) (.c (show(r==r&&(s.time==s.time&&(s.campus==s.campus&&(s.no==s.no&&true))))=true→Ev Tryz.prog Γq 14 [rowsD' L,int 0] [] (D.agg [int z.time,int z.campus,int z.no]) [] from(fun hg=>(Ev.glob0 (@h5 ([]))))) (.c (show(r==r&&(s.time==s.time&&(s.campus==s.campus&&(s.no==s.no&&true))))=true→Ev Tryz.prog Γq 15 [rowsD' L,int 0] [] (D.agg [int z.time,int z.campus,int z.no]) [] from(fun hg=>(Ev.glob0 (@h6 ([]))))) .n)))))))))) rfl rfl h) (by rfl) (by rfl)
theorem few_ok{l:List EntT}(h:fewR l=true):∀e∈l,e.ok:=by
 intro e he
 unfold fewR at h
 rw[Bool.and_eq_true,List.all_eq_true] at h
 have:=h.1 e he
 simp only[fewE,Bool.and_eq_true,decide_eq_true_eq,List.length_map] at this
 exact⟨by unfold Short;omega,by unfold Short;omega,by unfold Short;omega,by unfold Short;omega⟩
theorem ledgerCheckSpec_ev{l:List EntT}{c:Int}(hs:Short l)(hv:∀e∈l,e.val≤9223372036854775807)(h:List Blk):Ev Tryz.prog Γq 3 [rowsD' (l.map EntT.row),int c] h (bool true) h:=by
 have hf:=fun h=>few_ev hs h
 cases hfw:fewR l with
 | false=>rw[hfw] at hf;exact ls_few hf h
 | true =>
  rw[hfw] at hf
  have ho:=few_ok hfw
  have h1:=fun h=>led_ev hs ho h
  have h2:=fun h=>rled_ev hs ho h
  simp only[ledErr_eq hv] at h2
  have:=ls_go hf h1 h2 (fun h=>last_ev (c:=c) hs h) (fun h=>rlast_ev (c:=c) hs h) (fun h=>last_ev (c:=0) hs h) (fun h=>rlast_ev (c:=0) hs h) h
  simpa using this
open Go.ChangeShapes Go.WideShapes Go.ChangeAt Go.RowKit Go.Proofs.YtoincdhjcahadaaGreatDoor
set_option maxRecDepth 100000
def I64(n:Int):Prop := -9223372036854775808≤n∧n≤9223372036854775807
theorem cells3:Tryz.prog.cellsOf 3=1:=by kernel_rfl
theorem cells4:Tryz.prog.cellsOf 4=1:=by kernel_rfl
theorem cells9:Tryz.prog.cellsOf 9=1:=by kernel_rfl
theorem cells28:Tryz.prog.cellsOf 28=3:=by kernel_rfl
theorem cells32:Tryz.prog.cellsOf 32=2:=by kernel_rfl
theorem cells33:Tryz.prog.cellsOf 33=1:=by kernel_rfl
theorem cells34:Tryz.prog.cellsOf 34=1:=by kernel_rfl
theorem cells35:Tryz.prog.cellsOf 35=1:=by kernel_rfl
theorem cells37:Tryz.prog.cellsOf 37=9:=by kernel_rfl
theorem cells38:Tryz.prog.cellsOf 38=1:=by kernel_rfl
theorem cells40:Tryz.prog.cellsOf 40=2:=by kernel_rfl
theorem cells42:Tryz.prog.cellsOf 42=9:=by kernel_rfl
theorem cells44:Tryz.prog.cellsOf 44=2:=by kernel_rfl
theorem cells46:Tryz.prog.cellsOf 46=31:=by kernel_rfl
theorem cells118:Tryz.prog.cellsOf 118=5:=by kernel_rfl
theorem cells120:Tryz.prog.cellsOf 120=3:=by kernel_rfl
theorem bytes3:Tryz.prog.bytesOf 3=8:=by kernel_rfl
theorem bytes118:Tryz.prog.bytesOf 118=40:=by kernel_rfl
theorem bytes120:Tryz.prog.bytesOf 120=24:=by kernel_rfl
theorem bytes40:Tryz.prog.bytesOf 40=16:=by kernel_rfl
theorem bytes46:Tryz.prog.bytesOf 46=320:=by kernel_rfl
theorem plain46:plainB Tryz.prog [3,4,9,22,28,32,33,34,35,37,38,40,42,44,46,118,120]=true:=by kernel_rfl
theorem shp_int{n:Nat}{ds:List Dp}(h:Shp Tryz.prog n 3 ds):∃x,ds=[vi x]∧I64 x:=by
 cases n with
 | zero=>exact h.elim
 | succ n =>
  simp only[Shp,Tryz.underlying3] at h
  obtain⟨x,rfl,hw⟩:=h
  exact⟨x,rfl,bounds_i64 hw⟩
theorem shp_str{n:Nat}{ds:List Dp}(h:Shp Tryz.prog n 9 ds):∃s,ds=[vs s]:=by
 cases n with
 | zero=>exact h.elim
 | succ n =>
  simp only[Shp,Tryz.underlying9] at h
  obtain⟨s,rfl,_⟩:=h
  exact⟨s,rfl⟩
theorem shp_bool{n:Nat}{ds:List Dp}(h:Shp Tryz.prog n 4 ds):∃b,ds=[.v (.bool b)]:=by
 cases n with
 | zero=>exact h.elim
 | succ n =>
  simp only[Shp,Tryz.underlying4] at h
  obtain⟨b,rfl⟩:=h
  exact⟨b,rfl⟩
theorem map_of{α:Type}{row:α→List Dp}{ok:α→Prop}:∀{es:List (List Dp)},(∀r∈es,∃a,r=row a∧ok a)→∃l:List α,es=l.map row∧∀a∈l,ok a
 | [],_=>⟨[],rfl,by simp⟩
 | r::es,h=>by
  obtain⟨a,rfl,ha⟩:=h r (List.mem_cons_self ..)
  obtain⟨l,rfl,hl⟩:=map_of (fun r hr=>h r (List.mem_cons_of_mem _ hr))
  exact⟨a::l,rfl,fun b hb=>(List.mem_cons.1 hb).elim (fun e=>e▸ha) (hl b)⟩
theorem short_of{n k:Nat}(h:n*k≤reachBytes)(hk:1≤k):n≤140737488355328:=by
 have:n≤n*k:=Nat.le_mul_of_pos_right n hk
 unfold reachBytes at h
 omega
theorem shp_st{n:Nat}{ds:List Dp}(h:Shp Tryz.prog n 28 ds):∃a:StT,ds=a.row∧True:=by
 cases n with
 | zero=>exact h.elim
 | succ n =>
  simp only[Shp,Tryz.underlying28,List.forall_mem_cons,cells3,cells28] at h
  obtain⟨hl,h1,h2,h3,_⟩:=h
  obtain⟨x1,e1,_⟩:=shp_int h1
  obtain⟨x2,e2,_⟩:=shp_int h2
  obtain⟨x3,e3,_⟩:=shp_int h3
  match ds,hl with
  | [p1,p2,p3],_ =>
   simp at e1 e2 e3
   subst e1;subst e2;subst e3
   exact⟨⟨x1,x2,x3⟩,rfl,trivial⟩
theorem shp_mt{n:Nat}{ds:List Dp}(h:Shp Tryz.prog n 118 ds):∃a:MeT,ds=a.row∧True:=by
 cases n with
 | zero=>exact h.elim
 | succ n =>
  simp only[Shp,Tryz.underlying118,List.forall_mem_cons,cells3,cells118] at h
  obtain⟨hl,h1,h2,h3,h4,h5,_⟩:=h
  obtain⟨x1,e1,_⟩:=shp_int h1
  obtain⟨x2,e2,_⟩:=shp_int h2
  obtain⟨x3,e3,_⟩:=shp_int h3
  obtain⟨x4,e4,_⟩:=shp_int h4
  obtain⟨x5,e5,_⟩:=shp_int h5
  match ds,hl with
  | [p1,p2,p3,p4,p5],_ =>
   simp at e1 e2 e3 e4 e5
   subst e1;subst e2;subst e3;subst e4;subst e5
   exact⟨⟨x1,x2,x3,x4,x5⟩,rfl,trivial⟩
theorem shp_gr{n:Nat}{ds:List Dp}(h:Shp Tryz.prog n 120 ds):∃a:GrT,ds=a.row∧True:=by
 cases n with
 | zero=>exact h.elim
 | succ n =>
  simp only[Shp,Tryz.underlying120,List.forall_mem_cons,cells3,cells120] at h
  obtain⟨hl,h1,h2,h3,_⟩:=h
  obtain⟨x1,e1,_⟩:=shp_int h1
  obtain⟨x2,e2,_⟩:=shp_int h2
  obtain⟨x3,e3,_⟩:=shp_int h3
  match ds,hl with
  | [p1,p2,p3],_ =>
   simp at e1 e2 e3
   subst e1;subst e2;subst e3
   exact⟨⟨x1,x2,x3⟩,rfl,trivial⟩
theorem shp_bu{n:Nat}{ds:List Dp}(h:Shp Tryz.prog n 40 ds):∃a:BuT,ds=a.row∧True:=by
 cases n with
 | zero=>exact h.elim
 | succ n =>
  simp only[Shp,Tryz.underlying40,List.forall_mem_cons,cells3,cells40] at h
  obtain⟨hl,h1,h2,_⟩:=h
  obtain⟨x1,e1,_⟩:=shp_int h1
  obtain⟨x2,e2,_⟩:=shp_int h2
  match ds,hl with
  | [p1,p2],_ =>
   simp at e1 e2
   subst e1;subst e2
   exact⟨⟨x1,x2⟩,rfl,trivial⟩
theorem shp_span{n:Nat}{ds:List Dp}(h:Shp Tryz.prog n 32 ds):∃a b,ds=[vi a,vi b]:=by
 cases n with
 | zero=>exact h.elim
 | succ n =>
  simp only[Shp,Tryz.underlying32,List.forall_mem_cons,cells3,cells32] at h
  obtain⟨hl,h1,h2,_⟩:=h
  obtain⟨x1,e1,_⟩:=shp_int h1
  obtain⟨x2,e2,_⟩:=shp_int h2
  match ds,hl with
  | [p1,p2],_ =>
   simp at e1 e2
   subst e1;subst e2
   exact⟨x1,x2,rfl⟩
theorem shp_sig{n:Nat}{ds:List Dp}(h:Shp Tryz.prog n 44 ds):∃a b,ds=[vi a,vi b]:=by
 cases n with
 | zero=>exact h.elim
 | succ n =>
  simp only[Shp,Tryz.underlying44,List.forall_mem_cons,cells3,cells44] at h
  obtain⟨hl,h1,h2,_⟩:=h
  obtain⟨x1,e1,_⟩:=shp_int h1
  obtain⟨x2,e2,_⟩:=shp_int h2
  match ds,hl with
  | [p1,p2],_ =>
   simp at e1 e2
   subst e1;subst e2
   exact⟨x1,x2,rfl⟩
theorem shp_mts{n:Nat}{ds:List Dp}(h:Shp Tryz.prog n 33 ds):∃l:List MeT,ds=[.sl (l.map MeT.row)]:=by
 cases n with
 | zero=>exact h.elim
 | succ n =>
  simp only[Shp,Tryz.underlying33,bytes118] at h
  obtain⟨es,rfl,_,he⟩:=h
  obtain⟨l,rfl,_⟩:=map_of (row:=MeT.row) (ok:=fun _=>True) (fun r hr=>shp_mt (he r hr))
  exact⟨l,rfl⟩
theorem shp_grs{n:Nat}{ds:List Dp}(h:Shp Tryz.prog n 34 ds):∃l:List GrT,ds=[.sl (l.map GrT.row)]:=by
 cases n with
 | zero=>exact h.elim
 | succ n =>
  simp only[Shp,Tryz.underlying34,bytes120] at h
  obtain⟨es,rfl,_,he⟩:=h
  obtain⟨l,rfl,_⟩:=map_of (row:=GrT.row) (ok:=fun _=>True) (fun r hr=>shp_gr (he r hr))
  exact⟨l,rfl⟩
theorem shp_chs{n:Nat}{ds:List Dp}(h:Shp Tryz.prog n 38 ds):∃l:List BuT,ds=[.sl (l.map BuT.row)]:=by
 cases n with
 | zero=>exact h.elim
 | succ n =>
  simp only[Shp,Tryz.underlying38,bytes40] at h
  obtain⟨es,rfl,_,he⟩:=h
  obtain⟨l,rfl,_⟩:=map_of (row:=BuT.row) (ok:=fun _=>True) (fun r hr=>shp_bu (he r hr))
  exact⟨l,rfl⟩
theorem shp_labs{n:Nat}{ds:List Dp}(h:Shp Tryz.prog n 35 ds):∃l:List Int,ds=[.sl (l.map intRow)]:=by
 cases n with
 | zero=>exact h.elim
 | succ n =>
  simp only[Shp,Tryz.underlying35,bytes3] at h
  obtain⟨es,rfl,_,he⟩:=h
  obtain⟨l,rfl,_⟩:=map_of (row:=intRow) (ok:=fun _=>True) (fun r hr=>by obtain⟨x,e,_⟩:=shp_int (he r hr);exact⟨x,e,trivial⟩)
  exact⟨l,rfl⟩
theorem shp_sec{n:Nat}{ds:List Dp}(h:Shp Tryz.prog n 37 ds):∃s:SecT,ds=s.row:=by
 cases n with
 | zero=>exact h.elim
 | succ n =>
  simp only[Shp,Tryz.underlying37,List.forall_mem_cons,cells3,cells4,cells33,cells34,cells35,cells37] at h
  obtain⟨hl,h1,h2,h3,h4,h5,h6,h7,h8,h9,_⟩:=h
  obtain⟨x1,e1,_⟩:=shp_int h1
  obtain⟨x2,e2,_⟩:=shp_int h2
  obtain⟨x3,e3,_⟩:=shp_int h3
  obtain⟨x4,e4,_⟩:=shp_int h4
  obtain⟨x5,e5,_⟩:=shp_int h5
  obtain⟨x6,e6⟩:=shp_mts h6
  obtain⟨x7,e7⟩:=shp_grs h7
  obtain⟨x8,e8⟩:=shp_labs h8
  obtain⟨x9,e9⟩:=shp_bool h9
  match ds,hl with
  | [p1,p2,p3,p4,p5,p6,p7,p8,p9],_ =>
   simp at e1 e2 e3 e4 e5 e6 e7 e8 e9
   subst e1;subst e2;subst e3;subst e4;subst e5;subst e6;subst e7;subst e8;subst e9
   exact⟨⟨x1,x2,x3,x4,x5,x6,x7,x8,x9⟩,rfl⟩
theorem shp_rq{n:Nat}{ds:List Dp}(h:Shp Tryz.prog n 42 ds):∃r:RqT,ds=r.row:=by
 cases n with
 | zero=>exact h.elim
 | succ n =>
  simp only[Shp,Tryz.underlying42,List.forall_mem_cons,cells3,cells38,cells40,cells42] at h
  obtain⟨hl,h1,h2,h3,h4,h5,h6,h7,h8,_⟩:=h
  obtain⟨x1,e1,_⟩:=shp_int h1
  obtain⟨x2,e2,_⟩:=shp_int h2
  obtain⟨x3,e3,_⟩:=shp_int h3
  obtain⟨x4,e4,_⟩:=shp_int h4
  obtain⟨x5,e5,_⟩:=shp_int h5
  obtain⟨x6,e6⟩:=shp_chs h6
  obtain⟨⟨x7,x8⟩,e7,_⟩:=shp_bu h7
  obtain⟨x9,e9,_⟩:=shp_int h8
  match ds,hl with
  | [p1,p2,p3,p4,p5,p6,p7,p8,p9],_ =>
   simp[BuT.row] at e1 e2 e3 e4 e5 e6 e7 e9
   obtain⟨e7,e8⟩:=e7
   subst e1;subst e2;subst e3;subst e4;subst e5;subst e6;subst e7;subst e8;subst e9
   exact⟨⟨x1,x2,x3,x4,x5,x6,x7,x8,x9⟩,rfl⟩
def EntT.val64(e:EntT):Prop:=e.val≤9223372036854775807
theorem take_split{α:Type}(n m:Nat)(l:List α):l.drop n=(l.drop n).take m++l.drop (n+m):=by
 rw[←List.drop_drop,List.take_append_drop]
theorem shp_ent{n:Nat}{ds:List Dp}(h:Shp Tryz.prog n 46 ds):∃e:EntT,ds=e.row∧e.val64:=by
 cases n with
 | zero=>exact h.elim
 | succ n =>
  simp only[Shp,Tryz.underlying46,List.forall_mem_cons,cells3,cells9,cells28,cells32,cells37,cells42,cells44,cells46] at h
  obtain⟨hl,h1,h2,h3,h4,h5,h6,h7,h8,h9,h10,h11,_⟩:=h
  obtain⟨⟨a1,a2,a3⟩,e1,_⟩:=shp_st h1
  obtain⟨x2,e2,_⟩:=shp_int h2
  obtain⟨x3,e3,_⟩:=shp_int h3
  obtain⟨x4,e4,_⟩:=shp_int h4
  obtain⟨x5,e5,_⟩:=shp_int h5
  obtain⟨x6,e6,v6⟩:=shp_int h6
  obtain⟨b1,b2,e7⟩:=shp_span h7
  obtain⟨x8,e8⟩:=shp_str h8
  obtain⟨x9,e9⟩:=shp_sec h9
  obtain⟨x10,e10⟩:=shp_rq h10
  obtain⟨c1,c2,e11⟩:=shp_sig h11
  have hd:ds=(ds.drop 0).take 3++((ds.drop 3).take 1++((ds.drop 4).take 1++((ds.drop 5).take 1++((ds.drop 6).take 1++((ds.drop 7).take 1++((ds.drop 8).take 2++((ds.drop 10).take 1++((ds.drop 11).take 9++((ds.drop 20).take 9++(ds.drop 29).take 2))))))))):=by
   have h29:ds.drop 29=(ds.drop 29).take 2:=by
    have:=take_split 29 2 ds
    rw[show ds.drop (29+2)=[] from List.drop_eq_nil_of_le (by omega),List.append_nil] at this
    exact this
   rw[←h29,←take_split 20 9,←take_split 11 9,←take_split 10 1,←take_split 8 2,←take_split 7 1,←take_split 6 1,←take_split 5 1,←take_split 4 1,←take_split 3 1,←take_split 0 3]
   rfl
  refine⟨⟨a1,a2,a3,x2,x3,x4,x5,x6,b1,b2,x8,x9,x10,c1,c2⟩,?_,v6.2⟩
  rw[hd,e1,e2,e3,e4,e5,e6,e7,e8,e9,e10,e11]
  rfl
theorem shp_ents{n:Nat}{ds:List Dp}(h:Shp Tryz.prog n 22 ds):∃l:List EntT,ds=[.sl (l.map EntT.row)]∧Short l∧∀e∈l,e.val64:=by
 cases n with
 | zero=>exact h.elim
 | succ n =>
  simp only[Shp,Tryz.underlying22,bytes46] at h
  obtain⟨es,rfl,hb,he⟩:=h
  obtain⟨l,rfl,hv⟩:=map_of (row:=EntT.row) (ok:=EntT.val64) (fun r hr=>shp_ent (he r hr))
  exact⟨l,rfl,by have:=short_of hb (by omega);simpa[Short] using this,hv⟩
theorem arg_ents{H:Type}{enc:TypeId×Value→H}{W:World}{base:Nat}{v:Value}{d:DataW H}{p:List MemPlace}
  (hok:Value.okWide Tryz.prog W .any base 22 v) (h:DataW.Trod enc Tryz.prog W 0 (fun _=>true) true 22 v d p) (hw:(d.weights Tryz.prog 22).all (· ≤ reachBytes)=true) :
  ∃l:List EntT,(Short l∧∀e∈l,e.val64)∧Rel W (avs (fun _=>False) (fun _=>none) []) (fun _=>none) [] (rowsD' (l.map EntT.row)) v:=by
 obtain⟨fuel,hf⟩:=h
 unfold Value.okWide at hok
 rw[Tryz.underlying22] at hok
 have hc:v.cells.toList=[v]:=by
  cases v<;>first|rfl|skip
  unfold Cell.okWide at hok
  rw[Tryz.underlying22] at hok
  exact hok.elim
 rw[hc] at hf
 obtain⟨ds,h1,h2⟩:=open_plain plain46 av_start fuel 22 _ d p (by decide) hf hw
 obtain⟨l,rfl,hl⟩:=shp_ents h1
 refine⟨l,hl,?_⟩
 simp only[RelPL,and_true] at h2
 simpa[rowsD',Rel] using h2
end Go.Vi
open Go Go.Proofs
namespace Go.Vi
set_option maxHeartbeats 4000000
open Go.ChangeShapes Go.WideShapes Go.ChangeAt Go.RowKit Go.Proofs.YtoincdhjcahadaaGreatDoor
set_option maxRecDepth 100000
theorem ownK:ownKnob Tryz.prog.godebug=none:=by kernel_rfl
theorem laidOut:laidOutB Tryz.prog=true:=by kernel_rfl
def kd(a b c d:Bool)(f g:Value):List Value:=[.bool a,.bool b,.bool c,.bool d,f,g]
def kf(k:Nat):Value:=.func (.func k) #[] #[]
def kindsCells:List Value :=
 kd false false false false .nilFunc .nilFunc++kd false false false true (kf 384) (kf 385)++kd false false false true (kf 386) (kf 387)++kd false true false true (kf 388) (kf 389) ++
 kd false false false true (kf 390) (kf 391)++kd true true false false (kf 392) (kf 394)++kd true true false false (kf 396) (kf 397)++kd false true false false (kf 398) (kf 399) ++
 kd false true true false (kf 400) (kf 401)++kd true false false false (kf 393) (kf 402)
def rk4(a b:Int)(g k:Bool):List Value:=[.int .i64 a,.int .i64 b,.bool g,.bool k]
def rkCells:List Value:=rk4 0 0 false false++rk4 1 8 false true++rk4 0 0 true false++rk4 1 1 true false++rk4 1 1 false false++rk4 1 1 false false
def etCell:Value:=.iface 157 (.agg #[.pointer (some ⟨3,111,none⟩)])
def layAt(cs:List Value):Obj→Obj
 | .cells _ t frozen=>.cells cs.toArray t frozen
 | o=>o
noncomputable def laidWorld(os:Os):World :=
 {World.holding Tryz.prog os ⟨#[],#[],[]⟩ with heap:=(((World.holding Tryz.prog os ⟨#[],#[],[]⟩).heap.modify 0 (layAt rkCells)).modify 1 (layAt [etCell])).modify 2 (layAt kindsCells)}
abbrev laid3:List (String×DataW Unit):=[("errors.errorType",Rows.laid_errors_errorType),("sizar/requests.kinds",Rows.laid_sizar_requests_kinds),("sizar/rules.kinds",Rows.laid_sizar_rules_kinds)]
theorem laid_met(os:Os)(args:Array Value):laidMetH Tryz.prog laid3 ((laidWorld os).forCall (fun _ _=>0) ⟨#[],args,[]⟩).memory :=
 laidMetH_of_parts3 (fuel:=8) (laidMet_of_run' 8 (by kernel_rfl) (by kernel_rfl)) (by kernel_rfl) (by kernel_rfl)
end Go.Vi
open Go Go.Proofs
namespace Go.Vi
set_option maxHeartbeats 4000000
open Go.ChangeShapes Go.WideShapes Go.ChangeAt Go.RowKit Go.Proofs.YtoincdhjcahadaaGreatDoor
set_option maxRecDepth 100000
def contigE(P:Program):List Field→Nat→Nat→Bool
 | [],acc,n=>acc==n
 | f::fs,acc,n=>f.offset==acc&&contigE P fs (acc+P.cellsOf f.type) n
def zipE(g:TypeId→DataW Unit→Option (List Value)):List TypeId→List (DataW Unit)→Option (List Value)
 | [],[]=>some []
 | t::ts,d::ds=>(g t d).bind fun a=>(zipE g ts ds).map fun b=>a++b
 | _,_=>none
def expect(P:Program):Nat→TypeId→DataW Unit→Option (List Value)
 | 0,_,_=>none
 | n+1,t,d=>match P.underlying t with
  | some .bool=>match d with
   | .lit (.bool b)=>some [.bool b]
   | _=>none
  | some (.int k)=>match d with
   | .lit (.int _ x)=>some [.int k x]
   | _=>none
  | some (.struct fs)=>match d with
   | .agg ds=>if contigE P fs.toList 0 (P.cellsOf t) then zipE (fun f d=>expect P n f d) (fs.toList.map (·.type)) ds else none
   | _=>none
  | some (.array m e)=>match d with
   | .agg ds=>if Dd (P.cellsOf t=m*P.cellsOf e)=true then zipE (fun f d=>expect P n f d) (List.replicate m e) ds else none
   | _=>none
  | _=>none
theorem fields_of{P:Program}{g:TypeId→DataW Unit→Option (List Value)}{tr:TypeId→List Value→Option (DataW Unit×List MemPlace)}{cs:List Value}
  (hg:∀t d ys,g t d=some ys→∀c p,tr t c=some (d,p)→c=ys):∀(fs:List Field) (acc:Nat) (xs:List (DataW Unit×List MemPlace)) (ys:List Value),
  (fs.mapM fun f=>tr f.type ((cs.drop f.offset).take (P.cellsOf f.type)))=some xs→contigE P fs acc cs.length=true→zipE g (fs.map (·.type)) (xs.map (·.1))=some ys→cs.drop acc=ys
 | [],acc,xs,ys,hm,hc,hz=>by
  simp at hm
  subst hm
  simp[zipE] at hz
  subst hz
  simp[contigE] at hc
  simp[hc]
 | f::fs,acc,xs,ys,hm,hc,hz=>by
  simp only[List.mapM_cons,Option.bind_eq_bind,Option.bind_eq_some_iff,Option.pure_def,Option.some.injEq] at hm
  obtain⟨x,hx,xs',hxs,rfl⟩:=hm
  simp only[contigE,Bool.and_eq_true,beq_iff_eq] at hc
  simp only[List.map_cons,zipE,Option.bind_eq_some_iff,Option.map_eq_some_iff] at hz
  obtain⟨a,ha,b,hb,rfl⟩:=hz
  have h1:=hg _ _ _ ha _ x.2 (by rw[hx])
  have h2:=fields_of hg fs _ xs' b hxs hc.2 hb
  rw[←h1,←h2,hc.1,←List.drop_drop,List.take_append_drop]
theorem elems_of{e:TypeId}{c:Nat}{g:TypeId→DataW Unit→Option (List Value)}{tr:TypeId→List Value→Option (DataW Unit×List MemPlace)}{cs:List Value}
  (hg:∀t d ys,g t d=some ys→∀c p,tr t c=some (d,p)→c=ys):∀(n k:Nat) (xs:List (DataW Unit×List MemPlace)) (ys:List Value),
  ((List.range' k n).mapM fun i=>tr e ((cs.drop (i*c)).take c))=some xs→cs.length=(k+n)*c→zipE g (List.replicate n e) (xs.map (·.1))=some ys→cs.drop (k*c)=ys
 | 0,k,xs,ys,hm,hc,hz=>by
  simp at hm
  subst hm
  simp[zipE] at hz
  subst hz
  exact List.drop_eq_nil_of_le (by rw[hc];simp)
 | n+1,k,xs,ys,hm,hc,hz=>by
  rw[List.range'_succ] at hm
  simp only[List.mapM_cons,Option.bind_eq_bind,Option.bind_eq_some_iff,Option.pure_def,Option.some.injEq] at hm
  obtain⟨x,hx,xs',hxs,rfl⟩:=hm
  rw[List.replicate_succ] at hz
  simp only[List.map_cons,zipE,Option.bind_eq_some_iff,Option.map_eq_some_iff] at hz
  obtain⟨a,ha,b,hb,rfl⟩:=hz
  have h1:=hg _ _ _ ha _ x.2 (by rw[hx])
  have h2:=elems_of hg n (k+1) xs' b hxs (by rw[hc];congr 1;omega) hb
  rw[←h1,←h2,Nat.add_mul,Nat.one_mul,←List.drop_drop,List.take_append_drop]
theorem expect_of{P:Program}{w:World}{sp:Nat→Bool}:∀(n:Nat) (t:TypeId) (d:DataW Unit) (ys:List Value),expect P n t d=some ys→∀(fuel:Nat) (cs:List Value) (p:List MemPlace),DataW.trod (fun _=>()) P w 0 sp false fuel t cs=some (d,p)→cs=ys
 | 0,_,_,_,h=>by simp[expect] at h
 | n+1,t,d,ys,h=>by
  intro fuel cs p ht
  cases fuel with
  | zero=>simp[DataW.trod] at ht
  | succ fuel =>
   unfold expect at h
   unfold DataW.trod at ht
   cases hu:P.underlying t with
   | none=>rw[hu] at h;simp at h
   | some td =>
    rw[hu] at h ht
    cases td with
    | bool =>
     simp only at h ht
     split at h
     ·split at ht<;>simp_all
     ·simp at h
    | int k =>
     simp only at h ht
     split at h
     ·split at ht
      all_goals (first|(simp_all;done)|(split at ht<;>simp_all))
     ·simp at h
    | struct fs =>
     simp only at h ht
     split at h
     ·split at h
      ·rename_i hc
       split at ht
       ·rename_i hl
        obtain⟨xs,hxs,he⟩:=Option.map_eq_some_iff.1 ht
        simp only[Prod.mk.injEq,DataW.agg.injEq] at he
        obtain⟨rfl,_⟩:=he
        have:=fields_of (tr:=fun t c=>DataW.trod (fun _=>()) P w 0 sp false fuel t c) (fun t d ys hg c p hp=>expect_of n t d ys hg fuel c p hp) fs.toList 0 xs ys hxs (by rw[hl];exact hc) h
        simpa using this
       ·simp at ht
      ·simp at h
     ·simp at h
    | array m e =>
     simp only at h ht
     split at h
     ·split at ht
      ·rename_i hl
       obtain⟨xs,hxs,he⟩:=Option.map_eq_some_iff.1 ht
       simp only[Prod.mk.injEq,DataW.agg.injEq] at he
       obtain⟨rfl,_⟩:=he
       split at h
       ·rename_i hc
        rw[List.range_eq_range'] at hxs
        have:=elems_of (tr:=fun t c=>DataW.trod (fun _=>()) P w 0 sp false fuel t c) (fun t d ys hg c p hp=>expect_of n t d ys hg fuel c p hp) m 0 xs ys hxs (by rw[hl,Nat.zero_add];exact of_decide_eq_true hc) h
        simpa using this
       ·simp at h
      ·simp at ht
     ·simp at h
    | _=>simp at h
theorem rk_named:Tryz.prog.globalNamed "sizar/requests.kinds" = some 0:=by kernel_rfl
noncomputable def rkT:TypeId:=((Tryz.prog.globals[0]?).map (·.type)).getD 0
theorem rk_type:(Tryz.prog.globals[0]?).map (·.type)=some rkT:=by kernel_rfl
theorem rk_expect:expect Tryz.prog 4 rkT Rows.laid_sizar_requests_kinds=some rkCells:=by kernel_rfl
theorem data_of {W:World} (h:laidMetH Tryz.prog laid3 W):laidMet Tryz.prog [("sizar/requests.kinds",Rows.laid_sizar_requests_kinds)] W:=(laidMetH_iff.1 h).1
theorem rk_cells {W:World} (h:laidMetH Tryz.prog laid3 W):∃cs:Array Value,W.var? Tryz.prog "sizar/requests.kinds" = some cs∧cs.toList=rkCells:=by
 obtain⟨ps,hl,_,_⟩:=data_of h
 obtain⟨g,t,cs,fuel,p,q,h1,h2,h3,h4,_⟩:=hl
 rw[rk_named] at h1
 cases h1
 rw[rk_type] at h2
 cases h2
 exact⟨cs,h3,expect_of 4 _ _ _ rk_expect fuel _ _ h4⟩
theorem et_named:Tryz.prog.globalNamed "errors.errorType" = some 1:=by kernel_rfl
theorem et_rt:(Tryz.prog.cutTypes.find? (·.1 == "internal/reflectlite.rtype")).map (·.2)=some 157:=by kernel_rfl
noncomputable def etN:Nat:=Tryz.prog.types.size
theorem et_row:((List.range etN).filter fun t=>Tryz.prog.rowNamed t [101,114,114,111,114])=[111]:=by kernel_rfl
theorem et_cell{W:World}(h:laidMetH Tryz.prog laid3 W):W.cell? ⟨1,0,none⟩=some etCell:=by
 have h2:handlesMet Tryz.prog (laid3.filter fun x=>x.2.handleName?.isSome) W:=(laidMetH_iff.1 h).2
 obtain⟨name,u,ty,e1,e2,e3,e4,e5⟩:=h2 ("errors.errorType",Rows.laid_errors_errorType) (List.mem_filter.2 ⟨by simp,rfl⟩)
 have en:name=[101,114,114,111,114]:=(Option.some.inj e1).symm
 subst en
 obtain rfl:=Option.some.inj (et_rt.symm.trans e2)
 have hm:ty∈(List.range etN).filter fun t=>Tryz.prog.rowNamed t [101,114,114,111,114]:=List.mem_filter.2 ⟨List.mem_range.2 e3,e4⟩
 rw[et_row] at hm
 obtain rfl:=List.mem_singleton.1 hm
 have hh:typeHandle Tryz.prog 111=.pointer (some ⟨3,111,none⟩):=by kernel_rfl
 rw[hh] at e5
 show W.cell? ⟨1,0,none⟩=some (.iface 157 (.agg #[.pointer (some ⟨3,111,none⟩)]))
 simpa using World.var?_cell et_named e5 0
theorem relCells_v{w:World}{av:Nat→Prop}{blk:Nat}{cs:Array Value}(hb:∀off,w.cell? ⟨blk,off,none⟩=cs[off]?)(hav:∀k,¬av k):∀(ys:List Value) (off:Nat),cs.toList.drop off=ys→RelCells w av blk off (ys.map .v)
 | [],_,_=>by simp[RelCells]
 | y::ys,off,h=>by
  have h1:cs[off]? = some y:=by
   have:=congrArg List.head? h
   rw[List.head?_drop] at this
   simpa using this
  have h2:cs.toList.drop (off+1)=ys:=by
   rw[←List.drop_drop,h];rfl
  simp only[List.map_cons,RelCells]
  exact⟨⟨hav blk,y,by rw[hb,h1],by simp[RelP]⟩,relCells_v hb hav ys (off+1) h2⟩
theorem rkD_eq:rkindsD=rkCells.map .v:=rfl
theorem kinds_glo{W:World}(h:laidMetH Tryz.prog laid3 W):∀g cs,Γq g=some cs→RelCells W (avs (fun _=>False) (fun _=>none) []) g 0 cs:=by
 intro g cs hg
 unfold Γq at hg
 split at hg
 ·have:=Option.some.inj hg
  subst this
  obtain⟨xs,h1,h2⟩:=rk_cells h
  rw[rkD_eq]
  exact relCells_v (cs:=xs) (fun off=>World.var?_cell rk_named h1 off) av_start _ 0 (by rw[List.drop_zero,h2])
 ·have:=Option.some.inj hg
  subst this
  simp only[RelCells]
  exact⟨⟨av_start _,etCell,et_cell h,by simp[RelP,etCell]⟩,trivial⟩
 ·cases hg
end Go.Vi
