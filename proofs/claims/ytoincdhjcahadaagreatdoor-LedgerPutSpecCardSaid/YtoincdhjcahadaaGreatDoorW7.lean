/- LedgerPutSpec: part of the proof: contracts of the functions that the law reaches, and the law. No conditions beyond the given statement's own. -/
import Derived.Test.YtoincdhjcahadaaGreatDoorW6
open Decidable renaming decide → Qd
open Go.IntKind renaming i64 → Dk, wrap → Ds
open Go.Proofs.Tryz renaming prog → Di, f29 → Fy, f13 → HC, f11 → HD, f17 → EP, f19 → H8, f18 → Hw
open Go.Exit renaming normal → DZ, exit → DV, ret → Ee
open Go.Vi.Dp renaming sl → Dw, v → DS
open List renaming map → Dh, getElem?_eq_some_iff → Dq, all_cons → Fq, mem_of_getElem? → D1, zip_cons_cons → Jl, getD → Fu, mem_append → DX, length_map → Fk, pairwise_cons → Et, mem_cons → DM, length_cons → Ex, length_nil → Fg, pairwise_append → Hr, length_eq_zero_iff → Iw, length → Dl
open Go.Vi.MeT renaming row → DA
open Go.Vi.GrT renaming row → Dx
open Go.Value renaming bool → DE
open Go.Vi.BuT renaming row → Dn
open Go.Vi.EntT renaming row → Dt
open Go.Vi.CW renaming each → FZ
open Bool renaming false_or → Es, true_and → Ey, eq_iff_iff → Fs, and_eq_true → Dr, and_false → EU, false_and → Ff, or_false → HN, not_eq_true' → ED, or_eq_false_iff → ET, or_eq_true → E9
open Go.Vi.Ev renaming argW → G5, frame0 → H0
open ByteArray renaming empty → Eg
open BitVec renaming ofInt → EJ, ofNat → Hq, toNat_ofNat → I6
open Go.Vi.Memo renaming ok_of → GE
open Classical renaming not_not → IG
open Go Go.Proofs
namespace Go.Vi
set_option maxRecDepth 100000
set_option maxHeartbeats 4000000
abbrev ftO(l:List (List Dp))(i:Int):AS:={t:=mkT 53 0 [(0,aa l),(3,int i)],h:=[],m:=[]}
abbrev ftI(l:List (List Dp))(i k:Int):AS:={t:=mkT 53 0 [(0,aa l),(3,int i),(4,int k)],h:=[],m:=[]}
abbrev ftX:AS:={t:=mkT 53 0 [(2,bool false)],h:=[],m:=[]}
def f5(a b:StT):Bool:=Qd (cC a b≥0)||a.campus==b.campus&&(Qd (a.time≥b.time)||Qd (a.no≥b.no))
noncomputable abbrev yh(x:EntT)(e:EntT):List Blk:=[.var [int x.time,int x.campus,int x.no],.var [int e.time,int e.campus,int e.no]]
theorem ft_ok{l:List (List Dp)}{x e:EntT}{c:Int}{i k:Nat}(hr:ad (k:Int) l x.row 31)(hr2:ad (i:Int) l e.row 31)(hlt:Qd ((k:Int)<(i:Int))=true)(hw:Dk.wrap ((k:Int)+1)=((k+1:Nat):Int))(hcp:∀h,Ev Di Γ0 36 [.agg [int x.time,int x.campus,int x.no],.agg [int e.time,int e.campus,int e.no]] h (int c) h)(hb:(Qd (c≥0)||x.campus==e.campus&&(Qd (x.time≥e.time)||Qd (x.no≥e.no)))=false):(CW Di Γ0 [] false (sub Fy 1) (ftI l i k) .normal (ftI l i ((k+1:Nat):Int))):=by
 refine zX {t:=mkT 53 0 [(0,aa l),(3,int (↑i:Int)),(4,int (Ds Dk ((↑k:Int)+1)))],h:=[],m:=[]} DZ [.st (.mask [0,3,4]),.st (.trim 0)] [.b true,.row [vi x.time,vi x.campus,vi x.no,vi x.kind,vi x.stu,vi x.obj,vi x.term,vi x.val,vi x.frm,vi x.til,vs x.text,vi x.sec.id,vi x.sec.course,vi x.sec.term,vi x.sec.campus,vi x.sec.seats,Dw (Dh DA x.sec.mts),Dw (Dh Dx x.sec.grs),Dw (Dh ab x.sec.labs),DS (DE x.sec.lab),vi x.req.campus,vi x.req.no,vi x.req.st,vi x.req.kind,vi x.req.time,Dw (Dh Dn x.req.chs),vi x.req.gsec,vi x.req.glab,vi x.req.key,vi x.r,vi x.s],.row [vi e.time,vi e.campus,vi e.no,vi e.kind,vi e.stu,vi e.obj,vi e.term,vi e.val,vi e.frm,vi e.til,vs e.text,vi e.sec.id,vi e.sec.course,vi e.sec.term,vi e.sec.campus,vi e.sec.seats,Dw (Dh DA e.sec.mts),Dw (Dh Dx e.sec.grs),Dw (Dh ab e.sec.labs),DS (DE e.sec.lab),vi e.req.campus,vi e.req.no,vi e.req.st,vi e.req.kind,vi e.req.time,Dw (Dh Dn e.req.chs),vi e.req.gsec,vi e.req.glab,vi e.req.key,vi e.r,vi e.s],.val (int c),.b false] (.c hlt (.c hr (.c hr2 (.c (@hcp (yh x e)) (.c hb .n))))) ?_ ?_<;>(first|rfl|(rw[hw]<;>rfl))
noncomputable abbrev wh(x:EntT)(e:EntT):List Blk:=[.var [int x.time,int x.campus,int x.no],.var [int e.time,int e.campus,int e.no]]
theorem ft_bad{l:List (List Dp)}{x e:EntT}{c:Int}{i k:Nat}(hr:ad (k:Int) l x.row 31)(hr2:ad (i:Int) l e.row 31)(hlt:Qd ((k:Int)<(i:Int))=true)(hcp:∀h,Ev Di Γ0 36 [.agg [int x.time,int x.campus,int x.no],.agg [int e.time,int e.campus,int e.no]] h (int c) h)(hb:(Qd (c≥0)||x.campus==e.campus&&(Qd (x.time≥e.time)||Qd (x.no≥e.no)))=true):(CW Di Γ0 [] false (sub Fy 1) (ftI l i k) .ret ftX):=by
 exact zx [.st (.mask [2]),.st (.trim 0)] [.b true,.row [vi x.time,vi x.campus,vi x.no,vi x.kind,vi x.stu,vi x.obj,vi x.term,vi x.val,vi x.frm,vi x.til,vs x.text,vi x.sec.id,vi x.sec.course,vi x.sec.term,vi x.sec.campus,vi x.sec.seats,Dw (Dh DA x.sec.mts),Dw (Dh Dx x.sec.grs),Dw (Dh ab x.sec.labs),DS (DE x.sec.lab),vi x.req.campus,vi x.req.no,vi x.req.st,vi x.req.kind,vi x.req.time,Dw (Dh Dn x.req.chs),vi x.req.gsec,vi x.req.glab,vi x.req.key,vi x.r,vi x.s],.row [vi e.time,vi e.campus,vi e.no,vi e.kind,vi e.stu,vi e.obj,vi e.term,vi e.val,vi e.frm,vi e.til,vs e.text,vi e.sec.id,vi e.sec.course,vi e.sec.term,vi e.sec.campus,vi e.sec.seats,Dw (Dh DA e.sec.mts),Dw (Dh Dx e.sec.grs),Dw (Dh ab e.sec.labs),DS (DE e.sec.lab),vi e.req.campus,vi e.req.no,vi e.req.st,vi e.req.kind,vi e.req.time,Dw (Dh Dn e.req.chs),vi e.req.gsec,vi e.req.glab,vi e.req.key,vi e.r,vi e.s],.val (int c),.b true] (.c hlt (.c hr (.c hr2 (.c (@hcp (wh x e)) (.c hb .n)))))
theorem Cd{l:List (List Dp)}{i k:Nat}(hlt:Qd ((k:Int)<(i:Int))=false):(CW Di Γ0 [] false (sub Fy 1) (ftI l i k) (.exit 2) (ftO l i)):=by
 exact zx [.st (.mask [0,3])] [.b false] (.c hlt .n)
theorem fo_n{l:List (List Dp)}{i:Nat}(hlt:Qd ((i:Int)<(l.length:Int))=true)(hw:Dk.wrap ((i:Int)+1)=((i+1:Nat):Int))(h5:CW Di Γ0 [] false (.loop (sub Fy 1)) (ftI l i 0) (.exit 2) (ftO l i)):(CW Di Γ0 [] false (sub Fy 0) (ftO l i) .normal (ftO l ((i+1:Nat):Int))):=by
 have hl0:=(@h5)
 refine zX {t:=mkT 53 0 [(0,aa l),(3,int (Ds Dk ((↑i:Int)+1)))],h:=[],m:=[]} DZ [.st (.mask [0,3]),.st (.trim 0)] [.b true,.sum [0,3,4] (DV 2) {t:=mkT 53 0 [(0,aa l),(3,int (↑i:Int))],h:=[],m:=[]}] (.c hlt (.c hl0 .n)) ?_ ?_<;>(first|rfl|(rw[hw]<;>rfl))
theorem fo_r{l:List (List Dp)}{i:Nat}(hlt:Qd ((i:Int)<(l.length:Int))=true)(h5:CW Di Γ0 [] false (.loop (sub Fy 1)) (ftI l i 0) .ret ftX):(CW Di Γ0 [] false (sub Fy 0) (ftO l i) .ret ftX):=by
 have hl0:=(@h5)
 exact zx [.st (.mask [2]),.st (.trim 0)] [.b true,.sum [0,3,4] (Ee) {t:=mkT 53 0 [(2,bool false)],h:=[],m:=[]}] (.c hlt (.c hl0 .n))
theorem fo_e{l:List (List Dp)}{i:Nat}(hlt:Qd ((i:Int)<(l.length:Int))=false):(CW Di Γ0 [] false (sub Fy 0) (ftO l i) (.exit 0) {t:=mkT 53 0 [],h:=[],m:=[]}):=by
 exact zx [.st (.mask [])] [.b false] (.c hlt .n)
def ftF(e:EntT)(x:EntT)(_:Unit):Unit⊕Unit:=match f5 x.st e.st with
 | true=>.inr ()
 | false=>.inl ()
theorem Ce{l:List EntT}{i:Nat}{e:EntT}(hs:ai l)(hx:l[i]? = some e):CW Di Γ0 [] false (.loop (sub Fy 1)) (ftI (l.map Dt) i 0) (af (.exit 2) (fun _:Unit=>ftO (l.map Dt) i) (fun _:Unit=>(.ret,ftX)) (forL (ftF e) (l.take i) ())).1 (af (.exit 2) (fun _:Unit=>ftO (l.map Dt) i) (fun _:Unit=>(.ret,ftX)) (forL (ftF e) (l.take i) ())).2:=by
 have hi:=(Dq.1 hx).1
 have hlen:(l.take i).length=i:=by simp;omega
 refine FZ (l.take i) (ftF e) (fun j _=>ftI (l.map Dt) i (j:Int)) (.exit 2) _ _ (fun _ _=>True) (by simp) (fun _=>by simp) ?_ ?_ () trivial
 ·intro j x a hj _
  have hlt:=(Dq.1 hj).1
  rw[hlen] at hlt
  have hj2:l[j]? = some x:=by rw[List.getElem?_take] at hj;split at hj<;>simp_all
  have hr:=rowAt (row:=Dt) (sz:=31) hj2 rfl
  have hr2:=rowAt (row:=Dt) (sz:=31) hx rfl
  have hl2:Qd ((j:Int)<(i:Int))=true:=by simp only[decide_eq_true_eq];omega
  have hcp:∀h,Ev Di Γ0 36 [.agg [int x.time,int x.campus,int x.no],.agg [int e.time,int e.campus,int e.no]] h (int (cC x.st e.st)) h:=fun h=>gS (a:=x.st) (b:=e.st) h
  refine⟨fun _ _=>trivial,?_⟩
  unfold ftF
  cases hb:f5 x.st e.st with
  | true=>exact ft_bad hr hr2 hl2 hcp hb
  | false=>exact ft_ok hr hr2 hl2 (wrap_succ (n:=l.length) (by omega) hs) hcp hb
 ·intro a _
  exact Cd (by rw[hlen];simp)
theorem wi:∀{l:List EntT} {e:EntT},forL (ftF e) l ()=(match l.any (fun x=>f5 x.st e.st) with|true=>.inr ()|false=>.inl ())
 | [],_=>rfl
 | y::l,x=>by
  unfold forL
  rw[List.any_cons]
  cases hb:f5 y.st x.st with
  | true=>simp only[ftF,hb];rfl
  | false=>simp only[ftF,hb,Es];exact wi
def cf(pre:List EntT):List EntT→Bool
 | []=>false
 | e::l=>pre.any (fun x=>f5 x.st e.st)||cf (pre++[e]) l
theorem Cf{l:List EntT}(hs:ai l):(cf [] l=true→CW Di Γ0 [] false (.loop (sub Fy 0)) (ftO (l.map Dt) 0) .ret ftX)∧(cf [] l=false→CW Di Γ0 [] false (.loop (sub Fy 0)) (ftO (l.map Dt) 0) (.exit 0) {t:=mkT 53 0 [],h:=[],m:=[]}):=by
 have key:CW Di Γ0 [] false (.loop (sub Fy 0)) (ftO (l.map Dt) ((0:Nat):Int)) (match cf [] l with|true=>Ee|false=>.exit 0) (match cf [] l with|true=>ftX|false=>{t:=mkT 53 0 [],h:=[],m:=[]}):=by
  refine CW.loop (ι:={i:Nat // i≤l.length∧cf [] l=cf (l.take i) (l.drop i)}) (fun p=>ftO (l.map Dt) (p.1:Int)) (fun _=>(match cf [] l with|true=>Ee|false=>.exit 0,match cf [] l with|true=>ftX|false=>{t:=mkT 53 0 [],h:=[],m:=[]})) (fun p=>l.length - p.1) ?_ ⟨0,by simp,by simp⟩
  rintro⟨i,hi,hd⟩
  try simp only at hi hd
  by_cases hlt:i<l.length
  ·have hc:l[i]? = some l[i]:=List.getElem?_eq_getElem hlt
   have hdr:l.drop i=l[i]::l.drop (i+1):=List.drop_eq_getElem_cons hlt
   have htk:l.take (i+1)=l.take i++[l[i]]:=by rw[List.take_add_one,hc];rfl
   rw[hdr] at hd
   simp only[cf] at hd
   rw[←htk] at hd
   have h5:=Ce hs hc
   rw[wi] at h5
   cases ha:(l.take i).any (fun x=>f5 x.st l[i].st) with
   | true =>
    rw[ha] at h5 hd
    have hd2:cf [] l=true:=by rw[hd];rfl
    refine .inr ⟨by rw[hd2];simp,?_⟩
    show CW Di Γ0 [] false (sub Fy 0) (ftO (l.map Dt) (i:Int)) (match cf [] l with|true=>Ee|false=>.exit 0) (match cf [] l with|true=>ftX|false=>_)
    rw[hd2]
    exact fo_r (lt_len Dt hlt) h5
   | false =>
    rw[ha] at h5 hd
    exact .inl ⟨⟨i+1,by omega,by rw[hd];rfl⟩,by simp;omega,rfl,fo_n (lt_len Dt hlt) (wrap_succ hlt hs) h5⟩
  ·have hi2:i=l.length:=by omega
   subst hi2
   rw[List.drop_length] at hd
   have hd2:cf [] l=false:=by rw[hd];rfl
   refine .inr ⟨by rw[hd2];simp,?_⟩
   show CW Di Γ0 [] false (sub Fy 0) (ftO (l.map Dt) (l.length:Int)) (match cf [] l with|true=>Ee|false=>.exit 0) (match cf [] l with|true=>ftX|false=>_)
   rw[hd2]
   exact fo_e (aY Dt l)
 refine⟨fun h=>?_,fun h=>?_⟩
 ·rw[h] at key;exact key
 ·rw[h] at key;exact key
theorem rfit_x{L:List (List Dp)}(hl:CW Di Γ0 [] false (.loop (sub Fy 0)) (ftO L 0) .ret ftX)(h:List Blk):(Ev Di Γ0 29 [aa L] h (bool false) h):=by
 have hl0:=(@hl)
 exact z0 [.sum [0,3] (Ee) {t:=mkT 53 0 [(2,bool false)],h:=[],m:=[]}] (.c hl0 .n) h
theorem rfit_o{L:List (List Dp)}(hl:CW Di Γ0 [] false (.loop (sub Fy 0)) (ftO L 0) (.exit 0) {t:=mkT 53 0 [],h:=[],m:=[]})(h:List Blk):(Ev Di Γ0 29 [aa L] h (bool true) h):=by
 have hl0:=(@hl)
 exact z0 [.sum [0,3] (DV 0) {t:=mkT 53 0 [],h:=[],m:=[]}] (.c hl0 .n) h
theorem wj{l:List EntT}(hs:ai l)(h:List Blk):Ev Di Γ0 29 [aa (l.map Dt)] h (bool (!cf [] l)) h:=by
 have:=Cf hs
 cases hf:cf [] l with
 | true=>exact rfit_x (this.1 hf) h
 | false=>exact rfit_o (this.2 hf) h
abbrev rcS(l:List (List Dp))(i:Int):AS:={t:=mkT 25 0 [(0,aa l),(3,int i)],h:=[],m:=[]}
theorem Cg{l:List (List Dp)}{e:EntT}{i:Nat}(hr:ad (i:Int) l e.row 31)(hlt:Qd ((i:Int)<(l.length:Int))=true)(hw:Dk.wrap ((i:Int)+1)=((i+1:Nat):Int))(hck:∀h,Ev Di Γ0 28 [ag e.row] h (int 0) h):(CW Di Γ0 [] false (sub HC 0) (rcS l i) .normal (rcS l ((i+1:Nat):Int))):=by
 refine zX {t:=mkT 25 0 [(0,aa l),(3,int (Ds Dk ((↑i:Int)+1)))],h:=[],m:=[]} DZ [.st (.mask [0,3]),.st (.trim 0)] [.b true,.row [vi e.time,vi e.campus,vi e.no,vi e.kind,vi e.stu,vi e.obj,vi e.term,vi e.val,vi e.frm,vi e.til,vs e.text,vi e.sec.id,vi e.sec.course,vi e.sec.term,vi e.sec.campus,vi e.sec.seats,Dw (Dh DA e.sec.mts),Dw (Dh Dx e.sec.grs),Dw (Dh ab e.sec.labs),DS (DE e.sec.lab),vi e.req.campus,vi e.req.no,vi e.req.st,vi e.req.kind,vi e.req.time,Dw (Dh Dn e.req.chs),vi e.req.gsec,vi e.req.glab,vi e.req.key,vi e.r,vi e.s],.val (int 0),.b false] (.c hlt (.c hr (.c (@hck ([])) (.c (show(0 != 0)=false from rfl) .n)))) ?_ ?_<;>(first|rfl|(rw[hw]<;>rfl))
theorem rc_bad{l:List (List Dp)}{e:EntT}{i:Nat}{r:Int}(hr:ad (i:Int) l e.row 31)(hlt:Qd ((i:Int)<(l.length:Int))=true)(hck:∀h,Ev Di Γ0 28 [ag e.row] h (int r) h)(hn:(r != 0)=true):(CW Di Γ0 [] false (sub HC 0) (rcS l i) .ret {t:=mkT 25 0 [(2,int r)],h:=[],m:=[]}):=by
 exact zx [.st (.mask [2]),.st (.trim 0)] [.b true,.row [vi e.time,vi e.campus,vi e.no,vi e.kind,vi e.stu,vi e.obj,vi e.term,vi e.val,vi e.frm,vi e.til,vs e.text,vi e.sec.id,vi e.sec.course,vi e.sec.term,vi e.sec.campus,vi e.sec.seats,Dw (Dh DA e.sec.mts),Dw (Dh Dx e.sec.grs),Dw (Dh ab e.sec.labs),DS (DE e.sec.lab),vi e.req.campus,vi e.req.no,vi e.req.st,vi e.req.kind,vi e.req.time,Dw (Dh Dn e.req.chs),vi e.req.gsec,vi e.req.glab,vi e.req.key,vi e.r,vi e.s],.val (int r),.b true] (.c hlt (.c hr (.c (@hck ([])) (.c hn .n))))
theorem Ch{l:List (List Dp)}{i:Nat}(hlt:Qd ((i:Int)<(l.length:Int))=false):(CW Di Γ0 [] false (sub HC 0) (rcS l i) (.exit 0) {t:=mkT 25 0 [(0,aa l)],h:=[],m:=[]}):=by
 exact zx [.st (.mask [0])] [.b false] (.c hlt .n)
theorem Ci{L:List (List Dp)}(hb:Qd ((L.length:Int)>65536)=true)(h:List Blk):(Ev Di Γ0 13 [aa L] h (int 2) h):=by
 exact z0 [.b true] (.c hb .n) h
theorem red_r{L:List (List Dp)}{r:Int}(hb:Qd ((L.length:Int)>65536)=false)(hl:CW Di Γ0 [] false (.loop (sub HC 0)) (rcS L 0) .ret {t:=mkT 25 0 [(2,int r)],h:=[],m:=[]})(h:List Blk):(Ev Di Γ0 13 [aa L] h (int r) h):=by
 have hl0:=(@hl)
 exact z0 [.b false,.sum [0,3] (Ee) {t:=mkT 25 0 [(2,int r)],h:=[],m:=[]}] (.c hb (.c hl0 .n)) h
theorem red_f{L:List (List Dp)}{f:Bool}(hb:Qd ((L.length:Int)>65536)=false)(hl:CW Di Γ0 [] false (.loop (sub HC 0)) (rcS L 0) (.exit 0) {t:=mkT 25 0 [(0,aa L)],h:=[],m:=[]})(hf:∀h,Ev Di Γ0 29 [aa L] h (bool f) h)(h:List Blk):(Ev Di Γ0 13 [aa L] h (int (bif f then 0 else 390)) h):=by
 have hl0:=(@hl)
 cases hc1:!f
 ·exact zD (int 0) [.b false,.sum [0,3] (DV 0) {t:=mkT 25 0 [(0,aa L)],h:=[],m:=[]},.val (bool f),.b false] (.c hb (.c hl0 (.c (@hf ([])) (.c hc1 .n)))) h (by first|rfl|(cases f<;>simp_all))
 ·exact zD (int 390) [.b false,.sum [0,3] (DV 0) {t:=mkT 25 0 [(0,aa L)],h:=[],m:=[]},.val (bool f),.b true] (.c hb (.c hl0 (.c (@hf ([])) (.c hc1 .n)))) h (by first|rfl|(cases f<;>simp_all))
def wl(e:EntT):Bool:=Qd ((e.text.size:Int)≤1000)&&Qd (((e.sec.mts.map DA).length:Int)≤20)&&Qd (((e.sec.grs.map Dx).length:Int)≤12)&&Qd (((e.sec.labs.map ab).length:Int)≤12)&&Qd (((e.req.chs.map Dn).length:Int)≤12)
theorem wm{e:EntT}(h:List Blk):(Ev Di Γ0 16 [ag e.row] h (bool (wl e)) h):=by
 exact z0 [] .n h
abbrev fwS(l:List (List Dp))(i:Int):AS:={t:=mkT 19 0 [(0,aa l),(3,int i)],h:=[],m:=[]}
abbrev fwX:AS:={t:=mkT 19 0 [(2,bool false)],h:=[],m:=[]}
abbrev fwE(l:List (List Dp)):AS:={t:=mkT 19 0 [(0,aa l)],h:=[],m:=[]}
theorem fw_ok{l:List (List Dp)}{e:EntT}{i:Nat}(hr:ad (i:Int) l e.row 31)(hlt:Qd ((i:Int)<(l.length:Int))=true)(hw:Dk.wrap ((i:Int)+1)=((i+1:Nat):Int))(hf:∀h,Ev Di Γ0 16 [ag e.row] h (bool true) h):(CW Di Γ0 [] false (sub HD 0) (fwS l i) .normal (fwS l ((i+1:Nat):Int))):=by
 refine zX {t:=mkT 19 0 [(0,aa l),(3,int (Ds Dk ((↑i:Int)+1)))],h:=[],m:=[]} DZ [.st (.mask [0,3]),.st (.trim 0)] [.b true,.row [vi e.time,vi e.campus,vi e.no,vi e.kind,vi e.stu,vi e.obj,vi e.term,vi e.val,vi e.frm,vi e.til,vs e.text,vi e.sec.id,vi e.sec.course,vi e.sec.term,vi e.sec.campus,vi e.sec.seats,Dw (Dh DA e.sec.mts),Dw (Dh Dx e.sec.grs),Dw (Dh ab e.sec.labs),DS (DE e.sec.lab),vi e.req.campus,vi e.req.no,vi e.req.st,vi e.req.kind,vi e.req.time,Dw (Dh Dn e.req.chs),vi e.req.gsec,vi e.req.glab,vi e.req.key,vi e.r,vi e.s],.val (bool true),.b false] (.c hlt (.c hr (.c (@hf ([])) (.c (show(!true)=false from rfl) .n)))) ?_ ?_<;>(first|rfl|(rw[hw]<;>rfl))
theorem fw_bad{l:List (List Dp)}{e:EntT}{i:Nat}(hr:ad (i:Int) l e.row 31)(hlt:Qd ((i:Int)<(l.length:Int))=true)(hf:∀h,Ev Di Γ0 16 [ag e.row] h (bool false) h):(CW Di Γ0 [] false (sub HD 0) (fwS l i) .ret fwX):=by
 exact zx [.st (.mask [2]),.st (.trim 0)] [.b true,.row [vi e.time,vi e.campus,vi e.no,vi e.kind,vi e.stu,vi e.obj,vi e.term,vi e.val,vi e.frm,vi e.til,vs e.text,vi e.sec.id,vi e.sec.course,vi e.sec.term,vi e.sec.campus,vi e.sec.seats,Dw (Dh DA e.sec.mts),Dw (Dh Dx e.sec.grs),Dw (Dh ab e.sec.labs),DS (DE e.sec.lab),vi e.req.campus,vi e.req.no,vi e.req.st,vi e.req.kind,vi e.req.time,Dw (Dh Dn e.req.chs),vi e.req.gsec,vi e.req.glab,vi e.req.key,vi e.r,vi e.s],.val (bool false),.b true] (.c hlt (.c hr (.c (@hf ([])) (.c (show(!false)=true from rfl) .n))))
theorem Cj{l:List (List Dp)}{i:Nat}(hlt:Qd ((i:Int)<(l.length:Int))=false):(CW Di Γ0 [] false (sub HD 0) (fwS l i) (.exit 0) (fwE l)):=by
 exact zx [.st (.mask [0])] [.b false] (.c hlt .n)
def fwF(e:EntT)(_:Unit):Unit⊕Unit:=match wl e with
 | true=>.inl ()
 | false=>.inr ()
theorem Ck{l:List EntT}(hs:ai l):CW Di Γ0 [] false (.loop (sub HD 0)) (fwS (l.map Dt) 0) (af (.exit 0) (fun _:Unit=>fwE (l.map Dt)) (fun _:Unit=>(.ret,fwX)) (forL fwF l ())).1 (af (.exit 0) (fun _:Unit=>fwE (l.map Dt)) (fun _:Unit=>(.ret,fwX)) (forL fwF l ())).2:=by
 refine FZ l fwF (fun j _=>fwS (l.map Dt) (j:Int)) (.exit 0) _ _ (fun _ _=>True) (by simp) (fun _=>by simp) ?_ ?_ () trivial
 ·intro j e a hj _
  have hlt:=(Dq.1 hj).1
  have hr:=rowAt (row:=Dt) (sz:=31) hj rfl
  have hf:=fun h=>wm (e:=e) h
  refine⟨fun _ _=>trivial,?_⟩
  unfold fwF
  cases hb:wl e with
  | true=>rw[hb] at hf;exact fw_ok hr (lt_len Dt hlt) (wrap_succ hlt hs) hf
  | false=>rw[hb] at hf;exact fw_bad hr (lt_len Dt hlt) hf
 ·intro a _
  exact Cj (aY Dt l)
theorem few_x{L:List (List Dp)}(hl:CW Di Γ0 [] false (.loop (sub HD 0)) (fwS L 0) .ret fwX)(h:List Blk):(Ev Di Γ0 11 [aa L] h (bool false) h):=by
 have hl0:=(@hl)
 exact z0 [.sum [0,3] (Ee) {t:=mkT 19 0 [(2,bool false)],h:=[],m:=[]}] (.c hl0 .n) h
theorem few_o{L:List (List Dp)}(hl:CW Di Γ0 [] false (.loop (sub HD 0)) (fwS L 0) (.exit 0) (fwE L))(h:List Blk):(Ev Di Γ0 11 [aa L] h (bool (Qd ((L.length:Int)≤16))) h):=by
 have hl0:=(@hl)
 exact z0 [.sum [0,3] (DV 0) {t:=mkT 19 0 [(0,aa L)],h:=[],m:=[]}] (.c hl0 .n) h
theorem wn:∀{l:List EntT},forL fwF l ()=(match l.all wl with|true=>.inl ()|false=>.inr ())
 | []=>rfl
 | e::l=>by
  unfold forL
  rw[Fq]
  cases hb:wl e with
  | true=>simp only[fwF,hb,Ey];exact wn
  | false=>simp only[fwF,hb];rfl
def Cl(l:List EntT):Bool:=l.all wl&&Qd (((l.map Dt).length:Int)≤16)
theorem few_ev{l:List EntT}(hs:ai l)(h:List Blk):Ev Di Γ0 11 [aa (l.map Dt)] h (bool (Cl l)) h:=by
 have:=Ck hs
 rw[wn] at this
 unfold Cl
 cases hf:l.all wl with
 | true=>rw[hf] at this;rw[Ey];exact few_o this h
 | false=>rw[hf] at this;exact few_x this h
def sC(r:RqT):Bool:=Qd (r.campus<0)||Qd (r.campus≥7)||Qd (r.no<1)||Qd (r.no>1048576)||Qd (r.st<0)||Qd (r.st≥20000)||Qd (r.time<1)||Qd (r.time>1048576)
def rqLen(r:RqT):Int:=((r.chs.map Dn).length:Int)
def rqZ(r:RqT):Bool:=(r.gsec==0&&(r.glab==0&&true))
def rqG(r:RqT):Bool:=buB ⟨r.gsec,r.glab⟩
def rq1B(r:RqT):Bool:=match dupB [] r.chs with
 | true=>false
 | false=>Qd (rqLen r≥1)&&Qd (rqLen r≤8)&&rqZ r&&Qd (r.key≥0)&&Qd (r.key≤1048576)
def pK(r:RqT):Bool:=match sC r with
 | true=>false
 | false=>match r.chs.all buB with
  | false=>false
  | true=>if r.kind=1 then rq1B r else if r.kind=2 then rqLen r==0&&rqG r&&r.key==0 else if r.kind=3 then rqLen r==1&&rqG r&&(r.chs.headD ⟨0,0⟩).sec != r.gsec&&r.key==0
   else if r.kind=4∨r.kind=5 then rqLen r==1&&rqZ r&&r.key==0 else false
theorem tG{r:RqT}(hs:ai r.chs)(h:List Blk):Ev Di Γ0 101 [.agg (rqD r.kind r)] h (bool (pK r)) h:=by
 unfold pK
 cases hh:sC r with
 | true=>exact vq_hd hh h
 | false =>
  have h0:∀k,_:=fun k=>Ca (k:=k) hs
  simp only[wc] at h0
  cases ha:r.chs.all buB with
  | false=>simp only[ha] at h0;exact vq_c hh (h0 r.kind) h
  | true =>
   simp only[ha] at h0
   simp only
   have hgv:∀h,Ev Di Γ0 109 [.agg [int r.gsec,int r.glab]] h (bool (rqG r)) h:=fun h=>nP (b:=⟨r.gsec,r.glab⟩) h
   by_cases k1:r.kind=1
   ·rw[if_pos k1,k1]
    have hd:=B9 (k:=1) (z:=rqZ r) hs
    unfold rq1B
    cases hdd:dupB [] r.chs with
    | true=>exact vq_1r hh (h0 1) (hd.1 hdd) h
    | false=>exact vq_1 hh (h0 1) (hd.2 hdd) h
   ·rw[if_neg k1]
    by_cases k2:r.kind=2
    ·rw[if_pos k2,k2]
     exact vq_2 hh (h0 2) hgv h
    ·rw[if_neg k2]
     by_cases k3:r.kind=3
     ·rw[if_pos k3,k3]
      cases hc:r.chs with
      | nil =>
       have hl:(((r.chs.map Dn).length:Int)==1)=false:=by rw[hc];rfl
       have hl2:(rqLen r==1)=false:=hl
       rw[hl2]
       exact vq_3n hh (h0 3) hl h
      | cons c l =>
       have hR:ad 0 (r.chs.map Dn) c.row 2:=rowAt (n:=0) (by rw[hc];rfl) rfl
       exact vq_3 hh (h0 3) hgv hR h
     ·rw[if_neg k3]
      by_cases k4:r.kind=4
      ·rw[if_pos (.inl k4),k4]
       exact vq_4 hh (h0 4) h
      ·by_cases k5:r.kind=5
       ·rw[if_pos (.inr k5),k5]
        exact vq_5 hh (h0 5) h
       ·rw[if_neg (by omega)]
        exact vq_n hh (h0 r.kind) (by simpa using k1) (by simpa using k2) (by simpa using k3) (by simpa using k4) (by simpa using k5) h
def gV(r:RqT):Int:=match pK r with
 | true=>0
 | false=>290
theorem yj{r:RqT}(hs:ai r.chs)(h:List Blk):Ev Di Γ0 80 [.agg (rqD r.kind r)] h (int (gV r)) h:=by
 have:=fun h=>tG hs h
 unfold gV
 cases hb:pK r with
 | true=>rw[hb] at this;exact vr_t this h
 | false=>rw[hb] at this;exact vr_f this h
def EntT.used(e:EntT)(k:Int):EntT :=
 if k=1 then {e.bare with kind:=k,frm:=e.frm,til:=e.til,text:=e.text} else if k=2∨k=8 then {e.bare with kind:=k,stu:=e.stu,obj:=e.obj,val:=e.val,term:=e.term} else if k=3∨k=5 then {e.bare with kind:=k,stu:=e.stu,obj:=e.obj,val:=e.val,frm:=e.frm,til:=e.til}
 else if k=4 then {e.bare with kind:=k,stu:=e.stu,obj:=e.obj,val:=e.val,term:=e.term,frm:=e.frm,til:=e.til} else if k=6 then {e.bare with kind:=k,sec:=e.sec} else if k=7 then {e.bare with kind:=k,req:=e.req} else {e.bare with kind:=k,term:=e.term}
def fErr(e:EntT)(k:Int):Int:=if k=1 then iP (!(aP e&&Qd ((e.text.size:Int)≤65536))) else if k=2 then iP (!(inS e.stu 0 19999&&inS e.term 0 1023&&inS e.obj 0 4095&&dj e)) else if k=3∨k=5 then iP (!(inS e.stu 0 19999&&aP e&&inS e.obj 0 7&&(e.val==1||e.val == -1)))
 else if k=4 then iP (!(inS e.stu 0 19999&&aP e&&inS e.obj 0 (c8 e.term)&&(e.val == -1||inS e.val 1 1099511627776))) else if k=6 then dk e.sec else if k=7 then gV e.req else if k=8 then ef ⟨e.val,e.stu,e.obj,e.term⟩ else iP (!(inS e.term 0 1023))
def cK(e:EntT):Int:=match fB e.st != 0 with
 | true=>fB e.st
 | false=>if 1≤e.kind∧e.kind≤9 then enR 0 (iO e (e.used e.kind)) (fErr e e.kind) else 370
theorem la{e:EntT}(o:e.ok)(h:List Blk):Ev Di Γ0 28 [ag e.row] h (int (cK e)) h:=by
 have hst:∀h,Ev Di Γ0 44 [.agg [int e.time,int e.campus,int e.no]] h (int (fB e.st)) h:=fun h=>u3 (s:=e.st) h
 unfold cK
 cases hb:(fB e.st != 0) with
 | true=>exact rc_st hst hb h
 | false =>
  have h0:fB e.st=0:=by simpa using hb
  rw[h0] at hst
  simp only
  by_cases hk:1≤e.kind∧e.kind≤9
  ·rw[if_pos hk]
   have hin:inS e.kind 1 9=true:=by simp[inS];omega
   have hkk:e.kind=1∨e.kind=2∨e.kind=3∨e.kind=4∨e.kind=5∨e.kind=6∨e.kind=7∨e.kind=8∨e.kind=9:=by omega
   have go:∀(u:List D) (sb:Bool) (r:Int),(∀h,Ev Di Γ0 46 [.agg (aQ e.kind e)] h (.agg u) h)→(∀h,Ev Di Γ0 37 [ag e.row,.agg u] h (bool sb) h)→(∀h,Ev Di Γ0 47 [.agg (aQ e.kind e)] h (int r) h)→Ev Di Γ0 28 [ag e.row] h (int (enR 0 sb r)) h:=fun u sb r hu hs hf=>rc_k hst hin hu hs hf h
   rcases hkk with hk|hk|hk|hk|hk|hk|hk|hk|hk
   ·rw[hk] at go ⊢
    exact go (eh 1 e 0 0 0 0 e.frm e.til e.text bX dZ) _ _ (fun h=>us1_a h) (fun h=>G5 (bn (a:=e) (b:=e.used 1) o.m o.g o.l o.c h)) (fun h=>fd1_a h)
   ·rw[hk] at go ⊢
    exact go (eh 2 e e.stu e.obj e.term e.val 0 0 Eg bX dZ) _ _ (fun h=>us2_a h) (fun h=>G5 (bn (a:=e) (b:=e.used 2) o.m o.g o.l o.c h)) (fun h=>fd2_a h)
   ·rw[hk] at go ⊢
    exact go (eh 3 e e.stu e.obj 0 e.val e.frm e.til Eg bX dZ) _ _ (fun h=>us3_a h) (fun h=>G5 (bn (a:=e) (b:=e.used 3) o.m o.g o.l o.c h)) (fun h=>fd3_a h)
   ·rw[hk] at go ⊢
    exact go (eh 4 e e.stu e.obj e.term e.val e.frm e.til Eg bX dZ) _ _ (fun h=>us4_a h) (fun h=>G5 (bn (a:=e) (b:=e.used 4) o.m o.g o.l o.c h)) (fun h=>fd4_a h)
   ·rw[hk] at go ⊢
    exact go (eh 5 e e.stu e.obj 0 e.val e.frm e.til Eg bX dZ) _ _ (fun h=>us5_a h) (fun h=>G5 (bn (a:=e) (b:=e.used 5) o.m o.g o.l o.c h)) (fun h=>fd5_a h)
   ·rw[hk] at go ⊢
    exact go (eh 6 e 0 0 0 0 0 0 Eg (f8 e.sec) dZ) _ _ (fun h=>us6_a h) (fun h=>G5 (bn (a:=e) (b:=e.used 6) o.m o.g o.l o.c h)) (fun h=>fd6_a (fun h=>nO o.g o.l h) h)
   ·rw[hk] at go ⊢
    exact go (eh 7 e 0 0 0 0 0 0 Eg bX (rqD e.req.kind e.req)) _ _ (fun h=>us7_a h) (fun h=>G5 (bn (a:=e) (b:=e.used 7) o.m o.g o.l o.c h)) (fun h=>fd7_a (fun h=>yj o.c h) h)
   ·rw[hk] at go ⊢
    exact go (eh 8 e e.stu e.obj e.term e.val 0 0 Eg bX dZ) _ _ (fun h=>us8_a h) (fun h=>G5 (bn (a:=e) (b:=e.used 8) o.m o.g o.l o.c h)) (fun h=>fd8_a h)
   ·rw[hk] at go ⊢
    exact go (eh 9 e 0 0 e.term 0 0 0 Eg bX dZ) _ _ (fun h=>us9_a h) (fun h=>G5 (bn (a:=e) (b:=e.used 9) o.m o.g o.l o.c h)) (fun h=>fd9_a h)
  ·rw[if_neg hk]
   exact rc_n hst (by simp[inS];omega) h
def rcF(e:EntT)(_:Unit):Unit⊕Int:=match cK e != 0 with
 | true=>.inr (cK e)
 | false=>.inl ()
theorem Cm{l:List EntT}(hs:ai l)(ho:∀e∈l,e.ok):CW Di Γ0 [] false (.loop (sub HC 0)) (rcS (l.map Dt) 0)
  (af (.exit 0) (fun _:Unit=>{t:=mkT 25 0 [(0,aa (l.map Dt))],h:=[],m:=[]}) (fun r:Int=>(.ret,{t:=mkT 25 0 [(2,int r)],h:=[],m:=[]})) (forL rcF l ())).1 (af (.exit 0) (fun _:Unit=>{t:=mkT 25 0 [(0,aa (l.map Dt))],h:=[],m:=[]}) (fun r:Int=>(.ret,{t:=mkT 25 0 [(2,int r)],h:=[],m:=[]})) (forL rcF l ())).2:=by
 refine FZ l rcF (fun j _=>rcS (l.map Dt) (j:Int)) (.exit 0) _ _ (fun _ _=>True) (by simp) (fun _=>by simp) ?_ ?_ () trivial
 ·intro j e a hj _
  have hlt:=(Dq.1 hj).1
  have hr:=rowAt (row:=Dt) (sz:=31) hj rfl
  have hck:=fun h=>la (ho e (D1 hj)) h
  refine⟨fun _ _=>trivial,?_⟩
  cases hb:cK e != 0 with
  | true =>
   have e1:rcF e a=.inr (cK e):=by unfold rcF;rw[hb]
   rw[e1]
   exact rc_bad hr (lt_len Dt hlt) hck hb
  | false =>
   have e1:rcF e a=.inl ():=by unfold rcF;rw[hb]
   rw[e1]
   have h0:cK e=0:=by simpa using hb
   rw[h0] at hck
   exact Cg hr (lt_len Dt hlt) (wrap_succ hlt hs) hck
 ·intro a _
  exact Ch (aY Dt l)
def jO(l:List EntT):Int:=match Qd (((l.map Dt).length:Int)>65536) with
 | true=>2
 | false=>match forL rcF l () with
  | .inr r=>r
  | .inl _=>bif !cf [] l then 0 else 390
theorem Cn{l:List EntT}(hs:ai l)(ho:∀e∈l,e.ok)(h:List Blk):Ev Di Γ0 13 [aa (l.map Dt)] h (int (jO l)) h:=by
 unfold jO
 cases hb:Qd (((l.map Dt).length:Int)>65536) with
 | true=>exact Ci hb h
 | false =>
  have:=Cm hs ho
  simp only
  cases hf:forL rcF l () with
  | inr r=>rw[hf] at this;exact red_r hb this h
  | inl u=>rw[hf] at this;exact red_f hb this (fun h=>wj hs h) h
theorem wo(s:StT):fB s=fR s:=by
 have:pv s=qv s:=by
  rw[Fs]
  simp[pv,qv,inS]
  omega
 unfold fB fR
 rw[this]
theorem wp(a b:BuT):lD a b=lD b a:=by
 rw[Fs]
 simp only[lD,Dr,beq_iff_eq]
 constructor<;>(rintro⟨h1,h2,h3⟩;exact⟨h1.symm,h2.symm,h3⟩)
theorem wq:∀(l pre:List BuT),pQ pre l=(l.all buB&&!dupB pre l)
 | [],_=>rfl
 | c::l,pre=>by
  have h1:pre.any (lD c)=pre.any (fun y=>lD y c):=by
   congr 1;funext y;exact wp c y
  simp only[pQ,dupB,Fq,wq l,h1]
  cases buB c<;>cases pre.any (fun y=>lD y c)<;>cases l.all buB<;>cases dupB (pre++[c]) l<;>rfl
theorem Co(k:Int)(r:RqT):rqHd k r=(sC r||Qd (k<1)||Qd (k>5)):=rfl
theorem fj{c:BuT}{l:List BuT}:(((c::l).map Dn).length:Int)=(l.length:Int)+1:=by simp
theorem wr(r:RqT):gV r=kS r:=by
 unfold gV pK kS
 rw[Co]
 cases hh:sC r with
 | true=>rfl
 | false =>
  simp only[Es]
  by_cases hk:r.kind<1∨r.kind>5
  ·have h1:(Qd (r.kind<1)||Qd (r.kind>5))=true:=by simpa using hk
   rw[h1,if_neg (by omega),if_neg (by omega),if_neg (by omega),if_neg (by omega)]
   cases r.chs.all buB<;>rfl
  ·have h1:(Qd (r.kind<1)||Qd (r.kind>5))=false:=by simp;omega
   rw[h1]
   simp only
   by_cases k1:r.kind=1
   ·rw[if_pos k1,if_pos k1]
    unfold rqR1 sa rq1B
    rw[wq]
    show(match (match r.chs.all buB with|false=>false|true=>match dupB [] r.chs with|true=>false|false=>Qd (rqLen r≥1)&&Qd (rqLen r≤8)&&rqZ r&&Qd (r.key≥0)&&Qd (r.key≤1048576)) with|true=>(0:Int)|false=>290)=(match !(Qd (rqLen r≥1)&&Qd (rqLen r≤8)&&(r.chs.all buB&&!dupB [] r.chs)&&rqZ r&&Qd (r.key≥0)&&Qd (r.key≤1048576)) with|true=>(290:Int)|false=>0)
    cases r.chs.all buB<;>cases dupB [] r.chs<;>cases Qd (rqLen r≥1)<;>cases Qd (rqLen r≤8)<;>cases rqZ r<;>cases Qd (r.key≥0)<;>cases Qd (r.key≤1048576)<;>rfl
   ·rw[if_neg k1,if_neg k1]
    by_cases k2:r.kind=2
    ·rw[if_pos k2,if_pos k2]
     unfold rq2R Dc sa rqLen rqG
     cases hc:r.chs with
     | nil=>cases buB ⟨r.gsec,r.glab⟩<;>cases h:(r.key==0)<;>simp[pQ]
     | cons c l =>
      have e1:Qd ((((c::l).map Dn).length:Int)≤0)=false:=by rw[fj];simp<;>omega
      have e2:((((c::l).map Dn).length:Int)==0)=false:=by rw[fj];simp<;>omega
      rw[e1,e2]
      simp only[EU,Ff]
      cases (c::l).all buB<;>rfl
    ·rw[if_neg k2,if_neg k2]
     by_cases k3:r.kind=3
     ·rw[if_pos k3,if_pos k3]
      unfold rq3R Dd sa rqLen rqG
      cases hc:r.chs with
      | nil=>simp
      | cons c l =>
       cases l with
       | nil =>
        have e1:pQ [] [c]=(buB c&&true):=by simp[pQ]
        rw[e1]
        simp only[Fq,List.all_nil,List.headD_cons]
        cases buB c<;>cases buB ⟨r.gsec,r.glab⟩<;>cases (c.sec != r.gsec)<;>cases (r.key==0)<;>rfl
       | cons d l =>
        have e1:Qd ((((c::d::l).map Dn).length:Int)≤1)=false:=by rw[fj];simp<;>omega
        have e2:((((c::d::l).map Dn).length:Int)==1)=false:=by rw[fj];simp<;>omega
        rw[e1,e2]
        simp only[EU,Ff]
        cases (c::d::l).all buB<;>rfl
     ·rw[if_neg k3,if_neg k3]
      rw[if_pos (show r.kind=4∨r.kind=5 by omega)]
      have goal2:(match (match r.chs.all buB with|false=>false|true=>rqLen r==1&&rqZ r&&r.key==0) with|true=>(0:Int)|false=>290)=(match !(sa 1 1 r&&rqZ r&&r.key==0) with|true=>(290:Int)|false=>0):=by
       unfold sa rqLen
       cases hc:r.chs with
       | nil=>simp
       | cons c l =>
        cases l with
        | nil =>
         have e1:pQ [] [c]=(buB c&&true):=by simp[pQ]
         rw[e1]
         simp only[Fq,List.all_nil]
         cases buB c<;>cases rqZ r<;>cases (r.key==0)<;>rfl
        | cons d l =>
         have e1:Qd ((((c::d::l).map Dn).length:Int)≤1)=false:=by rw[fj];simp<;>omega
         have e2:((((c::d::l).map Dn).length:Int)==1)=false:=by rw[fj];simp<;>omega
         rw[e1,e2]
         simp only[EU,Ff]
         cases (c::d::l).all buB<;>rfl
      by_cases k4:r.kind=4
      ·rw[if_pos k4];exact goal2
      ·rw[if_neg k4];exact goal2
def qE(o:Option GrT):Int:=match o with
 | none => -1
 | some p=>p.grp
def okG(o:Option GrT):Prop:=∀p,o=some p→0≤p.grp∧p.grp<8
theorem yk(g:GrT)(o:Option GrT)(h:okG o):vr g (qE o)=iQ g (kY g o):=by
 rw[Fs]
 cases o with
 | none =>
  have e:Dk.wrap (qE none+1)=0:=by decide
  simp only[vr,e,inW,iQ,kY,HN]
  simp
  omega
 | some p =>
  have ⟨h0,h8⟩:=h p rfl
  have e:Dk.wrap (qE (some p)+1)=p.grp+1:=wrap_i64 (by show _≤p.grp+1;omega) (by show p.grp+1≤_;omega)
  simp only[vr,e,inW,iQ,kY]
  simp
  omega
theorem ym{g:GrT}{b:Bool}(h:iQ g b=false):okG (some g):=by
 intro p hp
 cases hp
 simp[iQ] at h
 omega
def qF{α β:Type}(f:α→Int)(x:α⊕β):Option Int:=match x with
 | .inl a=>some (f a)
 | .inr _=>none
theorem gF_eq:∀(l:List GrT) (all:Int) (o:Option GrT),okG o→qF (·.1) (forL gF l (all,qE o))=qF (·.1) (forL foF l (all,o))
 | [],_,_,_=>rfl
 | g::l,all,o,h=>by
  unfold forL
  have hb:=yk g o h
  cases hf:iQ g (kY g o) with
  | true =>
   have e1:gF g (all,qE o)=.inr ():=by unfold gF;rw[hb,hf]
   have e2:foF g (all,o)=.inr ():=by unfold foF;rw[hf]
   rw[e1,e2]
   rfl
  | false =>
   have e1:gF g (all,qE o)=.inl (Dk.wrap (all+g.seats),qE (some g)):=by unfold gF;rw[hb,hf];rfl
   have e2:foF g (all,o)=.inl (Dk.wrap (all+g.seats),some g):=by unfold foF;rw[hf]
   rw[e1,e2]
   exact gF_eq l _ _ (ym hf)
def qG(o:Option Int):Int:=match o with
 | none => -1
 | some p=>p
def okI(o:Option Int):Prop:=∀p,o=some p→0≤p∧p<4000
theorem Cp(n:Int)(o:Option Int)(h:okI o):(!inW n (Dk.wrap (qG o+1)) 3999)=iR n (kZ n o):=by
 rw[Fs]
 cases o with
 | none =>
  have e:Dk.wrap (qG none+1)=0:=by decide
  simp only[e,inW,iR,kZ,HN]
  simp
  omega
 | some p =>
  have ⟨h0,h8⟩:=h p rfl
  have e:Dk.wrap (qG (some p)+1)=p+1:=wrap_i64 (by show _≤p+1;omega) (by show p+1≤_;omega)
  simp only[e,inW,iR,kZ]
  simp
  omega
theorem yn{n:Int}{b:Bool}(h:iR n b=false):okI (some n):=by
 intro p hp
 cases hp
 simp[iR] at h
 omega
theorem lF_eq:∀(l:List Int) (o:Option Int),okI o→qF (fun _=>0) (forL lF l (qG o))=qF (fun _=>0) (forL fbF l o)
 | [],_,_=>rfl
 | n::l,o,h=>by
  unfold forL
  have hb:=Cp n o h
  cases hf:iR n (kZ n o) with
  | true =>
   have e1:lF n (qG o)=.inr ():=by unfold lF;rw[hb,hf]
   have e2:fbF n o=.inr ():=by unfold fbF;rw[hf]
   rw[e1,e2]
   rfl
  | false =>
   have e1:lF n (qG o)=.inl (qG (some n)):=by unfold lF;rw[hb,hf];rfl
   have e2:fbF n o=.inl (some n):=by unfold fbF;rw[hf]
   rw[e1,e2]
   exact lF_eq l _ (yn hf)
theorem ws(s:SecT)(all:Int):py s all=(!secHd23 s&&Qd (all≤s.seats)):=by
 rw[Fs]
 unfold py secHd23 inW
 cases s.lab with
 | false =>
  simp only[Ff,HN,Bool.not_false,Bool.and_true,Dr,decide_eq_true_eq,ED,ET,decide_eq_false_iff_not]
  omega
 | true =>
  simp only[Ey,Dr,decide_eq_true_eq,ED,ET,decide_eq_false_iff_not]
  omega
theorem Cq(s:SecT):qy s=secB23 s:=by
 unfold qy secB23
 have h1:=gF_eq s.grs 0 none (fun _ h=>by cases h)
 have h2:=lF_eq s.labs none (fun _ h=>by cases h)
 change qF _ (forL gF s.grs (0,-1))=_ at h1
 change qF _ (forL lF s.labs (-1))=_ at h2
 cases e1:forL gF s.grs (0,-1) with
 | inr u =>
  rw[e1] at h1
  cases e2:forL foF s.grs (0,none) with
  | inr _=>cases secHd23 s<;>rfl
  | inl a=>rw[e2] at h1;cases h1
 | inl a =>
  rw[e1] at h1
  cases e2:forL foF s.grs (0,none) with
  | inr _=>rw[e2] at h1;cases h1
  | inl b =>
   rw[e2] at h1
   have hab:a.1=b.1:=by simpa[qF] using h1
   simp only
   cases e3:forL lF s.labs (-1) with
   | inr _ =>
    rw[e3] at h2
    cases e4:forL fbF s.labs none with
    | inr _=>cases secHd23 s<;>rfl
    | inl _=>rw[e4] at h2;cases h2
   | inl _ =>
    rw[e3] at h2
    cases e4:forL fbF s.labs none with
    | inr _=>rw[e4] at h2;cases h2
    | inl _ =>
     simp only[ws,hab]
     cases secHd23 s<;>rfl
theorem wt(s:SecT):dk s=kT s:=by
 unfold dk kT
 rw[Cq]
 cases secB23 s<;>rfl
theorem tH(a b:SecT):fT a b=secEq a b:=rfl
theorem wu(a b:RqT):kX a b=rqEq a b:=by
 have hq:qbB a.chs b.chs=(match (((a.chs.map Dn).length:Int) != ((b.chs.map Dn).length:Int)) with|true=>false|false=>match qbR a.chs b.chs with | .inl _=>true | .inr _=>false):=by
  unfold qbB
  cases (((a.chs.map Dn).length:Int) != ((b.chs.map Dn).length:Int))<;>rfl
 unfold kX rqEq
 rw[hq]
 simp only[bne]
 cases (((a.chs.map Dn).length:Int)==((b.chs.map Dn).length:Int))<;>cases qbR a.chs b.chs<;>cases (a.campus==b.campus)<;>cases (a.no==b.no)<;>cases (a.st==b.st)<;>cases (a.kind==b.kind)<;>cases (a.time==b.time)<;>cases (a.gsec==b.gsec&&(a.glab==b.glab&&true))<;>cases (a.key==b.key)<;>rfl
theorem iT(a b:EntT):iO a b=bW a b:=by
 unfold iO bW
 rw[tH,wu]
 generalize (qx a b&&a.kind==b.kind&&a.stu==b.stu&&a.obj==b.obj&&a.term==b.term&&a.val==b.val&&(a.frm==b.frm&&(a.til==b.til&&true))&&eqS a.text b.text)=x
 generalize (a.r==b.r&&(a.s==b.s&&true))=y
 cases x<;>cases y<;>cases secEq a.sec b.sec<;>cases rqEq a.req b.req<;>rfl
theorem gW{α:Type}(ne:α→α→Bool)(f:α×α→Unit→Unit⊕Unit)(hf:∀p u,f p u=bif ne p.1 p.2 then .inr () else .inl ())(h:∀a,ne a a=false):∀l:List α,forL f (l.zip l) ()=.inl ()
 | []=>rfl
 | a::l=>by
  rw[Jl]
  unfold forL
  rw[hf,h]
  exact gW ne f hf h l
theorem yp(l:List MeT):qmB l l=true:=by
 unfold qmB qmR
 rw[if_neg (by simp),gW meNe qmF (fun _ _=>rfl) (fun a=>by simp[meNe])]
theorem yq(l:List GrT):qgB l l=true:=by
 unfold qgB qgR
 rw[if_neg (by simp),gW grNe qgF (fun _ _=>rfl) (fun a=>by simp[grNe])]
theorem yr(l:List Int):qiB l l=true:=by
 unfold qiB qiR
 rw[if_neg (by simp),gW rT qiF (fun _ _=>rfl) (fun a=>by simp[rT])]
theorem yu(l:List BuT):qbB l l=true:=by
 unfold qbB qbR
 rw[if_neg (by simp),gW buNe qbF (fun _ _=>rfl) (fun a=>by simp[buNe])]
theorem tI(s:SecT):secEq s s=true:=by simp[secEq,yp,yq,yr]
theorem wv(r:RqT):rqEq r r=true:=by simp[rqEq,yu]
theorem yv(t:ByteArray):eqS t t=true:=by simp[eqS]
theorem yw(e:EntT)(hk:1≤e.kind∧e.kind≤9):bW e (e.used e.kind)=bW (e.clr e.kind) e.bare:=by
 have hkk:e.kind=1∨e.kind=2∨e.kind=3∨e.kind=4∨e.kind=5∨e.kind=6∨e.kind=7∨e.kind=8∨e.kind=9:=by omega
 obtain⟨time,campus,no,kind,stu,obj,term,val,frm,til,text,sec,req,r,s⟩:=e
 simp only at hkk
 rcases hkk with rfl|rfl|rfl|rfl|rfl|rfl|rfl|rfl|rfl <;>
  simp[EntT.used,EntT.clr,EntT.bare,bW,qx,tI,wv,yv]
theorem yy{n:Int}(h:0≤n):xI n=n.tmod 16:=by
 unfold xI
 obtain⟨m,rfl⟩:=Int.eq_ofNat_of_zero_le h
 have h1:(EJ Dk.bits (m:Int) &&& EJ Dk.bits 15).toNat=m % 16:=by
  have e1:EJ Dk.bits (m:Int)=Hq 64 m:=by
   show EJ 64 (m:Int)=_
   exact BitVec.ofInt_natCast 64 m
  have e2:EJ Dk.bits 15=Hq 64 15:=rfl
  rw[e1,e2]
  show(Hq 64 m &&& Hq 64 15).toNat=m % 16
  rw[BitVec.toNat_and,I6,I6]
  have:(15 % 2 ^ 64:Nat)=2 ^ 4 - 1:=by decide
  rw[this,Nat.and_two_pow_sub_one_eq_mod]
  omega
 rw[h1,wrap_i64 (by omega) (by omega),Int.ofNat_tmod]
 rfl
theorem Cr{n:Int}(h:0≤n)(h2:n≤9223372036854775807):shr4 n=Dk.wrap (n.tdiv 16):=by
 have e:n.tdiv 16=n / 16:=Int.tdiv_eq_ediv_of_nonneg h
 rw[e,wrap_i64 (by omega) (by omega)]
 show n.fdiv 16=n / 16
 exact Int.fdiv_eq_ediv_of_nonneg n (by decide)
theorem iU(e:EntT):aP e=a6 e.frm e.til:=rfl
theorem ww(e:EntT)(hv:e.val≤9223372036854775807):dj e=pA e:=by
 unfold dj pA
 by_cases h:0≤e.val
 ·rw[yy h,Cr h hv]
 ·have:Qd (e.val≥0)=false:=by simp;omega
  rw[this]
  rfl
theorem yz(e:EntT):iP (!(inS e.stu 0 19999&&aP e&&inS e.obj 0 (c8 e.term)&&(e.val == -1||inS e.val 1 1099511627776)))=petR e:=by
 rw[nL,iU]
 unfold petR Bh c8
 by_cases h7:e.term=7
 ·simp only[h7,beq_self_eq_true,if_pos];rfl
 ·by_cases h9:e.term=9
  ·simp only[h9];rfl
  ·by_cases h8:e.term=8
   ·simp only[h8];rfl
   ·by_cases h10:e.term=10
    ·simp only[h10];rfl
    ·have e7:(e.term==7)=false:=by simpa using h7
     have e8:(e.term==8)=false:=by simpa using h8
     have e9:(e.term==9)=false:=by simpa using h9
     have e10:(e.term==10)=false:=by simpa using h10
     rw[e7,e8,e9,e10,if_neg h7,if_neg h9,if_neg h8,if_neg h10]
     have:inS e.obj 0 (-1)=false:=by simp[inS];omega
     simp only[this,EU,Ff]
     rfl
theorem Cs(e:EntT)(hv:e.val≤9223372036854775807)(k:Int):fErr e k=tR e k:=by
 unfold fErr tR
 simp only[nL,wt,wr,iU,ww e hv]
 have hp:=yz e
 rw[nL,iU] at hp
 rw[hp]
 rfl
theorem pL(e:EntT)(hv:e.val≤9223372036854775807):cK e=aH e:=by
 unfold cK aH
 rw[wo]
 cases (fR e.st != 0) with
 | true=>rfl
 | false =>
  simp only
  by_cases hk:1≤e.kind∧e.kind≤9
  ·rw[if_pos hk,if_pos hk,iT,yw e hk,Cs e hv]
  ·rw[if_neg hk,if_neg hk]
set_option maxRecDepth 1000000
abbrev tk(a b c k t:Int):List D:=[int a,int b,int c,int k,int 0,int 0,int t,int 0,int 0,int 0,ax ⟨#[]⟩,int 0,int 0,int 0,int 0,int 0,nq,nq,nq,bool false,int 0,int 0,int 0,int 0,int 0,nq,int 0,int 0,int 0,int 0,int 0]
def s39m0:Memo:=⟨20,[.ref (.vec 0 0),.ref (.vs 0 0 1 2 false)],[.vec [(tk 2 0 1 9 3),(tk 2 1 1 9 3),(tk 5 0 2 9 3)] 0 31,.gone,.gone,.gone,.gone,.gone,.gone,.gone,.gone,.gone,.gone,.gone,.vec [(tk 2 0 1 9 3),(tk 2 1 1 9 3),(tk 5 0 2 9 3)] 2 31,.gone,.gone,.gone,.gone,.gone,.gone,.gone,.gone,.gone,.gone,.gone,.gone,.gone,.gone,.gone,.gone,.gone,.vec [(tk 2 0 1 9 3),(tk 2 1 1 9 3),(tk 5 0 2 9 3)] 2 31,.gone,.gone,.gone,.gone,.gone,.gone],.ret (.tup [.ref (.vec 46 2),int 0]) [.vec [(tk 2 0 1 9 3),(tk 2 1 1 9 3),(tk 5 0 2 9 3)] 0 31,.gone,.gone,.gone,.gone,.gone,.gone,.gone,.gone,.gone,.gone,.gone,.vec [(tk 2 0 1 9 3),(tk 2 1 1 9 3),(tk 5 0 2 9 3)] 2 31,.gone,.gone,.gone,.gone,.gone,.gone,.gone,.gone,.gone,.gone,.gone,.gone,.gone,.gone,.gone,.gone,.gone,.vec [(tk 2 0 1 9 3),(tk 2 1 1 9 3),(tk 5 0 2 9 3)] 2 31,.gone,.gone,.gone,.gone,.gone,.gone,.gone,.gone,.gone,.gone,.gone,.gone,.gone,.gone,.gone,.vec [(tk 2 0 1 9 3),(tk 2 1 1 9 3),(tk 5 0 2 9 3)] 2 31,.gone,.gone,.gone,.gone,.gone,.gone,.gone,.gone,.gone,.gone]⟩
theorem yA:s39m0.Ok Di Γq:=GE pok (ms:=[]) (by kernel_rfl) trivial
def s39m1:Memo:=⟨17,[.ref (.vec 0 0),.agg (tk 2 0 9 9 3)],[.vec [(tk 2 0 1 9 3),(tk 2 1 1 9 3),(tk 5 0 2 9 3)] 0 31,.gone,.gone,.gone,.gone,.gone,.gone,.gone,.gone,.gone,.gone,.gone,.vec [(tk 2 0 1 9 3),(tk 2 1 1 9 3),(tk 5 0 2 9 3)] 2 31,.gone,.gone,.gone,.gone,.gone,.gone,.gone,.gone,.gone,.gone,.gone,.gone,.gone,.gone,.gone,.gone,.gone,.vec [(tk 2 0 1 9 3),(tk 2 1 1 9 3),(tk 5 0 2 9 3)] 2 31,.gone,.gone,.gone,.gone,.gone,.gone,.gone,.gone,.gone,.gone,.gone,.gone,.gone,.gone,.gone,.vec [(tk 2 0 1 9 3),(tk 2 1 1 9 3),(tk 5 0 2 9 3)] 2 31,.gone,.gone,.gone,.gone,.gone,.gone,.gone,.gone,.gone,.gone],.ret (.tup [nq,int 0,int 390]) [.vec [(tk 2 0 1 9 3),(tk 2 1 1 9 3),(tk 5 0 2 9 3)] 0 31,.gone,.gone,.gone,.gone,.gone,.gone,.gone,.gone,.gone,.gone,.gone,.vec [(tk 2 0 1 9 3),(tk 2 1 1 9 3),(tk 5 0 2 9 3)] 2 31,.gone,.gone,.gone,.gone,.gone,.gone,.gone,.gone,.gone,.gone,.gone,.gone,.gone,.gone,.gone,.gone,.gone,.vec [(tk 2 0 1 9 3),(tk 2 1 1 9 3),(tk 5 0 2 9 3)] 2 31,.gone,.gone,.gone,.gone,.gone,.gone,.gone,.gone,.gone,.gone,.gone,.gone,.gone,.gone,.gone,.vec [(tk 2 0 1 9 3),(tk 2 1 1 9 3),(tk 5 0 2 9 3)] 2 31,.gone,.gone,.gone,.gone,.gone,.gone,.gone,.gone,.gone,.gone]⟩
theorem yB:s39m1.Ok Di Γq:=GE pok (ms:=[]) (by kernel_rfl) trivial
def s39m2:Memo:=⟨17,[.ref (.vs 0 0 0 2 false),.agg (tk 5 0 2 9 3)],[.vec [(tk 2 0 1 9 3),(tk 2 1 1 9 3),(tk 5 0 2 9 3)] 0 31],.ret (.tup [.ref (.vec 12 2),int 2,int 0]) [.vec [(tk 2 0 1 9 3),(tk 2 1 1 9 3),(tk 5 0 2 9 3)] 0 31,.gone,.gone,.gone,.gone,.gone,.gone,.gone,.gone,.gone,.gone,.gone,.vec [(tk 2 0 1 9 3),(tk 2 1 1 9 3),(tk 5 0 2 9 3)] 2 31,.gone,.gone,.gone,.gone,.gone,.gone]⟩
theorem yC:s39m2.Ok Di Γq:=GE pok (ms:=[]) (by kernel_rfl) trivial
def s39m3:Memo:=⟨17,[.ref (.vs 0 0 1 2 false),.agg (tk 2 0 1 9 3)],[.vec [(tk 2 0 1 9 3),(tk 2 1 1 9 3),(tk 5 0 2 9 3)] 0 31,.gone,.gone,.gone,.gone,.gone,.gone,.gone,.gone,.gone,.gone,.gone,.vec [(tk 2 0 1 9 3),(tk 2 1 1 9 3),(tk 5 0 2 9 3)] 2 31,.gone,.gone,.gone,.gone,.gone,.gone],.ret (.tup [.ref (.vec 30 2),int 0,int 0]) [.vec [(tk 2 0 1 9 3),(tk 2 1 1 9 3),(tk 5 0 2 9 3)] 0 31,.gone,.gone,.gone,.gone,.gone,.gone,.gone,.gone,.gone,.gone,.gone,.vec [(tk 2 0 1 9 3),(tk 2 1 1 9 3),(tk 5 0 2 9 3)] 2 31,.gone,.gone,.gone,.gone,.gone,.gone,.gone,.gone,.gone,.gone,.gone,.gone,.gone,.gone,.gone,.gone,.gone,.vec [(tk 2 0 1 9 3),(tk 2 1 1 9 3),(tk 5 0 2 9 3)] 2 31,.gone,.gone,.gone,.gone,.gone,.gone]⟩
theorem yD:s39m3.Ok Di Γq:=GE pok (ms:=[]) (by kernel_rfl) trivial
def s39m4:Memo:=⟨22,[.ref (.vec 0 0),int 16],[.vec [(tk 2 0 1 9 3),(tk 2 1 1 9 3),(tk 5 0 2 9 3)] 0 31,.gone,.gone,.gone,.gone,.gone,.gone,.gone,.gone,.gone,.gone,.gone,.vec [(tk 2 0 1 9 3),(tk 2 1 1 9 3),(tk 5 0 2 9 3)] 2 31,.gone,.gone,.gone,.gone,.gone,.gone,.gone,.gone,.gone,.gone,.gone,.gone,.gone,.gone,.gone,.gone,.gone,.vec [(tk 2 0 1 9 3),(tk 2 1 1 9 3),(tk 5 0 2 9 3)] 2 31,.gone,.gone,.gone,.gone,.gone,.gone,.gone,.gone,.gone,.gone,.gone,.gone,.gone,.gone,.gone,.vec [(tk 2 0 1 9 3),(tk 2 1 1 9 3),(tk 5 0 2 9 3)] 2 31,.gone,.gone,.gone,.gone,.gone,.gone,.gone,.gone,.gone,.gone],.ret (.tup [.ref (.vec 59 0),int 0]) [.vec [(tk 2 0 1 9 3),(tk 2 1 1 9 3),(tk 5 0 2 9 3)] 0 31,.gone,.gone,.gone,.gone,.gone,.gone,.gone,.gone,.gone,.gone,.gone,.vec [(tk 2 0 1 9 3),(tk 2 1 1 9 3),(tk 5 0 2 9 3)] 2 31,.gone,.gone,.gone,.gone,.gone,.gone,.gone,.gone,.gone,.gone,.gone,.gone,.gone,.gone,.gone,.gone,.gone,.vec [(tk 2 0 1 9 3),(tk 2 1 1 9 3),(tk 5 0 2 9 3)] 2 31,.gone,.gone,.gone,.gone,.gone,.gone,.gone,.gone,.gone,.gone,.gone,.gone,.gone,.gone,.gone,.vec [(tk 2 0 1 9 3),(tk 2 1 1 9 3),(tk 5 0 2 9 3)] 2 31,.gone,.gone,.gone,.gone,.gone,.gone,.gone,.gone,.gone,.gone,.gone,.gone,.vec [(tk 2 0 1 9 3)] 0 31,.gone,.gone]⟩
theorem yE:s39m4.Ok Di Γq:=GE pok (ms:=[]) (by kernel_rfl) trivial
def s39m5:Memo:=⟨12,[.ref (.vec 0 0)],[.vec [(tk 2 0 1 9 3),(tk 2 1 1 9 3),(tk 5 0 2 9 3)] 0 31,.gone,.gone,.gone,.gone,.gone,.gone,.gone,.gone,.gone,.gone,.gone,.vec [(tk 2 0 1 9 3),(tk 2 1 1 9 3),(tk 5 0 2 9 3)] 2 31,.gone,.gone,.gone,.gone,.gone,.gone,.gone,.gone,.gone,.gone,.gone,.gone,.gone,.gone,.gone,.gone,.gone,.vec [(tk 2 0 1 9 3),(tk 2 1 1 9 3),(tk 5 0 2 9 3)] 2 31,.gone,.gone,.gone,.gone,.gone,.gone,.gone,.gone,.gone,.gone,.gone,.gone,.gone,.gone,.gone,.vec [(tk 2 0 1 9 3),(tk 2 1 1 9 3),(tk 5 0 2 9 3)] 2 31,.gone,.gone,.gone,.gone,.gone,.gone,.gone,.gone,.gone,.gone,.gone,.gone,.vec [(tk 2 0 1 9 3)] 0 31,.gone,.gone],.ret (int 0) [.vec [(tk 2 0 1 9 3),(tk 2 1 1 9 3),(tk 5 0 2 9 3)] 0 31,.gone,.gone,.gone,.gone,.gone,.gone,.gone,.gone,.gone,.gone,.gone,.vec [(tk 2 0 1 9 3),(tk 2 1 1 9 3),(tk 5 0 2 9 3)] 2 31,.gone,.gone,.gone,.gone,.gone,.gone,.gone,.gone,.gone,.gone,.gone,.gone,.gone,.gone,.gone,.gone,.gone,.vec [(tk 2 0 1 9 3),(tk 2 1 1 9 3),(tk 5 0 2 9 3)] 2 31,.gone,.gone,.gone,.gone,.gone,.gone,.gone,.gone,.gone,.gone,.gone,.gone,.gone,.gone,.gone,.vec [(tk 2 0 1 9 3),(tk 2 1 1 9 3),(tk 5 0 2 9 3)] 2 31,.gone,.gone,.gone,.gone,.gone,.gone,.gone,.gone,.gone,.gone,.gone,.gone,.vec [(tk 2 0 1 9 3)] 0 31,.gone,.gone]⟩
theorem yF:s39m5.Ok Di Γq:=GE pok (ms:=[]) (by kernel_rfl) trivial
def s39mR:Memo:=⟨10,[],[],.ret (bool true) []⟩
theorem yG:s39mR.Ok Di Γq:=GE pok (ms:=[s39m0,s39m1,s39m2,s39m3,s39m4,s39m5]) (by kernel_rfl) ⟨yA,yB,yC,yD,yE,yF,trivial⟩
theorem lb(h:List Blk):Ev Di Γq 10 [] h (bool true) h:=H0 rfl (Memo.call yG rfl) h
def dq(a b:StT):Prop:=a.time<b.time∨(a.time=b.time∧(a.campus<b.campus∨(a.campus=b.campus∧a.no<b.no)))
theorem cmp8_cases(a b:Int):(a<b∧cB a b = -1)∨(a=b∧cB a b=0)∨(b<a∧cB a b=1):=by
 unfold cB
 rcases Int.lt_trichotomy a b with h|h|h
 ·left;rw[decide_eq_true h];exact⟨h,rfl⟩
 ·right;left;subst h;simp
 ·right;right
  have h1:Qd (a<b)=false:=by simp;omega
  have h2:Qd (a>b)=true:=by simp;omega
  rw[h1,h2];exact⟨h,rfl⟩
theorem stCmp8_cases(a b:StT):(dq a b∧cC a b = -1)∨(¬dq a b∧¬dq b a∧cC a b=0)∨(dq b a∧cC a b=1):=by
 unfold cC dq
 rcases cmp8_cases a.time b.time with ⟨h1,e1⟩|⟨h1,e1⟩|⟨h1,e1⟩<;>rw[e1]
 ·left;exact⟨.inl h1,rfl⟩
 ·rcases cmp8_cases a.campus b.campus with ⟨h2,e2⟩|⟨h2,e2⟩|⟨h2,e2⟩<;>rw[e2]
  ·left;exact⟨.inr ⟨h1,.inl h2⟩,rfl⟩
  ·rcases cmp8_cases a.no b.no with ⟨h3,e3⟩|⟨h3,e3⟩|⟨h3,e3⟩<;>rw[e3]
   ·left;exact⟨.inr ⟨h1,.inr ⟨h2,h3⟩⟩,rfl⟩
   ·right;left;exact⟨by omega,by omega,rfl⟩
   ·right;right;exact⟨by omega,rfl⟩
  ·right;right;exact⟨by omega,rfl⟩
 ·right;right;exact⟨.inl h1,rfl⟩
theorem gX(a b:StT):bc a b=cC a b:=by
 unfold bc fp cC gT
 rcases cmp8_cases a.time b.time with ⟨h1,e1⟩|⟨h1,e1⟩|⟨h1,e1⟩<;>rw[e1]
 ·have:(a.time==b.time)=false:=by simp;omega
  rw[this];rfl
 ·rcases cmp8_cases a.campus b.campus with ⟨h2,e2⟩|⟨h2,e2⟩|⟨h2,e2⟩<;>rw[e2]
  ·have:(a.campus==b.campus)=false:=by simp;omega
   rw[this,Ff,EU];rfl
  ·rcases cmp8_cases a.no b.no with ⟨h3,e3⟩|⟨h3,e3⟩|⟨h3,e3⟩<;>rw[e3]
   ·have:(a.no==b.no)=false:=by simp;omega
    rw[this,Ff,EU,EU];rfl
   ·rw[h1,h2,h3];simp
   ·have:(a.no==b.no)=false:=by simp;omega
    rw[this,Ff,EU,EU];rfl
  ·have:(a.campus==b.campus)=false:=by simp;omega
   rw[this,Ff,EU];rfl
 ·have:(a.time==b.time)=false:=by simp;omega
  rw[this];rfl
theorem sD(a b:StT):cC a b≥0 ↔ ¬dq a b:=by
 rcases stCmp8_cases a b with ⟨h,e⟩|⟨h,_,e⟩|⟨h,e⟩<;>rw[e]
 ·exact⟨fun h=>by omega,fun h2=>absurd h h2⟩
 ·exact⟨fun _=>h,fun _=>by omega⟩
 ·refine⟨fun _ h2=>?_,fun _=>by omega⟩
  unfold dq at h h2
  omega
abbrev z00:StT:=⟨0,0,0⟩
structure FitI (pre:List EntT) (s:List StT×Option StT):Prop where
 n:s.1.length=7
 c:∀c:Nat,c<7→(s.1.getD c z00=z00∧∀y∈pre,y.campus ≠ c)∨∃x∈pre,s.1.getD c z00=x.st∧x.campus=c∧∀y∈pre,y.campus=c→y.time≤x.time∧y.no≤x.no
 p:(s.2=none∧pre=[])∨∃x∈pre,s.2=some x.st∧∀y∈pre,¬dq x.st y.st
 v:∀y∈pre,1≤y.no
def qH(s:StT)(o:Option StT):Bool:=match o with
 | none=>false
 | some p=>Qd (bc p s≥0)
theorem yH{pre:List EntT}{s:List StT×Option StT}(I:FitI pre s)(e:EntT)(h0:0≤e.campus)(h7:e.campus<7):
  (qH e.st s.2||fiB (s.1.getD e.st.campus.toNat z00) e.st)=pre.any (fun x=>f5 x.st e.st):=by
 have hc:((e.st.campus.toNat:Nat):Int)=e.campus:=by show((e.campus.toNat:Nat):Int)=_;omega
 have hlt:e.st.campus.toNat<7:=by omega
 rw[Fs,E9,List.any_eq_true]
 constructor
 ·rintro (h|h)
  ·rcases I.p with ⟨h1,_⟩|⟨x,hx,h1,_⟩
   ·rw[h1] at h;cases h
   ·rw[h1] at h
    refine⟨x,hx,?_⟩
    unfold f5
    have:Qd (cC x.st e.st≥0)=true:=by rw[←gX];exact h
    rw[this];rfl
  ·rcases I.c _ hlt with ⟨h1,_⟩|⟨x,hx,h1,h2,_⟩
   ·rw[h1] at h;cases h
   ·rw[h1] at h
    refine⟨x,hx,?_⟩
    unfold f5
    have hcc:(x.st.campus==e.st.campus)=true:=by
     show(x.campus==e.campus)=true
     rw[h2,hc];simp
    unfold fiB at h
    rw[Dr] at h
    rw[hcc,h.2];simp
 ·rintro⟨y,hy,h⟩
  unfold f5 at h
  rw[E9] at h
  rcases h with h|h
  ·left
   rcases I.p with ⟨_,h1⟩|⟨x,hx,h1,h2⟩
   ·rw[h1] at hy;cases hy
   ·rw[h1]
    show Qd (bc x.st e.st≥0)=true
    rw[gX]
    have ha:=(sD y.st e.st).1 (by simpa using h)
    have hb:=h2 y hy
    simp only[decide_eq_true_eq]
    rw[sD]
    unfold dq at *
    omega
  ·right
   rw[Dr] at h
   have hcc:y.campus=((e.st.campus.toNat:Nat):Int):=by rw[hc];exact eq_of_beq h.1
   rcases I.c _ hlt with ⟨_,h1⟩|⟨x,hx,h1,h2,h3⟩
   ·exact absurd hcc (h1 y hy)
   ·rw[h1]
    have ⟨ht,hn⟩:=h3 y hy hcc
    have hv:=I.v x hx
    have hor:=h.2
    rw[E9] at hor
    simp only[decide_eq_true_eq] at hor
    unfold fiB
    rw[Dr,E9]
    simp only[decide_eq_true_eq]
    refine⟨?_,?_⟩
    ·show x.no>0
     omega
    ·rcases hor with ho|ho
     ·left
      show x.time≥e.st.time
      have:y.st.time=y.time:=rfl
      omega
     ·right
      show x.no≥e.st.no
      have:y.st.no=y.no:=rfl
      omega
theorem yI{pre:List EntT}{s:List StT×Option StT}(I:FitI pre s)(e:EntT)(h0:0≤e.campus)(h7:e.campus<7)(hn:1≤e.no)(hb:pre.any (fun x=>f5 x.st e.st)=false):
  FitI (pre++[e]) (s.1.set e.st.campus.toNat e.st,some e.st):=by
 have hc:((e.st.campus.toNat:Nat):Int)=e.campus:=by show((e.campus.toNat:Nat):Int)=_;omega
 have hlt:e.st.campus.toNat<7:=by omega
 rw[List.any_eq_false] at hb
 have hall:∀y∈pre,dq y.st e.st∧(y.campus=e.campus→y.time<e.time∧y.no<e.no):=by
  intro y hy
  have:=hb y hy
  unfold f5 at this
  simp only[E9,Dr,decide_eq_true_eq,beq_iff_eq,not_or,not_and] at this
  have h1:=(not_congr (sD y.st e.st)).1 this.1
  refine⟨IG.1 h1,fun hcc=>?_⟩
  have h2:=this.2 hcc
  have e1:y.st.time=y.time:=rfl
  have e2:e.st.time=e.time:=rfl
  have e3:y.st.no=y.no:=rfl
  have e4:e.st.no=e.no:=rfl
  omega
 refine⟨by simp[I.n],?_,?_,?_⟩
 ·intro c hc7
  by_cases hce:c=e.st.campus.toNat
  ·subst hce
   right
   refine⟨e,by simp,?_,hc.symm,?_⟩
   ·rw[Fu,List.getElem?_set_self (by rw[I.n];exact hlt)];rfl
   ·intro y hy hyc
    rw[DX] at hy
    rcases hy with hy|hy
    ·have:=(hall y hy).2 (by rw[hyc,hc]);omega
    ·simp at hy;subst hy;exact⟨Int.le_refl _,Int.le_refl _⟩
  ·have hg:(s.1.set e.st.campus.toNat e.st).getD c z00=s.1.getD c z00:=by
    rw[Fu,Fu,List.getElem?_set_ne (fun h=>hce h.symm)]
   simp only[hg]
   have hne:e.campus ≠ (c:Int):=by omega
   rcases I.c c hc7 with ⟨h1,h2⟩|⟨x,hx,h1,h2,h3⟩
   ·left
    refine⟨h1,fun y hy=>?_⟩
    rw[DX] at hy
    rcases hy with hy|hy
    ·exact h2 y hy
    ·simp at hy;subst hy;exact hne
   ·right
    refine⟨x,by simp[hx],h1,h2,fun y hy hyc=>?_⟩
    rw[DX] at hy
    rcases hy with hy|hy
    ·exact h3 y hy hyc
    ·simp at hy;subst hy;exact absurd hyc hne
 ·right
  refine⟨e,by simp,rfl,fun y hy=>?_⟩
  rw[DX] at hy
  rcases hy with hy|hy
  ·have:=(hall y hy).1
   unfold dq at *
   omega
  ·simp at hy;subst hy;unfold dq;omega
 ·intro y hy
  rw[DX] at hy
  rcases hy with hy|hy
  ·exact I.v y hy
  ·simp at hy;subst hy;exact hn
theorem zy:∀(l pre:List EntT) (s:List StT×Option StT),FitI pre s→(∀e∈l,(0≤e.campus∧e.campus<7)∧1≤e.no)→(match forL (fun e:EntT=>fiF e.st) l s with | .inl _=>true | .inr _=>false) = !cf pre l
 | [],_,_,_,_=>rfl
 | e::l,pre,s,I,hv=>by
  have ⟨⟨h0,h7⟩,hn⟩:=hv e (by simp)
  have hc:=yH I e h0 h7
  unfold forL
  have hF:fiF e.st s=match qH e.st s.2||fiB (s.1.getD e.st.campus.toNat z00) e.st with|true=>.inr s.1|false=>.inl (s.1.set e.st.campus.toNat e.st,some e.st):=by
   unfold fiF qH
   cases s.2<;>rfl
  simp only[hF,hc,cf]
  cases hb:pre.any (fun x=>f5 x.st e.st) with
  | true=>rfl
  | false=>exact zy l (pre++[e]) _ (yI I e h0 h7 hn hb) (fun x hx=>hv x (by simp[hx]))
theorem Ct:∀c:Nat,c<7→z7.getD c z00=z00:=by
 intro c hc
 have:c=0∨c=1∨c=2∨c=3∨c=4∨c=5∨c=6:=by omega
 rcases this with h|h|h|h|h|h|h<;>subst h<;>rfl
theorem fit_eq{l:List EntT}(hv:∀e∈l,(0≤e.campus∧e.campus<7)∧1≤e.no):pD l = !cf [] l :=
 zy l [] (z7,none) ⟨rfl,fun c hc=>.inl ⟨Ct c hc,fun y hy=>by cases hy⟩,.inl ⟨rfl,rfl⟩,fun y hy=>by cases hy⟩ hv
theorem zz:∀{l:List EntT},(∀e∈l,e.val≤9223372036854775807)→forL rcF l ()=forL lcF l ()
 | [],_=>rfl
 | e::l,h=>by
  have h1:rcF e ()=lcF e ():=by unfold rcF lcF;rw[pL e (h e (by simp))];cases aH e != 0<;>rfl
  unfold forL
  rw[h1]
  cases lcF e () with
  | inl u=>exact zz fun x hx=>h x (by simp[hx])
  | inr r=>rfl
theorem wx{l:List EntT}(h:∀e∈l,e.val≤9223372036854775807):jO l=bZ l:=by
 unfold jO bZ
 rw[zz h]
 cases Qd (((l.map Dt).length:Int)>65536) with
 | true=>rfl
 | false =>
  simp only
  cases hf:forL lcF l () with
  | inr r=>rfl
  | inl u =>
   have:=nJ ⟨u,hf⟩
   rw[fit_eq fun e he=>by
    have h1:=nI (kU (this e he))
    exact⟨h1.2.1,h1.2.2.1⟩]
theorem few_ok{l:List EntT}(h:Cl l=true):∀e∈l,e.ok:=by
 intro e he
 unfold Cl at h
 rw[Dr,List.all_eq_true] at h
 have:=h.1 e he
 simp only[wl,Dr,decide_eq_true_eq,Fk] at this
 exact⟨by unfold ai;omega,by unfold ai;omega,by unfold ai;omega,by unfold ai;omega⟩
def FtOk(a b:EntT):Prop:=dq a.st b.st∧(a.campus=b.campus→a.time<b.time∧a.no<b.no)
theorem pM(a b:EntT):f5 a.st b.st=false ↔ FtOk a b:=by
 have e1:a.st.time=a.time:=rfl
 have e2:b.st.time=b.time:=rfl
 have e3:a.st.no=a.no:=rfl
 have e4:b.st.no=b.no:=rfl
 have e5:a.st.campus=a.campus:=rfl
 have e6:b.st.campus=b.campus:=rfl
 unfold f5 FtOk
 rw[ET,e1,e2,e3,e4,e5,e6]
 have h1:Qd (cC a.st b.st≥0)=false ↔ dq a.st b.st:=by
  rw[decide_eq_false_iff_not,sD,IG]
 rw[h1]
 refine and_congr_right fun _=>?_
 by_cases hc:a.campus=b.campus
 ·simp[hc]
 ·simp[hc]
def Fits(l:List EntT):Prop:=l.Pairwise FtOk
theorem pN:∀(l pre:List EntT),cf pre l=false ↔ (∀x∈pre,∀e∈l,FtOk x e)∧Fits l
 | [],pre=>by simp[cf,Fits]
 | e::l,pre=>by
  unfold cf
  rw[ET,pN l,List.any_eq_false]
  unfold Fits
  rw[Et]
  constructor
  ·rintro⟨h1,h2,h3⟩
   refine⟨fun x hx y hy=>?_,fun y hy=>h2 e (by simp) y hy,h3⟩
   rcases DM.1 hy with rfl|hy
   ·exact(pM x y).1 (by simpa using h1 x hx)
   ·exact h2 x (by simp[hx]) y hy
  ·rintro⟨h1,h2,h3⟩
   refine⟨fun x hx=>by simpa using(pM x e).2 (h1 x hx e (by simp)),fun x hx y hy=>?_,h3⟩
   rcases DX.1 hx with hx|hx
   ·exact h1 x hx y (by simp[hy])
   ·simp at hx;subst hx;exact h2 y hy
structure Led (l:List EntT):Prop where
 len:l.length≤65536
 e:∀x∈l,aH x=0
 f:Fits l
theorem my{e:EntT}(h:aH e=0):(1≤e.time∧e.time≤1048576)∧(0≤e.campus∧e.campus<7)∧(1≤e.no∧e.no≤1048576):=nI (kU h)
theorem fk{l:List EntT}(h:∀e∈l,aH e=0):pD l=true ↔ Fits l:=by
 rw[fit_eq fun e he=>⟨(my (h e he)).2.1,(my (h e he)).2.2.1⟩]
 have:=pN l []
 cases hu:cf [] l with
 | true =>
  rw[hu] at this
  refine⟨fun h=>(by cases h),fun h=>?_⟩
  have:=this.2 ⟨by simp,h⟩
  cases this
 | false=>rw[hu] at this;exact⟨fun _=>(this.1 rfl).2,fun _=>rfl⟩
theorem zA:∀{l:List EntT},(∀e∈l,aH e=0)→forL lcF l ()=.inl ()
 | [],_=>rfl
 | e::l,h=>by
  have h1:lcF e ()=.inl ():=by unfold lcF;rw[h e (by simp)];rfl
  unfold forL
  rw[h1]
  exact zA fun x hx=>h x (by simp[hx])
theorem nQ{l:List EntT}:bZ l=0 ↔ Led l:=by
 unfold bZ
 constructor
 ·intro h
  cases hb:Qd (((l.map Dt).length:Int)>65536) with
  | true=>rw[hb] at h;cases h
  | false =>
   rw[hb] at h
   simp only at h
   cases hf:forL lcF l () with
   | inr r =>
    rw[hf] at h
    simp only at h
    exfalso
    have:∀(l:List EntT),forL lcF l ()=.inr r→r ≠ 0:=by
     intro l
     induction l with
     | nil=>intro h;cases h
     | cons x l ih =>
      intro h2
      unfold forL at h2
      cases hb2:aH x != 0 with
      | true =>
       simp only[lcF,hb2] at h2
       cases h2
       simpa using hb2
      | false=>simp only[lcF,hb2] at h2;exact ih h2
    exact this l hf h
   | inl u =>
    rw[hf] at h
    simp only at h
    have he:=nJ ⟨u,hf⟩
    refine⟨by simp at hb;omega,he,(fk he).1 ?_⟩
    cases hfb:pD l with
    | true=>rfl
    | false=>rw[hfb] at h;cases h
 ·intro h
  have hb:Qd (((l.map Dt).length:Int)>65536)=false:=by have:=h.len;simp;omega
  rw[hb,zA h.e,(fk h.e).2 h.f]
  rfl
theorem mz{a b:StT}(h:dq a b):¬dq b a:=by unfold dq at *;omega
theorem mB{a b:StT}(h:dq a b):fp a b=false:=by
 cases he:fp a b with
 | false=>rfl
 | true =>
  simp only[fp,Dr,beq_iff_eq] at he
  unfold dq at h
  omega
theorem yJ{a b:StT}(h:dq a b):Qd (bc a b<0)=true:=by
 rw[gX]
 rcases stCmp8_cases a b with ⟨_,e⟩|⟨h1,_⟩|⟨h1,_⟩
 ·rw[e];rfl
 ·exact absurd h h1
 ·exact absurd h1 (mz h)
theorem stEq_iff{a b:StT}:fp a b=true ↔ a=b:=by
 cases a;cases b
 simp[fp]
def wW(l:List EntT)(n:EntT):List EntT×Int×Int:=match bZ l != 0 with
 | true=>([],0,bZ l)
 | false=>match aH n != 0 with
  | true=>([],0,aH n)
  | false=>match joR l [n] with
   | none=>([],0,390)
   | some y=>(y,Df n y,0)
theorem wy{e:Int}(h:(e != 0)=true):(e==0)=false:=by simpa using h
theorem sF{L:List (List Dp)}{n:EntT}{e:Exit}{s':AS}{d:D}(hrest:CW Di Γq (puH n 0) false (cR (cR (au EP))) {t:=puT L,h:=puH n 0,m:=[]} e s')(hend:fz Di EP (eA Di Γq noW 100) 0 e s' (some (30,[.ref (.ptr 1 0)]))=some (.ret d [])):Ev Di Γq 17 [aa L,ag n.row] [] d [] :=
 (VRes.of_top (f:=17) (args:=[aa L,ag n.row]) (dfn:=eA Di Γq noW 100) (h:=[]) (r:=.ret d []) (fn:=EP) (c:=au EP) pok rfl rfl dfn_ok (BI hrest) hend).call
theorem put_ok{l y:List EntT}{n:EntT}(hck:∀h,Ev Di Γq 12 [aa (l.map Dt)] h (int 0) h)(hen:∀h,Ev Di Γq 25 [ag n.row] h (int 0) h)(J:JoOk l [n])(hy:joR l [n]=some y)(hly:ai y):Ev Di Γq 17 [aa (l.map Dt),ag n.row] [] (.tup [aa (y.map Dt),int (Df n y),int 0]) []:=by
 have hjo:Ev Di Γ0 33 [aa (l.map Dt),.ref (.vec 0 0)] [.vec [n.row.map .p] 0 31] (aa (y.map Dt)) [.gone] :=
  Ev.pre [.st (.frz 0 [n.row])] (h1:=[.gone]) (args2:=[aa (l.map Dt),aa ([n].map Dt)]) rfl ⟨rfl,trivial⟩ (joX_ok J hy [.gone])
 exact sF (pu_ok hck hen hjo (idx_ev hly)) BJ
theorem Cu{l:List EntT}{n:EntT}(hl:bZ l=0)(hn:aH n=0)(hs:l.length≤50000)(ol:∀e∈l,e.ok)(on:n.ok):JoOk l [n] :=
 ⟨by simp only[Ex,Fg];omega,ol,by simpa using on,fun e he=>(my ((nQ.1 hl).e e he)).2.1,by simpa using(my hn).2.1⟩
theorem wz{a b y:List EntT}(h:joR a b=some y):y.length≤a.length+b.length:=by
 unfold joR at h
 cases hg:joG (a.length+b.length) a b [] with
 | none=>rw[hg] at h;cases h
 | some z =>
  rw[hg] at h
  simp only at h
  cases hf:pD z with
  | false=>rw[hf] at h;cases h
  | true =>
   rw[hf] at h
   cases h
   have:=(fZ _ _ _ _ _ hg).2
   simp only[Fg] at this
   omega
theorem Cv{l:List EntT}{n:EntT}(hs:l.length≤50000)(ol:∀e∈l,e.ok)(on:n.ok)(h:List Blk):Ev Di Γq 17 [aa (l.map Dt),ag n.row] h (.tup [aa ((wW l n).1.map Dt),int (wW l n).2.1,int (wW l n).2.2]) h:=by
 have hck:=fun h=>led_ev (l:=l) (show l.length≤_ by omega) ol h
 have hen:=fun h=>pC on h
 unfold wW
 cases h1:bZ l != 0 with
 | true =>
  have e1:=Ev.nilW (sF (p2_pan (n:=n) (wy h1) hck) BQ)
  exact H0 rfl e1 h
 | false =>
  have h10:bZ l=0:=by simpa using h1
  rw[h10] at hck
  cases h2:aH n != 0 with
  | true =>
   have hr:CW Di Γq (puH n 0) false (cR (cR (au EP))) {t:=puT (l.map Dt),h:=puH n 0,m:=[]} (.panic (dmC (aH n))) {t:=p3T (l.map Dt) n (aH n),h:=puH n 0,m:=[]}:=by
    show CW _ _ _ _ p2C _ _ _
    rw[qD]
    exact CW.seq (p2_ok hck) (p3_pan (wy h2) hen)
   have e1:=Ev.nilW (sF hr BR)
   exact H0 rfl e1 h
  | false =>
   have h20:aH n=0:=by simpa using h2
   rw[h20] at hen
   have J:=Cu h10 h20 hs ol on
   simp only
   cases h3:joR l [n] with
   | none =>
    have hr:CW Di Γq (puH n 0) false (cR (cR (au EP))) {t:=puT (l.map Dt),h:=puH n 0,m:=[]} (.panic (dmC 390)) {t:=p4T (l.map Dt) n,h:=p4H n,m:=[]}:=by
     show CW _ _ _ _ p2C _ _ _
     rw[qD]
     refine CW.seq (p2_ok hck) ?_
     rw[vX]
     exact CW.seq (p3_ok hen) (p4_pan (BO J h3))
    have e1:=Ev.nilW (sF hr BS)
    exact H0 rfl e1 h
   | some y =>
    have:=wz h3
    simp only[Ex,Fg] at this
    exact H0 rfl (put_ok hck hen J h3 (show y.length≤_ by omega)) h
theorem zipEq{α:Type}{ne:α→α→Bool}(hne:∀a b,ne a b=false ↔ a=b){F:α×α→Unit→Unit⊕Unit}(hF:∀p u,F p u=bif ne p.1 p.2 then .inr () else .inl ()):∀(xs ys:List α),xs.length=ys.length→((match forL F (xs.zip ys) () with | .inl _=>true | .inr _=>false)=true ↔ xs=ys)
 | [],[],_=>by simp[forL]
 | [],_::_,h=>by simp at h
 | _::_,[],h=>by simp at h
 | x::xs,y::ys,h=>by
  have ih:=zipEq hne hF xs ys (by simpa using h)
  simp only[Jl,forL,hF]
  cases hn:ne x y with
  | true =>
   simp only[cond_true]
   have:x ≠ y:=fun e=>by rw[(hne x y).2 e] at hn;cases hn
   simp[this]
  | false =>
   simp only[cond_false]
   rw[ih,(hne x y).1 hn]
   simp
theorem sG{α:Type}{row:α→List Dp}{ne:α→α→Bool}(hne:∀a b,ne a b=false ↔ a=b){F:α×α→Unit→Unit⊕Unit}(hF:∀p u,F p u=bif ne p.1 p.2 then .inr () else .inl ())(xs ys:List α):
  (if (((xs.map row).length:Int) != ((ys.map row).length:Int))=true then false else match forL F (xs.zip ys) () with | .inl _=>true | .inr _=>false)=true ↔ xs=ys:=by
 by_cases hl:xs.length=ys.length
 ·rw[if_neg (by simp[hl])]
  exact zipEq hne hF xs ys hl
 ·rw[if_pos (by simp;omega)]
  simp only[Bool.false_eq_true,false_iff]
  exact fun e=>hl (by rw[e])
theorem yK(a b:MeT):meNe a b=false ↔ a=b:=by cases a;cases b;simp[meNe]
theorem yL(a b:GrT):grNe a b=false ↔ a=b:=by cases a;cases b;simp[grNe]
theorem yM(a b:BuT):buNe a b=false ↔ a=b:=by cases a;cases b;simp[buNe]
theorem yN(a b:Int):rT a b=false ↔ a=b:=by simp[rT]
theorem qm_iff(xs ys:List MeT):qmB xs ys=true ↔ xs=ys:=sG (row:=DA) yK (F:=qmF) (fun _ _=>rfl) xs ys
theorem qg_iff(xs ys:List GrT):qgB xs ys=true ↔ xs=ys:=sG (row:=Dx) yL (F:=qgF) (fun _ _=>rfl) xs ys
theorem qi_iff(xs ys:List Int):qiB xs ys=true ↔ xs=ys:=sG (row:=ab) yN (F:=qiF) (fun _ _=>rfl) xs ys
theorem qb_iff(xs ys:List BuT):qbB xs ys=true ↔ xs=ys:=sG (row:=Dn) yM (F:=qbF) (fun _ _=>rfl) xs ys
theorem Cw(a b:ByteArray):eqS a b=true ↔ a=b:=by
 unfold eqS
 rw[beq_iff_eq,Array.toList_inj]
 cases a;cases b;simp
theorem wA(a b:SecT):secEq a b=true ↔ a=b:=by
 unfold secEq
 simp only[Dr,qm_iff,qg_iff,qi_iff,beq_iff_eq]
 cases a;cases b
 simp only[SecT.mk.injEq]
 constructor
 ·rintro⟨⟨⟨⟨⟨⟨⟨⟨h1,h2⟩,h3⟩,h4⟩,h5⟩,h6⟩,h7⟩,h8⟩,h9⟩
  exact⟨h1,h2,h3,h4,h5,h7,h8,h9,h6⟩
 ·rintro⟨h1,h2,h3,h4,h5,h7,h8,h9,h6⟩
  exact⟨⟨⟨⟨⟨⟨⟨⟨h1,h2⟩,h3⟩,h4⟩,h5⟩,h6⟩,h7⟩,h8⟩,h9⟩
theorem yO(a b:RqT):rqEq a b=true ↔ a=b:=by
 unfold rqEq
 simp only[Dr,qb_iff,beq_iff_eq]
 cases a;cases b
 simp only[RqT.mk.injEq]
 constructor
 ·rintro⟨⟨⟨⟨⟨⟨⟨h1,h2⟩,h3⟩,h4⟩,h5⟩,h6⟩,h7,h8,_⟩,h9⟩
  exact⟨h1,h2,h3,h4,h5,h6,h7,h8,h9⟩
 ·rintro⟨h1,h2,h3,h4,h5,h6,h7,h8,h9⟩
  exact⟨⟨⟨⟨⟨⟨⟨h1,h2⟩,h3⟩,h4⟩,h5⟩,h6⟩,h7,h8,trivial⟩,h9⟩
theorem eO(a b:EntT):bW a b=true ↔ a=b:=by
 unfold bW qx
 simp only[Dr,Cw,wA,yO,beq_iff_eq]
 cases a;cases b
 simp only[EntT.mk.injEq]
 constructor
 ·rintro⟨⟨⟨⟨⟨⟨⟨⟨⟨⟨⟨h1,h2,h3,_⟩,h4⟩,h5⟩,h6⟩,h7⟩,h8⟩,h9,h10,_⟩,h11⟩,h12⟩,h13⟩,h14,h15,_⟩
  exact⟨h1,h2,h3,h4,h5,h6,h7,h8,h9,h10,h11,h12,h13,h14,h15⟩
 ·rintro⟨h1,h2,h3,h4,h5,h6,h7,h8,h9,h10,h11,h12,h13,h14,h15⟩
  exact⟨⟨⟨⟨⟨⟨⟨⟨⟨⟨⟨h1,h2,h3,trivial⟩,h4⟩,h5⟩,h6⟩,h7⟩,h8⟩,h9,h10,trivial⟩,h11⟩,h12⟩,h13⟩,h14,h15,trivial⟩
theorem gY{a b c:StT}(h:dq a b)(g:dq b c):dq a c:=by unfold dq at *;omega
theorem sH{a b:StT}(h:¬dq b a)(g:a ≠ b):dq a b:=by
 have:¬(a.time=b.time∧a.campus=b.campus∧a.no=b.no):=fun⟨h1,h2,h3⟩=>g (by cases a;cases b;simp_all)
 unfold dq at *;omega
theorem wB{a b:StT}(h:dq a b):a ≠ b:=fun e=>by subst e;exact absurd h (mz h)
theorem iV(a b:StT):Qd (bc a b<0)=true ↔ dq a b:=by
 constructor
 ·intro h
  rw[gX] at h
  rcases stCmp8_cases a b with ⟨h1,_⟩|⟨_,_,e⟩|⟨_,e⟩
  ·exact h1
  ·rw[e] at h;cases h
  ·rw[e] at h;cases h
 ·exact yJ
def bD(l:List EntT):Prop:=l.Pairwise fun a b=>dq a.st b.st
theorem Fits.sorted{l:List EntT}(h:Fits l):bD l:=h.imp fun h=>h.1
def Compat(a b:List EntT):Prop:=∀e∈a,∀f∈b,e.st=f.st→e=f
theorem Compat.symm{a b:List EntT}(h:Compat a b):Compat b a:=fun e he f hf hs=>(h f hf e he hs.symm).symm
def JSpec(x r o:List EntT):Option (List EntT)→Prop
 | some y=>bD y∧∀e,e∈y ↔ e∈x∨e∈r∨e∈o
 | none=>¬(Compat r o∧Compat x r∧Compat x o)
theorem JSpec.swap{x r o:List EntT}{res:Option (List EntT)}(h:JSpec x r o res):JSpec x o r res:=by
 cases res with
 | none=>exact fun⟨h1,h2,h3⟩=>h ⟨h1.symm,h3,h2⟩
 | some y=>exact⟨h.1,fun e=>by rw[h.2 e];constructor<;>(rintro (h|h|h)<;>simp[h])⟩
def Le(x g:List EntT):Prop:=∀e∈x,∀f∈g,¬dq f.st e.st
theorem nR{x r o:List EntT}{f:EntT}{cont:List EntT→Option (List EntT)}(Sr:bD (f::r))(Sx:bD x)(hr:Le x (f::r))(ho:Le x o)(hfo:∀g∈o,¬dq g.st f.st)
  (ih:∀x',bD x'→Le x' r→Le x' o→JSpec x' r o (cont x')):JSpec x (f::r) o ((joF x f).bind cont):=by
 have hfr:=Et.1 Sr
 have app:(∀l,x.getLast? = some l→l.st ≠ f.st)→JSpec x (f::r) o (cont (x++[f])):=by
  intro hl
  have hall:∀e∈x,dq e.st f.st:=by
   intro e he
   cases hx:x.getLast? with
   | none=>simp at hx;subst hx;cases he
   | some l =>
    obtain⟨hne,hg⟩:=sv hx
    have hlm:=D1 hg
    have h1:dq l.st f.st:=sH (hr l hlm f (by simp)) (hl l hx)
    obtain⟨i,hi⟩:=List.mem_iff_getElem?.1 he
    have hil:=(Dq.1 hi).1
    by_cases h2:i=x.length - 1
    ·rw[h2,hg] at hi
     cases hi
     exact h1
    ·have h3:=List.pairwise_iff_getElem.1 Sx i (x.length - 1) hil (by omega) (by omega)
     have e1:x[i]=e:=(Dq.1 hi).2
     have e2:x[x.length - 1]'(by omega)=l:=(Dq.1 hg).2
     rw[e1,e2] at h3
     exact gY h3 h1
  have hS:bD (x++[f]):=Hr.2 ⟨Sx,by simp,fun e he g hg=>by simp at hg;subst hg;exact hall e he⟩
  have h1:=ih (x++[f]) hS (fun e he g hg=>by
   rcases DX.1 he with he|he
   ·exact hr e he g (by simp[hg])
   ·simp at he;subst he;exact mz (hfr.1 g hg)) (fun e he g hg=>by
   rcases DX.1 he with he|he
   ·exact ho e he g hg
   ·simp at he;subst he;exact hfo g hg)
  cases hc:cont (x++[f]) with
  | some y =>
   rw[hc] at h1
   refine⟨h1.1,fun e=>?_⟩
   rw[h1.2 e]
   simp only[DX,DM,List.not_mem_nil,or_false]
   constructor
   ·rintro ((h|h)|h|h)<;>simp[h]
   ·rintro (h|(h|h)|h)<;>simp[h]
  | none =>
   rw[hc] at h1
   rintro⟨c1,c2,c3⟩
   refine h1 ⟨fun e he g hg hs=>c1 e (by simp[he]) g hg hs,fun e he g hg hs=>?_,fun e he g hg hs=>?_⟩
   ·rcases DX.1 he with he|he
    ·exact c2 e he g (by simp[hg]) hs
    ·simp at he;subst he;exact absurd hs (wB (hfr.1 g hg))
   ·rcases DX.1 he with he|he
    ·exact c3 e he g hg hs
    ·simp at he;subst he;exact c1 e (by simp) g hg hs
 unfold joF
 cases hx:x.getLast? with
 | none=>exact app (fun l hl=>by rw[hx] at hl;cases hl)
 | some l =>
  have hlm:l∈x:=D1 (sv hx).2
  simp only
  cases hs:fp l.st f.st with
  | false=>exact app (fun l' hl'=>by rw[hx] at hl';cases hl';intro e;rw[stEq_iff.2 e] at hs;cases hs)
  | true =>
   have hst:=stEq_iff.1 hs
   simp only
   cases hb:bW l f with
   | false =>
    rintro⟨_,c2,_⟩
    have:=c2 l hlm f (by simp) hst
    rw[(eO l f).2 this] at hb
    cases hb
   | true =>
    have hlf:=(eO l f).1 hb
    subst hlf
    simp only[cond_true,Option.bind_some]
    have h1:=ih x Sx (fun e he g hg=>hr e he g (by simp[hg])) ho
    cases hc:cont x with
    | some y =>
     rw[hc] at h1
     refine⟨h1.1,fun e=>?_⟩
     rw[h1.2 e]
     constructor
     ·rintro (h|h|h)<;>simp[h]
     ·rintro (h|h|h)
      ·exact .inl h
      ·rcases DM.1 h with rfl|h
       ·exact .inl hlm
       ·exact .inr (.inl h)
      ·exact .inr (.inr h)
    | none =>
     rw[hc] at h1
     rintro⟨c1,c2,c3⟩
     exact h1 ⟨fun e he g hg hs=>c1 e (by simp[he]) g hg hs,fun e he g hg hs=>c2 e he g (by simp[hg]) hs,c3⟩
theorem gZ:∀(k:Nat) (a b x:List EntT),a.length+b.length=k→bD a→bD b→bD x→Le x a→Le x b→JSpec x a b (joG k a b x)
 | 0,a,b,x,hk,_,_,Sx,_,_=>by
  have ha:a=[]:=Iw.1 (by omega)
  have hb:b=[]:=Iw.1 (by omega)
  subst ha;subst hb
  exact⟨Sx,by simp⟩
 | k+1,[],[],x,hk,_,_,Sx,_,_=>by simp at hk
 | k+1,[],m::b,x,hk,Sa,Sb,Sx,ha,hb=>by
  simp only[joG]
  exact(nR Sb Sx hb ha (by simp) fun x' Sx' hb' ha'=>(gZ k [] b x' (by simpa using hk) Sa (Et.1 Sb).2 Sx' ha' hb').swap).swap
 | k+1,n::a,[],x,hk,Sa,Sb,Sx,ha,hb=>by
  simp only[joG]
  exact nR Sa Sx ha hb (by simp) fun x' Sx' ha' hb'=>gZ k a [] x' (by simpa using hk) (Et.1 Sa).2 Sb Sx' ha' hb'
 | k+1,n::a,m::b,x,hk,Sa,Sb,Sx,ha,hb=>by
  simp only[joG]
  cases hc:Qd (bc m.st n.st<0) with
  | true =>
   have hlt:=(iV m.st n.st).1 hc
   exact(nR Sb Sx hb ha (fun g hg=>by
    rcases DM.1 hg with rfl|hg
    ·exact mz hlt
    ·exact mz (gY hlt ((Et.1 Sa).1 g hg))) fun x' Sx' hb' ha'=>(gZ k (n::a) b x' (by simp only[Ex] at hk ⊢;omega) Sa (Et.1 Sb).2 Sx' ha' hb').swap).swap
  | false =>
   have hlt:¬dq m.st n.st:=fun h=>by rw[(iV m.st n.st).2 h] at hc;cases hc
   exact nR Sa Sx ha hb (fun g hg=>by
    rcases DM.1 hg with rfl|hg
    ·exact hlt
    ·exact fun h=>hlt (gY ((Et.1 Sb).1 g hg) h)) fun x' Sx' ha' hb'=>gZ k a (m::b) x' (by simp only[Ex] at hk ⊢;omega) (Et.1 Sa).2 Sb Sx' ha' hb'
def Uni(a b y:List EntT):Prop:=bD y∧∀e,e∈y ↔ e∈a∨e∈b
theorem lc:∀{y z:List EntT},bD y→bD z→(∀e,e∈y ↔ e∈z)→y=z
 | [],[],_,_,_=>rfl
 | [],q::z,_,_,h=>absurd ((h q).2 (by simp)) (by simp)
 | p::y,[],_,_,h=>absurd ((h p).1 (by simp)) (by simp)
 | p::y,q::z,Sy,Sz,h=>by
  have hy:=Et.1 Sy
  have hz:=Et.1 Sz
  have hpq:p=q:=by
   rcases DM.1 ((h p).1 (by simp)) with e|h1
   ·exact e
   ·rcases DM.1 ((h q).2 (by simp)) with e|h2
    ·exact e.symm
    ·exact absurd (hy.1 q h2) (mz (hz.1 p h1))
  subst hpq
  have:y=z:=lc hy.2 hz.2 fun e=>by
   have h1:=h e
   simp only[DM] at h1
   constructor
   ·intro he
    rcases h1.1 (.inr he) with rfl|h2
    ·exact absurd rfl (wB (hy.1 _ he))
    ·exact h2
   ·intro he
    rcases h1.2 (.inr he) with rfl|h2
    ·exact absurd rfl (wB (hz.1 _ he))
    ·exact h2
  rw[this]
theorem tJ{y:List EntT}(S:bD y){e f:EntT}(he:e∈y)(hf:f∈y)(hs:e.st=f.st):e=f:=by
 induction y with
 | nil=>cases he
 | cons p y ih =>
  have hy:=Et.1 S
  rcases DM.1 he with e1|he1
  ·rcases DM.1 hf with e2|hf1
   ·rw[e1,e2]
   ·rw[e1] at hs
    exact absurd hs (wB (hy.1 f hf1))
  ·rcases DM.1 hf with e2|hf1
   ·rw[e2] at hs
    exact absurd hs.symm (wB (hy.1 e he1))
   ·exact ih hy.2 he1 hf1
theorem Uni.compat{a b y:List EntT}(U:Uni a b y):Compat a b:=fun e he f hf hs=>tJ U.1 ((U.2 e).2 (.inl he)) ((U.2 f).2 (.inr hf)) hs
def Val(l:List EntT):Prop:=∀e∈l,aH e=0
theorem lf{a b:List EntT}(Sa:bD a)(Sb:bD b)(Va:Val a)(Vb:Val b)(y:List EntT):joR a b=some y ↔ Uni a b y∧Fits y:=by
 have h:=gZ (a.length+b.length) a b [] rfl Sa Sb (by simp[bD]) (by simp[Le]) (by simp[Le])
 unfold joR
 cases hg:joG (a.length+b.length) a b [] with
 | none =>
  rw[hg] at h
  simp only[reduceCtorEq,false_iff]
  rintro⟨U,_⟩
  exact h ⟨U.compat,by simp[Compat],by simp[Compat]⟩
 | some z =>
  rw[hg] at h
  have hU:Uni a b z:=⟨h.1,fun e=>by rw[h.2 e];simp⟩
  have hV:∀e∈z,aH e=0:=fun e he=>by
   rcases(hU.2 e).1 he with h|h
   ·exact Va e h
   ·exact Vb e h
  simp only
  constructor
  ·intro he
   cases hf:pD z with
   | false=>rw[hf] at he;cases he
   | true =>
    rw[hf] at he
    cases he
    exact⟨hU,(fk hV).1 hf⟩
  ·rintro⟨U,F⟩
   have:z=y:=lc hU.1 U.1 fun e=>by rw[hU.2 e,U.2 e]
   subst this
   rw[(fk hV).2 F]
   rfl
theorem Uni.val{a b y:List EntT}(U:Uni a b y)(Va:Val a)(Vb:Val b):Val y:=fun e he=>by
 rcases(U.2 e).1 he with h|h
 ·exact Va e h
 ·exact Vb e h
abbrev smS(L:List (List Dp))(i:Int):AS:={t:=mkT 27 0 [(0,aa L),(1,aa L),(4,bool false),(5,int i)],h:=[],m:=[]}
theorem Cx{L:List (List Dp)}{e:EntT}{i:Nat}(hr:ad (i:Int) L e.row 31)(hlt:Qd ((i:Int)<(L.length:Int))=true)(hw:Dk.wrap ((i:Int)+1)=((i+1:Nat):Int))(hsm:∀h,Ev Di Γ0 37 [ag e.row,ag e.row] h (bool true) h):(CW Di Γ0 [] false (sub H8 0) (smS L i) .normal (smS L ((i+1:Nat):Int))):=by
 refine zX {t:=mkT 27 0 [(0,aa L),(1,aa L),(4,bool false),(5,int (Ds Dk ((↑i:Int)+1)))],h:=[],m:=[]} DZ [.st (.mask [0,1,4,5]),.st (.trim 0)] [.b true,.row [vi e.time,vi e.campus,vi e.no,vi e.kind,vi e.stu,vi e.obj,vi e.term,vi e.val,vi e.frm,vi e.til,vs e.text,vi e.sec.id,vi e.sec.course,vi e.sec.term,vi e.sec.campus,vi e.sec.seats,Dw (Dh DA e.sec.mts),Dw (Dh Dx e.sec.grs),Dw (Dh ab e.sec.labs),DS (DE e.sec.lab),vi e.req.campus,vi e.req.no,vi e.req.st,vi e.req.kind,vi e.req.time,Dw (Dh Dn e.req.chs),vi e.req.gsec,vi e.req.glab,vi e.req.key,vi e.r,vi e.s],.row [vi e.time,vi e.campus,vi e.no,vi e.kind,vi e.stu,vi e.obj,vi e.term,vi e.val,vi e.frm,vi e.til,vs e.text,vi e.sec.id,vi e.sec.course,vi e.sec.term,vi e.sec.campus,vi e.sec.seats,Dw (Dh DA e.sec.mts),Dw (Dh Dx e.sec.grs),Dw (Dh ab e.sec.labs),DS (DE e.sec.lab),vi e.req.campus,vi e.req.no,vi e.req.st,vi e.req.kind,vi e.req.time,Dw (Dh Dn e.req.chs),vi e.req.gsec,vi e.req.glab,vi e.req.key,vi e.r,vi e.s],.val (bool true),.b false] (.c hlt (.c hr (.c hr (.c (@hsm ([])) (.c (show(!true)=false from rfl) .n))))) ?_ ?_<;>(first|rfl|(rw[hw]<;>rfl))
theorem Cy{L:List (List Dp)}{i:Nat}(hlt:Qd ((i:Int)<(L.length:Int))=false):(CW Di Γ0 [] false (sub H8 0) (smS L i) (.exit 0) {t:=mkT 27 0 [],h:=[],m:=[]}):=by
 exact zx [.st (.mask [])] [.b false] (.c hlt .n)
theorem Cz{l:List EntT}(hs:ai l)(ho:∀e∈l,e.ok):CW Di Γ0 [] false (.loop (sub H8 0)) (smS (l.map Dt) 0) (.exit 0) {t:=mkT 27 0 [],h:=[],m:=[]}:=by
 have:=FZ (P:=Di) (Γ:=Γ0) (h0:=[]) (rd:=false) (c:=sub H8 0) (σ:=Unit) (ρ:=Empty) l (fun _ s=>.inl s) (fun j _=>smS (l.map Dt) (j:Int)) (.exit 0) (fun _=>{t:=mkT 27 0 [],h:=[],m:=[]}) (fun r=>r.elim) (fun _ _=>True) (by simp) (fun r=>r.elim) ?_ ?_ () trivial
 ·rw[pu (fun s _=>s)] at this
  exact this
 ·intro j e s hj _
  have hlt:=(Dq.1 hj).1
  have o:=ho e (D1 hj)
  have he:iO e e=true:=by rw[iT];exact(eO e e).2 rfl
  have hsm:∀h,Ev Di Γ0 37 [ag e.row,ag e.row] h (bool true) h:=fun h=>by
   rw[←he]
   exact bn o.m o.g o.l o.c h
  exact⟨fun _ _=>trivial,Cx (rowAt (row:=Dt) (sz:=31) hj rfl) (lt_len Dt hlt) (wrap_succ hlt hs) hsm⟩
 ·intro s _
  exact Cy (aY Dt l)
theorem same_a{L:List (List Dp)}(hn:((L.length:Int) != (L.length:Int))=false)(hl:CW Di Γ0 [] false (.loop (sub H8 0)) (smS L 0) (.exit 0) {t:=mkT 27 0 [],h:=[],m:=[]})(h:List Blk):(Ev Di Γ0 19 [aa L,aa L] h (bool true) h):=by
 have hl0:=(@hl)
 exact z0 [.b false,.sum [0,1,4,5] (DV 0) {t:=mkT 27 0 [],h:=[],m:=[]}] (.c hn (.c hl0 .n)) h
theorem yP{l:List EntT}(hs:ai l)(ho:∀e∈l,e.ok)(h:List Blk):Ev Di Γ0 19 [aa (l.map Dt),aa (l.map Dt)] h (bool true) h:=same_a (by simp) (Cz hs ho) h
theorem CA{e:EntT}(h:wl e=true):e.ok:=by
 simp only[wl,Dr,decide_eq_true_eq,Fk] at h
 exact⟨by unfold ai;omega,by unfold ai;omega,by unfold ai;omega,by unfold ai;omega⟩
theorem CB{l:List EntT}(h:Cl l=true):l.length≤16:=by
 unfold Cl at h
 simp only[Dr,decide_eq_true_eq,Fk] at h
 omega
theorem Uni.ok{a b y:List EntT}(U:Uni a b y)(oa:∀e∈a,e.ok)(ob:∀e∈b,e.ok):∀e∈y,e.ok:=fun e he=>by
 rcases(U.2 e).1 he with h|h
 ·exact oa e h
 ·exact ob e h
theorem qI{x:List EntT}{n:EntT}(S:bD x)(h:∀e∈x,dq e.st n.st):bD (x++[n]):=Hr.2 ⟨S,by simp,fun e he g hg=>by simp at hg;subst hg;exact h e he⟩
abbrev rpS(L:List (List Dp))(n:EntT)(k:Int):AS:={t:=mkT 80 0 [(0,aa L),(3,.ref (.ptr 0 0)),(4,nq),(5,int 0),(6,int 0),(8,int k)],h:=[aO n],m:=[]}
noncomputable abbrev mC(n:EntT):List Blk:=[.var [int n.time,int n.campus,int n.no,int n.kind,int n.stu,int n.obj,int n.term,int n.val,int n.frm,int n.til,ax n.text,int n.sec.id,int n.sec.course,int n.sec.term,int n.sec.campus,int n.sec.seats,aa (Dh DA n.sec.mts),aa (Dh Dx n.sec.grs),aa (Dh ab n.sec.labs),bool n.sec.lab,int n.req.campus,int n.req.no,int n.req.st,int n.req.kind,int n.req.time,aa (Dh Dn n.req.chs),int n.req.gsec,int n.req.glab,int n.req.key,int n.r,int n.s]]
theorem CC{L:List (List Dp)}{n e:EntT}{c:Int}{k:Nat}(hr:ad (k:Int) L e.row 31)(hcm:∀h,Ev Di Γ0 36 [.agg [int e.time,int e.campus,int e.no],.agg [int n.time,int n.campus,int n.no]] h (int c) h)(hcd:(Qd ((k:Int)<(L.length:Int))&&Qd (c<0))=true)(hw:Dk.wrap ((k:Int)+1)=((k+1:Nat):Int)):(CW Di Γ0 [] false (sub Hw 0) (rpS L n k) .normal (rpS L n ((k+1:Nat):Int))):=by
 refine zX {t:=mkT 80 0 [(0,aa L),(3,.ref (.ptr 0 0)),(4,nq),(5,int 0),(6,int 0),(8,int (Ds Dk ((↑k:Int)+1)))],h:=(mC n),m:=[]} DZ [.st (.mask [0,3,4,5,6,8]),.st (.trim 1)] [.row [vi e.time,vi e.campus,vi e.no,vi e.kind,vi e.stu,vi e.obj,vi e.term,vi e.val,vi e.frm,vi e.til,vs e.text,vi e.sec.id,vi e.sec.course,vi e.sec.term,vi e.sec.campus,vi e.sec.seats,Dw (Dh DA e.sec.mts),Dw (Dh Dx e.sec.grs),Dw (Dh ab e.sec.labs),DS (DE e.sec.lab),vi e.req.campus,vi e.req.no,vi e.req.st,vi e.req.kind,vi e.req.time,Dw (Dh Dn e.req.chs),vi e.req.gsec,vi e.req.glab,vi e.req.key,vi e.r,vi e.s],.val (int c),.b true] (.c (show Qd ((↑k:Int)<(↑(Dl L):Int))=true→ad (↑k:Int) L [vi e.time,vi e.campus,vi e.no,vi e.kind,vi e.stu,vi e.obj,vi e.term,vi e.val,vi e.frm,vi e.til,vs e.text,vi e.sec.id,vi e.sec.course,vi e.sec.term,vi e.sec.campus,vi e.sec.seats,Dw (Dh DA e.sec.mts),Dw (Dh Dx e.sec.grs),Dw (Dh ab e.sec.labs),DS (DE e.sec.lab),vi e.req.campus,vi e.req.no,vi e.req.st,vi e.req.kind,vi e.req.time,Dw (Dh Dn e.req.chs),vi e.req.gsec,vi e.req.glab,vi e.req.key,vi e.r,vi e.s] 31 from(fun hg=>hr)) (.c (gd (Qd ((↑k:Int)<(↑(Dl L):Int))) (@hcm (mC n))) (.c hcd .n))) ?_ ?_<;>(first|rfl|(rw[hw]<;>rfl))
noncomputable abbrev tK(n:EntT):List Blk:=[.var [int n.time,int n.campus,int n.no,int n.kind,int n.stu,int n.obj,int n.term,int n.val,int n.frm,int n.til,ax n.text,int n.sec.id,int n.sec.course,int n.sec.term,int n.sec.campus,int n.sec.seats,aa (Dh DA n.sec.mts),aa (Dh Dx n.sec.grs),aa (Dh ab n.sec.labs),bool n.sec.lab,int n.req.campus,int n.req.no,int n.req.st,int n.req.kind,int n.req.time,aa (Dh Dn n.req.chs),int n.req.gsec,int n.req.glab,int n.req.key,int n.r,int n.s]]
theorem CD{L:List (List Dp)}{n e:EntT}{c:Int}{k:Nat}(hr:Qd ((k:Int)<(L.length:Int))=true→ad (k:Int) L e.row 31)(_hlt:Qd ((k:Int)<(L.length:Int))=false)(hcm:∀h,Ev Di Γ0 36 [.agg [int e.time,int e.campus,int e.no],.agg [int n.time,int n.campus,int n.no]] h (int c) h)(hcd:(Qd ((k:Int)<(L.length:Int))&&Qd (c<0))=false):(CW Di Γ0 [] false (sub Hw 0) (rpS L n k) (.exit 0) (rpS L n k)):=by
 exact zx [.st (.mask [0,3,4,5,6,8]),.st (.trim 1)] [.row [vi e.time,vi e.campus,vi e.no,vi e.kind,vi e.stu,vi e.obj,vi e.term,vi e.val,vi e.frm,vi e.til,vs e.text,vi e.sec.id,vi e.sec.course,vi e.sec.term,vi e.sec.campus,vi e.sec.seats,Dw (Dh DA e.sec.mts),Dw (Dh Dx e.sec.grs),Dw (Dh ab e.sec.labs),DS (DE e.sec.lab),vi e.req.campus,vi e.req.no,vi e.req.st,vi e.req.kind,vi e.req.time,Dw (Dh Dn e.req.chs),vi e.req.gsec,vi e.req.glab,vi e.req.key,vi e.r,vi e.s],.val (int c),.b false] (.c (show Qd ((↑k:Int)<(↑(Dl L):Int))=true→ad (↑k:Int) L [vi e.time,vi e.campus,vi e.no,vi e.kind,vi e.stu,vi e.obj,vi e.term,vi e.val,vi e.frm,vi e.til,vs e.text,vi e.sec.id,vi e.sec.course,vi e.sec.term,vi e.sec.campus,vi e.sec.seats,Dw (Dh DA e.sec.mts),Dw (Dh Dx e.sec.grs),Dw (Dh ab e.sec.labs),DS (DE e.sec.lab),vi e.req.campus,vi e.req.no,vi e.req.st,vi e.req.kind,vi e.req.time,Dw (Dh Dn e.req.chs),vi e.req.gsec,vi e.req.glab,vi e.req.key,vi e.r,vi e.s] 31 from(fun hg=>(hr (by first|exact hg|(simp at hg;done)|(simp_all;done))))) (.c (gd (Qd ((↑k:Int)<(↑(Dl L):Int))) (@hcm (tK n))) (.c hcd .n)))
noncomputable abbrev tL(n:EntT):List Blk:=[.var [int n.time,int n.campus,int n.no,int n.kind,int n.stu,int n.obj,int n.term,int n.val,int n.frm,int n.til,ax n.text,int n.sec.id,int n.sec.course,int n.sec.term,int n.sec.campus,int n.sec.seats,aa (Dh DA n.sec.mts),aa (Dh Dx n.sec.grs),aa (Dh ab n.sec.labs),bool n.sec.lab,int n.req.campus,int n.req.no,int n.req.st,int n.req.kind,int n.req.time,aa (Dh Dn n.req.chs),int n.req.gsec,int n.req.glab,int n.req.key,int n.r,int n.s]]
theorem CE{L:List (List Dp)}{n e:EntT}{c:Int}{k:Nat}(hr:ad (k:Int) L e.row 31)(hcm:∀h,Ev Di Γ0 36 [.agg [int e.time,int e.campus,int e.no],.agg [int n.time,int n.campus,int n.no]] h (int c) h)(hcd:(Qd ((k:Int)<(L.length:Int))&&Qd (c<0))=false):(CW Di Γ0 [] false (sub Hw 0) (rpS L n k) (.exit 0) (rpS L n k)):=by
 exact zx [.st (.mask [0,3,4,5,6,8]),.st (.trim 1)] [.row [vi e.time,vi e.campus,vi e.no,vi e.kind,vi e.stu,vi e.obj,vi e.term,vi e.val,vi e.frm,vi e.til,vs e.text,vi e.sec.id,vi e.sec.course,vi e.sec.term,vi e.sec.campus,vi e.sec.seats,Dw (Dh DA e.sec.mts),Dw (Dh Dx e.sec.grs),Dw (Dh ab e.sec.labs),DS (DE e.sec.lab),vi e.req.campus,vi e.req.no,vi e.req.st,vi e.req.kind,vi e.req.time,Dw (Dh Dn e.req.chs),vi e.req.gsec,vi e.req.glab,vi e.req.key,vi e.r,vi e.s],.val (int c),.b false] (.c (show Qd ((↑k:Int)<(↑(Dl L):Int))=true→ad (↑k:Int) L [vi e.time,vi e.campus,vi e.no,vi e.kind,vi e.stu,vi e.obj,vi e.term,vi e.val,vi e.frm,vi e.til,vs e.text,vi e.sec.id,vi e.sec.course,vi e.sec.term,vi e.sec.campus,vi e.sec.seats,Dw (Dh DA e.sec.mts),Dw (Dh Dx e.sec.grs),Dw (Dh ab e.sec.labs),DS (DE e.sec.lab),vi e.req.campus,vi e.req.no,vi e.req.st,vi e.req.kind,vi e.req.time,Dw (Dh Dn e.req.chs),vi e.req.gsec,vi e.req.glab,vi e.req.key,vi e.r,vi e.s] 31 from(fun hg=>hr)) (.c (gd (Qd ((↑k:Int)<(↑(Dl L):Int))) (@hcm (tL n))) (.c hcd .n)))
noncomputable abbrev yQ(n:EntT):List Blk:=[.var [int n.time,int n.campus,int n.no,int n.kind,int n.stu,int n.obj,int n.term,int n.val,int n.frm,int n.til,ax n.text,int n.sec.id,int n.sec.course,int n.sec.term,int n.sec.campus,int n.sec.seats,aa (Dh DA n.sec.mts),aa (Dh Dx n.sec.grs),aa (Dh ab n.sec.labs),bool n.sec.lab,int n.req.campus,int n.req.no,int n.req.st,int n.req.kind,int n.req.time,aa (Dh Dn n.req.chs),int n.req.gsec,int n.req.glab,int n.req.key,int n.r,int n.s]]
theorem rp_c1{L:List (List Dp)}{n:EntT}{e:Int}(hck:∀h,Ev Di Γ0 13 [aa L] h (int e) h)(he:(e != 0)=true)(h:List Blk):(Ev Di Γ0 18 [aa L,ag n.row] h (.tup [nq,int 0,int e]) h):=by
 exact z0 [.val (int e),.b true] (.c (@hck (yQ n)) (.c he .n)) h
end Go.Vi
