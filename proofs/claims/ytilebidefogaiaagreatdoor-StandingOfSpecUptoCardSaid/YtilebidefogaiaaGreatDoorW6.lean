/- StandingOfSpecUpto: part of the proof: contracts of the functions that the law reaches, and the law. No conditions beyond the given statement's own. -/
import Derived.Test.YtilebidefogaiaaGreatDoorW5
open Go.Vi.AttT renaming row → Ft
open Go.Proofs.Tryz renaming prog → Fp, f118 → HJ, f61 → K9, f108 → Hs, f158 → Io, f54 → Hm
open Int renaming toNat → FA, tdiv → Hj, natAbs → FJ
open Option renaming isSome → FS, getD → F7
open List renaming getD → FG, length → Fu, map → Fo, getElem?_eq_some_iff → Fy, getElem?_eq_getElem → FK, length_zipIdx → LB, replicate → FX, take_add_one → I2, foldl → Gx
open Go.Vi.D renaming p → Gj, tup → FM, any → HM, mapR → Gl, agg → FU, mapRL → GA, fn → GX
open Go.Vi.Dp renaming v → GT
open Go.Value renaming nilFunc → Gc
open Go.IntKind renaming i64 → Fs, wrap → Fz, u64 → G3
open Go.Exit renaming normal → FH, ret → Gw, exit → Gf
open Go.Vi.Blk renaming inn → FL
open Go.Vi.CW renaming each → Ha
open Go.Vi.Ev renaming castH → FP, nilW → GK, frameX → GY, of_sym → Gz, glob0 → F1
open Go.Vi.CourseT renaming row → FE
open Go.Vi.SysT renaming row → FF
open Go.Vi.FactT renaming row → FC
open Go.Vi.RuleT renaming fl → Fv
open Nat renaming gcd → Gr
open Go.LoopState renaming ready → F9, exhausted → Gq, busy → Hi
open Go.Fn renaming func → F4
open Go Go.Proofs
namespace Go.Vi
set_option maxRecDepth 100000
set_option maxHeartbeats 4000000
abbrev caH (m1 m2 : IM) : List Blk:=[.var yY,imB m1,imB m2]
abbrev caS (l : List AttT) (rp : List (List Dp)) (m1 m2 : IM) (i : Int) : AS :=
 { t:=mkT 135 0 [(0,ab (l.map Ft)),(1,ab rp),(4,aO),(5,int 0),(6,.ref (.ptr 0 0)),(7,.ref (.mp 1)),(8,.ref (.mp 2)),(32,ab (l.map Ft)),(33,int (l.map Ft).length),(34,int i)],h:=caH m1 m2,m:=[] }
theorem lk1 {h : List Blk} {m : IM} {c : Int} (hb : h[1]? = some (imB m)) : aA Fp h 125 (.ref (.mp 1)) (int c) true = some (.tup [int ((imGet m c).getD 0),bool (imGet m c).isSome]):=rg (kt:=3) (et:=3) (by kernel_rfl) (by kernel_rfl) (by kernel_rfl) hb
theorem lk2 {h : List Blk} {m : IM} {c : Int} (hb : h[2]? = some (imB m)) : aA Fp h 125 (.ref (.mp 2)) (int c) true = some (.tup [int ((imGet m c).getD 0),bool (imGet m c).isSome]):=rg (kt:=3) (et:=3) (by kernel_rfl) (by kernel_rfl) (by kernel_rfl) hb
theorem up1 {h : List Blk} {m : IM} {c v : Int} (hb : h[1]? = some (imB m)) : aB Fp h 125 (.ref (.mp 1)) (int c) (int v) = some (h.set 1 (imB (aH m c v))):=rj (kt:=3) (et:=3) (by kernel_rfl) (by kernel_rfl) hb
theorem up2 {h : List Blk} {m : IM} {c v : Int} (hb : h[2]? = some (imB m)) : aB Fp h 125 (.ref (.mp 2)) (int c) (int v) = some (h.set 2 (imB (aH m c v))):=rj (kt:=3) (et:=3) (by kernel_rfl) (by kernel_rfl) hb
def eN (r : Int) (o : Option Int) : Bool:=!(decide (r ≥ 0) && decide (r ≤ 2)) || (o.isSome && (o.getD 0 != r))
def rep0 (a b : AttT) : Bool:=decide (a.grade > b.grade) || (a.grade == b.grade && decide (a.term < b.term))
def rep1 (a b : AttT) : Bool:=decide (a.term ≥ b.term)
def EX (r : Int) (a b : AttT) : Bool:=if r = 0 then rep0 a b else rep1 a b
def dR (l : List AttT) (r : Int) (a : AttT) (o : Option Int) : Bool:=(r == 0 || r == 1) && (!o.isSome || EX r a (l.getD (FA (o.getD 0)) default))
def caF (l : List AttT) (i : Int) (r : Int) (a : AttT) (s : IM × IM) : (IM × IM) ⊕ Unit:=match eN r (imGet s.1 a.course) with
 | true=>.inr ()
 | false=>.inl (aH s.1 a.course r,match dR l r a (imGet s.2 a.course) with | true=>aH s.2 a.course i | false=>s.2)
abbrev caX : Unit → Exit × AS:=fun _=>(.ret,{ t:=mkT 135 0 [(4,aO),(5,int 1)],h:=[],m:=[] })
theorem caHit0 {l : List AttT} {a : AttT} {o : Option Int} : dR l 0 a o = (true && (!FS o || (decide (a.grade > (FG l (FA (F7 o 0)) default).grade) || (a.grade == (FG l (FA (F7 o 0)) default).grade && decide (a.term < (FG l (FA (F7 o 0)) default).term))))):=by simp [dR,EX,rep0]
theorem caHit1 {l : List AttT} {a : AttT} {o : Option Int} : dR l 1 a o = (true && (!FS o || decide (a.term ≥ (FG l (FA (F7 o 0)) default).term))):=by simp [dR,EX,rep1]
theorem Cu {l : List AttT} {a : AttT} {o : Option Int} : dR l 2 a o = false:=by simp [dR]
noncomputable abbrev fj (m1 : IM) (m2 : IM) (a : AttT) : List Blk:=[.var [bool true,fq 208,bool true,fq 209,bool false,Gj (GT Gc)],.map (bf 0 (aH m1 a.course 0)) (Fu (aH m1 a.course 0)),.map (bf 0 m2) (Fu m2),.var [int a.course,int a.term,int a.grade,int a.campus,int a.credits]]
noncomputable abbrev dX (m1 : IM) (m2 : IM) (a : AttT) : List Blk:=[.var [bool true,fq 208,bool true,fq 209,bool false,Gj (GT Gc)],.map (bf 0 m1) (Fu m1),.map (bf 0 m2) (Fu m2),.var [int a.course,int a.term,int a.grade,int a.campus,int a.credits]]
theorem ca_b0 {l : List AttT} {rp : List (List Dp)} {m1 m2 : IM} {i : Nat} {a : AttT} (hm : ∀ v,imGet m2 a.course = some v → 0 ≤ v ∧ v < (l.length : Int)) (hr : ah (i : Int) (l.map Ft) a.row 5) (hq : ah (i : Int) rp [vi 0] 1) (hlt : decide ((i : Int) < ((l.map Ft).length : Int)) = true) (hw : Fs.wrap ((i : Int) + 1) = ((i + 1 : Nat) : Int)) : (CW Fp Γ0 [] false (sub HJ 0) (caS l rp m1 m2 i) (ae (fun s=>caS l rp s.1 s.2 ((i + 1 : Nat) : Int)) caX (caF l i 0 a (m1,m2))).1 (ae (fun s=>caS l rp s.1 s.2 ((i + 1 : Nat) : Int)) caX (caF l i 0 a (m1,m2))).2):=by
 cases hc0 : !(decide (0 ≥ 0) && decide (0 ≤ 2)) || FS (imGet m1 a.course) && F7 (imGet m1 a.course) 0 != 0
 ·cases hc1 : true && (!FS (imGet m2 a.course) || (decide (a.grade > (FG l (FA (F7 (imGet m2 a.course) 0)) default).grade) || a.grade == (FG l (FA (F7 (imGet m2 a.course) 0)) default).grade && decide (a.term < (FG l (FA (F7 (imGet m2 a.course) 0)) default).term)))
  ·let v0:=FG l (FA (F7 (imGet m2 a.course) 0)) default
   let v1:=FM [int (F7 (imGet m1 a.course) 0),bool (FS (imGet m1 a.course))]
   let v2:=FM [int (F7 (imGet m2 a.course) 0),bool (FS (imGet m2 a.course))]
   refine zX { t:=mkT 135 0 [(0,ab (Fo Ft l)),(1,ab rp),(4,nq),(5,int 0),(6,.ref (.ptr 0 0)),(7,.ref (.mp 1)),(8,.ref (.mp 2)),(32,ab (Fo Ft l)),(33,int (↑(Fu (Fo Ft l)) : Int)),(34,int (Fz Fs ((↑i : Int) + 1)))],h:=[.var [bool true,fq 208,bool true,fq 209,bool false,Gj (GT Gc)],.map (bf 0 (aH m1 a.course 0)) (Fu (aH m1 a.course 0)),.map (bf 0 m2) (Fu m2)],m:=[] } FH [.st (.mask [0,1,4,5,6,7,8,32,33,34]),.st (.trimV 3)] [.b true,.row (Ft a),.ov 43 v1,.row [vi 0],.val (bool (decide (0 ≥ 0) && decide (0 ≤ 2))),.row [vi 0],.b false,.row [vi 0],.oh 10063 HM (caH (aH m1 a.course 0) m2 ++ [.var (Fo Gj (Ft a))]),.ov 74 v2,.row [vi 0],.row [vi 0],.row (Ft v0),.val (bool (decide (a.grade > v0.grade) || a.grade == v0.grade && decide (a.term < v0.term))),.b false] (.c hlt (.c hr (.c (show aA Fp (dX m1 m2 a) 125 (.ref (.mp 1)) (int a.course) true = some v1 from ?_) (.c hq (.c (@co 0 0 2 (dX m1 m2 a)) (.c (show (!!(decide (0 ≥ 0) && decide (0 ≤ 2)) && FS (imGet m1 a.course)) = true → ah (↑i : Int) rp [vi 0] 1 from (fun hg=>hq)) (.c hc0 (.c hq (.c (show aB Fp (dX m1 m2 a) 125 (.ref (.mp 1)) (int a.course) (int 0) = some (fj m1 m2 a) from ?_) (.e (.ref (.ptr 3 0)) (.e (int a.course) (.c (show aA Fp (fj m1 m2 a) 125 (.ref (.mp 2)) (int a.course) true = some v2 from ?_) (.c hq (.c (show inR 0 3 = true from rfl) (.c (show (true && !!FS (imGet m2 a.course)) = true → ah (↑i : Int) rp [vi 0] 1 from (fun hg=>hq)) (.c (show (true && !!FS (imGet m2 a.course)) = true → inR 0 3 = true from (fun hg=>rfl)) (.c (show (true && !!FS (imGet m2 a.course)) = true → ah (F7 (imGet m2 a.course) 0) (Fo Ft l) (Ft v0) 5 from (fun hg=>?_)) (.c (gd (true && !!FS (imGet m2 a.course)) (@yW a v0 (fj m1 m2 a))) (.c hc1 (.c (show FL 3 (.var [bool true,fq 208,bool true,fq 209,bool false,Gj (GT Gc)]) = true from rfl) (.c (show FL 3 (.map (bf 0 (aH m1 a.course 0)) (Fu (aH m1 a.course 0))) = true from ?_) (.c (show FL 3 (.map (bf 0 m2) (Fu m2)) = true from ?_) .n)))))))))))))))))))))) (by subst v0 v1 v2; (have h1 : eN 0 (imGet m1 a.course) = false:=hc0; have h2 : dR l 0 a (imGet m2 a.course) = false:=caHit0.trans hc1; simp only [caF,h1,h2,ae]; first | done | rfl)) (by subst v0 v1 v2; (have h1 : eN 0 (imGet m1 a.course) = false:=hc0; have h2 : dR l 0 a (imGet m2 a.course) = false:=caHit0.trans hc1; simp only [caF,h1,h2,ae,hw]; first | done | rfl)) <;> subst v0 v1 v2 <;> (first | exact lk1 rfl | exact lk2 rfl | exact up1 rfl | exact lS | (refine be (fun _=>rfl) ?_ ?_ <;> (cases hz : imGet m2 a.course <;> simp_all; done)))
  ·let v0:=FG l (FA (F7 (imGet m2 a.course) 0)) default
   let v1:=FM [int (F7 (imGet m1 a.course) 0),bool (FS (imGet m1 a.course))]
   let v2:=FM [int (F7 (imGet m2 a.course) 0),bool (FS (imGet m2 a.course))]
   let v3:=Fu (aH m1 a.course 0)
   refine zX { t:=mkT 135 0 [(0,ab (Fo Ft l)),(1,ab rp),(4,nq),(5,int 0),(6,.ref (.ptr 0 0)),(7,.ref (.mp 1)),(8,.ref (.mp 2)),(32,ab (Fo Ft l)),(33,int (↑(Fu (Fo Ft l)) : Int)),(34,int (Fz Fs ((↑i : Int) + 1)))],h:=[.var [bool true,fq 208,bool true,fq 209,bool false,Gj (GT Gc)],.map (bf 0 (aH m1 a.course 0)) v3,.map (bf 0 (aH m2 a.course (↑i : Int))) (Fu (aH m2 a.course (↑i : Int)))],m:=[] } FH [.st (.mask [0,1,4,5,6,7,8,32,33,34]),.st (.trimV 3)] [.b true,.row (Ft a),.ov 43 v1,.row [vi 0],.val (bool (decide (0 ≥ 0) && decide (0 ≤ 2))),.row [vi 0],.b false,.row [vi 0],.oh 10063 HM (caH (aH m1 a.course 0) m2 ++ [.var (Fo Gj (Ft a))]),.ov 74 v2,.row [vi 0],.row [vi 0],.row (Ft v0),.val (bool (decide (a.grade > v0.grade) || a.grade == v0.grade && decide (a.term < v0.term))),.b true,.oh 10103 HM (caH (aH m1 a.course 0) (aH m2 a.course (↑i : Int)) ++ [.var (Fo Gj (Ft a))])] (.c hlt (.c hr (.c (show aA Fp (dX m1 m2 a) 125 (.ref (.mp 1)) (int a.course) true = some v1 from ?_) (.c hq (.c (@co 0 0 2 (dX m1 m2 a)) (.c (show (!!(decide (0 ≥ 0) && decide (0 ≤ 2)) && FS (imGet m1 a.course)) = true → ah (↑i : Int) rp [vi 0] 1 from (fun hg=>hq)) (.c hc0 (.c hq (.c (show aB Fp (dX m1 m2 a) 125 (.ref (.mp 1)) (int a.course) (int 0) = some (fj m1 m2 a) from ?_) (.e (.ref (.ptr 3 0)) (.e (int a.course) (.c (show aA Fp (fj m1 m2 a) 125 (.ref (.mp 2)) (int a.course) true = some v2 from ?_) (.c hq (.c (show inR 0 3 = true from rfl) (.c (show (true && !!FS (imGet m2 a.course)) = true → ah (↑i : Int) rp [vi 0] 1 from (fun hg=>hq)) (.c (show (true && !!FS (imGet m2 a.course)) = true → inR 0 3 = true from (fun hg=>rfl)) (.c (show (true && !!FS (imGet m2 a.course)) = true → ah (F7 (imGet m2 a.course) 0) (Fo Ft l) (Ft v0) 5 from (fun hg=>?_)) (.c (gd (true && !!FS (imGet m2 a.course)) (@yW a v0 (fj m1 m2 a))) (.c hc1 (.c (show aB Fp (fj m1 m2 a) 125 (.ref (.mp 2)) (int a.course) (int (↑i : Int)) = some [.var [bool true,fq 208,bool true,fq 209,bool false,Gj (GT Gc)],.map (bf 0 (aH m1 a.course 0)) v3,.map (bf 0 (aH m2 a.course (↑i : Int))) (Fu (aH m2 a.course (↑i : Int))),.var [int a.course,int a.term,int a.grade,int a.campus,int a.credits]] from ?_) (.c (show FL 3 (.var [bool true,fq 208,bool true,fq 209,bool false,Gj (GT Gc)]) = true from rfl) (.c (show FL 3 (.map (bf 0 (aH m1 a.course 0)) v3) = true from ?_) (.c (show FL 3 (.map (bf 0 (aH m2 a.course (↑i : Int))) (Fu (aH m2 a.course (↑i : Int)))) = true from ?_) .n))))))))))))))))))))))) (by subst v0 v1 v2 v3; (have h1 : eN 0 (imGet m1 a.course) = false:=hc0; have h2 : dR l 0 a (imGet m2 a.course) = true:=caHit0.trans hc1; simp only [caF,h1,h2,ae]; first | done | rfl)) (by subst v0 v1 v2 v3; (have h1 : eN 0 (imGet m1 a.course) = false:=hc0; have h2 : dR l 0 a (imGet m2 a.course) = true:=caHit0.trans hc1; simp only [caF,h1,h2,ae,hw]; first | done | rfl)) <;> subst v0 v1 v2 v3 <;> (first | exact lk1 rfl | exact lk2 rfl | exact up1 rfl | exact up2 rfl | exact lS | (refine be (fun _=>rfl) ?_ ?_ <;> (cases hz : imGet m2 a.course <;> simp_all; done)))
 ·let v0:=FM [int (F7 (imGet m1 a.course) 0),bool (FS (imGet m1 a.course))]
  refine zX { t:=mkT 135 0 [(4,nq),(5,int 1)],h:=[],m:=[] } Gw [.st (.mask [4,5]),.st (.trimV 0)] [.b true,.row (Ft a),.ov 43 v0,.row [vi 0],.val (bool (decide (0 ≥ 0) && decide (0 ≤ 2))),.row [vi 0],.b true] (.c hlt (.c hr (.c (show aA Fp (dX m1 m2 a) 125 (.ref (.mp 1)) (int a.course) true = some v0 from (by subst v0; exact lk1 rfl)) (.c hq (.c (@co 0 0 2 (dX m1 m2 a)) (.c (show (!!(decide (0 ≥ 0) && decide (0 ≤ 2)) && FS (imGet m1 a.course)) = true → ah (↑i : Int) rp [vi 0] 1 from (fun hg=>hq)) (.c hc0 .n))))))) ?_ ?_ <;> subst v0 <;> (have h1 : eN 0 (imGet m1 a.course) = true:=hc0; simp only [caF,h1,ae]; first | done | rfl)
noncomputable abbrev fk (m1 : IM) (m2 : IM) (a : AttT) : List Blk:=[.var [bool true,fq 208,bool true,fq 209,bool false,Gj (GT Gc)],.map (bf 0 (aH m1 a.course 1)) (Fu (aH m1 a.course 1)),.map (bf 0 m2) (Fu m2),.var [int a.course,int a.term,int a.grade,int a.campus,int a.credits]]
noncomputable abbrev dY (m1 : IM) (m2 : IM) (a : AttT) : List Blk:=[.var [bool true,fq 208,bool true,fq 209,bool false,Gj (GT Gc)],.map (bf 0 m1) (Fu m1),.map (bf 0 m2) (Fu m2),.var [int a.course,int a.term,int a.grade,int a.campus,int a.credits]]
theorem ca_b1 {l : List AttT} {rp : List (List Dp)} {m1 m2 : IM} {i : Nat} {a : AttT} (hm : ∀ v,imGet m2 a.course = some v → 0 ≤ v ∧ v < (l.length : Int)) (hr : ah (i : Int) (l.map Ft) a.row 5) (hq : ah (i : Int) rp [vi 1] 1) (hlt : decide ((i : Int) < ((l.map Ft).length : Int)) = true) (hw : Fs.wrap ((i : Int) + 1) = ((i + 1 : Nat) : Int)) : (CW Fp Γ0 [] false (sub HJ 0) (caS l rp m1 m2 i) (ae (fun s=>caS l rp s.1 s.2 ((i + 1 : Nat) : Int)) caX (caF l i 1 a (m1,m2))).1 (ae (fun s=>caS l rp s.1 s.2 ((i + 1 : Nat) : Int)) caX (caF l i 1 a (m1,m2))).2):=by
 cases hc0 : !(decide (1 ≥ 0) && decide (1 ≤ 2)) || FS (imGet m1 a.course) && F7 (imGet m1 a.course) 0 != 1
 ·cases hc1 : true && (!FS (imGet m2 a.course) || decide (a.term ≥ (FG l (FA (F7 (imGet m2 a.course) 0)) default).term))
  ·let v0:=FG l (FA (F7 (imGet m2 a.course) 0)) default
   let v1:=FM [int (F7 (imGet m1 a.course) 0),bool (FS (imGet m1 a.course))]
   let v2:=FM [int (F7 (imGet m2 a.course) 0),bool (FS (imGet m2 a.course))]
   refine zX { t:=mkT 135 0 [(0,ab (Fo Ft l)),(1,ab rp),(4,nq),(5,int 0),(6,.ref (.ptr 0 0)),(7,.ref (.mp 1)),(8,.ref (.mp 2)),(32,ab (Fo Ft l)),(33,int (↑(Fu (Fo Ft l)) : Int)),(34,int (Fz Fs ((↑i : Int) + 1)))],h:=[.var [bool true,fq 208,bool true,fq 209,bool false,Gj (GT Gc)],.map (bf 0 (aH m1 a.course 1)) (Fu (aH m1 a.course 1)),.map (bf 0 m2) (Fu m2)],m:=[] } FH [.st (.mask [0,1,4,5,6,7,8,32,33,34]),.st (.trimV 3)] [.b true,.row (Ft a),.ov 43 v1,.row [vi 1],.val (bool (decide (1 ≥ 0) && decide (1 ≤ 2))),.row [vi 1],.b false,.row [vi 1],.oh 10063 HM (caH (aH m1 a.course 1) m2 ++ [.var (Fo Gj (Ft a))]),.ov 74 v2,.row [vi 1],.row [vi 1],.row (Ft v0),.val (bool (decide (a.term ≥ v0.term))),.b false] (.c hlt (.c hr (.c (show aA Fp (dY m1 m2 a) 125 (.ref (.mp 1)) (int a.course) true = some v1 from ?_) (.c hq (.c (@co 1 0 2 (dY m1 m2 a)) (.c (show (!!(decide (1 ≥ 0) && decide (1 ≤ 2)) && FS (imGet m1 a.course)) = true → ah (↑i : Int) rp [vi 1] 1 from (fun hg=>hq)) (.c hc0 (.c hq (.c (show aB Fp (dY m1 m2 a) 125 (.ref (.mp 1)) (int a.course) (int 1) = some (fk m1 m2 a) from ?_) (.e (.ref (.ptr 3 0)) (.e (int a.course) (.c (show aA Fp (fk m1 m2 a) 125 (.ref (.mp 2)) (int a.course) true = some v2 from ?_) (.c hq (.c (show inR 1 3 = true from rfl) (.c (show (true && !!FS (imGet m2 a.course)) = true → ah (↑i : Int) rp [vi 1] 1 from (fun hg=>hq)) (.c (show (true && !!FS (imGet m2 a.course)) = true → inR 1 3 = true from (fun hg=>rfl)) (.c (show (true && !!FS (imGet m2 a.course)) = true → ah (F7 (imGet m2 a.course) 0) (Fo Ft l) (Ft v0) 5 from (fun hg=>?_)) (.c (gd (true && !!FS (imGet m2 a.course)) (@yX a v0 (fk m1 m2 a))) (.c hc1 (.c (show FL 3 (.var [bool true,fq 208,bool true,fq 209,bool false,Gj (GT Gc)]) = true from rfl) (.c (show FL 3 (.map (bf 0 (aH m1 a.course 1)) (Fu (aH m1 a.course 1))) = true from ?_) (.c (show FL 3 (.map (bf 0 m2) (Fu m2)) = true from ?_) .n)))))))))))))))))))))) (by subst v0 v1 v2; (have h1 : eN 1 (imGet m1 a.course) = false:=hc0; have h2 : dR l 1 a (imGet m2 a.course) = false:=caHit1.trans hc1; simp only [caF,h1,h2,ae]; first | done | rfl)) (by subst v0 v1 v2; (have h1 : eN 1 (imGet m1 a.course) = false:=hc0; have h2 : dR l 1 a (imGet m2 a.course) = false:=caHit1.trans hc1; simp only [caF,h1,h2,ae,hw]; first | done | rfl)) <;> subst v0 v1 v2 <;> (first | exact lk1 rfl | exact lk2 rfl | exact up1 rfl | exact lS | (refine be (fun _=>rfl) ?_ ?_ <;> (cases hz : imGet m2 a.course <;> simp_all; done)))
  ·let v0:=FG l (FA (F7 (imGet m2 a.course) 0)) default
   let v1:=FM [int (F7 (imGet m1 a.course) 0),bool (FS (imGet m1 a.course))]
   let v2:=FM [int (F7 (imGet m2 a.course) 0),bool (FS (imGet m2 a.course))]
   let v3:=Fu (aH m1 a.course 1)
   refine zX { t:=mkT 135 0 [(0,ab (Fo Ft l)),(1,ab rp),(4,nq),(5,int 0),(6,.ref (.ptr 0 0)),(7,.ref (.mp 1)),(8,.ref (.mp 2)),(32,ab (Fo Ft l)),(33,int (↑(Fu (Fo Ft l)) : Int)),(34,int (Fz Fs ((↑i : Int) + 1)))],h:=[.var [bool true,fq 208,bool true,fq 209,bool false,Gj (GT Gc)],.map (bf 0 (aH m1 a.course 1)) v3,.map (bf 0 (aH m2 a.course (↑i : Int))) (Fu (aH m2 a.course (↑i : Int)))],m:=[] } FH [.st (.mask [0,1,4,5,6,7,8,32,33,34]),.st (.trimV 3)] [.b true,.row (Ft a),.ov 43 v1,.row [vi 1],.val (bool (decide (1 ≥ 0) && decide (1 ≤ 2))),.row [vi 1],.b false,.row [vi 1],.oh 10063 HM (caH (aH m1 a.course 1) m2 ++ [.var (Fo Gj (Ft a))]),.ov 74 v2,.row [vi 1],.row [vi 1],.row (Ft v0),.val (bool (decide (a.term ≥ v0.term))),.b true,.oh 10103 HM (caH (aH m1 a.course 1) (aH m2 a.course (↑i : Int)) ++ [.var (Fo Gj (Ft a))])] (.c hlt (.c hr (.c (show aA Fp (dY m1 m2 a) 125 (.ref (.mp 1)) (int a.course) true = some v1 from ?_) (.c hq (.c (@co 1 0 2 (dY m1 m2 a)) (.c (show (!!(decide (1 ≥ 0) && decide (1 ≤ 2)) && FS (imGet m1 a.course)) = true → ah (↑i : Int) rp [vi 1] 1 from (fun hg=>hq)) (.c hc0 (.c hq (.c (show aB Fp (dY m1 m2 a) 125 (.ref (.mp 1)) (int a.course) (int 1) = some (fk m1 m2 a) from ?_) (.e (.ref (.ptr 3 0)) (.e (int a.course) (.c (show aA Fp (fk m1 m2 a) 125 (.ref (.mp 2)) (int a.course) true = some v2 from ?_) (.c hq (.c (show inR 1 3 = true from rfl) (.c (show (true && !!FS (imGet m2 a.course)) = true → ah (↑i : Int) rp [vi 1] 1 from (fun hg=>hq)) (.c (show (true && !!FS (imGet m2 a.course)) = true → inR 1 3 = true from (fun hg=>rfl)) (.c (show (true && !!FS (imGet m2 a.course)) = true → ah (F7 (imGet m2 a.course) 0) (Fo Ft l) (Ft v0) 5 from (fun hg=>?_)) (.c (gd (true && !!FS (imGet m2 a.course)) (@yX a v0 (fk m1 m2 a))) (.c hc1 (.c (show aB Fp (fk m1 m2 a) 125 (.ref (.mp 2)) (int a.course) (int (↑i : Int)) = some [.var [bool true,fq 208,bool true,fq 209,bool false,Gj (GT Gc)],.map (bf 0 (aH m1 a.course 1)) v3,.map (bf 0 (aH m2 a.course (↑i : Int))) (Fu (aH m2 a.course (↑i : Int))),.var [int a.course,int a.term,int a.grade,int a.campus,int a.credits]] from ?_) (.c (show FL 3 (.var [bool true,fq 208,bool true,fq 209,bool false,Gj (GT Gc)]) = true from rfl) (.c (show FL 3 (.map (bf 0 (aH m1 a.course 1)) v3) = true from ?_) (.c (show FL 3 (.map (bf 0 (aH m2 a.course (↑i : Int))) (Fu (aH m2 a.course (↑i : Int)))) = true from ?_) .n))))))))))))))))))))))) (by subst v0 v1 v2 v3; (have h1 : eN 1 (imGet m1 a.course) = false:=hc0; have h2 : dR l 1 a (imGet m2 a.course) = true:=caHit1.trans hc1; simp only [caF,h1,h2,ae]; first | done | rfl)) (by subst v0 v1 v2 v3; (have h1 : eN 1 (imGet m1 a.course) = false:=hc0; have h2 : dR l 1 a (imGet m2 a.course) = true:=caHit1.trans hc1; simp only [caF,h1,h2,ae,hw]; first | done | rfl)) <;> subst v0 v1 v2 v3 <;> (first | exact lk1 rfl | exact lk2 rfl | exact up1 rfl | exact up2 rfl | exact lS | (refine be (fun _=>rfl) ?_ ?_ <;> (cases hz : imGet m2 a.course <;> simp_all; done)))
 ·let v0:=FM [int (F7 (imGet m1 a.course) 0),bool (FS (imGet m1 a.course))]
  refine zX { t:=mkT 135 0 [(4,nq),(5,int 1)],h:=[],m:=[] } Gw [.st (.mask [4,5]),.st (.trimV 0)] [.b true,.row (Ft a),.ov 43 v0,.row [vi 1],.val (bool (decide (1 ≥ 0) && decide (1 ≤ 2))),.row [vi 1],.b true] (.c hlt (.c hr (.c (show aA Fp (dY m1 m2 a) 125 (.ref (.mp 1)) (int a.course) true = some v0 from (by subst v0; exact lk1 rfl)) (.c hq (.c (@co 1 0 2 (dY m1 m2 a)) (.c (show (!!(decide (1 ≥ 0) && decide (1 ≤ 2)) && FS (imGet m1 a.course)) = true → ah (↑i : Int) rp [vi 1] 1 from (fun hg=>hq)) (.c hc0 .n))))))) ?_ ?_ <;> subst v0 <;> (have h1 : eN 1 (imGet m1 a.course) = true:=hc0; simp only [caF,h1,ae]; first | done | rfl)
noncomputable abbrev iH (m1 : IM) (m2 : IM) (a : AttT) : List Blk:=[.var [bool true,fq 208,bool true,fq 209,bool false,Gj (GT Gc)],.map (bf 0 m1) (Fu m1),.map (bf 0 m2) (Fu m2),.var [int a.course,int a.term,int a.grade,int a.campus,int a.credits]]
theorem ca_b2 {l : List AttT} {rp : List (List Dp)} {m1 m2 : IM} {i : Nat} {a : AttT} (hr : ah (i : Int) (l.map Ft) a.row 5) (hq : ah (i : Int) rp [vi 2] 1) (hlt : decide ((i : Int) < ((l.map Ft).length : Int)) = true) (hw : Fs.wrap ((i : Int) + 1) = ((i + 1 : Nat) : Int)) : (CW Fp Γ0 [] false (sub HJ 0) (caS l rp m1 m2 i) (ae (fun s=>caS l rp s.1 s.2 ((i + 1 : Nat) : Int)) caX (caF l i 2 a (m1,m2))).1 (ae (fun s=>caS l rp s.1 s.2 ((i + 1 : Nat) : Int)) caX (caF l i 2 a (m1,m2))).2):=by
 cases hc0 : !(decide (2 ≥ 0) && decide (2 ≤ 2)) || FS (imGet m1 a.course) && F7 (imGet m1 a.course) 0 != 2
 ·let v1:=FM [int (F7 (imGet m1 a.course) 0),bool (FS (imGet m1 a.course))]
  let v2:=FM [int (F7 (imGet m2 a.course) 0),bool (FS (imGet m2 a.course))]
  let v3:=Fu (aH m1 a.course 2)
  let v0 : List Blk:=[.var [bool true,fq 208,bool true,fq 209,bool false,Gj (GT Gc)],.map (bf 0 (aH m1 a.course 2)) v3,.map (bf 0 m2) (Fu m2),.var [int a.course,int a.term,int a.grade,int a.campus,int a.credits]]
  refine zX { t:=mkT 135 0 [(0,ab (Fo Ft l)),(1,ab rp),(4,nq),(5,int 0),(6,.ref (.ptr 0 0)),(7,.ref (.mp 1)),(8,.ref (.mp 2)),(32,ab (Fo Ft l)),(33,int (↑(Fu (Fo Ft l)) : Int)),(34,int (Fz Fs ((↑i : Int) + 1)))],h:=[.var [bool true,fq 208,bool true,fq 209,bool false,Gj (GT Gc)],.map (bf 0 (aH m1 a.course 2)) v3,.map (bf 0 m2) (Fu m2)],m:=[] } FH [.st (.mask [0,1,4,5,6,7,8,32,33,34]),.st (.trimV 3)] [.b true,.row (Ft a),.ov 43 v1,.row [vi 2],.val (bool (decide (2 ≥ 0) && decide (2 ≤ 2))),.row [vi 2],.b false,.row [vi 2],.oh 10063 HM (caH (aH m1 a.course 2) m2 ++ [.var (Fo Gj (Ft a))]),.ov 74 v2,.row [vi 2],.g false,.g false,.g false,.g false,.g false,.g false,.g false,.g false,.g false,.g false,.g false,.g false,.g false,.g false,.g false,.g false,.g false,.ov 102 (bool false),.b false] (.c hlt (.c hr (.c (show aA Fp (iH m1 m2 a) 125 (.ref (.mp 1)) (int a.course) true = some v1 from ?_) (.c hq (.c (@co 2 0 2 (iH m1 m2 a)) (.c (show (!!(decide (2 ≥ 0) && decide (2 ≤ 2)) && FS (imGet m1 a.course)) = true → ah (↑i : Int) rp [vi 2] 1 from (fun hg=>hq)) (.c hc0 (.c hq (.c (show aB Fp (iH m1 m2 a) 125 (.ref (.mp 1)) (int a.course) (int 2) = some v0 from ?_) (.e (.ref (.ptr 3 0)) (.e (int a.course) (.c (show aA Fp v0 125 (.ref (.mp 2)) (int a.course) true = some v2 from ?_) (.c hq (.c (show inR 2 3 = true from rfl) (.f (.f (.f (.er false (.er false (.er false (.er false (.er false (.er false (.er false (.er false (.er false (.er false (.er false (.er false (.er false (.f (.c (pkf (Gj (GT (Value.tuple { toList:=[] }))) (bool false) rfl) (.er false (.c (show FL 3 (.var [bool true,fq 208,bool true,fq 209,bool false,Gj (GT Gc)]) = true from rfl) (.c (show FL 3 (.map (bf 0 (aH m1 a.course 2)) v3) = true from ?_) (.c (show FL 3 (.map (bf 0 m2) (Fu m2)) = true from ?_) .n)))))))))))))))))))))))))))))))))))) (by subst v1 v2 v3 v0; (have h1 : eN 2 (imGet m1 a.course) = false:=hc0; have h2 : dR l 2 a (imGet m2 a.course) = false:=Cu; simp only [caF,h1,h2,ae]; first | done | rfl)) (by subst v1 v2 v3 v0; (have h1 : eN 2 (imGet m1 a.course) = false:=hc0; have h2 : dR l 2 a (imGet m2 a.course) = false:=Cu; simp only [caF,h1,h2,ae,hw]; first | done | rfl)) <;> subst v1 v2 v3 v0 <;> (first | exact lk1 rfl | exact lk2 rfl | exact up1 rfl | exact lS)
 ·let v0:=FM [int (F7 (imGet m1 a.course) 0),bool (FS (imGet m1 a.course))]
  refine zX { t:=mkT 135 0 [(4,nq),(5,int 1)],h:=[],m:=[] } Gw [.st (.mask [4,5]),.st (.trimV 0)] [.b true,.row (Ft a),.ov 43 v0,.row [vi 2],.val (bool (decide (2 ≥ 0) && decide (2 ≤ 2))),.row [vi 2],.b true] (.c hlt (.c hr (.c (show aA Fp (iH m1 m2 a) 125 (.ref (.mp 1)) (int a.course) true = some v0 from (by subst v0; exact lk1 rfl)) (.c hq (.c (@co 2 0 2 (iH m1 m2 a)) (.c (show (!!(decide (2 ≥ 0) && decide (2 ≤ 2)) && FS (imGet m1 a.course)) = true → ah (↑i : Int) rp [vi 2] 1 from (fun hg=>hq)) (.c hc0 .n))))))) ?_ ?_ <;> subst v0 <;> (have h1 : eN 2 (imGet m1 a.course) = true:=hc0; simp only [caF,h1,ae]; first | done | rfl)
noncomputable abbrev uJ (m1 : IM) (m2 : IM) (a : AttT) : List Blk:=[.var [bool true,fq 208,bool true,fq 209,bool false,Gj (GT Gc)],.map (bf 0 m1) (Fu m1),.map (bf 0 m2) (Fu m2),.var [int a.course,int a.term,int a.grade,int a.campus,int a.credits]]
theorem ca_bX {l : List AttT} {rp : List (List Dp)} {m1 m2 : IM} {i : Nat} {a : AttT} {r : Int} (hx : (!(decide (r ≥ 0) && decide (r ≤ 2)) || FS (imGet m1 a.course) && F7 (imGet m1 a.course) 0 != r) = true) (hr : ah (i : Int) (l.map Ft) a.row 5) (hq : ah (i : Int) rp [vi r] 1) (hlt : decide ((i : Int) < ((l.map Ft).length : Int)) = true) (hw : Fs.wrap ((i : Int) + 1) = ((i + 1 : Nat) : Int)) : (CW Fp Γ0 [] false (sub HJ 0) (caS l rp m1 m2 i) (ae (fun s=>caS l rp s.1 s.2 ((i + 1 : Nat) : Int)) caX (caF l i r a (m1,m2))).1 (ae (fun s=>caS l rp s.1 s.2 ((i + 1 : Nat) : Int)) caX (caF l i r a (m1,m2))).2):=by
 let v0:=FM [int (F7 (imGet m1 a.course) 0),bool (FS (imGet m1 a.course))]
 exact zX { t:=mkT 135 0 [(4,nq),(5,int 1)],h:=[],m:=[] } Gw [.st (.mask [4,5]),.st (.trimV 0)] [.b true,.row (Ft a),.ov 43 v0,.row [vi r],.val (bool (decide (r ≥ 0) && decide (r ≤ 2))),.row [vi r],.b true] (.c hlt (.c hr (.c (show aA Fp (uJ m1 m2 a) 125 (.ref (.mp 1)) (int a.course) true = some v0 from (by subst v0; exact lk1 rfl)) (.c hq (.c (@co r 0 2 (uJ m1 m2 a)) (.c (show (!!(decide (r ≥ 0) && decide (r ≤ 2)) && FS (imGet m1 a.course)) = true → ah (↑i : Int) rp [vi r] 1 from (fun hg=>hq)) (.c hx .n))))))) (by subst v0; (have h1 : eN r (imGet m1 a.course) = true:=hx); simp only [caF,h1,ae]; done) (by subst v0; (have h1 : eN r (imGet m1 a.course) = true:=hx); simp only [caF,h1,ae]; done) <;> subst v0
theorem EY {l : List AttT} {rp : List (List Dp)} {m1 m2 : IM} {i : Nat} (hlt : decide ((i : Int) < ((l.map Ft).length : Int)) = false) : (CW Fp Γ0 [] false (sub HJ 0) (caS l rp m1 m2 i) (.exit 0) { t:=mkT 135 0 [(0,ab (l.map Ft)),(4,aO),(5,int 0),(8,.ref (.mp 2))],h:=caH m1 m2,m:=[] }):=by
 exact zx [.st (.mask [0,4,5,8])] [.b false] (.c hlt .n)
abbrev CaE:=(AttT × Int) × Nat
def caE (l : List AttT) (e : CaE) (s : IM × IM) : (IM × IM) ⊕ Unit:=caF l (e.2 : Int) e.1.2 e.1.1 s
def caL (l : List AttT) (rp : List Int) : List CaE:=(l.zip rp).zipIdx
abbrev caZ (l : List AttT) (s : IM × IM) : AS:={ t:=mkT 135 0 [(0,ab (l.map Ft)),(4,aO),(5,int 0),(8,.ref (.mp 2))],h:=caH s.1 s.2,m:=[] }
def EZ (l : List AttT) (rp : List Int) : Exit × AS:=aV (.exit 0) (caZ l) caX (forL (caE l) (caL l rp) ([],[]))
theorem ca_cw {l : List AttT} (hl : ad l) {rp : List Int} (hr : rp.length = l.length) :
  CW Fp Γ0 [] false (.loop (sub HJ 0)) (caS l (rp.map fun n=>[vi n]) [] [] 0) (EZ l rp).1 (EZ l rp).2:=by
 have hlen : (caL l rp).length = l.length:=by simp [caL,hr]
 have:=Ha (P:=Fp) (Γ:=Γ0) (h0:=[]) (rd:=false) (c:=sub HJ 0) (caL l rp) (caE l) (fun i s=>caS l (rp.map fun n=>[vi n]) s.1 s.2 (i : Int)) (.exit 0) (caZ l) caX
  (fun _ s=>∀ c v,imGet s.2 c = some v → 0 ≤ v ∧ v < (l.length : Int)) (by simp) (fun _=>by simp) ?_ ?_ ([],[]) (by intro c v h; simp [imGet] at h)
 ·exact this
 ·rintro i ⟨⟨a,r⟩,n⟩ ⟨m1,m2⟩ hp hinv
  obtain ⟨hi,he⟩:=Fy.1 hp
  rw [hlen] at hi
  have hi' : i < rp.length:=by omega
  have e1 : n = i ∧ a = l[i] ∧ r = rp[i]:=by
   have e2:=he.symm
   simp [caL] at e2
   obtain ⟨⟨x1,x2⟩,x3⟩:=e2
   exact ⟨x3,x1,x2⟩
  obtain ⟨rfl,ha,hrr⟩:=e1
  have h1 : l[n]? = some a:=by rw [ha]; exact FK hi
  have h2 : rp[n]? = some r:=by rw [hrr]; exact FK hi'
  have q1:=rowAt (row:=Ft) (sz:=5) h1 rfl
  have q2:=rowAt (row:=fun n : Int=>[vi n]) (sz:=1) h2 rfl
  have q3:=lt_len Ft hi
  have q4:=wrap_succ hi hl
  refine ⟨fun s' h=>?_,?_⟩
  ·simp only [caE,caF] at h
   split at h
   ·simp at h
   ·simp only [Sum.inl.injEq] at h
    subst h
    intro c v hc
    simp only at hc
    split at hc
    ·rw [fX] at hc
     split at hc
     ·simp only [Option.some.injEq] at hc; subst hc; omega
     ·exact hinv c v hc
    ·exact hinv c v hc
  ·simp only [caE]
   by_cases hb : (!(decide (r ≥ 0) && decide (r ≤ 2))) = true
   ·exact ca_bX (by rw [hb]; rfl) q1 q2 q3 q4
   ·have : r = 0 ∨ r = 1 ∨ r = 2:=by simp at hb; omega
    rcases this with h0 | h0 | h0
    ·rw [h0] at q2 ⊢; exact ca_b0 (fun v hv=>hinv _ v hv) q1 q2 q3 q4
    ·rw [h0] at q2 ⊢; exact ca_b1 (fun v hv=>hinv _ v hv) q1 q2 q3 q4
    ·rw [h0] at q2 ⊢; exact ca_b2 q1 q2 q3 q4
 ·rintro ⟨m1,m2⟩ _
  rw [hlen]
  exact EY (aC Ft l)
abbrev cgH (m1 m2 : IM) (out : List AttT) : List Blk:=[.var yY,imB m1,imB m2,.vec (ai (out.map Ft)) 0 5]
abbrev cgS (l : List AttT) (m1 m2 : IM) (out : List AttT) (i : Int) : AS :=
 { t:=mkT 135 0 [(4,.ref (.vec 3 0)),(5,int 0),(8,.ref (.mp 2)),(108,ab (l.map Ft)),(109,int (l.map Ft).length),(110,int i)],h:=cgH m1 m2 out,m:=[] }
def cgHit (m2 : IM) (i : Nat) (a : AttT) : Bool:=!(imGet m2 a.course).isSome || ((imGet m2 a.course).getD 0 == (i : Int))
def cgF (m2 : IM) (e : AttT × Nat) (out : List AttT) : List AttT:=bif cgHit m2 e.2 e.1 then out ++ [e.1] else out
theorem E5 {l : List AttT} {m1 m2 : IM} {out : List AttT} {i : Nat} {a : AttT} (hr : ah (i : Int) (l.map Ft) a.row 5) (hlt : decide ((i : Int) < ((l.map Ft).length : Int)) = true) (hw : Fs.wrap ((i : Int) + 1) = ((i + 1 : Nat) : Int)) (ho : out.length ≤ 1000000000) : (CW Fp Γ0 [] false (sub HJ 1) (cgS l m1 m2 out i) .normal (cgS l m1 m2 (cgF m2 (a,i) out) ((i + 1 : Nat) : Int))):=by
 cases hc0 : !FS (imGet m2 a.course) || F7 (imGet m2 a.course) 0 == (↑i : Int)
 ·let v0:=FM [int (F7 (imGet m2 a.course) 0),bool (FS (imGet m2 a.course))]
  refine zX { t:=mkT 135 0 [(4,.ref (.vec 3 0)),(5,int 0),(8,.ref (.mp 2)),(108,ab (Fo Ft l)),(109,int (↑(Fu (Fo Ft l)) : Int)),(110,int (Fz Fs ((↑i : Int) + 1)))],h:=[.var [bool true,fq 208,bool true,fq 209,bool false,Gj (GT Gc)],.map (bf 0 m1) (Fu m1),.map (bf 0 m2) (Fu m2),.vec (ai (Fo Ft out)) 0 5],m:=[] } FH [.st (.mask [4,5,8,108,109,110]),.st (.ren 3 0),.st (.trimV 4)] [.b true,.row (Ft a),.ov 119 v0,.b false] (.c hlt (.c hr (.c (show aA Fp [.var [bool true,fq 208,bool true,fq 209,bool false,Gj (GT Gc)],.map (bf 0 m1) (Fu m1),.map (bf 0 m2) (Fu m2),.vec (ai (Fo Ft out)) 0 5,.var [int a.course,int a.term,int a.grade,int a.campus,int a.credits]] 125 (.ref (.mp 2)) (int a.course) true = some v0 from ?_) (.c hc0 (.c (vM (Fo Ft out) 3 0 0) (.c (show Fo (fun e=>(Gl (aM 3 0 0) e.fst,Gl (aM 3 0 0) e.snd.fst,e.snd.snd)) (bf 0 m1) = bf 0 m1 from ?_) (.c (show Fo (fun e=>(Gl (aM 3 0 0) e.fst,Gl (aM 3 0 0) e.snd.fst,e.snd.snd)) (bf 0 m2) = bf 0 m2 from ?_) (.c (show FL 4 (match 0 == 3 with | true=>.vec (ai (Fo Ft out)) 0 5 | false=>keepX (aM 3 0 0) (.var [bool true,fq 208,bool true,fq 209,bool false,Gj (GT Gc)])) = true from rfl) (.c (show FL 4 (match 0 + 1 == 3 with | true=>.vec (ai (Fo Ft out)) 0 5 | false=>keepX (aM 3 0 0) (.map (bf 0 m1) (Fu m1))) = true from ?_) (.c (show FL 4 (match 0 + 1 + 1 == 3 with | true=>.vec (ai (Fo Ft out)) 0 5 | false=>keepX (aM 3 0 0) (.map (bf 0 m2) (Fu m2))) = true from ?_) (.c (iV 4 (Fo Ft out) 0 5) .n))))))))))) (by subst v0; (have hh : cgHit m2 i a = false:=hc0; simp only []; first | done | rfl)) (by subst v0; (have hh : cgHit m2 i a = false:=hc0; simp only [cgF,hh,cond_false,hw]; first | done | rfl)) <;> subst v0 <;> (first | exact lk2 rfl | exact lS | exact o8 _ _ _)
 ·let v0 : List D:=[int a.course,int a.term,int a.grade,int a.campus,int a.credits]
  let v1:=FM [int (F7 (imGet m2 a.course) 0),bool (FS (imGet m2 a.course))]
  refine zX { t:=mkT 135 0 [(4,.ref (.vec 3 0)),(5,int 0),(8,.ref (.mp 2)),(108,ab (Fo Ft l)),(109,int (↑(Fu (Fo Ft l)) : Int)),(110,int (Fz Fs ((↑i : Int) + 1)))],h:=[.var [bool true,fq 208,bool true,fq 209,bool false,Gj (GT Gc)],.map (bf 0 m1) (Fu m1),.map (bf 0 m2) (Fu m2),.vec (ai (Fo Ft out) ++ [v0]) 0 5],m:=[] } FH [.st (.mask [4,5,8,108,109,110]),.st (.ren 3 0),.st (.trimV 4)] [.b true,.row (Ft a),.ov 119 v1,.b true] (.c hlt (.c hr (.c (show aA Fp [.var [bool true,fq 208,bool true,fq 209,bool false,Gj (GT Gc)],.map (bf 0 m1) (Fu m1),.map (bf 0 m2) (Fu m2),.vec (ai (Fo Ft out)) 0 5,.var v0] 125 (.ref (.mp 2)) (int a.course) true = some v1 from ?_) (.c hc0 (.c (show (List.all [v0] (aG 5) && roomOk (Fu (ai (Fo Ft out)) + Fu [v0]) 40) = true from ?_) (.c (vMa (Fo Ft out) [v0] 3 1 0) (.c (show Fo (fun e=>(Gl (aM 3 1 0) e.fst,Gl (aM 3 1 0) e.snd.fst,e.snd.snd)) (bf 0 m1) = bf 0 m1 from ?_) (.c (show Fo (fun e=>(Gl (aM 3 1 0) e.fst,Gl (aM 3 1 0) e.snd.fst,e.snd.snd)) (bf 0 m2) = bf 0 m2 from ?_) (.er [v0] (.c (show FL 4 (match 0 == 3 with | true=>.vec (ai (Fo Ft out) ++ [v0]) 0 5 | false=>keepX (aM 3 1 0) (.var [bool true,fq 208,bool true,fq 209,bool false,Gj (GT Gc)])) = true from rfl) (.c (show FL 4 (match 0 + 1 == 3 with | true=>.vec (ai (Fo Ft out) ++ [v0]) 0 5 | false=>keepX (aM 3 1 0) (.map (bf 0 m1) (Fu m1))) = true from ?_) (.c (show FL 4 (match 0 + 1 + 1 == 3 with | true=>.vec (ai (Fo Ft out) ++ [v0]) 0 5 | false=>keepX (aM 3 1 0) (.map (bf 0 m2) (Fu m2))) = true from ?_) (.c (iVa 4 (Fo Ft out) [v0] 0 5) .n))))))))))))) (by subst v0 v1; (have hh : cgHit m2 i a = true:=hc0; simp only []; first | done | rfl)) (by subst v0 v1; (have hh : cgHit m2 i a = true:=hc0; simp only [cgF,hh,cond_true,hw,sY]; first | done | rfl)) <;> subst v0 v1 <;> (first | exact lk2 rfl | exact lS | exact o8 _ _ _ | (simp [aG,D.one,Value.oneCell',roomOk]; omega))
theorem E6 {l : List AttT} {m1 m2 : IM} {out : List AttT} {i : Nat} (hlt : decide ((i : Int) < ((l.map Ft).length : Int)) = false) : (CW Fp Γ0 [] false (sub HJ 1) (cgS l m1 m2 out i) (.exit 2) { t:=mkT 135 0 [(4,.ref (.vec 3 0)),(5,int 0)],h:=cgH m1 m2 out,m:=[] }):=by
 exact zx [.st (.mask [4,5])] [.b false] (.c hlt .n)
def rn (l : List AttT) (m2 : IM) : List AttT:=l.zipIdx.foldl (fun out e=>cgF m2 e out) []
theorem cg_cw {l : List AttT} (hl : l.length ≤ 900000000) {m1 m2 : IM} :
  CW Fp Γ0 [] false (.loop (sub HJ 1)) (cgS l m1 m2 [] 0) (.exit 2) { t:=mkT 135 0 [(4,.ref (.vec 3 0)),(5,int 0)],h:=cgH m1 m2 (rn l m2),m:=[] }:=by
 have hs : ad l:=by unfold ad; omega
 have:=Ha (P:=Fp) (Γ:=Γ0) (h0:=[]) (rd:=false) (c:=sub HJ 1) (σ:=List AttT) (ρ:=Empty) l.zipIdx (fun e out=>.inl (cgF m2 e out))
  (fun i out=>cgS l m1 m2 out (i : Int)) (.exit 2) (fun out=>{ t:=mkT 135 0 [(4,.ref (.vec 3 0)),(5,int 0)],h:=cgH m1 m2 out,m:=[] }) (fun r=>r.elim)
  (fun i out=>out.length ≤ i) (by simp) (fun r=>r.elim) ?_ ?_ [] (by simp)
 ·rw [aK (fun out e=>cgF m2 e out)] at this
  exact this
 ·rintro i ⟨a,n⟩ out hp hout
  obtain ⟨hi,he⟩:=Fy.1 hp
  simp only [LB] at hi
  have e1 : a = l[i] ∧ n = i:=by simpa [eq_comm] using he.symm
  obtain ⟨ha,rfl⟩:=e1
  have h1 : l[n]? = some a:=by rw [ha]; exact FK hi
  refine ⟨fun s' h=>?_,E5 (rowAt h1 rfl) (lt_len Ft hi) (wrap_succ hi hs) (by omega)⟩
  cases h
  unfold cgF
  cases cgHit m2 n a <;> simp <;> omega
 ·intro out _
  rw [LB]
  exact E6 (aC Ft l)
def caR (l : List AttT) (rp : List Int) : (IM × IM) ⊕ Unit:=forL (caE l) (caL l rp) ([],[])
theorem uK {l : List AttT} {rp : List Int} : EZ l rp = aV (.exit 0) (caZ l) caX (caR l rp):=rfl
def lT (l : List AttT) (rp : List Int) : List AttT × Int :=
 bif decide (bP l = 0) then (bif decide (rp.length = l.length) then (match caR l rp with | .inl s=>(rn l s.2,0) | .inr _=>([],1)) else ([],1)) else ([],bP l)
theorem uL {l : List AttT} {rp : List Int} (h : (bP l != 0) = true) : lT l rp = ([],bP l):=by
 have h' : bP l ≠ 0:=by simpa using h
 simp [lT,h']
theorem Bs {l : List AttT} {rp : List Int} (h1 : (bP l != 0) = false) (h2 : rp.length ≠ l.length) : lT l rp = ([],1):=by
 have h' : bP l = 0:=by simpa using h1
 simp [lT,h',h2]
theorem uM {l : List AttT} {rp : List Int} (h1 : (bP l != 0) = false) (h2 : rp.length = l.length) {u : Unit} (h3 : caR l rp = .inr u) : lT l rp = ([],1):=by
 have h' : bP l = 0:=by simpa using h1
 simp [lT,h',h2,h3]
theorem yZ {l : List AttT} {rp : List Int} (h1 : (bP l != 0) = false) (h2 : rp.length = l.length) {s : IM × IM} (h3 : caR l rp = .inl s) : lT l rp = (rn l s.2,0):=by
 have h' : bP l = 0:=by simpa using h1
 simp [lT,h',h2,h3]
theorem len_ne {l : List AttT} {rp : List Int} (h2 : rp.length ≠ l.length) : (((rp.map fun n=>[vi n]).length : Int) != ((l.map Ft).length : Int)) = true:=by
 simp; omega
theorem y1 {l : List AttT} {rp : List Int} (h2 : rp.length = l.length) : (((rp.map fun n=>[vi n]).length : Int) != ((l.map Ft).length : Int)) = false:=by
 simp; omega
theorem Bt (b n : Nat) (rows : List (List Dp)) (m : IM) (k : Nat) : (bf k m).map (fun e=>(Gl (gf b n rows) e.1,Gl (gf b n rows) e.2.1,e.2.2)) = bf k m:=by
 induction m generalizing k with
 | nil=>rfl
 | cons e m ih=>simp only [bf,List.map_cons,ih]; rfl
theorem vecR_frz (l : List AttT) : ai (l.map Ft) = (l.map Ft).map (Fo Gj):=by simp [ai]
theorem cnt_e1 {l : List AttT} {rp : List Int} (hs : ad l) (hz : (bP l != 0) = true) (h : List Blk) : (Ev Fp Γ0 118 [ab (l.map Ft),ab (rp.map fun n=>[vi n])] h (.tup [ab [],int (bP l)]) h):=by
 exact FP (GK (z0 (d:=FM [nq,int (bP l)]) [.val (int (bP l)),.b true] (.c (@c7 l hs ([])) (.c hz .n)) h)) (by rfl) (by rfl)
theorem cnt_e2 {l : List AttT} {rp : List Int} (hs : ad l) (hz : (bP l != 0) = false) (hne : (((rp.map fun n=>[vi n]).length : Int) != ((l.map Ft).length : Int)) = true) (h : List Blk) : (Ev Fp Γ0 118 [ab (l.map Ft),ab (rp.map fun n=>[vi n])] h (.tup [ab [],int 1]) h):=by
 exact FP (GK (z0 (d:=FM [nq,int 1]) [.val (int (bP l)),.b false,.b true] (.c (@c7 l hs ([])) (.c hz (.c hne .n))) h)) (by rfl) (by rfl)
theorem aErr0 {l : List AttT} (hz : (bP l != 0) = false) : bP l = 0:=by simpa using hz
abbrev caS2 (l : List AttT) (rp : List (List Dp)) (z : Int) : AS :=
 { t:=mkT 135 0 [(0,ab (l.map Ft)),(1,ab rp),(4,aO),(5,int z),(6,.ref (.ptr 0 0)),(7,.ref (.mp 1)),(8,.ref (.mp 2)),(32,ab (l.map Ft)),(33,int (l.map Ft).length),(34,int 0)],h:=caH [] [],m:=[] }
theorem y2 {l : List AttT} (hs : ad l) {rp : List Int} (hr : rp.length = l.length) {u : Unit} (hc : caR l rp = .inr u) (hz : (bP l != 0) = false) :
  CW Fp Γ0 [] false (.loop (sub HJ 0)) (caS2 l (rp.map fun n=>[vi n]) (bP l)) .ret { t:=mkT 135 0 [(4,aO),(5,int 1)],h:=[],m:=[] }:=by
 have:=ca_cw hs hr
 rw [uK,hc] at this
 rw [aErr0 hz]
 exact this
theorem cnt_e3 {l : List AttT} {rp : List Int} (hs : ad l) (hr : rp.length = l.length) {u : Unit} (hc : caR l rp = .inr u) (hz : (bP l != 0) = false) (hne : (((rp.map fun n=>[vi n]).length : Int) != ((l.map Ft).length : Int)) = false) (h : List Blk) : (Ev Fp Γ0 118 [ab (l.map Ft),ab (rp.map fun n=>[vi n])] h (.tup [ab [],int 1]) h):=by
 have hl0:=(@y2 (l) (hs) (rp) (hr) (u) (hc) (hz))
 exact FP (GK (z0 (d:=FM [nq,int 1]) [.val (int (bP l)),.b false,.b false,.val (FU [bool true,fq 208,bool true,fq 209,bool false,Gj (GT Gc)]),.sum [0,1,4,5,6,7,8,32,33,34] (Gw) { t:=mkT 135 0 [(4,nq),(5,int 1)],h:=[],m:=[] }] (.c (@c7 l hs ([])) (.c hz (.c hne (.c (@uI ([])) (.c hl0 .n))))) h)) (by rfl) (by rfl)
theorem Bu {l : List AttT} (hs : ad l) {rp : List Int} (hr : rp.length = l.length) {m1 m2 : IM} (hc : caR l rp = .inl (m1,m2)) (hz : (bP l != 0) = false) :
  CW Fp Γ0 [] false (.loop (sub HJ 0)) (caS2 l (rp.map fun n=>[vi n]) (bP l)) (.exit 0) (caZ l (m1,m2)):=by
 have:=ca_cw hs hr
 rw [uK,hc] at this
 rw [aErr0 hz]
 exact this
theorem cnt_ok {l : List AttT} {rp : List Int} (hs : ad l) (hl : l.length ≤ 900000000) (hr : rp.length = l.length) {m1 m2 : IM} (hc : caR l rp = .inl (m1,m2)) (hz : (bP l != 0) = false) (hne : (((rp.map fun n=>[vi n]).length : Int) != ((l.map Ft).length : Int)) = false) (h : List Blk) : (Ev Fp Γ0 118 [ab (l.map Ft),ab (rp.map fun n=>[vi n])] h (.tup [ab ((rn l m2).map Ft),int 0]) h):=by
 have hl0:=(@Bu (l) (hs) (rp) (hr) (m1) (m2) (hc) (hz))
 have hl1:=(@cg_cw (l) (hl) (m1) (m2))
 let v0:=Fo Ft (rn l m2)
 refine FP (GK (z0 (d:=FM [ab v0,int 0]) [.val (int (bP l)),.b false,.b false,.val (FU [bool true,fq 208,bool true,fq 209,bool false,Gj (GT Gc)]),.sum [0,1,4,5,6,7,8,32,33,34] (Gf 0) { t:=mkT 135 0 [(0,ab (Fo Ft l)),(4,nq),(5,int 0),(8,.ref (.mp 2))],h:=[.var [bool true,fq 208,bool true,fq 209,bool false,Gj (GT Gc)],.map (bf 0 m1) (Fu (m1,m2).fst),.map (bf 0 m2) (Fu (m1,m2).snd)],m:=[] },.nx 1,.st (.nilT 4 5),.sum [4,5,8,108,109,110] (Gf 2) { t:=mkT 135 0 [(4,.ref (.vec 3 0)),(5,int 0)],h:=[.var [bool true,fq 208,bool true,fq 209,bool false,Gj (GT Gc)],.map (bf 0 m1) (Fu m1),.map (bf 0 m2) (Fu m2),.vec (ai v0) 0 5],m:=[] },.st (.mask [4,5]),.st (.frz 3 v0),.st (.trimV 0)] (.c (@c7 l hs ([])) (.c hz (.c hne (.c (@uI ([])) (.c hl0 (.c hl1 (.c (show ai v0 = Fo (fun x=>Fo Gj x) v0 from ?_) (.c (show Fo (fun e=>(Gl (gf 3 0 v0) e.fst,Gl (gf 3 0 v0) e.snd.fst,e.snd.snd)) (bf 0 m1) = bf 0 m1 from ?_) (.c (show Fo (fun e=>(Gl (gf 3 0 v0) e.fst,Gl (gf 3 0 v0) e.snd.fst,e.snd.snd)) (bf 0 m2) = bf 0 m2 from ?_) .n))))))))) h)) (by rfl) (by rfl) <;> subst v0 <;> (first | rfl | exact Bt _ _ _ _ _)
theorem cnt_ev {l : List AttT} (hl : l.length ≤ 900000000) {rp : List Int} (h : List Blk) : Ev Fp Γ0 118 [ab (l.map Ft),ab (rp.map fun n=>[vi n])] h (.tup [ab ((lT l rp).1.map Ft),int (lT l rp).2]) h:=by
 have hs : ad l:=by unfold ad; omega
 cases hz : (bP l != 0)
 ·by_cases hr : rp.length = l.length
  ·cases hc : caR l rp with
   | inl s=>obtain ⟨m1,m2⟩:=s; rw [yZ hz hr hc]; exact cnt_ok hs hl hr hc hz (y1 hr) h
   | inr u=>rw [uM hz hr hc]; exact cnt_e3 hs hr hc hz (y1 hr) h
  ·rw [Bs hz hr]; exact cnt_e2 hs hz (len_ne hr) h
 ·rw [uL hz]; exact cnt_e1 hs hz h
abbrev cvV (xs : List Int) : List (List D):=ai (xs.map fun n=>[vi n])
abbrev cvS (w : WorldT) (known term : Int) (as_ : List (List Dp)) (rs : List ReadT) (xs : List Int) (i : Int) : AS :=
 { t:=mkT 36 0 [(0,.ref (.ptr 0 0)),(1,ab as_),(2,int term),(8,.ref (.vec 2 0)),(14,ab as_),(15,int as_.length),(16,int i)],h:=lkH w known rs 1 ++ [.vec (cvV xs) 0 1],m:=[] }
theorem Bw {h : List Blk} {xs : List Int} {i : Nat} {v : Int} (hb : h[2]? = some (.vec (cvV xs) 0 1)) (hi : i < xs.length) : bH Fp h 3 (.ref (.vp 2 0 (FA (i : Int)) 0)) (int v) = some (h.set 2 (.vec (cvV (xs.set i v)) 0 1)):=by
 have e1 : (cvV xs)[FA (i : Int)]? = some [int xs[i]]:=by simp [hi]
 have e2 : szOf Fp 3 = some 1:=by kernel_rfl
 have e3 : (cvV xs).set (FA (i : Int)) [int v] = cvV (xs.set i v):=by simp [List.map_set]
 unfold bH
 simp only [int,D.cells,e2,hb,e1]
 rw [← e3]
 rfl
theorem cv_inR {xs : List Int} {i : Nat} (hi : i < xs.length) : inR (i : Int) (cvV xs).length = true:=by
 simp [inR]; omega
noncomputable abbrev jA (w : WorldT) (known : Int) (term : Int) (a : AttT) (rs : List ReadT) (xs : List Int) : List Blk:=[.var [.ref (.vec 1 2),ab (Fo FE w.c),ab w.p,ab (Fo FF w.s),ab (Fo FC w.f),int known],.vec (ai (rdR (rs ++ rdT 1 a.course 0 term))) 2 5,.vec (cvV xs) 0 1,.var [int a.course,int a.term,int a.grade,int a.campus,int a.credits]]
theorem E7 {w : WorldT} (hw : w.ok) {known term : Int} {as_ : List (List Dp)} {a : AttT} {rs0 rs : List ReadT} {xs : List Int} {i : Nat} (hi : i < xs.length) (hr : ah (i : Int) as_ a.row 5) (hlt : decide ((i : Int) < (as_.length : Int)) = true) (hwr : Fs.wrap ((i : Int) + 1) = ((i + 1 : Nat) : Int)) (hb : rs.length ≤ 999998000) : (CW Fp Γk (lkH w known rs0 0) false (sub K9 0) (cvS w known term as_ rs xs i) .normal (cvS w known term as_ (rs ++ rdT 1 a.course 0 term) (xs.set i (ac w a.course term known).1.rep) ((i + 1 : Nat) : Int))):=by
 let v0:=FU [ak (ac w a.course term known).fst.name,int (ac w a.course term known).fst.number,int (ac w a.course term known).fst.credits,int (ac w a.course term known).fst.rep,int (Fv (ac w a.course term known).fst.need).op,int (Fv (ac w a.course term known).fst.need).c,ak (Fv (ac w a.course term known).fst.need).nm,int (Fv (ac w a.course term known).fst.need).n,int (Fv (ac w a.course term known).fst.need).d,ab (Fv (ac w a.course term known).fst.need).ks,int (Fv (ac w a.course term known).fst.bar).op,int (Fv (ac w a.course term known).fst.bar).c,ak (Fv (ac w a.course term known).fst.bar).nm,int (Fv (ac w a.course term known).fst.bar).n,int (Fv (ac w a.course term known).fst.bar).d,ab (Fv (ac w a.course term known).fst.bar).ks]
 let v1 : List D:=[.ref (.vec 1 1),ab (Fo FE w.c),ab w.p,ab (Fo FF w.s),ab (Fo FC w.f),int known]
 let v2:=List.set xs i (ac w a.course term known).fst.rep
 let v3 : List D:=[.ref (.vec 1 2),ab (Fo FE w.c),ab w.p,ab (Fo FF w.s),ab (Fo FC w.f),int known]
 let v4 : List D:=[int a.course,int a.term,int a.grade,int a.campus,int a.credits]
 let v5 : List Blk:=[.var v1,.vec (ai (rdR rs)) 1 5,.vec (cvV xs) 0 1,.var v4]
 refine zX { t:=mkT 36 0 [(0,.ref (.ptr 0 0)),(1,ab as_),(2,int term),(8,.ref (.vec 2 0)),(14,ab as_),(15,int (↑(Fu as_) : Int)),(16,int (Fz Fs ((↑i : Int) + 1)))],h:=[.var v1,.vec (ai (rdR (rs ++ rdT 1 a.course 0 term))) 1 5,.vec (cvV v2) 0 1],m:=[] } FH [.st (.mask [0,1,2,8,14,15,16]),.st (.ren 1 1),.st (.trimV 3)] [.b true,.row (Ft a),.call v0 (jA w known term a rs xs),.oh 10029 HM (lkH w known (rs ++ rdT 1 a.course 0 term) 2 ++ [.vec (cvV v2) 0 1,.var (Fo Gj (Ft a))])] (.c hlt (.c hr (.c (show Ev Fp Γk 116 [.ref (.ptr 0 0),int a.course,int term] v5 v0 (jA w known term a rs xs) from (FP (GY (args:=[.ref (.ptr 0 0),int a.course,int term]) (H:=v5) [0,1] (Ev.upX [0,1] (@lO w hw known (a.course) term rs ?_) (by kernel_rfl) ⟨(by subst v0 v1 v2 v3 v4 v5; exact am _ _),trivial⟩ ⟨(by subst v0 v1 v2 v3 v4 v5; exact am _ _),trivial⟩) (by kernel_rfl) (by kernel_rfl) (by kernel_rfl) ⟨(by subst v0 v1 v2 v3 v4 v5; exact am _ _),trivial⟩ ⟨(by subst v0 v1 v2 v3 v4 v5; exact am _ _),trivial⟩) (by kernel_rfl) (by kernel_rfl))) (.c (show inR (↑i : Int) (Fu (cvV xs)) = true from ?_) (.c (show bH Fp (jA w known term a rs xs) 3 (.ref (.vp 2 0 (FA (↑i : Int)) 0)) (int (ac w a.course term known).fst.rep) = some [.var v3,.vec (ai (rdR (rs ++ rdT 1 a.course 0 term))) 2 5,.vec (cvV v2) 0 1,.var v4] from ?_) (.c (vM (rdR (rs ++ rdT 1 a.course 0 term)) 1 2 1) (.c (show Fo (GA (aM 1 2 1)) (cvV v2) = cvV v2 from ?_) (.c (show FL 3 (match 0 == 1 with | true=>.vec (ai (rdR (rs ++ rdT 1 a.course 0 term))) 1 5 | false=>keepX (aM 1 2 1) (.var v3)) = true from rfl) (.c (iV 3 (rdR (rs ++ rdT 1 a.course 0 term)) 1 5) (.c (show FL 3 (match 0 + 1 + 1 == 1 with | true=>.vec (ai (rdR (rs ++ rdT 1 a.course 0 term))) 1 5 | false=>keepX (aM 1 2 1) (.vec (cvV v2) 0 1)) = true from ?_) .n)))))))))) (by subst v0 v1 v2 v3 v4 v5; rfl) (by subst v0 v1 v2 v3 v4 v5; (simp only [hwr]; rfl)) <;> subst v0 v1 v2 v3 v4 v5 <;> (first | omega | exact Bw rfl hi | exact cv_inR hi | exact bl _ _ | exact cT)
theorem E8 {w : WorldT} {known term : Int} {as_ : List (List Dp)} {rs0 rs : List ReadT} {xs : List Int} {i : Nat} (hlt : decide ((i : Int) < (as_.length : Int)) = false) : (CW Fp Γk (lkH w known rs0 0) false (sub K9 0) (cvS w known term as_ rs xs i) (.exit 0) { t:=mkT 36 0 [(1,ab as_),(8,.ref (.vec 2 0))],h:=lkH w known rs 1 ++ [.vec (cvV xs) 0 1],m:=[] }):=by
 exact zx [.st (.mask [1,8])] [.b false] (.c hlt .n)
def da (w : WorldT) (known term : Int) (l : List AttT) : List Int:=l.map fun a=>(ac w a.course term known).1.rep
def du (term : Int) (l : List AttT) : List ReadT:=l.flatMap fun a=>rdT 1 a.course 0 term
theorem kn (term : Int) : ∀ l : List AttT,(du term l).length ≤ l.length
 | []=>by simp [du]
 | a :: l=>by have:=kn term l; have:=rdT_len 1 a.course 0 term; simp only [du,List.flatMap_cons,List.length_append,List.length_cons] at *; omega
theorem E9 {f : AttT → Int} {l : List AttT} {i : Nat} {a : AttT} (hi : i < l.length) (ha : l[i]? = some a) : ((l.take i).map f ++ FX (l.length - i) 0).set i (f a) = (l.take (i + 1)).map f ++ FX (l.length - (i + 1)) 0:=by
 have e1 : l.length - i = (l.length - (i + 1)) + 1:=by omega
 rw [List.set_append_right _ _ (by simp; omega),I2,ha,e1,List.replicate_succ]
 have : i - ((l.take i).map f).length = 0:=by simp; omega
 rw [this]
 simp
theorem cv_cw {w : WorldT} (hw : w.ok) {known term : Int} {l : List AttT} (hl : l.length ≤ 90000000) {rs0 rs : List ReadT} (hb : rs.length ≤ 900000000) {V : List (List D)} (hV : V = cvV (FX l.length 0)) :
  CW Fp Γk (lkH w known rs0 0) false (.loop (sub K9 0)) { t:=mkT 36 0 [(0,.ref (.ptr 0 0)),(1,ab (l.map Ft)),(2,int term),(8,.ref (.vec 2 0)),(14,ab (l.map Ft)),(15,int (l.map Ft).length),(16,int 0)],h:=lkH w known rs 1 ++ [.vec V 0 1],m:=[] } (.exit 0) { t:=mkT 36 0 [(1,ab (l.map Ft)),(8,.ref (.vec 2 0))],h:=lkH w known (rs ++ du term l) 1 ++ [.vec (cvV (da w known term l)) 0 1],m:=[] }:=by
 subst hV
 have hs : ad l:=by unfold ad; omega
 have:=CW.loopN (P:=Fp) (Γ:=Γk) (h0:=lkH w known rs0 0) (rd:=false) (c:=sub K9 0) l.length
  (fun i=>cvS w known term (l.map Ft) (rs ++ du term (l.take i)) ((l.take i).map (fun a=>(ac w a.course term known).1.rep) ++ FX (l.length - i) 0) (i : Int)) (e:=.exit 0) (s':={ t:=mkT 36 0 [(1,ab (l.map Ft)),(8,.ref (.vec 2 0))],h:=lkH w known (rs ++ du term l) 1 ++ [.vec (cvV (da w known term l)) 0 1],m:=[] }) (by simp) ?_ ?_
 ·have e0 : rs ++ du term (l.take 0) = rs:=by simp [du]
  have e1 : (l.take 0).map (fun a=>(ac w a.course term known).1.rep) ++ FX (l.length - 0) 0 = FX l.length 0:=by simp
  simp only [e0,e1] at this
  exact this
 ·intro i hi
  have ha : l[i]? = some l[i]:=FK hi
  have key:=E7 hw (known:=known) (term:=term) (rs0:=rs0) (rs:=rs ++ du term (l.take i)) (xs:=(l.take i).map (fun a=>(ac w a.course term known).1.rep) ++ FX (l.length - i) 0) (i:=i) (by simp; omega) (rowAt ha rfl) (lt_len Ft hi) (wrap_succ hi hs) (by have:=kn term (l.take i); simp at *; omega)
  rw [E9 (f:=fun a=>(ac w a.course term known).1.rep) hi ha] at key
  have e2 : du term (l.take (i + 1)) = du term (l.take i) ++ rdT 1 l[i].course 0 term:=by
   unfold du; rw [I2,ha,Option.toList_some,List.flatMap_append,List.flatMap_singleton]
  rw [e2,← List.append_assoc]
  exact key
 ·have:=E8 (w:=w) (known:=known) (term:=term) (as_:=l.map Ft) (rs0:=rs0) (rs:=rs ++ du term l) (xs:=da w known term l) (i:=l.length) (aC Ft l)
  have e3 : l.map (fun a=>(ac w a.course term known).1.rep) ++ FX (l.length - l.length) 0 = da w known term l:=by simp [da]
  simp only [List.take_length,e3]
  exact this
theorem makeV (l : List AttT) : FX (FA ((l.map Ft).length : Int)) [int 0] = cvV (FX l.length 0):=by simp []
theorem y3 (f : Ref → D) (n : Nat) : (FX n [int 0]).map (GA f) = FX n [int 0]:=by rw [List.map_replicate]; rfl
theorem Fa (xs : List Int) : cvV xs = (xs.map fun n=>[vi n]).map (Fo Gj):=by simp []
noncomputable abbrev lU (w : WorldT) (known : Int) (term : Int) (l : List AttT) (rs : List ReadT) : List Blk:=[.var [.ref (.vec 1 1),ab (Fo FE w.c),ab w.p,ab (Fo FF w.s),ab (Fo FC w.f),int known],.vec (ai (rdR (rs ++ du term l))) 1 5]
theorem Bx {w : WorldT} (hw : w.ok) {known term : Int} {l : List AttT} (hl : l.length ≤ 90000000) {rs : List ReadT} (hb : rs.length ≤ 900000000) : (Ev Fp Γk 61 [.ref (.ptr 0 0),ab (l.map Ft),int term] (lkH w known rs 0) (.tup [ab ((lT l (da w known term l)).1.map Ft),int (lT l (da w known term l)).2]) (lkH w known (rs ++ du term l) 1)):=by
 have hl0:=(@cv_cw (w) (hw) (known) (term) (l) (hl) (rs) (rs) (hb) (FX (FA (↑(Fu (Fo Ft l)) : Int)) (Fo lit (Value.cells (Value.int Fs 0)).toList)) (by first | assumption | rfl | omega | exact makeV _ | exact y3 _ _ | exact Fa _ | exact bl _ _ | exact cT | (simp; omega)))
 let v0:=Fu (Fo Ft l)
 let v1 : List D:=[.ref (.vec 1 1),ab (Fo FE w.c),ab w.p,ab (Fo FF w.s),ab (Fo FC w.f),int known]
 let v2 : List D:=[ab (Fo Ft (lT l (da w known term l)).fst),int (lT l (da w known term l)).snd]
 let v3:=Fo lit (Value.cells (Value.int Fs 0)).toList
 refine FP (Gz (h':=(lU w known term l rs)) (d:=FM v2) pok [.nx 3,.st (.ren 1 1),.sum [0,1,2,8,14,15,16] (Gf 0) { t:=mkT 36 0 [(1,ab (Fo Ft l)),(8,.ref (.vec 2 0))],h:=[.var v1,.vec (ai (rdR (rs ++ du term l))) 1 5,.vec (cvV (da w known term l)) 0 1],m:=[] },.st (.mask [1,8]),.st (.frz 2 (Fo (fun n=>[vi n]) (da w known term l))),.st (.trimV 2),.val (FM v2)] (by kernel_rfl) (.c (show (decide (0 ≤ (↑v0 : Int)) && decide ((↑v0 : Int) ≤ (↑v0 : Int)) && decide ((↑v0 : Int) * (↑8 : Int) ≤ 281474976710656) && decide ((↑v0 : Int) ≤ 281474976710656)) = true from ?_) (.c (vM (rdR rs) 1 0 1) (.c (show Fo (GA (aM 1 0 1)) (FX (FA (↑v0 : Int)) v3) = FX (FA (↑v0 : Int)) v3 from ?_) (.c hl0 (.c (show cvV (da w known term l) = Fo (fun x=>Fo Gj x) (Fo (fun n=>[vi n]) (da w known term l)) from ?_) (.c (show Fo (GA (gf 2 0 (Fo (fun n=>[vi n]) (da w known term l)))) (ai (rdR (rs ++ du term l))) = ai (rdR (rs ++ du term l)) from ?_) (.c (show FL 2 (match 0 == 2 with | true=>.gone | false=>keepX (gf 2 0 (Fo (fun n=>[vi n]) (da w known term l))) (.var v1)) = true from rfl) (.c (show FL 2 (match 0 + 1 == 2 with | true=>.gone | false=>keepX (gf 2 0 (Fo (fun n=>[vi n]) (da w known term l))) (.vec (ai (rdR (rs ++ du term l))) 1 5)) = true from ?_) (.c (F1 (Γ':=Γk) (@cnt_ev l ?_ (da w known term l) (lU w known term l rs))) .n)))))))))) (by rfl) (by rfl) <;> subst v0 v1 v2 v3 <;> (first | rfl | omega | exact y3 _ _ | exact bl _ _ | exact cT | (simp; omega))
def iI (r : RecT) (term : Int) : Bool:=aL r != 0 || !(decide (term ≥ 0) && decide (term ≤ 1023))
def rcX (b : Bool) (e : Int) (L : List AttT) (rr : List ReadT) : List AttT × List ReadT × Int:=match b with
 | true=>([],[],150)
 | false=>match (e != 0) with
  | true=>([],[],e)
  | false=>(L,rr,0)
noncomputable abbrev iJ (w : WorldT) (r : RecT) (known : Int) (rr : List ReadT) : List Blk:=[.var [ab (Fo FE w.c),ab w.p,ab (Fo FF w.s),ab (Fo FC w.f)],.var [int r.st,ab (Fo Ft r.a)],.var [.ref (.vec 3 1),ab (Fo FE w.c),ab w.p,ab (Fo FF w.s),ab (Fo FC w.f),int known],.vec (ai (rdR rr)) 1 5]
noncomputable abbrev iK (w : WorldT) (r : RecT) (known : Int) : List Blk:=[.var [ab (Fo FE w.c),ab w.p,ab (Fo FF w.s),ab (Fo FC w.f)],.var [int r.st,ab (Fo Ft r.a)],.var [.ref (.vec 3 0),ab (Fo FE w.c),ab w.p,ab (Fo FF w.s),ab (Fo FC w.f),int known],.vec [] 0 5]
noncomputable abbrev eO (w : WorldT) (r : RecT) : List Blk:=[.var [ab (Fo FE w.c),ab w.p,ab (Fo FF w.s),ab (Fo FC w.f)],.var [int r.st,ab (Fo Ft r.a)]]
theorem rcnt_a {w : WorldT} {r : RecT} (hr : ad r.a) {term known e : Int} {rr : List ReadT} {L : List AttT} (hc : Ev Fp Γk 61 [.ref (.ptr 0 0),ab (r.a.map Ft),int term] (lkH w known [] 0) (.tup [ab (L.map Ft),int e]) (lkH w known rr 1)) (h : List Blk) : (Ev Fp Γk 53 [.agg w.l,.agg r.l,int term,int known] h (.tup [ab ((rcX (iI r term) e L rr).1.map Ft),ab (rdR (rcX (iI r term) e L rr).2.1),int (rcX (iI r term) e L rr).2.2]) h):=by
 cases hc0 : aL r != 0 || !(decide (term ≥ 0) && decide (term ≤ 1023))
 ·cases hc1 : e != 0
  ·refine FP (GK (z0 (d:=FM [ab (Fo Ft L),ab (rdR rr),int 0]) [.val (int (aL r)),.val (bool (decide (term ≥ 0) && decide (term ≤ 1023))),.b false,.nx 1,.st (.nilC 2 0 5),.call (FM [ab (Fo Ft L),int e]) (iJ w r known rr),.st (.frz 3 (rdR rr)),.b false] (.c (F1 (Γ':=Γk) (@jy r hr (eO w r))) (.c (gd (!aL r != 0) (F1 (Γ':=Γk) (@bc term 0 1023 (eO w r)))) (.c hc0 (.c (show Ev Fp Γk 61 [.ref (.ptr 2 0),ab (Fo Ft r.a),int term] (iK w r known) (FM [ab (Fo Ft L),int e]) (iJ w r known rr) from (FP (GY (args:=[.ref (.ptr 2 0),ab (Fo Ft r.a),int term]) (H:=(iK w r known)) [2,3] (@hc) (by kernel_rfl) (by kernel_rfl) (by kernel_rfl) ⟨?_,trivial⟩ ⟨?_,trivial⟩) (by kernel_rfl) (by kernel_rfl))) (.c (show ai (rdR rr) = Fo (fun x=>Fo Gj x) (rdR rr) from (by rfl)) (.c hc1 .n)))))) h)) (by (have hh : iI r term = false:=hc0; have h2 : (e != 0) = false:=hc1; simp only [rcX,hh,h2]; rfl)) (by rfl) <;> (first | rfl | exact am _ _)
  ·refine FP (GK (z0 (d:=FM [nq,nq,int e]) [.val (int (aL r)),.val (bool (decide (term ≥ 0) && decide (term ≤ 1023))),.b false,.nx 1,.st (.nilC 2 0 5),.call (FM [ab (Fo Ft L),int e]) (iJ w r known rr),.st (.frz 3 (rdR rr)),.b true] (.c (F1 (Γ':=Γk) (@jy r hr (eO w r))) (.c (gd (!aL r != 0) (F1 (Γ':=Γk) (@bc term 0 1023 (eO w r)))) (.c hc0 (.c (show Ev Fp Γk 61 [.ref (.ptr 2 0),ab (Fo Ft r.a),int term] (iK w r known) (FM [ab (Fo Ft L),int e]) (iJ w r known rr) from (FP (GY (args:=[.ref (.ptr 2 0),ab (Fo Ft r.a),int term]) (H:=(iK w r known)) [2,3] (@hc) (by kernel_rfl) (by kernel_rfl) (by kernel_rfl) ⟨?_,trivial⟩ ⟨?_,trivial⟩) (by kernel_rfl) (by kernel_rfl))) (.c (show ai (rdR rr) = Fo (fun x=>Fo Gj x) (rdR rr) from (by rfl)) (.c hc1 .n)))))) h)) (by (have hh : iI r term = false:=hc0; have h2 : (e != 0) = true:=hc1; simp only [rcX,hh,h2]; rfl)) (by rfl) <;> (first | rfl | exact am _ _)
 ·exact FP (GK (z0 (d:=FM [nq,nq,int 150]) [.val (int (aL r)),.val (bool (decide (term ≥ 0) && decide (term ≤ 1023))),.b true] (.c (F1 (Γ':=Γk) (@jy r hr (eO w r))) (.c (gd (!aL r != 0) (F1 (Γ':=Γk) (@bc term 0 1023 (eO w r)))) (.c hc0 .n))) h)) (by (have hh : iI r term = true:=hc0; simp only [rcX,hh]; rfl)) (by rfl)
def cv (w : WorldT) (r : RecT) (term known : Int) : List AttT × List ReadT × Int :=
 rcX (iI r term) (lT r.a (da w known term r.a)).2 (lT r.a (da w known term r.a)).1 (du term r.a)
theorem Fb {w : WorldT} (hw : w.ok) {r : RecT} (hr : r.a.length ≤ 90000000) {term known : Int} (h : List Blk) : Ev Fp Γk 53 [.agg w.l,.agg r.l,int term,int known] h (.tup [ab ((cv w r term known).1.map Ft),ab (rdR (cv w r term known).2.1),int (cv w r term known).2.2]) h :=
 rcnt_a (by unfold ad; omega) (by have:=Bx hw (known:=known) (term:=term) (l:=r.a) hr (rs:=[]) (by simp); simpa using this) h
def nwN (n d : Int) : Int:=G3.wrap (Hj (n.natAbs : Int) (Gr d.natAbs n.natAbs : Int))
def nwD (n d : Int) : Int:=G3.wrap (Hj (d.natAbs : Int) (Gr d.natAbs n.natAbs : Int))
def s6 (n d : Int) : Bool:=decide (nwN n d > 1073741824) || decide (nwD n d > 1073741824)
def nwSg (n d : Int) : Bool:=!(decide (n < 0) == decide (d < 0))
def gS (n d : Int) : Int × Int × Int:=match d == 0 with
 | true=>(0,0,1)
 | false=>match s6 n d with
  | true=>(0,0,2)
  | false=>match nwSg n d with
   | true=>(Fs.wrap (0 - Fs.wrap (nwN n d)),Fs.wrap (nwD n d),0)
   | false=>(Fs.wrap (nwN n d),Fs.wrap (nwD n d),0)
theorem nw_ne {n d : Int} (h : (d == 0) = false) : ((Gr d.natAbs n.natAbs : Nat) : Int) ≠ 0:=by
 have : d ≠ 0:=by simpa using h
 intro h0
 have : Gr d.natAbs n.natAbs = 0:=by exact_mod_cast h0
 have:=Nat.eq_zero_of_gcd_eq_zero_left this
 omega
theorem Fc {n d : Int} (hn : I64 n) (hd : I64 d) (h : List Blk) : (Ev Fp Γ0 109 [int n,int d] h (.tup [.agg [int (gS n d).1,int (gS n d).2.1],int (gS n d).2.2]) h):=by
 cases hc0 : d == 0
 ·cases hc1 : decide (Fz G3 (Hj (↑(FJ n) : Int) (↑(Gr (FJ d) (FJ n)) : Int)) > 1073741824) || decide (Fz G3 (Hj (↑(FJ d) : Int) (↑(Gr (FJ d) (FJ n)) : Int)) > 1073741824)
  ·cases hc2 : !decide (n < 0) == decide (d < 0)
   ·refine zD (FM [FU [int (Fz Fs (Fz G3 (Hj (↑(FJ n) : Int) (↑(Gr (FJ d) (FJ n)) : Int)))),int (Fz Fs (Fz G3 (Hj (↑(FJ d) : Int) (↑(Gr (FJ d) (FJ n)) : Int))))],int 0]) [.b false,.val (u64 (↑(Gr (FJ d) (FJ n)) : Int)),.val (u64 (↑(FJ n) : Int)),.val (u64 (↑(FJ d) : Int)),.b false,.b false] (.c hc0 (.c (@iu n d hn hd ([.var [int 0,int 0]])) (.c (@fO n hn ([.var [int 0,int 0]])) (.c (show (!decide ((↑(Gr (FJ d) (FJ n)) : Int) = 0)) = true from ?_) (.c (@fO d hd ([.var [int 0,int 0]])) (.c (show (!decide ((↑(Gr (FJ d) (FJ n)) : Int) = 0)) = true from ?_) (.c hc1 (.c hc2 .n)))))))) h (by (have z0 : (d == 0) = false:=hc0; have z1 : s6 n d = false:=hc1; have z2 : nwSg n d = false:=hc2; simp only [gS,z0,z1,z2]; first | done | rfl)) <;> (simp_all; done)
   ·refine zD (FM [FU [int (Fz Fs (0 - Fz Fs (Fz G3 (Hj (↑(FJ n) : Int) (↑(Gr (FJ d) (FJ n)) : Int))))),int (Fz Fs (Fz G3 (Hj (↑(FJ d) : Int) (↑(Gr (FJ d) (FJ n)) : Int))))],int 0]) [.b false,.val (u64 (↑(Gr (FJ d) (FJ n)) : Int)),.val (u64 (↑(FJ n) : Int)),.val (u64 (↑(FJ d) : Int)),.b false,.b true] (.c hc0 (.c (@iu n d hn hd ([.var [int 0,int 0]])) (.c (@fO n hn ([.var [int 0,int 0]])) (.c (show (!decide ((↑(Gr (FJ d) (FJ n)) : Int) = 0)) = true from ?_) (.c (@fO d hd ([.var [int 0,int 0]])) (.c (show (!decide ((↑(Gr (FJ d) (FJ n)) : Int) = 0)) = true from ?_) (.c hc1 (.c hc2 .n)))))))) h (by (have z0 : (d == 0) = false:=hc0; have z1 : s6 n d = false:=hc1; have z2 : nwSg n d = true:=hc2; simp only [gS,z0,z1,z2]; first | done | rfl)) <;> (simp_all; done)
  ·refine zD (FM [FU [int 0,int 0],int 2]) [.b false,.val (u64 (↑(Gr (FJ d) (FJ n)) : Int)),.val (u64 (↑(FJ n) : Int)),.val (u64 (↑(FJ d) : Int)),.b true] (.c hc0 (.c (@iu n d hn hd ([.var [int 0,int 0]])) (.c (@fO n hn ([.var [int 0,int 0]])) (.c (show (!decide ((↑(Gr (FJ d) (FJ n)) : Int) = 0)) = true from ?_) (.c (@fO d hd ([.var [int 0,int 0]])) (.c (show (!decide ((↑(Gr (FJ d) (FJ n)) : Int) = 0)) = true from ?_) (.c hc1 .n))))))) h (by (have z0 : (d == 0) = false:=hc0; have z1 : s6 n d = true:=hc1; simp only [gS,z0,z1]; first | done | rfl)) <;> (simp_all; done)
 ·exact zD (FM [FU [int 0,int 0],int 1]) [.b true] (.c hc0 .n) h (by (have z0 : (d == 0) = true:=hc0; simp only [gS,z0]; first | done | rfl))
abbrev suT : List D:=mkT 26 0 [(2,.ref (.ptr 0 0)),(3,.ref (.ptr 1 0)),(13,.fn (.func 158) [] [.ref (.ptr 2 0)])]
noncomputable abbrev suL (st : LoopState) : Blk:=.loop st none 0 suT #[14,15] (ax (sub Hs 0)) (al (sub Hs 0))
noncomputable abbrev suH (c p : Int) (l : List (List Dp)) (st : LoopState) (more : List Blk) : List Blk:=[.var [int c],.var [int p],.var [ab l],.defd,suL st] ++ more
abbrev suU (g c : Int) : List D:=mkT 26 0 [(2,.ref (.ptr 0 0)),(3,.ref (.ptr 1 0)),(5,int g),(6,int c)]
def suF (s : Int × Int) (a : AttT) : Int × Int:=(Fs.wrap (s.1 + a.credits),Fs.wrap (s.2 + Fs.wrap (a.grade * a.credits)))
theorem su_asg {c p g x : Int} {l : List (List Dp)} {r : List D} : (CW Fp Γ0 (suH c p l .ready [.var r]) true (ax (sub Hs 0)) { t:=eD suT [(14,int g),(15,int x)],h:=suH c p l .ready [.var r],m:=[] } .normal { t:=suU g x,h:=suH c p l .ready [.var r],m:=[] }):=by
 exact zx [.st (.mask [2,3,5,6])] [] .n
theorem Fd {c p g x : Int} {l : List (List Dp)} {r : List D} : (CW Fp Γ0 (suH c p l .ready [.var r]) true (al (sub Hs 0)) { t:=suU g x,h:=suH c p l .busy [.var r],m:=[] } .normal { t:=mkT 26 0 [],h:=suH (Fs.wrap (c + x)) (Fs.wrap (p + Fs.wrap (g * x))) l .busy [.var r],m:=[] }):=by
 exact zx [.st (.mask [])] [] .n
theorem Fe {c p g x : Int} {l : List (List Dp)} {r : List D} : Iv Fp Γ0 (.ref (.yl 4)) [int g,int x] (suH c p l .ready [.var r]) (bool true) (suH (Fs.wrap (c + x)) (Fs.wrap (p + Fs.wrap (g * x))) l .ready [.var r]) :=
 Iv.round (h1:=suH c p l .ready [.var r]) rfl rfl su_asg rfl Fd rfl
abbrev swT (fs : List (List Dp)) (i : Int) : List D:=mkT 19 0 [(0,.ref (.yl 4)),(5,ab fs),(6,int fs.length),(7,int i)]
theorem Ff {c p c0 p0 : Int} {l : List (List Dp)} {a : AttT} {i : Nat} (hr : ah (i : Int) l a.row 5) (hlt : decide ((i : Int) < (l.length : Int)) = true) (hw : Fs.wrap ((i : Int) + 1) = ((i + 1 : Nat) : Int)) : (CW Fp Γ0 (suH c0 p0 l .ready []) false (sub Io 0) { t:=swT l i,h:=suH c p l .ready [],m:=[] } .normal { t:=swT l ((i + 1 : Nat) : Int),h:=suH (suF (c,p) a).1 (suF (c,p) a).2 l .ready [],m:=[] }):=by
 let v0 : List D:=[int (Fz Fs (p + Fz Fs (a.grade * a.credits)))]
 let v1 : List D:=[int a.course,int a.term,int a.grade,int a.campus,int a.credits]
 refine zX { t:=mkT 19 0 [(0,.ref (.yl 4)),(5,ab l),(6,int (↑(Fu l) : Int)),(7,int (Fz Fs ((↑i : Int) + 1)))],h:=[.var [int (Fz Fs (c + a.credits))],.var v0,.var [ab l],.defd,.loop F9 none 0 (mkT 26 0 [(2,.ref (.ptr 0 0)),(3,.ref (.ptr 1 0)),(13,GX (F4 158) [] [.ref (.ptr 2 0)])]) { toList:=[14,15] } (ax (sub Hs 0)) (al (sub Hs 0))],m:=[] } FH [.st (.mask [0,5,6,7]),.st (.trim 5)] [.b true,.row (Ft a),.inv (bool true) [.var [int (Fz Fs (c + a.credits))],.var v0,.var [ab l],.defd,.loop F9 none 0 (mkT 26 0 [(2,.ref (.ptr 0 0)),(3,.ref (.ptr 1 0)),(13,GX (F4 158) [] [.ref (.ptr 2 0)])]) { toList:=[14,15] } (ax (sub Hs 0)) (al (sub Hs 0)),.var v1],.b false] (.c hlt (.c hr (.c (@Fe c p (a.grade) (a.credits) l (v1)) (.c (show (!true) = false from rfl) .n)))) ?_ ?_ <;> subst v0 v1 <;> (first | rfl | (simp only [hw]; rfl))
theorem Fg {c p c0 p0 : Int} {l : List (List Dp)} {i : Nat} (hlt : decide ((i : Int) < (l.length : Int)) = false) : (CW Fp Γ0 (suH c0 p0 l .ready []) false (sub Io 0) { t:=swT l i,h:=suH c p l .ready [],m:=[] } (.exit 0) { t:=mkT 19 0 [],h:=suH c p l .ready [],m:=[] }):=by
 exact zx [.st (.mask [])] [.b false] (.c hlt .n)
theorem sw_cw {c0 p0 : Int} {l : List AttT} (hl : ad l) :
  CW Fp Γ0 (suH c0 p0 (l.map Ft) .ready []) false (.loop (sub Io 0)) { t:=swT (l.map Ft) 0,h:=suH c0 p0 (l.map Ft) .ready [],m:=[] } (.exit 0)
   { t:=mkT 19 0 [],h:=suH (l.foldl suF (c0,p0)).1 (l.foldl suF (c0,p0)).2 (l.map Ft) .ready [],m:=[] }:=by
 have:=Ha (P:=Fp) (Γ:=Γ0) (h0:=suH c0 p0 (l.map Ft) .ready []) (rd:=false) (c:=sub Io 0) (σ:=Int × Int) (ρ:=Empty) l (fun f s=>.inl (suF s f))
  (fun i s=>{ t:=swT (l.map Ft) (i : Int),h:=suH s.1 s.2 (l.map Ft) .ready [],m:=[] }) (.exit 0) (fun s=>{ t:=mkT 19 0 [],h:=suH s.1 s.2 (l.map Ft) .ready [],m:=[] }) (fun r=>r.elim)
  (fun _ _=>True) (by simp) (fun r=>r.elim) ?_ ?_ (c0,p0) trivial
 ·rw [aK] at this
  exact this
 ·intro i f s hf _
  have hi:=(Fy.1 hf).1
  exact ⟨fun _ _=>trivial,Ff (rowAt hf rfl) (lt_len _ hi) (wrap_succ hi hl)⟩
 ·intro s _
  exact Fg (aC _ l)
theorem y4 {c0 p0 : Int} {l : List AttT} (hl : ad l) : (Ev Fp Γ0 158 [.ref (.yl 4),.ref (.ptr 2 0)] (suH c0 p0 (l.map Ft) .ready []) (.tup []) (suH (l.foldl suF (c0,p0)).1 (l.foldl suF (c0,p0)).2 (l.map Ft) .ready [])):=by
 have hl0:=(@sw_cw (c0) (p0) (l) (hl))
 let v0 : List Blk:=[.var [int (Gx suF (c0,p0) l).fst],.var [int (Gx suF (c0,p0) l).snd],.var [ab (Fo Ft l)],.defd,.loop F9 none 0 (mkT 26 0 [(2,.ref (.ptr 0 0)),(3,.ref (.ptr 1 0)),(13,GX (F4 158) [] [.ref (.ptr 2 0)])]) { toList:=[14,15] } (ax (sub Hs 0)) (al (sub Hs 0))]
 exact FP (Gz (h':=v0) (d:=FM []) pok [.sum [0,5,6,7] (Gf 0) { t:=mkT 19 0 [],h:=v0,m:=[] }] (by kernel_rfl) (.c hl0 .n)) (by rfl) (by rfl)
theorem Bz {c0 p0 : Int} {l : List AttT} (hl : ad l) : CW Fp Γ0 [] false (sub Hs 0) { t:=suT,h:=[.var [int c0],.var [int p0],.var [ab (l.map Ft)]],m:=[] } .normal
  { t:=suT,h:=suH (l.foldl suF (c0,p0)).1 (l.foldl suF (c0,p0)).2 (l.map Ft) .exhausted [],m:=[3] }:=by
 exact CW.rangeFunc (f:=158) (fi:=[]) (ca:=[.ref (.ptr 2 0)]) pok (s:={ t:=suT,h:=[.var [int c0],.var [int p0],.var [ab (l.map Ft)]],m:=[] }) (g:=.tmp 13) (ps:=#[14,15]) (asg:=ax (sub Hs 0)) (body:=al (sub Hs 0)) rfl (by kernel_rfl) (y4 hl) rfl
def gq (l : List AttT) : Int × Int × Int:=match bP l != 0 with
 | true=>(0,0,bP l)
 | false=>((l.foldl suF (0,0)).1,(l.foldl suF (0,0)).2,0)
theorem Fh {l : List AttT} (hl : ad l) (h : List Blk) : (Ev Fp Γ0 108 [ab (l.map Ft)] h (.tup [int (gq l).1,int (gq l).2.1,int (gq l).2.2]) h):=by
 cases hc0 : bP l != 0
 ·have hl1:=(@Bz (0) (0) (l) (hl))
  exact zD (FM [int (Gx suF (0,0) l).fst,int (Gx suF (0,0) l).snd,int 0]) [.val (int (bP l)),.b false,.inl,.sum [2,3,13] (FH) { t:=mkT 26 0 [(2,.ref (.ptr 0 0)),(3,.ref (.ptr 1 0)),(13,GX (F4 158) [] [.ref (.ptr 2 0)])],h:=[.var [int (Gx suF (0,0) l).fst],.var [int (Gx suF (0,0) l).snd],.var [ab (Fo Ft l)],.defd,.loop Gq none 0 (mkT 26 0 [(2,.ref (.ptr 0 0)),(3,.ref (.ptr 1 0)),(13,GX (F4 158) [] [.ref (.ptr 2 0)])]) { toList:=[14,15] } (ax (sub Hs 0)) (al (sub Hs 0))],m:=[3] }] (.c (@c7 l hl ([.var [int 0],.var [int 0]])) (.c hc0 (.c hl1 (.e (int (Gx suF (0,0) l).fst) (.e (int (Gx suF (0,0) l).snd) (.e (int (Gx suF (0,0) l).snd) .n)))))) h (by simp only [gq,hc0]; done)
 ·exact zD (FM [int 0,int 0,int (bP l)]) [.val (int (bP l)),.b true] (.c (@c7 l hl ([.var [int 0],.var [int 0]])) (.c hc0 .n)) h (by simp only [gq,hc0]; done)
theorem kp (x : Int) : I64 (Fs.wrap x):=by
 unfold I64
 rw [IntKind.wrap_i64]
 omega
theorem Fi (s : Int × Int) (a : AttT) : I64 (suF s a).1 ∧ I64 (suF s a).2:=⟨kp _,kp _⟩
theorem nD : ∀ (l : List AttT) (s : Int × Int),I64 s.1 ∧ I64 s.2 → I64 (l.foldl suF s).1 ∧ I64 (l.foldl suF s).2
 | [],_,h=>h
 | a :: l,s,_=>nD l (suF s a) (Fi s a)
theorem fY : I64 0:=by unfold I64; omega
theorem iL (l : List AttT) : I64 (gq l).1 ∧ I64 (gq l).2.1:=by
 unfold gq
 cases bP l != 0
 ·exact nD l (0,0) ⟨fY,fY⟩
 ·exact ⟨fY,fY⟩
def iM (c p e : Int) : Int × Int × Int:=match e != 0 with
 | true=>(0,0,e)
 | false=>match c == 0 with
  | true=>(0,1,0)
  | false=>gS p c
def fZ (l : List AttT) : Int × Int × Int:=iM (gq l).1 (gq l).2.1 (gq l).2.2
theorem mean_a {l : List AttT} {c p e : Int} (hc : I64 c) (hp : I64 p) (hs : ∀ h,Ev Fp Γ0 108 [ab (l.map Ft)] h (.tup [int c,int p,int e]) h) (h : List Blk) : (Ev Fp Γ0 55 [ab (l.map Ft)] h (.tup [.agg [int (iM c p e).1,int (iM c p e).2.1],int (iM c p e).2.2]) h):=by
 cases hc0 : e != 0
 ·cases hc1 : c == 0
  ·exact zD (FM [FU [int (gS p c).fst,int (gS p c).snd.fst],int (gS p c).snd.snd]) [.val (FM [int c,int p,int e]),.b false,.b false,.val (FM [FU [int (gS p c).fst,int (gS p c).snd.fst],int (gS p c).snd.snd])] (.c (@hs ([.var [int 0,int 0]])) (.c hc0 (.c hc1 (.c (@Fc p c hp hc ([.var [int 0,int 0]])) .n)))) h (by simp only [iM,hc0,hc1]; done)
  ·exact zD (FM [FU [int 0,int 1],int 0]) [.val (FM [int c,int p,int e]),.b false,.b true] (.c (@hs ([.var [int 0,int 0]])) (.c hc0 (.c hc1 .n))) h (by simp only [iM,hc0,hc1]; done)
 ·exact zD (FM [FU [int 0,int 0],int e]) [.val (FM [int c,int p,int e]),.b true] (.c (@hs ([.var [int 0,int 0]])) (.c hc0 .n)) h (by simp only [iM,hc0]; done)
theorem y5 {l : List AttT} (hl : ad l) (h : List Blk) : Ev Fp Γ0 55 [ab (l.map Ft)] h (.tup [.agg [int (fZ l).1,int (fZ l).2.1],int (fZ l).2.2]) h :=
 mean_a (iL l).1 (iL l).2 (fun h=>Fh hl h) h
theorem BA (n d : Int) : I64 (gS n d).1 ∧ I64 (gS n d).2.1:=by
 unfold gS
 split
 ·exact ⟨fY,fY⟩
 ·split
  ·exact ⟨fY,fY⟩
  ·split <;> exact ⟨kp _,kp _⟩
theorem lV (l : List AttT) : I64 (fZ l).1 ∧ I64 (fZ l).2.1:=by
 unfold fZ iM
 split
 ·exact ⟨fY,fY⟩
 ·split
  ·exact ⟨fY,by unfold I64; simp⟩
  ·exact BA _ _
abbrev eaT : List D:=mkT 21 0 [(2,.ref (.ptr 0 0)),(12,.fn (.func 158) [] [.ref (.ptr 1 0)])]
noncomputable abbrev eaL (st : LoopState) : Blk:=.loop st none 0 eaT #[13,14] (ax (sub Hm 0)) (al (sub Hm 0))
noncomputable abbrev eaH (c : Int) (l : List (List Dp)) (st : LoopState) (more : List Blk) : List Blk:=[.var [int c],.var [ab l],.defd,eaL st] ++ more
abbrev eaU (g c : Int) : List D:=mkT 21 0 [(2,.ref (.ptr 0 0)),(4,int g),(5,int c)]
def eaG (c g x : Int) : Int:=match decide (g > 0) with | true=>Fs.wrap (c + x) | false=>c
def eaF (c : Int) (a : AttT) : Int:=eaG c a.grade a.credits
theorem ea_asg {c g x : Int} {l : List (List Dp)} {r : List D} : (CW Fp Γ0 (eaH c l .ready [.var r]) true (ax (sub Hm 0)) { t:=eD eaT [(13,int g),(14,int x)],h:=eaH c l .ready [.var r],m:=[] } .normal { t:=eaU g x,h:=eaH c l .ready [.var r],m:=[] }):=by
 exact zx [.st (.mask [2,4,5])] [] .n
theorem Fj {c g x : Int} {l : List (List Dp)} {r : List D} : (CW Fp Γ0 (eaH c l .ready [.var r]) true (al (sub Hm 0)) { t:=eaU g x,h:=eaH c l .busy [.var r],m:=[] } .normal { t:=mkT 21 0 [],h:=eaH (eaG c g x) l .busy [.var r],m:=[] }):=by
 cases hc0 : decide (g > 0)
 ·refine zX { t:=mkT 21 0 [],h:=[.var [int c],.var [ab l],.defd,.loop Hi none 0 (mkT 21 0 [(2,.ref (.ptr 0 0)),(12,GX (F4 158) [] [.ref (.ptr 1 0)])]) { toList:=[13,14] } (ax (sub Hm 0)) (al (sub Hm 0)),.var r],m:=[] } FH [.st (.mask [])] [.b false] (.c hc0 .n) ?_ ?_ <;> (simp only [eaG,hc0]; first | done | rfl)
 ·refine zX { t:=mkT 21 0 [],h:=[.var [int (Fz Fs (c + x))],.var [ab l],.defd,.loop Hi none 0 (mkT 21 0 [(2,.ref (.ptr 0 0)),(12,GX (F4 158) [] [.ref (.ptr 1 0)])]) { toList:=[13,14] } (ax (sub Hm 0)) (al (sub Hm 0)),.var r],m:=[] } FH [.st (.mask [])] [.b true] (.c hc0 .n) ?_ ?_ <;> (simp only [eaG,hc0]; first | done | rfl)
theorem Fk {c g x : Int} {l : List (List Dp)} {r : List D} : Iv Fp Γ0 (.ref (.yl 3)) [int g,int x] (eaH c l .ready [.var r]) (bool true) (eaH (eaG c g x) l .ready [.var r]) :=
 Iv.round (h1:=eaH c l .ready [.var r]) rfl rfl ea_asg rfl Fj rfl
abbrev ewT (fs : List (List Dp)) (i : Int) : List D:=mkT 19 0 [(0,.ref (.yl 3)),(5,ab fs),(6,int fs.length),(7,int i)]
theorem Fl {c c0 : Int} {l : List (List Dp)} {a : AttT} {i : Nat} (hr : ah (i : Int) l a.row 5) (hlt : decide ((i : Int) < (l.length : Int)) = true) (hw : Fs.wrap ((i : Int) + 1) = ((i + 1 : Nat) : Int)) : (CW Fp Γ0 (eaH c0 l .ready []) false (sub Io 0) { t:=ewT l i,h:=eaH c l .ready [],m:=[] } .normal { t:=ewT l ((i + 1 : Nat) : Int),h:=eaH (eaF c a) l .ready [],m:=[] }):=by
 let v0 : List D:=[int a.course,int a.term,int a.grade,int a.campus,int a.credits]
 refine zX { t:=mkT 19 0 [(0,.ref (.yl 3)),(5,ab l),(6,int (↑(Fu l) : Int)),(7,int (Fz Fs ((↑i : Int) + 1)))],h:=[.var [int (eaG c a.grade a.credits)],.var [ab l],.defd,.loop F9 none 0 (mkT 21 0 [(2,.ref (.ptr 0 0)),(12,GX (F4 158) [] [.ref (.ptr 1 0)])]) { toList:=[13,14] } (ax (sub Hm 0)) (al (sub Hm 0))],m:=[] } FH [.st (.mask [0,5,6,7]),.st (.trim 4)] [.b true,.row (Ft a),.inv (bool true) [.var [int (eaG c a.grade a.credits)],.var [ab l],.defd,.loop F9 none 0 (mkT 21 0 [(2,.ref (.ptr 0 0)),(12,GX (F4 158) [] [.ref (.ptr 1 0)])]) { toList:=[13,14] } (ax (sub Hm 0)) (al (sub Hm 0)),.var v0],.b false] (.c hlt (.c hr (.c (@Fk c (a.grade) (a.credits) l (v0)) (.c (show (!true) = false from rfl) .n)))) ?_ ?_ <;> subst v0 <;> (first | rfl | (simp only [hw]; rfl))
theorem Fm {c c0 : Int} {l : List (List Dp)} {i : Nat} (hlt : decide ((i : Int) < (l.length : Int)) = false) : (CW Fp Γ0 (eaH c0 l .ready []) false (sub Io 0) { t:=ewT l i,h:=eaH c l .ready [],m:=[] } (.exit 0) { t:=mkT 19 0 [],h:=eaH c l .ready [],m:=[] }):=by
 exact zx [.st (.mask [])] [.b false] (.c hlt .n)
theorem ew_cw {c0 : Int} {l : List AttT} (hl : ad l) :
  CW Fp Γ0 (eaH c0 (l.map Ft) .ready []) false (.loop (sub Io 0)) { t:=ewT (l.map Ft) 0,h:=eaH c0 (l.map Ft) .ready [],m:=[] } (.exit 0)
   { t:=mkT 19 0 [],h:=eaH (l.foldl eaF c0) (l.map Ft) .ready [],m:=[] }:=by
 have:=Ha (P:=Fp) (Γ:=Γ0) (h0:=eaH c0 (l.map Ft) .ready []) (rd:=false) (c:=sub Io 0) (σ:=Int) (ρ:=Empty) l (fun f s=>.inl (eaF s f))
  (fun i s=>{ t:=ewT (l.map Ft) (i : Int),h:=eaH s (l.map Ft) .ready [],m:=[] }) (.exit 0) (fun s=>{ t:=mkT 19 0 [],h:=eaH s (l.map Ft) .ready [],m:=[] }) (fun r=>r.elim)
  (fun _ _=>True) (by simp) (fun r=>r.elim) ?_ ?_ c0 trivial
 ·rw [aK] at this
  exact this
 ·intro i f s hf _
  have hi:=(Fy.1 hf).1
  exact ⟨fun _ _=>trivial,Fl (rowAt hf rfl) (lt_len _ hi) (wrap_succ hi hl)⟩
 ·intro s _
  exact Fm (aC _ l)
theorem y6 {c0 : Int} {l : List AttT} (hl : ad l) : (Ev Fp Γ0 158 [.ref (.yl 3),.ref (.ptr 1 0)] (eaH c0 (l.map Ft) .ready []) (.tup []) (eaH (l.foldl eaF c0) (l.map Ft) .ready [])):=by
 have hl0:=(@ew_cw (c0) (l) (hl))
 let v0 : List Blk:=[.var [int (Gx eaF c0 l)],.var [ab (Fo Ft l)],.defd,.loop F9 none 0 (mkT 21 0 [(2,.ref (.ptr 0 0)),(12,GX (F4 158) [] [.ref (.ptr 1 0)])]) { toList:=[13,14] } (ax (sub Hm 0)) (al (sub Hm 0))]
 exact FP (Gz (h':=v0) (d:=FM []) pok [.sum [0,5,6,7] (Gf 0) { t:=mkT 19 0 [],h:=v0,m:=[] }] (by kernel_rfl) (.c hl0 .n)) (by rfl) (by rfl)
theorem BB {c0 : Int} {l : List AttT} (hl : ad l) : CW Fp Γ0 [] false (sub Hm 0) { t:=eaT,h:=[.var [int c0],.var [ab (l.map Ft)]],m:=[] } .normal
  { t:=eaT,h:=eaH (l.foldl eaF c0) (l.map Ft) .exhausted [],m:=[2] }:=by
 exact CW.rangeFunc (f:=158) (fi:=[]) (ca:=[.ref (.ptr 1 0)]) pok (s:={ t:=eaT,h:=[.var [int c0],.var [ab (l.map Ft)]],m:=[] }) (g:=.tmp 12) (ps:=#[13,14]) (asg:=ax (sub Hm 0)) (body:=al (sub Hm 0)) rfl (by kernel_rfl) (y6 hl) rfl
def gM (l : List AttT) : Int × Int:=match bP l != 0 with
 | true=>(0,bP l)
 | false=>(l.foldl eaF 0,0)
theorem y7 {l : List AttT} (hl : ad l) (h : List Blk) : (Ev Fp Γ0 54 [ab (l.map Ft)] h (.tup [int (gM l).1,int (gM l).2]) h):=by
 cases hc0 : bP l != 0
 ·have hl1:=(@BB (0) (l) (hl))
  exact zD (FM [int (Gx eaF 0 l),int 0]) [.val (int (bP l)),.b false,.inl,.sum [2,12] (FH) { t:=mkT 21 0 [(2,.ref (.ptr 0 0)),(12,GX (F4 158) [] [.ref (.ptr 1 0)])],h:=[.var [int (Gx eaF 0 l)],.var [ab (Fo Ft l)],.defd,.loop Gq none 0 (mkT 21 0 [(2,.ref (.ptr 0 0)),(12,GX (F4 158) [] [.ref (.ptr 1 0)])]) { toList:=[13,14] } (ax (sub Hm 0)) (al (sub Hm 0))],m:=[2] }] (.c (@c7 l hl ([.var [int 0]])) (.c hc0 (.c hl1 .n))) h (by simp only [gM,hc0]; done)
 ·exact zD (FM [int 0,int (bP l)]) [.val (int (bP l)),.b true] (.c (@c7 l hl ([.var [int 0]])) (.c hc0 .n)) h (by simp only [gM,hc0]; done)
end Go.Vi
