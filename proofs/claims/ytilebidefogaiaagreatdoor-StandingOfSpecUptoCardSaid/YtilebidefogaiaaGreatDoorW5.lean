/- StandingOfSpecUpto: part of the proof: contracts of the functions that the law reaches, and the law. No conditions beyond the given statement's own. -/
import Derived.Test.YtilebidefogaiaaGreatDoorW4
import Derived.Ground.SlsfProg
open Go.Proofs.Tryz renaming prog → Fp, f60 → Ix, f30 → J8, f145 → Jq
open List renaming mem_map → FY, map → Fo, all → FN, length → Fu, map_append → HO, getElem?_eq_some_iff → Fy, foldl_cons → GP, length_cons → GF, length_nil → Hf, foldl → Gx, length_append → GQ, mergeSort → KQ, filterMap_cons → Lt, mem_cons → Gd, getD → FG, getElem?_eq_getElem → FK, any → HP
open Go.Vi.CourseT renaming row → FE
open Go.Vi.SysT renaming row → FF
open Go.Vi.FactT renaming row → FC
open Go.Vi.Ev renaming castH → FP, of_sym → Gz, glob0 → F1, post → J1, frameX → GY
open Go.Vi.D renaming tup → FM, agg → FU
open Bool renaming and_eq_true → FB, not_true → IE, not_false → HF
open Go.Value renaming oneCell' → HU
open Go.IntKind renaming i64 → Fs, wrap → Fz
open Go.Vi.Blk renaming inn → FL
open Go.Vi.WorldT renaming l → Gm
open Go.Vi.RuleT renaming fl → Fv
open Go.Vi.PtT renaming row → G5
open Go.Vi.AttT renaming row → Ft
open Int renaming tmod → IZ, tdiv → Hj, toNat → FA
open Go.Exit renaming normal → FH, exit → Gf, ret → Gw
open Go.Vi.CW renaming each → Ha
open Nat renaming le_trans → H3, mul_le_mul_right → IV
open Go.Vi.Cls renaming row → Gh
open Go.Vi.FeeT renaming row → GV
open Go.Vi.ClauseT renaming row → GE
open Option.some renaming injEq → Fq
open Go Go.Proofs Go.Shelf
namespace Go.Proofs
def Tryz.sortAtt_ren : Go.Shelf.Ren:=⟨fun | 6=>117 | 15=>122 | 14=>162 | 28=>173 | 29=>174 | 20=>200 | 21=>201 | 22=>202 | 23=>203 | 24=>204 | 25=>205 | 26=>206 | 27=>207 | 46=>227 | 47=>211 | 48=>212 | 49=>228 | 50=>229 | 57=>235 | n=>n,fun | 22=>45 | 24=>52 | 25=>144 | 3=>3 | 39=>192 | 0=>0 | 53=>233 | 55=>169 | 4=>4 | 46=>227 | 45=>226 | 50=>150 | 5=>5 | 9=>9 | 66=>251 | 70=>255 | 76=>265 | 77=>266 | n=>n,fun | n=>n⟩
theorem Tryz.sortAtt : Go.Proofs.SlLaysF0.n6 Fp Tryz.sortAtt_ren:={
 mixed:=by kernel_rfl
 f6:=⟨Tryz.f117.name,by decide,Tryz.func117.trans (congrArg some (by kernel_rfl))⟩
 f14:=⟨Tryz.f162.name,by decide,Tryz.func162.trans (congrArg some (by kernel_rfl))⟩
 f15:=Tryz.func122.trans (congrArg some (by kernel_rfl))
 f20:=⟨Tryz.f200.name,by decide,Tryz.func200.trans (congrArg some (by kernel_rfl))⟩
 f21:=⟨Tryz.f201.name,by decide,Tryz.func201.trans (congrArg some (by kernel_rfl))⟩
 f22:=⟨Tryz.f202.name,by decide,Tryz.func202.trans (congrArg some (by kernel_rfl))⟩
 f23:=⟨Tryz.f203.name,by decide,Tryz.func203.trans (congrArg some (by kernel_rfl))⟩
 f24:=⟨Tryz.f204.name,by decide,Tryz.func204.trans (congrArg some (by kernel_rfl))⟩
 f25:=⟨Tryz.f205.name,by decide,Tryz.func205.trans (congrArg some (by kernel_rfl))⟩
 f26:=⟨Tryz.f206.name,by decide,Tryz.func206.trans (congrArg some (by kernel_rfl))⟩
 f27:=⟨Tryz.f207.name,by decide,Tryz.func207.trans (congrArg some (by kernel_rfl))⟩
 f28:=Tryz.func173.trans (congrArg some (by kernel_rfl))
 f29:=Tryz.func174.trans (congrArg some (by kernel_rfl))
 f46:=⟨Tryz.f227.name,by decide,Tryz.func227.trans (congrArg some (by kernel_rfl))⟩
 f47:=Tryz.func211.trans (congrArg some (by kernel_rfl))
 f48:=Tryz.func212.trans (congrArg some (by kernel_rfl))
 f49:=⟨Tryz.f228.name,by decide,Tryz.func228.trans (congrArg some (by kernel_rfl))⟩
 f50:=⟨Tryz.f229.name,by decide,Tryz.func229.trans (congrArg some (by kernel_rfl))⟩
 f57:=⟨Tryz.f235.name,by decide,Tryz.func235.trans (congrArg some (by kernel_rfl))⟩
 t0:=Tryz.underlying0
 a0:=Tryz.isAgg0
 z0:=Tryz.sizeOf0
 v0:=Tryz.zeroValue0
 t3:=Tryz.underlying3
 a3:=Tryz.isAgg3
 z3:=Tryz.sizeOf3
 v3:=Tryz.zeroValue3
 t4:=Tryz.underlying4
 a4:=Tryz.isAgg4
 z4:=Tryz.sizeOf4
 v4:=Tryz.zeroValue4
 t5:=Tryz.underlying5
 a5:=Tryz.isAgg5
 z5:=Tryz.sizeOf5
 v5:=Tryz.zeroValue5
 t9:=Tryz.underlying9
 a9:=Tryz.isAgg9
 z9:=Tryz.sizeOf9
 v9:=Tryz.zeroValue9
 t22:=Tryz.underlying45
 a22:=Tryz.isAgg45
 z22:=Tryz.sizeOf45
 v22:=Tryz.zeroValue45
 t25:=Tryz.underlying144
 a25:=Tryz.isAgg144
 z25:=Tryz.sizeOf144
 v25:=Tryz.zeroValue144
 t39:=Tryz.underlying192
 a39:=Tryz.isAgg192
 z39:=Tryz.sizeOf192
 v39:=Tryz.zeroValue192
 t45:=Tryz.underlying226
 a45:=Tryz.isAgg226
 z45:=Tryz.sizeOf226
 v45:=Tryz.zeroValue226
 t46:=Tryz.underlying227
 a46:=Tryz.isAgg227
 z46:=Tryz.sizeOf227
 v46:=Tryz.zeroValue227
 t50:=Tryz.underlying150
 a50:=Tryz.isAgg150
 z50:=Tryz.sizeOf150
 v50:=Tryz.zeroValue150
 t53:=Tryz.underlying233
 a53:=Tryz.isAgg233
 z53:=Tryz.sizeOf233
 v53:=Tryz.zeroValue233
 t55:=Tryz.underlying169
 a55:=Tryz.isAgg169
 z55:=Tryz.sizeOf169
 v55:=Tryz.zeroValue169
 t66:=Tryz.underlying251
 a66:=Tryz.isAgg251
 z66:=Tryz.sizeOf251
 v66:=Tryz.zeroValue251
 t70:=Tryz.underlying255
 a70:=Tryz.isAgg255
 z70:=Tryz.sizeOf255
 v70:=Tryz.zeroValue255
 t76:=Tryz.underlying265
 a76:=Tryz.isAgg265
 z76:=Tryz.sizeOf265
 v76:=Tryz.zeroValue265
 t77:=Tryz.underlying266
 a77:=Tryz.isAgg266
 z77:=Tryz.sizeOf266
 v77:=Tryz.zeroValue266 }
end Go.Proofs
namespace Go.Vi
open Go.Sort
def wr (a b : AttT) : Int:=orI (aN a.term b.term) (aN a.course b.course)
def leA (a b : AttT) : Bool:=!(ltOf wr) b a
theorem oX (a b : AttT) : (ltOf wr) a b = true ↔ a.term < b.term ∨ (a.term = b.term ∧ a.course < b.course):=by
 unfold ltOf wr orI aN
 simp only [decide_eq_true_eq]
 repeat' split
 all_goals simp_all
 all_goals omega
theorem lL (a b : AttT) : (ltOf wr) a b = false ↔ ¬ (a.term < b.term ∨ (a.term = b.term ∧ a.course < b.course)):=by
 rw [← oX,Bool.not_eq_true]
theorem swoA : SWO (ltOf wr) where
 irrefl x:=by rw [lL]; omega
 trans x y z h1 h2:=by rw [oX] at *; omega
 ntrans x y z h1 h2:=by rw [lL] at *; omega
def encA (a : AttT) : List Value:=[.int .i64 a.course,.int .i64 a.term,.int .i64 a.grade,.int .i64 a.campus,.int .i64 a.credits]
abbrev EE (l : List AttT) : List (List D):=l.map fun a=>a.row.map .p
theorem vS {h : List Blk} {b e : Nat} {l : List AttT} (hb : h[b]? = some (.vec (EE l) e 5)) (hl : l.length < 4611686018427387904) (hT : ∀ x ∈ l,∀ y ∈ l,x.term = y.term → x.course = y.course → x = y) :
  Ev Fp Γ0 117 [.ref (.vec b e),.p (.v (.func (.func 79) #[] #[]))] h (.tup []) (h.set b (.vec (EE (l.mergeSort leA)) e 5)) :=
 qY (α:=AttT) (enc:=encA) (k:=5) (cf:=wr) pok Tryz.sortAtt Tryz.isAgg52 Tryz.sizeOf52 (fun _=>rfl) (fun x v hv=>by simp [encA] at hv; rcases hv with rfl | rfl | rfl | rfl | rfl <;> rfl) swoA (by kernel_rfl) (fun x y=>iy []) hb hl
  (fun x hx y hy h1 h2=>by
   rw [lL] at h1 h2
   exact hT x hx y hy (by omega) (by omega))
end Go.Vi
open Go Go.Proofs
namespace Go.Vi
set_option maxRecDepth 100000
set_option maxHeartbeats 4000000
structure ReadT where
 kind : Int
 sub : Int
 obj : Int
 frm : Int
 til : Int
 deriving Inhabited,DecidableEq
def ReadT.row (r : ReadT) : List Dp:=[vi r.kind,vi r.sub,vi r.obj,vi r.frm,vi r.til]
abbrev rdR (l : List ReadT) : List (List Dp):=l.map ReadT.row
theorem sS (l : List ReadT) : (ai (rdR l)).all (aG 5) = true:=by
 rw [List.all_eq_true]
 intro r hr
 obtain ⟨x,hx,rfl⟩:=FY.1 hr
 obtain ⟨y,_,rfl⟩:=FY.1 hx
 rfl
theorem qZ (l m : List ReadT) : ai (rdR l) ++ ai (rdR m) = ai (rdR (l ++ m)):=by simp [ai]
abbrev lkH (w : WorldT) (known : Int) (rs : List ReadT) (e : Nat) : List Blk:=[.var [.ref (.vec 1 e),ab (w.c.map FE),ab w.p,ab (w.s.map FF),ab (w.f.map FC),int known],.vec (ai (rdR rs)) e 5]
theorem Bk {w : WorldT} {known : Int} {rs qs : List ReadT} (hb : rs.length + qs.length ≤ 1000000000) : (Ev Fp Γk 119 [.ref (.ptr 0 0),ab (rdR qs)] (lkH w known rs 0) (.tup []) (lkH w known (rs ++ qs) 1)):=by
 refine FP (Gz (h':=[.var [.ref (.vec 1 1),ab (Fo FE w.c),ab w.p,ab (Fo FF w.s),ab (Fo FC w.f),int known],.vec (ai (rdR rs) ++ Fo (fun x=>Fo D.p x) (rdR qs)) 1 5]) (d:=FM []) pok [] (by kernel_rfl) (.c (show (FN (Fo (fun x=>Fo D.p x) (rdR qs)) (aG 5) && roomOk (Fu (ai (rdR rs)) + Fu (Fo (fun x=>Fo D.p x) (rdR qs))) 40) = true from (by (simp only [sS,roomOk,Bool.true_and,FB,decide_eq_true_eq,List.length_map]; omega))) .n)) ?_ ?_ <;> (first | rfl | (simp only [lkH,rdR,ai,HO]; done))
theorem q8 {w : WorldT} {known : Int} {rs : List ReadT} {q : ReadT} (hb : rs.length ≤ 999999999) : (Ev Fp Γk 119 [.ref (.ptr 0 0),.ref (.vec 2 0)] (lkH w known rs 0 ++ [.vec [[int q.kind,int q.sub,int q.obj,int q.frm,int q.til]] 0 5]) (.tup []) (lkH w known (rs ++ [q]) 1 ++ [.vec [[int q.kind,int q.sub,int q.obj,int q.frm,int q.til]] 0 5])):=by
 let v0 : List D:=[int q.kind,int q.sub,int q.obj,int q.frm,int q.til]
 refine FP (Gz (h':=[.var [.ref (.vec 1 1),ab (Fo FE w.c),ab w.p,ab (Fo FF w.s),ab (Fo FC w.f),int known],.vec (ai (rdR rs) ++ [v0]) 1 5,.vec [v0] 0 5]) (d:=FM []) pok [] (by kernel_rfl) (.c (show (FN [v0] (aG 5) && roomOk (Fu (ai (rdR rs)) + Fu [v0]) 40) = true from (by subst v0; (simp [aG,D.one,HU,roomOk]; omega))) .n)) ?_ ?_ <;> subst v0 <;> (first | rfl | (simp only [lkH,rdR,ai,HO]; rfl))
def rdN : ReadT:=⟨12,0,0,0,1⟩
theorem sT {w : WorldT} (hw : w.ok) {known : Int} (h : List Blk) : Ev Fp Γk 34 [.agg w.l,int known] h (.tup [ab ((aj w.f known).map fun n=>[vi n]),.ref (.vec h.length 0)]) (h ++ [.vec (ai (rdR [rdN])) 0 5]) :=
 F1 (sP hw.lf hw.sf h)
def rdT (kk ks ko term : Int) : List ReadT:=match outB term with
 | true=>[]
 | false=>[⟨kk,ks,ko,term,Fs.wrap (term + 1)⟩]
theorem oY (kk ks ko term : Int) : eK kk ks ko term = rdR (rdT kk ks ko term):=by
 unfold eK rdT
 cases outB term <;> rfl
theorem rdT_len (kk ks ko term : Int) : (rdT kk ks ko term).length ≤ 1:=by unfold rdT; cases outB term <;> simp
theorem jw {w : WorldT} (hw : w.ok) {n term known : Int} (h : List Blk) : Ev Fp Γk 161 [.agg w.l,int n,int term,int known] h (.tup [ag (ac w n term known).1.row,ab (rdR (rdT 1 n 0 term)),bool (ac w n term known).2]) h:=by
 rw [← oY]; exact vJ hw h
theorem jx {w : WorldT} (hw : w.ok) {term known : Int} (h : List Blk) : Ev Fp Γk 52 [.agg w.l,int term,int known] h (.tup [ag (bF w term known).1.row,ab (rdR (rdT 4 0 0 term))]) h:=by
 rw [← oY]; exact vH hw h
noncomputable abbrev lM (w : WorldT) (known : Int) (rs : List ReadT) : List Blk:=[.var [.ref (.vec 1 1),ab (Fo FE w.c),ab w.p,ab (Fo FF w.s),ab (Fo FC w.f),int known],.vec (ai (rdR (rs ++ [rdN]))) 1 5,.vec [[int rdN.kind,int rdN.sub,int rdN.obj,int rdN.frm,int rdN.til]] 0 5]
noncomputable abbrev sU (w : WorldT) (known : Int) (rs : List ReadT) : List Blk:=[.var [.ref (.vec 1 0),ab (Fo FE w.c),ab w.p,ab (Fo FF w.s),ab (Fo FC w.f),int known],.vec (ai (rdR rs)) 0 5,.vec [[int rdN.kind,int rdN.sub,int rdN.obj,int rdN.frm,int rdN.til]] 0 5]
noncomputable abbrev sV (w : WorldT) (known : Int) (rs : List ReadT) : List Blk:=[.var [.ref (.vec 1 0),ab (Fo FE w.c),ab w.p,ab (Fo FF w.s),ab (Fo FC w.f),int known],.vec (ai (rdR rs)) 0 5]
theorem Bl {w : WorldT} (hw : w.ok) {known : Int} {rs : List ReadT} (hb : rs.length ≤ 999999000) : (Ev Fp Γk 62 [.ref (.ptr 0 0)] (lkH w known rs 0) (ab ((aj w.f known).map fun n=>[vi n])) (lkH w known (rs ++ [rdN]) 1)):=by
 let v0 : List D:=[.ref (.vec 1 1),ab (Fo FE w.c),ab w.p,ab (Fo FF w.s),ab (Fo FC w.f),int known]
 refine FP (J1 (d2:=ab (Fo (fun n=>[vi n]) (aj w.f known))) (h2:=[.var v0,.vec (ai (rdR (rs ++ [rdN]))) 1 5]) (φ:=[FL 2 (.var v0) = true,FL 2 (.vec (ai (rdR (rs ++ [rdN]))) 1 5) = true]) [.st (.trimV 2)] (Gz (h':=(lM w known rs)) (d:=ab (Fo (fun n=>[vi n]) (aj w.f known))) pok [.call (FM [ab (Fo (fun n=>[vi n]) (aj w.f known)),.ref (.vec 2 0)]) (sU w known rs),.call (FM []) (lM w known rs)] (by kernel_rfl) (.c (@sT w hw known (sV w known rs)) (.e (.ref (.ptr 0 0)) (.e (.ref (.ptr 0 1)) (.e (FU (Gm w)) (.e (.ref (.ptr 0 0)) (.e (.ref (.ptr 0 5)) (.e (int known) (.c (@q8 w known rs rdN ?_) .n))))))))) (by kernel_rfl) ⟨rfl,?_,trivial⟩) (by subst v0; rfl) (by subst v0; rfl) <;> subst v0 <;> (first | omega | exact bu _ _)
noncomputable abbrev ml (w : WorldT) (known : Int) (rs : List ReadT) : List Blk:=[.var [.ref (.vec 1 0),ab (Fo FE w.c),ab w.p,ab (Fo FF w.s),ab (Fo FC w.f),int known],.vec (ai (rdR rs)) 0 5,.var [ak { data:=#[] },int 0,int 0,int 0,int 0,int 0,ak { data:=#[] },int 0,int 0,nq,int 0,int 0,ak { data:=#[] },int 0,int 0,nq],.var [ak { data:=#[] },int 0,int 0,int 0,int 0,int 0,ak { data:=#[] },int 0,int 0,nq,int 0,int 0,ak { data:=#[] },int 0,int 0,nq]]
noncomputable abbrev eo (w : WorldT) (known : Int) (rs : List ReadT) : List Blk:=[.var [.ref (.vec 1 0),ab (Fo FE w.c),ab w.p,ab (Fo FF w.s),ab (Fo FC w.f),int known],.vec (ai (rdR rs)) 0 5,.var [ak { data:=#[] },int 0,int 0,int 0,int 0,int 0,ak { data:=#[] },int 0,int 0,nq,int 0,int 0,ak { data:=#[] },int 0,int 0,nq]]
noncomputable abbrev Ad (w : WorldT) (known : Int) (n : Int) (term : Int) : List D:=[FU [ab (Fo FE w.c),ab w.p,ab (Fo FF w.s),ab (Fo FC w.f)],int n,int term,int known]
theorem lO {w : WorldT} (hw : w.ok) {known n term : Int} {rs : List ReadT} (hb : rs.length ≤ 999999000) : (Ev Fp Γk 116 [.ref (.ptr 0 0),int n,int term] (lkH w known rs 0) (ag (ac w n term known).1.row) (lkH w known (rs ++ rdT 1 n 0 term) 1)):=by
 let v1 : List Blk:=[.var [.ref (.vec 1 0),ab (Fo FE w.c),ab w.p,ab (Fo FF w.s),ab (Fo FC w.f),int known],.vec (ai (rdR rs)) 0 5,.var [ak { data:=#[] },int 0,int 0,int 0,int 0,int 0,ak { data:=#[] },int 0,int 0,nq,int 0,int 0,ak { data:=#[] },int 0,int 0,nq],.var [ak (ac w n term known).fst.name,int (ac w n term known).fst.number,int (ac w n term known).fst.credits,int (ac w n term known).fst.rep,int (Fv (ac w n term known).fst.need).op,int (Fv (ac w n term known).fst.need).c,ak (Fv (ac w n term known).fst.need).nm,int (Fv (ac w n term known).fst.need).n,int (Fv (ac w n term known).fst.need).d,ab (Fv (ac w n term known).fst.need).ks,int (Fv (ac w n term known).fst.bar).op,int (Fv (ac w n term known).fst.bar).c,ak (Fv (ac w n term known).fst.bar).nm,int (Fv (ac w n term known).fst.bar).n,int (Fv (ac w n term known).fst.bar).d,ab (Fv (ac w n term known).fst.bar).ks]]
 let v2 : List D:=[.ref (.vec 1 1),ab (Fo FE w.c),ab w.p,ab (Fo FF w.s),ab (Fo FC w.f),int known]
 let v0 : List Blk:=[.var v2,.vec (ai (rdR (rs ++ rdT 1 n 0 term))) 1 5,.var [ak { data:=#[] },int 0,int 0,int 0,int 0,int 0,ak { data:=#[] },int 0,int 0,nq,int 0,int 0,ak { data:=#[] },int 0,int 0,nq],.var [ak (ac w n term known).fst.name,int (ac w n term known).fst.number,int (ac w n term known).fst.credits,int (ac w n term known).fst.rep,int (Fv (ac w n term known).fst.need).op,int (Fv (ac w n term known).fst.need).c,ak (Fv (ac w n term known).fst.need).nm,int (Fv (ac w n term known).fst.need).n,int (Fv (ac w n term known).fst.need).d,ab (Fv (ac w n term known).fst.need).ks,int (Fv (ac w n term known).fst.bar).op,int (Fv (ac w n term known).fst.bar).c,ak (Fv (ac w n term known).fst.bar).nm,int (Fv (ac w n term known).fst.bar).n,int (Fv (ac w n term known).fst.bar).d,ab (Fv (ac w n term known).fst.bar).ks]]
 refine FP (J1 (d2:=FU [ak (ac w n term known).fst.name,int (ac w n term known).fst.number,int (ac w n term known).fst.credits,int (ac w n term known).fst.rep,int (Fv (ac w n term known).fst.need).op,int (Fv (ac w n term known).fst.need).c,ak (Fv (ac w n term known).fst.need).nm,int (Fv (ac w n term known).fst.need).n,int (Fv (ac w n term known).fst.need).d,ab (Fv (ac w n term known).fst.need).ks,int (Fv (ac w n term known).fst.bar).op,int (Fv (ac w n term known).fst.bar).c,ak (Fv (ac w n term known).fst.bar).nm,int (Fv (ac w n term known).fst.bar).n,int (Fv (ac w n term known).fst.bar).d,ab (Fv (ac w n term known).fst.bar).ks]) (h2:=[.var v2,.vec (ai (rdR (rs ++ rdT 1 n 0 term))) 1 5]) (φ:=[FL 2 (.var v2) = true,FL 2 (.vec (ai (rdR (rs ++ rdT 1 n 0 term))) 1 5) = true]) [.st (.trimV 2)] (Gz (h':=[.var v2,.vec (ai (rdR (rs ++ rdT 1 n 0 term))) 1 5,.var [ak (ac w n term known).fst.name,int (ac w n term known).fst.number,int (ac w n term known).fst.credits,int (ac w n term known).fst.rep,int (Fv (ac w n term known).fst.need).op,int (Fv (ac w n term known).fst.need).c,ak (Fv (ac w n term known).fst.need).nm,int (Fv (ac w n term known).fst.need).n,int (Fv (ac w n term known).fst.need).d,ab (Fv (ac w n term known).fst.need).ks,int (Fv (ac w n term known).fst.bar).op,int (Fv (ac w n term known).fst.bar).c,ak (Fv (ac w n term known).fst.bar).nm,int (Fv (ac w n term known).fst.bar).n,int (Fv (ac w n term known).fst.bar).d,ab (Fv (ac w n term known).fst.bar).ks],.var [ak (ac w n term known).fst.name,int (ac w n term known).fst.number,int (ac w n term known).fst.credits,int (ac w n term known).fst.rep,int (Fv (ac w n term known).fst.need).op,int (Fv (ac w n term known).fst.need).c,ak (Fv (ac w n term known).fst.need).nm,int (Fv (ac w n term known).fst.need).n,int (Fv (ac w n term known).fst.need).d,ab (Fv (ac w n term known).fst.need).ks,int (Fv (ac w n term known).fst.bar).op,int (Fv (ac w n term known).fst.bar).c,ak (Fv (ac w n term known).fst.bar).nm,int (Fv (ac w n term known).fst.bar).n,int (Fv (ac w n term known).fst.bar).d,ab (Fv (ac w n term known).fst.bar).ks]]) (d:=FU [ak (ac w n term known).fst.name,int (ac w n term known).fst.number,int (ac w n term known).fst.credits,int (ac w n term known).fst.rep,int (Fv (ac w n term known).fst.need).op,int (Fv (ac w n term known).fst.need).c,ak (Fv (ac w n term known).fst.need).nm,int (Fv (ac w n term known).fst.need).n,int (Fv (ac w n term known).fst.need).d,ab (Fv (ac w n term known).fst.need).ks,int (Fv (ac w n term known).fst.bar).op,int (Fv (ac w n term known).fst.bar).c,ak (Fv (ac w n term known).fst.bar).nm,int (Fv (ac w n term known).fst.bar).n,int (Fv (ac w n term known).fst.bar).d,ab (Fv (ac w n term known).fst.bar).ks]) pok [.val (FM [FU [ak (ac w n term known).fst.name,int (ac w n term known).fst.number,int (ac w n term known).fst.credits,int (ac w n term known).fst.rep,int (Fv (ac w n term known).fst.need).op,int (Fv (ac w n term known).fst.need).c,ak (Fv (ac w n term known).fst.need).nm,int (Fv (ac w n term known).fst.need).n,int (Fv (ac w n term known).fst.need).d,ab (Fv (ac w n term known).fst.need).ks,int (Fv (ac w n term known).fst.bar).op,int (Fv (ac w n term known).fst.bar).c,ak (Fv (ac w n term known).fst.bar).nm,int (Fv (ac w n term known).fst.bar).n,int (Fv (ac w n term known).fst.bar).d,ab (Fv (ac w n term known).fst.bar).ks],ab (rdR (rdT 1 n 0 term)),bool (ac w n term known).snd]),.call (FM []) v0] (by kernel_rfl) (.c (@jw w hw n term known (eo w known rs)) (.e (.ref (.ptr 0 0)) (.e (.ref (.ptr 0 0)) (.e (.ref (.ptr 0 1)) (.e (.ref (.ptr 0 1)) (.e (FU (Gm w)) (.e (FU (Gm w)) (.e (.ref (.ptr 0 0)) (.e (.ref (.ptr 0 0)) (.e (.ref (.ptr 0 5)) (.e (.ref (.ptr 0 5)) (.e (int known) (.e (int known) (.er (eo w known rs) (.c (@jw w hw n term known (eo w known rs)) (.c (@jw w hw n term known (ml w known rs)) (.c (show Ev Fp Γk 119 [.ref (.ptr 0 0),ab (rdR (rdT 1 n 0 term))] v1 (FM []) v0 from (FP (GY (args:=[.ref (.ptr 0 0),ab (rdR (rdT 1 n 0 term))]) (H:=v1) [0,1] (@Bk w known rs (rdT 1 n 0 term) (by subst v1 v2 v0; (have:=rdT_len 1 n 0 term; omega))) (by kernel_rfl) (by kernel_rfl) (by kernel_rfl) ⟨?_,trivial⟩ ⟨?_,trivial⟩) (by kernel_rfl) (by kernel_rfl))) .n)))))))))))))))))) (by kernel_rfl) ⟨rfl,(by subst v1 v2 v0; exact bu _ _),trivial⟩) (by subst v1 v2 v0; rfl) (by subst v1 v2 v0; rfl) <;> subst v1 v2 v0 <;> (exact am _ _)
noncomputable abbrev cU (w : WorldT) (known : Int) (st : Int) (n : Int) (term : Int) (rs : List ReadT) : List Blk:=[.var [.ref (.vec 1 1),ab (Fo FE w.c),ab w.p,ab (Fo FF w.s),ab (Fo FC w.f),int known],.vec (ai (rdR (rs ++ [{ kind:=5,sub:=st,obj:=n,frm:=0,til:=term }]))) 1 5,.var [int 5,int st,int n],.vec [[int 5,int st,int n,int 0,int term]] 0 5]
theorem sW {w : WorldT} (hw : w.ok) {known st n term : Int} {rs : List ReadT} (hb : rs.length ≤ 999999000) : (Ev Fp Γk 115 [.ref (.ptr 0 0),int st,int n,int term] (lkH w known rs 0) (ab ((ba 5 st n 0 term known w.f).map G5)) (lkH w known (rs ++ [⟨5,st,n,0,term⟩]) 1)):=by
 let v0 : List Blk:=[.var [.ref (.vec 1 0),ab (Fo FE w.c),ab w.p,ab (Fo FF w.s),ab (Fo FC w.f),int known],.vec (ai (rdR rs)) 0 5,.var [int 5,int st,int n],.vec [[int 5,int st,int n,int 0,int term]] 0 5]
 let v1 : List D:=[.ref (.vec 1 1),ab (Fo FE w.c),ab w.p,ab (Fo FF w.s),ab (Fo FC w.f),int known]
 let v2:=Fo G5 (ba 5 st n 0 term known w.f)
 refine FP (J1 (d2:=ab v2) (h2:=[.var v1,.vec (ai (rdR (rs ++ [{ kind:=5,sub:=st,obj:=n,frm:=0,til:=term }]))) 1 5]) (φ:=[FL 2 (.var v1) = true,FL 2 (.vec (ai (rdR (rs ++ [{ kind:=5,sub:=st,obj:=n,frm:=0,til:=term }]))) 1 5) = true]) [.st (.trimV 2)] (Gz (h':=(cU w known st n term rs)) (d:=ab v2) pok [.call (FM []) (cU w known st n term rs),.val (ab v2)] (by kernel_rfl) (.c (show Ev Fp Γk 119 [.ref (.ptr 0 0),.ref (.vec 3 0)] v0 (FM []) (cU w known st n term rs) from (FP (GY (args:=[.ref (.ptr 0 0),.ref (.vec 3 0)]) (H:=v0) [0,1,3] (@q8 w known rs ({ kind:=5,sub:=st,obj:=n,frm:=0,til:=term }) (by subst v0 v1 v2; omega)) (by kernel_rfl) (by kernel_rfl) (by kernel_rfl) ⟨?_,?_,trivial⟩ ⟨?_,?_,trivial⟩) (by kernel_rfl) (by kernel_rfl))) (.e (.ref (.ptr 0 0)) (.e (.ref (.ptr 0 0)) (.e (.ref (.ptr 0 0)) (.e (.ref (.ptr 0 0)) (.e (FU [int 5,int st,int n]) (.c (F1 (Γ':=Γk) (@yN 5 st n 0 term known (w.f) (by subst v0 v1 v2; exact hw.sf) (cU w known st n term rs))) .n)))))))) (by kernel_rfl) ⟨rfl,(by subst v0 v1 v2; exact bu _ _),trivial⟩) (by subst v0 v1 v2; rfl) (by subst v0 v1 v2; rfl) <;> subst v0 v1 v2 <;> (first | rfl | exact am _ _)
theorem sX {h : List Blk} {b e : Nat} {l : List AttT} (hb : h[b]? = some (.vec (ai (l.map Ft)) e 5)) (hl : l.length < 4611686018427387904) (hT : ∀ x ∈ l,∀ y ∈ l,x.term = y.term → x.course = y.course → x = y) :
  Ev Fp Γ0 117 [.ref (.vec b e),.p (.v (.func (.func 79) #[] #[]))] h (.tup []) (h.set b (.vec (ai ((l.mergeSort leA).map Ft)) e 5)):=by
 have e1 : ∀ l : List AttT,ai (l.map Ft) = EE l:=fun l=>by simp [ai]
 rw [e1] at hb ⊢
 exact vS hb hl hT
abbrev ofH (w : WorldT) (known st : Int) (rs : List ReadT) (ats : List AttT) : List Blk:=[.var [.ref (.vec 1 1),ab (w.c.map FE),ab w.p,ab (w.s.map FF),ab (w.f.map FC),int known],.vec (ai (rdR rs)) 1 5,.var [int st,.ref (.vec 3 0)],.vec (ai (ats.map Ft)) 0 5]
abbrev oiS (w : WorldT) (known st term : Int) (ns : List (List Dp)) (ni n : Int) (ps : List (List Dp)) (rs : List ReadT) (ats : List AttT) (j : Int) : AS :=
 { t:=mkT 67 0 [(0,.ref (.ptr 0 0)),(1,int st),(2,int term),(6,.ref (.ptr 2 0)),(8,int n),(16,ab ns),(17,int ns.length),(18,int ni),(26,ab ps),(27,int ps.length),(28,int j)],h:=ofH w known st rs ats,m:=[] }
abbrev RA:=List ReadT × List AttT
def attBad (p : PtT) : Bool:=decide (IZ p.value 16 > 12) || decide (Fs.wrap (Hj p.value 16) ≥ 7)
def yO (w : WorldT) (known n : Int) (p : PtT) : AttT:=⟨n,p.term,IZ p.value 16,Fs.wrap (Hj p.value 16),(ac w n p.term known).1.credits⟩
def q9 (w : WorldT) (known n : Int) (s : RA) (p : PtT) : RA:=bif attBad p then s else (s.1 ++ rdT 1 n 0 p.term,s.2 ++ [yO w known n p])
theorem sY (l : List AttT) (a b c d e : Int) : ai (l.map Ft) ++ [[int a,int b,int c,int d,int e]] = ai ((l ++ [AttT.mk a b c d e]).map Ft):=by simp [Ft]
theorem EF {w : WorldT} (hw : w.ok) {known st term : Int} {ns : List (List Dp)} {ni n : Int} {ps : List (List Dp)} {rs0 rs : List ReadT} {ats : List AttT} {j : Nat} {p : PtT} (hr : ah (j : Int) ps p.row 2) (hlt : decide ((j : Int) < (ps.length : Int)) = true) (hwr : Fs.wrap ((j : Int) + 1) = ((j + 1 : Nat) : Int)) (hb : rs.length ≤ 999998000) (ha : ats.length ≤ 999998000) : (CW Fp Γk (lkH w known rs0 0) false (sub Ix 1) (oiS w known st term ns ni n ps rs ats j) .normal (oiS w known st term ns ni n ps (q9 w known n (rs,ats) p).1 (q9 w known n (rs,ats) p).2 ((j + 1 : Nat) : Int))):=by
 cases hc0 : decide (IZ p.value 16 > 12) || decide (Fz Fs (Hj p.value 16) ≥ 7)
 ·let v0 : List D:=[int n,int p.term,int (IZ p.value 16),int (Fz Fs (Hj p.value 16)),int (ac w n p.term known).fst.credits]
  let v1:=FU [ak (ac w n p.term known).fst.name,int (ac w n p.term known).fst.number,int (ac w n p.term known).fst.credits,int (ac w n p.term known).fst.rep,int (Fv (ac w n p.term known).fst.need).op,int (Fv (ac w n p.term known).fst.need).c,ak (Fv (ac w n p.term known).fst.need).nm,int (Fv (ac w n p.term known).fst.need).n,int (Fv (ac w n p.term known).fst.need).d,ab (Fv (ac w n p.term known).fst.need).ks,int (Fv (ac w n p.term known).fst.bar).op,int (Fv (ac w n p.term known).fst.bar).c,ak (Fv (ac w n p.term known).fst.bar).nm,int (Fv (ac w n p.term known).fst.bar).n,int (Fv (ac w n p.term known).fst.bar).d,ab (Fv (ac w n p.term known).fst.bar).ks]
  let v3 : List D:=[.ref (.vec 1 1),ab (Fo FE w.c),ab w.p,ab (Fo FF w.s),ab (Fo FC w.f),int known]
  let v4 : List D:=[.ref (.vec 1 2),ab (Fo FE w.c),ab w.p,ab (Fo FF w.s),ab (Fo FC w.f),int known]
  let v2 : List Blk:=[.var v4,.vec (ai (rdR (rs ++ rdT 1 n 0 p.term))) 2 5,.var [int st,.ref (.vec 3 0)],.vec (ai (Fo Ft ats)) 0 5,.var [int p.term,int p.value]]
  let v5 : List Blk:=[.var v3,.vec (ai (rdR rs)) 1 5,.var [int st,.ref (.vec 3 0)],.vec (ai (Fo Ft ats)) 0 5,.var [int p.term,int p.value]]
  refine zX { t:=mkT 67 0 [(0,.ref (.ptr 0 0)),(1,int st),(2,int term),(6,.ref (.ptr 2 0)),(8,int n),(16,ab ns),(17,int (↑(Fu ns) : Int)),(18,int ni),(26,ab ps),(27,int (↑(Fu ps) : Int)),(28,int (Fz Fs ((↑j : Int) + 1)))],h:=[.var v3,.vec (ai (rdR (rs ++ rdT 1 n 0 p.term))) 1 5,.var [int st,.ref (.vec 3 0)],.vec (ai (Fo Ft ats) ++ [v0]) 0 5],m:=[] } FH [.st (.mask [0,1,2,6,8,16,17,18,26,27,28]),.st (.ren 1 1),.st (.ren 3 0),.st (.trimV 4)] [.b true,.row [vi p.term,vi p.value],.b false,.call v1 v2] (.c hlt (.c hr (.c (show (!decide (16 = 0)) = true from rfl) (.c (show (!decide (16 = 0)) = true from rfl) (.c hc0 (.c (show Ev Fp Γk 116 [.ref (.ptr 0 0),int n,int p.term] v5 v1 v2 from (FP (GY (args:=[.ref (.ptr 0 0),int n,int p.term]) (H:=v5) [0,1] (Ev.upX [0,1] (@lO w hw known n (p.term) rs ?_) (by kernel_rfl) ⟨(by subst v0 v1 v3 v4 v2 v5; exact am _ _),trivial⟩ ⟨(by subst v0 v1 v3 v4 v2 v5; exact am _ _),trivial⟩) (by kernel_rfl) (by kernel_rfl) (by kernel_rfl) ⟨(by subst v0 v1 v3 v4 v2 v5; exact am _ _),trivial⟩ ⟨(by subst v0 v1 v3 v4 v2 v5; exact am _ _),trivial⟩) (by kernel_rfl) (by kernel_rfl))) (.c (show (FN [v0] (aG 5) && roomOk (Fu (ai (Fo Ft ats)) + Fu [v0]) 40) = true from ?_) (.e (.ref (.ptr 2 1)) (.e (.ref (.ptr 2 1)) (.e (.ref (.ptr 2 1)) (.e (.ref (.vec 3 0)) (.e (.ref (.vec 3 0)) (.e (.ref (.vec 3 0)) (.e (.ref (.ptr 4 0)) (.e (.ref (.ptr 4 0)) (.e (int p.term) (.e (int p.term) (.e (.ref (.ptr 4 0)) (.e (int p.term) (.e (.ref (.ptr 2 1)) (.c (vM (rdR (rs ++ rdT 1 n 0 p.term)) 1 2 1) (.c (vMa (Fo Ft ats) [v0] 1 2 1) (.er [v0] (.c (vMa (Fo Ft ats) [v0] 3 1 0) (.c (vM (rdR (rs ++ rdT 1 n 0 p.term)) 3 1 0) (.er [v0] (.c (show FL 4 (match 0 == 3 with | true=>.vec (ai (Fo Ft ats) ++ [v0]) 0 5 | false=>keepX (aM 3 1 0) (match 0 == 1 with | true=>.vec (ai (rdR (rs ++ rdT 1 n 0 p.term))) 1 5 | false=>keepX (aM 1 2 1) (.var v4))) = true from rfl) (.c (show FL 4 (match 0 + 1 == 3 with | true=>.vec (ai (Fo Ft ats) ++ [v0]) 0 5 | false=>keepX (aM 3 1 0) (match 0 + 1 == 1 with | true=>.vec (ai (rdR (rs ++ rdT 1 n 0 p.term))) 1 5 | false=>keepX (aM 1 2 1) (.vec (ai (rdR (rs ++ rdT 1 n 0 p.term))) 2 5))) = true from ?_) (.c (show FL 4 (match 0 + 1 + 1 == 3 with | true=>.vec (ai (Fo Ft ats) ++ [v0]) 0 5 | false=>keepX (aM 3 1 0) (match 0 + 1 + 1 == 1 with | true=>.vec (ai (rdR (rs ++ rdT 1 n 0 p.term))) 1 5 | false=>keepX (aM 1 2 1) (.var [int st,.ref (.vec 3 1)]))) = true from rfl) (.c (iVa 4 (Fo Ft ats) [v0] 0 5) .n)))))))))))))))))))))))))))))) (by subst v0 v1 v3 v4 v2 v5; rfl) (by subst v0 v1 v3 v4 v2 v5; (have hh : attBad p = false:=hc0; simp only [hwr,q9,hh,cond_false,sY]; first | done | rfl)) <;> subst v0 v1 v3 v4 v2 v5 <;> (first | omega | exact cT | (simp [aG,D.one,HU,roomOk]; omega))
 ·let v0 : List D:=[.ref (.vec 1 1),ab (Fo FE w.c),ab w.p,ab (Fo FF w.s),ab (Fo FC w.f),int known]
  refine zX { t:=mkT 67 0 [(0,.ref (.ptr 0 0)),(1,int st),(2,int term),(6,.ref (.ptr 2 0)),(8,int n),(16,ab ns),(17,int (↑(Fu ns) : Int)),(18,int ni),(26,ab ps),(27,int (↑(Fu ps) : Int)),(28,int (Fz Fs ((↑j : Int) + 1)))],h:=[.var v0,.vec (ai (rdR rs)) 1 5,.var [int st,.ref (.vec 3 0)],.vec (ai (Fo Ft ats)) 0 5],m:=[] } FH [.st (.mask [0,1,2,6,8,16,17,18,26,27,28]),.st (.ren 1 1),.st (.ren 3 0),.st (.trimV 4)] [.b true,.row [vi p.term,vi p.value],.b true] (.c hlt (.c hr (.c (show (!decide (16 = 0)) = true from rfl) (.c (show (!decide (16 = 0)) = true from rfl) (.c hc0 (.c (vM (rdR rs) 1 1 1) (.c (vM (Fo Ft ats) 1 1 1) (.c (vM (Fo Ft ats) 3 0 0) (.c (vM (rdR rs) 3 0 0) (.c (show FL 4 (match 0 == 3 with | true=>.vec (ai (Fo Ft ats)) 0 5 | false=>keepX (aM 3 0 0) (match 0 == 1 with | true=>.vec (ai (rdR rs)) 1 5 | false=>keepX (aM 1 1 1) (.var v0))) = true from rfl) (.c (show FL 4 (match 0 + 1 == 3 with | true=>.vec (ai (Fo Ft ats)) 0 5 | false=>keepX (aM 3 0 0) (match 0 + 1 == 1 with | true=>.vec (ai (rdR rs)) 1 5 | false=>keepX (aM 1 1 1) (.vec (ai (rdR rs)) 1 5))) = true from ?_) (.c (show FL 4 (match 0 + 1 + 1 == 3 with | true=>.vec (ai (Fo Ft ats)) 0 5 | false=>keepX (aM 3 0 0) (match 0 + 1 + 1 == 1 with | true=>.vec (ai (rdR rs)) 1 5 | false=>keepX (aM 1 1 1) (.var [int st,.ref (.vec 3 0)]))) = true from rfl) (.c (iV 4 (Fo Ft ats) 0 5) .n))))))))))))) (by subst v0; rfl) (by subst v0; (have hh : attBad p = true:=hc0; simp only [hwr,q9,hh,cond_true]; first | done | rfl)) <;> subst v0 <;> (exact cT)
theorem EG {w : WorldT} {known st term : Int} {ns : List (List Dp)} {ni n : Int} {ps : List (List Dp)} {rs0 rs : List ReadT} {ats : List AttT} {j : Nat} (hlt : decide ((j : Int) < (ps.length : Int)) = false) : (CW Fp Γk (lkH w known rs0 0) false (sub Ix 1) (oiS w known st term ns ni n ps rs ats j) (.exit 2) { t:=mkT 67 0 [(0,.ref (.ptr 0 0)),(1,int st),(2,int term),(6,.ref (.ptr 2 0)),(16,ab ns),(17,int ns.length),(18,int ni)],h:=ofH w known st rs ats,m:=[] }):=by
 exact zx [.st (.mask [0,1,2,6,16,17,18])] [.b false] (.c hlt .n)
theorem uC {w : WorldT} {known n : Int} {s : RA} (p : PtT) : (q9 w known n s p).1.length ≤ s.1.length + 1 ∧ (q9 w known n s p).2.length ≤ s.2.length + 1:=by
 unfold q9
 cases attBad p
 ·have:=rdT_len 1 n 0 p.term
  simp; omega
 ·simp
theorem oi_cw {w : WorldT} (hw : w.ok) {known st term : Int} {ns : List (List Dp)} {ni n : Int} {ps : List PtT} (hp : ps.length ≤ 2000) {rs0 rs : List ReadT} {ats : List AttT} (hb : rs.length ≤ 999990000) (ha : ats.length ≤ 999990000) :
  CW Fp Γk (lkH w known rs0 0) false (.loop (sub Ix 1)) (oiS w known st term ns ni n (ps.map G5) rs ats 0) (.exit 2) { t:=mkT 67 0 [(0,.ref (.ptr 0 0)),(1,int st),(2,int term),(6,.ref (.ptr 2 0)),(16,ab ns),(17,int ns.length),(18,int ni)],h:=ofH w known st (ps.foldl (q9 w known n) (rs,ats)).1 (ps.foldl (q9 w known n) (rs,ats)).2,m:=[] }:=by
 have hl : ad ps:=by unfold ad; omega
 have:=Ha (P:=Fp) (Γ:=Γk) (h0:=lkH w known rs0 0) (rd:=false) (c:=sub Ix 1) (σ:=RA) (ρ:=Empty) ps (fun p s=>.inl (q9 w known n s p))
  (fun j s=>oiS w known st term ns ni n (ps.map G5) s.1 s.2 (j : Int)) (.exit 2) (fun s=>{ t:=mkT 67 0 [(0,.ref (.ptr 0 0)),(1,int st),(2,int term),(6,.ref (.ptr 2 0)),(16,ab ns),(17,int ns.length),(18,int ni)],h:=ofH w known st s.1 s.2,m:=[] }) (fun r=>r.elim)
  (fun j s=>s.1.length ≤ rs.length + j ∧ s.2.length ≤ ats.length + j) (by simp) (fun r=>r.elim) ?_ ?_ (rs,ats) (by simp)
 ·rw [aK] at this
  exact this
 ·intro j p s hpj hs
  have hi:=(Fy.1 hpj).1
  refine ⟨fun s' h=>by cases h; have:=uC (w:=w) (known:=known) (n:=n) (s:=s) p; omega,EF hw (rowAt hpj rfl) (lt_len _ hi) (wrap_succ hi hl) (by omega) (by omega)⟩
 ·intro s _
  exact EG (aC _ ps)
theorem bN {kk ks ko frm to known : Int} {l : List FactT} : (ba kk ks ko frm to known l).length ≤ 1024:=by
 have key : ∀ (rs : List Int) (ns : List Nat) (l : List PtT),(ns.foldl (fun l n=>ptF (rs.getD n 0) n l) l).length ≤ l.length + ns.length:=by
  intro rs ns
  induction ns with
  | nil=>intro l; simp
  | cons n ns ih=>intro l; have:=ih (ptF (rs.getD n 0) n l); have h2:=sR (rs.getD n 0) n l; simp only [GP,GF]; omega
 unfold ba yM
 refine H3 (key _ _ _) ?_
 have : uB to ≤ 1024:=by unfold uB; split <;> omega
 simp only [Hf,List.length_range']
 have : 0 ≤ ptLo frm:=oW frm
 omega
abbrev ooS (w : WorldT) (known st term : Int) (ns : List (List Dp)) (rs : List ReadT) (ats : List AttT) (i : Int) : AS :=
 { t:=mkT 67 0 [(0,.ref (.ptr 0 0)),(1,int st),(2,int term),(6,.ref (.ptr 2 0)),(16,ab ns),(17,int ns.length),(18,int i)],h:=ofH w known st rs ats,m:=[] }
def fw (w : WorldT) (known st term : Int) (s : RA) (n : Int) : RA:=(ba 5 st n 0 term known w.f).foldl (q9 w known n) (s.1 ++ [⟨5,st,n,0,term⟩],s.2)
noncomputable abbrev ny (w : WorldT) (known : Int) (st : Int) (rs : List ReadT) (ats : List AttT) : List Blk:=[.var [.ref (.vec 1 1),ab (Fo FE w.c),ab w.p,ab (Fo FF w.s),ab (Fo FC w.f),int known],.vec (ai (rdR rs)) 1 5,.var [int st,.ref (.vec 3 0)],.vec (ai (Fo Ft ats)) 0 5]
theorem EH {w : WorldT} (hw : w.ok) {known st term : Int} {ns : List (List Dp)} {n : Int} {rs0 rs : List ReadT} {ats : List AttT} {i : Nat} (hr : ah (i : Int) ns [vi n] 1) (hlt : decide ((i : Int) < (ns.length : Int)) = true) (hwr : Fs.wrap ((i : Int) + 1) = ((i + 1 : Nat) : Int)) (hb : rs.length ≤ 999980000) (ha : ats.length ≤ 999980000) : (CW Fp Γk (lkH w known rs0 0) false (sub Ix 0) (ooS w known st term ns rs ats i) .normal (ooS w known st term ns (fw w known st term (rs,ats) n).1 (fw w known st term (rs,ats) n).2 ((i + 1 : Nat) : Int))):=by
 have hl0:=(@oi_cw (w) (hw) (known) (st) (term) (ns) ((↑i : Int)) (n) (ba 5 st n 0 term known w.f) (by first | assumption | rfl | omega | exact bl _ _ | exact H3 bN (by omega) | (simp; omega)) (rs0) (rs ++ [{ kind:=5,sub:=st,obj:=n,frm:=0,til:=term }]) (ats) (by first | assumption | rfl | omega | exact bl _ _ | exact H3 bN (by omega) | (simp; omega)) (by first | assumption | rfl | omega | exact bl _ _ | exact H3 bN (by omega) | (simp; omega)))
 let v1 : List Blk:=[.var [.ref (.vec 1 2),ab (Fo FE w.c),ab w.p,ab (Fo FF w.s),ab (Fo FC w.f),int known],.vec (ai (rdR (rs ++ [{ kind:=5,sub:=st,obj:=n,frm:=0,til:=term }]))) 2 5,.var [int st,.ref (.vec 3 0)],.vec (ai (Fo Ft ats)) 0 5]
 let v2:=Gx (q9 w known n) (rs ++ [{ kind:=5,sub:=st,obj:=n,frm:=0,til:=term }],ats) (ba 5 st n 0 term known w.f)
 let v0 : List Blk:=[.var [.ref (.vec 1 1),ab (Fo FE w.c),ab w.p,ab (Fo FF w.s),ab (Fo FC w.f),int known],.vec (ai (rdR v2.fst)) 1 5,.var [int st,.ref (.vec 3 0)],.vec (ai (Fo Ft v2.snd)) 0 5]
 let v3:=ab (Fo G5 (ba 5 st n 0 term known w.f))
 refine zX { t:=mkT 67 0 [(0,.ref (.ptr 0 0)),(1,int st),(2,int term),(6,.ref (.ptr 2 0)),(16,ab ns),(17,int (↑(Fu ns) : Int)),(18,int (Fz Fs ((↑i : Int) + 1)))],h:=v0,m:=[] } FH [.st (.mask [0,1,2,6,16,17,18])] [.b true,.row [vi n],.call v3 v1,.st (.ren 1 1),.sum [0,1,2,6,8,16,17,18,26,27,28] (Gf 2) { t:=mkT 67 0 [(0,.ref (.ptr 0 0)),(1,int st),(2,int term),(6,.ref (.ptr 2 0)),(16,ab ns),(17,int (↑(Fu ns) : Int)),(18,int (↑i : Int))],h:=v0,m:=[] }] (.c hlt (.c hr (.c (show Ev Fp Γk 115 [.ref (.ptr 0 0),int st,int n,int term] (ny w known st rs ats) v3 v1 from (FP (GY (args:=[.ref (.ptr 0 0),int st,int n,int term]) (H:=(ny w known st rs ats)) [0,1] (Ev.upX [0,1] (@sW w hw known st n term rs (by subst v1 v2 v0 v3; omega)) (by kernel_rfl) ⟨?_,trivial⟩ ⟨?_,trivial⟩) (by kernel_rfl) (by kernel_rfl) (by kernel_rfl) ⟨?_,trivial⟩ ⟨?_,trivial⟩) (by kernel_rfl) (by kernel_rfl))) (.c (vM (rdR (rs ++ [{ kind:=5,sub:=st,obj:=n,frm:=0,til:=term }])) 1 2 1) (.c (vM (Fo Ft ats) 1 2 1) (.c hl0 .n)))))) (by subst v1 v2 v0 v3; rfl) (by subst v1 v2 v0 v3; (simp only [hwr]; rfl)) <;> subst v1 v2 v0 v3 <;> (exact am _ _)
theorem EI {w : WorldT} {known st term : Int} {ns : List (List Dp)} {rs0 rs : List ReadT} {ats : List AttT} {i : Nat} (hlt : decide ((i : Int) < (ns.length : Int)) = false) : (CW Fp Γk (lkH w known rs0 0) false (sub Ix 0) (ooS w known st term ns rs ats i) (.exit 0) { t:=mkT 67 0 [(6,.ref (.ptr 2 0))],h:=ofH w known st rs ats,m:=[] }):=by
 exact zx [.st (.mask [6])] [.b false] (.c hlt .n)
theorem nz {w : WorldT} {known n : Int} : ∀ (ps : List PtT) (s : RA),(ps.foldl (q9 w known n) s).1.length ≤ s.1.length + ps.length ∧ (ps.foldl (q9 w known n) s).2.length ≤ s.2.length + ps.length
 | [],s=>by simp
 | p :: ps,s=>by
  have h1:=uC (w:=w) (known:=known) (n:=n) (s:=s) p
  have h2:=nz (w:=w) (known:=known) (n:=n) ps (q9 w known n s p)
  simp only [GP,GF]
  omega
theorem yP {w : WorldT} {known st term : Int} (s : RA) (n : Int) : (fw w known st term s n).1.length ≤ s.1.length + 1025 ∧ (fw w known st term s n).2.length ≤ s.2.length + 1024:=by
 unfold fw
 have h1:=nz (w:=w) (known:=known) (n:=n) (ba 5 st n 0 term known w.f) (s.1 ++ [⟨5,st,n,0,term⟩],s.2)
 have h2:=bN (kk:=5) (ks:=st) (ko:=n) (frm:=0) (to:=term) (known:=known) (l:=w.f)
 simp only [GQ,GF,Hf] at h1
 omega
theorem oo_g {w : WorldT} (hw : w.ok) {known st term : Int} {ns : List Int} (hn : ns.length ≤ 69000) {rs0 rs : List ReadT} (hb : rs.length ≤ 800000000) {ats : List AttT} (ha : ats.length ≤ 1000) :
  CW Fp Γk (lkH w known rs0 0) false (.loop (sub Ix 0)) (ooS w known st term (ns.map fun n=>[vi n]) rs ats 0) (.exit 0) { t:=mkT 67 0 [(6,.ref (.ptr 2 0))],h:=ofH w known st (ns.foldl (fw w known st term) (rs,ats)).1 (ns.foldl (fw w known st term) (rs,ats)).2,m:=[] }:=by
 have hl : ad ns:=by unfold ad; omega
 have:=Ha (P:=Fp) (Γ:=Γk) (h0:=lkH w known rs0 0) (rd:=false) (c:=sub Ix 0) (σ:=RA) (ρ:=Empty) ns (fun n s=>.inl (fw w known st term s n))
  (fun i s=>ooS w known st term (ns.map fun n=>[vi n]) s.1 s.2 (i : Int)) (.exit 0) (fun s=>{ t:=mkT 67 0 [(6,.ref (.ptr 2 0))],h:=ofH w known st s.1 s.2,m:=[] }) (fun r=>r.elim)
  (fun i s=>s.1.length ≤ rs.length + i * 1025 ∧ s.2.length ≤ ats.length + i * 1025) (by simp) (fun r=>r.elim) ?_ ?_ (rs,ats) (by simp)
 ·rw [aK] at this
  exact this
 ·intro i n s hni hs
  have hi:=(Fy.1 hni).1
  refine ⟨fun s' h=>by cases h; have:=yP (w:=w) (known:=known) (st:=st) (term:=term) s n; omega,EH hw (rowAt (row:=fun n=>[vi n]) hni rfl) (lt_len (fun n=>[vi n]) hi) (wrap_succ hi hl) (by omega) (by omega)⟩
 ·intro s _
  exact EI (aC (fun n=>[vi n]) ns)
theorem oo_cw {w : WorldT} (hw : w.ok) {known st term : Int} {ns : List Int} (hn : ns.length ≤ 69000) {rs0 rs : List ReadT} (hb : rs.length ≤ 800000000) :
  CW Fp Γk (lkH w known rs0 0) false (.loop (sub Ix 0)) (ooS w known st term (ns.map fun n=>[vi n]) rs [] 0) (.exit 0) { t:=mkT 67 0 [(6,.ref (.ptr 2 0))],h:=ofH w known st (ns.foldl (fw w known st term) (rs,[])).1 (ns.foldl (fw w known st term) (rs,[])).2,m:=[] }:=oo_g hw hn hb (by simp)
def Ae (w : WorldT) (known st term : Int) (rs : List ReadT) : RA:=(aj w.f known).foldl (fw w known st term) (rs ++ [rdN],[])
def sZ (w : WorldT) (known st term : Int) (rs : List ReadT) : List AttT:=(Ae w known st term rs).2.mergeSort leA
theorem dW {fs : List FactT} {known : Int} : (aj fs known).length ≤ fs.length:=by
 have:=fd (many:=yz fs known) fs []
 simp only [Hf,Nat.zero_add] at this
 unfold aj c6
 simpa using this
noncomputable abbrev yQ (w : WorldT) (known : Int) (st : Int) (term : Int) (rs : List ReadT) : List Blk:=[.var [.ref (.vec 1 1),ab (Fo FE w.c),ab w.p,ab (Fo FF w.s),ab (Fo FC w.f),int known],.vec (ai (rdR (Gx (fw w known st term) (rs ++ [rdN],[]) (aj w.f known)).fst)) 1 5,.var [int st,.ref (.vec 3 0)],.vec (ai (Fo Ft (Gx (fw w known st term) (rs ++ [rdN],[]) (aj w.f known)).snd)) 0 5]
noncomputable abbrev yR (w : WorldT) (known : Int) (st : Int) (term : Int) (rs : List ReadT) : List Blk:=[.var [.ref (.vec 1 1),ab (Fo FE w.c),ab w.p,ab (Fo FF w.s),ab (Fo FC w.f),int known],.vec (ai (rdR (Gx (fw w known st term) (rs ++ [rdN],[]) (aj w.f known)).fst)) 1 5,.var [int st,.ref (.vec 3 0)],.vec (ai (Fo Ft (KQ (Ae w known st term rs).snd leA))) 0 5]
theorem of_a {w : WorldT} (hw : w.ok) {known st term : Int} {rs : List ReadT} (hb : rs.length ≤ 700000000) (hn : (aj w.f known).length ≤ 69000) (hl : (Ae w known st term rs).2.length < 4611686018427387904) (hT : ∀ x ∈ (Ae w known st term rs).2,∀ y ∈ (Ae w known st term rs).2,x.term = y.term → x.course = y.course → x = y) : (Ev Fp Γk 60 [.ref (.ptr 0 0),int st,int term] (lkH w known rs 0) (.agg [int st,ab ((sZ w known st term rs).map Ft)]) (lkH w known (Ae w known st term rs).1 1)):=by
 have hl0:=(@oo_cw (w) (hw) (known) (st) (term) (aj w.f known) (hn) (rs) (rs ++ [rdN]) (by first | assumption | rfl | omega | exact bl _ _ | exact cT | (simp; omega)))
 let v0 : List D:=[.ref (.vec 1 1),ab (Fo FE w.c),ab w.p,ab (Fo FF w.s),ab (Fo FC w.f),int known]
 let v1:=Fo Ft (sZ w known st term rs)
 let v2:=Gx (fw w known st term) (rs ++ [rdN],[]) (aj w.f known)
 let v3 : List Blk:=[.var [.ref (.vec 1 0),ab (Fo FE w.c),ab w.p,ab (Fo FF w.s),ab (Fo FC w.f),int known],.vec (ai (rdR rs)) 0 5,.var [int st,nq]]
 let v4 : List Blk:=[.var v0,.vec (ai (rdR (rs ++ [rdN]))) 1 5,.var [int st,nq]]
 refine FP (J1 (d2:=FU [int st,ab v1]) (h2:=[.var v0,.vec (ai (rdR v2.fst)) 1 5]) (φ:=[ai (Fo Ft (KQ (Ae w known st term rs).snd leA)) = Fo (fun x=>Fo D.p x) v1,Fo (D.mapRL (gf 3 0 v1)) (ai (rdR v2.fst)) = ai (rdR v2.fst),FL 2 (match 0 == 3 with | true=>.gone | false=>keepX (gf 3 0 v1) (.var v0)) = true,FL 2 (match 0 + 1 == 3 with | true=>.gone | false=>keepX (gf 3 0 v1) (.vec (ai (rdR v2.fst)) 1 5)) = true]) [.st (.frz 3 v1),.st (.trimV 2)] (Gz (h':=(yR w known st term rs)) (d:=FU [int st,.ref (.vec 3 0)]) pok [.call (ab (Fo (fun n=>[vi n]) (aj w.f known))) v4,.st (.nilC 2 1 5),.sum [0,1,2,6,16,17,18] (Gf 0) { t:=mkT 67 0 [(6,.ref (.ptr 2 0))],h:=(yQ w known st term rs),m:=[] },.call (FM []) (yR w known st term rs)] (by kernel_rfl) (.c (show Ev Fp Γk 62 [.ref (.ptr 0 0)] v3 (ab (Fo (fun n=>[vi n]) (aj w.f known))) v4 from (FP (GY (args:=[.ref (.ptr 0 0)]) (H:=v3) [0,1] (@Bl w hw known rs ?_) (by kernel_rfl) (by kernel_rfl) (by kernel_rfl) ⟨(by subst v0 v1 v2 v3 v4; exact am _ _),trivial⟩ ⟨(by subst v0 v1 v2 v3 v4; exact am _ _),trivial⟩) (by kernel_rfl) (by kernel_rfl))) (.c hl0 (.c (F1 (Γ':=Γk) (@sX (yQ w known st term rs) 3 0 ((Ae w known st term rs).snd) ?_ hl hT)) .n)))) (by kernel_rfl) ⟨?_,?_,rfl,?_,trivial⟩) (by rfl) (by rfl) <;> subst v0 v1 v2 v3 v4 <;> (first | rfl | omega | exact bl _ _ | exact cT)
def ptO (rs : List Int) (n : Nat) : Option PtT:=bif decide (rs.getD n 0 ≥ 0) then some ⟨(n : Int),rs.getD n 0⟩ else none
theorem EJ (rs : List Int) (x to : Int) : yM rs x to = (List.range' x.toNat (uB to - x).toNat).filterMap (ptO rs):=by
 have key : ∀ (ns : List Nat) (l : List PtT),ns.foldl (fun l n=>ptF (rs.getD n 0) n l) l = l ++ ns.filterMap (ptO rs):=by
  intro ns
  induction ns with
  | nil=>intro l; simp
  | cons n ns ih =>
   intro l
   rw [GP,ih,Lt]
   unfold ptF ptO
   cases decide (rs.getD n 0 ≥ 0) <;> simp
 unfold yM
 rw [key]; simp
theorem EK {rs : List Int} {x to : Int} : (yM rs x to).Pairwise fun p q=>p.term < q.term:=by
 rw [EJ]
 refine List.Pairwise.filterMap (R:=fun a b=>a < b) (ptO rs) ?_ (List.pairwise_lt_range' ..)
 intro a b hab p hp q hq
 unfold ptO at hp hq
 cases h1 : decide (rs.getD a 0 ≥ 0) <;> rw [h1] at hp <;> simp at hp
 cases h2 : decide (rs.getD b 0 ≥ 0) <;> rw [h2] at hq <;> simp at hq
 subst hp; subst hq
 simp; exact hab
theorem nA {kk ks ko frm to known : Int} {l : List FactT} : (ba kk ks ko frm to known l).Pairwise fun p q=>p.term < q.term:=EK
theorem yS {many : Int} {f : FactT} {l l' : List Int} (hl : l.Nodup) (h : nuF many f l = .inl l') : l'.Nodup:=by
 unfold nuF at h
 split at h
 ·simp at h
 ·simp only [Sum.inl.injEq] at h
  subst h
  cases hn : isNew f l
  ·simpa using hl
  ·simp only [cond_true]
   unfold isNew at hn
   simp only [FB,Bool.not_eq_true'] at hn
   have : f.sub ∉ l:=by
    have:=hn.2.2.2
    intro hm
    rw [List.contains_iff_mem.2 hm] at this
    simp at this
   rw [List.nodup_append]
   refine ⟨hl,by simp,?_⟩
   intro a ha b hb
   simp only [List.mem_singleton] at hb
   subst hb
   exact fun e=>this (e ▸ ha)
theorem nB {many : Int} : ∀ (fs : List FactT) (l : List Int),l.Nodup → (nuG (forL (nuF many) fs l)).Nodup
 | [],l,h=>by simpa [forL,nuG] using h
 | f :: fs,l,h=>by
  simp only [forL]
  cases hf : nuF many f l with
  | inl l'=>exact nB fs l' (yS h hf)
  | inr l' =>
   have : l' = l:=by
    unfold nuF at hf; split at hf
    ·simp at hf; exact hf.symm
    ·simp at hf
   subst this
   exact h
theorem mm {fs : List FactT} {known : Int} : (aj fs known).Nodup:=by
 unfold aj c6
 exact (List.mergeSort_perm _ _).nodup_iff.2 (nB fs [] List.nodup_nil)
def Ct (w : WorldT) (known n : Int) (p : PtT) : Option AttT:=bif attBad p then none else some (yO w known n p)
def rdO (n : Int) (p : PtT) : List ReadT:=bif attBad p then [] else rdT 1 n 0 p.term
theorem rb (w : WorldT) (known n : Int) : ∀ (ps : List PtT) (s : RA),ps.foldl (q9 w known n) s = (s.1 ++ ps.flatMap (rdO n),s.2 ++ ps.filterMap (Ct w known n))
 | [],s=>by simp
 | p :: ps,s=>by
  rw [GP,rb w known n ps,Lt,List.flatMap_cons]
  unfold q9 Ct rdO
  cases attBad p <;> simp
abbrev yT (w : WorldT) (known st term n : Int) : List PtT:=ba 5 st n 0 term known w.f
def eu (w : WorldT) (known st term n : Int) : List ReadT:=⟨5,st,n,0,term⟩ :: (yT w known st term n).flatMap (rdO n)
def fV (w : WorldT) (known st term n : Int) : List AttT:=(yT w known st term n).filterMap (Ct w known n)
theorem ofOut_eq (w : WorldT) (known st term : Int) (s : RA) (n : Int) : fw w known st term s n = (s.1 ++ eu w known st term n,s.2 ++ fV w known st term n):=by
 unfold fw
 rw [rb]
 simp [eu,fV]
theorem s4 (w : WorldT) (known st term : Int) (rs : List ReadT) : Ae w known st term rs = (rs ++ rdN :: (aj w.f known).flatMap (eu w known st term),(aj w.f known).flatMap (fV w known st term)):=by
 have key : ∀ (ns : List Int) (s : RA),ns.foldl (fw w known st term) s = (s.1 ++ ns.flatMap (eu w known st term),s.2 ++ ns.flatMap (fV w known st term)):=by
  intro ns
  induction ns with
  | nil=>intro s; simp
  | cons n ns ih=>intro s; rw [GP,ih,ofOut_eq]; simp
 unfold Ae
 rw [key]; simp
def fg (w : WorldT) (known st term : Int) : List ReadT:=rdN :: (aj w.f known).flatMap (eu w known st term)
def dL (w : WorldT) (known st term : Int) : List AttT:=(aj w.f known).flatMap (fV w known st term)
def vT (w : WorldT) (known st term : Int) : List AttT:=(dL w known st term).mergeSort leA
theorem dg {w : WorldT} {known st term n : Int} {a : AttT} (h : a ∈ fV w known st term n) : a.course = n ∧ ∃ p ∈ yT w known st term n,attBad p = false ∧ a = yO w known n p:=by
 unfold fV at h
 obtain ⟨p,hp,he⟩:=List.mem_filterMap.1 h
 unfold Ct at he
 cases hb : attBad p <;> rw [hb] at he <;> simp at he
 subst he
 exact ⟨rfl,p,hp,hb,rfl⟩
theorem uD {w : WorldT} {known st term : Int} : ∀ x ∈ dL w known st term,∀ y ∈ dL w known st term,x.term = y.term → x.course = y.course → x = y:=by
 intro x hx y hy ht hc
 obtain ⟨n,hn,hx⟩:=List.mem_flatMap.1 hx
 obtain ⟨n',hn',hy⟩:=List.mem_flatMap.1 hy
 obtain ⟨e1,p,hp,_,rfl⟩:=dg hx
 obtain ⟨e2,q,hq,_,rfl⟩:=dg hy
 have : n = n':=by rw [← e1,← e2,hc]
 subst this
 have hpq : p = q:=by
  have hinc:=nA (kk:=5) (ks:=st) (ko:=n) (frm:=0) (to:=term) (known:=known) (l:=w.f)
  have key : ∀ (l : List PtT),l.Pairwise (fun p q=>p.term < q.term) → ∀ p ∈ l,∀ q ∈ l,p.term = q.term → p = q:=by
   intro l
   induction l with
   | nil=>intro _ p hp; simp at hp
   | cons a l ih =>
    intro hl p hp q hq e
    rw [List.pairwise_cons] at hl
    rcases Gd.1 hp with hp1 | hp1 <;> rcases Gd.1 hq with hq1 | hq1
    ·rw [hp1,hq1]
    ·have:=hl.1 q hq1; rw [hp1] at e; omega
    ·have:=hl.1 p hp1; rw [hq1] at e; omega
    ·exact ih hl.2 p hp1 q hq1 e
  exact key _ hinc p hp q hq ht
 rw [hpq]
theorem fh {α β : Type} (f : α → List β) (k : Nat) : ∀ l : List α,(∀ a ∈ l,(f a).length ≤ k) → (l.flatMap f).length ≤ l.length * k
 | [],_=>by simp
 | a :: l,h=>by
  have:=fh f k l (fun b hb=>h b (by simp [hb]))
  have h1:=h a (by simp)
  simp only [List.flatMap_cons,GQ,GF,Nat.add_mul]
  omega
theorem nC {w : WorldT} (hw : w.ok) {known st term : Int} : (dL w known st term).length ≤ 70656000:=by
 have h1:=fh (fV w known st term) 1024 (aj w.f known) (fun n _=>H3 (List.length_filterMap_le ..) bN)
 have h2:=dW (fs:=w.f) (known:=known)
 have h3:=hw.lf
 unfold dL
 have : (aj w.f known).length * 1024 ≤ 69000 * 1024:=IV _ (by omega)
 omega
theorem s5 {w : WorldT} {known st term n : Int} : (eu w known st term n).length ≤ 1025:=by
 unfold eu
 have h1:=fh (rdO n) 1 (yT w known st term n) (fun p _=>by unfold rdO; cases attBad p <;> simp [rdT_len])
 have h2:=bN (kk:=5) (ks:=st) (ko:=n) (frm:=0) (to:=term) (known:=known) (l:=w.f)
 simp only [GF]
 simp only [yT] at h1 ⊢
 omega
theorem re {w : WorldT} (hw : w.ok) {known st term : Int} : (fg w known st term).length ≤ 70725001:=by
 have h1:=fh (eu w known st term) 1025 (aj w.f known) (fun n _=>s5)
 have h2:=dW (fs:=w.f) (known:=known)
 have h3:=hw.lf
 unfold fg
 have : (aj w.f known).length * 1025 ≤ 69000 * 1025:=IV _ (by omega)
 simp only [GF]
 omega
theorem Bm {w : WorldT} (hw : w.ok) {known st term : Int} {rs : List ReadT} (hb : rs.length ≤ 700000000) : Ev Fp Γk 60 [.ref (.ptr 0 0),int st,int term] (lkH w known rs 0) (.agg [int st,ab ((vT w known st term).map Ft)]) (lkH w known (rs ++ fg w known st term) 1):=by
 have h:=of_a hw (known:=known) (st:=st) (term:=term) hb (H3 dW hw.lf) (by rw [s4]; have:=nC hw (known:=known) (st:=st) (term:=term); unfold dL at this; simp only; omega) (by rw [s4]; exact uD)
 unfold sZ at h
 rw [s4] at h
 exact h
theorem recOf0 {w : WorldT} (hw : w.ok) {known st term : Int} : Ev Fp Γk 60 [.ref (.ptr 0 0),int st,int term] (lkH w known [] 0) (.agg [int st,ab ((vT w known st term).map Ft)]) (lkH w known (fg w known st term) 1):=by
 have:=Bm hw (known:=known) (st:=st) (term:=term) (rs:=[]) (by simp)
 simpa using this
def yU (st term : Int) : Bool:=!(decide (st ≥ 0) && decide (st ≤ 19999)) || !(decide (term ≥ 0) && decide (term ≤ 1024))
structure RecT where
 st : Int
 a : List AttT
def RecT.l (r : RecT) : List D:=[int r.st,ab (r.a.map Ft)]
def ew (w : WorldT) (st term known : Int) : RecT × List ReadT × Int:=match yU st term with
 | true=>(⟨0,[]⟩,[],150)
 | false=>(⟨st,vT w known st term⟩,fg w known st term,0)
def rofX (st term : Int) (rr : List ReadT) (aa : List AttT) : RecT × List ReadT × Int:=match yU st term with
 | true=>(⟨0,[]⟩,[],150)
 | false=>(⟨st,aa⟩,rr,0)
noncomputable abbrev kl (w : WorldT) : List Blk:=[.var [ab (Fo FE w.c),ab w.p,ab (Fo FF w.s),ab (Fo FC w.f)],.var [int 0,nq]]
theorem rof_a {w : WorldT} {st term known : Int} {rr : List ReadT} {aa : List AttT} (hof : Ev Fp Γk 60 [.ref (.ptr 0 0),int st,int term] (lkH w known [] 0) (.agg [int st,ab (aa.map Ft)]) (lkH w known rr 1)) (h : List Blk) : (Ev Fp Γk 23 [.agg w.l,int st,int term,int known] h (.tup [.agg (rofX st term rr aa).1.l,ab (rdR (rofX st term rr aa).2.1),int (rofX st term rr aa).2.2]) h):=by
 cases hc0 : !(decide (st ≥ 0) && decide (st ≤ 19999)) || !(decide (term ≥ 0) && decide (term ≤ 1024))
 ·let v0 : List Blk:=[.var (Gm w),.var [int 0,nq],.var [.ref (.vec 3 1),ab (Fo FE w.c),ab w.p,ab (Fo FF w.s),ab (Fo FC w.f),int known],.vec (ai (rdR rr)) 1 5]
  let v1 : List Blk:=[.var (Gm w),.var [int 0,nq],.var [.ref (.vec 3 0),ab (Fo FE w.c),ab w.p,ab (Fo FF w.s),ab (Fo FC w.f),int known],.vec [] 0 5]
  let v2 : List D:=[int st,ab (Fo Ft aa)]
  refine FP (Ev.nilW (z0 (d:=FM [FU v2,ab (rdR rr),int 0]) [.val (bool (decide (st ≥ 0) && decide (st ≤ 19999))),.val (bool (decide (term ≥ 0) && decide (term ≤ 1024))),.b false,.nx 1,.st (.nilC 2 0 5),.call (FU v2) v0,.st (.frz 3 (rdR rr))] (.c (F1 (Γ':=Γk) (@bc st 0 19999 (kl w))) (.c (gd (!!(decide (st ≥ 0) && decide (st ≤ 19999))) (F1 (Γ':=Γk) (@bc term 0 1024 (kl w)))) (.c hc0 (.c (show Ev Fp Γk 60 [.ref (.ptr 2 0),int st,int term] v1 (FU v2) v0 from (FP (GY (args:=[.ref (.ptr 2 0),int st,int term]) (H:=v1) [2,3] (@hof) (by kernel_rfl) (by kernel_rfl) (by kernel_rfl) ⟨?_,trivial⟩ ⟨?_,trivial⟩) (by kernel_rfl) (by kernel_rfl))) (.c (show ai (rdR rr) = Fo (fun x=>Fo D.p x) (rdR rr) from (by subst v0 v1 v2; rfl)) (.e (FU v2) (.e (.ref (.ptr 2 0)) (.e (.ref (.ptr 2 0)) (.e (.ref (.ptr 2 0)) (.e (.ref (.ptr 2 0)) (.e (ab (rdR rr)) (.e (ab (rdR rr)) .n)))))))))))) h)) (by subst v0 v1 v2; (have hh : yU st term = false:=hc0; simp only [rofX,hh]; rfl)) (by rfl) <;> subst v0 v1 v2 <;> (first | rfl | exact am _ _)
 ·exact FP (Ev.nilW (z0 (d:=FM [FU [int 0,nq],nq,int 150]) [.val (bool (decide (st ≥ 0) && decide (st ≤ 19999))),.val (bool (decide (term ≥ 0) && decide (term ≤ 1024))),.b true] (.c (F1 (Γ':=Γk) (@bc st 0 19999 (kl w))) (.c (gd (!!(decide (st ≥ 0) && decide (st ≤ 19999))) (F1 (Γ':=Γk) (@bc term 0 1024 (kl w)))) (.c hc0 .n))) h)) (by (have hh : yU st term = true:=hc0; simp only [rofX,hh]; rfl)) (by rfl)
theorem rof_ev {w : WorldT} (hw : w.ok) {st term known : Int} (h : List Blk) : Ev Fp Γk 23 [.agg w.l,int st,int term,int known] h (.tup [.agg (ew w st term known).1.l,ab (rdR (ew w st term known).2.1),int (ew w st term known).2.2]) h :=
 rof_a (recOf0 hw) h
def Bn (a : AttT) : Bool:=inB a.course 0 4095 && inB a.term 0 1023 && inB a.grade 0 12 && inB a.campus 0 6 && inB a.credits 0 60
def mn (o : Option AttT) (a : AttT) : Bool:=!Bn a || (match o with | none=>false | some b=>decide (wr b a ≥ 0))
abbrev rkS (st : Int) (as_ : List (List Dp)) (i : Int) : AS:={ t:=mkT 61 0 [(1,.ref (.ptr 0 0)),(2,int 0),(10,ab as_),(11,int as_.length),(12,int i)],h:=[.var [int st,ab as_]],m:=[] }
abbrev rkX : Unit → Exit × AS:=fun _=>(.ret,{ t:=mkT 61 0 [(2,int 150)],h:=[],m:=[] })
def rkF (p : Option AttT × AttT) (_ : Unit) : Unit ⊕ Unit:=bif mn p.1 p.2 then .inr () else .inl ()
theorem rk0 {a : AttT} {x : Bool} : (!(decide (a.course ≥ 0) && decide (a.course ≤ 4095)) || !(decide (a.term ≥ 0) && decide (a.term ≤ 1023)) || !(decide (a.grade ≥ 0) && decide (a.grade ≤ 12)) || !(decide (a.campus ≥ 0) && decide (a.campus ≤ 6)) || !(decide (a.credits ≥ 0) && decide (a.credits ≤ 60)) || decide ((0 : Int) > 0) && x) = mn none a:=by simp [mn,Bn,inB]
theorem rk1 {a b : AttT} {i : Nat} : (!(decide (a.course ≥ 0) && decide (a.course ≤ 4095)) || !(decide (a.term ≥ 0) && decide (a.term ≤ 1023)) || !(decide (a.grade ≥ 0) && decide (a.grade ≤ 12)) || !(decide (a.campus ≥ 0) && decide (a.campus ≤ 6)) || !(decide (a.credits ≥ 0) && decide (a.credits ≤ 60)) || decide (((i + 1 : Nat) : Int) > 0) && decide (orI (aN b.term a.term) (aN b.course a.course) ≥ 0)) = mn (some b) a:=by
 have : decide (((i + 1 : Nat) : Int) > 0) = true:=decide_eq_true (by omega)
 rw [this]
 simp [mn,Bn,inB,wr]
noncomputable abbrev aW (st : Int) (l : List AttT) (a : AttT) : List Blk:=[.var [int st,ab (Fo Ft l)],.var [int a.course,int a.term,int a.grade,int a.campus,int a.credits]]
theorem Bo {st : Int} {l : List AttT} {a : AttT} (hr : ah 0 (l.map Ft) a.row 5) (hlt : decide ((0 : Int) < ((l.map Ft).length : Int)) = true) : (CW Fp Γ0 [] false (sub J8 0) (rkS st (l.map Ft) 0) (ae (fun _=>rkS st (l.map Ft) 1) rkX (rkF (none,a) ())).1 (ae (fun _=>rkS st (l.map Ft) 1) rkX (rkF (none,a) ())).2):=by
 cases hc0 : !(decide (a.course ≥ 0) && decide (a.course ≤ 4095)) || !(decide (a.term ≥ 0) && decide (a.term ≤ 1023)) || !(decide (a.grade ≥ 0) && decide (a.grade ≤ 12)) || !(decide (a.campus ≥ 0) && decide (a.campus ≤ 6)) || !(decide (a.credits ≥ 0) && decide (a.credits ≤ 60)) || decide (0 > 0) && decide (orI (aN (FG l (FA (Fz Fs (0 - 1))) default).term a.term) (aN (FG l (FA (Fz Fs (0 - 1))) default).course a.course) ≥ 0)
 ·let v0:=FG l (FA (Fz Fs (0 - 1))) default
  refine zX { t:=mkT 61 0 [(1,.ref (.ptr 0 0)),(2,int 0),(10,ab (Fo Ft l)),(11,int (↑(Fu (Fo Ft l)) : Int)),(12,int (Fz Fs (0 + 1)))],h:=[.var [int st,ab (Fo Ft l)]],m:=[] } FH [.st (.mask [1,2,10,11,12]),.st (.trim 1)] [.b true,.row (Ft a),.val (bool (decide (a.course ≥ 0) && decide (a.course ≤ 4095))),.val (bool (decide (a.term ≥ 0) && decide (a.term ≤ 1023))),.val (bool (decide (a.grade ≥ 0) && decide (a.grade ≤ 12))),.val (bool (decide (a.campus ≥ 0) && decide (a.campus ≤ 6))),.val (bool (decide (a.credits ≥ 0) && decide (a.credits ≤ 60))),.row (Ft v0),.val (int (orI (aN v0.term a.term) (aN v0.course a.course))),.b false] (.c hlt (.c hr (.c (@bc (a.course) 0 4095 (aW st l a)) (.c (gd (!!(decide (a.course ≥ 0) && decide (a.course ≤ 4095))) (@bc (a.term) 0 1023 (aW st l a))) (.c (gd (!(!(decide (a.course ≥ 0) && decide (a.course ≤ 4095)) || !(decide (a.term ≥ 0) && decide (a.term ≤ 1023)))) (@bc (a.grade) 0 12 (aW st l a))) (.c (gd (!(!(decide (a.course ≥ 0) && decide (a.course ≤ 4095)) || !(decide (a.term ≥ 0) && decide (a.term ≤ 1023)) || !(decide (a.grade ≥ 0) && decide (a.grade ≤ 12)))) (@bc (a.campus) 0 6 (aW st l a))) (.c (gd (!(!(decide (a.course ≥ 0) && decide (a.course ≤ 4095)) || !(decide (a.term ≥ 0) && decide (a.term ≤ 1023)) || !(decide (a.grade ≥ 0) && decide (a.grade ≤ 12)) || !(decide (a.campus ≥ 0) && decide (a.campus ≤ 6)))) (@bc (a.credits) 0 60 (aW st l a))) (.c (show (!(!(decide (a.course ≥ 0) && decide (a.course ≤ 4095)) || !(decide (a.term ≥ 0) && decide (a.term ≤ 1023)) || !(decide (a.grade ≥ 0) && decide (a.grade ≤ 12)) || !(decide (a.campus ≥ 0) && decide (a.campus ≤ 6)) || !(decide (a.credits ≥ 0) && decide (a.credits ≤ 60))) && decide (0 > 0)) = true → ah (Fz Fs (0 - 1)) (Fo Ft l) (Ft v0) 5 from (fun hg=>(by subst v0; (exfalso; simp at hg; done)))) (.c (gd (!(!(decide (a.course ≥ 0) && decide (a.course ≤ 4095)) || !(decide (a.term ≥ 0) && decide (a.term ≤ 1023)) || !(decide (a.grade ≥ 0) && decide (a.grade ≤ 12)) || !(decide (a.campus ≥ 0) && decide (a.campus ≤ 6)) || !(decide (a.credits ≥ 0) && decide (a.credits ≤ 60))) && decide (0 > 0)) (@iy v0 a (aW st l a))) (.c hc0 .n)))))))))) ?_ ?_ <;> subst v0 <;> (have hh : mn none a = false:=rk0.symm.trans hc0; simp only [rkF,hh,cond_false]; first | done | rfl)
 ·let v0:=FG l (FA (Fz Fs (0 - 1))) default
  refine zX { t:=mkT 61 0 [(2,int 150)],h:=[],m:=[] } Gw [.st (.mask [2]),.st (.trim 0)] [.b true,.row (Ft a),.val (bool (decide (a.course ≥ 0) && decide (a.course ≤ 4095))),.val (bool (decide (a.term ≥ 0) && decide (a.term ≤ 1023))),.val (bool (decide (a.grade ≥ 0) && decide (a.grade ≤ 12))),.val (bool (decide (a.campus ≥ 0) && decide (a.campus ≤ 6))),.val (bool (decide (a.credits ≥ 0) && decide (a.credits ≤ 60))),.row (Ft v0),.val (int (orI (aN v0.term a.term) (aN v0.course a.course))),.b true] (.c hlt (.c hr (.c (@bc (a.course) 0 4095 (aW st l a)) (.c (gd (!!(decide (a.course ≥ 0) && decide (a.course ≤ 4095))) (@bc (a.term) 0 1023 (aW st l a))) (.c (gd (!(!(decide (a.course ≥ 0) && decide (a.course ≤ 4095)) || !(decide (a.term ≥ 0) && decide (a.term ≤ 1023)))) (@bc (a.grade) 0 12 (aW st l a))) (.c (gd (!(!(decide (a.course ≥ 0) && decide (a.course ≤ 4095)) || !(decide (a.term ≥ 0) && decide (a.term ≤ 1023)) || !(decide (a.grade ≥ 0) && decide (a.grade ≤ 12)))) (@bc (a.campus) 0 6 (aW st l a))) (.c (gd (!(!(decide (a.course ≥ 0) && decide (a.course ≤ 4095)) || !(decide (a.term ≥ 0) && decide (a.term ≤ 1023)) || !(decide (a.grade ≥ 0) && decide (a.grade ≤ 12)) || !(decide (a.campus ≥ 0) && decide (a.campus ≤ 6)))) (@bc (a.credits) 0 60 (aW st l a))) (.c (show (!(!(decide (a.course ≥ 0) && decide (a.course ≤ 4095)) || !(decide (a.term ≥ 0) && decide (a.term ≤ 1023)) || !(decide (a.grade ≥ 0) && decide (a.grade ≤ 12)) || !(decide (a.campus ≥ 0) && decide (a.campus ≤ 6)) || !(decide (a.credits ≥ 0) && decide (a.credits ≤ 60))) && decide (0 > 0)) = true → ah (Fz Fs (0 - 1)) (Fo Ft l) (Ft v0) 5 from (fun hg=>(by subst v0; (exfalso; simp at hg; done)))) (.c (gd (!(!(decide (a.course ≥ 0) && decide (a.course ≤ 4095)) || !(decide (a.term ≥ 0) && decide (a.term ≤ 1023)) || !(decide (a.grade ≥ 0) && decide (a.grade ≤ 12)) || !(decide (a.campus ≥ 0) && decide (a.campus ≤ 6)) || !(decide (a.credits ≥ 0) && decide (a.credits ≤ 60))) && decide (0 > 0)) (@iy v0 a (aW st l a))) (.c hc0 .n)))))))))) ?_ ?_ <;> subst v0 <;> (have hh : mn none a = true:=rk0.symm.trans hc0; simp only [rkF,hh,cond_true]; first | done | rfl)
noncomputable abbrev aX (st : Int) (as_ : List (List Dp)) (a : AttT) : List Blk:=[.var [int st,ab as_],.var [int a.course,int a.term,int a.grade,int a.campus,int a.credits]]
theorem Bp {st : Int} {as_ : List (List Dp)} {a b : AttT} {i : Nat} (hr : ah ((i + 1 : Nat) : Int) as_ a.row 5) (hb : ah (Fs.wrap (((i + 1 : Nat) : Int) - 1)) as_ b.row 5) (hlt : decide (((i + 1 : Nat) : Int) < (as_.length : Int)) = true) (hw : Fs.wrap (((i + 1 : Nat) : Int) + 1) = ((i + 1 + 1 : Nat) : Int)) : (CW Fp Γ0 [] false (sub J8 0) (rkS st as_ ((i + 1 : Nat) : Int)) (ae (fun _=>rkS st as_ ((i + 1 + 1 : Nat) : Int)) rkX (rkF (some b,a) ())).1 (ae (fun _=>rkS st as_ ((i + 1 + 1 : Nat) : Int)) rkX (rkF (some b,a) ())).2):=by
 cases hc0 : !(decide (a.course ≥ 0) && decide (a.course ≤ 4095)) || !(decide (a.term ≥ 0) && decide (a.term ≤ 1023)) || !(decide (a.grade ≥ 0) && decide (a.grade ≤ 12)) || !(decide (a.campus ≥ 0) && decide (a.campus ≤ 6)) || !(decide (a.credits ≥ 0) && decide (a.credits ≤ 60)) || decide ((↑(i + 1) : Int) > 0) && decide (orI (aN b.term a.term) (aN b.course a.course) ≥ 0)
 ·refine zX { t:=mkT 61 0 [(1,.ref (.ptr 0 0)),(2,int 0),(10,ab as_),(11,int (↑(Fu as_) : Int)),(12,int (Fz Fs ((↑(i + 1) : Int) + 1)))],h:=[.var [int st,ab as_]],m:=[] } FH [.st (.mask [1,2,10,11,12]),.st (.trim 1)] [.b true,.row (Ft a),.val (bool (decide (a.course ≥ 0) && decide (a.course ≤ 4095))),.val (bool (decide (a.term ≥ 0) && decide (a.term ≤ 1023))),.val (bool (decide (a.grade ≥ 0) && decide (a.grade ≤ 12))),.val (bool (decide (a.campus ≥ 0) && decide (a.campus ≤ 6))),.val (bool (decide (a.credits ≥ 0) && decide (a.credits ≤ 60))),.row (Ft b),.val (int (orI (aN b.term a.term) (aN b.course a.course))),.b false] (.c hlt (.c hr (.c (@bc (a.course) 0 4095 (aX st as_ a)) (.c (gd (!!(decide (a.course ≥ 0) && decide (a.course ≤ 4095))) (@bc (a.term) 0 1023 (aX st as_ a))) (.c (gd (!(!(decide (a.course ≥ 0) && decide (a.course ≤ 4095)) || !(decide (a.term ≥ 0) && decide (a.term ≤ 1023)))) (@bc (a.grade) 0 12 (aX st as_ a))) (.c (gd (!(!(decide (a.course ≥ 0) && decide (a.course ≤ 4095)) || !(decide (a.term ≥ 0) && decide (a.term ≤ 1023)) || !(decide (a.grade ≥ 0) && decide (a.grade ≤ 12)))) (@bc (a.campus) 0 6 (aX st as_ a))) (.c (gd (!(!(decide (a.course ≥ 0) && decide (a.course ≤ 4095)) || !(decide (a.term ≥ 0) && decide (a.term ≤ 1023)) || !(decide (a.grade ≥ 0) && decide (a.grade ≤ 12)) || !(decide (a.campus ≥ 0) && decide (a.campus ≤ 6)))) (@bc (a.credits) 0 60 (aX st as_ a))) (.c (show (!(!(decide (a.course ≥ 0) && decide (a.course ≤ 4095)) || !(decide (a.term ≥ 0) && decide (a.term ≤ 1023)) || !(decide (a.grade ≥ 0) && decide (a.grade ≤ 12)) || !(decide (a.campus ≥ 0) && decide (a.campus ≤ 6)) || !(decide (a.credits ≥ 0) && decide (a.credits ≤ 60))) && decide ((↑(i + 1) : Int) > 0)) = true → ah (Fz Fs ((↑(i + 1) : Int) - 1)) as_ (Ft b) 5 from (fun hg=>hb)) (.c (gd (!(!(decide (a.course ≥ 0) && decide (a.course ≤ 4095)) || !(decide (a.term ≥ 0) && decide (a.term ≤ 1023)) || !(decide (a.grade ≥ 0) && decide (a.grade ≤ 12)) || !(decide (a.campus ≥ 0) && decide (a.campus ≤ 6)) || !(decide (a.credits ≥ 0) && decide (a.credits ≤ 60))) && decide ((↑(i + 1) : Int) > 0)) (@iy b a (aX st as_ a))) (.c hc0 .n)))))))))) ?_ ?_ <;> (have hh : mn (some b) a = false:=(rk1 (i:=i)).symm.trans hc0; simp only [rkF,hh,cond_false]; first | done | rfl | (rw [hw]; rfl))
 ·refine zX { t:=mkT 61 0 [(2,int 150)],h:=[],m:=[] } Gw [.st (.mask [2]),.st (.trim 0)] [.b true,.row (Ft a),.val (bool (decide (a.course ≥ 0) && decide (a.course ≤ 4095))),.val (bool (decide (a.term ≥ 0) && decide (a.term ≤ 1023))),.val (bool (decide (a.grade ≥ 0) && decide (a.grade ≤ 12))),.val (bool (decide (a.campus ≥ 0) && decide (a.campus ≤ 6))),.val (bool (decide (a.credits ≥ 0) && decide (a.credits ≤ 60))),.row (Ft b),.val (int (orI (aN b.term a.term) (aN b.course a.course))),.b true] (.c hlt (.c hr (.c (@bc (a.course) 0 4095 (aX st as_ a)) (.c (gd (!!(decide (a.course ≥ 0) && decide (a.course ≤ 4095))) (@bc (a.term) 0 1023 (aX st as_ a))) (.c (gd (!(!(decide (a.course ≥ 0) && decide (a.course ≤ 4095)) || !(decide (a.term ≥ 0) && decide (a.term ≤ 1023)))) (@bc (a.grade) 0 12 (aX st as_ a))) (.c (gd (!(!(decide (a.course ≥ 0) && decide (a.course ≤ 4095)) || !(decide (a.term ≥ 0) && decide (a.term ≤ 1023)) || !(decide (a.grade ≥ 0) && decide (a.grade ≤ 12)))) (@bc (a.campus) 0 6 (aX st as_ a))) (.c (gd (!(!(decide (a.course ≥ 0) && decide (a.course ≤ 4095)) || !(decide (a.term ≥ 0) && decide (a.term ≤ 1023)) || !(decide (a.grade ≥ 0) && decide (a.grade ≤ 12)) || !(decide (a.campus ≥ 0) && decide (a.campus ≤ 6)))) (@bc (a.credits) 0 60 (aX st as_ a))) (.c (show (!(!(decide (a.course ≥ 0) && decide (a.course ≤ 4095)) || !(decide (a.term ≥ 0) && decide (a.term ≤ 1023)) || !(decide (a.grade ≥ 0) && decide (a.grade ≤ 12)) || !(decide (a.campus ≥ 0) && decide (a.campus ≤ 6)) || !(decide (a.credits ≥ 0) && decide (a.credits ≤ 60))) && decide ((↑(i + 1) : Int) > 0)) = true → ah (Fz Fs ((↑(i + 1) : Int) - 1)) as_ (Ft b) 5 from (fun hg=>hb)) (.c (gd (!(!(decide (a.course ≥ 0) && decide (a.course ≤ 4095)) || !(decide (a.term ≥ 0) && decide (a.term ≤ 1023)) || !(decide (a.grade ≥ 0) && decide (a.grade ≤ 12)) || !(decide (a.campus ≥ 0) && decide (a.campus ≤ 6)) || !(decide (a.credits ≥ 0) && decide (a.credits ≤ 60))) && decide ((↑(i + 1) : Int) > 0)) (@iy b a (aX st as_ a))) (.c hc0 .n)))))))))) ?_ ?_ <;> (have hh : mn (some b) a = true:=(rk1 (i:=i)).symm.trans hc0; simp only [rkF,hh,cond_true]; first | done | rfl)
theorem EL {st : Int} {as_ : List (List Dp)} {i : Nat} (hlt : decide ((i : Int) < (as_.length : Int)) = false) : (CW Fp Γ0 [] false (sub J8 0) (rkS st as_ i) (.exit 0) { t:=mkT 61 0 [(2,int 0)],h:=[],m:=[] }):=by
 exact zx [.st (.mask [2]),.st (.trim 0)] [.b false] (.c hlt .n)
def fy (l : List AttT) : List (Option AttT × AttT):=(none :: l.map some).zip l
def EM (l : List AttT) : Exit × AS:=aV (.exit 0) (fun _ : Unit=>{ t:=mkT 61 0 [(2,int 0)],h:=[],m:=[] }) rkX (forL rkF (fy l) ())
theorem rk_cw {st : Int} {l : List AttT} (hl : ad l) :
  CW Fp Γ0 [] false (.loop (sub J8 0)) (rkS st (l.map Ft) 0) (EM l).1 (EM l).2:=by
 have hlen : (fy l).length = l.length:=by simp [fy]
 have:=Ha (P:=Fp) (Γ:=Γ0) (h0:=[]) (rd:=false) (c:=sub J8 0) (fy l) rkF (fun i _=>rkS st (l.map Ft) (i : Int)) (.exit 0) (fun _ : Unit=>{ t:=mkT 61 0 [(2,int 0)],h:=[],m:=[] }) rkX (fun _ _=>True) (by simp) (fun _=>by simp) ?_ ?_ () trivial
 ·exact this
 ·intro i p u hp _
  obtain ⟨hi,he⟩:=Fy.1 hp
  rw [hlen] at hi
  have h2 : l[i]? = some p.2:=by subst he; simp [fy,FK hi]
  refine ⟨fun _ _=>trivial,?_⟩
  obtain ⟨o,a⟩:=p
  cases i with
  | zero =>
   have ho : o = none:=by have:=congrArg Prod.fst he; simpa [fy] using this.symm
   subst ho
   exact Bo (rowAt h2 rfl) (lt_len Ft hi)
  | succ i =>
   have h1 : l[i]? = some (l[i]'(by omega)):=FK _
   have ho : o = some (l[i]'(by omega)):=by have:=congrArg Prod.fst he; simpa [fy] using this.symm
   subst ho
   refine Bp (rowAt h2 rfl) ?_ (lt_len Ft hi) (wrap_succ hi hl)
   have : Fs.wrap (((i + 1 : Nat) : Int) - 1) = (i : Int):=by
    have:=hl; unfold ad at this
    rw [wrap_i64 (by omega) (by omega)]; omega
   rw [this]
   exact rowAt h1 rfl
 ·intro u _
  rw [hlen]
  exact EL (aC Ft l)
def aL (r : RecT) : Int:=bif !(decide (r.st ≥ 0) && decide (r.st ≤ 19999)) then 150 else match forL rkF (fy r.a) () with | .inl _=>0 | .inr _=>150
theorem jy {r : RecT} (hl : ad r.a) (h : List Blk) : (Ev Fp Γ0 30 [.agg r.l] h (int (aL r)) h):=by
 cases hc0 : !(decide (r.st ≥ 0) && decide (r.st ≤ 19999))
 ·have hl1:=(@rk_cw (r.st) (r.a) (hl))
  unfold EM at hl1
  revert hl1
  cases ho2 : forL rkF (fy r.a) () with
  | inl o2_0_0 =>
   intro hl1
   exact zD (int 0) [.val (bool (decide (r.st ≥ 0) && decide (r.st ≤ 19999))),.b false,.sum [1,2,10,11,12] (Gf 0) { t:=mkT 61 0 [(2,int 0)],h:=[],m:=[] }] (.c (@bc (r.st) 0 19999 ([.var [int r.st,ab (Fo Ft r.a)]])) (.c hc0 (.c hl1 .n))) h (by simp only [aL,hc0,ho2,cond_false])
  | inr o2_1_0 =>
   intro hl1
   exact zD (int 150) [.val (bool (decide (r.st ≥ 0) && decide (r.st ≤ 19999))),.b false,.sum [1,2,10,11,12] (Gw) { t:=mkT 61 0 [(2,int 150)],h:=[],m:=[] }] (.c (@bc (r.st) 0 19999 ([.var [int r.st,ab (Fo Ft r.a)]])) (.c hc0 (.c hl1 .n))) h (by simp only [aL,hc0,ho2,cond_false])
 ·exact zD (int 150) [.val (bool (decide (r.st ≥ 0) && decide (r.st ≤ 19999))),.b true] (.c (@bc (r.st) 0 19999 ([.var [int r.st,ab (Fo Ft r.a)]])) (.c hc0 .n)) h (by simp only [aL,hc0,cond_true])
theorem rf {a b : Int} (ha : I64 a) (hb : I64 b) (h : List Blk) : (Ev Fp Γ0 222 [.agg [int a,int b]] h (bool (fP a b)) h):=by
 exact z0 [.val (int (bi a b))] (.c (@cG a b ha hb ([.var [int a,int b]])) .n) h
def bo (c : Cls) : Bool:=decide (c.earn ≥ 0) && decide (c.earn ≤ 10000) && fP c.num c.den
theorem Bq (c : Cls) : bo c = mj c:=by simp [bo,mj,fP,inB,Bool.and_assoc]
abbrev k4S (l : List (List Dp)) (i : Int) : AS:={ t:=mkT 26 0 [(0,ab l),(2,bool false),(3,int i)],h:=[],m:=[] }
abbrev k4E : AS:={ t:=mkT 26 0 [],h:=[],m:=[] }
abbrev k4X : Unit → Exit × AS:=fun _=>(.ret,{ t:=mkT 26 0 [(2,bool false)],h:=[],m:=[] })
def iG {α : Type} (p : α → Bool) (a : α) (_ : Unit) : Unit ⊕ Unit:=bif p a then .inr () else .inl ()
theorem oZ {α : Type} (p : α → Bool) : ∀ l : List α,forL (iG p) l () = bif l.any p then .inr () else .inl ()
 | []=>rfl
 | a :: l=>by
  simp only [forL,iG,List.any_cons]
  cases p a
  ·simpa using oZ p l
  ·rfl
theorem EN {l : List (List Dp)} {c : Cls} (hc : c.ok) {i : Nat} (hr : ah (i : Int) l c.row 4) (hlt : decide ((i : Int) < (l.length : Int)) = true) (hw : Fs.wrap ((i : Int) + 1) = ((i + 1 : Nat) : Int)) : (CW Fp Γ0 [] false (sub Tryz.f189 0) (k4S l i) (ae (fun _ : Unit=>k4S l ((i + 1 : Nat) : Int)) k4X (iG (fun c=>!bo c) c ())).1 (ae (fun _ : Unit=>k4S l ((i + 1 : Nat) : Int)) k4X (iG (fun c=>!bo c) c ())).2):=by
 cases hc0 : !(decide (c.earn ≥ 0) && decide (c.earn ≤ 10000))
 ·cases hc1 : !fP c.num c.den
  ·refine zX { t:=mkT 26 0 [(0,ab l),(2,bool false),(3,int (Fz Fs ((↑i : Int) + 1)))],h:=[],m:=[] } FH [.st (.mask [0,2,3])] [.b true,.row [vs c.name,vi c.earn,vi c.num,vi c.den],.val (bool (decide (c.earn ≥ 0) && decide (c.earn ≤ 10000))),.g true,.g true,.g true,.row [vs c.name,vi c.earn,vi c.num,vi c.den],.g true,.g true,.g true,.val (bool (fP c.num c.den)),.g true,.ov 25 (bool !fP c.num c.den),.b false] (.c hlt (.c hr (.c (@aJ (c.earn) 0 10000 ([])) (.c (eqc hc0) (.c (eqc hc0) (.c (eqc hc0) (.c hr (.c (eqc hc0) (.c (eqc hc0) (.c (eqc hc0) (.c (@rf (c.num) (c.den) ?_ ?_ ([])) (.c (eqc hc0) (.c (pkf (bool true) (bool !fP c.num c.den) hc0) (.c hc1 .n)))))))))))))) (by (have hh : bo c = true:=(by simp only [bo]; simp_all); simp only [iG,hh,IE,cond_false]; first | done | rfl)) (by (have hh : bo c = true:=(by simp only [bo]; simp_all); simp only [iG,hh,hw,IE,cond_false]; first | done | rfl)) <;> (first | exact hc.2.1 | exact hc.2.2)
  ·refine zX { t:=mkT 26 0 [(2,bool false)],h:=[],m:=[] } Gw [.st (.mask [2])] [.b true,.row [vs c.name,vi c.earn,vi c.num,vi c.den],.val (bool (decide (c.earn ≥ 0) && decide (c.earn ≤ 10000))),.g true,.g true,.g true,.row [vs c.name,vi c.earn,vi c.num,vi c.den],.g true,.g true,.g true,.val (bool (fP c.num c.den)),.g true,.ov 25 (bool !fP c.num c.den),.b true] (.c hlt (.c hr (.c (@aJ (c.earn) 0 10000 ([])) (.c (eqc hc0) (.c (eqc hc0) (.c (eqc hc0) (.c hr (.c (eqc hc0) (.c (eqc hc0) (.c (eqc hc0) (.c (@rf (c.num) (c.den) ?_ ?_ ([])) (.c (eqc hc0) (.c (pkf (bool true) (bool !fP c.num c.den) hc0) (.c hc1 .n)))))))))))))) (by (have hh : bo c = false:=(by simp only [bo]; simp_all <;> (intros; omega)); simp only [iG,hh,HF,cond_true]; first | done | rfl)) (by (have hh : bo c = false:=(by simp only [bo]; simp_all <;> (intros; omega)); simp only [iG,hh,HF,cond_true]; first | done | rfl)) <;> (first | exact hc.2.1 | exact hc.2.2)
 ·refine zX { t:=mkT 26 0 [(2,bool false)],h:=[],m:=[] } Gw [.st (.mask [2])] [.b true,.row [vs c.name,vi c.earn,vi c.num,vi c.den],.val (bool (decide (c.earn ≥ 0) && decide (c.earn ≤ 10000))),.g false,.g false,.g false,.g false,.g false,.g false,.g false,.ov 25 (bool true),.b true] (.c hlt (.c hr (.c (@aJ (c.earn) 0 10000 ([])) (.c (eqd hc0) (.c (eqd hc0) (.c (eqd hc0) (.c (eqd hc0) (.c (eqd hc0) (.c (eqd hc0) (.c (eqd hc0) (.c (pkt (bool true) (D.p (Dp.v (Value.tuple { toList:=[] }))) hc0) (.er true .n)))))))))))) ?_ ?_ <;> ((have hh : bo c = false:=(by simp only [bo]; simp_all <;> (intros; omega)); simp only [iG,hh,HF,cond_true]; first | done | rfl))
theorem EO {l : List (List Dp)} {i : Nat} (hlt : decide ((i : Int) < (l.length : Int)) = false) : (CW Fp Γ0 [] false (sub Tryz.f189 0) (k4S l i) (.exit 0) k4E):=by
 exact zx [.st (.mask [])] [.b false] (.c hlt .n)
def EP (l : List Cls) : Exit × AS:=aV (.exit 0) (fun _ : Unit=>k4E) k4X (forL (iG fun c=>!bo c) l ())
theorem k4_cw {l : List Cls} (hl : ad l) (ho : ∀ c ∈ l,c.ok) : CW Fp Γ0 [] false (.loop (sub Tryz.f189 0)) (k4S (l.map Gh) 0) (EP l).1 (EP l).2:=by
 refine Ha l (iG fun c=>!bo c) (fun i _=>k4S (l.map Gh) (i : Int)) (.exit 0) (fun _=>k4E) k4X (fun _ _=>True) (by simp) (fun _=>by simp []) ?_ ?_ () trivial
 ·intro i c _ hc _
  have hi:=(Fy.1 hc).1
  exact ⟨fun _ _=>trivial,EN (ho c (List.mem_of_getElem? hc)) (rowAt hc rfl) (lt_len _ hi) (wrap_succ hi hl)⟩
 ·intro _ _
  exact EO (aC _ l)
def j8 {α : Type} (p : α → Bool) (l : List α) : Bool:=match forL (iG p) l () with | .inl _=>true | .inr _=>false
theorem uE {α : Type} (p : α → Bool) (l : List α) : j8 p l = !l.any p:=by unfold j8; rw [oZ]; cases l.any p <;> rfl
theorem uF {l : List Cls} (hl : ad l) (ho : ∀ c ∈ l,c.ok) (h : List Blk) : (Ev Fp Γ0 189 [ab (l.map Gh)] h (bool (j8 (fun c=>!bo c) l)) h):=by
 have hl0:=(@k4_cw (l) (hl) (ho))
 unfold EP at hl0
 revert hl0
 cases ho1 : forL (iG fun c=>!bo c) l () with
 | inl o1_0_0 =>
  intro hl0
  exact zD (bool true) [.sum [0,2,3] (Gf 0) { t:=mkT 26 0 [],h:=[],m:=[] }] (.c hl0 .n) h (by simp only [j8,ho1])
 | inr o1_1_0 =>
  intro hl0
  exact zD (bool false) [.sum [0,2,3] (Gw) { t:=mkT 26 0 [(2,bool false)],h:=[],m:=[] }] (.c hl0 .n) h (by simp only [j8,ho1])
abbrev f4S (s : SysT) (i : Int) : AS:={ t:=mkT 63 0 [(1,.ref (.ptr 0 0)),(2,bool false),(3,int i)],h:=[.var (s.row.map .p)],m:=[] }
abbrev f4E (s : SysT) : AS:={ t:=mkT 63 0 [(1,.ref (.ptr 0 0)),(2,bool false)],h:=[.var (s.row.map .p)],m:=[] }
abbrev f4X : Unit → Exit × AS:=fun _=>(.ret,{ t:=mkT 63 0 [(2,bool false)],h:=[],m:=[] })
noncomputable abbrev jz (s : SysT) : List Blk:=[.var [ab (Fo Gh s.classes),ab (Fo GV s.fees),ab (Fo Gh s.honours),ab (Fo GE s.clauses)]]
theorem EQ {s : SysT} {f : FeeT} {i : Nat} (hr : ah (i : Int) (s.fees.map GV) f.row 2) (hlt : decide ((i : Int) < ((s.fees.map GV).length : Int)) = true) (hw : Fs.wrap ((i : Int) + 1) = ((i + 1 : Nat) : Int)) : (CW Fp Γ0 [] false (sub Jq 0) (f4S s i) (ae (fun _ : Unit=>f4S s ((i + 1 : Nat) : Int)) f4X (iG (fun f=>!ek f) f ())).1 (ae (fun _ : Unit=>f4S s ((i + 1 : Nat) : Int)) f4X (iG (fun f=>!ek f) f ())).2):=by
 cases hc0 : !(decide (f.credits ≥ 0) && decide (f.credits ≤ 10000))
 ·refine zX { t:=mkT 63 0 [(1,.ref (.ptr 0 0)),(2,bool false),(3,int (Fz Fs ((↑i : Int) + 1)))],h:=(jz s),m:=[] } FH [.st (.mask [1,2,3])] [.b true,.row [vs f.name,vi f.credits],.val (bool (decide (f.credits ≥ 0) && decide (f.credits ≤ 10000))),.b false] (.c hlt (.c hr (.c (@aJ (f.credits) 0 10000 (jz s)) (.c hc0 .n)))) ?_ ?_ <;> ((have hh : (!ek f) = false:=hc0; simp only [iG,hh,hw,cond_false]; first | done | rfl))
 ·refine zX { t:=mkT 63 0 [(2,bool false)],h:=[],m:=[] } Gw [.st (.mask [2]),.st (.trim 0)] [.b true,.row [vs f.name,vi f.credits],.val (bool (decide (f.credits ≥ 0) && decide (f.credits ≤ 10000))),.b true] (.c hlt (.c hr (.c (@aJ (f.credits) 0 10000 (jz s)) (.c hc0 .n)))) ?_ ?_ <;> ((have hh : (!ek f) = true:=hc0; simp only [iG,hh,cond_true]; first | done | rfl))
theorem ER {s : SysT} {i : Nat} (hlt : decide ((i : Int) < ((s.fees.map GV).length : Int)) = false) : (CW Fp Γ0 [] false (sub Jq 0) (f4S s i) (.exit 0) (f4E s)):=by
 exact zx [.st (.mask [1,2])] [.b false] (.c hlt .n)
def ES (s : SysT) : Exit × AS:=aV (.exit 0) (fun _ : Unit=>f4E s) f4X (forL (iG fun f=>!ek f) s.fees ())
theorem f4_cw {s : SysT} (hl : ad s.fees) : CW Fp Γ0 [] false (.loop (sub Jq 0)) (f4S s 0) (ES s).1 (ES s).2:=by
 refine Ha s.fees (iG fun f=>!ek f) (fun i _=>f4S s (i : Int)) (.exit 0) (fun _=>f4E s) f4X (fun _ _=>True) (by simp) (fun _=>by simp []) ?_ ?_ () trivial
 ·intro i c _ hc _
  have hi:=(Fy.1 hc).1
  exact ⟨fun _ _=>trivial,EQ (rowAt hc rfl) (lt_len _ hi) (wrap_succ hi hl)⟩
 ·intro _ _
  exact ER (aC _ s.fees)
abbrev l4S (s : SysT) (i : Int) : AS:={ t:=mkT 63 0 [(1,.ref (.ptr 0 0)),(2,bool false),(4,int i)],h:=[.var (s.row.map .p)],m:=[] }
noncomputable abbrev b7 (s : SysT) (c : ClauseT) : List Blk:=[.var [ab (Fo Gh s.classes),ab (Fo GV s.fees),ab (Fo Gh s.honours),ab (Fo GE s.clauses)],.var [int c.kind,int c.when_,int c.action,int c.til]]
theorem ET {s : SysT} {c : ClauseT} {i : Nat} (hr : ah (i : Int) (s.clauses.map GE) c.row 4) (hlt : decide ((i : Int) < ((s.clauses.map GE).length : Int)) = true) (hw : Fs.wrap ((i : Int) + 1) = ((i + 1 : Nat) : Int)) : (CW Fp Γ0 [] false (sub Jq 1) (l4S s i) (ae (fun _ : Unit=>l4S s ((i + 1 : Nat) : Int)) f4X (iG (fun c=>!l6 c) c ())).1 (ae (fun _ : Unit=>l4S s ((i + 1 : Nat) : Int)) f4X (iG (fun c=>!l6 c) c ())).2):=by
 cases hc0 : !(decide (c.kind ≥ 1) && decide (c.kind ≤ 5)) || !(decide (c.when_ ≥ 0) && decide (c.when_ ≤ 2)) || !(decide (c.action ≥ 1) && decide (c.action ≤ 3)) || !(decide (c.til ≥ 0) && decide (c.til ≤ 12))
 ·refine zX { t:=mkT 63 0 [(1,.ref (.ptr 0 0)),(2,bool false),(4,int (Fz Fs ((↑i : Int) + 1)))],h:=[.var [ab (Fo Gh s.classes),ab (Fo GV s.fees),ab (Fo Gh s.honours),ab (Fo GE s.clauses)]],m:=[] } FH [.st (.mask [1,2,4]),.st (.trim 1)] [.b true,.row [vi c.kind,vi c.when_,vi c.action,vi c.til],.val (bool (decide (c.kind ≥ 1) && decide (c.kind ≤ 5))),.val (bool (decide (c.when_ ≥ 0) && decide (c.when_ ≤ 2))),.val (bool (decide (c.action ≥ 1) && decide (c.action ≤ 3))),.val (bool (decide (c.til ≥ 0) && decide (c.til ≤ 12))),.b false] (.c hlt (.c hr (.c (@aJ (c.kind) 1 5 (b7 s c)) (.c (gd (!!(decide (c.kind ≥ 1) && decide (c.kind ≤ 5))) (@aJ (c.when_) 0 2 (b7 s c))) (.c (gd (!(!(decide (c.kind ≥ 1) && decide (c.kind ≤ 5)) || !(decide (c.when_ ≥ 0) && decide (c.when_ ≤ 2)))) (@aJ (c.action) 1 3 (b7 s c))) (.c (gd (!(!(decide (c.kind ≥ 1) && decide (c.kind ≤ 5)) || !(decide (c.when_ ≥ 0) && decide (c.when_ ≤ 2)) || !(decide (c.action ≥ 1) && decide (c.action ≤ 3)))) (@aJ (c.til) 0 12 (b7 s c))) (.c hc0 .n))))))) ?_ ?_ <;> ((have hh : (!l6 c) = false:=(by rw [← hc0]; simp [l6,inB]); simp only [iG,hh,hw,cond_false]; first | done | rfl))
 ·refine zX { t:=mkT 63 0 [(2,bool false)],h:=[],m:=[] } Gw [.st (.mask [2]),.st (.trim 0)] [.b true,.row [vi c.kind,vi c.when_,vi c.action,vi c.til],.val (bool (decide (c.kind ≥ 1) && decide (c.kind ≤ 5))),.val (bool (decide (c.when_ ≥ 0) && decide (c.when_ ≤ 2))),.val (bool (decide (c.action ≥ 1) && decide (c.action ≤ 3))),.val (bool (decide (c.til ≥ 0) && decide (c.til ≤ 12))),.b true] (.c hlt (.c hr (.c (@aJ (c.kind) 1 5 (b7 s c)) (.c (gd (!!(decide (c.kind ≥ 1) && decide (c.kind ≤ 5))) (@aJ (c.when_) 0 2 (b7 s c))) (.c (gd (!(!(decide (c.kind ≥ 1) && decide (c.kind ≤ 5)) || !(decide (c.when_ ≥ 0) && decide (c.when_ ≤ 2)))) (@aJ (c.action) 1 3 (b7 s c))) (.c (gd (!(!(decide (c.kind ≥ 1) && decide (c.kind ≤ 5)) || !(decide (c.when_ ≥ 0) && decide (c.when_ ≤ 2)) || !(decide (c.action ≥ 1) && decide (c.action ≤ 3)))) (@aJ (c.til) 0 12 (b7 s c))) (.c hc0 .n))))))) ?_ ?_ <;> ((have hh : (!l6 c) = true:=(by rw [← hc0]; simp [l6,inB]); simp only [iG,hh,cond_true]; first | done | rfl))
theorem EU {s : SysT} {i : Nat} (hlt : decide ((i : Int) < ((s.clauses.map GE).length : Int)) = false) : (CW Fp Γ0 [] false (sub Jq 1) (l4S s i) (.exit 2) (f4E s)):=by
 exact zx [.st (.mask [1,2])] [.b false] (.c hlt .n)
def EV (s : SysT) : Exit × AS:=aV (.exit 2) (fun _ : Unit=>f4E s) f4X (forL (iG fun c=>!l6 c) s.clauses ())
theorem l4_cw {s : SysT} (hl : ad s.clauses) : CW Fp Γ0 [] false (.loop (sub Jq 1)) (l4S s 0) (EV s).1 (EV s).2:=by
 refine Ha s.clauses (iG fun c=>!l6 c) (fun i _=>l4S s (i : Int)) (.exit 2) (fun _=>f4E s) f4X (fun _ _=>True) (by simp) (fun _=>by simp []) ?_ ?_ () trivial
 ·intro i c _ hc _
  have hi:=(Fy.1 hc).1
  exact ⟨fun _ _=>trivial,ET (rowAt hc rfl) (lt_len _ hi) (wrap_succ hi hl)⟩
 ·intro _ _
  exact EU (aC _ s.clauses)
def vU (s : SysT) : Bool:=match forL (iG fun f=>!ek f) s.fees () with
 | .inr _=>false
 | .inl _=>match forL (iG fun c=>!l6 c) s.clauses () with
  | .inr _=>false
  | .inl _=>j8 (fun c=>!bo c) s.classes && j8 (fun c=>!bo c) s.honours
noncomputable abbrev fW (s : SysT) : List Blk:=[.var [ab (Fo Gh s.classes),ab (Fo GV s.fees),ab (Fo Gh s.honours),ab (Fo GE s.clauses)]]
theorem is14_a {s : SysT} (hs : s.ok) (hf : ad s.fees) (h : List Blk) : (Ev Fp Γ0 145 [ag s.row] h (bool (vU s)) h):=by
 have hl0:=(@f4_cw (s) (hf))
 unfold ES at hl0
 revert hl0
 cases ho1 : forL (iG fun f=>!ek f) s.fees () with
 | inl o1_0_0 =>
  intro hl0
  have hl2:=(@l4_cw (s) (by first | assumption | rfl | exact hs.sl | exact hs.lc | exact hs.lh | exact hs.c | exact hs.h))
  unfold EV at hl2
  revert hl2
  cases ho3 : forL (iG fun c=>!l6 c) s.clauses () with
  | inl o3_0_0 =>
   intro hl2
   refine zD (bool (j8 (fun c=>!bo c) s.classes && j8 (fun c=>!bo c) s.honours)) [.sum [1,2,3] (Gf 0) { t:=mkT 63 0 [(1,.ref (.ptr 0 0)),(2,bool false)],h:=(fW s),m:=[] },.sum [1,2,4] (Gf 2) { t:=mkT 63 0 [(1,.ref (.ptr 0 0)),(2,bool false)],h:=(fW s),m:=[] },.val (bool (j8 (fun c=>!bo c) s.classes)),.val (bool (j8 (fun c=>!bo c) s.honours))] (.c hl0 (.c hl2 (.c (@uF (s.classes) ?_ ?_ (fW s)) (.c (gd (j8 (fun c=>!bo c) s.classes) (@uF (s.honours) ?_ ?_ (fW s))) .n)))) h (by simp only [vU,ho1,ho3]; done) <;> (first | exact hs.lc | exact hs.lh | exact hs.c | exact hs.h)
  | inr o3_1_0 =>
   intro hl2
   exact zD (bool false) [.sum [1,2,3] (Gf 0) { t:=mkT 63 0 [(1,.ref (.ptr 0 0)),(2,bool false)],h:=(fW s),m:=[] },.sum [1,2,4] (Gw) { t:=mkT 63 0 [(2,bool false)],h:=[],m:=[] }] (.c hl0 (.c hl2 .n)) h (by simp only [vU,ho1,ho3]; done)
 | inr o1_1_0 =>
  intro hl0
  exact zD (bool false) [.sum [1,2,3] (Gw) { t:=mkT 63 0 [(2,bool false)],h:=[],m:=[] }] (.c hl0 .n) h (by simp only [vU,ho1]; done)
theorem EW (s : SysT) : vU s = na s:=by
 have e : bo = mj:=funext Bq
 unfold vU na
 rw [oZ,oZ,uE,uE,e]
 cases (s.fees.any fun f=>!ek f) <;> cases (s.clauses.any fun c=>!l6 c) <;> simp
abbrev IM:=List (Int × Int)
def bf : Nat → IM → List (D × D × Nat)
 | _,[]=>[]
 | j,(k,v) :: l=>(int k,int v,j) :: bf (j + 1) l
def imB (l : IM) : Blk:=.map (bf 0 l) l.length
def imGet : IM → Int → Option Int
 | [],_=>none
 | (a,v) :: l,k=>if a = k then some v else imGet l k
def aH : IM → Int → Int → IM
 | [],k,v=>[(k,v)]
 | (a,x) :: l,k,v=>if a = k then (k,v) :: l else (a,x) :: aH l k v
theorem fX (l : IM) (k v k' : Int) : imGet (aH l k v) k' = if k = k' then some v else imGet l k':=by
 induction l with
 | nil=>simp [aH,imGet]
 | cons e l ih =>
  obtain ⟨a,x⟩:=e
  unfold aH
  by_cases h : a = k
  ·subst h
   simp only [if_true,imGet]
   by_cases h2 : a = k' <;> simp [h2]
  ·simp only [h,if_false,imGet,ih]
   by_cases h2 : a = k'
   ·subst h2; simp [Ne.symm h]
   ·simp [h2]
def Af : IM → Int → Nat → Option (Nat × D)
 | [],_,_=>none
 | (a,v) :: l,k,i=>if a = k then some (i,int v) else Af l k (i + 1)
theorem lP (k : Int) : ∀ (l : IM) (j i : Nat),dC (int k) (bf j l) i = some (Af l k i)
 | [],_,_=>rfl
 | (a,v) :: l,j,i=>by
  simp only [bf,dC,Af]
  by_cases h : a = k
  ·subst h; simp [j1]
  ·have : j1 (int k) (int a) = some false:=by
    have h2 : ¬ k = a:=fun e=>h e.symm
    simp [j1,h2]
   rw [this]
   simp only [h,if_false]
   exact lP k l (j + 1) (i + 1)
theorem lQ {k : Int} : ∀ {l : IM} {i : Nat},Af l k i = none → imGet l k = none ∧ ∀ v,aH l k v = l ++ [(k,v)]
 | [],_,_=>by simp [imGet,aH]
 | (a,x) :: l,i,h=>by
  unfold Af at h
  split at h
  ·simp at h
  ·rename_i hne
   obtain ⟨h1,h2⟩:=lQ h
   simp only [imGet,aH,hne,if_false,h1,true_and]
   intro v; rw [h2]; rfl
theorem lR {k : Int} : ∀ {l : IM} {i j n : Nat} {d : D},Af l k i = some (n,d) → ∃ v,d = int v ∧ imGet l k = some v ∧ i ≤ n ∧ ((bf j l)[n - i]?).map (fun e=>e.2.2) = some (j + (n - i)) ∧ ∀ x,bf j (aH l k x) = (bf j l).set (n - i) (int k,int x,j + (n - i)) ∧ (aH l k x).length = l.length
 | [],_,_,_,_,h=>by simp [Af] at h
 | (a,x) :: l,i,j,n,d,h=>by
  unfold Af at h
  split at h
  ·rename_i ha
   simp only [Fq,Prod.mk.injEq] at h
   obtain ⟨rfl,rfl⟩:=h
   exact ⟨x,rfl,by simp [imGet,ha],Nat.le_refl _,by simp [bf],fun y=>by simp [aH,ha,bf]⟩
  ·rename_i ha
   obtain ⟨v,h1,h2,h3,h4,h5⟩:=lR (j:=j + 1) h
   have e : n - i = (n - (i + 1)) + 1:=by omega
   refine ⟨v,h1,by simp [imGet,ha,h2],by omega,?_,fun y=>?_⟩
   ·rw [e]; simp only [bf,List.getElem?_cons_succ,h4]; congr 1; omega
   ·obtain ⟨h6,h7⟩:=h5 y
    simp only [aH,ha,if_false,bf,h6]
    rw [e,List.set_cons_succ]
    refine ⟨?_,by simp [h7]⟩
    rw [show j + 1 + (n - (i + 1)) = j + (n - (i + 1) + 1) by omega]
theorem rg {P : Program} {h : List Blk} {t : TypeId} {b : Nat} {l : IM} {c : Int} {kt et : TypeId} (hk : c8 P kt (int c) = true) (ht : P.underlying t = some (.map kt et)) (hz : jX P et = some (.int .i64 0)) (hb : h[b]? = some (imB l)) :
  aA P h t (.ref (.mp b)) (int c) true = some (.tup [int ((imGet l c).getD 0),bool (imGet l c).isSome]):=by
 unfold aA
 simp only [ht,nR,hb,imB,hk,if_true,hz,lP]
 cases hi : Af l c 0 with
 | none =>
  rw [(lQ hi).1]; rfl
 | some p =>
  obtain ⟨n,d⟩:=p
  obtain ⟨v,rfl,h2,_⟩:=lR (j:=0) hi
  rw [h2]; rfl
theorem uG (k v : Int) : ∀ (l : IM) (j : Nat),bf j (l ++ [(k,v)]) = bf j l ++ [(int k,int v,j + l.length)]
 | [],j=>by simp [bf]
 | (a,x) :: l,j=>by
  simp only [List.cons_append,bf,uG k v l (j + 1),GF]
  rw [show j + 1 + l.length = j + (l.length + 1) by omega]
theorem rj {P : Program} {h : List Blk} {t : TypeId} {b : Nat} {l : IM} {c v : Int} {kt et : TypeId} (hk : c8 P kt (int c) = true) (ht : P.underlying t = some (.map kt et)) (hb : h[b]? = some (imB l)) :
  aB P h t (.ref (.mp b)) (int c) (int v) = some (h.set b (imB (aH l c v))):=by
 unfold aB
 simp only [ht,hb,imB,hk,if_true,lP]
 cases hi : Af l c 0 with
 | none =>
  simp only [(lQ hi).2 v,uG]
  simp
 | some p =>
  obtain ⟨n,d⟩:=p
  obtain ⟨x,rfl,_,_,h4,h5⟩:=lR (j:=0) hi
  obtain ⟨h6,h7⟩:=h5 v
  simp only [Nat.sub_zero,Nat.zero_add] at h4 h6
  cases hn : (bf 0 l)[n]? with
  | none=>rw [hn] at h4; simp at h4
  | some e =>
   rw [hn] at h4
   obtain ⟨e1,e2,e3⟩:=e
   simp only [Option.map_some,Fq] at h4
   subst h4
   simp only [h6,h7]
   rw [hn]
theorem o8 (f : Ref → D) : ∀ (l : IM) (j : Nat),(bf j l).map (fun e=>(D.mapR f e.1,D.mapR f e.2.1,e.2.2)) = bf j l
 | [],_=>rfl
 | (a,x) :: l,j=>by simp only [bf,List.map_cons,o8 f l (j + 1)]; rfl
theorem uH (n : Nat) : ∀ (l : IM) (j : Nat),((bf j l).all fun e=>D.inn n e.1 && D.inn n e.2.1) = true
 | [],_=>rfl
 | (a,x) :: l,j=>by simp only [bf,List.all_cons,uH n l (j + 1)]; rfl
theorem lS {n : Nat} {l : IM} : FL n (imB l) = true:=uH n l 0
theorem yV {l : List AttT} (h : List Blk) : ∀ c ∈ l,Iv Fp Γ0 (.p (.v (.func (.func 156) #[] #[]))) [ag c.row] h (bool (!attB c)) h:=fun c _=>Iv.of (f:=156) (fi:=[]) (ca:=[]) pok (by kernel_rfl) (by kernel_rfl) (xA h)
def bP (l : List AttT) : Int:=bif l.any (fun a=>!attB a) then 150 else 0
theorem Br {l : List AttT} (hl : ad l) (hf : ∀ c ∈ l,Iv Fp Γ0 (.p (.v (.func (.func 156) #[] #[]))) [ag c.row] [] (bool (!attB c)) []) (h : List Blk) : (Ev Fp Γ0 106 [ab (l.map Ft)] h (int (bP l)) h):=by
 cases hc0 : HP l fun c=>!attB c
 ·exact zD (int 0) [.val (bool (HP l fun c=>!attB c)),.b false] (.c (@Cg l hl (fq 156) ([]) (fun c=>!attB c) hf) (.c hc0 .n)) h (by simp only [bP,hc0,cond_false])
 ·exact zD (int 150) [.val (bool (HP l fun c=>!attB c)),.b true] (.c (@Cg l hl (fq 156) ([]) (fun c=>!attB c) hf) (.c hc0 .n)) h (by simp only [bP,hc0,cond_true])
theorem c7 {l : List AttT} (hl : ad l) (h : List Blk) : Ev Fp Γ0 106 [ab (l.map Ft)] h (int (bP l)) h:=Br hl (yV []) h
theorem yW {a b : AttT} (h : List Blk) : (Ev Fp Γ0 208 [ag a.row,ag b.row] h (bool (decide (a.grade > b.grade) || (a.grade == b.grade && decide (a.term < b.term)))) h):=by
 exact z0 [] .n h
theorem yX {a b : AttT} (h : List Blk) : (Ev Fp Γ0 209 [ag a.row,ag b.row] h (bool (decide (a.term ≥ b.term))) h):=by
 exact z0 [] .n h
abbrev yY : List D:=[bool true,fnv 208,bool true,fnv 209,bool false,lit .nilFunc]
theorem uI (h : List Blk) : (Ev Fp Γ0 163 [] h (.agg yY) h):=by
 exact z0 [] .n h
end Go.Vi
