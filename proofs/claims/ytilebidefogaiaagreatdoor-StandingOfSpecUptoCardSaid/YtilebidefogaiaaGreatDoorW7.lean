/- StandingOfSpecUpto: part of the proof: contracts of the functions that the law reaches, and the law. No conditions beyond the given statement's own. -/
import Derived.Test.YtilebidefogaiaaGreatDoorW6
open Go.Vi.CourseT renaming row → FE
open Go.Vi.SysT renaming row → FF
open Go.Vi.FactT renaming row → FC
open Go.Proofs.Tryz renaming prog → Fp, f130 → Ku, f31 → JF, f112 → Ht
open Go.Vi.Ev renaming castH → FP, of_sym → Gz, post → J1, frameX → GY, upX → La, glob0 → F1, nilW → GK
open List renaming map → Fo, all → FN, length → Fu, length_map → GB, map_append → HO, append_assoc → Ib, getD → FG, length_append → GQ, length_nil → Hf, getElem?_eq_some_iff → Fy, getElem?_eq_getElem → FK, getElem?_zip_eq_some → Hk, getElem?_zipIdx → HZ
open Go.Vi.D renaming p → Gj, tup → FM, agg → FU, mapRL → GA
open Bool renaming true_and → G1, and_eq_true → FB, or_eq_false_iff → GZ, not_eq_false' → Ic, not_eq_true' → GN, or_eq_true → G4, eq_iff_iff → HB, false_and → GC, and_false → GD, and_self → Hq
open Go.Vi.Cls renaming row → Gh
open Go.Vi.FeeT renaming row → GV
open Go.Vi.ClauseT renaming row → GE
open Go.Vi.Blk renaming inn → FL
open Go.Vi.WorldT renaming l → Gm
open Go.Vi.AttT renaming row → Ft
open Go.IntKind renaming i64 → Fs, wrap → Fz
open Int renaming toNat → FA
open Go.Vi.Dp renaming sl → Gp
open Go.Exit renaming normal → FH, exit → Gf, ret → Gw
open Go.Vi.CW renaming each → Ha
open Go.Value renaming tuple → Gk
open Option renaming map_eq_some_iff → FD
open Nat renaming zero_add → Hy
open Go Go.Proofs
namespace Go.Vi
set_option maxRecDepth 100000
set_option maxHeartbeats 4000000
abbrev vwH (w : WorldT) (term known : Int) (rs : List ReadT) (e : Nat) : List Blk:=[.var [.ref (.vec 1 e),ab (w.c.map FE),ab w.p,ab (w.s.map FF),ab (w.f.map FC),int term,int known],.vec (ai (rdR rs)) e 5]
theorem dZ {w : WorldT} {term known : Int} {rs qs : List ReadT} (hb : rs.length + qs.length ≤ 1000000000) : (Ev Fp Γk 144 [.ref (.ptr 0 0),ab (rdR qs)] (vwH w term known rs 0) (.tup []) (vwH w term known (rs ++ qs) 1)):=by
 refine FP (Gz (h':=[.var [.ref (.vec 1 1),ab (Fo FE w.c),ab w.p,ab (Fo FF w.s),ab (Fo FC w.f),int term,int known],.vec (ai (rdR rs) ++ Fo (fun x=>Fo Gj x) (rdR qs)) 1 5]) (d:=FM []) pok [] (by kernel_rfl) (.c (show (FN (Fo (fun x=>Fo Gj x) (rdR qs)) (aG 5) && roomOk (Fu (ai (rdR rs)) + Fu (Fo (fun x=>Fo Gj x) (rdR qs))) 40) = true from (by (simp only [sS,roomOk,G1,FB,decide_eq_true_eq,GB]; omega))) .n)) ?_ ?_ <;> (first | rfl | (simp only [vwH,rdR,ai,HO]; done))
noncomputable abbrev s7 (w : WorldT) (term : Int) (known : Int) (rs : List ReadT) : List Blk:=[.var [.ref (.vec 1 0),ab (Fo FE w.c),ab w.p,ab (Fo FF w.s),ab (Fo FC w.f),int term,int known],.vec (ai (rdR rs)) 0 5,.var [nq,nq,nq,nq],.var [nq,nq,nq,nq]]
noncomputable abbrev gN (w : WorldT) (term : Int) (known : Int) (rs : List ReadT) : List Blk:=[.var [.ref (.vec 1 0),ab (Fo FE w.c),ab w.p,ab (Fo FF w.s),ab (Fo FC w.f),int term,int known],.vec (ai (rdR rs)) 0 5,.var [nq,nq,nq,nq]]
noncomputable abbrev vwsys_ev_x2 (w : WorldT) (term : Int) (known : Int) : List D:=[FU [ab (Fo FE w.c),ab w.p,ab (Fo FF w.s),ab (Fo FC w.f)],int term,int known]
theorem BC {w : WorldT} (hw : w.ok) {term known : Int} {rs : List ReadT} (hb : rs.length ≤ 999999000) : (Ev Fp Γk 98 [.ref (.ptr 0 0)] (vwH w term known rs 0) (ag (bF w term known).1.row) (vwH w term known (rs ++ rdT 4 0 0 term) 1)):=by
 let v0 : List D:=[ab (Fo Gh (bF w term known).fst.classes),ab (Fo GV (bF w term known).fst.fees),ab (Fo Gh (bF w term known).fst.honours),ab (Fo GE (bF w term known).fst.clauses)]
 let v1 : List D:=[.ref (.vec 1 1),ab (Fo FE w.c),ab w.p,ab (Fo FF w.s),ab (Fo FC w.f),int term,int known]
 let v2 : List Blk:=[.var [.ref (.vec 1 0),ab (Fo FE w.c),ab w.p,ab (Fo FF w.s),ab (Fo FC w.f),int term,int known],.vec (ai (rdR rs)) 0 5,.var [nq,nq,nq,nq],.var v0]
 let v3 : List Blk:=[.var v1,.vec (ai (rdR (rs ++ rdT 4 0 0 term))) 1 5,.var [nq,nq,nq,nq],.var v0]
 refine FP (J1 (d2:=FU v0) (h2:=[.var v1,.vec (ai (rdR (rs ++ rdT 4 0 0 term))) 1 5]) (φ:=[FL 2 (.var v1) = true,FL 2 (.vec (ai (rdR (rs ++ rdT 4 0 0 term))) 1 5) = true]) [.st (.trimV 2)] (Gz (h':=[.var v1,.vec (ai (rdR (rs ++ rdT 4 0 0 term))) 1 5,.var v0,.var v0]) (d:=FU v0) pok [.val (FM [(ag (FF (bF w term known).fst)),ab (rdR (rdT 4 0 0 term))]),.call (FM []) v3] (by kernel_rfl) (.c (@jx w hw term known (gN w term known rs)) (.e (.ref (.ptr 0 0)) (.e (.ref (.ptr 0 0)) (.e (.ref (.ptr 0 1)) (.e (.ref (.ptr 0 1)) (.e (FU (Gm w)) (.e (FU (Gm w)) (.e (.ref (.ptr 0 0)) (.e (.ref (.ptr 0 0)) (.e (.ref (.ptr 0 5)) (.e (.ref (.ptr 0 5)) (.e (int term) (.e (int term) (.e (.ref (.ptr 0 0)) (.e (.ref (.ptr 0 0)) (.e (.ref (.ptr 0 6)) (.e (.ref (.ptr 0 6)) (.e (int known) (.e (int known) (.er (gN w term known rs) (.c (@jx w hw term known (gN w term known rs)) (.c (@jx w hw term known (s7 w term known rs)) (.c (show Ev Fp Γk 144 [.ref (.ptr 0 0),ab (rdR (rdT 4 0 0 term))] v2 (FM []) v3 from (FP (GY (args:=[.ref (.ptr 0 0),ab (rdR (rdT 4 0 0 term))]) (H:=v2) [0,1] (@dZ w term known rs (rdT 4 0 0 term) (by subst v0 v1 v2 v3; (have:=rdT_len 4 0 0 term; omega))) (by kernel_rfl) (by kernel_rfl) (by kernel_rfl) ⟨?_,trivial⟩ ⟨?_,trivial⟩) (by kernel_rfl) (by kernel_rfl))) .n)))))))))))))))))))))))) (by kernel_rfl) ⟨rfl,(by subst v0 v1 v2 v3; exact bu _ _),trivial⟩) (by subst v0 v1 v2 v3; rfl) (by subst v0 v1 v2 v3; rfl) <;> subst v0 v1 v2 v3 <;> (exact am _ _)
abbrev minE (x : Int) : Int:=if false = true then if 10000 > x then 10000 else x else if 10000 < x then 10000 else x
structure VwX where
 earn : Int
 n : Int
 d : Int
 e : Int
 q : List ReadT
def vwX (q1 q2 : List ReadT) (e1 e2 ea earn n d e : Int) : VwX:=match e1 != 0 with
 | true=>⟨0,0,0,e1,q1⟩
 | false=>match e2 != 0 with
  | true=>⟨0,0,0,e2,q1 ++ q2⟩
  | false=>match ea != 0 with
   | true=>⟨0,0,0,ea,q1 ++ q2⟩
   | false=>⟨minE earn,n,d,e,q1 ++ q2⟩
noncomputable abbrev bn (w : WorldT) (term : Int) (known : Int) (rs : List ReadT) (r : RecT) (q1 : List ReadT) (q2 : List ReadT) : List Blk:=[.var [.ref (.vec 1 2),ab (Fo FE w.c),ab w.p,ab (Fo FF w.s),ab (Fo FC w.f),int term,int known],.vec (ai (rdR (rs ++ q1 ++ q2))) 2 5,.var [int 0,int 0],.var [int r.st,ab (Fo Ft r.a)]]
noncomputable abbrev aF (w : WorldT) (term : Int) (known : Int) (rs : List ReadT) (r : RecT) (q1 : List ReadT) : List Blk:=[.var [.ref (.vec 1 1),ab (Fo FE w.c),ab w.p,ab (Fo FF w.s),ab (Fo FC w.f),int term,int known],.vec (ai (rdR (rs ++ q1))) 1 5,.var [int 0,int 0],.var [int r.st,ab (Fo Ft r.a)]]
noncomputable abbrev b8 (w : WorldT) (term : Int) (known : Int) (rs : List ReadT) (r : RecT) : List Blk:=[.var [.ref (.vec 1 0),ab (Fo FE w.c),ab w.p,ab (Fo FF w.s),ab (Fo FC w.f),int term,int known],.vec (ai (rdR rs)) 0 5,.var [int 0,int 0],.var [int r.st,ab (Fo Ft r.a)]]
noncomputable abbrev gm (w : WorldT) (term : Int) (known : Int) (rs : List ReadT) : List Blk:=[.var [.ref (.vec 1 0),ab (Fo FE w.c),ab w.p,ab (Fo FF w.s),ab (Fo FC w.f),int term,int known],.vec (ai (rdR rs)) 0 5,.var [int 0,int 0],.var [int 0,nq]]
noncomputable abbrev bg (w : WorldT) (term : Int) (known : Int) (rs : List ReadT) : List Blk:=[.var [.ref (.vec 1 0),ab (Fo FE w.c),ab w.p,ab (Fo FF w.s),ab (Fo FC w.f),int term,int known],.vec (ai (rdR rs)) 0 5,.var [int 0,int 0]]
noncomputable abbrev vwcnt_a_x5 (w : WorldT) (term : Int) (known : Int) (r : RecT) : List D:=[FU [ab (Fo FE w.c),ab w.p,ab (Fo FF w.s),ab (Fo FC w.f)],FU [int r.st,ab (Fo Ft r.a)],int term,int known]
noncomputable abbrev vwcnt_a_x6 (w : WorldT) (term : Int) (known : Int) (st : Int) : List D:=[FU [ab (Fo FE w.c),ab w.p,ab (Fo FF w.s),ab (Fo FC w.f)],int st,int term,int known]
theorem vwcnt_a {w : WorldT} {term known st : Int} {rs : List ReadT} {r : RecT} {q1 q2 : List ReadT} {L : List AttT} {e1 e2 ea earn n d e : Int} (hb : rs.length + q1.length + q2.length ≤ 1000000000)
 (h1 : ∀ h,Ev Fp Γk 23 [.agg w.l,int st,int term,int known] h (.tup [.agg r.l,ab (rdR q1),int e1]) h)
 (h2 : ∀ h,Ev Fp Γk 53 [.agg w.l,.agg r.l,int term,int known] h (.tup [ab (L.map Ft),ab (rdR q2),int e2]) h)
 (h3 : ∀ h,Ev Fp Γk 54 [ab (L.map Ft)] h (.tup [int earn,int ea]) h)
 (h4 : ∀ h,Ev Fp Γk 55 [ab (L.map Ft)] h (.tup [.agg [int n,int d],int e]) h) : (Ev Fp Γk 99 [.ref (.ptr 0 0),int st] (vwH w term known rs 0) (.tup [int (vwX q1 q2 e1 e2 ea earn n d e).earn,.agg [int (vwX q1 q2 e1 e2 ea earn n d e).n,int (vwX q1 q2 e1 e2 ea earn n d e).d],int (vwX q1 q2 e1 e2 ea earn n d e).e]) (vwH w term known (rs ++ (vwX q1 q2 e1 e2 ea earn n d e).q) 1)):=by
 cases hc0 : e1 != 0
 ·cases hc1 : e2 != 0
  ·cases hc2 : ea != 0
   ·let v0 : List D:=[.ref (.vec 1 2),ab (Fo FE w.c),ab w.p,ab (Fo FF w.s),ab (Fo FC w.f),int term,int known]
    let v1 : List D:=[int (if false = true then if 10000 > earn then 10000 else earn else if 10000 < earn then 10000 else earn),FU [int n,int d],int e]
    refine FP (J1 (d2:=FM v1) (h2:=[.var [.ref (.vec 1 1),ab (Fo FE w.c),ab w.p,ab (Fo FF w.s),ab (Fo FC w.f),int term,int known],.vec (ai (rdR (rs ++ q1 ++ q2))) 1 5]) (φ:=[Fo (GA (aM 1 2 1)) (ai (rdR (rs ++ q1 ++ q2))) = ai (rdR (rs ++ q1 ++ q2)),FL 2 (match 0 == 1 with | true=>.vec (ai (rdR (rs ++ q1 ++ q2))) 1 5 | false=>keepX (aM 1 2 1) (.var v0)) = true,FL 2 (match 0 + 1 == 1 with | true=>.vec (ai (rdR (rs ++ q1 ++ q2))) 1 5 | false=>keepX (aM 1 2 1) (.vec (ai (rdR (rs ++ q1 ++ q2))) 2 5)) = true]) [.st (.ren 1 1),.st (.trimV 2)] (Gz (h':=[.var v0,.vec (ai (rdR (rs ++ q1 ++ q2))) 2 5,.var [int n,int d],.var [int r.st,ab (Fo Ft r.a)]]) (d:=FM v1) pok [.val (FM [FU [int r.st,ab (Fo Ft r.a)],ab (rdR q1),int e1]),.call (FM []) (aF w term known rs r q1),.b false,.val (FM [ab (Fo Ft L),ab (rdR q2),int e2]),.call (FM []) (bn w term known rs r q1 q2),.b false,.val (FM [int earn,int ea]),.b false,.val (FM [FU [int n,int d],int e])] (by kernel_rfl) (.c (@h1 (bg w term known rs)) (.e (.ref (.ptr 0 0)) (.e (.ref (.ptr 0 0)) (.e (.ref (.ptr 0 1)) (.e (.ref (.ptr 0 1)) (.e (FU (Gm w)) (.e (FU (Gm w)) (.e (.ref (.ptr 0 0)) (.e (.ref (.ptr 0 0)) (.e (.ref (.ptr 0 5)) (.e (.ref (.ptr 0 5)) (.e (int term) (.e (int term) (.e (.ref (.ptr 0 0)) (.e (.ref (.ptr 0 0)) (.e (.ref (.ptr 0 6)) (.e (.ref (.ptr 0 6)) (.e (int known) (.e (int known) (.er (bg w term known rs) (.c (@h1 (bg w term known rs)) (.c (@h1 (gm w term known rs)) (.c (show Ev Fp Γk 144 [.ref (.ptr 0 0),ab (rdR q1)] (b8 w term known rs r) (FM []) (aF w term known rs r q1) from (FP (GY (args:=[.ref (.ptr 0 0),ab (rdR q1)]) (H:=(b8 w term known rs r)) [0,1] (@dZ w term known rs q1 (by subst v0 v1; omega)) (by kernel_rfl) (by kernel_rfl) (by kernel_rfl) ⟨?_,trivial⟩ ⟨?_,trivial⟩) (by kernel_rfl) (by kernel_rfl))) (.c hc0 (.c (@h2 (aF w term known rs r q1)) (.c (show Ev Fp Γk 144 [.ref (.ptr 0 0),ab (rdR q2)] (aF w term known rs r q1) (FM []) (bn w term known rs r q1 q2) from (FP (GY (args:=[.ref (.ptr 0 0),ab (rdR q2)]) (H:=(aF w term known rs r q1)) [0,1] (La [0,1] (@dZ w term known (rs ++ q1) q2 (by subst v0 v1; (simp; omega))) (by kernel_rfl) ⟨?_,trivial⟩ ⟨?_,trivial⟩) (by kernel_rfl) (by kernel_rfl) (by kernel_rfl) ⟨?_,trivial⟩ ⟨?_,trivial⟩) (by kernel_rfl) (by kernel_rfl))) (.c hc1 (.c (@h3 (bn w term known rs r q1 q2)) (.c hc2 (.c (@h4 (bn w term known rs r q1 q2)) (.e (FU [int n,int d]) .n)))))))))))))))))))))))))))))))) (by kernel_rfl) ⟨(by subst v0 v1; exact bl _ _),rfl,(by subst v0 v1; exact bu _ _),trivial⟩) (by subst v0 v1; (simp only [vwX,hc0,hc1,hc2]; first | done | rfl)) (by subst v0 v1; (simp only [vwX,vwH,rdR,ai,HO,Ib,hc0,hc1,hc2]; first | done | rfl)) <;> subst v0 v1 <;> (exact am _ _)
   ·refine FP (J1 (d2:=FM [int 0,FU [int 0,int 0],int ea]) (h2:=[.var [.ref (.vec 1 1),ab (Fo FE w.c),ab w.p,ab (Fo FF w.s),ab (Fo FC w.f),int term,int known],.vec (ai (rdR (rs ++ q1 ++ q2))) 1 5]) (φ:=[Fo (GA (aM 1 2 1)) (ai (rdR (rs ++ q1 ++ q2))) = ai (rdR (rs ++ q1 ++ q2)),FL 2 (match 0 == 1 with | true=>.vec (ai (rdR (rs ++ q1 ++ q2))) 1 5 | false=>keepX (aM 1 2 1) (.var [.ref (.vec 1 2),ab (Fo FE w.c),ab w.p,ab (Fo FF w.s),ab (Fo FC w.f),int term,int known])) = true,FL 2 (match 0 + 1 == 1 with | true=>.vec (ai (rdR (rs ++ q1 ++ q2))) 1 5 | false=>keepX (aM 1 2 1) (.vec (ai (rdR (rs ++ q1 ++ q2))) 2 5)) = true]) [.st (.ren 1 1),.st (.trimV 2)] (Gz (h':=(bn w term known rs r q1 q2)) (d:=FM [int 0,FU [int 0,int 0],int ea]) pok [.val (FM [FU [int r.st,ab (Fo Ft r.a)],ab (rdR q1),int e1]),.call (FM []) (aF w term known rs r q1),.b false,.val (FM [ab (Fo Ft L),ab (rdR q2),int e2]),.call (FM []) (bn w term known rs r q1 q2),.b false,.val (FM [int earn,int ea]),.b true] (by kernel_rfl) (.c (@h1 (bg w term known rs)) (.e (.ref (.ptr 0 0)) (.e (.ref (.ptr 0 0)) (.e (.ref (.ptr 0 1)) (.e (.ref (.ptr 0 1)) (.e (FU (Gm w)) (.e (FU (Gm w)) (.e (.ref (.ptr 0 0)) (.e (.ref (.ptr 0 0)) (.e (.ref (.ptr 0 5)) (.e (.ref (.ptr 0 5)) (.e (int term) (.e (int term) (.e (.ref (.ptr 0 0)) (.e (.ref (.ptr 0 0)) (.e (.ref (.ptr 0 6)) (.e (.ref (.ptr 0 6)) (.e (int known) (.e (int known) (.er (bg w term known rs) (.c (@h1 (bg w term known rs)) (.c (@h1 (gm w term known rs)) (.c (show Ev Fp Γk 144 [.ref (.ptr 0 0),ab (rdR q1)] (b8 w term known rs r) (FM []) (aF w term known rs r q1) from (FP (GY (args:=[.ref (.ptr 0 0),ab (rdR q1)]) (H:=(b8 w term known rs r)) [0,1] (@dZ w term known rs q1 (by omega)) (by kernel_rfl) (by kernel_rfl) (by kernel_rfl) ⟨?_,trivial⟩ ⟨?_,trivial⟩) (by kernel_rfl) (by kernel_rfl))) (.c hc0 (.c (@h2 (aF w term known rs r q1)) (.c (show Ev Fp Γk 144 [.ref (.ptr 0 0),ab (rdR q2)] (aF w term known rs r q1) (FM []) (bn w term known rs r q1 q2) from (FP (GY (args:=[.ref (.ptr 0 0),ab (rdR q2)]) (H:=(aF w term known rs r q1)) [0,1] (La [0,1] (@dZ w term known (rs ++ q1) q2 (by (simp; omega))) (by kernel_rfl) ⟨?_,trivial⟩ ⟨?_,trivial⟩) (by kernel_rfl) (by kernel_rfl) (by kernel_rfl) ⟨?_,trivial⟩ ⟨?_,trivial⟩) (by kernel_rfl) (by kernel_rfl))) (.c hc1 (.c (@h3 (bn w term known rs r q1 q2)) (.c hc2 (.e (FU [int 0,int 0]) .n))))))))))))))))))))))))))))))) (by kernel_rfl) ⟨(by exact bl _ _),rfl,(by exact bu _ _),trivial⟩) (by (simp only [vwX,hc0,hc1,hc2]; first | done | rfl)) (by (simp only [vwX,vwH,rdR,ai,HO,Ib,hc0,hc1,hc2]; first | done | rfl)) <;> (exact am _ _)
  ·refine FP (J1 (d2:=FM [int 0,FU [int 0,int 0],int e2]) (h2:=[.var [.ref (.vec 1 1),ab (Fo FE w.c),ab w.p,ab (Fo FF w.s),ab (Fo FC w.f),int term,int known],.vec (ai (rdR (rs ++ q1 ++ q2))) 1 5]) (φ:=[Fo (GA (aM 1 2 1)) (ai (rdR (rs ++ q1 ++ q2))) = ai (rdR (rs ++ q1 ++ q2)),FL 2 (match 0 == 1 with | true=>.vec (ai (rdR (rs ++ q1 ++ q2))) 1 5 | false=>keepX (aM 1 2 1) (.var [.ref (.vec 1 2),ab (Fo FE w.c),ab w.p,ab (Fo FF w.s),ab (Fo FC w.f),int term,int known])) = true,FL 2 (match 0 + 1 == 1 with | true=>.vec (ai (rdR (rs ++ q1 ++ q2))) 1 5 | false=>keepX (aM 1 2 1) (.vec (ai (rdR (rs ++ q1 ++ q2))) 2 5)) = true]) [.st (.ren 1 1),.st (.trimV 2)] (Gz (h':=(bn w term known rs r q1 q2)) (d:=FM [int 0,FU [int 0,int 0],int e2]) pok [.val (FM [FU [int r.st,ab (Fo Ft r.a)],ab (rdR q1),int e1]),.call (FM []) (aF w term known rs r q1),.b false,.val (FM [ab (Fo Ft L),ab (rdR q2),int e2]),.call (FM []) (bn w term known rs r q1 q2),.b true] (by kernel_rfl) (.c (@h1 (bg w term known rs)) (.e (.ref (.ptr 0 0)) (.e (.ref (.ptr 0 0)) (.e (.ref (.ptr 0 1)) (.e (.ref (.ptr 0 1)) (.e (FU (Gm w)) (.e (FU (Gm w)) (.e (.ref (.ptr 0 0)) (.e (.ref (.ptr 0 0)) (.e (.ref (.ptr 0 5)) (.e (.ref (.ptr 0 5)) (.e (int term) (.e (int term) (.e (.ref (.ptr 0 0)) (.e (.ref (.ptr 0 0)) (.e (.ref (.ptr 0 6)) (.e (.ref (.ptr 0 6)) (.e (int known) (.e (int known) (.er (bg w term known rs) (.c (@h1 (bg w term known rs)) (.c (@h1 (gm w term known rs)) (.c (show Ev Fp Γk 144 [.ref (.ptr 0 0),ab (rdR q1)] (b8 w term known rs r) (FM []) (aF w term known rs r q1) from (FP (GY (args:=[.ref (.ptr 0 0),ab (rdR q1)]) (H:=(b8 w term known rs r)) [0,1] (@dZ w term known rs q1 (by omega)) (by kernel_rfl) (by kernel_rfl) (by kernel_rfl) ⟨?_,trivial⟩ ⟨?_,trivial⟩) (by kernel_rfl) (by kernel_rfl))) (.c hc0 (.c (@h2 (aF w term known rs r q1)) (.c (show Ev Fp Γk 144 [.ref (.ptr 0 0),ab (rdR q2)] (aF w term known rs r q1) (FM []) (bn w term known rs r q1 q2) from (FP (GY (args:=[.ref (.ptr 0 0),ab (rdR q2)]) (H:=(aF w term known rs r q1)) [0,1] (La [0,1] (@dZ w term known (rs ++ q1) q2 (by (simp; omega))) (by kernel_rfl) ⟨?_,trivial⟩ ⟨?_,trivial⟩) (by kernel_rfl) (by kernel_rfl) (by kernel_rfl) ⟨?_,trivial⟩ ⟨?_,trivial⟩) (by kernel_rfl) (by kernel_rfl))) (.c hc1 (.e (FU [int 0,int 0]) .n))))))))))))))))))))))))))))) (by kernel_rfl) ⟨(by exact bl _ _),rfl,(by exact bu _ _),trivial⟩) (by (simp only [vwX,hc0,hc1]; first | done | rfl)) (by (simp only [vwX,vwH,rdR,ai,HO,Ib,hc0,hc1]; first | done | rfl)) <;> (exact am _ _)
 ·let v0 : List D:=[.ref (.vec 1 1),ab (Fo FE w.c),ab w.p,ab (Fo FF w.s),ab (Fo FC w.f),int term,int known]
  refine FP (J1 (d2:=FM [int 0,FU [int 0,int 0],int e1]) (h2:=[.var v0,.vec (ai (rdR (rs ++ q1))) 1 5]) (φ:=[Fo (GA (aM 1 1 1)) (ai (rdR (rs ++ q1))) = ai (rdR (rs ++ q1)),FL 2 (match 0 == 1 with | true=>.vec (ai (rdR (rs ++ q1))) 1 5 | false=>keepX (aM 1 1 1) (.var v0)) = true,FL 2 (match 0 + 1 == 1 with | true=>.vec (ai (rdR (rs ++ q1))) 1 5 | false=>keepX (aM 1 1 1) (.vec (ai (rdR (rs ++ q1))) 1 5)) = true]) [.st (.ren 1 1),.st (.trimV 2)] (Gz (h':=(aF w term known rs r q1)) (d:=FM [int 0,FU [int 0,int 0],int e1]) pok [.val (FM [FU [int r.st,ab (Fo Ft r.a)],ab (rdR q1),int e1]),.call (FM []) (aF w term known rs r q1),.b true] (by kernel_rfl) (.c (@h1 (bg w term known rs)) (.e (.ref (.ptr 0 0)) (.e (.ref (.ptr 0 0)) (.e (.ref (.ptr 0 1)) (.e (.ref (.ptr 0 1)) (.e (FU (Gm w)) (.e (FU (Gm w)) (.e (.ref (.ptr 0 0)) (.e (.ref (.ptr 0 0)) (.e (.ref (.ptr 0 5)) (.e (.ref (.ptr 0 5)) (.e (int term) (.e (int term) (.e (.ref (.ptr 0 0)) (.e (.ref (.ptr 0 0)) (.e (.ref (.ptr 0 6)) (.e (.ref (.ptr 0 6)) (.e (int known) (.e (int known) (.er (bg w term known rs) (.c (@h1 (bg w term known rs)) (.c (@h1 (gm w term known rs)) (.c (show Ev Fp Γk 144 [.ref (.ptr 0 0),ab (rdR q1)] (b8 w term known rs r) (FM []) (aF w term known rs r q1) from (FP (GY (args:=[.ref (.ptr 0 0),ab (rdR q1)]) (H:=(b8 w term known rs r)) [0,1] (@dZ w term known rs q1 ?_) (by kernel_rfl) (by kernel_rfl) (by kernel_rfl) ⟨(by subst v0; exact am _ _),trivial⟩ ⟨(by subst v0; exact am _ _),trivial⟩) (by kernel_rfl) (by kernel_rfl))) (.c hc0 (.e (FU [int 0,int 0]) .n)))))))))))))))))))))))))) (by kernel_rfl) ⟨?_,rfl,?_,trivial⟩) (by subst v0; (simp only [vwX,hc0]; first | done | rfl)) (by subst v0; (simp only [vwX,vwH,rdR,ai,HO,hc0]; first | done | rfl)) <;> subst v0 <;> (first | omega | exact bl _ _ | exact bu _ _)
def nE (w : WorldT) (st term known : Int) : VwX :=
 vwX (ew w st term known).2.1 (cv w (ew w st term known).1 term known).2.1 (ew w st term known).2.2 (cv w (ew w st term known).1 term known).2.2
  (gM (cv w (ew w st term known).1 term known).1).2 (gM (cv w (ew w st term known).1 term known).1).1
  (fZ (cv w (ew w st term known).1 term known).1).1 (fZ (cv w (ew w st term known).1 term known).1).2.1 (fZ (cv w (ew w st term known).1 term known).1).2.2
theorem BD {w : WorldT} (hw : w.ok) {known st term : Int} : (vT w known st term).length ≤ 70656000:=by
 have:=nC hw (known:=known) (st:=st) (term:=term)
 unfold vT
 simpa using this
theorem o9 {w : WorldT} (hw : w.ok) {st term known : Int} : (ew w st term known).1.a.length ≤ 70656000 ∧ (ew w st term known).2.1.length ≤ 70725001:=by
 unfold ew
 split
 ·simp
 ·exact ⟨BD hw,re hw⟩
theorem cgF_len (m : IM) (e : AttT × Nat) (out : List AttT) : (cgF m e out).length ≤ out.length + 1:=by
 unfold cgF; cases cgHit m e.2 e.1 <;> simp
theorem nF (m : IM) : ∀ (l : List (AttT × Nat)) (out : List AttT),(l.foldl (fun out e=>cgF m e out) out).length ≤ out.length + l.length
 | [],_=>by simp
 | e :: l,out=>by
  have h1:=nF m l (cgF m e out)
  have h2:=cgF_len m e out
  simp only [List.foldl_cons,List.length_cons]; omega
theorem y8 (l : List AttT) (m : IM) : (rn l m).length ≤ l.length:=by
 have:=nF m l.zipIdx []
 simpa [rn] using this
theorem cntA_le (l : List AttT) (rp : List Int) : (lT l rp).1.length ≤ l.length:=by
 unfold lT
 cases decide (bP l = 0)
 ·simp
 ·cases decide (rp.length = l.length)
  ·simp
  ·simp only [cond_true]
   split
   ·exact y8 _ _
   ·simp
theorem rcX_len (b : Bool) (e : Int) (L : List AttT) (rr : List ReadT) : (rcX b e L rr).1.length ≤ L.length ∧ (rcX b e L rr).2.1.length ≤ rr.length:=by
 unfold rcX
 split
 ·simp
 ·split <;> simp
theorem lW {w : WorldT} {r : RecT} {term known : Int} : (cv w r term known).1.length ≤ r.a.length ∧ (cv w r term known).2.1.length ≤ r.a.length:=by
 unfold cv
 have h1:=rcX_len (iI r term) (lT r.a (da w known term r.a)).2 (lT r.a (da w known term r.a)).1 (du term r.a)
 have h2:=cntA_le r.a (da w known term r.a)
 have h3:=kn term r.a
 omega
theorem BE {w : WorldT} (hw : w.ok) {term known st : Int} {rs : List ReadT} (hb : rs.length ≤ 100000000) : Ev Fp Γk 99 [.ref (.ptr 0 0),int st] (vwH w term known rs 0) (.tup [int (nE w st term known).earn,.agg [int (nE w st term known).n,int (nE w st term known).d],int (nE w st term known).e]) (vwH w term known (rs ++ (nE w st term known).q) 1):=by
 have hl:=o9 hw (st:=st) (term:=term) (known:=known)
 have hc:=lW (w:=w) (r:=(ew w st term known).1) (term:=term) (known:=known)
 have hs : ad (cv w (ew w st term known).1 term known).1:=by unfold ad; omega
 exact vwcnt_a (by omega) (fun h=>rof_ev hw h) (fun h=>Fb hw (by omega) h) (fun h=>F1 (y7 hs h)) (fun h=>F1 (y5 hs h))
def ofBad (kind st obj term : Int) : Bool:=kind != 2 && kind != 3 && kind != 4 || decide (st < 0) || decide (st ≥ 20000) || decide (term < 0) || decide (term ≥ 1024) || (kind == 3 && !amt obj)
structure OfX where
 ans : Int
 q : List ReadT
 e : Int
def ofX (kind st obj term : Int) (q1 : List ReadT) (x : VwX) (fe cl ho : Int × Int) : OfX:=match ofBad kind st obj term with
 | true=>⟨0,[],1⟩
 | false=>match kind == 3 with
  | true=>⟨fe.1,q1,fe.2⟩
  | false=>match x.e != 0 with
   | true=>⟨0,q1 ++ x.q,x.e⟩
   | false=>match kind == 2 with
    | true=>⟨cl.1,q1 ++ x.q,cl.2⟩
    | false=>⟨ho.1,q1 ++ x.q,ho.2⟩
noncomputable abbrev uN (w : WorldT) (term : Int) (known : Int) (s : SysT) (q1 : List ReadT) (q2 : List ReadT) (n : Int) (d : Int) : List Blk:=[.var [ab (Fo FE w.c),ab w.p,ab (Fo FF w.s),ab (Fo FC w.f)],.var [.ref (.vec 2 2),ab (Fo FE w.c),ab w.p,ab (Fo FF w.s),ab (Fo FC w.f),int term,int known],.vec (ai (rdR (q1 ++ q2))) 2 5,.var [ab (Fo Gh s.classes),ab (Fo GV s.fees),ab (Fo Gh s.honours),ab (Fo GE s.clauses)],.var [int n,int d]]
noncomputable abbrev gn (w : WorldT) (term : Int) (known : Int) (s : SysT) (q1 : List ReadT) (q2 : List ReadT) : List Blk:=[.var [ab (Fo FE w.c),ab w.p,ab (Fo FF w.s),ab (Fo FC w.f)],.var [.ref (.vec 2 2),ab (Fo FE w.c),ab w.p,ab (Fo FF w.s),ab (Fo FC w.f),int term,int known],.vec (ai (rdR (q1 ++ q2))) 2 5,.var [ab (Fo Gh s.classes),ab (Fo GV s.fees),ab (Fo Gh s.honours),ab (Fo GE s.clauses)]]
noncomputable abbrev fm (w : WorldT) (term : Int) (known : Int) (s : SysT) (q1 : List ReadT) : List Blk:=[.var [ab (Fo FE w.c),ab w.p,ab (Fo FF w.s),ab (Fo FC w.f)],.var [.ref (.vec 2 1),ab (Fo FE w.c),ab w.p,ab (Fo FF w.s),ab (Fo FC w.f),int term,int known],.vec (ai (rdR q1)) 1 5,.var [ab (Fo Gh s.classes),ab (Fo GV s.fees),ab (Fo Gh s.honours),ab (Fo GE s.clauses)]]
noncomputable abbrev d6 (w : WorldT) (term : Int) (known : Int) (q1 : List ReadT) : List Blk:=[.var [ab (Fo FE w.c),ab w.p,ab (Fo FF w.s),ab (Fo FC w.f)],.var [.ref (.vec 2 1),ab (Fo FE w.c),ab w.p,ab (Fo FF w.s),ab (Fo FC w.f),int term,int known],.vec (ai (rdR q1)) 1 5]
noncomputable abbrev d7 (w : WorldT) (term : Int) (known : Int) : List Blk:=[.var [ab (Fo FE w.c),ab w.p,ab (Fo FF w.s),ab (Fo FC w.f)],.var [.ref (.vec 2 0),ab (Fo FE w.c),ab w.p,ab (Fo FF w.s),ab (Fo FC w.f),int term,int known],.vec [] 0 5]
noncomputable abbrev iO (w : WorldT) : List Blk:=[.var [ab (Fo FE w.c),ab w.p,ab (Fo FF w.s),ab (Fo FC w.f)]]
theorem sof_a {w : WorldT} {kind st obj term known : Int} {s : SysT} {q1 q2 : List ReadT} {en n d e f1 f2 c1 c2 h1 h2 : Int}
 (hs : Ev Fp Γk 98 [.ref (.ptr 0 0)] (vwH w term known [] 0) (ag s.row) (vwH w term known q1 1))
 (hc : Ev Fp Γk 99 [.ref (.ptr 0 0),int st] (vwH w term known q1 0) (.tup [int en,.agg [int n,int d],int e]) (vwH w term known (q1 ++ q2) 1))
 (hf : ∀ h,Ev Fp Γk 41 [ag s.row,int obj] h (.tup [int f1,int f2]) h)
 (hk : ∀ h,Ev Fp Γk 37 [ag s.row,int en,.agg [int n,int d]] h (.tup [int c1,int c2]) h)
 (hh : ∀ h,Ev Fp Γk 39 [ag s.row,int en,.agg [int n,int d]] h (.tup [int h1,int h2]) h) (h : List Blk) : (Ev Fp Γk 46 [.agg w.l,int kind,int st,int obj,int term,int known] h (.tup [int (ofX kind st obj term q1 ⟨en,n,d,e,q2⟩ (f1,f2) (c1,c2) (h1,h2)).ans,ab (rdR (ofX kind st obj term q1 ⟨en,n,d,e,q2⟩ (f1,f2) (c1,c2) (h1,h2)).q),int (ofX kind st obj term q1 ⟨en,n,d,e,q2⟩ (f1,f2) (c1,c2) (h1,h2)).e]) h):=by
 cases hc0 : kind != 2 && kind != 3 && kind != 4 || decide (st < 0) || decide (st ≥ 20000) || decide (term < 0) || decide (term ≥ 1024) || kind == 3 && !amt obj
 ·cases hc1 : kind == 3
  ·cases hc2 : e != 0
   ·cases hc3 : kind == 2
    ·refine FP (GK (z0 (d:=FM [int h1,ab (rdR (q1 ++ q2)),int h2]) [.val (bool (amt obj)),.b false,.nx 1,.st (.nilC 1 0 5),.call (ag (FF s)) (d6 w term known q1),.b false,.call (FM [int en,FU [int n,int d],int e]) (gn w term known s q1 q2),.b false,.b false,.val (FM [int h1,int h2]),.st (.frz 2 (rdR (q1 ++ q2)))] (.c (gd (!(kind != 2 && kind != 3 && kind != 4 || decide (st < 0) || decide (st ≥ 20000) || decide (term < 0) || decide (term ≥ 1024)) && kind == 3) (F1 (Γ':=Γk) (@cm obj (iO w)))) (.c hc0 (.c (show Ev Fp Γk 98 [.ref (.ptr 1 0)] (d7 w term known) (ag (FF s)) (d6 w term known q1) from (FP (GY (args:=[.ref (.ptr 1 0)]) (H:=(d7 w term known)) [1,2] (@hs) (by kernel_rfl) (by kernel_rfl) (by kernel_rfl) ⟨?_,trivial⟩ ⟨?_,trivial⟩) (by kernel_rfl) (by kernel_rfl))) (.c hc1 (.c (show Ev Fp Γk 99 [.ref (.ptr 1 0),int st] (fm w term known s q1) (FM [int en,FU [int n,int d],int e]) (gn w term known s q1 q2) from (FP (GY (args:=[.ref (.ptr 1 0),int st]) (H:=(fm w term known s q1)) [1,2] (La [0,1] (@hc) (by kernel_rfl) ⟨?_,trivial⟩ ⟨?_,trivial⟩) (by kernel_rfl) (by kernel_rfl) (by kernel_rfl) ⟨?_,trivial⟩ ⟨?_,trivial⟩) (by kernel_rfl) (by kernel_rfl))) (.c hc2 (.c hc3 (.c (@hh (uN w term known s q1 q2 n d)) (.c (show ai (rdR (q1 ++ q2)) = Fo (fun x=>Fo Gj x) (rdR (q1 ++ q2)) from (by rfl)) .n))))))))) h)) (by (have z0 : ofBad kind st obj term = false:=hc0; simp only [ofX,z0,hc1,hc2,hc3]; first | done | rfl)) (by rfl) <;> (first | rfl | exact am _ _)
    ·refine FP (GK (z0 (d:=FM [int c1,ab (rdR (q1 ++ q2)),int c2]) [.val (bool (amt obj)),.b false,.nx 1,.st (.nilC 1 0 5),.call (ag (FF s)) (d6 w term known q1),.b false,.call (FM [int en,FU [int n,int d],int e]) (gn w term known s q1 q2),.b false,.b true,.val (FM [int c1,int c2]),.st (.frz 2 (rdR (q1 ++ q2)))] (.c (gd (!(kind != 2 && kind != 3 && kind != 4 || decide (st < 0) || decide (st ≥ 20000) || decide (term < 0) || decide (term ≥ 1024)) && kind == 3) (F1 (Γ':=Γk) (@cm obj (iO w)))) (.c hc0 (.c (show Ev Fp Γk 98 [.ref (.ptr 1 0)] (d7 w term known) (ag (FF s)) (d6 w term known q1) from (FP (GY (args:=[.ref (.ptr 1 0)]) (H:=(d7 w term known)) [1,2] (@hs) (by kernel_rfl) (by kernel_rfl) (by kernel_rfl) ⟨?_,trivial⟩ ⟨?_,trivial⟩) (by kernel_rfl) (by kernel_rfl))) (.c hc1 (.c (show Ev Fp Γk 99 [.ref (.ptr 1 0),int st] (fm w term known s q1) (FM [int en,FU [int n,int d],int e]) (gn w term known s q1 q2) from (FP (GY (args:=[.ref (.ptr 1 0),int st]) (H:=(fm w term known s q1)) [1,2] (La [0,1] (@hc) (by kernel_rfl) ⟨?_,trivial⟩ ⟨?_,trivial⟩) (by kernel_rfl) (by kernel_rfl) (by kernel_rfl) ⟨?_,trivial⟩ ⟨?_,trivial⟩) (by kernel_rfl) (by kernel_rfl))) (.c hc2 (.c hc3 (.c (@hk (uN w term known s q1 q2 n d)) (.c (show ai (rdR (q1 ++ q2)) = Fo (fun x=>Fo Gj x) (rdR (q1 ++ q2)) from (by rfl)) .n))))))))) h)) (by (have z0 : ofBad kind st obj term = false:=hc0; simp only [ofX,z0,hc1,hc2,hc3]; first | done | rfl)) (by rfl) <;> (first | rfl | exact am _ _)
   ·refine FP (GK (z0 (d:=FM [int 0,ab (rdR (q1 ++ q2)),int e]) [.val (bool (amt obj)),.b false,.nx 1,.st (.nilC 1 0 5),.call (ag (FF s)) (d6 w term known q1),.b false,.call (FM [int en,FU [int n,int d],int e]) (gn w term known s q1 q2),.b true,.st (.frz 2 (rdR (q1 ++ q2)))] (.c (gd (!(kind != 2 && kind != 3 && kind != 4 || decide (st < 0) || decide (st ≥ 20000) || decide (term < 0) || decide (term ≥ 1024)) && kind == 3) (F1 (Γ':=Γk) (@cm obj (iO w)))) (.c hc0 (.c (show Ev Fp Γk 98 [.ref (.ptr 1 0)] (d7 w term known) (ag (FF s)) (d6 w term known q1) from (FP (GY (args:=[.ref (.ptr 1 0)]) (H:=(d7 w term known)) [1,2] (@hs) (by kernel_rfl) (by kernel_rfl) (by kernel_rfl) ⟨?_,trivial⟩ ⟨?_,trivial⟩) (by kernel_rfl) (by kernel_rfl))) (.c hc1 (.c (show Ev Fp Γk 99 [.ref (.ptr 1 0),int st] (fm w term known s q1) (FM [int en,FU [int n,int d],int e]) (gn w term known s q1 q2) from (FP (GY (args:=[.ref (.ptr 1 0),int st]) (H:=(fm w term known s q1)) [1,2] (La [0,1] (@hc) (by kernel_rfl) ⟨?_,trivial⟩ ⟨?_,trivial⟩) (by kernel_rfl) (by kernel_rfl) (by kernel_rfl) ⟨?_,trivial⟩ ⟨?_,trivial⟩) (by kernel_rfl) (by kernel_rfl))) (.c hc2 (.c (show ai (rdR (q1 ++ q2)) = Fo (fun x=>Fo Gj x) (rdR (q1 ++ q2)) from (by rfl)) .n))))))) h)) (by (have z0 : ofBad kind st obj term = false:=hc0; simp only [ofX,z0,hc1,hc2]; first | done | rfl)) (by rfl) <;> (first | rfl | exact am _ _)
  ·refine FP (GK (z0 (d:=FM [int f1,ab (rdR q1),int f2]) [.val (bool (amt obj)),.b false,.nx 1,.st (.nilC 1 0 5),.call (ag (FF s)) (d6 w term known q1),.b true,.val (FM [int f1,int f2]),.st (.frz 2 (rdR q1))] (.c (gd (!(kind != 2 && kind != 3 && kind != 4 || decide (st < 0) || decide (st ≥ 20000) || decide (term < 0) || decide (term ≥ 1024)) && kind == 3) (F1 (Γ':=Γk) (@cm obj (iO w)))) (.c hc0 (.c (show Ev Fp Γk 98 [.ref (.ptr 1 0)] (d7 w term known) (ag (FF s)) (d6 w term known q1) from (FP (GY (args:=[.ref (.ptr 1 0)]) (H:=(d7 w term known)) [1,2] (@hs) (by kernel_rfl) (by kernel_rfl) (by kernel_rfl) ⟨?_,trivial⟩ ⟨?_,trivial⟩) (by kernel_rfl) (by kernel_rfl))) (.c hc1 (.c (@hf (fm w term known s q1)) (.c (show ai (rdR q1) = Fo (fun x=>Fo Gj x) (rdR q1) from (by rfl)) .n)))))) h)) (by (have z0 : ofBad kind st obj term = false:=hc0; simp only [ofX,z0,hc1]; first | done | rfl)) (by rfl) <;> (first | rfl | exact am _ _)
 ·exact FP (GK (z0 (d:=FM [int 0,nq,int 1]) [.val (bool (amt obj)),.b true] (.c (gd (!(kind != 2 && kind != 3 && kind != 4 || decide (st < 0) || decide (st ≥ 20000) || decide (term < 0) || decide (term ≥ 1024)) && kind == 3) (F1 (Γ':=Γk) (@cm obj (iO w)))) (.c hc0 .n)) h)) (by (have z0 : ofBad kind st obj term = true:=hc0; simp only [ofX,z0]; first | done | rfl)) (by rfl)
theorem y9 {s : SysT} (hs : s.ok) (h : List Blk) : Ev Fp Γ0 145 [ag s.row] h (bool (na s)) h:=by rw [← EW]; exact is14_a hs hs.lf h
theorem za {l : List SysT} {v : Int} {b : Bool} (hw1 : Fs.wrap (((l.map FF).length : Int) - 1) = (l.length : Int) - 1) :
  (!b || !(decide (v ≥ 0) && decide (v ≤ Fs.wrap (((l.map FF).length : Int) - 1))) || !na (l.getD v.toNat default)) = fc l na (v,b):=by
 unfold fc
 rw [hw1]
 have e1 : decide (v < 0) = !decide (v ≥ 0):=by by_cases h : v ≥ 0 <;> simp [h] <;> omega
 have e2 : decide (v ≥ (l.length : Int)) = !decide (v ≤ (l.length : Int) - 1):=by by_cases h : v ≤ (l.length : Int) - 1 <;> simp [h] <;> omega
 simp only [e1,e2]
 cases b <;> cases decide (v ≥ 0) <;> cases decide (v ≤ (l.length : Int) - 1) <;> simp
noncomputable abbrev vV (w : WorldT) : List Blk:=[.var [ab (Fo FE w.c),ab w.p,ab (Fo FF w.s),ab (Fo FC w.f)],.var [nq,nq,nq,nq]]
theorem sys14_0 {w : WorldT} {term known : Int} (ht : (!(decide (term ≥ 0) && decide (term ≤ 1023))) = true) (h : List Blk) : (Ev Fp Γ0 100 [.agg w.l,int term,int known] h (.tup [sysZ,ab []]) h):=by
 exact FP (GK (z0 (d:=FM [FU [nq,nq,nq,nq],nq]) [.val (bool (decide (term ≥ 0) && decide (term ≤ 1023))),.b true] (.c (@aJ term 0 1023 (vV w)) (.c ht .n)) h)) (by rfl) (by rfl)
noncomputable abbrev dv (w : WorldT) : List Blk:=[.var [ab (Fo FE w.c),ab w.p,ab (Fo FF w.s),ab (Fo FC w.f)],.var [nq,nq,nq,nq],.var [int 4,int 0,int 0],.gone]
noncomputable abbrev nG (w : WorldT) : List Blk:=[.var [ab (Fo FE w.c),ab w.p,ab (Fo FF w.s),ab (Fo FC w.f)],.var [nq,nq,nq,nq],.var [int 4,int 0,int 0]]
noncomputable abbrev nH (w : WorldT) : List Blk:=[.var [ab (Fo FE w.c),ab w.p,ab (Fo FF w.s),ab (Fo FC w.f)],.var [nq,nq,nq,nq]]
theorem sys14_1 {w : WorldT} {term known v : Int} {b : Bool} (ht : (!(decide (term ≥ 0) && decide (term ≤ 1023))) = false) (hat : ∀ h,Ev Fp Γ0 124 [ab (w.f.map FC),.agg [int 4,int 0,int 0],int term,int known] h (.tup [int v,bool b]) h) (hw1 : Fs.wrap (((w.s.map FF).length : Int) - 1) = (w.s.length : Int) - 1)
  (hd1 : (w.s.getD v.toNat default).ok) (h : List Blk) : (Ev Fp Γ0 100 [.agg w.l,int term,int known] h (.tup [ag (eJ w.s na SysT.zero (v,b)).1.row,ab (jt 4 0 0 term (Fs.wrap (term + 1)))]) h):=by
 cases hc0 : !b || !(decide (v ≥ 0) && decide (v ≤ Fz Fs ((↑(Fu (Fo FF w.s)) : Int) - 1))) || !na (FG w.s (FA v) default)
 ·let v0:=FG w.s (FA v) default
  let v1 : List D:=[int 4,int 0,int 0,int term,int (Fz Fs (term + 1))]
  let v2:=Fo GE v0.clauses
  let v3:=Fo Gh v0.classes
  let v4:=Fo Gh v0.honours
  let v5:=Fu (Fo FF w.s)
  let v6:=Fo GV v0.fees
  refine FP (GK (z0 (d:=FM [FU [ab v3,ab v6,ab v4,ab v2],ab [[vi 4,vi 0,vi 0,vi term,vi (Fz Fs (term + 1))]]]) [.val (bool (decide (term ≥ 0) && decide (term ≤ 1023))),.b false,.val (FU v1),.st (.frz 3 (jt 4 0 0 term (Fz Fs (term + 1)))),.val (FM [int v,bool b]),.val (bool (decide (v ≥ 0) && decide (v ≤ Fz Fs ((↑v5 : Int) - 1)))),.row [Gp v3,Gp v6,Gp v4,Gp v2],.val (bool (na v0)),.b false,.row [Gp v3,Gp v6,Gp v4,Gp v2]] (.c (@aJ term 0 1023 (nH w)) (.c ht (.c (@fR 4 0 0 term (nG w)) (.er [v1] (.c (@hat (dv w)) (.c (gd (!!b) (@aJ v 0 (Fz Fs ((↑v5 : Int) - 1)) (dv w))) (.c (show (!(!b || !(decide (v ≥ 0) && decide (v ≤ Fz Fs ((↑v5 : Int) - 1))))) = true → ah v (Fo FF w.s) [Gp v3,Gp v6,Gp v4,Gp v2] 4 from (fun hg=>?_)) (.c (gd (!(!b || !(decide (v ≥ 0) && decide (v ≤ Fz Fs ((↑v5 : Int) - 1))))) (@y9 v0 hd1 (dv w))) (.c hc0 (.c (show ah v (Fo FF w.s) [Gp v3,Gp v6,Gp v4,Gp v2] 4 from ?_) .n)))))))))) h)) (by subst v0 v1 v2 v3 v4 v5 v6; (have hb : fc w.s na (v,b) = false:=(za hw1).symm.trans hc0; simp only [eJ,hb]; rfl)) (by rfl) <;> subst v0 v1 v2 v3 v4 v5 v6 <;> (refine be (fun _=>rfl) ?_ ?_ <;> simp only [hw1,GZ,Ic,GN,FB,decide_eq_true_eq] at * <;> omega)
 ·let v0:=FG w.s (FA v) default
  let v1 : List D:=[int 4,int 0,int 0,int term,int (Fz Fs (term + 1))]
  let v2:=Fu (Fo FF w.s)
  exact FP (GK (z0 (d:=FM [FU [nq,nq,nq,nq],ab [[vi 4,vi 0,vi 0,vi term,vi (Fz Fs (term + 1))]]]) [.val (bool (decide (term ≥ 0) && decide (term ≤ 1023))),.b false,.val (FU v1),.st (.frz 3 (jt 4 0 0 term (Fz Fs (term + 1)))),.val (FM [int v,bool b]),.val (bool (decide (v ≥ 0) && decide (v ≤ Fz Fs ((↑v2 : Int) - 1)))),.row [Gp (Fo Gh v0.classes),Gp (Fo GV v0.fees),Gp (Fo Gh v0.honours),Gp (Fo GE v0.clauses)],.val (bool (na v0)),.b true] (.c (@aJ term 0 1023 (nH w)) (.c ht (.c (@fR 4 0 0 term (nG w)) (.er [v1] (.c (@hat (dv w)) (.c (gd (!!b) (@aJ v 0 (Fz Fs ((↑v2 : Int) - 1)) (dv w))) (.c (show (!(!b || !(decide (v ≥ 0) && decide (v ≤ Fz Fs ((↑v2 : Int) - 1))))) = true → ah v (Fo FF w.s) [Gp (Fo Gh v0.classes),Gp (Fo GV v0.fees),Gp (Fo Gh v0.honours),Gp (Fo GE v0.clauses)] 4 from (fun hg=>(by subst v0 v1 v2; (refine be (fun _=>rfl) ?_ ?_ <;> simp only [hw1,GZ,Ic,GN,FB,decide_eq_true_eq,G4] at * <;> omega)))) (.c (gd (!(!b || !(decide (v ≥ 0) && decide (v ≤ Fz Fs ((↑v2 : Int) - 1))))) (@y9 v0 hd1 (dv w))) (.c hc0 .n))))))))) h)) (by subst v0 v1 v2; (have hb : fc w.s na (v,b) = true:=(za hw1).symm.trans hc0; simp only [eJ,hb]; rfl)) (by rfl) <;> subst v0 v1 v2
theorem sys14r {w : WorldT} (hw : w.ok) {term known : Int} (h : List Blk) : Ev Fp Γ0 100 [.agg w.l,int term,int known] h (.tup [ag (bF w term known).1.row,ab (rdR (rdT 4 0 0 term))]) h:=by
 rw [← oY]
 unfold bF eK
 cases ht : outB term with
 | true=>exact sys14_0 ht h
 | false =>
  have hlc:=hw.ls
  unfold ad at hlc
  have hz0 : SysT.zero.ok:=SysT.zero_ok
  have hz : ∀ v : Int,(w.s.getD v.toNat default).ok:=by
   intro v
   rw [FG]
   cases hx : w.s[v.toNat]? with
   | none=>exact hz0
   | some x=>exact hw.s x (List.mem_of_getElem? hx)
  exact sys14_1 ht (fun h=>by have:=uv (kk:=4) (ks:=0) (ko:=0) (term:=term) (known:=known) hw.sf h; rw [uz] at this; exact this) (by rw [GB,wrap_i64 (by omega) (by omega)]) (hz _) h
theorem rd_frz2 (a b : List ReadT) : (rdR a).map (fun x=>x.map Gj) ++ (rdR b).map (fun x=>x.map Gj) = (rdR (a ++ b)).map fun x=>x.map Gj:=by simp
theorem lX (a b c : List ReadT) : (rdR a).map (fun x=>x.map Gj) ++ (rdR b).map (fun x=>x.map Gj) ++ (rdR c).map (fun x=>x.map Gj) = (rdR (a ++ (b ++ c))).map fun x=>x.map Gj:=by simp
theorem vW (l : List ReadT) : ((rdR l).map fun x=>x.map Gj).all (aG 5) = true:=sS l
theorem f4 (kind st obj term : Int) : ofBad kind st obj term = (kind != 2 && kind != 3 && kind != 4 || decide (st < 0) || decide (st ≥ 20000) || decide (term < 0) || decide (term ≥ 1024) || kind == 3 && (decide (obj < 0) || decide (obj > 10000))):=by
 have : (!amt obj) = (decide (obj < 0) || decide (obj > 10000)):=by
  rw [HB]; simp [amt]
 unfold ofBad
 rw [this]
noncomputable abbrev ro (w : WorldT) (s : SysT) (r : RecT) (q1 : List ReadT) (p1 : List ReadT) (p2 : List ReadT) (n : Int) (d : Int) : List Blk:=[.var [ab (Fo FE w.c),ab w.p,ab (Fo FF w.s),ab (Fo FC w.f)],.var [ab (Fo Gh s.classes),ab (Fo GV s.fees),ab (Fo Gh s.honours),ab (Fo GE s.clauses)],.var [int r.st,ab (Fo Ft r.a)],.vec (Fo (fun x=>Fo Gj x) (rdR q1) ++ Fo (fun x=>Fo Gj x) (rdR p1) ++ Fo (fun x=>Fo Gj x) (rdR p2)) 3 5,.var [int n,int d]]
noncomputable abbrev dM (w : WorldT) (s : SysT) (r : RecT) (q1 : List ReadT) (p1 : List ReadT) (p2 : List ReadT) : List Blk:=[.var [ab (Fo FE w.c),ab w.p,ab (Fo FF w.s),ab (Fo FC w.f)],.var [ab (Fo Gh s.classes),ab (Fo GV s.fees),ab (Fo Gh s.honours),ab (Fo GE s.clauses)],.var [int r.st,ab (Fo Ft r.a)],.vec (Fo (fun x=>Fo Gj x) (rdR q1) ++ Fo (fun x=>Fo Gj x) (rdR p1) ++ Fo (fun x=>Fo Gj x) (rdR p2)) 3 5]
noncomputable abbrev f5 (w : WorldT) (s : SysT) (r : RecT) (q1 : List ReadT) (p1 : List ReadT) : List Blk:=[.var [ab (Fo FE w.c),ab w.p,ab (Fo FF w.s),ab (Fo FC w.f)],.var [ab (Fo Gh s.classes),ab (Fo GV s.fees),ab (Fo Gh s.honours),ab (Fo GE s.clauses)],.var [int r.st,ab (Fo Ft r.a)],.vec (Fo (fun x=>Fo Gj x) (rdR q1) ++ Fo (fun x=>Fo Gj x) (rdR p1)) 2 5]
noncomputable abbrev dN (w : WorldT) (s : SysT) : List Blk:=[.var [ab (Fo FE w.c),ab w.p,ab (Fo FF w.s),ab (Fo FC w.f)],.var [ab (Fo Gh s.classes),ab (Fo GV s.fees),ab (Fo Gh s.honours),ab (Fo GE s.clauses)]]
noncomputable abbrev of47_a_x4 (w : WorldT) (term : Int) (known : Int) (r : RecT) : List D:=[FU [ab (Fo FE w.c),ab w.p,ab (Fo FF w.s),ab (Fo FC w.f)],FU [int r.st,ab (Fo Ft r.a)],int term,int known]
noncomputable abbrev of47_a_x5 (w : WorldT) (st : Int) (term : Int) (known : Int) : List D:=[FU [ab (Fo FE w.c),ab w.p,ab (Fo FF w.s),ab (Fo FC w.f)],int st,int term,int known]
noncomputable abbrev of47_a_x6 (w : WorldT) (term : Int) (known : Int) : List D:=[FU [ab (Fo FE w.c),ab w.p,ab (Fo FF w.s),ab (Fo FC w.f)],int term,int known]
noncomputable abbrev dP (w : WorldT) : List Blk:=[.var [ab (Fo FE w.c),ab w.p,ab (Fo FF w.s),ab (Fo FC w.f)]]
theorem of47_a {w : WorldT} {kind st obj term known : Int} {s : SysT} {r : RecT} {L : List AttT} {q1 p1 p2 : List ReadT} {e1 e2 ea earn n d em f1 f2 c1 c2 h1 h2 : Int} (hq : q1.length + p1.length + p2.length ≤ 900000000)
 (k0 : ∀ h,Ev Fp Γ0 100 [.agg w.l,int term,int known] h (.tup [ag s.row,ab (rdR q1)]) h)
 (k1 : ∀ h,Ev Fp Γ0 26 [.agg w.l,int st,int term,int known] h (.tup [.agg r.l,ab (rdR p1),int e1]) h)
 (k2 : ∀ h,Ev Fp Γ0 57 [.agg w.l,.agg r.l,int term,int known] h (.tup [ab (L.map Ft),ab (rdR p2),int e2]) h)
 (k3 : ∀ h,Ev Fp Γ0 72 [ab (L.map Ft)] h (.tup [int earn,int ea]) h)
 (k4 : ∀ h,Ev Fp Γ0 73 [ab (L.map Ft)] h (.tup [.agg [int n,int d],int em]) h)
 (k5 : ∀ h,Ev Fp Γ0 42 [ag s.row,int obj] h (.tup [int f1,int f2]) h)
 (k6 : ∀ h,Ev Fp Γ0 38 [ag s.row,int (minE earn),.agg [int n,int d]] h (.tup [int c1,int c2]) h)
 (k7 : ∀ h,Ev Fp Γ0 40 [ag s.row,int (minE earn),.agg [int n,int d]] h (.tup [int h1,int h2]) h) (h : List Blk) : (Ev Fp Γ0 47 [.agg w.l,int kind,int st,int obj,int term,int known] h (.tup [int (ofX kind st obj term q1 (vwX p1 p2 e1 e2 ea earn n d em) (f1,f2) (c1,c2) (h1,h2)).ans,ab (rdR (ofX kind st obj term q1 (vwX p1 p2 e1 e2 ea earn n d em) (f1,f2) (c1,c2) (h1,h2)).q),int (ofX kind st obj term q1 (vwX p1 p2 e1 e2 ea earn n d em) (f1,f2) (c1,c2) (h1,h2)).e]) h):=by
 cases hc0 : kind != 2 && kind != 3 && kind != 4 || decide (st < 0) || decide (st ≥ 20000) || decide (term < 0) || decide (term ≥ 1024) || kind == 3 && (decide (obj < 0) || decide (obj > 10000))
 ·cases hc1 : kind == 3
  ·cases hc2 : e1 != 0
   ·cases hc3 : e2 != 0
    ·cases hc4 : ea != 0
     ·cases hc5 : em != 0
      ·cases hc6 : kind == 2
       ·refine FP (GK (z0 (d:=FM [int h1,ab (rdR (q1 ++ (p1 ++ p2))),int h2]) [.b false,.val (FM [(ag (FF s)),ab (rdR q1)]),.b false,.val (FM [FU [int r.st,ab (Fo Ft r.a)],ab (rdR p1),int e1]),.b false,.val (FM [ab (Fo Ft L),ab (rdR p2),int e2]),.b false,.val (FM [int earn,int ea]),.b false,.val (FM [FU [int n,int d],int em]),.b false,.b false,.val (FM [int h1,int h2]),.st (.frz 3 (rdR (q1 ++ (p1 ++ p2))))] (.c hc0 (.c (@k0 (dP w)) (.c hc1 (.c (@k1 (dN w s)) (.c (show (FN (Fo (fun x=>Fo Gj x) (rdR q1)) (aG 5) && roomOk (Fu ([] : List (List D)) + Fu (Fo (fun x=>Fo Gj x) (rdR q1))) 40) = true from ?_) (.c (show (FN (Fo (fun x=>Fo Gj x) (rdR p1)) (aG 5) && roomOk (Fu (Fo (fun x=>Fo Gj x) (rdR q1)) + Fu (Fo (fun x=>Fo Gj x) (rdR p1))) 40) = true from ?_) (.c hc2 (.c (@k2 (f5 w s r q1 p1)) (.c (show (FN (Fo (fun x=>Fo Gj x) (rdR p2)) (aG 5) && roomOk (Fu (Fo (fun x=>Fo Gj x) (rdR q1) ++ Fo (fun x=>Fo Gj x) (rdR p1)) + Fu (Fo (fun x=>Fo Gj x) (rdR p2))) 40) = true from ?_) (.c hc3 (.c (@k3 (dM w s r q1 p1 p2)) (.c hc4 (.c (@k4 (dM w s r q1 p1 p2)) (.c hc5 (.c hc6 (.c (@k7 (ro w s r q1 p1 p2 n d)) (.c (show Fo (fun x=>Fo Gj x) (rdR q1) ++ Fo (fun x=>Fo Gj x) (rdR p1) ++ Fo (fun x=>Fo Gj x) (rdR p2) = Fo (fun x=>Fo Gj x) (rdR (q1 ++ (p1 ++ p2))) from ?_) .n))))))))))))))))) h)) (by (have z0 : ofBad kind st obj term = false:=(f4 _ _ _ _).trans hc0; simp only [ofX,vwX,z0,hc1,hc2,hc3,hc4,hc5,hc6]; rfl)) (by rfl) <;> (first | exact lX _ _ _ | (simp only [vW,roomOk,G1,FB,decide_eq_true_eq,GB,GQ,Hf]; omega))
       ·refine FP (GK (z0 (d:=FM [int c1,ab (rdR (q1 ++ (p1 ++ p2))),int c2]) [.b false,.val (FM [(ag (FF s)),ab (rdR q1)]),.b false,.val (FM [FU [int r.st,ab (Fo Ft r.a)],ab (rdR p1),int e1]),.b false,.val (FM [ab (Fo Ft L),ab (rdR p2),int e2]),.b false,.val (FM [int earn,int ea]),.b false,.val (FM [FU [int n,int d],int em]),.b false,.b true,.val (FM [int c1,int c2]),.st (.frz 3 (rdR (q1 ++ (p1 ++ p2))))] (.c hc0 (.c (@k0 (dP w)) (.c hc1 (.c (@k1 (dN w s)) (.c (show (FN (Fo (fun x=>Fo Gj x) (rdR q1)) (aG 5) && roomOk (Fu ([] : List (List D)) + Fu (Fo (fun x=>Fo Gj x) (rdR q1))) 40) = true from ?_) (.c (show (FN (Fo (fun x=>Fo Gj x) (rdR p1)) (aG 5) && roomOk (Fu (Fo (fun x=>Fo Gj x) (rdR q1)) + Fu (Fo (fun x=>Fo Gj x) (rdR p1))) 40) = true from ?_) (.c hc2 (.c (@k2 (f5 w s r q1 p1)) (.c (show (FN (Fo (fun x=>Fo Gj x) (rdR p2)) (aG 5) && roomOk (Fu (Fo (fun x=>Fo Gj x) (rdR q1) ++ Fo (fun x=>Fo Gj x) (rdR p1)) + Fu (Fo (fun x=>Fo Gj x) (rdR p2))) 40) = true from ?_) (.c hc3 (.c (@k3 (dM w s r q1 p1 p2)) (.c hc4 (.c (@k4 (dM w s r q1 p1 p2)) (.c hc5 (.c hc6 (.c (@k6 (ro w s r q1 p1 p2 n d)) (.c (show Fo (fun x=>Fo Gj x) (rdR q1) ++ Fo (fun x=>Fo Gj x) (rdR p1) ++ Fo (fun x=>Fo Gj x) (rdR p2) = Fo (fun x=>Fo Gj x) (rdR (q1 ++ (p1 ++ p2))) from ?_) .n))))))))))))))))) h)) (by (have z0 : ofBad kind st obj term = false:=(f4 _ _ _ _).trans hc0; simp only [ofX,vwX,z0,hc1,hc2,hc3,hc4,hc5,hc6]; rfl)) (by rfl) <;> (first | exact lX _ _ _ | (simp only [vW,roomOk,G1,FB,decide_eq_true_eq,GB,GQ,Hf]; omega))
      ·refine FP (GK (z0 (d:=FM [int 0,ab (rdR (q1 ++ (p1 ++ p2))),int em]) [.b false,.val (FM [(ag (FF s)),ab (rdR q1)]),.b false,.val (FM [FU [int r.st,ab (Fo Ft r.a)],ab (rdR p1),int e1]),.b false,.val (FM [ab (Fo Ft L),ab (rdR p2),int e2]),.b false,.val (FM [int earn,int ea]),.b false,.val (FM [FU [int n,int d],int em]),.b true,.st (.frz 3 (rdR (q1 ++ (p1 ++ p2))))] (.c hc0 (.c (@k0 (dP w)) (.c hc1 (.c (@k1 (dN w s)) (.c (show (FN (Fo (fun x=>Fo Gj x) (rdR q1)) (aG 5) && roomOk (Fu ([] : List (List D)) + Fu (Fo (fun x=>Fo Gj x) (rdR q1))) 40) = true from ?_) (.c (show (FN (Fo (fun x=>Fo Gj x) (rdR p1)) (aG 5) && roomOk (Fu (Fo (fun x=>Fo Gj x) (rdR q1)) + Fu (Fo (fun x=>Fo Gj x) (rdR p1))) 40) = true from ?_) (.c hc2 (.c (@k2 (f5 w s r q1 p1)) (.c (show (FN (Fo (fun x=>Fo Gj x) (rdR p2)) (aG 5) && roomOk (Fu (Fo (fun x=>Fo Gj x) (rdR q1) ++ Fo (fun x=>Fo Gj x) (rdR p1)) + Fu (Fo (fun x=>Fo Gj x) (rdR p2))) 40) = true from ?_) (.c hc3 (.c (@k3 (dM w s r q1 p1 p2)) (.c hc4 (.c (@k4 (dM w s r q1 p1 p2)) (.c hc5 (.c (show Fo (fun x=>Fo Gj x) (rdR q1) ++ Fo (fun x=>Fo Gj x) (rdR p1) ++ Fo (fun x=>Fo Gj x) (rdR p2) = Fo (fun x=>Fo Gj x) (rdR (q1 ++ (p1 ++ p2))) from ?_) .n))))))))))))))) h)) (by (have z0 : ofBad kind st obj term = false:=(f4 _ _ _ _).trans hc0; simp only [ofX,vwX,z0,hc1,hc2,hc3,hc4,hc5]; rfl)) (by rfl) <;> (first | exact lX _ _ _ | (simp only [vW,roomOk,G1,FB,decide_eq_true_eq,GB,GQ,Hf]; omega))
     ·refine FP (GK (z0 (d:=FM [int 0,ab (rdR (q1 ++ (p1 ++ p2))),int ea]) [.b false,.val (FM [(ag (FF s)),ab (rdR q1)]),.b false,.val (FM [FU [int r.st,ab (Fo Ft r.a)],ab (rdR p1),int e1]),.b false,.val (FM [ab (Fo Ft L),ab (rdR p2),int e2]),.b false,.val (FM [int earn,int ea]),.b true,.st (.frz 3 (rdR (q1 ++ (p1 ++ p2))))] (.c hc0 (.c (@k0 (dP w)) (.c hc1 (.c (@k1 (dN w s)) (.c (show (FN (Fo (fun x=>Fo Gj x) (rdR q1)) (aG 5) && roomOk (Fu ([] : List (List D)) + Fu (Fo (fun x=>Fo Gj x) (rdR q1))) 40) = true from ?_) (.c (show (FN (Fo (fun x=>Fo Gj x) (rdR p1)) (aG 5) && roomOk (Fu (Fo (fun x=>Fo Gj x) (rdR q1)) + Fu (Fo (fun x=>Fo Gj x) (rdR p1))) 40) = true from ?_) (.c hc2 (.c (@k2 (f5 w s r q1 p1)) (.c (show (FN (Fo (fun x=>Fo Gj x) (rdR p2)) (aG 5) && roomOk (Fu (Fo (fun x=>Fo Gj x) (rdR q1) ++ Fo (fun x=>Fo Gj x) (rdR p1)) + Fu (Fo (fun x=>Fo Gj x) (rdR p2))) 40) = true from ?_) (.c hc3 (.c (@k3 (dM w s r q1 p1 p2)) (.c hc4 (.c (show Fo (fun x=>Fo Gj x) (rdR q1) ++ Fo (fun x=>Fo Gj x) (rdR p1) ++ Fo (fun x=>Fo Gj x) (rdR p2) = Fo (fun x=>Fo Gj x) (rdR (q1 ++ (p1 ++ p2))) from ?_) .n))))))))))))) h)) (by (have z0 : ofBad kind st obj term = false:=(f4 _ _ _ _).trans hc0; simp only [ofX,vwX,z0,hc1,hc2,hc3,hc4]; rfl)) (by rfl) <;> (first | exact lX _ _ _ | (simp only [vW,roomOk,G1,FB,decide_eq_true_eq,GB,GQ,Hf]; omega))
    ·refine FP (GK (z0 (d:=FM [int 0,ab (rdR (q1 ++ (p1 ++ p2))),int e2]) [.b false,.val (FM [(ag (FF s)),ab (rdR q1)]),.b false,.val (FM [FU [int r.st,ab (Fo Ft r.a)],ab (rdR p1),int e1]),.b false,.val (FM [ab (Fo Ft L),ab (rdR p2),int e2]),.b true,.st (.frz 3 (rdR (q1 ++ (p1 ++ p2))))] (.c hc0 (.c (@k0 (dP w)) (.c hc1 (.c (@k1 (dN w s)) (.c (show (FN (Fo (fun x=>Fo Gj x) (rdR q1)) (aG 5) && roomOk (Fu ([] : List (List D)) + Fu (Fo (fun x=>Fo Gj x) (rdR q1))) 40) = true from ?_) (.c (show (FN (Fo (fun x=>Fo Gj x) (rdR p1)) (aG 5) && roomOk (Fu (Fo (fun x=>Fo Gj x) (rdR q1)) + Fu (Fo (fun x=>Fo Gj x) (rdR p1))) 40) = true from ?_) (.c hc2 (.c (@k2 (f5 w s r q1 p1)) (.c (show (FN (Fo (fun x=>Fo Gj x) (rdR p2)) (aG 5) && roomOk (Fu (Fo (fun x=>Fo Gj x) (rdR q1) ++ Fo (fun x=>Fo Gj x) (rdR p1)) + Fu (Fo (fun x=>Fo Gj x) (rdR p2))) 40) = true from ?_) (.c hc3 (.c (show Fo (fun x=>Fo Gj x) (rdR q1) ++ Fo (fun x=>Fo Gj x) (rdR p1) ++ Fo (fun x=>Fo Gj x) (rdR p2) = Fo (fun x=>Fo Gj x) (rdR (q1 ++ (p1 ++ p2))) from ?_) .n))))))))))) h)) (by (have z0 : ofBad kind st obj term = false:=(f4 _ _ _ _).trans hc0; simp only [ofX,vwX,z0,hc1,hc2,hc3]; rfl)) (by rfl) <;> (first | exact lX _ _ _ | (simp only [vW,roomOk,G1,FB,decide_eq_true_eq,GB,GQ,Hf]; omega))
   ·refine FP (GK (z0 (d:=FM [int 0,ab (rdR (q1 ++ p1)),int e1]) [.b false,.val (FM [(ag (FF s)),ab (rdR q1)]),.b false,.val (FM [FU [int r.st,ab (Fo Ft r.a)],ab (rdR p1),int e1]),.b true,.st (.frz 3 (rdR (q1 ++ p1)))] (.c hc0 (.c (@k0 (dP w)) (.c hc1 (.c (@k1 (dN w s)) (.c (show (FN (Fo (fun x=>Fo Gj x) (rdR q1)) (aG 5) && roomOk (Fu ([] : List (List D)) + Fu (Fo (fun x=>Fo Gj x) (rdR q1))) 40) = true from ?_) (.c (show (FN (Fo (fun x=>Fo Gj x) (rdR p1)) (aG 5) && roomOk (Fu (Fo (fun x=>Fo Gj x) (rdR q1)) + Fu (Fo (fun x=>Fo Gj x) (rdR p1))) 40) = true from ?_) (.c hc2 (.c (show Fo (fun x=>Fo Gj x) (rdR q1) ++ Fo (fun x=>Fo Gj x) (rdR p1) = Fo (fun x=>Fo Gj x) (rdR (q1 ++ p1)) from ?_) .n)))))))) h)) (by (have z0 : ofBad kind st obj term = false:=(f4 _ _ _ _).trans hc0; simp only [ofX,vwX,z0,hc1,hc2]; rfl)) (by rfl) <;> (first | exact rd_frz2 _ _ | (simp only [vW,roomOk,G1,FB,decide_eq_true_eq,GB,Hf]; omega))
  ·exact FP (GK (z0 (d:=FM [int f1,ab (rdR q1),int f2]) [.b false,.val (FM [(ag (FF s)),ab (rdR q1)]),.b true,.val (FM [int f1,int f2])] (.c hc0 (.c (@k0 (dP w)) (.c hc1 (.c (@k5 (dN w s)) .n)))) h)) (by (have z0 : ofBad kind st obj term = false:=(f4 _ _ _ _).trans hc0; simp only [ofX,z0,hc1]; rfl)) (by rfl)
 ·exact FP (GK (z0 (d:=FM [int 0,nq,int 1]) [.b true] (.c hc0 .n) h)) (by (have z0 : ofBad kind st obj term = true:=(f4 _ _ _ _).trans hc0; simp only [ofX,z0]; rfl)) (by rfl)
abbrev c15S (as_ : List (List Dp)) (i : Int) : AS:={ t:=mkT 16 0 [(0,ab as_),(2,int 0),(3,int i)],h:=[],m:=[] }
abbrev c15E : AS:={ t:=mkT 16 0 [],h:=[],m:=[] }
abbrev c15X : Unit → Exit × AS:=fun _=>(.ret,{ t:=mkT 16 0 [(2,int 150)],h:=[],m:=[] })
def c15F (a : AttT) (_ : Unit) : Unit ⊕ Unit:=bif attB a then .inl () else .inr ()
theorem BF {as_ : List (List Dp)} {a : AttT} {v : Bool} {i : Nat} (hr : ah (i : Int) as_ a.row 5) (hlt : decide ((i : Int) < (as_.length : Int)) = true) (hw : Fs.wrap ((i : Int) + 1) = ((i + 1 : Nat) : Int)) (hb : (!v) = false) (hv : ∀ h,Ev Fp Γ0 80 [ag a.row] h (bool v) h) : (CW Fp Γ0 [] false (sub Ku 0) (c15S as_ i) .normal (c15S as_ ((i + 1 : Nat) : Int))):=by
 refine zX { t:=mkT 16 0 [(0,ab as_),(2,int 0),(3,int (Fz Fs ((↑i : Int) + 1)))],h:=[],m:=[] } FH [.st (.mask [0,2,3])] [.b true,.row (Ft a),.val (bool v),.b false] (.c hlt (.c hr (.c (@hv ([])) (.c hb .n)))) ?_ ?_ <;> (first | rfl | (rw [hw]))
theorem zb {as_ : List (List Dp)} {a : AttT} {v : Bool} {i : Nat} (hr : ah (i : Int) as_ a.row 5) (hlt : decide ((i : Int) < (as_.length : Int)) = true) (hb : (!v) = true) (hv : ∀ h,Ev Fp Γ0 80 [ag a.row] h (bool v) h) : (CW Fp Γ0 [] false (sub Ku 0) (c15S as_ i) .ret { t:=mkT 16 0 [(2,int 150)],h:=[],m:=[] }):=by
 exact zx [.st (.mask [2])] [.b true,.row (Ft a),.val (bool v),.b true] (.c hlt (.c hr (.c (@hv ([])) (.c hb .n))))
theorem BG {as_ : List (List Dp)} {i : Nat} (hlt : decide ((i : Int) < (as_.length : Int)) = false) : (CW Fp Γ0 [] false (sub Ku 0) (c15S as_ i) (.exit 0) c15E):=by
 exact zx [.st (.mask [])] [.b false] (.c hlt .n)
theorem attV (a : AttT) : attB a = (decide (a.course ≥ 0) && decide (a.course < 4096) && decide (a.term ≥ 0) && decide (a.term < 1024) && decide (a.grade ≥ 0) && decide (a.grade ≤ 12) && decide (a.campus ≥ 0) && decide (a.campus < 7) && decide (a.credits ≥ 0) && decide (a.credits ≤ 60)):=by
 rw [HB]
 simp only [attB,inB,FB,decide_eq_true_eq]
 omega
theorem zc (a : AttT) (h : List Blk) : Ev Fp Γ0 80 [ag a.row] h (bool (attB a)) h:=by
 rw [attV]; exact xB h
def zd (l : List AttT) : Exit × AS:=aV (.exit 0) (fun _ : Unit=>c15E) c15X (forL c15F l ())
theorem c15_cw {l : List AttT} (hl : ad l) :
  CW Fp Γ0 [] false (.loop (sub Ku 0)) (c15S (l.map Ft) 0) (zd l).1 (zd l).2:=by
 refine Ha l c15F (fun i _=>c15S (l.map Ft) (i : Int)) (.exit 0) (fun _=>c15E) c15X (fun _ _=>True) (by simp) (fun _=>by simp []) ?_ ?_ () trivial
 ·intro i a _ ha _
  have hi:=(Fy.1 ha).1
  refine ⟨fun _ _=>trivial,?_⟩
  have hv:=zc a
  unfold c15F
  cases hb : attB a
  ·rw [hb] at hv
   exact zb (rowAt ha rfl) (lt_len Ft hi) rfl hv
  ·rw [hb] at hv
   exact BF (rowAt ha rfl) (lt_len Ft hi) (wrap_succ hi hl) rfl hv
 ·intro _ _
  exact BG (aC Ft l)
def ze (l : List AttT) : Int:=match forL c15F l () with | .inl _=>0 | .inr _=>150
theorem nI {l : List AttT} (hl : ad l) (h : List Blk) : (Ev Fp Γ0 130 [ab (l.map Ft)] h (int (ze l)) h):=by
 have hl0:=(@c15_cw (l) (hl))
 unfold zd at hl0
 revert hl0
 cases ho1 : forL c15F l () with
 | inl o1_0_0 =>
  intro hl0
  exact zD (int 0) [.sum [0,2,3] (Gf 0) { t:=mkT 16 0 [],h:=[],m:=[] }] (.c hl0 .n) h (by simp only [ze,ho1])
 | inr o1_1_0 =>
  intro hl0
  exact zD (int 150) [.sum [0,2,3] (Gw) { t:=mkT 16 0 [(2,int 150)],h:=[],m:=[] }] (.c hl0 .n) h (by simp only [ze,ho1])
theorem uO (l : List AttT) : ze l = bP l:=by
 have key : ∀ l : List AttT,forL c15F l () = bif l.any (fun a=>!attB a) then .inr () else .inl ():=by
  intro l
  induction l with
  | nil=>rfl
  | cons a l ih =>
   simp only [forL,c15F,List.any_cons]
   cases attB a
   ·rfl
   ·simpa using ih
 unfold ze bP
 rw [key]
 cases l.any fun a=>!attB a <;> rfl
abbrev BH (st : Int) (as_ : List (List Dp)) (i : Int) : AS:={ t:=mkT 52 0 [(1,.ref (.ptr 0 0)),(2,int 0),(3,int i)],h:=[.var [int st,ab as_]],m:=[] }
abbrev c16E : AS:={ t:=mkT 52 0 [],h:=[],m:=[] }
abbrev c16R : AS:={ t:=mkT 52 0 [(2,int 150)],h:=[],m:=[] }
abbrev c16X : Unit → Exit × AS:=fun _=>(.ret,c16R)
def ordW (b a : AttT) : Bool:=decide (b.term > a.term) || (b.term == a.term && decide (b.course ≥ a.course))
def Cv (p : Option AttT × AttT) (_ : Unit) : Unit ⊕ Unit:=bif attB p.2 then (match p.1 with | none=>.inl () | some b=>bif ordW b p.2 then .inr () else .inl ()) else .inr ()
noncomputable abbrev zf (st : Int) (as_ : List (List Dp)) (a : AttT) : List Blk:=[.var [int st,ab as_],.var [int a.course,int a.term,int a.grade,int a.campus,int a.credits]]
theorem c16_b0 {st : Int} {as_ : List (List Dp)} {a : AttT} {v : Bool} (hr : ah 0 as_ a.row 5) (hlt : decide ((0 : Int) < (as_.length : Int)) = true) (hb : (!v) = false) (hv : ∀ h,Ev Fp Γ0 80 [ag a.row] h (bool v) h) : (CW Fp Γ0 [] false (sub JF 0) (BH st as_ 0) .normal (BH st as_ 1)):=by
 exact zx [.st (.mask [1,2,3]),.st (.trim 1)] [.b true,.row (Ft a),.val (bool v),.b false,.b false] (.c hlt (.c hr (.c (@hv (zf st as_ a)) (.c hb (.c (show decide (0 > 0) = false from rfl) .n)))))
noncomputable abbrev zg (st : Int) (as_ : List (List Dp)) (a : AttT) : List Blk:=[.var [int st,ab as_],.var [int a.course,int a.term,int a.grade,int a.campus,int a.credits]]
theorem c16_bX {st : Int} {as_ : List (List Dp)} {a : AttT} {v : Bool} {i : Nat} (hr : ah (i : Int) as_ a.row 5) (hlt : decide ((i : Int) < (as_.length : Int)) = true) (hb : (!v) = true) (hv : ∀ h,Ev Fp Γ0 80 [ag a.row] h (bool v) h) : (CW Fp Γ0 [] false (sub JF 0) (BH st as_ i) .ret c16R):=by
 exact zx [.st (.mask [2]),.st (.trim 0)] [.b true,.row (Ft a),.val (bool v),.b true] (.c hlt (.c hr (.c (@hv (zg st as_ a)) (.c hb .n))))
noncomputable abbrev zh (st : Int) (as_ : List (List Dp)) (a : AttT) : List Blk:=[.var [int st,ab as_],.var [int a.course,int a.term,int a.grade,int a.campus,int a.credits]]
theorem c16_b1 {st : Int} {as_ : List (List Dp)} {a b : AttT} {v : Bool} {i : Nat} (hr : ah ((i + 1 : Nat) : Int) as_ a.row 5) (hr2 : ah (Fs.wrap (((i + 1 : Nat) : Int) - 1)) as_ b.row 5) (hlt : decide (((i + 1 : Nat) : Int) < (as_.length : Int)) = true) (hgt : decide (((i + 1 : Nat) : Int) > 0) = true) (hw : Fs.wrap (((i + 1 : Nat) : Int) + 1) = ((i + 1 + 1 : Nat) : Int)) (hb : (!v) = false) (ho : (decide (b.term > a.term) || (b.term == a.term && decide (b.course ≥ a.course))) = false) (hv : ∀ h,Ev Fp Γ0 80 [ag a.row] h (bool v) h) : (CW Fp Γ0 [] false (sub JF 0) (BH st as_ ((i + 1 : Nat) : Int)) .normal (BH st as_ ((i + 1 + 1 : Nat) : Int))):=by
 refine zX { t:=mkT 52 0 [(1,.ref (.ptr 0 0)),(2,int 0),(3,int (Fz Fs ((↑(i + 1) : Int) + 1)))],h:=[.var [int st,ab as_]],m:=[] } FH [.st (.mask [1,2,3]),.st (.trim 1)] [.b true,.row (Ft a),.val (bool v),.b false,.b true,.row (Ft b),.b false] (.c hlt (.c hr (.c (@hv (zh st as_ a)) (.c hb (.c hgt (.c hr2 (.c ho .n))))))) ?_ ?_ <;> (first | rfl | (rw [hw]))
noncomputable abbrev vX (st : Int) (as_ : List (List Dp)) (a : AttT) : List Blk:=[.var [int st,ab as_],.var [int a.course,int a.term,int a.grade,int a.campus,int a.credits]]
theorem c16_b1X {st : Int} {as_ : List (List Dp)} {a b : AttT} {v : Bool} {i : Nat} (hr : ah ((i + 1 : Nat) : Int) as_ a.row 5) (hr2 : ah (Fs.wrap (((i + 1 : Nat) : Int) - 1)) as_ b.row 5) (hlt : decide (((i + 1 : Nat) : Int) < (as_.length : Int)) = true) (hgt : decide (((i + 1 : Nat) : Int) > 0) = true) (hb : (!v) = false) (ho : (decide (b.term > a.term) || (b.term == a.term && decide (b.course ≥ a.course))) = true) (hv : ∀ h,Ev Fp Γ0 80 [ag a.row] h (bool v) h) : (CW Fp Γ0 [] false (sub JF 0) (BH st as_ ((i + 1 : Nat) : Int)) .ret c16R):=by
 exact zx [.st (.mask [2]),.st (.trim 0)] [.b true,.row (Ft a),.val (bool v),.b false,.b true,.row (Ft b),.b true] (.c hlt (.c hr (.c (@hv (vX st as_ a)) (.c hb (.c hgt (.c hr2 (.c ho .n)))))))
theorem BI {st : Int} {as_ : List (List Dp)} {i : Nat} (hlt : decide ((i : Int) < (as_.length : Int)) = false) : (CW Fp Γ0 [] false (sub JF 0) (BH st as_ i) (.exit 0) c16E):=by
 exact zx [.st (.mask []),.st (.trim 0)] [.b false] (.c hlt .n)
def zi (l : List AttT) : Exit × AS:=aV (.exit 0) (fun _ : Unit=>c16E) c16X (forL Cv (fy l) ())
theorem c16_cw {st : Int} {l : List AttT} (hl : ad l) :
  CW Fp Γ0 [] false (.loop (sub JF 0)) (BH st (l.map Ft) 0) (zi l).1 (zi l).2:=by
 have hlen : (fy l).length = l.length:=by simp [fy]
 refine Ha (fy l) Cv (fun i _=>BH st (l.map Ft) (i : Int)) (.exit 0) (fun _=>c16E) c16X (fun _ _=>True) (by simp) (fun _=>by simp []) ?_ ?_ () trivial
 ·intro i p u hp _
  obtain ⟨hi,he⟩:=Fy.1 hp
  rw [hlen] at hi
  have h2 : l[i]? = some p.2:=by subst he; simp [fy,FK hi]
  refine ⟨fun _ _=>trivial,?_⟩
  obtain ⟨o,a⟩:=p
  have hv:=zc a
  unfold Cv
  simp only
  cases hb : attB a
  ·rw [hb] at hv
   exact c16_bX (rowAt h2 rfl) (lt_len Ft hi) rfl hv
  ·rw [hb] at hv
   cases i with
   | zero =>
    have ho : o = none:=by have:=congrArg Prod.fst he; simpa [fy] using this.symm
    subst ho
    exact c16_b0 (rowAt h2 rfl) (lt_len Ft hi) rfl hv
   | succ i =>
    have h1 : l[i]? = some (l[i]'(by omega)):=FK _
    have ho : o = some (l[i]'(by omega)):=by have:=congrArg Prod.fst he; simpa [fy] using this.symm
    subst ho
    have hr2 : ah (Fs.wrap (((i + 1 : Nat) : Int) - 1)) (l.map Ft) (l[i]'(by omega)).row 5:=by
     have : Fs.wrap (((i + 1 : Nat) : Int) - 1) = (i : Int):=by
      have:=hl; unfold ad at this
      rw [wrap_i64 (by omega) (by omega)]; omega
     rw [this]
     exact rowAt h1 rfl
    simp only [cond_true]
    cases hq : ordW (l[i]'(by omega)) a
    ·exact c16_b1 (rowAt h2 rfl) hr2 (lt_len Ft hi) (decide_eq_true (by omega)) (wrap_succ hi hl) rfl hq hv
    ·exact c16_b1X (rowAt h2 rfl) hr2 (lt_len Ft hi) (decide_eq_true (by omega)) rfl hq hv
 ·intro u _
  rw [hlen]
  exact BI (aC Ft l)
def go (r : RecT) : Int:=bif !(decide (r.st ≥ 0) && decide (r.st ≤ 19999)) then 150 else match forL Cv (fy r.a) () with | .inl _=>0 | .inr _=>150
theorem vY {r : RecT} (hl : ad r.a) (h : List Blk) : (Ev Fp Γ0 31 [.agg r.l] h (int (go r)) h):=by
 cases hc0 : !(decide (r.st ≥ 0) && decide (r.st ≤ 19999))
 ·have hl1:=(@c16_cw (r.st) (r.a) (hl))
  unfold zi at hl1
  revert hl1
  cases ho2 : forL Cv (fy r.a) () with
  | inl o2_0_0 =>
   intro hl1
   exact zD (int 0) [.val (bool (decide (r.st ≥ 0) && decide (r.st ≤ 19999))),.b false,.sum [1,2,3] (Gf 0) { t:=mkT 52 0 [],h:=[],m:=[] }] (.c (@gA (r.st) 0 19999 ([.var [int r.st,ab (Fo Ft r.a)]])) (.c hc0 (.c hl1 .n))) h (by simp only [go,hc0,ho2,cond_false])
  | inr o2_1_0 =>
   intro hl1
   exact zD (int 150) [.val (bool (decide (r.st ≥ 0) && decide (r.st ≤ 19999))),.b false,.sum [1,2,3] (Gw) { t:=mkT 52 0 [(2,int 150)],h:=[],m:=[] }] (.c (@gA (r.st) 0 19999 ([.var [int r.st,ab (Fo Ft r.a)]])) (.c hc0 (.c hl1 .n))) h (by simp only [go,hc0,ho2,cond_false])
 ·exact zD (int 150) [.val (bool (decide (r.st ≥ 0) && decide (r.st ≤ 19999))),.b true] (.c (@gA (r.st) 0 19999 ([.var [int r.st,ab (Fo Ft r.a)]])) (.c hc0 .n)) h (by simp only [go,hc0,cond_true])
theorem ord_W (b a : AttT) : decide (wr b a ≥ 0) = ordW b a:=by
 have h : (ltOf wr) b a = false ↔ ¬ (b.term < a.term ∨ (b.term = a.term ∧ b.course < a.course)):=lL b a
 unfold ltOf at h
 rw [decide_eq_false_iff_not] at h
 rw [HB,decide_eq_true_eq]
 simp only [ordW,G4,FB,decide_eq_true_eq,beq_iff_eq]
 omega
theorem c16_rk (p : Option AttT × AttT) : Cv p () = rkF p ():=by
 obtain ⟨o,a⟩:=p
 have : Bn a = attB a:=rfl
 unfold Cv rkF mn
 simp only [this]
 cases attB a
 ·rfl
 ·cases o with
  | none=>rfl
  | some b =>
   simp only [ord_W,cond_true,Bool.not_true,Bool.false_or]
theorem wa (r : RecT) : go r = aL r:=by
 have e : Cv = rkF:=by
  funext p u
  exact c16_rk p
 unfold go aL
 rw [e]
 try rfl
def bet (a b : AttT) (kind k i : Int) : Bool:=match kind == 0 with
 | true=>match a.grade != b.grade with
  | true=>decide (a.grade > b.grade)
  | false=>match a.term != b.term with
   | true=>decide (a.term < b.term)
   | false=>decide (k < i)
 | false=>match a.term != b.term with
  | true=>decide (a.term > b.term)
  | false=>decide (k > i)
theorem rq {as_ : List (List Dp)} {a b : AttT} {kind k i : Int} (ha : ah k as_ a.row 5) (hb : ah i as_ b.row 5) (h : List Blk) : (Ev Fp Γ0 160 [ab as_,int kind,int k,int i] h (bool (bet a b kind k i)) h):=by
 cases hc0 : kind == 0
 ·cases hc1 : a.term != b.term
  ·exact zD (bool (decide (k > i))) [.row (Ft a),.row (Ft b),.b false,.b false] (.c ha (.c hb (.c hc0 (.c hc1 .n)))) h (by simp only [bet,hc0,hc1]; done)
  ·exact zD (bool (decide (a.term > b.term))) [.row (Ft a),.row (Ft b),.b false,.b true] (.c ha (.c hb (.c hc0 (.c hc1 .n)))) h (by simp only [bet,hc0,hc1]; done)
 ·cases hc1 : a.grade != b.grade
  ·cases hc2 : a.term != b.term
   ·exact zD (bool (decide (k < i))) [.row (Ft a),.row (Ft b),.b true,.b false,.b false] (.c ha (.c hb (.c hc0 (.c hc1 (.c hc2 .n))))) h (by simp only [bet,hc0,hc1,hc2]; done)
   ·exact zD (bool (decide (a.term < b.term))) [.row (Ft a),.row (Ft b),.b true,.b false,.b true] (.c ha (.c hb (.c hc0 (.c hc1 (.c hc2 .n))))) h (by simp only [bet,hc0,hc1,hc2]; done)
  ·exact zD (bool (decide (a.grade > b.grade))) [.row (Ft a),.row (Ft b),.b true,.b true] (.c ha (.c hb (.c hc0 (.c hc1 .n)))) h (by simp only [bet,hc0,hc1]; done)
abbrev kcS (as_ rp : List (List Dp)) (i k : Int) : AS:={ t:=mkT 123 0 [(0,ab as_),(1,ab rp),(4,aO),(5,int 0),(7,int i),(8,int k)],h:=[],m:=[] }
abbrev kiS (as_ rp : List (List Dp)) (i : Int) : AS:={ t:=mkT 123 0 [(0,ab as_),(1,ab rp),(4,aO),(5,int 0),(7,int i)],h:=[],m:=[] }
abbrev kiR : AS:={ t:=mkT 123 0 [(4,aO),(5,int 1)],h:=[],m:=[] }
def clash (a b : AttT) (x y : Int) : Bool:=a.course == b.course && x != y
theorem kc_body {as_ rp : List (List Dp)} {a b : AttT} {x y : Int} {i k : Nat} (ha : ah (i : Int) as_ a.row 5) (hb : ah (k : Int) as_ b.row 5) (hx : ah (i : Int) rp [vi x] 1) (hy : ah (k : Int) rp [vi y] 1) (hlt : decide ((k : Int) < (i : Int)) = true) (hw : Fs.wrap ((k : Int) + 1) = ((k + 1 : Nat) : Int)) (hc : (a.course == b.course && x != y) = false) : (CW Fp Γ0 [] false (sub Ht 1) (kcS as_ rp i k) .normal (kcS as_ rp i ((k + 1 : Nat) : Int))):=by
 cases hc0 : a.course == b.course
 ·refine zX { t:=mkT 123 0 [(0,ab as_),(1,ab rp),(4,nq),(5,int 0),(7,int (↑i : Int)),(8,int (Fz Fs ((↑k : Int) + 1)))],h:=[],m:=[] } FH [.st (.mask [0,1,4,5,7,8])] [.b true,.row (Ft a),.row (Ft b),.g false,.g false,.g false,.g false,.g false,.g false,.g false,.g false,.g false,.ov 67 (bool false),.b false] (.c hlt (.c ha (.c hb (.c (eqb hc0) (.c (eqb hc0) (.c (eqb hc0) (.c (eqb hc0) (.c (eqb hc0) (.c (eqb hc0) (.c (eqb hc0) (.c (eqb hc0) (.c (eqb hc0) (.c (pkf (Gj (Dp.v (Gk { toList:=[] }))) (bool false) hc0) (.er false .n)))))))))))))) ?_ ?_ <;> (first | rfl | (rw [hw]))
 ·cases hc1 : x != y
  ·refine zX { t:=mkT 123 0 [(0,ab as_),(1,ab rp),(4,nq),(5,int 0),(7,int (↑i : Int)),(8,int (Fz Fs ((↑k : Int) + 1)))],h:=[],m:=[] } FH [.st (.mask [0,1,4,5,7,8])] [.b true,.row (Ft a),.row (Ft b),.g true,.g true,.g true,.row [vi x],.g true,.g true,.g true,.g true,.row [vi y],.g true,.g true,.ov 67 (bool (x != y)),.b false] (.c hlt (.c ha (.c hb (.c (eqa hc0) (.c (eqa hc0) (.c (eqa hc0) (.c hx (.c (eqa hc0) (.c (eqa hc0) (.c (eqa hc0) (.c (eqa hc0) (.c hy (.c (eqa hc0) (.c (eqa hc0) (.c (pkt (bool (x != y)) (bool false) hc0) (.c hc1 .n)))))))))))))))) ?_ ?_ <;> (first | rfl | (rw [hw]))
  ·refine zX { t:=mkT 123 0 [(0,ab as_),(1,ab rp),(4,nq),(5,int 1),(7,int (↑i : Int)),(8,int (↑k : Int))],h:=[],m:=[] } Gw [.st (.mask [0,1,4,5,7,8])] [.b true,.row (Ft a),.row (Ft b),.g true,.g true,.g true,.row [vi x],.g true,.g true,.g true,.g true,.row [vi y],.g true,.g true,.ov 67 (bool (x != y)),.b true] (.c hlt (.c ha (.c hb (.c (eqa hc0) (.c (eqa hc0) (.c (eqa hc0) (.c hx (.c (eqa hc0) (.c (eqa hc0) (.c (eqa hc0) (.c (eqa hc0) (.c hy (.c (eqa hc0) (.c (eqa hc0) (.c (pkt (bool (x != y)) (bool false) hc0) (.c hc1 .n)))))))))))))))) ?_ ?_ <;> (simp_all; done)
theorem kc_last {as_ rp : List (List Dp)} {i : Nat} {k : Int} (hlt : decide (k < (i : Int)) = false) : (CW Fp Γ0 [] false (sub Ht 1) (kcS as_ rp i k) (.exit 2) (kiS as_ rp i)):=by
 exact zx [.st (.mask [0,1,4,5,7])] [.b false] (.c hlt .n)
theorem BJ {as_ rp : List (List Dp)} {a b : AttT} {x y : Int} {i k : Nat} (ha : ah (i : Int) as_ a.row 5) (hb : ah (k : Int) as_ b.row 5) (hx : ah (i : Int) rp [vi x] 1) (hy : ah (k : Int) rp [vi y] 1) (hlt : decide ((k : Int) < (i : Int)) = true) (hc1 : (a.course == b.course) = true) (hc2 : (x != y) = true) : (CW Fp Γ0 [] false (sub Ht 1) (kcS as_ rp i k) .ret kiR):=by
 refine zX { t:=mkT 123 0 [(4,nq),(5,int 1)],h:=[],m:=[] } Gw [.st (.mask [4,5])] [.b true,.row (Ft a),.row (Ft b),.g true,.g true,.g true,.row [vi x],.g true,.g true,.g true,.g true,.row [vi y],.g true,.g true,.ov 67 (bool (x != y)),.b true] (.c hlt (.c ha (.c hb (.c (eqa hc1) (.c (eqa hc1) (.c (eqa hc1) (.c hx (.c (eqa hc1) (.c (eqa hc1) (.c (eqa hc1) (.c (eqa hc1) (.c hy (.c (eqa hc1) (.c (eqa hc1) (.c (pkt (bool (x != y)) (bool false) hc1) (.c hc2 .n)))))))))))))))) ?_ ?_ <;> (rfl)
abbrev kcX : Unit → Exit × AS:=fun _=>(.ret,kiR)
def kcF (a : AttT) (x : Int) (p : AttT × Int) (_ : Unit) : Unit ⊕ Unit:=bif clash a p.1 x p.2 then .inr () else .inl ()
def kcR (l : List AttT) (rp : List Int) (i : Nat) (a : AttT) (x : Int) : Unit ⊕ Unit:=forL (kcF a x) ((l.zip rp).take i) ()
def kcFin (l : List AttT) (rp : List Int) (i : Nat) (a : AttT) (x : Int) : Exit × AS:=aV (.exit 2) (fun _ : Unit=>kiS (l.map Ft) (rp.map fun n=>[vi n]) (i : Int)) kcX (kcR l rp i a x)
theorem kc_cw {l : List AttT} {rp : List Int} (hl : ad l) (hlen : rp.length = l.length) {i : Nat} {a : AttT} {x : Int} (ha : l[i]? = some a) (hx : rp[i]? = some x) :
  CW Fp Γ0 [] false (.loop (sub Ht 1)) (kcS (l.map Ft) (rp.map fun n=>[vi n]) (i : Int) 0) (kcFin l rp i a x).1 (kcFin l rp i a x).2:=by
 have hi:=(Fy.1 ha).1
 have hlen2 : ((l.zip rp).take i).length = i:=by simp; omega
 refine Ha ((l.zip rp).take i) (kcF a x) (fun k _=>kcS (l.map Ft) (rp.map fun n=>[vi n]) (i : Int) (k : Int)) (.exit 2) (fun _=>kiS (l.map Ft) (rp.map fun n=>[vi n]) (i : Int)) kcX (fun _ _=>True) (by simp) (fun _=>by simp []) ?_ ?_ () trivial
 ·intro k p _ hk _
  obtain ⟨b,y⟩:=p
  have hki:=(Fy.1 hk).1
  rw [hlen2] at hki
  rw [List.getElem?_take_of_lt hki] at hk
  obtain ⟨hb,hy⟩:=Hk.1 hk
  simp only at hb hy
  refine ⟨fun _ _=>trivial,?_⟩
  unfold kcF
  cases hc : clash a b x y
  ·exact kc_body (rowAt ha rfl) (rowAt hb rfl) (rowAt (row:=fun n=>[vi n]) hx rfl) (rowAt (row:=fun n=>[vi n]) hy rfl) (decide_eq_true (by omega)) (wrap_succ (by omega) hl) hc
  ·have h2:=hc
   unfold clash at h2
   rw [FB] at h2
   exact BJ (rowAt ha rfl) (rowAt hb rfl) (rowAt (row:=fun n=>[vi n]) hx rfl) (rowAt (row:=fun n=>[vi n]) hy rfl) (decide_eq_true (by omega)) h2.1 h2.2
 ·intro _ _
  rw [hlen2]
  exact kc_last (decide_eq_false (by omega))
def koF (l : List AttT) (rp : List Int) (p : (AttT × Int) × Nat) (_ : Unit) : Unit ⊕ Unit:=bif (decide (p.1.2 < 0) || decide (p.1.2 > 2)) then .inr () else kcR l rp p.2 p.1.1 p.1.2
theorem ko_body {l : List AttT} {rp : List Int} (hl : ad l) (hlen : rp.length = l.length) {i : Nat} {a : AttT} {x : Int} (ha : l[i]? = some a) (hx : rp[i]? = some x) (hr : ah (i : Int) (l.map Ft) a.row 5) (hr2 : ah (i : Int) (rp.map fun n=>[vi n]) [vi x] 1) (hlt : decide ((i : Int) < ((l.map Ft).length : Int)) = true) (hw : Fs.wrap ((i : Int) + 1) = ((i + 1 : Nat) : Int)) : (CW Fp Γ0 [] false (sub Ht 0) (kiS (l.map Ft) (rp.map fun n=>[vi n]) (i : Int)) (ae (fun _ : Unit=>kiS (l.map Ft) (rp.map fun n=>[vi n]) ((i + 1 : Nat) : Int)) kcX (koF l rp ((a,x),i) ())).1 (ae (fun _ : Unit=>kiS (l.map Ft) (rp.map fun n=>[vi n]) ((i + 1 : Nat) : Int)) kcX (koF l rp ((a,x),i) ())).2):=by
 cases hc0 : decide (x < 0) || decide (x > 2)
 ·have hl1:=(@kc_cw (l) (rp) (hl) (hlen) (i) (a) (x) (ha) (hx))
  unfold kcFin at hl1
  revert hl1
  cases ho2 : kcR l rp i a x with
  | inl o2_0_0 =>
   intro hl1
   refine zX { t:=mkT 123 0 [(0,ab (Fo Ft l)),(1,ab (Fo (fun n=>[vi n]) rp)),(4,nq),(5,int 0),(7,int (Fz Fs ((↑i : Int) + 1)))],h:=[],m:=[] } FH [.st (.mask [0,1,4,5,7])] [.b true,.row [vi x],.row [vi x],.b false,.sum [0,1,4,5,7,8] (Gf 2) { t:=mkT 123 0 [(0,ab (Fo Ft l)),(1,ab (Fo (fun n=>[vi n]) rp)),(4,nq),(5,int 0),(7,int (↑i : Int))],h:=[],m:=[] }] (.c hlt (.c hr2 (.c (show (!decide (x < 0)) = true → ah (↑i : Int) (Fo (fun n=>[vi n]) rp) [vi x] 1 from (fun hg=>hr2)) (.c hc0 (.c hl1 .n))))) ?_ ?_ <;> (simp only [koF,hc0,ho2,cond_false]; first | rfl | (rw [hw]; rfl))
  | inr o2_1_0 =>
   intro hl1
   refine zX { t:=mkT 123 0 [(4,nq),(5,int 1)],h:=[],m:=[] } Gw [.st (.mask [4,5])] [.b true,.row [vi x],.row [vi x],.b false,.sum [0,1,4,5,7,8] (Gw) { t:=mkT 123 0 [(4,nq),(5,int 1)],h:=[],m:=[] }] (.c hlt (.c hr2 (.c (show (!decide (x < 0)) = true → ah (↑i : Int) (Fo (fun n=>[vi n]) rp) [vi x] 1 from (fun hg=>hr2)) (.c hc0 (.c hl1 .n))))) ?_ ?_ <;> (simp only [koF,hc0,ho2,cond_false]; rfl)
 ·refine zX { t:=mkT 123 0 [(4,nq),(5,int 1)],h:=[],m:=[] } Gw [.st (.mask [4,5])] [.b true,.row [vi x],.row [vi x],.b true] (.c hlt (.c hr2 (.c (show (!decide (x < 0)) = true → ah (↑i : Int) (Fo (fun n=>[vi n]) rp) [vi x] 1 from (fun hg=>hr2)) (.c hc0 .n)))) ?_ ?_ <;> (simp only [koF,hc0,cond_true]; rfl)
theorem ko_last {as_ rp : List (List Dp)} {i : Nat} (hlt : decide ((i : Int) < (as_.length : Int)) = false) : (CW Fp Γ0 [] false (sub Ht 0) (kiS as_ rp i) (.exit 0) { t:=mkT 123 0 [(0,ab as_),(1,ab rp),(4,aO),(5,int 0)],h:=[],m:=[] }):=by
 exact zx [.st (.mask [0,1,4,5])] [.b false] (.c hlt .n)
def koR (l : List AttT) (rp : List Int) : Unit ⊕ Unit:=forL (koF l rp) (l.zip rp).zipIdx ()
def koFin (l : List AttT) (rp : List Int) : Exit × AS:=aV (.exit 0) (fun _ : Unit=>{ t:=mkT 123 0 [(0,ab (l.map Ft)),(1,ab (rp.map fun n=>[vi n])),(4,aO),(5,int 0)],h:=[],m:=[] }) kcX (koR l rp)
theorem ko_cw {l : List AttT} {rp : List Int} (hl : ad l) (hlen : rp.length = l.length) :
  CW Fp Γ0 [] false (.loop (sub Ht 0)) (kiS (l.map Ft) (rp.map fun n=>[vi n]) 0) (koFin l rp).1 (koFin l rp).2:=by
 have hlen2 : (l.zip rp).zipIdx.length = l.length:=by simp; omega
 refine Ha (l.zip rp).zipIdx (koF l rp) (fun i _=>kiS (l.map Ft) (rp.map fun n=>[vi n]) (i : Int)) (.exit 0) (fun _=>{ t:=mkT 123 0 [(0,ab (l.map Ft)),(1,ab (rp.map fun n=>[vi n])),(4,aO),(5,int 0)],h:=[],m:=[] }) kcX (fun _ _=>True) (by simp) (fun _=>by simp []) ?_ ?_ () trivial
 ·intro i p _ hp _
  have hi:=(Fy.1 hp).1
  rw [hlen2] at hi
  rw [HZ] at hp
  obtain ⟨q,hq,rfl⟩:=FD.1 hp
  obtain ⟨a,x⟩:=q
  obtain ⟨ha,hx⟩:=Hk.1 hq
  simp only [Hy] at ha hx ⊢
  exact ⟨fun _ _=>trivial,ko_body hl hlen ha hx (rowAt ha rfl) (rowAt (row:=fun n=>[vi n]) hx rfl) (lt_len Ft hi) (wrap_succ hi hl)⟩
 ·intro _ _
  rw [hlen2]
  exact ko_last (aC Ft l)
abbrev kdS (as_ rp : List (List Dp)) (v : List (List D)) (i : Int) (c : Bool) (k : Int) : AS:={ t:=mkT 123 0 [(0,ab as_),(1,ab rp),(4,aO),(5,int 0),(9,.ref (.vec 0 0)),(10,int i),(11,bool c),(12,int k)],h:=[.vec v 0 5],m:=[] }
abbrev kdE (as_ rp : List (List Dp)) (v : List (List D)) (i : Int) (c : Bool) : AS:={ t:=mkT 123 0 [(0,ab as_),(1,ab rp),(4,aO),(5,int 0),(9,.ref (.vec 0 0)),(10,int i),(11,bool c)],h:=[.vec v 0 5],m:=[] }
def outBy (a b : AttT) (x : Int) (k i : Int) : Bool:=k != i && x != 2 && b.course == a.course && bet b a x k i
theorem kd_body {as_ rp : List (List Dp)} {v : List (List D)} {a b : AttT} {x : Int} {c : Bool} {i k : Nat} (ha : ah (i : Int) as_ a.row 5) (hb : ah (k : Int) as_ b.row 5) (hx : ah (i : Int) rp [vi x] 1) (hlt : decide ((k : Int) < (as_.length : Int)) = true) (hw : Fs.wrap ((k : Int) + 1) = ((k + 1 : Nat) : Int)) : (CW Fp Γ0 [] false (sub Ht 3) (kdS as_ rp v i c k) .normal (kdS as_ rp v i (bif outBy a b x k i then false else c) ((k + 1 : Nat) : Int))):=by
 cases hc0 : (↑k : Int) != (↑i : Int)
 ·let v0:=Gj (Dp.v (Gk { toList:=[] }))
  refine zX { t:=mkT 123 0 [(0,ab as_),(1,ab rp),(4,nq),(5,int 0),(9,.ref (.vec 0 0)),(10,int (↑i : Int)),(11,bool c),(12,int (Fz Fs ((↑k : Int) + 1)))],h:=[.vec v 0 5],m:=[] } FH [.st (.mask [0,1,4,5,9,10,11,12])] [.b true,.g false,.g false,.g false,.g false,.g false,.ov 90 (bool false),.g false,.g false,.g false,.g false,.g false,.g false,.g false,.g false,.g false,.g false,.g false,.ov 103 (bool false),.g false,.g false,.g false,.g false,.g false,.g false,.g false,.g false,.ov 113 (bool false),.b false] (.c hlt (.c (eqb hc0) (.c (eqb hc0) (.c (eqb hc0) (.c (eqb hc0) (.c (eqb hc0) (.c (pkf v0 (bool false) hc0) (.f (.f (.f (.f (.f (.f (.f (.f (.f (.f (.f (.c (pkf v0 (bool false) rfl) (.f (.f (.f (.f (.f (.f (.f (.f (.c (pkf v0 (bool false) rfl) (.er false .n))))))))))))))))))))))))))))) ?_ ?_ <;> (subst v0; simp only [outBy,hw,hc0,GC,cond_false]; done)
 ·cases hc1 : x != 2
  ·refine zX { t:=mkT 123 0 [(0,ab as_),(1,ab rp),(4,nq),(5,int 0),(9,.ref (.vec 0 0)),(10,int (↑i : Int)),(11,bool c),(12,int (Fz Fs ((↑k : Int) + 1)))],h:=[.vec v 0 5],m:=[] } FH [.st (.mask [0,1,4,5,9,10,11,12])] [.b true,.g true,.g true,.g true,.row [vi x],.g true,.g true,.ov 90 (bool (x != 2)),.g false,.g false,.g false,.g false,.g false,.g false,.g false,.g false,.g false,.g false,.g false,.ov 103 (bool false),.g false,.g false,.g false,.g false,.g false,.g false,.g false,.g false,.ov 113 (bool false),.b false] (.c hlt (.c (eqa hc0) (.c (eqa hc0) (.c (eqa hc0) (.c hx (.c (eqa hc0) (.c (eqa hc0) (.c (pkt (bool (x != 2)) (bool false) hc0) (.c (eqb hc1) (.c (eqb hc1) (.c (eqb hc1) (.c (eqb hc1) (.c (eqb hc1) (.c (eqb hc1) (.c (eqb hc1) (.c (eqb hc1) (.c (eqb hc1) (.c (eqb hc1) (.c (eqb hc1) (.c (pkf (Gj (Dp.v (Gk { toList:=[] }))) (bool false) hc1) (.f (.f (.f (.f (.f (.f (.f (.f (.c (pkf (Gj (Dp.v (Gk { toList:=[] }))) (bool false) rfl) (.er false .n)))))))))))))))))))))))))))))) ?_ ?_ <;> (simp only [outBy,hw,hc0,hc1,GD,GC,cond_false]; done)
  ·cases hc2 : b.course == a.course
   ·refine zX { t:=mkT 123 0 [(0,ab as_),(1,ab rp),(4,nq),(5,int 0),(9,.ref (.vec 0 0)),(10,int (↑i : Int)),(11,bool c),(12,int (Fz Fs ((↑k : Int) + 1)))],h:=[.vec v 0 5],m:=[] } FH [.st (.mask [0,1,4,5,9,10,11,12])] [.b true,.g true,.g true,.g true,.row [vi x],.g true,.g true,.ov 90 (bool (x != 2)),.g true,.g true,.g true,.row (Ft b),.g true,.g true,.g true,.g true,.g true,.row (Ft a),.g true,.g true,.g true,.ov 103 (bool (b.course == a.course)),.g false,.g false,.g false,.g false,.g false,.g false,.g false,.g false,.ov 113 (bool false),.b false] (.c hlt (.c (eqa hc0) (.c (eqa hc0) (.c (eqa hc0) (.c hx (.c (eqa hc0) (.c (eqa hc0) (.c (pkt (bool (x != 2)) (bool false) hc0) (.c (eqa hc1) (.c (eqa hc1) (.c (eqa hc1) (.c hb (.c (eqa hc1) (.c (eqa hc1) (.c (eqa hc1) (.c (eqa hc1) (.c (eqa hc1) (.c ha (.c (eqa hc1) (.c (eqa hc1) (.c (eqa hc1) (.c (pkt (bool (b.course == a.course)) (bool false) hc1) (.c (eqb hc2) (.c (eqb hc2) (.c (eqb hc2) (.c (eqb hc2) (.c (eqb hc2) (.c (eqb hc2) (.c (eqb hc2) (.c (eqb hc2) (.c (pkf (Gj (Dp.v (Gk { toList:=[] }))) (bool false) hc2) (.er false .n)))))))))))))))))))))))))))))))) ?_ ?_ <;> (simp only [outBy,hw,hc0,hc1,hc2,GD,GC,Hq,cond_false]; done)
   ·cases hc3 : bet b a x (↑k : Int) (↑i : Int)
    ·refine zX { t:=mkT 123 0 [(0,ab as_),(1,ab rp),(4,nq),(5,int 0),(9,.ref (.vec 0 0)),(10,int (↑i : Int)),(11,bool c),(12,int (Fz Fs ((↑k : Int) + 1)))],h:=[.vec v 0 5],m:=[] } FH [.st (.mask [0,1,4,5,9,10,11,12])] [.b true,.g true,.g true,.g true,.row [vi x],.g true,.g true,.ov 90 (bool (x != 2)),.g true,.g true,.g true,.row (Ft b),.g true,.g true,.g true,.g true,.g true,.row (Ft a),.g true,.g true,.g true,.ov 103 (bool (b.course == a.course)),.g true,.g true,.g true,.g true,.row [vi x],.g true,.g true,.g true,.g true,.val (bool (bet b a x (↑k : Int) (↑i : Int))),.ov 113 (bool (bet b a x (↑k : Int) (↑i : Int))),.b false] (.c hlt (.c (eqa hc0) (.c (eqa hc0) (.c (eqa hc0) (.c hx (.c (eqa hc0) (.c (eqa hc0) (.c (pkt (bool (x != 2)) (bool false) hc0) (.c (eqa hc1) (.c (eqa hc1) (.c (eqa hc1) (.c hb (.c (eqa hc1) (.c (eqa hc1) (.c (eqa hc1) (.c (eqa hc1) (.c (eqa hc1) (.c ha (.c (eqa hc1) (.c (eqa hc1) (.c (eqa hc1) (.c (pkt (bool (b.course == a.course)) (bool false) hc1) (.c (eqa hc2) (.c (eqa hc2) (.c (eqa hc2) (.c (eqa hc2) (.c hx (.c (eqa hc2) (.c (eqa hc2) (.c (eqa hc2) (.c (eqa hc2) (.c (@rq as_ b a x (↑k : Int) (↑i : Int) hb ha ([.vec v 0 5])) (.c (pkt (bool (bet b a x (↑k : Int) (↑i : Int))) (bool false) hc2) (.c hc3 .n)))))))))))))))))))))))))))))))))) ?_ ?_ <;> (simp only [outBy,hw,hc0,hc1,hc2,hc3,GD,Hq,cond_false]; done)
    ·refine zX { t:=mkT 123 0 [(0,ab as_),(1,ab rp),(4,nq),(5,int 0),(9,.ref (.vec 0 0)),(10,int (↑i : Int)),(11,bool false),(12,int (Fz Fs ((↑k : Int) + 1)))],h:=[.vec v 0 5],m:=[] } FH [.st (.mask [0,1,4,5,9,10,11,12])] [.b true,.g true,.g true,.g true,.row [vi x],.g true,.g true,.ov 90 (bool (x != 2)),.g true,.g true,.g true,.row (Ft b),.g true,.g true,.g true,.g true,.g true,.row (Ft a),.g true,.g true,.g true,.ov 103 (bool (b.course == a.course)),.g true,.g true,.g true,.g true,.row [vi x],.g true,.g true,.g true,.g true,.val (bool (bet b a x (↑k : Int) (↑i : Int))),.ov 113 (bool (bet b a x (↑k : Int) (↑i : Int))),.b true] (.c hlt (.c (eqa hc0) (.c (eqa hc0) (.c (eqa hc0) (.c hx (.c (eqa hc0) (.c (eqa hc0) (.c (pkt (bool (x != 2)) (bool false) hc0) (.c (eqa hc1) (.c (eqa hc1) (.c (eqa hc1) (.c hb (.c (eqa hc1) (.c (eqa hc1) (.c (eqa hc1) (.c (eqa hc1) (.c (eqa hc1) (.c ha (.c (eqa hc1) (.c (eqa hc1) (.c (eqa hc1) (.c (pkt (bool (b.course == a.course)) (bool false) hc1) (.c (eqa hc2) (.c (eqa hc2) (.c (eqa hc2) (.c (eqa hc2) (.c hx (.c (eqa hc2) (.c (eqa hc2) (.c (eqa hc2) (.c (eqa hc2) (.c (@rq as_ b a x (↑k : Int) (↑i : Int) hb ha ([.vec v 0 5])) (.c (pkt (bool (bet b a x (↑k : Int) (↑i : Int))) (bool false) hc2) (.c hc3 .n)))))))))))))))))))))))))))))))))) ?_ ?_ <;> (simp only [outBy,hw,hc0,hc1,hc2,hc3,Hq,cond_true]; done)
theorem kd_last {as_ rp : List (List Dp)} {v : List (List D)} {c : Bool} {i k : Nat} (hlt : decide ((k : Int) < (as_.length : Int)) = false) : (CW Fp Γ0 [] false (sub Ht 3) (kdS as_ rp v i c k) (.exit 6) (kdE as_ rp v i c)):=by
 exact zx [.st (.mask [0,1,4,5,9,10,11])] [.b false] (.c hlt .n)
def kdG (a : AttT) (x : Int) (i : Nat) (c : Bool) (p : AttT × Nat) : Bool:=bif outBy a p.1 x (p.2 : Int) (i : Int) then false else c
def stays (l : List AttT) (a : AttT) (x : Int) (i : Nat) : Bool:=l.zipIdx.foldl (kdG a x i) true
theorem kd_cw {l : List AttT} {rp : List Int} (hl : ad l) {v : List (List D)} {i : Nat} {a : AttT} {x : Int} (ha : l[i]? = some a) (hx : rp[i]? = some x) :
  CW Fp Γ0 [] false (.loop (sub Ht 3)) (kdS (l.map Ft) (rp.map fun n=>[vi n]) v (i : Int) true 0) (.exit 6) (kdE (l.map Ft) (rp.map fun n=>[vi n]) v (i : Int) (stays l a x i)):=by
 have hlen2 : l.zipIdx.length = l.length:=by simp
 have key:=Ha (P:=Fp) (Γ:=Γ0) (h0:=[]) (rd:=false) (c:=sub Ht 3) (σ:=Bool) (ρ:=Empty) l.zipIdx (fun p c=>.inl (kdG a x i c p))
  (fun k c=>kdS (l.map Ft) (rp.map fun n=>[vi n]) v (i : Int) c (k : Int)) (.exit 6) (fun c=>kdE (l.map Ft) (rp.map fun n=>[vi n]) v (i : Int) c) (fun r=>r.elim) (fun _ _=>True) (by simp) (fun r=>r.elim) ?_ ?_ true trivial
 ·rw [aK] at key
  exact key
 ·intro k p c hp _
  have hk:=(Fy.1 hp).1
  rw [hlen2] at hk
  rw [HZ] at hp
  obtain ⟨b,hb,rfl⟩:=FD.1 hp
  refine ⟨fun _ _=>trivial,?_⟩
  have:=kd_body (v:=v) (c:=c) (rowAt ha rfl) (rowAt hb rfl) (rowAt (row:=fun n=>[vi n]) hx rfl) (lt_len Ft hk) (wrap_succ hk hl)
  simp only [kdG,Hy]
  exact this
 ·intro c _
  rw [hlen2]
  exact kd_last (aC Ft l)
abbrev keS (as_ rp : List (List Dp)) (out : List AttT) (i : Int) : AS:={ t:=mkT 123 0 [(0,ab as_),(1,ab rp),(4,aO),(5,int 0),(9,.ref (.vec 0 0)),(10,int i)],h:=[.vec (ai (out.map Ft)) 0 5],m:=[] }
def keF (l : List AttT) (p : (AttT × Int) × Nat) (out : List AttT) : List AttT:=bif stays l p.1.1 p.1.2 p.2 then out ++ [p.1.1] else out
theorem ke_body {l : List AttT} {rp : List Int} (hl : ad l) {out : List AttT} {i : Nat} {a : AttT} {x : Int} (ha : l[i]? = some a) (hx : rp[i]? = some x) (hr : ah (i : Int) (l.map Ft) a.row 5) (hlt : decide ((i : Int) < ((l.map Ft).length : Int)) = true) (hw : Fs.wrap ((i : Int) + 1) = ((i + 1 : Nat) : Int)) (ho : out.length ≤ 1000000000) : (CW Fp Γ0 [] false (sub Ht 2) (keS (l.map Ft) (rp.map fun n=>[vi n]) out i) .normal (keS (l.map Ft) (rp.map fun n=>[vi n]) (keF l ((a,x),i) out) ((i + 1 : Nat) : Int))):=by
 have hl0:=(@kd_cw (l) (rp) (hl) (ai (Fo Ft out)) (i) (a) (x) (ha) (hx))
 cases hc1 : stays l a x i
 ·refine zX { t:=mkT 123 0 [(0,ab (Fo Ft l)),(1,ab (Fo (fun n=>[vi n]) rp)),(4,nq),(5,int 0),(9,.ref (.vec 0 0)),(10,int (Fz Fs ((↑i : Int) + 1)))],h:=[.vec (ai (Fo Ft out)) 0 5],m:=[] } FH [.st (.mask [0,1,4,5,9,10]),.st (.ren 0 0),.st (.trimV 1)] [.b true,.sum [0,1,4,5,9,10,11,12] (Gf 6) { t:=mkT 123 0 [(0,ab (Fo Ft l)),(1,ab (Fo (fun n=>[vi n]) rp)),(4,nq),(5,int 0),(9,.ref (.vec 0 0)),(10,int (↑i : Int)),(11,bool (stays l a x i))],h:=[.vec (ai (Fo Ft out)) 0 5],m:=[] },.b false] (.c hlt (.c hl0 (.c hc1 (.c (vM (Fo Ft out) 0 0 0) (.c (iV 1 (Fo Ft out) 0 5) .n))))) ?_ ?_ <;> (have hh : stays l a x i = false:=hc1; simp only [keF,hh,cond_false,hw]; first | done | rfl)
 ·let v0 : List D:=[int a.course,int a.term,int a.grade,int a.campus,int a.credits]
  refine zX { t:=mkT 123 0 [(0,ab (Fo Ft l)),(1,ab (Fo (fun n=>[vi n]) rp)),(4,nq),(5,int 0),(9,.ref (.vec 0 0)),(10,int (Fz Fs ((↑i : Int) + 1)))],h:=[.vec (ai (Fo Ft out) ++ [v0]) 0 5],m:=[] } FH [.st (.mask [0,1,4,5,9,10]),.st (.ren 0 0),.st (.trimV 1)] [.b true,.sum [0,1,4,5,9,10,11,12] (Gf 6) { t:=mkT 123 0 [(0,ab (Fo Ft l)),(1,ab (Fo (fun n=>[vi n]) rp)),(4,nq),(5,int 0),(9,.ref (.vec 0 0)),(10,int (↑i : Int)),(11,bool (stays l a x i))],h:=[.vec (ai (Fo Ft out)) 0 5],m:=[] },.b true,.row (Ft a)] (.c hlt (.c hl0 (.c hc1 (.c hr (.c (show (FN [v0] (aG 5) && roomOk (Fu (ai (Fo Ft out)) + Fu [v0]) 40) = true from ?_) (.c (vMa (Fo Ft out) [v0] 0 1 0) (.er [v0] (.c (iVa 1 (Fo Ft out) [v0] 0 5) .n)))))))) (by subst v0; (have hh : stays l a x i = true:=hc1; simp only []; first | done | rfl)) (by subst v0; (have hh : stays l a x i = true:=hc1; simp only [keF,hh,cond_true,hw,sY]; first | done | rfl)) <;> subst v0 <;> (simp [aG,D.one,Value.oneCell',roomOk]; omega)
theorem ke_last {as_ rp : List (List Dp)} {out : List AttT} {i : Nat} (hlt : decide ((i : Int) < (as_.length : Int)) = false) : (CW Fp Γ0 [] false (sub Ht 2) (keS as_ rp out i) (.exit 4) { t:=mkT 123 0 [(4,aO),(5,int 0),(9,.ref (.vec 0 0))],h:=[.vec (ai (out.map Ft)) 0 5],m:=[] }):=by
 exact zx [.st (.mask [4,5,9])] [.b false] (.c hlt .n)
def BK (l : List AttT) (rp : List Int) : List AttT:=(l.zip rp).zipIdx.foldl (fun out p=>keF l p out) []
theorem ke_cw {l : List AttT} {rp : List Int} (hl : l.length ≤ 900000000) (hlen : rp.length = l.length) :
  CW Fp Γ0 [] false (.loop (sub Ht 2)) (keS (l.map Ft) (rp.map fun n=>[vi n]) [] 0) (.exit 4) { t:=mkT 123 0 [(4,aO),(5,int 0),(9,.ref (.vec 0 0))],h:=[.vec (ai ((BK l rp).map Ft)) 0 5],m:=[] }:=by
 have hs : ad l:=by unfold ad; omega
 have hlen2 : (l.zip rp).zipIdx.length = l.length:=by simp; omega
 have key:=Ha (P:=Fp) (Γ:=Γ0) (h0:=[]) (rd:=false) (c:=sub Ht 2) (σ:=List AttT) (ρ:=Empty) (l.zip rp).zipIdx (fun p out=>.inl (keF l p out))
  (fun i out=>keS (l.map Ft) (rp.map fun n=>[vi n]) out (i : Int)) (.exit 4) (fun out=>{ t:=mkT 123 0 [(4,aO),(5,int 0),(9,.ref (.vec 0 0))],h:=[.vec (ai (out.map Ft)) 0 5],m:=[] }) (fun r=>r.elim) (fun i out=>out.length ≤ i) (by simp) (fun r=>r.elim) ?_ ?_ [] (by simp)
 ·rw [aK] at key
  exact key
 ·intro i p out hp hout
  have hi:=(Fy.1 hp).1
  rw [hlen2] at hi
  rw [HZ] at hp
  obtain ⟨q,hq,rfl⟩:=FD.1 hp
  obtain ⟨a,x⟩:=q
  obtain ⟨ha,hx⟩:=Hk.1 hq
  simp only at ha hx
  refine ⟨fun s' h=>?_,?_⟩
  ·cases h
   unfold keF
   cases stays l a x (0 + i) <;> simp <;> omega
  ·have:=ke_body hs ha hx (rowAt ha rfl) (lt_len Ft hi) (wrap_succ hi hs) (out:=out) (by omega)
   simp only [Hy]
   exact this
 ·intro out _
  rw [hlen2]
  exact ke_last (aC Ft l)
def jW (l : List AttT) (rp : List Int) : List AttT × Int:=match bP l != 0 with
 | true=>([],bP l)
 | false=>match ((rp.map fun n=>[vi n]).length : Int) != ((l.map Ft).length : Int) with
  | true=>([],1)
  | false=>match koR l rp with
   | .inr _=>([],1)
   | .inl _=>(BK l rp,0)
theorem cnt15_a {l : List AttT} {rp : List Int} (hl : l.length ≤ 900000000) (hs : ad l) (hlen : rp.length = l.length) (hck : ∀ h,Ev Fp Γ0 130 [ab (l.map Ft)] h (int (bP l)) h) (h : List Blk) : (Ev Fp Γ0 112 [ab (l.map Ft),ab (rp.map fun n=>[vi n])] h (.tup [ab ((jW l rp).1.map Ft),int (jW l rp).2]) h):=by
 cases hc0 : bP l != 0
 ·cases hc1 : (↑(Fu (Fo (fun n=>[vi n]) rp)) : Int) != (↑(Fu (Fo Ft l)) : Int)
  ·have hl2:=(@ko_cw (l) (rp) (hs) (hlen))
   unfold koFin at hl2
   revert hl2
   cases ho3 : koR l rp with
   | inl o3_0_0 =>
    intro hl2
    have hl4:=(@ke_cw (l) (rp) (hl) (hlen))
    let v0:=Fo Ft (BK l rp)
    exact FP (GK (z0 (d:=FM [ab v0,int 0]) [.val (int (bP l)),.b false,.b false,.sum [0,1,4,5,7] (Gf 0) { t:=mkT 123 0 [(0,ab (Fo Ft l)),(1,ab (Fo (fun n=>[vi n]) rp)),(4,nq),(5,int 0)],h:=[],m:=[] },.nx 2,.st (.ren 0 0),.sum [0,1,4,5,9,10] (Gf 4) { t:=mkT 123 0 [(4,nq),(5,int 0),(9,.ref (.vec 0 0))],h:=[.vec (ai v0) 0 5],m:=[] },.st (.frz 0 v0)] (.c (@hck ([])) (.c hc0 (.c hc1 (.c hl2 (.c (show ([] : List (List D)) = [] from rfl) (.c hl4 (.c (show ai v0 = Fo (fun x=>Fo Gj x) v0 from (by subst v0; rfl)) .n))))))) h)) (by subst v0; simp only [jW,hc0,hc1,ho3]; rfl) (by rfl)
   | inr o3_1_0 =>
    intro hl2
    exact FP (GK (z0 (d:=FM [nq,int 1]) [.val (int (bP l)),.b false,.b false,.sum [0,1,4,5,7] (Gw) { t:=mkT 123 0 [(4,nq),(5,int 1)],h:=[],m:=[] }] (.c (@hck ([])) (.c hc0 (.c hc1 (.c hl2 .n)))) h)) (by simp only [jW,hc0,hc1,ho3]; rfl) (by rfl)
  ·exact FP (GK (z0 (d:=FM [nq,int 1]) [.val (int (bP l)),.b false,.b true] (.c (@hck ([])) (.c hc0 (.c hc1 .n))) h)) (by simp only [jW,hc0,hc1]; rfl) (by rfl)
 ·exact FP (GK (z0 (d:=FM [nq,int (bP l)]) [.val (int (bP l)),.b true] (.c (@hck ([])) (.c hc0 .n)) h)) (by simp only [jW,hc0]; rfl) (by rfl)
end Go.Vi
