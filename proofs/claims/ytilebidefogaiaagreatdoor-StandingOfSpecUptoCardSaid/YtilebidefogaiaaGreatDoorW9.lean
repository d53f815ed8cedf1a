/- StandingOfSpecUpto: part of the proof: contracts of the functions that the law reaches, and the law. No conditions beyond the given statement's own. -/
import Derived.Test.YtilebidefogaiaaGreatDoorW8
open Go.Vi.CourseT renaming row → FE
open Go.Vi.SysT renaming row → FF
open Go.Vi.FactT renaming row → FC
open List renaming map → Fo, length → Fu, all → FN, getElem?_eq_some_iff → Fy, length_nil → Hf, length_map → GB, getElem?_eq_getElem → FK, length_take → Jy, take_add_one → I2, foldl → Gx, foldl_cons → GP, length_cons → GF
open Go.IntKind renaming i64 → Fs, wrap → Fz, u64 → G3
open Go.Proofs.Tryz renaming prog → Fp, f68 → Ka, f57 → Lh, f26 → Iy, f131 → Kw, f72 → Li
open Go.Vi.D renaming mapRL → GA, p → Gj, tup → FM, agg → FU, nilWL → IU
open Go.Vi.Dp renaming v → GT
open Go.Value renaming tuple → Gk, oneCell' → HU, slice → Ge
open Go.Exit renaming normal → FH, exit → Gf
open Go.Vi.Blk renaming inn → FL
open Go.Vi.WorldT renaming l → Gm
open Bool renaming false_and → GC, and_false → GD, true_and → G1, and_eq_true → FB, or_eq_true → G4, or_eq_false_iff → GZ
open Go.Vi.CW renaming each → Ha
open Go.Vi.Ev renaming castH → FP, nilW → GK, glob0 → F1
open Go.Vi.AttT renaming row → Ft
open Go.Vi.RuleT renaming fl → Fv
open Option renaming toList_some → Jw
open Int renaming tmod → IZ, tdiv → Hj, natAbs → FJ
open Go.Vi.PtT renaming row → G5
open Nat renaming gcd → Gr
open Go.Vi renaming Sys → HE
open Go.Vi.Cls renaming row → Gh
open Decidable renaming not_not → KJ
open Go Go.Proofs
namespace Go.Vi
set_option maxRecDepth 100000
set_option maxHeartbeats 4000000
abbrev n8H (w : WorldT) (l : List Int) : List Blk:=[.var w.l,.var [int 12,int 0,int 0],.vec (nuV l) 0 1]
abbrev n8S (w : WorldT) (many : Int) (l : List Int) (i : Int) : AS:={ t:=mkT 71 0 [(2,.ref (.ptr 0 0)),(6,.ref (.ptr 1 0)),(7,int many),(9,.ref (.vec 2 0)),(10,int i)],h:=n8H w l,m:=[] }
abbrev n8E (w : WorldT) (l : List Int) : AS:={ t:=mkT 71 0 [(6,.ref (.ptr 1 0)),(9,.ref (.vec 2 0))],h:=n8H w l,m:=[] }
def n8F (many : Int) (f : FactT) (l : List Int) : List Int ⊕ List Int:=bif decide ((l.length : Int) < many) then .inl (bif isNew f l then l ++ [f.sub] else l) else .inr l
theorem CB (many : Int) : n8F many = nuF many:=by
 funext f l
 unfold n8F nuF
 by_cases h : (l.length : Int) < many
 ·rw [if_neg (by simp; omega)]; simp [h]
 ·rw [if_pos (by simp; omega)]; simp [h]
abbrev n8K (w : WorldT) (l : List Int) (f : FactT) : List Blk:=[.var [ab (w.c.map FE),ab w.p,ab (w.s.map FF),ab (w.f.map FC)],.var [int 12,int 0,int 0],.vec (nuV l) 0 1,.var [int f.kind,int f.sub,int f.obj]]
theorem zU : ∀ l : List Int,fa (nuV l) = some (bA l)
 | []=>rfl
 | x :: l=>by
  have:=zU l
  simp only [nuV,List.map_cons] at this ⊢
  unfold fa
  rw [this]; rfl
theorem CC {w : WorldT} {l : List Int} {f : FactT} : wp (n8K w l f) [D.ref (.vec 2 0),int f.sub] = [ab (bA l),int f.sub]:=by
 have e : frzV (.ref (.vec 2 0)) 0 (some (.vec (nuV l) 0 1)) = ab (bA l):=by
  unfold frzV; simp only [zU]
 show [frzV (.ref (.vec 2 0)) 0 (some (.vec (nuV l) 0 1)),int f.sub] = _
 rw [e]
noncomputable abbrev jD (w : WorldT) (l : List Int) (f : FactT) : List Blk:=[.var [ab (Fo FE w.c),ab w.p,ab (Fo FF w.s),ab (Fo FC w.f)],.var [int 12,int 0,int 0],.vec (nuV l) 0 1,.var [int f.kind,int f.sub,int f.obj]]
theorem n8_body {w : WorldT} {many : Int} {l : List Int} {i : Nat} {f : FactT} {c : Bool} (hr : ah (i : Int) (w.f.map FC) f.row 8) (hlt : decide ((i : Int) < ((w.f.map FC).length : Int)) = true) (hm : decide (((nuV l).length : Int) < many) = true) (hw : Fs.wrap ((i : Int) + 1) = ((i + 1 : Nat) : Int)) (hl : l.length ≤ 70000)
 (hc : Ev Fp Γ0 126 [.ref (.vec 2 0),int f.sub] (n8K w l f) (bool c) (n8K w l f))
 (hp : ∀ f,(nuV l).map (GA f) = nuV l) (hi : ∀ k,(nuV l).all (D.innL k) = true) : (CW Fp Γ0 [] false (sub Ka 0) (n8S w many l i) .normal (n8S w many (bif (f.kind == 1 && (f.obj == 0 && (decide (f.sub ≥ 0) && decide (f.sub ≤ 4095) && !c))) then l ++ [f.sub] else l) ((i + 1 : Nat) : Int))):=by
 cases hc0 : f.kind == 1
 ·let v0:=Fu (Fo FC w.f)
  let v1:=Gj (GT (Gk { toList:=[] }))
  refine zX { t:=mkT 71 0 [(2,.ref (.ptr 0 0)),(6,.ref (.ptr 1 0)),(7,int many),(9,.ref (.vec 2 0)),(10,int (Fz Fs ((↑i : Int) + 1)))],h:=[.var [ab (Fo FE w.c),ab w.p,ab (Fo FF w.s),ab (Fo FC w.f)],.var [int 12,int 0,int 0],.vec (nuV l) 0 1],m:=[] } FH [.st (.mask [2,6,7,9,10]),.st (.ren 2 0),.st (.trimV 3)] [.g true,.g true,.g true,.g true,.ov 32 (bool (decide ((↑(Fu (nuV l)) : Int) < many))),.b true,.row [vi f.kind,vi f.sub,vi f.obj,vi f.value,vi f.frm,vi f.til,vi f.known,vi f.no],.g false,.g false,.g false,.ov 48 (bool false),.g false,.g false,.g false,.ov 53 (bool false),.g false,.g false,.g false,.g false,.g false,.ov 60 (bool false),.b false] (.c (show (decide ((↑i : Int) < (↑v0 : Int)) == true) = true from (by subst v0 v1; rw [hlt]; rfl)) (.c (show (decide ((↑i : Int) < (↑v0 : Int)) == true) = true from (by subst v0 v1; rw [hlt]; rfl)) (.c (show (decide ((↑i : Int) < (↑v0 : Int)) == true) = true from (by subst v0 v1; rw [hlt]; rfl)) (.c (show (decide ((↑i : Int) < (↑v0 : Int)) == true) = true from (by subst v0 v1; rw [hlt]; rfl)) (.c (pkt (bool (decide ((↑(Fu (nuV l)) : Int) < many))) (bool false) hlt) (.c hm (.c hr (.c (eqb hc0) (.c (eqb hc0) (.c (eqb hc0) (.c (pkf v1 (bool false) hc0) (.f (.f (.f (.c (pkf v1 (bool false) rfl) (.f (.f (.f (.f (.f (.c (pkf v1 (bool false) rfl) (.er false (.c (nM l 2 0 0) (.c (show FL 3 (match 0 == 2 with | true=>.vec (nuV l) 0 1 | false=>keepX (aM 2 0 0) (.var (Gm w))) = true from rfl) (.c (show FL 3 (match 0 + 1 == 2 with | true=>.vec (nuV l) 0 1 | false=>keepX (aM 2 0 0) (.var [int 12,int 0,int 0])) = true from rfl) (.c (iN 3 l 0 1) .n)))))))))))))))))))))))))) (by subst v0 v1; rfl) (by subst v0 v1; (simp only [hw,GC,cond_false]; first | done | rfl))
 ·cases hc1 : f.obj == 0
  ·let v0:=Fu (Fo FC w.f)
   refine zX { t:=mkT 71 0 [(2,.ref (.ptr 0 0)),(6,.ref (.ptr 1 0)),(7,int many),(9,.ref (.vec 2 0)),(10,int (Fz Fs ((↑i : Int) + 1)))],h:=[.var [ab (Fo FE w.c),ab w.p,ab (Fo FF w.s),ab (Fo FC w.f)],.var [int 12,int 0,int 0],.vec (nuV l) 0 1],m:=[] } FH [.st (.mask [2,6,7,9,10]),.st (.ren 2 0),.st (.trimV 3)] [.g true,.g true,.g true,.g true,.ov 32 (bool (decide ((↑(Fu (nuV l)) : Int) < many))),.b true,.row [vi f.kind,vi f.sub,vi f.obj,vi f.value,vi f.frm,vi f.til,vi f.known,vi f.no],.g true,.g true,.g true,.ov 48 (bool (f.obj == 0)),.g false,.g false,.g false,.ov 53 (bool false),.g false,.g false,.g false,.g false,.g false,.ov 60 (bool false),.b false] (.c (show (decide ((↑i : Int) < (↑v0 : Int)) == true) = true from (by subst v0; rw [hlt]; rfl)) (.c (show (decide ((↑i : Int) < (↑v0 : Int)) == true) = true from (by subst v0; rw [hlt]; rfl)) (.c (show (decide ((↑i : Int) < (↑v0 : Int)) == true) = true from (by subst v0; rw [hlt]; rfl)) (.c (show (decide ((↑i : Int) < (↑v0 : Int)) == true) = true from (by subst v0; rw [hlt]; rfl)) (.c (pkt (bool (decide ((↑(Fu (nuV l)) : Int) < many))) (bool false) hlt) (.c hm (.c hr (.c (eqa hc0) (.c (eqa hc0) (.c (eqa hc0) (.c (pkt (bool (f.obj == 0)) (bool false) hc0) (.c (eqb hc1) (.c (eqb hc1) (.c (eqb hc1) (.c (pkf (Gj (GT (Gk { toList:=[] }))) (bool false) hc1) (.f (.f (.f (.f (.f (.c (pkf (Gj (GT (Gk { toList:=[] }))) (bool false) rfl) (.er false (.c (nM l 2 0 0) (.c (show FL 3 (match 0 == 2 with | true=>.vec (nuV l) 0 1 | false=>keepX (aM 2 0 0) (.var (Gm w))) = true from rfl) (.c (show FL 3 (match 0 + 1 == 2 with | true=>.vec (nuV l) 0 1 | false=>keepX (aM 2 0 0) (.var [int 12,int 0,int 0])) = true from rfl) (.c (iN 3 l 0 1) .n)))))))))))))))))))))))))) (by subst v0; rfl) (by subst v0; (simp only [hw,GD,GC,cond_false]; first | done | rfl))
  ·cases hc2 : decide (f.sub ≥ 0) && decide (f.sub ≤ 4095)
   ·let v0:=Fu (Fo FC w.f)
    refine zX { t:=mkT 71 0 [(2,.ref (.ptr 0 0)),(6,.ref (.ptr 1 0)),(7,int many),(9,.ref (.vec 2 0)),(10,int (Fz Fs ((↑i : Int) + 1)))],h:=[.var [ab (Fo FE w.c),ab w.p,ab (Fo FF w.s),ab (Fo FC w.f)],.var [int 12,int 0,int 0],.vec (nuV l) 0 1],m:=[] } FH [.st (.mask [2,6,7,9,10]),.st (.ren 2 0),.st (.trimV 3)] [.g true,.g true,.g true,.g true,.ov 32 (bool (decide ((↑(Fu (nuV l)) : Int) < many))),.b true,.row [vi f.kind,vi f.sub,vi f.obj,vi f.value,vi f.frm,vi f.til,vi f.known,vi f.no],.g true,.g true,.g true,.ov 48 (bool (f.obj == 0)),.g true,.g true,.g true,.val (bool (decide (f.sub ≥ 0) && decide (f.sub ≤ 4095))),.ov 53 (bool (decide (f.sub ≥ 0) && decide (f.sub ≤ 4095))),.g false,.g false,.g false,.g false,.g false,.ov 60 (bool false),.b false] (.c (show (decide ((↑i : Int) < (↑v0 : Int)) == true) = true from (by subst v0; rw [hlt]; rfl)) (.c (show (decide ((↑i : Int) < (↑v0 : Int)) == true) = true from (by subst v0; rw [hlt]; rfl)) (.c (show (decide ((↑i : Int) < (↑v0 : Int)) == true) = true from (by subst v0; rw [hlt]; rfl)) (.c (show (decide ((↑i : Int) < (↑v0 : Int)) == true) = true from (by subst v0; rw [hlt]; rfl)) (.c (pkt (bool (decide ((↑(Fu (nuV l)) : Int) < many))) (bool false) hlt) (.c hm (.c hr (.c (eqa hc0) (.c (eqa hc0) (.c (eqa hc0) (.c (pkt (bool (f.obj == 0)) (bool false) hc0) (.c (eqa hc1) (.c (eqa hc1) (.c (eqa hc1) (.c (@aJ (f.sub) 0 4095 (jD w l f)) (.c (pkt (bool (decide (f.sub ≥ 0) && decide (f.sub ≤ 4095))) (bool false) hc1) (.c (eqb hc2) (.c (eqb hc2) (.c (eqb hc2) (.c (eqb hc2) (.c (eqb hc2) (.c (pkf (Gj (GT (Gk { toList:=[] }))) (bool false) hc2) (.er false (.c (nM l 2 0 0) (.c (show FL 3 (match 0 == 2 with | true=>.vec (nuV l) 0 1 | false=>keepX (aM 2 0 0) (.var (Gm w))) = true from rfl) (.c (show FL 3 (match 0 + 1 == 2 with | true=>.vec (nuV l) 0 1 | false=>keepX (aM 2 0 0) (.var [int 12,int 0,int 0])) = true from rfl) (.c (iN 3 l 0 1) .n))))))))))))))))))))))))))) (by subst v0; rfl) (by subst v0; (simp only [hw,GD,GC,cond_false]; first | done | rfl))
   ·cases hc3 : !c
    ·let v0:=Fu (Fo FC w.f)
     refine zX { t:=mkT 71 0 [(2,.ref (.ptr 0 0)),(6,.ref (.ptr 1 0)),(7,int many),(9,.ref (.vec 2 0)),(10,int (Fz Fs ((↑i : Int) + 1)))],h:=[.var [ab (Fo FE w.c),ab w.p,ab (Fo FF w.s),ab (Fo FC w.f)],.var [int 12,int 0,int 0],.vec (nuV l) 0 1],m:=[] } FH [.st (.mask [2,6,7,9,10]),.st (.ren 2 0),.st (.trimV 3)] [.g true,.g true,.g true,.g true,.ov 32 (bool (decide ((↑(Fu (nuV l)) : Int) < many))),.b true,.row [vi f.kind,vi f.sub,vi f.obj,vi f.value,vi f.frm,vi f.til,vi f.known,vi f.no],.g true,.g true,.g true,.ov 48 (bool (f.obj == 0)),.g true,.g true,.g true,.val (bool (decide (f.sub ≥ 0) && decide (f.sub ≤ 4095))),.ov 53 (bool (decide (f.sub ≥ 0) && decide (f.sub ≤ 4095))),.g true,.g true,.g true,.g true,.val (bool c),.g true,.ov 60 (bool !c),.b false] (.c (show (decide ((↑i : Int) < (↑v0 : Int)) == true) = true from (by subst v0; rw [hlt]; rfl)) (.c (show (decide ((↑i : Int) < (↑v0 : Int)) == true) = true from (by subst v0; rw [hlt]; rfl)) (.c (show (decide ((↑i : Int) < (↑v0 : Int)) == true) = true from (by subst v0; rw [hlt]; rfl)) (.c (show (decide ((↑i : Int) < (↑v0 : Int)) == true) = true from (by subst v0; rw [hlt]; rfl)) (.c (pkt (bool (decide ((↑(Fu (nuV l)) : Int) < many))) (bool false) hlt) (.c hm (.c hr (.c (eqa hc0) (.c (eqa hc0) (.c (eqa hc0) (.c (pkt (bool (f.obj == 0)) (bool false) hc0) (.c (eqa hc1) (.c (eqa hc1) (.c (eqa hc1) (.c (@aJ (f.sub) 0 4095 (jD w l f)) (.c (pkt (bool (decide (f.sub ≥ 0) && decide (f.sub ≤ 4095))) (bool false) hc1) (.c (eqa hc2) (.c (eqa hc2) (.c (eqa hc2) (.c (eqa hc2) (.c (@hc) (.c (eqa hc2) (.c (pkt (bool !c) (bool false) hc2) (.c hc3 (.c (nM l 2 0 0) (.c (show FL 3 (match 0 == 2 with | true=>.vec (nuV l) 0 1 | false=>keepX (aM 2 0 0) (.var (Gm w))) = true from rfl) (.c (show FL 3 (match 0 + 1 == 2 with | true=>.vec (nuV l) 0 1 | false=>keepX (aM 2 0 0) (.var [int 12,int 0,int 0])) = true from rfl) (.c (iN 3 l 0 1) .n)))))))))))))))))))))))))))) (by subst v0; rfl) (by subst v0; (simp only [hw,GD,cond_false]; first | done | rfl))
    ·let v0:=Fu (Fo FC w.f)
     refine zX { t:=mkT 71 0 [(2,.ref (.ptr 0 0)),(6,.ref (.ptr 1 0)),(7,int many),(9,.ref (.vec 2 0)),(10,int (Fz Fs ((↑i : Int) + 1)))],h:=[.var [ab (Fo FE w.c),ab w.p,ab (Fo FF w.s),ab (Fo FC w.f)],.var [int 12,int 0,int 0],.vec (nuV l ++ [[int f.sub]]) 0 1],m:=[] } FH [.st (.mask [2,6,7,9,10]),.st (.ren 2 0),.st (.trimV 3)] [.g true,.g true,.g true,.g true,.ov 32 (bool (decide ((↑(Fu (nuV l)) : Int) < many))),.b true,.row [vi f.kind,vi f.sub,vi f.obj,vi f.value,vi f.frm,vi f.til,vi f.known,vi f.no],.g true,.g true,.g true,.ov 48 (bool (f.obj == 0)),.g true,.g true,.g true,.val (bool (decide (f.sub ≥ 0) && decide (f.sub ≤ 4095))),.ov 53 (bool (decide (f.sub ≥ 0) && decide (f.sub ≤ 4095))),.g true,.g true,.g true,.g true,.val (bool c),.g true,.ov 60 (bool !c),.b true] (.c (show (decide ((↑i : Int) < (↑v0 : Int)) == true) = true from (by subst v0; rw [hlt]; rfl)) (.c (show (decide ((↑i : Int) < (↑v0 : Int)) == true) = true from (by subst v0; rw [hlt]; rfl)) (.c (show (decide ((↑i : Int) < (↑v0 : Int)) == true) = true from (by subst v0; rw [hlt]; rfl)) (.c (show (decide ((↑i : Int) < (↑v0 : Int)) == true) = true from (by subst v0; rw [hlt]; rfl)) (.c (pkt (bool (decide ((↑(Fu (nuV l)) : Int) < many))) (bool false) hlt) (.c hm (.c hr (.c (eqa hc0) (.c (eqa hc0) (.c (eqa hc0) (.c (pkt (bool (f.obj == 0)) (bool false) hc0) (.c (eqa hc1) (.c (eqa hc1) (.c (eqa hc1) (.c (@aJ (f.sub) 0 4095 (jD w l f)) (.c (pkt (bool (decide (f.sub ≥ 0) && decide (f.sub ≤ 4095))) (bool false) hc1) (.c (eqa hc2) (.c (eqa hc2) (.c (eqa hc2) (.c (eqa hc2) (.c (@hc) (.c (eqa hc2) (.c (pkt (bool !c) (bool false) hc2) (.c hc3 (.c (show (FN [[int f.sub]] (aG 1) && roomOk (Fu (nuV l) + Fu [[int f.sub]]) 8) = true from ?_) (.c (nMa l [[int f.sub]] 2 1 0) (.er [[int f.sub]] (.c (show FL 3 (match 0 == 2 with | true=>.vec (nuV l ++ [[int f.sub]]) 0 1 | false=>keepX (aM 2 1 0) (.var (Gm w))) = true from rfl) (.c (show FL 3 (match 0 + 1 == 2 with | true=>.vec (nuV l ++ [[int f.sub]]) 0 1 | false=>keepX (aM 2 1 0) (.var [int 12,int 0,int 0])) = true from rfl) (.c (iNa 3 l [[int f.sub]] 0 1) .n)))))))))))))))))))))))))))))) (by subst v0; rfl) (by subst v0; (simp only [hw,lG,Bool.and_true,cond_true]; first | done | rfl)) <;> subst v0 <;> (simp [aG,D.one,HU,roomOk]; omega)
theorem n8_stop {w : WorldT} {many : Int} {l : List Int} {i : Nat} (hlt : decide ((i : Int) < ((w.f.map FC).length : Int)) = true) (hm : decide (((nuV l).length : Int) < many) = false) : (CW Fp Γ0 [] false (sub Ka 0) (n8S w many l i) (.exit 0) (n8E w l)):=by
 let v0:=Fu (Fo FC w.f)
 exact zx [.st (.mask [6,9])] [.g true,.g true,.g true,.g true,.ov 32 (bool (decide ((↑(Fu (nuV l)) : Int) < many))),.b false] (.c (show (decide ((↑i : Int) < (↑v0 : Int)) == true) = true from (by subst v0; rw [hlt]; rfl)) (.c (show (decide ((↑i : Int) < (↑v0 : Int)) == true) = true from (by subst v0; rw [hlt]; rfl)) (.c (show (decide ((↑i : Int) < (↑v0 : Int)) == true) = true from (by subst v0; rw [hlt]; rfl)) (.c (show (decide ((↑i : Int) < (↑v0 : Int)) == true) = true from (by subst v0; rw [hlt]; rfl)) (.c (pkt (bool (decide ((↑(Fu (nuV l)) : Int) < many))) (bool false) hlt) (.c hm .n))))))
theorem n8_last {w : WorldT} {many : Int} {l : List Int} {i : Nat} (hlt : decide ((i : Int) < ((w.f.map FC).length : Int)) = false) : (CW Fp Γ0 [] false (sub Ka 0) (n8S w many l i) (.exit 0) (n8E w l)):=by
 let v0:=Fu (Fo FC w.f)
 exact zx [.st (.mask [6,9])] [.g false,.g false,.g false,.g false,.ov 32 (bool false),.b false] (.c (show (decide ((↑i : Int) < (↑v0 : Int)) == true) = false from (by subst v0; rw [hlt]; rfl)) (.c (show (decide ((↑i : Int) < (↑v0 : Int)) == true) = false from (by subst v0; rw [hlt]; rfl)) (.c (show (decide ((↑i : Int) < (↑v0 : Int)) == true) = false from (by subst v0; rw [hlt]; rfl)) (.c (show (decide ((↑i : Int) < (↑v0 : Int)) == true) = false from (by subst v0; rw [hlt]; rfl)) (.c (pkf (Gj (GT (Gk { toList:=[] }))) (bool false) hlt) (.er false .n))))))
theorem n8_cont {w : WorldT} {l : List Int} {f : FactT} (hl : ad l) : Ev Fp Γ0 126 [.ref (.vec 2 0),int f.sub] (n8K w l f) (bool (l.contains f.sub)) (n8K w l f):=by
 refine Ev.frzArgs ?_ rfl ?_
 ·have : wp (n8K w l f) [D.ref (.vec 2 0),int f.sub] = [ab (bA l),int f.sub]:=CC
  rw [this]; rfl
 ·have : wp (n8K w l f) [D.ref (.vec 2 0),int f.sub] = [ab (bA l),int f.sub]:=CC
  rw [this]; exact zo hl []
theorem n8_cw {w : WorldT} {many : Int} (hf : w.f.length ≤ 69000) :
  CW Fp Γ0 [] false (.loop (sub Ka 0)) (n8S w many [] 0) (.exit 0) (n8E w (c6 many w.f)):=by
 have hs : ad w.f:=by unfold ad; omega
 have:=Ha (P:=Fp) (Γ:=Γ0) (h0:=[]) (rd:=false) (c:=sub Ka 0) w.f (n8F many) (fun i l=>n8S w many l (i : Int)) (.exit 0) (fun l=>n8E w l) (fun l=>(.exit 0,n8E w l))
  (fun i l=>l.length ≤ i) (by simp) (by simp) ?_ ?_ [] (by simp)
 ·rw [CB] at this
  unfold c6
  cases h : forL (nuF many) w.f [] <;> rw [h] at this <;> exact this
 ·intro i f l hfi hl
  have hi:=(Fy.1 hfi).1
  refine ⟨fun l' h=>?_,?_⟩
  ·have:=sO (many:=many) (f:=f) (l:=l) (l':=l') (by rw [← CB]; exact h)
   omega
  ·unfold n8F
   cases hm : decide ((l.length : Int) < many)
   ·exact n8_stop (lt_len _ hi) (by rw [lH]; exact hm)
   ·exact n8_body (rowAt hfi rfl) (lt_len _ hi) (by rw [lH]; exact hm) (wrap_succ hi hs) (by omega) (n8_cont (by unfold ad; omega)) (oQ l) (el l)
 ·intro l _
  exact n8_last (aC _ w.f)
theorem atN {w : WorldT} (hf : w.f.length ≤ 69000) {known : Int} (h : List Blk) : Ev Fp Γ0 124 [ab (w.f.map FC),.agg [int 12,int 0,int 0],int 0,int known] h (.tup [int (yz w.f known),bool (atR 12 0 0 0 known w.f).2]) h:=by
 have:=uv (kk:=12) (ks:=0) (ko:=0) (term:=0) (known:=known) (l:=w.f) (by unfold ad; omega) h
 rw [uz] at this
 exact this
noncomputable abbrev n8Z (w : WorldT) : List Blk:=[.var w.l,.var [int 12,int 0,int 0],.gone,.vec [[int 12,int 0,int 0,int 0,int 1]] 0 5]
noncomputable abbrev gB (w : WorldT) : List Blk:=[.var [ab (Fo FE w.c),ab w.p,ab (Fo FF w.s),ab (Fo FC w.f)],.var [int 12,int 0,int 0],.gone]
noncomputable abbrev mq (w : WorldT) : List Blk:=[.var [ab (Fo FE w.c),ab w.p,ab (Fo FF w.s),ab (Fo FC w.f)],.var [int 12,int 0,int 0]]
theorem th {w : WorldT} (hf : w.f.length ≤ 69000) {known many : Int} {b : Bool} (hat : ∀ h,Ev Fp Γ0 124 [ab (w.f.map FC),.agg [int 12,int 0,int 0],int 0,int known] h (.tup [int many,bool b]) h) (hn : (c6 many w.f).length ≤ 100000) : (Ev Fp Γ0 68 [.agg w.l,int known] [] (.tup [ab (bA (iP (c6 many w.f))),.ref (.vec 3 0)]) (n8Z w)):=by
 have hl0:=(@n8_cw (w) (many) (hf))
 let v0 : List D:=[int 12,int 0,int 0,int 0,int (Fz Fs (0 + 1))]
 exact FP (Ev.of_sym (h':=[.var [ab (Fo FE w.c),ab w.p,ab (Fo FF w.s),ab (Fo FC w.f)],.var [int 12,int 0,int 0],.gone,.vec [v0] 0 5]) (d:=FM [ab (bA (iP (c6 many w.f))),.ref (.vec 3 0)]) pok [.val (FM [int many,bool b]),.sum [2,6,7,9,10] (Gf 0) { t:=mkT 71 0 [(6,.ref (.ptr 1 0)),(9,.ref (.vec 2 0))],h:=[.var (Gm w),.var [int 12,int 0,int 0],.vec (nuV (c6 many w.f)) 0 1],m:=[] },.st (.frz 2 (bA (c6 many w.f))),.val (ab (bA (iP (c6 many w.f)))),.val (FU v0)] (by kernel_rfl) (.c (@hat (mq w)) (.c hl0 (.c (show nuV (c6 many w.f) = Fo (fun x=>Fo Gj x) (bA (c6 many w.f)) from (by subst v0; exact Cr _)) (.c (@s9 (c6 many w.f) hn (gB w)) (.c (@fR 12 0 0 0 (gB w)) (.e (FU [int 12,int 0,int 0]) (.e (FU [int 12,int 0,int 0]) .n)))))))) (by rfl) (by rfl)
theorem nums_le {many : Int} {fs : List FactT} (hf : fs.length ≤ 69000) : (c6 many fs).length ≤ 100000:=by
 have:=fd (many:=many) fs []
 unfold c6
 simp only [Hf] at this
 omega
theorem rB {w : WorldT} (hf : w.f.length ≤ 69000) {known : Int} (h : List Blk) : Ev Fp Γ0 68 [.agg w.l,int known] h (.tup [ab (bA (aj w.f known)),.ref (.vec h.length 0)]) (h ++ [.vec (ai (rdR [rdN])) 0 5]):=by
 have h1:=th (w:=w) hf (known:=known) (fun h=>atN hf h) (nums_le hf)
 rw [zT] at h1
 have h2 : Ev Fp Γ0 68 [.agg w.l,int known] [] (.tup [ab (bA (aj w.f known)),.ref (.vec 0 0)]) [.vec [[int 12,int 0,int 0,int 0,int 1]] 0 5]:=FP (h1.keepB [3] (by kernel_rfl) ⟨rfl,trivial⟩) (by kernel_rfl) (by kernel_rfl)
 exact h2.frameN (by kernel_rfl) rfl h
abbrev c57H (w : WorldT) (r : RecT) (xs : List Int) (rs : List ReadT) : List Blk:=[.var w.l,.var r.l,.vec (cvV xs) 0 1,.vec (ai (rdR rs)) 0 5]
abbrev c57S (w : WorldT) (r : RecT) (term known : Int) (xs : List Int) (rs : List ReadT) (i : Int) : AS:={ t:=mkT 71 0 [(2,int term),(3,int known),(4,.ref (.ptr 0 0)),(5,.ref (.ptr 1 0)),(11,.ref (.vec 2 0)),(12,.ref (.vec 3 0)),(13,int i)],h:=c57H w r xs rs,m:=[] }
theorem zV (xs : List Int) (v : Int) : cvV xs ++ [[int v]] = cvV (xs ++ [v]):=by simp []
theorem CD (f : Ref → D) (xs : List Int) (v : Int) : (cvV xs ++ [[int v]]).map (GA f) = cvV xs ++ [[int v]]:=by rw [zV]; exact bl _ _
theorem CE (n : Nat) (xs : List Int) (v : Int) (e c : Nat) : FL n (.vec (cvV xs ++ [[int v]]) e c) = true:=by rw [zV]; exact cT
theorem rd_ren (f : Ref → D) (rs qs : List ReadT) : (ai (rdR rs) ++ (rdR qs).map fun x=>x.map Gj).map (GA f) = ai (rdR rs) ++ (rdR qs).map fun x=>x.map Gj:=by
 have : (rdR qs).map (fun x=>x.map Gj) = ai (rdR qs):=rfl
 rw [this,qZ]; exact bl _ _
theorem rd_inn (n : Nat) (rs qs : List ReadT) (e c : Nat) : FL n (.vec (ai (rdR rs) ++ (rdR qs).map fun x=>x.map Gj) e c) = true:=by
 have : (rdR qs).map (fun x=>x.map Gj) = ai (rdR qs):=rfl
 rw [this,qZ]; exact cT
theorem CF {w : WorldT} {r : RecT} {term known v : Int} {xs : List Int} {rs qs : List ReadT} {j : Int} : ({ t:=mkT 71 0 [(2,int term),(3,int known),(4,.ref (.ptr 0 0)),(5,.ref (.ptr 1 0)),(11,.ref (.vec 2 0)),(12,.ref (.vec 3 0)),(13,int j)],h:=[.var w.l,.var r.l,.vec (cvV xs ++ [[int v]]) 0 1,.vec (ai (rdR rs) ++ (rdR qs).map fun x=>x.map Gj) 0 5],m:=[] } : AS) = c57S w r term known (xs ++ [v]) (rs ++ qs) j:=by
 simp only [c57S,c57H,← zV,← qZ]
noncomputable abbrev lY (w : WorldT) (r : RecT) (xs : List Int) (rs : List ReadT) : List Blk:=[.var [ab (Fo FE w.c),ab w.p,ab (Fo FF w.s),ab (Fo FC w.f)],.var [int r.st,ab (Fo Ft r.a)],.vec (cvV xs) 0 1,.vec (ai (rdR rs)) 0 5,.var [ak { data:=#[] },int 0,int 0,int 0,int 0,int 0,ak { data:=#[] },int 0,int 0,nq,int 0,int 0,ak { data:=#[] },int 0,int 0,nq]]
noncomputable abbrev cL (w : WorldT) (r : RecT) (xs : List Int) (rs : List ReadT) : List Blk:=[.var [ab (Fo FE w.c),ab w.p,ab (Fo FF w.s),ab (Fo FC w.f)],.var [int r.st,ab (Fo Ft r.a)],.vec (cvV xs) 0 1,.vec (ai (rdR rs)) 0 5]
noncomputable abbrev c57_body_x2 (w : WorldT) (a : AttT) (term : Int) (known : Int) : List D:=[FU [ab (Fo FE w.c),ab w.p,ab (Fo FF w.s),ab (Fo FC w.f)],int a.course,int term,int known]
theorem BR {w : WorldT} {r : RecT} {a : AttT} {c : CourseT} {b : Bool} {qs : List ReadT} {term known : Int} {xs : List Int} {rs : List ReadT} {i : Nat} (hx : xs.length ≤ 900000000) (hq : rs.length + qs.length ≤ 900000000) (hr : ah (i : Int) (r.a.map Ft) a.row 5) (hlt : decide ((i : Int) < ((r.a.map Ft).length : Int)) = true) (hwr : Fs.wrap ((i : Int) + 1) = ((i + 1 : Nat) : Int))
 (hcall : ∀ h,Ev Fp Γ0 76 [.agg w.l,int a.course,int term,int known] h (.tup [ag c.row,ab (rdR qs),bool b]) h) (hz : b = false → c.rep = 0) : (CW Fp Γ0 [] false (sub Lh 0) (c57S w r term known xs rs i) .normal (c57S w r term known (xs ++ [c.rep]) (rs ++ qs) ((i + 1 : Nat) : Int))):=by
 cases hc0 : b
 ·refine zX { t:=mkT 71 0 [(2,int term),(3,int known),(4,.ref (.ptr 0 0)),(5,.ref (.ptr 1 0)),(11,.ref (.vec 2 0)),(12,.ref (.vec 3 0)),(13,int (Fz Fs ((↑i : Int) + 1)))],h:=[.var [ab (Fo FE w.c),ab w.p,ab (Fo FF w.s),ab (Fo FC w.f)],.var [int r.st,ab (Fo Ft r.a)],.vec (cvV xs ++ [[int 0]]) 0 1,.vec (ai (rdR rs) ++ Fo (fun x=>Fo Gj x) (rdR qs)) 0 5],m:=[] } FH [.st (.mask [2,3,4,5,11,12,13]),.st (.ren 2 0),.st (.ren 3 0),.st (.trimV 4)] [.b true,.row (Ft a),.val (FM [FU [ak c.name,int c.number,int c.credits,int c.rep,int (Fv c.need).op,int (Fv c.need).c,ak (Fv c.need).nm,int (Fv c.need).n,int (Fv c.need).d,ab (Fv c.need).ks,int (Fv c.bar).op,int (Fv c.bar).c,ak (Fv c.bar).nm,int (Fv c.bar).n,int (Fv c.bar).d,ab (Fv c.bar).ks],ab (rdR qs),bool b]),.b false] (.c hlt (.c hr (.c (@hcall (cL w r xs rs)) (.e (FU (Gm w)) (.e (FU (Gm w)) (.e (.ref (.ptr 1 1)) (.e (.ref (.ptr 1 1)) (.e (ab (Fo Ft r.a)) (.e (ab (Fo Ft r.a)) (.er (cL w r xs rs) (.c (@hcall (cL w r xs rs)) (.c (@hcall (lY w r xs rs)) (.c (show (FN (Fo (fun x=>Fo Gj x) (rdR qs)) (aG 5) && roomOk (Fu (ai (rdR rs)) + Fu (Fo (fun x=>Fo Gj x) (rdR qs))) 40) = true from ?_) (.c hc0 (.c (show (FN [[int 0]] (aG 1) && roomOk (Fu (cvV xs) + Fu [[int 0]]) 8) = true from ?_) (.c (show Fo (GA (aM 2 1 0)) (cvV xs ++ [[int 0]]) = cvV xs ++ [[int 0]] from ?_) (.c (vMa (rdR rs) (Fo (fun x=>Fo Gj x) (rdR qs)) 2 1 0) (.er [[int 0]] (.c (vMa (rdR rs) (Fo (fun x=>Fo Gj x) (rdR qs)) 3 1 0) (.c (show Fo (GA (aM 3 1 0)) (cvV xs ++ [[int 0]]) = cvV xs ++ [[int 0]] from ?_) (.er [[int 0]] (.c (show FL 4 (match 0 == 3 with | true=>.vec (ai (rdR rs) ++ Fo (fun x=>Fo Gj x) (rdR qs)) 0 5 | false=>keepX (aM 3 1 0) (match 0 == 2 with | true=>.vec (cvV xs ++ [[int 0]]) 0 1 | false=>keepX (aM 2 1 0) (.var (Gm w)))) = true from rfl) (.c (show FL 4 (match 0 + 1 == 3 with | true=>.vec (ai (rdR rs) ++ Fo (fun x=>Fo Gj x) (rdR qs)) 0 5 | false=>keepX (aM 3 1 0) (match 0 + 1 == 2 with | true=>.vec (cvV xs ++ [[int 0]]) 0 1 | false=>keepX (aM 2 1 0) (.var [int r.st,ab (Fo Ft r.a)]))) = true from rfl) (.c (show FL 4 (match 0 + 1 + 1 == 3 with | true=>.vec (ai (rdR rs) ++ Fo (fun x=>Fo Gj x) (rdR qs)) 0 5 | false=>keepX (aM 3 1 0) (match 0 + 1 + 1 == 2 with | true=>.vec (cvV xs ++ [[int 0]]) 0 1 | false=>keepX (aM 2 1 0) (.vec (cvV xs ++ [[int 0]]) 1 1))) = true from ?_) (.c (iVa 4 (rdR rs) (Fo (fun x=>Fo Gj x) (rdR qs)) 0 5) .n))))))))))))))))))))))))) (by rfl) (by (rw [hwr,hz hc0]; exact CF)) <;> (first | exact CD _ _ _ | exact CE _ _ _ _ _ | (simp only [sS,roomOk,G1,FB,decide_eq_true_eq,GB]; omega) | (simp [aG,D.one,HU,roomOk]; omega))
 ·refine zX { t:=mkT 71 0 [(2,int term),(3,int known),(4,.ref (.ptr 0 0)),(5,.ref (.ptr 1 0)),(11,.ref (.vec 2 0)),(12,.ref (.vec 3 0)),(13,int (Fz Fs ((↑i : Int) + 1)))],h:=[.var [ab (Fo FE w.c),ab w.p,ab (Fo FF w.s),ab (Fo FC w.f)],.var [int r.st,ab (Fo Ft r.a)],.vec (cvV xs ++ [[int c.rep]]) 0 1,.vec (ai (rdR rs) ++ Fo (fun x=>Fo Gj x) (rdR qs)) 0 5],m:=[] } FH [.st (.mask [2,3,4,5,11,12,13]),.st (.ren 2 0),.st (.ren 3 0),.st (.trimV 4)] [.b true,.row (Ft a),.val (FM [FU [ak c.name,int c.number,int c.credits,int c.rep,int (Fv c.need).op,int (Fv c.need).c,ak (Fv c.need).nm,int (Fv c.need).n,int (Fv c.need).d,ab (Fv c.need).ks,int (Fv c.bar).op,int (Fv c.bar).c,ak (Fv c.bar).nm,int (Fv c.bar).n,int (Fv c.bar).d,ab (Fv c.bar).ks],ab (rdR qs),bool b]),.b true] (.c hlt (.c hr (.c (@hcall (cL w r xs rs)) (.e (FU (Gm w)) (.e (FU (Gm w)) (.e (.ref (.ptr 1 1)) (.e (.ref (.ptr 1 1)) (.e (ab (Fo Ft r.a)) (.e (ab (Fo Ft r.a)) (.er (cL w r xs rs) (.c (@hcall (cL w r xs rs)) (.c (@hcall (lY w r xs rs)) (.c (show (FN (Fo (fun x=>Fo Gj x) (rdR qs)) (aG 5) && roomOk (Fu (ai (rdR rs)) + Fu (Fo (fun x=>Fo Gj x) (rdR qs))) 40) = true from ?_) (.c hc0 (.c (show (FN [[int c.rep]] (aG 1) && roomOk (Fu (cvV xs) + Fu [[int c.rep]]) 8) = true from ?_) (.c (show Fo (GA (aM 2 1 0)) (cvV xs ++ [[int c.rep]]) = cvV xs ++ [[int c.rep]] from ?_) (.c (vMa (rdR rs) (Fo (fun x=>Fo Gj x) (rdR qs)) 2 1 0) (.er [[int c.rep]] (.c (vMa (rdR rs) (Fo (fun x=>Fo Gj x) (rdR qs)) 3 1 0) (.c (show Fo (GA (aM 3 1 0)) (cvV xs ++ [[int c.rep]]) = cvV xs ++ [[int c.rep]] from ?_) (.er [[int c.rep]] (.c (show FL 4 (match 0 == 3 with | true=>.vec (ai (rdR rs) ++ Fo (fun x=>Fo Gj x) (rdR qs)) 0 5 | false=>keepX (aM 3 1 0) (match 0 == 2 with | true=>.vec (cvV xs ++ [[int c.rep]]) 0 1 | false=>keepX (aM 2 1 0) (.var (Gm w)))) = true from rfl) (.c (show FL 4 (match 0 + 1 == 3 with | true=>.vec (ai (rdR rs) ++ Fo (fun x=>Fo Gj x) (rdR qs)) 0 5 | false=>keepX (aM 3 1 0) (match 0 + 1 == 2 with | true=>.vec (cvV xs ++ [[int c.rep]]) 0 1 | false=>keepX (aM 2 1 0) (.var [int r.st,ab (Fo Ft r.a)]))) = true from rfl) (.c (show FL 4 (match 0 + 1 + 1 == 3 with | true=>.vec (ai (rdR rs) ++ Fo (fun x=>Fo Gj x) (rdR qs)) 0 5 | false=>keepX (aM 3 1 0) (match 0 + 1 + 1 == 2 with | true=>.vec (cvV xs ++ [[int c.rep]]) 0 1 | false=>keepX (aM 2 1 0) (.vec (cvV xs ++ [[int c.rep]]) 1 1))) = true from ?_) (.c (iVa 4 (rdR rs) (Fo (fun x=>Fo Gj x) (rdR qs)) 0 5) .n))))))))))))))))))))))))) (by rfl) (by (rw [hwr]; exact CF)) <;> (first | exact CD _ _ _ | exact CE _ _ _ _ _ | (simp only [sS,roomOk,G1,FB,decide_eq_true_eq,GB]; omega) | (simp [aG,D.one,HU,roomOk]; omega))
theorem BS {w : WorldT} {r : RecT} {term known : Int} {xs : List Int} {rs : List ReadT} {i : Nat} (hlt : decide ((i : Int) < ((r.a.map Ft).length : Int)) = false) : (CW Fp Γ0 [] false (sub Lh 0) (c57S w r term known xs rs i) (.exit 0) { t:=mkT 71 0 [(5,.ref (.ptr 1 0)),(11,.ref (.vec 2 0)),(12,.ref (.vec 3 0))],h:=c57H w r xs rs,m:=[] }):=by
 exact zx [.st (.mask [5,11,12])] [.b false] (.c hlt .n)
theorem rC {w : WorldT} (hw : w.ok) (hs : ∀ x ∈ w.c,x.small) {n term known : Int} (h : List Blk) : Ev Fp Γ0 76 [.agg w.l,int n,int term,int known] h (.tup [ag (ac w n term known).1.row,ab (rdR (rdT 1 n 0 term)),bool (ac w n term known).2]) h:=by
 rw [← oY]; exact sM hw hs h
theorem ti {w : WorldT} {n term known : Int} (h : (ac w n term known).2 = false) : (ac w n term known).1.rep = 0:=by
 unfold ac at h ⊢
 cases ht : outB term <;> rw [ht] at h <;> simp only at h ⊢
 ·unfold eJ at h ⊢
  split at h
  ·rfl
  ·simp at h
 ·rfl
theorem c57_cw {w : WorldT} (hw : w.ok) (hs : ∀ x ∈ w.c,x.small) {r : RecT} (hr : r.a.length ≤ 90000000) {term known : Int} :
  CW Fp Γ0 [] false (.loop (sub Lh 0)) (c57S w r term known [] [] 0) (.exit 0) { t:=mkT 71 0 [(5,.ref (.ptr 1 0)),(11,.ref (.vec 2 0)),(12,.ref (.vec 3 0))],h:=c57H w r (da w known term r.a) (du term r.a),m:=[] }:=by
 have hsh : ad r.a:=by unfold ad; omega
 have:=CW.loopN (P:=Fp) (Γ:=Γ0) (h0:=[]) (rd:=false) (c:=sub Lh 0) r.a.length
  (fun i=>c57S w r term known (da w known term (r.a.take i)) (du term (r.a.take i)) (i : Int)) (e:=.exit 0) (s':={ t:=mkT 71 0 [(5,.ref (.ptr 1 0)),(11,.ref (.vec 2 0)),(12,.ref (.vec 3 0))],h:=c57H w r (da w known term r.a) (du term r.a),m:=[] }) (by simp) ?_ ?_
 ·exact this
 ·intro i hi
  have ha : r.a[i]? = some r.a[i]:=FK hi
  have h1 : (da w known term (r.a.take i)).length ≤ 900000000:=by unfold da; rw [GB,Jy]; omega
  have h2 : (du term (r.a.take i)).length + (rdT 1 r.a[i].course 0 term).length ≤ 900000000:=by
   have q1:=kn term (r.a.take i)
   have q2:=rdT_len 1 r.a[i].course 0 term
   rw [Jy] at q1
   omega
  have key:=BR (w:=w) (r:=r) (a:=r.a[i]) (c:=(ac w r.a[i].course term known).1) (b:=(ac w r.a[i].course term known).2) (qs:=rdT 1 r.a[i].course 0 term) (xs:=da w known term (r.a.take i)) (rs:=du term (r.a.take i)) (term:=term) (known:=known) h1 h2 (rowAt ha rfl) (lt_len Ft hi) (wrap_succ hi hsh) (fun h=>rC hw hs (n:=r.a[i].course) h) ti
  have e1 : da w known term (r.a.take (i + 1)) = da w known term (r.a.take i) ++ [(ac w r.a[i].course term known).1.rep]:=by
   unfold da; rw [I2,ha,Jw,List.map_append]; rfl
  have e2 : du term (r.a.take (i + 1)) = du term (r.a.take i) ++ rdT 1 r.a[i].course 0 term:=by
   unfold du; rw [I2,ha,Jw,List.flatMap_append,List.flatMap_singleton]
  rw [e1,e2]
  exact key
 ·have:=BS (w:=w) (r:=r) (term:=term) (known:=known) (xs:=da w known term (r.a.take r.a.length)) (rs:=du term (r.a.take r.a.length)) (i:=r.a.length) (aC Ft r.a)
  rw [List.take_length] at this ⊢
  exact this
abbrev o6H (w : WorldT) (st : Int) (as_ : List AttT) (rs : List ReadT) : List Blk:=[.var w.l,.var [int 0,aO],.var [int st,ab (as_.map Ft)],.vec (ai (rdR rs)) 0 5]
abbrev o6S (w : WorldT) (st term known : Int) (ns : List (List Dp)) (i c : Int) (ps : List (List Dp)) (as_ : List AttT) (rs : List ReadT) (k : Int) : AS :=
 { t:=mkT 126 0 [(1,int st),(2,int term),(3,int known),(4,.ref (.ptr 0 0)),(8,.ref (.ptr 1 0)),(11,.ref (.ptr 2 0)),(12,ab ns),(13,.ref (.vec 3 0)),(14,int i),(15,int c),(16,ab ps),(17,int k)],h:=o6H w st as_ rs,m:=[] }
abbrev o6O (w : WorldT) (st term known : Int) (ns : List (List Dp)) (as_ : List AttT) (rs : List ReadT) (i : Int) : AS :=
 { t:=mkT 126 0 [(1,int st),(2,int term),(3,int known),(4,.ref (.ptr 0 0)),(8,.ref (.ptr 1 0)),(11,.ref (.ptr 2 0)),(12,ab ns),(13,.ref (.vec 3 0)),(14,int i)],h:=o6H w st as_ rs,m:=[] }
abbrev o6Z (w : WorldT) (st term known : Int) (ns : List (List Dp)) (i c : Int) (ps : List (List Dp)) (as_ : List AttT) (rs : List ReadT) : AS :=
 { t:=mkT 126 0 [(1,int st),(2,int term),(3,int known),(4,.ref (.ptr 0 0)),(8,.ref (.ptr 1 0)),(11,.ref (.ptr 2 0)),(12,ab ns),(13,.ref (.vec 3 0)),(14,int i)],h:=o6H w st as_ rs,m:=[] }
def o6A (p : PtT) (c cr : Int) : AttT:=⟨c,p.term,IZ p.value 16,Fs.wrap (Hj p.value 16),cr⟩
noncomputable abbrev nL (w : WorldT) (st : Int) (as_ : List AttT) (rs : List ReadT) (qs : List ReadT) (cc : CourseT) : List Blk:=[.var [ab (Fo FE w.c),ab w.p,ab (Fo FF w.s),ab (Fo FC w.f)],.var [int 0,nq],.var [int st,ab (Fo Ft as_)],.vec (ai (rdR rs) ++ Fo (fun x=>Fo Gj x) (rdR qs)) 1 5,.var [ak cc.name,int cc.number,int cc.credits,int cc.rep,int (Fv cc.need).op,int (Fv cc.need).c,ak (Fv cc.need).nm,int (Fv cc.need).n,int (Fv cc.need).d,ab (Fv cc.need).ks,int (Fv cc.bar).op,int (Fv cc.bar).c,ak (Fv cc.bar).nm,int (Fv cc.bar).n,int (Fv cc.bar).d,ab (Fv cc.bar).ks]]
noncomputable abbrev nN (w : WorldT) (st : Int) (as_ : List AttT) (rs : List ReadT) : List Blk:=[.var [ab (Fo FE w.c),ab w.p,ab (Fo FF w.s),ab (Fo FC w.f)],.var [int 0,nq],.var [int st,ab (Fo Ft as_)],.vec (ai (rdR rs)) 0 5,.var [ak { data:=#[] },int 0,int 0,int 0,int 0,int 0,ak { data:=#[] },int 0,int 0,nq,int 0,int 0,ak { data:=#[] },int 0,int 0,nq]]
noncomputable abbrev cM (w : WorldT) (st : Int) (as_ : List AttT) (rs : List ReadT) : List Blk:=[.var [ab (Fo FE w.c),ab w.p,ab (Fo FF w.s),ab (Fo FC w.f)],.var [int 0,nq],.var [int st,ab (Fo Ft as_)],.vec (ai (rdR rs)) 0 5]
noncomputable abbrev o6_body_x3 (w : WorldT) (known : Int) (c : Int) (p : PtT) : List D:=[FU [ab (Fo FE w.c),ab w.p,ab (Fo FF w.s),ab (Fo FC w.f)],int c,int p.term,int known]
theorem o6_body {w : WorldT} {st term known i c : Int} {ns ps : List (List Dp)} {as_ : List AttT} {rs qs : List ReadT} {p : PtT} {k : Nat} {cc : CourseT} {b : Bool} (hr : ah (k : Int) ps p.row 2) (hlt : decide ((k : Int) < (ps.length : Int)) = true) (hwr : Fs.wrap ((k : Int) + 1) = ((k + 1 : Nat) : Int)) (hq : rs.length + qs.length ≤ 900000000) (hb : as_.length ≤ 1000000)
 (hcall : ∀ h,Ev Fp Γ0 76 [.agg w.l,int c,int p.term,int known] h (.tup [ag cc.row,ab (rdR qs),bool b]) h) (hz : b = false → cc.credits = 0) : (CW Fp Γ0 [] false (sub Iy 1) (o6S w st term known ns i c ps as_ rs k) .normal (o6S w st term known ns i c ps (bif attBad p then as_ else rN as_ (o6A p c cc.credits)) (bif attBad p then rs else rs ++ qs) ((k + 1 : Nat) : Int))):=by
 cases hc0 : decide (IZ p.value 16 > 12) || decide (Fz Fs (Hj p.value 16) ≥ 7)
 ·cases hc1 : b
  ·let v0:=Fo Ft (rN as_ { course:=c,term:=p.term,grade:=IZ p.value 16,campus:=Fz Fs (Hj p.value 16),credits:=0 })
   refine zX { t:=mkT 126 0 [(1,int st),(2,int term),(3,int known),(4,.ref (.ptr 0 0)),(8,.ref (.ptr 1 0)),(11,.ref (.ptr 2 0)),(12,ab ns),(13,.ref (.vec 3 0)),(14,int i),(15,int c),(16,ab ps),(17,int (Fz Fs ((↑k : Int) + 1)))],h:=[.var [ab (Fo FE w.c),ab w.p,ab (Fo FF w.s),ab (Fo FC w.f)],.var [int 0,nq],.var [int st,ab v0],.vec (ai (rdR rs) ++ Fo (fun x=>Fo Gj x) (rdR qs)) 0 5],m:=[] } FH [.st (.mask [1,2,3,4,8,11,12,13,14,15,16,17]),.st (.ren 3 0),.st (.trimV 4)] [.b true,.row [vi p.term,vi p.value],.row [vi p.term,vi p.value],.b false,.row [vi p.term,vi p.value],.val (FM [FU [ak cc.name,int cc.number,int cc.credits,int cc.rep,int (Fv cc.need).op,int (Fv cc.need).c,ak (Fv cc.need).nm,int (Fv cc.need).n,int (Fv cc.need).d,ab (Fv cc.need).ks,int (Fv cc.bar).op,int (Fv cc.bar).c,ak (Fv cc.bar).nm,int (Fv cc.bar).n,int (Fv cc.bar).d,ab (Fv cc.bar).ks],ab (rdR qs),bool b]),.b false,.row [vi p.term,vi p.value],.val (ab v0)] (.c hlt (.c hr (.c (show (!decide (16 = 0)) = true from rfl) (.c hr (.c (show (!decide (16 = 0)) = true from rfl) (.c hc0 (.c hr (.c (@hcall (cM w st as_ rs)) (.e (FU (Gm w)) (.e (FU (Gm w)) (.er (cM w st as_ rs) (.c (@hcall (cM w st as_ rs)) (.c (@hcall (nN w st as_ rs)) (.c (show (FN (Fo (fun x=>Fo Gj x) (rdR qs)) (aG 5) && roomOk (Fu (ai (rdR rs)) + Fu (Fo (fun x=>Fo Gj x) (rdR qs))) 40) = true from ?_) (.c hc1 (.c hr (.c (@Cz as_ hb ({ course:=c,term:=p.term,grade:=IZ p.value 16,campus:=Fz Fs (Hj p.value 16),credits:=0 }) (nL w st as_ rs qs cc)) (.e (.ref (.ptr 2 1)) (.e (ab (Fo Ft as_)) (.e (.ref (.ptr 2 1)) (.c (vMa (rdR rs) (Fo (fun x=>Fo Gj x) (rdR qs)) 3 1 0) (.c (show FL 4 (match 0 == 3 with | true=>.vec (ai (rdR rs) ++ Fo (fun x=>Fo Gj x) (rdR qs)) 0 5 | false=>keepX (aM 3 1 0) (.var (Gm w))) = true from rfl) (.c (show FL 4 (match 0 + 1 == 3 with | true=>.vec (ai (rdR rs) ++ Fo (fun x=>Fo Gj x) (rdR qs)) 0 5 | false=>keepX (aM 3 1 0) (.var [int 0,nq])) = true from rfl) (.c (show FL 4 (match 0 + 1 + 1 == 3 with | true=>.vec (ai (rdR rs) ++ Fo (fun x=>Fo Gj x) (rdR qs)) 0 5 | false=>keepX (aM 3 1 0) (.var [int st,ab v0])) = true from rfl) (.c (iVa 4 (rdR rs) (Fo (fun x=>Fo Gj x) (rdR qs)) 0 5) .n))))))))))))))))))))))))) (by subst v0; rfl) (by subst v0; (have hh : attBad p = false:=hc0; simp only [hwr,hh,cond_false,hz hc1,o6S,o6H,← qZ]; first | done | rfl)) <;> subst v0 <;> (simp only [sS,roomOk,G1,FB,decide_eq_true_eq,GB]; omega)
  ·let v0:=Fo Ft (rN as_ { course:=c,term:=p.term,grade:=IZ p.value 16,campus:=Fz Fs (Hj p.value 16),credits:=cc.credits })
   refine zX { t:=mkT 126 0 [(1,int st),(2,int term),(3,int known),(4,.ref (.ptr 0 0)),(8,.ref (.ptr 1 0)),(11,.ref (.ptr 2 0)),(12,ab ns),(13,.ref (.vec 3 0)),(14,int i),(15,int c),(16,ab ps),(17,int (Fz Fs ((↑k : Int) + 1)))],h:=[.var [ab (Fo FE w.c),ab w.p,ab (Fo FF w.s),ab (Fo FC w.f)],.var [int 0,nq],.var [int st,ab v0],.vec (ai (rdR rs) ++ Fo (fun x=>Fo Gj x) (rdR qs)) 0 5],m:=[] } FH [.st (.mask [1,2,3,4,8,11,12,13,14,15,16,17]),.st (.ren 3 0),.st (.trimV 4)] [.b true,.row [vi p.term,vi p.value],.row [vi p.term,vi p.value],.b false,.row [vi p.term,vi p.value],.val (FM [FU [ak cc.name,int cc.number,int cc.credits,int cc.rep,int (Fv cc.need).op,int (Fv cc.need).c,ak (Fv cc.need).nm,int (Fv cc.need).n,int (Fv cc.need).d,ab (Fv cc.need).ks,int (Fv cc.bar).op,int (Fv cc.bar).c,ak (Fv cc.bar).nm,int (Fv cc.bar).n,int (Fv cc.bar).d,ab (Fv cc.bar).ks],ab (rdR qs),bool b]),.b true,.row [vi p.term,vi p.value],.val (ab v0)] (.c hlt (.c hr (.c (show (!decide (16 = 0)) = true from rfl) (.c hr (.c (show (!decide (16 = 0)) = true from rfl) (.c hc0 (.c hr (.c (@hcall (cM w st as_ rs)) (.e (FU (Gm w)) (.e (FU (Gm w)) (.er (cM w st as_ rs) (.c (@hcall (cM w st as_ rs)) (.c (@hcall (nN w st as_ rs)) (.c (show (FN (Fo (fun x=>Fo Gj x) (rdR qs)) (aG 5) && roomOk (Fu (ai (rdR rs)) + Fu (Fo (fun x=>Fo Gj x) (rdR qs))) 40) = true from ?_) (.c hc1 (.c hr (.c (@Cz as_ hb ({ course:=c,term:=p.term,grade:=IZ p.value 16,campus:=Fz Fs (Hj p.value 16),credits:=cc.credits }) (nL w st as_ rs qs cc)) (.e (.ref (.ptr 2 1)) (.e (ab (Fo Ft as_)) (.e (.ref (.ptr 2 1)) (.c (vMa (rdR rs) (Fo (fun x=>Fo Gj x) (rdR qs)) 3 1 0) (.c (show FL 4 (match 0 == 3 with | true=>.vec (ai (rdR rs) ++ Fo (fun x=>Fo Gj x) (rdR qs)) 0 5 | false=>keepX (aM 3 1 0) (.var (Gm w))) = true from rfl) (.c (show FL 4 (match 0 + 1 == 3 with | true=>.vec (ai (rdR rs) ++ Fo (fun x=>Fo Gj x) (rdR qs)) 0 5 | false=>keepX (aM 3 1 0) (.var [int 0,nq])) = true from rfl) (.c (show FL 4 (match 0 + 1 + 1 == 3 with | true=>.vec (ai (rdR rs) ++ Fo (fun x=>Fo Gj x) (rdR qs)) 0 5 | false=>keepX (aM 3 1 0) (.var [int st,ab v0])) = true from rfl) (.c (iVa 4 (rdR rs) (Fo (fun x=>Fo Gj x) (rdR qs)) 0 5) .n))))))))))))))))))))))))) (by subst v0; rfl) (by subst v0; (have hh : attBad p = false:=hc0; simp only [hwr,hh,cond_false,o6S,o6H,← qZ]; first | done | rfl)) <;> subst v0 <;> (simp only [sS,roomOk,G1,FB,decide_eq_true_eq,GB]; omega)
 ·refine zX { t:=mkT 126 0 [(1,int st),(2,int term),(3,int known),(4,.ref (.ptr 0 0)),(8,.ref (.ptr 1 0)),(11,.ref (.ptr 2 0)),(12,ab ns),(13,.ref (.vec 3 0)),(14,int i),(15,int c),(16,ab ps),(17,int (Fz Fs ((↑k : Int) + 1)))],h:=(cM w st as_ rs),m:=[] } FH [.st (.mask [1,2,3,4,8,11,12,13,14,15,16,17]),.st (.ren 3 0),.st (.trimV 4)] [.b true,.row [vi p.term,vi p.value],.row [vi p.term,vi p.value],.b true] (.c hlt (.c hr (.c (show (!decide (16 = 0)) = true from rfl) (.c hr (.c (show (!decide (16 = 0)) = true from rfl) (.c hc0 (.c (vM (rdR rs) 3 0 0) (.c (show FL 4 (match 0 == 3 with | true=>.vec (ai (rdR rs)) 0 5 | false=>keepX (aM 3 0 0) (.var (Gm w))) = true from rfl) (.c (show FL 4 (match 0 + 1 == 3 with | true=>.vec (ai (rdR rs)) 0 5 | false=>keepX (aM 3 0 0) (.var [int 0,nq])) = true from rfl) (.c (show FL 4 (match 0 + 1 + 1 == 3 with | true=>.vec (ai (rdR rs)) 0 5 | false=>keepX (aM 3 0 0) (.var [int st,ab (Fo Ft as_)])) = true from rfl) (.c (iV 4 (rdR rs) 0 5) .n))))))))))) ?_ ?_ <;> (first | rfl | (have hh : attBad p = true:=hc0; simp only [hwr,hh,cond_true]; first | done | rfl))
theorem o6_last {w : WorldT} {st term known i c : Int} {ns ps : List (List Dp)} {as_ : List AttT} {rs : List ReadT} {k : Nat} (hlt : decide ((k : Int) < (ps.length : Int)) = false) : (CW Fp Γ0 [] false (sub Iy 1) (o6S w st term known ns i c ps as_ rs k) (.exit 2) (o6Z w st term known ns i c ps as_ rs)):=by
 exact zx [.st (.mask [1,2,3,4,8,11,12,13,14])] [.b false] (.c hlt .n)
def tj (w : WorldT) (known c : Int) (s : List AttT × List ReadT) (p : PtT) : List AttT × List ReadT:=(bif attBad p then s.1 else rN s.1 (yO w known c p),bif attBad p then s.2 else s.2 ++ rdT 1 c 0 p.term)
theorem insA_len (out : List AttT) (a : AttT) : (rN out a).length = out.length + 1:=by
 have:=Cy out a
 simp [rN]; omega
theorem uS {w : WorldT} {known c : Int} {s : List AttT × List ReadT} (p : PtT) : (tj w known c s p).1.length ≤ s.1.length + 1 ∧ (tj w known c s p).2.length ≤ s.2.length + 1:=by
 unfold tj
 have:=rdT_len 1 c 0 p.term
 cases attBad p <;> simp [insA_len] <;> omega
theorem rD {w : WorldT} {n term known : Int} (h : (ac w n term known).2 = false) : (ac w n term known).1.credits = 0:=by
 unfold ac at h ⊢
 cases ht : outB term <;> rw [ht] at h <;> simp only at h ⊢
 ·unfold eJ at h ⊢
  split at h
  ·rfl
  ·simp at h
 ·rfl
theorem rd1_app (l : List ReadT) (a b c d e : Int) : ai (rdR l) ++ [[int a,int b,int c,int d,int e]] = ai (rdR (l ++ [ReadT.mk a b c d e])):=by simp [ReadT.row]
theorem o6i_c0 {w : WorldT} (hw : w.ok) (hs : ∀ x ∈ w.c,x.small) {st term known i c : Int} {ns : List (List Dp)} {ps : List PtT} (hp : ps.length ≤ 2000) {as_ : List AttT} {rs : List ReadT} (hb : rs.length ≤ 800000000) (ha : as_.length ≤ 900000) :
  CW Fp Γ0 [] false (.loop (sub Iy 1)) (o6S w st term known ns i c (ps.map G5) as_ rs 0) (.exit 2) (o6Z w st term known ns i c (ps.map G5) (ps.foldl (tj w known c) (as_,rs)).1 (ps.foldl (tj w known c) (as_,rs)).2):=by
 have hl : ad ps:=by unfold ad; omega
 have:=Ha (P:=Fp) (Γ:=Γ0) (h0:=[]) (rd:=false) (c:=sub Iy 1) (σ:=List AttT × List ReadT) (ρ:=Empty) ps (fun p s=>.inl (tj w known c s p))
  (fun k s=>o6S w st term known ns i c (ps.map G5) s.1 s.2 (k : Int)) (.exit 2) (fun s=>o6Z w st term known ns i c (ps.map G5) s.1 s.2) (fun r=>r.elim)
  (fun k s=>s.1.length ≤ as_.length + k ∧ s.2.length ≤ rs.length + k) (by simp) (fun r=>r.elim) ?_ ?_ (as_,rs) (by simp)
 ·rw [aK] at this
  exact this
 ·intro k p s hpk hs'
  have hk:=(Fy.1 hpk).1
  refine ⟨fun s' h=>by cases h; have:=uS (w:=w) (known:=known) (c:=c) (s:=s) p; omega,?_⟩
  have:=rdT_len 1 c 0 p.term
  exact o6_body (w:=w) (cc:=(ac w c p.term known).1) (b:=(ac w c p.term known).2) (qs:=rdT 1 c 0 p.term) (rowAt hpk rfl) (lt_len _ hk) (wrap_succ hk hl) (by omega) (by omega) (fun h=>rC hw hs (n:=c) h) rD
 ·intro s _
  exact o6_last (aC _ ps)
def ph (w : WorldT) (known st term : Int) (s : List AttT × List ReadT) (n : Int) : List AttT × List ReadT:=(ba 5 st n 0 term known w.f).foldl (tj w known n) (s.1,s.2 ++ [⟨5,st,n,0,term⟩])
theorem o6i_cw {w : WorldT} (hw : w.ok) (hs : ∀ x ∈ w.c,x.small) {st term known i c : Int} {ns : List (List Dp)} {ps : List PtT} (hp : ps.length ≤ 2000) {as_ : List AttT} {rs : List ReadT} (hb : rs.length ≤ 700000000) (ha : as_.length ≤ 900000) :
  CW Fp Γ0 [] false (.loop (sub Iy 1)) { t:=mkT 126 0 [(1,int st),(2,int term),(3,int known),(4,.ref (.ptr 0 0)),(8,.ref (.ptr 1 0)),(11,.ref (.ptr 2 0)),(12,ab ns),(13,.ref (.vec 3 0)),(14,int i),(15,int c),(16,ab (ps.map G5)),(17,int 0)],h:=[.var w.l,.var [int 0,aO],.var [int st,ab (as_.map Ft)],.vec (ai (rdR rs) ++ [[int 5,int st,int c,int 0,int term]]) 0 5],m:=[] } (.exit 2) (o6Z w st term known ns i c (ps.map G5) (ps.foldl (tj w known c) (as_,rs ++ [⟨5,st,c,0,term⟩])).1 (ps.foldl (tj w known c) (as_,rs ++ [⟨5,st,c,0,term⟩])).2):=by
 rw [rd1_app]
 exact o6i_c0 hw hs hp (by simp; omega) ha
noncomputable abbrev gO (w : WorldT) (st : Int) (as_ : List AttT) (rs : List ReadT) : List Blk:=[.var [ab (Fo FE w.c),ab w.p,ab (Fo FF w.s),ab (Fo FC w.f)],.var [int 0,nq],.var [int st,ab (Fo Ft as_)],.vec (ai (rdR rs)) 0 5]
theorem BT {w : WorldT} (hw : w.ok) (hs : ∀ x ∈ w.c,x.small) {st term known n : Int} {ns : List (List Dp)} {as_ : List AttT} {rs : List ReadT} {i : Nat} (hr : ah (i : Int) ns [vi n] 1) (hlt : decide ((i : Int) < (ns.length : Int)) = true) (hwr : Fs.wrap ((i : Int) + 1) = ((i + 1 : Nat) : Int)) (hb : rs.length ≤ 700000000) (ha : as_.length ≤ 900000) (hp : (ba 5 st n 0 term known w.f).length ≤ 2000) : (CW Fp Γ0 [] false (sub Iy 0) (o6O w st term known ns as_ rs i) .normal (o6O w st term known ns (ph w known st term (as_,rs) n).1 (ph w known st term (as_,rs) n).2 ((i + 1 : Nat) : Int))):=by
 have hl0:=(@o6i_cw (w) (hw) (hs) (st) (term) (known) ((↑i : Int)) (n) (ns) (ba 5 st n 0 term known w.f) (hp) (as_) (rs) (hb) (ha))
 let v0:=Gx (tj w known n) (as_,rs ++ [{ kind:=5,sub:=st,obj:=n,frm:=0,til:=term }]) (ba 5 st n 0 term known w.f)
 let v1 : List D:=[int 5,int st,int n,int 0,int term]
 refine zX { t:=mkT 126 0 [(1,int st),(2,int term),(3,int known),(4,.ref (.ptr 0 0)),(8,.ref (.ptr 1 0)),(11,.ref (.ptr 2 0)),(12,ab ns),(13,.ref (.vec 3 0)),(14,int (Fz Fs ((↑i : Int) + 1)))],h:=[.var [ab (Fo FE w.c),ab w.p,ab (Fo FF w.s),ab (Fo FC w.f)],.var [int 0,nq],.var [int st,ab (Fo Ft v0.fst)],.vec (ai (rdR v0.snd)) 0 5],m:=[] } FH [.st (.mask [1,2,3,4,8,11,12,13,14])] [.b true,.row [vi n],.val (FU [int 5,int st,int n]),.val (ab (Fo G5 (ba 5 st n 0 term known w.f))),.val (FU [int 5,int st,int n]),.nx 1,.st (.mask [1,2,3,4,8,11,12,13,14,15,16,17]),.st (.ren 3 0),.st (.trimV 4),.sum [1,2,3,4,8,11,12,13,14,15,16,17] (Gf 2) { t:=mkT 126 0 [(1,int st),(2,int term),(3,int known),(4,.ref (.ptr 0 0)),(8,.ref (.ptr 1 0)),(11,.ref (.ptr 2 0)),(12,ab ns),(13,.ref (.vec 3 0)),(14,int (↑i : Int))],h:=[.var (Gm w),.var [int 0,nq],.var [int st,ab (Fo Ft v0.fst)],.vec (ai (rdR v0.snd)) 0 5],m:=[] }] (.c hlt (.c hr (.c (@ul st n (gO w st as_ rs)) (.c (@wl 5 st n 0 term known (w.f) ?_ (gO w st as_ rs)) (.c (@ul st n (gO w st as_ rs)) (.c (show (FN [v1] (aG 5) && roomOk (Fu (ai (rdR rs)) + Fu [v1]) 40) = true from ?_) (.c (vMa (rdR rs) [v1] 3 1 0) (.er [v1] (.c (show FL 4 (match 0 == 3 with | true=>.vec (ai (rdR rs) ++ [v1]) 0 5 | false=>keepX (aM 3 1 0) (.var (Gm w))) = true from rfl) (.c (show FL 4 (match 0 + 1 == 3 with | true=>.vec (ai (rdR rs) ++ [v1]) 0 5 | false=>keepX (aM 3 1 0) (.var [int 0,nq])) = true from rfl) (.c (show FL 4 (match 0 + 1 + 1 == 3 with | true=>.vec (ai (rdR rs) ++ [v1]) 0 5 | false=>keepX (aM 3 1 0) (.var [int st,ab (Fo Ft as_)])) = true from rfl) (.c (iVa 4 (rdR rs) [v1] 0 5) (.c hl0 .n))))))))))))) (by subst v0 v1; rfl) (by subst v0 v1; (simp only [hwr]; rfl)) <;> subst v0 v1 <;> (first | exact hw.sf | (simp [aG,D.one,HU,roomOk]; omega))
theorem BU {w : WorldT} {st term known : Int} {ns : List (List Dp)} {as_ : List AttT} {rs : List ReadT} {i : Nat} (hlt : decide ((i : Int) < (ns.length : Int)) = false) : (CW Fp Γ0 [] false (sub Iy 0) (o6O w st term known ns as_ rs i) (.exit 0) { t:=mkT 126 0 [(8,.ref (.ptr 1 0)),(11,.ref (.ptr 2 0)),(13,.ref (.vec 3 0))],h:=o6H w st as_ rs,m:=[] }):=by
 exact zx [.st (.mask [8,11,13])] [.b false] (.c hlt .n)
theorem nO {w : WorldT} {known n : Int} : ∀ (ps : List PtT) (s : List AttT × List ReadT),(ps.foldl (tj w known n) s).1.length ≤ s.1.length + ps.length ∧ (ps.foldl (tj w known n) s).2.length ≤ s.2.length + ps.length
 | [],s=>by simp
 | p :: ps,s=>by
  have h1:=uS (w:=w) (known:=known) (c:=n) (s:=s) p
  have h2:=nO (w:=w) (known:=known) (n:=n) ps (tj w known n s p)
  simp only [GP,GF]
  omega
theorem zW {w : WorldT} {known st term : Int} (s : List AttT × List ReadT) (n : Int) : (ph w known st term s n).1.length ≤ s.1.length + 1024 ∧ (ph w known st term s n).2.length ≤ s.2.length + 1025:=by
 unfold ph
 have h1:=nO (w:=w) (known:=known) (n:=n) (ba 5 st n 0 term known w.f) (s.1,s.2 ++ [⟨5,st,n,0,term⟩])
 have h2:=bN (kk:=5) (ks:=st) (ko:=n) (frm:=0) (to:=term) (known:=known) (l:=w.f)
 simp only [List.length_append,GF,Hf] at h1
 omega
abbrev o6R (w : WorldT) (known st term : Int) : List AttT × List ReadT:=(aj w.f known).foldl (ph w known st term) ([],[rdN])
theorem o6_cw {w : WorldT} (hw : w.ok) (hs : ∀ x ∈ w.c,x.small) {st term known : Int} (hn : (aj w.f known).length ≤ 500) :
  CW Fp Γ0 [] false (.loop (sub Iy 0)) (o6O w st term known (bA (aj w.f known)) [] [rdN] 0) (.exit 0) { t:=mkT 126 0 [(8,.ref (.ptr 1 0)),(11,.ref (.ptr 2 0)),(13,.ref (.vec 3 0))],h:=o6H w st (o6R w known st term).1 (o6R w known st term).2,m:=[] }:=by
 have hl : ad (aj w.f known):=by unfold ad; omega
 have:=Ha (P:=Fp) (Γ:=Γ0) (h0:=[]) (rd:=false) (c:=sub Iy 0) (σ:=List AttT × List ReadT) (ρ:=Empty) (aj w.f known) (fun n s=>.inl (ph w known st term s n))
  (fun i s=>o6O w st term known (bA (aj w.f known)) s.1 s.2 (i : Int)) (.exit 0) (fun s=>{ t:=mkT 126 0 [(8,.ref (.ptr 1 0)),(11,.ref (.ptr 2 0)),(13,.ref (.vec 3 0))],h:=o6H w st s.1 s.2,m:=[] }) (fun r=>r.elim)
  (fun i s=>s.1.length ≤ i * 1024 ∧ s.2.length ≤ 1 + i * 1025) (by simp) (fun r=>r.elim) ?_ ?_ ([],[rdN]) (by simp)
 ·rw [aK] at this
  exact this
 ·intro i n s hni hs'
  have hi:=(Fy.1 hni).1
  refine ⟨fun s' h=>by cases h; have:=zW (w:=w) (known:=known) (st:=st) (term:=term) s n; omega,?_⟩
  exact BT hw hs (rowAt (row:=fun n=>[vi n]) hni rfl) (lt_len (fun n=>[vi n]) hi) (wrap_succ hi hl) (by omega) (by omega) (Nat.le_trans bN (by omega))
 ·intro s _
  exact BU (aC (fun n=>[vi n]) _)
theorem rE (w : WorldT) (known n : Int) : ∀ (ps : List PtT) (s : List AttT × List ReadT),ps.foldl (tj w known n) s = ((ps.filterMap (Ct w known n)).foldl rN s.1,s.2 ++ ps.flatMap (rdO n))
 | [],s=>by simp
 | p :: ps,s=>by
  rw [GP,rE w known n ps,List.filterMap_cons,List.flatMap_cons]
  unfold tj Ct rdO
  cases attBad p <;> simp
theorem o6R_eq {w : WorldT} {known st term : Int} : o6R w known st term = (vT w known st term,fg w known st term):=by
 have key : ∀ (ns : List Int) (s : List AttT × List ReadT),ns.foldl (ph w known st term) s = ((ns.flatMap (fV w known st term)).foldl rN s.1,s.2 ++ ns.flatMap (eu w known st term)):=by
  intro ns
  induction ns with
  | nil=>intro s; simp
  | cons n ns ih =>
   intro s
   rw [GP,ih]
   unfold ph
   rw [rE]
   simp [eu,fV,List.foldl_append]
 unfold o6R
 rw [key]
 have:=BP (w:=w) (known:=known) (st:=st) (term:=term)
 unfold dL at this
 rw [this]
 simp [fg]
noncomputable abbrev lZ (w : WorldT) : List Blk:=[.var [ab (Fo FE w.c),ab w.p,ab (Fo FF w.s),ab (Fo FC w.f)],.var [int 0,nq]]
theorem BW {w : WorldT} {st term known : Int} (hb : (!(decide (st ≥ 0) && decide (st ≤ 19999)) || !(decide (term ≥ 0) && decide (term ≤ 1024))) = true) (h : List Blk) : (Ev Fp Γ0 26 [.agg w.l,int st,int term,int known] h (.tup [.agg [int 0,ab []],ab [],int 150]) h):=by
 exact FP (GK (z0 (d:=FM [FU [int 0,nq],nq,int 150]) [.val (bool (decide (st ≥ 0) && decide (st ≤ 19999))),.val (bool (decide (term ≥ 0) && decide (term ≤ 1024))),.b true] (.c (@gA st 0 19999 (lZ w)) (.c (gd (!!(decide (st ≥ 0) && decide (st ≤ 19999))) (@gA term 0 1024 (lZ w))) (.c hb .n))) h)) (by rfl) (by rfl)
noncomputable abbrev nP (w : WorldT) (st : Int) : List Blk:=[.var [ab (Fo FE w.c),ab w.p,ab (Fo FF w.s),ab (Fo FC w.f)],.var [int 0,nq],.var [int st,nq],.vec [[int rdN.kind,int rdN.sub,int rdN.obj,int rdN.frm,int rdN.til]] 0 5]
noncomputable abbrev nQ (w : WorldT) : List Blk:=[.var [ab (Fo FE w.c),ab w.p,ab (Fo FF w.s),ab (Fo FC w.f)],.var [int 0,nq]]
theorem of26_ok {w : WorldT} (hw : w.ok) (hs : ∀ x ∈ w.c,x.small) {st term known : Int} (hn : (aj w.f known).length ≤ 500) (hb : (!(decide (st ≥ 0) && decide (st ≤ 19999)) || !(decide (term ≥ 0) && decide (term ≤ 1024))) = false) (h : List Blk) : (Ev Fp Γ0 26 [.agg w.l,int st,int term,int known] h (.tup [.agg [int st,ab ((o6R w known st term).1.map Ft)],ab (rdR (o6R w known st term).2),int 0]) h):=by
 have hl0:=(@o6_cw (w) (hw) (hs) (st) (term) (known) (hn))
 let v0 : List D:=[int rdN.kind,int rdN.sub,int rdN.obj,int rdN.frm,int rdN.til]
 let v1 : List D:=[ab (bA (aj w.f known)),.ref (.vec 3 0)]
 let v2 : List D:=[int st,ab (Fo Ft (o6R w known st term).fst)]
 refine FP (GK (z0 (d:=FM [FU v2,ab (rdR (o6R w known st term).snd),int 0]) [.val (bool (decide (st ≥ 0) && decide (st ≤ 19999))),.val (bool (decide (term ≥ 0) && decide (term ≤ 1024))),.b false,.call (FM v1) (nP w st),.nx 1,.st (.mask [1,2,3,4,8,11,12,13,14]),.st (.nilC 2 1 5),.st (.frz 4 []),.st (.trimV 4),.sum [1,2,3,4,8,11,12,13,14] (Gf 0) { t:=mkT 126 0 [(8,.ref (.ptr 1 0)),(11,.ref (.ptr 2 0)),(13,.ref (.vec 3 0))],h:=[.var (Gm w),.var [int 0,nq],.var v2,.vec (ai (rdR (o6R w known st term).snd)) 0 5],m:=[] },.st (.frz 3 (rdR (o6R w known st term).snd))] (.c (@gA st 0 19999 (nQ w)) (.c (gd (!!(decide (st ≥ 0) && decide (st ≤ 19999))) (@gA term 0 1024 (nQ w))) (.c hb (.c (@rB w ?_ known ([.var (Gm w),.var [int 0,nq],.var [int st,nq]])) (.c (show ([] : List (List D)) = [] from rfl) (.er [v0] (.c (show FL 4 (match 0 == 4 with | true=>.gone | false=>keepX (gf 4 0 []) (.var (Gm w))) = true from rfl) (.c (show FL 4 (match 0 + 1 == 4 with | true=>.gone | false=>keepX (gf 4 0 []) (.var [int 0,nq])) = true from rfl) (.c (show FL 4 (match 0 + 1 + 1 == 4 with | true=>.gone | false=>keepX (gf 4 0 []) (.var (List.set [int st,nq] 1 (.ref (.vec (Fu (mg [1,2,3,4,8,11,12,13,14] { t:=mkT 126 0 [(0,FU (Gm w)),(1,int st),(2,int term),(3,int known),(4,.ref (.ptr 0 0)),(8,.ref (.ptr 1 0)),(9,nq),(10,int 0),(11,.ref (.ptr 2 0)),(12,ab (bA (aj w.f known))),(13,.ref (.vec 3 0)),(14,int 0),(24,int st),(25,bool (decide (st ≥ 0) && decide (st ≤ 19999))),(26,bool !(decide (st ≥ 0) && decide (st ≤ 19999))),(27,bool !(decide (st ≥ 0) && decide (st ≤ 19999))),(28,D.grd (!!(decide (st ≥ 0) && decide (st ≤ 19999))) (int term)),(29,D.grd (!!(decide (st ≥ 0) && decide (st ≤ 19999))) (bool (decide (term ≥ 0) && decide (term ≤ 1024)))),(30,D.grd (!!(decide (st ≥ 0) && decide (st ≤ 19999))) (bool !(decide (term ≥ 0) && decide (term ≤ 1024)))),(31,bool (!(decide (st ≥ 0) && decide (st ≤ 19999)) || !(decide (term ≥ 0) && decide (term ≤ 1024)))),(33,int st),(34,FU [int st,nq]),(35,FM v1),(36,FU (Gm w)),(37,int known),(38,FM v1),(39,ab (bA (aj w.f known))),(40,.ref (.vec 3 0))],h:=(nP w st) }).h) 0))))) = true from rfl) (.c (show FL 4 (match 0 + 1 + 1 + 1 == 4 with | true=>.gone | false=>keepX (gf 4 0 []) (.vec [v0] 0 5)) = true from rfl) (.c hl0 (.c (show ai (rdR (o6R w known st term).snd) = Fo (fun x=>Fo Gj x) (rdR (o6R w known st term).snd) from ?_) .n)))))))))))) h)) (by rfl) (by rfl) <;> subst v0 v1 v2 <;> (first | rfl | exact hw.lf)
theorem of26_ev {w : WorldT} (hw : w.ok) (hs : ∀ x ∈ w.c,x.small) {st term known : Int} (hn : (aj w.f known).length ≤ 500) (h : List Blk) : Ev Fp Γ0 26 [.agg w.l,int st,int term,int known] h (.tup [.agg (ew w st term known).1.l,ab (rdR (ew w st term known).2.1),int (ew w st term known).2.2]) h:=by
 unfold ew
 cases hb : yU st term
 ·have:=of26_ok hw hs (st:=st) (term:=term) (known:=known) hn hb h
  rw [o6R_eq] at this
  exact this
 ·exact BW hb h
theorem new5_ev {n d : Int} (hn : I64 n) (hd : I64 d) (h : List Blk) : (Ev Fp Γ0 132 [int n,int d] h (.tup [.agg [int (gS n d).1,int (gS n d).2.1],int (gS n d).2.2]) h):=by
 cases hc0 : d == 0
 ·cases hc1 : decide (Fz G3 (Hj (↑(FJ n) : Int) (↑(Gr (FJ d) (FJ n)) : Int)) > 1073741824) || decide (Fz G3 (Hj (↑(FJ d) : Int) (↑(Gr (FJ d) (FJ n)) : Int)) > 1073741824)
  ·cases hc2 : !decide (n < 0) == decide (d < 0)
   ·refine zD (FM [FU [int (Fz Fs (Fz G3 (Hj (↑(FJ n) : Int) (↑(Gr (FJ d) (FJ n)) : Int)))),int (Fz Fs (Fz G3 (Hj (↑(FJ d) : Int) (↑(Gr (FJ d) (FJ n)) : Int))))],int 0]) [.b false,.val (u64 (↑(FJ n) : Int)),.val (u64 (↑(FJ d) : Int)),.val (u64 (↑(Gr (FJ d) (FJ n)) : Int)),.val (u64 (↑(FJ n) : Int)),.val (u64 (↑(FJ d) : Int)),.b false,.b false] (.c hc0 (.c (@aS n hn ([.var [int 0,int 0]])) (.c (@aS d hd ([.var [int 0,int 0]])) (.c (@dU (FJ n) (FJ d) ([.var [int 0,int 0]])) (.c (@aS n hn ([.var [int 0,int 0]])) (.c (show (!decide ((↑(Gr (FJ d) (FJ n)) : Int) = 0)) = true from ?_) (.c (@aS d hd ([.var [int 0,int 0]])) (.c (show (!decide ((↑(Gr (FJ d) (FJ n)) : Int) = 0)) = true from ?_) (.c hc1 (.c hc2 .n)))))))))) h (by (have z0 : (d == 0) = false:=hc0; have z1 : s6 n d = false:=hc1; have z2 : nwSg n d = false:=hc2; simp only [gS,z0,z1,z2]; first | done | rfl)) <;> (simp_all; done)
   ·refine zD (FM [FU [int (Fz Fs (0 - Fz Fs (Fz G3 (Hj (↑(FJ n) : Int) (↑(Gr (FJ d) (FJ n)) : Int))))),int (Fz Fs (Fz G3 (Hj (↑(FJ d) : Int) (↑(Gr (FJ d) (FJ n)) : Int))))],int 0]) [.b false,.val (u64 (↑(FJ n) : Int)),.val (u64 (↑(FJ d) : Int)),.val (u64 (↑(Gr (FJ d) (FJ n)) : Int)),.val (u64 (↑(FJ n) : Int)),.val (u64 (↑(FJ d) : Int)),.b false,.b true] (.c hc0 (.c (@aS n hn ([.var [int 0,int 0]])) (.c (@aS d hd ([.var [int 0,int 0]])) (.c (@dU (FJ n) (FJ d) ([.var [int 0,int 0]])) (.c (@aS n hn ([.var [int 0,int 0]])) (.c (show (!decide ((↑(Gr (FJ d) (FJ n)) : Int) = 0)) = true from ?_) (.c (@aS d hd ([.var [int 0,int 0]])) (.c (show (!decide ((↑(Gr (FJ d) (FJ n)) : Int) = 0)) = true from ?_) (.c hc1 (.c hc2 .n)))))))))) h (by (have z0 : (d == 0) = false:=hc0; have z1 : s6 n d = false:=hc1; have z2 : nwSg n d = true:=hc2; simp only [gS,z0,z1,z2]; first | done | rfl)) <;> (simp_all; done)
  ·refine zD (FM [FU [int 0,int 0],int 2]) [.b false,.val (u64 (↑(FJ n) : Int)),.val (u64 (↑(FJ d) : Int)),.val (u64 (↑(Gr (FJ d) (FJ n)) : Int)),.val (u64 (↑(FJ n) : Int)),.val (u64 (↑(FJ d) : Int)),.b true] (.c hc0 (.c (@aS n hn ([.var [int 0,int 0]])) (.c (@aS d hd ([.var [int 0,int 0]])) (.c (@dU (FJ n) (FJ d) ([.var [int 0,int 0]])) (.c (@aS n hn ([.var [int 0,int 0]])) (.c (show (!decide ((↑(Gr (FJ d) (FJ n)) : Int) = 0)) = true from ?_) (.c (@aS d hd ([.var [int 0,int 0]])) (.c (show (!decide ((↑(Gr (FJ d) (FJ n)) : Int) = 0)) = true from ?_) (.c hc1 .n))))))))) h (by (have z0 : (d == 0) = false:=hc0; have z1 : s6 n d = true:=hc1; simp only [gS,z0,z1]; first | done | rfl)) <;> (simp_all; done)
 ·exact zD (FM [FU [int 0,int 0],int 1]) [.b true] (.c hc0 .n) h (by (have z0 : (d == 0) = true:=hc0; simp only [gS,z0]; first | done | rfl))
theorem chk15 {l : List AttT} (hs : ad l) (h : List Blk) : Ev Fp Γ0 130 [ab (l.map Ft)] h (int (bP l)) h:=by rw [← uO]; exact nI hs h
abbrev s5S (l : List (List Dp)) (c p i : Int) : AS:={ t:=mkT 42 0 [(0,ab l),(6,int c),(7,int p),(8,int i)],h:=[],m:=[] }
theorem s5_body {l : List (List Dp)} {a : AttT} {c p : Int} {i : Nat} (hr : ah (i : Int) l a.row 5) (hlt : decide ((i : Int) < (l.length : Int)) = true) (hw : Fs.wrap ((i : Int) + 1) = ((i + 1 : Nat) : Int)) : (CW Fp Γ0 [] false (sub Kw 0) (s5S l c p i) .normal (s5S l (suF (c,p) a).1 (suF (c,p) a).2 ((i + 1 : Nat) : Int))):=by
 refine zX { t:=mkT 42 0 [(0,ab l),(6,int (Fz Fs (c + a.credits))),(7,int (Fz Fs (p + Fz Fs (a.grade * a.credits)))),(8,int (Fz Fs ((↑i : Int) + 1)))],h:=[],m:=[] } FH [.st (.mask [0,6,7,8])] [.b true,.row (Ft a),.row (Ft a),.row (Ft a)] (.c hlt (.c hr (.c hr (.c hr .n)))) ?_ ?_ <;> (first | rfl | (rw [hw]; rfl))
theorem s5_last {l : List (List Dp)} {c p : Int} {i : Nat} (hlt : decide ((i : Int) < (l.length : Int)) = false) : (CW Fp Γ0 [] false (sub Kw 0) (s5S l c p i) (.exit 0) { t:=mkT 42 0 [(6,int c),(7,int p)],h:=[],m:=[] }):=by
 exact zx [.st (.mask [6,7])] [.b false] (.c hlt .n)
theorem s5_cw {l : List AttT} (hl : ad l) : CW Fp Γ0 [] false (.loop (sub Kw 0)) (s5S (l.map Ft) 0 0 0) (.exit 0) { t:=mkT 42 0 [(6,int (l.foldl suF (0,0)).1),(7,int (l.foldl suF (0,0)).2)],h:=[],m:=[] }:=by
 have:=Ha (P:=Fp) (Γ:=Γ0) (h0:=[]) (rd:=false) (c:=sub Kw 0) (σ:=Int × Int) (ρ:=Empty) l (fun a s=>.inl (suF s a))
  (fun i s=>s5S (l.map Ft) s.1 s.2 (i : Int)) (.exit 0) (fun s=>{ t:=mkT 42 0 [(6,int s.1),(7,int s.2)],h:=[],m:=[] }) (fun r=>r.elim) (fun _ _=>True) (by simp) (fun r=>r.elim) ?_ ?_ (0,0) trivial
 ·rw [aK] at this
  exact this
 ·intro i a s ha _
  have hi:=(Fy.1 ha).1
  exact ⟨fun _ _=>trivial,s5_body (rowAt ha rfl) (lt_len _ hi) (wrap_succ hi hl)⟩
 ·intro s _
  exact s5_last (aC _ l)
theorem sums5_a {l : List AttT} (hl : ad l) (hck : ∀ h,Ev Fp Γ0 130 [ab (l.map Ft)] h (int (bP l)) h) (h : List Blk) : (Ev Fp Γ0 131 [ab (l.map Ft)] h (.tup [int (gq l).1,int (gq l).2.1,int (gq l).2.2]) h):=by
 cases hc0 : bP l != 0
 ·have hl1:=(@s5_cw (l) (hl))
  exact zD (FM [int (Gx suF (0,0) l).fst,int (Gx suF (0,0) l).snd,int 0]) [.val (int (bP l)),.b false,.sum [0,6,7,8] (Gf 0) { t:=mkT 42 0 [(6,int (Gx suF (0,0) l).fst),(7,int (Gx suF (0,0) l).snd)],h:=[],m:=[] }] (.c (@hck ([])) (.c hc0 (.c hl1 .n))) h (by simp only [gq,hc0]; done)
 ·exact zD (FM [int 0,int 0,int (bP l)]) [.val (int (bP l)),.b true] (.c (@hck ([])) (.c hc0 .n)) h (by simp only [gq,hc0]; done)
theorem ge1 (g : Int) : decide (g > 0) = decide (g ≥ 1):=by rw [Bool.eq_iff_iff]; simp; omega
abbrev e5S (l : List (List Dp)) (n i : Int) : AS:={ t:=mkT 32 0 [(0,ab l),(5,int n),(6,int i)],h:=[],m:=[] }
theorem e5_body {l : List (List Dp)} {a : AttT} {n : Int} {i : Nat} (hr : ah (i : Int) l a.row 5) (hlt : decide ((i : Int) < (l.length : Int)) = true) (hw : Fs.wrap ((i : Int) + 1) = ((i + 1 : Nat) : Int)) : (CW Fp Γ0 [] false (sub Li 0) (e5S l n i) .normal (e5S l (eaF n a) ((i + 1 : Nat) : Int))):=by
 cases hc0 : decide (a.grade ≥ 1)
 ·refine zX { t:=mkT 32 0 [(0,ab l),(5,int n),(6,int (Fz Fs ((↑i : Int) + 1)))],h:=[],m:=[] } FH [.st (.mask [0,5,6])] [.b true,.row (Ft a),.b false] (.c hlt (.c hr (.c hc0 .n))) ?_ ?_ <;> (first | rfl | (simp only [hw,eaF,eaG,ge1,hc0]; first | done | rfl))
 ·refine zX { t:=mkT 32 0 [(0,ab l),(5,int (Fz Fs (n + a.credits))),(6,int (Fz Fs ((↑i : Int) + 1)))],h:=[],m:=[] } FH [.st (.mask [0,5,6])] [.b true,.row (Ft a),.b true,.row (Ft a)] (.c hlt (.c hr (.c hc0 (.c hr .n)))) ?_ ?_ <;> (first | rfl | (simp only [hw,eaF,eaG,ge1,hc0]; first | done | rfl))
theorem e5_last {l : List (List Dp)} {n : Int} {i : Nat} (hlt : decide ((i : Int) < (l.length : Int)) = false) : (CW Fp Γ0 [] false (sub Li 0) (e5S l n i) (.exit 0) { t:=mkT 32 0 [(5,int n)],h:=[],m:=[] }):=by
 exact zx [.st (.mask [5])] [.b false] (.c hlt .n)
theorem e5_cw {l : List AttT} (hl : ad l) : CW Fp Γ0 [] false (.loop (sub Li 0)) (e5S (l.map Ft) 0 0) (.exit 0) { t:=mkT 32 0 [(5,int (l.foldl eaF 0))],h:=[],m:=[] }:=by
 have:=Ha (P:=Fp) (Γ:=Γ0) (h0:=[]) (rd:=false) (c:=sub Li 0) (σ:=Int) (ρ:=Empty) l (fun a s=>.inl (eaF s a))
  (fun i s=>e5S (l.map Ft) s (i : Int)) (.exit 0) (fun s=>{ t:=mkT 32 0 [(5,int s)],h:=[],m:=[] }) (fun r=>r.elim) (fun _ _=>True) (by simp) (fun r=>r.elim) ?_ ?_ 0 trivial
 ·rw [aK] at this
  exact this
 ·intro i a s ha _
  have hi:=(Fy.1 ha).1
  exact ⟨fun _ _=>trivial,e5_body (rowAt ha rfl) (lt_len _ hi) (wrap_succ hi hl)⟩
 ·intro s _
  exact e5_last (aC _ l)
theorem earn5_a {l : List AttT} (hl : ad l) (hck : ∀ h,Ev Fp Γ0 130 [ab (l.map Ft)] h (int (bP l)) h) (h : List Blk) : (Ev Fp Γ0 72 [ab (l.map Ft)] h (.tup [int (gM l).1,int (gM l).2]) h):=by
 cases hc0 : bP l != 0
 ·have hl1:=(@e5_cw (l) (hl))
  exact zD (FM [int (Gx eaF 0 l),int 0]) [.val (int (bP l)),.b false,.sum [0,5,6] (Gf 0) { t:=mkT 32 0 [(5,int (Gx eaF 0 l))],h:=[],m:=[] }] (.c (@hck ([])) (.c hc0 (.c hl1 .n))) h (by simp only [gM,hc0]; done)
 ·exact zD (FM [int 0,int (bP l)]) [.val (int (bP l)),.b true] (.c (@hck ([])) (.c hc0 .n)) h (by simp only [gM,hc0]; done)
theorem BX {l : List AttT} (hl : ad l) (h : List Blk) : Ev Fp Γ0 72 [ab (l.map Ft)] h (.tup [int (gM l).1,int (gM l).2]) h:=earn5_a hl (fun h=>chk15 hl h) h
theorem mean5_a {l : List AttT} {c p e : Int} (hc : I64 c) (hp : I64 p) (hs : ∀ h,Ev Fp Γ0 131 [ab (l.map Ft)] h (.tup [int c,int p,int e]) h) (h : List Blk) : (Ev Fp Γ0 73 [ab (l.map Ft)] h (.tup [.agg [int (iM c p e).1,int (iM c p e).2.1],int (iM c p e).2.2]) h):=by
 cases hc0 : e != 0
 ·cases hc1 : c == 0
  ·exact zD (FM [FU [int (gS p c).fst,int (gS p c).snd.fst],int (gS p c).snd.snd]) [.val (FM [int c,int p,int e]),.b false,.b false,.val (FM [FU [int (gS p c).fst,int (gS p c).snd.fst],int (gS p c).snd.snd])] (.c (@hs ([.var [int 0,int 0]])) (.c hc0 (.c hc1 (.c (@new5_ev p c hp hc ([.var [int 0,int 0]])) .n)))) h (by simp only [iM,hc0,hc1]; done)
  ·exact zD (FM [FU [int 0,int 1],int 0]) [.val (FM [int c,int p,int e]),.b false,.b true] (.c (@hs ([.var [int 0,int 0]])) (.c hc0 (.c hc1 .n))) h (by simp only [iM,hc0,hc1]; done)
 ·exact zD (FM [FU [int 0,int 0],int e]) [.val (FM [int c,int p,int e]),.b true] (.c (@hs ([.var [int 0,int 0]])) (.c hc0 .n)) h (by simp only [iM,hc0]; done)
theorem BZ {l : List AttT} (hl : ad l) (h : List Blk) : Ev Fp Γ0 73 [ab (l.map Ft)] h (.tup [.agg [int (fZ l).1,int (fZ l).2.1],int (fZ l).2.2]) h :=
 mean5_a (iL l).1 (iL l).2 (fun h=>sums5_a hl (fun h=>chk15 hl h) h) h
theorem check31 {r : RecT} (hl : ad r.a) (h : List Blk) : Ev Fp Γ0 31 [.agg r.l] h (int (aL r)) h:=by rw [← wa]; exact vY hl h
theorem cnt112 {l : List AttT} (hl : l.length ≤ 900000000) {rp : List Int} (hlen : rp.length = l.length) (h : List Blk) : Ev Fp Γ0 112 [ab (l.map Ft),ab (rp.map fun n=>[vi n])] h (.tup [ab ((lT l rp).1.map Ft),int (lT l rp).2]) h:=by
 have hs : ad l:=by unfold ad; omega
 rw [← BL hlen]
 exact cnt15_a hl hs hlen (fun h=>by rw [← uO]; exact nI hs h) h
noncomputable abbrev b9 (w : WorldT) (r : RecT) : List Blk:=[.var [ab (Fo FE w.c),ab w.p,ab (Fo FF w.s),ab (Fo FC w.f)],.var [int r.st,ab (Fo Ft r.a)]]
theorem cnt57_a {w : WorldT} (hw : w.ok) (hs : ∀ x ∈ w.c,x.small) {r : RecT} (hr : r.a.length ≤ 90000000) {term known e : Int} {L : List AttT} (hck : ∀ h,Ev Fp Γ0 31 [.agg r.l] h (int (aL r)) h)
 (hc : ∀ h,Ev Fp Γ0 112 [ab (r.a.map Ft),ab ((da w known term r.a).map fun n=>[vi n])] h (.tup [ab (L.map Ft),int e]) h) (h : List Blk) : (Ev Fp Γ0 57 [.agg w.l,.agg r.l,int term,int known] h (.tup [ab ((rcX (iI r term) e L (du term r.a)).1.map Ft),ab (rdR (rcX (iI r term) e L (du term r.a)).2.1),int (rcX (iI r term) e L (du term r.a)).2.2]) h):=by
 cases hc0 : aL r != 0 || !(decide (term ≥ 0) && decide (term ≤ 1023))
 ·have hl1:=(@c57_cw (w) (hw) (hs) (r) (hr) (term) (known))
  cases hc2 : e != 0
  ·refine FP (GK (z0 (d:=FM [ab (Fo Ft L),ab (rdR (du term r.a)),int 0]) [.val (int (aL r)),.val (bool (decide (term ≥ 0) && decide (term ≤ 1023))),.b false,.nx 3,.st (.nilT 11 1),.st (.nilT 12 5),.sum [2,3,4,5,11,12,13] (Gf 0) { t:=mkT 71 0 [(5,.ref (.ptr 1 0)),(11,.ref (.vec 2 0)),(12,.ref (.vec 3 0))],h:=[.var (Gm w),.var [int r.st,ab (Fo Ft r.a)],.vec (cvV (da w known term r.a)) 0 1,.vec (ai (rdR (du term r.a))) 0 5],m:=[] },.st (.mask [5,11,12]),.st (.frz 3 (rdR (du term r.a))),.st (.frz 2 (Fo (fun n=>[vi n]) (da w known term r.a))),.st (.trimV 2),.val (FM [ab (Fo Ft L),int e]),.b false] (.c (@hck (b9 w r)) (.c (gd (!aL r != 0) (@gA term 0 1023 (b9 w r))) (.c hc0 (.c hl1 (.c (show ai (rdR (du term r.a)) = Fo (fun x=>Fo Gj x) (rdR (du term r.a)) from ?_) (.c (show Fo (GA (gf 3 0 (rdR (du term r.a)))) (cvV (da w known term r.a)) = cvV (da w known term r.a) from ?_) (.c (show cvV (da w known term r.a) = Fo (fun x=>Fo Gj x) (Fo (fun n=>[vi n]) (da w known term r.a)) from ?_) (.c (show FL 2 (match 0 == 2 with | true=>.gone | false=>keepX (gf 2 0 (Fo (fun n=>[vi n]) (da w known term r.a))) (match 0 == 3 with | true=>.gone | false=>keepX (gf 3 0 (rdR (du term r.a))) (.var (Gm w)))) = true from rfl) (.c (show FL 2 (match 0 + 1 == 2 with | true=>.gone | false=>keepX (gf 2 0 (Fo (fun n=>[vi n]) (da w known term r.a))) (match 0 + 1 == 3 with | true=>.gone | false=>keepX (gf 3 0 (rdR (du term r.a))) (.var [int r.st,ab (Fo Ft r.a)]))) = true from rfl) (.c (@hc (b9 w r)) (.c hc2 .n))))))))))) h)) (by (have hh : iI r term = false:=hc0; have h2 : (e != 0) = false:=hc2; simp only [rcX,hh,h2]; rfl)) (by rfl) <;> (first | rfl | exact bl _ _)
  ·refine FP (GK (z0 (d:=FM [nq,nq,int e]) [.val (int (aL r)),.val (bool (decide (term ≥ 0) && decide (term ≤ 1023))),.b false,.nx 3,.st (.nilT 11 1),.st (.nilT 12 5),.sum [2,3,4,5,11,12,13] (Gf 0) { t:=mkT 71 0 [(5,.ref (.ptr 1 0)),(11,.ref (.vec 2 0)),(12,.ref (.vec 3 0))],h:=[.var (Gm w),.var [int r.st,ab (Fo Ft r.a)],.vec (cvV (da w known term r.a)) 0 1,.vec (ai (rdR (du term r.a))) 0 5],m:=[] },.st (.mask [5,11,12]),.st (.frz 3 (rdR (du term r.a))),.st (.frz 2 (Fo (fun n=>[vi n]) (da w known term r.a))),.st (.trimV 2),.val (FM [ab (Fo Ft L),int e]),.b true] (.c (@hck (b9 w r)) (.c (gd (!aL r != 0) (@gA term 0 1023 (b9 w r))) (.c hc0 (.c hl1 (.c (show ai (rdR (du term r.a)) = Fo (fun x=>Fo Gj x) (rdR (du term r.a)) from ?_) (.c (show Fo (GA (gf 3 0 (rdR (du term r.a)))) (cvV (da w known term r.a)) = cvV (da w known term r.a) from ?_) (.c (show cvV (da w known term r.a) = Fo (fun x=>Fo Gj x) (Fo (fun n=>[vi n]) (da w known term r.a)) from ?_) (.c (show FL 2 (match 0 == 2 with | true=>.gone | false=>keepX (gf 2 0 (Fo (fun n=>[vi n]) (da w known term r.a))) (match 0 == 3 with | true=>.gone | false=>keepX (gf 3 0 (rdR (du term r.a))) (.var (Gm w)))) = true from rfl) (.c (show FL 2 (match 0 + 1 == 2 with | true=>.gone | false=>keepX (gf 2 0 (Fo (fun n=>[vi n]) (da w known term r.a))) (match 0 + 1 == 3 with | true=>.gone | false=>keepX (gf 3 0 (rdR (du term r.a))) (.var [int r.st,ab (Fo Ft r.a)]))) = true from rfl) (.c (@hc (b9 w r)) (.c hc2 .n))))))))))) h)) (by (have hh : iI r term = false:=hc0; have h2 : (e != 0) = true:=hc2; simp only [rcX,hh,h2]; rfl)) (by rfl) <;> (first | rfl | exact bl _ _)
 ·exact FP (GK (z0 (d:=FM [nq,nq,int 150]) [.val (int (aL r)),.val (bool (decide (term ≥ 0) && decide (term ≤ 1023))),.b true] (.c (@hck (b9 w r)) (.c (gd (!aL r != 0) (@gA term 0 1023 (b9 w r))) (.c hc0 .n))) h)) (by (have hh : iI r term = true:=hc0; simp only [rcX,hh]; rfl)) (by rfl)
def sdFin (l l2 : List ReadT) : Exit × AS:=aV (.exit 0) (fun _ : Unit=>{ t:=mkT 26 0 [],h:=[],m:=[] }) sdX (forL sdF (l.zip l2) ())
theorem sd_cw {l l2 : List ReadT} (he : l.length = l2.length) (hl : ad l) :
  CW Fp Γ0 [] false (.loop (sub Tryz.f48 0)) (sdS (rdR l) (rdR l2) 0) (sdFin l l2).1 (sdFin l l2).2:=by
 have hlen : (l.zip l2).length = l.length:=by simp [he]
 have:=Ha (P:=Fp) (Γ:=Γ0) (h0:=[]) (rd:=false) (c:=sub Tryz.f48 0) (l.zip l2) sdF (fun i _=>sdS (rdR l) (rdR l2) (i : Int)) (.exit 0) (fun _ : Unit=>{ t:=mkT 26 0 [],h:=[],m:=[] }) sdX (fun _ _=>True) (by simp) (fun _=>by simp) ?_ ?_ () trivial
 ·exact this
 ·intro i p u hp _
  obtain ⟨hi,hpe⟩:=Fy.1 hp
  rw [hlen] at hi
  have h1 : l[i]? = some p.1:=by subst hpe; simp [FK hi]
  have h2 : l2[i]? = some p.2:=by subst hpe; simp [FK (he ▸ hi)]
  exact ⟨fun _ _=>trivial,sd_body (rowAt h1 rfl) (rowAt h2 rfl) (lt_len ReadT.row hi) (wrap_succ hi hl)⟩
 ·intro u _
  rw [hlen]
  exact sd_last (aC ReadT.row l)
def rF (l l2 : List ReadT) : Bool:=match forL sdF (l.zip l2) () with
 | .inl _=>true
 | .inr _=>false
theorem zY {l l2 : List ReadT} (he : l.length = l2.length) (hl : ad l) (hn : (((rdR l).length : Int) != ((rdR l2).length : Int)) = false) (h : List Blk) : (Ev Fp Γ0 48 [ab (rdR l),ab (rdR l2)] h (bool (rF l l2)) h):=by
 have hl0:=(@sd_cw (l) (l2) (he) (hl))
 unfold sdFin at hl0
 revert hl0
 cases ho1 : forL sdF (List.zip l l2) () with
 | inl o1_0_0 =>
  intro hl0
  exact zD (bool true) [.b false,.sum [0,1,4,5] (Gf 0) { t:=mkT 26 0 [],h:=[],m:=[] }] (.c hn (.c hl0 .n)) h (by simp only [rF,ho1]; done)
 | inr o1_1_0 =>
  intro hl0
  exact zD (bool false) [.b false,.sum [0,1,4,5] (Exit.ret) { t:=mkT 26 0 [(4,bool false)],h:=[],m:=[] }] (.c hn (.c hl0 .n)) h (by simp only [rF,ho1]; done)
theorem tk (l : List ReadT) : rF l l = true:=by
 have key : ∀ l : List ReadT,forL sdF (l.zip l) () = .inl ():=by
  intro l
  induction l with
  | nil=>rfl
  | cons a l ih =>
   have : rdNe a a = false:=by simp [rdNe]
   simp only [List.zip_cons_cons,forL,sdF,this,cond_false]
   exact ih
 simp [rF,key]
theorem tl {l l2 : List ReadT} (he : l = l2) (hl : ad l) (h : List Blk) : Ev Fp Γ0 48 [ab (rdR l),ab (rdR l2)] h (bool true) h:=by
 subst he
 have:=zY (l:=l) (l2:=l) rfl hl (by simp) h
 rwa [tk] at this
attribute [local irreducible] wu alikeR
end Go.Vi
open Go Go.Proofs
namespace Go.Vi
set_option maxRecDepth 100000
set_option maxHeartbeats 4000000
noncomputable abbrev rH (w : WorldT) : List Blk:=[.var [ab (Fo FE w.c),ab w.p,ab (Fo FF w.s),ab (Fo FC w.f)]]
theorem sp_out {w : WorldT} (hl : ad w.s) {kind st obj term known : Int} (hsane : ∀ h,Ev Fp Γk 35 [] h (bool true) h) (ho : (!wu w) = true) (h : List Blk) : (Ev Fp Γk 8 [.agg w.l,int kind,int st,int obj,int term,int known] h (bool true) h):=by
 exact z0 [.val (bool true),.b false,.val (bool (wu w)),.b true] (.c (@hsane (rH w)) (.c (show (!true) = false from rfl) (.c (F1 (Γ':=Γk) (@zI w hl (rH w))) (.c ho .n)))) h
noncomputable abbrev iQ (w : WorldT) : List Blk:=[.var [ab (Fo FE w.c),ab w.p,ab (Fo FF w.s),ab (Fo FC w.f)]]
theorem sp_ok {w : WorldT} (hl : ad w.s) {kind st obj term known a e : Int} {q : List ReadT} (hsane : ∀ h,Ev Fp Γk 35 [] h (bool true) h) (ho : (!wu w) = false)
 (h1 : ∀ h,Ev Fp Γk 46 [.agg w.l,int kind,int st,int obj,int term,int known] h (.tup [int a,ab (rdR q),int e]) h)
 (h2 : ∀ h,Ev Fp Γ0 47 [.agg w.l,int kind,int st,int obj,int term,int known] h (.tup [int a,ab (rdR q),int e]) h)
 (h3 : ∀ h,Ev Fp Γ0 48 [ab (rdR q),ab (rdR q)] h (bool true) h) (h : List Blk) : (Ev Fp Γk 8 [.agg w.l,int kind,int st,int obj,int term,int known] h (bool true) h):=by
 exact zD (bool (a == a && true && e == e)) [.val (bool true),.b false,.val (bool (wu w)),.b false,.val (FM [int a,ab (rdR q),int e]),.val (FM [int a,ab (rdR q),int e]),.val (bool true)] (.c (@hsane (iQ w)) (.c (show (!true) = false from rfl) (.c (F1 (Γ':=Γk) (@zI w hl (iQ w))) (.c ho (.c (@h1 (iQ w)) (.c (F1 (Γ':=Γk) (@h2 (iQ w))) (.c (gd (a == a) (F1 (Γ':=Γk) (@h3 (iQ w)))) .n))))))) h (by simp)
theorem Ev.argW {P : Program} {Γ : ap} {f : FuncId} {args : List D} {h h' : List Blk} {d : D} (he : Ev P Γ f (IU args) h d h') : Ev P Γ f args h d h':=fun O w l vs R ra=>he O w l vs R (iq _ _ ra)
abbrev bz : ByteArray:=⟨#[]⟩
abbrev wS : HE:=⟨[⟨bz,0,0,1⟩,⟨bz,60,0,1⟩,⟨bz,30,0,1⟩],[⟨bz,0⟩,⟨bz,12⟩],[⟨bz,0,19,2⟩],[]⟩
abbrev wZ : HE:=⟨[],[],[],[]⟩
abbrev wF : HE:=⟨[],[⟨bz,-1⟩],[],[]⟩
abbrev wA : List D:=[ab (wS.classes.map Gh),ab (wS.fees.map FeeT.row),ab (wS.honours.map Gh),aO]
theorem tm : wS.ok:=by
 constructor <;> simp [ad,Cls.ok,I64]
theorem wZ_ok : wZ.ok:=by constructor <;> simp [ad]
theorem wF_ok : wF.ok:=by constructor <;> simp [ad,I64]
theorem w37 {s : HE} (hs : s.ok) {cs : List D} {e n d a b : Int} (hn : I64 n) (hd : I64 d) (hc : IU cs = s.cells) (hr : ofR s s.classes e n d = (a,b)) (h : List Blk) : Ev Fp Γ0 37 [.agg cs,int e,.agg [int n,int d]] h (.tup [int a,int b]) h:=by
 refine Ev.argW ?_
 have:=ui hs hn hd h (earned:=e)
 rw [hr] at this
 rw [show IU [.agg cs,int e,.agg [int n,int d]] = [.agg (IU cs),int e,.agg [int n,int d]] from rfl,hc]
 exact this
theorem w39 {s : HE} (hs : s.ok) {cs : List D} {e n d a b : Int} (hn : I64 n) (hd : I64 d) (hc : IU cs = s.cells) (hr : ofR s s.honours e n d = (a,b)) (h : List Blk) : Ev Fp Γ0 39 [.agg cs,int e,.agg [int n,int d]] h (.tup [int a,int b]) h:=by
 refine Ev.argW ?_
 have:=qt hs hn hd h (earned:=e)
 rw [hr] at this
 rw [show IU [.agg cs,int e,.agg [int n,int d]] = [.agg (IU cs),int e,.agg [int n,int d]] from rfl,hc]
 exact this
theorem w43 {s : HE} (hs : s.ok) {cs : List D} {a : Int} (hc : IU cs = s.cells) (hr : gR s = a) (h : List Blk) : Ev Fp Γ0 43 [.agg cs] h (int a) h:=by
 refine Ev.argW ?_
 have:=lv hs h
 rw [hr] at this
 rw [show IU [.agg cs] = [.agg (IU cs)] from rfl,hc]
 exact this
theorem iS (n : Int) (h1 : -9223372036854775808 ≤ n) (h2 : n ≤ 9223372036854775807) : I64 n:=⟨h1,h2⟩
theorem wa_ev (h : List Blk) : Ev Fp Γ0 37 [.agg wA,int 60,.agg [int 0,int 1]] h (.tup [int 3,int 0]) h:=w37 tm (iS 0 (by omega) (by omega)) (iS 1 (by omega) (by omega)) rfl (by kernel_rfl) h
theorem wb_ev (h : List Blk) : Ev Fp Γ0 37 [.agg wA,int 29,.agg [int 0,int 1]] h (.tup [int 1,int 0]) h:=w37 tm (iS 0 (by omega) (by omega)) (iS 1 (by omega) (by omega)) rfl (by kernel_rfl) h
theorem wc_ev (h : List Blk) : Ev Fp Γ0 37 [.agg [aO,aO,aO,aO],int 0,.agg [int 0,int 1]] h (.tup [int 0,int 0]) h:=w37 wZ_ok (iS 0 (by omega) (by omega)) (iS 1 (by omega) (by omega)) rfl (by kernel_rfl) h
theorem wd_ev (h : List Blk) : Ev Fp Γ0 37 [.agg wA,int (-1),.agg [int 0,int 1]] h (.tup [int 0,int 1]) h:=w37 tm (iS 0 (by omega) (by omega)) (iS 1 (by omega) (by omega)) rfl (by kernel_rfl) h
theorem we_ev (h : List Blk) : Ev Fp Γ0 37 [.agg [aO,aO,aO,aO],int 0,.agg [int 1,int 0]] h (.tup [int 0,int 50]) h:=w37 wZ_ok (iS 1 (by omega) (by omega)) (iS 0 (by omega) (by omega)) rfl (by kernel_rfl) h
theorem wf_ev (h : List Blk) : Ev Fp Γ0 41 [.agg wA,int 12] h (.tup [int 2,int 0]) h:=Ev.argW (by
 have:=Ce tm 12 h
 rw [show Cd wS 12 = (2,0) by kernel_rfl] at this
 exact this)
theorem wg_ev (h : List Blk) : Ev Fp Γ0 39 [.agg wA,int 0,.agg [int 10,int 1]] h (.tup [int 1,int 0]) h:=w39 tm (iS 10 (by omega) (by omega)) (iS 1 (by omega) (by omega)) rfl (by kernel_rfl) h
theorem wh_ev (h : List Blk) : Ev Fp Γ0 39 [.agg wA,int 500,.agg [int 9,int 1]] h (.tup [int 0,int 0]) h:=w39 tm (iS 9 (by omega) (by omega)) (iS 1 (by omega) (by omega)) rfl (by kernel_rfl) h
abbrev wW : WorldT:=⟨[],[],[],[]⟩
theorem wW_ok : wW.ok:=⟨by simp,by simp,by simp,by simp [ad],by simp [ad],by simp⟩
theorem wi_0 (h : List Blk) : Ev Fp Γk 46 [.agg [aO,aO,aO,aO],int 1,int 3,int 0,int 5,int 100] h (.tup [int 0,ab (rdR (rO wW 1 3 0 5 100).q),int 1]) h:=Ev.argW (zJ wW_ok h)
theorem wj_0 (h : List Blk) : Ev Fp Γk 46 [.agg [aO,aO,aO,aO],int 2,int 3,int 0,int 5,int 100] h (.tup [int 0,ab (rdR (rO wW 2 3 0 5 100).q),int 0]) h:=Ev.argW (by
 have h1 : aj wW.f 100 = []:=by simp [aj,c6,forL,nuG]
 have h2 : vT wW 100 3 5 = []:=by simp [vT,dL,h1]
 have h3 : (rO wW 2 3 0 5 100).ans = 0 ∧ (rO wW 2 3 0 5 100).e = 0:=by
  unfold rO nE ew
  simp only [h2]
  constructor <;> kernel_rfl
 have:=zJ wW_ok (kind:=2) (st:=3) (obj:=0) (term:=5) (known:=100) h
 rw [h3.1,h3.2] at this
 exact this)
theorem wk_ev (h : List Blk) : Ev Fp Γ0 43 [.agg [aO,aO,aO,aO]] h (int 0) h:=w43 wZ_ok rfl (by kernel_rfl) h
theorem wl_ev (h : List Blk) : Ev Fp Γ0 43 [.agg wA] h (int 0) h:=w43 tm rfl (by kernel_rfl) h
theorem wm_ev {b0 b1 b2 b3 b4 : Blk} : Ev Fp Γ0 43 [.agg [aO,.ref (.vec 5 0),aO,aO]] [b0,b1,b2,b3,b4,.vec [[ak bz,int (-1)]] 0 2] (int 1) [b0,b1,b2,b3,b4,.vec [[ak bz,int (-1)]] 0 2] :=
 Ev.frzArgs (by rfl) rfl (w43 wF_ok rfl (by kernel_rfl) [])
noncomputable abbrev af : List Blk:=[.var [int 0,int 1],.gone,.gone,.gone,.var [ab [[vs bz,vi 0,vi 0,vi 1],[vs bz,vi 60,vi 0,vi 1],[vs bz,vi 30,vi 0,vi 1]],ab [[vs bz,vi 0],[vs bz,vi 12]],ab [[vs bz,vi 0,vi 19,vi 2]],Gj (GT (Ge none 0 0))]]
theorem zZ {q1 q2 : List ReadT} (hi : ∀ h,Ev Fp Γk 46 [.agg [aO,aO,aO,aO],int 1,int 3,int 0,int 5,int 100] h (.tup [int 0,ab (rdR q1),int 1]) h) (hj : ∀ h,Ev Fp Γk 46 [.agg [aO,aO,aO,aO],int 2,int 3,int 0,int 5,int 100] h (.tup [int 0,ab (rdR q2),int 0]) h) (h : List Blk) : (Ev Fp Γk 35 [] h (bool true) h):=by
 exact FP (Ev.sym0 (P:=Fp) (Γ:=Γk) (f:=35) (args:=[]) (d:=bool (1 == 1)) pok (φ:=[[[ak { data:=#[] },int 0,int 0,int 1],[ak { data:=#[] },int 60,int 0,int 1],[ak { data:=#[] },int 30,int 0,int 1]] = [[ak bz,int 0,int 0,int 1],[ak bz,int 60,int 0,int 1],[ak bz,int 30,int 0,int 1]],[[ak { data:=#[] },int 0],[ak { data:=#[] },int 12]] = [[ak { data:=#[] },int 0],[ak { data:=#[] },int 12]],[[ak { data:=#[] },int 0,int 19,int 2]] = [[ak { data:=#[] },int 0,int 19,int 2]],[[ak { data:=#[] },int 0],[ak { data:=#[] },int 12]] = [[ak bz,int 0],[ak bz,int 12]],[[ak { data:=#[] },int 0,int 19,int 2]] = [[ak { data:=#[] },int 0,int 19,int 2]],[[ak { data:=#[] },int 0,int 19,int 2]] = [[ak bz,int 0,int 19,int 2]],Ev Fp Γk 37 [FU [ab [[vs bz,vi 0,vi 0,vi 1],[vs bz,vi 60,vi 0,vi 1],[vs bz,vi 30,vi 0,vi 1]],ab [[vs bz,vi 0],[vs bz,vi 12]],ab [[vs bz,vi 0,vi 19,vi 2]],Gj (GT (Ge none 0 0))],int 60,FU [int 0,int 1]] af (FM [int 3,int 0]) af,Ev Fp Γk 37 [FU [ab [[vs bz,vi 0,vi 0,vi 1],[vs bz,vi 60,vi 0,vi 1],[vs bz,vi 30,vi 0,vi 1]],ab [[vs bz,vi 0],[vs bz,vi 12]],ab [[vs bz,vi 0,vi 19,vi 2]],Gj (GT (Ge none 0 0))],int 29,FU [int 0,int 1]] af (FM [int 1,int 0]) af,Ev Fp Γk 37 [FU [Gj (GT (Ge none 0 0)),Gj (GT (Ge none 0 0)),Gj (GT (Ge none 0 0)),Gj (GT (Ge none 0 0))],int 0,FU [int 0,int 1]] af (FM [int 0,int 0]) af,Ev Fp Γk 37 [FU [ab [[vs bz,vi 0,vi 0,vi 1],[vs bz,vi 60,vi 0,vi 1],[vs bz,vi 30,vi 0,vi 1]],ab [[vs bz,vi 0],[vs bz,vi 12]],ab [[vs bz,vi 0,vi 19,vi 2]],Gj (GT (Ge none 0 0))],int (-1),FU [int 0,int 1]] af (FM [int 0,int 1]) af,Ev Fp Γk 37 [FU [Gj (GT (Ge none 0 0)),Gj (GT (Ge none 0 0)),Gj (GT (Ge none 0 0)),Gj (GT (Ge none 0 0))],int 0,FU [int 1,int 0]] af (FM [int 0,int 50]) af,Ev Fp Γk 41 [FU [ab [[vs bz,vi 0,vi 0,vi 1],[vs bz,vi 60,vi 0,vi 1],[vs bz,vi 30,vi 0,vi 1]],ab [[vs bz,vi 0],[vs bz,vi 12]],ab [[vs bz,vi 0,vi 19,vi 2]],Gj (GT (Ge none 0 0))],int 12] af (FM [int 2,int 0]) af,Ev Fp Γk 39 [FU [ab [[vs bz,vi 0,vi 0,vi 1],[vs bz,vi 60,vi 0,vi 1],[vs bz,vi 30,vi 0,vi 1]],ab [[vs bz,vi 0],[vs bz,vi 12]],ab [[vs bz,vi 0,vi 19,vi 2]],Gj (GT (Ge none 0 0))],int 0,FU [int 10,int 1]] af (FM [int 1,int 0]) af,Ev Fp Γk 39 [FU [ab [[vs bz,vi 0,vi 0,vi 1],[vs bz,vi 60,vi 0,vi 1],[vs bz,vi 30,vi 0,vi 1]],ab [[vs bz,vi 0],[vs bz,vi 12]],ab [[vs bz,vi 0,vi 19,vi 2]],Gj (GT (Ge none 0 0))],int 500,FU [int 9,int 1]] af (FM [int 0,int 0]) af,Ev Fp Γk 46 [FU [Gj (GT (Ge none 0 0)),Gj (GT (Ge none 0 0)),Gj (GT (Ge none 0 0)),Gj (GT (Ge none 0 0))],int 1,int 3,int 0,int 5,int 100] af (FM [int 0,ab (rdR q1),int 1]) af,Ev Fp Γk 46 [FU [Gj (GT (Ge none 0 0)),Gj (GT (Ge none 0 0)),Gj (GT (Ge none 0 0)),Gj (GT (Ge none 0 0))],int 2,int 3,int 0,int 5,int 100] af (FM [int 0,ab (rdR q2),int 0]) af,(0 != 0 || 0 != 0 || 0 != 0 || 1 != 1 || 50 != 50 || 0 != 0 || 0 != 0 || 0 != 0 || 1 != 1 || 0 != 0) = false,((3 == 3) == true) = true,((3 == 3) == true) = true,bU (bool (3 == 3)) (bool (1 == 1)) (bool false) (bool (1 == 1)),((1 == 1) == true) = true,((1 == 1) == true) = true,bU (bool (1 == 1)) (bool (0 == 0)) (bool false) (bool (0 == 0)),((0 == 0) == true) = true,((0 == 0) == true) = true,bU (bool (0 == 0)) (bool (2 == 2)) (bool false) (bool (2 == 2)),((2 == 2) == true) = true,((2 == 2) == true) = true,bU (bool (2 == 2)) (bool (1 == 1)) (bool false) (bool (1 == 1)),((1 == 1) == true) = true,((1 == 1) == true) = true,bU (bool (1 == 1)) (bool (0 == 0)) (bool false) (bool (0 == 0)),((0 == 0) == true) = true,((0 == 0) == true) = true,bU (bool (0 == 0)) (bool (0 == 0)) (bool false) (bool (0 == 0)),((0 == 0) == true) = true,((0 == 0) == true) = true,Ev Fp Γk 43 [FU [Gj (GT (Ge none 0 0)),Gj (GT (Ge none 0 0)),Gj (GT (Ge none 0 0)),Gj (GT (Ge none 0 0))]] af (int 0) af,((0 == 0) == true) = true,bU (bool (0 == 0)) (bool (0 == 0)) (bool false) (bool (0 == 0)),((0 == 0) == true) = true,((0 == 0) == true) = true,Ev Fp Γk 43 [FU [ab [[vs bz,vi 0,vi 0,vi 1],[vs bz,vi 60,vi 0,vi 1],[vs bz,vi 30,vi 0,vi 1]],ab [[vs bz,vi 0],[vs bz,vi 12]],ab [[vs bz,vi 0,vi 19,vi 2]],Gj (GT (Ge none 0 0))]] af (int 0) af,((0 == 0) == true) = true,bU (bool (0 == 0)) (bool (0 == 0)) (bool false) (bool (0 == 0)),((0 == 0) == true) = true,((0 == 0) == true) = true,((0 == 0) == true) = true,((0 == 0) == true) = true,Ev Fp Γk 43 [FU [Gj (GT (Ge none 0 0)),.ref (.vec 5 0),Gj (GT (Ge none 0 0)),Gj (GT (Ge none 0 0))]] [.var [int 0,int 1],.gone,.gone,.gone,.var [ab [[vs bz,vi 0,vi 0,vi 1],[vs bz,vi 60,vi 0,vi 1],[vs bz,vi 30,vi 0,vi 1]],ab [[vs bz,vi 0],[vs bz,vi 12]],ab [[vs bz,vi 0,vi 19,vi 2]],Gj (GT (Ge none 0 0))],.vec [[ak { data:=#[] },int (-1)]] 0 2] (int 1) [.var [int 0,int 1],.gone,.gone,.gone,.var [ab [[vs bz,vi 0,vi 0,vi 1],[vs bz,vi 60,vi 0,vi 1],[vs bz,vi 30,vi 0,vi 1]],ab [[vs bz,vi 0],[vs bz,vi 12]],ab [[vs bz,vi 0,vi 19,vi 2]],Gj (GT (Ge none 0 0))],.vec [[ak { data:=#[] },int (-1)]] 0 2],((0 == 0) == true) = true,bU (bool (0 == 0)) (bool (1 == 1)) (bool false) (bool (1 == 1))]) [.nx 3,.st (.frz 1 (Fo Gh wS.classes)),.st (.frz 2 (Fo FeeT.row wS.fees)),.st (.frz 3 (Fo Gh wS.honours)),.val (FM [int 3,int 0]),.val (FM [int 1,int 0]),.val (FM [int 0,int 0]),.val (FM [int 0,int 1]),.val (FM [int 0,int 50]),.val (FM [int 2,int 0]),.val (FM [int 1,int 0]),.val (FM [int 0,int 0]),.val (FM [int 0,ab (rdR q1),int 1]),.val (FM [int 0,ab (rdR q2),int 0]),.b false,.g true,.g true,.ov 142 (bool (1 == 1)),.g true,.g true,.ov 146 (bool (0 == 0)),.g true,.g true,.ov 150 (bool (2 == 2)),.g true,.g true,.ov 154 (bool (1 == 1)),.g true,.g true,.ov 158 (bool (0 == 0)),.g true,.g true,.ov 162 (bool (0 == 0)),.g true,.g true,.val (int 0),.g true,.ov 167 (bool (0 == 0)),.g true,.g true,.val (int 0),.g true,.ov 172 (bool (0 == 0)),.g true,.g true,.g true,.g true,.val (int 1),.g true,.ov 179 (bool (1 == 1))] (by kernel_rfl) ⟨(by rfl),rfl,rfl,(by rfl),rfl,(by rfl),(F1 (@wa_ev (af))),(F1 (@wb_ev (af))),(F1 (@wc_ev (af))),(F1 (@wd_ev (af))),(F1 (@we_ev (af))),(F1 (@wf_ev (af))),(F1 (@wg_ev (af))),(F1 (@wh_ev (af))),(@hi (af)),(@hj (af)),rfl,rfl,rfl,(by rfl),rfl,rfl,(by rfl),rfl,rfl,(by rfl),rfl,rfl,(by rfl),rfl,rfl,(by rfl),rfl,rfl,(by rfl),rfl,rfl,(F1 (@wk_ev (af))),rfl,(by rfl),rfl,rfl,(F1 (@wl_ev (af))),rfl,(by rfl),rfl,rfl,rfl,rfl,(F1 (@wm_ev (.var [int 0,int 1]) (.gone) (.gone) (.gone) (.var [ab [[vs bz,vi 0,vi 0,vi 1],[vs bz,vi 60,vi 0,vi 1],[vs bz,vi 30,vi 0,vi 1]],ab [[vs bz,vi 0],[vs bz,vi 12]],ab [[vs bz,vi 0,vi 19,vi 2]],Gj (GT (Ge none 0 0))]))),rfl,(by rfl),trivial⟩ rfl rfl h) (by rfl) (by rfl)
theorem wm (h : List Blk) : Ev Fp Γk 35 [] h (bool true) h:=zZ wi_0 wj_0 h
theorem vwX_len {q1 q2 : List ReadT} {e1 e2 ea earn n d e : Int} : (vwX q1 q2 e1 e2 ea earn n d e).q.length ≤ q1.length + q2.length:=by
 unfold vwX
 split
 ·simp
 ·split
  ·simp
  ·split <;> simp
theorem ofX_len {kind st obj term : Int} {q1 : List ReadT} {x : VwX} {fe cl ho : Int × Int} : (ofX kind st obj term q1 x fe cl ho).q.length ≤ q1.length + x.q.length:=by
 unfold ofX
 split
 ·simp
 ·split
  ·simp
  ·split
   ·simp
   ·split <;> simp
theorem wn {w : WorldT} (hw : w.ok) {kind st obj term known : Int} : ad (rO w kind st obj term known).q:=by
 have h1:=rdT_len 4 0 0 term
 have h2:=o9 hw (st:=st) (term:=term) (known:=known)
 have h3:=lW (w:=w) (r:=(ew w st term known).1) (term:=term) (known:=known)
 have h4 : (nE w st term known).q.length ≤ (ew w st term known).2.1.length + (cv w (ew w st term known).1 term known).2.1.length:=vwX_len
 have h5 : (rO w kind st obj term known).q.length ≤ (rdT 4 0 0 term).length + (nE w st term known).q.length:=ofX_len
 unfold ad
 omega
theorem rI {α : Type} (p : α → Bool) (l : List α) : ∀ n,n ≤ l.length → (0 < br p l n ↔ (l.take n).any p = true)
 | 0,_=>by simp [br]
 | n + 1,h=>by
  have ih:=rI p l n (by omega)
  have ha : l[n]? = some l[n]:=FK (by omega)
  rw [I2,ha]
  unfold br
  rw [ha]
  simp only [List.any_append,Jw,List.any_cons,List.any_nil,Bool.or_false,G4]
  cases hp : p l[n]
  ·simp [ih]
  ·simp
theorem jE {α : Type} (p : α → Bool) (l : List α) : 0 < lastIx p l ↔ l.any p = true:=by
 have:=rI p l l.length (Nat.le_refl _)
 rwa [List.take_length] at this
theorem rJ {α : Type} (p : α → Bool) (l : List α) : lastIx p l ≤ l.length:=pc p l _
theorem gP {α : Type} {p q : α → Bool} {l : List α} (h : ∀ a ∈ l,p a = q a) : ∀ n,br p l n = br q l n
 | 0=>rfl
 | n + 1=>by
  unfold br
  split
  ·rename_i a ha
   rw [h a (List.mem_of_getElem? ha),gP h n]
  ·exact gP h n
theorem z6 (c : Cls) : wrongB c = aI c:=by
 unfold wrongB aI amt
 congr 3
 by_cases h1 : c.earn < 0 <;> by_cases h2 : c.earn > 10000 <;> simp_all <;> omega
theorem z7 (f : FeeT) : wrongF f = dV f:=by
 unfold wrongF dV amt
 by_cases h1 : f.credits < 0 <;> by_cases h2 : f.credits > 10000 <;> simp_all <;> omega
theorem bad_eq {s : HE} (hs : s.ok) : badS s = xz s:=by
 have e1 : wrongB = aI:=funext z6
 have e2 : wrongF = dV:=funext z7
 unfold badS xz
 rw [e1,e2]
 have b1:=rJ aI s.classes
 have b2:=rJ aI s.honours
 have l1:=hs.lc
 have l2:=hs.lh
 unfold ad at l1 l2
 rw [wrap_i64 (by omega) (by omega)]
 have p1:=jE aI s.classes
 have p2:=jE aI s.honours
 have p3:=jE dV s.fees
 generalize s.classes.any aI = a1 at *
 generalize s.honours.any aI = a2 at *
 generalize s.fees.any dV = a3 at *
 generalize lastIx aI s.classes = k1 at *
 generalize lastIx aI s.honours = k2 at *
 generalize lastIx dV s.fees = k3 at *
 cases a1 <;> cases a2 <;> cases a3 <;> simp at p1 p2 p3 ⊢ <;> omega
theorem CG {s : HE} (hs : s.ok) : gR s = jo s:=by unfold gR jo; rw [bad_eq hs]
theorem z8 (x y : Int) : decide (aN x y ≤ 0) = decide (aN y x ≥ 0):=by
 unfold aN
 by_cases h1 : x < y <;> by_cases h2 : y < x <;> simp_all <;> omega
theorem rK {a b c d : Int} (h1 : bi a b = 0) (h2 : bi c d = 0) : iv a b c d = (c9 a b c d,0):=by
 unfold iv; simp [h1,h2]
theorem B0 {earned n d : Int} {c : Cls} (h1 : bi n d = 0) (h2 : bi c.num c.den = 0) : lw earned n d c = eP earned n d c:=by
 unfold lw eP fo
 rw [rK h2 h1,rK h1 h2]
 show (decide (c9 c.num c.den n d ≤ 0) && decide (c.earn ≤ earned)) = (decide (earned ≥ c.earn) && decide (c9 n d c.num c.den ≥ 0))
 have : decide (c9 c.num c.den n d ≤ 0) = decide (c9 n d c.num c.den ≥ 0):=z8 _ _
 rw [this,Bool.and_comm]
theorem CH (x : Int) (b : Bool) : (b || !amt x) = (b || decide (x < 0) || decide (x > 10000)):=by
 unfold amt
 by_cases h1 : x < 0 <;> by_cases h2 : x > 10000 <;> cases b <;> simp_all <;> omega
theorem Aa {s : HE} (h : jo s = 0) : xz s = false:=by
 unfold jo at h
 cases hb : xz s
 ·rfl
 ·simp [hb] at h
theorem B1 {l : List Cls} (h : l.any aI = false) : ∀ c ∈ l,bi c.num c.den = 0:=by
 intro c hc
 have:=List.any_eq_false.1 h c hc
 unfold aI at this
 simp only [G4,not_or,bne_iff_ne,ne_eq,KJ] at this
 exact this.1.1.2
theorem of_eq {s : HE} (hs : s.ok) {l : List Cls} (hl : xz s = false → l.any aI = false) (earned n d : Int) : ofR s l earned n d = gr s l earned n d:=by
 unfold ofR gr
 rw [CG hs,CH]
 split
 ·rfl
 ·rename_i h0
  split
  ·rfl
  ·rename_i h1
   simp only [G4,not_or,bne_iff_ne,ne_eq,KJ] at h0 h1
   have hb:=hl (Aa h0.1.1)
   unfold lastIx
   rw [gP (fun c hc=>B0 h1 (B1 hb c hc))]
theorem B2 {s : HE} (hs : s.ok) (earned n d : Int) : ofR s s.classes earned n d = gr s s.classes earned n d :=
 of_eq hs (fun h=>by simp only [xz,GZ,Bool.not_not] at h; exact h.2.1) earned n d
theorem Ab {s : HE} (hs : s.ok) (earned n d : Int) : ofR s s.honours earned n d = gr s s.honours earned n d :=
 of_eq hs (fun h=>by simp only [xz,GZ,Bool.not_not] at h; exact h.2.2) earned n d
theorem fee_eq {s : HE} (hs : s.ok) (x : Int) : Cd s x = wg s x:=by
 unfold Cd wg
 rw [CG hs,CH]
 rfl
end Go.Vi
