/- StandingOfSpecUpto: part of the proof: contracts of the functions that the law reaches, and the law. No conditions beyond the given statement's own. -/
import Derived.Test.YtilebidefogaiaaGreatDoorW9
import Derived.Test.YtilebidefogaiaaGreatDoorCards
import Derived.Test.YtilebidefogaiaaGreatDoorTie
import Derived.WalkKit
import Derived.ProofKit
import Derived.OpenShut
import Derived.Deep.DeepHandedRow
import Derived.Lib.LaidTab
import Derived.LaidHandle
open Go.Proofs.Tryz renaming prog → Fp, underlying111 → LC
open List renaming length_map → GB, forall_mem_cons → Gv, mem_cons_self → GS, mem_cons_of_mem → Hx, mem_cons → Gd, drop_drop → Jk, take_append_drop → I7, drop_zero → JC, all_cons → HY, contains_iff_mem → KT, getElem?_eq_getElem → FK, mem_map → FY, mem_of_getElem? → FV, getElem?_map → GO, getElem?_eq_some_iff → Fy, getElem_range → LD, replicate → FX, mapM_cons → KM, map_cons → GJ
open Go.Proofs.YtilebidefogaiaaGreatDoor.Rows renaming laid_sizar_rules_kinds → HT, uptoBulk → GM, uptoBulkAll → HX
open Go.Vi.FactT renaming row → FC
open Go.Vi.RuleT renaming fl_row → Kx
open Go.Vi.CourseT renaming row → FE
open Go.Vi.ClauseT renaming row → GE
open Go.Vi.SysT renaming row → FF
open Bool renaming and_eq_true → FB
open Go.DataW renaming trod → Ir, weights → Kl
open Prod.mk renaming injEq → Fw
open Option renaming bind_eq_some_iff → HH, map_eq_some_iff → FD, bind_eq_bind → KU
open Go.World renaming cell? → J7
open Option.some renaming injEq → Fq
open Go.DataW.agg renaming injEq → Lj
open Go Go.Proofs
namespace Go.Vi
set_option maxRecDepth 100000
theorem AO {kind st obj term : Int} {q1 : List ReadT} {x : VwX} {fe cl ho cl' ho' : Int × Int} (h : (x.e != 0) = false → cl = cl' ∧ ho = ho') : ofX kind st obj term q1 x fe cl ho = ofX kind st obj term q1 x fe cl' ho':=by
 unfold ofX
 cases ofBad kind st obj term
 ·cases kind == 3
  ·cases hx : (x.e != 0)
   ·obtain ⟨rfl,rfl⟩:=h hx
    rfl
   ·rfl
  ·rfl
 ·rfl
theorem Dx {w : WorldT} (hw : w.ok) (hs : ∀ x ∈ w.c,x.small) (hf : w.f.length ≤ 40) {kind st obj term known : Int} (h : List Blk) : Ev Fp Γ0 47 [.agg w.l,int kind,int st,int obj,int term,int known] h (.tup [int (rO w kind st obj term known).ans,ab (rdR (rO w kind st obj term known).q),int (rO w kind st obj term known).e]) h:=by
 have hN : (aj w.f known).length ≤ 500:=by have:=dW (fs:=w.f) (known:=known); omega
 have h1:=o9 hw (st:=st) (term:=term) (known:=known)
 have h2:=lW (w:=w) (r:=(ew w st term known).1) (term:=term) (known:=known)
 have h3:=rdT_len 4 0 0 term
 have hi:=lV (cv w (ew w st term known).1 term known).1
 have hsy : (uR w term known).sys.ok:=CA hw
 have hr : ad (ew w st term known).1.a:=by unfold ad; omega
 have hl : ad (cv w (ew w st term known).1 term known).1:=by unfold ad; omega
 have key:=of47_a (kind:=kind) (st:=st) (obj:=obj) (term:=term) (known:=known) (s:=uR w term known) (q1:=rdT 4 0 0 term) (p1:=(ew w st term known).2.1) (p2:=(cv w (ew w st term known).1 term known).2.1) (L:=(cv w (ew w st term known).1 term known).1) (e2:=(cv w (ew w st term known).1 term known).2.2) (by omega) (fun h=>sys14r hw h)
  (fun h=>of26_ev hw hs hN h) (fun h=>cnt57_a hw hs (by omega) (fun h=>check31 hr h) (fun h=>cnt112 (by omega) (by simp [da]) h) h)
  (fun h=>BX hl h) (fun h=>BZ hl h) (fun h=>rfee_ev hsy obj h) (fun h=>zB hsy hi.1 hi.2 h) (fun h=>we hsy hi.1 hi.2 h) h
 have e : rO w kind st obj term known = ofX kind st obj term (rdT 4 0 0 term) (nE w st term known) (wg (uR w term known).sys obj)
   (gr (uR w term known).sys (uR w term known).sys.classes (minE (gM (cv w (ew w st term known).1 term known).1).1) (fZ (cv w (ew w st term known).1 term known).1).1 (fZ (cv w (ew w st term known).1 term known).1).2.1)
   (gr (uR w term known).sys (uR w term known).sys.honours (minE (gM (cv w (ew w st term known).1 term known).1).1) (fZ (cv w (ew w st term known).1 term known).1).1 (fZ (cv w (ew w st term known).1 term known).1).2.1):=by
  unfold rO
  rw [fee_eq hsy,B2 hsy,Ab hsy]
  refine AO fun hx=>?_
  unfold nE at hx ⊢
  cases hb : ((ew w st term known).2.2 != 0 || (cv w (ew w st term known).1 term known).2.2 != 0 || (gM (cv w (ew w st term known).1 term known).1).2 != 0 || (fZ (cv w (ew w st term known).1 term known).1).2.2 != 0)
  ·rw [vwX_ok hb]; exact ⟨rfl,rfl⟩
  ·rw [vwX_bad hb] at hx; cases hx
 rw [e]
 exact key
theorem fewW_f {w : WorldT} (h : wu w = true) : w.f.length ≤ 40:=by
 unfold wu at h
 split at h
 ·cases h
 ·rename_i hb
  unfold rz at hb
  simp only [Bool.or_eq_false_iff,decide_eq_false_iff_not,GB] at hb
  omega
theorem jp {w : WorldT} (hw : w.ok0) (hs : ∀ x ∈ w.c,x.small) {kind st obj term known : Int} (h : List Blk) : Ev Fp Γk 8 [.agg w.l,int kind,int st,int obj,int term,int known] h (bool true) h:=by
 have hsane : ∀ h,Ev Fp Γk 35 [] h (bool true) h:=wm
 cases ho : (!wu w)
 ·have hf:=fewW_f (by simpa using ho)
  have hk : w.ok:=⟨hw.c,hw.s,by omega,hw.lc,hw.ls,hw.i⟩
  have hq : ad (rO w kind st obj term known).q:=wn hk
  exact sp_ok hw.ls hsane ho (fun h=>zJ hk h) (fun h=>Dx hk hs hf h) (fun h=>tl rfl hq h) h
 ·exact sp_out hw.ls hsane ho h
set_option maxHeartbeats 400000
open Go.ChangeShapes Go.WideShapes Go.ChangeAt Go.RowKit Go.Proofs.YtilebidefogaiaaGreatDoor
set_option maxRecDepth 100000
theorem iz : Fp.cellsOf 3 = 1:=by kernel_rfl
theorem um : Fp.cellsOf 9 = 1:=by kernel_rfl
theorem xJ : Fp.cellsOf 35 = 2:=by kernel_rfl
theorem Dy : Fp.cellsOf 72 = 1:=by kernel_rfl
theorem Dz : Fp.cellsOf 73 = 1:=by kernel_rfl
theorem DA : Fp.cellsOf 74 = 1:=by kernel_rfl
theorem DB : Fp.cellsOf 76 = 4:=by kernel_rfl
theorem DC : Fp.cellsOf 87 = 2:=by kernel_rfl
theorem DD : Fp.cellsOf 91 = 4:=by kernel_rfl
theorem DE : Fp.bytesOf 91 = 40:=by kernel_rfl
theorem DF : Fp.bytesOf 87 = 24:=by kernel_rfl
theorem AP : Fp.bytesOf 102 = 32:=by kernel_rfl
theorem a8 {n : Nat} {ds : List Dp} (h : Shp Fp n 3 ds) : ∃ x,ds = [vi x] ∧ I64 x:=by
 cases n with
 | zero=>exact h.elim
 | succ n =>
  simp only [Shp,Tryz.underlying3] at h
  obtain ⟨x,rfl,hw⟩:=h
  refine ⟨x,rfl,?_⟩
  have:=bounds_i64 hw
  exact this
theorem oK {n : Nat} {ds : List Dp} (h : Shp Fp n 9 ds) : ∃ s,ds = [vs s]:=by
 cases n with
 | zero=>exact h.elim
 | succ n =>
  simp only [Shp,Tryz.underlying9] at h
  obtain ⟨s,rfl,_⟩:=h
  exact ⟨s,rfl⟩
theorem xK {n : Nat} {ds : List Dp} (h : Shp Fp n 35 ds) : ∃ a b,ds = [vi a,vi b] ∧ I64 a ∧ I64 b:=by
 cases n with
 | zero=>exact h.elim
 | succ n =>
  simp only [Shp,Tryz.underlying35,Gv,iz,xJ] at h
  obtain ⟨hl,h1,h2,_⟩:=h
  obtain ⟨a,e1,ha⟩:=a8 h1
  obtain ⟨b,e2,hb⟩:=a8 h2
  match ds,hl with
  | [x,y],_ =>
   simp at e1 e2
   subst e1; subst e2
   exact ⟨a,b,rfl,ha,hb⟩
theorem xL {n : Nat} {ds : List Dp} (h : Shp Fp n 91 ds) : ∃ c : Cls,ds = c.row ∧ c.ok:=by
 cases n with
 | zero=>exact h.elim
 | succ n =>
  simp only [Shp,Tryz.underlying91,Gv,iz,um,xJ,DD] at h
  obtain ⟨hl,h1,h2,h3,_⟩:=h
  obtain ⟨s,e1⟩:=oK h1
  obtain ⟨x,e2,hx⟩:=a8 h2
  obtain ⟨a,b,e3,ha,hb⟩:=xK h3
  match ds,hl with
  | [p,q,r,t],_ =>
   simp at e1 e2 e3
   obtain ⟨rfl,rfl⟩:=e3
   subst e1; subst e2
   exact ⟨⟨s,x,a,b⟩,rfl,hx,ha,hb⟩
theorem DG {n : Nat} {ds : List Dp} (h : Shp Fp n 87 ds) : ∃ c : FeeT,ds = c.row ∧ I64 c.credits:=by
 cases n with
 | zero=>exact h.elim
 | succ n =>
  simp only [Shp,Tryz.underlying87,Gv,iz,um,DC] at h
  obtain ⟨hl,h1,h2,_⟩:=h
  obtain ⟨s,e1⟩:=oK h1
  obtain ⟨x,e2,hx⟩:=a8 h2
  match ds,hl with
  | [p,q],_ =>
   simp at e1 e2
   subst e1; subst e2
   exact ⟨⟨s,x⟩,rfl,hx⟩
theorem jT {α : Type} {row : α → List Dp} {ok : α → Prop} : ∀ {es : List (List Dp)},(∀ r ∈ es,∃ a,r = row a ∧ ok a) → ∃ l : List α,es = l.map row ∧ ∀ a ∈ l,ok a
 | [],_=>⟨[],rfl,by simp⟩
 | r :: es,h=>by
  obtain ⟨a,rfl,ha⟩:=h r (GS ..)
  obtain ⟨l,rfl,hl⟩:=jT (fun r hr=>h r (Hx _ hr))
  exact ⟨a :: l,rfl,fun b hb=>(Gd.1 hb).elim (fun e=>e ▸ ha) (hl b)⟩
theorem gk {n k : Nat} (h : n * k ≤ reachBytes) (hk : 1 ≤ k) : n ≤ 140737488355328:=by
 have : n ≤ n * k:=Nat.le_mul_of_pos_right n hk
 unfold reachBytes at h
 omega
theorem lz {n : Nat} {ds : List Dp} (h : Shp Fp n 72 ds) : ∃ l : List Cls,ds = [.sl (l.map Cls.row)] ∧ (∀ c ∈ l,c.ok) ∧ ad l:=by
 cases n with
 | zero=>exact h.elim
 | succ n =>
  simp only [Shp,Tryz.underlying72,DE] at h
  obtain ⟨es,rfl,hb,he⟩:=h
  obtain ⟨l,rfl,hl⟩:=jT (row:=Cls.row) (ok:=Cls.ok) (fun r hr=>xL (he r hr))
  exact ⟨l,rfl,hl,by have:=gk hb (by omega); simpa [ad] using this⟩
theorem AQ {n : Nat} {ds : List Dp} (h : Shp Fp n 73 ds) : ∃ l : List FeeT,ds = [.sl (l.map FeeT.row)] ∧ (∀ c ∈ l,I64 c.credits) ∧ ad l:=by
 cases n with
 | zero=>exact h.elim
 | succ n =>
  simp only [Shp,Tryz.underlying73,DF] at h
  obtain ⟨es,rfl,hb,he⟩:=h
  obtain ⟨l,rfl,hl⟩:=jT (row:=FeeT.row) (ok:=fun c=>I64 c.credits) (fun r hr=>DG (he r hr))
  exact ⟨l,rfl,hl,by have:=gk hb (by omega); simpa [ad] using this⟩
end Go.Vi
open Go Go.Proofs
namespace Go.Vi
open Go.ChangeShapes Go.WideShapes Go.ChangeAt Go.RowKit Go.Proofs.YtilebidefogaiaaGreatDoor
set_option maxRecDepth 100000
theorem ownK : ownKnob Fp.godebug = none:=by kernel_rfl
theorem DH : laidOutB Fp = true:=by kernel_rfl
def kd (a b c d : Bool) (f g : Value) : List Value:=[.bool a,.bool b,.bool c,.bool d,f,g]
def kf (k : Nat) : Value:=.func (.func k) #[] #[]
def kindsCells : List Value :=
 kd false false false false .nilFunc .nilFunc ++ kd false false false true (kf 257) (kf 258) ++ kd false false false true (kf 259) (kf 260) ++ kd false true false true (kf 261) (kf 262) ++
 kd false false false true (kf 263) (kf 264) ++ kd true true false false (kf 265) (kf 267) ++ kd true true false false (kf 269) (kf 270) ++ kd false true false false (kf 271) (kf 272) ++
 kd false true true false (kf 273) (kf 274) ++ kd true false false false (kf 266) (kf 275)
noncomputable def lA (os : Os) : World :=
 { World.holding Fp os ⟨#[],#[],[]⟩ with heap:=(World.holding Fp os ⟨#[],#[],[]⟩).heap.modify 0 fun
   | .cells _ t frozen=>.cells kindsCells.toArray t frozen
   | o=>o }
theorem laid_met (os : Os) (args : Array Value) : laidMetH Fp [("sizar/rules.kinds",HT)] ((lA os).forCall (fun _ _=>0) ⟨#[],args,[]⟩).memory :=
 laidMetH_of_parts3 (fuel:=8) (laidMet_nil _ _) (by kernel_rfl) (by kernel_rfl)
end Go.Vi
open Go Go.Proofs
namespace Go.Vi
open Go.ChangeShapes Go.WideShapes Go.ChangeAt Go.RowKit Go.Proofs.YtilebidefogaiaaGreatDoor
set_option maxRecDepth 100000
theorem DI : Fp.cellsOf 22 = 1:=by kernel_rfl
theorem DJ : Fp.cellsOf 23 = 1:=by kernel_rfl
theorem DK : Fp.cellsOf 24 = 1:=by kernel_rfl
theorem xM : Fp.cellsOf 26 = 3:=by kernel_rfl
theorem DL : Fp.cellsOf 27 = 1:=by kernel_rfl
theorem DM : Fp.cellsOf 29 = 4:=by kernel_rfl
theorem xN : Fp.cellsOf 56 = 3:=by kernel_rfl
theorem xO : Fp.cellsOf 58 = 2:=by kernel_rfl
theorem DN : Fp.cellsOf 60 = 8:=by kernel_rfl
theorem xP : Fp.cellsOf 102 = 4:=by kernel_rfl
theorem AR : Fp.cellsOf 109 = 1:=by kernel_rfl
theorem un : Fp.cellsOf 111 = 6:=by kernel_rfl
theorem AU : Fp.cellsOf 113 = 16:=by kernel_rfl
theorem DP : Fp.bytesOf 76 = 96:=by kernel_rfl
theorem AV : Fp.bytesOf 111 = 72:=by kernel_rfl
theorem AW : Fp.bytesOf 113 = 184:=by kernel_rfl
theorem DQ {n : Nat} {ds : List Dp} (h : Shp Fp n 56 ds) : ∃ a b c,ds = [vi a,vi b,vi c] ∧ I64 a ∧ I64 b ∧ I64 c:=by
 cases n with
 | zero=>exact h.elim
 | succ n =>
  simp only [Shp,Tryz.underlying56,Gv,iz,xN] at h
  obtain ⟨hl,h1,h2,h3,_⟩:=h
  obtain ⟨a,e1,ha⟩:=a8 h1
  obtain ⟨b,e2,hb⟩:=a8 h2
  obtain ⟨c,e3,hc⟩:=a8 h3
  match ds,hl with
  | [p,q,r],_ =>
   simp at e1 e2 e3
   subst e1; subst e2; subst e3
   exact ⟨a,b,c,rfl,ha,hb,hc⟩
theorem AX {n : Nat} {ds : List Dp} (h : Shp Fp n 58 ds) : ∃ a b,ds = [vi a,vi b] ∧ I64 a ∧ I64 b:=by
 cases n with
 | zero=>exact h.elim
 | succ n =>
  simp only [Shp,Tryz.underlying58,Gv,iz,xO] at h
  obtain ⟨hl,h1,h2,_⟩:=h
  obtain ⟨a,e1,ha⟩:=a8 h1
  obtain ⟨b,e2,hb⟩:=a8 h2
  match ds,hl with
  | [p,q],_ =>
   simp at e1 e2
   subst e1; subst e2
   exact ⟨a,b,rfl,ha,hb⟩
theorem AY {n : Nat} {ds : List Dp} (h : Shp Fp n 60 ds) : ∃ f : FactT,ds = f.row ∧ f.ok:=by
 cases n with
 | zero=>exact h.elim
 | succ n =>
  simp only [Shp,Tryz.underlying60,Gv,iz,xN,xO,DN] at h
  obtain ⟨hl,h1,h2,h3,h4,h5,_⟩:=h
  obtain ⟨a,b,c,e1,ha,hb,hc⟩:=DQ h1
  obtain ⟨d,e2,hd⟩:=a8 h2
  obtain ⟨x,y,e3,hx,hy⟩:=AX h3
  obtain ⟨k,e4,hk⟩:=a8 h4
  obtain ⟨m,e5,hm⟩:=a8 h5
  match ds,hl with
  | [p1,p2,p3,p4,p5,p6,p7,p8],_ =>
   simp at e1 e2 e3 e4 e5
   obtain ⟨rfl,rfl,rfl⟩:=e1
   obtain ⟨rfl,rfl⟩:=e3
   subst e2; subst e4; subst e5
   exact ⟨⟨a,b,c,d,x,y,k,m⟩,rfl,ha,hb,hc,hd,hx,hy,hk,hm⟩
theorem xQ {n : Nat} {ds : List Dp} (h : Shp Fp n 27 ds) : ∃ l : List FactT,ds = [.sl (l.map FC)] ∧ (∀ c ∈ l,c.ok):=by
 cases n with
 | zero=>exact h.elim
 | succ n =>
  simp only [Shp,Tryz.underlying27] at h
  obtain ⟨es,rfl,_,he⟩:=h
  obtain ⟨l,rfl,hl⟩:=jT (row:=FC) (ok:=FactT.ok) (fun r hr=>AY (he r hr))
  exact ⟨l,rfl,hl⟩
theorem nb : ∀ {ks : List RuleT},(∀ k ∈ ks,k.ok) → lD ks
 | [],_=>trivial
 | k :: ks,h=>⟨h k (GS ..),nb fun x hx=>h x (Hx _ hx)⟩
theorem oL : ∀ {n : Nat} {ds : List Dp},Shp Fp n 111 ds → ∃ r : RuleT,ds = r.row ∧ r.ok
 | 0,_,h=>h.elim
 | 1,_,h=>by
  simp only [Shp,LC,Gv] at h
  exact h.2.1.elim
 | n + 2,ds,h=>by
  rw [Shp,LC] at h
  simp only [Gv,iz,um,AR,un] at h
  obtain ⟨hl,h1,h2,h3,h4,h5,h6,_⟩:=h
  obtain ⟨a,e1,ha⟩:=a8 h1
  obtain ⟨b,e2,hb⟩:=a8 h2
  obtain ⟨s,e3⟩:=oK h3
  obtain ⟨c,e4,hc⟩:=a8 h4
  obtain ⟨d,e5,hd⟩:=a8 h5
  rw [Shp,Tryz.underlying109] at h6
  simp only [AV] at h6
  obtain ⟨es,e6,hb6,he⟩:=h6
  obtain ⟨l,rfl,hk⟩:=jT (row:=RuleT.row) (ok:=RuleT.ok) (fun r hr=>oL (he r hr))
  have hs : ad l:=by have:=gk hb6 (by omega); simpa [ad] using this
  match ds,hl with
  | [p1,p2,p3,p4,p5,p6],_ =>
   simp at e1 e2 e3 e4 e5 e6
   subst e1; subst e2; subst e3; subst e4; subst e5; subst e6
   refine ⟨.mk a b s c d l,?_,?_⟩
   ·rw [RuleT.row,fb]
   ·rw [RuleT.ok]; exact ⟨⟨ha,hb,hc,hd,hs⟩,nb hk⟩
theorem vv {n : Nat} {ds : List Dp} (h : Shp Fp n 113 ds) : ∃ c : CourseT,ds = c.row ∧ c.ok:=by
 cases n with
 | zero=>exact h.elim
 | succ n =>
  rw [Shp,Tryz.underlying113] at h
  simp only [Gv,iz,um,un,AU] at h
  obtain ⟨hl,h1,h2,h3,h4,h5,h6,_⟩:=h
  obtain ⟨s,e1⟩:=oK h1
  obtain ⟨a,e2,_⟩:=a8 h2
  obtain ⟨b,e3,_⟩:=a8 h3
  obtain ⟨c,e4,_⟩:=a8 h4
  obtain ⟨r,e5,hr⟩:=oL h5
  obtain ⟨t,e6,ht⟩:=oL h6
  rw [← Kx] at e5 e6
  match ds,hl with
  | [p1,p2,p3,p4,p5,p6,p7,p8,p9,p10,p11,p12,p13,p14,p15,p16],_ =>
   simp [RuF.row] at e1 e2 e3 e4 e5 e6
   obtain ⟨rfl,rfl,rfl,rfl,rfl,rfl⟩:=e5
   obtain ⟨rfl,rfl,rfl,rfl,rfl,rfl⟩:=e6
   subst e1; subst e2; subst e3; subst e4
   exact ⟨⟨s,a,b,c,r,t⟩,rfl,hr,ht⟩
theorem sy {n : Nat} {ds : List Dp} (h : Shp Fp n 22 ds) : ∃ l : List CourseT,ds = [.sl (l.map FE)] ∧ (∀ c ∈ l,c.ok) ∧ ad l:=by
 cases n with
 | zero=>exact h.elim
 | succ n =>
  simp only [Shp,Tryz.underlying22,AW] at h
  obtain ⟨es,rfl,hb,he⟩:=h
  obtain ⟨l,rfl,hl⟩:=jT (row:=FE) (ok:=CourseT.ok) (fun r hr=>vv (he r hr))
  exact ⟨l,rfl,hl,by have:=gk hb (by omega); simpa [ad] using this⟩
theorem sA {n : Nat} {ds : List Dp} (h : Shp Fp n 102 ds) : ∃ c : ClauseT,ds = c.row ∧ True:=by
 cases n with
 | zero=>exact h.elim
 | succ n =>
  simp only [Shp,Tryz.underlying102,Gv,iz,xP] at h
  obtain ⟨hl,h1,h2,h3,h4,_⟩:=h
  obtain ⟨a,e1,_⟩:=a8 h1
  obtain ⟨b,e2,_⟩:=a8 h2
  obtain ⟨c,e3,_⟩:=a8 h3
  obtain ⟨d,e4,_⟩:=a8 h4
  match ds,hl with
  | [p,q,r,t],_ =>
   simp at e1 e2 e3 e4
   subst e1; subst e2; subst e3; subst e4
   exact ⟨⟨a,b,c,d⟩,rfl,trivial⟩
theorem AZ {n : Nat} {ds : List Dp} (h : Shp Fp n 76 ds) : ∃ s : SysT,ds = s.row ∧ s.ok:=by
 cases n with
 | zero=>exact h.elim
 | succ n =>
  simp only [Shp,Tryz.underlying76,Gv,Dy,Dz,DA,DB] at h
  obtain ⟨hl,h1,h2,h3,h4,_⟩:=h
  obtain ⟨a,e1,a1,a2⟩:=lz h1
  obtain ⟨b,e2,b1,b2⟩:=AQ h2
  obtain ⟨c,e3,c1,c2⟩:=lz h3
  have h5 : ∃ l : List ClauseT,(List.take 1 (List.drop 3 ds)) = [.sl (l.map GE)] ∧ ad l:=by
   cases n with
   | zero=>exact h4.elim
   | succ n =>
    simp only [Shp,Tryz.underlying74,AP] at h4
    obtain ⟨es,e,hb,he⟩:=h4
    obtain ⟨l,rfl,_⟩:=jT (row:=GE) (ok:=fun _=>True) (fun r hr=>sA (he r hr))
    exact ⟨l,e,by have:=gk hb (by omega); simpa [ad] using this⟩
  obtain ⟨d,e4,d1⟩:=h5
  match ds,hl with
  | [p,q,r,t],_ =>
   simp at e1 e2 e3 e4
   subst e1; subst e2; subst e3; subst e4
   exact ⟨⟨a,b,c,d⟩,rfl,⟨a1,c1,b1,a2,c2,b2,by simpa [ad,SysT.sys] using d1⟩⟩
theorem sB {n : Nat} {ds : List Dp} (h : Shp Fp n 24 ds) : ∃ l : List SysT,ds = [.sl (l.map FF)] ∧ (∀ c ∈ l,c.ok) ∧ ad l:=by
 cases n with
 | zero=>exact h.elim
 | succ n =>
  simp only [Shp,Tryz.underlying24,DP] at h
  obtain ⟨es,rfl,hb,he⟩:=h
  obtain ⟨l,rfl,hl⟩:=jT (row:=FF) (ok:=SysT.ok) (fun r hr=>AZ (he r hr))
  exact ⟨l,rfl,hl,by have:=gk hb (by omega); simpa [ad] using this⟩
theorem xR {n : Nat} {ds : List Dp} (h : Shp Fp n 23 ds) : ∃ l,ds = [.sl l]:=by
 cases n with
 | zero=>exact h.elim
 | succ n =>
  simp only [Shp,Tryz.underlying23] at h
  obtain ⟨es,rfl,_⟩:=h
  exact ⟨es,rfl⟩
theorem xS {n : Nat} {ds : List Dp} (h : Shp Fp n 29 ds) : ∃ w : WorldT,ds.map .p = w.l ∧ w.ok0:=by
 cases n with
 | zero=>exact h.elim
 | succ n =>
  rw [Shp,Tryz.underlying29] at h
  simp only [Gv,xM,DL,DM] at h
  obtain ⟨hl,h1,h2,_⟩:=h
  obtain ⟨f,e4,hf⟩:=xQ h2
  cases n with
  | zero=>exact h1.elim
  | succ n =>
   rw [Shp,Tryz.underlying26] at h1
   simp only [Gv,DI,DJ,DK,xM] at h1
   obtain ⟨_,g1,g2,g3,_⟩:=h1
   obtain ⟨c,e1,c1,c2⟩:=sy g1
   obtain ⟨p,e2⟩:=xR g2
   obtain ⟨s,e3,s1,s2⟩:=sB g3
   match ds,hl with
   | [x,y,z,t],_ =>
    simp at e1 e2 e3 e4
    subst e1; subst e2; subst e3; subst e4
    exact ⟨⟨c,p,s,f⟩,rfl,⟨c1,s1,c2,s2,hf⟩⟩
end Go.Vi
open Go Go.Proofs
namespace Go.Vi
open Go.ChangeShapes Go.WideShapes Go.ChangeAt Go.RowKit Go.Proofs.YtilebidefogaiaaGreatDoor
set_option maxRecDepth 100000
def plainW : List TypeId:=[3,4,9,22,23,24,26,27,29,30,35,56,58,60,72,73,74,76,87,91,102,109,111,113,294,296,298,300]
theorem DR : xm Fp plainW = true:=by kernel_rfl
end Go.Vi
open Go Go.Proofs
namespace Go.Vi
open Go.ChangeShapes Go.WideShapes Go.ChangeAt Go.RowKit Go.Proofs.YtilebidefogaiaaGreatDoor
set_option maxRecDepth 100000
mutual
def Dp.wt : Dp → Nat
 | .sl es=>wtR es
 | .v _=>0
def wtL : List Dp → Nat
 | []=>0
 | d :: ds=>d.wt + wtL ds
def wtR : List (List Dp) → Nat
 | []=>0
 | r :: rs=>1 + wtL r + wtR rs
end
theorem xU : ∀ (a b : List Dp),wtL (a ++ b) = wtL a + wtL b
 | [],b=>by simp [wtL]
 | d :: a,b=>by simp only [List.cons_append,wtL,xU a b]; omega
theorem xV : ∀ {rs : List (List Dp)},∀ r ∈ rs,1 + wtL r ≤ wtR rs
 | a :: rs,r,hr=>by
  simp only [wtR]
  rcases Gd.1 hr with rfl | hr
  ·omega
  ·have:=xV r hr; omega
theorem Ch {H : Type} : ∀ (rs : List (List Dp)) (ds : List (DataW H)),rs.length = ds.length → (∀ (i : Nat) r d,rs[i]? = some r → ds[i]? = some d → wtL r + 1 ≤ GM d) → wtR rs ≤ HX ds
 | [],_,_,_=>by simp [wtR]
 | r :: rs,[],h,_=>by simp at h
 | r :: rs,d :: ds,h,hb=>by
  have h1:=hb 0 r d rfl rfl
  have h2:=Ch rs ds (by simpa using h) fun i r d hr hd=>hb (i + 1) r d (by simpa using hr) (by simpa using hd)
  simp only [wtR,HX]
  omega
section
variable {w : World} {av : Nat → Prop} {P : Program}
theorem jU {cs : List Value} {S : TypeId → List Dp → Prop} {H : Type} {total : Nat} (hc : cs.length = total) : ∀ (fs : List Field) (xs : List (DataW H)) (acc : Nat),cF P fs acc total = true →
  (∀ (i : Nat) f,fs[i]? = some f → ∃ ds x,xs[i]? = some x ∧ S f.type ds ∧ RelPL w av ds ((cs.drop f.offset).take (P.cellsOf f.type)) ∧ wtL ds + 1 ≤ GM x) →
  ∃ D,RelPL w av D (cs.drop acc) ∧ (∀ f ∈ fs,S f.type ((D.drop (f.offset - acc)).take (P.cellsOf f.type))) ∧ wtL D ≤ HX xs
 | [],xs,acc,h,_=>by
  simp only [cF,beq_iff_eq] at h
  refine ⟨[],?_,by simp,by simp [wtL]⟩
  rw [List.drop_of_length_le (by omega)]
  trivial
 | f :: fs,xs,acc,h,hf=>by
  simp only [cF,FB,beq_iff_eq] at h
  obtain ⟨rfl,h⟩:=h
  obtain ⟨ds,x,hx,hs,hr,hb⟩:=hf 0 f rfl
  obtain ⟨y,ys,rfl⟩ : ∃ y ys,xs = y :: ys:=by cases xs with
   | nil=>simp at hx
   | cons y ys=>exact ⟨y,ys,rfl⟩
  obtain rfl : y = x:=by simpa using hx
  obtain ⟨D,hD,hS,hB⟩:=jU hc fs ys _ h fun i g hg=>hf (i + 1) g (by simpa using hg)
  obtain ⟨hle,hoff⟩:=qm h
  have hlen : ds.length = P.cellsOf f.type:=by
   have:=hr.length
   rw [this,List.length_take,List.length_drop]
   omega
  refine ⟨ds ++ D,?_,fun g hg=>?_,by rw [xU]; simp only [HX]; omega⟩
  ·have:=hr.append hD
   rw [← Jk,I7] at this
   exact this
  ·rcases Gd.1 hg with rfl | hg
   ·rw [Nat.sub_self,JC,List.take_append_of_le_length (by omega),← hlen,List.take_length]
    exact hs
   ·have h1:=hoff g hg
    have hd : ∀ k,(ds ++ D).drop (ds.length + k) = D.drop k:=fun k=>by rw [List.drop_append]; simp
    rw [show g.offset - f.offset = ds.length + (g.offset - (f.offset + P.cellsOf f.type)) by omega,hd]
    exact hS g hg
theorem sC {H : Type} {enc : TypeId × Value → H} {spare : Nat → Bool} {ts : List TypeId} (hts : xm P ts = true) (hav : ∀ k,¬ av k) :
  ∀ (fuel : Nat) (t : TypeId) (cs : List Value) (d : DataW H) (ps : List MemPlace),t ∈ ts → Ir enc P w 0 spare true fuel t cs = some (d,ps) → (d.weights P t).all (· ≤ reachBytes) = true →
   ∃ ds,Shp P fuel t ds ∧ RelPL w av ds cs ∧ wtL ds + 1 ≤ GM d:=by
 intro fuel
 induction fuel with
 | zero=>intro t cs d ps _ h; simp [Ir] at h
 | succ n ih =>
  intro t cs d ps ht h hw
  have hp:=AI hts ht
  split at hp
  ·rename_i hu
   obtain ⟨b,rfl,hx⟩:=DataW.trod_bool hu h
   simp only [Fw] at hx
   obtain ⟨rfl,_⟩:=hx
   exact ⟨[.v (.bool b)],by simp only [Shp,hu]; exact ⟨b,rfl⟩,by simp [RelPL,RelP],by simp [wtL,Dp.wt,GM]⟩
  ·rename_i k hu
   obtain ⟨x,rfl,hx,hwf⟩:=DataW.trod_int hu h
   simp only [Fw] at hx
   obtain ⟨rfl,_⟩:=hx
   exact ⟨[.v (.int k x)],by simp only [Shp,hu]; exact ⟨x,rfl,hwf⟩,by simp [RelPL,RelP],by simp [wtL,Dp.wt,GM]⟩
  ·rename_i hu
   obtain ⟨s,rfl,hx,_⟩:=DataW.trod_string hu h
   simp only [Fw] at hx
   obtain ⟨rfl,_⟩:=hx
   have hs : s.size ≤ reachBytes:=by
    simp only [Kl,HY,List.all_nil,Bool.and_true,decide_eq_true_eq,Array.length_toList] at hw
    exact hw
   exact ⟨[.v (.string s)],by simp only [Shp,hu]; exact ⟨s,rfl,hs⟩,by simp [RelPL,RelP],by simp [wtL,Dp.wt,GM]⟩
  ·rename_i e hu
   simp only [FB,decide_eq_true_eq,KT] at hp
   obtain ⟨he,hpos⟩:=hp
   rcases DataW.trod_slice hu h with ⟨rfl,hx⟩ | ⟨a,len,cap,elems,rest,m,hm,rfl,hx,_,hle,_,hlen,hel,_⟩
   ·simp only [Fw] at hx
    obtain ⟨rfl,_⟩:=hx
    refine ⟨[.sl []],by simp only [Shp,hu]; exact ⟨[],rfl,by simp,by simp⟩,?_,by simp [wtL,wtR,Dp.wt,GM]⟩
    simp only [RelPL,RelP,and_true]
    exact .inl ⟨trivial,none,0,rfl,fun _=>rfl⟩
   ·obtain rfl : n = m:=by omega
    simp only [Fw] at hx
    obtain ⟨rfl,_⟩:=hx
    simp only [Kl,hu,HY,List.all_append,FB,decide_eq_true_eq,GB] at hw
    obtain ⟨hw1,hw2,_⟩:=hw
    have key : ∀ i,i < len → ∃ ds ys,Shp P n e ds ∧ RelPL w av ds ys ∧ w.cells? 0 (a.add (i * P.cellsOf e)) (P.cellsOf e) = some ys ∧ ∀ x,elems[i]? = some x → wtL ds + 1 ≤ GM x.1:=by
     intro i hi
     have h1:=hel i hi
     have h2 : elems[i]? = some elems[i]:=FK (by omega)
     generalize elems[i] = x at h2
     rw [h2] at h1
     obtain ⟨ys,h3,h4⟩:=HH.1 h1
     obtain ⟨dx,px⟩:=x
     obtain ⟨ds,h5,h6,h7⟩:=ih e ys dx px he h4 (gz hw2 dx (FY.2 ⟨(dx,px),FV h2,rfl⟩))
     exact ⟨ds,ys,h5,h6,h3,fun x hx=>by rw [h2] at hx; cases hx; exact h7⟩
    obtain ⟨f,hf⟩ : ∃ f : Nat → List Dp,∀ i,i < len → ∃ ys,Shp P n e (f i) ∧ RelPL w av (f i) ys ∧ w.cells? 0 (a.add (i * P.cellsOf e)) (P.cellsOf e) = some ys ∧ ∀ x,elems[i]? = some x → wtL (f i) + 1 ≤ GM x.1:=by
     classical
     refine ⟨fun i=>if hi : i < len then Classical.choose (key i hi) else [],fun i hi=>?_⟩
     simp only [dif_pos hi]
     exact Classical.choose_spec (key i hi)
    refine ⟨[.sl ((List.range len).map f)],?_,?_,?_⟩
    ·simp only [Shp,hu]
     refine ⟨_,rfl,?_,?_⟩
     ·simp only [GB,List.length_range]
      have : len * P.bytesOf e ≤ (elems.length + rest.length) * P.bytesOf e:=Nat.mul_le_mul_right _ (by omega)
      omega
     ·intro r hr
      obtain ⟨i,hi,rfl⟩:=FY.1 hr
      obtain ⟨ys,h1,_⟩:=hf i (by simpa using hi)
      exact h1
    ·simp only [RelPL,RelP,and_true]
     by_cases h0 : len = 0
     ·subst h0
      exact .inl ⟨by simp,some a,cap,rfl,by simp⟩
     ·have hsp : a.spot = none:=by
       obtain ⟨ys,_,_,h3,_⟩:=hf 0 (by omega)
       obtain ⟨h4,h5⟩:=ug h3
       have h6 : ys[0]? = some ys[0]:=FK (by omega)
       have h7:=h5 0 _ h6
       simp only [Nat.zero_mul,Addr.add,if_true] at h7
       unfold J7 at h7
       split at h7
       ·split at h7
        ·simp at h7
        ·rename_i hns
         cases hs : a.spot with
         | none=>rfl
         | some _=>simp [hs] at hns
       ·simp at h7
      obtain ⟨blk,off,sp⟩:=a
      simp only at hsp
      subst hsp
      refine .inr ⟨blk,off,cap,P.cellsOf e,by simp,by simpa using hle,mZ _ _ fun i r hr=>?_⟩
      simp only [GO,FD] at hr
      obtain ⟨j,hj,rfl⟩:=hr
      rw [Fy] at hj
      obtain ⟨hj1,hj2⟩:=hj
      simp only [LD] at hj2
      subst hj2
      obtain ⟨ys,h1,h2,h3,_⟩:=hf i (by simpa using hj1)
      obtain ⟨h4,h5⟩:=ug h3
      refine ⟨by rw [h2.length,h4],lu hav _ _ _ h2 fun k y hy=>?_⟩
      have:=h5 k y hy
      have e1 : (((⟨blk,off,none⟩ : Addr).add (i * P.cellsOf e)).add k) = ⟨blk,off + i * P.cellsOf e + k,none⟩:=by
       rw [cN,cN]
      rwa [e1] at this
    ·have:=Ch ((List.range len).map f) (elems.map (·.1)) (by simp [hlen]) fun i r d hr hd=>by
      simp only [GO,FD] at hr hd
      obtain ⟨j,hj,rfl⟩:=hr
      obtain ⟨x,hx,rfl⟩:=hd
      obtain ⟨hj1,hj2⟩:=Fy.1 hj
      simp only [LD] at hj2
      subst hj2
      obtain ⟨ys,_,_,_,h4⟩:=hf i (by simpa using hj1)
      exact h4 x hx
     simp only [wtL,Dp.wt,GM]
     omega
  ·rename_i fs hu
   simp only [FB,List.all_eq_true,KT] at hp
   obtain ⟨hc,hfs⟩:=hp
   obtain ⟨xs,m,hm,hx,hlen,hxs,hel⟩:=DataW.trod_struct hu h
   obtain rfl : n = m:=by omega
   simp only [Fw] at hx
   obtain ⟨rfl,_⟩:=hx
   simp only [Kl,hu] at hw
   have key : ∀ (i : Nat) f,fs.toList[i]? = some f → ∃ ds x,(xs.map (·.1))[i]? = some x ∧ Shp P n f.type ds ∧ RelPL w av ds ((cs.drop f.offset).take (P.cellsOf f.type)) ∧ wtL ds + 1 ≤ GM x:=by
    intro i f hi
    have hf : f ∈ fs.toList:=FV hi
    have hi' : fs[i]? = some f:=by rw [← Array.getElem?_toList]; exact hi
    have hil : i < xs.length:=by
     rw [hxs]
     have:=(Array.getElem?_eq_some_iff.1 hi').1
     exact this
    have h1:=hel i f hi'
    have h2 : xs[i]? = some xs[i]:=FK hil
    generalize xs[i] = x at h2
    rw [h2] at h1
    obtain ⟨dx,px⟩:=x
    obtain ⟨ds,g1,g2,g3⟩:=ih f.type _ dx px (hfs f hf) h1 (ei hw i f.type dx (by simp [hi]) (by simp [h2]))
    exact ⟨ds,dx,by simp [h2],g1,g2,g3⟩
   obtain ⟨D,hD,hS,hB⟩:=jU hlen fs.toList (xs.map (·.1)) 0 hc key
   rw [JC] at hD
   refine ⟨D,?_,hD,by simp only [GM]; omega⟩
   simp only [Shp,hu]
   refine ⟨by rw [hD.length,hlen],fun f hf=>?_⟩
   have:=hS f hf
   rwa [Nat.sub_zero] at this
  ·simp at hp
end
mutual
theorem sD : ∀ r : RuleT,r.size = 1 + wtL r.row
 | .mk _ _ _ _ _ ks=>by simp only [RuleT.size,RuleT.row,wtL,Dp.wt,uo ks]; omega
theorem uo : ∀ ks : List RuleT,sizeL ks = wtR (cS ks)
 | []=>rfl
 | k :: ks=>by simp only [sizeL,cS,wtR,uo ks,sD k]
end
theorem A0 {w : WorldT} {ds : List Dp} (h : ds.map .p = w.l) {n : Nat} (hn : wtL ds + 1 ≤ n) (hb : n ≤ 1048576) : ∀ x ∈ w.c,x.small:=by
 intro x hx
 have e : ds = [.sl (w.c.map FE),.sl w.p,.sl (w.s.map FF),.sl (w.f.map FC)]:=by
  have : ds.map D.p = [Dp.sl (w.c.map FE),.sl w.p,.sl (w.s.map FF),.sl (w.f.map FC)].map D.p:=h
  exact (List.map_inj_right fun a b e=>by cases e; rfl).1 this
 have h1:=xV x.row (FY.2 ⟨x,hx,rfl⟩)
 have h2 : wtL x.row = wtL x.need.row + wtL x.bar.row:=by
  rw [← Kx,← Kx]
  simp only [FE,RuF.row,wtL,Dp.wt]
  omega
 subst e
 simp only [wtL,Dp.wt] at hn
 have h3:=sD x.need
 have h4:=sD x.bar
 exact ⟨by omega,by omega⟩
theorem vw {H : Type} {enc : TypeId × Value → H} {W : World} {base : Nat} {v : Value} {d : DataW H} {p : List MemPlace}
  (hok : Value.okWide Fp W .any base 29 v) (h : DataW.Trod enc Fp W 0 (fun _=>true) true 29 v d p) (hw : (d.weights Fp 29).all (· ≤ reachBytes) = true) (hb : GM d ≤ 1048576) :
  ∃ w : WorldT,w.ok0 ∧ Rel W (avs (fun _=>False) (fun _=>none) []) (fun _=>none) [] (.agg w.l) v ∧ ∀ x ∈ w.c,x.small:=by
 unfold Value.okWide at hok
 rw [Tryz.underlying29] at hok
 obtain ⟨cs,rfl,_,_⟩:=hok
 obtain ⟨fuel,hf⟩:=h
 obtain ⟨ds,h1,h2,h3⟩:=sC DR uh fuel 29 _ d p (by decide) hf hw
 obtain ⟨w,e,hw0⟩:=xS h1
 refine ⟨w,hw0,?_,A0 e h3 hb⟩
 rw [← e]
 simp only [Rel]
 exact ⟨cs,rfl,h2.relL⟩
end Go.Vi
open Go Go.Proofs
namespace Go.Vi
open Go.ChangeShapes Go.WideShapes Go.ChangeAt Go.RowKit Go.Proofs.YtilebidefogaiaaGreatDoor
set_option maxRecDepth 100000
theorem vz {H : Type} {ds gs : List (DataW H)} {d : DataW H} (h : Rows.uptoSmall H (ds ++ gs) = true) (hd : d ∈ ds) : GM d ≤ 1048576:=by
 have key : ∀ l : List (DataW H),d ∈ l → GM d ≤ HX l:=by
  intro l
  induction l with
  | nil=>intro h; simp at h
  | cons x l ih =>
   intro h
   simp only [HX]
   rcases Gd.1 h with rfl | h
   ·omega
   ·have:=ih h; omega
 have:=of_decide_eq_true h
 have:=key _ (List.mem_append_left gs hd)
 omega
end Go.Vi
open Go Go.Proofs
namespace Go.Vi
open Go.ChangeShapes Go.WideShapes Go.ChangeAt Go.RowKit Go.Proofs.YtilebidefogaiaaGreatDoor
set_option maxRecDepth 100000
def lookF (P : Program) (ks : List Nat) (bs : List UInt8) : Option Nat:=ks.find? fun k=>match P.funcs[k]? with
 | some fn=>(fn.name.toUTF8.data.toList == bs) && (P.funcNamed fn.name == some k)
 | none=>false
theorem A1 {s t : String} (h : s.toUTF8.data.toList = t.toUTF8.data.toList) : s = t:=by
 have h1 : s.toUTF8 = t.toUTF8:=by
  cases hs : s.toUTF8; cases ht : t.toUTF8
  rw [hs,ht] at h
  congr 1
  exact Array.toList_inj.1 h
 exact String.toByteArray_inj.1 h1
theorem sF {P : Program} {ks : List Nat} {t : TypeId} {v : Value} {b : UInt8} {r : List UInt8} {k : Nat} (hv : funcToken P (t,v) = b :: r) (hk : lookF P ks (b :: r) = some k) : v = .func (.func k) #[] #[]:=by
 obtain ⟨f,fn,rfl,h1,h2,h3⟩:=funcToken_tells hv
 have h4:=List.find?_some hk
 split at h4
 ·rename_i fn' hfn
  simp only [FB,beq_iff_eq] at h4
  have : fn.name = fn'.name:=A1 (h3.trans h4.1.symm)
  rw [this,h4.2] at h2
  cases h2
  rfl
 ·simp at h4
def expect (P : Program) (ks : List Nat) : Nat → TypeId → DataW (List UInt8) → Option (List Value)
 | 0,_,_=>none
 | n + 1,t,d=>match P.underlying t with
  | some .bool=>match d with
   | .lit (.bool b)=>some [.bool b]
   | _=>none
  | some (.func ..)=>match d with
   | .nil=>some [.nilFunc]
   | .held (b :: r)=>(lookF P ks (b :: r)).map fun k=>[.func (.func k) #[] #[]]
   | _=>none
  | some (.struct fs)=>match d with
   | .agg ds=>if cF P fs.toList 0 (P.cellsOf t) then (zipE (fun f d=>expect P ks n f d) (fs.toList.map (·.type)) ds) else none
   | _=>none
  | some (.array m e)=>match d with
   | .agg ds=>if decide (P.cellsOf t = m * P.cellsOf e) = true then zipE (fun f d=>expect P ks n f d) (FX m e) ds else none
   | _=>none
  | _=>none
where
 zipE (g : TypeId → DataW (List UInt8) → Option (List Value)) : List TypeId → List (DataW (List UInt8)) → Option (List Value)
  | [],[]=>some []
  | t :: ts,d :: ds=>(g t d).bind fun a=>(zipE g ts ds).map fun b=>a ++ b
  | _,_=>none
theorem qE {P : Program} {g : TypeId → DataW (List UInt8) → Option (List Value)} {tr : TypeId → List Value → Option (DataW (List UInt8) × List MemPlace)} {cs : List Value}
  (hg : ∀ t d ys,g t d = some ys → ∀ c p,tr t c = some (d,p) → c = ys) : ∀ (fs : List Field) (acc : Nat) (xs : List (DataW (List UInt8) × List MemPlace)) (ys : List Value),
  (fs.mapM fun f=>tr f.type ((cs.drop f.offset).take (P.cellsOf f.type))) = some xs → cF P fs acc cs.length = true → expect.zipE g (fs.map (·.type)) (xs.map (·.1)) = some ys → cs.drop acc = ys
 | [],acc,xs,ys,hm,hc,hz=>by
  simp at hm
  subst hm
  simp [expect.zipE] at hz
  subst hz
  simp [cF] at hc
  simp [hc]
 | f :: fs,acc,xs,ys,hm,hc,hz=>by
  simp only [KM,KU,HH,Option.pure_def,Fq] at hm
  obtain ⟨x,hx,xs',hxs,rfl⟩:=hm
  simp only [cF,FB,beq_iff_eq] at hc
  simp only [GJ,expect.zipE,HH,FD] at hz
  obtain ⟨a,ha,b,hb,rfl⟩:=hz
  have h1:=hg _ _ _ ha _ x.2 (by rw [hx])
  have h2:=qE hg fs _ xs' b hxs hc.2 hb
  rw [← h1,← h2,hc.1,← Jk,I7]
theorem uq {e : TypeId} {c : Nat} {g : TypeId → DataW (List UInt8) → Option (List Value)} {tr : TypeId → List Value → Option (DataW (List UInt8) × List MemPlace)} {cs : List Value}
  (hg : ∀ t d ys,g t d = some ys → ∀ c p,tr t c = some (d,p) → c = ys) : ∀ (n k : Nat) (xs : List (DataW (List UInt8) × List MemPlace)) (ys : List Value),
  ((List.range' k n).mapM fun i=>tr e ((cs.drop (i * c)).take c)) = some xs → cs.length = (k + n) * c → expect.zipE g (FX n e) (xs.map (·.1)) = some ys → cs.drop (k * c) = ys
 | 0,k,xs,ys,hm,hc,hz=>by
  simp at hm
  subst hm
  simp [expect.zipE] at hz
  subst hz
  exact List.drop_eq_nil_of_le (by rw [hc]; simp)
 | n + 1,k,xs,ys,hm,hc,hz=>by
  rw [List.range'_succ] at hm
  simp only [KM,KU,HH,Option.pure_def,Fq] at hm
  obtain ⟨x,hx,xs',hxs,rfl⟩:=hm
  rw [List.replicate_succ] at hz
  simp only [GJ,expect.zipE,HH,FD] at hz
  obtain ⟨a,ha,b,hb,rfl⟩:=hz
  have h1:=hg _ _ _ ha _ x.2 (by rw [hx])
  have h2:=uq hg n (k + 1) xs' b hxs (by rw [hc]; congr 1; omega) hb
  rw [← h1,← h2,Nat.add_mul,Nat.one_mul,← Jk,I7]
theorem lB {P : Program} {ks : List Nat} {w : World} {sp : Nat → Bool} : ∀ (n : Nat) (t : TypeId) (d : DataW (List UInt8)) (ys : List Value),expect P ks n t d = some ys → ∀ (fuel : Nat) (cs : List Value) (p : List MemPlace),Ir (funcToken P) P w 0 sp true fuel t cs = some (d,p) → cs = ys
 | 0,_,_,_,h=>by simp [expect] at h
 | n + 1,t,d,ys,h=>by
  intro fuel cs p ht
  cases fuel with
  | zero=>simp [Ir] at ht
  | succ fuel =>
   unfold expect at h
   unfold Ir at ht
   cases hu : P.underlying t with
   | none=>rw [hu] at h; simp at h
   | some td =>
    rw [hu] at h ht
    cases td with
    | bool =>
     simp only at h ht
     split at h
     ·split at ht <;> simp_all
     ·simp at h
    | func a b c =>
     simp only at h ht
     split at h
     ·split at ht <;> simp_all
     ·rename_i b r
      obtain ⟨k,hk,rfl⟩:=FD.1 h
      split at ht
      all_goals (try (simp_all; done))
      ·rename_i fn first captured _ _
       simp only [if_true,Fq,Fw,DataW.held.injEq] at ht
       rw [sF ht.1 hk]
     ·simp at h
    | struct fs =>
     simp only at h ht
     split at h
     ·split at h
      ·rename_i hc
       split at ht
       ·rename_i hl
        obtain ⟨xs,hxs,he⟩:=FD.1 ht
        simp only [Fw,Lj] at he
        obtain ⟨rfl,_⟩:=he
        have:=qE (tr:=fun t c=>Ir (funcToken P) P w 0 sp true fuel t c) (fun t d ys hg c p hp=>lB n t d ys hg fuel c p hp) fs.toList 0 xs ys hxs (by rw [hl]; exact hc) h
        simpa using this
       ·simp at ht
      ·simp at h
     ·simp at h
    | array m e =>
     simp only at h ht
     split at h
     ·split at ht
      ·rename_i hl
       obtain ⟨xs,hxs,he⟩:=FD.1 ht
       simp only [Fw,Lj] at he
       obtain ⟨rfl,_⟩:=he
       split at h
       ·rename_i hc
        rw [List.range_eq_range'] at hxs
        have:=uq (tr:=fun t c=>Ir (funcToken P) P w 0 sp true fuel t c) (fun t d ys hg c p hp=>lB n t d ys hg fuel c p hp) m 0 xs ys hxs (by rw [hl,Nat.zero_add]; exact of_decide_eq_true hc) h
        simpa using this
       ·simp at h
      ·simp at ht
     ·simp at h
    | _=>simp at h
end Go.Vi
open Go Go.Proofs
namespace Go.Vi
open Go.ChangeShapes Go.WideShapes Go.ChangeAt Go.RowKit Go.Proofs.YtilebidefogaiaaGreatDoor
set_option maxRecDepth 100000
def DS : List Nat:=[257,258,259,260,261,262,263,264,265,267,269,270,271,272,273,274,266,275]
def kindsW : DataW Unit:=match (HT : DataW Unit) with
 | .iface _ d=>d
 | d=>d
theorem lC : Fp.globalNamed "sizar/rules.kinds" = some 0:=by kernel_rfl
noncomputable def Ci : TypeId:=((Fp.globals[0]?).map (·.type)).getD 0
theorem vA : (Fp.globals[0]?).map (·.type) = some Ci:=by kernel_rfl
theorem qF : expect Fp DS 4 Ci kindsW.funcsOut = some kindsCells:=by kernel_rfl
theorem sG {W : World} (h : laidMetH Fp [("sizar/rules.kinds",HT)] W) : ∃ cs : Array Value,W.var? Fp "sizar/rules.kinds" = some cs ∧ cs.toList = kindsCells:=by
 obtain ⟨g,t,cs,fuel,p,h1,h2,h3,h4⟩:=laidMetH.funcs h (n:= "sizar/rules.kinds") (d:=kindsW) (List.mem_singleton.2 rfl)
 rw [lC] at h1
 cases h1
 rw [vA] at h2
 cases h2
 exact ⟨cs,h3,lB 4 _ _ _ qF fuel _ _ h4⟩
theorem nc {w : World} {av : Nat → Prop} {blk : Nat} {cs : Array Value} (hb : ∀ off,w.cell? ⟨blk,off,none⟩ = cs[off]?) (hav : ∀ k,¬ av k) : ∀ (ys : List Value) (off : Nat),cs.toList.drop off = ys → RelCells w av blk off (ys.map .v)
 | [],_,_=>by simp [RelCells]
 | y :: ys,off,h=>by
  have h1 : cs[off]? = some y:=by
   have:=congrArg List.head? h
   rw [List.head?_drop] at this
   simpa using this
  have h2 : cs.toList.drop (off + 1) = ys:=by
   rw [← Jk,h]; rfl
  simp only [GJ,RelCells]
  exact ⟨⟨hav blk,y,by rw [hb,h1],by simp [RelP]⟩,nc hb hav ys (off + 1) h2⟩
theorem xW : xY = kindsCells.map .v:=rfl
theorem xX {W : World} (h : laidMetH Fp [("sizar/rules.kinds",HT)] W) : ∀ g cs,Γk g = some cs → RelCells W (avs (fun _=>False) (fun _=>none) []) g 0 cs:=by
 intro g cs hg
 obtain ⟨xs,h1,h2⟩:=sG h
 have h0 : g = 0 ∧ cs = xY:=by
  unfold Γk at hg
  split at hg
  ·exact ⟨rfl,(Option.some.inj hg).symm⟩
  ·simp at hg
 obtain ⟨rfl,rfl⟩:=h0
 rw [xW]
 refine nc (cs:=xs) (fun off=>?_) uh _ 0 (by rw [JC,h2])
 rw [World.var?,lC] at h1
 simp only [Option.bind_some] at h1
 unfold J7
 split at h1
 ·rename_i c a b hh
  cases h1
  simp only [hh]
  rfl
 ·simp at h1
end Go.Vi
