/- StandingOfSpecUpto: part of the proof: contracts of the functions that the law reaches, and the law. No conditions beyond the given statement's own. -/
import Derived.Test.YtilebidefogaiaaGreatDoorW7
import Derived.Ground.SlsfProg
open Bool renaming not_eq_true → JT, or_eq_true → G4, and_eq_true → FB, eq_iff_iff → HB, or_eq_false_iff → GZ, true_and → G1, not_true → IE, false_or → HC
open List renaming any_cons → H7, any_eq_true → Kh, mem_iff_getElem? → Hc, getElem?_eq_some_iff → Fy, getElem?_take_of_lt → Kn, getElem?_zip_eq_some → Hk, getD → FG, foldl_cons → GP, getElem?_zipIdx → HZ, getElem?_eq_getElem → FK, length → Fu, all_eq_true → FZ, take → Gg, drop → Hb, mem_map → FY, map → Fo, all_append → JK, length_cons → GF, all → FN, length_map → GB, range → Gy, replicate → FX, pairwise_mergeSort → Kv, mergeSort_perm → JL, takeWhile_cons → Jv, dropWhile_cons → Lu, takeWhile_append_dropWhile → JM, append_assoc → Ib, pairwise_append → JB, mem_cons → Gd, pairwise_cons → IL, singleton_append → KS
open Option renaming isSome_some → Lb, getD_some → Hl, map_eq_some_iff → FD, isSome → FS
open Nat renaming not_lt_zero → JA, zero_add → Hy, le_refl → FT
open Go.IntKind renaming i64 → Fs, wrap → Fz
open Go.Proofs.Tryz renaming prog → Fp, f127 → Ip, f77 → Lc, f90 → Ld, f42 → Le, f45 → Lf, f74 → Lg
open Go.Exit renaming normal → FH, ret → Gw, exit → Gf
open Go.Vi.CW renaming each → Ha, sym → H5
open Go.Vi.D renaming p → Gj, innL → F6
open Go.Value renaming tuple → Gk, oneCell' → HU
open Int renaming toNat → FA
open Go.Operand renaming tmp → KR
open Go.Vi.AttT renaming row → Ft
open Go.Vi.Ev renaming sym0 → Gu, glob0 → F1
open Go.Vi renaming Sys → HE
open Go.Vi.Cls renaming row → Gh
open Go.Vi.FeeT renaming row → GV
open Go.Vi.CourseT renaming row → FE
open Go.Vi.SysT renaming row → FF, sys → Hu, zero → Iq
open Go.Vi.FactT renaming row → FC
open Go.Vi.Dp renaming sl → Gp
open Go.Vi.ClauseT renaming row → GE
open Go.Vi.PtT renaming row → G5
open List.Perm renaming eq_of_pairwise → JY
open List.Pairwise renaming nil → J9
open Go Go.Proofs
namespace Go.Vi
set_option maxRecDepth 100000
set_option maxHeartbeats 1000000
theorem pa (a b : AttT) (kind i k : Int) : bet a b kind i k = true ↔ (kind = 0 ∧ (a.grade > b.grade ∨ (a.grade = b.grade ∧ (a.term < b.term ∨ (a.term = b.term ∧ i < k))))) ∨ (kind ≠ 0 ∧ (a.term > b.term ∨ (a.term = b.term ∧ i > k))):=by
 unfold bet
 cases h0 : kind == 0 <;> cases h1 : a.grade != b.grade <;> cases h2 : a.term != b.term <;>
  simp only [beq_iff_eq,beq_eq_false_iff_ne,bne_iff_ne,bne_eq_false_iff_eq,ne_eq] at h0 h1 h2 <;> simp only [decide_eq_true_eq] <;> omega
theorem zj {a b : AttT} {kind i k : Int} (h : bet a b kind i k = true) : bet b a kind k i = false:=by
 cases hb : bet b a kind k i
 ·rfl
 ·rw [pa] at h hb; omega
theorem zk {a b c : AttT} {kind i j k : Int} (h1 : bet a b kind i j = true) (h2 : bet b c kind j k = true) : bet a c kind i k = true:=by
 rw [pa] at h1 h2 ⊢; omega
theorem zl {a b : AttT} {x : Int} {n j : Nat} (hx : x = 0 ∨ x = 1) (hj : j < n) : (EX x a b = true → bet a b x n j = true) ∧ (EX x a b = false → bet b a x j n = true):=by
 rw [pa,pa]
 rcases hx with rfl | rfl
 ·have e : EX 0 a b = rep0 a b:=rfl
  rw [e,← JT]
  simp only [rep0,G4,FB,decide_eq_true_eq,beq_iff_eq]
  refine ⟨fun h=>.inl ⟨trivial,?_⟩,fun h=>.inl ⟨trivial,?_⟩⟩ <;> omega
 ·have e : EX 1 a b = rep1 a b:=rfl
  rw [e,← JT]
  simp only [rep1,decide_eq_true_eq]
  constructor <;> intro h <;> omega
structure CInv (l : List AttT) (rp : List Int) (n : Nat) (s : IM × IM) : Prop where
 a1 : ∀ k,k < n → ∀ b v,l[k]? = some b → rp[k]? = some v → imGet s.1 b.course = some v
 a2 : ∀ c v,imGet s.1 c = some v → ∃ k b,k < n ∧ l[k]? = some b ∧ rp[k]? = some v ∧ b.course = c
 b1 : ∀ c j,imGet s.2 c = some j → ∃ (k : Nat) (b : AttT) (v : Int),j = (k : Int) ∧ k < n ∧ l[k]? = some b ∧ rp[k]? = some v ∧ b.course = c ∧ v ≠ 2 ∧ ∀ m,m < n → m ≠ k → ∀ b' v',l[m]? = some b' → rp[m]? = some v' → b'.course = c → bet b b' v k m = true
 b2 : ∀ c,imGet s.2 c = none → ∀ k,k < n → ∀ b v,l[k]? = some b → rp[k]? = some v → b.course = c → v = 2
theorem kcR_any (l : List AttT) (rp : List Int) (i : Nat) (a : AttT) (x : Int) : kcR l rp i a x = bif (((l.zip rp).take i).any fun p=>clash a p.1 x p.2) then .inr () else .inl ():=by
 unfold kcR
 generalize (l.zip rp).take i = z
 induction z with
 | nil=>rfl
 | cons p z ih =>
  simp only [forL,kcF,H7]
  cases clash a p.1 x p.2
  ·simpa using ih
  ·rfl
theorem c_step {l : List AttT} {rp : List Int} {n : Nat} {s : IM × IM} {a : AttT} {x : Int} (hi : CInv l rp n s) (ha : l[n]? = some a) (hx : rp[n]? = some x) :
  (koF l rp ((a,x),n) () = .inr () ∧ caE l ((a,x),n) s = .inr ()) ∨ (koF l rp ((a,x),n) () = .inl () ∧ ∃ s',caE l ((a,x),n) s = .inl s' ∧ CInv l rp (n + 1) s'):=by
 have hbad : koF l rp ((a,x),n) () = bif eN x (imGet s.1 a.course) then .inr () else .inl ():=by
  unfold koF eN
  simp only
  rw [kcR_any]
  have e1 : (decide (x < 0) || decide (x > 2)) = !(decide (x ≥ 0) && decide (x ≤ 2)):=by
   rw [HB]; simp only [G4,decide_eq_true_eq,Bool.not_eq_true',Bool.and_eq_false_iff,decide_eq_false_iff_not]; omega
  have e2 : (((l.zip rp).take n).any fun p=>clash a p.1 x p.2) = ((imGet s.1 a.course).isSome && ((imGet s.1 a.course).getD 0 != x)):=by
   rw [HB,Kh]
   constructor
   ·rintro ⟨p,hp,hc⟩
    obtain ⟨k,hk⟩:=Hc.1 hp
    have hkn : k < n:=by
     have:=(Fy.1 hk).1
     rw [List.length_take] at this; omega
    rw [Kn hkn] at hk
    obtain ⟨h1,h2⟩:=Hk.1 hk
    simp only [clash,FB,beq_iff_eq,bne_iff_ne] at hc
    rw [hc.1,hi.a1 k hkn _ _ h1 h2]
    simpa using fun h=>hc.2 h.symm
   ·intro h
    cases hg : imGet s.1 a.course with
    | none=>rw [hg] at h; simp at h
    | some v =>
     rw [hg] at h
     obtain ⟨k,b,hk,h1,h2,h3⟩:=hi.a2 _ _ hg
     refine ⟨(b,v),Hc.2 ⟨k,?_⟩,?_⟩
     ·rw [Kn hk]; exact Hk.2 ⟨h1,h2⟩
     ·have : v ≠ x:=by simpa using h
      simp [clash,h3,Ne.symm this]
  rw [e1,e2]
  cases !(decide (x ≥ 0) && decide (x ≤ 2)) <;> rfl
 rw [hbad]
 show _ ∨ (_ ∧ ∃ s',caF l (n : Int) x a s = _ ∧ _)
 have hE : caE l ((a,x),n) s = caF l (n : Int) x a s:=rfl
 rw [hE]
 unfold caF
 cases hb : eN x (imGet s.1 a.course)
 ·refine .inr ⟨rfl,_,rfl,?_⟩
  unfold eN at hb
  simp only [GZ,Bool.not_eq_false',FB,decide_eq_true_eq] at hb
  obtain ⟨hr,hcl⟩:=hb
  have same : ∀ k,k < n → ∀ b v,l[k]? = some b → rp[k]? = some v → b.course = a.course → v = x:=by
   intro k hk b v h1 h2 h3
   have:=hi.a1 k hk b v h1 h2
   rw [h3] at this
   rw [this] at hcl
   simpa using hcl
  constructor
  ·intro k hk b v h1 h2
   simp only [fX]
   split
   ·rename_i hc
    by_cases hkn : k = n
    ·subst hkn; rw [h2] at hx; rw [← hx]
    ·rw [same k (by omega) b v h1 h2 hc.symm]
   ·rename_i hc
    by_cases hkn : k = n
    ·subst hkn; rw [h1] at ha; cases ha; exact absurd rfl hc
    ·exact hi.a1 k (by omega) b v h1 h2
  ·intro c v hg
   simp only [fX] at hg
   split at hg
   ·rename_i hc
    cases hg
    exact ⟨n,a,by omega,ha,hx,hc⟩
   ·obtain ⟨k,b,hk,h1,h2,h3⟩:=hi.a2 c v hg
    exact ⟨k,b,by omega,h1,h2,h3⟩
  ·intro c j hg
   simp only at hg
   cases hh : dR l x a (imGet s.2 a.course) <;> rw [hh] at hg <;> simp only at hg
   ·obtain ⟨k,b,v,rfl,hk,h1,h2,h3,h4,h5⟩:=hi.b1 c j hg
    refine ⟨k,b,v,rfl,by omega,h1,h2,h3,h4,fun m hm hmk b' v' q1 q2 q3=>?_⟩
    by_cases hmn : m = n
    ·subst hmn
     rw [ha] at q1; cases q1
     have hvx : v = x:=same k hk b v h1 h2 (h3.trans q3.symm)
     subst hvx
     unfold dR at hh
     rw [q3,hg] at hh
     have h01 : v = 0 ∨ v = 1:=by omega
     have e01 : (v == 0 || v == 1) = true:=by rcases h01 with rfl | rfl <;> rfl
     have hgd : l.getD k default = b:=by rw [FG,h1]; rfl
     simp only [e01,G1,Lb,IE,HC,Hl,Int.toNat_natCast,hgd] at hh
     exact (zl h01 hk).2 hh
    ·exact h5 m (by omega) hmk b' v' q1 q2 q3
   ·rw [fX] at hg
    unfold dR at hh
    simp only [FB,G4,beq_iff_eq] at hh
    obtain ⟨h01,hh⟩:=hh
    split at hg
    ·rename_i hc
     cases hg
     refine ⟨n,a,x,rfl,by omega,ha,hx,hc,by omega,fun m hm hmn b' v' q1 q2 q3=>?_⟩
     have hm' : m < n:=by omega
     have hv':=same m hm' b' v' q1 q2 (q3.trans hc.symm)
     cases hg2 : imGet s.2 a.course with
     | none=>have:=hi.b2 _ hg2 m hm' b' v' q1 q2 (q3.trans hc.symm); omega
     | some j =>
      obtain ⟨k,b,v,rfl,hk,h1,h2,h3,h4,h5⟩:=hi.b1 _ j hg2
      have hvx : v = x:=same k hk b v h1 h2 h3
      subst hvx
      have hgd : l.getD k default = b:=by rw [FG,h1]; rfl
      rw [hg2] at hh
      simp only [Lb,IE,Bool.false_eq_true,false_or,Hl,Int.toNat_natCast,hgd] at hh
      have t1:=(zl h01 hk).1 hh
      by_cases hmk : m = k
      ·subst hmk; rw [h1] at q1; cases q1; exact t1
      ·exact zk t1 (h5 m hm' hmk b' v' q1 q2 (q3.trans hc.symm))
    ·obtain ⟨k,b,v,rfl,hk,h1,h2,h3,h4,h5⟩:=hi.b1 c j hg
     rename_i hc
     refine ⟨k,b,v,rfl,by omega,h1,h2,h3,h4,fun m hm hmk b' v' q1 q2 q3=>?_⟩
     by_cases hmn : m = n
     ·subst hmn; rw [ha] at q1; cases q1; exact absurd q3 hc
     ·exact h5 m (by omega) hmk b' v' q1 q2 q3
  ·intro c hg k hk b v h1 h2 h3
   simp only at hg
   have hg0 : imGet s.2 c = none ∧ (a.course = c → x = 2):=by
    cases hh : dR l x a (imGet s.2 a.course) <;> rw [hh] at hg <;> simp only at hg
    ·refine ⟨hg,fun hc=>?_⟩
     subst hc
     unfold dR at hh
     rw [hg] at hh
     simp at hh
     omega
    ·rw [fX] at hg
     split at hg
     ·cases hg
     ·rename_i hc; exact ⟨hg,fun e=>absurd e hc⟩
   by_cases hkn : k = n
   ·subst hkn; rw [ha] at h1; rw [hx] at h2; cases h1; cases h2; exact hg0.2 h3
   ·exact hi.b2 c hg0.1 k (by omega) b v h1 h2 h3
 ·exact .inl ⟨rfl,rfl⟩
theorem c_run {l : List AttT} {rp : List Int} (hlen : rp.length = l.length) : ∀ (z : List (AttT × Int)) (n : Nat) (s : IM × IM),(l.zip rp).drop n = z → n ≤ l.length → CInv l rp n s →
  (forL (koF l rp) (z.zipIdx n) () = .inr () ∧ forL (caE l) (z.zipIdx n) s = .inr ()) ∨ (forL (koF l rp) (z.zipIdx n) () = .inl () ∧ ∃ s',forL (caE l) (z.zipIdx n) s = .inl s' ∧ CInv l rp l.length s')
 | [],n,s,hz,hn,hi=>by
  have : (l.zip rp).length ≤ n:=List.drop_eq_nil_iff.1 hz
  rw [List.length_zip] at this
  obtain rfl : n = l.length:=by omega
  exact .inr ⟨rfl,s,rfl,hi⟩
 | (a,x) :: z,n,s,hz,hn,hi=>by
  have h1 : (l.zip rp)[n]? = some (a,x):=by
   have:=congrArg List.head? hz
   rw [List.head?_drop] at this
   exact this
  obtain ⟨ha,hx⟩:=Hk.1 h1
  have hn':=(Fy.1 ha).1
  have hz' : (l.zip rp).drop (n + 1) = z:=by rw [← List.drop_drop,hz]; rfl
  rw [List.zipIdx_cons]
  simp only [forL]
  rcases c_step hi ha hx with ⟨e1,e2⟩ | ⟨e1,s',e2,hi'⟩
  ·rw [e1,e2]; exact .inl ⟨rfl,rfl⟩
  ·rw [e1,e2]; exact c_run hlen z (n + 1) s' hz' hn' hi'
theorem zm (l : List AttT) (a : AttT) (x : Int) (i : Nat) : stays l a x i = !(l.zipIdx.any fun p=>outBy a p.1 x (p.2 : Int) (i : Int)):=by
 have key : ∀ (z : List (AttT × Nat)) (c : Bool),z.foldl (kdG a x i) c = (c && !(z.any fun p=>outBy a p.1 x (p.2 : Int) (i : Int))):=by
  intro z
  induction z with
  | nil=>simp
  | cons p z ih =>
   intro c
   rw [GP,ih,H7]
   unfold kdG
   cases outBy a p.1 x (p.2 : Int) (i : Int) <;> cases c <;> simp
 unfold stays
 rw [key,G1]
theorem zn {l : List AttT} {rp : List Int} {s : IM × IM} (hlen : rp.length = l.length) (hi : CInv l rp l.length s) {i : Nat} {a : AttT} {x : Int} (ha : l[i]? = some a) (hx : rp[i]? = some x) : cgHit s.2 i a = stays l a x i:=by
 have hil:=(Fy.1 ha).1
 have get : ∀ {p : AttT × Nat},p ∈ l.zipIdx → l[p.2]? = some p.1:=by
  intro p hp
  obtain ⟨k,hk⟩:=Hc.1 hp
  rw [HZ] at hk
  obtain ⟨b,hb,rfl⟩:=FD.1 hk
  simpa using hb
 rw [zm]
 unfold cgHit
 cases hg : imGet s.2 a.course with
 | none =>
  have h2:=hi.b2 _ hg i hil a x ha hx rfl
  have : (l.zipIdx.any fun p=>outBy a p.1 x (p.2 : Int) (i : Int)) = false:=by
   rw [List.any_eq_false]; intro p _; simp [outBy,h2]
  rw [this]; rfl
 | some j =>
  obtain ⟨k,b,v,rfl,hk,h1,h2,h3,h4,h5⟩:=hi.b1 _ j hg
  have hvx : v = x:=by
   have e1:=hi.a1 k hk b v h1 h2
   have e2:=hi.a1 i hil a x ha hx
   rw [h3,e2] at e1
   exact (Option.some.inj e1).symm
  subst hvx
  by_cases hki : k = i
  ·subst hki
   rw [ha] at h1; cases h1
   have : (l.zipIdx.any fun p=>outBy a p.1 v (p.2 : Int) (k : Int)) = false:=by
    rw [List.any_eq_false]
    intro p hp
    have hp':=get hp
    have hpl:=(Fy.1 hp').1
    unfold outBy
    by_cases hpk : p.2 = k
    ·simp [hpk]
    ·by_cases hc : p.1.course = a.course
     ·have:=zj (h5 p.2 hpl hpk p.1 _ hp' (FK (by omega)) hc)
      simp [this]
     ·simp [hc]
   rw [this]; simp
  ·have : (l.zipIdx.any fun p=>outBy a p.1 v (p.2 : Int) (i : Int)) = true:=by
    rw [Kh]
    refine ⟨(b,k),Hc.2 ⟨k,by rw [HZ,h1]; simp⟩,?_⟩
    have e:=h5 i hil (Ne.symm hki) a v ha hx rfl
    have e2 : ((k : Int) != (i : Int)) = true:=by rw [bne_iff_ne]; omega
    have e3 : (v != 2) = true:=by simpa using h4
    simp only [outBy,e,e2,e3,h3,beq_self_eq_true,Bool.and_true]
   rw [this]
   have : ¬ (k : Int) = (i : Int):=by omega
   simpa using this
theorem ru {l : List AttT} {m2 : IM} : ∀ (z : List (AttT × Int)) (n : Nat) (out : List AttT),(∀ p ∈ z.zipIdx n,cgHit m2 p.2 p.1.1 = stays l p.1.1 p.1.2 p.2) →
  (z.zipIdx n).foldl (fun out p=>keF l p out) out = ((z.map (·.1)).zipIdx n).foldl (fun out e=>cgF m2 e out) out
 | [],_,_,_=>rfl
 | (a,x) :: z,n,out,h=>by
  simp only [List.zipIdx_cons,List.map_cons,GP] at h ⊢
  rw [ru z (n + 1) _ fun p hp=>h p (List.mem_cons_of_mem _ hp)]
  have h0:=h ((a,x),n) (List.mem_cons_self ..)
  unfold keF cgF
  simp only at h0 ⊢
  rw [h0]
theorem BL {l : List AttT} {rp : List Int} (hlen : rp.length = l.length) : jW l rp = lT l rp:=by
 unfold jW
 cases hz : (bP l != 0)
 ·simp only [y1 hlen]
  have h0 : CInv l rp 0 ([],[]):=⟨fun k hk=>absurd hk (JA _),fun c v h=>by simp [imGet] at h,fun c j h=>by simp [imGet] at h,fun c _ k hk=>absurd hk (JA _)⟩
  rcases c_run hlen (l.zip rp) 0 ([],[]) rfl (Nat.zero_le _) h0 with ⟨e1,e2⟩ | ⟨e1,s,e2,hi⟩
  ·have e1' : koR l rp = .inr ():=e1
   have e2' : caR l rp = .inr ():=e2
   rw [e1',uM hz hlen e2']
  ·have e1' : koR l rp = .inl ():=e1
   have e2' : caR l rp = .inl s:=e2
   rw [e1',yZ hz hlen e2']
   simp only
   congr 1
   unfold BK rn
   have hm : (l.zip rp).map (·.1) = l:=List.map_fst_zip (by omega)
   have:=ru (l:=l) (m2:=s.2) (l.zip rp) 0 [] fun p hp=>by
    obtain ⟨k,hk⟩:=Hc.1 hp
    rw [HZ] at hk
    obtain ⟨q,hq,rfl⟩:=FD.1 hk
    obtain ⟨h1,h2⟩:=Hk.1 hq
    simp only [Hy]
    exact zn hlen hi h1 h2
   rw [hm] at this
   exact this
 ·simp only [uL hz]
set_option maxHeartbeats 4000000
abbrev bA (l : List Int) : List (List Dp):=l.map fun n=>[vi n]
abbrev ctS (l : List (List Dp)) (c i : Int) : AS:={ t:=mkT 18 0 [(0,ab l),(1,int c),(4,bool false),(5,int i)],h:=[],m:=[] }
abbrev ctX : Unit → Exit × AS:=fun _=>(.ret,{ t:=mkT 18 0 [(4,bool true)],h:=[],m:=[] })
def ctF (c x : Int) (_ : Unit) : Unit ⊕ Unit:=bif x == c then .inr () else .inl ()
theorem ct_body {l : List (List Dp)} {x c : Int} {i : Nat} (hr : ah (i : Int) l [vi x] 1) (hlt : decide ((i : Int) < (l.length : Int)) = true) (hw : Fs.wrap ((i : Int) + 1) = ((i + 1 : Nat) : Int)) : (CW Fp Γ0 [] false (sub Tryz.f126 0) (ctS l c i) (ae (fun _ : Unit=>ctS l c ((i + 1 : Nat) : Int)) ctX (ctF c x ())).1 (ae (fun _ : Unit=>ctS l c ((i + 1 : Nat) : Int)) ctX (ctF c x ())).2):=by
 cases hc0 : x == c
 ·refine zX { t:=mkT 18 0 [(0,ab l),(1,int c),(4,bool false),(5,int (Fz Fs ((↑i : Int) + 1)))],h:=[],m:=[] } FH [.st (.mask [0,1,4,5])] [.b true,.row [vi x],.b false] (.c hlt (.c hr (.c hc0 .n))) ?_ ?_ <;> (simp only [ctF,hc0,cond_false]; first | rfl | (rw [hw]; rfl))
 ·refine zX { t:=mkT 18 0 [(4,bool true)],h:=[],m:=[] } Gw [.st (.mask [4])] [.b true,.row [vi x],.b true] (.c hlt (.c hr (.c hc0 .n))) ?_ ?_ <;> (simp only [ctF,hc0,cond_true]; rfl)
theorem ct_last {l : List (List Dp)} {c : Int} {i : Nat} (hlt : decide ((i : Int) < (l.length : Int)) = false) : (CW Fp Γ0 [] false (sub Tryz.f126 0) (ctS l c i) (.exit 0) { t:=mkT 18 0 [],h:=[],m:=[] }):=by
 exact zx [.st (.mask [])] [.b false] (.c hlt .n)
def ctR (l : List Int) (c : Int) : Unit ⊕ Unit:=forL (ctF c) l ()
def ctFin (l : List Int) (c : Int) : Exit × AS:=aV (.exit 0) (fun _ : Unit=>{ t:=mkT 18 0 [],h:=[],m:=[] }) ctX (ctR l c)
theorem ct_cw {l : List Int} (hl : ad l) {c : Int} : CW Fp Γ0 [] false (.loop (sub Tryz.f126 0)) (ctS (bA l) c 0) (ctFin l c).1 (ctFin l c).2:=by
 refine Ha l (ctF c) (fun i _=>ctS (bA l) c (i : Int)) (.exit 0) (fun _=>{ t:=mkT 18 0 [],h:=[],m:=[] }) ctX (fun _ _=>True) (by simp) (fun _=>by simp []) ?_ ?_ () trivial
 ·intro i x _ hx _
  have hi:=(Fy.1 hx).1
  exact ⟨fun _ _=>trivial,ct_body (rowAt (row:=fun n=>[vi n]) hx rfl) (lt_len _ hi) (wrap_succ hi hl)⟩
 ·intro _ _
  exact ct_last (aC _ l)
theorem wb {l : List Int} (hl : ad l) {c : Int} (h : List Blk) : (Ev Fp Γ0 126 [ab (bA l),int c] h (bool (match ctR l c with | .inl _=>false | .inr _=>true)) h):=by
 have hl0:=(@ct_cw (l) (hl) (c))
 unfold ctFin at hl0
 revert hl0
 cases ho1 : ctR l c with
 | inl o1_0_0 =>
  intro hl0
  exact zD (bool false) [.sum [0,1,4,5] (Gf 0) { t:=mkT 18 0 [],h:=[],m:=[] }] (.c hl0 .n) h (by simp only [])
 | inr o1_1_0 =>
  intro hl0
  exact zD (bool true) [.sum [0,1,4,5] (Gw) { t:=mkT 18 0 [(4,bool true)],h:=[],m:=[] }] (.c hl0 .n) h (by simp only [])
theorem ctR_eq (l : List Int) (c : Int) : (match ctR l c with | .inl _=>false | .inr _=>true) = l.contains c:=by
 unfold ctR
 induction l with
 | nil=>rfl
 | cons x l ih =>
  have e : (x == c) = (c == x):=by rw [HB]; simp only [beq_iff_eq]; exact eq_comm
  simp only [forL,ctF,List.contains_cons,e]
  cases (c == x)
  ·simpa using ih
  ·rfl
theorem zo {l : List Int} (hl : ad l) {c : Int} (h : List Blk) : Ev Fp Γ0 126 [ab (bA l),int c] h (bool (l.contains c)) h:=by rw [← ctR_eq]; exact wb hl h
abbrev s7S (ls out : List (List Dp)) (i n : Int) : AS:={ t:=mkT 46 0 [(0,ab ls),(3,ab out),(4,int i),(5,int n)],h:=[],m:=[] }
abbrev s7O (ls out : List (List Dp)) (i : Int) : AS:={ t:=mkT 46 0 [(0,ab ls),(3,ab out),(4,int i)],h:=[],m:=[] }
def s7F (x y : Int) (n : Nat) : Nat ⊕ Nat:=bif decide (y < x) then .inl (n + 1) else .inr n
theorem s7_body {ls out : List (List Dp)} {x y : Int} {i n : Nat} (hr : ah (i : Int) ls [vi x] 1) (ho : ah (n : Int) out [vi y] 1) (hlt : decide ((n : Int) < (out.length : Int)) = true) (hw : Fs.wrap ((n : Int) + 1) = ((n + 1 : Nat) : Int)) : (CW Fp Γ0 [] false (sub Ip 1) (s7S ls out i n) (ae (fun m : Nat=>s7S ls out i m) (fun m : Nat=>(.exit 2,s7S ls out i m)) (s7F x y n)).1 (ae (fun m : Nat=>s7S ls out i m) (fun m : Nat=>(.exit 2,s7S ls out i m)) (s7F x y n)).2):=by
 cases hc0 : decide (y < x)
 ·refine zX { t:=mkT 46 0 [(0,ab ls),(3,ab out),(4,int (↑i : Int)),(5,int (↑n : Int))],h:=[],m:=[] } (Gf 2) [.st (.mask [0,3,4,5])] [.g true,.g true,.g true,.row [vi y],.g true,.g true,.g true,.g true,.row [vi x],.g true,.g true,.ov 27 (bool (decide (y < x))),.b false] (.c (show (decide ((↑n : Int) < (↑(Fu out) : Int)) == true) = true from (by rw [hlt]; rfl)) (.c (show (decide ((↑n : Int) < (↑(Fu out) : Int)) == true) = true from (by rw [hlt]; rfl)) (.c (show (decide ((↑n : Int) < (↑(Fu out) : Int)) == true) = true from (by rw [hlt]; rfl)) (.c ho (.c (show (decide ((↑n : Int) < (↑(Fu out) : Int)) == true) = true from (by rw [hlt]; rfl)) (.c (show (decide ((↑n : Int) < (↑(Fu out) : Int)) == true) = true from (by rw [hlt]; rfl)) (.c (show (decide ((↑n : Int) < (↑(Fu out) : Int)) == true) = true from (by rw [hlt]; rfl)) (.c (show (decide ((↑n : Int) < (↑(Fu out) : Int)) == true) = true from (by rw [hlt]; rfl)) (.c hr (.c (show (decide ((↑n : Int) < (↑(Fu out) : Int)) == true) = true from (by rw [hlt]; rfl)) (.c (show (decide ((↑n : Int) < (↑(Fu out) : Int)) == true) = true from (by rw [hlt]; rfl)) (.c (pkt (bool (decide (y < x))) (bool false) hlt) (.c hc0 .n))))))))))))) ?_ ?_ <;> (simp only [s7F,hc0,cond_false]; rfl)
 ·refine zX { t:=mkT 46 0 [(0,ab ls),(3,ab out),(4,int (↑i : Int)),(5,int (Fz Fs ((↑n : Int) + 1)))],h:=[],m:=[] } FH [.st (.mask [0,3,4,5])] [.g true,.g true,.g true,.row [vi y],.g true,.g true,.g true,.g true,.row [vi x],.g true,.g true,.ov 27 (bool (decide (y < x))),.b true] (.c (show (decide ((↑n : Int) < (↑(Fu out) : Int)) == true) = true from (by rw [hlt]; rfl)) (.c (show (decide ((↑n : Int) < (↑(Fu out) : Int)) == true) = true from (by rw [hlt]; rfl)) (.c (show (decide ((↑n : Int) < (↑(Fu out) : Int)) == true) = true from (by rw [hlt]; rfl)) (.c ho (.c (show (decide ((↑n : Int) < (↑(Fu out) : Int)) == true) = true from (by rw [hlt]; rfl)) (.c (show (decide ((↑n : Int) < (↑(Fu out) : Int)) == true) = true from (by rw [hlt]; rfl)) (.c (show (decide ((↑n : Int) < (↑(Fu out) : Int)) == true) = true from (by rw [hlt]; rfl)) (.c (show (decide ((↑n : Int) < (↑(Fu out) : Int)) == true) = true from (by rw [hlt]; rfl)) (.c hr (.c (show (decide ((↑n : Int) < (↑(Fu out) : Int)) == true) = true from (by rw [hlt]; rfl)) (.c (show (decide ((↑n : Int) < (↑(Fu out) : Int)) == true) = true from (by rw [hlt]; rfl)) (.c (pkt (bool (decide (y < x))) (bool false) hlt) (.c hc0 .n))))))))))))) ?_ ?_ <;> (simp only [s7F,hc0,cond_true]; first | rfl | (rw [hw]; rfl))
theorem s7_last {ls out : List (List Dp)} {i : Int} {n : Nat} (hlt : decide ((n : Int) < (out.length : Int)) = false) : (CW Fp Γ0 [] false (sub Ip 1) (s7S ls out i n) (.exit 2) (s7S ls out i n)):=by
 exact zx [.st (.mask [0,3,4,5])] [.g false,.g false,.g false,.g false,.g false,.g false,.g false,.g false,.g false,.ov 27 (bool false),.b false] (.c (show (decide ((↑n : Int) < (↑(Fu out) : Int)) == true) = false from (by rw [hlt]; rfl)) (.c (show (decide ((↑n : Int) < (↑(Fu out) : Int)) == true) = false from (by rw [hlt]; rfl)) (.c (show (decide ((↑n : Int) < (↑(Fu out) : Int)) == true) = false from (by rw [hlt]; rfl)) (.c (show (decide ((↑n : Int) < (↑(Fu out) : Int)) == true) = false from (by rw [hlt]; rfl)) (.c (show (decide ((↑n : Int) < (↑(Fu out) : Int)) == true) = false from (by rw [hlt]; rfl)) (.c (show (decide ((↑n : Int) < (↑(Fu out) : Int)) == true) = false from (by rw [hlt]; rfl)) (.c (show (decide ((↑n : Int) < (↑(Fu out) : Int)) == true) = false from (by rw [hlt]; rfl)) (.c (show (decide ((↑n : Int) < (↑(Fu out) : Int)) == true) = false from (by rw [hlt]; rfl)) (.c (show (decide ((↑n : Int) < (↑(Fu out) : Int)) == true) = false from (by rw [hlt]; rfl)) (.c (pkf (Gj (Dp.v (Gk { toList:=[] }))) (bool false) hlt) (.er false .n)))))))))))
def s7P (out : List Int) (x : Int) : Nat:=match forL (s7F x) out 0 with | .inl n=>n | .inr n=>n
theorem s7_cw {ls out : List Int} (hl : ad out) {i : Nat} {x : Int} (hx : ls[i]? = some x) : CW Fp Γ0 [] false (.loop (sub Ip 1)) (s7S (bA ls) (bA out) i 0) (.exit 2) (s7S (bA ls) (bA out) i (s7P out x)):=by
 have:=Ha (P:=Fp) (Γ:=Γ0) (h0:=[]) (rd:=false) (c:=sub Ip 1) out (s7F x) (fun _ n=>s7S (bA ls) (bA out) i (n : Int)) (.exit 2) (fun n=>s7S (bA ls) (bA out) i (n : Int)) (fun n : Nat=>(.exit 2,s7S (bA ls) (bA out) i (n : Int)))
  (fun k n=>n = k) (by simp) (by simp) ?_ ?_ 0 rfl
 ·unfold s7P
  cases h : forL (s7F x) out 0 <;> rw [h] at this <;> exact this
 ·intro k y n hy hn
  subst hn
  have hi:=(Fy.1 hy).1
  refine ⟨fun m h=>?_,s7_body (rowAt (row:=fun n=>[vi n]) hx rfl) (rowAt (row:=fun n=>[vi n]) hy rfl) (lt_len _ hi) (wrap_succ hi hl)⟩
  unfold s7F at h
  cases hc : decide (y < x) <;> rw [hc] at h <;> simp at h
  exact h.symm
 ·intro n hn
  subst hn
  exact s7_last (aC _ out)
def ws (out : List Int) (x : Int) : List Int:=out.take (s7P out x) ++ [x] ++ out.drop (s7P out x)
section
variable {rows : List (List Dp)} {sz p : Nat}
theorem zp {b : Bool} (hp : p ≤ rows.length) (hz : ∀ r ∈ rows,r.length = sz) : (pv 0 (p : Int) rows.length && true && (true || b) && rows.all fun r=>decide (r.length = sz)) = true:=by
 have h1 : (rows.all fun r=>decide (r.length = sz)) = true:=by rw [FZ]; intro r hr; exact decide_eq_true (hz r hr)
 rw [h1]; simp [pv]; omega
theorem zq {b : Bool} (hp : p ≤ rows.length) (hz : ∀ r ∈ rows,r.length = sz) : (pv (p : Int) (rows.length : Int) rows.length && true && (true || b) && rows.all fun r=>decide (r.length = sz)) = true:=by
 have h1 : (rows.all fun r=>decide (r.length = sz)) = true:=by rw [FZ]; intro r hr; exact decide_eq_true (hz r hr)
 rw [h1]; simp [pv]; omega
theorem Cw {a b n k : Nat} (hz : ∀ r ∈ rows,aG sz (r.map Gj) = true) (hn : n * k ≤ 140737488355328) (h2 : n ≤ 4611686018427387904) : (((Gg a (Hb b rows)).map fun x=>x.map Gj).all (aG sz) && roomOk n k) = true:=by
 have h1 : ((Gg a (Hb b rows)).map fun x=>x.map Gj).all (aG sz) = true:=by
  rw [FZ]
  intro r hr
  obtain ⟨x,hx,rfl⟩:=FY.1 hr
  exact hz x (List.mem_of_mem_drop (List.mem_of_mem_take hx))
 rw [h1]; simp [roomOk]; omega
theorem zr {x : List Dp} {r : List D} (hr : r = x.map Gj) : (Fo (fun x=>Fo Gj x) (Gg (FA (p : Int) - FA 0) (Hb (FA 0) rows)) ++ [r] ++ Fo (fun x=>Fo Gj x) (Gg (FA (rows.length : Int) - FA (p : Int)) (Hb (FA (p : Int)) rows))) = Fo (fun x=>Fo Gj x) (rows.take p ++ [x] ++ rows.drop p):=by
 subst hr
 have e1 : FA (p : Int) - FA 0 = p:=by simp
 have e2 : Gg (FA (rows.length : Int) - FA (p : Int)) (Hb (FA (p : Int)) rows) = rows.drop p:=by
  rw [List.take_of_length_le (by simp)]; simp
 rw [e1,e2]
 simp
end
theorem s8 {R : List (List Dp)} {r : List D} {n : Nat} (hr : F6 n r = true) : ((R.map fun x=>x.map Gj) ++ [r]).all (F6 n) = true:=by
 have:=bu R n
 rw [JK,FB]
 exact ⟨this,by simp [hr]⟩
theorem zt {R S : List (List Dp)} {r : List D} {n : Nat} (hr : F6 n r = true) : ((R.map fun x=>x.map Gj) ++ [r] ++ S.map fun x=>x.map Gj).all (F6 n) = true:=by
 have:=bu S n
 rw [JK,FB]
 exact ⟨s8 hr,this⟩
theorem uP (l : List Int) : ∀ r ∈ bA l,r.length = 1:=by intro r hr; obtain ⟨x,_,rfl⟩:=FY.1 hr; rfl
theorem inR1_ok (l : List Int) : ∀ r ∈ bA l,aG 1 (r.map Gj) = true:=by intro r hr; obtain ⟨x,_,rfl⟩:=FY.1 hr; rfl
theorem zu (out : List Int) (x : Int) : bA (ws out x) = (bA out).take (s7P out x) ++ [[vi x]] ++ (bA out).drop (s7P out x):=by simp [ws,List.map_take,List.map_drop]
theorem Cx (out : List Int) (x : Int) : s7P out x ≤ out.length:=by
 have key : ∀ (l : List Int) (n : Nat),(match forL (s7F x) l n with | .inl n=>n | .inr n=>n) ≤ n + l.length:=by
  intro l
  induction l with
  | nil=>intro n; simp [forL]
  | cons y l ih =>
   intro n
   simp only [forL,s7F,GF]
   cases decide (y < x)
   ·simp
   ·have:=ih (n + 1); simp only [cond_true]; omega
 have:=key out 0
 unfold s7P
 omega
theorem BM {ls out : List Int} (hl : ad out) (hb : out.length ≤ 1000000) {x : Int} {i : Nat} (hp : s7P out x ≤ (bA out).length) (hx : ls[i]? = some x) (hr : ah (i : Int) (bA ls) [vi x] 1) (hlt : decide ((i : Int) < ((bA ls).length : Int)) = true) (hw : Fs.wrap ((i : Int) + 1) = ((i + 1 : Nat) : Int)) : (CW Fp Γ0 [] false (sub Ip 0) (s7O (bA ls) (bA out) i) .normal (s7O (bA ls) (bA (ws out x)) ((i + 1 : Nat) : Int))):=by
 have hl0:=(@s7_cw (ls) (out) (hl) (i) (x) (hx))
 let v0:=Hb (FA 0) (bA out)
 refine zX { t:=mkT 46 0 [(0,ab (bA ls)),(3,ab (bA (ws out x))),(4,int (Fz Fs ((↑i : Int) + 1)))],h:=[],m:=[] } FH [.st (.mask [0,3,4]),.st (.frz 0 (bA (ws out x))),.st (.trim 0)] [.b true,.sum [0,3,4,5] (Gf 2) { t:=mkT 46 0 [(0,ab (bA ls)),(3,ab (bA out)),(4,int (↑i : Int)),(5,int (↑(s7P out x) : Int))],h:=[],m:=[] },.lateO,.row [vi x]] (.c hlt (.c hl0 (.c (show (pv 0 (↑(s7P out x) : Int) (Fu (bA out)) && true && (true || FS (Option.map (evalD Γ0 (mkT 46 0 [(0,ab (bA ls)),(3,ab (bA out)),(4,int (↑i : Int)),(5,int (↑(s7P out x) : Int)),(31,ab (bA out)),(32,int (↑(s7P out x) : Int))])) (some (KR 32)))) && FN (bA out) fun r=>decide (Fu r = 1)) = true from ?_) (.c (show (FN (Fo (fun x=>Fo Gj x) (Gg (FA (↑(s7P out x) : Int) - FA 0) v0)) (aG 1) && roomOk (Fu ([] : List (List D)) + Fu (Fo (fun x=>Fo Gj x) (Gg (FA (↑(s7P out x) : Int) - FA 0) v0))) 8) = true from ?_) (.c hr (.c (show (FN [[int x]] (aG 1) && roomOk (Fu (Fo (fun x=>Fo Gj x) (Gg (FA (↑(s7P out x) : Int) - FA 0) v0)) + Fu [[int x]]) 8) = true from ?_) (.c (show (pv (↑(s7P out x) : Int) (↑(Fu (bA out)) : Int) (Fu (bA out)) && true && (true || false) && FN (bA out) fun r=>decide (Fu r = 1)) = true from ?_) (.c (show (FN (Fo (fun x=>Fo Gj x) (Gg (FA (↑(Fu (bA out)) : Int) - FA (↑(s7P out x) : Int)) (Hb (FA (↑(s7P out x) : Int)) (bA out)))) (aG 1) && roomOk (Fu (Fo (fun x=>Fo Gj x) (Gg (FA (↑(s7P out x) : Int) - FA 0) v0) ++ [[int x]]) + Fu (Fo (fun x=>Fo Gj x) (Gg (FA (↑(Fu (bA out)) : Int) - FA (↑(s7P out x) : Int)) (Hb (FA (↑(s7P out x) : Int)) (bA out))))) 8) = true from ?_) (.c (show FN [] (F6 0) = true from rfl) (.c (show FN [] (F6 1) = true from rfl) (.c (show FN [] (F6 1) = true from rfl) (.c (show FN (Fo (fun x=>Fo Gj x) (Gg (FA (↑(s7P out x) : Int) - FA 0) v0)) (F6 1) = true from ?_) (.c (show FN [] (F6 1) = true from rfl) (.c (show FN (Fo (fun x=>Fo Gj x) (Gg (FA (↑(s7P out x) : Int) - FA 0) v0)) (F6 2) = true from ?_) (.c (show FN [[int x]] (F6 2) = true from rfl) (.c (show FN [] (F6 2) = true from rfl) (.c (show FN (Fo (fun x=>Fo Gj x) (Gg (FA (↑(s7P out x) : Int) - FA 0) v0) ++ [[int x]]) (F6 2) = true from ?_) (.c (show FN [[int x]] (F6 2) = true from rfl) (.c (show FN [] (F6 2) = true from rfl) (.c (show FN (Fo (fun x=>Fo Gj x) (Gg (FA (↑(s7P out x) : Int) - FA 0) v0) ++ [[int x]] ++ Fo (fun x=>Fo Gj x) (Gg (FA (↑(Fu (bA out)) : Int) - FA (↑(s7P out x) : Int)) (Hb (FA (↑(s7P out x) : Int)) (bA out)))) (F6 2) = true from ?_) (.c (show FN [[int x]] (F6 2) = true from rfl) (.c (show FN [] (F6 2) = true from rfl) (.c (show FN [[int x]] (F6 0) = true from rfl) (.c (show FN [] (F6 1) = true from rfl) (.c (show FN [[int x]] (F6 1) = true from rfl) (.c (show FN (Fo (fun x=>Fo Gj x) (Gg (FA (↑(s7P out x) : Int) - FA 0) v0)) (F6 1) = true from ?_) (.c (show FN [[int x]] (F6 1) = true from rfl) (.c (show FN (Fo (fun x=>Fo Gj x) (Gg (FA (↑(s7P out x) : Int) - FA 0) v0)) (F6 2) = true from ?_) (.c (show FN [[int x]] (F6 2) = true from rfl) (.c (show FN [[int x]] (F6 2) = true from rfl) (.c (show FN (Fo (fun x=>Fo Gj x) (Gg (FA (↑(s7P out x) : Int) - FA 0) v0) ++ [[int x]]) (F6 2) = true from ?_) (.c (show FN [[int x]] (F6 2) = true from rfl) (.c (show FN [[int x]] (F6 2) = true from rfl) (.c (show FN (Fo (fun x=>Fo Gj x) (Gg (FA (↑(s7P out x) : Int) - FA 0) v0) ++ [[int x]] ++ Fo (fun x=>Fo Gj x) (Gg (FA (↑(Fu (bA out)) : Int) - FA (↑(s7P out x) : Int)) (Hb (FA (↑(s7P out x) : Int)) (bA out)))) (F6 2) = true from ?_) (.c (show FN [[int x]] (F6 2) = true from rfl) (.c (show FN [[int x]] (F6 2) = true from rfl) (.c (show Fo (fun x=>Fo Gj x) (Gg (FA (↑(s7P out x) : Int) - FA 0) v0) ++ [[int x]] ++ Fo (fun x=>Fo Gj x) (Gg (FA (↑(Fu (bA out)) : Int) - FA (↑(s7P out x) : Int)) (Hb (FA (↑(s7P out x) : Int)) (bA out))) = Fo (fun x=>Fo Gj x) (bA (ws out x)) from ?_) (.er [[int x]] .n)))))))))))))))))))))))))))))))))))))) (by subst v0; rfl) (by subst v0; (rw [hw])) <;> subst v0 <;> (first | exact bu _ _ | exact s8 rfl | exact zt rfl | exact zp hp (uP _) | exact zq hp (uP _) | (refine Cw (inR1_ok _) ?_ ?_ <;> simp <;> omega) | (rw [zu]; exact zr rfl) | (simp [aG,D.one,HU,roomOk]; omega))
theorem BN {ls out : List (List Dp)} {i : Nat} (hlt : decide ((i : Int) < (ls.length : Int)) = false) : (CW Fp Γ0 [] false (sub Ip 0) (s7O ls out i) (.exit 0) { t:=mkT 46 0 [(3,ab out)],h:=[],m:=[] }):=by
 exact zx [.st (.mask [3])] [.b false] (.c hlt .n)
def iP (l : List Int) : List Int:=l.foldl ws []
theorem insI_len (out : List Int) (x : Int) : (ws out x).length = out.length + 1:=by
 have:=Cx out x
 simp [ws]; omega
theorem s7o_cw {ls : List Int} (hl : ls.length ≤ 100000) : CW Fp Γ0 [] false (.loop (sub Ip 0)) (s7O (bA ls) [] 0) (.exit 0) { t:=mkT 46 0 [(3,ab (bA (iP ls)))],h:=[],m:=[] }:=by
 have hs : ad ls:=by unfold ad; omega
 have key:=Ha (P:=Fp) (Γ:=Γ0) (h0:=[]) (rd:=false) (c:=sub Ip 0) (σ:=List Int) (ρ:=Empty) ls (fun x out=>.inl (ws out x))
  (fun i out=>s7O (bA ls) (bA out) (i : Int)) (.exit 0) (fun out=>{ t:=mkT 46 0 [(3,ab (bA out))],h:=[],m:=[] }) (fun r=>r.elim) (fun i out=>out.length = i) (by simp) (fun r=>r.elim) ?_ ?_ [] (by simp)
 ·rw [aK] at key
  exact key
 ·intro i x out hx ho
  have hi:=(Fy.1 hx).1
  refine ⟨fun s h=>?_,?_⟩
  ·cases h; rw [insI_len,ho]
  ·exact BM (by unfold ad; omega) (by omega) (by rw [GB]; exact Cx out x) hx (rowAt (row:=fun n=>[vi n]) hx rfl) (lt_len _ hi) (wrap_succ hi hs)
 ·intro out _
  exact BN (aC _ ls)
theorem s9 {ls : List Int} (hl : ls.length ≤ 100000) (h : List Blk) : (Ev Fp Γ0 127 [ab (bA ls)] h (ab (bA (iP ls))) h):=by
 have hl0:=(@s7o_cw (ls) (hl))
 exact Ev.castH (Ev.nilW (z0 (d:=ab (bA (iP ls))) [.nx 3,.st (.frz 0 []),.st (.trim 0),.sum [0,3,4] (Gf 0) { t:=mkT 46 0 [(3,ab (bA (iP ls)))],h:=[],m:=[] }] (.c (show ([] : List (List D)) = [] from rfl) (.c hl0 .n)) h)) (by rfl) (by rfl)
abbrev puS (ls : List (List Dp)) (a : AttT) (n : Int) : AS:={ t:=mkT 54 0 [(0,ab ls),(3,.ref (.ptr 0 0)),(5,int n)],h:=[.var (a.row.map .p)],m:=[] }
def befA (y a : AttT) : Bool:=decide (y.term < a.term) || (y.term == a.term && decide (y.course < a.course))
def puF (a y : AttT) (n : Nat) : Nat ⊕ Nat:=bif befA y a then .inl (n + 1) else .inr n
theorem pu_body {ls : List (List Dp)} {a y : AttT} {n : Nat} (ho : ah (n : Int) ls y.row 5) (hlt : decide ((n : Int) < (ls.length : Int)) = true) (hw : Fs.wrap ((n : Int) + 1) = ((n + 1 : Nat) : Int)) : (CW Fp Γ0 [] false (sub Lc 0) (puS ls a n) (ae (fun m : Nat=>puS ls a m) (fun m : Nat=>(.exit 0,puS ls a m)) (puF a y n)).1 (ae (fun m : Nat=>puS ls a m) (fun m : Nat=>(.exit 0,puS ls a m)) (puF a y n)).2):=by
 cases hc0 : decide (y.term < a.term)
 ·cases hc1 : y.term == a.term
  ·refine zX { t:=mkT 54 0 [(0,ab ls),(3,.ref (.ptr 0 0)),(5,int (↑n : Int))],h:=[.var [int a.course,int a.term,int a.grade,int a.campus,int a.credits]],m:=[] } (Gf 0) [.st (.mask [0,3,5])] [.g true,.g true,.g true,.row (Ft y),.g true,.g true,.g true,.g true,.g true,.g true,.g true,.g true,.g true,.row (Ft y),.g true,.g true,.g true,.g true,.g true,.g true,.g false,.g false,.g false,.g false,.g false,.g false,.g false,.g false,.g true,.ov 37 (bool false),.g true,.ov 38 (bool false),.ov 39 (bool false),.b false] (.c (show (decide ((↑n : Int) < (↑(Fu ls) : Int)) == true) = true from (by rw [hlt]; rfl)) (.c (show (decide ((↑n : Int) < (↑(Fu ls) : Int)) == true) = true from (by rw [hlt]; rfl)) (.c (show (decide ((↑n : Int) < (↑(Fu ls) : Int)) == true) = true from (by rw [hlt]; rfl)) (.c ho (.c (show (decide ((↑n : Int) < (↑(Fu ls) : Int)) == true) = true from (by rw [hlt]; rfl)) (.c (show (decide ((↑n : Int) < (↑(Fu ls) : Int)) == true) = true from (by rw [hlt]; rfl)) (.c (show (decide ((↑n : Int) < (↑(Fu ls) : Int)) == true) = true from (by rw [hlt]; rfl)) (.c (show (decide ((↑n : Int) < (↑(Fu ls) : Int)) == true) = true from (by rw [hlt]; rfl)) (.c (show (decide ((↑n : Int) < (↑(Fu ls) : Int)) == true) = true from (by rw [hlt]; rfl)) (.c (show (decide ((↑n : Int) < (↑(Fu ls) : Int)) == true) = true from (by rw [hlt]; rfl)) (.c (eqc hc0) (.c (eqc hc0) (.c (eqc hc0) (.c ho (.c (eqc hc0) (.c (eqc hc0) (.c (eqc hc0) (.c (eqc hc0) (.c (eqc hc0) (.c (eqc hc0) (.c (eqb hc1) (.c (eqb hc1) (.c (eqb hc1) (.c (eqb hc1) (.c (eqb hc1) (.c (eqb hc1) (.c (eqb hc1) (.c (eqb hc1) (.c (eqc hc0) (.c (pkf (Gj (Dp.v (Gk { toList:=[] }))) (bool false) hc1) (.c (show (decide ((↑n : Int) < (↑(Fu ls) : Int)) == true) = true from (by rw [hlt]; rfl)) (.c (pkf (bool true) (bool false) hc0) (.c (pkt (bool false) (bool false) hlt) (.er false .n)))))))))))))))))))))))))))))))))) ?_ ?_ <;> (simp only [puF,befA,hc0,hc1,HC,Bool.false_and,cond_false]; rfl)
  ·cases hc2 : decide (y.course < a.course)
   ·refine zX { t:=mkT 54 0 [(0,ab ls),(3,.ref (.ptr 0 0)),(5,int (↑n : Int))],h:=[.var [int a.course,int a.term,int a.grade,int a.campus,int a.credits]],m:=[] } (Gf 0) [.st (.mask [0,3,5])] [.g true,.g true,.g true,.row (Ft y),.g true,.g true,.g true,.g true,.g true,.g true,.g true,.g true,.g true,.row (Ft y),.g true,.g true,.g true,.g true,.g true,.g true,.g true,.g true,.g true,.row (Ft y),.g true,.g true,.g true,.g true,.g true,.g true,.ov 37 (bool (decide (y.course < a.course))),.g true,.ov 38 (bool (decide (y.course < a.course))),.ov 39 (bool (decide (y.course < a.course))),.b false] (.c (show (decide ((↑n : Int) < (↑(Fu ls) : Int)) == true) = true from (by rw [hlt]; rfl)) (.c (show (decide ((↑n : Int) < (↑(Fu ls) : Int)) == true) = true from (by rw [hlt]; rfl)) (.c (show (decide ((↑n : Int) < (↑(Fu ls) : Int)) == true) = true from (by rw [hlt]; rfl)) (.c ho (.c (show (decide ((↑n : Int) < (↑(Fu ls) : Int)) == true) = true from (by rw [hlt]; rfl)) (.c (show (decide ((↑n : Int) < (↑(Fu ls) : Int)) == true) = true from (by rw [hlt]; rfl)) (.c (show (decide ((↑n : Int) < (↑(Fu ls) : Int)) == true) = true from (by rw [hlt]; rfl)) (.c (show (decide ((↑n : Int) < (↑(Fu ls) : Int)) == true) = true from (by rw [hlt]; rfl)) (.c (show (decide ((↑n : Int) < (↑(Fu ls) : Int)) == true) = true from (by rw [hlt]; rfl)) (.c (show (decide ((↑n : Int) < (↑(Fu ls) : Int)) == true) = true from (by rw [hlt]; rfl)) (.c (eqc hc0) (.c (eqc hc0) (.c (eqc hc0) (.c ho (.c (eqc hc0) (.c (eqc hc0) (.c (eqc hc0) (.c (eqc hc0) (.c (eqc hc0) (.c (eqc hc0) (.c (eqa hc1) (.c (eqa hc1) (.c (eqa hc1) (.c ho (.c (eqa hc1) (.c (eqa hc1) (.c (eqa hc1) (.c (eqa hc1) (.c (eqa hc1) (.c (eqc hc0) (.c (pkt (bool (decide (y.course < a.course))) (bool false) hc1) (.c (show (decide ((↑n : Int) < (↑(Fu ls) : Int)) == true) = true from (by rw [hlt]; rfl)) (.c (pkf (bool true) (bool (decide (y.course < a.course))) hc0) (.c (pkt (bool (decide (y.course < a.course))) (bool false) hlt) (.c hc2 .n))))))))))))))))))))))))))))))))))) ?_ ?_ <;> (simp only [puF,befA,hc0,hc1,hc2,HC,Bool.and_false,cond_false]; rfl)
   ·refine zX { t:=mkT 54 0 [(0,ab ls),(3,.ref (.ptr 0 0)),(5,int (Fz Fs ((↑n : Int) + 1)))],h:=[.var [int a.course,int a.term,int a.grade,int a.campus,int a.credits]],m:=[] } FH [.st (.mask [0,3,5])] [.g true,.g true,.g true,.row (Ft y),.g true,.g true,.g true,.g true,.g true,.g true,.g true,.g true,.g true,.row (Ft y),.g true,.g true,.g true,.g true,.g true,.g true,.g true,.g true,.g true,.row (Ft y),.g true,.g true,.g true,.g true,.g true,.g true,.ov 37 (bool (decide (y.course < a.course))),.g true,.ov 38 (bool (decide (y.course < a.course))),.ov 39 (bool (decide (y.course < a.course))),.b true] (.c (show (decide ((↑n : Int) < (↑(Fu ls) : Int)) == true) = true from (by rw [hlt]; rfl)) (.c (show (decide ((↑n : Int) < (↑(Fu ls) : Int)) == true) = true from (by rw [hlt]; rfl)) (.c (show (decide ((↑n : Int) < (↑(Fu ls) : Int)) == true) = true from (by rw [hlt]; rfl)) (.c ho (.c (show (decide ((↑n : Int) < (↑(Fu ls) : Int)) == true) = true from (by rw [hlt]; rfl)) (.c (show (decide ((↑n : Int) < (↑(Fu ls) : Int)) == true) = true from (by rw [hlt]; rfl)) (.c (show (decide ((↑n : Int) < (↑(Fu ls) : Int)) == true) = true from (by rw [hlt]; rfl)) (.c (show (decide ((↑n : Int) < (↑(Fu ls) : Int)) == true) = true from (by rw [hlt]; rfl)) (.c (show (decide ((↑n : Int) < (↑(Fu ls) : Int)) == true) = true from (by rw [hlt]; rfl)) (.c (show (decide ((↑n : Int) < (↑(Fu ls) : Int)) == true) = true from (by rw [hlt]; rfl)) (.c (eqc hc0) (.c (eqc hc0) (.c (eqc hc0) (.c ho (.c (eqc hc0) (.c (eqc hc0) (.c (eqc hc0) (.c (eqc hc0) (.c (eqc hc0) (.c (eqc hc0) (.c (eqa hc1) (.c (eqa hc1) (.c (eqa hc1) (.c ho (.c (eqa hc1) (.c (eqa hc1) (.c (eqa hc1) (.c (eqa hc1) (.c (eqa hc1) (.c (eqc hc0) (.c (pkt (bool (decide (y.course < a.course))) (bool false) hc1) (.c (show (decide ((↑n : Int) < (↑(Fu ls) : Int)) == true) = true from (by rw [hlt]; rfl)) (.c (pkf (bool true) (bool (decide (y.course < a.course))) hc0) (.c (pkt (bool (decide (y.course < a.course))) (bool false) hlt) (.c hc2 .n))))))))))))))))))))))))))))))))))) ?_ ?_ <;> (simp only [puF,befA,hc0,hc1,hc2,HC,Bool.and_true,cond_true]; first | rfl | (rw [hw]; rfl))
 ·refine zX { t:=mkT 54 0 [(0,ab ls),(3,.ref (.ptr 0 0)),(5,int (Fz Fs ((↑n : Int) + 1)))],h:=[.var [int a.course,int a.term,int a.grade,int a.campus,int a.credits]],m:=[] } FH [.st (.mask [0,3,5])] [.g true,.g true,.g true,.row (Ft y),.g true,.g true,.g true,.g true,.g true,.g true,.g false,.g false,.g false,.g false,.g false,.g false,.g false,.g false,.g false,.g false,.g false,.g false,.g false,.g false,.g false,.g false,.g false,.g false,.g true,.ov 38 (bool true),.ov 39 (bool true),.b true] (.c (show (decide ((↑n : Int) < (↑(Fu ls) : Int)) == true) = true from (by rw [hlt]; rfl)) (.c (show (decide ((↑n : Int) < (↑(Fu ls) : Int)) == true) = true from (by rw [hlt]; rfl)) (.c (show (decide ((↑n : Int) < (↑(Fu ls) : Int)) == true) = true from (by rw [hlt]; rfl)) (.c ho (.c (show (decide ((↑n : Int) < (↑(Fu ls) : Int)) == true) = true from (by rw [hlt]; rfl)) (.c (show (decide ((↑n : Int) < (↑(Fu ls) : Int)) == true) = true from (by rw [hlt]; rfl)) (.c (show (decide ((↑n : Int) < (↑(Fu ls) : Int)) == true) = true from (by rw [hlt]; rfl)) (.c (show (decide ((↑n : Int) < (↑(Fu ls) : Int)) == true) = true from (by rw [hlt]; rfl)) (.c (show (decide ((↑n : Int) < (↑(Fu ls) : Int)) == true) = true from (by rw [hlt]; rfl)) (.c (show (decide ((↑n : Int) < (↑(Fu ls) : Int)) == true) = true from (by rw [hlt]; rfl)) (.c (eqd hc0) (.c (eqd hc0) (.c (eqd hc0) (.c (eqd hc0) (.c (eqd hc0) (.c (eqd hc0) (.c (eqd hc0) (.c (eqd hc0) (.c (eqd hc0) (.er false (.er false (.er false (.er false (.er false (.er false (.er false (.er false (.c (eqd hc0) (.c (show (decide ((↑n : Int) < (↑(Fu ls) : Int)) == true) = true from (by rw [hlt]; rfl)) (.c (pkt (bool true) (Gj (Dp.v (Gk { toList:=[] }))) hc0) (.c (pkt (bool true) (bool false) hlt) (.er true .n)))))))))))))))))))))))))))))))) ?_ ?_ <;> (simp only [puF,befA,hc0,Bool.true_or,cond_true]; first | rfl | (rw [hw]; rfl))
theorem pu_last {ls : List (List Dp)} {a : AttT} {n : Nat} (hlt : decide ((n : Int) < (ls.length : Int)) = false) : (CW Fp Γ0 [] false (sub Lc 0) (puS ls a n) (.exit 0) (puS ls a n)):=by
 exact zx [.st (.mask [0,3,5])] [.g false,.g false,.g false,.g false,.g false,.g false,.g false,.g false,.g false,.g false,.g false,.g false,.g false,.g false,.g false,.g false,.g false,.g false,.g false,.g false,.g false,.g false,.g false,.g false,.g false,.g false,.g false,.g false,.ov 39 (bool false),.b false] (.c (show (decide ((↑n : Int) < (↑(Fu ls) : Int)) == true) = false from (by rw [hlt]; rfl)) (.c (show (decide ((↑n : Int) < (↑(Fu ls) : Int)) == true) = false from (by rw [hlt]; rfl)) (.c (show (decide ((↑n : Int) < (↑(Fu ls) : Int)) == true) = false from (by rw [hlt]; rfl)) (.c (show (decide ((↑n : Int) < (↑(Fu ls) : Int)) == true) = false from (by rw [hlt]; rfl)) (.c (show (decide ((↑n : Int) < (↑(Fu ls) : Int)) == true) = false from (by rw [hlt]; rfl)) (.c (show (decide ((↑n : Int) < (↑(Fu ls) : Int)) == true) = false from (by rw [hlt]; rfl)) (.c (show (decide ((↑n : Int) < (↑(Fu ls) : Int)) == true) = false from (by rw [hlt]; rfl)) (.c (show (decide ((↑n : Int) < (↑(Fu ls) : Int)) == true) = false from (by rw [hlt]; rfl)) (.c (show (decide ((↑n : Int) < (↑(Fu ls) : Int)) == true) = false from (by rw [hlt]; rfl)) (.er false (.er false (.er false (.er false (.er false (.er false (.er false (.er false (.er false (.er false (.er false (.er false (.er false (.er false (.er false (.er false (.er false (.er false (.c (show (decide ((↑n : Int) < (↑(Fu ls) : Int)) == true) = false from (by rw [hlt]; rfl)) (.c (pkf (Gj (Dp.v (Gk { toList:=[] }))) (bool false) hlt) (.er false .n))))))))))))))))))))))))))))))
def puP (out : List AttT) (a : AttT) : Nat:=match forL (puF a) out 0 with | .inl n=>n | .inr n=>n
theorem pu_cw {out : List AttT} (hl : ad out) {a : AttT} : CW Fp Γ0 [] false (.loop (sub Lc 0)) (puS (out.map Ft) a 0) (.exit 0) (puS (out.map Ft) a (puP out a)):=by
 have:=Ha (P:=Fp) (Γ:=Γ0) (h0:=[]) (rd:=false) (c:=sub Lc 0) out (puF a) (fun _ n=>puS (out.map Ft) a (n : Int)) (.exit 0) (fun n=>puS (out.map Ft) a (n : Int)) (fun n : Nat=>(.exit 0,puS (out.map Ft) a (n : Int)))
  (fun k n=>n = k) (by simp) (by simp) ?_ ?_ 0 rfl
 ·unfold puP
  cases h : forL (puF a) out 0 <;> rw [h] at this <;> exact this
 ·intro k y n hy hn
  subst hn
  have hi:=(Fy.1 hy).1
  refine ⟨fun m h=>?_,pu_body (rowAt hy rfl) (lt_len _ hi) (wrap_succ hi hl)⟩
  unfold puF at h
  cases hc : befA y a <;> rw [hc] at h <;> simp at h
  exact h.symm
 ·intro n hn
  subst hn
  exact pu_last (aC _ out)
def rN (out : List AttT) (a : AttT) : List AttT:=out.take (puP out a) ++ [a] ++ out.drop (puP out a)
theorem zw (l : List AttT) : ∀ r ∈ l.map Ft,r.length = 5:=by intro r hr; obtain ⟨x,_,rfl⟩:=FY.1 hr; rfl
theorem att_rok (l : List AttT) : ∀ r ∈ l.map Ft,aG 5 (r.map Gj) = true:=by intro r hr; obtain ⟨x,_,rfl⟩:=FY.1 hr; rfl
theorem zy (out : List AttT) (a : AttT) : (rN out a).map Ft = (out.map Ft).take (puP out a) ++ [a.row] ++ (out.map Ft).drop (puP out a):=by simp [rN,List.map_take,List.map_drop]
theorem Cy (out : List AttT) (a : AttT) : puP out a ≤ out.length:=by
 have key : ∀ (l : List AttT) (n : Nat),(match forL (puF a) l n with | .inl n=>n | .inr n=>n) ≤ n + l.length:=by
  intro l
  induction l with
  | nil=>intro n; simp [forL]
  | cons y l ih =>
   intro n
   simp only [forL,puF,GF]
   cases befA y a
   ·simp
   ·have:=ih (n + 1); simp only [cond_true]; omega
 have:=key out 0
 unfold puP
 omega
theorem put_f {out : List AttT} (hl : ad out) (hb : out.length ≤ 1000000) {a : AttT} (hp : puP out a ≤ (out.map Ft).length) : (Ev Fp Γ0 77 [ab (out.map Ft),ag a.row] [] (ab ((rN out a).map Ft)) []):=by
 have hl0:=(@pu_cw (out) (hl) (a))
 let v0 : List D:=[int a.course,int a.term,int a.grade,int a.campus,int a.credits]
 let v1:=Hb (FA 0) (Fo Ft out)
 let v2:=Fu (Fo Ft out)
 let v3:=Fo Ft (rN out a)
 refine Ev.castH (Ev.post (d2:=ab v3) (h2:=[]) (φ:=[Fo (fun x=>Fo Gj x) (Gg (FA (↑(puP out a) : Int) - FA 0) v1) ++ [v0] ++ Fo (fun x=>Fo Gj x) (Gg (FA (↑v2 : Int) - FA (↑(puP out a) : Int)) (Hb (FA (↑(puP out a) : Int)) (Fo Ft out))) = Fo (fun x=>Fo Gj x) v3,[v0] = [v0]]) [.st (.frz 1 v3),.st (.trim 0)] (Ev.of_sym (h':=[.var v0,.vec (Fo (fun x=>Fo Gj x) (Gg (FA (↑(puP out a) : Int) - FA 0) v1) ++ [v0] ++ Fo (fun x=>Fo Gj x) (Gg (FA (↑v2 : Int) - FA (↑(puP out a) : Int)) (Hb (FA (↑(puP out a) : Int)) (Fo Ft out)))) 3 5,.vec [v0] 0 5]) (d:=.ref (.vec 1 3)) pok [.sum [0,3,5] (Gf 0) { t:=mkT 54 0 [(0,ab (Fo Ft out)),(3,.ref (.ptr 0 0)),(5,int (↑(puP out a) : Int))],h:=[.var v0],m:=[] },.lateO] (by kernel_rfl) (.c hl0 (.c (show (pv 0 (↑(puP out a) : Int) v2 && true && (true || FS (Option.map (evalD Γ0 (mkT 54 0 [(0,ab (Fo Ft out)),(3,.ref (.ptr 0 0)),(5,int (↑(puP out a) : Int)),(43,ab (Fo Ft out)),(44,int (↑(puP out a) : Int))])) (some (KR 44)))) && FN (Fo Ft out) fun r=>decide (Fu r = 5)) = true from ?_) (.c (show (FN (Fo (fun x=>Fo Gj x) (Gg (FA (↑(puP out a) : Int) - FA 0) v1)) (aG 5) && roomOk (Fu ([] : List (List D)) + Fu (Fo (fun x=>Fo Gj x) (Gg (FA (↑(puP out a) : Int) - FA 0) v1))) 40) = true from ?_) (.c (show (FN [v0] (aG 5) && roomOk (Fu (Fo (fun x=>Fo Gj x) (Gg (FA (↑(puP out a) : Int) - FA 0) v1)) + Fu [v0]) 40) = true from ?_) (.c (show (pv (↑(puP out a) : Int) (↑v2 : Int) v2 && true && (true || false) && FN (Fo Ft out) fun r=>decide (Fu r = 5)) = true from ?_) (.c (show (FN (Fo (fun x=>Fo Gj x) (Gg (FA (↑v2 : Int) - FA (↑(puP out a) : Int)) (Hb (FA (↑(puP out a) : Int)) (Fo Ft out)))) (aG 5) && roomOk (Fu (Fo (fun x=>Fo Gj x) (Gg (FA (↑(puP out a) : Int) - FA 0) v1) ++ [v0]) + Fu (Fo (fun x=>Fo Gj x) (Gg (FA (↑v2 : Int) - FA (↑(puP out a) : Int)) (Hb (FA (↑(puP out a) : Int)) (Fo Ft out))))) 40) = true from ?_) (.c (show FN [] (F6 1) = true from rfl) (.c (show FN [] (F6 2) = true from rfl) (.c (show FN [] (F6 2) = true from rfl) (.c (show FN (Fo (fun x=>Fo Gj x) (Gg (FA (↑(puP out a) : Int) - FA 0) v1)) (F6 2) = true from ?_) (.c (show FN [] (F6 2) = true from rfl) (.c (show FN (Fo (fun x=>Fo Gj x) (Gg (FA (↑(puP out a) : Int) - FA 0) v1)) (F6 3) = true from ?_) (.c (show FN [v0] (F6 3) = true from rfl) (.c (show FN [] (F6 3) = true from rfl) (.c (show FN (Fo (fun x=>Fo Gj x) (Gg (FA (↑(puP out a) : Int) - FA 0) v1) ++ [v0]) (F6 3) = true from ?_) (.c (show FN [v0] (F6 3) = true from rfl) (.c (show FN [] (F6 3) = true from rfl) (.c (show FN (Fo (fun x=>Fo Gj x) (Gg (FA (↑(puP out a) : Int) - FA 0) v1) ++ [v0] ++ Fo (fun x=>Fo Gj x) (Gg (FA (↑v2 : Int) - FA (↑(puP out a) : Int)) (Hb (FA (↑(puP out a) : Int)) (Fo Ft out)))) (F6 3) = true from ?_) (.c (show FN [v0] (F6 3) = true from rfl) (.c (show FN [] (F6 3) = true from rfl) (.c (show FN [v0] (F6 1) = true from rfl) (.c (show FN [] (F6 2) = true from rfl) (.c (show FN [v0] (F6 2) = true from rfl) (.c (show FN (Fo (fun x=>Fo Gj x) (Gg (FA (↑(puP out a) : Int) - FA 0) v1)) (F6 2) = true from ?_) (.c (show FN [v0] (F6 2) = true from rfl) (.c (show FN (Fo (fun x=>Fo Gj x) (Gg (FA (↑(puP out a) : Int) - FA 0) v1)) (F6 3) = true from ?_) (.c (show FN [v0] (F6 3) = true from rfl) (.c (show FN [v0] (F6 3) = true from rfl) (.c (show FN (Fo (fun x=>Fo Gj x) (Gg (FA (↑(puP out a) : Int) - FA 0) v1) ++ [v0]) (F6 3) = true from ?_) (.c (show FN [v0] (F6 3) = true from rfl) (.c (show FN [v0] (F6 3) = true from rfl) (.c (show FN (Fo (fun x=>Fo Gj x) (Gg (FA (↑(puP out a) : Int) - FA 0) v1) ++ [v0] ++ Fo (fun x=>Fo Gj x) (Gg (FA (↑v2 : Int) - FA (↑(puP out a) : Int)) (Hb (FA (↑(puP out a) : Int)) (Fo Ft out)))) (F6 3) = true from ?_) (.c (show FN [v0] (F6 3) = true from rfl) (.c (show FN [v0] (F6 3) = true from rfl) (.e (ag (Ft a)) (.e (ag (Ft a)) (.e (ag (Ft a)) .n)))))))))))))))))))))))))))))))))))))) (by kernel_rfl) ⟨?_,rfl,trivial⟩) (by rfl) (by rfl) <;> subst v0 v1 v2 v3 <;> (first | exact bu _ _ | exact s8 rfl | exact zt rfl | exact zp hp (zw _) | exact zq hp (zw _) | (refine Cw (att_rok _) ?_ ?_ <;> simp <;> omega) | (rw [zy]; exact zr rfl) | (simp [aG,D.one,HU,roomOk]; omega))
theorem Cz {out : List AttT} (hb : out.length ≤ 1000000) {a : AttT} (h : List Blk) : Ev Fp Γ0 77 [ab (out.map Ft),ag a.row] h (ab ((rN out a).map Ft)) h :=
 Ev.frame0 rfl (put_f (by unfold ad; omega) hb (by rw [GB]; exact Cy out a)) h
end Go.Vi
open Go Go.Proofs Go.Shelf
namespace Go.Proofs
end Go.Proofs
namespace Go.Vi
open Go.Sort
set_option maxRecDepth 100000
set_option maxHeartbeats 4000000
end Go.Vi
open Go Go.Proofs
namespace Go.Vi
def mo (a b c d : Int) : Int:=if bi a b != 0 then bi a b else bi c d
theorem zz {a b c d : Int} (ha : I64 a) (hb : I64 b) (hc : I64 c) (hd : I64 d) (h : List Blk) : Ev Fp Γ0 221 [.agg [int a,int b],.agg [int c,int d]] h (int (mo a b c d)) h:=by
 have h1:=cG ha hb (hAB a b c d)
 have h2:=cG hc hd (hAB a b c d)
 cases h0 : bi a b != 0
 ·simp only [mo,h0]
  exact Gu pok (φ:=[Ev Fp Γ0 142 [.agg [int a,int b]] (hAB a b c d) (int (bi a b)) (hAB a b c d),(bi a b != 0) = false,Ev Fp Γ0 142 [.agg [int c,int d]] (hAB a b c d) (int (bi c d)) (hAB a b c d)])
   [.val (int (bi a b)),.b false,.val (int (bi c d))] (by kernel_rfl) ⟨h1,h0,h2,trivial⟩ rfl rfl h
 ·simp only [mo,h0]
  exact Gu pok (φ:=[Ev Fp Γ0 142 [.agg [int a,int b]] (hAB a b c d) (int (bi a b)) (hAB a b c d),(bi a b != 0) = true])
   [.val (int (bi a b)),.b true] (by kernel_rfl) ⟨h1,h0,trivial⟩ rfl rfl h
theorem BO {a b c d : Int} (h : (mo a b c d != 0) = true) : iv a b c d = (0,mo a b c d):=by
 unfold iv mo at *
 split <;> simp_all
theorem cmpR_ok {a b c d : Int} (h : (mo a b c d != 0) = false) : iv a b c d = (c9 a b c d,0):=by
 unfold iv mo at *
 split <;> simp_all
theorem ta {a b c d : Int} (ha : I64 a) (hb : I64 b) (hc : I64 c) (hd : I64 d) (h : List Blk) : Ev Fp Γ0 188 [.agg [int a,int b],.agg [int c,int d]] h (qr (iv a b c d)) h:=by
 have h1:=zz ha hb hc hd (hAB a b c d)
 cases h0 : mo a b c d != 0
 ·rw [cmpR_ok h0]
  by_cases hlt : Fs.wrap (a * d) < Fs.wrap (c * b)
  ·simp only [c9,aN,hlt,if_true]
   exact Gu pok (φ:=[Ev Fp Γ0 221 [.agg [int a,int b],.agg [int c,int d]] (hAB a b c d) (int (mo a b c d)) (hAB a b c d),(mo a b c d != 0) = false,decide (Fs.wrap (a * d) < Fs.wrap (c * b)) = true])
    [.val (int (mo a b c d)),.b false,.b true] (by kernel_rfl) ⟨h1,h0,decide_eq_true hlt,trivial⟩ rfl rfl h
  ·by_cases hgt : Fs.wrap (a * d) > Fs.wrap (c * b)
   ·simp only [c9,aN,hlt,hgt,if_true,if_false]
    exact Gu pok (φ:=[Ev Fp Γ0 221 [.agg [int a,int b],.agg [int c,int d]] (hAB a b c d) (int (mo a b c d)) (hAB a b c d),(mo a b c d != 0) = false,decide (Fs.wrap (a * d) < Fs.wrap (c * b)) = false,decide (Fs.wrap (a * d) > Fs.wrap (c * b)) = true])
     [.val (int (mo a b c d)),.b false,.b false,.b true] (by kernel_rfl) ⟨h1,h0,decide_eq_false hlt,decide_eq_true hgt,trivial⟩ rfl rfl h
   ·simp only [c9,aN,hlt,hgt,if_false]
    exact Gu pok (φ:=[Ev Fp Γ0 221 [.agg [int a,int b],.agg [int c,int d]] (hAB a b c d) (int (mo a b c d)) (hAB a b c d),(mo a b c d != 0) = false,decide (Fs.wrap (a * d) < Fs.wrap (c * b)) = false,decide (Fs.wrap (a * d) > Fs.wrap (c * b)) = false])
     [.val (int (mo a b c d)),.b false,.b false,.b false] (by kernel_rfl) ⟨h1,h0,decide_eq_false hlt,decide_eq_false hgt,trivial⟩ rfl rfl h
 ·rw [BO h0]
  exact Gu pok (φ:=[Ev Fp Γ0 221 [.agg [int a,int b],.agg [int c,int d]] (hAB a b c d) (int (mo a b c d)) (hAB a b c d),(mo a b c d != 0) = true])
   [.val (int (mo a b c d)),.b true] (by kernel_rfl) ⟨h1,h0,trivial⟩ rfl rfl h
def fo (a b c d : Int) : Bool:=(iv a b c d).2 == 0 && decide ((iv a b c d).1 ≥ 0)
theorem wc {a b c d : Int} (ha : I64 a) (hb : I64 b) (hc : I64 c) (hd : I64 d) (h : List Blk) : Ev Fp Γ0 143 [.agg [int a,int b],.agg [int c,int d]] h (bool (fo a b c d)) h :=
 Gu pok (φ:=[Ev Fp Γ0 188 [.agg [int a,int b],.agg [int c,int d]] (hAB a b c d) (qr (iv a b c d)) (hAB a b c d)])
  [.val (qr (iv a b c d))] (by kernel_rfl) ⟨ta ha hb hc hd _,trivial⟩ rfl rfl h
def eP (earned n d : Int) (c : Cls) : Bool:=decide (earned ≥ c.earn) && fo n d c.num c.den
abbrev cw (s : HE) (n d : Int) : List Blk:=[.var s.cells,.var [int n,int d]]
def zA (s : HE) (l : List Cls) (earned n d : Int) (i : Nat) : AS:={ t:=mkT 54 0 [(1,ab (l.map Gh)),(2,int earned),(7,.ref (.ptr 1 0)),(8,int 0),(9,int 0),(11,int (br (eP earned n d) l i)),(12,int i)],h:=cw s n d,m:=[] }
theorem pc {α : Type} (p : α → Bool) (l : List α) : ∀ n,br p l n ≤ n
 | 0=>FT _
 | n + 1=>by
  unfold br
  split
  ·split
   ·exact FT _
   ·exact Nat.le_succ_of_le (pc p l n)
  ·exact Nat.le_succ_of_le (pc p l n)
theorem wd (s : HE) {l : List Cls} (hl : ∀ c ∈ l,c.ok) (hsl : ad l) {earned n d : Int} (hn : I64 n) (hd : I64 d) :
  CW Fp Γ0 [] false (.loop (sub Ld 0)) (zA s l earned n d 0) (.exit 0) { t:=mkT 54 0 [(11,int (lastIx (eP earned n d) l))],h:=cw s n d,m:=[] }:=by
 refine CW.loopN l.length (zA s l earned n d) (by simp) (fun i hlt=>?_) ?_
 ·have ha : l[i]? = some l[i]:=FK hlt
  generalize l[i] = c at ha
  have hc:=hl c (List.mem_of_getElem? ha)
  have hr : ah (i : Int) (l.map Gh) c.row 4:=rowAt ha rfl
  have hk:=wc hn hd hc.2.1 hc.2.2 (cw s n d)
  have hw:=wrap_succ hlt hsl
  generalize hkk : br (eP earned n d) l i = k
  cases hp : eP earned n d c
  ·have e1 : br (eP earned n d) l (i + 1) = k:=by simp [br,ha,hp,hkk]
   have:=H5 (P:=Fp) (Γ:=Γ0) (h0:=[]) (rd:=false) (c:=sub Ld 0) (s:={ t:=mkT 54 0 [(1,ab (l.map Gh)),(2,int earned),(7,.ref (.ptr 1 0)),(8,int 0),(9,int 0),(11,int k),(12,int i)],h:=cw s n d,m:=[] }) (e:=.normal)
    (s':={ t:=mkT 54 0 [(1,ab (l.map Gh)),(2,int earned),(7,.ref (.ptr 1 0)),(8,int 0),(9,int 0),(11,int k),(12,int (Fs.wrap ((i : Int) + 1)))],h:=cw s n d,m:=[] }) pok
    (φ:=[decide ((i : Int) < ((l.map Gh).length : Int)) = true,ah i (l.map Gh) c.row 4,decide (earned ≥ c.earn) = true → ah i (l.map Gh) c.row 4,
     decide (earned ≥ c.earn) = true → Ev Fp Γ0 143 [.agg [int n,int d],.agg [int c.num,int c.den]] (cw s n d) (bool (fo n d c.num c.den)) (cw s n d),eP earned n d c = false])
    [1,2,7,8,9,11,12] [.b true,.row c.row,.row c.row,.val (bool (fo n d c.num c.den)),.b false] (by kernel_rfl) ⟨lt_len _ hlt,hr,fun _=>hr,fun _=>hk,hp,trivial⟩
   rw [hw] at this
   simp only [zA,e1,hkk]
   exact this
  ·have e1 : br (eP earned n d) l (i + 1) = i + 1:=by simp [br,ha,hp]
   have:=H5 (P:=Fp) (Γ:=Γ0) (h0:=[]) (rd:=false) (c:=sub Ld 0) (s:={ t:=mkT 54 0 [(1,ab (l.map Gh)),(2,int earned),(7,.ref (.ptr 1 0)),(8,int 0),(9,int 0),(11,int k),(12,int i)],h:=cw s n d,m:=[] }) (e:=.normal)
    (s':={ t:=mkT 54 0 [(1,ab (l.map Gh)),(2,int earned),(7,.ref (.ptr 1 0)),(8,int 0),(9,int 0),(11,int (Fs.wrap ((i : Int) + 1))),(12,int (Fs.wrap ((i : Int) + 1)))],h:=cw s n d,m:=[] }) pok
    (φ:=[decide ((i : Int) < ((l.map Gh).length : Int)) = true,ah i (l.map Gh) c.row 4,decide (earned ≥ c.earn) = true → ah i (l.map Gh) c.row 4,
     decide (earned ≥ c.earn) = true → Ev Fp Γ0 143 [.agg [int n,int d],.agg [int c.num,int c.den]] (cw s n d) (bool (fo n d c.num c.den)) (cw s n d),eP earned n d c = true])
    [1,2,7,8,9,11,12] [.b true,.row c.row,.row c.row,.val (bool (fo n d c.num c.den)),.b true] (by kernel_rfl) ⟨lt_len _ hlt,hr,fun _=>hr,fun _=>hk,hp,trivial⟩
   rw [hw] at this
   simp only [zA,e1,hkk]
   exact this
 ·exact H5 pok (φ:=[decide ((l.length : Int) < ((l.map Gh).length : Int)) = false]) [11] [.b false] (by kernel_rfl) ⟨aC _ l,trivial⟩
def gr (s : HE) (l : List Cls) (earned n d : Int) : Int × Int :=
 if jo s != 0 || decide (earned < 0) || decide (earned > 10000) then (0,1) else if bi n d != 0 then (0,bi n d) else (lastIx (eP earned n d) l,0)
theorem uQ {s : HE} (hs : s.ok) {l : List Cls} (hl : ∀ c ∈ l,c.ok) (hsl : ad l) {earned n d : Int} (hn : I64 n) (hd : I64 d) (h : List Blk) :
  Ev Fp Γ0 90 [.agg s.cells,ab (l.map Gh),int earned,.agg [int n,int d]] h (qr (gr s l earned n d)) h:=by
 have h1:=qu hs (cw s n d)
 have h4:=cG hn hd (cw s n d)
 cases h0 : jo s != 0 || decide (earned < 0) || decide (earned > 10000)
 ·cases h3 : bi n d != 0
  ·have hloop:=wd s hl hsl (earned:=earned) hn hd
   simp only [gr,h0,h3]
   exact Gu pok (φ:=[Ev Fp Γ0 44 [.agg s.cells] (cw s n d) (int (jo s)) (cw s n d),(jo s != 0 || decide (earned < 0) || decide (earned > 10000)) = false,
    Ev Fp Γ0 142 [.agg [int n,int d]] (cw s n d) (int (bi n d)) (cw s n d),(bi n d != 0) = false,
    CW Fp Γ0 [] false (.loop (sub Ld 0)) (zA s l earned n d 0) (.exit 0) { t:=mkT 54 0 [(11,int (lastIx (eP earned n d) l))],h:=cw s n d,m:=[] }])
    [.val (int (jo s)),.b false,.val (int (bi n d)),.b false,.sum [1,2,7,8,9,11,12] (.exit 0) { t:=mkT 54 0 [(11,int (lastIx (eP earned n d) l))],h:=cw s n d,m:=[] }] (by kernel_rfl) ⟨h1,h0,h4,h3,hloop,trivial⟩ rfl rfl h
  ·simp only [gr,h0,h3]
   exact Gu pok (φ:=[Ev Fp Γ0 44 [.agg s.cells] (cw s n d) (int (jo s)) (cw s n d),(jo s != 0 || decide (earned < 0) || decide (earned > 10000)) = false,
    Ev Fp Γ0 142 [.agg [int n,int d]] (cw s n d) (int (bi n d)) (cw s n d),(bi n d != 0) = true])
    [.val (int (jo s)),.b false,.val (int (bi n d)),.b true] (by kernel_rfl) ⟨h1,h0,h4,h3,trivial⟩ rfl rfl h
 ·simp only [gr,h0]
  exact Gu pok (φ:=[Ev Fp Γ0 44 [.agg s.cells] (cw s n d) (int (jo s)) (cw s n d),(jo s != 0 || decide (earned < 0) || decide (earned > 10000)) = true])
    [.val (int (jo s)),.b true] (by kernel_rfl) ⟨h1,h0,trivial⟩ rfl rfl h
theorem zB {s : HE} (hs : s.ok) {earned n d : Int} (hn : I64 n) (hd : I64 d) (h : List Blk) : Ev Fp Γ0 38 [.agg s.cells,int earned,.agg [int n,int d]] h (qr (gr s s.classes earned n d)) h :=
 Gu pok (φ:=[Ev Fp Γ0 90 [.agg s.cells,ab (s.classes.map Gh),int earned,.agg [int n,int d]] (cw s n d) (qr (gr s s.classes earned n d)) (cw s n d)])
  [.val (qr (gr s s.classes earned n d))] (by kernel_rfl) ⟨uQ hs hs.c hs.lc hn hd _,trivial⟩ rfl rfl h
theorem we {s : HE} (hs : s.ok) {earned n d : Int} (hn : I64 n) (hd : I64 d) (h : List Blk) : Ev Fp Γ0 40 [.agg s.cells,int earned,.agg [int n,int d]] h (qr (gr s s.honours earned n d)) h :=
 Gu pok (φ:=[Ev Fp Γ0 90 [.agg s.cells,ab (s.honours.map Gh),int earned,.agg [int n,int d]] (cw s n d) (qr (gr s s.honours earned n d)) (cw s n d)])
  [.val (qr (gr s s.honours earned n d))] (by kernel_rfl) ⟨uQ hs hs.h hs.lh hn hd _,trivial⟩ rfl rfl h
def zC (x : Int) (f : FeeT) : Bool:=decide (x ≥ f.credits)
def zF (s : HE) (x : Int) (i : Nat) : AS:={ t:=mkT 37 0 [(1,int x),(2,.ref (.ptr 0 0)),(6,int (br (zC x) s.fees i)),(7,int i)],h:=[.var s.cells],m:=[] }
theorem zG {s : HE} (hs : s.ok) (x : Int) :
  CW Fp Γ0 [] false (.loop (sub Le 0)) (zF s x 0) (.exit 0) { t:=mkT 37 0 [(6,int (lastIx (zC x) s.fees))],h:=[.var s.cells],m:=[] }:=by
 refine CW.loopN s.fees.length (zF s x) (by simp) (fun i hlt=>?_) ?_
 ·have ha : s.fees[i]? = some s.fees[i]:=FK hlt
  generalize s.fees[i] = c at ha
  have hr : ah (i : Int) (s.fees.map GV) c.row 2:=rowAt ha rfl
  have hw:=wrap_succ hlt hs.lf
  generalize hkk : br (zC x) s.fees i = k
  cases hp : zC x c
  ·have e1 : br (zC x) s.fees (i + 1) = k:=by simp [br,ha,hp,hkk]
   have:=H5 (P:=Fp) (Γ:=Γ0) (h0:=[]) (rd:=false) (c:=sub Le 0) (s:={ t:=mkT 37 0 [(1,int x),(2,.ref (.ptr 0 0)),(6,int k),(7,int i)],h:=[.var s.cells],m:=[] }) (e:=.normal)
    (s':={ t:=mkT 37 0 [(1,int x),(2,.ref (.ptr 0 0)),(6,int k),(7,int (Fs.wrap ((i : Int) + 1)))],h:=[.var s.cells],m:=[] }) pok
    (φ:=[decide ((i : Int) < ((s.fees.map GV).length : Int)) = true,ah i (s.fees.map GV) c.row 2,zC x c = false])
    [1,2,6,7] [.b true,.row c.row,.b false] (by kernel_rfl) ⟨lt_len _ hlt,hr,hp,trivial⟩
   rw [hw] at this
   simp only [zF,e1,hkk]
   exact this
  ·have e1 : br (zC x) s.fees (i + 1) = i + 1:=by simp [br,ha,hp]
   have:=H5 (P:=Fp) (Γ:=Γ0) (h0:=[]) (rd:=false) (c:=sub Le 0) (s:={ t:=mkT 37 0 [(1,int x),(2,.ref (.ptr 0 0)),(6,int k),(7,int i)],h:=[.var s.cells],m:=[] }) (e:=.normal)
    (s':={ t:=mkT 37 0 [(1,int x),(2,.ref (.ptr 0 0)),(6,int (Fs.wrap ((i : Int) + 1))),(7,int (Fs.wrap ((i : Int) + 1)))],h:=[.var s.cells],m:=[] }) pok
    (φ:=[decide ((i : Int) < ((s.fees.map GV).length : Int)) = true,ah i (s.fees.map GV) c.row 2,zC x c = true])
    [1,2,6,7] [.b true,.row c.row,.b true] (by kernel_rfl) ⟨lt_len _ hlt,hr,hp,trivial⟩
   rw [hw] at this
   simp only [zF,e1,hkk]
   exact this
 ·exact H5 pok (φ:=[decide ((s.fees.length : Int) < ((s.fees.map GV).length : Int)) = false]) [6] [.b false] (by kernel_rfl) ⟨aC _ s.fees,trivial⟩
def wg (s : HE) (x : Int) : Int × Int:=if jo s != 0 || decide (x < 0) || decide (x > 10000) then (0,1) else (lastIx (zC x) s.fees,0)
theorem rfee_ev {s : HE} (hs : s.ok) (x : Int) (h : List Blk) : Ev Fp Γ0 42 [.agg s.cells,int x] h (qr (wg s x)) h:=by
 have h1:=qu hs [.var s.cells]
 cases h0 : jo s != 0 || decide (x < 0) || decide (x > 10000)
 ·have hloop:=zG hs x
  simp only [wg,h0]
  exact Gu pok (φ:=[Ev Fp Γ0 44 [.agg s.cells] [.var s.cells] (int (jo s)) [.var s.cells],(jo s != 0 || decide (x < 0) || decide (x > 10000)) = false,
   CW Fp Γ0 [] false (.loop (sub Le 0)) (zF s x 0) (.exit 0) { t:=mkT 37 0 [(6,int (lastIx (zC x) s.fees))],h:=[.var s.cells],m:=[] }])
   [.val (int (jo s)),.b false,.sum [1,2,6,7] (.exit 0) { t:=mkT 37 0 [(6,int (lastIx (zC x) s.fees))],h:=[.var s.cells],m:=[] }] (by kernel_rfl) ⟨h1,h0,hloop,trivial⟩ rfl rfl h
 ·simp only [wg,h0]
  exact Gu pok (φ:=[Ev Fp Γ0 44 [.agg s.cells] [.var s.cells] (int (jo s)) [.var s.cells],(jo s != 0 || decide (x < 0) || decide (x > 10000)) = true])
   [.val (int (jo s)),.b true] (by kernel_rfl) ⟨h1,h0,trivial⟩ rfl rfl h
def few (s : HE) : Bool:=decide (Fs.wrap (Fs.wrap (Fs.wrap (((s.classes.map Gh).length : Int) + ((s.fees.map GV).length : Int)) + ((s.honours.map Gh).length : Int)) + (s.clauses.length : Int)) ≤ 40)
theorem few_ev (s : HE) (h : List Blk) : Ev Fp Γ0 36 [.agg s.cells] h (bool (few s)) h :=
 Gu pok (φ:=[]) [] (by kernel_rfl) trivial rfl rfl h
theorem zH {s : SysT} (h : List Blk) : Ev Fp Γ0 36 [ag s.row] h (bool (few s.sys)) h:=few_ev s.sys h
abbrev fwS (w : WorldT) (i : Int) : AS:={ t:=mkT 45 0 [(1,.ref (.ptr 0 0)),(3,int i)],h:=[.var w.l],m:=[] }
abbrev fwX : Unit → Exit × AS:=fun _=>(.ret,{ t:=mkT 45 0 [(2,bool false)],h:=[],m:=[] })
def fwF (s : SysT) (_ : Unit) : Unit ⊕ Unit:=bif few s.sys then .inl () else .inr ()
theorem not_t {b : Bool} (h : (!b) = false) : b = true:=by cases b <;> simp_all
theorem not_f {b : Bool} (h : (!b) = true) : b = false:=by cases b <;> simp_all
attribute [local irreducible] few
noncomputable abbrev jB (w : WorldT) : List Blk:=[.var [ab (Fo FE w.c),ab w.p,ab (Fo FF w.s),ab (Fo FC w.f)]]
theorem fw_body {w : WorldT} {s : SysT} {i : Nat} (hr : ah (i : Int) (w.s.map FF) s.row 4) (hlt : decide ((i : Int) < ((w.s.map FF).length : Int)) = true) (hw : Fs.wrap ((i : Int) + 1) = ((i + 1 : Nat) : Int)) : (CW Fp Γ0 [] false (sub Lf 0) (fwS w i) (ae (fun _=>fwS w ((i + 1 : Nat) : Int)) fwX (fwF s ())).1 (ae (fun _=>fwS w ((i + 1 : Nat) : Int)) fwX (fwF s ())).2):=by
 cases hc0 : !few (Hu s)
 ·refine zX { t:=mkT 45 0 [(1,.ref (.ptr 0 0)),(3,int (Fz Fs ((↑i : Int) + 1)))],h:=(jB w),m:=[] } FH [.st (.mask [1,3])] [.b true,.row [Gp (Fo Gh s.classes),Gp (Fo GV s.fees),Gp (Fo Gh s.honours),Gp (Fo GE s.clauses)],.val (bool (few (Hu s))),.b false] (.c hlt (.c hr (.c (@zH s (jB w)) (.c hc0 .n)))) ?_ ?_ <;> (have hh : few (Hu s) = true:=not_t hc0; simp only [fwF,hh,cond_true,ae,hw]; first | done | rfl)
 ·refine zX { t:=mkT 45 0 [(2,bool false)],h:=[],m:=[] } Gw [.st (.mask [2]),.st (.trim 0)] [.b true,.row [Gp (Fo Gh s.classes),Gp (Fo GV s.fees),Gp (Fo Gh s.honours),Gp (Fo GE s.clauses)],.val (bool (few (Hu s))),.b true] (.c hlt (.c hr (.c (@zH s (jB w)) (.c hc0 .n)))) ?_ ?_ <;> (have hh : few (Hu s) = false:=not_f hc0; simp only [fwF,hh,cond_false,ae]; first | done | rfl)
theorem fw_last {w : WorldT} {i : Nat} (hlt : decide ((i : Int) < ((w.s.map FF).length : Int)) = false) : (CW Fp Γ0 [] false (sub Lf 0) (fwS w i) (.exit 0) { t:=mkT 45 0 [],h:=[],m:=[] }):=by
 exact zx [.st (.mask []),.st (.trim 0)] [.b false] (.c hlt .n)
def fwFin (w : WorldT) : Exit × AS:=aV (.exit 0) (fun _ : Unit=>{ t:=mkT 45 0 [],h:=[],m:=[] }) fwX (forL fwF w.s ())
theorem fw_cw {w : WorldT} (hl : ad w.s) :
  CW Fp Γ0 [] false (.loop (sub Lf 0)) (fwS w 0) (fwFin w).1 (fwFin w).2:=by
 have:=Ha (P:=Fp) (Γ:=Γ0) (h0:=[]) (rd:=false) (c:=sub Lf 0) w.s fwF (fun i _=>fwS w (i : Int)) (.exit 0) (fun _ : Unit=>{ t:=mkT 45 0 [],h:=[],m:=[] }) fwX (fun _ _=>True) (by simp) (fun _=>by simp) ?_ ?_ () trivial
 ·exact this
 ·intro i s u hp _
  have hi:=(Fy.1 hp).1
  exact ⟨fun _ _=>trivial,fw_body (rowAt hp rfl) (lt_len FF hi) (wrap_succ hi hl)⟩
 ·intro u _
  exact fw_last (aC FF w.s)
def rz (w : WorldT) : Bool:=decide ((w.f.map FC).length > (40 : Int)) || decide ((w.c.map FE).length > (12 : Int)) || decide (w.p.length > (6 : Int)) || decide ((w.s.map FF).length > (6 : Int))
def wu (w : WorldT) : Bool:=match rz w with
 | true=>false
 | false=>match forL fwF w.s () with
  | .inl _=>true
  | .inr _=>false
theorem zI {w : WorldT} (hl : ad w.s) (h : List Blk) : (Ev Fp Γ0 45 [.agg w.l] h (bool (wu w)) h):=by
 cases hc0 : decide ((↑(Fu (Fo FC w.f)) : Int) > 40) || decide ((↑(Fu (Fo FE w.c)) : Int) > 12) || decide ((↑(Fu w.p) : Int) > 6) || decide ((↑(Fu (Fo FF w.s)) : Int) > 6)
 ·have hl1:=(@fw_cw (w) (hl))
  unfold fwFin at hl1
  revert hl1
  cases ho2 : forL fwF w.s () with
  | inl o2_0_0 =>
   intro hl1
   exact zD (bool true) [.b false,.sum [1,3] (Gf 0) { t:=mkT 45 0 [],h:=[],m:=[] }] (.c hc0 (.c hl1 .n)) h (by (have z0 : rz w = false:=hc0; simp only [wu,z0,ho2]; first | done | rfl))
  | inr o2_1_0 =>
   intro hl1
   exact zD (bool false) [.b false,.sum [1,3] (Gw) { t:=mkT 45 0 [(2,bool false)],h:=[],m:=[] }] (.c hc0 (.c hl1 .n)) h (by (have z0 : rz w = false:=hc0; simp only [wu,z0,ho2]; first | done | rfl))
 ·exact zD (bool false) [.b true] (.c hc0 .n) h (by (have z0 : rz w = true:=hc0; simp only [wu,z0]; first | done | rfl))
end Go.Vi
open Go Go.Proofs
namespace Go.Vi
set_option maxRecDepth 100000
theorem CA {w : WorldT} (hw : w.ok) {term known : Int} : (bF w term known).1.ok:=by
 have hz : Iq.ok:=⟨by simp [Iq,Hu],by simp [Iq,Hu],by simp [Iq,Hu],by simp [Iq,Hu,ad],by simp [Iq,Hu,ad],by simp [Iq,Hu,ad],by simp [Iq,Hu,ad]⟩
 unfold bF
 split
 ·exact hz
 ·unfold eJ
  split
  ·exact hz
  ·rename_i h
   exact hw.s _ (yv h).1
theorem vwX_i64 {q1 q2 : List ReadT} {e1 e2 ea earn n d e : Int} (hn : I64 n) (hd : I64 d) : I64 (vwX q1 q2 e1 e2 ea earn n d e).n ∧ I64 (vwX q1 q2 e1 e2 ea earn n d e).d:=by
 unfold vwX
 split
 ·exact ⟨fY,fY⟩
 ·split
  ·exact ⟨fY,fY⟩
  ·split
   ·exact ⟨fY,fY⟩
   ·exact ⟨hn,hd⟩
theorem vwX_bad {q1 q2 : List ReadT} {e1 e2 ea earn n d e : Int} (h : (e1 != 0 || e2 != 0 || ea != 0 || e != 0) = true) : ((vwX q1 q2 e1 e2 ea earn n d e).e != 0) = true:=by
 unfold vwX
 split
 ·rename_i h1; exact h1
 ·split
  ·rename_i h1; exact h1
  ·split
   ·rename_i h1; exact h1
   ·simp_all
theorem vwX_ok {q1 q2 : List ReadT} {e1 e2 ea earn n d e : Int} (h : (e1 != 0 || e2 != 0 || ea != 0 || e != 0) = false) : vwX q1 q2 e1 e2 ea earn n d e = ⟨minE earn,n,d,0,q1 ++ q2⟩:=by
 simp only [GZ] at h
 obtain ⟨⟨⟨h1,h2⟩,h3⟩,h4⟩:=h
 have h5 : e = 0:=by simpa using h4
 simp only [vwX,h1,h2,h3,h5]
abbrev uR (w : WorldT) (term known : Int) : SysT:=(bF w term known).1
def rO (w : WorldT) (kind st obj term known : Int) : OfX :=
 ofX kind st obj term (rdT 4 0 0 term) (nE w st term known) (Cd (uR w term known).sys obj)
  (ofR (uR w term known).sys (uR w term known).sys.classes (nE w st term known).earn (nE w st term known).n (nE w st term known).d)
  (ofR (uR w term known).sys (uR w term known).sys.honours (nE w st term known).earn (nE w st term known).n (nE w st term known).d)
theorem zJ {w : WorldT} (hw : w.ok) {kind st obj term known : Int} (h : List Blk) : Ev Fp Γk 46 [.agg w.l,int kind,int st,int obj,int term,int known] h (.tup [int (rO w kind st obj term known).ans,ab (rdR (rO w kind st obj term known).q),int (rO w kind st obj term known).e]) h:=by
 have hi : I64 (nE w st term known).n ∧ I64 (nE w st term known).d:=vwX_i64 (lV _).1 (lV _).2
 have hl:=rdT_len 4 0 0 term
 have hs : (uR w term known).sys.ok:=CA hw
 exact sof_a (s:=uR w term known) (q1:=rdT 4 0 0 term) (q2:=(nE w st term known).q)
  (BC hw (rs:=[]) (by simp)) (BE hw (by omega)) (fun h=>F1 (Ce hs obj h)) (fun h=>F1 (ui hs hi.1 hi.2 h)) (fun h=>F1 (qt hs hi.1 hi.2 h)) h
structure WorldT.ok0 (w : WorldT) : Prop where
 c : ∀ x ∈ w.c,x.ok
 s : ∀ x ∈ w.s,x.ok
 lc : ad w.c
 ls : ad w.s
 i : ∀ f ∈ w.f,f.ok
def ptEq (a b : PtT) : Bool:=a.term == b.term && (a.value == b.value && true)
def epF (p : PtT × PtT) (_ : Unit) : Unit ⊕ Unit:=if (!ptEq p.1 p.2) = true then .inr () else .inl ()
def epR (xs ys : List PtT) : Unit ⊕ Unit:=forL epF (xs.zip ys) ()
def eqPts (xs ys : List PtT) : Bool:=if (((xs.map G5).length : Int) != ((ys.map G5).length : Int)) = true then false else match epR xs ys with | .inl _=>true | .inr _=>false
def ptsAt (l : List FactT) (r : ReadT) (known : Int) : List PtT:=ba r.kind r.sub r.obj r.frm r.til known l
def alF (l : List FactT) (a b : Int) (r : ReadT) (_ : Unit) : Unit ⊕ Unit:=bif eqPts (ptsAt l r a) (ptsAt l r b) then .inl () else .inr ()
attribute [local irreducible] ptsAt eqPts
def alikeR (l : List FactT) (rs : List ReadT) (a b : Int) : Bool:=match forL (alF l a b) rs () with
 | .inl _=>true
 | .inr _=>false
def rdNe (a b : ReadT) : Bool:=!((a.kind == b.kind && (a.sub == b.sub && (a.obj == b.obj && true))) && (a.frm == b.frm && (a.til == b.til && true)))
abbrev sdS (l l2 : List (List Dp)) (i : Int) : AS:={ t:=mkT 26 0 [(0,ab l),(1,ab l2),(4,bool false),(5,int i)],h:=[],m:=[] }
abbrev sdX : Unit → Exit × AS:=fun _=>(.ret,{ t:=mkT 26 0 [(4,bool false)],h:=[],m:=[] })
def sdF (p : ReadT × ReadT) (_ : Unit) : Unit ⊕ Unit:=bif rdNe p.1 p.2 then .inr () else .inl ()
theorem sd_body {l l2 : List (List Dp)} {a b : ReadT} {i : Nat} (hr : ah (i : Int) l a.row 5) (hr2 : ah (i : Int) l2 b.row 5) (hlt : decide ((i : Int) < (l.length : Int)) = true) (hw : Fs.wrap ((i : Int) + 1) = ((i + 1 : Nat) : Int)) : (CW Fp Γ0 [] false (sub Tryz.f48 0) (sdS l l2 i) (ae (fun _=>sdS l l2 ((i + 1 : Nat) : Int)) sdX (sdF (a,b) ())).1 (ae (fun _=>sdS l l2 ((i + 1 : Nat) : Int)) sdX (sdF (a,b) ())).2):=by
 cases hc0 : !(a.kind == b.kind && (a.sub == b.sub && (a.obj == b.obj && true)) && (a.frm == b.frm && (a.til == b.til && true)))
 ·refine zX { t:=mkT 26 0 [(0,ab l),(1,ab l2),(4,bool false),(5,int (Fz Fs ((↑i : Int) + 1)))],h:=[],m:=[] } FH [.st (.mask [0,1,4,5])] [.b true,.row [vi a.kind,vi a.sub,vi a.obj,vi a.frm,vi a.til],.row [vi b.kind,vi b.sub,vi b.obj,vi b.frm,vi b.til],.b false] (.c hlt (.c hr (.c hr2 (.c hc0 .n)))) ?_ ?_ <;> (have hh : rdNe a b = false:=hc0; simp only [sdF,hh,cond_false,ae,hw]; first | done | rfl)
 ·refine zX { t:=mkT 26 0 [(4,bool false)],h:=[],m:=[] } Gw [.st (.mask [4])] [.b true,.row [vi a.kind,vi a.sub,vi a.obj,vi a.frm,vi a.til],.row [vi b.kind,vi b.sub,vi b.obj,vi b.frm,vi b.til],.b true] (.c hlt (.c hr (.c hr2 (.c hc0 .n)))) ?_ ?_ <;> (have hh : rdNe a b = true:=hc0; simp only [sdF,hh,cond_true,ae]; first | done | rfl)
theorem sd_last {l l2 : List (List Dp)} {i : Nat} (hlt : decide ((i : Int) < (l.length : Int)) = false) : (CW Fp Γ0 [] false (sub Tryz.f48 0) (sdS l l2 i) (.exit 0) { t:=mkT 26 0 [],h:=[],m:=[] }):=by
 exact zx [.st (.mask [])] [.b false] (.c hlt .n)
end Go.Vi
open Go Go.Proofs
namespace Go.Vi
set_option maxRecDepth 100000
set_option maxHeartbeats 4000000
def vlAt (s : VS) (n : Nat) : Int:=bif s.2.getD n false then maxV (s.1.getD n default).value else -1
def tb (kk ks ko known : Int) (l : List FactT) : List Int:=(Gy 1024).map (vlAt (l.foldl (vaGo kk ks ko known) vZ))
theorem wh (s : VS) (rs : List Int) (h : rs.length = 1024) (n i : Nat) : (vlStep s rs n).getD i 0 = if i = n ∧ n < 1024 then vlAt s n else rs.getD i 0:=by
 unfold vlAt vlStep
 by_cases hn : n < 1024
 ·by_cases hi : i = n
  ·subst hi
   cases s.2.getD i false <;> simp [FG,h,hn]
  ·have hi' : n ≠ i:=fun e=>hi e.symm
   cases s.2.getD n false <;> simp [FG,hi,hi']
 ·cases s.2.getD n false <;> simp [FG,hn,List.set_eq_of_length_le (show rs.length ≤ n by omega)]
theorem wi (s : VS) (rs : List Int) (n : Nat) : (vlStep s rs n).length = rs.length:=by
 unfold vlStep; cases s.2.getD n false <;> simp
theorem wj (kk ks ko known : Int) (l : List FactT) : bd kk ks ko known l = tb kk ks ko known l:=by
 unfold bd tb qW
 generalize l.foldl (vaGo kk ks ko known) vZ = s
 have hz : (FX 1024 (0 : Int)).length = 1024:=List.length_replicate ..
 have hz2 : ∀ i,(FX 1024 (0 : Int)).getD i 0 = 0:=fun i=>by
  rw [FG,List.getElem?_replicate]; split <;> rfl
 revert hz hz2
 generalize FX 1024 (0 : Int) = z
 intro hz hz2
 have key : ∀ m,m ≤ 1024 → ((Gy m).foldl (vlStep s) z).length = 1024 ∧ ∀ i,((Gy m).foldl (vlStep s) z).getD i 0 = if i < m then vlAt s i else 0:=by
  intro m
  induction m with
  | zero=>intro _; exact ⟨hz,fun i=>by rw [if_neg (JA i)]; exact hz2 i⟩
  | succ m ih =>
   intro hm
   obtain ⟨h1,h2⟩:=ih (by omega)
   rw [List.range_succ,List.foldl_append]
   simp only [GP,List.foldl_nil]
   refine ⟨by rw [wi]; exact h1,fun i=>?_⟩
   rw [wh s _ h1,h2]
   by_cases hi : i = m
   ·subst hi
    rw [if_pos ⟨rfl,by omega⟩,if_pos (by omega)]
   ·rw [if_neg (fun h=>hi h.1)]
    by_cases hlt : i < m
    ·rw [if_pos hlt,if_pos (by omega)]
    ·rw [if_neg hlt,if_neg (by omega)]
 obtain ⟨h1,h2⟩:=key 1024 (FT _)
 refine List.ext_getElem (by rw [h1]; simp) fun i hi1 hi2=>?_
 have:=h2 i
 rw [FG,FK hi1] at this
 rw [h1] at hi1
 rw [if_pos hi1] at this
 simpa using this
theorem pd {α : Type} {l : List α} {n t : Nat} {x z : α} (hn : n < l.length) : (l.set n x).getD t z = if t = n then x else l.getD t z:=by
 by_cases h : t = n
 ·subst h; simp [FG,hn]
 ·have : n ≠ t:=fun e=>h e.symm
  simp [FG,h,this]
theorem zK {f : FactT} {s : VS} (hs : s.ok) {n t : Nat} (hn : n < 1024) : ((fu f s n).1.getD t default,(fu f s n).2.getD t false) = if t = n ∧ vaHit f (s.1.getD t default) (s.2.getD t false) = true then (f,true) else (s.1.getD t default,s.2.getD t false):=by
 unfold fu
 by_cases ht : t = n
 ·subst ht
  cases h : vaHit f (s.1.getD t default) (s.2.getD t false)
  ·simp
  ·simp only [cond_true,and_self,if_true]
   rw [pd (by rw [hs.1]; exact hn),pd (by rw [hs.2]; exact hn)]
   simp
 ·cases h : vaHit f (s.1.getD n default) (s.2.getD n false)
  ·simp [ht]
  ·simp only [cond_true,ht,false_and,if_false]
   rw [pd (by rw [hs.1]; exact hn),pd (by rw [hs.2]; exact hn)]
   simp [ht]
theorem nJ {f : FactT} {t : Nat} : ∀ (ns : List Nat) (s : VS),s.ok → ns.Nodup → (∀ n ∈ ns,n < 1024) → ((ns.foldl (fu f) s).1.getD t default,(ns.foldl (fu f) s).2.getD t false) = if t ∈ ns ∧ vaHit f (s.1.getD t default) (s.2.getD t false) = true then (f,true) else (s.1.getD t default,s.2.getD t false)
 | [],s,_,_,_=>by simp
 | n :: ns,s,hs,hd,hb=>by
  rw [List.nodup_cons] at hd
  have hn:=hb n (by simp)
  have h1:=zK (f:=f) hs (t:=t) hn
  have h2:=nJ (f:=f) (t:=t) ns (fu f s n) (vaStep_ok n hs) hd.2 (fun m hm=>hb m (by simp [hm]))
  rw [GP,h2]
  have e1:=congrArg Prod.fst h1
  have e2:=congrArg Prod.snd h1
  simp only at e1 e2
  by_cases ht : t = n
  ·subst ht
   rw [if_neg (fun h=>hd.1 h.1),h1]
   simp
  ·simp only [ht,false_and,if_false] at e1 e2
   rw [e1,e2]
   simp [ht]
theorem at_step {kk ks ko known : Int} {t : Nat} (ht : t < 1024) (f : FactT) {s : VS} (hs : s.ok) : ((vaGo kk ks ko known s f).1.getD t default,(vaGo kk ks ko known s f).2.getD t false) = oM kk ks ko (t : Int) known (s.1.getD t default,s.2.getD t false) f:=by
 unfold vaGo oM
 cases ofIs kk ks ko known f
 ·rfl
 ·simp only [cond_true]
  unfold vaF yD
  have hlo : 0 ≤ Ew f ∧ (Ew f = f.frm ∨ (Ew f = 0 ∧ f.frm ≤ 0)):=by unfold Ew; simp; split <;> omega
  have hhi : vP f ≤ 1024 ∧ (vP f = f.til ∨ (vP f = 1024 ∧ 1024 ≤ f.til)):=by unfold vP; split <;> omega
  rw [nJ _ _ hs (List.nodup_range' ..) (by intro n hn; rw [List.mem_range'_1] at hn; omega)]
  unfold bW yg
  have hm : (t ∈ List.range' (Ew f).toNat (vP f - Ew f).toNat) ↔ f.frm ≤ (t : Int) ∧ (t : Int) < f.til:=by
   rw [List.mem_range'_1]; omega
  have hv : (!s.2.getD t false || decide (orI (aN f.known (s.1.getD t default).known) (aN f.no (s.1.getD t default).no) ≥ 0)) = vaHit f (s.1.getD t default) (s.2.getD t false):=rfl
  rw [hv]
  by_cases h1 : f.frm ≤ (t : Int) ∧ (t : Int) < f.til
  ·cases h2 : vaHit f (s.1.getD t default) (s.2.getD t false)
   ·simp
   ·simp [hm.2 h1,h1.1,h1.2]
  ·rw [if_neg (fun h=>h1 (hm.1 h.1))]
   have : (decide (f.frm ≤ (t : Int)) && decide ((t : Int) < f.til)) = false:=by
    cases hq : (decide (f.frm ≤ (t : Int)) && decide ((t : Int) < f.til))
    ·rfl
    ·simp at hq; exact absurd hq h1
   simp [this]
theorem zL {kk ks ko known : Int} {t : Nat} (ht : t < 1024) : ∀ (l : List FactT) (s : VS),s.ok → ((l.foldl (vaGo kk ks ko known) s).1.getD t default,(l.foldl (vaGo kk ks ko known) s).2.getD t false) = l.foldl (oM kk ks ko (t : Int) known) (s.1.getD t default,s.2.getD t false)
 | [],_,_=>rfl
 | f :: l,s,hs=>by
  rw [GP,GP,zL ht l _ (vaGo_ok f hs),at_step ht f hs]
theorem tc {kk ks ko known : Int} {l : List FactT} {t : Nat} (ht : t < 1024) : (bd kk ks ko known l).getD t 0 = vlAt (l.foldl (vaGo kk ks ko known) vZ) t:=by
 rw [wj]
 unfold tb
 simp [FG,ht]
theorem zM {α : Type} {n t : Nat} {x z : α} (h : t < n) : (FX n x).getD t z = x:=by simp [FG,h]
def atV (v : Int) : Int × Bool:=bif decide (v < 0) then (0,false) else (v,true)
theorem zN {kk ks ko known : Int} {l : List FactT} {t : Nat} (ht : t < 1024) : atR kk ks ko (t : Int) known l = atV ((bd kk ks ko known l).getD t 0):=by
 have h:=zL (kk:=kk) (ks:=ks) (ko:=ko) (known:=known) ht l vZ EC
 have hz : (vZ.1.getD t default,vZ.2.getD t false) = (fz,false):=by unfold vZ; rw [zM ht,zM ht]
 rw [hz] at h
 rw [tc ht]
 unfold atR vlAt
 rw [← h]
 simp only
 cases (l.foldl (vaGo kk ks ko known) vZ).2.getD t false
 ·rfl
 ·simp only [IE,HC,cond_true,maxV,if_true,atV]
  generalize ((l.foldl (vaGo kk ks ko known) vZ).1.getD t default).value = v
  by_cases hv : v < 0
  ·simp only [hv,decide_true,cond_true]
   split
   ·rfl
   ·simp [hv]
  ·have : ¬ -1 > v:=by omega
   simp [hv,this]
theorem pf (a b : AttT) : leA a b = true ↔ (a.term < b.term ∨ (a.term = b.term ∧ a.course ≤ b.course)):=by
 have h1 : leA a b = true ↔ (ltOf wr) b a = false:=by unfold leA; simp
 rw [h1,lL]
 omega
theorem zO (a b c : AttT) (h1 : leA a b = true) (h2 : leA b c = true) : leA a c = true:=by
 rw [pf] at *; omega
theorem zP (a b : AttT) : (leA a b || leA b a) = true:=by
 rw [G4,pf,pf]; omega
theorem te {w : WorldT} {known st term : Int} : (vT w known st term).Pairwise fun a b=>leA a b = true:=Kv zO zP _
theorem recA_perm {w : WorldT} {known st term : Int} : (vT w known st term).Perm (dL w known st term):=JL _ _
set_option maxRecDepth 1000000
theorem zQ {w : WorldT} {known st term : Int} : (dL w known st term).Pairwise fun a b=>¬ (a.term = b.term ∧ a.course = b.course):=by
 unfold dL
 rw [List.pairwise_flatMap]
 refine ⟨fun n _=>?_,?_⟩
 ·unfold fV
  refine List.Pairwise.filterMap (R:=fun p q : PtT=>p.term < q.term) (Ct w known n) ?_ nA
  intro p q hpq a ha b hb e
  unfold Ct at ha hb
  cases h1 : attBad p <;> rw [h1] at ha <;> simp at ha
  cases h2 : attBad q <;> rw [h2] at hb <;> simp at hb
  subst ha; subst hb
  have:=e.1
  simp only [yO] at this
  omega
 ·refine List.Pairwise.imp ?_ mm
  intro n m hne x hx y hy e
  rw [(dg hx).1,(dg hy).1] at e
  exact hne e.2
theorem tf {w : WorldT} {known st term : Int} : (vT w known st term).Pairwise fun a b=>wr a b < 0:=by
 have h1:=te (w:=w) (known:=known) (st:=st) (term:=term)
 have h2 : (vT w known st term).Pairwise fun a b=>¬ (a.term = b.term ∧ a.course = b.course):=(recA_perm.pairwise_iff (fun {a b} h e=>h ⟨e.1.symm,e.2.symm⟩)).2 zQ
 refine (h1.and h2).imp ?_
 intro a b ⟨ha,hb⟩
 rw [pf] at ha
 have:=(oX a b).2 (by omega)
 unfold ltOf at this
 simpa using this
section
variable {α : Type} (lt : α → α → Bool)
def posG (x : α) (y : α) (n : Nat) : Nat ⊕ Nat:=bif lt y x then .inl (n + 1) else .inr n
def Ag (out : List α) (x : α) : List α:=out.takeWhile (fun y=>lt y x) ++ [x] ++ out.dropWhile fun y=>lt y x
theorem zR (x : α) : ∀ (out : List α) (n : Nat),(match forL (posG lt x) out n with | .inl n=>n | .inr n=>n) = n + (out.takeWhile fun y=>lt y x).length
 | [],n=>by simp [forL]
 | y :: out,n=>by
  simp only [forL,posG,Jv]
  cases h : lt y x
  ·simp
  ·have:=zR x out (n + 1)
   simp only [cond_true,if_true,GF]; omega
theorem jC (p : α → Bool) : ∀ l : List α,l.take (l.takeWhile p).length = l.takeWhile p ∧ l.drop (l.takeWhile p).length = l.dropWhile p
 | []=>by simp
 | a :: l=>by
  have:=jC p l
  simp only [Jv,Lu]
  cases p a <;> simp [this]
theorem zS (out : List α) (x : α) : (Ag lt out x).Perm (out ++ [x]):=by
 unfold Ag
 have e : out = out.takeWhile (fun y=>lt y x) ++ out.dropWhile fun y=>lt y x:=(JM).symm
 conv=>rhs; rw [e]
 rw [Ib,Ib]
 exact List.Perm.append_left _ List.perm_append_comm
theorem gp : ∀ (l out : List α),(l.foldl (Ag lt) out).Perm (out ++ l)
 | [],out=>by simp
 | x :: l,out=>by
  rw [GP]
  refine (gp l _).trans ?_
  rw [show out ++ x :: l = (out ++ [x]) ++ l by simp]
  exact (zS lt out x).append_right l
theorem nK (p : α → Bool) : ∀ (l : List α) z0 zs,l.dropWhile p = z0 :: zs → p z0 = false
 | [],_,_,h=>by simp at h
 | a :: l,z0,zs,h=>by
  rw [Lu] at h
  cases hp : p a <;> rw [hp] at h <;> simp at h
  ·rw [← h.1]; exact hp
  ·exact nK p l z0 zs h
theorem rA (p : α → Bool) : ∀ (l : List α) a,a ∈ l.takeWhile p → p a = true
 | [],_,h=>by simp at h
 | b :: l,a,h=>by
  rw [Jv] at h
  cases hp : p b <;> rw [hp] at h <;> simp at h
  rcases h with rfl | h
  ·exact hp
  ·exact rA p l a h
theorem tg (h1 : ∀ a b,lt a b = true → lt b a = false) (h2 : ∀ a b c,lt b a = false → lt c b = false → lt c a = false) {out : List α} {x : α} (ho : out.Pairwise fun a b=>lt b a = false) : (Ag lt out x).Pairwise fun a b=>lt b a = false:=by
 unfold Ag
 have e : out = out.takeWhile (fun y=>lt y x) ++ out.dropWhile fun y=>lt y x:=(JM).symm
 rw [e,JB] at ho
 obtain ⟨o1,o2,o3⟩:=ho
 have hx : ∀ z ∈ out.dropWhile fun y=>lt y x,lt z x = false:=by
  intro z hz
  cases hd : out.dropWhile fun y=>lt y x with
  | nil=>rw [hd] at hz; simp at hz
  | cons z0 zs =>
   rw [hd] at hz o2
   have h0:=nK _ _ _ _ hd
   rcases Gd.1 hz with rfl | hz
   ·exact h0
   ·exact h2 _ _ _ h0 ((IL.1 o2).1 z hz)
 rw [Ib,JB]
 refine ⟨o1,?_,?_⟩
 ·rw [KS,IL]
  exact ⟨hx,o2⟩
 ·intro a ha b hb
  have hax : lt a x = true:=rA (fun y=>lt y x) out a ha
  rw [KS] at hb
  rcases Gd.1 hb with rfl | hb
  ·exact h1 _ _ hax
  ·exact o3 a ha b hb
theorem f7 (h1 : ∀ a b,lt a b = true → lt b a = false) (h2 : ∀ a b c,lt b a = false → lt c b = false → lt c a = false) : ∀ (l out : List α),(out.Pairwise fun a b=>lt b a = false) → (l.foldl (Ag lt) out).Pairwise fun a b=>lt b a = false
 | [],_,h=>h
 | x :: l,out,h=>f7 h1 h2 l _ (tg lt h1 h2 h)
end
theorem insI_G : ws = Ag fun y x : Int=>decide (y < x):=by
 funext out x
 have h1 : s7P out x = (out.takeWhile fun y=>decide (y < x)).length:=by
  have:=zR (fun y x : Int=>decide (y < x)) x out 0
  rw [Hy] at this
  exact this
 have h2:=jC (fun y=>decide (y < x)) out
 unfold ws Ag
 rw [h1,h2.1,h2.2]
theorem zT (l : List Int) : iP l = l.mergeSort fun x y=>decide (x ≤ y):=by
 unfold iP
 rw [insI_G]
 refine JY (le:=fun a b : Int=>a ≤ b) ?_ ?_ ?_ ?_
 ·intro a b _ _ h1 h2; omega
 ·have:=f7 (fun y x : Int=>decide (y < x)) (by intro a b h; simp at h ⊢; omega) (by intro a b c h1 h2; simp at h1 h2 ⊢; omega) l [] J9
  exact this.imp fun h=>by simpa using h
 ·have:=Kv (le:=fun x y : Int=>decide (x ≤ y)) (by intro a b c h1 h2; simp at h1 h2 ⊢; omega) (by intro a b; simp; omega) l
  exact this.imp fun h=>by simpa using h
 ·exact ((gp _ l []).trans (by simp)).trans (JL _ _).symm
theorem insA_G : rN = Ag befA:=by
 funext out x
 have h1 : puP out x = (out.takeWhile fun y=>befA y x).length:=by
  have:=zR befA x out 0
  rw [Hy] at this
  exact this
 have h2:=jC (fun y=>befA y x) out
 unfold rN Ag
 rw [h1,h2.1,h2.2]
theorem befA_iff (a b : AttT) : befA a b = true ↔ a.term < b.term ∨ (a.term = b.term ∧ a.course < b.course):=by simp [befA]
theorem befA_fls (a b : AttT) : befA a b = false ↔ ¬ (a.term < b.term ∨ (a.term = b.term ∧ a.course < b.course)):=by rw [← JT,befA_iff]
theorem BP {w : WorldT} {known st term : Int} : (dL w known st term).foldl rN [] = vT w known st term:=by
 rw [insA_G]
 have hs:=tf (w:=w) (known:=known) (st:=st) (term:=term)
 refine JY (le:=fun a b : AttT=>befA b a = false) ?_ ?_ ?_ ?_
 ·intro a b ha hb h1 h2
  rw [befA_fls] at h1 h2
  have hm : a ∈ dL w known st term:=by have:=(gp befA (dL w known st term) []).mem_iff.1 ha; simpa using this
  have hm2 : b ∈ dL w known st term:=recA_perm.mem_iff.1 hb
  exact uD a hm b hm2 (by omega) (by omega)
 ·exact f7 befA (by intro a b h; rw [befA_iff] at h; rw [befA_fls]; omega) (by intro a b c h1 h2; rw [befA_fls] at h1 h2 ⊢; omega) _ [] J9
 ·refine hs.imp ?_
  intro a b h
  have:=(oX a b).1 (by unfold ltOf; simpa using h)
  rw [befA_fls]; omega
 ·exact ((gp _ _ []).trans (by simp)).trans recA_perm.symm
abbrev pt7S (kk ks ko to known : Int) (fs : List (List Dp)) (l : List PtT) (x : Int) : AS:={ t:=mkT 40 0 [(0,ab fs),(3,int to),(4,int known),(6,.ref (.ptr 0 0)),(11,.ref (.vec 1 0)),(12,int x)],h:=[.var [int kk,int ks,int ko],.vec (ai (l.map G5)) 0 2],m:=[] }
noncomputable abbrev pg (kk : Int) (ks : Int) (ko : Int) (l : List PtT) : List Blk:=[.var [int kk,int ks,int ko],.vec (ai (Fo G5 l)) 0 2]
theorem pt7_b {kk ks ko to known u : Int} {b : Bool} {fs : List (List Dp)} {l : List PtT} {n : Nat} (hl : l.length ≤ 2000) (hlt : decide ((n : Int) < if false = true then if 1024 > to then 1024 else to else if 1024 < to then 1024 else to) = true) (hw : Fs.wrap ((n : Int) + 1) = ((n + 1 : Nat) : Int))
 (hat : ∀ h,Ev Fp Γ0 124 [ab fs,.agg [int kk,int ks,int ko],int n,int known] h (.tup [int u,bool b]) h) : (CW Fp Γ0 [] false (sub Lg 0) (pt7S kk ks ko to known fs l (n : Int)) .normal (pt7S kk ks ko to known fs (bif b then l ++ [⟨(n : Int),u⟩] else l) ((n + 1 : Nat) : Int))):=by
 cases hc0 : b
 ·refine zX { t:=mkT 40 0 [(0,ab fs),(3,int to),(4,int known),(6,.ref (.ptr 0 0)),(11,.ref (.vec 1 0)),(12,int (Fz Fs ((↑n : Int) + 1)))],h:=(pg kk ks ko l),m:=[] } FH [.st (.mask [0,3,4,6,11,12]),.st (.ren 1 0),.st (.trimV 2)] [.b true,.val (D.tup [int u,bool b]),.b false] (.c hlt (.c (@hat (pg kk ks ko l)) (.c hc0 (.c (vM (Fo G5 l) 1 0 0) (.c (show Blk.inn 2 (match 0 == 1 with | true=>.vec (ai (Fo G5 l)) 0 2 | false=>keepX (aM 1 0 0) (.var [int kk,int ks,int ko])) = true from rfl) (.c (iV 2 (Fo G5 l) 0 2) .n)))))) (by (simp only []; done)) (by (simp only [hw,cond_false]; done))
 ·refine zX { t:=mkT 40 0 [(0,ab fs),(3,int to),(4,int known),(6,.ref (.ptr 0 0)),(11,.ref (.vec 1 0)),(12,int (Fz Fs ((↑n : Int) + 1)))],h:=[.var [int kk,int ks,int ko],.vec (ai (Fo G5 l) ++ [[int (↑n : Int),int u]]) 0 2],m:=[] } FH [.st (.mask [0,3,4,6,11,12]),.st (.ren 1 0),.st (.trimV 2)] [.b true,.val (D.tup [int u,bool b]),.b true] (.c hlt (.c (@hat (pg kk ks ko l)) (.c hc0 (.c (show (FN [[int (↑n : Int),int u]] (aG 2) && roomOk (Fu (ai (Fo G5 l)) + Fu [[int (↑n : Int),int u]]) 16) = true from ?_) (.c (vMa (Fo G5 l) [[int (↑n : Int),int u]] 1 1 0) (.er [[int (↑n : Int),int u]] (.c (show Blk.inn 2 (match 0 == 1 with | true=>.vec (ai (Fo G5 l) ++ [[int (↑n : Int),int u]]) 0 2 | false=>keepX (aM 1 1 0) (.var [int kk,int ks,int ko])) = true from rfl) (.c (iVa 2 (Fo G5 l) [[int (↑n : Int),int u]] 0 2) .n)))))))) (by (simp only []; done)) (by (simp only [hw,cond_true,yL]; first | done | rfl)) <;> (simp [aG,D.one,HU,roomOk]; omega)
theorem BQ {kk ks ko to known : Int} {fs : List (List Dp)} {l : List PtT} {x : Int} (hlt : decide (x < if false = true then if 1024 > to then 1024 else to else if 1024 < to then 1024 else to) = false) : (CW Fp Γ0 [] false (sub Lg 0) (pt7S kk ks ko to known fs l x) (.exit 0) { t:=mkT 40 0 [(11,.ref (.vec 1 0))],h:=[.var [int kk,int ks,int ko],.vec (ai (l.map G5)) 0 2],m:=[] }):=by
 exact zx [.st (.mask [11])] [.b false] (.c hlt .n)
theorem ptF_at {v : Int} {n : Nat} {l : List PtT} : (bif (atV v).2 then l ++ [⟨(n : Int),(atV v).1⟩] else l) = ptF v n l:=by
 unfold ptF atV
 have e : decide (v ≥ 0) = !decide (v < 0):=by rw [HB]; simp
 rw [e]
 cases decide (v < 0) <;> rfl
theorem pt7_cw {kk ks ko to known : Int} {fs : List FactT} (hl : ad fs) {x : Int} (hx : 0 ≤ x) :
  CW Fp Γ0 [] false (.loop (sub Lg 0)) (pt7S kk ks ko to known (fs.map FC) [] x) (.exit 0) { t:=mkT 40 0 [(11,.ref (.vec 1 0))],h:=[.var [int kk,int ks,int ko],.vec (ai ((yM (bd kk ks ko known fs) x to).map G5)) 0 2],m:=[] }:=by
 have hh : uB to ≤ 1024:=by unfold uB; split <;> omega
 have:=Ha (P:=Fp) (Γ:=Γ0) (h0:=[]) (rd:=false) (c:=sub Lg 0) (σ:=List PtT) (ρ:=Empty) (List.range' x.toNat (uB to - x).toNat) (fun n l=>.inl (ptF ((bd kk ks ko known fs).getD n 0) n l))
  (fun i l=>pt7S kk ks ko to known (fs.map FC) l (x + (i : Int))) (.exit 0) (fun l=>{ t:=mkT 40 0 [(11,.ref (.vec 1 0))],h:=[.var [int kk,int ks,int ko],.vec (ai (l.map G5)) 0 2],m:=[] }) (fun r=>r.elim)
  (fun i l=>l.length ≤ i) (by simp) (fun r=>r.elim) ?_ ?_ [] (by simp)
 ·rw [aK (fun l n=>ptF ((bd kk ks ko known fs).getD n 0) n l)] at this
  simpa [aV,yM] using this
 ·intro i n l hn hs
  obtain ⟨hi,he⟩:=Fy.1 hn
  simp only [List.length_range'] at hi
  simp only [List.getElem_range',Nat.one_mul] at he
  have hlt : (n : Int) < uB to:=by omega
  refine ⟨fun s' h=>by cases h; have:=sR ((bd kk ks ko known fs).getD n 0) n l; omega,?_⟩
  have key:=pt7_b (kk:=kk) (ks:=ks) (ko:=ko) (to:=to) (known:=known) (fs:=fs.map FC) (l:=l) (n:=n) (u:=(atV ((bd kk ks ko known fs).getD n 0)).1) (b:=(atV ((bd kk ks ko known fs).getD n 0)).2) (by omega) (by rw [oV]; simpa using hlt) (by rw [wrap_i64 (by omega) (by omega)]; omega)
   (fun h=>by have:=uv (kk:=kk) (ks:=ks) (ko:=ko) (term:=(n : Int)) (known:=known) hl h; rw [uz,zN (by omega)] at this; exact this)
  have e1 : x + (i : Int) = (n : Int):=by omega
  have e2 : x + ((i + 1 : Nat) : Int) = ((n + 1 : Nat) : Int):=by omega
  rw [ptF_at] at key
  simp only [ae,e1,e2]
  exact key
 ·intro l _
  refine BQ ?_
  rw [oV]
  simp
  omega
theorem wl {kk ks ko frm to known : Int} {l : List FactT} (hl : ad l) (h : List Blk) : (Ev Fp Γ0 74 [ab (l.map FC),.agg [int kk,int ks,int ko],int frm,int to,int known] h (ab ((ba kk ks ko frm to known l).map G5)) h):=by
 have hl0:=(@pt7_cw (kk) (ks) (ko) (to) (known) (l) (hl) (if true = true then if frm > 0 then frm else 0 else if frm < 0 then frm else 0) (by first | assumption | rfl | exact oW _ | (simp; done)))
 let v0:=Fo G5 (yM (bd kk ks ko known l) (if true = true then if frm > 0 then frm else 0 else if frm < 0 then frm else 0) to)
 let v1:=Fo G5 (ba kk ks ko frm to known l)
 exact z0 [.sum [0,3,4,6,11,12] (Gf 0) { t:=mkT 40 0 [(11,.ref (.vec 1 0))],h:=[.var [int kk,int ks,int ko],.vec (ai v0) 0 2],m:=[] },.st (.frz 1 v1)] (.c hl0 (.c (show ai v0 = Fo (fun x=>Fo Gj x) v1 from (by subst v0 v1; rfl)) .n)) h
end Go.Vi
