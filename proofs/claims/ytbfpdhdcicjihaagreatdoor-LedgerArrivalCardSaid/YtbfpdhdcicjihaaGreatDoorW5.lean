/- LedgerArrival: part of the proof: contracts of the functions that the law reaches, and the law. No conditions beyond the given statement's own. -/
import Derived.Test.YtbfpdhdcicjihaaGreatDoorW4
open Decidable renaming decide → Qd
open List renaming take → Hl, drop → Hb, map → GU, length → G3, all → Ia, length_pos_iff → KB, mem_of_getElem? → HL, length_cons → HZ, length_nil → IP, nodup_nil → Lv
open Int renaming toNat → Hh, toNat_natCast → Iw
open Go.LoopState renaming ready → HV, exhausted → Kc, busy → I6
open Go.Vi.D renaming fn → Hy, mapRL → HP, agg → Hc
open Go.Fn renaming func → He
open Go.Proofs.Tryz renaming f22 → Hr, prog → GV, f73 → Iq, f23 → LA, f8 → I8, f36 → Kj, f21 → Kk
open Go.Vi.MeT renaming row → Hm
open Go.Vi.GrT renaming row → Hn
open Go.Vi.BuT renaming row → G7
open Go.Vi.Dp renaming sl → Hj, v → G2
open Go.Value renaming bool → Ht
open Go.Vi.Blk renaming inn → Ho
open Go.IntKind renaming i64 → GY, wrap → G1
open Bool renaming true_and → Iy, or_true → MG, true_or → JA, false_or → It
open Go.Vi.EntT renaming row → Hi, st → Jv
open Nat renaming lt_succ_self → Ji
open Go.Vi.Ev renaming castH → HU, of_sym → Jj, glob0 → Hx
open Go.Exit renaming normal → Hz, ret → Im, panic → K2
open Go.Vi.VPan renaming of_body → MH
open Go.Vi.VInvP renaming of_call → K0
open Go Go.Proofs
namespace Go.Vi
set_option maxRecDepth 100000
set_option maxHeartbeats 4000000
abbrev zb7:Nat × D:=(0,.ref (.yl 5))
noncomputable abbrev itS(f:FuncId)(A B:List (List Dp))(x:List EntT):AS:={t:=mkT 49 0 [zb7,Wo,(zbf 2 2)],h:=joH f A B x 1 .ready [],m:=[]}
def SlT(A A':List (List Dp)):Prop:=some (co 1 (A.length:Int) A.length&&true&&(true||false)&&A.all fun r=>Qd (r.length=31),aa (Hl ((A.length:Int).toNat - Hh 1) (Hb (Hh 1) A)))=some (true,aa A')
noncomputable abbrev A3(f:FuncId)(A:List (List Dp))(B:List (List Dp))(x:List EntT):List Blk:=[.var zbd,.var [aa A],.var [aa B],.vec (joV x) 1 31,.defd,.loop HV none f (zam) zbu (aV (sub Hr 0)) (aq (sub Hr 0))]
abbrev Qq(a b:EntT):D:=(int (bq {time:=a.time,campus:=a.campus,no:=a.no} {time:=b.time,campus:=b.campus,no:=b.no}))
abbrev Q3(a:List (List Dp))(b:Int):D:=(zbB (↑(G3 a):Int) b a)
noncomputable abbrev Xq(a:FuncId)(b c:List (List Dp))(d:List EntT):List Blk:=(joH a b c d 0 .ready [])
abbrev XN:List Ans:=[.st (.mask [0,1,2]),.st (.trimV 6),.st (.ren 3 1)]
abbrev Vz:D:=(.ref (.yl 5))
theorem it_a1{f:FuncId}{A0 B0 A A' B:List (List Dp)}{x0 x x':List EntT}{m n:EntT}(hAB:(Qd ((A.length:Int)>0)||Qd ((B.length:Int)>0))=true)(hb:Qd ((B.length:Int)>0)=false)(hra:af 0 A n.row 31)(hrb:False→af 0 B m.row 31)(hs:SlT A A')(hcd:(((A.length:Int)==0)||(Qd ((B.length:Int)>0)&&Qd (bq ⟨m.time,m.campus,m.no⟩ ⟨n.time,n.campus,n.no⟩<0)))=false)
  (hy:Iv GV Γ0 Vz [ag n.row] (Xd f A' B x n) (bool true) (joH f A' B x' 2 .ready [a5 n])):(CW GV Γ0 (Xq f A0 B0 x0) false (sub Iq 0) (itS f A B x) .normal (itS f A' B x')):=by
 let v0:=(ZF n)
 let v1:=(ZE n)
 let v2:=(Zs n)
 let v3:=(ZD n)
 let v4:List D:=Qb
 refine zx XN [.b true,.row (Zd m),.row (Zc n v0 v1 v2 v3),.val (Qq m n),.b false,.row (Zc n v0 v1 v2 v3),.ov 43 (aa A'),.inv (bool true) [.var XI,.var [aa A'],.var [aa B],.vec (joV x') 2 31,.defd,.loop HV none f (zcn v4) Yg (aV (sub Hr 0)) (aq (sub Hr 0)),.var (Zf n n.term v0 v1 v2 v3)],.b false] (.c hAB (.c (show(!(↑(G3 A):Int)==0&&Qd ((↑(G3 B):Int)>0))=true→af 0 B (Zd m) 31 from(fun hg=>(hrb (by subst v0 v1 v2 v3 v4;first|exact hg|(simp at hg;done)|(simp_all;done))))) (.c (show(!(↑(G3 A):Int)==0&&Qd ((↑(G3 B):Int)>0))=true→af 0 A (Zc n v0 v1 v2 v3) 31 from(fun hg=>hra)) (.c (gd (!(↑(G3 A):Int)==0&&Qd ((↑(G3 B):Int)>0)) (@da ({time:=m.time,campus:=m.campus,no:=m.no}) ({time:=n.time,campus:=n.campus,no:=n.no}) (A3 f A B x))) (.c hcd (.c hra (.c (show @Eq (Option (Bool×D)) (some (co 1 (↑(G3 A):Int) (G3 A)&&true&&(true||false)&&Ia A fun r=>Qd (G3 r=31),(Q3 A 1))) (some (true,aa A')) from(by subst v0 v1 v2 v3 v4;first|(simp only[hAB,hb,hcd,cond_true,cond_false];done)|first|assumption|rfl|exact hs|exact bJ _ _|exact bK _ _|(exfalso;simp_all;done))) (.c (@hy) (.c (show(!true)=false from rfl) (.c (show Ho 6 (.var XI)=true from rfl) (.c (show Ho 6 (.var [aa A'])=true from rfl) (.c (show Ho 6 (.var [aa B])=true from rfl) (.c (show Ho 6 (.vec (joV x') 2 31)=true from ?_) (.c (show Ho 6 .defd=true from rfl) (.c (show Ho 6 (.loop HV none f (zcn v4) Yg (aV (sub Hr 0)) (aq (sub Hr 0)))=true from rfl) (.c (show GU (HP (cX 3 2 1)) (joV x')=joV x' from ?_) .n))))))))))))))))<;>subst v0 v1 v2 v3 v4<;>(first|assumption|rfl|exact hs|exact bJ _ _|exact bK _ _|(exfalso;simp_all;done))
noncomputable abbrev A4(f:FuncId)(A:List (List Dp))(B:List (List Dp))(x:List EntT):List Blk:=[.var zbd,.var [aa A],.var [aa B],.vec (joV x) 1 31,.defd,.loop HV none f (zam) zbu (aV (sub Hr 0)) (aq (sub Hr 0))]
theorem it_a2{f:FuncId}{A0 B0 A A' B:List (List Dp)}{x0 x x':List EntT}{m n:EntT}(hAB:(Qd ((A.length:Int)>0)||Qd ((B.length:Int)>0))=true)(hb:Qd ((B.length:Int)>0)=true)(hra:af 0 A n.row 31)(hrb:af 0 B m.row 31)(hs:SlT A A')(hcd:(((A.length:Int)==0)||(Qd ((B.length:Int)>0)&&Qd (bq ⟨m.time,m.campus,m.no⟩ ⟨n.time,n.campus,n.no⟩<0)))=false)
  (hy:Iv GV Γ0 Vz [ag n.row] (Xd f A' B x n) (bool true) (joH f A' B x' 2 .ready [a5 n])):(CW GV Γ0 (Xq f A0 B0 x0) false (sub Iq 0) (itS f A B x) .normal (itS f A' B x')):=by
 let v0:=(ZF n)
 let v1:=(ZE n)
 let v2:=(Zs n)
 let v3:=(ZD n)
 let v4:List D:=Qb
 refine zx XN [.b true,.row (Zd m),.row (Zc n v0 v1 v2 v3),.val (Qq m n),.b false,.row (Zc n v0 v1 v2 v3),.ov 43 (aa A'),.inv (bool true) [.var XI,.var [aa A'],.var [aa B],.vec (joV x') 2 31,.defd,.loop HV none f (zcn v4) Yg (aV (sub Hr 0)) (aq (sub Hr 0)),.var (Zf n n.term v0 v1 v2 v3)],.b false] (.c hAB (.c (show(!(↑(G3 A):Int)==0&&Qd ((↑(G3 B):Int)>0))=true→af 0 B (Zd m) 31 from(fun hg=>hrb)) (.c (show(!(↑(G3 A):Int)==0&&Qd ((↑(G3 B):Int)>0))=true→af 0 A (Zc n v0 v1 v2 v3) 31 from(fun hg=>hra)) (.c (gd (!(↑(G3 A):Int)==0&&Qd ((↑(G3 B):Int)>0)) (@da ({time:=m.time,campus:=m.campus,no:=m.no}) ({time:=n.time,campus:=n.campus,no:=n.no}) (A4 f A B x))) (.c hcd (.c hra (.c (show @Eq (Option (Bool×D)) (some (co 1 (↑(G3 A):Int) (G3 A)&&true&&(true||false)&&Ia A fun r=>Qd (G3 r=31),(Q3 A 1))) (some (true,aa A')) from(by subst v0 v1 v2 v3 v4;first|(simp only[hAB,hb,hcd,cond_true,cond_false];done)|first|assumption|rfl|exact hs|exact bJ _ _|exact bK _ _)) (.c (@hy) (.c (show(!true)=false from rfl) (.c (show Ho 6 (.var XI)=true from rfl) (.c (show Ho 6 (.var [aa A'])=true from rfl) (.c (show Ho 6 (.var [aa B])=true from rfl) (.c (show Ho 6 (.vec (joV x') 2 31)=true from ?_) (.c (show Ho 6 .defd=true from rfl) (.c (show Ho 6 (.loop HV none f (zcn v4) Yg (aV (sub Hr 0)) (aq (sub Hr 0)))=true from rfl) (.c (show GU (HP (cX 3 2 1)) (joV x')=joV x' from ?_) .n))))))))))))))))<;>subst v0 v1 v2 v3 v4<;>(first|assumption|rfl|exact hs|exact bJ _ _|exact bK _ _)
noncomputable abbrev A5(f:FuncId)(A:List (List Dp))(B:List (List Dp))(x:List EntT):List Blk:=[.var zbd,.var [aa A],.var [aa B],.vec (joV x) 1 31,.defd,.loop HV none f (zam) zbu (aV (sub Hr 0)) (aq (sub Hr 0))]
theorem it_b1{f:FuncId}{A0 B0 A B B':List (List Dp)}{x0 x x':List EntT}{m n:EntT}(hAB:(Qd ((A.length:Int)>0)||Qd ((B.length:Int)>0))=true)(ha:((A.length:Int)==0)=true)(hra:False→af 0 A n.row 31)(hrb:af 0 B m.row 31)(hs:SlT B B')(hcd:(((A.length:Int)==0)||(Qd ((B.length:Int)>0)&&Qd (bq ⟨m.time,m.campus,m.no⟩ ⟨n.time,n.campus,n.no⟩<0)))=true)
  (hy:Iv GV Γ0 Vz [ag m.row] (Xd f A B' x m) (bool true) (joH f A B' x' 2 .ready [a5 m])):(CW GV Γ0 (Xq f A0 B0 x0) false (sub Iq 0) (itS f A B x) .normal (itS f A B' x')):=by
 let v0:=(ZF m)
 let v1:=(ZE m)
 let v2:=(Zs m)
 let v3:=(ZD m)
 let v4:List D:=Qb
 refine zx XN [.b true,.row (Zc m v0 v1 v2 v3),.row (Zd n),.val (Qq m n),.b true,.row (Zc m v0 v1 v2 v3),.ov 43 (aa B'),.inv (bool true) [.var XI,.var [aa A],.var [aa B'],.vec (joV x') 2 31,.defd,.loop HV none f (zcn v4) Yg (aV (sub Hr 0)) (aq (sub Hr 0)),.var (Zf m m.term v0 v1 v2 v3)],.b false] (.c hAB (.c (show(!(↑(G3 A):Int)==0&&Qd ((↑(G3 B):Int)>0))=true→af 0 B (Zc m v0 v1 v2 v3) 31 from(fun hg=>hrb)) (.c (show(!(↑(G3 A):Int)==0&&Qd ((↑(G3 B):Int)>0))=true→af 0 A (Zd n) 31 from(fun hg=>(hra (by subst v0 v1 v2 v3 v4;first|exact hg|(simp at hg;done)|(simp_all;done))))) (.c (gd (!(↑(G3 A):Int)==0&&Qd ((↑(G3 B):Int)>0)) (@da ({time:=m.time,campus:=m.campus,no:=m.no}) ({time:=n.time,campus:=n.campus,no:=n.no}) (A5 f A B x))) (.c hcd (.c hrb (.c (show @Eq (Option (Bool×D)) (some (co 1 (↑(G3 B):Int) (G3 B)&&true&&(true||false)&&Ia B fun r=>Qd (G3 r=31),(Q3 B 1))) (some (true,aa B')) from(by subst v0 v1 v2 v3 v4;first|(simp only[hAB,ha,hcd,cond_true,cond_false];done)|first|assumption|rfl|exact hs|exact bJ _ _|exact bK _ _)) (.c (@hy) (.c (show(!true)=false from rfl) (.c (show Ho 6 (.var XI)=true from rfl) (.c (show Ho 6 (.var [aa A])=true from rfl) (.c (show Ho 6 (.var [aa B'])=true from rfl) (.c (show Ho 6 (.vec (joV x') 2 31)=true from ?_) (.c (show Ho 6 .defd=true from rfl) (.c (show Ho 6 (.loop HV none f (zcn v4) Yg (aV (sub Hr 0)) (aq (sub Hr 0)))=true from rfl) (.c (show GU (HP (cX 3 2 1)) (joV x')=joV x' from ?_) .n))))))))))))))))<;>subst v0 v1 v2 v3 v4<;>(first|assumption|rfl|exact hs|exact bJ _ _|exact bK _ _)
noncomputable abbrev A6(f:FuncId)(A:List (List Dp))(B:List (List Dp))(x:List EntT):List Blk:=[.var zbd,.var [aa A],.var [aa B],.vec (joV x) 1 31,.defd,.loop HV none f (zam) zbu (aV (sub Hr 0)) (aq (sub Hr 0))]
theorem it_b2{f:FuncId}{A0 B0 A B B':List (List Dp)}{x0 x x':List EntT}{m n:EntT}(hAB:(Qd ((A.length:Int)>0)||Qd ((B.length:Int)>0))=true)(ha:((A.length:Int)==0)=false)(hb:Qd ((B.length:Int)>0)=true)(hra:af 0 A n.row 31)(hrb:af 0 B m.row 31)(hs:SlT B B')(hcd:(((A.length:Int)==0)||(Qd ((B.length:Int)>0)&&Qd (bq ⟨m.time,m.campus,m.no⟩ ⟨n.time,n.campus,n.no⟩<0)))=true)
  (hy:Iv GV Γ0 Vz [ag m.row] (Xd f A B' x m) (bool true) (joH f A B' x' 2 .ready [a5 m])):(CW GV Γ0 (Xq f A0 B0 x0) false (sub Iq 0) (itS f A B x) .normal (itS f A B' x')):=by
 let v0:=(ZF m)
 let v1:=(ZE m)
 let v2:=(Zs m)
 let v3:=(ZD m)
 let v4:List D:=Qb
 refine zx XN [.b true,.row (Zc m v0 v1 v2 v3),.row (Zd n),.val (Qq m n),.b true,.row (Zc m v0 v1 v2 v3),.ov 43 (aa B'),.inv (bool true) [.var XI,.var [aa A],.var [aa B'],.vec (joV x') 2 31,.defd,.loop HV none f (zcn v4) Yg (aV (sub Hr 0)) (aq (sub Hr 0)),.var (Zf m m.term v0 v1 v2 v3)],.b false] (.c hAB (.c (show(!(↑(G3 A):Int)==0&&Qd ((↑(G3 B):Int)>0))=true→af 0 B (Zc m v0 v1 v2 v3) 31 from(fun hg=>hrb)) (.c (show(!(↑(G3 A):Int)==0&&Qd ((↑(G3 B):Int)>0))=true→af 0 A (Zd n) 31 from(fun hg=>hra)) (.c (gd (!(↑(G3 A):Int)==0&&Qd ((↑(G3 B):Int)>0)) (@da ({time:=m.time,campus:=m.campus,no:=m.no}) ({time:=n.time,campus:=n.campus,no:=n.no}) (A6 f A B x))) (.c hcd (.c hrb (.c (show @Eq (Option (Bool×D)) (some (co 1 (↑(G3 B):Int) (G3 B)&&true&&(true||false)&&Ia B fun r=>Qd (G3 r=31),(Q3 B 1))) (some (true,aa B')) from(by subst v0 v1 v2 v3 v4;first|(simp only[hAB,ha,hb,hcd,cond_true,cond_false];done)|first|assumption|rfl|exact hs|exact bJ _ _|exact bK _ _)) (.c (@hy) (.c (show(!true)=false from rfl) (.c (show Ho 6 (.var XI)=true from rfl) (.c (show Ho 6 (.var [aa A])=true from rfl) (.c (show Ho 6 (.var [aa B'])=true from rfl) (.c (show Ho 6 (.vec (joV x') 2 31)=true from ?_) (.c (show Ho 6 .defd=true from rfl) (.c (show Ho 6 (.loop HV none f (zcn v4) Yg (aV (sub Hr 0)) (aq (sub Hr 0)))=true from rfl) (.c (show GU (HP (cX 3 2 1)) (joV x')=joV x' from ?_) .n))))))))))))))))<;>subst v0 v1 v2 v3 v4<;>(first|assumption|rfl|exact hs|exact bJ _ _|exact bK _ _)
theorem Fh{f:FuncId}{A0 B0 A B:List (List Dp)}{x0 x:List EntT}(hAB:(Qd ((A.length:Int)>0)||Qd ((B.length:Int)>0))=false):(CW GV Γ0 (Xq f A0 B0 x0) false (sub Iq 0) (itS f A B x) (.exit 0) (QG 49 (joH f A B x 1 .ready []))):=by
 exact zx YI [.b false] (.c hAB .n)
def joF(x:List EntT)(n:EntT):Option (List EntT):=match x.getLast? with
 | none=>some (x++[n])
 | some l=>match kc l.st n.st with
  | false=>some (x++[n])
  | true=>bif dv l n then some x else none
def joG:Nat→List EntT→List EntT→List EntT→Option (List EntT)
 | 0,_,_,x=>some x
 | _+1,[],[],x=>some x
 | k+1,[],m::b,x=>(joF x m).bind (joG k [] b)
 | k+1,n::a,[],x=>(joF x n).bind (joG k a [])
 | k+1,n::a,m::b,x=>match Qd (bq m.st n.st<0) with
  | true=>(joF x m).bind (joG k (n::a) b)
  | false=>(joF x n).bind (joG k a (m::b))
theorem fK{x y:List EntT}{n:EntT}(h:joF x n=some y):y.length≤x.length+1:=by
 unfold joF at h
 split at h
 ·cases h;simp
 ·split at h
  ·cases h;simp
  ·rename_i l _ _ _
   cases hb:dv l n<;>rw[hb] at h<;>cases h
   omega
theorem joF_mem{x y:List EntT}{n:EntT}(h:joF x n=some y):∀e∈y,e∈x∨e=n:=by
 unfold joF at h
 have h1:∀e∈x++[n],e∈x∨e=n:=by simp
 split at h
 ·cases h;exact h1
 ·split at h
  ·cases h;exact h1
  ·rename_i l _ _ _
   cases hb:dv l n<;>rw[hb] at h<;>cases h
   exact fun e he=>.inl he
theorem uF{a b:EntT}(o:a.ok){r:Bool}(hr:dv a b=r)(h:List Blk):Ev GV Γ0 9 (VJ a b) h (bool r) h:=by
 subst hr
 exact dy o.m o.g o.l o.c h
theorem uG{α:Type}:∀{x:List α} {l:α},x.getLast? = some l→x ≠ []∧x[x.length - 1]? = some l:=by
 intro x l h
 rw[List.getLast?_eq_getElem?] at h
 exact⟨by rintro rfl;simp at h,h⟩
theorem fL{f:FuncId}{A B:List (List Dp)}{x y:List EntT}{n:EntT}(ho:∀e∈x,e.ok)(hl:x.length≤1000000)(hy:joF x n=some y):Iv GV Γ0 Vz [ag n.row] (Xd f A B x n) (bool true) (joH f A B y 2 .ready [a5 n]):=by
 unfold joF at hy
 cases hx:x.getLast? with
 | none =>
  rw[hx] at hy
  cases hy
  have e0:x=[]:=by simpa using hx
  have hk:Qd (GY.wrap (((joV x).length:Int) - 1)≥0)=false:=by rw[e0];decide
  exact Iv.round (h1:=joH f A B x 1 .ready [a5 n,a5 n]) rfl rfl uE rfl (jo_b0 (l:=n) hk (by rw[hk,Bool.false_and]) hl) rfl
 | some l =>
  rw[hx] at hy
  obtain⟨hne,hg⟩:=uG hx
  have hpos:0<x.length:=KB.2 hne
  have hw:GY.wrap (((joV x).length:Int) - 1)=((x.length - 1:Nat):Int):=by
   rw[joV_len,wrap_i64 (by omega) (by omega)];omega
  have hk:Qd (GY.wrap (((joV x).length:Int) - 1)≥0)=true:=by rw[hw];simp
  have hi:inR (GY.wrap (((joV x).length:Int) - 1)) (joV x).length=true:=by rw[hw];simp[inR,joV_len];omega
  have hx2:x[Hh (GY.wrap (((joV x).length:Int) - 1))]? = some l:=by rw[hw,Iw];exact hg
  simp only at hy
  cases hs:kc l.st n.st with
  | false =>
   rw[hs] at hy
   cases hy
   exact Iv.round (h1:=joH f A B x 1 .ready [a5 n,a5 n]) rfl rfl uE rfl (jo_b1 hk hi hx2 (by rw[hk,Iy];exact hs) hl) rfl
  | true =>
   rw[hs] at hy
   simp only at hy
   cases hb:dv l n with
   | false=>rw[hb] at hy;cases hy
   | true =>
    rw[hb] at hy
    cases hy
    have hm:l∈x:=HL hg
    exact Iv.round (h1:=joH f A B x 1 .ready [a5 n,a5 n]) rfl rfl uE rfl (jo_b2 hk hi hx2 (by rw[hk,Iy];exact hs) (fun h=>uF (ho l hm) hb h)) rfl
theorem bS(l:List EntT)(n:EntT):SlT ((n::l).map Hi) (l.map Hi):=by
 unfold SlT
 have h1:(((n::l).map Hi).all fun r=>Qd (r.length=31))=true:=by
  rw[List.all_map]
  exact List.all_eq_true.2 fun e _=>rfl
 rw[h1]
 have h2:Hl ((((n::l).map Hi).length:Int).toNat - Hh 1) (Hb (Hh 1) ((n::l).map Hi))=l.map Hi:=by
  show Hl ((((n::l).map Hi).length:Int).toNat - 1) (l.map Hi)=_
  apply List.take_of_length_le
  simp
 rw[h2]
 have h3:co 1 (((n::l).map Hi).length:Int) ((n::l).map Hi).length=true:=by
  simp[co]
  omega
 rw[h3]
 rfl
structure JoI (a b x:List EntT) (k:Nat) (y:List EntT):Prop where
 kk:a.length+b.length=k
 l:x.length+a.length+b.length≤1000000
 oa:∀e∈a,e.ok
 ob:∀e∈b,e.ok
 ox:∀e∈x,e.ok
 g:joG k a b x=some y
theorem JoI.step_b{a b x x' y:List EntT}{m:EntT}{k:Nat}(I:JoI a (m::b) x (k+1) y)(hx:joF x m=some x')(hg:joG k a b x'=some y):JoI a b x' k y:=by
 have h1:=I.kk
 have h2:=I.l
 have h3:=fK hx
 simp only[HZ] at h1 h2
 refine⟨by omega,by omega,I.oa,fun e he=>I.ob e (by simp[he]),fun e he=>?_,hg⟩
 rcases joF_mem hx e he with h|h
 ·exact I.ox e h
 ·exact I.ob e (by simp[h])
theorem JoI.step_a{a b x x' y:List EntT}{n:EntT}{k:Nat}(I:JoI (n::a) b x (k+1) y)(hx:joF x n=some x')(hg:joG k a b x'=some y):JoI a b x' k y:=by
 have h1:=I.kk
 have h2:=I.l
 have h3:=fK hx
 simp only[HZ] at h1 h2
 refine⟨by omega,by omega,fun e he=>I.oa e (by simp[he]),I.ob,fun e he=>?_,hg⟩
 rcases joF_mem hx e he with h|h
 ·exact I.ox e h
 ·exact I.oa e (by simp[h])
theorem aY(n:EntT)(a:List EntT):Qd ((((n::a).map Hi).length:Int)>0)=true:=by first|(simp;done)|(simp;omega)
theorem fb(n:EntT)(a:List EntT):((((n::a).map Hi).length:Int)==0)=false:=by first|(simp;done)|(simp;omega)
theorem pO(n:EntT)(a:List EntT):af 0 ((n::a).map Hi) n.row 31:=rowAt (row:=Hi) (n:=0) (l:=n::a) rfl rfl
theorem jo_cw{f:FuncId}{a b x y:List EntT}{k:Nat}(I:JoI a b x k y){A0 B0:List (List Dp)}{x0:List EntT}:
  CW GV Γ0 (Xq f A0 B0 x0) false (.loop (sub Iq 0)) (itS f (a.map Hi) (b.map Hi) x) (.exit 0) (QG 49 (joH f [] [] y 1 .ready [])):=by
 refine CW.loop (ι:={p:List EntT×List EntT×List EntT×Nat // JoI p.1 p.2.1 p.2.2.1 p.2.2.2 y}) (fun p=>itS f (p.1.1.map Hi) (p.1.2.1.map Hi) p.1.2.2.1) (fun _=>(.exit 0,(QG 49 (joH f [] [] y 1 .ready [])))) (fun p=>p.1.2.2.2) ?_ ⟨(a,b,x,k),I⟩
 rintro⟨⟨a,b,x,k⟩,I⟩
 have hl:x.length≤1000000:=by have:=I.l;simp only at this;omega
 match a,b,k,I with
 | [],[],k,I =>
  right
  have hy:x=y:=by
   have:=I.g
   cases k with
   | zero=>simpa[joG] using this
   | succ k=>simpa[joG] using this
  subst hy
  exact⟨by simp,Fh rfl⟩
 | [],m::b,0,I=>have:=I.kk;simp at this
 | n::a,_,0,I=>have:=I.kk;simp at this
 | [],m::b,k+1,I =>
  left
  have hg:=I.g
  simp only[joG] at hg
  cases hx:joF x m with
  | none=>rw[hx] at hg;cases hg
  | some x' =>
   rw[hx] at hg
   refine⟨⟨([],b,x',k),I.step_b hx hg⟩,Ji k,rfl,?_⟩
   exact it_b1 (n:=m) (m:=m) (by rw[aY,MG]) rfl (fun h=>h.elim) (pO m b) (bS b m) rfl (fL I.ox hl hx)
 | n::a,[],k+1,I =>
  left
  have hg:=I.g
  simp only[joG] at hg
  cases hx:joF x n with
  | none=>rw[hx] at hg;cases hg
  | some x' =>
   rw[hx] at hg
   refine⟨⟨(a,[],x',k),I.step_a hx hg⟩,Ji k,rfl,?_⟩
   exact it_a1 (n:=n) (m:=n) (by rw[aY,JA]) rfl (pO n a) (fun h=>h.elim) (bS a n) (by rw[fb,It];rfl) (fL I.ox hl hx)
 | n::a,m::b,k+1,I =>
  left
  have hg:=I.g
  simp only[joG] at hg
  cases hc:Qd (bq m.st n.st<0) with
  | true =>
   rw[hc] at hg
   simp only at hg
   cases hx:joF x m with
   | none=>rw[hx] at hg;cases hg
   | some x' =>
    rw[hx] at hg
    refine⟨⟨(n::a,b,x',k),I.step_b hx hg⟩,Ji k,rfl,?_⟩
    exact it_b2 (n:=n) (m:=m) (by rw[aY,JA]) (fb n a) (aY m b) (pO n a) (pO m b) (bS b m) (by rw[fb,aY,It,Iy];exact hc) (fL I.ox hl hx)
  | false =>
   rw[hc] at hg
   simp only at hg
   cases hx:joF x n with
   | none=>rw[hx] at hg;cases hg
   | some x' =>
    rw[hx] at hg
    refine⟨⟨(a,m::b,x',k),I.step_a hx hg⟩,Ji k,rfl,?_⟩
    exact it_a2 (n:=n) (m:=m) (by rw[aY,JA]) (aY m b) (pO n a) (pO m b) (bS a n) (by rw[fb,aY,It,Iy];exact hc) (fL I.ox hl hx)
abbrev zad:List D:=[.ref (.yl 5),.ref (.ptr 1 0),.ref (.ptr 2 0)]
theorem A7{A B:List (List Dp)}{y:List EntT}
  (hcw:CW GV Γ0 (Xq 0 A B []) false (.loop (sub Iq 0)) (itS 0 A B []) (.exit 0) (QG 49 (joH 0 [] [] y 1 .ready []))):(Ev GV Γ0 73 zad (Xq 0 A B []) (.tup []) (joH 0 [] [] y 1 .ready [])):=by
 have hl0:=(@hcw)
 let v0:List Blk:=[.var zbd,.var [aa []],.var [aa []],.vec (joV y) 1 31,.defd,.loop HV none 0 (zam) zbu (aV (sub Hr 0)) (aq (sub Hr 0))]
 exact HU (Jj (h':=v0) (d:=D.tup []) pok [.st (.ren 3 1),.sum [0,1,2] (Exit.exit 0) {t:=mkT 49 0 [],h:=v0,m:=[]}] (by kernel_rfl) (.c (show([]:List (List D))=[] from rfl) (.c hl0 .n))) (by rfl) (by rfl)
abbrev X8:List D:=[.ref (.vec 3 0)]
abbrev Fi(A B:List (List Dp)):List Blk:=[.var X8,.var [aa A],.var [aa B],.vec [] 0 31]
noncomputable abbrev Vq(a:List EntT):AS:={t:=joT,h:=joH 0 [] [] a 1 .exhausted [],m:=[4]}
abbrev VT(c d:List (List Dp)):AS:={t:=joT,h:=Fi c d,m:=[]}
theorem jo_rf{a b y:List EntT}(I:JoI a b [] (a.length+b.length) y){h0:List Blk}:CW GV Γ0 h0 false (sub Hr 0) (VT (a.map Hi) (b.map Hi)) .normal
  (Vq y) :=
 CW.rangeFunc (f:=73) (fi:=[]) (ca:=Qb) pok (s:=(VT (a.map Hi) (b.map Hi))) (g:=.tmp 9) (ps:=#[10]) (asg:=aV (sub Hr 0)) (body:=aq (sub Hr 0)) rfl (by kernel_rfl) (A7 (jo_cw I)) rfl
noncomputable abbrev mo(y:List EntT):List Blk:=[.var [aa (GU Hi y)],.var [aa []],.var [aa []],.gone,.defd,.loop Kc none 0 (ZJ) Yg (aV (sub Hr 0)) (aq (sub Hr 0))]
theorem A8{A B:List (List Dp)}{y:List EntT}(hrf:CW GV Γ0 [] false (sub Hr 0) (VT A B) .normal (Vq y))
  (hfit:∀h,Ev GV Γ0 18 (WC y) h (bool true) h) (hbig:Qd (((y.map Hi).length:Int)≤65536)=true) (h:List Blk):(Ev GV Γ0 22 [aa A,aa B] h (aa (y.map Hi)) h):=by
 have hl0:=(@hrf)
 exact z0 [.inl,.nx 3,.st (.nilC 0 0 31),.sum [4,9] (Hz) {t:=ZJ,h:=[.var zbd,.var [aa []],.var [aa []],.vec (joV y) 1 31,.defd,.loop Kc none 0 (zam) zbu (aV (sub Hr 0)) (aq (sub Hr 0))],m:=[4]},.st (.frz 3 (GU Hi y)),.val (bool true),.val (D.tup []),.inl,.b false] (.c hl0 (.c (show joV y=GU (fun x=>GU D.p x) (GU Hi y) from(by first|assumption|rfl|exact yT _|exact bJ _ _|exact bK _ _)) (.c (@hfit (mo y)) (.c (@mn 390 (mo y)) (.c (show(!Qd ((↑(G3 (GU Hi y)):Int)≤65536))=false from(by rw[hbig]<;>rfl)) .n))))) h
abbrev XY(c d:List EntT):List D:=[aa (c.map Hi),aa (d.map Hi)]
theorem yV{a b y:List EntT}(hy:joG (a.length+b.length) a b []=some y)(ha:a.length+b.length≤60000)(oa:∀e∈a,e.ok)(ob:∀e∈b,e.ok)(hv:∀e∈y,0≤e.campus∧e.campus<7)(hf:vX y=true)(hly:y.length≤65536)(h:List Blk):
  Ev GV Γ0 22 (XY a b) h (aa (y.map Hi)) h:=by
 refine A8 (jo_rf ⟨rfl,by simp only[IP];omega,oa,ob,by simp,hy⟩) (fun h=>?_) (by simp;omega) h
 rw[←hf]
 exact yQ (show y.length≤_ by omega) hv h
theorem uH{m n:EntT}:(Ev GV Γ0 24 [ag m.row,.ref (.ptr 0 0)] [a5 n] (bool (kc m.st n.st)) [a5 n]):=by
 let v0:List D:=(Za n n.kind)
 exact HU (Ev.post (d2:=bool (m.time==n.time&&(m.campus==n.campus&&(m.no==n.no&&true)))) (h2:=[.var v0]) (φ:=[]) [.st (.trim 1)] (Jj (h':=[.var v0,.var (Za m m.kind)]) (d:=bool (m.time==n.time&&(m.campus==n.campus&&(m.no==n.no&&true)))) pok [] (by kernel_rfl) .n) (by kernel_rfl) trivial) (by rfl) (by rfl)
abbrev ixS(L:List (List Dp))(n:EntT)(i:Int):AS:={t:=mkT 19 0 [(0,aa L),(1,.fn (.func 24) [] Qw),(4,int 0),(7,(XO L)),(8,int i)],h:=[a5 n],m:=[]}
noncomputable abbrev nX(n:EntT):List Blk:=(za1 n)
abbrev zag(a b:EntT):D:=bool (kc (Jv a) (Jv b))
abbrev zbN:D:=Hy (He 24) [] Qw
theorem Fj{L:List (List Dp)}{m n:EntT}{i:Nat}(hr:af (i:Int) L m.row 31)(hlt:Qd ((i:Int)<(L.length:Int))=true)(hw:GY.wrap ((i:Int)+1)=((i+1:Nat):Int))(he:kc m.st n.st=false):(CW GV Γ0 [a5 n] false (sub LA 0) (ixS L n i) .normal (ixS L n ((i+1:Nat):Int))):=by
 cases hc0:kc (Jv m) (Jv n)
 ·refine zX {t:=mkT 19 0 [(0,aa L),(1,Hy (He 24) [] [.ref (.ptr 0 0)]),(4,int 0),(7,int (↑(G3 L):Int)),(8,int (G1 GY ((↑i:Int)+1)))],h:=(nX n),m:=[]} Hz [.st (.mask [0,1,4,7,8]),.st (.trim 1)] [.b true,.row [vi m.time,vi m.campus,vi m.no,vi m.kind,vi m.stu,vi m.obj,vi m.term,vi m.val,vi m.frm,vi m.til,vs m.text,vi m.sec.id,vi m.sec.course,vi m.sec.term,vi m.sec.campus,vi m.sec.seats,Hj (GU Hm m.sec.mts),Hj (GU Hn m.sec.grs),Hj (GU ab m.sec.labs),G2 (Ht m.sec.lab),vi m.req.campus,vi m.req.no,vi m.req.st,vi m.req.kind,vi m.req.time,Hj (GU G7 m.req.chs),vi m.req.gsec,vi m.req.glab,vi m.req.key,vi m.r,vi m.s],.val (bool (kc (Jv m) (Jv n))),.b false] (.c hlt (.c hr (.c (@uH m n) (.c hc0 .n)))) ?_ ?_<;>(first|rfl|(rw[hw]<;>rfl)|(cases he.symm.trans hc0))
 ·refine zX {t:=mkT 19 0 [(0,aa L),(1,Hy (He 24) [] [.ref (.ptr 0 0)]),(4,int (↑i:Int)),(7,int (↑(G3 L):Int)),(8,int (↑i:Int))],h:=(nX n),m:=[]} Im [.st (.mask [0,1,4,7,8]),.st (.trim 1)] [.b true,.row [vi m.time,vi m.campus,vi m.no,vi m.kind,vi m.stu,vi m.obj,vi m.term,vi m.val,vi m.frm,vi m.til,vs m.text,vi m.sec.id,vi m.sec.course,vi m.sec.term,vi m.sec.campus,vi m.sec.seats,Hj (GU Hm m.sec.mts),Hj (GU Hn m.sec.grs),Hj (GU ab m.sec.labs),G2 (Ht m.sec.lab),vi m.req.campus,vi m.req.no,vi m.req.st,vi m.req.kind,vi m.req.time,Hj (GU G7 m.req.chs),vi m.req.gsec,vi m.req.glab,vi m.req.key,vi m.r,vi m.s],.val (bool (kc (Jv m) (Jv n))),.b true] (.c hlt (.c hr (.c (@uH m n) (.c hc0 .n)))) ?_ ?_<;>(first|rfl|(rw[hw]<;>rfl)|(cases he.symm.trans hc0))
noncomputable abbrev rz(n:EntT):List Blk:=(za1 n)
theorem ix_hit{L:List (List Dp)}{m n:EntT}{i:Nat}(hr:af (i:Int) L m.row 31)(hlt:Qd ((i:Int)<(L.length:Int))=true)(he:kc m.st n.st=true):(CW GV Γ0 [a5 n] false (sub LA 0) (ixS L n i) .ret {t:=(X2 i),h:=[a5 n],m:=[]}):=by
 cases hc0:kc (Jv m) (Jv n)
 ·let v0:=(ZF m)
  let v1:=(ZE m)
  let v2:=(Zs m)
  let v3:=(ZD m)
  refine zX {t:=mkT 19 0 [(0,aa L),(1,zbN),(4,int 0),(5,(Q9 i)),(7,(QI L)),(8,(ZP i)),(9,(X6 i L)),(10,(Q9 i)),(11,zbN),(12,aa L),(13,(Q9 i)),(14,D.ep (Zc m v0 v1 v2 v3)),(15,Hc (Zf m m.term v0 v1 v2 v3)),(16,(zag m n)),(18,(ZP i))],h:=(rz n),m:=[]} Hz [] [.b true,.row (Zc m v0 v1 v2 v3),.val (zag m n),.b false] (.c hlt (.c hr (.c (@uH m n) (.c hc0 .n)))) ?_ ?_<;>subst v0 v1 v2 v3<;>(first|rfl|(cases he.symm.trans hc0))
 ·refine zX {t:=mkT 19 0 [(4,(Q9 i))],h:=(rz n),m:=[]} Im (Vg [4] 1) (zbs m (zag m n) true) (.c hlt (.c hr (.c (@uH m n) (.c hc0 .n)))) ?_ ?_<;>(first|rfl|(cases he.symm.trans hc0))
abbrev Vu(a:EntT):AS:={t:=mkT 19 0 [],h:=[a5 a],m:=[]}
theorem Fk{L:List (List Dp)}{n:EntT}{i:Nat}(hlt:Qd ((i:Int)<(L.length:Int))=false):(CW GV Γ0 [a5 n] false (sub LA 0) (ixS L n i) (.exit 0) (Vu n)):=by
 exact zx YI [.b false] (.c hlt .n)
def zE(n m:EntT)(i:Nat):Nat⊕Nat:=match kc m.st n.st with
 | true=>.inr i
 | false=>.inl (i+1)
def idxR(n:EntT)(y:List EntT):Int:=match forL (zE n) y 0 with
 | .inl _ => -1
 | .inr i=>(i:Int)
theorem Fl{y:List EntT}{n:EntT}(hs:ar y):CW GV Γ0 [a5 n] false (.loop (sub LA 0)) (ixS (y.map Hi) n 0)
  (au (.exit 0) (fun _:Nat=>(Vu n)) (fun i:Nat=>(Xs 19 4 (i:Int) [a5 n])) (forL (zE n) y 0)).1 (au (.exit 0) (fun _:Nat=>(Vu n)) (fun i:Nat=>(Xs 19 4 (i:Int) [a5 n])) (forL (zE n) y 0)).2:=by
 refine CW.each y (zE n) (fun j _=>ixS (y.map Hi) n (j:Int)) (.exit 0) _ _ (fun j s=>s=j) (by simp) (fun _=>by simp) ?_ ?_ 0 rfl
 ·rintro j m s hj rfl
  have hlt:=(List.getElem?_eq_some_iff.1 hj).1
  have hr:=rowAt (row:=Hi) (sz:=31) hj rfl
  refine⟨fun s' h=>?_,?_⟩
  ·unfold zE at h
   split at h<;>cases h
   rfl
  ·unfold zE
   cases hb:kc m.st n.st with
   | true=>exact ix_hit hr (lt_len Hi hlt) hb
   | false=>exact Fj hr (lt_len Hi hlt) (wrap_succ hlt hs) hb
 ·intro a _
  exact Fk (bm Hi y)
theorem idx_o{L:List (List Dp)}{n:EntT}(hl:CW GV Γ0 [a5 n] false (.loop (sub LA 0)) (ixS L n 0) (.exit 0) (Vu n)):(Ev GV Γ0 23 [aa L,.fn (.func 24) [] Qw] [a5 n] (int (-1)) [a5 n]):=by
 have hl0:=(@hl)
 let v0:List Blk:=(za1 n)
 exact HU (Jj (h':=v0) (d:=int (-1)) pok [.sum [0,1,4,7,8] (Exit.exit 0) {t:=mkT 19 0 [],h:=v0,m:=[]}] (by kernel_rfl) (.c hl0 .n)) (by rfl) (by rfl)
theorem idx_x{L:List (List Dp)}{n:EntT}{i:Nat}(hl:CW GV Γ0 [a5 n] false (.loop (sub LA 0)) (ixS L n 0) .ret {t:=(X2 i),h:=[a5 n],m:=[]}):(Ev GV Γ0 23 [aa L,.fn (.func 24) [] Qw] [a5 n] (int (i:Int)) [a5 n]):=by
 have hl0:=(@hl)
 let v0:List Blk:=(za1 n)
 exact HU (Jj (h':=v0) (d:=(Q9 i)) pok [.sum [0,1,4,7,8] (Im) {t:=mkT 19 0 [(4,(Q9 i))],h:=v0,m:=[]}] (by kernel_rfl) (.c hl0 .n)) (by rfl) (by rfl)
theorem idx_ev{y:List EntT}{n:EntT}(hs:ar y):Ev GV Γ0 23 [aa (y.map Hi),.fn (.func 24) [] Qw] [a5 n] (int (idxR n y)) [a5 n]:=by
 have:=Fl (n:=n) hs
 unfold idxR
 cases hf:forL (zE n) y 0 with
 | inl a=>rw[hf] at this;exact idx_o this
 | inr i=>rw[hf] at this;exact idx_x this
def cL:Code→Code
 | .seq a _=>a
 | .cond _ a _=>a
 | _=>.skip
def cR:Code→Code
 | .seq _ b=>b
 | .cond _ _ b=>b
 | _=>.skip
theorem pA(h:List Blk):(Ev GV Γ0 21 [int 0] h (.tup []) h):=by
 exact z0 [.val (D.tup [])] (.c (@mn 0 ([])) .n) h
abbrev puH(n:EntT)(e:Int):List Blk:=[a5 n,.var [int e]]
abbrev Wp:Nat × D:=(6,.ref (.ptr 1 0))
abbrev puT(L:List (List Dp)):List D:=mkT 23 0 [(0,aa L),Xl,(4,nq),(5,int 0),Wp]
noncomputable abbrev iQ(n:EntT):List Blk:=[.var (Za n n.kind),.var [int 0],.gone]
abbrev zcj(a:EntT):List Blk:=[.var (Za a a.kind),.var [int 0]]
noncomputable abbrev kL(n:EntT):List Blk:=(zcj n)
abbrev XQ(a:List (List Dp))(b:EntT):AS:={t:=puT a,h:=puH b 0,m:=[]}
theorem pu_ok{L y:List (List Dp)}{n:EntT}{ix:Int}(hck:∀h,Ev GV Γq 6 [aa L] h (int 0) h)(hen:∀h,Ev GV Γq 15 [ag n.row] h (int 0) h)
  (hjo:Ev GV Γ0 22 [aa L,.ref (.vec 0 0)] [.vec [n.row.map .p] 0 31] (aa y) [.gone]) (hix:Ev GV Γ0 23 [aa y,.fn (.func 24) [] Qw] [a5 n] (int ix) [a5 n]):(CW GV Γq (puH n 0) false (cR (cR (ap I8))) (XQ L n) .ret {t:=mkT 23 0 [(4,aa y),(5,int ix),Wp],h:=puH n 0,m:=[]}):=by
 let v0:List D:=(Za n n.kind)
 exact zx (X5 [4,5,6] 2) [.val (int 0),.val (D.tup []),.val (int 0),.val (D.tup []),.call (aa y) (iQ n),.val (int ix)] (.c (@hck (kL n)) (.c (Hx (Γ':=Γq) (@pA (kL n))) (.c (@hen (kL n)) (.c (Hx (Γ':=Γq) (@pA (kL n))) (.c (show Ev GV Γq 22 [aa L,.ref (.vec 2 0)] [.var v0,.var [int 0],.vec [v0] 0 31] (aa y) (iQ n) from(HU (Ev.frameX (args:=[aa L,.ref (.vec 2 0)]) (H:=[.var v0,.var [int 0],.vec [v0] 0 31]) [2] (Hx (@hjo)) (by kernel_rfl) (by kernel_rfl) (by kernel_rfl) ⟨(by subst v0;first|rfl|exact ay _ _|first|assumption|rfl),trivial⟩ trivial) (by kernel_rfl) (by kernel_rfl))) (.c (show Ev GV Γq 23 [aa y,zbN] (iQ n) (int ix) (iQ n) from(HU (Ev.frameX (args:=[aa y,zbN]) (H:=(iQ n)) [0] (Hx (@hix)) (by kernel_rfl) (by kernel_rfl) (by kernel_rfl) trivial trivial) (by kernel_rfl) (by kernel_rfl))) (.c (show Ho 2 (.var v0)=true from rfl) (.c (show Ho 2 (.var [int 0])=true from rfl) .n))))))))
def cq:Code→Array Oper
 | .region _ o _=>o
 | _=>#[]
def wv:Code→Nat
 | .region i _ _=>i
 | _=>0
theorem Ev.pre{P:Program}{Γ:ae}{f:FuncId}{args args2:List D}{h h1 h2:List Blk}{d:D}(az:List Ans){φ:List Prop}(hp:Vi.pre h {t:=args,h:=h,m:=[]} az=some ({t:=args2,h:=h1,m:=[]},[],φ))(hφ:AllP φ)(hE:Ev P Γ f args2 h1 d h2):Ev P Γ f args h d h2:=by
 intro O w l vs R ra
 obtain⟨l2,R2,E2,r2, -⟩:=qV (Γ:=Γ) (X:={O:=O,w:=w,l:=l,h:=h}) _ _ _ _ _ hp hφ {tmps:=vs.toArray,defers:=[]} w ⟨l,R,Ext.refl w l h,by simpa using ra,rfl⟩
 refine CallsIn.mono (hE O w l2 vs R2 (by simpa using r2)) ?_
 rintro e w' ⟨v,d',h',l',rfl,⟨rfl,rfl⟩,R',E',r'⟩
 exact⟨v,_,_,l',rfl,⟨rfl,rfl⟩,R',E2.trans E',r'⟩
theorem A9:ap I8=.seq (.region (wv (cL (ap I8))) (cq (cL (ap I8))) false) (.seq (.region (wv (cL (cR (ap I8)))) (cq (cL (cR (ap I8)))) false) (cR (cR (ap I8)))):=by kernel_rfl
def noCall:CallX:=fun _ _ _=>none
theorem rA:noCall.Ok GV Γq:=fun _ _ _ _ h=>by simp[noCall] at h
def Ci(o:List Oper):Oper:=o.getLastD default
abbrev u0T(L:List (List Dp))(n:EntT):List D:=mkT 23 0 [(0,aa L),(1,ag n.row),Xl,(4,nq),(5,int 0),Wp]
abbrev u1T(L:List (List Dp))(n:EntT):List D:=mkT 23 0 [(0,aa L),(1,ag n.row),Xl,(4,nq),(5,int 0),Wp,(8,.fn (.func 19) [] Zi)]
theorem Fm{L:List (List Dp)}{n:EntT}{e:Exit}{s':AS}(hrest:CW GV Γq (puH n 0) false (cR (cR (ap I8))) (XQ L n) e s'):
  TopW GV Γq (ap I8) {t:=ba I8 [aa L,ag n.row],h:=[],m:=[]} e s' (some (19,Zi)):=by
 rw[A9]
 refine TopW.seq (s1:={t:=u0T L n,h:=puH n 0,m:=[]}) (fun X=>VW.regionX (t':=u0T L n) (h':=puH n 0) (e:=.normal) rA (by kernel_rfl) ⟨rfl,rfl⟩) ?_
 exact TopW.deferH (os:=(cq (cL (cR (ap I8)))).toList.dropLast) (o:=Ci (cq (cL (cR (ap I8)))).toList) (fv:=.tmp 8) (args:=#[]) (ats:=#[]) (t1:=u1T L n) (h1:=puH n 0) (f:=19) (fi:=[]) (ca:=Zi) pok rA (by kernel_rfl) (by kernel_rfl) (by kernel_rfl) (by kernel_rfl) rfl (by kernel_rfl) (by kernel_rfl) (CW.pre [0,3,4,5,6] hrest)
theorem dfn_ok:DfF.Ok GV Γq (fy GV Γq noW 100):=(xg pok (W:=noW) (fun _ _ _ _ h=>by simp[noW] at h) 100).2.2.2.2
theorem Fo{y:List (List Dp)}{n:EntT}{ix:Int}:gq GV I8 (fy GV Γq noW 100) 0 .ret {t:=mkT 23 0 [(4,aa y),(5,int ix),Wp],h:=puH n 0,m:=[]} (some (19,Zi))=some (.ret (.tup [aa y,int ix,int 0]) []):=by kernel_rfl
theorem Ba:ap Kj=.seq (.region (wv (cL (ap Kj))) (cq (cL (ap Kj))) false) (.cond (.tmp 5) (.region (wv (cL (cR (ap Kj)))) (cq (cL (cR (ap Kj)))) false) .skip):=by kernel_rfl
theorem nY:noCall.Ok GV Γ0:=fun _ _ _ _ h=>by simp[noCall] at h
noncomputable abbrev dm0T(e:Int):List D:=mkT 9 0 [(0,bool false),(1,int e),Yb,(5,bool true)]
noncomputable def dm1(e:Int):Option (Exit×List D×List Blk):=a8 GV Γ0 noCall [] (cq (cL (cR (ap Kj)))).toList (cq (cL (cR (ap Kj)))).toList (dm0T e) []
noncomputable def dmC(e:Int):List PanicEntry:=match dm1 e with
 | some (.panic c,_,_)=>c
 | _=>[]
noncomputable def dmT(e:Int):List D:=match dm1 e with
 | some (_,t,_)=>t
 | _=>[]
theorem jG(e:Int)(h:List Blk):VPan GV Γ0 36 [bool false,int e] h fun c h'=>c=dmC e∧h'=h:=by
 refine MH (fn:=Kj) (c:=ap Kj) rfl rfl fun X _=>?_
 rw[Ba]
 refine VW.seq (VW.regionX (s:={t:=ba Kj [bool false,int e],h:=h,m:=[]}) (t':=dm0T e) (h':=h) (e:=.normal) nY (by kernel_rfl) ?_)
 refine VW.cond (b:=true) rfl (fun _=>?_) (fun hf=>by cases hf)
 refine VW.regionX (s:={t:=dm0T e,h:=h,m:=[]}) (t':=dmT e) (h':=h) (e:=.panic (dmC e)) nY (by kernel_rfl) ?_
 exact⟨_,rfl,rfl,Lv,rfl,rfl⟩
def uI(o:Oper):Operand:=match o.op with
 | .call {callee:=.value fv,.. }=>fv
 | _=>.tmp 0
def dM(o:Oper):Array Operand:=match o.op with
 | .call {args,.. }=>args
 | _=>#[]
def sM(o:Oper):Array TypeId:=match o.op with
 | .call {argTypes,.. }=>argTypes
 | _=>#[]
noncomputable abbrev r5O:Array Oper:=cq (cL (cD (ap Hr) 5))
noncomputable abbrev r5L:Oper:=Ci r5O.toList
theorem Fp:cD (ap Hr) 5=.seq (.region (wv (cL (cD (ap Hr) 5))) r5O true) (.exit 1):=by kernel_rfl
def noI:Inl:=fun _ _ _ _=>none
theorem Cj:fe GV Γ0 noI:=fun _ _ _ _ _ _ _ _ h=>by simp[noI] at h
abbrev VS(a:List EntT):D:=int (GY.wrap (((joV a).length:Int) - 1))
abbrev r5A(x:List EntT):List D:=mkT 45 0 [ZM,(VG 5),(6,(VS x))]
abbrev zbM(a:D)(b:Ref)(c d:D):List D:=mkT 45 0 [ZM,(VG 5),(6,a),(26,.ref (.vec 3 1)),(27,a),(28,.ref b),(29,c),(30,d),(31,bool false)]
abbrev r5B(x:List EntT)(l n:EntT):List D:=(zbM (VS x) (.vp 3 1 (Hh (GY.wrap (((joV x).length:Int) - 1))) 0) (ag l.row) (ag n.row))
noncomputable abbrev zb8(a:Int):Exit:=(.panic (dmC a))
noncomputable abbrev X9:Exit:=(zb8 390)
abbrev Wm(a:FuncId):Dp:=(.v (.func (.func a) #[] #[]))
theorem jo_r5{f:FuncId}{A B:List (List Dp)}{x:List EntT}{l n:EntT}(hi:inR (GY.wrap (((joV x).length:Int) - 1)) (joV x).length=true)(hx:x[Hh (GY.wrap (((joV x).length:Int) - 1))]? = some l)(hsm:∀h,Ev GV Γ0 9 (VJ l n) h (bool false) h):
  CW GV Γ0 (Xd f A B x n) true (cD (ap Hr) 5) {t:=r5A x,h:=(XD f A B x n),m:=[]} X9 {t:=r5B x l n,h:=(XD f A B x n),m:=[]}:=by
 rw[Fp]
 refine CW.out (by simp) (CW.drawPush (h1:=(XD f A B x n)) (ops:=r5O.pop) (o:=r5L) (fv:=uI r5L) (args:=dM r5L) (ats:=sM r5L) pok Cj [.ov 29 (ag l.row),.val (bool false)]
  (φ:=[inR (GY.wrap (((joV x).length:Int) - 1)) (joV x).length=true,GO GV 47 (joV x) 1 1 (Hh (GY.wrap (((joV x).length:Int) - 1))) 0 (ag l.row),Ev GV Γ0 9 (VJ l n) (XD f A B x n) (bool false) (XD f A B x n)])
  (by kernel_rfl) (by kernel_rfl) (by kernel_rfl) (by kernel_rfl) (by kernel_rfl) (by kernel_rfl) rfl (by kernel_rfl) ⟨hi,uD hx,hsm _,trivial⟩ ?_ rfl)
 have e1:evalD Γ0 (r5B x l n) (uI r5L)=.p (Wm 36):=by kernel_rfl
 have e2:(dM r5L).toList.map (evalD Γ0 (r5B x l n))=[bool false,int 390]:=by kernel_rfl
 rw[e1,e2]
 exact K0 pok (f:=36) (fi:=[]) (ca:=[]) rfl (by kernel_rfl) (jG 390 _)
theorem jo_pan{f:FuncId}{A B:List (List Dp)}{x:List EntT}{l n:EntT}{c:List PanicEntry}(hk:Qd (GY.wrap (((joV x).length:Int) - 1)≥0)=true)(hi:inR (GY.wrap (((joV x).length:Int) - 1)) (joV x).length=true)(hx:x[Hh (GY.wrap (((joV x).length:Int) - 1))]? = some l)(he:(Qd (GY.wrap (((joV x).length:Int) - 1)≥0)&&(l.st.time==n.time&&(l.st.campus==n.campus&&(l.st.no==n.no&&true))))=true)
  (hT:CW GV Γ0 (Xd f A B x n) true (cD (ap Hr) 5) {t:=r5A x,h:=(XD f A B x n),m:=[]} (.panic c) {t:=r5B x l n,h:=(XD f A B x n),m:=[]}):(CW GV Γ0 (Xd f A B x n) true (aq (sub Hr 0)) {t:=joU,h:=(XD f A B x n),m:=[]} (.panic c) {t:=r5B x l n,h:=(XD f A B x n),m:=[]}):=by
 have hl0:=(@hT)
 let v0:List D:=(Za n n.kind)
 let v1:List Blk:=[.var YP,.var [aa A],.var [aa B],.vec (joV x) 1 31,.defd,.loop I6 none f (ZJ) Yg (aV (sub Hr 0)) (aq (sub Hr 0)),.var v0,.var v0]
 let v2:List D:=(Za l l.kind)
 exact zx [] [.ov 21 (ag (StT.row (Jv l))),.b true,.ssum [4,5,6] (K2 c) {t:=(zbM (Vc (G3 (joV x))) (YO x) (Hc v2) (Hc v0)),h:=v1}] (.c (show Qd (G1 GY ((↑(G3 (joV x)):Int) - 1)≥0)=true→inR (G1 GY ((↑(G3 (joV x)):Int) - 1)) (G3 (joV x))=true from(fun hg=>hi)) (.c (show Qd (G1 GY ((↑(G3 (joV x)):Int) - 1)≥0)=true→aD GV v1 31 (.ref (YO x))=some (Hc (Z9 (Jv l))) from(fun hg=>(by subst v0 v1 v2;first|assumption|rfl|exact A1 hx|exact A2 hx rfl|exact bJ _ _|exact bK _ _))) (.c he (.c hl0 .n))))
theorem jo_ivp{A B:List (List Dp)}{x:List EntT}{n:EntT}(ho:∀e∈x,e.ok)(hl:x.length≤1000000)(hy:joF x n=none):VInvP GV Γ0 Vz [ag n.row] (Xd 22 A B x n) fun c2 h2=>c2=dmC 390∧h2=(XD 22 A B x n):=by
 unfold joF at hy
 cases hx:x.getLast? with
 | none=>rw[hx] at hy;cases hy
 | some l =>
  rw[hx] at hy
  obtain⟨hne,hg⟩:=uG hx
  have hpos:0<x.length:=KB.2 hne
  have hw:GY.wrap (((joV x).length:Int) - 1)=((x.length - 1:Nat):Int):=by
   rw[joV_len,wrap_i64 (by omega) (by omega)];omega
  have hk:Qd (GY.wrap (((joV x).length:Int) - 1)≥0)=true:=by rw[hw];simp
  have hi:inR (GY.wrap (((joV x).length:Int) - 1)) (joV x).length=true:=by rw[hw];simp[inR,joV_len];omega
  have hx2:x[Hh (GY.wrap (((joV x).length:Int) - 1))]? = some l:=by rw[hw,Iw];exact hg
  simp only at hy
  cases hs:kc l.st n.st with
  | false=>rw[hs] at hy;cases hy
  | true =>
   rw[hs] at hy
   simp only at hy
   cases hb:dv l n with
   | true=>rw[hb] at hy;cases hy
   | false =>
    have hm:l∈x:=HL hg
    have hT:=jo_r5 (f:=22) (A:=A) (B:=B) (n:=n) hi hx2 (fun h=>uF (ho l hm) hb h)
    exact xF (h1:=joH 22 A B x 1 .ready [a5 n,a5 n]) (fn:=Hr) (s2:={t:=r5B x l n,h:=(XD 22 A B x n),m:=[]}) rfl (by decide) rfl rfl uE rfl (jo_pan (f:=22) hk hi hx2 (by rw[hk,Iy];exact hs) hT) rfl
noncomputable abbrev i6O:Array Oper:=cq (cL (cD (ap Iq) 6))
theorem Fq:cD (ap Iq) 6=.seq (.region (wv (cL (cD (ap Iq) 6))) i6O false) (cR (cD (ap Iq) 6)):=by kernel_rfl
noncomputable abbrev i6L:Oper:=(i6O.toList.drop 2).headD default
abbrev i6A:List D:=mkT 49 0 [zb7,XW]
abbrev i6B(n:EntT):List D:=mkT 49 0 [zb7,XW,(45,.ref (.yl 5)),(46,ag n.row)]
abbrev X0(a:EntT)(b:List Blk):AS:={t:=i6B a,h:=b,m:=[]}
theorem i6_pan{A B:List (List Dp)}{x:List EntT}{n:EntT}{c:List PanicEntry}{h0 hp:List Blk}(hm:marksOk hp []=true)(hy:VInvP GV Γ0 Vz [ag n.row] (Xd 22 A B x n) fun c2 h2=>c2=c∧h2=hp):
  CW GV Γ0 h0 false (cD (ap Iq) 6) {t:=i6A,h:=(Xd 22 A B x n),m:=[]} (.panic c) (X0 n hp):=by
 rw[Fq]
 refine CW.out (by simp) (CW.callPan (os1:=i6O.toList.take 2) (rest:=i6O.toList.drop 3) (o:=i6L) (fv:=uI i6L) (args:=dM i6L) (ats:=sM i6L) (h1:=(Xd 22 A B x n)) (by kernel_rfl) (by kernel_rfl) (by kernel_rfl) (by kernel_rfl) ?_ hm)
 have e1:evalD Γ0 (i6B n) (uI i6L)=.ref (.yl 5):=by kernel_rfl
 have e2:(dM i6L).toList.map (evalD Γ0 (i6B n))=[ag n.row]:=by kernel_rfl
 rw[e1,e2]
 exact hy
noncomputable abbrev yW(A:List (List Dp))(B:List (List Dp))(x:List EntT):List Blk:=[.var zbd,.var [aa A],.var [aa B],.vec (joV x) 1 31,.defd,.loop HV none 22 (zam) zbu (aV (sub Hr 0)) (aq (sub Hr 0))]
abbrev Yp(a:List D):List D:=mkT 49 0 [zb7,(zbf 5 6),(45,.ref (.yl 5)),(46,Hc a)]
theorem it_pa1{A0 B0 A A' B:List (List Dp)}{x0 x:List EntT}{m n:EntT}{c:List PanicEntry}{hp:List Blk}(hAB:(Qd ((A.length:Int)>0)||Qd ((B.length:Int)>0))=true)(hb:Qd ((B.length:Int)>0)=false)(hra:af 0 A n.row 31)(hrb:False→af 0 B m.row 31)(hs:SlT A A')(hcd:(((A.length:Int)==0)||(Qd ((B.length:Int)>0)&&Qd (bq ⟨m.time,m.campus,m.no⟩ ⟨n.time,n.campus,n.no⟩<0)))=false)
  (hT:CW GV Γ0 (Xq 22 A0 B0 x0) false (cD (ap Iq) 6) {t:=i6A,h:=(Xd 22 A' B x n),m:=[]} (.panic c) (X0 n hp)):(CW GV Γ0 (Xq 22 A0 B0 x0) false (sub Iq 0) (itS 22 A B x) (.panic c) (X0 n hp)):=by
 have hl0:=(@hT)
 let v1:=(ZF n)
 let v2:=(ZE n)
 let v3:=(Zs n)
 let v4:=(ZD n)
 let v0:List D:=(Zf n n.term v1 v2 v3 v4)
 exact zx [] [.b true,.row (Zd m),.row (Zc n v1 v2 v3 v4),.val (Qq m n),.b false,.row (Zc n v1 v2 v3 v4),.ov 43 (aa A'),.ssum [0,5] (K2 c) {t:=(Yp v0),h:=hp}] (.c hAB (.c (show(!(↑(G3 A):Int)==0&&Qd ((↑(G3 B):Int)>0))=true→af 0 B (Zd m) 31 from(fun hg=>(hrb (by subst v1 v2 v3 v4 v0;first|exact hg|(simp at hg;done)|(simp_all;done))))) (.c (show(!(↑(G3 A):Int)==0&&Qd ((↑(G3 B):Int)>0))=true→af 0 A (Zc n v1 v2 v3 v4) 31 from(fun hg=>hra)) (.c (gd (!(↑(G3 A):Int)==0&&Qd ((↑(G3 B):Int)>0)) (@da ({time:=m.time,campus:=m.campus,no:=m.no}) ({time:=n.time,campus:=n.campus,no:=n.no}) (yW A B x))) (.c hcd (.c hra (.c (show @Eq (Option (Bool×D)) (some (co 1 (↑(G3 A):Int) (G3 A)&&true&&(true||false)&&Ia A fun r=>Qd (G3 r=31),(Q3 A 1))) (some (true,aa A')) from(by subst v1 v2 v3 v4 v0;first|(simp only[hAB,hb,hcd,cond_true,cond_false];done)|first|assumption|rfl|exact hs|(exfalso;simp_all;done))) (.c hl0 .n))))))))
noncomputable abbrev yX(A:List (List Dp))(B:List (List Dp))(x:List EntT):List Blk:=[.var zbd,.var [aa A],.var [aa B],.vec (joV x) 1 31,.defd,.loop HV none 22 (zam) zbu (aV (sub Hr 0)) (aq (sub Hr 0))]
theorem it_pa2{A0 B0 A A' B:List (List Dp)}{x0 x:List EntT}{m n:EntT}{c:List PanicEntry}{hp:List Blk}(hAB:(Qd ((A.length:Int)>0)||Qd ((B.length:Int)>0))=true)(hb:Qd ((B.length:Int)>0)=true)(hra:af 0 A n.row 31)(hrb:af 0 B m.row 31)(hs:SlT A A')(hcd:(((A.length:Int)==0)||(Qd ((B.length:Int)>0)&&Qd (bq ⟨m.time,m.campus,m.no⟩ ⟨n.time,n.campus,n.no⟩<0)))=false)
  (hT:CW GV Γ0 (Xq 22 A0 B0 x0) false (cD (ap Iq) 6) {t:=i6A,h:=(Xd 22 A' B x n),m:=[]} (.panic c) (X0 n hp)):(CW GV Γ0 (Xq 22 A0 B0 x0) false (sub Iq 0) (itS 22 A B x) (.panic c) (X0 n hp)):=by
 have hl0:=(@hT)
 let v1:=(ZF n)
 let v2:=(ZE n)
 let v3:=(Zs n)
 let v4:=(ZD n)
 let v0:List D:=(Zf n n.term v1 v2 v3 v4)
 exact zx [] [.b true,.row (Zd m),.row (Zc n v1 v2 v3 v4),.val (Qq m n),.b false,.row (Zc n v1 v2 v3 v4),.ov 43 (aa A'),.ssum [0,5] (K2 c) {t:=(Yp v0),h:=hp}] (.c hAB (.c (show(!(↑(G3 A):Int)==0&&Qd ((↑(G3 B):Int)>0))=true→af 0 B (Zd m) 31 from(fun hg=>hrb)) (.c (show(!(↑(G3 A):Int)==0&&Qd ((↑(G3 B):Int)>0))=true→af 0 A (Zc n v1 v2 v3 v4) 31 from(fun hg=>hra)) (.c (gd (!(↑(G3 A):Int)==0&&Qd ((↑(G3 B):Int)>0)) (@da ({time:=m.time,campus:=m.campus,no:=m.no}) ({time:=n.time,campus:=n.campus,no:=n.no}) (yX A B x))) (.c hcd (.c hra (.c (show @Eq (Option (Bool×D)) (some (co 1 (↑(G3 A):Int) (G3 A)&&true&&(true||false)&&Ia A fun r=>Qd (G3 r=31),(Q3 A 1))) (some (true,aa A')) from(by subst v1 v2 v3 v4 v0;first|(simp only[hAB,hb,hcd,cond_true,cond_false];done)|first|assumption|rfl|exact hs|(exfalso;simp_all;done))) (.c hl0 .n))))))))
noncomputable abbrev yY(A:List (List Dp))(B:List (List Dp))(x:List EntT):List Blk:=[.var zbd,.var [aa A],.var [aa B],.vec (joV x) 1 31,.defd,.loop HV none 22 (zam) zbu (aV (sub Hr 0)) (aq (sub Hr 0))]
theorem it_pb1{A0 B0 A B B':List (List Dp)}{x0 x:List EntT}{m n:EntT}{c:List PanicEntry}{hp:List Blk}(hAB:(Qd ((A.length:Int)>0)||Qd ((B.length:Int)>0))=true)(ha:((A.length:Int)==0)=true)(hra:False→af 0 A n.row 31)(hrb:af 0 B m.row 31)(hs:SlT B B')(hcd:(((A.length:Int)==0)||(Qd ((B.length:Int)>0)&&Qd (bq ⟨m.time,m.campus,m.no⟩ ⟨n.time,n.campus,n.no⟩<0)))=true)
  (hT:CW GV Γ0 (Xq 22 A0 B0 x0) false (cD (ap Iq) 6) {t:=i6A,h:=(Xd 22 A B' x m),m:=[]} (.panic c) (X0 m hp)):(CW GV Γ0 (Xq 22 A0 B0 x0) false (sub Iq 0) (itS 22 A B x) (.panic c) (X0 m hp)):=by
 have hl0:=(@hT)
 let v1:=(ZF m)
 let v2:=(ZE m)
 let v3:=(Zs m)
 let v4:=(ZD m)
 let v0:List D:=(Zf m m.term v1 v2 v3 v4)
 exact zx [] [.b true,.row (Zc m v1 v2 v3 v4),.row (Zd n),.val (Qq m n),.b true,.row (Zc m v1 v2 v3 v4),.ov 43 (aa B'),.ssum [0,5] (K2 c) {t:=(Yp v0),h:=hp}] (.c hAB (.c (show(!(↑(G3 A):Int)==0&&Qd ((↑(G3 B):Int)>0))=true→af 0 B (Zc m v1 v2 v3 v4) 31 from(fun hg=>hrb)) (.c (show(!(↑(G3 A):Int)==0&&Qd ((↑(G3 B):Int)>0))=true→af 0 A (Zd n) 31 from(fun hg=>(hra (by subst v1 v2 v3 v4 v0;first|exact hg|(simp at hg;done)|(simp_all;done))))) (.c (gd (!(↑(G3 A):Int)==0&&Qd ((↑(G3 B):Int)>0)) (@da ({time:=m.time,campus:=m.campus,no:=m.no}) ({time:=n.time,campus:=n.campus,no:=n.no}) (yY A B x))) (.c hcd (.c hrb (.c (show @Eq (Option (Bool×D)) (some (co 1 (↑(G3 B):Int) (G3 B)&&true&&(true||false)&&Ia B fun r=>Qd (G3 r=31),(Q3 B 1))) (some (true,aa B')) from(by subst v1 v2 v3 v4 v0;first|(simp only[hAB,ha,hcd,cond_true,cond_false];done)|first|assumption|rfl|exact hs|(exfalso;simp_all;done))) (.c hl0 .n))))))))
noncomputable abbrev yZ(A:List (List Dp))(B:List (List Dp))(x:List EntT):List Blk:=[.var zbd,.var [aa A],.var [aa B],.vec (joV x) 1 31,.defd,.loop HV none 22 (zam) zbu (aV (sub Hr 0)) (aq (sub Hr 0))]
theorem it_pb2{A0 B0 A B B':List (List Dp)}{x0 x:List EntT}{m n:EntT}{c:List PanicEntry}{hp:List Blk}(hAB:(Qd ((A.length:Int)>0)||Qd ((B.length:Int)>0))=true)(ha:((A.length:Int)==0)=false)(hb:Qd ((B.length:Int)>0)=true)(hra:af 0 A n.row 31)(hrb:af 0 B m.row 31)(hs:SlT B B')(hcd:(((A.length:Int)==0)||(Qd ((B.length:Int)>0)&&Qd (bq ⟨m.time,m.campus,m.no⟩ ⟨n.time,n.campus,n.no⟩<0)))=true)
  (hT:CW GV Γ0 (Xq 22 A0 B0 x0) false (cD (ap Iq) 6) {t:=i6A,h:=(Xd 22 A B' x m),m:=[]} (.panic c) (X0 m hp)):(CW GV Γ0 (Xq 22 A0 B0 x0) false (sub Iq 0) (itS 22 A B x) (.panic c) (X0 m hp)):=by
 have hl0:=(@hT)
 let v1:=(ZF m)
 let v2:=(ZE m)
 let v3:=(Zs m)
 let v4:=(ZD m)
 let v0:List D:=(Zf m m.term v1 v2 v3 v4)
 exact zx [] [.b true,.row (Zc m v1 v2 v3 v4),.row (Zd n),.val (Qq m n),.b true,.row (Zc m v1 v2 v3 v4),.ov 43 (aa B'),.ssum [0,5] (K2 c) {t:=(Yp v0),h:=hp}] (.c hAB (.c (show(!(↑(G3 A):Int)==0&&Qd ((↑(G3 B):Int)>0))=true→af 0 B (Zc m v1 v2 v3 v4) 31 from(fun hg=>hrb)) (.c (show(!(↑(G3 A):Int)==0&&Qd ((↑(G3 B):Int)>0))=true→af 0 A (Zd n) 31 from(fun hg=>hra)) (.c (gd (!(↑(G3 A):Int)==0&&Qd ((↑(G3 B):Int)>0)) (@da ({time:=m.time,campus:=m.campus,no:=m.no}) ({time:=n.time,campus:=n.campus,no:=n.no}) (yZ A B x))) (.c hcd (.c hrb (.c (show @Eq (Option (Bool×D)) (some (co 1 (↑(G3 B):Int) (G3 B)&&true&&(true||false)&&Ia B fun r=>Qd (G3 r=31),(Q3 B 1))) (some (true,aa B')) from(by subst v1 v2 v3 v4 v0;first|(simp only[hAB,ha,hb,hcd,cond_true,cond_false];done)|first|assumption|rfl|exact hs|(exfalso;simp_all;done))) (.c hl0 .n))))))))
structure Cfl where
 a:List EntT
 b:List EntT
 x:List EntT
 n:EntT
def joE:Nat→List EntT→List EntT→List EntT→Option Cfl
 | 0,_,_,_=>none
 | _+1,[],[],_=>none
 | k+1,[],m::b,x=>match joF x m with
  | some x'=>joE k [] b x'
  | none=>some ⟨[],b,x,m⟩
 | k+1,n::a,[],x=>match joF x n with
  | some x'=>joE k a [] x'
  | none=>some ⟨a,[],x,n⟩
 | k+1,n::a,m::b,x=>match Qd (bq m.st n.st<0) with
  | true=>match joF x m with
   | some x'=>joE k (n::a) b x'
   | none=>some ⟨n::a,b,x,m⟩
  | false=>match joF x n with
   | some x'=>joE k a (m::b) x'
   | none=>some ⟨a,m::b,x,n⟩
theorem rB:∀(k:Nat) (a b x:List EntT),joG k a b x=none→∃E,joE k a b x=some E
 | 0,_,_,_,h=>by simp[joG] at h
 | _+1,[],[],_,h=>by simp[joG] at h
 | k+1,[],m::b,x,h=>by
  simp only[joG] at h
  simp only[joE]
  cases hx:joF x m with
  | none=>exact⟨_,rfl⟩
  | some x'=>rw[hx] at h;exact rB k _ _ _ h
 | k+1,n::a,[],x,h=>by
  simp only[joG] at h
  simp only[joE]
  cases hx:joF x n with
  | none=>exact⟨_,rfl⟩
  | some x'=>rw[hx] at h;exact rB k _ _ _ h
 | k+1,n::a,m::b,x,h=>by
  simp only[joG] at h
  simp only[joE]
  cases hc:Qd (bq m.st n.st<0) with
  | true =>
   rw[hc] at h
   simp only at h ⊢
   cases hx:joF x m with
   | none=>exact⟨_,rfl⟩
   | some x'=>rw[hx] at h;exact rB k _ _ _ h
  | false =>
   rw[hc] at h
   simp only at h ⊢
   cases hx:joF x n with
   | none=>exact⟨_,rfl⟩
   | some x'=>rw[hx] at h;exact rB k _ _ _ h
structure JoC (a b x:List EntT) (k:Nat) (E:Cfl):Prop where
 kk:a.length+b.length=k
 l:x.length+a.length+b.length≤1000000
 oa:∀e∈a,e.ok
 ob:∀e∈b,e.ok
 ox:∀e∈x,e.ok
 g:joE k a b x=some E
theorem JoC.step_b{a b x x':List EntT}{E:Cfl}{m:EntT}{k:Nat}(I:JoC a (m::b) x (k+1) E)(hx:joF x m=some x')(hg:joE k a b x'=some E):JoC a b x' k E:=by
 have h1:=I.kk
 have h2:=I.l
 have h3:=fK hx
 simp only[HZ] at h1 h2
 refine⟨by omega,by omega,I.oa,fun e he=>I.ob e (by simp[he]),fun e he=>?_,hg⟩
 rcases joF_mem hx e he with h|h
 ·exact I.ox e h
 ·exact I.ob e (by simp[h])
theorem JoC.step_a{a b x x':List EntT}{E:Cfl}{n:EntT}{k:Nat}(I:JoC (n::a) b x (k+1) E)(hx:joF x n=some x')(hg:joE k a b x'=some E):JoC a b x' k E:=by
 have h1:=I.kk
 have h2:=I.l
 have h3:=fK hx
 simp only[HZ] at h1 h2
 refine⟨by omega,by omega,fun e he=>I.oa e (by simp[he]),I.ob,fun e he=>?_,hg⟩
 rcases joF_mem hx e he with h|h
 ·exact I.ox e h
 ·exact I.oa e (by simp[h])
noncomputable abbrev cfH(E:Cfl):List Blk:=(XD 22 (E.a.map Hi) (E.b.map Hi) E.x E.n)
theorem Bb{a b x:List EntT}{n:EntT}{h0:List Blk}(ox:∀e∈x,e.ok)(hl:x.length≤1000000)(hx:joF x n=none):
  CW GV Γ0 h0 false (cD (ap Iq) 6) {t:=i6A,h:=(Xd 22 (a.map Hi) (b.map Hi) x n),m:=[]} X9 (X0 n (cfH ⟨a,b,x,n⟩)):=i6_pan rfl (jo_ivp ox hl hx)
theorem jo_cwP{a b x:List EntT}{E:Cfl}{k:Nat}(I:JoC a b x k E){A0 B0:List (List Dp)}{x0:List EntT}:
  CW GV Γ0 (Xq 22 A0 B0 x0) false (.loop (sub Iq 0)) (itS 22 (a.map Hi) (b.map Hi) x) X9 (X0 E.n (cfH E)):=by
 refine CW.loop (ι:={p:List EntT×List EntT×List EntT×Nat // JoC p.1 p.2.1 p.2.2.1 p.2.2.2 E}) (fun p=>itS 22 (p.1.1.map Hi) (p.1.2.1.map Hi) p.1.2.2.1) (fun _=>(.panic (dmC 390),(X0 E.n (cfH E)))) (fun p=>p.1.2.2.2) ?_ ⟨(a,b,x,k),I⟩
 rintro⟨⟨a,b,x,k⟩,I⟩
 have hl:x.length≤1000000:=by have:=I.l;simp only at this;omega
 match a,b,k,I with
 | [],[],k,I =>
  have:=I.g
  cases k<;>simp[joE] at this
 | [],m::b,0,I=>have:=I.kk;simp at this
 | n::a,_,0,I=>have:=I.kk;simp at this
 | [],m::b,k+1,I =>
  have hg:=I.g
  simp only[joE] at hg
  cases hx:joF x m with
  | none =>
   rw[hx] at hg
   cases hg
   right
   refine⟨by simp,?_⟩
   exact it_pb1 (n:=m) (m:=m) (by rw[aY,MG]) rfl (fun h=>h.elim) (pO m b) (bS b m) rfl (Bb (a:=[]) I.ox hl hx)
  | some x' =>
   rw[hx] at hg
   left
   refine⟨⟨([],b,x',k),I.step_b hx hg⟩,Ji k,rfl,?_⟩
   exact it_b1 (n:=m) (m:=m) (by rw[aY,MG]) rfl (fun h=>h.elim) (pO m b) (bS b m) rfl (fL I.ox hl hx)
 | n::a,[],k+1,I =>
  have hg:=I.g
  simp only[joE] at hg
  cases hx:joF x n with
  | none =>
   rw[hx] at hg
   cases hg
   right
   refine⟨by simp,?_⟩
   exact it_pa1 (n:=n) (m:=n) (by rw[aY,JA]) rfl (pO n a) (fun h=>h.elim) (bS a n) (by rw[fb,It];rfl) (Bb (b:=[]) I.ox hl hx)
  | some x' =>
   rw[hx] at hg
   left
   refine⟨⟨(a,[],x',k),I.step_a hx hg⟩,Ji k,rfl,?_⟩
   exact it_a1 (n:=n) (m:=n) (by rw[aY,JA]) rfl (pO n a) (fun h=>h.elim) (bS a n) (by rw[fb,It];rfl) (fL I.ox hl hx)
 | n::a,m::b,k+1,I =>
  have hg:=I.g
  simp only[joE] at hg
  cases hc:Qd (bq m.st n.st<0) with
  | true =>
   rw[hc] at hg
   simp only at hg
   cases hx:joF x m with
   | none =>
    rw[hx] at hg
    cases hg
    right
    refine⟨by simp,?_⟩
    exact it_pb2 (n:=n) (m:=m) (by rw[aY,JA]) (fb n a) (aY m b) (pO n a) (pO m b) (bS b m) (by rw[fb,aY,It,Iy];exact hc) (Bb (a:=n::a) I.ox hl hx)
   | some x' =>
    rw[hx] at hg
    left
    refine⟨⟨(n::a,b,x',k),I.step_b hx hg⟩,Ji k,rfl,?_⟩
    exact it_b2 (n:=n) (m:=m) (by rw[aY,JA]) (fb n a) (aY m b) (pO n a) (pO m b) (bS b m) (by rw[fb,aY,It,Iy];exact hc) (fL I.ox hl hx)
  | false =>
   rw[hc] at hg
   simp only at hg
   cases hx:joF x n with
   | none =>
    rw[hx] at hg
    cases hg
    right
    refine⟨by simp,?_⟩
    exact it_pa2 (n:=n) (m:=m) (by rw[aY,JA]) (aY m b) (pO n a) (pO m b) (bS a n) (by rw[fb,aY,It,Iy];exact hc) (Bb (b:=m::b) I.ox hl hx)
   | some x' =>
    rw[hx] at hg
    left
    refine⟨⟨(a,m::b,x',k),I.step_a hx hg⟩,Ji k,rfl,?_⟩
    exact it_a2 (n:=n) (m:=m) (by rw[aY,JA]) (aY m b) (pO n a) (pO m b) (bS a n) (by rw[fb,aY,It,Iy];exact hc) (fL I.ox hl hx)
theorem it_all{A B:List (List Dp)}{E:Cfl}{c:List PanicEntry}
  (hcw:CW GV Γ0 (Xq 22 A B []) false (.loop (sub Iq 0)) (itS 22 A B []) (.panic c) (X0 E.n (cfH E))):(CW GV Γ0 (Xq 22 A B []) false (ap Iq) {t:=mkT 49 0 [zb7,Wo,(zbf 2 2)],h:=joH 22 A B [] 0 .ready [],m:=[]} (.panic c) (X0 E.n (cfH E))):=by
 have hl0:=(@hcw)
 let v0:List D:=[int E.n.time,int E.n.campus,int E.n.no,int E.n.kind,int E.n.stu,int E.n.obj,int E.n.term,int E.n.val,int E.n.frm,int E.n.til,ad E.n.text,int E.n.sec.id,int E.n.sec.course,int E.n.sec.term,int E.n.sec.campus,int E.n.sec.seats,aa (GU Hm E.n.sec.mts),aa (GU Hn E.n.sec.grs),aa (GU ab E.n.sec.labs),bool E.n.sec.lab,int E.n.req.campus,int E.n.req.no,int E.n.req.st,int E.n.req.kind,int E.n.req.time,aa (GU G7 E.n.req.chs),int E.n.req.gsec,int E.n.req.glab,int E.n.req.key,int E.n.r,int E.n.s]
 let v1:List Blk:=[.var YP,.var [aa (GU Hi E.a)],.var [aa (GU Hi E.b)],.vec (joV E.x) 1 31,.defd,.loop I6 none 22 (ZJ) Yg (aV (sub Hr 0)) (aq (sub Hr 0)),.var v0,.var v0]
 exact zx [] [.st (.ren 3 1),.sum [0,1,2] (K2 c) {t:=(Yp v0),h:=v1,m:=[]}] (.c (show([]:List (List D))=[] from rfl) (.c hl0 .n))
theorem it_pan{a b:List EntT}{E:Cfl}(I:JoC a b [] (a.length+b.length) E):VPan GV Γ0 73 zad (Xq 22 (a.map Hi) (b.map Hi) []) fun c h'=>c=dmC 390∧h'=cfH E:=by
 refine MH (fn:=Iq) (c:=ap Iq) rfl rfl fun X hX a w hs=>?_
 refine wpIn_mono (it_all (jo_cwP I) X none hX (fun _=>rfl) a w hs) ?_
 rintro e a' w' ⟨h1,s,⟨rfl,rfl⟩,h2⟩
 exact⟨h1,_,⟨_,rfl,rfl,Lv,rfl,rfl⟩,h2⟩
theorem jp_0{A B:List (List Dp)}:(CW GV Γ0 [] false (cL (ap Hr)) {t:=mkT 45 0 [(0,aa A),(1,aa B)],h:=[],m:=[]} .normal {t:=mkT 45 0 [(0,aa A),(1,aa B),ZM],h:=[.var [nq]],m:=[]}):=by
 exact zx [.st (.mask [0,1,4])] [] .n
theorem jp_1{A B:List (List Dp)}:(CW GV Γ0 [] false (cL (cL (cR (ap Hr)))) {t:=mkT 45 0 [(0,aa A),(1,aa B),ZM],h:=[.var [nq]],m:=[]} .normal (VT A B)):=by
 exact zx [.st (.mask [4,9]),.st (.nilC 0 0 31)] [.inl] .n
theorem Bc:ap Hr=.seq (cL (ap Hr)) (.seq (.seq (cL (cL (cR (ap Hr)))) (.block 0 (.rangeFunc (.tmp 9) #[10] (aV (sub Hr 0)) (aq (sub Hr 0))))) (cR (cR (ap Hr)))):=by kernel_rfl
theorem vZ{a b:List EntT}{E:Cfl}(I:JoC a b [] (a.length+b.length) E):TopF GV Γ0 22 (ap Hr) {t:=ba Hr (XY a b),h:=[],m:=[]} X9 {t:=joT,h:=cfH E,m:=[4]}:=by
 intro O w0 l0 h0 ac w hh hs
 subst hh
 rw[Bc]
 refine AtF.seq ((AtF.cw (jp_0 (A:=a.map Hi) (B:=b.map Hi)) rfl hs).mono ?_)
 rintro e1 a1 w1 ⟨rfl,h1⟩
 refine⟨rfl,AtF.seqP ?_⟩
 refine AtF.seq ((AtF.cw (jp_1 (A:=a.map Hi) (B:=b.map Hi)) rfl h1).mono ?_)
 rintro e2 a2 w2 ⟨rfl,h2⟩
 refine⟨rfl,AtF.blockP ?_⟩
 refine(AtF.rangeFuncP (f:=73) (fi:=[]) (ca:=Qb) (c0:=dmC 390) (hp:=cfH E) pok (s:=(VT (a.map Hi) (b.map Hi))) (f0:=22) (g:=.tmp 9) (ps:=#[10]) (asg:=aV (sub Hr 0)) (body:=aq (sub Hr 0)) rfl (by kernel_rfl) (it_pan I) rfl h2).mono ?_
 rintro e3 a3 w3 ⟨rfl,h3⟩
 exact⟨_,rfl,_,rfl,rfl,h3⟩
theorem wc{a b:List EntT}(hy:joG (a.length+b.length) a b []=none)(ha:a.length+b.length≤60000)(oa:∀e∈a,e.ok)(ob:∀e∈b,e.ok):VPan GV Γ0 22 (XY a b) [] fun c h'=>c=dmC 390∧h'=[]:=by
 obtain⟨E,hE⟩:=rB _ _ _ _ hy
 have I:JoC a b [] (a.length+b.length) E:=⟨rfl,by simp only[IP];omega,oa,ob,by simp,hE⟩
 exact(VRes.of_topF (fn:=Hr) (c:=ap Hr) (r:=.pan (dmC 390) []) rfl rfl (vZ I) rfl).pan
theorem Fr{b c:Bool}(h:b=c):bool b=bool c:=by rw[h]
theorem Bd:ap Kk=.region (wv (ap Kk)) (cq (ap Kk)) false:=by kernel_rfl
noncomputable abbrev GQ:Oper:=(cq (ap Kk)).toList.getLastD default
abbrev WT(a:Int):List D:=mkT 6 0 [(0,int a),(2,int a),(3,bool (a==0)),(4,int a)]
theorem y1(e:Int)(he:(e==0)=false)(h:List Blk):VPan GV Γ0 21 [int e] h fun c h'=>c=dmC e∧h'=h:=by
 refine MH (fn:=Kk) (c:=ap Kk) rfl rfl fun X hX a w hs=>?_
 rw[Bd]
 have hc:CW GV Γ0 h false (.region (wv (ap Kk)) (cq (ap Kk)) false) {t:=ba Kk [int e],h:=h,m:=[]} (zb8 e) {t:=(WT e),h:=h,m:=[]}:=by
  refine CW.callPan (os1:=(cq (ap Kk)).toList.take 3) (rest:=[]) (o:=GQ) (fv:=uI GQ) (args:=dM GQ) (ats:=sM GQ) (h1:=h) (by kernel_rfl) (by kernel_rfl) (by kernel_rfl) (by kernel_rfl) ?_ rfl
  have e1:evalD Γ0 (WT e) (uI GQ)=.p (Wm 36):=by kernel_rfl
  have e2:(dM GQ).toList.map (evalD Γ0 (WT e))=[bool (e==0),int e]:=by kernel_rfl
  rw[e1,e2,Fr he]
  exact K0 pok (f:=36) (fi:=[]) (ca:=[]) rfl (by kernel_rfl) (jG e _)
 refine wpIn_mono (hc X none hX (fun _=>rfl) a w hs) ?_
 rintro e a' w' ⟨h1,s,⟨rfl,rfl⟩,h2⟩
 exact⟨h1,_,⟨_,rfl,rfl,Lv,rfl,rfl⟩,h2⟩
noncomputable abbrev jfH(y:List EntT):List Blk:=[.var (WC y),.var [aa []],.var [aa []],.gone,.defd,joL 0 .exhausted]
theorem jf_blk{A B:List (List Dp)}{y:List EntT}(hrf:CW GV Γ0 [] false (sub Hr 0) (VT A B) .normal (Vq y)):(CW GV Γ0 [] false (cR (cL (cR (ap Hr)))) (VT A B) .normal {t:=mkT 45 0 [ZM],h:=jfH y,m:=[4]}):=by
 have hl0:=(@hrf)
 let v0:List D:=Qb
 exact zx [.st (.mask [4]),.st (.frz 3 (GU Hi y))] [.sum [4,9] (Hz) {t:=mkT 45 0 [ZM,(Xj v0)],h:=[.var YP,.var [aa []],.var [aa []],.vec (joV y) 1 31,.defd,.loop Kc none 0 (zcn v0) Yg (aV (sub Hr 0)) (aq (sub Hr 0))],m:=[4]}] (.c hl0 (.c (show joV y=GU (fun x=>GU D.p x) (GU Hi y) from(by subst v0;first|assumption|rfl|exact yT _|exact bJ _ _|exact bK _ _)) .n))
noncomputable abbrev r7O:Array Oper:=cq (cL (cR (cR (ap Hr))))
noncomputable abbrev r7L:Oper:=(r7O.toList.drop 2).headD default
theorem Fs:cR (cR (ap Hr))=.seq (.region (wv (cL (cR (cR (ap Hr))))) r7O false) (cR (cR (cR (ap Hr)))):=by kernel_rfl
theorem y2:ap Hr=.seq (cL (ap Hr)) (.seq (.seq (cL (cL (cR (ap Hr)))) (cR (cL (cR (ap Hr))))) (cR (cR (ap Hr)))):=by kernel_rfl
abbrev jfT(y:List EntT):List D:=mkT 45 0 [ZM,(37,aa (y.map Hi)),(38,bool false)]
theorem r7_pan{y:List EntT}(hfit:∀h,Ev GV Γ0 18 (WC y) h (bool false) h):CW GV Γ0 [] false (cR (cR (ap Hr))) {t:=mkT 45 0 [ZM],h:=jfH y,m:=[4]} X9 {t:=jfT y,h:=jfH y,m:=[4]}:=by
 rw[Fs]
 refine CW.out (by simp) (CW.symPan (os1:=r7O.toList.take 2) (rest:=[]) (o:=r7L) (fv:=uI r7L) (args:=dM r7L) (ats:=sM r7L) (h1:=jfH y) (φ:=[Ev GV Γ0 18 (WC y) (jfH y) (bool false) (jfH y)]) pok Cj [.val (bool false)] (by kernel_rfl) rfl (by kernel_rfl) ⟨hfit _,trivial⟩ (by kernel_rfl) (by kernel_rfl) ?_ rfl)
 have e1:evalD Γ0 (jfT y) (uI r7L)=.p (Wm 36):=by kernel_rfl
 have e2:(dM r7L).toList.map (evalD Γ0 (jfT y))=[bool false,int 390]:=by kernel_rfl
 rw[e1,e2]
 exact K0 pok (f:=36) (fi:=[]) (ca:=[]) rfl (by kernel_rfl) (jG 390 _)
theorem sN{a b y:List EntT}(hy:joG (a.length+b.length) a b []=some y)(ha:a.length+b.length≤60000)(oa:∀e∈a,e.ok)(ob:∀e∈b,e.ok)(hv:∀e∈y,0≤e.campus∧e.campus<7)(hf:vX y=false)(hly:y.length≤65536):VPan GV Γ0 22 (XY a b) [] fun c h'=>c=dmC 390∧h'=[]:=by
 have hfit:∀h,Ev GV Γ0 18 (WC y) h (bool false) h:=fun h=>by
  rw[←hf]
  exact yQ (show y.length≤_ by omega) hv h
 have hrf:=jo_rf (a:=a) (b:=b) (y:=y) ⟨rfl,by simp only[IP];omega,oa,ob,by simp,hy⟩ (h0:=[])
 have hc:CW GV Γ0 [] false (ap Hr) {t:=ba Hr (XY a b),h:=[],m:=[]} X9 {t:=jfT y,h:=jfH y,m:=[4]}:=by
  rw[y2]
  exact CW.seq (jp_0 (A:=a.map Hi) (B:=b.map Hi)) (CW.seq (CW.seq jp_1 (jf_blk hrf)) (r7_pan hfit))
 refine(VRes.of_topF (fn:=Hr) (c:=ap Hr) (r:=.pan (dmC 390) []) rfl rfl (c0:=dmC 390) (s':={t:=jfT y,h:=jfH y,m:=[4]}) (fun O w0 l0 h0 a w hh hs=>?_) rfl).pan
 exact AtF.cw hc hh hs
end Go.Vi
