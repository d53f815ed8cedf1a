/- RecordSituateSpecUpto: part of the proof: contracts of the functions that the law reaches, and the law. No conditions beyond the given statement's own. -/
import Derived.Test.YtilebidefogaiaaGreatDoorW4
open Decidable renaming decide → Zd
open List renaming mem_cons → HR, getElem?_eq_some_iff → Hs, mem_of_getElem? → H1, length_map → Ir, length → Hn, any_cons → Nm, getElem?_eq_getElem → HH, map → Hl, all → HJ, any → L6, getD → HD, drop_zero → La, all_cons → JV, contains_iff_mem → JX, mem_map → HQ, getElem?_map → IQ, getElem_range → Ny
open Go.IntKind renaming i64 → Hp, wrap → Ht
open Go.Proofs.Tryz renaming prog → Hm, f215 → Mr, f216 → Ms, f217 → LR, f124 → Lr, f130 → Mt
open Go.Exit renaming normal → HA, exit → HT, ret → IB
open Go.Vi.Dp renaming sl → Jz, v → JB
open Go.Vi.RuleT renaming row → Ku, mk → K7, fl → Hr, bad → Mm
open Go.Vi.CW renaming each → I7
open Go.Vi.D renaming agg → H6, p → II, tup → HV
open Go.Vi.RuF renaming formed → Jt
open Bool renaming or_eq_false_iff → I6, not_eq_false' → Kf, false_and → Ix, and_false → IG, and_self → Js, not_eq_true' → IU, and_eq_true → Hx, eq_iff_iff → JJ
open Nat renaming le_refl → HS
open Go.Vi.FactT renaming row → Hv
open Int renaming toNat → Hw
open Go.Value renaming tuple → Ii, okWide → Nn
open Go.Vi.CourseT renaming row → Hz, zero → LD
open Go.Vi.SysT renaming row → HC
open Go.Vi.Ev renaming castH → H4
open Go.Proofs.YtilebidefogaiaaGreatDoor.Rows renaming uptoBulk → IV, uptoBulkAll → JZ
open Prod.mk renaming injEq → Hu
open Go.DataW renaming weights → K2
open Option renaming map_eq_some_iff → Hy
open Go.Vi.AttT renaming row → Hq
open Go Go.Proofs
namespace Go.Vi
set_option maxRecDepth 100000
set_option maxHeartbeats 4000000
mutual
def RuleT.size:RuleT→Nat
 | .mk _ _ _ _ _ ks=>1+N5 ks
def N5:List RuleT→Nat
 | []=>0
 | k::ks=>k.size+N5 ks
end
mutual
def RuleT.dep:RuleT→Nat
 | .mk _ _ _ _ _ ks=>O2 ks+1
def O2:List RuleT→Nat
 | []=>0
 | k::ks=>max k.dep (O2 ks)
end
mutual
def RuleT.allF:RuleT→Bool
 | .mk op c _ n d ks=>bif aq op c n d ks.length then xi ks else false
def xi:List RuleT→Bool
 | []=>true
 | k::ks=>bif k.allF then xi ks else false
end
mutual
theorem RuleT.dep_size:∀r:RuleT,r.dep≤r.size
 | .mk _ _ _ _ _ ks=>by simp only[RuleT.dep,RuleT.size];have:=lX ks;omega
theorem lX:∀ks:List RuleT,O2 ks≤N5 ks
 | []=>by simp[O2,N5]
 | k::ks=>by simp only[O2,N5];have:=RuleT.dep_size k;have:=lX ks;omega
end
theorem gb:∀{ks:List RuleT},∀k∈ks,k.size≤N5 ks
 | a::ks,k,hk=>by
  simp only[N5]
  rcases HR.1 hk with rfl|hk
  ·omega
  ·have:=gb k hk;omega
abbrev paS(x:RuF)(acc i:Int):AS:={t:=mkT 21 0 [(1,.ref (.ptr 0 0)),(3,int acc),(4,int i)],h:=[.var x.l],m:=[]}
abbrev paE(x:RuF)(acc:Int):AS:={t:=mkT 21 0 [(3,int acc)],h:=[.var x.l],m:=[]}
noncomputable abbrev nQ(x:RuF):List Blk:=[.var [int x.op,int x.c,au x.nm,int x.n,int x.d,ab x.ks]]
theorem FS{x:RuF}{acc p:Int}{i:Nat}{y:RuF}(hr:aj (i:Int) x.ks y.row 6)(iF:Zd ((i:Int)<(x.ks.length:Int))=true)(hw:Hp.wrap ((i:Int)+1)=((i+1:Nat):Int))
  (hk:∀h,Ev Hm Γ0 215 [.agg y.l] h (int p) h):(CW Hm Γ0 [] false (sub Mr 0) (paS x acc i) .normal (paS x (Hp.wrap (acc+p)) ((i+1:Nat):Int))):=by
 refine zX {t:=mkT 21 0 [(1,.ref (.ptr 0 0)),(3,int (Ht Hp (acc+p))),(4,int (Ht Hp ((↑i:Int)+1)))],h:=(nQ x),m:=[]} HA [.st (.mask [1,3,4])] [.b true,.row [vi y.op,vi y.c,vs y.nm,vi y.n,vi y.d,Jz y.ks],.val (int p)] (.c iF (.c hr (.c (@hk (nQ x)) .n))) ?_ ?_<;>(first|rfl|(rw[hw];rfl))
theorem FT{x:RuF}{acc:Int}{i:Nat}(iF:Zd ((i:Int)<(x.ks.length:Int))=false):(CW Hm Γ0 [] false (sub Mr 0) (paS x acc i) (.exit 0) (paE x acc)):=by
 exact zx [.st (.mask [3])] [.b false] (.c iF .n)
abbrev paF(k:RuleT)(a:Int):Int⊕Empty:=.inl (Hp.wrap (a+(k.size:Int)))
theorem zN:∀(ks:List RuleT) (a:Nat),a+N5 ks≤1048576→forL paF ks (a:Int)=.inl ((a+N5 ks:Nat):Int)
 | [],a,_=>by simp[forL,N5]
 | k::ks,a,h=>by
  simp only[N5] at h
  simp only[forL]
  have hw:Hp.wrap ((a:Int)+(k.size:Int))=((a+k.size:Nat):Int):=by rw[wrap_i64 (by omega) (by omega)];omega
  rw[hw,zN ks (a+k.size) (by omega)]
  simp only[N5,Nat.add_assoc]
theorem pa_cw{x:RuF}{ks:List RuleT}(hx:x.ks=ks.map Ku)(hl:af ks)(hs:1+N5 ks≤1048576)(hk:∀k∈ks,∀h,Ev Hm Γ0 215 [.agg k.fl.l] h (int k.size) h):
  CW Hm Γ0 [] false (.loop (sub Mr 0)) (paS x 1 0) (.exit 0) (paE x ((1+N5 ks:Nat):Int)):=by
 have key:=I7 (P:=Hm) (Γ:=Γ0) (h0:=[]) (rd:=false) (c:=sub Mr 0) ks paF (fun i (a:Int)=>paS x a (i:Int)) (.exit 0) (fun a=>paE x a) (fun e:Empty=>e.elim) (fun _ _=>True) (by simp) (fun e=>e.elim) ?_ ?_ 1 trivial
 ·rw[show(1:Int)=((1:Nat):Int) from rfl,zN ks 1 hs] at key
  exact key
 ·intro i k a Pz _
  have hi:=(Hs.1 Pz).1
  have hr:aj (i:Int) x.ks k.fl.row 6:=by rw[hx,k.fl_row];exact rowAt Pz (by cases k;rfl)
  have iF:Zd ((i:Int)<(x.ks.length:Int))=true:=by rw[hx];exact lt_len _ hi
  exact⟨fun _ _=>trivial,FS hr iF (wrap_succ hi hl) (hk k (H1 Pz))⟩
 ·intro a _
  exact FT (by rw[hx];exact aJ _ ks)
theorem FU{x:RuF}{ks:List RuleT}(hx:x.ks=ks.map Ku)(hl:af ks)(hs:1+N5 ks≤1048576)(hk:∀k∈ks,∀h,Ev Hm Γ0 215 [.agg k.fl.l] h (int k.size) h)(h:List Blk):(Ev Hm Γ0 215 [.agg x.l] h (int ((1+N5 ks:Nat):Int)) h):=by
 have N1:=(@pa_cw (x) (ks) (hx) (hl) (hs) (hk))
 exact z0 [.sum [1,3,4] (HT 0) {t:=mkT 21 0 [(3,int (↑(1+N5 ks):Int))],h:=[.var [int x.op,int x.c,au x.nm,int x.n,int x.d,ab x.ks]],m:=[]}] (.c N1 .n) h
abbrev deS(x:RuF)(acc i:Int):AS:={t:=mkT 22 0 [(1,.ref (.ptr 0 0)),(3,int acc),(4,int i)],h:=[.var x.l],m:=[]}
abbrev deE(x:RuF)(acc:Int):AS:={t:=mkT 22 0 [(3,int acc)],h:=[.var x.l],m:=[]}
noncomputable abbrev nR(x:RuF):List Blk:=[.var [int x.op,int x.c,au x.nm,int x.n,int x.d,ab x.ks]]
theorem FV{x:RuF}{acc p:Int}{i:Nat}{y:RuF}(hr:aj (i:Int) x.ks y.row 6)(iF:Zd ((i:Int)<(x.ks.length:Int))=true)(hw:Hp.wrap ((i:Int)+1)=((i+1:Nat):Int))
  (hk:∀h,Ev Hm Γ0 216 [.agg y.l] h (int p) h):(CW Hm Γ0 [] false (sub Ms 0) (deS x acc i) .normal (deS x (if p>acc then p else acc) ((i+1:Nat):Int))):=by
 refine zX {t:=mkT 22 0 [(1,.ref (.ptr 0 0)),(3,int (if true=true then if p>acc then p else acc else if p<acc then p else acc)),(4,int (Ht Hp ((↑i:Int)+1)))],h:=(nR x),m:=[]} HA [.st (.mask [1,3,4])] [.b true,.row [vi y.op,vi y.c,vs y.nm,vi y.n,vi y.d,Jz y.ks],.val (int p)] (.c iF (.c hr (.c (@hk (nR x)) .n))) ?_ ?_<;>(first|rfl|(rw[hw];rfl))
theorem FX{x:RuF}{acc:Int}{i:Nat}(iF:Zd ((i:Int)<(x.ks.length:Int))=false):(CW Hm Γ0 [] false (sub Ms 0) (deS x acc i) (.exit 0) (deE x acc)):=by
 exact zx [.st (.mask [3])] [.b false] (.c iF .n)
abbrev deF(k:RuleT)(a:Int):Int⊕Empty:=.inl (if (k.dep:Int)>a then (k.dep:Int) else a)
theorem zO:∀(ks:List RuleT) (a:Nat),forL deF ks (a:Int)=.inl ((max a (O2 ks):Nat):Int)
 | [],a=>by simp[forL,O2]
 | k::ks,a=>by
  simp only[forL]
  have hw:(if (k.dep:Int)>(a:Int) then (k.dep:Int) else (a:Int))=((max a k.dep:Nat):Int):=by split<;>omega
  rw[hw,zO ks (max a k.dep)]
  simp only[O2]
  congr 2
  omega
theorem de_cw{x:RuF}{ks:List RuleT}(hx:x.ks=ks.map Ku)(hl:af ks)(hk:∀k∈ks,∀h,Ev Hm Γ0 216 [.agg k.fl.l] h (int k.dep) h):
  CW Hm Γ0 [] false (.loop (sub Ms 0)) (deS x 0 0) (.exit 0) (deE x ((O2 ks:Nat):Int)):=by
 have key:=I7 (P:=Hm) (Γ:=Γ0) (h0:=[]) (rd:=false) (c:=sub Ms 0) ks deF (fun i (a:Int)=>deS x a (i:Int)) (.exit 0) (fun a=>deE x a) (fun e:Empty=>e.elim) (fun _ _=>True) (by simp) (fun e=>e.elim) ?_ ?_ 0 trivial
 ·rw[show(0:Int)=((0:Nat):Int) from rfl,zO ks 0,Nat.zero_max] at key
  exact key
 ·intro i k a Pz _
  have hi:=(Hs.1 Pz).1
  have hr:aj (i:Int) x.ks k.fl.row 6:=by rw[hx,k.fl_row];exact rowAt Pz (by cases k;rfl)
  have iF:Zd ((i:Int)<(x.ks.length:Int))=true:=by rw[hx];exact lt_len _ hi
  exact⟨fun _ _=>trivial,FV hr iF (wrap_succ hi hl) (hk k (H1 Pz))⟩
 ·intro a _
  exact FX (by rw[hx];exact aJ _ ks)
theorem FY{x:RuF}{ks:List RuleT}(hx:x.ks=ks.map Ku)(hl:af ks)(hw:Hp.wrap (((O2 ks:Nat):Int)+1)=((O2 ks+1:Nat):Int))(hk:∀k∈ks,∀h,Ev Hm Γ0 216 [.agg k.fl.l] h (int k.dep) h)(h:List Blk):(Ev Hm Γ0 216 [.agg x.l] h (int ((O2 ks+1:Nat):Int)) h):=by
 have N1:=(@de_cw (x) (ks) (hx) (hl) (hk))
 exact zD (int (Ht Hp ((↑(O2 ks):Int)+1))) [.sum [1,3,4] (HT 0) {t:=mkT 22 0 [(3,int (↑(O2 ks):Int))],h:=[.var [int x.op,int x.c,au x.nm,int x.n,int x.d,ab x.ks]],m:=[]}] (.c N1 .n) h (by(rw[hw]))
abbrev afS(x:RuF)(i:Int):AS:={t:=mkT 21 0 [(1,.ref (.ptr 0 0)),(2,bool false),(3,int i)],h:=[.var x.l],m:=[]}
abbrev afE:AS:={t:=mkT 21 0 [(2,bool false)],h:=[],m:=[]}
abbrev afX:Unit→Exit×AS:=fun _=>(.ret,afE)
def afF(k:RuleT)(_:Unit):Unit⊕Unit:=bif k.allF then .inl () else .inr ()
noncomputable abbrev nS(x:RuF):List Blk:=[.var [int x.op,int x.c,au x.nm,int x.n,int x.d,ab x.ks]]
theorem FZ{x:RuF}{b:Bool}{i:Nat}{y:RuF}(hr:aj (i:Int) x.ks y.row 6)(iF:Zd ((i:Int)<(x.ks.length:Int))=true)(hw:Hp.wrap ((i:Int)+1)=((i+1:Nat):Int))
  (hb:(!b)=false) (hk:∀h,Ev Hm Γ0 217 [.agg y.l] h (bool b) h):(CW Hm Γ0 [] false (sub LR 0) (afS x i) .normal (afS x ((i+1:Nat):Int))):=by
 refine zX {t:=mkT 21 0 [(1,.ref (.ptr 0 0)),(2,bool false),(3,int (Ht Hp ((↑i:Int)+1)))],h:=(nS x),m:=[]} HA [.st (.mask [1,2,3])] [.b true,.row [vi y.op,vi y.c,vs y.nm,vi y.n,vi y.d,Jz y.ks],.val (bool b),.b false] (.c iF (.c hr (.c (@hk (nS x)) (.c hb .n)))) ?_ ?_<;>(first|rfl|(rw[hw];rfl))
noncomputable abbrev tB(x:RuF):List Blk:=[.var [int x.op,int x.c,au x.nm,int x.n,int x.d,ab x.ks]]
theorem Cm{x:RuF}{b:Bool}{i:Nat}{y:RuF}(hr:aj (i:Int) x.ks y.row 6)(iF:Zd ((i:Int)<(x.ks.length:Int))=true)
  (hb:(!b)=true) (hk:∀h,Ev Hm Γ0 217 [.agg y.l] h (bool b) h):(CW Hm Γ0 [] false (sub LR 0) (afS x i) .ret afE):=by
 exact zx [.st (.mask [2]),.st (.trim 0)] [.b true,.row [vi y.op,vi y.c,vs y.nm,vi y.n,vi y.d,Jz y.ks],.val (bool b),.b true] (.c iF (.c hr (.c (@hk (tB x)) (.c hb .n))))
theorem F0{x:RuF}{i:Nat}(iF:Zd ((i:Int)<(x.ks.length:Int))=false):(CW Hm Γ0 [] false (sub LR 0) (afS x i) (.exit 0) afE):=by
 exact zx [.st (.mask [2]),.st (.trim 0)] [.b false] (.c iF .n)
theorem tC:∀ks:List RuleT,forL afF ks ()=bif xi ks then .inl () else .inr ()
 | []=>rfl
 | k::ks=>by
  simp only[forL,afF,xi]
  cases k.allF
  ·rfl
  ·simp only[cond_true];exact tC ks
def F1(ks:List RuleT):Exit×AS:=a8 (.exit 0) (fun _:Unit=>afE) afX (forL afF ks ())
theorem af_inl{ks:List RuleT}{u:Unit}(h:forL afF ks ()=.inl u):xi ks=true:=by
 rw[tC] at h;cases hb:xi ks<;>rw[hb] at h<;>simp at h ⊢
theorem af_inr{ks:List RuleT}{u:Unit}(h:forL afF ks ()=.inr u):xi ks=false:=by
 rw[tC] at h;cases hb:xi ks<;>rw[hb] at h<;>simp at h ⊢
theorem af_cw{x:RuF}{ks:List RuleT}(hx:x.ks=ks.map Ku)(hl:af ks)(hk:∀k∈ks,∀h,Ev Hm Γ0 217 [.agg k.fl.l] h (bool k.allF) h):
  CW Hm Γ0 [] false (.loop (sub LR 0)) (afS x 0) (F1 ks).1 (F1 ks).2:=by
 have key:=I7 (P:=Hm) (Γ:=Γ0) (h0:=[]) (rd:=false) (c:=sub LR 0) ks afF (fun i (_:Unit)=>afS x (i:Int)) (.exit 0) (fun _=>afE) afX (fun _ _=>True) (by simp) (fun _=>by simp[]) ?_ ?_ () trivial
 ·exact key
 ·intro i k _ Pz _
  have hi:=(Hs.1 Pz).1
  have hr:aj (i:Int) x.ks k.fl.row 6:=by rw[hx,k.fl_row];exact rowAt Pz (by cases k;rfl)
  have iF:Zd ((i:Int)<(x.ks.length:Int))=true:=by rw[hx];exact lt_len _ hi
  refine⟨fun _ _=>trivial,?_⟩
  have Pa:=hk k (H1 Pz)
  unfold afF
  cases hb:k.allF
  ·rw[hb] at Pa
   exact Cm hr iF rfl Pa
  ·rw[hb] at Pa
   exact FZ hr iF (wrap_succ hi hl) rfl Pa
 ·intro _ _
  exact F0 (by rw[hx];exact aJ _ ks)
noncomputable abbrev allF_a_x0(x:RuF):List D:=[H6 [int x.op,int x.c,au x.nm,int x.n,int x.d,ab x.ks]]
noncomputable abbrev lY(x:RuF):List Blk:=[.var [int x.op,int x.c,au x.nm,int x.n,int x.d,ab x.ks]]
theorem allF_a{x:RuF}(Oa:x.ok){ks:List RuleT}(hx:x.ks=ks.map Ku)(hl:af ks)(hk:∀k∈ks,∀h,Ev Hm Γ0 217 [.agg k.fl.l] h (bool k.allF) h)(h:List Blk):(Ev Hm Γ0 217 [.agg x.l] h (bool (bif x.formed then xi ks else false)) h):=by
 cases dO:!Jt x
 ·have Oj:=(@af_cw (x) (ks) (hx) (hl) (hk))
  unfold F1 at Oj
  revert Oj
  cases O1:forL afF ks () with
  | inl o2_0_0 =>
   intro Oj
   exact zD (bool true) [.val (bool (Jt x)),.b false,.sum [1,2,3] (HT 0) {t:=mkT 21 0 [(2,bool false)],h:=[],m:=[]}] (.c (@gK x Oa (lY x)) (.c dO (.c Oj .n))) h (by(have e:=af_inl (by assumption);simp_all;done))
  | inr o2_1_0 =>
   intro Oj
   exact zD (bool false) [.val (bool (Jt x)),.b false,.sum [1,2,3] (IB) {t:=mkT 21 0 [(2,bool false)],h:=[],m:=[]}] (.c (@gK x Oa (lY x)) (.c dO (.c Oj .n))) h (by(have e:=af_inr (by assumption);simp_all;done))
 ·exact zD (bool false) [.val (bool (Jt x)),.b true] (.c (@gK x Oa (lY x)) (.c dO .n)) h (by(simp_all;done))
theorem di:∀ks:List RuleT,c7 ks=ks.map Ku
 | []=>rfl
 | k::ks=>by simp only[c7,List.map_cons,di ks]
theorem pq(r:RuleT):1≤r.size:=by cases r;simp only[RuleT.size];omega
theorem zP:∀(n:Nat) (r:RuleT),r.size≤n→r.ok→r.size≤1048576→∀h,Ev Hm Γ0 215 [.agg r.fl.l] h (int (r.size:Nat)) h
 | 0,r,hn,_,_=>by have:=pq r;omega
 | n+1,.mk op c nm a d ks,hn,Oa,hs=>fun h=>by
  simp only[RuleT.ok] at Oa
  simp only[RuleT.size] at hn hs ⊢
  exact FU (x:=(K7 op c nm a d ks).fl) (ks:=ks) (di ks) Oa.1.2.2.2.2 hs (fun k hk=>zP n k (by have:=gb k hk;omega) (dU Oa.2 k hk) (by have:=gb k hk;omega)) h
theorem zQ:∀(n:Nat) (r:RuleT),r.size≤n→r.ok→r.size≤1048576→∀h,Ev Hm Γ0 216 [.agg r.fl.l] h (int (r.dep:Nat)) h
 | 0,r,hn,_,_=>by have:=pq r;omega
 | n+1,.mk op c nm a d ks,hn,Oa,hs=>fun h=>by
  simp only[RuleT.ok] at Oa
  simp only[RuleT.size] at hn hs
  simp only[RuleT.dep]
  have:=lX ks
  exact FY (x:=(K7 op c nm a d ks).fl) (ks:=ks) (di ks) Oa.1.2.2.2.2 (by rw[wrap_i64 (by omega) (by omega)];omega) (fun k hk=>zQ n k (by have:=gb k hk;omega) (dU Oa.2 k hk) (by have:=gb k hk;omega)) h
theorem Cn(ks:List RuleT):(c7 ks).length=ks.length:=by rw[di,Ir]
theorem Dl:∀(n:Nat) (r:RuleT),r.size≤n→r.ok→∀h,Ev Hm Γ0 217 [.agg r.fl.l] h (bool r.allF) h
 | 0,r,hn,_=>by have:=pq r;omega
 | n+1,.mk op c nm a d ks,hn,Oa=>fun h=>by
  have hfl:=RuleT.fl_ok Oa
  simp only[RuleT.ok] at Oa
  simp only[RuleT.size] at hn
  have:=allF_a (x:=(K7 op c nm a d ks).fl) hfl (ks:=ks) (di ks) Oa.1.2.2.2.2 (fun k hk=>Dl n k (by have:=gb k hk;omega) (dU Oa.2 k hk)) h
  have e:(K7 op c nm a d ks).fl.formed=aq op c a d ks.length:=by
   simp only[Hr,Jt,Cn]
  rw[e] at this
  exact this
def ck12(p d:Int)(a:Bool):Bool:=Zd (p>200)||Zd (d>16)||!a
noncomputable abbrev Dm(x:RuF):List D:=[H6 [int x.op,int x.c,au x.nm,int x.n,int x.d,ab x.ks]]
noncomputable abbrev ck(x:RuF):List Blk:=[.var [int x.op,int x.c,au x.nm,int x.n,int x.d,ab x.ks]]
theorem zR{x:RuF}{p d:Int}{a:Bool}(hp:∀h,Ev Hm Γ0 215 [.agg x.l] h (int p) h)(hd:∀h,Ev Hm Γ0 216 [.agg x.l] h (int d) h)(ha:∀h,Ev Hm Γ0 217 [.agg x.l] h (bool a) h)(h:List Blk):(Ev Hm Γ0 177 [.agg x.l] h (int (cA (ck12 p d a))) h):=by
 cases dO:Zd (p>200)||Zd (d>16)||!a
 ·exact zD (int 0) [.val (int p),.val (int d),.val (bool a),.b false] (.c (@hp (ck x)) (.c (gd (!Zd (p>200)) (@hd (ck x))) (.c (gd (!(Zd (p>200)||Zd (d>16))) (@ha (ck x))) (.c dO .n)))) h (by(have hh:ck12 p d a=false:=dO;rw[hh];rfl))
 ·exact zD (int 120) [.val (int p),.val (int d),.val (bool a),.b true] (.c (@hp (ck x)) (.c (gd (!Zd (p>200)) (@hd (ck x))) (.c (gd (!(Zd (p>200)||Zd (d>16))) (@ha (ck x))) (.c dO .n)))) h (by(have hh:ck12 p d a=true:=dO;rw[hh];rfl))
def zS(m dep:Int)(r:RuleT):Prop:=m+(r.size:Int)≤200∧dep+(r.dep:Int)≤17∧r.allF=true
def wL(m dep:Int)(ks:List RuleT):Prop:=m+(N5 ks:Int)≤200∧dep+(O2 ks:Int)≤17∧xi ks=true
mutual
theorem rR:∀(r:RuleT) (dep m:Int),0≤m→m+(r.size:Int)≤10000000→0≤dep→dep+(r.dep:Int)≤10000001→(zS m dep r→r.walk dep m=(m+(r.size:Int),false))∧(¬zS m dep r→(r.walk dep m).2=true)
 | .mk op c nm a d ks,dep,m,h1,h2,h3,h4=>by
  have e1:Hp.wrap (m+1)=m+1:=wrap_i64 (by omega) (by omega)
  have e2:Hp.wrap (dep+1)=dep+1:=wrap_i64 (by omega) (by omega)
  simp only[RuleT.size,RuleT.dep] at h2 h4
  have ih:=nT ks (dep+1) (m+1) (by omega) (by omega) (by omega) (by omega)
  simp only[RuleT.walk,e1,e2]
  unfold zS
  simp only[RuleT.size,RuleT.dep,RuleT.allF]
  cases N8:j6 (m+1) dep (aq op c a d ks.length) with
  | true =>
   simp only
   refine⟨fun hg=>?_,fun _=>trivial⟩
   obtain⟨g1,g2,g3⟩:=hg
   unfold j6 at N8
   cases hf:aq op c a d ks.length
   ·rw[hf] at g3;simp at g3
   ·rw[hf] at N8
    simp at N8
    omega
  | false =>
   simp only
   unfold j6 at N8
   simp only[I6,decide_eq_false_iff_not,Kf] at N8
   obtain⟨⟨s1,s2⟩,s3⟩:=N8
   rw[s3]
   simp only[cond_true]
   obtain⟨i1,i2⟩:=ih (by omega) (by omega)
   unfold wL at i1 i2
   refine⟨fun hg=>?_,fun hg=>?_⟩
   ·rw[i1 ⟨by omega,by omega,hg.2.2⟩]
    have:m+1+(N5 ks:Int)=m+((1+N5 ks:Nat):Int):=by omega
    rw[this]
   ·exact i2 fun hl=>hg ⟨by omega,by omega,hl.2.2⟩
theorem nT:∀(ks:List RuleT) (dep m:Int),0≤m→m+(N5 ks:Int)≤10000000→0≤dep→dep+(O2 ks:Int)≤10000001→m≤200→dep≤17→(wL m dep ks→walkL ks dep m=(m+(N5 ks:Int),false))∧(¬wL m dep ks→(walkL ks dep m).2=true)
 | [],dep,m,h1,h2,h3,h4,h5,h6=>by
  unfold wL
  simp only[N5,O2,xi,walkL]
  refine⟨fun _=>by simp,fun hg=>(hg ⟨by simp;omega,by simp;omega,by trivial⟩).elim⟩
 | k::ks,dep,m,h1,h2,h3,h4,h5,h6=>by
  simp only[N5,O2] at h2 h4
  obtain⟨a1,a2⟩:=rR k dep m h1 (by omega) h3 (by omega)
  unfold wL
  simp only[N5,O2,xi,walkL]
  by_cases hg:zS m dep k
  ·rw[a1 hg]
   simp only
   obtain⟨g1,g2,g3⟩:=hg
   obtain⟨b1,b2⟩:=nT ks dep (m+(k.size:Int)) (by omega) (by omega) h3 (by omega) (by omega) h6
   unfold wL at b1 b2
   rw[g3]
   simp only[cond_true]
   refine⟨fun hh=>?_,fun hh=>?_⟩
   ·rw[b1 ⟨by omega,by omega,hh.2.2⟩]
    have:m+(k.size:Int)+(N5 ks:Int)=m+((k.size+N5 ks:Nat):Int):=by omega
    rw[this]
   ·exact b2 fun hl=>hh ⟨by omega,by omega,hl.2.2⟩
  ·have ha:=a2 hg
   cases hw:k.walk dep m with
   | mk m' b =>
    rw[hw] at ha
    simp only at ha
    subst ha
    simp only
    refine⟨fun hh=>(hg ?_).elim,fun _=>trivial⟩
    obtain⟨g1,g2,g3⟩:=hh
    cases hk:k.allF
    ·rw[hk] at g3;simp at g3
    ·exact⟨by omega,by omega,hk⟩
end
theorem Co{r:RuleT}(hs:r.size≤1048576):r.bad=ck12 (r.size:Nat) (r.dep:Nat) r.allF:=by
 have hd:=RuleT.dep_size r
 obtain⟨h1,h2⟩:=rR r 1 0 (by omega) (by omega) (by omega) (by omega)
 unfold Mm ck12
 by_cases hg:zS 0 1 r
 ·rw[h1 hg]
  obtain⟨g1,g2,g3⟩:=hg
  rw[g3]
  have e1:Zd (((r.size:Nat):Int)>200)=false:=decide_eq_false (by omega)
  have e2:Zd (((r.dep:Nat):Int)>16)=false:=decide_eq_false (by omega)
  rw[e1,e2];rfl
 ·rw[h2 hg]
  cases hb:(Zd (((r.size:Nat):Int)>200)||Zd (((r.dep:Nat):Int)>16)||!r.allF)
  ·simp only[I6,decide_eq_false_iff_not,Kf] at hb
   exact(hg ⟨by omega,by omega,hb.2⟩).elim
  ·rfl
theorem nU{r:RuleT}(hr:r.ok)(hs:r.size≤1048576)(h:List Blk):Ev Hm Γ0 177 [.agg r.fl.l] h (int (cA r.bad)) h:=by
 rw[Co hs]
 exact zR (zP _ r (HS _) hr hs) (zQ _ r (HS _) hr hs) (Dl _ r (HS _) hr) h
noncomputable abbrev tD(f:FactT):List Blk:=[.var [int f.kind,int f.sub,int f.obj,int f.value,int f.frm,int f.By,int f.known,int f.no]]
theorem vo{f:FactT}(h:List Blk):(Ev Hm Γ0 82 [ag f.row] h (bool (!gi f)) h):=by
 exact z0 [.val (bool (gi f))] (.c (@Er f (tD f)) .n) h
def ixF(f:FactT)(s:Nat):Nat⊕Nat:=if (!gi f)=true then .inr s else .inl (s+1)
abbrev ixS(fs:List (List Dp))(i:Int):AS :=
 {t:=mkT 19 0 [(0,ab fs),(1,.p (.v (.func (.func 82) #[] #[]))),(4,int 0),(7,int fs.length),(8,int i)],h:=[],m:=[]}
abbrev ixX:Nat→Exit×AS:=fun k=>(.ret,{t:=mkT 19 0 [(4,int (k:Int))],h:=[],m:=[]})
theorem F2{fs:List (List Dp)}{i:Nat}{f:FactT}(hr:aj (i:Int) fs f.row 8)(iF:Zd ((i:Int)<(fs.length:Int))=true)(hw:Hp.wrap ((i:Int)+1)=((i+1:Nat):Int)):(CW Hm Γ0 [] false (sub Tryz.f137 0) (ixS fs i) (ah (fun _=>ixS fs ((i+1:Nat):Int)) ixX (ixF f i)).1 (ah (fun _=>ixS fs ((i+1:Nat):Int)) ixX (ixF f i)).2):=by
 cases dO:!gi f
 ·refine zX {t:=mkT 19 0 [(0,ab fs),(1,fq 82),(4,int 0),(7,int (↑(Hn fs):Int)),(8,int (Ht Hp ((↑i:Int)+1)))],h:=[],m:=[]} HA [.st (.mask [0,1,4,7,8])] [.b true,.row [vi f.kind,vi f.sub,vi f.obj,vi f.value,vi f.frm,vi f.By,vi f.known,vi f.no],.val (bool !gi f),.b false] (.c iF (.c hr (.c (@vo f ([])) (.c dO .n)))) ?_ ?_<;>(simp[ixF,ah, *])
 ·refine zX {t:=mkT 19 0 [(4,int (↑i:Int))],h:=[],m:=[]} IB [.st (.mask [4])] [.b true,.row [vi f.kind,vi f.sub,vi f.obj,vi f.value,vi f.frm,vi f.By,vi f.known,vi f.no],.val (bool !gi f),.b true] (.c iF (.c hr (.c (@vo f ([])) (.c dO .n)))) ?_ ?_<;>(simp[ixF,ah, *])
theorem F3{fs:List (List Dp)}{i:Nat}(iF:Zd ((i:Int)<(fs.length:Int))=false):(CW Hm Γ0 [] false (sub Tryz.f137 0) (ixS fs i) (.exit 0) {t:=mkT 19 0 [(4,int 0)],h:=[],m:=[]}):=by
 exact zx [.st (.mask [4])] [.b false] (.c iF .n)
abbrev ixE:AS:={t:=mkT 19 0 [(4,int 0)],h:=[],m:=[]}
def ixR(l:List FactT):Int:=match forL ixF l 0 with | .inl _ => -1 | .inr k=>(k:Int)
theorem ix_cw{l:List FactT}(hl:af l):
  CW Hm Γ0 [] false (.loop (sub Tryz.f137 0)) (ixS (l.map Hv) 0) (a8 (.exit 0) (fun _:Nat=>ixE) ixX (forL ixF l 0)).1 (a8 (.exit 0) (fun _:Nat=>ixE) ixX (forL ixF l 0)).2:=by
 refine I7 l ixF (fun i _=>ixS (l.map Hv) (i:Int)) (.exit 0) (fun _=>ixE) ixX (fun i s=>s=i) (by simp) (fun _=>by simp[]) ?_ ?_ 0 rfl
 ·intro i f s hf hs
  subst hs
  have hi:=(Hs.1 hf).1
  refine⟨fun s' h=>?_,F2 (rowAt hf rfl) (lt_len _ hi) (wrap_succ hi hl)⟩
  unfold ixF at h
  split at h<;>simp at h
  exact h.symm
 ·intro s hs
  exact F3 (aJ _ l)
theorem Cp{l:List FactT}(hl:af l)(h:List Blk):(Ev Hm Γ0 137 [ab (l.map Hv),.p (.v (.func (.func 82) #[] #[]))] h (int (ixR l)) h):=by
 have N1:=(@ix_cw (l) (hl))
 revert N1
 cases O0:forL ixF l 0 with
 | inl o1_0_0 =>
  intro N1
  exact zD (int (-1)) [.sum [0,1,4,7,8] (HT 0) {t:=mkT 19 0 [(4,int 0)],h:=[],m:=[]}] (.c N1 .n) h (by simp[ixR,O0])
 | inr o1_1_0 =>
  intro N1
  exact zD (int (↑o1_1_0:Int)) [.sum [0,1,4,7,8] (IB) {t:=mkT 19 0 [(4,int (↑o1_1_0:Int))],h:=[],m:=[]}] (.c N1 .n) h (by simp[ixR,O0])
theorem ix_any(l:List FactT):∀k:Nat,(match forL ixF l k with | .inl _=>false | .inr _=>true)=l.any (fun f=>!gi f):=by
 induction l with
 | nil=>intro k;rfl
 | cons f l ih =>
  intro k
  rw[Nm]
  cases hf:gi f
  ·simp[forL,ixF,hf]
  ·simp only[forL,ixF,hf,Bool.not_true,Bool.false_eq_true,if_false,Bool.false_or]
   exact ih (k+1)
theorem ixR_ge(l:List FactT):Zd (ixR l≥0)=l.any (fun f=>!gi f):=by
 rw[←ix_any l 0,ixR]
 split<;>simp
theorem gL{l:List FactT}(hl:af l)(h:List Blk):(Ev Hm Γ0 81 [ab (l.map Hv),.p (.v (.func (.func 82) #[] #[]))] h (bool (l.any (fun f=>!gi f))) h):=by
 exact zD (bool (Zd (ixR l≥0))) [.val (int (ixR l))] (.c (@Cp l hl ([])) .n) h (by rw[←ixR_ge])
def nb5F(p:FactT×FactT)(_:Unit):Unit⊕Unit:=if Zd (orI (aU p.1.known p.2.known) (aU p.1.no p.2.no)≥0)=true then .inr () else .inl ()
abbrev nb5S(fs:List (List Dp))(n:Int)(i:Int):AS :=
 {t:=mkT 27 0 [(0,ab fs),(2,int 0),(11,int n),(12,int i)],h:=[],m:=[]}
abbrev nbX:Unit→Exit×AS:=fun _=>(.ret,{t:=mkT 27 0 [(2,int 71)],h:=[],m:=[]})
theorem Cq{fs:List (List Dp)}{n:Int}{i:Nat}{a b:FactT}(hr:aj (i:Int) fs a.row 8)(hr':aj (Hp.wrap ((i:Int)+1)) fs b.row 8)(iF:Zd ((i:Int)<n)=true)(hw:Hp.wrap ((i:Int)+1)=((i+1:Nat):Int)):(CW Hm Γ0 [] false (sub Tryz.f32 0) (nb5S fs n i) (ah (fun _=>nb5S fs n ((i+1:Nat):Int)) nbX (nb5F (a,b) ())).1 (ah (fun _=>nb5S fs n ((i+1:Nat):Int)) nbX (nb5F (a,b) ())).2):=by
 cases dO:Zd (orI (aU a.known b.known) (aU a.no b.no)≥0)
 ·refine zX {t:=mkT 27 0 [(0,ab fs),(2,int 0),(11,int n),(12,int (Ht Hp ((↑i:Int)+1)))],h:=[],m:=[]} HA [.st (.mask [0,2,11,12])] [.b true,.row [vi a.kind,vi a.sub,vi a.obj,vi a.value,vi a.frm,vi a.By,vi a.known,vi a.no],.row [vi b.kind,vi b.sub,vi b.obj,vi b.value,vi b.frm,vi b.By,vi b.known,vi b.no],.val (int (orI (aU a.known b.known) (aU a.no b.no))),.b false] (.c iF (.c hr (.c hr' (.c (@jc a b ([])) (.c dO .n))))) ?_ ?_<;>(simp[nb5F,ah, *])
 ·refine zX {t:=mkT 27 0 [(2,int 71)],h:=[],m:=[]} IB [.st (.mask [2])] [.b true,.row [vi a.kind,vi a.sub,vi a.obj,vi a.value,vi a.frm,vi a.By,vi a.known,vi a.no],.row [vi b.kind,vi b.sub,vi b.obj,vi b.value,vi b.frm,vi b.By,vi b.known,vi b.no],.val (int (orI (aU a.known b.known) (aU a.no b.no))),.b true] (.c iF (.c hr (.c hr' (.c (@jc a b ([])) (.c dO .n))))) ?_ ?_<;>(simp[nb5F,ah, *])
theorem Cr{fs:List (List Dp)}{n:Int}{i:Nat}(iF:Zd ((i:Int)<n)=false):(CW Hm Γ0 [] false (sub Tryz.f32 0) (nb5S fs n i) (.exit 0) {t:=mkT 27 0 [(2,int 0)],h:=[],m:=[]}):=by
 exact zx [.st (.mask [2])] [.b false] (.c iF .n)
def nbs(l:List FactT):List (FactT×FactT):=l.zip (l.drop 1)
def nbR(l:List FactT):Unit⊕Unit:=forL nb5F (nbs l) ()
theorem nb5_cw{l:List FactT}(hl:af l){n:Int}(hn:n=(nbs l).length):
  CW Hm Γ0 [] false (.loop (sub Tryz.f32 0)) (nb5S (l.map Hv) n 0) (a8 (.exit 0) (fun _:Unit=>{t:=mkT 27 0 [(2,int 0)],h:=[],m:=[]}) nbX (nbR l)).1 (a8 (.exit 0) (fun _:Unit=>{t:=mkT 27 0 [(2,int 0)],h:=[],m:=[]}) nbX (nbR l)).2:=by
 subst hn
 have hlen:(nbs l).length=l.length - 1:=by simp[nbs];try omega
 refine I7 (nbs l) nb5F (fun i _=>nb5S (l.map Hv) ((nbs l).length:Int) (i:Int)) (.exit 0) (fun _=>{t:=mkT 27 0 [(2,int 0)],h:=[],m:=[]}) nbX (fun _ _=>True) (by simp) (fun _=>by simp[]) ?_ ?_ () trivial
 ·intro i p u hp _
  obtain⟨hi,he⟩:=Hs.1 hp
  have Sp:i+1<l.length:=by omega
  have h1:l[i]? = some p.1:=by
   subst he;simp[nbs,HH (show i<l.length by omega)]
  have h2:l[i+1]? = some p.2:=by
   subst he;simp[nbs,HH Sp]
  have hw:=wrap_succ (show i<l.length by omega) hl
  refine⟨fun _ _=>trivial,Cq (a:=p.1) (b:=p.2) (rowAt h1 rfl) ?_ ?_ hw⟩
  ·rw[hw];exact rowAt h2 rfl
  ·simp;omega
 ·intro u _
  exact Cr (by simp)
def rS(l:List FactT):Int:=bif l.any (fun f=>!gi f) then 70 else match nbR l with | .inl _=>0 | .inr _=>71
abbrev min1(l:List FactT):Int:=if false=true then if (↑(Hn (Hl Hv l)):Int)>1 then (↑(Hn (Hl Hv l)):Int) else 1 else if (↑(Hn (Hl Hv l)):Int)<1 then (↑(Hn (Hl Hv l)):Int) else 1
theorem zT(l:List FactT):min1 l=((min 1 l.length:Nat):Int):=by
 unfold min1;simp;split<;>omega
theorem Cs(l:List FactT):((Hn (List.take (Hw ((Hn (Hl Hv l):Nat):Int) - Hw (min1 l)) (List.drop (Hw (min1 l)) (Hl Hv l))):Nat):Int)=(nbs l).length:=by
 rw[zT];simp[nbs];omega
theorem tE(l:List FactT):(mq (min1 l) (↑(Hn (Hl Hv l)):Int) (Hn (Hl Hv l))&&true&&(true||false)&&HJ (Hl Hv l) fun r=>Zd (Hn r=8))=true:=by
 rw[zT];simp[mq];refine⟨?_,fun f _=>rfl⟩;omega
noncomputable abbrev Dn(l:List FactT):List D:=[ab (Hl Hv l),fq 82]
theorem zU{l:List FactT}(hl:af l)(h:List Blk):(Ev Hm Γ0 32 [ab (l.map Hv)] h (int (rS l)) h):=by
 cases dO:L6 l fun f=>!gi f
 ·have Oj:=(@nb5_cw (l) (hl) ((↑(Hn (List.take (Hw (↑(Hn (Hl Hv l)):Int) - Hw (if false=true then if (↑(Hn (Hl Hv l)):Int)>1 then (↑(Hn (Hl Hv l)):Int) else 1 else if (↑(Hn (Hl Hv l)):Int)<1 then (↑(Hn (Hl Hv l)):Int) else 1)) (List.drop (Hw (if false=true then if (↑(Hn (Hl Hv l)):Int)>1 then (↑(Hn (Hl Hv l)):Int) else 1 else if (↑(Hn (Hl Hv l)):Int)<1 then (↑(Hn (Hl Hv l)):Int) else 1)) (Hl Hv l)))):Int)) (by first|assumption|exact tE l|exact Cs l))
  revert Oj
  cases O1:nbR l with
  | inl o2_0_0 =>
   intro Oj
   let v0:=Hn (Hl Hv l)
   exact zD (int 0) [.val (bool (L6 l fun f=>!gi f)),.b false,.sum [0,2,11,12] (HT 0) {t:=mkT 27 0 [(2,int 0)],h:=[],m:=[]}] (.c (@gL l hl ([])) (.c dO (.c (show(mq (if false=true then if (↑v0:Int)>1 then (↑v0:Int) else 1 else if (↑v0:Int)<1 then (↑v0:Int) else 1) (↑v0:Int) v0&&true&&(true||false)&&HJ (Hl Hv l) fun r=>Zd (Hn r=8))=true from(by subst v0;exact tE l)) (.c Oj .n)))) h (by subst v0;simp[rS,dO,O1])
  | inr o2_1_0 =>
   intro Oj
   let v0:=Hn (Hl Hv l)
   exact zD (int 71) [.val (bool (L6 l fun f=>!gi f)),.b false,.sum [0,2,11,12] (IB) {t:=mkT 27 0 [(2,int 71)],h:=[],m:=[]}] (.c (@gL l hl ([])) (.c dO (.c (show(mq (if false=true then if (↑v0:Int)>1 then (↑v0:Int) else 1 else if (↑v0:Int)<1 then (↑v0:Int) else 1) (↑v0:Int) v0&&true&&(true||false)&&HJ (Hl Hv l) fun r=>Zd (Hn r=8))=true from(by subst v0;exact tE l)) (.c Oj .n)))) h (by subst v0;simp[rS,dO,O1])
 ·exact zD (int 70) [.val (bool (L6 l fun f=>!gi f)),.b true] (.c (@gL l hl ([])) (.c dO .n)) h (by simp[rS,dO])
def befB(a b:FactT):Bool:=Zd (a.known<b.known)||(a.known==b.known&&Zd (a.no<b.no))
theorem rT{a b:FactT}(h:List Blk):(Ev Hm Γ0 135 [ag a.row,ag b.row] h (bool (befB a b)) h):=by
 exact z0 [] .n h
def mn(kk ks ko term known:Int)(f:FactT):Bool:=keyIs kk ks ko f&&Zd (f.frm≤term)&&Zd (term<f.By)&&Zd (f.known≤known)
abbrev a7S(kk ks ko term known:Int)(fs:List (List Dp))(iS i:Int):AS:={t:=mkT 76 0 [(0,ab fs),(2,int term),(3,int known),(5,.ref (.ptr 0 0)),(8,int 0),(9,bool false),(10,int iS),(11,int i)],h:=[.var [int kk,int ks,int ko]],m:=[]}
theorem a7_b0{kk ks ko term known:Int}{fs:List (List Dp)}{i:Nat}{f:FactT}(hr:aj (i:Int) fs f.row 8)(iF:Zd ((i:Int)<(fs.length:Int))=true)(hw:Hp.wrap ((i:Int)+1)=((i+1:Nat):Int)):(CW Hm Γ0 [] false (sub Lr 0) (a7S kk ks ko term known fs (-1) i) .normal (a7S kk ks ko term known fs (bif mn kk ks ko term known f then (i:Int) else -1) ((i+1:Nat):Int))):=by
 cases dO:f.kind==kk&&(f.sub==ks&&(f.obj==ko&&true))
 ·let v0:=II (JB (Ii {toList:=[]}))
  refine zX {t:=mkT 76 0 [(0,ab fs),(2,int term),(3,int known),(5,.ref (.ptr 0 0)),(8,int 0),(9,bool false),(10,int (-1)),(11,int (Ht Hp ((↑i:Int)+1)))],h:=[.var [int kk,int ks,int ko]],m:=[]} HA [.st (.mask [0,2,3,5,8,9,10,11]),.st (.trim 1)] [.b true,.row [vi f.kind,vi f.sub,vi f.obj,vi f.value,vi f.frm,vi f.By,vi f.known,vi f.no],.g false,.g false,.g false,.g false,.g false,.ov 33 (bool false),.g false,.g false,.g false,.g false,.g false,.ov 40 (bool false),.g false,.g false,.g false,.g false,.ov 46 (bool false),.g false,.g false,.g false,.g false,.g false,.g false,.g false,.g false,.g false,.g false,.g false,.ov 59 (bool false),.b false] (.c iF (.c hr (.c (eqb dO) (.c (eqb dO) (.c (eqb dO) (.c (eqb dO) (.c (eqb dO) (.c (pkf v0 (bool false) dO) (.f (.f (.f (.f (.f (.c (pkf v0 (bool false) rfl) (.f (.f (.f (.f (.c (pkf v0 (bool false) rfl) (.f (.f (.f (.er false (.er false (.er false (.er false (.er false (.er false (.er false (.f (.c (pkf v0 (bool false) rfl) (.er false .n)))))))))))))))))))))))))))))))) ?_ ?_<;>subst v0<;>(first|rfl|(have hk:keyIs kk ks ko f=_:=dO;simp only[mn,hk,hw,Ix,cond_false];done))
 ·cases oN:Zd (f.frm≤term)
  ·let v0:=II (JB (Ii {toList:=[]}))
   refine zX {t:=mkT 76 0 [(0,ab fs),(2,int term),(3,int known),(5,.ref (.ptr 0 0)),(8,int 0),(9,bool false),(10,int (-1)),(11,int (Ht Hp ((↑i:Int)+1)))],h:=[.var [int kk,int ks,int ko]],m:=[]} HA [.st (.mask [0,2,3,5,8,9,10,11]),.st (.trim 1)] [.b true,.row [vi f.kind,vi f.sub,vi f.obj,vi f.value,vi f.frm,vi f.By,vi f.known,vi f.no],.g true,.g true,.g true,.g true,.g true,.ov 33 (bool (Zd (f.frm≤term))),.g false,.g false,.g false,.g false,.g false,.ov 40 (bool false),.g false,.g false,.g false,.g false,.ov 46 (bool false),.g false,.g false,.g false,.g false,.g false,.g false,.g false,.g false,.g false,.g false,.g false,.ov 59 (bool false),.b false] (.c iF (.c hr (.c (eqa dO) (.c (eqa dO) (.c (eqa dO) (.c (eqa dO) (.c (eqa dO) (.c (pkt (bool (Zd (f.frm≤term))) (bool false) dO) (.c (eqb oN) (.c (eqb oN) (.c (eqb oN) (.c (eqb oN) (.c (eqb oN) (.c (pkf v0 (bool false) oN) (.f (.f (.f (.f (.c (pkf v0 (bool false) rfl) (.f (.f (.f (.er false (.er false (.er false (.er false (.er false (.er false (.er false (.f (.c (pkf v0 (bool false) rfl) (.er false .n)))))))))))))))))))))))))))))))) ?_ ?_<;>subst v0<;>(first|rfl|(have hk:keyIs kk ks ko f=_:=dO;simp only[mn,hk,hw,oN,IG,Ix,cond_false];done))
  ·cases Is:Zd (term<f.By)
   ·refine zX {t:=mkT 76 0 [(0,ab fs),(2,int term),(3,int known),(5,.ref (.ptr 0 0)),(8,int 0),(9,bool false),(10,int (-1)),(11,int (Ht Hp ((↑i:Int)+1)))],h:=[.var [int kk,int ks,int ko]],m:=[]} HA [.st (.mask [0,2,3,5,8,9,10,11]),.st (.trim 1)] [.b true,.row [vi f.kind,vi f.sub,vi f.obj,vi f.value,vi f.frm,vi f.By,vi f.known,vi f.no],.g true,.g true,.g true,.g true,.g true,.ov 33 (bool (Zd (f.frm≤term))),.g true,.g true,.g true,.g true,.g true,.ov 40 (bool (Zd (term<f.By))),.g false,.g false,.g false,.g false,.ov 46 (bool false),.g false,.g false,.g false,.g false,.g false,.g false,.g false,.g false,.g false,.g false,.g false,.ov 59 (bool false),.b false] (.c iF (.c hr (.c (eqa dO) (.c (eqa dO) (.c (eqa dO) (.c (eqa dO) (.c (eqa dO) (.c (pkt (bool (Zd (f.frm≤term))) (bool false) dO) (.c (eqa oN) (.c (eqa oN) (.c (eqa oN) (.c (eqa oN) (.c (eqa oN) (.c (pkt (bool (Zd (term<f.By))) (bool false) oN) (.c (eqb Is) (.c (eqb Is) (.c (eqb Is) (.c (eqb Is) (.c (pkf (II (JB (Ii {toList:=[]}))) (bool false) Is) (.f (.f (.f (.er false (.er false (.er false (.er false (.er false (.er false (.er false (.f (.c (pkf (II (JB (Ii {toList:=[]}))) (bool false) rfl) (.er false .n)))))))))))))))))))))))))))))))) ?_ ?_<;>(first|rfl|(have hk:keyIs kk ks ko f=_:=dO;simp only[mn,hk,hw,oN,Is,IG,Ix,Js,cond_false];done))
   ·cases N7:Zd (f.known≤known)
    ·refine zX {t:=mkT 76 0 [(0,ab fs),(2,int term),(3,int known),(5,.ref (.ptr 0 0)),(8,int 0),(9,bool false),(10,int (-1)),(11,int (Ht Hp ((↑i:Int)+1)))],h:=[.var [int kk,int ks,int ko]],m:=[]} HA [.st (.mask [0,2,3,5,8,9,10,11]),.st (.trim 1)] [.b true,.row [vi f.kind,vi f.sub,vi f.obj,vi f.value,vi f.frm,vi f.By,vi f.known,vi f.no],.g true,.g true,.g true,.g true,.g true,.ov 33 (bool (Zd (f.frm≤term))),.g true,.g true,.g true,.g true,.g true,.ov 40 (bool (Zd (term<f.By))),.g true,.g true,.g true,.g true,.ov 46 (bool (Zd (f.known≤known))),.g false,.g false,.g false,.g false,.g false,.g false,.g false,.g false,.g false,.g false,.g false,.ov 59 (bool false),.b false] (.c iF (.c hr (.c (eqa dO) (.c (eqa dO) (.c (eqa dO) (.c (eqa dO) (.c (eqa dO) (.c (pkt (bool (Zd (f.frm≤term))) (bool false) dO) (.c (eqa oN) (.c (eqa oN) (.c (eqa oN) (.c (eqa oN) (.c (eqa oN) (.c (pkt (bool (Zd (term<f.By))) (bool false) oN) (.c (eqa Is) (.c (eqa Is) (.c (eqa Is) (.c (eqa Is) (.c (pkt (bool (Zd (f.known≤known))) (bool false) Is) (.c (eqb N7) (.c (eqb N7) (.c (eqb N7) (.er false (.er false (.er false (.er false (.er false (.er false (.er false (.c (eqb N7) (.c (pkf (II (JB (Ii {toList:=[]}))) (bool false) N7) (.er false .n)))))))))))))))))))))))))))))))) ?_ ?_<;>(first|rfl|(have hk:keyIs kk ks ko f=_:=dO;simp only[mn,hk,hw,oN,Is,N7,IG,Js,cond_false];done))
    ·refine zX {t:=mkT 76 0 [(0,ab fs),(2,int term),(3,int known),(5,.ref (.ptr 0 0)),(8,int 0),(9,bool false),(10,int (↑i:Int)),(11,int (Ht Hp ((↑i:Int)+1)))],h:=[.var [int kk,int ks,int ko]],m:=[]} HA [.st (.mask [0,2,3,5,8,9,10,11]),.st (.trim 1)] [.b true,.row [vi f.kind,vi f.sub,vi f.obj,vi f.value,vi f.frm,vi f.By,vi f.known,vi f.no],.g true,.g true,.g true,.g true,.g true,.ov 33 (bool (Zd (f.frm≤term))),.g true,.g true,.g true,.g true,.g true,.ov 40 (bool (Zd (term<f.By))),.g true,.g true,.g true,.g true,.ov 46 (bool (Zd (f.known≤known))),.g true,.g true,.g true,.g false,.g false,.g false,.g false,.g false,.g false,.g false,.g true,.ov 58 (bool true),.ov 59 (bool true),.b true] (.c iF (.c hr (.c (eqa dO) (.c (eqa dO) (.c (eqa dO) (.c (eqa dO) (.c (eqa dO) (.c (pkt (bool (Zd (f.frm≤term))) (bool false) dO) (.c (eqa oN) (.c (eqa oN) (.c (eqa oN) (.c (eqa oN) (.c (eqa oN) (.c (pkt (bool (Zd (term<f.By))) (bool false) oN) (.c (eqa Is) (.c (eqa Is) (.c (eqa Is) (.c (eqa Is) (.c (pkt (bool (Zd (f.known≤known))) (bool false) Is) (.c (eqa N7) (.c (eqa N7) (.c (eqa N7) (.c (show(Zd (-1<0)==false)=false from rfl) (.c (show(Zd (-1<0)==false)=false from rfl) (.c (show(Zd (-1<0)==false)=false from rfl) (.c (show(Zd (-1<0)==false)=false from rfl) (.c (show(Zd (-1<0)==false)=false from rfl) (.c (show(Zd (-1<0)==false)=false from rfl) (.c (show(Zd (-1<0)==false)=false from rfl) (.c (eqa N7) (.c (show cL (bool (Zd (-1<0))) (bool true) (II (JB (Ii {toList:=[]}))) (bool true) from(by rfl)) (.c (pkt (bool true) (bool false) N7) (.er true .n))))))))))))))))))))))))))))))))) ?_ ?_<;>(first|rfl|(have hk:keyIs kk ks ko f=_:=dO;simp only[mn,hk,hw,oN,Is,N7,Js,cond_true];done))
noncomputable abbrev vq(kk:Int)(ks:Int)(ko:Int)(f:FactT):List Blk:=[.var [int kk,int ks,int ko],.var [int f.kind,int f.sub,int f.obj,int f.value,int f.frm,int f.By,int f.known,int f.no]]
theorem a7_b1{kk ks ko term known:Int}{fs:List (List Dp)}{i j:Nat}{f g:FactT}(hr:aj (i:Int) fs f.row 8)(hg:aj (j:Int) fs g.row 8)(hj:Zd ((j:Int)<0)=false)(iF:Zd ((i:Int)<(fs.length:Int))=true)(hw:Hp.wrap ((i:Int)+1)=((i+1:Nat):Int)):(CW Hm Γ0 [] false (sub Lr 0) (a7S kk ks ko term known fs (j:Int) i) .normal (a7S kk ks ko term known fs (bif mn kk ks ko term known f&&!befB f g then (i:Int) else (j:Int)) ((i+1:Nat):Int))):=by
 cases dO:f.kind==kk&&(f.sub==ks&&(f.obj==ko&&true))
 ·let v0:=II (JB (Ii {toList:=[]}))
  refine zX {t:=mkT 76 0 [(0,ab fs),(2,int term),(3,int known),(5,.ref (.ptr 0 0)),(8,int 0),(9,bool false),(10,int (↑j:Int)),(11,int (Ht Hp ((↑i:Int)+1)))],h:=[.var [int kk,int ks,int ko]],m:=[]} HA [.st (.mask [0,2,3,5,8,9,10,11]),.st (.trim 1)] [.b true,.row [vi f.kind,vi f.sub,vi f.obj,vi f.value,vi f.frm,vi f.By,vi f.known,vi f.no],.g false,.g false,.g false,.g false,.g false,.ov 33 (bool false),.g false,.g false,.g false,.g false,.g false,.ov 40 (bool false),.g false,.g false,.g false,.g false,.ov 46 (bool false),.g false,.g false,.g false,.g false,.g false,.g false,.g false,.g false,.g false,.g false,.g false,.ov 59 (bool false),.b false] (.c iF (.c hr (.c (eqb dO) (.c (eqb dO) (.c (eqb dO) (.c (eqb dO) (.c (eqb dO) (.c (pkf v0 (bool false) dO) (.f (.f (.f (.f (.f (.c (pkf v0 (bool false) rfl) (.f (.f (.f (.f (.c (pkf v0 (bool false) rfl) (.f (.f (.f (.er false (.er false (.er false (.er false (.er false (.er false (.er false (.f (.c (pkf v0 (bool false) rfl) (.er false .n)))))))))))))))))))))))))))))))) ?_ ?_<;>subst v0<;>(first|rfl|(have hk:keyIs kk ks ko f=_:=dO;simp only[mn,hk,hw,Ix,cond_false];done))
 ·cases oN:Zd (f.frm≤term)
  ·let v0:=II (JB (Ii {toList:=[]}))
   refine zX {t:=mkT 76 0 [(0,ab fs),(2,int term),(3,int known),(5,.ref (.ptr 0 0)),(8,int 0),(9,bool false),(10,int (↑j:Int)),(11,int (Ht Hp ((↑i:Int)+1)))],h:=[.var [int kk,int ks,int ko]],m:=[]} HA [.st (.mask [0,2,3,5,8,9,10,11]),.st (.trim 1)] [.b true,.row [vi f.kind,vi f.sub,vi f.obj,vi f.value,vi f.frm,vi f.By,vi f.known,vi f.no],.g true,.g true,.g true,.g true,.g true,.ov 33 (bool (Zd (f.frm≤term))),.g false,.g false,.g false,.g false,.g false,.ov 40 (bool false),.g false,.g false,.g false,.g false,.ov 46 (bool false),.g false,.g false,.g false,.g false,.g false,.g false,.g false,.g false,.g false,.g false,.g false,.ov 59 (bool false),.b false] (.c iF (.c hr (.c (eqa dO) (.c (eqa dO) (.c (eqa dO) (.c (eqa dO) (.c (eqa dO) (.c (pkt (bool (Zd (f.frm≤term))) (bool false) dO) (.c (eqb oN) (.c (eqb oN) (.c (eqb oN) (.c (eqb oN) (.c (eqb oN) (.c (pkf v0 (bool false) oN) (.f (.f (.f (.f (.c (pkf v0 (bool false) rfl) (.f (.f (.f (.er false (.er false (.er false (.er false (.er false (.er false (.er false (.f (.c (pkf v0 (bool false) rfl) (.er false .n)))))))))))))))))))))))))))))))) ?_ ?_<;>subst v0<;>(first|rfl|(have hk:keyIs kk ks ko f=_:=dO;simp only[mn,hk,hw,oN,IG,Ix,cond_false];done))
  ·cases Is:Zd (term<f.By)
   ·refine zX {t:=mkT 76 0 [(0,ab fs),(2,int term),(3,int known),(5,.ref (.ptr 0 0)),(8,int 0),(9,bool false),(10,int (↑j:Int)),(11,int (Ht Hp ((↑i:Int)+1)))],h:=[.var [int kk,int ks,int ko]],m:=[]} HA [.st (.mask [0,2,3,5,8,9,10,11]),.st (.trim 1)] [.b true,.row [vi f.kind,vi f.sub,vi f.obj,vi f.value,vi f.frm,vi f.By,vi f.known,vi f.no],.g true,.g true,.g true,.g true,.g true,.ov 33 (bool (Zd (f.frm≤term))),.g true,.g true,.g true,.g true,.g true,.ov 40 (bool (Zd (term<f.By))),.g false,.g false,.g false,.g false,.ov 46 (bool false),.g false,.g false,.g false,.g false,.g false,.g false,.g false,.g false,.g false,.g false,.g false,.ov 59 (bool false),.b false] (.c iF (.c hr (.c (eqa dO) (.c (eqa dO) (.c (eqa dO) (.c (eqa dO) (.c (eqa dO) (.c (pkt (bool (Zd (f.frm≤term))) (bool false) dO) (.c (eqa oN) (.c (eqa oN) (.c (eqa oN) (.c (eqa oN) (.c (eqa oN) (.c (pkt (bool (Zd (term<f.By))) (bool false) oN) (.c (eqb Is) (.c (eqb Is) (.c (eqb Is) (.c (eqb Is) (.c (pkf (II (JB (Ii {toList:=[]}))) (bool false) Is) (.f (.f (.f (.er false (.er false (.er false (.er false (.er false (.er false (.er false (.f (.c (pkf (II (JB (Ii {toList:=[]}))) (bool false) rfl) (.er false .n)))))))))))))))))))))))))))))))) ?_ ?_<;>(first|rfl|(have hk:keyIs kk ks ko f=_:=dO;simp only[mn,hk,hw,oN,Is,IG,Ix,Js,cond_false];done))
   ·cases N7:Zd (f.known≤known)
    ·refine zX {t:=mkT 76 0 [(0,ab fs),(2,int term),(3,int known),(5,.ref (.ptr 0 0)),(8,int 0),(9,bool false),(10,int (↑j:Int)),(11,int (Ht Hp ((↑i:Int)+1)))],h:=[.var [int kk,int ks,int ko]],m:=[]} HA [.st (.mask [0,2,3,5,8,9,10,11]),.st (.trim 1)] [.b true,.row [vi f.kind,vi f.sub,vi f.obj,vi f.value,vi f.frm,vi f.By,vi f.known,vi f.no],.g true,.g true,.g true,.g true,.g true,.ov 33 (bool (Zd (f.frm≤term))),.g true,.g true,.g true,.g true,.g true,.ov 40 (bool (Zd (term<f.By))),.g true,.g true,.g true,.g true,.ov 46 (bool (Zd (f.known≤known))),.g false,.g false,.g false,.g false,.g false,.g false,.g false,.g false,.g false,.g false,.g false,.ov 59 (bool false),.b false] (.c iF (.c hr (.c (eqa dO) (.c (eqa dO) (.c (eqa dO) (.c (eqa dO) (.c (eqa dO) (.c (pkt (bool (Zd (f.frm≤term))) (bool false) dO) (.c (eqa oN) (.c (eqa oN) (.c (eqa oN) (.c (eqa oN) (.c (eqa oN) (.c (pkt (bool (Zd (term<f.By))) (bool false) oN) (.c (eqa Is) (.c (eqa Is) (.c (eqa Is) (.c (eqa Is) (.c (pkt (bool (Zd (f.known≤known))) (bool false) Is) (.c (eqb N7) (.c (eqb N7) (.c (eqb N7) (.er false (.er false (.er false (.er false (.er false (.er false (.er false (.c (eqb N7) (.c (pkf (II (JB (Ii {toList:=[]}))) (bool false) N7) (.er false .n)))))))))))))))))))))))))))))))) ?_ ?_<;>(first|rfl|(have hk:keyIs kk ks ko f=_:=dO;simp only[mn,hk,hw,oN,Is,N7,IG,Ix,Js,cond_false];done))
    ·cases Ra:!befB f g
     ·refine zX {t:=mkT 76 0 [(0,ab fs),(2,int term),(3,int known),(5,.ref (.ptr 0 0)),(8,int 0),(9,bool false),(10,int (↑j:Int)),(11,int (Ht Hp ((↑i:Int)+1)))],h:=[.var [int kk,int ks,int ko]],m:=[]} HA [.st (.mask [0,2,3,5,8,9,10,11]),.st (.trim 1)] [.b true,.row [vi f.kind,vi f.sub,vi f.obj,vi f.value,vi f.frm,vi f.By,vi f.known,vi f.no],.g true,.g true,.g true,.g true,.g true,.ov 33 (bool (Zd (f.frm≤term))),.g true,.g true,.g true,.g true,.g true,.ov 40 (bool (Zd (term<f.By))),.g true,.g true,.g true,.g true,.ov 46 (bool (Zd (f.known≤known))),.g true,.g true,.g true,.g true,.g true,.g true,.g true,.row [vi g.kind,vi g.sub,vi g.obj,vi g.value,vi g.frm,vi g.By,vi g.known,vi g.no],.g true,.g true,.val (bool (befB f g)),.g true,.g true,.ov 58 (bool !befB f g),.ov 59 (bool !befB f g),.b false] (.c iF (.c hr (.c (eqa dO) (.c (eqa dO) (.c (eqa dO) (.c (eqa dO) (.c (eqa dO) (.c (pkt (bool (Zd (f.frm≤term))) (bool false) dO) (.c (eqa oN) (.c (eqa oN) (.c (eqa oN) (.c (eqa oN) (.c (eqa oN) (.c (pkt (bool (Zd (term<f.By))) (bool false) oN) (.c (eqa Is) (.c (eqa Is) (.c (eqa Is) (.c (eqa Is) (.c (pkt (bool (Zd (f.known≤known))) (bool false) Is) (.c (eqa N7) (.c (eqa N7) (.c (eqa N7) (.c (show(Zd ((↑j:Int)<0)==false)=true from rfl) (.c (show(Zd ((↑j:Int)<0)==false)=true from rfl) (.c (show(Zd ((↑j:Int)<0)==false)=true from rfl) (.c (show(Zd ((↑j:Int)<0)==false)=true from rfl) (.c hg (.c (show(Zd ((↑j:Int)<0)==false)=true from rfl) (.c (show(Zd ((↑j:Int)<0)==false)=true from rfl) (.c (@rT f g (vq kk ks ko f)) (.c (show(Zd ((↑j:Int)<0)==false)=true from rfl) (.c (eqa N7) (.c (pkf (bool true) (bool !befB f g) hj) (.c (pkt (bool !befB f g) (bool false) N7) (.c Ra .n))))))))))))))))))))))))))))))))))) ?_ ?_<;>(first|rfl|(have hk:keyIs kk ks ko f=_:=dO;simp only[mn,hk,hw,oN,Is,N7,IG,Js,cond_false];done))
     ·refine zX {t:=mkT 76 0 [(0,ab fs),(2,int term),(3,int known),(5,.ref (.ptr 0 0)),(8,int 0),(9,bool false),(10,int (↑i:Int)),(11,int (Ht Hp ((↑i:Int)+1)))],h:=[.var [int kk,int ks,int ko]],m:=[]} HA [.st (.mask [0,2,3,5,8,9,10,11]),.st (.trim 1)] [.b true,.row [vi f.kind,vi f.sub,vi f.obj,vi f.value,vi f.frm,vi f.By,vi f.known,vi f.no],.g true,.g true,.g true,.g true,.g true,.ov 33 (bool (Zd (f.frm≤term))),.g true,.g true,.g true,.g true,.g true,.ov 40 (bool (Zd (term<f.By))),.g true,.g true,.g true,.g true,.ov 46 (bool (Zd (f.known≤known))),.g true,.g true,.g true,.g true,.g true,.g true,.g true,.row [vi g.kind,vi g.sub,vi g.obj,vi g.value,vi g.frm,vi g.By,vi g.known,vi g.no],.g true,.g true,.val (bool (befB f g)),.g true,.g true,.ov 58 (bool !befB f g),.ov 59 (bool !befB f g),.b true] (.c iF (.c hr (.c (eqa dO) (.c (eqa dO) (.c (eqa dO) (.c (eqa dO) (.c (eqa dO) (.c (pkt (bool (Zd (f.frm≤term))) (bool false) dO) (.c (eqa oN) (.c (eqa oN) (.c (eqa oN) (.c (eqa oN) (.c (eqa oN) (.c (pkt (bool (Zd (term<f.By))) (bool false) oN) (.c (eqa Is) (.c (eqa Is) (.c (eqa Is) (.c (eqa Is) (.c (pkt (bool (Zd (f.known≤known))) (bool false) Is) (.c (eqa N7) (.c (eqa N7) (.c (eqa N7) (.c (show(Zd ((↑j:Int)<0)==false)=true from rfl) (.c (show(Zd ((↑j:Int)<0)==false)=true from rfl) (.c (show(Zd ((↑j:Int)<0)==false)=true from rfl) (.c (show(Zd ((↑j:Int)<0)==false)=true from rfl) (.c hg (.c (show(Zd ((↑j:Int)<0)==false)=true from rfl) (.c (show(Zd ((↑j:Int)<0)==false)=true from rfl) (.c (@rT f g (vq kk ks ko f)) (.c (show(Zd ((↑j:Int)<0)==false)=true from rfl) (.c (eqa N7) (.c (pkf (bool true) (bool !befB f g) hj) (.c (pkt (bool !befB f g) (bool false) N7) (.c Ra .n))))))))))))))))))))))))))))))))))) ?_ ?_<;>(first|rfl|(have hk:keyIs kk ks ko f=_:=dO;simp only[mn,hk,hw,oN,Is,N7,Js,cond_true];done))
theorem F4{kk ks ko term known iS:Int}{fs:List (List Dp)}{i:Nat}(iF:Zd ((i:Int)<(fs.length:Int))=false):(CW Hm Γ0 [] false (sub Lr 0) (a7S kk ks ko term known fs iS i) (.exit 0) {t:=mkT 76 0 [(0,ab fs),(8,int 0),(9,bool false),(10,int iS)],h:=[.var [int kk,int ks,int ko]],m:=[]}):=by
 exact zx [.st (.mask [0,8,9,10])] [.b false] (.c iF .n)
def zV(s:Option (Nat×FactT)):Int:=match s with|none => -1|some (j,_)=>(j:Int)
def a7F(kk ks ko term known:Int)(f:FactT)(s:Nat×Option (Nat×FactT)):(Nat×Option (Nat×FactT))⊕Empty :=
 .inl (s.1+1,match s.2 with
  | none=>bif mn kk ks ko term known f then some (s.1,f) else none
  | some (j,g)=>bif mn kk ks ko term known f&&!befB f g then some (s.1,f) else some (j,g))
def a7B(kk ks ko term known:Int)(l:List FactT):Option (Nat×FactT):=match forL (a7F kk ks ko term known) l (0,none) with | .inl s=>s.2 | .inr _=>none
theorem a7_cwl{kk ks ko term known:Int}{l:List FactT}(hl:af l):
  CW Hm Γ0 [] false (.loop (sub Lr 0)) (a7S kk ks ko term known (l.map Hv) (-1) 0) (.exit 0) {t:=mkT 76 0 [(0,ab (l.map Hv)),(8,int 0),(9,bool false),(10,int (zV (a7B kk ks ko term known l)))],h:=[.var [int kk,int ks,int ko]],m:=[]}:=by
 have:=I7 (P:=Hm) (Γ:=Γ0) (h0:=[]) (rd:=false) (c:=sub Lr 0) l (a7F kk ks ko term known) (fun i s=>a7S kk ks ko term known (l.map Hv) (zV s.2) (i:Int)) (.exit 0) (fun s=>{t:=mkT 76 0 [(0,ab (l.map Hv)),(8,int 0),(9,bool false),(10,int (zV s.2))],h:=[.var [int kk,int ks,int ko]],m:=[]}) (fun r=>r.elim)
  (fun i s=>s.1=i∧∀j g,s.2=some (j,g)→l[j]? = some g) (by simp) (fun r=>r.elim) ?_ ?_ (0,none) ⟨rfl,by simp⟩
 ·unfold a7B
  cases h:forL (a7F kk ks ko term known) l (0,none) with
  | inl s=>rw[h] at this;exact this
  | inr r=>exact r.elim
 ·rintro i f ⟨n,s⟩ hf ⟨rfl,hs⟩
  have hi:=(Hs.1 hf).1
  refine⟨fun s' h=>?_,?_⟩
  ·simp only[a7F,Sum.inl.injEq] at h
   subst h
   refine⟨rfl,fun j g hj=>?_⟩
   cases s with
   | none =>
    simp only at hj
    cases hh:mn kk ks ko term known f<;>rw[hh] at hj<;>simp at hj
    obtain⟨rfl,rfl⟩:=hj;exact hf
   | some p =>
    obtain⟨j0,g0⟩:=p
    simp only at hj
    cases hh:mn kk ks ko term known f&&!befB f g0<;>rw[hh] at hj<;>simp at hj
    ·obtain⟨rfl,rfl⟩:=hj;exact hs _ _ rfl
    ·obtain⟨rfl,rfl⟩:=hj;exact hf
  ·cases s with
   | none =>
    have:=a7_b0 (kk:=kk) (ks:=ks) (ko:=ko) (term:=term) (known:=known) (rowAt hf rfl) (lt_len Hv hi) (wrap_succ hi hl)
    simp only[a7F,ah,zV]
    cases hh:mn kk ks ko term known f<;>rw[hh] at this<;>exact this
   | some p =>
    obtain⟨j0,g0⟩:=p
    have:=a7_b1 (kk:=kk) (ks:=ks) (ko:=ko) (term:=term) (known:=known) (j:=j0) (g:=g0) (rowAt hf rfl) (rowAt (hs _ _ rfl) rfl) (by simp) (lt_len Hv hi) (wrap_succ hi hl)
    simp only[a7F,ah,zV]
    cases hh:mn kk ks ko term known f&&!befB f g0<;>rw[hh] at this<;>exact this
 ·rintro⟨n,s⟩ _
  exact F4 (aJ Hv l)
theorem Dq(kk ks ko term known:Int):∀(r l:List FactT) (s:Nat×Option (Nat×FactT)),s.1=l.length→(∀j g,s.2=some (j,g)→(l++r)[j]? = some g) →
  ∀s',forL (a7F kk ks ko term known) r s=.inl s'→∀j g,s'.2=some (j,g)→(l++r)[j]? = some g
 | [],l,s,_,h2,s',h,j,g,hj=>by simp only[forL,Sum.inl.injEq] at h;subst h;exact h2 j g hj
 | f::r,l,s,h1,h2,s',h,j,g,hj=>by
  simp only[forL,a7F] at h
  have:=Dq kk ks ko term known r (l++[f]) _ (by simp[h1]) (fun j g hj=>?_) s' h j g hj
  ·simpa using this
  ·have hf:(l++[f]++r)[s.1]? = some f:=by rw[h1];simp
   have e:l++[f]++r=l++f::r:=by simp
   obtain⟨n,o⟩:=s
   cases o with
   | none =>
    simp only at hj
    cases hh:mn kk ks ko term known f<;>rw[hh] at hj<;>simp at hj
    obtain⟨rfl,rfl⟩:=hj;exact hf
   | some p =>
    obtain⟨j0,g0⟩:=p
    simp only at hj
    cases hh:mn kk ks ko term known f&&!befB f g0<;>rw[hh] at hj<;>simp at hj
    ·obtain⟨rfl,rfl⟩:=hj;rw[e];exact h2 _ _ rfl
    ·obtain⟨rfl,rfl⟩:=hj;exact hf
theorem Dr{kk ks ko term known:Int}{l:List FactT}{p:Nat×FactT}(h:a7B kk ks ko term known l=some p):l[p.1]? = some p.2:=by
 unfold a7B at h
 cases hf:forL (a7F kk ks ko term known) l (0,none) with
 | inr r=>exact r.elim
 | inl s =>
  rw[hf] at h
  exact Dq kk ks ko term known l [] (0,none) rfl (by simp) s hf p.1 p.2 h
theorem zW{kk ks ko term known:Int}{l:List FactT}{p:Nat×FactT}(h:a7B kk ks ko term known l=some p):aj (p.1:Int) (l.map Hv) (l.getD (Hw (p.1:Int)) default).row 8:=by
 have:=Dr h
 rw[show l.getD (Hw (p.1:Int)) default=p.2 by simp[HD,this]]
 exact rowAt this rfl
def a7Fin(kk ks ko:Int)(fs:List (List Dp))(s:Option (Nat×FactT)):Exit×AS:=match s with
 | none=>(.exit 0,{t:=mkT 76 0 [(0,ab fs),(8,int 0),(9,bool false),(10,int (-1))],h:=[.var [int kk,int ks,int ko]],m:=[]})
 | some p=>(.exit 0,{t:=mkT 76 0 [(0,ab fs),(8,int 0),(9,bool false),(10,int (p.1:Int))],h:=[.var [int kk,int ks,int ko]],m:=[]})
theorem a7f_cw{kk ks ko term known:Int}{l:List FactT}(hl:af l):
  CW Hm Γ0 [] false (.loop (sub Lr 0)) (a7S kk ks ko term known (l.map Hv) (-1) 0) (a7Fin kk ks ko (l.map Hv) (a7B kk ks ko term known l)).1 (a7Fin kk ks ko (l.map Hv) (a7B kk ks ko term known l)).2:=by
 have:=a7_cwl (kk:=kk) (ks:=ks) (ko:=ko) (term:=term) (known:=known) hl
 cases h:a7B kk ks ko term known l<;>rw[h] at this<;>exact this
def F5(kk ks ko term known:Int)(l:List FactT):Int×Bool:=match a7B kk ks ko term known l with
 | none=>(0,false)
 | some p=>bif Zd ((l.getD (Hw (p.1:Int)) default).value<0) then (0,false) else ((l.getD (Hw (p.1:Int)) default).value,true)
theorem vr{kk ks ko term known:Int}{l:List FactT}(hl:af l)(h:List Blk):(Ev Hm Γ0 124 [ab (l.map Hv),.agg [int kk,int ks,int ko],int term,int known] h (.tup [int (F5 kk ks ko term known l).1,bool (F5 kk ks ko term known l).2]) h):=by
 have N1:=(@a7f_cw (kk) (ks) (ko) (term) (known) (l) (hl))
 revert N1
 cases O0:a7B kk ks ko term known l with
 | none =>
  intro N1
  exact zD (HV [int 0,bool false]) [.sum [0,2,3,5,8,9,10,11] (HT 0) {t:=mkT 76 0 [(0,ab (Hl Hv l)),(8,int 0),(9,bool false),(10,int (-1))],h:=[.var [int kk,int ks,int ko]],m:=[]},.g false,.g false,.g false,.g false,.g false,.g false,.ov 70 (bool true),.b true] (.c N1 (.c (show(Zd (-1<0)==false)=false from rfl) (.c (show(Zd (-1<0)==false)=false from rfl) (.c (show(Zd (-1<0)==false)=false from rfl) (.c (show(Zd (-1<0)==false)=false from rfl) (.c (show(Zd (-1<0)==false)=false from rfl) (.c (show(Zd (-1<0)==false)=false from rfl) (.c (show cL (bool (Zd (-1<0))) (bool true) (II (JB (Ii {toList:=[]}))) (bool true) from(by rfl)) (.er true .n))))))))) h (by(simp only[F5,O0];done))
 | some o1_1_0 =>
  intro N1
  cases Is:Zd ((HD l (Hw (↑o1_1_0.1:Int)) default).value<0)
  ·refine zD (HV [int (HD l (Hw (↑o1_1_0.1:Int)) default).value,bool true]) [.sum [0,2,3,5,8,9,10,11] (HT 0) {t:=mkT 76 0 [(0,ab (Hl Hv l)),(8,int 0),(9,bool false),(10,int (↑o1_1_0.1:Int))],h:=[.var [int kk,int ks,int ko]],m:=[]},.g true,.g true,.g true,.row [vi (HD l (Hw (↑o1_1_0.1:Int)) default).kind,vi (HD l (Hw (↑o1_1_0.1:Int)) default).sub,vi (HD l (Hw (↑o1_1_0.1:Int)) default).obj,vi (HD l (Hw (↑o1_1_0.1:Int)) default).value,vi (HD l (Hw (↑o1_1_0.1:Int)) default).frm,vi (HD l (Hw (↑o1_1_0.1:Int)) default).By,vi (HD l (Hw (↑o1_1_0.1:Int)) default).known,vi (HD l (Hw (↑o1_1_0.1:Int)) default).no],.g true,.g true,.g true,.ov 70 (bool (Zd ((HD l (Hw (↑o1_1_0.1:Int)) default).value<0))),.b false,.row [vi (HD l (Hw (↑o1_1_0.1:Int)) default).kind,vi (HD l (Hw (↑o1_1_0.1:Int)) default).sub,vi (HD l (Hw (↑o1_1_0.1:Int)) default).obj,vi (HD l (Hw (↑o1_1_0.1:Int)) default).value,vi (HD l (Hw (↑o1_1_0.1:Int)) default).frm,vi (HD l (Hw (↑o1_1_0.1:Int)) default).By,vi (HD l (Hw (↑o1_1_0.1:Int)) default).known,vi (HD l (Hw (↑o1_1_0.1:Int)) default).no]] (.c N1 (.c (show(Zd ((↑o1_1_0.1:Int)<0)==false)=true from rfl) (.c (show(Zd ((↑o1_1_0.1:Int)<0)==false)=true from rfl) (.c (show(Zd ((↑o1_1_0.1:Int)<0)==false)=true from rfl) (.c (show aj (↑o1_1_0.1:Int) (Hl Hv l) [vi (HD l (Hw (↑o1_1_0.1:Int)) default).kind,vi (HD l (Hw (↑o1_1_0.1:Int)) default).sub,vi (HD l (Hw (↑o1_1_0.1:Int)) default).obj,vi (HD l (Hw (↑o1_1_0.1:Int)) default).value,vi (HD l (Hw (↑o1_1_0.1:Int)) default).frm,vi (HD l (Hw (↑o1_1_0.1:Int)) default).By,vi (HD l (Hw (↑o1_1_0.1:Int)) default).known,vi (HD l (Hw (↑o1_1_0.1:Int)) default).no] 8 from ?_) (.c (show(Zd ((↑o1_1_0.1:Int)<0)==false)=true from rfl) (.c (show(Zd ((↑o1_1_0.1:Int)<0)==false)=true from rfl) (.c (show(Zd ((↑o1_1_0.1:Int)<0)==false)=true from rfl) (.c (show cL (bool (Zd ((↑o1_1_0.1:Int)<0))) (bool true) (bool (Zd ((HD l (Hw (↑o1_1_0.1:Int)) default).value<0))) (bool (Zd ((HD l (Hw (↑o1_1_0.1:Int)) default).value<0))) from ?_) (.c Is (.c (show aj (↑o1_1_0.1:Int) (Hl Hv l) [vi (HD l (Hw (↑o1_1_0.1:Int)) default).kind,vi (HD l (Hw (↑o1_1_0.1:Int)) default).sub,vi (HD l (Hw (↑o1_1_0.1:Int)) default).obj,vi (HD l (Hw (↑o1_1_0.1:Int)) default).value,vi (HD l (Hw (↑o1_1_0.1:Int)) default).frm,vi (HD l (Hw (↑o1_1_0.1:Int)) default).By,vi (HD l (Hw (↑o1_1_0.1:Int)) default).known,vi (HD l (Hw (↑o1_1_0.1:Int)) default).no] 8 from ?_) .n))))))))))) h (by(simp only[F5,O0,Is,cond_false];done))<;>(first|rfl|exact zW O0)
  ·refine zD (HV [int 0,bool false]) [.sum [0,2,3,5,8,9,10,11] (HT 0) {t:=mkT 76 0 [(0,ab (Hl Hv l)),(8,int 0),(9,bool false),(10,int (↑o1_1_0.1:Int))],h:=[.var [int kk,int ks,int ko]],m:=[]},.g true,.g true,.g true,.row [vi (HD l (Hw (↑o1_1_0.1:Int)) default).kind,vi (HD l (Hw (↑o1_1_0.1:Int)) default).sub,vi (HD l (Hw (↑o1_1_0.1:Int)) default).obj,vi (HD l (Hw (↑o1_1_0.1:Int)) default).value,vi (HD l (Hw (↑o1_1_0.1:Int)) default).frm,vi (HD l (Hw (↑o1_1_0.1:Int)) default).By,vi (HD l (Hw (↑o1_1_0.1:Int)) default).known,vi (HD l (Hw (↑o1_1_0.1:Int)) default).no],.g true,.g true,.g true,.ov 70 (bool (Zd ((HD l (Hw (↑o1_1_0.1:Int)) default).value<0))),.b true] (.c N1 (.c (show(Zd ((↑o1_1_0.1:Int)<0)==false)=true from rfl) (.c (show(Zd ((↑o1_1_0.1:Int)<0)==false)=true from rfl) (.c (show(Zd ((↑o1_1_0.1:Int)<0)==false)=true from rfl) (.c (show aj (↑o1_1_0.1:Int) (Hl Hv l) [vi (HD l (Hw (↑o1_1_0.1:Int)) default).kind,vi (HD l (Hw (↑o1_1_0.1:Int)) default).sub,vi (HD l (Hw (↑o1_1_0.1:Int)) default).obj,vi (HD l (Hw (↑o1_1_0.1:Int)) default).value,vi (HD l (Hw (↑o1_1_0.1:Int)) default).frm,vi (HD l (Hw (↑o1_1_0.1:Int)) default).By,vi (HD l (Hw (↑o1_1_0.1:Int)) default).known,vi (HD l (Hw (↑o1_1_0.1:Int)) default).no] 8 from ?_) (.c (show(Zd ((↑o1_1_0.1:Int)<0)==false)=true from rfl) (.c (show(Zd ((↑o1_1_0.1:Int)<0)==false)=true from rfl) (.c (show(Zd ((↑o1_1_0.1:Int)<0)==false)=true from rfl) (.c (show cL (bool (Zd ((↑o1_1_0.1:Int)<0))) (bool true) (bool (Zd ((HD l (Hw (↑o1_1_0.1:Int)) default).value<0))) (bool (Zd ((HD l (Hw (↑o1_1_0.1:Int)) default).value<0))) from ?_) (.c Is .n)))))))))) h (by(simp only[F5,O0,Is,cond_true];done))<;>(first|rfl|exact zW O0)
theorem fP{kk ks ko term:Int}(h:List Blk):(Ev Hm Γ0 128 [.agg [int kk,int ks,int ko],int term] h (.agg [int kk,int ks,int ko,int term,int (Hp.wrap (term+1))]) h):=by
 exact z0 [] .n h
def CourseT.small(c:CourseT):Prop:=c.oF.size≤1048576∧c.Bv.size≤1048576
noncomputable abbrev bw(c:CourseT):List Blk:=[.var [au c.name,int c.number,int c.bY,int c.rep,int (Hr c.oF).op,int (Hr c.oF).c,au (Hr c.oF).nm,int (Hr c.oF).n,int (Hr c.oF).d,ab (Hr c.oF).ks,int (Hr c.Bv).op,int (Hr c.Bv).c,au (Hr c.Bv).nm,int (Hr c.Bv).n,int (Hr c.Bv).d,ab (Hr c.Bv).ks]]
theorem iC{c:CourseT}(hc:c.ok)(hs:c.small)(h:List Blk):(Ev Hm Γ0 133 [ag c.row] h (bool (bX c)) h):=by
 refine z0 [.val (bool (Zd (c.number≥0)&&Zd (c.number≤4095))),.val (bool (Zd (c.bY≥1)&&Zd (c.bY≤60))),.val (bool (Zd (c.rep≥0)&&Zd (c.rep≤2))),.val (int (cA (Mm c.oF))),.val (int (cA (Mm c.Bv)))] (.c (@ce (c.number) 0 4095 (bw c)) (.c (gd (Zd (c.number≥0)&&Zd (c.number≤4095)) (@ce (c.bY) 1 60 (bw c))) (.c (gd (Zd (c.number≥0)&&Zd (c.number≤4095)&&(Zd (c.bY≥1)&&Zd (c.bY≤60))) (@ce (c.rep) 0 2 (bw c))) (.c (gd (Zd (c.number≥0)&&Zd (c.number≤4095)&&(Zd (c.bY≥1)&&Zd (c.bY≤60))&&(Zd (c.rep≥0)&&Zd (c.rep≤2))) (@nU (c.oF) ?_ ?_ (bw c))) (.c (gd (Zd (c.number≥0)&&Zd (c.number≤4095)&&(Zd (c.bY≥1)&&Zd (c.bY≤60))&&(Zd (c.rep≥0)&&Zd (c.rep≤2))&&cA (Mm c.oF)==0) (@nU (c.Bv) ?_ ?_ (bw c))) .n))))) h<;>(first|exact hc.1|exact hc.2|exact hs.1|exact hs.2)
theorem Ds{l:List CourseT}{v n:Int}{b:Bool}(Qj:Hp.wrap (((l.map Hz).length:Int) - 1)=(l.length:Int) - 1):
  (!b||!(Zd (v≥0)&&Zd (v≤Hp.wrap (((l.map Hz).length:Int) - 1)))||(!((l.getD v.toNat default).number==n))||!bX (l.getD v.toNat default))=j7 l (cg n) (v,b):=by
 unfold j7 cg
 rw[Qj]
 have e1:Zd (v<0) = !Zd (v≥0):=by by_cases h:v≥0<;>simp[h]<;>omega
 have e2:Zd (v≥(l.length:Int)) = !Zd (v≤(l.length:Int) - 1):=by by_cases h:v≤(l.length:Int) - 1<;>simp[h]<;>omega
 simp only[e1,e2]
 cases b<;>cases Zd (v≥0)<;>cases Zd (v≤(l.length:Int) - 1)<;>simp
noncomputable abbrev wM(w:WorldT):List Blk:=[.var [ab (Hl Hz w.c),ab w.p,ab (Hl HC w.s),ab (Hl Hv w.f)],.var [au {data:=#[]},int 0,int 0,int 0,int 0,int 0,au {data:=#[]},int 0,int 0,nq,int 0,int 0,au {data:=#[]},int 0,int 0,nq]]
theorem F6{w:WorldT}{n term known:Int}(ht:(!(Zd (term≥0)&&Zd (term≤1023)))=true)(h:List Blk):(Ev Hm Γ0 76 [.agg w.l,int n,int term,int known] h (.tup [ag LD.row,ab [],bool false]) h):=by
 exact H4 (Ev.nilW (z0 (d:=HV [H6 [au {data:=#[]},int 0,int 0,int 0,int 0,int 0,au {data:=#[]},int 0,int 0,nq,int 0,int 0,au {data:=#[]},int 0,int 0,nq],nq,bool false]) [.val (bool (Zd (term≥0)&&Zd (term≤1023))),.b true] (.c (@ce term 0 1023 (wM w)) (.c ht .n)) h)) (by rfl) (by rfl)
noncomputable abbrev dG(w:WorldT)(n:Int):List Blk:=[.var [ab (Hl Hz w.c),ab w.p,ab (Hl HC w.s),ab (Hl Hv w.f)],.var [au {data:=#[]},int 0,int 0,int 0,int 0,int 0,au {data:=#[]},int 0,int 0,nq,int 0,int 0,au {data:=#[]},int 0,int 0,nq],.var [int 1,int n,int 0],.gone]
noncomputable abbrev nV(w:WorldT)(n:Int):List Blk:=[.var [ab (Hl Hz w.c),ab w.p,ab (Hl HC w.s),ab (Hl Hv w.f)],.var [au {data:=#[]},int 0,int 0,int 0,int 0,int 0,au {data:=#[]},int 0,int 0,nq,int 0,int 0,au {data:=#[]},int 0,int 0,nq],.var [int 1,int n,int 0]]
noncomputable abbrev nW(w:WorldT):List Blk:=[.var [ab (Hl Hz w.c),ab w.p,ab (Hl HC w.s),ab (Hl Hv w.f)],.var [au {data:=#[]},int 0,int 0,int 0,int 0,int 0,au {data:=#[]},int 0,int 0,nq,int 0,int 0,au {data:=#[]},int 0,int 0,nq]]
theorem F7{w:WorldT}{n term known v:Int}{b:Bool}(ht:(!(Zd (term≥0)&&Zd (term≤1023)))=false)(Ps:∀h,Ev Hm Γ0 124 [ab (w.f.map Hv),.agg [int 1,int n,int 0],int term,int known] h (.tup [int v,bool b]) h)(hs:∀x∈w.c,x.ok)(Si:∀x∈w.c,x.small)(Qj:Hp.wrap (((w.c.map Hz).length:Int) - 1)=(w.c.length:Int) - 1)
  (hd1:(w.c.getD v.toNat default).ok) (Oo:(w.c.getD v.toNat default).small) (h:List Blk):(Ev Hm Γ0 76 [.agg w.l,int n,int term,int known] h (.tup [ag (j8 w.c (cg n) LD (v,b)).1.row,ab (s9 1 n 0 term (Hp.wrap (term+1))),bool (j8 w.c (cg n) LD (v,b)).2]) h):=by
 cases dO:!b||!(Zd (v≥0)&&Zd (v≤Ht Hp ((↑(Hn (Hl Hz w.c)):Int) - 1)))||(HD w.c (Hw v) default).number != n||!bX (HD w.c (Hw v) default)
 ·let v0:=HD w.c (Hw v) default
  let v1:=Hl Hz w.c
  let v2:List D:=[int 1,int n,int 0,int term,int (Ht Hp (term+1))]
  refine H4 (Ev.nilW (z0 (d:=HV [H6 [au v0.name,int v0.number,int v0.bY,int v0.rep,int (Hr v0.oF).op,int (Hr v0.oF).c,au (Hr v0.oF).nm,int (Hr v0.oF).n,int (Hr v0.oF).d,ab (Hr v0.oF).ks,int (Hr v0.Bv).op,int (Hr v0.Bv).c,au (Hr v0.Bv).nm,int (Hr v0.Bv).n,int (Hr v0.Bv).d,ab (Hr v0.Bv).ks],ab [[vi 1,vi n,vi 0,vi term,vi (Ht Hp (term+1))]],bool true]) [.val (bool (Zd (term≥0)&&Zd (term≤1023))),.b false,.val (H6 v2),.st (.frz 3 (s9 1 n 0 term (Ht Hp (term+1)))),.val (HV [int v,bool b]),.val (bool (Zd (v≥0)&&Zd (v≤Ht Hp ((↑(Hn v1):Int) - 1)))),.row [vs v0.name,vi v0.number,vi v0.bY,vi v0.rep,vi (Hr v0.oF).op,vi (Hr v0.oF).c,vs (Hr v0.oF).nm,vi (Hr v0.oF).n,vi (Hr v0.oF).d,Jz (Hr v0.oF).ks,vi (Hr v0.Bv).op,vi (Hr v0.Bv).c,vs (Hr v0.Bv).nm,vi (Hr v0.Bv).n,vi (Hr v0.Bv).d,Jz (Hr v0.Bv).ks],.row [vs v0.name,vi v0.number,vi v0.bY,vi v0.rep,vi (Hr v0.oF).op,vi (Hr v0.oF).c,vs (Hr v0.oF).nm,vi (Hr v0.oF).n,vi (Hr v0.oF).d,Jz (Hr v0.oF).ks,vi (Hr v0.Bv).op,vi (Hr v0.Bv).c,vs (Hr v0.Bv).nm,vi (Hr v0.Bv).n,vi (Hr v0.Bv).d,Jz (Hr v0.Bv).ks],.val (bool (bX v0)),.b false,.row [vs v0.name,vi v0.number,vi v0.bY,vi v0.rep,vi (Hr v0.oF).op,vi (Hr v0.oF).c,vs (Hr v0.oF).nm,vi (Hr v0.oF).n,vi (Hr v0.oF).d,Jz (Hr v0.oF).ks,vi (Hr v0.Bv).op,vi (Hr v0.Bv).c,vs (Hr v0.Bv).nm,vi (Hr v0.Bv).n,vi (Hr v0.Bv).d,Jz (Hr v0.Bv).ks]] (.c (@ce term 0 1023 (nW w)) (.c ht (.c (@fP 1 n 0 term (nV w n)) (.er [v2] (.c (@Ps (dG w n)) (.c (gd (!!b) (@ce v 0 (Ht Hp ((↑(Hn v1):Int) - 1)) (dG w n))) (.c (show(!(!b||!(Zd (v≥0)&&Zd (v≤Ht Hp ((↑(Hn v1):Int) - 1)))))=true→aj v v1 [vs v0.name,vi v0.number,vi v0.bY,vi v0.rep,vi (Hr v0.oF).op,vi (Hr v0.oF).c,vs (Hr v0.oF).nm,vi (Hr v0.oF).n,vi (Hr v0.oF).d,Jz (Hr v0.oF).ks,vi (Hr v0.Bv).op,vi (Hr v0.Bv).c,vs (Hr v0.Bv).nm,vi (Hr v0.Bv).n,vi (Hr v0.Bv).d,Jz (Hr v0.Bv).ks] 16 from(fun hg=>?_)) (.c (show(!(!b||!(Zd (v≥0)&&Zd (v≤Ht Hp ((↑(Hn v1):Int) - 1)))||v0.number != n))=true→aj v v1 [vs v0.name,vi v0.number,vi v0.bY,vi v0.rep,vi (Hr v0.oF).op,vi (Hr v0.oF).c,vs (Hr v0.oF).nm,vi (Hr v0.oF).n,vi (Hr v0.oF).d,Jz (Hr v0.oF).ks,vi (Hr v0.Bv).op,vi (Hr v0.Bv).c,vs (Hr v0.Bv).nm,vi (Hr v0.Bv).n,vi (Hr v0.Bv).d,Jz (Hr v0.Bv).ks] 16 from(fun hg=>?_)) (.c (gd (!(!b||!(Zd (v≥0)&&Zd (v≤Ht Hp ((↑(Hn v1):Int) - 1)))||v0.number != n)) (@iC v0 hd1 Oo (dG w n))) (.c dO (.c (show aj v v1 [vs v0.name,vi v0.number,vi v0.bY,vi v0.rep,vi (Hr v0.oF).op,vi (Hr v0.oF).c,vs (Hr v0.oF).nm,vi (Hr v0.oF).n,vi (Hr v0.oF).d,Jz (Hr v0.oF).ks,vi (Hr v0.Bv).op,vi (Hr v0.Bv).c,vs (Hr v0.Bv).nm,vi (Hr v0.Bv).n,vi (Hr v0.Bv).d,Jz (Hr v0.Bv).ks] 16 from ?_) .n))))))))))) h)) (by subst v0 v1 v2;(have hb:j7 w.c (cg n) (v,b)=false:=(Ds Qj).symm.trans dO;simp only[j8,hb];rfl)) (by rfl)<;>subst v0 v1 v2<;>(refine cj (fun _=>rfl) ?_ ?_<;>simp only[Qj,I6,Kf,IU,Hx,decide_eq_true_eq] at * <;> omega)
 ·let v0:=HD w.c (Hw v) default
  let v1:=Hn (Hl Hz w.c)
  let v2:List D:=[int 1,int n,int 0,int term,int (Ht Hp (term+1))]
  refine H4 (Ev.nilW (z0 (d:=HV [H6 [au {data:=#[]},int 0,int 0,int 0,int 0,int 0,au {data:=#[]},int 0,int 0,nq,int 0,int 0,au {data:=#[]},int 0,int 0,nq],ab [[vi 1,vi n,vi 0,vi term,vi (Ht Hp (term+1))]],bool false]) [.val (bool (Zd (term≥0)&&Zd (term≤1023))),.b false,.val (H6 v2),.st (.frz 3 (s9 1 n 0 term (Ht Hp (term+1)))),.val (HV [int v,bool b]),.val (bool (Zd (v≥0)&&Zd (v≤Ht Hp ((↑v1:Int) - 1)))),.row [vs v0.name,vi v0.number,vi v0.bY,vi v0.rep,vi (Hr v0.oF).op,vi (Hr v0.oF).c,vs (Hr v0.oF).nm,vi (Hr v0.oF).n,vi (Hr v0.oF).d,Jz (Hr v0.oF).ks,vi (Hr v0.Bv).op,vi (Hr v0.Bv).c,vs (Hr v0.Bv).nm,vi (Hr v0.Bv).n,vi (Hr v0.Bv).d,Jz (Hr v0.Bv).ks],.row [vs v0.name,vi v0.number,vi v0.bY,vi v0.rep,vi (Hr v0.oF).op,vi (Hr v0.oF).c,vs (Hr v0.oF).nm,vi (Hr v0.oF).n,vi (Hr v0.oF).d,Jz (Hr v0.oF).ks,vi (Hr v0.Bv).op,vi (Hr v0.Bv).c,vs (Hr v0.Bv).nm,vi (Hr v0.Bv).n,vi (Hr v0.Bv).d,Jz (Hr v0.Bv).ks],.val (bool (bX v0)),.b true] (.c (@ce term 0 1023 (nW w)) (.c ht (.c (@fP 1 n 0 term (nV w n)) (.er [v2] (.c (@Ps (dG w n)) (.c (gd (!!b) (@ce v 0 (Ht Hp ((↑v1:Int) - 1)) (dG w n))) (.c (show(!(!b||!(Zd (v≥0)&&Zd (v≤Ht Hp ((↑v1:Int) - 1)))))=true→aj v (Hl Hz w.c) [vs v0.name,vi v0.number,vi v0.bY,vi v0.rep,vi (Hr v0.oF).op,vi (Hr v0.oF).c,vs (Hr v0.oF).nm,vi (Hr v0.oF).n,vi (Hr v0.oF).d,Jz (Hr v0.oF).ks,vi (Hr v0.Bv).op,vi (Hr v0.Bv).c,vs (Hr v0.Bv).nm,vi (Hr v0.Bv).n,vi (Hr v0.Bv).d,Jz (Hr v0.Bv).ks] 16 from(fun hg=>?_)) (.c (show(!(!b||!(Zd (v≥0)&&Zd (v≤Ht Hp ((↑v1:Int) - 1)))||v0.number != n))=true→aj v (Hl Hz w.c) [vs v0.name,vi v0.number,vi v0.bY,vi v0.rep,vi (Hr v0.oF).op,vi (Hr v0.oF).c,vs (Hr v0.oF).nm,vi (Hr v0.oF).n,vi (Hr v0.oF).d,Jz (Hr v0.oF).ks,vi (Hr v0.Bv).op,vi (Hr v0.Bv).c,vs (Hr v0.Bv).nm,vi (Hr v0.Bv).n,vi (Hr v0.Bv).d,Jz (Hr v0.Bv).ks] 16 from(fun hg=>?_)) (.c (gd (!(!b||!(Zd (v≥0)&&Zd (v≤Ht Hp ((↑v1:Int) - 1)))||v0.number != n)) (@iC v0 hd1 Oo (dG w n))) (.c dO .n)))))))))) h)) (by subst v0 v1 v2;(have hb:j7 w.c (cg n) (v,b)=true:=(Ds Qj).symm.trans dO;simp only[j8,hb];rfl)) (by rfl)<;>subst v0 v1 v2<;>(refine cj (fun _=>rfl) ?_ ?_<;>simp only[Qj,I6,Kf,IU,Hx,decide_eq_true_eq,Bool.or_eq_true] at * <;> omega)
theorem F8(f g:FactT):Zd (orI (aU f.known g.known) (aU f.no g.no)≥0) = !befB f g:=by
 have h:orI (aU f.known g.known) (aU f.no g.no)≥0 ↔ ¬(f.known<g.known∨(f.known=g.known∧f.no<g.no)):=by
  unfold orI aU
  repeat' split
  all_goals simp_all
  all_goals omega
 rw[JJ]
 simp only[decide_eq_true_eq,h,befB,IU,I6,Bool.and_eq_false_iff,decide_eq_false_iff_not,beq_eq_false_iff_ne,ne_eq]
 omega
def a7Rel(s:Option (Nat×FactT))(r:FactT×Bool):Prop:=match s with
 | none=>r.2=false
 | some p=>r.2=true∧r.1=p.2
theorem F9{kk ks ko term known:Int}{i:Nat}{s:Option (Nat×FactT)}{r:FactT×Bool}{f:FactT}(h:a7Rel s r):
  ∃s',a7F kk ks ko term known f (i,s)=.inl (i+1,s')∧a7Rel s' (ofGo kk ks ko term known r f):=by
 refine⟨_,rfl,?_⟩
 obtain⟨g,b⟩:=r
 unfold ofGo ofIs bS atHit mn
 cases s with
 | none =>
  simp only[a7Rel] at h
  subst h
  simp only
  cases keyIs kk ks ko f<;>cases Zd (f.frm≤term)<;>cases Zd (term<f.By)<;>cases Zd (f.known≤known)<;>simp[a7Rel]
 | some p =>
  obtain⟨j,q⟩:=p
  simp only[a7Rel] at h
  obtain⟨rfl,rfl⟩:=h
  simp only[F8]
  cases keyIs kk ks ko f<;>cases Zd (f.frm≤term)<;>cases Zd (term<f.By)<;>cases Zd (f.known≤known)<;>cases befB f g<;>simp[a7Rel]
theorem zY{kk ks ko term known:Int}:∀(l:List FactT) (i:Nat) (s:Option (Nat×FactT)) (r:FactT×Bool),a7Rel s r →
  ∃s',forL (a7F kk ks ko term known) l (i,s)=.inl (i+l.length,s')∧a7Rel s' (l.foldl (ofGo kk ks ko term known) r)
 | [],i,s,r,h=>⟨s,rfl,h⟩
 | f::l,i,s,r,h=>by
  obtain⟨s1,e1,h1⟩:=F9 (kk:=kk) (ks:=ks) (ko:=ko) (term:=term) (known:=known) (i:=i) (f:=f) h
  obtain⟨s2,e2,h2⟩:=zY l (i+1) s1 _ h1
  refine⟨s2,?_,h2⟩
  simp only[forL,e1,e2,List.length_cons]
  congr 2
  omega
theorem vt{kk ks ko term known:Int}{l:List FactT}:F5 kk ks ko term known l=atR kk ks ko term known l:=by
 obtain⟨s,e,h⟩:=zY (kk:=kk) (ks:=ks) (ko:=ko) (term:=term) (known:=known) l 0 none (fz,false) rfl
 have hb:a7B kk ks ko term known l=s:=by unfold a7B;rw[e]
 unfold F5 atR
 rw[hb]
 cases s with
 | none =>
  simp only[a7Rel] at h
  simp only[h];rfl
 | some p =>
  simp only[a7Rel] at h
  have hp:=Dr hb
  have hg:l.getD p.1 default=p.2:=by simp[HD,hp]
  simp only[Int.toNat_natCast,hg,h.1,h.2]
  cases Zd (p.2.value<0)<;>rfl
theorem tG{w:WorldT}(hw:w.ok)(hs:∀x∈w.c,x.small){n term known:Int}(h:List Blk):Ev Hm Γ0 76 [.agg w.l,int n,int term,int known] h (.tup [ag (ac w n term known).1.row,ab (jR 1 n 0 term),bool (ac w n term known).2]) h:=by
 unfold ac jR
 cases ht:outB term with
 | true=>exact F6 ht h
 | false =>
  have hlc:=hw.lc
  unfold af at hlc
  have hz:∀v:Int,(w.c.getD v.toNat default).ok∧(w.c.getD v.toNat default).small:=by
   intro v
   rw[HD]
   cases hx:w.c[v.toNat]? with
   | none=>exact⟨CourseT.zero_ok,by constructor<;>decide⟩
   | some x=>exact⟨hw.c x (H1 hx),hs x (H1 hx)⟩
  exact F7 ht (fun h=>by have:=vr (kk:=1) (ks:=n) (ko:=0) (term:=term) (known:=known) hw.sf h;rw[vt] at this;exact this) hw.c hs (by rw[Ir,wrap_i64 (by omega) (by omega)]) (hz _).1 (hz _).2 h
open Go.ChangeShapes Go.WideShapes Go.ChangeAt Go.RowKit Go.Proofs.YtilebidefogaiaaGreatDoor
set_option maxRecDepth 100000
mutual
def Dp.wt:Dp→Nat
 | .sl es=>wtR es
 | .v _=>0
def wtL:List Dp→Nat
 | []=>0
 | d::ds=>d.wt+wtL ds
def wtR:List (List Dp)→Nat
 | []=>0
 | r::rs=>1+wtL r+wtR rs
end
theorem zZ:∀(a b:List Dp),wtL (a++b)=wtL a+wtL b
 | [],b=>by simp[wtL]
 | d::a,b=>by simp only[List.cons_append,wtL,zZ a b];omega
theorem z6:∀{rs:List (List Dp)},∀r∈rs,1+wtL r≤wtR rs
 | a::rs,r,hr=>by
  simp only[wtR]
  rcases HR.1 hr with rfl|hr
  ·omega
  ·have:=z6 r hr;omega
theorem Dt{H:Type}:∀(rs:List (List Dp)) (ds:List (DataW H)),rs.length=ds.length→(∀(i:Nat) r d,rs[i]? = some r→ds[i]? = some d→wtL r+1≤IV d)→wtR rs≤JZ ds
 | [],_,_,_=>by simp[wtR]
 | r::rs,[],h,_=>by simp at h
 | r::rs,d::ds,h,hb=>by
  have h1:=hb 0 r d rfl rfl
  have h2:=Dt rs ds (by simpa using h) fun i r d hr hd=>hb (i+1) r d (by simpa using hr) (by simpa using hd)
  simp only[wtR,JZ]
  omega
section
variable {w:World} {av:Nat→Prop} {P:Program}
theorem jV{cs:List Value}{S:TypeId→List Dp→Prop}{H:Type}{total:Nat}(hc:cs.length=total):∀(fs:List Field) (xs:List (DataW H)) (acc:Nat),bW P fs acc total=true →
  (∀(i:Nat) f,fs[i]? = some f→∃ds x,xs[i]? = some x∧S f.type ds∧RelPL w av ds ((cs.drop f.offset).take (P.cellsOf f.type))∧wtL ds+1≤IV x) →
  ∃D,RelPL w av D (cs.drop acc)∧(∀f∈fs,S f.type ((D.drop (f.offset - acc)).take (P.cellsOf f.type)))∧wtL D≤JZ xs
 | [],xs,acc,h,_=>by
  simp only[bW,beq_iff_eq] at h
  refine⟨[],?_,by simp,by simp[wtL]⟩
  rw[List.drop_of_length_le (by omega)]
  trivial
 | f::fs,xs,acc,h,hf=>by
  simp only[bW,Hx,beq_iff_eq] at h
  obtain⟨rfl,h⟩:=h
  obtain⟨ds,x,hx,hs,hr,hb⟩:=hf 0 f rfl
  obtain⟨y,ys,rfl⟩:∃y ys,xs=y::ys:=by cases xs with
   | nil=>simp at hx
   | cons y ys=>exact⟨y,ys,rfl⟩
  obtain rfl:y=x:=by simpa using hx
  obtain⟨D,hD,hS,hB⟩:=jV hc fs ys _ h fun i g hg=>hf (i+1) g (by simpa using hg)
  obtain⟨hle,hoff⟩:=ln h
  have hlen:ds.length=P.cellsOf f.type:=by
   have:=hr.length
   rw[this,List.length_take,List.length_drop]
   omega
  refine⟨ds++D,?_,fun g hg=>?_,by rw[zZ];simp only[JZ];omega⟩
  ·have:=hr.append hD
   rw[←List.drop_drop,List.take_append_drop] at this
   exact this
  ·rcases HR.1 hg with rfl|hg
   ·rw[Nat.sub_self,La,List.take_append_of_le_length (by omega),←hlen,List.take_length]
    exact hs
   ·have h1:=hoff g hg
    have hd:∀k,(ds++D).drop (ds.length+k)=D.drop k:=fun k=>by rw[List.drop_append];simp
    rw[show g.offset - f.offset=ds.length+(g.offset - (f.offset+P.cellsOf f.type)) by omega,hd]
    exact hS g hg
theorem tH{H:Type}{enc:TypeId×Value→H}{spare:Nat→Bool}{ts:List TypeId}(hts:qM P ts=true)(Qc:∀k,¬av k):
  ∀(fuel:Nat) (t:TypeId) (cs:List Value) (d:DataW H) (ps:List MemPlace),t∈ts→DataW.trod enc P w 0 spare true fuel t cs=some (d,ps)→(d.weights P t).all (· ≤ reachBytes)=true →
   ∃ds,Shp P fuel t ds∧RelPL w av ds cs∧wtL ds+1≤IV d:=by
 intro fuel
 induction fuel with
 | zero=>intro t cs d ps _ h;simp[DataW.trod] at h
 | succ n ih =>
  intro t cs d ps ht h hw
  have hp:=uB hts ht
  split at hp
  ·rename_i hu
   obtain⟨b,rfl,hx⟩:=DataW.trod_bool hu h
   simp only[Hu] at hx
   obtain⟨rfl,_⟩:=hx
   exact⟨[.v (.bool b)],by simp only[Shp,hu];exact⟨b,rfl⟩,by simp[RelPL,RelP],by simp[wtL,Dp.wt,IV]⟩
  ·rename_i k hu
   obtain⟨x,rfl,hx,Qz⟩:=DataW.trod_int hu h
   simp only[Hu] at hx
   obtain⟨rfl,_⟩:=hx
   exact⟨[.v (.int k x)],by simp only[Shp,hu];exact⟨x,rfl,Qz⟩,by simp[RelPL,RelP],by simp[wtL,Dp.wt,IV]⟩
  ·rename_i hu
   obtain⟨s,rfl,hx,_⟩:=DataW.trod_string hu h
   simp only[Hu] at hx
   obtain⟨rfl,_⟩:=hx
   have hs:s.size≤reachBytes:=by
    simp only[K2,JV,List.all_nil,Bool.and_true,decide_eq_true_eq,Array.length_toList] at hw
    exact hw
   exact⟨[.v (.string s)],by simp only[Shp,hu];exact⟨s,rfl,hs⟩,by simp[RelPL,RelP],by simp[wtL,Dp.wt,IV]⟩
  ·rename_i e hu
   simp only[Hx,decide_eq_true_eq,JX] at hp
   obtain⟨he,Qh⟩:=hp
   rcases DataW.trod_slice hu h with ⟨rfl,hx⟩|⟨a,len,cap,elems,rest,m,hm,rfl,hx,_,hle,_,hlen,hel,_⟩
   ·simp only[Hu] at hx
    obtain⟨rfl,_⟩:=hx
    refine⟨[.sl []],by simp only[Shp,hu];exact⟨[],rfl,by simp,by simp⟩,?_,by simp[wtL,wtR,Dp.wt,IV]⟩
    simp only[RelPL,RelP,and_true]
    exact .inl ⟨trivial,none,0,rfl,fun _=>rfl⟩
   ·obtain rfl:n=m:=by omega
    simp only[Hu] at hx
    obtain⟨rfl,_⟩:=hx
    simp only[K2,hu,JV,List.all_append,Hx,decide_eq_true_eq,Ir] at hw
    obtain⟨Qj,hw2,_⟩:=hw
    have key:∀i,i<len→∃ds ys,Shp P n e ds∧RelPL w av ds ys∧w.cells? 0 (a.add (i*P.cellsOf e)) (P.cellsOf e)=some ys∧∀x,elems[i]? = some x→wtL ds+1≤IV x.1:=by
     intro i hi
     have h1:=hel i hi
     have h2:elems[i]? = some elems[i]:=HH (by omega)
     generalize elems[i]=x at h2
     rw[h2] at h1
     obtain⟨ys,h3,h4⟩:=Option.bind_eq_some_iff.1 h1
     obtain⟨dx,px⟩:=x
     obtain⟨ds,h5,h6,h7⟩:=ih e ys dx px he h4 (eh hw2 dx (HQ.2 ⟨(dx,px),H1 h2,rfl⟩))
     exact⟨ds,ys,h5,h6,h3,fun x hx=>by rw[h2] at hx;cases hx;exact h7⟩
    obtain⟨f,hf⟩:∃f:Nat→List Dp,∀i,i<len→∃ys,Shp P n e (f i)∧RelPL w av (f i) ys∧w.cells? 0 (a.add (i*P.cellsOf e)) (P.cellsOf e)=some ys∧∀x,elems[i]? = some x→wtL (f i)+1≤IV x.1:=by
     classical
     refine⟨fun i=>if hi:i<len then Classical.choose (key i hi) else [],fun i hi=>?_⟩
     simp only[dif_pos hi]
     exact Classical.choose_spec (key i hi)
    refine⟨[.sl ((List.range len).map f)],?_,?_,?_⟩
    ·simp only[Shp,hu]
     refine⟨_,rfl,?_,?_⟩
     ·simp only[Ir,List.length_range]
      have:len*P.bytesOf e≤(elems.length+rest.length)*P.bytesOf e:=Nat.mul_le_mul_right _ (by omega)
      omega
     ·intro r hr
      obtain⟨i,hi,rfl⟩:=HQ.1 hr
      obtain⟨ys,h1,_⟩:=hf i (by simpa using hi)
      exact h1
    ·simp only[RelPL,RelP,and_true]
     by_cases h0:len=0
     ·subst h0
      exact .inl ⟨by simp,some a,cap,rfl,by simp⟩
     ·have hsp:a.spot=none:=by
       obtain⟨ys,_,_,h3,_⟩:=hf 0 (by omega)
       obtain⟨h4,h5⟩:=kj h3
       have h6:ys[0]? = some ys[0]:=HH (by omega)
       have h7:=h5 0 _ h6
       simp only[Nat.zero_mul,Addr.add,if_true] at h7
       unfold World.cell? at h7
       split at h7
       ·split at h7
        ·simp at h7
        ·rename_i hns
         cases hs:a.spot with
         | none=>rfl
         | some _=>simp[hs] at hns
       ·simp at h7
      obtain⟨bV,off,sp⟩:=a
      simp only at hsp
      subst hsp
      refine .inr ⟨bV,off,cap,P.cellsOf e,by simp,by simpa using hle,i6 _ _ fun i r hr=>?_⟩
      simp only[IQ,Hy] at hr
      obtain⟨j,hj,rfl⟩:=hr
      rw[Hs] at hj
      obtain⟨hj1,hj2⟩:=hj
      simp only[Ny] at hj2
      subst hj2
      obtain⟨ys,h1,h2,h3,_⟩:=hf i (by simpa using hj1)
      obtain⟨h4,h5⟩:=kj h3
      refine⟨by rw[h2.length,h4],gE Qc _ _ _ h2 fun k y hy=>?_⟩
      have:=h5 k y hy
      have e1:(((⟨bV,off,none⟩:Addr).add (i*P.cellsOf e)).add k)=⟨bV,off+i*P.cellsOf e+k,none⟩:=by
       rw[b9,b9]
      rwa[e1] at this
    ·have:=Dt ((List.range len).map f) (elems.map (·.1)) (by simp[hlen]) fun i r d hr hd=>by
      simp only[IQ,Hy] at hr hd
      obtain⟨j,hj,rfl⟩:=hr
      obtain⟨x,hx,rfl⟩:=hd
      obtain⟨hj1,hj2⟩:=Hs.1 hj
      simp only[Ny] at hj2
      subst hj2
      obtain⟨ys,_,_,_,h4⟩:=hf i (by simpa using hj1)
      exact h4 x hx
     simp only[wtL,Dp.wt,IV]
     omega
  ·rename_i fs hu
   simp only[Hx,List.all_eq_true,JX] at hp
   obtain⟨hc,hfs⟩:=hp
   obtain⟨xs,m,hm,hx,hlen,Se,hel⟩:=DataW.trod_struct hu h
   obtain rfl:n=m:=by omega
   simp only[Hu] at hx
   obtain⟨rfl,_⟩:=hx
   simp only[K2,hu] at hw
   have key:∀(i:Nat) f,fs.toList[i]? = some f→∃ds x,(xs.map (·.1))[i]? = some x∧Shp P n f.type ds∧RelPL w av ds ((cs.drop f.offset).take (P.cellsOf f.type))∧wtL ds+1≤IV x:=by
    intro i f hi
    have hf:f∈fs.toList:=H1 hi
    have Qo:fs[i]? = some f:=by rw[←Array.getElem?_toList];exact hi
    have hil:i<xs.length:=by
     rw[Se]
     have:=(Array.getElem?_eq_some_iff.1 Qo).1
     exact this
    have h1:=hel i f Qo
    have h2:xs[i]? = some xs[i]:=HH hil
    generalize xs[i]=x at h2
    rw[h2] at h1
    obtain⟨dx,px⟩:=x
    obtain⟨ds,g1,g2,g3⟩:=ih f.type _ dx px (hfs f hf) h1 (b5 hw i f.type dx (by simp[hi]) (by simp[h2]))
    exact⟨ds,dx,by simp[h2],g1,g2,g3⟩
   obtain⟨D,hD,hS,hB⟩:=jV hlen fs.toList (xs.map (·.1)) 0 hc key
   rw[La] at hD
   refine⟨D,?_,hD,by simp only[IV];omega⟩
   simp only[Shp,hu]
   refine⟨by rw[hD.length,hlen],fun f hf=>?_⟩
   have:=hS f hf
   rwa[Nat.sub_zero] at this
  ·simp at hp
end
mutual
theorem tI:∀r:RuleT,r.size=1+wtL r.row
 | .mk _ _ _ _ _ ks=>by simp only[RuleT.size,Ku,wtL,Dp.wt,vu ks];omega
theorem vu:∀ks:List RuleT,N5 ks=wtR (c7 ks)
 | []=>rfl
 | k::ks=>by simp only[N5,c7,wtR,vu ks,tI k]
end
theorem Ct{w:WorldT}{ds:List Dp}(h:ds.map .p=w.l){n:Nat}(hn:wtL ds+1≤n)(hb:n≤1048576):∀x∈w.c,x.small:=by
 intro x hx
 have e:ds=[.sl (w.c.map Hz),.sl w.p,.sl (w.s.map HC),.sl (w.f.map Hv)]:=by
  have:ds.map II=[Jz (w.c.map Hz),.sl w.p,.sl (w.s.map HC),.sl (w.f.map Hv)].map II:=h
  exact(List.map_inj_right fun a b e=>by cases e;rfl).1 this
 have h1:=z6 x.row (HQ.2 ⟨x,hx,rfl⟩)
 have h2:wtL x.row=wtL x.oF.row+wtL x.Bv.row:=by
  rw[←RuleT.fl_row,←RuleT.fl_row]
  simp only[Hz,RuF.row,wtL,Dp.wt]
  omega
 subst e
 simp only[wtL,Dp.wt] at hn
 have h3:=tI x.oF
 have h4:=tI x.Bv
 exact⟨by omega,by omega⟩
theorem wN{H:Type}{enc:TypeId×Value→H}{W:World}{base:Nat}{v:Value}{d:DataW H}{p:List MemPlace}
  (Oa:Nn Hm W .any base 29 v) (h:DataW.Trod enc Hm W 0 (fun _=>true) true 29 v d p) (hw:(d.weights Hm 29).all (· ≤ reachBytes)=true) (hb:IV d≤1048576) :
  ∃w:WorldT,w.ok0∧Rel W (avs (fun _=>False) (fun _=>none) []) (fun _=>none) [] (.agg w.l) v∧∀x∈w.c,x.small:=by
 unfold Nn at Oa
 rw[Tryz.underlying29] at Oa
 obtain⟨cs,rfl,_,_⟩:=Oa
 obtain⟨fuel,hf⟩:=h
 obtain⟨ds,h1,h2,h3⟩:=tH FR oV fuel 29 _ d p (by decide) hf hw
 obtain⟨w,e,hw0⟩:=zL h1
 refine⟨w,hw0,?_,Ct e h3 hb⟩
 rw[←e]
 simp only[Rel]
 exact⟨cs,rfl,h2.relL⟩
end Go.Vi
open Go Go.Proofs
namespace Go.Vi
set_option maxHeartbeats 4000000
open Go.ChangeShapes Go.WideShapes Go.ChangeAt Go.RowKit Go.Proofs.YtilebidefogaiaaGreatDoor
set_option maxRecDepth 100000
theorem wO{H:Type}{ds gs:List (DataW H)}{d:DataW H}(h:Rows.uptoSmall H (ds++gs)=true)(hd:d∈ds):IV d≤1048576:=by
 have key:∀l:List (DataW H),d∈l→IV d≤JZ l:=by
  intro l
  induction l with
  | nil=>intro h;simp at h
  | cons x l ih =>
   intro h
   simp only[JZ]
   rcases HR.1 h with rfl|h
   ·omega
   ·have:=ih h;omega
 have:=of_decide_eq_true h
 have:=key _ (List.mem_append_left gs hd)
 omega
end Go.Vi
open Go Go.Proofs
namespace Go.Vi
set_option maxRecDepth 100000
set_option maxHeartbeats 4000000
abbrev c15S(as_:List (List Dp))(i:Int):AS:={t:=mkT 16 0 [(0,ab as_),(2,int 0),(3,int i)],h:=[],m:=[]}
abbrev c15E:AS:={t:=mkT 16 0 [],h:=[],m:=[]}
abbrev c15X:Unit→Exit×AS:=fun _=>(.ret,{t:=mkT 16 0 [(2,int 150)],h:=[],m:=[]})
def Ga(a:AttT)(_:Unit):Unit⊕Unit:=bif attB a then .inl () else .inr ()
theorem Cu{as_:List (List Dp)}{a:AttT}{v:Bool}{i:Nat}(hr:aj (i:Int) as_ a.row 5)(iF:Zd ((i:Int)<(as_.length:Int))=true)(hw:Hp.wrap ((i:Int)+1)=((i+1:Nat):Int))(hb:(!v)=false)(hv:∀h,Ev Hm Γ0 80 [ag a.row] h (bool v) h):(CW Hm Γ0 [] false (sub Mt 0) (c15S as_ i) .normal (c15S as_ ((i+1:Nat):Int))):=by
 refine zX {t:=mkT 16 0 [(0,ab as_),(2,int 0),(3,int (Ht Hp ((↑i:Int)+1)))],h:=[],m:=[]} HA [.st (.mask [0,2,3])] [.b true,.row (Hq a),.val (bool v),.b false] (.c iF (.c hr (.c (@hv ([])) (.c hb .n)))) ?_ ?_<;>(first|rfl|(rw[hw]))
theorem z7{as_:List (List Dp)}{a:AttT}{v:Bool}{i:Nat}(hr:aj (i:Int) as_ a.row 5)(iF:Zd ((i:Int)<(as_.length:Int))=true)(hb:(!v)=true)(hv:∀h,Ev Hm Γ0 80 [ag a.row] h (bool v) h):(CW Hm Γ0 [] false (sub Mt 0) (c15S as_ i) .ret {t:=mkT 16 0 [(2,int 150)],h:=[],m:=[]}):=by
 exact zx [.st (.mask [2])] [.b true,.row (Hq a),.val (bool v),.b true] (.c iF (.c hr (.c (@hv ([])) (.c hb .n))))
theorem Cv{as_:List (List Dp)}{i:Nat}(iF:Zd ((i:Int)<(as_.length:Int))=false):(CW Hm Γ0 [] false (sub Mt 0) (c15S as_ i) (.exit 0) c15E):=by
 exact zx [.st (.mask [])] [.b false] (.c iF .n)
theorem attV(a:AttT):attB a=(Zd (a.aT≥0)&&Zd (a.aT<4096)&&Zd (a.term≥0)&&Zd (a.term<1024)&&Zd (a.oR≥0)&&Zd (a.oR≤12)&&Zd (a.tO≥0)&&Zd (a.tO<7)&&Zd (a.bY≥0)&&Zd (a.bY≤60)):=by
 rw[JJ]
 simp only[attB,inB,Hx,decide_eq_true_eq]
 omega
theorem z8(a:AttT)(h:List Blk):Ev Hm Γ0 80 [ag a.row] h (bool (attB a)) h:=by
 rw[attV];exact yy h
def Aa(l:List AttT):Exit×AS:=a8 (.exit 0) (fun _:Unit=>c15E) c15X (forL Ga l ())
theorem c15_cw{l:List AttT}(hl:af l):
  CW Hm Γ0 [] false (.loop (sub Mt 0)) (c15S (l.map Hq) 0) (Aa l).1 (Aa l).2:=by
 refine I7 l Ga (fun i _=>c15S (l.map Hq) (i:Int)) (.exit 0) (fun _=>c15E) c15X (fun _ _=>True) (by simp) (fun _=>by simp[]) ?_ ?_ () trivial
 ·intro i a _ ha _
  have hi:=(Hs.1 ha).1
  refine⟨fun _ _=>trivial,?_⟩
  have hv:=z8 a
  unfold Ga
  cases hb:attB a
  ·rw[hb] at hv
   exact z7 (rowAt ha rfl) (lt_len Hq hi) rfl hv
  ·rw[hb] at hv
   exact Cu (rowAt ha rfl) (lt_len Hq hi) (wrap_succ hi hl) rfl hv
 ·intro _ _
  exact Cv (aJ Hq l)
def Ab(l:List AttT):Int:=match forL Ga l () with | .inl _=>0 | .inr _=>150
theorem nX{l:List AttT}(hl:af l)(h:List Blk):(Ev Hm Γ0 130 [ab (l.map Hq)] h (int (Ab l)) h):=by
 have N1:=(@c15_cw (l) (hl))
 unfold Aa at N1
 revert N1
 cases O0:forL Ga l () with
 | inl o1_0_0 =>
  intro N1
  exact zD (int 0) [.sum [0,2,3] (HT 0) {t:=mkT 16 0 [],h:=[],m:=[]}] (.c N1 .n) h (by simp only[Ab,O0])
 | inr o1_1_0 =>
  intro N1
  exact zD (int 150) [.sum [0,2,3] (IB) {t:=mkT 16 0 [(2,int 150)],h:=[],m:=[]}] (.c N1 .n) h (by simp only[Ab,O0])
theorem vv(l:List AttT):Ab l=bQ l:=by
 have key:∀l:List AttT,forL Ga l ()=bif l.any (fun a=>!attB a) then .inr () else .inl ():=by
  intro l
  induction l with
  | nil=>rfl
  | cons a l ih =>
   simp only[forL,Ga,Nm]
   cases attB a
   ·rfl
   ·simpa using ih
 unfold Ab bQ
 rw[key]
 cases l.any fun a=>!attB a<;>rfl
end Go.Vi
