/- LedgerPutSpec: part of the proof: contracts of the functions that the law reaches, and the law. No conditions beyond the given statement's own. -/
import Derived.Test.YtoincdhjcahadaaGreatDoorW1
import Derived.WalkKit
import Derived.LaidEql
import Derived.Stop.Asserts
import Derived.RowKitTokens
open Decidable renaming decide → Qd
open Go.IntKind renaming i64 → Dk, wrap → Ds
open Go.Vi.GrT renaming row → Dx
open List renaming map → Dh, length → Dl, getElem?_eq_some_iff → Dq, take → DY, drop → Ep
open Go.Vi.MeT renaming row → DA
open Go.Proofs.Tryz renaming prog → Di, f103 → FE, f105 → He, f69 → FM, underlying129 → Jk
open Go.Exit renaming normal → DZ, ret → Ee, exit → DV
open Go.Vi.D renaming agg → Dy, tup → Ew
open Go.Vi.Dp renaming v → DS
open Go.Value renaming nilFunc → DT, tuple → DF
open Go.Op renaming call → Ip, fieldAddr → Gu, load → Iq, lookup → Hl, move → Ir, extract → Fe, alloc → HV, store → HW, assign → Hm
open Go.Callee renaming value → F9
open Go.Operand renaming func → F5, tmp → DD
open Go.Ground renaming data → DH, gcOnly → FX, chain → EI, phase → Dv, textOnly → FN
open Go.Departure renaming lateStores → Ed
open Go.Vi.BuT renaming row → Dn
open Go.Vi.Ev renaming glob0 → DL
open Option renaming isSome → It
open Int renaming toNat → Dz
open Bool renaming true_and → Ey
open Go renaming method → IU
open Go.Sem renaming run_bind → DG
open Go.Result renaming andThen → EG
open Go.World renaming cell? → H7, cell?_alloc_lt → E8, frozen?_alloc_old → F1
open Array renaming getElem?_eq_none → Hb
open Go Go.Proofs
namespace Go.Vi
set_option maxRecDepth 100000
set_option maxHeartbeats 4000000
def vr(g:GrT)(last:Int):Bool:=!inW g.grp (Dk.wrap (last+1)) 7||!inW g.seats 0 4096||!inW g.til 0 1048576
abbrev fgH(s:SecT):List Blk:=[.var (s.row.map .p)]
abbrev fgS(s:SecT)(all last i:Int):AS:={t:=mkT 101 0 [(1,.ref (.ptr 0 0)),(3,int all),(4,int last),(10,aa (s.grs.map Dx)),(11,int ((s.grs.map Dx).length:Int)),(12,int i)],h:=fgH s,m:=[]}
abbrev fgX(s:SecT):AS:={t:=mkT 101 0 [(2,bool false)],h:=fgH s,m:=[]}
noncomputable abbrev iI(s:SecT)(g:GrT):List Blk:=[.var [int s.id,int s.course,int s.term,int s.campus,int s.seats,aa (Dh DA s.mts),aa (Dh Dx s.grs),aa (Dh ab s.labs),bool s.lab],.var [int g.grp,int g.seats,int g.til]]
theorem AQ{s:SecT}{g:GrT}{all last:Int}{i:Nat}(hr:ad (i:Int) (s.grs.map Dx) g.row 3)(hlt:Qd ((i:Int)<((s.grs.map Dx).length:Int))=true)(hw:Dk.wrap ((i:Int)+1)=((i+1:Nat):Int))(hb:(!inW g.grp (Dk.wrap (last+1)) 7||!inW g.seats 0 4096||!inW g.til 0 1048576)=false):(CW Di Γ0 [] false (sub FE 0) (fgS s all last i) .normal (fgS s (Dk.wrap (all+g.seats)) g.grp ((i+1:Nat):Int))):=by
 refine zX {t:=mkT 101 0 [(1,.ref (.ptr 0 0)),(3,int (Ds Dk (all+g.seats))),(4,int g.grp),(10,aa (Dh Dx s.grs)),(11,int (↑(Dl (Dh Dx s.grs)):Int)),(12,int (Ds Dk ((↑i:Int)+1)))],h:=[.var [int s.id,int s.course,int s.term,int s.campus,int s.seats,aa (Dh DA s.mts),aa (Dh Dx s.grs),aa (Dh ab s.labs),bool s.lab]],m:=[]} DZ [.st (.mask [1,3,4,10,11,12]),.st (.trim 1)] [.b true,.row [vi g.grp,vi g.seats,vi g.til],.val (bool (inW g.grp (Ds Dk (last+1)) 7)),.val (bool (inW g.seats 0 4096)),.val (bool (inW g.til 0 1048576)),.b false] (.c hlt (.c hr (.c (@aV (g.grp) (Ds Dk (last+1)) 7 (iI s g)) (.c (gd (!!inW g.grp (Ds Dk (last+1)) 7) (@aV (g.seats) 0 4096 (iI s g))) (.c (gd (!(!inW g.grp (Ds Dk (last+1)) 7||!inW g.seats 0 4096)) (@aV (g.til) 0 1048576 (iI s g))) (.c hb .n)))))) ?_ ?_<;>(first|rfl|(rw[hw]<;>rfl))
noncomputable abbrev kO(s:SecT)(g:GrT):List Blk:=[.var [int s.id,int s.course,int s.term,int s.campus,int s.seats,aa (Dh DA s.mts),aa (Dh Dx s.grs),aa (Dh ab s.labs),bool s.lab],.var [int g.grp,int g.seats,int g.til]]
theorem fg_bad{s:SecT}{g:GrT}{all last:Int}{i:Nat}(hr:ad (i:Int) (s.grs.map Dx) g.row 3)(hlt:Qd ((i:Int)<((s.grs.map Dx).length:Int))=true)(hb:(!inW g.grp (Dk.wrap (last+1)) 7||!inW g.seats 0 4096||!inW g.til 0 1048576)=true):(CW Di Γ0 [] false (sub FE 0) (fgS s all last i) .ret (fgX s)):=by
 exact zx [.st (.mask [2]),.st (.trim 1)] [.b true,.row [vi g.grp,vi g.seats,vi g.til],.val (bool (inW g.grp (Ds Dk (last+1)) 7)),.val (bool (inW g.seats 0 4096)),.val (bool (inW g.til 0 1048576)),.b true] (.c hlt (.c hr (.c (@aV (g.grp) (Ds Dk (last+1)) 7 (kO s g)) (.c (gd (!!inW g.grp (Ds Dk (last+1)) 7) (@aV (g.seats) 0 4096 (kO s g))) (.c (gd (!(!inW g.grp (Ds Dk (last+1)) 7||!inW g.seats 0 4096)) (@aV (g.til) 0 1048576 (kO s g))) (.c hb .n))))))
abbrev fgE(s:SecT)(all:Int):AS:={t:=mkT 101 0 [(1,.ref (.ptr 0 0)),(3,int all)],h:=fgH s,m:=[]}
theorem AR{s:SecT}{all last:Int}{i:Nat}(hlt:Qd ((i:Int)<((s.grs.map Dx).length:Int))=false):(CW Di Γ0 [] false (sub FE 0) (fgS s all last i) (.exit 0) (fgE s all)):=by
 exact zx [.st (.mask [1,3])] [.b false] (.c hlt .n)
abbrev flS(s:SecT)(all last i:Int):AS:={t:=mkT 101 0 [(1,.ref (.ptr 0 0)),(3,int all),(4,int last),(42,aa (s.labs.map ab)),(43,int ((s.labs.map ab).length:Int)),(44,int i)],h:=fgH s,m:=[]}
noncomputable abbrev mq(s:SecT):List Blk:=[.var [int s.id,int s.course,int s.term,int s.campus,int s.seats,aa (Dh DA s.mts),aa (Dh Dx s.grs),aa (Dh ab s.labs),bool s.lab]]
theorem AU{s:SecT}{n all last:Int}{i:Nat}(hr:ad (i:Int) (s.labs.map ab) [vi n] 1)(hlt:Qd ((i:Int)<((s.labs.map ab).length:Int))=true)(hw:Dk.wrap ((i:Int)+1)=((i+1:Nat):Int))(hb:(!inW n (Dk.wrap (last+1)) 3999)=false):(CW Di Γ0 [] false (sub FE 1) (flS s all last i) .normal (flS s all n ((i+1:Nat):Int))):=by
 refine zX {t:=mkT 101 0 [(1,.ref (.ptr 0 0)),(3,int all),(4,int n),(42,aa (Dh ab s.labs)),(43,int (↑(Dl (Dh ab s.labs)):Int)),(44,int (Ds Dk ((↑i:Int)+1)))],h:=(mq s),m:=[]} DZ [.st (.mask [1,3,4,42,43,44])] [.b true,.row [vi n],.val (bool (inW n (Ds Dk (last+1)) 3999)),.b false] (.c hlt (.c hr (.c (@aV n (Ds Dk (last+1)) 3999 (mq s)) (.c hb .n)))) ?_ ?_<;>(first|rfl|(rw[hw]<;>rfl))
noncomputable abbrev vt(s:SecT):List Blk:=[.var [int s.id,int s.course,int s.term,int s.campus,int s.seats,aa (Dh DA s.mts),aa (Dh Dx s.grs),aa (Dh ab s.labs),bool s.lab]]
theorem fl_bad{s:SecT}{n all last:Int}{i:Nat}(hr:ad (i:Int) (s.labs.map ab) [vi n] 1)(hlt:Qd ((i:Int)<((s.labs.map ab).length:Int))=true)(hb:(!inW n (Dk.wrap (last+1)) 3999)=true):(CW Di Γ0 [] false (sub FE 1) (flS s all last i) .ret (fgX s)):=by
 exact zx [.st (.mask [2])] [.b true,.row [vi n],.val (bool (inW n (Ds Dk (last+1)) 3999)),.b true] (.c hlt (.c hr (.c (@aV n (Ds Dk (last+1)) 3999 (vt s)) (.c hb .n))))
theorem AV{s:SecT}{all last:Int}{i:Nat}(hlt:Qd ((i:Int)<((s.labs.map ab).length:Int))=false):(CW Di Γ0 [] false (sub FE 1) (flS s all last i) (.exit 2) (fgE s all)):=by
 exact zx [.st (.mask [1,3])] [.b false] (.c hlt .n)
def gF(g:GrT)(s:Int×Int):(Int×Int)⊕Unit:=match vr g s.2 with
 | true=>.inr ()
 | false=>.inl (Dk.wrap (s.1+g.seats),g.grp)
def lF(n:Int)(last:Int):Int⊕Unit:=match !inW n (Dk.wrap (last+1)) 3999 with
 | true=>.inr ()
 | false=>.inl n
theorem AW{s:SecT}(hs:ai s.grs):CW Di Γ0 [] false (.loop (sub FE 0)) (fgS s 0 (-1) 0) (af (.exit 0) (fun a:Int×Int=>fgE s a.1) (fun _:Unit=>(.ret,fgX s)) (forL gF s.grs (0,-1))).1 (af (.exit 0) (fun a:Int×Int=>fgE s a.1) (fun _:Unit=>(.ret,fgX s)) (forL gF s.grs (0,-1))).2:=by
 refine CW.each s.grs gF (fun j a=>fgS s a.1 a.2 (j:Int)) (.exit 0) _ _ (fun _ _=>True) (by simp) (fun _=>by simp) ?_ ?_ (0,-1) trivial
 ·intro j g a hj _
  have hlt:=(Dq.1 hj).1
  refine⟨fun _ _=>trivial,?_⟩
  cases hb:vr g a.2 with
  | true =>
   have e:gF g a=.inr ():=by unfold gF;rw[hb]
   rw[e]
   exact fg_bad (rowAt hj rfl) (lt_len Dx hlt) hb
  | false =>
   have e:gF g a=.inl (Dk.wrap (a.1+g.seats),g.grp):=by unfold gF;rw[hb]
   rw[e]
   exact AQ (rowAt hj rfl) (lt_len Dx hlt) (wrap_succ hlt hs) hb
 ·intro a _
  exact AR (aY Dx s.grs)
theorem AX{s:SecT}{all:Int}(hs:ai s.labs):CW Di Γ0 [] false (.loop (sub FE 1)) (flS s all (-1) 0) (af (.exit 2) (fun _:Int=>fgE s all) (fun _:Unit=>(.ret,fgX s)) (forL lF s.labs (-1))).1 (af (.exit 2) (fun _:Int=>fgE s all) (fun _:Unit=>(.ret,fgX s)) (forL lF s.labs (-1))).2:=by
 refine CW.each s.labs lF (fun j a=>flS s all a (j:Int)) (.exit 2) _ _ (fun _ _=>True) (by simp) (fun _=>by simp) ?_ ?_ (-1) trivial
 ·intro j n a hj _
  have hlt:=(Dq.1 hj).1
  have hr:=rowAt (row:=ab) (sz:=1) hj rfl
  refine⟨fun _ _=>trivial,?_⟩
  cases hb:!inW n (Dk.wrap (a+1)) 3999 with
  | true =>
   have e:lF n a=.inr ():=by unfold lF;rw[hb]
   rw[e]
   exact fl_bad hr (lt_len ab hlt) hb
  | false =>
   have e:lF n a=.inl n:=by unfold lF;rw[hb]
   rw[e]
   exact AU hr (lt_len ab hlt) (wrap_succ hlt hs) hb
 ·intro a _
  exact AV (aY ab s.labs)
def py(s:SecT)(all:Int):Bool:=inW s.id 0 3999&&inW s.course 0 4095&&inW s.term 0 1023&&inW s.campus 0 6&&inW s.seats 0 4096&&Qd (((s.grs.map Dx).length:Int)≤8)&&Qd (all≤s.seats)&&!(s.lab&&Qd (((s.labs.map ab).length:Int)>0))
theorem fm_g{s:SecT}(h1:CW Di Γ0 [] false (.loop (sub FE 0)) (fgS s 0 (-1) 0) .ret (fgX s))(h:List Blk):(Ev Di Γ0 103 [ag s.row] h (bool false) h):=by
 have hl0:=(@h1)
 exact z0 [.sum [1,3,4,10,11,12] (Ee) {t:=mkT 101 0 [(2,bool false)],h:=[.var [int s.id,int s.course,int s.term,int s.campus,int s.seats,aa (Dh DA s.mts),aa (Dh Dx s.grs),aa (Dh ab s.labs),bool s.lab]],m:=[]}] (.c hl0 .n) h
theorem fm_l{s:SecT}{all:Int}(h1:CW Di Γ0 [] false (.loop (sub FE 0)) (fgS s 0 (-1) 0) (.exit 0) (fgE s all))(h2:CW Di Γ0 [] false (.loop (sub FE 1)) (flS s all (-1) 0) .ret (fgX s))(h:List Blk):(Ev Di Γ0 103 [ag s.row] h (bool false) h):=by
 have hl0:=(@h1)
 have hl1:=(@h2)
 let v0:List Blk:=[.var [int s.id,int s.course,int s.term,int s.campus,int s.seats,aa (Dh DA s.mts),aa (Dh Dx s.grs),aa (Dh ab s.labs),bool s.lab]]
 exact z0 [.sum [1,3,4,10,11,12] (DV 0) {t:=mkT 101 0 [(1,.ref (.ptr 0 0)),(3,int all)],h:=v0,m:=[]},.sum [1,3,4,42,43,44] (Ee) {t:=mkT 101 0 [(2,bool false)],h:=v0,m:=[]}] (.c hl0 (.c hl1 .n)) h
noncomputable abbrev fW(s:SecT):List Blk:=[.var [int s.id,int s.course,int s.term,int s.campus,int s.seats,aa (Dh DA s.mts),aa (Dh Dx s.grs),aa (Dh ab s.labs),bool s.lab]]
theorem fm_e{s:SecT}{all:Int}(h1:CW Di Γ0 [] false (.loop (sub FE 0)) (fgS s 0 (-1) 0) (.exit 0) (fgE s all))(h2:CW Di Γ0 [] false (.loop (sub FE 1)) (flS s all (-1) 0) (.exit 2) (fgE s all))(h:List Blk):(Ev Di Γ0 103 [ag s.row] h (bool (py s all)) h):=by
 have hl0:=(@h1)
 have hl1:=(@h2)
 exact zD (bool (inW s.id 0 3999&&inW s.course 0 4095&&inW s.term 0 1023&&inW s.campus 0 6&&inW s.seats 0 4096&&Qd ((↑(Dl (Dh Dx s.grs)):Int)≤8)&&Qd (all≤s.seats)&&!(s.lab&&Qd ((↑(Dl (Dh ab s.labs)):Int)>0)))) [.sum [1,3,4,10,11,12] (DV 0) {t:=mkT 101 0 [(1,.ref (.ptr 0 0)),(3,int all)],h:=(fW s),m:=[]},.sum [1,3,4,42,43,44] (DV 2) {t:=mkT 101 0 [(1,.ref (.ptr 0 0)),(3,int all)],h:=(fW s),m:=[]},.val (bool (inW s.id 0 3999)),.val (bool (inW s.course 0 4095)),.val (bool (inW s.term 0 1023)),.val (bool (inW s.campus 0 6)),.val (bool (inW s.seats 0 4096))] (.c hl0 (.c hl1 (.c (@aV (s.id) 0 3999 (fW s)) (.c (gd (inW s.id 0 3999) (@aV (s.course) 0 4095 (fW s))) (.c (gd (inW s.id 0 3999&&inW s.course 0 4095) (@aV (s.term) 0 1023 (fW s))) (.c (gd (inW s.id 0 3999&&inW s.course 0 4095&&inW s.term 0 1023) (@aV (s.campus) 0 6 (fW s))) (.c (gd (inW s.id 0 3999&&inW s.course 0 4095&&inW s.term 0 1023&&inW s.campus 0 6) (@aV (s.seats) 0 4096 (fW s))) .n))))))) h (by first|rfl|(simp only[py];first|done|rfl))
def qy(s:SecT):Bool:=match forL gF s.grs (0,-1) with
 | .inr _=>false
 | .inl a=>match forL lF s.labs (-1) with
  | .inr _=>false
  | .inl _=>py s a.1
theorem iJ{s:SecT}(hgr:ai s.grs)(hi:ai s.labs)(h:List Blk):Ev Di Γ0 103 [ag s.row] h (bool (qy s)) h:=by
 have h1:=AW hgr
 unfold qy
 cases e1:forL gF s.grs (0,-1) with
 | inr _=>rw[e1] at h1;exact fm_g h1 h
 | inl a =>
  rw[e1] at h1
  have h2:=AX (all:=a.1) hi
  simp only
  cases e2:forL lF s.labs (-1) with
  | inr _=>rw[e2] at h2;exact fm_l h1 h2 h
  | inl _=>rw[e2] at h2;exact fm_e h1 h2 h
structure QuT where
 kind:Int
 st:Int
 obj:Int
 term:Int
def QuT.row(q:QuT):List Dp:=[vi q.kind,vi q.st,vi q.obj,vi q.term]
def aN(m:Int)(q:QuT):Bool:=Qd (q.st<0)||Qd (q.st≥20000)||Qd (q.term<0)||Qd (q.term≥1024)||Qd (q.obj<0)||Qd (q.obj>m)
def AY(k:Int):Option Int:=if k=1 then some 4095 else if k=2 then some 0 else if k=3 then some 10000 else if k=4 then some 0 else if k=5 then some 255 else none
def ef(q:QuT):Int:=match AY q.kind with
 | none=>340
 | some m=>bif aN m q then 340 else 0
abbrev qkM:List Blk:=[.map [(int 1,.agg [int 4095,fq 118],0),(int 2,.agg [int 0,fq 119],1),(int 3,.agg [int 10000,fq 119],2),(int 4,.agg [int 0,fq 119],3),(int 5,.agg [int 255,fq 120],4)] 5]
theorem qkinds_b:(Ev Di Γ0 106 [] [] (.ref (.mp 0)) qkM):=by
 exact Ev.castH (Ev.of_sym (h':=[.map [(int 1,Dy [int 4095,fq 118],0),(int 2,Dy [int 0,fq 119],1),(int 3,Dy [int 10000,fq 119],2),(int 4,Dy [int 0,fq 119],3),(int 5,Dy [int 255,fq 120],4)] 5]) (d:=.ref (.mp 0)) pok [] (by kernel_rfl) .n) (by rfl) (by rfl)
theorem bk(h:List Blk):Ev Di Γ0 106 [] h (.ref (.mp h.length)) (h++qkM):=qkinds_b.frameN (by kernel_rfl) rfl h
noncomputable abbrev rW(st:Int)(obj:Int)(term:Int):List Blk:=[.var [int 1,int st,int obj,int term],.map [(int 1,Dy [int 4095,fq 118],0),(int 2,Dy [int 0,fq 119],1),(int 3,Dy [int 10000,fq 119],2),(int 4,Dy [int 0,fq 119],3),(int 5,Dy [int 255,fq 120],4)] 5]
theorem qk1_a{st obj term:Int}(h:List Blk):(Ev Di Γ0 93 [.agg [int 1,int st,int obj,int term]] h (int (bif aN 4095 ⟨1,st,obj,term⟩ then 340 else 0)) h):=by
 cases hc0:!true||Qd (st<0)||Qd (st≥20000)||Qd (term<0)||Qd (term≥1024)||Qd (obj<0)||Qd (obj>4095)
 ·let v0:=Ew [Dy [int 4095,fq 118],bool true]
  exact zD (int 0) [.nx 1,.late,.call (.ref (.mp 1)) (rW st obj term),.b false] (.c (@bk ([.var [int 1,int st,int obj,int term]])) (.e (.ref (.ptr 0 0)) (.e (.ref (.ptr 0 0)) (.e (.ref (.ptr 0 0)) (.e (int 1) (.e (int 1) (.e (int 1) (.c (show some v0=some v0 from rfl) (.c (show some v0=some v0 from rfl) (.c hc0 .n)))))))))) h (by subst v0;first|(have hh:aN 4095 ⟨1,st,obj,term⟩=true:=hc0;rw[hh];rfl)|(have hh:aN 4095 ⟨1,st,obj,term⟩=false:=hc0;rw[hh];rfl))
 ·let v0:=Ew [Dy [int 4095,fq 118],bool true]
  exact zD (int 340) [.nx 1,.late,.call (.ref (.mp 1)) (rW st obj term),.b true] (.c (@bk ([.var [int 1,int st,int obj,int term]])) (.e (.ref (.ptr 0 0)) (.e (.ref (.ptr 0 0)) (.e (.ref (.ptr 0 0)) (.e (int 1) (.e (int 1) (.e (int 1) (.c (show some v0=some v0 from rfl) (.c (show some v0=some v0 from rfl) (.c hc0 .n)))))))))) h (by subst v0;first|(have hh:aN 4095 ⟨1,st,obj,term⟩=true:=hc0;rw[hh];rfl)|(have hh:aN 4095 ⟨1,st,obj,term⟩=false:=hc0;rw[hh];rfl))
theorem rk1_a{st obj term:Int}(h:List Blk):(Ev Di Γ0 81 [.agg [int 1,int st,int obj,int term]] h (int (bif aN 4095 ⟨1,st,obj,term⟩ then 340 else 0)) h):=by
 cases hc0:Qd (st<0)||Qd (st≥20000)||Qd (term<0)||Qd (term≥1024)||Qd (obj<0)||Qd (obj>4095)
 ·exact zD (int 0) [.b true,.b false] (.c (show(1==1)=true from rfl) (.c hc0 .n)) h (by first|(have hh:aN 4095 ⟨1,st,obj,term⟩=true:=hc0;rw[hh];rfl)|(have hh:aN 4095 ⟨1,st,obj,term⟩=false:=hc0;rw[hh];rfl))
 ·exact zD (int 340) [.b true,.b true] (.c (show(1==1)=true from rfl) (.c hc0 .n)) h (by first|(have hh:aN 4095 ⟨1,st,obj,term⟩=true:=hc0;rw[hh];rfl)|(have hh:aN 4095 ⟨1,st,obj,term⟩=false:=hc0;rw[hh];rfl))
noncomputable abbrev rX(st:Int)(obj:Int)(term:Int):List Blk:=[.var [int 2,int st,int obj,int term],.map [(int 1,Dy [int 4095,fq 118],0),(int 2,Dy [int 0,fq 119],1),(int 3,Dy [int 10000,fq 119],2),(int 4,Dy [int 0,fq 119],3),(int 5,Dy [int 255,fq 120],4)] 5]
theorem qk2_a{st obj term:Int}(h:List Blk):(Ev Di Γ0 93 [.agg [int 2,int st,int obj,int term]] h (int (bif aN 0 ⟨2,st,obj,term⟩ then 340 else 0)) h):=by
 cases hc0:!true||Qd (st<0)||Qd (st≥20000)||Qd (term<0)||Qd (term≥1024)||Qd (obj<0)||Qd (obj>0)
 ·let v0:=Ew [Dy [int 0,fq 119],bool true]
  exact zD (int 0) [.nx 1,.late,.call (.ref (.mp 1)) (rX st obj term),.b false] (.c (@bk ([.var [int 2,int st,int obj,int term]])) (.e (.ref (.ptr 0 0)) (.e (.ref (.ptr 0 0)) (.e (.ref (.ptr 0 0)) (.e (int 2) (.e (int 2) (.e (int 2) (.c (show some v0=some v0 from rfl) (.c (show some v0=some v0 from rfl) (.c hc0 .n)))))))))) h (by subst v0;first|(have hh:aN 0 ⟨2,st,obj,term⟩=true:=hc0;rw[hh];rfl)|(have hh:aN 0 ⟨2,st,obj,term⟩=false:=hc0;rw[hh];rfl))
 ·let v0:=Ew [Dy [int 0,fq 119],bool true]
  exact zD (int 340) [.nx 1,.late,.call (.ref (.mp 1)) (rX st obj term),.b true] (.c (@bk ([.var [int 2,int st,int obj,int term]])) (.e (.ref (.ptr 0 0)) (.e (.ref (.ptr 0 0)) (.e (.ref (.ptr 0 0)) (.e (int 2) (.e (int 2) (.e (int 2) (.c (show some v0=some v0 from rfl) (.c (show some v0=some v0 from rfl) (.c hc0 .n)))))))))) h (by subst v0;first|(have hh:aN 0 ⟨2,st,obj,term⟩=true:=hc0;rw[hh];rfl)|(have hh:aN 0 ⟨2,st,obj,term⟩=false:=hc0;rw[hh];rfl))
theorem rk2_a{st obj term:Int}(h:List Blk):(Ev Di Γ0 81 [.agg [int 2,int st,int obj,int term]] h (int (bif aN 0 ⟨2,st,obj,term⟩ then 340 else 0)) h):=by
 cases hc0:Qd (st<0)||Qd (st≥20000)||Qd (term<0)||Qd (term≥1024)||Qd (obj<0)||Qd (obj>0)
 ·exact zD (int 0) [.b false,.b true,.b true,.b false] (.c (show(2==1)=false from rfl) (.c (show(2==2)=true from rfl) (.c (show(2==2)=true from rfl) (.c hc0 .n)))) h (by first|(have hh:aN 0 ⟨2,st,obj,term⟩=true:=hc0;rw[hh];rfl)|(have hh:aN 0 ⟨2,st,obj,term⟩=false:=hc0;rw[hh];rfl))
 ·exact zD (int 340) [.b false,.b true,.b true,.b true] (.c (show(2==1)=false from rfl) (.c (show(2==2)=true from rfl) (.c (show(2==2)=true from rfl) (.c hc0 .n)))) h (by first|(have hh:aN 0 ⟨2,st,obj,term⟩=true:=hc0;rw[hh];rfl)|(have hh:aN 0 ⟨2,st,obj,term⟩=false:=hc0;rw[hh];rfl))
noncomputable abbrev rY(st:Int)(obj:Int)(term:Int):List Blk:=[.var [int 3,int st,int obj,int term],.map [(int 1,Dy [int 4095,fq 118],0),(int 2,Dy [int 0,fq 119],1),(int 3,Dy [int 10000,fq 119],2),(int 4,Dy [int 0,fq 119],3),(int 5,Dy [int 255,fq 120],4)] 5]
theorem qk3_a{st obj term:Int}(h:List Blk):(Ev Di Γ0 93 [.agg [int 3,int st,int obj,int term]] h (int (bif aN 10000 ⟨3,st,obj,term⟩ then 340 else 0)) h):=by
 cases hc0:!true||Qd (st<0)||Qd (st≥20000)||Qd (term<0)||Qd (term≥1024)||Qd (obj<0)||Qd (obj>10000)
 ·let v0:=Ew [Dy [int 10000,fq 119],bool true]
  exact zD (int 0) [.nx 1,.late,.call (.ref (.mp 1)) (rY st obj term),.b false] (.c (@bk ([.var [int 3,int st,int obj,int term]])) (.e (.ref (.ptr 0 0)) (.e (.ref (.ptr 0 0)) (.e (.ref (.ptr 0 0)) (.e (int 3) (.e (int 3) (.e (int 3) (.c (show some v0=some v0 from rfl) (.c (show some v0=some v0 from rfl) (.c hc0 .n)))))))))) h (by subst v0;first|(have hh:aN 10000 ⟨3,st,obj,term⟩=true:=hc0;rw[hh];rfl)|(have hh:aN 10000 ⟨3,st,obj,term⟩=false:=hc0;rw[hh];rfl))
 ·let v0:=Ew [Dy [int 10000,fq 119],bool true]
  exact zD (int 340) [.nx 1,.late,.call (.ref (.mp 1)) (rY st obj term),.b true] (.c (@bk ([.var [int 3,int st,int obj,int term]])) (.e (.ref (.ptr 0 0)) (.e (.ref (.ptr 0 0)) (.e (.ref (.ptr 0 0)) (.e (int 3) (.e (int 3) (.e (int 3) (.c (show some v0=some v0 from rfl) (.c (show some v0=some v0 from rfl) (.c hc0 .n)))))))))) h (by subst v0;first|(have hh:aN 10000 ⟨3,st,obj,term⟩=true:=hc0;rw[hh];rfl)|(have hh:aN 10000 ⟨3,st,obj,term⟩=false:=hc0;rw[hh];rfl))
theorem rk3_a{st obj term:Int}(h:List Blk):(Ev Di Γ0 81 [.agg [int 3,int st,int obj,int term]] h (int (bif aN 10000 ⟨3,st,obj,term⟩ then 340 else 0)) h):=by
 cases hc0:Qd (st<0)||Qd (st≥20000)||Qd (term<0)||Qd (term≥1024)||Qd (obj<0)||Qd (obj>10000)
 ·exact zD (int 0) [.b false,.b false,.b false,.b true,.b false] (.c (show(3==1)=false from rfl) (.c (show(3==2)=false from rfl) (.c (show(3==4)=false from rfl) (.c (show(3==3)=true from rfl) (.c hc0 .n))))) h (by first|(have hh:aN 10000 ⟨3,st,obj,term⟩=true:=hc0;rw[hh];rfl)|(have hh:aN 10000 ⟨3,st,obj,term⟩=false:=hc0;rw[hh];rfl))
 ·exact zD (int 340) [.b false,.b false,.b false,.b true,.b true] (.c (show(3==1)=false from rfl) (.c (show(3==2)=false from rfl) (.c (show(3==4)=false from rfl) (.c (show(3==3)=true from rfl) (.c hc0 .n))))) h (by first|(have hh:aN 10000 ⟨3,st,obj,term⟩=true:=hc0;rw[hh];rfl)|(have hh:aN 10000 ⟨3,st,obj,term⟩=false:=hc0;rw[hh];rfl))
noncomputable abbrev rZ(st:Int)(obj:Int)(term:Int):List Blk:=[.var [int 4,int st,int obj,int term],.map [(int 1,Dy [int 4095,fq 118],0),(int 2,Dy [int 0,fq 119],1),(int 3,Dy [int 10000,fq 119],2),(int 4,Dy [int 0,fq 119],3),(int 5,Dy [int 255,fq 120],4)] 5]
theorem qk4_a{st obj term:Int}(h:List Blk):(Ev Di Γ0 93 [.agg [int 4,int st,int obj,int term]] h (int (bif aN 0 ⟨4,st,obj,term⟩ then 340 else 0)) h):=by
 cases hc0:!true||Qd (st<0)||Qd (st≥20000)||Qd (term<0)||Qd (term≥1024)||Qd (obj<0)||Qd (obj>0)
 ·let v0:=Ew [Dy [int 0,fq 119],bool true]
  exact zD (int 0) [.nx 1,.late,.call (.ref (.mp 1)) (rZ st obj term),.b false] (.c (@bk ([.var [int 4,int st,int obj,int term]])) (.e (.ref (.ptr 0 0)) (.e (.ref (.ptr 0 0)) (.e (.ref (.ptr 0 0)) (.e (int 4) (.e (int 4) (.e (int 4) (.c (show some v0=some v0 from rfl) (.c (show some v0=some v0 from rfl) (.c hc0 .n)))))))))) h (by subst v0;first|(have hh:aN 0 ⟨4,st,obj,term⟩=true:=hc0;rw[hh];rfl)|(have hh:aN 0 ⟨4,st,obj,term⟩=false:=hc0;rw[hh];rfl))
 ·let v0:=Ew [Dy [int 0,fq 119],bool true]
  exact zD (int 340) [.nx 1,.late,.call (.ref (.mp 1)) (rZ st obj term),.b true] (.c (@bk ([.var [int 4,int st,int obj,int term]])) (.e (.ref (.ptr 0 0)) (.e (.ref (.ptr 0 0)) (.e (.ref (.ptr 0 0)) (.e (int 4) (.e (int 4) (.e (int 4) (.c (show some v0=some v0 from rfl) (.c (show some v0=some v0 from rfl) (.c hc0 .n)))))))))) h (by subst v0;first|(have hh:aN 0 ⟨4,st,obj,term⟩=true:=hc0;rw[hh];rfl)|(have hh:aN 0 ⟨4,st,obj,term⟩=false:=hc0;rw[hh];rfl))
theorem rk4_a{st obj term:Int}(h:List Blk):(Ev Di Γ0 81 [.agg [int 4,int st,int obj,int term]] h (int (bif aN 0 ⟨4,st,obj,term⟩ then 340 else 0)) h):=by
 cases hc0:Qd (st<0)||Qd (st≥20000)||Qd (term<0)||Qd (term≥1024)||Qd (obj<0)||Qd (obj>0)
 ·exact zD (int 0) [.b false,.b false,.b true,.b false] (.c (show(4==1)=false from rfl) (.c (show(4==2)=false from rfl) (.c (show(4==4)=true from rfl) (.c hc0 .n)))) h (by first|(have hh:aN 0 ⟨4,st,obj,term⟩=true:=hc0;rw[hh];rfl)|(have hh:aN 0 ⟨4,st,obj,term⟩=false:=hc0;rw[hh];rfl))
 ·exact zD (int 340) [.b false,.b false,.b true,.b true] (.c (show(4==1)=false from rfl) (.c (show(4==2)=false from rfl) (.c (show(4==4)=true from rfl) (.c hc0 .n)))) h (by first|(have hh:aN 0 ⟨4,st,obj,term⟩=true:=hc0;rw[hh];rfl)|(have hh:aN 0 ⟨4,st,obj,term⟩=false:=hc0;rw[hh];rfl))
noncomputable abbrev r8(st:Int)(obj:Int)(term:Int):List Blk:=[.var [int 5,int st,int obj,int term],.map [(int 1,Dy [int 4095,fq 118],0),(int 2,Dy [int 0,fq 119],1),(int 3,Dy [int 10000,fq 119],2),(int 4,Dy [int 0,fq 119],3),(int 5,Dy [int 255,fq 120],4)] 5]
theorem qk5_a{st obj term:Int}(h:List Blk):(Ev Di Γ0 93 [.agg [int 5,int st,int obj,int term]] h (int (bif aN 255 ⟨5,st,obj,term⟩ then 340 else 0)) h):=by
 cases hc0:!true||Qd (st<0)||Qd (st≥20000)||Qd (term<0)||Qd (term≥1024)||Qd (obj<0)||Qd (obj>255)
 ·let v0:=Ew [Dy [int 255,fq 120],bool true]
  exact zD (int 0) [.nx 1,.late,.call (.ref (.mp 1)) (r8 st obj term),.b false] (.c (@bk ([.var [int 5,int st,int obj,int term]])) (.e (.ref (.ptr 0 0)) (.e (.ref (.ptr 0 0)) (.e (.ref (.ptr 0 0)) (.e (int 5) (.e (int 5) (.e (int 5) (.c (show some v0=some v0 from rfl) (.c (show some v0=some v0 from rfl) (.c hc0 .n)))))))))) h (by subst v0;first|(have hh:aN 255 ⟨5,st,obj,term⟩=true:=hc0;rw[hh];rfl)|(have hh:aN 255 ⟨5,st,obj,term⟩=false:=hc0;rw[hh];rfl))
 ·let v0:=Ew [Dy [int 255,fq 120],bool true]
  exact zD (int 340) [.nx 1,.late,.call (.ref (.mp 1)) (r8 st obj term),.b true] (.c (@bk ([.var [int 5,int st,int obj,int term]])) (.e (.ref (.ptr 0 0)) (.e (.ref (.ptr 0 0)) (.e (.ref (.ptr 0 0)) (.e (int 5) (.e (int 5) (.e (int 5) (.c (show some v0=some v0 from rfl) (.c (show some v0=some v0 from rfl) (.c hc0 .n)))))))))) h (by subst v0;first|(have hh:aN 255 ⟨5,st,obj,term⟩=true:=hc0;rw[hh];rfl)|(have hh:aN 255 ⟨5,st,obj,term⟩=false:=hc0;rw[hh];rfl))
theorem rk5_a{st obj term:Int}(h:List Blk):(Ev Di Γ0 81 [.agg [int 5,int st,int obj,int term]] h (int (bif aN 255 ⟨5,st,obj,term⟩ then 340 else 0)) h):=by
 cases hc0:Qd (st<0)||Qd (st≥20000)||Qd (term<0)||Qd (term≥1024)||Qd (obj<0)||Qd (obj>255)
 ·exact zD (int 0) [.b false,.b false,.b false,.b false,.b true,.b false] (.c (show(5==1)=false from rfl) (.c (show(5==2)=false from rfl) (.c (show(5==4)=false from rfl) (.c (show(5==3)=false from rfl) (.c (show(5==5)=true from rfl) (.c hc0 .n)))))) h (by first|(have hh:aN 255 ⟨5,st,obj,term⟩=true:=hc0;rw[hh];rfl)|(have hh:aN 255 ⟨5,st,obj,term⟩=false:=hc0;rw[hh];rfl))
 ·exact zD (int 340) [.b false,.b false,.b false,.b false,.b true,.b true] (.c (show(5==1)=false from rfl) (.c (show(5==2)=false from rfl) (.c (show(5==4)=false from rfl) (.c (show(5==3)=false from rfl) (.c (show(5==5)=true from rfl) (.c hc0 .n)))))) h (by first|(have hh:aN 255 ⟨5,st,obj,term⟩=true:=hc0;rw[hh];rfl)|(have hh:aN 255 ⟨5,st,obj,term⟩=false:=hc0;rw[hh];rfl))
theorem lkQ{h:List Blk}{k:Int}(h1:¬k=1)(h2:¬k=2)(h3:¬k=3)(h4:¬k=4)(h5:¬k=5)(hb:h[1]? = some (.map [(int 1,.agg [int 4095,fq 118],0),(int 2,.agg [int 0,fq 119],1),(int 3,.agg [int 10000,fq 119],2),(int 4,.agg [int 0,fq 119],3),(int 5,.agg [int 255,fq 120],4)] 5)):
  aR Di h 136 (.ref (.mp 1)) (int k) true=some (.tup [.agg [int 0,lit .nilFunc],bool false]):=by
 have e1:Di.underlying 136=some (.map 3 134):=by kernel_rfl
 have e2:cy Di 3 (int k)=true:=by kernel_rfl
 have e3:ge Di 134=some (.agg #[.int .i64 0,.nilFunc]):=by kernel_rfl
 have e4:bO (int k) [(int 1,.agg [int 4095,fq 118],0),(int 2,.agg [int 0,fq 119],1),(int 3,.agg [int 10000,fq 119],2),(int 4,.agg [int 0,fq 119],3),(int 5,.agg [int 255,fq 120],4)] 0=some none:=by
  have n1:bf (int k) (int 1)=some false:=by simp[bf,h1]
  have n2:bf (int k) (int 2)=some false:=by simp[bf,h2]
  have n3:bf (int k) (int 3)=some false:=by simp[bf,h3]
  have n4:bf (int k) (int 4)=some false:=by simp[bf,h4]
  have n5:bf (int k) (int 5)=some false:=by simp[bf,h5]
  simp only[bO,n1,n2,n3,n4,n5]
 unfold aR
 simp only[e1,je,hb,e2,if_true,e3,e4]
 rfl
theorem lkQ2{k:Int}(h1:¬k=1)(h2:¬k=2)(h3:¬k=3)(h4:¬k=4)(h5:¬k=5):zl Di 136 [(int 1,.agg [int 4095,fq 118],0),(int 2,.agg [int 0,fq 119],1),(int 3,.agg [int 10000,fq 119],2),(int 4,.agg [int 0,fq 119],3),(int 5,.agg [int 255,fq 120],4)] (int k) true (.tup [.agg [int 0,lit .nilFunc],bool false]):=by
 have:=lkQ (h:=[.gone,.map [(int 1,.agg [int 4095,fq 118],0),(int 2,.agg [int 0,fq 119],1),(int 3,.agg [int 10000,fq 119],2),(int 4,.agg [int 0,fq 119],3),(int 5,.agg [int 255,fq 120],4)] 5]) h1 h2 h3 h4 h5 rfl
 unfold zl aR
 unfold aR at this
 simpa only [je,List.getElem?_cons_zero,List.getElem?_cons_succ] using this
noncomputable abbrev r9(k:Int)(st:Int)(obj:Int)(term:Int):List Blk:=[.var [int k,int st,int obj,int term],.map [(int 1,Dy [int 4095,fq 118],0),(int 2,Dy [int 0,fq 119],1),(int 3,Dy [int 10000,fq 119],2),(int 4,Dy [int 0,fq 119],3),(int 5,Dy [int 255,fq 120],4)] 5]
theorem qkN_a{k st obj term:Int}(h1:¬k=1)(h2:¬k=2)(h3:¬k=3)(h4:¬k=4)(h5:¬k=5)(h:List Blk):(Ev Di Γ0 93 [.agg [int k,int st,int obj,int term]] h (int 340) h):=by
 let v1:List D:=[int 0,D.p (DS DT)]
 let v2:List D:=[int k,int st,int obj,int term]
 let v0:=List.getD [mkT 46 0 [(0,Dy v2),(1,.ref (.ptr 0 0)),(2,int 0)],mkT 46 0 [(0,Dy v2),(1,.ref (.ptr 0 0)),(2,int 0),(6,.ref (.mp 1))],mkT 46 0 [(0,Dy v2),(1,.ref (.ptr 0 0)),(2,int 0),(6,.ref (.mp 1)),(7,.ref (.ptr 0 0))],mkT 46 0 [(0,Dy v2),(1,.ref (.ptr 0 0)),(2,int 0),(6,.ref (.mp 1)),(7,.ref (.ptr 0 0)),(8,int k)],mkT 46 0 [(0,Dy v2),(1,.ref (.ptr 0 0)),(2,int 0),(6,.ref (.mp 1)),(7,.ref (.ptr 0 0)),(8,int k),(9,Ew [Dy v1,bool false])],mkT 46 0 [(0,Dy v2),(1,.ref (.ptr 0 0)),(2,int 0),(5,Ew [Dy v1,bool false]),(6,.ref (.mp 1)),(7,.ref (.ptr 0 0)),(8,int k),(9,Ew [Dy v1,bool false])],mkT 46 0 [(0,Dy v2),(1,.ref (.ptr 0 0)),(2,int 0),(5,Ew [Dy v1,bool false]),(6,.ref (.mp 1)),(7,.ref (.ptr 0 0)),(8,int k),(9,Ew [Dy v1,bool false]),(10,Dy v1)],mkT 46 0 [(0,Dy v2),(1,.ref (.ptr 0 0)),(2,int 0),(5,Ew [Dy v1,bool false]),(6,.ref (.mp 1)),(7,.ref (.ptr 0 0)),(8,int k),(9,Ew [Dy v1,bool false]),(10,Dy v1),(11,bool false)],mkT 46 0 [(0,Dy v2),(1,.ref (.ptr 0 0)),(2,int 0),(3,.ref (.ptr 2 0)),(5,Ew [Dy v1,bool false]),(6,.ref (.mp 1)),(7,.ref (.ptr 0 0)),(8,int k),(9,Ew [Dy v1,bool false]),(10,Dy v1),(11,bool false)],mkT 46 0 [(0,Dy v2),(1,.ref (.ptr 0 0)),(2,int 0),(3,.ref (.ptr 2 0)),(5,Ew [Dy v1,bool false]),(6,.ref (.mp 1)),(7,.ref (.ptr 0 0)),(8,int k),(9,Ew [Dy v1,bool false]),(10,Dy v1),(11,bool false)]] (aL (s7 [{dst:=some 6,op:=Ip {callee:=F9 (F5 106),args:=#[],argTypes:=#[]},type:=136,pos:= "questions.go:59",after:=#[],guard:=none},{dst:=some 7,op:=Gu 100 (DD 1) 0,type:=0,pos:= "questions.go:59",after:=#[],guard:=none},{dst:=some 8,op:=Iq 3 (DD 7),type:=3,pos:= "questions.go:59",after:=#[{on:=1,ground:=DH}],guard:=none},{dst:=some 9,op:=Hl 136 (DD 6) (DD 8) true,type:=135,pos:= "questions.go:59",after:=#[{on:=0,ground:=DH},{on:=2,ground:=DH}],guard:=none},{dst:=some 5,op:=Ir (DD 9),type:=135,pos:= "questions.go:59",after:=#[{on:=3,ground:=DH}],guard:=none},{dst:=some 10,op:=Fe (DD 5) 0,type:=134,pos:= "questions.go:59",after:=#[{on:=4,ground:=DH}],guard:=none},{dst:=some 11,op:=Fe (DD 5) 1,type:=4,pos:= "questions.go:59",after:=#[{on:=4,ground:=DH},{on:=8,ground:=FX Ed}],guard:=none},{dst:=some 3,op:=HV 134,type:=0,pos:= "questions.go:59",after:=#[],guard:=none},{dst:=none,op:=HW 134 (DD 3) (DD 10),type:=0,pos:= "questions.go:59",after:=#[{on:=7,ground:=DH},{on:=5,ground:=DH},{on:=0,ground:=EI},{on:=0,ground:=Dv},{on:=1,ground:=Dv},{on:=2,ground:=Dv},{on:=3,ground:=Dv},{on:=4,ground:=Dv},{on:=5,ground:=Dv},{on:=6,ground:=FN Ed},{on:=7,ground:=Dv}],guard:=none},{dst:=some 4,op:=Hm (DD 11),type:=4,pos:= "questions.go:59",after:=#[{on:=6,ground:=DH},{on:=8,ground:=EI},{on:=0,ground:=Dv},{on:=1,ground:=Dv},{on:=2,ground:=Dv},{on:=3,ground:=Dv},{on:=4,ground:=Dv},{on:=5,ground:=Dv},{on:=6,ground:=Dv},{on:=7,ground:=Dv},{on:=8,ground:=Dv}],guard:=none}] (a9 [{dst:=some 6,op:=Ip {callee:=F9 (F5 106),args:=#[],argTypes:=#[]},type:=136,pos:= "questions.go:59",after:=#[],guard:=none},{dst:=some 7,op:=Gu 100 (DD 1) 0,type:=0,pos:= "questions.go:59",after:=#[],guard:=none},{dst:=some 8,op:=Iq 3 (DD 7),type:=3,pos:= "questions.go:59",after:=#[{on:=1,ground:=DH}],guard:=none},{dst:=some 9,op:=Hl 136 (DD 6) (DD 8) true,type:=135,pos:= "questions.go:59",after:=#[{on:=0,ground:=DH},{on:=2,ground:=DH}],guard:=none},{dst:=some 5,op:=Ir (DD 9),type:=135,pos:= "questions.go:59",after:=#[{on:=3,ground:=DH}],guard:=none},{dst:=some 10,op:=Fe (DD 5) 0,type:=134,pos:= "questions.go:59",after:=#[{on:=4,ground:=DH}],guard:=none},{dst:=some 11,op:=Fe (DD 5) 1,type:=4,pos:= "questions.go:59",after:=#[{on:=4,ground:=DH},{on:=8,ground:=FX Ed}],guard:=none},{dst:=some 3,op:=HV 134,type:=0,pos:= "questions.go:59",after:=#[],guard:=none},{dst:=none,op:=HW 134 (DD 3) (DD 10),type:=0,pos:= "questions.go:59",after:=#[{on:=7,ground:=DH},{on:=5,ground:=DH},{on:=0,ground:=EI},{on:=0,ground:=Dv},{on:=1,ground:=Dv},{on:=2,ground:=Dv},{on:=3,ground:=Dv},{on:=4,ground:=Dv},{on:=5,ground:=Dv},{on:=6,ground:=FN Ed},{on:=7,ground:=Dv}],guard:=none},{dst:=some 4,op:=Hm (DD 11),type:=4,pos:= "questions.go:59",after:=#[{on:=6,ground:=DH},{on:=8,ground:=EI},{on:=0,ground:=Dv},{on:=1,ground:=Dv},{on:=2,ground:=Dv},{on:=3,ground:=Dv},{on:=4,ground:=Dv},{on:=5,ground:=Dv},{on:=6,ground:=Dv},{on:=7,ground:=Dv},{on:=8,ground:=Dv}],guard:=none}] []) (gA [{dst:=some 6,op:=Ip {callee:=F9 (F5 106),args:=#[],argTypes:=#[]},type:=136,pos:= "questions.go:59",after:=#[],guard:=none},{dst:=some 7,op:=Gu 100 (DD 1) 0,type:=0,pos:= "questions.go:59",after:=#[],guard:=none},{dst:=some 8,op:=Iq 3 (DD 7),type:=3,pos:= "questions.go:59",after:=#[{on:=1,ground:=DH}],guard:=none},{dst:=some 9,op:=Hl 136 (DD 6) (DD 8) true,type:=135,pos:= "questions.go:59",after:=#[{on:=0,ground:=DH},{on:=2,ground:=DH}],guard:=none},{dst:=some 5,op:=Ir (DD 9),type:=135,pos:= "questions.go:59",after:=#[{on:=3,ground:=DH}],guard:=none},{dst:=some 10,op:=Fe (DD 5) 0,type:=134,pos:= "questions.go:59",after:=#[{on:=4,ground:=DH}],guard:=none},{dst:=some 11,op:=Fe (DD 5) 1,type:=4,pos:= "questions.go:59",after:=#[{on:=4,ground:=DH},{on:=8,ground:=FX Ed}],guard:=none},{dst:=some 3,op:=HV 134,type:=0,pos:= "questions.go:59",after:=#[],guard:=none},{dst:=none,op:=HW 134 (DD 3) (DD 10),type:=0,pos:= "questions.go:59",after:=#[{on:=7,ground:=DH},{on:=5,ground:=DH},{on:=0,ground:=EI},{on:=0,ground:=Dv},{on:=1,ground:=Dv},{on:=2,ground:=Dv},{on:=3,ground:=Dv},{on:=4,ground:=Dv},{on:=5,ground:=Dv},{on:=6,ground:=FN Ed},{on:=7,ground:=Dv}],guard:=none},{dst:=some 4,op:=Hm (DD 11),type:=4,pos:= "questions.go:59",after:=#[{on:=6,ground:=DH},{on:=8,ground:=EI},{on:=0,ground:=Dv},{on:=1,ground:=Dv},{on:=2,ground:=Dv},{on:=3,ground:=Dv},{on:=4,ground:=Dv},{on:=5,ground:=Dv},{on:=6,ground:=Dv},{on:=7,ground:=Dv},{on:=8,ground:=Dv}],guard:=none}] (a9 [{dst:=some 6,op:=Ip {callee:=F9 (F5 106),args:=#[],argTypes:=#[]},type:=136,pos:= "questions.go:59",after:=#[],guard:=none},{dst:=some 7,op:=Gu 100 (DD 1) 0,type:=0,pos:= "questions.go:59",after:=#[],guard:=none},{dst:=some 8,op:=Iq 3 (DD 7),type:=3,pos:= "questions.go:59",after:=#[{on:=1,ground:=DH}],guard:=none},{dst:=some 9,op:=Hl 136 (DD 6) (DD 8) true,type:=135,pos:= "questions.go:59",after:=#[{on:=0,ground:=DH},{on:=2,ground:=DH}],guard:=none},{dst:=some 5,op:=Ir (DD 9),type:=135,pos:= "questions.go:59",after:=#[{on:=3,ground:=DH}],guard:=none},{dst:=some 10,op:=Fe (DD 5) 0,type:=134,pos:= "questions.go:59",after:=#[{on:=4,ground:=DH}],guard:=none},{dst:=some 11,op:=Fe (DD 5) 1,type:=4,pos:= "questions.go:59",after:=#[{on:=4,ground:=DH},{on:=8,ground:=FX Ed}],guard:=none},{dst:=some 3,op:=HV 134,type:=0,pos:= "questions.go:59",after:=#[],guard:=none},{dst:=none,op:=HW 134 (DD 3) (DD 10),type:=0,pos:= "questions.go:59",after:=#[{on:=7,ground:=DH},{on:=5,ground:=DH},{on:=0,ground:=EI},{on:=0,ground:=Dv},{on:=1,ground:=Dv},{on:=2,ground:=Dv},{on:=3,ground:=Dv},{on:=4,ground:=Dv},{on:=5,ground:=Dv},{on:=6,ground:=FN Ed},{on:=7,ground:=Dv}],guard:=none},{dst:=some 4,op:=Hm (DD 11),type:=4,pos:= "questions.go:59",after:=#[{on:=6,ground:=DH},{on:=8,ground:=EI},{on:=0,ground:=Dv},{on:=1,ground:=Dv},{on:=2,ground:=Dv},{on:=3,ground:=Dv},{on:=4,ground:=Dv},{on:=5,ground:=Dv},{on:=6,ground:=Dv},{on:=7,ground:=Dv},{on:=8,ground:=Dv}],guard:=none}] []))) (0+1+1+1)) []
 let v3:List Blk:=[.map [(int 1,Dy [int 4095,fq 118],0),(int 2,Dy [int 0,fq 119],1),(int 3,Dy [int 10000,fq 119],2),(int 4,Dy [int 0,fq 119],3),(int 5,Dy [int 255,fq 120],4)] 0]
 let v4:=Ew [Dy v1,bool false]
 refine zD (int 340) [.nx 1,.late,.call (.ref (.mp 1)) (r9 k st obj term),.ov 9 (Ew [Dy [int 0,lit DT],bool false]),.b true] (.c (@bk ([.var v2])) (.c (show aR Di (r9 k st obj term) 136 (.ref (.mp 1)) (int k) true=some v4 from ?_) (.e (.ref (.ptr 0 0)) (.e (.ref (.ptr 0 0)) (.e (.ref (.ptr 0 0)) (.e (int k) (.e (int k) (.e (int k) (.c (show aR Di v3 136 (.ref (.mp 0)) (evalD Γ0 v0 (DD 8)) true=some v4 from ?_) (.c (show aR Di v3 136 (.ref (.mp 0)) (evalD Γ0 v0 (DD 8)) true=some v4 from ?_) (.c (show(!false||Qd (st<0)||Qd (st≥20000)||Qd (term<0)||Qd (term≥1024)||Qd (obj<0)||Qd (obj>0))=true from rfl) .n))))))))))) h (by subst v1 v2 v0 v3 v4;first|rfl|(simp at hc0))<;>subst v1 v2 v0 v3 v4<;>(first|assumption|rfl|exact lkQ h1 h2 h3 h4 h5 rfl|exact lkQ2 h1 h2 h3 h4 h5)
theorem rkN_a{k st obj term:Int}(h1:(k==1)=false)(h2:(k==2)=false)(h3:(k==3)=false)(h4:(k==4)=false)(h5:(k==5)=false)(h:List Blk):(Ev Di Γ0 81 [.agg [int k,int st,int obj,int term]] h (int 340) h):=by
 exact z0 [.b false,.b false,.b false,.b false,.b false] (.c h1 (.c h2 (.c h4 (.c h3 (.c h5 .n))))) h
theorem kinds_cases(k:Int):k=1∨k=2∨k=3∨k=4∨k=5∨(¬k=1∧¬k=2∧¬k=3∧¬k=4∧¬k=5):=by omega
theorem vu(q:QuT)(h:List Blk):Ev Di Γ0 93 [ag q.row] h (int (ef q)) h:=by
 obtain⟨k,st,obj,term⟩:=q
 rcases kinds_cases k with rfl|rfl|rfl|rfl|rfl|⟨h1,h2,h3,h4,h5⟩
 ·exact qk1_a h
 ·exact qk2_a h
 ·exact qk3_a h
 ·exact qk4_a h
 ·exact qk5_a h
 ·have:ef ⟨k,st,obj,term⟩=340:=by simp[ef,AY,h1,h2,h3,h4,h5]
  rw[this];exact qkN_a h1 h2 h3 h4 h5 h
theorem vv(q:QuT)(h:List Blk):Ev Di Γ0 81 [ag q.row] h (int (ef q)) h:=by
 obtain⟨k,st,obj,term⟩:=q
 rcases kinds_cases k with rfl|rfl|rfl|rfl|rfl|⟨h1,h2,h3,h4,h5⟩
 ·exact rk1_a h
 ·exact rk2_a h
 ·exact rk3_a h
 ·exact rk4_a h
 ·exact rk5_a h
 ·have:ef ⟨k,st,obj,term⟩=340:=by simp[ef,AY,h1,h2,h3,h4,h5]
  rw[this];exact rkN_a (by simp[h1]) (by simp[h2]) (by simp[h3]) (by simp[h4]) (by simp[h5]) h
def lD(b c:BuT):Bool:=b.sec==c.sec&&(b.lab==c.lab&&true)
abbrev biS(l:List BuT)(b:BuT)(i:Int):AS:={t:=mkT 19 0 [(0,aa (l.map Dn)),(3,.ref (.ptr 0 0)),(7,int ((l.map Dn).length:Int)),(8,int i)],h:=[.var (b.row.map .p)],m:=[]}
theorem bi_body{l:List BuT}{b c:BuT}{i:Nat}(hr:ad (i:Int) (l.map Dn) c.row 2)(hlt:Qd ((i:Int)<((l.map Dn).length:Int))=true)(hw:Dk.wrap ((i:Int)+1)=((i+1:Nat):Int))(hb:(b.sec==c.sec&&(b.lab==c.lab&&true))=false):(CW Di Γ0 [] false (sub He 0) (biS l b i) .normal (biS l b ((i+1:Nat):Int))):=by
 refine zX {t:=mkT 19 0 [(0,aa (Dh Dn l)),(3,.ref (.ptr 0 0)),(7,int (↑(Dl (Dh Dn l)):Int)),(8,int (Ds Dk ((↑i:Int)+1)))],h:=[.var [int b.sec,int b.lab]],m:=[]} DZ [.st (.mask [0,3,7,8])] [.b true,.row [vi c.sec,vi c.lab],.b false] (.c hlt (.c hr (.c hb .n))) ?_ ?_<;>(first|rfl|(rw[hw]<;>rfl))
theorem bi_hit{l:List BuT}{b c:BuT}{i:Nat}(hr:ad (i:Int) (l.map Dn) c.row 2)(hlt:Qd ((i:Int)<((l.map Dn).length:Int))=true)(hb:(b.sec==c.sec&&(b.lab==c.lab&&true))=true):(CW Di Γ0 [] false (sub He 0) (biS l b i) .ret {t:=mkT 19 0 [(4,int (i:Int))],h:=[.var (b.row.map .p)],m:=[]}):=by
 exact zx [.st (.mask [4])] [.b true,.row [vi c.sec,vi c.lab],.b true] (.c hlt (.c hr (.c hb .n)))
theorem AZ{l:List BuT}{b:BuT}{i:Nat}(hlt:Qd ((i:Int)<((l.map Dn).length:Int))=false):(CW Di Γ0 [] false (sub He 0) (biS l b i) (.exit 0) {t:=mkT 19 0 [],h:=[.var (b.row.map .p)],m:=[]}):=by
 exact zx [.st (.mask [])] [.b false] (.c hlt .n)
def biF(b c:BuT)(i:Nat):Nat⊕Nat:=match lD b c with
 | true=>.inr i
 | false=>.inl (i+1)
theorem A1{l:List BuT}{b:BuT}(hl:ai l):CW Di Γ0 [] false (.loop (sub He 0)) (biS l b 0) (af (.exit 0) (fun _:Nat=>{t:=mkT 19 0 [],h:=[.var (b.row.map .p)],m:=[]}) (fun i:Nat=>(.ret,{t:=mkT 19 0 [(4,int (i:Int))],h:=[.var (b.row.map .p)],m:=[]})) (forL (biF b) l 0)).1 (af (.exit 0) (fun _:Nat=>{t:=mkT 19 0 [],h:=[.var (b.row.map .p)],m:=[]}) (fun i:Nat=>(.ret,{t:=mkT 19 0 [(4,int (i:Int))],h:=[.var (b.row.map .p)],m:=[]})) (forL (biF b) l 0)).2:=by
 refine CW.each l (biF b) (fun i _=>biS l b (i:Int)) (.exit 0) _ _ (fun i s=>s=i) (by simp) (fun _=>by simp) ?_ ?_ 0 rfl
 ·intro i c s hc hs
  subst hs
  have hi:=(Dq.1 hc).1
  cases hb:lD b c with
  | true =>
   have e:biF b c s=.inr s:=by unfold biF;rw[hb]
   rw[e]
   exact⟨fun _ h=>(by cases h),bi_hit (rowAt hc rfl) (lt_len Dn hi) hb⟩
  | false =>
   have e:biF b c s=.inl (s+1):=by unfold biF;rw[hb]
   rw[e]
   exact⟨fun _ h=>(by cases h;rfl),bi_body (rowAt hc rfl) (lt_len Dn hi) (wrap_succ hi hl) hb⟩
 ·intro s _
  exact AZ (aY Dn l)
theorem bi_no{l:List BuT}{b:BuT}(hcw:CW Di Γ0 [] false (.loop (sub He 0)) (biS l b 0) (.exit 0) {t:=mkT 19 0 [],h:=[.var (b.row.map .p)],m:=[]})(h:List Blk):(Ev Di Γ0 105 [aa (l.map Dn),ag b.row] h (int (-1)) h):=by
 have hl0:=(@hcw)
 exact z0 [.sum [0,3,7,8] (DV 0) {t:=mkT 19 0 [],h:=[.var [int b.sec,int b.lab]],m:=[]}] (.c hl0 .n) h
theorem bi_yes{l:List BuT}{b:BuT}{i:Nat}(hcw:CW Di Γ0 [] false (.loop (sub He 0)) (biS l b 0) .ret {t:=mkT 19 0 [(4,int (i:Int))],h:=[.var (b.row.map .p)],m:=[]})(h:List Blk):(Ev Di Γ0 105 [aa (l.map Dn),ag b.row] h (int (i:Int)) h):=by
 have hl0:=(@hcw)
 exact z0 [.sum [0,3,7,8] (Ee) {t:=mkT 19 0 [(4,int (↑i:Int))],h:=[.var [int b.sec,int b.lab]],m:=[]}] (.c hl0 .n) h
def biR(b:BuT)(l:List BuT):Int:=match forL (biF b) l 0 with
 | .inl _ => -1
 | .inr i=>(i:Int)
theorem vw{l:List BuT}{b:BuT}(hl:ai l)(h:List Blk):Ev Di Γ0 105 [aa (l.map Dn),ag b.row] h (int (biR b l)) h:=by
 have h1:=A1 (b:=b) hl
 unfold biR
 cases e:forL (biF b) l 0 with
 | inl _=>rw[e] at h1;exact bi_no h1 h
 | inr i=>rw[e] at h1;exact bi_yes h1 h
theorem A2(b:BuT)(l:List BuT):Qd (biR b l≥0)=l.any (lD b):=by
 have key:∀(l:List BuT) (s:Nat),(match forL (biF b) l s with | .inl _=>false | .inr _=>true)=l.any (lD b):=by
  intro l
  induction l with
  | nil=>intro s;rfl
  | cons c l ih =>
   intro s
   simp only[forL,biF,List.any_cons]
   cases hb:lD b c with
   | true=>rfl
   | false=>simpa using ih (s+1)
 rw[←key l 0]
 unfold biR
 cases forL (biF b) l 0<;>simp
theorem A3{l:List BuT}{b:BuT}(hl:ai l)(h:List Blk):(Ev Di Γ0 92 [aa (l.map Dn),ag b.row] h (bool (Qd (biR b l≥0))) h):=by
 exact z0 [.val (int (biR b l))] (.c (@vw l b hl ([.var [int b.sec,int b.lab]])) .n) h
theorem xF{l:List BuT}{b:BuT}(hl:ai l)(h:List Blk):Ev Di Γ0 92 [aa (l.map Dn),ag b.row] h (bool (l.any (lD b))) h:=by
 rw[←A2];exact A3 hl h
abbrev rqk(a b:Int)(g k:Bool):List Dp:=[vi a,vi b,.v (.bool g),.v (.bool k)]
def vz:List Dp:=rqk 0 0 false false++rqk 1 8 false true++rqk 0 0 true false++rqk 1 1 true false++rqk 1 1 false false++rqk 1 1 false false
def Γq:ae:=fun g=>match g with|0=>some vz|1=>some [.v (.iface 157 (.agg #[.pointer (some ⟨3,111,none⟩)]))]|_=>none
abbrev rqD(k:Int)(r:RqT):List D:=[int r.campus,int r.no,int r.st,int k,int r.time,aa (r.chs.map Dn),int r.gsec,int r.glab,int r.key]
abbrev rlH(k:Int)(r:RqT)(a b:Int)(g kk:Bool):List Blk:=[.var (rqD k r),.var [int a,int b,bool g,bool kk]]
abbrev rlS(k:Int)(r:RqT)(a b:Int)(g kk:Bool)(n:Int)(ok:Bool)(i:Int):AS:={t:=mkT 147 0 [(1,.ref (.ptr 0 0)),(3,.ref (.ptr 1 0)),(4,int n),(5,bool ok),(74,aa (r.chs.map Dn)),(75,int ((r.chs.map Dn).length:Int)),(76,int i)],h:=rlH k r a b g kk,m:=[]}
abbrev rlE(k:Int)(r:RqT)(a b:Int)(g kk:Bool)(n:Int)(ok:Bool):AS:={t:=mkT 147 0 [(1,.ref (.ptr 0 0)),(3,.ref (.ptr 1 0)),(4,int n),(5,bool ok)],h:=rlH k r a b g kk,m:=[]}
theorem sl_to{α:Type}{row:α→List Dp}{sz:Nat}(hz:∀a,(row a).length=sz){l:List α}{i:Nat}(hs:i≤(l.map row).length):
  some ((d6 0 (i:Int) (l.map row).length&&true&&(true||false)&&(l.map row).all fun r=>Qd (r.length=sz)),aa (DY ((i:Int).toNat - (0:Int).toNat) (Ep (0:Int).toNat (l.map row))))=some (true,aa ((l.map row).take i)):=by
 have h1:d6 0 (i:Int) (l.map row).length=true:=by
  unfold d6
  simp only[Bool.and_eq_true,decide_eq_true_eq]
  omega
 have h2:((l.map row).all fun r=>Qd (r.length=sz))=true:=List.all_eq_true.2 fun r hr=>by
  obtain⟨a,_,rfl⟩:=List.mem_map.1 hr
  simp[hz]
 rw[h1,h2]
 rfl
theorem rl_f{k:Int}{r:RqT}{a b:Int}{g kk:Bool}{n:Int}{c:BuT}{i:Nat}(hr:ad (i:Int) (r.chs.map Dn) c.row 2)(hlt:Qd ((i:Int)<((r.chs.map Dn).length:Int))=true)(hw:Dk.wrap ((i:Int)+1)=((i+1:Nat):Int)):(CW Di Γq [] false (sub FM 0) (rlS k r a b g kk n false i) .normal (rlS k r a b g kk n false ((i+1:Nat):Int))):=by
 refine zX {t:=mkT 147 0 [(1,.ref (.ptr 0 0)),(3,.ref (.ptr 1 0)),(4,int n),(5,bool false),(74,aa (Dh Dn r.chs)),(75,int (↑(Dl (Dh Dn r.chs)):Int)),(76,int (Ds Dk ((↑i:Int)+1)))],h:=[.var [int r.campus,int r.no,int r.st,int k,int r.time,aa (Dh Dn r.chs),int r.gsec,int r.glab,int r.key],.var [int a,int b,bool g,bool kk]],m:=[]} DZ [.st (.mask [1,3,4,5,74,75,76]),.st (.trim 2)] [.b true,.row [vi c.sec,vi c.lab],.g false,.g false,.ov 85 (bool false),.g false,.g false,.g false,.g false,.g false,.g false,.g false,.ov 94 (bool false)] (.c hlt (.c hr (.f (.f (.c (pkf (D.p (DS (DF {toList:=[]}))) (bool false) rfl) (.f (.f (.f (.f (.f (.f (.f (.c (pkf (D.p (DS (DF {toList:=[]}))) (bool false) rfl) .n))))))))))))) ?_ ?_<;>(first|rfl|(rw[hw]<;>rfl))
noncomputable abbrev A4(k:Int)(r:RqT)(a:Int)(b:Int)(g:Bool)(kk:Bool)(c:BuT):List Blk:=[.var [int r.campus,int r.no,int r.st,int k,int r.time,aa (Dh Dn r.chs),int r.gsec,int r.glab,int r.key],.var [int a,int b,bool g,bool kk],.var [int c.sec,int c.lab]]
theorem rl_1{k:Int}{r:RqT}{a b:Int}{g kk:Bool}{n:Int}{c:BuT}{i:Nat}(hr:ad (i:Int) (r.chs.map Dn) c.row 2)(hlt:Qd ((i:Int)<((r.chs.map Dn).length:Int))=true)(hw:Dk.wrap ((i:Int)+1)=((i+1:Nat):Int))(hf:buB c=false):(CW Di Γq [] false (sub FM 0) (rlS k r a b g kk n true i) .normal (rlS k r a b g kk n false ((i+1:Nat):Int))):=by
 refine zX {t:=mkT 147 0 [(1,.ref (.ptr 0 0)),(3,.ref (.ptr 1 0)),(4,int n),(5,bool false),(74,aa (Dh Dn r.chs)),(75,int (↑(Dl (Dh Dn r.chs)):Int)),(76,int (Ds Dk ((↑i:Int)+1)))],h:=[.var [int r.campus,int r.no,int r.st,int k,int r.time,aa (Dh Dn r.chs),int r.gsec,int r.glab,int r.key],.var [int a,int b,bool g,bool kk]],m:=[]} DZ [.st (.mask [1,3,4,5,74,75,76]),.st (.trim 2)] [.b true,.row [vi c.sec,vi c.lab],.g true,.g true,.val (bool (buB c)),.ov 85 (bool (buB c)),.g false,.g false,.g false,.g false,.g false,.g false,.g false,.ov 94 (bool false)] (.c hlt (.c hr (.c (show(true==true)=true from rfl) (.c (show(true==true)=true from rfl) (.c (DL (Γ':=Γq) (@gR c (A4 k r a b g kk c))) (.c (pkt (bool (buB c)) (bool false) rfl) (.c (show(buB c==true)=false from(by rw[hf]<;>rfl)) (.c (show(buB c==true)=false from(by rw[hf]<;>rfl)) (.c (show(buB c==true)=false from(by rw[hf]<;>rfl)) (.c (show(buB c==true)=false from(by rw[hf]<;>rfl)) (.c (show(buB c==true)=false from(by rw[hf]<;>rfl)) (.c (show(buB c==true)=false from(by rw[hf]<;>rfl)) (.c (show(buB c==true)=false from(by rw[hf]<;>rfl)) (.c (pkf (D.p (DS (DF {toList:=[]}))) (bool false) hf) .n)))))))))))))) ?_ ?_<;>(first|rfl|(rw[hw]<;>rfl))
noncomputable abbrev vA(k:Int)(r:RqT)(a:Int)(b:Int)(g:Bool)(kk:Bool)(c:BuT):List Blk:=[.var [int r.campus,int r.no,int r.st,int k,int r.time,aa (Dh Dn r.chs),int r.gsec,int r.glab,int r.key],.var [int a,int b,bool g,bool kk],.var [int c.sec,int c.lab]]
theorem rl_2{k:Int}{r:RqT}{a b:Int}{g kk:Bool}{n:Int}{c:BuT}{i:Nat}(hr:ad (i:Int) (r.chs.map Dn) c.row 2)(hlt:Qd ((i:Int)<((r.chs.map Dn).length:Int))=true)(hw:Dk.wrap ((i:Int)+1)=((i+1:Nat):Int))(hf:buB c=true)(hsl:i≤(r.chs.map Dn).length)(hct:∀h,Ev Di Γ0 92 [aa ((r.chs.map Dn).take i),ag c.row] h (bool true) h):(CW Di Γq [] false (sub FM 0) (rlS k r a b g kk n true i) .normal (rlS k r a b g kk n false ((i+1:Nat):Int))):=by
 refine zX {t:=mkT 147 0 [(1,.ref (.ptr 0 0)),(3,.ref (.ptr 1 0)),(4,int n),(5,bool !true),(74,aa (Dh Dn r.chs)),(75,int (↑(Dl (Dh Dn r.chs)):Int)),(76,int (Ds Dk ((↑i:Int)+1)))],h:=[.var [int r.campus,int r.no,int r.st,int k,int r.time,aa (Dh Dn r.chs),int r.gsec,int r.glab,int r.key],.var [int a,int b,bool g,bool kk]],m:=[]} DZ [.st (.mask [1,3,4,5,74,75,76]),.st (.trim 2)] [.b true,.row [vi c.sec,vi c.lab],.g true,.g true,.val (bool (buB c)),.ov 85 (bool (buB c)),.g true,.g true,.g true,.g true,.ov 90 (aa (DY i (Dh Dn r.chs))),.g true,.g true,.val (bool true),.g true,.ov 94 (bool !true)] (.c hlt (.c hr (.c (show(true==true)=true from rfl) (.c (show(true==true)=true from rfl) (.c (DL (Γ':=Γq) (@gR c (vA k r a b g kk c))) (.c (pkt (bool (buB c)) (bool false) rfl) (.c (show(buB c==true)=true from(by rw[hf]<;>rfl)) (.c (show(buB c==true)=true from(by rw[hf]<;>rfl)) (.c (show(buB c==true)=true from(by rw[hf]<;>rfl)) (.c (show(buB c==true)=true from(by rw[hf]<;>rfl)) (.c (show some (d6 0 (↑i:Int) (Dl (Dh Dn r.chs))&&true&&(true||It (Option.map (evalD Γq (mkT 147 0 [(1,.ref (.ptr 0 0)),(3,.ref (.ptr 1 0)),(4,int n),(5,bool true),(6,int (↑i:Int)),(7,.ref (.ptr 2 0)),(74,aa (Dh Dn r.chs)),(75,int (↑(Dl (Dh Dn r.chs)):Int)),(76,int (↑i:Int)),(77,bool (Qd ((↑i:Int)<(↑(Dl (Dh Dn r.chs)):Int)))),(78,int (↑i:Int)),(79,D.ep [vi c.sec,vi c.lab]),(80,Dy [int c.sec,int c.lab]),(81,bool true),(82,bool true),(83,Dy [int c.sec,int c.lab]),(84,bool (buB c)),(85,bool (buB c)),(86,bool (buB c)),(87,.ref (.ptr 0 5)),(88,aa (Dh Dn r.chs)),(89,int (↑i:Int))])) (some (DD 89))))&&List.all (Dh Dn r.chs) fun r=>Qd (Dl r=2),aa (DY (Dz (↑i:Int) - Dz 0) (Ep (Dz 0) (Dh Dn r.chs))))=some (true,aa (DY i (Dh Dn r.chs))) from(by first|(simp only[hlt,hf];done)|first|assumption|rfl|exact sl_to (row:=Dn) (fun _=>rfl) hsl)) (.c (show(buB c==true)=true from(by rw[hf]<;>rfl)) (.c (show(buB c==true)=true from(by rw[hf]<;>rfl)) (.c (DL (Γ':=Γq) (@hct (vA k r a b g kk c))) (.c (show(buB c==true)=true from(by rw[hf]<;>rfl)) (.c (pkt (bool !true) (bool false) hf) .n)))))))))))))))) ?_ ?_<;>(first|rfl|(rw[hw]<;>rfl))
noncomputable abbrev vB(k:Int)(r:RqT)(a:Int)(b:Int)(g:Bool)(kk:Bool)(c:BuT):List Blk:=[.var [int r.campus,int r.no,int r.st,int k,int r.time,aa (Dh Dn r.chs),int r.gsec,int r.glab,int r.key],.var [int a,int b,bool g,bool kk],.var [int c.sec,int c.lab]]
theorem rl_3{k:Int}{r:RqT}{a b:Int}{g kk:Bool}{n:Int}{c:BuT}{i:Nat}(hr:ad (i:Int) (r.chs.map Dn) c.row 2)(hlt:Qd ((i:Int)<((r.chs.map Dn).length:Int))=true)(hw:Dk.wrap ((i:Int)+1)=((i+1:Nat):Int))(hf:buB c=true)(hsl:i≤(r.chs.map Dn).length)(hct:∀h,Ev Di Γ0 92 [aa ((r.chs.map Dn).take i),ag c.row] h (bool false) h):(CW Di Γq [] false (sub FM 0) (rlS k r a b g kk n true i) .normal (rlS k r a b g kk n true ((i+1:Nat):Int))):=by
 refine zX {t:=mkT 147 0 [(1,.ref (.ptr 0 0)),(3,.ref (.ptr 1 0)),(4,int n),(5,bool !false),(74,aa (Dh Dn r.chs)),(75,int (↑(Dl (Dh Dn r.chs)):Int)),(76,int (Ds Dk ((↑i:Int)+1)))],h:=[.var [int r.campus,int r.no,int r.st,int k,int r.time,aa (Dh Dn r.chs),int r.gsec,int r.glab,int r.key],.var [int a,int b,bool g,bool kk]],m:=[]} DZ [.st (.mask [1,3,4,5,74,75,76]),.st (.trim 2)] [.b true,.row [vi c.sec,vi c.lab],.g true,.g true,.val (bool (buB c)),.ov 85 (bool (buB c)),.g true,.g true,.g true,.g true,.ov 90 (aa (DY i (Dh Dn r.chs))),.g true,.g true,.val (bool false),.g true,.ov 94 (bool !false)] (.c hlt (.c hr (.c (show(true==true)=true from rfl) (.c (show(true==true)=true from rfl) (.c (DL (Γ':=Γq) (@gR c (vB k r a b g kk c))) (.c (pkt (bool (buB c)) (bool false) rfl) (.c (show(buB c==true)=true from(by rw[hf]<;>rfl)) (.c (show(buB c==true)=true from(by rw[hf]<;>rfl)) (.c (show(buB c==true)=true from(by rw[hf]<;>rfl)) (.c (show(buB c==true)=true from(by rw[hf]<;>rfl)) (.c (show some (d6 0 (↑i:Int) (Dl (Dh Dn r.chs))&&true&&(true||It (Option.map (evalD Γq (mkT 147 0 [(1,.ref (.ptr 0 0)),(3,.ref (.ptr 1 0)),(4,int n),(5,bool true),(6,int (↑i:Int)),(7,.ref (.ptr 2 0)),(74,aa (Dh Dn r.chs)),(75,int (↑(Dl (Dh Dn r.chs)):Int)),(76,int (↑i:Int)),(77,bool (Qd ((↑i:Int)<(↑(Dl (Dh Dn r.chs)):Int)))),(78,int (↑i:Int)),(79,D.ep [vi c.sec,vi c.lab]),(80,Dy [int c.sec,int c.lab]),(81,bool true),(82,bool true),(83,Dy [int c.sec,int c.lab]),(84,bool (buB c)),(85,bool (buB c)),(86,bool (buB c)),(87,.ref (.ptr 0 5)),(88,aa (Dh Dn r.chs)),(89,int (↑i:Int))])) (some (DD 89))))&&List.all (Dh Dn r.chs) fun r=>Qd (Dl r=2),aa (DY (Dz (↑i:Int) - Dz 0) (Ep (Dz 0) (Dh Dn r.chs))))=some (true,aa (DY i (Dh Dn r.chs))) from(by first|(simp only[hlt,hf];done)|first|assumption|rfl|exact sl_to (row:=Dn) (fun _=>rfl) hsl)) (.c (show(buB c==true)=true from(by rw[hf]<;>rfl)) (.c (show(buB c==true)=true from(by rw[hf]<;>rfl)) (.c (DL (Γ':=Γq) (@hct (vB k r a b g kk c))) (.c (show(buB c==true)=true from(by rw[hf]<;>rfl)) (.c (pkt (bool !false) (bool false) hf) .n)))))))))))))))) ?_ ?_<;>(first|rfl|(rw[hw]<;>rfl))
theorem A5{k:Int}{r:RqT}{a b:Int}{g kk:Bool}{n:Int}{ok:Bool}{i:Nat}(hlt:Qd ((i:Int)<((r.chs.map Dn).length:Int))=false):(CW Di Γq [] false (sub FM 0) (rlS k r a b g kk n ok i) (.exit 0) (rlE k r a b g kk n ok)):=by
 exact zx [.st (.mask [1,3,4,5])] [.b false] (.c hlt .n)
def pQ(pre:List BuT):List BuT→Bool
 | []=>true
 | c::l=>buB c&&!pre.any (lD c)&&pQ (pre++[c]) l
theorem kQ{k:Int}{r:RqT}{a b:Int}{g kk:Bool}{n:Int}(hl:ai r.chs)(ok:Bool):CW Di Γq [] false (.loop (sub FM 0)) (rlS k r a b g kk n ok 0) (.exit 0) (rlE k r a b g kk n (ok&&pQ [] r.chs)):=by
 refine CW.loop (ι:={p:Nat×Bool // p.1≤r.chs.length∧(ok&&pQ [] r.chs)=(p.2&&pQ (r.chs.take p.1) (r.chs.drop p.1))}) (fun p=>rlS k r a b g kk n p.1.2 (p.1.1:Int)) (fun _=>(.exit 0,rlE k r a b g kk n (ok&&pQ [] r.chs))) (fun p=>r.chs.length - p.1.1) ?_ ⟨(0,ok),by simp,by simp⟩
 rintro⟨⟨i,o⟩,hi,ho⟩
 simp only at hi ho
 by_cases hlt:i<r.chs.length
 ·have hc:r.chs[i]? = some r.chs[i]:=List.getElem?_eq_getElem hlt
  have hd:r.chs.drop i=r.chs[i]::r.chs.drop (i+1):=List.drop_eq_getElem_cons hlt
  have ht:r.chs.take (i+1)=r.chs.take i++[r.chs[i]]:=by rw[List.take_add_one,hc];rfl
  have hr:=rowAt (row:=Dn) (sz:=2) hc rfl
  have hlt2:=lt_len Dn hlt
  have hw:=wrap_succ hlt hl
  have hsl:i≤(r.chs.map Dn).length:=by rw[List.length_map];omega
  have hct:∀h,Ev Di Γ0 92 [aa ((r.chs.map Dn).take i),ag r.chs[i].row] h (bool ((r.chs.take i).any (lD r.chs[i]))) h:=by
   intro h
   rw[←List.map_take]
   exact xF (by unfold ai at *;rw[List.length_take];omega) h
  rw[hd] at ho
  simp only[pQ] at ho
  rw[←ht] at ho
  cases o with
  | false=>exact .inl ⟨⟨(i+1,false),by simp;omega,by rw[ho];simp⟩,by simp;omega,rfl,rl_f hr hlt2 hw⟩
  | true =>
   cases hf:buB r.chs[i] with
   | false=>exact .inl ⟨⟨(i+1,false),by simp;omega,by rw[ho,hf];simp⟩,by simp;omega,rfl,rl_1 hr hlt2 hw hf⟩
   | true =>
    cases ha:(r.chs.take i).any (lD r.chs[i]) with
    | true=>rw[ha] at hct;exact .inl ⟨⟨(i+1,false),by simp;omega,by rw[ho,hf,ha];simp⟩,by simp;omega,rfl,rl_2 hr hlt2 hw hf hsl hct⟩
    | false=>rw[ha] at hct;exact .inl ⟨⟨(i+1,true),by simp;omega,by rw[ho,hf,ha];simp⟩,by simp;omega,rfl,rl_3 hr hlt2 hw hf hsl hct⟩
 ·have:i=r.chs.length:=by omega
  subst this
  rw[List.drop_length] at ho
  simp only[pQ,Bool.and_true] at ho
  have h2:=A5 (k:=k) (r:=r) (a:=a) (b:=b) (g:=g) (kk:=kk) (n:=n) (ok:=o) (aY Dn r.chs)
  refine .inr ⟨by simp,?_⟩
  show CW Di Γq [] false (sub FM 0) (rlS k r a b g kk n o (r.chs.length:Int)) (.exit 0) (rlE k r a b g kk n (ok&&pQ [] r.chs))
  rw[ho]
  exact h2
theorem A6{r:RqT}(hh:(Qd (r.campus<0)||Qd (r.campus≥7)||Qd (r.no<1)||Qd (r.no>1048576)||Qd (r.st<0)||Qd (r.st≥20000)||Qd (r.time<1)||Qd (r.time>1048576)||Qd (r.kind<1)||Qd (r.kind>5))=true)(h:List Blk):(Ev Di Γq 69 [.agg (rqD r.kind r)] h (int 290) h):=by
 exact z0 [.b true] (.c hh .n) h
def rqR1(r:RqT)(ok:Bool):Int:=match !(ok&&(r.gsec==0&&(r.glab==0&&true))&&Qd (r.key≥0)&&Qd (r.key≤1048576)) with
 | true=>290
 | false=>0
theorem rq1_a{r:RqT}{ok:Bool}(hh:(Qd (r.campus<0)||Qd (r.campus≥7)||Qd (r.no<1)||Qd (r.no>1048576)||Qd (r.st<0)||Qd (r.st≥20000)||Qd (r.time<1)||Qd (r.time>1048576)||Qd ((1:Int)<1)||Qd ((1:Int)>5))=false)(hcw:CW Di Γq [] false (.loop (sub FM 0)) (rlS 1 r 1 8 false true ((r.chs.map Dn).length:Int) (Qd (((r.chs.map Dn).length:Int)≥1)&&Qd (((r.chs.map Dn).length:Int)≤8)) 0) (.exit 0) (rlE 1 r 1 8 false true ((r.chs.map Dn).length:Int) ok))(h:List Blk):(Ev Di Γq 69 [.agg (rqD 1 r)] h (int (rqR1 r ok)) h):=by
 have hl0:=(@hcw)
 cases hc1:!(ok&&(r.gsec==0&&(r.glab==0&&true))&&Qd (r.key≥0)&&Qd (r.key≤1048576))
 ·let v0:=aa (Dh Dn r.chs)
  exact zD (int 0) [.b false,.sum [1,3,4,5,74,75,76] (DV 0) {t:=mkT 147 0 [(1,.ref (.ptr 0 0)),(3,.ref (.ptr 1 0)),(4,int (↑(Dl (Dh Dn r.chs)):Int)),(5,bool ok)],h:=[.var [int r.campus,int r.no,int r.st,int 1,int r.time,aa (Dh Dn r.chs),int r.gsec,int r.glab,int r.key],.var [int 1,int 8,bool false,bool true]],m:=[]},.b false,.b true,.b false] (.c hh (.c (show inR 1 6=true from rfl) (.e (.ref (.ptr 0 3)) (.e (.ref (.ptr 0 3)) (.e (int 1) (.e (int 1) (.e (.ref (.ptr 0 5)) (.e (.ref (.ptr 0 5)) (.e (.ref (.ptr 0 5)) (.e v0 (.e v0 (.e v0 (.c hl0 (.er false (.er true (.c hc1 .n)))))))))))))))) h (by subst v0;first|rfl|(simp only[rqR1,hc1];first|done|rfl))
 ·let v0:=aa (Dh Dn r.chs)
  exact zD (int 290) [.b false,.sum [1,3,4,5,74,75,76] (DV 0) {t:=mkT 147 0 [(1,.ref (.ptr 0 0)),(3,.ref (.ptr 1 0)),(4,int (↑(Dl (Dh Dn r.chs)):Int)),(5,bool ok)],h:=[.var [int r.campus,int r.no,int r.st,int 1,int r.time,aa (Dh Dn r.chs),int r.gsec,int r.glab,int r.key],.var [int 1,int 8,bool false,bool true]],m:=[]},.b false,.b true,.b true] (.c hh (.c (show inR 1 6=true from rfl) (.e (.ref (.ptr 0 3)) (.e (.ref (.ptr 0 3)) (.e (int 1) (.e (int 1) (.e (.ref (.ptr 0 5)) (.e (.ref (.ptr 0 5)) (.e (.ref (.ptr 0 5)) (.e v0 (.e v0 (.e v0 (.c hl0 (.er false (.er true (.c hc1 .n)))))))))))))))) h (by subst v0;first|rfl|(simp only[rqR1,hc1];first|done|rfl))
theorem rq2_f{r:RqT}(hh:(Qd (r.campus<0)||Qd (r.campus≥7)||Qd (r.no<1)||Qd (r.no>1048576)||Qd (r.st<0)||Qd (r.st≥20000)||Qd (r.time<1)||Qd (r.time>1048576)||Qd ((2:Int)<1)||Qd ((2:Int)>5))=false)(hcw:CW Di Γq [] false (.loop (sub FM 0)) (rlS 2 r 0 0 true false ((r.chs.map Dn).length:Int) (Qd (((r.chs.map Dn).length:Int)≥0)&&Qd (((r.chs.map Dn).length:Int)≤0)) 0) (.exit 0) (rlE 2 r 0 0 true false ((r.chs.map Dn).length:Int) false))(h:List Blk):(Ev Di Γq 69 [.agg (rqD 2 r)] h (int 290) h):=by
 have hl0:=(@hcw)
 let v0:=aa (Dh Dn r.chs)
 exact z0 [.b false,.sum [1,3,4,5,74,75,76] (DV 0) {t:=mkT 147 0 [(1,.ref (.ptr 0 0)),(3,.ref (.ptr 1 0)),(4,int (↑(Dl (Dh Dn r.chs)):Int)),(5,bool false)],h:=[.var [int r.campus,int r.no,int r.st,int 2,int r.time,aa (Dh Dn r.chs),int r.gsec,int r.glab,int r.key],.var [int 0,int 0,bool true,bool false]],m:=[]},.b true,.g false,.g false,.g false,.ov 103 (bool false),.g false,.g false,.g false,.g false,.g false,.g false,.g false,.g false,.g false,.g false,.g false,.g false,.g false,.ov 118 (bool false),.b false,.b true] (.c hh (.c (show inR 2 6=true from rfl) (.e (.ref (.ptr 0 3)) (.e (.ref (.ptr 0 3)) (.e (int 2) (.e (int 2) (.e (.ref (.ptr 0 5)) (.e (.ref (.ptr 0 5)) (.e (.ref (.ptr 0 5)) (.e v0 (.e v0 (.e v0 (.c hl0 (.er true (.f (.f (.f (.c (pkf (D.p (DS (DF {toList:=[]}))) (bool false) rfl) (.f (.f (.f (.er false (.er false (.er false (.er false (.er false (.er false (.er false (.er false (.er false (.f (.c (pkf (D.p (DS (DF {toList:=[]}))) (bool false) rfl) (.er false (.c (show(!(false&&r.key==0))=true from rfl) .n)))))))))))))))))))))))))))))))))) h
def Dc(r:RqT)(gb:Bool):Int:=match !(gb&&r.key==0) with
 | true=>290
 | false=>0
noncomputable abbrev fc(r:RqT):List Blk:=[.var [int r.campus,int r.no,int r.st,int 2,int r.time,aa (Dh Dn r.chs),int r.gsec,int r.glab,int r.key],.var [int 0,int 0,bool true,bool false]]
theorem rq2_t{r:RqT}{gb:Bool}(hh:(Qd (r.campus<0)||Qd (r.campus≥7)||Qd (r.no<1)||Qd (r.no>1048576)||Qd (r.st<0)||Qd (r.st≥20000)||Qd (r.time<1)||Qd (r.time>1048576)||Qd ((2:Int)<1)||Qd ((2:Int)>5))=false)(hcw:CW Di Γq [] false (.loop (sub FM 0)) (rlS 2 r 0 0 true false ((r.chs.map Dn).length:Int) (Qd (((r.chs.map Dn).length:Int)≥0)&&Qd (((r.chs.map Dn).length:Int)≤0)) 0) (.exit 0) (rlE 2 r 0 0 true false ((r.chs.map Dn).length:Int) true))(hgv:∀h,Ev Di Γ0 91 [.agg [int r.gsec,int r.glab]] h (bool gb) h)(hn:(((r.chs.map Dn).length:Int)==0)=true)(h:List Blk):(Ev Di Γq 69 [.agg (rqD 2 r)] h (int (Dc r gb)) h):=by
 have hl0:=(@hcw)
 cases hc1:gb
 ·let v0:=aa (Dh Dn r.chs)
  exact zD (int 290) [.b false,.sum [1,3,4,5,74,75,76] (DV 0) {t:=mkT 147 0 [(1,.ref (.ptr 0 0)),(3,.ref (.ptr 1 0)),(4,int (↑(Dl (Dh Dn r.chs)):Int)),(5,bool true)],h:=(fc r),m:=[]},.b true,.g true,.g true,.g true,.val (bool gb),.ov 103 (bool gb),.g false,.g false,.g false,.g false,.g false,.g false,.g false,.g false,.g false,.g false,.g false,.g false,.g false,.ov 118 (bool false),.b false,.b true] (.c hh (.c (show inR 2 6=true from rfl) (.e (.ref (.ptr 0 3)) (.e (.ref (.ptr 0 3)) (.e (int 2) (.e (int 2) (.e (.ref (.ptr 0 5)) (.e (.ref (.ptr 0 5)) (.e (.ref (.ptr 0 5)) (.e v0 (.e v0 (.e v0 (.c hl0 (.er true (.c (show(true==true)=true from rfl) (.c (show(true==true)=true from rfl) (.c (show(true==true)=true from rfl) (.c (DL (Γ':=Γq) (@hgv (fc r))) (.c (pkt (bool gb) (bool false) rfl) (.c (show(gb==true)=false from(by subst v0;rw[hc1]<;>rfl)) (.c (show(gb==true)=false from(by subst v0;rw[hc1]<;>rfl)) (.c (show(gb==true)=false from(by subst v0;rw[hc1]<;>rfl)) (.er false (.er false (.er false (.er false (.er false (.er false (.er false (.er false (.er false (.c (show(gb==true)=false from(by subst v0;rw[hc1]<;>rfl)) (.c (pkf (D.p (DS (DF {toList:=[]}))) (bool false) hc1) (.er false (.c (show(!(false&&r.key==0))=true from rfl) .n))))))))))))))))))))))))))))))))))) h (by subst v0;first|rfl|(simp only[Dc,hc1];first|done|rfl))
 ·cases hc2:!(true&&r.key==0)
  ·let v0:=Dl (Dh Dn r.chs)
   let v1:=aa (Dh Dn r.chs)
   exact zD (int 0) [.b false,.sum [1,3,4,5,74,75,76] (DV 0) {t:=mkT 147 0 [(1,.ref (.ptr 0 0)),(3,.ref (.ptr 1 0)),(4,int (↑v0:Int)),(5,bool true)],h:=(fc r),m:=[]},.b true,.g true,.g true,.g true,.val (bool gb),.ov 103 (bool gb),.g true,.g true,.g true,.g false,.g false,.g false,.g false,.g false,.g false,.g false,.g false,.g false,.g true,.ov 117 (bool true),.ov 118 (bool true),.b false,.b false] (.c hh (.c (show inR 2 6=true from rfl) (.e (.ref (.ptr 0 3)) (.e (.ref (.ptr 0 3)) (.e (int 2) (.e (int 2) (.e (.ref (.ptr 0 5)) (.e (.ref (.ptr 0 5)) (.e (.ref (.ptr 0 5)) (.e v1 (.e v1 (.e v1 (.c hl0 (.er true (.c (show(true==true)=true from rfl) (.c (show(true==true)=true from rfl) (.c (show(true==true)=true from rfl) (.c (DL (Γ':=Γq) (@hgv (fc r))) (.c (pkt (bool gb) (bool false) rfl) (.c (show(gb==true)=true from(by subst v0 v1;rw[hc1]<;>rfl)) (.c (show(gb==true)=true from(by subst v0 v1;rw[hc1]<;>rfl)) (.c (show(gb==true)=true from(by subst v0 v1;rw[hc1]<;>rfl)) (.c (show(((↑v0:Int)==0)==false)=false from(by subst v0 v1;rw[hn]<;>rfl)) (.c (show(((↑v0:Int)==0)==false)=false from(by subst v0 v1;rw[hn]<;>rfl)) (.c (show(((↑v0:Int)==0)==false)=false from(by subst v0 v1;rw[hn]<;>rfl)) (.c (show(((↑v0:Int)==0)==false)=false from(by subst v0 v1;rw[hn]<;>rfl)) (.c (show(((↑v0:Int)==0)==false)=false from(by subst v0 v1;rw[hn]<;>rfl)) (.c (show(((↑v0:Int)==0)==false)=false from(by subst v0 v1;rw[hn]<;>rfl)) (.c (show(((↑v0:Int)==0)==false)=false from(by subst v0 v1;rw[hn]<;>rfl)) (.c (show(((↑v0:Int)==0)==false)=false from(by subst v0 v1;rw[hn]<;>rfl)) (.c (show(((↑v0:Int)==0)==false)=false from(by subst v0 v1;rw[hn]<;>rfl)) (.c (show(gb==true)=true from(by subst v0 v1;rw[hc1]<;>rfl)) (.c (pkt (bool true) (D.p (DS (DF {toList:=[]}))) hn) (.c (pkt (bool true) (bool false) hc1) (.er false (.c hc2 .n)))))))))))))))))))))))))))))))))))) h (by subst v0 v1;first|rfl|(simp only[Dc,hc2];first|done|rfl))
  ·let v0:=Dl (Dh Dn r.chs)
   let v1:=aa (Dh Dn r.chs)
   exact zD (int 290) [.b false,.sum [1,3,4,5,74,75,76] (DV 0) {t:=mkT 147 0 [(1,.ref (.ptr 0 0)),(3,.ref (.ptr 1 0)),(4,int (↑v0:Int)),(5,bool true)],h:=(fc r),m:=[]},.b true,.g true,.g true,.g true,.val (bool gb),.ov 103 (bool gb),.g true,.g true,.g true,.g false,.g false,.g false,.g false,.g false,.g false,.g false,.g false,.g false,.g true,.ov 117 (bool true),.ov 118 (bool true),.b false,.b true] (.c hh (.c (show inR 2 6=true from rfl) (.e (.ref (.ptr 0 3)) (.e (.ref (.ptr 0 3)) (.e (int 2) (.e (int 2) (.e (.ref (.ptr 0 5)) (.e (.ref (.ptr 0 5)) (.e (.ref (.ptr 0 5)) (.e v1 (.e v1 (.e v1 (.c hl0 (.er true (.c (show(true==true)=true from rfl) (.c (show(true==true)=true from rfl) (.c (show(true==true)=true from rfl) (.c (DL (Γ':=Γq) (@hgv (fc r))) (.c (pkt (bool gb) (bool false) rfl) (.c (show(gb==true)=true from(by subst v0 v1;rw[hc1]<;>rfl)) (.c (show(gb==true)=true from(by subst v0 v1;rw[hc1]<;>rfl)) (.c (show(gb==true)=true from(by subst v0 v1;rw[hc1]<;>rfl)) (.c (show(((↑v0:Int)==0)==false)=false from(by subst v0 v1;rw[hn]<;>rfl)) (.c (show(((↑v0:Int)==0)==false)=false from(by subst v0 v1;rw[hn]<;>rfl)) (.c (show(((↑v0:Int)==0)==false)=false from(by subst v0 v1;rw[hn]<;>rfl)) (.c (show(((↑v0:Int)==0)==false)=false from(by subst v0 v1;rw[hn]<;>rfl)) (.c (show(((↑v0:Int)==0)==false)=false from(by subst v0 v1;rw[hn]<;>rfl)) (.c (show(((↑v0:Int)==0)==false)=false from(by subst v0 v1;rw[hn]<;>rfl)) (.c (show(((↑v0:Int)==0)==false)=false from(by subst v0 v1;rw[hn]<;>rfl)) (.c (show(((↑v0:Int)==0)==false)=false from(by subst v0 v1;rw[hn]<;>rfl)) (.c (show(((↑v0:Int)==0)==false)=false from(by subst v0 v1;rw[hn]<;>rfl)) (.c (show(gb==true)=true from(by subst v0 v1;rw[hc1]<;>rfl)) (.c (pkt (bool true) (D.p (DS (DF {toList:=[]}))) hn) (.c (pkt (bool true) (bool false) hc1) (.er false (.c hc2 .n)))))))))))))))))))))))))))))))))))) h (by subst v0 v1;first|rfl|(simp only[Dc,hc2];first|done|rfl))
theorem rq3_f{r:RqT}(hh:(Qd (r.campus<0)||Qd (r.campus≥7)||Qd (r.no<1)||Qd (r.no>1048576)||Qd (r.st<0)||Qd (r.st≥20000)||Qd (r.time<1)||Qd (r.time>1048576)||Qd ((3:Int)<1)||Qd ((3:Int)>5))=false)(hcw:CW Di Γq [] false (.loop (sub FM 0)) (rlS 3 r 1 1 true false ((r.chs.map Dn).length:Int) (Qd (((r.chs.map Dn).length:Int)≥1)&&Qd (((r.chs.map Dn).length:Int)≤1)) 0) (.exit 0) (rlE 3 r 1 1 true false ((r.chs.map Dn).length:Int) false))(h:List Blk):(Ev Di Γq 69 [.agg (rqD 3 r)] h (int 290) h):=by
 have hl0:=(@hcw)
 let v0:=aa (Dh Dn r.chs)
 exact z0 [.b false,.sum [1,3,4,5,74,75,76] (DV 0) {t:=mkT 147 0 [(1,.ref (.ptr 0 0)),(3,.ref (.ptr 1 0)),(4,int (↑(Dl (Dh Dn r.chs)):Int)),(5,bool false)],h:=[.var [int r.campus,int r.no,int r.st,int 3,int r.time,aa (Dh Dn r.chs),int r.gsec,int r.glab,int r.key],.var [int 1,int 1,bool true,bool false]],m:=[]},.b true,.g false,.g false,.g false,.ov 103 (bool false),.g false,.g false,.g false,.g false,.g false,.g false,.g false,.g false,.g false,.g false,.g false,.g false,.g false,.ov 118 (bool false),.b false,.b true] (.c hh (.c (show inR 3 6=true from rfl) (.e (.ref (.ptr 0 3)) (.e (.ref (.ptr 0 3)) (.e (int 3) (.e (int 3) (.e (.ref (.ptr 0 5)) (.e (.ref (.ptr 0 5)) (.e (.ref (.ptr 0 5)) (.e v0 (.e v0 (.e v0 (.c hl0 (.er true (.f (.f (.f (.c (pkf (D.p (DS (DF {toList:=[]}))) (bool false) rfl) (.f (.f (.f (.er false (.er false (.er false (.er false (.er false (.er false (.er false (.er false (.er false (.f (.c (pkf (D.p (DS (DF {toList:=[]}))) (bool false) rfl) (.er false (.c (show(!(false&&r.key==0))=true from rfl) .n)))))))))))))))))))))))))))))))))) h
def Dd(r:RqT)(gb:Bool)(c:BuT):Int:=match !(gb&&c.sec != r.gsec&&r.key==0) with
 | true=>290
 | false=>0
noncomputable abbrev fd(r:RqT):List Blk:=[.var [int r.campus,int r.no,int r.st,int 3,int r.time,aa (Dh Dn r.chs),int r.gsec,int r.glab,int r.key],.var [int 1,int 1,bool true,bool false]]
theorem rq3_t{r:RqT}{gb:Bool}(hh:(Qd (r.campus<0)||Qd (r.campus≥7)||Qd (r.no<1)||Qd (r.no>1048576)||Qd (r.st<0)||Qd (r.st≥20000)||Qd (r.time<1)||Qd (r.time>1048576)||Qd ((3:Int)<1)||Qd ((3:Int)>5))=false)(hcw:CW Di Γq [] false (.loop (sub FM 0)) (rlS 3 r 1 1 true false ((r.chs.map Dn).length:Int) (Qd (((r.chs.map Dn).length:Int)≥1)&&Qd (((r.chs.map Dn).length:Int)≤1)) 0) (.exit 0) (rlE 3 r 1 1 true false ((r.chs.map Dn).length:Int) true))(hgv:∀h,Ev Di Γ0 91 [.agg [int r.gsec,int r.glab]] h (bool gb) h){c:BuT}(hn:(((r.chs.map Dn).length:Int)==0)=false)(hc:ad 0 (r.chs.map Dn) c.row 2)(h:List Blk):(Ev Di Γq 69 [.agg (rqD 3 r)] h (int (Dd r gb c)) h):=by
 have hl0:=(@hcw)
 cases hc1:gb
 ·let v0:=aa (Dh Dn r.chs)
  exact zD (int 290) [.b false,.sum [1,3,4,5,74,75,76] (DV 0) {t:=mkT 147 0 [(1,.ref (.ptr 0 0)),(3,.ref (.ptr 1 0)),(4,int (↑(Dl (Dh Dn r.chs)):Int)),(5,bool true)],h:=(fd r),m:=[]},.b true,.g true,.g true,.g true,.val (bool gb),.ov 103 (bool gb),.g false,.g false,.g false,.g false,.g false,.g false,.g false,.g false,.g false,.g false,.g false,.g false,.g false,.ov 118 (bool false),.b false,.b true] (.c hh (.c (show inR 3 6=true from rfl) (.e (.ref (.ptr 0 3)) (.e (.ref (.ptr 0 3)) (.e (int 3) (.e (int 3) (.e (.ref (.ptr 0 5)) (.e (.ref (.ptr 0 5)) (.e (.ref (.ptr 0 5)) (.e v0 (.e v0 (.e v0 (.c hl0 (.er true (.c (show(true==true)=true from rfl) (.c (show(true==true)=true from rfl) (.c (show(true==true)=true from rfl) (.c (DL (Γ':=Γq) (@hgv (fd r))) (.c (pkt (bool gb) (bool false) rfl) (.c (show(gb==true)=false from(by subst v0;rw[hc1]<;>rfl)) (.c (show(gb==true)=false from(by subst v0;rw[hc1]<;>rfl)) (.c (show(gb==true)=false from(by subst v0;rw[hc1]<;>rfl)) (.er false (.er false (.er false (.er false (.er false (.er false (.er false (.er false (.er false (.c (show(gb==true)=false from(by subst v0;rw[hc1]<;>rfl)) (.c (pkf (D.p (DS (DF {toList:=[]}))) (bool false) hc1) (.er false (.c (show(!(false&&r.key==0))=true from rfl) .n))))))))))))))))))))))))))))))))))) h (by subst v0;first|rfl|(simp only[Dd,hc1,Ey,Bool.false_and];first|done|rfl))
 ·cases hc2:!(c.sec != r.gsec&&r.key==0)
  ·let v0:=Dl (Dh Dn r.chs)
   let v1:=aa (Dh Dn r.chs)
   exact zD (int 0) [.b false,.sum [1,3,4,5,74,75,76] (DV 0) {t:=mkT 147 0 [(1,.ref (.ptr 0 0)),(3,.ref (.ptr 1 0)),(4,int (↑v0:Int)),(5,bool true)],h:=(fd r),m:=[]},.b true,.g true,.g true,.g true,.val (bool gb),.ov 103 (bool gb),.g true,.g true,.g true,.g true,.g true,.g true,.row [vi c.sec,vi c.lab],.g true,.g true,.g true,.g true,.g true,.g true,.g true,.ov 117 (bool (c.sec != r.gsec)),.ov 118 (bool (c.sec != r.gsec)),.b false,.b false] (.c hh (.c (show inR 3 6=true from rfl) (.e (.ref (.ptr 0 3)) (.e (.ref (.ptr 0 3)) (.e (int 3) (.e (int 3) (.e (.ref (.ptr 0 5)) (.e (.ref (.ptr 0 5)) (.e (.ref (.ptr 0 5)) (.e v1 (.e v1 (.e v1 (.c hl0 (.er true (.c (show(true==true)=true from rfl) (.c (show(true==true)=true from rfl) (.c (show(true==true)=true from rfl) (.c (DL (Γ':=Γq) (@hgv (fd r))) (.c (pkt (bool gb) (bool false) rfl) (.c (show(gb==true)=true from(by subst v0 v1;rw[hc1]<;>rfl)) (.c (show(gb==true)=true from(by subst v0 v1;rw[hc1]<;>rfl)) (.c (show(gb==true)=true from(by subst v0 v1;rw[hc1]<;>rfl)) (.c (show(((↑v0:Int)==0)==false)=true from(by subst v0 v1;rw[hn]<;>rfl)) (.c (show(((↑v0:Int)==0)==false)=true from(by subst v0 v1;rw[hn]<;>rfl)) (.c (show(((↑v0:Int)==0)==false)=true from(by subst v0 v1;rw[hn]<;>rfl)) (.c hc (.c (show(((↑v0:Int)==0)==false)=true from(by subst v0 v1;rw[hn]<;>rfl)) (.c (show(((↑v0:Int)==0)==false)=true from(by subst v0 v1;rw[hn]<;>rfl)) (.c (show(((↑v0:Int)==0)==false)=true from(by subst v0 v1;rw[hn]<;>rfl)) (.c (show(((↑v0:Int)==0)==false)=true from(by subst v0 v1;rw[hn]<;>rfl)) (.c (show(((↑v0:Int)==0)==false)=true from(by subst v0 v1;rw[hn]<;>rfl)) (.c (show(((↑v0:Int)==0)==false)=true from(by subst v0 v1;rw[hn]<;>rfl)) (.c (show(gb==true)=true from(by subst v0 v1;rw[hc1]<;>rfl)) (.c (pkf (bool true) (bool (c.sec != r.gsec)) hn) (.c (pkt (bool (c.sec != r.gsec)) (bool false) hc1) (.er false (.c hc2 .n))))))))))))))))))))))))))))))))))))) h (by subst v0 v1;first|rfl|(simp only[Dd,hc2,Ey];first|done|rfl))
  ·let v0:=Dl (Dh Dn r.chs)
   let v1:=aa (Dh Dn r.chs)
   exact zD (int 290) [.b false,.sum [1,3,4,5,74,75,76] (DV 0) {t:=mkT 147 0 [(1,.ref (.ptr 0 0)),(3,.ref (.ptr 1 0)),(4,int (↑v0:Int)),(5,bool true)],h:=(fd r),m:=[]},.b true,.g true,.g true,.g true,.val (bool gb),.ov 103 (bool gb),.g true,.g true,.g true,.g true,.g true,.g true,.row [vi c.sec,vi c.lab],.g true,.g true,.g true,.g true,.g true,.g true,.g true,.ov 117 (bool (c.sec != r.gsec)),.ov 118 (bool (c.sec != r.gsec)),.b false,.b true] (.c hh (.c (show inR 3 6=true from rfl) (.e (.ref (.ptr 0 3)) (.e (.ref (.ptr 0 3)) (.e (int 3) (.e (int 3) (.e (.ref (.ptr 0 5)) (.e (.ref (.ptr 0 5)) (.e (.ref (.ptr 0 5)) (.e v1 (.e v1 (.e v1 (.c hl0 (.er true (.c (show(true==true)=true from rfl) (.c (show(true==true)=true from rfl) (.c (show(true==true)=true from rfl) (.c (DL (Γ':=Γq) (@hgv (fd r))) (.c (pkt (bool gb) (bool false) rfl) (.c (show(gb==true)=true from(by subst v0 v1;rw[hc1]<;>rfl)) (.c (show(gb==true)=true from(by subst v0 v1;rw[hc1]<;>rfl)) (.c (show(gb==true)=true from(by subst v0 v1;rw[hc1]<;>rfl)) (.c (show(((↑v0:Int)==0)==false)=true from(by subst v0 v1;rw[hn]<;>rfl)) (.c (show(((↑v0:Int)==0)==false)=true from(by subst v0 v1;rw[hn]<;>rfl)) (.c (show(((↑v0:Int)==0)==false)=true from(by subst v0 v1;rw[hn]<;>rfl)) (.c hc (.c (show(((↑v0:Int)==0)==false)=true from(by subst v0 v1;rw[hn]<;>rfl)) (.c (show(((↑v0:Int)==0)==false)=true from(by subst v0 v1;rw[hn]<;>rfl)) (.c (show(((↑v0:Int)==0)==false)=true from(by subst v0 v1;rw[hn]<;>rfl)) (.c (show(((↑v0:Int)==0)==false)=true from(by subst v0 v1;rw[hn]<;>rfl)) (.c (show(((↑v0:Int)==0)==false)=true from(by subst v0 v1;rw[hn]<;>rfl)) (.c (show(((↑v0:Int)==0)==false)=true from(by subst v0 v1;rw[hn]<;>rfl)) (.c (show(gb==true)=true from(by subst v0 v1;rw[hc1]<;>rfl)) (.c (pkf (bool true) (bool (c.sec != r.gsec)) hn) (.c (pkt (bool (c.sec != r.gsec)) (bool false) hc1) (.er false (.c hc2 .n))))))))))))))))))))))))))))))))))))) h (by subst v0 v1;first|rfl|(simp only[Dd,hc2,Ey];first|done|rfl))
def rqR4(r:RqT)(ok:Bool):Int:=match !(ok&&(r.gsec==0&&(r.glab==0&&true))&&r.key==0) with
 | true=>290
 | false=>0
theorem rq4_a{r:RqT}{ok:Bool}(hh:(Qd (r.campus<0)||Qd (r.campus≥7)||Qd (r.no<1)||Qd (r.no>1048576)||Qd (r.st<0)||Qd (r.st≥20000)||Qd (r.time<1)||Qd (r.time>1048576)||Qd ((4:Int)<1)||Qd ((4:Int)>5))=false)(hcw:CW Di Γq [] false (.loop (sub FM 0)) (rlS 4 r 1 1 false false ((r.chs.map Dn).length:Int) (Qd (((r.chs.map Dn).length:Int)≥1)&&Qd (((r.chs.map Dn).length:Int)≤1)) 0) (.exit 0) (rlE 4 r 1 1 false false ((r.chs.map Dn).length:Int) ok))(h:List Blk):(Ev Di Γq 69 [.agg (rqD 4 r)] h (int (rqR4 r ok)) h):=by
 have hl0:=(@hcw)
 cases hc1:!(ok&&(r.gsec==0&&(r.glab==0&&true))&&r.key==0)
 ·let v0:=aa (Dh Dn r.chs)
  exact zD (int 0) [.b false,.sum [1,3,4,5,74,75,76] (DV 0) {t:=mkT 147 0 [(1,.ref (.ptr 0 0)),(3,.ref (.ptr 1 0)),(4,int (↑(Dl (Dh Dn r.chs)):Int)),(5,bool ok)],h:=[.var [int r.campus,int r.no,int r.st,int 4,int r.time,aa (Dh Dn r.chs),int r.gsec,int r.glab,int r.key],.var [int 1,int 1,bool false,bool false]],m:=[]},.b false,.b false,.b false] (.c hh (.c (show inR 4 6=true from rfl) (.e (.ref (.ptr 0 3)) (.e (.ref (.ptr 0 3)) (.e (int 4) (.e (int 4) (.e (.ref (.ptr 0 5)) (.e (.ref (.ptr 0 5)) (.e (.ref (.ptr 0 5)) (.e v0 (.e v0 (.e v0 (.c hl0 (.er false (.er false (.c hc1 .n)))))))))))))))) h (by subst v0;first|rfl|(simp only[rqR4,hc1];first|done|rfl))
 ·let v0:=aa (Dh Dn r.chs)
  exact zD (int 290) [.b false,.sum [1,3,4,5,74,75,76] (DV 0) {t:=mkT 147 0 [(1,.ref (.ptr 0 0)),(3,.ref (.ptr 1 0)),(4,int (↑(Dl (Dh Dn r.chs)):Int)),(5,bool ok)],h:=[.var [int r.campus,int r.no,int r.st,int 4,int r.time,aa (Dh Dn r.chs),int r.gsec,int r.glab,int r.key],.var [int 1,int 1,bool false,bool false]],m:=[]},.b false,.b false,.b true] (.c hh (.c (show inR 4 6=true from rfl) (.e (.ref (.ptr 0 3)) (.e (.ref (.ptr 0 3)) (.e (int 4) (.e (int 4) (.e (.ref (.ptr 0 5)) (.e (.ref (.ptr 0 5)) (.e (.ref (.ptr 0 5)) (.e v0 (.e v0 (.e v0 (.c hl0 (.er false (.er false (.c hc1 .n)))))))))))))))) h (by subst v0;first|rfl|(simp only[rqR4,hc1];first|done|rfl))
def rqR5(r:RqT)(ok:Bool):Int:=match !(ok&&(r.gsec==0&&(r.glab==0&&true))&&r.key==0) with
 | true=>290
 | false=>0
theorem rq5_a{r:RqT}{ok:Bool}(hh:(Qd (r.campus<0)||Qd (r.campus≥7)||Qd (r.no<1)||Qd (r.no>1048576)||Qd (r.st<0)||Qd (r.st≥20000)||Qd (r.time<1)||Qd (r.time>1048576)||Qd ((5:Int)<1)||Qd ((5:Int)>5))=false)(hcw:CW Di Γq [] false (.loop (sub FM 0)) (rlS 5 r 1 1 false false ((r.chs.map Dn).length:Int) (Qd (((r.chs.map Dn).length:Int)≥1)&&Qd (((r.chs.map Dn).length:Int)≤1)) 0) (.exit 0) (rlE 5 r 1 1 false false ((r.chs.map Dn).length:Int) ok))(h:List Blk):(Ev Di Γq 69 [.agg (rqD 5 r)] h (int (rqR5 r ok)) h):=by
 have hl0:=(@hcw)
 cases hc1:!(ok&&(r.gsec==0&&(r.glab==0&&true))&&r.key==0)
 ·let v0:=aa (Dh Dn r.chs)
  exact zD (int 0) [.b false,.sum [1,3,4,5,74,75,76] (DV 0) {t:=mkT 147 0 [(1,.ref (.ptr 0 0)),(3,.ref (.ptr 1 0)),(4,int (↑(Dl (Dh Dn r.chs)):Int)),(5,bool ok)],h:=[.var [int r.campus,int r.no,int r.st,int 5,int r.time,aa (Dh Dn r.chs),int r.gsec,int r.glab,int r.key],.var [int 1,int 1,bool false,bool false]],m:=[]},.b false,.b false,.b false] (.c hh (.c (show inR 5 6=true from rfl) (.e (.ref (.ptr 0 3)) (.e (.ref (.ptr 0 3)) (.e (int 5) (.e (int 5) (.e (.ref (.ptr 0 5)) (.e (.ref (.ptr 0 5)) (.e (.ref (.ptr 0 5)) (.e v0 (.e v0 (.e v0 (.c hl0 (.er false (.er false (.c hc1 .n)))))))))))))))) h (by subst v0;first|rfl|(simp only[rqR5,hc1];first|done|rfl))
 ·let v0:=aa (Dh Dn r.chs)
  exact zD (int 290) [.b false,.sum [1,3,4,5,74,75,76] (DV 0) {t:=mkT 147 0 [(1,.ref (.ptr 0 0)),(3,.ref (.ptr 1 0)),(4,int (↑(Dl (Dh Dn r.chs)):Int)),(5,bool ok)],h:=[.var [int r.campus,int r.no,int r.st,int 5,int r.time,aa (Dh Dn r.chs),int r.gsec,int r.glab,int r.key],.var [int 1,int 1,bool false,bool false]],m:=[]},.b false,.b false,.b true] (.c hh (.c (show inR 5 6=true from rfl) (.e (.ref (.ptr 0 3)) (.e (.ref (.ptr 0 3)) (.e (int 5) (.e (int 5) (.e (.ref (.ptr 0 5)) (.e (.ref (.ptr 0 5)) (.e (.ref (.ptr 0 5)) (.e v0 (.e v0 (.e v0 (.c hl0 (.er false (.er false (.c hc1 .n)))))))))))))))) h (by subst v0;first|rfl|(simp only[rqR5,hc1];first|done|rfl))
end Go.Vi
open Go Go.Proofs
namespace Go.Vi.As
open Go.RowKit Go.Extern.Stop Go.Stop Go.Extern
set_option maxRecDepth 100000
theorem as_nil(t:Value)(w:World):Calls Di 102 #[.nilIface,t] w fun e w'=>e=.returned (.bool false)∧w'=w:=by
 go_enter Tryz.func102,Tryz.ntmps102
 go_wp2
 go_ret
 exact⟨rfl,rfl⟩
theorem xG(t:Addr)(w:World):(ReflectliteValue.unpack (.iface 129 (.pointer (some t)))).run Di w
  = .ok (.agg #[.pointer (some ⟨3,129,none⟩),.pointer (some ⟨w.heap.size,0,none⟩),.int .u64 150]) (w.alloc (.cells #[.pointer (some t)] 129)):=by kernel_rfl
theorem typeP (a:Addr) (w:World):(ReflectliteValue.methodAny (ReflectliteValue.valueError "reflectlite.Value.Type" 0) (fun t _ _ _=>ReflectliteType.toType t) #[.agg #[.pointer (some ⟨3,129,none⟩),.pointer (some a),.int .u64 150]]).run Di w
  = .ok (.iface 157 (.agg #[.pointer (some ⟨3,129,none⟩)])) w:=by kernel_rfl
theorem mKind (h:Value) (w:World):(IU 596 157 (.agg #[h]) "Kind").run Di w=.ok (365,h) w:=by kernel_rfl
theorem kindP(w:World):((ReflectliteType.abiMethod fun t=>(fun a:Nat=>Value.int IntKind.u8 (a:Int)) <$> Rtype.kind t) #[.pointer (some ⟨3,129,none⟩)]).run Di w=.ok (.int .u8 22) w:=by kernel_rfl
theorem kindE(w:World):((ReflectliteType.abiMethod fun t=>(fun a:Nat=>Value.int IntKind.u8 (a:Int)) <$> Rtype.kind t) #[.pointer (some ⟨3,127,none⟩)]).run Di w=.ok (.int .u8 25) w:=by kernel_rfl
theorem rlm(z:Sem Value)(f:TypeId→Addr→Nat→Nat→Sem Value)(v:Value):
  ReflectliteValue.method z f #[v]=(do match ←ReflectliteValue.parts v with|none=>z|some (t,a,fl)=>f t a fl (fl % 32)):=rfl
theorem zt(a:Addr)(w:World):(ReflectliteValue.parts (.agg #[.pointer (some ⟨3,129,none⟩),.pointer (some a),.int .u64 150])).run Di w=.ok (some (129,a,150)) w:=by kernel_rfl
theorem isNilP(a p:Addr)(W:World)(ha:W.cell? a=some (.pointer (some p))):
  (ReflectliteValue.method (ReflectliteValue.valueError "reflectlite.Value.IsNil" 0) ReflectliteValue.isNil #[.agg #[.pointer (some ⟨3,129,none⟩),.pointer (some a),.int .u64 150]]).run Di W=.ok (.bool false) W:=by
 rw[rlm]
 simp only[DG,zt,EG]
 simp[ReflectliteValue.isNil,loadVar,isAgg,underlying,Jk,ha,EG]
theorem mElem (h:Value) (w:World):(IU 596 157 (.agg #[h]) "Elem").run Di w=.ok (375,.agg #[h]) w:=by kernel_rfl
theorem mImpl (h:Value) (w:World):(IU 596 157 (.agg #[h]) "Implements").run Di w=.ok (376,.agg #[h]) w:=by kernel_rfl
theorem A7 (h:Value) (w:World):(IU 596 157 (.agg #[h]) "AssignableTo").run Di w=.ok (373,.agg #[h]) w:=by kernel_rfl
theorem elemP(w:World):(ReflectliteType.method ReflectliteType.elem #[.agg #[.pointer (some ⟨3,129,none⟩)]]).run Di w=.ok (.iface 157 (.agg #[.pointer (some ⟨3,127,none⟩)])) w:=by kernel_rfl
theorem implE (w:World):(ReflectliteType.relation "Implements" ReflectliteType.implements_ #[.agg #[.pointer (some ⟨3,127,none⟩)],.iface 157 (.agg #[.pointer (some ⟨3,111,none⟩)])]).run Di w=.ok (.bool true) w:=by kernel_rfl
theorem A8(v:Value)(w:World):(ReflectliteType.typeOf #[.iface 127 v]).run Di w=.ok (.iface 157 (.agg #[.pointer (some ⟨3,127,none⟩)])) w:=by kernel_rfl
theorem A9 (w:World):(ReflectliteType.relation "AssignableTo" ReflectliteType.assignableTo #[.agg #[.pointer (some ⟨3,127,none⟩)],.iface 157 (.agg #[.pointer (some ⟨3,127,none⟩)])]).run Di w=.ok (.bool true) w:=by kernel_rfl
theorem xH(e:Int)(w:World):(ReflectliteValue.unpack (.iface 127 (.agg #[.int .i64 e]))).run Di w
  = .ok (.agg #[.pointer (some ⟨3,127,none⟩),.pointer (some ⟨w.heap.size,0,none⟩),.int .u64 153]) (w.alloc (.cells #[.int .i64 e] 127)):=by kernel_rfl
theorem Ba(w:World):(Rtype.elem? 129).run Di w=.ok (some 127) w:=by kernel_rfl
theorem mkE(p:Addr)(w:World):(ReflectliteValue.mk 127 p ReflectliteValue.flagAddr).run Di w=.ok (.agg #[.pointer (some ⟨3,127,none⟩),.pointer (some p),.int .u64 409]) w:=by kernel_rfl
theorem elemV(a p:Addr)(W:World)(ha:W.cell? a=some (.pointer (some p))):
  (ReflectliteValue.method (ReflectliteValue.valueError "reflectlite.Value.Elem" 0) ReflectliteValue.elem #[.agg #[.pointer (some ⟨3,129,none⟩),.pointer (some a),.int .u64 150]]).run Di W
   = .ok (.agg #[.pointer (some ⟨3,127,none⟩),.pointer (some p),.int .u64 409]) W:=by
 rw[rlm]
 simp only[DG,zt,EG]
 simp[ReflectliteValue.elem,loadVar,isAgg,underlying,Jk,ha,EG,Ba,mkE]
theorem partsA(a:Addr)(w:World):(ReflectliteValue.parts (.agg #[.pointer (some ⟨3,127,none⟩),.pointer (some a),.int .u64 409])).run Di w=.ok (some (127,a,409)) w:=by kernel_rfl
theorem partsE(a:Addr)(w:World):(ReflectliteValue.parts (.agg #[.pointer (some ⟨3,127,none⟩),.pointer (some a),.int .u64 153])).run Di w=.ok (some (127,a,153)) w:=by kernel_rfl
theorem Bb(w:World):(Rtype.directlyAssignable 127 127).run Di w=.ok true w:=by kernel_rfl
theorem sizeE(w:World):(sizeOf 127).run Di w=.ok 1 w:=by kernel_rfl
theorem rls(v x:Value):ReflectliteValue.set #[v,x]=(do
  let (some (dst,a,fl),some (src,b,_)):=(←ReflectliteValue.parts v,←ReflectliteValue.parts x)
   | unsupported (.noEntry "extern/(internal/reflectlite.Value).Set.zeroValue")
  if fl / ReflectliteValue.flagAddr % 2==0 then unsupported (.noEntry "extern/(internal/reflectlite.Value).Set.unaddressable")
  let val ←loadVar src b
  if ←Rtype.directlyAssignable dst src then storeVar dst a val
  else if ←Rtype.implements dst src then
   if (←Rtype.kind src)==20 then
    match val with
    | .nilIface=>unsupported (.noEntry "extern/reflectlite: a nil value of one interface type handed on as a value of another")
    | _=>storeVar dst a val
   else storeVar dst a (.iface src val)
  else panicString ("reflectlite.Set: value of type " ++ (←Rtype.spelt src) ++ " is not assignable to type " ++ (←Rtype.spelt dst))
  pure (.tuple #[])):=rfl
theorem setE(ta b:Addr)(e:Int)(old:Value)(W:World)(hb:W.cell? b=some (.int .i64 e))(ht:W.cell? ta=some old)(hf:W.frozen? ta=false):
  (ReflectliteValue.set #[.agg #[.pointer (some ⟨3,127,none⟩),.pointer (some ta),.int .u64 409],.agg #[.pointer (some ⟨3,127,none⟩),.pointer (some b),.int .u64 153]]).run Di W
   = .ok (.tuple #[]) (W.setCell ta (.int .i64 e)):=by
 rw[rls]
 simp only[DG,partsA,partsE,EG]
 simp[ReflectliteValue.flagAddr,loadVar,isAgg,underlying,Tryz.underlying127,hb,EG,Bb,storeVar,Value.cells,storeCells,Addr.add,loadCells,loadCellsFrom]
 rw[run_store Di W ta _ _ (by rfl)]
 simp[ht,hf]
set_option maxHeartbeats 4000000 in
theorem as_hit(e:Int)(t:Addr)(old:Value)(w:World)(hg:w.cell? ⟨1,0,none⟩=some (.iface 157 (.agg #[.pointer (some ⟨3,111,none⟩)])))(ht0:w.cell? t=some old)(hf0:w.frozen? t=false):
  Calls Di 102 #[.iface 127 (.agg #[.int .i64 e]),.iface 129 (.pointer (some t))] w fun ev w'=>ev=.returned (.bool true)∧w'=((((w.alloc (.cells #[.pointer (some t)] 129)).alloc (.cells #[.pointer (some ⟨3,129,none⟩),.pointer (some ⟨w.heap.size,0,none⟩),.int .u64 150] 143)).alloc (.cells #[.pointer (some ⟨3,129,none⟩),.pointer (some ⟨w.heap.size,0,none⟩),.int .u64 150] 143)).alloc (.cells #[.int .i64 e] 127)).setCell t (.int .i64 e):=by
 have h110:=@run_callFunc_extern Di 110 _ (fun args=>ReflectliteValue.unpack (args.getD 0 (.tuple #[]))) Tryz.func110 (by kernel_rfl) (by kernel_rfl) (by kernel_rfl) (by kernel_rfl)
 have h111:=@run_callFunc_extern Di 111 _ (ReflectliteValue.methodAny (ReflectliteValue.valueError "reflectlite.Value.Type" 0) (fun t _ _ _=>ReflectliteType.toType t)) Tryz.func111 (by kernel_rfl) (by kernel_rfl) (by kernel_rfl) (by kernel_rfl)
 have h112:=@run_callFunc_extern Di 112 _ (ReflectliteValue.method (ReflectliteValue.valueError "reflectlite.Value.IsNil" 0) ReflectliteValue.isNil) Tryz.func112 (by kernel_rfl) (by kernel_rfl) (by kernel_rfl) (by kernel_rfl)
 have h365:=@run_callFunc_extern Di 365 _ (ReflectliteType.abiMethod fun t=>do pure (.int .u8 (←Rtype.kind t))) Tryz.func365 (by kernel_rfl) (by kernel_rfl) (by kernel_rfl) (by kernel_rfl)
 have h375:=@run_callFunc_extern Di 375 _ (ReflectliteType.method ReflectliteType.elem) Tryz.func375 (by kernel_rfl) (by kernel_rfl) (by kernel_rfl) (by kernel_rfl)
 have h376:=@run_callFunc_extern Di 376 _ (ReflectliteType.relation "Implements" ReflectliteType.implements_) Tryz.func376 (by kernel_rfl) (by kernel_rfl) (by kernel_rfl) (by kernel_rfl)
 have h121:=@run_callFunc_extern Di 121 _ ReflectliteType.typeOf Tryz.func121 (by kernel_rfl) (by kernel_rfl) (by kernel_rfl) (by kernel_rfl)
 have h373:=@run_callFunc_extern Di 373 _ (ReflectliteType.relation "AssignableTo" ReflectliteType.assignableTo) Tryz.func373 (by kernel_rfl) (by kernel_rfl) (by kernel_rfl) (by kernel_rfl)
 have h122:=@run_callFunc_extern Di 122 _ (ReflectliteValue.method (ReflectliteValue.valueError "reflectlite.Value.Elem" 0) ReflectliteValue.elem) Tryz.func122 (by kernel_rfl) (by kernel_rfl) (by kernel_rfl) (by kernel_rfl)
 have h123:=@run_callFunc_extern Di 123 _ ReflectliteValue.set Tryz.func123 (by kernel_rfl) (by kernel_rfl) (by kernel_rfl) (by kernel_rfl)
 have tO:=A8
 have mA:=A7
 have aE:=A9
 have vE:=xH
 have vP:=xG
 have tP:=typeP
 have mK:=mKind
 have mE:=mElem
 have mI:=mImpl
 have kP:=kindP
 have kE:=kindE
 have eP:=elemP
 have iE:=implE
 have n8:=isNilP ⟨w.heap.size,0,none⟩ t ((w.alloc (.cells #[.pointer (some t)] 129)).alloc (.cells #[.pointer (some ⟨3,129,none⟩),.pointer (some ⟨w.heap.size,0,none⟩),.int .u64 150] 143)) (by simp)
 have hlt:1<w.heap.size:=by
  rcases Nat.lt_or_ge 1 w.heap.size with h|h
  ·exact h
  ·simp[H7,Hb h] at hg
 have hg2:((w.alloc (.cells #[.pointer (some t)] 129)).alloc (.cells #[.pointer (some ⟨3,129,none⟩),.pointer (some ⟨w.heap.size,0,none⟩),.int .u64 150] 143)).cell? ⟨1,0,none⟩=some (.iface 157 (.agg #[.pointer (some ⟨3,111,none⟩)])):=by
  rw[E8 _ _ ⟨1,0,none⟩ (by simp;omega),E8 _ _ ⟨1,0,none⟩ hlt];exact hg
 have htl:t.block<w.heap.size:=by
  rcases Nat.lt_or_ge t.block w.heap.size with h|h
  ·exact h
  ·simp[H7,Hb h] at ht0
 have el:=elemV ⟨w.heap.size,0,none⟩ t (((w.alloc (.cells #[.pointer (some t)] 129)).alloc (.cells #[.pointer (some ⟨3,129,none⟩),.pointer (some ⟨w.heap.size,0,none⟩),.int .u64 150] 143)).alloc (.cells #[.pointer (some ⟨3,129,none⟩),.pointer (some ⟨w.heap.size,0,none⟩),.int .u64 150] 143)) (by rw[E8 _ _ ⟨w.heap.size,0,none⟩ (by simp;omega)];simp)
 have st:=setE t ⟨w.heap.size+1+1+1,0,none⟩ e old ((((w.alloc (.cells #[.pointer (some t)] 129)).alloc (.cells #[.pointer (some ⟨3,129,none⟩),.pointer (some ⟨w.heap.size,0,none⟩),.int .u64 150] 143)).alloc (.cells #[.pointer (some ⟨3,129,none⟩),.pointer (some ⟨w.heap.size,0,none⟩),.int .u64 150] 143)).alloc (.cells #[.int .i64 e] 127))
  (by rw[World.cell?_alloc_at _ _ _ _ (by simp)];rfl)
  (by rw[E8 _ _ t (by simp;omega),E8 _ _ t (by simp;omega),E8 _ _ t (by simp;omega),E8 _ _ t htl];exact ht0)
  (by rw[F1 _ _ t (by simp;omega),F1 _ _ t (by simp;omega),F1 _ _ t (by simp;omega),F1 _ _ t (Nat.ne_of_lt htl)];exact hf0)
 go_enter Tryz.func102,Tryz.ntmps102
 go_wp2
 refine wp_loop_rounds 1 ?_
 rw[rounds_succ]
 go_wp2
 go_ret
 exact⟨rfl,rfl⟩
end Go.Vi.As
