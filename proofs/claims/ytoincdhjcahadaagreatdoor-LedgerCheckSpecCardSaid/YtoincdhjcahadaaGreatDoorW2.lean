/- LedgerCheckSpec: part of the proof: contracts of the functions that the law reaches, and the law. No conditions beyond the given statement's own. -/
import Derived.Test.YtoincdhjcahadaaGreatDoorW1
open Decidable renaming decide → Dd
open Go Go.Proofs
namespace Go.Vi
set_option maxRecDepth 100000
set_option maxHeartbeats 4000000
theorem rk_each{l:List MeT}{i:Nat}{y:MeT}(hl:l.length≤1000)(hi:i<l.length)(hy:l[i]? = some y):CW Tryz.prog Γ0 [] false (.loop (sub Tryz.f100 1)) (rkS l i 0)
  (eachFin (.exit 2) (fun _:Unit=>rkE l i) (fun _:Unit=>(.ret,rkX)) (forL (anyF fun x=>meOv22 x y) (l.take i) ())).1 (eachFin (.exit 2) (fun _:Unit=>rkE l i) (fun _:Unit=>(.ret,rkX)) (forL (anyF fun x=>meOv22 x y) (l.take i) ())).2:=by
 refine CW.each (l.take i) (anyF fun x=>meOv22 x y) (fun j _=>rkS l i (j:Int)) (.exit 2) _ _ (fun _ _=>True) (by simp) (fun _=>by simp) ?_ ?_ () trivial
 ·intro j x s hj _
  have hlt:=(List.getElem?_eq_some_iff.1 hj).1
  rw[List.length_take] at hlt
  have hx:l[j]? = some x:=by
   rw[List.getElem?_take_of_lt (by omega)] at hj;exact hj
  refine⟨fun _ _=>trivial,?_⟩
  cases ho:meOv22 x y with
  | true =>
   rw[anyF_t (p:=fun x=>meOv22 x y) (by simp[ho])]
   exact rk_bad (rowAt hx rfl) (rowAt hy rfl) (by simp;omega) ho
  | false =>
   rw[anyF_f (p:=fun x=>meOv22 x y) (by simp[ho])]
   exact rk_body (rowAt hx rfl) (rowAt hy rfl) (by simp;omega) (wrap_succ (n:=l.length) (by omega) (by omega)) ho
 ·intro s _
  have:(l.take i).length=i:=by rw[List.length_take];omega
  rw[this]
  exact rk_last (by simp)
def r22(pre:List MeT):List MeT→Bool
 | []=>false
 | x::l=>!meB x||pre.any (fun y=>meOv22 y x)||r22 (pre++[x]) l
theorem rk0_loop{l:List MeT}(hl:l.length≤1000):(r22 [] l=true→CW Tryz.prog Γ0 [] false (.loop (sub Tryz.f100 0)) (rkE l 0) .ret rkX)∧(r22 [] l=false→CW Tryz.prog Γ0 [] false (.loop (sub Tryz.f100 0)) (rkE l 0) (.exit 0) {t:=mkT 34 0 [],h:=[],m:=[]}):=by
 have key:∀(i:Nat) (y:MeT),l[i]? = some y→l.take (i+1)=l.take i++[y]∧l.drop i=y::l.drop (i+1):=by
  intro i y hy
  obtain⟨hi,he⟩:=List.getElem?_eq_some_iff.1 hy
  refine⟨?_,by rw[List.drop_eq_getElem_cons hi,he]⟩
  rw[List.take_add_one,hy];rfl
 constructor
 ·intro h
  refine CW.loop (ι:={i:Nat // i≤l.length∧r22 (l.take i) (l.drop i)=true}) (fun p=>rkE l (p.1:Int)) (fun _=>(.ret,rkX)) (fun p=>l.length - p.1) ?_ ⟨0,by omega,by simpa using h⟩
  rintro⟨i,hi,ho⟩
  by_cases hlt:i<l.length
  ·have hy:l[i]? = some l[i]:=List.getElem?_eq_getElem hlt
   obtain⟨k1,k2⟩:=key i _ hy
   rw[k2] at ho
   simp only[r22] at ho
   cases hv:meB l[i] with
   | false=>exact .inr ⟨by simp,rk0_inv (rowAt hy rfl) (lt_len MeT.row hlt) hv⟩
   | true =>
    have he:=rk_each hl hlt hy
    rw[forL_any] at he
    cases ha:(l.take i).any fun x=>meOv22 x l[i] with
    | true=>rw[ha] at he;exact .inr ⟨by simp,rk0_stop (rowAt hy rfl) (lt_len MeT.row hlt) hv he⟩
    | false =>
     rw[ha] at he
     rw[hv,ha,←k1] at ho
     simp only[Bool.not_true,Bool.false_or] at ho
     exact .inl ⟨⟨i+1,by omega,ho⟩,by simp;omega,rfl,rk0_body (rowAt hy rfl) (lt_len MeT.row hlt) (wrap_succ hlt (by omega)) hv he⟩
  ·have:i=l.length:=by omega
   subst this
   simp[r22] at ho
 ·intro h
  refine CW.loop (ι:={i:Nat // i≤l.length∧r22 (l.take i) (l.drop i)=false}) (fun p=>rkE l (p.1:Int)) (fun _=>(.exit 0,{t:=mkT 34 0 [],h:=[],m:=[]})) (fun p=>l.length - p.1) ?_ ⟨0,by omega,by simpa using h⟩
  rintro⟨i,hi,ho⟩
  by_cases hlt:i<l.length
  ·have hy:l[i]? = some l[i]:=List.getElem?_eq_getElem hlt
   obtain⟨k1,k2⟩:=key i _ hy
   rw[k2] at ho
   simp only[r22,Bool.or_eq_false_iff,Bool.not_eq_false'] at ho
   obtain⟨⟨hv,ha⟩,hr⟩:=ho
   have he:=rk_each hl hlt hy
   rw[forL_any,ha] at he
   rw[←k1] at hr
   exact .inl ⟨⟨i+1,by omega,hr⟩,by simp;omega,rfl,rk0_body (rowAt hy rfl) (lt_len MeT.row hlt) (wrap_succ hlt (by omega)) hv he⟩
  ·have:i=l.length:=by omega
   subst this
   exact .inr ⟨by simp,rk0_last (ge_len MeT.row l)⟩
theorem r22_eq:∀(l pre:List MeT),r22 pre l=(l.any (fun x=>!meB x)||l.any (fun x=>pre.any fun y=>meOv22 y x)||ovAll meOv22 l)
 | [],pre=>rfl
 | x::l,pre=>by
  have ha:l.any (fun z=>(pre++[x]).any fun y=>meOv22 y z)=(l.any (fun z=>pre.any fun y=>meOv22 y z)||l.any (meOv22 x)):=by
   rw[Bool.eq_iff_iff]
   simp only[List.any_eq_true,List.any_append,Bool.or_eq_true,List.any_cons,List.any_nil,Bool.or_false]
   constructor
   ·rintro⟨z,hz,h|h⟩
    ·exact .inl ⟨z,hz,h⟩
    ·exact .inr ⟨z,hz,h⟩
   ·rintro (⟨z,hz,h⟩|⟨z,hz,h⟩)
    ·exact⟨z,hz,.inl h⟩
    ·exact⟨z,hz,.inr h⟩
  simp only[r22,r22_eq l (pre++[x]),ha,List.any_cons,ovAll]
  cases meB x<;>cases pre.any (fun y=>meOv22 y x)<;>cases l.any (fun x=>!meB x)<;>cases l.any (fun z=>pre.any fun y=>meOv22 y z)<;>cases l.any (meOv22 x)<;>cases ovAll meOv22 l<;>rfl
theorem meB_lt{m:MeT}(h:meB m=true):m.frm<m.til∧m.fst≤m.lst:=by
 unfold meB at h
 simp only[Bool.and_eq_true,decide_eq_true_eq] at h
 omega
theorem ovAll_eq:∀(l:List MeT),(l.any fun x=>!meB x)=false→ovAll meOv l=ovAll meOv22 l
 | [],_=>rfl
 | a::l,h=>by
  simp only[List.any_cons,Bool.or_eq_false_iff,Bool.not_eq_false'] at h
  obtain⟨ha,hl⟩:=h
  simp only[ovAll,ovAll_eq l hl]
  congr 1
  rw[Bool.eq_iff_iff]
  simp only[List.any_eq_true]
  have key:∀x∈l,meOv a x=meOv22 a x:=fun x hx=>by
   have:=List.any_eq_false.1 hl x hx
   exact meOv_eq (meB_lt ha) (meB_lt (by simpa using this))
  constructor
  ·rintro⟨x,hx,h⟩;exact⟨x,hx,by rw[←key x hx];exact h⟩
  ·rintro⟨x,hx,h⟩;exact⟨x,hx,by rw[key x hx];exact h⟩
theorem mchk22_ev{l:List MeT}(h:List Blk):Ev Tryz.prog Γ0 100 [rowsD' (l.map MeT.row)] h (int (meErr l)) h:=by
 unfold meErr
 cases hb:Dd (((l.map MeT.row).length:Int)>16) with
 | true=>exact rmc_big hb h
 | false =>
  have hl:l.length≤16:=by
   rw[List.length_map] at hb
   simp only[decide_eq_false_iff_not] at hb;omega
  obtain⟨c1,c2⟩:=rk0_loop (l:=l) (by omega)
  have e:=r22_eq l []
  have e0:(l.any fun x=>([]:List MeT).any fun y=>meOv22 y x)=false:=by simp
  rw[e0,Bool.or_false] at e
  cases ha:l.any fun x=>!meB x with
  | true=>exact rmc_bad hb (c1 (by rw[e,ha];rfl)) h
  | false =>
   rw[ha,Bool.false_or,←ovAll_eq l ha] at e
   cases ho:ovAll meOv l with
   | true=>exact rmc_bad hb (c1 (by rw[e,ho])) h
   | false=>exact rmc_ok hb (c2 (by rw[e,ho])) h
def grBad(g:GrT)(last:Int):Bool:=!inW g.grp (IntKind.i64.wrap (last+1)) 7||!inW g.seats 0 4096||!inW g.til 0 1048576
abbrev fgH(s:SecT):List Blk:=[.var (s.row.map .p)]
abbrev fgS(s:SecT)(all last i:Int):AS:={t:=mkT 101 0 [(1,.ref (.ptr 0 0)),(3,int all),(4,int last),(10,rowsD' (s.grs.map GrT.row)),(11,int ((s.grs.map GrT.row).length:Int)),(12,int i)],h:=fgH s,m:=[]}
abbrev fgX(s:SecT):AS:={t:=mkT 101 0 [(2,bool false)],h:=fgH s,m:=[]}
noncomputable abbrev fg_body_x0(s:SecT)(g:GrT):List Blk:=[.var [int s.id,int s.course,int s.term,int s.campus,int s.seats,rowsD' (List.map MeT.row s.mts),rowsD' (List.map GrT.row s.grs),rowsD' (List.map intRow s.labs),bool s.lab],.var [int g.grp,int g.seats,int g.til]]
theorem fg_body{s:SecT}{g:GrT}{all last:Int}{i:Nat}(hr:RowAt (i:Int) (s.grs.map GrT.row) g.row 3)(hlt:Dd ((i:Int)<((s.grs.map GrT.row).length:Int))=true)(hw:IntKind.i64.wrap ((i:Int)+1)=((i+1:Nat):Int))(hb:(!inW g.grp (IntKind.i64.wrap (last+1)) 7||!inW g.seats 0 4096||!inW g.til 0 1048576)=false):(CW Tryz.prog Γ0 [] false (sub Tryz.f103 0) (fgS s all last i) .normal (fgS s (IntKind.i64.wrap (all+g.seats)) g.grp ((i+1:Nat):Int))):=by
 refine CW.cast (CW.symX (s':={t:=mkT 101 0 [(1,.ref (.ptr 0 0)),(3,int (IntKind.wrap IntKind.i64 (all+g.seats))),(4,int g.grp),(10,rowsD' (List.map GrT.row s.grs)),(11,int (↑(List.length (List.map GrT.row s.grs)):Int)),(12,int (IntKind.wrap IntKind.i64 ((↑i:Int)+1)))],h:=[.var [int s.id,int s.course,int s.term,int s.campus,int s.seats,rowsD' (List.map MeT.row s.mts),rowsD' (List.map GrT.row s.grs),rowsD' (List.map intRow s.labs),bool s.lab]],m:=[]}) (e:=Exit.normal) pok [.st (.mask [1,3,4,10,11,12]),.st (.trim 1)] [.b true,.row [vi g.grp,vi g.seats,vi g.til],.val (bool (inW g.grp (IntKind.wrap IntKind.i64 (last+1)) 7)),.val (bool (inW g.seats 0 4096)),.val (bool (inW g.til 0 1048576)),.b false] (by kernel_rfl) (.c hlt (.c hr (.c (@swithin_ev (g.grp) (IntKind.wrap IntKind.i64 (last+1)) (7) ((fg_body_x0 s g))) (.c (show(!!inW g.grp (IntKind.wrap IntKind.i64 (last+1)) 7)=true→Ev Tryz.prog Γ0 114 [int g.seats,int 0,int 4096] (fg_body_x0 s g) (bool (inW g.seats 0 4096)) (fg_body_x0 s g) from(fun hg=>(@swithin_ev (g.seats) (0) (4096) ((fg_body_x0 s g))))) (.c (show(!(!inW g.grp (IntKind.wrap IntKind.i64 (last+1)) 7||!inW g.seats 0 4096))=true→Ev Tryz.prog Γ0 114 [int g.til,int 0,int 1048576] (fg_body_x0 s g) (bool (inW g.til 0 1048576)) (fg_body_x0 s g) from(fun hg=>(@swithin_ev (g.til) (0) (1048576) ((fg_body_x0 s g))))) (.c hb .n))))))) ?_ ?_<;>(first|rfl|(rw[hw]<;>rfl))
noncomputable abbrev fg_bad_x0(s:SecT)(g:GrT):List Blk:=[.var [int s.id,int s.course,int s.term,int s.campus,int s.seats,rowsD' (List.map MeT.row s.mts),rowsD' (List.map GrT.row s.grs),rowsD' (List.map intRow s.labs),bool s.lab],.var [int g.grp,int g.seats,int g.til]]
theorem fg_bad{s:SecT}{g:GrT}{all last:Int}{i:Nat}(hr:RowAt (i:Int) (s.grs.map GrT.row) g.row 3)(hlt:Dd ((i:Int)<((s.grs.map GrT.row).length:Int))=true)(hb:(!inW g.grp (IntKind.i64.wrap (last+1)) 7||!inW g.seats 0 4096||!inW g.til 0 1048576)=true):(CW Tryz.prog Γ0 [] false (sub Tryz.f103 0) (fgS s all last i) .ret (fgX s)):=by
 exact CW.cast (CW.symX (s':={t:=mkT 101 0 [(2,bool false)],h:=[.var [int s.id,int s.course,int s.term,int s.campus,int s.seats,rowsD' (List.map MeT.row s.mts),rowsD' (List.map GrT.row s.grs),rowsD' (List.map intRow s.labs),bool s.lab]],m:=[]}) (e:=Exit.ret) pok [.st (.mask [2]),.st (.trim 1)] [.b true,.row [vi g.grp,vi g.seats,vi g.til],.val (bool (inW g.grp (IntKind.wrap IntKind.i64 (last+1)) 7)),.val (bool (inW g.seats 0 4096)),.val (bool (inW g.til 0 1048576)),.b true] (by kernel_rfl) (.c hlt (.c hr (.c (@swithin_ev (g.grp) (IntKind.wrap IntKind.i64 (last+1)) (7) ((fg_bad_x0 s g))) (.c (show(!!inW g.grp (IntKind.wrap IntKind.i64 (last+1)) 7)=true→Ev Tryz.prog Γ0 114 [int g.seats,int 0,int 4096] (fg_bad_x0 s g) (bool (inW g.seats 0 4096)) (fg_bad_x0 s g) from(fun hg=>(@swithin_ev (g.seats) (0) (4096) ((fg_bad_x0 s g))))) (.c (show(!(!inW g.grp (IntKind.wrap IntKind.i64 (last+1)) 7||!inW g.seats 0 4096))=true→Ev Tryz.prog Γ0 114 [int g.til,int 0,int 1048576] (fg_bad_x0 s g) (bool (inW g.til 0 1048576)) (fg_bad_x0 s g) from(fun hg=>(@swithin_ev (g.til) (0) (1048576) ((fg_bad_x0 s g))))) (.c hb .n))))))) (by rfl) (by rfl)
abbrev fgE(s:SecT)(all:Int):AS:={t:=mkT 101 0 [(1,.ref (.ptr 0 0)),(3,int all)],h:=fgH s,m:=[]}
theorem fg_last{s:SecT}{all last:Int}{i:Nat}(hlt:Dd ((i:Int)<((s.grs.map GrT.row).length:Int))=false):(CW Tryz.prog Γ0 [] false (sub Tryz.f103 0) (fgS s all last i) (.exit 0) (fgE s all)):=by
 exact CW.cast (CW.symX (s':={t:=mkT 101 0 [(1,.ref (.ptr 0 0)),(3,int all)],h:=[.var [int s.id,int s.course,int s.term,int s.campus,int s.seats,rowsD' (List.map MeT.row s.mts),rowsD' (List.map GrT.row s.grs),rowsD' (List.map intRow s.labs),bool s.lab]],m:=[]}) (e:=Exit.exit 0) pok [.st (.mask [1,3])] [.b false] (by kernel_rfl) (.c hlt .n)) (by rfl) (by rfl)
abbrev flS(s:SecT)(all last i:Int):AS:={t:=mkT 101 0 [(1,.ref (.ptr 0 0)),(3,int all),(4,int last),(42,rowsD' (s.labs.map intRow)),(43,int ((s.labs.map intRow).length:Int)),(44,int i)],h:=fgH s,m:=[]}
noncomputable abbrev fl_body_x0(s:SecT):List Blk:=[.var [int s.id,int s.course,int s.term,int s.campus,int s.seats,rowsD' (List.map MeT.row s.mts),rowsD' (List.map GrT.row s.grs),rowsD' (List.map intRow s.labs),bool s.lab]]
theorem fl_body{s:SecT}{n all last:Int}{i:Nat}(hr:RowAt (i:Int) (s.labs.map intRow) [vi n] 1)(hlt:Dd ((i:Int)<((s.labs.map intRow).length:Int))=true)(hw:IntKind.i64.wrap ((i:Int)+1)=((i+1:Nat):Int))(hb:(!inW n (IntKind.i64.wrap (last+1)) 3999)=false):(CW Tryz.prog Γ0 [] false (sub Tryz.f103 1) (flS s all last i) .normal (flS s all n ((i+1:Nat):Int))):=by
 refine CW.cast (CW.symX (s':={t:=mkT 101 0 [(1,.ref (.ptr 0 0)),(3,int all),(4,int n),(42,rowsD' (List.map intRow s.labs)),(43,int (↑(List.length (List.map intRow s.labs)):Int)),(44,int (IntKind.wrap IntKind.i64 ((↑i:Int)+1)))],h:=(fl_body_x0 s),m:=[]}) (e:=Exit.normal) pok [.st (.mask [1,3,4,42,43,44])] [.b true,.row [vi n],.val (bool (inW n (IntKind.wrap IntKind.i64 (last+1)) 3999)),.b false] (by kernel_rfl) (.c hlt (.c hr (.c (@swithin_ev (n) (IntKind.wrap IntKind.i64 (last+1)) (3999) ((fl_body_x0 s))) (.c hb .n))))) ?_ ?_<;>(first|rfl|(rw[hw]<;>rfl))
noncomputable abbrev fl_bad_x0(s:SecT):List Blk:=[.var [int s.id,int s.course,int s.term,int s.campus,int s.seats,rowsD' (List.map MeT.row s.mts),rowsD' (List.map GrT.row s.grs),rowsD' (List.map intRow s.labs),bool s.lab]]
theorem fl_bad{s:SecT}{n all last:Int}{i:Nat}(hr:RowAt (i:Int) (s.labs.map intRow) [vi n] 1)(hlt:Dd ((i:Int)<((s.labs.map intRow).length:Int))=true)(hb:(!inW n (IntKind.i64.wrap (last+1)) 3999)=true):(CW Tryz.prog Γ0 [] false (sub Tryz.f103 1) (flS s all last i) .ret (fgX s)):=by
 exact CW.cast (CW.symX (s':={t:=mkT 101 0 [(2,bool false)],h:=(fl_bad_x0 s),m:=[]}) (e:=Exit.ret) pok [.st (.mask [2])] [.b true,.row [vi n],.val (bool (inW n (IntKind.wrap IntKind.i64 (last+1)) 3999)),.b true] (by kernel_rfl) (.c hlt (.c hr (.c (@swithin_ev (n) (IntKind.wrap IntKind.i64 (last+1)) (3999) ((fl_bad_x0 s))) (.c hb .n))))) (by rfl) (by rfl)
theorem fl_last{s:SecT}{all last:Int}{i:Nat}(hlt:Dd ((i:Int)<((s.labs.map intRow).length:Int))=false):(CW Tryz.prog Γ0 [] false (sub Tryz.f103 1) (flS s all last i) (.exit 2) (fgE s all)):=by
 exact CW.cast (CW.symX (s':={t:=mkT 101 0 [(1,.ref (.ptr 0 0)),(3,int all)],h:=[.var [int s.id,int s.course,int s.term,int s.campus,int s.seats,rowsD' (List.map MeT.row s.mts),rowsD' (List.map GrT.row s.grs),rowsD' (List.map intRow s.labs),bool s.lab]],m:=[]}) (e:=Exit.exit 2) pok [.st (.mask [1,3])] [.b false] (by kernel_rfl) (.c hlt .n)) (by rfl) (by rfl)
def gF(g:GrT)(s:Int×Int):(Int×Int)⊕Unit:=match grBad g s.2 with
 | true=>.inr ()
 | false=>.inl (IntKind.i64.wrap (s.1+g.seats),g.grp)
def lF(n:Int)(last:Int):Int⊕Unit:=match !inW n (IntKind.i64.wrap (last+1)) 3999 with
 | true=>.inr ()
 | false=>.inl n
theorem fg_each{s:SecT}(hs:Short s.grs):CW Tryz.prog Γ0 [] false (.loop (sub Tryz.f103 0)) (fgS s 0 (-1) 0) (eachFin (.exit 0) (fun a:Int×Int=>fgE s a.1) (fun _:Unit=>(.ret,fgX s)) (forL gF s.grs (0,-1))).1 (eachFin (.exit 0) (fun a:Int×Int=>fgE s a.1) (fun _:Unit=>(.ret,fgX s)) (forL gF s.grs (0,-1))).2:=by
 refine CW.each s.grs gF (fun j a=>fgS s a.1 a.2 (j:Int)) (.exit 0) _ _ (fun _ _=>True) (by simp) (fun _=>by simp) ?_ ?_ (0,-1) trivial
 ·intro j g a hj _
  have hlt:=(List.getElem?_eq_some_iff.1 hj).1
  refine⟨fun _ _=>trivial,?_⟩
  cases hb:grBad g a.2 with
  | true =>
   have e:gF g a=.inr ():=by unfold gF;rw[hb]
   rw[e]
   exact fg_bad (rowAt hj rfl) (lt_len GrT.row hlt) hb
  | false =>
   have e:gF g a=.inl (IntKind.i64.wrap (a.1+g.seats),g.grp):=by unfold gF;rw[hb]
   rw[e]
   exact fg_body (rowAt hj rfl) (lt_len GrT.row hlt) (wrap_succ hlt hs) hb
 ·intro a _
  exact fg_last (ge_len GrT.row s.grs)
theorem fl_each{s:SecT}{all:Int}(hs:Short s.labs):CW Tryz.prog Γ0 [] false (.loop (sub Tryz.f103 1)) (flS s all (-1) 0) (eachFin (.exit 2) (fun _:Int=>fgE s all) (fun _:Unit=>(.ret,fgX s)) (forL lF s.labs (-1))).1 (eachFin (.exit 2) (fun _:Int=>fgE s all) (fun _:Unit=>(.ret,fgX s)) (forL lF s.labs (-1))).2:=by
 refine CW.each s.labs lF (fun j a=>flS s all a (j:Int)) (.exit 2) _ _ (fun _ _=>True) (by simp) (fun _=>by simp) ?_ ?_ (-1) trivial
 ·intro j n a hj _
  have hlt:=(List.getElem?_eq_some_iff.1 hj).1
  have hr:=rowAt (row:=intRow) (sz:=1) hj rfl
  refine⟨fun _ _=>trivial,?_⟩
  cases hb:!inW n (IntKind.i64.wrap (a+1)) 3999 with
  | true =>
   have e:lF n a=.inr ():=by unfold lF;rw[hb]
   rw[e]
   exact fl_bad hr (lt_len intRow hlt) hb
  | false =>
   have e:lF n a=.inl n:=by unfold lF;rw[hb]
   rw[e]
   exact fl_body hr (lt_len intRow hlt) (wrap_succ hlt hs) hb
 ·intro a _
  exact fl_last (ge_len intRow s.labs)
def secEnd(s:SecT)(all:Int):Bool:=inW s.id 0 3999&&inW s.course 0 4095&&inW s.term 0 1023&&inW s.campus 0 6&&inW s.seats 0 4096&&Dd (((s.grs.map GrT.row).length:Int)≤8)&&Dd (all≤s.seats)&&!(s.lab&&Dd (((s.labs.map intRow).length:Int)>0))
theorem fm_g{s:SecT}(h1:CW Tryz.prog Γ0 [] false (.loop (sub Tryz.f103 0)) (fgS s 0 (-1) 0) .ret (fgX s))(h:List Blk):(Ev Tryz.prog Γ0 103 [ag s.row] h (bool false) h):=by
 have hl0:=(@h1)
 exact Ev.castH (Ev.sym0 (d:=bool false) pok [.sum [1,3,4,10,11,12] (Exit.ret) {t:=mkT 101 0 [(2,bool false)],h:=[.var [int s.id,int s.course,int s.term,int s.campus,int s.seats,rowsD' (List.map MeT.row s.mts),rowsD' (List.map GrT.row s.grs),rowsD' (List.map intRow s.labs),bool s.lab]],m:=[]}] (by kernel_rfl) (.c hl0 .n) rfl rfl h) (by rfl) (by rfl)
theorem fm_l{s:SecT}{all:Int}(h1:CW Tryz.prog Γ0 [] false (.loop (sub Tryz.f103 0)) (fgS s 0 (-1) 0) (.exit 0) (fgE s all))(h2:CW Tryz.prog Γ0 [] false (.loop (sub Tryz.f103 1)) (flS s all (-1) 0) .ret (fgX s))(h:List Blk):(Ev Tryz.prog Γ0 103 [ag s.row] h (bool false) h):=by
 have hl0:=(@h1)
 have hl1:=(@h2)
 exact Ev.castH (Ev.sym0 (d:=bool false) pok [.sum [1,3,4,10,11,12] (Exit.exit 0) {t:=mkT 101 0 [(1,.ref (.ptr 0 0)),(3,int all)],h:=[.var [int s.id,int s.course,int s.term,int s.campus,int s.seats,rowsD' (List.map MeT.row s.mts),rowsD' (List.map GrT.row s.grs),rowsD' (List.map intRow s.labs),bool s.lab]],m:=[]},.sum [1,3,4,42,43,44] (Exit.ret) {t:=mkT 101 0 [(2,bool false)],h:=[.var [int s.id,int s.course,int s.term,int s.campus,int s.seats,rowsD' (List.map MeT.row s.mts),rowsD' (List.map GrT.row s.grs),rowsD' (List.map intRow s.labs),bool s.lab]],m:=[]}] (by kernel_rfl) (.c hl0 (.c hl1 .n)) rfl rfl h) (by rfl) (by rfl)
noncomputable abbrev fm_e_x0(s:SecT):List Blk:=[.var [int s.id,int s.course,int s.term,int s.campus,int s.seats,rowsD' (List.map MeT.row s.mts),rowsD' (List.map GrT.row s.grs),rowsD' (List.map intRow s.labs),bool s.lab]]
theorem fm_e{s:SecT}{all:Int}(h1:CW Tryz.prog Γ0 [] false (.loop (sub Tryz.f103 0)) (fgS s 0 (-1) 0) (.exit 0) (fgE s all))(h2:CW Tryz.prog Γ0 [] false (.loop (sub Tryz.f103 1)) (flS s all (-1) 0) (.exit 2) (fgE s all))(h:List Blk):(Ev Tryz.prog Γ0 103 [ag s.row] h (bool (secEnd s all)) h):=by
 have hl0:=(@h1)
 have hl1:=(@h2)
 exact Ev.castH (Ev.sym0 (d:=bool (inW s.id 0 3999&&inW s.course 0 4095&&inW s.term 0 1023&&inW s.campus 0 6&&inW s.seats 0 4096&&Dd ((↑(List.length (List.map GrT.row s.grs)):Int)≤8)&&Dd (all≤s.seats)&&!(s.lab&&Dd ((↑(List.length (List.map intRow s.labs)):Int)>0)))) pok [.sum [1,3,4,10,11,12] (Exit.exit 0) {t:=mkT 101 0 [(1,.ref (.ptr 0 0)),(3,int all)],h:=(fm_e_x0 s),m:=[]},.sum [1,3,4,42,43,44] (Exit.exit 2) {t:=mkT 101 0 [(1,.ref (.ptr 0 0)),(3,int all)],h:=(fm_e_x0 s),m:=[]},.val (bool (inW s.id 0 3999)),.val (bool (inW s.course 0 4095)),.val (bool (inW s.term 0 1023)),.val (bool (inW s.campus 0 6)),.val (bool (inW s.seats 0 4096))] (by kernel_rfl) (.c hl0 (.c hl1 (.c (@swithin_ev (s.id) (0) (3999) ((fm_e_x0 s))) (.c (show inW s.id 0 3999=true→Ev Tryz.prog Γ0 114 [int s.course,int 0,int 4095] (fm_e_x0 s) (bool (inW s.course 0 4095)) (fm_e_x0 s) from(fun hg=>(@swithin_ev (s.course) (0) (4095) ((fm_e_x0 s))))) (.c (show(inW s.id 0 3999&&inW s.course 0 4095)=true→Ev Tryz.prog Γ0 114 [int s.term,int 0,int 1023] (fm_e_x0 s) (bool (inW s.term 0 1023)) (fm_e_x0 s) from(fun hg=>(@swithin_ev (s.term) (0) (1023) ((fm_e_x0 s))))) (.c (show(inW s.id 0 3999&&inW s.course 0 4095&&inW s.term 0 1023)=true→Ev Tryz.prog Γ0 114 [int s.campus,int 0,int 6] (fm_e_x0 s) (bool (inW s.campus 0 6)) (fm_e_x0 s) from(fun hg=>(@swithin_ev (s.campus) (0) (6) ((fm_e_x0 s))))) (.c (show(inW s.id 0 3999&&inW s.course 0 4095&&inW s.term 0 1023&&inW s.campus 0 6)=true→Ev Tryz.prog Γ0 114 [int s.seats,int 0,int 4096] (fm_e_x0 s) (bool (inW s.seats 0 4096)) (fm_e_x0 s) from(fun hg=>(@swithin_ev (s.seats) (0) (4096) ((fm_e_x0 s))))) .n))))))) rfl rfl h) (by first|rfl|(simp only[secEnd];first|done|rfl)) (by rfl)
def secB(s:SecT):Bool:=match forL gF s.grs (0,-1) with
 | .inr _=>false
 | .inl a=>match forL lF s.labs (-1) with
  | .inr _=>false
  | .inl _=>secEnd s a.1
theorem secform_ev{s:SecT}(hgr:Short s.grs)(hi:Short s.labs)(h:List Blk):Ev Tryz.prog Γ0 103 [ag s.row] h (bool (secB s)) h:=by
 have h1:=fg_each hgr
 unfold secB
 cases e1:forL gF s.grs (0,-1) with
 | inr _=>rw[e1] at h1;exact fm_g h1 h
 | inl a =>
  rw[e1] at h1
  have h2:=fl_each (all:=a.1) hi
  simp only
  cases e2:forL lF s.labs (-1) with
  | inr _=>rw[e2] at h2;exact fm_l h1 h2 h
  | inl _=>rw[e2] at h2;exact fm_e h1 h2 h
structure QuT where
 kind:Int
 st:Int
 obj:Int
 term:Int
def QuT.row(q:QuT):List Dp:=[vi q.kind,vi q.st,vi q.obj,vi q.term]
def qkBad(m:Int)(q:QuT):Bool:=Dd (q.st<0)||Dd (q.st≥20000)||Dd (q.term<0)||Dd (q.term≥1024)||Dd (q.obj<0)||Dd (q.obj>m)
def mostQ(k:Int):Option Int:=if k=1 then some 4095 else if k=2 then some 0 else if k=3 then some 10000 else if k=4 then some 0 else if k=5 then some 255 else none
def checkQ(q:QuT):Int:=match mostQ q.kind with
 | none=>340
 | some m=>bif qkBad m q then 340 else 0
abbrev qkM:List Blk:=[.map [(int 1,.agg [int 4095,fq 118],0),(int 2,.agg [int 0,fq 119],1),(int 3,.agg [int 10000,fq 119],2),(int 4,.agg [int 0,fq 119],3),(int 5,.agg [int 255,fq 120],4)] 5]
theorem qkinds_b:(Ev Tryz.prog Γ0 106 [] [] (.ref (.mp 0)) qkM):=by
 exact Ev.castH (Ev.of_sym (h':=[.map [(int 1,D.agg [int 4095,fq 118],0),(int 2,D.agg [int 0,fq 119],1),(int 3,D.agg [int 10000,fq 119],2),(int 4,D.agg [int 0,fq 119],3),(int 5,D.agg [int 255,fq 120],4)] 5]) (d:=.ref (.mp 0)) pok [] (by kernel_rfl) .n) (by rfl) (by rfl)
theorem qkinds_ev(h:List Blk):Ev Tryz.prog Γ0 106 [] h (.ref (.mp h.length)) (h++qkM):=qkinds_b.frameN (by kernel_rfl) rfl h
noncomputable abbrev qk1_a_x0(st:Int)(obj:Int)(term:Int):List Blk:=[.var [int 1,int st,int obj,int term],.map [(int 1,D.agg [int 4095,fq 118],0),(int 2,D.agg [int 0,fq 119],1),(int 3,D.agg [int 10000,fq 119],2),(int 4,D.agg [int 0,fq 119],3),(int 5,D.agg [int 255,fq 120],4)] 5]
theorem qk1_a{st obj term:Int}(h:List Blk):(Ev Tryz.prog Γ0 93 [.agg [int 1,int st,int obj,int term]] h (int (bif qkBad 4095 ⟨1,st,obj,term⟩ then 340 else 0)) h):=by
 cases hc0:!true||Dd (st<0)||Dd (st≥20000)||Dd (term<0)||Dd (term≥1024)||Dd (obj<0)||Dd (obj>4095)
 ·exact Ev.castH (Ev.sym0 (d:=int 0) pok [.nx 1,.late,.call (.ref (.mp 1)) (qk1_a_x0 st obj term),.b false] (by kernel_rfl) (.c (@qkinds_ev ([.var [int 1,int st,int obj,int term]])) (.e (.ref (.ptr 0 0)) (.e (.ref (.ptr 0 0)) (.e (.ref (.ptr 0 0)) (.e (int 1) (.e (int 1) (.e (int 1) (.c (show some (D.tup [D.agg [int 4095,fq 118],bool true])=some (D.tup [D.agg [int 4095,fq 118],bool true]) from rfl) (.c (show some (D.tup [D.agg [int 4095,fq 118],bool true])=some (D.tup [D.agg [int 4095,fq 118],bool true]) from rfl) (.c hc0 .n)))))))))) rfl rfl h) (by first|(have hh:qkBad 4095 ⟨1,st,obj,term⟩=true:=hc0;rw[hh];rfl)|(have hh:qkBad 4095 ⟨1,st,obj,term⟩=false:=hc0;rw[hh];rfl)) (by rfl)
 ·exact Ev.castH (Ev.sym0 (d:=int 340) pok [.nx 1,.late,.call (.ref (.mp 1)) (qk1_a_x0 st obj term),.b true] (by kernel_rfl) (.c (@qkinds_ev ([.var [int 1,int st,int obj,int term]])) (.e (.ref (.ptr 0 0)) (.e (.ref (.ptr 0 0)) (.e (.ref (.ptr 0 0)) (.e (int 1) (.e (int 1) (.e (int 1) (.c (show some (D.tup [D.agg [int 4095,fq 118],bool true])=some (D.tup [D.agg [int 4095,fq 118],bool true]) from rfl) (.c (show some (D.tup [D.agg [int 4095,fq 118],bool true])=some (D.tup [D.agg [int 4095,fq 118],bool true]) from rfl) (.c hc0 .n)))))))))) rfl rfl h) (by first|(have hh:qkBad 4095 ⟨1,st,obj,term⟩=true:=hc0;rw[hh];rfl)|(have hh:qkBad 4095 ⟨1,st,obj,term⟩=false:=hc0;rw[hh];rfl)) (by rfl)
theorem rk1_a{st obj term:Int}(h:List Blk):(Ev Tryz.prog Γ0 81 [.agg [int 1,int st,int obj,int term]] h (int (bif qkBad 4095 ⟨1,st,obj,term⟩ then 340 else 0)) h):=by
 cases hc0:Dd (st<0)||Dd (st≥20000)||Dd (term<0)||Dd (term≥1024)||Dd (obj<0)||Dd (obj>4095)
 ·exact Ev.castH (Ev.sym0 (d:=int 0) pok [.b true,.b false] (by kernel_rfl) (.c (show(1==1)=true from rfl) (.c hc0 .n)) rfl rfl h) (by first|(have hh:qkBad 4095 ⟨1,st,obj,term⟩=true:=hc0;rw[hh];rfl)|(have hh:qkBad 4095 ⟨1,st,obj,term⟩=false:=hc0;rw[hh];rfl)) (by rfl)
 ·exact Ev.castH (Ev.sym0 (d:=int 340) pok [.b true,.b true] (by kernel_rfl) (.c (show(1==1)=true from rfl) (.c hc0 .n)) rfl rfl h) (by first|(have hh:qkBad 4095 ⟨1,st,obj,term⟩=true:=hc0;rw[hh];rfl)|(have hh:qkBad 4095 ⟨1,st,obj,term⟩=false:=hc0;rw[hh];rfl)) (by rfl)
noncomputable abbrev qk2_a_x0(st:Int)(obj:Int)(term:Int):List Blk:=[.var [int 2,int st,int obj,int term],.map [(int 1,D.agg [int 4095,fq 118],0),(int 2,D.agg [int 0,fq 119],1),(int 3,D.agg [int 10000,fq 119],2),(int 4,D.agg [int 0,fq 119],3),(int 5,D.agg [int 255,fq 120],4)] 5]
theorem qk2_a{st obj term:Int}(h:List Blk):(Ev Tryz.prog Γ0 93 [.agg [int 2,int st,int obj,int term]] h (int (bif qkBad 0 ⟨2,st,obj,term⟩ then 340 else 0)) h):=by
 cases hc0:!true||Dd (st<0)||Dd (st≥20000)||Dd (term<0)||Dd (term≥1024)||Dd (obj<0)||Dd (obj>0)
 ·exact Ev.castH (Ev.sym0 (d:=int 0) pok [.nx 1,.late,.call (.ref (.mp 1)) (qk2_a_x0 st obj term),.b false] (by kernel_rfl) (.c (@qkinds_ev ([.var [int 2,int st,int obj,int term]])) (.e (.ref (.ptr 0 0)) (.e (.ref (.ptr 0 0)) (.e (.ref (.ptr 0 0)) (.e (int 2) (.e (int 2) (.e (int 2) (.c (show some (D.tup [D.agg [int 0,fq 119],bool true])=some (D.tup [D.agg [int 0,fq 119],bool true]) from rfl) (.c (show some (D.tup [D.agg [int 0,fq 119],bool true])=some (D.tup [D.agg [int 0,fq 119],bool true]) from rfl) (.c hc0 .n)))))))))) rfl rfl h) (by first|(have hh:qkBad 0 ⟨2,st,obj,term⟩=true:=hc0;rw[hh];rfl)|(have hh:qkBad 0 ⟨2,st,obj,term⟩=false:=hc0;rw[hh];rfl)) (by rfl)
 ·exact Ev.castH (Ev.sym0 (d:=int 340) pok [.nx 1,.late,.call (.ref (.mp 1)) (qk2_a_x0 st obj term),.b true] (by kernel_rfl) (.c (@qkinds_ev ([.var [int 2,int st,int obj,int term]])) (.e (.ref (.ptr 0 0)) (.e (.ref (.ptr 0 0)) (.e (.ref (.ptr 0 0)) (.e (int 2) (.e (int 2) (.e (int 2) (.c (show some (D.tup [D.agg [int 0,fq 119],bool true])=some (D.tup [D.agg [int 0,fq 119],bool true]) from rfl) (.c (show some (D.tup [D.agg [int 0,fq 119],bool true])=some (D.tup [D.agg [int 0,fq 119],bool true]) from rfl) (.c hc0 .n)))))))))) rfl rfl h) (by first|(have hh:qkBad 0 ⟨2,st,obj,term⟩=true:=hc0;rw[hh];rfl)|(have hh:qkBad 0 ⟨2,st,obj,term⟩=false:=hc0;rw[hh];rfl)) (by rfl)
theorem rk2_a{st obj term:Int}(h:List Blk):(Ev Tryz.prog Γ0 81 [.agg [int 2,int st,int obj,int term]] h (int (bif qkBad 0 ⟨2,st,obj,term⟩ then 340 else 0)) h):=by
 cases hc0:Dd (st<0)||Dd (st≥20000)||Dd (term<0)||Dd (term≥1024)||Dd (obj<0)||Dd (obj>0)
 ·exact Ev.castH (Ev.sym0 (d:=int 0) pok [.b false,.b true,.b true,.b false] (by kernel_rfl) (.c (show(2==1)=false from rfl) (.c (show(2==2)=true from rfl) (.c (show(2==2)=true from rfl) (.c hc0 .n)))) rfl rfl h) (by first|(have hh:qkBad 0 ⟨2,st,obj,term⟩=true:=hc0;rw[hh];rfl)|(have hh:qkBad 0 ⟨2,st,obj,term⟩=false:=hc0;rw[hh];rfl)) (by rfl)
 ·exact Ev.castH (Ev.sym0 (d:=int 340) pok [.b false,.b true,.b true,.b true] (by kernel_rfl) (.c (show(2==1)=false from rfl) (.c (show(2==2)=true from rfl) (.c (show(2==2)=true from rfl) (.c hc0 .n)))) rfl rfl h) (by first|(have hh:qkBad 0 ⟨2,st,obj,term⟩=true:=hc0;rw[hh];rfl)|(have hh:qkBad 0 ⟨2,st,obj,term⟩=false:=hc0;rw[hh];rfl)) (by rfl)
noncomputable abbrev qk3_a_x0(st:Int)(obj:Int)(term:Int):List Blk:=[.var [int 3,int st,int obj,int term],.map [(int 1,D.agg [int 4095,fq 118],0),(int 2,D.agg [int 0,fq 119],1),(int 3,D.agg [int 10000,fq 119],2),(int 4,D.agg [int 0,fq 119],3),(int 5,D.agg [int 255,fq 120],4)] 5]
theorem qk3_a{st obj term:Int}(h:List Blk):(Ev Tryz.prog Γ0 93 [.agg [int 3,int st,int obj,int term]] h (int (bif qkBad 10000 ⟨3,st,obj,term⟩ then 340 else 0)) h):=by
 cases hc0:!true||Dd (st<0)||Dd (st≥20000)||Dd (term<0)||Dd (term≥1024)||Dd (obj<0)||Dd (obj>10000)
 ·exact Ev.castH (Ev.sym0 (d:=int 0) pok [.nx 1,.late,.call (.ref (.mp 1)) (qk3_a_x0 st obj term),.b false] (by kernel_rfl) (.c (@qkinds_ev ([.var [int 3,int st,int obj,int term]])) (.e (.ref (.ptr 0 0)) (.e (.ref (.ptr 0 0)) (.e (.ref (.ptr 0 0)) (.e (int 3) (.e (int 3) (.e (int 3) (.c (show some (D.tup [D.agg [int 10000,fq 119],bool true])=some (D.tup [D.agg [int 10000,fq 119],bool true]) from rfl) (.c (show some (D.tup [D.agg [int 10000,fq 119],bool true])=some (D.tup [D.agg [int 10000,fq 119],bool true]) from rfl) (.c hc0 .n)))))))))) rfl rfl h) (by first|(have hh:qkBad 10000 ⟨3,st,obj,term⟩=true:=hc0;rw[hh];rfl)|(have hh:qkBad 10000 ⟨3,st,obj,term⟩=false:=hc0;rw[hh];rfl)) (by rfl)
 ·exact Ev.castH (Ev.sym0 (d:=int 340) pok [.nx 1,.late,.call (.ref (.mp 1)) (qk3_a_x0 st obj term),.b true] (by kernel_rfl) (.c (@qkinds_ev ([.var [int 3,int st,int obj,int term]])) (.e (.ref (.ptr 0 0)) (.e (.ref (.ptr 0 0)) (.e (.ref (.ptr 0 0)) (.e (int 3) (.e (int 3) (.e (int 3) (.c (show some (D.tup [D.agg [int 10000,fq 119],bool true])=some (D.tup [D.agg [int 10000,fq 119],bool true]) from rfl) (.c (show some (D.tup [D.agg [int 10000,fq 119],bool true])=some (D.tup [D.agg [int 10000,fq 119],bool true]) from rfl) (.c hc0 .n)))))))))) rfl rfl h) (by first|(have hh:qkBad 10000 ⟨3,st,obj,term⟩=true:=hc0;rw[hh];rfl)|(have hh:qkBad 10000 ⟨3,st,obj,term⟩=false:=hc0;rw[hh];rfl)) (by rfl)
theorem rk3_a{st obj term:Int}(h:List Blk):(Ev Tryz.prog Γ0 81 [.agg [int 3,int st,int obj,int term]] h (int (bif qkBad 10000 ⟨3,st,obj,term⟩ then 340 else 0)) h):=by
 cases hc0:Dd (st<0)||Dd (st≥20000)||Dd (term<0)||Dd (term≥1024)||Dd (obj<0)||Dd (obj>10000)
 ·exact Ev.castH (Ev.sym0 (d:=int 0) pok [.b false,.b false,.b false,.b true,.b false] (by kernel_rfl) (.c (show(3==1)=false from rfl) (.c (show(3==2)=false from rfl) (.c (show(3==4)=false from rfl) (.c (show(3==3)=true from rfl) (.c hc0 .n))))) rfl rfl h) (by first|(have hh:qkBad 10000 ⟨3,st,obj,term⟩=true:=hc0;rw[hh];rfl)|(have hh:qkBad 10000 ⟨3,st,obj,term⟩=false:=hc0;rw[hh];rfl)) (by rfl)
 ·exact Ev.castH (Ev.sym0 (d:=int 340) pok [.b false,.b false,.b false,.b true,.b true] (by kernel_rfl) (.c (show(3==1)=false from rfl) (.c (show(3==2)=false from rfl) (.c (show(3==4)=false from rfl) (.c (show(3==3)=true from rfl) (.c hc0 .n))))) rfl rfl h) (by first|(have hh:qkBad 10000 ⟨3,st,obj,term⟩=true:=hc0;rw[hh];rfl)|(have hh:qkBad 10000 ⟨3,st,obj,term⟩=false:=hc0;rw[hh];rfl)) (by rfl)
noncomputable abbrev qk4_a_x0(st:Int)(obj:Int)(term:Int):List Blk:=[.var [int 4,int st,int obj,int term],.map [(int 1,D.agg [int 4095,fq 118],0),(int 2,D.agg [int 0,fq 119],1),(int 3,D.agg [int 10000,fq 119],2),(int 4,D.agg [int 0,fq 119],3),(int 5,D.agg [int 255,fq 120],4)] 5]
theorem qk4_a{st obj term:Int}(h:List Blk):(Ev Tryz.prog Γ0 93 [.agg [int 4,int st,int obj,int term]] h (int (bif qkBad 0 ⟨4,st,obj,term⟩ then 340 else 0)) h):=by
 cases hc0:!true||Dd (st<0)||Dd (st≥20000)||Dd (term<0)||Dd (term≥1024)||Dd (obj<0)||Dd (obj>0)
 ·exact Ev.castH (Ev.sym0 (d:=int 0) pok [.nx 1,.late,.call (.ref (.mp 1)) (qk4_a_x0 st obj term),.b false] (by kernel_rfl) (.c (@qkinds_ev ([.var [int 4,int st,int obj,int term]])) (.e (.ref (.ptr 0 0)) (.e (.ref (.ptr 0 0)) (.e (.ref (.ptr 0 0)) (.e (int 4) (.e (int 4) (.e (int 4) (.c (show some (D.tup [D.agg [int 0,fq 119],bool true])=some (D.tup [D.agg [int 0,fq 119],bool true]) from rfl) (.c (show some (D.tup [D.agg [int 0,fq 119],bool true])=some (D.tup [D.agg [int 0,fq 119],bool true]) from rfl) (.c hc0 .n)))))))))) rfl rfl h) (by first|(have hh:qkBad 0 ⟨4,st,obj,term⟩=true:=hc0;rw[hh];rfl)|(have hh:qkBad 0 ⟨4,st,obj,term⟩=false:=hc0;rw[hh];rfl)) (by rfl)
 ·exact Ev.castH (Ev.sym0 (d:=int 340) pok [.nx 1,.late,.call (.ref (.mp 1)) (qk4_a_x0 st obj term),.b true] (by kernel_rfl) (.c (@qkinds_ev ([.var [int 4,int st,int obj,int term]])) (.e (.ref (.ptr 0 0)) (.e (.ref (.ptr 0 0)) (.e (.ref (.ptr 0 0)) (.e (int 4) (.e (int 4) (.e (int 4) (.c (show some (D.tup [D.agg [int 0,fq 119],bool true])=some (D.tup [D.agg [int 0,fq 119],bool true]) from rfl) (.c (show some (D.tup [D.agg [int 0,fq 119],bool true])=some (D.tup [D.agg [int 0,fq 119],bool true]) from rfl) (.c hc0 .n)))))))))) rfl rfl h) (by first|(have hh:qkBad 0 ⟨4,st,obj,term⟩=true:=hc0;rw[hh];rfl)|(have hh:qkBad 0 ⟨4,st,obj,term⟩=false:=hc0;rw[hh];rfl)) (by rfl)
theorem rk4_a{st obj term:Int}(h:List Blk):(Ev Tryz.prog Γ0 81 [.agg [int 4,int st,int obj,int term]] h (int (bif qkBad 0 ⟨4,st,obj,term⟩ then 340 else 0)) h):=by
 cases hc0:Dd (st<0)||Dd (st≥20000)||Dd (term<0)||Dd (term≥1024)||Dd (obj<0)||Dd (obj>0)
 ·exact Ev.castH (Ev.sym0 (d:=int 0) pok [.b false,.b false,.b true,.b false] (by kernel_rfl) (.c (show(4==1)=false from rfl) (.c (show(4==2)=false from rfl) (.c (show(4==4)=true from rfl) (.c hc0 .n)))) rfl rfl h) (by first|(have hh:qkBad 0 ⟨4,st,obj,term⟩=true:=hc0;rw[hh];rfl)|(have hh:qkBad 0 ⟨4,st,obj,term⟩=false:=hc0;rw[hh];rfl)) (by rfl)
 ·exact Ev.castH (Ev.sym0 (d:=int 340) pok [.b false,.b false,.b true,.b true] (by kernel_rfl) (.c (show(4==1)=false from rfl) (.c (show(4==2)=false from rfl) (.c (show(4==4)=true from rfl) (.c hc0 .n)))) rfl rfl h) (by first|(have hh:qkBad 0 ⟨4,st,obj,term⟩=true:=hc0;rw[hh];rfl)|(have hh:qkBad 0 ⟨4,st,obj,term⟩=false:=hc0;rw[hh];rfl)) (by rfl)
noncomputable abbrev qk5_a_x0(st:Int)(obj:Int)(term:Int):List Blk:=[.var [int 5,int st,int obj,int term],.map [(int 1,D.agg [int 4095,fq 118],0),(int 2,D.agg [int 0,fq 119],1),(int 3,D.agg [int 10000,fq 119],2),(int 4,D.agg [int 0,fq 119],3),(int 5,D.agg [int 255,fq 120],4)] 5]
theorem qk5_a{st obj term:Int}(h:List Blk):(Ev Tryz.prog Γ0 93 [.agg [int 5,int st,int obj,int term]] h (int (bif qkBad 255 ⟨5,st,obj,term⟩ then 340 else 0)) h):=by
 cases hc0:!true||Dd (st<0)||Dd (st≥20000)||Dd (term<0)||Dd (term≥1024)||Dd (obj<0)||Dd (obj>255)
 ·exact Ev.castH (Ev.sym0 (d:=int 0) pok [.nx 1,.late,.call (.ref (.mp 1)) (qk5_a_x0 st obj term),.b false] (by kernel_rfl) (.c (@qkinds_ev ([.var [int 5,int st,int obj,int term]])) (.e (.ref (.ptr 0 0)) (.e (.ref (.ptr 0 0)) (.e (.ref (.ptr 0 0)) (.e (int 5) (.e (int 5) (.e (int 5) (.c (show some (D.tup [D.agg [int 255,fq 120],bool true])=some (D.tup [D.agg [int 255,fq 120],bool true]) from rfl) (.c (show some (D.tup [D.agg [int 255,fq 120],bool true])=some (D.tup [D.agg [int 255,fq 120],bool true]) from rfl) (.c hc0 .n)))))))))) rfl rfl h) (by first|(have hh:qkBad 255 ⟨5,st,obj,term⟩=true:=hc0;rw[hh];rfl)|(have hh:qkBad 255 ⟨5,st,obj,term⟩=false:=hc0;rw[hh];rfl)) (by rfl)
 ·exact Ev.castH (Ev.sym0 (d:=int 340) pok [.nx 1,.late,.call (.ref (.mp 1)) (qk5_a_x0 st obj term),.b true] (by kernel_rfl) (.c (@qkinds_ev ([.var [int 5,int st,int obj,int term]])) (.e (.ref (.ptr 0 0)) (.e (.ref (.ptr 0 0)) (.e (.ref (.ptr 0 0)) (.e (int 5) (.e (int 5) (.e (int 5) (.c (show some (D.tup [D.agg [int 255,fq 120],bool true])=some (D.tup [D.agg [int 255,fq 120],bool true]) from rfl) (.c (show some (D.tup [D.agg [int 255,fq 120],bool true])=some (D.tup [D.agg [int 255,fq 120],bool true]) from rfl) (.c hc0 .n)))))))))) rfl rfl h) (by first|(have hh:qkBad 255 ⟨5,st,obj,term⟩=true:=hc0;rw[hh];rfl)|(have hh:qkBad 255 ⟨5,st,obj,term⟩=false:=hc0;rw[hh];rfl)) (by rfl)
theorem rk5_a{st obj term:Int}(h:List Blk):(Ev Tryz.prog Γ0 81 [.agg [int 5,int st,int obj,int term]] h (int (bif qkBad 255 ⟨5,st,obj,term⟩ then 340 else 0)) h):=by
 cases hc0:Dd (st<0)||Dd (st≥20000)||Dd (term<0)||Dd (term≥1024)||Dd (obj<0)||Dd (obj>255)
 ·exact Ev.castH (Ev.sym0 (d:=int 0) pok [.b false,.b false,.b false,.b false,.b true,.b false] (by kernel_rfl) (.c (show(5==1)=false from rfl) (.c (show(5==2)=false from rfl) (.c (show(5==4)=false from rfl) (.c (show(5==3)=false from rfl) (.c (show(5==5)=true from rfl) (.c hc0 .n)))))) rfl rfl h) (by first|(have hh:qkBad 255 ⟨5,st,obj,term⟩=true:=hc0;rw[hh];rfl)|(have hh:qkBad 255 ⟨5,st,obj,term⟩=false:=hc0;rw[hh];rfl)) (by rfl)
 ·exact Ev.castH (Ev.sym0 (d:=int 340) pok [.b false,.b false,.b false,.b false,.b true,.b true] (by kernel_rfl) (.c (show(5==1)=false from rfl) (.c (show(5==2)=false from rfl) (.c (show(5==4)=false from rfl) (.c (show(5==3)=false from rfl) (.c (show(5==5)=true from rfl) (.c hc0 .n)))))) rfl rfl h) (by first|(have hh:qkBad 255 ⟨5,st,obj,term⟩=true:=hc0;rw[hh];rfl)|(have hh:qkBad 255 ⟨5,st,obj,term⟩=false:=hc0;rw[hh];rfl)) (by rfl)
theorem lkQ{h:List Blk}{k:Int}(h1:¬k=1)(h2:¬k=2)(h3:¬k=3)(h4:¬k=4)(h5:¬k=5)(hb:h[1]? = some (.map [(int 1,.agg [int 4095,fq 118],0),(int 2,.agg [int 0,fq 119],1),(int 3,.agg [int 10000,fq 119],2),(int 4,.agg [int 0,fq 119],3),(int 5,.agg [int 255,fq 120],4)] 5)):
  lookupD Tryz.prog h 136 (.ref (.mp 1)) (int k) true=some (.tup [.agg [int 0,lit .nilFunc],bool false]):=by
 have e1:Tryz.prog.underlying 136=some (.map 3 134):=by kernel_rfl
 have e2:keyKind Tryz.prog 3 (int k)=true:=by kernel_rfl
 have e3:zeroV Tryz.prog 134=some (.agg #[.int .i64 0,.nilFunc]):=by kernel_rfl
 have e4:findKV (int k) [(int 1,.agg [int 4095,fq 118],0),(int 2,.agg [int 0,fq 119],1),(int 3,.agg [int 10000,fq 119],2),(int 4,.agg [int 0,fq 119],3),(int 5,.agg [int 255,fq 120],4)] 0=some none:=by
  have n1:keyEq (int k) (int 1)=some false:=by simp[keyEq,h1]
  have n2:keyEq (int k) (int 2)=some false:=by simp[keyEq,h2]
  have n3:keyEq (int k) (int 3)=some false:=by simp[keyEq,h3]
  have n4:keyEq (int k) (int 4)=some false:=by simp[keyEq,h4]
  have n5:keyEq (int k) (int 5)=some false:=by simp[keyEq,h5]
  simp only[findKV,n1,n2,n3,n4,n5]
 unfold lookupD
 simp only[e1,mapOf,hb,e2,if_true,e3,e4]
 rfl
theorem lkQ2{k:Int}(h1:¬k=1)(h2:¬k=2)(h3:¬k=3)(h4:¬k=4)(h5:¬k=5):LkIs Tryz.prog 136 [(int 1,.agg [int 4095,fq 118],0),(int 2,.agg [int 0,fq 119],1),(int 3,.agg [int 10000,fq 119],2),(int 4,.agg [int 0,fq 119],3),(int 5,.agg [int 255,fq 120],4)] (int k) true (.tup [.agg [int 0,lit .nilFunc],bool false]):=by
 have:=lkQ (h:=[.gone,.map [(int 1,.agg [int 4095,fq 118],0),(int 2,.agg [int 0,fq 119],1),(int 3,.agg [int 10000,fq 119],2),(int 4,.agg [int 0,fq 119],3),(int 5,.agg [int 255,fq 120],4)] 5]) h1 h2 h3 h4 h5 rfl
 unfold LkIs lookupD
 unfold lookupD at this
 simpa only [mapOf,List.getElem?_cons_zero,List.getElem?_cons_succ] using this
noncomputable abbrev qkN_a_x0(k:Int)(st:Int)(obj:Int)(term:Int):List Blk:=[.var [int k,int st,int obj,int term],.map [(int 1,D.agg [int 4095,fq 118],0),(int 2,D.agg [int 0,fq 119],1),(int 3,D.agg [int 10000,fq 119],2),(int 4,D.agg [int 0,fq 119],3),(int 5,D.agg [int 255,fq 120],4)] 5]
theorem qkN_a{k st obj term:Int}(h1:¬k=1)(h2:¬k=2)(h3:¬k=3)(h4:¬k=4)(h5:¬k=5)(h:List Blk):(Ev Tryz.prog Γ0 93 [.agg [int k,int st,int obj,int term]] h (int 340) h):=by
 refine Ev.castH (Ev.sym0 (d:=int 340) pok [.nx 1,.late,.call (.ref (.mp 1)) (qkN_a_x0 k st obj term),.ov 9 (D.tup [D.agg [int 0,lit Value.nilFunc],bool false]),.b true] (by kernel_rfl) (.c (@qkinds_ev ([.var [int k,int st,int obj,int term]])) (.c (show lookupD Tryz.prog (qkN_a_x0 k st obj term) 136 (.ref (.mp 1)) (int k) true=some (D.tup [D.agg [int 0,D.p (Dp.v Value.nilFunc)],bool false]) from ?_) (.e (.ref (.ptr 0 0)) (.e (.ref (.ptr 0 0)) (.e (.ref (.ptr 0 0)) (.e (int k) (.e (int k) (.e (int k) (.c (show lookupD Tryz.prog [.map [(int 1,D.agg [int 4095,fq 118],0),(int 2,D.agg [int 0,fq 119],1),(int 3,D.agg [int 10000,fq 119],2),(int 4,D.agg [int 0,fq 119],3),(int 5,D.agg [int 255,fq 120],4)] 0] 136 (.ref (.mp 0)) (evalD Γ0 (List.getD [mkT 46 0 [(0,D.agg [int k,int st,int obj,int term]),(1,.ref (.ptr 0 0)),(2,int 0)],mkT 46 0 [(0,D.agg [int k,int st,int obj,int term]),(1,.ref (.ptr 0 0)),(2,int 0),(6,.ref (.mp 1))],mkT 46 0 [(0,D.agg [int k,int st,int obj,int term]),(1,.ref (.ptr 0 0)),(2,int 0),(6,.ref (.mp 1)),(7,.ref (.ptr 0 0))],mkT 46 0 [(0,D.agg [int k,int st,int obj,int term]),(1,.ref (.ptr 0 0)),(2,int 0),(6,.ref (.mp 1)),(7,.ref (.ptr 0 0)),(8,int k)],mkT 46 0 [(0,D.agg [int k,int st,int obj,int term]),(1,.ref (.ptr 0 0)),(2,int 0),(6,.ref (.mp 1)),(7,.ref (.ptr 0 0)),(8,int k),(9,D.tup [D.agg [int 0,D.p (Dp.v Value.nilFunc)],bool false])],mkT 46 0 [(0,D.agg [int k,int st,int obj,int term]),(1,.ref (.ptr 0 0)),(2,int 0),(5,D.tup [D.agg [int 0,D.p (Dp.v Value.nilFunc)],bool false]),(6,.ref (.mp 1)),(7,.ref (.ptr 0 0)),(8,int k),(9,D.tup [D.agg [int 0,D.p (Dp.v Value.nilFunc)],bool false])],mkT 46 0 [(0,D.agg [int k,int st,int obj,int term]),(1,.ref (.ptr 0 0)),(2,int 0),(5,D.tup [D.agg [int 0,D.p (Dp.v Value.nilFunc)],bool false]),(6,.ref (.mp 1)),(7,.ref (.ptr 0 0)),(8,int k),(9,D.tup [D.agg [int 0,D.p (Dp.v Value.nilFunc)],bool false]),(10,D.agg [int 0,D.p (Dp.v Value.nilFunc)])],mkT 46 0 [(0,D.agg [int k,int st,int obj,int term]),(1,.ref (.ptr 0 0)),(2,int 0),(5,D.tup [D.agg [int 0,D.p (Dp.v Value.nilFunc)],bool false]),(6,.ref (.mp 1)),(7,.ref (.ptr 0 0)),(8,int k),(9,D.tup [D.agg [int 0,D.p (Dp.v Value.nilFunc)],bool false]),(10,D.agg [int 0,D.p (Dp.v Value.nilFunc)]),(11,bool false)],mkT 46 0 [(0,D.agg [int k,int st,int obj,int term]),(1,.ref (.ptr 0 0)),(2,int 0),(3,.ref (.ptr 2 0)),(5,D.tup [D.agg [int 0,D.p (Dp.v Value.nilFunc)],bool false]),(6,.ref (.mp 1)),(7,.ref (.ptr 0 0)),(8,int k),(9,D.tup [D.agg [int 0,D.p (Dp.v Value.nilFunc)],bool false]),(10,D.agg [int 0,D.p (Dp.v Value.nilFunc)]),(11,bool false)],mkT 46 0 [(0,D.agg [int k,int st,int obj,int term]),(1,.ref (.ptr 0 0)),(2,int 0),(3,.ref (.ptr 2 0)),(5,D.tup [D.agg [int 0,D.p (Dp.v Value.nilFunc)],bool false]),(6,.ref (.mp 1)),(7,.ref (.ptr 0 0)),(8,int k),(9,D.tup [D.agg [int 0,D.p (Dp.v Value.nilFunc)],bool false]),(10,D.agg [int 0,D.p (Dp.v Value.nilFunc)]),(11,bool false)]] (posOf (ordOf [{dst:=some 6,op:=Op.call {callee:=Callee.value (Operand.func 106),args:=#[],argTypes:=#[]},type:=136,pos:= "questions.go:59",after:=#[],guard:=none},{dst:=some 7,op:=Op.fieldAddr 100 (Operand.tmp 1) 0,type:=0,pos:= "questions.go:59",after:=#[],guard:=none},{dst:=some 8,op:=Op.load 3 (Operand.tmp 7),type:=3,pos:= "questions.go:59",after:=#[{on:=1,ground:=Ground.data}],guard:=none},{dst:=some 9,op:=Op.lookup 136 (Operand.tmp 6) (Operand.tmp 8) true,type:=135,pos:= "questions.go:59",after:=#[{on:=0,ground:=Ground.data},{on:=2,ground:=Ground.data}],guard:=none},{dst:=some 5,op:=Op.move (Operand.tmp 9),type:=135,pos:= "questions.go:59",after:=#[{on:=3,ground:=Ground.data}],guard:=none},{dst:=some 10,op:=Op.extract (Operand.tmp 5) 0,type:=134,pos:= "questions.go:59",after:=#[{on:=4,ground:=Ground.data}],guard:=none},{dst:=some 11,op:=Op.extract (Operand.tmp 5) 1,type:=4,pos:= "questions.go:59",after:=#[{on:=4,ground:=Ground.data},{on:=8,ground:=Ground.gcOnly Departure.lateStores}],guard:=none},{dst:=some 3,op:=Op.alloc 134,type:=0,pos:= "questions.go:59",after:=#[],guard:=none},{dst:=none,op:=Op.store 134 (Operand.tmp 3) (Operand.tmp 10),type:=0,pos:= "questions.go:59",after:=#[{on:=7,ground:=Ground.data},{on:=5,ground:=Ground.data},{on:=0,ground:=Ground.chain},{on:=0,ground:=Ground.phase},{on:=1,ground:=Ground.phase},{on:=2,ground:=Ground.phase},{on:=3,ground:=Ground.phase},{on:=4,ground:=Ground.phase},{on:=5,ground:=Ground.phase},{on:=6,ground:=Ground.textOnly Departure.lateStores},{on:=7,ground:=Ground.phase}],guard:=none},{dst:=some 4,op:=Op.assign (Operand.tmp 11),type:=4,pos:= "questions.go:59",after:=#[{on:=6,ground:=Ground.data},{on:=8,ground:=Ground.chain},{on:=0,ground:=Ground.phase},{on:=1,ground:=Ground.phase},{on:=2,ground:=Ground.phase},{on:=3,ground:=Ground.phase},{on:=4,ground:=Ground.phase},{on:=5,ground:=Ground.phase},{on:=6,ground:=Ground.phase},{on:=7,ground:=Ground.phase},{on:=8,ground:=Ground.phase}],guard:=none}] (befs [{dst:=some 6,op:=Op.call {callee:=Callee.value (Operand.func 106),args:=#[],argTypes:=#[]},type:=136,pos:= "questions.go:59",after:=#[],guard:=none},{dst:=some 7,op:=Op.fieldAddr 100 (Operand.tmp 1) 0,type:=0,pos:= "questions.go:59",after:=#[],guard:=none},{dst:=some 8,op:=Op.load 3 (Operand.tmp 7),type:=3,pos:= "questions.go:59",after:=#[{on:=1,ground:=Ground.data}],guard:=none},{dst:=some 9,op:=Op.lookup 136 (Operand.tmp 6) (Operand.tmp 8) true,type:=135,pos:= "questions.go:59",after:=#[{on:=0,ground:=Ground.data},{on:=2,ground:=Ground.data}],guard:=none},{dst:=some 5,op:=Op.move (Operand.tmp 9),type:=135,pos:= "questions.go:59",after:=#[{on:=3,ground:=Ground.data}],guard:=none},{dst:=some 10,op:=Op.extract (Operand.tmp 5) 0,type:=134,pos:= "questions.go:59",after:=#[{on:=4,ground:=Ground.data}],guard:=none},{dst:=some 11,op:=Op.extract (Operand.tmp 5) 1,type:=4,pos:= "questions.go:59",after:=#[{on:=4,ground:=Ground.data},{on:=8,ground:=Ground.gcOnly Departure.lateStores}],guard:=none},{dst:=some 3,op:=Op.alloc 134,type:=0,pos:= "questions.go:59",after:=#[],guard:=none},{dst:=none,op:=Op.store 134 (Operand.tmp 3) (Operand.tmp 10),type:=0,pos:= "questions.go:59",after:=#[{on:=7,ground:=Ground.data},{on:=5,ground:=Ground.data},{on:=0,ground:=Ground.chain},{on:=0,ground:=Ground.phase},{on:=1,ground:=Ground.phase},{on:=2,ground:=Ground.phase},{on:=3,ground:=Ground.phase},{on:=4,ground:=Ground.phase},{on:=5,ground:=Ground.phase},{on:=6,ground:=Ground.textOnly Departure.lateStores},{on:=7,ground:=Ground.phase}],guard:=none},{dst:=some 4,op:=Op.assign (Operand.tmp 11),type:=4,pos:= "questions.go:59",after:=#[{on:=6,ground:=Ground.data},{on:=8,ground:=Ground.chain},{on:=0,ground:=Ground.phase},{on:=1,ground:=Ground.phase},{on:=2,ground:=Ground.phase},{on:=3,ground:=Ground.phase},{on:=4,ground:=Ground.phase},{on:=5,ground:=Ground.phase},{on:=6,ground:=Ground.phase},{on:=7,ground:=Ground.phase},{on:=8,ground:=Ground.phase}],guard:=none}] []) (lateIx [{dst:=some 6,op:=Op.call {callee:=Callee.value (Operand.func 106),args:=#[],argTypes:=#[]},type:=136,pos:= "questions.go:59",after:=#[],guard:=none},{dst:=some 7,op:=Op.fieldAddr 100 (Operand.tmp 1) 0,type:=0,pos:= "questions.go:59",after:=#[],guard:=none},{dst:=some 8,op:=Op.load 3 (Operand.tmp 7),type:=3,pos:= "questions.go:59",after:=#[{on:=1,ground:=Ground.data}],guard:=none},{dst:=some 9,op:=Op.lookup 136 (Operand.tmp 6) (Operand.tmp 8) true,type:=135,pos:= "questions.go:59",after:=#[{on:=0,ground:=Ground.data},{on:=2,ground:=Ground.data}],guard:=none},{dst:=some 5,op:=Op.move (Operand.tmp 9),type:=135,pos:= "questions.go:59",after:=#[{on:=3,ground:=Ground.data}],guard:=none},{dst:=some 10,op:=Op.extract (Operand.tmp 5) 0,type:=134,pos:= "questions.go:59",after:=#[{on:=4,ground:=Ground.data}],guard:=none},{dst:=some 11,op:=Op.extract (Operand.tmp 5) 1,type:=4,pos:= "questions.go:59",after:=#[{on:=4,ground:=Ground.data},{on:=8,ground:=Ground.gcOnly Departure.lateStores}],guard:=none},{dst:=some 3,op:=Op.alloc 134,type:=0,pos:= "questions.go:59",after:=#[],guard:=none},{dst:=none,op:=Op.store 134 (Operand.tmp 3) (Operand.tmp 10),type:=0,pos:= "questions.go:59",after:=#[{on:=7,ground:=Ground.data},{on:=5,ground:=Ground.data},{on:=0,ground:=Ground.chain},{on:=0,ground:=Ground.phase},{on:=1,ground:=Ground.phase},{on:=2,ground:=Ground.phase},{on:=3,ground:=Ground.phase},{on:=4,ground:=Ground.phase},{on:=5,ground:=Ground.phase},{on:=6,ground:=Ground.textOnly Departure.lateStores},{on:=7,ground:=Ground.phase}],guard:=none},{dst:=some 4,op:=Op.assign (Operand.tmp 11),type:=4,pos:= "questions.go:59",after:=#[{on:=6,ground:=Ground.data},{on:=8,ground:=Ground.chain},{on:=0,ground:=Ground.phase},{on:=1,ground:=Ground.phase},{on:=2,ground:=Ground.phase},{on:=3,ground:=Ground.phase},{on:=4,ground:=Ground.phase},{on:=5,ground:=Ground.phase},{on:=6,ground:=Ground.phase},{on:=7,ground:=Ground.phase},{on:=8,ground:=Ground.phase}],guard:=none}] (befs [{dst:=some 6,op:=Op.call {callee:=Callee.value (Operand.func 106),args:=#[],argTypes:=#[]},type:=136,pos:= "questions.go:59",after:=#[],guard:=none},{dst:=some 7,op:=Op.fieldAddr 100 (Operand.tmp 1) 0,type:=0,pos:= "questions.go:59",after:=#[],guard:=none},{dst:=some 8,op:=Op.load 3 (Operand.tmp 7),type:=3,pos:= "questions.go:59",after:=#[{on:=1,ground:=Ground.data}],guard:=none},{dst:=some 9,op:=Op.lookup 136 (Operand.tmp 6) (Operand.tmp 8) true,type:=135,pos:= "questions.go:59",after:=#[{on:=0,ground:=Ground.data},{on:=2,ground:=Ground.data}],guard:=none},{dst:=some 5,op:=Op.move (Operand.tmp 9),type:=135,pos:= "questions.go:59",after:=#[{on:=3,ground:=Ground.data}],guard:=none},{dst:=some 10,op:=Op.extract (Operand.tmp 5) 0,type:=134,pos:= "questions.go:59",after:=#[{on:=4,ground:=Ground.data}],guard:=none},{dst:=some 11,op:=Op.extract (Operand.tmp 5) 1,type:=4,pos:= "questions.go:59",after:=#[{on:=4,ground:=Ground.data},{on:=8,ground:=Ground.gcOnly Departure.lateStores}],guard:=none},{dst:=some 3,op:=Op.alloc 134,type:=0,pos:= "questions.go:59",after:=#[],guard:=none},{dst:=none,op:=Op.store 134 (Operand.tmp 3) (Operand.tmp 10),type:=0,pos:= "questions.go:59",after:=#[{on:=7,ground:=Ground.data},{on:=5,ground:=Ground.data},{on:=0,ground:=Ground.chain},{on:=0,ground:=Ground.phase},{on:=1,ground:=Ground.phase},{on:=2,ground:=Ground.phase},{on:=3,ground:=Ground.phase},{on:=4,ground:=Ground.phase},{on:=5,ground:=Ground.phase},{on:=6,ground:=Ground.textOnly Departure.lateStores},{on:=7,ground:=Ground.phase}],guard:=none},{dst:=some 4,op:=Op.assign (Operand.tmp 11),type:=4,pos:= "questions.go:59",after:=#[{on:=6,ground:=Ground.data},{on:=8,ground:=Ground.chain},{on:=0,ground:=Ground.phase},{on:=1,ground:=Ground.phase},{on:=2,ground:=Ground.phase},{on:=3,ground:=Ground.phase},{on:=4,ground:=Ground.phase},{on:=5,ground:=Ground.phase},{on:=6,ground:=Ground.phase},{on:=7,ground:=Ground.phase},{on:=8,ground:=Ground.phase}],guard:=none}] []))) (0+1+1+1)) []) (Operand.tmp 8)) true=some (D.tup [D.agg [int 0,D.p (Dp.v Value.nilFunc)],bool false]) from ?_) (.c (show lookupD Tryz.prog [.map [(int 1,D.agg [int 4095,fq 118],0),(int 2,D.agg [int 0,fq 119],1),(int 3,D.agg [int 10000,fq 119],2),(int 4,D.agg [int 0,fq 119],3),(int 5,D.agg [int 255,fq 120],4)] 0] 136 (.ref (.mp 0)) (evalD Γ0 (List.getD [mkT 46 0 [(0,D.agg [int k,int st,int obj,int term]),(1,.ref (.ptr 0 0)),(2,int 0)],mkT 46 0 [(0,D.agg [int k,int st,int obj,int term]),(1,.ref (.ptr 0 0)),(2,int 0),(6,.ref (.mp 1))],mkT 46 0 [(0,D.agg [int k,int st,int obj,int term]),(1,.ref (.ptr 0 0)),(2,int 0),(6,.ref (.mp 1)),(7,.ref (.ptr 0 0))],mkT 46 0 [(0,D.agg [int k,int st,int obj,int term]),(1,.ref (.ptr 0 0)),(2,int 0),(6,.ref (.mp 1)),(7,.ref (.ptr 0 0)),(8,int k)],mkT 46 0 [(0,D.agg [int k,int st,int obj,int term]),(1,.ref (.ptr 0 0)),(2,int 0),(6,.ref (.mp 1)),(7,.ref (.ptr 0 0)),(8,int k),(9,D.tup [D.agg [int 0,D.p (Dp.v Value.nilFunc)],bool false])],mkT 46 0 [(0,D.agg [int k,int st,int obj,int term]),(1,.ref (.ptr 0 0)),(2,int 0),(5,D.tup [D.agg [int 0,D.p (Dp.v Value.nilFunc)],bool false]),(6,.ref (.mp 1)),(7,.ref (.ptr 0 0)),(8,int k),(9,D.tup [D.agg [int 0,D.p (Dp.v Value.nilFunc)],bool false])],mkT 46 0 [(0,D.agg [int k,int st,int obj,int term]),(1,.ref (.ptr 0 0)),(2,int 0),(5,D.tup [D.agg [int 0,D.p (Dp.v Value.nilFunc)],bool false]),(6,.ref (.mp 1)),(7,.ref (.ptr 0 0)),(8,int k),(9,D.tup [D.agg [int 0,D.p (Dp.v Value.nilFunc)],bool false]),(10,D.agg [int 0,D.p (Dp.v Value.nilFunc)])],mkT 46 0 [(0,D.agg [int k,int st,int obj,int term]),(1,.ref (.ptr 0 0)),(2,int 0),(5,D.tup [D.agg [int 0,D.p (Dp.v Value.nilFunc)],bool false]),(6,.ref (.mp 1)),(7,.ref (.ptr 0 0)),(8,int k),(9,D.tup [D.agg [int 0,D.p (Dp.v Value.nilFunc)],bool false]),(10,D.agg [int 0,D.p (Dp.v Value.nilFunc)]),(11,bool false)],mkT 46 0 [(0,D.agg [int k,int st,int obj,int term]),(1,.ref (.ptr 0 0)),(2,int 0),(3,.ref (.ptr 2 0)),(5,D.tup [D.agg [int 0,D.p (Dp.v Value.nilFunc)],bool false]),(6,.ref (.mp 1)),(7,.ref (.ptr 0 0)),(8,int k),(9,D.tup [D.agg [int 0,D.p (Dp.v Value.nilFunc)],bool false]),(10,D.agg [int 0,D.p (Dp.v Value.nilFunc)]),(11,bool false)],mkT 46 0 [(0,D.agg [int k,int st,int obj,int term]),(1,.ref (.ptr 0 0)),(2,int 0),(3,.ref (.ptr 2 0)),(5,D.tup [D.agg [int 0,D.p (Dp.v Value.nilFunc)],bool false]),(6,.ref (.mp 1)),(7,.ref (.ptr 0 0)),(8,int k),(9,D.tup [D.agg [int 0,D.p (Dp.v Value.nilFunc)],bool false]),(10,D.agg [int 0,D.p (Dp.v Value.nilFunc)]),(11,bool false)]] (posOf (ordOf [{dst:=some 6,op:=Op.call {callee:=Callee.value (Operand.func 106),args:=#[],argTypes:=#[]},type:=136,pos:= "questions.go:59",after:=#[],guard:=none},{dst:=some 7,op:=Op.fieldAddr 100 (Operand.tmp 1) 0,type:=0,pos:= "questions.go:59",after:=#[],guard:=none},{dst:=some 8,op:=Op.load 3 (Operand.tmp 7),type:=3,pos:= "questions.go:59",after:=#[{on:=1,ground:=Ground.data}],guard:=none},{dst:=some 9,op:=Op.lookup 136 (Operand.tmp 6) (Operand.tmp 8) true,type:=135,pos:= "questions.go:59",after:=#[{on:=0,ground:=Ground.data},{on:=2,ground:=Ground.data}],guard:=none},{dst:=some 5,op:=Op.move (Operand.tmp 9),type:=135,pos:= "questions.go:59",after:=#[{on:=3,ground:=Ground.data}],guard:=none},{dst:=some 10,op:=Op.extract (Operand.tmp 5) 0,type:=134,pos:= "questions.go:59",after:=#[{on:=4,ground:=Ground.data}],guard:=none},{dst:=some 11,op:=Op.extract (Operand.tmp 5) 1,type:=4,pos:= "questions.go:59",after:=#[{on:=4,ground:=Ground.data},{on:=8,ground:=Ground.gcOnly Departure.lateStores}],guard:=none},{dst:=some 3,op:=Op.alloc 134,type:=0,pos:= "questions.go:59",after:=#[],guard:=none},{dst:=none,op:=Op.store 134 (Operand.tmp 3) (Operand.tmp 10),type:=0,pos:= "questions.go:59",after:=#[{on:=7,ground:=Ground.data},{on:=5,ground:=Ground.data},{on:=0,ground:=Ground.chain},{on:=0,ground:=Ground.phase},{on:=1,ground:=Ground.phase},{on:=2,ground:=Ground.phase},{on:=3,ground:=Ground.phase},{on:=4,ground:=Ground.phase},{on:=5,ground:=Ground.phase},{on:=6,ground:=Ground.textOnly Departure.lateStores},{on:=7,ground:=Ground.phase}],guard:=none},{dst:=some 4,op:=Op.assign (Operand.tmp 11),type:=4,pos:= "questions.go:59",after:=#[{on:=6,ground:=Ground.data},{on:=8,ground:=Ground.chain},{on:=0,ground:=Ground.phase},{on:=1,ground:=Ground.phase},{on:=2,ground:=Ground.phase},{on:=3,ground:=Ground.phase},{on:=4,ground:=Ground.phase},{on:=5,ground:=Ground.phase},{on:=6,ground:=Ground.phase},{on:=7,ground:=Ground.phase},{on:=8,ground:=Ground.phase}],guard:=none}] (befs [{dst:=some 6,op:=Op.call {callee:=Callee.value (Operand.func 106),args:=#[],argTypes:=#[]},type:=136,pos:= "questions.go:59",after:=#[],guard:=none},{dst:=some 7,op:=Op.fieldAddr 100 (Operand.tmp 1) 0,type:=0,pos:= "questions.go:59",after:=#[],guard:=none},{dst:=some 8,op:=Op.load 3 (Operand.tmp 7),type:=3,pos:= "questions.go:59",after:=#[{on:=1,ground:=Ground.data}],guard:=none},{dst:=some 9,op:=Op.lookup 136 (Operand.tmp 6) (Operand.tmp 8) true,type:=135,pos:= "questions.go:59",after:=#[{on:=0,ground:=Ground.data},{on:=2,ground:=Ground.data}],guard:=none},{dst:=some 5,op:=Op.move (Operand.tmp 9),type:=135,pos:= "questions.go:59",after:=#[{on:=3,ground:=Ground.data}],guard:=none},{dst:=some 10,op:=Op.extract (Operand.tmp 5) 0,type:=134,pos:= "questions.go:59",after:=#[{on:=4,ground:=Ground.data}],guard:=none},{dst:=some 11,op:=Op.extract (Operand.tmp 5) 1,type:=4,pos:= "questions.go:59",after:=#[{on:=4,ground:=Ground.data},{on:=8,ground:=Ground.gcOnly Departure.lateStores}],guard:=none},{dst:=some 3,op:=Op.alloc 134,type:=0,pos:= "questions.go:59",after:=#[],guard:=none},{dst:=none,op:=Op.store 134 (Operand.tmp 3) (Operand.tmp 10),type:=0,pos:= "questions.go:59",after:=#[{on:=7,ground:=Ground.data},{on:=5,ground:=Ground.data},{on:=0,ground:=Ground.chain},{on:=0,ground:=Ground.phase},{on:=1,ground:=Ground.phase},{on:=2,ground:=Ground.phase},{on:=3,ground:=Ground.phase},{on:=4,ground:=Ground.phase},{on:=5,ground:=Ground.phase},{on:=6,ground:=Ground.textOnly Departure.lateStores},{on:=7,ground:=Ground.phase}],guard:=none},{dst:=some 4,op:=Op.assign (Operand.tmp 11),type:=4,pos:= "questions.go:59",after:=#[{on:=6,ground:=Ground.data},{on:=8,ground:=Ground.chain},{on:=0,ground:=Ground.phase},{on:=1,ground:=Ground.phase},{on:=2,ground:=Ground.phase},{on:=3,ground:=Ground.phase},{on:=4,ground:=Ground.phase},{on:=5,ground:=Ground.phase},{on:=6,ground:=Ground.phase},{on:=7,ground:=Ground.phase},{on:=8,ground:=Ground.phase}],guard:=none}] []) (lateIx [{dst:=some 6,op:=Op.call {callee:=Callee.value (Operand.func 106),args:=#[],argTypes:=#[]},type:=136,pos:= "questions.go:59",after:=#[],guard:=none},{dst:=some 7,op:=Op.fieldAddr 100 (Operand.tmp 1) 0,type:=0,pos:= "questions.go:59",after:=#[],guard:=none},{dst:=some 8,op:=Op.load 3 (Operand.tmp 7),type:=3,pos:= "questions.go:59",after:=#[{on:=1,ground:=Ground.data}],guard:=none},{dst:=some 9,op:=Op.lookup 136 (Operand.tmp 6) (Operand.tmp 8) true,type:=135,pos:= "questions.go:59",after:=#[{on:=0,ground:=Ground.data},{on:=2,ground:=Ground.data}],guard:=none},{dst:=some 5,op:=Op.move (Operand.tmp 9),type:=135,pos:= "questions.go:59",after:=#[{on:=3,ground:=Ground.data}],guard:=none},{dst:=some 10,op:=Op.extract (Operand.tmp 5) 0,type:=134,pos:= "questions.go:59",after:=#[{on:=4,ground:=Ground.data}],guard:=none},{dst:=some 11,op:=Op.extract (Operand.tmp 5) 1,type:=4,pos:= "questions.go:59",after:=#[{on:=4,ground:=Ground.data},{on:=8,ground:=Ground.gcOnly Departure.lateStores}],guard:=none},{dst:=some 3,op:=Op.alloc 134,type:=0,pos:= "questions.go:59",after:=#[],guard:=none},{dst:=none,op:=Op.store 134 (Operand.tmp 3) (Operand.tmp 10),type:=0,pos:= "questions.go:59",after:=#[{on:=7,ground:=Ground.data},{on:=5,ground:=Ground.data},{on:=0,ground:=Ground.chain},{on:=0,ground:=Ground.phase},{on:=1,ground:=Ground.phase},{on:=2,ground:=Ground.phase},{on:=3,ground:=Ground.phase},{on:=4,ground:=Ground.phase},{on:=5,ground:=Ground.phase},{on:=6,ground:=Ground.textOnly Departure.lateStores},{on:=7,ground:=Ground.phase}],guard:=none},{dst:=some 4,op:=Op.assign (Operand.tmp 11),type:=4,pos:= "questions.go:59",after:=#[{on:=6,ground:=Ground.data},{on:=8,ground:=Ground.chain},{on:=0,ground:=Ground.phase},{on:=1,ground:=Ground.phase},{on:=2,ground:=Ground.phase},{on:=3,ground:=Ground.phase},{on:=4,ground:=Ground.phase},{on:=5,ground:=Ground.phase},{on:=6,ground:=Ground.phase},{on:=7,ground:=Ground.phase},{on:=8,ground:=Ground.phase}],guard:=none}] (befs [{dst:=some 6,op:=Op.call {callee:=Callee.value (Operand.func 106),args:=#[],argTypes:=#[]},type:=136,pos:= "questions.go:59",after:=#[],guard:=none},{dst:=some 7,op:=Op.fieldAddr 100 (Operand.tmp 1) 0,type:=0,pos:= "questions.go:59",after:=#[],guard:=none},{dst:=some 8,op:=Op.load 3 (Operand.tmp 7),type:=3,pos:= "questions.go:59",after:=#[{on:=1,ground:=Ground.data}],guard:=none},{dst:=some 9,op:=Op.lookup 136 (Operand.tmp 6) (Operand.tmp 8) true,type:=135,pos:= "questions.go:59",after:=#[{on:=0,ground:=Ground.data},{on:=2,ground:=Ground.data}],guard:=none},{dst:=some 5,op:=Op.move (Operand.tmp 9),type:=135,pos:= "questions.go:59",after:=#[{on:=3,ground:=Ground.data}],guard:=none},{dst:=some 10,op:=Op.extract (Operand.tmp 5) 0,type:=134,pos:= "questions.go:59",after:=#[{on:=4,ground:=Ground.data}],guard:=none},{dst:=some 11,op:=Op.extract (Operand.tmp 5) 1,type:=4,pos:= "questions.go:59",after:=#[{on:=4,ground:=Ground.data},{on:=8,ground:=Ground.gcOnly Departure.lateStores}],guard:=none},{dst:=some 3,op:=Op.alloc 134,type:=0,pos:= "questions.go:59",after:=#[],guard:=none},{dst:=none,op:=Op.store 134 (Operand.tmp 3) (Operand.tmp 10),type:=0,pos:= "questions.go:59",after:=#[{on:=7,ground:=Ground.data},{on:=5,ground:=Ground.data},{on:=0,ground:=Ground.chain},{on:=0,ground:=Ground.phase},{on:=1,ground:=Ground.phase},{on:=2,ground:=Ground.phase},{on:=3,ground:=Ground.phase},{on:=4,ground:=Ground.phase},{on:=5,ground:=Ground.phase},{on:=6,ground:=Ground.textOnly Departure.lateStores},{on:=7,ground:=Ground.phase}],guard:=none},{dst:=some 4,op:=Op.assign (Operand.tmp 11),type:=4,pos:= "questions.go:59",after:=#[{on:=6,ground:=Ground.data},{on:=8,ground:=Ground.chain},{on:=0,ground:=Ground.phase},{on:=1,ground:=Ground.phase},{on:=2,ground:=Ground.phase},{on:=3,ground:=Ground.phase},{on:=4,ground:=Ground.phase},{on:=5,ground:=Ground.phase},{on:=6,ground:=Ground.phase},{on:=7,ground:=Ground.phase},{on:=8,ground:=Ground.phase}],guard:=none}] []))) (0+1+1+1)) []) (Operand.tmp 8)) true=some (D.tup [D.agg [int 0,D.p (Dp.v Value.nilFunc)],bool false]) from ?_) (.c (show(!false||Dd (st<0)||Dd (st≥20000)||Dd (term<0)||Dd (term≥1024)||Dd (obj<0)||Dd (obj>0))=true from rfl) .n))))))))))) rfl rfl h) (by first|rfl|(simp at hc0)) (by rfl)<;>(first|assumption|rfl|exact lkQ h1 h2 h3 h4 h5 rfl|exact lkQ2 h1 h2 h3 h4 h5)
theorem rkN_a{k st obj term:Int}(h1:(k==1)=false)(h2:(k==2)=false)(h3:(k==3)=false)(h4:(k==4)=false)(h5:(k==5)=false)(h:List Blk):(Ev Tryz.prog Γ0 81 [.agg [int k,int st,int obj,int term]] h (int 340) h):=by
 exact Ev.castH (Ev.sym0 (d:=int 340) pok [.b false,.b false,.b false,.b false,.b false] (by kernel_rfl) (.c h1 (.c h2 (.c h4 (.c h3 (.c h5 .n))))) rfl rfl h) (by rfl) (by rfl)
theorem kinds_cases(k:Int):k=1∨k=2∨k=3∨k=4∨k=5∨(¬k=1∧¬k=2∧¬k=3∧¬k=4∧¬k=5):=by omega
theorem qcheck_ev(q:QuT)(h:List Blk):Ev Tryz.prog Γ0 93 [ag q.row] h (int (checkQ q)) h:=by
 obtain⟨k,st,obj,term⟩:=q
 rcases kinds_cases k with rfl|rfl|rfl|rfl|rfl|⟨h1,h2,h3,h4,h5⟩
 ·exact qk1_a h
 ·exact qk2_a h
 ·exact qk3_a h
 ·exact qk4_a h
 ·exact qk5_a h
 ·have:checkQ ⟨k,st,obj,term⟩=340:=by simp[checkQ,mostQ,h1,h2,h3,h4,h5]
  rw[this];exact qkN_a h1 h2 h3 h4 h5 h
theorem rcheck_ev(q:QuT)(h:List Blk):Ev Tryz.prog Γ0 81 [ag q.row] h (int (checkQ q)) h:=by
 obtain⟨k,st,obj,term⟩:=q
 rcases kinds_cases k with rfl|rfl|rfl|rfl|rfl|⟨h1,h2,h3,h4,h5⟩
 ·exact rk1_a h
 ·exact rk2_a h
 ·exact rk3_a h
 ·exact rk4_a h
 ·exact rk5_a h
 ·have:checkQ ⟨k,st,obj,term⟩=340:=by simp[checkQ,mostQ,h1,h2,h3,h4,h5]
  rw[this];exact rkN_a (by simp[h1]) (by simp[h2]) (by simp[h3]) (by simp[h4]) (by simp[h5]) h
def buIs(b c:BuT):Bool:=b.sec==c.sec&&(b.lab==c.lab&&true)
abbrev biS(l:List BuT)(b:BuT)(i:Int):AS:={t:=mkT 19 0 [(0,rowsD' (l.map BuT.row)),(3,.ref (.ptr 0 0)),(7,int ((l.map BuT.row).length:Int)),(8,int i)],h:=[.var (b.row.map .p)],m:=[]}
theorem bi_body{l:List BuT}{b c:BuT}{i:Nat}(hr:RowAt (i:Int) (l.map BuT.row) c.row 2)(hlt:Dd ((i:Int)<((l.map BuT.row).length:Int))=true)(hw:IntKind.i64.wrap ((i:Int)+1)=((i+1:Nat):Int))(hb:(b.sec==c.sec&&(b.lab==c.lab&&true))=false):(CW Tryz.prog Γ0 [] false (sub Tryz.f105 0) (biS l b i) .normal (biS l b ((i+1:Nat):Int))):=by
 refine CW.cast (CW.symX (s':={t:=mkT 19 0 [(0,rowsD' (List.map BuT.row l)),(3,.ref (.ptr 0 0)),(7,int (↑(List.length (List.map BuT.row l)):Int)),(8,int (IntKind.wrap IntKind.i64 ((↑i:Int)+1)))],h:=[.var [int b.sec,int b.lab]],m:=[]}) (e:=Exit.normal) pok [.st (.mask [0,3,7,8])] [.b true,.row [vi c.sec,vi c.lab],.b false] (by kernel_rfl) (.c hlt (.c hr (.c hb .n)))) ?_ ?_<;>(first|rfl|(rw[hw]<;>rfl))
theorem bi_hit{l:List BuT}{b c:BuT}{i:Nat}(hr:RowAt (i:Int) (l.map BuT.row) c.row 2)(hlt:Dd ((i:Int)<((l.map BuT.row).length:Int))=true)(hb:(b.sec==c.sec&&(b.lab==c.lab&&true))=true):(CW Tryz.prog Γ0 [] false (sub Tryz.f105 0) (biS l b i) .ret {t:=mkT 19 0 [(4,int (i:Int))],h:=[.var (b.row.map .p)],m:=[]}):=by
 exact CW.cast (CW.symX (s':={t:=mkT 19 0 [(4,int (↑i:Int))],h:=[.var [int b.sec,int b.lab]],m:=[]}) (e:=Exit.ret) pok [.st (.mask [4])] [.b true,.row [vi c.sec,vi c.lab],.b true] (by kernel_rfl) (.c hlt (.c hr (.c hb .n)))) (by rfl) (by rfl)
theorem bi_last{l:List BuT}{b:BuT}{i:Nat}(hlt:Dd ((i:Int)<((l.map BuT.row).length:Int))=false):(CW Tryz.prog Γ0 [] false (sub Tryz.f105 0) (biS l b i) (.exit 0) {t:=mkT 19 0 [],h:=[.var (b.row.map .p)],m:=[]}):=by
 exact CW.cast (CW.symX (s':={t:=mkT 19 0 [],h:=[.var [int b.sec,int b.lab]],m:=[]}) (e:=Exit.exit 0) pok [.st (.mask [])] [.b false] (by kernel_rfl) (.c hlt .n)) (by rfl) (by rfl)
def biF(b c:BuT)(i:Nat):Nat⊕Nat:=match buIs b c with
 | true=>.inr i
 | false=>.inl (i+1)
theorem bi_each{l:List BuT}{b:BuT}(hl:Short l):CW Tryz.prog Γ0 [] false (.loop (sub Tryz.f105 0)) (biS l b 0) (eachFin (.exit 0) (fun _:Nat=>{t:=mkT 19 0 [],h:=[.var (b.row.map .p)],m:=[]}) (fun i:Nat=>(.ret,{t:=mkT 19 0 [(4,int (i:Int))],h:=[.var (b.row.map .p)],m:=[]})) (forL (biF b) l 0)).1 (eachFin (.exit 0) (fun _:Nat=>{t:=mkT 19 0 [],h:=[.var (b.row.map .p)],m:=[]}) (fun i:Nat=>(.ret,{t:=mkT 19 0 [(4,int (i:Int))],h:=[.var (b.row.map .p)],m:=[]})) (forL (biF b) l 0)).2:=by
 refine CW.each l (biF b) (fun i _=>biS l b (i:Int)) (.exit 0) _ _ (fun i s=>s=i) (by simp) (fun _=>by simp) ?_ ?_ 0 rfl
 ·intro i c s hc hs
  subst hs
  have hi:=(List.getElem?_eq_some_iff.1 hc).1
  cases hb:buIs b c with
  | true =>
   have e:biF b c s=.inr s:=by unfold biF;rw[hb]
   rw[e]
   exact⟨fun _ h=>(by cases h),bi_hit (rowAt hc rfl) (lt_len BuT.row hi) hb⟩
  | false =>
   have e:biF b c s=.inl (s+1):=by unfold biF;rw[hb]
   rw[e]
   exact⟨fun _ h=>(by cases h;rfl),bi_body (rowAt hc rfl) (lt_len BuT.row hi) (wrap_succ hi hl) hb⟩
 ·intro s _
  exact bi_last (ge_len BuT.row l)
theorem bi_no{l:List BuT}{b:BuT}(hcw:CW Tryz.prog Γ0 [] false (.loop (sub Tryz.f105 0)) (biS l b 0) (.exit 0) {t:=mkT 19 0 [],h:=[.var (b.row.map .p)],m:=[]})(h:List Blk):(Ev Tryz.prog Γ0 105 [rowsD' (l.map BuT.row),ag b.row] h (int (-1)) h):=by
 have hl0:=(@hcw)
 exact Ev.castH (Ev.sym0 (d:=int (-1)) pok [.sum [0,3,7,8] (Exit.exit 0) {t:=mkT 19 0 [],h:=[.var [int b.sec,int b.lab]],m:=[]}] (by kernel_rfl) (.c hl0 .n) rfl rfl h) (by rfl) (by rfl)
theorem bi_yes{l:List BuT}{b:BuT}{i:Nat}(hcw:CW Tryz.prog Γ0 [] false (.loop (sub Tryz.f105 0)) (biS l b 0) .ret {t:=mkT 19 0 [(4,int (i:Int))],h:=[.var (b.row.map .p)],m:=[]})(h:List Blk):(Ev Tryz.prog Γ0 105 [rowsD' (l.map BuT.row),ag b.row] h (int (i:Int)) h):=by
 have hl0:=(@hcw)
 exact Ev.castH (Ev.sym0 (d:=int (↑i:Int)) pok [.sum [0,3,7,8] (Exit.ret) {t:=mkT 19 0 [(4,int (↑i:Int))],h:=[.var [int b.sec,int b.lab]],m:=[]}] (by kernel_rfl) (.c hl0 .n) rfl rfl h) (by rfl) (by rfl)
def biR(b:BuT)(l:List BuT):Int:=match forL (biF b) l 0 with
 | .inl _ => -1
 | .inr i=>(i:Int)
theorem bindex_ev{l:List BuT}{b:BuT}(hl:Short l)(h:List Blk):Ev Tryz.prog Γ0 105 [rowsD' (l.map BuT.row),ag b.row] h (int (biR b l)) h:=by
 have h1:=bi_each (b:=b) hl
 unfold biR
 cases e:forL (biF b) l 0 with
 | inl _=>rw[e] at h1;exact bi_no h1 h
 | inr i=>rw[e] at h1;exact bi_yes h1 h
theorem biR_any(b:BuT)(l:List BuT):Dd (biR b l≥0)=l.any (buIs b):=by
 have key:∀(l:List BuT) (s:Nat),(match forL (biF b) l s with | .inl _=>false | .inr _=>true)=l.any (buIs b):=by
  intro l
  induction l with
  | nil=>intro s;rfl
  | cons c l ih =>
   intro s
   simp only[forL,biF,List.any_cons]
   cases hb:buIs b c with
   | true=>rfl
   | false=>simpa using ih (s+1)
 rw[←key l 0]
 unfold biR
 cases forL (biF b) l 0<;>simp
theorem bcont_a{l:List BuT}{b:BuT}(hl:Short l)(h:List Blk):(Ev Tryz.prog Γ0 92 [rowsD' (l.map BuT.row),ag b.row] h (bool (Dd (biR b l≥0))) h):=by
 exact Ev.castH (Ev.sym0 (d:=bool (Dd (biR b l≥0))) pok [.val (int (biR b l))] (by kernel_rfl) (.c (@bindex_ev (l) (b) (hl) ([.var [int b.sec,int b.lab]])) .n) rfl rfl h) (by rfl) (by rfl)
theorem bcont_ev{l:List BuT}{b:BuT}(hl:Short l)(h:List Blk):Ev Tryz.prog Γ0 92 [rowsD' (l.map BuT.row),ag b.row] h (bool (l.any (buIs b))) h:=by
 rw[←biR_any];exact bcont_a hl h
abbrev rqk(a b:Int)(g k:Bool):List Dp:=[vi a,vi b,.v (.bool g),.v (.bool k)]
def rkindsD:List Dp:=rqk 0 0 false false++rqk 1 8 false true++rqk 0 0 true false++rqk 1 1 true false++rqk 1 1 false false++rqk 1 1 false false
def Γq:Glob:=fun g=>match g with|0=>some rkindsD|1=>some [.v (.iface 157 (.agg #[.pointer (some ⟨3,111,none⟩)]))]|_=>none
abbrev rqD(k:Int)(r:RqT):List D:=[int r.campus,int r.no,int r.st,int k,int r.time,rowsD' (r.chs.map BuT.row),int r.gsec,int r.glab,int r.key]
abbrev rlH(k:Int)(r:RqT)(a b:Int)(g kk:Bool):List Blk:=[.var (rqD k r),.var [int a,int b,bool g,bool kk]]
abbrev rlS(k:Int)(r:RqT)(a b:Int)(g kk:Bool)(n:Int)(ok:Bool)(i:Int):AS:={t:=mkT 147 0 [(1,.ref (.ptr 0 0)),(3,.ref (.ptr 1 0)),(4,int n),(5,bool ok),(74,rowsD' (r.chs.map BuT.row)),(75,int ((r.chs.map BuT.row).length:Int)),(76,int i)],h:=rlH k r a b g kk,m:=[]}
abbrev rlE(k:Int)(r:RqT)(a b:Int)(g kk:Bool)(n:Int)(ok:Bool):AS:={t:=mkT 147 0 [(1,.ref (.ptr 0 0)),(3,.ref (.ptr 1 0)),(4,int n),(5,bool ok)],h:=rlH k r a b g kk,m:=[]}
theorem sl_to{α:Type}{row:α→List Dp}{sz:Nat}(hz:∀a,(row a).length=sz){l:List α}{i:Nat}(hs:i≤(l.map row).length):
  some ((slOk 0 (i:Int) (l.map row).length&&true&&(true||false)&&(l.map row).all fun r=>Dd (r.length=sz)),rowsD' (List.take ((i:Int).toNat - (0:Int).toNat) (List.drop (0:Int).toNat (l.map row))))=some (true,rowsD' ((l.map row).take i)):=by
 have h1:slOk 0 (i:Int) (l.map row).length=true:=by
  unfold slOk
  simp only[Bool.and_eq_true,decide_eq_true_eq]
  omega
 have h2:((l.map row).all fun r=>Dd (r.length=sz))=true:=List.all_eq_true.2 fun r hr=>by
  obtain⟨a,_,rfl⟩:=List.mem_map.1 hr
  simp[hz]
 rw[h1,h2]
 rfl
theorem rl_f{k:Int}{r:RqT}{a b:Int}{g kk:Bool}{n:Int}{c:BuT}{i:Nat}(hr:RowAt (i:Int) (r.chs.map BuT.row) c.row 2)(hlt:Dd ((i:Int)<((r.chs.map BuT.row).length:Int))=true)(hw:IntKind.i64.wrap ((i:Int)+1)=((i+1:Nat):Int)):(CW Tryz.prog Γq [] false (sub Tryz.f69 0) (rlS k r a b g kk n false i) .normal (rlS k r a b g kk n false ((i+1:Nat):Int))):=by
 refine CW.cast (CW.symX (s':={t:=mkT 147 0 [(1,.ref (.ptr 0 0)),(3,.ref (.ptr 1 0)),(4,int n),(5,bool false),(74,rowsD' (List.map BuT.row r.chs)),(75,int (↑(List.length (List.map BuT.row r.chs)):Int)),(76,int (IntKind.wrap IntKind.i64 ((↑i:Int)+1)))],h:=[.var [int r.campus,int r.no,int r.st,int k,int r.time,rowsD' (List.map BuT.row r.chs),int r.gsec,int r.glab,int r.key],.var [int a,int b,bool g,bool kk]],m:=[]}) (e:=Exit.normal) pok [.st (.mask [1,3,4,5,74,75,76]),.st (.trim 2)] [.b true,.row [vi c.sec,vi c.lab],.g false,.g false,.ov 85 (bool false),.g false,.g false,.g false,.g false,.g false,.g false,.g false,.ov 94 (bool false)] (by kernel_rfl) (.c hlt (.c hr (.c (show(false==true)=false from rfl) (.c (show(false==true)=false from rfl) (.c (show PickIs (bool false) (D.p (Dp.v (Value.tuple {toList:=[]}))) (bool false) (bool false) from(pickIs_f rfl rfl)) (.c (show(false==true)=false from rfl) (.c (show(false==true)=false from rfl) (.c (show(false==true)=false from rfl) (.c (show(false==true)=false from rfl) (.c (show(false==true)=false from rfl) (.c (show(false==true)=false from rfl) (.c (show(false==true)=false from rfl) (.c (show PickIs (bool false) (D.p (Dp.v (Value.tuple {toList:=[]}))) (bool false) (bool false) from(pickIs_f rfl rfl)) .n)))))))))))))) ?_ ?_<;>(first|rfl|(rw[hw]<;>rfl))
noncomputable abbrev rl_1_x0(k:Int)(r:RqT)(a:Int)(b:Int)(g:Bool)(kk:Bool)(c:BuT):List Blk:=[.var [int r.campus,int r.no,int r.st,int k,int r.time,rowsD' (List.map BuT.row r.chs),int r.gsec,int r.glab,int r.key],.var [int a,int b,bool g,bool kk],.var [int c.sec,int c.lab]]
theorem rl_1{k:Int}{r:RqT}{a b:Int}{g kk:Bool}{n:Int}{c:BuT}{i:Nat}(hr:RowAt (i:Int) (r.chs.map BuT.row) c.row 2)(hlt:Dd ((i:Int)<((r.chs.map BuT.row).length:Int))=true)(hw:IntKind.i64.wrap ((i:Int)+1)=((i+1:Nat):Int))(hf:buB c=false):(CW Tryz.prog Γq [] false (sub Tryz.f69 0) (rlS k r a b g kk n true i) .normal (rlS k r a b g kk n false ((i+1:Nat):Int))):=by
 refine CW.cast (CW.symX (s':={t:=mkT 147 0 [(1,.ref (.ptr 0 0)),(3,.ref (.ptr 1 0)),(4,int n),(5,bool false),(74,rowsD' (List.map BuT.row r.chs)),(75,int (↑(List.length (List.map BuT.row r.chs)):Int)),(76,int (IntKind.wrap IntKind.i64 ((↑i:Int)+1)))],h:=[.var [int r.campus,int r.no,int r.st,int k,int r.time,rowsD' (List.map BuT.row r.chs),int r.gsec,int r.glab,int r.key],.var [int a,int b,bool g,bool kk]],m:=[]}) (e:=Exit.normal) pok [.st (.mask [1,3,4,5,74,75,76]),.st (.trim 2)] [.b true,.row [vi c.sec,vi c.lab],.g true,.g true,.val (bool (buB c)),.ov 85 (bool (buB c)),.g false,.g false,.g false,.g false,.g false,.g false,.g false,.ov 94 (bool false)] (by kernel_rfl) (.c hlt (.c hr (.c (show(true==true)=true from rfl) (.c (show(true==true)=true from rfl) (.c (Ev.glob0 (Γ':=Γq) (@buform_ev (c) ((rl_1_x0 k r a b g kk c)))) (.c (show PickIs (bool true) (bool (buB c)) (bool false) (bool (buB c)) from(pickIs_t rfl rfl)) (.c (show(buB c==true)=false from(by rw[hf]<;>rfl)) (.c (show(buB c==true)=false from(by rw[hf]<;>rfl)) (.c (show(buB c==true)=false from(by rw[hf]<;>rfl)) (.c (show(buB c==true)=false from(by rw[hf]<;>rfl)) (.c (show(buB c==true)=false from(by rw[hf]<;>rfl)) (.c (show(buB c==true)=false from(by rw[hf]<;>rfl)) (.c (show(buB c==true)=false from(by rw[hf]<;>rfl)) (.c (show PickIs (bool (buB c)) (D.p (Dp.v (Value.tuple {toList:=[]}))) (bool false) (bool false) from(pickIs_f hf rfl)) .n))))))))))))))) ?_ ?_<;>(first|rfl|(rw[hw]<;>rfl))
noncomputable abbrev rl_2_x0(k:Int)(r:RqT)(a:Int)(b:Int)(g:Bool)(kk:Bool)(c:BuT):List Blk:=[.var [int r.campus,int r.no,int r.st,int k,int r.time,rowsD' (List.map BuT.row r.chs),int r.gsec,int r.glab,int r.key],.var [int a,int b,bool g,bool kk],.var [int c.sec,int c.lab]]
theorem rl_2{k:Int}{r:RqT}{a b:Int}{g kk:Bool}{n:Int}{c:BuT}{i:Nat}(hr:RowAt (i:Int) (r.chs.map BuT.row) c.row 2)(hlt:Dd ((i:Int)<((r.chs.map BuT.row).length:Int))=true)(hw:IntKind.i64.wrap ((i:Int)+1)=((i+1:Nat):Int))(hf:buB c=true)(hsl:i≤(r.chs.map BuT.row).length)(hct:∀h,Ev Tryz.prog Γ0 92 [rowsD' ((r.chs.map BuT.row).take i),ag c.row] h (bool true) h):(CW Tryz.prog Γq [] false (sub Tryz.f69 0) (rlS k r a b g kk n true i) .normal (rlS k r a b g kk n false ((i+1:Nat):Int))):=by
 refine CW.cast (CW.symX (s':={t:=mkT 147 0 [(1,.ref (.ptr 0 0)),(3,.ref (.ptr 1 0)),(4,int n),(5,bool !true),(74,rowsD' (List.map BuT.row r.chs)),(75,int (↑(List.length (List.map BuT.row r.chs)):Int)),(76,int (IntKind.wrap IntKind.i64 ((↑i:Int)+1)))],h:=[.var [int r.campus,int r.no,int r.st,int k,int r.time,rowsD' (List.map BuT.row r.chs),int r.gsec,int r.glab,int r.key],.var [int a,int b,bool g,bool kk]],m:=[]}) (e:=Exit.normal) pok [.st (.mask [1,3,4,5,74,75,76]),.st (.trim 2)] [.b true,.row [vi c.sec,vi c.lab],.g true,.g true,.val (bool (buB c)),.ov 85 (bool (buB c)),.g true,.g true,.g true,.g true,.ov 90 (rowsD' (List.take i (List.map BuT.row r.chs))),.g true,.g true,.val (bool true),.g true,.ov 94 (bool !true)] (by kernel_rfl) (.c hlt (.c hr (.c (show(true==true)=true from rfl) (.c (show(true==true)=true from rfl) (.c (Ev.glob0 (Γ':=Γq) (@buform_ev (c) ((rl_2_x0 k r a b g kk c)))) (.c (show PickIs (bool true) (bool (buB c)) (bool false) (bool (buB c)) from(pickIs_t rfl rfl)) (.c (show(buB c==true)=true from(by rw[hf]<;>rfl)) (.c (show(buB c==true)=true from(by rw[hf]<;>rfl)) (.c (show(buB c==true)=true from(by rw[hf]<;>rfl)) (.c (show(buB c==true)=true from(by rw[hf]<;>rfl)) (.c (show some (slOk 0 (↑i:Int) (List.length (List.map BuT.row r.chs))&&true&&(true||Option.isSome (Option.map (evalD Γq (mkT 147 0 [(1,.ref (.ptr 0 0)),(3,.ref (.ptr 1 0)),(4,int n),(5,bool true),(6,int (↑i:Int)),(7,.ref (.ptr 2 0)),(74,rowsD' (List.map BuT.row r.chs)),(75,int (↑(List.length (List.map BuT.row r.chs)):Int)),(76,int (↑i:Int)),(77,bool (Dd ((↑i:Int)<(↑(List.length (List.map BuT.row r.chs)):Int)))),(78,int (↑i:Int)),(79,D.ep [vi c.sec,vi c.lab]),(80,D.agg [int c.sec,int c.lab]),(81,bool true),(82,bool true),(83,D.agg [int c.sec,int c.lab]),(84,bool (buB c)),(85,bool (buB c)),(86,bool (buB c)),(87,.ref (.ptr 0 5)),(88,rowsD' (List.map BuT.row r.chs)),(89,int (↑i:Int))])) (some (Operand.tmp 89))))&&List.all (List.map BuT.row r.chs) fun r=>Dd (List.length r=2),rowsD' (List.take (Int.toNat (↑i:Int) - Int.toNat 0) (List.drop (Int.toNat 0) (List.map BuT.row r.chs))))=some (true,rowsD' (List.take i (List.map BuT.row r.chs))) from(by first|(simp only[hlt,hf,cond_true,cond_false];done)|first|assumption|rfl|exact sl_to (row:=BuT.row) (fun _=>rfl) hsl)) (.c (show(buB c==true)=true from(by rw[hf]<;>rfl)) (.c (show(buB c==true)=true from(by rw[hf]<;>rfl)) (.c (Ev.glob0 (Γ':=Γq) (@hct ((rl_2_x0 k r a b g kk c)))) (.c (show(buB c==true)=true from(by rw[hf]<;>rfl)) (.c (show PickIs (bool (buB c)) (bool !true) (bool false) (bool !true) from(pickIs_t hf rfl)) .n))))))))))))))))) ?_ ?_<;>(first|rfl|(rw[hw]<;>rfl))
noncomputable abbrev rl_3_x0(k:Int)(r:RqT)(a:Int)(b:Int)(g:Bool)(kk:Bool)(c:BuT):List Blk:=[.var [int r.campus,int r.no,int r.st,int k,int r.time,rowsD' (List.map BuT.row r.chs),int r.gsec,int r.glab,int r.key],.var [int a,int b,bool g,bool kk],.var [int c.sec,int c.lab]]
theorem rl_3{k:Int}{r:RqT}{a b:Int}{g kk:Bool}{n:Int}{c:BuT}{i:Nat}(hr:RowAt (i:Int) (r.chs.map BuT.row) c.row 2)(hlt:Dd ((i:Int)<((r.chs.map BuT.row).length:Int))=true)(hw:IntKind.i64.wrap ((i:Int)+1)=((i+1:Nat):Int))(hf:buB c=true)(hsl:i≤(r.chs.map BuT.row).length)(hct:∀h,Ev Tryz.prog Γ0 92 [rowsD' ((r.chs.map BuT.row).take i),ag c.row] h (bool false) h):(CW Tryz.prog Γq [] false (sub Tryz.f69 0) (rlS k r a b g kk n true i) .normal (rlS k r a b g kk n true ((i+1:Nat):Int))):=by
 refine CW.cast (CW.symX (s':={t:=mkT 147 0 [(1,.ref (.ptr 0 0)),(3,.ref (.ptr 1 0)),(4,int n),(5,bool !false),(74,rowsD' (List.map BuT.row r.chs)),(75,int (↑(List.length (List.map BuT.row r.chs)):Int)),(76,int (IntKind.wrap IntKind.i64 ((↑i:Int)+1)))],h:=[.var [int r.campus,int r.no,int r.st,int k,int r.time,rowsD' (List.map BuT.row r.chs),int r.gsec,int r.glab,int r.key],.var [int a,int b,bool g,bool kk]],m:=[]}) (e:=Exit.normal) pok [.st (.mask [1,3,4,5,74,75,76]),.st (.trim 2)] [.b true,.row [vi c.sec,vi c.lab],.g true,.g true,.val (bool (buB c)),.ov 85 (bool (buB c)),.g true,.g true,.g true,.g true,.ov 90 (rowsD' (List.take i (List.map BuT.row r.chs))),.g true,.g true,.val (bool false),.g true,.ov 94 (bool !false)] (by kernel_rfl) (.c hlt (.c hr (.c (show(true==true)=true from rfl) (.c (show(true==true)=true from rfl) (.c (Ev.glob0 (Γ':=Γq) (@buform_ev (c) ((rl_3_x0 k r a b g kk c)))) (.c (show PickIs (bool true) (bool (buB c)) (bool false) (bool (buB c)) from(pickIs_t rfl rfl)) (.c (show(buB c==true)=true from(by rw[hf]<;>rfl)) (.c (show(buB c==true)=true from(by rw[hf]<;>rfl)) (.c (show(buB c==true)=true from(by rw[hf]<;>rfl)) (.c (show(buB c==true)=true from(by rw[hf]<;>rfl)) (.c (show some (slOk 0 (↑i:Int) (List.length (List.map BuT.row r.chs))&&true&&(true||Option.isSome (Option.map (evalD Γq (mkT 147 0 [(1,.ref (.ptr 0 0)),(3,.ref (.ptr 1 0)),(4,int n),(5,bool true),(6,int (↑i:Int)),(7,.ref (.ptr 2 0)),(74,rowsD' (List.map BuT.row r.chs)),(75,int (↑(List.length (List.map BuT.row r.chs)):Int)),(76,int (↑i:Int)),(77,bool (Dd ((↑i:Int)<(↑(List.length (List.map BuT.row r.chs)):Int)))),(78,int (↑i:Int)),(79,D.ep [vi c.sec,vi c.lab]),(80,D.agg [int c.sec,int c.lab]),(81,bool true),(82,bool true),(83,D.agg [int c.sec,int c.lab]),(84,bool (buB c)),(85,bool (buB c)),(86,bool (buB c)),(87,.ref (.ptr 0 5)),(88,rowsD' (List.map BuT.row r.chs)),(89,int (↑i:Int))])) (some (Operand.tmp 89))))&&List.all (List.map BuT.row r.chs) fun r=>Dd (List.length r=2),rowsD' (List.take (Int.toNat (↑i:Int) - Int.toNat 0) (List.drop (Int.toNat 0) (List.map BuT.row r.chs))))=some (true,rowsD' (List.take i (List.map BuT.row r.chs))) from(by first|(simp only[hlt,hf,cond_true,cond_false];done)|first|assumption|rfl|exact sl_to (row:=BuT.row) (fun _=>rfl) hsl)) (.c (show(buB c==true)=true from(by rw[hf]<;>rfl)) (.c (show(buB c==true)=true from(by rw[hf]<;>rfl)) (.c (Ev.glob0 (Γ':=Γq) (@hct ((rl_3_x0 k r a b g kk c)))) (.c (show(buB c==true)=true from(by rw[hf]<;>rfl)) (.c (show PickIs (bool (buB c)) (bool !false) (bool false) (bool !false) from(pickIs_t hf rfl)) .n))))))))))))))))) ?_ ?_<;>(first|rfl|(rw[hw]<;>rfl))
theorem rl_last{k:Int}{r:RqT}{a b:Int}{g kk:Bool}{n:Int}{ok:Bool}{i:Nat}(hlt:Dd ((i:Int)<((r.chs.map BuT.row).length:Int))=false):(CW Tryz.prog Γq [] false (sub Tryz.f69 0) (rlS k r a b g kk n ok i) (.exit 0) (rlE k r a b g kk n ok)):=by
 exact CW.cast (CW.symX (s':={t:=mkT 147 0 [(1,.ref (.ptr 0 0)),(3,.ref (.ptr 1 0)),(4,int n),(5,bool ok)],h:=[.var [int r.campus,int r.no,int r.st,int k,int r.time,rowsD' (List.map BuT.row r.chs),int r.gsec,int r.glab,int r.key],.var [int a,int b,bool g,bool kk]],m:=[]}) (e:=Exit.exit 0) pok [.st (.mask [1,3,4,5])] [.b false] (by kernel_rfl) (.c hlt .n)) (by rfl) (by rfl)
end Go.Vi
