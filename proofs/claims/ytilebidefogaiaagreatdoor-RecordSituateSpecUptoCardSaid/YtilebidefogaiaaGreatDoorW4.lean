/- RecordSituateSpecUpto: part of the proof: contracts of the functions that the law reaches, and the law. No conditions beyond the given statement's own. -/
import Derived.Test.YtilebidefogaiaaGreatDoorW3
open Decidable renaming decide → Zd
open Go.Vi.AttT renaming row → Hq
open Go.Proofs.Tryz renaming prog → Hm, f118 → JM, f61 → M0, f108 → Jx, f158 → Ky, f54 → Jn, underlying111 → Nx
open Int renaming toNat → Hw, tdiv → Jw, natAbs → HF
open Option renaming isSome → HN, getD → H8
open List renaming getD → HD, length → Hn, map → Hl, getElem?_eq_some_iff → Hs, getElem?_eq_getElem → HH, length_zipIdx → Nw, length_cons → HY, replicate → HX, take_add_one → L7, foldl → HP, forall_mem_cons → Iz
open Go.Vi.D renaming p → II, tup → HV, any → IK, mapR → HO, agg → H6, mapRL → It, fn → I4
open Go.Vi.Dp renaming v → JB
open Go.Value renaming nilFunc → Ie
open Go.IntKind renaming i64 → Hp, wrap → Ht, u64 → Ja
open Go.Exit renaming normal → HA, ret → IB, exit → HT
open Go.Vi.Blk renaming Om → HB
open Go.Vi.CW renaming each → I7
open Go.Vi.Ev renaming castH → H4, nilW → Lx, of_sym → JP
open Go.Vi.CourseT renaming row → Hz
open Go.Vi.SysT renaming row → HC
open Go.Vi.FactT renaming row → Hv
open Go.Vi.RuleT renaming fl → Hr
open Nat renaming gcd → Io
open Go.LoopState renaming ready → Ia, exhausted → Ip, busy → Ji
open Go.Fn renaming func → H2
open Go.Vi.RuF renaming formed → Jt
open Bool renaming and_assoc → Je
open Go Go.Proofs
namespace Go.Vi
set_option maxRecDepth 100000
set_option maxHeartbeats 4000000
abbrev caH(m1 m2:IM):List Blk:=[.var zq,imB m1,imB m2]
abbrev caS(l:List AttT)(rp:List (List Dp))(m1 m2:IM)(i:Int):AS :=
 {t:=mkT 135 0 [(0,ab (l.map Hq)),(1,ab rp),(4,ay),(5,int 0),(6,.ref (.ptr 0 0)),(7,.ref (.mp 1)),(8,.ref (.mp 2)),(32,ab (l.map Hq)),(33,int (l.map Hq).length),(34,int i)],h:=caH m1 m2,m:=[]}
theorem lk1{h:List Blk}{m:IM}{c:Int}(hb:h[1]? = some (imB m)):ap Hm h 125 (.ref (.mp 1)) (int c) true=some (.tup [int ((imGet m c).getD 0),bool (imGet m c).isSome]):=rO (kt:=3) (et:=3) (by kernel_rfl) (by kernel_rfl) (by kernel_rfl) hb
theorem lk2{h:List Blk}{m:IM}{c:Int}(hb:h[2]? = some (imB m)):ap Hm h 125 (.ref (.mp 2)) (int c) true=some (.tup [int ((imGet m c).getD 0),bool (imGet m c).isSome]):=rO (kt:=3) (et:=3) (by kernel_rfl) (by kernel_rfl) (by kernel_rfl) hb
theorem up1{h:List Blk}{m:IM}{c v:Int}(hb:h[1]? = some (imB m)):am Hm h 125 (.ref (.mp 1)) (int c) (int v)=some (h.set 1 (imB (aM m c v))):=iz (kt:=3) (et:=3) (by kernel_rfl) (by kernel_rfl) hb
theorem up2{h:List Blk}{m:IM}{c v:Int}(hb:h[2]? = some (imB m)):am Hm h 125 (.ref (.mp 2)) (int c) (int v)=some (h.set 2 (imB (aM m c v))):=iz (kt:=3) (et:=3) (by kernel_rfl) (by kernel_rfl) hb
def eI(r:Int)(o:Option Int):Bool:=!(Zd (r≥0)&&Zd (r≤2))||(o.isSome&&(o.getD 0 != r))
def rep0(a b:AttT):Bool:=Zd (a.oR>b.oR)||(a.oR==b.oR&&Zd (a.term<b.term))
def rep1(a b:AttT):Bool:=Zd (a.term≥b.term)
def Fl(r:Int)(a b:AttT):Bool:=if r=0 then rep0 a b else rep1 a b
def dW(l:List AttT)(r:Int)(a:AttT)(o:Option Int):Bool:=(r==0||r==1)&&(!o.isSome||Fl r a (l.getD (Hw (o.getD 0)) default))
def caF(l:List AttT)(i:Int)(r:Int)(a:AttT)(s:IM×IM):(IM×IM)⊕Unit:=match eI r (imGet s.1 a.aT) with
 | true=>.inr ()
 | false=>.inl (aM s.1 a.aT r,match dW l r a (imGet s.2 a.aT) with|true=>aM s.2 a.aT i|false=>s.2)
abbrev caX:Unit→Exit×AS:=fun _=>(.ret,{t:=mkT 135 0 [(4,ay),(5,int 1)],h:=[],m:=[]})
theorem caHit0{l:List AttT}{a:AttT}{o:Option Int}:dW l 0 a o=(true&&(!HN o||(Zd (a.oR>(HD l (Hw (H8 o 0)) default).oR)||(a.oR==(HD l (Hw (H8 o 0)) default).oR&&Zd (a.term<(HD l (Hw (H8 o 0)) default).term))))):=by simp[dW,Fl,rep0]
theorem caHit1{l:List AttT}{a:AttT}{o:Option Int}:dW l 1 a o=(true&&(!HN o||Zd (a.term≥(HD l (Hw (H8 o 0)) default).term))):=by simp[dW,Fl,rep1]
theorem Dk{l:List AttT}{a:AttT}{o:Option Int}:dW l 2 a o=false:=by simp[dW]
noncomputable abbrev fb(m1:IM)(m2:IM)(a:AttT):List Blk:=[.var [bool true,fq 208,bool true,fq 209,bool false,II (JB Ie)],.map (ar 0 (aM m1 a.aT 0)) (Hn (aM m1 a.aT 0)),.map (ar 0 m2) (Hn m2),.var [int a.aT,int a.term,int a.oR,int a.tO,int a.bY]]
noncomputable abbrev d5(m1:IM)(m2:IM)(a:AttT):List Blk:=[.var [bool true,fq 208,bool true,fq 209,bool false,II (JB Ie)],.map (ar 0 m1) (Hn m1),.map (ar 0 m2) (Hn m2),.var [int a.aT,int a.term,int a.oR,int a.tO,int a.bY]]
theorem ca_b0{l:List AttT}{rp:List (List Dp)}{m1 m2:IM}{i:Nat}{a:AttT}(hm:∀v,imGet m2 a.aT=some v→0≤v∧v<(l.length:Int))(hr:aj (i:Int) (l.map Hq) a.row 5)(hq:aj (i:Int) rp [vi 0] 1)(iF:Zd ((i:Int)<((l.map Hq).length:Int))=true)(hw:Hp.wrap ((i:Int)+1)=((i+1:Nat):Int)):(CW Hm Γ0 [] false (sub JM 0) (caS l rp m1 m2 i) (ah (fun s=>caS l rp s.1 s.2 ((i+1:Nat):Int)) caX (caF l i 0 a (m1,m2))).1 (ah (fun s=>caS l rp s.1 s.2 ((i+1:Nat):Int)) caX (caF l i 0 a (m1,m2))).2):=by
 cases dO:!(Zd (0≥0)&&Zd (0≤2))||HN (imGet m1 a.aT)&&H8 (imGet m1 a.aT) 0 != 0
 ·cases oN:true&&(!HN (imGet m2 a.aT)||(Zd (a.oR>(HD l (Hw (H8 (imGet m2 a.aT) 0)) default).oR)||a.oR==(HD l (Hw (H8 (imGet m2 a.aT) 0)) default).oR&&Zd (a.term<(HD l (Hw (H8 (imGet m2 a.aT) 0)) default).term)))
  ·let v0:=HD l (Hw (H8 (imGet m2 a.aT) 0)) default
   let v1:=HV [int (H8 (imGet m1 a.aT) 0),bool (HN (imGet m1 a.aT))]
   let v2:=HV [int (H8 (imGet m2 a.aT) 0),bool (HN (imGet m2 a.aT))]
   refine zX {t:=mkT 135 0 [(0,ab (Hl Hq l)),(1,ab rp),(4,nq),(5,int 0),(6,.ref (.ptr 0 0)),(7,.ref (.mp 1)),(8,.ref (.mp 2)),(32,ab (Hl Hq l)),(33,int (↑(Hn (Hl Hq l)):Int)),(34,int (Ht Hp ((↑i:Int)+1)))],h:=[.var [bool true,fq 208,bool true,fq 209,bool false,II (JB Ie)],.map (ar 0 (aM m1 a.aT 0)) (Hn (aM m1 a.aT 0)),.map (ar 0 m2) (Hn m2)],m:=[]} HA [.st (.mask [0,1,4,5,6,7,8,32,33,34]),.st (.trimV 3)] [.b true,.row (Hq a),.ov 43 v1,.row [vi 0],.val (bool (Zd (0≥0)&&Zd (0≤2))),.row [vi 0],.b false,.row [vi 0],.oh 10063 IK (caH (aM m1 a.aT 0) m2++[.var (Hl II (Hq a))]),.ov 74 v2,.row [vi 0],.row [vi 0],.row (Hq v0),.val (bool (Zd (a.oR>v0.oR)||a.oR==v0.oR&&Zd (a.term<v0.term))),.b false] (.c iF (.c hr (.c (show ap Hm (d5 m1 m2 a) 125 (.ref (.mp 1)) (int a.aT) true=some v1 from ?_) (.c hq (.c (@cz 0 0 2 (d5 m1 m2 a)) (.c (show(!!(Zd (0≥0)&&Zd (0≤2))&&HN (imGet m1 a.aT))=true→aj (↑i:Int) rp [vi 0] 1 from(fun hg=>hq)) (.c dO (.c hq (.c (show am Hm (d5 m1 m2 a) 125 (.ref (.mp 1)) (int a.aT) (int 0)=some (fb m1 m2 a) from ?_) (.e (.ref (.ptr 3 0)) (.e (int a.aT) (.c (show ap Hm (fb m1 m2 a) 125 (.ref (.mp 2)) (int a.aT) true=some v2 from ?_) (.c hq (.c (show inR 0 3=true from rfl) (.c (show(true&&!!HN (imGet m2 a.aT))=true→aj (↑i:Int) rp [vi 0] 1 from(fun hg=>hq)) (.c (show(true&&!!HN (imGet m2 a.aT))=true→inR 0 3=true from(fun hg=>rfl)) (.c (show(true&&!!HN (imGet m2 a.aT))=true→aj (H8 (imGet m2 a.aT) 0) (Hl Hq l) (Hq v0) 5 from(fun hg=>?_)) (.c (gd (true&&!!HN (imGet m2 a.aT)) (@zo a v0 (fb m1 m2 a))) (.c oN (.c (show HB 3 (.var [bool true,fq 208,bool true,fq 209,bool false,II (JB Ie)])=true from rfl) (.c (show HB 3 (.map (ar 0 (aM m1 a.aT 0)) (Hn (aM m1 a.aT 0)))=true from ?_) (.c (show HB 3 (.map (ar 0 m2) (Hn m2))=true from ?_) .n)))))))))))))))))))))) (by subst v0 v1 v2;(have h1:eI 0 (imGet m1 a.aT)=false:=dO;have h2:dW l 0 a (imGet m2 a.aT)=false:=caHit0.trans oN;simp only[caF,h1,h2,ah];first|done|rfl)) (by subst v0 v1 v2;(have h1:eI 0 (imGet m1 a.aT)=false:=dO;have h2:dW l 0 a (imGet m2 a.aT)=false:=caHit0.trans oN;simp only[caF,h1,h2,ah,hw];first|done|rfl))<;>subst v0 v1 v2<;>(first|exact lk1 rfl|exact lk2 rfl|exact up1 rfl|exact eH|(refine cj (fun _=>rfl) ?_ ?_<;>(cases hz:imGet m2 a.aT<;>simp_all;done)))
  ·let v0:=HD l (Hw (H8 (imGet m2 a.aT) 0)) default
   let v1:=HV [int (H8 (imGet m1 a.aT) 0),bool (HN (imGet m1 a.aT))]
   let v2:=HV [int (H8 (imGet m2 a.aT) 0),bool (HN (imGet m2 a.aT))]
   let v3:=Hn (aM m1 a.aT 0)
   refine zX {t:=mkT 135 0 [(0,ab (Hl Hq l)),(1,ab rp),(4,nq),(5,int 0),(6,.ref (.ptr 0 0)),(7,.ref (.mp 1)),(8,.ref (.mp 2)),(32,ab (Hl Hq l)),(33,int (↑(Hn (Hl Hq l)):Int)),(34,int (Ht Hp ((↑i:Int)+1)))],h:=[.var [bool true,fq 208,bool true,fq 209,bool false,II (JB Ie)],.map (ar 0 (aM m1 a.aT 0)) v3,.map (ar 0 (aM m2 a.aT (↑i:Int))) (Hn (aM m2 a.aT (↑i:Int)))],m:=[]} HA [.st (.mask [0,1,4,5,6,7,8,32,33,34]),.st (.trimV 3)] [.b true,.row (Hq a),.ov 43 v1,.row [vi 0],.val (bool (Zd (0≥0)&&Zd (0≤2))),.row [vi 0],.b false,.row [vi 0],.oh 10063 IK (caH (aM m1 a.aT 0) m2++[.var (Hl II (Hq a))]),.ov 74 v2,.row [vi 0],.row [vi 0],.row (Hq v0),.val (bool (Zd (a.oR>v0.oR)||a.oR==v0.oR&&Zd (a.term<v0.term))),.b true,.oh 10103 IK (caH (aM m1 a.aT 0) (aM m2 a.aT (↑i:Int))++[.var (Hl II (Hq a))])] (.c iF (.c hr (.c (show ap Hm (d5 m1 m2 a) 125 (.ref (.mp 1)) (int a.aT) true=some v1 from ?_) (.c hq (.c (@cz 0 0 2 (d5 m1 m2 a)) (.c (show(!!(Zd (0≥0)&&Zd (0≤2))&&HN (imGet m1 a.aT))=true→aj (↑i:Int) rp [vi 0] 1 from(fun hg=>hq)) (.c dO (.c hq (.c (show am Hm (d5 m1 m2 a) 125 (.ref (.mp 1)) (int a.aT) (int 0)=some (fb m1 m2 a) from ?_) (.e (.ref (.ptr 3 0)) (.e (int a.aT) (.c (show ap Hm (fb m1 m2 a) 125 (.ref (.mp 2)) (int a.aT) true=some v2 from ?_) (.c hq (.c (show inR 0 3=true from rfl) (.c (show(true&&!!HN (imGet m2 a.aT))=true→aj (↑i:Int) rp [vi 0] 1 from(fun hg=>hq)) (.c (show(true&&!!HN (imGet m2 a.aT))=true→inR 0 3=true from(fun hg=>rfl)) (.c (show(true&&!!HN (imGet m2 a.aT))=true→aj (H8 (imGet m2 a.aT) 0) (Hl Hq l) (Hq v0) 5 from(fun hg=>?_)) (.c (gd (true&&!!HN (imGet m2 a.aT)) (@zo a v0 (fb m1 m2 a))) (.c oN (.c (show am Hm (fb m1 m2 a) 125 (.ref (.mp 2)) (int a.aT) (int (↑i:Int))=some [.var [bool true,fq 208,bool true,fq 209,bool false,II (JB Ie)],.map (ar 0 (aM m1 a.aT 0)) v3,.map (ar 0 (aM m2 a.aT (↑i:Int))) (Hn (aM m2 a.aT (↑i:Int))),.var [int a.aT,int a.term,int a.oR,int a.tO,int a.bY]] from ?_) (.c (show HB 3 (.var [bool true,fq 208,bool true,fq 209,bool false,II (JB Ie)])=true from rfl) (.c (show HB 3 (.map (ar 0 (aM m1 a.aT 0)) v3)=true from ?_) (.c (show HB 3 (.map (ar 0 (aM m2 a.aT (↑i:Int))) (Hn (aM m2 a.aT (↑i:Int))))=true from ?_) .n))))))))))))))))))))))) (by subst v0 v1 v2 v3;(have h1:eI 0 (imGet m1 a.aT)=false:=dO;have h2:dW l 0 a (imGet m2 a.aT)=true:=caHit0.trans oN;simp only[caF,h1,h2,ah];first|done|rfl)) (by subst v0 v1 v2 v3;(have h1:eI 0 (imGet m1 a.aT)=false:=dO;have h2:dW l 0 a (imGet m2 a.aT)=true:=caHit0.trans oN;simp only[caF,h1,h2,ah,hw];first|done|rfl))<;>subst v0 v1 v2 v3<;>(first|exact lk1 rfl|exact lk2 rfl|exact up1 rfl|exact up2 rfl|exact eH|(refine cj (fun _=>rfl) ?_ ?_<;>(cases hz:imGet m2 a.aT<;>simp_all;done)))
 ·let v0:=HV [int (H8 (imGet m1 a.aT) 0),bool (HN (imGet m1 a.aT))]
  refine zX {t:=mkT 135 0 [(4,nq),(5,int 1)],h:=[],m:=[]} IB [.st (.mask [4,5]),.st (.trimV 0)] [.b true,.row (Hq a),.ov 43 v0,.row [vi 0],.val (bool (Zd (0≥0)&&Zd (0≤2))),.row [vi 0],.b true] (.c iF (.c hr (.c (show ap Hm (d5 m1 m2 a) 125 (.ref (.mp 1)) (int a.aT) true=some v0 from(by subst v0;exact lk1 rfl)) (.c hq (.c (@cz 0 0 2 (d5 m1 m2 a)) (.c (show(!!(Zd (0≥0)&&Zd (0≤2))&&HN (imGet m1 a.aT))=true→aj (↑i:Int) rp [vi 0] 1 from(fun hg=>hq)) (.c dO .n))))))) ?_ ?_<;>subst v0<;>(have h1:eI 0 (imGet m1 a.aT)=true:=dO;simp only[caF,h1,ah];first|done|rfl)
noncomputable abbrev fc(m1:IM)(m2:IM)(a:AttT):List Blk:=[.var [bool true,fq 208,bool true,fq 209,bool false,II (JB Ie)],.map (ar 0 (aM m1 a.aT 1)) (Hn (aM m1 a.aT 1)),.map (ar 0 m2) (Hn m2),.var [int a.aT,int a.term,int a.oR,int a.tO,int a.bY]]
noncomputable abbrev d6(m1:IM)(m2:IM)(a:AttT):List Blk:=[.var [bool true,fq 208,bool true,fq 209,bool false,II (JB Ie)],.map (ar 0 m1) (Hn m1),.map (ar 0 m2) (Hn m2),.var [int a.aT,int a.term,int a.oR,int a.tO,int a.bY]]
theorem ca_b1{l:List AttT}{rp:List (List Dp)}{m1 m2:IM}{i:Nat}{a:AttT}(hm:∀v,imGet m2 a.aT=some v→0≤v∧v<(l.length:Int))(hr:aj (i:Int) (l.map Hq) a.row 5)(hq:aj (i:Int) rp [vi 1] 1)(iF:Zd ((i:Int)<((l.map Hq).length:Int))=true)(hw:Hp.wrap ((i:Int)+1)=((i+1:Nat):Int)):(CW Hm Γ0 [] false (sub JM 0) (caS l rp m1 m2 i) (ah (fun s=>caS l rp s.1 s.2 ((i+1:Nat):Int)) caX (caF l i 1 a (m1,m2))).1 (ah (fun s=>caS l rp s.1 s.2 ((i+1:Nat):Int)) caX (caF l i 1 a (m1,m2))).2):=by
 cases dO:!(Zd (1≥0)&&Zd (1≤2))||HN (imGet m1 a.aT)&&H8 (imGet m1 a.aT) 0 != 1
 ·cases oN:true&&(!HN (imGet m2 a.aT)||Zd (a.term≥(HD l (Hw (H8 (imGet m2 a.aT) 0)) default).term))
  ·let v0:=HD l (Hw (H8 (imGet m2 a.aT) 0)) default
   let v1:=HV [int (H8 (imGet m1 a.aT) 0),bool (HN (imGet m1 a.aT))]
   let v2:=HV [int (H8 (imGet m2 a.aT) 0),bool (HN (imGet m2 a.aT))]
   refine zX {t:=mkT 135 0 [(0,ab (Hl Hq l)),(1,ab rp),(4,nq),(5,int 0),(6,.ref (.ptr 0 0)),(7,.ref (.mp 1)),(8,.ref (.mp 2)),(32,ab (Hl Hq l)),(33,int (↑(Hn (Hl Hq l)):Int)),(34,int (Ht Hp ((↑i:Int)+1)))],h:=[.var [bool true,fq 208,bool true,fq 209,bool false,II (JB Ie)],.map (ar 0 (aM m1 a.aT 1)) (Hn (aM m1 a.aT 1)),.map (ar 0 m2) (Hn m2)],m:=[]} HA [.st (.mask [0,1,4,5,6,7,8,32,33,34]),.st (.trimV 3)] [.b true,.row (Hq a),.ov 43 v1,.row [vi 1],.val (bool (Zd (1≥0)&&Zd (1≤2))),.row [vi 1],.b false,.row [vi 1],.oh 10063 IK (caH (aM m1 a.aT 1) m2++[.var (Hl II (Hq a))]),.ov 74 v2,.row [vi 1],.row [vi 1],.row (Hq v0),.val (bool (Zd (a.term≥v0.term))),.b false] (.c iF (.c hr (.c (show ap Hm (d6 m1 m2 a) 125 (.ref (.mp 1)) (int a.aT) true=some v1 from ?_) (.c hq (.c (@cz 1 0 2 (d6 m1 m2 a)) (.c (show(!!(Zd (1≥0)&&Zd (1≤2))&&HN (imGet m1 a.aT))=true→aj (↑i:Int) rp [vi 1] 1 from(fun hg=>hq)) (.c dO (.c hq (.c (show am Hm (d6 m1 m2 a) 125 (.ref (.mp 1)) (int a.aT) (int 1)=some (fc m1 m2 a) from ?_) (.e (.ref (.ptr 3 0)) (.e (int a.aT) (.c (show ap Hm (fc m1 m2 a) 125 (.ref (.mp 2)) (int a.aT) true=some v2 from ?_) (.c hq (.c (show inR 1 3=true from rfl) (.c (show(true&&!!HN (imGet m2 a.aT))=true→aj (↑i:Int) rp [vi 1] 1 from(fun hg=>hq)) (.c (show(true&&!!HN (imGet m2 a.aT))=true→inR 1 3=true from(fun hg=>rfl)) (.c (show(true&&!!HN (imGet m2 a.aT))=true→aj (H8 (imGet m2 a.aT) 0) (Hl Hq l) (Hq v0) 5 from(fun hg=>?_)) (.c (gd (true&&!!HN (imGet m2 a.aT)) (@zp a v0 (fc m1 m2 a))) (.c oN (.c (show HB 3 (.var [bool true,fq 208,bool true,fq 209,bool false,II (JB Ie)])=true from rfl) (.c (show HB 3 (.map (ar 0 (aM m1 a.aT 1)) (Hn (aM m1 a.aT 1)))=true from ?_) (.c (show HB 3 (.map (ar 0 m2) (Hn m2))=true from ?_) .n)))))))))))))))))))))) (by subst v0 v1 v2;(have h1:eI 1 (imGet m1 a.aT)=false:=dO;have h2:dW l 1 a (imGet m2 a.aT)=false:=caHit1.trans oN;simp only[caF,h1,h2,ah];first|done|rfl)) (by subst v0 v1 v2;(have h1:eI 1 (imGet m1 a.aT)=false:=dO;have h2:dW l 1 a (imGet m2 a.aT)=false:=caHit1.trans oN;simp only[caF,h1,h2,ah,hw];first|done|rfl))<;>subst v0 v1 v2<;>(first|exact lk1 rfl|exact lk2 rfl|exact up1 rfl|exact eH|(refine cj (fun _=>rfl) ?_ ?_<;>(cases hz:imGet m2 a.aT<;>simp_all;done)))
  ·let v0:=HD l (Hw (H8 (imGet m2 a.aT) 0)) default
   let v1:=HV [int (H8 (imGet m1 a.aT) 0),bool (HN (imGet m1 a.aT))]
   let v2:=HV [int (H8 (imGet m2 a.aT) 0),bool (HN (imGet m2 a.aT))]
   let v3:=Hn (aM m1 a.aT 1)
   refine zX {t:=mkT 135 0 [(0,ab (Hl Hq l)),(1,ab rp),(4,nq),(5,int 0),(6,.ref (.ptr 0 0)),(7,.ref (.mp 1)),(8,.ref (.mp 2)),(32,ab (Hl Hq l)),(33,int (↑(Hn (Hl Hq l)):Int)),(34,int (Ht Hp ((↑i:Int)+1)))],h:=[.var [bool true,fq 208,bool true,fq 209,bool false,II (JB Ie)],.map (ar 0 (aM m1 a.aT 1)) v3,.map (ar 0 (aM m2 a.aT (↑i:Int))) (Hn (aM m2 a.aT (↑i:Int)))],m:=[]} HA [.st (.mask [0,1,4,5,6,7,8,32,33,34]),.st (.trimV 3)] [.b true,.row (Hq a),.ov 43 v1,.row [vi 1],.val (bool (Zd (1≥0)&&Zd (1≤2))),.row [vi 1],.b false,.row [vi 1],.oh 10063 IK (caH (aM m1 a.aT 1) m2++[.var (Hl II (Hq a))]),.ov 74 v2,.row [vi 1],.row [vi 1],.row (Hq v0),.val (bool (Zd (a.term≥v0.term))),.b true,.oh 10103 IK (caH (aM m1 a.aT 1) (aM m2 a.aT (↑i:Int))++[.var (Hl II (Hq a))])] (.c iF (.c hr (.c (show ap Hm (d6 m1 m2 a) 125 (.ref (.mp 1)) (int a.aT) true=some v1 from ?_) (.c hq (.c (@cz 1 0 2 (d6 m1 m2 a)) (.c (show(!!(Zd (1≥0)&&Zd (1≤2))&&HN (imGet m1 a.aT))=true→aj (↑i:Int) rp [vi 1] 1 from(fun hg=>hq)) (.c dO (.c hq (.c (show am Hm (d6 m1 m2 a) 125 (.ref (.mp 1)) (int a.aT) (int 1)=some (fc m1 m2 a) from ?_) (.e (.ref (.ptr 3 0)) (.e (int a.aT) (.c (show ap Hm (fc m1 m2 a) 125 (.ref (.mp 2)) (int a.aT) true=some v2 from ?_) (.c hq (.c (show inR 1 3=true from rfl) (.c (show(true&&!!HN (imGet m2 a.aT))=true→aj (↑i:Int) rp [vi 1] 1 from(fun hg=>hq)) (.c (show(true&&!!HN (imGet m2 a.aT))=true→inR 1 3=true from(fun hg=>rfl)) (.c (show(true&&!!HN (imGet m2 a.aT))=true→aj (H8 (imGet m2 a.aT) 0) (Hl Hq l) (Hq v0) 5 from(fun hg=>?_)) (.c (gd (true&&!!HN (imGet m2 a.aT)) (@zp a v0 (fc m1 m2 a))) (.c oN (.c (show am Hm (fc m1 m2 a) 125 (.ref (.mp 2)) (int a.aT) (int (↑i:Int))=some [.var [bool true,fq 208,bool true,fq 209,bool false,II (JB Ie)],.map (ar 0 (aM m1 a.aT 1)) v3,.map (ar 0 (aM m2 a.aT (↑i:Int))) (Hn (aM m2 a.aT (↑i:Int))),.var [int a.aT,int a.term,int a.oR,int a.tO,int a.bY]] from ?_) (.c (show HB 3 (.var [bool true,fq 208,bool true,fq 209,bool false,II (JB Ie)])=true from rfl) (.c (show HB 3 (.map (ar 0 (aM m1 a.aT 1)) v3)=true from ?_) (.c (show HB 3 (.map (ar 0 (aM m2 a.aT (↑i:Int))) (Hn (aM m2 a.aT (↑i:Int))))=true from ?_) .n))))))))))))))))))))))) (by subst v0 v1 v2 v3;(have h1:eI 1 (imGet m1 a.aT)=false:=dO;have h2:dW l 1 a (imGet m2 a.aT)=true:=caHit1.trans oN;simp only[caF,h1,h2,ah];first|done|rfl)) (by subst v0 v1 v2 v3;(have h1:eI 1 (imGet m1 a.aT)=false:=dO;have h2:dW l 1 a (imGet m2 a.aT)=true:=caHit1.trans oN;simp only[caF,h1,h2,ah,hw];first|done|rfl))<;>subst v0 v1 v2 v3<;>(first|exact lk1 rfl|exact lk2 rfl|exact up1 rfl|exact up2 rfl|exact eH|(refine cj (fun _=>rfl) ?_ ?_<;>(cases hz:imGet m2 a.aT<;>simp_all;done)))
 ·let v0:=HV [int (H8 (imGet m1 a.aT) 0),bool (HN (imGet m1 a.aT))]
  refine zX {t:=mkT 135 0 [(4,nq),(5,int 1)],h:=[],m:=[]} IB [.st (.mask [4,5]),.st (.trimV 0)] [.b true,.row (Hq a),.ov 43 v0,.row [vi 1],.val (bool (Zd (1≥0)&&Zd (1≤2))),.row [vi 1],.b true] (.c iF (.c hr (.c (show ap Hm (d6 m1 m2 a) 125 (.ref (.mp 1)) (int a.aT) true=some v0 from(by subst v0;exact lk1 rfl)) (.c hq (.c (@cz 1 0 2 (d6 m1 m2 a)) (.c (show(!!(Zd (1≥0)&&Zd (1≤2))&&HN (imGet m1 a.aT))=true→aj (↑i:Int) rp [vi 1] 1 from(fun hg=>hq)) (.c dO .n))))))) ?_ ?_<;>subst v0<;>(have h1:eI 1 (imGet m1 a.aT)=true:=dO;simp only[caF,h1,ah];first|done|rfl)
noncomputable abbrev iA(m1:IM)(m2:IM)(a:AttT):List Blk:=[.var [bool true,fq 208,bool true,fq 209,bool false,II (JB Ie)],.map (ar 0 m1) (Hn m1),.map (ar 0 m2) (Hn m2),.var [int a.aT,int a.term,int a.oR,int a.tO,int a.bY]]
theorem ca_b2{l:List AttT}{rp:List (List Dp)}{m1 m2:IM}{i:Nat}{a:AttT}(hr:aj (i:Int) (l.map Hq) a.row 5)(hq:aj (i:Int) rp [vi 2] 1)(iF:Zd ((i:Int)<((l.map Hq).length:Int))=true)(hw:Hp.wrap ((i:Int)+1)=((i+1:Nat):Int)):(CW Hm Γ0 [] false (sub JM 0) (caS l rp m1 m2 i) (ah (fun s=>caS l rp s.1 s.2 ((i+1:Nat):Int)) caX (caF l i 2 a (m1,m2))).1 (ah (fun s=>caS l rp s.1 s.2 ((i+1:Nat):Int)) caX (caF l i 2 a (m1,m2))).2):=by
 cases dO:!(Zd (2≥0)&&Zd (2≤2))||HN (imGet m1 a.aT)&&H8 (imGet m1 a.aT) 0 != 2
 ·let v1:=HV [int (H8 (imGet m1 a.aT) 0),bool (HN (imGet m1 a.aT))]
  let v2:=HV [int (H8 (imGet m2 a.aT) 0),bool (HN (imGet m2 a.aT))]
  let v3:=Hn (aM m1 a.aT 2)
  let v0:List Blk:=[.var [bool true,fq 208,bool true,fq 209,bool false,II (JB Ie)],.map (ar 0 (aM m1 a.aT 2)) v3,.map (ar 0 m2) (Hn m2),.var [int a.aT,int a.term,int a.oR,int a.tO,int a.bY]]
  refine zX {t:=mkT 135 0 [(0,ab (Hl Hq l)),(1,ab rp),(4,nq),(5,int 0),(6,.ref (.ptr 0 0)),(7,.ref (.mp 1)),(8,.ref (.mp 2)),(32,ab (Hl Hq l)),(33,int (↑(Hn (Hl Hq l)):Int)),(34,int (Ht Hp ((↑i:Int)+1)))],h:=[.var [bool true,fq 208,bool true,fq 209,bool false,II (JB Ie)],.map (ar 0 (aM m1 a.aT 2)) v3,.map (ar 0 m2) (Hn m2)],m:=[]} HA [.st (.mask [0,1,4,5,6,7,8,32,33,34]),.st (.trimV 3)] [.b true,.row (Hq a),.ov 43 v1,.row [vi 2],.val (bool (Zd (2≥0)&&Zd (2≤2))),.row [vi 2],.b false,.row [vi 2],.oh 10063 IK (caH (aM m1 a.aT 2) m2++[.var (Hl II (Hq a))]),.ov 74 v2,.row [vi 2],.g false,.g false,.g false,.g false,.g false,.g false,.g false,.g false,.g false,.g false,.g false,.g false,.g false,.g false,.g false,.g false,.g false,.ov 102 (bool false),.b false] (.c iF (.c hr (.c (show ap Hm (iA m1 m2 a) 125 (.ref (.mp 1)) (int a.aT) true=some v1 from ?_) (.c hq (.c (@cz 2 0 2 (iA m1 m2 a)) (.c (show(!!(Zd (2≥0)&&Zd (2≤2))&&HN (imGet m1 a.aT))=true→aj (↑i:Int) rp [vi 2] 1 from(fun hg=>hq)) (.c dO (.c hq (.c (show am Hm (iA m1 m2 a) 125 (.ref (.mp 1)) (int a.aT) (int 2)=some v0 from ?_) (.e (.ref (.ptr 3 0)) (.e (int a.aT) (.c (show ap Hm v0 125 (.ref (.mp 2)) (int a.aT) true=some v2 from ?_) (.c hq (.c (show inR 2 3=true from rfl) (.f (.f (.f (.er false (.er false (.er false (.er false (.er false (.er false (.er false (.er false (.er false (.er false (.er false (.er false (.er false (.f (.c (pkf (II (JB (Value.tuple {toList:=[]}))) (bool false) rfl) (.er false (.c (show HB 3 (.var [bool true,fq 208,bool true,fq 209,bool false,II (JB Ie)])=true from rfl) (.c (show HB 3 (.map (ar 0 (aM m1 a.aT 2)) v3)=true from ?_) (.c (show HB 3 (.map (ar 0 m2) (Hn m2))=true from ?_) .n)))))))))))))))))))))))))))))))))))) (by subst v1 v2 v3 v0;(have h1:eI 2 (imGet m1 a.aT)=false:=dO;have h2:dW l 2 a (imGet m2 a.aT)=false:=Dk;simp only[caF,h1,h2,ah];first|done|rfl)) (by subst v1 v2 v3 v0;(have h1:eI 2 (imGet m1 a.aT)=false:=dO;have h2:dW l 2 a (imGet m2 a.aT)=false:=Dk;simp only[caF,h1,h2,ah,hw];first|done|rfl))<;>subst v1 v2 v3 v0<;>(first|exact lk1 rfl|exact lk2 rfl|exact up1 rfl|exact eH)
 ·let v0:=HV [int (H8 (imGet m1 a.aT) 0),bool (HN (imGet m1 a.aT))]
  refine zX {t:=mkT 135 0 [(4,nq),(5,int 1)],h:=[],m:=[]} IB [.st (.mask [4,5]),.st (.trimV 0)] [.b true,.row (Hq a),.ov 43 v0,.row [vi 2],.val (bool (Zd (2≥0)&&Zd (2≤2))),.row [vi 2],.b true] (.c iF (.c hr (.c (show ap Hm (iA m1 m2 a) 125 (.ref (.mp 1)) (int a.aT) true=some v0 from(by subst v0;exact lk1 rfl)) (.c hq (.c (@cz 2 0 2 (iA m1 m2 a)) (.c (show(!!(Zd (2≥0)&&Zd (2≤2))&&HN (imGet m1 a.aT))=true→aj (↑i:Int) rp [vi 2] 1 from(fun hg=>hq)) (.c dO .n))))))) ?_ ?_<;>subst v0<;>(have h1:eI 2 (imGet m1 a.aT)=true:=dO;simp only[caF,h1,ah];first|done|rfl)
noncomputable abbrev ve(m1:IM)(m2:IM)(a:AttT):List Blk:=[.var [bool true,fq 208,bool true,fq 209,bool false,II (JB Ie)],.map (ar 0 m1) (Hn m1),.map (ar 0 m2) (Hn m2),.var [int a.aT,int a.term,int a.oR,int a.tO,int a.bY]]
theorem ca_bX{l:List AttT}{rp:List (List Dp)}{m1 m2:IM}{i:Nat}{a:AttT}{r:Int}(hx:(!(Zd (r≥0)&&Zd (r≤2))||HN (imGet m1 a.aT)&&H8 (imGet m1 a.aT) 0 != r)=true)(hr:aj (i:Int) (l.map Hq) a.row 5)(hq:aj (i:Int) rp [vi r] 1)(iF:Zd ((i:Int)<((l.map Hq).length:Int))=true)(hw:Hp.wrap ((i:Int)+1)=((i+1:Nat):Int)):(CW Hm Γ0 [] false (sub JM 0) (caS l rp m1 m2 i) (ah (fun s=>caS l rp s.1 s.2 ((i+1:Nat):Int)) caX (caF l i r a (m1,m2))).1 (ah (fun s=>caS l rp s.1 s.2 ((i+1:Nat):Int)) caX (caF l i r a (m1,m2))).2):=by
 let v0:=HV [int (H8 (imGet m1 a.aT) 0),bool (HN (imGet m1 a.aT))]
 exact zX {t:=mkT 135 0 [(4,nq),(5,int 1)],h:=[],m:=[]} IB [.st (.mask [4,5]),.st (.trimV 0)] [.b true,.row (Hq a),.ov 43 v0,.row [vi r],.val (bool (Zd (r≥0)&&Zd (r≤2))),.row [vi r],.b true] (.c iF (.c hr (.c (show ap Hm (ve m1 m2 a) 125 (.ref (.mp 1)) (int a.aT) true=some v0 from(by subst v0;exact lk1 rfl)) (.c hq (.c (@cz r 0 2 (ve m1 m2 a)) (.c (show(!!(Zd (r≥0)&&Zd (r≤2))&&HN (imGet m1 a.aT))=true→aj (↑i:Int) rp [vi r] 1 from(fun hg=>hq)) (.c hx .n))))))) (by subst v0;(have h1:eI r (imGet m1 a.aT)=true:=hx);simp only[caF,h1,ah];done) (by subst v0;(have h1:eI r (imGet m1 a.aT)=true:=hx);simp only[caF,h1,ah];done)<;>subst v0
theorem Fm{l:List AttT}{rp:List (List Dp)}{m1 m2:IM}{i:Nat}(iF:Zd ((i:Int)<((l.map Hq).length:Int))=false):(CW Hm Γ0 [] false (sub JM 0) (caS l rp m1 m2 i) (.exit 0) {t:=mkT 135 0 [(0,ab (l.map Hq)),(4,ay),(5,int 0),(8,.ref (.mp 2))],h:=caH m1 m2,m:=[]}):=by
 exact zx [.st (.mask [0,4,5,8])] [.b false] (.c iF .n)
abbrev CaE:=(AttT×Int)×Nat
def caE(l:List AttT)(e:CaE)(s:IM×IM):(IM×IM)⊕Unit:=caF l (e.2:Int) e.1.2 e.1.1 s
def caL(l:List AttT)(rp:List Int):List CaE:=(l.zip rp).zipIdx
abbrev caZ(l:List AttT)(s:IM×IM):AS:={t:=mkT 135 0 [(0,ab (l.map Hq)),(4,ay),(5,int 0),(8,.ref (.mp 2))],h:=caH s.1 s.2,m:=[]}
def Fo(l:List AttT)(rp:List Int):Exit×AS:=a8 (.exit 0) (caZ l) caX (forL (caE l) (caL l rp) ([],[]))
theorem ca_cw{l:List AttT}(hl:af l){rp:List Int}(hr:rp.length=l.length):
  CW Hm Γ0 [] false (.loop (sub JM 0)) (caS l (rp.map fun n=>[vi n]) [] [] 0) (Fo l rp).1 (Fo l rp).2:=by
 have hlen:(caL l rp).length=l.length:=by simp[caL,hr]
 have:=I7 (P:=Hm) (Γ:=Γ0) (h0:=[]) (rd:=false) (c:=sub JM 0) (caL l rp) (caE l) (fun i s=>caS l (rp.map fun n=>[vi n]) s.1 s.2 (i:Int)) (.exit 0) (caZ l) caX
  (fun _ s=>∀c v,imGet s.2 c=some v→0≤v∧v<(l.length:Int)) (by simp) (fun _=>by simp) ?_ ?_ ([],[]) (by intro c v h;simp[imGet] at h)
 ·exact this
 ·rintro i ⟨⟨a,r⟩,n⟩ ⟨m1,m2⟩ hp hinv
  obtain⟨hi,he⟩:=Hs.1 hp
  rw[hlen] at hi
  have Qo:i<rp.length:=by omega
  have e1:n=i∧a=l[i]∧r=rp[i]:=by
   have e2:=he.symm
   simp[caL] at e2
   obtain⟨⟨x1,x2⟩,x3⟩:=e2
   exact⟨x3,x1,x2⟩
  obtain⟨rfl,ha,S9⟩:=e1
  have h1:l[n]? = some a:=by rw[ha];exact HH hi
  have h2:rp[n]? = some r:=by rw[S9];exact HH Qo
  have q1:=rowAt (row:=Hq) (sz:=5) h1 rfl
  have q2:=rowAt (row:=fun n:Int=>[vi n]) (sz:=1) h2 rfl
  have q3:=lt_len Hq hi
  have q4:=wrap_succ hi hl
  refine⟨fun s' h=>?_,?_⟩
  ·simp only[caE,caF] at h
   split at h
   ·simp at h
   ·simp only[Sum.inl.injEq] at h
    subst h
    intro c v hc
    simp only at hc
    split at hc
    ·rw[eG] at hc
     split at hc
     ·simp only[Option.some.injEq] at hc;subst hc;omega
     ·exact hinv c v hc
    ·exact hinv c v hc
  ·simp only[caE]
   by_cases hb:(!(Zd (r≥0)&&Zd (r≤2)))=true
   ·exact ca_bX (by rw[hb];rfl) q1 q2 q3 q4
   ·have:r=0∨r=1∨r=2:=by simp at hb;omega
    rcases this with h0|h0|h0
    ·rw[h0] at q2 ⊢;exact ca_b0 (fun v hv=>hinv _ v hv) q1 q2 q3 q4
    ·rw[h0] at q2 ⊢;exact ca_b1 (fun v hv=>hinv _ v hv) q1 q2 q3 q4
    ·rw[h0] at q2 ⊢;exact ca_b2 q1 q2 q3 q4
 ·rintro⟨m1,m2⟩ _
  rw[hlen]
  exact Fm (aJ Hq l)
abbrev cgH(m1 m2:IM)(out:List AttT):List Blk:=[.var zq,imB m1,imB m2,.vec (ae (out.map Hq)) 0 5]
abbrev cgS(l:List AttT)(m1 m2:IM)(out:List AttT)(i:Int):AS :=
 {t:=mkT 135 0 [(4,.ref (.vec 3 0)),(5,int 0),(8,.ref (.mp 2)),(108,ab (l.map Hq)),(109,int (l.map Hq).length),(110,int i)],h:=cgH m1 m2 out,m:=[]}
def cgHit(m2:IM)(i:Nat)(a:AttT):Bool:=!(imGet m2 a.aT).isSome||((imGet m2 a.aT).getD 0==(i:Int))
def cgF(m2:IM)(e:AttT×Nat)(out:List AttT):List AttT:=bif cgHit m2 e.2 e.1 then out++[e.1] else out
theorem Fp{l:List AttT}{m1 m2:IM}{out:List AttT}{i:Nat}{a:AttT}(hr:aj (i:Int) (l.map Hq) a.row 5)(iF:Zd ((i:Int)<((l.map Hq).length:Int))=true)(hw:Hp.wrap ((i:Int)+1)=((i+1:Nat):Int))(ho:out.length≤1000000000):(CW Hm Γ0 [] false (sub JM 1) (cgS l m1 m2 out i) .normal (cgS l m1 m2 (cgF m2 (a,i) out) ((i+1:Nat):Int))):=by
 cases dO:!HN (imGet m2 a.aT)||H8 (imGet m2 a.aT) 0==(↑i:Int)
 ·let v0:=HV [int (H8 (imGet m2 a.aT) 0),bool (HN (imGet m2 a.aT))]
  refine zX {t:=mkT 135 0 [(4,.ref (.vec 3 0)),(5,int 0),(8,.ref (.mp 2)),(108,ab (Hl Hq l)),(109,int (↑(Hn (Hl Hq l)):Int)),(110,int (Ht Hp ((↑i:Int)+1)))],h:=[.var [bool true,fq 208,bool true,fq 209,bool false,II (JB Ie)],.map (ar 0 m1) (Hn m1),.map (ar 0 m2) (Hn m2),.vec (ae (Hl Hq out)) 0 5],m:=[]} HA [.st (.mask [4,5,8,108,109,110]),.st (.ren 3 0),.st (.trimV 4)] [.b true,.row (Hq a),.ov 119 v0,.b false] (.c iF (.c hr (.c (show ap Hm [.var [bool true,fq 208,bool true,fq 209,bool false,II (JB Ie)],.map (ar 0 m1) (Hn m1),.map (ar 0 m2) (Hn m2),.vec (ae (Hl Hq out)) 0 5,.var [int a.aT,int a.term,int a.oR,int a.tO,int a.bY]] 125 (.ref (.mp 2)) (int a.aT) true=some v0 from ?_) (.c dO (.c (vM (Hl Hq out) 3 0 0) (.c (show Hl (fun e=>(HO (al 3 0 0) e.1,HO (al 3 0 0) e.2.1,e.2.2)) (ar 0 m1)=ar 0 m1 from ?_) (.c (show Hl (fun e=>(HO (al 3 0 0) e.1,HO (al 3 0 0) e.2.1,e.2.2)) (ar 0 m2)=ar 0 m2 from ?_) (.c (show HB 4 (match 0==3 with|true=>.vec (ae (Hl Hq out)) 0 5|false=>keepX (al 3 0 0) (.var [bool true,fq 208,bool true,fq 209,bool false,II (JB Ie)]))=true from rfl) (.c (show HB 4 (match 0+1==3 with|true=>.vec (ae (Hl Hq out)) 0 5|false=>keepX (al 3 0 0) (.map (ar 0 m1) (Hn m1)))=true from ?_) (.c (show HB 4 (match 0+1+1==3 with|true=>.vec (ae (Hl Hq out)) 0 5|false=>keepX (al 3 0 0) (.map (ar 0 m2) (Hn m2)))=true from ?_) (.c (iV 4 (Hl Hq out) 0 5) .n))))))))))) (by subst v0;(have hh:cgHit m2 i a=false:=dO;simp only[];first|done|rfl)) (by subst v0;(have hh:cgHit m2 i a=false:=dO;simp only[cgF,hh,cond_false,hw];first|done|rfl))<;>subst v0<;>(first|exact lk2 rfl|exact eH|exact bP _ _ _)
 ·let v0:List D:=[int a.aT,int a.term,int a.oR,int a.tO,int a.bY]
  let v1:=HV [int (H8 (imGet m2 a.aT) 0),bool (HN (imGet m2 a.aT))]
  refine zX {t:=mkT 135 0 [(4,.ref (.vec 3 0)),(5,int 0),(8,.ref (.mp 2)),(108,ab (Hl Hq l)),(109,int (↑(Hn (Hl Hq l)):Int)),(110,int (Ht Hp ((↑i:Int)+1)))],h:=[.var [bool true,fq 208,bool true,fq 209,bool false,II (JB Ie)],.map (ar 0 m1) (Hn m1),.map (ar 0 m2) (Hn m2),.vec (ae (Hl Hq out)++[v0]) 0 5],m:=[]} HA [.st (.mask [4,5,8,108,109,110]),.st (.ren 3 0),.st (.trimV 4)] [.b true,.row (Hq a),.ov 119 v1,.b true] (.c iF (.c hr (.c (show ap Hm [.var [bool true,fq 208,bool true,fq 209,bool false,II (JB Ie)],.map (ar 0 m1) (Hn m1),.map (ar 0 m2) (Hn m2),.vec (ae (Hl Hq out)) 0 5,.var v0] 125 (.ref (.mp 2)) (int a.aT) true=some v1 from ?_) (.c dO (.c (show(List.all [v0] (aG 5)&&roomOk (Hn (ae (Hl Hq out))+Hn [v0]) 40)=true from ?_) (.c (vMa (Hl Hq out) [v0] 3 1 0) (.c (show Hl (fun e=>(HO (al 3 1 0) e.1,HO (al 3 1 0) e.2.1,e.2.2)) (ar 0 m1)=ar 0 m1 from ?_) (.c (show Hl (fun e=>(HO (al 3 1 0) e.1,HO (al 3 1 0) e.2.1,e.2.2)) (ar 0 m2)=ar 0 m2 from ?_) (.er [v0] (.c (show HB 4 (match 0==3 with|true=>.vec (ae (Hl Hq out)++[v0]) 0 5|false=>keepX (al 3 1 0) (.var [bool true,fq 208,bool true,fq 209,bool false,II (JB Ie)]))=true from rfl) (.c (show HB 4 (match 0+1==3 with|true=>.vec (ae (Hl Hq out)++[v0]) 0 5|false=>keepX (al 3 1 0) (.map (ar 0 m1) (Hn m1)))=true from ?_) (.c (show HB 4 (match 0+1+1==3 with|true=>.vec (ae (Hl Hq out)++[v0]) 0 5|false=>keepX (al 3 1 0) (.map (ar 0 m2) (Hn m2)))=true from ?_) (.c (iVa 4 (Hl Hq out) [v0] 0 5) .n))))))))))))) (by subst v0 v1;(have hh:cgHit m2 i a=true:=dO;simp only[];first|done|rfl)) (by subst v0 v1;(have hh:cgHit m2 i a=true:=dO;simp only[cgF,hh,cond_true,hw,tk];first|done|rfl))<;>subst v0 v1<;>(first|exact lk2 rfl|exact eH|exact bP _ _ _|(simp[aG,D.one,Value.oneCell',roomOk];omega))
theorem Fq{l:List AttT}{m1 m2:IM}{out:List AttT}{i:Nat}(iF:Zd ((i:Int)<((l.map Hq).length:Int))=false):(CW Hm Γ0 [] false (sub JM 1) (cgS l m1 m2 out i) (.exit 2) {t:=mkT 135 0 [(4,.ref (.vec 3 0)),(5,int 0)],h:=cgH m1 m2 out,m:=[]}):=by
 exact zx [.st (.mask [4,5])] [.b false] (.c iF .n)
def rP(l:List AttT)(m2:IM):List AttT:=l.zipIdx.foldl (fun out e=>cgF m2 e out) []
theorem cg_cw{l:List AttT}(hl:l.length≤900000000){m1 m2:IM}:
  CW Hm Γ0 [] false (.loop (sub JM 1)) (cgS l m1 m2 [] 0) (.exit 2) {t:=mkT 135 0 [(4,.ref (.vec 3 0)),(5,int 0)],h:=cgH m1 m2 (rP l m2),m:=[]}:=by
 have hs:af l:=by unfold af;omega
 have:=I7 (P:=Hm) (Γ:=Γ0) (h0:=[]) (rd:=false) (c:=sub JM 1) (σ:=List AttT) (ρ:=Empty) l.zipIdx (fun e out=>.inl (cgF m2 e out))
  (fun i out=>cgS l m1 m2 out (i:Int)) (.exit 2) (fun out=>{t:=mkT 135 0 [(4,.ref (.vec 3 0)),(5,int 0)],h:=cgH m1 m2 out,m:=[]}) (fun r=>r.elim)
  (fun i out=>out.length≤i) (by simp) (fun r=>r.elim) ?_ ?_ [] (by simp)
 ·rw[aC (fun out e=>cgF m2 e out)] at this
  exact this
 ·rintro i ⟨a,n⟩ out hp hout
  obtain⟨hi,he⟩:=Hs.1 hp
  simp only[Nw] at hi
  have e1:a=l[i]∧n=i:=by simpa[eq_comm] using he.symm
  obtain⟨ha,rfl⟩:=e1
  have h1:l[n]? = some a:=by rw[ha];exact HH hi
  refine⟨fun s' h=>?_,Fp (rowAt h1 rfl) (lt_len Hq hi) (wrap_succ hi hs) (by omega)⟩
  cases h
  unfold cgF
  cases cgHit m2 n a<;>simp<;>omega
 ·intro out _
  rw[Nw]
  exact Fq (aJ Hq l)
def caR(l:List AttT)(rp:List Int):(IM×IM)⊕Unit:=forL (caE l) (caL l rp) ([],[])
theorem vf{l:List AttT}{rp:List Int}:Fo l rp=a8 (.exit 0) (caZ l) caX (caR l rp):=rfl
def iE(l:List AttT)(rp:List Int):List AttT×Int :=
 bif Zd (bQ l=0) then (bif Zd (rp.length=l.length) then (match caR l rp with | .inl s=>(rP l s.2,0) | .inr _=>([],1)) else ([],1)) else ([],bQ l)
theorem vg{l:List AttT}{rp:List Int}(h:(bQ l != 0)=true):iE l rp=([],bQ l):=by
 have h':bQ l ≠ 0:=by simpa using h
 simp[iE,h']
theorem B6{l:List AttT}{rp:List Int}(h1:(bQ l != 0)=false)(h2:rp.length ≠ l.length):iE l rp=([],1):=by
 have h':bQ l=0:=by simpa using h1
 simp[iE,h',h2]
theorem vj{l:List AttT}{rp:List Int}(h1:(bQ l != 0)=false)(h2:rp.length=l.length){u:Unit}(h3:caR l rp=.inr u):iE l rp=([],1):=by
 have h':bQ l=0:=by simpa using h1
 simp[iE,h',h2,h3]
theorem zr{l:List AttT}{rp:List Int}(h1:(bQ l != 0)=false)(h2:rp.length=l.length){s:IM×IM}(h3:caR l rp=.inl s):iE l rp=(rP l s.2,0):=by
 have h':bQ l=0:=by simpa using h1
 simp[iE,h',h2,h3]
theorem len_ne{l:List AttT}{rp:List Int}(h2:rp.length ≠ l.length):(((rp.map fun n=>[vi n]).length:Int) != ((l.map Hq).length:Int))=true:=by
 simp;omega
theorem zt{l:List AttT}{rp:List Int}(h2:rp.length=l.length):(((rp.map fun n=>[vi n]).length:Int) != ((l.map Hq).length:Int))=false:=by
 simp;omega
theorem B7(b n:Nat)(rows:List (List Dp))(m:IM)(k:Nat):(ar k m).map (fun e=>(HO (bD b n rows) e.1,HO (bD b n rows) e.2.1,e.2.2))=ar k m:=by
 induction m generalizing k with
 | nil=>rfl
 | cons e m ih=>simp only[ar,List.map_cons,ih];rfl
theorem vecR_frz(l:List AttT):ae (l.map Hq)=(l.map Hq).map (Hl II):=by simp[ae]
theorem cnt_e1{l:List AttT}{rp:List Int}(hs:af l)(hz:(bQ l != 0)=true)(h:List Blk):(Ev Hm Γ0 118 [ab (l.map Hq),ab (rp.map fun n=>[vi n])] h (.tup [ab [],int (bQ l)]) h):=by
 exact H4 (Lx (z0 (d:=HV [nq,int (bQ l)]) [.val (int (bQ l)),.b true] (.c (@dh l hs ([])) (.c hz .n)) h)) (by rfl) (by rfl)
theorem cnt_e2{l:List AttT}{rp:List Int}(hs:af l)(hz:(bQ l != 0)=false)(Ou:(((rp.map fun n=>[vi n]).length:Int) != ((l.map Hq).length:Int))=true)(h:List Blk):(Ev Hm Γ0 118 [ab (l.map Hq),ab (rp.map fun n=>[vi n])] h (.tup [ab [],int 1]) h):=by
 exact H4 (Lx (z0 (d:=HV [nq,int 1]) [.val (int (bQ l)),.b false,.b true] (.c (@dh l hs ([])) (.c hz (.c Ou .n))) h)) (by rfl) (by rfl)
theorem aErr0{l:List AttT}(hz:(bQ l != 0)=false):bQ l=0:=by simpa using hz
abbrev caS2(l:List AttT)(rp:List (List Dp))(z:Int):AS :=
 {t:=mkT 135 0 [(0,ab (l.map Hq)),(1,ab rp),(4,ay),(5,int z),(6,.ref (.ptr 0 0)),(7,.ref (.mp 1)),(8,.ref (.mp 2)),(32,ab (l.map Hq)),(33,int (l.map Hq).length),(34,int 0)],h:=caH [] [],m:=[]}
theorem zu{l:List AttT}(hs:af l){rp:List Int}(hr:rp.length=l.length){u:Unit}(hc:caR l rp=.inr u)(hz:(bQ l != 0)=false):
  CW Hm Γ0 [] false (.loop (sub JM 0)) (caS2 l (rp.map fun n=>[vi n]) (bQ l)) .ret {t:=mkT 135 0 [(4,ay),(5,int 1)],h:=[],m:=[]}:=by
 have:=ca_cw hs hr
 rw[vf,hc] at this
 rw[aErr0 hz]
 exact this
theorem cnt_e3{l:List AttT}{rp:List Int}(hs:af l)(hr:rp.length=l.length){u:Unit}(hc:caR l rp=.inr u)(hz:(bQ l != 0)=false)(Ou:(((rp.map fun n=>[vi n]).length:Int) != ((l.map Hq).length:Int))=false)(h:List Blk):(Ev Hm Γ0 118 [ab (l.map Hq),ab (rp.map fun n=>[vi n])] h (.tup [ab [],int 1]) h):=by
 have N1:=(@zu (l) (hs) (rp) (hr) (u) (hc) (hz))
 exact H4 (Lx (z0 (d:=HV [nq,int 1]) [.val (int (bQ l)),.b false,.b false,.val (H6 [bool true,fq 208,bool true,fq 209,bool false,II (JB Ie)]),.sum [0,1,4,5,6,7,8,32,33,34] (IB) {t:=mkT 135 0 [(4,nq),(5,int 1)],h:=[],m:=[]}] (.c (@dh l hs ([])) (.c hz (.c Ou (.c (@vd ([])) (.c N1 .n))))) h)) (by rfl) (by rfl)
theorem B8{l:List AttT}(hs:af l){rp:List Int}(hr:rp.length=l.length){m1 m2:IM}(hc:caR l rp=.inl (m1,m2))(hz:(bQ l != 0)=false):
  CW Hm Γ0 [] false (.loop (sub JM 0)) (caS2 l (rp.map fun n=>[vi n]) (bQ l)) (.exit 0) (caZ l (m1,m2)):=by
 have:=ca_cw hs hr
 rw[vf,hc] at this
 rw[aErr0 hz]
 exact this
theorem cnt_ok{l:List AttT}{rp:List Int}(hs:af l)(hl:l.length≤900000000)(hr:rp.length=l.length){m1 m2:IM}(hc:caR l rp=.inl (m1,m2))(hz:(bQ l != 0)=false)(Ou:(((rp.map fun n=>[vi n]).length:Int) != ((l.map Hq).length:Int))=false)(h:List Blk):(Ev Hm Γ0 118 [ab (l.map Hq),ab (rp.map fun n=>[vi n])] h (.tup [ab ((rP l m2).map Hq),int 0]) h):=by
 have N1:=(@B8 (l) (hs) (rp) (hr) (m1) (m2) (hc) (hz))
 have Oj:=(@cg_cw (l) (hl) (m1) (m2))
 let v0:=Hl Hq (rP l m2)
 refine H4 (Lx (z0 (d:=HV [ab v0,int 0]) [.val (int (bQ l)),.b false,.b false,.val (H6 [bool true,fq 208,bool true,fq 209,bool false,II (JB Ie)]),.sum [0,1,4,5,6,7,8,32,33,34] (HT 0) {t:=mkT 135 0 [(0,ab (Hl Hq l)),(4,nq),(5,int 0),(8,.ref (.mp 2))],h:=[.var [bool true,fq 208,bool true,fq 209,bool false,II (JB Ie)],.map (ar 0 m1) (Hn (m1,m2).1),.map (ar 0 m2) (Hn (m1,m2).2)],m:=[]},.nx 1,.st (.nilT 4 5),.sum [4,5,8,108,109,110] (HT 2) {t:=mkT 135 0 [(4,.ref (.vec 3 0)),(5,int 0)],h:=[.var [bool true,fq 208,bool true,fq 209,bool false,II (JB Ie)],.map (ar 0 m1) (Hn m1),.map (ar 0 m2) (Hn m2),.vec (ae v0) 0 5],m:=[]},.st (.mask [4,5]),.st (.frz 3 v0),.st (.trimV 0)] (.c (@dh l hs ([])) (.c hz (.c Ou (.c (@vd ([])) (.c N1 (.c Oj (.c (show ae v0=Hl (fun x=>Hl II x) v0 from ?_) (.c (show Hl (fun e=>(HO (bD 3 0 v0) e.1,HO (bD 3 0 v0) e.2.1,e.2.2)) (ar 0 m1)=ar 0 m1 from ?_) (.c (show Hl (fun e=>(HO (bD 3 0 v0) e.1,HO (bD 3 0 v0) e.2.1,e.2.2)) (ar 0 m2)=ar 0 m2 from ?_) .n))))))))) h)) (by rfl) (by rfl)<;>subst v0<;>(first|rfl|exact B7 _ _ _ _ _)
theorem cnt_ev{l:List AttT}(hl:l.length≤900000000){rp:List Int}(h:List Blk):Ev Hm Γ0 118 [ab (l.map Hq),ab (rp.map fun n=>[vi n])] h (.tup [ab ((iE l rp).1.map Hq),int (iE l rp).2]) h:=by
 have hs:af l:=by unfold af;omega
 cases hz:(bQ l != 0)
 ·by_cases hr:rp.length=l.length
  ·cases hc:caR l rp with
   | inl s=>obtain⟨m1,m2⟩:=s;rw[zr hz hr hc];exact cnt_ok hs hl hr hc hz (zt hr) h
   | inr u=>rw[vj hz hr hc];exact cnt_e3 hs hr hc hz (zt hr) h
  ·rw[B6 hz hr];exact cnt_e2 hs hz (len_ne hr) h
 ·rw[vg hz];exact cnt_e1 hs hz h
abbrev cvV(xs:List Int):List (List D):=ae (xs.map fun n=>[vi n])
abbrev cvS(w:WorldT)(known term:Int)(as_:List (List Dp))(rs:List ReadT)(xs:List Int)(i:Int):AS :=
 {t:=mkT 36 0 [(0,.ref (.ptr 0 0)),(1,ab as_),(2,int term),(8,.ref (.vec 2 0)),(14,ab as_),(15,int as_.length),(16,int i)],h:=lkH w known rs 1++[.vec (cvV xs) 0 1],m:=[]}
theorem B9{h:List Blk}{xs:List Int}{i:Nat}{v:Int}(hb:h[2]? = some (.vec (cvV xs) 0 1))(hi:i<xs.length):bG Hm h 3 (.ref (.vp 2 0 (Hw (i:Int)) 0)) (int v)=some (h.set 2 (.vec (cvV (xs.set i v)) 0 1)):=by
 have e1:(cvV xs)[Hw (i:Int)]? = some [int xs[i]]:=by simp[hi]
 have e2:szOf Hm 3=some 1:=by kernel_rfl
 have e3:(cvV xs).set (Hw (i:Int)) [int v]=cvV (xs.set i v):=by simp[List.map_set]
 unfold bG
 simp only[int,D.cells,e2,hb,e1]
 rw[←e3]
 rfl
theorem cv_inR{xs:List Int}{i:Nat}(hi:i<xs.length):inR (i:Int) (cvV xs).length=true:=by
 simp[inR];omega
noncomputable abbrev jm(w:WorldT)(known:Int)(term:Int)(a:AttT)(rs:List ReadT)(xs:List Int):List Blk:=[.var [.ref (.vec 1 2),ab (Hl Hz w.c),ab w.p,ab (Hl HC w.s),ab (Hl Hv w.f),int known],.vec (ae (rdR (rs++rdT 1 a.aT 0 term))) 2 5,.vec (cvV xs) 0 1,.var [int a.aT,int a.term,int a.oR,int a.tO,int a.bY]]
theorem Fr{w:WorldT}(hw:w.ok){known term:Int}{as_:List (List Dp)}{a:AttT}{rs0 rs:List ReadT}{xs:List Int}{i:Nat}(hi:i<xs.length)(hr:aj (i:Int) as_ a.row 5)(iF:Zd ((i:Int)<(as_.length:Int))=true)(Oy:Hp.wrap ((i:Int)+1)=((i+1:Nat):Int))(hb:rs.length≤999998000):(CW Hm Γk (lkH w known rs0 0) false (sub M0 0) (cvS w known term as_ rs xs i) .normal (cvS w known term as_ (rs++rdT 1 a.aT 0 term) (xs.set i (ac w a.aT term known).1.rep) ((i+1:Nat):Int))):=by
 let v0:=H6 [au (ac w a.aT term known).1.name,int (ac w a.aT term known).1.number,int (ac w a.aT term known).1.bY,int (ac w a.aT term known).1.rep,int (Hr (ac w a.aT term known).1.oF).op,int (Hr (ac w a.aT term known).1.oF).c,au (Hr (ac w a.aT term known).1.oF).nm,int (Hr (ac w a.aT term known).1.oF).n,int (Hr (ac w a.aT term known).1.oF).d,ab (Hr (ac w a.aT term known).1.oF).ks,int (Hr (ac w a.aT term known).1.Bv).op,int (Hr (ac w a.aT term known).1.Bv).c,au (Hr (ac w a.aT term known).1.Bv).nm,int (Hr (ac w a.aT term known).1.Bv).n,int (Hr (ac w a.aT term known).1.Bv).d,ab (Hr (ac w a.aT term known).1.Bv).ks]
 let v1:List D:=[.ref (.vec 1 1),ab (Hl Hz w.c),ab w.p,ab (Hl HC w.s),ab (Hl Hv w.f),int known]
 let v2:=List.set xs i (ac w a.aT term known).1.rep
 let v3:List D:=[.ref (.vec 1 2),ab (Hl Hz w.c),ab w.p,ab (Hl HC w.s),ab (Hl Hv w.f),int known]
 let v4:List D:=[int a.aT,int a.term,int a.oR,int a.tO,int a.bY]
 let v5:List Blk:=[.var v1,.vec (ae (rdR rs)) 1 5,.vec (cvV xs) 0 1,.var v4]
 refine zX {t:=mkT 36 0 [(0,.ref (.ptr 0 0)),(1,ab as_),(2,int term),(8,.ref (.vec 2 0)),(14,ab as_),(15,int (↑(Hn as_):Int)),(16,int (Ht Hp ((↑i:Int)+1)))],h:=[.var v1,.vec (ae (rdR (rs++rdT 1 a.aT 0 term))) 1 5,.vec (cvV v2) 0 1],m:=[]} HA [.st (.mask [0,1,2,8,14,15,16]),.st (.ren 1 1),.st (.trimV 3)] [.b true,.row (Hq a),.call v0 (jm w known term a rs xs),.oh 10029 IK (lkH w known (rs++rdT 1 a.aT 0 term) 2++[.vec (cvV v2) 0 1,.var (Hl II (Hq a))])] (.c iF (.c hr (.c (show Ev Hm Γk 116 [.ref (.ptr 0 0),int a.aT,int term] v5 v0 (jm w known term a rs xs) from(H4 (Ev.frameX (args:=[.ref (.ptr 0 0),int a.aT,int term]) (H:=v5) [0,1] (Ev.upX [0,1] (@lU w hw known (a.aT) term rs ?_) (by kernel_rfl) ⟨(by subst v0 v1 v2 v3 v4 v5;exact ai _ _),trivial⟩ ⟨(by subst v0 v1 v2 v3 v4 v5;exact ai _ _),trivial⟩) (by kernel_rfl) (by kernel_rfl) (by kernel_rfl) ⟨(by subst v0 v1 v2 v3 v4 v5;exact ai _ _),trivial⟩ ⟨(by subst v0 v1 v2 v3 v4 v5;exact ai _ _),trivial⟩) (by kernel_rfl) (by kernel_rfl))) (.c (show inR (↑i:Int) (Hn (cvV xs))=true from ?_) (.c (show bG Hm (jm w known term a rs xs) 3 (.ref (.vp 2 0 (Hw (↑i:Int)) 0)) (int (ac w a.aT term known).1.rep)=some [.var v3,.vec (ae (rdR (rs++rdT 1 a.aT 0 term))) 2 5,.vec (cvV v2) 0 1,.var v4] from ?_) (.c (vM (rdR (rs++rdT 1 a.aT 0 term)) 1 2 1) (.c (show Hl (It (al 1 2 1)) (cvV v2)=cvV v2 from ?_) (.c (show HB 3 (match 0==1 with|true=>.vec (ae (rdR (rs++rdT 1 a.aT 0 term))) 1 5|false=>keepX (al 1 2 1) (.var v3))=true from rfl) (.c (iV 3 (rdR (rs++rdT 1 a.aT 0 term)) 1 5) (.c (show HB 3 (match 0+1+1==1 with|true=>.vec (ae (rdR (rs++rdT 1 a.aT 0 term))) 1 5|false=>keepX (al 1 2 1) (.vec (cvV v2) 0 1))=true from ?_) .n)))))))))) (by subst v0 v1 v2 v3 v4 v5;rfl) (by subst v0 v1 v2 v3 v4 v5;(simp only[Oy];rfl))<;>subst v0 v1 v2 v3 v4 v5<;>(first|omega|exact B9 rfl hi|exact cv_inR hi|exact aL _ _|exact aP)
theorem Fs{w:WorldT}{known term:Int}{as_:List (List Dp)}{rs0 rs:List ReadT}{xs:List Int}{i:Nat}(iF:Zd ((i:Int)<(as_.length:Int))=false):(CW Hm Γk (lkH w known rs0 0) false (sub M0 0) (cvS w known term as_ rs xs i) (.exit 0) {t:=mkT 36 0 [(1,ab as_),(8,.ref (.vec 2 0))],h:=lkH w known rs 1++[.vec (cvV xs) 0 1],m:=[]}):=by
 exact zx [.st (.mask [1,8])] [.b false] (.c iF .n)
def cM(w:WorldT)(known term:Int)(l:List AttT):List Int:=l.map fun a=>(ac w a.aT term known).1.rep
def cY(term:Int)(l:List AttT):List ReadT:=l.flatMap fun a=>rdT 1 a.aT 0 term
theorem ga(term:Int):∀l:List AttT,(cY term l).length≤l.length
 | []=>by simp[cY]
 | a::l=>by have:=ga term l;have:=rdT_len 1 a.aT 0 term;simp only[cY,List.flatMap_cons,List.length_append,HY] at *;omega
theorem Ft{f:AttT→Int}{l:List AttT}{i:Nat}{a:AttT}(hi:i<l.length)(ha:l[i]? = some a):((l.take i).map f++HX (l.length - i) 0).set i (f a)=(l.take (i+1)).map f++HX (l.length - (i+1)) 0:=by
 have e1:l.length - i=(l.length - (i+1))+1:=by omega
 rw[List.set_append_right _ _ (by simp;omega),L7,ha,e1,List.replicate_succ]
 have:i - ((l.take i).map f).length=0:=by simp;omega
 rw[this]
 simp
theorem cv_cw{w:WorldT}(hw:w.ok){known term:Int}{l:List AttT}(hl:l.length≤90000000){rs0 rs:List ReadT}(hb:rs.length≤900000000){V:List (List D)}(hV:V=cvV (HX l.length 0)):
  CW Hm Γk (lkH w known rs0 0) false (.loop (sub M0 0)) {t:=mkT 36 0 [(0,.ref (.ptr 0 0)),(1,ab (l.map Hq)),(2,int term),(8,.ref (.vec 2 0)),(14,ab (l.map Hq)),(15,int (l.map Hq).length),(16,int 0)],h:=lkH w known rs 1++[.vec V 0 1],m:=[]} (.exit 0) {t:=mkT 36 0 [(1,ab (l.map Hq)),(8,.ref (.vec 2 0))],h:=lkH w known (rs++cY term l) 1++[.vec (cvV (cM w known term l)) 0 1],m:=[]}:=by
 subst hV
 have hs:af l:=by unfold af;omega
 have:=CW.loopN (P:=Hm) (Γ:=Γk) (h0:=lkH w known rs0 0) (rd:=false) (c:=sub M0 0) l.length
  (fun i=>cvS w known term (l.map Hq) (rs++cY term (l.take i)) ((l.take i).map (fun a=>(ac w a.aT term known).1.rep)++HX (l.length - i) 0) (i:Int)) (e:=.exit 0) (s':={t:=mkT 36 0 [(1,ab (l.map Hq)),(8,.ref (.vec 2 0))],h:=lkH w known (rs++cY term l) 1++[.vec (cvV (cM w known term l)) 0 1],m:=[]}) (by simp) ?_ ?_
 ·have e0:rs++cY term (l.take 0)=rs:=by simp[cY]
  have e1:(l.take 0).map (fun a=>(ac w a.aT term known).1.rep)++HX (l.length - 0) 0=HX l.length 0:=by simp
  simp only[e0,e1] at this
  exact this
 ·intro i hi
  have ha:l[i]? = some l[i]:=HH hi
  have key:=Fr hw (known:=known) (term:=term) (rs0:=rs0) (rs:=rs++cY term (l.take i)) (xs:=(l.take i).map (fun a=>(ac w a.aT term known).1.rep)++HX (l.length - i) 0) (i:=i) (by simp;omega) (rowAt ha rfl) (lt_len Hq hi) (wrap_succ hi hs) (by have:=ga term (l.take i);simp at *;omega)
  rw[Ft (f:=fun a=>(ac w a.aT term known).1.rep) hi ha] at key
  have e2:cY term (l.take (i+1))=cY term (l.take i)++rdT 1 l[i].aT 0 term:=by
   unfold cY;rw[L7,ha,Option.toList_some,List.flatMap_append,List.flatMap_singleton]
  rw[e2,←List.append_assoc]
  exact key
 ·have:=Fs (w:=w) (known:=known) (term:=term) (as_:=l.map Hq) (rs0:=rs0) (rs:=rs++cY term l) (xs:=cM w known term l) (i:=l.length) (aJ Hq l)
  have e3:l.map (fun a=>(ac w a.aT term known).1.rep)++HX (l.length - l.length) 0=cM w known term l:=by simp[cM]
  simp only[List.take_length,e3]
  exact this
theorem makeV(l:List AttT):HX (Hw ((l.map Hq).length:Int)) [int 0]=cvV (HX l.length 0):=by simp[]
theorem zw(f:Ref→D)(n:Nat):(HX n [int 0]).map (It f)=HX n [int 0]:=by rw[List.map_replicate];rfl
theorem Fu(xs:List Int):cvV xs=(xs.map fun n=>[vi n]).map (Hl II):=by simp[]
noncomputable abbrev lV(w:WorldT)(known:Int)(term:Int)(l:List AttT)(rs:List ReadT):List Blk:=[.var [.ref (.vec 1 1),ab (Hl Hz w.c),ab w.p,ab (Hl HC w.s),ab (Hl Hv w.f),int known],.vec (ae (rdR (rs++cY term l))) 1 5]
theorem Ca{w:WorldT}(hw:w.ok){known term:Int}{l:List AttT}(hl:l.length≤90000000){rs:List ReadT}(hb:rs.length≤900000000):(Ev Hm Γk 61 [.ref (.ptr 0 0),ab (l.map Hq),int term] (lkH w known rs 0) (.tup [ab ((iE l (cM w known term l)).1.map Hq),int (iE l (cM w known term l)).2]) (lkH w known (rs++cY term l) 1)):=by
 have N1:=(@cv_cw (w) (hw) (known) (term) (l) (hl) (rs) (rs) (hb) (HX (Hw (↑(Hn (Hl Hq l)):Int)) (Hl lit (Value.cells (Value.int Hp 0)).toList)) (by first|assumption|rfl|omega|exact makeV _|exact zw _ _|exact Fu _|exact aL _ _|exact aP|(simp;omega)))
 let v0:=Hn (Hl Hq l)
 let v1:List D:=[.ref (.vec 1 1),ab (Hl Hz w.c),ab w.p,ab (Hl HC w.s),ab (Hl Hv w.f),int known]
 let v2:List D:=[ab (Hl Hq (iE l (cM w known term l)).1),int (iE l (cM w known term l)).2]
 let v3:=Hl lit (Value.cells (Value.int Hp 0)).toList
 refine H4 (JP (h':=(lV w known term l rs)) (d:=HV v2) pok [.nx 3,.st (.ren 1 1),.sum [0,1,2,8,14,15,16] (HT 0) {t:=mkT 36 0 [(1,ab (Hl Hq l)),(8,.ref (.vec 2 0))],h:=[.var v1,.vec (ae (rdR (rs++cY term l))) 1 5,.vec (cvV (cM w known term l)) 0 1],m:=[]},.st (.mask [1,8]),.st (.frz 2 (Hl (fun n=>[vi n]) (cM w known term l))),.st (.trimV 2),.val (HV v2)] (by kernel_rfl) (.c (show(Zd (0≤(↑v0:Int))&&Zd ((↑v0:Int)≤(↑v0:Int))&&Zd ((↑v0:Int)*(↑8:Int)≤281474976710656)&&Zd ((↑v0:Int)≤281474976710656))=true from ?_) (.c (vM (rdR rs) 1 0 1) (.c (show Hl (It (al 1 0 1)) (HX (Hw (↑v0:Int)) v3)=HX (Hw (↑v0:Int)) v3 from ?_) (.c N1 (.c (show cvV (cM w known term l)=Hl (fun x=>Hl II x) (Hl (fun n=>[vi n]) (cM w known term l)) from ?_) (.c (show Hl (It (bD 2 0 (Hl (fun n=>[vi n]) (cM w known term l)))) (ae (rdR (rs++cY term l)))=ae (rdR (rs++cY term l)) from ?_) (.c (show HB 2 (match 0==2 with|true=>.gone|false=>keepX (bD 2 0 (Hl (fun n=>[vi n]) (cM w known term l))) (.var v1))=true from rfl) (.c (show HB 2 (match 0+1==2 with|true=>.gone|false=>keepX (bD 2 0 (Hl (fun n=>[vi n]) (cM w known term l))) (.vec (ae (rdR (rs++cY term l))) 1 5))=true from ?_) (.c (Ev.glob0 (Γ':=Γk) (@cnt_ev l ?_ (cM w known term l) (lV w known term l rs))) .n)))))))))) (by rfl) (by rfl)<;>subst v0 v1 v2 v3<;>(first|rfl|omega|exact zw _ _|exact aL _ _|exact aP|(simp;omega))
def mF(r:RecT)(term:Int):Bool:=bF r != 0||!(Zd (term≥0)&&Zd (term≤1023))
def rcX(b:Bool)(e:Int)(L:List AttT)(rr:List ReadT):List AttT×List ReadT×Int:=match b with
 | true=>([],[],150)
 | false=>match (e != 0) with
  | true=>([],[],e)
  | false=>(L,rr,0)
def gk(w:WorldT)(r:RecT)(term known:Int):List AttT×List ReadT×Int :=
 rcX (mF r term) (iE r.a (cM w known term r.a)).2 (iE r.a (cM w known term r.a)).1 (cY term r.a)
def nwN(n d:Int):Int:=Ja.wrap (Jw (n.natAbs:Int) (Io d.natAbs n.natAbs:Int))
def nwD(n d:Int):Int:=Ja.wrap (Jw (d.natAbs:Int) (Io d.natAbs n.natAbs:Int))
def tt(n d:Int):Bool:=Zd (nwN n d>1073741824)||Zd (nwD n d>1073741824)
def nwSg(n d:Int):Bool:=!(Zd (n<0)==Zd (d<0))
def jn(n d:Int):Int×Int×Int:=match d==0 with
 | true=>(0,0,1)
 | false=>match tt n d with
  | true=>(0,0,2)
  | false=>match nwSg n d with
   | true=>(Hp.wrap (0 - Hp.wrap (nwN n d)),Hp.wrap (nwD n d),0)
   | false=>(Hp.wrap (nwN n d),Hp.wrap (nwD n d),0)
theorem nw_ne{n d:Int}(h:(d==0)=false):((Io d.natAbs n.natAbs:Nat):Int) ≠ 0:=by
 have:d ≠ 0:=by simpa using h
 intro h0
 have:Io d.natAbs n.natAbs=0:=by exact_mod_cast h0
 have:=Nat.eq_zero_of_gcd_eq_zero_left this
 omega
theorem Fv{n d:Int}(hn:I64 n)(hd:I64 d)(h:List Blk):(Ev Hm Γ0 109 [int n,int d] h (.tup [.agg [int (jn n d).1,int (jn n d).2.1],int (jn n d).2.2]) h):=by
 cases dO:d==0
 ·cases oN:Zd (Ht Ja (Jw (↑(HF n):Int) (↑(Io (HF d) (HF n)):Int))>1073741824)||Zd (Ht Ja (Jw (↑(HF d):Int) (↑(Io (HF d) (HF n)):Int))>1073741824)
  ·cases Is:!Zd (n<0)==Zd (d<0)
   ·refine zD (HV [H6 [int (Ht Hp (Ht Ja (Jw (↑(HF n):Int) (↑(Io (HF d) (HF n)):Int)))),int (Ht Hp (Ht Ja (Jw (↑(HF d):Int) (↑(Io (HF d) (HF n)):Int))))],int 0]) [.b false,.val (u64 (↑(Io (HF d) (HF n)):Int)),.val (u64 (↑(HF n):Int)),.val (u64 (↑(HF d):Int)),.b false,.b false] (.c dO (.c (@il n d hn hd ([.var [int 0,int 0]])) (.c (@fH n hn ([.var [int 0,int 0]])) (.c (show(!Zd ((↑(Io (HF d) (HF n)):Int)=0))=true from ?_) (.c (@fH d hd ([.var [int 0,int 0]])) (.c (show(!Zd ((↑(Io (HF d) (HF n)):Int)=0))=true from ?_) (.c oN (.c Is .n)))))))) h (by(have z0:(d==0)=false:=dO;have z1:tt n d=false:=oN;have z2:nwSg n d=false:=Is;simp only[jn,z0,z1,z2];first|done|rfl))<;>(simp_all;done)
   ·refine zD (HV [H6 [int (Ht Hp (0 - Ht Hp (Ht Ja (Jw (↑(HF n):Int) (↑(Io (HF d) (HF n)):Int))))),int (Ht Hp (Ht Ja (Jw (↑(HF d):Int) (↑(Io (HF d) (HF n)):Int))))],int 0]) [.b false,.val (u64 (↑(Io (HF d) (HF n)):Int)),.val (u64 (↑(HF n):Int)),.val (u64 (↑(HF d):Int)),.b false,.b true] (.c dO (.c (@il n d hn hd ([.var [int 0,int 0]])) (.c (@fH n hn ([.var [int 0,int 0]])) (.c (show(!Zd ((↑(Io (HF d) (HF n)):Int)=0))=true from ?_) (.c (@fH d hd ([.var [int 0,int 0]])) (.c (show(!Zd ((↑(Io (HF d) (HF n)):Int)=0))=true from ?_) (.c oN (.c Is .n)))))))) h (by(have z0:(d==0)=false:=dO;have z1:tt n d=false:=oN;have z2:nwSg n d=true:=Is;simp only[jn,z0,z1,z2];first|done|rfl))<;>(simp_all;done)
  ·refine zD (HV [H6 [int 0,int 0],int 2]) [.b false,.val (u64 (↑(Io (HF d) (HF n)):Int)),.val (u64 (↑(HF n):Int)),.val (u64 (↑(HF d):Int)),.b true] (.c dO (.c (@il n d hn hd ([.var [int 0,int 0]])) (.c (@fH n hn ([.var [int 0,int 0]])) (.c (show(!Zd ((↑(Io (HF d) (HF n)):Int)=0))=true from ?_) (.c (@fH d hd ([.var [int 0,int 0]])) (.c (show(!Zd ((↑(Io (HF d) (HF n)):Int)=0))=true from ?_) (.c oN .n))))))) h (by(have z0:(d==0)=false:=dO;have z1:tt n d=true:=oN;simp only[jn,z0,z1];first|done|rfl))<;>(simp_all;done)
 ·exact zD (HV [H6 [int 0,int 0],int 1]) [.b true] (.c dO .n) h (by(have z0:(d==0)=true:=dO;simp only[jn,z0];first|done|rfl))
abbrev suT:List D:=mkT 26 0 [(2,.ref (.ptr 0 0)),(3,.ref (.ptr 1 0)),(13,.fn (.func 158) [] [.ref (.ptr 2 0)])]
noncomputable abbrev suL(st:LoopState):Blk:=.loop st none 0 suT #[14,15] (aH (sub Jx 0)) (ao (sub Jx 0))
noncomputable abbrev suH(c p:Int)(l:List (List Dp))(st:LoopState)(more:List Blk):List Blk:=[.var [int c],.var [int p],.var [ab l],.defd,suL st]++more
abbrev suU(g c:Int):List D:=mkT 26 0 [(2,.ref (.ptr 0 0)),(3,.ref (.ptr 1 0)),(5,int g),(6,int c)]
def suF(s:Int×Int)(a:AttT):Int×Int:=(Hp.wrap (s.1+a.bY),Hp.wrap (s.2+Hp.wrap (a.oR*a.bY)))
theorem su_asg{c p g x:Int}{l:List (List Dp)}{r:List D}:(CW Hm Γ0 (suH c p l .ready [.var r]) true (aH (sub Jx 0)) {t:=ey suT [(14,int g),(15,int x)],h:=suH c p l .ready [.var r],m:=[]} .normal {t:=suU g x,h:=suH c p l .ready [.var r],m:=[]}):=by
 exact zx [.st (.mask [2,3,5,6])] [] .n
theorem Fw{c p g x:Int}{l:List (List Dp)}{r:List D}:(CW Hm Γ0 (suH c p l .ready [.var r]) true (ao (sub Jx 0)) {t:=suU g x,h:=suH c p l .busy [.var r],m:=[]} .normal {t:=mkT 26 0 [],h:=suH (Hp.wrap (c+x)) (Hp.wrap (p+Hp.wrap (g*x))) l .busy [.var r],m:=[]}):=by
 exact zx [.st (.mask [])] [] .n
theorem Fy{c p g x:Int}{l:List (List Dp)}{r:List D}:Iv Hm Γ0 (.ref (.yl 4)) [int g,int x] (suH c p l .ready [.var r]) (bool true) (suH (Hp.wrap (c+x)) (Hp.wrap (p+Hp.wrap (g*x))) l .ready [.var r]) :=
 Iv.round (h1:=suH c p l .ready [.var r]) rfl rfl su_asg rfl Fw rfl
abbrev swT(fs:List (List Dp))(i:Int):List D:=mkT 19 0 [(0,.ref (.yl 4)),(5,ab fs),(6,int fs.length),(7,int i)]
theorem Fz{c p c0 p0:Int}{l:List (List Dp)}{a:AttT}{i:Nat}(hr:aj (i:Int) l a.row 5)(iF:Zd ((i:Int)<(l.length:Int))=true)(hw:Hp.wrap ((i:Int)+1)=((i+1:Nat):Int)):(CW Hm Γ0 (suH c0 p0 l .ready []) false (sub Ky 0) {t:=swT l i,h:=suH c p l .ready [],m:=[]} .normal {t:=swT l ((i+1:Nat):Int),h:=suH (suF (c,p) a).1 (suF (c,p) a).2 l .ready [],m:=[]}):=by
 let v0:List D:=[int (Ht Hp (p+Ht Hp (a.oR*a.bY)))]
 let v1:List D:=[int a.aT,int a.term,int a.oR,int a.tO,int a.bY]
 refine zX {t:=mkT 19 0 [(0,.ref (.yl 4)),(5,ab l),(6,int (↑(Hn l):Int)),(7,int (Ht Hp ((↑i:Int)+1)))],h:=[.var [int (Ht Hp (c+a.bY))],.var v0,.var [ab l],.defd,.loop Ia none 0 (mkT 26 0 [(2,.ref (.ptr 0 0)),(3,.ref (.ptr 1 0)),(13,I4 (H2 158) [] [.ref (.ptr 2 0)])]) {toList:=[14,15]} (aH (sub Jx 0)) (ao (sub Jx 0))],m:=[]} HA [.st (.mask [0,5,6,7]),.st (.trim 5)] [.b true,.row (Hq a),.inv (bool true) [.var [int (Ht Hp (c+a.bY))],.var v0,.var [ab l],.defd,.loop Ia none 0 (mkT 26 0 [(2,.ref (.ptr 0 0)),(3,.ref (.ptr 1 0)),(13,I4 (H2 158) [] [.ref (.ptr 2 0)])]) {toList:=[14,15]} (aH (sub Jx 0)) (ao (sub Jx 0)),.var v1],.b false] (.c iF (.c hr (.c (@Fy c p (a.oR) (a.bY) l (v1)) (.c (show(!true)=false from rfl) .n)))) ?_ ?_<;>subst v0 v1<;>(first|rfl|(simp only[hw];rfl))
theorem FA{c p c0 p0:Int}{l:List (List Dp)}{i:Nat}(iF:Zd ((i:Int)<(l.length:Int))=false):(CW Hm Γ0 (suH c0 p0 l .ready []) false (sub Ky 0) {t:=swT l i,h:=suH c p l .ready [],m:=[]} (.exit 0) {t:=mkT 19 0 [],h:=suH c p l .ready [],m:=[]}):=by
 exact zx [.st (.mask [])] [.b false] (.c iF .n)
theorem sw_cw{c0 p0:Int}{l:List AttT}(hl:af l):
  CW Hm Γ0 (suH c0 p0 (l.map Hq) .ready []) false (.loop (sub Ky 0)) {t:=swT (l.map Hq) 0,h:=suH c0 p0 (l.map Hq) .ready [],m:=[]} (.exit 0)
   {t:=mkT 19 0 [],h:=suH (l.foldl suF (c0,p0)).1 (l.foldl suF (c0,p0)).2 (l.map Hq) .ready [],m:=[]}:=by
 have:=I7 (P:=Hm) (Γ:=Γ0) (h0:=suH c0 p0 (l.map Hq) .ready []) (rd:=false) (c:=sub Ky 0) (σ:=Int×Int) (ρ:=Empty) l (fun f s=>.inl (suF s f))
  (fun i s=>{t:=swT (l.map Hq) (i:Int),h:=suH s.1 s.2 (l.map Hq) .ready [],m:=[]}) (.exit 0) (fun s=>{t:=mkT 19 0 [],h:=suH s.1 s.2 (l.map Hq) .ready [],m:=[]}) (fun r=>r.elim)
  (fun _ _=>True) (by simp) (fun r=>r.elim) ?_ ?_ (c0,p0) trivial
 ·rw[aC] at this
  exact this
 ·intro i f s hf _
  have hi:=(Hs.1 hf).1
  exact⟨fun _ _=>trivial,Fz (rowAt hf rfl) (lt_len _ hi) (wrap_succ hi hl)⟩
 ·intro s _
  exact FA (aJ _ l)
theorem zy{c0 p0:Int}{l:List AttT}(hl:af l):(Ev Hm Γ0 158 [.ref (.yl 4),.ref (.ptr 2 0)] (suH c0 p0 (l.map Hq) .ready []) (.tup []) (suH (l.foldl suF (c0,p0)).1 (l.foldl suF (c0,p0)).2 (l.map Hq) .ready [])):=by
 have N1:=(@sw_cw (c0) (p0) (l) (hl))
 let v0:List Blk:=[.var [int (HP suF (c0,p0) l).1],.var [int (HP suF (c0,p0) l).2],.var [ab (Hl Hq l)],.defd,.loop Ia none 0 (mkT 26 0 [(2,.ref (.ptr 0 0)),(3,.ref (.ptr 1 0)),(13,I4 (H2 158) [] [.ref (.ptr 2 0)])]) {toList:=[14,15]} (aH (sub Jx 0)) (ao (sub Jx 0))]
 exact H4 (JP (h':=v0) (d:=HV []) pok [.sum [0,5,6,7] (HT 0) {t:=mkT 19 0 [],h:=v0,m:=[]}] (by kernel_rfl) (.c N1 .n)) (by rfl) (by rfl)
theorem Cb{c0 p0:Int}{l:List AttT}(hl:af l):CW Hm Γ0 [] false (sub Jx 0) {t:=suT,h:=[.var [int c0],.var [int p0],.var [ab (l.map Hq)]],m:=[]} .normal
  {t:=suT,h:=suH (l.foldl suF (c0,p0)).1 (l.foldl suF (c0,p0)).2 (l.map Hq) .exhausted [],m:=[3]}:=by
 exact CW.rangeFunc (f:=158) (fi:=[]) (ca:=[.ref (.ptr 2 0)]) pok (s:={t:=suT,h:=[.var [int c0],.var [int p0],.var [ab (l.map Hq)]],m:=[]}) (g:=.tmp 13) (ps:=#[14,15]) (asg:=aH (sub Jx 0)) (body:=ao (sub Jx 0)) rfl (by kernel_rfl) (zy hl) rfl
def gl(l:List AttT):Int×Int×Int:=match bQ l != 0 with
 | true=>(0,0,bQ l)
 | false=>((l.foldl suF (0,0)).1,(l.foldl suF (0,0)).2,0)
theorem FB{l:List AttT}(hl:af l)(h:List Blk):(Ev Hm Γ0 108 [ab (l.map Hq)] h (.tup [int (gl l).1,int (gl l).2.1,int (gl l).2.2]) h):=by
 cases dO:bQ l != 0
 ·have Oj:=(@Cb (0) (0) (l) (hl))
  exact zD (HV [int (HP suF (0,0) l).1,int (HP suF (0,0) l).2,int 0]) [.val (int (bQ l)),.b false,.inl,.sum [2,3,13] (HA) {t:=mkT 26 0 [(2,.ref (.ptr 0 0)),(3,.ref (.ptr 1 0)),(13,I4 (H2 158) [] [.ref (.ptr 2 0)])],h:=[.var [int (HP suF (0,0) l).1],.var [int (HP suF (0,0) l).2],.var [ab (Hl Hq l)],.defd,.loop Ip none 0 (mkT 26 0 [(2,.ref (.ptr 0 0)),(3,.ref (.ptr 1 0)),(13,I4 (H2 158) [] [.ref (.ptr 2 0)])]) {toList:=[14,15]} (aH (sub Jx 0)) (ao (sub Jx 0))],m:=[3]}] (.c (@dh l hl ([.var [int 0],.var [int 0]])) (.c dO (.c Oj (.e (int (HP suF (0,0) l).1) (.e (int (HP suF (0,0) l).2) (.e (int (HP suF (0,0) l).2) .n)))))) h (by simp only[gl,dO];done)
 ·exact zD (HV [int 0,int 0,int (bQ l)]) [.val (int (bQ l)),.b true] (.c (@dh l hl ([.var [int 0],.var [int 0]])) (.c dO .n)) h (by simp only[gl,dO];done)
theorem vk(x:Int):I64 (Hp.wrap x):=by
 unfold I64
 rw[IntKind.wrap_i64]
 omega
theorem FC(s:Int×Int)(a:AttT):I64 (suF s a).1∧I64 (suF s a).2:=⟨vk _,vk _⟩
theorem nN:∀(l:List AttT) (s:Int×Int),I64 s.1∧I64 s.2→I64 (l.foldl suF s).1∧I64 (l.foldl suF s).2
 | [],_,h=>h
 | a::l,s,_=>nN l (suF s a) (FC s a)
theorem Cc:I64 0:=by unfold I64;omega
theorem iB(l:List AttT):I64 (gl l).1∧I64 (gl l).2.1:=by
 unfold gl
 cases bQ l != 0
 ·exact nN l (0,0) ⟨Cc,Cc⟩
 ·exact⟨Cc,Cc⟩
def jo(c p e:Int):Int×Int×Int:=match e != 0 with
 | true=>(0,0,e)
 | false=>match c==0 with
  | true=>(0,1,0)
  | false=>jn p c
def b8(l:List AttT):Int×Int×Int:=jo (gl l).1 (gl l).2.1 (gl l).2.2
theorem mean_a{l:List AttT}{c p e:Int}(hc:I64 c)(hp:I64 p)(hs:∀h,Ev Hm Γ0 108 [ab (l.map Hq)] h (.tup [int c,int p,int e]) h)(h:List Blk):(Ev Hm Γ0 55 [ab (l.map Hq)] h (.tup [.agg [int (jo c p e).1,int (jo c p e).2.1],int (jo c p e).2.2]) h):=by
 cases dO:e != 0
 ·cases oN:c==0
  ·exact zD (HV [H6 [int (jn p c).1,int (jn p c).2.1],int (jn p c).2.2]) [.val (HV [int c,int p,int e]),.b false,.b false,.val (HV [H6 [int (jn p c).1,int (jn p c).2.1],int (jn p c).2.2])] (.c (@hs ([.var [int 0,int 0]])) (.c dO (.c oN (.c (@Fv p c hp hc ([.var [int 0,int 0]])) .n)))) h (by simp only[jo,dO,oN];done)
  ·exact zD (HV [H6 [int 0,int 1],int 0]) [.val (HV [int c,int p,int e]),.b false,.b true] (.c (@hs ([.var [int 0,int 0]])) (.c dO (.c oN .n))) h (by simp only[jo,dO,oN];done)
 ·exact zD (HV [H6 [int 0,int 0],int e]) [.val (HV [int c,int p,int e]),.b true] (.c (@hs ([.var [int 0,int 0]])) (.c dO .n)) h (by simp only[jo,dO];done)
theorem rQ{l:List AttT}(hl:af l)(h:List Blk):Ev Hm Γ0 55 [ab (l.map Hq)] h (.tup [.agg [int (b8 l).1,int (b8 l).2.1],int (b8 l).2.2]) h :=
 mean_a (iB l).1 (iB l).2 (fun h=>FB hl h) h
abbrev eaT:List D:=mkT 21 0 [(2,.ref (.ptr 0 0)),(12,.fn (.func 158) [] [.ref (.ptr 1 0)])]
noncomputable abbrev eaL(st:LoopState):Blk:=.loop st none 0 eaT #[13,14] (aH (sub Jn 0)) (ao (sub Jn 0))
noncomputable abbrev eaH(c:Int)(l:List (List Dp))(st:LoopState)(more:List Blk):List Blk:=[.var [int c],.var [ab l],.defd,eaL st]++more
abbrev eaU(g c:Int):List D:=mkT 21 0 [(2,.ref (.ptr 0 0)),(4,int g),(5,int c)]
def eaG(c g x:Int):Int:=match Zd (g>0) with|true=>Hp.wrap (c+x)|false=>c
def eaF(c:Int)(a:AttT):Int:=eaG c a.oR a.bY
theorem ea_asg{c g x:Int}{l:List (List Dp)}{r:List D}:(CW Hm Γ0 (eaH c l .ready [.var r]) true (aH (sub Jn 0)) {t:=ey eaT [(13,int g),(14,int x)],h:=eaH c l .ready [.var r],m:=[]} .normal {t:=eaU g x,h:=eaH c l .ready [.var r],m:=[]}):=by
 exact zx [.st (.mask [2,4,5])] [] .n
theorem FD{c g x:Int}{l:List (List Dp)}{r:List D}:(CW Hm Γ0 (eaH c l .ready [.var r]) true (ao (sub Jn 0)) {t:=eaU g x,h:=eaH c l .busy [.var r],m:=[]} .normal {t:=mkT 21 0 [],h:=eaH (eaG c g x) l .busy [.var r],m:=[]}):=by
 cases dO:Zd (g>0)
 ·refine zX {t:=mkT 21 0 [],h:=[.var [int c],.var [ab l],.defd,.loop Ji none 0 (mkT 21 0 [(2,.ref (.ptr 0 0)),(12,I4 (H2 158) [] [.ref (.ptr 1 0)])]) {toList:=[13,14]} (aH (sub Jn 0)) (ao (sub Jn 0)),.var r],m:=[]} HA [.st (.mask [])] [.b false] (.c dO .n) ?_ ?_<;>(simp only[eaG,dO];first|done|rfl)
 ·refine zX {t:=mkT 21 0 [],h:=[.var [int (Ht Hp (c+x))],.var [ab l],.defd,.loop Ji none 0 (mkT 21 0 [(2,.ref (.ptr 0 0)),(12,I4 (H2 158) [] [.ref (.ptr 1 0)])]) {toList:=[13,14]} (aH (sub Jn 0)) (ao (sub Jn 0)),.var r],m:=[]} HA [.st (.mask [])] [.b true] (.c dO .n) ?_ ?_<;>(simp only[eaG,dO];first|done|rfl)
theorem FE{c g x:Int}{l:List (List Dp)}{r:List D}:Iv Hm Γ0 (.ref (.yl 3)) [int g,int x] (eaH c l .ready [.var r]) (bool true) (eaH (eaG c g x) l .ready [.var r]) :=
 Iv.round (h1:=eaH c l .ready [.var r]) rfl rfl ea_asg rfl FD rfl
abbrev ewT(fs:List (List Dp))(i:Int):List D:=mkT 19 0 [(0,.ref (.yl 3)),(5,ab fs),(6,int fs.length),(7,int i)]
theorem FF{c c0:Int}{l:List (List Dp)}{a:AttT}{i:Nat}(hr:aj (i:Int) l a.row 5)(iF:Zd ((i:Int)<(l.length:Int))=true)(hw:Hp.wrap ((i:Int)+1)=((i+1:Nat):Int)):(CW Hm Γ0 (eaH c0 l .ready []) false (sub Ky 0) {t:=ewT l i,h:=eaH c l .ready [],m:=[]} .normal {t:=ewT l ((i+1:Nat):Int),h:=eaH (eaF c a) l .ready [],m:=[]}):=by
 let v0:List D:=[int a.aT,int a.term,int a.oR,int a.tO,int a.bY]
 refine zX {t:=mkT 19 0 [(0,.ref (.yl 3)),(5,ab l),(6,int (↑(Hn l):Int)),(7,int (Ht Hp ((↑i:Int)+1)))],h:=[.var [int (eaG c a.oR a.bY)],.var [ab l],.defd,.loop Ia none 0 (mkT 21 0 [(2,.ref (.ptr 0 0)),(12,I4 (H2 158) [] [.ref (.ptr 1 0)])]) {toList:=[13,14]} (aH (sub Jn 0)) (ao (sub Jn 0))],m:=[]} HA [.st (.mask [0,5,6,7]),.st (.trim 4)] [.b true,.row (Hq a),.inv (bool true) [.var [int (eaG c a.oR a.bY)],.var [ab l],.defd,.loop Ia none 0 (mkT 21 0 [(2,.ref (.ptr 0 0)),(12,I4 (H2 158) [] [.ref (.ptr 1 0)])]) {toList:=[13,14]} (aH (sub Jn 0)) (ao (sub Jn 0)),.var v0],.b false] (.c iF (.c hr (.c (@FE c (a.oR) (a.bY) l (v0)) (.c (show(!true)=false from rfl) .n)))) ?_ ?_<;>subst v0<;>(first|rfl|(simp only[hw];rfl))
theorem FG{c c0:Int}{l:List (List Dp)}{i:Nat}(iF:Zd ((i:Int)<(l.length:Int))=false):(CW Hm Γ0 (eaH c0 l .ready []) false (sub Ky 0) {t:=ewT l i,h:=eaH c l .ready [],m:=[]} (.exit 0) {t:=mkT 19 0 [],h:=eaH c l .ready [],m:=[]}):=by
 exact zx [.st (.mask [])] [.b false] (.c iF .n)
theorem ew_cw{c0:Int}{l:List AttT}(hl:af l):
  CW Hm Γ0 (eaH c0 (l.map Hq) .ready []) false (.loop (sub Ky 0)) {t:=ewT (l.map Hq) 0,h:=eaH c0 (l.map Hq) .ready [],m:=[]} (.exit 0)
   {t:=mkT 19 0 [],h:=eaH (l.foldl eaF c0) (l.map Hq) .ready [],m:=[]}:=by
 have:=I7 (P:=Hm) (Γ:=Γ0) (h0:=eaH c0 (l.map Hq) .ready []) (rd:=false) (c:=sub Ky 0) (σ:=Int) (ρ:=Empty) l (fun f s=>.inl (eaF s f))
  (fun i s=>{t:=ewT (l.map Hq) (i:Int),h:=eaH s (l.map Hq) .ready [],m:=[]}) (.exit 0) (fun s=>{t:=mkT 19 0 [],h:=eaH s (l.map Hq) .ready [],m:=[]}) (fun r=>r.elim)
  (fun _ _=>True) (by simp) (fun r=>r.elim) ?_ ?_ c0 trivial
 ·rw[aC] at this
  exact this
 ·intro i f s hf _
  have hi:=(Hs.1 hf).1
  exact⟨fun _ _=>trivial,FF (rowAt hf rfl) (lt_len _ hi) (wrap_succ hi hl)⟩
 ·intro s _
  exact FG (aJ _ l)
theorem zz{c0:Int}{l:List AttT}(hl:af l):(Ev Hm Γ0 158 [.ref (.yl 3),.ref (.ptr 1 0)] (eaH c0 (l.map Hq) .ready []) (.tup []) (eaH (l.foldl eaF c0) (l.map Hq) .ready [])):=by
 have N1:=(@ew_cw (c0) (l) (hl))
 let v0:List Blk:=[.var [int (HP eaF c0 l)],.var [ab (Hl Hq l)],.defd,.loop Ia none 0 (mkT 21 0 [(2,.ref (.ptr 0 0)),(12,I4 (H2 158) [] [.ref (.ptr 1 0)])]) {toList:=[13,14]} (aH (sub Jn 0)) (ao (sub Jn 0))]
 exact H4 (JP (h':=v0) (d:=HV []) pok [.sum [0,5,6,7] (HT 0) {t:=mkT 19 0 [],h:=v0,m:=[]}] (by kernel_rfl) (.c N1 .n)) (by rfl) (by rfl)
theorem Cd{c0:Int}{l:List AttT}(hl:af l):CW Hm Γ0 [] false (sub Jn 0) {t:=eaT,h:=[.var [int c0],.var [ab (l.map Hq)]],m:=[]} .normal
  {t:=eaT,h:=eaH (l.foldl eaF c0) (l.map Hq) .exhausted [],m:=[2]}:=by
 exact CW.rangeFunc (f:=158) (fi:=[]) (ca:=[.ref (.ptr 1 0)]) pok (s:={t:=eaT,h:=[.var [int c0],.var [ab (l.map Hq)]],m:=[]}) (g:=.tmp 12) (ps:=#[13,14]) (asg:=aH (sub Jn 0)) (body:=ao (sub Jn 0)) rfl (by kernel_rfl) (zz hl) rfl
def bl(l:List AttT):Int×Int:=match bQ l != 0 with
 | true=>(0,bQ l)
 | false=>(l.foldl eaF 0,0)
theorem lW{l:List AttT}(hl:af l)(h:List Blk):(Ev Hm Γ0 54 [ab (l.map Hq)] h (.tup [int (bl l).1,int (bl l).2]) h):=by
 cases dO:bQ l != 0
 ·have Oj:=(@Cd (0) (l) (hl))
  exact zD (HV [int (HP eaF 0 l),int 0]) [.val (int (bQ l)),.b false,.inl,.sum [2,12] (HA) {t:=mkT 21 0 [(2,.ref (.ptr 0 0)),(12,I4 (H2 158) [] [.ref (.ptr 1 0)])],h:=[.var [int (HP eaF 0 l)],.var [ab (Hl Hq l)],.defd,.loop Ip none 0 (mkT 21 0 [(2,.ref (.ptr 0 0)),(12,I4 (H2 158) [] [.ref (.ptr 1 0)])]) {toList:=[13,14]} (aH (sub Jn 0)) (ao (sub Jn 0))],m:=[2]}] (.c (@dh l hl ([.var [int 0]])) (.c dO (.c Oj .n))) h (by simp only[bl,dO];done)
 ·exact zD (HV [int 0,int (bQ l)]) [.val (int (bQ l)),.b true] (.c (@dh l hl ([.var [int 0]])) (.c dO .n)) h (by simp only[bl,dO];done)
theorem po{w:WorldT}(hw:w.ok){known st term:Int}:(cH w known st term).length≤70656000:=by
 have:=nK hw (known:=known) (st:=st) (term:=term)
 unfold cH
 simpa using this
theorem FH(m:IM)(e:AttT×Nat)(out:List AttT):(cgF m e out).length≤out.length+1:=by
 unfold cgF;cases cgHit m e.2 e.1<;>simp
theorem nO(m:IM):∀(l:List (AttT×Nat)) (out:List AttT),(l.foldl (fun out e=>cgF m e out) out).length≤out.length+l.length
 | [],_=>by simp
 | e::l,out=>by
  have h1:=nO m l (cgF m e out)
  have h2:=FH m e out
  simp only[List.foldl_cons,HY];omega
theorem zA(l:List AttT)(m:IM):(rP l m).length≤l.length:=by
 have:=nO m l.zipIdx []
 simpa[rP] using this
theorem zB(l:List AttT)(rp:List Int):(iE l rp).1.length≤l.length:=by
 unfold iE
 cases Zd (bQ l=0)
 ·simp
 ·cases Zd (rp.length=l.length)
  ·simp
  ·simp only[cond_true]
   split
   ·exact zA _ _
   ·simp
theorem FI(b:Bool)(e:Int)(L:List AttT)(rr:List ReadT):(rcX b e L rr).1.length≤L.length∧(rcX b e L rr).2.1.length≤rr.length:=by
 unfold rcX
 split
 ·simp
 ·split<;>simp
theorem zC{w:WorldT}{r:RecT}{term known:Int}:(gk w r term known).1.length≤r.a.length∧(gk w r term known).2.1.length≤r.a.length:=by
 unfold gk
 have h1:=FI (mF r term) (iE r.a (cM w known term r.a)).2 (iE r.a (cM w known term r.a)).1 (cY term r.a)
 have h2:=zB r.a (cM w known term r.a)
 have h3:=ga term r.a
 omega
attribute [local irreducible] few
end Go.Vi
open Go Go.Proofs
namespace Go.Vi
set_option maxHeartbeats 4000000
set_option maxRecDepth 100000
structure WorldT.ok0 (w:WorldT):Prop where
 c:∀x∈w.c,x.ok
 s:∀x∈w.s,x.ok
 lc:af w.c
 ls:af w.s
 i:∀f∈w.f,f.ok
open Go.ChangeShapes Go.WideShapes Go.ChangeAt Go.RowKit Go.Proofs.YtilebidefogaiaaGreatDoor
set_option maxRecDepth 100000
theorem FJ:Hm.cellsOf 22=1:=by kernel_rfl
theorem FK:Hm.cellsOf 23=1:=by kernel_rfl
theorem FL:Hm.cellsOf 24=1:=by kernel_rfl
theorem zF:Hm.cellsOf 26=3:=by kernel_rfl
theorem FM:Hm.cellsOf 27=1:=by kernel_rfl
theorem FN:Hm.cellsOf 29=4:=by kernel_rfl
theorem zG:Hm.cellsOf 56=3:=by kernel_rfl
theorem zH:Hm.cellsOf 58=2:=by kernel_rfl
theorem FO:Hm.cellsOf 60=8:=by kernel_rfl
theorem zI:Hm.cellsOf 102=4:=by kernel_rfl
theorem Ce:Hm.cellsOf 109=1:=by kernel_rfl
theorem vn:Hm.cellsOf 111=6:=by kernel_rfl
theorem Cf:Hm.cellsOf 113=16:=by kernel_rfl
theorem FP:Hm.bytesOf 76=96:=by kernel_rfl
theorem Cg:Hm.bytesOf 111=72:=by kernel_rfl
theorem Ch:Hm.bytesOf 113=184:=by kernel_rfl
theorem FQ{n:Nat}{ds:List Dp}(h:Shp Hm n 56 ds):∃a b c,ds=[vi a,vi b,vi c]∧I64 a∧I64 b∧I64 c:=by
 cases n with
 | zero=>exact h.elim
 | succ n =>
  simp only[Shp,Tryz.underlying56,Iz,im,zG] at h
  obtain⟨hl,h1,h2,h3,_⟩:=h
  obtain⟨a,e1,ha⟩:=ba h1
  obtain⟨b,e2,hb⟩:=ba h2
  obtain⟨c,e3,hc⟩:=ba h3
  match ds,hl with
  | [p,q,r],_ =>
   simp at e1 e2 e3
   subst e1;subst e2;subst e3
   exact⟨a,b,c,rfl,ha,hb,hc⟩
theorem Ci{n:Nat}{ds:List Dp}(h:Shp Hm n 58 ds):∃a b,ds=[vi a,vi b]∧I64 a∧I64 b:=by
 cases n with
 | zero=>exact h.elim
 | succ n =>
  simp only[Shp,Tryz.underlying58,Iz,im,zH] at h
  obtain⟨hl,h1,h2,_⟩:=h
  obtain⟨a,e1,ha⟩:=ba h1
  obtain⟨b,e2,hb⟩:=ba h2
  match ds,hl with
  | [p,q],_ =>
   simp at e1 e2
   subst e1;subst e2
   exact⟨a,b,rfl,ha,hb⟩
theorem Cj{n:Nat}{ds:List Dp}(h:Shp Hm n 60 ds):∃f:FactT,ds=f.row∧f.ok:=by
 cases n with
 | zero=>exact h.elim
 | succ n =>
  simp only[Shp,Tryz.underlying60,Iz,im,zG,zH,FO] at h
  obtain⟨hl,h1,h2,h3,h4,h5,_⟩:=h
  obtain⟨a,b,c,e1,ha,hb,hc⟩:=FQ h1
  obtain⟨d,e2,hd⟩:=ba h2
  obtain⟨x,y,e3,hx,hy⟩:=Ci h3
  obtain⟨k,e4,hk⟩:=ba h4
  obtain⟨m,e5,hm⟩:=ba h5
  match ds,hl with
  | [p1,p2,p3,p4,p5,p6,p7,p8],_ =>
   simp at e1 e2 e3 e4 e5
   obtain⟨rfl,rfl,rfl⟩:=e1
   obtain⟨rfl,rfl⟩:=e3
   subst e2;subst e4;subst e5
   exact⟨⟨a,b,c,d,x,y,k,m⟩,rfl,ha,hb,hc,hd,hx,hy,hk,hm⟩
theorem zJ{n:Nat}{ds:List Dp}(h:Shp Hm n 27 ds):∃l:List FactT,ds=[.sl (l.map Hv)]∧(∀c∈l,c.ok):=by
 cases n with
 | zero=>exact h.elim
 | succ n =>
  simp only[Shp,Tryz.underlying27] at h
  obtain⟨es,rfl,_,he⟩:=h
  obtain⟨l,rfl,hl⟩:=io (row:=Hv) (ok:=FactT.ok) (fun r hr=>Cj (he r hr))
  exact⟨l,rfl,hl⟩
theorem nP:∀{ks:List RuleT},(∀k∈ks,k.ok)→lF ks
 | [],_=>trivial
 | k::ks,h=>⟨h k (List.mem_cons_self ..),nP fun x hx=>h x (List.mem_cons_of_mem _ hx)⟩
theorem pp:∀{n:Nat} {ds:List Dp},Shp Hm n 111 ds→∃r:RuleT,ds=r.row∧r.ok
 | 0,_,h=>h.elim
 | 1,_,h=>by
  simp only[Shp,Nx,Iz] at h
  exact h.2.1.elim
 | n+2,ds,h=>by
  rw[Shp,Nx] at h
  simp only[Iz,im,uM,Ce,vn] at h
  obtain⟨hl,h1,h2,h3,h4,h5,h6,_⟩:=h
  obtain⟨a,e1,ha⟩:=ba h1
  obtain⟨b,e2,hb⟩:=ba h2
  obtain⟨s,e3⟩:=pa h3
  obtain⟨c,e4,hc⟩:=ba h4
  obtain⟨d,e5,hd⟩:=ba h5
  rw[Shp,Tryz.underlying109] at h6
  simp only[Cg] at h6
  obtain⟨es,e6,hb6,he⟩:=h6
  obtain⟨l,rfl,hk⟩:=io (row:=RuleT.row) (ok:=RuleT.ok) (fun r hr=>pp (he r hr))
  have hs:af l:=by have:=f7 hb6 (by omega);simpa[af] using this
  match ds,hl with
  | [p1,p2,p3,p4,p5,p6],_ =>
   simp at e1 e2 e3 e4 e5 e6
   subst e1;subst e2;subst e3;subst e4;subst e5;subst e6
   refine⟨.mk a b s c d l,?_,?_⟩
   ·rw[RuleT.row,eZ]
   ·rw[RuleT.ok];exact⟨⟨ha,hb,hc,hd,hs⟩,nP hk⟩
theorem wK{n:Nat}{ds:List Dp}(h:Shp Hm n 113 ds):∃c:CourseT,ds=c.row∧c.ok:=by
 cases n with
 | zero=>exact h.elim
 | succ n =>
  rw[Shp,Tryz.underlying113] at h
  simp only[Iz,im,uM,vn,Cf] at h
  obtain⟨hl,h1,h2,h3,h4,h5,h6,_⟩:=h
  obtain⟨s,e1⟩:=pa h1
  obtain⟨a,e2,_⟩:=ba h2
  obtain⟨b,e3,_⟩:=ba h3
  obtain⟨c,e4,_⟩:=ba h4
  obtain⟨r,e5,hr⟩:=pp h5
  obtain⟨t,e6,ht⟩:=pp h6
  rw[←RuleT.fl_row] at e5 e6
  match ds,hl with
  | [p1,p2,p3,p4,p5,p6,p7,p8,p9,p10,p11,p12,p13,p14,p15,p16],_ =>
   simp[RuF.row] at e1 e2 e3 e4 e5 e6
   obtain⟨rfl,rfl,rfl,rfl,rfl,rfl⟩:=e5
   obtain⟨rfl,rfl,rfl,rfl,rfl,rfl⟩:=e6
   subst e1;subst e2;subst e3;subst e4
   exact⟨⟨s,a,b,c,r,t⟩,rfl,hr,ht⟩
theorem tu{n:Nat}{ds:List Dp}(h:Shp Hm n 22 ds):∃l:List CourseT,ds=[.sl (l.map Hz)]∧(∀c∈l,c.ok)∧af l:=by
 cases n with
 | zero=>exact h.elim
 | succ n =>
  simp only[Shp,Tryz.underlying22,Ch] at h
  obtain⟨es,rfl,hb,he⟩:=h
  obtain⟨l,rfl,hl⟩:=io (row:=Hz) (ok:=CourseT.ok) (fun r hr=>wK (he r hr))
  exact⟨l,rfl,hl,by have:=f7 hb (by omega);simpa[af] using this⟩
theorem tw{n:Nat}{ds:List Dp}(h:Shp Hm n 102 ds):∃c:ClauseT,ds=c.row∧True:=by
 cases n with
 | zero=>exact h.elim
 | succ n =>
  simp only[Shp,Tryz.underlying102,Iz,im,zI] at h
  obtain⟨hl,h1,h2,h3,h4,_⟩:=h
  obtain⟨a,e1,_⟩:=ba h1
  obtain⟨b,e2,_⟩:=ba h2
  obtain⟨c,e3,_⟩:=ba h3
  obtain⟨d,e4,_⟩:=ba h4
  match ds,hl with
  | [p,q,r,t],_ =>
   simp at e1 e2 e3 e4
   subst e1;subst e2;subst e3;subst e4
   exact⟨⟨a,b,c,d⟩,rfl,trivial⟩
theorem Ck{n:Nat}{ds:List Dp}(h:Shp Hm n 76 ds):∃s:SysT,ds=s.row∧s.ok:=by
 cases n with
 | zero=>exact h.elim
 | succ n =>
  simp only[Shp,Tryz.underlying76,Iz,Eg,Eh,Ei,Ej] at h
  obtain⟨hl,h1,h2,h3,h4,_⟩:=h
  obtain⟨a,e1,a1,a2⟩:=lD h1
  obtain⟨b,e2,b1,b2⟩:=Bu h2
  obtain⟨c,e3,c1,c2⟩:=lD h3
  have h5:∃l:List ClauseT,(List.take 1 (List.drop 3 ds))=[.sl (l.map ClauseT.row)]∧af l:=by
   cases n with
   | zero=>exact h4.elim
   | succ n =>
    simp only[Shp,Tryz.underlying74,Bt] at h4
    obtain⟨es,e,hb,he⟩:=h4
    obtain⟨l,rfl,_⟩:=io (row:=ClauseT.row) (ok:=fun _=>True) (fun r hr=>tw (he r hr))
    exact⟨l,e,by have:=f7 hb (by omega);simpa[af] using this⟩
  obtain⟨d,e4,d1⟩:=h5
  match ds,hl with
  | [p,q,r,t],_ =>
   simp at e1 e2 e3 e4
   subst e1;subst e2;subst e3;subst e4
   exact⟨⟨a,b,c,d⟩,rfl,⟨a1,c1,b1,a2,c2,b2,by simpa[af,SysT.sys] using d1⟩⟩
theorem tz{n:Nat}{ds:List Dp}(h:Shp Hm n 24 ds):∃l:List SysT,ds=[.sl (l.map HC)]∧(∀c∈l,c.ok)∧af l:=by
 cases n with
 | zero=>exact h.elim
 | succ n =>
  simp only[Shp,Tryz.underlying24,FP] at h
  obtain⟨es,rfl,hb,he⟩:=h
  obtain⟨l,rfl,hl⟩:=io (row:=HC) (ok:=SysT.ok) (fun r hr=>Ck (he r hr))
  exact⟨l,rfl,hl,by have:=f7 hb (by omega);simpa[af] using this⟩
theorem zK{n:Nat}{ds:List Dp}(h:Shp Hm n 23 ds):∃l,ds=[.sl l]:=by
 cases n with
 | zero=>exact h.elim
 | succ n =>
  simp only[Shp,Tryz.underlying23] at h
  obtain⟨es,rfl,_⟩:=h
  exact⟨es,rfl⟩
theorem zL{n:Nat}{ds:List Dp}(h:Shp Hm n 29 ds):∃w:WorldT,ds.map .p=w.l∧w.ok0:=by
 cases n with
 | zero=>exact h.elim
 | succ n =>
  rw[Shp,Tryz.underlying29] at h
  simp only[Iz,zF,FM,FN] at h
  obtain⟨hl,h1,h2,_⟩:=h
  obtain⟨f,e4,hf⟩:=zJ h2
  cases n with
  | zero=>exact h1.elim
  | succ n =>
   rw[Shp,Tryz.underlying26] at h1
   simp only[Iz,FJ,FK,FL,zF] at h1
   obtain⟨_,g1,g2,g3,_⟩:=h1
   obtain⟨c,e1,c1,c2⟩:=tu g1
   obtain⟨p,e2⟩:=zK g2
   obtain⟨s,e3,s1,s2⟩:=tz g3
   match ds,hl with
   | [x,y,z,t],_ =>
    simp at e1 e2 e3 e4
    subst e1;subst e2;subst e3;subst e4
    exact⟨⟨c,p,s,f⟩,rfl,⟨c1,s1,c2,s2,hf⟩⟩
end Go.Vi
open Go Go.Proofs
namespace Go.Vi
set_option maxHeartbeats 4000000
open Go.ChangeShapes Go.WideShapes Go.ChangeAt Go.RowKit Go.Proofs.YtilebidefogaiaaGreatDoor
set_option maxRecDepth 100000
def plainW:List TypeId:=[3,4,9,22,23,24,26,27,29,30,35,56,58,60,72,73,74,76,87,91,102,109,111,113,294,296,298,300]
theorem FR:qM Hm plainW=true:=by kernel_rfl
end Go.Vi
open Go Go.Proofs
namespace Go.Vi
set_option maxRecDepth 100000
set_option maxHeartbeats 4000000
def du(n:Int):Bool:=Zd (n≥5)&&Zd (n≤9)
theorem bM{n:Int}(h:List Blk):(Ev Hm Γ0 236 [int n] h (bool (du n)) h):=by
 exact z0 [] .n h
def Cl(n:Int):Bool:=Zd (n≥0)&&Zd (n<4096)
theorem gJ{n:Int}(h:List Blk):(Ev Hm Γ0 237 [int n] h (bool (Cl n)) h):=by
 exact z0 [] .n h
theorem zM{n d:Int}(hn:I64 n)(hd:I64 d)(h:List Blk):(Ev Hm Γ0 238 [.agg [int n,int d]] h (bool (sY n d)) h):=by
 exact z0 [.val (int (yp n d))] (.c (@sW n d hn hd ([.var [int n,int d]])) .n) h
theorem tA(c:Int):Cl c=inB c 0 4095:=by
 unfold Cl inB
 congr 1
 exact decide_eq_decide.2 (by omega)
noncomputable abbrev aB(x:RuF):List Blk:=[.var [int x.op,int x.c,au x.nm,int x.n,int x.d,ab x.ks]]
theorem gK{x:RuF}(hx:x.ok)(h:List Blk):(Ev Hm Γ0 231 [.agg x.l] h (bool x.formed) h):=by
 cases dO:!(x.op==5||x.op==6||x.op==9)&&x.c != 0||!(x.op==3||x.op==5||x.op==6||x.op==7||x.op==8)&&x.n != 0||x.op != 8&&x.d != 0||du x.op&&Zd ((↑(Hn x.ks):Int)>0)
 ·cases oN:x.op==1
  ·cases Is:x.op==2
   ·cases N7:x.op==3
    ·cases Ra:x.op==4
     ·cases hc5:x.op==5
      ·cases Ss:x.op==6
       ·cases hc7:x.op==7
        ·cases hc8:x.op==8
         ·cases hc9:x.op==9
          ·exact zD (bool false) [.val (bool (du x.op)),.b false,.b false,.b false,.b false,.b false,.b false,.b false,.b false,.b false,.b false] (.c (gd (!(!(x.op==5||x.op==6||x.op==9)&&x.c != 0||!(x.op==3||x.op==5||x.op==6||x.op==7||x.op==8)&&x.n != 0||x.op != 8&&x.d != 0)) (@bM (x.op) (aB x))) (.c dO (.c oN (.c Is (.c N7 (.c Ra (.c hc5 (.c Ss (.c hc7 (.c hc8 (.c hc9 .n))))))))))) h (by(simp_all[Jt,aq,du,Je]))
          ·exact zD (bool (Cl x.c)) [.val (bool (du x.op)),.b false,.b false,.b false,.b false,.b false,.b false,.b false,.b false,.b false,.b true,.val (bool (Cl x.c))] (.c (gd (!(!(x.op==5||x.op==6||x.op==9)&&x.c != 0||!(x.op==3||x.op==5||x.op==6||x.op==7||x.op==8)&&x.n != 0||x.op != 8&&x.d != 0)) (@bM (x.op) (aB x))) (.c dO (.c oN (.c Is (.c N7 (.c Ra (.c hc5 (.c Ss (.c hc7 (.c hc8 (.c hc9 (.c (@gJ (x.c) (aB x)) .n)))))))))))) h (by(simp_all[Jt,aq,tA,du,inB,Je]))
         ·refine zD (bool (sY x.n x.d)) [.val (bool (du x.op)),.b false,.b false,.b false,.b false,.b false,.b false,.b false,.b false,.b true,.val (bool (sY x.n x.d))] (.c (gd (!(!(x.op==5||x.op==6||x.op==9)&&x.c != 0||!(x.op==3||x.op==5||x.op==6||x.op==7||x.op==8)&&x.n != 0||x.op != 8&&x.d != 0)) (@bM (x.op) (aB x))) (.c dO (.c oN (.c Is (.c N7 (.c Ra (.c hc5 (.c Ss (.c hc7 (.c hc8 (.c (@zM (x.n) (x.d) ?_ ?_ (aB x)) .n))))))))))) h (by(simp_all[Jt,aq,du,Je]))<;>(first|exact hx.1|exact hx.2)
        ·exact zD (bool (Zd (x.n≥0)&&Zd (x.n≤10000))) [.val (bool (du x.op)),.b false,.b false,.b false,.b false,.b false,.b false,.b false,.b true] (.c (gd (!(!(x.op==5||x.op==6||x.op==9)&&x.c != 0||!(x.op==3||x.op==5||x.op==6||x.op==7||x.op==8)&&x.n != 0||x.op != 8&&x.d != 0)) (@bM (x.op) (aB x))) (.c dO (.c oN (.c Is (.c N7 (.c Ra (.c hc5 (.c Ss (.c hc7 .n))))))))) h (by(simp_all[Jt,aq,du,inB,Je]))
       ·exact zD (bool (Cl x.c&&Zd (x.n≥1)&&Zd (x.n≤100))) [.val (bool (du x.op)),.b false,.b false,.b false,.b false,.b false,.b false,.b true,.val (bool (Cl x.c))] (.c (gd (!(!(x.op==5||x.op==6||x.op==9)&&x.c != 0||!(x.op==3||x.op==5||x.op==6||x.op==7||x.op==8)&&x.n != 0||x.op != 8&&x.d != 0)) (@bM (x.op) (aB x))) (.c dO (.c oN (.c Is (.c N7 (.c Ra (.c hc5 (.c Ss (.c (@gJ (x.c) (aB x)) .n))))))))) h (by(simp_all[Jt,aq,tA,du,inB,Je]))
      ·exact zD (bool (Cl x.c&&Zd (x.n≥0)&&Zd (x.n≤12))) [.val (bool (du x.op)),.b false,.b false,.b false,.b false,.b false,.b true,.val (bool (Cl x.c))] (.c (gd (!(!(x.op==5||x.op==6||x.op==9)&&x.c != 0||!(x.op==3||x.op==5||x.op==6||x.op==7||x.op==8)&&x.n != 0||x.op != 8&&x.d != 0)) (@bM (x.op) (aB x))) (.c dO (.c oN (.c Is (.c N7 (.c Ra (.c hc5 (.c (@gJ (x.c) (aB x)) .n)))))))) h (by(simp_all[Jt,aq,tA,du,inB,Je]))
     ·exact zD (bool ((↑(Hn x.ks):Int)==1)) [.val (bool (du x.op)),.b false,.b false,.b false,.b false,.b true] (.c (gd (!(!(x.op==5||x.op==6||x.op==9)&&x.c != 0||!(x.op==3||x.op==5||x.op==6||x.op==7||x.op==8)&&x.n != 0||x.op != 8&&x.d != 0)) (@bM (x.op) (aB x))) (.c dO (.c oN (.c Is (.c N7 (.c Ra .n)))))) h (by(simp_all[Jt,aq,du,Je]))
    ·exact zD (bool (Zd (x.n≥0)&&Zd (x.n≤200))) [.val (bool (du x.op)),.b false,.b false,.b false,.b true] (.c (gd (!(!(x.op==5||x.op==6||x.op==9)&&x.c != 0||!(x.op==3||x.op==5||x.op==6||x.op==7||x.op==8)&&x.n != 0||x.op != 8&&x.d != 0)) (@bM (x.op) (aB x))) (.c dO (.c oN (.c Is (.c N7 .n))))) h (by(simp_all[Jt,aq,du,inB,Je]))
   ·exact zD (bool true) [.val (bool (du x.op)),.b false,.b false,.b true] (.c (gd (!(!(x.op==5||x.op==6||x.op==9)&&x.c != 0||!(x.op==3||x.op==5||x.op==6||x.op==7||x.op==8)&&x.n != 0||x.op != 8&&x.d != 0)) (@bM (x.op) (aB x))) (.c dO (.c oN (.c Is .n)))) h (by(simp_all[Jt,aq,du,Je]))
  ·exact zD (bool true) [.val (bool (du x.op)),.b false,.b true,.b true] (.c (gd (!(!(x.op==5||x.op==6||x.op==9)&&x.c != 0||!(x.op==3||x.op==5||x.op==6||x.op==7||x.op==8)&&x.n != 0||x.op != 8&&x.d != 0)) (@bM (x.op) (aB x))) (.c dO (.c oN (.c oN .n)))) h (by(simp_all[Jt,aq,du,Je]))
 ·exact zD (bool false) [.val (bool (du x.op)),.b true] (.c (gd (!(!(x.op==5||x.op==6||x.op==9)&&x.c != 0||!(x.op==3||x.op==5||x.op==6||x.op==7||x.op==8)&&x.n != 0||x.op != 8&&x.d != 0)) (@bM (x.op) (aB x))) (.c dO .n)) h (by(simp_all[Jt,aq,du,Je]))
end Go.Vi
