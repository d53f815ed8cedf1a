/- RecordSituateSpecUpto: part of the proof: contracts of the functions that the law reaches, and the law. No conditions beyond the given statement's own. -/
import Derived.Test.YtilebidefogaiaaGreatDoorW8
open Decidable renaming decide → Zd
open Go.Vi.CourseT renaming row → Hz
open Go.Vi.SysT renaming row → HC
open Go.Vi.FactT renaming row → Hv
open List renaming map → Hl, length → Hn, all → HJ, getElem?_eq_some_iff → Hs, length_nil → Jj, drop → IC, foldl → HP, length_map → Ir, length_take → LA, take_add_one → L7, length_append → ID, length_cons → HY, contains → Ij, length_range → L5
open Go.IntKind renaming i64 → Hp, wrap → Ht, u64 → Ja
open Go.Proofs.Tryz renaming prog → Hm, f68 → Mb, f69 → K0, f57 → M7, f20 → JF, f131 → Mu, f72 → M9
open Go.Vi.D renaming mapRL → It, p → II, tup → HV, agg → H6
open Go.Vi.Dp renaming v → JB
open Go.Value renaming tuple → Ii, oneCell' → IJ, bool → L8
open Go.Exit renaming normal → HA, exit → HT
open Go.Vi.Blk renaming Om → HB
open Go.Vi.WorldT renaming l → HI
open Bool renaming false_and → Ix, and_false → IG, true_and → Jb, and_eq_true → Hx
open Go.Vi.CW renaming each → I7
open Go.Vi.Ev renaming castH → H4, nilW → Lx
open Int renaming toNat → Hw, tdiv → Jw, natAbs → HF
open Go.Vi.AttT renaming row → Hq
open Go.Vi.RuleT renaming fl → Hr
open Option renaming toList_some → M8
open Go.Vi.SeenT renaming row → HG, mk → MO
open Nat renaming gcd → Io
open Go Go.Proofs
namespace Go.Vi
set_option maxRecDepth 100000
set_option maxHeartbeats 4000000
abbrev n8H(w:WorldT)(l:List Int):List Blk:=[.var w.l,.var [int 12,int 0,int 0],.vec (nuV l) 0 1]
abbrev n8S(w:WorldT)(many:Int)(l:List Int)(i:Int):AS:={t:=mkT 71 0 [(2,.ref (.ptr 0 0)),(6,.ref (.ptr 1 0)),(7,int many),(9,.ref (.vec 2 0)),(10,int i)],h:=n8H w l,m:=[]}
abbrev n8E(w:WorldT)(l:List Int):AS:={t:=mkT 71 0 [(6,.ref (.ptr 1 0)),(9,.ref (.vec 2 0))],h:=n8H w l,m:=[]}
def n8F(many:Int)(f:FactT)(l:List Int):List Int⊕List Int:=bif Zd ((l.length:Int)<many) then .inl (bif isNew f l then l++[f.sub] else l) else .inr l
theorem DD(many:Int):n8F many=nuF many:=by
 funext f l
 unfold n8F nuF
 by_cases h:(l.length:Int)<many
 ·rw[if_neg (by simp;omega)];simp[h]
 ·rw[if_pos (by simp;omega)];simp[h]
abbrev n8K(w:WorldT)(l:List Int)(f:FactT):List Blk:=[.var [ab (w.c.map Hz),ab w.p,ab (w.s.map HC),ab (w.f.map Hv)],.var [int 12,int 0,int 0],.vec (nuV l) 0 1,.var [int f.kind,int f.sub,int f.obj]]
theorem tW:∀l:List Int,eY (nuV l)=some (aO l)
 | []=>rfl
 | x::l=>by
  have:=tW l
  simp only[nuV,List.map_cons] at this ⊢
  unfold eY
  rw[this];rfl
theorem DE{w:WorldT}{l:List Int}{f:FactT}:wn (n8K w l f) [D.ref (.vec 2 0),int f.sub]=[ab (aO l),int f.sub]:=by
 have e:C6 (.ref (.vec 2 0)) 0 (some (.vec (nuV l) 0 1))=ab (aO l):=by
  unfold C6;simp only[tW]
 show [C6 (.ref (.vec 2 0)) 0 (some (.vec (nuV l) 0 1)),int f.sub]=_
 rw[e]
noncomputable abbrev jA(w:WorldT)(l:List Int)(f:FactT):List Blk:=[.var [ab (Hl Hz w.c),ab w.p,ab (Hl HC w.s),ab (Hl Hv w.f)],.var [int 12,int 0,int 0],.vec (nuV l) 0 1,.var [int f.kind,int f.sub,int f.obj]]
theorem Hc{w:WorldT}{many:Int}{l:List Int}{i:Nat}{f:FactT}{c:Bool}(hr:aj (i:Int) (w.f.map Hv) f.row 8)(iF:Zd ((i:Int)<((w.f.map Hv).length:Int))=true)(hm:Zd (((nuV l).length:Int)<many)=true)(hw:Hp.wrap ((i:Int)+1)=((i+1:Nat):Int))(hl:l.length≤70000)
 (hc:Ev Hm Γ0 126 [.ref (.vec 2 0),int f.sub] (n8K w l f) (bool c) (n8K w l f))
 (hp:∀f,(nuV l).map (It f)=nuV l) (hi:∀k,(nuV l).all (D.innL k)=true):(CW Hm Γ0 [] false (sub Mb 0) (n8S w many l i) .normal (n8S w many (bif (f.kind==1&&(f.obj==0&&(Zd (f.sub≥0)&&Zd (f.sub≤4095)&&!c))) then l++[f.sub] else l) ((i+1:Nat):Int))):=by
 cases dO:f.kind==1
 ·let v0:=Hn (Hl Hv w.f)
  let v1:=II (JB (Ii {toList:=[]}))
  refine zX {t:=mkT 71 0 [(2,.ref (.ptr 0 0)),(6,.ref (.ptr 1 0)),(7,int many),(9,.ref (.vec 2 0)),(10,int (Ht Hp ((↑i:Int)+1)))],h:=[.var [ab (Hl Hz w.c),ab w.p,ab (Hl HC w.s),ab (Hl Hv w.f)],.var [int 12,int 0,int 0],.vec (nuV l) 0 1],m:=[]} HA [.st (.mask [2,6,7,9,10]),.st (.ren 2 0),.st (.trimV 3)] [.g true,.g true,.g true,.g true,.ov 32 (bool (Zd ((↑(Hn (nuV l)):Int)<many))),.b true,.row [vi f.kind,vi f.sub,vi f.obj,vi f.value,vi f.frm,vi f.By,vi f.known,vi f.no],.g false,.g false,.g false,.ov 48 (bool false),.g false,.g false,.g false,.ov 53 (bool false),.g false,.g false,.g false,.g false,.g false,.ov 60 (bool false),.b false] (.c (show(Zd ((↑i:Int)<(↑v0:Int))==true)=true from(by subst v0 v1;rw[iF];rfl)) (.c (show(Zd ((↑i:Int)<(↑v0:Int))==true)=true from(by subst v0 v1;rw[iF];rfl)) (.c (show(Zd ((↑i:Int)<(↑v0:Int))==true)=true from(by subst v0 v1;rw[iF];rfl)) (.c (show(Zd ((↑i:Int)<(↑v0:Int))==true)=true from(by subst v0 v1;rw[iF];rfl)) (.c (pkt (bool (Zd ((↑(Hn (nuV l)):Int)<many))) (bool false) iF) (.c hm (.c hr (.c (eqb dO) (.c (eqb dO) (.c (eqb dO) (.c (pkf v1 (bool false) dO) (.f (.f (.f (.c (pkf v1 (bool false) rfl) (.f (.f (.f (.f (.f (.c (pkf v1 (bool false) rfl) (.er false (.c (nM l 2 0 0) (.c (show HB 3 (match 0==2 with|true=>.vec (nuV l) 0 1|false=>keepX (al 2 0 0) (.var (HI w)))=true from rfl) (.c (show HB 3 (match 0+1==2 with|true=>.vec (nuV l) 0 1|false=>keepX (al 2 0 0) (.var [int 12,int 0,int 0]))=true from rfl) (.c (iN 3 l 0 1) .n)))))))))))))))))))))))))) (by subst v0 v1;rfl) (by subst v0 v1;(simp only[hw,Ix,cond_false];first|done|rfl))
 ·cases oN:f.obj==0
  ·let v0:=Hn (Hl Hv w.f)
   refine zX {t:=mkT 71 0 [(2,.ref (.ptr 0 0)),(6,.ref (.ptr 1 0)),(7,int many),(9,.ref (.vec 2 0)),(10,int (Ht Hp ((↑i:Int)+1)))],h:=[.var [ab (Hl Hz w.c),ab w.p,ab (Hl HC w.s),ab (Hl Hv w.f)],.var [int 12,int 0,int 0],.vec (nuV l) 0 1],m:=[]} HA [.st (.mask [2,6,7,9,10]),.st (.ren 2 0),.st (.trimV 3)] [.g true,.g true,.g true,.g true,.ov 32 (bool (Zd ((↑(Hn (nuV l)):Int)<many))),.b true,.row [vi f.kind,vi f.sub,vi f.obj,vi f.value,vi f.frm,vi f.By,vi f.known,vi f.no],.g true,.g true,.g true,.ov 48 (bool (f.obj==0)),.g false,.g false,.g false,.ov 53 (bool false),.g false,.g false,.g false,.g false,.g false,.ov 60 (bool false),.b false] (.c (show(Zd ((↑i:Int)<(↑v0:Int))==true)=true from(by subst v0;rw[iF];rfl)) (.c (show(Zd ((↑i:Int)<(↑v0:Int))==true)=true from(by subst v0;rw[iF];rfl)) (.c (show(Zd ((↑i:Int)<(↑v0:Int))==true)=true from(by subst v0;rw[iF];rfl)) (.c (show(Zd ((↑i:Int)<(↑v0:Int))==true)=true from(by subst v0;rw[iF];rfl)) (.c (pkt (bool (Zd ((↑(Hn (nuV l)):Int)<many))) (bool false) iF) (.c hm (.c hr (.c (eqa dO) (.c (eqa dO) (.c (eqa dO) (.c (pkt (bool (f.obj==0)) (bool false) dO) (.c (eqb oN) (.c (eqb oN) (.c (eqb oN) (.c (pkf (II (JB (Ii {toList:=[]}))) (bool false) oN) (.f (.f (.f (.f (.f (.c (pkf (II (JB (Ii {toList:=[]}))) (bool false) rfl) (.er false (.c (nM l 2 0 0) (.c (show HB 3 (match 0==2 with|true=>.vec (nuV l) 0 1|false=>keepX (al 2 0 0) (.var (HI w)))=true from rfl) (.c (show HB 3 (match 0+1==2 with|true=>.vec (nuV l) 0 1|false=>keepX (al 2 0 0) (.var [int 12,int 0,int 0]))=true from rfl) (.c (iN 3 l 0 1) .n)))))))))))))))))))))))))) (by subst v0;rfl) (by subst v0;(simp only[hw,IG,Ix,cond_false];first|done|rfl))
  ·cases Is:Zd (f.sub≥0)&&Zd (f.sub≤4095)
   ·let v0:=Hn (Hl Hv w.f)
    refine zX {t:=mkT 71 0 [(2,.ref (.ptr 0 0)),(6,.ref (.ptr 1 0)),(7,int many),(9,.ref (.vec 2 0)),(10,int (Ht Hp ((↑i:Int)+1)))],h:=[.var [ab (Hl Hz w.c),ab w.p,ab (Hl HC w.s),ab (Hl Hv w.f)],.var [int 12,int 0,int 0],.vec (nuV l) 0 1],m:=[]} HA [.st (.mask [2,6,7,9,10]),.st (.ren 2 0),.st (.trimV 3)] [.g true,.g true,.g true,.g true,.ov 32 (bool (Zd ((↑(Hn (nuV l)):Int)<many))),.b true,.row [vi f.kind,vi f.sub,vi f.obj,vi f.value,vi f.frm,vi f.By,vi f.known,vi f.no],.g true,.g true,.g true,.ov 48 (bool (f.obj==0)),.g true,.g true,.g true,.val (bool (Zd (f.sub≥0)&&Zd (f.sub≤4095))),.ov 53 (bool (Zd (f.sub≥0)&&Zd (f.sub≤4095))),.g false,.g false,.g false,.g false,.g false,.ov 60 (bool false),.b false] (.c (show(Zd ((↑i:Int)<(↑v0:Int))==true)=true from(by subst v0;rw[iF];rfl)) (.c (show(Zd ((↑i:Int)<(↑v0:Int))==true)=true from(by subst v0;rw[iF];rfl)) (.c (show(Zd ((↑i:Int)<(↑v0:Int))==true)=true from(by subst v0;rw[iF];rfl)) (.c (show(Zd ((↑i:Int)<(↑v0:Int))==true)=true from(by subst v0;rw[iF];rfl)) (.c (pkt (bool (Zd ((↑(Hn (nuV l)):Int)<many))) (bool false) iF) (.c hm (.c hr (.c (eqa dO) (.c (eqa dO) (.c (eqa dO) (.c (pkt (bool (f.obj==0)) (bool false) dO) (.c (eqa oN) (.c (eqa oN) (.c (eqa oN) (.c (@ce (f.sub) 0 4095 (jA w l f)) (.c (pkt (bool (Zd (f.sub≥0)&&Zd (f.sub≤4095))) (bool false) oN) (.c (eqb Is) (.c (eqb Is) (.c (eqb Is) (.c (eqb Is) (.c (eqb Is) (.c (pkf (II (JB (Ii {toList:=[]}))) (bool false) Is) (.er false (.c (nM l 2 0 0) (.c (show HB 3 (match 0==2 with|true=>.vec (nuV l) 0 1|false=>keepX (al 2 0 0) (.var (HI w)))=true from rfl) (.c (show HB 3 (match 0+1==2 with|true=>.vec (nuV l) 0 1|false=>keepX (al 2 0 0) (.var [int 12,int 0,int 0]))=true from rfl) (.c (iN 3 l 0 1) .n))))))))))))))))))))))))))) (by subst v0;rfl) (by subst v0;(simp only[hw,IG,Ix,cond_false];first|done|rfl))
   ·cases N7:!c
    ·let v0:=Hn (Hl Hv w.f)
     refine zX {t:=mkT 71 0 [(2,.ref (.ptr 0 0)),(6,.ref (.ptr 1 0)),(7,int many),(9,.ref (.vec 2 0)),(10,int (Ht Hp ((↑i:Int)+1)))],h:=[.var [ab (Hl Hz w.c),ab w.p,ab (Hl HC w.s),ab (Hl Hv w.f)],.var [int 12,int 0,int 0],.vec (nuV l) 0 1],m:=[]} HA [.st (.mask [2,6,7,9,10]),.st (.ren 2 0),.st (.trimV 3)] [.g true,.g true,.g true,.g true,.ov 32 (bool (Zd ((↑(Hn (nuV l)):Int)<many))),.b true,.row [vi f.kind,vi f.sub,vi f.obj,vi f.value,vi f.frm,vi f.By,vi f.known,vi f.no],.g true,.g true,.g true,.ov 48 (bool (f.obj==0)),.g true,.g true,.g true,.val (bool (Zd (f.sub≥0)&&Zd (f.sub≤4095))),.ov 53 (bool (Zd (f.sub≥0)&&Zd (f.sub≤4095))),.g true,.g true,.g true,.g true,.val (bool c),.g true,.ov 60 (bool !c),.b false] (.c (show(Zd ((↑i:Int)<(↑v0:Int))==true)=true from(by subst v0;rw[iF];rfl)) (.c (show(Zd ((↑i:Int)<(↑v0:Int))==true)=true from(by subst v0;rw[iF];rfl)) (.c (show(Zd ((↑i:Int)<(↑v0:Int))==true)=true from(by subst v0;rw[iF];rfl)) (.c (show(Zd ((↑i:Int)<(↑v0:Int))==true)=true from(by subst v0;rw[iF];rfl)) (.c (pkt (bool (Zd ((↑(Hn (nuV l)):Int)<many))) (bool false) iF) (.c hm (.c hr (.c (eqa dO) (.c (eqa dO) (.c (eqa dO) (.c (pkt (bool (f.obj==0)) (bool false) dO) (.c (eqa oN) (.c (eqa oN) (.c (eqa oN) (.c (@ce (f.sub) 0 4095 (jA w l f)) (.c (pkt (bool (Zd (f.sub≥0)&&Zd (f.sub≤4095))) (bool false) oN) (.c (eqa Is) (.c (eqa Is) (.c (eqa Is) (.c (eqa Is) (.c (@hc) (.c (eqa Is) (.c (pkt (bool !c) (bool false) Is) (.c N7 (.c (nM l 2 0 0) (.c (show HB 3 (match 0==2 with|true=>.vec (nuV l) 0 1|false=>keepX (al 2 0 0) (.var (HI w)))=true from rfl) (.c (show HB 3 (match 0+1==2 with|true=>.vec (nuV l) 0 1|false=>keepX (al 2 0 0) (.var [int 12,int 0,int 0]))=true from rfl) (.c (iN 3 l 0 1) .n)))))))))))))))))))))))))))) (by subst v0;rfl) (by subst v0;(simp only[hw,IG,cond_false];first|done|rfl))
    ·let v0:=Hn (Hl Hv w.f)
     refine zX {t:=mkT 71 0 [(2,.ref (.ptr 0 0)),(6,.ref (.ptr 1 0)),(7,int many),(9,.ref (.vec 2 0)),(10,int (Ht Hp ((↑i:Int)+1)))],h:=[.var [ab (Hl Hz w.c),ab w.p,ab (Hl HC w.s),ab (Hl Hv w.f)],.var [int 12,int 0,int 0],.vec (nuV l++[[int f.sub]]) 0 1],m:=[]} HA [.st (.mask [2,6,7,9,10]),.st (.ren 2 0),.st (.trimV 3)] [.g true,.g true,.g true,.g true,.ov 32 (bool (Zd ((↑(Hn (nuV l)):Int)<many))),.b true,.row [vi f.kind,vi f.sub,vi f.obj,vi f.value,vi f.frm,vi f.By,vi f.known,vi f.no],.g true,.g true,.g true,.ov 48 (bool (f.obj==0)),.g true,.g true,.g true,.val (bool (Zd (f.sub≥0)&&Zd (f.sub≤4095))),.ov 53 (bool (Zd (f.sub≥0)&&Zd (f.sub≤4095))),.g true,.g true,.g true,.g true,.val (bool c),.g true,.ov 60 (bool !c),.b true] (.c (show(Zd ((↑i:Int)<(↑v0:Int))==true)=true from(by subst v0;rw[iF];rfl)) (.c (show(Zd ((↑i:Int)<(↑v0:Int))==true)=true from(by subst v0;rw[iF];rfl)) (.c (show(Zd ((↑i:Int)<(↑v0:Int))==true)=true from(by subst v0;rw[iF];rfl)) (.c (show(Zd ((↑i:Int)<(↑v0:Int))==true)=true from(by subst v0;rw[iF];rfl)) (.c (pkt (bool (Zd ((↑(Hn (nuV l)):Int)<many))) (bool false) iF) (.c hm (.c hr (.c (eqa dO) (.c (eqa dO) (.c (eqa dO) (.c (pkt (bool (f.obj==0)) (bool false) dO) (.c (eqa oN) (.c (eqa oN) (.c (eqa oN) (.c (@ce (f.sub) 0 4095 (jA w l f)) (.c (pkt (bool (Zd (f.sub≥0)&&Zd (f.sub≤4095))) (bool false) oN) (.c (eqa Is) (.c (eqa Is) (.c (eqa Is) (.c (eqa Is) (.c (@hc) (.c (eqa Is) (.c (pkt (bool !c) (bool false) Is) (.c N7 (.c (show(HJ [[int f.sub]] (aG 1)&&roomOk (Hn (nuV l)+Hn [[int f.sub]]) 8)=true from ?_) (.c (nMa l [[int f.sub]] 2 1 0) (.er [[int f.sub]] (.c (show HB 3 (match 0==2 with|true=>.vec (nuV l++[[int f.sub]]) 0 1|false=>keepX (al 2 1 0) (.var (HI w)))=true from rfl) (.c (show HB 3 (match 0+1==2 with|true=>.vec (nuV l++[[int f.sub]]) 0 1|false=>keepX (al 2 1 0) (.var [int 12,int 0,int 0]))=true from rfl) (.c (iNa 3 l [[int f.sub]] 0 1) .n)))))))))))))))))))))))))))))) (by subst v0;rfl) (by subst v0;(simp only[hw,gH,Bool.and_true,cond_true];first|done|rfl))<;>subst v0<;>(simp[aG,D.one,IJ,roomOk];omega)
theorem Hd{w:WorldT}{many:Int}{l:List Int}{i:Nat}(iF:Zd ((i:Int)<((w.f.map Hv).length:Int))=true)(hm:Zd (((nuV l).length:Int)<many)=false):(CW Hm Γ0 [] false (sub Mb 0) (n8S w many l i) (.exit 0) (n8E w l)):=by
 let v0:=Hn (Hl Hv w.f)
 exact zx [.st (.mask [6,9])] [.g true,.g true,.g true,.g true,.ov 32 (bool (Zd ((↑(Hn (nuV l)):Int)<many))),.b false] (.c (show(Zd ((↑i:Int)<(↑v0:Int))==true)=true from(by subst v0;rw[iF];rfl)) (.c (show(Zd ((↑i:Int)<(↑v0:Int))==true)=true from(by subst v0;rw[iF];rfl)) (.c (show(Zd ((↑i:Int)<(↑v0:Int))==true)=true from(by subst v0;rw[iF];rfl)) (.c (show(Zd ((↑i:Int)<(↑v0:Int))==true)=true from(by subst v0;rw[iF];rfl)) (.c (pkt (bool (Zd ((↑(Hn (nuV l)):Int)<many))) (bool false) iF) (.c hm .n))))))
theorem He{w:WorldT}{many:Int}{l:List Int}{i:Nat}(iF:Zd ((i:Int)<((w.f.map Hv).length:Int))=false):(CW Hm Γ0 [] false (sub Mb 0) (n8S w many l i) (.exit 0) (n8E w l)):=by
 let v0:=Hn (Hl Hv w.f)
 exact zx [.st (.mask [6,9])] [.g false,.g false,.g false,.g false,.ov 32 (bool false),.b false] (.c (show(Zd ((↑i:Int)<(↑v0:Int))==true)=false from(by subst v0;rw[iF];rfl)) (.c (show(Zd ((↑i:Int)<(↑v0:Int))==true)=false from(by subst v0;rw[iF];rfl)) (.c (show(Zd ((↑i:Int)<(↑v0:Int))==true)=false from(by subst v0;rw[iF];rfl)) (.c (show(Zd ((↑i:Int)<(↑v0:Int))==true)=false from(by subst v0;rw[iF];rfl)) (.c (pkf (II (JB (Ii {toList:=[]}))) (bool false) iF) (.er false .n))))))
theorem Hf{w:WorldT}{l:List Int}{f:FactT}(hl:af l):Ev Hm Γ0 126 [.ref (.vec 2 0),int f.sub] (n8K w l f) (bool (l.contains f.sub)) (n8K w l f):=by
 refine Ev.frzArgs ?_ rfl ?_
 ·have:wn (n8K w l f) [D.ref (.vec 2 0),int f.sub]=[ab (aO l),int f.sub]:=DE
  rw[this];rfl
 ·have:wn (n8K w l f) [D.ref (.vec 2 0),int f.sub]=[ab (aO l),int f.sub]:=DE
  rw[this];exact rW hl []
theorem n8_cw{w:WorldT}{many:Int}(hf:w.f.length≤69000):
  CW Hm Γ0 [] false (.loop (sub Mb 0)) (n8S w many [] 0) (.exit 0) (n8E w (cD many w.f)):=by
 have hs:af w.f:=by unfold af;omega
 have:=I7 (P:=Hm) (Γ:=Γ0) (h0:=[]) (rd:=false) (c:=sub Mb 0) w.f (n8F many) (fun i l=>n8S w many l (i:Int)) (.exit 0) (fun l=>n8E w l) (fun l=>(.exit 0,n8E w l))
  (fun i l=>l.length≤i) (by simp) (by simp) ?_ ?_ [] (by simp)
 ·rw[DD] at this
  unfold cD
  cases h:forL (nuF many) w.f []<;>rw[h] at this<;>exact this
 ·intro i f l hfi hl
  have hi:=(Hs.1 hfi).1
  refine⟨fun l' h=>?_,?_⟩
  ·have:=tb (many:=many) (f:=f) (l:=l) (l':=l') (by rw[←DD];exact h)
   omega
  ·unfold n8F
   cases hm:Zd ((l.length:Int)<many)
   ·exact Hd (lt_len _ hi) (by rw[e7];exact hm)
   ·exact Hc (rowAt hfi rfl) (lt_len _ hi) (by rw[e7];exact hm) (wrap_succ hi hs) (by omega) (Hf (by unfold af;omega)) (pf l) (ei l)
 ·intro l _
  exact He (aJ _ w.f)
theorem atN{w:WorldT}(hf:w.f.length≤69000){known:Int}(h:List Blk):Ev Hm Γ0 124 [ab (w.f.map Hv),.agg [int 12,int 0,int 0],int 0,int known] h (.tup [int (u0 w.f known),bool (atR 12 0 0 0 known w.f).2]) h:=by
 have:=vr (kk:=12) (ks:=0) (ko:=0) (term:=0) (known:=known) (l:=w.f) (by unfold af;omega) h
 rw[vt] at this
 exact this
noncomputable abbrev n8Z(w:WorldT):List Blk:=[.var w.l,.var [int 12,int 0,int 0],.gone,.vec [[int 12,int 0,int 0,int 0,int 1]] 0 5]
noncomputable abbrev gu(w:WorldT):List Blk:=[.var [ab (Hl Hz w.c),ab w.p,ab (Hl HC w.s),ab (Hl Hv w.f)],.var [int 12,int 0,int 0],.gone]
noncomputable abbrev mI(w:WorldT):List Blk:=[.var [ab (Hl Hz w.c),ab w.p,ab (Hl HC w.s),ab (Hl Hv w.f)],.var [int 12,int 0,int 0]]
theorem tX{w:WorldT}(hf:w.f.length≤69000){known many:Int}{b:Bool}(Ps:∀h,Ev Hm Γ0 124 [ab (w.f.map Hv),.agg [int 12,int 0,int 0],int 0,int known] h (.tup [int many,bool b]) h)(hn:(cD many w.f).length≤100000):(Ev Hm Γ0 68 [.agg w.l,int known] [] (.tup [ab (aO (fh (cD many w.f))),.ref (.vec 3 0)]) (n8Z w)):=by
 have N1:=(@n8_cw (w) (many) (hf))
 let v0:List D:=[int 12,int 0,int 0,int 0,int (Ht Hp (0+1))]
 exact H4 (Ev.of_sym (h':=[.var [ab (Hl Hz w.c),ab w.p,ab (Hl HC w.s),ab (Hl Hv w.f)],.var [int 12,int 0,int 0],.gone,.vec [v0] 0 5]) (d:=HV [ab (aO (fh (cD many w.f))),.ref (.vec 3 0)]) pok [.val (HV [int many,bool b]),.sum [2,6,7,9,10] (HT 0) {t:=mkT 71 0 [(6,.ref (.ptr 1 0)),(9,.ref (.vec 2 0))],h:=[.var (HI w),.var [int 12,int 0,int 0],.vec (nuV (cD many w.f)) 0 1],m:=[]},.st (.frz 2 (aO (cD many w.f))),.val (ab (aO (fh (cD many w.f)))),.val (H6 v0)] (by kernel_rfl) (.c (@Ps (mI w)) (.c N1 (.c (show nuV (cD many w.f)=Hl (fun x=>Hl II x) (aO (cD many w.f)) from(by subst v0;exact uZ _)) (.c (@l9 (cD many w.f) hn (gu w)) (.c (@fP 12 0 0 0 (gu w)) (.e (H6 [int 12,int 0,int 0]) (.e (H6 [int 12,int 0,int 0]) .n)))))))) (by rfl) (by rfl)
theorem Hg{many:Int}{fs:List FactT}(hf:fs.length≤69000):(cD many fs).length≤100000:=by
 have:=e8 (many:=many) fs []
 unfold cD
 simp only[Jj] at this
 omega
theorem dj{w:WorldT}(hf:w.f.length≤69000){known:Int}(h:List Blk):Ev Hm Γ0 68 [.agg w.l,int known] h (.tup [ab (aO (ad w.f known)),.ref (.vec h.length 0)]) (h++[.vec (ae (rdR [rdN])) 0 5]):=by
 have h1:=tX (w:=w) hf (known:=known) (fun h=>atN hf h) (Hg hf)
 rw[sb] at h1
 have h2:Ev Hm Γ0 68 [.agg w.l,int known] [] (.tup [ab (aO (ad w.f known)),.ref (.vec 0 0)]) [.vec [[int 12,int 0,int 0,int 0,int 1]] 0 5]:=H4 (h1.keepB [3] (by kernel_rfl) ⟨rfl,trivial⟩) (by kernel_rfl) (by kernel_rfl)
 exact h2.frameN (by kernel_rfl) rfl h
theorem dH{a b:Int}(h:List Blk):(Ev Hm Γ0 129 [int a,int b] h (.agg [int 2,int (mnI a b),int (mxI a b)]) h):=by
 exact z0 [] .n h
abbrev q9H(w:WorldT)(rs:List ReadT)(l:List Int):List Blk:=[.var w.l,.vec (ae (rdR rs)) 0 5,.vec (nuV l) 0 1]
abbrev q9I(w:WorldT)(term known:Int)(ns:List (List Dp))(rs:List ReadT)(l:List Int)(i:Nat)(k:Int):AS :=
 {t:=mkT 93 0 [(2,int term),(3,int known),(4,.ref (.ptr 0 0)),(10,ab ns),(11,.ref (.vec 1 0)),(12,.ref (.vec 2 0)),(13,int i),(14,int k)],h:=q9H w rs l,m:=[]}
abbrev q9O(w:WorldT)(term known:Int)(ns:List (List Dp))(rs:List ReadT)(l:List Int)(i:Nat):AS :=
 {t:=mkT 93 0 [(2,int term),(3,int known),(4,.ref (.ptr 0 0)),(10,ab ns),(11,.ref (.vec 1 0)),(12,.ref (.vec 2 0)),(13,int i)],h:=q9H w rs l,m:=[]}
abbrev q9E(w:WorldT)(rs:List ReadT)(l:List Int):AS :=
 {t:=mkT 93 0 [(11,.ref (.vec 1 0)),(12,.ref (.vec 2 0))],h:=q9H w rs l,m:=[]}
abbrev q9L(w:WorldT)(rs:List ReadT)(l:List Int):List Blk:=[.var [ab (w.c.map Hz),ab w.p,ab (w.s.map HC),ab (w.f.map Hv)],.vec (ae (rdR rs)) 0 5,.vec (nuV l) 0 1]
theorem DF{w:WorldT}{rs:List ReadT}{l:List Int}{n:Int}:wn (q9L w rs l) [D.ref (.vec 2 0),int n]=[ab (aO l),int n]:=by
 have e:C6 (.ref (.vec 2 0)) 0 (some (.vec (nuV l) 0 1))=ab (aO l):=by
  unfold C6;simp only[tW]
 show [C6 (.ref (.vec 2 0)) 0 (some (.vec (nuV l) 0 1)),int n]=_
 rw[e]
theorem Hh{w:WorldT}{rs:List ReadT}{l:List Int}{n:Int}(hl:af l):Ev Hm Γ0 126 [.ref (.vec 2 0),int n] (q9L w rs l) (bool (l.contains n)) (q9L w rs l):=by
 refine Ev.frzArgs ?_ rfl ?_
 ·rw[DF];rfl
 ·rw[DF];exact rW hl []
noncomputable abbrev n9(w:WorldT)(term:Int)(rs:List ReadT)(l:List Int)(a:Int)(n:Int):List Blk:=[.var [ab (Hl Hz w.c),ab w.p,ab (Hl HC w.s),ab (Hl Hv w.f)],.vec (ae (rdR rs)++[[int 2,int (mnI a n),int (mxI a n),int term,int (Ht Hp (term+1))]]) 1 5,.vec (nuV l) 0 1,.var [int 2,int (mnI a n),int (mxI a n)],.vec [[int 2,int (mnI a n),int (mxI a n),int term,int (Ht Hp (term+1))]] 0 5]
noncomputable abbrev oa(w:WorldT)(rs:List ReadT)(l:List Int)(a:Int)(n:Int):List Blk:=[.var [ab (Hl Hz w.c),ab w.p,ab (Hl HC w.s),ab (Hl Hv w.f)],.vec (ae (rdR rs)) 0 5,.vec (nuV l) 0 1,.var [int 2,int (mnI a n),int (mxI a n)]]
noncomputable abbrev ob(w:WorldT)(rs:List ReadT)(l:List Int):List Blk:=[.var [ab (Hl Hz w.c),ab w.p,ab (Hl HC w.s),ab (Hl Hv w.f)],.vec (ae (rdR rs)) 0 5,.vec (nuV l) 0 1,.var [int 0,int 0,int 0]]
noncomputable abbrev bR(w:WorldT)(rs:List ReadT)(l:List Int):List Blk:=[.var [ab (Hl Hz w.c),ab w.p,ab (Hl HC w.s),ab (Hl Hv w.f)],.vec (ae (rdR rs)) 0 5,.vec (nuV l) 0 1]
theorem Hi{w:WorldT}{term known:Int}{ns:List (List Dp)}{rs:List ReadT}{l:List Int}{i k:Nat}{a n:Int}{c:Bool}(ha:l[i]? = some a)(hr:aj (k:Int) ns [vi n] 1)(iF:Zd ((k:Int)<(ns.length:Int))=true)(Oy:Hp.wrap ((k:Int)+1)=((k+1:Nat):Int))(hb:rs.length≤999998000)(hl:l.length≤70000)
  (hc:Ev Hm Γ0 126 [.ref (.vec 2 0),int n] (q9L w rs l) (bool c) (q9L w rs l)) (hcc:l.contains n=c)
  (Ps:∀h,Ev Hm Γ0 124 [ab (w.f.map Hv),.agg [int 2,int (mnI a n),int (mxI a n)],int term,int known] h (.tup [int (atR 2 (mnI a n) (mxI a n) term known w.f).1,bool (atR 2 (mnI a n) (mxI a n) term known w.f).2]) h):(CW Hm Γ0 [] false (sub K0 1) (q9I w term known ns rs l i k) .normal (q9I w term known ns (eqN w term known a (rs,l) n).1 (eqN w term known a (rs,l) n).2 i ((k+1:Nat):Int))):=by
 cases dO:c
 ·cases oN:(atR 2 (mnI a n) (mxI a n) term known w.f).2&&(atR 2 (mnI a n) (mxI a n) term known w.f).1==1
  ·let v0:List D:=[int 2,int (mnI a n),int (mxI a n),int term,int (Ht Hp (term+1))]
   refine zX {t:=mkT 93 0 [(2,int term),(3,int known),(4,.ref (.ptr 0 0)),(10,ab ns),(11,.ref (.vec 1 0)),(12,.ref (.vec 2 0)),(13,int (↑i:Int)),(14,int (Ht Hp ((↑k:Int)+1)))],h:=[.var [ab (Hl Hz w.c),ab w.p,ab (Hl HC w.s),ab (Hl Hv w.f)],.vec (ae (rdR rs)++[v0]) 0 5,.vec (nuV l) 0 1],m:=[]} HA [.st (.mask [2,3,4,10,11,12,13,14]),.st (.ren 1 0),.st (.ren 2 0),.st (.trimV 3)] [.b true,.row [vi n],.val (bool c),.b false,.ov 57 (int a),.row [vi n],.val (H6 [int 2,int (mnI a n),int (mxI a n)]),.val (H6 v0),.val (HV [int (atR 2 (mnI a n) (mxI a n) term known w.f).1,bool (atR 2 (mnI a n) (mxI a n) term known w.f).2]),.b false] (.c iF (.c hr (.c (@hc) (.c dO (.c (show inR (↑i:Int) (Hn (nuV l))=true from ?_) (.c (show bg Hm (bR w rs l) 3 (.ref (.vp 2 0 (Hw (↑i:Int)) 0))=some (int a) from ?_) (.c hr (.c (@dH a n (bR w rs l)) (.c (show inR (↑i:Int) (Hn (nuV l))=true from ?_) (.e (.ref (.vp 2 0 (Hw (↑i:Int)) 0)) (.c (show inR (↑i:Int) (Hn (nuV l))=true from ?_) (.e (.ref (.vp 2 0 (Hw (↑i:Int)) 0)) (.c (show(if 0=0 then match (nuV l)[Hw (↑i:Int)]? with|some row=>bT Hm 3 (IC 0 row)|none=>none else none)=some (int a) from ?_) (.c (show(if 0=0 then match (nuV l)[Hw (↑i:Int)]? with|some row=>bT Hm 3 (IC 0 row)|none=>none else none)=some (int a) from ?_) (.er (bR w rs l) (.c (@dH a n (bR w rs l)) (.c (@dH a n (ob w rs l)) (.c (@fP 2 (mnI a n) (mxI a n) term (oa w rs l a n)) (.c (show(HJ [v0] (aG 5)&&roomOk (Hn (ae (rdR rs))+Hn [v0]) 40)=true from ?_) (.c (@Ps (n9 w term rs l a n)) (.c oN (.c (vMa (rdR rs) [v0] 1 1 0) (.c (nM l 1 1 0) (.er [v0] (.c (nM l 2 0 0) (.c (vMa (rdR rs) [v0] 2 0 0) (.er [v0] (.c (show HB 3 (match 0==2 with|true=>.vec (nuV l) 0 1|false=>keepX (al 2 0 0) (match 0==1 with|true=>.vec (ae (rdR rs)++[v0]) 0 5|false=>keepX (al 1 1 0) (.var (HI w))))=true from rfl) (.c (show HB 3 (match 0+1==2 with|true=>.vec (nuV l) 0 1|false=>keepX (al 2 0 0) (match 0+1==1 with|true=>.vec (ae (rdR rs)++[v0]) 0 5|false=>keepX (al 1 1 0) (.vec (ae (rdR rs)++[v0]) 1 5)))=true from ?_) (.c (iN 3 l 0 1) .n)))))))))))))))))))))))))))))) (by subst v0;(simp only[];first|done|rfl)) (by subst v0;(have hh:eqHit w term known a n=false:=oN;simp only[Oy,eqN,hcc,dO,hh,cond_false,el];first|done|rfl))<;>subst v0<;>(first|exact pu rfl ha|exact CB ha|exact vz ha|(simp only[el];exact aP)|(simp[aG,D.one,IJ,roomOk];omega))
  ·let v0:List D:=[int 2,int (mnI a n),int (mxI a n),int term,int (Ht Hp (term+1))]
   refine zX {t:=mkT 93 0 [(2,int term),(3,int known),(4,.ref (.ptr 0 0)),(10,ab ns),(11,.ref (.vec 1 0)),(12,.ref (.vec 2 0)),(13,int (↑i:Int)),(14,int (Ht Hp ((↑k:Int)+1)))],h:=[.var [ab (Hl Hz w.c),ab w.p,ab (Hl HC w.s),ab (Hl Hv w.f)],.vec (ae (rdR rs)++[v0]) 0 5,.vec (nuV l++[[int n]]) 0 1],m:=[]} HA [.st (.mask [2,3,4,10,11,12,13,14]),.st (.ren 1 0),.st (.ren 2 0),.st (.trimV 3)] [.b true,.row [vi n],.val (bool c),.b false,.ov 57 (int a),.row [vi n],.val (H6 [int 2,int (mnI a n),int (mxI a n)]),.val (H6 v0),.val (HV [int (atR 2 (mnI a n) (mxI a n) term known w.f).1,bool (atR 2 (mnI a n) (mxI a n) term known w.f).2]),.b true,.row [vi n]] (.c iF (.c hr (.c (@hc) (.c dO (.c (show inR (↑i:Int) (Hn (nuV l))=true from ?_) (.c (show bg Hm (bR w rs l) 3 (.ref (.vp 2 0 (Hw (↑i:Int)) 0))=some (int a) from ?_) (.c hr (.c (@dH a n (bR w rs l)) (.c (show inR (↑i:Int) (Hn (nuV l))=true from ?_) (.e (.ref (.vp 2 0 (Hw (↑i:Int)) 0)) (.c (show inR (↑i:Int) (Hn (nuV l))=true from ?_) (.e (.ref (.vp 2 0 (Hw (↑i:Int)) 0)) (.c (show(if 0=0 then match (nuV l)[Hw (↑i:Int)]? with|some row=>bT Hm 3 (IC 0 row)|none=>none else none)=some (int a) from ?_) (.c (show(if 0=0 then match (nuV l)[Hw (↑i:Int)]? with|some row=>bT Hm 3 (IC 0 row)|none=>none else none)=some (int a) from ?_) (.er (bR w rs l) (.c (@dH a n (bR w rs l)) (.c (@dH a n (ob w rs l)) (.c (@fP 2 (mnI a n) (mxI a n) term (oa w rs l a n)) (.c (show(HJ [v0] (aG 5)&&roomOk (Hn (ae (rdR rs))+Hn [v0]) 40)=true from ?_) (.c (@Ps (n9 w term rs l a n)) (.c oN (.c hr (.c (show(HJ [[int n]] (aG 1)&&roomOk (Hn (nuV l)+Hn [[int n]]) 8)=true from ?_) (.c (vMa (rdR rs) [v0] 1 1 0) (.c (nMa l [[int n]] 1 1 0) (.er [v0] (.er [[int n]] (.c (nMa l [[int n]] 2 1 0) (.c (vMa (rdR rs) [v0] 2 1 0) (.er [v0] (.er [[int n]] (.c (show HB 3 (match 0==2 with|true=>.vec (nuV l++[[int n]]) 0 1|false=>keepX (al 2 1 0) (match 0==1 with|true=>.vec (ae (rdR rs)++[v0]) 0 5|false=>keepX (al 1 1 0) (.var (HI w))))=true from rfl) (.c (show HB 3 (match 0+1==2 with|true=>.vec (nuV l++[[int n]]) 0 1|false=>keepX (al 2 1 0) (match 0+1==1 with|true=>.vec (ae (rdR rs)++[v0]) 0 5|false=>keepX (al 1 1 0) (.vec (ae (rdR rs)++[v0]) 1 5)))=true from ?_) (.c (iNa 3 l [[int n]] 0 1) .n)))))))))))))))))))))))))))))))))) (by subst v0;(simp only[];first|done|rfl)) (by subst v0;(have hh:eqHit w term known a n=true:=oN;simp only[Oy,eqN,hcc,dO,hh,cond_true,cond_false,el,gH];first|done|rfl))<;>subst v0<;>(first|exact pu rfl ha|exact CB ha|exact vz ha|(simp only[el];exact aP)|(simp[aG,D.one,IJ,roomOk];omega))
 ·refine zX {t:=mkT 93 0 [(2,int term),(3,int known),(4,.ref (.ptr 0 0)),(10,ab ns),(11,.ref (.vec 1 0)),(12,.ref (.vec 2 0)),(13,int (↑i:Int)),(14,int (Ht Hp ((↑k:Int)+1)))],h:=(bR w rs l),m:=[]} HA [.st (.mask [2,3,4,10,11,12,13,14]),.st (.ren 1 0),.st (.ren 2 0),.st (.trimV 3)] [.b true,.row [vi n],.val (bool c),.b true] (.c iF (.c hr (.c (@hc) (.c dO (.c (vM (rdR rs) 1 0 0) (.c (nM l 1 0 0) (.c (nM l 2 0 0) (.c (vM (rdR rs) 2 0 0) (.c (show HB 3 (match 0==2 with|true=>.vec (nuV l) 0 1|false=>keepX (al 2 0 0) (match 0==1 with|true=>.vec (ae (rdR rs)) 0 5|false=>keepX (al 1 0 0) (.var (HI w))))=true from rfl) (.c (show HB 3 (match 0+1==2 with|true=>.vec (nuV l) 0 1|false=>keepX (al 2 0 0) (match 0+1==1 with|true=>.vec (ae (rdR rs)) 0 5|false=>keepX (al 1 0 0) (.vec (ae (rdR rs)) 0 5)))=true from ?_) (.c (iN 3 l 0 1) .n))))))))))) (by(simp only[];first|done|rfl)) (by(simp only[Oy,eqN,hcc,dO,cond_true];first|done|rfl))<;>(exact aP)
theorem Hj{w:WorldT}{term known:Int}{ns:List (List Dp)}{rs:List ReadT}{l:List Int}{i k:Nat}(iF:Zd ((k:Int)<(ns.length:Int))=false):(CW Hm Γ0 [] false (sub K0 1) (q9I w term known ns rs l i k) (.exit 2) (q9O w term known ns rs l i)):=by
 exact zx [.st (.mask [2,3,4,10,11,12,13])] [.b false] (.c iF .n)
theorem q9i_cw{w:WorldT}(Qz:af w.f){term known:Int}{ns:List Int}(hn:ns.length≤1000){rs:List ReadT}{l:List Int}{i:Nat}{a:Int}(ha:l[i]? = some a)(hb:rs.length≤999990000)(hl:l.length≤60000):
  CW Hm Γ0 [] false (.loop (sub K0 1)) (q9I w term known (ns.map fun n=>[vi n]) rs l i 0) (.exit 2) (q9O w term known (ns.map fun n=>[vi n]) (ns.foldl (eqN w term known a) (rs,l)).1 (ns.foldl (eqN w term known a) (rs,l)).2 i):=by
 have hs:af ns:=by unfold af;omega
 have:=I7 (P:=Hm) (Γ:=Γ0) (h0:=[]) (rd:=false) (c:=sub K0 1) (σ:=RL) (ρ:=Empty) ns (fun n s=>.inl (eqN w term known a s n))
  (fun k s=>q9I w term known (ns.map fun n=>[vi n]) s.1 s.2 i (k:Int)) (.exit 2) (fun s=>q9O w term known (ns.map fun n=>[vi n]) s.1 s.2 i) (fun r=>r.elim)
  (fun k s=>s.2[i]? = some a∧s.1.length≤rs.length+k∧s.2.length≤l.length+k) (by simp) (fun r=>r.elim) ?_ ?_ (rs,l) ⟨ha,by simp,by simp⟩
 ·rw[aC] at this
  exact this
 ·intro k n s Ta Ot
  have hi:=(Hs.1 Ta).1
  refine⟨fun s' h=>by cases h;have:=tK (w:=w) (term:=term) (known:=known) (a:=a) s n;exact⟨Aq Ot.1,by omega,by omega⟩,Hi (c:=s.2.contains n) Ot.1 (rowAt (row:=fun n=>[vi n]) Ta rfl) (lt_len (fun n=>[vi n]) hi) (wrap_succ hi hs) (by omega) (by omega) (Hh (by unfold af;omega)) rfl (fun h=>by have:=vr (kk:=2) (ks:=mnI a n) (ko:=mxI a n) (term:=term) (known:=known) Qz h;rw[vt] at this;exact this)⟩
 ·intro s _
  exact Hj (aJ (fun n=>[vi n]) ns)
theorem CP{w:WorldT}(Qz:af w.f){term known:Int}{ns:List Int}(hn:ns.length≤1000){rs:List ReadT}{l:List Int}{i:Nat}{a:Int}(ha:l[i]? = some a)(Oy:Hp.wrap ((i:Int)+1)=((i+1:Nat):Int))(iF:Zd ((i:Int)<((nuV l).length:Int))=true)(hb:rs.length≤999990000)(hl:l.length≤60000):(CW Hm Γ0 [] false (sub K0 0) (q9O w term known (ns.map fun n=>[vi n]) rs l i) .normal (q9O w term known (ns.map fun n=>[vi n]) (jq w term known ns a (rs,l)).1 (jq w term known ns a (rs,l)).2 (i+1))):=by
 have N1:=(@q9i_cw (w) (Qz) (term) (known) (ns) (hn) (rs) (l) (i) (a) (ha) (hb) (hl))
 let v0:=HP (eqN w term known a) (rs,l) ns
 refine zX {t:=mkT 93 0 [(2,int term),(3,int known),(4,.ref (.ptr 0 0)),(10,ab (Hl (fun n=>[vi n]) ns)),(11,.ref (.vec 1 0)),(12,.ref (.vec 2 0)),(13,int (Ht Hp ((↑i:Int)+1)))],h:=[.var [ab (Hl Hz w.c),ab w.p,ab (Hl HC w.s),ab (Hl Hv w.f)],.vec (ae (rdR v0.1)) 0 5,.vec (nuV v0.2) 0 1],m:=[]} HA [.st (.mask [2,3,4,10,11,12,13])] [.b true,.sum [2,3,4,10,11,12,13,14] (HT 2) {t:=mkT 93 0 [(2,int term),(3,int known),(4,.ref (.ptr 0 0)),(10,ab (Hl (fun n=>[vi n]) ns)),(11,.ref (.vec 1 0)),(12,.ref (.vec 2 0)),(13,int (↑i:Int))],h:=[.var (HI w),.vec (ae (rdR v0.1)) 0 5,.vec (nuV v0.2) 0 1],m:=[]}] (.c iF (.c N1 .n)) ?_ ?_<;>subst v0<;>(first|rfl|(simp only[Oy];rfl))
theorem CQ{w:WorldT}{term known:Int}{ns:List (List Dp)}{rs:List ReadT}{l:List Int}{i:Nat}(iF:Zd ((i:Int)<((nuV l).length:Int))=false):(CW Hm Γ0 [] false (sub K0 0) (q9O w term known ns rs l i) (.exit 0) (q9E w rs l)):=by
 exact zx [.st (.mask [11,12])] [.b false] (.c iF .n)
theorem q9_g{w:WorldT}(Qz:af w.f){term known:Int}{ns:List Int}(hn:ns.length≤1000){rs:List ReadT}{l:List Int}(hb:rs.length≤900000000)(hl:eJ ns l+l.length≤ns.length+1):
  CW Hm Γ0 [] false (.loop (sub K0 0)) (q9O w term known (ns.map fun n=>[vi n]) rs l 0) (.exit 0) (q9E w (eqOut w term known ns (ns.length+1) 0 (rs,l)).1 (eqOut w term known ns (ns.length+1) 0 (rs,l)).2):=by
 refine CW.loop (ι:={p:Nat×Nat×RL // p.2.1+p.1=ns.length+1∧eJ ns p.2.2.2+p.2.2.2.length≤ns.length+1∧p.2.2.1.length≤rs.length+p.2.1*1000∧eqOut w term known ns p.1 p.2.1 p.2.2=eqOut w term known ns (ns.length+1) 0 (rs,l)})
  (fun p=>q9O w term known (ns.map fun n=>[vi n]) p.1.2.2.1 p.1.2.2.2 p.1.2.1) (fun _=>(.exit 0,q9E w (eqOut w term known ns (ns.length+1) 0 (rs,l)).1 (eqOut w term known ns (ns.length+1) 0 (rs,l)).2)) (fun p=>p.1.1) ?_ ⟨(ns.length+1,0,(rs,l)),by simp,hl,by simp,rfl⟩
 rintro⟨⟨f,i,s⟩,h1,h2,h3,h4⟩
 simp only at h1 h2 h3 h4 ⊢
 cases ha:s.2[i]? with
 | none =>
  refine .inr ⟨by simp,?_⟩
  rw[jr ha] at h4
  rw[←h4]
  refine CQ ?_
  rw[e7]
  have:=List.getElem?_eq_none_iff.1 ha
  exact decide_eq_false (by omega)
 | some a =>
  have hi:=(Hs.1 ha).1
  obtain⟨g,rfl⟩:∃g,f=g+1:=⟨f - 1,by omega⟩
  have hf:=d7 (w:=w) (term:=term) (known:=known) (a:=a) (ns:=ns) ns (fun _ h=>h) s
  refine .inl ⟨⟨(g,i+1,jq w term known ns a s),by simp only;omega,by simp only[jq];omega,by simp only[jq];omega,?_⟩,by simp only;omega,trivial,?_⟩
  ·simp only[eqOut,ha] at h4
   exact h4
  ·refine CP Qz hn ha ?_ ?_ ?_ ?_
   ·rw[wrap_i64 (by omega) (by omega)];omega
   ·rw[e7];exact decide_eq_true (by omega)
   ·omega
   ·omega
theorem q9_cw{w:WorldT}(hw:w.ok){c term known:Int}(hn:(ad w.f known).length≤1000):
  CW Hm Γ0 [] false (.loop (sub K0 0)) {t:=mkT 93 0 [(2,int term),(3,int known),(4,.ref (.ptr 0 0)),(10,ab (aO (ad w.f known))),(11,.ref (.vec 1 0)),(12,.ref (.vec 2 0)),(13,int 0)],h:=[.var w.l,.vec (ae (rdR [rdN])) 0 5,.vec [[int c]] 0 1],m:=[]} (.exit 0) (q9E w (cI w c term known).1 (cI w c term known).2) :=
 q9_g hw.sf hn (by simp) (lZ _ c)
noncomputable abbrev jX(w:WorldT):List Blk:=[.var [ab (Hl Hz w.c),ab w.p,ab (Hl HC w.s),ab (Hl Hv w.f)]]
theorem AR{w:WorldT}{c term known:Int}(hc:(!(Zd (c≥0)&&Zd (c≤4095))||!(Zd (term≥0)&&Zd (term≤1023)))=true)(h:List Blk):(Ev Hm Γ0 69 [.agg w.l,int c,int term,int known] h (.tup [ab ([c].map fun n=>[vi n]),ab (rdR [])]) h):=by
 exact H4 (Lx (z0 (d:=HV [ab [[vi c]],nq]) [.val (bool (Zd (c≥0)&&Zd (c≤4095))),.val (bool (Zd (term≥0)&&Zd (term≤1023))),.b true,.nx 1,.st (.frz 1 [[vi c]])] (.c (@ce c 0 4095 (jX w)) (.c (gd (!!(Zd (c≥0)&&Zd (c≤4095))) (@ce term 0 1023 (jX w))) (.c hc (.er [[int c]] .n)))) h)) (by rfl) (by rfl)
noncomputable abbrev sc(w:WorldT):List Blk:=[.var [ab (Hl Hz w.c),ab w.p,ab (Hl HC w.s),ab (Hl Hv w.f)],.gone,.gone]
noncomputable abbrev fR(w:WorldT):List Blk:=[.var [ab (Hl Hz w.c),ab w.p,ab (Hl HC w.s),ab (Hl Hv w.f)]]
theorem AU{w:WorldT}(hw:w.ok){c term known:Int}(hc:(!(Zd (c≥0)&&Zd (c≤4095))||!(Zd (term≥0)&&Zd (term≤1023)))=false)(hn:(ad w.f known).length≤1000)(hl:(cI w c term known).2.length≤100000)(h:List Blk):(Ev Hm Γ0 69 [.agg w.l,int c,int term,int known] h (.tup [ab (aO (fh (cI w c term known).2)),ab (rdR (cI w c term known).1)]) h):=by
 have N1:=(@q9_cw (w) (hw) (c) (term) (known) (hn))
 refine H4 (Lx (z0 (d:=HV [ab (aO (fh (cI w c term known).2)),ab (rdR (cI w c term known).1)]) [.val (bool (Zd (c≥0)&&Zd (c≤4095))),.val (bool (Zd (term≥0)&&Zd (term≤1023))),.b false,.call (HV [ab (aO (ad w.f known)),.ref (.vec 1 0)]) [.var (HI w),.vec [[int rdN.kind,int rdN.sub,int rdN.obj,int rdN.frm,int rdN.By]] 0 5],.sum [2,3,4,10,11,12,13] (HT 0) {t:=mkT 93 0 [(11,.ref (.vec 1 0)),(12,.ref (.vec 2 0))],h:=[.var (HI w),.vec (ae (rdR (cI w c term known).1)) 0 5,.vec (nuV (cI w c term known).2) 0 1],m:=[]},.st (.frz 2 (aO (cI w c term known).2)),.st (.frz 1 (rdR (cI w c term known).1)),.val (ab (aO (fh (cI w c term known).2)))] (.c (@ce c 0 4095 (fR w)) (.c (gd (!!(Zd (c≥0)&&Zd (c≤4095))) (@ce term 0 1023 (fR w))) (.c hc (.c (@dj w ?_ known (fR w)) (.c N1 (.c (show nuV (cI w c term known).2=Hl (fun x=>Hl II x) (aO (cI w c term known).2) from ?_) (.c (show Hl (It (bD 2 0 (aO (cI w c term known).2))) (ae (rdR (cI w c term known).1))=ae (rdR (cI w c term known).1) from ?_) (.c (show ae (rdR (cI w c term known).1)=Hl (fun x=>Hl II x) (rdR (cI w c term known).1) from ?_) (.c (@l9 ((cI w c term known).2) hl (sc w)) .n))))))))) h)) (by rfl) (by rfl)<;>(first|rfl|exact hw.lf|exact aL _ _|exact uZ _)
theorem xd{w:WorldT}(hw:w.ok){c term known:Int}(hn:(ad w.f known).length≤1000)(h:List Blk):Ev Hm Γ0 69 [.agg w.l,int c,int term,int known] h (.tup [ab (aO (a7 w c term known).2),ab (rdR (a7 w c term known).1)]) h:=by
 unfold a7
 cases hc:(!(Zd (c≥0)&&Zd (c≤4095))||!(Zd (term≥0)&&Zd (term≤1023)))
 ·have:=AU hw hc hn (by have:=(pv (w:=w) (c:=c) (term:=term) (known:=known)).1;omega) h
  rw[sb] at this
  exact this
 ·exact AR hc h
abbrev c57H(w:WorldT)(r:RecT)(xs:List Int)(rs:List ReadT):List Blk:=[.var w.l,.var r.l,.vec (cvV xs) 0 1,.vec (ae (rdR rs)) 0 5]
abbrev Hk(w:WorldT)(r:RecT)(term known:Int)(xs:List Int)(rs:List ReadT)(i:Int):AS:={t:=mkT 71 0 [(2,int term),(3,int known),(4,.ref (.ptr 0 0)),(5,.ref (.ptr 1 0)),(11,.ref (.vec 2 0)),(12,.ref (.vec 3 0)),(13,int i)],h:=c57H w r xs rs,m:=[]}
theorem AV(xs:List Int)(v:Int):cvV xs++[[int v]]=cvV (xs++[v]):=by simp[]
theorem DG(f:Ref→D)(xs:List Int)(v:Int):(cvV xs++[[int v]]).map (It f)=cvV xs++[[int v]]:=by rw[AV];exact aL _ _
theorem DH(n:Nat)(xs:List Int)(v:Int)(e c:Nat):HB n (.vec (cvV xs++[[int v]]) e c)=true:=by rw[AV];exact aP
theorem rd_ren(f:Ref→D)(rs qs:List ReadT):(ae (rdR rs)++(rdR qs).map fun x=>x.map II).map (It f)=ae (rdR rs)++(rdR qs).map fun x=>x.map II:=by
 have:(rdR qs).map (fun x=>x.map II)=ae (rdR qs):=rfl
 rw[this,jU];exact aL _ _
theorem DI(n:Nat)(rs qs:List ReadT)(e c:Nat):HB n (.vec (ae (rdR rs)++(rdR qs).map fun x=>x.map II) e c)=true:=by
 have:(rdR qs).map (fun x=>x.map II)=ae (rdR qs):=rfl
 rw[this,jU];exact aP
theorem DJ{w:WorldT}{r:RecT}{term known v:Int}{xs:List Int}{rs qs:List ReadT}{j:Int}:({t:=mkT 71 0 [(2,int term),(3,int known),(4,.ref (.ptr 0 0)),(5,.ref (.ptr 1 0)),(11,.ref (.vec 2 0)),(12,.ref (.vec 3 0)),(13,int j)],h:=[.var w.l,.var r.l,.vec (cvV xs++[[int v]]) 0 1,.vec (ae (rdR rs)++(rdR qs).map fun x=>x.map II) 0 5],m:=[]}:AS)=Hk w r term known (xs++[v]) (rs++qs) j:=by
 simp only[Hk,c57H,←AV,←jU]
noncomputable abbrev mj(w:WorldT)(r:RecT)(xs:List Int)(rs:List ReadT):List Blk:=[.var [ab (Hl Hz w.c),ab w.p,ab (Hl HC w.s),ab (Hl Hv w.f)],.var [int r.st,ab (Hl Hq r.a)],.vec (cvV xs) 0 1,.vec (ae (rdR rs)) 0 5,.var [au {data:=#[]},int 0,int 0,int 0,int 0,int 0,au {data:=#[]},int 0,int 0,nq,int 0,int 0,au {data:=#[]},int 0,int 0,nq]]
noncomputable abbrev cZ(w:WorldT)(r:RecT)(xs:List Int)(rs:List ReadT):List Blk:=[.var [ab (Hl Hz w.c),ab w.p,ab (Hl HC w.s),ab (Hl Hv w.f)],.var [int r.st,ab (Hl Hq r.a)],.vec (cvV xs) 0 1,.vec (ae (rdR rs)) 0 5]
noncomputable abbrev c57_body_x2(w:WorldT)(a:AttT)(term:Int)(known:Int):List D:=[H6 [ab (Hl Hz w.c),ab w.p,ab (Hl HC w.s),ab (Hl Hv w.f)],int a.aT,int term,int known]
theorem CR{w:WorldT}{r:RecT}{a:AttT}{c:CourseT}{b:Bool}{qs:List ReadT}{term known:Int}{xs:List Int}{rs:List ReadT}{i:Nat}(hx:xs.length≤900000000)(hq:rs.length+qs.length≤900000000)(hr:aj (i:Int) (r.a.map Hq) a.row 5)(iF:Zd ((i:Int)<((r.a.map Hq).length:Int))=true)(Oy:Hp.wrap ((i:Int)+1)=((i+1:Nat):Int))
 (Ob:∀h,Ev Hm Γ0 76 [.agg w.l,int a.aT,int term,int known] h (.tup [ag c.row,ab (rdR qs),bool b]) h) (hz:b=false→c.rep=0):(CW Hm Γ0 [] false (sub M7 0) (Hk w r term known xs rs i) .normal (Hk w r term known (xs++[c.rep]) (rs++qs) ((i+1:Nat):Int))):=by
 cases dO:b
 ·refine zX {t:=mkT 71 0 [(2,int term),(3,int known),(4,.ref (.ptr 0 0)),(5,.ref (.ptr 1 0)),(11,.ref (.vec 2 0)),(12,.ref (.vec 3 0)),(13,int (Ht Hp ((↑i:Int)+1)))],h:=[.var [ab (Hl Hz w.c),ab w.p,ab (Hl HC w.s),ab (Hl Hv w.f)],.var [int r.st,ab (Hl Hq r.a)],.vec (cvV xs++[[int 0]]) 0 1,.vec (ae (rdR rs)++Hl (fun x=>Hl II x) (rdR qs)) 0 5],m:=[]} HA [.st (.mask [2,3,4,5,11,12,13]),.st (.ren 2 0),.st (.ren 3 0),.st (.trimV 4)] [.b true,.row (Hq a),.val (HV [H6 [au c.name,int c.number,int c.bY,int c.rep,int (Hr c.oF).op,int (Hr c.oF).c,au (Hr c.oF).nm,int (Hr c.oF).n,int (Hr c.oF).d,ab (Hr c.oF).ks,int (Hr c.Bv).op,int (Hr c.Bv).c,au (Hr c.Bv).nm,int (Hr c.Bv).n,int (Hr c.Bv).d,ab (Hr c.Bv).ks],ab (rdR qs),bool b]),.b false] (.c iF (.c hr (.c (@Ob (cZ w r xs rs)) (.e (H6 (HI w)) (.e (H6 (HI w)) (.e (.ref (.ptr 1 1)) (.e (.ref (.ptr 1 1)) (.e (ab (Hl Hq r.a)) (.e (ab (Hl Hq r.a)) (.er (cZ w r xs rs) (.c (@Ob (cZ w r xs rs)) (.c (@Ob (mj w r xs rs)) (.c (show(HJ (Hl (fun x=>Hl II x) (rdR qs)) (aG 5)&&roomOk (Hn (ae (rdR rs))+Hn (Hl (fun x=>Hl II x) (rdR qs))) 40)=true from ?_) (.c dO (.c (show(HJ [[int 0]] (aG 1)&&roomOk (Hn (cvV xs)+Hn [[int 0]]) 8)=true from ?_) (.c (show Hl (It (al 2 1 0)) (cvV xs++[[int 0]])=cvV xs++[[int 0]] from ?_) (.c (vMa (rdR rs) (Hl (fun x=>Hl II x) (rdR qs)) 2 1 0) (.er [[int 0]] (.c (vMa (rdR rs) (Hl (fun x=>Hl II x) (rdR qs)) 3 1 0) (.c (show Hl (It (al 3 1 0)) (cvV xs++[[int 0]])=cvV xs++[[int 0]] from ?_) (.er [[int 0]] (.c (show HB 4 (match 0==3 with|true=>.vec (ae (rdR rs)++Hl (fun x=>Hl II x) (rdR qs)) 0 5|false=>keepX (al 3 1 0) (match 0==2 with|true=>.vec (cvV xs++[[int 0]]) 0 1|false=>keepX (al 2 1 0) (.var (HI w))))=true from rfl) (.c (show HB 4 (match 0+1==3 with|true=>.vec (ae (rdR rs)++Hl (fun x=>Hl II x) (rdR qs)) 0 5|false=>keepX (al 3 1 0) (match 0+1==2 with|true=>.vec (cvV xs++[[int 0]]) 0 1|false=>keepX (al 2 1 0) (.var [int r.st,ab (Hl Hq r.a)])))=true from rfl) (.c (show HB 4 (match 0+1+1==3 with|true=>.vec (ae (rdR rs)++Hl (fun x=>Hl II x) (rdR qs)) 0 5|false=>keepX (al 3 1 0) (match 0+1+1==2 with|true=>.vec (cvV xs++[[int 0]]) 0 1|false=>keepX (al 2 1 0) (.vec (cvV xs++[[int 0]]) 1 1)))=true from ?_) (.c (iVa 4 (rdR rs) (Hl (fun x=>Hl II x) (rdR qs)) 0 5) .n))))))))))))))))))))))))) (by rfl) (by(rw[Oy,hz dO];exact DJ))<;>(first|exact DG _ _ _|exact DH _ _ _ _ _|(simp only[mD,roomOk,Jb,Hx,decide_eq_true_eq,Ir];omega)|(simp[aG,D.one,IJ,roomOk];omega))
 ·refine zX {t:=mkT 71 0 [(2,int term),(3,int known),(4,.ref (.ptr 0 0)),(5,.ref (.ptr 1 0)),(11,.ref (.vec 2 0)),(12,.ref (.vec 3 0)),(13,int (Ht Hp ((↑i:Int)+1)))],h:=[.var [ab (Hl Hz w.c),ab w.p,ab (Hl HC w.s),ab (Hl Hv w.f)],.var [int r.st,ab (Hl Hq r.a)],.vec (cvV xs++[[int c.rep]]) 0 1,.vec (ae (rdR rs)++Hl (fun x=>Hl II x) (rdR qs)) 0 5],m:=[]} HA [.st (.mask [2,3,4,5,11,12,13]),.st (.ren 2 0),.st (.ren 3 0),.st (.trimV 4)] [.b true,.row (Hq a),.val (HV [H6 [au c.name,int c.number,int c.bY,int c.rep,int (Hr c.oF).op,int (Hr c.oF).c,au (Hr c.oF).nm,int (Hr c.oF).n,int (Hr c.oF).d,ab (Hr c.oF).ks,int (Hr c.Bv).op,int (Hr c.Bv).c,au (Hr c.Bv).nm,int (Hr c.Bv).n,int (Hr c.Bv).d,ab (Hr c.Bv).ks],ab (rdR qs),bool b]),.b true] (.c iF (.c hr (.c (@Ob (cZ w r xs rs)) (.e (H6 (HI w)) (.e (H6 (HI w)) (.e (.ref (.ptr 1 1)) (.e (.ref (.ptr 1 1)) (.e (ab (Hl Hq r.a)) (.e (ab (Hl Hq r.a)) (.er (cZ w r xs rs) (.c (@Ob (cZ w r xs rs)) (.c (@Ob (mj w r xs rs)) (.c (show(HJ (Hl (fun x=>Hl II x) (rdR qs)) (aG 5)&&roomOk (Hn (ae (rdR rs))+Hn (Hl (fun x=>Hl II x) (rdR qs))) 40)=true from ?_) (.c dO (.c (show(HJ [[int c.rep]] (aG 1)&&roomOk (Hn (cvV xs)+Hn [[int c.rep]]) 8)=true from ?_) (.c (show Hl (It (al 2 1 0)) (cvV xs++[[int c.rep]])=cvV xs++[[int c.rep]] from ?_) (.c (vMa (rdR rs) (Hl (fun x=>Hl II x) (rdR qs)) 2 1 0) (.er [[int c.rep]] (.c (vMa (rdR rs) (Hl (fun x=>Hl II x) (rdR qs)) 3 1 0) (.c (show Hl (It (al 3 1 0)) (cvV xs++[[int c.rep]])=cvV xs++[[int c.rep]] from ?_) (.er [[int c.rep]] (.c (show HB 4 (match 0==3 with|true=>.vec (ae (rdR rs)++Hl (fun x=>Hl II x) (rdR qs)) 0 5|false=>keepX (al 3 1 0) (match 0==2 with|true=>.vec (cvV xs++[[int c.rep]]) 0 1|false=>keepX (al 2 1 0) (.var (HI w))))=true from rfl) (.c (show HB 4 (match 0+1==3 with|true=>.vec (ae (rdR rs)++Hl (fun x=>Hl II x) (rdR qs)) 0 5|false=>keepX (al 3 1 0) (match 0+1==2 with|true=>.vec (cvV xs++[[int c.rep]]) 0 1|false=>keepX (al 2 1 0) (.var [int r.st,ab (Hl Hq r.a)])))=true from rfl) (.c (show HB 4 (match 0+1+1==3 with|true=>.vec (ae (rdR rs)++Hl (fun x=>Hl II x) (rdR qs)) 0 5|false=>keepX (al 3 1 0) (match 0+1+1==2 with|true=>.vec (cvV xs++[[int c.rep]]) 0 1|false=>keepX (al 2 1 0) (.vec (cvV xs++[[int c.rep]]) 1 1)))=true from ?_) (.c (iVa 4 (rdR rs) (Hl (fun x=>Hl II x) (rdR qs)) 0 5) .n))))))))))))))))))))))))) (by rfl) (by(rw[Oy];exact DJ))<;>(first|exact DG _ _ _|exact DH _ _ _ _ _|(simp only[mD,roomOk,Jb,Hx,decide_eq_true_eq,Ir];omega)|(simp[aG,D.one,IJ,roomOk];omega))
theorem CS{w:WorldT}{r:RecT}{term known:Int}{xs:List Int}{rs:List ReadT}{i:Nat}(iF:Zd ((i:Int)<((r.a.map Hq).length:Int))=false):(CW Hm Γ0 [] false (sub M7 0) (Hk w r term known xs rs i) (.exit 0) {t:=mkT 71 0 [(5,.ref (.ptr 1 0)),(11,.ref (.vec 2 0)),(12,.ref (.vec 3 0))],h:=c57H w r xs rs,m:=[]}):=by
 exact zx [.st (.mask [5,11,12])] [.b false] (.c iF .n)
theorem sd{w:WorldT}(hw:w.ok)(hs:∀x∈w.c,x.small){n term known:Int}(h:List Blk):Ev Hm Γ0 76 [.agg w.l,int n,int term,int known] h (.tup [ag (ac w n term known).1.row,ab (rdR (rdT 1 n 0 term)),bool (ac w n term known).2]) h:=by
 rw[←zg];exact tG hw hs h
theorem tY{w:WorldT}{n term known:Int}(h:(ac w n term known).2=false):(ac w n term known).1.rep=0:=by
 unfold ac at h ⊢
 cases ht:outB term<;>rw[ht] at h<;>simp only at h ⊢
 ·unfold j8 at h ⊢
  split at h
  ·rfl
  ·simp at h
 ·rfl
theorem c57_cw{w:WorldT}(hw:w.ok)(hs:∀x∈w.c,x.small){r:RecT}(hr:r.a.length≤90000000){term known:Int}:
  CW Hm Γ0 [] false (.loop (sub M7 0)) (Hk w r term known [] [] 0) (.exit 0) {t:=mkT 71 0 [(5,.ref (.ptr 1 0)),(11,.ref (.vec 2 0)),(12,.ref (.vec 3 0))],h:=c57H w r (cM w known term r.a) (cY term r.a),m:=[]}:=by
 have hsh:af r.a:=by unfold af;omega
 have:=CW.loopN (P:=Hm) (Γ:=Γ0) (h0:=[]) (rd:=false) (c:=sub M7 0) r.a.length
  (fun i=>Hk w r term known (cM w known term (r.a.take i)) (cY term (r.a.take i)) (i:Int)) (e:=.exit 0) (s':={t:=mkT 71 0 [(5,.ref (.ptr 1 0)),(11,.ref (.vec 2 0)),(12,.ref (.vec 3 0))],h:=c57H w r (cM w known term r.a) (cY term r.a),m:=[]}) (by simp) ?_ ?_
 ·exact this
 ·intro i hi
  have ha:r.a[i]? = some r.a[i]:=List.getElem?_eq_getElem hi
  have h1:(cM w known term (r.a.take i)).length≤900000000:=by unfold cM;rw[Ir,LA];omega
  have h2:(cY term (r.a.take i)).length+(rdT 1 r.a[i].aT 0 term).length≤900000000:=by
   have q1:=ga term (r.a.take i)
   have q2:=rdT_len 1 r.a[i].aT 0 term
   rw[LA] at q1
   omega
  have key:=CR (w:=w) (r:=r) (a:=r.a[i]) (c:=(ac w r.a[i].aT term known).1) (b:=(ac w r.a[i].aT term known).2) (qs:=rdT 1 r.a[i].aT 0 term) (xs:=cM w known term (r.a.take i)) (rs:=cY term (r.a.take i)) (term:=term) (known:=known) h1 h2 (rowAt ha rfl) (lt_len Hq hi) (wrap_succ hi hsh) (fun h=>sd hw hs (n:=r.a[i].aT) h) tY
  have e1:cM w known term (r.a.take (i+1))=cM w known term (r.a.take i)++[(ac w r.a[i].aT term known).1.rep]:=by
   unfold cM;rw[L7,ha,M8,List.map_append];rfl
  have e2:cY term (r.a.take (i+1))=cY term (r.a.take i)++rdT 1 r.a[i].aT 0 term:=by
   unfold cY;rw[L7,ha,M8,List.flatMap_append,List.flatMap_singleton]
  rw[e1,e2]
  exact key
 ·have:=CS (w:=w) (r:=r) (term:=term) (known:=known) (xs:=cM w known term (r.a.take r.a.length)) (rs:=cY term (r.a.take r.a.length)) (i:=r.a.length) (aJ Hq r.a)
  rw[List.take_length] at this ⊢
  exact this
theorem check31{r:RecT}(hl:af r.a)(h:List Blk):Ev Hm Γ0 31 [.agg r.l] h (int (bF r)) h:=by rw[←wS];exact wQ hl h
theorem cnt112{l:List AttT}(hl:l.length≤900000000){rp:List Int}(hlen:rp.length=l.length)(h:List Blk):Ev Hm Γ0 112 [ab (l.map Hq),ab (rp.map fun n=>[vi n])] h (.tup [ab ((iE l rp).1.map Hq),int (iE l rp).2]) h:=by
 have hs:af l:=by unfold af;omega
 rw[←CA hlen]
 exact Gm hl hs hlen (fun h=>by rw[←vv];exact nX hs h) h
noncomputable abbrev cm(w:WorldT)(r:RecT):List Blk:=[.var [ab (Hl Hz w.c),ab w.p,ab (Hl HC w.s),ab (Hl Hv w.f)],.var [int r.st,ab (Hl Hq r.a)]]
theorem cnt57_a{w:WorldT}(hw:w.ok)(hs:∀x∈w.c,x.small){r:RecT}(hr:r.a.length≤90000000){term known e:Int}{L:List AttT}(R6:∀h,Ev Hm Γ0 31 [.agg r.l] h (int (bF r)) h)
 (hc:∀h,Ev Hm Γ0 112 [ab (r.a.map Hq),ab ((cM w known term r.a).map fun n=>[vi n])] h (.tup [ab (L.map Hq),int e]) h) (h:List Blk):(Ev Hm Γ0 57 [.agg w.l,.agg r.l,int term,int known] h (.tup [ab ((rcX (mF r term) e L (cY term r.a)).1.map Hq),ab (rdR (rcX (mF r term) e L (cY term r.a)).2.1),int (rcX (mF r term) e L (cY term r.a)).2.2]) h):=by
 cases dO:bF r != 0||!(Zd (term≥0)&&Zd (term≤1023))
 ·have Oj:=(@c57_cw (w) (hw) (hs) (r) (hr) (term) (known))
  cases Is:e != 0
  ·refine H4 (Lx (z0 (d:=HV [ab (Hl Hq L),ab (rdR (cY term r.a)),int 0]) [.val (int (bF r)),.val (bool (Zd (term≥0)&&Zd (term≤1023))),.b false,.nx 3,.st (.nilT 11 1),.st (.nilT 12 5),.sum [2,3,4,5,11,12,13] (HT 0) {t:=mkT 71 0 [(5,.ref (.ptr 1 0)),(11,.ref (.vec 2 0)),(12,.ref (.vec 3 0))],h:=[.var (HI w),.var [int r.st,ab (Hl Hq r.a)],.vec (cvV (cM w known term r.a)) 0 1,.vec (ae (rdR (cY term r.a))) 0 5],m:=[]},.st (.mask [5,11,12]),.st (.frz 3 (rdR (cY term r.a))),.st (.frz 2 (Hl (fun n=>[vi n]) (cM w known term r.a))),.st (.trimV 2),.val (HV [ab (Hl Hq L),int e]),.b false] (.c (@R6 (cm w r)) (.c (gd (!bF r != 0) (@bn term 0 1023 (cm w r))) (.c dO (.c Oj (.c (show ae (rdR (cY term r.a))=Hl (fun x=>Hl II x) (rdR (cY term r.a)) from ?_) (.c (show Hl (It (bD 3 0 (rdR (cY term r.a)))) (cvV (cM w known term r.a))=cvV (cM w known term r.a) from ?_) (.c (show cvV (cM w known term r.a)=Hl (fun x=>Hl II x) (Hl (fun n=>[vi n]) (cM w known term r.a)) from ?_) (.c (show HB 2 (match 0==2 with|true=>.gone|false=>keepX (bD 2 0 (Hl (fun n=>[vi n]) (cM w known term r.a))) (match 0==3 with|true=>.gone|false=>keepX (bD 3 0 (rdR (cY term r.a))) (.var (HI w))))=true from rfl) (.c (show HB 2 (match 0+1==2 with|true=>.gone|false=>keepX (bD 2 0 (Hl (fun n=>[vi n]) (cM w known term r.a))) (match 0+1==3 with|true=>.gone|false=>keepX (bD 3 0 (rdR (cY term r.a))) (.var [int r.st,ab (Hl Hq r.a)])))=true from rfl) (.c (@hc (cm w r)) (.c Is .n))))))))))) h)) (by(have hh:mF r term=false:=dO;have h2:(e != 0)=false:=Is;simp only[rcX,hh,h2];rfl)) (by rfl)<;>(first|rfl|exact aL _ _)
  ·refine H4 (Lx (z0 (d:=HV [nq,nq,int e]) [.val (int (bF r)),.val (bool (Zd (term≥0)&&Zd (term≤1023))),.b false,.nx 3,.st (.nilT 11 1),.st (.nilT 12 5),.sum [2,3,4,5,11,12,13] (HT 0) {t:=mkT 71 0 [(5,.ref (.ptr 1 0)),(11,.ref (.vec 2 0)),(12,.ref (.vec 3 0))],h:=[.var (HI w),.var [int r.st,ab (Hl Hq r.a)],.vec (cvV (cM w known term r.a)) 0 1,.vec (ae (rdR (cY term r.a))) 0 5],m:=[]},.st (.mask [5,11,12]),.st (.frz 3 (rdR (cY term r.a))),.st (.frz 2 (Hl (fun n=>[vi n]) (cM w known term r.a))),.st (.trimV 2),.val (HV [ab (Hl Hq L),int e]),.b true] (.c (@R6 (cm w r)) (.c (gd (!bF r != 0) (@bn term 0 1023 (cm w r))) (.c dO (.c Oj (.c (show ae (rdR (cY term r.a))=Hl (fun x=>Hl II x) (rdR (cY term r.a)) from ?_) (.c (show Hl (It (bD 3 0 (rdR (cY term r.a)))) (cvV (cM w known term r.a))=cvV (cM w known term r.a) from ?_) (.c (show cvV (cM w known term r.a)=Hl (fun x=>Hl II x) (Hl (fun n=>[vi n]) (cM w known term r.a)) from ?_) (.c (show HB 2 (match 0==2 with|true=>.gone|false=>keepX (bD 2 0 (Hl (fun n=>[vi n]) (cM w known term r.a))) (match 0==3 with|true=>.gone|false=>keepX (bD 3 0 (rdR (cY term r.a))) (.var (HI w))))=true from rfl) (.c (show HB 2 (match 0+1==2 with|true=>.gone|false=>keepX (bD 2 0 (Hl (fun n=>[vi n]) (cM w known term r.a))) (match 0+1==3 with|true=>.gone|false=>keepX (bD 3 0 (rdR (cY term r.a))) (.var [int r.st,ab (Hl Hq r.a)])))=true from rfl) (.c (@hc (cm w r)) (.c Is .n))))))))))) h)) (by(have hh:mF r term=false:=dO;have h2:(e != 0)=true:=Is;simp only[rcX,hh,h2];rfl)) (by rfl)<;>(first|rfl|exact aL _ _)
 ·exact H4 (Lx (z0 (d:=HV [nq,nq,int 150]) [.val (int (bF r)),.val (bool (Zd (term≥0)&&Zd (term≤1023))),.b true] (.c (@R6 (cm w r)) (.c (gd (!bF r != 0) (@bn term 0 1023 (cm w r))) (.c dO .n))) h)) (by(have hh:mF r term=true:=dO;simp only[rcX,hh];rfl)) (by rfl)
abbrev q1H(w:WorldT)(r:RecT)(rs:List ReadT)(ss:List SeenT):List Blk:=[.var w.l,xl,.vec (ae (rdR rs)) 0 5,.var r.l,.vec (ae (ss.map HG)) 0 4]
abbrev q1S(w:WorldT)(r:RecT)(e1:Int)(term known:Int)(now cs ns:List (List Dp))(rs:List ReadT)(ss:List SeenT)(i:Int):AS :=
 {t:=mkT 204 0 [(2,int term),(3,int known),(4,ab now),(5,.ref (.ptr 0 0)),(10,.ref (.ptr 1 0)),(11,ay),(12,int 0),(14,.ref (.ptr 3 0)),(15,.ref (.vec 2 0)),(17,ab cs),(19,int e1),(20,ab ns),(21,.ref (.vec 4 0)),(22,int i)],h:=q1H w r rs ss,m:=[]}
abbrev q1E(w:WorldT)(r:RecT)(e1:Int)(now cs:List (List Dp))(rs:List ReadT)(ss:List SeenT):AS :=
 {t:=mkT 204 0 [(4,ab now),(10,.ref (.ptr 1 0)),(11,ay),(12,int 0),(15,.ref (.vec 2 0)),(17,ab cs),(19,int e1),(21,.ref (.vec 4 0))],h:=q1H w r rs ss,m:=[]}
def q1F(w:WorldT)(r:RecT)(term known:Int)(s:List ReadT×List SeenT)(n:Int):List ReadT×List SeenT :=
 (s.1++(a7 w n term known).1,s.2++[⟨n,(r.a.foldl (seF (a7 w n term known).2) (0,-1)).1,(r.a.foldl (seF (a7 w n term known).2) (0,-1)).2,false⟩])
theorem sn_app(l:List SeenT)(n t b:Int):ae (l.map HG)++[[int n,int t,int b,bool false]]=ae ((l++[MO n t b false]).map HG):=by simp[HG]
noncomputable abbrev xe(w:WorldT)(r:RecT)(rs:List ReadT)(q:List ReadT)(ss:List SeenT):List Blk:=[.var [ab (Hl Hz w.c),ab w.p,ab (Hl HC w.s),ab (Hl Hv w.f)],.var [nq,int 0,int 0,int 0],.vec (ae (rdR rs)++Hl (fun x=>Hl II x) (rdR q)) 1 5,.var [int r.st,ab (Hl Hq r.a)],.vec (ae (Hl HG ss)) 0 4]
noncomputable abbrev xf(w:WorldT)(r:RecT)(rs:List ReadT)(ss:List SeenT):List Blk:=[.var [ab (Hl Hz w.c),ab w.p,ab (Hl HC w.s),ab (Hl Hv w.f)],.var [nq,int 0,int 0,int 0],.vec (ae (rdR rs)) 0 5,.var [int r.st,ab (Hl Hq r.a)],.vec (ae (Hl HG ss)) 0 4]
theorem q1_body{w:WorldT}{r:RecT}{e1:Int}{term known:Int}{now cs ns:List (List Dp)}{rs q:List ReadT}{ss:List SeenT}{eq:List Int}{n t b:Int}{i:Nat}(hr:aj (i:Int) ns [vi n] 1)(iF:Zd ((i:Int)<(ns.length:Int))=true)(Oy:Hp.wrap ((i:Int)+1)=((i+1:Nat):Int))(hb:rs.length+q.length≤900000000)(hs:ss.length≤100000)
  (h69:∀h,Ev Hm Γ0 69 [.agg w.l,int n,int term,int known] h (.tup [ab (aO eq),ab (rdR q)]) h)
  (h70:∀h,Ev Hm Γ0 70 [.agg r.l,int n,ab (aO eq)] h (.agg [int n,int t,int b,bool false]) h):(CW Hm Γ0 [] false (sub JF 1) (q1S w r e1 term known now cs ns rs ss i) .normal (q1S w r e1 term known now cs ns (rs++q) (ss++[MO n t b false]) ((i+1:Nat):Int))):=by
 let v0:List D:=[int n,int t,int b,bool false]
 let v1:List D:=[int r.st,ab (Hl Hq r.a)]
 refine zX {t:=mkT 204 0 [(2,int term),(3,int known),(4,ab now),(5,.ref (.ptr 0 0)),(10,.ref (.ptr 1 0)),(11,nq),(12,int 0),(14,.ref (.ptr 3 0)),(15,.ref (.vec 2 0)),(17,ab cs),(19,int e1),(20,ab ns),(21,.ref (.vec 4 0)),(22,int (Ht Hp ((↑i:Int)+1)))],h:=[.var [ab (Hl Hz w.c),ab w.p,ab (Hl HC w.s),ab (Hl Hv w.f)],.var [nq,int 0,int 0,int 0],.vec (ae (rdR rs)++Hl (fun x=>Hl II x) (rdR q)) 0 5,.var v1,.vec (ae (Hl HG ss)++[v0]) 0 4],m:=[]} HA [.st (.mask [2,3,4,5,10,11,12,14,15,17,19,20,21,22]),.st (.ren 2 0),.st (.ren 4 0),.st (.trimV 5)] [.b true,.row [vi n],.val (HV [ab (aO eq),ab (rdR q)]),.row [vi n],.val (H6 v0)] (.c iF (.c hr (.c (@h69 (xf w r rs ss)) (.c (show(HJ (Hl (fun x=>Hl II x) (rdR q)) (aG 5)&&roomOk (Hn (ae (rdR rs))+Hn (Hl (fun x=>Hl II x) (rdR q))) 40)=true from ?_) (.c hr (.c (@h70 (xe w r rs q ss)) (.c (show(HJ [v0] (aG 4)&&roomOk (Hn (ae (Hl HG ss))+Hn [v0]) 32)=true from ?_) (.e (H6 v1) (.c (vMa (rdR rs) (Hl (fun x=>Hl II x) (rdR q)) 2 1 0) (.c (vMa (Hl HG ss) [v0] 2 1 0) (.er [v0] (.c (vMa (Hl HG ss) [v0] 4 1 0) (.c (vMa (rdR rs) (Hl (fun x=>Hl II x) (rdR q)) 4 1 0) (.er [v0] (.c (show HB 5 (match 0==4 with|true=>.vec (ae (Hl HG ss)++[v0]) 0 4|false=>keepX (al 4 1 0) (match 0==2 with|true=>.vec (ae (rdR rs)++Hl (fun x=>Hl II x) (rdR q)) 0 5|false=>keepX (al 2 1 0) (.var (HI w))))=true from rfl) (.c (show HB 5 (match 0+1==4 with|true=>.vec (ae (Hl HG ss)++[v0]) 0 4|false=>keepX (al 4 1 0) (match 0+1==2 with|true=>.vec (ae (rdR rs)++Hl (fun x=>Hl II x) (rdR q)) 0 5|false=>keepX (al 2 1 0) (.var [nq,int 0,int 0,int 0])))=true from rfl) (.c (show HB 5 (match 0+1+1==4 with|true=>.vec (ae (Hl HG ss)++[v0]) 0 4|false=>keepX (al 4 1 0) (match 0+1+1==2 with|true=>.vec (ae (rdR rs)++Hl (fun x=>Hl II x) (rdR q)) 0 5|false=>keepX (al 2 1 0) (.vec (ae (rdR rs)++Hl (fun x=>Hl II x) (rdR q)) 1 5)))=true from ?_) (.c (show HB 5 (match 0+1+1+1==4 with|true=>.vec (ae (Hl HG ss)++[v0]) 0 4|false=>keepX (al 4 1 0) (match 0+1+1+1==2 with|true=>.vec (ae (rdR rs)++Hl (fun x=>Hl II x) (rdR q)) 0 5|false=>keepX (al 2 1 0) (.var v1)))=true from rfl) (.c (iVa 5 (Hl HG ss) [v0] 0 4) .n))))))))))))))))))) (by subst v0 v1;rfl) (by subst v0 v1;(simp only[Oy,q1S,q1H,←jU,←sn_app];first|done|rfl))<;>subst v0 v1<;>(first|exact DI _ _ _ _ _|(simp only[mD,roomOk,Jb,Hx,decide_eq_true_eq,Ir,rdR];omega)|(simp[aG,D.one,IJ,roomOk];omega))
theorem q1_last{w:WorldT}{r:RecT}{e1:Int}{term known:Int}{now cs ns:List (List Dp)}{rs:List ReadT}{ss:List SeenT}{i:Nat}(iF:Zd ((i:Int)<(ns.length:Int))=false):(CW Hm Γ0 [] false (sub JF 1) (q1S w r e1 term known now cs ns rs ss i) (.exit 2) (q1E w r e1 now cs rs ss)):=by
 exact zx [.st (.mask [4,10,11,12,15,17,19,21])] [.b false] (.c iF .n)
def q1R(w:WorldT)(r:RecT)(term known:Int)(rs:List ReadT):List ReadT×List SeenT:=(ad w.f known).foldl (q1F w r term known) (rs,[])
theorem q1_c{w:WorldT}(hw:w.ok){r:RecT}{e1:Int}(ha:af r.a){term known:Int}(hN:(ad w.f known).length≤100){now cs:List (List Dp)}{rs:List ReadT}(hb:rs.length≤700000000):
  CW Hm Γ0 [] false (.loop (sub JF 1)) (q1S w r e1 term known now cs (aO (ad w.f known)) rs [] 0) (.exit 2) (q1E w r e1 now cs (q1R w r term known rs).1 (q1R w r term known rs).2):=by
 have hl:af (ad w.f known):=by unfold af;omega
 have:=I7 (P:=Hm) (Γ:=Γ0) (h0:=[]) (rd:=false) (c:=sub JF 1) (σ:=List ReadT×List SeenT) (ρ:=Empty) (ad w.f known) (fun n s=>.inl (q1F w r term known s n))
  (fun i s=>q1S w r e1 term known now cs (aO (ad w.f known)) s.1 s.2 (i:Int)) (.exit 2) (fun s=>q1E w r e1 now cs s.1 s.2) (fun r=>r.elim) (fun i s=>s.1.length≤rs.length+i*1001001∧s.2.length≤i) (by simp) (fun r=>r.elim) ?_ ?_ (rs,[]) (by simp)
 ·rw[aC] at this
  exact this
 ·intro i n s hn hs
  have hi:=(Hs.1 hn).1
  have hq:=kq (w:=w) (c:=n) (term:=term) (known:=known) (by omega)
  refine⟨fun s' h=>by cases h;simp only[q1F,ID,HY,Jj];omega,?_⟩
  exact q1_body (rowAt (row:=fun n=>[vi n]) hn rfl) (lt_len (fun n=>[vi n]) hi) (wrap_succ hi hl) (by omega) (by omega) (fun h=>xd hw (by omega) h) (fun h=>Aw ha (by unfold af;omega) h)
 ·intro s _
  exact q1_last (aJ (fun n=>[vi n]) _)
abbrev q1S'(w:WorldT)(r:RecT)(e1:Int)(term known:Int)(now cs ns:List (List Dp))(qs q2:List ReadT):AS :=
 {t:=mkT 204 0 [(2,int term),(3,int known),(4,ab now),(5,.ref (.ptr 0 0)),(10,.ref (.ptr 1 0)),(11,ay),(12,int 0),(14,.ref (.ptr 3 0)),(15,.ref (.vec 2 0)),(17,ab cs),(19,int e1),(20,ab ns),(21,.ref (.vec 4 0)),(22,int 0)],h:=[.var w.l,xl,.vec (ae (rdR qs)++(rdR q2).map (fun x=>x.map II)++[[int rdN.kind,int rdN.sub,int rdN.obj,int rdN.frm,int rdN.By]]) 0 5,.var r.l,.vec [] 0 4],m:=[]}
theorem q1x_cw{w:WorldT}(hw:w.ok){r:RecT}{e1:Int}(ha:af r.a){term known:Int}(hN:(ad w.f known).length≤100){now cs:List (List Dp)}{qs q2:List ReadT}(hb:qs.length≤300000000)(Qu:q2.length≤300000000):
  CW Hm Γ0 [] false (.loop (sub JF 1)) (q1S' w r e1 term known now cs (aO (ad w.f known)) qs q2) (.exit 2) (q1E w r e1 now cs (q1R w r term known (qs++q2++[rdN])).1 (q1R w r term known (qs++q2++[rdN])).2):=by
 have h:=q1_c hw (e1:=e1) ha (term:=term) (known:=known) hN (now:=now) (cs:=cs) (rs:=qs++q2++[rdN]) (by simp only[ID,HY,Jj];omega)
 have e:ae (rdR qs)++(rdR q2).map (fun x=>x.map II)++[[int rdN.kind,int rdN.sub,int rdN.obj,int rdN.frm,int rdN.By]]=ae (rdR (qs++q2++[rdN])):=by
  have:(rdR q2).map (fun x=>x.map II)=ae (rdR q2):=rfl
  rw[this,jU,el]
 unfold q1S'
 rw[e]
 exact h
theorem rq_e(qs q2:List ReadT):ae (rdR qs)++(rdR q2).map (fun x=>x.map II)++[[int rdN.kind,int rdN.sub,int rdN.obj,int rdN.frm,int rdN.By]]=ae (rdR (qs++q2++[rdN])):=by
 have:(rdR q2).map (fun x=>x.map II)=ae (rdR q2):=rfl
 rw[this,jU,el]
theorem vH(n:Nat)(qs q2:List ReadT)(e c:Nat):HB n (.vec (ae (rdR qs)++(rdR q2).map (fun x=>x.map II)++[[int rdN.kind,int rdN.sub,int rdN.obj,int rdN.frm,int rdN.By]]) e c)=true:=by rw[rq_e];exact aP
theorem vI(f:Ref→D)(qs q2:List ReadT):(ae (rdR qs)++(rdR q2).map (fun x=>x.map II)++[[int rdN.kind,int rdN.sub,int rdN.obj,int rdN.frm,int rdN.By]]).map (It f)=ae (rdR qs)++(rdR q2).map (fun x=>x.map II)++[[int rdN.kind,int rdN.sub,int rdN.obj,int rdN.frm,int rdN.By]]:=by rw[rq_e];exact aL _ _
theorem AW{w:WorldT}{r:RecT}{term known:Int}(hN:(ad w.f known).length≤100){rs:List ReadT}:af (q1R w r term known rs).2:=by
 have key:∀(ns:List Int) (s:List ReadT×List SeenT),(ns.foldl (q1F w r term known) s).2.length=s.2.length+ns.length:=by
  intro ns
  induction ns with
  | nil=>intro s;simp
  | cons n ns ih=>intro s;rw[List.foldl_cons,ih];simp only[q1F,ID,HY,Jj];omega
 have:=key (ad w.f known) (rs,[])
 unfold af q1R
 simp only[Jj] at this
 omega
abbrev q3H(w:WorldT)(r:RecT)(rs:List ReadT)(l:List SeenT):List Blk:=[.var w.l,xl,.vec (ae (rdR rs)) 0 5,.var r.l,.gone,.var [.ref (.vec 6 0),int 0,int 0,int 0],.vec (ae (l.map HG)) 0 4]
abbrev q3S(w:WorldT)(r:RecT)(e1:Int)(now cs:List (List Dp))(rs:List ReadT)(es:List (List Dp))(l:List SeenT)(c:Int)(nw:Bool)(s:Int×Int)(i:Int):AS :=
 {t:=mkT 204 0 [(4,ab now),(10,.ref (.ptr 1 0)),(11,ay),(12,int 0),(15,.ref (.vec 2 0)),(17,ab cs),(19,int e1),(21,ab es),(25,.ref (.ptr 5 0)),(26,int c),(27,.ref (.ptr 7 0)),(28,int i)],h:=q3H w r rs l++[.var [int c,int s.1,int s.2,bool nw]],m:=[]}
abbrev q3E(w:WorldT)(r:RecT)(e1:Int)(now cs:List (List Dp))(rs:List ReadT)(es:List (List Dp))(l:List SeenT)(c:Int)(nw:Bool)(s:Int×Int):AS :=
 {t:=mkT 204 0 [(4,ab now),(10,.ref (.ptr 1 0)),(11,ay),(12,int 0),(15,.ref (.vec 2 0)),(17,ab cs),(19,int e1),(21,ab es),(25,.ref (.ptr 5 0)),(26,int c),(27,.ref (.ptr 7 0))],h:=q3H w r rs l++[.var [int c,int s.1,int s.2,bool nw]],m:=[]}
def q3F(c:Int)(s:Int×Int)(x:SeenT):Int×Int:=bif x.aT==c then (x.tries,x.iS) else s
theorem q3_body{w:WorldT}{r:RecT}{e1:Int}{now cs es:List (List Dp)}{rs:List ReadT}{l:List SeenT}{c:Int}{nw:Bool}{s:Int×Int}{x:SeenT}{i:Nat}(hr:aj (i:Int) es x.row 4)(iF:Zd ((i:Int)<(es.length:Int))=true)(hw:Hp.wrap ((i:Int)+1)=((i+1:Nat):Int)):(CW Hm Γ0 [] false (sub JF 3) (q3S w r e1 now cs rs es l c nw s i) .normal (q3S w r e1 now cs rs es l c nw (q3F c s x) ((i+1:Nat):Int))):=by
 cases dO:x.aT==c
 ·refine zX {t:=mkT 204 0 [(4,ab now),(10,.ref (.ptr 1 0)),(11,nq),(12,int 0),(15,.ref (.vec 2 0)),(17,ab cs),(19,int e1),(21,ab es),(25,.ref (.ptr 5 0)),(26,int c),(27,.ref (.ptr 7 0)),(28,int (Ht Hp ((↑i:Int)+1)))],h:=[.var [ab (Hl Hz w.c),ab w.p,ab (Hl HC w.s),ab (Hl Hv w.f)],.var [nq,int 0,int 0,int 0],.vec (ae (rdR rs)) 0 5,.var [int r.st,ab (Hl Hq r.a)],.gone,.var [.ref (.vec 6 0),int 0,int 0,int 0],.vec (ae (Hl HG l)) 0 4,.var [int c,int s.1,int s.2,bool nw]],m:=[]} HA [.st (.mask [4,10,11,12,15,17,19,21,25,26,27,28])] [.b true,.row [vi x.aT,vi x.tries,vi x.iS,JB (L8 x.now)],.b false] (.c iF (.c hr (.c dO .n))) ?_ ?_<;>(simp only[q3F,dO,cond_false];first|done|(rw[hw];rfl))
 ·refine zX {t:=mkT 204 0 [(4,ab now),(10,.ref (.ptr 1 0)),(11,nq),(12,int 0),(15,.ref (.vec 2 0)),(17,ab cs),(19,int e1),(21,ab es),(25,.ref (.ptr 5 0)),(26,int c),(27,.ref (.ptr 7 0)),(28,int (Ht Hp ((↑i:Int)+1)))],h:=[.var [ab (Hl Hz w.c),ab w.p,ab (Hl HC w.s),ab (Hl Hv w.f)],.var [nq,int 0,int 0,int 0],.vec (ae (rdR rs)) 0 5,.var [int r.st,ab (Hl Hq r.a)],.gone,.var [.ref (.vec 6 0),int 0,int 0,int 0],.vec (ae (Hl HG l)) 0 4,.var [int c,int x.tries,int x.iS,bool nw]],m:=[]} HA [.st (.mask [4,10,11,12,15,17,19,21,25,26,27,28])] [.b true,.row [vi x.aT,vi x.tries,vi x.iS,JB (L8 x.now)],.b true,.row [vi x.aT,vi x.tries,vi x.iS,JB (L8 x.now)],.row [vi x.aT,vi x.tries,vi x.iS,JB (L8 x.now)]] (.c iF (.c hr (.c dO (.c hr (.c hr .n))))) ?_ ?_<;>(simp only[q3F,dO,cond_true];first|done|(rw[hw];rfl))
theorem q3_last{w:WorldT}{r:RecT}{e1:Int}{now cs es:List (List Dp)}{rs:List ReadT}{l:List SeenT}{c:Int}{nw:Bool}{s:Int×Int}{i:Nat}(iF:Zd ((i:Int)<(es.length:Int))=false):(CW Hm Γ0 [] false (sub JF 3) (q3S w r e1 now cs rs es l c nw s i) (.exit 6) (q3E w r e1 now cs rs es l c nw s)):=by
 exact zx [.st (.mask [4,10,11,12,15,17,19,21,25,26,27])] [.b false] (.c iF .n)
theorem q3_cw{w:WorldT}{r:RecT}{e1:Int}{now cs:List (List Dp)}{rs:List ReadT}{es l:List SeenT}(he:af es){c:Int}{nw:Bool}:
  CW Hm Γ0 [] false (.loop (sub JF 3)) (q3S w r e1 now cs rs (es.map HG) l c nw (0,-1) 0) (.exit 6) (q3E w r e1 now cs rs (es.map HG) l c nw (es.foldl (q3F c) (0,-1))):=by
 have:=I7 (P:=Hm) (Γ:=Γ0) (h0:=[]) (rd:=false) (c:=sub JF 3) (σ:=Int×Int) (ρ:=Empty) es (fun x s=>.inl (q3F c s x))
  (fun i s=>q3S w r e1 now cs rs (es.map HG) l c nw s (i:Int)) (.exit 6) (fun s=>q3E w r e1 now cs rs (es.map HG) l c nw s) (fun r=>r.elim) (fun _ _=>True) (by simp) (fun r=>r.elim) ?_ ?_ (0,-1) trivial
 ·rw[aC] at this
  exact this
 ·intro i x s hx _
  have hi:=(Hs.1 hx).1
  exact⟨fun _ _=>trivial,q3_body (rowAt hx rfl) (lt_len HG hi) (wrap_succ hi he)⟩
 ·intro s _
  exact q3_last (aJ HG es)
abbrev q2S(w:WorldT)(r:RecT)(e1:Int)(now cs:List (List Dp))(rs:List ReadT)(es:List (List Dp))(l:List SeenT)(c:Int):AS :=
 {t:=mkT 204 0 [(4,ab now),(10,.ref (.ptr 1 0)),(11,ay),(12,int 0),(15,.ref (.vec 2 0)),(17,ab cs),(19,int e1),(21,ab es),(25,.ref (.ptr 5 0)),(26,int c)],h:=q3H w r rs l,m:=[]}
abbrev q2E(w:WorldT)(cs:List (List Dp))(r:RecT)(e1:Int)(rs:List ReadT)(l:List SeenT):AS :=
 {t:=mkT 204 0 [(10,.ref (.ptr 1 0)),(11,ay),(12,int 0),(15,.ref (.vec 2 0)),(17,ab cs),(19,int e1),(25,.ref (.ptr 5 0))],h:=q3H w r rs l,m:=[]}
theorem sq_app(l:List SeenT)(n t b:Int)(nw:Bool):ae (l.map HG)++[[int n,int t,int b,bool nw]]=ae ((l++[MO n t b nw]).map HG):=by simp[HG]
def q2F(now:List Int)(es:List SeenT)(c:Int)(l:List SeenT):List SeenT:=bif Zd ((es.foldl (q3F c) (0,-1)).1>0)||now.contains c then l++[MO c (es.foldl (q3F c) (0,-1)).1 (es.foldl (q3F c) (0,-1)).2 (now.contains c)] else l
noncomputable abbrev jB(w:WorldT)(r:RecT)(rs:List ReadT)(l:List SeenT):List Blk:=[.var [ab (Hl Hz w.c),ab w.p,ab (Hl HC w.s),ab (Hl Hv w.f)],.var [nq,int 0,int 0,int 0],.vec (ae (rdR rs)) 0 5,.var [int r.st,ab (Hl Hq r.a)],.gone,.var [.ref (.vec 6 0),int 0,int 0,int 0],.vec (ae (Hl HG l)) 0 4]
theorem q2_body{w:WorldT}{r:RecT}{e1:Int}{now:List Int}(hn:af now){cs:List (List Dp)}{rs:List ReadT}{es:List SeenT}(he:af es){l:List SeenT}{c:Int}(iF:Zd (c<4096)=true)(hl:l.length≤5000):(CW Hm Γ0 [] false (sub JF 2) (q2S w r e1 (aO now) cs rs (es.map HG) l c) .normal (q2S w r e1 (aO now) cs rs (es.map HG) (q2F now es c l) (Hp.wrap (c+1)))):=by
 have N1:=(@q3_cw (w) (r) (e1) (aO now) (cs) (rs) (es) (l) (he) (c) (Ij now c))
 cases oN:Zd ((HP (q3F c) (0,-1) es).1>0)||Ij now c
 ·refine zX {t:=mkT 204 0 [(4,ab (aO now)),(10,.ref (.ptr 1 0)),(11,nq),(12,int 0),(15,.ref (.vec 2 0)),(17,ab cs),(19,int e1),(21,ab (Hl HG es)),(25,.ref (.ptr 5 0)),(26,int (Ht Hp (c+1)))],h:=(jB w r rs l),m:=[]} HA [.st (.mask [4,10,11,12,15,17,19,21,25,26]),.st (.ren 6 0),.st (.trimV 7)] [.b true,.val (bool (Ij now c)),.sum [4,10,11,12,15,17,19,21,25,26,27,28] (HT 6) {t:=mkT 204 0 [(4,ab (aO now)),(10,.ref (.ptr 1 0)),(11,nq),(12,int 0),(15,.ref (.vec 2 0)),(17,ab cs),(19,int e1),(21,ab (Hl HG es)),(25,.ref (.ptr 5 0)),(26,int c),(27,.ref (.ptr 7 0))],h:=[.var (HI w),.var [nq,int 0,int 0,int 0],.vec (ae (rdR rs)) 0 5,.var [int r.st,ab (Hl Hq r.a)],.gone,.var [.ref (.vec 6 0),int 0,int 0,int 0],.vec (ae (Hl HG l)) 0 4,.var [int c,int (HP (q3F c) (0,-1) es).1,int (HP (q3F c) (0,-1) es).2,bool (Ij now c)]],m:=[]},.b false] (.c iF (.c (@kr now hn c (jB w r rs l)) (.c N1 (.c oN (.c (vM (Hl HG l) 6 0 0) (.c (vM (rdR rs) 6 0 0) (.c (show HB 7 (match 0==6 with|true=>.vec (ae (Hl HG l)) 0 4|false=>keepX (al 6 0 0) (.var (HI w)))=true from rfl) (.c (show HB 7 (match 0+1==6 with|true=>.vec (ae (Hl HG l)) 0 4|false=>keepX (al 6 0 0) (.var [nq,int 0,int 0,int 0]))=true from rfl) (.c (show HB 7 (match 0+1+1==6 with|true=>.vec (ae (Hl HG l)) 0 4|false=>keepX (al 6 0 0) (.vec (ae (rdR rs)) 0 5))=true from ?_) (.c (show HB 7 (match 0+1+1+1==6 with|true=>.vec (ae (Hl HG l)) 0 4|false=>keepX (al 6 0 0) (.var [int r.st,ab (Hl Hq r.a)]))=true from rfl) (.c (show HB 7 (match 0+1+1+1+1==6 with|true=>.vec (ae (Hl HG l)) 0 4|false=>keepX (al 6 0 0) .gone)=true from rfl) (.c (show HB 7 (match 0+1+1+1+1+1==6 with|true=>.vec (ae (Hl HG l)) 0 4|false=>keepX (al 6 0 0) (.var [.ref (.vec 6 0),int 0,int 0,int 0]))=true from rfl) (.c (iV 7 (Hl HG l) 0 4) .n))))))))))))) (by rfl) (by(simp only[q2F,q2S,q3H,oN,cond_false];first|done|rfl))<;>(exact aP)
 ·let v0:List D:=[int c,int (HP (q3F c) (0,-1) es).1,int (HP (q3F c) (0,-1) es).2,bool (Ij now c)]
  let v1:List D:=[int r.st,ab (Hl Hq r.a)]
  refine zX {t:=mkT 204 0 [(4,ab (aO now)),(10,.ref (.ptr 1 0)),(11,nq),(12,int 0),(15,.ref (.vec 2 0)),(17,ab cs),(19,int e1),(21,ab (Hl HG es)),(25,.ref (.ptr 5 0)),(26,int (Ht Hp (c+1)))],h:=[.var [ab (Hl Hz w.c),ab w.p,ab (Hl HC w.s),ab (Hl Hv w.f)],.var [nq,int 0,int 0,int 0],.vec (ae (rdR rs)) 0 5,.var v1,.gone,.var [.ref (.vec 6 0),int 0,int 0,int 0],.vec (ae (Hl HG l)++[v0]) 0 4],m:=[]} HA [.st (.mask [4,10,11,12,15,17,19,21,25,26]),.st (.ren 6 0),.st (.trimV 7)] [.b true,.val (bool (Ij now c)),.sum [4,10,11,12,15,17,19,21,25,26,27,28] (HT 6) {t:=mkT 204 0 [(4,ab (aO now)),(10,.ref (.ptr 1 0)),(11,nq),(12,int 0),(15,.ref (.vec 2 0)),(17,ab cs),(19,int e1),(21,ab (Hl HG es)),(25,.ref (.ptr 5 0)),(26,int c),(27,.ref (.ptr 7 0))],h:=[.var (HI w),.var [nq,int 0,int 0,int 0],.vec (ae (rdR rs)) 0 5,.var v1,.gone,.var [.ref (.vec 6 0),int 0,int 0,int 0],.vec (ae (Hl HG l)) 0 4,.var v0],m:=[]},.b true] (.c iF (.c (@kr now hn c (jB w r rs l)) (.c N1 (.c oN (.c (show(HJ [v0] (aG 4)&&roomOk (Hn (ae (Hl HG l))+Hn [v0]) 32)=true from ?_) (.c (vMa (Hl HG l) [v0] 6 1 0) (.c (vM (rdR rs) 6 1 0) (.er [v0] (.c (show HB 7 (match 0==6 with|true=>.vec (ae (Hl HG l)++[v0]) 0 4|false=>keepX (al 6 1 0) (.var (HI w)))=true from rfl) (.c (show HB 7 (match 0+1==6 with|true=>.vec (ae (Hl HG l)++[v0]) 0 4|false=>keepX (al 6 1 0) (.var [nq,int 0,int 0,int 0]))=true from rfl) (.c (show HB 7 (match 0+1+1==6 with|true=>.vec (ae (Hl HG l)++[v0]) 0 4|false=>keepX (al 6 1 0) (.vec (ae (rdR rs)) 0 5))=true from ?_) (.c (show HB 7 (match 0+1+1+1==6 with|true=>.vec (ae (Hl HG l)++[v0]) 0 4|false=>keepX (al 6 1 0) (.var v1))=true from rfl) (.c (show HB 7 (match 0+1+1+1+1==6 with|true=>.vec (ae (Hl HG l)++[v0]) 0 4|false=>keepX (al 6 1 0) .gone)=true from rfl) (.c (show HB 7 (match 0+1+1+1+1+1==6 with|true=>.vec (ae (Hl HG l)++[v0]) 0 4|false=>keepX (al 6 1 0) (.var [.ref (.vec 6 1),int 0,int 0,int 0]))=true from rfl) (.c (iVa 7 (Hl HG l) [v0] 0 4) .n))))))))))))))) (by subst v0 v1;rfl) (by subst v0 v1;(simp only[q2F,q2S,q3H,oN,cond_true,←sq_app];first|done|rfl))<;>subst v0 v1<;>(first|exact aP|(simp[aG,D.one,IJ,roomOk];omega))
theorem q2_last{w:WorldT}{r:RecT}{e1:Int}{now cs es:List (List Dp)}{rs:List ReadT}{l:List SeenT}:(CW Hm Γ0 [] false (sub JF 2) (q2S w r e1 now cs rs es l 4096) (.exit 4) (q2E w cs r e1 rs l)):=by
 exact zx [.st (.mask [10,11,12,15,17,19,25])] [.b false] (.c (show Zd (4096<4096)=false from rfl) .n)
def q2R(N:Nat)(now:List Int)(es:List SeenT):List SeenT:=(List.range N).foldl (fun (l:List SeenT) (n:Nat)=>q2F now es (n:Int) l) []
theorem q2F_len(now:List Int)(es:List SeenT)(c:Int)(l:List SeenT):(q2F now es c l).length≤l.length+1:=by
 unfold q2F
 cases Zd ((es.foldl (q3F c) (0,-1)).1>0)||now.contains c<;>simp
theorem q2_c{N:Nat}(hN:N=4096){w:WorldT}{r:RecT}{e1:Int}{now:List Int}(hn:af now){cs:List (List Dp)}{rs:List ReadT}{es:List SeenT}(he:af es):
  CW Hm Γ0 [] false (.loop (sub JF 2)) (q2S w r e1 (aO now) cs rs (es.map HG) [] 0) (.exit 4) (q2E w cs r e1 rs (q2R N now es)):=by
 have:=I7 (P:=Hm) (Γ:=Γ0) (h0:=[]) (rd:=false) (c:=sub JF 2) (σ:=List SeenT) (ρ:=Empty) (List.range N) (fun n l=>.inl (q2F now es (n:Int) l))
  (fun i l=>q2S w r e1 (aO now) cs rs (es.map HG) l (i:Int)) (.exit 4) (fun l=>q2E w cs r e1 rs l) (fun r=>r.elim) (fun i l=>l.length≤i) (by simp) (fun r=>r.elim) ?_ ?_ [] (by simp)
 ·rw[aC (fun l n=>q2F now es ((n:Nat):Int) l)] at this
  exact this
 ·intro i n l hi hl
  obtain⟨h1,h2⟩:=Hs.1 hi
  simp only[L5] at h1
  simp only[List.getElem_range] at h2
  subst h2
  refine⟨fun s' h=>by cases h;have:=q2F_len now es (i:Int) l;omega,?_⟩
  have:=q2_body (w:=w) (r:=r) (e1:=e1) hn (cs:=cs) (rs:=rs) he (l:=l) (c:=(i:Int)) (by simp;omega) (by omega)
  rw[wrap_i64 (by omega) (by omega)] at this
  exact this
 ·intro l _
  rw[L5,hN]
  exact q2_last
theorem q2x_cw{w:WorldT}{r:RecT}{e1:Int}{now:List Int}(hn:af now){cs:List (List Dp)}{rs:List ReadT}{es:List SeenT}(he:af es):
  CW Hm Γ0 [] false (.loop (sub JF 2)) (q2S w r e1 (aO now) cs rs (es.map HG) [] 0) (.exit 4) (q2E w cs r e1 rs (q2R 4096 now es)):=q2_c rfl hn he
theorem new5_ev{n d:Int}(hn:I64 n)(hd:I64 d)(h:List Blk):(Ev Hm Γ0 132 [int n,int d] h (.tup [.agg [int (jn n d).1,int (jn n d).2.1],int (jn n d).2.2]) h):=by
 cases dO:d==0
 ·cases oN:Zd (Ht Ja (Jw (↑(HF n):Int) (↑(Io (HF d) (HF n)):Int))>1073741824)||Zd (Ht Ja (Jw (↑(HF d):Int) (↑(Io (HF d) (HF n)):Int))>1073741824)
  ·cases Is:!Zd (n<0)==Zd (d<0)
   ·refine zD (HV [H6 [int (Ht Hp (Ht Ja (Jw (↑(HF n):Int) (↑(Io (HF d) (HF n)):Int)))),int (Ht Hp (Ht Ja (Jw (↑(HF d):Int) (↑(Io (HF d) (HF n)):Int))))],int 0]) [.b false,.val (u64 (↑(HF n):Int)),.val (u64 (↑(HF d):Int)),.val (u64 (↑(Io (HF d) (HF n)):Int)),.val (u64 (↑(HF n):Int)),.val (u64 (↑(HF d):Int)),.b false,.b false] (.c dO (.c (@aY n hn ([.var [int 0,int 0]])) (.c (@aY d hd ([.var [int 0,int 0]])) (.c (@dY (HF n) (HF d) ([.var [int 0,int 0]])) (.c (@aY n hn ([.var [int 0,int 0]])) (.c (show(!Zd ((↑(Io (HF d) (HF n)):Int)=0))=true from ?_) (.c (@aY d hd ([.var [int 0,int 0]])) (.c (show(!Zd ((↑(Io (HF d) (HF n)):Int)=0))=true from ?_) (.c oN (.c Is .n)))))))))) h (by(have z0:(d==0)=false:=dO;have z1:tt n d=false:=oN;have z2:nwSg n d=false:=Is;simp only[jn,z0,z1,z2];first|done|rfl))<;>(simp_all;done)
   ·refine zD (HV [H6 [int (Ht Hp (0 - Ht Hp (Ht Ja (Jw (↑(HF n):Int) (↑(Io (HF d) (HF n)):Int))))),int (Ht Hp (Ht Ja (Jw (↑(HF d):Int) (↑(Io (HF d) (HF n)):Int))))],int 0]) [.b false,.val (u64 (↑(HF n):Int)),.val (u64 (↑(HF d):Int)),.val (u64 (↑(Io (HF d) (HF n)):Int)),.val (u64 (↑(HF n):Int)),.val (u64 (↑(HF d):Int)),.b false,.b true] (.c dO (.c (@aY n hn ([.var [int 0,int 0]])) (.c (@aY d hd ([.var [int 0,int 0]])) (.c (@dY (HF n) (HF d) ([.var [int 0,int 0]])) (.c (@aY n hn ([.var [int 0,int 0]])) (.c (show(!Zd ((↑(Io (HF d) (HF n)):Int)=0))=true from ?_) (.c (@aY d hd ([.var [int 0,int 0]])) (.c (show(!Zd ((↑(Io (HF d) (HF n)):Int)=0))=true from ?_) (.c oN (.c Is .n)))))))))) h (by(have z0:(d==0)=false:=dO;have z1:tt n d=false:=oN;have z2:nwSg n d=true:=Is;simp only[jn,z0,z1,z2];first|done|rfl))<;>(simp_all;done)
  ·refine zD (HV [H6 [int 0,int 0],int 2]) [.b false,.val (u64 (↑(HF n):Int)),.val (u64 (↑(HF d):Int)),.val (u64 (↑(Io (HF d) (HF n)):Int)),.val (u64 (↑(HF n):Int)),.val (u64 (↑(HF d):Int)),.b true] (.c dO (.c (@aY n hn ([.var [int 0,int 0]])) (.c (@aY d hd ([.var [int 0,int 0]])) (.c (@dY (HF n) (HF d) ([.var [int 0,int 0]])) (.c (@aY n hn ([.var [int 0,int 0]])) (.c (show(!Zd ((↑(Io (HF d) (HF n)):Int)=0))=true from ?_) (.c (@aY d hd ([.var [int 0,int 0]])) (.c (show(!Zd ((↑(Io (HF d) (HF n)):Int)=0))=true from ?_) (.c oN .n))))))))) h (by(have z0:(d==0)=false:=dO;have z1:tt n d=true:=oN;simp only[jn,z0,z1];first|done|rfl))<;>(simp_all;done)
 ·exact zD (HV [H6 [int 0,int 0],int 1]) [.b true] (.c dO .n) h (by(have z0:(d==0)=true:=dO;simp only[jn,z0];first|done|rfl))
theorem chk15{l:List AttT}(hs:af l)(h:List Blk):Ev Hm Γ0 130 [ab (l.map Hq)] h (int (bQ l)) h:=by rw[←vv];exact nX hs h
abbrev s5S(l:List (List Dp))(c p i:Int):AS:={t:=mkT 42 0 [(0,ab l),(6,int c),(7,int p),(8,int i)],h:=[],m:=[]}
theorem s5_body{l:List (List Dp)}{a:AttT}{c p:Int}{i:Nat}(hr:aj (i:Int) l a.row 5)(iF:Zd ((i:Int)<(l.length:Int))=true)(hw:Hp.wrap ((i:Int)+1)=((i+1:Nat):Int)):(CW Hm Γ0 [] false (sub Mu 0) (s5S l c p i) .normal (s5S l (suF (c,p) a).1 (suF (c,p) a).2 ((i+1:Nat):Int))):=by
 refine zX {t:=mkT 42 0 [(0,ab l),(6,int (Ht Hp (c+a.bY))),(7,int (Ht Hp (p+Ht Hp (a.oR*a.bY)))),(8,int (Ht Hp ((↑i:Int)+1)))],h:=[],m:=[]} HA [.st (.mask [0,6,7,8])] [.b true,.row (Hq a),.row (Hq a),.row (Hq a)] (.c iF (.c hr (.c hr (.c hr .n)))) ?_ ?_<;>(first|rfl|(rw[hw];rfl))
theorem s5_last{l:List (List Dp)}{c p:Int}{i:Nat}(iF:Zd ((i:Int)<(l.length:Int))=false):(CW Hm Γ0 [] false (sub Mu 0) (s5S l c p i) (.exit 0) {t:=mkT 42 0 [(6,int c),(7,int p)],h:=[],m:=[]}):=by
 exact zx [.st (.mask [6,7])] [.b false] (.c iF .n)
theorem s5_cw{l:List AttT}(hl:af l):CW Hm Γ0 [] false (.loop (sub Mu 0)) (s5S (l.map Hq) 0 0 0) (.exit 0) {t:=mkT 42 0 [(6,int (l.foldl suF (0,0)).1),(7,int (l.foldl suF (0,0)).2)],h:=[],m:=[]}:=by
 have:=I7 (P:=Hm) (Γ:=Γ0) (h0:=[]) (rd:=false) (c:=sub Mu 0) (σ:=Int×Int) (ρ:=Empty) l (fun a s=>.inl (suF s a))
  (fun i s=>s5S (l.map Hq) s.1 s.2 (i:Int)) (.exit 0) (fun s=>{t:=mkT 42 0 [(6,int s.1),(7,int s.2)],h:=[],m:=[]}) (fun r=>r.elim) (fun _ _=>True) (by simp) (fun r=>r.elim) ?_ ?_ (0,0) trivial
 ·rw[aC] at this
  exact this
 ·intro i a s ha _
  have hi:=(Hs.1 ha).1
  exact⟨fun _ _=>trivial,s5_body (rowAt ha rfl) (lt_len _ hi) (wrap_succ hi hl)⟩
 ·intro s _
  exact s5_last (aJ _ l)
theorem sums5_a{l:List AttT}(hl:af l)(R6:∀h,Ev Hm Γ0 130 [ab (l.map Hq)] h (int (bQ l)) h)(h:List Blk):(Ev Hm Γ0 131 [ab (l.map Hq)] h (.tup [int (gl l).1,int (gl l).2.1,int (gl l).2.2]) h):=by
 cases dO:bQ l != 0
 ·have Oj:=(@s5_cw (l) (hl))
  exact zD (HV [int (HP suF (0,0) l).1,int (HP suF (0,0) l).2,int 0]) [.val (int (bQ l)),.b false,.sum [0,6,7,8] (HT 0) {t:=mkT 42 0 [(6,int (HP suF (0,0) l).1),(7,int (HP suF (0,0) l).2)],h:=[],m:=[]}] (.c (@R6 ([])) (.c dO (.c Oj .n))) h (by simp only[gl,dO];done)
 ·exact zD (HV [int 0,int 0,int (bQ l)]) [.val (int (bQ l)),.b true] (.c (@R6 ([])) (.c dO .n)) h (by simp only[gl,dO];done)
theorem ge1(g:Int):Zd (g>0)=Zd (g≥1):=by rw[Bool.eq_iff_iff];simp;omega
abbrev e5S(l:List (List Dp))(n i:Int):AS:={t:=mkT 32 0 [(0,ab l),(5,int n),(6,int i)],h:=[],m:=[]}
theorem e5_body{l:List (List Dp)}{a:AttT}{n:Int}{i:Nat}(hr:aj (i:Int) l a.row 5)(iF:Zd ((i:Int)<(l.length:Int))=true)(hw:Hp.wrap ((i:Int)+1)=((i+1:Nat):Int)):(CW Hm Γ0 [] false (sub M9 0) (e5S l n i) .normal (e5S l (eaF n a) ((i+1:Nat):Int))):=by
 cases dO:Zd (a.oR≥1)
 ·refine zX {t:=mkT 32 0 [(0,ab l),(5,int n),(6,int (Ht Hp ((↑i:Int)+1)))],h:=[],m:=[]} HA [.st (.mask [0,5,6])] [.b true,.row (Hq a),.b false] (.c iF (.c hr (.c dO .n))) ?_ ?_<;>(first|rfl|(simp only[hw,eaF,eaG,ge1,dO];first|done|rfl))
 ·refine zX {t:=mkT 32 0 [(0,ab l),(5,int (Ht Hp (n+a.bY))),(6,int (Ht Hp ((↑i:Int)+1)))],h:=[],m:=[]} HA [.st (.mask [0,5,6])] [.b true,.row (Hq a),.b true,.row (Hq a)] (.c iF (.c hr (.c dO (.c hr .n)))) ?_ ?_<;>(first|rfl|(simp only[hw,eaF,eaG,ge1,dO];first|done|rfl))
theorem e5_last{l:List (List Dp)}{n:Int}{i:Nat}(iF:Zd ((i:Int)<(l.length:Int))=false):(CW Hm Γ0 [] false (sub M9 0) (e5S l n i) (.exit 0) {t:=mkT 32 0 [(5,int n)],h:=[],m:=[]}):=by
 exact zx [.st (.mask [5])] [.b false] (.c iF .n)
theorem e5_cw{l:List AttT}(hl:af l):CW Hm Γ0 [] false (.loop (sub M9 0)) (e5S (l.map Hq) 0 0) (.exit 0) {t:=mkT 32 0 [(5,int (l.foldl eaF 0))],h:=[],m:=[]}:=by
 have:=I7 (P:=Hm) (Γ:=Γ0) (h0:=[]) (rd:=false) (c:=sub M9 0) (σ:=Int) (ρ:=Empty) l (fun a s=>.inl (eaF s a))
  (fun i s=>e5S (l.map Hq) s (i:Int)) (.exit 0) (fun s=>{t:=mkT 32 0 [(5,int s)],h:=[],m:=[]}) (fun r=>r.elim) (fun _ _=>True) (by simp) (fun r=>r.elim) ?_ ?_ 0 trivial
 ·rw[aC] at this
  exact this
 ·intro i a s ha _
  have hi:=(Hs.1 ha).1
  exact⟨fun _ _=>trivial,e5_body (rowAt ha rfl) (lt_len _ hi) (wrap_succ hi hl)⟩
 ·intro s _
  exact e5_last (aJ _ l)
theorem earn5_a{l:List AttT}(hl:af l)(R6:∀h,Ev Hm Γ0 130 [ab (l.map Hq)] h (int (bQ l)) h)(h:List Blk):(Ev Hm Γ0 72 [ab (l.map Hq)] h (.tup [int (bl l).1,int (bl l).2]) h):=by
 cases dO:bQ l != 0
 ·have Oj:=(@e5_cw (l) (hl))
  exact zD (HV [int (HP eaF 0 l),int 0]) [.val (int (bQ l)),.b false,.sum [0,5,6] (HT 0) {t:=mkT 32 0 [(5,int (HP eaF 0 l))],h:=[],m:=[]}] (.c (@R6 ([])) (.c dO (.c Oj .n))) h (by simp only[bl,dO];done)
 ·exact zD (HV [int 0,int (bQ l)]) [.val (int (bQ l)),.b true] (.c (@R6 ([])) (.c dO .n)) h (by simp only[bl,dO];done)
theorem CT{l:List AttT}(hl:af l)(h:List Blk):Ev Hm Γ0 72 [ab (l.map Hq)] h (.tup [int (bl l).1,int (bl l).2]) h:=earn5_a hl (fun h=>chk15 hl h) h
theorem mean5_a{l:List AttT}{c p e:Int}(hc:I64 c)(hp:I64 p)(hs:∀h,Ev Hm Γ0 131 [ab (l.map Hq)] h (.tup [int c,int p,int e]) h)(h:List Blk):(Ev Hm Γ0 73 [ab (l.map Hq)] h (.tup [.agg [int (jo c p e).1,int (jo c p e).2.1],int (jo c p e).2.2]) h):=by
 cases dO:e != 0
 ·cases oN:c==0
  ·exact zD (HV [H6 [int (jn p c).1,int (jn p c).2.1],int (jn p c).2.2]) [.val (HV [int c,int p,int e]),.b false,.b false,.val (HV [H6 [int (jn p c).1,int (jn p c).2.1],int (jn p c).2.2])] (.c (@hs ([.var [int 0,int 0]])) (.c dO (.c oN (.c (@new5_ev p c hp hc ([.var [int 0,int 0]])) .n)))) h (by simp only[jo,dO,oN];done)
  ·exact zD (HV [H6 [int 0,int 1],int 0]) [.val (HV [int c,int p,int e]),.b false,.b true] (.c (@hs ([.var [int 0,int 0]])) (.c dO (.c oN .n))) h (by simp only[jo,dO,oN];done)
 ·exact zD (HV [H6 [int 0,int 0],int e]) [.val (HV [int c,int p,int e]),.b true] (.c (@hs ([.var [int 0,int 0]])) (.c dO .n)) h (by simp only[jo,dO];done)
theorem CU{l:List AttT}(hl:af l)(h:List Blk):Ev Hm Γ0 73 [ab (l.map Hq)] h (.tup [.agg [int (b8 l).1,int (b8 l).2.1],int (b8 l).2.2]) h :=
 mean5_a (iB l).1 (iB l).2 (fun h=>sums5_a hl (fun h=>chk15 hl h) h) h
end Go.Vi
