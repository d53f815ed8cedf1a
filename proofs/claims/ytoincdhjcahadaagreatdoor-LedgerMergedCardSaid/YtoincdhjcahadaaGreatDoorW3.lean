/- LedgerMerged: part of the proof: contracts of the functions that the law reaches, and the law. No conditions beyond the given statement's own. -/
import Derived.Test.YtoincdhjcahadaaGreatDoorW2
import Derived.WalkKit
import Derived.LaidEql
import Derived.Stop.Asserts
import Derived.RowKitTokens
open Decidable renaming decide → Qd
open Go.Proofs.Tryz renaming prog → Ae, f69 → CK, underlying129 → F8
open Go.Vi.BuT renaming row → Ai
open Go.Vi.Ev renaming castH → AB, sym0 → AF, glob0 → AJ
open Go.Exit renaming exit → A1
open List renaming length → Ag, map → Ad
open Go.Vi.Dp renaming v → AN
open Go.Value renaming tuple → AD, int → ED, iface → FJ
open Bool renaming true_and → BI, and_eq_true → Am
open Go renaming method → FI
open Go.Sem renaming run_bind → AE
open Go.Result renaming andThen → BF
open Nat renaming lt_or_ge → EE, lt_of_lt_of_le → B4
open Go.World renaming cell? → D7, cell?_alloc_lt → BS, frozen?_alloc_old → CV
open Array renaming getElem?_eq_none → C4
open Go.Vi.MeT renaming row → Ar
open Go.Vi.GrT renaming row → Ap
open ByteArray renaming size → EF
open Go.IntKind renaming i64 → Ak, wrap → Av
open BitVec renaming ofInt → Cd, toNat → Em
open Int renaming toNat → AM
open Go.Vi.D renaming agg → Al
open Go.Vi.EntT renaming row → Ax
open Go.Fn renaming func → Aw
open Go Go.Proofs
namespace Go.Vi
set_option maxRecDepth 100000
set_option maxHeartbeats 4000000
def vz(pre:List BuT):List BuT→Bool
 | []=>true
 | c::l=>buB c&&!pre.any (vv c)&&vz (pre++[c]) l
theorem j3{k:Int}{r:RqT}{a b:Int}{g kk:Bool}{n:Int}(hl:aq r.chs)(ok:Bool):CW Ae Γq [] false (.loop (sub CK 0)) (rlS k r a b g kk n ok 0) (.exit 0) (rlE k r a b g kk n (ok&&vz [] r.chs)):=by
 refine CW.loop (ι:={p:Nat×Bool // p.1≤r.chs.length∧(ok&&vz [] r.chs)=(p.2&&vz (r.chs.take p.1) (r.chs.drop p.1))}) (fun p=>rlS k r a b g kk n p.1.2 (p.1.1:Int)) (fun _=>(.exit 0,rlE k r a b g kk n (ok&&vz [] r.chs))) (fun p=>r.chs.length - p.1.1) ?_ ⟨(0,ok),by simp,by simp⟩
 rintro⟨⟨i,o⟩,hi,ho⟩
 simp only at hi ho
 by_cases hlt:i<r.chs.length
 ·have hc:r.chs[i]? = some r.chs[i]:=List.getElem?_eq_getElem hlt
  have hd:r.chs.drop i=r.chs[i]::r.chs.drop (i+1):=List.drop_eq_getElem_cons hlt
  have ht:r.chs.take (i+1)=r.chs.take i++[r.chs[i]]:=by rw[List.take_add_one,hc];rfl
  have hr:=rowAt (row:=Ai) (sz:=2) hc rfl
  have hlt2:=lt_len Ai hlt
  have hw:=wrap_succ hlt hl
  have hsl:i≤(r.chs.map Ai).length:=by rw[List.length_map];omega
  have hct:∀h,Ev Ae Γ0 92 [aa ((r.chs.map Ai).take i),ag r.chs[i].row] h (bool ((r.chs.take i).any (vv r.chs[i]))) h:=by
   intro h
   rw[←List.map_take]
   exact vw (by unfold aq at *;rw[List.length_take];omega) h
  rw[hd] at ho
  simp only[vz] at ho
  rw[←ht] at ho
  cases o with
  | false=>exact .inl ⟨⟨(i+1,false),by simp;omega,by rw[ho];simp⟩,by simp;omega,rfl,rl_f hr hlt2 hw⟩
  | true =>
   cases hf:buB r.chs[i] with
   | false=>exact .inl ⟨⟨(i+1,false),by simp;omega,by rw[ho,hf];simp⟩,by simp;omega,rfl,rl_1 hr hlt2 hw hf⟩
   | true =>
    cases ha:(r.chs.take i).any (vv r.chs[i]) with
    | true=>rw[ha] at hct;exact .inl ⟨⟨(i+1,false),by simp;omega,by rw[ho,hf,ha];simp⟩,by simp;omega,rfl,rl_2 hr hlt2 hw hf hsl hct⟩
    | false=>rw[ha] at hct;exact .inl ⟨⟨(i+1,true),by simp;omega,by rw[ho,hf,ha];simp⟩,by simp;omega,rfl,rl_3 hr hlt2 hw hf hsl hct⟩
 ·have:i=r.chs.length:=by omega
  subst this
  rw[List.drop_length] at ho
  simp only[vz,Bool.and_true] at ho
  have h2:=yy (k:=k) (r:=r) (a:=a) (b:=b) (g:=g) (kk:=kk) (n:=n) (ok:=o) (bE Ai r.chs)
  refine .inr ⟨by simp,?_⟩
  show CW Ae Γq [] false (sub CK 0) (rlS k r a b g kk n o (r.chs.length:Int)) (.exit 0) (rlE k r a b g kk n (ok&&vz [] r.chs))
  rw[ho]
  exact h2
theorem yz{r:RqT}(hh:(Qd (r.campus<0)||Qd (r.campus≥7)||Qd (r.no<1)||Qd (r.no>1048576)||Qd (r.st<0)||Qd (r.st≥20000)||Qd (r.time<1)||Qd (r.time>1048576)||Qd (r.kind<1)||Qd (r.kind>5))=true)(h:List Blk):(Ev Ae Γq 69 [.agg (rqD r.kind r)] h (int 290) h):=by
 exact AB (AF (d:=int 290) pok [.b true] (by kernel_rfl) (.c hh .n) rfl rfl h) (by rfl) (by rfl)
def rqR1(r:RqT)(ok:Bool):Int:=match !(ok&&(r.gsec==0&&(r.glab==0&&true))&&Qd (r.key≥0)&&Qd (r.key≤1048576)) with
 | true=>290
 | false=>0
theorem rq1_a{r:RqT}{ok:Bool}(hh:(Qd (r.campus<0)||Qd (r.campus≥7)||Qd (r.no<1)||Qd (r.no>1048576)||Qd (r.st<0)||Qd (r.st≥20000)||Qd (r.time<1)||Qd (r.time>1048576)||Qd ((1:Int)<1)||Qd ((1:Int)>5))=false)(hcw:CW Ae Γq [] false (.loop (sub CK 0)) (rlS 1 r 1 8 false true ((r.chs.map Ai).length:Int) (Qd (((r.chs.map Ai).length:Int)≥1)&&Qd (((r.chs.map Ai).length:Int)≤8)) 0) (.exit 0) (rlE 1 r 1 8 false true ((r.chs.map Ai).length:Int) ok))(h:List Blk):(Ev Ae Γq 69 [.agg (rqD 1 r)] h (int (rqR1 r ok)) h):=by
 have hl0:=(@hcw)
 cases hc1:!(ok&&(r.gsec==0&&(r.glab==0&&true))&&Qd (r.key≥0)&&Qd (r.key≤1048576))
 ·exact AB (AF (d:=int 0) pok [.b false,.sum [1,3,4,5,74,75,76] (A1 0) {t:=mkT 147 0 [(1,.ref (.ptr 0 0)),(3,.ref (.ptr 1 0)),(4,int (↑(Ag (Ad Ai r.chs)):Int)),(5,bool ok)],h:=[.var [int r.campus,int r.no,int r.st,int 1,int r.time,aa (Ad Ai r.chs),int r.gsec,int r.glab,int r.key],.var [int 1,int 8,bool false,bool true]],m:=[]},.b false,.b true,.b false] (by kernel_rfl) (.c hh (.c (show inR 1 6=true from rfl) (.e (.ref (.ptr 0 3)) (.e (.ref (.ptr 0 3)) (.e (int 1) (.e (int 1) (.e (.ref (.ptr 0 5)) (.e (.ref (.ptr 0 5)) (.e (.ref (.ptr 0 5)) (.e (aa (Ad Ai r.chs)) (.e (aa (Ad Ai r.chs)) (.e (aa (Ad Ai r.chs)) (.c hl0 (.c (show false=false from rfl) (.c (show true=true from rfl) (.c hc1 .n)))))))))))))))) rfl rfl h) (by first|rfl|(simp only[rqR1,hc1];first|done|rfl)) (by rfl)
 ·exact AB (AF (d:=int 290) pok [.b false,.sum [1,3,4,5,74,75,76] (A1 0) {t:=mkT 147 0 [(1,.ref (.ptr 0 0)),(3,.ref (.ptr 1 0)),(4,int (↑(Ag (Ad Ai r.chs)):Int)),(5,bool ok)],h:=[.var [int r.campus,int r.no,int r.st,int 1,int r.time,aa (Ad Ai r.chs),int r.gsec,int r.glab,int r.key],.var [int 1,int 8,bool false,bool true]],m:=[]},.b false,.b true,.b true] (by kernel_rfl) (.c hh (.c (show inR 1 6=true from rfl) (.e (.ref (.ptr 0 3)) (.e (.ref (.ptr 0 3)) (.e (int 1) (.e (int 1) (.e (.ref (.ptr 0 5)) (.e (.ref (.ptr 0 5)) (.e (.ref (.ptr 0 5)) (.e (aa (Ad Ai r.chs)) (.e (aa (Ad Ai r.chs)) (.e (aa (Ad Ai r.chs)) (.c hl0 (.c (show false=false from rfl) (.c (show true=true from rfl) (.c hc1 .n)))))))))))))))) rfl rfl h) (by first|rfl|(simp only[rqR1,hc1];first|done|rfl)) (by rfl)
theorem rq2_f{r:RqT}(hh:(Qd (r.campus<0)||Qd (r.campus≥7)||Qd (r.no<1)||Qd (r.no>1048576)||Qd (r.st<0)||Qd (r.st≥20000)||Qd (r.time<1)||Qd (r.time>1048576)||Qd ((2:Int)<1)||Qd ((2:Int)>5))=false)(hcw:CW Ae Γq [] false (.loop (sub CK 0)) (rlS 2 r 0 0 true false ((r.chs.map Ai).length:Int) (Qd (((r.chs.map Ai).length:Int)≥0)&&Qd (((r.chs.map Ai).length:Int)≤0)) 0) (.exit 0) (rlE 2 r 0 0 true false ((r.chs.map Ai).length:Int) false))(h:List Blk):(Ev Ae Γq 69 [.agg (rqD 2 r)] h (int 290) h):=by
 have hl0:=(@hcw)
 exact AB (AF (d:=int 290) pok [.b false,.sum [1,3,4,5,74,75,76] (A1 0) {t:=mkT 147 0 [(1,.ref (.ptr 0 0)),(3,.ref (.ptr 1 0)),(4,int (↑(Ag (Ad Ai r.chs)):Int)),(5,bool false)],h:=[.var [int r.campus,int r.no,int r.st,int 2,int r.time,aa (Ad Ai r.chs),int r.gsec,int r.glab,int r.key],.var [int 0,int 0,bool true,bool false]],m:=[]},.b true,.g false,.g false,.g false,.ov 103 (bool false),.g false,.g false,.g false,.g false,.g false,.g false,.g false,.g false,.g false,.g false,.g false,.g false,.g false,.ov 118 (bool false),.b false,.b true] (by kernel_rfl) (.c hh (.c (show inR 2 6=true from rfl) (.e (.ref (.ptr 0 3)) (.e (.ref (.ptr 0 3)) (.e (int 2) (.e (int 2) (.e (.ref (.ptr 0 5)) (.e (.ref (.ptr 0 5)) (.e (.ref (.ptr 0 5)) (.e (aa (Ad Ai r.chs)) (.e (aa (Ad Ai r.chs)) (.e (aa (Ad Ai r.chs)) (.c hl0 (.c (show true=true from rfl) (.c (show(false==true)=false from rfl) (.c (show(false==true)=false from rfl) (.c (show(false==true)=false from rfl) (.c (show ar (bool false) (D.p (AN (AD {toList:=[]}))) (bool false) (bool false) from(aO rfl rfl)) (.c (show(false==true)=false from rfl) (.c (show(false==true)=false from rfl) (.c (show(false==true)=false from rfl) (.c (show false=false from rfl) (.c (show false=false from rfl) (.c (show false=false from rfl) (.c (show false=false from rfl) (.c (show false=false from rfl) (.c (show false=false from rfl) (.c (show false=false from rfl) (.c (show false=false from rfl) (.c (show false=false from rfl) (.c (show(false==true)=false from rfl) (.c (show ar (bool false) (D.p (AN (AD {toList:=[]}))) (bool false) (bool false) from(aO rfl rfl)) (.c (show false=false from rfl) (.c (show(!(false&&r.key==0))=true from rfl) .n)))))))))))))))))))))))))))))))))) rfl rfl h) (by rfl) (by rfl)
def rqR2(r:RqT)(gb:Bool):Int:=match !(gb&&r.key==0) with
 | true=>290
 | false=>0
noncomputable abbrev eU(r:RqT):List Blk:=[.var [int r.campus,int r.no,int r.st,int 2,int r.time,aa (Ad Ai r.chs),int r.gsec,int r.glab,int r.key],.var [int 0,int 0,bool true,bool false]]
theorem rq2_t{r:RqT}{gb:Bool}(hh:(Qd (r.campus<0)||Qd (r.campus≥7)||Qd (r.no<1)||Qd (r.no>1048576)||Qd (r.st<0)||Qd (r.st≥20000)||Qd (r.time<1)||Qd (r.time>1048576)||Qd ((2:Int)<1)||Qd ((2:Int)>5))=false)(hcw:CW Ae Γq [] false (.loop (sub CK 0)) (rlS 2 r 0 0 true false ((r.chs.map Ai).length:Int) (Qd (((r.chs.map Ai).length:Int)≥0)&&Qd (((r.chs.map Ai).length:Int)≤0)) 0) (.exit 0) (rlE 2 r 0 0 true false ((r.chs.map Ai).length:Int) true))(hgv:∀h,Ev Ae Γ0 91 [.agg [int r.gsec,int r.glab]] h (bool gb) h)(hn:(((r.chs.map Ai).length:Int)==0)=true)(h:List Blk):(Ev Ae Γq 69 [.agg (rqD 2 r)] h (int (rqR2 r gb)) h):=by
 have hl0:=(@hcw)
 cases hc1:gb
 ·exact AB (AF (d:=int 290) pok [.b false,.sum [1,3,4,5,74,75,76] (A1 0) {t:=mkT 147 0 [(1,.ref (.ptr 0 0)),(3,.ref (.ptr 1 0)),(4,int (↑(Ag (Ad Ai r.chs)):Int)),(5,bool true)],h:=(eU r),m:=[]},.b true,.g true,.g true,.g true,.val (bool gb),.ov 103 (bool gb),.g false,.g false,.g false,.g false,.g false,.g false,.g false,.g false,.g false,.g false,.g false,.g false,.g false,.ov 118 (bool false),.b false,.b true] (by kernel_rfl) (.c hh (.c (show inR 2 6=true from rfl) (.e (.ref (.ptr 0 3)) (.e (.ref (.ptr 0 3)) (.e (int 2) (.e (int 2) (.e (.ref (.ptr 0 5)) (.e (.ref (.ptr 0 5)) (.e (.ref (.ptr 0 5)) (.e (aa (Ad Ai r.chs)) (.e (aa (Ad Ai r.chs)) (.e (aa (Ad Ai r.chs)) (.c hl0 (.c (show true=true from rfl) (.c (show(true==true)=true from rfl) (.c (show(true==true)=true from rfl) (.c (show(true==true)=true from rfl) (.c (AJ (Γ':=Γq) (@hgv ((eU r)))) (.c (show ar (bool true) (bool gb) (bool false) (bool gb) from(ay rfl rfl)) (.c (show(gb==true)=false from(by rw[hc1]<;>rfl)) (.c (show(gb==true)=false from(by rw[hc1]<;>rfl)) (.c (show(gb==true)=false from(by rw[hc1]<;>rfl)) (.c (show false=false from rfl) (.c (show false=false from rfl) (.c (show false=false from rfl) (.c (show false=false from rfl) (.c (show false=false from rfl) (.c (show false=false from rfl) (.c (show false=false from rfl) (.c (show false=false from rfl) (.c (show false=false from rfl) (.c (show(gb==true)=false from(by rw[hc1]<;>rfl)) (.c (show ar (bool gb) (D.p (AN (AD {toList:=[]}))) (bool false) (bool false) from(aO hc1 rfl)) (.c (show false=false from rfl) (.c (show(!(false&&r.key==0))=true from rfl) .n))))))))))))))))))))))))))))))))))) rfl rfl h) (by first|rfl|(simp only[rqR2,hc1];first|done|rfl)) (by rfl)
 ·cases hc2:!(true&&r.key==0)
  ·exact AB (AF (d:=int 0) pok [.b false,.sum [1,3,4,5,74,75,76] (A1 0) {t:=mkT 147 0 [(1,.ref (.ptr 0 0)),(3,.ref (.ptr 1 0)),(4,int (↑(Ag (Ad Ai r.chs)):Int)),(5,bool true)],h:=(eU r),m:=[]},.b true,.g true,.g true,.g true,.val (bool gb),.ov 103 (bool gb),.g true,.g true,.g true,.g false,.g false,.g false,.g false,.g false,.g false,.g false,.g false,.g false,.g true,.ov 117 (bool true),.ov 118 (bool true),.b false,.b false] (by kernel_rfl) (.c hh (.c (show inR 2 6=true from rfl) (.e (.ref (.ptr 0 3)) (.e (.ref (.ptr 0 3)) (.e (int 2) (.e (int 2) (.e (.ref (.ptr 0 5)) (.e (.ref (.ptr 0 5)) (.e (.ref (.ptr 0 5)) (.e (aa (Ad Ai r.chs)) (.e (aa (Ad Ai r.chs)) (.e (aa (Ad Ai r.chs)) (.c hl0 (.c (show true=true from rfl) (.c (show(true==true)=true from rfl) (.c (show(true==true)=true from rfl) (.c (show(true==true)=true from rfl) (.c (AJ (Γ':=Γq) (@hgv ((eU r)))) (.c (show ar (bool true) (bool gb) (bool false) (bool gb) from(ay rfl rfl)) (.c (show(gb==true)=true from(by rw[hc1]<;>rfl)) (.c (show(gb==true)=true from(by rw[hc1]<;>rfl)) (.c (show(gb==true)=true from(by rw[hc1]<;>rfl)) (.c (show(((↑(Ag (Ad Ai r.chs)):Int)==0)==false)=false from(by rw[hn]<;>rfl)) (.c (show(((↑(Ag (Ad Ai r.chs)):Int)==0)==false)=false from(by rw[hn]<;>rfl)) (.c (show(((↑(Ag (Ad Ai r.chs)):Int)==0)==false)=false from(by rw[hn]<;>rfl)) (.c (show(((↑(Ag (Ad Ai r.chs)):Int)==0)==false)=false from(by rw[hn]<;>rfl)) (.c (show(((↑(Ag (Ad Ai r.chs)):Int)==0)==false)=false from(by rw[hn]<;>rfl)) (.c (show(((↑(Ag (Ad Ai r.chs)):Int)==0)==false)=false from(by rw[hn]<;>rfl)) (.c (show(((↑(Ag (Ad Ai r.chs)):Int)==0)==false)=false from(by rw[hn]<;>rfl)) (.c (show(((↑(Ag (Ad Ai r.chs)):Int)==0)==false)=false from(by rw[hn]<;>rfl)) (.c (show(((↑(Ag (Ad Ai r.chs)):Int)==0)==false)=false from(by rw[hn]<;>rfl)) (.c (show(gb==true)=true from(by rw[hc1]<;>rfl)) (.c (show ar (bool ((↑(Ag (Ad Ai r.chs)):Int)==0)) (bool true) (D.p (AN (AD {toList:=[]}))) (bool true) from(ay hn rfl)) (.c (show ar (bool gb) (bool true) (bool false) (bool true) from(ay hc1 rfl)) (.c (show false=false from rfl) (.c hc2 .n)))))))))))))))))))))))))))))))))))) rfl rfl h) (by first|rfl|(simp only[rqR2,hc2];first|done|rfl)) (by rfl)
  ·exact AB (AF (d:=int 290) pok [.b false,.sum [1,3,4,5,74,75,76] (A1 0) {t:=mkT 147 0 [(1,.ref (.ptr 0 0)),(3,.ref (.ptr 1 0)),(4,int (↑(Ag (Ad Ai r.chs)):Int)),(5,bool true)],h:=(eU r),m:=[]},.b true,.g true,.g true,.g true,.val (bool gb),.ov 103 (bool gb),.g true,.g true,.g true,.g false,.g false,.g false,.g false,.g false,.g false,.g false,.g false,.g false,.g true,.ov 117 (bool true),.ov 118 (bool true),.b false,.b true] (by kernel_rfl) (.c hh (.c (show inR 2 6=true from rfl) (.e (.ref (.ptr 0 3)) (.e (.ref (.ptr 0 3)) (.e (int 2) (.e (int 2) (.e (.ref (.ptr 0 5)) (.e (.ref (.ptr 0 5)) (.e (.ref (.ptr 0 5)) (.e (aa (Ad Ai r.chs)) (.e (aa (Ad Ai r.chs)) (.e (aa (Ad Ai r.chs)) (.c hl0 (.c (show true=true from rfl) (.c (show(true==true)=true from rfl) (.c (show(true==true)=true from rfl) (.c (show(true==true)=true from rfl) (.c (AJ (Γ':=Γq) (@hgv ((eU r)))) (.c (show ar (bool true) (bool gb) (bool false) (bool gb) from(ay rfl rfl)) (.c (show(gb==true)=true from(by rw[hc1]<;>rfl)) (.c (show(gb==true)=true from(by rw[hc1]<;>rfl)) (.c (show(gb==true)=true from(by rw[hc1]<;>rfl)) (.c (show(((↑(Ag (Ad Ai r.chs)):Int)==0)==false)=false from(by rw[hn]<;>rfl)) (.c (show(((↑(Ag (Ad Ai r.chs)):Int)==0)==false)=false from(by rw[hn]<;>rfl)) (.c (show(((↑(Ag (Ad Ai r.chs)):Int)==0)==false)=false from(by rw[hn]<;>rfl)) (.c (show(((↑(Ag (Ad Ai r.chs)):Int)==0)==false)=false from(by rw[hn]<;>rfl)) (.c (show(((↑(Ag (Ad Ai r.chs)):Int)==0)==false)=false from(by rw[hn]<;>rfl)) (.c (show(((↑(Ag (Ad Ai r.chs)):Int)==0)==false)=false from(by rw[hn]<;>rfl)) (.c (show(((↑(Ag (Ad Ai r.chs)):Int)==0)==false)=false from(by rw[hn]<;>rfl)) (.c (show(((↑(Ag (Ad Ai r.chs)):Int)==0)==false)=false from(by rw[hn]<;>rfl)) (.c (show(((↑(Ag (Ad Ai r.chs)):Int)==0)==false)=false from(by rw[hn]<;>rfl)) (.c (show(gb==true)=true from(by rw[hc1]<;>rfl)) (.c (show ar (bool ((↑(Ag (Ad Ai r.chs)):Int)==0)) (bool true) (D.p (AN (AD {toList:=[]}))) (bool true) from(ay hn rfl)) (.c (show ar (bool gb) (bool true) (bool false) (bool true) from(ay hc1 rfl)) (.c (show false=false from rfl) (.c hc2 .n)))))))))))))))))))))))))))))))))))) rfl rfl h) (by first|rfl|(simp only[rqR2,hc2];first|done|rfl)) (by rfl)
theorem rq3_f{r:RqT}(hh:(Qd (r.campus<0)||Qd (r.campus≥7)||Qd (r.no<1)||Qd (r.no>1048576)||Qd (r.st<0)||Qd (r.st≥20000)||Qd (r.time<1)||Qd (r.time>1048576)||Qd ((3:Int)<1)||Qd ((3:Int)>5))=false)(hcw:CW Ae Γq [] false (.loop (sub CK 0)) (rlS 3 r 1 1 true false ((r.chs.map Ai).length:Int) (Qd (((r.chs.map Ai).length:Int)≥1)&&Qd (((r.chs.map Ai).length:Int)≤1)) 0) (.exit 0) (rlE 3 r 1 1 true false ((r.chs.map Ai).length:Int) false))(h:List Blk):(Ev Ae Γq 69 [.agg (rqD 3 r)] h (int 290) h):=by
 have hl0:=(@hcw)
 exact AB (AF (d:=int 290) pok [.b false,.sum [1,3,4,5,74,75,76] (A1 0) {t:=mkT 147 0 [(1,.ref (.ptr 0 0)),(3,.ref (.ptr 1 0)),(4,int (↑(Ag (Ad Ai r.chs)):Int)),(5,bool false)],h:=[.var [int r.campus,int r.no,int r.st,int 3,int r.time,aa (Ad Ai r.chs),int r.gsec,int r.glab,int r.key],.var [int 1,int 1,bool true,bool false]],m:=[]},.b true,.g false,.g false,.g false,.ov 103 (bool false),.g false,.g false,.g false,.g false,.g false,.g false,.g false,.g false,.g false,.g false,.g false,.g false,.g false,.ov 118 (bool false),.b false,.b true] (by kernel_rfl) (.c hh (.c (show inR 3 6=true from rfl) (.e (.ref (.ptr 0 3)) (.e (.ref (.ptr 0 3)) (.e (int 3) (.e (int 3) (.e (.ref (.ptr 0 5)) (.e (.ref (.ptr 0 5)) (.e (.ref (.ptr 0 5)) (.e (aa (Ad Ai r.chs)) (.e (aa (Ad Ai r.chs)) (.e (aa (Ad Ai r.chs)) (.c hl0 (.c (show true=true from rfl) (.c (show(false==true)=false from rfl) (.c (show(false==true)=false from rfl) (.c (show(false==true)=false from rfl) (.c (show ar (bool false) (D.p (AN (AD {toList:=[]}))) (bool false) (bool false) from(aO rfl rfl)) (.c (show(false==true)=false from rfl) (.c (show(false==true)=false from rfl) (.c (show(false==true)=false from rfl) (.c (show false=false from rfl) (.c (show false=false from rfl) (.c (show false=false from rfl) (.c (show false=false from rfl) (.c (show false=false from rfl) (.c (show false=false from rfl) (.c (show false=false from rfl) (.c (show false=false from rfl) (.c (show false=false from rfl) (.c (show(false==true)=false from rfl) (.c (show ar (bool false) (D.p (AN (AD {toList:=[]}))) (bool false) (bool false) from(aO rfl rfl)) (.c (show false=false from rfl) (.c (show(!(false&&r.key==0))=true from rfl) .n)))))))))))))))))))))))))))))))))) rfl rfl h) (by rfl) (by rfl)
def rqR3(r:RqT)(gb:Bool)(c:BuT):Int:=match !(gb&&c.sec != r.gsec&&r.key==0) with
 | true=>290
 | false=>0
noncomputable abbrev eV(r:RqT):List Blk:=[.var [int r.campus,int r.no,int r.st,int 3,int r.time,aa (Ad Ai r.chs),int r.gsec,int r.glab,int r.key],.var [int 1,int 1,bool true,bool false]]
theorem rq3_t{r:RqT}{gb:Bool}(hh:(Qd (r.campus<0)||Qd (r.campus≥7)||Qd (r.no<1)||Qd (r.no>1048576)||Qd (r.st<0)||Qd (r.st≥20000)||Qd (r.time<1)||Qd (r.time>1048576)||Qd ((3:Int)<1)||Qd ((3:Int)>5))=false)(hcw:CW Ae Γq [] false (.loop (sub CK 0)) (rlS 3 r 1 1 true false ((r.chs.map Ai).length:Int) (Qd (((r.chs.map Ai).length:Int)≥1)&&Qd (((r.chs.map Ai).length:Int)≤1)) 0) (.exit 0) (rlE 3 r 1 1 true false ((r.chs.map Ai).length:Int) true))(hgv:∀h,Ev Ae Γ0 91 [.agg [int r.gsec,int r.glab]] h (bool gb) h){c:BuT}(hn:(((r.chs.map Ai).length:Int)==0)=false)(hc:ak 0 (r.chs.map Ai) c.row 2)(h:List Blk):(Ev Ae Γq 69 [.agg (rqD 3 r)] h (int (rqR3 r gb c)) h):=by
 have hl0:=(@hcw)
 cases hc1:gb
 ·exact AB (AF (d:=int 290) pok [.b false,.sum [1,3,4,5,74,75,76] (A1 0) {t:=mkT 147 0 [(1,.ref (.ptr 0 0)),(3,.ref (.ptr 1 0)),(4,int (↑(Ag (Ad Ai r.chs)):Int)),(5,bool true)],h:=(eV r),m:=[]},.b true,.g true,.g true,.g true,.val (bool gb),.ov 103 (bool gb),.g false,.g false,.g false,.g false,.g false,.g false,.g false,.g false,.g false,.g false,.g false,.g false,.g false,.ov 118 (bool false),.b false,.b true] (by kernel_rfl) (.c hh (.c (show inR 3 6=true from rfl) (.e (.ref (.ptr 0 3)) (.e (.ref (.ptr 0 3)) (.e (int 3) (.e (int 3) (.e (.ref (.ptr 0 5)) (.e (.ref (.ptr 0 5)) (.e (.ref (.ptr 0 5)) (.e (aa (Ad Ai r.chs)) (.e (aa (Ad Ai r.chs)) (.e (aa (Ad Ai r.chs)) (.c hl0 (.c (show true=true from rfl) (.c (show(true==true)=true from rfl) (.c (show(true==true)=true from rfl) (.c (show(true==true)=true from rfl) (.c (AJ (Γ':=Γq) (@hgv ((eV r)))) (.c (show ar (bool true) (bool gb) (bool false) (bool gb) from(ay rfl rfl)) (.c (show(gb==true)=false from(by rw[hc1]<;>rfl)) (.c (show(gb==true)=false from(by rw[hc1]<;>rfl)) (.c (show(gb==true)=false from(by rw[hc1]<;>rfl)) (.c (show false=false from rfl) (.c (show false=false from rfl) (.c (show false=false from rfl) (.c (show false=false from rfl) (.c (show false=false from rfl) (.c (show false=false from rfl) (.c (show false=false from rfl) (.c (show false=false from rfl) (.c (show false=false from rfl) (.c (show(gb==true)=false from(by rw[hc1]<;>rfl)) (.c (show ar (bool gb) (D.p (AN (AD {toList:=[]}))) (bool false) (bool false) from(aO hc1 rfl)) (.c (show false=false from rfl) (.c (show(!(false&&r.key==0))=true from rfl) .n))))))))))))))))))))))))))))))))))) rfl rfl h) (by first|rfl|(simp only[rqR3,hc1,BI,Bool.false_and];first|done|rfl)) (by rfl)
 ·cases hc2:!(c.sec != r.gsec&&r.key==0)
  ·exact AB (AF (d:=int 0) pok [.b false,.sum [1,3,4,5,74,75,76] (A1 0) {t:=mkT 147 0 [(1,.ref (.ptr 0 0)),(3,.ref (.ptr 1 0)),(4,int (↑(Ag (Ad Ai r.chs)):Int)),(5,bool true)],h:=(eV r),m:=[]},.b true,.g true,.g true,.g true,.val (bool gb),.ov 103 (bool gb),.g true,.g true,.g true,.g true,.g true,.g true,.row [vi c.sec,vi c.lab],.g true,.g true,.g true,.g true,.g true,.g true,.g true,.ov 117 (bool (c.sec != r.gsec)),.ov 118 (bool (c.sec != r.gsec)),.b false,.b false] (by kernel_rfl) (.c hh (.c (show inR 3 6=true from rfl) (.e (.ref (.ptr 0 3)) (.e (.ref (.ptr 0 3)) (.e (int 3) (.e (int 3) (.e (.ref (.ptr 0 5)) (.e (.ref (.ptr 0 5)) (.e (.ref (.ptr 0 5)) (.e (aa (Ad Ai r.chs)) (.e (aa (Ad Ai r.chs)) (.e (aa (Ad Ai r.chs)) (.c hl0 (.c (show true=true from rfl) (.c (show(true==true)=true from rfl) (.c (show(true==true)=true from rfl) (.c (show(true==true)=true from rfl) (.c (AJ (Γ':=Γq) (@hgv ((eV r)))) (.c (show ar (bool true) (bool gb) (bool false) (bool gb) from(ay rfl rfl)) (.c (show(gb==true)=true from(by rw[hc1]<;>rfl)) (.c (show(gb==true)=true from(by rw[hc1]<;>rfl)) (.c (show(gb==true)=true from(by rw[hc1]<;>rfl)) (.c (show(((↑(Ag (Ad Ai r.chs)):Int)==0)==false)=true from(by rw[hn]<;>rfl)) (.c (show(((↑(Ag (Ad Ai r.chs)):Int)==0)==false)=true from(by rw[hn]<;>rfl)) (.c (show(((↑(Ag (Ad Ai r.chs)):Int)==0)==false)=true from(by rw[hn]<;>rfl)) (.c hc (.c (show(((↑(Ag (Ad Ai r.chs)):Int)==0)==false)=true from(by rw[hn]<;>rfl)) (.c (show(((↑(Ag (Ad Ai r.chs)):Int)==0)==false)=true from(by rw[hn]<;>rfl)) (.c (show(((↑(Ag (Ad Ai r.chs)):Int)==0)==false)=true from(by rw[hn]<;>rfl)) (.c (show(((↑(Ag (Ad Ai r.chs)):Int)==0)==false)=true from(by rw[hn]<;>rfl)) (.c (show(((↑(Ag (Ad Ai r.chs)):Int)==0)==false)=true from(by rw[hn]<;>rfl)) (.c (show(((↑(Ag (Ad Ai r.chs)):Int)==0)==false)=true from(by rw[hn]<;>rfl)) (.c (show(gb==true)=true from(by rw[hc1]<;>rfl)) (.c (show ar (bool ((↑(Ag (Ad Ai r.chs)):Int)==0)) (bool true) (bool (c.sec != r.gsec)) (bool (c.sec != r.gsec)) from(aO hn rfl)) (.c (show ar (bool gb) (bool (c.sec != r.gsec)) (bool false) (bool (c.sec != r.gsec)) from(ay hc1 rfl)) (.c (show false=false from rfl) (.c hc2 .n))))))))))))))))))))))))))))))))))))) rfl rfl h) (by first|rfl|(simp only[rqR3,hc2,BI];first|done|rfl)) (by rfl)
  ·exact AB (AF (d:=int 290) pok [.b false,.sum [1,3,4,5,74,75,76] (A1 0) {t:=mkT 147 0 [(1,.ref (.ptr 0 0)),(3,.ref (.ptr 1 0)),(4,int (↑(Ag (Ad Ai r.chs)):Int)),(5,bool true)],h:=(eV r),m:=[]},.b true,.g true,.g true,.g true,.val (bool gb),.ov 103 (bool gb),.g true,.g true,.g true,.g true,.g true,.g true,.row [vi c.sec,vi c.lab],.g true,.g true,.g true,.g true,.g true,.g true,.g true,.ov 117 (bool (c.sec != r.gsec)),.ov 118 (bool (c.sec != r.gsec)),.b false,.b true] (by kernel_rfl) (.c hh (.c (show inR 3 6=true from rfl) (.e (.ref (.ptr 0 3)) (.e (.ref (.ptr 0 3)) (.e (int 3) (.e (int 3) (.e (.ref (.ptr 0 5)) (.e (.ref (.ptr 0 5)) (.e (.ref (.ptr 0 5)) (.e (aa (Ad Ai r.chs)) (.e (aa (Ad Ai r.chs)) (.e (aa (Ad Ai r.chs)) (.c hl0 (.c (show true=true from rfl) (.c (show(true==true)=true from rfl) (.c (show(true==true)=true from rfl) (.c (show(true==true)=true from rfl) (.c (AJ (Γ':=Γq) (@hgv ((eV r)))) (.c (show ar (bool true) (bool gb) (bool false) (bool gb) from(ay rfl rfl)) (.c (show(gb==true)=true from(by rw[hc1]<;>rfl)) (.c (show(gb==true)=true from(by rw[hc1]<;>rfl)) (.c (show(gb==true)=true from(by rw[hc1]<;>rfl)) (.c (show(((↑(Ag (Ad Ai r.chs)):Int)==0)==false)=true from(by rw[hn]<;>rfl)) (.c (show(((↑(Ag (Ad Ai r.chs)):Int)==0)==false)=true from(by rw[hn]<;>rfl)) (.c (show(((↑(Ag (Ad Ai r.chs)):Int)==0)==false)=true from(by rw[hn]<;>rfl)) (.c hc (.c (show(((↑(Ag (Ad Ai r.chs)):Int)==0)==false)=true from(by rw[hn]<;>rfl)) (.c (show(((↑(Ag (Ad Ai r.chs)):Int)==0)==false)=true from(by rw[hn]<;>rfl)) (.c (show(((↑(Ag (Ad Ai r.chs)):Int)==0)==false)=true from(by rw[hn]<;>rfl)) (.c (show(((↑(Ag (Ad Ai r.chs)):Int)==0)==false)=true from(by rw[hn]<;>rfl)) (.c (show(((↑(Ag (Ad Ai r.chs)):Int)==0)==false)=true from(by rw[hn]<;>rfl)) (.c (show(((↑(Ag (Ad Ai r.chs)):Int)==0)==false)=true from(by rw[hn]<;>rfl)) (.c (show(gb==true)=true from(by rw[hc1]<;>rfl)) (.c (show ar (bool ((↑(Ag (Ad Ai r.chs)):Int)==0)) (bool true) (bool (c.sec != r.gsec)) (bool (c.sec != r.gsec)) from(aO hn rfl)) (.c (show ar (bool gb) (bool (c.sec != r.gsec)) (bool false) (bool (c.sec != r.gsec)) from(ay hc1 rfl)) (.c (show false=false from rfl) (.c hc2 .n))))))))))))))))))))))))))))))))))))) rfl rfl h) (by first|rfl|(simp only[rqR3,hc2,BI];first|done|rfl)) (by rfl)
def rqR4(r:RqT)(ok:Bool):Int:=match !(ok&&(r.gsec==0&&(r.glab==0&&true))&&r.key==0) with
 | true=>290
 | false=>0
theorem rq4_a{r:RqT}{ok:Bool}(hh:(Qd (r.campus<0)||Qd (r.campus≥7)||Qd (r.no<1)||Qd (r.no>1048576)||Qd (r.st<0)||Qd (r.st≥20000)||Qd (r.time<1)||Qd (r.time>1048576)||Qd ((4:Int)<1)||Qd ((4:Int)>5))=false)(hcw:CW Ae Γq [] false (.loop (sub CK 0)) (rlS 4 r 1 1 false false ((r.chs.map Ai).length:Int) (Qd (((r.chs.map Ai).length:Int)≥1)&&Qd (((r.chs.map Ai).length:Int)≤1)) 0) (.exit 0) (rlE 4 r 1 1 false false ((r.chs.map Ai).length:Int) ok))(h:List Blk):(Ev Ae Γq 69 [.agg (rqD 4 r)] h (int (rqR4 r ok)) h):=by
 have hl0:=(@hcw)
 cases hc1:!(ok&&(r.gsec==0&&(r.glab==0&&true))&&r.key==0)
 ·exact AB (AF (d:=int 0) pok [.b false,.sum [1,3,4,5,74,75,76] (A1 0) {t:=mkT 147 0 [(1,.ref (.ptr 0 0)),(3,.ref (.ptr 1 0)),(4,int (↑(Ag (Ad Ai r.chs)):Int)),(5,bool ok)],h:=[.var [int r.campus,int r.no,int r.st,int 4,int r.time,aa (Ad Ai r.chs),int r.gsec,int r.glab,int r.key],.var [int 1,int 1,bool false,bool false]],m:=[]},.b false,.b false,.b false] (by kernel_rfl) (.c hh (.c (show inR 4 6=true from rfl) (.e (.ref (.ptr 0 3)) (.e (.ref (.ptr 0 3)) (.e (int 4) (.e (int 4) (.e (.ref (.ptr 0 5)) (.e (.ref (.ptr 0 5)) (.e (.ref (.ptr 0 5)) (.e (aa (Ad Ai r.chs)) (.e (aa (Ad Ai r.chs)) (.e (aa (Ad Ai r.chs)) (.c hl0 (.c (show false=false from rfl) (.c (show false=false from rfl) (.c hc1 .n)))))))))))))))) rfl rfl h) (by first|rfl|(simp only[rqR4,hc1];first|done|rfl)) (by rfl)
 ·exact AB (AF (d:=int 290) pok [.b false,.sum [1,3,4,5,74,75,76] (A1 0) {t:=mkT 147 0 [(1,.ref (.ptr 0 0)),(3,.ref (.ptr 1 0)),(4,int (↑(Ag (Ad Ai r.chs)):Int)),(5,bool ok)],h:=[.var [int r.campus,int r.no,int r.st,int 4,int r.time,aa (Ad Ai r.chs),int r.gsec,int r.glab,int r.key],.var [int 1,int 1,bool false,bool false]],m:=[]},.b false,.b false,.b true] (by kernel_rfl) (.c hh (.c (show inR 4 6=true from rfl) (.e (.ref (.ptr 0 3)) (.e (.ref (.ptr 0 3)) (.e (int 4) (.e (int 4) (.e (.ref (.ptr 0 5)) (.e (.ref (.ptr 0 5)) (.e (.ref (.ptr 0 5)) (.e (aa (Ad Ai r.chs)) (.e (aa (Ad Ai r.chs)) (.e (aa (Ad Ai r.chs)) (.c hl0 (.c (show false=false from rfl) (.c (show false=false from rfl) (.c hc1 .n)))))))))))))))) rfl rfl h) (by first|rfl|(simp only[rqR4,hc1];first|done|rfl)) (by rfl)
def rqR5(r:RqT)(ok:Bool):Int:=match !(ok&&(r.gsec==0&&(r.glab==0&&true))&&r.key==0) with
 | true=>290
 | false=>0
theorem rq5_a{r:RqT}{ok:Bool}(hh:(Qd (r.campus<0)||Qd (r.campus≥7)||Qd (r.no<1)||Qd (r.no>1048576)||Qd (r.st<0)||Qd (r.st≥20000)||Qd (r.time<1)||Qd (r.time>1048576)||Qd ((5:Int)<1)||Qd ((5:Int)>5))=false)(hcw:CW Ae Γq [] false (.loop (sub CK 0)) (rlS 5 r 1 1 false false ((r.chs.map Ai).length:Int) (Qd (((r.chs.map Ai).length:Int)≥1)&&Qd (((r.chs.map Ai).length:Int)≤1)) 0) (.exit 0) (rlE 5 r 1 1 false false ((r.chs.map Ai).length:Int) ok))(h:List Blk):(Ev Ae Γq 69 [.agg (rqD 5 r)] h (int (rqR5 r ok)) h):=by
 have hl0:=(@hcw)
 cases hc1:!(ok&&(r.gsec==0&&(r.glab==0&&true))&&r.key==0)
 ·exact AB (AF (d:=int 0) pok [.b false,.sum [1,3,4,5,74,75,76] (A1 0) {t:=mkT 147 0 [(1,.ref (.ptr 0 0)),(3,.ref (.ptr 1 0)),(4,int (↑(Ag (Ad Ai r.chs)):Int)),(5,bool ok)],h:=[.var [int r.campus,int r.no,int r.st,int 5,int r.time,aa (Ad Ai r.chs),int r.gsec,int r.glab,int r.key],.var [int 1,int 1,bool false,bool false]],m:=[]},.b false,.b false,.b false] (by kernel_rfl) (.c hh (.c (show inR 5 6=true from rfl) (.e (.ref (.ptr 0 3)) (.e (.ref (.ptr 0 3)) (.e (int 5) (.e (int 5) (.e (.ref (.ptr 0 5)) (.e (.ref (.ptr 0 5)) (.e (.ref (.ptr 0 5)) (.e (aa (Ad Ai r.chs)) (.e (aa (Ad Ai r.chs)) (.e (aa (Ad Ai r.chs)) (.c hl0 (.c (show false=false from rfl) (.c (show false=false from rfl) (.c hc1 .n)))))))))))))))) rfl rfl h) (by first|rfl|(simp only[rqR5,hc1];first|done|rfl)) (by rfl)
 ·exact AB (AF (d:=int 290) pok [.b false,.sum [1,3,4,5,74,75,76] (A1 0) {t:=mkT 147 0 [(1,.ref (.ptr 0 0)),(3,.ref (.ptr 1 0)),(4,int (↑(Ag (Ad Ai r.chs)):Int)),(5,bool ok)],h:=[.var [int r.campus,int r.no,int r.st,int 5,int r.time,aa (Ad Ai r.chs),int r.gsec,int r.glab,int r.key],.var [int 1,int 1,bool false,bool false]],m:=[]},.b false,.b false,.b true] (by kernel_rfl) (.c hh (.c (show inR 5 6=true from rfl) (.e (.ref (.ptr 0 3)) (.e (.ref (.ptr 0 3)) (.e (int 5) (.e (int 5) (.e (.ref (.ptr 0 5)) (.e (.ref (.ptr 0 5)) (.e (.ref (.ptr 0 5)) (.e (aa (Ad Ai r.chs)) (.e (aa (Ad Ai r.chs)) (.e (aa (Ad Ai r.chs)) (.c hl0 (.c (show false=false from rfl) (.c (show false=false from rfl) (.c hc1 .n)))))))))))))))) rfl rfl h) (by first|rfl|(simp only[rqR5,hc1];first|done|rfl)) (by rfl)
end Go.Vi
open Go Go.Proofs
namespace Go.Vi.As
open Go.RowKit Go.Extern.Stop Go.Stop Go.Extern
set_option maxRecDepth 100000
theorem as_nil(t:Value)(w:World):Calls Ae 102 #[.nilIface,t] w fun e w'=>e=.returned (.bool false)∧w'=w:=by
 go_enter Tryz.func102,Tryz.ntmps102
 go_wp2
 go_ret
 exact⟨rfl,rfl⟩
theorem vA(t:Addr)(w:World):(ReflectliteValue.unpack (.iface 129 (.pointer (some t)))).run Ae w
  = .ok (.agg #[.pointer (some ⟨3,129,none⟩),.pointer (some ⟨w.heap.size,0,none⟩),.int .u64 150]) (w.alloc (.cells #[.pointer (some t)] 129)):=by kernel_rfl
theorem typeP (a:Addr) (w:World):(ReflectliteValue.methodAny (ReflectliteValue.valueError "reflectlite.Value.Type" 0) (fun t _ _ _=>ReflectliteType.toType t) #[.agg #[.pointer (some ⟨3,129,none⟩),.pointer (some a),.int .u64 150]]).run Ae w
  = .ok (.iface 157 (.agg #[.pointer (some ⟨3,129,none⟩)])) w:=by kernel_rfl
theorem mKind (h:Value) (w:World):(FI 596 157 (.agg #[h]) "Kind").run Ae w=.ok (365,h) w:=by kernel_rfl
theorem kindP(w:World):((ReflectliteType.abiMethod fun t=>(fun a:Nat=>ED IntKind.u8 (a:Int)) <$> Rtype.kind t) #[.pointer (some ⟨3,129,none⟩)]).run Ae w=.ok (.int .u8 22) w:=by kernel_rfl
theorem kindE(w:World):((ReflectliteType.abiMethod fun t=>(fun a:Nat=>ED IntKind.u8 (a:Int)) <$> Rtype.kind t) #[.pointer (some ⟨3,127,none⟩)]).run Ae w=.ok (.int .u8 25) w:=by kernel_rfl
theorem rlm(z:Sem Value)(f:TypeId→Addr→Nat→Nat→Sem Value)(v:Value):
  ReflectliteValue.method z f #[v]=(do match ←ReflectliteValue.parts v with|none=>z|some (t,a,fl)=>f t a fl (fl % 32)):=rfl
theorem wN(a:Addr)(w:World):(ReflectliteValue.parts (.agg #[.pointer (some ⟨3,129,none⟩),.pointer (some a),.int .u64 150])).run Ae w=.ok (some (129,a,150)) w:=by kernel_rfl
theorem isNilP(a p:Addr)(W:World)(ha:W.cell? a=some (.pointer (some p))):
  (ReflectliteValue.method (ReflectliteValue.valueError "reflectlite.Value.IsNil" 0) ReflectliteValue.isNil #[.agg #[.pointer (some ⟨3,129,none⟩),.pointer (some a),.int .u64 150]]).run Ae W=.ok (.bool false) W:=by
 rw[rlm]
 simp only[AE,wN,BF]
 simp[ReflectliteValue.isNil,loadVar,isAgg,underlying,F8,ha,BF]
theorem mElem (h:Value) (w:World):(FI 596 157 (.agg #[h]) "Elem").run Ae w=.ok (375,.agg #[h]) w:=by kernel_rfl
theorem mImpl (h:Value) (w:World):(FI 596 157 (.agg #[h]) "Implements").run Ae w=.ok (376,.agg #[h]) w:=by kernel_rfl
theorem yA (h:Value) (w:World):(FI 596 157 (.agg #[h]) "AssignableTo").run Ae w=.ok (373,.agg #[h]) w:=by kernel_rfl
theorem elemP(w:World):(ReflectliteType.method ReflectliteType.elem #[.agg #[.pointer (some ⟨3,129,none⟩)]]).run Ae w=.ok (.iface 157 (.agg #[.pointer (some ⟨3,127,none⟩)])) w:=by kernel_rfl
theorem implE (w:World):(ReflectliteType.relation "Implements" ReflectliteType.implements_ #[.agg #[.pointer (some ⟨3,127,none⟩)],.iface 157 (.agg #[.pointer (some ⟨3,111,none⟩)])]).run Ae w=.ok (.bool true) w:=by kernel_rfl
theorem yB(v:Value)(w:World):(ReflectliteType.typeOf #[.iface 127 v]).run Ae w=.ok (.iface 157 (.agg #[.pointer (some ⟨3,127,none⟩)])) w:=by kernel_rfl
theorem yC (w:World):(ReflectliteType.relation "AssignableTo" ReflectliteType.assignableTo #[.agg #[.pointer (some ⟨3,127,none⟩)],.iface 157 (.agg #[.pointer (some ⟨3,127,none⟩)])]).run Ae w=.ok (.bool true) w:=by kernel_rfl
theorem vB(e:Int)(w:World):(ReflectliteValue.unpack (.iface 127 (.agg #[.int .i64 e]))).run Ae w
  = .ok (.agg #[.pointer (some ⟨3,127,none⟩),.pointer (some ⟨w.heap.size,0,none⟩),.int .u64 153]) (w.alloc (.cells #[.int .i64 e] 127)):=by kernel_rfl
theorem yD(w:World):(Rtype.elem? 129).run Ae w=.ok (some 127) w:=by kernel_rfl
theorem mkE(p:Addr)(w:World):(ReflectliteValue.mk 127 p ReflectliteValue.flagAddr).run Ae w=.ok (.agg #[.pointer (some ⟨3,127,none⟩),.pointer (some p),.int .u64 409]) w:=by kernel_rfl
theorem elemV(a p:Addr)(W:World)(ha:W.cell? a=some (.pointer (some p))):
  (ReflectliteValue.method (ReflectliteValue.valueError "reflectlite.Value.Elem" 0) ReflectliteValue.elem #[.agg #[.pointer (some ⟨3,129,none⟩),.pointer (some a),.int .u64 150]]).run Ae W
   = .ok (.agg #[.pointer (some ⟨3,127,none⟩),.pointer (some p),.int .u64 409]) W:=by
 rw[rlm]
 simp only[AE,wN,BF]
 simp[ReflectliteValue.elem,loadVar,isAgg,underlying,F8,ha,BF,yD,mkE]
theorem partsA(a:Addr)(w:World):(ReflectliteValue.parts (.agg #[.pointer (some ⟨3,127,none⟩),.pointer (some a),.int .u64 409])).run Ae w=.ok (some (127,a,409)) w:=by kernel_rfl
theorem partsE(a:Addr)(w:World):(ReflectliteValue.parts (.agg #[.pointer (some ⟨3,127,none⟩),.pointer (some a),.int .u64 153])).run Ae w=.ok (some (127,a,153)) w:=by kernel_rfl
theorem yE(w:World):(Rtype.directlyAssignable 127 127).run Ae w=.ok true w:=by kernel_rfl
theorem sizeE(w:World):(sizeOf 127).run Ae w=.ok 1 w:=by kernel_rfl
theorem rls(v x:Value):ReflectliteValue.set #[v,x]=(do
  let (some (dst,a,fl),some (src,b,_)):=(←ReflectliteValue.parts v,←ReflectliteValue.parts x)
   | unsupported (.noEntry "extern/(internal/reflectlite.Value).Set.zeroValue")
  if fl / ReflectliteValue.flagAddr % 2==0 then unsupported (.noEntry "extern/(internal/reflectlite.Value).Set.unaddressable")
  let val ←loadVar src b
  if ←Rtype.directlyAssignable dst src then storeVar dst a val
  else if ←Rtype.implements dst src then
   if (←Rtype.kind src)==20 then
    match val with
    | .nilIface=>unsupported (.noEntry "extern/reflectlite: a nil value of one interface type handed on as a value of another")
    | _=>storeVar dst a val
   else storeVar dst a (.iface src val)
  else panicString ("reflectlite.Set: value of type " ++ (←Rtype.spelt src) ++ " is not assignable to type " ++ (←Rtype.spelt dst))
  pure (.tuple #[])):=rfl
theorem setE(ta b:Addr)(e:Int)(old:Value)(W:World)(hb:W.cell? b=some (.int .i64 e))(ht:W.cell? ta=some old)(hf:W.frozen? ta=false):
  (ReflectliteValue.set #[.agg #[.pointer (some ⟨3,127,none⟩),.pointer (some ta),.int .u64 409],.agg #[.pointer (some ⟨3,127,none⟩),.pointer (some b),.int .u64 153]]).run Ae W
   = .ok (.tuple #[]) (W.setCell ta (.int .i64 e)):=by
 rw[rls]
 simp only[AE,partsA,partsE,BF]
 simp[ReflectliteValue.flagAddr,loadVar,isAgg,underlying,Tryz.underlying127,hb,BF,yE,storeVar,Value.cells,storeCells,Addr.add,loadCells,loadCellsFrom]
 rw[run_store Ae W ta _ _ (by rfl)]
 simp[ht,hf]
set_option maxHeartbeats 4000000 in
theorem as_hit(e:Int)(t:Addr)(old:Value)(w:World)(hg:w.cell? ⟨1,0,none⟩=some (.iface 157 (.agg #[.pointer (some ⟨3,111,none⟩)])))(ht0:w.cell? t=some old)(hf0:w.frozen? t=false):
  Calls Ae 102 #[.iface 127 (.agg #[.int .i64 e]),.iface 129 (.pointer (some t))] w fun ev w'=>ev=.returned (.bool true)∧w'=((((w.alloc (.cells #[.pointer (some t)] 129)).alloc (.cells #[.pointer (some ⟨3,129,none⟩),.pointer (some ⟨w.heap.size,0,none⟩),.int .u64 150] 143)).alloc (.cells #[.pointer (some ⟨3,129,none⟩),.pointer (some ⟨w.heap.size,0,none⟩),.int .u64 150] 143)).alloc (.cells #[.int .i64 e] 127)).setCell t (.int .i64 e):=by
 have h110:=@run_callFunc_extern Ae 110 _ (fun args=>ReflectliteValue.unpack (args.getD 0 (.tuple #[]))) Tryz.func110 (by kernel_rfl) (by kernel_rfl) (by kernel_rfl) (by kernel_rfl)
 have h111:=@run_callFunc_extern Ae 111 _ (ReflectliteValue.methodAny (ReflectliteValue.valueError "reflectlite.Value.Type" 0) (fun t _ _ _=>ReflectliteType.toType t)) Tryz.func111 (by kernel_rfl) (by kernel_rfl) (by kernel_rfl) (by kernel_rfl)
 have h112:=@run_callFunc_extern Ae 112 _ (ReflectliteValue.method (ReflectliteValue.valueError "reflectlite.Value.IsNil" 0) ReflectliteValue.isNil) Tryz.func112 (by kernel_rfl) (by kernel_rfl) (by kernel_rfl) (by kernel_rfl)
 have h365:=@run_callFunc_extern Ae 365 _ (ReflectliteType.abiMethod fun t=>do pure (.int .u8 (←Rtype.kind t))) Tryz.func365 (by kernel_rfl) (by kernel_rfl) (by kernel_rfl) (by kernel_rfl)
 have h375:=@run_callFunc_extern Ae 375 _ (ReflectliteType.method ReflectliteType.elem) Tryz.func375 (by kernel_rfl) (by kernel_rfl) (by kernel_rfl) (by kernel_rfl)
 have h376:=@run_callFunc_extern Ae 376 _ (ReflectliteType.relation "Implements" ReflectliteType.implements_) Tryz.func376 (by kernel_rfl) (by kernel_rfl) (by kernel_rfl) (by kernel_rfl)
 have h121:=@run_callFunc_extern Ae 121 _ ReflectliteType.typeOf Tryz.func121 (by kernel_rfl) (by kernel_rfl) (by kernel_rfl) (by kernel_rfl)
 have h373:=@run_callFunc_extern Ae 373 _ (ReflectliteType.relation "AssignableTo" ReflectliteType.assignableTo) Tryz.func373 (by kernel_rfl) (by kernel_rfl) (by kernel_rfl) (by kernel_rfl)
 have h122:=@run_callFunc_extern Ae 122 _ (ReflectliteValue.method (ReflectliteValue.valueError "reflectlite.Value.Elem" 0) ReflectliteValue.elem) Tryz.func122 (by kernel_rfl) (by kernel_rfl) (by kernel_rfl) (by kernel_rfl)
 have h123:=@run_callFunc_extern Ae 123 _ ReflectliteValue.set Tryz.func123 (by kernel_rfl) (by kernel_rfl) (by kernel_rfl) (by kernel_rfl)
 have tO:=yB
 have mA:=yA
 have aE:=yC
 have vE:=vB
 have vP:=vA
 have tP:=typeP
 have mK:=mKind
 have mE:=mElem
 have mI:=mImpl
 have kP:=kindP
 have kE:=kindE
 have eP:=elemP
 have iE:=implE
 have n8:=isNilP ⟨w.heap.size,0,none⟩ t ((w.alloc (.cells #[.pointer (some t)] 129)).alloc (.cells #[.pointer (some ⟨3,129,none⟩),.pointer (some ⟨w.heap.size,0,none⟩),.int .u64 150] 143)) (by simp)
 have hlt:1<w.heap.size:=by
  rcases EE 1 w.heap.size with h|h
  ·exact h
  ·simp[D7,C4 h] at hg
 have hg2:((w.alloc (.cells #[.pointer (some t)] 129)).alloc (.cells #[.pointer (some ⟨3,129,none⟩),.pointer (some ⟨w.heap.size,0,none⟩),.int .u64 150] 143)).cell? ⟨1,0,none⟩=some (.iface 157 (.agg #[.pointer (some ⟨3,111,none⟩)])):=by
  rw[BS _ _ ⟨1,0,none⟩ (by simp;omega),BS _ _ ⟨1,0,none⟩ hlt];exact hg
 have htl:t.block<w.heap.size:=by
  rcases EE t.block w.heap.size with h|h
  ·exact h
  ·simp[D7,C4 h] at ht0
 have el:=elemV ⟨w.heap.size,0,none⟩ t (((w.alloc (.cells #[.pointer (some t)] 129)).alloc (.cells #[.pointer (some ⟨3,129,none⟩),.pointer (some ⟨w.heap.size,0,none⟩),.int .u64 150] 143)).alloc (.cells #[.pointer (some ⟨3,129,none⟩),.pointer (some ⟨w.heap.size,0,none⟩),.int .u64 150] 143)) (by rw[BS _ _ ⟨w.heap.size,0,none⟩ (by simp;omega)];simp)
 have st:=setE t ⟨w.heap.size+1+1+1,0,none⟩ e old ((((w.alloc (.cells #[.pointer (some t)] 129)).alloc (.cells #[.pointer (some ⟨3,129,none⟩),.pointer (some ⟨w.heap.size,0,none⟩),.int .u64 150] 143)).alloc (.cells #[.pointer (some ⟨3,129,none⟩),.pointer (some ⟨w.heap.size,0,none⟩),.int .u64 150] 143)).alloc (.cells #[.int .i64 e] 127))
  (by rw[World.cell?_alloc_at _ _ _ _ (by simp)];rfl)
  (by rw[BS _ _ t (by simp;omega),BS _ _ t (by simp;omega),BS _ _ t (by simp;omega),BS _ _ t htl];exact ht0)
  (by rw[CV _ _ t (by simp;omega),CV _ _ t (by simp;omega),CV _ _ t (by simp;omega),CV _ _ t (Nat.ne_of_lt htl)];exact hf0)
 go_enter Tryz.func102,Tryz.ntmps102
 go_wp2
 refine wp_loop_rounds 1 ?_
 rw[rounds_succ]
 go_wp2
 go_ret
 exact⟨rfl,rfl⟩
end Go.Vi.As
open Go Go.Proofs
namespace Go.Vi
set_option maxRecDepth 100000
set_option maxHeartbeats 4000000
theorem Ext.bump{w w':World}{l:Loc}{h:List Blk}(hs:w.heap.size≤w'.heap.size)(hk:∀k,k<w.heap.size→w'.heap[k]? = w.heap[k]?)(ht:w'.tape=w.tape∧w'.os=w.os∧w'.output=w.output∧w.drawn≤w'.drawn):Ext w l h w' l h :=
 ⟨hs,fun k hk' _=>hk k hk',fun _ ho=>.inl ho,fun _ x hx=>⟨x,hx,x.le_refl,fun _=>rfl⟩,ht⟩
theorem Rep.bump{Γ:ad}{O:Nat→Prop}{w w':World}{l:Loc}{h:List Blk}(R:Rep Γ O w l h)(hs:w.heap.size≤w'.heap.size)(hk:∀k,k<w.heap.size→w'.heap[k]? = w.heap[k]?)(ht:w'.tape=w.tape∧w'.os=w.os∧w'.output=w.output∧w.drawn≤w'.drawn):Rep Γ O w' l h where
 inb k ho:=⟨B4 (R.inb k ho).1 hs,(R.inb k ho).2⟩
 obd k ho:=B4 (R.obd k ho) hs
 inj:=R.inj
 blk b x hx:=by
  by_cases hg:x=.gone
  ·subst hg;trivial
  ·exact BlkOk.ext (Ext.bump hs hk ht) rfl (fun blk cp hl=>hk blk (R.inb blk ⟨b,x,cp,hx,hg,hl⟩).1) (R.blk b x hx)
 glo g cs hg:=by
  have E:=Ext.bump (l:=l) (h:=h) hs hk ht
  have hb:=R.glo g cs hg
  clear hg
  generalize hz:0=o at hb
  clear hz
  induction cs generalizing o with
  | nil=>trivial
  | cons c cs ih =>
   simp only[RelCells] at hb ⊢
   obtain⟨⟨h1,y,h2,h3⟩,h4⟩:=hb
   have hlt:g<w.heap.size:=by
    rcases EE g w.heap.size with h|h
    ·exact h
    ·simp[D7,C4 h] at h2
   refine⟨⟨h1,y,?_,E.relP h3⟩,ih _ h4⟩
   rw[←h2]
   simp[D7,hk g hlt]
theorem g9(w:World)(o:Obj):(w.alloc o).heap.size=w.heap.size+1:=Array.size_push _
theorem j4(w:World)(o:Obj)(k:Nat)(hk:k<w.heap.size):(w.alloc o).heap[k]? = w.heap[k]?:=by
 show(w.heap.push o)[k]? = _
 rw[Array.getElem?_push,if_neg (Nat.ne_of_lt hk)]
namespace As
abbrev Gt:Dp:=.v (.iface 157 (.agg #[.pointer (some ⟨3,111,none⟩)]))
abbrev Ab(e:Int):D:=lit (.iface 127 (.agg #[.int .i64 e]))
theorem rZ(w:World):Calls Ae 89 #[.nilIface] w fun e w'=>e=.returned (.int .i64 0)∧w'=w.alloc (.cells #[.int .i64 0] 127):=by
 go_enter Tryz.func89,Tryz.ntmps89
 go_wp2_with (first|(go_at_call 102;refine(as_nil _ _).mono ?_;rintro e w' ⟨rfl,rfl⟩))
 go_ret
 exact⟨rfl,rfl⟩
set_option maxHeartbeats 4000000 in
theorem r8(e:Int)(w:World)(hg:w.cell? ⟨1,0,none⟩=some (.iface 157 (.agg #[.pointer (some ⟨3,111,none⟩)]))):
  Calls Ae 89 #[.iface 127 (.agg #[.int .i64 e])] w fun ev w'=>ev=.returned (.int .i64 e)∧w.heap.size≤w'.heap.size∧(∀k,k<w.heap.size→w'.heap[k]? = w.heap[k]?)∧w'.tape=w.tape∧w'.os=w.os∧w'.output=w.output∧w.drawn≤w'.drawn:=by
 have hlt:1<w.heap.size:=by
  rcases EE 1 w.heap.size with h|h
  ·exact h
  ·simp[D7,C4 h] at hg
 have hgA:(w.alloc (.cells #[.int .i64 0] 127)).cell? ⟨1,0,none⟩=some (.iface 157 (.agg #[.pointer (some ⟨3,111,none⟩)])):=by
  rw[BS _ _ ⟨1,0,none⟩ hlt];exact hg
 have htA:(w.alloc (.cells #[.int .i64 0] 127)).cell? ⟨w.heap.size,0,none⟩=some (.int .i64 0):=by simp
 have hfA:(w.alloc (.cells #[.int .i64 0] 127)).frozen? ⟨w.heap.size,0,none⟩=false:=by simp
 go_enter Tryz.func89,Tryz.ntmps89
 go_wp2_with (first|(go_at_call 102;refine(as_hit e _ _ _ hgA htA hfA).mono ?_;rintro e w' ⟨rfl,rfl⟩))
 go_ret
 refine⟨rfl,?_,fun k hk=>?_,rfl,rfl,rfl,Nat.le_refl _⟩
 ·simp only[g9];omega
 ·iterate 4 rw[j4 _ _ k (by simp only[g9];omega)]
  exact j4 _ _ k hk
theorem code_hit{Γ:ad}(hΓ:Γ 1=some [Gt])(e:Int)(h:List Blk):Ev Ae Γ 89 [Ab e] h (int e) h:=by
 intro O w l vs R ra
 obtain⟨y,rfl⟩:∃y,vs=[y]:=by
  match vs,ra with
  | [y],_=>exact⟨y,rfl⟩
  | [],r=>simp[RelL] at r
  | _::_::_,r=>simp[RelL] at r
 have r:=ra.1
 simp only[Rel,RelP] at r
 subst r
 have hg:=(R.glo 1 _ hΓ).1.2
 obtain⟨y,hy,ry⟩:=hg
 simp only[RelP] at ry
 subst ry
 refine callsIn_wide.2 (Calls.mono (r8 e w hy) ?_)
 rintro ev w' ⟨rfl,hs,hk,ht⟩
 exact⟨_,int e,h,l,rfl,⟨rfl,rfl⟩,R.bump hs hk ht,Ext.bump hs hk ht,by simp[Rel,RelP]⟩
theorem code_nil{Γ:ad}(h:List Blk):Ev Ae Γ 89 [lit .nilIface] h (int 0) h:=by
 intro O w l vs R ra
 obtain⟨y,rfl⟩:∃y,vs=[y]:=by
  match vs,ra with
  | [y],_=>exact⟨y,rfl⟩
  | [],r=>simp[RelL] at r
  | _::_::_,r=>simp[RelL] at r
 have r:=ra.1
 simp only[Rel,RelP] at r
 subst r
 refine callsIn_wide.2 (Calls.mono (rZ w) ?_)
 rintro ev w' ⟨rfl,rfl⟩
 have hs:w.heap.size≤(w.alloc (.cells #[.int .i64 0] 127)).heap.size:=by rw[g9];omega
 have hk:∀k,k<w.heap.size→(w.alloc (.cells #[.int .i64 0] 127)).heap[k]? = w.heap[k]?:=fun k hk=>j4 _ _ k hk
 have ht:(w.alloc (.cells #[.int .i64 0] 127)).tape=w.tape∧(w.alloc (.cells #[.int .i64 0] 127)).os=w.os∧(w.alloc (.cells #[.int .i64 0] 127)).output=w.output∧w.drawn≤(w.alloc (.cells #[.int .i64 0] 127)).drawn:=⟨rfl,rfl,rfl,Nat.le_refl _⟩
 exact⟨_,int 0,h,l,rfl,⟨rfl,rfl⟩,R.bump hs hk ht,Ext.bump hs hk ht,by simp[Rel,RelP]⟩
end As
end Go.Vi
open Go Go.Proofs
namespace Go.Vi
set_option maxRecDepth 100000
set_option maxHeartbeats 4000000
def catB(e:EntT):Bool:=aQ e.frm e.til&&Qd ((e.text.size:Int)≤65536)
noncomputable abbrev oy(e:EntT):List Blk:=[.var [int e.time,int e.campus,int e.no,int e.kind,int e.stu,int e.obj,int e.term,int e.val,int e.frm,int e.til,ap e.text,int e.sec.id,int e.sec.course,int e.sec.term,int e.sec.campus,int e.sec.seats,aa (Ad Ar e.sec.mts),aa (Ad Ap e.sec.grs),aa (Ad ab e.sec.labs),bool e.sec.lab,int e.req.campus,int e.req.no,int e.req.st,int e.req.kind,int e.req.time,aa (Ad Ai e.req.chs),int e.req.gsec,int e.req.glab,int e.req.key,int e.r,int e.s]]
theorem cat_ev{e:EntT}(h:List Blk):(Ev Ae Γ0 57 [ag e.row] h (int (mustR (catB e))) h):=by
 exact AB (AF (d:=int (mustR (aQ e.frm e.til&&Qd ((↑(EF e.text):Int)≤65536)))) pok [.val (bool (aQ e.frm e.til)),.val (int (mustR (aQ e.frm e.til&&Qd ((↑(EF e.text):Int)≤65536))))] (by kernel_rfl) (.c (@fB (e.frm) (e.til) ((oy e))) (.c (@dU (aQ e.frm e.til&&Qd ((↑(EF e.text):Int)≤65536)) ((oy e))) .n)) rfl rfl h) (by first|rfl|(simp only[catB,];first|done|rfl)) (by rfl)
def and15(n:Int):Int:=Ak.wrap ((Cd Ak.bits n &&& Cd Ak.bits 15).toNat)
def shr4(n:Int):Int:=n.fdiv (2 ^ (min (4:Int).toNat Ak.bits))
def ua(e:EntT):Bool:=e.val == -1||Qd (e.val≥0)&&Qd (and15 e.val≤12)&&Qd (shr4 e.val<7)
noncomputable abbrev bf(e:EntT):List Blk:=[.var [int e.time,int e.campus,int e.no,int e.kind,int e.stu,int e.obj,int e.term,int e.val,int e.frm,int e.til,ap e.text,int e.sec.id,int e.sec.course,int e.sec.term,int e.sec.campus,int e.sec.seats,aa (Ad Ar e.sec.mts),aa (Ad Ap e.sec.grs),aa (Ad ab e.sec.labs),bool e.sec.lab,int e.req.campus,int e.req.no,int e.req.st,int e.req.kind,int e.req.time,aa (Ad Ai e.req.chs),int e.req.gsec,int e.req.glab,int e.req.key,int e.r,int e.s]]
theorem ub{e:EntT}(h:List Blk):(Ev Ae Γ0 60 [ag e.row] h (int (mustR (inS e.stu 0 19999&&inS e.term 0 1023&&inS e.obj 0 4095&&ua e))) h):=by
 exact AB (AF (d:=int (mustR (inS e.stu 0 19999&&inS e.term 0 1023&&inS e.obj 0 4095&&(e.val == -1||Qd (e.val≥0)&&Qd (Av Ak (↑(Em (Cd 64 e.val &&& Cd 64 15)):Int)≤12)&&Qd (Int.fdiv e.val (2 ^ min (AM 4) 64)<7))))) pok [.val (bool (inS e.stu 0 19999)),.val (bool (inS e.term 0 1023)),.val (bool (inS e.obj 0 4095)),.val (int (mustR (inS e.stu 0 19999&&inS e.term 0 1023&&inS e.obj 0 4095&&(e.val == -1||Qd (e.val≥0)&&Qd (Av Ak (↑(Em (Cd 64 e.val &&& Cd 64 15)):Int)≤12)&&Qd (Int.fdiv e.val (2 ^ min (AM 4) 64)<7)))))] (by kernel_rfl) (.c (show(!e.val == -1&&(Qd (e.val≥0)&&Qd (Av Ak (↑(Em (Cd 64 e.val &&& Cd 64 15)):Int)≤12)))=true→Qd (0≤4)=true from(fun hg=>rfl)) (.c (@j0 (e) ((bf e))) (.c (show inS e.stu 0 19999=true→Ev Ae Γ0 73 [Al [int e.time,int e.campus,int e.no,int e.kind,int e.stu,int e.obj,int e.term,int e.val,int e.frm,int e.til,ap e.text,int e.sec.id,int e.sec.course,int e.sec.term,int e.sec.campus,int e.sec.seats,aa (Ad Ar e.sec.mts),aa (Ad Ap e.sec.grs),aa (Ad ab e.sec.labs),bool e.sec.lab,int e.req.campus,int e.req.no,int e.req.st,int e.req.kind,int e.req.time,aa (Ad Ai e.req.chs),int e.req.gsec,int e.req.glab,int e.req.key,int e.r,int e.s]] (bf e) (bool (inS e.term 0 1023)) (bf e) from(fun hg=>(@wL (e) ((bf e))))) (.c (show(inS e.stu 0 19999&&inS e.term 0 1023)=true→Ev Ae Γ0 88 [int e.obj,int 0,int 4095] (bf e) (bool (inS e.obj 0 4095)) (bf e) from(fun hg=>(@dn (e.obj) (0) (4095) ((bf e))))) (.c (@dU (inS e.stu 0 19999&&inS e.term 0 1023&&inS e.obj 0 4095&&(e.val == -1||Qd (e.val≥0)&&Qd (Av Ak (↑(Em (Cd 64 e.val &&& Cd 64 15)):Int)≤12)&&Qd (Int.fdiv e.val (2 ^ min (AM 4) 64)<7))) ((bf e))) .n))))) rfl rfl h) (by first|rfl|(simp only[ua,and15,shr4,];first|done|rfl)) (by rfl)
def yF(e:EntT):Bool:=inS e.stu 0 19999&&aQ e.frm e.til&&inS e.obj 0 7&&(e.val==1||e.val == -1)
noncomputable abbrev bg(e:EntT):List Blk:=[.var [int e.time,int e.campus,int e.no,int e.kind,int e.stu,int e.obj,int e.term,int e.val,int e.frm,int e.til,ap e.text,int e.sec.id,int e.sec.course,int e.sec.term,int e.sec.campus,int e.sec.seats,aa (Ad Ar e.sec.mts),aa (Ad Ap e.sec.grs),aa (Ad ab e.sec.labs),bool e.sec.lab,int e.req.campus,int e.req.no,int e.req.st,int e.req.kind,int e.req.time,aa (Ad Ai e.req.chs),int e.req.gsec,int e.req.glab,int e.req.key,int e.r,int e.s]]
theorem oA{e:EntT}(h:List Blk):(Ev Ae Γ0 61 [ag e.row] h (int (mustR (yF e))) h):=by
 exact AB (AF (d:=int (mustR (inS e.stu 0 19999&&aQ e.frm e.til&&inS e.obj 0 7&&(e.val==1||e.val == -1)))) pok [.val (bool (inS e.stu 0 19999)),.val (bool (aQ e.frm e.til)),.val (bool (inS e.obj 0 7)),.val (int (mustR (inS e.stu 0 19999&&aQ e.frm e.til&&inS e.obj 0 7&&(e.val==1||e.val == -1))))] (by kernel_rfl) (.c (@j0 (e) ((bg e))) (.c (show inS e.stu 0 19999=true→Ev Ae Γ0 59 [Al [int e.frm,int e.til]] (bg e) (bool (aQ e.frm e.til)) (bg e) from(fun hg=>(@fB (e.frm) (e.til) ((bg e))))) (.c (show(inS e.stu 0 19999&&aQ e.frm e.til)=true→Ev Ae Γ0 88 [int e.obj,int 0,int 7] (bg e) (bool (inS e.obj 0 7)) (bg e) from(fun hg=>(@dn (e.obj) (0) (7) ((bg e))))) (.c (@dU (inS e.stu 0 19999&&aQ e.frm e.til&&inS e.obj 0 7&&(e.val==1||e.val == -1)) ((bg e))) .n)))) rfl rfl h) (by first|rfl|(simp only[yF,];first|done|rfl)) (by rfl)
noncomputable abbrev py(e:EntT):List Blk:=[.var [int e.time,int e.campus,int e.no,int e.kind,int e.stu,int e.obj,int e.term,int e.val,int e.frm,int e.til,ap e.text,int e.sec.id,int e.sec.course,int e.sec.term,int e.sec.campus,int e.sec.seats,aa (Ad Ar e.sec.mts),aa (Ad Ap e.sec.grs),aa (Ad ab e.sec.labs),bool e.sec.lab,int e.req.campus,int e.req.no,int e.req.st,int e.req.kind,int e.req.time,aa (Ad Ai e.req.chs),int e.req.gsec,int e.req.glab,int e.req.key,int e.r,int e.s]]
theorem vC{e:EntT}(h:List Blk):(Ev Ae Γ0 70 [ag e.row] h (int (j2 ⟨e.val,e.stu,e.obj,e.term⟩)) h):=by
 exact AB (AF (d:=int (j2 {kind:=e.val,st:=e.stu,obj:=e.obj,term:=e.term})) pok [.val (int (j2 {kind:=e.val,st:=e.stu,obj:=e.obj,term:=e.term}))] (by kernel_rfl) (.c (@t5 ({kind:=e.val,st:=e.stu,obj:=e.obj,term:=e.term}) ((py e))) .n) rfl rfl h) (by rfl) (by rfl)
noncomputable abbrev lz(e:EntT):List Blk:=[.var [int e.time,int e.campus,int e.no,int e.kind,int e.stu,int e.obj,int e.term,int e.val,int e.frm,int e.til,ap e.text,int e.sec.id,int e.sec.course,int e.sec.term,int e.sec.campus,int e.sec.seats,aa (Ad Ar e.sec.mts),aa (Ad Ap e.sec.grs),aa (Ad ab e.sec.labs),bool e.sec.lab,int e.req.campus,int e.req.no,int e.req.st,int e.req.kind,int e.req.time,aa (Ad Ai e.req.chs),int e.req.gsec,int e.req.glab,int e.req.key,int e.r,int e.s]]
theorem yG{e:EntT}(h:List Blk):(Ev Ae Γ0 72 [ag e.row] h (int (mustR (inS e.term 0 1023))) h):=by
 exact AB (AF (d:=int (mustR (inS e.term 0 1023))) pok [.val (bool (inS e.term 0 1023)),.val (int (mustR (inS e.term 0 1023)))] (by kernel_rfl) (.c (@wL (e) ((lz e))) (.c (@dU (inS e.term 0 1023) ((lz e))) .n)) rfl rfl h) (by rfl) (by rfl)
def vD(m:Int)(e:EntT):Bool:=inS e.stu 0 19999&&aQ e.frm e.til&&inS e.obj 0 m&&(e.val == -1||inS e.val 1 1099511627776)
noncomputable abbrev aV(e:EntT):List Blk:=[.var [int e.time,int e.campus,int e.no,int e.kind,int e.stu,int e.obj,int 7,int e.val,int e.frm,int e.til,ap e.text,int e.sec.id,int e.sec.course,int e.sec.term,int e.sec.campus,int e.sec.seats,aa (Ad Ar e.sec.mts),aa (Ad Ap e.sec.grs),aa (Ad ab e.sec.labs),bool e.sec.lab,int e.req.campus,int e.req.no,int e.req.st,int e.req.kind,int e.req.time,aa (Ad Ai e.req.chs),int e.req.gsec,int e.req.glab,int e.req.key,int e.r,int e.s],.map [(int 7,int 4095,0),(int 9,int 4095,1),(int 8,int 3999,2),(int 10,int 0,3)] 4]
theorem yH{e:EntT}(h:List Blk):(Ev Ae Γ0 63 [ag (Ax {e with term:=7})] h (int (mustR (vD 4095 e))) h):=by
 exact AB (AF (d:=int (mustR (true&&inS e.stu 0 19999&&aQ e.frm e.til&&inS e.obj 0 4095&&(e.val == -1||inS e.val 1 1099511627776)))) pok [.val (bool (inS e.stu 0 19999)),.val (bool (aQ e.frm e.til)),.val (bool (inS e.obj 0 4095)),.val (bool (inS e.val 1 1099511627776)),.val (int (mustR (true&&inS e.stu 0 19999&&aQ e.frm e.til&&inS e.obj 0 4095&&(e.val == -1||inS e.val 1 1099511627776))))] (by kernel_rfl) (.c (show true=true→Ev Ae Γ0 87 [Al [int e.time,int e.campus,int e.no,int e.kind,int e.stu,int e.obj,int 7,int e.val,int e.frm,int e.til,ap e.text,int e.sec.id,int e.sec.course,int e.sec.term,int e.sec.campus,int e.sec.seats,aa (Ad Ar e.sec.mts),aa (Ad Ap e.sec.grs),aa (Ad ab e.sec.labs),bool e.sec.lab,int e.req.campus,int e.req.no,int e.req.st,int e.req.kind,int e.req.time,aa (Ad Ai e.req.chs),int e.req.gsec,int e.req.glab,int e.req.key,int e.r,int e.s]] (aV e) (bool (inS e.stu 0 19999)) (aV e) from(fun hg=>(@j0 ({time:=e.time,campus:=e.campus,no:=e.no,kind:=e.kind,stu:=e.stu,obj:=e.obj,term:=7,val:=e.val,frm:=e.frm,til:=e.til,text:=e.text,sec:=e.sec,req:=e.req,r:=e.r,s:=e.s}) ((aV e))))) (.c (show(true&&inS e.stu 0 19999)=true→Ev Ae Γ0 59 [Al [int e.frm,int e.til]] (aV e) (bool (aQ e.frm e.til)) (aV e) from(fun hg=>(@fB (e.frm) (e.til) ((aV e))))) (.c (show(true&&inS e.stu 0 19999&&aQ e.frm e.til)=true→Ev Ae Γ0 88 [int e.obj,int 0,int 4095] (aV e) (bool (inS e.obj 0 4095)) (aV e) from(fun hg=>(@dn (e.obj) (0) (4095) ((aV e))))) (.c (show(true&&inS e.stu 0 19999&&aQ e.frm e.til&&inS e.obj 0 4095&&!e.val == -1)=true→Ev Ae Γ0 88 [int e.val,int 1,int 1099511627776] (aV e) (bool (inS e.val 1 1099511627776)) (aV e) from(fun hg=>(@dn (e.val) (1) (1099511627776) ((aV e))))) (.c (@dU (true&&inS e.stu 0 19999&&aQ e.frm e.til&&inS e.obj 0 4095&&(e.val == -1||inS e.val 1 1099511627776)) ((aV e))) .n))))) rfl rfl h) (by first|rfl|(simp only[vD,];first|done|rfl)) (by rfl)
noncomputable abbrev aW(e:EntT):List Blk:=[.var [int e.time,int e.campus,int e.no,int e.kind,int e.stu,int e.obj,int 9,int e.val,int e.frm,int e.til,ap e.text,int e.sec.id,int e.sec.course,int e.sec.term,int e.sec.campus,int e.sec.seats,aa (Ad Ar e.sec.mts),aa (Ad Ap e.sec.grs),aa (Ad ab e.sec.labs),bool e.sec.lab,int e.req.campus,int e.req.no,int e.req.st,int e.req.kind,int e.req.time,aa (Ad Ai e.req.chs),int e.req.gsec,int e.req.glab,int e.req.key,int e.r,int e.s],.map [(int 7,int 4095,0),(int 9,int 4095,1),(int 8,int 3999,2),(int 10,int 0,3)] 4]
theorem yI{e:EntT}(h:List Blk):(Ev Ae Γ0 63 [ag (Ax {e with term:=9})] h (int (mustR (vD 4095 e))) h):=by
 exact AB (AF (d:=int (mustR (true&&inS e.stu 0 19999&&aQ e.frm e.til&&inS e.obj 0 4095&&(e.val == -1||inS e.val 1 1099511627776)))) pok [.val (bool (inS e.stu 0 19999)),.val (bool (aQ e.frm e.til)),.val (bool (inS e.obj 0 4095)),.val (bool (inS e.val 1 1099511627776)),.val (int (mustR (true&&inS e.stu 0 19999&&aQ e.frm e.til&&inS e.obj 0 4095&&(e.val == -1||inS e.val 1 1099511627776))))] (by kernel_rfl) (.c (show true=true→Ev Ae Γ0 87 [Al [int e.time,int e.campus,int e.no,int e.kind,int e.stu,int e.obj,int 9,int e.val,int e.frm,int e.til,ap e.text,int e.sec.id,int e.sec.course,int e.sec.term,int e.sec.campus,int e.sec.seats,aa (Ad Ar e.sec.mts),aa (Ad Ap e.sec.grs),aa (Ad ab e.sec.labs),bool e.sec.lab,int e.req.campus,int e.req.no,int e.req.st,int e.req.kind,int e.req.time,aa (Ad Ai e.req.chs),int e.req.gsec,int e.req.glab,int e.req.key,int e.r,int e.s]] (aW e) (bool (inS e.stu 0 19999)) (aW e) from(fun hg=>(@j0 ({time:=e.time,campus:=e.campus,no:=e.no,kind:=e.kind,stu:=e.stu,obj:=e.obj,term:=9,val:=e.val,frm:=e.frm,til:=e.til,text:=e.text,sec:=e.sec,req:=e.req,r:=e.r,s:=e.s}) ((aW e))))) (.c (show(true&&inS e.stu 0 19999)=true→Ev Ae Γ0 59 [Al [int e.frm,int e.til]] (aW e) (bool (aQ e.frm e.til)) (aW e) from(fun hg=>(@fB (e.frm) (e.til) ((aW e))))) (.c (show(true&&inS e.stu 0 19999&&aQ e.frm e.til)=true→Ev Ae Γ0 88 [int e.obj,int 0,int 4095] (aW e) (bool (inS e.obj 0 4095)) (aW e) from(fun hg=>(@dn (e.obj) (0) (4095) ((aW e))))) (.c (show(true&&inS e.stu 0 19999&&aQ e.frm e.til&&inS e.obj 0 4095&&!e.val == -1)=true→Ev Ae Γ0 88 [int e.val,int 1,int 1099511627776] (aW e) (bool (inS e.val 1 1099511627776)) (aW e) from(fun hg=>(@dn (e.val) (1) (1099511627776) ((aW e))))) (.c (@dU (true&&inS e.stu 0 19999&&aQ e.frm e.til&&inS e.obj 0 4095&&(e.val == -1||inS e.val 1 1099511627776)) ((aW e))) .n))))) rfl rfl h) (by first|rfl|(simp only[vD,];first|done|rfl)) (by rfl)
noncomputable abbrev aX(e:EntT):List Blk:=[.var [int e.time,int e.campus,int e.no,int e.kind,int e.stu,int e.obj,int 8,int e.val,int e.frm,int e.til,ap e.text,int e.sec.id,int e.sec.course,int e.sec.term,int e.sec.campus,int e.sec.seats,aa (Ad Ar e.sec.mts),aa (Ad Ap e.sec.grs),aa (Ad ab e.sec.labs),bool e.sec.lab,int e.req.campus,int e.req.no,int e.req.st,int e.req.kind,int e.req.time,aa (Ad Ai e.req.chs),int e.req.gsec,int e.req.glab,int e.req.key,int e.r,int e.s],.map [(int 7,int 4095,0),(int 9,int 4095,1),(int 8,int 3999,2),(int 10,int 0,3)] 4]
theorem yJ{e:EntT}(h:List Blk):(Ev Ae Γ0 63 [ag (Ax {e with term:=8})] h (int (mustR (vD 3999 e))) h):=by
 exact AB (AF (d:=int (mustR (true&&inS e.stu 0 19999&&aQ e.frm e.til&&inS e.obj 0 3999&&(e.val == -1||inS e.val 1 1099511627776)))) pok [.val (bool (inS e.stu 0 19999)),.val (bool (aQ e.frm e.til)),.val (bool (inS e.obj 0 3999)),.val (bool (inS e.val 1 1099511627776)),.val (int (mustR (true&&inS e.stu 0 19999&&aQ e.frm e.til&&inS e.obj 0 3999&&(e.val == -1||inS e.val 1 1099511627776))))] (by kernel_rfl) (.c (show true=true→Ev Ae Γ0 87 [Al [int e.time,int e.campus,int e.no,int e.kind,int e.stu,int e.obj,int 8,int e.val,int e.frm,int e.til,ap e.text,int e.sec.id,int e.sec.course,int e.sec.term,int e.sec.campus,int e.sec.seats,aa (Ad Ar e.sec.mts),aa (Ad Ap e.sec.grs),aa (Ad ab e.sec.labs),bool e.sec.lab,int e.req.campus,int e.req.no,int e.req.st,int e.req.kind,int e.req.time,aa (Ad Ai e.req.chs),int e.req.gsec,int e.req.glab,int e.req.key,int e.r,int e.s]] (aX e) (bool (inS e.stu 0 19999)) (aX e) from(fun hg=>(@j0 ({time:=e.time,campus:=e.campus,no:=e.no,kind:=e.kind,stu:=e.stu,obj:=e.obj,term:=8,val:=e.val,frm:=e.frm,til:=e.til,text:=e.text,sec:=e.sec,req:=e.req,r:=e.r,s:=e.s}) ((aX e))))) (.c (show(true&&inS e.stu 0 19999)=true→Ev Ae Γ0 59 [Al [int e.frm,int e.til]] (aX e) (bool (aQ e.frm e.til)) (aX e) from(fun hg=>(@fB (e.frm) (e.til) ((aX e))))) (.c (show(true&&inS e.stu 0 19999&&aQ e.frm e.til)=true→Ev Ae Γ0 88 [int e.obj,int 0,int 3999] (aX e) (bool (inS e.obj 0 3999)) (aX e) from(fun hg=>(@dn (e.obj) (0) (3999) ((aX e))))) (.c (show(true&&inS e.stu 0 19999&&aQ e.frm e.til&&inS e.obj 0 3999&&!e.val == -1)=true→Ev Ae Γ0 88 [int e.val,int 1,int 1099511627776] (aX e) (bool (inS e.val 1 1099511627776)) (aX e) from(fun hg=>(@dn (e.val) (1) (1099511627776) ((aX e))))) (.c (@dU (true&&inS e.stu 0 19999&&aQ e.frm e.til&&inS e.obj 0 3999&&(e.val == -1||inS e.val 1 1099511627776)) ((aX e))) .n))))) rfl rfl h) (by first|rfl|(simp only[vD,];first|done|rfl)) (by rfl)
noncomputable abbrev aK(e:EntT):List Blk:=[.var [int e.time,int e.campus,int e.no,int e.kind,int e.stu,int e.obj,int 10,int e.val,int e.frm,int e.til,ap e.text,int e.sec.id,int e.sec.course,int e.sec.term,int e.sec.campus,int e.sec.seats,aa (Ad Ar e.sec.mts),aa (Ad Ap e.sec.grs),aa (Ad ab e.sec.labs),bool e.sec.lab,int e.req.campus,int e.req.no,int e.req.st,int e.req.kind,int e.req.time,aa (Ad Ai e.req.chs),int e.req.gsec,int e.req.glab,int e.req.key,int e.r,int e.s],.map [(int 7,int 4095,0),(int 9,int 4095,1),(int 8,int 3999,2),(int 10,int 0,3)] 4]
theorem vF{e:EntT}(h:List Blk):(Ev Ae Γ0 63 [ag (Ax {e with term:=10})] h (int (mustR (vD 0 e))) h):=by
 exact AB (AF (d:=int (mustR (true&&inS e.stu 0 19999&&aQ e.frm e.til&&inS e.obj 0 0&&(e.val == -1||inS e.val 1 1099511627776)))) pok [.val (bool (inS e.stu 0 19999)),.val (bool (aQ e.frm e.til)),.val (bool (inS e.obj 0 0)),.val (bool (inS e.val 1 1099511627776)),.val (int (mustR (true&&inS e.stu 0 19999&&aQ e.frm e.til&&inS e.obj 0 0&&(e.val == -1||inS e.val 1 1099511627776))))] (by kernel_rfl) (.c (show true=true→Ev Ae Γ0 87 [Al [int e.time,int e.campus,int e.no,int e.kind,int e.stu,int e.obj,int 10,int e.val,int e.frm,int e.til,ap e.text,int e.sec.id,int e.sec.course,int e.sec.term,int e.sec.campus,int e.sec.seats,aa (Ad Ar e.sec.mts),aa (Ad Ap e.sec.grs),aa (Ad ab e.sec.labs),bool e.sec.lab,int e.req.campus,int e.req.no,int e.req.st,int e.req.kind,int e.req.time,aa (Ad Ai e.req.chs),int e.req.gsec,int e.req.glab,int e.req.key,int e.r,int e.s]] (aK e) (bool (inS e.stu 0 19999)) (aK e) from(fun hg=>(@j0 ({time:=e.time,campus:=e.campus,no:=e.no,kind:=e.kind,stu:=e.stu,obj:=e.obj,term:=10,val:=e.val,frm:=e.frm,til:=e.til,text:=e.text,sec:=e.sec,req:=e.req,r:=e.r,s:=e.s}) ((aK e))))) (.c (show(true&&inS e.stu 0 19999)=true→Ev Ae Γ0 59 [Al [int e.frm,int e.til]] (aK e) (bool (aQ e.frm e.til)) (aK e) from(fun hg=>(@fB (e.frm) (e.til) ((aK e))))) (.c (show(true&&inS e.stu 0 19999&&aQ e.frm e.til)=true→Ev Ae Γ0 88 [int e.obj,int 0,int 0] (aK e) (bool (inS e.obj 0 0)) (aK e) from(fun hg=>(@dn (e.obj) (0) (0) ((aK e))))) (.c (show(true&&inS e.stu 0 19999&&aQ e.frm e.til&&inS e.obj 0 0&&!e.val == -1)=true→Ev Ae Γ0 88 [int e.val,int 1,int 1099511627776] (aK e) (bool (inS e.val 1 1099511627776)) (aK e) from(fun hg=>(@dn (e.val) (1) (1099511627776) ((aK e))))) (.c (@dU (true&&inS e.stu 0 19999&&aQ e.frm e.til&&inS e.obj 0 0&&(e.val == -1||inS e.val 1 1099511627776)) ((aK e))) .n))))) rfl rfl h) (by first|rfl|(simp only[vD,];first|done|rfl)) (by rfl)
theorem lkP2{k:Int}(h1:¬k=7)(h2:¬k=9)(h3:¬k=8)(h4:¬k=10):wK Ae 108 [(int 7,int 4095,0),(int 9,int 4095,1),(int 8,int 3999,2),(int 10,int 0,3)] (int k) true (.tup [int 0,bool false]):=by
 have e1:Ae.underlying 108=some (.map 3 3):=by kernel_rfl
 have e2:cH Ae 3 (int k)=true:=by kernel_rfl
 have e3:fI Ae 3=some (.int .i64 0):=by kernel_rfl
 have e4:b5 (int k) [(int 7,int 4095,0),(int 9,int 4095,1),(int 8,int 3999,2),(int 10,int 0,3)] 0=some none:=by
  have n1:bn (int k) (int 7)=some false:=by simp[bn,h1]
  have n2:bn (int k) (int 9)=some false:=by simp[bn,h2]
  have n3:bn (int k) (int 8)=some false:=by simp[bn,h3]
  have n4:bn (int k) (int 10)=some false:=by simp[bn,h4]
  simp only[b5,n1,n2,n3,n4]
 unfold wK aP
 simp only[e1,iv,List.getElem?_cons_zero,e2,if_true,e3,e4]
 rfl
theorem lkP{h:List Blk}{b:Nat}{k:Int}(h1:¬k=7)(h2:¬k=9)(h3:¬k=8)(h4:¬k=10)(hb:h[b]? = some (.map [(int 7,int 4095,0),(int 9,int 4095,1),(int 8,int 3999,2),(int 10,int 0,3)] 4)):aP Ae h 108 (.ref (.mp b)) (int k) true=some (.tup [int 0,bool false]):=by
 have e1:Ae.underlying 108=some (.map 3 3):=by kernel_rfl
 have e2:cH Ae 3 (int k)=true:=by kernel_rfl
 have e3:fI Ae 3=some (.int .i64 0):=by kernel_rfl
 have e4:b5 (int k) [(int 7,int 4095,0),(int 9,int 4095,1),(int 8,int 3999,2),(int 10,int 0,3)] 0=some none:=by
  have n1:bn (int k) (int 7)=some false:=by simp[bn,h1]
  have n2:bn (int k) (int 9)=some false:=by simp[bn,h2]
  have n3:bn (int k) (int 8)=some false:=by simp[bn,h3]
  have n4:bn (int k) (int 10)=some false:=by simp[bn,h4]
  simp only[b5,n1,n2,n3,n4]
 unfold aP
 simp only[e1,iv,hb,e2,if_true,e3,e4]
 rfl
noncomputable abbrev a7(e:EntT):List Blk:=[.var [int e.time,int e.campus,int e.no,int e.kind,int e.stu,int e.obj,int e.term,int e.val,int e.frm,int e.til,ap e.text,int e.sec.id,int e.sec.course,int e.sec.term,int e.sec.campus,int e.sec.seats,aa (Ad Ar e.sec.mts),aa (Ad Ap e.sec.grs),aa (Ad ab e.sec.labs),bool e.sec.lab,int e.req.campus,int e.req.no,int e.req.st,int e.req.kind,int e.req.time,aa (Ad Ai e.req.chs),int e.req.gsec,int e.req.glab,int e.req.key,int e.r,int e.s],.map [(int 7,int 4095,0),(int 9,int 4095,1),(int 8,int 3999,2),(int 10,int 0,3)] 4]
theorem petN_a{e:EntT}(h1:¬e.term=7)(h2:¬e.term=9)(h3:¬e.term=8)(h4:¬e.term=10)(h:List Blk):(Ev Ae Γ0 63 [ag e.row] h (int 370) h):=by
 exact AB (AF (d:=int (mustR (false&&inS e.stu 0 19999&&aQ e.frm e.til&&inS e.obj 0 0&&(e.val == -1||inS e.val 1 1099511627776)))) pok [.ov 10 (D.tup [int 0,bool false]),.val (bool (inS e.stu 0 19999)),.val (bool (aQ e.frm e.til)),.val (bool (inS e.obj 0 0)),.val (bool (inS e.val 1 1099511627776)),.val (int (mustR (false&&inS e.stu 0 19999&&aQ e.frm e.til&&inS e.obj 0 0&&(e.val == -1||inS e.val 1 1099511627776))))] (by kernel_rfl) (.c (show aP Ae (a7 e) 108 (.ref (.mp 1)) (int e.term) true=some (D.tup [int 0,bool false]) from(by first|assumption|rfl|exact lkP h1 h2 h3 h4 rfl|exact lkP2 h1 h2 h3 h4)) (.c (show false=true→Ev Ae Γ0 87 [Al [int e.time,int e.campus,int e.no,int e.kind,int e.stu,int e.obj,int e.term,int e.val,int e.frm,int e.til,ap e.text,int e.sec.id,int e.sec.course,int e.sec.term,int e.sec.campus,int e.sec.seats,aa (Ad Ar e.sec.mts),aa (Ad Ap e.sec.grs),aa (Ad ab e.sec.labs),bool e.sec.lab,int e.req.campus,int e.req.no,int e.req.st,int e.req.kind,int e.req.time,aa (Ad Ai e.req.chs),int e.req.gsec,int e.req.glab,int e.req.key,int e.r,int e.s]] (a7 e) (bool (inS e.stu 0 19999)) (a7 e) from(fun hg=>(@j0 (e) ((a7 e))))) (.c (show(false&&inS e.stu 0 19999)=true→Ev Ae Γ0 59 [Al [int e.frm,int e.til]] (a7 e) (bool (aQ e.frm e.til)) (a7 e) from(fun hg=>(@fB (e.frm) (e.til) ((a7 e))))) (.c (show(false&&inS e.stu 0 19999&&aQ e.frm e.til)=true→Ev Ae Γ0 88 [int e.obj,int 0,int 0] (a7 e) (bool (inS e.obj 0 0)) (a7 e) from(fun hg=>(@dn (e.obj) (0) (0) ((a7 e))))) (.c (show(false&&inS e.stu 0 19999&&aQ e.frm e.til&&inS e.obj 0 0&&!e.val == -1)=true→Ev Ae Γ0 88 [int e.val,int 1,int 1099511627776] (a7 e) (bool (inS e.val 1 1099511627776)) (a7 e) from(fun hg=>(@dn (e.val) (1) (1099511627776) ((a7 e))))) (.c (@dU (false&&inS e.stu 0 19999&&aQ e.frm e.til&&inS e.obj 0 0&&(e.val == -1||inS e.val 1 1099511627776)) ((a7 e))) .n)))))) rfl rfl h) (by rfl) (by rfl)
def mostP(t:Int):Option Int:=if t=7 then some 4095 else if t=9 then some 4095 else if t=8 then some 3999 else if t=10 then some 0 else none
def petR(e:EntT):Int:=match mostP e.term with
 | none=>370
 | some m=>mustR (vD m e)
theorem pet_ev{e:EntT}(h:List Blk):Ev Ae Γ0 63 [ag e.row] h (int (petR e)) h:=by
 unfold petR mostP
 by_cases h1:e.term=7
 ·have he:e={e with term:=7}:=by cases e;simp at h1;subst h1;rfl
  rw[if_pos h1]
  have:=yH (e:=e) h
  rw[←he] at this
  exact this
 ·rw[if_neg h1]
  by_cases h2:e.term=9
  ·have he:e={e with term:=9}:=by cases e;simp at h2;subst h2;rfl
   rw[if_pos h2]
   have:=yI (e:=e) h
   rw[←he] at this
   exact this
  ·rw[if_neg h2]
   by_cases h3:e.term=8
   ·have he:e={e with term:=8}:=by cases e;simp at h3;subst h3;rfl
    rw[if_pos h3]
    have:=yJ (e:=e) h
    rw[←he] at this
    exact this
   ·rw[if_neg h3]
    by_cases h4:e.term=10
    ·have he:e={e with term:=10}:=by cases e;simp at h4;subst h4;rfl
     rw[if_pos h4]
     have:=vF (e:=e) h
     rw[←he] at this
     exact this
    ·rw[if_neg h4]
     exact petN_a h1 h2 h3 h4 h
def rqHd(k:Int)(r:RqT):Bool:=Qd (r.campus<0)||Qd (r.campus≥7)||Qd (r.no<1)||Qd (r.no>1048576)||Qd (r.st<0)||Qd (r.st≥20000)||Qd (r.time<1)||Qd (r.time>1048576)||Qd (k<1)||Qd (k>5)
def vG(a b:Int)(r:RqT):Bool:=Qd (((r.chs.map Ai).length:Int)≥a)&&Qd (((r.chs.map Ai).length:Int)≤b)&&vz [] r.chs
def rq2R(r:RqT):Int:=match vG 0 0 r with
 | true=>rqR2 r (buB ⟨r.gsec,r.glab⟩)
 | false=>290
def rq3R(r:RqT):Int:=match vG 1 1 r with
 | true=>rqR3 r (buB ⟨r.gsec,r.glab⟩) (r.chs.headD ⟨0,0⟩)
 | false=>290
def lA(r:RqT):Int:=match rqHd r.kind r with
 | true=>290
 | false=>if r.kind=1 then rqR1 r (vG 1 8 r) else if r.kind=2 then rq2R r else if r.kind=3 then rq3R r else if r.kind=4 then rqR4 r (vG 1 1 r) else rqR5 r (vG 1 1 r)
theorem r9{r:RqT}(hc:aq r.chs)(h:List Blk):Ev Ae Γq 69 [ag r.row] h (int (lA r)) h:=by
 unfold lA
 cases hh:rqHd r.kind r with
 | true=>exact yz hh h
 | false =>
  simp only
  have hgv:∀h,Ev Ae Γ0 91 [.agg [int r.gsec,int r.glab]] h (bool (buB ⟨r.gsec,r.glab⟩)) h:=fun h=>gq (b:=⟨r.gsec,r.glab⟩) h
  have hk:r.kind=1∨r.kind=2∨r.kind=3∨r.kind=4∨r.kind=5:=by
   simp[rqHd] at hh
   omega
  have hrow:ag r.row=.agg (rqD r.kind r):=rfl
  rw[hrow]
  rcases hk with hk|hk|hk|hk|hk
  ·rw[hk] at hh ⊢
   rw[if_pos rfl]
   exact rq1_a hh (j3 hc _) h
  ·rw[hk] at hh ⊢
   rw[if_neg (by decide),if_pos rfl]
   have hl:=j3 (k:=2) (r:=r) (a:=0) (b:=0) (g:=true) (kk:=false) (n:=((r.chs.map Ai).length:Int)) hc (Qd (((r.chs.map Ai).length:Int)≥0)&&Qd (((r.chs.map Ai).length:Int)≤0))
   unfold rq2R
   cases ht:vG 0 0 r with
   | true =>
    have hn:(((r.chs.map Ai).length:Int)==0)=true:=by
     simp only[vG,Am,decide_eq_true_eq] at ht
     simp only[beq_iff_eq]
     omega
    exact rq2_t hh (ht▸hl) hgv hn h
   | false=>exact rq2_f hh (ht▸hl) h
  ·rw[hk] at hh ⊢
   rw[if_neg (by decide),if_neg (by decide),if_pos rfl]
   have hl:=j3 (k:=3) (r:=r) (a:=1) (b:=1) (g:=true) (kk:=false) (n:=((r.chs.map Ai).length:Int)) hc (Qd (((r.chs.map Ai).length:Int)≥1)&&Qd (((r.chs.map Ai).length:Int)≤1))
   unfold rq3R
   cases ht:vG 1 1 r with
   | true =>
    have hn:((r.chs.map Ai).length:Int)≥1:=by
     simp only[vG,Am,decide_eq_true_eq] at ht
     omega
    have hne:(((r.chs.map Ai).length:Int)==0)=false:=by
     simp only[beq_eq_false_iff_ne,ne_eq]
     omega
    cases hch:r.chs with
    | nil=>rw[hch] at hn;simp at hn
    | cons c l =>
     have hR:ak 0 (r.chs.map Ai) c.row 2:=rowAt (n:=0) (by rw[hch];rfl) rfl
     have:=rq3_t hh (ht▸hl) hgv hne hR h
     simpa only [List.headD_cons] using this
   | false=>exact rq3_f hh (ht▸hl) h
  ·rw[hk] at hh ⊢
   rw[if_neg (by decide),if_neg (by decide),if_neg (by decide),if_pos rfl]
   exact rq4_a hh (j3 hc _) h
  ·rw[hk] at hh ⊢
   rw[if_neg (by decide),if_neg (by decide),if_neg (by decide),if_neg (by decide)]
   exact rq5_a hh (j3 hc _) h
open As (Ab)
theorem yK(e:Int)(h:List Blk):Ev Ae Γq 89 [Ab e] h (int e) h:=As.code_hit rfl e h
theorem vH(h:List Blk):Ev Ae Γq 89 [lit .nilIface] h (int 0) h:=As.code_nil h
noncomputable abbrev uc(s:SecT):List Blk:=[.var [int s.id,int s.course,int s.term,int s.campus,int s.seats,aa (Ad Ar s.mts),aa (Ad Ap s.grs),aa (Ad ab s.labs),bool s.lab]]
theorem sk_bad{s:SecT}(hgr:aq s.grs)(hi:aq s.labs)(hb:rY s=false)(h:List Blk):(Ev Ae Γ0 90 [ag s.row] h (Ab 230) h):=by
 exact AB (AF (d:=D.p (AN (FJ 127 (Value.agg {toList:=[ED Ak 230]})))) pok [.val (bool (rY s)),.b true] (by kernel_rfl) (.c (@gZ (s) (hgr) (hi) ((uc s))) (.c (show(!rY s)=true from(by rw[hb]<;>rfl)) .n)) rfl rfl h) (by rfl) (by rfl)
noncomputable abbrev qG(s:SecT):List Blk:=[.var [int s.id,int s.course,int s.term,int s.campus,int s.seats,aa (Ad Ar s.mts),aa (Ad Ap s.grs),aa (Ad ab s.labs),bool s.lab]]
theorem sk_me{s:SecT}(hgr:aq s.grs)(hi:aq s.labs)(hb:rY s=true)(hm:(j1 s.mts != 0)=true)(h:List Blk):(Ev Ae Γ0 90 [ag s.row] h (Ab (j1 s.mts)) h):=by
 exact AB (AF (d:=D.p (AN (FJ 127 (Value.agg {toList:=[ED Ak (j1 s.mts)]})))) pok [.val (bool (rY s)),.b false,.val (int (j1 s.mts)),.b true] (by kernel_rfl) (.c (@gZ (s) (hgr) (hi) ((qG s))) (.c (show(!rY s)=false from(by rw[hb]<;>rfl)) (.c (@t3 (s.mts) ((qG s))) (.c hm .n)))) rfl rfl h) (by rfl) (by rfl)
noncomputable abbrev qH(s:SecT):List Blk:=[.var [int s.id,int s.course,int s.term,int s.campus,int s.seats,aa (Ad Ar s.mts),aa (Ad Ap s.grs),aa (Ad ab s.labs),bool s.lab]]
theorem sk_ok{s:SecT}(hgr:aq s.grs)(hi:aq s.labs)(hb:rY s=true)(hm:(j1 s.mts != 0)=false)(h:List Blk):(Ev Ae Γ0 90 [ag s.row] h (lit .nilIface) h):=by
 exact AB (AF (d:=D.p (AN Value.nilIface)) pok [.val (bool (rY s)),.b false,.val (int (j1 s.mts)),.b false] (by kernel_rfl) (.c (@gZ (s) (hgr) (hi) ((qH s))) (.c (show(!rY s)=false from(by rw[hb]<;>rfl)) (.c (@t3 (s.mts) ((qH s))) (.c hm .n)))) rfl rfl h) (by rfl) (by rfl)
noncomputable abbrev ue(s:SecT):List Blk:=[.var [int s.id,int s.course,int s.term,int s.campus,int s.seats,aa (Ad Ar s.mts),aa (Ad Ap s.grs),aa (Ad ab s.labs),bool s.lab]]
theorem sc_e{s:SecT}{e:Int}(hk:∀h,Ev Ae Γ0 90 [ag s.row] h (Ab e) h)(h:List Blk):(Ev Ae Γq 66 [ag s.row] h (int e) h):=by
 exact AB (AF (d:=int e) pok [.val (D.p (AN (FJ 127 (Value.agg {toList:=[ED Ak e]})))),.val (int e)] (by kernel_rfl) (.c (AJ (Γ':=Γq) (@hk ((ue s)))) (.c (@yK (e) ((ue s))) .n)) rfl rfl h) (by rfl) (by rfl)
noncomputable abbrev uf(s:SecT):List Blk:=[.var [int s.id,int s.course,int s.term,int s.campus,int s.seats,aa (Ad Ar s.mts),aa (Ad Ap s.grs),aa (Ad ab s.labs),bool s.lab]]
theorem sc_n{s:SecT}(hk:∀h,Ev Ae Γ0 90 [ag s.row] h (lit .nilIface) h)(h:List Blk):(Ev Ae Γq 66 [ag s.row] h (int 0) h):=by
 exact AB (AF (d:=int 0) pok [.val (D.p (AN Value.nilIface)),.val (int 0)] (by kernel_rfl) (.c (AJ (Γ':=Γq) (@hk ((uf s)))) (.c (@vH ((uf s))) .n)) rfl rfl h) (by rfl) (by rfl)
def lB(s:SecT):Int:=match rY s with
 | false=>230
 | true=>j1 s.mts
theorem pz{s:SecT}(hgr:aq s.grs)(hi:aq s.labs)(h:List Blk):Ev Ae Γq 66 [ag s.row] h (int (lB s)) h:=by
 unfold lB
 cases hb:rY s with
 | false=>exact sc_e (fun h=>sk_bad hgr hi hb h) h
 | true =>
  cases hm:(j1 s.mts != 0) with
  | true=>exact sc_e (fun h=>sk_me hgr hi hb hm h) h
  | false =>
   have h0:j1 s.mts=0:=by simpa using hm
   rw[h0]
   exact sc_n (fun h=>sk_ok hgr hi hb hm h) h
abbrev kfn(k b:Nat):D:=.fn (.func k) [] [.ref (.ptr b 0)]
abbrev ekM:List Blk:=[.var [fq 53],.var [kfn 55 0],.map [(int 1,.agg [fq 56,fq 57],0),(int 2,.agg [kfn 54 0,fq 60],1),(int 3,.agg [kfn 55 0,fq 61],2),(int 4,.agg [kfn 62 1,fq 63],3),(int 5,.agg [kfn 55 0,fq 61],4),(int 6,.agg [fq 64,fq 65],5),(int 7,.agg [fq 67,fq 68],6),(int 8,.agg [kfn 54 0,fq 70],7),(int 9,.agg [fq 71,fq 72],8)] 9]
abbrev ekMn(n:Nat):List Blk:=[.var [fq 53],.var [kfn 55 n],.map [(int 1,.agg [fq 56,fq 57],0),(int 2,.agg [kfn 54 n,fq 60],1),(int 3,.agg [kfn 55 n,fq 61],2),(int 4,.agg [kfn 62 (n+1),fq 63],3),(int 5,.agg [kfn 55 n,fq 61],4),(int 6,.agg [fq 64,fq 65],5),(int 7,.agg [fq 67,fq 68],6),(int 8,.agg [kfn 54 n,fq 70],7),(int 9,.agg [fq 71,fq 72],8)] 9]
theorem ekinds_b:(Ev Ae Γ0 41 [] [] (.ref (.mp 2)) ekM):=by
 exact AB (Ev.of_sym (h':=[.var [fq 53],.var [D.fn (Aw 55) [] [.ref (.ptr 0 0)]],.map [(int 1,Al [fq 56,fq 57],0),(int 2,Al [D.fn (Aw 54) [] [.ref (.ptr 0 0)],fq 60],1),(int 3,Al [D.fn (Aw 55) [] [.ref (.ptr 0 0)],fq 61],2),(int 4,Al [D.fn (Aw 62) [] [.ref (.ptr 1 0)],fq 63],3),(int 5,Al [D.fn (Aw 55) [] [.ref (.ptr 0 0)],fq 61],4),(int 6,Al [fq 64,fq 65],5),(int 7,Al [fq 67,fq 68],6),(int 8,Al [D.fn (Aw 54) [] [.ref (.ptr 0 0)],fq 70],7),(int 9,Al [fq 71,fq 72],8)] 9]) (d:=.ref (.mp 2)) pok [] (by kernel_rfl) .n) (by rfl) (by rfl)
theorem aI(h:List Blk):Ev Ae Γ0 41 [] h (.ref (.mp (h.length+2))) (h++ekMn h.length):=ekinds_b.frameN (by kernel_rfl) rfl h
end Go.Vi
