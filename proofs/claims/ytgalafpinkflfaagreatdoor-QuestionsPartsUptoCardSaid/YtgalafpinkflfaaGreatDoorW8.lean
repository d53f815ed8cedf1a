/- A part of the proof; no conditions of its own. -/
import Derived.Test.YtgalafpinkflfaaGreatDoorW7
import Derived.Shelf.Slices.In.CompactI
open Bool renaming true->J,false->N
open Option renaming some->G,none->Y
open Go.Vi.mX renaming map->J2,var->eF,loop->Fa,EU->xy
open Go.Exit renaming normal->w8,exit->E8
open Go.Vi.D renaming JY->tf,agg->kb,ref->fE
open Go.Vi.SOp renaming frz->τ,Ju->zld,mask->EZ
open Go.Vi.S4 renaming st->CE,ov->zcB,inl->Α
open Go.IntKind renaming i64->Ζ
open Go.Vi.Ref renaming ptr->ql
open Decidable renaming decide -> eY
open Go.Proofs.Tryz renaming prog -> S5, f44 -> Vq, isAgg3 -> Zf, sizeOf3 -> YO, underlying32 -> W8, f15 -> TN
open List renaming getElem?_eq_some_iff -> Td, length_filter_le -> YZ, map -> S2, length -> S7, mergeSort -> UF, length_cons -> Ue, length_nil -> VF, length_mergeSort -> XN, all -> Tq, all_eq_true -> TW, append_assoc -> WV, getElem?_append_right -> T8, replicate -> Ti, length_map -> Uw, append -> Zg, drop_zero -> Xj, map_append -> Uh, foldl_cons -> TG, length_take -> VX, getElem?_eq_getElem -> TH, take_succ_eq_append_getElem -> Wc, getElem?_map -> Vo, drop_eq_getElem_cons -> Yw, map_cons -> U5
open Go.Vi.uU renaming row -> Tc
open Go.Vi.η renaming row -> Tj
open Go.Vi.uN renaming row -> Ta
open Go.Vi.D renaming JY -> TT, p -> Us, TO -> Tz
open Go.Vi.eO renaming l -> TC
open Go.Vi.Ev renaming zkp -> Tw, zjM -> Tp
open Go.Vi.mX renaming inn -> Tl
open Go.Vi.CS renaming row -> Ts
open Bool renaming and_eq_true -> Tm
open Go.Value renaming int -> Ux
open Go.Sort renaming grow -> WU, putRow -> Un, ahead -> Uz, putCells -> UW, heap_grow_old -> VT, mapBlock -> Ur
open Array renaming getElem?_eq_some_iff -> V8, getElem?_modify -> Xx
open Go.World renaming cell? -> Xh
open Go.Calls renaming mono -> Xp
open Nat renaming le_refl -> T0, le_trans -> Vj, not_lt_zero -> V7
open Go.Lib renaming compact -> Vb
open Go.Vi.CW renaming zmg -> Ww
open Go.IntKind renaming u64 -> TB, wrap -> S8, i64 -> S6
open Go.Vi.uB renaming row -> Tb
open Go.Exit renaming normal -> Tr
open Prod.mk renaming injEq -> Tk
open Int renaming toNat -> S9
open Go Go.Proofs
namespace Go.Vi
set_option maxRecDepth 100000
set_option maxHeartbeats 4000000
variable {a c bO n d5:Int}{l:Or}{ns:bV}{w:eO}
def ij(ns l:bV):Nat:=(ns.filter λx=>!l.contains x).length
theorem BX(l:bV)(n:Int):∀ns:bV,ij ns (l++[n])<=ij ns l
 | []=>by simp[ij]
 |a::ns=>by have ih:=BX l n ns;unfold ij at *;grind
theorem BZ{l:bV}(hn:l.contains n=N):∀{ns:bV},n∈ns->ij ns (l++[n])+1<=ij ns l
 |a::ns,h=>by
  by_cases ha:a=n
  ·subst ha;have ih:=BX l a ns;have h2:(l++[a]).contains a=J:=qk
   unfold ij at *;grind
  ·have h':n∈ns:=(List.mem_cons.1 h).resolve_left λe=>ha e.symm;have ih:=BZ hn h';have h2:(l++[n]).contains a=l.contains a:=by rw[Bool.eq_iff_iff];simp[ha]
   unfold ij at *;grind
theorem HB(hn:n∈ns)(s:RL):ij ns (eqN w d5 bO a s n).2+(eqN w d5 bO a s n).2.length<=ij ns s.2+s.2.length:=by
 unfold eqN;cases hc:s.2.contains n
 ·cases zti w d5 bO a n;·simp
  ·have:=BZ hc hn;simp;omega
 ·simp
theorem iT{w:eO}{d5 bO a:Int}{ns:bV}:∀(ms:bV),(∀n∈ms,n∈ns)->∀s:RL,ij ns (ms.foldl (eqN w d5 bO a) s).2+(ms.foldl (eqN w d5 bO a) s).2.length<=ij ns s.2+s.2.length/\(ms.foldl (eqN w d5 bO a) s).1.length<=s.1.length+ms.length
 | [],_,s=>qk
 |n::ms,h,s=>by have h1:=HB (w:=w) (d5:=d5) (bO:=bO) (a:=a) (h n qk) s;have h2:=iT (w:=w) (d5:=d5) (bO:=bO) (a:=a) ms (λx hx=>h x (List.mem_cons_of_mem _ hx)) (eqN w d5 bO a s n);have h3:=HA (w:=w) (d5:=d5) (bO:=bO) (a:=a) s n;grind
def zcX(w:eO)(d5 bO:Int)(ns:bV):Nat->Nat->RL->RL
 |0,_,s=>s
 |f+1,i,s=>match s.2[i]? with
  |some a=>zcX w d5 bO ns f (i+1) (zlB w d5 bO ns a s)
  |none=>s
theorem gi{f i:Nat}{s:RL}(h:s.2[i]?=Y):zcX w d5 bO ns f i s=s:=by cases f<;>simp[zcX,h]
theorem eo_g(hwf:ah w.f)(hn:ns.length<=1000){rs:iF}{l:bV}(hb:rs.length<=900000000)(hl:ij ns l+l.length<=ns.length+1):CW S5 fI [] false (.loop (sub Tryz.f45 0)) (eoS w d5 bO (zaQ ns) rs l 0) (.exit 0) (eoE w (zcX w d5 bO ns (ns.length+1) 0 (rs,l)).1 (zcX w d5 bO ns (ns.length+1) 0 (rs,l)).2):=by
 refine CW.loop (ι:={p:Nat×Nat×RL // p.2.1+p.1=ns.length+1/\ij ns p.2.2.2+p.2.2.2.length<=ns.length+1/\p.2.2.1.length<=rs.length+p.2.1*1000/\zcX w d5 bO ns p.1 p.2.1 p.2.2=zcX w d5 bO ns (ns.length+1) 0 (rs,l)})
  (λp=>eoS w d5 bO (zaQ ns) p.1.2.2.1 p.1.2.2.2 p.1.2.1) (λ_=>(.exit 0,eoE w (zcX w d5 bO ns (ns.length+1) 0 (rs,l)).1 (zcX w d5 bO ns (ns.length+1) 0 (rs,l)).2)) (λp=>p.1.1) ?_ ⟨(ns.length+1,0,(rs,l)),by simp,hl,by simp,rfl⟩
 rintro⟨⟨f,i,s⟩,h1,h2,h3,h4⟩;simp only at h1 h2 h3 h4 ⊢;cases ha:s.2[i]? with
 | none =>refine .inr ⟨by simp,?_⟩;rw[gi ha] at h4;rw[<-h4];refine RQ ?_;grind
 | some a =>
  have hi:=(Td.1 ha).1;obtain⟨g,rfl⟩:∃g,f=g+1:=⟨f-1,by omega⟩;have hf:=iT (w:=w) (d5:=d5) (bO:=bO) (a:=a) (ns:=ns) ns (λ_ h=>h) s;refine .inl ⟨⟨(g,i+1,zlB w d5 bO ns a s),by grind,by grind [zlB],by grind [zlB],?_⟩,by simp only;omega,trivial,?_⟩;·simp only[zcX,ha] at h4;exact h4
  ·refine RP hwf hn ha ?_ ?_ ?_ ?_;·rw[wrap_i64 (by omega) (by omega)];omega
   ·grind
   ·omega
   ·omega
def lQ(w:eO)(c d5 bO:Int):RL:=zcX w d5 bO (af w.f bO) ((af w.f bO).length+1) 0 ([rdN],[c])
def DE(w:eO)(c d5 bO:Int):bV:=(lQ w c d5 bO).2.mergeSort λx y=>eY (x<=y)
theorem Lc{x0 x1 x3:mX}{l:bV}(hl:l.length<4611686018427387904):Ev S5 fI 107 (zbn 2 0) [x0,x1,.eQ (nuV l) 0 1,x3] (tf []) [x0,x1,.eQ (nuV (l.mergeSort λx y=>eY (x<=y))) 0 1,x3] :=sJ (h:=[x0,x1,.eQ (nuV l) 0 1,x3]) (b:=2) rfl hl
theorem yq(ns:bV)(c:Int):ij ns [c] + [c].length<=ns.length+1:=by have:=YZ (λx=>!([c]:bV).contains x) ns;unfold ij;grind
theorem eo1_cw{w:eO}(hw:w.ok){c d5 bO:Int}(hn:(af w.f bO).length<=1000):CW S5 fI [] false (.loop (sub Tryz.f45 0)) {t:=oz 100 0 [(2,dd d5),(3,dd bO),zfr,zcU,ze0,(10,ab (zaQ (af w.f bO))),zfM,(12,dd 0)],h:=[.var w.l,.eQ zdX 0 5,.eQ [[dd c]] 0 1,.map [(dd c,eP true,0)] 1],m:=[]}
   (.exit 0) (eoE w (lQ w c d5 bO).1 (lQ w c d5 bO).2) :=
 eo_g hw.sf hn (rs:=[rdN]) (l:=[c]) (by simp) (yq _ _)
noncomputable abbrev nh(w:eO):aT:=[eF (ZA w)]
abbrev ZW(a:iF):List (bY):=S2 (λx=>S2 Us x) (qm a)
abbrev zjh(a:bv)(b:iF):D:=(tf [ab a,ab (qm b)])
theorem RR(hw:w.ok)(hc:(!(eY (c>=0)&&eY (c<=4095))||!(eY (d5>=0)&&eY (d5<=1023)))=N)(hn:(af w.f bO).length<=1000)(hl:(lQ w c d5 bO).2.length<4611686018427387904)(hnum:∀h,Ev S5 fI 105 [kb w.l,dd bO] h (tf [ab (zaQ (af w.f bO)),fE (.eQ h.length 0)]) (h++[.eQ zdX 0 5]))(h:aT):(Ev S5 fI 45 (zbE w c d5 bO) h (zjh (zaQ (DE w c d5 bO)) ((lQ w c d5 bO).1)) h):=by have xd:=(@eo1_cw (w) (hw) (c) (d5) (bO) (hn));refine yD (TT [ab (zcd (DE w c d5 bO)),ab (qm (lQ w c d5 bO).fst)]) [.v (@bD c 0 4095 (nh w)),.w (!!(eY (c>=0)&&eY (c<=4095))) (@bD d5 0 1023 (nh w)),.b hc,.c (@hnum (nh w)),.s [2,3,4,8,9,10,11,12] xd,.c (@Lc (eF (TC w)) (zb8 ((lQ w c d5 bO).fst) 0) (J2 (aW (lQ w c d5 bO).2) (S7 (lQ w c d5 bO).2)) ((lQ w c d5 bO).2) hl),(?_:nuV (UF (lQ w c d5 bO).2 λx y=>eY (x<=y))=S2 (λx=>S2 Us x) (zcd (DE w c d5 bO))),(?_:S2 (Tz (cw 2 0 (zcd (DE w c d5 bO)))) (ad (qm (lQ w c d5 bO).fst))=ad (qm (lQ w c d5 bO).fst)),(?_:S2 (λe=>(D.EY (cw 2 0 (zcd (DE w c d5 bO))) e.fst,D.EY (cw 2 0 (zcd (DE w c d5 bO))) e.2.fst,e.2.2)) (aW (lQ w c d5 bO).2)=aW (lQ w c d5 bO).2),(?_:ad (qm (lQ w c d5 bO).fst)=(ZW ((lQ w c d5 bO).fst))),(?_:S2 (λe=>(D.EY (cw 1 0 (qm (lQ w c d5 bO).fst)) e.fst,D.EY (cw 1 0 (qm (lQ w c d5 bO).fst)) e.2.fst,e.2.2)) (aW (lQ w c d5 bO).2)=aW (lQ w c d5 bO).2),.o (τ 2 (zcd (DE w c d5 bO))),.o (τ 1 (qm (lQ w c d5 bO).fst))] h lj<;>(first|rfl|exact LR _|exact aB _ _|exact db _ _)
theorem yr{w:eO}{d5 bO:Int}{ns:bV}:∀(f i:Nat) (s:RL),ij ns (zcX w d5 bO ns f i s).2+(zcX w d5 bO ns f i s).2.length<=ij ns s.2+s.2.length/\(zcX w d5 bO ns f i s).1.length<=s.1.length+f*ns.length
 |0,_,s=>by simp[zcX]
 |f+1,i,s=>by
  cases ha:s.2[i]? with
  |none=>rw[gi ha];simp
  |some a=>have h1:=iT (w:=w) (d5:=d5) (bO:=bO) (a:=a) (ns:=ns) ns (λ_ h=>h) s;have h2:=yr (w:=w) (d5:=d5) (bO:=bO) (ns:=ns) f (i+1) (zlB w d5 bO ns a s);simp[zcX,ha];grind [zlB,Nat.add_mul]
theorem B0:(lQ w c d5 bO).2.length<=(af w.f bO).length+1/\(lQ w c d5 bO).1.length<=1+((af w.f bO).length+1)*(af w.f bO).length:=by have h:=yr (w:=w) (d5:=d5) (bO:=bO) (ns:=af w.f bO) ((af w.f bO).length+1) 0 ([rdN],[c]);have h1:=yq (af w.f bO) c;grind [Ue,VF,lQ]
def bQ(w:eO)(c d5 bO:Int):RL:=match (!(eY (c>=0)&&eY (c<=4095))||!(eY (d5>=0)&&eY (d5<=1023))) with
 |true=>([],[c])
 |false=>((lQ w c d5 bO).1,DE w c d5 bO)
theorem lJ(hn:(af w.f bO).length<=1000):(bQ w c d5 bO).1.length<=1001001/\(bQ w c d5 bO).2.length<=1001:=by have h:=B0 (w:=w) (c:=c) (d5:=d5) (bO:=bO);have h2:((af w.f bO).length+1)*(af w.f bO).length<=1001*1000:=Nat.mul_le_mul ji hn;grind [DE,XN,bQ]
noncomputable abbrev tC(w:eO):aT:=[eF (ZA w)]
theorem RS(hc:(!(eY (c>=0)&&eY (c<=4095))||!(eY (d5>=0)&&eY (d5<=1023)))=J)(h:aT):(Ev S5 fI 45 (zbE w c d5 bO) h (tf [ab (zaQ [c]),ab (qm [])]) h):=Tw (Ev.zhC (y0 (d:=TT [ab [[vi c]],nq]) [.v (@bD c 0 4095 (tC w)),.w (!!(eY (c>=0)&&eY (c<=4095))) (@bD d5 0 1023 (tC w)),.b hc,pr [[dd c]],.n 1,.o (τ 1 [[vi c]])] h)) EX EX
theorem Ld(hw:w.ok)(hn:(af w.f bO).length<=1000)(h:aT):Ev S5 fI 45 (zbE w c d5 bO) h (tf [ab ((bQ w c d5 bO).2.map λn=>[vi n]),ab (qm (bQ w c d5 bO).1)]) h:=by
 unfold bQ;cases hc:(!(eY (c>=0)&&eY (c<=4095))||!(eY (d5>=0)&&eY (d5<=1023)));·exact RR hw hc hn (by have:=(B0 (w:=w) (c:=c) (d5:=d5) (bO:=bO)).1;omega) (λh=>qj hw.lf hw.sf h) h
 ·exact RS hc h
theorem yu{w:eO}(hw:w.ok){c d5 bO:Int}(hn:(af w.f bO).length<=1000)(h:aT):Ev S5 jV 45 (zbE w c d5 bO) h (tf [ab ((bQ w c d5 bO).2.map λn=>[vi n]),ab (qm (bQ w c d5 bO).1)]) h:=Tp (Ld hw hn h)
abbrev zbo(a:iF)(b:eO)(c d e:Int):List (bY):=(ad (qm (a++(bQ b c d e).fst)))
noncomputable abbrev lK(w:eO)(bO:Int)(n:Int)(d5:Int)(rs:iF):aT:=[eF (ZQ 1 w bO),.eQ (zbo rs w n d5 bO) 1 5]
noncomputable abbrev vA(w:eO)(bO:Int)(rs:iF):aT:=[eF (ZQ 0 w bO),.eQ (ad (qm rs)) 0 5]
abbrev zjl(a:Int)(b:eO)(c d:Int):D:=ab (S2 (λa=>[vi a]) (bQ b a c d).2)
theorem tD{w:eO}(hw:w.ok){bO n d5:Int}(hn:(af w.f bO).length<=1000){rs:iF}(hb:rs.length<=990000000):(Ev S5 jV 94 (zbF 0 n d5) (lkH w bO rs 0) (ab ((bQ w n d5 bO).2.map λn=>[vi n])) (lkH w bO (rs++(bQ w n d5 bO).1) 1)):=by refine Tw (Ev.post (d2:=(zjl n w d5 bO)) (h2:=(lK w bO n d5 rs)) (φ:=[Tl 2 (eF (ZQ 1 w bO))=J,Tl 2 (.eQ (zbo rs w n d5 bO) 1 5)=J]) zg3 (yF (h':=(lK w bO n d5 rs)) (d:=(zjl n w d5 bO)) [.v (@yu w hw n d5 bO hn (vA w bO rs)),.c (@Bu w bO rs ((bQ w n d5 bO).fst) ?_)]) Z ⟨rfl,?_,trivial⟩) lj lj<;>(first|exact aD _ _|(have:=(lJ (w:=w) (c:=n) (d5:=d5) (bO:=bO) hn).1;omega))
abbrev reqV(l:Or):List (bY):=l.map λq=>q.row.map .p
abbrev zdP:List (bY):=([]:List (bY))
abbrev zhc(a:Or):List (bY):=S2 (λx=>S2 Us x) (S2 Ts a)
theorem HC(hl:l.length<=1000000):(Tq (zhc l) (aL 6)&&uO (S7 zdP+S7 (zhc l)) 88)=J:=by
 rw[Tm];constructor;·rw[TW];intro x hx;simp at hx;obtain⟨q,_,rfl⟩:=hx;rfl
 ·simp;grind [uO]
abbrev ziY(b:bv)(c:Bool):bY:=oz 8 0 [(0,ab b),(2,nq),(3,ab b),(4,eP c)]
abbrev zdZ(a:Or):AS:={t:=(ziY (a.map Ts) N),h:=[],m:=[]}
abbrev zgS:bY:=oz 8 0 [(2,fE (.eQ 0 1))]
theorem HD(hl:l.length<=1000000):(CW S5 fI [] N (cR (cR (al Vq))) (zdZ l) .ret {t:=zgS,h:=[.eQ (reqV l) 1 6],m:=[]}):=yX {t:=zgS,h:=[.eQ (zhc l) 1 6],m:=[]} Exit.ret (zeI 2) [((by exact HC hl):(Tq (S2 (λx=>S2 Us x) (S2 Ts l)) (aL 6)&&uO (S7 ([]:List (bY))+S7 (S2 (λx=>S2 Us x) (S2 Ts l))) 88)=J)] lj (by simp_all)
theorem cl_r0:(CW S5 fI [] N (cL (al Vq)) {t:=oz 8 0 [(0,ab (l.map Ts))],h:=[],m:=[]} w8 {t:=oz 8 0 [(0,ab (l.map Ts)),(2,nq)],h:=[],m:=[]}):=yx [CE (EZ [0,2])] []
theorem cl_c:(CW S5 fI [] N (cR (cL (cR (al Vq)))) (zdZ l) w8 (zdZ l)):=yx [CE (EZ [0,2,3,4])] [.e]
def rOps:Code->BY
 |.region _ o _=>o
 |_=>#[]
def rId:Code->Nat
 |.region i _ _=>i
 |_=>0
theorem B1:al Vq=.seq (cL (al Vq)) (.seq (.seq (.region (rId (cL (cL (cR (al Vq))))) (rOps (cL (cL (cR (al Vq))))) N) (cR (cL (cR (al Vq))))) (cR (cR (al Vq)))):=Z
def noC:ς:=λ_ _ _=>Y
theorem noC_ok:noC.Ok S5 fI:=λ_ _ _ _ h=>by simp[noC] at h
def lastO(o:oF):Oper:=o.getLastD default
abbrev clT(l:Or)(b:Bool):bY:=(ziY (l.map Ts) b)
theorem zqF{b:Bool}:J4 (oz 8 0 [(0,ab (l.map Ts)),(2,nq),(3,ab (l.map Ts))]) (lastO (rOps (cL (cL (cR (al Vq))))).toList).dst (lit (.bool b))=clT l b:=Z
theorem cl_r1{X:Ctx}{r:BV}{Q:Exit->AS->Prop}(hQ:∀b:Bool,(b=J->l.map Ts=[])->Q w8 {t:=clT l b,h:=[],m:=[]}):VW S5 fI X r (.region (rId (cL (cL (cR (al Vq))))) (rOps (cL (cL (cR (al Vq))))) N) Q {t:=oz 8 0 [(0,ab (l.map Ts)),(2,nq)],h:=[],m:=[]} :=VW.nilLast (os:=(rOps (cL (cL (cR (al Vq))))).toList.dropLast) (o:=lastO (rOps (cL (cL (cR (al Vq))))).toList) (t:=99) (yt:=99) (x:=3) (t1:=oz 8 0 [(0,ab (l.map Ts)),(2,nq),(3,ab (l.map Ts))]) (h1:=[])
  noC_ok Z (e:=115) Z Z Z Z rfl (λb hb=>zqF.symm▸hQ b hb)
theorem Le{l:List CS}(hl:l.length<=1000000)(hne:l≠[]):Ev S5 fI 44 [ab (l.map Ts)] [] (.ref (.eQ 0 1)) [.eQ (reqV l) 1 6]:=by
 refine Ev.zqd (fn:=Vq) rfl (by kernel_rfl) (e:=.ret) (s:={t:=oz 8 0 [(2,.ref (.eQ 0 1))],h:=[.eQ (reqV l) 1 6],m:=[]}) ?_ (by kernel_rfl)
 rw[B1]
 refine CW.seq (cl_r0 (l:=l)) (CW.seq (s1:={t:=clT l false,h:=[],m:=[]}) (CW.seq (s1:={t:=clT l false,h:=[],m:=[]}) ?_ cl_c) (HD hl))
 intro X r _ _
 refine cl_r1 λb hb=>?_
 cases b with
 | false=>grind
 | true=>simp_all
end Go.Vi
open Go Go.Proofs Go.Shelf Go.RowKit Go.Sort
namespace Go.Vi
set_option maxHeartbeats 4000000
set_option maxRecDepth 100000
variable {P:Program}{b e g:Nat}{h:aT}{l:bV}{Γ:au}{ρ:Ren}
theorem HE{f:FuncId}{vsx:oR}{m:bV}(hb:h[b]? = some (.eQ (cX l) e 1))(hlm:m.length=l.length)(hne:l≠[]){d:D}{rv:Nat->Nat->Nat->Value}(hd:∀{w:World} {av:Nat->Prop} {loc:Loc} {f7 o cap:Nat},loc b=some (f7,mkP o cap)->l.length<=cap->Rel w av loc (h.set b (zjd m e)) d (rv f7 o cap))(H:∀{O:Nat->Prop} {w:World} {loc:Loc} (_:IW Γ O w loc h) (f7 o cap:Nat),sU O loc h f7->f7<w.heap.size->Sort.Holds (Ux .i64) w f7 o l.toArray->l.length<=cap -> Calls P f (#[.slice (some ⟨f7,o,none⟩) l.length cap]++vsx.toArray) w λe w'=>e=.returned (rv f7 o cap)/\∃n os,w'=WU (Un (Ux .i64) (Uz w n) f7 o m.toArray) os) :Ev P Γ f (.ref (.eQ b e)::vsx.map lit) h d (h.set b (zjd m e)):=by
 intro O w loc vs R ra;obtain⟨y,rfl⟩:∃y,vs=y::vsx:=by
  match vs,ra with
  | y::ys,r=>exact⟨y,by rw[mZ r.2]⟩
  | [],r=>simp[ia] at r
 have r:=ra.1;simp only[Rel,qn,hb] at r;have hv:=r.2.2 trivial;have B:=R.f7 b _ hb;simp only[xD] at B;have hlen:(cX l).length=l.length:=by simp[cX]
 refine callsIn_wide.2 ?_;cases ZD:loc b with
 | none =>grind
 | some p =>
  obtain⟨f7,cp⟩:=p;rw[ZD] at hv B;obtain⟨o,cap,rfl,rfl,zlM⟩:=hv;simp only at B;obtain⟨o',cap',rc,c,T,fr,ys,zjx,hcs,hle,hfr,hsz,zlJ,pr,rest,hpr,hcl⟩:=B;obtain⟨rfl,rfl⟩:=dh rc;have hys:=mI zlJ;subst hys;have hblk:f7<w.heap.size:=(V8.1 zjx).1;have zki:sU O loc h f7:=.inr ⟨b,_,mkP o cap,hb,by simp,ZD⟩;have hH:Sort.Holds (Ux .i64) w f7 o l.toArray:=by
   intro j hj;have hj':j<l.length:=by simpa using hj
   have hc:c[o+j]? = some (Ux .i64 l[j]):=by rw[<-Array.getElem?_toList,hcl,WV,T8 (by omega),show o+j-pr.length=j by omega,List.getElem?_append_left (by simpa using hj')];simp[hj']
   constructor;·simp[Xh,zjx,hc,hj']
   ·have:=hfr (o+j) (V8.1 hc).1;obtain⟨lo,hi⟩:=fr;simp only[World.frozen?,zjx];grind
  rw[hlen] at zlM ⊢;have e0:(Value.slice (some ⟨f7,o,none⟩) l.length cap::vsx).toArray=#[.slice (some ⟨f7,o,none⟩) l.length cap]++vsx.toArray:=by simp
  rw[e0];refine Xp (H R f7 o cap zki hblk hH zlM) ?_;rintro e' w' ⟨rfl,n,os,rfl⟩;have zow:(WU (Un (Ux .i64) (Uz w n) f7 o m.toArray) os).heap[f7]? = some (.cells (UW (Ux .i64) o m.toArray c) T fr):=by rw[VT _ _ (by grind [Un,Ur,Uz])];simp[Un,Ur,Uz,Xx,zjx,Sort.onCells]
  have zlr:(UW (Ux .i64) o m.toArray c).toList=pr++m.map (Ux .i64)++rest:=by
   unfold UW;rw[Array.toList_mapIdx,hcl];apply List.ext_getElem?;intro i;rw[List.getElem?_mapIdx];by_cases hp:i<pr.length;·grind
   obtain⟨q,rfl⟩:∃q,i=pr.length+q:=⟨i-pr.length,by omega⟩;rw[jP,jP];by_cases hi:q<l.length;·grind
   ·grind
  have key:=R.step (w':=WU (Un (Ux .i64) (Uz w n) f7 o m.toArray) os) (l':=loc) (h':=h.set b (zjd m e)) b (zjd m e)
   (by simp_all) ⟨rfl,rfl,rfl,by simp[WU,Un,Ur,Uz]⟩ (λi hi=>b9 _ _ hi) (bk hb) (λ_ _=>rfl)
   (λz hz=>by rw[hb] at hz;cases hz;exact⟨⟨T0 _,λ_=>by grind,rfl⟩,λ_=>rfl⟩)
   (λk hk hno=>by
    have hkb:k≠f7:=λe=>hno _ (mkP o cap) hb (by simp) (by rw[ZD,e])
    rw[VT _ _ (by grind [Un,Ur,Uz])]
    grind [Un,Ur,Uz])
   (λk c hk=>.inl ⟨_,c,hb,by simp,hk⟩)
   (λE=>by
    simp only[xD,ZD]
    refine⟨o,cap,rfl,_,T,fr,m.map (Ux .i64),zow,?_,?_,?_,?_,jQ,pr,rest,hpr,zlr⟩
    ·grind [UW]
    ·grind
    ·grind [UW]
    ·simp[cX])
  grind
theorem Ag{O:Nat->Prop}{cf:Int->Int->Int}{w:World}{loc:Loc}(R:IW Γ O w loc h){f7:Nat}(hblk:sU O loc h f7)(hE:∀x y,Ev P Γ g [(zf9 x),(zf9 y)] [] (lit (.int Ζ (cf x y))) [])(o size:Nat):CmpLays1 P g #[] (Ux Ζ) cf f7 o size w:=by
 intro m os dk hs x y;generalize hW:sortWorld (Ux Ζ) w f7 o m dk os=W;have hb:f7<w.heap.size:=by
  rcases hblk with ho|ho;·exact R.obd f7 ho
  ·exact(R.inb f7 ho).1
 have zml:∀b off v,¬sU O loc h b->w.cell? ⟨b,off,Y⟩=G v->W.cell? ⟨b,off,Y⟩=G v/\¬sU (λ_=>False) loc [] b:=by
  intro b off v hn hc;have hne:b≠f7:=λe=>hn (e▸hblk);refine⟨?_,λho=>ho.elim id (λh=>absurd h dT)⟩;subst hW;have lL:b<w.heap.size:=by
   simp only[Xh] at hc;split at hc;·grind
   ·simp at hc
  have:(sortWorld (Ux Ζ) w f7 o m dk os).heap[b]?=w.heap[b]?:=by unfold sortWorld;rw[VT _ _ (by grind [Un,Ur,Uz])];simp[Un,Ur,Uz,Xx,Ne.symm hne]
  simp only[Xh,this];exact hc
 have R0:IW Γ (λ_=>False) W loc []:=by refine⟨λf7 ho=>absurd ho dT,λf7 ho=>ho.elim,λb b' x x' k c c' hb=>by simp at hb,λb x hb=>by simp at hb,λg cs hg=>?_⟩;exact xf.mono zml g 0 cs (R.glo g cs hg)
 have ra:ia W (sU (λ_=>False) loc []) loc [] [(zf9 x),(zf9 y)] [.int Ζ x,.int Ζ y]:=by simp[ia,Rel,F3]
 refine Xp (callsIn_wide.1 (hE x y (λ_=>False) W loc _ R0 ra)) ?_;rintro e w' ⟨v,d2,h2,l',rfl,⟨rfl,rfl⟩,R',E',rd⟩;refine⟨?_,tp E'.size (λb hb=>E'.same b hb dT) E'.tape⟩;have:v=.int Ζ (cf x y):=by simpa[Rel,F3] using rd
 rw[this]
abbrev cmpZ(x y:Int):Int:=if x<y then -1 else if x>y then 1 else 0
theorem ltZ(x y:Int):ltOf cmpZ x y=eY (x<y):=by unfold ltOf cmpZ;grind
theorem Dn(ok:POk P)(L:SlLaysF.n6 P ρ)(hg:fK P g=true)(hE:∀x y,Ev P Γ g [lit (.int .i64 x),lit (.int .i64 y)] [] (lit (.int .i64 (cmpZ x y))) [])
  {h:List mX}  {l:List Int} (hb:h[b]? = some (.eQ (cX l) e 1)) (hl:l.length<4611686018427387904) (hne:l≠[]) :
  Ev P Γ (ρ.f 6) [.ref (.eQ b e),.p (.v (.func (.func g) #[] #[]))] h (.JY []) (h.set b (.eQ (cX (l.mergeSort λx y=>eY (x<=y))) e 1)):=by
 refine HE (vsx:=[.func (.func g) #[] #[]]) hb (by simp) hne (rv:=λ_ _ _=>.tuple #[]) (λ_ _=>by simp[Rel,ia]) λR f7 o cap zki hblk hH zlM=>?_
 have eg:∀args w,(callFunc g args).run P w=.ok (.enter g args) w:=λargs w=>by
  unfold fK at hg
  split at hg
  ·rename_i fn hfn;exact ziR ok hfn hg args w
  ·simp at hg
 have h1:=Any.slices_SortFunc_total L (Ux .i64) (λ_=>rfl) cmpZ ⟨λx=>by rw[ltZ];simp,λx y z h1 h2=>by grind [ltZ],λx y z h1 h2=>by grind [ltZ]⟩ g #[] f7 o cap l.toArray _ eg (Ag R zki hE o _) hH hblk (by simpa using hl) (λx y h1 h2=>by grind [ltZ])
 have e2:(l.mergeSort λx y=>!(ltOf cmpZ) y x)=l.mergeSort λx y=>eY (x<=y):=by
  congr 1
  funext x y
  rw[ltZ]
  by_cases h:x<=y<;>simp[h]<;>omega
 refine Xp (by simpa using h1) ?_
 rintro e' w' ⟨rfl,n,os,rfl⟩
 refine⟨rfl,n,os,?_⟩
 rw[<-e2]
 rfl
theorem HF(L:Lays2.n20 P ρ)(hb:h[b]? = some (.eQ (cX l) e 1))(hl:l.length<4611686018427387904)(hne:l≠[]):Ev P Γ (ρ.f 20) (zbn b e) h (.ref (.vs b e 0 (Vb l).length none)) (h.set b (zjd (Vb l++Ti (l.length-(Vb l).length) 0) e)):=by
 have hc:(Vb l).length<=l.length:=by unfold Vb Lib.compactUpTo;rw[Uw];exact Vj (YZ _ _) (by simp)
 refine HE (vsx:=[]) hb (by simp;omega) hne (rv:=λf7 o cap=>.slice (some ⟨f7,o,none⟩) (Vb l).length cap) (λ{w av loc f7 o cap} ZD zlM=>?_) λR f7 o cap zki hblk hH zlM=>?_;·simp only[Rel,qn,bk hb];exact⟨rfl,T0 _,λ_=>⟨by simp[cX],f7,o,cap,cap,ZD,.inl (by simp),by omega,by omega,λk h=>by cases h⟩⟩
 ·refine Xp (calls_of_every_depth λD=>AnyS.slices_Compact_int_in L D f7 o cap l _ hH (by omega) zlM) ?_;rintro e' w' ⟨rfl,n,rfl⟩;exact⟨rfl,n,#[],(Sort.grow_empty _).symm⟩
end Go.Vi
open Go Go.Proofs
set_option maxRecDepth 100000
namespace Go.Proofs
open Go.Shelf
def Tryz.zpl:Go.Shelf.Ren:=⟨fun|6=>46|15=>109|14=>108|28=>186|29=>187|20=>178|21=>179|22=>180|23=>181|24=>182|25=>183|26=>184|27=>185|46=>261|47=>262|48=>263|49=>264|50=>265|57=>307|n=>n,fun|22=>32|24=>3|25=>117|3=>3|39=>196|0=>0|53=>263|55=>265|4=>4|46=>257|45=>256|50=>191|5=>5|9=>9|66=>334|70=>338|76=>361|77=>362|n=>n,fun|n=>n⟩
theorem Tryz.sortFI:Go.Proofs.SlLaysF.n6 S5 Tryz.zpl:={
 mixed:=by kernel_rfl
 f6:=⟨Tryz.f46.name,by decide,Tryz.func46.trans (congrArg some (by kernel_rfl))⟩
 f14:=⟨Tryz.f108.name,by decide,Tryz.func108.trans (congrArg some (by kernel_rfl))⟩
 f15:=Tryz.func109.trans (congrArg some (by kernel_rfl))
 f20:=⟨Tryz.f178.name,by decide,Tryz.func178.trans (congrArg some (by kernel_rfl))⟩
 f21:=⟨Tryz.f179.name,by decide,Tryz.func179.trans (congrArg some (by kernel_rfl))⟩
 f22:=⟨Tryz.f180.name,by decide,Tryz.func180.trans (congrArg some (by kernel_rfl))⟩
 f23:=⟨Tryz.f181.name,by decide,Tryz.func181.trans (congrArg some (by kernel_rfl))⟩
 f24:=⟨Tryz.f182.name,by decide,Tryz.func182.trans (congrArg some (by kernel_rfl))⟩
 f25:=⟨Tryz.f183.name,by decide,Tryz.func183.trans (congrArg some (by kernel_rfl))⟩
 f26:=⟨Tryz.f184.name,by decide,Tryz.func184.trans (congrArg some (by kernel_rfl))⟩
 f27:=⟨Tryz.f185.name,by decide,Tryz.func185.trans (congrArg some (by kernel_rfl))⟩
 f28:=Tryz.func186.trans (congrArg some (by kernel_rfl))
 f29:=Tryz.func187.trans (congrArg some (by kernel_rfl))
 f46:=⟨Tryz.f261.name,by decide,Tryz.func261.trans (congrArg some (by kernel_rfl))⟩
 f47:=Tryz.func262.trans (congrArg some (by kernel_rfl))
 f48:=Tryz.func263.trans (congrArg some (by kernel_rfl))
 f49:=⟨Tryz.f264.name,by decide,Tryz.func264.trans (congrArg some (by kernel_rfl))⟩
 f50:=⟨Tryz.f265.name,by decide,Tryz.func265.trans (congrArg some (by kernel_rfl))⟩
 f57:=⟨Tryz.f307.name,by decide,Tryz.func307.trans (congrArg some (by kernel_rfl))⟩
 t0:=Tryz.underlying0
 a0:=Tryz.isAgg0
 z0:=Tryz.sizeOf0
 v0:=Tryz.zeroValue0
 t3:=Tryz.underlying3
 a3:=Zf
 z3:=YO
 v3:=Tryz.zeroValue3
 t4:=Tryz.underlying4
 a4:=Tryz.isAgg4
 z4:=Tryz.sizeOf4
 v4:=Tryz.zeroValue4
 t5:=Tryz.underlying5
 a5:=Tryz.isAgg5
 z5:=Tryz.sizeOf5
 v5:=Tryz.zeroValue5
 t9:=Tryz.underlying9
 a9:=Tryz.isAgg9
 z9:=Tryz.sizeOf9
 v9:=Tryz.zeroValue9
 t22:=W8
 a22:=Tryz.isAgg32
 z22:=Tryz.sizeOf32
 v22:=Tryz.zeroValue32
 a24:=Zf
 z24:=YO
 t25:=Tryz.underlying117
 a25:=Tryz.isAgg117
 z25:=Tryz.sizeOf117
 v25:=Tryz.zeroValue117
 t39:=Tryz.underlying196
 a39:=Tryz.isAgg196
 z39:=Tryz.sizeOf196
 v39:=Tryz.zeroValue196
 t45:=Tryz.underlying256
 a45:=Tryz.isAgg256
 z45:=Tryz.sizeOf256
 v45:=Tryz.zeroValue256
 t46:=Tryz.underlying257
 a46:=Tryz.isAgg257
 z46:=Tryz.sizeOf257
 v46:=Tryz.zeroValue257
 t50:=Tryz.underlying191
 a50:=Tryz.isAgg191
 z50:=Tryz.sizeOf191
 v50:=Tryz.zeroValue191
 t53:=Tryz.underlying263
 a53:=Tryz.isAgg263
 z53:=Tryz.sizeOf263
 v53:=Tryz.zeroValue263
 t55:=Tryz.underlying265
 a55:=Tryz.isAgg265
 z55:=Tryz.sizeOf265
 v55:=Tryz.zeroValue265
 t66:=Tryz.underlying334
 a66:=Tryz.isAgg334
 z66:=Tryz.sizeOf334
 v66:=Tryz.zeroValue334
 t70:=Tryz.underlying338
 a70:=Tryz.isAgg338
 z70:=Tryz.sizeOf338
 v70:=Tryz.zeroValue338
 t76:=Tryz.underlying361
 a76:=Tryz.isAgg361
 z76:=Tryz.sizeOf361
 v76:=Tryz.zeroValue361
 t77:=Tryz.underlying362
 a77:=Tryz.isAgg362
 z77:=Tryz.sizeOf362
 v77:=Tryz.zeroValue362}
def Tryz.zqS:Go.Shelf.Ren:=⟨fun|20=>48|n=>n,fun|22=>32|3=>3|4=>4|0=>0|n=>n,fun|n=>n⟩
theorem Tryz.compI:Go.Proofs.Lays2.n20 S5 Tryz.zqS:={
 mixed:=by kernel_rfl
 f20:=Tryz.func48.trans (congrArg some (by kernel_rfl))
 t0:=Tryz.underlying0
 a0:=Tryz.isAgg0
 z0:=Tryz.sizeOf0
 v0:=Tryz.zeroValue0
 t3:=Tryz.underlying3
 a3:=Zf
 z3:=YO
 v3:=Tryz.zeroValue3
 t4:=Tryz.underlying4
 a4:=Tryz.isAgg4
 z4:=Tryz.sizeOf4
 v4:=Tryz.zeroValue4
 t22:=W8
 a22:=Tryz.isAgg32
 z22:=Tryz.sizeOf32
 v22:=Tryz.zeroValue32
 i3:=by kernel_rfl}
end Go.Proofs
namespace Go.Vi
set_option maxRecDepth 100000
set_option maxHeartbeats 4000000
open Go.Shelf
variable {b e:Nat}
theorem HG{h:List mX}{l:List Int}(hb:h[b]? = some (.eQ (cX l) e 1))(hl:l.length<4611686018427387904)(hne:l≠[]):
  Ev S5 fI 46 [.ref (.eQ b e),.p (.v (.func (.func 47) #[] #[]))] h (.JY []) (h.set b (.eQ (cX (l.mergeSort λx y=>eY (x<=y))) e 1)) :=
 Dn ZK Tryz.sortFI (by kernel_rfl) (λx y=>dl x y []) hb hl hne
theorem Lf{h:aT}{l:bV}(hb:h[b]?=G (.eQ (cX l) e 1))(hl:l.length<4611686018427387904)(hne:l≠[]):Ev S5 fI 48 (zbn b e) h (fE (.vs b e 0 (Vb l).length Y)) (h.set b (zjd (Vb l++Ti (l.length-(Vb l).length) 0) e)):=HF Tryz.compI hb hl hne
end Go.Vi
open Go Go.Proofs
namespace Go.Vi
set_option maxRecDepth 100000
set_option maxHeartbeats 4000000
variable {H:List mX}{L:bv}{a c e3 en bO md mn ms n st d5:Int}{e:Exit}{fs:List Int}{h:aT}{i k:Nat}{l:List uB}{p:gM}{q:CS}{q1 q2 q3 rs:List CX}{r:JZ}{w:eO}{x1 x3:List (List Dp)}
abbrev lokH(rs:iF)(e:Nat):aT:=[eF (zbn 1 e),.eQ (ad (qm rs)) e 5]
abbrev zfX(a:iF)(b:Nat):bY:=[ab (qm a),fE (ql b 0)]
theorem yv{rs qs:iF}(hb:rs.length+qs.length<=3000000000000):(Ev S5 fI 39 (zfX qs 0) (lokH rs 0) (tf []) (lokH (rs++qs) 1)):=Tw (yF (h':=[eF (zbn 1 1),.eQ (zkd rs (ZW qs)) 1 5]) (d:=TT []) [((by(simp only[Qa,uO,Bool.true_and,Tm,decide_eq_true_eq,Uw];omega)):(Tq (S2 (λx=>S2 Us x) (qm qs)) (aL 5)&&uO (S7 (ad (qm rs))+S7 (S2 (λx=>S2 Us x) (qm qs))) 40)=J)]) lj lj
theorem Dq(h:aT):(Ev S5 fI 48 [nq] h (ab []) h):=Tw (Ev.zhC (y0 (d:=nq) [.e] h)) EX EX
abbrev zeC(a:aT):AS:={t:=oz 53 0 [(0,nq),(1,dd 0),(2,dd 0),(3,fq 47),(8,dd 1)],h:=a,m:=[]}
theorem sfi_i{H:aT}:(CW S5 fI H N (sub Tryz.f178 0) (zeC H) (E8 0) (zev 53 H)):=yx zbN [.e]
theorem sfi_cw{H:aT}:CW S5 fI H false (.loop (sub Tryz.f178 0)) (zeC H) (.exit 0) (zev 53 H) :=Ww 0 (λ_=>(zeC H)) (by simp) (λi hi=>absurd hi (V7 i)) sfi_i
theorem Lg{H:aT}:(Ev S5 fI 178 [nq,dd 0,dd 0,fq 47] H (tf []) H):=by have xd:=(@sfi_cw (H));exact Tw (yF (h':=H) (d:=TT []) [.s [0,1,2,3,8] xd]) EX EX
abbrev zc6(a:aT):AS:={t:=oz 148 0 [(0,nq),(1,dd 0),(2,dd 0),(3,dd 0),(4,fq 47),(10,eP J),(11,eP J)],h:=a,m:=[]}
theorem sfp_i{H:aT}:(CW S5 fI H N (sub Tryz.f108 0) (zc6 H) .ret (zev 148 H)):=yx zbN [.e,.v (@Lg H)]
theorem sfp_cw{H:aT}:CW S5 fI H false (.loop (sub Tryz.f108 0)) (zc6 H) .ret (zev 148 H) :=Ww 0 (λ_=>(zc6 H)) (by simp) (λi hi=>absurd hi (V7 i)) sfp_i
theorem Lh{H:aT}:(Ev S5 fI 108 [nq,dd 0,dd 0,dd 0,fq 47] H (tf []) H):=by have xd:=(@sfp_cw (H));exact Tw (yF (h':=H) (d:=TT []) [.s [0,1,2,3,4,10,11] xd]) EX EX
theorem RT(h:aT):(Ev S5 fI 109 [u64 (TB.wrap 0)] h (dd 0) h):=y0 [(rfl:L9 (S8 IntKind.u8 (S8 TB 0)) (ByteArray.size {data:=List.toArray (Zg (Zg [0,1,2,2,3,3,3,3,4,4,4,4,4,4,4,4,5,5,5,5,5,5,5,5,5,5,5,5,5,5,5,5,6,6,6,6,6,6,6,6,6,6,6,6,6,6,6,6,6,6,6,6,6,6,6,6,6,6,6,6,6,6,6,6] [7,7,7,7,7,7,7,7,7,7,7,7,7,7,7,7,7,7,7,7,7,7,7,7,7,7,7,7,7,7,7,7,7,7,7,7,7,7,7,7,7,7,7,7,7,7,7,7,7,7,7,7,7,7,7,7,7,7,7,7,7,7,7,7]) (Zg [8,8,8,8,8,8,8,8,8,8,8,8,8,8,8,8,8,8,8,8,8,8,8,8,8,8,8,8,8,8,8,8,8,8,8,8,8,8,8,8,8,8,8,8,8,8,8,8,8,8,8,8,8,8,8,8,8,8,8,8,8,8,8,8] [8,8,8,8,8,8,8,8,8,8,8,8,8,8,8,8,8,8,8,8,8,8,8,8,8,8,8,8,8,8,8,8,8,8,8,8,8,8,8,8,8,8,8,8,8,8,8,8,8,8,8,8,8,8,8,8,8,8,8,8,8,8,8,8]))})=J),.e,.a1 Α,.e,.e,.e] h
theorem Dr{H:aT}:(Ev S5 fI 46 [nq,fq 47] H (tf []) H):=Tw (yF (h':=H) (d:=TT []) [.v (@RT H),.v (@Lh H)]) EX EX
abbrev zgD(a b:bV):bV:=(a++Ti (b.length-a.length) 0)
theorem Li{l:bV}(hl:l.length<4611686018427387904)(hne:l≠[]):Ev S5 fI 48 (zbn 0 0) [.eQ (aq l) 0 1] (ab (aA (Vb l))) [xy]:=by
 have h1:=Lf (h:=[.eQ (cX l) 0 1]) (b:=0) (e:=0) (l:=l) rfl hl hne;generalize Vb l=m at h1 ⊢;have h2:=Ev.post (d2:=.p (.sl (List.take m.length (List.drop 0 (aA (zgD m l)))))) (h2:=[xy]) (φ:=[cX (zgD m l)=(aA (zgD m l)).map (·.map .p)]) [CE (τ 0 (aA (zgD m l)))] h1 rfl ⟨vd _,trivial⟩;have e1:List.take m.length (List.drop 0 (aA (zgD m l)))=aA m:=by rw[Xj];unfold aA;try unfold zaQ;rw[Uh];exact List.take_left' qk
 rw[e1] at h2;exact h2
abbrev zdE(a:eO)(b:D):aT:=[eF a.l,eF [nq,dd 0,nq],eF [eP N],eF [b],eF [dd 0]]
abbrev hA(w:eO):List mX:=[.var w.l,.var [nq,dd 0,nq],.var [eP false],.var [nq],.var [dd 0]]
abbrev WP(a:gM):bY:=(zhV a (fE (.eQ 8 1)))
abbrev dgC(p:gM):bY:=(WP p)
abbrev zhD(a b:bY)(c:List (bY))(d:Nat)(f g:bY):aT:=[eF a,eF [nq,dd 0,nq],eF [eP N],eF b,eF [dd 0],.eQ c d 5,eF f,eF g]
abbrev dgB(w:eO)(rs:List CX)(e:Nat)(pc:List D)(r:JZ):List mX:=[.var w.l,.var [nq,dd 0,nq],.var [eP false],.var [.ref (.eQ 5 e)],.var [dd 0],.eQ (ad (qm rs)) e 5,.var pc,.var r.l]
abbrev WF:Nat×D:=(zjk 1)
abbrev zat:Nat×D:=(ziy 11)
abbrev zaJ:Nat×D:=(zhA 12 3)
abbrev zaK:Nat×D:=(zhA 13 4)
abbrev zbu:Nat×D:=(15,fE (ql 6 0))
abbrev zbK:Nat×D:=(5,fE (ql 0 0))
abbrev zd0:Nat×D:=(14,.fn (.func 39) [] (zjG 3))
abbrev zd7(a:iN):Nat×D:=(20,ab (a.map Tb))
abbrev zeS:Nat×D:=(82,fE (.eQ 8 1))
abbrev diS(w:eO)(d5 bO:Int)(l:List uB)(rs:List CX)(p:gM)(r:JZ)(L:List (List Dp))(q:CS)(fs:List Int)(n k i:Int):AS :=
 {t:=oz 167 0 [(3,dd d5),(4,dd bO),(5,.ref (.ptr 0 0)),(10,.ref (.ptr 1 0)),(11,.ref (.ptr 2 0)),(12,.ref (.ptr 3 0)),(13,.ref (.ptr 4 0)),(14,.fn (.func 39) [] [.ref (.ptr 3 0)]),(15,.ref (.ptr 6 0)),(20,ab (l.map Tb)),(21,dd k),(22,.ref (.ptr 9 0)),(23,.ref (.eQ 10 0)),(82,.ref (.eQ 8 1)),(83,dd n),(84,dd k),(90,ab (aA q.jW)),(91,dd ((aA q.jW).length:Int)),(92,dd i)],
  h:=dgB w rs 0 (dgC p) r++[.eQ (ad L) 1 6,.var (q.row.map .p),.eQ (aq fs) 0 1],m:=[]}
abbrev diE(w:eO)(d5 bO:Int)(l:iN)(rs:iF)(p:gM)(r:JZ)(L:bv)(q:CS)(fs:bV)(n k:Int):AS :={t:=oz 167 0 [(3,dd d5),(4,dd bO),zbK,WF,zat,zaJ,zaK,zd0,zbu,(zd7 l),(21,dd k),(23,fE (.eQ 10 0)),zeS,(83,dd n),(84,dd k)],h:=dgB w rs 0 (dgC p) r++[.eQ (ad L) 1 6,eF (zgP q),.eQ (aq fs) 0 1],m:=[]}
abbrev zc4(a:bV):List (bY):=S2 (λx=>S2 Us x) (aA a)
theorem HH(m:List Int):S2 (λx=>S2 Us x) (aA m)=aq m:=by simp[aq]
theorem HI(f:Ref->D)(l m:bV):S2 (Tz f) (aq l++(zc4 m))=aq l++(zc4 m):=by grind [HH,bq]
theorem RU{l m:bV}(h:l.length+m.length<=100000000000):(Tq (zc4 m) (aL 1)&&uO (S7 (aq l)+S7 (zc4 m)) 8)=J:=by
 rw[Tm];constructor;·rw[TW];intro x hx;simp only[List.map_map,List.mem_map,Function.comp] at hx;obtain⟨q,_,rfl⟩:=hx;rfl
 grind [Uw,ef,uO]
abbrev za2:bY:=[fE (.eQ 5 0)]
abbrev zhB(a:eO)(b:iF)(c:gM)(d:JZ)(e:bv)(f:CS)(g:mX):aT:=[eF (ZA a),eF [nq,dd 0,nq],eF [eP N],eF za2,eF [dd 0],.eQ (ad (qm b)) 0 5,eF (WP c),eF (zaM d),.eQ (ad e) 1 6,eF (zaf f),g]
noncomputable abbrev tE(w:eO)(rs:iF)(p:gM)(r:JZ)(L:bv)(q:CS)(fs:bV):aT:=(zhB w rs p r L q (.eQ (aq fs) 0 1))
abbrev zek:bY:=(zjG 3)
theorem RV{k:Int}{qs:List CX}{L:List (List Dp)}{gs:List Int}
  (hr:ao (i:Int) (aA q.jW) [vi c] 1) (lL:eY ((i:Int)<((aA q.jW).length:Int))=true) (hw:S6.wrap ((i:Int)+1)=((i+1:Nat):Int))
  (heq:∀h,Ev S5 jV 45 [.agg w.l,dd c,dd d5,dd bO] h (.JY [ab (aA gs),ab (qm qs)]) h)
  (hb:rs.length+qs.length<=3000000000000) (hb2:fs.length+gs.length<=100000000000):(CW S5 jV (hA w) false (sub TN 1) (diS w d5 bO l rs p r L q fs n k i) .normal (diS w d5 bO l (rs++qs) p r L q (fs++gs) n k ((i+1:Nat):Int))):=by
 refine yX {t:=oz 167 0 [(3,dd d5),(4,dd bO),(5,.ref (.ptr 0 0)),(10,.ref (.ptr 1 0)),(11,.ref (.ptr 2 0)),(12,.ref (.ptr 3 0)),(13,.ref (.ptr 4 0)),(14,D.fn (Fn.func 39) [] [.ref (.ptr 3 0)]),(15,.ref (.ptr 6 0)),(20,ab (S2 Tb l)),(21,dd k),(22,.ref (.ptr 9 0)),(23,.ref (.eQ 10 0)),(82,.ref (.eQ 8 1)),(83,dd n),(84,dd k),(90,ab (aA q.jW)),(91,dd (↑(S7 (aA q.jW)):Int)),(92,dd (S8 S6 ((↑i:Int)+1)))],h:=[.var [ab (S2 Tc w.c),ab w.p,ab (S2 Tj w.s),ab (S2 Ta w.f)],.var [nq,dd 0,nq],.var [eP false],.var [.ref (.eQ 5 0)],.var [dd 0],.eQ (ad (qm (rs++qs))) 0 5,.var [am p.nm,dd p.number,dd p.F2,dd p.zm,dd p.num,dd p.den,.ref (.eQ 8 1)],.var [dd r.st,ab (S2 Tb r.a)],.eQ (ad L) 1 6,.var [am q.nm,dd q.go,dd q.Bn,eP q.home,ab q.names,ab (aA q.jW)],.eQ (aq fs++S2 (λx=>S2 Us x) (aA gs)) 0 1],m:=[]} Tr [.st (.mask [3,4,5,10,11,12,13,14,15,20,21,22,23,82,83,84,90,91,92]),.st (.ren 5 0),.st (.ren 10 0)] [.b lL,.r hr,.v (@heq (tE w rs p r L q fs)),.c ((fX [3,5] (Tp (@yv rs qs hb)) ⟨(by exact aj _ _),trivial⟩ ⟨(by exact aj _ _),trivial⟩):Ev S5 jV 39 [ab (qm qs),.ref (.ptr 3 0)] (tE w rs p r L q fs) (TT []) [.var (TC w),.var [nq,dd 0,nq],.var [eP false],.var [.ref (.eQ 5 1)],.var [dd 0],.eQ (ad (qm (rs++qs))) 1 5,.var [am p.nm,dd p.number,dd p.F2,dd p.zm,dd p.num,dd p.den,.ref (.eQ 8 1)],.var [dd r.st,ab (S2 Tb r.a)],.eQ (ad L) 1 6,.var [am q.nm,dd q.go,dd q.Bn,eP q.home,ab q.names,ab (aA q.jW)],.eQ (aq fs) 0 1]),(?_:(Tq (S2 (λx=>S2 Us x) (aA gs)) (aL 1)&&uO (S7 (aq fs)+S7 (S2 (λx=>S2 Us x) (aA gs))) 8)=true),(?_:S2 (Tz (ar 5 1 0)) (ad (qm (rs++qs)))=ad (qm (rs++qs))),(?_:S2 (Tz (ar 5 1 0)) (ad L)=ad L),(?_:S2 (Tz (ar 5 1 0)) (aq fs++S2 (λx=>S2 Us x) (aA gs))=aq fs++S2 (λx=>S2 Us x) (aA gs)),(?_:S2 (Tz (ar 10 1 0)) (aq fs++S2 (λx=>S2 Us x) (aA gs))=aq fs++S2 (λx=>S2 Us x) (aA gs)),(?_:S2 (Tz (ar 10 1 0)) (ad (qm (rs++qs)))=ad (qm (rs++qs))),(?_:S2 (Tz (ar 10 1 0)) (ad L)=ad L)] (by grind) (by(simp only[hw,diS,dgB,ad,aq,aA,Uh,List.map_map,Function.comp_def];rfl))<;>(first|exact aB _ _|exact HI _ _ _|exact RU hb2)
abbrev zgR:Do:=[CE (EZ [3,4,5,10,11,12,13,14,15,20,21,23,82,83,84])]
theorem RX{k:Int}{l:iN}{rs:iF}{fs:bV}(lL:eY ((i:Int)<((aA q.jW).length:Int))=N):(CW S5 jV (hA w) N (sub TN 1) (diS w d5 bO l rs p r L q fs n k i) (E8 2) (diE w d5 bO l rs p r L q fs n k)):=yx zgR [.b lL]
def frF(w:eO)(d5 bO:Int)(s:iF×bV)(c:Int):iF×bV:=(s.1++(bQ w c d5 bO).1,s.2++(bQ w c d5 bO).2)
theorem rf{w:eO}{d5 bO:Int}(hn:(af w.f bO).length<=1000):∀(cs:bV) (s:iF×bV),(cs.foldl (frF w d5 bO) s).1.length<=s.1.length+cs.length*1001001/\(cs.foldl (frF w d5 bO) s).2.length<=s.2.length+cs.length*1001
 | [],s=>by simp
 | c::cs,s=>by obtain⟨h1,h2⟩:=rf (d5:=d5) hn cs (frF w d5 bO s c);obtain⟨g1,g2⟩:=lJ (w:=w) (c:=c) (d5:=d5) (bO:=bO) hn;grind [frF,Ue]
theorem RY(hw:w.ok){k:Int}(hn:(af w.f bO).length<=1000){l:iN}{rs:iF}(hq:q.jW.length<=1048576) (hb:rs.length+q.jW.length*1001001<=3000000000000) :CW S5 jV (hA w) false (.loop (sub TN 1)) (diS w d5 bO l rs p r L q [] n k 0) (.exit 2) (diE w d5 bO l (q.jW.foldl (frF w d5 bO) (rs,[])).1 p r L q (q.jW.foldl (frF w d5 bO) (rs,[])).2 n k):=by
 have key (i:Nat) (hi:i<=q.jW.length):((q.jW.take i).foldl (frF w d5 bO) (rs,[])).1.length<=rs.length+i*1001001/\((q.jW.take i).foldl (frF w d5 bO) (rs,[])).2.length<=i*1001:=by
  have h1:=rf (d5:=d5) hn (q.jW.take i) (rs,[]);have hlen:(q.jW.take i).length=i:=by rw[VX];omega
  rw[hlen] at h1;simpa using h1
 have h0:=Ww (P:=S5) (Γ:=jV) (h0:=hA w) (rd:=false) (c:=sub TN 1) q.jW.length (λi=>diS w d5 bO l ((q.jW.take i).foldl (frF w d5 bO) (rs,[])).1 p r L q ((q.jW.take i).foldl (frF w d5 bO) (rs,[])).2 n k (i:Int)) (e:=.exit 2) (by simp) (λi hi=>?_) (RX (by simp));·grind
 ·have hc:q.jW[i]? = some q.jW[i]:=TH hi;have e1:(q.jW.take (i+1)).foldl (frF w d5 bO) (rs,[])=frF w d5 bO ((q.jW.take i).foldl (frF w d5 bO) (rs,[])) q.jW[i]:=by rw[Wc hi,List.foldl_append,TG,List.foldl_nil]
  obtain⟨k1,k2⟩:=key i (by omega);obtain⟨g1,g2⟩:=lJ (w:=w) (c:=q.jW[i]) (d5:=d5) (bO:=bO) hn;have heq:=yu hw (c:=q.jW[i]) (d5:=d5) (bO:=bO) hn;show CW S5 jV (hA w) false (sub TN 1) (diS w d5 bO l ((q.jW.take i).foldl (frF w d5 bO) (rs,[])).1 p r L q ((q.jW.take i).foldl (frF w d5 bO) (rs,[])).2 n k (i:Int)) .normal (diS w d5 bO l ((q.jW.take (i+1)).foldl (frF w d5 bO) (rs,[])).1 p r L q ((q.jW.take (i+1)).foldl (frF w d5 bO) (rs,[])).2 n k ((i+1:Nat):Int));rw[e1];have k3:i*1001001+1001001<=q.jW.length*1001001:=by omega
  generalize (q.jW.take i).foldl (frF w d5 bO) (rs,[])=s at *;exact RV (rowAt (row:=λn:Int=>[vi n]) hc rfl) (EV (λn:Int=>[vi n]) hi) (sR hi (show q.jW.length<=_ by omega)) heq (by omega) (by omega)
theorem tyQ:(fS S5 99,S5.underlying 99,P1 S5 115,HU S5 115,P1 S5 32)=(G 115,G (.slice 115),G 6,G J,G 1):=Z
abbrev zdH(a b:Nat):D:=(fE (.vp 8 1 a b))
theorem rq_ld(hb:h[8]?=G (.eQ (ad L) 1 6))(hk:L[k]?=G q.row):aQ S5 h 115 (zdH k 0)=G (ag q.row):=by
 have h3:=tyQ;simp only[Tk] at h3;have h5:(ad L)[k]?=G (zgP q):=by rw[Vo,hk];rfl
 simp only[aQ,hb,if_true,h5,Xj,cC,h3.2.2.1,h3.2.2.2.1];rfl
abbrev Lj(q:CS)(R:bV):CS:=⟨q.nm,q.go,q.Bn,q.home,q.names,R⟩
theorem rq_st{R:bV}(hb:h[8]?=G (.eQ (ad L) 1 6))(hk:L[k]?=G q.row):aY S5 h 32 (zdH k 5) (ab (aA R))=G (h.set 8 (.eQ (ad (L.set k (Lj q R).row)) 1 6)):=by
 have h3:=tyQ;simp only[Tk] at h3;have h5:(ad L)[k]?=G (zgP q):=by rw[Vo,hk];rfl
 have h6:(ad L).set k (bZ (zgP q) 5 [ab (aA R)])=ad (L.set k (Lj q R).row):=by unfold ad;rw[List.map_set];rfl
 simp only[aY,D.cells,h3.2.2.2.2,hb,if_true,h5];show G (h.set 8 (mX.eQ ((ad L).set k (bZ (zgP q) 5 [ab (aA R)])) 1 6))=_;rw[h6]
abbrev ziW(a b:Int)(c d:Nat×D)(e:Int)(f:D):bY:=oz 167 0 [(3,dd a),(4,dd b),zbK,WF,zat,zaJ,zaK,c,zbu,d,zeS,(83,dd e),(84,f)]
abbrev doS(w:eO)(d5 bO:Int)(l:iN)(rs:iF)(p:gM)(r:JZ)(L:bv)(n k:Int):AS :={t:=(ziW d5 bO zd0 (zd7 l) n (dd k)),h:=dgB w rs 0 (dgC p) r++[.eQ (ad L) 1 6],m:=[]}
noncomputable abbrev tG(w:eO)(rs2:iF)(p:gM)(r:JZ)(L:bv)(q:CS)(fs:bV):aT:=(zhB w rs2 p r L q (.eQ (aq (UF fs λx y=>eY (x<=y))) 0 1))
noncomputable abbrev Ds(w:eO)(rs2:iF)(p:gM)(r:JZ)(L:bv)(q:CS)(fs:bV):aT:=(zhB w rs2 p r L q (.eQ (aq fs) 0 1))
noncomputable abbrev tH(w:eO)(rs2:iF)(p:gM)(r:JZ)(L:bv)(q:CS):aT:=(zhB w rs2 p r L q (xy))
abbrev zhv(a b:bY)(c:List (bY))(d e:bY)(f:mX):aT:=[eF a,eF b,eF [eP N],eF za2,eF [dd 0],.eQ c 0 5,eF d,eF e,f]
theorem RZ{rs2:List CX}{L:List (List Dp)}{R:List Int}
  (hk:k<L.length) (hq:L[k]? = some q.row) (lL:eY ((k:Int)<n)=true) (hw:S6.wrap ((k:Int)+1)=((k+1:Nat):Int))
  (NH:CW S5 jV (hA w) false (.loop (sub TN 1)) (diS w d5 bO l rs p r L q [] n k 0) (.exit 2) (diE w d5 bO l rs2 p r L q fs n k))
  (hso:Ev S5 fI 46 [.ref (.eQ 0 0),fq 47] [.eQ (aq fs) 0 1] (.JY []) [.eQ (aq (fs.mergeSort λx y=>eY (x<=y))) 0 1])
  (hco:Ev S5 fI 48 [.ref (.eQ 0 0)] [.eQ (aq (fs.mergeSort λx y=>eY (x<=y))) 0 1] (ab (aA R)) [.EU]):(CW S5 jV (hA w) false (sub TN 0) (doS w d5 bO l rs p r L n k) .normal (doS w d5 bO l rs2 p r (L.set k (Lj q R).row) n ((k+1:Nat):Int))):=by
 have xd:=(@NH)
 let v0:List D:=[dd r.st,ab (S2 Tb r.a)]
 let v1:=List.set L k (Ts (Lj q R))
 refine yX {t:=oz 167 0 [(3,dd d5),(4,dd bO),(5,.ref (.ptr 0 0)),(10,.ref (.ptr 1 0)),(11,.ref (.ptr 2 0)),(12,.ref (.ptr 3 0)),(13,.ref (.ptr 4 0)),(14,D.fn (Fn.func 39) [] [.ref (.ptr 3 0)]),(15,.ref (.ptr 6 0)),(20,ab (S2 Tb l)),(82,.ref (.eQ 8 1)),(83,dd n),(84,dd (S8 S6 ((↑k:Int)+1)))],h:=[.var [ab (S2 Tc w.c),ab w.p,ab (S2 Tj w.s),ab (S2 Ta w.f)],.var [nq,dd 0,nq],.var [eP false],.var [.ref (.eQ 5 0)],.var [dd 0],.eQ (ad (qm rs2)) 0 5,.var [am p.nm,dd p.number,dd p.F2,dd p.zm,dd p.num,dd p.den,.ref (.eQ 8 1)],.var v0,.eQ (ad v1) 1 6],m:=[]} Tr [.st (.mask [3,4,5,10,11,12,13,14,15,20,82,83,84]),.st (.Ju 9)] [.b lL,((by subst v0 v1;(simp[L9];omega)):@Eq (Option (Bool×D)) (some (L9 (↑k:Int) (S7 (ad L)),.ref (.vp 8 1 (S9 (↑k:Int)) 0))) (some (true,D.ref (.vp 8 1 k 0)))),(?_:@Eq (Option D) (aQ S5 [.var (TC w),.var [nq,dd 0,nq],.var [eP false],.var [.ref (.eQ 5 0)],.var [dd 0],.eQ (ad (qm rs)) 0 5,.var [am p.nm,dd p.number,dd p.F2,dd p.zm,dd p.num,dd p.den,.ref (.eQ 8 1)],.var v0,.eQ (ad L) 1 6] 115 (.ref (.vp 8 1 k 0))) (some (D.agg [am q.nm,dd q.go,dd q.Bn,eP q.home,ab q.names,ab (aA q.jW)]))),.a1 (.ov 87 (.ref (.vp 8 1 k 0))),.a1 (.ov 88 (ag (Ts q))),.n 2,.o (.zor 23 1),.s [3,4,5,10,11,12,13,14,15,20,21,22,23,82,83,84,90,91,92] xd,.c ((fX [10] (Tp (@hso)) ⟨(by subst v0 v1;exact bq _ _),trivial⟩ ⟨(by subst v0 v1;exact bq _ _),trivial⟩):Ev S5 jV 46 [.ref (.eQ 10 0),fq 47] (Ds w rs2 p r L q fs) (TT []) (tG w rs2 p r L q fs)),.c ((fX [10] (Tp (@hco)) ⟨(by subst v0 v1;exact bq _ _),trivial⟩ trivial):Ev S5 jV 48 [.ref (.eQ 10 0)] (tG w rs2 p r L q fs) (ab (aA R)) (tH w rs2 p r L q)),((by subst v0 v1;(simp[L9];omega)):@Eq (Option (Bool×D)) (some (L9 (↑k:Int) (S7 (ad L)),.ref (.vp 8 1 (S9 (↑k:Int)) 0))) (some (true,D.ref (.vp 8 1 k 0)))),po (some (.ref (.vp 8 1 k 5))),(?_:@Eq (Option (List mX)) (aY S5 (tH w rs2 p r L q) 32 (.ref (.vp 8 1 k 5)) (ab (aA R))) (some [.var (TC w),.var [nq,dd 0,nq],.var [eP false],.var [.ref (.eQ 5 0)],.var [dd 0],.eQ (ad (qm rs2)) 0 5,.var [am p.nm,dd p.number,dd p.F2,dd p.zm,dd p.num,dd p.den,.ref (.eQ 8 1)],.var v0,.eQ (ad v1) 1 6,.var [am q.nm,dd q.go,dd q.Bn,eP q.home,ab q.names,ab (aA q.jW)],.EU])),pe (.ref (.ptr 6 6)),pe (.ref (.ptr 6 6)),po (some (.ref (.eQ 8 1))),po (some (.ref (.eQ 8 1))),(?_:L9 (↑k:Int) (S7 (ad L))=true),(?_:(.ref (.vp 8 1 (S9 (↑k:Int)) 0):D)=.ref (.vp 8 1 k 0)),pe (.ref (.vp 8 1 k 5)),bi 9 (.var (TC w)),bi 9 (.var [nq,dd 0,nq]),bi 9 (.var [eP false]),bi 9 (.var [.ref (.eQ 5 0)]),bi 9 (.var [dd 0]),(?_:Tl 9 (.eQ (ad (qm rs2)) 0 5)=true),bi 9 (.var [am p.nm,dd p.number,dd p.F2,dd p.zm,dd p.num,dd p.den,.ref (.eQ 8 1)]),bi 9 (.var v0),(?_:Tl 9 (.eQ (ad v1) 1 6)=true),.a1 (.ov 118 (.ref (.vp 8 1 k 0))),.a1 (.ov 119 (.ref (.vp 8 1 k 5))),.a1 (.oh 10119 D.any (dgB w rs2 0 (dgC p) r++[.eQ (ad v1) 1 6,.var (S2 Us (Ts q)),.EU]))] (by subst v0 v1;grind) (by subst v0 v1;(simp only[hw]<;>rfl))<;>subst v0 v1<;>(first|rfl|exact rq_ld rfl hq|exact rq_st rfl hq|exact aD _ _|(simp[L9];omega))
abbrev dzS(w:eO)(d5 bO:Int)(l:iN)(rs:iF)(p:gM)(r:JZ)(L:bv)(q:CS)(n k:Int):AS :={t:=oz 167 0 [(3,dd d5),(4,dd bO),zbK,WF,zat,zaJ,zaK,zd0,zbu,(zd7 l),(21,dd k),(23,nq),zeS,(83,dd n),(84,dd k),(90,ab (aA q.jW)),(91,(zic (aA q.jW))),(92,dd 0)],h:=dgB w rs 0 (dgC p) r++[.eQ (ad L) 1 6,eF (zgP q)],m:=[]}
abbrev dzE(w:eO)(d5 bO:Int)(l:iN)(rs:iF)(p:gM)(r:JZ)(L:bv)(q:CS)(n k:Int):AS :={t:=oz 167 0 [(3,dd d5),(4,dd bO),zbK,WF,zat,zaJ,zaK,zd0,zbu,(zd7 l),(21,dd k),(23,nq),zeS,(83,dd n),(84,dd k)],h:=dgB w rs 0 (dgC p) r++[.eQ (ad L) 1 6,eF (zgP q)],m:=[]}
theorem R6{k:Int}{l:iN}{rs:iF}(lL:eY ((0:Int)<((aA q.jW).length:Int))=N):(CW S5 jV (hA w) N (sub TN 1) (dzS w d5 bO l rs p r L q n k) (E8 2) (dzE w d5 bO l rs p r L q n k)):=yx zgR [.b lL]
noncomputable abbrev j4(w:eO)(rs:iF)(p:gM)(r:JZ)(L:bv)(q:CS):aT:=[eF (ZA w),eF [nq,dd 0,nq],eF [eP N],eF za2,eF [dd 0],.eQ (ad (qm rs)) 0 5,eF (WP p),eF (zaM r),.eQ (ad L) 1 6,eF (zaf q)]
theorem Lk{L:List (List Dp)}
  (hk:k<L.length) (hq:L[k]? = some q.row) (lL:eY ((k:Int)<n)=true) (hw:S6.wrap ((k:Int)+1)=((k+1:Nat):Int))
  (NH:CW S5 jV (hA w) false (.loop (sub TN 1)) (dzS w d5 bO l rs p r L q n k) (.exit 2) (dzE w d5 bO l rs p r L q n k)):(CW S5 jV (hA w) false (sub TN 0) (doS w d5 bO l rs p r L n k) .normal (doS w d5 bO l rs p r (L.set k (Lj q []).row) n ((k+1:Nat):Int))):=by
 have xd:=(@NH)
 let v0:List D:=[dd r.st,ab (S2 Tb r.a)]
 let v1:=List.set L k (Ts (Lj q []))
 refine yX {t:=oz 167 0 [(3,dd d5),(4,dd bO),(5,.ref (.ptr 0 0)),(10,.ref (.ptr 1 0)),(11,.ref (.ptr 2 0)),(12,.ref (.ptr 3 0)),(13,.ref (.ptr 4 0)),(14,D.fn (Fn.func 39) [] [.ref (.ptr 3 0)]),(15,.ref (.ptr 6 0)),(20,ab (S2 Tb l)),(82,.ref (.eQ 8 1)),(83,dd n),(84,dd (S8 S6 ((↑k:Int)+1)))],h:=[.var [ab (S2 Tc w.c),ab w.p,ab (S2 Tj w.s),ab (S2 Ta w.f)],.var [nq,dd 0,nq],.var [eP false],.var [.ref (.eQ 5 0)],.var [dd 0],.eQ (ad (qm rs)) 0 5,.var [am p.nm,dd p.number,dd p.F2,dd p.zm,dd p.num,dd p.den,.ref (.eQ 8 1)],.var v0,.eQ (ad v1) 1 6],m:=[]} Tr [.st (.mask [3,4,5,10,11,12,13,14,15,20,82,83,84]),.st (.Ju 9)] [.b lL,((by subst v0 v1;(simp[L9];omega)):@Eq (Option (Bool×D)) (some (L9 (↑k:Int) (S7 (ad L)),.ref (.vp 8 1 (S9 (↑k:Int)) 0))) (some (true,D.ref (.vp 8 1 k 0)))),(?_:@Eq (Option D) (aQ S5 [.var (TC w),.var [nq,dd 0,nq],.var [eP false],.var [.ref (.eQ 5 0)],.var [dd 0],.eQ (ad (qm rs)) 0 5,.var [am p.nm,dd p.number,dd p.F2,dd p.zm,dd p.num,dd p.den,.ref (.eQ 8 1)],.var v0,.eQ (ad L) 1 6] 115 (.ref (.vp 8 1 k 0))) (some (D.agg [am q.nm,dd q.go,dd q.Bn,eP q.home,ab q.names,ab (aA q.jW)]))),.a1 (.ov 87 (.ref (.vp 8 1 k 0))),.a1 (.ov 88 (ag (Ts q))),.s [3,4,5,10,11,12,13,14,15,20,21,23,82,83,84,90,91,92] xd,.v (Tp (Γ':=jV) (@Dr (j4 w rs p r L q))),.v (Tp (Γ':=jV) (@Dq (j4 w rs p r L q))),((by subst v0 v1;(simp[L9];omega)):@Eq (Option (Bool×D)) (some (L9 (↑k:Int) (S7 (ad L)),.ref (.vp 8 1 (S9 (↑k:Int)) 0))) (some (true,D.ref (.vp 8 1 k 0)))),po (some (.ref (.vp 8 1 k 5))),(?_:@Eq (Option (List mX)) (aY S5 (j4 w rs p r L q) 32 (.ref (.vp 8 1 k 5)) (ab [])) (some [.var (TC w),.var [nq,dd 0,nq],.var [eP false],.var [.ref (.eQ 5 0)],.var [dd 0],.eQ (ad (qm rs)) 0 5,.var [am p.nm,dd p.number,dd p.F2,dd p.zm,dd p.num,dd p.den,.ref (.eQ 8 1)],.var v0,.eQ (ad v1) 1 6,.var [am q.nm,dd q.go,dd q.Bn,eP q.home,ab q.names,ab (aA q.jW)]])),pe (.ref (.ptr 6 6)),pe (.ref (.ptr 6 6)),po (some (.ref (.eQ 8 1))),po (some (.ref (.eQ 8 1))),(?_:L9 (↑k:Int) (S7 (ad L))=true),(?_:(.ref (.vp 8 1 (S9 (↑k:Int)) 0):D)=.ref (.vp 8 1 k 0)),pe (.ref (.vp 8 1 k 5)),bi 9 (.var (TC w)),bi 9 (.var [nq,dd 0,nq]),bi 9 (.var [eP false]),bi 9 (.var [.ref (.eQ 5 0)]),bi 9 (.var [dd 0]),(?_:Tl 9 (.eQ (ad (qm rs)) 0 5)=true),bi 9 (.var [am p.nm,dd p.number,dd p.F2,dd p.zm,dd p.num,dd p.den,.ref (.eQ 8 1)]),bi 9 (.var v0),(?_:Tl 9 (.eQ (ad v1) 1 6)=true),.a1 (.ov 118 (.ref (.vp 8 1 k 0))),.a1 (.ov 119 (.ref (.vp 8 1 k 5))),.a1 (.oh 10119 D.any (dgB w rs 0 (dgC p) r++[.eQ (ad v1) 1 6,.var (S2 Us (Ts q))]))] (by subst v0 v1;grind) (by subst v0 v1;(simp only[hw]<;>rfl))<;>subst v0 v1<;>(first|rfl|exact rq_ld rfl hq|exact rq_st (R:=[]) rfl hq|exact aD _ _|(simp[L9];omega))
abbrev ziJ(a:iN):bY:=oz 167 0 [WF,zat,zaJ,zaK,zbu,(zd7 a)]
theorem R7{l:iN}{rs:iF}(lL:eY ((k:Int)<n)=N):(CW S5 jV (hA w) N (sub TN 0) (doS w d5 bO l rs p r L n k) (E8 0) {t:=(ziJ l),h:=dgB w rs 0 (dgC p) r++[.eQ (ad L) 1 6],m:=[]}):=yx [CE (EZ [10,11,12,13,15,20])] [.b lL]
def R8(w:eO)(d5 bO:Int)(q:CS):bV:=match q.jW with
 | []=>[]
 |_=>Vb (((q.jW.foldl (frF w d5 bO) ([],[])).2).mergeSort λx y=>eY (x<=y))
def jE(w:eO)(d5 bO:Int)(q:CS):iF:=(q.jW.foldl (frF w d5 bO) ([],[])).1
theorem iU:∀(cs:bV) (s:iF×bV),cs.foldl (frF w d5 bO) s=(s.1++(cs.foldl (frF w d5 bO) ([],[])).1,s.2++(cs.foldl (frF w d5 bO) ([],[])).2)
 | [],s=>qk
 |c::cs,s=>by rw[TG,iU cs,TG,iU cs (frF w d5 bO ([],[]) c)];simp[frF]
theorem eqN_ge(s:RL):s.2.length<=(eqN w d5 bO a s n).2.length:=by grind [eqN]
theorem yw:∀(ms:bV) (s:RL),s.2.length<=(ms.foldl (eqN w d5 bO a) s).2.length
 | [],_=>T0 _
 |n::ms,s=>Vj (eqN_ge s) (yw ms _)
theorem B2{ns:bV}:∀(f i:Nat) (s:RL),s.2.length<=(zcX w d5 bO ns f i s).2.length
 |0,_,_=>T0 _
 |f+1,i,s=>by
  unfold zcX;split;·exact Vj (yw ns s) (B2 f (i+1) _)
  grind
theorem Ll:1<=(bQ w c d5 bO).2.length:=by
 unfold bQ;split;·simp
 ·simp[DE];exact B2 _ _ ([rdN],[c])
theorem B3(hn:(af w.f bO).length<=1000)(q:CS):(jE w d5 bO q).length<=q.jW.length*1001001:=by have:=(rf (d5:=d5) hn q.jW ([],[])).1;grind [jE]
def nM(w:eO)(d5 bO:Int)(q:CS):CS:=Lj q (R8 w d5 bO q)
abbrev doE(w:eO)(l:iN)(rs:iF)(p:gM)(r:JZ)(L:bv):AS :={t:=(ziJ l),h:=dgB w rs 0 (dgC p) r++[.eQ (ad L) 1 6],m:=[]}
theorem R9(hw:w.ok)(hn:(af w.f bO).length<=1000){l:iN}{rs:iF}(hf:q.jW.length<=1048576)(hb:rs.length+q.jW.length*1001001<=3000000000000)(hq:L[k]?=G q.row)(lL:eY ((k:Int)<n)=J)(hw2:S6.wrap ((k:Int)+1)=((k+1:Nat):Int)) :CW S5 jV (hA w) N (sub TN 0) (doS w d5 bO l rs p r L n k) w8 (doS w d5 bO l (rs++jE w d5 bO q) p r (L.set k (nM w d5 bO q).row) n ((k+1:Nat):Int)):=by
 have hk:=(Td.1 hq).1;cases hc:q.jW with
 |nil=>
  have e1:jE w d5 bO q=[]:=by unfold jE;rw[hc];rfl
  have e2:nM w d5 bO q=Lj q []:=by unfold nM R8;rw[hc]
  have hz:eY ((0:Int)<((aA q.jW).length:Int))=N:=by rw[hc];rfl
  rw[e1,e2,List.append_nil];refine Lk hk hq lL hw2 ?_;exact Ww (P:=S5) (Γ:=jV) (h0:=hA w) (rd:=N) (c:=sub TN 1) 0 (λ_=>dzS w d5 bO l rs p r L q n k) qk (λi hi=>absurd hi (V7 i)) (R6 hz)
 |cons c cs=>
  have NH:=RY hw (d5:=d5) (n:=n) (k:=(k:Int)) hn (l:=l) (rs:=rs) (p:=p) (r:=r) (L:=L) hf hb;have e0:=iU (w:=w) (d5:=d5) (bO:=bO) q.jW (rs,[]);rw[e0] at NH;have e1:(q.jW.foldl (frF w d5 bO) ([],[])).1=jE w d5 bO q:=rfl;rw[e1] at NH;simp at NH;have hlen:=(rf (d5:=d5) hn q.jW ([],[])).2;have zlm:1<=(q.jW.foldl (frF w d5 bO) ([],[])).2.length:=by rw[hc,TG,iU];simp only[List.length_append,frF,List.nil_append];have:=Ll (w:=w) (c:=c) (d5:=d5) (bO:=bO);omega
  have e2:nM w d5 bO q=Lj q (Vb (zef ((q.jW.foldl (frF w d5 bO) ([],[])).2))):=by unfold nM R8;rw[hc]
  rw[e2];generalize (q.jW.foldl (frF w d5 bO) ([],[])).2=fs at NH hlen zlm ⊢;have hl2:fs.length<4611686018427387904:=by simp only[VF] at hlen;omega
  have hso:=HG (h:=[.eQ (cX fs) 0 1]) (b:=0) (e:=0) (l:=fs) rfl hl2 (λh=>lj);have hlm:(zef fs).length=fs.length:=XN _;exact RZ hk hq lL hw2 NH hso (Li (l:=(zef fs)) ji (λh=>lj))
theorem Sa(hw:w.ok)(hn:(af w.f bO).length<=1000)
  (hs:ah p.reqs) (hf:∀q∈p.reqs,q.jW.length<=1048576) (hb:rs.length+(p.reqs.map λq=>q.jW.length).sum*1001001<=3000000000000) :
  CW S5 jV (hA w) false (.loop (sub TN 0)) (doS w d5 bO l rs p r (p.reqs.map Ts) (p.reqs.length:Int) 0) (.exit 0) (doE w l (rs++(p.reqs.map (jE w d5 bO)).flatten) p r ((p.reqs.map (nM w d5 bO)).map Ts)):=by
 have hQ:∀(l:List CS),((l.map (jE w d5 bO)).flatten).length<=(l.map λq=>q.jW.length).sum*1001001:=by
  intro l
  induction l with
  | nil=>simp
  | cons q l ih =>
   have:=B3 (d5:=d5) hn q
   grind
 have hT (k:Nat) (hk:k<p.reqs.length):((p.reqs.take k).map λq=>q.jW.length).sum+(p.reqs[k]).jW.length<=(p.reqs.map λq=>q.jW.length).sum:=by
  conv=>rhs;rw[<-List.take_append_drop k p.reqs,Uh,List.sum_append,Yw hk,U5,List.sum_cons]
  omega
 have h0:=Ww (P:=S5) (Γ:=jV) (h0:=hA w) (rd:=false) (c:=sub TN 0) p.reqs.length (λk=>doS w d5 bO l (rs++((p.reqs.take k).map (jE w d5 bO)).flatten) p r (((p.reqs.take k).map (nM w d5 bO)++p.reqs.drop k).map Ts) (p.reqs.length:Int) (k:Int)) (e:=.exit 0) (by simp) (λk hk=>?_) (R7 (by simp))
 ·grind
 ·have hq:p.reqs[k]? = some p.reqs[k]:=TH hk
  have hlk:((p.reqs.take k).map (nM w d5 bO)).length=k:=by rw[Uw,VX];omega
  have e1:((p.reqs.take (k+1)).map (jE w d5 bO)).flatten=((p.reqs.take k).map (jE w d5 bO)).flatten++jE w d5 bO p.reqs[k]:=by
   rw[Wc hk,Uh,List.flatten_append];simp
  have e3:((p.reqs.take k).map (nM w d5 bO)++p.reqs.drop k).map Ts=((p.reqs.take k).map (nM w d5 bO)).map Ts++(p.reqs[k]).row::(p.reqs.drop (k+1)).map Ts:=by
   rw[Yw hk,Uh,U5]
  have hLk:(((p.reqs.take k).map (nM w d5 bO)++p.reqs.drop k).map Ts)[k]? = some (p.reqs[k]).row:=by
   rw[e3,T8 (by grind),Uw,hlk,Nat.sub_self];rfl
  have e2:(((p.reqs.take k).map (nM w d5 bO)++p.reqs.drop k).map Ts).set k (nM w d5 bO p.reqs[k]).row=((p.reqs.take (k+1)).map (nM w d5 bO)++p.reqs.drop (k+1)).map Ts:=by
   rw[e3,List.set_append_right _ _ (by grind),Uw,hlk,Nat.sub_self,List.set_cons_zero,Wc hk]
   simp only[Uh,WV,U5,List.map_nil,List.cons_append,List.nil_append]
  have hb1:=hQ (p.reqs.take k)
  have hb2:=hT k hk
  have hb3:=Nat.mul_le_mul_right 1001001 hb2
  rw[Nat.add_mul] at hb3
  have Ε:=R9 hw (d5:=d5) (n:=(p.reqs.length:Int)) hn (l:=l) (rs:=rs++((p.reqs.take k).map (jE w d5 bO)).flatten) (p:=p) (r:=r) (hf _ (List.mem_of_getElem? hq)) (by grind) hLk (by simp;omega) (sR hk hs)
  grind
theorem cl_ct:(CW S5 fI [] N (cR (cL (cR (al Vq)))) {t:=(ziY [] J),h:=[],m:=[]} .ret {t:=oz 8 0 [(2,nq)],h:=[],m:=[]}):=yx (zeI 2) [.e]
theorem HJ{qs:iF}(hb:qs.length<=3000000000000):Ev S5 fI 39 (zfX qs 0) [eF (zbn 1 0),.eQ [] 0 5] (tf []) [eF (zbn 1 1),.eQ (ad (qm qs)) 1 5]:=yv (rs:=[]) (by simpa using hb)
abbrev dgO:bY:=oz 167 0 [WF,zat,zaJ,zaK]
abbrev clo:D:=.fn (.func 39) [] zek
abbrev sgA(w:eO)(st n d5 bO:Int):AS:={t:=oz 167 0 [(1,dd st),(2,dd n),(3,dd d5),(4,dd bO),zbK,WF,zat,zaJ,zaK],h:=(zdE w nq),m:=[]}
abbrev sgB(w:eO)(d5 bO:Int)(q1 q2:iF)(p:gM)(r:JZ)(e1:Int):AS:={t:=oz 167 0 [(3,dd d5),(4,dd bO),zbK,WF,zat,zaJ,zaK,(14,clo),zbu,(16,ab (qm q2)),(zhA 18 7),(19,dd e1)],h:=dgB w q1 0 p.l r,m:=[]}
abbrev zhM(a b:bY)(c:List (bY))(d:Nat)(e:gM):aT:=[eF a,eF [nq,dd 0,nq],eF [eP N],eF b,eF [dd 0],.eQ c d 5,eF (ZI e)]
noncomputable abbrev Sb(w:eO)(p:gM)(q1:iF):aT:=(zhM (ZA w) za2 (ad (qm q1)) 0 p)
abbrev ziV(a:eO):aT:=[eF (ZA a),eF [nq,dd 0,nq],eF [eP N],eF za2,eF [dd 0],.eQ [] 0 5]
noncomputable abbrev Sc(w:eO):aT:=(ziV w)
abbrev zbH(a:aT):AS:={t:=dgO,h:=a,m:=[]}
abbrev zel:bY:=[fE (.eQ 5 1)]
theorem dg_A{e1:Int}(hb:q1.length<=1000000)
  (hp:∀h,Ev S5 jV 40 [.agg w.l,dd n,dd d5,dd bO] h (.JY [.agg p.l,ab (qm q1),eP true]) h)
  (hr:∀h,Ev S5 jV 41 [.agg w.l,dd st,dd d5,dd bO] h (.JY [.agg r.l,ab (qm q2),dd e1]) h)
  (ht:CW S5 jV (hA w) false (be (al TN) 8) (sgB w d5 bO q1 q2 p r e1) e {t:=dgO,h:=H,m:=[]}):(CW S5 jV (hA w) false (cR (cR (al TN))) (sgA w st n d5 bO) e {t:=dgO,h:=H,m:=[]}):=by
 have xd:=(@ht)
 refine yx [] [.o (.zfG 3 0 5),.v (@hp (Sc w)),.c ((fX [3,5] (Tp (@HJ q1 (by omega))) ⟨?_,trivial⟩ ⟨?_,trivial⟩):Ev S5 jV 39 [ab (qm q1),.ref (.ptr 3 0)] [.var (TC w),.var [nq,dd 0,nq],.var [eP false],.var [.ref (.eQ 5 0)],.var [dd 0],.eQ [] 0 5,.var [am p.nm,dd p.number,dd p.F2,dd p.zm,dd p.num,dd p.den,ab (S2 Ts p.reqs)]] (TT []) [.var (TC w),.var [nq,dd 0,nq],.var [eP false],.var [.ref (.eQ 5 1)],.var [dd 0],.eQ (ad (qm q1)) 1 5,.var [am p.nm,dd p.number,dd p.F2,dd p.zm,dd p.num,dd p.den,ab (S2 Ts p.reqs)]]),((by exact aB _ _):S2 (Tz (ar 5 1 0)) (ad (qm q1))=ad (qm q1)),.e,.o (.ren 5 0),.v (@hr (Sb w p q1)),xd,.a1 (.zkf [3,4,5,10,11,12,13,14,15,16,18,19] e {t:=oz 167 0 [(10,.ref (.ptr 1 0)),(11,.ref (.ptr 2 0)),(12,.ref (.ptr 3 0)),(13,.ref (.ptr 4 0))],h:=H})]<;>(first|rfl|exact aj _ _)
abbrev sgB9(w:eO)(d5 bO:Int)(q1 q2:iF)(p:gM)(r:JZ):AS:={t:=oz 167 0 [(3,dd d5),(4,dd bO),zbK,WF,zat,zaJ,zaK,(14,clo),zbu,(16,ab (qm q2)),(zhA 18 7)],h:=dgB w q1 0 p.l r,m:=[]}
abbrev sgC(w:eO)(d5 bO:Int)(rs q3:iF)(p:gM)(r:JZ)(l:iN)(e2:Int):AS:={t:=oz 167 0 [(3,dd d5),(4,dd bO),zbK,WF,zat,zaJ,zaK,(14,clo),zbu,(16,ab (qm q3)),(19,dd e2),(zd7 l)],h:=dgB w rs 0 p.l r,m:=[]}
noncomputable abbrev Sd(w:eO)(p:gM)(r:JZ)(q1:iF)(q2:iF):aT:=(zhD (ZA w) za2 (zct q1 q2) 0 (ZI p) (zaM r))
abbrev zhq(a:eO)(b:bY)(c:iF)(d:bY)(e:JZ):aT:=[eF (ZA a),eF b,eF [eP N],eF za2,eF [dd 0],.eQ (ad (qm c)) 0 5,eF d,eF (zaM e)]
noncomputable abbrev Se(w:eO)(p:gM)(r:JZ)(q1:iF):aT:=(zhq w [nq,dd 0,nq] q1 (ZI p) r)
theorem dg_B{e2:Int}(hb:q1.length+q2.length<=3000000000000)
  (hc:∀h,Ev S5 jV 43 [.agg w.l,.agg r.l,dd d5,dd bO] h (.JY [ab (l.map Tb),ab (qm q3),dd e2]) h)
  (ht:CW S5 jV (hA w) false (be (al TN) 11) (sgC w d5 bO (q1++q2) q3 p r l e2) e {t:=dgO,h:=H,m:=[]}):(CW S5 jV (hA w) false (be (al TN) 9) (sgB9 w d5 bO q1 q2 p r) e {t:=dgO,h:=H,m:=[]}):=by
 have xd:=(@ht)
 refine yx [] [.c ((fX [3,5] (Tp (@yv q1 q2 hb)) ⟨?_,trivial⟩ ⟨?_,trivial⟩):Ev S5 jV 39 [ab (qm q2),.ref (.ptr 3 0)] (Se w p r q1) (TT []) [.var (TC w),.var [nq,dd 0,nq],.var [eP false],.var [.ref (.eQ 5 1)],.var [dd 0],.eQ (ad (qm (q1++q2))) 1 5,.var [am p.nm,dd p.number,dd p.F2,dd p.zm,dd p.num,dd p.den,ab (S2 Ts p.reqs)],.var [dd r.st,ab (S2 Tb r.a)]]),((by exact aB _ _):S2 (Tz (ar 5 1 0)) (ad (qm (q1++q2)))=ad (qm (q1++q2))),.o (.ren 5 0),.v (@hc (Sd w p r q1 q2)),xd,.a1 (.zkf [3,4,5,10,11,12,13,14,15,16,19,20] e {t:=oz 167 0 [(10,.ref (.ptr 1 0)),(11,.ref (.ptr 2 0)),(12,.ref (.ptr 3 0)),(13,.ref (.ptr 4 0))],h:=H})]<;>(exact aj _ _)
abbrev Sf(w:eO)(d5 bO:Int)(rs q3:iF)(p:gM)(r:JZ)(l:iN):AS:={t:=oz 167 0 [(3,dd d5),(4,dd bO),zbK,WF,zat,zaJ,zaK,(14,clo),zbu,(16,ab (qm q3)),(zd7 l)],h:=dgB w rs 0 p.l r,m:=[]}
abbrev zdY(a:bv)(b:Int)(c:bv):bY:=[ab a,dd b,ab c]
abbrev ML(w:eO)(rs:iF)(x1 x3:bv)(ms:Int)(p:gM)(r:JZ):aT:=[eF w.l,eF (zdY x1 ms x3),eF [eP N],eF za2,eF [dd 0],.eQ (ad (qm rs)) 0 5,eF p.l,eF r.l]
abbrev sgD(w:eO)(rs:iF)(x1 x3:bv)(ms:Int)(p:gM)(r:JZ)(l:iN)(e3:Int):AS:={t:=oz 167 0 [WF,zat,zaJ,zaK,zbu,(19,dd e3),(zd7 l)],h:=ML w rs x1 x3 ms p r,m:=[]}
abbrev zdJ(a b c:iF):List (bY):=(ad (qm (a++b++c)))
noncomputable abbrev Sg(w:eO)(p:gM)(Q:Or)(r:JZ)(rs:iF)(q3:iF)(q4:iF):aT:=[eF (ZA w),eF [nq,dd 0,nq],eF [eP N],eF za2,eF [dd 0],.eQ (zdJ rs q3 q4) 0 5,eF (ZN p (S2 Ts Q)),eF (zaM r)]
noncomputable abbrev Sh(w:eO)(p:gM)(r:JZ)(rs:iF):aT:=(zhq w [nq,dd 0,nq] rs (ZI p) r)
theorem dg_C{Q:List CS}{q4:List CX}(hb:rs.length+q3.length<=3000000000000)
  (hcl:Ev S5 fI 44 [ab (p.reqs.map Ts)] [] (.ref (.eQ 0 1)) [.eQ (ad (p.reqs.map Ts)) 1 6])
  (hl:CW S5 jV (hA w) false (.loop (sub TN 0)) (doS w d5 bO l (rs++q3) p r (p.reqs.map Ts) ((ad (p.reqs.map Ts)).length:Int) 0) (.exit 0) (doE w l (rs++q3++q4) p r (Q.map Ts)))
  (ha:∀h,Ev S5 fI 49 [.agg (gM.l ⟨p.nm,p.number,p.F2,p.zm,p.num,p.den,Q⟩),ab (l.map Tb)] h (.JY [.agg [ab x1,dd ms,ab x3],dd e3]) h)
  (ht:CW S5 jV (hA w) false (be (al TN) 29) (sgD w (rs++q3++q4) x1 x3 ms ⟨p.nm,p.number,p.F2,p.zm,p.num,p.den,Q⟩ r l e3) e {t:=dgO,h:=H,m:=[]}):(CW S5 jV (hA w) false (be (al TN) 12) (Sf w d5 bO rs q3 p r l) e {t:=dgO,h:=H,m:=[]}):=by
 have xd:=(@hl)
 have hl1:=(@ht)
 let v0:List D:=[dd r.st,ab (S2 Tb r.a)]
 let v1:=S2 Ts p.reqs
 refine yx [] [.c ((fX [3,5] (Tp (@yv rs q3 hb)) ⟨(by subst v0 v1;exact aj _ _),trivial⟩ ⟨(by subst v0 v1;exact aj _ _),trivial⟩):Ev S5 jV 39 [ab (qm q3),.ref (.ptr 3 0)] (Sh w p r rs) (TT []) [.var (TC w),.var [nq,dd 0,nq],.var [eP false],.var [.ref (.eQ 5 1)],.var [dd 0],.eQ (ad (qm (rs++q3))) 1 5,.var [am p.nm,dd p.number,dd p.F2,dd p.zm,dd p.num,dd p.den,ab v1],.var v0]),(?_:S2 (Tz (ar 5 1 0)) (ad (qm (rs++q3)))=ad (qm (rs++q3))),.o (.ren 5 0),.c ((fX [] (Tp (@hcl)) trivial ⟨(by subst v0 v1;exact aj _ _),trivial⟩):Ev S5 jV 44 [ab v1] [.var (TC w),.var [nq,dd 0,nq],.var [eP false],.var [.ref (.eQ 5 0)],.var [dd 0],.eQ (ad (qm (rs++q3))) 0 5,.var [am p.nm,dd p.number,dd p.F2,dd p.zm,dd p.num,dd p.den,ab v1],.var v0] (.ref (.eQ 8 1)) [.var (TC w),.var [nq,dd 0,nq],.var [eP false],.var [.ref (.eQ 5 0)],.var [dd 0],.eQ (ad (qm (rs++q3))) 0 5,.var [am p.nm,dd p.number,dd p.F2,dd p.zm,dd p.num,dd p.den,ab v1],.var v0,.eQ (ad v1) 1 6]),.s [3,4,5,10,11,12,13,14,15,20,82,83,84] xd,(?_:ad (S2 Ts Q)=S2 (λx=>S2 Us x) (S2 Ts Q)),(?_:S2 (Tz (cw 8 1 (S2 Ts Q))) (ad (qm (rs++q3++q4)))=ad (qm (rs++q3++q4))),(rfl:Tl 8 (match 0==8 with|true=>.EU|false=>A7 (cw 8 1 (S2 Ts Q)) (.var (TC w)))=true),(rfl:Tl 8 (match 0+1==8 with|true=>.EU|false=>A7 (cw 8 1 (S2 Ts Q)) (.var [nq,dd 0,nq]))=true),(rfl:Tl 8 (match 0+1+1==8 with|true=>.EU|false=>A7 (cw 8 1 (S2 Ts Q)) (.var [eP false]))=true),(rfl:Tl 8 (match 0+1+1+1==8 with|true=>.EU|false=>A7 (cw 8 1 (S2 Ts Q)) (.var [.ref (.eQ 5 0)]))=true),(rfl:Tl 8 (match 0+1+1+1+1==8 with|true=>.EU|false=>A7 (cw 8 1 (S2 Ts Q)) (.var [dd 0]))=true),(?_:Tl 8 (match 0+1+1+1+1+1==8 with|true=>.EU|false=>A7 (cw 8 1 (S2 Ts Q)) (.eQ (ad (qm (rs++q3++q4))) 0 5))=true),(rfl:Tl 8 (match 0+1+1+1+1+1+1==8 with|true=>.EU|false=>A7 (cw 8 1 (S2 Ts Q)) (.var [am p.nm,dd p.number,dd p.F2,dd p.zm,dd p.num,dd p.den,.ref (.eQ 8 1)]))=true),(rfl:Tl 8 (match 0+1+1+1+1+1+1+1==8 with|true=>.EU|false=>A7 (cw 8 1 (S2 Ts Q)) (.var v0))=true),.o (.frz 8 (S2 Ts Q)),.o (.Ju 8),.v (Tp (Γ':=jV) (@ha (Sg w p Q r rs q3 q4))),hl1,.a1 (.zkf [10,11,12,13,15,19,20] e {t:=oz 167 0 [(10,.ref (.ptr 1 0)),(11,.ref (.ptr 2 0)),(12,.ref (.ptr 3 0)),(13,.ref (.ptr 4 0))],h:=H})]<;>subst v0 v1<;>(first|rfl|exact aD _ _|exact aB _ _)
abbrev doZ(w:eO)(d5 bO:Int)(l:iN)(rs:iF)(p:bY)(r:JZ):AS :={t:=oz 167 0 [(3,dd d5),(4,dd bO),zbK,WF,zat,zaJ,zaK,(14,clo),zbu,(zd7 l),(82,ab []),(83,dd 0),(84,dd 0)],h:=dgB w rs 0 p r,m:=[]}
abbrev doZE(w:eO)(l:iN)(rs:iF)(p:bY)(r:JZ):AS :={t:=(ziJ l),h:=dgB w rs 0 p r,m:=[]}
theorem Lm{l:iN}{rs:iF}{p:bY}:(CW S5 jV (hA w) N (sub TN 0) (doZ w d5 bO l rs p r) (E8 0) (doZE w l rs p r)):=yx [CE (EZ [10,11,12,13,15,20])] [.e]
theorem doZ_cw{w:eO}{d5 bO:Int}{l:iN}{rs:iF}{p:bY}{r:JZ}:CW S5 jV (hA w) false (.loop (sub TN 0)) (doZ w d5 bO l rs p r) (.exit 0) (doZE w l rs p r) :=Ww (P:=S5) (Γ:=jV) (h0:=hA w) (rd:=false) (c:=sub TN 0) 0 (λ_=>doZ w d5 bO l rs p r) (by simp) (λi hi=>absurd hi (V7 i)) Lm
abbrev pZ(p:gM):gM:=⟨p.nm,p.number,p.F2,p.zm,p.num,p.den,[]⟩
noncomputable abbrev B4(w:eO)(p:gM)(r:JZ)(rs:iF)(q3:iF):aT:=[eF (ZA w),eF [nq,dd 0,nq],eF [eP N],eF za2,eF [dd 0],.eQ (zct rs q3) 0 5,eF (ZN p []),eF (zaM r)]
noncomputable abbrev Ln(w:eO)(p:gM)(r:JZ)(rs:iF):aT:=(zhq w [nq,dd 0,nq] rs (ZN p []) r)
theorem dg_C0(hb:rs.length+q3.length<=3000000000000)
  (hcl:∀h,Ev S5 fI 44 [ab []] h (ab []) h)
  (ha:∀h,Ev S5 fI 49 [.agg (pZ p).l,ab (l.map Tb)] h (.JY [.agg [ab x1,dd ms,ab x3],dd e3]) h)
  (ht:CW S5 jV (hA w) false (be (al TN) 29) (sgD w (rs++q3) x1 x3 ms (pZ p) r l e3) e {t:=dgO,h:=H,m:=[]}):(CW S5 jV (hA w) false (be (al TN) 12) (Sf w d5 bO rs q3 (pZ p) r l) e {t:=dgO,h:=H,m:=[]}):=by
 have xd:=(@doZ_cw (w) (d5) (bO) (l) (rs++q3) ([am p.nm,dd p.number,dd p.F2,dd p.zm,dd p.num,dd p.den,ab []]) (r))
 have hl1:=(@ht)
 refine yx [] [.c ((fX [3,5] (Tp (@yv rs q3 hb)) ⟨?_,trivial⟩ ⟨?_,trivial⟩):Ev S5 jV 39 [ab (qm q3),.ref (.ptr 3 0)] (Ln w p r rs) (TT []) [.var (TC w),.var [nq,dd 0,nq],.var [eP false],.var [.ref (.eQ 5 1)],.var [dd 0],.eQ (ad (qm (rs++q3))) 1 5,.var [am p.nm,dd p.number,dd p.F2,dd p.zm,dd p.num,dd p.den,ab []],.var [dd r.st,ab (S2 Tb r.a)]]),((by exact aB _ _):S2 (Tz (ar 5 1 0)) (ad (qm (rs++q3)))=ad (qm (rs++q3))),.o (.ren 5 0),.v (Tp (Γ':=jV) (@hcl (B4 w p r rs q3))),.s [3,4,5,10,11,12,13,14,15,20,82,83,84] xd,.v (Tp (Γ':=jV) (@ha (B4 w p r rs q3))),hl1,.a1 (.zkf [10,11,12,13,15,19,20] e {t:=oz 167 0 [(10,.ref (.ptr 1 0)),(11,.ref (.ptr 2 0)),(12,.ref (.ptr 3 0)),(13,.ref (.ptr 4 0))],h:=H})]<;>(exact aj _ _)
abbrev sgD30(w:eO)(rs:iF)(x1 x3:bv)(ms:Int)(p:gM)(r:JZ)(l:iN):AS:={t:=(ziJ l),h:=ML w rs x1 x3 ms p r,m:=[]}
abbrev sgE(w:eO)(rs:iF)(x1 x3:bv)(ms:Int)(p:gM)(r:JZ)(l:iN)(en e4:Int):AS:={t:=oz 167 0 [WF,zat,zaJ,zaK,zbu,(19,dd e4),(zd7 l),(28,dd en)],h:=ML w rs x1 x3 ms p r,m:=[]}
noncomputable abbrev Si(w:eO)(ms:Int)(p:gM)(r:JZ)(rs:iF)(x1:bv)(x3:bv):aT:=(zhq w (zdY x1 ms x3) rs (ZI p) r)
theorem dg_D{e4:Int}
  (he:∀h,Ev S5 fI 50 [ab (l.map Tb)] h (.JY [dd en,dd e4]) h)
  (ht:CW S5 jV (hA w) false (be (al TN) 31) (sgE w rs x1 x3 ms p r l en e4) e {t:=dgO,h:=H,m:=[]}):(CW S5 jV (hA w) false (be (al TN) 30) (sgD30 w rs x1 x3 ms p r l) e {t:=dgO,h:=H,m:=[]}):=by
 have xd:=(@ht)
 exact yx [] [.v (Tp (Γ':=jV) (@he (Si w ms p r rs x1 x3))),xd,.a1 (.zkf [10,11,12,13,15,19,20,28] e {t:=oz 167 0 [(10,.ref (.ptr 1 0)),(11,.ref (.ptr 2 0)),(12,.ref (.ptr 3 0)),(13,.ref (.ptr 4 0))],h:=H})]
abbrev sgE32(w:eO)(rs:iF)(x1 x3:bv)(ms:Int)(p:gM)(r:JZ)(l:iN)(en:Int):AS:={t:=oz 167 0 [WF,zat,zaJ,zaK,zbu,(zd7 l),(28,dd en)],h:=ML w rs x1 x3 ms p r,m:=[]}
abbrev zgW(a:Nat):Nat×D:=(a,fE (ql 8 0))
abbrev sgF(w:eO)(rs:iF)(x1 x3:bv)(ms:Int)(p:gM)(r:JZ)(en mn md e5:Int):AS:={t:=oz 167 0 [WF,zat,zaJ,zaK,zbu,(19,dd e5),(28,dd en),(zgW 29)],h:=ML w rs x1 x3 ms p r++(zcZ mn md),m:=[]}
noncomputable abbrev Sj(w:eO)(ms:Int)(p:gM)(r:JZ)(rs:iF)(x1:bv)(x3:bv):aT:=(zhq w (zdY x1 ms x3) rs (ZI p) r)
theorem dg_E{e5:Int}
  (hm:∀h,Ev S5 fI 51 [ab (l.map Tb)] h (.JY [.agg [dd mn,dd md],dd e5]) h)
  (ht:CW S5 jV (hA w) false (be (al TN) 33) (sgF w rs x1 x3 ms p r en mn md e5) e {t:=dgO,h:=H,m:=[]}):(CW S5 jV (hA w) false (be (al TN) 32) (sgE32 w rs x1 x3 ms p r l en) e {t:=dgO,h:=H,m:=[]}):=by
 have xd:=(@ht)
 exact yx [] [.v (Tp (Γ':=jV) (@hm (Sj w ms p r rs x1 x3))),xd,.a1 (.zkf [10,11,12,13,15,19,28,29] e {t:=oz 167 0 [(10,.ref (.ptr 1 0)),(11,.ref (.ptr 2 0)),(12,.ref (.ptr 3 0)),(13,.ref (.ptr 4 0))],h:=H})]
abbrev sgF34(w:eO)(rs:iF)(x1 x3:bv)(ms:Int)(p:gM)(r:JZ)(en mn md:Int):AS:={t:=oz 167 0 [WF,zat,zaJ,zaK,zbu,(28,dd en),(zgW 29)],h:=ML w rs x1 x3 ms p r++(zcZ mn md),m:=[]}
abbrev sgG(w:eO)(rs:iF)(x1 x3:bv)(ms:Int)(p:gM)(r:JZ)(en mn md c e6:Int):AS:={t:=oz 167 0 [WF,zat,zaJ,zaK,zbu,(19,dd e6),(28,dd en),(30,dd c)],h:=ML w rs x1 x3 ms p r++(zcZ mn md),m:=[]}
noncomputable abbrev Sk(w:eO)(ms:Int)(mn:Int)(md:Int)(p:gM)(r:JZ)(rs:iF)(x1:bv)(x3:bv):aT:=(zhv (ZA w) (zdY x1 ms x3) (ad (qm rs)) (ZI p) (zaM r) (eF [dd mn,dd md]))
theorem dg_F{e6:Int}
  (hm:∀h,Ev S5 fI 52 [.agg [dd mn,dd md],.agg [dd p.num,dd p.den]] h (.JY [dd c,dd e6]) h)
  (ht:CW S5 jV (hA w) false (be (al TN) 35) (sgG w rs x1 x3 ms p r en mn md c e6) e {t:=dgO,h:=H,m:=[]}):(CW S5 jV (hA w) false (be (al TN) 34) (sgF34 w rs x1 x3 ms p r en mn md) e {t:=dgO,h:=H,m:=[]}):=by
 have xd:=(@ht)
 exact yx [] [.v (Tp (Γ':=jV) (@hm (Sk w ms mn md p r rs x1 x3))),xd,.a1 (.zkf [10,11,12,13,15,19,28,30] e {t:=oz 167 0 [(10,.ref (.ptr 1 0)),(11,.ref (.ptr 2 0)),(12,.ref (.ptr 3 0)),(13,.ref (.ptr 4 0))],h:=H})]
abbrev sgG36(w:eO)(rs:iF)(x1 x3:bv)(ms:Int)(p:gM)(r:JZ)(en mn md c:Int):AS:={t:=oz 167 0 [WF,zat,zaJ,zaK,zbu,(28,dd en),(30,dd c)],h:=ML w rs x1 x3 ms p r++(zcZ mn md),m:=[]}
theorem dg_G:(CW S5 jV (hA w) false (be (al TN) 36) (sgG36 w rs x1 x3 ms p r en mn md c) .ret {t:=dgO,h:=[.var w.l,.var [ab x1,dd ms,ab x3],.var [eP (ms==0&&eY (en>=p.zm)&&eY (c>=0))],.var [ab (qm rs)],.var [dd 0]],m:=[]}):=by
 exact yx [.st (.mask [10,11,12,13]),.st (.frz 5 (qm rs)),.st (.Ju 5)] [pe (D.agg [ab x1,dd ms,ab x3]),pe (.ref (.ptr 1 1)),po (some (dd ms)),((λhg=>rfl):(ms==0)=true->(.ref (.ptr 6 3):D)=.ref (.ptr 6 3)),((λhg=>rfl):(ms==0)=true->some (dd p.zm)=some (dd p.zm)),po (some (.ref (.eQ 5 0))),po (some (.ref (.eQ 5 0))),po (some (.ref (.eQ 5 0))),((by rfl):ad (qm rs)=S2 (λx=>S2 Us x) (qm rs)),(rfl:Tl 5 (match 0==5 with|true=>.EU|false=>A7 (cw 5 0 (qm rs)) (.var (TC w)))=true),(rfl:Tl 5 (match 0+1==5 with|true=>.EU|false=>A7 (cw 5 0 (qm rs)) (.var [ab x1,dd ms,ab x3]))=true),(rfl:Tl 5 (match 0+1+1==5 with|true=>.EU|false=>A7 (cw 5 0 (qm rs)) (.var [eP (ms==0&&eY (en>=p.zm)&&eY (c>=0))]))=true),(rfl:Tl 5 (match 0+1+1+1==5 with|true=>.EU|false=>A7 (cw 5 0 (qm rs)) (.var [.ref (.eQ 5 0)]))=true),(rfl:Tl 5 (match 0+1+1+1+1==5 with|true=>.EU|false=>A7 (cw 5 0 (qm rs)) (.var [dd 0]))=true)]
noncomputable abbrev Sl(w:eO):aT:=(ziV w)
theorem dg_N{pc:List D}(hb:q1.length<=1000000)
  (hp:∀h,Ev S5 jV 40 [.agg w.l,dd n,dd d5,dd bO] h (.JY [.agg p.l,ab (qm q1),eP false]) h):(CW S5 jV (hA w) false (cR (cR (al TN))) (sgA w st n d5 bO) .ret {t:=dgO,h:=[.var w.l,.var [nq,dd 0,nq],.var [eP false],.var [ab (qm q1)],.var [dd 0]],m:=[]}):=by
 refine yx [.st (.mask [10,11,12,13]),.st (.frz 5 (qm q1)),.st (.Ju 5)] [.o (.zfG 3 0 5),.v (@hp (Sl w)),.c ((fX [3,5] (Tp (@HJ q1 (by omega))) ⟨?_,trivial⟩ ⟨?_,trivial⟩):Ev S5 jV 39 [ab (qm q1),.ref (.ptr 3 0)] [.var (TC w),.var [nq,dd 0,nq],.var [eP false],.var [.ref (.eQ 5 0)],.var [dd 0],.eQ [] 0 5,.var [am p.nm,dd p.number,dd p.F2,dd p.zm,dd p.num,dd p.den,ab (S2 Ts p.reqs)]] (TT []) [.var (TC w),.var [nq,dd 0,nq],.var [eP false],.var [.ref (.eQ 5 1)],.var [dd 0],.eQ (ad (qm q1)) 1 5,.var [am p.nm,dd p.number,dd p.F2,dd p.zm,dd p.num,dd p.den,ab (S2 Ts p.reqs)]]),pe (D.agg [nq,dd 0,nq]),po (some (.ref (.eQ 5 1))),po (some (.ref (.eQ 5 1))),po (some (.ref (.eQ 5 1))),((by rfl):ad (qm q1)=S2 (λx=>S2 Us x) (qm q1)),(rfl:Tl 5 (match 0==5 with|true=>.EU|false=>A7 (cw 5 1 (qm q1)) (.var (TC w)))=true),(rfl:Tl 5 (match 0+1==5 with|true=>.EU|false=>A7 (cw 5 1 (qm q1)) (.var [nq,dd 0,nq]))=true),(rfl:Tl 5 (match 0+1+1==5 with|true=>.EU|false=>A7 (cw 5 1 (qm q1)) (.var [eP false]))=true),(rfl:Tl 5 (match 0+1+1+1==5 with|true=>.EU|false=>A7 (cw 5 1 (qm q1)) (.var [.ref (.eQ 5 1)]))=true),(rfl:Tl 5 (match 0+1+1+1+1==5 with|true=>.EU|false=>A7 (cw 5 1 (qm q1)) (.var [dd 0]))=true),.e]<;>(first|rfl|exact aj _ _)
end Go.Vi
