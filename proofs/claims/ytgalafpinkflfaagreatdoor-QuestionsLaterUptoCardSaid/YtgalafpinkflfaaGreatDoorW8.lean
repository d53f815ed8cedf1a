/- A part of the proof; no conditions of its own. -/
import Derived.Test.YtgalafpinkflfaaGreatDoorW7
import Derived.Shelf.Slices.In.CompactI
open Bool renaming true->J,false->N
open Option renaming some->G,none->Y
open Go.Vi.ql renaming map->NI,var->eP,loop->Js,EZ->xx
open Go.Exit renaming normal->w8,exit->EY
open Go.Vi.D renaming Pp->uN,agg->mS,ref->gM
open Go.Vi.SOp renaming frz->Λ,P1->zlw,mask->IW
open Go.Vi.η renaming st->E6,ov->zfG,inl->Τ
open Go.IntKind renaming i64->Χ
open Go.Vi.Ref renaming ptr->qn
open Decidable renaming decide -> fE
open Go.Proofs.Tryz renaming prog -> S5, f44 -> Vq, isAgg3 -> Zf, sizeOf3 -> YO, underlying32 -> W8, f15 -> TN
open List renaming getElem?_eq_some_iff -> Td, length_filter_le -> YZ, map -> S2, length -> S7, mergeSort -> UF, length_cons -> Ue, length_nil -> VF, length_mergeSort -> XN, all -> Tq, all_eq_true -> TW, append_assoc -> WV, getElem?_append_right -> T8, replicate -> Ti, length_map -> Uw, append -> Zg, drop_zero -> Xj, map_append -> Uh, foldl_cons -> TG, length_take -> VX, getElem?_eq_getElem -> TH, take_succ_eq_append_getElem -> Wc, getElem?_map -> Vo, drop_eq_getElem_cons -> Yw, map_cons -> U5
open Go.Vi.uT renaming row -> Tc
open Go.Vi.Β renaming row -> Tj
open Go.Vi.qH renaming row -> Ta
open Go.Vi.D renaming Pp -> TT, p -> Us, θ -> Tz
open Go.Vi.eQ renaming l -> TC
open Go.Vi.Ev renaming zkJ -> Tw, zkr -> Tp
open Go.Vi.ql renaming inn -> Tl
open Go.Vi.E7 renaming row -> Ts
open Bool renaming and_eq_true -> Tm
open Go.Value renaming int -> Ux
open Go.Sort renaming grow -> WU, putRow -> Un, ahead -> Uz, putCells -> UW, heap_grow_old -> VT, mapBlock -> Ur
open Array renaming getElem?_eq_some_iff -> V8, getElem?_modify -> Xx
open Go.World renaming cell? -> Xh
open Go.Calls renaming mono -> Xp
open Nat renaming le_refl -> T0, le_trans -> Vj, not_lt_zero -> V7
open Go.Lib renaming compact -> Vb
open Go.Vi.CW renaming zmB -> Ww
open Go.IntKind renaming u64 -> TB, wrap -> S8, i64 -> S6
open Go.Vi.uS renaming row -> Tb
open Go.Exit renaming normal -> Tr
open Prod.mk renaming injEq -> Tk
open Int renaming toNat -> S9
open Go Go.Proofs
namespace Go.Vi
set_option maxRecDepth 100000
set_option maxHeartbeats 4000000
variable {a c bO n eF:Int}{l:Or}{ns:bV}{w:eQ}
def ij(ns l:bV):Nat:=(ns.filter λx=>!l.contains x).length
theorem BX(l:bV)(n:Int):∀ns:bV,ij ns (l++[n])<=ij ns l
 | []=>by simp[ij]
 |a::ns=>by have ih:=BX l n ns;unfold ij at *;grind
theorem BZ{l:bV}(hn:l.contains n=N):∀{ns:bV},n∈ns->ij ns (l++[n])+1<=ij ns l
 |a::ns,h=>by
  by_cases ha:a=n
  ·subst ha;have ih:=BX l a ns;have h2:(l++[a]).contains a=J:=qk
   unfold ij at *;grind
  ·have h':n∈ns:=(List.mem_cons.1 h).resolve_left λe=>ha e.symm;have ih:=BZ hn h';have h2:(l++[n]).contains a=l.contains a:=by rw[Bool.eq_iff_iff];simp[ha]
   unfold ij at *;grind
theorem HB(hn:n∈ns)(s:RL):ij ns (eqN w eF bO a s n).2+(eqN w eF bO a s n).2.length<=ij ns s.2+s.2.length:=by
 unfold eqN;cases hc:s.2.contains n
 ·cases zqD w eF bO a n;·simp
  ·have:=BZ hc hn;simp;omega
 ·simp
theorem iT{w:eQ}{eF bO a:Int}{ns:bV}:∀(ms:bV),(∀n∈ms,n∈ns)->∀s:RL,ij ns (ms.foldl (eqN w eF bO a) s).2+(ms.foldl (eqN w eF bO a) s).2.length<=ij ns s.2+s.2.length/\(ms.foldl (eqN w eF bO a) s).1.length<=s.1.length+ms.length
 | [],_,s=>qk
 |n::ms,h,s=>by have h1:=HB (w:=w) (eF:=eF) (bO:=bO) (a:=a) (h n qk) s;have h2:=iT (w:=w) (eF:=eF) (bO:=bO) (a:=a) ms (λx hx=>h x (List.mem_cons_of_mem _ hx)) (eqN w eF bO a s n);have h3:=HA (w:=w) (eF:=eF) (bO:=bO) (a:=a) s n;grind
def zaN(w:eQ)(eF bO:Int)(ns:bV):Nat->Nat->RL->RL
 |0,_,s=>s
 |f+1,i,s=>match s.2[i]? with
  |some a=>zaN w eF bO ns f (i+1) (zjM w eF bO ns a s)
  |none=>s
theorem gi{f i:Nat}{s:RL}(h:s.2[i]?=Y):zaN w eF bO ns f i s=s:=by cases f<;>simp[zaN,h]
theorem eo_g(hwf:ah w.f)(hn:ns.length<=1000){rs:iF}{l:bV}(hb:rs.length<=900000000)(hl:ij ns l+l.length<=ns.length+1):CW S5 ji [] false (.loop (sub Tryz.f45 0)) (eoS w eF bO (zaQ ns) rs l 0) (.exit 0) (eoE w (zaN w eF bO ns (ns.length+1) 0 (rs,l)).1 (zaN w eF bO ns (ns.length+1) 0 (rs,l)).2):=by
 refine CW.loop (ι:={p:Nat×Nat×RL // p.2.1+p.1=ns.length+1/\ij ns p.2.2.2+p.2.2.2.length<=ns.length+1/\p.2.2.1.length<=rs.length+p.2.1*1000/\zaN w eF bO ns p.1 p.2.1 p.2.2=zaN w eF bO ns (ns.length+1) 0 (rs,l)})
  (λp=>eoS w eF bO (zaQ ns) p.1.2.2.1 p.1.2.2.2 p.1.2.1) (λ_=>(.exit 0,eoE w (zaN w eF bO ns (ns.length+1) 0 (rs,l)).1 (zaN w eF bO ns (ns.length+1) 0 (rs,l)).2)) (λp=>p.1.1) ?_ ⟨(ns.length+1,0,(rs,l)),by simp,hl,by simp,rfl⟩
 rintro⟨⟨f,i,s⟩,h1,h2,h3,h4⟩;simp only at h1 h2 h3 h4 ⊢;cases ha:s.2[i]? with
 | none =>refine .inr ⟨by simp,?_⟩;rw[gi ha] at h4;rw[<-h4];refine RQ ?_;grind
 | some a =>
  have hi:=(Td.1 ha).1;obtain⟨g,rfl⟩:∃g,f=g+1:=⟨f-1,by omega⟩;have hf:=iT (w:=w) (eF:=eF) (bO:=bO) (a:=a) (ns:=ns) ns (λ_ h=>h) s;refine .inl ⟨⟨(g,i+1,zjM w eF bO ns a s),by grind,by grind [zjM],by grind [zjM],?_⟩,by simp only;omega,trivial,?_⟩;·simp only[zaN,ha] at h4;exact h4
  ·refine RP hwf hn ha ?_ ?_ ?_ ?_;·rw[wrap_i64 (by omega) (by omega)];omega
   ·grind
   ·omega
   ·omega
def lQ(w:eQ)(c eF bO:Int):RL:=zaN w eF bO (af w.f bO) ((af w.f bO).length+1) 0 ([rdN],[c])
def DE(w:eQ)(c eF bO:Int):bV:=(lQ w c eF bO).2.mergeSort λx y=>fE (x<=y)
theorem Lc{x0 x1 x3:ql}{l:bV}(hl:l.length<4611686018427387904):Ev S5 ji 107 (zbn 2 0) [x0,x1,.eY (nuV l) 0 1,x3] (uN []) [x0,x1,.eY (nuV (l.mergeSort λx y=>fE (x<=y))) 0 1,x3] :=sJ (h:=[x0,x1,.eY (nuV l) 0 1,x3]) (b:=2) rfl hl
theorem yq(ns:bV)(c:Int):ij ns [c] + [c].length<=ns.length+1:=by have:=YZ (λx=>!([c]:bV).contains x) ns;unfold ij;grind
theorem eo1_cw{w:eQ}(hw:w.ok){c eF bO:Int}(hn:(af w.f bO).length<=1000):CW S5 ji [] false (.loop (sub Tryz.f45 0)) {t:=qm 100 0 [(2,eO eF),(3,eO bO),zfr,zcU,ze0,(10,ab (zaQ (af w.f bO))),zfM,(12,eO 0)],h:=[.var w.l,.eY zdX 0 5,.eY [[eO c]] 0 1,.map [(eO c,eR true,0)] 1],m:=[]}
   (.exit 0) (eoE w (lQ w c eF bO).1 (lQ w c eF bO).2) :=
 eo_g hw.sf hn (rs:=[rdN]) (l:=[c]) (by simp) (yq _ _)
noncomputable abbrev nh(w:eQ):aT:=[eP (ZA w)]
abbrev ZW(a:iF):List (bY):=S2 (λx=>S2 Us x) (sU a)
abbrev zjh(a:bv)(b:iF):D:=(uN [ab a,ab (sU b)])
theorem RR(hw:w.ok)(hc:(!(fE (c>=0)&&fE (c<=4095))||!(fE (eF>=0)&&fE (eF<=1023)))=N)(hn:(af w.f bO).length<=1000)(hl:(lQ w c eF bO).2.length<4611686018427387904)(hnum:∀h,Ev S5 ji 105 [mS w.l,eO bO] h (uN [ab (zaQ (af w.f bO)),gM (.eY h.length 0)]) (h++[.eY zdX 0 5]))(h:aT):(Ev S5 ji 45 (zbE w c eF bO) h (zjh (zaQ (DE w c eF bO)) ((lQ w c eF bO).1)) h):=by have xd:=(@eo1_cw (w) (hw) (c) (eF) (bO) (hn));refine yD (TT [ab (zcd (DE w c eF bO)),ab (sU (lQ w c eF bO).fst)]) [.v (@bD c 0 4095 (nh w)),.w (!!(fE (c>=0)&&fE (c<=4095))) (@bD eF 0 1023 (nh w)),.b hc,.c (@hnum (nh w)),.s [2,3,4,8,9,10,11,12] xd,.c (@Lc (eP (TC w)) (zb8 ((lQ w c eF bO).fst) 0) (NI (aW (lQ w c eF bO).2) (S7 (lQ w c eF bO).2)) ((lQ w c eF bO).2) hl),(?_:nuV (UF (lQ w c eF bO).2 λx y=>fE (x<=y))=S2 (λx=>S2 Us x) (zcd (DE w c eF bO))),(?_:S2 (Tz (cw 2 0 (zcd (DE w c eF bO)))) (ad (sU (lQ w c eF bO).fst))=ad (sU (lQ w c eF bO).fst)),(?_:S2 (λe=>(D.FK (cw 2 0 (zcd (DE w c eF bO))) e.fst,D.FK (cw 2 0 (zcd (DE w c eF bO))) e.2.fst,e.2.2)) (aW (lQ w c eF bO).2)=aW (lQ w c eF bO).2),(?_:ad (sU (lQ w c eF bO).fst)=(ZW ((lQ w c eF bO).fst))),(?_:S2 (λe=>(D.FK (cw 1 0 (sU (lQ w c eF bO).fst)) e.fst,D.FK (cw 1 0 (sU (lQ w c eF bO).fst)) e.2.fst,e.2.2)) (aW (lQ w c eF bO).2)=aW (lQ w c eF bO).2),.o (Λ 2 (zcd (DE w c eF bO))),.o (Λ 1 (sU (lQ w c eF bO).fst))] h mW<;>(first|rfl|exact LR _|exact aB _ _|exact db _ _)
theorem yr{w:eQ}{eF bO:Int}{ns:bV}:∀(f i:Nat) (s:RL),ij ns (zaN w eF bO ns f i s).2+(zaN w eF bO ns f i s).2.length<=ij ns s.2+s.2.length/\(zaN w eF bO ns f i s).1.length<=s.1.length+f*ns.length
 |0,_,s=>by simp[zaN]
 |f+1,i,s=>by
  cases ha:s.2[i]? with
  |none=>rw[gi ha];simp
  |some a=>have h1:=iT (w:=w) (eF:=eF) (bO:=bO) (a:=a) (ns:=ns) ns (λ_ h=>h) s;have h2:=yr (w:=w) (eF:=eF) (bO:=bO) (ns:=ns) f (i+1) (zjM w eF bO ns a s);simp[zaN,ha];grind [zjM,Nat.add_mul]
theorem B0:(lQ w c eF bO).2.length<=(af w.f bO).length+1/\(lQ w c eF bO).1.length<=1+((af w.f bO).length+1)*(af w.f bO).length:=by have h:=yr (w:=w) (eF:=eF) (bO:=bO) (ns:=af w.f bO) ((af w.f bO).length+1) 0 ([rdN],[c]);have h1:=yq (af w.f bO) c;grind [Ue,VF,lQ]
def bQ(w:eQ)(c eF bO:Int):RL:=match (!(fE (c>=0)&&fE (c<=4095))||!(fE (eF>=0)&&fE (eF<=1023))) with
 |true=>([],[c])
 |false=>((lQ w c eF bO).1,DE w c eF bO)
theorem lJ(hn:(af w.f bO).length<=1000):(bQ w c eF bO).1.length<=1001001/\(bQ w c eF bO).2.length<=1001:=by have h:=B0 (w:=w) (c:=c) (eF:=eF) (bO:=bO);have h2:((af w.f bO).length+1)*(af w.f bO).length<=1001*1000:=Nat.mul_le_mul lj hn;grind [DE,XN,bQ]
noncomputable abbrev tC(w:eQ):aT:=[eP (ZA w)]
theorem RS(hc:(!(fE (c>=0)&&fE (c<=4095))||!(fE (eF>=0)&&fE (eF<=1023)))=J)(h:aT):(Ev S5 ji 45 (zbE w c eF bO) h (uN [ab (zaQ [c]),ab (sU [])]) h):=Tw (Ev.ziv (y0 (d:=TT [ab [[vi c]],nq]) [.v (@bD c 0 4095 (tC w)),.w (!!(fE (c>=0)&&fE (c<=4095))) (@bD eF 0 1023 (tC w)),.b hc,pr [[eO c]],.n 1,.o (Λ 1 [[vi c]])] h)) Fb Fb
theorem Ld(hw:w.ok)(hn:(af w.f bO).length<=1000)(h:aT):Ev S5 ji 45 (zbE w c eF bO) h (uN [ab ((bQ w c eF bO).2.map λn=>[vi n]),ab (sU (bQ w c eF bO).1)]) h:=by
 unfold bQ;cases hc:(!(fE (c>=0)&&fE (c<=4095))||!(fE (eF>=0)&&fE (eF<=1023)));·exact RR hw hc hn (by have:=(B0 (w:=w) (c:=c) (eF:=eF) (bO:=bO)).1;omega) (λh=>qj hw.lf hw.sf h) h
 ·exact RS hc h
theorem yu{w:eQ}(hw:w.ok){c eF bO:Int}(hn:(af w.f bO).length<=1000)(h:aT):Ev S5 lL 45 (zbE w c eF bO) h (uN [ab ((bQ w c eF bO).2.map λn=>[vi n]),ab (sU (bQ w c eF bO).1)]) h:=Tp (Ld hw hn h)
abbrev zbo(a:iF)(b:eQ)(c d e:Int):List (bY):=(ad (sU (a++(bQ b c d e).fst)))
noncomputable abbrev lK(w:eQ)(bO:Int)(n:Int)(eF:Int)(rs:iF):aT:=[eP (ZQ 1 w bO),.eY (zbo rs w n eF bO) 1 5]
noncomputable abbrev vA(w:eQ)(bO:Int)(rs:iF):aT:=[eP (ZQ 0 w bO),.eY (ad (sU rs)) 0 5]
abbrev zjl(a:Int)(b:eQ)(c d:Int):D:=ab (S2 (λa=>[vi a]) (bQ b a c d).2)
theorem tD{w:eQ}(hw:w.ok){bO n eF:Int}(hn:(af w.f bO).length<=1000){rs:iF}(hb:rs.length<=990000000):(Ev S5 lL 94 (zbF 0 n eF) (lkH w bO rs 0) (ab ((bQ w n eF bO).2.map λn=>[vi n])) (lkH w bO (rs++(bQ w n eF bO).1) 1)):=by refine Tw (Ev.post (d2:=(zjl n w eF bO)) (h2:=(lK w bO n eF rs)) (φ:=[Tl 2 (eP (ZQ 1 w bO))=J,Tl 2 (.eY (zbo rs w n eF bO) 1 5)=J]) zg3 (yF (h':=(lK w bO n eF rs)) (d:=(zjl n w eF bO)) [.v (@yu w hw n eF bO hn (vA w bO rs)),.c (@Bu w bO rs ((bQ w n eF bO).fst) ?_)]) Z ⟨rfl,?_,trivial⟩) mW mW<;>(first|exact aD _ _|(have:=(lJ (w:=w) (c:=n) (eF:=eF) (bO:=bO) hn).1;omega))
abbrev reqV(l:Or):List (bY):=l.map λq=>q.row.map .p
abbrev zdP:List (bY):=([]:List (bY))
abbrev zhc(a:Or):List (bY):=S2 (λx=>S2 Us x) (S2 Ts a)
theorem HC(hl:l.length<=1000000):(Tq (zhc l) (aL 6)&&uO (S7 zdP+S7 (zhc l)) 88)=J:=by
 rw[Tm];constructor;·rw[TW];intro x hx;simp at hx;obtain⟨q,_,rfl⟩:=hx;rfl
 ·simp;grind [uO]
abbrev ziY(b:bv)(c:Bool):bY:=qm 8 0 [(0,ab b),(2,nq),(3,ab b),(4,eR c)]
abbrev zdZ(a:Or):AS:={t:=(ziY (a.map Ts) N),h:=[],m:=[]}
abbrev zgS:bY:=qm 8 0 [(2,gM (.eY 0 1))]
theorem HD(hl:l.length<=1000000):(CW S5 ji [] N (cR (cR (al Vq))) (zdZ l) .ret {t:=zgS,h:=[.eY (reqV l) 1 6],m:=[]}):=yX {t:=zgS,h:=[.eY (zhc l) 1 6],m:=[]} Exit.ret (zeI 2) [((by exact HC hl):(Tq (S2 (λx=>S2 Us x) (S2 Ts l)) (aL 6)&&uO (S7 ([]:List (bY))+S7 (S2 (λx=>S2 Us x) (S2 Ts l))) 88)=J)] mW (by simp_all)
theorem cl_r0:(CW S5 ji [] N (cL (al Vq)) {t:=qm 8 0 [(0,ab (l.map Ts))],h:=[],m:=[]} w8 {t:=qm 8 0 [(0,ab (l.map Ts)),(2,nq)],h:=[],m:=[]}):=yx [E6 (IW [0,2])] []
theorem cl_c:(CW S5 ji [] N (cR (cL (cR (al Vq)))) (zdZ l) w8 (zdZ l)):=yx [E6 (IW [0,2,3,4])] [.e]
def rOps:Code->BY
 |.region _ o _=>o
 |_=>#[]
def rId:Code->Nat
 |.region i _ _=>i
 |_=>0
theorem B1:al Vq=.seq (cL (al Vq)) (.seq (.seq (.region (rId (cL (cL (cR (al Vq))))) (rOps (cL (cL (cR (al Vq))))) N) (cR (cL (cR (al Vq))))) (cR (cR (al Vq)))):=Z
def noC:Κ:=λ_ _ _=>Y
theorem noC_ok:noC.Ok S5 ji:=λ_ _ _ _ h=>by simp[noC] at h
def lastO(o:oF):Oper:=o.getLastD default
abbrev clT(l:Or)(b:Bool):bY:=(ziY (l.map Ts) b)
theorem zqX{b:Bool}:NK (qm 8 0 [(0,ab (l.map Ts)),(2,nq),(3,ab (l.map Ts))]) (lastO (rOps (cL (cL (cR (al Vq))))).toList).dst (lit (.bool b))=clT l b:=Z
theorem cl_r1{X:Ctx}{r:BV}{Q:Exit->AS->Prop}(hQ:∀b:Bool,(b=J->l.map Ts=[])->Q w8 {t:=clT l b,h:=[],m:=[]}):VW S5 ji X r (.region (rId (cL (cL (cR (al Vq))))) (rOps (cL (cL (cR (al Vq))))) N) Q {t:=qm 8 0 [(0,ab (l.map Ts)),(2,nq)],h:=[],m:=[]} :=VW.nilLast (os:=(rOps (cL (cL (cR (al Vq))))).toList.dropLast) (o:=lastO (rOps (cL (cL (cR (al Vq))))).toList) (t:=99) (yt:=99) (x:=3) (t1:=qm 8 0 [(0,ab (l.map Ts)),(2,nq),(3,ab (l.map Ts))]) (h1:=[])
  noC_ok Z (e:=115) Z Z Z Z rfl (λb hb=>zqX.symm▸hQ b hb)
theorem Le{l:List E7}(hl:l.length<=1000000)(hne:l≠[]):Ev S5 ji 44 [ab (l.map Ts)] [] (.ref (.eY 0 1)) [.eY (reqV l) 1 6]:=by
 refine Ev.zqt (fn:=Vq) rfl (by kernel_rfl) (e:=.ret) (s:={t:=qm 8 0 [(2,.ref (.eY 0 1))],h:=[.eY (reqV l) 1 6],m:=[]}) ?_ (by kernel_rfl)
 rw[B1]
 refine CW.seq (cl_r0 (l:=l)) (CW.seq (s1:={t:=clT l false,h:=[],m:=[]}) (CW.seq (s1:={t:=clT l false,h:=[],m:=[]}) ?_ cl_c) (HD hl))
 intro X r _ _
 refine cl_r1 λb hb=>?_
 cases b with
 | false=>grind
 | true=>simp_all
end Go.Vi
open Go Go.Proofs Go.Shelf Go.RowKit Go.Sort
namespace Go.Vi
set_option maxHeartbeats 4000000
set_option maxRecDepth 100000
variable {P:Program}{b e g:Nat}{h:aT}{l:bV}{Γ:au}{ρ:Ren}
theorem HE{f:FuncId}{vsx:oR}{m:bV}(hb:h[b]? = some (.eY (cX l) e 1))(hlm:m.length=l.length)(hne:l≠[]){d:D}{rv:Nat->Nat->Nat->Value}(hd:∀{w:World} {av:Nat->Prop} {loc:Loc} {fI o cap:Nat},loc b=some (fI,mkP o cap)->l.length<=cap->Rel w av loc (h.set b (zjd m e)) d (rv fI o cap))(H:∀{O:Nat->Prop} {w:World} {loc:Loc} (_:JW Γ O w loc h) (fI o cap:Nat),tf O loc h fI->fI<w.heap.size->Sort.Holds (Ux .i64) w fI o l.toArray->l.length<=cap -> Calls P f (#[.slice (some ⟨fI,o,none⟩) l.length cap]++vsx.toArray) w λe w'=>e=.returned (rv fI o cap)/\∃n os,w'=WU (Un (Ux .i64) (Uz w n) fI o m.toArray) os) :Ev P Γ f (.ref (.eY b e)::vsx.map lit) h d (h.set b (zjd m e)):=by
 intro O w loc vs R ra;obtain⟨y,rfl⟩:∃y,vs=y::vsx:=by
  match vs,ra with
  | y::ys,r=>exact⟨y,by rw[mZ r.2]⟩
  | [],r=>simp[kc] at r
 have r:=ra.1;simp only[Rel,qI,hb] at r;have hv:=r.2.2 trivial;have B:=R.fI b _ hb;simp only[zm] at B;have hlen:(cX l).length=l.length:=by simp[cX]
 refine callsIn_wide.2 ?_;cases ο:loc b with
 | none =>grind
 | some p =>
  obtain⟨fI,cp⟩:=p;rw[ο] at hv B;obtain⟨o,cap,rfl,rfl,zmi⟩:=hv;simp only at B;obtain⟨o',cap',rc,c,T,fr,ys,zki,hcs,hle,hfr,hsz,zmf,pr,rest,hpr,hcl⟩:=B;obtain⟨rfl,rfl⟩:=dh rc;have hys:=mI zmf;subst hys;have hblk:fI<w.heap.size:=(V8.1 zki).1;have zkF:tf O loc h fI:=.inr ⟨b,_,mkP o cap,hb,by simp,ο⟩;have hH:Sort.Holds (Ux .i64) w fI o l.toArray:=by
   intro j hj;have hj':j<l.length:=by simpa using hj
   have hc:c[o+j]? = some (Ux .i64 l[j]):=by rw[<-Array.getElem?_toList,hcl,WV,T8 (by omega),show o+j-pr.length=j by omega,List.getElem?_append_left (by simpa using hj')];simp[hj']
   constructor;·simp[Xh,zki,hc,hj']
   ·have:=hfr (o+j) (V8.1 hc).1;obtain⟨lo,hi⟩:=fr;simp only[World.frozen?,zki];grind
  rw[hlen] at zmi ⊢;have e0:(Value.slice (some ⟨fI,o,none⟩) l.length cap::vsx).toArray=#[.slice (some ⟨fI,o,none⟩) l.length cap]++vsx.toArray:=by simp
  rw[e0];refine Xp (H R fI o cap zkF hblk hH zmi) ?_;rintro e' w' ⟨rfl,n,os,rfl⟩;have zoQ:(WU (Un (Ux .i64) (Uz w n) fI o m.toArray) os).heap[fI]? = some (.cells (UW (Ux .i64) o m.toArray c) T fr):=by rw[VT _ _ (by grind [Un,Ur,Uz])];simp[Un,Ur,Uz,Xx,zki,Sort.onCells]
  have zlM:(UW (Ux .i64) o m.toArray c).toList=pr++m.map (Ux .i64)++rest:=by
   unfold UW;rw[Array.toList_mapIdx,hcl];apply List.ext_getElem?;intro i;rw[List.getElem?_mapIdx];by_cases hp:i<pr.length;·grind
   obtain⟨q,rfl⟩:∃q,i=pr.length+q:=⟨i-pr.length,by omega⟩;rw[jP,jP];by_cases hi:q<l.length;·grind
   ·grind
  have key:=R.step (w':=WU (Un (Ux .i64) (Uz w n) fI o m.toArray) os) (l':=loc) (h':=h.set b (zjd m e)) b (zjd m e)
   (by simp_all) ⟨rfl,rfl,rfl,by simp[WU,Un,Ur,Uz]⟩ (λi hi=>b9 _ _ hi) (bk hb) (λ_ _=>rfl)
   (λz hz=>by rw[hb] at hz;cases hz;exact⟨⟨T0 _,λ_=>by grind,rfl⟩,λ_=>rfl⟩)
   (λk hk hno=>by
    have hkb:k≠fI:=λe=>hno _ (mkP o cap) hb (by simp) (by rw[ο,e])
    rw[VT _ _ (by grind [Un,Ur,Uz])]
    grind [Un,Ur,Uz])
   (λk c hk=>.inl ⟨_,c,hb,by simp,hk⟩)
   (λE=>by
    simp only[zm,ο]
    refine⟨o,cap,rfl,_,T,fr,m.map (Ux .i64),zoQ,?_,?_,?_,?_,jQ,pr,rest,hpr,zlM⟩
    ·grind [UW]
    ·grind
    ·grind [UW]
    ·simp[cX])
  grind
theorem Ag{O:Nat->Prop}{cf:Int->Int->Int}{w:World}{loc:Loc}(R:JW Γ O w loc h){fI:Nat}(hblk:tf O loc h fI)(hE:∀x y,Ev P Γ g [(zf9 x),(zf9 y)] [] (lit (.int Χ (cf x y))) [])(o size:Nat):CmpLays1 P g #[] (Ux Χ) cf fI o size w:=by
 intro m os dk hs x y;generalize hW:sortWorld (Ux Χ) w fI o m dk os=W;have hb:fI<w.heap.size:=by
  rcases hblk with ho|ho;·exact R.obd fI ho
  ·exact(R.inb fI ho).1
 have zmG:∀b off v,¬tf O loc h b->w.cell? ⟨b,off,Y⟩=G v->W.cell? ⟨b,off,Y⟩=G v/\¬tf (λ_=>False) loc [] b:=by
  intro b off v hn hc;have hne:b≠fI:=λe=>hn (e▸hblk);refine⟨?_,λho=>ho.elim id (λh=>absurd h dT)⟩;subst hW;have oA:b<w.heap.size:=by
   simp only[Xh] at hc;split at hc;·grind
   ·simp at hc
  have:(sortWorld (Ux Χ) w fI o m dk os).heap[b]?=w.heap[b]?:=by unfold sortWorld;rw[VT _ _ (by grind [Un,Ur,Uz])];simp[Un,Ur,Uz,Xx,Ne.symm hne]
  simp only[Xh,this];exact hc
 have R0:JW Γ (λ_=>False) W loc []:=by refine⟨λfI ho=>absurd ho dT,λfI ho=>ho.elim,λb b' x x' k c c' hb=>by simp at hb,λb x hb=>by simp at hb,λg cs hg=>?_⟩;exact xf.mono zmG g 0 cs (R.glo g cs hg)
 have ra:kc W (tf (λ_=>False) loc []) loc [] [(zf9 x),(zf9 y)] [.int Χ x,.int Χ y]:=by simp[kc,Rel,FL]
 refine Xp (callsIn_wide.1 (hE x y (λ_=>False) W loc _ R0 ra)) ?_;rintro e w' ⟨v,d2,h2,l',rfl,⟨rfl,rfl⟩,R',E',rd⟩;refine⟨?_,tp E'.size (λb hb=>E'.same b hb dT) E'.tape⟩;have:v=.int Χ (cf x y):=by simpa[Rel,FL] using rd
 rw[this]
abbrev cmpZ(x y:Int):Int:=if x<y then -1 else if x>y then 1 else 0
theorem ltZ(x y:Int):ltOf cmpZ x y=fE (x<y):=by unfold ltOf cmpZ;grind
theorem Dn(ok:POk P)(L:SlLaysF.n6 P ρ)(hg:fK P g=true)(hE:∀x y,Ev P Γ g [lit (.int .i64 x),lit (.int .i64 y)] [] (lit (.int .i64 (cmpZ x y))) [])
  {h:List ql}  {l:List Int} (hb:h[b]? = some (.eY (cX l) e 1)) (hl:l.length<4611686018427387904) (hne:l≠[]) :
  Ev P Γ (ρ.f 6) [.ref (.eY b e),.p (.v (.func (.func g) #[] #[]))] h (.Pp []) (h.set b (.eY (cX (l.mergeSort λx y=>fE (x<=y))) e 1)):=by
 refine HE (vsx:=[.func (.func g) #[] #[]]) hb (by simp) hne (rv:=λ_ _ _=>.tuple #[]) (λ_ _=>by simp[Rel,kc]) λR fI o cap zkF hblk hH zmi=>?_
 have eg:∀args w,(callFunc g args).run P w=.ok (.enter g args) w:=λargs w=>by
  unfold fK at hg
  split at hg
  ·rename_i fn hfn;exact zjP ok hfn hg args w
  ·simp at hg
 have h1:=Any.slices_SortFunc_total L (Ux .i64) (λ_=>rfl) cmpZ ⟨λx=>by rw[ltZ];simp,λx y z h1 h2=>by grind [ltZ],λx y z h1 h2=>by grind [ltZ]⟩ g #[] fI o cap l.toArray _ eg (Ag R zkF hE o _) hH hblk (by simpa using hl) (λx y h1 h2=>by grind [ltZ])
 have e2:(l.mergeSort λx y=>!(ltOf cmpZ) y x)=l.mergeSort λx y=>fE (x<=y):=by
  congr 1
  funext x y
  rw[ltZ]
  by_cases h:x<=y<;>simp[h]<;>omega
 refine Xp (by simpa using h1) ?_
 rintro e' w' ⟨rfl,n,os,rfl⟩
 refine⟨rfl,n,os,?_⟩
 rw[<-e2]
 rfl
theorem HF(L:Lays2.n20 P ρ)(hb:h[b]? = some (.eY (cX l) e 1))(hl:l.length<4611686018427387904)(hne:l≠[]):Ev P Γ (ρ.f 20) (zbn b e) h (.ref (.vs b e 0 (Vb l).length none)) (h.set b (zjd (Vb l++Ti (l.length-(Vb l).length) 0) e)):=by
 have hc:(Vb l).length<=l.length:=by unfold Vb Lib.compactUpTo;rw[Uw];exact Vj (YZ _ _) (by simp)
 refine HE (vsx:=[]) hb (by simp;omega) hne (rv:=λfI o cap=>.slice (some ⟨fI,o,none⟩) (Vb l).length cap) (λ{w av loc fI o cap} ο zmi=>?_) λR fI o cap zkF hblk hH zmi=>?_;·simp only[Rel,qI,bk hb];exact⟨rfl,T0 _,λ_=>⟨by simp[cX],fI,o,cap,cap,ο,.inl (by simp),by omega,by omega,λk h=>by cases h⟩⟩
 ·refine Xp (calls_of_every_depth λD=>AnyS.slices_Compact_int_in L D fI o cap l _ hH (by omega) zmi) ?_;rintro e' w' ⟨rfl,n,rfl⟩;exact⟨rfl,n,#[],(Sort.grow_empty _).symm⟩
end Go.Vi
open Go Go.Proofs
set_option maxRecDepth 100000
namespace Go.Proofs
open Go.Shelf
def Tryz.zpD:Go.Shelf.Ren:=⟨fun|6=>46|15=>109|14=>108|28=>186|29=>187|20=>178|21=>179|22=>180|23=>181|24=>182|25=>183|26=>184|27=>185|46=>261|47=>262|48=>263|49=>264|50=>265|57=>307|n=>n,fun|22=>32|24=>3|25=>117|3=>3|39=>196|0=>0|53=>263|55=>265|4=>4|46=>257|45=>256|50=>191|5=>5|9=>9|66=>334|70=>338|76=>361|77=>362|n=>n,fun|n=>n⟩
theorem Tryz.sortFI:Go.Proofs.SlLaysF.n6 S5 Tryz.zpD:={
 mixed:=by kernel_rfl
 f6:=⟨Tryz.f46.name,by decide,Tryz.func46.trans (congrArg some (by kernel_rfl))⟩
 f14:=⟨Tryz.f108.name,by decide,Tryz.func108.trans (congrArg some (by kernel_rfl))⟩
 f15:=Tryz.func109.trans (congrArg some (by kernel_rfl))
 f20:=⟨Tryz.f178.name,by decide,Tryz.func178.trans (congrArg some (by kernel_rfl))⟩
 f21:=⟨Tryz.f179.name,by decide,Tryz.func179.trans (congrArg some (by kernel_rfl))⟩
 f22:=⟨Tryz.f180.name,by decide,Tryz.func180.trans (congrArg some (by kernel_rfl))⟩
 f23:=⟨Tryz.f181.name,by decide,Tryz.func181.trans (congrArg some (by kernel_rfl))⟩
 f24:=⟨Tryz.f182.name,by decide,Tryz.func182.trans (congrArg some (by kernel_rfl))⟩
 f25:=⟨Tryz.f183.name,by decide,Tryz.func183.trans (congrArg some (by kernel_rfl))⟩
 f26:=⟨Tryz.f184.name,by decide,Tryz.func184.trans (congrArg some (by kernel_rfl))⟩
 f27:=⟨Tryz.f185.name,by decide,Tryz.func185.trans (congrArg some (by kernel_rfl))⟩
 f28:=Tryz.func186.trans (congrArg some (by kernel_rfl))
 f29:=Tryz.func187.trans (congrArg some (by kernel_rfl))
 f46:=⟨Tryz.f261.name,by decide,Tryz.func261.trans (congrArg some (by kernel_rfl))⟩
 f47:=Tryz.func262.trans (congrArg some (by kernel_rfl))
 f48:=Tryz.func263.trans (congrArg some (by kernel_rfl))
 f49:=⟨Tryz.f264.name,by decide,Tryz.func264.trans (congrArg some (by kernel_rfl))⟩
 f50:=⟨Tryz.f265.name,by decide,Tryz.func265.trans (congrArg some (by kernel_rfl))⟩
 f57:=⟨Tryz.f307.name,by decide,Tryz.func307.trans (congrArg some (by kernel_rfl))⟩
 t0:=Tryz.underlying0
 a0:=Tryz.isAgg0
 z0:=Tryz.sizeOf0
 v0:=Tryz.zeroValue0
 t3:=Tryz.underlying3
 a3:=Zf
 z3:=YO
 v3:=Tryz.zeroValue3
 t4:=Tryz.underlying4
 a4:=Tryz.isAgg4
 z4:=Tryz.sizeOf4
 v4:=Tryz.zeroValue4
 t5:=Tryz.underlying5
 a5:=Tryz.isAgg5
 z5:=Tryz.sizeOf5
 v5:=Tryz.zeroValue5
 t9:=Tryz.underlying9
 a9:=Tryz.isAgg9
 z9:=Tryz.sizeOf9
 v9:=Tryz.zeroValue9
 t22:=W8
 a22:=Tryz.isAgg32
 z22:=Tryz.sizeOf32
 v22:=Tryz.zeroValue32
 a24:=Zf
 z24:=YO
 t25:=Tryz.underlying117
 a25:=Tryz.isAgg117
 z25:=Tryz.sizeOf117
 v25:=Tryz.zeroValue117
 t39:=Tryz.underlying196
 a39:=Tryz.isAgg196
 z39:=Tryz.sizeOf196
 v39:=Tryz.zeroValue196
 t45:=Tryz.underlying256
 a45:=Tryz.isAgg256
 z45:=Tryz.sizeOf256
 v45:=Tryz.zeroValue256
 t46:=Tryz.underlying257
 a46:=Tryz.isAgg257
 z46:=Tryz.sizeOf257
 v46:=Tryz.zeroValue257
 t50:=Tryz.underlying191
 a50:=Tryz.isAgg191
 z50:=Tryz.sizeOf191
 v50:=Tryz.zeroValue191
 t53:=Tryz.underlying263
 a53:=Tryz.isAgg263
 z53:=Tryz.sizeOf263
 v53:=Tryz.zeroValue263
 t55:=Tryz.underlying265
 a55:=Tryz.isAgg265
 z55:=Tryz.sizeOf265
 v55:=Tryz.zeroValue265
 t66:=Tryz.underlying334
 a66:=Tryz.isAgg334
 z66:=Tryz.sizeOf334
 v66:=Tryz.zeroValue334
 t70:=Tryz.underlying338
 a70:=Tryz.isAgg338
 z70:=Tryz.sizeOf338
 v70:=Tryz.zeroValue338
 t76:=Tryz.underlying361
 a76:=Tryz.isAgg361
 z76:=Tryz.sizeOf361
 v76:=Tryz.zeroValue361
 t77:=Tryz.underlying362
 a77:=Tryz.isAgg362
 z77:=Tryz.sizeOf362
 v77:=Tryz.zeroValue362}
def Tryz.zrj:Go.Shelf.Ren:=⟨fun|20=>48|n=>n,fun|22=>32|3=>3|4=>4|0=>0|n=>n,fun|n=>n⟩
theorem Tryz.compI:Go.Proofs.Lays2.n20 S5 Tryz.zrj:={
 mixed:=by kernel_rfl
 f20:=Tryz.func48.trans (congrArg some (by kernel_rfl))
 t0:=Tryz.underlying0
 a0:=Tryz.isAgg0
 z0:=Tryz.sizeOf0
 v0:=Tryz.zeroValue0
 t3:=Tryz.underlying3
 a3:=Zf
 z3:=YO
 v3:=Tryz.zeroValue3
 t4:=Tryz.underlying4
 a4:=Tryz.isAgg4
 z4:=Tryz.sizeOf4
 v4:=Tryz.zeroValue4
 t22:=W8
 a22:=Tryz.isAgg32
 z22:=Tryz.sizeOf32
 v22:=Tryz.zeroValue32
 i3:=by kernel_rfl}
end Go.Proofs
namespace Go.Vi
set_option maxRecDepth 100000
set_option maxHeartbeats 4000000
open Go.Shelf
variable {b e:Nat}
theorem HG{h:List ql}{l:List Int}(hb:h[b]? = some (.eY (cX l) e 1))(hl:l.length<4611686018427387904)(hne:l≠[]):
  Ev S5 ji 46 [.ref (.eY b e),.p (.v (.func (.func 47) #[] #[]))] h (.Pp []) (h.set b (.eY (cX (l.mergeSort λx y=>fE (x<=y))) e 1)) :=
 Dn τ Tryz.sortFI (by kernel_rfl) (λx y=>dl x y []) hb hl hne
theorem Lf{h:aT}{l:bV}(hb:h[b]?=G (.eY (cX l) e 1))(hl:l.length<4611686018427387904)(hne:l≠[]):Ev S5 ji 48 (zbn b e) h (gM (.vs b e 0 (Vb l).length Y)) (h.set b (zjd (Vb l++Ti (l.length-(Vb l).length) 0) e)):=HF Tryz.compI hb hl hne
end Go.Vi
open Go Go.Proofs
namespace Go.Vi
set_option maxRecDepth 100000
set_option maxHeartbeats 4000000
variable {H:List ql}{L:bv}{a c e3 en bO md mn ms n st eF:Int}{e:Exit}{fs:List Int}{h:aT}{i k:Nat}{l:List uS}{p:jW}{q:E7}{q1 q2 q3 rs:List EU}{r:Pq}{w:eQ}{x1 x3:List (List Dp)}
abbrev lokH(rs:iF)(e:Nat):aT:=[eP (zbn 1 e),.eY (ad (sU rs)) e 5]
abbrev zfX(a:iF)(b:Nat):bY:=[ab (sU a),gM (qn b 0)]
theorem yv{rs qs:iF}(hb:rs.length+qs.length<=3000000000000):(Ev S5 ji 39 (zfX qs 0) (lokH rs 0) (uN []) (lokH (rs++qs) 1)):=Tw (yF (h':=[eP (zbn 1 1),.eY (zkd rs (ZW qs)) 1 5]) (d:=TT []) [((by(simp only[Qa,uO,Bool.true_and,Tm,decide_eq_true_eq,Uw];omega)):(Tq (S2 (λx=>S2 Us x) (sU qs)) (aL 5)&&uO (S7 (ad (sU rs))+S7 (S2 (λx=>S2 Us x) (sU qs))) 40)=J)]) mW mW
theorem Dq(h:aT):(Ev S5 ji 48 [nq] h (ab []) h):=Tw (Ev.ziv (y0 (d:=nq) [.e] h)) Fb Fb
abbrev zeC(a:aT):AS:={t:=qm 53 0 [(0,nq),(1,eO 0),(2,eO 0),(3,fq 47),(8,eO 1)],h:=a,m:=[]}
theorem sfi_i{H:aT}:(CW S5 ji H N (sub Tryz.f178 0) (zeC H) (EY 0) (zev 53 H)):=yx zbN [.e]
theorem sfi_cw{H:aT}:CW S5 ji H false (.loop (sub Tryz.f178 0)) (zeC H) (.exit 0) (zev 53 H) :=Ww 0 (λ_=>(zeC H)) (by simp) (λi hi=>absurd hi (V7 i)) sfi_i
theorem Lg{H:aT}:(Ev S5 ji 178 [nq,eO 0,eO 0,fq 47] H (uN []) H):=by have xd:=(@sfi_cw (H));exact Tw (yF (h':=H) (d:=TT []) [.s [0,1,2,3,8] xd]) Fb Fb
abbrev zc6(a:aT):AS:={t:=qm 148 0 [(0,nq),(1,eO 0),(2,eO 0),(3,eO 0),(4,fq 47),(10,eR J),(11,eR J)],h:=a,m:=[]}
theorem sfp_i{H:aT}:(CW S5 ji H N (sub Tryz.f108 0) (zc6 H) .ret (zev 148 H)):=yx zbN [.e,.v (@Lg H)]
theorem sfp_cw{H:aT}:CW S5 ji H false (.loop (sub Tryz.f108 0)) (zc6 H) .ret (zev 148 H) :=Ww 0 (λ_=>(zc6 H)) (by simp) (λi hi=>absurd hi (V7 i)) sfp_i
theorem Lh{H:aT}:(Ev S5 ji 108 [nq,eO 0,eO 0,eO 0,fq 47] H (uN []) H):=by have xd:=(@sfp_cw (H));exact Tw (yF (h':=H) (d:=TT []) [.s [0,1,2,3,4,10,11] xd]) Fb Fb
theorem RT(h:aT):(Ev S5 ji 109 [u64 (TB.wrap 0)] h (eO 0) h):=y0 [(rfl:Ps (S8 IntKind.u8 (S8 TB 0)) (ByteArray.size {data:=List.toArray (Zg (Zg [0,1,2,2,3,3,3,3,4,4,4,4,4,4,4,4,5,5,5,5,5,5,5,5,5,5,5,5,5,5,5,5,6,6,6,6,6,6,6,6,6,6,6,6,6,6,6,6,6,6,6,6,6,6,6,6,6,6,6,6,6,6,6,6] [7,7,7,7,7,7,7,7,7,7,7,7,7,7,7,7,7,7,7,7,7,7,7,7,7,7,7,7,7,7,7,7,7,7,7,7,7,7,7,7,7,7,7,7,7,7,7,7,7,7,7,7,7,7,7,7,7,7,7,7,7,7,7,7]) (Zg [8,8,8,8,8,8,8,8,8,8,8,8,8,8,8,8,8,8,8,8,8,8,8,8,8,8,8,8,8,8,8,8,8,8,8,8,8,8,8,8,8,8,8,8,8,8,8,8,8,8,8,8,8,8,8,8,8,8,8,8,8,8,8,8] [8,8,8,8,8,8,8,8,8,8,8,8,8,8,8,8,8,8,8,8,8,8,8,8,8,8,8,8,8,8,8,8,8,8,8,8,8,8,8,8,8,8,8,8,8,8,8,8,8,8,8,8,8,8,8,8,8,8,8,8,8,8,8,8]))})=J),.e,.a1 Τ,.e,.e,.e] h
theorem Dr{H:aT}:(Ev S5 ji 46 [nq,fq 47] H (uN []) H):=Tw (yF (h':=H) (d:=TT []) [.v (@RT H),.v (@Lh H)]) Fb Fb
abbrev zgD(a b:bV):bV:=(a++Ti (b.length-a.length) 0)
theorem Li{l:bV}(hl:l.length<4611686018427387904)(hne:l≠[]):Ev S5 ji 48 (zbn 0 0) [.eY (aq l) 0 1] (ab (aA (Vb l))) [xx]:=by
 have h1:=Lf (h:=[.eY (cX l) 0 1]) (b:=0) (e:=0) (l:=l) rfl hl hne;generalize Vb l=m at h1 ⊢;have h2:=Ev.post (d2:=.p (.sl (List.take m.length (List.drop 0 (aA (zgD m l)))))) (h2:=[xx]) (φ:=[cX (zgD m l)=(aA (zgD m l)).map (·.map .p)]) [E6 (Λ 0 (aA (zgD m l)))] h1 rfl ⟨vd _,trivial⟩;have e1:List.take m.length (List.drop 0 (aA (zgD m l)))=aA m:=by rw[Xj];unfold aA;try unfold zaQ;rw[Uh];exact List.take_left' qk
 rw[e1] at h2;exact h2
abbrev zdE(a:eQ)(b:D):aT:=[eP a.l,eP [nq,eO 0,nq],eP [eR N],eP [b],eP [eO 0]]
abbrev hA(w:eQ):List ql:=[.var w.l,.var [nq,eO 0,nq],.var [eR false],.var [nq],.var [eO 0]]
abbrev WP(a:jW):bY:=(zhV a (gM (.eY 8 1)))
abbrev dgC(p:jW):bY:=(WP p)
abbrev zhD(a b:bY)(c:List (bY))(d:Nat)(f g:bY):aT:=[eP a,eP [nq,eO 0,nq],eP [eR N],eP b,eP [eO 0],.eY c d 5,eP f,eP g]
abbrev dgB(w:eQ)(rs:List EU)(e:Nat)(pc:List D)(r:Pq):List ql:=[.var w.l,.var [nq,eO 0,nq],.var [eR false],.var [.ref (.eY 5 e)],.var [eO 0],.eY (ad (sU rs)) e 5,.var pc,.var r.l]
abbrev WF:Nat×D:=(zjk 1)
abbrev zat:Nat×D:=(ziy 11)
abbrev zaJ:Nat×D:=(zhA 12 3)
abbrev zaK:Nat×D:=(zhA 13 4)
abbrev zbu:Nat×D:=(15,gM (qn 6 0))
abbrev zbK:Nat×D:=(5,gM (qn 0 0))
abbrev zd0:Nat×D:=(14,.fn (.func 39) [] (zjG 3))
abbrev zd7(a:iN):Nat×D:=(20,ab (a.map Tb))
abbrev zeS:Nat×D:=(82,gM (.eY 8 1))
abbrev diS(w:eQ)(eF bO:Int)(l:List uS)(rs:List EU)(p:jW)(r:Pq)(L:List (List Dp))(q:E7)(fs:List Int)(n k i:Int):AS :=
 {t:=qm 167 0 [(3,eO eF),(4,eO bO),(5,.ref (.ptr 0 0)),(10,.ref (.ptr 1 0)),(11,.ref (.ptr 2 0)),(12,.ref (.ptr 3 0)),(13,.ref (.ptr 4 0)),(14,.fn (.func 39) [] [.ref (.ptr 3 0)]),(15,.ref (.ptr 6 0)),(20,ab (l.map Tb)),(21,eO k),(22,.ref (.ptr 9 0)),(23,.ref (.eY 10 0)),(82,.ref (.eY 8 1)),(83,eO n),(84,eO k),(90,ab (aA q.lk)),(91,eO ((aA q.lk).length:Int)),(92,eO i)],
  h:=dgB w rs 0 (dgC p) r++[.eY (ad L) 1 6,.var (q.row.map .p),.eY (aq fs) 0 1],m:=[]}
abbrev diE(w:eQ)(eF bO:Int)(l:iN)(rs:iF)(p:jW)(r:Pq)(L:bv)(q:E7)(fs:bV)(n k:Int):AS :={t:=qm 167 0 [(3,eO eF),(4,eO bO),zbK,WF,zat,zaJ,zaK,zd0,zbu,(zd7 l),(21,eO k),(23,gM (.eY 10 0)),zeS,(83,eO n),(84,eO k)],h:=dgB w rs 0 (dgC p) r++[.eY (ad L) 1 6,eP (zgP q),.eY (aq fs) 0 1],m:=[]}
abbrev zc4(a:bV):List (bY):=S2 (λx=>S2 Us x) (aA a)
theorem HH(m:List Int):S2 (λx=>S2 Us x) (aA m)=aq m:=by simp[aq]
theorem HI(f:Ref->D)(l m:bV):S2 (Tz f) (aq l++(zc4 m))=aq l++(zc4 m):=by grind [HH,bq]
theorem RU{l m:bV}(h:l.length+m.length<=100000000000):(Tq (zc4 m) (aL 1)&&uO (S7 (aq l)+S7 (zc4 m)) 8)=J:=by
 rw[Tm];constructor;·rw[TW];intro x hx;simp only[List.map_map,List.mem_map,Function.comp] at hx;obtain⟨q,_,rfl⟩:=hx;rfl
 grind [Uw,ef,uO]
abbrev za2:bY:=[gM (.eY 5 0)]
abbrev zhB(a:eQ)(b:iF)(c:jW)(d:Pq)(e:bv)(f:E7)(g:ql):aT:=[eP (ZA a),eP [nq,eO 0,nq],eP [eR N],eP za2,eP [eO 0],.eY (ad (sU b)) 0 5,eP (WP c),eP (zaM d),.eY (ad e) 1 6,eP (zaf f),g]
noncomputable abbrev tE(w:eQ)(rs:iF)(p:jW)(r:Pq)(L:bv)(q:E7)(fs:bV):aT:=(zhB w rs p r L q (.eY (aq fs) 0 1))
abbrev zek:bY:=(zjG 3)
theorem RV{k:Int}{qs:List EU}{L:List (List Dp)}{gs:List Int}
  (hr:ao (i:Int) (aA q.lk) [vi c] 1) (oA:fE ((i:Int)<((aA q.lk).length:Int))=true) (hw:S6.wrap ((i:Int)+1)=((i+1:Nat):Int))
  (heq:∀h,Ev S5 lL 45 [.agg w.l,eO c,eO eF,eO bO] h (.Pp [ab (aA gs),ab (sU qs)]) h)
  (hb:rs.length+qs.length<=3000000000000) (hb2:fs.length+gs.length<=100000000000):(CW S5 lL (hA w) false (sub TN 1) (diS w eF bO l rs p r L q fs n k i) .normal (diS w eF bO l (rs++qs) p r L q (fs++gs) n k ((i+1:Nat):Int))):=by
 refine yX {t:=qm 167 0 [(3,eO eF),(4,eO bO),(5,.ref (.ptr 0 0)),(10,.ref (.ptr 1 0)),(11,.ref (.ptr 2 0)),(12,.ref (.ptr 3 0)),(13,.ref (.ptr 4 0)),(14,D.fn (Fn.func 39) [] [.ref (.ptr 3 0)]),(15,.ref (.ptr 6 0)),(20,ab (S2 Tb l)),(21,eO k),(22,.ref (.ptr 9 0)),(23,.ref (.eY 10 0)),(82,.ref (.eY 8 1)),(83,eO n),(84,eO k),(90,ab (aA q.lk)),(91,eO (↑(S7 (aA q.lk)):Int)),(92,eO (S8 S6 ((↑i:Int)+1)))],h:=[.var [ab (S2 Tc w.c),ab w.p,ab (S2 Tj w.s),ab (S2 Ta w.f)],.var [nq,eO 0,nq],.var [eR false],.var [.ref (.eY 5 0)],.var [eO 0],.eY (ad (sU (rs++qs))) 0 5,.var [am p.nm,eO p.number,eO p.IY,eO p.CE,eO p.num,eO p.den,.ref (.eY 8 1)],.var [eO r.st,ab (S2 Tb r.a)],.eY (ad L) 1 6,.var [am q.nm,eO q.ia,eO q.CX,eR q.home,ab q.names,ab (aA q.lk)],.eY (aq fs++S2 (λx=>S2 Us x) (aA gs)) 0 1],m:=[]} Tr [.st (.mask [3,4,5,10,11,12,13,14,15,20,21,22,23,82,83,84,90,91,92]),.st (.ren 5 0),.st (.ren 10 0)] [.b oA,.r hr,.v (@heq (tE w rs p r L q fs)),.c ((fX [3,5] (Tp (@yv rs qs hb)) ⟨(by exact aj _ _),trivial⟩ ⟨(by exact aj _ _),trivial⟩):Ev S5 lL 39 [ab (sU qs),.ref (.ptr 3 0)] (tE w rs p r L q fs) (TT []) [.var (TC w),.var [nq,eO 0,nq],.var [eR false],.var [.ref (.eY 5 1)],.var [eO 0],.eY (ad (sU (rs++qs))) 1 5,.var [am p.nm,eO p.number,eO p.IY,eO p.CE,eO p.num,eO p.den,.ref (.eY 8 1)],.var [eO r.st,ab (S2 Tb r.a)],.eY (ad L) 1 6,.var [am q.nm,eO q.ia,eO q.CX,eR q.home,ab q.names,ab (aA q.lk)],.eY (aq fs) 0 1]),(?_:(Tq (S2 (λx=>S2 Us x) (aA gs)) (aL 1)&&uO (S7 (aq fs)+S7 (S2 (λx=>S2 Us x) (aA gs))) 8)=true),(?_:S2 (Tz (ar 5 1 0)) (ad (sU (rs++qs)))=ad (sU (rs++qs))),(?_:S2 (Tz (ar 5 1 0)) (ad L)=ad L),(?_:S2 (Tz (ar 5 1 0)) (aq fs++S2 (λx=>S2 Us x) (aA gs))=aq fs++S2 (λx=>S2 Us x) (aA gs)),(?_:S2 (Tz (ar 10 1 0)) (aq fs++S2 (λx=>S2 Us x) (aA gs))=aq fs++S2 (λx=>S2 Us x) (aA gs)),(?_:S2 (Tz (ar 10 1 0)) (ad (sU (rs++qs)))=ad (sU (rs++qs))),(?_:S2 (Tz (ar 10 1 0)) (ad L)=ad L)] (by grind) (by(simp only[hw,diS,dgB,ad,aq,aA,Uh,List.map_map,Function.comp_def];rfl))<;>(first|exact aB _ _|exact HI _ _ _|exact RU hb2)
abbrev zgR:Do:=[E6 (IW [3,4,5,10,11,12,13,14,15,20,21,23,82,83,84])]
theorem RX{k:Int}{l:iN}{rs:iF}{fs:bV}(oA:fE ((i:Int)<((aA q.lk).length:Int))=N):(CW S5 lL (hA w) N (sub TN 1) (diS w eF bO l rs p r L q fs n k i) (EY 2) (diE w eF bO l rs p r L q fs n k)):=yx zgR [.b oA]
def frF(w:eQ)(eF bO:Int)(s:iF×bV)(c:Int):iF×bV:=(s.1++(bQ w c eF bO).1,s.2++(bQ w c eF bO).2)
theorem rf{w:eQ}{eF bO:Int}(hn:(af w.f bO).length<=1000):∀(cs:bV) (s:iF×bV),(cs.foldl (frF w eF bO) s).1.length<=s.1.length+cs.length*1001001/\(cs.foldl (frF w eF bO) s).2.length<=s.2.length+cs.length*1001
 | [],s=>by simp
 | c::cs,s=>by obtain⟨h1,h2⟩:=rf (eF:=eF) hn cs (frF w eF bO s c);obtain⟨g1,g2⟩:=lJ (w:=w) (c:=c) (eF:=eF) (bO:=bO) hn;grind [frF,Ue]
theorem RY(hw:w.ok){k:Int}(hn:(af w.f bO).length<=1000){l:iN}{rs:iF}(hq:q.lk.length<=1048576) (hb:rs.length+q.lk.length*1001001<=3000000000000) :CW S5 lL (hA w) false (.loop (sub TN 1)) (diS w eF bO l rs p r L q [] n k 0) (.exit 2) (diE w eF bO l (q.lk.foldl (frF w eF bO) (rs,[])).1 p r L q (q.lk.foldl (frF w eF bO) (rs,[])).2 n k):=by
 have key (i:Nat) (hi:i<=q.lk.length):((q.lk.take i).foldl (frF w eF bO) (rs,[])).1.length<=rs.length+i*1001001/\((q.lk.take i).foldl (frF w eF bO) (rs,[])).2.length<=i*1001:=by
  have h1:=rf (eF:=eF) hn (q.lk.take i) (rs,[]);have hlen:(q.lk.take i).length=i:=by rw[VX];omega
  rw[hlen] at h1;simpa using h1
 have h0:=Ww (P:=S5) (Γ:=lL) (h0:=hA w) (rd:=false) (c:=sub TN 1) q.lk.length (λi=>diS w eF bO l ((q.lk.take i).foldl (frF w eF bO) (rs,[])).1 p r L q ((q.lk.take i).foldl (frF w eF bO) (rs,[])).2 n k (i:Int)) (e:=.exit 2) (by simp) (λi hi=>?_) (RX (by simp));·grind
 ·have hc:q.lk[i]? = some q.lk[i]:=TH hi;have e1:(q.lk.take (i+1)).foldl (frF w eF bO) (rs,[])=frF w eF bO ((q.lk.take i).foldl (frF w eF bO) (rs,[])) q.lk[i]:=by rw[Wc hi,List.foldl_append,TG,List.foldl_nil]
  obtain⟨k1,k2⟩:=key i (by omega);obtain⟨g1,g2⟩:=lJ (w:=w) (c:=q.lk[i]) (eF:=eF) (bO:=bO) hn;have heq:=yu hw (c:=q.lk[i]) (eF:=eF) (bO:=bO) hn;show CW S5 lL (hA w) false (sub TN 1) (diS w eF bO l ((q.lk.take i).foldl (frF w eF bO) (rs,[])).1 p r L q ((q.lk.take i).foldl (frF w eF bO) (rs,[])).2 n k (i:Int)) .normal (diS w eF bO l ((q.lk.take (i+1)).foldl (frF w eF bO) (rs,[])).1 p r L q ((q.lk.take (i+1)).foldl (frF w eF bO) (rs,[])).2 n k ((i+1:Nat):Int));rw[e1];have k3:i*1001001+1001001<=q.lk.length*1001001:=by omega
  generalize (q.lk.take i).foldl (frF w eF bO) (rs,[])=s at *;exact RV (rowAt (row:=λn:Int=>[vi n]) hc rfl) (F1 (λn:Int=>[vi n]) hi) (sV hi (show q.lk.length<=_ by omega)) heq (by omega) (by omega)
theorem tyQ:(fS S5 99,S5.underlying 99,γ S5 115,HU S5 115,γ S5 32)=(G 115,G (.slice 115),G 6,G J,G 1):=Z
abbrev zdH(a b:Nat):D:=(gM (.vp 8 1 a b))
theorem rq_ld(hb:h[8]?=G (.eY (ad L) 1 6))(hk:L[k]?=G q.row):aQ S5 h 115 (zdH k 0)=G (ag q.row):=by
 have h3:=tyQ;simp only[Tk] at h3;have h5:(ad L)[k]?=G (zgP q):=by rw[Vo,hk];rfl
 simp only[aQ,hb,if_true,h5,Xj,cC,h3.2.2.1,h3.2.2.2.1];rfl
abbrev Lj(q:E7)(R:bV):E7:=⟨q.nm,q.ia,q.CX,q.home,q.names,R⟩
theorem rq_st{R:bV}(hb:h[8]?=G (.eY (ad L) 1 6))(hk:L[k]?=G q.row):aY S5 h 32 (zdH k 5) (ab (aA R))=G (h.set 8 (.eY (ad (L.set k (Lj q R).row)) 1 6)):=by
 have h3:=tyQ;simp only[Tk] at h3;have h5:(ad L)[k]?=G (zgP q):=by rw[Vo,hk];rfl
 have h6:(ad L).set k (bZ (zgP q) 5 [ab (aA R)])=ad (L.set k (Lj q R).row):=by unfold ad;rw[List.map_set];rfl
 simp only[aY,D.cells,h3.2.2.2.2,hb,if_true,h5];show G (h.set 8 (ql.eY ((ad L).set k (bZ (zgP q) 5 [ab (aA R)])) 1 6))=_;rw[h6]
abbrev ziW(a b:Int)(c d:Nat×D)(e:Int)(f:D):bY:=qm 167 0 [(3,eO a),(4,eO b),zbK,WF,zat,zaJ,zaK,c,zbu,d,zeS,(83,eO e),(84,f)]
abbrev doS(w:eQ)(eF bO:Int)(l:iN)(rs:iF)(p:jW)(r:Pq)(L:bv)(n k:Int):AS :={t:=(ziW eF bO zd0 (zd7 l) n (eO k)),h:=dgB w rs 0 (dgC p) r++[.eY (ad L) 1 6],m:=[]}
noncomputable abbrev tG(w:eQ)(rs2:iF)(p:jW)(r:Pq)(L:bv)(q:E7)(fs:bV):aT:=(zhB w rs2 p r L q (.eY (aq (UF fs λx y=>fE (x<=y))) 0 1))
noncomputable abbrev Ds(w:eQ)(rs2:iF)(p:jW)(r:Pq)(L:bv)(q:E7)(fs:bV):aT:=(zhB w rs2 p r L q (.eY (aq fs) 0 1))
noncomputable abbrev tH(w:eQ)(rs2:iF)(p:jW)(r:Pq)(L:bv)(q:E7):aT:=(zhB w rs2 p r L q (xx))
abbrev zhv(a b:bY)(c:List (bY))(d e:bY)(f:ql):aT:=[eP a,eP b,eP [eR N],eP za2,eP [eO 0],.eY c 0 5,eP d,eP e,f]
theorem RZ{rs2:List EU}{L:List (List Dp)}{R:List Int}
  (hk:k<L.length) (hq:L[k]? = some q.row) (oA:fE ((k:Int)<n)=true) (hw:S6.wrap ((k:Int)+1)=((k+1:Nat):Int))
  (Pt:CW S5 lL (hA w) false (.loop (sub TN 1)) (diS w eF bO l rs p r L q [] n k 0) (.exit 2) (diE w eF bO l rs2 p r L q fs n k))
  (hso:Ev S5 ji 46 [.ref (.eY 0 0),fq 47] [.eY (aq fs) 0 1] (.Pp []) [.eY (aq (fs.mergeSort λx y=>fE (x<=y))) 0 1])
  (hco:Ev S5 ji 48 [.ref (.eY 0 0)] [.eY (aq (fs.mergeSort λx y=>fE (x<=y))) 0 1] (ab (aA R)) [.EZ]):(CW S5 lL (hA w) false (sub TN 0) (doS w eF bO l rs p r L n k) .normal (doS w eF bO l rs2 p r (L.set k (Lj q R).row) n ((k+1:Nat):Int))):=by
 have xd:=(@Pt)
 let v0:List D:=[eO r.st,ab (S2 Tb r.a)]
 let v1:=List.set L k (Ts (Lj q R))
 refine yX {t:=qm 167 0 [(3,eO eF),(4,eO bO),(5,.ref (.ptr 0 0)),(10,.ref (.ptr 1 0)),(11,.ref (.ptr 2 0)),(12,.ref (.ptr 3 0)),(13,.ref (.ptr 4 0)),(14,D.fn (Fn.func 39) [] [.ref (.ptr 3 0)]),(15,.ref (.ptr 6 0)),(20,ab (S2 Tb l)),(82,.ref (.eY 8 1)),(83,eO n),(84,eO (S8 S6 ((↑k:Int)+1)))],h:=[.var [ab (S2 Tc w.c),ab w.p,ab (S2 Tj w.s),ab (S2 Ta w.f)],.var [nq,eO 0,nq],.var [eR false],.var [.ref (.eY 5 0)],.var [eO 0],.eY (ad (sU rs2)) 0 5,.var [am p.nm,eO p.number,eO p.IY,eO p.CE,eO p.num,eO p.den,.ref (.eY 8 1)],.var v0,.eY (ad v1) 1 6],m:=[]} Tr [.st (.mask [3,4,5,10,11,12,13,14,15,20,82,83,84]),.st (.P1 9)] [.b oA,((by subst v0 v1;(simp[Ps];omega)):@Eq (Option (Bool×D)) (some (Ps (↑k:Int) (S7 (ad L)),.ref (.vp 8 1 (S9 (↑k:Int)) 0))) (some (true,D.ref (.vp 8 1 k 0)))),(?_:@Eq (Option D) (aQ S5 [.var (TC w),.var [nq,eO 0,nq],.var [eR false],.var [.ref (.eY 5 0)],.var [eO 0],.eY (ad (sU rs)) 0 5,.var [am p.nm,eO p.number,eO p.IY,eO p.CE,eO p.num,eO p.den,.ref (.eY 8 1)],.var v0,.eY (ad L) 1 6] 115 (.ref (.vp 8 1 k 0))) (some (D.agg [am q.nm,eO q.ia,eO q.CX,eR q.home,ab q.names,ab (aA q.lk)]))),.a1 (.ov 87 (.ref (.vp 8 1 k 0))),.a1 (.ov 88 (ag (Ts q))),.n 2,.o (.zoL 23 1),.s [3,4,5,10,11,12,13,14,15,20,21,22,23,82,83,84,90,91,92] xd,.c ((fX [10] (Tp (@hso)) ⟨(by subst v0 v1;exact bq _ _),trivial⟩ ⟨(by subst v0 v1;exact bq _ _),trivial⟩):Ev S5 lL 46 [.ref (.eY 10 0),fq 47] (Ds w rs2 p r L q fs) (TT []) (tG w rs2 p r L q fs)),.c ((fX [10] (Tp (@hco)) ⟨(by subst v0 v1;exact bq _ _),trivial⟩ trivial):Ev S5 lL 48 [.ref (.eY 10 0)] (tG w rs2 p r L q fs) (ab (aA R)) (tH w rs2 p r L q)),((by subst v0 v1;(simp[Ps];omega)):@Eq (Option (Bool×D)) (some (Ps (↑k:Int) (S7 (ad L)),.ref (.vp 8 1 (S9 (↑k:Int)) 0))) (some (true,D.ref (.vp 8 1 k 0)))),po (some (.ref (.vp 8 1 k 5))),(?_:@Eq (Option (List ql)) (aY S5 (tH w rs2 p r L q) 32 (.ref (.vp 8 1 k 5)) (ab (aA R))) (some [.var (TC w),.var [nq,eO 0,nq],.var [eR false],.var [.ref (.eY 5 0)],.var [eO 0],.eY (ad (sU rs2)) 0 5,.var [am p.nm,eO p.number,eO p.IY,eO p.CE,eO p.num,eO p.den,.ref (.eY 8 1)],.var v0,.eY (ad v1) 1 6,.var [am q.nm,eO q.ia,eO q.CX,eR q.home,ab q.names,ab (aA q.lk)],.EZ])),pe (.ref (.ptr 6 6)),pe (.ref (.ptr 6 6)),po (some (.ref (.eY 8 1))),po (some (.ref (.eY 8 1))),(?_:Ps (↑k:Int) (S7 (ad L))=true),(?_:(.ref (.vp 8 1 (S9 (↑k:Int)) 0):D)=.ref (.vp 8 1 k 0)),pe (.ref (.vp 8 1 k 5)),bi 9 (.var (TC w)),bi 9 (.var [nq,eO 0,nq]),bi 9 (.var [eR false]),bi 9 (.var [.ref (.eY 5 0)]),bi 9 (.var [eO 0]),(?_:Tl 9 (.eY (ad (sU rs2)) 0 5)=true),bi 9 (.var [am p.nm,eO p.number,eO p.IY,eO p.CE,eO p.num,eO p.den,.ref (.eY 8 1)]),bi 9 (.var v0),(?_:Tl 9 (.eY (ad v1) 1 6)=true),.a1 (.ov 118 (.ref (.vp 8 1 k 0))),.a1 (.ov 119 (.ref (.vp 8 1 k 5))),.a1 (.oh 10119 D.any (dgB w rs2 0 (dgC p) r++[.eY (ad v1) 1 6,.var (S2 Us (Ts q)),.EZ]))] (by subst v0 v1;grind) (by subst v0 v1;(simp only[hw]<;>rfl))<;>subst v0 v1<;>(first|rfl|exact rq_ld rfl hq|exact rq_st rfl hq|exact aD _ _|(simp[Ps];omega))
abbrev dzS(w:eQ)(eF bO:Int)(l:iN)(rs:iF)(p:jW)(r:Pq)(L:bv)(q:E7)(n k:Int):AS :={t:=qm 167 0 [(3,eO eF),(4,eO bO),zbK,WF,zat,zaJ,zaK,zd0,zbu,(zd7 l),(21,eO k),(23,nq),zeS,(83,eO n),(84,eO k),(90,ab (aA q.lk)),(91,(zic (aA q.lk))),(92,eO 0)],h:=dgB w rs 0 (dgC p) r++[.eY (ad L) 1 6,eP (zgP q)],m:=[]}
abbrev dzE(w:eQ)(eF bO:Int)(l:iN)(rs:iF)(p:jW)(r:Pq)(L:bv)(q:E7)(n k:Int):AS :={t:=qm 167 0 [(3,eO eF),(4,eO bO),zbK,WF,zat,zaJ,zaK,zd0,zbu,(zd7 l),(21,eO k),(23,nq),zeS,(83,eO n),(84,eO k)],h:=dgB w rs 0 (dgC p) r++[.eY (ad L) 1 6,eP (zgP q)],m:=[]}
theorem R6{k:Int}{l:iN}{rs:iF}(oA:fE ((0:Int)<((aA q.lk).length:Int))=N):(CW S5 lL (hA w) N (sub TN 1) (dzS w eF bO l rs p r L q n k) (EY 2) (dzE w eF bO l rs p r L q n k)):=yx zgR [.b oA]
noncomputable abbrev j4(w:eQ)(rs:iF)(p:jW)(r:Pq)(L:bv)(q:E7):aT:=[eP (ZA w),eP [nq,eO 0,nq],eP [eR N],eP za2,eP [eO 0],.eY (ad (sU rs)) 0 5,eP (WP p),eP (zaM r),.eY (ad L) 1 6,eP (zaf q)]
theorem Lk{L:List (List Dp)}
  (hk:k<L.length) (hq:L[k]? = some q.row) (oA:fE ((k:Int)<n)=true) (hw:S6.wrap ((k:Int)+1)=((k+1:Nat):Int))
  (Pt:CW S5 lL (hA w) false (.loop (sub TN 1)) (dzS w eF bO l rs p r L q n k) (.exit 2) (dzE w eF bO l rs p r L q n k)):(CW S5 lL (hA w) false (sub TN 0) (doS w eF bO l rs p r L n k) .normal (doS w eF bO l rs p r (L.set k (Lj q []).row) n ((k+1:Nat):Int))):=by
 have xd:=(@Pt)
 let v0:List D:=[eO r.st,ab (S2 Tb r.a)]
 let v1:=List.set L k (Ts (Lj q []))
 refine yX {t:=qm 167 0 [(3,eO eF),(4,eO bO),(5,.ref (.ptr 0 0)),(10,.ref (.ptr 1 0)),(11,.ref (.ptr 2 0)),(12,.ref (.ptr 3 0)),(13,.ref (.ptr 4 0)),(14,D.fn (Fn.func 39) [] [.ref (.ptr 3 0)]),(15,.ref (.ptr 6 0)),(20,ab (S2 Tb l)),(82,.ref (.eY 8 1)),(83,eO n),(84,eO (S8 S6 ((↑k:Int)+1)))],h:=[.var [ab (S2 Tc w.c),ab w.p,ab (S2 Tj w.s),ab (S2 Ta w.f)],.var [nq,eO 0,nq],.var [eR false],.var [.ref (.eY 5 0)],.var [eO 0],.eY (ad (sU rs)) 0 5,.var [am p.nm,eO p.number,eO p.IY,eO p.CE,eO p.num,eO p.den,.ref (.eY 8 1)],.var v0,.eY (ad v1) 1 6],m:=[]} Tr [.st (.mask [3,4,5,10,11,12,13,14,15,20,82,83,84]),.st (.P1 9)] [.b oA,((by subst v0 v1;(simp[Ps];omega)):@Eq (Option (Bool×D)) (some (Ps (↑k:Int) (S7 (ad L)),.ref (.vp 8 1 (S9 (↑k:Int)) 0))) (some (true,D.ref (.vp 8 1 k 0)))),(?_:@Eq (Option D) (aQ S5 [.var (TC w),.var [nq,eO 0,nq],.var [eR false],.var [.ref (.eY 5 0)],.var [eO 0],.eY (ad (sU rs)) 0 5,.var [am p.nm,eO p.number,eO p.IY,eO p.CE,eO p.num,eO p.den,.ref (.eY 8 1)],.var v0,.eY (ad L) 1 6] 115 (.ref (.vp 8 1 k 0))) (some (D.agg [am q.nm,eO q.ia,eO q.CX,eR q.home,ab q.names,ab (aA q.lk)]))),.a1 (.ov 87 (.ref (.vp 8 1 k 0))),.a1 (.ov 88 (ag (Ts q))),.s [3,4,5,10,11,12,13,14,15,20,21,23,82,83,84,90,91,92] xd,.v (Tp (Γ':=lL) (@Dr (j4 w rs p r L q))),.v (Tp (Γ':=lL) (@Dq (j4 w rs p r L q))),((by subst v0 v1;(simp[Ps];omega)):@Eq (Option (Bool×D)) (some (Ps (↑k:Int) (S7 (ad L)),.ref (.vp 8 1 (S9 (↑k:Int)) 0))) (some (true,D.ref (.vp 8 1 k 0)))),po (some (.ref (.vp 8 1 k 5))),(?_:@Eq (Option (List ql)) (aY S5 (j4 w rs p r L q) 32 (.ref (.vp 8 1 k 5)) (ab [])) (some [.var (TC w),.var [nq,eO 0,nq],.var [eR false],.var [.ref (.eY 5 0)],.var [eO 0],.eY (ad (sU rs)) 0 5,.var [am p.nm,eO p.number,eO p.IY,eO p.CE,eO p.num,eO p.den,.ref (.eY 8 1)],.var v0,.eY (ad v1) 1 6,.var [am q.nm,eO q.ia,eO q.CX,eR q.home,ab q.names,ab (aA q.lk)]])),pe (.ref (.ptr 6 6)),pe (.ref (.ptr 6 6)),po (some (.ref (.eY 8 1))),po (some (.ref (.eY 8 1))),(?_:Ps (↑k:Int) (S7 (ad L))=true),(?_:(.ref (.vp 8 1 (S9 (↑k:Int)) 0):D)=.ref (.vp 8 1 k 0)),pe (.ref (.vp 8 1 k 5)),bi 9 (.var (TC w)),bi 9 (.var [nq,eO 0,nq]),bi 9 (.var [eR false]),bi 9 (.var [.ref (.eY 5 0)]),bi 9 (.var [eO 0]),(?_:Tl 9 (.eY (ad (sU rs)) 0 5)=true),bi 9 (.var [am p.nm,eO p.number,eO p.IY,eO p.CE,eO p.num,eO p.den,.ref (.eY 8 1)]),bi 9 (.var v0),(?_:Tl 9 (.eY (ad v1) 1 6)=true),.a1 (.ov 118 (.ref (.vp 8 1 k 0))),.a1 (.ov 119 (.ref (.vp 8 1 k 5))),.a1 (.oh 10119 D.any (dgB w rs 0 (dgC p) r++[.eY (ad v1) 1 6,.var (S2 Us (Ts q))]))] (by subst v0 v1;grind) (by subst v0 v1;(simp only[hw]<;>rfl))<;>subst v0 v1<;>(first|rfl|exact rq_ld rfl hq|exact rq_st (R:=[]) rfl hq|exact aD _ _|(simp[Ps];omega))
abbrev ziJ(a:iN):bY:=qm 167 0 [WF,zat,zaJ,zaK,zbu,(zd7 a)]
theorem R7{l:iN}{rs:iF}(oA:fE ((k:Int)<n)=N):(CW S5 lL (hA w) N (sub TN 0) (doS w eF bO l rs p r L n k) (EY 0) {t:=(ziJ l),h:=dgB w rs 0 (dgC p) r++[.eY (ad L) 1 6],m:=[]}):=yx [E6 (IW [10,11,12,13,15,20])] [.b oA]
def R8(w:eQ)(eF bO:Int)(q:E7):bV:=match q.lk with
 | []=>[]
 |_=>Vb (((q.lk.foldl (frF w eF bO) ([],[])).2).mergeSort λx y=>fE (x<=y))
def jE(w:eQ)(eF bO:Int)(q:E7):iF:=(q.lk.foldl (frF w eF bO) ([],[])).1
theorem iU:∀(cs:bV) (s:iF×bV),cs.foldl (frF w eF bO) s=(s.1++(cs.foldl (frF w eF bO) ([],[])).1,s.2++(cs.foldl (frF w eF bO) ([],[])).2)
 | [],s=>qk
 |c::cs,s=>by rw[TG,iU cs,TG,iU cs (frF w eF bO ([],[]) c)];simp[frF]
theorem eqN_ge(s:RL):s.2.length<=(eqN w eF bO a s n).2.length:=by grind [eqN]
theorem yw:∀(ms:bV) (s:RL),s.2.length<=(ms.foldl (eqN w eF bO a) s).2.length
 | [],_=>T0 _
 |n::ms,s=>Vj (eqN_ge s) (yw ms _)
theorem B2{ns:bV}:∀(f i:Nat) (s:RL),s.2.length<=(zaN w eF bO ns f i s).2.length
 |0,_,_=>T0 _
 |f+1,i,s=>by
  unfold zaN;split;·exact Vj (yw ns s) (B2 f (i+1) _)
  grind
theorem Ll:1<=(bQ w c eF bO).2.length:=by
 unfold bQ;split;·simp
 ·simp[DE];exact B2 _ _ ([rdN],[c])
theorem B3(hn:(af w.f bO).length<=1000)(q:E7):(jE w eF bO q).length<=q.lk.length*1001001:=by have:=(rf (eF:=eF) hn q.lk ([],[])).1;grind [jE]
def nM(w:eQ)(eF bO:Int)(q:E7):E7:=Lj q (R8 w eF bO q)
abbrev doE(w:eQ)(l:iN)(rs:iF)(p:jW)(r:Pq)(L:bv):AS :={t:=(ziJ l),h:=dgB w rs 0 (dgC p) r++[.eY (ad L) 1 6],m:=[]}
theorem R9(hw:w.ok)(hn:(af w.f bO).length<=1000){l:iN}{rs:iF}(hf:q.lk.length<=1048576)(hb:rs.length+q.lk.length*1001001<=3000000000000)(hq:L[k]?=G q.row)(oA:fE ((k:Int)<n)=J)(hw2:S6.wrap ((k:Int)+1)=((k+1:Nat):Int)) :CW S5 lL (hA w) N (sub TN 0) (doS w eF bO l rs p r L n k) w8 (doS w eF bO l (rs++jE w eF bO q) p r (L.set k (nM w eF bO q).row) n ((k+1:Nat):Int)):=by
 have hk:=(Td.1 hq).1;cases hc:q.lk with
 |nil=>
  have e1:jE w eF bO q=[]:=by unfold jE;rw[hc];rfl
  have e2:nM w eF bO q=Lj q []:=by unfold nM R8;rw[hc]
  have hz:fE ((0:Int)<((aA q.lk).length:Int))=N:=by rw[hc];rfl
  rw[e1,e2,List.append_nil];refine Lk hk hq oA hw2 ?_;exact Ww (P:=S5) (Γ:=lL) (h0:=hA w) (rd:=N) (c:=sub TN 1) 0 (λ_=>dzS w eF bO l rs p r L q n k) qk (λi hi=>absurd hi (V7 i)) (R6 hz)
 |cons c cs=>
  have Pt:=RY hw (eF:=eF) (n:=n) (k:=(k:Int)) hn (l:=l) (rs:=rs) (p:=p) (r:=r) (L:=L) hf hb;have e0:=iU (w:=w) (eF:=eF) (bO:=bO) q.lk (rs,[]);rw[e0] at Pt;have e1:(q.lk.foldl (frF w eF bO) ([],[])).1=jE w eF bO q:=rfl;rw[e1] at Pt;simp at Pt;have hlen:=(rf (eF:=eF) hn q.lk ([],[])).2;have zlH:1<=(q.lk.foldl (frF w eF bO) ([],[])).2.length:=by rw[hc,TG,iU];simp only[List.length_append,frF,List.nil_append];have:=Ll (w:=w) (c:=c) (eF:=eF) (bO:=bO);omega
  have e2:nM w eF bO q=Lj q (Vb (zef ((q.lk.foldl (frF w eF bO) ([],[])).2))):=by unfold nM R8;rw[hc]
  rw[e2];generalize (q.lk.foldl (frF w eF bO) ([],[])).2=fs at Pt hlen zlH ⊢;have hl2:fs.length<4611686018427387904:=by simp only[VF] at hlen;omega
  have hso:=HG (h:=[.eY (cX fs) 0 1]) (b:=0) (e:=0) (l:=fs) rfl hl2 (λh=>mW);have hlm:(zef fs).length=fs.length:=XN _;exact RZ hk hq oA hw2 Pt hso (Li (l:=(zef fs)) lj (λh=>mW))
theorem Sa(hw:w.ok)(hn:(af w.f bO).length<=1000)
  (hs:ah p.reqs) (hf:∀q∈p.reqs,q.lk.length<=1048576) (hb:rs.length+(p.reqs.map λq=>q.lk.length).sum*1001001<=3000000000000) :
  CW S5 lL (hA w) false (.loop (sub TN 0)) (doS w eF bO l rs p r (p.reqs.map Ts) (p.reqs.length:Int) 0) (.exit 0) (doE w l (rs++(p.reqs.map (jE w eF bO)).flatten) p r ((p.reqs.map (nM w eF bO)).map Ts)):=by
 have hQ:∀(l:List E7),((l.map (jE w eF bO)).flatten).length<=(l.map λq=>q.lk.length).sum*1001001:=by
  intro l
  induction l with
  | nil=>simp
  | cons q l ih =>
   have:=B3 (eF:=eF) hn q
   grind
 have hT (k:Nat) (hk:k<p.reqs.length):((p.reqs.take k).map λq=>q.lk.length).sum+(p.reqs[k]).lk.length<=(p.reqs.map λq=>q.lk.length).sum:=by
  conv=>rhs;rw[<-List.take_append_drop k p.reqs,Uh,List.sum_append,Yw hk,U5,List.sum_cons]
  omega
 have h0:=Ww (P:=S5) (Γ:=lL) (h0:=hA w) (rd:=false) (c:=sub TN 0) p.reqs.length (λk=>doS w eF bO l (rs++((p.reqs.take k).map (jE w eF bO)).flatten) p r (((p.reqs.take k).map (nM w eF bO)++p.reqs.drop k).map Ts) (p.reqs.length:Int) (k:Int)) (e:=.exit 0) (by simp) (λk hk=>?_) (R7 (by simp))
 ·grind
 ·have hq:p.reqs[k]? = some p.reqs[k]:=TH hk
  have hlk:((p.reqs.take k).map (nM w eF bO)).length=k:=by rw[Uw,VX];omega
  have e1:((p.reqs.take (k+1)).map (jE w eF bO)).flatten=((p.reqs.take k).map (jE w eF bO)).flatten++jE w eF bO p.reqs[k]:=by
   rw[Wc hk,Uh,List.flatten_append];simp
  have e3:((p.reqs.take k).map (nM w eF bO)++p.reqs.drop k).map Ts=((p.reqs.take k).map (nM w eF bO)).map Ts++(p.reqs[k]).row::(p.reqs.drop (k+1)).map Ts:=by
   rw[Yw hk,Uh,U5]
  have hLk:(((p.reqs.take k).map (nM w eF bO)++p.reqs.drop k).map Ts)[k]? = some (p.reqs[k]).row:=by
   rw[e3,T8 (by grind),Uw,hlk,Nat.sub_self];rfl
  have e2:(((p.reqs.take k).map (nM w eF bO)++p.reqs.drop k).map Ts).set k (nM w eF bO p.reqs[k]).row=((p.reqs.take (k+1)).map (nM w eF bO)++p.reqs.drop (k+1)).map Ts:=by
   rw[e3,List.set_append_right _ _ (by grind),Uw,hlk,Nat.sub_self,List.set_cons_zero,Wc hk]
   simp only[Uh,WV,U5,List.map_nil,List.cons_append,List.nil_append]
  have hb1:=hQ (p.reqs.take k)
  have hb2:=hT k hk
  have hb3:=Nat.mul_le_mul_right 1001001 hb2
  rw[Nat.add_mul] at hb3
  have Υ:=R9 hw (eF:=eF) (n:=(p.reqs.length:Int)) hn (l:=l) (rs:=rs++((p.reqs.take k).map (jE w eF bO)).flatten) (p:=p) (r:=r) (hf _ (List.mem_of_getElem? hq)) (by grind) hLk (by simp;omega) (sV hk hs)
  grind
theorem cl_ct:(CW S5 ji [] N (cR (cL (cR (al Vq)))) {t:=(ziY [] J),h:=[],m:=[]} .ret {t:=qm 8 0 [(2,nq)],h:=[],m:=[]}):=yx (zeI 2) [.e]
theorem HJ{qs:iF}(hb:qs.length<=3000000000000):Ev S5 ji 39 (zfX qs 0) [eP (zbn 1 0),.eY [] 0 5] (uN []) [eP (zbn 1 1),.eY (ad (sU qs)) 1 5]:=yv (rs:=[]) (by simpa using hb)
abbrev dgO:bY:=qm 167 0 [WF,zat,zaJ,zaK]
abbrev clo:D:=.fn (.func 39) [] zek
abbrev sgA(w:eQ)(st n eF bO:Int):AS:={t:=qm 167 0 [(1,eO st),(2,eO n),(3,eO eF),(4,eO bO),zbK,WF,zat,zaJ,zaK],h:=(zdE w nq),m:=[]}
abbrev sgB(w:eQ)(eF bO:Int)(q1 q2:iF)(p:jW)(r:Pq)(e1:Int):AS:={t:=qm 167 0 [(3,eO eF),(4,eO bO),zbK,WF,zat,zaJ,zaK,(14,clo),zbu,(16,ab (sU q2)),(zhA 18 7),(19,eO e1)],h:=dgB w q1 0 p.l r,m:=[]}
abbrev zhM(a b:bY)(c:List (bY))(d:Nat)(e:jW):aT:=[eP a,eP [nq,eO 0,nq],eP [eR N],eP b,eP [eO 0],.eY c d 5,eP (ZI e)]
noncomputable abbrev Sb(w:eQ)(p:jW)(q1:iF):aT:=(zhM (ZA w) za2 (ad (sU q1)) 0 p)
abbrev ziV(a:eQ):aT:=[eP (ZA a),eP [nq,eO 0,nq],eP [eR N],eP za2,eP [eO 0],.eY [] 0 5]
noncomputable abbrev Sc(w:eQ):aT:=(ziV w)
abbrev zbH(a:aT):AS:={t:=dgO,h:=a,m:=[]}
abbrev zel:bY:=[gM (.eY 5 1)]
theorem dg_A{e1:Int}(hb:q1.length<=1000000)
  (hp:∀h,Ev S5 lL 40 [.agg w.l,eO n,eO eF,eO bO] h (.Pp [.agg p.l,ab (sU q1),eR true]) h)
  (hr:∀h,Ev S5 lL 41 [.agg w.l,eO st,eO eF,eO bO] h (.Pp [.agg r.l,ab (sU q2),eO e1]) h)
  (ht:CW S5 lL (hA w) false (be (al TN) 8) (sgB w eF bO q1 q2 p r e1) e {t:=dgO,h:=H,m:=[]}):(CW S5 lL (hA w) false (cR (cR (al TN))) (sgA w st n eF bO) e {t:=dgO,h:=H,m:=[]}):=by
 have xd:=(@ht)
 refine yx [] [.o (.zhs 3 0 5),.v (@hp (Sc w)),.c ((fX [3,5] (Tp (@HJ q1 (by omega))) ⟨?_,trivial⟩ ⟨?_,trivial⟩):Ev S5 lL 39 [ab (sU q1),.ref (.ptr 3 0)] [.var (TC w),.var [nq,eO 0,nq],.var [eR false],.var [.ref (.eY 5 0)],.var [eO 0],.eY [] 0 5,.var [am p.nm,eO p.number,eO p.IY,eO p.CE,eO p.num,eO p.den,ab (S2 Ts p.reqs)]] (TT []) [.var (TC w),.var [nq,eO 0,nq],.var [eR false],.var [.ref (.eY 5 1)],.var [eO 0],.eY (ad (sU q1)) 1 5,.var [am p.nm,eO p.number,eO p.IY,eO p.CE,eO p.num,eO p.den,ab (S2 Ts p.reqs)]]),((by exact aB _ _):S2 (Tz (ar 5 1 0)) (ad (sU q1))=ad (sU q1)),.e,.o (.ren 5 0),.v (@hr (Sb w p q1)),xd,.a1 (.zkB [3,4,5,10,11,12,13,14,15,16,18,19] e {t:=qm 167 0 [(10,.ref (.ptr 1 0)),(11,.ref (.ptr 2 0)),(12,.ref (.ptr 3 0)),(13,.ref (.ptr 4 0))],h:=H})]<;>(first|rfl|exact aj _ _)
abbrev sgB9(w:eQ)(eF bO:Int)(q1 q2:iF)(p:jW)(r:Pq):AS:={t:=qm 167 0 [(3,eO eF),(4,eO bO),zbK,WF,zat,zaJ,zaK,(14,clo),zbu,(16,ab (sU q2)),(zhA 18 7)],h:=dgB w q1 0 p.l r,m:=[]}
abbrev sgC(w:eQ)(eF bO:Int)(rs q3:iF)(p:jW)(r:Pq)(l:iN)(e2:Int):AS:={t:=qm 167 0 [(3,eO eF),(4,eO bO),zbK,WF,zat,zaJ,zaK,(14,clo),zbu,(16,ab (sU q3)),(19,eO e2),(zd7 l)],h:=dgB w rs 0 p.l r,m:=[]}
noncomputable abbrev Sd(w:eQ)(p:jW)(r:Pq)(q1:iF)(q2:iF):aT:=(zhD (ZA w) za2 (zct q1 q2) 0 (ZI p) (zaM r))
abbrev zhq(a:eQ)(b:bY)(c:iF)(d:bY)(e:Pq):aT:=[eP (ZA a),eP b,eP [eR N],eP za2,eP [eO 0],.eY (ad (sU c)) 0 5,eP d,eP (zaM e)]
noncomputable abbrev Se(w:eQ)(p:jW)(r:Pq)(q1:iF):aT:=(zhq w [nq,eO 0,nq] q1 (ZI p) r)
theorem dg_B{e2:Int}(hb:q1.length+q2.length<=3000000000000)
  (hc:∀h,Ev S5 lL 43 [.agg w.l,.agg r.l,eO eF,eO bO] h (.Pp [ab (l.map Tb),ab (sU q3),eO e2]) h)
  (ht:CW S5 lL (hA w) false (be (al TN) 11) (sgC w eF bO (q1++q2) q3 p r l e2) e {t:=dgO,h:=H,m:=[]}):(CW S5 lL (hA w) false (be (al TN) 9) (sgB9 w eF bO q1 q2 p r) e {t:=dgO,h:=H,m:=[]}):=by
 have xd:=(@ht)
 refine yx [] [.c ((fX [3,5] (Tp (@yv q1 q2 hb)) ⟨?_,trivial⟩ ⟨?_,trivial⟩):Ev S5 lL 39 [ab (sU q2),.ref (.ptr 3 0)] (Se w p r q1) (TT []) [.var (TC w),.var [nq,eO 0,nq],.var [eR false],.var [.ref (.eY 5 1)],.var [eO 0],.eY (ad (sU (q1++q2))) 1 5,.var [am p.nm,eO p.number,eO p.IY,eO p.CE,eO p.num,eO p.den,ab (S2 Ts p.reqs)],.var [eO r.st,ab (S2 Tb r.a)]]),((by exact aB _ _):S2 (Tz (ar 5 1 0)) (ad (sU (q1++q2)))=ad (sU (q1++q2))),.o (.ren 5 0),.v (@hc (Sd w p r q1 q2)),xd,.a1 (.zkB [3,4,5,10,11,12,13,14,15,16,19,20] e {t:=qm 167 0 [(10,.ref (.ptr 1 0)),(11,.ref (.ptr 2 0)),(12,.ref (.ptr 3 0)),(13,.ref (.ptr 4 0))],h:=H})]<;>(exact aj _ _)
abbrev Sf(w:eQ)(eF bO:Int)(rs q3:iF)(p:jW)(r:Pq)(l:iN):AS:={t:=qm 167 0 [(3,eO eF),(4,eO bO),zbK,WF,zat,zaJ,zaK,(14,clo),zbu,(16,ab (sU q3)),(zd7 l)],h:=dgB w rs 0 p.l r,m:=[]}
abbrev zdY(a:bv)(b:Int)(c:bv):bY:=[ab a,eO b,ab c]
abbrev ML(w:eQ)(rs:iF)(x1 x3:bv)(ms:Int)(p:jW)(r:Pq):aT:=[eP w.l,eP (zdY x1 ms x3),eP [eR N],eP za2,eP [eO 0],.eY (ad (sU rs)) 0 5,eP p.l,eP r.l]
abbrev sgD(w:eQ)(rs:iF)(x1 x3:bv)(ms:Int)(p:jW)(r:Pq)(l:iN)(e3:Int):AS:={t:=qm 167 0 [WF,zat,zaJ,zaK,zbu,(19,eO e3),(zd7 l)],h:=ML w rs x1 x3 ms p r,m:=[]}
abbrev zdJ(a b c:iF):List (bY):=(ad (sU (a++b++c)))
noncomputable abbrev Sg(w:eQ)(p:jW)(Q:Or)(r:Pq)(rs:iF)(q3:iF)(q4:iF):aT:=[eP (ZA w),eP [nq,eO 0,nq],eP [eR N],eP za2,eP [eO 0],.eY (zdJ rs q3 q4) 0 5,eP (ZN p (S2 Ts Q)),eP (zaM r)]
noncomputable abbrev Sh(w:eQ)(p:jW)(r:Pq)(rs:iF):aT:=(zhq w [nq,eO 0,nq] rs (ZI p) r)
theorem dg_C{Q:List E7}{q4:List EU}(hb:rs.length+q3.length<=3000000000000)
  (hcl:Ev S5 ji 44 [ab (p.reqs.map Ts)] [] (.ref (.eY 0 1)) [.eY (ad (p.reqs.map Ts)) 1 6])
  (hl:CW S5 lL (hA w) false (.loop (sub TN 0)) (doS w eF bO l (rs++q3) p r (p.reqs.map Ts) ((ad (p.reqs.map Ts)).length:Int) 0) (.exit 0) (doE w l (rs++q3++q4) p r (Q.map Ts)))
  (ha:∀h,Ev S5 ji 49 [.agg (jW.l ⟨p.nm,p.number,p.IY,p.CE,p.num,p.den,Q⟩),ab (l.map Tb)] h (.Pp [.agg [ab x1,eO ms,ab x3],eO e3]) h)
  (ht:CW S5 lL (hA w) false (be (al TN) 29) (sgD w (rs++q3++q4) x1 x3 ms ⟨p.nm,p.number,p.IY,p.CE,p.num,p.den,Q⟩ r l e3) e {t:=dgO,h:=H,m:=[]}):(CW S5 lL (hA w) false (be (al TN) 12) (Sf w eF bO rs q3 p r l) e {t:=dgO,h:=H,m:=[]}):=by
 have xd:=(@hl)
 have hl1:=(@ht)
 let v0:List D:=[eO r.st,ab (S2 Tb r.a)]
 let v1:=S2 Ts p.reqs
 refine yx [] [.c ((fX [3,5] (Tp (@yv rs q3 hb)) ⟨(by subst v0 v1;exact aj _ _),trivial⟩ ⟨(by subst v0 v1;exact aj _ _),trivial⟩):Ev S5 lL 39 [ab (sU q3),.ref (.ptr 3 0)] (Sh w p r rs) (TT []) [.var (TC w),.var [nq,eO 0,nq],.var [eR false],.var [.ref (.eY 5 1)],.var [eO 0],.eY (ad (sU (rs++q3))) 1 5,.var [am p.nm,eO p.number,eO p.IY,eO p.CE,eO p.num,eO p.den,ab v1],.var v0]),(?_:S2 (Tz (ar 5 1 0)) (ad (sU (rs++q3)))=ad (sU (rs++q3))),.o (.ren 5 0),.c ((fX [] (Tp (@hcl)) trivial ⟨(by subst v0 v1;exact aj _ _),trivial⟩):Ev S5 lL 44 [ab v1] [.var (TC w),.var [nq,eO 0,nq],.var [eR false],.var [.ref (.eY 5 0)],.var [eO 0],.eY (ad (sU (rs++q3))) 0 5,.var [am p.nm,eO p.number,eO p.IY,eO p.CE,eO p.num,eO p.den,ab v1],.var v0] (.ref (.eY 8 1)) [.var (TC w),.var [nq,eO 0,nq],.var [eR false],.var [.ref (.eY 5 0)],.var [eO 0],.eY (ad (sU (rs++q3))) 0 5,.var [am p.nm,eO p.number,eO p.IY,eO p.CE,eO p.num,eO p.den,ab v1],.var v0,.eY (ad v1) 1 6]),.s [3,4,5,10,11,12,13,14,15,20,82,83,84] xd,(?_:ad (S2 Ts Q)=S2 (λx=>S2 Us x) (S2 Ts Q)),(?_:S2 (Tz (cw 8 1 (S2 Ts Q))) (ad (sU (rs++q3++q4)))=ad (sU (rs++q3++q4))),(rfl:Tl 8 (match 0==8 with|true=>.EZ|false=>CV (cw 8 1 (S2 Ts Q)) (.var (TC w)))=true),(rfl:Tl 8 (match 0+1==8 with|true=>.EZ|false=>CV (cw 8 1 (S2 Ts Q)) (.var [nq,eO 0,nq]))=true),(rfl:Tl 8 (match 0+1+1==8 with|true=>.EZ|false=>CV (cw 8 1 (S2 Ts Q)) (.var [eR false]))=true),(rfl:Tl 8 (match 0+1+1+1==8 with|true=>.EZ|false=>CV (cw 8 1 (S2 Ts Q)) (.var [.ref (.eY 5 0)]))=true),(rfl:Tl 8 (match 0+1+1+1+1==8 with|true=>.EZ|false=>CV (cw 8 1 (S2 Ts Q)) (.var [eO 0]))=true),(?_:Tl 8 (match 0+1+1+1+1+1==8 with|true=>.EZ|false=>CV (cw 8 1 (S2 Ts Q)) (.eY (ad (sU (rs++q3++q4))) 0 5))=true),(rfl:Tl 8 (match 0+1+1+1+1+1+1==8 with|true=>.EZ|false=>CV (cw 8 1 (S2 Ts Q)) (.var [am p.nm,eO p.number,eO p.IY,eO p.CE,eO p.num,eO p.den,.ref (.eY 8 1)]))=true),(rfl:Tl 8 (match 0+1+1+1+1+1+1+1==8 with|true=>.EZ|false=>CV (cw 8 1 (S2 Ts Q)) (.var v0))=true),.o (.frz 8 (S2 Ts Q)),.o (.P1 8),.v (Tp (Γ':=lL) (@ha (Sg w p Q r rs q3 q4))),hl1,.a1 (.zkB [10,11,12,13,15,19,20] e {t:=qm 167 0 [(10,.ref (.ptr 1 0)),(11,.ref (.ptr 2 0)),(12,.ref (.ptr 3 0)),(13,.ref (.ptr 4 0))],h:=H})]<;>subst v0 v1<;>(first|rfl|exact aD _ _|exact aB _ _)
abbrev doZ(w:eQ)(eF bO:Int)(l:iN)(rs:iF)(p:bY)(r:Pq):AS :={t:=qm 167 0 [(3,eO eF),(4,eO bO),zbK,WF,zat,zaJ,zaK,(14,clo),zbu,(zd7 l),(82,ab []),(83,eO 0),(84,eO 0)],h:=dgB w rs 0 p r,m:=[]}
abbrev doZE(w:eQ)(l:iN)(rs:iF)(p:bY)(r:Pq):AS :={t:=(ziJ l),h:=dgB w rs 0 p r,m:=[]}
theorem Lm{l:iN}{rs:iF}{p:bY}:(CW S5 lL (hA w) N (sub TN 0) (doZ w eF bO l rs p r) (EY 0) (doZE w l rs p r)):=yx [E6 (IW [10,11,12,13,15,20])] [.e]
theorem doZ_cw{w:eQ}{eF bO:Int}{l:iN}{rs:iF}{p:bY}{r:Pq}:CW S5 lL (hA w) false (.loop (sub TN 0)) (doZ w eF bO l rs p r) (.exit 0) (doZE w l rs p r) :=Ww (P:=S5) (Γ:=lL) (h0:=hA w) (rd:=false) (c:=sub TN 0) 0 (λ_=>doZ w eF bO l rs p r) (by simp) (λi hi=>absurd hi (V7 i)) Lm
abbrev pZ(p:jW):jW:=⟨p.nm,p.number,p.IY,p.CE,p.num,p.den,[]⟩
noncomputable abbrev B4(w:eQ)(p:jW)(r:Pq)(rs:iF)(q3:iF):aT:=[eP (ZA w),eP [nq,eO 0,nq],eP [eR N],eP za2,eP [eO 0],.eY (zct rs q3) 0 5,eP (ZN p []),eP (zaM r)]
noncomputable abbrev Ln(w:eQ)(p:jW)(r:Pq)(rs:iF):aT:=(zhq w [nq,eO 0,nq] rs (ZN p []) r)
theorem dg_C0(hb:rs.length+q3.length<=3000000000000)
  (hcl:∀h,Ev S5 ji 44 [ab []] h (ab []) h)
  (ha:∀h,Ev S5 ji 49 [.agg (pZ p).l,ab (l.map Tb)] h (.Pp [.agg [ab x1,eO ms,ab x3],eO e3]) h)
  (ht:CW S5 lL (hA w) false (be (al TN) 29) (sgD w (rs++q3) x1 x3 ms (pZ p) r l e3) e {t:=dgO,h:=H,m:=[]}):(CW S5 lL (hA w) false (be (al TN) 12) (Sf w eF bO rs q3 (pZ p) r l) e {t:=dgO,h:=H,m:=[]}):=by
 have xd:=(@doZ_cw (w) (eF) (bO) (l) (rs++q3) ([am p.nm,eO p.number,eO p.IY,eO p.CE,eO p.num,eO p.den,ab []]) (r))
 have hl1:=(@ht)
 refine yx [] [.c ((fX [3,5] (Tp (@yv rs q3 hb)) ⟨?_,trivial⟩ ⟨?_,trivial⟩):Ev S5 lL 39 [ab (sU q3),.ref (.ptr 3 0)] (Ln w p r rs) (TT []) [.var (TC w),.var [nq,eO 0,nq],.var [eR false],.var [.ref (.eY 5 1)],.var [eO 0],.eY (ad (sU (rs++q3))) 1 5,.var [am p.nm,eO p.number,eO p.IY,eO p.CE,eO p.num,eO p.den,ab []],.var [eO r.st,ab (S2 Tb r.a)]]),((by exact aB _ _):S2 (Tz (ar 5 1 0)) (ad (sU (rs++q3)))=ad (sU (rs++q3))),.o (.ren 5 0),.v (Tp (Γ':=lL) (@hcl (B4 w p r rs q3))),.s [3,4,5,10,11,12,13,14,15,20,82,83,84] xd,.v (Tp (Γ':=lL) (@ha (B4 w p r rs q3))),hl1,.a1 (.zkB [10,11,12,13,15,19,20] e {t:=qm 167 0 [(10,.ref (.ptr 1 0)),(11,.ref (.ptr 2 0)),(12,.ref (.ptr 3 0)),(13,.ref (.ptr 4 0))],h:=H})]<;>(exact aj _ _)
abbrev sgD30(w:eQ)(rs:iF)(x1 x3:bv)(ms:Int)(p:jW)(r:Pq)(l:iN):AS:={t:=(ziJ l),h:=ML w rs x1 x3 ms p r,m:=[]}
abbrev sgE(w:eQ)(rs:iF)(x1 x3:bv)(ms:Int)(p:jW)(r:Pq)(l:iN)(en e4:Int):AS:={t:=qm 167 0 [WF,zat,zaJ,zaK,zbu,(19,eO e4),(zd7 l),(28,eO en)],h:=ML w rs x1 x3 ms p r,m:=[]}
noncomputable abbrev Si(w:eQ)(ms:Int)(p:jW)(r:Pq)(rs:iF)(x1:bv)(x3:bv):aT:=(zhq w (zdY x1 ms x3) rs (ZI p) r)
theorem dg_D{e4:Int}
  (he:∀h,Ev S5 ji 50 [ab (l.map Tb)] h (.Pp [eO en,eO e4]) h)
  (ht:CW S5 lL (hA w) false (be (al TN) 31) (sgE w rs x1 x3 ms p r l en e4) e {t:=dgO,h:=H,m:=[]}):(CW S5 lL (hA w) false (be (al TN) 30) (sgD30 w rs x1 x3 ms p r l) e {t:=dgO,h:=H,m:=[]}):=by
 have xd:=(@ht)
 exact yx [] [.v (Tp (Γ':=lL) (@he (Si w ms p r rs x1 x3))),xd,.a1 (.zkB [10,11,12,13,15,19,20,28] e {t:=qm 167 0 [(10,.ref (.ptr 1 0)),(11,.ref (.ptr 2 0)),(12,.ref (.ptr 3 0)),(13,.ref (.ptr 4 0))],h:=H})]
abbrev sgE32(w:eQ)(rs:iF)(x1 x3:bv)(ms:Int)(p:jW)(r:Pq)(l:iN)(en:Int):AS:={t:=qm 167 0 [WF,zat,zaJ,zaK,zbu,(zd7 l),(28,eO en)],h:=ML w rs x1 x3 ms p r,m:=[]}
abbrev zgW(a:Nat):Nat×D:=(a,gM (qn 8 0))
abbrev sgF(w:eQ)(rs:iF)(x1 x3:bv)(ms:Int)(p:jW)(r:Pq)(en mn md e5:Int):AS:={t:=qm 167 0 [WF,zat,zaJ,zaK,zbu,(19,eO e5),(28,eO en),(zgW 29)],h:=ML w rs x1 x3 ms p r++(zcZ mn md),m:=[]}
noncomputable abbrev Sj(w:eQ)(ms:Int)(p:jW)(r:Pq)(rs:iF)(x1:bv)(x3:bv):aT:=(zhq w (zdY x1 ms x3) rs (ZI p) r)
theorem dg_E{e5:Int}
  (hm:∀h,Ev S5 ji 51 [ab (l.map Tb)] h (.Pp [.agg [eO mn,eO md],eO e5]) h)
  (ht:CW S5 lL (hA w) false (be (al TN) 33) (sgF w rs x1 x3 ms p r en mn md e5) e {t:=dgO,h:=H,m:=[]}):(CW S5 lL (hA w) false (be (al TN) 32) (sgE32 w rs x1 x3 ms p r l en) e {t:=dgO,h:=H,m:=[]}):=by
 have xd:=(@ht)
 exact yx [] [.v (Tp (Γ':=lL) (@hm (Sj w ms p r rs x1 x3))),xd,.a1 (.zkB [10,11,12,13,15,19,28,29] e {t:=qm 167 0 [(10,.ref (.ptr 1 0)),(11,.ref (.ptr 2 0)),(12,.ref (.ptr 3 0)),(13,.ref (.ptr 4 0))],h:=H})]
abbrev sgF34(w:eQ)(rs:iF)(x1 x3:bv)(ms:Int)(p:jW)(r:Pq)(en mn md:Int):AS:={t:=qm 167 0 [WF,zat,zaJ,zaK,zbu,(28,eO en),(zgW 29)],h:=ML w rs x1 x3 ms p r++(zcZ mn md),m:=[]}
abbrev sgG(w:eQ)(rs:iF)(x1 x3:bv)(ms:Int)(p:jW)(r:Pq)(en mn md c e6:Int):AS:={t:=qm 167 0 [WF,zat,zaJ,zaK,zbu,(19,eO e6),(28,eO en),(30,eO c)],h:=ML w rs x1 x3 ms p r++(zcZ mn md),m:=[]}
noncomputable abbrev Sk(w:eQ)(ms:Int)(mn:Int)(md:Int)(p:jW)(r:Pq)(rs:iF)(x1:bv)(x3:bv):aT:=(zhv (ZA w) (zdY x1 ms x3) (ad (sU rs)) (ZI p) (zaM r) (eP [eO mn,eO md]))
theorem dg_F{e6:Int}
  (hm:∀h,Ev S5 ji 52 [.agg [eO mn,eO md],.agg [eO p.num,eO p.den]] h (.Pp [eO c,eO e6]) h)
  (ht:CW S5 lL (hA w) false (be (al TN) 35) (sgG w rs x1 x3 ms p r en mn md c e6) e {t:=dgO,h:=H,m:=[]}):(CW S5 lL (hA w) false (be (al TN) 34) (sgF34 w rs x1 x3 ms p r en mn md) e {t:=dgO,h:=H,m:=[]}):=by
 have xd:=(@ht)
 exact yx [] [.v (Tp (Γ':=lL) (@hm (Sk w ms mn md p r rs x1 x3))),xd,.a1 (.zkB [10,11,12,13,15,19,28,30] e {t:=qm 167 0 [(10,.ref (.ptr 1 0)),(11,.ref (.ptr 2 0)),(12,.ref (.ptr 3 0)),(13,.ref (.ptr 4 0))],h:=H})]
abbrev sgG36(w:eQ)(rs:iF)(x1 x3:bv)(ms:Int)(p:jW)(r:Pq)(en mn md c:Int):AS:={t:=qm 167 0 [WF,zat,zaJ,zaK,zbu,(28,eO en),(30,eO c)],h:=ML w rs x1 x3 ms p r++(zcZ mn md),m:=[]}
theorem dg_G:(CW S5 lL (hA w) false (be (al TN) 36) (sgG36 w rs x1 x3 ms p r en mn md c) .ret {t:=dgO,h:=[.var w.l,.var [ab x1,eO ms,ab x3],.var [eR (ms==0&&fE (en>=p.CE)&&fE (c>=0))],.var [ab (sU rs)],.var [eO 0]],m:=[]}):=by
 exact yx [.st (.mask [10,11,12,13]),.st (.frz 5 (sU rs)),.st (.P1 5)] [pe (D.agg [ab x1,eO ms,ab x3]),pe (.ref (.ptr 1 1)),po (some (eO ms)),((λhg=>rfl):(ms==0)=true->(.ref (.ptr 6 3):D)=.ref (.ptr 6 3)),((λhg=>rfl):(ms==0)=true->some (eO p.CE)=some (eO p.CE)),po (some (.ref (.eY 5 0))),po (some (.ref (.eY 5 0))),po (some (.ref (.eY 5 0))),((by rfl):ad (sU rs)=S2 (λx=>S2 Us x) (sU rs)),(rfl:Tl 5 (match 0==5 with|true=>.EZ|false=>CV (cw 5 0 (sU rs)) (.var (TC w)))=true),(rfl:Tl 5 (match 0+1==5 with|true=>.EZ|false=>CV (cw 5 0 (sU rs)) (.var [ab x1,eO ms,ab x3]))=true),(rfl:Tl 5 (match 0+1+1==5 with|true=>.EZ|false=>CV (cw 5 0 (sU rs)) (.var [eR (ms==0&&fE (en>=p.CE)&&fE (c>=0))]))=true),(rfl:Tl 5 (match 0+1+1+1==5 with|true=>.EZ|false=>CV (cw 5 0 (sU rs)) (.var [.ref (.eY 5 0)]))=true),(rfl:Tl 5 (match 0+1+1+1+1==5 with|true=>.EZ|false=>CV (cw 5 0 (sU rs)) (.var [eO 0]))=true)]
noncomputable abbrev Sl(w:eQ):aT:=(ziV w)
theorem dg_N{pc:List D}(hb:q1.length<=1000000)
  (hp:∀h,Ev S5 lL 40 [.agg w.l,eO n,eO eF,eO bO] h (.Pp [.agg p.l,ab (sU q1),eR false]) h):(CW S5 lL (hA w) false (cR (cR (al TN))) (sgA w st n eF bO) .ret {t:=dgO,h:=[.var w.l,.var [nq,eO 0,nq],.var [eR false],.var [ab (sU q1)],.var [eO 0]],m:=[]}):=by
 refine yx [.st (.mask [10,11,12,13]),.st (.frz 5 (sU q1)),.st (.P1 5)] [.o (.zhs 3 0 5),.v (@hp (Sl w)),.c ((fX [3,5] (Tp (@HJ q1 (by omega))) ⟨?_,trivial⟩ ⟨?_,trivial⟩):Ev S5 lL 39 [ab (sU q1),.ref (.ptr 3 0)] [.var (TC w),.var [nq,eO 0,nq],.var [eR false],.var [.ref (.eY 5 0)],.var [eO 0],.eY [] 0 5,.var [am p.nm,eO p.number,eO p.IY,eO p.CE,eO p.num,eO p.den,ab (S2 Ts p.reqs)]] (TT []) [.var (TC w),.var [nq,eO 0,nq],.var [eR false],.var [.ref (.eY 5 1)],.var [eO 0],.eY (ad (sU q1)) 1 5,.var [am p.nm,eO p.number,eO p.IY,eO p.CE,eO p.num,eO p.den,ab (S2 Ts p.reqs)]]),pe (D.agg [nq,eO 0,nq]),po (some (.ref (.eY 5 1))),po (some (.ref (.eY 5 1))),po (some (.ref (.eY 5 1))),((by rfl):ad (sU q1)=S2 (λx=>S2 Us x) (sU q1)),(rfl:Tl 5 (match 0==5 with|true=>.EZ|false=>CV (cw 5 1 (sU q1)) (.var (TC w)))=true),(rfl:Tl 5 (match 0+1==5 with|true=>.EZ|false=>CV (cw 5 1 (sU q1)) (.var [nq,eO 0,nq]))=true),(rfl:Tl 5 (match 0+1+1==5 with|true=>.EZ|false=>CV (cw 5 1 (sU q1)) (.var [eR false]))=true),(rfl:Tl 5 (match 0+1+1+1==5 with|true=>.EZ|false=>CV (cw 5 1 (sU q1)) (.var [.ref (.eY 5 1)]))=true),(rfl:Tl 5 (match 0+1+1+1+1==5 with|true=>.EZ|false=>CV (cw 5 1 (sU q1)) (.var [eO 0]))=true),.e]<;>(first|rfl|exact aj _ _)
end Go.Vi
