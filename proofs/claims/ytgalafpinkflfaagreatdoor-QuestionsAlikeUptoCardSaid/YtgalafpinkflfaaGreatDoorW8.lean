/- A part of the proof; no conditions of its own. -/
import Derived.Test.YtgalafpinkflfaaGreatDoorW7
import Derived.Shelf.Slices.In.CompactI
open Bool renaming true->J,false->N
open Option renaming some->G,none->Y
open Go.Vi.F2 renaming map->Η,var->iI,loop->χ,ν->S3
open Go.Exit renaming normal->NO,exit->η
open Go.Vi.D renaming Ρ->JV,agg->uT,ref->mW
open Go.Vi.SOp renaming frz->zed,Μ->zmj,mask->τ
open Go.Vi.Ans renaming st->δ,ov->zjr,inl->zfF
open Go.IntKind renaming i64->zfN
open Go.Vi.Ref renaming ptr->J0
open Decidable renaming decide -> lL
open Go.Proofs.Tryz renaming prog -> S5, f44 -> Vq, isAgg3 -> Zf, sizeOf3 -> YO, underlying32 -> W8, f15 -> TN
open List renaming getElem?_eq_some_iff -> Td, length_filter_le -> YZ, map -> S2, length -> S7, mergeSort -> UF, length_cons -> Ue, length_nil -> VF, length_mergeSort -> XN, all -> Tq, all_eq_true -> TW, append_assoc -> WV, getElem?_append_right -> T8, replicate -> Ti, length_map -> Uw, append -> Zg, drop_zero -> Xj, map_append -> Uh, foldl_cons -> TG, length_take -> VX, getElem?_eq_getElem -> TH, take_succ_eq_append_getElem -> Wc, getElem?_map -> Vo, drop_eq_getElem_cons -> Yw, map_cons -> U5
open Go.Vi.L9 renaming row -> Tc
open Go.Vi.zcR renaming row -> Tj
open Go.Vi.JX renaming row -> Ta
open Go.Vi.D renaming Ρ -> TT, p -> Us, zbk -> Tz
open Go.Vi.kc renaming l -> TC
open Go.Vi.Ev renaming zly -> Tw, zlh -> Tp
open Go.Vi.F2 renaming inn -> Tl
open Go.Vi.γ renaming row -> Ts
open Bool renaming and_eq_true -> Tm
open Go.Value renaming int -> Ux
open Go.Sort renaming grow -> WU, putRow -> Un, ahead -> Uz, putCells -> UW, heap_grow_old -> VT, mapBlock -> Ur
open Array renaming getElem?_eq_some_iff -> V8, getElem?_modify -> Xx
open Go.World renaming cell? -> Xh
open Go.Calls renaming mono -> Xp
open Nat renaming le_refl -> T0, le_trans -> Vj, not_lt_zero -> V7
open Go.Lib renaming compact -> Vb
open Go.Vi.CW renaming znq -> Ww
open Go.IntKind renaming u64 -> TB, wrap -> S8, i64 -> S6
open Go.Vi.JZ renaming row -> Tb
open Go.Exit renaming normal -> Tr
open Prod.mk renaming injEq -> Tk
open Int renaming toNat -> S9
open Go Go.Proofs
namespace Go.Vi
set_option maxRecDepth 100000
set_option maxHeartbeats 4000000
variable {a c d5 n fI:Int}{l:Or}{ns:bV}{w:kc}
def ij(ns l:bV):Nat:=(ns.filter λx=>!l.contains x).length
theorem BX(l:bV)(n:Int):∀ns:bV,ij ns (l++[n])<=ij ns l
 | []=>by simp[ij]
 |a::ns=>by have ih:=BX l n ns;unfold ij at *;grind
theorem BZ{l:bV}(hn:l.contains n=N):∀{ns:bV},n∈ns->ij ns (l++[n])+1<=ij ns l
 |a::ns,h=>by
  by_cases ha:a=n
  ·subst ha;have ih:=BX l a ns;have h2:(l++[a]).contains a=J:=F1
   unfold ij at *;grind
  ·have h':n∈ns:=(List.mem_cons.1 h).resolve_left λe=>ha e.symm;have ih:=BZ hn h';have h2:(l++[n]).contains a=l.contains a:=by rw[Bool.eq_iff_iff];simp[ha]
   unfold ij at *;grind
theorem HB(hn:n∈ns)(s:RL):ij ns (eqN w fI d5 a s n).2+(eqN w fI d5 a s n).2.length<=ij ns s.2+s.2.length:=by
 unfold eqN;cases hc:s.2.contains n
 ·cases zor w fI d5 a n;·simp
  ·have:=BZ hc hn;simp;omega
 ·simp
theorem iT{w:kc}{fI d5 a:Int}{ns:bV}:∀(ms:bV),(∀n∈ms,n∈ns)->∀s:RL,ij ns (ms.foldl (eqN w fI d5 a) s).2+(ms.foldl (eqN w fI d5 a) s).2.length<=ij ns s.2+s.2.length/\(ms.foldl (eqN w fI d5 a) s).1.length<=s.1.length+ms.length
 | [],_,s=>F1
 |n::ms,h,s=>by have h1:=HB (w:=w) (fI:=fI) (d5:=d5) (a:=a) (h n F1) s;have h2:=iT (w:=w) (fI:=fI) (d5:=d5) (a:=a) ms (λx hx=>h x (List.mem_cons_of_mem _ hx)) (eqN w fI d5 a s n);have h3:=HA (w:=w) (fI:=fI) (d5:=d5) (a:=a) s n;grind
def zge(w:kc)(fI d5:Int)(ns:bV):Nat->Nat->RL->RL
 |0,_,s=>s
 |f+1,i,s=>match s.2[i]? with
  |some a=>zge w fI d5 ns f (i+1) (zkz w fI d5 ns a s)
  |none=>s
theorem gi{f i:Nat}{s:RL}(h:s.2[i]?=Y):zge w fI d5 ns f i s=s:=by cases f<;>simp[zge,h]
theorem eo_g(hwf:ah w.f)(hn:ns.length<=1000){rs:iF}{l:bV}(hb:rs.length<=900000000)(hl:ij ns l+l.length<=ns.length+1):CW S5 mX [] false (.loop (sub Tryz.f45 0)) (eoS w fI d5 (zaQ ns) rs l 0) (.exit 0) (eoE w (zge w fI d5 ns (ns.length+1) 0 (rs,l)).1 (zge w fI d5 ns (ns.length+1) 0 (rs,l)).2):=by
 refine CW.loop (ι:={p:Nat×Nat×RL // p.2.1+p.1=ns.length+1/\ij ns p.2.2.2+p.2.2.2.length<=ns.length+1/\p.2.2.1.length<=rs.length+p.2.1*1000/\zge w fI d5 ns p.1 p.2.1 p.2.2=zge w fI d5 ns (ns.length+1) 0 (rs,l)})
  (λp=>eoS w fI d5 (zaQ ns) p.1.2.2.1 p.1.2.2.2 p.1.2.1) (λ_=>(.exit 0,eoE w (zge w fI d5 ns (ns.length+1) 0 (rs,l)).1 (zge w fI d5 ns (ns.length+1) 0 (rs,l)).2)) (λp=>p.1.1) ?_ ⟨(ns.length+1,0,(rs,l)),by simp,hl,by simp,rfl⟩
 rintro⟨⟨f,i,s⟩,h1,h2,h3,h4⟩;simp only at h1 h2 h3 h4 ⊢;cases ha:s.2[i]? with
 | none =>refine .inr ⟨by simp,?_⟩;rw[gi ha] at h4;rw[<-h4];refine RQ ?_;grind
 | some a =>
  have hi:=(Td.1 ha).1;obtain⟨g,rfl⟩:∃g,f=g+1:=⟨f-1,by omega⟩;have hf:=iT (w:=w) (fI:=fI) (d5:=d5) (a:=a) (ns:=ns) ns (λ_ h=>h) s;refine .inl ⟨⟨(g,i+1,zkz w fI d5 ns a s),by grind,by grind [zkz],by grind [zkz],?_⟩,by simp only;omega,trivial,?_⟩;·simp only[zge,ha] at h4;exact h4
  ·refine RP hwf hn ha ?_ ?_ ?_ ?_;·rw[wrap_i64 (by omega) (by omega)];omega
   ·grind
   ·omega
   ·omega
def lQ(w:kc)(c fI d5:Int):RL:=zge w fI d5 (af w.f d5) ((af w.f d5).length+1) 0 ([rdN],[c])
def DE(w:kc)(c fI d5:Int):bV:=(lQ w c fI d5).2.mergeSort λx y=>lL (x<=y)
theorem Lc{x0 x1 x3:F2}{l:bV}(hl:l.length<4611686018427387904):Ev S5 mX 107 (zbn 2 0) [x0,x1,.lk (nuV l) 0 1,x3] (JV []) [x0,x1,.lk (nuV (l.mergeSort λx y=>lL (x<=y))) 0 1,x3] :=sJ (h:=[x0,x1,.lk (nuV l) 0 1,x3]) (b:=2) rfl hl
theorem yq(ns:bV)(c:Int):ij ns [c] + [c].length<=ns.length+1:=by have:=YZ (λx=>!([c]:bV).contains x) ns;unfold ij;grind
theorem eo1_cw{w:kc}(hw:w.ok){c fI d5:Int}(hn:(af w.f d5).length<=1000):CW S5 mX [] false (.loop (sub Tryz.f45 0)) {t:=Bn 100 0 [(2,go fI),(3,go d5),zfr,zcU,ze0,(10,ab (zaQ (af w.f d5))),zfM,(12,go 0)],h:=[.var w.l,.lk zdX 0 5,.lk [[go c]] 0 1,.map [(go c,kr true,0)] 1],m:=[]}
   (.exit 0) (eoE w (lQ w c fI d5).1 (lQ w c fI d5).2) :=
 eo_g hw.sf hn (rs:=[rdN]) (l:=[c]) (by simp) (yq _ _)
noncomputable abbrev nh(w:kc):aT:=[iI (ZA w)]
abbrev ZW(a:iF):List (bY):=S2 (λx=>S2 Us x) (J2 a)
abbrev zjh(a:bv)(b:iF):D:=(JV [ab a,ab (J2 b)])
theorem RR(hw:w.ok)(hc:(!(lL (c>=0)&&lL (c<=4095))||!(lL (fI>=0)&&lL (fI<=1023)))=N)(hn:(af w.f d5).length<=1000)(hl:(lQ w c fI d5).2.length<4611686018427387904)(hnum:∀h,Ev S5 mX 105 [uT w.l,go d5] h (JV [ab (zaQ (af w.f d5)),mW (.lk h.length 0)]) (h++[.lk zdX 0 5]))(h:aT):(Ev S5 mX 45 (zbE w c fI d5) h (zjh (zaQ (DE w c fI d5)) ((lQ w c fI d5).1)) h):=by have Pq:=(@eo1_cw (w) (hw) (c) (fI) (d5) (hn));refine yD (TT [ab (zcd (DE w c fI d5)),ab (J2 (lQ w c fI d5).fst)]) [.v (@bD c 0 4095 (nh w)),.w (!!(lL (c>=0)&&lL (c<=4095))) (@bD fI 0 1023 (nh w)),.b hc,.c (@hnum (nh w)),.s [2,3,4,8,9,10,11,12] Pq,.c (@Lc (iI (TC w)) (zb8 ((lQ w c fI d5).fst) 0) (Η (aW (lQ w c fI d5).2) (S7 (lQ w c fI d5).2)) ((lQ w c fI d5).2) hl),(?_:nuV (UF (lQ w c fI d5).2 λx y=>lL (x<=y))=S2 (λx=>S2 Us x) (zcd (DE w c fI d5))),(?_:S2 (Tz (cw 2 0 (zcd (DE w c fI d5)))) (ad (J2 (lQ w c fI d5).fst))=ad (J2 (lQ w c fI d5).fst)),(?_:S2 (λe=>(D.π (cw 2 0 (zcd (DE w c fI d5))) e.fst,D.π (cw 2 0 (zcd (DE w c fI d5))) e.2.fst,e.2.2)) (aW (lQ w c fI d5).2)=aW (lQ w c fI d5).2),(?_:ad (J2 (lQ w c fI d5).fst)=(ZW ((lQ w c fI d5).fst))),(?_:S2 (λe=>(D.π (cw 1 0 (J2 (lQ w c fI d5).fst)) e.fst,D.π (cw 1 0 (J2 (lQ w c fI d5).fst)) e.2.fst,e.2.2)) (aW (lQ w c fI d5).2)=aW (lQ w c fI d5).2),.o (zed 2 (zcd (DE w c fI d5))),.o (zed 1 (J2 (lQ w c fI d5).fst))] h uU<;>(first|rfl|exact LR _|exact aB _ _|exact db _ _)
theorem yr{w:kc}{fI d5:Int}{ns:bV}:∀(f i:Nat) (s:RL),ij ns (zge w fI d5 ns f i s).2+(zge w fI d5 ns f i s).2.length<=ij ns s.2+s.2.length/\(zge w fI d5 ns f i s).1.length<=s.1.length+f*ns.length
 |0,_,s=>by simp[zge]
 |f+1,i,s=>by
  cases ha:s.2[i]? with
  |none=>rw[gi ha];simp
  |some a=>have h1:=iT (w:=w) (fI:=fI) (d5:=d5) (a:=a) (ns:=ns) ns (λ_ h=>h) s;have h2:=yr (w:=w) (fI:=fI) (d5:=d5) (ns:=ns) f (i+1) (zkz w fI d5 ns a s);simp[zge,ha];grind [zkz,Nat.add_mul]
theorem B0:(lQ w c fI d5).2.length<=(af w.f d5).length+1/\(lQ w c fI d5).1.length<=1+((af w.f d5).length+1)*(af w.f d5).length:=by have h:=yr (w:=w) (fI:=fI) (d5:=d5) (ns:=af w.f d5) ((af w.f d5).length+1) 0 ([rdN],[c]);have h1:=yq (af w.f d5) c;grind [Ue,VF,lQ]
def bQ(w:kc)(c fI d5:Int):RL:=match (!(lL (c>=0)&&lL (c<=4095))||!(lL (fI>=0)&&lL (fI<=1023))) with
 |true=>([],[c])
 |false=>((lQ w c fI d5).1,DE w c fI d5)
theorem lJ(hn:(af w.f d5).length<=1000):(bQ w c fI d5).1.length<=1001001/\(bQ w c fI d5).2.length<=1001:=by have h:=B0 (w:=w) (c:=c) (fI:=fI) (d5:=d5);have h2:((af w.f d5).length+1)*(af w.f d5).length<=1001*1000:=Nat.mul_le_mul tj hn;grind [DE,XN,bQ]
noncomputable abbrev tC(w:kc):aT:=[iI (ZA w)]
theorem RS(hc:(!(lL (c>=0)&&lL (c<=4095))||!(lL (fI>=0)&&lL (fI<=1023)))=J)(h:aT):(Ev S5 mX 45 (zbE w c fI d5) h (JV [ab (zaQ [c]),ab (J2 [])]) h):=Tw (Ev.zkv (y0 (d:=TT [ab [[vi c]],nq]) [.v (@bD c 0 4095 (tC w)),.w (!!(lL (c>=0)&&lL (c<=4095))) (@bD fI 0 1023 (tC w)),.b hc,pr [[go c]],.n 1,.o (zed 1 [[vi c]])] h)) ο ο
theorem Ld(hw:w.ok)(hn:(af w.f d5).length<=1000)(h:aT):Ev S5 mX 45 (zbE w c fI d5) h (JV [ab ((bQ w c fI d5).2.map λn=>[vi n]),ab (J2 (bQ w c fI d5).1)]) h:=by
 unfold bQ;cases hc:(!(lL (c>=0)&&lL (c<=4095))||!(lL (fI>=0)&&lL (fI<=1023)));·exact RR hw hc hn (by have:=(B0 (w:=w) (c:=c) (fI:=fI) (d5:=d5)).1;omega) (λh=>qj hw.lf hw.sf h) h
 ·exact RS hc h
theorem yu{w:kc}(hw:w.ok){c fI d5:Int}(hn:(af w.f d5).length<=1000)(h:aT):Ev S5 uS 45 (zbE w c fI d5) h (JV [ab ((bQ w c fI d5).2.map λn=>[vi n]),ab (J2 (bQ w c fI d5).1)]) h:=Tp (Ld hw hn h)
abbrev zbo(a:iF)(b:kc)(c d e:Int):List (bY):=(ad (J2 (a++(bQ b c d e).fst)))
noncomputable abbrev lK(w:kc)(d5:Int)(n:Int)(fI:Int)(rs:iF):aT:=[iI (ZQ 1 w d5),.lk (zbo rs w n fI d5) 1 5]
noncomputable abbrev vA(w:kc)(d5:Int)(rs:iF):aT:=[iI (ZQ 0 w d5),.lk (ad (J2 rs)) 0 5]
abbrev zjl(a:Int)(b:kc)(c d:Int):D:=ab (S2 (λa=>[vi a]) (bQ b a c d).2)
theorem tD{w:kc}(hw:w.ok){d5 n fI:Int}(hn:(af w.f d5).length<=1000){rs:iF}(hb:rs.length<=990000000):(Ev S5 uS 94 (zbF 0 n fI) (lkH w d5 rs 0) (ab ((bQ w n fI d5).2.map λn=>[vi n])) (lkH w d5 (rs++(bQ w n fI d5).1) 1)):=by refine Tw (Ev.post (d2:=(zjl n w fI d5)) (h2:=(lK w d5 n fI rs)) (φ:=[Tl 2 (iI (ZQ 1 w d5))=J,Tl 2 (.lk (zbo rs w n fI d5) 1 5)=J]) zg3 (yF (h':=(lK w d5 n fI rs)) (d:=(zjl n w fI d5)) [.v (@yu w hw n fI d5 hn (vA w d5 rs)),.c (@Bu w d5 rs ((bQ w n fI d5).fst) ?_)]) Z ⟨rfl,?_,trivial⟩) uU uU<;>(first|exact aD _ _|(have:=(lJ (w:=w) (c:=n) (fI:=fI) (d5:=d5) hn).1;omega))
abbrev reqV(l:Or):List (bY):=l.map λq=>q.row.map .p
abbrev zdP:List (bY):=([]:List (bY))
abbrev zhc(a:Or):List (bY):=S2 (λx=>S2 Us x) (S2 Ts a)
theorem HC(hl:l.length<=1000000):(Tq (zhc l) (aL 6)&&L8 (S7 zdP+S7 (zhc l)) 88)=J:=by
 rw[Tm];constructor;·rw[TW];intro x hx;simp at hx;obtain⟨q,_,rfl⟩:=hx;rfl
 ·simp;grind [L8]
abbrev ziY(b:bv)(c:Bool):bY:=Bn 8 0 [(0,ab b),(2,nq),(3,ab b),(4,kr c)]
abbrev zdZ(a:Or):AS:={t:=(ziY (a.map Ts) N),h:=[],m:=[]}
abbrev zgS:bY:=Bn 8 0 [(2,mW (.lk 0 1))]
theorem HD(hl:l.length<=1000000):(CW S5 mX [] N (cR (cR (al Vq))) (zdZ l) .ret {t:=zgS,h:=[.lk (reqV l) 1 6],m:=[]}):=yX {t:=zgS,h:=[.lk (zhc l) 1 6],m:=[]} Exit.ret (zeI 2) [((by exact HC hl):(Tq (S2 (λx=>S2 Us x) (S2 Ts l)) (aL 6)&&L8 (S7 ([]:List (bY))+S7 (S2 (λx=>S2 Us x) (S2 Ts l))) 88)=J)] uU (by simp_all)
theorem cl_r0:(CW S5 mX [] N (cL (al Vq)) {t:=Bn 8 0 [(0,ab (l.map Ts))],h:=[],m:=[]} NO {t:=Bn 8 0 [(0,ab (l.map Ts)),(2,nq)],h:=[],m:=[]}):=yx [δ (τ [0,2])] []
theorem cl_c:(CW S5 mX [] N (cR (cL (cR (al Vq)))) (zdZ l) NO (zdZ l)):=yx [δ (τ [0,2,3,4])] [.e]
def rOps:Code->BY
 |.region _ o _=>o
 |_=>#[]
def rId:Code->Nat
 |.region i _ _=>i
 |_=>0
theorem B1:al Vq=.seq (cL (al Vq)) (.seq (.seq (.region (rId (cL (cL (cR (al Vq))))) (rOps (cL (cL (cR (al Vq))))) N) (cR (cL (cR (al Vq))))) (cR (cR (al Vq)))):=Z
def noC:zec:=λ_ _ _=>Y
theorem noC_ok:noC.Ok S5 mX:=λ_ _ _ _ h=>by simp[noC] at h
def lastO(o:oF):Oper:=o.getLastD default
abbrev clT(l:Or)(b:Bool):bY:=(ziY (l.map Ts) b)
theorem zrL{b:Bool}:Κ (Bn 8 0 [(0,ab (l.map Ts)),(2,nq),(3,ab (l.map Ts))]) (lastO (rOps (cL (cL (cR (al Vq))))).toList).dst (lit (.bool b))=clT l b:=Z
theorem cl_r1{X:Ctx}{r:BV}{Q:Exit->AS->Prop}(hQ:∀b:Bool,(b=J->l.map Ts=[])->Q NO {t:=clT l b,h:=[],m:=[]}):VW S5 mX X r (.region (rId (cL (cL (cR (al Vq))))) (rOps (cL (cL (cR (al Vq))))) N) Q {t:=Bn 8 0 [(0,ab (l.map Ts)),(2,nq)],h:=[],m:=[]} :=VW.nilLast (os:=(rOps (cL (cL (cR (al Vq))))).toList.dropLast) (o:=lastO (rOps (cL (cL (cR (al Vq))))).toList) (t:=99) (yt:=99) (x:=3) (t1:=Bn 8 0 [(0,ab (l.map Ts)),(2,nq),(3,ab (l.map Ts))]) (h1:=[])
  noC_ok Z (e:=115) Z Z Z Z rfl (λb hb=>zrL.symm▸hQ b hb)
theorem Le{l:List γ}(hl:l.length<=1000000)(hne:l≠[]):Ev S5 mX 44 [ab (l.map Ts)] [] (.ref (.lk 0 1)) [.lk (reqV l) 1 6]:=by
 refine Ev.zrj (fn:=Vq) rfl (by kernel_rfl) (e:=.ret) (s:={t:=Bn 8 0 [(2,.ref (.lk 0 1))],h:=[.lk (reqV l) 1 6],m:=[]}) ?_ (by kernel_rfl)
 rw[B1]
 refine CW.seq (cl_r0 (l:=l)) (CW.seq (s1:={t:=clT l false,h:=[],m:=[]}) (CW.seq (s1:={t:=clT l false,h:=[],m:=[]}) ?_ cl_c) (HD hl))
 intro X r _ _
 refine cl_r1 λb hb=>?_
 cases b with
 | false=>grind
 | true=>simp_all
end Go.Vi
open Go Go.Proofs Go.Shelf Go.RowKit Go.Sort
namespace Go.Vi
set_option maxHeartbeats 4000000
set_option maxRecDepth 100000
variable {P:Program}{b e g:Nat}{h:aT}{l:bV}{Γ:au}{ρ:Ren}
theorem HE{f:FuncId}{vsx:oR}{m:bV}(hb:h[b]? = some (.lk (cX l) e 1))(hlm:m.length=l.length)(hne:l≠[]){d:D}{rv:Nat->Nat->Nat->Value}(hd:∀{w:World} {av:Nat->Prop} {loc:Loc} {mN o cap:Nat},loc b=some (mN,mkP o cap)->l.length<=cap->Rel w av loc (h.set b (zjd m e)) d (rv mN o cap))(H:∀{O:Nat->Prop} {w:World} {loc:Loc} (_:Β Γ O w loc h) (mN o cap:Nat),J4 O loc h mN->mN<w.heap.size->Sort.Holds (Ux .i64) w mN o l.toArray->l.length<=cap -> Calls P f (#[.slice (some ⟨mN,o,none⟩) l.length cap]++vsx.toArray) w λe w'=>e=.returned (rv mN o cap)/\∃n os,w'=WU (Un (Ux .i64) (Uz w n) mN o m.toArray) os) :Ev P Γ f (.ref (.lk b e)::vsx.map lit) h d (h.set b (zjd m e)):=by
 intro O w loc vs R ra;obtain⟨y,rfl⟩:∃y,vs=y::vsx:=by
  match vs,ra with
  | y::ys,r=>exact⟨y,by rw[mZ r.2]⟩
  | [],r=>simp[qH] at r
 have r:=ra.1;simp only[Rel,J1,hb] at r;have hv:=r.2.2 trivial;have B:=R.mN b _ hb;simp only[Z2] at B;have hlen:(cX l).length=l.length:=by simp[cX]
 refine callsIn_wide.2 ?_;cases hlb:loc b with
 | none =>grind
 | some p =>
  obtain⟨mN,cp⟩:=p;rw[hlb] at hv B;obtain⟨o,cap,rfl,rfl,zmV⟩:=hv;simp only at B;obtain⟨o',cap',rc,c,T,fr,ys,zla,hcs,hle,hfr,hsz,zmS,pr,rest,hpr,hcl⟩:=B;obtain⟨rfl,rfl⟩:=dh rc;have hys:=mI zmS;subst hys;have hblk:mN<w.heap.size:=(V8.1 zla).1;have zlu:J4 O loc h mN:=.inr ⟨b,_,mkP o cap,hb,by simp,hlb⟩;have hH:Sort.Holds (Ux .i64) w mN o l.toArray:=by
   intro j hj;have hj':j<l.length:=by simpa using hj
   have hc:c[o+j]? = some (Ux .i64 l[j]):=by rw[<-Array.getElem?_toList,hcl,WV,T8 (by omega),show o+j-pr.length=j by omega,List.getElem?_append_left (by simpa using hj')];simp[hj']
   constructor;·simp[Xh,zla,hc,hj']
   ·have:=hfr (o+j) (V8.1 hc).1;obtain⟨lo,hi⟩:=fr;simp only[World.frozen?,zla];grind
  rw[hlen] at zmV ⊢;have e0:(Value.slice (some ⟨mN,o,none⟩) l.length cap::vsx).toArray=#[.slice (some ⟨mN,o,none⟩) l.length cap]++vsx.toArray:=by simp
  rw[e0];refine Xp (H R mN o cap zlu hblk hH zmV) ?_;rintro e' w' ⟨rfl,n,os,rfl⟩;have zpD:(WU (Un (Ux .i64) (Uz w n) mN o m.toArray) os).heap[mN]? = some (.cells (UW (Ux .i64) o m.toArray c) T fr):=by rw[VT _ _ (by grind [Un,Ur,Uz])];simp[Un,Ur,Uz,Xx,zla,Sort.onCells]
  have zmA:(UW (Ux .i64) o m.toArray c).toList=pr++m.map (Ux .i64)++rest:=by
   unfold UW;rw[Array.toList_mapIdx,hcl];apply List.ext_getElem?;intro i;rw[List.getElem?_mapIdx];by_cases hp:i<pr.length;·grind
   obtain⟨q,rfl⟩:∃q,i=pr.length+q:=⟨i-pr.length,by omega⟩;rw[jP,jP];by_cases hi:q<l.length;·grind
   ·grind
  have key:=R.step (w':=WU (Un (Ux .i64) (Uz w n) mN o m.toArray) os) (l':=loc) (h':=h.set b (zjd m e)) b (zjd m e)
   (by simp_all) ⟨rfl,rfl,rfl,by simp[WU,Un,Ur,Uz]⟩ (λi hi=>b9 _ _ hi) (bk hb) (λ_ _=>rfl)
   (λz hz=>by rw[hb] at hz;cases hz;exact⟨⟨T0 _,λ_=>by grind,rfl⟩,λ_=>rfl⟩)
   (λk hk hno=>by
    have hkb:k≠mN:=λe=>hno _ (mkP o cap) hb (by simp) (by rw[hlb,e])
    rw[VT _ _ (by grind [Un,Ur,Uz])]
    grind [Un,Ur,Uz])
   (λk c hk=>.inl ⟨_,c,hb,by simp,hk⟩)
   (λE=>by
    simp only[Z2,hlb]
    refine⟨o,cap,rfl,_,T,fr,m.map (Ux .i64),zpD,?_,?_,?_,?_,jQ,pr,rest,hpr,zmA⟩
    ·grind [UW]
    ·grind
    ·grind [UW]
    ·simp[cX])
  grind
theorem Ag{O:Nat->Prop}{cf:Int->Int->Int}{w:World}{loc:Loc}(R:Β Γ O w loc h){mN:Nat}(hblk:J4 O loc h mN)(hE:∀x y,Ev P Γ g [(zf9 x),(zf9 y)] [] (lit (.int zfN (cf x y))) [])(o size:Nat):CmpLays1 P g #[] (Ux zfN) cf mN o size w:=by
 intro m os dk hs x y;generalize hW:sortWorld (Ux zfN) w mN o m dk os=W;have hb:mN<w.heap.size:=by
  rcases hblk with ho|ho;·exact R.obd mN ho
  ·exact(R.inb mN ho).1
 have znv:∀b off v,¬J4 O loc h b->w.cell? ⟨b,off,Y⟩=G v->W.cell? ⟨b,off,Y⟩=G v/\¬J4 (λ_=>False) loc [] b:=by
  intro b off v hn hc;have hne:b≠mN:=λe=>hn (e▸hblk);refine⟨?_,λho=>ho.elim id (λh=>absurd h dT)⟩;subst hW;have xD:b<w.heap.size:=by
   simp only[Xh] at hc;split at hc;·grind
   ·simp at hc
  have:(sortWorld (Ux zfN) w mN o m dk os).heap[b]?=w.heap[b]?:=by unfold sortWorld;rw[VT _ _ (by grind [Un,Ur,Uz])];simp[Un,Ur,Uz,Xx,Ne.symm hne]
  simp only[Xh,this];exact hc
 have R0:Β Γ (λ_=>False) W loc []:=by refine⟨λmN ho=>absurd ho dT,λmN ho=>ho.elim,λb b' x x' k c c' hb=>by simp at hb,λb x hb=>by simp at hb,λg cs hg=>?_⟩;exact Pt.mono znv g 0 cs (R.glo g cs hg)
 have ra:qH W (J4 (λ_=>False) loc []) loc [] [(zf9 x),(zf9 y)] [.int zfN x,.int zfN y]:=by simp[qH,Rel,ς]
 refine Xp (callsIn_wide.1 (hE x y (λ_=>False) W loc _ R0 ra)) ?_;rintro e w' ⟨v,d2,h2,l',rfl,⟨rfl,rfl⟩,R',E',rd⟩;refine⟨?_,tp E'.size (λb hb=>E'.same b hb dT) E'.tape⟩;have:v=.int zfN (cf x y):=by simpa[Rel,ς] using rd
 rw[this]
abbrev cmpZ(x y:Int):Int:=if x<y then -1 else if x>y then 1 else 0
theorem ltZ(x y:Int):ltOf cmpZ x y=lL (x<y):=by unfold ltOf cmpZ;grind
theorem Dn(ok:POk P)(L:SlLaysF.n6 P ρ)(hg:fK P g=true)(hE:∀x y,Ev P Γ g [lit (.int .i64 x),lit (.int .i64 y)] [] (lit (.int .i64 (cmpZ x y))) [])
  {h:List F2}  {l:List Int} (hb:h[b]? = some (.lk (cX l) e 1)) (hl:l.length<4611686018427387904) (hne:l≠[]) :
  Ev P Γ (ρ.f 6) [.ref (.lk b e),.p (.v (.func (.func g) #[] #[]))] h (.Ρ []) (h.set b (.lk (cX (l.mergeSort λx y=>lL (x<=y))) e 1)):=by
 refine HE (vsx:=[.func (.func g) #[] #[]]) hb (by simp) hne (rv:=λ_ _ _=>.tuple #[]) (λ_ _=>by simp[Rel,qH]) λR mN o cap zlu hblk hH zmV=>?_
 have eg:∀args w,(callFunc g args).run P w=.ok (.enter g args) w:=λargs w=>by
  unfold fK at hg
  split at hg
  ·rename_i fn hfn;exact zkR ok hfn hg args w
  ·simp at hg
 have h1:=Any.slices_SortFunc_total L (Ux .i64) (λ_=>rfl) cmpZ ⟨λx=>by rw[ltZ];simp,λx y z h1 h2=>by grind [ltZ],λx y z h1 h2=>by grind [ltZ]⟩ g #[] mN o cap l.toArray _ eg (Ag R zlu hE o _) hH hblk (by simpa using hl) (λx y h1 h2=>by grind [ltZ])
 have e2:(l.mergeSort λx y=>!(ltOf cmpZ) y x)=l.mergeSort λx y=>lL (x<=y):=by
  congr 1
  funext x y
  rw[ltZ]
  by_cases h:x<=y<;>simp[h]<;>omega
 refine Xp (by simpa using h1) ?_
 rintro e' w' ⟨rfl,n,os,rfl⟩
 refine⟨rfl,n,os,?_⟩
 rw[<-e2]
 rfl
theorem HF(L:Lays2.n20 P ρ)(hb:h[b]? = some (.lk (cX l) e 1))(hl:l.length<4611686018427387904)(hne:l≠[]):Ev P Γ (ρ.f 20) (zbn b e) h (.ref (.vs b e 0 (Vb l).length none)) (h.set b (zjd (Vb l++Ti (l.length-(Vb l).length) 0) e)):=by
 have hc:(Vb l).length<=l.length:=by unfold Vb Lib.compactUpTo;rw[Uw];exact Vj (YZ _ _) (by simp)
 refine HE (vsx:=[]) hb (by simp;omega) hne (rv:=λmN o cap=>.slice (some ⟨mN,o,none⟩) (Vb l).length cap) (λ{w av loc mN o cap} hlb zmV=>?_) λR mN o cap zlu hblk hH zmV=>?_;·simp only[Rel,J1,bk hb];exact⟨rfl,T0 _,λ_=>⟨by simp[cX],mN,o,cap,cap,hlb,.inl (by simp),by omega,by omega,λk h=>by cases h⟩⟩
 ·refine Xp (calls_of_every_depth λD=>AnyS.slices_Compact_int_in L D mN o cap l _ hH (by omega) zmV) ?_;rintro e' w' ⟨rfl,n,rfl⟩;exact⟨rfl,n,#[],(Sort.grow_empty _).symm⟩
end Go.Vi
open Go Go.Proofs
set_option maxRecDepth 100000
namespace Go.Proofs
open Go.Shelf
def Tryz.zqs:Go.Shelf.Ren:=⟨fun|6=>46|15=>109|14=>108|28=>186|29=>187|20=>178|21=>179|22=>180|23=>181|24=>182|25=>183|26=>184|27=>185|46=>261|47=>262|48=>263|49=>264|50=>265|57=>307|n=>n,fun|22=>32|24=>3|25=>117|3=>3|39=>196|0=>0|53=>263|55=>265|4=>4|46=>257|45=>256|50=>191|5=>5|9=>9|66=>334|70=>338|76=>361|77=>362|n=>n,fun|n=>n⟩
theorem Tryz.sortFI:Go.Proofs.SlLaysF.n6 S5 Tryz.zqs:={
 mixed:=by kernel_rfl
 f6:=⟨Tryz.f46.name,by decide,Tryz.func46.trans (congrArg some (by kernel_rfl))⟩
 f14:=⟨Tryz.f108.name,by decide,Tryz.func108.trans (congrArg some (by kernel_rfl))⟩
 f15:=Tryz.func109.trans (congrArg some (by kernel_rfl))
 f20:=⟨Tryz.f178.name,by decide,Tryz.func178.trans (congrArg some (by kernel_rfl))⟩
 f21:=⟨Tryz.f179.name,by decide,Tryz.func179.trans (congrArg some (by kernel_rfl))⟩
 f22:=⟨Tryz.f180.name,by decide,Tryz.func180.trans (congrArg some (by kernel_rfl))⟩
 f23:=⟨Tryz.f181.name,by decide,Tryz.func181.trans (congrArg some (by kernel_rfl))⟩
 f24:=⟨Tryz.f182.name,by decide,Tryz.func182.trans (congrArg some (by kernel_rfl))⟩
 f25:=⟨Tryz.f183.name,by decide,Tryz.func183.trans (congrArg some (by kernel_rfl))⟩
 f26:=⟨Tryz.f184.name,by decide,Tryz.func184.trans (congrArg some (by kernel_rfl))⟩
 f27:=⟨Tryz.f185.name,by decide,Tryz.func185.trans (congrArg some (by kernel_rfl))⟩
 f28:=Tryz.func186.trans (congrArg some (by kernel_rfl))
 f29:=Tryz.func187.trans (congrArg some (by kernel_rfl))
 f46:=⟨Tryz.f261.name,by decide,Tryz.func261.trans (congrArg some (by kernel_rfl))⟩
 f47:=Tryz.func262.trans (congrArg some (by kernel_rfl))
 f48:=Tryz.func263.trans (congrArg some (by kernel_rfl))
 f49:=⟨Tryz.f264.name,by decide,Tryz.func264.trans (congrArg some (by kernel_rfl))⟩
 f50:=⟨Tryz.f265.name,by decide,Tryz.func265.trans (congrArg some (by kernel_rfl))⟩
 f57:=⟨Tryz.f307.name,by decide,Tryz.func307.trans (congrArg some (by kernel_rfl))⟩
 t0:=Tryz.underlying0
 a0:=Tryz.isAgg0
 z0:=Tryz.sizeOf0
 v0:=Tryz.zeroValue0
 t3:=Tryz.underlying3
 a3:=Zf
 z3:=YO
 v3:=Tryz.zeroValue3
 t4:=Tryz.underlying4
 a4:=Tryz.isAgg4
 z4:=Tryz.sizeOf4
 v4:=Tryz.zeroValue4
 t5:=Tryz.underlying5
 a5:=Tryz.isAgg5
 z5:=Tryz.sizeOf5
 v5:=Tryz.zeroValue5
 t9:=Tryz.underlying9
 a9:=Tryz.isAgg9
 z9:=Tryz.sizeOf9
 v9:=Tryz.zeroValue9
 t22:=W8
 a22:=Tryz.isAgg32
 z22:=Tryz.sizeOf32
 v22:=Tryz.zeroValue32
 a24:=Zf
 z24:=YO
 t25:=Tryz.underlying117
 a25:=Tryz.isAgg117
 z25:=Tryz.sizeOf117
 v25:=Tryz.zeroValue117
 t39:=Tryz.underlying196
 a39:=Tryz.isAgg196
 z39:=Tryz.sizeOf196
 v39:=Tryz.zeroValue196
 t45:=Tryz.underlying256
 a45:=Tryz.isAgg256
 z45:=Tryz.sizeOf256
 v45:=Tryz.zeroValue256
 t46:=Tryz.underlying257
 a46:=Tryz.isAgg257
 z46:=Tryz.sizeOf257
 v46:=Tryz.zeroValue257
 t50:=Tryz.underlying191
 a50:=Tryz.isAgg191
 z50:=Tryz.sizeOf191
 v50:=Tryz.zeroValue191
 t53:=Tryz.underlying263
 a53:=Tryz.isAgg263
 z53:=Tryz.sizeOf263
 v53:=Tryz.zeroValue263
 t55:=Tryz.underlying265
 a55:=Tryz.isAgg265
 z55:=Tryz.sizeOf265
 v55:=Tryz.zeroValue265
 t66:=Tryz.underlying334
 a66:=Tryz.isAgg334
 z66:=Tryz.sizeOf334
 v66:=Tryz.zeroValue334
 t70:=Tryz.underlying338
 a70:=Tryz.isAgg338
 z70:=Tryz.sizeOf338
 v70:=Tryz.zeroValue338
 t76:=Tryz.underlying361
 a76:=Tryz.isAgg361
 z76:=Tryz.sizeOf361
 v76:=Tryz.zeroValue361
 t77:=Tryz.underlying362
 a77:=Tryz.isAgg362
 z77:=Tryz.sizeOf362
 v77:=Tryz.zeroValue362}
def Tryz.zrX:Go.Shelf.Ren:=⟨fun|20=>48|n=>n,fun|22=>32|3=>3|4=>4|0=>0|n=>n,fun|n=>n⟩
theorem Tryz.compI:Go.Proofs.Lays2.n20 S5 Tryz.zrX:={
 mixed:=by kernel_rfl
 f20:=Tryz.func48.trans (congrArg some (by kernel_rfl))
 t0:=Tryz.underlying0
 a0:=Tryz.isAgg0
 z0:=Tryz.sizeOf0
 v0:=Tryz.zeroValue0
 t3:=Tryz.underlying3
 a3:=Zf
 z3:=YO
 v3:=Tryz.zeroValue3
 t4:=Tryz.underlying4
 a4:=Tryz.isAgg4
 z4:=Tryz.sizeOf4
 v4:=Tryz.zeroValue4
 t22:=W8
 a22:=Tryz.isAgg32
 z22:=Tryz.sizeOf32
 v22:=Tryz.zeroValue32
 i3:=by kernel_rfl}
end Go.Proofs
namespace Go.Vi
set_option maxRecDepth 100000
set_option maxHeartbeats 4000000
open Go.Shelf
variable {b e:Nat}
theorem HG{h:List F2}{l:List Int}(hb:h[b]? = some (.lk (cX l) e 1))(hl:l.length<4611686018427387904)(hne:l≠[]):
  Ev S5 mX 46 [.ref (.lk b e),.p (.v (.func (.func 47) #[] #[]))] h (.Ρ []) (h.set b (.lk (cX (l.mergeSort λx y=>lL (x<=y))) e 1)) :=
 Dn pok Tryz.sortFI (by kernel_rfl) (λx y=>dl x y []) hb hl hne
theorem Lf{h:aT}{l:bV}(hb:h[b]?=G (.lk (cX l) e 1))(hl:l.length<4611686018427387904)(hne:l≠[]):Ev S5 mX 48 (zbn b e) h (mW (.vs b e 0 (Vb l).length Y)) (h.set b (zjd (Vb l++Ti (l.length-(Vb l).length) 0) e)):=HF Tryz.compI hb hl hne
end Go.Vi
open Go Go.Proofs
namespace Go.Vi
set_option maxRecDepth 100000
set_option maxHeartbeats 4000000
variable {H:List F2}{L:bv}{a c e3 en d5 md mn ms n st fI:Int}{e:Exit}{fs:List Int}{h:aT}{i k:Nat}{l:List JZ}{p:oB}{q:γ}{q1 q2 q3 rs:List ZH}{r:Τ}{w:kc}{x1 x3:List (List Dp)}
abbrev lokH(rs:iF)(e:Nat):aT:=[iI (zbn 1 e),.lk (ad (J2 rs)) e 5]
abbrev zfX(a:iF)(b:Nat):bY:=[ab (J2 a),mW (J0 b 0)]
theorem yv{rs qs:iF}(hb:rs.length+qs.length<=3000000000000):(Ev S5 mX 39 (zfX qs 0) (lokH rs 0) (JV []) (lokH (rs++qs) 1)):=Tw (yF (h':=[iI (zbn 1 1),.lk (zkd rs (ZW qs)) 1 5]) (d:=TT []) [((by(simp only[Qa,L8,Bool.true_and,Tm,decide_eq_true_eq,Uw];omega)):(Tq (S2 (λx=>S2 Us x) (J2 qs)) (aL 5)&&L8 (S7 (ad (J2 rs))+S7 (S2 (λx=>S2 Us x) (J2 qs))) 40)=J)]) uU uU
theorem Dq(h:aT):(Ev S5 mX 48 [nq] h (ab []) h):=Tw (Ev.zkv (y0 (d:=nq) [.e] h)) ο ο
abbrev zeC(a:aT):AS:={t:=Bn 53 0 [(0,nq),(1,go 0),(2,go 0),(3,fq 47),(8,go 1)],h:=a,m:=[]}
theorem sfi_i{H:aT}:(CW S5 mX H N (sub Tryz.f178 0) (zeC H) (η 0) (zev 53 H)):=yx zbN [.e]
theorem sfi_cw{H:aT}:CW S5 mX H false (.loop (sub Tryz.f178 0)) (zeC H) (.exit 0) (zev 53 H) :=Ww 0 (λ_=>(zeC H)) (by simp) (λi hi=>absurd hi (V7 i)) sfi_i
theorem Lg{H:aT}:(Ev S5 mX 178 [nq,go 0,go 0,fq 47] H (JV []) H):=by have Pq:=(@sfi_cw (H));exact Tw (yF (h':=H) (d:=TT []) [.s [0,1,2,3,8] Pq]) ο ο
abbrev zc6(a:aT):AS:={t:=Bn 148 0 [(0,nq),(1,go 0),(2,go 0),(3,go 0),(4,fq 47),(10,kr J),(11,kr J)],h:=a,m:=[]}
theorem sfp_i{H:aT}:(CW S5 mX H N (sub Tryz.f108 0) (zc6 H) .ret (zev 148 H)):=yx zbN [.e,.v (@Lg H)]
theorem sfp_cw{H:aT}:CW S5 mX H false (.loop (sub Tryz.f108 0)) (zc6 H) .ret (zev 148 H) :=Ww 0 (λ_=>(zc6 H)) (by simp) (λi hi=>absurd hi (V7 i)) sfp_i
theorem Lh{H:aT}:(Ev S5 mX 108 [nq,go 0,go 0,go 0,fq 47] H (JV []) H):=by have Pq:=(@sfp_cw (H));exact Tw (yF (h':=H) (d:=TT []) [.s [0,1,2,3,4,10,11] Pq]) ο ο
theorem RT(h:aT):(Ev S5 mX 109 [u64 (TB.wrap 0)] h (go 0) h):=y0 [(rfl:Φ (S8 IntKind.u8 (S8 TB 0)) (ByteArray.size {data:=List.toArray (Zg (Zg [0,1,2,2,3,3,3,3,4,4,4,4,4,4,4,4,5,5,5,5,5,5,5,5,5,5,5,5,5,5,5,5,6,6,6,6,6,6,6,6,6,6,6,6,6,6,6,6,6,6,6,6,6,6,6,6,6,6,6,6,6,6,6,6] [7,7,7,7,7,7,7,7,7,7,7,7,7,7,7,7,7,7,7,7,7,7,7,7,7,7,7,7,7,7,7,7,7,7,7,7,7,7,7,7,7,7,7,7,7,7,7,7,7,7,7,7,7,7,7,7,7,7,7,7,7,7,7,7]) (Zg [8,8,8,8,8,8,8,8,8,8,8,8,8,8,8,8,8,8,8,8,8,8,8,8,8,8,8,8,8,8,8,8,8,8,8,8,8,8,8,8,8,8,8,8,8,8,8,8,8,8,8,8,8,8,8,8,8,8,8,8,8,8,8,8] [8,8,8,8,8,8,8,8,8,8,8,8,8,8,8,8,8,8,8,8,8,8,8,8,8,8,8,8,8,8,8,8,8,8,8,8,8,8,8,8,8,8,8,8,8,8,8,8,8,8,8,8,8,8,8,8,8,8,8,8,8,8,8,8]))})=J),.e,.a1 zfF,.e,.e,.e] h
theorem Dr{H:aT}:(Ev S5 mX 46 [nq,fq 47] H (JV []) H):=Tw (yF (h':=H) (d:=TT []) [.v (@RT H),.v (@Lh H)]) ο ο
abbrev zgD(a b:bV):bV:=(a++Ti (b.length-a.length) 0)
theorem Li{l:bV}(hl:l.length<4611686018427387904)(hne:l≠[]):Ev S5 mX 48 (zbn 0 0) [.lk (aq l) 0 1] (ab (aA (Vb l))) [S3]:=by
 have h1:=Lf (h:=[.lk (cX l) 0 1]) (b:=0) (e:=0) (l:=l) rfl hl hne;generalize Vb l=m at h1 ⊢;have h2:=Ev.post (d2:=.p (.sl (List.take m.length (List.drop 0 (aA (zgD m l)))))) (h2:=[S3]) (φ:=[cX (zgD m l)=(aA (zgD m l)).map (·.map .p)]) [δ (zed 0 (aA (zgD m l)))] h1 rfl ⟨vd _,trivial⟩;have e1:List.take m.length (List.drop 0 (aA (zgD m l)))=aA m:=by rw[Xj];unfold aA;try unfold zaQ;rw[Uh];exact List.take_left' F1
 rw[e1] at h2;exact h2
abbrev zdE(a:kc)(b:D):aT:=[iI a.l,iI [nq,go 0,nq],iI [kr N],iI [b],iI [go 0]]
abbrev hA(w:kc):List F2:=[.var w.l,.var [nq,go 0,nq],.var [kr false],.var [nq],.var [go 0]]
abbrev WP(a:oB):bY:=(zhV a (mW (.lk 8 1)))
abbrev dgC(p:oB):bY:=(WP p)
abbrev zhD(a b:bY)(c:List (bY))(d:Nat)(f g:bY):aT:=[iI a,iI [nq,go 0,nq],iI [kr N],iI b,iI [go 0],.lk c d 5,iI f,iI g]
abbrev dgB(w:kc)(rs:List ZH)(e:Nat)(pc:List D)(r:Τ):List F2:=[.var w.l,.var [nq,go 0,nq],.var [kr false],.var [.ref (.lk 5 e)],.var [go 0],.lk (ad (J2 rs)) e 5,.var pc,.var r.l]
abbrev WF:Nat×D:=(zjk 1)
abbrev zat:Nat×D:=(ziy 11)
abbrev zaJ:Nat×D:=(zhA 12 3)
abbrev zaK:Nat×D:=(zhA 13 4)
abbrev zbu:Nat×D:=(15,mW (J0 6 0))
abbrev zbK:Nat×D:=(5,mW (J0 0 0))
abbrev zd0:Nat×D:=(14,.fn (.func 39) [] (zjG 3))
abbrev zd7(a:iN):Nat×D:=(20,ab (a.map Tb))
abbrev zeS:Nat×D:=(82,mW (.lk 8 1))
abbrev diS(w:kc)(fI d5:Int)(l:List JZ)(rs:List ZH)(p:oB)(r:Τ)(L:List (List Dp))(q:γ)(fs:List Int)(n k i:Int):AS :=
 {t:=Bn 167 0 [(3,go fI),(4,go d5),(5,.ref (.ptr 0 0)),(10,.ref (.ptr 1 0)),(11,.ref (.ptr 2 0)),(12,.ref (.ptr 3 0)),(13,.ref (.ptr 4 0)),(14,.fn (.func 39) [] [.ref (.ptr 3 0)]),(15,.ref (.ptr 6 0)),(20,ab (l.map Tb)),(21,go k),(22,.ref (.ptr 9 0)),(23,.ref (.lk 10 0)),(82,.ref (.lk 8 1)),(83,go n),(84,go k),(90,ab (aA q.uR)),(91,go ((aA q.uR).length:Int)),(92,go i)],
  h:=dgB w rs 0 (dgC p) r++[.lk (ad L) 1 6,.var (q.row.map .p),.lk (aq fs) 0 1],m:=[]}
abbrev diE(w:kc)(fI d5:Int)(l:iN)(rs:iF)(p:oB)(r:Τ)(L:bv)(q:γ)(fs:bV)(n k:Int):AS :={t:=Bn 167 0 [(3,go fI),(4,go d5),zbK,WF,zat,zaJ,zaK,zd0,zbu,(zd7 l),(21,go k),(23,mW (.lk 10 0)),zeS,(83,go n),(84,go k)],h:=dgB w rs 0 (dgC p) r++[.lk (ad L) 1 6,iI (zgP q),.lk (aq fs) 0 1],m:=[]}
abbrev zc4(a:bV):List (bY):=S2 (λx=>S2 Us x) (aA a)
theorem HH(m:List Int):S2 (λx=>S2 Us x) (aA m)=aq m:=by simp[aq]
theorem HI(f:Ref->D)(l m:bV):S2 (Tz f) (aq l++(zc4 m))=aq l++(zc4 m):=by grind [HH,bq]
theorem RU{l m:bV}(h:l.length+m.length<=100000000000):(Tq (zc4 m) (aL 1)&&L8 (S7 (aq l)+S7 (zc4 m)) 8)=J:=by
 rw[Tm];constructor;·rw[TW];intro x hx;simp only[List.map_map,List.mem_map,Function.comp] at hx;obtain⟨q,_,rfl⟩:=hx;rfl
 grind [Uw,ef,L8]
abbrev za2:bY:=[mW (.lk 5 0)]
abbrev zhB(a:kc)(b:iF)(c:oB)(d:Τ)(e:bv)(f:γ)(g:F2):aT:=[iI (ZA a),iI [nq,go 0,nq],iI [kr N],iI za2,iI [go 0],.lk (ad (J2 b)) 0 5,iI (WP c),iI (zaM d),.lk (ad e) 1 6,iI (zaf f),g]
noncomputable abbrev tE(w:kc)(rs:iF)(p:oB)(r:Τ)(L:bv)(q:γ)(fs:bV):aT:=(zhB w rs p r L q (.lk (aq fs) 0 1))
abbrev zek:bY:=(zjG 3)
theorem RV{k:Int}{qs:List ZH}{L:List (List Dp)}{gs:List Int}
  (hr:ao (i:Int) (aA q.uR) [vi c] 1) (xD:lL ((i:Int)<((aA q.uR).length:Int))=true) (hw:S6.wrap ((i:Int)+1)=((i+1:Nat):Int))
  (heq:∀h,Ev S5 uS 45 [.agg w.l,go c,go fI,go d5] h (.Ρ [ab (aA gs),ab (J2 qs)]) h)
  (hb:rs.length+qs.length<=3000000000000) (hb2:fs.length+gs.length<=100000000000):(CW S5 uS (hA w) false (sub TN 1) (diS w fI d5 l rs p r L q fs n k i) .normal (diS w fI d5 l (rs++qs) p r L q (fs++gs) n k ((i+1:Nat):Int))):=by
 refine yX {t:=Bn 167 0 [(3,go fI),(4,go d5),(5,.ref (.ptr 0 0)),(10,.ref (.ptr 1 0)),(11,.ref (.ptr 2 0)),(12,.ref (.ptr 3 0)),(13,.ref (.ptr 4 0)),(14,D.fn (Fn.func 39) [] [.ref (.ptr 3 0)]),(15,.ref (.ptr 6 0)),(20,ab (S2 Tb l)),(21,go k),(22,.ref (.ptr 9 0)),(23,.ref (.lk 10 0)),(82,.ref (.lk 8 1)),(83,go n),(84,go k),(90,ab (aA q.uR)),(91,go (↑(S7 (aA q.uR)):Int)),(92,go (S8 S6 ((↑i:Int)+1)))],h:=[.var [ab (S2 Tc w.c),ab w.p,ab (S2 Tj w.s),ab (S2 Ta w.f)],.var [nq,go 0,nq],.var [kr false],.var [.ref (.lk 5 0)],.var [go 0],.lk (ad (J2 (rs++qs))) 0 5,.var [am p.nm,go p.number,go p.υ,go p.ZD,go p.num,go p.den,.ref (.lk 8 1)],.var [go r.st,ab (S2 Tb r.a)],.lk (ad L) 1 6,.var [am q.nm,go q.oA,go q.ZO,kr q.home,ab q.names,ab (aA q.uR)],.lk (aq fs++S2 (λx=>S2 Us x) (aA gs)) 0 1],m:=[]} Tr [.st (.mask [3,4,5,10,11,12,13,14,15,20,21,22,23,82,83,84,90,91,92]),.st (.ren 5 0),.st (.ren 10 0)] [.b xD,.r hr,.v (@heq (tE w rs p r L q fs)),.c ((fX [3,5] (Tp (@yv rs qs hb)) ⟨(by exact aj _ _),trivial⟩ ⟨(by exact aj _ _),trivial⟩):Ev S5 uS 39 [ab (J2 qs),.ref (.ptr 3 0)] (tE w rs p r L q fs) (TT []) [.var (TC w),.var [nq,go 0,nq],.var [kr false],.var [.ref (.lk 5 1)],.var [go 0],.lk (ad (J2 (rs++qs))) 1 5,.var [am p.nm,go p.number,go p.υ,go p.ZD,go p.num,go p.den,.ref (.lk 8 1)],.var [go r.st,ab (S2 Tb r.a)],.lk (ad L) 1 6,.var [am q.nm,go q.oA,go q.ZO,kr q.home,ab q.names,ab (aA q.uR)],.lk (aq fs) 0 1]),(?_:(Tq (S2 (λx=>S2 Us x) (aA gs)) (aL 1)&&L8 (S7 (aq fs)+S7 (S2 (λx=>S2 Us x) (aA gs))) 8)=true),(?_:S2 (Tz (ar 5 1 0)) (ad (J2 (rs++qs)))=ad (J2 (rs++qs))),(?_:S2 (Tz (ar 5 1 0)) (ad L)=ad L),(?_:S2 (Tz (ar 5 1 0)) (aq fs++S2 (λx=>S2 Us x) (aA gs))=aq fs++S2 (λx=>S2 Us x) (aA gs)),(?_:S2 (Tz (ar 10 1 0)) (aq fs++S2 (λx=>S2 Us x) (aA gs))=aq fs++S2 (λx=>S2 Us x) (aA gs)),(?_:S2 (Tz (ar 10 1 0)) (ad (J2 (rs++qs)))=ad (J2 (rs++qs))),(?_:S2 (Tz (ar 10 1 0)) (ad L)=ad L)] (by grind) (by(simp only[hw,diS,dgB,ad,aq,aA,Uh,List.map_map,Function.comp_def];rfl))<;>(first|exact aB _ _|exact HI _ _ _|exact RU hb2)
abbrev zgR:Do:=[δ (τ [3,4,5,10,11,12,13,14,15,20,21,23,82,83,84])]
theorem RX{k:Int}{l:iN}{rs:iF}{fs:bV}(xD:lL ((i:Int)<((aA q.uR).length:Int))=N):(CW S5 uS (hA w) N (sub TN 1) (diS w fI d5 l rs p r L q fs n k i) (η 2) (diE w fI d5 l rs p r L q fs n k)):=yx zgR [.b xD]
def frF(w:kc)(fI d5:Int)(s:iF×bV)(c:Int):iF×bV:=(s.1++(bQ w c fI d5).1,s.2++(bQ w c fI d5).2)
theorem rf{w:kc}{fI d5:Int}(hn:(af w.f d5).length<=1000):∀(cs:bV) (s:iF×bV),(cs.foldl (frF w fI d5) s).1.length<=s.1.length+cs.length*1001001/\(cs.foldl (frF w fI d5) s).2.length<=s.2.length+cs.length*1001
 | [],s=>by simp
 | c::cs,s=>by obtain⟨h1,h2⟩:=rf (fI:=fI) hn cs (frF w fI d5 s c);obtain⟨g1,g2⟩:=lJ (w:=w) (c:=c) (fI:=fI) (d5:=d5) hn;grind [frF,Ue]
theorem RY(hw:w.ok){k:Int}(hn:(af w.f d5).length<=1000){l:iN}{rs:iF}(hq:q.uR.length<=1048576) (hb:rs.length+q.uR.length*1001001<=3000000000000) :CW S5 uS (hA w) false (.loop (sub TN 1)) (diS w fI d5 l rs p r L q [] n k 0) (.exit 2) (diE w fI d5 l (q.uR.foldl (frF w fI d5) (rs,[])).1 p r L q (q.uR.foldl (frF w fI d5) (rs,[])).2 n k):=by
 have key (i:Nat) (hi:i<=q.uR.length):((q.uR.take i).foldl (frF w fI d5) (rs,[])).1.length<=rs.length+i*1001001/\((q.uR.take i).foldl (frF w fI d5) (rs,[])).2.length<=i*1001:=by
  have h1:=rf (fI:=fI) hn (q.uR.take i) (rs,[]);have hlen:(q.uR.take i).length=i:=by rw[VX];omega
  rw[hlen] at h1;simpa using h1
 have h0:=Ww (P:=S5) (Γ:=uS) (h0:=hA w) (rd:=false) (c:=sub TN 1) q.uR.length (λi=>diS w fI d5 l ((q.uR.take i).foldl (frF w fI d5) (rs,[])).1 p r L q ((q.uR.take i).foldl (frF w fI d5) (rs,[])).2 n k (i:Int)) (e:=.exit 2) (by simp) (λi hi=>?_) (RX (by simp));·grind
 ·have hc:q.uR[i]? = some q.uR[i]:=TH hi;have e1:(q.uR.take (i+1)).foldl (frF w fI d5) (rs,[])=frF w fI d5 ((q.uR.take i).foldl (frF w fI d5) (rs,[])) q.uR[i]:=by rw[Wc hi,List.foldl_append,TG,List.foldl_nil]
  obtain⟨k1,k2⟩:=key i (by omega);obtain⟨g1,g2⟩:=lJ (w:=w) (c:=q.uR[i]) (fI:=fI) (d5:=d5) hn;have heq:=yu hw (c:=q.uR[i]) (fI:=fI) (d5:=d5) hn;show CW S5 uS (hA w) false (sub TN 1) (diS w fI d5 l ((q.uR.take i).foldl (frF w fI d5) (rs,[])).1 p r L q ((q.uR.take i).foldl (frF w fI d5) (rs,[])).2 n k (i:Int)) .normal (diS w fI d5 l ((q.uR.take (i+1)).foldl (frF w fI d5) (rs,[])).1 p r L q ((q.uR.take (i+1)).foldl (frF w fI d5) (rs,[])).2 n k ((i+1:Nat):Int));rw[e1];have k3:i*1001001+1001001<=q.uR.length*1001001:=by omega
  generalize (q.uR.take i).foldl (frF w fI d5) (rs,[])=s at *;exact RV (rowAt (row:=λn:Int=>[vi n]) hc rfl) (κ (λn:Int=>[vi n]) hi) (J3 hi (show q.uR.length<=_ by omega)) heq (by omega) (by omega)
theorem tyQ:(fS S5 99,S5.underlying 99,zay S5 115,HU S5 115,zay S5 32)=(G 115,G (.slice 115),G 6,G J,G 1):=Z
abbrev zdH(a b:Nat):D:=(mW (.vp 8 1 a b))
theorem rq_ld(hb:h[8]?=G (.lk (ad L) 1 6))(hk:L[k]?=G q.row):aQ S5 h 115 (zdH k 0)=G (ag q.row):=by
 have h3:=tyQ;simp only[Tk] at h3;have h5:(ad L)[k]?=G (zgP q):=by rw[Vo,hk];rfl
 simp only[aQ,hb,if_true,h5,Xj,cC,h3.2.2.1,h3.2.2.2.1];rfl
abbrev Lj(q:γ)(R:bV):γ:=⟨q.nm,q.oA,q.ZO,q.home,q.names,R⟩
theorem rq_st{R:bV}(hb:h[8]?=G (.lk (ad L) 1 6))(hk:L[k]?=G q.row):aY S5 h 32 (zdH k 5) (ab (aA R))=G (h.set 8 (.lk (ad (L.set k (Lj q R).row)) 1 6)):=by
 have h3:=tyQ;simp only[Tk] at h3;have h5:(ad L)[k]?=G (zgP q):=by rw[Vo,hk];rfl
 have h6:(ad L).set k (bZ (zgP q) 5 [ab (aA R)])=ad (L.set k (Lj q R).row):=by unfold ad;rw[List.map_set];rfl
 simp only[aY,D.cells,h3.2.2.2.2,hb,if_true,h5];show G (h.set 8 (F2.lk ((ad L).set k (bZ (zgP q) 5 [ab (aA R)])) 1 6))=_;rw[h6]
abbrev ziW(a b:Int)(c d:Nat×D)(e:Int)(f:D):bY:=Bn 167 0 [(3,go a),(4,go b),zbK,WF,zat,zaJ,zaK,c,zbu,d,zeS,(83,go e),(84,f)]
abbrev doS(w:kc)(fI d5:Int)(l:iN)(rs:iF)(p:oB)(r:Τ)(L:bv)(n k:Int):AS :={t:=(ziW fI d5 zd0 (zd7 l) n (go k)),h:=dgB w rs 0 (dgC p) r++[.lk (ad L) 1 6],m:=[]}
noncomputable abbrev tG(w:kc)(rs2:iF)(p:oB)(r:Τ)(L:bv)(q:γ)(fs:bV):aT:=(zhB w rs2 p r L q (.lk (aq (UF fs λx y=>lL (x<=y))) 0 1))
noncomputable abbrev Ds(w:kc)(rs2:iF)(p:oB)(r:Τ)(L:bv)(q:γ)(fs:bV):aT:=(zhB w rs2 p r L q (.lk (aq fs) 0 1))
noncomputable abbrev tH(w:kc)(rs2:iF)(p:oB)(r:Τ)(L:bv)(q:γ):aT:=(zhB w rs2 p r L q (S3))
abbrev zhv(a b:bY)(c:List (bY))(d e:bY)(f:F2):aT:=[iI a,iI b,iI [kr N],iI za2,iI [go 0],.lk c 0 5,iI d,iI e,f]
theorem RZ{rs2:List ZH}{L:List (List Dp)}{R:List Int}
  (hk:k<L.length) (hq:L[k]? = some q.row) (xD:lL ((k:Int)<n)=true) (hw:S6.wrap ((k:Int)+1)=((k+1:Nat):Int))
  (Χ:CW S5 uS (hA w) false (.loop (sub TN 1)) (diS w fI d5 l rs p r L q [] n k 0) (.exit 2) (diE w fI d5 l rs2 p r L q fs n k))
  (hso:Ev S5 mX 46 [.ref (.lk 0 0),fq 47] [.lk (aq fs) 0 1] (.Ρ []) [.lk (aq (fs.mergeSort λx y=>lL (x<=y))) 0 1])
  (hco:Ev S5 mX 48 [.ref (.lk 0 0)] [.lk (aq (fs.mergeSort λx y=>lL (x<=y))) 0 1] (ab (aA R)) [.ν]):(CW S5 uS (hA w) false (sub TN 0) (doS w fI d5 l rs p r L n k) .normal (doS w fI d5 l rs2 p r (L.set k (Lj q R).row) n ((k+1:Nat):Int))):=by
 have Pq:=(@Χ)
 let v0:List D:=[go r.st,ab (S2 Tb r.a)]
 let v1:=List.set L k (Ts (Lj q R))
 refine yX {t:=Bn 167 0 [(3,go fI),(4,go d5),(5,.ref (.ptr 0 0)),(10,.ref (.ptr 1 0)),(11,.ref (.ptr 2 0)),(12,.ref (.ptr 3 0)),(13,.ref (.ptr 4 0)),(14,D.fn (Fn.func 39) [] [.ref (.ptr 3 0)]),(15,.ref (.ptr 6 0)),(20,ab (S2 Tb l)),(82,.ref (.lk 8 1)),(83,go n),(84,go (S8 S6 ((↑k:Int)+1)))],h:=[.var [ab (S2 Tc w.c),ab w.p,ab (S2 Tj w.s),ab (S2 Ta w.f)],.var [nq,go 0,nq],.var [kr false],.var [.ref (.lk 5 0)],.var [go 0],.lk (ad (J2 rs2)) 0 5,.var [am p.nm,go p.number,go p.υ,go p.ZD,go p.num,go p.den,.ref (.lk 8 1)],.var v0,.lk (ad v1) 1 6],m:=[]} Tr [.st (.mask [3,4,5,10,11,12,13,14,15,20,82,83,84]),.st (.Μ 9)] [.b xD,((by subst v0 v1;(simp[Φ];omega)):@Eq (Option (Bool×D)) (some (Φ (↑k:Int) (S7 (ad L)),.ref (.vp 8 1 (S9 (↑k:Int)) 0))) (some (true,D.ref (.vp 8 1 k 0)))),(?_:@Eq (Option D) (aQ S5 [.var (TC w),.var [nq,go 0,nq],.var [kr false],.var [.ref (.lk 5 0)],.var [go 0],.lk (ad (J2 rs)) 0 5,.var [am p.nm,go p.number,go p.υ,go p.ZD,go p.num,go p.den,.ref (.lk 8 1)],.var v0,.lk (ad L) 1 6] 115 (.ref (.vp 8 1 k 0))) (some (D.agg [am q.nm,go q.oA,go q.ZO,kr q.home,ab q.names,ab (aA q.uR)]))),.a1 (.ov 87 (.ref (.vp 8 1 k 0))),.a1 (.ov 88 (ag (Ts q))),.n 2,.o (.zpx 23 1),.s [3,4,5,10,11,12,13,14,15,20,21,22,23,82,83,84,90,91,92] Pq,.c ((fX [10] (Tp (@hso)) ⟨(by subst v0 v1;exact bq _ _),trivial⟩ ⟨(by subst v0 v1;exact bq _ _),trivial⟩):Ev S5 uS 46 [.ref (.lk 10 0),fq 47] (Ds w rs2 p r L q fs) (TT []) (tG w rs2 p r L q fs)),.c ((fX [10] (Tp (@hco)) ⟨(by subst v0 v1;exact bq _ _),trivial⟩ trivial):Ev S5 uS 48 [.ref (.lk 10 0)] (tG w rs2 p r L q fs) (ab (aA R)) (tH w rs2 p r L q)),((by subst v0 v1;(simp[Φ];omega)):@Eq (Option (Bool×D)) (some (Φ (↑k:Int) (S7 (ad L)),.ref (.vp 8 1 (S9 (↑k:Int)) 0))) (some (true,D.ref (.vp 8 1 k 0)))),po (some (.ref (.vp 8 1 k 5))),(?_:@Eq (Option (List F2)) (aY S5 (tH w rs2 p r L q) 32 (.ref (.vp 8 1 k 5)) (ab (aA R))) (some [.var (TC w),.var [nq,go 0,nq],.var [kr false],.var [.ref (.lk 5 0)],.var [go 0],.lk (ad (J2 rs2)) 0 5,.var [am p.nm,go p.number,go p.υ,go p.ZD,go p.num,go p.den,.ref (.lk 8 1)],.var v0,.lk (ad v1) 1 6,.var [am q.nm,go q.oA,go q.ZO,kr q.home,ab q.names,ab (aA q.uR)],.ν])),pe (.ref (.ptr 6 6)),pe (.ref (.ptr 6 6)),po (some (.ref (.lk 8 1))),po (some (.ref (.lk 8 1))),(?_:Φ (↑k:Int) (S7 (ad L))=true),(?_:(.ref (.vp 8 1 (S9 (↑k:Int)) 0):D)=.ref (.vp 8 1 k 0)),pe (.ref (.vp 8 1 k 5)),bi 9 (.var (TC w)),bi 9 (.var [nq,go 0,nq]),bi 9 (.var [kr false]),bi 9 (.var [.ref (.lk 5 0)]),bi 9 (.var [go 0]),(?_:Tl 9 (.lk (ad (J2 rs2)) 0 5)=true),bi 9 (.var [am p.nm,go p.number,go p.υ,go p.ZD,go p.num,go p.den,.ref (.lk 8 1)]),bi 9 (.var v0),(?_:Tl 9 (.lk (ad v1) 1 6)=true),.a1 (.ov 118 (.ref (.vp 8 1 k 0))),.a1 (.ov 119 (.ref (.vp 8 1 k 5))),.a1 (.oh 10119 D.any (dgB w rs2 0 (dgC p) r++[.lk (ad v1) 1 6,.var (S2 Us (Ts q)),.ν]))] (by subst v0 v1;grind) (by subst v0 v1;(simp only[hw]<;>rfl))<;>subst v0 v1<;>(first|rfl|exact rq_ld rfl hq|exact rq_st rfl hq|exact aD _ _|(simp[Φ];omega))
abbrev dzS(w:kc)(fI d5:Int)(l:iN)(rs:iF)(p:oB)(r:Τ)(L:bv)(q:γ)(n k:Int):AS :={t:=Bn 167 0 [(3,go fI),(4,go d5),zbK,WF,zat,zaJ,zaK,zd0,zbu,(zd7 l),(21,go k),(23,nq),zeS,(83,go n),(84,go k),(90,ab (aA q.uR)),(91,(zic (aA q.uR))),(92,go 0)],h:=dgB w rs 0 (dgC p) r++[.lk (ad L) 1 6,iI (zgP q)],m:=[]}
abbrev dzE(w:kc)(fI d5:Int)(l:iN)(rs:iF)(p:oB)(r:Τ)(L:bv)(q:γ)(n k:Int):AS :={t:=Bn 167 0 [(3,go fI),(4,go d5),zbK,WF,zat,zaJ,zaK,zd0,zbu,(zd7 l),(21,go k),(23,nq),zeS,(83,go n),(84,go k)],h:=dgB w rs 0 (dgC p) r++[.lk (ad L) 1 6,iI (zgP q)],m:=[]}
theorem R6{k:Int}{l:iN}{rs:iF}(xD:lL ((0:Int)<((aA q.uR).length:Int))=N):(CW S5 uS (hA w) N (sub TN 1) (dzS w fI d5 l rs p r L q n k) (η 2) (dzE w fI d5 l rs p r L q n k)):=yx zgR [.b xD]
noncomputable abbrev j4(w:kc)(rs:iF)(p:oB)(r:Τ)(L:bv)(q:γ):aT:=[iI (ZA w),iI [nq,go 0,nq],iI [kr N],iI za2,iI [go 0],.lk (ad (J2 rs)) 0 5,iI (WP p),iI (zaM r),.lk (ad L) 1 6,iI (zaf q)]
theorem Lk{L:List (List Dp)}
  (hk:k<L.length) (hq:L[k]? = some q.row) (xD:lL ((k:Int)<n)=true) (hw:S6.wrap ((k:Int)+1)=((k+1:Nat):Int))
  (Χ:CW S5 uS (hA w) false (.loop (sub TN 1)) (dzS w fI d5 l rs p r L q n k) (.exit 2) (dzE w fI d5 l rs p r L q n k)):(CW S5 uS (hA w) false (sub TN 0) (doS w fI d5 l rs p r L n k) .normal (doS w fI d5 l rs p r (L.set k (Lj q []).row) n ((k+1:Nat):Int))):=by
 have Pq:=(@Χ)
 let v0:List D:=[go r.st,ab (S2 Tb r.a)]
 let v1:=List.set L k (Ts (Lj q []))
 refine yX {t:=Bn 167 0 [(3,go fI),(4,go d5),(5,.ref (.ptr 0 0)),(10,.ref (.ptr 1 0)),(11,.ref (.ptr 2 0)),(12,.ref (.ptr 3 0)),(13,.ref (.ptr 4 0)),(14,D.fn (Fn.func 39) [] [.ref (.ptr 3 0)]),(15,.ref (.ptr 6 0)),(20,ab (S2 Tb l)),(82,.ref (.lk 8 1)),(83,go n),(84,go (S8 S6 ((↑k:Int)+1)))],h:=[.var [ab (S2 Tc w.c),ab w.p,ab (S2 Tj w.s),ab (S2 Ta w.f)],.var [nq,go 0,nq],.var [kr false],.var [.ref (.lk 5 0)],.var [go 0],.lk (ad (J2 rs)) 0 5,.var [am p.nm,go p.number,go p.υ,go p.ZD,go p.num,go p.den,.ref (.lk 8 1)],.var v0,.lk (ad v1) 1 6],m:=[]} Tr [.st (.mask [3,4,5,10,11,12,13,14,15,20,82,83,84]),.st (.Μ 9)] [.b xD,((by subst v0 v1;(simp[Φ];omega)):@Eq (Option (Bool×D)) (some (Φ (↑k:Int) (S7 (ad L)),.ref (.vp 8 1 (S9 (↑k:Int)) 0))) (some (true,D.ref (.vp 8 1 k 0)))),(?_:@Eq (Option D) (aQ S5 [.var (TC w),.var [nq,go 0,nq],.var [kr false],.var [.ref (.lk 5 0)],.var [go 0],.lk (ad (J2 rs)) 0 5,.var [am p.nm,go p.number,go p.υ,go p.ZD,go p.num,go p.den,.ref (.lk 8 1)],.var v0,.lk (ad L) 1 6] 115 (.ref (.vp 8 1 k 0))) (some (D.agg [am q.nm,go q.oA,go q.ZO,kr q.home,ab q.names,ab (aA q.uR)]))),.a1 (.ov 87 (.ref (.vp 8 1 k 0))),.a1 (.ov 88 (ag (Ts q))),.s [3,4,5,10,11,12,13,14,15,20,21,23,82,83,84,90,91,92] Pq,.v (Tp (Γ':=uS) (@Dr (j4 w rs p r L q))),.v (Tp (Γ':=uS) (@Dq (j4 w rs p r L q))),((by subst v0 v1;(simp[Φ];omega)):@Eq (Option (Bool×D)) (some (Φ (↑k:Int) (S7 (ad L)),.ref (.vp 8 1 (S9 (↑k:Int)) 0))) (some (true,D.ref (.vp 8 1 k 0)))),po (some (.ref (.vp 8 1 k 5))),(?_:@Eq (Option (List F2)) (aY S5 (j4 w rs p r L q) 32 (.ref (.vp 8 1 k 5)) (ab [])) (some [.var (TC w),.var [nq,go 0,nq],.var [kr false],.var [.ref (.lk 5 0)],.var [go 0],.lk (ad (J2 rs)) 0 5,.var [am p.nm,go p.number,go p.υ,go p.ZD,go p.num,go p.den,.ref (.lk 8 1)],.var v0,.lk (ad v1) 1 6,.var [am q.nm,go q.oA,go q.ZO,kr q.home,ab q.names,ab (aA q.uR)]])),pe (.ref (.ptr 6 6)),pe (.ref (.ptr 6 6)),po (some (.ref (.lk 8 1))),po (some (.ref (.lk 8 1))),(?_:Φ (↑k:Int) (S7 (ad L))=true),(?_:(.ref (.vp 8 1 (S9 (↑k:Int)) 0):D)=.ref (.vp 8 1 k 0)),pe (.ref (.vp 8 1 k 5)),bi 9 (.var (TC w)),bi 9 (.var [nq,go 0,nq]),bi 9 (.var [kr false]),bi 9 (.var [.ref (.lk 5 0)]),bi 9 (.var [go 0]),(?_:Tl 9 (.lk (ad (J2 rs)) 0 5)=true),bi 9 (.var [am p.nm,go p.number,go p.υ,go p.ZD,go p.num,go p.den,.ref (.lk 8 1)]),bi 9 (.var v0),(?_:Tl 9 (.lk (ad v1) 1 6)=true),.a1 (.ov 118 (.ref (.vp 8 1 k 0))),.a1 (.ov 119 (.ref (.vp 8 1 k 5))),.a1 (.oh 10119 D.any (dgB w rs 0 (dgC p) r++[.lk (ad v1) 1 6,.var (S2 Us (Ts q))]))] (by subst v0 v1;grind) (by subst v0 v1;(simp only[hw]<;>rfl))<;>subst v0 v1<;>(first|rfl|exact rq_ld rfl hq|exact rq_st (R:=[]) rfl hq|exact aD _ _|(simp[Φ];omega))
abbrev ziJ(a:iN):bY:=Bn 167 0 [WF,zat,zaJ,zaK,zbu,(zd7 a)]
theorem R7{l:iN}{rs:iF}(xD:lL ((k:Int)<n)=N):(CW S5 uS (hA w) N (sub TN 0) (doS w fI d5 l rs p r L n k) (η 0) {t:=(ziJ l),h:=dgB w rs 0 (dgC p) r++[.lk (ad L) 1 6],m:=[]}):=yx [δ (τ [10,11,12,13,15,20])] [.b xD]
def R8(w:kc)(fI d5:Int)(q:γ):bV:=match q.uR with
 | []=>[]
 |_=>Vb (((q.uR.foldl (frF w fI d5) ([],[])).2).mergeSort λx y=>lL (x<=y))
def jE(w:kc)(fI d5:Int)(q:γ):iF:=(q.uR.foldl (frF w fI d5) ([],[])).1
theorem iU:∀(cs:bV) (s:iF×bV),cs.foldl (frF w fI d5) s=(s.1++(cs.foldl (frF w fI d5) ([],[])).1,s.2++(cs.foldl (frF w fI d5) ([],[])).2)
 | [],s=>F1
 |c::cs,s=>by rw[TG,iU cs,TG,iU cs (frF w fI d5 ([],[]) c)];simp[frF]
theorem eqN_ge(s:RL):s.2.length<=(eqN w fI d5 a s n).2.length:=by grind [eqN]
theorem yw:∀(ms:bV) (s:RL),s.2.length<=(ms.foldl (eqN w fI d5 a) s).2.length
 | [],_=>T0 _
 |n::ms,s=>Vj (eqN_ge s) (yw ms _)
theorem B2{ns:bV}:∀(f i:Nat) (s:RL),s.2.length<=(zge w fI d5 ns f i s).2.length
 |0,_,_=>T0 _
 |f+1,i,s=>by
  unfold zge;split;·exact Vj (yw ns s) (B2 f (i+1) _)
  grind
theorem Ll:1<=(bQ w c fI d5).2.length:=by
 unfold bQ;split;·simp
 ·simp[DE];exact B2 _ _ ([rdN],[c])
theorem B3(hn:(af w.f d5).length<=1000)(q:γ):(jE w fI d5 q).length<=q.uR.length*1001001:=by have:=(rf (fI:=fI) hn q.uR ([],[])).1;grind [jE]
def nM(w:kc)(fI d5:Int)(q:γ):γ:=Lj q (R8 w fI d5 q)
abbrev doE(w:kc)(l:iN)(rs:iF)(p:oB)(r:Τ)(L:bv):AS :={t:=(ziJ l),h:=dgB w rs 0 (dgC p) r++[.lk (ad L) 1 6],m:=[]}
theorem R9(hw:w.ok)(hn:(af w.f d5).length<=1000){l:iN}{rs:iF}(hf:q.uR.length<=1048576)(hb:rs.length+q.uR.length*1001001<=3000000000000)(hq:L[k]?=G q.row)(xD:lL ((k:Int)<n)=J)(hw2:S6.wrap ((k:Int)+1)=((k+1:Nat):Int)) :CW S5 uS (hA w) N (sub TN 0) (doS w fI d5 l rs p r L n k) NO (doS w fI d5 l (rs++jE w fI d5 q) p r (L.set k (nM w fI d5 q).row) n ((k+1:Nat):Int)):=by
 have hk:=(Td.1 hq).1;cases hc:q.uR with
 |nil=>
  have e1:jE w fI d5 q=[]:=by unfold jE;rw[hc];rfl
  have e2:nM w fI d5 q=Lj q []:=by unfold nM R8;rw[hc]
  have hz:lL ((0:Int)<((aA q.uR).length:Int))=N:=by rw[hc];rfl
  rw[e1,e2,List.append_nil];refine Lk hk hq xD hw2 ?_;exact Ww (P:=S5) (Γ:=uS) (h0:=hA w) (rd:=N) (c:=sub TN 1) 0 (λ_=>dzS w fI d5 l rs p r L q n k) F1 (λi hi=>absurd hi (V7 i)) (R6 hz)
 |cons c cs=>
  have Χ:=RY hw (fI:=fI) (n:=n) (k:=(k:Int)) hn (l:=l) (rs:=rs) (p:=p) (r:=r) (L:=L) hf hb;have e0:=iU (w:=w) (fI:=fI) (d5:=d5) q.uR (rs,[]);rw[e0] at Χ;have e1:(q.uR.foldl (frF w fI d5) ([],[])).1=jE w fI d5 q:=rfl;rw[e1] at Χ;simp at Χ;have hlen:=(rf (fI:=fI) hn q.uR ([],[])).2;have zmv:1<=(q.uR.foldl (frF w fI d5) ([],[])).2.length:=by rw[hc,TG,iU];simp only[List.length_append,frF,List.nil_append];have:=Ll (w:=w) (c:=c) (fI:=fI) (d5:=d5);omega
  have e2:nM w fI d5 q=Lj q (Vb (zef ((q.uR.foldl (frF w fI d5) ([],[])).2))):=by unfold nM R8;rw[hc]
  rw[e2];generalize (q.uR.foldl (frF w fI d5) ([],[])).2=fs at Χ hlen zmv ⊢;have hl2:fs.length<4611686018427387904:=by simp only[VF] at hlen;omega
  have hso:=HG (h:=[.lk (cX fs) 0 1]) (b:=0) (e:=0) (l:=fs) rfl hl2 (λh=>uU);have hlm:(zef fs).length=fs.length:=XN _;exact RZ hk hq xD hw2 Χ hso (Li (l:=(zef fs)) tj (λh=>uU))
theorem Sa(hw:w.ok)(hn:(af w.f d5).length<=1000)
  (hs:ah p.reqs) (hf:∀q∈p.reqs,q.uR.length<=1048576) (hb:rs.length+(p.reqs.map λq=>q.uR.length).sum*1001001<=3000000000000) :
  CW S5 uS (hA w) false (.loop (sub TN 0)) (doS w fI d5 l rs p r (p.reqs.map Ts) (p.reqs.length:Int) 0) (.exit 0) (doE w l (rs++(p.reqs.map (jE w fI d5)).flatten) p r ((p.reqs.map (nM w fI d5)).map Ts)):=by
 have hQ:∀(l:List γ),((l.map (jE w fI d5)).flatten).length<=(l.map λq=>q.uR.length).sum*1001001:=by
  intro l
  induction l with
  | nil=>simp
  | cons q l ih =>
   have:=B3 (fI:=fI) hn q
   grind
 have hT (k:Nat) (hk:k<p.reqs.length):((p.reqs.take k).map λq=>q.uR.length).sum+(p.reqs[k]).uR.length<=(p.reqs.map λq=>q.uR.length).sum:=by
  conv=>rhs;rw[<-List.take_append_drop k p.reqs,Uh,List.sum_append,Yw hk,U5,List.sum_cons]
  omega
 have h0:=Ww (P:=S5) (Γ:=uS) (h0:=hA w) (rd:=false) (c:=sub TN 0) p.reqs.length (λk=>doS w fI d5 l (rs++((p.reqs.take k).map (jE w fI d5)).flatten) p r (((p.reqs.take k).map (nM w fI d5)++p.reqs.drop k).map Ts) (p.reqs.length:Int) (k:Int)) (e:=.exit 0) (by simp) (λk hk=>?_) (R7 (by simp))
 ·grind
 ·have hq:p.reqs[k]? = some p.reqs[k]:=TH hk
  have hlk:((p.reqs.take k).map (nM w fI d5)).length=k:=by rw[Uw,VX];omega
  have e1:((p.reqs.take (k+1)).map (jE w fI d5)).flatten=((p.reqs.take k).map (jE w fI d5)).flatten++jE w fI d5 p.reqs[k]:=by
   rw[Wc hk,Uh,List.flatten_append];simp
  have e3:((p.reqs.take k).map (nM w fI d5)++p.reqs.drop k).map Ts=((p.reqs.take k).map (nM w fI d5)).map Ts++(p.reqs[k]).row::(p.reqs.drop (k+1)).map Ts:=by
   rw[Yw hk,Uh,U5]
  have hLk:(((p.reqs.take k).map (nM w fI d5)++p.reqs.drop k).map Ts)[k]? = some (p.reqs[k]).row:=by
   rw[e3,T8 (by grind),Uw,hlk,Nat.sub_self];rfl
  have e2:(((p.reqs.take k).map (nM w fI d5)++p.reqs.drop k).map Ts).set k (nM w fI d5 p.reqs[k]).row=((p.reqs.take (k+1)).map (nM w fI d5)++p.reqs.drop (k+1)).map Ts:=by
   rw[e3,List.set_append_right _ _ (by grind),Uw,hlk,Nat.sub_self,List.set_cons_zero,Wc hk]
   simp only[Uh,WV,U5,List.map_nil,List.cons_append,List.nil_append]
  have hb1:=hQ (p.reqs.take k)
  have hb2:=hT k hk
  have hb3:=Nat.mul_le_mul_right 1001001 hb2
  rw[Nat.add_mul] at hb3
  have hst:=R9 hw (fI:=fI) (n:=(p.reqs.length:Int)) hn (l:=l) (rs:=rs++((p.reqs.take k).map (jE w fI d5)).flatten) (p:=p) (r:=r) (hf _ (List.mem_of_getElem? hq)) (by grind) hLk (by simp;omega) (J3 hk hs)
  grind
theorem cl_ct:(CW S5 mX [] N (cR (cL (cR (al Vq)))) {t:=(ziY [] J),h:=[],m:=[]} .ret {t:=Bn 8 0 [(2,nq)],h:=[],m:=[]}):=yx (zeI 2) [.e]
theorem HJ{qs:iF}(hb:qs.length<=3000000000000):Ev S5 mX 39 (zfX qs 0) [iI (zbn 1 0),.lk [] 0 5] (JV []) [iI (zbn 1 1),.lk (ad (J2 qs)) 1 5]:=yv (rs:=[]) (by simpa using hb)
abbrev dgO:bY:=Bn 167 0 [WF,zat,zaJ,zaK]
abbrev clo:D:=.fn (.func 39) [] zek
abbrev sgA(w:kc)(st n fI d5:Int):AS:={t:=Bn 167 0 [(1,go st),(2,go n),(3,go fI),(4,go d5),zbK,WF,zat,zaJ,zaK],h:=(zdE w nq),m:=[]}
abbrev sgB(w:kc)(fI d5:Int)(q1 q2:iF)(p:oB)(r:Τ)(e1:Int):AS:={t:=Bn 167 0 [(3,go fI),(4,go d5),zbK,WF,zat,zaJ,zaK,(14,clo),zbu,(16,ab (J2 q2)),(zhA 18 7),(19,go e1)],h:=dgB w q1 0 p.l r,m:=[]}
abbrev zhM(a b:bY)(c:List (bY))(d:Nat)(e:oB):aT:=[iI a,iI [nq,go 0,nq],iI [kr N],iI b,iI [go 0],.lk c d 5,iI (ZI e)]
noncomputable abbrev Sb(w:kc)(p:oB)(q1:iF):aT:=(zhM (ZA w) za2 (ad (J2 q1)) 0 p)
abbrev ziV(a:kc):aT:=[iI (ZA a),iI [nq,go 0,nq],iI [kr N],iI za2,iI [go 0],.lk [] 0 5]
noncomputable abbrev Sc(w:kc):aT:=(ziV w)
abbrev zbH(a:aT):AS:={t:=dgO,h:=a,m:=[]}
abbrev zel:bY:=[mW (.lk 5 1)]
theorem dg_A{e1:Int}(hb:q1.length<=1000000)
  (hp:∀h,Ev S5 uS 40 [.agg w.l,go n,go fI,go d5] h (.Ρ [.agg p.l,ab (J2 q1),kr true]) h)
  (hr:∀h,Ev S5 uS 41 [.agg w.l,go st,go fI,go d5] h (.Ρ [.agg r.l,ab (J2 q2),go e1]) h)
  (ht:CW S5 uS (hA w) false (be (al TN) 8) (sgB w fI d5 q1 q2 p r e1) e {t:=dgO,h:=H,m:=[]}):(CW S5 uS (hA w) false (cR (cR (al TN))) (sgA w st n fI d5) e {t:=dgO,h:=H,m:=[]}):=by
 have Pq:=(@ht)
 refine yx [] [.o (.zjT 3 0 5),.v (@hp (Sc w)),.c ((fX [3,5] (Tp (@HJ q1 (by omega))) ⟨?_,trivial⟩ ⟨?_,trivial⟩):Ev S5 uS 39 [ab (J2 q1),.ref (.ptr 3 0)] [.var (TC w),.var [nq,go 0,nq],.var [kr false],.var [.ref (.lk 5 0)],.var [go 0],.lk [] 0 5,.var [am p.nm,go p.number,go p.υ,go p.ZD,go p.num,go p.den,ab (S2 Ts p.reqs)]] (TT []) [.var (TC w),.var [nq,go 0,nq],.var [kr false],.var [.ref (.lk 5 1)],.var [go 0],.lk (ad (J2 q1)) 1 5,.var [am p.nm,go p.number,go p.υ,go p.ZD,go p.num,go p.den,ab (S2 Ts p.reqs)]]),((by exact aB _ _):S2 (Tz (ar 5 1 0)) (ad (J2 q1))=ad (J2 q1)),.e,.o (.ren 5 0),.v (@hr (Sb w p q1)),Pq,.a1 (.zlq [3,4,5,10,11,12,13,14,15,16,18,19] e {t:=Bn 167 0 [(10,.ref (.ptr 1 0)),(11,.ref (.ptr 2 0)),(12,.ref (.ptr 3 0)),(13,.ref (.ptr 4 0))],h:=H})]<;>(first|rfl|exact aj _ _)
abbrev sgB9(w:kc)(fI d5:Int)(q1 q2:iF)(p:oB)(r:Τ):AS:={t:=Bn 167 0 [(3,go fI),(4,go d5),zbK,WF,zat,zaJ,zaK,(14,clo),zbu,(16,ab (J2 q2)),(zhA 18 7)],h:=dgB w q1 0 p.l r,m:=[]}
abbrev sgC(w:kc)(fI d5:Int)(rs q3:iF)(p:oB)(r:Τ)(l:iN)(e2:Int):AS:={t:=Bn 167 0 [(3,go fI),(4,go d5),zbK,WF,zat,zaJ,zaK,(14,clo),zbu,(16,ab (J2 q3)),(19,go e2),(zd7 l)],h:=dgB w rs 0 p.l r,m:=[]}
noncomputable abbrev Sd(w:kc)(p:oB)(r:Τ)(q1:iF)(q2:iF):aT:=(zhD (ZA w) za2 (zct q1 q2) 0 (ZI p) (zaM r))
abbrev zhq(a:kc)(b:bY)(c:iF)(d:bY)(e:Τ):aT:=[iI (ZA a),iI b,iI [kr N],iI za2,iI [go 0],.lk (ad (J2 c)) 0 5,iI d,iI (zaM e)]
noncomputable abbrev Se(w:kc)(p:oB)(r:Τ)(q1:iF):aT:=(zhq w [nq,go 0,nq] q1 (ZI p) r)
theorem dg_B{e2:Int}(hb:q1.length+q2.length<=3000000000000)
  (hc:∀h,Ev S5 uS 43 [.agg w.l,.agg r.l,go fI,go d5] h (.Ρ [ab (l.map Tb),ab (J2 q3),go e2]) h)
  (ht:CW S5 uS (hA w) false (be (al TN) 11) (sgC w fI d5 (q1++q2) q3 p r l e2) e {t:=dgO,h:=H,m:=[]}):(CW S5 uS (hA w) false (be (al TN) 9) (sgB9 w fI d5 q1 q2 p r) e {t:=dgO,h:=H,m:=[]}):=by
 have Pq:=(@ht)
 refine yx [] [.c ((fX [3,5] (Tp (@yv q1 q2 hb)) ⟨?_,trivial⟩ ⟨?_,trivial⟩):Ev S5 uS 39 [ab (J2 q2),.ref (.ptr 3 0)] (Se w p r q1) (TT []) [.var (TC w),.var [nq,go 0,nq],.var [kr false],.var [.ref (.lk 5 1)],.var [go 0],.lk (ad (J2 (q1++q2))) 1 5,.var [am p.nm,go p.number,go p.υ,go p.ZD,go p.num,go p.den,ab (S2 Ts p.reqs)],.var [go r.st,ab (S2 Tb r.a)]]),((by exact aB _ _):S2 (Tz (ar 5 1 0)) (ad (J2 (q1++q2)))=ad (J2 (q1++q2))),.o (.ren 5 0),.v (@hc (Sd w p r q1 q2)),Pq,.a1 (.zlq [3,4,5,10,11,12,13,14,15,16,19,20] e {t:=Bn 167 0 [(10,.ref (.ptr 1 0)),(11,.ref (.ptr 2 0)),(12,.ref (.ptr 3 0)),(13,.ref (.ptr 4 0))],h:=H})]<;>(exact aj _ _)
abbrev Sf(w:kc)(fI d5:Int)(rs q3:iF)(p:oB)(r:Τ)(l:iN):AS:={t:=Bn 167 0 [(3,go fI),(4,go d5),zbK,WF,zat,zaJ,zaK,(14,clo),zbu,(16,ab (J2 q3)),(zd7 l)],h:=dgB w rs 0 p.l r,m:=[]}
abbrev zdY(a:bv)(b:Int)(c:bv):bY:=[ab a,go b,ab c]
abbrev ML(w:kc)(rs:iF)(x1 x3:bv)(ms:Int)(p:oB)(r:Τ):aT:=[iI w.l,iI (zdY x1 ms x3),iI [kr N],iI za2,iI [go 0],.lk (ad (J2 rs)) 0 5,iI p.l,iI r.l]
abbrev sgD(w:kc)(rs:iF)(x1 x3:bv)(ms:Int)(p:oB)(r:Τ)(l:iN)(e3:Int):AS:={t:=Bn 167 0 [WF,zat,zaJ,zaK,zbu,(19,go e3),(zd7 l)],h:=ML w rs x1 x3 ms p r,m:=[]}
abbrev zdJ(a b c:iF):List (bY):=(ad (J2 (a++b++c)))
noncomputable abbrev Sg(w:kc)(p:oB)(Q:Or)(r:Τ)(rs:iF)(q3:iF)(q4:iF):aT:=[iI (ZA w),iI [nq,go 0,nq],iI [kr N],iI za2,iI [go 0],.lk (zdJ rs q3 q4) 0 5,iI (ZN p (S2 Ts Q)),iI (zaM r)]
noncomputable abbrev Sh(w:kc)(p:oB)(r:Τ)(rs:iF):aT:=(zhq w [nq,go 0,nq] rs (ZI p) r)
theorem dg_C{Q:List γ}{q4:List ZH}(hb:rs.length+q3.length<=3000000000000)
  (hcl:Ev S5 mX 44 [ab (p.reqs.map Ts)] [] (.ref (.lk 0 1)) [.lk (ad (p.reqs.map Ts)) 1 6])
  (hl:CW S5 uS (hA w) false (.loop (sub TN 0)) (doS w fI d5 l (rs++q3) p r (p.reqs.map Ts) ((ad (p.reqs.map Ts)).length:Int) 0) (.exit 0) (doE w l (rs++q3++q4) p r (Q.map Ts)))
  (ha:∀h,Ev S5 mX 49 [.agg (oB.l ⟨p.nm,p.number,p.υ,p.ZD,p.num,p.den,Q⟩),ab (l.map Tb)] h (.Ρ [.agg [ab x1,go ms,ab x3],go e3]) h)
  (ht:CW S5 uS (hA w) false (be (al TN) 29) (sgD w (rs++q3++q4) x1 x3 ms ⟨p.nm,p.number,p.υ,p.ZD,p.num,p.den,Q⟩ r l e3) e {t:=dgO,h:=H,m:=[]}):(CW S5 uS (hA w) false (be (al TN) 12) (Sf w fI d5 rs q3 p r l) e {t:=dgO,h:=H,m:=[]}):=by
 have Pq:=(@hl)
 have hl1:=(@ht)
 let v0:List D:=[go r.st,ab (S2 Tb r.a)]
 let v1:=S2 Ts p.reqs
 refine yx [] [.c ((fX [3,5] (Tp (@yv rs q3 hb)) ⟨(by subst v0 v1;exact aj _ _),trivial⟩ ⟨(by subst v0 v1;exact aj _ _),trivial⟩):Ev S5 uS 39 [ab (J2 q3),.ref (.ptr 3 0)] (Sh w p r rs) (TT []) [.var (TC w),.var [nq,go 0,nq],.var [kr false],.var [.ref (.lk 5 1)],.var [go 0],.lk (ad (J2 (rs++q3))) 1 5,.var [am p.nm,go p.number,go p.υ,go p.ZD,go p.num,go p.den,ab v1],.var v0]),(?_:S2 (Tz (ar 5 1 0)) (ad (J2 (rs++q3)))=ad (J2 (rs++q3))),.o (.ren 5 0),.c ((fX [] (Tp (@hcl)) trivial ⟨(by subst v0 v1;exact aj _ _),trivial⟩):Ev S5 uS 44 [ab v1] [.var (TC w),.var [nq,go 0,nq],.var [kr false],.var [.ref (.lk 5 0)],.var [go 0],.lk (ad (J2 (rs++q3))) 0 5,.var [am p.nm,go p.number,go p.υ,go p.ZD,go p.num,go p.den,ab v1],.var v0] (.ref (.lk 8 1)) [.var (TC w),.var [nq,go 0,nq],.var [kr false],.var [.ref (.lk 5 0)],.var [go 0],.lk (ad (J2 (rs++q3))) 0 5,.var [am p.nm,go p.number,go p.υ,go p.ZD,go p.num,go p.den,ab v1],.var v0,.lk (ad v1) 1 6]),.s [3,4,5,10,11,12,13,14,15,20,82,83,84] Pq,(?_:ad (S2 Ts Q)=S2 (λx=>S2 Us x) (S2 Ts Q)),(?_:S2 (Tz (cw 8 1 (S2 Ts Q))) (ad (J2 (rs++q3++q4)))=ad (J2 (rs++q3++q4))),(rfl:Tl 8 (match 0==8 with|true=>.ν|false=>ZK (cw 8 1 (S2 Ts Q)) (.var (TC w)))=true),(rfl:Tl 8 (match 0+1==8 with|true=>.ν|false=>ZK (cw 8 1 (S2 Ts Q)) (.var [nq,go 0,nq]))=true),(rfl:Tl 8 (match 0+1+1==8 with|true=>.ν|false=>ZK (cw 8 1 (S2 Ts Q)) (.var [kr false]))=true),(rfl:Tl 8 (match 0+1+1+1==8 with|true=>.ν|false=>ZK (cw 8 1 (S2 Ts Q)) (.var [.ref (.lk 5 0)]))=true),(rfl:Tl 8 (match 0+1+1+1+1==8 with|true=>.ν|false=>ZK (cw 8 1 (S2 Ts Q)) (.var [go 0]))=true),(?_:Tl 8 (match 0+1+1+1+1+1==8 with|true=>.ν|false=>ZK (cw 8 1 (S2 Ts Q)) (.lk (ad (J2 (rs++q3++q4))) 0 5))=true),(rfl:Tl 8 (match 0+1+1+1+1+1+1==8 with|true=>.ν|false=>ZK (cw 8 1 (S2 Ts Q)) (.var [am p.nm,go p.number,go p.υ,go p.ZD,go p.num,go p.den,.ref (.lk 8 1)]))=true),(rfl:Tl 8 (match 0+1+1+1+1+1+1+1==8 with|true=>.ν|false=>ZK (cw 8 1 (S2 Ts Q)) (.var v0))=true),.o (.frz 8 (S2 Ts Q)),.o (.Μ 8),.v (Tp (Γ':=uS) (@ha (Sg w p Q r rs q3 q4))),hl1,.a1 (.zlq [10,11,12,13,15,19,20] e {t:=Bn 167 0 [(10,.ref (.ptr 1 0)),(11,.ref (.ptr 2 0)),(12,.ref (.ptr 3 0)),(13,.ref (.ptr 4 0))],h:=H})]<;>subst v0 v1<;>(first|rfl|exact aD _ _|exact aB _ _)
abbrev doZ(w:kc)(fI d5:Int)(l:iN)(rs:iF)(p:bY)(r:Τ):AS :={t:=Bn 167 0 [(3,go fI),(4,go d5),zbK,WF,zat,zaJ,zaK,(14,clo),zbu,(zd7 l),(82,ab []),(83,go 0),(84,go 0)],h:=dgB w rs 0 p r,m:=[]}
abbrev doZE(w:kc)(l:iN)(rs:iF)(p:bY)(r:Τ):AS :={t:=(ziJ l),h:=dgB w rs 0 p r,m:=[]}
theorem Lm{l:iN}{rs:iF}{p:bY}:(CW S5 uS (hA w) N (sub TN 0) (doZ w fI d5 l rs p r) (η 0) (doZE w l rs p r)):=yx [δ (τ [10,11,12,13,15,20])] [.e]
theorem doZ_cw{w:kc}{fI d5:Int}{l:iN}{rs:iF}{p:bY}{r:Τ}:CW S5 uS (hA w) false (.loop (sub TN 0)) (doZ w fI d5 l rs p r) (.exit 0) (doZE w l rs p r) :=Ww (P:=S5) (Γ:=uS) (h0:=hA w) (rd:=false) (c:=sub TN 0) 0 (λ_=>doZ w fI d5 l rs p r) (by simp) (λi hi=>absurd hi (V7 i)) Lm
abbrev pZ(p:oB):oB:=⟨p.nm,p.number,p.υ,p.ZD,p.num,p.den,[]⟩
noncomputable abbrev B4(w:kc)(p:oB)(r:Τ)(rs:iF)(q3:iF):aT:=[iI (ZA w),iI [nq,go 0,nq],iI [kr N],iI za2,iI [go 0],.lk (zct rs q3) 0 5,iI (ZN p []),iI (zaM r)]
noncomputable abbrev Ln(w:kc)(p:oB)(r:Τ)(rs:iF):aT:=(zhq w [nq,go 0,nq] rs (ZN p []) r)
theorem dg_C0(hb:rs.length+q3.length<=3000000000000)
  (hcl:∀h,Ev S5 mX 44 [ab []] h (ab []) h)
  (ha:∀h,Ev S5 mX 49 [.agg (pZ p).l,ab (l.map Tb)] h (.Ρ [.agg [ab x1,go ms,ab x3],go e3]) h)
  (ht:CW S5 uS (hA w) false (be (al TN) 29) (sgD w (rs++q3) x1 x3 ms (pZ p) r l e3) e {t:=dgO,h:=H,m:=[]}):(CW S5 uS (hA w) false (be (al TN) 12) (Sf w fI d5 rs q3 (pZ p) r l) e {t:=dgO,h:=H,m:=[]}):=by
 have Pq:=(@doZ_cw (w) (fI) (d5) (l) (rs++q3) ([am p.nm,go p.number,go p.υ,go p.ZD,go p.num,go p.den,ab []]) (r))
 have hl1:=(@ht)
 refine yx [] [.c ((fX [3,5] (Tp (@yv rs q3 hb)) ⟨?_,trivial⟩ ⟨?_,trivial⟩):Ev S5 uS 39 [ab (J2 q3),.ref (.ptr 3 0)] (Ln w p r rs) (TT []) [.var (TC w),.var [nq,go 0,nq],.var [kr false],.var [.ref (.lk 5 1)],.var [go 0],.lk (ad (J2 (rs++q3))) 1 5,.var [am p.nm,go p.number,go p.υ,go p.ZD,go p.num,go p.den,ab []],.var [go r.st,ab (S2 Tb r.a)]]),((by exact aB _ _):S2 (Tz (ar 5 1 0)) (ad (J2 (rs++q3)))=ad (J2 (rs++q3))),.o (.ren 5 0),.v (Tp (Γ':=uS) (@hcl (B4 w p r rs q3))),.s [3,4,5,10,11,12,13,14,15,20,82,83,84] Pq,.v (Tp (Γ':=uS) (@ha (B4 w p r rs q3))),hl1,.a1 (.zlq [10,11,12,13,15,19,20] e {t:=Bn 167 0 [(10,.ref (.ptr 1 0)),(11,.ref (.ptr 2 0)),(12,.ref (.ptr 3 0)),(13,.ref (.ptr 4 0))],h:=H})]<;>(exact aj _ _)
abbrev sgD30(w:kc)(rs:iF)(x1 x3:bv)(ms:Int)(p:oB)(r:Τ)(l:iN):AS:={t:=(ziJ l),h:=ML w rs x1 x3 ms p r,m:=[]}
abbrev sgE(w:kc)(rs:iF)(x1 x3:bv)(ms:Int)(p:oB)(r:Τ)(l:iN)(en e4:Int):AS:={t:=Bn 167 0 [WF,zat,zaJ,zaK,zbu,(19,go e4),(zd7 l),(28,go en)],h:=ML w rs x1 x3 ms p r,m:=[]}
noncomputable abbrev Si(w:kc)(ms:Int)(p:oB)(r:Τ)(rs:iF)(x1:bv)(x3:bv):aT:=(zhq w (zdY x1 ms x3) rs (ZI p) r)
theorem dg_D{e4:Int}
  (he:∀h,Ev S5 mX 50 [ab (l.map Tb)] h (.Ρ [go en,go e4]) h)
  (ht:CW S5 uS (hA w) false (be (al TN) 31) (sgE w rs x1 x3 ms p r l en e4) e {t:=dgO,h:=H,m:=[]}):(CW S5 uS (hA w) false (be (al TN) 30) (sgD30 w rs x1 x3 ms p r l) e {t:=dgO,h:=H,m:=[]}):=by
 have Pq:=(@ht)
 exact yx [] [.v (Tp (Γ':=uS) (@he (Si w ms p r rs x1 x3))),Pq,.a1 (.zlq [10,11,12,13,15,19,20,28] e {t:=Bn 167 0 [(10,.ref (.ptr 1 0)),(11,.ref (.ptr 2 0)),(12,.ref (.ptr 3 0)),(13,.ref (.ptr 4 0))],h:=H})]
abbrev sgE32(w:kc)(rs:iF)(x1 x3:bv)(ms:Int)(p:oB)(r:Τ)(l:iN)(en:Int):AS:={t:=Bn 167 0 [WF,zat,zaJ,zaK,zbu,(zd7 l),(28,go en)],h:=ML w rs x1 x3 ms p r,m:=[]}
abbrev zgW(a:Nat):Nat×D:=(a,mW (J0 8 0))
abbrev sgF(w:kc)(rs:iF)(x1 x3:bv)(ms:Int)(p:oB)(r:Τ)(en mn md e5:Int):AS:={t:=Bn 167 0 [WF,zat,zaJ,zaK,zbu,(19,go e5),(28,go en),(zgW 29)],h:=ML w rs x1 x3 ms p r++(zcZ mn md),m:=[]}
noncomputable abbrev Sj(w:kc)(ms:Int)(p:oB)(r:Τ)(rs:iF)(x1:bv)(x3:bv):aT:=(zhq w (zdY x1 ms x3) rs (ZI p) r)
theorem dg_E{e5:Int}
  (hm:∀h,Ev S5 mX 51 [ab (l.map Tb)] h (.Ρ [.agg [go mn,go md],go e5]) h)
  (ht:CW S5 uS (hA w) false (be (al TN) 33) (sgF w rs x1 x3 ms p r en mn md e5) e {t:=dgO,h:=H,m:=[]}):(CW S5 uS (hA w) false (be (al TN) 32) (sgE32 w rs x1 x3 ms p r l en) e {t:=dgO,h:=H,m:=[]}):=by
 have Pq:=(@ht)
 exact yx [] [.v (Tp (Γ':=uS) (@hm (Sj w ms p r rs x1 x3))),Pq,.a1 (.zlq [10,11,12,13,15,19,28,29] e {t:=Bn 167 0 [(10,.ref (.ptr 1 0)),(11,.ref (.ptr 2 0)),(12,.ref (.ptr 3 0)),(13,.ref (.ptr 4 0))],h:=H})]
abbrev sgF34(w:kc)(rs:iF)(x1 x3:bv)(ms:Int)(p:oB)(r:Τ)(en mn md:Int):AS:={t:=Bn 167 0 [WF,zat,zaJ,zaK,zbu,(28,go en),(zgW 29)],h:=ML w rs x1 x3 ms p r++(zcZ mn md),m:=[]}
abbrev sgG(w:kc)(rs:iF)(x1 x3:bv)(ms:Int)(p:oB)(r:Τ)(en mn md c e6:Int):AS:={t:=Bn 167 0 [WF,zat,zaJ,zaK,zbu,(19,go e6),(28,go en),(30,go c)],h:=ML w rs x1 x3 ms p r++(zcZ mn md),m:=[]}
noncomputable abbrev Sk(w:kc)(ms:Int)(mn:Int)(md:Int)(p:oB)(r:Τ)(rs:iF)(x1:bv)(x3:bv):aT:=(zhv (ZA w) (zdY x1 ms x3) (ad (J2 rs)) (ZI p) (zaM r) (iI [go mn,go md]))
theorem dg_F{e6:Int}
  (hm:∀h,Ev S5 mX 52 [.agg [go mn,go md],.agg [go p.num,go p.den]] h (.Ρ [go c,go e6]) h)
  (ht:CW S5 uS (hA w) false (be (al TN) 35) (sgG w rs x1 x3 ms p r en mn md c e6) e {t:=dgO,h:=H,m:=[]}):(CW S5 uS (hA w) false (be (al TN) 34) (sgF34 w rs x1 x3 ms p r en mn md) e {t:=dgO,h:=H,m:=[]}):=by
 have Pq:=(@ht)
 exact yx [] [.v (Tp (Γ':=uS) (@hm (Sk w ms mn md p r rs x1 x3))),Pq,.a1 (.zlq [10,11,12,13,15,19,28,30] e {t:=Bn 167 0 [(10,.ref (.ptr 1 0)),(11,.ref (.ptr 2 0)),(12,.ref (.ptr 3 0)),(13,.ref (.ptr 4 0))],h:=H})]
abbrev sgG36(w:kc)(rs:iF)(x1 x3:bv)(ms:Int)(p:oB)(r:Τ)(en mn md c:Int):AS:={t:=Bn 167 0 [WF,zat,zaJ,zaK,zbu,(28,go en),(30,go c)],h:=ML w rs x1 x3 ms p r++(zcZ mn md),m:=[]}
theorem dg_G:(CW S5 uS (hA w) false (be (al TN) 36) (sgG36 w rs x1 x3 ms p r en mn md c) .ret {t:=dgO,h:=[.var w.l,.var [ab x1,go ms,ab x3],.var [kr (ms==0&&lL (en>=p.ZD)&&lL (c>=0))],.var [ab (J2 rs)],.var [go 0]],m:=[]}):=by
 exact yx [.st (.mask [10,11,12,13]),.st (.frz 5 (J2 rs)),.st (.Μ 5)] [pe (D.agg [ab x1,go ms,ab x3]),pe (.ref (.ptr 1 1)),po (some (go ms)),((λhg=>rfl):(ms==0)=true->(.ref (.ptr 6 3):D)=.ref (.ptr 6 3)),((λhg=>rfl):(ms==0)=true->some (go p.ZD)=some (go p.ZD)),po (some (.ref (.lk 5 0))),po (some (.ref (.lk 5 0))),po (some (.ref (.lk 5 0))),((by rfl):ad (J2 rs)=S2 (λx=>S2 Us x) (J2 rs)),(rfl:Tl 5 (match 0==5 with|true=>.ν|false=>ZK (cw 5 0 (J2 rs)) (.var (TC w)))=true),(rfl:Tl 5 (match 0+1==5 with|true=>.ν|false=>ZK (cw 5 0 (J2 rs)) (.var [ab x1,go ms,ab x3]))=true),(rfl:Tl 5 (match 0+1+1==5 with|true=>.ν|false=>ZK (cw 5 0 (J2 rs)) (.var [kr (ms==0&&lL (en>=p.ZD)&&lL (c>=0))]))=true),(rfl:Tl 5 (match 0+1+1+1==5 with|true=>.ν|false=>ZK (cw 5 0 (J2 rs)) (.var [.ref (.lk 5 0)]))=true),(rfl:Tl 5 (match 0+1+1+1+1==5 with|true=>.ν|false=>ZK (cw 5 0 (J2 rs)) (.var [go 0]))=true)]
noncomputable abbrev Sl(w:kc):aT:=(ziV w)
theorem dg_N{pc:List D}(hb:q1.length<=1000000)
  (hp:∀h,Ev S5 uS 40 [.agg w.l,go n,go fI,go d5] h (.Ρ [.agg p.l,ab (J2 q1),kr false]) h):(CW S5 uS (hA w) false (cR (cR (al TN))) (sgA w st n fI d5) .ret {t:=dgO,h:=[.var w.l,.var [nq,go 0,nq],.var [kr false],.var [ab (J2 q1)],.var [go 0]],m:=[]}):=by
 refine yx [.st (.mask [10,11,12,13]),.st (.frz 5 (J2 q1)),.st (.Μ 5)] [.o (.zjT 3 0 5),.v (@hp (Sl w)),.c ((fX [3,5] (Tp (@HJ q1 (by omega))) ⟨?_,trivial⟩ ⟨?_,trivial⟩):Ev S5 uS 39 [ab (J2 q1),.ref (.ptr 3 0)] [.var (TC w),.var [nq,go 0,nq],.var [kr false],.var [.ref (.lk 5 0)],.var [go 0],.lk [] 0 5,.var [am p.nm,go p.number,go p.υ,go p.ZD,go p.num,go p.den,ab (S2 Ts p.reqs)]] (TT []) [.var (TC w),.var [nq,go 0,nq],.var [kr false],.var [.ref (.lk 5 1)],.var [go 0],.lk (ad (J2 q1)) 1 5,.var [am p.nm,go p.number,go p.υ,go p.ZD,go p.num,go p.den,ab (S2 Ts p.reqs)]]),pe (D.agg [nq,go 0,nq]),po (some (.ref (.lk 5 1))),po (some (.ref (.lk 5 1))),po (some (.ref (.lk 5 1))),((by rfl):ad (J2 q1)=S2 (λx=>S2 Us x) (J2 q1)),(rfl:Tl 5 (match 0==5 with|true=>.ν|false=>ZK (cw 5 1 (J2 q1)) (.var (TC w)))=true),(rfl:Tl 5 (match 0+1==5 with|true=>.ν|false=>ZK (cw 5 1 (J2 q1)) (.var [nq,go 0,nq]))=true),(rfl:Tl 5 (match 0+1+1==5 with|true=>.ν|false=>ZK (cw 5 1 (J2 q1)) (.var [kr false]))=true),(rfl:Tl 5 (match 0+1+1+1==5 with|true=>.ν|false=>ZK (cw 5 1 (J2 q1)) (.var [.ref (.lk 5 1)]))=true),(rfl:Tl 5 (match 0+1+1+1+1==5 with|true=>.ν|false=>ZK (cw 5 1 (J2 q1)) (.var [go 0]))=true),.e]<;>(first|rfl|exact aj _ _)
end Go.Vi
