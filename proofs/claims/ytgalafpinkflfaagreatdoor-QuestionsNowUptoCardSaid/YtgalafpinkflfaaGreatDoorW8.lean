/- A part of the proof; no conditions of its own. -/
import Derived.Test.YtgalafpinkflfaaGreatDoorW7
import Derived.Shelf.Slices.In.CompactI
open Decidable renaming decide -> Zd
open Go.Proofs.Tryz renaming prog -> MK, f44 -> O5, isAgg3 -> SU, sizeOf3 -> So, underlying32 -> QC, f15 -> Nj
open List renaming getElem?_eq_some_iff -> MR, length_filter_le -> SB, map -> ML, length -> MO, mergeSort -> Sz, length_cons -> N3, length_nil -> Q3, length_mergeSort -> Rk, all -> NH, all_eq_true -> Ns, append_assoc -> Qq, getElem?_append_right -> NJ, replicate -> MU, length_map -> N7, append -> SV, drop_zero -> RM, map_append -> O8, foldl_cons -> NI, length_take -> Px, getElem?_eq_getElem -> Nh, take_succ_eq_append_getElem -> PN, getElem?_map -> O3, drop_eq_getElem_cons -> R6, map_cons -> Pr
open Go.Vi.IS renaming row -> MX
open Go.Vi.TK renaming row -> M4
open Go.Vi.If renaming row -> MY
open Go.Vi.D renaming Tt -> Nt, p -> PS, U7 -> Nm
open Go.Vi.iS renaming l -> Nz
open Go.Vi.Ev renaming WB -> Na, Xj -> M9
open Go.Vi.T2 renaming row -> M5
open Bool renaming and_eq_true -> M3
open Go.Value renaming int -> N5
open Go.Sort renaming grow -> Qp, putRow -> NY, ahead -> N6, putCells -> Ow, heap_grow_old -> Pu, mapBlock -> N0
open Array renaming getElem?_eq_some_iff -> PH, getElem?_modify -> QX
open Go.World renaming cell? -> Ri
open Go.Calls renaming mono -> QP
open Nat renaming le_refl -> Nw, le_trans -> OX, not_lt_zero -> PG
open Go.Lib renaming compact -> OJ
open Go.Vi.CW renaming Z8 -> P4
open Go.IntKind renaming u64 -> Nd, wrap -> MN, i64 -> MM
open Go.Vi.tO renaming row -> MQ
open Go.Exit renaming normal -> M8
open Prod.mk renaming injEq -> MV
open Int renaming toNat -> MP
open Go.Vi.iN renaming UV -> MZ
open Go Go.Proofs
namespace Go.Vi
set_option maxRecDepth 100000
set_option maxHeartbeats 4000000
def gk(ns l:List Int):Nat:=(ns.filter λx=>!l.contains x).length
theorem yE(l:List Int)(n:Int):∀ns:List Int,gk ns (l++[n])<=gk ns l
 | []=>by simp[gk]
 | a::ns=>by
  have ih:=yE l n ns
  unfold gk at *
  grind
theorem yG{l:List Int}{n:Int}(hn:l.contains n=false):∀{ns:List Int},n∈ns->gk ns (l++[n])+1<=gk ns l
 | a::ns,h=>by
  by_cases ha:a=n
  ·subst ha
   have ih:=yE l a ns
   have h2:(l++[a]).contains a=true:=by simp
   unfold gk at *
   grind
  ·have h':n∈ns:=(List.mem_cons.1 h).resolve_left λe=>ha e.symm
   have ih:=yG hn h'
   have h2:(l++[n]).contains a=l.contains a:=by
    rw[Bool.eq_iff_iff];simp[ha]
   unfold gk at *
   grind
theorem Ds{w:iS}{bV bv a n:Int}{ns:List Int}(hn:n∈ns)(s:RL):gk ns (WX w bV bv a s n).2+(WX w bV bv a s n).2.length<=gk ns s.2+s.2.length:=by
 unfold WX
 cases hc:s.2.contains n
 ·cases Μ w bV bv a n
  ·simp
  ·have:=yG hc hn
   simp;omega
 ·simp
theorem gJ{w:iS}{bV bv a:Int}{ns:List Int}:∀(ms:List Int),(∀n∈ms,n∈ns)->∀s:RL,gk ns (ms.foldl (WX w bV bv a) s).2+(ms.foldl (WX w bV bv a) s).2.length<=gk ns s.2+s.2.length/\(ms.foldl (WX w bV bv a) s).1.length<=s.1.length+ms.length
 | [],_,s=>by simp
 | n::ms,h,s=>by
  have h1:=Ds (w:=w) (bV:=bV) (bv:=bv) (a:=a) (h n (by simp)) s
  have h2:=gJ (w:=w) (bV:=bV) (bv:=bv) (a:=a) ms (λx hx=>h x (List.mem_cons_of_mem _ hx)) (WX w bV bv a s n)
  have h3:=Dr (w:=w) (bV:=bV) (bv:=bv) (a:=a) s n
  grind
def V7(w:iS)(bV bv:Int)(ns:List Int):Nat->Nat->RL->RL
 | 0,_,s=>s
 | f+1,i,s=>match s.2[i]? with
  | some a=>V7 w bV bv ns f (i+1) (uW w bV bv ns a s)
  | none=>s
theorem qz{w:iS}{bV bv:Int}{ns:List Int}{f i:Nat}{s:RL}(h:s.2[i]? = none):V7 w bV bv ns f i s=s:=by
 cases f<;>simp[V7,h]
theorem eo_g{w:iS}(hwf:ah w.f){bV bv:Int}{ns:List Int}(hn:ns.length<=1000){rs:List BY}{l:List Int}(hb:rs.length<=900000000)(hl:gk ns l+l.length<=ns.length+1):
  CW MK At [] false (.loop (sub Tryz.f45 0)) (eoS w bV bv (ns.map λn=>[vi n]) rs l 0) (.exit 0) (eoE w (V7 w bV bv ns (ns.length+1) 0 (rs,l)).1 (V7 w bV bv ns (ns.length+1) 0 (rs,l)).2):=by
 refine CW.loop (ι:={p:Nat×Nat×RL // p.2.1+p.1=ns.length+1/\gk ns p.2.2.2+p.2.2.2.length<=ns.length+1/\p.2.2.1.length<=rs.length+p.2.1*1000/\V7 w bV bv ns p.1 p.2.1 p.2.2=V7 w bV bv ns (ns.length+1) 0 (rs,l)})
  (λp=>eoS w bV bv (ns.map λn=>[vi n]) p.1.2.2.1 p.1.2.2.2 p.1.2.1) (λ_=>(.exit 0,eoE w (V7 w bV bv ns (ns.length+1) 0 (rs,l)).1 (V7 w bV bv ns (ns.length+1) 0 (rs,l)).2)) (λp=>p.1.1) ?_ ⟨(ns.length+1,0,(rs,l)),by simp,hl,by simp,rfl⟩
 rintro⟨⟨f,i,s⟩,h1,h2,h3,h4⟩
 simp only at h1 h2 h3 h4 ⊢
 cases ha:s.2[i]? with
 | none =>
  refine .inr ⟨by simp,?_⟩
  rw[qz ha] at h4
  rw[<-h4]
  refine LJ ?_
  grind
 | some a =>
  have hi:=(MR.1 ha).1
  obtain⟨g,rfl⟩:∃g,f=g+1:=⟨f-1,by omega⟩
  have hf:=gJ (w:=w) (bV:=bV) (bv:=bv) (a:=a) (ns:=ns) ns (λ_ h=>h) s
  refine .inl ⟨⟨(g,i+1,uW w bV bv ns a s),by grind,by grind [uW],by grind [uW],?_⟩,by simp only;omega,trivial,?_⟩
  ·simp only[V7,ha] at h4
   exact h4
  ·refine LI hwf hn ha ?_ ?_ ?_ ?_
   ·rw[wrap_i64 (by omega) (by omega)];omega
   ·grind
   ·omega
   ·omega
def lI(w:iS)(c bV bv:Int):RL:=V7 w bV bv (aj w.f bv) ((aj w.f bv).length+1) 0 ([Xw],[c])
def DR(w:iS)(c bV bv:Int):List Int:=(lI w c bV bv).2.mergeSort λx y=>Zd (x<=y)
theorem Gx{x0 x1 x3:iN}{l:List Int}(hl:l.length<4611686018427387904):Ev MK At 107 [.ref (.bY 2 0)] [x0,x1,.bY (TQ l) 0 1,x3] (.Tt []) [x0,x1,.bY (TQ (l.mergeSort λx y=>Zd (x<=y))) 0 1,x3] :=
 qd (h:=[x0,x1,.bY (TQ l) 0 1,x3]) (b:=2) rfl hl
theorem uX(ns:List Int)(c:Int):gk ns [c] + [c].length<=ns.length+1:=by
 have:=SB (λx=>!([c]:List Int).contains x) ns
 unfold gk;grind
theorem eo1_cw{w:iS}(hw:w.ok){c bV bv:Int}(hn:(aj w.f bv).length<=1000):
  CW MK At [] false (.loop (sub Tryz.f45 0)) {t:=DO 100 0 [(2,aT bV),(3,aT bv),(4,.ref (.ptr 0 0)),(8,.ref (.bY 2 0)),(9,.ref (.bY 1 0)),(10,ab ((aj w.f bv).map λn=>[vi n])),(11,.ref (.mp 3)),(12,aT 0)],h:=[.var w.l,.bY [[aT 12,aT 0,aT 0,aT 0,aT 1]] 0 5,.bY [[aT c]] 0 1,.map [(aT c,iF true,0)] 1],m:=[]}
   (.exit 0) (eoE w (lI w c bV bv).1 (lI w c bV bv).2) :=
 eo_g hw.sf hn (rs:=[Xw]) (l:=[c]) (by simp) (uX _ _)
noncomputable abbrev li(w:iS):List iN:=[.var [ab (ML MX w.c),ab w.p,ab (ML M4 w.s),ab (ML MY w.f)]]
theorem LK{w:iS}(hw:w.ok){c bV bv:Int}(hc:(!(Zd (c>=0)&&Zd (c<=4095))||!(Zd (bV>=0)&&Zd (bV<=1023)))=false)(hn:(aj w.f bv).length<=1000)(hl:(lI w c bV bv).2.length<4611686018427387904)(hnum:∀h,Ev MK At 105 [.agg w.l,aT bv] h (.Tt [ab ((aj w.f bv).map λn=>[vi n]),.ref (.bY h.length 0)]) (h++[.bY [[aT 12,aT 0,aT 0,aT 0,aT 1]] 0 5]))(h:List iN):(Ev MK At 45 [.agg w.l,aT c,aT bV,aT bv] h (.Tt [ab ((DR w c bV bv).map λn=>[vi n]),ab (M2 (lI w c bV bv).1)]) h):=by
 have Tv:=(@eo1_cw (w) (hw) (c) (bV) (bv) (hn))
 refine yD (Nt [ab (ML (λn=>[vi n]) (DR w c bV bv)),ab (M2 (lI w c bV bv).fst)]) [.v (@bn c 0 4095 (li w)),.w (!!(Zd (c>=0)&&Zd (c<=4095))) (@bn bV 0 1023 (li w)),.b hc,.c (@hnum (li w)),.s [2,3,4,8,9,10,11,12] Tv,.c (@Gx (.var (Nz w)) (.bY (ad (M2 (lI w c bV bv).fst)) 0 5) (.map (aL (lI w c bV bv).2) (MO (lI w c bV bv).2)) ((lI w c bV bv).2) hl),(?_:TQ (Sz (lI w c bV bv).2 λx y=>Zd (x<=y))=ML (λx=>ML PS x) (ML (λn=>[vi n]) (DR w c bV bv))),(?_:ML (Nm (ed 2 0 (ML (λn=>[vi n]) (DR w c bV bv)))) (ad (M2 (lI w c bV bv).fst))=ad (M2 (lI w c bV bv).fst)),(?_:ML (λe=>(D.Tz (ed 2 0 (ML (λn=>[vi n]) (DR w c bV bv))) e.fst,D.Tz (ed 2 0 (ML (λn=>[vi n]) (DR w c bV bv))) e.2.fst,e.2.2)) (aL (lI w c bV bv).2)=aL (lI w c bV bv).2),(?_:ad (M2 (lI w c bV bv).fst)=ML (λx=>ML PS x) (M2 (lI w c bV bv).fst)),(?_:ML (λe=>(D.Tz (ed 1 0 (M2 (lI w c bV bv).fst)) e.fst,D.Tz (ed 1 0 (M2 (lI w c bV bv).fst)) e.2.fst,e.2.2)) (aL (lI w c bV bv).2)=aL (lI w c bV bv).2),.o (.Vw 2 (ML (λn=>[vi n]) (DR w c bV bv))),.o (.Vw 1 (M2 (lI w c bV bv).fst))] h (by grind)<;>(first|rfl|exact Hg _|exact aX _ _|exact cG _ _)
theorem uY{w:iS}{bV bv:Int}{ns:List Int}:∀(f i:Nat) (s:RL),gk ns (V7 w bV bv ns f i s).2+(V7 w bV bv ns f i s).2.length<=gk ns s.2+s.2.length/\(V7 w bV bv ns f i s).1.length<=s.1.length+f*ns.length
 | 0,_,s=>by simp[V7]
 | f+1,i,s=>by
  cases ha:s.2[i]? with
  | none=>rw[qz ha];simp
  | some a =>
   have h1:=gJ (w:=w) (bV:=bV) (bv:=bv) (a:=a) (ns:=ns) ns (λ_ h=>h) s
   have h2:=uY (w:=w) (bV:=bV) (bv:=bv) (ns:=ns) f (i+1) (uW w bV bv ns a s)
   simp[V7,ha]
   grind [uW,Nat.add_mul]
theorem yH{w:iS}{c bV bv:Int}:(lI w c bV bv).2.length<=(aj w.f bv).length+1/\(lI w c bV bv).1.length<=1+((aj w.f bv).length+1)*(aj w.f bv).length:=by
 have h:=uY (w:=w) (bV:=bV) (bv:=bv) (ns:=aj w.f bv) ((aj w.f bv).length+1) 0 ([Xw],[c])
 have h1:=uX (aj w.f bv) c
 grind [N3,Q3,lI]
def Ag(w:iS)(c bV bv:Int):RL:=match (!(Zd (c>=0)&&Zd (c<=4095))||!(Zd (bV>=0)&&Zd (bV<=1023))) with
 | true=>([],[c])
 | false=>((lI w c bV bv).1,DR w c bV bv)
theorem yI{w:iS}{c bV bv:Int}(hn:(aj w.f bv).length<=1000):(Ag w c bV bv).1.length<=1001001/\(Ag w c bV bv).2.length<=1001:=by
 have h:=yH (w:=w) (c:=c) (bV:=bV) (bv:=bv)
 have h2:((aj w.f bv).length+1)*(aj w.f bv).length<=1001*1000:=Nat.mul_le_mul (by omega) hn
 grind [DR,Rk,Ag]
noncomputable abbrev qB(w:iS):List iN:=[.var [ab (ML MX w.c),ab w.p,ab (ML M4 w.s),ab (ML MY w.f)]]
theorem LL{w:iS}{c bV bv:Int}(hc:(!(Zd (c>=0)&&Zd (c<=4095))||!(Zd (bV>=0)&&Zd (bV<=1023)))=true)(h:List iN):(Ev MK At 45 [.agg w.l,aT c,aT bV,aT bv] h (.Tt [ab ([c].map λn=>[vi n]),ab (M2 [])]) h):=by
 exact Na (Ev.W9 (y0 (d:=Nt [ab [[vi c]],nq]) [.v (@bn c 0 4095 (qB w)),.w (!!(Zd (c>=0)&&Zd (c<=4095))) (@bn bV 0 1023 (qB w)),.b hc,pr [[aT c]],.n 1,.o (.Vw 1 [[vi c]])] h)) (by rfl) (by rfl)
theorem Gy{w:iS}(hw:w.ok){c bV bv:Int}(hn:(aj w.f bv).length<=1000)(h:List iN):Ev MK At 45 [.agg w.l,aT c,aT bV,aT bv] h (.Tt [ab ((Ag w c bV bv).2.map λn=>[vi n]),ab (M2 (Ag w c bV bv).1)]) h:=by
 unfold Ag
 cases hc:(!(Zd (c>=0)&&Zd (c<=4095))||!(Zd (bV>=0)&&Zd (bV<=1023)))
 ·exact LK hw hc hn (by have:=(yH (w:=w) (c:=c) (bV:=bV) (bv:=bv)).1;omega) (λh=>nY hw.lf hw.sf h) h
 ·exact LL hc h
theorem Dt{w:iS}(hw:w.ok){c bV bv:Int}(hn:(aj w.f bv).length<=1000)(h:List iN):Ev MK Or 45 [.agg w.l,aT c,aT bV,aT bv] h (.Tt [ab ((Ag w c bV bv).2.map λn=>[vi n]),ab (M2 (Ag w c bV bv).1)]) h:=M9 (Gy hw hn h)
abbrev reqV(l:List T2):List (List D):=l.map λq=>q.row.map .p
theorem Du{l:List T2}(hl:l.length<=1000000):(NH (ML (λx=>ML PS x) (ML M5 l)) (bf 6)&&Tw (MO ([]:List (List D))+MO (ML (λx=>ML PS x) (ML M5 l))) 88)=true:=by
 rw[M3]
 constructor
 ·rw[Ns]
  intro x hx
  simp at hx
  obtain⟨q,_,rfl⟩:=hx
  rfl
 ·simp
  grind [Tw]
theorem Dv{l:List T2}(hl:l.length<=1000000):(CW MK At [] false (cR (cR (ar O5))) {t:=DO 8 0 [(0,ab (l.map M5)),(2,nq),(3,ab (l.map M5)),(4,iF false)],h:=[],m:=[]} .ret {t:=DO 8 0 [(2,.ref (.bY 0 1))],h:=[.bY (reqV l) 1 6],m:=[]}):=by
 exact yX {t:=DO 8 0 [(2,.ref (.bY 0 1))],h:=[.bY (ML (λx=>ML PS x) (ML M5 l)) 1 6],m:=[]} Exit.ret [.st (.mask [2])] [((by exact Du hl):(NH (ML (λx=>ML PS x) (ML M5 l)) (bf 6)&&Tw (MO ([]:List (List D))+MO (ML (λx=>ML PS x) (ML M5 l))) 88)=true)] (by grind) (by simp_all)
theorem cl_r0{l:List T2}:(CW MK At [] false (cL (ar O5)) {t:=DO 8 0 [(0,ab (l.map M5))],h:=[],m:=[]} .normal {t:=DO 8 0 [(0,ab (l.map M5)),(2,nq)],h:=[],m:=[]}):=by
 exact yx [.st (.mask [0,2])] []
theorem cl_c{l:List T2}:(CW MK At [] false (cR (cL (cR (ar O5)))) {t:=DO 8 0 [(0,ab (l.map M5)),(2,nq),(3,ab (l.map M5)),(4,iF false)],h:=[],m:=[]} .normal {t:=DO 8 0 [(0,ab (l.map M5)),(2,nq),(3,ab (l.map M5)),(4,iF false)],h:=[],m:=[]}):=by
 exact yx [.st (.mask [0,2,3,4])] [.e]
def rOps:Code->Array Oper
 | .region _ o _=>o
 | _=>#[]
def rId:Code->Nat
 | .region i _ _=>i
 | _=>0
theorem yJ:ar O5=.seq (cL (ar O5)) (.seq (.seq (.region (rId (cL (cL (cR (ar O5))))) (rOps (cL (cL (cR (ar O5))))) false) (cR (cL (cR (ar O5))))) (cR (cR (ar O5)))):=by kernel_rfl
def noC:Un:=λ_ _ _=>none
theorem noC_ok:noC.Ok MK At:=λ_ _ _ _ h=>by simp[noC] at h
def lastO(o:List Oper):Oper:=o.getLastD default
abbrev clT(l:List T2)(b:Bool):List D:=DO 8 0 [(0,ab (l.map M5)),(2,nq),(3,ab (l.map M5)),(4,iF b)]
theorem zaa{l:List T2}{b:Bool}:TO (DO 8 0 [(0,ab (l.map M5)),(2,nq),(3,ab (l.map M5))]) (lastO (rOps (cL (cL (cR (ar O5))))).toList).dst (lit (.bool b))=clT l b:=by kernel_rfl
theorem cl_r1{X:Ctx}{r:Option Nat}{l:List T2}{Q:Exit->AS->Prop}(hQ:∀b:Bool,(b=true->l.map M5=[])->Q .normal {t:=clT l b,h:=[],m:=[]}):
  VW MK At X r (.region (rId (cL (cL (cR (ar O5))))) (rOps (cL (cL (cR (ar O5))))) false) Q {t:=DO 8 0 [(0,ab (l.map M5)),(2,nq)],h:=[],m:=[]} :=
 VW.nilLast (os:=(rOps (cL (cL (cR (ar O5))))).toList.dropLast) (o:=lastO (rOps (cL (cL (cR (ar O5))))).toList) (t:=99) (yt:=99) (x:=3) (t1:=DO 8 0 [(0,ab (l.map M5)),(2,nq),(3,ab (l.map M5))]) (h1:=[])
  noC_ok (by kernel_rfl) (e:=115) (by kernel_rfl) (by kernel_rfl) (by kernel_rfl) (by kernel_rfl) rfl (λb hb=>zaa.symm▸hQ b hb)
theorem Gz{l:List T2}(hl:l.length<=1000000)(UQ:l≠[]):Ev MK At 44 [ab (l.map M5)] [] (.ref (.bY 0 1)) [.bY (reqV l) 1 6]:=by
 refine Ev.Β (fn:=O5) rfl (by kernel_rfl) (e:=.ret) (s:={t:=DO 8 0 [(2,.ref (.bY 0 1))],h:=[.bY (reqV l) 1 6],m:=[]}) ?_ (by kernel_rfl)
 rw[yJ]
 refine CW.seq (cl_r0 (l:=l)) (CW.seq (s1:={t:=clT l false,h:=[],m:=[]}) (CW.seq (s1:={t:=clT l false,h:=[],m:=[]}) ?_ cl_c) (Dv hl))
 intro X r _ _
 refine cl_r1 λb hb=>?_
 cases b with
 | false=>grind
 | true=>simp_all
end Go.Vi
open Go Go.Proofs Go.Shelf Go.RowKit Go.Sort
namespace Go.Vi
set_option maxHeartbeats 4000000
set_option maxRecDepth 100000
theorem Dw{P:Program}{Γ:ao}{f:FuncId}{vsx:List Value}{h:List iN}{b e:Nat}{l m:List Int}(hb:h[b]? = some (.bY (cw l) e 1))(hlm:m.length=l.length)(UQ:l≠[]){d:D}{rv:Nat->Nat->Nat->Value}
  (hd:∀{w:World} {av:Nat->Prop} {loc:Loc} {oR o cap:Nat},loc b=some (oR,X9 o cap)->l.length<=cap->Rel w av loc (h.set b (.bY (cw m) e 1)) d (rv oR o cap))
  (H:∀{O:Nat->Prop} {w:World} {loc:Loc} (_:TL Γ O w loc h) (oR o cap:Nat),On O loc h oR->oR<w.heap.size->Sort.Holds (N5 .i64) w oR o l.toArray->l.length<=cap ->
   Calls P f (#[.slice (some ⟨oR,o,none⟩) l.length cap]++vsx.toArray) w λe w'=>e=.returned (rv oR o cap)/\∃n os,w'=Qp (NY (N5 .i64) (N6 w n) oR o m.toArray) os) :
  Ev P Γ f (.ref (.bY b e)::vsx.map lit) h d (h.set b (.bY (cw m) e 1)):=by
 intro O w loc vs R ra
 obtain⟨y,rfl⟩:∃y,vs=y::vsx:=by
  match vs,ra with
  | y::ys,r=>exact⟨y,by rw[kV r.2]⟩
  | [],r=>simp[AT] at r
 have r:=ra.1
 simp only[Rel,NE,hb] at r
 have hv:=r.2.2 trivial
 have B:=R.oR b _ hb
 simp only[Tl] at B
 have hlen:(cw l).length=l.length:=by simp[cw]
 refine callsIn_wide.2 ?_
 cases U8:loc b with
 | none =>
  grind
 | some p =>
  obtain⟨oR,cp⟩:=p
  rw[U8] at hv B
  obtain⟨o,cap,rfl,rfl,Xs⟩:=hv
  simp only at B
  obtain⟨o',cap',rc,c,T,fr,ys,W0,hcs,hle,X1,XO,Xp,pr,rest,hpr,Vs⟩:=B
  obtain⟨rfl,rfl⟩:=cI rc
  have hys:=kL Xp
  subst hys
  have hblk:oR<w.heap.size:=(PH.1 W0).1
  have Wl:On O loc h oR:=.inr ⟨b,_,X9 o cap,hb,by simp,U8⟩
  have hH:Sort.Holds (N5 .i64) w oR o l.toArray:=by
   intro j hj
   have hj':j<l.length:=by simpa using hj
   have hc:c[o+j]? = some (N5 .i64 l[j]):=by
    rw[<-Array.getElem?_toList,Vs,Qq,NJ (by omega),show o+j-pr.length=j by omega,List.getElem?_append_left (by simpa using hj')]
    simp[hj']
   constructor
   ·simp[Ri,W0,hc,hj']
   ·have:=X1 (o+j) (PH.1 hc).1
    obtain⟨lo,hi⟩:=fr
    simp only[World.frozen?,W0]
    grind
  rw[hlen] at Xs ⊢
  have e0:(Value.slice (some ⟨oR,o,none⟩) l.length cap::vsx).toArray=#[.slice (some ⟨oR,o,none⟩) l.length cap]++vsx.toArray:=by simp
  rw[e0]
  refine QP (H R oR o cap Wl hblk hH Xs) ?_
  rintro e' w' ⟨rfl,n,os,rfl⟩
  have Zb:(Qp (NY (N5 .i64) (N6 w n) oR o m.toArray) os).heap[oR]? = some (.cells (Ow (N5 .i64) o m.toArray c) T fr):=by
   rw[Pu _ _ (by grind [NY,N0,N6])]
   simp[NY,N0,N6,QX,W0,Sort.onCells]
  have Xb:(Ow (N5 .i64) o m.toArray c).toList=pr++m.map (N5 .i64)++rest:=by
   unfold Ow
   rw[Array.toList_mapIdx,Vs]
   apply List.ext_getElem?
   intro i
   rw[List.getElem?_mapIdx]
   by_cases hp:i<pr.length
   ·grind
   obtain⟨q,rfl⟩:∃q,i=pr.length+q:=⟨i-pr.length,by omega⟩
   rw[iD,iD]
   by_cases hi:q<l.length
   ·grind
   ·grind
  have key:=R.step (w':=Qp (NY (N5 .i64) (N6 w n) oR o m.toArray) os) (l':=loc) (h':=h.set b (.bY (cw m) e 1)) b (.bY (cw m) e 1)
   (by simp_all) ⟨rfl,rfl,rfl,by simp[Qp,NY,N0,N6]⟩ (λi hi=>bG _ _ hi) (aY hb) (λ_ _=>rfl)
   (λz hz=>by rw[hb] at hz;cases hz;exact⟨⟨Nw _,λ_=>by grind,rfl⟩,λ_=>rfl⟩)
   (λk hk Ve=>by
    have hkb:k≠oR:=λe=>Ve _ (X9 o cap) hb (by simp) (by rw[U8,e])
    rw[Pu _ _ (by grind [NY,N0,N6])]
    grind [NY,N0,N6])
   (λk c hk=>.inl ⟨_,c,hb,by simp,hk⟩)
   (λE=>by
    simp only[Tl,U8]
    refine⟨o,cap,rfl,_,T,fr,m.map (N5 .i64),Zb,?_,?_,?_,?_,iE,pr,rest,hpr,Xb⟩
    ·grind [Ow]
    ·grind
    ·grind [Ow]
    ·simp[cw])
  grind
theorem wK{P:Program}{Γ:ao}{O:Nat->Prop}{g:Nat}{cf:Int->Int->Int}{w:World}{loc:Loc}{h:List iN}(R:TL Γ O w loc h){oR:Nat}(hblk:On O loc h oR)
  (hE:∀x y,Ev P Γ g [lit (.int .i64 x),lit (.int .i64 y)] [] (lit (.int .i64 (cf x y))) []) (o size:Nat):CmpLays1 P g #[] (N5 .i64) cf oR o size w:=by
 intro m os dk hs x y
 generalize hW:sortWorld (N5 .i64) w oR o m dk os=W
 have hb:oR<w.heap.size:=by
  rcases hblk with ho|ho
  ·exact R.We oR ho
  ·exact(R.V3 oR ho).1
 have XS:∀b off v,¬On O loc h b->w.cell? ⟨b,off,none⟩=some v->W.cell? ⟨b,off,none⟩=some v/\¬On (λ_=>False) loc [] b:=by
  intro b off v hn hc
  have UQ:b≠oR:=λe=>hn (e▸hblk)
  refine⟨?_,λho=>ho.elim id (λh=>absurd h dq)⟩
  subst hW
  have IN:b<w.heap.size:=by
   simp only[Ri] at hc
   split at hc
   ·grind
   ·simp at hc
  have:(sortWorld (N5 .i64) w oR o m dk os).heap[b]? = w.heap[b]?:=by
   unfold sortWorld
   rw[Pu _ _ (by grind [NY,N0,N6])]
   simp[NY,N0,N6,QX,Ne.symm UQ]
  simp only[Ri,this]
  exact hc
 have R0:TL Γ (λ_=>False) W loc []:=by
  refine⟨λoR ho=>absurd ho dq,λoR ho=>ho.elim,λb b' x x' k c c' hb=>by simp at hb,λb x hb=>by simp at hb,λg cs hg=>?_⟩
  exact T9.mono XS g 0 cs (R.Xk g cs hg)
 have ra:AT W (On (λ_=>False) loc []) loc [] [lit (.int .i64 x),lit (.int .i64 y)] [.int .i64 x,.int .i64 y]:=by
  simp[AT,Rel,TB]
 refine QP (callsIn_wide.1 (hE x y (λ_=>False) W loc _ R0 ra)) ?_
 rintro e w' ⟨v,d2,h2,l',rfl,⟨rfl,rfl⟩,R',E',rd⟩
 refine⟨?_,qr E'.size (λb hb=>E'.same b hb dq) E'.tape⟩
 have:v=.int .i64 (cf x y):=by simpa[Rel,TB] using rd
 rw[this]
abbrev cmpZ(x y:Int):Int:=if x<y then -1 else if x>y then 1 else 0
theorem ltZ(x y:Int):ltOf cmpZ x y=Zd (x<y):=by
 unfold ltOf cmpZ
 grind
theorem zT{P:Program}{ρ:Ren}{Γ:ao}(ok:Vl P)(L:SlLaysF.n6 P ρ){g:Nat}(hg:eP P g=true)(hE:∀x y,Ev P Γ g [lit (.int .i64 x),lit (.int .i64 y)] [] (lit (.int .i64 (cmpZ x y))) [])
  {h:List iN} {b e:Nat} {l:List Int} (hb:h[b]? = some (.bY (cw l) e 1)) (hl:l.length<4611686018427387904) (UQ:l≠[]) :
  Ev P Γ (ρ.f 6) [.ref (.bY b e),.p (.v (.func (.func g) #[] #[]))] h (.Tt []) (h.set b (.bY (cw (l.mergeSort λx y=>Zd (x<=y))) e 1)):=by
 refine Dw (vsx:=[.func (.func g) #[] #[]]) hb (by simp) UQ (rv:=λ_ _ _=>.tuple #[]) (λ_ _=>by simp[Rel,AT]) λR oR o cap Wl hblk hH Xs=>?_
 have eg:∀args w,(callFunc g args).run P w=.ok (.enter g args) w:=λargs w=>by
  unfold eP at hg
  split at hg
  ·rename_i fn hfn;exact VM ok hfn hg args w
  ·simp at hg
 have h1:=Any.slices_SortFunc_total L (N5 .i64) (λ_=>rfl) cmpZ ⟨λx=>by rw[ltZ];simp,λx y z h1 h2=>by grind [ltZ],λx y z h1 h2=>by grind [ltZ]⟩ g #[] oR o cap l.toArray _ eg (wK R Wl hE o _) hH hblk (by simpa using hl) (λx y h1 h2=>by grind [ltZ])
 have e2:(l.mergeSort λx y=>!(ltOf cmpZ) y x)=l.mergeSort λx y=>Zd (x<=y):=by
  congr 1
  funext x y
  rw[ltZ]
  by_cases h:x<=y<;>simp[h]<;>omega
 refine QP (by simpa using h1) ?_
 rintro e' w' ⟨rfl,n,os,rfl⟩
 refine⟨rfl,n,os,?_⟩
 rw[<-e2]
 rfl
theorem Dx{P:Program}{ρ:Ren}{Γ:ao}(L:Lays2.n20 P ρ){h:List iN}{b e:Nat}{l:List Int}(hb:h[b]? = some (.bY (cw l) e 1))(hl:l.length<4611686018427387904)(UQ:l≠[]):
  Ev P Γ (ρ.f 20) [.ref (.bY b e)] h (.ref (.vs b e 0 (OJ l).length none)) (h.set b (.bY (cw (OJ l++MU (l.length-(OJ l).length) 0)) e 1)):=by
 have hc:(OJ l).length<=l.length:=by
  unfold OJ Lib.compactUpTo
  rw[N7]
  exact OX (SB _ _) (by simp)
 refine Dw (vsx:=[]) hb (by simp;omega) UQ (rv:=λoR o cap=>.slice (some ⟨oR,o,none⟩) (OJ l).length cap) (λ{w av loc oR o cap} U8 Xs=>?_) λR oR o cap Wl hblk hH Xs=>?_
 ·simp only[Rel,NE,aY hb]
  exact⟨rfl,Nw _,λ_=>⟨by simp[cw],oR,o,cap,cap,U8,.inl (by simp),by omega,by omega,λk h=>by cases h⟩⟩
 ·refine QP (calls_of_every_depth λD=>AnyS.slices_Compact_int_in L D oR o cap l _ hH (by omega) Xs) ?_
  rintro e' w' ⟨rfl,n,rfl⟩
  exact⟨rfl,n,#[],(Sort.grow_empty _).symm⟩
end Go.Vi
open Go Go.Proofs
set_option maxRecDepth 100000
namespace Go.Proofs
open Go.Shelf
def Tryz.ZF:Go.Shelf.Ren:=⟨fun|6=>46|15=>109|14=>108|28=>186|29=>187|20=>178|21=>179|22=>180|23=>181|24=>182|25=>183|26=>184|27=>185|46=>261|47=>262|48=>263|49=>264|50=>265|57=>307|n=>n,fun|22=>32|24=>3|25=>117|3=>3|39=>196|0=>0|53=>263|55=>265|4=>4|46=>257|45=>256|50=>191|5=>5|9=>9|66=>334|70=>338|76=>361|77=>362|n=>n,fun|n=>n⟩
theorem Tryz.sortFI:Go.Proofs.SlLaysF.n6 MK Tryz.ZF:={
 mixed:=by kernel_rfl
 f6:=⟨Tryz.f46.name,by decide,Tryz.func46.trans (congrArg some (by kernel_rfl))⟩
 f14:=⟨Tryz.f108.name,by decide,Tryz.func108.trans (congrArg some (by kernel_rfl))⟩
 f15:=Tryz.func109.trans (congrArg some (by kernel_rfl))
 f20:=⟨Tryz.f178.name,by decide,Tryz.func178.trans (congrArg some (by kernel_rfl))⟩
 f21:=⟨Tryz.f179.name,by decide,Tryz.func179.trans (congrArg some (by kernel_rfl))⟩
 f22:=⟨Tryz.f180.name,by decide,Tryz.func180.trans (congrArg some (by kernel_rfl))⟩
 f23:=⟨Tryz.f181.name,by decide,Tryz.func181.trans (congrArg some (by kernel_rfl))⟩
 f24:=⟨Tryz.f182.name,by decide,Tryz.func182.trans (congrArg some (by kernel_rfl))⟩
 f25:=⟨Tryz.f183.name,by decide,Tryz.func183.trans (congrArg some (by kernel_rfl))⟩
 f26:=⟨Tryz.f184.name,by decide,Tryz.func184.trans (congrArg some (by kernel_rfl))⟩
 f27:=⟨Tryz.f185.name,by decide,Tryz.func185.trans (congrArg some (by kernel_rfl))⟩
 f28:=Tryz.func186.trans (congrArg some (by kernel_rfl))
 f29:=Tryz.func187.trans (congrArg some (by kernel_rfl))
 f46:=⟨Tryz.f261.name,by decide,Tryz.func261.trans (congrArg some (by kernel_rfl))⟩
 f47:=Tryz.func262.trans (congrArg some (by kernel_rfl))
 f48:=Tryz.func263.trans (congrArg some (by kernel_rfl))
 f49:=⟨Tryz.f264.name,by decide,Tryz.func264.trans (congrArg some (by kernel_rfl))⟩
 f50:=⟨Tryz.f265.name,by decide,Tryz.func265.trans (congrArg some (by kernel_rfl))⟩
 f57:=⟨Tryz.f307.name,by decide,Tryz.func307.trans (congrArg some (by kernel_rfl))⟩
 t0:=Tryz.underlying0
 a0:=Tryz.isAgg0
 z0:=Tryz.sizeOf0
 v0:=Tryz.zeroValue0
 t3:=Tryz.underlying3
 a3:=SU
 z3:=So
 v3:=Tryz.zeroValue3
 t4:=Tryz.underlying4
 a4:=Tryz.isAgg4
 z4:=Tryz.sizeOf4
 v4:=Tryz.zeroValue4
 t5:=Tryz.underlying5
 a5:=Tryz.isAgg5
 z5:=Tryz.sizeOf5
 v5:=Tryz.zeroValue5
 t9:=Tryz.underlying9
 a9:=Tryz.isAgg9
 z9:=Tryz.sizeOf9
 v9:=Tryz.zeroValue9
 t22:=QC
 a22:=Tryz.isAgg32
 z22:=Tryz.sizeOf32
 v22:=Tryz.zeroValue32
 a24:=SU
 z24:=So
 t25:=Tryz.underlying117
 a25:=Tryz.isAgg117
 z25:=Tryz.sizeOf117
 v25:=Tryz.zeroValue117
 t39:=Tryz.underlying196
 a39:=Tryz.isAgg196
 z39:=Tryz.sizeOf196
 v39:=Tryz.zeroValue196
 t45:=Tryz.underlying256
 a45:=Tryz.isAgg256
 z45:=Tryz.sizeOf256
 v45:=Tryz.zeroValue256
 t46:=Tryz.underlying257
 a46:=Tryz.isAgg257
 z46:=Tryz.sizeOf257
 v46:=Tryz.zeroValue257
 t50:=Tryz.underlying191
 a50:=Tryz.isAgg191
 z50:=Tryz.sizeOf191
 v50:=Tryz.zeroValue191
 t53:=Tryz.underlying263
 a53:=Tryz.isAgg263
 z53:=Tryz.sizeOf263
 v53:=Tryz.zeroValue263
 t55:=Tryz.underlying265
 a55:=Tryz.isAgg265
 z55:=Tryz.sizeOf265
 v55:=Tryz.zeroValue265
 t66:=Tryz.underlying334
 a66:=Tryz.isAgg334
 z66:=Tryz.sizeOf334
 v66:=Tryz.zeroValue334
 t70:=Tryz.underlying338
 a70:=Tryz.isAgg338
 z70:=Tryz.sizeOf338
 v70:=Tryz.zeroValue338
 t76:=Tryz.underlying361
 a76:=Tryz.isAgg361
 z76:=Tryz.sizeOf361
 v76:=Tryz.zeroValue361
 t77:=Tryz.underlying362
 a77:=Tryz.isAgg362
 z77:=Tryz.sizeOf362
 v77:=Tryz.zeroValue362}
def Tryz.zal:Go.Shelf.Ren:=⟨fun|20=>48|n=>n,fun|22=>32|3=>3|4=>4|0=>0|n=>n,fun|n=>n⟩
theorem Tryz.compI:Go.Proofs.Lays2.n20 MK Tryz.zal:={
 mixed:=by kernel_rfl
 f20:=Tryz.func48.trans (congrArg some (by kernel_rfl))
 t0:=Tryz.underlying0
 a0:=Tryz.isAgg0
 z0:=Tryz.sizeOf0
 v0:=Tryz.zeroValue0
 t3:=Tryz.underlying3
 a3:=SU
 z3:=So
 v3:=Tryz.zeroValue3
 t4:=Tryz.underlying4
 a4:=Tryz.isAgg4
 z4:=Tryz.sizeOf4
 v4:=Tryz.zeroValue4
 t22:=QC
 a22:=Tryz.isAgg32
 z22:=Tryz.sizeOf32
 v22:=Tryz.zeroValue32
 i3:=by kernel_rfl}
end Go.Proofs
namespace Go.Vi
set_option maxRecDepth 100000
set_option maxHeartbeats 4000000
open Go.Shelf
theorem Dy{h:List iN}{b e:Nat}{l:List Int}(hb:h[b]? = some (.bY (cw l) e 1))(hl:l.length<4611686018427387904)(UQ:l≠[]):
  Ev MK At 46 [.ref (.bY b e),.p (.v (.func (.func 47) #[] #[]))] h (.Tt []) (h.set b (.bY (cw (l.mergeSort λx y=>Zd (x<=y))) e 1)) :=
 zT Ug Tryz.sortFI (by kernel_rfl) (λx y=>c4 x y []) hb hl UQ
theorem GA{h:List iN}{b e:Nat}{l:List Int}(hb:h[b]? = some (.bY (cw l) e 1))(hl:l.length<4611686018427387904)(UQ:l≠[]):
  Ev MK At 48 [.ref (.bY b e)] h (.ref (.vs b e 0 (OJ l).length none)) (h.set b (.bY (cw (OJ l++MU (l.length-(OJ l).length) 0)) e 1)):=Dx Tryz.compI hb hl UQ
end Go.Vi
open Go Go.Proofs
namespace Go.Vi
set_option maxRecDepth 100000
set_option maxHeartbeats 4000000
abbrev lokH(rs:List BY)(e:Nat):List iN:=[.var [.ref (.bY 1 e)],.bY (ad (M2 rs)) e 5]
theorem uZ{rs qs:List BY}(hb:rs.length+qs.length<=3000000000000):(Ev MK At 39 [ab (M2 qs),.ref (.ptr 0 0)] (lokH rs 0) (.Tt []) (lokH (rs++qs) 1)):=by
 exact Na (yF (h':=[.var [.ref (.bY 1 1)],.bY (ad (M2 rs)++ML (λx=>ML PS x) (M2 qs)) 1 5]) (d:=Nt []) [((by(simp only[J6,Tw,Bool.true_and,M3,decide_eq_true_eq,N7];omega)):(NH (ML (λx=>ML PS x) (M2 qs)) (bf 5)&&Tw (MO (ad (M2 rs))+MO (ML (λx=>ML PS x) (M2 qs))) 40)=true)]) (by grind) (by grind)
theorem zU(h:List iN):(Ev MK At 48 [nq] h (ab []) h):=by
 exact Na (Ev.W9 (y0 (d:=nq) [.e] h)) (by rfl) (by rfl)
theorem sfi_i{H:List iN}:(CW MK At H false (sub Tryz.f178 0) {t:=DO 53 0 [(0,nq),(1,aT 0),(2,aT 0),(3,fq 47),(8,aT 1)],h:=H,m:=[]} (.exit 0) {t:=DO 53 0 [],h:=H,m:=[]}):=by
 exact yx [.st (.mask [])] [.e]
theorem sfi_cw{H:List iN}:CW MK At H false (.loop (sub Tryz.f178 0)) {t:=DO 53 0 [(0,nq),(1,aT 0),(2,aT 0),(3,fq 47),(8,aT 1)],h:=H,m:=[]} (.exit 0) {t:=DO 53 0 [],h:=H,m:=[]} :=
 P4 0 (λ_=>{t:=DO 53 0 [(0,nq),(1,aT 0),(2,aT 0),(3,fq 47),(8,aT 1)],h:=H,m:=[]}) (by simp) (λi hi=>absurd hi (PG i)) sfi_i
theorem GB{H:List iN}:(Ev MK At 178 [nq,aT 0,aT 0,fq 47] H (.Tt []) H):=by
 have Tv:=(@sfi_cw (H))
 exact Na (yF (h':=H) (d:=Nt []) [.s [0,1,2,3,8] Tv]) (by rfl) (by rfl)
theorem sfp_i{H:List iN}:(CW MK At H false (sub Tryz.f108 0) {t:=DO 148 0 [(0,nq),(1,aT 0),(2,aT 0),(3,aT 0),(4,fq 47),(10,iF true),(11,iF true)],h:=H,m:=[]} .ret {t:=DO 148 0 [],h:=H,m:=[]}):=by
 exact yx [.st (.mask [])] [.e,.v (@GB H)]
theorem sfp_cw{H:List iN}:CW MK At H false (.loop (sub Tryz.f108 0)) {t:=DO 148 0 [(0,nq),(1,aT 0),(2,aT 0),(3,aT 0),(4,fq 47),(10,iF true),(11,iF true)],h:=H,m:=[]} .ret {t:=DO 148 0 [],h:=H,m:=[]} :=
 P4 0 (λ_=>{t:=DO 148 0 [(0,nq),(1,aT 0),(2,aT 0),(3,aT 0),(4,fq 47),(10,iF true),(11,iF true)],h:=H,m:=[]}) (by simp) (λi hi=>absurd hi (PG i)) sfp_i
theorem GC{H:List iN}:(Ev MK At 108 [nq,aT 0,aT 0,aT 0,fq 47] H (.Tt []) H):=by
 have Tv:=(@sfp_cw (H))
 exact Na (yF (h':=H) (d:=Nt []) [.s [0,1,2,3,4,10,11] Tv]) (by rfl) (by rfl)
theorem LM(h:List iN):(Ev MK At 109 [u64 (Nd.wrap 0)] h (aT 0) h):=by
 exact y0 [(rfl:TU (MN IntKind.u8 (MN Nd 0)) (ByteArray.size {data:=List.toArray (SV (SV [0,1,2,2,3,3,3,3,4,4,4,4,4,4,4,4,5,5,5,5,5,5,5,5,5,5,5,5,5,5,5,5,6,6,6,6,6,6,6,6,6,6,6,6,6,6,6,6,6,6,6,6,6,6,6,6,6,6,6,6,6,6,6,6] [7,7,7,7,7,7,7,7,7,7,7,7,7,7,7,7,7,7,7,7,7,7,7,7,7,7,7,7,7,7,7,7,7,7,7,7,7,7,7,7,7,7,7,7,7,7,7,7,7,7,7,7,7,7,7,7,7,7,7,7,7,7,7,7]) (SV [8,8,8,8,8,8,8,8,8,8,8,8,8,8,8,8,8,8,8,8,8,8,8,8,8,8,8,8,8,8,8,8,8,8,8,8,8,8,8,8,8,8,8,8,8,8,8,8,8,8,8,8,8,8,8,8,8,8,8,8,8,8,8,8] [8,8,8,8,8,8,8,8,8,8,8,8,8,8,8,8,8,8,8,8,8,8,8,8,8,8,8,8,8,8,8,8,8,8,8,8,8,8,8,8,8,8,8,8,8,8,8,8,8,8,8,8,8,8,8,8,8,8,8,8,8,8,8,8]))})=true),.e,.a1 .inl,.e,.e,.e] h
theorem zV{H:List iN}:(Ev MK At 46 [nq,fq 47] H (.Tt []) H):=by
 exact Na (yF (h':=H) (d:=Nt []) [.v (@LM H),.v (@GC H)]) (by rfl) (by rfl)
theorem GD{l:List Int}(hl:l.length<4611686018427387904)(UQ:l≠[]):
  Ev MK At 48 [.ref (.bY 0 0)] [.bY (al l) 0 1] (ab (ay (OJ l))) [.T1]:=by
 have h1:=GA (h:=[.bY (cw l) 0 1]) (b:=0) (e:=0) (l:=l) rfl hl UQ
 generalize OJ l=m at h1 ⊢
 have h2:=Ev.post (d2:=.p (.sl (List.take m.length (List.drop 0 (ay (m++MU (l.length-m.length) 0)))))) (h2:=[.T1]) (φ:=[cw (m++MU (l.length-m.length) 0)=(ay (m++MU (l.length-m.length) 0)).map (·.map .p)]) [.st (.Vw 0 (ay (m++MU (l.length-m.length) 0)))] h1 rfl ⟨sd _,trivial⟩
 have e1:List.take m.length (List.drop 0 (ay (m++MU (l.length-m.length) 0)))=ay m:=by
  rw[RM]
  unfold ay
  rw[O8]
  exact List.take_left' (by simp)
 rw[e1] at h2
 exact h2
abbrev hA(w:iS):List iN:=[.var w.l,.var [nq,aT 0,nq],.var [iF false],.var [nq],.var [aT 0]]
abbrev dgC(p:oN):List D:=[aq p.nm,aT p.number,aT p.T3,aT p.ON,aT p.num,aT p.den,.ref (.bY 8 1)]
abbrev Zy(w:iS)(rs:List BY)(e:Nat)(pc:List D)(r:TC):List iN:=[.var w.l,.var [nq,aT 0,nq],.var [iF false],.var [.ref (.bY 5 e)],.var [aT 0],.bY (ad (M2 rs)) e 5,.var pc,.var r.l]
abbrev diS(w:iS)(bV bv:Int)(l:List tO)(rs:List BY)(p:oN)(r:TC)(L:List (List Dp))(q:T2)(fs:List Int)(n k i:Int):AS :=
 {t:=DO 167 0 [(3,aT bV),(4,aT bv),(5,.ref (.ptr 0 0)),(10,.ref (.ptr 1 0)),(11,.ref (.ptr 2 0)),(12,.ref (.ptr 3 0)),(13,.ref (.ptr 4 0)),(14,.fn (.func 39) [] [.ref (.ptr 3 0)]),(15,.ref (.ptr 6 0)),(20,ab (l.map MQ)),(21,aT k),(22,.ref (.ptr 9 0)),(23,.ref (.bY 10 0)),(82,.ref (.bY 8 1)),(83,aT n),(84,aT k),(90,ab (ay q.Do)),(91,aT ((ay q.Do).length:Int)),(92,aT i)],
  h:=Zy w rs 0 (dgC p) r++[.bY (ad L) 1 6,.var (q.row.map .p),.bY (al fs) 0 1],m:=[]}
abbrev diE(w:iS)(bV bv:Int)(l:List tO)(rs:List BY)(p:oN)(r:TC)(L:List (List Dp))(q:T2)(fs:List Int)(n k:Int):AS :=
 {t:=DO 167 0 [(3,aT bV),(4,aT bv),(5,.ref (.ptr 0 0)),(10,.ref (.ptr 1 0)),(11,.ref (.ptr 2 0)),(12,.ref (.ptr 3 0)),(13,.ref (.ptr 4 0)),(14,.fn (.func 39) [] [.ref (.ptr 3 0)]),(15,.ref (.ptr 6 0)),(20,ab (l.map MQ)),(21,aT k),(23,.ref (.bY 10 0)),(82,.ref (.bY 8 1)),(83,aT n),(84,aT k)],
  h:=Zy w rs 0 (dgC p) r++[.bY (ad L) 1 6,.var (q.row.map .p),.bY (al fs) 0 1],m:=[]}
theorem Dz(m:List Int):ML (λx=>ML PS x) (ay m)=al m:=by simp[al]
theorem DA(f:Ref->D)(l m:List Int):ML (Nm f) (al l++ML (λx=>ML PS x) (ay m))=al l++ML (λx=>ML PS x) (ay m):=by
 grind[Dz,bd]
theorem LN{l m:List Int}(h:l.length+m.length<=100000000000):(NH (ML (λx=>ML PS x) (ay m)) (bf 1)&&Tw (MO (al l)+MO (ML (λx=>ML PS x) (ay m))) 8)=true:=by
 rw[M3]
 constructor
 ·rw[Ns]
  intro x hx
  simp only[List.map_map,List.mem_map,Function.comp] at hx
  obtain⟨q,_,rfl⟩:=hx
  rfl
 grind [N7,dD,Tw]
noncomputable abbrev qC(w:iS)(rs:List BY)(p:oN)(r:TC)(L:List (List Dp))(q:T2)(fs:List Int):List iN:=[.var [ab (ML MX w.c),ab w.p,ab (ML M4 w.s),ab (ML MY w.f)],.var [nq,aT 0,nq],.var [iF false],.var [.ref (.bY 5 0)],.var [aT 0],.bY (ad (M2 rs)) 0 5,.var [aq p.nm,aT p.number,aT p.T3,aT p.ON,aT p.num,aT p.den,.ref (.bY 8 1)],.var [aT r.st,ab (ML MQ r.a)],.bY (ad L) 1 6,.var [aq q.nm,aT q.oF,aT q.IF,iF q.home,ab q.names,ab (ay q.Do)],.bY (al fs) 0 1]
theorem LO{w:iS}{bV bv n k:Int}{l:List tO}{rs qs:List BY}{p:oN}{r:TC}{L:List (List Dp)}{q:T2}{fs gs:List Int}{c:Int}{i:Nat}
  (hr:ap (i:Int) (ay q.Do) [vi c] 1) (IN:Zd ((i:Int)<((ay q.Do).length:Int))=true) (hw:MM.wrap ((i:Int)+1)=((i+1:Nat):Int))
  (heq:∀h,Ev MK Or 45 [.agg w.l,aT c,aT bV,aT bv] h (.Tt [ab (ay gs),ab (M2 qs)]) h)
  (hb:rs.length+qs.length<=3000000000000) (YY:fs.length+gs.length<=100000000000):(CW MK Or (hA w) false (sub Nj 1) (diS w bV bv l rs p r L q fs n k i) .normal (diS w bV bv l (rs++qs) p r L q (fs++gs) n k ((i+1:Nat):Int))):=by
 refine yX {t:=DO 167 0 [(3,aT bV),(4,aT bv),(5,.ref (.ptr 0 0)),(10,.ref (.ptr 1 0)),(11,.ref (.ptr 2 0)),(12,.ref (.ptr 3 0)),(13,.ref (.ptr 4 0)),(14,D.fn (Fn.func 39) [] [.ref (.ptr 3 0)]),(15,.ref (.ptr 6 0)),(20,ab (ML MQ l)),(21,aT k),(22,.ref (.ptr 9 0)),(23,.ref (.bY 10 0)),(82,.ref (.bY 8 1)),(83,aT n),(84,aT k),(90,ab (ay q.Do)),(91,aT (↑(MO (ay q.Do)):Int)),(92,aT (MN MM ((↑i:Int)+1)))],h:=[.var [ab (ML MX w.c),ab w.p,ab (ML M4 w.s),ab (ML MY w.f)],.var [nq,aT 0,nq],.var [iF false],.var [.ref (.bY 5 0)],.var [aT 0],.bY (ad (M2 (rs++qs))) 0 5,.var [aq p.nm,aT p.number,aT p.T3,aT p.ON,aT p.num,aT p.den,.ref (.bY 8 1)],.var [aT r.st,ab (ML MQ r.a)],.bY (ad L) 1 6,.var [aq q.nm,aT q.oF,aT q.IF,iF q.home,ab q.names,ab (ay q.Do)],.bY (al fs++ML (λx=>ML PS x) (ay gs)) 0 1],m:=[]} M8 [.st (.mask [3,4,5,10,11,12,13,14,15,20,21,22,23,82,83,84,90,91,92]),.st (.Vz 5 0),.st (.Vz 10 0)] [.b IN,.r hr,.v (@heq (qC w rs p r L q fs)),.c ((fX [3,5] (M9 (@uZ rs qs hb)) ⟨(by exact ak _ _),trivial⟩ ⟨(by exact ak _ _),trivial⟩):Ev MK Or 39 [ab (M2 qs),.ref (.ptr 3 0)] (qC w rs p r L q fs) (Nt []) [.var (Nz w),.var [nq,aT 0,nq],.var [iF false],.var [.ref (.bY 5 1)],.var [aT 0],.bY (ad (M2 (rs++qs))) 1 5,.var [aq p.nm,aT p.number,aT p.T3,aT p.ON,aT p.num,aT p.den,.ref (.bY 8 1)],.var [aT r.st,ab (ML MQ r.a)],.bY (ad L) 1 6,.var [aq q.nm,aT q.oF,aT q.IF,iF q.home,ab q.names,ab (ay q.Do)],.bY (al fs) 0 1]),(?_:(NH (ML (λx=>ML PS x) (ay gs)) (bf 1)&&Tw (MO (al fs)+MO (ML (λx=>ML PS x) (ay gs))) 8)=true),(?_:ML (Nm (ax 5 1 0)) (ad (M2 (rs++qs)))=ad (M2 (rs++qs))),(?_:ML (Nm (ax 5 1 0)) (ad L)=ad L),(?_:ML (Nm (ax 5 1 0)) (al fs++ML (λx=>ML PS x) (ay gs))=al fs++ML (λx=>ML PS x) (ay gs)),(?_:ML (Nm (ax 10 1 0)) (al fs++ML (λx=>ML PS x) (ay gs))=al fs++ML (λx=>ML PS x) (ay gs)),(?_:ML (Nm (ax 10 1 0)) (ad (M2 (rs++qs)))=ad (M2 (rs++qs))),(?_:ML (Nm (ax 10 1 0)) (ad L)=ad L)] (by grind) (by(simp only[hw,diS,Zy,ad,al,ay,O8,List.map_map,Function.comp_def];rfl))<;>(first|exact aX _ _|exact DA _ _ _|exact LN YY)
theorem LP{w:iS}{bV bv n k:Int}{l:List tO}{rs:List BY}{p:oN}{r:TC}{L:List (List Dp)}{q:T2}{fs:List Int}{i:Nat}
  (IN:Zd ((i:Int)<((ay q.Do).length:Int))=false):(CW MK Or (hA w) false (sub Nj 1) (diS w bV bv l rs p r L q fs n k i) (.exit 2) (diE w bV bv l rs p r L q fs n k)):=by
 exact yx [.st (.mask [3,4,5,10,11,12,13,14,15,20,21,23,82,83,84])] [.b IN]
def WN(w:iS)(bV bv:Int)(s:List BY×List Int)(c:Int):List BY×List Int:=(s.1++(Ag w c bV bv).1,s.2++(Ag w c bV bv).2)
theorem oL{w:iS}{bV bv:Int}(hn:(aj w.f bv).length<=1000):∀(cs:List Int) (s:List BY×List Int),(cs.foldl (WN w bV bv) s).1.length<=s.1.length+cs.length*1001001/\(cs.foldl (WN w bV bv) s).2.length<=s.2.length+cs.length*1001
 | [],s=>by simp
 | c::cs,s=>by
  obtain⟨h1,h2⟩:=oL (bV:=bV) hn cs (WN w bV bv s c)
  obtain⟨g1,g2⟩:=yI (w:=w) (c:=c) (bV:=bV) (bv:=bv) hn
  grind[WN,N3]
theorem LQ{w:iS}(hw:w.ok){bV bv n k:Int}(hn:(aj w.f bv).length<=1000){l:List tO}{rs:List BY}{p:oN}{r:TC}{L:List (List Dp)}{q:T2}
  (hq:q.Do.length<=1048576) (hb:rs.length+q.Do.length*1001001<=3000000000000) :
  CW MK Or (hA w) false (.loop (sub Nj 1)) (diS w bV bv l rs p r L q [] n k 0) (.exit 2) (diE w bV bv l (q.Do.foldl (WN w bV bv) (rs,[])).1 p r L q (q.Do.foldl (WN w bV bv) (rs,[])).2 n k):=by
 have key (i:Nat) (hi:i<=q.Do.length):((q.Do.take i).foldl (WN w bV bv) (rs,[])).1.length<=rs.length+i*1001001/\((q.Do.take i).foldl (WN w bV bv) (rs,[])).2.length<=i*1001:=by
  have h1:=oL (bV:=bV) hn (q.Do.take i) (rs,[])
  have hlen:(q.Do.take i).length=i:=by rw[Px];omega
  rw[hlen] at h1
  simpa using h1
 have h0:=P4 (P:=MK) (Γ:=Or) (h0:=hA w) (rd:=false) (c:=sub Nj 1) q.Do.length (λi=>diS w bV bv l ((q.Do.take i).foldl (WN w bV bv) (rs,[])).1 p r L q ((q.Do.take i).foldl (WN w bV bv) (rs,[])).2 n k (i:Int)) (e:=.exit 2) (by simp) (λi hi=>?_) (LP (by simp))
 ·grind
 ·have hc:q.Do[i]? = some q.Do[i]:=Nh hi
  have e1:(q.Do.take (i+1)).foldl (WN w bV bv) (rs,[])=WN w bV bv ((q.Do.take i).foldl (WN w bV bv) (rs,[])) q.Do[i]:=by
   rw[PN hi,List.foldl_append,NI,List.foldl_nil]
  obtain⟨k1,k2⟩:=key i (by omega)
  obtain⟨g1,g2⟩:=yI (w:=w) (c:=q.Do[i]) (bV:=bV) (bv:=bv) hn
  have heq:=Dt hw (c:=q.Do[i]) (bV:=bV) (bv:=bv) hn
  show CW MK Or (hA w) false (sub Nj 1) (diS w bV bv l ((q.Do.take i).foldl (WN w bV bv) (rs,[])).1 p r L q ((q.Do.take i).foldl (WN w bV bv) (rs,[])).2 n k (i:Int)) .normal (diS w bV bv l ((q.Do.take (i+1)).foldl (WN w bV bv) (rs,[])).1 p r L q ((q.Do.take (i+1)).foldl (WN w bV bv) (rs,[])).2 n k ((i+1:Nat):Int))
  rw[e1]
  have k3:i*1001001+1001001<=q.Do.length*1001001:=by omega
  generalize (q.Do.take i).foldl (WN w bV bv) (rs,[])=s at *
  exact LO (rowAt (row:=λn:Int=>[vi n]) hc rfl) (TG (λn:Int=>[vi n]) hi) (T4 hi (show q.Do.length<=_ by omega)) heq (by omega) (by omega)
theorem tyQ:(eX MK 99,MK.underlying 99,U2 MK 115,DK MK 115,U2 MK 32)=(some 115,some (.slice 115),some 6,some true,some 1):=by kernel_rfl
theorem rq_ld{h:List iN}{L:List (List Dp)}{q:T2}{k:Nat}(hb:h[8]? = some (.bY (ad L) 1 6))(hk:L[k]? = some q.row):aI MK h 115 (.ref (.vp 8 1 k 0))=some (ag q.row):=by
 have h3:=tyQ
 simp only[MV] at h3
 have h5:(ad L)[k]? = some (q.row.map .p):=by rw[O3,hk];rfl
 simp only[aI,hb,if_true,h5,RM,cb,h3.2.2.1,h3.2.2.2.1]
 rfl
abbrev GE(q:T2)(R:List Int):T2:=⟨q.nm,q.oF,q.IF,q.home,q.names,R⟩
theorem rq_st{h:List iN}{L:List (List Dp)}{q:T2}{R:List Int}{k:Nat}(hb:h[8]? = some (.bY (ad L) 1 6))(hk:L[k]? = some q.row):aN MK h 32 (.ref (.vp 8 1 k 5)) (ab (ay R))=some (h.set 8 (.bY (ad (L.set k (GE q R).row)) 1 6)):=by
 have h3:=tyQ
 simp only[MV] at h3
 have h5:(ad L)[k]? = some (q.row.map .p):=by rw[O3,hk];rfl
 have h6:(ad L).set k (bF (q.row.map .p) 5 [ab (ay R)])=ad (L.set k (GE q R).row):=by
  unfold ad
  rw[List.map_set]
  rfl
 simp only[aN,D.cells,h3.2.2.2.2,hb,if_true,h5]
 show some (h.set 8 (iN.bY ((ad L).set k (bF (q.row.map .p) 5 [ab (ay R)])) 1 6))=_
 rw[h6]
abbrev doS(w:iS)(bV bv:Int)(l:List tO)(rs:List BY)(p:oN)(r:TC)(L:List (List Dp))(n k:Int):AS :=
 {t:=DO 167 0 [(3,aT bV),(4,aT bv),(5,.ref (.ptr 0 0)),(10,.ref (.ptr 1 0)),(11,.ref (.ptr 2 0)),(12,.ref (.ptr 3 0)),(13,.ref (.ptr 4 0)),(14,.fn (.func 39) [] [.ref (.ptr 3 0)]),(15,.ref (.ptr 6 0)),(20,ab (l.map MQ)),(82,.ref (.bY 8 1)),(83,aT n),(84,aT k)],
  h:=Zy w rs 0 (dgC p) r++[.bY (ad L) 1 6],m:=[]}
noncomputable abbrev qD(w:iS)(YR:List BY)(p:oN)(r:TC)(L:List (List Dp))(q:T2)(fs:List Int):List iN:=[.var [ab (ML MX w.c),ab w.p,ab (ML M4 w.s),ab (ML MY w.f)],.var [nq,aT 0,nq],.var [iF false],.var [.ref (.bY 5 0)],.var [aT 0],.bY (ad (M2 YR)) 0 5,.var [aq p.nm,aT p.number,aT p.T3,aT p.ON,aT p.num,aT p.den,.ref (.bY 8 1)],.var [aT r.st,ab (ML MQ r.a)],.bY (ad L) 1 6,.var [aq q.nm,aT q.oF,aT q.IF,iF q.home,ab q.names,ab (ay q.Do)],.bY (al (Sz fs λx y=>Zd (x<=y))) 0 1]
noncomputable abbrev zW(w:iS)(YR:List BY)(p:oN)(r:TC)(L:List (List Dp))(q:T2)(fs:List Int):List iN:=[.var [ab (ML MX w.c),ab w.p,ab (ML M4 w.s),ab (ML MY w.f)],.var [nq,aT 0,nq],.var [iF false],.var [.ref (.bY 5 0)],.var [aT 0],.bY (ad (M2 YR)) 0 5,.var [aq p.nm,aT p.number,aT p.T3,aT p.ON,aT p.num,aT p.den,.ref (.bY 8 1)],.var [aT r.st,ab (ML MQ r.a)],.bY (ad L) 1 6,.var [aq q.nm,aT q.oF,aT q.IF,iF q.home,ab q.names,ab (ay q.Do)],.bY (al fs) 0 1]
noncomputable abbrev qE(w:iS)(YR:List BY)(p:oN)(r:TC)(L:List (List Dp))(q:T2):List iN:=[.var [ab (ML MX w.c),ab w.p,ab (ML M4 w.s),ab (ML MY w.f)],.var [nq,aT 0,nq],.var [iF false],.var [.ref (.bY 5 0)],.var [aT 0],.bY (ad (M2 YR)) 0 5,.var [aq p.nm,aT p.number,aT p.T3,aT p.ON,aT p.num,aT p.den,.ref (.bY 8 1)],.var [aT r.st,ab (ML MQ r.a)],.bY (ad L) 1 6,.var [aq q.nm,aT q.oF,aT q.IF,iF q.home,ab q.names,ab (ay q.Do)],.T1]
theorem LR{w:iS}{bV bv n:Int}{l:List tO}{rs YR:List BY}{p:oN}{r:TC}{L:List (List Dp)}{q:T2}{fs R:List Int}{k:Nat}
  (hk:k<L.length) (hq:L[k]? = some q.row) (IN:Zd ((k:Int)<n)=true) (hw:MM.wrap ((k:Int)+1)=((k+1:Nat):Int))
  (TZ:CW MK Or (hA w) false (.loop (sub Nj 1)) (diS w bV bv l rs p r L q [] n k 0) (.exit 2) (diE w bV bv l YR p r L q fs n k))
  (hso:Ev MK At 46 [.ref (.bY 0 0),fq 47] [.bY (al fs) 0 1] (.Tt []) [.bY (al (fs.mergeSort λx y=>Zd (x<=y))) 0 1])
  (Zw:Ev MK At 48 [.ref (.bY 0 0)] [.bY (al (fs.mergeSort λx y=>Zd (x<=y))) 0 1] (ab (ay R)) [.T1]):(CW MK Or (hA w) false (sub Nj 0) (doS w bV bv l rs p r L n k) .normal (doS w bV bv l YR p r (L.set k (GE q R).row) n ((k+1:Nat):Int))):=by
 have Tv:=(@TZ)
 let v0:List D:=[aT r.st,ab (ML MQ r.a)]
 let v1:=List.set L k (M5 (GE q R))
 refine yX {t:=DO 167 0 [(3,aT bV),(4,aT bv),(5,.ref (.ptr 0 0)),(10,.ref (.ptr 1 0)),(11,.ref (.ptr 2 0)),(12,.ref (.ptr 3 0)),(13,.ref (.ptr 4 0)),(14,D.fn (Fn.func 39) [] [.ref (.ptr 3 0)]),(15,.ref (.ptr 6 0)),(20,ab (ML MQ l)),(82,.ref (.bY 8 1)),(83,aT n),(84,aT (MN MM ((↑k:Int)+1)))],h:=[.var [ab (ML MX w.c),ab w.p,ab (ML M4 w.s),ab (ML MY w.f)],.var [nq,aT 0,nq],.var [iF false],.var [.ref (.bY 5 0)],.var [aT 0],.bY (ad (M2 YR)) 0 5,.var [aq p.nm,aT p.number,aT p.T3,aT p.ON,aT p.num,aT p.den,.ref (.bY 8 1)],.var v0,.bY (ad v1) 1 6],m:=[]} M8 [.st (.mask [3,4,5,10,11,12,13,14,15,20,82,83,84]),.st (.TD 9)] [.b IN,((by subst v0 v1;(simp[TU];omega)):@Eq (Option (Bool×D)) (some (TU (↑k:Int) (MO (ad L)),.ref (.vp 8 1 (MP (↑k:Int)) 0))) (some (true,D.ref (.vp 8 1 k 0)))),(?_:@Eq (Option D) (aI MK [.var (Nz w),.var [nq,aT 0,nq],.var [iF false],.var [.ref (.bY 5 0)],.var [aT 0],.bY (ad (M2 rs)) 0 5,.var [aq p.nm,aT p.number,aT p.T3,aT p.ON,aT p.num,aT p.den,.ref (.bY 8 1)],.var v0,.bY (ad L) 1 6] 115 (.ref (.vp 8 1 k 0))) (some (D.agg [aq q.nm,aT q.oF,aT q.IF,iF q.home,ab q.names,ab (ay q.Do)]))),.a1 (.ov 87 (.ref (.vp 8 1 k 0))),.a1 (.ov 88 (ag (M5 q))),.n 2,.o (.ZN 23 1),.s [3,4,5,10,11,12,13,14,15,20,21,22,23,82,83,84,90,91,92] Tv,.c ((fX [10] (M9 (@hso)) ⟨(by subst v0 v1;exact bd _ _),trivial⟩ ⟨(by subst v0 v1;exact bd _ _),trivial⟩):Ev MK Or 46 [.ref (.bY 10 0),fq 47] (zW w YR p r L q fs) (Nt []) (qD w YR p r L q fs)),.c ((fX [10] (M9 (@Zw)) ⟨(by subst v0 v1;exact bd _ _),trivial⟩ trivial):Ev MK Or 48 [.ref (.bY 10 0)] (qD w YR p r L q fs) (ab (ay R)) (qE w YR p r L q)),((by subst v0 v1;(simp[TU];omega)):@Eq (Option (Bool×D)) (some (TU (↑k:Int) (MO (ad L)),.ref (.vp 8 1 (MP (↑k:Int)) 0))) (some (true,D.ref (.vp 8 1 k 0)))),po (some (.ref (.vp 8 1 k 5))),(?_:@Eq (Option (List iN)) (aN MK (qE w YR p r L q) 32 (.ref (.vp 8 1 k 5)) (ab (ay R))) (some [.var (Nz w),.var [nq,aT 0,nq],.var [iF false],.var [.ref (.bY 5 0)],.var [aT 0],.bY (ad (M2 YR)) 0 5,.var [aq p.nm,aT p.number,aT p.T3,aT p.ON,aT p.num,aT p.den,.ref (.bY 8 1)],.var v0,.bY (ad v1) 1 6,.var [aq q.nm,aT q.oF,aT q.IF,iF q.home,ab q.names,ab (ay q.Do)],.T1])),pe (.ref (.ptr 6 6)),pe (.ref (.ptr 6 6)),po (some (.ref (.bY 8 1))),po (some (.ref (.bY 8 1))),(?_:TU (↑k:Int) (MO (ad L))=true),(?_:(.ref (.vp 8 1 (MP (↑k:Int)) 0):D)=.ref (.vp 8 1 k 0)),pe (.ref (.vp 8 1 k 5)),bi 9 (.var (Nz w)),bi 9 (.var [nq,aT 0,nq]),bi 9 (.var [iF false]),bi 9 (.var [.ref (.bY 5 0)]),bi 9 (.var [aT 0]),(?_:MZ 9 (.bY (ad (M2 YR)) 0 5)=true),bi 9 (.var [aq p.nm,aT p.number,aT p.T3,aT p.ON,aT p.num,aT p.den,.ref (.bY 8 1)]),bi 9 (.var v0),(?_:MZ 9 (.bY (ad v1) 1 6)=true),.a1 (.ov 118 (.ref (.vp 8 1 k 0))),.a1 (.ov 119 (.ref (.vp 8 1 k 5))),.a1 (.oh 10119 D.any (Zy w YR 0 (dgC p) r++[.bY (ad v1) 1 6,.var (ML PS (M5 q)),.T1]))] (by subst v0 v1;grind) (by subst v0 v1;(simp only[hw]<;>rfl))<;>subst v0 v1<;>(first|rfl|exact rq_ld rfl hq|exact rq_st rfl hq|exact bZ _ _|(simp[TU];omega))
abbrev dzS(w:iS)(bV bv:Int)(l:List tO)(rs:List BY)(p:oN)(r:TC)(L:List (List Dp))(q:T2)(n k:Int):AS :=
 {t:=DO 167 0 [(3,aT bV),(4,aT bv),(5,.ref (.ptr 0 0)),(10,.ref (.ptr 1 0)),(11,.ref (.ptr 2 0)),(12,.ref (.ptr 3 0)),(13,.ref (.ptr 4 0)),(14,.fn (.func 39) [] [.ref (.ptr 3 0)]),(15,.ref (.ptr 6 0)),(20,ab (l.map MQ)),(21,aT k),(23,nq),(82,.ref (.bY 8 1)),(83,aT n),(84,aT k),(90,ab (ay q.Do)),(91,aT ((ay q.Do).length:Int)),(92,aT 0)],
  h:=Zy w rs 0 (dgC p) r++[.bY (ad L) 1 6,.var (q.row.map .p)],m:=[]}
abbrev dzE(w:iS)(bV bv:Int)(l:List tO)(rs:List BY)(p:oN)(r:TC)(L:List (List Dp))(q:T2)(n k:Int):AS :=
 {t:=DO 167 0 [(3,aT bV),(4,aT bv),(5,.ref (.ptr 0 0)),(10,.ref (.ptr 1 0)),(11,.ref (.ptr 2 0)),(12,.ref (.ptr 3 0)),(13,.ref (.ptr 4 0)),(14,.fn (.func 39) [] [.ref (.ptr 3 0)]),(15,.ref (.ptr 6 0)),(20,ab (l.map MQ)),(21,aT k),(23,nq),(82,.ref (.bY 8 1)),(83,aT n),(84,aT k)],
  h:=Zy w rs 0 (dgC p) r++[.bY (ad L) 1 6,.var (q.row.map .p)],m:=[]}
theorem LS{w:iS}{bV bv n k:Int}{l:List tO}{rs:List BY}{p:oN}{r:TC}{L:List (List Dp)}{q:T2}
  (IN:Zd ((0:Int)<((ay q.Do).length:Int))=false):(CW MK Or (hA w) false (sub Nj 1) (dzS w bV bv l rs p r L q n k) (.exit 2) (dzE w bV bv l rs p r L q n k)):=by
 exact yx [.st (.mask [3,4,5,10,11,12,13,14,15,20,21,23,82,83,84])] [.b IN]
noncomputable abbrev iT(w:iS)(rs:List BY)(p:oN)(r:TC)(L:List (List Dp))(q:T2):List iN:=[.var [ab (ML MX w.c),ab w.p,ab (ML M4 w.s),ab (ML MY w.f)],.var [nq,aT 0,nq],.var [iF false],.var [.ref (.bY 5 0)],.var [aT 0],.bY (ad (M2 rs)) 0 5,.var [aq p.nm,aT p.number,aT p.T3,aT p.ON,aT p.num,aT p.den,.ref (.bY 8 1)],.var [aT r.st,ab (ML MQ r.a)],.bY (ad L) 1 6,.var [aq q.nm,aT q.oF,aT q.IF,iF q.home,ab q.names,ab (ay q.Do)]]
theorem GF{w:iS}{bV bv n:Int}{l:List tO}{rs:List BY}{p:oN}{r:TC}{L:List (List Dp)}{q:T2}{k:Nat}
  (hk:k<L.length) (hq:L[k]? = some q.row) (IN:Zd ((k:Int)<n)=true) (hw:MM.wrap ((k:Int)+1)=((k+1:Nat):Int))
  (TZ:CW MK Or (hA w) false (.loop (sub Nj 1)) (dzS w bV bv l rs p r L q n k) (.exit 2) (dzE w bV bv l rs p r L q n k)):(CW MK Or (hA w) false (sub Nj 0) (doS w bV bv l rs p r L n k) .normal (doS w bV bv l rs p r (L.set k (GE q []).row) n ((k+1:Nat):Int))):=by
 have Tv:=(@TZ)
 let v0:List D:=[aT r.st,ab (ML MQ r.a)]
 let v1:=List.set L k (M5 (GE q []))
 refine yX {t:=DO 167 0 [(3,aT bV),(4,aT bv),(5,.ref (.ptr 0 0)),(10,.ref (.ptr 1 0)),(11,.ref (.ptr 2 0)),(12,.ref (.ptr 3 0)),(13,.ref (.ptr 4 0)),(14,D.fn (Fn.func 39) [] [.ref (.ptr 3 0)]),(15,.ref (.ptr 6 0)),(20,ab (ML MQ l)),(82,.ref (.bY 8 1)),(83,aT n),(84,aT (MN MM ((↑k:Int)+1)))],h:=[.var [ab (ML MX w.c),ab w.p,ab (ML M4 w.s),ab (ML MY w.f)],.var [nq,aT 0,nq],.var [iF false],.var [.ref (.bY 5 0)],.var [aT 0],.bY (ad (M2 rs)) 0 5,.var [aq p.nm,aT p.number,aT p.T3,aT p.ON,aT p.num,aT p.den,.ref (.bY 8 1)],.var v0,.bY (ad v1) 1 6],m:=[]} M8 [.st (.mask [3,4,5,10,11,12,13,14,15,20,82,83,84]),.st (.TD 9)] [.b IN,((by subst v0 v1;(simp[TU];omega)):@Eq (Option (Bool×D)) (some (TU (↑k:Int) (MO (ad L)),.ref (.vp 8 1 (MP (↑k:Int)) 0))) (some (true,D.ref (.vp 8 1 k 0)))),(?_:@Eq (Option D) (aI MK [.var (Nz w),.var [nq,aT 0,nq],.var [iF false],.var [.ref (.bY 5 0)],.var [aT 0],.bY (ad (M2 rs)) 0 5,.var [aq p.nm,aT p.number,aT p.T3,aT p.ON,aT p.num,aT p.den,.ref (.bY 8 1)],.var v0,.bY (ad L) 1 6] 115 (.ref (.vp 8 1 k 0))) (some (D.agg [aq q.nm,aT q.oF,aT q.IF,iF q.home,ab q.names,ab (ay q.Do)]))),.a1 (.ov 87 (.ref (.vp 8 1 k 0))),.a1 (.ov 88 (ag (M5 q))),.s [3,4,5,10,11,12,13,14,15,20,21,23,82,83,84,90,91,92] Tv,.v (M9 (Γ':=Or) (@zV (iT w rs p r L q))),.v (M9 (Γ':=Or) (@zU (iT w rs p r L q))),((by subst v0 v1;(simp[TU];omega)):@Eq (Option (Bool×D)) (some (TU (↑k:Int) (MO (ad L)),.ref (.vp 8 1 (MP (↑k:Int)) 0))) (some (true,D.ref (.vp 8 1 k 0)))),po (some (.ref (.vp 8 1 k 5))),(?_:@Eq (Option (List iN)) (aN MK (iT w rs p r L q) 32 (.ref (.vp 8 1 k 5)) (ab [])) (some [.var (Nz w),.var [nq,aT 0,nq],.var [iF false],.var [.ref (.bY 5 0)],.var [aT 0],.bY (ad (M2 rs)) 0 5,.var [aq p.nm,aT p.number,aT p.T3,aT p.ON,aT p.num,aT p.den,.ref (.bY 8 1)],.var v0,.bY (ad v1) 1 6,.var [aq q.nm,aT q.oF,aT q.IF,iF q.home,ab q.names,ab (ay q.Do)]])),pe (.ref (.ptr 6 6)),pe (.ref (.ptr 6 6)),po (some (.ref (.bY 8 1))),po (some (.ref (.bY 8 1))),(?_:TU (↑k:Int) (MO (ad L))=true),(?_:(.ref (.vp 8 1 (MP (↑k:Int)) 0):D)=.ref (.vp 8 1 k 0)),pe (.ref (.vp 8 1 k 5)),bi 9 (.var (Nz w)),bi 9 (.var [nq,aT 0,nq]),bi 9 (.var [iF false]),bi 9 (.var [.ref (.bY 5 0)]),bi 9 (.var [aT 0]),(?_:MZ 9 (.bY (ad (M2 rs)) 0 5)=true),bi 9 (.var [aq p.nm,aT p.number,aT p.T3,aT p.ON,aT p.num,aT p.den,.ref (.bY 8 1)]),bi 9 (.var v0),(?_:MZ 9 (.bY (ad v1) 1 6)=true),.a1 (.ov 118 (.ref (.vp 8 1 k 0))),.a1 (.ov 119 (.ref (.vp 8 1 k 5))),.a1 (.oh 10119 D.any (Zy w rs 0 (dgC p) r++[.bY (ad v1) 1 6,.var (ML PS (M5 q))]))] (by subst v0 v1;grind) (by subst v0 v1;(simp only[hw]<;>rfl))<;>subst v0 v1<;>(first|rfl|exact rq_ld rfl hq|exact rq_st (R:=[]) rfl hq|exact bZ _ _|(simp[TU];omega))
theorem LT{w:iS}{bV bv n:Int}{l:List tO}{rs:List BY}{p:oN}{r:TC}{L:List (List Dp)}{k:Nat}
  (IN:Zd ((k:Int)<n)=false):(CW MK Or (hA w) false (sub Nj 0) (doS w bV bv l rs p r L n k) (.exit 0) {t:=DO 167 0 [(10,.ref (.ptr 1 0)),(11,.ref (.ptr 2 0)),(12,.ref (.ptr 3 0)),(13,.ref (.ptr 4 0)),(15,.ref (.ptr 6 0)),(20,ab (l.map MQ))],h:=Zy w rs 0 (dgC p) r++[.bY (ad L) 1 6],m:=[]}):=by
 exact yx [.st (.mask [10,11,12,13,15,20])] [.b IN]
def frmR(w:iS)(bV bv:Int)(q:T2):List Int:=match q.Do with
 | []=>[]
 | _=>OJ (((q.Do.foldl (WN w bV bv) ([],[])).2).mergeSort λx y=>Zd (x<=y))
def sx(w:iS)(bV bv:Int)(q:T2):List BY:=(q.Do.foldl (WN w bV bv) ([],[])).1
theorem jX{w:iS}{bV bv:Int}:∀(cs:List Int) (s:List BY×List Int),cs.foldl (WN w bV bv) s=(s.1++(cs.foldl (WN w bV bv) ([],[])).1,s.2++(cs.foldl (WN w bV bv) ([],[])).2)
 | [],s=>by simp
 | c::cs,s=>by
  rw[NI,jX cs,NI,jX cs (WN w bV bv ([],[]) c)]
  simp[WN]
theorem eqN_ge{w:iS}{bV bv a n:Int}(s:RL):s.2.length<=(WX w bV bv a s n).2.length:=by
 grind [WX]
theorem u0{w:iS}{bV bv a:Int}:∀(ms:List Int) (s:RL),s.2.length<=(ms.foldl (WX w bV bv a) s).2.length
 | [],_=>Nw _
 | n::ms,s=>OX (eqN_ge s) (u0 ms _)
theorem yK{w:iS}{bV bv:Int}{ns:List Int}:∀(f i:Nat) (s:RL),s.2.length<=(V7 w bV bv ns f i s).2.length
 | 0,_,_=>Nw _
 | f+1,i,s=>by
  unfold V7
  split
  ·exact OX (u0 ns s) (yK f (i+1) _)
  grind
theorem GG{w:iS}{c bV bv:Int}:1<=(Ag w c bV bv).2.length:=by
 unfold Ag
 split
 ·simp
 ·simp[DR]
  exact yK _ _ ([Xw],[c])
theorem yL{w:iS}{bV bv:Int}(hn:(aj w.f bv).length<=1000)(q:T2):(sx w bV bv q).length<=q.Do.length*1001001:=by
 have:=(oL (bV:=bV) hn q.Do ([],[])).1
 grind [sx]
def sB(w:iS)(bV bv:Int)(q:T2):T2:=GE q (frmR w bV bv q)
abbrev doE(w:iS)(l:List tO)(rs:List BY)(p:oN)(r:TC)(L:List (List Dp)):AS :=
 {t:=DO 167 0 [(10,.ref (.ptr 1 0)),(11,.ref (.ptr 2 0)),(12,.ref (.ptr 3 0)),(13,.ref (.ptr 4 0)),(15,.ref (.ptr 6 0)),(20,ab (l.map MQ))],h:=Zy w rs 0 (dgC p) r++[.bY (ad L) 1 6],m:=[]}
theorem LU{w:iS}(hw:w.ok){bV bv n:Int}(hn:(aj w.f bv).length<=1000){l:List tO}{rs:List BY}{p:oN}{r:TC}{L:List (List Dp)}{q:T2}{k:Nat}
  (hf:q.Do.length<=1048576) (hb:rs.length+q.Do.length*1001001<=3000000000000) (hq:L[k]? = some q.row) (IN:Zd ((k:Int)<n)=true) (hw2:MM.wrap ((k:Int)+1)=((k+1:Nat):Int)) :
  CW MK Or (hA w) false (sub Nj 0) (doS w bV bv l rs p r L n k) .normal (doS w bV bv l (rs++sx w bV bv q) p r (L.set k (sB w bV bv q).row) n ((k+1:Nat):Int)):=by
 have hk:=(MR.1 hq).1
 cases hc:q.Do with
 | nil =>
  have e1:sx w bV bv q=[]:=by unfold sx;rw[hc];rfl
  have e2:sB w bV bv q=GE q []:=by unfold sB frmR;rw[hc]
  have hz:Zd ((0:Int)<((ay q.Do).length:Int))=false:=by rw[hc];rfl
  rw[e1,e2,List.append_nil]
  refine GF hk hq IN hw2 ?_
  exact P4 (P:=MK) (Γ:=Or) (h0:=hA w) (rd:=false) (c:=sub Nj 1) 0 (λ_=>dzS w bV bv l rs p r L q n k) (by simp) (λi hi=>absurd hi (PG i)) (LS hz)
 | cons c cs =>
  have TZ:=LQ hw (bV:=bV) (n:=n) (k:=(k:Int)) hn (l:=l) (rs:=rs) (p:=p) (r:=r) (L:=L) hf hb
  have e0:=jX (w:=w) (bV:=bV) (bv:=bv) q.Do (rs,[])
  rw[e0] at TZ
  have e1:(q.Do.foldl (WN w bV bv) ([],[])).1=sx w bV bv q:=rfl
  rw[e1] at TZ
  simp at TZ
  have hlen:=(oL (bV:=bV) hn q.Do ([],[])).2
  have Yh:1<=(q.Do.foldl (WN w bV bv) ([],[])).2.length:=by
   rw[hc,NI,jX]
   simp only[List.length_append,WN,List.nil_append]
   have:=GG (w:=w) (c:=c) (bV:=bV) (bv:=bv)
   omega
  have e2:sB w bV bv q=GE q (OJ (((q.Do.foldl (WN w bV bv) ([],[])).2).mergeSort λx y=>Zd (x<=y))):=by unfold sB frmR;rw[hc]
  rw[e2]
  generalize (q.Do.foldl (WN w bV bv) ([],[])).2=fs at TZ hlen Yh ⊢
  have YW:fs.length<4611686018427387904:=by simp only[Q3] at hlen;omega
  have hso:=Dy (h:=[.bY (cw fs) 0 1]) (b:=0) (e:=0) (l:=fs) rfl YW (λh=>by grind)
  have hlm:(fs.mergeSort λx y=>Zd (x<=y)).length=fs.length:=Rk _
  exact LR hk hq IN hw2 TZ hso (GD (l:=fs.mergeSort λx y=>Zd (x<=y)) (by omega) (λh=>by grind))
theorem LV{w:iS}(hw:w.ok){bV bv:Int}(hn:(aj w.f bv).length<=1000){l:List tO}{rs:List BY}{p:oN}{r:TC}
  (hs:ah p.reqs) (hf:∀q∈p.reqs,q.Do.length<=1048576) (hb:rs.length+(p.reqs.map λq=>q.Do.length).sum*1001001<=3000000000000) :
  CW MK Or (hA w) false (.loop (sub Nj 0)) (doS w bV bv l rs p r (p.reqs.map M5) (p.reqs.length:Int) 0) (.exit 0) (doE w l (rs++(p.reqs.map (sx w bV bv)).flatten) p r ((p.reqs.map (sB w bV bv)).map M5)):=by
 have hQ:∀(l:List T2),((l.map (sx w bV bv)).flatten).length<=(l.map λq=>q.Do.length).sum*1001001:=by
  intro l
  induction l with
  | nil=>simp
  | cons q l ih =>
   have:=yL (bV:=bV) hn q
   grind
 have hT (k:Nat) (hk:k<p.reqs.length):((p.reqs.take k).map λq=>q.Do.length).sum+(p.reqs[k]).Do.length<=(p.reqs.map λq=>q.Do.length).sum:=by
  conv=>rhs;rw[<-List.take_append_drop k p.reqs,O8,List.sum_append,R6 hk,Pr,List.sum_cons]
  omega
 have h0:=P4 (P:=MK) (Γ:=Or) (h0:=hA w) (rd:=false) (c:=sub Nj 0) p.reqs.length (λk=>doS w bV bv l (rs++((p.reqs.take k).map (sx w bV bv)).flatten) p r (((p.reqs.take k).map (sB w bV bv)++p.reqs.drop k).map M5) (p.reqs.length:Int) (k:Int)) (e:=.exit 0) (by simp) (λk hk=>?_) (LT (by simp))
 ·grind
 ·have hq:p.reqs[k]? = some p.reqs[k]:=Nh hk
  have hlk:((p.reqs.take k).map (sB w bV bv)).length=k:=by rw[N7,Px];omega
  have e1:((p.reqs.take (k+1)).map (sx w bV bv)).flatten=((p.reqs.take k).map (sx w bV bv)).flatten++sx w bV bv p.reqs[k]:=by
   rw[PN hk,O8,List.flatten_append];simp
  have e3:((p.reqs.take k).map (sB w bV bv)++p.reqs.drop k).map M5=((p.reqs.take k).map (sB w bV bv)).map M5++(p.reqs[k]).row::(p.reqs.drop (k+1)).map M5:=by
   rw[R6 hk,O8,Pr]
  have hLk:(((p.reqs.take k).map (sB w bV bv)++p.reqs.drop k).map M5)[k]? = some (p.reqs[k]).row:=by
   rw[e3,NJ (by grind),N7,hlk,Nat.sub_self];rfl
  have e2:(((p.reqs.take k).map (sB w bV bv)++p.reqs.drop k).map M5).set k (sB w bV bv p.reqs[k]).row=((p.reqs.take (k+1)).map (sB w bV bv)++p.reqs.drop (k+1)).map M5:=by
   rw[e3,List.set_append_right _ _ (by grind),N7,hlk,Nat.sub_self,List.set_cons_zero,PN hk]
   simp only[O8,Qq,Pr,List.map_nil,List.cons_append,List.nil_append]
  have hb1:=hQ (p.reqs.take k)
  have YY:=hT k hk
  have hb3:=Nat.mul_le_mul_right 1001001 YY
  rw[Nat.add_mul] at hb3
  have Us:=LU hw (bV:=bV) (n:=(p.reqs.length:Int)) hn (l:=l) (rs:=rs++((p.reqs.take k).map (sx w bV bv)).flatten) (p:=p) (r:=r) (hf _ (List.mem_of_getElem? hq)) (by grind) hLk (by simp;omega) (T4 hk hs)
  grind
theorem cl_ct:(CW MK At [] false (cR (cL (cR (ar O5)))) {t:=DO 8 0 [(0,ab []),(2,nq),(3,ab []),(4,iF true)],h:=[],m:=[]} .ret {t:=DO 8 0 [(2,nq)],h:=[],m:=[]}):=by
 exact yx [.st (.mask [2])] [.e]
theorem DB{qs:List BY}(hb:qs.length<=3000000000000):Ev MK At 39 [ab (M2 qs),.ref (.ptr 0 0)] [.var [.ref (.bY 1 0)],.bY [] 0 5] (.Tt []) [.var [.ref (.bY 1 1)],.bY (ad (M2 qs)) 1 5]:=uZ (rs:=[]) (by simpa using hb)
abbrev VT:List D:=DO 167 0 [(10,.ref (.ptr 1 0)),(11,.ref (.ptr 2 0)),(12,.ref (.ptr 3 0)),(13,.ref (.ptr 4 0))]
abbrev clo:D:=.fn (.func 39) [] [.ref (.ptr 3 0)]
abbrev sgA(w:iS)(st n bV bv:Int):AS:={t:=DO 167 0 [(1,aT st),(2,aT n),(3,aT bV),(4,aT bv),(5,.ref (.ptr 0 0)),(10,.ref (.ptr 1 0)),(11,.ref (.ptr 2 0)),(12,.ref (.ptr 3 0)),(13,.ref (.ptr 4 0))],h:=[.var w.l,.var [nq,aT 0,nq],.var [iF false],.var [nq],.var [aT 0]],m:=[]}
abbrev sgB(w:iS)(bV bv:Int)(q1 q2:List BY)(p:oN)(r:TC)(e1:Int):AS:={t:=DO 167 0 [(3,aT bV),(4,aT bv),(5,.ref (.ptr 0 0)),(10,.ref (.ptr 1 0)),(11,.ref (.ptr 2 0)),(12,.ref (.ptr 3 0)),(13,.ref (.ptr 4 0)),(14,clo),(15,.ref (.ptr 6 0)),(16,ab (M2 q2)),(18,.ref (.ptr 7 0)),(19,aT e1)],h:=Zy w q1 0 p.l r,m:=[]}
noncomputable abbrev LW(w:iS)(p:oN)(q1:List BY):List iN:=[.var [ab (ML MX w.c),ab w.p,ab (ML M4 w.s),ab (ML MY w.f)],.var [nq,aT 0,nq],.var [iF false],.var [.ref (.bY 5 0)],.var [aT 0],.bY (ad (M2 q1)) 0 5,.var [aq p.nm,aT p.number,aT p.T3,aT p.ON,aT p.num,aT p.den,ab (ML M5 p.reqs)]]
noncomputable abbrev LX(w:iS):List iN:=[.var [ab (ML MX w.c),ab w.p,ab (ML M4 w.s),ab (ML MY w.f)],.var [nq,aT 0,nq],.var [iF false],.var [.ref (.bY 5 0)],.var [aT 0],.bY [] 0 5]
theorem dg_A{w:iS}{st n bV bv e1:Int}{p:oN}{r:TC}{q1 q2:List BY}{e:Exit}{H:List iN}(hb:q1.length<=1000000)
  (hp:∀h,Ev MK Or 40 [.agg w.l,aT n,aT bV,aT bv] h (.Tt [.agg p.l,ab (M2 q1),iF true]) h)
  (hr:∀h,Ev MK Or 41 [.agg w.l,aT st,aT bV,aT bv] h (.Tt [.agg r.l,ab (M2 q2),aT e1]) h)
  (ht:CW MK Or (hA w) false (bc (ar Nj) 8) (sgB w bV bv q1 q2 p r e1) e {t:=VT,h:=H,m:=[]}):(CW MK Or (hA w) false (cR (cR (ar Nj))) (sgA w st n bV bv) e {t:=VT,h:=H,m:=[]}):=by
 have Tv:=(@ht)
 refine yx [] [.o (.WS 3 0 5),.v (@hp (LX w)),.c ((fX [3,5] (M9 (@DB q1 (by omega))) ⟨?_,trivial⟩ ⟨?_,trivial⟩):Ev MK Or 39 [ab (M2 q1),.ref (.ptr 3 0)] [.var (Nz w),.var [nq,aT 0,nq],.var [iF false],.var [.ref (.bY 5 0)],.var [aT 0],.bY [] 0 5,.var [aq p.nm,aT p.number,aT p.T3,aT p.ON,aT p.num,aT p.den,ab (ML M5 p.reqs)]] (Nt []) [.var (Nz w),.var [nq,aT 0,nq],.var [iF false],.var [.ref (.bY 5 1)],.var [aT 0],.bY (ad (M2 q1)) 1 5,.var [aq p.nm,aT p.number,aT p.T3,aT p.ON,aT p.num,aT p.den,ab (ML M5 p.reqs)]]),((by exact aX _ _):ML (Nm (ax 5 1 0)) (ad (M2 q1))=ad (M2 q1)),.e,.o (.Vz 5 0),.v (@hr (LW w p q1)),Tv,.a1 (.WE [3,4,5,10,11,12,13,14,15,16,18,19] e {t:=DO 167 0 [(10,.ref (.ptr 1 0)),(11,.ref (.ptr 2 0)),(12,.ref (.ptr 3 0)),(13,.ref (.ptr 4 0))],h:=H})]<;>(first|rfl|exact ak _ _)
abbrev sgB9(w:iS)(bV bv:Int)(q1 q2:List BY)(p:oN)(r:TC):AS:={t:=DO 167 0 [(3,aT bV),(4,aT bv),(5,.ref (.ptr 0 0)),(10,.ref (.ptr 1 0)),(11,.ref (.ptr 2 0)),(12,.ref (.ptr 3 0)),(13,.ref (.ptr 4 0)),(14,clo),(15,.ref (.ptr 6 0)),(16,ab (M2 q2)),(18,.ref (.ptr 7 0))],h:=Zy w q1 0 p.l r,m:=[]}
abbrev sgC(w:iS)(bV bv:Int)(rs q3:List BY)(p:oN)(r:TC)(l:List tO)(e2:Int):AS:={t:=DO 167 0 [(3,aT bV),(4,aT bv),(5,.ref (.ptr 0 0)),(10,.ref (.ptr 1 0)),(11,.ref (.ptr 2 0)),(12,.ref (.ptr 3 0)),(13,.ref (.ptr 4 0)),(14,clo),(15,.ref (.ptr 6 0)),(16,ab (M2 q3)),(19,aT e2),(20,ab (l.map MQ))],h:=Zy w rs 0 p.l r,m:=[]}
noncomputable abbrev LY(w:iS)(p:oN)(r:TC)(q1:List BY)(q2:List BY):List iN:=[.var [ab (ML MX w.c),ab w.p,ab (ML M4 w.s),ab (ML MY w.f)],.var [nq,aT 0,nq],.var [iF false],.var [.ref (.bY 5 0)],.var [aT 0],.bY (ad (M2 (q1++q2))) 0 5,.var [aq p.nm,aT p.number,aT p.T3,aT p.ON,aT p.num,aT p.den,ab (ML M5 p.reqs)],.var [aT r.st,ab (ML MQ r.a)]]
noncomputable abbrev LZ(w:iS)(p:oN)(r:TC)(q1:List BY):List iN:=[.var [ab (ML MX w.c),ab w.p,ab (ML M4 w.s),ab (ML MY w.f)],.var [nq,aT 0,nq],.var [iF false],.var [.ref (.bY 5 0)],.var [aT 0],.bY (ad (M2 q1)) 0 5,.var [aq p.nm,aT p.number,aT p.T3,aT p.ON,aT p.num,aT p.den,ab (ML M5 p.reqs)],.var [aT r.st,ab (ML MQ r.a)]]
theorem dg_B{w:iS}{bV bv e2:Int}{p:oN}{r:TC}{q1 q2 q3:List BY}{l:List tO}{e:Exit}{H:List iN}(hb:q1.length+q2.length<=3000000000000)
  (hc:∀h,Ev MK Or 43 [.agg w.l,.agg r.l,aT bV,aT bv] h (.Tt [ab (l.map MQ),ab (M2 q3),aT e2]) h)
  (ht:CW MK Or (hA w) false (bc (ar Nj) 11) (sgC w bV bv (q1++q2) q3 p r l e2) e {t:=VT,h:=H,m:=[]}):(CW MK Or (hA w) false (bc (ar Nj) 9) (sgB9 w bV bv q1 q2 p r) e {t:=VT,h:=H,m:=[]}):=by
 have Tv:=(@ht)
 refine yx [] [.c ((fX [3,5] (M9 (@uZ q1 q2 hb)) ⟨?_,trivial⟩ ⟨?_,trivial⟩):Ev MK Or 39 [ab (M2 q2),.ref (.ptr 3 0)] (LZ w p r q1) (Nt []) [.var (Nz w),.var [nq,aT 0,nq],.var [iF false],.var [.ref (.bY 5 1)],.var [aT 0],.bY (ad (M2 (q1++q2))) 1 5,.var [aq p.nm,aT p.number,aT p.T3,aT p.ON,aT p.num,aT p.den,ab (ML M5 p.reqs)],.var [aT r.st,ab (ML MQ r.a)]]),((by exact aX _ _):ML (Nm (ax 5 1 0)) (ad (M2 (q1++q2)))=ad (M2 (q1++q2))),.o (.Vz 5 0),.v (@hc (LY w p r q1 q2)),Tv,.a1 (.WE [3,4,5,10,11,12,13,14,15,16,19,20] e {t:=DO 167 0 [(10,.ref (.ptr 1 0)),(11,.ref (.ptr 2 0)),(12,.ref (.ptr 3 0)),(13,.ref (.ptr 4 0))],h:=H})]<;>(exact ak _ _)
abbrev L0(w:iS)(bV bv:Int)(rs q3:List BY)(p:oN)(r:TC)(l:List tO):AS:={t:=DO 167 0 [(3,aT bV),(4,aT bv),(5,.ref (.ptr 0 0)),(10,.ref (.ptr 1 0)),(11,.ref (.ptr 2 0)),(12,.ref (.ptr 3 0)),(13,.ref (.ptr 4 0)),(14,clo),(15,.ref (.ptr 6 0)),(16,ab (M2 q3)),(20,ab (l.map MQ))],h:=Zy w rs 0 p.l r,m:=[]}
abbrev H0(w:iS)(rs:List BY)(x1 x3:List (List Dp))(ms:Int)(p:oN)(r:TC):List iN:=[.var w.l,.var [ab x1,aT ms,ab x3],.var [iF false],.var [.ref (.bY 5 0)],.var [aT 0],.bY (ad (M2 rs)) 0 5,.var p.l,.var r.l]
abbrev sgD(w:iS)(rs:List BY)(x1 x3:List (List Dp))(ms:Int)(p:oN)(r:TC)(l:List tO)(e3:Int):AS:={t:=DO 167 0 [(10,.ref (.ptr 1 0)),(11,.ref (.ptr 2 0)),(12,.ref (.ptr 3 0)),(13,.ref (.ptr 4 0)),(15,.ref (.ptr 6 0)),(19,aT e3),(20,ab (l.map MQ))],h:=H0 w rs x1 x3 ms p r,m:=[]}
noncomputable abbrev L4(w:iS)(p:oN)(Q:List T2)(r:TC)(rs:List BY)(q3:List BY)(q4:List BY):List iN:=[.var [ab (ML MX w.c),ab w.p,ab (ML M4 w.s),ab (ML MY w.f)],.var [nq,aT 0,nq],.var [iF false],.var [.ref (.bY 5 0)],.var [aT 0],.bY (ad (M2 (rs++q3++q4))) 0 5,.var [aq p.nm,aT p.number,aT p.T3,aT p.ON,aT p.num,aT p.den,ab (ML M5 Q)],.var [aT r.st,ab (ML MQ r.a)]]
noncomputable abbrev L5(w:iS)(p:oN)(r:TC)(rs:List BY):List iN:=[.var [ab (ML MX w.c),ab w.p,ab (ML M4 w.s),ab (ML MY w.f)],.var [nq,aT 0,nq],.var [iF false],.var [.ref (.bY 5 0)],.var [aT 0],.bY (ad (M2 rs)) 0 5,.var [aq p.nm,aT p.number,aT p.T3,aT p.ON,aT p.num,aT p.den,ab (ML M5 p.reqs)],.var [aT r.st,ab (ML MQ r.a)]]
theorem dg_C{w:iS}{bV bv ms e3:Int}{p:oN}{Q:List T2}{r:TC}{rs q3 q4:List BY}{l:List tO}{x1 x3:List (List Dp)}{e:Exit}{H:List iN}(hb:rs.length+q3.length<=3000000000000)
  (Vs:Ev MK At 44 [ab (p.reqs.map M5)] [] (.ref (.bY 0 1)) [.bY (ad (p.reqs.map M5)) 1 6])
  (hl:CW MK Or (hA w) false (.loop (sub Nj 0)) (doS w bV bv l (rs++q3) p r (p.reqs.map M5) ((ad (p.reqs.map M5)).length:Int) 0) (.exit 0) (doE w l (rs++q3++q4) p r (Q.map M5)))
  (ha:∀h,Ev MK At 49 [.agg (oN.l ⟨p.nm,p.number,p.T3,p.ON,p.num,p.den,Q⟩),ab (l.map MQ)] h (.Tt [.agg [ab x1,aT ms,ab x3],aT e3]) h)
  (ht:CW MK Or (hA w) false (bc (ar Nj) 29) (sgD w (rs++q3++q4) x1 x3 ms ⟨p.nm,p.number,p.T3,p.ON,p.num,p.den,Q⟩ r l e3) e {t:=VT,h:=H,m:=[]}):(CW MK Or (hA w) false (bc (ar Nj) 12) (L0 w bV bv rs q3 p r l) e {t:=VT,h:=H,m:=[]}):=by
 have Tv:=(@hl)
 have W1:=(@ht)
 let v0:List D:=[aT r.st,ab (ML MQ r.a)]
 let v1:=ML M5 p.reqs
 refine yx [] [.c ((fX [3,5] (M9 (@uZ rs q3 hb)) ⟨(by subst v0 v1;exact ak _ _),trivial⟩ ⟨(by subst v0 v1;exact ak _ _),trivial⟩):Ev MK Or 39 [ab (M2 q3),.ref (.ptr 3 0)] (L5 w p r rs) (Nt []) [.var (Nz w),.var [nq,aT 0,nq],.var [iF false],.var [.ref (.bY 5 1)],.var [aT 0],.bY (ad (M2 (rs++q3))) 1 5,.var [aq p.nm,aT p.number,aT p.T3,aT p.ON,aT p.num,aT p.den,ab v1],.var v0]),(?_:ML (Nm (ax 5 1 0)) (ad (M2 (rs++q3)))=ad (M2 (rs++q3))),.o (.Vz 5 0),.c ((fX [] (M9 (@Vs)) trivial ⟨(by subst v0 v1;exact ak _ _),trivial⟩):Ev MK Or 44 [ab v1] [.var (Nz w),.var [nq,aT 0,nq],.var [iF false],.var [.ref (.bY 5 0)],.var [aT 0],.bY (ad (M2 (rs++q3))) 0 5,.var [aq p.nm,aT p.number,aT p.T3,aT p.ON,aT p.num,aT p.den,ab v1],.var v0] (.ref (.bY 8 1)) [.var (Nz w),.var [nq,aT 0,nq],.var [iF false],.var [.ref (.bY 5 0)],.var [aT 0],.bY (ad (M2 (rs++q3))) 0 5,.var [aq p.nm,aT p.number,aT p.T3,aT p.ON,aT p.num,aT p.den,ab v1],.var v0,.bY (ad v1) 1 6]),.s [3,4,5,10,11,12,13,14,15,20,82,83,84] Tv,(?_:ad (ML M5 Q)=ML (λx=>ML PS x) (ML M5 Q)),(?_:ML (Nm (ed 8 1 (ML M5 Q))) (ad (M2 (rs++q3++q4)))=ad (M2 (rs++q3++q4))),(rfl:MZ 8 (match 0==8 with|true=>.T1|false=>ST (ed 8 1 (ML M5 Q)) (.var (Nz w)))=true),(rfl:MZ 8 (match 0+1==8 with|true=>.T1|false=>ST (ed 8 1 (ML M5 Q)) (.var [nq,aT 0,nq]))=true),(rfl:MZ 8 (match 0+1+1==8 with|true=>.T1|false=>ST (ed 8 1 (ML M5 Q)) (.var [iF false]))=true),(rfl:MZ 8 (match 0+1+1+1==8 with|true=>.T1|false=>ST (ed 8 1 (ML M5 Q)) (.var [.ref (.bY 5 0)]))=true),(rfl:MZ 8 (match 0+1+1+1+1==8 with|true=>.T1|false=>ST (ed 8 1 (ML M5 Q)) (.var [aT 0]))=true),(?_:MZ 8 (match 0+1+1+1+1+1==8 with|true=>.T1|false=>ST (ed 8 1 (ML M5 Q)) (.bY (ad (M2 (rs++q3++q4))) 0 5))=true),(rfl:MZ 8 (match 0+1+1+1+1+1+1==8 with|true=>.T1|false=>ST (ed 8 1 (ML M5 Q)) (.var [aq p.nm,aT p.number,aT p.T3,aT p.ON,aT p.num,aT p.den,.ref (.bY 8 1)]))=true),(rfl:MZ 8 (match 0+1+1+1+1+1+1+1==8 with|true=>.T1|false=>ST (ed 8 1 (ML M5 Q)) (.var v0))=true),.o (.Vw 8 (ML M5 Q)),.o (.TD 8),.v (M9 (Γ':=Or) (@ha (L4 w p Q r rs q3 q4))),W1,.a1 (.WE [10,11,12,13,15,19,20] e {t:=DO 167 0 [(10,.ref (.ptr 1 0)),(11,.ref (.ptr 2 0)),(12,.ref (.ptr 3 0)),(13,.ref (.ptr 4 0))],h:=H})]<;>subst v0 v1<;>(first|rfl|exact bZ _ _|exact aX _ _)
abbrev doZ(w:iS)(bV bv:Int)(l:List tO)(rs:List BY)(p:List D)(r:TC):AS :=
 {t:=DO 167 0 [(3,aT bV),(4,aT bv),(5,.ref (.ptr 0 0)),(10,.ref (.ptr 1 0)),(11,.ref (.ptr 2 0)),(12,.ref (.ptr 3 0)),(13,.ref (.ptr 4 0)),(14,clo),(15,.ref (.ptr 6 0)),(20,ab (l.map MQ)),(82,ab []),(83,aT 0),(84,aT 0)],
  h:=Zy w rs 0 p r,m:=[]}
abbrev doZE(w:iS)(l:List tO)(rs:List BY)(p:List D)(r:TC):AS :=
 {t:=DO 167 0 [(10,.ref (.ptr 1 0)),(11,.ref (.ptr 2 0)),(12,.ref (.ptr 3 0)),(13,.ref (.ptr 4 0)),(15,.ref (.ptr 6 0)),(20,ab (l.map MQ))],h:=Zy w rs 0 p r,m:=[]}
theorem GH{w:iS}{bV bv:Int}{l:List tO}{rs:List BY}{p:List D}{r:TC}:(CW MK Or (hA w) false (sub Nj 0) (doZ w bV bv l rs p r) (.exit 0) (doZE w l rs p r)):=by
 exact yx [.st (.mask [10,11,12,13,15,20])] [.e]
theorem doZ_cw{w:iS}{bV bv:Int}{l:List tO}{rs:List BY}{p:List D}{r:TC}:CW MK Or (hA w) false (.loop (sub Nj 0)) (doZ w bV bv l rs p r) (.exit 0) (doZE w l rs p r) :=
 P4 (P:=MK) (Γ:=Or) (h0:=hA w) (rd:=false) (c:=sub Nj 0) 0 (λ_=>doZ w bV bv l rs p r) (by simp) (λi hi=>absurd hi (PG i)) GH
abbrev pZ(p:oN):oN:=⟨p.nm,p.number,p.T3,p.ON,p.num,p.den,[]⟩
noncomputable abbrev yM(w:iS)(p:oN)(r:TC)(rs:List BY)(q3:List BY):List iN:=[.var [ab (ML MX w.c),ab w.p,ab (ML M4 w.s),ab (ML MY w.f)],.var [nq,aT 0,nq],.var [iF false],.var [.ref (.bY 5 0)],.var [aT 0],.bY (ad (M2 (rs++q3))) 0 5,.var [aq p.nm,aT p.number,aT p.T3,aT p.ON,aT p.num,aT p.den,ab []],.var [aT r.st,ab (ML MQ r.a)]]
noncomputable abbrev GI(w:iS)(p:oN)(r:TC)(rs:List BY):List iN:=[.var [ab (ML MX w.c),ab w.p,ab (ML M4 w.s),ab (ML MY w.f)],.var [nq,aT 0,nq],.var [iF false],.var [.ref (.bY 5 0)],.var [aT 0],.bY (ad (M2 rs)) 0 5,.var [aq p.nm,aT p.number,aT p.T3,aT p.ON,aT p.num,aT p.den,ab []],.var [aT r.st,ab (ML MQ r.a)]]
theorem dg_C0{w:iS}{bV bv ms e3:Int}{p:oN}{r:TC}{rs q3:List BY}{l:List tO}{x1 x3:List (List Dp)}{e:Exit}{H:List iN}(hb:rs.length+q3.length<=3000000000000)
  (Vs:∀h,Ev MK At 44 [ab []] h (ab []) h)
  (ha:∀h,Ev MK At 49 [.agg (pZ p).l,ab (l.map MQ)] h (.Tt [.agg [ab x1,aT ms,ab x3],aT e3]) h)
  (ht:CW MK Or (hA w) false (bc (ar Nj) 29) (sgD w (rs++q3) x1 x3 ms (pZ p) r l e3) e {t:=VT,h:=H,m:=[]}):(CW MK Or (hA w) false (bc (ar Nj) 12) (L0 w bV bv rs q3 (pZ p) r l) e {t:=VT,h:=H,m:=[]}):=by
 have Tv:=(@doZ_cw (w) (bV) (bv) (l) (rs++q3) ([aq p.nm,aT p.number,aT p.T3,aT p.ON,aT p.num,aT p.den,ab []]) (r))
 have W1:=(@ht)
 refine yx [] [.c ((fX [3,5] (M9 (@uZ rs q3 hb)) ⟨?_,trivial⟩ ⟨?_,trivial⟩):Ev MK Or 39 [ab (M2 q3),.ref (.ptr 3 0)] (GI w p r rs) (Nt []) [.var (Nz w),.var [nq,aT 0,nq],.var [iF false],.var [.ref (.bY 5 1)],.var [aT 0],.bY (ad (M2 (rs++q3))) 1 5,.var [aq p.nm,aT p.number,aT p.T3,aT p.ON,aT p.num,aT p.den,ab []],.var [aT r.st,ab (ML MQ r.a)]]),((by exact aX _ _):ML (Nm (ax 5 1 0)) (ad (M2 (rs++q3)))=ad (M2 (rs++q3))),.o (.Vz 5 0),.v (M9 (Γ':=Or) (@Vs (yM w p r rs q3))),.s [3,4,5,10,11,12,13,14,15,20,82,83,84] Tv,.v (M9 (Γ':=Or) (@ha (yM w p r rs q3))),W1,.a1 (.WE [10,11,12,13,15,19,20] e {t:=DO 167 0 [(10,.ref (.ptr 1 0)),(11,.ref (.ptr 2 0)),(12,.ref (.ptr 3 0)),(13,.ref (.ptr 4 0))],h:=H})]<;>(exact ak _ _)
abbrev sgD30(w:iS)(rs:List BY)(x1 x3:List (List Dp))(ms:Int)(p:oN)(r:TC)(l:List tO):AS:={t:=DO 167 0 [(10,.ref (.ptr 1 0)),(11,.ref (.ptr 2 0)),(12,.ref (.ptr 3 0)),(13,.ref (.ptr 4 0)),(15,.ref (.ptr 6 0)),(20,ab (l.map MQ))],h:=H0 w rs x1 x3 ms p r,m:=[]}
abbrev sgE(w:iS)(rs:List BY)(x1 x3:List (List Dp))(ms:Int)(p:oN)(r:TC)(l:List tO)(en e4:Int):AS:={t:=DO 167 0 [(10,.ref (.ptr 1 0)),(11,.ref (.ptr 2 0)),(12,.ref (.ptr 3 0)),(13,.ref (.ptr 4 0)),(15,.ref (.ptr 6 0)),(19,aT e4),(20,ab (l.map MQ)),(28,aT en)],h:=H0 w rs x1 x3 ms p r,m:=[]}
noncomputable abbrev L6(w:iS)(ms:Int)(p:oN)(r:TC)(rs:List BY)(x1:List (List Dp))(x3:List (List Dp)):List iN:=[.var [ab (ML MX w.c),ab w.p,ab (ML M4 w.s),ab (ML MY w.f)],.var [ab x1,aT ms,ab x3],.var [iF false],.var [.ref (.bY 5 0)],.var [aT 0],.bY (ad (M2 rs)) 0 5,.var [aq p.nm,aT p.number,aT p.T3,aT p.ON,aT p.num,aT p.den,ab (ML M5 p.reqs)],.var [aT r.st,ab (ML MQ r.a)]]
theorem dg_D{w:iS}{ms en e4:Int}{p:oN}{r:TC}{rs:List BY}{l:List tO}{x1 x3:List (List Dp)}{e:Exit}{H:List iN}
  (he:∀h,Ev MK At 50 [ab (l.map MQ)] h (.Tt [aT en,aT e4]) h)
  (ht:CW MK Or (hA w) false (bc (ar Nj) 31) (sgE w rs x1 x3 ms p r l en e4) e {t:=VT,h:=H,m:=[]}):(CW MK Or (hA w) false (bc (ar Nj) 30) (sgD30 w rs x1 x3 ms p r l) e {t:=VT,h:=H,m:=[]}):=by
 have Tv:=(@ht)
 exact yx [] [.v (M9 (Γ':=Or) (@he (L6 w ms p r rs x1 x3))),Tv,.a1 (.WE [10,11,12,13,15,19,20,28] e {t:=DO 167 0 [(10,.ref (.ptr 1 0)),(11,.ref (.ptr 2 0)),(12,.ref (.ptr 3 0)),(13,.ref (.ptr 4 0))],h:=H})]
abbrev sgE32(w:iS)(rs:List BY)(x1 x3:List (List Dp))(ms:Int)(p:oN)(r:TC)(l:List tO)(en:Int):AS:={t:=DO 167 0 [(10,.ref (.ptr 1 0)),(11,.ref (.ptr 2 0)),(12,.ref (.ptr 3 0)),(13,.ref (.ptr 4 0)),(15,.ref (.ptr 6 0)),(20,ab (l.map MQ)),(28,aT en)],h:=H0 w rs x1 x3 ms p r,m:=[]}
abbrev sgF(w:iS)(rs:List BY)(x1 x3:List (List Dp))(ms:Int)(p:oN)(r:TC)(en mn md e5:Int):AS:={t:=DO 167 0 [(10,.ref (.ptr 1 0)),(11,.ref (.ptr 2 0)),(12,.ref (.ptr 3 0)),(13,.ref (.ptr 4 0)),(15,.ref (.ptr 6 0)),(19,aT e5),(28,aT en),(29,.ref (.ptr 8 0))],h:=H0 w rs x1 x3 ms p r++[.var [aT mn,aT md]],m:=[]}
noncomputable abbrev L7(w:iS)(ms:Int)(p:oN)(r:TC)(rs:List BY)(x1:List (List Dp))(x3:List (List Dp)):List iN:=[.var [ab (ML MX w.c),ab w.p,ab (ML M4 w.s),ab (ML MY w.f)],.var [ab x1,aT ms,ab x3],.var [iF false],.var [.ref (.bY 5 0)],.var [aT 0],.bY (ad (M2 rs)) 0 5,.var [aq p.nm,aT p.number,aT p.T3,aT p.ON,aT p.num,aT p.den,ab (ML M5 p.reqs)],.var [aT r.st,ab (ML MQ r.a)]]
theorem dg_E{w:iS}{ms en mn md e5:Int}{p:oN}{r:TC}{rs:List BY}{l:List tO}{x1 x3:List (List Dp)}{e:Exit}{H:List iN}
  (hm:∀h,Ev MK At 51 [ab (l.map MQ)] h (.Tt [.agg [aT mn,aT md],aT e5]) h)
  (ht:CW MK Or (hA w) false (bc (ar Nj) 33) (sgF w rs x1 x3 ms p r en mn md e5) e {t:=VT,h:=H,m:=[]}):(CW MK Or (hA w) false (bc (ar Nj) 32) (sgE32 w rs x1 x3 ms p r l en) e {t:=VT,h:=H,m:=[]}):=by
 have Tv:=(@ht)
 exact yx [] [.v (M9 (Γ':=Or) (@hm (L7 w ms p r rs x1 x3))),Tv,.a1 (.WE [10,11,12,13,15,19,28,29] e {t:=DO 167 0 [(10,.ref (.ptr 1 0)),(11,.ref (.ptr 2 0)),(12,.ref (.ptr 3 0)),(13,.ref (.ptr 4 0))],h:=H})]
abbrev sgF34(w:iS)(rs:List BY)(x1 x3:List (List Dp))(ms:Int)(p:oN)(r:TC)(en mn md:Int):AS:={t:=DO 167 0 [(10,.ref (.ptr 1 0)),(11,.ref (.ptr 2 0)),(12,.ref (.ptr 3 0)),(13,.ref (.ptr 4 0)),(15,.ref (.ptr 6 0)),(28,aT en),(29,.ref (.ptr 8 0))],h:=H0 w rs x1 x3 ms p r++[.var [aT mn,aT md]],m:=[]}
abbrev sgG(w:iS)(rs:List BY)(x1 x3:List (List Dp))(ms:Int)(p:oN)(r:TC)(en mn md c e6:Int):AS:={t:=DO 167 0 [(10,.ref (.ptr 1 0)),(11,.ref (.ptr 2 0)),(12,.ref (.ptr 3 0)),(13,.ref (.ptr 4 0)),(15,.ref (.ptr 6 0)),(19,aT e6),(28,aT en),(30,aT c)],h:=H0 w rs x1 x3 ms p r++[.var [aT mn,aT md]],m:=[]}
noncomputable abbrev L8(w:iS)(ms:Int)(mn:Int)(md:Int)(p:oN)(r:TC)(rs:List BY)(x1:List (List Dp))(x3:List (List Dp)):List iN:=[.var [ab (ML MX w.c),ab w.p,ab (ML M4 w.s),ab (ML MY w.f)],.var [ab x1,aT ms,ab x3],.var [iF false],.var [.ref (.bY 5 0)],.var [aT 0],.bY (ad (M2 rs)) 0 5,.var [aq p.nm,aT p.number,aT p.T3,aT p.ON,aT p.num,aT p.den,ab (ML M5 p.reqs)],.var [aT r.st,ab (ML MQ r.a)],.var [aT mn,aT md]]
theorem dg_F{w:iS}{ms en mn md c e6:Int}{p:oN}{r:TC}{rs:List BY}{x1 x3:List (List Dp)}{e:Exit}{H:List iN}
  (hm:∀h,Ev MK At 52 [.agg [aT mn,aT md],.agg [aT p.num,aT p.den]] h (.Tt [aT c,aT e6]) h)
  (ht:CW MK Or (hA w) false (bc (ar Nj) 35) (sgG w rs x1 x3 ms p r en mn md c e6) e {t:=VT,h:=H,m:=[]}):(CW MK Or (hA w) false (bc (ar Nj) 34) (sgF34 w rs x1 x3 ms p r en mn md) e {t:=VT,h:=H,m:=[]}):=by
 have Tv:=(@ht)
 exact yx [] [.v (M9 (Γ':=Or) (@hm (L8 w ms mn md p r rs x1 x3))),Tv,.a1 (.WE [10,11,12,13,15,19,28,30] e {t:=DO 167 0 [(10,.ref (.ptr 1 0)),(11,.ref (.ptr 2 0)),(12,.ref (.ptr 3 0)),(13,.ref (.ptr 4 0))],h:=H})]
abbrev sgG36(w:iS)(rs:List BY)(x1 x3:List (List Dp))(ms:Int)(p:oN)(r:TC)(en mn md c:Int):AS:={t:=DO 167 0 [(10,.ref (.ptr 1 0)),(11,.ref (.ptr 2 0)),(12,.ref (.ptr 3 0)),(13,.ref (.ptr 4 0)),(15,.ref (.ptr 6 0)),(28,aT en),(30,aT c)],h:=H0 w rs x1 x3 ms p r++[.var [aT mn,aT md]],m:=[]}
theorem dg_G{w:iS}{ms en mn md c:Int}{p:oN}{r:TC}{rs:List BY}{x1 x3:List (List Dp)}:(CW MK Or (hA w) false (bc (ar Nj) 36) (sgG36 w rs x1 x3 ms p r en mn md c) .ret {t:=VT,h:=[.var w.l,.var [ab x1,aT ms,ab x3],.var [iF (ms==0&&Zd (en>=p.ON)&&Zd (c>=0))],.var [ab (M2 rs)],.var [aT 0]],m:=[]}):=by
 exact yx [.st (.mask [10,11,12,13]),.st (.Vw 5 (M2 rs)),.st (.TD 5)] [pe (D.agg [ab x1,aT ms,ab x3]),pe (.ref (.ptr 1 1)),po (some (aT ms)),((λhg=>rfl):(ms==0)=true->(.ref (.ptr 6 3):D)=.ref (.ptr 6 3)),((λhg=>rfl):(ms==0)=true->some (aT p.ON)=some (aT p.ON)),po (some (.ref (.bY 5 0))),po (some (.ref (.bY 5 0))),po (some (.ref (.bY 5 0))),((by rfl):ad (M2 rs)=ML (λx=>ML PS x) (M2 rs)),(rfl:MZ 5 (match 0==5 with|true=>.T1|false=>ST (ed 5 0 (M2 rs)) (.var (Nz w)))=true),(rfl:MZ 5 (match 0+1==5 with|true=>.T1|false=>ST (ed 5 0 (M2 rs)) (.var [ab x1,aT ms,ab x3]))=true),(rfl:MZ 5 (match 0+1+1==5 with|true=>.T1|false=>ST (ed 5 0 (M2 rs)) (.var [iF (ms==0&&Zd (en>=p.ON)&&Zd (c>=0))]))=true),(rfl:MZ 5 (match 0+1+1+1==5 with|true=>.T1|false=>ST (ed 5 0 (M2 rs)) (.var [.ref (.bY 5 0)]))=true),(rfl:MZ 5 (match 0+1+1+1+1==5 with|true=>.T1|false=>ST (ed 5 0 (M2 rs)) (.var [aT 0]))=true)]
noncomputable abbrev L9(w:iS):List iN:=[.var [ab (ML MX w.c),ab w.p,ab (ML M4 w.s),ab (ML MY w.f)],.var [nq,aT 0,nq],.var [iF false],.var [.ref (.bY 5 0)],.var [aT 0],.bY [] 0 5]
theorem dg_N{w:iS}{st n bV bv:Int}{pc:List D}{p:oN}{q1:List BY}(hb:q1.length<=1000000)
  (hp:∀h,Ev MK Or 40 [.agg w.l,aT n,aT bV,aT bv] h (.Tt [.agg p.l,ab (M2 q1),iF false]) h):(CW MK Or (hA w) false (cR (cR (ar Nj))) (sgA w st n bV bv) .ret {t:=VT,h:=[.var w.l,.var [nq,aT 0,nq],.var [iF false],.var [ab (M2 q1)],.var [aT 0]],m:=[]}):=by
 refine yx [.st (.mask [10,11,12,13]),.st (.Vw 5 (M2 q1)),.st (.TD 5)] [.o (.WS 3 0 5),.v (@hp (L9 w)),.c ((fX [3,5] (M9 (@DB q1 (by omega))) ⟨?_,trivial⟩ ⟨?_,trivial⟩):Ev MK Or 39 [ab (M2 q1),.ref (.ptr 3 0)] [.var (Nz w),.var [nq,aT 0,nq],.var [iF false],.var [.ref (.bY 5 0)],.var [aT 0],.bY [] 0 5,.var [aq p.nm,aT p.number,aT p.T3,aT p.ON,aT p.num,aT p.den,ab (ML M5 p.reqs)]] (Nt []) [.var (Nz w),.var [nq,aT 0,nq],.var [iF false],.var [.ref (.bY 5 1)],.var [aT 0],.bY (ad (M2 q1)) 1 5,.var [aq p.nm,aT p.number,aT p.T3,aT p.ON,aT p.num,aT p.den,ab (ML M5 p.reqs)]]),pe (D.agg [nq,aT 0,nq]),po (some (.ref (.bY 5 1))),po (some (.ref (.bY 5 1))),po (some (.ref (.bY 5 1))),((by rfl):ad (M2 q1)=ML (λx=>ML PS x) (M2 q1)),(rfl:MZ 5 (match 0==5 with|true=>.T1|false=>ST (ed 5 1 (M2 q1)) (.var (Nz w)))=true),(rfl:MZ 5 (match 0+1==5 with|true=>.T1|false=>ST (ed 5 1 (M2 q1)) (.var [nq,aT 0,nq]))=true),(rfl:MZ 5 (match 0+1+1==5 with|true=>.T1|false=>ST (ed 5 1 (M2 q1)) (.var [iF false]))=true),(rfl:MZ 5 (match 0+1+1+1==5 with|true=>.T1|false=>ST (ed 5 1 (M2 q1)) (.var [.ref (.bY 5 1)]))=true),(rfl:MZ 5 (match 0+1+1+1+1==5 with|true=>.T1|false=>ST (ed 5 1 (M2 q1)) (.var [aT 0]))=true),.e]<;>(first|rfl|exact ak _ _)
end Go.Vi
