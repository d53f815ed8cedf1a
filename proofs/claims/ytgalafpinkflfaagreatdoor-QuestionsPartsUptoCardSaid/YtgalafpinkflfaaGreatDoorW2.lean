/- A part of the proof; no conditions of its own. -/
import Derived.Test.YtgalafpinkflfaaGreatDoorW1
open Bool renaming true->J,false->N
open Option renaming some->G,none->Y
open Go.Vi.S4 renaming st->CE,ov->zcB,inl->Α,val->ZH
open Go.Vi.D renaming JY->tf,agg->kb,ref->fE
open Go.Vi.mX renaming var->eF,P2->J1,EU->xy,loop->Fa
open Go.LoopState renaming ready->E6,exhausted->zap,busy->ω
open Go.Exit renaming exit->E8,normal->w8
open Go.Vi.SOp renaming mask->EZ,frz->τ,trim->zgF
open Go.Vi.Ref renaming ptr->ql
open Decidable renaming decide -> eY
open Go.Vi.uB renaming row -> Tb
open Go.IntKind renaming i64 -> S6, wrap -> S8
open Go.Proofs.Tryz renaming prog -> S5, f161 -> T9, f287 -> YF, f127 -> TV
open List renaming length -> S7, getElem?_eq_some_iff -> Td, mem_of_getElem? -> T6, any_cons -> XK, map -> S2, any -> XS, getElem?_eq_getElem -> TH, getD -> Th, flatten -> Tv, set -> UE
open Go.Exit renaming normal -> Tr, ret -> VM
open Go.Vi.CW renaming each -> UR
open Go.Vi.Ev renaming zkp -> Tw, zjM -> Tp, zhC -> U7
open Go.Vi.Cls renaming row -> Uq
open Go.Vi.Z5 renaming row -> UG
open Go.Vi.D renaming fn -> UL, agg -> TF, JY -> TT
open Go.Fn renaming func -> TM
open Bool renaming not_eq_true' -> UZ
open Go.LoopState renaming busy -> TX, ready -> TJ, done -> W4
open Go.Code renaming ret -> Y9
open Go.Vi.uN renaming row -> Ta
open Int renaming toNat -> S9
open Go.Vi.Dp renaming sl -> UP
open Option renaming some -> Vs
open Go Go.Proofs
namespace Go.Vi
set_option maxRecDepth 100000
set_option maxHeartbeats 4000000
abbrev AT:=List uN
abbrev iN:=List uB
structure zl where
 kind:Int
 zlu:Int
 action:Int
 P4:Int
 deriving Inhabited
def zl.row(a:zl):dO:=[vi a.kind,vi a.zlu,vi a.action,vi a.P4]
def xaF(p:uB->Bool)(c:uB)(s:Nat):Nat⊕Nat:=if p c=true then .inr s else .inl (s+1)
abbrev zby(a:bv)(b:D)(c:Int)(d:aT):AS:={t:=oz 19 0 [(0,ab a),(1,b),(4,dd 0),(7,dd a.length),(8,dd c)],h:=d,m:=[]}
abbrev xaS(fs:bv)(f:D)(h:aT)(i:Int):AS:=(zby fs f i h)
abbrev xaX(h:aT):Nat->Exit×AS:=λk=>(.ret,{t:=oz 19 0 [(4,dd (k:Int))],h:=h,m:=[]})
abbrev zaS(a:Nat):D:=dd (↑a:Int)
abbrev zcg:Do:=[CE (EZ [4])]
abbrev zdS:Do:=[CE (EZ [0,1,4,7,8])]
theorem Pw{fs:List (List Dp)}{i:Nat}{c:uB}{f:D}{h:List mX}{p:uB->Bool}(hr:ao (i:Int) fs (Tb c) 5)(lL:eY ((i:Int)<(fs.length:Int))=true)(hw:S6.wrap ((i:Int)+1)=((i+1:Nat):Int))(hi:Iv S5 fI f [ag (Tb c)] h (eP (p c)) h):(CW S5 fI h false (sub Tryz.f274 0) (xaS fs f h i) (ai (λ_=>xaS fs f h ((i+1:Nat):Int)) (xaX h) (xaF p c i)).1 (ai (λ_=>xaS fs f h ((i+1:Nat):Int)) (xaX h) (xaF p c i)).2):=by
 cases sQ:p c
 ·refine yX {t:=oz 19 0 [(0,ab fs),(1,f),(4,dd 0),(7,dd (↑(S7 fs):Int)),(8,dd (S8 S6 ((↑i:Int)+1)))],h:=h,m:=[]} Tr [.st (.mask [0,1,4,7,8])] [.b lL,.r hr,.i (@hi),.b sQ] ?_ ?_<;>(simp[xaF,ai,hw, *])
 ·refine yX {t:=oz 19 0 [(4,dd (↑i:Int))],h:=h,m:=[]} VM [.st (.mask [4])] [.b lL,.r hr,.i (@hi),.b sQ] ?_ ?_<;>(simp[xaF,ai,hw, *])
abbrev zbt(a:aT):AS:={t:=oz 19 0 [(4,dd 0)],h:=a,m:=[]}
theorem Px{fs:bv}{i:Nat}{f:D}{h:aT}(lL:eY ((i:Int)<(fs.length:Int))=N):(CW S5 fI h N (sub Tryz.f274 0) (xaS fs f h i) (E8 0) (zbt h)):=yx zcg [.b lL]
def xaR(p:uB->Bool)(l:iN):Int:=match zj (xaF p) l 0 with | .inl _=> -1 | .inr k=>(k:Int)
def Py(h:aT)(p:uB->Bool)(l:iN):Exit×AS:=bf (E8 0) (λ_:Nat=>(zbt h)) (xaX h) (zj (xaF p) l 0)
theorem xa_cw{l:iN}(hl:ah l){f:D}{h:aT}{p:uB->Bool}(hf:∀c∈l,Iv S5 fI f [ag (Tb c)] h (eP (p c)) h):CW S5 fI h false (.loop (sub Tryz.f274 0)) (xaS (l.map Tb) f h 0) (Py h p l).1 (Py h p l).2:=by
 refine UR l (xaF p) (λi _=>xaS (l.map Tb) f h (i:Int)) (.exit 0) _ (xaX h) (λi s=>s=i) (by simp) (λ_=>by simp) ?_ ?_ 0 rfl;·intro i c s hc hs;subst hs;have hi:=(Td.1 hc).1;refine⟨λs' h=>?_,Pw (rowAt hc rfl) (EV Tb hi) (sR hi hl) (hf c (T6 hc))⟩;grind [xaF]
 ·intro s hs;exact Px (aR Tb l)
theorem xai_ev{l:iN}(hl:ah l){f:D}{h:aT}{p:uB->Bool}(hf:∀c∈l,Iv S5 fI f [ag (Tb c)] h (eP (p c)) h):(Ev S5 fI 274 [ab (l.map Tb),f] h (dd (xaR p l)) h):=by
 have xd:=(@xa_cw (l) (hl) (f) (h) (p) (hf));unfold Py at xd;revert xd;cases Χ:zj (xaF p) l 0 with
 |inl EW=>intro xd;exact Tw (yF (h':=h) (d:=dd (-1)) [.s [0,1,4,7,8] xd]) (by simp[xaR,Χ]) (by simp[xaR,Χ])
 |inr ζ=>intro xd;exact Tw (yF (h':=h) (d:=(zaS ζ)) [.s [0,1,4,7,8] xd]) (by simp[xaR,Χ]) (by simp[xaR,Χ])
theorem xa_any(p:uB->Bool)(l:iN):∀k:Nat,(match zj (xaF p) l k with | .inl _=>N | .inr _=>J)=l.any p:=by
 induction l with
 |nil=>intro k;rfl
 |cons f l ih=>
  intro k;rw[XK];cases hf:p f;·simp[zj,xaF,hf];exact ih (k+1)
  ·simp[zj,xaF,hf]
theorem xaR_ge(p:uB->Bool)(l:iN):eY (xaR p l>=0)=l.any p:=by rw[<-xa_any p l 0,xaR];split<;>simp
theorem Ma{l:iN}(hl:ah l){f:D}{h:aT}{p:uB->Bool}(hf:∀c∈l,Iv S5 fI f [ag (Tb c)] h (eP (p c)) h):(Ev S5 fI 200 [ab (l.map Tb),f] h (eP (l.any p)) h):=Tw (yF (h':=h) (d:=eP (eY (xaR p l>=0))) [.v (@xai_ev l hl f h p hf)]) (by grind [xaR_ge]) lj
def xcF(p:Cls->Bool)(c:Cls)(s:Nat):Nat⊕Nat:=if p c=true then .inr s else .inl (s+1)
abbrev xcS(fs:bv)(f:D)(h:aT)(i:Int):AS:=(zby fs f i h)
abbrev xcX(h:aT):Nat->Exit×AS:=λk=>(.ret,{t:=oz 19 0 [(4,dd (k:Int))],h:=h,m:=[]})
theorem Pz{fs:List (List Dp)}{i:Nat}{c:Cls}{f:D}{h:List mX}{p:Cls->Bool}(hr:ao (i:Int) fs (Uq c) 4)(lL:eY ((i:Int)<(fs.length:Int))=true)(hw:S6.wrap ((i:Int)+1)=((i+1:Nat):Int))(hi:Iv S5 fI f [ag (Uq c)] h (eP (p c)) h):(CW S5 fI h false (sub Tryz.f331 0) (xcS fs f h i) (ai (λ_=>xcS fs f h ((i+1:Nat):Int)) (xcX h) (xcF p c i)).1 (ai (λ_=>xcS fs f h ((i+1:Nat):Int)) (xcX h) (xcF p c i)).2):=by
 cases sQ:p c
 ·refine yX {t:=oz 19 0 [(0,ab fs),(1,f),(4,dd 0),(7,dd (↑(S7 fs):Int)),(8,dd (S8 S6 ((↑i:Int)+1)))],h:=h,m:=[]} Tr [.st (.mask [0,1,4,7,8])] [.b lL,.r hr,.i (@hi),.b sQ] ?_ ?_<;>(simp[xcF,ai,hw, *])
 ·refine yX {t:=oz 19 0 [(4,dd (↑i:Int))],h:=h,m:=[]} VM [.st (.mask [4])] [.b lL,.r hr,.i (@hi),.b sQ] ?_ ?_<;>(simp[xcF,ai,hw, *])
theorem PA{fs:bv}{i:Nat}{f:D}{h:aT}(lL:eY ((i:Int)<(fs.length:Int))=N):(CW S5 fI h N (sub Tryz.f331 0) (xcS fs f h i) (E8 0) (zbt h)):=yx zcg [.b lL]
def xcR(p:Cls->Bool)(l:List Cls):Int:=match zj (xcF p) l 0 with | .inl _=> -1 | .inr k=>(k:Int)
def PB(h:aT)(p:Cls->Bool)(l:List Cls):Exit×AS:=bf (E8 0) (λ_:Nat=>(zbt h)) (xcX h) (zj (xcF p) l 0)
theorem xc_cw{l:List Cls}(hl:ah l){f:D}{h:aT}{p:Cls->Bool}(hf:∀c∈l,Iv S5 fI f [ag (Uq c)] h (eP (p c)) h):CW S5 fI h false (.loop (sub Tryz.f331 0)) (xcS (l.map Uq) f h 0) (PB h p l).1 (PB h p l).2:=by
 refine UR l (xcF p) (λi _=>xcS (l.map Uq) f h (i:Int)) (.exit 0) _ (xcX h) (λi s=>s=i) (by simp) (λ_=>by simp) ?_ ?_ 0 rfl;·intro i c s hc hs;subst hs;have hi:=(Td.1 hc).1;refine⟨λs' h=>?_,Pz (rowAt hc rfl) (EV Uq hi) (sR hi hl) (hf c (T6 hc))⟩;grind [xcF]
 ·intro s hs;exact PA (aR Uq l)
theorem xci_ev{l:List Cls}(hl:ah l){f:D}{h:aT}{p:Cls->Bool}(hf:∀c∈l,Iv S5 fI f [ag (Uq c)] h (eP (p c)) h):(Ev S5 fI 331 [ab (l.map Uq),f] h (dd (xcR p l)) h):=by
 have xd:=(@xc_cw (l) (hl) (f) (h) (p) (hf));unfold PB at xd;revert xd;cases Χ:zj (xcF p) l 0 with
 |inl EW=>intro xd;exact Tw (yF (h':=h) (d:=dd (-1)) [.s [0,1,4,7,8] xd]) (by simp[xcR,Χ]) (by simp[xcR,Χ])
 |inr ζ=>intro xd;exact Tw (yF (h':=h) (d:=(zaS ζ)) [.s [0,1,4,7,8] xd]) (by simp[xcR,Χ]) (by simp[xcR,Χ])
theorem xc_any(p:Cls->Bool)(l:List Cls):∀k:Nat,(match zj (xcF p) l k with | .inl _=>N | .inr _=>J)=l.any p:=by
 induction l with
 |nil=>intro k;rfl
 |cons f l ih=>
  intro k;rw[XK];cases hf:p f;·simp[zj,xcF,hf];exact ih (k+1)
  ·simp[zj,xcF,hf]
theorem xcR_ge(p:Cls->Bool)(l:List Cls):eY (xcR p l>=0)=l.any p:=by rw[<-xc_any p l 0,xcR];split<;>simp
theorem xcc_ev{l:List Cls}(hl:ah l){f:D}{h:aT}{p:Cls->Bool}(hf:∀c∈l,Iv S5 fI f [ag (Uq c)] h (eP (p c)) h):(Ev S5 fI 315 [ab (l.map Uq),f] h (eP (l.any p)) h):=Tw (yF (h':=h) (d:=eP (eY (xcR p l>=0))) [.v (@xci_ev l hl f h p hf)]) (by grind [xcR_ge]) lj
def xfF(p:Z5->Bool)(c:Z5)(s:Nat):Nat⊕Nat:=if p c=true then .inr s else .inl (s+1)
abbrev xfS(fs:bv)(f:D)(h:aT)(i:Int):AS:=(zby fs f i h)
abbrev xfX(h:aT):Nat->Exit×AS:=λk=>(.ret,{t:=oz 19 0 [(4,dd (k:Int))],h:=h,m:=[]})
theorem PC{fs:List (List Dp)}{i:Nat}{c:Z5}{f:D}{h:List mX}{p:Z5->Bool}(hr:ao (i:Int) fs (UG c) 2)(lL:eY ((i:Int)<(fs.length:Int))=true)(hw:S6.wrap ((i:Int)+1)=((i+1:Nat):Int))(hi:Iv S5 fI f [ag (UG c)] h (eP (p c)) h):(CW S5 fI h false (sub Tryz.f332 0) (xfS fs f h i) (ai (λ_=>xfS fs f h ((i+1:Nat):Int)) (xfX h) (xfF p c i)).1 (ai (λ_=>xfS fs f h ((i+1:Nat):Int)) (xfX h) (xfF p c i)).2):=by
 cases sQ:p c
 ·refine yX {t:=oz 19 0 [(0,ab fs),(1,f),(4,dd 0),(7,dd (↑(S7 fs):Int)),(8,dd (S8 S6 ((↑i:Int)+1)))],h:=h,m:=[]} Tr [.st (.mask [0,1,4,7,8])] [.b lL,.r hr,.i (@hi),.b sQ] ?_ ?_<;>(simp[xfF,ai,hw, *])
 ·refine yX {t:=oz 19 0 [(4,dd (↑i:Int))],h:=h,m:=[]} VM [.st (.mask [4])] [.b lL,.r hr,.i (@hi),.b sQ] ?_ ?_<;>(simp[xfF,ai,hw, *])
theorem PD{fs:bv}{i:Nat}{f:D}{h:aT}(lL:eY ((i:Int)<(fs.length:Int))=N):(CW S5 fI h N (sub Tryz.f332 0) (xfS fs f h i) (E8 0) (zbt h)):=yx zcg [.b lL]
def xfR(p:Z5->Bool)(l:List Z5):Int:=match zj (xfF p) l 0 with | .inl _=> -1 | .inr k=>(k:Int)
def PE(h:aT)(p:Z5->Bool)(l:List Z5):Exit×AS:=bf (E8 0) (λ_:Nat=>(zbt h)) (xfX h) (zj (xfF p) l 0)
theorem xf_cw{l:List Z5}(hl:ah l){f:D}{h:aT}{p:Z5->Bool}(hf:∀c∈l,Iv S5 fI f [ag (UG c)] h (eP (p c)) h):CW S5 fI h false (.loop (sub Tryz.f332 0)) (xfS (l.map UG) f h 0) (PE h p l).1 (PE h p l).2:=by
 refine UR l (xfF p) (λi _=>xfS (l.map UG) f h (i:Int)) (.exit 0) _ (xfX h) (λi s=>s=i) (by simp) (λ_=>by simp) ?_ ?_ 0 rfl;·intro i c s hc hs;subst hs;have hi:=(Td.1 hc).1;refine⟨λs' h=>?_,PC (rowAt hc rfl) (EV UG hi) (sR hi hl) (hf c (T6 hc))⟩;grind [xfF]
 ·intro s hs;exact PD (aR UG l)
theorem xfi_ev{l:List Z5}(hl:ah l){f:D}{h:aT}{p:Z5->Bool}(hf:∀c∈l,Iv S5 fI f [ag (UG c)] h (eP (p c)) h):(Ev S5 fI 332 [ab (l.map UG),f] h (dd (xfR p l)) h):=by
 have xd:=(@xf_cw (l) (hl) (f) (h) (p) (hf));unfold PE at xd;revert xd;cases Χ:zj (xfF p) l 0 with
 |inl EW=>intro xd;exact Tw (yF (h':=h) (d:=dd (-1)) [.s [0,1,4,7,8] xd]) (by simp[xfR,Χ]) (by simp[xfR,Χ])
 |inr ζ=>intro xd;exact Tw (yF (h':=h) (d:=(zaS ζ)) [.s [0,1,4,7,8] xd]) (by simp[xfR,Χ]) (by simp[xfR,Χ])
theorem xf_any(p:Z5->Bool)(l:List Z5):∀k:Nat,(match zj (xfF p) l k with | .inl _=>N | .inr _=>J)=l.any p:=by
 induction l with
 |nil=>intro k;rfl
 |cons f l ih=>
  intro k;rw[XK];cases hf:p f;·simp[zj,xfF,hf];exact ih (k+1)
  ·simp[zj,xfF,hf]
theorem xfR_ge(p:Z5->Bool)(l:List Z5):eY (xfR p l>=0)=l.any p:=by rw[<-xf_any p l 0,xfR];split<;>simp
theorem xfc_ev{l:List Z5}(hl:ah l){f:D}{h:aT}{p:Z5->Bool}(hf:∀c∈l,Iv S5 fI f [ag (UG c)] h (eP (p c)) h):(Ev S5 fI 317 [ab (l.map UG),f] h (eP (l.any p)) h):=Tw (yF (h':=h) (d:=eP (eY (xfR p l>=0))) [.v (@xfi_ev l hl f h p hf)]) (by grind [xfR_ge]) lj
def xlF(p:zl->Bool)(c:zl)(s:Nat):Nat⊕Nat:=if p c=true then .inr s else .inl (s+1)
abbrev xlS(fs:bv)(f:D)(h:aT)(i:Int):AS:=(zby fs f i h)
abbrev xlX(h:aT):Nat->Exit×AS:=λk=>(.ret,{t:=oz 19 0 [(4,dd (k:Int))],h:=h,m:=[]})
abbrev zgE(a:zl):D:=ag (zl.row a)
theorem PF{fs:List (List Dp)}{i:Nat}{c:zl}{f:D}{h:List mX}{p:zl->Bool}(hr:ao (i:Int) fs (zl.row c) 4)(lL:eY ((i:Int)<(fs.length:Int))=true)(hw:S6.wrap ((i:Int)+1)=((i+1:Nat):Int))(hi:Iv S5 fI f [ag (zl.row c)] h (eP (p c)) h):(CW S5 fI h false (sub Tryz.f333 0) (xlS fs f h i) (ai (λ_=>xlS fs f h ((i+1:Nat):Int)) (xlX h) (xlF p c i)).1 (ai (λ_=>xlS fs f h ((i+1:Nat):Int)) (xlX h) (xlF p c i)).2):=by
 cases sQ:p c
 ·refine yX {t:=oz 19 0 [(0,ab fs),(1,f),(4,dd 0),(7,dd (↑(S7 fs):Int)),(8,dd (S8 S6 ((↑i:Int)+1)))],h:=h,m:=[]} Tr [.st (.mask [0,1,4,7,8])] [.b lL,.r hr,.i (@hi),.b sQ] ?_ ?_<;>(simp[xlF,ai,hw, *])
 ·refine yX {t:=oz 19 0 [(4,dd (↑i:Int))],h:=h,m:=[]} VM [.st (.mask [4])] [.b lL,.r hr,.i (@hi),.b sQ] ?_ ?_<;>(simp[xlF,ai,hw, *])
theorem PG{fs:bv}{i:Nat}{f:D}{h:aT}(lL:eY ((i:Int)<(fs.length:Int))=N):(CW S5 fI h N (sub Tryz.f333 0) (xlS fs f h i) (E8 0) (zbt h)):=yx zcg [.b lL]
def xlR(p:zl->Bool)(l:List zl):Int:=match zj (xlF p) l 0 with | .inl _=> -1 | .inr k=>(k:Int)
def PH(h:aT)(p:zl->Bool)(l:List zl):Exit×AS:=bf (E8 0) (λ_:Nat=>(zbt h)) (xlX h) (zj (xlF p) l 0)
theorem xl_cw{l:List zl}(hl:ah l){f:D}{h:aT}{p:zl->Bool}(hf:∀c∈l,Iv S5 fI f [(zgE c)] h (eP (p c)) h):CW S5 fI h false (.loop (sub Tryz.f333 0)) (xlS (l.map zl.row) f h 0) (PH h p l).1 (PH h p l).2:=by
 refine UR l (xlF p) (λi _=>xlS (l.map zl.row) f h (i:Int)) (.exit 0) _ (xlX h) (λi s=>s=i) (by simp) (λ_=>by simp) ?_ ?_ 0 rfl;·intro i c s hc hs;subst hs;have hi:=(Td.1 hc).1;refine⟨λs' h=>?_,PF (rowAt hc rfl) (EV zl.row hi) (sR hi hl) (hf c (T6 hc))⟩;grind [xlF]
 ·intro s hs;exact PG (aR zl.row l)
theorem xli_ev{l:List zl}(hl:ah l){f:D}{h:aT}{p:zl->Bool}(hf:∀c∈l,Iv S5 fI f [(zgE c)] h (eP (p c)) h):(Ev S5 fI 333 [ab (l.map zl.row),f] h (dd (xlR p l)) h):=by
 have xd:=(@xl_cw (l) (hl) (f) (h) (p) (hf));unfold PH at xd;revert xd;cases Χ:zj (xlF p) l 0 with
 |inl EW=>intro xd;exact Tw (yF (h':=h) (d:=dd (-1)) [.s [0,1,4,7,8] xd]) (by simp[xlR,Χ]) (by simp[xlR,Χ])
 |inr ζ=>intro xd;exact Tw (yF (h':=h) (d:=(zaS ζ)) [.s [0,1,4,7,8] xd]) (by simp[xlR,Χ]) (by simp[xlR,Χ])
theorem xl_any(p:zl->Bool)(l:List zl):∀k:Nat,(match zj (xlF p) l k with | .inl _=>N | .inr _=>J)=l.any p:=by
 induction l with
 |nil=>intro k;rfl
 |cons f l ih=>
  intro k;rw[XK];cases hf:p f;·simp[zj,xlF,hf];exact ih (k+1)
  ·simp[zj,xlF,hf]
theorem xlR_ge(p:zl->Bool)(l:List zl):eY (xlR p l>=0)=l.any p:=by rw[<-xl_any p l 0,xlR];split<;>simp
theorem xlc_ev{l:List zl}(hl:ah l){f:D}{h:aT}{p:zl->Bool}(hf:∀c∈l,Iv S5 fI f [(zgE c)] h (eP (p c)) h):(Ev S5 fI 319 [ab (l.map zl.row),f] h (eP (l.any p)) h):=Tw (yF (h':=h) (d:=eP (eY (xlR p l>=0))) [.v (@xli_ev l hl f h p hf)]) (by grind [xlR_ge]) lj
def Bo(c:Cls):Bool:=Z2 c.zm 0 10000&&(ex c.num c.den==0&&Z2 c.num 0 (S6.wrap (12*c.den)))
theorem Bp{a b:Int}(ha:NI a)(hb:NI b)(h:aT):(Ev S5 fI 172 (zfD a b) h (eP (ex a b==0&&Z2 a 0 (S6.wrap (12*b)))) h):=y0 [.v (@dF a b ha hb (zcZ a b)),.w (ex a b==0) (@bD a 0 (S8 S6 (12*b)) (zcZ a b))] h
abbrev zgo(a:Cls):bY:=[am a.name,dd a.zm,dd a.num,dd a.den]
theorem PI{c:Cls}(hc:c.ok)(h:aT):(Ev S5 fI 276 [ag c.row] h (eP (Bo c)) h):=by refine y0 [.v (@bD (c.zm) 0 10000 ([eF (zgo c)])),.w (eY (c.zm>=0)&&eY (c.zm<=10000)) (@Bp (c.num) (c.den) ?_ ?_ ([eF (zgo c)]))] h<;>(first|exact hc.2.1|exact hc.2.2)
def uV(c:Z5):Bool:=Z2 c.go 0 10000
theorem PJ{c:Z5}(h:aT):(Ev S5 fI 277 [ag c.row] h (eP (uV c)) h):=y0 [.v (@bD (c.go) 0 10000 ([eF [am c.name,dd c.go]]))] h
def Mb(c:zl):Bool:=Z2 c.kind 1 5&&Z2 c.zlu 0 2&&Z2 c.action 1 3&&Z2 c.P4 0 12
theorem bcl_ev{c:zl}(h:aT):(Ev S5 fI 278 [ag c.row] h (eP (Mb c)) h):=by let v0:aT:=[eF (zaL c.kind c.zlu c.action c.P4)];exact y0 [.v (@bD (c.kind) 1 5 (v0)),.w (eY (c.kind>=1)&&eY (c.kind<=5)) (@bD (c.zlu) 0 2 (v0)),.w (eY (c.kind>=1)&&eY (c.kind<=5)&&(eY (c.zlu>=0)&&eY (c.zlu<=2))) (@bD (c.action) 1 3 (v0)),.w (zb2 c.kind 1 5 c.zlu 0 2 c.action 3) (@bD (c.P4) 0 12 (v0))] h
noncomputable abbrev xG(c:Cls):aT:=[eF [fq 276],eF (zgo c)]
abbrev zgt:aT:=[eF [fnv 276]]
theorem F4{c:Cls}(hc:c.ok):(Ev S5 fI 316 [ag (Uq c),fE (ql 0 0)] zgt (eP (!Bo c)) zgt):=Tw (yT (h':=[eF [fq 276]]) (d:=eP !Bo c) [.v (@PI c hc (xG c))]) EX EX
abbrev ziP(a:FuncId):D:=(.fn (.func a) [] za8)
theorem xI{l:List Cls}(ha:∀c∈l,c.ok):∀c∈l,Iv S5 fI (ziP 316) [ag (Uq c)] zgt (eP (!Bo c)) zgt:=λc hm=>Iv.of ZK rfl Z (F4 (ha c hm))
noncomputable abbrev xJ:aT:=[eF [fq 276]]
theorem xK{l:List Cls}(hl:ah l)(ha:∀c∈l,c.ok)(hf:∀c∈l,Iv S5 fI (ziP 316) [ag (Uq c)] zgt (eP (!Bo c)) zgt)(h:aT):(Ev S5 fI 279 [ab (l.map Uq),fnv 276] h (eP (!l.any λc=>!Bo c)) h):=y0 [.v (@xcc_ev l hl (UL (TM 316) [] za8) xJ (λc=>!Bo c) hf)] h
noncomputable abbrev xL(c:Z5):aT:=[eF [fq 277],eF [am c.name,dd c.go]]
abbrev zgu:aT:=[eF [fnv 277]]
theorem F5{c:Z5}:(Ev S5 fI 318 [ag (UG c),fE (ql 0 0)] zgu (eP (!uV c)) zgu):=Tw (yT (h':=[eF [fq 277]]) (d:=eP !uV c) [.v (@PJ c (xL c))]) EX EX
theorem F6{l:List Z5}:∀c∈l,Iv S5 fI (ziP 318) [ag (UG c)] zgu (eP (!uV c)) zgu:=λc hm=>Iv.of ZK rfl Z (F5 )
noncomputable abbrev xM:aT:=[eF [fq 277]]
theorem F7{l:List Z5}(hl:ah l)(hf:∀c∈l,Iv S5 fI (ziP 318) [ag (UG c)] zgu (eP (!uV c)) zgu)(h:aT):(Ev S5 fI 280 [ab (l.map UG),fnv 277] h (eP (!l.any λc=>!uV c)) h):=y0 [.v (@xfc_ev l hl (UL (TM 318) [] za8) xM (λc=>!uV c) hf)] h
noncomputable abbrev xN(c:zl):aT:=[eF [fq 278],eF (zaL c.kind c.zlu c.action c.P4)]
abbrev zgv:aT:=[eF [fnv 278]]
theorem F8{c:zl}:(Ev S5 fI 320 [(zgE c),fE (ql 0 0)] zgv (eP (!Mb c)) zgv):=Tw (yT (h':=[eF [fq 278]]) (d:=eP !Mb c) [.v (@bcl_ev c (xN c))]) EX EX
theorem F9{l:List zl}:∀c∈l,Iv S5 fI (ziP 320) [(zgE c)] zgv (eP (!Mb c)) zgv:=λc hm=>Iv.of ZK rfl Z (F8 )
noncomputable abbrev xO:aT:=[eF [fq 278]]
theorem Ga{l:List zl}(hl:ah l)(hf:∀c∈l,Iv S5 fI (ziP 320) [(zgE c)] zgv (eP (!Mb c)) zgv)(h:aT):(Ev S5 fI 281 [ab (l.map zl.row),fnv 278] h (eP (!l.any λc=>!Mb c)) h):=y0 [.v (@xlc_ev l hl (UL (TM 320) [] za8) xO (λc=>!Mb c) hf)] h
structure η where
 L4:List Cls
 ziQ:List Z5
 NN:List Cls
 clauses:List zl
 deriving Inhabited
def η.sys(s:η):Vi.Sys:=⟨s.L4,s.ziQ,s.NN,s.clauses.map zl.row⟩
def η.row(s:η):dO:=[.sl (s.L4.map Uq),.sl (s.ziQ.map UG),.sl (s.NN.map Uq),.sl (s.clauses.map zl.row)]
def η.ok(s:η):Prop:=s.sys.ok
theorem η.ok.sl{s:η}(h:s.ok):ah s.clauses:=by have:=h.ll;grind [ah,η.sys]
def Gb(s:η):Bool:=(!s.L4.any λc=>!Bo c)&&(!s.NN.any λc=>!Bo c)&&(!s.ziQ.any λc=>!uV c)&&(!s.clauses.any λc=>!Mb c)
abbrev zcc(a:η)(b:bv):bY:=[ab (S2 Uq a.L4),ab (S2 UG a.ziQ),ab (S2 Uq a.NN),ab (b)]
noncomputable abbrev ed(s:η):aT:=[eF (zcc s (S2 zl.row s.clauses))]
theorem qJ{s:η}(hs:s.ok)(h:aT):(Ev S5 fI 208 [ag s.row] h (eP (Gb s)) h):=by refine y0 [.v (@xK (s.L4) ?_ ?_ ?_ (ed s)),.w (!XS s.L4 λc=>!Bo c) (@xK (s.NN) ?_ ?_ ?_ (ed s)),.w ((!XS s.L4 λc=>!Bo c)&&!XS s.NN λc=>!Bo c) (@F7 (s.ziQ) ?_ ?_ (ed s)),.w (((!XS s.L4 λc=>!Bo c)&&!XS s.NN λc=>!Bo c)&&!XS s.ziQ λc=>!uV c) (@Ga (s.clauses) ?_ ?_ (ed s))] h<;>(first|exact hs.lc|exact hs.lh|exact hs.lf|exact hs.sl|exact hs.c|exact hs.h|exact xI hs.c|exact xI hs.h|exact F6|exact F9)
abbrev kd'(a b c d:Bool)(f g:Value):dO:=[.v (.bool a),.v (.bool b),.v (.bool c),.v (.bool d),.v f,.v g]
abbrev kf'(k:Nat):Value:=.func (.func k) #[] #[]
def Gc:dO :=kd' N N N N .nilFunc .nilFunc++kd' N N N J (kf' 354) (kf' 355)++kd' N N N J (kf' 356) (kf' 357)++kd' N J N J (kf' 358) (kf' 359) ++kd' N N N J (kf' 360) (kf' 361)++kd' J J N N (kf' 362) (kf' 364)++kd' J J N N (kf' 366) (kf' 367)++kd' N J N N (kf' 368) (kf' 369) ++kd' N J J N (kf' 370) (kf' 371)++kd' J N N N (kf' 363) (kf' 372)
def jV:au:=λg=>match g with|0=>G Gc|_=>Y
theorem zG{a b:Int}(ha:NI a)(hb:NI b)(h:aT):(Ev S5 fI 246 (zfD a b) h (eP (ex a b==0&&eY (a>=0)&&eY (a<=S6.wrap (12*b)))) h):=y0 [.v (@dF a b ha hb (zcZ a b))] h
abbrev zam(a b:Int)(e:ByteArray)(f g:Int)(h:bv):bY:=[dd a,dd b,am e,dd f,dd g,ab h]
abbrev ruD(op c:Int)(nm:ByteArray)(n d:Int)(ks:bv):D:=kb (zam op c nm n d ks)
theorem PK{op c:Int}{nm:ByteArray}{n d:Int}{ks:bv}(h:aT):(Ev S5 fI 354 [ruD op c nm n d ks] h (eP J) h):=y0 [] h
theorem PL{op c:Int}{nm:ByteArray}{n d:Int}{ks:bv}(h:aT):(Ev S5 fI 356 [ruD op c nm n d ks] h (eP J) h):=y0 [] h
theorem PM{op c:Int}{nm:ByteArray}{n d:Int}{ks:bv}(h:aT):(Ev S5 fI 358 [ruD op c nm n d ks] h (eP (Z2 n 0 200)) h):=y0 [.v (@a7 n 0 200 ([eF (zam op c nm n d ks)]))] h
theorem PN{op c:Int}{nm:ByteArray}{n d:Int}{ks:bv}(h:aT):(Ev S5 fI 360 [ruD op c nm n d ks] h (eP ((ks.length:Int)==1)) h):=y0 [] h
theorem zH{op c:Int}{nm:ByteArray}{n d:Int}{ks:bv}(h:aT):(Ev S5 fI 363 [ruD op c nm n d ks] h (eP (Z2 c 0 4095)) h):=y0 [.v (@a7 c 0 4095 ([eF (zam op c nm n d ks)]))] h
theorem PO{op c:Int}{nm:ByteArray}{n d:Int}{ks:bv}(h:aT):(Ev S5 fI 362 [ruD op c nm n d ks] h (eP (Z2 c 0 4095&&Z2 n 0 12)) h):=y0 [.v (@zH op c nm n d ks ([eF (zam op c nm n d ks)])),.w (Z2 c 0 4095) (@a7 n 0 12 ([eF (zam op c nm n d ks)]))] h
theorem PP{op c:Int}{nm:ByteArray}{n d:Int}{ks:bv}(h:aT):(Ev S5 fI 366 [ruD op c nm n d ks] h (eP (Z2 c 0 4095&&Z2 n 1 100)) h):=y0 [.v (@zH op c nm n d ks ([eF (zam op c nm n d ks)])),.w (Z2 c 0 4095) (@a7 n 1 100 ([eF (zam op c nm n d ks)]))] h
theorem PQ{op c:Int}{nm:ByteArray}{n d:Int}{ks:bv}(h:aT):(Ev S5 fI 368 [ruD op c nm n d ks] h (eP (Z2 n 0 10000)) h):=y0 [.v (@a7 n 0 10000 ([eF (zam op c nm n d ks)]))] h
def C0(a b:Int):Bool:=ex a b==0&&eY (a>=0)&&eY (a<=S6.wrap (12*b))
theorem PR{op c:Int}{nm:ByteArray}{n d:Int}{ks:bv}(hn:NI n)(hd:NI d)(h:aT):(Ev S5 fI 370 [ruD op c nm n d ks] h (eP (C0 n d)) h):=y0 [.v (@zG n d hn hd ([eF (zam op c nm n d ks)]))] h
def aP(op c n d k:Int):Bool :=
 if (!(op==5||op==6||op==9)&&c != 0||!(op==3||op==5||op==6||op==7||op==8)&&n != 0||op != 8&&d != 0||(eY (op>=5)&&eY (op<=9))&&eY (k>0))=J then N
 else if op=1 then J else if op=2 then J else if op=3 then Z2 n 0 200 else if op=4 then k==1 else if op=5 then Z2 c 0 4095&&Z2 n 0 12
 else if op=6 then Z2 c 0 4095&&Z2 n 1 100 else if op=7 then Z2 n 0 10000 else if op=8 then C0 n d else if op=9 then Z2 c 0 4095 else N
abbrev zft(a:Bool)(b c:Nat):bY:=[eP N,eP a,eP N,eP J,fq b,fq c]
noncomputable abbrev xP(c:Int)(nm:ByteArray)(n:Int)(d:Int)(ks:bv):aT:=[eF (zam 1 c nm n d ks),eF (zft N 354 355)]
theorem Gd{c:Int}{nm:ByteArray}{n d:Int}{ks:bv}(h:aT):(Ev S5 jV 232 [ruD 1 c nm n d ks] h (eP (aP 1 c n d ks.length)) h):=by
 cases sQ:!false&&c != 0||!false&&n != 0||!false&&d != 0||!true&&eY ((↑(S7 ks):Int)>0)
 ·exact yD (eP J) [.v (Tp (Γ':=jV) (@a7 1 1 9 ([eF (zam 1 c nm n d ks)]))),(rfl:L9 1 10=J),.e,.b sQ,.v (Tp (Γ':=jV) (@PK 1 c nm n d ks (xP c nm n d ks)))] h (by grind [aP])
 ·exact yD (eP N) [.v (Tp (Γ':=jV) (@a7 1 1 9 ([eF (zam 1 c nm n d ks)]))),(rfl:L9 1 10=J),.e,.b sQ] h (by grind [aP])
noncomputable abbrev xQ(c:Int)(nm:ByteArray)(n:Int)(d:Int)(ks:bv):aT:=[eF (zam 2 c nm n d ks),eF (zft N 356 357)]
theorem Ge{c:Int}{nm:ByteArray}{n d:Int}{ks:bv}(h:aT):(Ev S5 jV 232 [ruD 2 c nm n d ks] h (eP (aP 2 c n d ks.length)) h):=by
 cases sQ:!false&&c != 0||!false&&n != 0||!false&&d != 0||!true&&eY ((↑(S7 ks):Int)>0)
 ·exact yD (eP J) [.v (Tp (Γ':=jV) (@a7 2 1 9 ([eF (zam 2 c nm n d ks)]))),(rfl:L9 2 10=J),.e,.b sQ,.v (Tp (Γ':=jV) (@PL 2 c nm n d ks (xQ c nm n d ks)))] h (by grind [aP])
 ·exact yD (eP N) [.v (Tp (Γ':=jV) (@a7 2 1 9 ([eF (zam 2 c nm n d ks)]))),(rfl:L9 2 10=J),.e,.b sQ] h (by grind [aP])
noncomputable abbrev xR(c:Int)(nm:ByteArray)(n:Int)(d:Int)(ks:bv):aT:=[eF (zam 3 c nm n d ks),eF (zft J 358 359)]
theorem Gf{c:Int}{nm:ByteArray}{n d:Int}{ks:bv}(h:aT):(Ev S5 jV 232 [ruD 3 c nm n d ks] h (eP (aP 3 c n d ks.length)) h):=by
 cases sQ:!false&&c != 0||!true&&n != 0||!false&&d != 0||!true&&eY ((↑(S7 ks):Int)>0)
 ·exact yD (eP (Z2 n 0 200)) [.v (Tp (Γ':=jV) (@a7 3 1 9 ([eF (zam 3 c nm n d ks)]))),(rfl:L9 3 10=J),.e,.b sQ,.v (Tp (Γ':=jV) (@PM 3 c nm n d ks (xR c nm n d ks)))] h (by grind [aP])
 ·exact yD (eP N) [.v (Tp (Γ':=jV) (@a7 3 1 9 ([eF (zam 3 c nm n d ks)]))),(rfl:L9 3 10=J),.e,.b sQ] h (by grind [aP])
noncomputable abbrev xU(c:Int)(nm:ByteArray)(n:Int)(d:Int)(ks:bv):aT:=[eF (zam 4 c nm n d ks),eF (zft N 360 361)]
theorem Gg{c:Int}{nm:ByteArray}{n d:Int}{ks:bv}(h:aT):(Ev S5 jV 232 [ruD 4 c nm n d ks] h (eP (aP 4 c n d ks.length)) h):=by
 cases sQ:!false&&c != 0||!false&&n != 0||!false&&d != 0||!true&&eY ((↑(S7 ks):Int)>0)
 ·exact yD (eP ((↑(S7 ks):Int)==1)) [.v (Tp (Γ':=jV) (@a7 4 1 9 ([eF (zam 4 c nm n d ks)]))),(rfl:L9 4 10=J),.e,.b sQ,.v (Tp (Γ':=jV) (@PN 4 c nm n d ks (xU c nm n d ks)))] h (by grind [aP])
 ·exact yD (eP N) [.v (Tp (Γ':=jV) (@a7 4 1 9 ([eF (zam 4 c nm n d ks)]))),(rfl:L9 4 10=J),.e,.b sQ] h (by grind [aP])
noncomputable abbrev xV(c:Int)(nm:ByteArray)(n:Int)(d:Int)(ks:bv):aT:=[eF (zam 5 c nm n d ks),eF [eP J,eP J,eP N,eP N,fq 362,fq 364]]
theorem Gh{c:Int}{nm:ByteArray}{n d:Int}{ks:bv}(h:aT):(Ev S5 jV 232 [ruD 5 c nm n d ks] h (eP (aP 5 c n d ks.length)) h):=by
 cases sQ:!true&&c != 0||!true&&n != 0||!false&&d != 0||!false&&eY ((↑(S7 ks):Int)>0)
 ·exact yD (eP (Z2 c 0 4095&&Z2 n 0 12)) [.v (Tp (Γ':=jV) (@a7 5 1 9 ([eF (zam 5 c nm n d ks)]))),(rfl:L9 5 10=J),.e,.b sQ,.v (Tp (Γ':=jV) (@PO 5 c nm n d ks (xV c nm n d ks)))] h (by grind [aP])
 ·exact yD (eP N) [.v (Tp (Γ':=jV) (@a7 5 1 9 ([eF (zam 5 c nm n d ks)]))),(rfl:L9 5 10=J),.e,.b sQ] h (by grind [aP])
noncomputable abbrev xW(c:Int)(nm:ByteArray)(n:Int)(d:Int)(ks:bv):aT:=[eF (zam 6 c nm n d ks),eF [eP J,eP J,eP N,eP N,fq 366,fq 367]]
theorem Gi{c:Int}{nm:ByteArray}{n d:Int}{ks:bv}(h:aT):(Ev S5 jV 232 [ruD 6 c nm n d ks] h (eP (aP 6 c n d ks.length)) h):=by
 cases sQ:!true&&c != 0||!true&&n != 0||!false&&d != 0||!false&&eY ((↑(S7 ks):Int)>0)
 ·exact yD (eP (Z2 c 0 4095&&Z2 n 1 100)) [.v (Tp (Γ':=jV) (@a7 6 1 9 ([eF (zam 6 c nm n d ks)]))),(rfl:L9 6 10=J),.e,.b sQ,.v (Tp (Γ':=jV) (@PP 6 c nm n d ks (xW c nm n d ks)))] h (by grind [aP])
 ·exact yD (eP N) [.v (Tp (Γ':=jV) (@a7 6 1 9 ([eF (zam 6 c nm n d ks)]))),(rfl:L9 6 10=J),.e,.b sQ] h (by grind [aP])
noncomputable abbrev xX(c:Int)(nm:ByteArray)(n:Int)(d:Int)(ks:bv):aT:=[eF (zam 7 c nm n d ks),eF [eP N,eP J,eP N,eP N,fq 368,fq 369]]
theorem Gj{c:Int}{nm:ByteArray}{n d:Int}{ks:bv}(h:aT):(Ev S5 jV 232 [ruD 7 c nm n d ks] h (eP (aP 7 c n d ks.length)) h):=by
 cases sQ:!false&&c != 0||!true&&n != 0||!false&&d != 0||!false&&eY ((↑(S7 ks):Int)>0)
 ·exact yD (eP (Z2 n 0 10000)) [.v (Tp (Γ':=jV) (@a7 7 1 9 ([eF (zam 7 c nm n d ks)]))),(rfl:L9 7 10=J),.e,.b sQ,.v (Tp (Γ':=jV) (@PQ 7 c nm n d ks (xX c nm n d ks)))] h (by grind [aP])
 ·exact yD (eP N) [.v (Tp (Γ':=jV) (@a7 7 1 9 ([eF (zam 7 c nm n d ks)]))),(rfl:L9 7 10=J),.e,.b sQ] h (by grind [aP])
noncomputable abbrev xY(c:Int)(nm:ByteArray)(n:Int)(d:Int)(ks:bv):aT:=[eF (zam 8 c nm n d ks),eF [eP N,eP J,eP J,eP N,fq 370,fq 371]]
theorem Gk{c:Int}{nm:ByteArray}{n d:Int}{ks:bv}(hn:NI n)(hd:NI d)(h:aT):(Ev S5 jV 232 [ruD 8 c nm n d ks] h (eP (aP 8 c n d ks.length)) h):=by
 cases sQ:!false&&c != 0||!true&&n != 0||!true&&d != 0||!false&&eY ((↑(S7 ks):Int)>0)
 ·exact yD (eP (C0 n d)) [.v (Tp (Γ':=jV) (@a7 8 1 9 ([eF (zam 8 c nm n d ks)]))),(rfl:L9 8 10=J),.e,.b sQ,.v (Tp (Γ':=jV) (@PR 8 c nm n d ks hn hd (xY c nm n d ks)))] h (by grind [aP])
 ·exact yD (eP N) [.v (Tp (Γ':=jV) (@a7 8 1 9 ([eF (zam 8 c nm n d ks)]))),(rfl:L9 8 10=J),.e,.b sQ] h (by grind [aP])
noncomputable abbrev xZ(c:Int)(nm:ByteArray)(n:Int)(d:Int)(ks:bv):aT:=[eF (zam 9 c nm n d ks),eF [eP J,eP N,eP N,eP N,fq 363,fq 372]]
theorem Gl{c:Int}{nm:ByteArray}{n d:Int}{ks:bv}(h:aT):(Ev S5 jV 232 [ruD 9 c nm n d ks] h (eP (aP 9 c n d ks.length)) h):=by
 cases sQ:!true&&c != 0||!false&&n != 0||!false&&d != 0||!false&&eY ((↑(S7 ks):Int)>0)
 ·exact yD (eP (Z2 c 0 4095)) [.v (Tp (Γ':=jV) (@a7 9 1 9 ([eF (zam 9 c nm n d ks)]))),(rfl:L9 9 10=J),.e,.b sQ,.v (Tp (Γ':=jV) (@zH 9 c nm n d ks (xZ c nm n d ks)))] h (by grind [aP])
 ·exact yD (eP N) [.v (Tp (Γ':=jV) (@a7 9 1 9 ([eF (zam 9 c nm n d ks)]))),(rfl:L9 9 10=J),.e,.b sQ] h (by grind [aP])
theorem Gm{op c:Int}{nm:ByteArray}{n d:Int}{ks:bv}(ho:(!(eY (op>=1)&&eY (op<=9)))=J)(h:aT):(Ev S5 jV 232 [ruD op c nm n d ks] h (eP N) h):=y0 [.v (Tp (Γ':=jV) (@a7 op 1 9 ([eF (zam op c nm n d ks)]))),.b ho] h
theorem x8{op c:Int}{nm:ByteArray}{n d:Int}{ks:bv}(hn:NI n)(hd:NI d)(h:aT):Ev S5 jV 232 [ruD op c nm n d ks] h (eP (aP op c n d ks.length)) h:=by
 by_cases ho:(!(eY (op>=1)&&eY (op<=9)))=J
 ·have:=Gm (op:=op) (c:=c) (nm:=nm) (n:=n) (d:=d) (ks:=ks) ho h;have e:aP op c n d ks.length=N:=by
   simp only[UZ,Bool.and_eq_false_iff,decide_eq_false_iff_not] at ho;unfold aP;split;·rfl
   ·grind
  grind
 ·have:op=1\/op=2\/op=3\/op=4\/op=5\/op=6\/op=7\/op=8\/op=9:=by simp only[UZ,Bool.not_eq_false,Bool.and_eq_true,decide_eq_true_eq] at ho;omega
  rcases this with rfl|rfl|rfl|rfl|rfl|rfl|rfl|rfl|rfl;·exact Gd h
  ·exact Ge h
  ·exact Gf h
  ·exact Gg h
  ·exact Gh h
  ·exact Gi h
  ·exact Gj h
  ·exact Gk hn hd h
  ·exact Gl h
inductive lm where
 |mk (op eR:Int) (name:ByteArray) (n d:Int) (kids:List lm)
mutual
def lm.row:lm->dO
 |.mk op c nm n d ks=>[vi op,vi c,vs nm,vi n,vi d,.sl (fG ks)]
def fG:List lm->bv
 | []=>[]
 |k::ks=>k.row::fG ks
end
theorem dm:∀ks:List lm,fG ks=ks.map lm.row
 | []=>rfl
 |k::ks=>by simp[fG,dm ks]
mutual
def lm.ok:lm->Prop
 |.mk op c _ n d ks=>(NI op/\NI c/\NI n/\NI d/\ah ks)/\gP ks
def gP:List lm->Prop
 | []=>True
 |k::ks=>k.ok/\gP ks
end
theorem qK:∀{ks:List lm},gP ks->∀k∈ks,k.ok
 | [],_,k,hk=>by simp at hk
 |a::ks,h,k,hk=>by
  simp[gP] at h;rcases List.mem_cons.1 hk with rfl|hk
  ·exact h.1
  ·exact qK h.2 k hk
structure RuF where
 op:Int
 c:Int
 nm:ByteArray
 n:Int
 d:Int
 ks:bv
def RuF.row(x:RuF):dO:=[vi x.op,vi x.c,vs x.nm,vi x.n,vi x.d,.sl x.ks]
abbrev zak(a:RuF):bY:=[dd a.op,dd a.c,am a.nm,dd a.n,dd a.d,ab a.ks]
def RuF.l(x:RuF):bY:=(zak x)
def RuF.formed(x:RuF):Bool:=aP x.op x.c x.n x.d x.ks.length
def RuF.ok(x:RuF):Prop:=NI x.n/\NI x.d
def nY(n1 dep:Int)(f:Bool):Bool:=eY (n1>200)||eY (dep>16)||!f
abbrev zhW(a b:Nat):bY:=[fE (ql a 0),fE (ql b 0)]
abbrev zbq:bY:=(zhW 4 3)
abbrev ckT:bY:=oz 23 0 [(2,fE (ql 1 0)),(zjy 3 2),(7,.fn (.func 288) [] zbq)]
abbrev zbe:bY:=(zjG 4)
noncomputable abbrev ckH(r:RuF)(e n:Int)(st:LoopState)(pe:On):aT :=[eF r.l,eF [dd e],eF [dd n],eF r.l,eF [.fn (.func 287) [] zbe],J1,Fa st pe 0 ckT #[8,9] (ax (sub T9 0)) (ak (sub T9 0))]
abbrev ckU(dep:Int):bY:=oz 23 0 [(2,fE (ql 1 0)),(zjy 3 2),(4,dd dep),(5,fE (ql 8 0)),(7,.fn (.func 288) [] zbq)]
noncomputable abbrev zbl(a:RuF)(b:Int):aT:=ckH a 0 b E6 Y
abbrev zb0(a:bY):aT:=[eF a,eF a]
theorem Mc{r0:RuF}{m dep:Int}{x:RuF}:(CW S5 jV ((zbl r0 m)++[eF (x.l)]) J (ax (sub T9 0)) {t:=dD ckT [(8,dd dep),(9,kb x.l)],h:=(zbl r0 m)++[eF (x.l)],m:=[]} w8 {t:=ckU dep,h:=(zbl r0 m)++(zb0 (x.l)),m:=[]}):=yx [CE (EZ [2,3,4,5,7])] []
noncomputable def rM(r0:RuF)(m1:Int)(more:aT)(b:Bool):Exit×AS:=match b with
 |true=>(.ret,{t:=oz 23 0 [],h:=ckH r0 120 m1 ω Y++more,m:=[]})
 |false=>(w8,{t:=oz 23 0 [],h:=ckH r0 0 m1 ω Y++more,m:=[]})
abbrev zhx(a:bY):bY:=(oz 23 0 [(2,fE (ql 1 0)),(zjy 3 2),(7,UL (TM 288) [] a)])
abbrev zj5:bY:=(zhx [fE (ql 4 0),fE (ql 3 0)])
abbrev zaw:bY:=zj5
abbrev zji:Array Tmp:={toList:=[8,9]}
abbrev zeJ:Array Tmp:=zji
abbrev zjS:bY:=[UL (TM 287) [] zbe]
abbrev zin:bY:=zjS
abbrev ziq(a:Int):D:=dd (S8 S6 (a+1))
noncomputable abbrev mY(r0:RuF)(m:Int)(x:RuF):aT:=[eF (zak r0),eF [dd 0],eF [(ziq m)],eF (zak r0),eF zin,J1,Fa TX Y 0 zaw zeJ (ax (sub T9 0)) (ak (sub T9 0)),eF (zak x),eF (zak x)]
abbrev zev(a:Nat)(b:aT):AS:={t:=oz a 0 [],h:=b,m:=[]}
abbrev ziB:bY:=[UL (TM 287) [] (zjG 4)]
theorem PS{r0:RuF}{m dep:Int}{x:RuF}(hx:x.ok):(CW S5 jV ((zbl r0 m)++[eF (x.l)]) J (ak (sub T9 0)) {t:=ckU dep,h:=ckH r0 0 m ω Y++(zb0 (x.l)),m:=[]} (rM r0 (S6.wrap (m+1)) (zb0 (x.l)) (nY (S6.wrap (m+1)) dep (x.formed))).1 (rM r0 (S6.wrap (m+1)) (zb0 (x.l)) (nY (S6.wrap (m+1)) dep (x.formed))).2):=by
 cases sQ:eY (S8 S6 (m+1)>200)||eY (dep>16)||!aP x.op x.c x.n x.d (↑(S7 x.ks):Int)
 ·refine yX (zev 23 (mY r0 m x)) Tr zbN [.w (!(eY (S8 S6 (m+1)>200)||eY (dep>16))) (@x8 (x.op) (x.c) (x.nm) (x.n) (x.d) (x.ks) ?_ ?_ (mY r0 m x)),.b sQ] (by(have hs:nY (S6.wrap (m+1)) dep (x.formed)=N:=sQ;(first|(simp[hs,rM];done)|(simp only[hs,rM];rfl)))) (by(have hs:nY (S6.wrap (m+1)) dep (x.formed)=N:=sQ;(first|(simp only[hs,rM];done)|(simp only[hs,rM];rfl))))<;>(first|exact hx.1|exact hx.2)
 ·let v0:bY:=(zak r0);let v1:bY:=(zak x);refine yX {t:=oz 23 0 [],h:=[eF v0,eF [dd 120],eF [(ziq m)],eF v0,eF ziB,J1,Fa TX Y 0 zj5 zji (ax (sub T9 0)) (ak (sub T9 0)),eF v1,eF v1],m:=[]} VM zbN [.w (!(eY (S8 S6 (m+1)>200)||eY (dep>16))) (@x8 (x.op) (x.c) (x.nm) (x.n) (x.d) (x.ks) ?_ ?_ (mY r0 m x)),.b sQ] (by subst v0 v1;(have hs:nY (S6.wrap (m+1)) dep (x.formed)=J:=sQ;(first|(simp[hs,rM];done)|(simp only[hs,rM];rfl)))) (by subst v0 v1;(have hs:nY (S6.wrap (m+1)) dep (x.formed)=J:=sQ;(first|(simp only[hs,rM];done)|(simp only[hs,rM];rfl))))<;>subst v0 v1<;>(first|exact hx.1|exact hx.2)
noncomputable abbrev zeG(a:RuF)(b:Int):aT:=ckH a 120 b .done (G .ret)
noncomputable def ckSt(r0:RuF)(m1:Int)(b:Bool):aT:=match b with
 |true=>(zeG r0 m1)
 |false=>(zbl r0 m1)
theorem PT{r0:RuF}{m dep:Int}{x:RuF}(hx:x.ok):Iv S5 jV (.ref (.yl 6)) [dd dep,.agg x.l] ((zbl r0 m)++[.var (x.l)]) (eP (!nY (S6.wrap (m+1)) dep (x.formed)))
  (ckSt r0 (S6.wrap (m+1)) (nY (S6.wrap (m+1)) dep (x.formed))++(zb0 (x.l))):=by
 have hb:=PS (r0:=r0) (m:=m) (dep:=dep) hx
 cases h:nY (S6.wrap (m+1)) dep (x.formed)
 ·rw[h] at hb
  exact Iv.round (h1:=(zbl r0 m)++(zb0 (x.l))) rfl rfl Mc rfl hb rfl
 ·rw[h] at hb
  exact Iv.round (h1:=(zbl r0 m)++(zb0 (x.l))) rfl rfl Mc rfl hb rfl
mutual
def lm.walk:lm->Int->Int->Int×Bool
 |.mk op c _ n d ks,dep,m=>match nY (S6.wrap (m+1)) dep (aP op c n d ks.length) with
  |true=>(S6.wrap (m+1),J)
  |false=>zkR ks (S6.wrap (dep+1)) (S6.wrap (m+1))
def zkR:List lm->Int->Int->Int×Bool
 | [],_,m=>(m,N)
 |k::ks,dep,m=>match k.walk dep m with
  |(m',true)=>(m',J)
  |(m',false)=>zkR ks dep m'
end
abbrev wkF(dep:Int)(k:lm)(m:Int):Int⊕Int:=match k.walk dep m with
 |(m',true)=>.inr m'
 |(m',false)=>.inl m'
theorem tk(dep:Int):∀(ks:List lm) (m:Int),zj (wkF dep) ks m=match zkR ks dep m with|(m',true)=>.inr m'|(m',false)=>.inl m'
 | [],m=>by simp[zj,zkR]
 |k::ks,m=>by
  simp[zj,zkR,wkF];cases h:k.walk dep m with
  |mk m' b=>cases b with
   |true=>rfl
   |false=>exact tk dep ks m'
abbrev zfR:Nat×D:=(3,fE (ql 4 0))
abbrev zfS(a:Nat):Nat×D:=(a,eP N)
noncomputable abbrev wkS(x r0:RuF)(dep m i:Int):AS:={t:=oz 30 0 [(1,dd dep),(2,fE (.yl 6)),zfR,(zfS 7),(16,ab x.ks),(17,dd x.ks.length),(18,dd i)],h:=(zbl r0 m)++[eF (x.l)],m:=[]}
theorem J5{x r0:RuF}{dep m m0:Int}{i:Nat}{m':Int}{y:RuF}(hr:ao (i:Int) x.ks y.row 6)(lL:eY ((i:Int)<(x.ks.length:Int))=true)(hw:S6.wrap ((i:Int)+1)=((i+1:Nat):Int))
  (hk:Ev S5 jV 287 [.agg y.l,dd (S6.wrap (dep+1)),.ref (.yl 6),.ref (.ptr 4 0)] (ckH r0 0 m .ready none) (eP true) (ckH r0 0 m' .ready none)):(CW S5 jV (ckH r0 0 m0 .ready none) false (sub YF 0) (wkS x r0 dep m i) .normal (wkS x r0 dep m' ((i+1:Nat):Int))):=by
 let v0:List D:=[dd r0.op,dd r0.c,am r0.nm,dd r0.n,dd r0.d,ab r0.ks]
 let v1:List D:=[dd x.op,dd x.c,am x.nm,dd x.n,dd x.d,ab x.ks]
 let v2:List D:=[dd y.op,dd y.c,am y.nm,dd y.n,dd y.d,ab y.ks]
 let v3:List D:=[.ref (.ptr 4 0),.ref (.ptr 3 0)]
 exact yX {t:=oz 30 0 [(1,dd dep),(2,.ref (.yl 6)),(3,.ref (.ptr 4 0)),(7,eP false),(16,ab x.ks),(17,dd (↑(S7 x.ks):Int)),(18,dd (S8 S6 ((↑i:Int)+1)))],h:=[.var v0,.var [dd 0],.var [dd m'],.var v0,.var [UL (TM 287) [] [.ref (.ptr 4 0)]],.P2,.loop TJ none 0 (oz 23 0 [(2,.ref (.ptr 1 0)),(3,.ref (.ptr 2 0)),(7,UL (TM 288) [] v3)]) {toList:=[8,9]} (ax (sub T9 0)) (ak (sub T9 0)),.var v1],m:=[]} Tr [.st (.mask [1,2,3,7,16,17,18]),.st (.trim 8)] [.b lL,.r hr,.c ((fX [0,1,2,3,4,5,6] (@hk) trivial trivial):Ev S5 jV 287 [TF v2,dd (S8 S6 (dep+1)),.ref (.yl 6),.ref (.ptr 4 0)] [.var v0,.var [dd 0],.var [dd m],.var v0,.var [UL (TM 287) [] [.ref (.ptr 4 0)]],.P2,.loop TJ none 0 (oz 23 0 [(2,.ref (.ptr 1 0)),(3,.ref (.ptr 2 0)),(7,UL (TM 288) [] v3)]) {toList:=[8,9]} (ax (sub T9 0)) (ak (sub T9 0)),.var v1,.var v2] (eP true) [.var v0,.var [dd 0],.var [dd m'],.var v0,.var [UL (TM 287) [] [.ref (.ptr 4 0)]],.P2,.loop TJ none 0 (oz 23 0 [(2,.ref (.ptr 1 0)),(3,.ref (.ptr 2 0)),(7,UL (TM 288) [] v3)]) {toList:=[8,9]} (ax (sub T9 0)) (ak (sub T9 0)),.var v1,.var v2]),.e] (by subst v0 v1 v2 v3;grind) (by subst v0 v1 v2 v3;(rw[hw];rfl))
noncomputable abbrev wkX(x r0:RuF)(m:Int):Exit×AS:=(.ret,{t:=oz 30 0 [(zfS 7)],h:=(zeG r0 m)++[eF (x.l)],m:=[]})
theorem J6{x r0:RuF}{dep m m0:Int}{i:Nat}{m':Int}{y:RuF}(hr:ao (i:Int) x.ks y.row 6)(lL:eY ((i:Int)<(x.ks.length:Int))=J)(hk:Ev S5 jV 287 [kb y.l,dd (S6.wrap (dep+1)),fE (.yl 6),fE (ql 4 0)] (zbl r0 m) (eP N) (zeG r0 m')):(CW S5 jV (zbl r0 m0) N (sub YF 0) (wkS x r0 dep m i) (wkX x r0 m').1 (wkX x r0 m').2):=by let v0:bY:=(zak r0);let v1:bY:=(zak y);let v2:bY:=(zak x);exact yx (zbU [7] 8) [.b lL,.r hr,.c ((fX [0,1,2,3,4,5,6] (@hk) trivial trivial):Ev S5 jV 287 [TF v1,(ziq dep),fE (.yl 6),fE (ql 4 0)] [eF v0,eF [dd 0],eF [dd m],eF v0,eF ziB,J1,Fa TJ Y 0 zj5 zji (ax (sub T9 0)) (ak (sub T9 0)),eF v2,eF v1] (eP N) [eF v0,eF [dd 120],eF [dd m'],eF v0,eF zin,J1,Fa W4 (G Y9) 0 zaw zeJ (ax (sub T9 0)) (ak (sub T9 0)),eF v2,eF v1]),.e]
theorem PU{x r0:RuF}{dep m m0:Int}{i:Nat}(lL:eY ((i:Int)<(x.ks.length:Int))=N):(CW S5 jV (zbl r0 m0) N (sub YF 0) (wkS x r0 dep m i) (E8 0) {t:=oz 30 0 [(zfS 7)],h:=(zbl r0 m)++[eF (x.l)],m:=[]}):=yx (zbU [7] 8) [.b lL]
def lm.fl:lm->RuF
 |.mk op c nm n d ks=>⟨op,c,nm,n,d,fG ks⟩
theorem lm.zpJ(r:lm):r.fl.row=r.row:=by cases r;rfl
theorem lm.fl_ok{r:lm}(h:r.ok):r.fl.ok:=by cases r;simp[lm.ok] at h;exact⟨h.1.2.2.1,h.1.2.2.2.1⟩
noncomputable def wkFin(x r0:RuF)(p:Int⊕Int):Exit×AS:=bf (E8 0) (λm'=>{t:=oz 30 0 [(zfS 7)],h:=(zbl r0 m')++[eF x.l],m:=[]}) (λm'=>wkX x r0 m') p
theorem wk_cw{r0 x:RuF}{ks:List lm}(hx:x.ks=ks.map lm.row)(hl:ah ks){dep m m0:Int}(hk:∀k∈ks,∀m,Ev S5 jV 287 [.agg k.fl.l,dd (S6.wrap (dep+1)),.ref (.yl 6),.ref (.ptr 4 0)] (zbl r0 m) (eP (!(k.walk (S6.wrap (dep+1)) m).2)) (ckSt r0 (k.walk (S6.wrap (dep+1)) m).1 (k.walk (S6.wrap (dep+1)) m).2)):CW S5 jV (zbl r0 m0) false (.loop (sub YF 0)) (wkS x r0 dep m 0) (wkFin x r0 (zj (wkF (S6.wrap (dep+1))) ks m)).1 (wkFin x r0 (zj (wkF (S6.wrap (dep+1))) ks m)).2:=by
 refine UR ks (wkF (S6.wrap (dep+1))) (λi m=>wkS x r0 dep m (i:Int)) (.exit 0) _ (λm'=>wkX x r0 m') (λ_ _=>True) (by simp) (λ_=>by simp) ?_ ?_ m trivial
 ·intro i k m hki _;have hi:=(Td.1 hki).1;have hr:ao (i:Int) x.ks k.fl.row 6:=by rw[hx,k.zpJ];exact rowAt hki (by cases k;rfl)
  have lL:eY ((i:Int)<(x.ks.length:Int))=true:=by rw[hx];exact EV _ hi
  have hev:=hk k (T6 hki) m;refine⟨λ_ _=>trivial,?_⟩;simp only[wkF];cases hw:k.walk (S6.wrap (dep+1)) m with
  | mk m' b =>
   rw[hw] at hev;cases b with
   | true=>exact J6 hr lL hev
   | false=>exact J5 hr lL (sR hi hl) hev
 ·intro m _;exact PU (by grind)
abbrev zc7(a:bY)(b:Int):bY:=[kb a,dd b,fE (.yl 6),fE (ql 4 0)]
theorem walkA{r0 x:RuF}{dep m m':Int}(hi:Iv S5 jV (fE (.yl 6)) [dd dep,kb x.l] ((zbl r0 m)++[eF x.l]) (eP N) ((zeG r0 m')++(zb0 x.l))):(Ev S5 jV 287 (zc7 x.l dep) (zbl r0 m) (eP N) (zeG r0 m')):=by let v0:bY:=(zak r0);exact Tw (yT (h':=[eF v0,eF [dd 120],eF [dd m'],eF v0,eF zjS,J1,Fa W4 (G Y9) 0 zaw zeJ (ax (sub T9 0)) (ak (sub T9 0))]) (d:=eP N) [.j (@hi),.e]) EX EX
def J7:Int⊕Int->Int×Bool
 |.inl m=>(m,N)
 |.inr m=>(m,J)
theorem J8(dep:Int)(ks:List lm)(m:Int):J7 (zj (wkF dep) ks m)=zkR ks dep m:=by
 rw[tk];cases zkR ks dep m with
 |mk m' b=>cases b<;>rfl
theorem walkB{r0 x:RuF}{ks:List lm}(hx:x.ks=ks.map lm.row)(hl:ah ks){dep m m':Int}(hi:Iv S5 jV (fE (.yl 6)) [dd dep,kb x.l] ((zbl r0 m)++[eF x.l]) (eP J) ((zbl r0 m')++(zb0 x.l)))(hk:∀k∈ks,∀m,Ev S5 jV 287 [kb k.fl.l,dd (S6.wrap (dep+1)),fE (.yl 6),fE (ql 4 0)] (zbl r0 m) (eP (!(k.walk (S6.wrap (dep+1)) m).2)) (ckSt r0 (k.walk (S6.wrap (dep+1)) m).1 (k.walk (S6.wrap (dep+1)) m).2)):(Ev S5 jV 287 (zc7 x.l dep) (zbl r0 m) (eP (!(J7 (zj (wkF (S6.wrap (dep+1))) ks m')).2)) (ckSt r0 (J7 (zj (wkF (S6.wrap (dep+1))) ks m')).1 (J7 (zj (wkF (S6.wrap (dep+1))) ks m')).2)):=by
 have xd:=(@wk_cw (r0) (x) (ks) (hx) (hl) (dep) (m') (m) (hk));revert xd;cases Χ:zj (wkF (S8 S6 (dep+1))) ks m' with
 |inl EW=>intro xd;let v0:bY:=(zak r0);refine Tw (yT (h':=[eF v0,eF [dd 0],eF [dd EW],eF v0,eF zin,J1,Fa TJ Y 0 zaw zeJ (ax (sub T9 0)) (ak (sub T9 0))]) (d:=eP J) [.j (@hi),.e,.o (zgF 8),.s [1,2,3,7,16,17,18] xd]) ?_ ?_<;>subst v0<;>(rfl)
 |inr ζ=>intro xd;let v0:bY:=(zak r0);refine Tw (yT (h':=[eF v0,eF [dd 120],eF [dd ζ],eF v0,eF zjS,J1,Fa W4 (G Y9) 0 zaw zeJ (ax (sub T9 0)) (ak (sub T9 0))]) (d:=eP N) [.j (@hi),.e,.o (zgF 8),.s [1,2,3,7,16,17,18] xd]) ?_ ?_<;>subst v0<;>(rfl)
theorem Bq(r0:RuF):∀(r:lm),r.ok->∀(dep m:Int),Ev S5 jV 287 [.agg r.fl.l,dd dep,.ref (.yl 6),.ref (.ptr 4 0)] (ckH r0 0 m .ready none) (eP (!(r.walk dep m).2)) (ckSt r0 (r.walk dep m).1 (r.walk dep m).2)
 | .mk op c nm n d ks,hr,dep,m=>by
  have Θ:=lm.fl_ok hr
  simp[lm.ok] at hr
  have hiv:=PT (r0:=r0) (m:=m) (dep:=dep) Θ
  have hlen:((lm.mk op c nm n d ks).fl.ks.length:Int)=ks.length:=by simp[lm.fl,dm]
  have hf:(lm.mk op c nm n d ks).fl.formed=aP op c n d ks.length:=by
   show aP op c n d ((lm.mk op c nm n d ks).fl.ks.length:Int)=_
   rw[hlen]
  rw[hf] at hiv
  simp[lm.walk]
  cases hs:nY (S6.wrap (m+1)) dep (aP op c n d ks.length) with
  | true =>
   rw[hs] at hiv
   exact walkA hiv
  | false =>
   rw[hs] at hiv
   have:=walkB (r0:=r0) (x:=(lm.mk op c nm n d ks).fl) (ks:=ks) (dm ks) hr.1.2.2.2.2 (m:=m) (dep:=dep) hiv (λk hk m=>Bq r0 k (qK hr.2 k hk) _ m)
   grind [J8]
termination_by r=>SizeOf.sizeOf r
decreasing_by
 have:=List.sizeOf_lt_of_mem hk
 simp only[lm.mk.sizeOf_spec]
 omega
noncomputable abbrev uW(x:RuF)(m':Int):aT:=[eF (zak x),eF [dd 120],eF [dd m'],eF (zak x),eF zjS,J1,Fa W4 (G Y9) 0 zaw zeJ (ax (sub T9 0)) (ak (sub T9 0))]
abbrev zdO(a b c:Nat):bY:=[fE (.yl a),fE (ql b 0),fE (ql c 0)]
theorem C1{x:RuF}{m':Int}(hk:Ev S5 jV 287 (zc7 x.l 1) (zbl x 0) (eP N) (zeG x m')):(Ev S5 jV 288 (zdO 6 4 3) (zbl x 0) (tf []) (zeG x m')):=Tw (yF (h':=(uW x m')) (d:=TT []) [.c (@hk)]) EX EX
noncomputable abbrev uX(x:RuF)(m':Int):aT:=[eF (zak x),eF [dd 0],eF [dd m'],eF (zak x),eF zin,J1,Fa TJ Y 0 zaw zeJ (ax (sub T9 0)) (ak (sub T9 0))]
theorem C2{x:RuF}{m':Int}(hk:Ev S5 jV 287 (zc7 x.l 1) (zbl x 0) (eP J) (zbl x m')):(Ev S5 jV 288 (zdO 6 4 3) (zbl x 0) (tf []) (zbl x m')):=Tw (yF (h':=(uX x m')) (d:=TT []) [.c (@hk)]) EX EX
abbrev ckH0(r:RuF):aT:=[eF r.l,eF [dd 0],eF [dd 0],eF r.l,eF [.fn (.func 287) [] zbe]]
abbrev zgd(a:RuF):AS:={t:=ckT,h:=ckH0 a,m:=[]}
theorem ckT_rf{x:RuF}{m':Int}(hk:Ev S5 jV 287 (zc7 x.l 1) (zbl x 0) (eP N) (zeG x m')):CW S5 jV [] N (sub T9 0) (zgd x) .ret {t:=ckT,h:=ckH x 120 m' zap (G .ret),m:=[5]} :=CW.rangeFunc (f:=288) (fi:=[]) (ca:=zbq) ZK (s:=(zgd x)) (g:=.tmp 7) (ps:=#[8,9]) (asg:=ax (sub T9 0)) (body:=ak (sub T9 0)) rfl Z (C1 hk) rfl
theorem ckF_rf{x:RuF}{m':Int}(hk:Ev S5 jV 287 (zc7 x.l 1) (zbl x 0) (eP J) (zbl x m')):CW S5 jV [] N (sub T9 0) (zgd x) w8 {t:=ckT,h:=ckH x 0 m' zap Y,m:=[5]} :=CW.rangeFunc (f:=288) (fi:=[]) (ca:=zbq) ZK (s:=(zgd x)) (g:=.tmp 7) (ps:=#[8,9]) (asg:=ax (sub T9 0)) (body:=ak (sub T9 0)) rfl Z (C2 hk) rfl
def lm.bad(r:lm):Bool:=(r.walk 1 0).2
noncomputable def PV(x:RuF)(p:Int×Bool):Exit×AS:=match p.2 with
 |true=>(.ret,{t:=ckT,h:=ckH x 120 p.1 zap (G .ret),m:=[5]})
 |false=>(w8,{t:=ckT,h:=ckH x 0 p.1 zap Y,m:=[5]})
theorem J9{r:lm}(hr:r.ok){x:RuF}(hx:x=r.fl):CW S5 jV [] N (sub T9 0) (zgd x) (PV x (r.walk 1 0)).1 (PV x (r.walk 1 0)).2:=by
 subst hx;have hk:=Bq r.fl r hr 1 0;unfold PV;cases h:r.walk 1 0 with
 |mk m' b=>
  rw[h] at hk;cases b with
  |true=>exact ckT_rf hk
  |false=>exact ckF_rf hk
def iJ(b:Bool):Int:=match b with|true=>120|false=>0
theorem PW{r:lm}(hr:r.ok){x:RuF}(hx:x=r.fl)(h:aT):(Ev S5 jV 161 [kb x.l] h (dd (iJ r.bad)) h):=by
 have xd:=(@J9 (r) (hr) (x) (hx));revert xd;cases Χ:lm.walk r 1 0 with
 |mk EW o1_0_1=>
  intro xd;revert xd;cases ho2:o1_0_1 with
  |false=>intro xd;exact yD (dd 0) [.a1 Α,.s [2,3,7] xd] h (by simp[lm.bad,iJ,Χ,ho2])
  |true=>intro xd;exact yD (dd 120) [.a1 Α,.s [2,3,7] xd] h (by simp[lm.bad,iJ,Χ,ho2])
theorem gQ{r:lm}(hr:r.ok)(h:aT):Ev S5 jV 161 [kb r.fl.l] h (dd (iJ r.bad)) h:=PW hr rfl h
structure uU where
 name:ByteArray
 number:Int
 go:Int
 rep:Int
 J3:lm
 Ω:lm
def uU.row(c:uU):dO:=[vs c.name,vi c.number,vi c.go,vi c.rep,vi c.J3.fl.op,vi c.J3.fl.c,vs c.J3.fl.nm,vi c.J3.fl.n,vi c.J3.fl.d,.sl c.J3.fl.ks,vi c.Ω.fl.op,vi c.Ω.fl.c,vs c.Ω.fl.nm,vi c.Ω.fl.n,vi c.Ω.fl.d,.sl c.Ω.fl.ks]
def uU.ok(c:uU):Prop:=c.J3.ok/\c.Ω.ok
def fP(c:uU):Bool:=Z2 c.number 0 4095&&Z2 c.go 1 60&&Z2 c.rep 0 2&&(iJ c.J3.bad==0)&&(iJ c.Ω.bad==0)
abbrev zbM(a:uU):bY:=[am a.name,dd a.number,dd a.go,dd a.rep,dd (lm.fl a.J3).op,dd (lm.fl a.J3).c,am (lm.fl a.J3).nm,dd (lm.fl a.J3).n,dd (lm.fl a.J3).d,ab (lm.fl a.J3).ks,dd (lm.fl a.Ω).op,dd (lm.fl a.Ω).c,am (lm.fl a.Ω).nm,dd (lm.fl a.Ω).n,dd (lm.fl a.Ω).d,ab (lm.fl a.Ω).ks]
noncomputable abbrev dJ(c:uU):aT:=[eF (zbM c)]
theorem C3{c:uU}(hc:c.ok)(h:aT):(Ev S5 jV 88 [ag c.row] h (eP (fP c)) h):=by refine y0 [.v (Tp (Γ':=jV) (@bD (c.number) 0 4095 (dJ c))),.w (eY (c.number>=0)&&eY (c.number<=4095)) (Tp (Γ':=jV) (@bD (c.go) 1 60 (dJ c))),.w (eY (c.number>=0)&&eY (c.number<=4095)&&(eY (c.go>=1)&&eY (c.go<=60))) (Tp (Γ':=jV) (@bD (c.rep) 0 2 (dJ c))),.w (zb2 c.number 0 4095 c.go 1 60 c.rep 2) (@gQ (c.J3) ?_ (dJ c)),.w ((zb2 c.number 0 4095 c.go 1 60 c.rep 2)&&iJ (lm.bad c.J3)==0) (@gQ (c.Ω) ?_ (dJ c))] h<;>(first|exact hc.1|exact hc.2)
noncomputable abbrev zI(c:uU)(n:Int):aT:=[eF [dd n],eF (zbM c)]
abbrev zcG(a:Int):aT:=[eF [dd a]]
theorem Br{c:uU}(hc:c.ok){n:Int}:(Ev S5 jV 87 [ag c.row,fE (ql 0 0)] (zcG n) (eP (c.number==n&&fP c)) (zcG n)):=Tw (yT (h':=(zcG n)) (d:=eP (c.number==n&&fP c)) [.w (c.number==n) (@C3 c hc (zI c n))]) EX EX
structure eO where
 c:List uU
 p:bv
 s:List η
 f:AT
abbrev zhb(a:eO):D:=ab (a.c.map uU.row)
def eO.l(w:eO):bY:=[(zhb w),ab w.p,ab (w.s.map η.row),ab (w.f.map Ta)]
abbrev atA(w:eO)(kk ks ko d5 bO:Int):bY:=[ab (w.f.map Ta),kb (Z8 kk ks ko),dd d5,dd bO]
abbrev rN(kk ks ko a b:Int):bv:=[[vi kk,vi ks,vi ko,vi a,vi b]]
theorem cy{α:Type}[Inhabited α]{row:α->dO}{l:List α}{v:Int}{sz:Nat}(hs:∀x,(row x).length=sz)(h0:0<=v)(h1:v<(l.length:Int)):ao v (l.map row) (row (l.getD v.toNat default)) sz:=by
 obtain⟨n,rfl⟩:∃n:Nat,v=n:=⟨v.toNat,ji⟩;have hn:n<l.length:=ji
 have hx:l[n]?=G l[n]:=TH hn;have:l.getD (S9 (n:Int)) default=l[n]:=by simp[Th,hx]
 rw[this];exact rowAt hx (hs _)
def jt{α:Type}[Inhabited α](l:List α)(valid:α->Bool)(p:Int×Bool):Bool:=!p.2||eY (p.1<0)||eY (p.1>=(l.length:Int))||!valid (l.getD p.1.toNat default)
def gR{α:Type}[Inhabited α](l:List α)(valid:α->Bool)(z:α)(p:Int×Bool):α×Bool:=match jt l valid p with
 |true=>(z,N)
 |false=>(l.getD p.1.toNat default,J)
theorem ln{α:Type}[Inhabited α]{l:List α}{valid:α->Bool}{p:Int×Bool}(h:jt l valid p=N):l.getD p.1.toNat default∈l/\valid (l.getD p.1.toNat default)=J/\p.2=J/\0<=p.1/\p.1<l.length:=by grind [Bool.or_eq_false_iff,Bool.not_eq_false',decide_eq_false_iff_not,Th,jt]
def η.zero:η:=⟨[],[],[],[]⟩
abbrev sysZ:D:=kb [ab [],ab [],ab [],ab []]
abbrev ZU(a:eO):D:=ab (S2 Ta a.f)
abbrev zc2(a:eO):bv:=(S2 uU.row a.c)
abbrev zep(a:eO):bv:=(S2 η.row a.s)
abbrev zhX(a:eO):bY:=[ab (zc2 a),ab a.p,ab (zep a),(ZU a)]
noncomputable abbrev ls0_x0(w:eO):aT:=[eF (zhX w),eF (zh9 4 0 0),eF [nq,nq,nq,nq]]
abbrev ze4(a:eO)(b c:Int):bY:=[kb a.l,ab (a.s.map η.row),kb (zh9 4 0 0),dd b,dd c,fnv 208]
theorem ls0{w:eO}{d5 bO:Int}(ht:(!(eY (d5>=0)&&eY (d5<=1023)))=J)(h:aT):(Ev S5 jV 207 (ze4 w d5 bO) h (tf [sysZ,ab [],eP N]) h):=Tw (U7 (y0 (d:=TT [TF [nq,nq,nq,nq],nq,eP N]) [.v (Tp (Γ':=jV) (@bD d5 0 1023 (ls0_x0 w))),.b ht] h)) EX EX
noncomputable abbrev nF(w:eO):aT:=[eF (zhX w),eF (zh9 4 0 0),eF [nq,nq,nq,nq],xy]
noncomputable abbrev Md(w:eO):aT:=[eF (zhX w),eF (zh9 4 0 0),eF [nq,nq,nq,nq]]
abbrev zau(a:eO)(b:Int):dO:=[UP (S2 Uq (Th a.s (S9 b) default).L4),UP (S2 UG (Th a.s (S9 b) default).ziQ),UP (S2 Uq (Th a.s (S9 b) default).NN),UP (S2 zl.row (Th a.s (S9 b) default).clauses)]
abbrev za1(a:Int):D:=dd (S8 S6 (a+1))
abbrev zbz(a b c d:Int):bv:=[[vi a,vi b,vi c,vi d,vi (S8 S6 (d+1))]]
abbrev zgg(a:eO)(b:Int):D:=(eP (Gb (Th a.s (S9 b) default)))
abbrev zhI(a b c d:Int):List (bY):=[[dd a,dd b,dd c,dd d,(za1 d)]]
abbrev zi0(a:Int)(c:Nat)(d e f:Int)(g:Bool)(h:dO)(i:D):Do:=[ZH (zdV a 0 1023),.b N,.nx 1,CE (τ c (rN d e 0 a (S8 S6 (a+1)))),ZH (TT [dd f,eP g]),.row h,ZH i,.b N,.row h]
theorem ls1{w:eO}{d5 bO v:Int}{b:Bool}(ht:(!(eY (d5>=0)&&eY (d5<=1023)))=N)(hat:∀h,Ev S5 jV 106 (atA w 4 0 0 d5 bO) h (tf [dd v,eP b]) h)(hs:∀x∈w.s,x.ok)(h:aT):(Ev S5 jV 207 (ze4 w d5 bO) h (tf [ag (gR w.s Gb η.zero (v,b)).1.row,ab (rN 4 0 0 d5 (S6.wrap (d5+1))),eP (gR w.s Gb η.zero (v,b)).2]) h):=by
 cases sQ:!b||eY (v<0)||eY (v>=(↑(S7 (zep w)):Int))||!Gb (Th w.s (S9 v) default)
 ·refine Tw (U7 (Ev.sym0 (d:=TT [TF (zcc (Th w.s (S9 v) default) (S2 zl.row (Th w.s (S9 v) default).clauses)),ab (zbz 4 0 0 d5),eP J]) ZK (zi0 d5 3 4 0 v b (zau w v) (zgg w v)) Z (.q0 (Tp (Γ':=jV) (@bD (d5) (0) (1023) ((Md w)))) (.q1 ht (.c (show (zhI 4 0 0 d5)=(zhI 4 0 0 d5) from rfl) (.q4 (@hat ((nF w))) (.c (show(!(!b||eY (v<0)||eY (v>=(↑(S7 (zep w)):Int))))=J->ao v (zep w) (zau w v) 4 from(λhg=>?_)) (.q6 (show(!(!b||eY (v<0)||eY (v>=(↑(S7 (zep w)):Int))))=J->Ev S5 jV 208 [(ag (η.row (Th w.s (S9 v) default)))] (nF w) (zgg w v) (nF w) from(λhg=>(Tp (@qJ (Th w.s (S9 v) default) lj ((nF w)))))) (.q7 sQ (.q8 (show ao v (zep w) (zau w v) 4 from ?_) .n)))))))) rfl rfl h)) (by(have hb:jt w.s Gb (v,b)=N:=by rw[<-sQ];simp[jt]);simp only[gR,hb];rfl) EX<;>(refine cy (λ_=>rfl) ?_ ?_<;>simp_all;done)
 ·exact Tw (U7 (Ev.sym0 (d:=TT [TF [nq,nq,nq,nq],ab (zbz 4 0 0 d5),eP N]) ZK [ZH (zdV d5 0 1023),.b N,.nx 1,CE (τ 3 (rN 4 0 0 d5 (S8 S6 (d5+1)))),ZH (TT [dd v,eP b]),.row (zau w v),ZH (zgg w v),.b J] Z (.q0 (Tp (Γ':=jV) (@bD (d5) (0) (1023) ((Md w)))) (.q1 ht (.c (show (zhI 4 0 0 d5)=(zhI 4 0 0 d5) from rfl) (.q4 (@hat ((nF w))) (.c (show(!(!b||eY (v<0)||eY (v>=(↑(S7 (zep w)):Int))))=J->ao v (zep w) (zau w v) 4 from(λhg=>(by(refine cy (λ_=>rfl) ?_ ?_<;>simp_all;done)))) (.q6 (show(!(!b||eY (v<0)||eY (v>=(↑(S7 (zep w)):Int))))=J->Ev S5 jV 208 [(ag (η.row (Th w.s (S9 v) default)))] (nF w) (zgg w v) (nF w) from(λhg=>(Tp (@qJ (Th w.s (S9 v) default) lj ((nF w)))))) (.q7 sQ .n))))))) rfl rfl h)) (by(have hb:jt w.s Gb (v,b)=J:=by rw[<-sQ];simp[jt]);simp[gR,hb];rfl) EX
structure eO.ok (w:eO):Prop where
 c:∀x∈w.c,x.ok
 s:∀x∈w.s,x.ok
 lf:w.f.length<=69000
 lc:ah w.c
 ls:ah w.s
 i:∀f∈w.f,f.ok
theorem eO.ok.sf{w:eO}(h:w.ok):ah w.f:=by have:=h.lf;unfold ah;omega
def zmW(d5:Int):Bool:=!(eY (d5>=0)&&eY (d5<=1023))
def bU(w:eO)(d5 bO:Int):η×Bool:=match zmW d5 with
 |true=>(η.zero,N)
 |false=>gR w.s Gb η.zero (atR 4 0 0 d5 bO w.f)
def ic(kk ks ko d5:Int):bv:=match zmW d5 with
 |true=>[]
 |false=>rN kk ks ko d5 (S6.wrap (d5+1))
theorem C4{w:eO}(hw:w.ok){d5 bO:Int}(h:aT):Ev S5 jV 207 (ze4 w d5 bO) h (tf [ag (bU w d5 bO).1.row,ab (ic 4 0 0 d5),eP (bU w d5 bO).2]) h:=by
 unfold bU ic;cases ht:zmW d5 with
 |true=>exact ls0 ht h
 |false=>exact ls1 ht (λh=>Tp (Cy hw.sf h)) hw.s h
noncomputable abbrev uY(w:eO):aT:=[eF (zhX w),eF [nq,nq,nq,nq]]
theorem C5{w:eO}(hw:w.ok){d5 bO:Int}(h:aT):(Ev S5 jV 121 [kb w.l,dd d5,dd bO] h (tf [ag (bU w d5 bO).1.row,ab (ic 4 0 0 d5)]) h):=y0 [.v (@C4 w hw d5 bO (uY w))] h
def lm.zero:lm:=.mk 0 0 ⟨#[]⟩ 0 0 []
def uU.zero:uU:=⟨⟨#[]⟩,0,0,0,lm.zero,lm.zero⟩
instance:Inhabited uU:=⟨uU.zero⟩
theorem uU.zhH:uU.zero.ok:=by have:lm.zero.ok:=⟨by unfold NI ah;simp,trivial⟩;exact⟨this,this⟩
abbrev crsZ:D:=ag uU.zero.row
def iK(n:Int)(c:uU):Bool:=c.number==n&&fP c
abbrev zaa:bY:=[am {data:=#[]},dd 0,dd 0,dd 0,dd 0,dd 0,am {data:=#[]},dd 0,dd 0,nq,dd 0,dd 0,am {data:=#[]},dd 0,dd 0,nq]
abbrev zjU(a:Int)(b:bY)(c:Int)(d:bY):aT:=[eF [dd a],eF b,eF (Z8 c a 0),eF d]
noncomputable abbrev lc0_x0(w:eO)(n:Int):aT:=(zjU n (zhX w) 1 zaa)
abbrev zh3(a:eO)(b:D)(c d e f:Int)(g:FuncId):bY:=[kb a.l,b,kb (Z8 c d 0),dd e,dd f,.fn (.func g) [] za8]
theorem lc0{w:eO}{n d5 bO:Int}(ht:(!(eY (d5>=0)&&eY (d5<=1023)))=J):(Ev S5 jV 89 (zh3 w (zhb w) 1 n d5 bO 87) (zcG n) (tf [crsZ,ab [],eP N]) (zcG n)):=Tw (U7 (yT (h':=(zcG n)) (d:=TT [TF zaa,nq,eP N]) [.v (Tp (Γ':=jV) (@bD d5 0 1023 (lc0_x0 w n))),.b ht])) EX EX
abbrev zaG(a:eO)(b:Int):D:=TF [am (Th a.c (S9 b) default).name,dd (Th a.c (S9 b) default).number,dd (Th a.c (S9 b) default).go,dd (Th a.c (S9 b) default).rep,dd (lm.fl (Th a.c (S9 b) default).J3).op,dd (lm.fl (Th a.c (S9 b) default).J3).c,am (lm.fl (Th a.c (S9 b) default).J3).nm,dd (lm.fl (Th a.c (S9 b) default).J3).n,dd (lm.fl (Th a.c (S9 b) default).J3).d,ab (lm.fl (Th a.c (S9 b) default).J3).ks,dd (lm.fl (Th a.c (S9 b) default).Ω).op,dd (lm.fl (Th a.c (S9 b) default).Ω).c,am (lm.fl (Th a.c (S9 b) default).Ω).nm,dd (lm.fl (Th a.c (S9 b) default).Ω).n,dd (lm.fl (Th a.c (S9 b) default).Ω).d,ab (lm.fl (Th a.c (S9 b) default).Ω).ks]
noncomputable abbrev Bs(w:eO)(v:Int):bY:=[(zaG w v),fE (ql 0 0)]
noncomputable abbrev nG(w:eO)(n:Int):aT:=[eF [dd n],eF (zhX w),eF (Z8 1 n 0),eF zaa,xy]
noncomputable abbrev Me(w:eO)(n:Int):aT:=(zjU n (zhX w) 1 zaa)
abbrev ZE(a:eO)(b:Int):dO:=[vs (Th a.c (S9 b) default).name,vi (Th a.c (S9 b) default).number,vi (Th a.c (S9 b) default).go,vi (Th a.c (S9 b) default).rep,vi (lm.fl (Th a.c (S9 b) default).J3).op,vi (lm.fl (Th a.c (S9 b) default).J3).c,vs (lm.fl (Th a.c (S9 b) default).J3).nm,vi (lm.fl (Th a.c (S9 b) default).J3).n,vi (lm.fl (Th a.c (S9 b) default).J3).d,UP (lm.fl (Th a.c (S9 b) default).J3).ks,vi (lm.fl (Th a.c (S9 b) default).Ω).op,vi (lm.fl (Th a.c (S9 b) default).Ω).c,vs (lm.fl (Th a.c (S9 b) default).Ω).nm,vi (lm.fl (Th a.c (S9 b) default).Ω).n,vi (lm.fl (Th a.c (S9 b) default).Ω).d,UP (lm.fl (Th a.c (S9 b) default).Ω).ks]
abbrev zdG(a:eO)(b d:Int):D:=(eP ((Th a.c (S9 b) default).number==d&&fP (Th a.c (S9 b) default)))
theorem lc1{w:eO}{n d5 bO v:Int}{b:Bool}(ht:(!(eY (d5>=0)&&eY (d5<=1023)))=N)(hat:∀h,Ev S5 jV 106 (atA w 1 n 0 d5 bO) h (tf [dd v,eP b]) h)(hs:∀x∈w.c,x.ok):(Ev S5 jV 89 (zh3 w (zhb w) 1 n d5 bO 87) (zcG n) (tf [ag (gR w.c (iK n) uU.zero (v,b)).1.row,ab (rN 1 n 0 d5 (S6.wrap (d5+1))),eP (gR w.c (iK n) uU.zero (v,b)).2]) (zcG n)):=by
 cases sQ:!b||eY (v<0)||eY (v>=(↑(S7 (zc2 w)):Int))||!((Th w.c (S9 v) default).number==n&&fP (Th w.c (S9 v) default))
 ·refine Tw (U7 (Ev.symT (h':=(zcG n)) (d:=TT [(zaG w v),ab (zbz 1 n 0 d5),eP J]) ZK (zi0 d5 4 1 n v b (ZE w v) (zdG w v n)) Z (.q0 (Tp (Γ':=jV) (@bD (d5) (0) (1023) ((Me w n)))) (.q1 ht (.c (show (zhI 1 n 0 d5)=(zhI 1 n 0 d5) from rfl) (.q4 (@hat ((nG w n))) (.c (show(!(!b||eY (v<0)||eY (v>=(↑(S7 (zc2 w)):Int))))=J->ao v (zc2 w) (ZE w v) 16 from(λhg=>?_)) (.q6 (show(!(!b||eY (v<0)||eY (v>=(↑(S7 (zc2 w)):Int))))=J->Ev S5 jV 87 (Bs w v) (nG w n) (zdG w v n) (nG w n) from(λhg=>(Tw (Ev.zpH (args:=(Bs w v)) (H:=(nG w n)) [0] (@Br (Th w.c (S9 v) default) lj (n)) Z Z Z trivial trivial) Z Z))) (.q7 sQ (.q8 (show ao v (zc2 w) (ZE w v) 16 from ?_) .n)))))))))) (by(have hb:jt w.c (iK n) (v,b)=N:=by rw[<-sQ];simp[jt,iK]);simp only[gR,hb];rfl) lj<;>(refine cy (λ_=>rfl) ?_ ?_<;>simp_all;done)
 ·exact Tw (U7 (Ev.symT (h':=(zcG n)) (d:=TT [TF zaa,ab (zbz 1 n 0 d5),eP N]) ZK [ZH (zdV d5 0 1023),.b N,.nx 1,CE (τ 4 (rN 1 n 0 d5 (S8 S6 (d5+1)))),ZH (TT [dd v,eP b]),.row (ZE w v),ZH (zdG w v n),.b J] Z (.q0 (Tp (Γ':=jV) (@bD (d5) (0) (1023) ((Me w n)))) (.q1 ht (.c (show (zhI 1 n 0 d5)=(zhI 1 n 0 d5) from rfl) (.q4 (@hat ((nG w n))) (.c (show(!(!b||eY (v<0)||eY (v>=(↑(S7 (zc2 w)):Int))))=J->ao v (zc2 w) (ZE w v) 16 from(λhg=>(by(refine cy (λ_=>rfl) ?_ ?_<;>simp_all;done)))) (.q6 (show(!(!b||eY (v<0)||eY (v>=(↑(S7 (zc2 w)):Int))))=J->Ev S5 jV 87 (Bs w v) (nG w n) (zdG w v n) (nG w n) from(λhg=>(Tw (Ev.zpH (args:=(Bs w v)) (H:=(nG w n)) [0] (@Br (Th w.c (S9 v) default) lj (n)) Z Z Z trivial trivial) Z Z))) (.q7 sQ .n))))))))) (by(have hb:jt w.c (iK n) (v,b)=J:=by rw[<-sQ];simp[jt,iK]);simp[gR,hb];rfl) lj
def ac(w:eO)(n d5 bO:Int):uU×Bool:=match zmW d5 with
 |true=>(uU.zero,N)
 |false=>gR w.c (iK n) uU.zero (atR 1 n 0 d5 bO w.f)
abbrev zg7(a:eO)(b c d:Int)(e:bv):D:=(tf [ag (ac a b c d).1.row,ab (e),eP (ac a b c d).2])
theorem C6{w:eO}(hw:w.ok){n d5 bO:Int}:Ev S5 jV 89 [.agg w.l,ab (w.c.map uU.row),.agg [dd 1,dd n,dd 0],dd d5,dd bO,.fn (.func 87) [] [.ref (.ptr 0 0)]] [.var [dd n]] (.JY [ag (ac w n d5 bO).1.row,ab (ic 1 n 0 d5),eP (ac w n d5 bO).2]) [.var [dd n]]:=by
 unfold ac ic
 cases ht:zmW d5 with
 | true=>exact lc0 ht
 | false=>exact lc1 ht (λh=>Tp (Cy hw.sf h)) hw.c
noncomputable abbrev lq(w:eO)(n:Int):aT:=[eF (zhX w),eF [dd n],eF zaa]
abbrev zbE(a:eO)(b c d:Int):bY:=[kb a.l,dd b,dd c,dd d]
theorem C7{w:eO}(hw:w.ok){n d5 bO:Int}(h:aT):(Ev S5 jV 32 (zbE w n d5 bO) h (zg7 w n d5 bO (ic 1 n 0 d5)) h):=y0 [.v ((fX [1] (@C6 w hw n d5 bO) trivial trivial):Ev S5 jV 89 [TF (eO.l w),ab (zc2 w),TF (Z8 1 n 0),dd d5,dd bO,UL (TM 87) [] zcq] (lq w n) (TT [TF [am (ac w n d5 bO).fst.name,dd (ac w n d5 bO).fst.number,dd (ac w n d5 bO).fst.go,dd (ac w n d5 bO).fst.rep,dd (lm.fl (ac w n d5 bO).fst.J3).op,dd (lm.fl (ac w n d5 bO).fst.J3).c,am (lm.fl (ac w n d5 bO).fst.J3).nm,dd (lm.fl (ac w n d5 bO).fst.J3).n,dd (lm.fl (ac w n d5 bO).fst.J3).d,ab (lm.fl (ac w n d5 bO).fst.J3).ks,dd (lm.fl (ac w n d5 bO).fst.Ω).op,dd (lm.fl (ac w n d5 bO).fst.Ω).c,am (lm.fl (ac w n d5 bO).fst.Ω).nm,dd (lm.fl (ac w n d5 bO).fst.Ω).n,dd (lm.fl (ac w n d5 bO).fst.Ω).d,ab (lm.fl (ac w n d5 bO).fst.Ω).ks],ab (ic 1 n 0 d5),eP (ac w n d5 bO).2]) (lq w n))] h
abbrev dK(l:AT):List (bY):=l.map λf=>f.row.map .p
abbrev ey(l:Bv):List (bY):=l.map λb=>[eP b]
abbrev bP(l:bV):List (bY):=l.map λn=>[dd n]
abbrev zaV:Nat×D:=(zjy 8 3)
abbrev zbw:Nat×D:=(zjy 7 2)
abbrev vaT:bY:=oz 63 0 [zaE,zbw,zaV,(15,.fn (.func 251) [] zac)]
noncomputable abbrev vaL(st:LoopState):mX:=Fa st Y 0 vaT #[16] (ax (sub TV 0)) (ak (sub TV 0))
abbrev zg6(a:AT):bY:=(dK a).flatten
noncomputable abbrev vaH(kk ks ko bO:Int)(fs:bv)(rs:bY)(tj:AT)(G:Bv)(st:LoopState)(more:aT):aT :=[eF (Z8 kk ks ko),eF rs,eF (zg6 tj),eF (ey G).flatten,eF [ab fs],eF (Z8 kk ks ko),eF [dd bO],J1,vaL st]++more
abbrev zf8(a:Nat):Nat×D:=(a,fE (ql 10 0))
abbrev vaU:bY:=oz 63 0 [zaE,zbw,zaV,(zf8 9)]
theorem va_asg{kk ks ko bO:Int}{fs:bv}{rs:bY}{tj:AT}{G:Bv}{f:uN}:(CW S5 fI (vaH kk ks ko bO fs rs tj G E6 (ziT f)) J (ax (sub TV 0)) {t:=dD vaT [(16,ag f.row)],h:=vaH kk ks ko bO fs rs tj G E6 (ziT f),m:=[]} w8 {t:=vaU,h:=vaH kk ks ko bO fs rs tj G E6 (zbg f),m:=[]}):=yx [CE (EZ [6,7,8,9])] []
theorem uZ{h:aT}{off n:Nat}{l:Bv}{b:Bool}(hb:h[3]?=G (eF (ey l).flatten))(hs:l[n]?=G b)(ho:off=n*1):aQ S5 h 4 (fE (ql 3 off))=G (eP b):=by subst ho;exact pX (sz:=1) (j:=0) (row:=[eP b]) Z Z hb (λr hr=>lj) (by simp[hs]) rfl
abbrev zgH(a:Nat):D:=(fE (ql 2 a))
theorem Gn{h:aT}{off n:Nat}{l:AT}{g:uN}(hb:h[2]?=G (eF (zg6 l)))(hs:l[n]?=G g)(ho:off=n*8):aQ S5 h 59 (zgH off)=G (ag g.row):=by subst ho;exact Iz (sz:=8) (row:=g.row.map .p) Z Z hb (by simp[Ta]) (by simp[hs])
theorem va_stB{h:List mX}{off n:Nat}{l:List uN}{f:uN}(hb:h[2]? = some (.var (dK l).flatten))(hn:n<l.length)(ho:off=n*8):aY S5 h 59 (.ref (.ptr 2 off)) (ag f.row)=some (h.set 2 (.var (dK (l.set n f)).flatten)):=by
 subst ho
 rw[pY (sz:=8) (new:=f.row.map .p) rfl (by kernel_rfl) rfl hb (by simp[Ta]) (by simpa using hn),dK,dK,List.map_set]
theorem va_stS{h:aT}{off n:Nat}{l:Bv}{b:Bool}(hb:h[3]?=G (eF (ey l).flatten))(hn:n<l.length)(ho:off=n*1):aY S5 h 4 (fE (ql 3 off)) (eP b)=G (h.set 3 (eF (ey (l.set n b)).flatten)):=by subst ho;rw[pY (sz:=1) (new:=[eP b]) rfl Z rfl hb (λr hr=>lj) (by simpa using hn),ey,ey,List.map_set]
theorem tl{α:Type}{l:List α}{n:Nat}{a:α}(h:l[n]?=G a):n<l.length:=(Td.1 h).1
def zne(f g:uN)(b:Bool):Bool:=!b||eY (orI (cF f.bO g.bO) (cF f.no g.no)>=0)
noncomputable abbrev vaS(kk ks ko bO:Int)(fs:bv)(rs:bY)(tj:AT)(G:Bv)(f:uN)(t:Int):AS:={t:=oz 63 0 [zaE,zbw,zaV,(zf8 9),(10,dd t)],h:=vaH kk ks ko bO fs rs tj G ω (zbg f),m:=[]}
abbrev zhk:bY:=(oz 63 0 [(zjy 6 1),(zjy 7 2),(zjy 8 3),(15,UL (TM 251) [] zjV)])
abbrev ZS:bY:=zhk
abbrev ziK:Array Tmp:={toList:=[16]}
abbrev zdA:Array Tmp:=ziK
noncomputable abbrev iL(kk:Int)(ks:Int)(ko:Int)(bO:Int)(fs:bv)(rs:bY)(tj:AT)(G:Bv)(f:uN):aT:=[eF (Z8 kk ks ko),eF rs,eF (Tv (dK tj)),eF (Tv (ey G)),eF [ab fs],eF (Z8 kk ks ko),eF [dd bO],J1,Fa TX Y 0 ZS zdA (ax (sub TV 0)) (ak (sub TV 0)),eF (ZV f),eF (ZV f)]
abbrev zb6(a b:Nat):D:=(fE (ql a (0+S9 (↑b:Int)*1)))
abbrev zgQ(a:Nat):D:=(fE (ql 2 (0+S9 (↑a:Int)*8)))
theorem va_b{kk ks ko bO:Int}{fs:bv}{rs:bY}{tj b0:AT}{some s0:Bv}{f g f0:uN}{n:Nat}{b:Bool}(hb:tj[n]? = .some g)(hs:some[n]? = .some b)(hn:L9 (n:Int) 1024=true)(lL:eY ((n:Int)<if false=true then if 1024>f.P4 then 1024 else f.P4 else if 1024<f.P4 then 1024 else f.P4)=true):(CW S5 fI (vaH kk ks ko bO fs rs b0 s0 .ready (ziT f0)) true (sub TV 1) (vaS kk ks ko bO fs rs tj some f (n:Int)) .normal (vaS kk ks ko bO fs rs (bif zne f g b then tj.set n f else tj) (bif zne f g b then some.set n true else some) f (S6.wrap ((n:Int)+1)))):=by
 cases sQ:!b||eY (orI (cF f.bO g.bO) (cF f.no g.no)>=0)
 ·refine yX {t:=oz 63 0 [zaE,zbw,zaV,(zf8 9),(10,(ZZ n))],h:=(iL kk ks ko bO fs rs tj some f),m:=[]} Tr [.st (.mask [6,7,8,9,10])] [.b lL,hn,(?_:@Eq (At) (aQ S5 (iL kk ks ko bO fs rs tj some f) 4 (zb6 3 n)) (Vs (eP b))),((λhg=>hn):(!!b)=true->L9 (↑n:Int) 1024=true),((λhg=>?_):(!!b)=true->aQ S5 (iL kk ks ko bO fs rs tj some f) 59 (zgQ n)=Vs (TF (ZV g))),.a1 (.ov 31 (eP b)),.a1 (.ov 37 (ag (Ta g))),.w (!!b) (@uy f g (iL kk ks ko bO fs rs tj some f)),.b sQ] (by grind) (by(have hh:zne f g b=false:=sQ;simp only[hh,cond_false];first|done|rfl))<;>(first|exact uZ rfl hs (by simp)|exact Gn rfl hb (by simp))
 ·let v0:bY:=(ZV f);let v1:aT:=[.var (Z8 kk ks ko),.var rs,.var (Tv (dK (UE tj n f))),.var (Tv (ey (UE some n true))),.var [ab fs],.var (Z8 kk ks ko),.var [dd bO],.P2,.loop TX none 0 ZS zdA (ax (sub TV 0)) (ak (sub TV 0)),.var v0,.var v0];let v2:aT:=[.var (Z8 kk ks ko),.var rs,.var (Tv (dK (UE tj n f))),.var (Tv (ey some)),.var [ab fs],.var (Z8 kk ks ko),.var [dd bO],.P2,.loop TX none 0 ZS zdA (ax (sub TV 0)) (ak (sub TV 0)),.var v0,.var v0];let v3:=S2 D.p (Ta f);refine yX {t:=oz 63 0 [zaE,zbw,zaV,(zf8 9),(10,(ZZ n))],h:=v1,m:=[]} Tr [.st (.mask [6,7,8,9,10])] [.b lL,hn,(?_:@Eq (At) (aQ S5 (iL kk ks ko bO fs rs tj some f) 4 (zb6 3 n)) (Vs (eP b))),((λhg=>hn):(!!b)=true->L9 (↑n:Int) 1024=true),((λhg=>?_):(!!b)=true->aQ S5 (iL kk ks ko bO fs rs tj some f) 59 (zgQ n)=Vs (TF (ZV g))),.a1 (.ov 31 (eP b)),.a1 (.ov 37 (ag (Ta g))),.w (!!b) (@uy f g (iL kk ks ko bO fs rs tj some f)),.b sQ,hn,(?_:@Eq (Option (aT)) (aY S5 (iL kk ks ko bO fs rs tj some f) 59 (zgQ n) (TF v0)) (Vs v2)),hn,(?_:@Eq (Option (aT)) (aY S5 v2 4 (zb6 3 n) (eP true)) (Vs v1)),.a1 (.oh 10044 D.any (vaH kk ks ko bO fs rs (UE tj n f) some TX (zb0 v3))),.a1 (.oh 10045 D.any (vaH kk ks ko bO fs rs (UE tj n f) (UE some n true) TX (zb0 v3)))] (by subst v0 v1 v2 v3;grind) (by subst v0 v1 v2 v3;(have hh:zne f g b=true:=sQ;simp only[hh,cond_true];first|done|rfl))<;>subst v0 v1 v2 v3<;>(first|exact uZ rfl hs (by simp)|exact Gn rfl hb (by simp)|exact va_stB rfl (tl hb) (by simp)|exact va_stS rfl (tl hs) (by simp))
theorem va_l{kk ks ko bO:Int}{fs:bv}{rs:bY}{tj b0:AT}{G s0:Bv}{f f0:uN}{x:Int}(lL:eY (x<if N=J then if 1024>f.P4 then 1024 else f.P4 else if 1024<f.P4 then 1024 else f.P4)=N):(CW S5 fI (vaH kk ks ko bO fs rs b0 s0 E6 (ziT f0)) J (sub TV 1) (vaS kk ks ko bO fs rs tj G f x) (E8 2) {t:=oz 63 0 [],h:=vaH kk ks ko bO fs rs tj G ω (zbg f),m:=[]}):=yx zbN [.b lL]
abbrev VS:=AT×Bv
def VS.ok(s:VS):Prop:=s.1.length=1024/\s.2.length=1024
def C8(f:uN):Int:=if f.P4<1024 then f.P4 else 1024
def ie(f:uN)(s:VS)(n:Nat):VS:=bif zne f (s.1.getD n default) (s.2.getD n N) then (s.1.set n f,s.2.set n J) else s
def Ka(f:uN)(x:Int)(s:VS):VS:=(List.range' x.toNat (C8 f-x).toNat).foldl (ie f) s
theorem znd{f:uN}{s:VS}(n:Nat)(h:s.ok):(ie f s n).ok:=by
 unfold ie;cases zne f (s.1.getD n default) (s.2.getD n N);·exact h
 ·exact⟨by simpa using h.1,by simpa using h.2⟩
theorem Gp(f:uN):(if N=J then if 1024>f.P4 then 1024 else f.P4 else if 1024<f.P4 then 1024 else f.P4)=C8 f:=by unfold C8;grind
theorem va_cw{kk ks ko bO:Int}{fs:bv}{rs:bY}{tj b0:AT}{some s0:Bv}{f f0:uN}{x:Int}(hx:0<=x)(ho:VS.ok (tj,some)):CW S5 fI (vaH kk ks ko bO fs rs b0 s0 .ready (ziT f0)) true (.loop (sub TV 1)) (vaS kk ks ko bO fs rs tj some f x) (.exit 2) {t:=oz 63 0 [],h:=vaH kk ks ko bO fs rs (Ka f x (tj,some)).1 (Ka f x (tj,some)).2 .busy (zbg f),m:=[]}:=by
 have hx':((x.toNat:Nat):Int)=x:=by omega
 have hh:C8 f<=1024:=by unfold C8;split<;>omega
 have:=UR (P:=S5) (Γ:=fI) (h0:=vaH kk ks ko bO fs rs b0 s0 .ready (ziT f0)) (rd:=true) (c:=sub TV 1) (σ:=VS) (ρ:=Empty) (List.range' x.toNat (C8 f-x).toNat) (λn s=>.inl (ie f s n))
  (λi s=>vaS kk ks ko bO fs rs s.1 s.2 f (x+(i:Int))) (.exit 2) (λs=>{t:=oz 63 0 [],h:=vaH kk ks ko bO fs rs s.1 s.2 .busy (zbg f),m:=[]}) (λr=>r.elim)
  (λ_ s=>s.ok) (by simp) (λr=>r.elim) ?_ ?_ (tj,some) ho
 ·rw[aM (λs n=>ie f s n)] at this;grind [bf,Ka]
 ·intro i n s hn hs;obtain⟨hi,he⟩:=Td.1 hn;simp only[List.length_range'] at hi;simp at he;have lL:(n:Int)<C8 f:=by omega
  have hb:s.1[n]? = .some (s.1.getD n default):=by rw[Th,TH (by rw[hs.1];omega)];rfl
  have hc:s.2[n]? = .some (s.2.getD n false):=by rw[Th,TH (by rw[hs.2];omega)];rfl
  refine⟨λs' h=>by cases h;exact znd n hs,?_⟩;have key:=va_b (kk:=kk) (ks:=ks) (ko:=ko) (bO:=bO) (fs:=fs) (rs:=rs) (b0:=b0) (s0:=s0) (f:=f) (f0:=f0) hb hc (by simp[L9];omega) (by grind [Gp]);rw[wrap_i64 (by omega) (by omega)] at key;have e1:x+(i:Int)=(n:Int):=by omega
  have e2:x+((i+1:Nat):Int)=(n:Int)+1:=by omega
  simp only[ai,e1,e2];unfold ie;grind
 ·intro s _;refine va_l ?_;grind [Gp]
theorem PX{kk ks ko bO:Int}{fs:bv}{rs:bY}{tj:AT}{G:Bv}(ho:VS.ok (tj,G)){f:uN}:(CW S5 fI (vaH kk ks ko bO fs rs tj G E6 (ziT f)) J (ak (sub TV 0)) {t:=vaU,h:=vaH kk ks ko bO fs rs tj G ω (zbg f),m:=[]} w8 {t:=oz 63 0 [],h:=vaH kk ks ko bO fs rs (Ka f (if J=J then if f.jW>0 then f.jW else 0 else if f.jW<0 then f.jW else 0) (tj,G)).1 (Ka f (if J=J then if f.jW>0 then f.jW else 0 else if f.jW<0 then f.jW else 0) (tj,G)).2 ω (zbg f),m:=[]}):=by have xd:=(@va_cw (kk) (ks) (ko) (bO) (fs) (rs) (tj) (tj) (G) (G) (f) (f) (if J=J then if f.jW>0 then f.jW else 0 else if f.jW<0 then f.jW else 0) lj (ho));exact yx zbN [.s [6,7,8,9,10] xd]
end Go.Vi
