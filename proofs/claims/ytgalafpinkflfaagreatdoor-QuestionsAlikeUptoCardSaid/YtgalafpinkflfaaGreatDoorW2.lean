/- A part of the proof; no conditions of its own. -/
import Derived.Test.YtgalafpinkflfaaGreatDoorW1
open Bool renaming true->J,false->N
open Option renaming some->G,none->Y
open Go.Vi.Ans renaming st->δ,ov->zjr,inl->zfF,val->zbZ
open Go.Vi.D renaming Ρ->JV,agg->uT,ref->mW
open Go.Vi.F2 renaming var->iI,zaB->Ζ,ν->S3,loop->χ
open Go.LoopState renaming ready->ζ,exhausted->zhL,busy->zfB
open Go.Exit renaming exit->η,normal->NO
open Go.Vi.SOp renaming mask->τ,frz->zed,trim->zkm
open Go.Vi.Ref renaming ptr->J0
open Decidable renaming decide -> lL
open Go.Vi.JZ renaming row -> Tb
open Go.IntKind renaming i64 -> S6, wrap -> S8
open Go.Proofs.Tryz renaming prog -> S5, f161 -> T9, f287 -> YF, f127 -> TV
open List renaming length -> S7, getElem?_eq_some_iff -> Td, mem_of_getElem? -> T6, any_cons -> XK, map -> S2, any -> XS, getElem?_eq_getElem -> TH, getD -> Th, flatten -> Tv, set -> UE
open Go.Exit renaming normal -> Tr, ret -> VM
open Go.Vi.CW renaming each -> UR
open Go.Vi.Ev renaming zly -> Tw, zlh -> Tp, zkv -> U7
open Go.Vi.Cls renaming row -> Uq
open Go.Vi.zbv renaming row -> UG
open Go.Vi.D renaming fn -> UL, agg -> TF, Ρ -> TT
open Go.Fn renaming func -> TM
open Bool renaming not_eq_true' -> UZ
open Go.LoopState renaming busy -> TX, ready -> TJ, done -> W4
open Go.Code renaming ret -> Y9
open Go.Vi.JX renaming row -> Ta
open Int renaming toNat -> S9
open Go.Vi.Dp renaming sl -> UP
open Option renaming some -> Vs
open Go Go.Proofs
namespace Go.Vi
set_option maxRecDepth 100000
set_option maxHeartbeats 4000000
abbrev AT:=List JX
abbrev iN:=List JZ
structure ZB where
 kind:Int
 zmD:Int
 action:Int
 til:Int
 deriving Inhabited
def ZB.row(a:ZB):dO:=[vi a.kind,vi a.zmD,vi a.action,vi a.til]
def xaF(p:JZ->Bool)(c:JZ)(s:Nat):Nat⊕Nat:=if p c=true then .inr s else .inl (s+1)
abbrev zby(a:bv)(b:D)(c:Int)(d:aT):AS:={t:=Bn 19 0 [(0,ab a),(1,b),(4,go 0),(7,go a.length),(8,go c)],h:=d,m:=[]}
abbrev xaS(fs:bv)(f:D)(h:aT)(i:Int):AS:=(zby fs f i h)
abbrev xaX(h:aT):Nat->Exit×AS:=λk=>(.ret,{t:=Bn 19 0 [(4,go (k:Int))],h:=h,m:=[]})
abbrev zaS(a:Nat):D:=go (↑a:Int)
abbrev zcg:Do:=[δ (τ [4])]
abbrev zdS:Do:=[δ (τ [0,1,4,7,8])]
theorem Pw{fs:List (List Dp)}{i:Nat}{c:JZ}{f:D}{h:List F2}{p:JZ->Bool}(hr:ao (i:Int) fs (Tb c) 5)(xD:lL ((i:Int)<(fs.length:Int))=true)(hw:S6.wrap ((i:Int)+1)=((i+1:Nat):Int))(hi:Iv S5 mX f [ag (Tb c)] h (kr (p c)) h):(CW S5 mX h false (sub Tryz.f274 0) (xaS fs f h i) (ai (λ_=>xaS fs f h ((i+1:Nat):Int)) (xaX h) (xaF p c i)).1 (ai (λ_=>xaS fs f h ((i+1:Nat):Int)) (xaX h) (xaF p c i)).2):=by
 cases F3:p c
 ·refine yX {t:=Bn 19 0 [(0,ab fs),(1,f),(4,go 0),(7,go (↑(S7 fs):Int)),(8,go (S8 S6 ((↑i:Int)+1)))],h:=h,m:=[]} Tr [.st (.mask [0,1,4,7,8])] [.b xD,.r hr,.i (@hi),.b F3] ?_ ?_<;>(simp[xaF,ai,hw, *])
 ·refine yX {t:=Bn 19 0 [(4,go (↑i:Int))],h:=h,m:=[]} VM [.st (.mask [4])] [.b xD,.r hr,.i (@hi),.b F3] ?_ ?_<;>(simp[xaF,ai,hw, *])
abbrev zbt(a:aT):AS:={t:=Bn 19 0 [(4,go 0)],h:=a,m:=[]}
theorem Px{fs:bv}{i:Nat}{f:D}{h:aT}(xD:lL ((i:Int)<(fs.length:Int))=N):(CW S5 mX h N (sub Tryz.f274 0) (xaS fs f h i) (η 0) (zbt h)):=yx zcg [.b xD]
def xaR(p:JZ->Bool)(l:iN):Int:=match Pu (xaF p) l 0 with | .inl _=> -1 | .inr k=>(k:Int)
def Py(h:aT)(p:JZ->Bool)(l:iN):Exit×AS:=bf (η 0) (λ_:Nat=>(zbt h)) (xaX h) (Pu (xaF p) l 0)
theorem xa_cw{l:iN}(hl:ah l){f:D}{h:aT}{p:JZ->Bool}(hf:∀c∈l,Iv S5 mX f [ag (Tb c)] h (kr (p c)) h):CW S5 mX h false (.loop (sub Tryz.f274 0)) (xaS (l.map Tb) f h 0) (Py h p l).1 (Py h p l).2:=by
 refine UR l (xaF p) (λi _=>xaS (l.map Tb) f h (i:Int)) (.exit 0) _ (xaX h) (λi s=>s=i) (by simp) (λ_=>by simp) ?_ ?_ 0 rfl;·intro i c s hc hs;subst hs;have hi:=(Td.1 hc).1;refine⟨λs' h=>?_,Pw (rowAt hc rfl) (κ Tb hi) (J3 hi hl) (hf c (T6 hc))⟩;grind [xaF]
 ·intro s hs;exact Px (aR Tb l)
theorem xai_ev{l:iN}(hl:ah l){f:D}{h:aT}{p:JZ->Bool}(hf:∀c∈l,Iv S5 mX f [ag (Tb c)] h (kr (p c)) h):(Ev S5 mX 274 [ab (l.map Tb),f] h (go (xaR p l)) h):=by
 have Pq:=(@xa_cw (l) (hl) (f) (h) (p) (hf));unfold Py at Pq;revert Pq;cases ho1:Pu (xaF p) l 0 with
 |inl ξ=>intro Pq;exact Tw (yF (h':=h) (d:=go (-1)) [.s [0,1,4,7,8] Pq]) (by simp[xaR,ho1]) (by simp[xaR,ho1])
 |inr zce=>intro Pq;exact Tw (yF (h':=h) (d:=(zaS zce)) [.s [0,1,4,7,8] Pq]) (by simp[xaR,ho1]) (by simp[xaR,ho1])
theorem xa_any(p:JZ->Bool)(l:iN):∀k:Nat,(match Pu (xaF p) l k with | .inl _=>N | .inr _=>J)=l.any p:=by
 induction l with
 |nil=>intro k;rfl
 |cons f l ih=>
  intro k;rw[XK];cases hf:p f;·simp[Pu,xaF,hf];exact ih (k+1)
  ·simp[Pu,xaF,hf]
theorem xaR_ge(p:JZ->Bool)(l:iN):lL (xaR p l>=0)=l.any p:=by rw[<-xa_any p l 0,xaR];split<;>simp
theorem Ma{l:iN}(hl:ah l){f:D}{h:aT}{p:JZ->Bool}(hf:∀c∈l,Iv S5 mX f [ag (Tb c)] h (kr (p c)) h):(Ev S5 mX 200 [ab (l.map Tb),f] h (kr (l.any p)) h):=Tw (yF (h':=h) (d:=kr (lL (xaR p l>=0))) [.v (@xai_ev l hl f h p hf)]) (by grind [xaR_ge]) uU
def xcF(p:Cls->Bool)(c:Cls)(s:Nat):Nat⊕Nat:=if p c=true then .inr s else .inl (s+1)
abbrev xcS(fs:bv)(f:D)(h:aT)(i:Int):AS:=(zby fs f i h)
abbrev xcX(h:aT):Nat->Exit×AS:=λk=>(.ret,{t:=Bn 19 0 [(4,go (k:Int))],h:=h,m:=[]})
theorem Pz{fs:List (List Dp)}{i:Nat}{c:Cls}{f:D}{h:List F2}{p:Cls->Bool}(hr:ao (i:Int) fs (Uq c) 4)(xD:lL ((i:Int)<(fs.length:Int))=true)(hw:S6.wrap ((i:Int)+1)=((i+1:Nat):Int))(hi:Iv S5 mX f [ag (Uq c)] h (kr (p c)) h):(CW S5 mX h false (sub Tryz.f331 0) (xcS fs f h i) (ai (λ_=>xcS fs f h ((i+1:Nat):Int)) (xcX h) (xcF p c i)).1 (ai (λ_=>xcS fs f h ((i+1:Nat):Int)) (xcX h) (xcF p c i)).2):=by
 cases F3:p c
 ·refine yX {t:=Bn 19 0 [(0,ab fs),(1,f),(4,go 0),(7,go (↑(S7 fs):Int)),(8,go (S8 S6 ((↑i:Int)+1)))],h:=h,m:=[]} Tr [.st (.mask [0,1,4,7,8])] [.b xD,.r hr,.i (@hi),.b F3] ?_ ?_<;>(simp[xcF,ai,hw, *])
 ·refine yX {t:=Bn 19 0 [(4,go (↑i:Int))],h:=h,m:=[]} VM [.st (.mask [4])] [.b xD,.r hr,.i (@hi),.b F3] ?_ ?_<;>(simp[xcF,ai,hw, *])
theorem PA{fs:bv}{i:Nat}{f:D}{h:aT}(xD:lL ((i:Int)<(fs.length:Int))=N):(CW S5 mX h N (sub Tryz.f331 0) (xcS fs f h i) (η 0) (zbt h)):=yx zcg [.b xD]
def xcR(p:Cls->Bool)(l:List Cls):Int:=match Pu (xcF p) l 0 with | .inl _=> -1 | .inr k=>(k:Int)
def PB(h:aT)(p:Cls->Bool)(l:List Cls):Exit×AS:=bf (η 0) (λ_:Nat=>(zbt h)) (xcX h) (Pu (xcF p) l 0)
theorem xc_cw{l:List Cls}(hl:ah l){f:D}{h:aT}{p:Cls->Bool}(hf:∀c∈l,Iv S5 mX f [ag (Uq c)] h (kr (p c)) h):CW S5 mX h false (.loop (sub Tryz.f331 0)) (xcS (l.map Uq) f h 0) (PB h p l).1 (PB h p l).2:=by
 refine UR l (xcF p) (λi _=>xcS (l.map Uq) f h (i:Int)) (.exit 0) _ (xcX h) (λi s=>s=i) (by simp) (λ_=>by simp) ?_ ?_ 0 rfl;·intro i c s hc hs;subst hs;have hi:=(Td.1 hc).1;refine⟨λs' h=>?_,Pz (rowAt hc rfl) (κ Uq hi) (J3 hi hl) (hf c (T6 hc))⟩;grind [xcF]
 ·intro s hs;exact PA (aR Uq l)
theorem xci_ev{l:List Cls}(hl:ah l){f:D}{h:aT}{p:Cls->Bool}(hf:∀c∈l,Iv S5 mX f [ag (Uq c)] h (kr (p c)) h):(Ev S5 mX 331 [ab (l.map Uq),f] h (go (xcR p l)) h):=by
 have Pq:=(@xc_cw (l) (hl) (f) (h) (p) (hf));unfold PB at Pq;revert Pq;cases ho1:Pu (xcF p) l 0 with
 |inl ξ=>intro Pq;exact Tw (yF (h':=h) (d:=go (-1)) [.s [0,1,4,7,8] Pq]) (by simp[xcR,ho1]) (by simp[xcR,ho1])
 |inr zce=>intro Pq;exact Tw (yF (h':=h) (d:=(zaS zce)) [.s [0,1,4,7,8] Pq]) (by simp[xcR,ho1]) (by simp[xcR,ho1])
theorem xc_any(p:Cls->Bool)(l:List Cls):∀k:Nat,(match Pu (xcF p) l k with | .inl _=>N | .inr _=>J)=l.any p:=by
 induction l with
 |nil=>intro k;rfl
 |cons f l ih=>
  intro k;rw[XK];cases hf:p f;·simp[Pu,xcF,hf];exact ih (k+1)
  ·simp[Pu,xcF,hf]
theorem xcR_ge(p:Cls->Bool)(l:List Cls):lL (xcR p l>=0)=l.any p:=by rw[<-xc_any p l 0,xcR];split<;>simp
theorem xcc_ev{l:List Cls}(hl:ah l){f:D}{h:aT}{p:Cls->Bool}(hf:∀c∈l,Iv S5 mX f [ag (Uq c)] h (kr (p c)) h):(Ev S5 mX 315 [ab (l.map Uq),f] h (kr (l.any p)) h):=Tw (yF (h':=h) (d:=kr (lL (xcR p l>=0))) [.v (@xci_ev l hl f h p hf)]) (by grind [xcR_ge]) uU
def xfF(p:zbv->Bool)(c:zbv)(s:Nat):Nat⊕Nat:=if p c=true then .inr s else .inl (s+1)
abbrev xfS(fs:bv)(f:D)(h:aT)(i:Int):AS:=(zby fs f i h)
abbrev xfX(h:aT):Nat->Exit×AS:=λk=>(.ret,{t:=Bn 19 0 [(4,go (k:Int))],h:=h,m:=[]})
theorem PC{fs:List (List Dp)}{i:Nat}{c:zbv}{f:D}{h:List F2}{p:zbv->Bool}(hr:ao (i:Int) fs (UG c) 2)(xD:lL ((i:Int)<(fs.length:Int))=true)(hw:S6.wrap ((i:Int)+1)=((i+1:Nat):Int))(hi:Iv S5 mX f [ag (UG c)] h (kr (p c)) h):(CW S5 mX h false (sub Tryz.f332 0) (xfS fs f h i) (ai (λ_=>xfS fs f h ((i+1:Nat):Int)) (xfX h) (xfF p c i)).1 (ai (λ_=>xfS fs f h ((i+1:Nat):Int)) (xfX h) (xfF p c i)).2):=by
 cases F3:p c
 ·refine yX {t:=Bn 19 0 [(0,ab fs),(1,f),(4,go 0),(7,go (↑(S7 fs):Int)),(8,go (S8 S6 ((↑i:Int)+1)))],h:=h,m:=[]} Tr [.st (.mask [0,1,4,7,8])] [.b xD,.r hr,.i (@hi),.b F3] ?_ ?_<;>(simp[xfF,ai,hw, *])
 ·refine yX {t:=Bn 19 0 [(4,go (↑i:Int))],h:=h,m:=[]} VM [.st (.mask [4])] [.b xD,.r hr,.i (@hi),.b F3] ?_ ?_<;>(simp[xfF,ai,hw, *])
theorem PD{fs:bv}{i:Nat}{f:D}{h:aT}(xD:lL ((i:Int)<(fs.length:Int))=N):(CW S5 mX h N (sub Tryz.f332 0) (xfS fs f h i) (η 0) (zbt h)):=yx zcg [.b xD]
def xfR(p:zbv->Bool)(l:List zbv):Int:=match Pu (xfF p) l 0 with | .inl _=> -1 | .inr k=>(k:Int)
def PE(h:aT)(p:zbv->Bool)(l:List zbv):Exit×AS:=bf (η 0) (λ_:Nat=>(zbt h)) (xfX h) (Pu (xfF p) l 0)
theorem xf_cw{l:List zbv}(hl:ah l){f:D}{h:aT}{p:zbv->Bool}(hf:∀c∈l,Iv S5 mX f [ag (UG c)] h (kr (p c)) h):CW S5 mX h false (.loop (sub Tryz.f332 0)) (xfS (l.map UG) f h 0) (PE h p l).1 (PE h p l).2:=by
 refine UR l (xfF p) (λi _=>xfS (l.map UG) f h (i:Int)) (.exit 0) _ (xfX h) (λi s=>s=i) (by simp) (λ_=>by simp) ?_ ?_ 0 rfl;·intro i c s hc hs;subst hs;have hi:=(Td.1 hc).1;refine⟨λs' h=>?_,PC (rowAt hc rfl) (κ UG hi) (J3 hi hl) (hf c (T6 hc))⟩;grind [xfF]
 ·intro s hs;exact PD (aR UG l)
theorem xfi_ev{l:List zbv}(hl:ah l){f:D}{h:aT}{p:zbv->Bool}(hf:∀c∈l,Iv S5 mX f [ag (UG c)] h (kr (p c)) h):(Ev S5 mX 332 [ab (l.map UG),f] h (go (xfR p l)) h):=by
 have Pq:=(@xf_cw (l) (hl) (f) (h) (p) (hf));unfold PE at Pq;revert Pq;cases ho1:Pu (xfF p) l 0 with
 |inl ξ=>intro Pq;exact Tw (yF (h':=h) (d:=go (-1)) [.s [0,1,4,7,8] Pq]) (by simp[xfR,ho1]) (by simp[xfR,ho1])
 |inr zce=>intro Pq;exact Tw (yF (h':=h) (d:=(zaS zce)) [.s [0,1,4,7,8] Pq]) (by simp[xfR,ho1]) (by simp[xfR,ho1])
theorem xf_any(p:zbv->Bool)(l:List zbv):∀k:Nat,(match Pu (xfF p) l k with | .inl _=>N | .inr _=>J)=l.any p:=by
 induction l with
 |nil=>intro k;rfl
 |cons f l ih=>
  intro k;rw[XK];cases hf:p f;·simp[Pu,xfF,hf];exact ih (k+1)
  ·simp[Pu,xfF,hf]
theorem xfR_ge(p:zbv->Bool)(l:List zbv):lL (xfR p l>=0)=l.any p:=by rw[<-xf_any p l 0,xfR];split<;>simp
theorem xfc_ev{l:List zbv}(hl:ah l){f:D}{h:aT}{p:zbv->Bool}(hf:∀c∈l,Iv S5 mX f [ag (UG c)] h (kr (p c)) h):(Ev S5 mX 317 [ab (l.map UG),f] h (kr (l.any p)) h):=Tw (yF (h':=h) (d:=kr (lL (xfR p l>=0))) [.v (@xfi_ev l hl f h p hf)]) (by grind [xfR_ge]) uU
def xlF(p:ZB->Bool)(c:ZB)(s:Nat):Nat⊕Nat:=if p c=true then .inr s else .inl (s+1)
abbrev xlS(fs:bv)(f:D)(h:aT)(i:Int):AS:=(zby fs f i h)
abbrev xlX(h:aT):Nat->Exit×AS:=λk=>(.ret,{t:=Bn 19 0 [(4,go (k:Int))],h:=h,m:=[]})
abbrev zgE(a:ZB):D:=ag (ZB.row a)
theorem PF{fs:List (List Dp)}{i:Nat}{c:ZB}{f:D}{h:List F2}{p:ZB->Bool}(hr:ao (i:Int) fs (ZB.row c) 4)(xD:lL ((i:Int)<(fs.length:Int))=true)(hw:S6.wrap ((i:Int)+1)=((i+1:Nat):Int))(hi:Iv S5 mX f [ag (ZB.row c)] h (kr (p c)) h):(CW S5 mX h false (sub Tryz.f333 0) (xlS fs f h i) (ai (λ_=>xlS fs f h ((i+1:Nat):Int)) (xlX h) (xlF p c i)).1 (ai (λ_=>xlS fs f h ((i+1:Nat):Int)) (xlX h) (xlF p c i)).2):=by
 cases F3:p c
 ·refine yX {t:=Bn 19 0 [(0,ab fs),(1,f),(4,go 0),(7,go (↑(S7 fs):Int)),(8,go (S8 S6 ((↑i:Int)+1)))],h:=h,m:=[]} Tr [.st (.mask [0,1,4,7,8])] [.b xD,.r hr,.i (@hi),.b F3] ?_ ?_<;>(simp[xlF,ai,hw, *])
 ·refine yX {t:=Bn 19 0 [(4,go (↑i:Int))],h:=h,m:=[]} VM [.st (.mask [4])] [.b xD,.r hr,.i (@hi),.b F3] ?_ ?_<;>(simp[xlF,ai,hw, *])
theorem PG{fs:bv}{i:Nat}{f:D}{h:aT}(xD:lL ((i:Int)<(fs.length:Int))=N):(CW S5 mX h N (sub Tryz.f333 0) (xlS fs f h i) (η 0) (zbt h)):=yx zcg [.b xD]
def xlR(p:ZB->Bool)(l:List ZB):Int:=match Pu (xlF p) l 0 with | .inl _=> -1 | .inr k=>(k:Int)
def PH(h:aT)(p:ZB->Bool)(l:List ZB):Exit×AS:=bf (η 0) (λ_:Nat=>(zbt h)) (xlX h) (Pu (xlF p) l 0)
theorem xl_cw{l:List ZB}(hl:ah l){f:D}{h:aT}{p:ZB->Bool}(hf:∀c∈l,Iv S5 mX f [(zgE c)] h (kr (p c)) h):CW S5 mX h false (.loop (sub Tryz.f333 0)) (xlS (l.map ZB.row) f h 0) (PH h p l).1 (PH h p l).2:=by
 refine UR l (xlF p) (λi _=>xlS (l.map ZB.row) f h (i:Int)) (.exit 0) _ (xlX h) (λi s=>s=i) (by simp) (λ_=>by simp) ?_ ?_ 0 rfl;·intro i c s hc hs;subst hs;have hi:=(Td.1 hc).1;refine⟨λs' h=>?_,PF (rowAt hc rfl) (κ ZB.row hi) (J3 hi hl) (hf c (T6 hc))⟩;grind [xlF]
 ·intro s hs;exact PG (aR ZB.row l)
theorem xli_ev{l:List ZB}(hl:ah l){f:D}{h:aT}{p:ZB->Bool}(hf:∀c∈l,Iv S5 mX f [(zgE c)] h (kr (p c)) h):(Ev S5 mX 333 [ab (l.map ZB.row),f] h (go (xlR p l)) h):=by
 have Pq:=(@xl_cw (l) (hl) (f) (h) (p) (hf));unfold PH at Pq;revert Pq;cases ho1:Pu (xlF p) l 0 with
 |inl ξ=>intro Pq;exact Tw (yF (h':=h) (d:=go (-1)) [.s [0,1,4,7,8] Pq]) (by simp[xlR,ho1]) (by simp[xlR,ho1])
 |inr zce=>intro Pq;exact Tw (yF (h':=h) (d:=(zaS zce)) [.s [0,1,4,7,8] Pq]) (by simp[xlR,ho1]) (by simp[xlR,ho1])
theorem xl_any(p:ZB->Bool)(l:List ZB):∀k:Nat,(match Pu (xlF p) l k with | .inl _=>N | .inr _=>J)=l.any p:=by
 induction l with
 |nil=>intro k;rfl
 |cons f l ih=>
  intro k;rw[XK];cases hf:p f;·simp[Pu,xlF,hf];exact ih (k+1)
  ·simp[Pu,xlF,hf]
theorem xlR_ge(p:ZB->Bool)(l:List ZB):lL (xlR p l>=0)=l.any p:=by rw[<-xl_any p l 0,xlR];split<;>simp
theorem xlc_ev{l:List ZB}(hl:ah l){f:D}{h:aT}{p:ZB->Bool}(hf:∀c∈l,Iv S5 mX f [(zgE c)] h (kr (p c)) h):(Ev S5 mX 319 [ab (l.map ZB.row),f] h (kr (l.any p)) h):=Tw (yF (h':=h) (d:=kr (lL (xlR p l>=0))) [.v (@xli_ev l hl f h p hf)]) (by grind [xlR_ge]) uU
def Bo(c:Cls):Bool:=inB c.ZD 0 10000&&(ex c.num c.den==0&&inB c.num 0 (S6.wrap (12*c.den)))
theorem Bp{a b:Int}(ha:Ψ a)(hb:Ψ b)(h:aT):(Ev S5 mX 172 (zfD a b) h (kr (ex a b==0&&inB a 0 (S6.wrap (12*b)))) h):=y0 [.v (@dF a b ha hb (zcZ a b)),.w (ex a b==0) (@bD a 0 (S8 S6 (12*b)) (zcZ a b))] h
abbrev zgo(a:Cls):bY:=[am a.name,go a.ZD,go a.num,go a.den]
theorem PI{c:Cls}(hc:c.ok)(h:aT):(Ev S5 mX 276 [ag c.row] h (kr (Bo c)) h):=by refine y0 [.v (@bD (c.ZD) 0 10000 ([iI (zgo c)])),.w (lL (c.ZD>=0)&&lL (c.ZD<=10000)) (@Bp (c.num) (c.den) ?_ ?_ ([iI (zgo c)]))] h<;>(first|exact hc.2.1|exact hc.2.2)
def uV(c:zbv):Bool:=inB c.oA 0 10000
theorem PJ{c:zbv}(h:aT):(Ev S5 mX 277 [ag c.row] h (kr (uV c)) h):=y0 [.v (@bD (c.oA) 0 10000 ([iI [am c.name,go c.oA]]))] h
def Mb(c:ZB):Bool:=inB c.kind 1 5&&inB c.zmD 0 2&&inB c.action 1 3&&inB c.til 0 12
theorem bcl_ev{c:ZB}(h:aT):(Ev S5 mX 278 [ag c.row] h (kr (Mb c)) h):=by let v0:aT:=[iI (zaL c.kind c.zmD c.action c.til)];exact y0 [.v (@bD (c.kind) 1 5 (v0)),.w (lL (c.kind>=1)&&lL (c.kind<=5)) (@bD (c.zmD) 0 2 (v0)),.w (lL (c.kind>=1)&&lL (c.kind<=5)&&(lL (c.zmD>=0)&&lL (c.zmD<=2))) (@bD (c.action) 1 3 (v0)),.w (zb2 c.kind 1 5 c.zmD 0 2 c.action 3) (@bD (c.til) 0 12 (v0))] h
noncomputable abbrev xG(c:Cls):aT:=[iI [fq 276],iI (zgo c)]
abbrev zgt:aT:=[iI [fnv 276]]
theorem F4{c:Cls}(hc:c.ok):(Ev S5 mX 316 [ag (Uq c),mW (J0 0 0)] zgt (kr (!Bo c)) zgt):=Tw (yT (h':=[iI [fq 276]]) (d:=kr !Bo c) [.v (@PI c hc (xG c))]) ο ο
abbrev ziP(a:FuncId):D:=(.fn (.func a) [] za8)
theorem xI{l:List Cls}(ha:∀c∈l,c.ok):∀c∈l,Iv S5 mX (ziP 316) [ag (Uq c)] zgt (kr (!Bo c)) zgt:=λc hm=>Iv.of pok rfl Z (F4 (ha c hm))
noncomputable abbrev xJ:aT:=[iI [fq 276]]
theorem xK{l:List Cls}(hl:ah l)(ha:∀c∈l,c.ok)(hf:∀c∈l,Iv S5 mX (ziP 316) [ag (Uq c)] zgt (kr (!Bo c)) zgt)(h:aT):(Ev S5 mX 279 [ab (l.map Uq),fnv 276] h (kr (!l.any λc=>!Bo c)) h):=y0 [.v (@xcc_ev l hl (UL (TM 316) [] za8) xJ (λc=>!Bo c) hf)] h
noncomputable abbrev xL(c:zbv):aT:=[iI [fq 277],iI [am c.name,go c.oA]]
abbrev zgu:aT:=[iI [fnv 277]]
theorem F5{c:zbv}:(Ev S5 mX 318 [ag (UG c),mW (J0 0 0)] zgu (kr (!uV c)) zgu):=Tw (yT (h':=[iI [fq 277]]) (d:=kr !uV c) [.v (@PJ c (xL c))]) ο ο
theorem F6{l:List zbv}:∀c∈l,Iv S5 mX (ziP 318) [ag (UG c)] zgu (kr (!uV c)) zgu:=λc hm=>Iv.of pok rfl Z (F5 )
noncomputable abbrev xM:aT:=[iI [fq 277]]
theorem F7{l:List zbv}(hl:ah l)(hf:∀c∈l,Iv S5 mX (ziP 318) [ag (UG c)] zgu (kr (!uV c)) zgu)(h:aT):(Ev S5 mX 280 [ab (l.map UG),fnv 277] h (kr (!l.any λc=>!uV c)) h):=y0 [.v (@xfc_ev l hl (UL (TM 318) [] za8) xM (λc=>!uV c) hf)] h
noncomputable abbrev xN(c:ZB):aT:=[iI [fq 278],iI (zaL c.kind c.zmD c.action c.til)]
abbrev zgv:aT:=[iI [fnv 278]]
theorem F8{c:ZB}:(Ev S5 mX 320 [(zgE c),mW (J0 0 0)] zgv (kr (!Mb c)) zgv):=Tw (yT (h':=[iI [fq 278]]) (d:=kr !Mb c) [.v (@bcl_ev c (xN c))]) ο ο
theorem F9{l:List ZB}:∀c∈l,Iv S5 mX (ziP 320) [(zgE c)] zgv (kr (!Mb c)) zgv:=λc hm=>Iv.of pok rfl Z (F8 )
noncomputable abbrev xO:aT:=[iI [fq 278]]
theorem Ga{l:List ZB}(hl:ah l)(hf:∀c∈l,Iv S5 mX (ziP 320) [(zgE c)] zgv (kr (!Mb c)) zgv)(h:aT):(Ev S5 mX 281 [ab (l.map ZB.row),fnv 278] h (kr (!l.any λc=>!Mb c)) h):=y0 [.v (@xlc_ev l hl (UL (TM 320) [] za8) xO (λc=>!Mb c) hf)] h
structure zcR where
 Υ:List Cls
 zkQ:List zbv
 zas:List Cls
 clauses:List ZB
 deriving Inhabited
def zcR.sys(s:zcR):Vi.Sys:=⟨s.Υ,s.zkQ,s.zas,s.clauses.map ZB.row⟩
def zcR.row(s:zcR):dO:=[.sl (s.Υ.map Uq),.sl (s.zkQ.map UG),.sl (s.zas.map Uq),.sl (s.clauses.map ZB.row)]
def zcR.ok(s:zcR):Prop:=s.sys.ok
theorem zcR.ok.sl{s:zcR}(h:s.ok):ah s.clauses:=by have:=h.ll;grind [ah,zcR.sys]
def Gb(s:zcR):Bool:=(!s.Υ.any λc=>!Bo c)&&(!s.zas.any λc=>!Bo c)&&(!s.zkQ.any λc=>!uV c)&&(!s.clauses.any λc=>!Mb c)
abbrev zcc(a:zcR)(b:bv):bY:=[ab (S2 Uq a.Υ),ab (S2 UG a.zkQ),ab (S2 Uq a.zas),ab (b)]
noncomputable abbrev ed(s:zcR):aT:=[iI (zcc s (S2 ZB.row s.clauses))]
theorem qJ{s:zcR}(hs:s.ok)(h:aT):(Ev S5 mX 208 [ag s.row] h (kr (Gb s)) h):=by refine y0 [.v (@xK (s.Υ) ?_ ?_ ?_ (ed s)),.w (!XS s.Υ λc=>!Bo c) (@xK (s.zas) ?_ ?_ ?_ (ed s)),.w ((!XS s.Υ λc=>!Bo c)&&!XS s.zas λc=>!Bo c) (@F7 (s.zkQ) ?_ ?_ (ed s)),.w (((!XS s.Υ λc=>!Bo c)&&!XS s.zas λc=>!Bo c)&&!XS s.zkQ λc=>!uV c) (@Ga (s.clauses) ?_ ?_ (ed s))] h<;>(first|exact hs.lc|exact hs.lh|exact hs.lf|exact hs.sl|exact hs.c|exact hs.h|exact xI hs.c|exact xI hs.h|exact F6|exact F9)
abbrev kd'(a b c d:Bool)(f g:Value):dO:=[.v (.bool a),.v (.bool b),.v (.bool c),.v (.bool d),.v f,.v g]
abbrev kf'(k:Nat):Value:=.func (.func k) #[] #[]
def Gc:dO :=kd' N N N N .nilFunc .nilFunc++kd' N N N J (kf' 354) (kf' 355)++kd' N N N J (kf' 356) (kf' 357)++kd' N J N J (kf' 358) (kf' 359) ++kd' N N N J (kf' 360) (kf' 361)++kd' J J N N (kf' 362) (kf' 364)++kd' J J N N (kf' 366) (kf' 367)++kd' N J N N (kf' 368) (kf' 369) ++kd' N J J N (kf' 370) (kf' 371)++kd' J N N N (kf' 363) (kf' 372)
def uS:au:=λg=>match g with|0=>G Gc|_=>Y
theorem zG{a b:Int}(ha:Ψ a)(hb:Ψ b)(h:aT):(Ev S5 mX 246 (zfD a b) h (kr (ex a b==0&&lL (a>=0)&&lL (a<=S6.wrap (12*b)))) h):=y0 [.v (@dF a b ha hb (zcZ a b))] h
abbrev zam(a b:Int)(e:ByteArray)(f g:Int)(h:bv):bY:=[go a,go b,am e,go f,go g,ab h]
abbrev ruD(op c:Int)(nm:ByteArray)(n d:Int)(ks:bv):D:=uT (zam op c nm n d ks)
theorem PK{op c:Int}{nm:ByteArray}{n d:Int}{ks:bv}(h:aT):(Ev S5 mX 354 [ruD op c nm n d ks] h (kr J) h):=y0 [] h
theorem PL{op c:Int}{nm:ByteArray}{n d:Int}{ks:bv}(h:aT):(Ev S5 mX 356 [ruD op c nm n d ks] h (kr J) h):=y0 [] h
theorem PM{op c:Int}{nm:ByteArray}{n d:Int}{ks:bv}(h:aT):(Ev S5 mX 358 [ruD op c nm n d ks] h (kr (inB n 0 200)) h):=y0 [.v (@a7 n 0 200 ([iI (zam op c nm n d ks)]))] h
theorem PN{op c:Int}{nm:ByteArray}{n d:Int}{ks:bv}(h:aT):(Ev S5 mX 360 [ruD op c nm n d ks] h (kr ((ks.length:Int)==1)) h):=y0 [] h
theorem zH{op c:Int}{nm:ByteArray}{n d:Int}{ks:bv}(h:aT):(Ev S5 mX 363 [ruD op c nm n d ks] h (kr (inB c 0 4095)) h):=y0 [.v (@a7 c 0 4095 ([iI (zam op c nm n d ks)]))] h
theorem PO{op c:Int}{nm:ByteArray}{n d:Int}{ks:bv}(h:aT):(Ev S5 mX 362 [ruD op c nm n d ks] h (kr (inB c 0 4095&&inB n 0 12)) h):=y0 [.v (@zH op c nm n d ks ([iI (zam op c nm n d ks)])),.w (inB c 0 4095) (@a7 n 0 12 ([iI (zam op c nm n d ks)]))] h
theorem PP{op c:Int}{nm:ByteArray}{n d:Int}{ks:bv}(h:aT):(Ev S5 mX 366 [ruD op c nm n d ks] h (kr (inB c 0 4095&&inB n 1 100)) h):=y0 [.v (@zH op c nm n d ks ([iI (zam op c nm n d ks)])),.w (inB c 0 4095) (@a7 n 1 100 ([iI (zam op c nm n d ks)]))] h
theorem PQ{op c:Int}{nm:ByteArray}{n d:Int}{ks:bv}(h:aT):(Ev S5 mX 368 [ruD op c nm n d ks] h (kr (inB n 0 10000)) h):=y0 [.v (@a7 n 0 10000 ([iI (zam op c nm n d ks)]))] h
def C0(a b:Int):Bool:=ex a b==0&&lL (a>=0)&&lL (a<=S6.wrap (12*b))
theorem PR{op c:Int}{nm:ByteArray}{n d:Int}{ks:bv}(hn:Ψ n)(hd:Ψ d)(h:aT):(Ev S5 mX 370 [ruD op c nm n d ks] h (kr (C0 n d)) h):=y0 [.v (@zG n d hn hd ([iI (zam op c nm n d ks)]))] h
def aP(op c n d k:Int):Bool :=
 if (!(op==5||op==6||op==9)&&c != 0||!(op==3||op==5||op==6||op==7||op==8)&&n != 0||op != 8&&d != 0||(lL (op>=5)&&lL (op<=9))&&lL (k>0))=J then N
 else if op=1 then J else if op=2 then J else if op=3 then inB n 0 200 else if op=4 then k==1 else if op=5 then inB c 0 4095&&inB n 0 12
 else if op=6 then inB c 0 4095&&inB n 1 100 else if op=7 then inB n 0 10000 else if op=8 then C0 n d else if op=9 then inB c 0 4095 else N
abbrev zft(a:Bool)(b c:Nat):bY:=[kr N,kr a,kr N,kr J,fq b,fq c]
noncomputable abbrev xP(c:Int)(nm:ByteArray)(n:Int)(d:Int)(ks:bv):aT:=[iI (zam 1 c nm n d ks),iI (zft N 354 355)]
theorem Gd{c:Int}{nm:ByteArray}{n d:Int}{ks:bv}(h:aT):(Ev S5 uS 232 [ruD 1 c nm n d ks] h (kr (aP 1 c n d ks.length)) h):=by
 cases F3:!false&&c != 0||!false&&n != 0||!false&&d != 0||!true&&lL ((↑(S7 ks):Int)>0)
 ·exact yD (kr J) [.v (Tp (Γ':=uS) (@a7 1 1 9 ([iI (zam 1 c nm n d ks)]))),(rfl:Φ 1 10=J),.e,.b F3,.v (Tp (Γ':=uS) (@PK 1 c nm n d ks (xP c nm n d ks)))] h (by grind [aP])
 ·exact yD (kr N) [.v (Tp (Γ':=uS) (@a7 1 1 9 ([iI (zam 1 c nm n d ks)]))),(rfl:Φ 1 10=J),.e,.b F3] h (by grind [aP])
noncomputable abbrev xQ(c:Int)(nm:ByteArray)(n:Int)(d:Int)(ks:bv):aT:=[iI (zam 2 c nm n d ks),iI (zft N 356 357)]
theorem Ge{c:Int}{nm:ByteArray}{n d:Int}{ks:bv}(h:aT):(Ev S5 uS 232 [ruD 2 c nm n d ks] h (kr (aP 2 c n d ks.length)) h):=by
 cases F3:!false&&c != 0||!false&&n != 0||!false&&d != 0||!true&&lL ((↑(S7 ks):Int)>0)
 ·exact yD (kr J) [.v (Tp (Γ':=uS) (@a7 2 1 9 ([iI (zam 2 c nm n d ks)]))),(rfl:Φ 2 10=J),.e,.b F3,.v (Tp (Γ':=uS) (@PL 2 c nm n d ks (xQ c nm n d ks)))] h (by grind [aP])
 ·exact yD (kr N) [.v (Tp (Γ':=uS) (@a7 2 1 9 ([iI (zam 2 c nm n d ks)]))),(rfl:Φ 2 10=J),.e,.b F3] h (by grind [aP])
noncomputable abbrev xR(c:Int)(nm:ByteArray)(n:Int)(d:Int)(ks:bv):aT:=[iI (zam 3 c nm n d ks),iI (zft J 358 359)]
theorem Gf{c:Int}{nm:ByteArray}{n d:Int}{ks:bv}(h:aT):(Ev S5 uS 232 [ruD 3 c nm n d ks] h (kr (aP 3 c n d ks.length)) h):=by
 cases F3:!false&&c != 0||!true&&n != 0||!false&&d != 0||!true&&lL ((↑(S7 ks):Int)>0)
 ·exact yD (kr (inB n 0 200)) [.v (Tp (Γ':=uS) (@a7 3 1 9 ([iI (zam 3 c nm n d ks)]))),(rfl:Φ 3 10=J),.e,.b F3,.v (Tp (Γ':=uS) (@PM 3 c nm n d ks (xR c nm n d ks)))] h (by grind [aP])
 ·exact yD (kr N) [.v (Tp (Γ':=uS) (@a7 3 1 9 ([iI (zam 3 c nm n d ks)]))),(rfl:Φ 3 10=J),.e,.b F3] h (by grind [aP])
noncomputable abbrev xU(c:Int)(nm:ByteArray)(n:Int)(d:Int)(ks:bv):aT:=[iI (zam 4 c nm n d ks),iI (zft N 360 361)]
theorem Gg{c:Int}{nm:ByteArray}{n d:Int}{ks:bv}(h:aT):(Ev S5 uS 232 [ruD 4 c nm n d ks] h (kr (aP 4 c n d ks.length)) h):=by
 cases F3:!false&&c != 0||!false&&n != 0||!false&&d != 0||!true&&lL ((↑(S7 ks):Int)>0)
 ·exact yD (kr ((↑(S7 ks):Int)==1)) [.v (Tp (Γ':=uS) (@a7 4 1 9 ([iI (zam 4 c nm n d ks)]))),(rfl:Φ 4 10=J),.e,.b F3,.v (Tp (Γ':=uS) (@PN 4 c nm n d ks (xU c nm n d ks)))] h (by grind [aP])
 ·exact yD (kr N) [.v (Tp (Γ':=uS) (@a7 4 1 9 ([iI (zam 4 c nm n d ks)]))),(rfl:Φ 4 10=J),.e,.b F3] h (by grind [aP])
noncomputable abbrev xV(c:Int)(nm:ByteArray)(n:Int)(d:Int)(ks:bv):aT:=[iI (zam 5 c nm n d ks),iI [kr J,kr J,kr N,kr N,fq 362,fq 364]]
theorem Gh{c:Int}{nm:ByteArray}{n d:Int}{ks:bv}(h:aT):(Ev S5 uS 232 [ruD 5 c nm n d ks] h (kr (aP 5 c n d ks.length)) h):=by
 cases F3:!true&&c != 0||!true&&n != 0||!false&&d != 0||!false&&lL ((↑(S7 ks):Int)>0)
 ·exact yD (kr (inB c 0 4095&&inB n 0 12)) [.v (Tp (Γ':=uS) (@a7 5 1 9 ([iI (zam 5 c nm n d ks)]))),(rfl:Φ 5 10=J),.e,.b F3,.v (Tp (Γ':=uS) (@PO 5 c nm n d ks (xV c nm n d ks)))] h (by grind [aP])
 ·exact yD (kr N) [.v (Tp (Γ':=uS) (@a7 5 1 9 ([iI (zam 5 c nm n d ks)]))),(rfl:Φ 5 10=J),.e,.b F3] h (by grind [aP])
noncomputable abbrev xW(c:Int)(nm:ByteArray)(n:Int)(d:Int)(ks:bv):aT:=[iI (zam 6 c nm n d ks),iI [kr J,kr J,kr N,kr N,fq 366,fq 367]]
theorem Gi{c:Int}{nm:ByteArray}{n d:Int}{ks:bv}(h:aT):(Ev S5 uS 232 [ruD 6 c nm n d ks] h (kr (aP 6 c n d ks.length)) h):=by
 cases F3:!true&&c != 0||!true&&n != 0||!false&&d != 0||!false&&lL ((↑(S7 ks):Int)>0)
 ·exact yD (kr (inB c 0 4095&&inB n 1 100)) [.v (Tp (Γ':=uS) (@a7 6 1 9 ([iI (zam 6 c nm n d ks)]))),(rfl:Φ 6 10=J),.e,.b F3,.v (Tp (Γ':=uS) (@PP 6 c nm n d ks (xW c nm n d ks)))] h (by grind [aP])
 ·exact yD (kr N) [.v (Tp (Γ':=uS) (@a7 6 1 9 ([iI (zam 6 c nm n d ks)]))),(rfl:Φ 6 10=J),.e,.b F3] h (by grind [aP])
noncomputable abbrev xX(c:Int)(nm:ByteArray)(n:Int)(d:Int)(ks:bv):aT:=[iI (zam 7 c nm n d ks),iI [kr N,kr J,kr N,kr N,fq 368,fq 369]]
theorem Gj{c:Int}{nm:ByteArray}{n d:Int}{ks:bv}(h:aT):(Ev S5 uS 232 [ruD 7 c nm n d ks] h (kr (aP 7 c n d ks.length)) h):=by
 cases F3:!false&&c != 0||!true&&n != 0||!false&&d != 0||!false&&lL ((↑(S7 ks):Int)>0)
 ·exact yD (kr (inB n 0 10000)) [.v (Tp (Γ':=uS) (@a7 7 1 9 ([iI (zam 7 c nm n d ks)]))),(rfl:Φ 7 10=J),.e,.b F3,.v (Tp (Γ':=uS) (@PQ 7 c nm n d ks (xX c nm n d ks)))] h (by grind [aP])
 ·exact yD (kr N) [.v (Tp (Γ':=uS) (@a7 7 1 9 ([iI (zam 7 c nm n d ks)]))),(rfl:Φ 7 10=J),.e,.b F3] h (by grind [aP])
noncomputable abbrev xY(c:Int)(nm:ByteArray)(n:Int)(d:Int)(ks:bv):aT:=[iI (zam 8 c nm n d ks),iI [kr N,kr J,kr J,kr N,fq 370,fq 371]]
theorem Gk{c:Int}{nm:ByteArray}{n d:Int}{ks:bv}(hn:Ψ n)(hd:Ψ d)(h:aT):(Ev S5 uS 232 [ruD 8 c nm n d ks] h (kr (aP 8 c n d ks.length)) h):=by
 cases F3:!false&&c != 0||!true&&n != 0||!true&&d != 0||!false&&lL ((↑(S7 ks):Int)>0)
 ·exact yD (kr (C0 n d)) [.v (Tp (Γ':=uS) (@a7 8 1 9 ([iI (zam 8 c nm n d ks)]))),(rfl:Φ 8 10=J),.e,.b F3,.v (Tp (Γ':=uS) (@PR 8 c nm n d ks hn hd (xY c nm n d ks)))] h (by grind [aP])
 ·exact yD (kr N) [.v (Tp (Γ':=uS) (@a7 8 1 9 ([iI (zam 8 c nm n d ks)]))),(rfl:Φ 8 10=J),.e,.b F3] h (by grind [aP])
noncomputable abbrev xZ(c:Int)(nm:ByteArray)(n:Int)(d:Int)(ks:bv):aT:=[iI (zam 9 c nm n d ks),iI [kr J,kr N,kr N,kr N,fq 363,fq 372]]
theorem Gl{c:Int}{nm:ByteArray}{n d:Int}{ks:bv}(h:aT):(Ev S5 uS 232 [ruD 9 c nm n d ks] h (kr (aP 9 c n d ks.length)) h):=by
 cases F3:!true&&c != 0||!false&&n != 0||!false&&d != 0||!false&&lL ((↑(S7 ks):Int)>0)
 ·exact yD (kr (inB c 0 4095)) [.v (Tp (Γ':=uS) (@a7 9 1 9 ([iI (zam 9 c nm n d ks)]))),(rfl:Φ 9 10=J),.e,.b F3,.v (Tp (Γ':=uS) (@zH 9 c nm n d ks (xZ c nm n d ks)))] h (by grind [aP])
 ·exact yD (kr N) [.v (Tp (Γ':=uS) (@a7 9 1 9 ([iI (zam 9 c nm n d ks)]))),(rfl:Φ 9 10=J),.e,.b F3] h (by grind [aP])
theorem Gm{op c:Int}{nm:ByteArray}{n d:Int}{ks:bv}(ho:(!(lL (op>=1)&&lL (op<=9)))=J)(h:aT):(Ev S5 uS 232 [ruD op c nm n d ks] h (kr N) h):=y0 [.v (Tp (Γ':=uS) (@a7 op 1 9 ([iI (zam op c nm n d ks)]))),.b ho] h
theorem x8{op c:Int}{nm:ByteArray}{n d:Int}{ks:bv}(hn:Ψ n)(hd:Ψ d)(h:aT):Ev S5 uS 232 [ruD op c nm n d ks] h (kr (aP op c n d ks.length)) h:=by
 by_cases ho:(!(lL (op>=1)&&lL (op<=9)))=J
 ·have:=Gm (op:=op) (c:=c) (nm:=nm) (n:=n) (d:=d) (ks:=ks) ho h;have e:aP op c n d ks.length=N:=by
   simp only[UZ,Bool.and_eq_false_iff,decide_eq_false_iff_not] at ho;unfold aP;split;·rfl
   ·grind
  grind
 ·have:op=1\/op=2\/op=3\/op=4\/op=5\/op=6\/op=7\/op=8\/op=9:=by simp only[UZ,Bool.not_eq_false,Bool.and_eq_true,decide_eq_true_eq] at ho;omega
  rcases this with rfl|rfl|rfl|rfl|rfl|rfl|rfl|rfl|rfl;·exact Gd h
  ·exact Ge h
  ·exact Gf h
  ·exact Gg h
  ·exact Gh h
  ·exact Gi h
  ·exact Gj h
  ·exact Gk hn hd h
  ·exact Gl h
inductive xE where
 |mk (op lm:Int) (name:ByteArray) (n d:Int) (kids:List xE)
mutual
def xE.row:xE->dO
 |.mk op c nm n d ks=>[vi op,vi c,vs nm,vi n,vi d,.sl (fG ks)]
def fG:List xE->bv
 | []=>[]
 |k::ks=>k.row::fG ks
end
theorem dm:∀ks:List xE,fG ks=ks.map xE.row
 | []=>rfl
 |k::ks=>by simp[fG,dm ks]
mutual
def xE.ok:xE->Prop
 |.mk op c _ n d ks=>(Ψ op/\Ψ c/\Ψ n/\Ψ d/\ah ks)/\gP ks
def gP:List xE->Prop
 | []=>True
 |k::ks=>k.ok/\gP ks
end
theorem qK:∀{ks:List xE},gP ks->∀k∈ks,k.ok
 | [],_,k,hk=>by simp at hk
 |a::ks,h,k,hk=>by
  simp[gP] at h;rcases List.mem_cons.1 hk with rfl|hk
  ·exact h.1
  ·exact qK h.2 k hk
structure RuF where
 op:Int
 c:Int
 nm:ByteArray
 n:Int
 d:Int
 ks:bv
def RuF.row(x:RuF):dO:=[vi x.op,vi x.c,vs x.nm,vi x.n,vi x.d,.sl x.ks]
abbrev zak(a:RuF):bY:=[go a.op,go a.c,am a.nm,go a.n,go a.d,ab a.ks]
def RuF.l(x:RuF):bY:=(zak x)
def RuF.formed(x:RuF):Bool:=aP x.op x.c x.n x.d x.ks.length
def RuF.ok(x:RuF):Prop:=Ψ x.n/\Ψ x.d
def nY(n1 dep:Int)(f:Bool):Bool:=lL (n1>200)||lL (dep>16)||!f
abbrev zhW(a b:Nat):bY:=[mW (J0 a 0),mW (J0 b 0)]
abbrev zbq:bY:=(zhW 4 3)
abbrev ckT:bY:=Bn 23 0 [(2,mW (J0 1 0)),(zjy 3 2),(7,.fn (.func 288) [] zbq)]
abbrev zbe:bY:=(zjG 4)
noncomputable abbrev ckH(r:RuF)(e n:Int)(st:LoopState)(pe:On):aT :=[iI r.l,iI [go e],iI [go n],iI r.l,iI [.fn (.func 287) [] zbe],Ζ,χ st pe 0 ckT #[8,9] (ax (sub T9 0)) (ak (sub T9 0))]
abbrev ckU(dep:Int):bY:=Bn 23 0 [(2,mW (J0 1 0)),(zjy 3 2),(4,go dep),(5,mW (J0 8 0)),(7,.fn (.func 288) [] zbq)]
noncomputable abbrev zbl(a:RuF)(b:Int):aT:=ckH a 0 b ζ Y
abbrev zb0(a:bY):aT:=[iI a,iI a]
theorem Mc{r0:RuF}{m dep:Int}{x:RuF}:(CW S5 uS ((zbl r0 m)++[iI (x.l)]) J (ax (sub T9 0)) {t:=dD ckT [(8,go dep),(9,uT x.l)],h:=(zbl r0 m)++[iI (x.l)],m:=[]} NO {t:=ckU dep,h:=(zbl r0 m)++(zb0 (x.l)),m:=[]}):=yx [δ (τ [2,3,4,5,7])] []
noncomputable def rM(r0:RuF)(m1:Int)(more:aT)(b:Bool):Exit×AS:=match b with
 |true=>(.ret,{t:=Bn 23 0 [],h:=ckH r0 120 m1 zfB Y++more,m:=[]})
 |false=>(NO,{t:=Bn 23 0 [],h:=ckH r0 0 m1 zfB Y++more,m:=[]})
abbrev zhx(a:bY):bY:=(Bn 23 0 [(2,mW (J0 1 0)),(zjy 3 2),(7,UL (TM 288) [] a)])
abbrev zj5:bY:=(zhx [mW (J0 4 0),mW (J0 3 0)])
abbrev zaw:bY:=zj5
abbrev zji:Array Tmp:={toList:=[8,9]}
abbrev zeJ:Array Tmp:=zji
abbrev zjS:bY:=[UL (TM 287) [] zbe]
abbrev zin:bY:=zjS
abbrev ziq(a:Int):D:=go (S8 S6 (a+1))
noncomputable abbrev mY(r0:RuF)(m:Int)(x:RuF):aT:=[iI (zak r0),iI [go 0],iI [(ziq m)],iI (zak r0),iI zin,Ζ,χ TX Y 0 zaw zeJ (ax (sub T9 0)) (ak (sub T9 0)),iI (zak x),iI (zak x)]
abbrev zev(a:Nat)(b:aT):AS:={t:=Bn a 0 [],h:=b,m:=[]}
abbrev ziB:bY:=[UL (TM 287) [] (zjG 4)]
theorem PS{r0:RuF}{m dep:Int}{x:RuF}(hx:x.ok):(CW S5 uS ((zbl r0 m)++[iI (x.l)]) J (ak (sub T9 0)) {t:=ckU dep,h:=ckH r0 0 m zfB Y++(zb0 (x.l)),m:=[]} (rM r0 (S6.wrap (m+1)) (zb0 (x.l)) (nY (S6.wrap (m+1)) dep (x.formed))).1 (rM r0 (S6.wrap (m+1)) (zb0 (x.l)) (nY (S6.wrap (m+1)) dep (x.formed))).2):=by
 cases F3:lL (S8 S6 (m+1)>200)||lL (dep>16)||!aP x.op x.c x.n x.d (↑(S7 x.ks):Int)
 ·refine yX (zev 23 (mY r0 m x)) Tr zbN [.w (!(lL (S8 S6 (m+1)>200)||lL (dep>16))) (@x8 (x.op) (x.c) (x.nm) (x.n) (x.d) (x.ks) ?_ ?_ (mY r0 m x)),.b F3] (by(have hs:nY (S6.wrap (m+1)) dep (x.formed)=N:=F3;(first|(simp[hs,rM];done)|(simp only[hs,rM];rfl)))) (by(have hs:nY (S6.wrap (m+1)) dep (x.formed)=N:=F3;(first|(simp only[hs,rM];done)|(simp only[hs,rM];rfl))))<;>(first|exact hx.1|exact hx.2)
 ·let v0:bY:=(zak r0);let v1:bY:=(zak x);refine yX {t:=Bn 23 0 [],h:=[iI v0,iI [go 120],iI [(ziq m)],iI v0,iI ziB,Ζ,χ TX Y 0 zj5 zji (ax (sub T9 0)) (ak (sub T9 0)),iI v1,iI v1],m:=[]} VM zbN [.w (!(lL (S8 S6 (m+1)>200)||lL (dep>16))) (@x8 (x.op) (x.c) (x.nm) (x.n) (x.d) (x.ks) ?_ ?_ (mY r0 m x)),.b F3] (by subst v0 v1;(have hs:nY (S6.wrap (m+1)) dep (x.formed)=J:=F3;(first|(simp[hs,rM];done)|(simp only[hs,rM];rfl)))) (by subst v0 v1;(have hs:nY (S6.wrap (m+1)) dep (x.formed)=J:=F3;(first|(simp only[hs,rM];done)|(simp only[hs,rM];rfl))))<;>subst v0 v1<;>(first|exact hx.1|exact hx.2)
noncomputable abbrev zeG(a:RuF)(b:Int):aT:=ckH a 120 b .done (G .ret)
noncomputable def ckSt(r0:RuF)(m1:Int)(b:Bool):aT:=match b with
 |true=>(zeG r0 m1)
 |false=>(zbl r0 m1)
theorem PT{r0:RuF}{m dep:Int}{x:RuF}(hx:x.ok):Iv S5 uS (.ref (.yl 6)) [go dep,.agg x.l] ((zbl r0 m)++[.var (x.l)]) (kr (!nY (S6.wrap (m+1)) dep (x.formed)))
  (ckSt r0 (S6.wrap (m+1)) (nY (S6.wrap (m+1)) dep (x.formed))++(zb0 (x.l))):=by
 have hb:=PS (r0:=r0) (m:=m) (dep:=dep) hx
 cases h:nY (S6.wrap (m+1)) dep (x.formed)
 ·rw[h] at hb
  exact Iv.round (h1:=(zbl r0 m)++(zb0 (x.l))) rfl rfl Mc rfl hb rfl
 ·rw[h] at hb
  exact Iv.round (h1:=(zbl r0 m)++(zb0 (x.l))) rfl rfl Mc rfl hb rfl
mutual
def xE.walk:xE->Int->Int->Int×Bool
 |.mk op c _ n d ks,dep,m=>match nY (S6.wrap (m+1)) dep (aP op c n d ks.length) with
  |true=>(S6.wrap (m+1),J)
  |false=>zlY ks (S6.wrap (dep+1)) (S6.wrap (m+1))
def zlY:List xE->Int->Int->Int×Bool
 | [],_,m=>(m,N)
 |k::ks,dep,m=>match k.walk dep m with
  |(m',true)=>(m',J)
  |(m',false)=>zlY ks dep m'
end
abbrev wkF(dep:Int)(k:xE)(m:Int):Int⊕Int:=match k.walk dep m with
 |(m',true)=>.inr m'
 |(m',false)=>.inl m'
theorem tk(dep:Int):∀(ks:List xE) (m:Int),Pu (wkF dep) ks m=match zlY ks dep m with|(m',true)=>.inr m'|(m',false)=>.inl m'
 | [],m=>by simp[Pu,zlY]
 |k::ks,m=>by
  simp[Pu,zlY,wkF];cases h:k.walk dep m with
  |mk m' b=>cases b with
   |true=>rfl
   |false=>exact tk dep ks m'
abbrev zfR:Nat×D:=(3,mW (J0 4 0))
abbrev zfS(a:Nat):Nat×D:=(a,kr N)
noncomputable abbrev wkS(x r0:RuF)(dep m i:Int):AS:={t:=Bn 30 0 [(1,go dep),(2,mW (.yl 6)),zfR,(zfS 7),(16,ab x.ks),(17,go x.ks.length),(18,go i)],h:=(zbl r0 m)++[iI (x.l)],m:=[]}
theorem J5{x r0:RuF}{dep m m0:Int}{i:Nat}{m':Int}{y:RuF}(hr:ao (i:Int) x.ks y.row 6)(xD:lL ((i:Int)<(x.ks.length:Int))=true)(hw:S6.wrap ((i:Int)+1)=((i+1:Nat):Int))
  (hk:Ev S5 uS 287 [.agg y.l,go (S6.wrap (dep+1)),.ref (.yl 6),.ref (.ptr 4 0)] (ckH r0 0 m .ready none) (kr true) (ckH r0 0 m' .ready none)):(CW S5 uS (ckH r0 0 m0 .ready none) false (sub YF 0) (wkS x r0 dep m i) .normal (wkS x r0 dep m' ((i+1:Nat):Int))):=by
 let v0:List D:=[go r0.op,go r0.c,am r0.nm,go r0.n,go r0.d,ab r0.ks]
 let v1:List D:=[go x.op,go x.c,am x.nm,go x.n,go x.d,ab x.ks]
 let v2:List D:=[go y.op,go y.c,am y.nm,go y.n,go y.d,ab y.ks]
 let v3:List D:=[.ref (.ptr 4 0),.ref (.ptr 3 0)]
 exact yX {t:=Bn 30 0 [(1,go dep),(2,.ref (.yl 6)),(3,.ref (.ptr 4 0)),(7,kr false),(16,ab x.ks),(17,go (↑(S7 x.ks):Int)),(18,go (S8 S6 ((↑i:Int)+1)))],h:=[.var v0,.var [go 0],.var [go m'],.var v0,.var [UL (TM 287) [] [.ref (.ptr 4 0)]],.zaB,.loop TJ none 0 (Bn 23 0 [(2,.ref (.ptr 1 0)),(3,.ref (.ptr 2 0)),(7,UL (TM 288) [] v3)]) {toList:=[8,9]} (ax (sub T9 0)) (ak (sub T9 0)),.var v1],m:=[]} Tr [.st (.mask [1,2,3,7,16,17,18]),.st (.trim 8)] [.b xD,.r hr,.c ((fX [0,1,2,3,4,5,6] (@hk) trivial trivial):Ev S5 uS 287 [TF v2,go (S8 S6 (dep+1)),.ref (.yl 6),.ref (.ptr 4 0)] [.var v0,.var [go 0],.var [go m],.var v0,.var [UL (TM 287) [] [.ref (.ptr 4 0)]],.zaB,.loop TJ none 0 (Bn 23 0 [(2,.ref (.ptr 1 0)),(3,.ref (.ptr 2 0)),(7,UL (TM 288) [] v3)]) {toList:=[8,9]} (ax (sub T9 0)) (ak (sub T9 0)),.var v1,.var v2] (kr true) [.var v0,.var [go 0],.var [go m'],.var v0,.var [UL (TM 287) [] [.ref (.ptr 4 0)]],.zaB,.loop TJ none 0 (Bn 23 0 [(2,.ref (.ptr 1 0)),(3,.ref (.ptr 2 0)),(7,UL (TM 288) [] v3)]) {toList:=[8,9]} (ax (sub T9 0)) (ak (sub T9 0)),.var v1,.var v2]),.e] (by subst v0 v1 v2 v3;grind) (by subst v0 v1 v2 v3;(rw[hw];rfl))
noncomputable abbrev wkX(x r0:RuF)(m:Int):Exit×AS:=(.ret,{t:=Bn 30 0 [(zfS 7)],h:=(zeG r0 m)++[iI (x.l)],m:=[]})
theorem J6{x r0:RuF}{dep m m0:Int}{i:Nat}{m':Int}{y:RuF}(hr:ao (i:Int) x.ks y.row 6)(xD:lL ((i:Int)<(x.ks.length:Int))=J)(hk:Ev S5 uS 287 [uT y.l,go (S6.wrap (dep+1)),mW (.yl 6),mW (J0 4 0)] (zbl r0 m) (kr N) (zeG r0 m')):(CW S5 uS (zbl r0 m0) N (sub YF 0) (wkS x r0 dep m i) (wkX x r0 m').1 (wkX x r0 m').2):=by let v0:bY:=(zak r0);let v1:bY:=(zak y);let v2:bY:=(zak x);exact yx (zbU [7] 8) [.b xD,.r hr,.c ((fX [0,1,2,3,4,5,6] (@hk) trivial trivial):Ev S5 uS 287 [TF v1,(ziq dep),mW (.yl 6),mW (J0 4 0)] [iI v0,iI [go 0],iI [go m],iI v0,iI ziB,Ζ,χ TJ Y 0 zj5 zji (ax (sub T9 0)) (ak (sub T9 0)),iI v2,iI v1] (kr N) [iI v0,iI [go 120],iI [go m'],iI v0,iI zin,Ζ,χ W4 (G Y9) 0 zaw zeJ (ax (sub T9 0)) (ak (sub T9 0)),iI v2,iI v1]),.e]
theorem PU{x r0:RuF}{dep m m0:Int}{i:Nat}(xD:lL ((i:Int)<(x.ks.length:Int))=N):(CW S5 uS (zbl r0 m0) N (sub YF 0) (wkS x r0 dep m i) (η 0) {t:=Bn 30 0 [(zfS 7)],h:=(zbl r0 m)++[iI (x.l)],m:=[]}):=yx (zbU [7] 8) [.b xD]
def xE.fl:xE->RuF
 |.mk op c nm n d ks=>⟨op,c,nm,n,d,fG ks⟩
theorem xE.zqP(r:xE):r.fl.row=r.row:=by cases r;rfl
theorem xE.fl_ok{r:xE}(h:r.ok):r.fl.ok:=by cases r;simp[xE.ok] at h;exact⟨h.1.2.2.1,h.1.2.2.2.1⟩
noncomputable def wkFin(x r0:RuF)(p:Int⊕Int):Exit×AS:=bf (η 0) (λm'=>{t:=Bn 30 0 [(zfS 7)],h:=(zbl r0 m')++[iI x.l],m:=[]}) (λm'=>wkX x r0 m') p
theorem wk_cw{r0 x:RuF}{ks:List xE}(hx:x.ks=ks.map xE.row)(hl:ah ks){dep m m0:Int}(hk:∀k∈ks,∀m,Ev S5 uS 287 [.agg k.fl.l,go (S6.wrap (dep+1)),.ref (.yl 6),.ref (.ptr 4 0)] (zbl r0 m) (kr (!(k.walk (S6.wrap (dep+1)) m).2)) (ckSt r0 (k.walk (S6.wrap (dep+1)) m).1 (k.walk (S6.wrap (dep+1)) m).2)):CW S5 uS (zbl r0 m0) false (.loop (sub YF 0)) (wkS x r0 dep m 0) (wkFin x r0 (Pu (wkF (S6.wrap (dep+1))) ks m)).1 (wkFin x r0 (Pu (wkF (S6.wrap (dep+1))) ks m)).2:=by
 refine UR ks (wkF (S6.wrap (dep+1))) (λi m=>wkS x r0 dep m (i:Int)) (.exit 0) _ (λm'=>wkX x r0 m') (λ_ _=>True) (by simp) (λ_=>by simp) ?_ ?_ m trivial
 ·intro i k m hki _;have hi:=(Td.1 hki).1;have hr:ao (i:Int) x.ks k.fl.row 6:=by rw[hx,k.zqP];exact rowAt hki (by cases k;rfl)
  have xD:lL ((i:Int)<(x.ks.length:Int))=true:=by rw[hx];exact κ _ hi
  have hev:=hk k (T6 hki) m;refine⟨λ_ _=>trivial,?_⟩;simp only[wkF];cases hw:k.walk (S6.wrap (dep+1)) m with
  | mk m' b =>
   rw[hw] at hev;cases b with
   | true=>exact J6 hr xD hev
   | false=>exact J5 hr xD (J3 hi hl) hev
 ·intro m _;exact PU (by grind)
abbrev zc7(a:bY)(b:Int):bY:=[uT a,go b,mW (.yl 6),mW (J0 4 0)]
theorem walkA{r0 x:RuF}{dep m m':Int}(hi:Iv S5 uS (mW (.yl 6)) [go dep,uT x.l] ((zbl r0 m)++[iI x.l]) (kr N) ((zeG r0 m')++(zb0 x.l))):(Ev S5 uS 287 (zc7 x.l dep) (zbl r0 m) (kr N) (zeG r0 m')):=by let v0:bY:=(zak r0);exact Tw (yT (h':=[iI v0,iI [go 120],iI [go m'],iI v0,iI zjS,Ζ,χ W4 (G Y9) 0 zaw zeJ (ax (sub T9 0)) (ak (sub T9 0))]) (d:=kr N) [.j (@hi),.e]) ο ο
def J7:Int⊕Int->Int×Bool
 |.inl m=>(m,N)
 |.inr m=>(m,J)
theorem J8(dep:Int)(ks:List xE)(m:Int):J7 (Pu (wkF dep) ks m)=zlY ks dep m:=by
 rw[tk];cases zlY ks dep m with
 |mk m' b=>cases b<;>rfl
theorem walkB{r0 x:RuF}{ks:List xE}(hx:x.ks=ks.map xE.row)(hl:ah ks){dep m m':Int}(hi:Iv S5 uS (mW (.yl 6)) [go dep,uT x.l] ((zbl r0 m)++[iI x.l]) (kr J) ((zbl r0 m')++(zb0 x.l)))(hk:∀k∈ks,∀m,Ev S5 uS 287 [uT k.fl.l,go (S6.wrap (dep+1)),mW (.yl 6),mW (J0 4 0)] (zbl r0 m) (kr (!(k.walk (S6.wrap (dep+1)) m).2)) (ckSt r0 (k.walk (S6.wrap (dep+1)) m).1 (k.walk (S6.wrap (dep+1)) m).2)):(Ev S5 uS 287 (zc7 x.l dep) (zbl r0 m) (kr (!(J7 (Pu (wkF (S6.wrap (dep+1))) ks m')).2)) (ckSt r0 (J7 (Pu (wkF (S6.wrap (dep+1))) ks m')).1 (J7 (Pu (wkF (S6.wrap (dep+1))) ks m')).2)):=by
 have Pq:=(@wk_cw (r0) (x) (ks) (hx) (hl) (dep) (m') (m) (hk));revert Pq;cases ho1:Pu (wkF (S8 S6 (dep+1))) ks m' with
 |inl ξ=>intro Pq;let v0:bY:=(zak r0);refine Tw (yT (h':=[iI v0,iI [go 0],iI [go ξ],iI v0,iI zin,Ζ,χ TJ Y 0 zaw zeJ (ax (sub T9 0)) (ak (sub T9 0))]) (d:=kr J) [.j (@hi),.e,.o (zkm 8),.s [1,2,3,7,16,17,18] Pq]) ?_ ?_<;>subst v0<;>(rfl)
 |inr zce=>intro Pq;let v0:bY:=(zak r0);refine Tw (yT (h':=[iI v0,iI [go 120],iI [go zce],iI v0,iI zjS,Ζ,χ W4 (G Y9) 0 zaw zeJ (ax (sub T9 0)) (ak (sub T9 0))]) (d:=kr N) [.j (@hi),.e,.o (zkm 8),.s [1,2,3,7,16,17,18] Pq]) ?_ ?_<;>subst v0<;>(rfl)
theorem Bq(r0:RuF):∀(r:xE),r.ok->∀(dep m:Int),Ev S5 uS 287 [.agg r.fl.l,go dep,.ref (.yl 6),.ref (.ptr 4 0)] (ckH r0 0 m .ready none) (kr (!(r.walk dep m).2)) (ckSt r0 (r.walk dep m).1 (r.walk dep m).2)
 | .mk op c nm n d ks,hr,dep,m=>by
  have hok:=xE.fl_ok hr
  simp[xE.ok] at hr
  have hiv:=PT (r0:=r0) (m:=m) (dep:=dep) hok
  have hlen:((xE.mk op c nm n d ks).fl.ks.length:Int)=ks.length:=by simp[xE.fl,dm]
  have hf:(xE.mk op c nm n d ks).fl.formed=aP op c n d ks.length:=by
   show aP op c n d ((xE.mk op c nm n d ks).fl.ks.length:Int)=_
   rw[hlen]
  rw[hf] at hiv
  simp[xE.walk]
  cases hs:nY (S6.wrap (m+1)) dep (aP op c n d ks.length) with
  | true =>
   rw[hs] at hiv
   exact walkA hiv
  | false =>
   rw[hs] at hiv
   have:=walkB (r0:=r0) (x:=(xE.mk op c nm n d ks).fl) (ks:=ks) (dm ks) hr.1.2.2.2.2 (m:=m) (dep:=dep) hiv (λk hk m=>Bq r0 k (qK hr.2 k hk) _ m)
   grind [J8]
termination_by r=>SizeOf.sizeOf r
decreasing_by
 have:=List.sizeOf_lt_of_mem hk
 simp only[xE.mk.sizeOf_spec]
 omega
noncomputable abbrev uW(x:RuF)(m':Int):aT:=[iI (zak x),iI [go 120],iI [go m'],iI (zak x),iI zjS,Ζ,χ W4 (G Y9) 0 zaw zeJ (ax (sub T9 0)) (ak (sub T9 0))]
abbrev zdO(a b c:Nat):bY:=[mW (.yl a),mW (J0 b 0),mW (J0 c 0)]
theorem C1{x:RuF}{m':Int}(hk:Ev S5 uS 287 (zc7 x.l 1) (zbl x 0) (kr N) (zeG x m')):(Ev S5 uS 288 (zdO 6 4 3) (zbl x 0) (JV []) (zeG x m')):=Tw (yF (h':=(uW x m')) (d:=TT []) [.c (@hk)]) ο ο
noncomputable abbrev uX(x:RuF)(m':Int):aT:=[iI (zak x),iI [go 0],iI [go m'],iI (zak x),iI zin,Ζ,χ TJ Y 0 zaw zeJ (ax (sub T9 0)) (ak (sub T9 0))]
theorem C2{x:RuF}{m':Int}(hk:Ev S5 uS 287 (zc7 x.l 1) (zbl x 0) (kr J) (zbl x m')):(Ev S5 uS 288 (zdO 6 4 3) (zbl x 0) (JV []) (zbl x m')):=Tw (yF (h':=(uX x m')) (d:=TT []) [.c (@hk)]) ο ο
abbrev ckH0(r:RuF):aT:=[iI r.l,iI [go 0],iI [go 0],iI r.l,iI [.fn (.func 287) [] zbe]]
abbrev zgd(a:RuF):AS:={t:=ckT,h:=ckH0 a,m:=[]}
theorem ckT_rf{x:RuF}{m':Int}(hk:Ev S5 uS 287 (zc7 x.l 1) (zbl x 0) (kr N) (zeG x m')):CW S5 uS [] N (sub T9 0) (zgd x) .ret {t:=ckT,h:=ckH x 120 m' zhL (G .ret),m:=[5]} :=CW.rangeFunc (f:=288) (fi:=[]) (ca:=zbq) pok (s:=(zgd x)) (g:=.tmp 7) (ps:=#[8,9]) (asg:=ax (sub T9 0)) (body:=ak (sub T9 0)) rfl Z (C1 hk) rfl
theorem ckF_rf{x:RuF}{m':Int}(hk:Ev S5 uS 287 (zc7 x.l 1) (zbl x 0) (kr J) (zbl x m')):CW S5 uS [] N (sub T9 0) (zgd x) NO {t:=ckT,h:=ckH x 0 m' zhL Y,m:=[5]} :=CW.rangeFunc (f:=288) (fi:=[]) (ca:=zbq) pok (s:=(zgd x)) (g:=.tmp 7) (ps:=#[8,9]) (asg:=ax (sub T9 0)) (body:=ak (sub T9 0)) rfl Z (C2 hk) rfl
def xE.bad(r:xE):Bool:=(r.walk 1 0).2
noncomputable def PV(x:RuF)(p:Int×Bool):Exit×AS:=match p.2 with
 |true=>(.ret,{t:=ckT,h:=ckH x 120 p.1 zhL (G .ret),m:=[5]})
 |false=>(NO,{t:=ckT,h:=ckH x 0 p.1 zhL Y,m:=[5]})
theorem J9{r:xE}(hr:r.ok){x:RuF}(hx:x=r.fl):CW S5 uS [] N (sub T9 0) (zgd x) (PV x (r.walk 1 0)).1 (PV x (r.walk 1 0)).2:=by
 subst hx;have hk:=Bq r.fl r hr 1 0;unfold PV;cases h:r.walk 1 0 with
 |mk m' b=>
  rw[h] at hk;cases b with
  |true=>exact ckT_rf hk
  |false=>exact ckF_rf hk
def iJ(b:Bool):Int:=match b with|true=>120|false=>0
theorem PW{r:xE}(hr:r.ok){x:RuF}(hx:x=r.fl)(h:aT):(Ev S5 uS 161 [uT x.l] h (go (iJ r.bad)) h):=by
 have Pq:=(@J9 (r) (hr) (x) (hx));revert Pq;cases ho1:xE.walk r 1 0 with
 |mk ξ o1_0_1=>
  intro Pq;revert Pq;cases ho2:o1_0_1 with
  |false=>intro Pq;exact yD (go 0) [.a1 zfF,.s [2,3,7] Pq] h (by simp[xE.bad,iJ,ho1,ho2])
  |true=>intro Pq;exact yD (go 120) [.a1 zfF,.s [2,3,7] Pq] h (by simp[xE.bad,iJ,ho1,ho2])
theorem gQ{r:xE}(hr:r.ok)(h:aT):Ev S5 uS 161 [uT r.fl.l] h (go (iJ r.bad)) h:=PW hr rfl h
structure L9 where
 name:ByteArray
 number:Int
 oA:Int
 rep:Int
 Ι:xE
 bar:xE
def L9.row(c:L9):dO:=[vs c.name,vi c.number,vi c.oA,vi c.rep,vi c.Ι.fl.op,vi c.Ι.fl.c,vs c.Ι.fl.nm,vi c.Ι.fl.n,vi c.Ι.fl.d,.sl c.Ι.fl.ks,vi c.bar.fl.op,vi c.bar.fl.c,vs c.bar.fl.nm,vi c.bar.fl.n,vi c.bar.fl.d,.sl c.bar.fl.ks]
def L9.ok(c:L9):Prop:=c.Ι.ok/\c.bar.ok
def fP(c:L9):Bool:=inB c.number 0 4095&&inB c.oA 1 60&&inB c.rep 0 2&&(iJ c.Ι.bad==0)&&(iJ c.bar.bad==0)
abbrev zbM(a:L9):bY:=[am a.name,go a.number,go a.oA,go a.rep,go (xE.fl a.Ι).op,go (xE.fl a.Ι).c,am (xE.fl a.Ι).nm,go (xE.fl a.Ι).n,go (xE.fl a.Ι).d,ab (xE.fl a.Ι).ks,go (xE.fl a.bar).op,go (xE.fl a.bar).c,am (xE.fl a.bar).nm,go (xE.fl a.bar).n,go (xE.fl a.bar).d,ab (xE.fl a.bar).ks]
noncomputable abbrev dJ(c:L9):aT:=[iI (zbM c)]
theorem C3{c:L9}(hc:c.ok)(h:aT):(Ev S5 uS 88 [ag c.row] h (kr (fP c)) h):=by refine y0 [.v (Tp (Γ':=uS) (@bD (c.number) 0 4095 (dJ c))),.w (lL (c.number>=0)&&lL (c.number<=4095)) (Tp (Γ':=uS) (@bD (c.oA) 1 60 (dJ c))),.w (lL (c.number>=0)&&lL (c.number<=4095)&&(lL (c.oA>=1)&&lL (c.oA<=60))) (Tp (Γ':=uS) (@bD (c.rep) 0 2 (dJ c))),.w (zb2 c.number 0 4095 c.oA 1 60 c.rep 2) (@gQ (c.Ι) ?_ (dJ c)),.w ((zb2 c.number 0 4095 c.oA 1 60 c.rep 2)&&iJ (xE.bad c.Ι)==0) (@gQ (c.bar) ?_ (dJ c))] h<;>(first|exact hc.1|exact hc.2)
noncomputable abbrev zI(c:L9)(n:Int):aT:=[iI [go n],iI (zbM c)]
abbrev zcG(a:Int):aT:=[iI [go a]]
theorem Br{c:L9}(hc:c.ok){n:Int}:(Ev S5 uS 87 [ag c.row,mW (J0 0 0)] (zcG n) (kr (c.number==n&&fP c)) (zcG n)):=Tw (yT (h':=(zcG n)) (d:=kr (c.number==n&&fP c)) [.w (c.number==n) (@C3 c hc (zI c n))]) ο ο
structure kc where
 c:List L9
 p:bv
 s:List zcR
 f:AT
abbrev zhb(a:kc):D:=ab (a.c.map L9.row)
def kc.l(w:kc):bY:=[(zhb w),ab w.p,ab (w.s.map zcR.row),ab (w.f.map Ta)]
abbrev atA(w:kc)(kk ks ko fI d5:Int):bY:=[ab (w.f.map Ta),uT (Z8 kk ks ko),go fI,go d5]
abbrev rN(kk ks ko a b:Int):bv:=[[vi kk,vi ks,vi ko,vi a,vi b]]
theorem cy{α:Type}[Inhabited α]{row:α->dO}{l:List α}{v:Int}{sz:Nat}(hs:∀x,(row x).length=sz)(h0:0<=v)(h1:v<(l.length:Int)):ao v (l.map row) (row (l.getD v.toNat default)) sz:=by
 obtain⟨n,rfl⟩:∃n:Nat,v=n:=⟨v.toNat,tj⟩;have hn:n<l.length:=tj
 have hx:l[n]?=G l[n]:=TH hn;have:l.getD (S9 (n:Int)) default=l[n]:=by simp[Th,hx]
 rw[this];exact rowAt hx (hs _)
def jt{α:Type}[Inhabited α](l:List α)(valid:α->Bool)(p:Int×Bool):Bool:=!p.2||lL (p.1<0)||lL (p.1>=(l.length:Int))||!valid (l.getD p.1.toNat default)
def gR{α:Type}[Inhabited α](l:List α)(valid:α->Bool)(z:α)(p:Int×Bool):α×Bool:=match jt l valid p with
 |true=>(z,N)
 |false=>(l.getD p.1.toNat default,J)
theorem ln{α:Type}[Inhabited α]{l:List α}{valid:α->Bool}{p:Int×Bool}(h:jt l valid p=N):l.getD p.1.toNat default∈l/\valid (l.getD p.1.toNat default)=J/\p.2=J/\0<=p.1/\p.1<l.length:=by grind [Bool.or_eq_false_iff,Bool.not_eq_false',decide_eq_false_iff_not,Th,jt]
def zcR.zero:zcR:=⟨[],[],[],[]⟩
abbrev sysZ:D:=uT [ab [],ab [],ab [],ab []]
abbrev ZU(a:kc):D:=ab (S2 Ta a.f)
abbrev zc2(a:kc):bv:=(S2 L9.row a.c)
abbrev zep(a:kc):bv:=(S2 zcR.row a.s)
abbrev zhX(a:kc):bY:=[ab (zc2 a),ab a.p,ab (zep a),(ZU a)]
noncomputable abbrev ls0_x0(w:kc):aT:=[iI (zhX w),iI (zh9 4 0 0),iI [nq,nq,nq,nq]]
abbrev ze4(a:kc)(b c:Int):bY:=[uT a.l,ab (a.s.map zcR.row),uT (zh9 4 0 0),go b,go c,fnv 208]
theorem ls0{w:kc}{fI d5:Int}(ht:(!(lL (fI>=0)&&lL (fI<=1023)))=J)(h:aT):(Ev S5 uS 207 (ze4 w fI d5) h (JV [sysZ,ab [],kr N]) h):=Tw (U7 (y0 (d:=TT [TF [nq,nq,nq,nq],nq,kr N]) [.v (Tp (Γ':=uS) (@bD fI 0 1023 (ls0_x0 w))),.b ht] h)) ο ο
noncomputable abbrev nF(w:kc):aT:=[iI (zhX w),iI (zh9 4 0 0),iI [nq,nq,nq,nq],S3]
noncomputable abbrev Md(w:kc):aT:=[iI (zhX w),iI (zh9 4 0 0),iI [nq,nq,nq,nq]]
abbrev zau(a:kc)(b:Int):dO:=[UP (S2 Uq (Th a.s (S9 b) default).Υ),UP (S2 UG (Th a.s (S9 b) default).zkQ),UP (S2 Uq (Th a.s (S9 b) default).zas),UP (S2 ZB.row (Th a.s (S9 b) default).clauses)]
abbrev za1(a:Int):D:=go (S8 S6 (a+1))
abbrev zbz(a b c d:Int):bv:=[[vi a,vi b,vi c,vi d,vi (S8 S6 (d+1))]]
abbrev zgg(a:kc)(b:Int):D:=(kr (Gb (Th a.s (S9 b) default)))
abbrev zhI(a b c d:Int):List (bY):=[[go a,go b,go c,go d,(za1 d)]]
abbrev zi0(a:Int)(c:Nat)(d e f:Int)(g:Bool)(h:dO)(i:D):Do:=[zbZ (zdV a 0 1023),.b N,.nx 1,δ (zed c (rN d e 0 a (S8 S6 (a+1)))),zbZ (TT [go f,kr g]),.row h,zbZ i,.b N,.row h]
theorem ls1{w:kc}{fI d5 v:Int}{b:Bool}(ht:(!(lL (fI>=0)&&lL (fI<=1023)))=N)(hat:∀h,Ev S5 uS 106 (atA w 4 0 0 fI d5) h (JV [go v,kr b]) h)(hs:∀x∈w.s,x.ok)(h:aT):(Ev S5 uS 207 (ze4 w fI d5) h (JV [ag (gR w.s Gb zcR.zero (v,b)).1.row,ab (rN 4 0 0 fI (S6.wrap (fI+1))),kr (gR w.s Gb zcR.zero (v,b)).2]) h):=by
 cases F3:!b||lL (v<0)||lL (v>=(↑(S7 (zep w)):Int))||!Gb (Th w.s (S9 v) default)
 ·refine Tw (U7 (Ev.sym0 (d:=TT [TF (zcc (Th w.s (S9 v) default) (S2 ZB.row (Th w.s (S9 v) default).clauses)),ab (zbz 4 0 0 fI),kr J]) pok (zi0 fI 3 4 0 v b (zau w v) (zgg w v)) Z (.q0 (Tp (Γ':=uS) (@bD (fI) (0) (1023) ((Md w)))) (.q1 ht (.c (show (zhI 4 0 0 fI)=(zhI 4 0 0 fI) from rfl) (.q4 (@hat ((nF w))) (.c (show(!(!b||lL (v<0)||lL (v>=(↑(S7 (zep w)):Int))))=J->ao v (zep w) (zau w v) 4 from(λhg=>?_)) (.q6 (show(!(!b||lL (v<0)||lL (v>=(↑(S7 (zep w)):Int))))=J->Ev S5 uS 208 [(ag (zcR.row (Th w.s (S9 v) default)))] (nF w) (zgg w v) (nF w) from(λhg=>(Tp (@qJ (Th w.s (S9 v) default) uU ((nF w)))))) (.q7 F3 (.q8 (show ao v (zep w) (zau w v) 4 from ?_) .n)))))))) rfl rfl h)) (by(have hb:jt w.s Gb (v,b)=N:=by rw[<-F3];simp[jt]);simp only[gR,hb];rfl) ο<;>(refine cy (λ_=>rfl) ?_ ?_<;>simp_all;done)
 ·exact Tw (U7 (Ev.sym0 (d:=TT [TF [nq,nq,nq,nq],ab (zbz 4 0 0 fI),kr N]) pok [zbZ (zdV fI 0 1023),.b N,.nx 1,δ (zed 3 (rN 4 0 0 fI (S8 S6 (fI+1)))),zbZ (TT [go v,kr b]),.row (zau w v),zbZ (zgg w v),.b J] Z (.q0 (Tp (Γ':=uS) (@bD (fI) (0) (1023) ((Md w)))) (.q1 ht (.c (show (zhI 4 0 0 fI)=(zhI 4 0 0 fI) from rfl) (.q4 (@hat ((nF w))) (.c (show(!(!b||lL (v<0)||lL (v>=(↑(S7 (zep w)):Int))))=J->ao v (zep w) (zau w v) 4 from(λhg=>(by(refine cy (λ_=>rfl) ?_ ?_<;>simp_all;done)))) (.q6 (show(!(!b||lL (v<0)||lL (v>=(↑(S7 (zep w)):Int))))=J->Ev S5 uS 208 [(ag (zcR.row (Th w.s (S9 v) default)))] (nF w) (zgg w v) (nF w) from(λhg=>(Tp (@qJ (Th w.s (S9 v) default) uU ((nF w)))))) (.q7 F3 .n))))))) rfl rfl h)) (by(have hb:jt w.s Gb (v,b)=J:=by rw[<-F3];simp[jt]);simp[gR,hb];rfl) ο
structure kc.ok (w:kc):Prop where
 c:∀x∈w.c,x.ok
 s:∀x∈w.s,x.ok
 lf:w.f.length<=69000
 lc:ah w.c
 ls:ah w.s
 i:∀f∈w.f,f.ok
theorem kc.ok.sf{w:kc}(h:w.ok):ah w.f:=by have:=h.lf;unfold ah;omega
def zlK(fI:Int):Bool:=!(lL (fI>=0)&&lL (fI<=1023))
def bU(w:kc)(fI d5:Int):zcR×Bool:=match zlK fI with
 |true=>(zcR.zero,N)
 |false=>gR w.s Gb zcR.zero (atR 4 0 0 fI d5 w.f)
def ic(kk ks ko fI:Int):bv:=match zlK fI with
 |true=>[]
 |false=>rN kk ks ko fI (S6.wrap (fI+1))
theorem C4{w:kc}(hw:w.ok){fI d5:Int}(h:aT):Ev S5 uS 207 (ze4 w fI d5) h (JV [ag (bU w fI d5).1.row,ab (ic 4 0 0 fI),kr (bU w fI d5).2]) h:=by
 unfold bU ic;cases ht:zlK fI with
 |true=>exact ls0 ht h
 |false=>exact ls1 ht (λh=>Tp (Cy hw.sf h)) hw.s h
noncomputable abbrev uY(w:kc):aT:=[iI (zhX w),iI [nq,nq,nq,nq]]
theorem C5{w:kc}(hw:w.ok){fI d5:Int}(h:aT):(Ev S5 uS 121 [uT w.l,go fI,go d5] h (JV [ag (bU w fI d5).1.row,ab (ic 4 0 0 fI)]) h):=y0 [.v (@C4 w hw fI d5 (uY w))] h
def xE.zero:xE:=.mk 0 0 ⟨#[]⟩ 0 0 []
def L9.zero:L9:=⟨⟨#[]⟩,0,0,0,xE.zero,xE.zero⟩
instance:Inhabited L9:=⟨L9.zero⟩
theorem L9.zkx:L9.zero.ok:=by have:xE.zero.ok:=⟨by unfold Ψ ah;simp,trivial⟩;exact⟨this,this⟩
abbrev crsZ:D:=ag L9.zero.row
def iK(n:Int)(c:L9):Bool:=c.number==n&&fP c
abbrev zaa:bY:=[am {data:=#[]},go 0,go 0,go 0,go 0,go 0,am {data:=#[]},go 0,go 0,nq,go 0,go 0,am {data:=#[]},go 0,go 0,nq]
abbrev zjU(a:Int)(b:bY)(c:Int)(d:bY):aT:=[iI [go a],iI b,iI (Z8 c a 0),iI d]
noncomputable abbrev lc0_x0(w:kc)(n:Int):aT:=(zjU n (zhX w) 1 zaa)
abbrev zh3(a:kc)(b:D)(c d e f:Int)(g:FuncId):bY:=[uT a.l,b,uT (Z8 c d 0),go e,go f,.fn (.func g) [] za8]
theorem lc0{w:kc}{n fI d5:Int}(ht:(!(lL (fI>=0)&&lL (fI<=1023)))=J):(Ev S5 uS 89 (zh3 w (zhb w) 1 n fI d5 87) (zcG n) (JV [crsZ,ab [],kr N]) (zcG n)):=Tw (U7 (yT (h':=(zcG n)) (d:=TT [TF zaa,nq,kr N]) [.v (Tp (Γ':=uS) (@bD fI 0 1023 (lc0_x0 w n))),.b ht])) ο ο
abbrev zaG(a:kc)(b:Int):D:=TF [am (Th a.c (S9 b) default).name,go (Th a.c (S9 b) default).number,go (Th a.c (S9 b) default).oA,go (Th a.c (S9 b) default).rep,go (xE.fl (Th a.c (S9 b) default).Ι).op,go (xE.fl (Th a.c (S9 b) default).Ι).c,am (xE.fl (Th a.c (S9 b) default).Ι).nm,go (xE.fl (Th a.c (S9 b) default).Ι).n,go (xE.fl (Th a.c (S9 b) default).Ι).d,ab (xE.fl (Th a.c (S9 b) default).Ι).ks,go (xE.fl (Th a.c (S9 b) default).bar).op,go (xE.fl (Th a.c (S9 b) default).bar).c,am (xE.fl (Th a.c (S9 b) default).bar).nm,go (xE.fl (Th a.c (S9 b) default).bar).n,go (xE.fl (Th a.c (S9 b) default).bar).d,ab (xE.fl (Th a.c (S9 b) default).bar).ks]
noncomputable abbrev Bs(w:kc)(v:Int):bY:=[(zaG w v),mW (J0 0 0)]
noncomputable abbrev nG(w:kc)(n:Int):aT:=[iI [go n],iI (zhX w),iI (Z8 1 n 0),iI zaa,S3]
noncomputable abbrev Me(w:kc)(n:Int):aT:=(zjU n (zhX w) 1 zaa)
abbrev ZE(a:kc)(b:Int):dO:=[vs (Th a.c (S9 b) default).name,vi (Th a.c (S9 b) default).number,vi (Th a.c (S9 b) default).oA,vi (Th a.c (S9 b) default).rep,vi (xE.fl (Th a.c (S9 b) default).Ι).op,vi (xE.fl (Th a.c (S9 b) default).Ι).c,vs (xE.fl (Th a.c (S9 b) default).Ι).nm,vi (xE.fl (Th a.c (S9 b) default).Ι).n,vi (xE.fl (Th a.c (S9 b) default).Ι).d,UP (xE.fl (Th a.c (S9 b) default).Ι).ks,vi (xE.fl (Th a.c (S9 b) default).bar).op,vi (xE.fl (Th a.c (S9 b) default).bar).c,vs (xE.fl (Th a.c (S9 b) default).bar).nm,vi (xE.fl (Th a.c (S9 b) default).bar).n,vi (xE.fl (Th a.c (S9 b) default).bar).d,UP (xE.fl (Th a.c (S9 b) default).bar).ks]
abbrev zdG(a:kc)(b d:Int):D:=(kr ((Th a.c (S9 b) default).number==d&&fP (Th a.c (S9 b) default)))
theorem lc1{w:kc}{n fI d5 v:Int}{b:Bool}(ht:(!(lL (fI>=0)&&lL (fI<=1023)))=N)(hat:∀h,Ev S5 uS 106 (atA w 1 n 0 fI d5) h (JV [go v,kr b]) h)(hs:∀x∈w.c,x.ok):(Ev S5 uS 89 (zh3 w (zhb w) 1 n fI d5 87) (zcG n) (JV [ag (gR w.c (iK n) L9.zero (v,b)).1.row,ab (rN 1 n 0 fI (S6.wrap (fI+1))),kr (gR w.c (iK n) L9.zero (v,b)).2]) (zcG n)):=by
 cases F3:!b||lL (v<0)||lL (v>=(↑(S7 (zc2 w)):Int))||!((Th w.c (S9 v) default).number==n&&fP (Th w.c (S9 v) default))
 ·refine Tw (U7 (Ev.symT (h':=(zcG n)) (d:=TT [(zaG w v),ab (zbz 1 n 0 fI),kr J]) pok (zi0 fI 4 1 n v b (ZE w v) (zdG w v n)) Z (.q0 (Tp (Γ':=uS) (@bD (fI) (0) (1023) ((Me w n)))) (.q1 ht (.c (show (zhI 1 n 0 fI)=(zhI 1 n 0 fI) from rfl) (.q4 (@hat ((nG w n))) (.c (show(!(!b||lL (v<0)||lL (v>=(↑(S7 (zc2 w)):Int))))=J->ao v (zc2 w) (ZE w v) 16 from(λhg=>?_)) (.q6 (show(!(!b||lL (v<0)||lL (v>=(↑(S7 (zc2 w)):Int))))=J->Ev S5 uS 87 (Bs w v) (nG w n) (zdG w v n) (nG w n) from(λhg=>(Tw (Ev.zqN (args:=(Bs w v)) (H:=(nG w n)) [0] (@Br (Th w.c (S9 v) default) uU (n)) Z Z Z trivial trivial) Z Z))) (.q7 F3 (.q8 (show ao v (zc2 w) (ZE w v) 16 from ?_) .n)))))))))) (by(have hb:jt w.c (iK n) (v,b)=N:=by rw[<-F3];simp[jt,iK]);simp only[gR,hb];rfl) uU<;>(refine cy (λ_=>rfl) ?_ ?_<;>simp_all;done)
 ·exact Tw (U7 (Ev.symT (h':=(zcG n)) (d:=TT [TF zaa,ab (zbz 1 n 0 fI),kr N]) pok [zbZ (zdV fI 0 1023),.b N,.nx 1,δ (zed 4 (rN 1 n 0 fI (S8 S6 (fI+1)))),zbZ (TT [go v,kr b]),.row (ZE w v),zbZ (zdG w v n),.b J] Z (.q0 (Tp (Γ':=uS) (@bD (fI) (0) (1023) ((Me w n)))) (.q1 ht (.c (show (zhI 1 n 0 fI)=(zhI 1 n 0 fI) from rfl) (.q4 (@hat ((nG w n))) (.c (show(!(!b||lL (v<0)||lL (v>=(↑(S7 (zc2 w)):Int))))=J->ao v (zc2 w) (ZE w v) 16 from(λhg=>(by(refine cy (λ_=>rfl) ?_ ?_<;>simp_all;done)))) (.q6 (show(!(!b||lL (v<0)||lL (v>=(↑(S7 (zc2 w)):Int))))=J->Ev S5 uS 87 (Bs w v) (nG w n) (zdG w v n) (nG w n) from(λhg=>(Tw (Ev.zqN (args:=(Bs w v)) (H:=(nG w n)) [0] (@Br (Th w.c (S9 v) default) uU (n)) Z Z Z trivial trivial) Z Z))) (.q7 F3 .n))))))))) (by(have hb:jt w.c (iK n) (v,b)=J:=by rw[<-F3];simp[jt,iK]);simp[gR,hb];rfl) uU
def ac(w:kc)(n fI d5:Int):L9×Bool:=match zlK fI with
 |true=>(L9.zero,N)
 |false=>gR w.c (iK n) L9.zero (atR 1 n 0 fI d5 w.f)
abbrev zg7(a:kc)(b c d:Int)(e:bv):D:=(JV [ag (ac a b c d).1.row,ab (e),kr (ac a b c d).2])
theorem C6{w:kc}(hw:w.ok){n fI d5:Int}:Ev S5 uS 89 [.agg w.l,ab (w.c.map L9.row),.agg [go 1,go n,go 0],go fI,go d5,.fn (.func 87) [] [.ref (.ptr 0 0)]] [.var [go n]] (.Ρ [ag (ac w n fI d5).1.row,ab (ic 1 n 0 fI),kr (ac w n fI d5).2]) [.var [go n]]:=by
 unfold ac ic
 cases ht:zlK fI with
 | true=>exact lc0 ht
 | false=>exact lc1 ht (λh=>Tp (Cy hw.sf h)) hw.c
noncomputable abbrev lq(w:kc)(n:Int):aT:=[iI (zhX w),iI [go n],iI zaa]
abbrev zbE(a:kc)(b c d:Int):bY:=[uT a.l,go b,go c,go d]
theorem C7{w:kc}(hw:w.ok){n fI d5:Int}(h:aT):(Ev S5 uS 32 (zbE w n fI d5) h (zg7 w n fI d5 (ic 1 n 0 fI)) h):=y0 [.v ((fX [1] (@C6 w hw n fI d5) trivial trivial):Ev S5 uS 89 [TF (kc.l w),ab (zc2 w),TF (Z8 1 n 0),go fI,go d5,UL (TM 87) [] zcq] (lq w n) (TT [TF [am (ac w n fI d5).fst.name,go (ac w n fI d5).fst.number,go (ac w n fI d5).fst.oA,go (ac w n fI d5).fst.rep,go (xE.fl (ac w n fI d5).fst.Ι).op,go (xE.fl (ac w n fI d5).fst.Ι).c,am (xE.fl (ac w n fI d5).fst.Ι).nm,go (xE.fl (ac w n fI d5).fst.Ι).n,go (xE.fl (ac w n fI d5).fst.Ι).d,ab (xE.fl (ac w n fI d5).fst.Ι).ks,go (xE.fl (ac w n fI d5).fst.bar).op,go (xE.fl (ac w n fI d5).fst.bar).c,am (xE.fl (ac w n fI d5).fst.bar).nm,go (xE.fl (ac w n fI d5).fst.bar).n,go (xE.fl (ac w n fI d5).fst.bar).d,ab (xE.fl (ac w n fI d5).fst.bar).ks],ab (ic 1 n 0 fI),kr (ac w n fI d5).2]) (lq w n))] h
abbrev dK(l:AT):List (bY):=l.map λf=>f.row.map .p
abbrev ey(l:Bv):List (bY):=l.map λb=>[kr b]
abbrev bP(l:bV):List (bY):=l.map λn=>[go n]
abbrev zaV:Nat×D:=(zjy 8 3)
abbrev zbw:Nat×D:=(zjy 7 2)
abbrev vaT:bY:=Bn 63 0 [zaE,zbw,zaV,(15,.fn (.func 251) [] zac)]
noncomputable abbrev vaL(st:LoopState):F2:=χ st Y 0 vaT #[16] (ax (sub TV 0)) (ak (sub TV 0))
abbrev zg6(a:AT):bY:=(dK a).flatten
noncomputable abbrev vaH(kk ks ko d5:Int)(fs:bv)(rs:bY)(JY:AT)(G:Bv)(st:LoopState)(more:aT):aT :=[iI (Z8 kk ks ko),iI rs,iI (zg6 JY),iI (ey G).flatten,iI [ab fs],iI (Z8 kk ks ko),iI [go d5],Ζ,vaL st]++more
abbrev zf8(a:Nat):Nat×D:=(a,mW (J0 10 0))
abbrev vaU:bY:=Bn 63 0 [zaE,zbw,zaV,(zf8 9)]
theorem va_asg{kk ks ko d5:Int}{fs:bv}{rs:bY}{JY:AT}{G:Bv}{f:JX}:(CW S5 mX (vaH kk ks ko d5 fs rs JY G ζ (ziT f)) J (ax (sub TV 0)) {t:=dD vaT [(16,ag f.row)],h:=vaH kk ks ko d5 fs rs JY G ζ (ziT f),m:=[]} NO {t:=vaU,h:=vaH kk ks ko d5 fs rs JY G ζ (zbg f),m:=[]}):=yx [δ (τ [6,7,8,9])] []
theorem uZ{h:aT}{off n:Nat}{l:Bv}{b:Bool}(hb:h[3]?=G (iI (ey l).flatten))(hs:l[n]?=G b)(ho:off=n*1):aQ S5 h 4 (mW (J0 3 off))=G (kr b):=by subst ho;exact pX (sz:=1) (j:=0) (row:=[kr b]) Z Z hb (λr hr=>uU) (by simp[hs]) rfl
abbrev zgH(a:Nat):D:=(mW (J0 2 a))
theorem Gn{h:aT}{off n:Nat}{l:AT}{g:JX}(hb:h[2]?=G (iI (zg6 l)))(hs:l[n]?=G g)(ho:off=n*8):aQ S5 h 59 (zgH off)=G (ag g.row):=by subst ho;exact Iz (sz:=8) (row:=g.row.map .p) Z Z hb (by simp[Ta]) (by simp[hs])
theorem va_stB{h:List F2}{off n:Nat}{l:List JX}{f:JX}(hb:h[2]? = some (.var (dK l).flatten))(hn:n<l.length)(ho:off=n*8):aY S5 h 59 (.ref (.ptr 2 off)) (ag f.row)=some (h.set 2 (.var (dK (l.set n f)).flatten)):=by
 subst ho
 rw[pY (sz:=8) (new:=f.row.map .p) rfl (by kernel_rfl) rfl hb (by simp[Ta]) (by simpa using hn),dK,dK,List.map_set]
theorem va_stS{h:aT}{off n:Nat}{l:Bv}{b:Bool}(hb:h[3]?=G (iI (ey l).flatten))(hn:n<l.length)(ho:off=n*1):aY S5 h 4 (mW (J0 3 off)) (kr b)=G (h.set 3 (iI (ey (l.set n b)).flatten)):=by subst ho;rw[pY (sz:=1) (new:=[kr b]) rfl Z rfl hb (λr hr=>uU) (by simpa using hn),ey,ey,List.map_set]
theorem tl{α:Type}{l:List α}{n:Nat}{a:α}(h:l[n]?=G a):n<l.length:=(Td.1 h).1
def zlG(f g:JX)(b:Bool):Bool:=!b||lL (orI (cF f.d5 g.d5) (cF f.no g.no)>=0)
noncomputable abbrev vaS(kk ks ko d5:Int)(fs:bv)(rs:bY)(JY:AT)(G:Bv)(f:JX)(t:Int):AS:={t:=Bn 63 0 [zaE,zbw,zaV,(zf8 9),(10,go t)],h:=vaH kk ks ko d5 fs rs JY G zfB (zbg f),m:=[]}
abbrev zhk:bY:=(Bn 63 0 [(zjy 6 1),(zjy 7 2),(zjy 8 3),(15,UL (TM 251) [] zjV)])
abbrev ZS:bY:=zhk
abbrev ziK:Array Tmp:={toList:=[16]}
abbrev zdA:Array Tmp:=ziK
noncomputable abbrev iL(kk:Int)(ks:Int)(ko:Int)(d5:Int)(fs:bv)(rs:bY)(JY:AT)(G:Bv)(f:JX):aT:=[iI (Z8 kk ks ko),iI rs,iI (Tv (dK JY)),iI (Tv (ey G)),iI [ab fs],iI (Z8 kk ks ko),iI [go d5],Ζ,χ TX Y 0 ZS zdA (ax (sub TV 0)) (ak (sub TV 0)),iI (ZV f),iI (ZV f)]
abbrev zb6(a b:Nat):D:=(mW (J0 a (0+S9 (↑b:Int)*1)))
abbrev zgQ(a:Nat):D:=(mW (J0 2 (0+S9 (↑a:Int)*8)))
theorem va_b{kk ks ko d5:Int}{fs:bv}{rs:bY}{JY b0:AT}{some s0:Bv}{f g f0:JX}{n:Nat}{b:Bool}(hb:JY[n]? = .some g)(hs:some[n]? = .some b)(hn:Φ (n:Int) 1024=true)(xD:lL ((n:Int)<if false=true then if 1024>f.til then 1024 else f.til else if 1024<f.til then 1024 else f.til)=true):(CW S5 mX (vaH kk ks ko d5 fs rs b0 s0 .ready (ziT f0)) true (sub TV 1) (vaS kk ks ko d5 fs rs JY some f (n:Int)) .normal (vaS kk ks ko d5 fs rs (bif zlG f g b then JY.set n f else JY) (bif zlG f g b then some.set n true else some) f (S6.wrap ((n:Int)+1)))):=by
 cases F3:!b||lL (orI (cF f.d5 g.d5) (cF f.no g.no)>=0)
 ·refine yX {t:=Bn 63 0 [zaE,zbw,zaV,(zf8 9),(10,(ZZ n))],h:=(iL kk ks ko d5 fs rs JY some f),m:=[]} Tr [.st (.mask [6,7,8,9,10])] [.b xD,hn,(?_:@Eq (At) (aQ S5 (iL kk ks ko d5 fs rs JY some f) 4 (zb6 3 n)) (Vs (kr b))),((λhg=>hn):(!!b)=true->Φ (↑n:Int) 1024=true),((λhg=>?_):(!!b)=true->aQ S5 (iL kk ks ko d5 fs rs JY some f) 59 (zgQ n)=Vs (TF (ZV g))),.a1 (.ov 31 (kr b)),.a1 (.ov 37 (ag (Ta g))),.w (!!b) (@uy f g (iL kk ks ko d5 fs rs JY some f)),.b F3] (by grind) (by(have hh:zlG f g b=false:=F3;simp only[hh,cond_false];first|done|rfl))<;>(first|exact uZ rfl hs (by simp)|exact Gn rfl hb (by simp))
 ·let v0:bY:=(ZV f);let v1:aT:=[.var (Z8 kk ks ko),.var rs,.var (Tv (dK (UE JY n f))),.var (Tv (ey (UE some n true))),.var [ab fs],.var (Z8 kk ks ko),.var [go d5],.zaB,.loop TX none 0 ZS zdA (ax (sub TV 0)) (ak (sub TV 0)),.var v0,.var v0];let v2:aT:=[.var (Z8 kk ks ko),.var rs,.var (Tv (dK (UE JY n f))),.var (Tv (ey some)),.var [ab fs],.var (Z8 kk ks ko),.var [go d5],.zaB,.loop TX none 0 ZS zdA (ax (sub TV 0)) (ak (sub TV 0)),.var v0,.var v0];let v3:=S2 D.p (Ta f);refine yX {t:=Bn 63 0 [zaE,zbw,zaV,(zf8 9),(10,(ZZ n))],h:=v1,m:=[]} Tr [.st (.mask [6,7,8,9,10])] [.b xD,hn,(?_:@Eq (At) (aQ S5 (iL kk ks ko d5 fs rs JY some f) 4 (zb6 3 n)) (Vs (kr b))),((λhg=>hn):(!!b)=true->Φ (↑n:Int) 1024=true),((λhg=>?_):(!!b)=true->aQ S5 (iL kk ks ko d5 fs rs JY some f) 59 (zgQ n)=Vs (TF (ZV g))),.a1 (.ov 31 (kr b)),.a1 (.ov 37 (ag (Ta g))),.w (!!b) (@uy f g (iL kk ks ko d5 fs rs JY some f)),.b F3,hn,(?_:@Eq (Option (aT)) (aY S5 (iL kk ks ko d5 fs rs JY some f) 59 (zgQ n) (TF v0)) (Vs v2)),hn,(?_:@Eq (Option (aT)) (aY S5 v2 4 (zb6 3 n) (kr true)) (Vs v1)),.a1 (.oh 10044 D.any (vaH kk ks ko d5 fs rs (UE JY n f) some TX (zb0 v3))),.a1 (.oh 10045 D.any (vaH kk ks ko d5 fs rs (UE JY n f) (UE some n true) TX (zb0 v3)))] (by subst v0 v1 v2 v3;grind) (by subst v0 v1 v2 v3;(have hh:zlG f g b=true:=F3;simp only[hh,cond_true];first|done|rfl))<;>subst v0 v1 v2 v3<;>(first|exact uZ rfl hs (by simp)|exact Gn rfl hb (by simp)|exact va_stB rfl (tl hb) (by simp)|exact va_stS rfl (tl hs) (by simp))
theorem va_l{kk ks ko d5:Int}{fs:bv}{rs:bY}{JY b0:AT}{G s0:Bv}{f f0:JX}{x:Int}(xD:lL (x<if N=J then if 1024>f.til then 1024 else f.til else if 1024<f.til then 1024 else f.til)=N):(CW S5 mX (vaH kk ks ko d5 fs rs b0 s0 ζ (ziT f0)) J (sub TV 1) (vaS kk ks ko d5 fs rs JY G f x) (η 2) {t:=Bn 63 0 [],h:=vaH kk ks ko d5 fs rs JY G zfB (zbg f),m:=[]}):=yx zbN [.b xD]
abbrev VS:=AT×Bv
def VS.ok(s:VS):Prop:=s.1.length=1024/\s.2.length=1024
def C8(f:JX):Int:=if f.til<1024 then f.til else 1024
def ie(f:JX)(s:VS)(n:Nat):VS:=bif zlG f (s.1.getD n default) (s.2.getD n N) then (s.1.set n f,s.2.set n J) else s
def Ka(f:JX)(x:Int)(s:VS):VS:=(List.range' x.toNat (C8 f-x).toNat).foldl (ie f) s
theorem zmn{f:JX}{s:VS}(n:Nat)(h:s.ok):(ie f s n).ok:=by
 unfold ie;cases zlG f (s.1.getD n default) (s.2.getD n N);·exact h
 ·exact⟨by simpa using h.1,by simpa using h.2⟩
theorem Gp(f:JX):(if N=J then if 1024>f.til then 1024 else f.til else if 1024<f.til then 1024 else f.til)=C8 f:=by unfold C8;grind
theorem va_cw{kk ks ko d5:Int}{fs:bv}{rs:bY}{JY b0:AT}{some s0:Bv}{f f0:JX}{x:Int}(hx:0<=x)(ho:VS.ok (JY,some)):CW S5 mX (vaH kk ks ko d5 fs rs b0 s0 .ready (ziT f0)) true (.loop (sub TV 1)) (vaS kk ks ko d5 fs rs JY some f x) (.exit 2) {t:=Bn 63 0 [],h:=vaH kk ks ko d5 fs rs (Ka f x (JY,some)).1 (Ka f x (JY,some)).2 .busy (zbg f),m:=[]}:=by
 have hx':((x.toNat:Nat):Int)=x:=by omega
 have hh:C8 f<=1024:=by unfold C8;split<;>omega
 have:=UR (P:=S5) (Γ:=mX) (h0:=vaH kk ks ko d5 fs rs b0 s0 .ready (ziT f0)) (rd:=true) (c:=sub TV 1) (σ:=VS) (ρ:=Empty) (List.range' x.toNat (C8 f-x).toNat) (λn s=>.inl (ie f s n))
  (λi s=>vaS kk ks ko d5 fs rs s.1 s.2 f (x+(i:Int))) (.exit 2) (λs=>{t:=Bn 63 0 [],h:=vaH kk ks ko d5 fs rs s.1 s.2 .busy (zbg f),m:=[]}) (λr=>r.elim)
  (λ_ s=>s.ok) (by simp) (λr=>r.elim) ?_ ?_ (JY,some) ho
 ·rw[aM (λs n=>ie f s n)] at this;grind [bf,Ka]
 ·intro i n s hn hs;obtain⟨hi,he⟩:=Td.1 hn;simp only[List.length_range'] at hi;simp at he;have xD:(n:Int)<C8 f:=by omega
  have hb:s.1[n]? = .some (s.1.getD n default):=by rw[Th,TH (by rw[hs.1];omega)];rfl
  have hc:s.2[n]? = .some (s.2.getD n false):=by rw[Th,TH (by rw[hs.2];omega)];rfl
  refine⟨λs' h=>by cases h;exact zmn n hs,?_⟩;have key:=va_b (kk:=kk) (ks:=ks) (ko:=ko) (d5:=d5) (fs:=fs) (rs:=rs) (b0:=b0) (s0:=s0) (f:=f) (f0:=f0) hb hc (by simp[Φ];omega) (by grind [Gp]);rw[wrap_i64 (by omega) (by omega)] at key;have e1:x+(i:Int)=(n:Int):=by omega
  have e2:x+((i+1:Nat):Int)=(n:Int)+1:=by omega
  simp only[ai,e1,e2];unfold ie;grind
 ·intro s _;refine va_l ?_;grind [Gp]
theorem PX{kk ks ko d5:Int}{fs:bv}{rs:bY}{JY:AT}{G:Bv}(ho:VS.ok (JY,G)){f:JX}:(CW S5 mX (vaH kk ks ko d5 fs rs JY G ζ (ziT f)) J (ak (sub TV 0)) {t:=vaU,h:=vaH kk ks ko d5 fs rs JY G zfB (zbg f),m:=[]} NO {t:=Bn 63 0 [],h:=vaH kk ks ko d5 fs rs (Ka f (if J=J then if f.uR>0 then f.uR else 0 else if f.uR<0 then f.uR else 0) (JY,G)).1 (Ka f (if J=J then if f.uR>0 then f.uR else 0 else if f.uR<0 then f.uR else 0) (JY,G)).2 zfB (zbg f),m:=[]}):=by have Pq:=(@va_cw (kk) (ks) (ko) (d5) (fs) (rs) (JY) (JY) (G) (G) (f) (f) (if J=J then if f.uR>0 then f.uR else 0 else if f.uR<0 then f.uR else 0) uU (ho));exact yx zbN [.s [6,7,8,9,10] Pq]
end Go.Vi
