/- A part of the proof; no conditions of its own. -/
import Derived.Test.YtgalafpinkflfaaGreatDoorW1
open Bool renaming true->J,false->N
open Option renaming some->G,none->Y
open Go.Vi.η renaming st->E6,ov->zfG,inl->Τ,val->ς
open Go.Vi.D renaming Pp->uN,agg->mS,ref->gM
open Go.Vi.ql renaming var->eP,δ->NH,EZ->xx,loop->Js
open Go.LoopState renaming ready->EV,exhausted->zca,busy->Ρ
open Go.Exit renaming exit->EY,normal->w8
open Go.Vi.SOp renaming mask->IW,frz->Λ,trim->zhZ
open Go.Vi.Ref renaming ptr->qn
open Decidable renaming decide -> fE
open Go.Vi.uS renaming row -> Tb
open Go.IntKind renaming i64 -> S6, wrap -> S8
open Go.Proofs.Tryz renaming prog -> S5, f161 -> T9, f287 -> YF, f127 -> TV
open List renaming length -> S7, getElem?_eq_some_iff -> Td, mem_of_getElem? -> T6, any_cons -> XK, map -> S2, any -> XS, getElem?_eq_getElem -> TH, getD -> Th, flatten -> Tv, set -> UE
open Go.Exit renaming normal -> Tr, ret -> VM
open Go.Vi.CW renaming each -> UR
open Go.Vi.Ev renaming zkJ -> Tw, zkr -> Tp, ziv -> U7
open Go.Vi.Cls renaming row -> Uq
open Go.Vi.ν renaming row -> UG
open Go.Vi.D renaming fn -> UL, agg -> TF, Pp -> TT
open Go.Fn renaming func -> TM
open Bool renaming not_eq_true' -> UZ
open Go.LoopState renaming busy -> TX, ready -> TJ, done -> W4
open Go.Code renaming ret -> Y9
open Go.Vi.qH renaming row -> Ta
open Int renaming toNat -> S9
open Go.Vi.Dp renaming sl -> UP
open Option renaming some -> Vs
open Go Go.Proofs
namespace Go.Vi
set_option maxRecDepth 100000
set_option maxHeartbeats 4000000
abbrev AT:=List qH
abbrev iN:=List uS
structure A7 where
 kind:Int
 zlP:Int
 action:Int
 Z5:Int
 deriving Inhabited
def A7.row(a:A7):dO:=[vi a.kind,vi a.zlP,vi a.action,vi a.Z5]
def xaF(p:uS->Bool)(c:uS)(s:Nat):Nat⊕Nat:=if p c=true then .inr s else .inl (s+1)
abbrev zby(a:bv)(b:D)(c:Int)(d:aT):AS:={t:=qm 19 0 [(0,ab a),(1,b),(4,eO 0),(7,eO a.length),(8,eO c)],h:=d,m:=[]}
abbrev xaS(fs:bv)(f:D)(h:aT)(i:Int):AS:=(zby fs f i h)
abbrev xaX(h:aT):Nat->Exit×AS:=λk=>(.ret,{t:=qm 19 0 [(4,eO (k:Int))],h:=h,m:=[]})
abbrev zaS(a:Nat):D:=eO (↑a:Int)
abbrev zcg:Do:=[E6 (IW [4])]
abbrev zdS:Do:=[E6 (IW [0,1,4,7,8])]
theorem Pw{fs:List (List Dp)}{i:Nat}{c:uS}{f:D}{h:List ql}{p:uS->Bool}(hr:ao (i:Int) fs (Tb c) 5)(oA:fE ((i:Int)<(fs.length:Int))=true)(hw:S6.wrap ((i:Int)+1)=((i+1:Nat):Int))(hi:Iv S5 ji f [ag (Tb c)] h (eR (p c)) h):(CW S5 ji h false (sub Tryz.f274 0) (xaS fs f h i) (ai (λ_=>xaS fs f h ((i+1:Nat):Int)) (xaX h) (xaF p c i)).1 (ai (λ_=>xaS fs f h ((i+1:Nat):Int)) (xaX h) (xaF p c i)).2):=by
 cases sR:p c
 ·refine yX {t:=qm 19 0 [(0,ab fs),(1,f),(4,eO 0),(7,eO (↑(S7 fs):Int)),(8,eO (S8 S6 ((↑i:Int)+1)))],h:=h,m:=[]} Tr [.st (.mask [0,1,4,7,8])] [.b oA,.r hr,.i (@hi),.b sR] ?_ ?_<;>(simp[xaF,ai,hw, *])
 ·refine yX {t:=qm 19 0 [(4,eO (↑i:Int))],h:=h,m:=[]} VM [.st (.mask [4])] [.b oA,.r hr,.i (@hi),.b sR] ?_ ?_<;>(simp[xaF,ai,hw, *])
abbrev zbt(a:aT):AS:={t:=qm 19 0 [(4,eO 0)],h:=a,m:=[]}
theorem Px{fs:bv}{i:Nat}{f:D}{h:aT}(oA:fE ((i:Int)<(fs.length:Int))=N):(CW S5 ji h N (sub Tryz.f274 0) (xaS fs f h i) (EY 0) (zbt h)):=yx zcg [.b oA]
def xaR(p:uS->Bool)(l:iN):Int:=match xz (xaF p) l 0 with | .inl _=> -1 | .inr k=>(k:Int)
def Py(h:aT)(p:uS->Bool)(l:iN):Exit×AS:=bf (EY 0) (λ_:Nat=>(zbt h)) (xaX h) (xz (xaF p) l 0)
theorem xa_cw{l:iN}(hl:ah l){f:D}{h:aT}{p:uS->Bool}(hf:∀c∈l,Iv S5 ji f [ag (Tb c)] h (eR (p c)) h):CW S5 ji h false (.loop (sub Tryz.f274 0)) (xaS (l.map Tb) f h 0) (Py h p l).1 (Py h p l).2:=by
 refine UR l (xaF p) (λi _=>xaS (l.map Tb) f h (i:Int)) (.exit 0) _ (xaX h) (λi s=>s=i) (by simp) (λ_=>by simp) ?_ ?_ 0 rfl;·intro i c s hc hs;subst hs;have hi:=(Td.1 hc).1;refine⟨λs' h=>?_,Pw (rowAt hc rfl) (F1 Tb hi) (sV hi hl) (hf c (T6 hc))⟩;grind [xaF]
 ·intro s hs;exact Px (aR Tb l)
theorem xai_ev{l:iN}(hl:ah l){f:D}{h:aT}{p:uS->Bool}(hf:∀c∈l,Iv S5 ji f [ag (Tb c)] h (eR (p c)) h):(Ev S5 ji 274 [ab (l.map Tb),f] h (eO (xaR p l)) h):=by
 have xd:=(@xa_cw (l) (hl) (f) (h) (p) (hf));unfold Py at xd;revert xd;cases ho1:xz (xaF p) l 0 with
 |inl Fa=>intro xd;exact Tw (yF (h':=h) (d:=eO (-1)) [.s [0,1,4,7,8] xd]) (by simp[xaR,ho1]) (by simp[xaR,ho1])
 |inr Α=>intro xd;exact Tw (yF (h':=h) (d:=(zaS Α)) [.s [0,1,4,7,8] xd]) (by simp[xaR,ho1]) (by simp[xaR,ho1])
theorem xa_any(p:uS->Bool)(l:iN):∀k:Nat,(match xz (xaF p) l k with | .inl _=>N | .inr _=>J)=l.any p:=by
 induction l with
 |nil=>intro k;rfl
 |cons f l ih=>
  intro k;rw[XK];cases hf:p f;·simp[xz,xaF,hf];exact ih (k+1)
  ·simp[xz,xaF,hf]
theorem xaR_ge(p:uS->Bool)(l:iN):fE (xaR p l>=0)=l.any p:=by rw[<-xa_any p l 0,xaR];split<;>simp
theorem Ma{l:iN}(hl:ah l){f:D}{h:aT}{p:uS->Bool}(hf:∀c∈l,Iv S5 ji f [ag (Tb c)] h (eR (p c)) h):(Ev S5 ji 200 [ab (l.map Tb),f] h (eR (l.any p)) h):=Tw (yF (h':=h) (d:=eR (fE (xaR p l>=0))) [.v (@xai_ev l hl f h p hf)]) (by grind [xaR_ge]) mW
def xcF(p:Cls->Bool)(c:Cls)(s:Nat):Nat⊕Nat:=if p c=true then .inr s else .inl (s+1)
abbrev xcS(fs:bv)(f:D)(h:aT)(i:Int):AS:=(zby fs f i h)
abbrev xcX(h:aT):Nat->Exit×AS:=λk=>(.ret,{t:=qm 19 0 [(4,eO (k:Int))],h:=h,m:=[]})
theorem Pz{fs:List (List Dp)}{i:Nat}{c:Cls}{f:D}{h:List ql}{p:Cls->Bool}(hr:ao (i:Int) fs (Uq c) 4)(oA:fE ((i:Int)<(fs.length:Int))=true)(hw:S6.wrap ((i:Int)+1)=((i+1:Nat):Int))(hi:Iv S5 ji f [ag (Uq c)] h (eR (p c)) h):(CW S5 ji h false (sub Tryz.f331 0) (xcS fs f h i) (ai (λ_=>xcS fs f h ((i+1:Nat):Int)) (xcX h) (xcF p c i)).1 (ai (λ_=>xcS fs f h ((i+1:Nat):Int)) (xcX h) (xcF p c i)).2):=by
 cases sR:p c
 ·refine yX {t:=qm 19 0 [(0,ab fs),(1,f),(4,eO 0),(7,eO (↑(S7 fs):Int)),(8,eO (S8 S6 ((↑i:Int)+1)))],h:=h,m:=[]} Tr [.st (.mask [0,1,4,7,8])] [.b oA,.r hr,.i (@hi),.b sR] ?_ ?_<;>(simp[xcF,ai,hw, *])
 ·refine yX {t:=qm 19 0 [(4,eO (↑i:Int))],h:=h,m:=[]} VM [.st (.mask [4])] [.b oA,.r hr,.i (@hi),.b sR] ?_ ?_<;>(simp[xcF,ai,hw, *])
theorem PA{fs:bv}{i:Nat}{f:D}{h:aT}(oA:fE ((i:Int)<(fs.length:Int))=N):(CW S5 ji h N (sub Tryz.f331 0) (xcS fs f h i) (EY 0) (zbt h)):=yx zcg [.b oA]
def xcR(p:Cls->Bool)(l:List Cls):Int:=match xz (xcF p) l 0 with | .inl _=> -1 | .inr k=>(k:Int)
def PB(h:aT)(p:Cls->Bool)(l:List Cls):Exit×AS:=bf (EY 0) (λ_:Nat=>(zbt h)) (xcX h) (xz (xcF p) l 0)
theorem xc_cw{l:List Cls}(hl:ah l){f:D}{h:aT}{p:Cls->Bool}(hf:∀c∈l,Iv S5 ji f [ag (Uq c)] h (eR (p c)) h):CW S5 ji h false (.loop (sub Tryz.f331 0)) (xcS (l.map Uq) f h 0) (PB h p l).1 (PB h p l).2:=by
 refine UR l (xcF p) (λi _=>xcS (l.map Uq) f h (i:Int)) (.exit 0) _ (xcX h) (λi s=>s=i) (by simp) (λ_=>by simp) ?_ ?_ 0 rfl;·intro i c s hc hs;subst hs;have hi:=(Td.1 hc).1;refine⟨λs' h=>?_,Pz (rowAt hc rfl) (F1 Uq hi) (sV hi hl) (hf c (T6 hc))⟩;grind [xcF]
 ·intro s hs;exact PA (aR Uq l)
theorem xci_ev{l:List Cls}(hl:ah l){f:D}{h:aT}{p:Cls->Bool}(hf:∀c∈l,Iv S5 ji f [ag (Uq c)] h (eR (p c)) h):(Ev S5 ji 331 [ab (l.map Uq),f] h (eO (xcR p l)) h):=by
 have xd:=(@xc_cw (l) (hl) (f) (h) (p) (hf));unfold PB at xd;revert xd;cases ho1:xz (xcF p) l 0 with
 |inl Fa=>intro xd;exact Tw (yF (h':=h) (d:=eO (-1)) [.s [0,1,4,7,8] xd]) (by simp[xcR,ho1]) (by simp[xcR,ho1])
 |inr Α=>intro xd;exact Tw (yF (h':=h) (d:=(zaS Α)) [.s [0,1,4,7,8] xd]) (by simp[xcR,ho1]) (by simp[xcR,ho1])
theorem xc_any(p:Cls->Bool)(l:List Cls):∀k:Nat,(match xz (xcF p) l k with | .inl _=>N | .inr _=>J)=l.any p:=by
 induction l with
 |nil=>intro k;rfl
 |cons f l ih=>
  intro k;rw[XK];cases hf:p f;·simp[xz,xcF,hf];exact ih (k+1)
  ·simp[xz,xcF,hf]
theorem xcR_ge(p:Cls->Bool)(l:List Cls):fE (xcR p l>=0)=l.any p:=by rw[<-xc_any p l 0,xcR];split<;>simp
theorem xcc_ev{l:List Cls}(hl:ah l){f:D}{h:aT}{p:Cls->Bool}(hf:∀c∈l,Iv S5 ji f [ag (Uq c)] h (eR (p c)) h):(Ev S5 ji 315 [ab (l.map Uq),f] h (eR (l.any p)) h):=Tw (yF (h':=h) (d:=eR (fE (xcR p l>=0))) [.v (@xci_ev l hl f h p hf)]) (by grind [xcR_ge]) mW
def xfF(p:ν->Bool)(c:ν)(s:Nat):Nat⊕Nat:=if p c=true then .inr s else .inl (s+1)
abbrev xfS(fs:bv)(f:D)(h:aT)(i:Int):AS:=(zby fs f i h)
abbrev xfX(h:aT):Nat->Exit×AS:=λk=>(.ret,{t:=qm 19 0 [(4,eO (k:Int))],h:=h,m:=[]})
theorem PC{fs:List (List Dp)}{i:Nat}{c:ν}{f:D}{h:List ql}{p:ν->Bool}(hr:ao (i:Int) fs (UG c) 2)(oA:fE ((i:Int)<(fs.length:Int))=true)(hw:S6.wrap ((i:Int)+1)=((i+1:Nat):Int))(hi:Iv S5 ji f [ag (UG c)] h (eR (p c)) h):(CW S5 ji h false (sub Tryz.f332 0) (xfS fs f h i) (ai (λ_=>xfS fs f h ((i+1:Nat):Int)) (xfX h) (xfF p c i)).1 (ai (λ_=>xfS fs f h ((i+1:Nat):Int)) (xfX h) (xfF p c i)).2):=by
 cases sR:p c
 ·refine yX {t:=qm 19 0 [(0,ab fs),(1,f),(4,eO 0),(7,eO (↑(S7 fs):Int)),(8,eO (S8 S6 ((↑i:Int)+1)))],h:=h,m:=[]} Tr [.st (.mask [0,1,4,7,8])] [.b oA,.r hr,.i (@hi),.b sR] ?_ ?_<;>(simp[xfF,ai,hw, *])
 ·refine yX {t:=qm 19 0 [(4,eO (↑i:Int))],h:=h,m:=[]} VM [.st (.mask [4])] [.b oA,.r hr,.i (@hi),.b sR] ?_ ?_<;>(simp[xfF,ai,hw, *])
theorem PD{fs:bv}{i:Nat}{f:D}{h:aT}(oA:fE ((i:Int)<(fs.length:Int))=N):(CW S5 ji h N (sub Tryz.f332 0) (xfS fs f h i) (EY 0) (zbt h)):=yx zcg [.b oA]
def xfR(p:ν->Bool)(l:List ν):Int:=match xz (xfF p) l 0 with | .inl _=> -1 | .inr k=>(k:Int)
def PE(h:aT)(p:ν->Bool)(l:List ν):Exit×AS:=bf (EY 0) (λ_:Nat=>(zbt h)) (xfX h) (xz (xfF p) l 0)
theorem xf_cw{l:List ν}(hl:ah l){f:D}{h:aT}{p:ν->Bool}(hf:∀c∈l,Iv S5 ji f [ag (UG c)] h (eR (p c)) h):CW S5 ji h false (.loop (sub Tryz.f332 0)) (xfS (l.map UG) f h 0) (PE h p l).1 (PE h p l).2:=by
 refine UR l (xfF p) (λi _=>xfS (l.map UG) f h (i:Int)) (.exit 0) _ (xfX h) (λi s=>s=i) (by simp) (λ_=>by simp) ?_ ?_ 0 rfl;·intro i c s hc hs;subst hs;have hi:=(Td.1 hc).1;refine⟨λs' h=>?_,PC (rowAt hc rfl) (F1 UG hi) (sV hi hl) (hf c (T6 hc))⟩;grind [xfF]
 ·intro s hs;exact PD (aR UG l)
theorem xfi_ev{l:List ν}(hl:ah l){f:D}{h:aT}{p:ν->Bool}(hf:∀c∈l,Iv S5 ji f [ag (UG c)] h (eR (p c)) h):(Ev S5 ji 332 [ab (l.map UG),f] h (eO (xfR p l)) h):=by
 have xd:=(@xf_cw (l) (hl) (f) (h) (p) (hf));unfold PE at xd;revert xd;cases ho1:xz (xfF p) l 0 with
 |inl Fa=>intro xd;exact Tw (yF (h':=h) (d:=eO (-1)) [.s [0,1,4,7,8] xd]) (by simp[xfR,ho1]) (by simp[xfR,ho1])
 |inr Α=>intro xd;exact Tw (yF (h':=h) (d:=(zaS Α)) [.s [0,1,4,7,8] xd]) (by simp[xfR,ho1]) (by simp[xfR,ho1])
theorem xf_any(p:ν->Bool)(l:List ν):∀k:Nat,(match xz (xfF p) l k with | .inl _=>N | .inr _=>J)=l.any p:=by
 induction l with
 |nil=>intro k;rfl
 |cons f l ih=>
  intro k;rw[XK];cases hf:p f;·simp[xz,xfF,hf];exact ih (k+1)
  ·simp[xz,xfF,hf]
theorem xfR_ge(p:ν->Bool)(l:List ν):fE (xfR p l>=0)=l.any p:=by rw[<-xf_any p l 0,xfR];split<;>simp
theorem xfc_ev{l:List ν}(hl:ah l){f:D}{h:aT}{p:ν->Bool}(hf:∀c∈l,Iv S5 ji f [ag (UG c)] h (eR (p c)) h):(Ev S5 ji 317 [ab (l.map UG),f] h (eR (l.any p)) h):=Tw (yF (h':=h) (d:=eR (fE (xfR p l>=0))) [.v (@xfi_ev l hl f h p hf)]) (by grind [xfR_ge]) mW
def xlF(p:A7->Bool)(c:A7)(s:Nat):Nat⊕Nat:=if p c=true then .inr s else .inl (s+1)
abbrev xlS(fs:bv)(f:D)(h:aT)(i:Int):AS:=(zby fs f i h)
abbrev xlX(h:aT):Nat->Exit×AS:=λk=>(.ret,{t:=qm 19 0 [(4,eO (k:Int))],h:=h,m:=[]})
abbrev zgE(a:A7):D:=ag (A7.row a)
theorem PF{fs:List (List Dp)}{i:Nat}{c:A7}{f:D}{h:List ql}{p:A7->Bool}(hr:ao (i:Int) fs (A7.row c) 4)(oA:fE ((i:Int)<(fs.length:Int))=true)(hw:S6.wrap ((i:Int)+1)=((i+1:Nat):Int))(hi:Iv S5 ji f [ag (A7.row c)] h (eR (p c)) h):(CW S5 ji h false (sub Tryz.f333 0) (xlS fs f h i) (ai (λ_=>xlS fs f h ((i+1:Nat):Int)) (xlX h) (xlF p c i)).1 (ai (λ_=>xlS fs f h ((i+1:Nat):Int)) (xlX h) (xlF p c i)).2):=by
 cases sR:p c
 ·refine yX {t:=qm 19 0 [(0,ab fs),(1,f),(4,eO 0),(7,eO (↑(S7 fs):Int)),(8,eO (S8 S6 ((↑i:Int)+1)))],h:=h,m:=[]} Tr [.st (.mask [0,1,4,7,8])] [.b oA,.r hr,.i (@hi),.b sR] ?_ ?_<;>(simp[xlF,ai,hw, *])
 ·refine yX {t:=qm 19 0 [(4,eO (↑i:Int))],h:=h,m:=[]} VM [.st (.mask [4])] [.b oA,.r hr,.i (@hi),.b sR] ?_ ?_<;>(simp[xlF,ai,hw, *])
theorem PG{fs:bv}{i:Nat}{f:D}{h:aT}(oA:fE ((i:Int)<(fs.length:Int))=N):(CW S5 ji h N (sub Tryz.f333 0) (xlS fs f h i) (EY 0) (zbt h)):=yx zcg [.b oA]
def xlR(p:A7->Bool)(l:List A7):Int:=match xz (xlF p) l 0 with | .inl _=> -1 | .inr k=>(k:Int)
def PH(h:aT)(p:A7->Bool)(l:List A7):Exit×AS:=bf (EY 0) (λ_:Nat=>(zbt h)) (xlX h) (xz (xlF p) l 0)
theorem xl_cw{l:List A7}(hl:ah l){f:D}{h:aT}{p:A7->Bool}(hf:∀c∈l,Iv S5 ji f [(zgE c)] h (eR (p c)) h):CW S5 ji h false (.loop (sub Tryz.f333 0)) (xlS (l.map A7.row) f h 0) (PH h p l).1 (PH h p l).2:=by
 refine UR l (xlF p) (λi _=>xlS (l.map A7.row) f h (i:Int)) (.exit 0) _ (xlX h) (λi s=>s=i) (by simp) (λ_=>by simp) ?_ ?_ 0 rfl;·intro i c s hc hs;subst hs;have hi:=(Td.1 hc).1;refine⟨λs' h=>?_,PF (rowAt hc rfl) (F1 A7.row hi) (sV hi hl) (hf c (T6 hc))⟩;grind [xlF]
 ·intro s hs;exact PG (aR A7.row l)
theorem xli_ev{l:List A7}(hl:ah l){f:D}{h:aT}{p:A7->Bool}(hf:∀c∈l,Iv S5 ji f [(zgE c)] h (eR (p c)) h):(Ev S5 ji 333 [ab (l.map A7.row),f] h (eO (xlR p l)) h):=by
 have xd:=(@xl_cw (l) (hl) (f) (h) (p) (hf));unfold PH at xd;revert xd;cases ho1:xz (xlF p) l 0 with
 |inl Fa=>intro xd;exact Tw (yF (h':=h) (d:=eO (-1)) [.s [0,1,4,7,8] xd]) (by simp[xlR,ho1]) (by simp[xlR,ho1])
 |inr Α=>intro xd;exact Tw (yF (h':=h) (d:=(zaS Α)) [.s [0,1,4,7,8] xd]) (by simp[xlR,ho1]) (by simp[xlR,ho1])
theorem xl_any(p:A7->Bool)(l:List A7):∀k:Nat,(match xz (xlF p) l k with | .inl _=>N | .inr _=>J)=l.any p:=by
 induction l with
 |nil=>intro k;rfl
 |cons f l ih=>
  intro k;rw[XK];cases hf:p f;·simp[xz,xlF,hf];exact ih (k+1)
  ·simp[xz,xlF,hf]
theorem xlR_ge(p:A7->Bool)(l:List A7):fE (xlR p l>=0)=l.any p:=by rw[<-xl_any p l 0,xlR];split<;>simp
theorem xlc_ev{l:List A7}(hl:ah l){f:D}{h:aT}{p:A7->Bool}(hf:∀c∈l,Iv S5 ji f [(zgE c)] h (eR (p c)) h):(Ev S5 ji 319 [ab (l.map A7.row),f] h (eR (l.any p)) h):=Tw (yF (h':=h) (d:=eR (fE (xlR p l>=0))) [.v (@xli_ev l hl f h p hf)]) (by grind [xlR_ge]) mW
def Bo(c:Cls):Bool:=κ c.CE 0 10000&&(ex c.num c.den==0&&κ c.num 0 (S6.wrap (12*c.den)))
theorem Bp{a b:Int}(ha:Pu a)(hb:Pu b)(h:aT):(Ev S5 ji 172 (zfD a b) h (eR (ex a b==0&&κ a 0 (S6.wrap (12*b)))) h):=y0 [.v (@dF a b ha hb (zcZ a b)),.w (ex a b==0) (@bD a 0 (S8 S6 (12*b)) (zcZ a b))] h
abbrev zgo(a:Cls):bY:=[am a.name,eO a.CE,eO a.num,eO a.den]
theorem PI{c:Cls}(hc:c.ok)(h:aT):(Ev S5 ji 276 [ag c.row] h (eR (Bo c)) h):=by refine y0 [.v (@bD (c.CE) 0 10000 ([eP (zgo c)])),.w (fE (c.CE>=0)&&fE (c.CE<=10000)) (@Bp (c.num) (c.den) ?_ ?_ ([eP (zgo c)]))] h<;>(first|exact hc.2.1|exact hc.2.2)
def uV(c:ν):Bool:=κ c.ia 0 10000
theorem PJ{c:ν}(h:aT):(Ev S5 ji 277 [ag c.row] h (eR (uV c)) h):=y0 [.v (@bD (c.ia) 0 10000 ([eP [am c.name,eO c.ia]]))] h
def Mb(c:A7):Bool:=κ c.kind 1 5&&κ c.zlP 0 2&&κ c.action 1 3&&κ c.Z5 0 12
theorem bcl_ev{c:A7}(h:aT):(Ev S5 ji 278 [ag c.row] h (eR (Mb c)) h):=by let v0:aT:=[eP (zaL c.kind c.zlP c.action c.Z5)];exact y0 [.v (@bD (c.kind) 1 5 (v0)),.w (fE (c.kind>=1)&&fE (c.kind<=5)) (@bD (c.zlP) 0 2 (v0)),.w (fE (c.kind>=1)&&fE (c.kind<=5)&&(fE (c.zlP>=0)&&fE (c.zlP<=2))) (@bD (c.action) 1 3 (v0)),.w (zb2 c.kind 1 5 c.zlP 0 2 c.action 3) (@bD (c.Z5) 0 12 (v0))] h
noncomputable abbrev xG(c:Cls):aT:=[eP [fq 276],eP (zgo c)]
abbrev zgt:aT:=[eP [fnv 276]]
theorem F4{c:Cls}(hc:c.ok):(Ev S5 ji 316 [ag (Uq c),gM (qn 0 0)] zgt (eR (!Bo c)) zgt):=Tw (yT (h':=[eP [fq 276]]) (d:=eR !Bo c) [.v (@PI c hc (xG c))]) Fb Fb
abbrev ziP(a:FuncId):D:=(.fn (.func a) [] za8)
theorem xI{l:List Cls}(ha:∀c∈l,c.ok):∀c∈l,Iv S5 ji (ziP 316) [ag (Uq c)] zgt (eR (!Bo c)) zgt:=λc hm=>Iv.of τ rfl Z (F4 (ha c hm))
noncomputable abbrev xJ:aT:=[eP [fq 276]]
theorem xK{l:List Cls}(hl:ah l)(ha:∀c∈l,c.ok)(hf:∀c∈l,Iv S5 ji (ziP 316) [ag (Uq c)] zgt (eR (!Bo c)) zgt)(h:aT):(Ev S5 ji 279 [ab (l.map Uq),fnv 276] h (eR (!l.any λc=>!Bo c)) h):=y0 [.v (@xcc_ev l hl (UL (TM 316) [] za8) xJ (λc=>!Bo c) hf)] h
noncomputable abbrev xL(c:ν):aT:=[eP [fq 277],eP [am c.name,eO c.ia]]
abbrev zgu:aT:=[eP [fnv 277]]
theorem F5{c:ν}:(Ev S5 ji 318 [ag (UG c),gM (qn 0 0)] zgu (eR (!uV c)) zgu):=Tw (yT (h':=[eP [fq 277]]) (d:=eR !uV c) [.v (@PJ c (xL c))]) Fb Fb
theorem F6{l:List ν}:∀c∈l,Iv S5 ji (ziP 318) [ag (UG c)] zgu (eR (!uV c)) zgu:=λc hm=>Iv.of τ rfl Z (F5 )
noncomputable abbrev xM:aT:=[eP [fq 277]]
theorem F7{l:List ν}(hl:ah l)(hf:∀c∈l,Iv S5 ji (ziP 318) [ag (UG c)] zgu (eR (!uV c)) zgu)(h:aT):(Ev S5 ji 280 [ab (l.map UG),fnv 277] h (eR (!l.any λc=>!uV c)) h):=y0 [.v (@xfc_ev l hl (UL (TM 318) [] za8) xM (λc=>!uV c) hf)] h
noncomputable abbrev xN(c:A7):aT:=[eP [fq 278],eP (zaL c.kind c.zlP c.action c.Z5)]
abbrev zgv:aT:=[eP [fnv 278]]
theorem F8{c:A7}:(Ev S5 ji 320 [(zgE c),gM (qn 0 0)] zgv (eR (!Mb c)) zgv):=Tw (yT (h':=[eP [fq 278]]) (d:=eR !Mb c) [.v (@bcl_ev c (xN c))]) Fb Fb
theorem F9{l:List A7}:∀c∈l,Iv S5 ji (ziP 320) [(zgE c)] zgv (eR (!Mb c)) zgv:=λc hm=>Iv.of τ rfl Z (F8 )
noncomputable abbrev xO:aT:=[eP [fq 278]]
theorem Ga{l:List A7}(hl:ah l)(hf:∀c∈l,Iv S5 ji (ziP 320) [(zgE c)] zgv (eR (!Mb c)) zgv)(h:aT):(Ev S5 ji 281 [ab (l.map A7.row),fnv 278] h (eR (!l.any λc=>!Mb c)) h):=y0 [.v (@xlc_ev l hl (UL (TM 320) [] za8) xO (λc=>!Mb c) hf)] h
structure Β where
 Pr:List Cls
 zjL:List ν
 ZO:List Cls
 clauses:List A7
 deriving Inhabited
def Β.sys(s:Β):Vi.Sys:=⟨s.Pr,s.zjL,s.ZO,s.clauses.map A7.row⟩
def Β.row(s:Β):dO:=[.sl (s.Pr.map Uq),.sl (s.zjL.map UG),.sl (s.ZO.map Uq),.sl (s.clauses.map A7.row)]
def Β.ok(s:Β):Prop:=s.sys.ok
theorem Β.ok.sl{s:Β}(h:s.ok):ah s.clauses:=by have:=h.ll;grind [ah,Β.sys]
def Gb(s:Β):Bool:=(!s.Pr.any λc=>!Bo c)&&(!s.ZO.any λc=>!Bo c)&&(!s.zjL.any λc=>!uV c)&&(!s.clauses.any λc=>!Mb c)
abbrev zcc(a:Β)(b:bv):bY:=[ab (S2 Uq a.Pr),ab (S2 UG a.zjL),ab (S2 Uq a.ZO),ab (b)]
noncomputable abbrev ed(s:Β):aT:=[eP (zcc s (S2 A7.row s.clauses))]
theorem qJ{s:Β}(hs:s.ok)(h:aT):(Ev S5 ji 208 [ag s.row] h (eR (Gb s)) h):=by refine y0 [.v (@xK (s.Pr) ?_ ?_ ?_ (ed s)),.w (!XS s.Pr λc=>!Bo c) (@xK (s.ZO) ?_ ?_ ?_ (ed s)),.w ((!XS s.Pr λc=>!Bo c)&&!XS s.ZO λc=>!Bo c) (@F7 (s.zjL) ?_ ?_ (ed s)),.w (((!XS s.Pr λc=>!Bo c)&&!XS s.ZO λc=>!Bo c)&&!XS s.zjL λc=>!uV c) (@Ga (s.clauses) ?_ ?_ (ed s))] h<;>(first|exact hs.lc|exact hs.lh|exact hs.lf|exact hs.sl|exact hs.c|exact hs.h|exact xI hs.c|exact xI hs.h|exact F6|exact F9)
abbrev kd'(a b c d:Bool)(f g:Value):dO:=[.v (.bool a),.v (.bool b),.v (.bool c),.v (.bool d),.v f,.v g]
abbrev kf'(k:Nat):Value:=.func (.func k) #[] #[]
def Gc:dO :=kd' N N N N .nilFunc .nilFunc++kd' N N N J (kf' 354) (kf' 355)++kd' N N N J (kf' 356) (kf' 357)++kd' N J N J (kf' 358) (kf' 359) ++kd' N N N J (kf' 360) (kf' 361)++kd' J J N N (kf' 362) (kf' 364)++kd' J J N N (kf' 366) (kf' 367)++kd' N J N N (kf' 368) (kf' 369) ++kd' N J J N (kf' 370) (kf' 371)++kd' J N N N (kf' 363) (kf' 372)
def lL:au:=λg=>match g with|0=>G Gc|_=>Y
theorem zG{a b:Int}(ha:Pu a)(hb:Pu b)(h:aT):(Ev S5 ji 246 (zfD a b) h (eR (ex a b==0&&fE (a>=0)&&fE (a<=S6.wrap (12*b)))) h):=y0 [.v (@dF a b ha hb (zcZ a b))] h
abbrev zam(a b:Int)(e:ByteArray)(f g:Int)(h:bv):bY:=[eO a,eO b,am e,eO f,eO g,ab h]
abbrev ruD(op c:Int)(nm:ByteArray)(n d:Int)(ks:bv):D:=mS (zam op c nm n d ks)
theorem PK{op c:Int}{nm:ByteArray}{n d:Int}{ks:bv}(h:aT):(Ev S5 ji 354 [ruD op c nm n d ks] h (eR J) h):=y0 [] h
theorem PL{op c:Int}{nm:ByteArray}{n d:Int}{ks:bv}(h:aT):(Ev S5 ji 356 [ruD op c nm n d ks] h (eR J) h):=y0 [] h
theorem PM{op c:Int}{nm:ByteArray}{n d:Int}{ks:bv}(h:aT):(Ev S5 ji 358 [ruD op c nm n d ks] h (eR (κ n 0 200)) h):=y0 [.v (@a7 n 0 200 ([eP (zam op c nm n d ks)]))] h
theorem PN{op c:Int}{nm:ByteArray}{n d:Int}{ks:bv}(h:aT):(Ev S5 ji 360 [ruD op c nm n d ks] h (eR ((ks.length:Int)==1)) h):=y0 [] h
theorem zH{op c:Int}{nm:ByteArray}{n d:Int}{ks:bv}(h:aT):(Ev S5 ji 363 [ruD op c nm n d ks] h (eR (κ c 0 4095)) h):=y0 [.v (@a7 c 0 4095 ([eP (zam op c nm n d ks)]))] h
theorem PO{op c:Int}{nm:ByteArray}{n d:Int}{ks:bv}(h:aT):(Ev S5 ji 362 [ruD op c nm n d ks] h (eR (κ c 0 4095&&κ n 0 12)) h):=y0 [.v (@zH op c nm n d ks ([eP (zam op c nm n d ks)])),.w (κ c 0 4095) (@a7 n 0 12 ([eP (zam op c nm n d ks)]))] h
theorem PP{op c:Int}{nm:ByteArray}{n d:Int}{ks:bv}(h:aT):(Ev S5 ji 366 [ruD op c nm n d ks] h (eR (κ c 0 4095&&κ n 1 100)) h):=y0 [.v (@zH op c nm n d ks ([eP (zam op c nm n d ks)])),.w (κ c 0 4095) (@a7 n 1 100 ([eP (zam op c nm n d ks)]))] h
theorem PQ{op c:Int}{nm:ByteArray}{n d:Int}{ks:bv}(h:aT):(Ev S5 ji 368 [ruD op c nm n d ks] h (eR (κ n 0 10000)) h):=y0 [.v (@a7 n 0 10000 ([eP (zam op c nm n d ks)]))] h
def C0(a b:Int):Bool:=ex a b==0&&fE (a>=0)&&fE (a<=S6.wrap (12*b))
theorem PR{op c:Int}{nm:ByteArray}{n d:Int}{ks:bv}(hn:Pu n)(hd:Pu d)(h:aT):(Ev S5 ji 370 [ruD op c nm n d ks] h (eR (C0 n d)) h):=y0 [.v (@zG n d hn hd ([eP (zam op c nm n d ks)]))] h
def aP(op c n d k:Int):Bool :=
 if (!(op==5||op==6||op==9)&&c != 0||!(op==3||op==5||op==6||op==7||op==8)&&n != 0||op != 8&&d != 0||(fE (op>=5)&&fE (op<=9))&&fE (k>0))=J then N
 else if op=1 then J else if op=2 then J else if op=3 then κ n 0 200 else if op=4 then k==1 else if op=5 then κ c 0 4095&&κ n 0 12
 else if op=6 then κ c 0 4095&&κ n 1 100 else if op=7 then κ n 0 10000 else if op=8 then C0 n d else if op=9 then κ c 0 4095 else N
abbrev zft(a:Bool)(b c:Nat):bY:=[eR N,eR a,eR N,eR J,fq b,fq c]
noncomputable abbrev xP(c:Int)(nm:ByteArray)(n:Int)(d:Int)(ks:bv):aT:=[eP (zam 1 c nm n d ks),eP (zft N 354 355)]
theorem Gd{c:Int}{nm:ByteArray}{n d:Int}{ks:bv}(h:aT):(Ev S5 lL 232 [ruD 1 c nm n d ks] h (eR (aP 1 c n d ks.length)) h):=by
 cases sR:!false&&c != 0||!false&&n != 0||!false&&d != 0||!true&&fE ((↑(S7 ks):Int)>0)
 ·exact yD (eR J) [.v (Tp (Γ':=lL) (@a7 1 1 9 ([eP (zam 1 c nm n d ks)]))),(rfl:Ps 1 10=J),.e,.b sR,.v (Tp (Γ':=lL) (@PK 1 c nm n d ks (xP c nm n d ks)))] h (by grind [aP])
 ·exact yD (eR N) [.v (Tp (Γ':=lL) (@a7 1 1 9 ([eP (zam 1 c nm n d ks)]))),(rfl:Ps 1 10=J),.e,.b sR] h (by grind [aP])
noncomputable abbrev xQ(c:Int)(nm:ByteArray)(n:Int)(d:Int)(ks:bv):aT:=[eP (zam 2 c nm n d ks),eP (zft N 356 357)]
theorem Ge{c:Int}{nm:ByteArray}{n d:Int}{ks:bv}(h:aT):(Ev S5 lL 232 [ruD 2 c nm n d ks] h (eR (aP 2 c n d ks.length)) h):=by
 cases sR:!false&&c != 0||!false&&n != 0||!false&&d != 0||!true&&fE ((↑(S7 ks):Int)>0)
 ·exact yD (eR J) [.v (Tp (Γ':=lL) (@a7 2 1 9 ([eP (zam 2 c nm n d ks)]))),(rfl:Ps 2 10=J),.e,.b sR,.v (Tp (Γ':=lL) (@PL 2 c nm n d ks (xQ c nm n d ks)))] h (by grind [aP])
 ·exact yD (eR N) [.v (Tp (Γ':=lL) (@a7 2 1 9 ([eP (zam 2 c nm n d ks)]))),(rfl:Ps 2 10=J),.e,.b sR] h (by grind [aP])
noncomputable abbrev xR(c:Int)(nm:ByteArray)(n:Int)(d:Int)(ks:bv):aT:=[eP (zam 3 c nm n d ks),eP (zft J 358 359)]
theorem Gf{c:Int}{nm:ByteArray}{n d:Int}{ks:bv}(h:aT):(Ev S5 lL 232 [ruD 3 c nm n d ks] h (eR (aP 3 c n d ks.length)) h):=by
 cases sR:!false&&c != 0||!true&&n != 0||!false&&d != 0||!true&&fE ((↑(S7 ks):Int)>0)
 ·exact yD (eR (κ n 0 200)) [.v (Tp (Γ':=lL) (@a7 3 1 9 ([eP (zam 3 c nm n d ks)]))),(rfl:Ps 3 10=J),.e,.b sR,.v (Tp (Γ':=lL) (@PM 3 c nm n d ks (xR c nm n d ks)))] h (by grind [aP])
 ·exact yD (eR N) [.v (Tp (Γ':=lL) (@a7 3 1 9 ([eP (zam 3 c nm n d ks)]))),(rfl:Ps 3 10=J),.e,.b sR] h (by grind [aP])
noncomputable abbrev xU(c:Int)(nm:ByteArray)(n:Int)(d:Int)(ks:bv):aT:=[eP (zam 4 c nm n d ks),eP (zft N 360 361)]
theorem Gg{c:Int}{nm:ByteArray}{n d:Int}{ks:bv}(h:aT):(Ev S5 lL 232 [ruD 4 c nm n d ks] h (eR (aP 4 c n d ks.length)) h):=by
 cases sR:!false&&c != 0||!false&&n != 0||!false&&d != 0||!true&&fE ((↑(S7 ks):Int)>0)
 ·exact yD (eR ((↑(S7 ks):Int)==1)) [.v (Tp (Γ':=lL) (@a7 4 1 9 ([eP (zam 4 c nm n d ks)]))),(rfl:Ps 4 10=J),.e,.b sR,.v (Tp (Γ':=lL) (@PN 4 c nm n d ks (xU c nm n d ks)))] h (by grind [aP])
 ·exact yD (eR N) [.v (Tp (Γ':=lL) (@a7 4 1 9 ([eP (zam 4 c nm n d ks)]))),(rfl:Ps 4 10=J),.e,.b sR] h (by grind [aP])
noncomputable abbrev xV(c:Int)(nm:ByteArray)(n:Int)(d:Int)(ks:bv):aT:=[eP (zam 5 c nm n d ks),eP [eR J,eR J,eR N,eR N,fq 362,fq 364]]
theorem Gh{c:Int}{nm:ByteArray}{n d:Int}{ks:bv}(h:aT):(Ev S5 lL 232 [ruD 5 c nm n d ks] h (eR (aP 5 c n d ks.length)) h):=by
 cases sR:!true&&c != 0||!true&&n != 0||!false&&d != 0||!false&&fE ((↑(S7 ks):Int)>0)
 ·exact yD (eR (κ c 0 4095&&κ n 0 12)) [.v (Tp (Γ':=lL) (@a7 5 1 9 ([eP (zam 5 c nm n d ks)]))),(rfl:Ps 5 10=J),.e,.b sR,.v (Tp (Γ':=lL) (@PO 5 c nm n d ks (xV c nm n d ks)))] h (by grind [aP])
 ·exact yD (eR N) [.v (Tp (Γ':=lL) (@a7 5 1 9 ([eP (zam 5 c nm n d ks)]))),(rfl:Ps 5 10=J),.e,.b sR] h (by grind [aP])
noncomputable abbrev xW(c:Int)(nm:ByteArray)(n:Int)(d:Int)(ks:bv):aT:=[eP (zam 6 c nm n d ks),eP [eR J,eR J,eR N,eR N,fq 366,fq 367]]
theorem Gi{c:Int}{nm:ByteArray}{n d:Int}{ks:bv}(h:aT):(Ev S5 lL 232 [ruD 6 c nm n d ks] h (eR (aP 6 c n d ks.length)) h):=by
 cases sR:!true&&c != 0||!true&&n != 0||!false&&d != 0||!false&&fE ((↑(S7 ks):Int)>0)
 ·exact yD (eR (κ c 0 4095&&κ n 1 100)) [.v (Tp (Γ':=lL) (@a7 6 1 9 ([eP (zam 6 c nm n d ks)]))),(rfl:Ps 6 10=J),.e,.b sR,.v (Tp (Γ':=lL) (@PP 6 c nm n d ks (xW c nm n d ks)))] h (by grind [aP])
 ·exact yD (eR N) [.v (Tp (Γ':=lL) (@a7 6 1 9 ([eP (zam 6 c nm n d ks)]))),(rfl:Ps 6 10=J),.e,.b sR] h (by grind [aP])
noncomputable abbrev xX(c:Int)(nm:ByteArray)(n:Int)(d:Int)(ks:bv):aT:=[eP (zam 7 c nm n d ks),eP [eR N,eR J,eR N,eR N,fq 368,fq 369]]
theorem Gj{c:Int}{nm:ByteArray}{n d:Int}{ks:bv}(h:aT):(Ev S5 lL 232 [ruD 7 c nm n d ks] h (eR (aP 7 c n d ks.length)) h):=by
 cases sR:!false&&c != 0||!true&&n != 0||!false&&d != 0||!false&&fE ((↑(S7 ks):Int)>0)
 ·exact yD (eR (κ n 0 10000)) [.v (Tp (Γ':=lL) (@a7 7 1 9 ([eP (zam 7 c nm n d ks)]))),(rfl:Ps 7 10=J),.e,.b sR,.v (Tp (Γ':=lL) (@PQ 7 c nm n d ks (xX c nm n d ks)))] h (by grind [aP])
 ·exact yD (eR N) [.v (Tp (Γ':=lL) (@a7 7 1 9 ([eP (zam 7 c nm n d ks)]))),(rfl:Ps 7 10=J),.e,.b sR] h (by grind [aP])
noncomputable abbrev xY(c:Int)(nm:ByteArray)(n:Int)(d:Int)(ks:bv):aT:=[eP (zam 8 c nm n d ks),eP [eR N,eR J,eR J,eR N,fq 370,fq 371]]
theorem Gk{c:Int}{nm:ByteArray}{n d:Int}{ks:bv}(hn:Pu n)(hd:Pu d)(h:aT):(Ev S5 lL 232 [ruD 8 c nm n d ks] h (eR (aP 8 c n d ks.length)) h):=by
 cases sR:!false&&c != 0||!true&&n != 0||!true&&d != 0||!false&&fE ((↑(S7 ks):Int)>0)
 ·exact yD (eR (C0 n d)) [.v (Tp (Γ':=lL) (@a7 8 1 9 ([eP (zam 8 c nm n d ks)]))),(rfl:Ps 8 10=J),.e,.b sR,.v (Tp (Γ':=lL) (@PR 8 c nm n d ks hn hd (xY c nm n d ks)))] h (by grind [aP])
 ·exact yD (eR N) [.v (Tp (Γ':=lL) (@a7 8 1 9 ([eP (zam 8 c nm n d ks)]))),(rfl:Ps 8 10=J),.e,.b sR] h (by grind [aP])
noncomputable abbrev xZ(c:Int)(nm:ByteArray)(n:Int)(d:Int)(ks:bv):aT:=[eP (zam 9 c nm n d ks),eP [eR J,eR N,eR N,eR N,fq 363,fq 372]]
theorem Gl{c:Int}{nm:ByteArray}{n d:Int}{ks:bv}(h:aT):(Ev S5 lL 232 [ruD 9 c nm n d ks] h (eR (aP 9 c n d ks.length)) h):=by
 cases sR:!true&&c != 0||!false&&n != 0||!false&&d != 0||!false&&fE ((↑(S7 ks):Int)>0)
 ·exact yD (eR (κ c 0 4095)) [.v (Tp (Γ':=lL) (@a7 9 1 9 ([eP (zam 9 c nm n d ks)]))),(rfl:Ps 9 10=J),.e,.b sR,.v (Tp (Γ':=lL) (@zH 9 c nm n d ks (xZ c nm n d ks)))] h (by grind [aP])
 ·exact yD (eR N) [.v (Tp (Γ':=lL) (@a7 9 1 9 ([eP (zam 9 c nm n d ks)]))),(rfl:Ps 9 10=J),.e,.b sR] h (by grind [aP])
theorem Gm{op c:Int}{nm:ByteArray}{n d:Int}{ks:bv}(ho:(!(fE (op>=1)&&fE (op<=9)))=J)(h:aT):(Ev S5 lL 232 [ruD op c nm n d ks] h (eR N) h):=y0 [.v (Tp (Γ':=lL) (@a7 op 1 9 ([eP (zam op c nm n d ks)]))),.b ho] h
theorem x8{op c:Int}{nm:ByteArray}{n d:Int}{ks:bv}(hn:Pu n)(hd:Pu d)(h:aT):Ev S5 lL 232 [ruD op c nm n d ks] h (eR (aP op c n d ks.length)) h:=by
 by_cases ho:(!(fE (op>=1)&&fE (op<=9)))=J
 ·have:=Gm (op:=op) (c:=c) (nm:=nm) (n:=n) (d:=d) (ks:=ks) ho h;have e:aP op c n d ks.length=N:=by
   simp only[UZ,Bool.and_eq_false_iff,decide_eq_false_iff_not] at ho;unfold aP;split;·rfl
   ·grind
  grind
 ·have:op=1\/op=2\/op=3\/op=4\/op=5\/op=6\/op=7\/op=8\/op=9:=by simp only[UZ,Bool.not_eq_false,Bool.and_eq_true,decide_eq_true_eq] at ho;omega
  rcases this with rfl|rfl|rfl|rfl|rfl|rfl|rfl|rfl|rfl;·exact Gd h
  ·exact Ge h
  ·exact Gf h
  ·exact Gg h
  ·exact Gh h
  ·exact Gi h
  ·exact Gj h
  ·exact Gk hn hd h
  ·exact Gl h
inductive oz where
 |mk (op f7:Int) (name:ByteArray) (n d:Int) (kids:List oz)
mutual
def oz.row:oz->dO
 |.mk op c nm n d ks=>[vi op,vi c,vs nm,vi n,vi d,.sl (fG ks)]
def fG:List oz->bv
 | []=>[]
 |k::ks=>k.row::fG ks
end
theorem dm:∀ks:List oz,fG ks=ks.map oz.row
 | []=>rfl
 |k::ks=>by simp[fG,dm ks]
mutual
def oz.ok:oz->Prop
 |.mk op c _ n d ks=>(Pu op/\Pu c/\Pu n/\Pu d/\ah ks)/\gP ks
def gP:List oz->Prop
 | []=>True
 |k::ks=>k.ok/\gP ks
end
theorem qK:∀{ks:List oz},gP ks->∀k∈ks,k.ok
 | [],_,k,hk=>by simp at hk
 |a::ks,h,k,hk=>by
  simp[gP] at h;rcases List.mem_cons.1 hk with rfl|hk
  ·exact h.1
  ·exact qK h.2 k hk
structure RuF where
 op:Int
 c:Int
 nm:ByteArray
 n:Int
 d:Int
 ks:bv
def RuF.row(x:RuF):dO:=[vi x.op,vi x.c,vs x.nm,vi x.n,vi x.d,.sl x.ks]
abbrev zak(a:RuF):bY:=[eO a.op,eO a.c,am a.nm,eO a.n,eO a.d,ab a.ks]
def RuF.l(x:RuF):bY:=(zak x)
def RuF.formed(x:RuF):Bool:=aP x.op x.c x.n x.d x.ks.length
def RuF.ok(x:RuF):Prop:=Pu x.n/\Pu x.d
def nY(n1 dep:Int)(f:Bool):Bool:=fE (n1>200)||fE (dep>16)||!f
abbrev zhW(a b:Nat):bY:=[gM (qn a 0),gM (qn b 0)]
abbrev zbq:bY:=(zhW 4 3)
abbrev ckT:bY:=qm 23 0 [(2,gM (qn 1 0)),(zjy 3 2),(7,.fn (.func 288) [] zbq)]
abbrev zbe:bY:=(zjG 4)
noncomputable abbrev ckH(r:RuF)(e n:Int)(st:LoopState)(pe:On):aT :=[eP r.l,eP [eO e],eP [eO n],eP r.l,eP [.fn (.func 287) [] zbe],NH,Js st pe 0 ckT #[8,9] (ax (sub T9 0)) (ak (sub T9 0))]
abbrev ckU(dep:Int):bY:=qm 23 0 [(2,gM (qn 1 0)),(zjy 3 2),(4,eO dep),(5,gM (qn 8 0)),(7,.fn (.func 288) [] zbq)]
noncomputable abbrev zbl(a:RuF)(b:Int):aT:=ckH a 0 b EV Y
abbrev zb0(a:bY):aT:=[eP a,eP a]
theorem Mc{r0:RuF}{m dep:Int}{x:RuF}:(CW S5 lL ((zbl r0 m)++[eP (x.l)]) J (ax (sub T9 0)) {t:=dD ckT [(8,eO dep),(9,mS x.l)],h:=(zbl r0 m)++[eP (x.l)],m:=[]} w8 {t:=ckU dep,h:=(zbl r0 m)++(zb0 (x.l)),m:=[]}):=yx [E6 (IW [2,3,4,5,7])] []
noncomputable def rM(r0:RuF)(m1:Int)(more:aT)(b:Bool):Exit×AS:=match b with
 |true=>(.ret,{t:=qm 23 0 [],h:=ckH r0 120 m1 Ρ Y++more,m:=[]})
 |false=>(w8,{t:=qm 23 0 [],h:=ckH r0 0 m1 Ρ Y++more,m:=[]})
abbrev zhx(a:bY):bY:=(qm 23 0 [(2,gM (qn 1 0)),(zjy 3 2),(7,UL (TM 288) [] a)])
abbrev zj5:bY:=(zhx [gM (qn 4 0),gM (qn 3 0)])
abbrev zaw:bY:=zj5
abbrev zji:Array Tmp:={toList:=[8,9]}
abbrev zeJ:Array Tmp:=zji
abbrev zjS:bY:=[UL (TM 287) [] zbe]
abbrev zin:bY:=zjS
abbrev ziq(a:Int):D:=eO (S8 S6 (a+1))
noncomputable abbrev mY(r0:RuF)(m:Int)(x:RuF):aT:=[eP (zak r0),eP [eO 0],eP [(ziq m)],eP (zak r0),eP zin,NH,Js TX Y 0 zaw zeJ (ax (sub T9 0)) (ak (sub T9 0)),eP (zak x),eP (zak x)]
abbrev zev(a:Nat)(b:aT):AS:={t:=qm a 0 [],h:=b,m:=[]}
abbrev ziB:bY:=[UL (TM 287) [] (zjG 4)]
theorem PS{r0:RuF}{m dep:Int}{x:RuF}(hx:x.ok):(CW S5 lL ((zbl r0 m)++[eP (x.l)]) J (ak (sub T9 0)) {t:=ckU dep,h:=ckH r0 0 m Ρ Y++(zb0 (x.l)),m:=[]} (rM r0 (S6.wrap (m+1)) (zb0 (x.l)) (nY (S6.wrap (m+1)) dep (x.formed))).1 (rM r0 (S6.wrap (m+1)) (zb0 (x.l)) (nY (S6.wrap (m+1)) dep (x.formed))).2):=by
 cases sR:fE (S8 S6 (m+1)>200)||fE (dep>16)||!aP x.op x.c x.n x.d (↑(S7 x.ks):Int)
 ·refine yX (zev 23 (mY r0 m x)) Tr zbN [.w (!(fE (S8 S6 (m+1)>200)||fE (dep>16))) (@x8 (x.op) (x.c) (x.nm) (x.n) (x.d) (x.ks) ?_ ?_ (mY r0 m x)),.b sR] (by(have hs:nY (S6.wrap (m+1)) dep (x.formed)=N:=sR;(first|(simp[hs,rM];done)|(simp only[hs,rM];rfl)))) (by(have hs:nY (S6.wrap (m+1)) dep (x.formed)=N:=sR;(first|(simp only[hs,rM];done)|(simp only[hs,rM];rfl))))<;>(first|exact hx.1|exact hx.2)
 ·let v0:bY:=(zak r0);let v1:bY:=(zak x);refine yX {t:=qm 23 0 [],h:=[eP v0,eP [eO 120],eP [(ziq m)],eP v0,eP ziB,NH,Js TX Y 0 zj5 zji (ax (sub T9 0)) (ak (sub T9 0)),eP v1,eP v1],m:=[]} VM zbN [.w (!(fE (S8 S6 (m+1)>200)||fE (dep>16))) (@x8 (x.op) (x.c) (x.nm) (x.n) (x.d) (x.ks) ?_ ?_ (mY r0 m x)),.b sR] (by subst v0 v1;(have hs:nY (S6.wrap (m+1)) dep (x.formed)=J:=sR;(first|(simp[hs,rM];done)|(simp only[hs,rM];rfl)))) (by subst v0 v1;(have hs:nY (S6.wrap (m+1)) dep (x.formed)=J:=sR;(first|(simp only[hs,rM];done)|(simp only[hs,rM];rfl))))<;>subst v0 v1<;>(first|exact hx.1|exact hx.2)
noncomputable abbrev zeG(a:RuF)(b:Int):aT:=ckH a 120 b .done (G .ret)
noncomputable def ckSt(r0:RuF)(m1:Int)(b:Bool):aT:=match b with
 |true=>(zeG r0 m1)
 |false=>(zbl r0 m1)
theorem PT{r0:RuF}{m dep:Int}{x:RuF}(hx:x.ok):Iv S5 lL (.ref (.yl 6)) [eO dep,.agg x.l] ((zbl r0 m)++[.var (x.l)]) (eR (!nY (S6.wrap (m+1)) dep (x.formed)))
  (ckSt r0 (S6.wrap (m+1)) (nY (S6.wrap (m+1)) dep (x.formed))++(zb0 (x.l))):=by
 have hb:=PS (r0:=r0) (m:=m) (dep:=dep) hx
 cases h:nY (S6.wrap (m+1)) dep (x.formed)
 ·rw[h] at hb
  exact Iv.round (h1:=(zbl r0 m)++(zb0 (x.l))) rfl rfl Mc rfl hb rfl
 ·rw[h] at hb
  exact Iv.round (h1:=(zbl r0 m)++(zb0 (x.l))) rfl rfl Mc rfl hb rfl
mutual
def oz.walk:oz->Int->Int->Int×Bool
 |.mk op c _ n d ks,dep,m=>match nY (S6.wrap (m+1)) dep (aP op c n d ks.length) with
  |true=>(S6.wrap (m+1),J)
  |false=>zlk ks (S6.wrap (dep+1)) (S6.wrap (m+1))
def zlk:List oz->Int->Int->Int×Bool
 | [],_,m=>(m,N)
 |k::ks,dep,m=>match k.walk dep m with
  |(m',true)=>(m',J)
  |(m',false)=>zlk ks dep m'
end
abbrev wkF(dep:Int)(k:oz)(m:Int):Int⊕Int:=match k.walk dep m with
 |(m',true)=>.inr m'
 |(m',false)=>.inl m'
theorem tk(dep:Int):∀(ks:List oz) (m:Int),xz (wkF dep) ks m=match zlk ks dep m with|(m',true)=>.inr m'|(m',false)=>.inl m'
 | [],m=>by simp[xz,zlk]
 |k::ks,m=>by
  simp[xz,zlk,wkF];cases h:k.walk dep m with
  |mk m' b=>cases b with
   |true=>rfl
   |false=>exact tk dep ks m'
abbrev zfR:Nat×D:=(3,gM (qn 4 0))
abbrev zfS(a:Nat):Nat×D:=(a,eR N)
noncomputable abbrev wkS(x r0:RuF)(dep m i:Int):AS:={t:=qm 30 0 [(1,eO dep),(2,gM (.yl 6)),zfR,(zfS 7),(16,ab x.ks),(17,eO x.ks.length),(18,eO i)],h:=(zbl r0 m)++[eP (x.l)],m:=[]}
theorem J5{x r0:RuF}{dep m m0:Int}{i:Nat}{m':Int}{y:RuF}(hr:ao (i:Int) x.ks y.row 6)(oA:fE ((i:Int)<(x.ks.length:Int))=true)(hw:S6.wrap ((i:Int)+1)=((i+1:Nat):Int))
  (hk:Ev S5 lL 287 [.agg y.l,eO (S6.wrap (dep+1)),.ref (.yl 6),.ref (.ptr 4 0)] (ckH r0 0 m .ready none) (eR true) (ckH r0 0 m' .ready none)):(CW S5 lL (ckH r0 0 m0 .ready none) false (sub YF 0) (wkS x r0 dep m i) .normal (wkS x r0 dep m' ((i+1:Nat):Int))):=by
 let v0:List D:=[eO r0.op,eO r0.c,am r0.nm,eO r0.n,eO r0.d,ab r0.ks]
 let v1:List D:=[eO x.op,eO x.c,am x.nm,eO x.n,eO x.d,ab x.ks]
 let v2:List D:=[eO y.op,eO y.c,am y.nm,eO y.n,eO y.d,ab y.ks]
 let v3:List D:=[.ref (.ptr 4 0),.ref (.ptr 3 0)]
 exact yX {t:=qm 30 0 [(1,eO dep),(2,.ref (.yl 6)),(3,.ref (.ptr 4 0)),(7,eR false),(16,ab x.ks),(17,eO (↑(S7 x.ks):Int)),(18,eO (S8 S6 ((↑i:Int)+1)))],h:=[.var v0,.var [eO 0],.var [eO m'],.var v0,.var [UL (TM 287) [] [.ref (.ptr 4 0)]],.δ,.loop TJ none 0 (qm 23 0 [(2,.ref (.ptr 1 0)),(3,.ref (.ptr 2 0)),(7,UL (TM 288) [] v3)]) {toList:=[8,9]} (ax (sub T9 0)) (ak (sub T9 0)),.var v1],m:=[]} Tr [.st (.mask [1,2,3,7,16,17,18]),.st (.trim 8)] [.b oA,.r hr,.c ((fX [0,1,2,3,4,5,6] (@hk) trivial trivial):Ev S5 lL 287 [TF v2,eO (S8 S6 (dep+1)),.ref (.yl 6),.ref (.ptr 4 0)] [.var v0,.var [eO 0],.var [eO m],.var v0,.var [UL (TM 287) [] [.ref (.ptr 4 0)]],.δ,.loop TJ none 0 (qm 23 0 [(2,.ref (.ptr 1 0)),(3,.ref (.ptr 2 0)),(7,UL (TM 288) [] v3)]) {toList:=[8,9]} (ax (sub T9 0)) (ak (sub T9 0)),.var v1,.var v2] (eR true) [.var v0,.var [eO 0],.var [eO m'],.var v0,.var [UL (TM 287) [] [.ref (.ptr 4 0)]],.δ,.loop TJ none 0 (qm 23 0 [(2,.ref (.ptr 1 0)),(3,.ref (.ptr 2 0)),(7,UL (TM 288) [] v3)]) {toList:=[8,9]} (ax (sub T9 0)) (ak (sub T9 0)),.var v1,.var v2]),.e] (by subst v0 v1 v2 v3;grind) (by subst v0 v1 v2 v3;(rw[hw];rfl))
noncomputable abbrev wkX(x r0:RuF)(m:Int):Exit×AS:=(.ret,{t:=qm 30 0 [(zfS 7)],h:=(zeG r0 m)++[eP (x.l)],m:=[]})
theorem J6{x r0:RuF}{dep m m0:Int}{i:Nat}{m':Int}{y:RuF}(hr:ao (i:Int) x.ks y.row 6)(oA:fE ((i:Int)<(x.ks.length:Int))=J)(hk:Ev S5 lL 287 [mS y.l,eO (S6.wrap (dep+1)),gM (.yl 6),gM (qn 4 0)] (zbl r0 m) (eR N) (zeG r0 m')):(CW S5 lL (zbl r0 m0) N (sub YF 0) (wkS x r0 dep m i) (wkX x r0 m').1 (wkX x r0 m').2):=by let v0:bY:=(zak r0);let v1:bY:=(zak y);let v2:bY:=(zak x);exact yx (zbU [7] 8) [.b oA,.r hr,.c ((fX [0,1,2,3,4,5,6] (@hk) trivial trivial):Ev S5 lL 287 [TF v1,(ziq dep),gM (.yl 6),gM (qn 4 0)] [eP v0,eP [eO 0],eP [eO m],eP v0,eP ziB,NH,Js TJ Y 0 zj5 zji (ax (sub T9 0)) (ak (sub T9 0)),eP v2,eP v1] (eR N) [eP v0,eP [eO 120],eP [eO m'],eP v0,eP zin,NH,Js W4 (G Y9) 0 zaw zeJ (ax (sub T9 0)) (ak (sub T9 0)),eP v2,eP v1]),.e]
theorem PU{x r0:RuF}{dep m m0:Int}{i:Nat}(oA:fE ((i:Int)<(x.ks.length:Int))=N):(CW S5 lL (zbl r0 m0) N (sub YF 0) (wkS x r0 dep m i) (EY 0) {t:=qm 30 0 [(zfS 7)],h:=(zbl r0 m)++[eP (x.l)],m:=[]}):=yx (zbU [7] 8) [.b oA]
def oz.fl:oz->RuF
 |.mk op c nm n d ks=>⟨op,c,nm,n,d,fG ks⟩
theorem oz.zpZ(r:oz):r.fl.row=r.row:=by cases r;rfl
theorem oz.fl_ok{r:oz}(h:r.ok):r.fl.ok:=by cases r;simp[oz.ok] at h;exact⟨h.1.2.2.1,h.1.2.2.2.1⟩
noncomputable def wkFin(x r0:RuF)(p:Int⊕Int):Exit×AS:=bf (EY 0) (λm'=>{t:=qm 30 0 [(zfS 7)],h:=(zbl r0 m')++[eP x.l],m:=[]}) (λm'=>wkX x r0 m') p
theorem wk_cw{r0 x:RuF}{ks:List oz}(hx:x.ks=ks.map oz.row)(hl:ah ks){dep m m0:Int}(hk:∀k∈ks,∀m,Ev S5 lL 287 [.agg k.fl.l,eO (S6.wrap (dep+1)),.ref (.yl 6),.ref (.ptr 4 0)] (zbl r0 m) (eR (!(k.walk (S6.wrap (dep+1)) m).2)) (ckSt r0 (k.walk (S6.wrap (dep+1)) m).1 (k.walk (S6.wrap (dep+1)) m).2)):CW S5 lL (zbl r0 m0) false (.loop (sub YF 0)) (wkS x r0 dep m 0) (wkFin x r0 (xz (wkF (S6.wrap (dep+1))) ks m)).1 (wkFin x r0 (xz (wkF (S6.wrap (dep+1))) ks m)).2:=by
 refine UR ks (wkF (S6.wrap (dep+1))) (λi m=>wkS x r0 dep m (i:Int)) (.exit 0) _ (λm'=>wkX x r0 m') (λ_ _=>True) (by simp) (λ_=>by simp) ?_ ?_ m trivial
 ·intro i k m hki _;have hi:=(Td.1 hki).1;have hr:ao (i:Int) x.ks k.fl.row 6:=by rw[hx,k.zpZ];exact rowAt hki (by cases k;rfl)
  have oA:fE ((i:Int)<(x.ks.length:Int))=true:=by rw[hx];exact F1 _ hi
  have hev:=hk k (T6 hki) m;refine⟨λ_ _=>trivial,?_⟩;simp only[wkF];cases hw:k.walk (S6.wrap (dep+1)) m with
  | mk m' b =>
   rw[hw] at hev;cases b with
   | true=>exact J6 hr oA hev
   | false=>exact J5 hr oA (sV hi hl) hev
 ·intro m _;exact PU (by grind)
abbrev zc7(a:bY)(b:Int):bY:=[mS a,eO b,gM (.yl 6),gM (qn 4 0)]
theorem walkA{r0 x:RuF}{dep m m':Int}(hi:Iv S5 lL (gM (.yl 6)) [eO dep,mS x.l] ((zbl r0 m)++[eP x.l]) (eR N) ((zeG r0 m')++(zb0 x.l))):(Ev S5 lL 287 (zc7 x.l dep) (zbl r0 m) (eR N) (zeG r0 m')):=by let v0:bY:=(zak r0);exact Tw (yT (h':=[eP v0,eP [eO 120],eP [eO m'],eP v0,eP zjS,NH,Js W4 (G Y9) 0 zaw zeJ (ax (sub T9 0)) (ak (sub T9 0))]) (d:=eR N) [.j (@hi),.e]) Fb Fb
def J7:Int⊕Int->Int×Bool
 |.inl m=>(m,N)
 |.inr m=>(m,J)
theorem J8(dep:Int)(ks:List oz)(m:Int):J7 (xz (wkF dep) ks m)=zlk ks dep m:=by
 rw[tk];cases zlk ks dep m with
 |mk m' b=>cases b<;>rfl
theorem walkB{r0 x:RuF}{ks:List oz}(hx:x.ks=ks.map oz.row)(hl:ah ks){dep m m':Int}(hi:Iv S5 lL (gM (.yl 6)) [eO dep,mS x.l] ((zbl r0 m)++[eP x.l]) (eR J) ((zbl r0 m')++(zb0 x.l)))(hk:∀k∈ks,∀m,Ev S5 lL 287 [mS k.fl.l,eO (S6.wrap (dep+1)),gM (.yl 6),gM (qn 4 0)] (zbl r0 m) (eR (!(k.walk (S6.wrap (dep+1)) m).2)) (ckSt r0 (k.walk (S6.wrap (dep+1)) m).1 (k.walk (S6.wrap (dep+1)) m).2)):(Ev S5 lL 287 (zc7 x.l dep) (zbl r0 m) (eR (!(J7 (xz (wkF (S6.wrap (dep+1))) ks m')).2)) (ckSt r0 (J7 (xz (wkF (S6.wrap (dep+1))) ks m')).1 (J7 (xz (wkF (S6.wrap (dep+1))) ks m')).2)):=by
 have xd:=(@wk_cw (r0) (x) (ks) (hx) (hl) (dep) (m') (m) (hk));revert xd;cases ho1:xz (wkF (S8 S6 (dep+1))) ks m' with
 |inl Fa=>intro xd;let v0:bY:=(zak r0);refine Tw (yT (h':=[eP v0,eP [eO 0],eP [eO Fa],eP v0,eP zin,NH,Js TJ Y 0 zaw zeJ (ax (sub T9 0)) (ak (sub T9 0))]) (d:=eR J) [.j (@hi),.e,.o (zhZ 8),.s [1,2,3,7,16,17,18] xd]) ?_ ?_<;>subst v0<;>(rfl)
 |inr Α=>intro xd;let v0:bY:=(zak r0);refine Tw (yT (h':=[eP v0,eP [eO 120],eP [eO Α],eP v0,eP zjS,NH,Js W4 (G Y9) 0 zaw zeJ (ax (sub T9 0)) (ak (sub T9 0))]) (d:=eR N) [.j (@hi),.e,.o (zhZ 8),.s [1,2,3,7,16,17,18] xd]) ?_ ?_<;>subst v0<;>(rfl)
theorem Bq(r0:RuF):∀(r:oz),r.ok->∀(dep m:Int),Ev S5 lL 287 [.agg r.fl.l,eO dep,.ref (.yl 6),.ref (.ptr 4 0)] (ckH r0 0 m .ready none) (eR (!(r.walk dep m).2)) (ckSt r0 (r.walk dep m).1 (r.walk dep m).2)
 | .mk op c nm n d ks,hr,dep,m=>by
  have Φ:=oz.fl_ok hr
  simp[oz.ok] at hr
  have hiv:=PT (r0:=r0) (m:=m) (dep:=dep) Φ
  have hlen:((oz.mk op c nm n d ks).fl.ks.length:Int)=ks.length:=by simp[oz.fl,dm]
  have hf:(oz.mk op c nm n d ks).fl.formed=aP op c n d ks.length:=by
   show aP op c n d ((oz.mk op c nm n d ks).fl.ks.length:Int)=_
   rw[hlen]
  rw[hf] at hiv
  simp[oz.walk]
  cases hs:nY (S6.wrap (m+1)) dep (aP op c n d ks.length) with
  | true =>
   rw[hs] at hiv
   exact walkA hiv
  | false =>
   rw[hs] at hiv
   have:=walkB (r0:=r0) (x:=(oz.mk op c nm n d ks).fl) (ks:=ks) (dm ks) hr.1.2.2.2.2 (m:=m) (dep:=dep) hiv (λk hk m=>Bq r0 k (qK hr.2 k hk) _ m)
   grind [J8]
termination_by r=>SizeOf.sizeOf r
decreasing_by
 have:=List.sizeOf_lt_of_mem hk
 simp only[oz.mk.sizeOf_spec]
 omega
noncomputable abbrev uW(x:RuF)(m':Int):aT:=[eP (zak x),eP [eO 120],eP [eO m'],eP (zak x),eP zjS,NH,Js W4 (G Y9) 0 zaw zeJ (ax (sub T9 0)) (ak (sub T9 0))]
abbrev zdO(a b c:Nat):bY:=[gM (.yl a),gM (qn b 0),gM (qn c 0)]
theorem C1{x:RuF}{m':Int}(hk:Ev S5 lL 287 (zc7 x.l 1) (zbl x 0) (eR N) (zeG x m')):(Ev S5 lL 288 (zdO 6 4 3) (zbl x 0) (uN []) (zeG x m')):=Tw (yF (h':=(uW x m')) (d:=TT []) [.c (@hk)]) Fb Fb
noncomputable abbrev uX(x:RuF)(m':Int):aT:=[eP (zak x),eP [eO 0],eP [eO m'],eP (zak x),eP zin,NH,Js TJ Y 0 zaw zeJ (ax (sub T9 0)) (ak (sub T9 0))]
theorem C2{x:RuF}{m':Int}(hk:Ev S5 lL 287 (zc7 x.l 1) (zbl x 0) (eR J) (zbl x m')):(Ev S5 lL 288 (zdO 6 4 3) (zbl x 0) (uN []) (zbl x m')):=Tw (yF (h':=(uX x m')) (d:=TT []) [.c (@hk)]) Fb Fb
abbrev ckH0(r:RuF):aT:=[eP r.l,eP [eO 0],eP [eO 0],eP r.l,eP [.fn (.func 287) [] zbe]]
abbrev zgd(a:RuF):AS:={t:=ckT,h:=ckH0 a,m:=[]}
theorem ckT_rf{x:RuF}{m':Int}(hk:Ev S5 lL 287 (zc7 x.l 1) (zbl x 0) (eR N) (zeG x m')):CW S5 lL [] N (sub T9 0) (zgd x) .ret {t:=ckT,h:=ckH x 120 m' zca (G .ret),m:=[5]} :=CW.rangeFunc (f:=288) (fi:=[]) (ca:=zbq) τ (s:=(zgd x)) (g:=.tmp 7) (ps:=#[8,9]) (asg:=ax (sub T9 0)) (body:=ak (sub T9 0)) rfl Z (C1 hk) rfl
theorem ckF_rf{x:RuF}{m':Int}(hk:Ev S5 lL 287 (zc7 x.l 1) (zbl x 0) (eR J) (zbl x m')):CW S5 lL [] N (sub T9 0) (zgd x) w8 {t:=ckT,h:=ckH x 0 m' zca Y,m:=[5]} :=CW.rangeFunc (f:=288) (fi:=[]) (ca:=zbq) τ (s:=(zgd x)) (g:=.tmp 7) (ps:=#[8,9]) (asg:=ax (sub T9 0)) (body:=ak (sub T9 0)) rfl Z (C2 hk) rfl
def oz.bad(r:oz):Bool:=(r.walk 1 0).2
noncomputable def PV(x:RuF)(p:Int×Bool):Exit×AS:=match p.2 with
 |true=>(.ret,{t:=ckT,h:=ckH x 120 p.1 zca (G .ret),m:=[5]})
 |false=>(w8,{t:=ckT,h:=ckH x 0 p.1 zca Y,m:=[5]})
theorem J9{r:oz}(hr:r.ok){x:RuF}(hx:x=r.fl):CW S5 lL [] N (sub T9 0) (zgd x) (PV x (r.walk 1 0)).1 (PV x (r.walk 1 0)).2:=by
 subst hx;have hk:=Bq r.fl r hr 1 0;unfold PV;cases h:r.walk 1 0 with
 |mk m' b=>
  rw[h] at hk;cases b with
  |true=>exact ckT_rf hk
  |false=>exact ckF_rf hk
def iJ(b:Bool):Int:=match b with|true=>120|false=>0
theorem PW{r:oz}(hr:r.ok){x:RuF}(hx:x=r.fl)(h:aT):(Ev S5 lL 161 [mS x.l] h (eO (iJ r.bad)) h):=by
 have xd:=(@J9 (r) (hr) (x) (hx));revert xd;cases ho1:oz.walk r 1 0 with
 |mk Fa o1_0_1=>
  intro xd;revert xd;cases ho2:o1_0_1 with
  |false=>intro xd;exact yD (eO 0) [.a1 Τ,.s [2,3,7] xd] h (by simp[oz.bad,iJ,ho1,ho2])
  |true=>intro xd;exact yD (eO 120) [.a1 Τ,.s [2,3,7] xd] h (by simp[oz.bad,iJ,ho1,ho2])
theorem gQ{r:oz}(hr:r.ok)(h:aT):Ev S5 lL 161 [mS r.fl.l] h (eO (iJ r.bad)) h:=PW hr rfl h
structure uT where
 name:ByteArray
 number:Int
 ia:Int
 rep:Int
 NJ:oz
 bar:oz
def uT.row(c:uT):dO:=[vs c.name,vi c.number,vi c.ia,vi c.rep,vi c.NJ.fl.op,vi c.NJ.fl.c,vs c.NJ.fl.nm,vi c.NJ.fl.n,vi c.NJ.fl.d,.sl c.NJ.fl.ks,vi c.bar.fl.op,vi c.bar.fl.c,vs c.bar.fl.nm,vi c.bar.fl.n,vi c.bar.fl.d,.sl c.bar.fl.ks]
def uT.ok(c:uT):Prop:=c.NJ.ok/\c.bar.ok
def fP(c:uT):Bool:=κ c.number 0 4095&&κ c.ia 1 60&&κ c.rep 0 2&&(iJ c.NJ.bad==0)&&(iJ c.bar.bad==0)
abbrev zbM(a:uT):bY:=[am a.name,eO a.number,eO a.ia,eO a.rep,eO (oz.fl a.NJ).op,eO (oz.fl a.NJ).c,am (oz.fl a.NJ).nm,eO (oz.fl a.NJ).n,eO (oz.fl a.NJ).d,ab (oz.fl a.NJ).ks,eO (oz.fl a.bar).op,eO (oz.fl a.bar).c,am (oz.fl a.bar).nm,eO (oz.fl a.bar).n,eO (oz.fl a.bar).d,ab (oz.fl a.bar).ks]
noncomputable abbrev dJ(c:uT):aT:=[eP (zbM c)]
theorem C3{c:uT}(hc:c.ok)(h:aT):(Ev S5 lL 88 [ag c.row] h (eR (fP c)) h):=by refine y0 [.v (Tp (Γ':=lL) (@bD (c.number) 0 4095 (dJ c))),.w (fE (c.number>=0)&&fE (c.number<=4095)) (Tp (Γ':=lL) (@bD (c.ia) 1 60 (dJ c))),.w (fE (c.number>=0)&&fE (c.number<=4095)&&(fE (c.ia>=1)&&fE (c.ia<=60))) (Tp (Γ':=lL) (@bD (c.rep) 0 2 (dJ c))),.w (zb2 c.number 0 4095 c.ia 1 60 c.rep 2) (@gQ (c.NJ) ?_ (dJ c)),.w ((zb2 c.number 0 4095 c.ia 1 60 c.rep 2)&&iJ (oz.bad c.NJ)==0) (@gQ (c.bar) ?_ (dJ c))] h<;>(first|exact hc.1|exact hc.2)
noncomputable abbrev zI(c:uT)(n:Int):aT:=[eP [eO n],eP (zbM c)]
abbrev zcG(a:Int):aT:=[eP [eO a]]
theorem Br{c:uT}(hc:c.ok){n:Int}:(Ev S5 lL 87 [ag c.row,gM (qn 0 0)] (zcG n) (eR (c.number==n&&fP c)) (zcG n)):=Tw (yT (h':=(zcG n)) (d:=eR (c.number==n&&fP c)) [.w (c.number==n) (@C3 c hc (zI c n))]) Fb Fb
structure eQ where
 c:List uT
 p:bv
 s:List Β
 f:AT
abbrev zhb(a:eQ):D:=ab (a.c.map uT.row)
def eQ.l(w:eQ):bY:=[(zhb w),ab w.p,ab (w.s.map Β.row),ab (w.f.map Ta)]
abbrev atA(w:eQ)(kk ks ko eF bO:Int):bY:=[ab (w.f.map Ta),mS (Z8 kk ks ko),eO eF,eO bO]
abbrev rN(kk ks ko a b:Int):bv:=[[vi kk,vi ks,vi ko,vi a,vi b]]
theorem cy{α:Type}[Inhabited α]{row:α->dO}{l:List α}{v:Int}{sz:Nat}(hs:∀x,(row x).length=sz)(h0:0<=v)(h1:v<(l.length:Int)):ao v (l.map row) (row (l.getD v.toNat default)) sz:=by
 obtain⟨n,rfl⟩:∃n:Nat,v=n:=⟨v.toNat,lj⟩;have hn:n<l.length:=lj
 have hx:l[n]?=G l[n]:=TH hn;have:l.getD (S9 (n:Int)) default=l[n]:=by simp[Th,hx]
 rw[this];exact rowAt hx (hs _)
def jt{α:Type}[Inhabited α](l:List α)(valid:α->Bool)(p:Int×Bool):Bool:=!p.2||fE (p.1<0)||fE (p.1>=(l.length:Int))||!valid (l.getD p.1.toNat default)
def gR{α:Type}[Inhabited α](l:List α)(valid:α->Bool)(z:α)(p:Int×Bool):α×Bool:=match jt l valid p with
 |true=>(z,N)
 |false=>(l.getD p.1.toNat default,J)
theorem ln{α:Type}[Inhabited α]{l:List α}{valid:α->Bool}{p:Int×Bool}(h:jt l valid p=N):l.getD p.1.toNat default∈l/\valid (l.getD p.1.toNat default)=J/\p.2=J/\0<=p.1/\p.1<l.length:=by grind [Bool.or_eq_false_iff,Bool.not_eq_false',decide_eq_false_iff_not,Th,jt]
def Β.zero:Β:=⟨[],[],[],[]⟩
abbrev sysZ:D:=mS [ab [],ab [],ab [],ab []]
abbrev ZU(a:eQ):D:=ab (S2 Ta a.f)
abbrev zc2(a:eQ):bv:=(S2 uT.row a.c)
abbrev zep(a:eQ):bv:=(S2 Β.row a.s)
abbrev zhX(a:eQ):bY:=[ab (zc2 a),ab a.p,ab (zep a),(ZU a)]
noncomputable abbrev ls0_x0(w:eQ):aT:=[eP (zhX w),eP (zh9 4 0 0),eP [nq,nq,nq,nq]]
abbrev ze4(a:eQ)(b c:Int):bY:=[mS a.l,ab (a.s.map Β.row),mS (zh9 4 0 0),eO b,eO c,fnv 208]
theorem ls0{w:eQ}{eF bO:Int}(ht:(!(fE (eF>=0)&&fE (eF<=1023)))=J)(h:aT):(Ev S5 lL 207 (ze4 w eF bO) h (uN [sysZ,ab [],eR N]) h):=Tw (U7 (y0 (d:=TT [TF [nq,nq,nq,nq],nq,eR N]) [.v (Tp (Γ':=lL) (@bD eF 0 1023 (ls0_x0 w))),.b ht] h)) Fb Fb
noncomputable abbrev nF(w:eQ):aT:=[eP (zhX w),eP (zh9 4 0 0),eP [nq,nq,nq,nq],xx]
noncomputable abbrev Md(w:eQ):aT:=[eP (zhX w),eP (zh9 4 0 0),eP [nq,nq,nq,nq]]
abbrev zau(a:eQ)(b:Int):dO:=[UP (S2 Uq (Th a.s (S9 b) default).Pr),UP (S2 UG (Th a.s (S9 b) default).zjL),UP (S2 Uq (Th a.s (S9 b) default).ZO),UP (S2 A7.row (Th a.s (S9 b) default).clauses)]
abbrev za1(a:Int):D:=eO (S8 S6 (a+1))
abbrev zbz(a b c d:Int):bv:=[[vi a,vi b,vi c,vi d,vi (S8 S6 (d+1))]]
abbrev zgg(a:eQ)(b:Int):D:=(eR (Gb (Th a.s (S9 b) default)))
abbrev zhI(a b c d:Int):List (bY):=[[eO a,eO b,eO c,eO d,(za1 d)]]
abbrev zi0(a:Int)(c:Nat)(d e f:Int)(g:Bool)(h:dO)(i:D):Do:=[ς (zdV a 0 1023),.b N,.nx 1,E6 (Λ c (rN d e 0 a (S8 S6 (a+1)))),ς (TT [eO f,eR g]),.row h,ς i,.b N,.row h]
theorem ls1{w:eQ}{eF bO v:Int}{b:Bool}(ht:(!(fE (eF>=0)&&fE (eF<=1023)))=N)(hat:∀h,Ev S5 lL 106 (atA w 4 0 0 eF bO) h (uN [eO v,eR b]) h)(hs:∀x∈w.s,x.ok)(h:aT):(Ev S5 lL 207 (ze4 w eF bO) h (uN [ag (gR w.s Gb Β.zero (v,b)).1.row,ab (rN 4 0 0 eF (S6.wrap (eF+1))),eR (gR w.s Gb Β.zero (v,b)).2]) h):=by
 cases sR:!b||fE (v<0)||fE (v>=(↑(S7 (zep w)):Int))||!Gb (Th w.s (S9 v) default)
 ·refine Tw (U7 (Ev.sym0 (d:=TT [TF (zcc (Th w.s (S9 v) default) (S2 A7.row (Th w.s (S9 v) default).clauses)),ab (zbz 4 0 0 eF),eR J]) τ (zi0 eF 3 4 0 v b (zau w v) (zgg w v)) Z (.q0 (Tp (Γ':=lL) (@bD (eF) (0) (1023) ((Md w)))) (.q1 ht (.c (show (zhI 4 0 0 eF)=(zhI 4 0 0 eF) from rfl) (.q4 (@hat ((nF w))) (.c (show(!(!b||fE (v<0)||fE (v>=(↑(S7 (zep w)):Int))))=J->ao v (zep w) (zau w v) 4 from(λhg=>?_)) (.q6 (show(!(!b||fE (v<0)||fE (v>=(↑(S7 (zep w)):Int))))=J->Ev S5 lL 208 [(ag (Β.row (Th w.s (S9 v) default)))] (nF w) (zgg w v) (nF w) from(λhg=>(Tp (@qJ (Th w.s (S9 v) default) mW ((nF w)))))) (.q7 sR (.q8 (show ao v (zep w) (zau w v) 4 from ?_) .n)))))))) rfl rfl h)) (by(have hb:jt w.s Gb (v,b)=N:=by rw[<-sR];simp[jt]);simp only[gR,hb];rfl) Fb<;>(refine cy (λ_=>rfl) ?_ ?_<;>simp_all;done)
 ·exact Tw (U7 (Ev.sym0 (d:=TT [TF [nq,nq,nq,nq],ab (zbz 4 0 0 eF),eR N]) τ [ς (zdV eF 0 1023),.b N,.nx 1,E6 (Λ 3 (rN 4 0 0 eF (S8 S6 (eF+1)))),ς (TT [eO v,eR b]),.row (zau w v),ς (zgg w v),.b J] Z (.q0 (Tp (Γ':=lL) (@bD (eF) (0) (1023) ((Md w)))) (.q1 ht (.c (show (zhI 4 0 0 eF)=(zhI 4 0 0 eF) from rfl) (.q4 (@hat ((nF w))) (.c (show(!(!b||fE (v<0)||fE (v>=(↑(S7 (zep w)):Int))))=J->ao v (zep w) (zau w v) 4 from(λhg=>(by(refine cy (λ_=>rfl) ?_ ?_<;>simp_all;done)))) (.q6 (show(!(!b||fE (v<0)||fE (v>=(↑(S7 (zep w)):Int))))=J->Ev S5 lL 208 [(ag (Β.row (Th w.s (S9 v) default)))] (nF w) (zgg w v) (nF w) from(λhg=>(Tp (@qJ (Th w.s (S9 v) default) mW ((nF w)))))) (.q7 sR .n))))))) rfl rfl h)) (by(have hb:jt w.s Gb (v,b)=J:=by rw[<-sR];simp[jt]);simp[gR,hb];rfl) Fb
structure eQ.ok (w:eQ):Prop where
 c:∀x∈w.c,x.ok
 s:∀x∈w.s,x.ok
 lf:w.f.length<=69000
 lc:ah w.c
 ls:ah w.s
 i:∀f∈w.f,f.ok
theorem eQ.ok.sf{w:eQ}(h:w.ok):ah w.f:=by have:=h.lf;unfold ah;omega
def znp(eF:Int):Bool:=!(fE (eF>=0)&&fE (eF<=1023))
def bU(w:eQ)(eF bO:Int):Β×Bool:=match znp eF with
 |true=>(Β.zero,N)
 |false=>gR w.s Gb Β.zero (atR 4 0 0 eF bO w.f)
def ic(kk ks ko eF:Int):bv:=match znp eF with
 |true=>[]
 |false=>rN kk ks ko eF (S6.wrap (eF+1))
theorem C4{w:eQ}(hw:w.ok){eF bO:Int}(h:aT):Ev S5 lL 207 (ze4 w eF bO) h (uN [ag (bU w eF bO).1.row,ab (ic 4 0 0 eF),eR (bU w eF bO).2]) h:=by
 unfold bU ic;cases ht:znp eF with
 |true=>exact ls0 ht h
 |false=>exact ls1 ht (λh=>Tp (Cy hw.sf h)) hw.s h
noncomputable abbrev uY(w:eQ):aT:=[eP (zhX w),eP [nq,nq,nq,nq]]
theorem C5{w:eQ}(hw:w.ok){eF bO:Int}(h:aT):(Ev S5 lL 121 [mS w.l,eO eF,eO bO] h (uN [ag (bU w eF bO).1.row,ab (ic 4 0 0 eF)]) h):=y0 [.v (@C4 w hw eF bO (uY w))] h
def oz.zero:oz:=.mk 0 0 ⟨#[]⟩ 0 0 []
def uT.zero:uT:=⟨⟨#[]⟩,0,0,0,oz.zero,oz.zero⟩
instance:Inhabited uT:=⟨uT.zero⟩
theorem uT.ziD:uT.zero.ok:=by have:oz.zero.ok:=⟨by unfold Pu ah;simp,trivial⟩;exact⟨this,this⟩
abbrev crsZ:D:=ag uT.zero.row
def iK(n:Int)(c:uT):Bool:=c.number==n&&fP c
abbrev zaa:bY:=[am {data:=#[]},eO 0,eO 0,eO 0,eO 0,eO 0,am {data:=#[]},eO 0,eO 0,nq,eO 0,eO 0,am {data:=#[]},eO 0,eO 0,nq]
abbrev zjU(a:Int)(b:bY)(c:Int)(d:bY):aT:=[eP [eO a],eP b,eP (Z8 c a 0),eP d]
noncomputable abbrev lc0_x0(w:eQ)(n:Int):aT:=(zjU n (zhX w) 1 zaa)
abbrev zh3(a:eQ)(b:D)(c d e f:Int)(g:FuncId):bY:=[mS a.l,b,mS (Z8 c d 0),eO e,eO f,.fn (.func g) [] za8]
theorem lc0{w:eQ}{n eF bO:Int}(ht:(!(fE (eF>=0)&&fE (eF<=1023)))=J):(Ev S5 lL 89 (zh3 w (zhb w) 1 n eF bO 87) (zcG n) (uN [crsZ,ab [],eR N]) (zcG n)):=Tw (U7 (yT (h':=(zcG n)) (d:=TT [TF zaa,nq,eR N]) [.v (Tp (Γ':=lL) (@bD eF 0 1023 (lc0_x0 w n))),.b ht])) Fb Fb
abbrev zaG(a:eQ)(b:Int):D:=TF [am (Th a.c (S9 b) default).name,eO (Th a.c (S9 b) default).number,eO (Th a.c (S9 b) default).ia,eO (Th a.c (S9 b) default).rep,eO (oz.fl (Th a.c (S9 b) default).NJ).op,eO (oz.fl (Th a.c (S9 b) default).NJ).c,am (oz.fl (Th a.c (S9 b) default).NJ).nm,eO (oz.fl (Th a.c (S9 b) default).NJ).n,eO (oz.fl (Th a.c (S9 b) default).NJ).d,ab (oz.fl (Th a.c (S9 b) default).NJ).ks,eO (oz.fl (Th a.c (S9 b) default).bar).op,eO (oz.fl (Th a.c (S9 b) default).bar).c,am (oz.fl (Th a.c (S9 b) default).bar).nm,eO (oz.fl (Th a.c (S9 b) default).bar).n,eO (oz.fl (Th a.c (S9 b) default).bar).d,ab (oz.fl (Th a.c (S9 b) default).bar).ks]
noncomputable abbrev Bs(w:eQ)(v:Int):bY:=[(zaG w v),gM (qn 0 0)]
noncomputable abbrev nG(w:eQ)(n:Int):aT:=[eP [eO n],eP (zhX w),eP (Z8 1 n 0),eP zaa,xx]
noncomputable abbrev Me(w:eQ)(n:Int):aT:=(zjU n (zhX w) 1 zaa)
abbrev ZE(a:eQ)(b:Int):dO:=[vs (Th a.c (S9 b) default).name,vi (Th a.c (S9 b) default).number,vi (Th a.c (S9 b) default).ia,vi (Th a.c (S9 b) default).rep,vi (oz.fl (Th a.c (S9 b) default).NJ).op,vi (oz.fl (Th a.c (S9 b) default).NJ).c,vs (oz.fl (Th a.c (S9 b) default).NJ).nm,vi (oz.fl (Th a.c (S9 b) default).NJ).n,vi (oz.fl (Th a.c (S9 b) default).NJ).d,UP (oz.fl (Th a.c (S9 b) default).NJ).ks,vi (oz.fl (Th a.c (S9 b) default).bar).op,vi (oz.fl (Th a.c (S9 b) default).bar).c,vs (oz.fl (Th a.c (S9 b) default).bar).nm,vi (oz.fl (Th a.c (S9 b) default).bar).n,vi (oz.fl (Th a.c (S9 b) default).bar).d,UP (oz.fl (Th a.c (S9 b) default).bar).ks]
abbrev zdG(a:eQ)(b d:Int):D:=(eR ((Th a.c (S9 b) default).number==d&&fP (Th a.c (S9 b) default)))
theorem lc1{w:eQ}{n eF bO v:Int}{b:Bool}(ht:(!(fE (eF>=0)&&fE (eF<=1023)))=N)(hat:∀h,Ev S5 lL 106 (atA w 1 n 0 eF bO) h (uN [eO v,eR b]) h)(hs:∀x∈w.c,x.ok):(Ev S5 lL 89 (zh3 w (zhb w) 1 n eF bO 87) (zcG n) (uN [ag (gR w.c (iK n) uT.zero (v,b)).1.row,ab (rN 1 n 0 eF (S6.wrap (eF+1))),eR (gR w.c (iK n) uT.zero (v,b)).2]) (zcG n)):=by
 cases sR:!b||fE (v<0)||fE (v>=(↑(S7 (zc2 w)):Int))||!((Th w.c (S9 v) default).number==n&&fP (Th w.c (S9 v) default))
 ·refine Tw (U7 (Ev.symT (h':=(zcG n)) (d:=TT [(zaG w v),ab (zbz 1 n 0 eF),eR J]) τ (zi0 eF 4 1 n v b (ZE w v) (zdG w v n)) Z (.q0 (Tp (Γ':=lL) (@bD (eF) (0) (1023) ((Me w n)))) (.q1 ht (.c (show (zhI 1 n 0 eF)=(zhI 1 n 0 eF) from rfl) (.q4 (@hat ((nG w n))) (.c (show(!(!b||fE (v<0)||fE (v>=(↑(S7 (zc2 w)):Int))))=J->ao v (zc2 w) (ZE w v) 16 from(λhg=>?_)) (.q6 (show(!(!b||fE (v<0)||fE (v>=(↑(S7 (zc2 w)):Int))))=J->Ev S5 lL 87 (Bs w v) (nG w n) (zdG w v n) (nG w n) from(λhg=>(Tw (Ev.zpX (args:=(Bs w v)) (H:=(nG w n)) [0] (@Br (Th w.c (S9 v) default) mW (n)) Z Z Z trivial trivial) Z Z))) (.q7 sR (.q8 (show ao v (zc2 w) (ZE w v) 16 from ?_) .n)))))))))) (by(have hb:jt w.c (iK n) (v,b)=N:=by rw[<-sR];simp[jt,iK]);simp only[gR,hb];rfl) mW<;>(refine cy (λ_=>rfl) ?_ ?_<;>simp_all;done)
 ·exact Tw (U7 (Ev.symT (h':=(zcG n)) (d:=TT [TF zaa,ab (zbz 1 n 0 eF),eR N]) τ [ς (zdV eF 0 1023),.b N,.nx 1,E6 (Λ 4 (rN 1 n 0 eF (S8 S6 (eF+1)))),ς (TT [eO v,eR b]),.row (ZE w v),ς (zdG w v n),.b J] Z (.q0 (Tp (Γ':=lL) (@bD (eF) (0) (1023) ((Me w n)))) (.q1 ht (.c (show (zhI 1 n 0 eF)=(zhI 1 n 0 eF) from rfl) (.q4 (@hat ((nG w n))) (.c (show(!(!b||fE (v<0)||fE (v>=(↑(S7 (zc2 w)):Int))))=J->ao v (zc2 w) (ZE w v) 16 from(λhg=>(by(refine cy (λ_=>rfl) ?_ ?_<;>simp_all;done)))) (.q6 (show(!(!b||fE (v<0)||fE (v>=(↑(S7 (zc2 w)):Int))))=J->Ev S5 lL 87 (Bs w v) (nG w n) (zdG w v n) (nG w n) from(λhg=>(Tw (Ev.zpX (args:=(Bs w v)) (H:=(nG w n)) [0] (@Br (Th w.c (S9 v) default) mW (n)) Z Z Z trivial trivial) Z Z))) (.q7 sR .n))))))))) (by(have hb:jt w.c (iK n) (v,b)=J:=by rw[<-sR];simp[jt,iK]);simp[gR,hb];rfl) mW
def ac(w:eQ)(n eF bO:Int):uT×Bool:=match znp eF with
 |true=>(uT.zero,N)
 |false=>gR w.c (iK n) uT.zero (atR 1 n 0 eF bO w.f)
abbrev zg7(a:eQ)(b c d:Int)(e:bv):D:=(uN [ag (ac a b c d).1.row,ab (e),eR (ac a b c d).2])
theorem C6{w:eQ}(hw:w.ok){n eF bO:Int}:Ev S5 lL 89 [.agg w.l,ab (w.c.map uT.row),.agg [eO 1,eO n,eO 0],eO eF,eO bO,.fn (.func 87) [] [.ref (.ptr 0 0)]] [.var [eO n]] (.Pp [ag (ac w n eF bO).1.row,ab (ic 1 n 0 eF),eR (ac w n eF bO).2]) [.var [eO n]]:=by
 unfold ac ic
 cases ht:znp eF with
 | true=>exact lc0 ht
 | false=>exact lc1 ht (λh=>Tp (Cy hw.sf h)) hw.c
noncomputable abbrev lq(w:eQ)(n:Int):aT:=[eP (zhX w),eP [eO n],eP zaa]
abbrev zbE(a:eQ)(b c d:Int):bY:=[mS a.l,eO b,eO c,eO d]
theorem C7{w:eQ}(hw:w.ok){n eF bO:Int}(h:aT):(Ev S5 lL 32 (zbE w n eF bO) h (zg7 w n eF bO (ic 1 n 0 eF)) h):=y0 [.v ((fX [1] (@C6 w hw n eF bO) trivial trivial):Ev S5 lL 89 [TF (eQ.l w),ab (zc2 w),TF (Z8 1 n 0),eO eF,eO bO,UL (TM 87) [] zcq] (lq w n) (TT [TF [am (ac w n eF bO).fst.name,eO (ac w n eF bO).fst.number,eO (ac w n eF bO).fst.ia,eO (ac w n eF bO).fst.rep,eO (oz.fl (ac w n eF bO).fst.NJ).op,eO (oz.fl (ac w n eF bO).fst.NJ).c,am (oz.fl (ac w n eF bO).fst.NJ).nm,eO (oz.fl (ac w n eF bO).fst.NJ).n,eO (oz.fl (ac w n eF bO).fst.NJ).d,ab (oz.fl (ac w n eF bO).fst.NJ).ks,eO (oz.fl (ac w n eF bO).fst.bar).op,eO (oz.fl (ac w n eF bO).fst.bar).c,am (oz.fl (ac w n eF bO).fst.bar).nm,eO (oz.fl (ac w n eF bO).fst.bar).n,eO (oz.fl (ac w n eF bO).fst.bar).d,ab (oz.fl (ac w n eF bO).fst.bar).ks],ab (ic 1 n 0 eF),eR (ac w n eF bO).2]) (lq w n))] h
abbrev dK(l:AT):List (bY):=l.map λf=>f.row.map .p
abbrev ey(l:Bv):List (bY):=l.map λb=>[eR b]
abbrev bP(l:bV):List (bY):=l.map λn=>[eO n]
abbrev zaV:Nat×D:=(zjy 8 3)
abbrev zbw:Nat×D:=(zjy 7 2)
abbrev vaT:bY:=qm 63 0 [zaE,zbw,zaV,(15,.fn (.func 251) [] zac)]
noncomputable abbrev vaL(st:LoopState):ql:=Js st Y 0 vaT #[16] (ax (sub TV 0)) (ak (sub TV 0))
abbrev zg6(a:AT):bY:=(dK a).flatten
noncomputable abbrev vaH(kk ks ko bO:Int)(fs:bv)(rs:bY)(uR:AT)(G:Bv)(st:LoopState)(more:aT):aT :=[eP (Z8 kk ks ko),eP rs,eP (zg6 uR),eP (ey G).flatten,eP [ab fs],eP (Z8 kk ks ko),eP [eO bO],NH,vaL st]++more
abbrev zf8(a:Nat):Nat×D:=(a,gM (qn 10 0))
abbrev vaU:bY:=qm 63 0 [zaE,zbw,zaV,(zf8 9)]
theorem va_asg{kk ks ko bO:Int}{fs:bv}{rs:bY}{uR:AT}{G:Bv}{f:qH}:(CW S5 ji (vaH kk ks ko bO fs rs uR G EV (ziT f)) J (ax (sub TV 0)) {t:=dD vaT [(16,ag f.row)],h:=vaH kk ks ko bO fs rs uR G EV (ziT f),m:=[]} w8 {t:=vaU,h:=vaH kk ks ko bO fs rs uR G EV (zbg f),m:=[]}):=yx [E6 (IW [6,7,8,9])] []
theorem uZ{h:aT}{off n:Nat}{l:Bv}{b:Bool}(hb:h[3]?=G (eP (ey l).flatten))(hs:l[n]?=G b)(ho:off=n*1):aQ S5 h 4 (gM (qn 3 off))=G (eR b):=by subst ho;exact pX (sz:=1) (j:=0) (row:=[eR b]) Z Z hb (λr hr=>mW) (by simp[hs]) rfl
abbrev zgH(a:Nat):D:=(gM (qn 2 a))
theorem Gn{h:aT}{off n:Nat}{l:AT}{g:qH}(hb:h[2]?=G (eP (zg6 l)))(hs:l[n]?=G g)(ho:off=n*8):aQ S5 h 59 (zgH off)=G (ag g.row):=by subst ho;exact Iz (sz:=8) (row:=g.row.map .p) Z Z hb (by simp[Ta]) (by simp[hs])
theorem va_stB{h:List ql}{off n:Nat}{l:List qH}{f:qH}(hb:h[2]? = some (.var (dK l).flatten))(hn:n<l.length)(ho:off=n*8):aY S5 h 59 (.ref (.ptr 2 off)) (ag f.row)=some (h.set 2 (.var (dK (l.set n f)).flatten)):=by
 subst ho
 rw[pY (sz:=8) (new:=f.row.map .p) rfl (by kernel_rfl) rfl hb (by simp[Ta]) (by simpa using hn),dK,dK,List.map_set]
theorem va_stS{h:aT}{off n:Nat}{l:Bv}{b:Bool}(hb:h[3]?=G (eP (ey l).flatten))(hn:n<l.length)(ho:off=n*1):aY S5 h 4 (gM (qn 3 off)) (eR b)=G (h.set 3 (eP (ey (l.set n b)).flatten)):=by subst ho;rw[pY (sz:=1) (new:=[eR b]) rfl Z rfl hb (λr hr=>mW) (by simpa using hn),ey,ey,List.map_set]
theorem tl{α:Type}{l:List α}{n:Nat}{a:α}(h:l[n]?=G a):n<l.length:=(Td.1 h).1
def zkR(f g:qH)(b:Bool):Bool:=!b||fE (orI (cF f.bO g.bO) (cF f.no g.no)>=0)
noncomputable abbrev vaS(kk ks ko bO:Int)(fs:bv)(rs:bY)(uR:AT)(G:Bv)(f:qH)(t:Int):AS:={t:=qm 63 0 [zaE,zbw,zaV,(zf8 9),(10,eO t)],h:=vaH kk ks ko bO fs rs uR G Ρ (zbg f),m:=[]}
abbrev zhk:bY:=(qm 63 0 [(zjy 6 1),(zjy 7 2),(zjy 8 3),(15,UL (TM 251) [] zjV)])
abbrev ZS:bY:=zhk
abbrev ziK:Array Tmp:={toList:=[16]}
abbrev zdA:Array Tmp:=ziK
noncomputable abbrev iL(kk:Int)(ks:Int)(ko:Int)(bO:Int)(fs:bv)(rs:bY)(uR:AT)(G:Bv)(f:qH):aT:=[eP (Z8 kk ks ko),eP rs,eP (Tv (dK uR)),eP (Tv (ey G)),eP [ab fs],eP (Z8 kk ks ko),eP [eO bO],NH,Js TX Y 0 ZS zdA (ax (sub TV 0)) (ak (sub TV 0)),eP (ZV f),eP (ZV f)]
abbrev zb6(a b:Nat):D:=(gM (qn a (0+S9 (↑b:Int)*1)))
abbrev zgQ(a:Nat):D:=(gM (qn 2 (0+S9 (↑a:Int)*8)))
theorem va_b{kk ks ko bO:Int}{fs:bv}{rs:bY}{uR b0:AT}{some s0:Bv}{f g f0:qH}{n:Nat}{b:Bool}(hb:uR[n]? = .some g)(hs:some[n]? = .some b)(hn:Ps (n:Int) 1024=true)(oA:fE ((n:Int)<if false=true then if 1024>f.Z5 then 1024 else f.Z5 else if 1024<f.Z5 then 1024 else f.Z5)=true):(CW S5 ji (vaH kk ks ko bO fs rs b0 s0 .ready (ziT f0)) true (sub TV 1) (vaS kk ks ko bO fs rs uR some f (n:Int)) .normal (vaS kk ks ko bO fs rs (bif zkR f g b then uR.set n f else uR) (bif zkR f g b then some.set n true else some) f (S6.wrap ((n:Int)+1)))):=by
 cases sR:!b||fE (orI (cF f.bO g.bO) (cF f.no g.no)>=0)
 ·refine yX {t:=qm 63 0 [zaE,zbw,zaV,(zf8 9),(10,(ZZ n))],h:=(iL kk ks ko bO fs rs uR some f),m:=[]} Tr [.st (.mask [6,7,8,9,10])] [.b oA,hn,(?_:@Eq (At) (aQ S5 (iL kk ks ko bO fs rs uR some f) 4 (zb6 3 n)) (Vs (eR b))),((λhg=>hn):(!!b)=true->Ps (↑n:Int) 1024=true),((λhg=>?_):(!!b)=true->aQ S5 (iL kk ks ko bO fs rs uR some f) 59 (zgQ n)=Vs (TF (ZV g))),.a1 (.ov 31 (eR b)),.a1 (.ov 37 (ag (Ta g))),.w (!!b) (@uy f g (iL kk ks ko bO fs rs uR some f)),.b sR] (by grind) (by(have hh:zkR f g b=false:=sR;simp only[hh,cond_false];first|done|rfl))<;>(first|exact uZ rfl hs (by simp)|exact Gn rfl hb (by simp))
 ·let v0:bY:=(ZV f);let v1:aT:=[.var (Z8 kk ks ko),.var rs,.var (Tv (dK (UE uR n f))),.var (Tv (ey (UE some n true))),.var [ab fs],.var (Z8 kk ks ko),.var [eO bO],.δ,.loop TX none 0 ZS zdA (ax (sub TV 0)) (ak (sub TV 0)),.var v0,.var v0];let v2:aT:=[.var (Z8 kk ks ko),.var rs,.var (Tv (dK (UE uR n f))),.var (Tv (ey some)),.var [ab fs],.var (Z8 kk ks ko),.var [eO bO],.δ,.loop TX none 0 ZS zdA (ax (sub TV 0)) (ak (sub TV 0)),.var v0,.var v0];let v3:=S2 D.p (Ta f);refine yX {t:=qm 63 0 [zaE,zbw,zaV,(zf8 9),(10,(ZZ n))],h:=v1,m:=[]} Tr [.st (.mask [6,7,8,9,10])] [.b oA,hn,(?_:@Eq (At) (aQ S5 (iL kk ks ko bO fs rs uR some f) 4 (zb6 3 n)) (Vs (eR b))),((λhg=>hn):(!!b)=true->Ps (↑n:Int) 1024=true),((λhg=>?_):(!!b)=true->aQ S5 (iL kk ks ko bO fs rs uR some f) 59 (zgQ n)=Vs (TF (ZV g))),.a1 (.ov 31 (eR b)),.a1 (.ov 37 (ag (Ta g))),.w (!!b) (@uy f g (iL kk ks ko bO fs rs uR some f)),.b sR,hn,(?_:@Eq (Option (aT)) (aY S5 (iL kk ks ko bO fs rs uR some f) 59 (zgQ n) (TF v0)) (Vs v2)),hn,(?_:@Eq (Option (aT)) (aY S5 v2 4 (zb6 3 n) (eR true)) (Vs v1)),.a1 (.oh 10044 D.any (vaH kk ks ko bO fs rs (UE uR n f) some TX (zb0 v3))),.a1 (.oh 10045 D.any (vaH kk ks ko bO fs rs (UE uR n f) (UE some n true) TX (zb0 v3)))] (by subst v0 v1 v2 v3;grind) (by subst v0 v1 v2 v3;(have hh:zkR f g b=true:=sR;simp only[hh,cond_true];first|done|rfl))<;>subst v0 v1 v2 v3<;>(first|exact uZ rfl hs (by simp)|exact Gn rfl hb (by simp)|exact va_stB rfl (tl hb) (by simp)|exact va_stS rfl (tl hs) (by simp))
theorem va_l{kk ks ko bO:Int}{fs:bv}{rs:bY}{uR b0:AT}{G s0:Bv}{f f0:qH}{x:Int}(oA:fE (x<if N=J then if 1024>f.Z5 then 1024 else f.Z5 else if 1024<f.Z5 then 1024 else f.Z5)=N):(CW S5 ji (vaH kk ks ko bO fs rs b0 s0 EV (ziT f0)) J (sub TV 1) (vaS kk ks ko bO fs rs uR G f x) (EY 2) {t:=qm 63 0 [],h:=vaH kk ks ko bO fs rs uR G Ρ (zbg f),m:=[]}):=yx zbN [.b oA]
abbrev VS:=AT×Bv
def VS.ok(s:VS):Prop:=s.1.length=1024/\s.2.length=1024
def C8(f:qH):Int:=if f.Z5<1024 then f.Z5 else 1024
def ie(f:qH)(s:VS)(n:Nat):VS:=bif zkR f (s.1.getD n default) (s.2.getD n N) then (s.1.set n f,s.2.set n J) else s
def Ka(f:qH)(x:Int)(s:VS):VS:=(List.range' x.toNat (C8 f-x).toNat).foldl (ie f) s
theorem zlA{f:qH}{s:VS}(n:Nat)(h:s.ok):(ie f s n).ok:=by
 unfold ie;cases zkR f (s.1.getD n default) (s.2.getD n N);·exact h
 ·exact⟨by simpa using h.1,by simpa using h.2⟩
theorem Gp(f:qH):(if N=J then if 1024>f.Z5 then 1024 else f.Z5 else if 1024<f.Z5 then 1024 else f.Z5)=C8 f:=by unfold C8;grind
theorem va_cw{kk ks ko bO:Int}{fs:bv}{rs:bY}{uR b0:AT}{some s0:Bv}{f f0:qH}{x:Int}(hx:0<=x)(ho:VS.ok (uR,some)):CW S5 ji (vaH kk ks ko bO fs rs b0 s0 .ready (ziT f0)) true (.loop (sub TV 1)) (vaS kk ks ko bO fs rs uR some f x) (.exit 2) {t:=qm 63 0 [],h:=vaH kk ks ko bO fs rs (Ka f x (uR,some)).1 (Ka f x (uR,some)).2 .busy (zbg f),m:=[]}:=by
 have hx':((x.toNat:Nat):Int)=x:=by omega
 have hh:C8 f<=1024:=by unfold C8;split<;>omega
 have:=UR (P:=S5) (Γ:=ji) (h0:=vaH kk ks ko bO fs rs b0 s0 .ready (ziT f0)) (rd:=true) (c:=sub TV 1) (σ:=VS) (ρ:=Empty) (List.range' x.toNat (C8 f-x).toNat) (λn s=>.inl (ie f s n))
  (λi s=>vaS kk ks ko bO fs rs s.1 s.2 f (x+(i:Int))) (.exit 2) (λs=>{t:=qm 63 0 [],h:=vaH kk ks ko bO fs rs s.1 s.2 .busy (zbg f),m:=[]}) (λr=>r.elim)
  (λ_ s=>s.ok) (by simp) (λr=>r.elim) ?_ ?_ (uR,some) ho
 ·rw[aM (λs n=>ie f s n)] at this;grind [bf,Ka]
 ·intro i n s hn hs;obtain⟨hi,he⟩:=Td.1 hn;simp only[List.length_range'] at hi;simp at he;have oA:(n:Int)<C8 f:=by omega
  have hb:s.1[n]? = .some (s.1.getD n default):=by rw[Th,TH (by rw[hs.1];omega)];rfl
  have hc:s.2[n]? = .some (s.2.getD n false):=by rw[Th,TH (by rw[hs.2];omega)];rfl
  refine⟨λs' h=>by cases h;exact zlA n hs,?_⟩;have key:=va_b (kk:=kk) (ks:=ks) (ko:=ko) (bO:=bO) (fs:=fs) (rs:=rs) (b0:=b0) (s0:=s0) (f:=f) (f0:=f0) hb hc (by simp[Ps];omega) (by grind [Gp]);rw[wrap_i64 (by omega) (by omega)] at key;have e1:x+(i:Int)=(n:Int):=by omega
  have e2:x+((i+1:Nat):Int)=(n:Int)+1:=by omega
  simp only[ai,e1,e2];unfold ie;grind
 ·intro s _;refine va_l ?_;grind [Gp]
theorem PX{kk ks ko bO:Int}{fs:bv}{rs:bY}{uR:AT}{G:Bv}(ho:VS.ok (uR,G)){f:qH}:(CW S5 ji (vaH kk ks ko bO fs rs uR G EV (ziT f)) J (ak (sub TV 0)) {t:=vaU,h:=vaH kk ks ko bO fs rs uR G Ρ (zbg f),m:=[]} w8 {t:=qm 63 0 [],h:=vaH kk ks ko bO fs rs (Ka f (if J=J then if f.lk>0 then f.lk else 0 else if f.lk<0 then f.lk else 0) (uR,G)).1 (Ka f (if J=J then if f.lk>0 then f.lk else 0 else if f.lk<0 then f.lk else 0) (uR,G)).2 Ρ (zbg f),m:=[]}):=by have xd:=(@va_cw (kk) (ks) (ko) (bO) (fs) (rs) (uR) (uR) (G) (G) (f) (f) (if J=J then if f.lk>0 then f.lk else 0 else if f.lk<0 then f.lk else 0) mW (ho));exact yx zbN [.s [6,7,8,9,10] xd]
end Go.Vi
