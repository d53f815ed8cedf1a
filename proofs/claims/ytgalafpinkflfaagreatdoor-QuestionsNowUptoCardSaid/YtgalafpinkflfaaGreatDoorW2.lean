/- A part of the proof; no conditions of its own. -/
import Derived.Test.YtgalafpinkflfaaGreatDoorW1
open Decidable renaming decide -> Zd
open Go.Vi.tO renaming row -> MQ
open Go.IntKind renaming i64 -> MM, wrap -> MN
open Go.Proofs.Tryz renaming prog -> MK, f161 -> NL, f287 -> Sg, f127 -> Nr
open List renaming length -> MO, getElem?_eq_some_iff -> MR, mem_of_getElem? -> Ny, any_cons -> Rh, map -> ML, any -> Rr, getElem?_eq_getElem -> Nh, getD -> MT, flatten -> M7, set -> Oe
open Go.Exit renaming normal -> M8, ret -> PL
open Go.Vi.CW renaming each -> OS
open Go.Vi.Ev renaming WB -> Na, Xj -> M9, W9 -> OL
open Go.Vi.UA renaming row -> NZ
open Go.Vi.TV renaming row -> N8
open Go.Vi.D renaming fn -> Ot, agg -> Nk, Tt -> Nt
open Go.Fn renaming func -> Nl
open Bool renaming not_eq_true' -> Oy
open Go.LoopState renaming busy -> Nu, ready -> Np, done -> Qz
open Go.Code renaming ret -> SN
open Go.Vi.If renaming row -> MY
open Int renaming toNat -> MP
open Go.Vi.Dp renaming sl -> Om
open Option renaming some -> O6
open Go Go.Proofs
namespace Go.Vi
set_option maxRecDepth 100000
set_option maxHeartbeats 4000000
structure T5 where
 kind:Int
 WP:Int
 action:Int
 UE:Int
 deriving Inhabited
def T5.row(a:T5):List Dp:=[vi a.kind,vi a.WP,vi a.action,vi a.UE]
def xaF(p:tO->Bool)(c:tO)(s:Nat):Nat⊕Nat:=if p c=true then .inr s else .inl (s+1)
abbrev xaS(fs:List (List Dp))(f:D)(h:List iN)(i:Int):AS:={t:=DO 19 0 [(0,ab fs),(1,f),(4,aT 0),(7,aT fs.length),(8,aT i)],h:=h,m:=[]}
abbrev xaX(h:List iN):Nat->Exit×AS:=λk=>(.ret,{t:=DO 19 0 [(4,aT (k:Int))],h:=h,m:=[]})
theorem Jv{fs:List (List Dp)}{i:Nat}{c:tO}{f:D}{h:List iN}{p:tO->Bool}(hr:ap (i:Int) fs (MQ c) 5)(IN:Zd ((i:Int)<(fs.length:Int))=true)(hw:MM.wrap ((i:Int)+1)=((i+1:Nat):Int))(hi:Iv MK At f [ag (MQ c)] h (iF (p c)) h):(CW MK At h false (sub Tryz.f274 0) (xaS fs f h i) (af (λ_=>xaS fs f h ((i+1:Nat):Int)) (xaX h) (xaF p c i)).1 (af (λ_=>xaS fs f h ((i+1:Nat):Int)) (xaX h) (xaF p c i)).2):=by
 cases Of:p c
 ·refine yX {t:=DO 19 0 [(0,ab fs),(1,f),(4,aT 0),(7,aT (↑(MO fs):Int)),(8,aT (MN MM ((↑i:Int)+1)))],h:=h,m:=[]} M8 [.st (.mask [0,1,4,7,8])] [.b IN,.r hr,.i (@hi),.b Of] ?_ ?_<;>(simp[xaF,af,hw, *])
 ·refine yX {t:=DO 19 0 [(4,aT (↑i:Int))],h:=h,m:=[]} PL [.st (.mask [4])] [.b IN,.r hr,.i (@hi),.b Of] ?_ ?_<;>(simp[xaF,af,hw, *])
theorem Jw{fs:List (List Dp)}{i:Nat}{f:D}{h:List iN}(IN:Zd ((i:Int)<(fs.length:Int))=false):(CW MK At h false (sub Tryz.f274 0) (xaS fs f h i) (.exit 0) {t:=DO 19 0 [(4,aT 0)],h:=h,m:=[]}):=by
 exact yx [.st (.mask [4])] [.b IN]
def xaR(p:tO->Bool)(l:List tO):Int:=match Tq (xaF p) l 0 with | .inl _ => -1 | .inr k=>(k:Int)
def Jx(h:List iN)(p:tO->Bool)(l:List tO):Exit×AS:=bu (.exit 0) (λ_:Nat=>{t:=DO 19 0 [(4,aT 0)],h:=h,m:=[]}) (xaX h) (Tq (xaF p) l 0)
theorem xa_cw{l:List tO}(hl:ah l){f:D}{h:List iN}{p:tO->Bool}(hf:∀c∈l,Iv MK At f [ag (MQ c)] h (iF (p c)) h):
  CW MK At h false (.loop (sub Tryz.f274 0)) (xaS (l.map MQ) f h 0) (Jx h p l).1 (Jx h p l).2:=by
 refine OS l (xaF p) (λi _=>xaS (l.map MQ) f h (i:Int)) (.exit 0) _ (xaX h) (λi s=>s=i) (by simp) (λ_=>by simp) ?_ ?_ 0 rfl
 ·intro i c s hc hs
  subst hs
  have hi:=(MR.1 hc).1
  refine⟨λs' h=>?_,Jv (rowAt hc rfl) (TG MQ hi) (T4 hi hl) (hf c (Ny hc))⟩
  grind [xaF]
 ·intro s hs
  exact Jw (be MQ l)
theorem xai_ev{l:List tO}(hl:ah l){f:D}{h:List iN}{p:tO->Bool}(hf:∀c∈l,Iv MK At f [ag (MQ c)] h (iF (p c)) h):(Ev MK At 274 [ab (l.map MQ),f] h (aT (xaR p l)) h):=by
 have Tv:=(@xa_cw (l) (hl) (f) (h) (p) (hf))
 unfold Jx at Tv
 revert Tv
 cases Vj:Tq (xaF p) l 0 with
 | inl VC =>
  intro Tv
  exact Na (yF (h':=h) (d:=aT (-1)) [.s [0,1,4,7,8] Tv]) (by simp[xaR,Vj]) (by simp[xaR,Vj])
 | inr UD =>
  intro Tv
  exact Na (yF (h':=h) (d:=aT (↑UD:Int)) [.s [0,1,4,7,8] Tv]) (by simp[xaR,Vj]) (by simp[xaR,Vj])
theorem xa_any(p:tO->Bool)(l:List tO):∀k:Nat,(match Tq (xaF p) l k with | .inl _=>false | .inr _=>true)=l.any p:=by
 induction l with
 | nil=>intro k;rfl
 | cons f l ih =>
  intro k
  rw[Rh]
  cases hf:p f
  ·simp[Tq,xaF,hf]
   exact ih (k+1)
  ·simp[Tq,xaF,hf]
theorem xaR_ge(p:tO->Bool)(l:List tO):Zd (xaR p l>=0)=l.any p:=by
 rw[<-xa_any p l 0,xaR]
 split<;>simp
theorem Hp{l:List tO}(hl:ah l){f:D}{h:List iN}{p:tO->Bool}(hf:∀c∈l,Iv MK At f [ag (MQ c)] h (iF (p c)) h):(Ev MK At 200 [ab (l.map MQ),f] h (iF (l.any p)) h):=by
 exact Na (yF (h':=h) (d:=iF (Zd (xaR p l>=0))) [.v (@xai_ev l hl f h p hf)]) (by grind [xaR_ge]) (by grind)
def xcF(p:UA->Bool)(c:UA)(s:Nat):Nat⊕Nat:=if p c=true then .inr s else .inl (s+1)
abbrev xcS(fs:List (List Dp))(f:D)(h:List iN)(i:Int):AS:={t:=DO 19 0 [(0,ab fs),(1,f),(4,aT 0),(7,aT fs.length),(8,aT i)],h:=h,m:=[]}
abbrev xcX(h:List iN):Nat->Exit×AS:=λk=>(.ret,{t:=DO 19 0 [(4,aT (k:Int))],h:=h,m:=[]})
theorem Jy{fs:List (List Dp)}{i:Nat}{c:UA}{f:D}{h:List iN}{p:UA->Bool}(hr:ap (i:Int) fs (NZ c) 4)(IN:Zd ((i:Int)<(fs.length:Int))=true)(hw:MM.wrap ((i:Int)+1)=((i+1:Nat):Int))(hi:Iv MK At f [ag (NZ c)] h (iF (p c)) h):(CW MK At h false (sub Tryz.f331 0) (xcS fs f h i) (af (λ_=>xcS fs f h ((i+1:Nat):Int)) (xcX h) (xcF p c i)).1 (af (λ_=>xcS fs f h ((i+1:Nat):Int)) (xcX h) (xcF p c i)).2):=by
 cases Of:p c
 ·refine yX {t:=DO 19 0 [(0,ab fs),(1,f),(4,aT 0),(7,aT (↑(MO fs):Int)),(8,aT (MN MM ((↑i:Int)+1)))],h:=h,m:=[]} M8 [.st (.mask [0,1,4,7,8])] [.b IN,.r hr,.i (@hi),.b Of] ?_ ?_<;>(simp[xcF,af,hw, *])
 ·refine yX {t:=DO 19 0 [(4,aT (↑i:Int))],h:=h,m:=[]} PL [.st (.mask [4])] [.b IN,.r hr,.i (@hi),.b Of] ?_ ?_<;>(simp[xcF,af,hw, *])
theorem Jz{fs:List (List Dp)}{i:Nat}{f:D}{h:List iN}(IN:Zd ((i:Int)<(fs.length:Int))=false):(CW MK At h false (sub Tryz.f331 0) (xcS fs f h i) (.exit 0) {t:=DO 19 0 [(4,aT 0)],h:=h,m:=[]}):=by
 exact yx [.st (.mask [4])] [.b IN]
def xcR(p:UA->Bool)(l:List UA):Int:=match Tq (xcF p) l 0 with | .inl _ => -1 | .inr k=>(k:Int)
def JA(h:List iN)(p:UA->Bool)(l:List UA):Exit×AS:=bu (.exit 0) (λ_:Nat=>{t:=DO 19 0 [(4,aT 0)],h:=h,m:=[]}) (xcX h) (Tq (xcF p) l 0)
theorem xc_cw{l:List UA}(hl:ah l){f:D}{h:List iN}{p:UA->Bool}(hf:∀c∈l,Iv MK At f [ag (NZ c)] h (iF (p c)) h):
  CW MK At h false (.loop (sub Tryz.f331 0)) (xcS (l.map NZ) f h 0) (JA h p l).1 (JA h p l).2:=by
 refine OS l (xcF p) (λi _=>xcS (l.map NZ) f h (i:Int)) (.exit 0) _ (xcX h) (λi s=>s=i) (by simp) (λ_=>by simp) ?_ ?_ 0 rfl
 ·intro i c s hc hs
  subst hs
  have hi:=(MR.1 hc).1
  refine⟨λs' h=>?_,Jy (rowAt hc rfl) (TG NZ hi) (T4 hi hl) (hf c (Ny hc))⟩
  grind [xcF]
 ·intro s hs
  exact Jz (be NZ l)
theorem xci_ev{l:List UA}(hl:ah l){f:D}{h:List iN}{p:UA->Bool}(hf:∀c∈l,Iv MK At f [ag (NZ c)] h (iF (p c)) h):(Ev MK At 331 [ab (l.map NZ),f] h (aT (xcR p l)) h):=by
 have Tv:=(@xc_cw (l) (hl) (f) (h) (p) (hf))
 unfold JA at Tv
 revert Tv
 cases Vj:Tq (xcF p) l 0 with
 | inl VC =>
  intro Tv
  exact Na (yF (h':=h) (d:=aT (-1)) [.s [0,1,4,7,8] Tv]) (by simp[xcR,Vj]) (by simp[xcR,Vj])
 | inr UD =>
  intro Tv
  exact Na (yF (h':=h) (d:=aT (↑UD:Int)) [.s [0,1,4,7,8] Tv]) (by simp[xcR,Vj]) (by simp[xcR,Vj])
theorem xc_any(p:UA->Bool)(l:List UA):∀k:Nat,(match Tq (xcF p) l k with | .inl _=>false | .inr _=>true)=l.any p:=by
 induction l with
 | nil=>intro k;rfl
 | cons f l ih =>
  intro k
  rw[Rh]
  cases hf:p f
  ·simp[Tq,xcF,hf]
   exact ih (k+1)
  ·simp[Tq,xcF,hf]
theorem xcR_ge(p:UA->Bool)(l:List UA):Zd (xcR p l>=0)=l.any p:=by
 rw[<-xc_any p l 0,xcR]
 split<;>simp
theorem xcc_ev{l:List UA}(hl:ah l){f:D}{h:List iN}{p:UA->Bool}(hf:∀c∈l,Iv MK At f [ag (NZ c)] h (iF (p c)) h):(Ev MK At 315 [ab (l.map NZ),f] h (iF (l.any p)) h):=by
 exact Na (yF (h':=h) (d:=iF (Zd (xcR p l>=0))) [.v (@xci_ev l hl f h p hf)]) (by grind [xcR_ge]) (by grind)
def xfF(p:TV->Bool)(c:TV)(s:Nat):Nat⊕Nat:=if p c=true then .inr s else .inl (s+1)
abbrev xfS(fs:List (List Dp))(f:D)(h:List iN)(i:Int):AS:={t:=DO 19 0 [(0,ab fs),(1,f),(4,aT 0),(7,aT fs.length),(8,aT i)],h:=h,m:=[]}
abbrev xfX(h:List iN):Nat->Exit×AS:=λk=>(.ret,{t:=DO 19 0 [(4,aT (k:Int))],h:=h,m:=[]})
theorem JB{fs:List (List Dp)}{i:Nat}{c:TV}{f:D}{h:List iN}{p:TV->Bool}(hr:ap (i:Int) fs (N8 c) 2)(IN:Zd ((i:Int)<(fs.length:Int))=true)(hw:MM.wrap ((i:Int)+1)=((i+1:Nat):Int))(hi:Iv MK At f [ag (N8 c)] h (iF (p c)) h):(CW MK At h false (sub Tryz.f332 0) (xfS fs f h i) (af (λ_=>xfS fs f h ((i+1:Nat):Int)) (xfX h) (xfF p c i)).1 (af (λ_=>xfS fs f h ((i+1:Nat):Int)) (xfX h) (xfF p c i)).2):=by
 cases Of:p c
 ·refine yX {t:=DO 19 0 [(0,ab fs),(1,f),(4,aT 0),(7,aT (↑(MO fs):Int)),(8,aT (MN MM ((↑i:Int)+1)))],h:=h,m:=[]} M8 [.st (.mask [0,1,4,7,8])] [.b IN,.r hr,.i (@hi),.b Of] ?_ ?_<;>(simp[xfF,af,hw, *])
 ·refine yX {t:=DO 19 0 [(4,aT (↑i:Int))],h:=h,m:=[]} PL [.st (.mask [4])] [.b IN,.r hr,.i (@hi),.b Of] ?_ ?_<;>(simp[xfF,af,hw, *])
theorem JC{fs:List (List Dp)}{i:Nat}{f:D}{h:List iN}(IN:Zd ((i:Int)<(fs.length:Int))=false):(CW MK At h false (sub Tryz.f332 0) (xfS fs f h i) (.exit 0) {t:=DO 19 0 [(4,aT 0)],h:=h,m:=[]}):=by
 exact yx [.st (.mask [4])] [.b IN]
def xfR(p:TV->Bool)(l:List TV):Int:=match Tq (xfF p) l 0 with | .inl _ => -1 | .inr k=>(k:Int)
def JD(h:List iN)(p:TV->Bool)(l:List TV):Exit×AS:=bu (.exit 0) (λ_:Nat=>{t:=DO 19 0 [(4,aT 0)],h:=h,m:=[]}) (xfX h) (Tq (xfF p) l 0)
theorem xf_cw{l:List TV}(hl:ah l){f:D}{h:List iN}{p:TV->Bool}(hf:∀c∈l,Iv MK At f [ag (N8 c)] h (iF (p c)) h):
  CW MK At h false (.loop (sub Tryz.f332 0)) (xfS (l.map N8) f h 0) (JD h p l).1 (JD h p l).2:=by
 refine OS l (xfF p) (λi _=>xfS (l.map N8) f h (i:Int)) (.exit 0) _ (xfX h) (λi s=>s=i) (by simp) (λ_=>by simp) ?_ ?_ 0 rfl
 ·intro i c s hc hs
  subst hs
  have hi:=(MR.1 hc).1
  refine⟨λs' h=>?_,JB (rowAt hc rfl) (TG N8 hi) (T4 hi hl) (hf c (Ny hc))⟩
  grind [xfF]
 ·intro s hs
  exact JC (be N8 l)
theorem xfi_ev{l:List TV}(hl:ah l){f:D}{h:List iN}{p:TV->Bool}(hf:∀c∈l,Iv MK At f [ag (N8 c)] h (iF (p c)) h):(Ev MK At 332 [ab (l.map N8),f] h (aT (xfR p l)) h):=by
 have Tv:=(@xf_cw (l) (hl) (f) (h) (p) (hf))
 unfold JD at Tv
 revert Tv
 cases Vj:Tq (xfF p) l 0 with
 | inl VC =>
  intro Tv
  exact Na (yF (h':=h) (d:=aT (-1)) [.s [0,1,4,7,8] Tv]) (by simp[xfR,Vj]) (by simp[xfR,Vj])
 | inr UD =>
  intro Tv
  exact Na (yF (h':=h) (d:=aT (↑UD:Int)) [.s [0,1,4,7,8] Tv]) (by simp[xfR,Vj]) (by simp[xfR,Vj])
theorem xf_any(p:TV->Bool)(l:List TV):∀k:Nat,(match Tq (xfF p) l k with | .inl _=>false | .inr _=>true)=l.any p:=by
 induction l with
 | nil=>intro k;rfl
 | cons f l ih =>
  intro k
  rw[Rh]
  cases hf:p f
  ·simp[Tq,xfF,hf]
   exact ih (k+1)
  ·simp[Tq,xfF,hf]
theorem xfR_ge(p:TV->Bool)(l:List TV):Zd (xfR p l>=0)=l.any p:=by
 rw[<-xf_any p l 0,xfR]
 split<;>simp
theorem xfc_ev{l:List TV}(hl:ah l){f:D}{h:List iN}{p:TV->Bool}(hf:∀c∈l,Iv MK At f [ag (N8 c)] h (iF (p c)) h):(Ev MK At 317 [ab (l.map N8),f] h (iF (l.any p)) h):=by
 exact Na (yF (h':=h) (d:=iF (Zd (xfR p l>=0))) [.v (@xfi_ev l hl f h p hf)]) (by grind [xfR_ge]) (by grind)
def xlF(p:T5->Bool)(c:T5)(s:Nat):Nat⊕Nat:=if p c=true then .inr s else .inl (s+1)
abbrev xlS(fs:List (List Dp))(f:D)(h:List iN)(i:Int):AS:={t:=DO 19 0 [(0,ab fs),(1,f),(4,aT 0),(7,aT fs.length),(8,aT i)],h:=h,m:=[]}
abbrev xlX(h:List iN):Nat->Exit×AS:=λk=>(.ret,{t:=DO 19 0 [(4,aT (k:Int))],h:=h,m:=[]})
theorem JE{fs:List (List Dp)}{i:Nat}{c:T5}{f:D}{h:List iN}{p:T5->Bool}(hr:ap (i:Int) fs (T5.row c) 4)(IN:Zd ((i:Int)<(fs.length:Int))=true)(hw:MM.wrap ((i:Int)+1)=((i+1:Nat):Int))(hi:Iv MK At f [ag (T5.row c)] h (iF (p c)) h):(CW MK At h false (sub Tryz.f333 0) (xlS fs f h i) (af (λ_=>xlS fs f h ((i+1:Nat):Int)) (xlX h) (xlF p c i)).1 (af (λ_=>xlS fs f h ((i+1:Nat):Int)) (xlX h) (xlF p c i)).2):=by
 cases Of:p c
 ·refine yX {t:=DO 19 0 [(0,ab fs),(1,f),(4,aT 0),(7,aT (↑(MO fs):Int)),(8,aT (MN MM ((↑i:Int)+1)))],h:=h,m:=[]} M8 [.st (.mask [0,1,4,7,8])] [.b IN,.r hr,.i (@hi),.b Of] ?_ ?_<;>(simp[xlF,af,hw, *])
 ·refine yX {t:=DO 19 0 [(4,aT (↑i:Int))],h:=h,m:=[]} PL [.st (.mask [4])] [.b IN,.r hr,.i (@hi),.b Of] ?_ ?_<;>(simp[xlF,af,hw, *])
theorem JF{fs:List (List Dp)}{i:Nat}{f:D}{h:List iN}(IN:Zd ((i:Int)<(fs.length:Int))=false):(CW MK At h false (sub Tryz.f333 0) (xlS fs f h i) (.exit 0) {t:=DO 19 0 [(4,aT 0)],h:=h,m:=[]}):=by
 exact yx [.st (.mask [4])] [.b IN]
def xlR(p:T5->Bool)(l:List T5):Int:=match Tq (xlF p) l 0 with | .inl _ => -1 | .inr k=>(k:Int)
def JG(h:List iN)(p:T5->Bool)(l:List T5):Exit×AS:=bu (.exit 0) (λ_:Nat=>{t:=DO 19 0 [(4,aT 0)],h:=h,m:=[]}) (xlX h) (Tq (xlF p) l 0)
theorem xl_cw{l:List T5}(hl:ah l){f:D}{h:List iN}{p:T5->Bool}(hf:∀c∈l,Iv MK At f [ag (T5.row c)] h (iF (p c)) h):
  CW MK At h false (.loop (sub Tryz.f333 0)) (xlS (l.map T5.row) f h 0) (JG h p l).1 (JG h p l).2:=by
 refine OS l (xlF p) (λi _=>xlS (l.map T5.row) f h (i:Int)) (.exit 0) _ (xlX h) (λi s=>s=i) (by simp) (λ_=>by simp) ?_ ?_ 0 rfl
 ·intro i c s hc hs
  subst hs
  have hi:=(MR.1 hc).1
  refine⟨λs' h=>?_,JE (rowAt hc rfl) (TG T5.row hi) (T4 hi hl) (hf c (Ny hc))⟩
  grind [xlF]
 ·intro s hs
  exact JF (be T5.row l)
theorem xli_ev{l:List T5}(hl:ah l){f:D}{h:List iN}{p:T5->Bool}(hf:∀c∈l,Iv MK At f [ag (T5.row c)] h (iF (p c)) h):(Ev MK At 333 [ab (l.map T5.row),f] h (aT (xlR p l)) h):=by
 have Tv:=(@xl_cw (l) (hl) (f) (h) (p) (hf))
 unfold JG at Tv
 revert Tv
 cases Vj:Tq (xlF p) l 0 with
 | inl VC =>
  intro Tv
  exact Na (yF (h':=h) (d:=aT (-1)) [.s [0,1,4,7,8] Tv]) (by simp[xlR,Vj]) (by simp[xlR,Vj])
 | inr UD =>
  intro Tv
  exact Na (yF (h':=h) (d:=aT (↑UD:Int)) [.s [0,1,4,7,8] Tv]) (by simp[xlR,Vj]) (by simp[xlR,Vj])
theorem xl_any(p:T5->Bool)(l:List T5):∀k:Nat,(match Tq (xlF p) l k with | .inl _=>false | .inr _=>true)=l.any p:=by
 induction l with
 | nil=>intro k;rfl
 | cons f l ih =>
  intro k
  rw[Rh]
  cases hf:p f
  ·simp[Tq,xlF,hf]
   exact ih (k+1)
  ·simp[Tq,xlF,hf]
theorem xlR_ge(p:T5->Bool)(l:List T5):Zd (xlR p l>=0)=l.any p:=by
 rw[<-xl_any p l 0,xlR]
 split<;>simp
theorem xlc_ev{l:List T5}(hl:ah l){f:D}{h:List iN}{p:T5->Bool}(hf:∀c∈l,Iv MK At f [ag (T5.row c)] h (iF (p c)) h):(Ev MK At 319 [ab (l.map T5.row),f] h (iF (l.any p)) h):=by
 exact Na (yF (h':=h) (d:=iF (Zd (xlR p l>=0))) [.v (@xli_ev l hl f h p hf)]) (by grind [xlR_ge]) (by grind)
def xW(c:UA):Bool:=U3 c.ON 0 10000&&(dS c.num c.den==0&&U3 c.num 0 (MM.wrap (12*c.den)))
theorem xX{a b:Int}(ha:U5 a)(hb:U5 b)(h:List iN):(Ev MK At 172 [.agg [aT a,aT b]] h (iF (dS a b==0&&U3 a 0 (MM.wrap (12*b)))) h):=by
 exact y0 [.v (@cY a b ha hb ([.var [aT a,aT b]])),.w (dS a b==0) (@bn a 0 (MN MM (12*b)) ([.var [aT a,aT b]]))] h
theorem JH{c:UA}(hc:c.ok)(h:List iN):(Ev MK At 276 [ag c.row] h (iF (xW c)) h):=by
 refine y0 [.v (@bn (c.ON) 0 10000 ([.var [aq c.name,aT c.ON,aT c.num,aT c.den]])),.w (Zd (c.ON>=0)&&Zd (c.ON<=10000)) (@xX (c.num) (c.den) ?_ ?_ ([.var [aq c.name,aT c.ON,aT c.num,aT c.den]]))] h<;>(first|exact hc.2.1|exact hc.2.2)
def rU(c:TV):Bool:=U3 c.oF 0 10000
theorem JI{c:TV}(h:List iN):(Ev MK At 277 [ag c.row] h (iF (rU c)) h):=by
 exact y0 [.v (@bn (c.oF) 0 10000 ([.var [aq c.name,aT c.oF]]))] h
def Hq(c:T5):Bool:=U3 c.kind 1 5&&U3 c.WP 0 2&&U3 c.action 1 3&&U3 c.UE 0 12
theorem bcl_ev{c:T5}(h:List iN):(Ev MK At 278 [ag c.row] h (iF (Hq c)) h):=by
 let v0:List iN:=[.var [aT c.kind,aT c.WP,aT c.action,aT c.UE]]
 exact y0 [.v (@bn (c.kind) 1 5 (v0)),.w (Zd (c.kind>=1)&&Zd (c.kind<=5)) (@bn (c.WP) 0 2 (v0)),.w (Zd (c.kind>=1)&&Zd (c.kind<=5)&&(Zd (c.WP>=0)&&Zd (c.WP<=2))) (@bn (c.action) 1 3 (v0)),.w (Zd (c.kind>=1)&&Zd (c.kind<=5)&&(Zd (c.WP>=0)&&Zd (c.WP<=2))&&(Zd (c.action>=1)&&Zd (c.action<=3))) (@bn (c.UE) 0 12 (v0))] h
noncomputable abbrev ui(c:UA):List iN:=[.var [fq 276],.var [aq c.name,aT c.ON,aT c.num,aT c.den]]
theorem BS{c:UA}(hc:c.ok):(Ev MK At 316 [ag (NZ c),.ref (.ptr 0 0)] [.var [UZ 276]] (iF (!xW c)) [.var [UZ 276]]):=by
 exact Na (yT (h':=[.var [fq 276]]) (d:=iF !xW c) [.v (@JH c hc (ui c))]) (by rfl) (by rfl)
theorem uj{l:List UA}(ha:∀c∈l,c.ok):∀c∈l,Iv MK At (.fn (.func 316) [] [.ref (.ptr 0 0)]) [ag (NZ c)] [.var [UZ 276]] (iF (!xW c)) [.var [UZ 276]]:=λc hm=>Iv.of Ug rfl (by kernel_rfl) (BS (ha c hm))
noncomputable abbrev ul:List iN:=[.var [fq 276]]
theorem um{l:List UA}(hl:ah l)(ha:∀c∈l,c.ok)(hf:∀c∈l,Iv MK At (.fn (.func 316) [] [.ref (.ptr 0 0)]) [ag (NZ c)] [.var [UZ 276]] (iF (!xW c)) [.var [UZ 276]])(h:List iN):(Ev MK At 279 [ab (l.map NZ),UZ 276] h (iF (!l.any λc=>!xW c)) h):=by
 exact y0 [.v (@xcc_ev l hl (Ot (Nl 316) [] [.ref (.ptr 0 0)]) ul (λc=>!xW c) hf)] h
noncomputable abbrev un(c:TV):List iN:=[.var [fq 277],.var [aq c.name,aT c.oF]]
theorem BT{c:TV}:(Ev MK At 318 [ag (N8 c),.ref (.ptr 0 0)] [.var [UZ 277]] (iF (!rU c)) [.var [UZ 277]]):=by
 exact Na (yT (h':=[.var [fq 277]]) (d:=iF !rU c) [.v (@JI c (un c))]) (by rfl) (by rfl)
theorem BU{l:List TV}:∀c∈l,Iv MK At (.fn (.func 318) [] [.ref (.ptr 0 0)]) [ag (N8 c)] [.var [UZ 277]] (iF (!rU c)) [.var [UZ 277]]:=λc hm=>Iv.of Ug rfl (by kernel_rfl) (BT )
noncomputable abbrev uo:List iN:=[.var [fq 277]]
theorem BW{l:List TV}(hl:ah l)(hf:∀c∈l,Iv MK At (.fn (.func 318) [] [.ref (.ptr 0 0)]) [ag (N8 c)] [.var [UZ 277]] (iF (!rU c)) [.var [UZ 277]])(h:List iN):(Ev MK At 280 [ab (l.map N8),UZ 277] h (iF (!l.any λc=>!rU c)) h):=by
 exact y0 [.v (@xfc_ev l hl (Ot (Nl 318) [] [.ref (.ptr 0 0)]) uo (λc=>!rU c) hf)] h
noncomputable abbrev uq(c:T5):List iN:=[.var [fq 278],.var [aT c.kind,aT c.WP,aT c.action,aT c.UE]]
theorem BX{c:T5}:(Ev MK At 320 [ag (T5.row c),.ref (.ptr 0 0)] [.var [UZ 278]] (iF (!Hq c)) [.var [UZ 278]]):=by
 exact Na (yT (h':=[.var [fq 278]]) (d:=iF !Hq c) [.v (@bcl_ev c (uq c))]) (by rfl) (by rfl)
theorem BZ{l:List T5}:∀c∈l,Iv MK At (.fn (.func 320) [] [.ref (.ptr 0 0)]) [ag (T5.row c)] [.var [UZ 278]] (iF (!Hq c)) [.var [UZ 278]]:=λc hm=>Iv.of Ug rfl (by kernel_rfl) (BX )
noncomputable abbrev ur:List iN:=[.var [fq 278]]
theorem B0{l:List T5}(hl:ah l)(hf:∀c∈l,Iv MK At (.fn (.func 320) [] [.ref (.ptr 0 0)]) [ag (T5.row c)] [.var [UZ 278]] (iF (!Hq c)) [.var [UZ 278]])(h:List iN):(Ev MK At 281 [ab (l.map T5.row),UZ 278] h (iF (!l.any λc=>!Hq c)) h):=by
 exact y0 [.v (@xlc_ev l hl (Ot (Nl 320) [] [.ref (.ptr 0 0)]) ur (λc=>!Hq c) hf)] h
structure TK where
 Ty:List UA
 UJ:List TV
 TA:List UA
 clauses:List T5
 deriving Inhabited
def TK.sys(s:TK):Vi.Sys:=⟨s.Ty,s.UJ,s.TA,s.clauses.map T5.row⟩
def TK.row(s:TK):List Dp:=[.sl (s.Ty.map NZ),.sl (s.UJ.map N8),.sl (s.TA.map NZ),.sl (s.clauses.map T5.row)]
def TK.ok(s:TK):Prop:=s.sys.ok
theorem TK.ok.sl{s:TK}(h:s.ok):ah s.clauses:=by have:=h.ll;grind [ah,TK.sys]
def B1(s:TK):Bool:=(!s.Ty.any λc=>!xW c)&&(!s.TA.any λc=>!xW c)&&(!s.UJ.any λc=>!rU c)&&(!s.clauses.any λc=>!Hq c)
noncomputable abbrev dC(s:TK):List iN:=[.var [ab (ML NZ s.Ty),ab (ML N8 s.UJ),ab (ML NZ s.TA),ab (ML T5.row s.clauses)]]
theorem ob{s:TK}(hs:s.ok)(h:List iN):(Ev MK At 208 [ag s.row] h (iF (B1 s)) h):=by
 refine y0 [.v (@um (s.Ty) ?_ ?_ ?_ (dC s)),.w (!Rr s.Ty λc=>!xW c) (@um (s.TA) ?_ ?_ ?_ (dC s)),.w ((!Rr s.Ty λc=>!xW c)&&!Rr s.TA λc=>!xW c) (@BW (s.UJ) ?_ ?_ (dC s)),.w (((!Rr s.Ty λc=>!xW c)&&!Rr s.TA λc=>!xW c)&&!Rr s.UJ λc=>!rU c) (@B0 (s.clauses) ?_ ?_ (dC s))] h<;>(first|exact hs.lc|exact hs.lh|exact hs.lf|exact hs.sl|exact hs.c|exact hs.h|exact uj hs.c|exact uj hs.h|exact BU|exact BZ)
abbrev kd'(a b c d:Bool)(f g:Value):List Dp:=[.v (.bool a),.v (.bool b),.v (.bool c),.v (.bool d),.v f,.v g]
abbrev YV(k:Nat):Value:=.func (.func k) #[] #[]
def B2:List Dp :=
 kd' false false false false .nilFunc .nilFunc++kd' false false false true (YV 354) (YV 355)++kd' false false false true (YV 356) (YV 357)++kd' false true false true (YV 358) (YV 359) ++
 kd' false false false true (YV 360) (YV 361)++kd' true true false false (YV 362) (YV 364)++kd' true true false false (YV 366) (YV 367)++kd' false true false false (YV 368) (YV 369) ++
 kd' false true true false (YV 370) (YV 371)++kd' true false false false (YV 363) (YV 372)
def Or:ao:=λg=>match g with|0=>some B2|_=>none
theorem JJ{a b:Int}(ha:U5 a)(hb:U5 b)(h:List iN):(Ev MK At 246 [.agg [aT a,aT b]] h (iF (dS a b==0&&Zd (a>=0)&&Zd (a<=MM.wrap (12*b)))) h):=by
 exact y0 [.v (@cY a b ha hb ([.var [aT a,aT b]]))] h
abbrev Yo(op c:Int)(nm:ByteArray)(n d:Int)(ks:List (List Dp)):D:=.agg [aT op,aT c,aq nm,aT n,aT d,ab ks]
theorem JK{op c:Int}{nm:ByteArray}{n d:Int}{ks:List (List Dp)}(h:List iN):(Ev MK At 354 [Yo op c nm n d ks] h (iF true) h):=by
 exact y0 [] h
theorem JL{op c:Int}{nm:ByteArray}{n d:Int}{ks:List (List Dp)}(h:List iN):(Ev MK At 356 [Yo op c nm n d ks] h (iF true) h):=by
 exact y0 [] h
theorem JM{op c:Int}{nm:ByteArray}{n d:Int}{ks:List (List Dp)}(h:List iN):(Ev MK At 358 [Yo op c nm n d ks] h (iF (U3 n 0 200)) h):=by
 exact y0 [.v (@bm n 0 200 ([.var [aT op,aT c,aq nm,aT n,aT d,ab ks]]))] h
theorem JN{op c:Int}{nm:ByteArray}{n d:Int}{ks:List (List Dp)}(h:List iN):(Ev MK At 360 [Yo op c nm n d ks] h (iF ((ks.length:Int)==1)) h):=by
 exact y0 [] h
theorem wh{op c:Int}{nm:ByteArray}{n d:Int}{ks:List (List Dp)}(h:List iN):(Ev MK At 363 [Yo op c nm n d ks] h (iF (U3 c 0 4095)) h):=by
 exact y0 [.v (@bm c 0 4095 ([.var [aT op,aT c,aq nm,aT n,aT d,ab ks]]))] h
theorem JO{op c:Int}{nm:ByteArray}{n d:Int}{ks:List (List Dp)}(h:List iN):(Ev MK At 362 [Yo op c nm n d ks] h (iF (U3 c 0 4095&&U3 n 0 12)) h):=by
 exact y0 [.v (@wh op c nm n d ks ([.var [aT op,aT c,aq nm,aT n,aT d,ab ks]])),.w (U3 c 0 4095) (@bm n 0 12 ([.var [aT op,aT c,aq nm,aT n,aT d,ab ks]]))] h
theorem JP{op c:Int}{nm:ByteArray}{n d:Int}{ks:List (List Dp)}(h:List iN):(Ev MK At 366 [Yo op c nm n d ks] h (iF (U3 c 0 4095&&U3 n 1 100)) h):=by
 exact y0 [.v (@wh op c nm n d ks ([.var [aT op,aT c,aq nm,aT n,aT d,ab ks]])),.w (U3 c 0 4095) (@bm n 1 100 ([.var [aT op,aT c,aq nm,aT n,aT d,ab ks]]))] h
theorem JQ{op c:Int}{nm:ByteArray}{n d:Int}{ks:List (List Dp)}(h:List iN):(Ev MK At 368 [Yo op c nm n d ks] h (iF (U3 n 0 10000)) h):=by
 exact y0 [.v (@bm n 0 10000 ([.var [aT op,aT c,aq nm,aT n,aT d,ab ks]]))] h
def JR(a b:Int):Bool:=dS a b==0&&Zd (a>=0)&&Zd (a<=MM.wrap (12*b))
theorem JS{op c:Int}{nm:ByteArray}{n d:Int}{ks:List (List Dp)}(hn:U5 n)(hd:U5 d)(h:List iN):(Ev MK At 370 [Yo op c nm n d ks] h (iF (JR n d)) h):=by
 exact y0 [.v (@JJ n d hn hd ([.var [aT op,aT c,aq nm,aT n,aT d,ab ks]]))] h
def aJ(op c n d k:Int):Bool :=
 if (!(op==5||op==6||op==9)&&c != 0||!(op==3||op==5||op==6||op==7||op==8)&&n != 0||op != 8&&d != 0||(Zd (op>=5)&&Zd (op<=9))&&Zd (k>0))=true then false
 else if op=1 then true else if op=2 then true else if op=3 then U3 n 0 200 else if op=4 then k==1 else if op=5 then U3 c 0 4095&&U3 n 0 12
 else if op=6 then U3 c 0 4095&&U3 n 1 100 else if op=7 then U3 n 0 10000 else if op=8 then JR n d else if op=9 then U3 c 0 4095 else false
noncomputable abbrev ut(c:Int)(nm:ByteArray)(n:Int)(d:Int)(ks:List (List Dp)):List iN:=[.var [aT 1,aT c,aq nm,aT n,aT d,ab ks],.var [iF false,iF false,iF false,iF true,fq 354,fq 355]]
theorem B3{c:Int}{nm:ByteArray}{n d:Int}{ks:List (List Dp)}(h:List iN):(Ev MK Or 232 [Yo 1 c nm n d ks] h (iF (aJ 1 c n d ks.length)) h):=by
 cases Of:!false&&c != 0||!false&&n != 0||!false&&d != 0||!true&&Zd ((↑(MO ks):Int)>0)
 ·exact yD (iF true) [.v (M9 (Γ':=Or) (@bm 1 1 9 ([.var [aT 1,aT c,aq nm,aT n,aT d,ab ks]]))),(rfl:TU 1 10=true),.e,.b Of,.v (M9 (Γ':=Or) (@JK 1 c nm n d ks (ut c nm n d ks)))] h (by grind [aJ])
 ·exact yD (iF false) [.v (M9 (Γ':=Or) (@bm 1 1 9 ([.var [aT 1,aT c,aq nm,aT n,aT d,ab ks]]))),(rfl:TU 1 10=true),.e,.b Of] h (by grind [aJ])
noncomputable abbrev uu(c:Int)(nm:ByteArray)(n:Int)(d:Int)(ks:List (List Dp)):List iN:=[.var [aT 2,aT c,aq nm,aT n,aT d,ab ks],.var [iF false,iF false,iF false,iF true,fq 356,fq 357]]
theorem B4{c:Int}{nm:ByteArray}{n d:Int}{ks:List (List Dp)}(h:List iN):(Ev MK Or 232 [Yo 2 c nm n d ks] h (iF (aJ 2 c n d ks.length)) h):=by
 cases Of:!false&&c != 0||!false&&n != 0||!false&&d != 0||!true&&Zd ((↑(MO ks):Int)>0)
 ·exact yD (iF true) [.v (M9 (Γ':=Or) (@bm 2 1 9 ([.var [aT 2,aT c,aq nm,aT n,aT d,ab ks]]))),(rfl:TU 2 10=true),.e,.b Of,.v (M9 (Γ':=Or) (@JL 2 c nm n d ks (uu c nm n d ks)))] h (by grind [aJ])
 ·exact yD (iF false) [.v (M9 (Γ':=Or) (@bm 2 1 9 ([.var [aT 2,aT c,aq nm,aT n,aT d,ab ks]]))),(rfl:TU 2 10=true),.e,.b Of] h (by grind [aJ])
noncomputable abbrev uv(c:Int)(nm:ByteArray)(n:Int)(d:Int)(ks:List (List Dp)):List iN:=[.var [aT 3,aT c,aq nm,aT n,aT d,ab ks],.var [iF false,iF true,iF false,iF true,fq 358,fq 359]]
theorem B5{c:Int}{nm:ByteArray}{n d:Int}{ks:List (List Dp)}(h:List iN):(Ev MK Or 232 [Yo 3 c nm n d ks] h (iF (aJ 3 c n d ks.length)) h):=by
 cases Of:!false&&c != 0||!true&&n != 0||!false&&d != 0||!true&&Zd ((↑(MO ks):Int)>0)
 ·exact yD (iF (U3 n 0 200)) [.v (M9 (Γ':=Or) (@bm 3 1 9 ([.var [aT 3,aT c,aq nm,aT n,aT d,ab ks]]))),(rfl:TU 3 10=true),.e,.b Of,.v (M9 (Γ':=Or) (@JM 3 c nm n d ks (uv c nm n d ks)))] h (by grind [aJ])
 ·exact yD (iF false) [.v (M9 (Γ':=Or) (@bm 3 1 9 ([.var [aT 3,aT c,aq nm,aT n,aT d,ab ks]]))),(rfl:TU 3 10=true),.e,.b Of] h (by grind [aJ])
noncomputable abbrev uw(c:Int)(nm:ByteArray)(n:Int)(d:Int)(ks:List (List Dp)):List iN:=[.var [aT 4,aT c,aq nm,aT n,aT d,ab ks],.var [iF false,iF false,iF false,iF true,fq 360,fq 361]]
theorem B6{c:Int}{nm:ByteArray}{n d:Int}{ks:List (List Dp)}(h:List iN):(Ev MK Or 232 [Yo 4 c nm n d ks] h (iF (aJ 4 c n d ks.length)) h):=by
 cases Of:!false&&c != 0||!false&&n != 0||!false&&d != 0||!true&&Zd ((↑(MO ks):Int)>0)
 ·exact yD (iF ((↑(MO ks):Int)==1)) [.v (M9 (Γ':=Or) (@bm 4 1 9 ([.var [aT 4,aT c,aq nm,aT n,aT d,ab ks]]))),(rfl:TU 4 10=true),.e,.b Of,.v (M9 (Γ':=Or) (@JN 4 c nm n d ks (uw c nm n d ks)))] h (by grind [aJ])
 ·exact yD (iF false) [.v (M9 (Γ':=Or) (@bm 4 1 9 ([.var [aT 4,aT c,aq nm,aT n,aT d,ab ks]]))),(rfl:TU 4 10=true),.e,.b Of] h (by grind [aJ])
noncomputable abbrev ux(c:Int)(nm:ByteArray)(n:Int)(d:Int)(ks:List (List Dp)):List iN:=[.var [aT 5,aT c,aq nm,aT n,aT d,ab ks],.var [iF true,iF true,iF false,iF false,fq 362,fq 364]]
theorem B7{c:Int}{nm:ByteArray}{n d:Int}{ks:List (List Dp)}(h:List iN):(Ev MK Or 232 [Yo 5 c nm n d ks] h (iF (aJ 5 c n d ks.length)) h):=by
 cases Of:!true&&c != 0||!true&&n != 0||!false&&d != 0||!false&&Zd ((↑(MO ks):Int)>0)
 ·exact yD (iF (U3 c 0 4095&&U3 n 0 12)) [.v (M9 (Γ':=Or) (@bm 5 1 9 ([.var [aT 5,aT c,aq nm,aT n,aT d,ab ks]]))),(rfl:TU 5 10=true),.e,.b Of,.v (M9 (Γ':=Or) (@JO 5 c nm n d ks (ux c nm n d ks)))] h (by grind [aJ])
 ·exact yD (iF false) [.v (M9 (Γ':=Or) (@bm 5 1 9 ([.var [aT 5,aT c,aq nm,aT n,aT d,ab ks]]))),(rfl:TU 5 10=true),.e,.b Of] h (by grind [aJ])
noncomputable abbrev uy(c:Int)(nm:ByteArray)(n:Int)(d:Int)(ks:List (List Dp)):List iN:=[.var [aT 6,aT c,aq nm,aT n,aT d,ab ks],.var [iF true,iF true,iF false,iF false,fq 366,fq 367]]
theorem B8{c:Int}{nm:ByteArray}{n d:Int}{ks:List (List Dp)}(h:List iN):(Ev MK Or 232 [Yo 6 c nm n d ks] h (iF (aJ 6 c n d ks.length)) h):=by
 cases Of:!true&&c != 0||!true&&n != 0||!false&&d != 0||!false&&Zd ((↑(MO ks):Int)>0)
 ·exact yD (iF (U3 c 0 4095&&U3 n 1 100)) [.v (M9 (Γ':=Or) (@bm 6 1 9 ([.var [aT 6,aT c,aq nm,aT n,aT d,ab ks]]))),(rfl:TU 6 10=true),.e,.b Of,.v (M9 (Γ':=Or) (@JP 6 c nm n d ks (uy c nm n d ks)))] h (by grind [aJ])
 ·exact yD (iF false) [.v (M9 (Γ':=Or) (@bm 6 1 9 ([.var [aT 6,aT c,aq nm,aT n,aT d,ab ks]]))),(rfl:TU 6 10=true),.e,.b Of] h (by grind [aJ])
noncomputable abbrev uz(c:Int)(nm:ByteArray)(n:Int)(d:Int)(ks:List (List Dp)):List iN:=[.var [aT 7,aT c,aq nm,aT n,aT d,ab ks],.var [iF false,iF true,iF false,iF false,fq 368,fq 369]]
theorem B9{c:Int}{nm:ByteArray}{n d:Int}{ks:List (List Dp)}(h:List iN):(Ev MK Or 232 [Yo 7 c nm n d ks] h (iF (aJ 7 c n d ks.length)) h):=by
 cases Of:!false&&c != 0||!true&&n != 0||!false&&d != 0||!false&&Zd ((↑(MO ks):Int)>0)
 ·exact yD (iF (U3 n 0 10000)) [.v (M9 (Γ':=Or) (@bm 7 1 9 ([.var [aT 7,aT c,aq nm,aT n,aT d,ab ks]]))),(rfl:TU 7 10=true),.e,.b Of,.v (M9 (Γ':=Or) (@JQ 7 c nm n d ks (uz c nm n d ks)))] h (by grind [aJ])
 ·exact yD (iF false) [.v (M9 (Γ':=Or) (@bm 7 1 9 ([.var [aT 7,aT c,aq nm,aT n,aT d,ab ks]]))),(rfl:TU 7 10=true),.e,.b Of] h (by grind [aJ])
noncomputable abbrev uA(c:Int)(nm:ByteArray)(n:Int)(d:Int)(ks:List (List Dp)):List iN:=[.var [aT 8,aT c,aq nm,aT n,aT d,ab ks],.var [iF false,iF true,iF true,iF false,fq 370,fq 371]]
theorem Ca{c:Int}{nm:ByteArray}{n d:Int}{ks:List (List Dp)}(hn:U5 n)(hd:U5 d)(h:List iN):(Ev MK Or 232 [Yo 8 c nm n d ks] h (iF (aJ 8 c n d ks.length)) h):=by
 cases Of:!false&&c != 0||!true&&n != 0||!true&&d != 0||!false&&Zd ((↑(MO ks):Int)>0)
 ·exact yD (iF (JR n d)) [.v (M9 (Γ':=Or) (@bm 8 1 9 ([.var [aT 8,aT c,aq nm,aT n,aT d,ab ks]]))),(rfl:TU 8 10=true),.e,.b Of,.v (M9 (Γ':=Or) (@JS 8 c nm n d ks hn hd (uA c nm n d ks)))] h (by grind [aJ])
 ·exact yD (iF false) [.v (M9 (Γ':=Or) (@bm 8 1 9 ([.var [aT 8,aT c,aq nm,aT n,aT d,ab ks]]))),(rfl:TU 8 10=true),.e,.b Of] h (by grind [aJ])
noncomputable abbrev uB(c:Int)(nm:ByteArray)(n:Int)(d:Int)(ks:List (List Dp)):List iN:=[.var [aT 9,aT c,aq nm,aT n,aT d,ab ks],.var [iF true,iF false,iF false,iF false,fq 363,fq 372]]
theorem Cb{c:Int}{nm:ByteArray}{n d:Int}{ks:List (List Dp)}(h:List iN):(Ev MK Or 232 [Yo 9 c nm n d ks] h (iF (aJ 9 c n d ks.length)) h):=by
 cases Of:!true&&c != 0||!false&&n != 0||!false&&d != 0||!false&&Zd ((↑(MO ks):Int)>0)
 ·exact yD (iF (U3 c 0 4095)) [.v (M9 (Γ':=Or) (@bm 9 1 9 ([.var [aT 9,aT c,aq nm,aT n,aT d,ab ks]]))),(rfl:TU 9 10=true),.e,.b Of,.v (M9 (Γ':=Or) (@wh 9 c nm n d ks (uB c nm n d ks)))] h (by grind [aJ])
 ·exact yD (iF false) [.v (M9 (Γ':=Or) (@bm 9 1 9 ([.var [aT 9,aT c,aq nm,aT n,aT d,ab ks]]))),(rfl:TU 9 10=true),.e,.b Of] h (by grind [aJ])
theorem Cc{op c:Int}{nm:ByteArray}{n d:Int}{ks:List (List Dp)}(ho:(!(Zd (op>=1)&&Zd (op<=9)))=true)(h:List iN):(Ev MK Or 232 [Yo op c nm n d ks] h (iF false) h):=by
 exact y0 [.v (M9 (Γ':=Or) (@bm op 1 9 ([.var [aT op,aT c,aq nm,aT n,aT d,ab ks]]))),.b ho] h
theorem uC{op c:Int}{nm:ByteArray}{n d:Int}{ks:List (List Dp)}(hn:U5 n)(hd:U5 d)(h:List iN):Ev MK Or 232 [Yo op c nm n d ks] h (iF (aJ op c n d ks.length)) h:=by
 by_cases ho:(!(Zd (op>=1)&&Zd (op<=9)))=true
 ·have:=Cc (op:=op) (c:=c) (nm:=nm) (n:=n) (d:=d) (ks:=ks) ho h
  have e:aJ op c n d ks.length=false:=by
   simp only[Oy,Bool.and_eq_false_iff,decide_eq_false_iff_not] at ho
   unfold aJ
   split
   ·rfl
   ·grind
  grind
 ·have:op=1\/op=2\/op=3\/op=4\/op=5\/op=6\/op=7\/op=8\/op=9:=by
   simp only[Oy,Bool.not_eq_false,Bool.and_eq_true,decide_eq_true_eq] at ho
   omega
  rcases this with rfl|rfl|rfl|rfl|rfl|rfl|rfl|rfl|rfl
  ·exact B3 h
  ·exact B4 h
  ·exact B5 h
  ·exact B6 h
  ·exact B7 h
  ·exact B8 h
  ·exact B9 h
  ·exact Ca hn hd h
  ·exact Cb h
inductive BV where
 | mk (op dO:Int) (name:ByteArray) (n d:Int) (kids:List BV)
mutual
def BV.row:BV->List Dp
 | .mk op c nm n d ks=>[vi op,vi c,vs nm,vi n,vi d,.sl (jH ks)]
def jH:List BV->List (List Dp)
 | []=>[]
 | k::ks=>k.row::jH ks
end
theorem eA:∀ks:List BV,jH ks=ks.map BV.row
 | []=>rfl
 | k::ks=>by simp[jH,eA ks]
mutual
def BV.ok:BV->Prop
 | .mk op c _ n d ks=>(U5 op/\U5 c/\U5 n/\U5 d/\ah ks)/\iJ ks
def iJ:List BV->Prop
 | []=>True
 | k::ks=>k.ok/\iJ ks
end
theorem oc:∀{ks:List BV},iJ ks->∀k∈ks,k.ok
 | [],_,k,hk=>by simp at hk
 | a::ks,h,k,hk=>by
  simp[iJ] at h
  rcases List.mem_cons.1 hk with rfl|hk
  ·exact h.1
  ·exact oc h.2 k hk
structure Vf where
 op:Int
 c:Int
 nm:ByteArray
 n:Int
 d:Int
 ks:List (List Dp)
def Vf.row(x:Vf):List Dp:=[vi x.op,vi x.c,vs x.nm,vi x.n,vi x.d,.sl x.ks]
def Vf.l(x:Vf):List D:=[aT x.op,aT x.c,aq x.nm,aT x.n,aT x.d,ab x.ks]
def Vf.formed(x:Vf):Bool:=aJ x.op x.c x.n x.d x.ks.length
def Vf.ok(x:Vf):Prop:=U5 x.n/\U5 x.d
def od(n1 dep:Int)(f:Bool):Bool:=Zd (n1>200)||Zd (dep>16)||!f
abbrev ckT:List D:=DO 23 0 [(2,.ref (.ptr 1 0)),(3,.ref (.ptr 2 0)),(7,.fn (.func 288) [] [.ref (.ptr 4 0),.ref (.ptr 3 0)])]
noncomputable abbrev Vk(r:Vf)(e n:Int)(st:LoopState)(pe:Option Code):List iN :=
 [.var r.l,.var [aT e],.var [aT n],.var r.l,.var [.fn (.func 287) [] [.ref (.ptr 4 0)]],.Ts,.loop st pe 0 ckT #[8,9] (au (sub NL 0)) (ai (sub NL 0))]
abbrev ckU(dep:Int):List D:=DO 23 0 [(2,.ref (.ptr 1 0)),(3,.ref (.ptr 2 0)),(4,aT dep),(5,.ref (.ptr 8 0)),(7,.fn (.func 288) [] [.ref (.ptr 4 0),.ref (.ptr 3 0)])]
theorem Hr{r0:Vf}{m dep:Int}{x:Vf}:(CW MK Or (Vk r0 0 m .ready none++[.var (x.l)]) true (au (sub NL 0)) {t:=dL ckT [(8,aT dep),(9,.agg x.l)],h:=Vk r0 0 m .ready none++[.var (x.l)],m:=[]} .normal {t:=ckU dep,h:=Vk r0 0 m .ready none++[.var (x.l),.var (x.l)],m:=[]}):=by
 exact yx [.st (.mask [2,3,4,5,7])] []
noncomputable def pa(r0:Vf)(m1:Int)(more:List iN)(b:Bool):Exit×AS:=match b with
 | true=>(.ret,{t:=DO 23 0 [],h:=Vk r0 120 m1 .busy none++more,m:=[]})
 | false=>(.normal,{t:=DO 23 0 [],h:=Vk r0 0 m1 .busy none++more,m:=[]})
noncomputable abbrev kT(r0:Vf)(m:Int)(x:Vf):List iN:=[.var [aT r0.op,aT r0.c,aq r0.nm,aT r0.n,aT r0.d,ab r0.ks],.var [aT 0],.var [aT (MN MM (m+1))],.var [aT r0.op,aT r0.c,aq r0.nm,aT r0.n,aT r0.d,ab r0.ks],.var [Ot (Nl 287) [] [.ref (.ptr 4 0)]],.Ts,.loop Nu none 0 (DO 23 0 [(2,.ref (.ptr 1 0)),(3,.ref (.ptr 2 0)),(7,Ot (Nl 288) [] [.ref (.ptr 4 0),.ref (.ptr 3 0)])]) {toList:=[8,9]} (au (sub NL 0)) (ai (sub NL 0)),.var [aT x.op,aT x.c,aq x.nm,aT x.n,aT x.d,ab x.ks],.var [aT x.op,aT x.c,aq x.nm,aT x.n,aT x.d,ab x.ks]]
theorem JT{r0:Vf}{m dep:Int}{x:Vf}(hx:x.ok):(CW MK Or (Vk r0 0 m .ready none++[.var (x.l)]) true (ai (sub NL 0)) {t:=ckU dep,h:=Vk r0 0 m .busy none++[.var (x.l),.var (x.l)],m:=[]} (pa r0 (MM.wrap (m+1)) [.var (x.l),.var (x.l)] (od (MM.wrap (m+1)) dep (x.formed))).1 (pa r0 (MM.wrap (m+1)) [.var (x.l),.var (x.l)] (od (MM.wrap (m+1)) dep (x.formed))).2):=by
 cases Of:Zd (MN MM (m+1)>200)||Zd (dep>16)||!aJ x.op x.c x.n x.d (↑(MO x.ks):Int)
 ·refine yX {t:=DO 23 0 [],h:=(kT r0 m x),m:=[]} M8 [.st (.mask [])] [.w (!(Zd (MN MM (m+1)>200)||Zd (dep>16))) (@uC (x.op) (x.c) (x.nm) (x.n) (x.d) (x.ks) ?_ ?_ (kT r0 m x)),.b Of] (by(have hs:od (MM.wrap (m+1)) dep (x.formed)=false:=Of;(first|(simp[hs,pa];done)|(simp only[hs,pa];rfl)))) (by(have hs:od (MM.wrap (m+1)) dep (x.formed)=false:=Of;(first|(simp only[hs,pa];done)|(simp only[hs,pa];rfl))))<;>(first|exact hx.1|exact hx.2)
 ·let v0:List D:=[aT r0.op,aT r0.c,aq r0.nm,aT r0.n,aT r0.d,ab r0.ks]
  let v1:List D:=[aT x.op,aT x.c,aq x.nm,aT x.n,aT x.d,ab x.ks]
  refine yX {t:=DO 23 0 [],h:=[.var v0,.var [aT 120],.var [aT (MN MM (m+1))],.var v0,.var [Ot (Nl 287) [] [.ref (.ptr 4 0)]],.Ts,.loop Nu none 0 (DO 23 0 [(2,.ref (.ptr 1 0)),(3,.ref (.ptr 2 0)),(7,Ot (Nl 288) [] [.ref (.ptr 4 0),.ref (.ptr 3 0)])]) {toList:=[8,9]} (au (sub NL 0)) (ai (sub NL 0)),.var v1,.var v1],m:=[]} PL [.st (.mask [])] [.w (!(Zd (MN MM (m+1)>200)||Zd (dep>16))) (@uC (x.op) (x.c) (x.nm) (x.n) (x.d) (x.ks) ?_ ?_ (kT r0 m x)),.b Of] (by subst v0 v1;(have hs:od (MM.wrap (m+1)) dep (x.formed)=true:=Of;(first|(simp[hs,pa];done)|(simp only[hs,pa];rfl)))) (by subst v0 v1;(have hs:od (MM.wrap (m+1)) dep (x.formed)=true:=Of;(first|(simp only[hs,pa];done)|(simp only[hs,pa];rfl))))<;>subst v0 v1<;>(first|exact hx.1|exact hx.2)
noncomputable def ckSt(r0:Vf)(m1:Int)(b:Bool):List iN:=match b with
 | true=>Vk r0 120 m1 .done (some .ret)
 | false=>Vk r0 0 m1 .ready none
theorem JU{r0:Vf}{m dep:Int}{x:Vf}(hx:x.ok):Iv MK Or (.ref (.yl 6)) [aT dep,.agg x.l] (Vk r0 0 m .ready none++[.var (x.l)]) (iF (!od (MM.wrap (m+1)) dep (x.formed)))
  (ckSt r0 (MM.wrap (m+1)) (od (MM.wrap (m+1)) dep (x.formed))++[.var (x.l),.var (x.l)]):=by
 have hb:=JT (r0:=r0) (m:=m) (dep:=dep) hx
 cases h:od (MM.wrap (m+1)) dep (x.formed)
 ·rw[h] at hb
  exact Iv.round (h1:=Vk r0 0 m .ready none++[.var (x.l),.var (x.l)]) rfl rfl Hr rfl hb rfl
 ·rw[h] at hb
  exact Iv.round (h1:=Vk r0 0 m .ready none++[.var (x.l),.var (x.l)]) rfl rfl Hr rfl hb rfl
mutual
def BV.walk:BV->Int->Int->Int×Bool
 | .mk op c _ n d ks,dep,m=>match od (MM.wrap (m+1)) dep (aJ op c n d ks.length) with
  | true=>(MM.wrap (m+1),true)
  | false=>XE ks (MM.wrap (dep+1)) (MM.wrap (m+1))
def XE:List BV->Int->Int->Int×Bool
 | [],_,m=>(m,false)
 | k::ks,dep,m=>match k.walk dep m with
  | (m',true)=>(m',true)
  | (m',false)=>XE ks dep m'
end
abbrev wkF(dep:Int)(k:BV)(m:Int):Int⊕Int:=match k.walk dep m with
 | (m',true)=>.inr m'
 | (m',false)=>.inl m'
theorem qn(dep:Int):∀(ks:List BV) (m:Int),Tq (wkF dep) ks m=match XE ks dep m with|(m',true)=>.inr m'|(m',false)=>.inl m'
 | [],m=>by simp[Tq,XE]
 | k::ks,m=>by
  simp[Tq,XE,wkF]
  cases h:k.walk dep m with
  | mk m' b=>cases b with
   | true=>rfl
   | false=>exact qn dep ks m'
noncomputable abbrev wkS(x r0:Vf)(dep m i:Int):AS:={t:=DO 30 0 [(1,aT dep),(2,.ref (.yl 6)),(3,.ref (.ptr 4 0)),(7,iF false),(16,ab x.ks),(17,aT x.ks.length),(18,aT i)],h:=Vk r0 0 m .ready none++[.var (x.l)],m:=[]}
theorem Fm{x r0:Vf}{dep m m0:Int}{i:Nat}{m':Int}{y:Vf}(hr:ap (i:Int) x.ks y.row 6)(IN:Zd ((i:Int)<(x.ks.length:Int))=true)(hw:MM.wrap ((i:Int)+1)=((i+1:Nat):Int))
  (hk:Ev MK Or 287 [.agg y.l,aT (MM.wrap (dep+1)),.ref (.yl 6),.ref (.ptr 4 0)] (Vk r0 0 m .ready none) (iF true) (Vk r0 0 m' .ready none)):(CW MK Or (Vk r0 0 m0 .ready none) false (sub Sg 0) (wkS x r0 dep m i) .normal (wkS x r0 dep m' ((i+1:Nat):Int))):=by
 let v0:List D:=[aT r0.op,aT r0.c,aq r0.nm,aT r0.n,aT r0.d,ab r0.ks]
 let v1:List D:=[aT x.op,aT x.c,aq x.nm,aT x.n,aT x.d,ab x.ks]
 let v2:List D:=[aT y.op,aT y.c,aq y.nm,aT y.n,aT y.d,ab y.ks]
 let v3:List D:=[.ref (.ptr 4 0),.ref (.ptr 3 0)]
 exact yX {t:=DO 30 0 [(1,aT dep),(2,.ref (.yl 6)),(3,.ref (.ptr 4 0)),(7,iF false),(16,ab x.ks),(17,aT (↑(MO x.ks):Int)),(18,aT (MN MM ((↑i:Int)+1)))],h:=[.var v0,.var [aT 0],.var [aT m'],.var v0,.var [Ot (Nl 287) [] [.ref (.ptr 4 0)]],.Ts,.loop Np none 0 (DO 23 0 [(2,.ref (.ptr 1 0)),(3,.ref (.ptr 2 0)),(7,Ot (Nl 288) [] v3)]) {toList:=[8,9]} (au (sub NL 0)) (ai (sub NL 0)),.var v1],m:=[]} M8 [.st (.mask [1,2,3,7,16,17,18]),.st (.trim 8)] [.b IN,.r hr,.c ((fX [0,1,2,3,4,5,6] (@hk) trivial trivial):Ev MK Or 287 [Nk v2,aT (MN MM (dep+1)),.ref (.yl 6),.ref (.ptr 4 0)] [.var v0,.var [aT 0],.var [aT m],.var v0,.var [Ot (Nl 287) [] [.ref (.ptr 4 0)]],.Ts,.loop Np none 0 (DO 23 0 [(2,.ref (.ptr 1 0)),(3,.ref (.ptr 2 0)),(7,Ot (Nl 288) [] v3)]) {toList:=[8,9]} (au (sub NL 0)) (ai (sub NL 0)),.var v1,.var v2] (iF true) [.var v0,.var [aT 0],.var [aT m'],.var v0,.var [Ot (Nl 287) [] [.ref (.ptr 4 0)]],.Ts,.loop Np none 0 (DO 23 0 [(2,.ref (.ptr 1 0)),(3,.ref (.ptr 2 0)),(7,Ot (Nl 288) [] v3)]) {toList:=[8,9]} (au (sub NL 0)) (ai (sub NL 0)),.var v1,.var v2]),.e] (by subst v0 v1 v2 v3;grind) (by subst v0 v1 v2 v3;(rw[hw];rfl))
noncomputable abbrev wkX(x r0:Vf)(m:Int):Exit×AS:=(.ret,{t:=DO 30 0 [(7,iF false)],h:=Vk r0 120 m .done (some .ret)++[.var (x.l)],m:=[]})
theorem Fo{x r0:Vf}{dep m m0:Int}{i:Nat}{m':Int}{y:Vf}(hr:ap (i:Int) x.ks y.row 6)(IN:Zd ((i:Int)<(x.ks.length:Int))=true)
  (hk:Ev MK Or 287 [.agg y.l,aT (MM.wrap (dep+1)),.ref (.yl 6),.ref (.ptr 4 0)] (Vk r0 0 m .ready none) (iF false) (Vk r0 120 m' .done (some .ret))):(CW MK Or (Vk r0 0 m0 .ready none) false (sub Sg 0) (wkS x r0 dep m i) (wkX x r0 m').1 (wkX x r0 m').2):=by
 let v0:List D:=[aT r0.op,aT r0.c,aq r0.nm,aT r0.n,aT r0.d,ab r0.ks]
 let v1:List D:=[aT y.op,aT y.c,aq y.nm,aT y.n,aT y.d,ab y.ks]
 let v2:List D:=[aT x.op,aT x.c,aq x.nm,aT x.n,aT x.d,ab x.ks]
 exact yx [.st (.mask [7]),.st (.trim 8)] [.b IN,.r hr,.c ((fX [0,1,2,3,4,5,6] (@hk) trivial trivial):Ev MK Or 287 [Nk v1,aT (MN MM (dep+1)),.ref (.yl 6),.ref (.ptr 4 0)] [.var v0,.var [aT 0],.var [aT m],.var v0,.var [Ot (Nl 287) [] [.ref (.ptr 4 0)]],.Ts,.loop Np none 0 (DO 23 0 [(2,.ref (.ptr 1 0)),(3,.ref (.ptr 2 0)),(7,Ot (Nl 288) [] [.ref (.ptr 4 0),.ref (.ptr 3 0)])]) {toList:=[8,9]} (au (sub NL 0)) (ai (sub NL 0)),.var v2,.var v1] (iF false) [.var v0,.var [aT 120],.var [aT m'],.var v0,.var [Ot (Nl 287) [] [.ref (.ptr 4 0)]],.Ts,.loop Qz (some SN) 0 (DO 23 0 [(2,.ref (.ptr 1 0)),(3,.ref (.ptr 2 0)),(7,Ot (Nl 288) [] [.ref (.ptr 4 0),.ref (.ptr 3 0)])]) {toList:=[8,9]} (au (sub NL 0)) (ai (sub NL 0)),.var v2,.var v1]),.e]
theorem JV{x r0:Vf}{dep m m0:Int}{i:Nat}(IN:Zd ((i:Int)<(x.ks.length:Int))=false):(CW MK Or (Vk r0 0 m0 .ready none) false (sub Sg 0) (wkS x r0 dep m i) (.exit 0) {t:=DO 30 0 [(7,iF false)],h:=Vk r0 0 m .ready none++[.var (x.l)],m:=[]}):=by
 exact yx [.st (.mask [7]),.st (.trim 8)] [.b IN]
def BV.fl:BV->Vf
 | .mk op c nm n d ks=>⟨op,c,nm,n,d,jH ks⟩
theorem BV.ζ(r:BV):r.fl.row=r.row:=by cases r;rfl
theorem BV.fl_ok{r:BV}(h:r.ok):r.fl.ok:=by cases r;simp[BV.ok] at h;exact⟨h.1.2.2.1,h.1.2.2.2.1⟩
noncomputable def wkFin(x r0:Vf)(p:Int⊕Int):Exit×AS:=bu (.exit 0) (λm'=>{t:=DO 30 0 [(7,iF false)],h:=Vk r0 0 m' .ready none++[.var x.l],m:=[]}) (λm'=>wkX x r0 m') p
theorem wk_cw{r0 x:Vf}{ks:List BV}(hx:x.ks=ks.map BV.row)(hl:ah ks){dep m m0:Int}(hk:∀k∈ks,∀m,Ev MK Or 287 [.agg k.fl.l,aT (MM.wrap (dep+1)),.ref (.yl 6),.ref (.ptr 4 0)] (Vk r0 0 m .ready none) (iF (!(k.walk (MM.wrap (dep+1)) m).2)) (ckSt r0 (k.walk (MM.wrap (dep+1)) m).1 (k.walk (MM.wrap (dep+1)) m).2)):
  CW MK Or (Vk r0 0 m0 .ready none) false (.loop (sub Sg 0)) (wkS x r0 dep m 0) (wkFin x r0 (Tq (wkF (MM.wrap (dep+1))) ks m)).1 (wkFin x r0 (Tq (wkF (MM.wrap (dep+1))) ks m)).2:=by
 refine OS ks (wkF (MM.wrap (dep+1))) (λi m=>wkS x r0 dep m (i:Int)) (.exit 0) _ (λm'=>wkX x r0 m') (λ_ _=>True) (by simp) (λ_=>by simp) ?_ ?_ m trivial
 ·intro i k m hki _
  have hi:=(MR.1 hki).1
  have hr:ap (i:Int) x.ks k.fl.row 6:=by rw[hx,k.ζ];exact rowAt hki (by cases k;rfl)
  have IN:Zd ((i:Int)<(x.ks.length:Int))=true:=by rw[hx];exact TG _ hi
  have hev:=hk k (Ny hki) m
  refine⟨λ_ _=>trivial,?_⟩
  simp only[wkF]
  cases hw:k.walk (MM.wrap (dep+1)) m with
  | mk m' b =>
   rw[hw] at hev
   cases b with
   | true=>exact Fo hr IN hev
   | false=>exact Fm hr IN (T4 hi hl) hev
 ·intro m _
  exact JV (by grind)
theorem walkA{r0 x:Vf}{dep m m':Int}(hi:Iv MK Or (.ref (.yl 6)) [aT dep,.agg x.l] (Vk r0 0 m .ready none++[.var x.l]) (iF false) (Vk r0 120 m' .done (some .ret)++[.var x.l,.var x.l])):(Ev MK Or 287 [.agg x.l,aT dep,.ref (.yl 6),.ref (.ptr 4 0)] (Vk r0 0 m .ready none) (iF false) (Vk r0 120 m' .done (some .ret))):=by
 let v0:List D:=[aT r0.op,aT r0.c,aq r0.nm,aT r0.n,aT r0.d,ab r0.ks]
 exact Na (yT (h':=[.var v0,.var [aT 120],.var [aT m'],.var v0,.var [Ot (Nl 287) [] [.ref (.ptr 4 0)]],.Ts,.loop Qz (some SN) 0 (DO 23 0 [(2,.ref (.ptr 1 0)),(3,.ref (.ptr 2 0)),(7,Ot (Nl 288) [] [.ref (.ptr 4 0),.ref (.ptr 3 0)])]) {toList:=[8,9]} (au (sub NL 0)) (ai (sub NL 0))]) (d:=iF false) [.j (@hi),.e]) (by rfl) (by rfl)
def Fp:Int⊕Int->Int×Bool
 | .inl m=>(m,false)
 | .inr m=>(m,true)
theorem Fq(dep:Int)(ks:List BV)(m:Int):Fp (Tq (wkF dep) ks m)=XE ks dep m:=by
 rw[qn]
 cases XE ks dep m with
 | mk m' b=>cases b<;>rfl
theorem walkB{r0 x:Vf}{ks:List BV}(hx:x.ks=ks.map BV.row)(hl:ah ks){dep m m':Int}(hi:Iv MK Or (.ref (.yl 6)) [aT dep,.agg x.l] (Vk r0 0 m .ready none++[.var x.l]) (iF true) (Vk r0 0 m' .ready none++[.var x.l,.var x.l]))
  (hk:∀k∈ks,∀m,Ev MK Or 287 [.agg k.fl.l,aT (MM.wrap (dep+1)),.ref (.yl 6),.ref (.ptr 4 0)] (Vk r0 0 m .ready none) (iF (!(k.walk (MM.wrap (dep+1)) m).2)) (ckSt r0 (k.walk (MM.wrap (dep+1)) m).1 (k.walk (MM.wrap (dep+1)) m).2)):(Ev MK Or 287 [.agg x.l,aT dep,.ref (.yl 6),.ref (.ptr 4 0)] (Vk r0 0 m .ready none) (iF (!(Fp (Tq (wkF (MM.wrap (dep+1))) ks m')).2)) (ckSt r0 (Fp (Tq (wkF (MM.wrap (dep+1))) ks m')).1 (Fp (Tq (wkF (MM.wrap (dep+1))) ks m')).2)):=by
 have Tv:=(@wk_cw (r0) (x) (ks) (hx) (hl) (dep) (m') (m) (hk))
 revert Tv
 cases Vj:Tq (wkF (MN MM (dep+1))) ks m' with
 | inl VC =>
  intro Tv
  let v0:List D:=[aT r0.op,aT r0.c,aq r0.nm,aT r0.n,aT r0.d,ab r0.ks]
  refine Na (yT (h':=[.var v0,.var [aT 0],.var [aT VC],.var v0,.var [Ot (Nl 287) [] [.ref (.ptr 4 0)]],.Ts,.loop Np none 0 (DO 23 0 [(2,.ref (.ptr 1 0)),(3,.ref (.ptr 2 0)),(7,Ot (Nl 288) [] [.ref (.ptr 4 0),.ref (.ptr 3 0)])]) {toList:=[8,9]} (au (sub NL 0)) (ai (sub NL 0))]) (d:=iF true) [.j (@hi),.e,.o (.trim 8),.s [1,2,3,7,16,17,18] Tv]) ?_ ?_<;>subst v0<;>(rfl)
 | inr UD =>
  intro Tv
  let v0:List D:=[aT r0.op,aT r0.c,aq r0.nm,aT r0.n,aT r0.d,ab r0.ks]
  refine Na (yT (h':=[.var v0,.var [aT 120],.var [aT UD],.var v0,.var [Ot (Nl 287) [] [.ref (.ptr 4 0)]],.Ts,.loop Qz (some SN) 0 (DO 23 0 [(2,.ref (.ptr 1 0)),(3,.ref (.ptr 2 0)),(7,Ot (Nl 288) [] [.ref (.ptr 4 0),.ref (.ptr 3 0)])]) {toList:=[8,9]} (au (sub NL 0)) (ai (sub NL 0))]) (d:=iF false) [.j (@hi),.e,.o (.trim 8),.s [1,2,3,7,16,17,18] Tv]) ?_ ?_<;>subst v0<;>(rfl)
theorem xY(r0:Vf):∀(r:BV),r.ok->∀(dep m:Int),Ev MK Or 287 [.agg r.fl.l,aT dep,.ref (.yl 6),.ref (.ptr 4 0)] (Vk r0 0 m .ready none) (iF (!(r.walk dep m).2)) (ckSt r0 (r.walk dep m).1 (r.walk dep m).2)
 | .mk op c nm n d ks,hr,dep,m=>by
  have UG:=BV.fl_ok hr
  simp[BV.ok] at hr
  have hiv:=JU (r0:=r0) (m:=m) (dep:=dep) UG
  have hlen:((BV.mk op c nm n d ks).fl.ks.length:Int)=ks.length:=by simp[BV.fl,eA]
  have hf:(BV.mk op c nm n d ks).fl.formed=aJ op c n d ks.length:=by
   show aJ op c n d ((BV.mk op c nm n d ks).fl.ks.length:Int)=_
   rw[hlen]
  rw[hf] at hiv
  simp[BV.walk]
  cases hs:od (MM.wrap (m+1)) dep (aJ op c n d ks.length) with
  | true =>
   rw[hs] at hiv
   exact walkA hiv
  | false =>
   rw[hs] at hiv
   have:=walkB (r0:=r0) (x:=(BV.mk op c nm n d ks).fl) (ks:=ks) (eA ks) hr.1.2.2.2.2 (m:=m) (dep:=dep) hiv (λk hk m=>xY r0 k (oc hr.2 k hk) _ m)
   grind [Fq]
termination_by r=>SizeOf.sizeOf r
decreasing_by
 have:=List.sizeOf_lt_of_mem hk
 simp only[BV.mk.sizeOf_spec]
 omega
noncomputable abbrev rV(x:Vf)(m':Int):List iN:=[.var [aT x.op,aT x.c,aq x.nm,aT x.n,aT x.d,ab x.ks],.var [aT 120],.var [aT m'],.var [aT x.op,aT x.c,aq x.nm,aT x.n,aT x.d,ab x.ks],.var [Ot (Nl 287) [] [.ref (.ptr 4 0)]],.Ts,.loop Qz (some SN) 0 (DO 23 0 [(2,.ref (.ptr 1 0)),(3,.ref (.ptr 2 0)),(7,Ot (Nl 288) [] [.ref (.ptr 4 0),.ref (.ptr 3 0)])]) {toList:=[8,9]} (au (sub NL 0)) (ai (sub NL 0))]
theorem zy{x:Vf}{m':Int}(hk:Ev MK Or 287 [.agg x.l,aT 1,.ref (.yl 6),.ref (.ptr 4 0)] (Vk x 0 0 .ready none) (iF false) (Vk x 120 m' .done (some .ret))):(Ev MK Or 288 [.ref (.yl 6),.ref (.ptr 4 0),.ref (.ptr 3 0)] (Vk x 0 0 .ready none) (.Tt []) (Vk x 120 m' .done (some .ret))):=by
 exact Na (yF (h':=(rV x m')) (d:=Nt []) [.c (@hk)]) (by rfl) (by rfl)
noncomputable abbrev rW(x:Vf)(m':Int):List iN:=[.var [aT x.op,aT x.c,aq x.nm,aT x.n,aT x.d,ab x.ks],.var [aT 0],.var [aT m'],.var [aT x.op,aT x.c,aq x.nm,aT x.n,aT x.d,ab x.ks],.var [Ot (Nl 287) [] [.ref (.ptr 4 0)]],.Ts,.loop Np none 0 (DO 23 0 [(2,.ref (.ptr 1 0)),(3,.ref (.ptr 2 0)),(7,Ot (Nl 288) [] [.ref (.ptr 4 0),.ref (.ptr 3 0)])]) {toList:=[8,9]} (au (sub NL 0)) (ai (sub NL 0))]
theorem zz{x:Vf}{m':Int}(hk:Ev MK Or 287 [.agg x.l,aT 1,.ref (.yl 6),.ref (.ptr 4 0)] (Vk x 0 0 .ready none) (iF true) (Vk x 0 m' .ready none)):(Ev MK Or 288 [.ref (.yl 6),.ref (.ptr 4 0),.ref (.ptr 3 0)] (Vk x 0 0 .ready none) (.Tt []) (Vk x 0 m' .ready none)):=by
 exact Na (yF (h':=(rW x m')) (d:=Nt []) [.c (@hk)]) (by rfl) (by rfl)
abbrev ckH0(r:Vf):List iN:=[.var r.l,.var [aT 0],.var [aT 0],.var r.l,.var [.fn (.func 287) [] [.ref (.ptr 4 0)]]]
theorem ckT_rf{x:Vf}{m':Int}(hk:Ev MK Or 287 [.agg x.l,aT 1,.ref (.yl 6),.ref (.ptr 4 0)] (Vk x 0 0 .ready none) (iF false) (Vk x 120 m' .done (some .ret))):
  CW MK Or [] false (sub NL 0) {t:=ckT,h:=ckH0 x,m:=[]} .ret {t:=ckT,h:=Vk x 120 m' .exhausted (some .ret),m:=[5]} :=
 CW.rangeFunc (f:=288) (fi:=[]) (ca:=[.ref (.ptr 4 0),.ref (.ptr 3 0)]) Ug (s:={t:=ckT,h:=ckH0 x,m:=[]}) (g:=.tmp 7) (ps:=#[8,9]) (asg:=au (sub NL 0)) (body:=ai (sub NL 0)) rfl (by kernel_rfl) (zy hk) rfl
theorem ckF_rf{x:Vf}{m':Int}(hk:Ev MK Or 287 [.agg x.l,aT 1,.ref (.yl 6),.ref (.ptr 4 0)] (Vk x 0 0 .ready none) (iF true) (Vk x 0 m' .ready none)):
  CW MK Or [] false (sub NL 0) {t:=ckT,h:=ckH0 x,m:=[]} .normal {t:=ckT,h:=Vk x 0 m' .exhausted none,m:=[5]} :=
 CW.rangeFunc (f:=288) (fi:=[]) (ca:=[.ref (.ptr 4 0),.ref (.ptr 3 0)]) Ug (s:={t:=ckT,h:=ckH0 x,m:=[]}) (g:=.tmp 7) (ps:=#[8,9]) (asg:=au (sub NL 0)) (body:=ai (sub NL 0)) rfl (by kernel_rfl) (zz hk) rfl
def BV.bad(r:BV):Bool:=(r.walk 1 0).2
noncomputable def JW(x:Vf)(p:Int×Bool):Exit×AS:=match p.2 with
 | true=>(.ret,{t:=ckT,h:=Vk x 120 p.1 .exhausted (some .ret),m:=[5]})
 | false=>(.normal,{t:=ckT,h:=Vk x 0 p.1 .exhausted none,m:=[5]})
theorem Fr{r:BV}(hr:r.ok){x:Vf}(hx:x=r.fl):CW MK Or [] false (sub NL 0) {t:=ckT,h:=ckH0 x,m:=[]} (JW x (r.walk 1 0)).1 (JW x (r.walk 1 0)).2:=by
 subst hx
 have hk:=xY r.fl r hr 1 0
 unfold JW
 cases h:r.walk 1 0 with
 | mk m' b =>
  rw[h] at hk
  cases b with
  | true=>exact ckT_rf hk
  | false=>exact ckF_rf hk
def iK(b:Bool):Int:=match b with|true=>120|false=>0
theorem JX{r:BV}(hr:r.ok){x:Vf}(hx:x=r.fl)(h:List iN):(Ev MK Or 161 [.agg x.l] h (aT (iK r.bad)) h):=by
 have Tv:=(@Fr (r) (hr) (x) (hx))
 revert Tv
 cases Vj:BV.walk r 1 0 with
 | mk VC o1_0_1 =>
  intro Tv
  revert Tv
  cases Xh:o1_0_1 with
  | false =>
   intro Tv
   exact yD (aT 0) [.a1 .inl,.s [2,3,7] Tv] h (by simp[BV.bad,iK,Vj,Xh])
  | true =>
   intro Tv
   exact yD (aT 120) [.a1 .inl,.s [2,3,7] Tv] h (by simp[BV.bad,iK,Vj,Xh])
theorem jI{r:BV}(hr:r.ok)(h:List iN):Ev MK Or 161 [.agg r.fl.l] h (aT (iK r.bad)) h:=by
 exact JX hr rfl h
structure IS where
 name:ByteArray
 number:Int
 oF:Int
 rep:Int
 T0:BV
 TM:BV
def IS.row(c:IS):List Dp:=[vs c.name,vi c.number,vi c.oF,vi c.rep,
 vi c.T0.fl.op,vi c.T0.fl.c,vs c.T0.fl.nm,vi c.T0.fl.n,vi c.T0.fl.d,.sl c.T0.fl.ks,vi c.TM.fl.op,vi c.TM.fl.c,vs c.TM.fl.nm,vi c.TM.fl.n,vi c.TM.fl.d,.sl c.TM.fl.ks]
def IS.ok(c:IS):Prop:=c.T0.ok/\c.TM.ok
def fS(c:IS):Bool:=U3 c.number 0 4095&&U3 c.oF 1 60&&U3 c.rep 0 2&&(iK c.T0.bad==0)&&(iK c.TM.bad==0)
noncomputable abbrev db(c:IS):List iN:=[.var [aq c.name,aT c.number,aT c.oF,aT c.rep,aT (BV.fl c.T0).op,aT (BV.fl c.T0).c,aq (BV.fl c.T0).nm,aT (BV.fl c.T0).n,aT (BV.fl c.T0).d,ab (BV.fl c.T0).ks,aT (BV.fl c.TM).op,aT (BV.fl c.TM).c,aq (BV.fl c.TM).nm,aT (BV.fl c.TM).n,aT (BV.fl c.TM).d,ab (BV.fl c.TM).ks]]
theorem zA{c:IS}(hc:c.ok)(h:List iN):(Ev MK Or 88 [ag c.row] h (iF (fS c)) h):=by
 refine y0 [.v (M9 (Γ':=Or) (@bn (c.number) 0 4095 (db c))),.w (Zd (c.number>=0)&&Zd (c.number<=4095)) (M9 (Γ':=Or) (@bn (c.oF) 1 60 (db c))),.w (Zd (c.number>=0)&&Zd (c.number<=4095)&&(Zd (c.oF>=1)&&Zd (c.oF<=60))) (M9 (Γ':=Or) (@bn (c.rep) 0 2 (db c))),.w (Zd (c.number>=0)&&Zd (c.number<=4095)&&(Zd (c.oF>=1)&&Zd (c.oF<=60))&&(Zd (c.rep>=0)&&Zd (c.rep<=2))) (@jI (c.T0) ?_ (db c)),.w (Zd (c.number>=0)&&Zd (c.number<=4095)&&(Zd (c.oF>=1)&&Zd (c.oF<=60))&&(Zd (c.rep>=0)&&Zd (c.rep<=2))&&iK (BV.bad c.T0)==0) (@jI (c.TM) ?_ (db c))] h<;>(first|exact hc.1|exact hc.2)
noncomputable abbrev wi(c:IS)(n:Int):List iN:=[.var [aT n],.var [aq c.name,aT c.number,aT c.oF,aT c.rep,aT (BV.fl c.T0).op,aT (BV.fl c.T0).c,aq (BV.fl c.T0).nm,aT (BV.fl c.T0).n,aT (BV.fl c.T0).d,ab (BV.fl c.T0).ks,aT (BV.fl c.TM).op,aT (BV.fl c.TM).c,aq (BV.fl c.TM).nm,aT (BV.fl c.TM).n,aT (BV.fl c.TM).d,ab (BV.fl c.TM).ks]]
theorem xZ{c:IS}(hc:c.ok){n:Int}:(Ev MK Or 87 [ag c.row,.ref (.ptr 0 0)] [.var [aT n]] (iF (c.number==n&&fS c)) [.var [aT n]]):=by
 exact Na (yT (h':=[.var [aT n]]) (d:=iF (c.number==n&&fS c)) [.w (c.number==n) (@zA c hc (wi c n))]) (by rfl) (by rfl)
structure iS where
 c:List IS
 p:List (List Dp)
 s:List TK
 f:List If
def iS.l(w:iS):List D:=[ab (w.c.map IS.row),ab w.p,ab (w.s.map TK.row),ab (w.f.map MY)]
abbrev atA(w:iS)(kk ks ko bV bv:Int):List D:=[ab (w.f.map MY),.agg [aT kk,aT ks,aT ko],aT bV,aT bv]
abbrev pf(kk ks ko a b:Int):List (List Dp):=[[vi kk,vi ks,vi ko,vi a,vi b]]
theorem bW{α:Type}[Inhabited α]{row:α->List Dp}{l:List α}{v:Int}{sz:Nat}(hs:∀x,(row x).length=sz)(h0:0<=v)(h1:v<(l.length:Int)):ap v (l.map row) (row (l.getD v.toNat default)) sz:=by
 obtain⟨n,rfl⟩:∃n:Nat,v=n:=⟨v.toNat,by omega⟩
 have hn:n<l.length:=by omega
 have hx:l[n]? = some l[n]:=Nh hn
 have:l.getD (MP (n:Int)) default=l[n]:=by simp[MT,hx]
 rw[this]
 exact rowAt hx (hs _)
def ic{α:Type}[Inhabited α](l:List α)(valid:α->Bool)(p:Int×Bool):Bool:=!p.2||Zd (p.1<0)||Zd (p.1>=(l.length:Int))||!valid (l.getD p.1.toNat default)
def gE{α:Type}[Inhabited α](l:List α)(valid:α->Bool)(z:α)(p:Int×Bool):α×Bool:=match ic l valid p with
 | true=>(z,false)
 | false=>(l.getD p.1.toNat default,true)
theorem uD{α:Type}[Inhabited α]{l:List α}{valid:α->Bool}{p:Int×Bool}(h:ic l valid p=false):l.getD p.1.toNat default∈l/\valid (l.getD p.1.toNat default)=true/\p.2=true/\0<=p.1/\p.1<l.length:=by
 grind [Bool.or_eq_false_iff,Bool.not_eq_false',decide_eq_false_iff_not,MT,ic]
def TK.zero:TK:=⟨[],[],[],[]⟩
abbrev sysZ:D:=.agg [ab [],ab [],ab [],ab []]
noncomputable abbrev ls0_x0(w:iS):List iN:=[.var [ab (ML IS.row w.c),ab w.p,ab (ML TK.row w.s),ab (ML MY w.f)],.var [aT 4,aT 0,aT 0],.var [nq,nq,nq,nq]]
theorem ls0{w:iS}{bV bv:Int}(ht:(!(Zd (bV>=0)&&Zd (bV<=1023)))=true)(h:List iN):(Ev MK Or 207 [.agg w.l,ab (w.s.map TK.row),.agg [aT 4,aT 0,aT 0],aT bV,aT bv,UZ 208] h (.Tt [sysZ,ab [],iF false]) h):=by
 exact Na (OL (y0 (d:=Nt [Nk [nq,nq,nq,nq],nq,iF false]) [.v (M9 (Γ':=Or) (@bn bV 0 1023 (ls0_x0 w))),.b ht] h)) (by rfl) (by rfl)
noncomputable abbrev lC(w:iS):List iN:=[.var [ab (ML IS.row w.c),ab w.p,ab (ML TK.row w.s),ab (ML MY w.f)],.var [aT 4,aT 0,aT 0],.var [nq,nq,nq,nq],.T1]
noncomputable abbrev Hs(w:iS):List iN:=[.var [ab (ML IS.row w.c),ab w.p,ab (ML TK.row w.s),ab (ML MY w.f)],.var [aT 4,aT 0,aT 0],.var [nq,nq,nq,nq]]
theorem ls1{w:iS}{bV bv v:Int}{b:Bool}(ht:(!(Zd (bV>=0)&&Zd (bV<=1023)))=false)(Xt:∀h,Ev MK Or 106 (atA w 4 0 0 bV bv) h (.Tt [aT v,iF b]) h)(hs:∀x∈w.s,x.ok)(h:List iN):(Ev MK Or 207 [.agg w.l,ab (w.s.map TK.row),.agg [aT 4,aT 0,aT 0],aT bV,aT bv,UZ 208] h (.Tt [ag (gE w.s B1 TK.zero (v,b)).1.row,ab (pf 4 0 0 bV (MM.wrap (bV+1))),iF (gE w.s B1 TK.zero (v,b)).2]) h):=by
 cases Of:!b||Zd (v<0)||Zd (v>=(↑(MO (ML TK.row w.s)):Int))||!B1 (MT w.s (MP v) default)
 ·refine Na (OL (Ev.sym0 (d:=Nt [Nk [ab (ML NZ (MT w.s (MP v) default).Ty),ab (ML N8 (MT w.s (MP v) default).UJ),ab (ML NZ (MT w.s (MP v) default).TA),ab (ML T5.row (MT w.s (MP v) default).clauses)],ab [[vi 4,vi 0,vi 0,vi bV,vi (MN MM (bV+1))]],iF true]) Ug [.val (iF (Zd (bV>=0)&&Zd (bV<=1023))),.b false,.nx 1,.st (.Vw 3 (pf 4 0 0 bV (MN MM (bV+1)))),.val (Nt [aT v,iF b]),.row [Om (ML NZ (MT w.s (MP v) default).Ty),Om (ML N8 (MT w.s (MP v) default).UJ),Om (ML NZ (MT w.s (MP v) default).TA),Om (ML T5.row (MT w.s (MP v) default).clauses)],.val (iF (B1 (MT w.s (MP v) default))),.b false,.row [Om (ML NZ (MT w.s (MP v) default).Ty),Om (ML N8 (MT w.s (MP v) default).UJ),Om (ML NZ (MT w.s (MP v) default).TA),Om (ML T5.row (MT w.s (MP v) default).clauses)]] (by kernel_rfl) (.q0 (M9 (Γ':=Or) (@bn (bV) (0) (1023) ((Hs w)))) (.q1 ht (.c (show [[aT 4,aT 0,aT 0,aT bV,aT (MN MM (bV+1))]]=[[aT 4,aT 0,aT 0,aT bV,aT (MN MM (bV+1))]] from rfl) (.q4 (@Xt ((lC w))) (.c (show(!(!b||Zd (v<0)||Zd (v>=(↑(MO (ML TK.row w.s)):Int))))=true->ap v (ML TK.row w.s) [Om (ML NZ (MT w.s (MP v) default).Ty),Om (ML N8 (MT w.s (MP v) default).UJ),Om (ML NZ (MT w.s (MP v) default).TA),Om (ML T5.row (MT w.s (MP v) default).clauses)] 4 from(λhg=>?_)) (.q6 (show(!(!b||Zd (v<0)||Zd (v>=(↑(MO (ML TK.row w.s)):Int))))=true->Ev MK Or 208 [(ag (TK.row (MT w.s (MP v) default)))] (lC w) (iF (B1 (MT w.s (MP v) default))) (lC w) from(λhg=>(M9 (@ob (MT w.s (MP v) default) (by grind) ((lC w)))))) (.q7 Of (.q8 (show ap v (ML TK.row w.s) [Om (ML NZ (MT w.s (MP v) default).Ty),Om (ML N8 (MT w.s (MP v) default).UJ),Om (ML NZ (MT w.s (MP v) default).TA),Om (ML T5.row (MT w.s (MP v) default).clauses)] 4 from ?_) .n)))))))) rfl rfl h)) (by(have hb:ic w.s B1 (v,b)=false:=by rw[<-Of];simp[ic]);simp only[gE,hb];rfl) (by rfl)<;>(refine bW (λ_=>rfl) ?_ ?_<;>simp_all;done)
 ·exact Na (OL (Ev.sym0 (d:=Nt [Nk [nq,nq,nq,nq],ab [[vi 4,vi 0,vi 0,vi bV,vi (MN MM (bV+1))]],iF false]) Ug [.val (iF (Zd (bV>=0)&&Zd (bV<=1023))),.b false,.nx 1,.st (.Vw 3 (pf 4 0 0 bV (MN MM (bV+1)))),.val (Nt [aT v,iF b]),.row [Om (ML NZ (MT w.s (MP v) default).Ty),Om (ML N8 (MT w.s (MP v) default).UJ),Om (ML NZ (MT w.s (MP v) default).TA),Om (ML T5.row (MT w.s (MP v) default).clauses)],.val (iF (B1 (MT w.s (MP v) default))),.b true] (by kernel_rfl) (.q0 (M9 (Γ':=Or) (@bn (bV) (0) (1023) ((Hs w)))) (.q1 ht (.c (show [[aT 4,aT 0,aT 0,aT bV,aT (MN MM (bV+1))]]=[[aT 4,aT 0,aT 0,aT bV,aT (MN MM (bV+1))]] from rfl) (.q4 (@Xt ((lC w))) (.c (show(!(!b||Zd (v<0)||Zd (v>=(↑(MO (ML TK.row w.s)):Int))))=true->ap v (ML TK.row w.s) [Om (ML NZ (MT w.s (MP v) default).Ty),Om (ML N8 (MT w.s (MP v) default).UJ),Om (ML NZ (MT w.s (MP v) default).TA),Om (ML T5.row (MT w.s (MP v) default).clauses)] 4 from(λhg=>(by(refine bW (λ_=>rfl) ?_ ?_<;>simp_all;done)))) (.q6 (show(!(!b||Zd (v<0)||Zd (v>=(↑(MO (ML TK.row w.s)):Int))))=true->Ev MK Or 208 [(ag (TK.row (MT w.s (MP v) default)))] (lC w) (iF (B1 (MT w.s (MP v) default))) (lC w) from(λhg=>(M9 (@ob (MT w.s (MP v) default) (by grind) ((lC w)))))) (.q7 Of .n))))))) rfl rfl h)) (by(have hb:ic w.s B1 (v,b)=true:=by rw[<-Of];simp[ic]);simp[gE,hb];rfl) (by rfl)
structure iS.ok (w:iS):Prop where
 c:∀x∈w.c,x.ok
 s:∀x∈w.s,x.ok
 lf:w.f.length<=69000
 lc:ah w.c
 ls:ah w.s
 i:∀f∈w.f,f.ok
theorem iS.ok.sf{w:iS}(h:w.ok):ah w.f:=by have:=h.lf;unfold ah;omega
def Ye(bV:Int):Bool:=!(Zd (bV>=0)&&Zd (bV<=1023))
def dv(w:iS)(bV bv:Int):TK×Bool:=match Ye bV with
 | true=>(TK.zero,false)
 | false=>gE w.s B1 TK.zero (atR 4 0 0 bV bv w.f)
def gg(kk ks ko bV:Int):List (List Dp):=match Ye bV with
 | true=>[]
 | false=>pf kk ks ko bV (MM.wrap (bV+1))
theorem zB{w:iS}(hw:w.ok){bV bv:Int}(h:List iN):Ev MK Or 207 [.agg w.l,ab (w.s.map TK.row),.agg [aT 4,aT 0,aT 0],aT bV,aT bv,UZ 208] h (.Tt [ag (dv w bV bv).1.row,ab (gg 4 0 0 bV),iF (dv w bV bv).2]) h:=by
 unfold dv gg
 cases ht:Ye bV with
 | true=>exact ls0 ht h
 | false=>exact ls1 ht (λh=>M9 (zh hw.sf h)) hw.s h
noncomputable abbrev rX(w:iS):List iN:=[.var [ab (ML IS.row w.c),ab w.p,ab (ML TK.row w.s),ab (ML MY w.f)],.var [nq,nq,nq,nq]]
theorem zC{w:iS}(hw:w.ok){bV bv:Int}(h:List iN):(Ev MK Or 121 [.agg w.l,aT bV,aT bv] h (.Tt [ag (dv w bV bv).1.row,ab (gg 4 0 0 bV)]) h):=by
 exact y0 [.v (@zB w hw bV bv (rX w))] h
def BV.zero:BV:=.mk 0 0 ⟨#[]⟩ 0 0 []
def IS.zero:IS:=⟨⟨#[]⟩,0,0,0,BV.zero,BV.zero⟩
instance:Inhabited IS:=⟨IS.zero⟩
abbrev crsZ:D:=ag IS.zero.row
def iL(n:Int)(c:IS):Bool:=c.number==n&&fS c
noncomputable abbrev lc0_x0(w:iS)(n:Int):List iN:=[.var [aT n],.var [ab (ML IS.row w.c),ab w.p,ab (ML TK.row w.s),ab (ML MY w.f)],.var [aT 1,aT n,aT 0],.var [aq {data:=#[]},aT 0,aT 0,aT 0,aT 0,aT 0,aq {data:=#[]},aT 0,aT 0,nq,aT 0,aT 0,aq {data:=#[]},aT 0,aT 0,nq]]
theorem lc0{w:iS}{n bV bv:Int}(ht:(!(Zd (bV>=0)&&Zd (bV<=1023)))=true):(Ev MK Or 89 [.agg w.l,ab (w.c.map IS.row),.agg [aT 1,aT n,aT 0],aT bV,aT bv,.fn (.func 87) [] [.ref (.ptr 0 0)]] [.var [aT n]] (.Tt [crsZ,ab [],iF false]) [.var [aT n]]):=by
 exact Na (OL (yT (h':=[.var [aT n]]) (d:=Nt [Nk [aq {data:=#[]},aT 0,aT 0,aT 0,aT 0,aT 0,aq {data:=#[]},aT 0,aT 0,nq,aT 0,aT 0,aq {data:=#[]},aT 0,aT 0,nq],nq,iF false]) [.v (M9 (Γ':=Or) (@bn bV 0 1023 (lc0_x0 w n))),.b ht])) (by rfl) (by rfl)
noncomputable abbrev x5(w:iS)(v:Int):List D:=[Nk [aq (MT w.c (MP v) default).name,aT (MT w.c (MP v) default).number,aT (MT w.c (MP v) default).oF,aT (MT w.c (MP v) default).rep,aT (BV.fl (MT w.c (MP v) default).T0).op,aT (BV.fl (MT w.c (MP v) default).T0).c,aq (BV.fl (MT w.c (MP v) default).T0).nm,aT (BV.fl (MT w.c (MP v) default).T0).n,aT (BV.fl (MT w.c (MP v) default).T0).d,ab (BV.fl (MT w.c (MP v) default).T0).ks,aT (BV.fl (MT w.c (MP v) default).TM).op,aT (BV.fl (MT w.c (MP v) default).TM).c,aq (BV.fl (MT w.c (MP v) default).TM).nm,aT (BV.fl (MT w.c (MP v) default).TM).n,aT (BV.fl (MT w.c (MP v) default).TM).d,ab (BV.fl (MT w.c (MP v) default).TM).ks],.ref (.ptr 0 0)]
noncomputable abbrev lD(w:iS)(n:Int):List iN:=[.var [aT n],.var [ab (ML IS.row w.c),ab w.p,ab (ML TK.row w.s),ab (ML MY w.f)],.var [aT 1,aT n,aT 0],.var [aq {data:=#[]},aT 0,aT 0,aT 0,aT 0,aT 0,aq {data:=#[]},aT 0,aT 0,nq,aT 0,aT 0,aq {data:=#[]},aT 0,aT 0,nq],.T1]
noncomputable abbrev Ht(w:iS)(n:Int):List iN:=[.var [aT n],.var [ab (ML IS.row w.c),ab w.p,ab (ML TK.row w.s),ab (ML MY w.f)],.var [aT 1,aT n,aT 0],.var [aq {data:=#[]},aT 0,aT 0,aT 0,aT 0,aT 0,aq {data:=#[]},aT 0,aT 0,nq,aT 0,aT 0,aq {data:=#[]},aT 0,aT 0,nq]]
theorem lc1{w:iS}{n bV bv v:Int}{b:Bool}(ht:(!(Zd (bV>=0)&&Zd (bV<=1023)))=false)(Xt:∀h,Ev MK Or 106 (atA w 1 n 0 bV bv) h (.Tt [aT v,iF b]) h)(hs:∀x∈w.c,x.ok):(Ev MK Or 89 [.agg w.l,ab (w.c.map IS.row),.agg [aT 1,aT n,aT 0],aT bV,aT bv,.fn (.func 87) [] [.ref (.ptr 0 0)]] [.var [aT n]] (.Tt [ag (gE w.c (iL n) IS.zero (v,b)).1.row,ab (pf 1 n 0 bV (MM.wrap (bV+1))),iF (gE w.c (iL n) IS.zero (v,b)).2]) [.var [aT n]]):=by
 cases Of:!b||Zd (v<0)||Zd (v>=(↑(MO (ML IS.row w.c)):Int))||!((MT w.c (MP v) default).number==n&&fS (MT w.c (MP v) default))
 ·refine Na (OL (Ev.symT (h':=[.var [aT n]]) (d:=Nt [Nk [aq (MT w.c (MP v) default).name,aT (MT w.c (MP v) default).number,aT (MT w.c (MP v) default).oF,aT (MT w.c (MP v) default).rep,aT (BV.fl (MT w.c (MP v) default).T0).op,aT (BV.fl (MT w.c (MP v) default).T0).c,aq (BV.fl (MT w.c (MP v) default).T0).nm,aT (BV.fl (MT w.c (MP v) default).T0).n,aT (BV.fl (MT w.c (MP v) default).T0).d,ab (BV.fl (MT w.c (MP v) default).T0).ks,aT (BV.fl (MT w.c (MP v) default).TM).op,aT (BV.fl (MT w.c (MP v) default).TM).c,aq (BV.fl (MT w.c (MP v) default).TM).nm,aT (BV.fl (MT w.c (MP v) default).TM).n,aT (BV.fl (MT w.c (MP v) default).TM).d,ab (BV.fl (MT w.c (MP v) default).TM).ks],ab [[vi 1,vi n,vi 0,vi bV,vi (MN MM (bV+1))]],iF true]) Ug [.val (iF (Zd (bV>=0)&&Zd (bV<=1023))),.b false,.nx 1,.st (.Vw 4 (pf 1 n 0 bV (MN MM (bV+1)))),.val (Nt [aT v,iF b]),.row [vs (MT w.c (MP v) default).name,vi (MT w.c (MP v) default).number,vi (MT w.c (MP v) default).oF,vi (MT w.c (MP v) default).rep,vi (BV.fl (MT w.c (MP v) default).T0).op,vi (BV.fl (MT w.c (MP v) default).T0).c,vs (BV.fl (MT w.c (MP v) default).T0).nm,vi (BV.fl (MT w.c (MP v) default).T0).n,vi (BV.fl (MT w.c (MP v) default).T0).d,Om (BV.fl (MT w.c (MP v) default).T0).ks,vi (BV.fl (MT w.c (MP v) default).TM).op,vi (BV.fl (MT w.c (MP v) default).TM).c,vs (BV.fl (MT w.c (MP v) default).TM).nm,vi (BV.fl (MT w.c (MP v) default).TM).n,vi (BV.fl (MT w.c (MP v) default).TM).d,Om (BV.fl (MT w.c (MP v) default).TM).ks],.val (iF ((MT w.c (MP v) default).number==n&&fS (MT w.c (MP v) default))),.b false,.row [vs (MT w.c (MP v) default).name,vi (MT w.c (MP v) default).number,vi (MT w.c (MP v) default).oF,vi (MT w.c (MP v) default).rep,vi (BV.fl (MT w.c (MP v) default).T0).op,vi (BV.fl (MT w.c (MP v) default).T0).c,vs (BV.fl (MT w.c (MP v) default).T0).nm,vi (BV.fl (MT w.c (MP v) default).T0).n,vi (BV.fl (MT w.c (MP v) default).T0).d,Om (BV.fl (MT w.c (MP v) default).T0).ks,vi (BV.fl (MT w.c (MP v) default).TM).op,vi (BV.fl (MT w.c (MP v) default).TM).c,vs (BV.fl (MT w.c (MP v) default).TM).nm,vi (BV.fl (MT w.c (MP v) default).TM).n,vi (BV.fl (MT w.c (MP v) default).TM).d,Om (BV.fl (MT w.c (MP v) default).TM).ks]] (by kernel_rfl) (.q0 (M9 (Γ':=Or) (@bn (bV) (0) (1023) ((Ht w n)))) (.q1 ht (.c (show [[aT 1,aT n,aT 0,aT bV,aT (MN MM (bV+1))]]=[[aT 1,aT n,aT 0,aT bV,aT (MN MM (bV+1))]] from rfl) (.q4 (@Xt ((lD w n))) (.c (show(!(!b||Zd (v<0)||Zd (v>=(↑(MO (ML IS.row w.c)):Int))))=true->ap v (ML IS.row w.c) [vs (MT w.c (MP v) default).name,vi (MT w.c (MP v) default).number,vi (MT w.c (MP v) default).oF,vi (MT w.c (MP v) default).rep,vi (BV.fl (MT w.c (MP v) default).T0).op,vi (BV.fl (MT w.c (MP v) default).T0).c,vs (BV.fl (MT w.c (MP v) default).T0).nm,vi (BV.fl (MT w.c (MP v) default).T0).n,vi (BV.fl (MT w.c (MP v) default).T0).d,Om (BV.fl (MT w.c (MP v) default).T0).ks,vi (BV.fl (MT w.c (MP v) default).TM).op,vi (BV.fl (MT w.c (MP v) default).TM).c,vs (BV.fl (MT w.c (MP v) default).TM).nm,vi (BV.fl (MT w.c (MP v) default).TM).n,vi (BV.fl (MT w.c (MP v) default).TM).d,Om (BV.fl (MT w.c (MP v) default).TM).ks] 16 from(λhg=>?_)) (.q6 (show(!(!b||Zd (v<0)||Zd (v>=(↑(MO (ML IS.row w.c)):Int))))=true->Ev MK Or 87 (x5 w v) (lD w n) (iF ((MT w.c (MP v) default).number==n&&fS (MT w.c (MP v) default))) (lD w n) from(λhg=>(Na (Ev.δ (args:=(x5 w v)) (H:=(lD w n)) [0] (@xZ (MT w.c (MP v) default) (by grind) (n)) (by kernel_rfl) (by kernel_rfl) (by kernel_rfl) trivial trivial) (by kernel_rfl) (by kernel_rfl)))) (.q7 Of (.q8 (show ap v (ML IS.row w.c) [vs (MT w.c (MP v) default).name,vi (MT w.c (MP v) default).number,vi (MT w.c (MP v) default).oF,vi (MT w.c (MP v) default).rep,vi (BV.fl (MT w.c (MP v) default).T0).op,vi (BV.fl (MT w.c (MP v) default).T0).c,vs (BV.fl (MT w.c (MP v) default).T0).nm,vi (BV.fl (MT w.c (MP v) default).T0).n,vi (BV.fl (MT w.c (MP v) default).T0).d,Om (BV.fl (MT w.c (MP v) default).T0).ks,vi (BV.fl (MT w.c (MP v) default).TM).op,vi (BV.fl (MT w.c (MP v) default).TM).c,vs (BV.fl (MT w.c (MP v) default).TM).nm,vi (BV.fl (MT w.c (MP v) default).TM).n,vi (BV.fl (MT w.c (MP v) default).TM).d,Om (BV.fl (MT w.c (MP v) default).TM).ks] 16 from ?_) .n)))))))))) (by(have hb:ic w.c (iL n) (v,b)=false:=by rw[<-Of];simp[ic,iL]);simp only[gE,hb];rfl) (by grind)<;>(refine bW (λ_=>rfl) ?_ ?_<;>simp_all;done)
 ·exact Na (OL (Ev.symT (h':=[.var [aT n]]) (d:=Nt [Nk [aq {data:=#[]},aT 0,aT 0,aT 0,aT 0,aT 0,aq {data:=#[]},aT 0,aT 0,nq,aT 0,aT 0,aq {data:=#[]},aT 0,aT 0,nq],ab [[vi 1,vi n,vi 0,vi bV,vi (MN MM (bV+1))]],iF false]) Ug [.val (iF (Zd (bV>=0)&&Zd (bV<=1023))),.b false,.nx 1,.st (.Vw 4 (pf 1 n 0 bV (MN MM (bV+1)))),.val (Nt [aT v,iF b]),.row [vs (MT w.c (MP v) default).name,vi (MT w.c (MP v) default).number,vi (MT w.c (MP v) default).oF,vi (MT w.c (MP v) default).rep,vi (BV.fl (MT w.c (MP v) default).T0).op,vi (BV.fl (MT w.c (MP v) default).T0).c,vs (BV.fl (MT w.c (MP v) default).T0).nm,vi (BV.fl (MT w.c (MP v) default).T0).n,vi (BV.fl (MT w.c (MP v) default).T0).d,Om (BV.fl (MT w.c (MP v) default).T0).ks,vi (BV.fl (MT w.c (MP v) default).TM).op,vi (BV.fl (MT w.c (MP v) default).TM).c,vs (BV.fl (MT w.c (MP v) default).TM).nm,vi (BV.fl (MT w.c (MP v) default).TM).n,vi (BV.fl (MT w.c (MP v) default).TM).d,Om (BV.fl (MT w.c (MP v) default).TM).ks],.val (iF ((MT w.c (MP v) default).number==n&&fS (MT w.c (MP v) default))),.b true] (by kernel_rfl) (.q0 (M9 (Γ':=Or) (@bn (bV) (0) (1023) ((Ht w n)))) (.q1 ht (.c (show [[aT 1,aT n,aT 0,aT bV,aT (MN MM (bV+1))]]=[[aT 1,aT n,aT 0,aT bV,aT (MN MM (bV+1))]] from rfl) (.q4 (@Xt ((lD w n))) (.c (show(!(!b||Zd (v<0)||Zd (v>=(↑(MO (ML IS.row w.c)):Int))))=true->ap v (ML IS.row w.c) [vs (MT w.c (MP v) default).name,vi (MT w.c (MP v) default).number,vi (MT w.c (MP v) default).oF,vi (MT w.c (MP v) default).rep,vi (BV.fl (MT w.c (MP v) default).T0).op,vi (BV.fl (MT w.c (MP v) default).T0).c,vs (BV.fl (MT w.c (MP v) default).T0).nm,vi (BV.fl (MT w.c (MP v) default).T0).n,vi (BV.fl (MT w.c (MP v) default).T0).d,Om (BV.fl (MT w.c (MP v) default).T0).ks,vi (BV.fl (MT w.c (MP v) default).TM).op,vi (BV.fl (MT w.c (MP v) default).TM).c,vs (BV.fl (MT w.c (MP v) default).TM).nm,vi (BV.fl (MT w.c (MP v) default).TM).n,vi (BV.fl (MT w.c (MP v) default).TM).d,Om (BV.fl (MT w.c (MP v) default).TM).ks] 16 from(λhg=>(by(refine bW (λ_=>rfl) ?_ ?_<;>simp_all;done)))) (.q6 (show(!(!b||Zd (v<0)||Zd (v>=(↑(MO (ML IS.row w.c)):Int))))=true->Ev MK Or 87 (x5 w v) (lD w n) (iF ((MT w.c (MP v) default).number==n&&fS (MT w.c (MP v) default))) (lD w n) from(λhg=>(Na (Ev.δ (args:=(x5 w v)) (H:=(lD w n)) [0] (@xZ (MT w.c (MP v) default) (by grind) (n)) (by kernel_rfl) (by kernel_rfl) (by kernel_rfl) trivial trivial) (by kernel_rfl) (by kernel_rfl)))) (.q7 Of .n))))))))) (by(have hb:ic w.c (iL n) (v,b)=true:=by rw[<-Of];simp[ic,iL]);simp[gE,hb];rfl) (by grind)
def ac(w:iS)(n bV bv:Int):IS×Bool:=match Ye bV with
 | true=>(IS.zero,false)
 | false=>gE w.c (iL n) IS.zero (atR 1 n 0 bV bv w.f)
theorem zD{w:iS}(hw:w.ok){n bV bv:Int}:Ev MK Or 89 [.agg w.l,ab (w.c.map IS.row),.agg [aT 1,aT n,aT 0],aT bV,aT bv,.fn (.func 87) [] [.ref (.ptr 0 0)]] [.var [aT n]] (.Tt [ag (ac w n bV bv).1.row,ab (gg 1 n 0 bV),iF (ac w n bV bv).2]) [.var [aT n]]:=by
 unfold ac gg
 cases ht:Ye bV with
 | true=>exact lc0 ht
 | false=>exact lc1 ht (λh=>M9 (zh hw.sf h)) hw.c
noncomputable abbrev jJ(w:iS)(n:Int):List iN:=[.var [ab (ML IS.row w.c),ab w.p,ab (ML TK.row w.s),ab (ML MY w.f)],.var [aT n],.var [aq {data:=#[]},aT 0,aT 0,aT 0,aT 0,aT 0,aq {data:=#[]},aT 0,aT 0,nq,aT 0,aT 0,aq {data:=#[]},aT 0,aT 0,nq]]
theorem zF{w:iS}(hw:w.ok){n bV bv:Int}(h:List iN):(Ev MK Or 32 [.agg w.l,aT n,aT bV,aT bv] h (.Tt [ag (ac w n bV bv).1.row,ab (gg 1 n 0 bV),iF (ac w n bV bv).2]) h):=by
 exact y0 [.v ((fX [1] (@zD w hw n bV bv) trivial trivial):Ev MK Or 89 [Nk (iS.l w),ab (ML IS.row w.c),Nk [aT 1,aT n,aT 0],aT bV,aT bv,Ot (Nl 87) [] [.ref (.ptr 1 0)]] (jJ w n) (Nt [Nk [aq (ac w n bV bv).fst.name,aT (ac w n bV bv).fst.number,aT (ac w n bV bv).fst.oF,aT (ac w n bV bv).fst.rep,aT (BV.fl (ac w n bV bv).fst.T0).op,aT (BV.fl (ac w n bV bv).fst.T0).c,aq (BV.fl (ac w n bV bv).fst.T0).nm,aT (BV.fl (ac w n bV bv).fst.T0).n,aT (BV.fl (ac w n bV bv).fst.T0).d,ab (BV.fl (ac w n bV bv).fst.T0).ks,aT (BV.fl (ac w n bV bv).fst.TM).op,aT (BV.fl (ac w n bV bv).fst.TM).c,aq (BV.fl (ac w n bV bv).fst.TM).nm,aT (BV.fl (ac w n bV bv).fst.TM).n,aT (BV.fl (ac w n bV bv).fst.TM).d,ab (BV.fl (ac w n bV bv).fst.TM).ks],ab (gg 1 n 0 bV),iF (ac w n bV bv).2]) (jJ w n))] h
abbrev dc(l:List If):List (List D):=l.map λf=>f.row.map .p
abbrev dP(l:List Bool):List (List D):=l.map λb=>[iF b]
abbrev bB(l:List Int):List (List D):=l.map λn=>[aT n]
abbrev vaT:List D:=DO 63 0 [(6,.ref (.ptr 1 0)),(7,.ref (.ptr 2 0)),(8,.ref (.ptr 3 0)),(15,.fn (.func 251) [] [.ref (.ptr 4 0),.ref (.ptr 5 0),.ref (.ptr 6 0)])]
noncomputable abbrev vaL(st:LoopState):iN:=.loop st none 0 vaT #[16] (au (sub Nr 0)) (ai (sub Nr 0))
noncomputable abbrev VE(kk ks ko bv:Int)(fs:List (List Dp))(rs:List D)(OR:List If)(some:List Bool)(st:LoopState)(more:List iN):List iN :=
 [.var [aT kk,aT ks,aT ko],.var rs,.var (dc OR).flatten,.var (dP some).flatten,.var [ab fs],.var [aT kk,aT ks,aT ko],.var [aT bv],.Ts,vaL st]++more
abbrev vaU:List D:=DO 63 0 [(6,.ref (.ptr 1 0)),(7,.ref (.ptr 2 0)),(8,.ref (.ptr 3 0)),(9,.ref (.ptr 10 0))]
theorem va_asg{kk ks ko bv:Int}{fs:List (List Dp)}{rs:List D}{OR:List If}{some:List Bool}{f:If}:(CW MK At (VE kk ks ko bv fs rs OR some .ready [.var (f.row.map .p)]) true (au (sub Nr 0)) {t:=dL vaT [(16,ag f.row)],h:=VE kk ks ko bv fs rs OR some .ready [.var (f.row.map .p)],m:=[]} .normal {t:=vaU,h:=VE kk ks ko bv fs rs OR some .ready [.var (f.row.map .p),.var (f.row.map .p)],m:=[]}):=by
 exact yx [.st (.mask [6,7,8,9])] []
theorem rY{h:List iN}{off n:Nat}{l:List Bool}{b:Bool}(hb:h[3]? = some (.var (dP l).flatten))(hs:l[n]? = some b)(ho:off=n*1):aI MK h 4 (.ref (.ptr 3 off))=some (iF b):=by
 subst ho
 exact nQ (sz:=1) (j:=0) (row:=[iF b]) (by kernel_rfl) (by kernel_rfl) hb (λr hr=>by grind) (by simp[hs]) rfl
theorem Cd{h:List iN}{off n:Nat}{l:List If}{g:If}(hb:h[2]? = some (.var (dc l).flatten))(hs:l[n]? = some g)(ho:off=n*8):aI MK h 59 (.ref (.ptr 2 off))=some (ag g.row):=by
 subst ho
 exact Ej (sz:=8) (row:=g.row.map .p) (by kernel_rfl) (by kernel_rfl) hb (by simp[MY]) (by simp[hs])
theorem va_stB{h:List iN}{off n:Nat}{l:List If}{f:If}(hb:h[2]? = some (.var (dc l).flatten))(hn:n<l.length)(ho:off=n*8):aN MK h 59 (.ref (.ptr 2 off)) (ag f.row)=some (h.set 2 (.var (dc (l.set n f)).flatten)):=by
 subst ho
 rw[nR (sz:=8) (new:=f.row.map .p) rfl (by kernel_rfl) rfl hb (by simp[MY]) (by simpa using hn),dc,dc,List.map_set]
theorem va_stS{h:List iN}{off n:Nat}{l:List Bool}{b:Bool}(hb:h[3]? = some (.var (dP l).flatten))(hn:n<l.length)(ho:off=n*1):aN MK h 4 (.ref (.ptr 3 off)) (iF b)=some (h.set 3 (.var (dP (l.set n b)).flatten)):=by
 subst ho
 rw[nR (sz:=1) (new:=[iF b]) rfl (by kernel_rfl) rfl hb (λr hr=>by grind) (by simpa using hn),dP,dP,List.map_set]
theorem qo{α:Type}{l:List α}{n:Nat}{a:α}(h:l[n]? = some a):n<l.length:=(MR.1 h).1
def Yl(f g:If)(b:Bool):Bool:=!b||Zd (Z6 (cz f.bv g.bv) (cz f.no g.no)>=0)
noncomputable abbrev vaS(kk ks ko bv:Int)(fs:List (List Dp))(rs:List D)(OR:List If)(some:List Bool)(f:If)(t:Int):AS:={t:=DO 63 0 [(6,.ref (.ptr 1 0)),(7,.ref (.ptr 2 0)),(8,.ref (.ptr 3 0)),(9,.ref (.ptr 10 0)),(10,aT t)],h:=VE kk ks ko bv fs rs OR some .busy [.var (f.row.map .p),.var (f.row.map .p)],m:=[]}
noncomputable abbrev gF(kk:Int)(ks:Int)(ko:Int)(bv:Int)(fs:List (List Dp))(rs:List D)(OR:List If)(some:List Bool)(f:If):List iN:=[.var [aT kk,aT ks,aT ko],.var rs,.var (M7 (dc OR)),.var (M7 (dP some)),.var [ab fs],.var [aT kk,aT ks,aT ko],.var [aT bv],.Ts,.loop Nu none 0 (DO 63 0 [(6,.ref (.ptr 1 0)),(7,.ref (.ptr 2 0)),(8,.ref (.ptr 3 0)),(15,Ot (Nl 251) [] [.ref (.ptr 4 0),.ref (.ptr 5 0),.ref (.ptr 6 0)])]) {toList:=[16]} (au (sub Nr 0)) (ai (sub Nr 0)),.var [aT f.kind,aT f.sub,aT f.obj,aT f.value,aT f.Do,aT f.UE,aT f.bv,aT f.no],.var [aT f.kind,aT f.sub,aT f.obj,aT f.value,aT f.Do,aT f.UE,aT f.bv,aT f.no]]
theorem va_b{kk ks ko bv:Int}{fs:List (List Dp)}{rs:List D}{OR b0:List If}{some s0:List Bool}{f g f0:If}{n:Nat}{b:Bool}(hb:OR[n]? = .some g)(hs:some[n]? = .some b)(hn:TU (n:Int) 1024=true)(IN:Zd ((n:Int)<if false=true then if 1024>f.UE then 1024 else f.UE else if 1024<f.UE then 1024 else f.UE)=true):(CW MK At (VE kk ks ko bv fs rs b0 s0 .ready [.var (f0.row.map .p)]) true (sub Nr 1) (vaS kk ks ko bv fs rs OR some f (n:Int)) .normal (vaS kk ks ko bv fs rs (bif Yl f g b then OR.set n f else OR) (bif Yl f g b then some.set n true else some) f (MM.wrap ((n:Int)+1)))):=by
 cases Of:!b||Zd (Z6 (cz f.bv g.bv) (cz f.no g.no)>=0)
 ·refine yX {t:=DO 63 0 [(6,.ref (.ptr 1 0)),(7,.ref (.ptr 2 0)),(8,.ref (.ptr 3 0)),(9,.ref (.ptr 10 0)),(10,aT (MN MM ((↑n:Int)+1)))],h:=(gF kk ks ko bv fs rs OR some f),m:=[]} M8 [.st (.mask [6,7,8,9,10])] [.b IN,hn,(?_:@Eq (Option D) (aI MK (gF kk ks ko bv fs rs OR some f) 4 (.ref (.ptr 3 (0+MP (↑n:Int)*1)))) (O6 (iF b))),((λhg=>hn):(!!b)=true->TU (↑n:Int) 1024=true),((λhg=>?_):(!!b)=true->aI MK (gF kk ks ko bv fs rs OR some f) 59 (.ref (.ptr 2 (0+MP (↑n:Int)*8)))=O6 (Nk [aT g.kind,aT g.sub,aT g.obj,aT g.value,aT g.Do,aT g.UE,aT g.bv,aT g.no])),.a1 (.ov 31 (iF b)),.a1 (.ov 37 (ag (MY g))),.w (!!b) (@rP f g (gF kk ks ko bv fs rs OR some f)),.b Of] (by grind) (by(have hh:Yl f g b=false:=Of;simp only[hh,cond_false];first|done|rfl))<;>(first|exact rY rfl hs (by simp)|exact Cd rfl hb (by simp))
 ·let v0:List D:=[aT f.kind,aT f.sub,aT f.obj,aT f.value,aT f.Do,aT f.UE,aT f.bv,aT f.no]
  let v1:List iN:=[.var [aT kk,aT ks,aT ko],.var rs,.var (M7 (dc (Oe OR n f))),.var (M7 (dP (Oe some n true))),.var [ab fs],.var [aT kk,aT ks,aT ko],.var [aT bv],.Ts,.loop Nu none 0 (DO 63 0 [(6,.ref (.ptr 1 0)),(7,.ref (.ptr 2 0)),(8,.ref (.ptr 3 0)),(15,Ot (Nl 251) [] [.ref (.ptr 4 0),.ref (.ptr 5 0),.ref (.ptr 6 0)])]) {toList:=[16]} (au (sub Nr 0)) (ai (sub Nr 0)),.var v0,.var v0]
  let v2:List iN:=[.var [aT kk,aT ks,aT ko],.var rs,.var (M7 (dc (Oe OR n f))),.var (M7 (dP some)),.var [ab fs],.var [aT kk,aT ks,aT ko],.var [aT bv],.Ts,.loop Nu none 0 (DO 63 0 [(6,.ref (.ptr 1 0)),(7,.ref (.ptr 2 0)),(8,.ref (.ptr 3 0)),(15,Ot (Nl 251) [] [.ref (.ptr 4 0),.ref (.ptr 5 0),.ref (.ptr 6 0)])]) {toList:=[16]} (au (sub Nr 0)) (ai (sub Nr 0)),.var v0,.var v0]
  let v3:=ML D.p (MY f)
  refine yX {t:=DO 63 0 [(6,.ref (.ptr 1 0)),(7,.ref (.ptr 2 0)),(8,.ref (.ptr 3 0)),(9,.ref (.ptr 10 0)),(10,aT (MN MM ((↑n:Int)+1)))],h:=v1,m:=[]} M8 [.st (.mask [6,7,8,9,10])] [.b IN,hn,(?_:@Eq (Option D) (aI MK (gF kk ks ko bv fs rs OR some f) 4 (.ref (.ptr 3 (0+MP (↑n:Int)*1)))) (O6 (iF b))),((λhg=>hn):(!!b)=true->TU (↑n:Int) 1024=true),((λhg=>?_):(!!b)=true->aI MK (gF kk ks ko bv fs rs OR some f) 59 (.ref (.ptr 2 (0+MP (↑n:Int)*8)))=O6 (Nk [aT g.kind,aT g.sub,aT g.obj,aT g.value,aT g.Do,aT g.UE,aT g.bv,aT g.no])),.a1 (.ov 31 (iF b)),.a1 (.ov 37 (ag (MY g))),.w (!!b) (@rP f g (gF kk ks ko bv fs rs OR some f)),.b Of,hn,(?_:@Eq (Option (List iN)) (aN MK (gF kk ks ko bv fs rs OR some f) 59 (.ref (.ptr 2 (0+MP (↑n:Int)*8))) (Nk v0)) (O6 v2)),hn,(?_:@Eq (Option (List iN)) (aN MK v2 4 (.ref (.ptr 3 (0+MP (↑n:Int)*1))) (iF true)) (O6 v1)),.a1 (.oh 10044 D.any (VE kk ks ko bv fs rs (Oe OR n f) some Nu [.var v3,.var v3])),.a1 (.oh 10045 D.any (VE kk ks ko bv fs rs (Oe OR n f) (Oe some n true) Nu [.var v3,.var v3]))] (by subst v0 v1 v2 v3;grind) (by subst v0 v1 v2 v3;(have hh:Yl f g b=true:=Of;simp only[hh,cond_true];first|done|rfl))<;>subst v0 v1 v2 v3<;>(first|exact rY rfl hs (by simp)|exact Cd rfl hb (by simp)|exact va_stB rfl (qo hb) (by simp)|exact va_stS rfl (qo hs) (by simp))
theorem va_l{kk ks ko bv:Int}{fs:List (List Dp)}{rs:List D}{OR b0:List If}{some s0:List Bool}{f f0:If}{x:Int}(IN:Zd (x<if false=true then if 1024>f.UE then 1024 else f.UE else if 1024<f.UE then 1024 else f.UE)=false):(CW MK At (VE kk ks ko bv fs rs b0 s0 .ready [.var (f0.row.map .p)]) true (sub Nr 1) (vaS kk ks ko bv fs rs OR some f x) (.exit 2) {t:=DO 63 0 [],h:=VE kk ks ko bv fs rs OR some .busy [.var (f.row.map .p),.var (f.row.map .p)],m:=[]}):=by
 exact yx [.st (.mask [])] [.b IN]
abbrev VS:=List If×List Bool
def VS.ok(s:VS):Prop:=s.1.length=1024/\s.2.length=1024
def Hu(f:If):Int:=if f.UE<1024 then f.UE else 1024
def qp(f:If)(s:VS)(n:Nat):VS:=bif Yl f (s.1.getD n default) (s.2.getD n false) then (s.1.set n f,s.2.set n true) else s
def Hv(f:If)(x:Int)(s:VS):VS:=(List.range' x.toNat (Hu f-x).toNat).foldl (qp f) s
theorem Yk{f:If}{s:VS}(n:Nat)(h:s.ok):(qp f s n).ok:=by
 unfold qp
 cases Yl f (s.1.getD n default) (s.2.getD n false)
 ·exact h
 ·exact⟨by simpa using h.1,by simpa using h.2⟩
theorem Ce(f:If):(if false=true then if 1024>f.UE then 1024 else f.UE else if 1024<f.UE then 1024 else f.UE)=Hu f:=by
 unfold Hu;grind
theorem va_cw{kk ks ko bv:Int}{fs:List (List Dp)}{rs:List D}{OR b0:List If}{some s0:List Bool}{f f0:If}{x:Int}(hx:0<=x)(ho:VS.ok (OR,some)):
  CW MK At (VE kk ks ko bv fs rs b0 s0 .ready [.var (f0.row.map .p)]) true (.loop (sub Nr 1)) (vaS kk ks ko bv fs rs OR some f x) (.exit 2) {t:=DO 63 0 [],h:=VE kk ks ko bv fs rs (Hv f x (OR,some)).1 (Hv f x (OR,some)).2 .busy [.var (f.row.map .p),.var (f.row.map .p)],m:=[]}:=by
 have Wu:((x.toNat:Nat):Int)=x:=by omega
 have hh:Hu f<=1024:=by unfold Hu;split<;>omega
 have:=OS (P:=MK) (Γ:=At) (h0:=VE kk ks ko bv fs rs b0 s0 .ready [.var (f0.row.map .p)]) (rd:=true) (c:=sub Nr 1) (σ:=VS) (ρ:=Empty) (List.range' x.toNat (Hu f-x).toNat) (λn s=>.inl (qp f s n))
  (λi s=>vaS kk ks ko bv fs rs s.1 s.2 f (x+(i:Int))) (.exit 2) (λs=>{t:=DO 63 0 [],h:=VE kk ks ko bv fs rs s.1 s.2 .busy [.var (f.row.map .p),.var (f.row.map .p)],m:=[]}) (λr=>r.elim)
  (λ_ s=>s.ok) (by simp) (λr=>r.elim) ?_ ?_ (OR,some) ho
 ·rw[aP (λs n=>qp f s n)] at this
  grind [bu,Hv]
 ·intro i n s hn hs
  obtain⟨hi,he⟩:=MR.1 hn
  simp only[List.length_range'] at hi
  simp at he
  have IN:(n:Int)<Hu f:=by omega
  have hb:s.1[n]? = .some (s.1.getD n default):=by
   rw[MT,Nh (by rw[hs.1];omega)];rfl
  have hc:s.2[n]? = .some (s.2.getD n false):=by
   rw[MT,Nh (by rw[hs.2];omega)];rfl
  refine⟨λs' h=>by cases h;exact Yk n hs,?_⟩
  have key:=va_b (kk:=kk) (ks:=ks) (ko:=ko) (bv:=bv) (fs:=fs) (rs:=rs) (b0:=b0) (s0:=s0) (f:=f) (f0:=f0) hb hc (by simp[TU];omega) (by grind [Ce])
  rw[wrap_i64 (by omega) (by omega)] at key
  have e1:x+(i:Int)=(n:Int):=by omega
  have e2:x+((i+1:Nat):Int)=(n:Int)+1:=by omega
  simp only[af,e1,e2]
  unfold qp
  grind
 ·intro s _
  refine va_l ?_
  grind [Ce]
theorem JY{kk ks ko bv:Int}{fs:List (List Dp)}{rs:List D}{OR:List If}{some:List Bool}(ho:VS.ok (OR,some)){f:If}:(CW MK At (VE kk ks ko bv fs rs OR some .ready [.var (f.row.map .p)]) true (ai (sub Nr 0)) {t:=vaU,h:=VE kk ks ko bv fs rs OR some .busy [.var (f.row.map .p),.var (f.row.map .p)],m:=[]} .normal {t:=DO 63 0 [],h:=VE kk ks ko bv fs rs (Hv f (if true=true then if f.Do>0 then f.Do else 0 else if f.Do<0 then f.Do else 0) (OR,some)).1 (Hv f (if true=true then if f.Do>0 then f.Do else 0 else if f.Do<0 then f.Do else 0) (OR,some)).2 .busy [.var (f.row.map .p),.var (f.row.map .p)],m:=[]}):=by
 have Tv:=(@va_cw (kk) (ks) (ko) (bv) (fs) (rs) (OR) (OR) (some) (some) (f) (f) (if true=true then if f.Do>0 then f.Do else 0 else if f.Do<0 then f.Do else 0) (by grind) (ho))
 exact yx [.st (.mask [])] [.s [6,7,8,9,10] Tv]
end Go.Vi
