/- A part of the proof; no conditions of its own. -/
import Derived.Test.YtelhocjibmofiaaGreatDoorV2
import Derived.Laws.StructEq
open Decidable renaming decide -> Zd
open Option.some renaming injEq -> MM
open Option renaming map_eq_some_iff -> MV, map_some -> Nr
open Go.Instr renaming sliceBounds -> O7, sliceBound -> Qk, sliceAt -> Pl, slice -> Si, findNow -> SG, sameNow -> RP, lookup -> Rc, findKey -> QX, sameBits -> Ru, mapUpdate -> Sm, range -> Sj, next -> Re, makeInterface -> RG, typeAssert -> PX
open Bool renaming and_eq_true -> MT, false_eq_true -> NC, or_eq_true -> Rr, eq_iff_iff -> Sq
open Go.Sem renaming run_bind -> M8, run_pure -> Ny
open Go.Result renaming andThen_ok -> M1, andThen -> PB
open Nat renaming le_refl -> M5, sub_zero -> Qv
open Prod.mk renaming injEq -> MP
open List renaming length_nil -> O3, isEmpty_toArray -> Tp, map_cons -> NW, all_eq_true -> Ni
open Array renaming getElem?_eq_some_iff -> OH, getElem?_toList -> NV, length_toList -> O6, toArray_toList -> Rv
open Go.Utf8 renaming decode -> Tm
open Go.Vi.Ext renaming refl -> PW
open Go.Value.map renaming injEq -> Tn
open Go.Question renaming forced -> TG
open Go.Op renaming equalIn -> QS, eqFields -> TT
open Std.Legacy renaming Range -> S3
open Go.Builtin renaming copy_ -> QW
namespace Go.Vi
open Go
section
variable {P:Program} {Γ:aq} {O:Nat->Prop} {w:World} {l:Loc} {h:aT}
def mM(M:If)(c:Nat):Nat:=match M with|none=>c|some m=>m.toNat
@[simp] theorem nR (c : Nat) : mM none c = c := rfl
@[simp] theorem dd (m : Int) (c : Nat) : mM (some m) c = m.toNat := rfl
def i8(w:World)(av:Nat->Prop)(l:Loc)(h:aT):oN->OF->Prop
 | none,none=>True
 | some d,some v=>Rel w av l h d v
 | _,_=>False
theorem zeI{lo:oN}{v:OF}{L:Int}{dflt:Int}(r:i8 w (Ub O l h) l h lo v)(hb:bZ lo dflt=some L):
  (v=none/\lo=none/\L=dflt)\/∃k,v=some (.int k L):=by
 cases lo with
 | none =>
  grind [bZ,MM,i8]
 | some d =>
  cases v with
  | none=>simp[i8] at r
  | some x =>
   simp only[bZ,MV] at hb
   obtain⟨⟨k,m⟩,h1,h2⟩:=hb
   simp only at h2
   subst h2
   exact .inr ⟨k,by rw[bB r h1]⟩
theorem eN{b:Bool}{n c:Nat}{lo hi mx:oN}{vl vh vm:OF}{L U:Int}{M:If}
  (rl:i8 w (Ub O l h) l h lo vl) (rh:i8 w (Ub O l h) l h hi vh) (rm:i8 w (Ub O l h) l h mx vm)
  (hl:bZ lo 0=some L) (hu:bZ hi n=some U) (hm:AJ mx=some M) (ok:nD L U n=true) (ok2:fM U n M=true) (ok3:(M.isNone||hi.isSome)=true) (hnc:n<=c) :
  (O7 b n c vl vh vm).run P w=.ok (L.toNat,U.toNat,(mM M c)) w:=by
 simp only[nD,MT,decide_eq_true_eq] at ok
 obtain⟨⟨o1,o2⟩,o3⟩:=ok
 have hlow:∀code (y:Nat),U<=y->(match vl with|some v=>Qk v U.toNat code|none=>pure 0:Sem Nat).run P w=.ok L.toNat w:=by
  intro code y _
  rcases zeI rl hl with ⟨rfl,_,rfl⟩|⟨k,rfl⟩
  ·simp
  ·exact run_sliceBound w k L U.toNat code o1 (by omega)
 cases mx with
 | none =>
  cases vm with
  | some x=>simp[i8] at rm
  | none =>
   simp only[AJ,MM] at hm
   subst hm
   rcases zeI rh hu with ⟨rfl,_,rfl⟩|⟨k,rfl⟩
   ·rcases zeI rl hl with ⟨rfl,_,rfl⟩|⟨k2,rfl⟩
    ·simp[O7]
    ·simp[O7,run_sliceBound w k2 L n _ o1 (by omega)]
   ·have hU:∀code,(Qk (.int k U) c code).run P w=.ok U.toNat w:=λcode=>run_sliceBound w k U c code (by omega) (by omega)
    rcases zeI rl hl with ⟨rfl,_,rfl⟩|⟨k2,rfl⟩
    ·simp[O7,hU]
    ·simp[O7,hU,run_sliceBound w k2 L U.toNat _ o1 (by omega)]
 | some m =>
  cases vm with
  | none=>simp[i8] at rm
  | some x =>
   simp only[AJ,MV] at hm
   obtain⟨⟨km,mv⟩,h1,rfl⟩:=hm
   have hx:=bB rm h1
   subst hx
   simp only[fM,MT,decide_eq_true_eq] at ok2
   have hM:∀code,(Qk (.int km mv) c code).run P w=.ok mv.toNat w:=λcode=>run_sliceBound w km mv c code (by omega) (by omega)
   rcases zeI rh hu with ⟨rfl,hi0,_⟩|⟨k,rfl⟩
   ·grind
   ·have hU:∀code,(Qk (.int k U) mv.toNat code).run P w=.ok U.toNat w:=λcode=>run_sliceBound w k U _ code (by omega) (by omega)
    rcases zeI rl hl with ⟨rfl,_,rfl⟩|⟨k2,rfl⟩
    ·simp[O7,hM,hU]
    ·simp[O7,hM,hU,run_sliceBound w k2 L U.toNat _ o1 (by omega)]
theorem UB.drop{av:Nat->Prop}{T8 sz:Nat}:∀{es:bv} {off:Nat} (n:Nat),UB w av T8 sz off es->UB w av T8 sz (off+n*sz) (es.drop n)
 | [],_,n,_=>by simp[UB]
 | e::es,off,0,r=>by simpa using r
 | e::es,off,n+1,r=>by
  simp only[UB] at r
  rw[List.drop_succ_cons,show off+(n+1)*sz=off+sz+n*sz by grind]
  exact UB.drop n r.2.2
theorem UB.take{av:Nat->Prop}{T8 sz:Nat}:∀{es:bv} {off:Nat} (n:Nat),UB w av T8 sz off es->UB w av T8 sz off (es.take n)
 | [],_,n,_=>by simp[UB]
 | e::es,off,0,r=>by simp[UB]
 | e::es,off,n+1,r=>by
  simp only[UB,List.take_succ_cons] at r ⊢
  exact⟨r.1,r.2.1,UB.take n r.2.2⟩
theorem tP{t e:TypeId}{sz n c:Nat}{base:Option Addr}{lo hi mx:oN}{vl vh vm:OF}{L U:Int}{M:If}(ht:P.underlying t=some (.slice e))(hs:VB P e=some sz)
  (rl:i8 w (Ub O l h) l h lo vl) (rh:i8 w (Ub O l h) l h hi vh) (rm:i8 w (Ub O l h) l h mx vm)
  (hl:bZ lo 0=some L) (hu:bZ hi n=some U) (hm:AJ mx=some M) (ok:nD L U n=true) (ok2:fM U n M=true) (ok3:(M.isNone||hi.isSome)=true) (hnc:n<=c) :
  (Pl t (.slice base n c) vl vh vm).run P w=.ok (.slice (if (mM M c)=L.toNat then base else base.map (·.add (L.toNat*sz))) (U.toNat-L.toNat) ((mM M c)-L.toNat)) w:=by
 simp only[Pl,M8,Uk ht,M1,Si,eN (P:=P) (b:=true) rl rh rm hl hu hm ok ok2 ok3 hnc,UM hs,Ny]
theorem xJ{es:bv}{T8 off sz sz0:Nat}{L U:Nat}(rr:UB w (Ub O l h) T8 sz0 off es)(τ:es.all (λr=>Zd (r.length=sz))=true)(h1:L<=U)(h2:U<=es.length)(m:Nat)(hm:U<=m):
  Rel w (Ub O l h) l h (.p (.sl ((es.drop L).take (U-L)))) (.slice (if m=L then some ⟨T8,off,none⟩ else (some (⟨T8,off,none⟩:Addr)).map (·.add (L*sz))) (U-L) (m-L)) /\
  (m=U->Rel w (Ub O l h) l h (.csl ((es.drop L).take (U-L))) (.slice (if m=L then some ⟨T8,off,none⟩ else (some (⟨T8,off,none⟩:Addr)).map (·.add (L*sz))) (U-L) (m-L))):=by
 have hlen:((es.drop L).take (U-L)).length=U-L:=by simp;omega
 have zgc:es≠[]->sz0=sz:=by
  intro Μ
  cases es with
  | nil=>grind
  | cons e0 es0 =>
   simp only[UB] at rr
   grind
 by_cases hmL:m=L
 ·have:U=L:=by omega
  subst this
  simp only[hmL,if_true,Nat.sub_self,List.take_zero]
  grind [Rel,UF,UB]
 ·simp only[hmL,if_false,Nr,dc]
  have hr2:UB w (Ub O l h) T8 sz (off+L*sz) ((es.drop L).take (U-L)):=by
   by_cases Μ:es=[]
   ·subst Μ;simp[UB]
   ·have:=zgc Μ;subst this
    exact(rr.drop L).take _
  refine⟨?_,λhmu=>?_⟩
  ·simp only[Rel,UF]
   exact .inr ⟨T8,off+L*sz,m-L,sz,by rw[hlen],by rw[hlen];omega,hr2⟩
  ·subst hmu
   simp only[Rel]
   grind
theorem zr{U:Int}{M:If}(hc:bI U M=true):M=some U:=by
 cases M with
 | none=>simp[bI] at hc
 | some m=>simp only[bI,decide_eq_true_eq] at hc;rw[hc]
theorem nS{L U:Int}{n:Nat}(ok:nD L U n=true):0<=L/\L<=U/\U<=n/\L.toNat<=U.toNat/\U.toNat<=n:=by
 simp only[nD,MT,decide_eq_true_eq] at ok
 omega
theorem mU{av:Nat->Prop}{x:Option Addr}{m:Nat}(cl:Bool)(hcl:cl=true->m=0)(hx:x=none->m=0):
  Rel w av l h (cH cl []) (.slice x 0 m):=by
 cases cl
 ·simp only[cH,NC,if_false,Rel,UF]
  grind
 ·have:=hcl rfl;subst this
  simp only[cH,if_true,Rel]
  grind
theorem fk{av:Nat->Prop}{x:Option Addr}{m:Nat}(cl:Bool)(hcl:cl=true->m=0)(hx:x=none->m=0)(_hsp:∀a,x=some a->a.spot=none):
  Rel w av l h (cH cl []) (.slice x 0 m):=mU cl hcl hx
theorem Iy{c:Nat}{M:If}{U:Int}(ok2:fM U 0 M=true){a:Option Addr}{f:Addr->Addr}(ha:a=none->c=0)(hx:(if mM M c=0 then a else a.map f)=none):mM M c=0:=by
 split at hx
 ·assumption
 ·have hn:a=none:=by cases a<;>simp_all
  have:=ha hn
  subst this
  cases M with
  | none=>rfl
  | some m=>simp only[fM,MT,decide_eq_true_eq] at ok2;grind [dd]
theorem capOf{c U L n:Nat}{M:If}{Ui:Int}(hU:Ui.toNat=U)(ok2:fM Ui n M=true)(h1:L<=U)(h2:U<=n)(hnc:n<=c):
  L<=(mM M c)/\U<=(mM M c)/\(bI Ui M=true->(mM M c)=U):=by
 cases M with
 | none=>simp[bI];omega
 | some m =>
  simp only[fM,MT,decide_eq_true_eq] at ok2
  refine⟨by grind [dd],by grind [dd],λhc=>?_⟩
  have:=zr hc
  simp_all
theorem tQ{c:Nat}{cl:Do}{L U:Int}{M:If}(hcl:∀k,cl=some k->c=k)(hM:bI U M=true->mM M c=U.toNat):
  ∀k,jM cl L U M=some k->mM M c-L.toNat=k:=by
 intro k hk
 unfold jM at hk
 split at hk
 ·grind
 ·split at hk
  ·cases hcl':cl with
   | none=>grind
   | some k0 =>
    simp_all
  ·simp at hk
theorem pX(R:UJ Γ O w l h){t e:TypeId}{x d:D}{y:Value}{sz n:Nat}{L U:Int}{lo hi mx:oN}{vl vh vm:OF}{M:If}(rx:Rel w (Ub O l h) l h x y)
  (ht:P.underlying t=some (.slice e)) (hs:VB P e=some sz) (hn:zdP h x=some n)
  (rl:i8 w (Ub O l h) l h lo vl) (rh:i8 w (Ub O l h) l h hi vh) (rm:i8 w (Ub O l h) l h mx vm)
  (hl:bZ lo 0=some L) (hu:bZ hi n=some U) (hm:AJ mx=some M) (ok:nD L U n=true) (ok2:fM U n M=true) (ok3:(M.isNone||hi.isSome)=true)
  (hd:Yx h x sz n L U M=some (true,d)):∃v,(Pl t y vl vh vm).run P w=.ok v w/\Rel w (Ub O l h) l h d v:=by
 obtain⟨o1,o2,o3,o4,o5⟩:=nS ok
 have run:∀(base:Option Addr) (c:Nat),n<=c->(Pl t (.slice base n c) vl vh vm).run P w=.ok (.slice (if (mM M c)=L.toNat then base else base.map (·.add (L.toNat*sz))) (U.toNat-L.toNat) ((mM M c)-L.toNat)) w :=
  λbase c hnc=>tP ht hs rl rh rm hl hu hm ok ok2 ok3 hnc
 have cap:∀c,n<=c->_:=λc hnc=>capOf (c:=c) (L:=L.toNat) (n:=n) (M:=M) (Ui:=U) rfl ok2 o4 o5 hnc
 cases x with
 | p dp =>
  cases dp with
  | v x =>
   obtain rfl:=aC rx
   cases y<;>simp[Yx] at hd
   case slice a m c =>
    cases a<;>cases m<;>cases c<;>simp at hd
    subst hd
    simp only[zdP,MM] at hn
    subst hn
    obtain⟨c1,c2,c3⟩:=cap 0 (M5 _)
    refine⟨_,run none 0 (M5 _),?_⟩
    have hU:U.toNat=0:=by omega
    have hL:L.toNat=0:=by omega
    have hm0:(mM M 0)=0:=by
     cases M with
     | none=>rfl
     | some m=>simp only[fM,MT,decide_eq_true_eq] at ok2;grind [dd]
    rw[hm0,hU,hL]
    exact Ul _ _ _ _ _
  | sl es =>
   simp only[Yx,MM,MP] at hd
   obtain⟨τ,rfl⟩:=hd
   simp only[zdP,MM] at hn
   subst hn
   simp only[Rel,UF] at rx
   rcases rx with ⟨rfl,a0,c0,rfl,ha0⟩|⟨T8,off,c,sz0,rfl,hc,rr⟩
   ·obtain⟨c1,c2,c3⟩:=cap c0 (Nat.zero_le _)
    refine⟨_,run a0 c0 (Nat.zero_le _),?_⟩
    have hU:U.toNat=0:=by simp at o5;omega
    have hL:L.toNat=0:=by omega
    simp only[hU,hL,Nat.sub_self,Qv,List.drop_nil,List.take_nil] at c3 ⊢
    exact mU _ (λhcl=>c3 hcl) (Iy (by simpa using ok2) ha0)
   ·obtain⟨c1,c2,c3⟩:=cap c hc
    refine⟨_,run _ c hc,?_⟩
    obtain⟨p1,p2⟩:=xJ (l:=l) (h:=h) (O:=O) rr τ o4 o5 _ c2
    grind [cH]
 | csl es =>
  simp only[Yx,MM,MP] at hd
  obtain⟨τ,rfl⟩:=hd
  simp only[zdP,MM] at hn
  subst hn
  simp only[Rel] at rx
  rcases rx with ⟨rfl,a0,rfl⟩|⟨T8,off,sz0,rfl,rr⟩
  ·obtain⟨c1,c2,c3⟩:=cap 0 (M5 _)
   refine⟨_,run a0 0 (M5 _),?_⟩
   have hU:U.toNat=0:=by simp at o5;omega
   have hL:L.toNat=0:=by omega
   have hm0:(mM M 0)=0:=by
    cases M with
    | none=>rfl
    | some m=>simp only[fM,MT,decide_eq_true_eq,O3] at ok2;grind [dd]
   rw[hm0,hU,hL]
   simp only[List.drop_nil,List.take_nil,if_true]
   exact mU _ (λ_=>rfl) (λ_=>rfl)
  ·obtain⟨c1,c2,c3⟩:=cap es.length (M5 _)
   refine⟨_,run _ es.length (M5 _),?_⟩
   obtain⟨p1,p2⟩:=xJ (l:=l) (h:=h) (O:=O) rr τ o4 o5 _ c2
   unfold cH
   split
   ·rename_i hcl
    simp only[Rr,MT,Option.isNone_iff_eq_none,decide_eq_true_eq] at hcl
    grind [nR]
   ·exact p1
 | ref r =>
  have rx':=rx
  obtain⟨g1,hr⟩:=rx
  cases r with
  | T7 b e' =>
   simp only[Yx,zdP] at hd hr hn
   cases hb:h[b]? with
   | none=>simp[hb] at hd
   | some bx =>
    cases bx<;>simp only[hb,reduceCtorEq] at hd hr hn
    rename_i es e2 UX
    split at hd
    case isFalse=>simp at hd
    rename_i he
    obtain⟨rfl,rfl⟩:=he
    simp only[if_true,MM] at hn
    subst hn
    simp only[MM,MP,true_and] at hd
    subst hd
    have hv:=hr.2 rfl
    cases UZ:l b with
    | none =>
     have hok:=R.T8 b _ hb
     simp only[UZ,gV,Up] at hv hok
     obtain⟨_,rfl⟩:=hv
     subst hok
     obtain⟨c1,c2,c3⟩:=cap 0 (M5 _)
     refine⟨_,run none 0 (M5 _),?_⟩
     have hU:U.toNat=0:=by simp at o5;omega
     have hL:L.toNat=0:=by omega
     have hm0:(mM M 0)=0:=by
      cases M with
      | none=>rfl
      | some m=>simp only[fM,MT,decide_eq_true_eq,O3] at ok2;grind [dd]
     rw[hm0,hU,hL]
     split
     ·exact rx'
     ·rename_i h3
      rw[if_pos ⟨by omega,λhh=>h3 ⟨by omega,hh.1,hh.2⟩⟩]
      exact fk _ (λ_=>rfl) (λ_=>rfl) (λa ha=>by simp at ha)
    | some pr =>
     obtain⟨T8,cp0⟩:=pr
     simp only[UZ,gV] at hv
     obtain⟨oo,c,rfl,rfl,hc⟩:=hv
     obtain⟨c1,c2,c3⟩:=cap c hc
     have hcc:mM M c<=c:=by
      cases M with
      | none=>simp[nR]
      | some m=>simp only[fM,MT,decide_eq_true_eq] at ok2;grind [dd]
     refine⟨_,run _ c hc,?_⟩
     split
     ·simp_all
     ·split
      ·rename_i h4
       have e1:U.toNat-L.toNat=0:=by omega
       rw[e1]
       refine fk _ (λhcl=>by grind) (λhx=>?_) (λa ha=>?_)
       ·grind
       ·split at ha<;>simp at ha<;>subst ha<;>rfl
      ·rename_i h4
       simp only[Rel,Ua,hb]
       refine⟨by split<;>rfl,M5 _,λ_=>⟨by omega,T8,oo,c,mM M c-L.toNat,UZ,?_,by omega,by omega,tQ (by simp) c3⟩⟩
       by_cases hmL:mM M c=L.toNat
       ·grind
       simp_all
  | vs b e' i m cl =>
   simp only[Yx,zdP] at hd hr hn
   cases hb:h[b]? with
   | none=>simp[hb] at hd
   | some bx =>
    cases bx<;>simp only[hb,reduceCtorEq] at hd hr hn
    rename_i es e2 UX
    split at hd
    case isFalse=>simp at hd
    rename_i he
    obtain⟨rfl,rfl⟩:=he
    simp only[if_true,MM] at hn
    subst hn
    simp only[MM,MP,true_and] at hd
    subst hd
    obtain⟨UY,T8,oo,cp,c,UZ,hy,hc,hic,zmC⟩:=hr.2 rfl
    clear hr
    obtain⟨c1,c2,c3⟩:=cap c hc
    have hcc:mM M c<=c:=by
     cases M with
     | none=>simp[nR]
     | some m=>simp only[fM,MT,decide_eq_true_eq] at ok2;grind [dd]
    have hya:∃a0,y=.slice a0 m c:=by
     rcases hy with hy|⟨a1,hy,_⟩
     ·exact⟨_,hy⟩
     ·exact⟨_,hy⟩
    obtain⟨a0,rfl⟩:=hya
    refine⟨_,run _ c hc,?_⟩
    split
    ·rename_i h4
     have e1:U.toNat-L.toNat=0:=by omega
     rw[e1]
     refine mU _ (λhcl=>by grind) (λhx=>?_)
     grind
    ·rename_i h4
     simp only[Rel,Ua,hb]
     refine⟨by split<;>first|exact g1|rfl,M5 _,λ_=>⟨by omega,T8,oo,cp,mM M c-L.toNat,UZ,?_,by omega,by omega,tQ zmC c3⟩⟩
     ·by_cases hmL:mM M c=L.toNat
      ·grind
      ·rcases hy with hy|⟨a1,hy,h0⟩
       ·cases hy
        simp only[hmL,if_false,Nr,dc]
        grind
       ·omega
  | av b off m UX =>
   simp only[Yx,zdP] at hd hr hn
   cases hb:h[b]? with
   | none=>simp[hb] at hd
   | some bx =>
    cases bx<;>simp only[hb,reduceCtorEq,MM] at hd hr hn
    subst hn
    split at hd
    case isFalse=>simp at hd
    rename_i he
    subst he
    simp only[MM,MP,true_and] at hd
    subst hd
    obtain⟨T8,cp,c,UZ,rfl,hc⟩:=hr
    obtain⟨c1,c2,c3⟩:=cap c hc
    refine⟨_,run _ c hc,?_⟩
    split
    ·rename_i h4
     have e1:U.toNat-L.toNat=0:=by omega
     rw[e1]
     refine fk _ (λhcl=>by grind) (λhx=>?_) (λa ha=>?_)
     ·grind
     ·split at ha<;>simp at ha<;>subst ha<;>rfl
    ·rename_i h4
     have hmL:¬(mM M c)=L.toNat:=by omega
     simp only[hmL,if_false,Nr,dc]
     simp only[Rel,Ua,hb]
     exact⟨rfl,T8,cp,_,UZ,rfl,by omega⟩
  | _=>simp[Yx] at hd
 | _=>simp[Yx] at hd
theorem jg{len:Nat}{e:TypeId}{x d:D}{y:Value}{L:Int}{lo hi mx:oN}{vl vh vm:OF}{M:If}(rx:Rel w (Ub O l h) l h x y)
  (rl:i8 w (Ub O l h) l h lo vl) (rh:i8 w (Ub O l h) l h hi vh) (rm:i8 w (Ub O l h) l h mx vm) (hl:bZ lo 0=some L) (hm:AJ mx=some M)
  (hd:iJ P h len e x L hi M=some (true,d)):∃a:Addr,y=.pointer (some a)/\∃sz lN hN,VB P e=some sz/\(O7 false len len vl vh vm).run P w=.ok (lN,hN,len) w /\
   Rel w (Ub O l h) l h d (.slice (some (if len=lN then a else a.add (lN*sz))) (hN-lN) (len-lN)):=by
 unfold iJ at hd
 split at hd
 case h_2=>simp at hd
 rename_i b off
 obtain⟨g1,hr⟩:=rx
 cases hs:VB P e with
 | none=>simp[hs] at hd
 | some sz =>
  cases hu:bZ hi len with
  | none=>grind
  | some U =>
   cases hb:h[b]? with
   | none=>grind
   | some bx =>
    cases bx<;>simp only[hs,hu,hb,reduceCtorEq] at hd hr
    cases M with
    | some m=>simp at hd
    | none =>
     simp only[MM,MP] at hd
     obtain⟨ok,rfl⟩:=hd
     obtain⟨T8,cp,UZ,rfl⟩:=hr
     obtain⟨o1,o2,o3,o4,o5⟩:=nS ok
     refine⟨_,rfl,sz,L.toNat,U.toNat,rfl,eN (P:=P) (b:=false) (M:=none) rl rh rm hl hu hm ok (by simp[fM]) (by simp) (M5 _),?_⟩
     split
     ·rename_i h4
      have e1:U.toNat-L.toNat=0:=by omega
      rw[e1]
      exact fk (l:=l) (h:=h) false (λhcl=>by simp at hcl) (λhx=>by simp at hx) (λa ha=>by split at ha<;>simp at ha<;>subst ha<;>rfl)
     ·rename_i h4
      have hmL:¬len=L.toNat:=by omega
      simp only[hmL,if_false,dc]
      simp only[Rel,Ua,hb]
      exact⟨rfl,T8,cp,_,UZ,rfl,by omega⟩
theorem vR{t e:TypeId}{x d:D}{y:Value}{sz:Nat}{lo hi mx:oN}{vl vh vm:OF}(rx:Rel w (Ub O l h) l h x y)
  (ht:P.underlying t=some (.slice e)) (hs:VB P e=some sz)
  (rl:i8 w (Ub O l h) l h lo vl) (rh:i8 w (Ub O l h) l h hi vh) (rm:i8 w (Ub O l h) l h mx vm)
  (hd:AU h x sz lo hi mx=some (true,d)):∃v,(Pl t y vl vh vm).run P w=.ok v w/\Rel w (Ub O l h) l h d v:=by
 unfold AU at hd
 split at hd
 case h_2=>simp at hd
 rename_i b e' i n k hdd
 split at hd
 case h_2=>simp at hd
 rename_i kk u hi'
 split at hd
 case h_2=>simp at hd
 rename_i hc
 simp only[decide_eq_true_eq] at hc
 obtain⟨Uy,Δ⟩:=hc
 split at hd
 case h_2=>simp at hd
 rename_i es e2 UX hb
 split at hd
 case h_2=>simp at hd
 rename_i hc
 simp only[decide_eq_true_eq] at hc
 obtain⟨rfl,rfl⟩:=hc
 simp only[MM,MP,decide_eq_true_eq] at hd
 obtain⟨hlen,rfl⟩:=hd
 obtain⟨g1,hr⟩:=rx
 simp only[hb] at hr
 obtain⟨UY,T8,oo,cp,c,UZ,hy,hnc,hic,zmC⟩:=hr.2 trivial
 have:=zmC k rfl
 subst this
 rcases hy with rfl|⟨a1,hy,h0⟩
 case inr=>omega
 cases vl with
 | some x=>simp[i8] at rl
 | none =>
 cases vm with
 | some x=>simp[i8] at rm
 | none =>
 cases vh with
 | none=>simp[i8] at rh
 | some xv =>
 have hx:=bB rh hi'
 subst hx
 have hU:∀code,(Qk (.int kk u) c code).run P w=.ok u.toNat w:=λcode=>run_sliceBound w kk u c code (by omega) (by omega)
 refine⟨.slice (some ⟨T8,oo+i*UX,none⟩) u.toNat c,?_,?_⟩
 ·have U5:¬c=0:=by omega
  simp[Pl,Uk ht,Si,O7,hU,UM hs,U5,dc]
 ·simp only[Rel,Ua,hb]
  exact⟨rfl,M5 _,λ_=>⟨hlen,T8,oo,cp,c,UZ,.inl rfl,by omega,hic,λk hk=>by cases hk;rfl⟩⟩
theorem tR(R:UJ Γ O w l h){t:TypeId}{x d:D}{y:Value}{lo hi mx:oN}{vl vh vm:OF}(rx:Rel w (Ub O l h) l h x y)
  (rl:i8 w (Ub O l h) l h lo vl) (rh:i8 w (Ub O l h) l h hi vh) (rm:i8 w (Ub O l h) l h mx vm) (hd:dT P h t x lo hi mx=some (true,d)) :
  ∃v,(Pl t y vl vh vm).run P w=.ok v w/\Rel w (Ub O l h) l h d v:=by
 unfold dT at hd
 cases hL:bZ lo 0 with
 | none=>simp[hL] at hd
 | some L =>
  cases hM:AJ mx with
  | none=>grind
  | some M =>
   simp only[hL,hM] at hd
   cases hu:P.underlying t with
   | none=>simp[hu] at hd
   | some u =>
    cases u<;>simp only[hu,reduceCtorEq] at hd
    case string =>
     unfold xC at hd
     split at hd
     ·rename_i s
      obtain rfl:=aC rx
      cases hU:bZ hi s.size with
      | none=>simp[hU] at hd
      | some U =>
       cases M with
       | some m=>simp[hU] at hd
       | none =>
        simp only[hU,MM,MP] at hd
        obtain⟨ok,rfl⟩:=hd
        cases mx with
        | some m0=>grind [AJ,MV]
        | none =>
         cases vm with
         | some x=>simp[i8] at rm
         | none =>
          refine⟨_,?_,Ul _ _ _ _ _⟩
          have:=eN (P:=P) (b:=false) (mx:=none) rl rh rm hL hU rfl ok (by simp[fM]) (by simp) (M5 _)
          simp[Pl,Uk hu,Si,this]
     ·simp at hd
    case slice e =>
     cases hs:VB P e with
     | none=>simp[hs] at hd
     | some sz =>
      cases hn:zdP h x with
      | none=>grind
      | some n =>
       simp only[hs,hn] at hd
       cases hW:AU h x sz lo hi mx with
       | some r =>
        simp only[hW,MM] at hd
        subst hd
        exact vR rx hu hs rl rh rm hW
       | none =>
       simp only[hW] at hd
       cases hU:bZ hi n with
       | none=>simp[hU] at hd
       | some U =>
        simp only[hU,MV,MP,MT] at hd
        obtain⟨⟨r1,r2⟩,h1,⟨⟨⟨ok,ok2⟩,ok3⟩,h3⟩,h4⟩:=hd
        simp only at h3 h4
        subst h3;subst h4
        exact pX R rx hu hs hn rl rh rm hL hU hM ok ok2 ok3 h1
    case array len e =>
     obtain⟨a,rfl,sz,lN,hN,hs,hb,hr⟩:=jg (P:=P) rx rl rh rm hL hM hd
     refine⟨_,?_,hr⟩
     simp[Pl,Uk hu,Instr.sureAddr,hb,UM hs]
    case pointer arr =>
     cases hu2:P.underlying arr with
     | none=>simp[hu2] at hd
     | some u2 =>
      cases u2<;>simp only[hu2,reduceCtorEq] at hd
      case array len e =>
       obtain⟨a,rfl,sz,lN,hN,hs,hb,hr⟩:=jg (P:=P) rx rl rh rm hL hM hd
       refine⟨_,?_,hr⟩
       simp[Pl,Uk hu,Uk hu2,Si,asAddr,hb,UM hs]
end
section
variable {P:Program} {Γ:aq} {O:Nat->Prop} {w:World} {l:Loc} {h:aT}
theorem A6(a b:ByteArray):(a==b)=eqS a b:=by
 have:(a==b)=(a.data==b.data):=rfl
 rw[this,Sq]
 simp only[eqS,beq_iff_eq,Array.toList_inj]
theorem Υ{kt:TypeId}{k:D}{v:Value}(hk:ed P kt k=true)(rk:Rel w (Ub O l h) l h k v)(b:Bool)(w':World):(Instr.checkKey b 10000 kt v).run P w'=.ok () w':=by
 rw[show(10000:Nat)=9999+1 from rfl,Instr.checkKey]
 unfold ed at hk
 split at hk<;>first|(rename_i h1;obtain rfl:=aC rk;simp[Uk h1])|simp at hk
theorem la{kt:TypeId}{k:D}{v:Value}{u:TypeDesc}(hu:P.underlying kt=some u)(hk:ed P kt k=true)(rk:Rel w (Ub O l h) l h k v):
  ∀{WV:List (D×D×Nat)} {es:List MapEntry} (i:Nat) {r:Option (Nat×D)},Uq w (Ub O l h) l h WV es->eM k WV i=some r ->
   ∃r',SG u v es i=some r'/\(match r,r' with
    | none,none=>True
    | some (j,d),some (j',y)=>j'=j/\Rel w (Ub O l h) l h d y
    | _,_=>False)
 | [],[],i,r,_,hf=>by simp only[eM,MM] at hf;subst hf;exact⟨none,rfl,trivial⟩
 | (k',d,n)::WV,e::es,i,r,rel,hf=>by
  simp only[Uq] at rel
  simp only[eM] at hf
  have hsame:∀b,mL k k'=some b->RP u v e.key=some b:=by
   intro b hb
   unfold ed at hk
   rw[hu] at hk
   unfold mL at hb
   split at hb
   ·rename_i k1 a k2 c
    obtain rfl:=aC rk
    have h2:=aC rel.1
    cases u<;>simp at hk
    rw[h2];simpa[RP] using hb
   ·rename_i a c
    obtain rfl:=aC rk
    have h2:=aC rel.1
    cases u<;>simp at hk
    rw[h2];grind [RP,A6]
   ·rename_i a c
    obtain rfl:=aC rk
    have h2:=aC rel.1
    cases u<;>simp at hk
    rw[h2];simpa[RP] using hb
   ·simp at hb
  cases hq:mL k k' with
  | none=>simp[hq] at hf
  | some b =>
   have hs:=hsame b hq
   cases b with
   | true =>
    simp only[hq,MM] at hf
    subst hf
    exact⟨some (i,e.val),by simp[SG,hs],rfl,rel.2.1⟩
   | false =>
    simp only[hq] at hf
    obtain⟨r',h1,h2⟩:=la hu hk rk (i+1) rel.2.2.2 hf
    exact⟨r',by simp[SG,hs,h1],h2⟩
 | [],_::_,_,_,rel,_=>by simp[Uq] at rel
 | _::_,[],_,_,rel,_=>by simp[Uq] at rel
theorem nT{kt:TypeId}{k:D}(hk:ed P kt k=true):∃u,P.underlying kt=some u:=by
 unfold ed at hk
 grind
theorem ck{r:Nat}{o:Obj}(ho:w.heap[r]? = some o)(hc:∀c T fr,o≠.cells c T fr):(getObj r).run P w=.ok o w:=by
 unfold getObj
 cases o<;>simp[Sem.run,ho]
 grind
theorem rO(R:UJ Γ O w l h){t:TypeId}{x k d:D}{y v:Value}{ok:Bool}(rx:Rel w (Ub O l h) l h x y)(rk:Rel w (Ub O l h) l h k v)(hd:aM P h t x k ok=some d):
  ∃z,(Rc t y v ok).run P w=.ok z w/\Rel w (Ub O l h) l h d z:=by
 unfold aM at hd
 cases hu:P.underlying t with
 | none=>simp[hu] at hd
 | some u =>
  cases hm:rL h x with
  | none=>grind
  | some WV =>
   cases u<;>simp only[hu,hm,reduceCtorEq] at hd
   rename_i kt et
   split at hd
   case isFalse=>simp at hd
   rename_i hk
   obtain⟨uk,huk⟩:=nT hk
   have fin:∀(es:List MapEntry),Uq w (Ub O l h) l h WV es->∃z r',(QX kt v es).run P w=.ok r' w/\(match r' with|some (_,v)=>pure (v,true)|none=>do pure (<-zeroValue et,false):Sem (Value×Bool)).run P w=.ok z w /\
     Rel w (Ub O l h) l h d (if ok then .tuple #[z.1,.bool z.2] else z.1):=by
    intro es zgY
    cases hf:eM k WV 0 with
    | none=>simp[hf] at hd
    | some r =>
     obtain⟨r',hn,hm2⟩:=la huk hk rk 0 zgY hf
     have hkey:(QX kt v es).run P w=.ok r' w:=by
      simp only[QX,M8,Uk huk,M1,hn,Ny]
     cases hz:jm P et with
     | none=>grind
     | some z =>
      rcases r with _|⟨i,d0⟩
      ·simp only[hf,hz,MM] at hd
       rcases r' with _|⟨j,y0⟩
       ·refine⟨(z,false),_,hkey,by simp[δ hz],?_⟩
        subst hd
        cases ok
        ·exact kW _ _ _ _ z
        ·simp only[if_true,Rel]
         exact⟨_,rfl,kW _ _ _ _ z,Ul _ _ _ _ _,trivial⟩
       ·simp at hm2
      ·simp only[hf,hz,MM] at hd
       rcases r' with _|⟨j,y0⟩
       ·simp at hm2
       ·simp only at hm2
        refine⟨(y0,true),_,hkey,by simp,?_⟩
        subst hd
        cases ok
        ·exact hm2.2
        ·simp only[if_true,Rel]
         exact⟨_,rfl,hm2.2,Ul _ _ _ _ _,trivial⟩
   unfold rL at hm
   split at hm
   ·cases hm
    obtain rfl:=aC rx
    obtain⟨z,r',h1,h2,h3⟩:=fin [] (by simp[Uq])
    refine⟨_,?_,h3⟩
    cases hzr:(zeroValue et).run P w with
    | halt a b=>rcases r' with _|⟨j,y0⟩<;>simp[hzr] at h2<;>subst h2<;>simp only[Rc,M8,Uk hu,M1,Ny,Υ hk rk,h1]
    | ok a b=>rcases r' with _|⟨j,y0⟩<;>simp[hzr] at h2<;>(try obtain⟨rfl,rfl⟩:=h2)<;>(try subst h2)<;>simp only[Rc,M8,Uk hu,M1,Ny,Υ hk rk,h1,hzr]
   ·rename_i b
    cases hb:h[b]? with
    | none=>simp[hb] at hm
    | some bx =>
     obtain⟨_,hr⟩:=rx
     cases bx<;>simp only[hb,reduceCtorEq,MM] at hm hr
     subst hm
     obtain⟨T8,cp,UZ,rfl⟩:=hr
     obtain⟨zbY,cp',es,h1,h2,h3⟩:=R.T8 b _ hb
     obtain⟨rfl,rfl⟩:T8=zbY/\cp=cp':=by grind
     obtain⟨z,r',g1,g2,g3⟩:=fin es.toList h3
     refine⟨_,?_,g3⟩
     have hgo:=ck (P:=P) (o:=.map es _) h2 (by simp)
     cases hzr:(zeroValue et).run P w with
     | halt a b=>rcases r' with _|⟨j,y0⟩<;>simp[hzr] at g2<;>subst g2<;>simp only[Rc,M8,Uk hu,M1,hgo,Ny,Υ hk rk,g1]
     | ok a b=>rcases r' with _|⟨j,y0⟩<;>simp[hzr] at g2<;>(try obtain⟨rfl,rfl⟩:=g2)<;>(try subst g2)<;>simp only[Rc,M8,Uk hu,M1,hgo,Ny,Υ hk rk,g1,hzr]
   ·simp at hm
theorem cE{r:Nat}{o o':Obj}(ho:w.heap[r]? = some o)(hc:∀c T fr,o≠.cells c T fr):(setObj r o').run P w=.ok () {w with heap:=w.heap.setIfInBounds r o' }:=by
 unfold setObj
 cases o<;>simp[Sem.run,ho]
 grind
theorem eh{r:Nat}{o o':Obj}(ho:w.heap[r]? = some o):({w with heap:=w.heap.setIfInBounds r o' }:World).heap[r]? = some o':=by
 grind
theorem vS{r k:Nat}{o':Obj}(hk:k≠r):({w with heap:=w.heap.setIfInBounds r o' }:World).heap[k]? = w.heap[k]?:=by
 grind
theorem mV(R:UJ Γ O w l h){b:Nat}{x x':Uc}(hb:h[b]? = some x)(hx:x≠.U7){T8 cp:Nat}(UZ:l b=some (T8,cp)){o o':Obj}(_ho:w.heap[T8]? = some o)
  (hle:x.le x') (hok:Ext w l h {w with heap:=w.heap.setIfInBounds T8 o' } l (h.set b x')->Up {w with heap:=w.heap.setIfInBounds T8 o' } (Ub O l (h.set b x')) l (h.set b x') b x') :
  UJ Γ O {w with heap:=w.heap.setIfInBounds T8 o' } l (h.set b x')/\Ext w l h {w with heap:=w.heap.setIfInBounds T8 o' } l (h.set b x') :=
 R.step b x' (by simp) ⟨rfl,rfl,rfl,(by grind)⟩ (λi hi=>be _ _ hi) (aK hb) (λ_ _=>rfl) (λz hz=>by grind)
  (λk hk hno=>vS (λe=>hno x cp hb hx (by rw[UZ,e])))
  (λk c hk=>.inl ⟨x,c,hb,hx,hk⟩) hok
theorem A7{WV:List (D×D×Nat)}{es:List MapEntry}:∀(i:Nat) {k d:D} {n:Nat} {e:MapEntry},Uq w (Ub O l h) l h WV es->Rel w (Ub O l h) l h k e.key->Rel w (Ub O l h) l h d e.val->e.born=n ->
  Uq w (Ub O l h) l h (WV.set i (k,d,n)) (es.set i e):=by
 induction WV generalizing es with
 | nil=>grind [Uq]
 | cons a t ih =>
  intro i k d n e r h1 h2 h3
  obtain⟨k0,d0,n0⟩:=a
  cases es with
  | nil=>simp[Uq] at r
  | cons e0 es0 =>
   simp only[Uq] at r
   cases i with
   | zero=>grind [Uq]
   | succ i=>grind [Uq]
theorem zt{WV:List (D×D×Nat)}{es:List MapEntry}{k d:D}{n:Nat}{e:MapEntry}(r:Uq w (Ub O l h) l h WV es)(h1:Rel w (Ub O l h) l h k e.key)(h2:Rel w (Ub O l h) l h d e.val)(h3:e.born=n):
  Uq w (Ub O l h) l h (WV++[(k,d,n)]) (es++[e]):=by
 induction WV generalizing es with
 | nil=>grind [Uq]
 | cons a t ih =>
  obtain⟨k0,d0,n0⟩:=a
  cases es with
  | nil=>simp[Uq] at r
  | cons e0 es0=>grind [Uq]
theorem A8{WV:List (D×D×Nat)}{es:List MapEntry}(i:Nat)(r:Uq w (Ub O l h) l h WV es){k d:D}{n:Nat}(hk:WV[i]? = some (k,d,n)):
  ∃e,es[i]? = some e/\Rel w (Ub O l h) l h k e.key/\Rel w (Ub O l h) l h d e.val/\e.born=n:=by
 induction WV generalizing es i with
 | nil=>simp at hk
 | cons a t ih =>
  obtain⟨k0,d0,n0⟩:=a
  cases es with
  | nil=>simp[Uq] at r
  | cons e0 es0 =>
   grind [Uq]
theorem qp{k:D}:∀{WV:List (D×D×Nat)} (i:Nat) {j:Nat} {d:D},eM k WV i=some (some (j,d))->∃k' n,i<=j/\WV[j-i]? = some (k',d,n)/\mL k k'=some true
 | [],_,_,_,hf=>by simp[eM] at hf
 | (k',d',n')::WV,i,j,d,hf=>by
  simp only[eM] at hf
  cases hq:mL k k' with
  | none=>simp[hq] at hf
  | some b =>
   cases b with
   | true=>simp_all
   | false =>
    simp only[hq] at hf
    obtain⟨k2,n2,h1,h2,h3⟩:=qp (i+1) hf
    grind
theorem vT{k k':D}{v v':Value}(rk:Rel w (Ub O l h) l h k v)(rk':Rel w (Ub O l h) l h k' v')(hq:mL k k'=some true)(n:Nat):Ru (n+1) v' v=true:=by
 unfold mL at hq
 split at hq
 ·obtain rfl:=aC rk
  obtain rfl:=aC rk'
  split at hq
  ·rename_i hk;subst hk
   simp only[MM,beq_iff_eq] at hq
   subst hq;simp[Ru]
  ·simp at hq
 ·obtain rfl:=aC rk
  obtain rfl:=aC rk'
  simp only[MM] at hq
  rw[<-A6] at hq
  simp only[Ru]
  rename_i a b
  have:(a.data==b.data)=true:=hq
  have h2:a.data=b.data:=by simpa using this
  show(b.data==a.data)=true
  simp[h2]
 ·obtain rfl:=aC rk
  obtain rfl:=aC rk'
  simp only[MM,beq_iff_eq] at hq
  subst hq;simp[Ru]
 ·simp at hq
theorem gP(R:UJ Γ O w l h){t:TypeId}{x k d:D}{y v z:Value}{h':aT}(rx:Rel w (Ub O l h) l h x y)(rk:Rel w (Ub O l h) l h k v)(rd:Rel w (Ub O l h) l h d z)
  (hd:aO P h t x k d=some h'):∃w',(Sm t y v z).run P w=.ok () w'/\UJ Γ O w' l h'/\Ext w l h w' l h':=by
 unfold aO at hd
 cases hu:P.underlying t with
 | none=>simp[hu] at hd
 | some u =>
  cases u<;>simp only[hu,reduceCtorEq] at hd
  rename_i kt et
  cases x with
  | ref r =>
   cases r<;>simp only[reduceCtorEq] at hd
   rename_i b
   cases hb:h[b]? with
   | none=>simp[hb] at hd
   | some bx =>
    obtain⟨_,hr⟩:=rx
    cases bx<;>simp only[hb,reduceCtorEq] at hd hr
    rename_i WV clock
    split at hd
    case isFalse=>simp at hd
    rename_i hk
    obtain⟨uk,huk⟩:=nT hk
    obtain⟨T8,cp,UZ,rfl⟩:=hr
    obtain⟨zbY,cp',es,h1,h2,h3⟩:=R.T8 b _ hb
    obtain⟨rfl,rfl⟩:T8=zbY/\cp=cp':=by grind
    have hgo:=ck (P:=P) (o:=.map es clock) h2 (by simp)
    cases hf:eM k WV 0 with
    | none=>simp[hf] at hd
    | some r =>
     obtain⟨r',hn,hm2⟩:=la huk hk rk 0 h3 hf
     have hkey:(QX kt v es.toList).run P w=.ok r' w:=by
      simp only[QX,M8,Uk huk,M1,hn,Ny]
     rcases r with _|⟨i,d0⟩
     ·simp only[hf,MM] at hd
      rcases r' with _|⟨j,y0⟩
      ·subst hd
       have:=mV R (x':=.map (WV++[(k,d,clock)]) (clock+1)) hb (by simp) UZ (o':=.map (es.push {key:=v,val:=z,born:=clock}) (clock+1)) h2 trivial
        (λE=>⟨T8,cp,_,UZ,eh h2,by rw[Array.toList_push];exact zt (E.zkv h3) (E.rel rk) (E.rel rd) rfl⟩)
       refine⟨_,?_,this.1,this.2⟩
       simp only[Sm,M8,Uk hu,M1,hgo,Υ hk rk,hkey,cE h2 (by simp)]
      ·simp at hm2
     ·simp only[hf] at hd
      rcases r' with _|⟨j,y0⟩
      ·simp at hm2
      ·simp only at hm2
       obtain⟨rfl,ry⟩:=hm2
       obtain⟨k',n,_,hkv,hq⟩:=qp 0 hf
       simp only[Qv] at hkv
       simp only[hkv,MM] at hd
       subst hd
       obtain⟨e0,he0,r1,r2,r3⟩:=A8 j h3 hkv
       have hsb:=vT rk r1 hq 9999
       have he0':es[j]? = some e0:=by rw[<-NV];exact he0
       have hmod:(es.modify j λe=>{e with key:=v,val:=z}).toList=es.toList.set j {key:=v,val:=z,born:=e0.born}:=by
        apply List.ext_getElem?
        intro i
        rw[NV,Array.getElem?_modify,List.getElem?_set]
        by_cases hji:j=i
        ·grind
        ·simp[hji]
       have:=mV R (x':=.map (WV.set j (k,d,n)) clock) hb (by simp) UZ (o':=.map (es.modify j λe=>{e with key:=v,val:=z}) clock) h2 trivial
        (λE=>⟨T8,cp,_,UZ,eh h2,by rw[hmod];exact A7 j (E.zkv h3) (E.rel rk) (E.rel rd) r3⟩)
       refine⟨_,?_,this.1,this.2⟩
       simp only[Sm,M8,Uk hu,M1,hgo,Υ hk rk,hkey,Instr.keyThatStays,he0',Nr,Option.getD_some,hsb,if_true,Ny,cE h2 (by simp)]
  | _=>simp at hd
theorem rP(R:UJ Γ O w l h)(t:TypeId):∃v w' l',(Instr.makeMap t none).run P w=.ok v w'/\UJ Γ O w' l' (h++[.map [] 0])/\Ext w l h w' l' (h++[.map [] 0]) /\
  Rel w' (Ub O l' (h++[.map [] 0])) l' (h++[.map [] 0]) (.ref (.mp h.length)) v:=by
 obtain⟨R',E⟩:=eK R (.map #[] 0) (.map [] 0) 0 (λ_=>⟨w.heap.size,0,#[],by simp,heap_alloc_new w _,by simp[Uq]⟩)
 refine⟨.map (some w.heap.size),_,_,by simp[Instr.makeMap],R',E,?_⟩
 simp only[Rel,Ua]
 refine⟨rfl,?_⟩
 simp
end
section
variable {P:Program} {Γ:aq} {O:Nat->Prop} {w:World} {l:Loc} {h:aT}
theorem nU(R:UJ Γ O w l h)(o:Obj)(x:Uc)(hx:(∃s p,x=.sit s p)\/(∃m a b c,x=.mit m a b c))
  (hok:Ext w l h (w.alloc o) (l.upd h.length (some (w.heap.size,0))) (h++[x]) ->
   Up (w.alloc o) (Ub O (l.upd h.length (some (w.heap.size,0))) (h++[x])) (l.upd h.length (some (w.heap.size,0))) (h++[x]) h.length x) :
  ∃l',UJ Γ O (w.alloc o) l' (h++[x])/\Ext w l h (w.alloc o) l' (h++[x])/\Rel (w.alloc o) (Ub O l' (h++[x])) l' (h++[x]) (.ref (.it h.length)) (.pointer (some ⟨w.heap.size,0,none⟩)):=by
 obtain⟨R',E⟩:=eK R o x 0 hok
 refine⟨_,R',E,?_⟩
 simp only[Rel,Ua]
 refine⟨rfl,?_⟩
 rcases hx with ⟨s,p,rfl⟩|⟨m,a,b,c,rfl⟩<;>simp
theorem tS(R:UJ Γ O w l h){t:TypeId}{x d:D}{y:Value}{h':aT}(rx:Rel w (Ub O l h) l h x y)(hd:xD P h t x=some (d,h')):
  ∃v w' l',(Sj t y).run P w=.ok v w'/\UJ Γ O w' l' h'/\Ext w l h w' l' h'/\Rel w' (Ub O l' h') l' h' d v:=by
 unfold xD at hd
 split at hd
 ·rename_i s hu
  cases hd
  obtain rfl:=aC rx
  obtain⟨l',r1,r2,r3⟩:=nU R (.stringIter s 0) (.sit s 0) (.inl ⟨_,_,rfl⟩) (λ_=>⟨w.heap.size,0,by simp,heap_alloc_new w _⟩)
  exact⟨_,_,l',by simp[Sj,Uk hu],r1,r2,r3⟩
 ·rename_i hu
  cases hd
  obtain rfl:=aC rx
  obtain⟨l',r1,r2,r3⟩:=nU R (.mapIter none 0 #[] 0) (.mit none 0 [] 0) (.inr ⟨_,_,_,_,rfl⟩) (λ_=>⟨w.heap.size,0,none,by simp,heap_alloc_new w _,rfl⟩)
  exact⟨_,_,l',by simp[Sj,Uk hu],r1,r2,r3⟩
 ·rename_i kt et b hu
  cases hb:h[b]? with
  | none=>simp[hb] at hd
  | some bx =>
   have rx':=rx
   obtain⟨_,hr⟩:=rx
   cases bx<;>simp only[hb,reduceCtorEq,MM,MP] at hd hr
   rename_i WV clock
   obtain⟨rfl,rfl⟩:=hd
   obtain⟨T8,cp,UZ,rfl⟩:=hr
   obtain⟨zbY,cp',es,h1,h2,h3⟩:=R.T8 b _ hb
   obtain⟨rfl,rfl⟩:T8=zbY/\cp=cp':=by grind
   have hgo:=ck (P:=P) (o:=.map es clock) h2 (by simp)
   obtain⟨l',r1,r2,r3⟩:=nU R (.mapIter (some T8) clock #[] clock) (.mit (some b) clock [] clock) (.inr ⟨_,_,_,_,rfl⟩)
    (λE=>⟨w.heap.size,0,some T8,by simp,heap_alloc_new w _,(E.rel rx':Rel _ _ _ _ (.ref (.mp b)) _)⟩)
   exact⟨_,_,l',by simp only[Sj,M8,Uk hu,M1,hgo,Ny,run_newObj,World.alloc_eq],r1,r2,r3⟩
 ·simp at hd
theorem mc{f:Nat->Bool}:∀{WV:List (D×D×Nat)} {es:List MapEntry},Uq w (Ub O l h) l h WV es->Uq w (Ub O l h) l h (WV.filter λe=>f e.2.2) (es.filter λe=>f e.born)
 | [],[],_=>by simp[Uq]
 | (k,d,n)::WV,e::es,r=>by
  simp only[Uq] at r
  have ih:=mc (f:=f) r.2.2.2
  grind [r.2.2.1,Uq]
 | [],_::_,r=>by simp[Uq] at r
 | _::_,[],r=>by simp[Uq] at r
theorem tT{f:Nat->Bool}:∀{WV:List (D×D×Nat)} {es:List MapEntry},Uq w (Ub O l h) l h WV es->(es.any λe=>f e.born)=(WV.any λe=>f e.2.2)
 | [],[],_=>by simp
 | (k,d,n)::WV,e::es,r=>by simp only[Uq] at r;simp only[List.any_cons,r.2.2.1,tT r.2.2.2]
 | [],_::_,r=>by simp[Uq] at r
 | _::_,[],r=>by simp[Uq] at r
theorem xK(_R:UJ Γ O w l h){b:Nat}{y:Value}{bx:Uc}(rx:Rel w (Ub O l h) l h (.ref (.it b)) y)(hb:h[b]? = some bx)(hg:bx≠.U7):
  ∃T8 cp,l b=some (T8,cp)/\y=.pointer (some ⟨T8,0,none⟩):=by
 obtain⟨_,hr⟩:=rx
 grind
theorem vU(R:UJ Γ O w l h){x d:D}{y:Value}{s:Bool}{t:TypeId}{h':aT}(rx:Rel w (Ub O l h) l h x y)(hd:En h s x=some (d,h')):
  ∃v w',(Re y s t).run P w=.ok v w'/\UJ Γ O w' l h'/\Ext w l h w' l h'/\Rel w' (Ub O l h') l h' d v:=by
 unfold En at hd
 split at hd
 case h_2=>simp at hd
 rename_i b
 split at hd
 ·-- a string
  rename_i str pos hb
  obtain⟨T8,cp,UZ,rfl⟩:=xK R rx hb (by simp)
  obtain⟨zbY,cp',h1,h2⟩:=R.T8 b _ hb
  obtain⟨rfl,rfl⟩:T8=zbY/\cp=cp':=by grind
  have hgo:=ck (P:=P) (o:=.stringIter str pos) h2 (by simp)
  split at hd
  ·rename_i U8
   simp only[MM,MP] at hd
   obtain⟨rfl,rfl⟩:=hd
   have:=mV R (x':=.sit str (pos+(Tm str pos).2)) hb (by simp) UZ (o':=.stringIter str (pos+(Tm str pos).2)) h2 trivial
    (λE=>⟨T8,cp,UZ,eh h2⟩)
   refine⟨.tuple #[.bool true,goInt pos,.int .i32 (Tm str pos).1],_,?_,this.1,this.2,?_⟩
   ·simp only[Re,M8,hgo,M1,U8,if_true,cE (P:=P) h2 (by simp),Ny]
   ·simp only[Rel];exact⟨_,rfl,Ul _ _ _ _ _,Ul _ _ _ _ _,Ul _ _ _ _ _,trivial⟩
  ·rename_i U8
   cases hd
   refine⟨.tuple #[.bool false],w,?_,R,PW _ _ _,?_⟩
   ·simp only[Re,M8,hgo,M1,U8,if_false,Ny]
   ·simp only[Rel];exact⟨_,rfl,Ul _ _ _ _ _,trivial⟩
 ·-- a nil map
  rename_i a1 a2 a3 hb
  cases hd
  obtain⟨T8,cp,UZ,rfl⟩:=xK R rx hb (by simp)
  obtain⟨zbY,cp',mr,h1,h2,h3⟩:=R.T8 b _ hb
  obtain⟨rfl,rfl⟩:T8=zbY/\cp=cp':=by grind
  simp only at h3
  subst h3
  have hgo:=ck (P:=P) h2 (by simp)
  refine⟨.tuple #[.bool false],w,?_,R,PW _ _ _,?_⟩
  ·simp only[Re,M8,hgo,M1,Ny]
  ·simp only[Rel];exact⟨_,rfl,Ul _ _ _ _ _,trivial⟩
 ·-- a map
  rename_i mb since seen st hb
  cases hmb:h[mb]? with
  | none=>simp[hmb] at hd
  | some mx =>
   cases mx<;>simp only[hmb,reduceCtorEq] at hd
   rename_i WV clock
   obtain⟨T8,cp,UZ,rfl⟩:=xK R rx hb (by simp)
   obtain⟨zbY,cp',mr,h1,h2,h3⟩:=R.T8 b _ hb
   obtain⟨rfl,rfl⟩:T8=zbY/\cp=cp':=by grind
   have h3':=h3
   obtain⟨_,hr⟩:=h3
   simp only[hmb] at hr
   obtain⟨mblk,mcp,hlm,hmr⟩:=hr
   simp only[Tn] at hmr
   subst hmr
   obtain⟨zlX,mcp',es,g1,g2,g3⟩:=R.T8 mb _ hmb
   obtain⟨rfl,rfl⟩:mblk=zlX/\mcp=mcp':=by grind
   have hgo:=ck (P:=P) h2 (by simp)
   have hgm:=ck (P:=P) g2 (by simp)
   have zkg:Uq w (Ub O l h) l h (WV.filter λe=>!seen.contains e.2.2) (es.filter λe=>!seen.toArray.contains e.born).toList:=by
    rw[Array.toList_filter]
    simpa using mc (f:=λn=>!seen.contains n) g3
   have hlen:=hJ _ _ g3
   have hes:es.isEmpty=WV.isEmpty:=by
    rw[Sq];simp only[Array.isEmpty_iff_size_eq_zero,List.isEmpty_iff_length_eq_zero,hlen,O6]
   have τ:(es.all λe=>Zd (e.born>=st)) = !(WV.any λe=>Zd (e.2.2<st)):=by
    rw[<-tT (f:=λn=>Zd (n<st)) g3,<-Array.all_toList,List.all_eq_not_any_not]
    congr 1
    congr 1
    funext e
    rw[Sq];simp
   split at hd
   ·rename_i hk
    split at hd
    case isFalse=>simp at hd
    rename_i hc
    cases hd
    rw[hk] at zkg
    have he:es.filter (λe=>!seen.toArray.contains e.born)=#[]:=by
     cases hq:(es.filter (λe=>!seen.toArray.contains e.born)).toList with
     | nil=>simpa using hq
     | cons a t=>rw[hq] at zkg;simp[Uq] at zkg
    refine⟨.tuple #[.bool false],w,?_,R,PW _ _ _,by simp only[Rel];exact⟨_,rfl,Ul _ _ _ _ _,trivial⟩⟩
    have zjm:(!seen.toArray.isEmpty&&!es.isEmpty&&es.all (λe=>Zd (e.born>=st)))=false:=by
     rw[τ,hes,Tp]
     cases h1:seen.isEmpty<;>cases h2:WV.isEmpty<;>simp_all
    simp only[Re,M8,hgo,hgm,M1,zjm,he]
    simp[TG]
   ·rename_i k v n hk
    split at hd
    case isFalse=>simp at hd
    rename_i hc
    simp only[MM,MP] at hd
    obtain⟨rfl,rfl⟩:=hd
    simp only[MT,decide_eq_true_eq] at hc
    rw[hk] at zkg
    obtain⟨e,he,rk,rv,hn⟩:∃e:MapEntry,es.filter (λe=>!seen.toArray.contains e.born)=#[e]/\Rel w (Ub O l h) l h k e.key/\Rel w (Ub O l h) l h v e.val/\e.born=n:=by
     cases hq:(es.filter (λe=>!seen.toArray.contains e.born)).toList with
     | nil=>rw[hq] at zkg;simp[Uq] at zkg
     | cons a t =>
      rw[hq] at zkg
      grind [Uq]
    have zjm:(!seen.toArray.isEmpty&&!es.isEmpty&&es.all (λe=>Zd (e.born>=st)))=false:=by
     rw[τ,Tp]
     have Uy:=hc.1
     rw[Rr] at Uy
     rcases Uy with h1|h1
     ·simp[h1]
     ·simp[h1]
    have:=mV R (x':=.mit (some mb) since (seen++[n]) clock) hb (by simp) UZ (o':=.mapIter (some mblk) since (seen.toArray.push e.born) clock) h2 trivial
     (λE=>⟨T8,cp,some mblk,UZ,by grind,(E.rel (O:=O) (d:=.ref (.mp mb)) h3')⟩)
    refine⟨.tuple #[.bool true,e.key,e.val],_,?_,this.1,this.2,?_⟩
    ·have hs:e.born<since:=by rw[hn];exact hc.2
     have hs2:¬since<=e.born:=by omega
     simp only[Re,M8,hgo,hgm,M1,zjm,he]
     simp[TG,hs,hs2,cE (P:=P) h2]
    ·simp only[Rel];exact⟨_,rfl,Ul _ _ _ _ _,this.2.rel rk,this.2.rel rv,trivial⟩
   ·simp at hd
 ·simp at hd
theorem qq{n:Nat}:∀{WV:List (D×D×Nat)} {es:List MapEntry},Uq w (Ub O l h) l h WV es->∀{e:D×D×Nat},WV.find? (λe=>e.2.2==n)=some e ->
  ∃e',es.find? (λe=>e.born==n)=some e'/\Rel w (Ub O l h) l h e.1 e'.key/\Rel w (Ub O l h) l h e.2.1 e'.val
 | [],[],_,_,hf=>by simp at hf
 | (k,d,m)::WV,e0::es,r,e,hf=>by
  simp only[Uq] at r
  simp only[List.find?_cons,r.2.2.1] at hf ⊢
  split at hf
  ·grind
  ·exact qq r.2.2.2 hf
 | [],_::_,r,_,_=>by grind
 | _::_,[],r,_,_=>by simp[Uq] at r
theorem tU(R:UJ Γ O w l h){x d:D}{y:Value}(rx:Rel w (Ub O l h) l h x y)(hd:qn h x=some d):
  ∃v,(Instr.entry y).run P w=.ok v w/\Rel w (Ub O l h) l h d v:=by
 unfold qn at hd
 split at hd
 case h_2=>simp at hd
 rename_i b
 split at hd
 case h_2=>simp at hd
 rename_i mb since seen st hb
 cases hmb:h[mb]? with
 | none=>simp[hmb] at hd
 | some mx =>
  cases mx<;>simp only[hmb,reduceCtorEq] at hd
  rename_i WV clock
  cases hl:seen.getLast? with
  | none=>simp[hl] at hd
  | some n =>
   simp only[hl] at hd
   split at hd
   case isFalse=>simp at hd
   rename_i hcl
   subst hcl
   simp only[MV] at hd
   obtain⟨e,hf,rfl⟩:=hd
   obtain⟨T8,cp,UZ,rfl⟩:=xK R rx hb (by simp)
   obtain⟨zbY,cp',mr,h1,h2,h3⟩:=R.T8 b _ hb
   obtain⟨rfl,rfl⟩:T8=zbY/\cp=cp':=by grind
   obtain⟨_,hr⟩:=h3
   simp only[hmb] at hr
   obtain⟨mblk,mcp,hlm,hmr⟩:=hr
   simp only[Tn] at hmr
   subst hmr
   obtain⟨zlX,mcp',es,g1,g2,g3⟩:=R.T8 mb _ hmb
   obtain⟨rfl,rfl⟩:mblk=zlX/\mcp=mcp':=by grind
   have hgo:=ck (P:=P) h2 (by simp)
   have hgm:=ck (P:=P) g2 (by simp)
   obtain⟨e',hf',r1,r2⟩:=qq g3 hf
   refine⟨.tuple #[e'.key,e'.val],?_,by simp only[Rel];exact⟨_,rfl,r1,r2,trivial⟩⟩
   have hback:seen.toArray.back? = some n:=by rw[List.back?_toArray];exact hl
   have hff:es.find? (λe=>e.born==n)=some e':=by rw[<-Array.find?_toList];exact hf'
   simp only[Instr.entry,M8,hgo,hgm,M1,hback]
   simp[hff]
end
def Iz(P:Program)(eq:TypeId->D->D->IN)(xs ys:bY):List Field->IN
 | []=>some true
 | f::fs =>
  if f.name = "_" then Iz P eq xs ys fs else
  match cn P f.type (xs.drop f.offset),cn P f.type (ys.drop f.offset) with
  | some a,some b=>match eq f.type a b,Iz P eq xs ys fs with
   | some p,some q=>some (p&&q)
   | _,_=>none
  | _,_=>none
def Mx(P:Program)(eq:D->D->IN)(e:TypeId)(sz:Nat)(xs ys:bY):Nat->Nat->IN
 | 0,_=>some true
 | k+1,i =>
  match cn P e (xs.drop (i*sz)),cn P e (ys.drop (i*sz)) with
  | some a,some b=>match eq a b,Mx P eq e sz xs ys k (i+1) with
   | some p,some q=>some (p&&q)
   | _,_=>none
  | _,_=>none
def eqT(P:Program):Nat->TypeId->D->D->IN
 | 0,_,_,_=>none
 | n+1,t,x,y =>
  match P.underlying t with
  | some (.int _)=>match x,y with
   | .p (.v (.int k a)),.p (.v (.int k' b))=>if k=k' then some (a==b) else none
   | _,_=>none
  | some .bool=>match x,y with
   | .p (.v (.bool a)),.p (.v (.bool b))=>some (a==b)
   | _,_=>none
  | some .string=>match x,y with
   | .p (.v (.string a)),.p (.v (.string b))=>some (eqS a b)
   | _,_=>none
  | some (.struct fields)=>match x,y with
   | .agg xs,.agg ys=>if P.stoodInHeld t then none else Iz P (eqT P n) xs ys fields.toList
   | _,_=>none
  | some (.array len e)=>match x,y,VB P e with
   | .agg xs,.agg ys,some sz=>Mx P (eqT P n e) e sz xs ys len 0
   | _,_,_=>none
  | _=>none
def A9(P:Program)(op:BinOp)(t:TypeId)(x y:D):oN :=
 if P.eqGuardType P.depth t then none else
 match op,x,y with
 | .eql,.agg xs,.agg ys=>(eqT P 12 t (.agg xs) (.agg ys)).map λb=>lit (.bool b)
 | .neq,.agg xs,.agg ys=>(eqT P 12 t (.agg xs) (.agg ys)).map λb=>lit (.bool (!b))
 | .eql,.p (.v (.bool a)),.p (.v (.bool b))=>(eqT P 2 t (.p (.v (.bool a))) (.p (.v (.bool b)))).map λb=>lit (.bool b)
 | .neq,.p (.v (.bool a)),.p (.v (.bool b))=>(eqT P 2 t (.p (.v (.bool a))) (.p (.v (.bool b)))).map λb=>lit (.bool (!b))
 | _,_,_=>none
section
variable {P:Program} {Γ:aq} {O:Nat->Prop} {w:World} {l:Loc} {h:aT}
theorem lb{eq:TypeId->D->D->IN}{d:Nat}(he:∀t x y a b r,Rel w (Ub O l h) l h x a->Rel w (Ub O l h) l h y b->eq t x y=some r->(QS d t a b).run P w=.ok r w)
  {xs ys:bY} {vs us:BV} (rx:U1 w (Ub O l h) l h xs vs.toList) (ry:U1 w (Ub O l h) l h ys us.toList) :
  ∀{fs:List Field} {r:Bool},Iz P eq xs ys fs=some r->(TT d vs us fs).run P w=.ok r w
 | [],r,hf=>by simp only[Iz,MM] at hf;subst hf;simp[TT]
 | f::fs,r,hf=>by
  simp only[Iz] at hf
  simp only[TT]
  split at hf
  ·rename_i hn
   simp only[hn,ne_eq,not_true_eq_false,if_false]
   exact lb he rx ry hf
  ·rename_i hn
   cases ha:cn P f.type (xs.drop f.offset) with
   | none=>simp[ha] at hf
   | some a =>
    cases hb:cn P f.type (ys.drop f.offset) with
    | none=>grind
    | some b =>
     simp only[ha,hb] at hf
     cases hp:eq f.type a b with
     | none=>simp[hp] at hf
     | some p =>
      cases hq:Iz P eq xs ys fs with
      | none=>grind
      | some q =>
       simp only[hp,hq,MM] at hf
       obtain⟨va,h1,h2⟩:=ex (P:=P) rx ha
       obtain⟨vb,h3,h4⟩:=ex (P:=P) ry hb
       have h5:=he _ _ _ _ _ _ h2 h4 hp
       have h6:=lb he rx ry hq
       simp only[ne_eq,hn,not_false_eq_true,if_true,M8,h1,h3,h5,M1,Sem.run_ite,Ny,h6]
       grind
theorem qr{eq:D->D->IN}{d:Nat}{e:TypeId}{sz:Nat}(he:∀x y a b r,Rel w (Ub O l h) l h x a->Rel w (Ub O l h) l h y b->eq x y=some r->(QS d e a b).run P w=.ok r w)
  {xs ys:bY} {vs us:BV} (rx:U1 w (Ub O l h) l h xs vs.toList) (ry:U1 w (Ub O l h) l h ys us.toList) :
  ∀(k i:Nat) {r:Bool},Mx P eq e sz xs ys k i=some r ->
   (forIn (List.range' i k) ((none,()):IN×Unit) (λi _=>do
     let a <-part e vs (i*sz)
     let b <-part e us (i*sz)
     let r <-QS d e a b
     if (!r)=true then pure (ForInStep.done (some false,())) else pure (ForInStep.yield (none,())):Nat->IN×Unit->Sem (ForInStep (IN×Unit)))).run P w=.ok (if r then (none,()) else (some false,())) w
 | 0,i,r,hf=>by simp only[Mx,MM] at hf;subst hf;simp
 | k+1,i,r,hf=>by
  simp only[Mx] at hf
  cases ha:cn P e (xs.drop (i*sz)) with
  | none=>simp[ha] at hf
  | some a =>
   cases hb:cn P e (ys.drop (i*sz)) with
   | none=>grind
   | some b =>
    simp only[ha,hb] at hf
    cases hp:eq a b with
    | none=>simp[hp] at hf
    | some p =>
     cases hq:Mx P eq e sz xs ys k (i+1) with
     | none=>grind
     | some q =>
      simp only[hp,hq,MM] at hf
      obtain⟨va,h1,h2⟩:=ex (P:=P) rx ha
      obtain⟨vb,h3,h4⟩:=ex (P:=P) ry hb
      have h5:=he _ _ _ _ _ h2 h4 hp
      have h6:=qr he rx ry k (i+1) hq
      simp only[List.range'_succ,List.forIn_cons,M8,h1,h3,h5,M1,Sem.run_ite,Ny]
      subst hf
      cases p
      ·simp
      ·simpa using h6
theorem fP:∀(n d:Nat) (t:TypeId) (x y:D) (a b:Value) (r:Bool),n<=d->Rel w (Ub O l h) l h x a->Rel w (Ub O l h) l h y b->eqT P n t x y=some r->(QS d t a b).run P w=.ok r w
 | 0,_,_,_,_,_,_,_,_,_,_,hf=>by simp[eqT] at hf
 | n+1,0,_,_,_,_,_,_,hd,_,_,_=>by omega
 | n+1,d+1,t,x,y,a,b,r,hd,rx,ry,hf=>by
  simp only[eqT] at hf
  cases hu:P.underlying t with
  | none=>simp[hu] at hf
  | some u =>
   cases u<;>simp only[hu,reduceCtorEq] at hf
   case int k0 =>
    split at hf
    ·obtain rfl:=aC rx
     obtain rfl:=aC ry
     split at hf
     ·rename_i hk;subst hk
      simp only[MM] at hf;subst hf
      exact run_equalIn_int w d t _ _ _ _ hu
     ·simp at hf
    ·simp at hf
   case bool =>
    split at hf
    ·obtain rfl:=aC rx
     obtain rfl:=aC ry
     simp only[MM] at hf;subst hf
     exact run_equalIn_bool' w d t _ _ hu
    ·simp at hf
   case string =>
    split at hf
    ·obtain rfl:=aC rx
     obtain rfl:=aC ry
     simp only[MM] at hf;subst hf
     rw[run_equalIn_string w d t _ _ hu,eqS_eq]
    ·simp at hf
   case struct fields =>
    split at hf
    ·rename_i xs ys
     split at hf
     ·simp at hf
     ·rename_i hs
      simp only[Rel] at rx ry
      obtain⟨vs,rfl,rx⟩:=rx
      obtain⟨us,rfl,ry⟩:=ry
      have hfo:P.fieldsOf t=fields:=by simp[Program.fieldsOf,hu]
      rw[run_equalIn_struct w d t vs us (by grind) (by simpa using hs),hfo]
      exact lb (λt x y a b r h1 h2 h3=>fP n d t x y a b r (by omega) h1 h2 h3) rx ry hf
    ·simp at hf
   case array len e =>
    split at hf
    ·rename_i xs ys sz hs
     simp only[Rel] at rx ry
     obtain⟨vs,rfl,rx⟩:=rx
     obtain⟨us,rfl,ry⟩:=ry
     have:=qr (P:=P) (d:=d) (λx y a b r h1 h2 h3=>fP n d e x y a b r (by omega) h1 h2 h3) rx ry len 0 hf
     simp only[QS,M8,Uk hu,M1,UM hs,S3.forIn_eq_forIn_range',S3.size,Qv,Nat.add_one_sub_one,Nat.div_one]
     rw[this]
     cases r<;>simp
    ·simp at hf
theorem tV{op:BinOp}{t:TypeId}{xo yo:Operand}{x y d:D}{a b:Value}(rx:Rel w (Ub O l h) l h x a)(ry:Rel w (Ub O l h) l h y b)(hd:A9 P op t x y=some d):
  ∃v,(do eqGuard op t xo yo a b;binOp op t a b:Sem Value).run P w=.ok v w/\Rel w (Ub O l h) l h d v:=by
 unfold A9 at hd
 split at hd
 ·simp at hd
 ·rename_i hg
  have hm:P.eqGuardType P.depth t=false:=by simpa using hg
  split at hd
  ·rename_i xs ys
   simp only[MV] at hd
   obtain⟨r,h1,rfl⟩:=hd
   have h2:=fP (P:=P) 12 10000 t _ _ a b r (by omega) rx ry h1
   simp only[Rel] at rx ry
   obtain⟨vs,rfl,_⟩:=rx
   obtain⟨us,rfl,_⟩:=ry
   exact⟨_,by simp only[M8,run_eqGuard_agg w .eql t xo yo vs us hm,M1,run_eql_struct,h2],Ul _ _ _ _ _⟩
  ·rename_i xs ys
   simp only[MV] at hd
   obtain⟨r,h1,rfl⟩:=hd
   have h2:=fP (P:=P) 12 10000 t _ _ a b r (by omega) rx ry h1
   simp only[Rel] at rx ry
   obtain⟨vs,rfl,_⟩:=rx
   obtain⟨us,rfl,_⟩:=ry
   exact⟨_,by simp only[M8,run_eqGuard_agg w .neq t xo yo vs us hm,M1,run_neq_struct,h2],Ul _ _ _ _ _⟩
  ·rename_i p q
   simp only[MV] at hd
   obtain⟨r,h1,rfl⟩:=hd
   have h2:=fP (P:=P) 2 10000 t _ _ a b r (by omega) rx ry h1
   obtain rfl:=aC rx
   obtain rfl:=aC ry
   refine⟨.bool r,?_,Ul _ _ _ _ _⟩
   simp only[eqGuard,binOp,Op.equal,Op.maxDepth]
   simp[h2]
  ·rename_i p q
   simp only[MV] at hd
   obtain⟨r,h1,rfl⟩:=hd
   have h2:=fP (P:=P) 2 10000 t _ _ a b r (by omega) rx ry h1
   obtain rfl:=aC rx
   obtain rfl:=aC ry
   refine⟨.bool (!r),?_,Ul _ _ _ _ _⟩
   simp only[eqGuard,binOp,Op.equal,Op.maxDepth]
   simp[h2]
  ·simp at hd
end
mutual
def vV:D->OF
 | .p (.v v)=>some v
 | .agg cs=>(Ba cs).map λvs=>.agg vs.toArray
 | _=>none
def Ba:bY->Option (At)
 | []=>some []
 | d::ds=>match vV d,Ba ds with
  | some v,some vs=>some (v::vs)
  | _,_=>none
end
def vW:Value->D
 | .agg cs=>.agg (cs.toList.map lit)
 | v=>lit v
def vX(P:Program)(t:TypeId):IN:=(P.underlying t).map λd=>match d with
 | .interface _=>true
 | _=>false
def rQ(P:Program)(ty:TypeId)(x:D):oN:=match vX P ty,vV x with
 | some false,some v=>some (lit (.iface ty v))
 | some false,none=>some (.fn (.yield ty) [] [x])
 | _,_=>none
def vY(P:Program)(T:TypeId)(ok:Bool)(x:D):oN:=match vX P T,x with
 | some false,.p (.v (.iface t v))=>if t=T then some (if ok then .UI [vW v,lit (.bool true)] else vW v) else if ok then (jm P T).map λz=>.UI [vW z,lit (.bool false)] else none
 | some false,.p (.v .nilIface)=>if ok then (jm P T).map λz=>.UI [vW z,lit (.bool false)] else none
 | some false,.fn (.yield t) [] [d]=>if t=T then some (if ok then .UI [d,lit (.bool true)] else d) else if ok then (jm P T).map λz=>.UI [vW z,lit (.bool false)] else none
 | _,_=>none
def Hu:D->IN
 | .fn (.yield _) _ _=>some false
 | .p (.v (.iface _ _))=>some false
 | .p (.v .nilIface)=>some true
 | _=>none
def Bb:Operand->Bool
 | .const .nilIface=>true
 | _=>false
def rR(P:Program)(op:BinOp)(ty:TypeId)(y:Operand)(x:D):oN:=match Bb y,vX P ty,Hu x with
 | true,some true,some b=>match op with
  | .eql=>some (lit (.bool b))
  | .neq=>some (lit (.bool (!b)))
  | _=>none
 | _,_,_=>none
section
variable {P:Program} {Γ:aq} {O:Nat->Prop} {w:World} {l:Loc} {h:aT} {av:Nat->Prop}
mutual
theorem lg:∀{d:D} {v y:Value},vV d=some v->Rel w av l h d y->y=v
 | .p (.v _),_,_,hv,r=>by
  grind [vV,MM,Rel,UF]
 | .p (.sl _),_,_,hv,_=>by simp[vV] at hv
 | .agg cs,v,y,hv,r=>by
  simp only[vV,MV] at hv
  obtain⟨vs,h1,rfl⟩:=hv
  simp only[Rel] at r
  obtain⟨us,rfl,r⟩:=r
  rw[<-nV h1 r]
 | .any,_,_,hv,_=>by simp[vV] at hv
 | .ref _,_,_,hv,_=>by simp[vV] at hv
 | .ep _,_,_,hv,_=>by simp[vV] at hv
 | .csl _,_,_,hv,_=>by simp[vV] at hv
 | .fn _ _ _,_,_,hv,_=>by simp[vV] at hv
 | .UI _,_,_,hv,_=>by simp[vV] at hv
 | .grd _ _,_,_,hv,_=>by simp[vV] at hv
theorem nV:∀{ds:bY} {vs ys:At},Ba ds=some vs->U1 w av l h ds ys->ys=vs
 | [],vs,ys,hv,r=>by
  grind [Ba,MM,U1]
 | d::ds,vs,ys,hv,r=>by
  simp only[Ba] at hv
  split at hv
  ·rename_i v us h1 h2
   simp only[MM] at hv
   subst hv
   cases ys with
   | nil=>simp[U1] at r
   | cons y ys =>
    simp only[U1] at r
    rw[lg h1 r.1,nV h2 r.2]
  ·simp at hv
end
theorem qt:∀ys:At,U1 w av l h (ys.map lit) ys
 | []=>by simp[U1]
 | y::ys=>by simp only[NW,U1];exact⟨by simp[Rel,UF],qt ys⟩
theorem ia(v:Value):Rel w av l h (vW v) v:=by
 unfold vW
 split
 ·simp only[Rel]
  exact⟨_,rfl,qt _⟩
 ·simp[Rel,UF]
theorem VP{t:TypeId}{d:TypeDesc}(hu:P.underlying t=some d):(underlying t).run P w=.ok d w:=by
 simp[underlying,M8,program,Sem.run,hu,PB]
theorem eS{t:TypeId}(hi:vX P t=some false):∃d,P.underlying t=some d/\∀ms,d≠.interface ms:=by
 unfold vX at hi
 cases hu:P.underlying t with
 | none=>simp[hu] at hi
 | some d =>
  grind
theorem zu{t:TypeId}(hi:vX P t=some true):∃ms,P.underlying t=some (.interface ms):=by
 unfold vX at hi
 cases hu:P.underlying t with
 | none=>simp[hu] at hi
 | some d =>
  grind
theorem pY{ty:TypeId}{x d:D}{y:Value}(rx:Rel w av l h x y)(hd:rQ P ty x=some d):∃v,(RG ty y).run P w=.ok v w/\Rel w av l h d v:=by
 unfold rQ at hd
 split at hd
 ·rename_i v h1 h2
  cases hd
  obtain⟨td,hu,hn⟩:=eS h1
  obtain rfl:=lg h2 rx
  refine⟨.iface ty y,?_,by simp[Rel,UF]⟩
  simp only[RG,M8,VP hu,M1]
  simp_all
 ·rename_i h1 h2
  cases hd
  obtain⟨td,hu,hn⟩:=eS h1
  refine⟨.iface ty y,?_,?_⟩
  ·simp only[RG,M8,VP hu,M1]
   simp_all
  ·simp only[Rel]
   exact⟨#[],#[y],⟨rfl,y,rfl,rfl⟩,by simp[U1],by grind [U1]⟩
 ·simp at hd
theorem rS{T xT:TypeId}{ok:Bool}{x d:D}{y:Value}(rx:Rel w av l h x y)(hd:vY P T ok x=some d):∃v,(PX y xT T ok).run P w=.ok v w/\Rel w av l h d v:=by
 unfold vY at hd
 split at hd
 ·rename_i t v h1
  obtain⟨td,hu,hn⟩:=eS h1
  simp only[Rel,UF] at rx
  subst rx
  split at hd
  ·rename_i ht
   subst ht
   refine⟨if ok then .tuple #[v,.bool true] else v,?_,?_⟩
   ·simp only[PX,M8,VP hu,M1]
    simp_all
   ·cases ok
    ·simp only[NC,if_false,MM] at hd ⊢
     subst hd
     exact ia v
    ·simp only[if_true,MM] at hd ⊢
     subst hd
     simp only[Rel]
     exact⟨_,rfl,by simp only[U1];exact⟨ia v,by simp[Rel,UF],trivial⟩⟩
  ·rename_i ht
   split at hd
   ·rename_i hok
    simp only[MV] at hd
    obtain⟨z,hz,rfl⟩:=hd
    refine⟨.tuple #[z,.bool false],?_,?_⟩
    ·simp only[PX,M8,VP hu,M1]
     cases td<;>first|(simp[ht,hok,δ hz,PB];done)|exact absurd rfl (hn _)
    ·simp only[Rel]
     exact⟨_,rfl,by simp only[U1];exact⟨ia z,by simp[Rel,UF],trivial⟩⟩
   ·simp at hd
 ·rename_i h1
  obtain⟨td,hu,hn⟩:=eS h1
  simp only[Rel,UF] at rx
  subst rx
  split at hd
  ·rename_i hok
   simp only[MV] at hd
   obtain⟨z,hz,rfl⟩:=hd
   refine⟨.tuple #[z,.bool false],?_,?_⟩
   ·simp only[PX,M8,VP hu,M1]
    cases td<;>first|(simp[hok,δ hz,PB];done)|exact absurd rfl (hn _)
   ·simp only[Rel]
    exact⟨_,rfl,by simp only[U1];exact⟨ia z,by simp[Rel,UF],trivial⟩⟩
  ·simp at hd
 ·rename_i t d0 h1
  obtain⟨td,hu,hn⟩:=eS h1
  simp only[Rel] at rx
  obtain⟨a,c,⟨rfl,v,rfl,rfl⟩,_,rx⟩:=rx
  simp only[U1,and_true] at rx
  split at hd
  ·rename_i ht
   subst ht
   refine⟨if ok then .tuple #[v,.bool true] else v,?_,?_⟩
   ·simp only[PX,M8,VP hu,M1]
    simp_all
   ·cases ok
    ·grind
    ·simp only[if_true,MM] at hd ⊢
     grind [Rel,U1,UF]
  ·rename_i ht
   split at hd
   ·rename_i hok
    simp only[MV] at hd
    obtain⟨z,hz,rfl⟩:=hd
    refine⟨.tuple #[z,.bool false],?_,?_⟩
    ·simp only[PX,M8,VP hu,M1]
     cases td<;>first|(simp[ht,hok,δ hz,PB];done)|exact absurd rfl (hn _)
    ·simp only[Rel]
     exact⟨_,rfl,by simp only[U1];exact⟨ia z,by simp[Rel,UF],trivial⟩⟩
   ·simp at hd
 ·simp at hd
theorem Bc{y:Operand}(hy:Bb y=true):y=.const .nilIface:=by
 grind [Bb]
theorem Bd{t:TypeId}{ms:Array (String×TypeId)}(hu:P.underlying t=some (.interface ms)){x:Value}{b:Bool}(hx:(∃u v,x=.iface u v/\b=false)\/(x=.nilIface/\b=true)):(Op.equal t x .nilIface).run P w=.ok b w:=by
 have key:∀n,(QS (n+1) t x .nilIface).run P w=.ok b w:=by
  intro n
  rcases hx with ⟨u,v,rfl,rfl⟩|⟨rfl,rfl⟩<;>simp only[QS,M8,VP hu,M1,Ny]
 exact key 9999
theorem rT{op:BinOp}{t:TypeId}{xo yo:Operand}{x d:D}{a:Value}{b:Value}(rx:Rel w av l h x a)(hb:yo=.const .nilIface->b=.nilIface)(hd:rR P op t yo x=some d):
  ∃v,(do eqGuard op t xo yo a b;binOp op t a b:Sem Value).run P w=.ok v w/\Rel w av l h d v:=by
 unfold rR at hd
 split at hd
 ·rename_i b0 h1 h2 h3
  obtain rfl:=Bc h1
  obtain rfl:=hb rfl
  obtain⟨ms,hu⟩:=zu h2
  have hx:(∃u v,a=.iface u v/\b0=false)\/(a=.nilIface/\b0=true):=by
   unfold Hu at h3
   split at h3
   ·cases h3
    simp only[Rel] at rx
    obtain⟨_,_,⟨_,v,_,rfl⟩,_⟩:=rx
    grind
   ·grind [Rel,UF]
   ·grind [Rel,UF]
   ·simp at h3
  have he:=Bd (w:=w) hu hx
  have hg:(eqGuard op t xo (.const .nilIface) a .nilIface).run P w=.ok () w:=by
   unfold eqGuard
   rcases hx with ⟨u,v,rfl,rfl⟩|⟨rfl,rfl⟩
   ·cases op<;>simp
   ·cases op<;>simp
  split at hd
  ·cases hd
   refine⟨.bool b0,?_,by simp[Rel,UF]⟩
   rw[M8,hg,M1]
   rcases hx with ⟨u,v,rfl,rfl⟩|⟨rfl,rfl⟩<;>simp only[binOp,M8,he,M1,Ny]
  ·cases hd
   refine⟨.bool (!b0),?_,by simp[Rel,UF]⟩
   rw[M8,hg,M1]
   rcases hx with ⟨u,v,rfl,rfl⟩|⟨rfl,rfl⟩<;>simp only[binOp,M8,he,M1,Ny]
  ·simp at hd
 ·simp at hd
end
def wa(P:Program)(h:aT)(t:TypeId)(x s:D):Option (Bool×D×aT) :=
 match dz P t,x with
 | some e,.ref (.av b off n sz)=>match VB P e,ZK h s,h[b]? with
  | some UX,some rows,some (.var cs)=>match Zd (UX=sz/\rows.length<=n/\off+rows.length*sz<=cs.length)&&rows.all (aR sz) with
   | true=>some (true,lit (.int .i64 rows.length),h.set b (.var (bm cs off rows.flatten)))
   | false=>none
  | _,_,_=>none
 | _,_=>none
section
variable {P:Program} {Γ:aq} {O:Nat->Prop} {w:World} {l:Loc} {h:aT}
theorem rU(R:UJ Γ O w l h){t tx ty:TypeId}{ts:On}{x s d:D}{yx ys:Value}{h':aT}(rx:Rel w (Ub O l h) l h x yx)(rs:Rel w (Ub O l h) l h s ys)
  (hd:wa P h t x s=some (true,d,h')) :
  ∃v w' l',(QW (t::tx::ts).toArray ty #[yx,ys]).run P w=.ok v w'/\UJ Γ O w' l' h'/\Ext w l h w' l' h'/\Rel w' (Ub O l' h') l' h' d v:=by
 unfold wa at hd
 split at hd
 case h_2=>simp at hd
 rename_i e b off n sz he
 split at hd
 case h_2=>simp at hd
 rename_i UX rows cs hsz hrw hb
 split at hd
 case h_2=>simp at hd
 rename_i hc
 simp only[MT,decide_eq_true_eq] at hc
 obtain⟨⟨rfl,hn,hlen⟩,τ⟩:=hc
 simp only[MM,MP,true_and] at hd
 obtain⟨rfl,rfl⟩:=hd
 obtain⟨g1,hrr⟩:=rx
 simp only[hb] at hrr
 obtain⟨T8,cp,c2,UZ,rfl,hnc⟩:=hrr
 have hro:∀r∈rows,r.length=UX/\r.all D.one=true:=by
  intro r hr
  have:=Ni.1 τ r hr
  unfold aR at this
  simpa using this
 obtain⟨k0,us,k1,k2⟩:=cq (P:=P) (size:=UX) R rs hrw (λr hr=>(hro r hr).1)
 obtain⟨zbY,cp',c,T,h3,h4,h5⟩:=R.T8 b _ hb
 obtain⟨rfl,rfl⟩:T8=zbY/\cp=cp':=by grind
 have h1:∀v∈us,v.oneCell'=true:=jn k2 (by
  grind)
 have hul:us.length=rows.length*UX:=by rw[<-k2.length,aA (λr hr=>(hro r hr).1)]
 have hcl:=h5.length
 simp only[O6] at hcl
 obtain⟨w',c',s1,s2,s3,s4,s5,s6⟩:=ci (P:=P) (off:=off) us 0 w c h4 (by simp) (by omega) h1
 rw[Nat.add_zero] at s5
 have:=R.step (w':=w') (l':=l) (h':=h.set b (.var (bm cs off rows.flatten))) b (.var (bm cs off rows.flatten)) (by omega) s6 (λi hi=>be _ _ hi) (aK hb) (λ_ _=>rfl)
  (λz hz=>by rw[hb] at hz;cases hz;exact⟨trivial,λ_=>rfl⟩)
  (λk hk hno=>s3 k (λe=>hno _ cp hb (by simp) (by rw[UZ,e])))
  (λk cc hk=>.inl ⟨_,cc,hb,by simp,hk⟩)
  (λE=>⟨T8,cp,c',T,UZ,s4,by rw[s5];exact(E.π h5).zgH off (E.π k2)⟩)
 refine⟨goInt rows.length,w',l,?_,this.1,this.2,by simp[goInt,Rel,UF]⟩
 have hnm:Nat.min rows.length n=rows.length:=Nat.min_eq_left hn
 have s1':(storeCells ⟨T8,off,none⟩ us).run P w=.ok () w':=s1
 simp[QW,Uk (bQ he),UM hsz,k0,hnm,k1,s1']
end
def dU(h:aT):D->oN
 | .ref r=>if pU h r then some (.ref r) else none
 | .ep cs=>some (.ep cs)
 | .fn (.func f) a c=>some (.fn (.func f) a c)
 | .p (.v (.func (.func f) a c))=>some (.p (.v (.func (.func f) a c)))
 | _=>none
def keep(h:aT)(d:D):Bool×D×aT:=(true,d,h)
def Α(h:aT)(r:Bool×D):Bool×D×aT:=(r.1,r.2,h)
def iL(h:aT):Bool×D×aT:=(true,.any,h)
def nW(h:aT)(cs:bY):Bool×D×aT:=(true,.ref (.ptr h.length 0),h++[.var cs])
def Be(P:Program)(h:aT)(t:TypeId)(x s:D):Option (Bool×D×aT):=match Ix P h t x s with
 | some r=>some r
 | none=>wa P h t x s
def UH(P:Program)(h:aT)(b:Builtin)(ts:On)(args:bY):Option (Bool×D×aT) :=
 match b,ts,args with
 | .append,[t,tx],[s,x]=>nC P h t tx s x
 | .copy,t::_::_,[x,s]=>Be P h t x s
 | .clear,t::_,[x]=>A3 P h t x
 | .len,t::_,[x]=>(tA P h t x).map (keep h)
 | .max,_,x::xs=>(kX true x xs).map (keep h)
 | .min,_,x::xs=>(kX false x xs).map (keep h)
 | _,_,_=>none
def mkFnD(f:Fn)(a c:bY):oN:=match f with
 | .func k=>some (.fn (.func k) a c)
 | _=>none
def U6(P:Program)(Γ:aq)(t:bY)(h:aT)(o:Op):Option (Bool×D×aT) :=
 match o with
 | .move x | .assign x=>some (true,U0 Γ t x,h)
 | .pick c a b=>(zga (U0 Γ t c) (U0 Γ t a) (U0 Γ t b)).map (Α h)
 | .alloc e=>(dC P e).map (nW h)
 | .box _ x=>(U0 Γ t x).cells.map (nW h)
 | .build ty ps=>(AP P ty (ps.toList.map λp=>(p.1,U0 Γ t p.2))).map (keep h)
 | .buildSlice ty n ps=>(eL P h ty n (ps.toList.map λp=>(p.1,U0 Γ t p.2))).map λr=>(true,r.1,r.2)
 | .load ty a=>(aN P h ty (U0 Γ t a)).map (keep h)
 | .store ty a x=>(aX P h ty (U0 Γ t a) (U0 Γ t x)).map iL
 | .nilCheck x=>(dU h (U0 Γ t x)).map (keep h)
 | .binOp op ty x y _=>match binD op (U0 Γ t x) (U0 Γ t y) with
  | some r=>some (Α h r)
  | none=>match rR P op ty y (U0 Γ t x) with
   | some d=>some (keep h d)
   | none=>(A9 P op ty (U0 Γ t x) (U0 Γ t y)).map (keep h)
 | .makeInterface ty x=>(rQ P ty (U0 Γ t x)).map (keep h)
 | .typeAssert x _ T ok=>(vY P T ok (U0 Γ t x)).map (keep h)
 | .unOp op _ x=>(unD op (U0 Γ t x)).map (keep h)
 | .convert s d x=>(Iu P s d (U0 Γ t x)).map (keep h)
 | .makeFunc f a c=>(mkFnD f (a.toList.map (U0 Γ t)) (c.toList.map (U0 Γ t))).map (keep h)
 | .makeMap _ none=>some (true,.ref (.mp h.length),h++[.map [] 0])
 | .makeSlice ty n c=>match Em n c with
  | true=>mT P h ty (U0 Γ t n) (U0 Γ t c)
  | false=>rK P h ty (U0 Γ t n) (U0 Γ t c)
 | .slice ty x lo hi mx=>(dT P h ty (U0 Γ t x) (lo.map (U0 Γ t)) (hi.map (U0 Γ t)) (mx.map (U0 Γ t))).map (Α h)
 | .fieldAddr s x f=>(fL P h s f (U0 Γ t x)).map (keep h)
 | .field s x f=>(xy P s f (U0 Γ t x)).map (keep h)
 | .indexAddr ty x i=>(ba P h ty (U0 Γ t x) (U0 Γ t i)).map (Α h)
 | .index ty x i=>(xz P ty (U0 Γ t x) (U0 Γ t i)).map (Α h)
 | .lookup ty x k ok=>(aM P h ty (U0 Γ t x) (U0 Γ t k) ok).map (keep h)
 | .mapUpdate ty m k x | .insert ty m k x=>(aO P h ty (U0 Γ t m) (U0 Γ t k) (U0 Γ t x)).map iL
 | .range ty x=>(xD P h ty (U0 Γ t x)).map λr=>(true,r.1,r.2)
 | .next it s=>(En h s (U0 Γ t it)).map λr=>(true,r.1,r.2)
 | .entry it=>(qn h (U0 Γ t it)).map (keep h)
 | .extract x i=>match U0 Γ t x with
  | .UI ds=>ds[i]?.map (keep h)
  | _=>none
 | .call {callee:=.builtin b,args,argTypes}=>UH P h b argTypes.toList (args.toList.map (U0 Γ t))
 | _=>none
section
variable {P:Program} {Γ:aq} {O:Nat->Prop} {w:World} {l:Loc} {h:aT}
def My(P:Program)(Γ:aq)(O:Nat->Prop)(w:World)(l:Loc)(h:aT)(o:Oper)(a:Act)(d:D)(h':aT):Prop :=
 ∃nx v w' l',(execOp a.eval o).run P w=.ok nx w'/\(nx=.value v\/(nx=.skip/\v=undef))/\UJ Γ O w' l' h'/\Ext w l h w' l' h'/\Rel w' (Ub O l' h') l' h' d v
theorem aU(R:UJ Γ O w l h){o:Oper}{a:Act}{d:D}{s:Sem Value}(he:execOp a.eval o=(do pure (.value (<-s))))(hs:∃v,s.run P w=.ok v w/\Rel w (Ub O l h) l h d v):My P Γ O w l h o a d h:=by
 obtain⟨v,h1,h2⟩:=hs
 exact⟨.value v,v,w,l,by rw[he];simp[h1],.inl rfl,R,PW _ _ _,h2⟩
theorem fm{o:Oper}{a:Act}{d:D}{h':aT}{s:Sem Value}(he:execOp a.eval o=(do pure (.value (<-s))))
  (hs:∃v w' l',s.run P w=.ok v w'/\UJ Γ O w' l' h'/\Ext w l h w' l' h'/\Rel w' (Ub O l' h') l' h' d v):My P Γ O w l h o a d h':=by
 obtain⟨v,w',l',h1,h2,h3,h4⟩:=hs
 exact⟨.value v,v,w',l',by rw[he];simp[h1],.inl rfl,h2,h3,h4⟩
theorem nX{o:Oper}{a:Act}{h':aT}{s:Sem Unit}(he:execOp a.eval o=(do s;pure .skip))
  (hs:∃w',s.run P w=.ok () w'/\UJ Γ O w' l h'/\Ext w l h w' l h'):My P Γ O w l h o a .any h':=by
 obtain⟨w',h1,h2,h3⟩:=hs
 exact⟨.skip,undef,w',l,by rw[he];simp[h1],.inr ⟨rfl,rfl⟩,h2,h3,by simp[Rel]⟩
theorem zhs{x d:D}{y:Value}(rx:Rel w (Ub O l h) l h x y)(hd:dU h x=some d):
  (∃p,y=.pointer (some p))\/(∃f a c,y=.func (.func f) a c):=by
 unfold dU at hd
 split at hd
 ·split at hd
  ·rename_i hl
   obtain⟨T8,off,rfl⟩:=xA rx hl
   grind
  ·simp at hd
 ·grind [Rel]
 ·simp only[Rel] at rx
  obtain⟨a,c,rfl,_⟩:=rx
  grind
 ·obtain rfl:=aC rx
  grind
 ·simp at hd
theorem qb{x d:D}(hd:dU h x=some d):d=x:=by
 unfold dU at hd
 grind
theorem fo(R:UJ Γ O w l h){t:bY}{a:Act}(ht:U1 w (Ub O l h) l h t a.tmps.toList)(xs:List Operand):U1 w (Ub O l h) l h (xs.map (U0 Γ t)) (xs.map a.eval):=by
 induction xs with
 | nil=>simp[U1]
 | cons x xs ih=>simp only[NW,U1];exact⟨a7 R ht x,ih⟩
theorem tW(R:UJ Γ O w l h){t tx ty:TypeId}{ts:On}{x s d:D}{yx ys:Value}{h':aT}(rx:Rel w (Ub O l h) l h x yx)(rs:Rel w (Ub O l h) l h s ys)
  (hd:Be P h t x s=some (true,d,h')) :
  ∃v w' l',(QW (t::tx::ts).toArray ty #[yx,ys]).run P w=.ok v w'/\UJ Γ O w' l' h'/\Ext w l h w' l' h'/\Rel w' (Ub O l' h') l' h' d v:=by
 unfold Be at hd
 split at hd
 ·rename_i r hr
  cases hd
  exact vQ R rx rs hr
 ·exact rU R rx rs hd
theorem rV(R:UJ Γ O w l h){b:Builtin}{ts:On}{ty:TypeId}{ds:bY}{vs:At}{d:D}{h':aT}(rl:U1 w (Ub O l h) l h ds vs)
  (hd:UH P h b ts ds=some (true,d,h')) :
  ∃v w' l',(∀cs,(builtin b ts.toArray ty cs vs.toArray).run P w=.ok (.value v) w')/\UJ Γ O w' l' h'/\Ext w l h w' l' h'/\Rel w' (Ub O l' h') l' h' d v:=by
 unfold UH at hd
 split at hd
 ·rename_i t tx s x
  match vs,rl with
  | [ys,yx],rl =>
   simp only[U1] at rl
   obtain⟨v,w',l',h1,h2,h3,h4⟩:=rN (P:=P) (ty:=ty) R rl.1 rl.2.1 hd
   exact⟨v,w',l',λcs=>by simp[builtin,h1],h2,h3,h4⟩
  | [],rl=>simp[U1] at rl
  | [_],rl=>simp[U1] at rl
  | _::_::_::_,rl=>simp[U1] at rl
 ·rename_i t tx ts' x s
  match vs,rl with
  | [yx,ys],rl =>
   simp only[U1] at rl
   obtain⟨v,w',l',h1,h2,h3,h4⟩:=tW (P:=P) (ty:=ty) (ts:=ts') (tx:=tx) R rl.1 rl.2.1 hd
   exact⟨v,w',l',λcs=>by simp[builtin,h1],h2,h3,h4⟩
  | [],rl=>simp[U1] at rl
  | [_],rl=>simp[U1] at rl
  | _::_::_::_,rl=>simp[U1] at rl
 ·rename_i t ts' x
  match vs,rl with
  | [yx],rl =>
   simp only[U1] at rl
   obtain⟨v,w',l',h1,h2,h3,h4⟩:=tL (P:=P) (ty:=ty) (ts:=ts') R rl.1 hd
   exact⟨v,w',l',λcs=>by simp[builtin,h1],h2,h3,h4⟩
  | [],rl=>simp[U1] at rl
  | _::_::_,rl=>simp[U1] at rl
 ·rename_i t ts' x
  simp only[MV,keep,MP] at hd
  obtain⟨d',h0,_,rfl,rfl⟩:=hd
  match vs,rl with
  | [y],rl =>
   simp only[U1] at rl
   obtain⟨v,h1,h2⟩:=vO (P:=P) (ty:=ty) (ts:=ts') R rl.1 h0
   exact⟨v,w,l,λcs=>by simp[builtin,h1],R,PW _ _ _,h2⟩
  | [],rl=>simp[U1] at rl
  | _::_::_,rl=>simp[U1] at rl
 ·rename_i x xs _
  simp only[MV,keep,MP] at hd
  obtain⟨d',h0,_,rfl,rfl⟩:=hd
  match vs,rl with
  | y::ys,rl =>
   simp only[U1] at rl
   obtain⟨v,h1,h2⟩:=gm (P:=P) (mx:=true) (t:=ty) (ts:=ts.toArray) rl.1 rl.2 h0
   simp only[if_true] at h1
   exact⟨v,w,l,λcs=>by simp[builtin,Builtin.max_,h1],R,PW _ _ _,h2⟩
  | [],rl=>simp[U1] at rl
 ·rename_i x xs _
  simp only[MV,keep,MP] at hd
  obtain⟨d',h0,_,rfl,rfl⟩:=hd
  match vs,rl with
  | y::ys,rl =>
   simp only[U1] at rl
   obtain⟨v,h1,h2⟩:=gm (P:=P) (mx:=false) (t:=ty) (ts:=ts.toArray) rl.1 rl.2 h0
   simp only[NC,if_false] at h1
   exact⟨v,w,l,λcs=>by simp[builtin,Builtin.min_,h1],R,PW _ _ _,h2⟩
  | [],rl=>simp[U1] at rl
 ·simp at hd
theorem jS(R:UJ Γ O w l h){t:bY}{a:Act}(ht:U1 w (Ub O l h) l h t a.tmps.toList)(x:Option Operand):i8 w (Ub O l h) l h (x.map (U0 Γ t)) (x.map a.eval):=by
 cases x with
 | none=>simp[i8]
 | some x=>simp only[Nr,i8];exact a7 R ht x
theorem tX(R:UJ Γ O w l h){t:bY}{a:Act}(ht:U1 w (Ub O l h) l h t a.tmps.toList)(ps:Array (Nat×Operand)):
  (ps.toList.map λp=>(p.1,U0 Γ t p.2)).length=(ps.map λ(p:Nat×Operand)=>(p.1,a.eval p.2)).toList.length /\
  (∀(j:Nat) (p:Nat×D) (q:Nat×Value),(ps.toList.map λp=>(p.1,U0 Γ t p.2))[j]? = some p->(ps.map λ(p:Nat×Operand)=>(p.1,a.eval p.2)).toList[j]? = some q ->
   p.1=q.1/\Rel w (Ub O l h) l h p.2 q.2):=by
 refine⟨by simp,λj p q hp hq=>?_⟩
 simp only[List.getElem?_map,MV,Array.toList_map] at hp hq
 obtain⟨x,h1,rfl⟩:=hp
 obtain⟨y,h2,rfl⟩:=hq
 rw[h1] at h2
 cases h2
 exact⟨rfl,a7 R ht _⟩
theorem jp(R:UJ Γ O w l h){t:bY}{a:Act}(ht:U1 w (Ub O l h) l h t a.tmps.toList){o:Oper}{d:D}{h':aT}(hd:U6 P Γ t h o.op=some (true,d,h')):
  My P Γ O w l h o a d h':=by
 have ev:=a7 R ht
 obtain⟨dst,op,type,pos,after,guard⟩:=o
 simp only at hd
 cases op with
 | move x =>
  simp only[U6,MM,MP,true_and] at hd
  obtain⟨rfl,rfl⟩:=hd
  exact⟨.value _,_,w,l,rfl,.inl rfl,R,PW _ _ _,ev x⟩
 | assign x =>
  simp only[U6,MM,MP,true_and] at hd
  obtain⟨rfl,rfl⟩:=hd
  exact⟨.value _,_,w,l,rfl,.inl rfl,R,PW _ _ _,ev x⟩
 | pick c x y =>
  simp only[U6,MV,Α,MP] at hd
  obtain⟨⟨r1,r2⟩,h1,h2,rfl,rfl⟩:=hd
  simp only at h2
  subst h2
  obtain⟨v,h3,h4⟩:=vL (P:=P) (ev c) (ev x) (ev y) h1
  exact⟨.value v,v,w,l,h3,.inl rfl,R,PW _ _ _,h4⟩
 | alloc e =>
  simp only[U6,MV,nW,MP,true_and] at hd
  obtain⟨z,h1,rfl,rfl⟩:=hd
  obtain⟨zv,hz,rfl⟩:=dE h1
  obtain⟨v,w',l',g1,g2,g3,g4⟩:=ma (P:=P) R e (y:=zv) (U1.lits zv.cells.toList)
  exact⟨.value _,_,w',l',by simp[execOp,Instr.alloc,δ hz,g1],.inl rfl,g2,g3,g4⟩
 | box e x =>
  simp only[U6,MV,nW,MP,true_and] at hd
  obtain⟨cs,h1,rfl,rfl⟩:=hd
  obtain⟨v,w',l',g1,g2,g3,g4⟩:=ma (P:=P) R e (y:=a.eval x) (eJ (ev x) h1).1
  exact⟨.value _,_,w',l',by simp[execOp,Instr.box,g1],.inl rfl,g2,g3,g4⟩
 | build ty ps =>
  simp only[U6,MV,keep,MP,true_and] at hd
  obtain⟨d',h1,rfl,rfl⟩:=hd
  obtain⟨p1,p2⟩:=tX R ht ps
  exact aU R rfl (by have:=tJ (P:=P) p1 p2 h1;rwa[Rv] at this)
 | buildSlice ty n ps =>
  simp only[U6,MV,MP,true_and] at hd
  obtain⟨⟨d',h2⟩,h1,rfl,rfl⟩:=hd
  obtain⟨p1,p2⟩:=tX R ht ps
  exact fm rfl (by have:=kZ (P:=P) R p1 p2 h1;rwa[Rv] at this)
 | load ty x =>
  simp only[U6,MV,keep,MP,true_and] at hd
  obtain⟨d',h1,rfl,rfl⟩:=hd
  exact aU R rfl (nA R (ev x) h1)
 | store ty x y =>
  simp only[U6,MV,iL,MP,true_and] at hd
  obtain⟨d',h1,rfl,rfl⟩:=hd
  exact nX rfl (tu R (ev x) (ev y) h1)
 | nilCheck x =>
  simp only[U6,MV,keep,MP,true_and] at hd
  obtain⟨d',h1,rfl,rfl⟩:=hd
  obtain rfl:=qb h1
  refine⟨.value (a.eval x),_,w,l,?_,.inl rfl,R,PW _ _ _,ev x⟩
  rcases zhs (ev x) h1 with ⟨p,hp⟩|⟨f,b,c,hp⟩
  ·simp only[execOp,hp,Ny]
  ·simp only[execOp,hp,Ny]
 | binOp op ty x y yt =>
  simp only[U6] at hd
  cases hb:binD op (U0 Γ t x) (U0 Γ t y) with
  | some r =>
   obtain⟨r1,r2⟩:=r
   simp only[hb,Α,MM,MP] at hd
   obtain⟨rfl,rfl,rfl⟩:=hd
   exact aU R rfl (zn (P:=P) (ev x) (ev y) hb)
  | none =>
   cases hb2:rR P op ty y (U0 Γ t x) with
   | some d2 =>
    simp only[hb,hb2,keep,MM,MP,true_and] at hd
    obtain⟨rfl,rfl⟩:=hd
    exact aU R rfl (rT (P:=P) (ev x) (λhy=>by rw[hy];rfl) hb2)
   | none =>
    simp only[hb,hb2,MV,keep,MP,true_and] at hd
    obtain⟨d',h1,rfl,rfl⟩:=hd
    exact aU R rfl (tV (P:=P) (ev x) (ev y) h1)
 | makeInterface ty x =>
  simp only[U6,MV,keep,MP,true_and] at hd
  obtain⟨d',h1,rfl,rfl⟩:=hd
  exact aU R rfl (pY (P:=P) (ev x) h1)
 | typeAssert x xT T ok =>
  simp only[U6,MV,keep,MP,true_and] at hd
  obtain⟨d',h1,rfl,rfl⟩:=hd
  exact aU R rfl (rS (P:=P) (ev x) h1)
 | unOp op ty x =>
  simp only[U6,MV,keep,MP,true_and] at hd
  obtain⟨d',h1,rfl,rfl⟩:=hd
  exact aU R rfl (A2 (ev x) h1)
 | convert s d0 x =>
  simp only[U6,MV,keep,MP,true_and] at hd
  obtain⟨d',h1,rfl,rfl⟩:=hd
  exact aU R rfl (vN (ev x) h1)
 | makeFunc f x y =>
  simp only[U6,MV,keep,MP,true_and] at hd
  obtain⟨d',h1,rfl,rfl⟩:=hd
  unfold mkFnD at h1
  split at h1
  case h_2=>simp at h1
  cases h1
  refine aU R rfl ⟨_,rfl,?_⟩
  simp only[Rel]
  exact⟨_,_,rfl,by simpa using fo R ht x.toList,by simpa using fo R ht y.toList⟩
 | makeMap ty r =>
  cases r with
  | some r=>simp[U6] at hd
  | none =>
   simp only[U6,MM,MP,true_and] at hd
   obtain⟨rfl,rfl⟩:=hd
   exact fm rfl (rP R ty)
 | makeSlice ty n c =>
  simp only[U6] at hd
  split at hd
  ·exact fm rfl (pW (P:=P) R (ev n) (ev c) hd)
  ·exact fm rfl (vP (P:=P) R (ev n) (ev c) hd)
 | slice ty x lo hi mx =>
  simp only[U6,MV,Α,MP] at hd
  obtain⟨⟨r1,r2⟩,h1,h2,rfl,rfl⟩:=hd
  simp only at h2
  subst h2
  exact aU R rfl (tR R (ev x) (jS R ht lo) (jS R ht hi) (jS R ht mx) h1)
 | fieldAddr s x f =>
  simp only[U6,MV,keep,MP,true_and] at hd
  obtain⟨d',h1,rfl,rfl⟩:=hd
  exact aU R rfl (mJ (ev x) h1)
 | field s x f =>
  simp only[U6,MV,keep,MP,true_and] at hd
  obtain⟨d',h1,rfl,rfl⟩:=hd
  exact aU R rfl (tw (ev x) h1)
 | indexAddr ty x i =>
  simp only[U6,MV,Α,MP] at hd
  obtain⟨⟨r1,r2⟩,h1,h2,rfl,rfl⟩:=hd
  simp only at h2
  subst h2
  exact aU R rfl (mK (ev x) (ev i) h1)
 | index ty x i =>
  simp only[U6,MV,Α,MP] at hd
  obtain⟨⟨r1,r2⟩,h1,h2,rfl,rfl⟩:=hd
  simp only at h2
  subst h2
  exact aU R rfl (tz (ev x) (ev i) h1)
 | lookup ty x k ok =>
  simp only[U6,MV,keep,MP,true_and] at hd
  obtain⟨d',h1,rfl,rfl⟩:=hd
  exact aU R rfl (rO R (ev x) (ev k) h1)
 | mapUpdate ty m k x =>
  simp only[U6,MV,iL,MP,true_and] at hd
  obtain⟨d',h1,rfl,rfl⟩:=hd
  exact nX rfl (gP R (ev m) (ev k) (ev x) h1)
 | insert ty m k x =>
  simp only[U6,MV,iL,MP,true_and] at hd
  obtain⟨d',h1,rfl,rfl⟩:=hd
  exact nX rfl (gP R (ev m) (ev k) (ev x) h1)
 | range ty x =>
  simp only[U6,MV,MP,true_and] at hd
  obtain⟨⟨d',h2⟩,h1,rfl,rfl⟩:=hd
  exact fm rfl (tS R (ev x) h1)
 | next it s =>
  simp only[U6,MV,MP,true_and] at hd
  obtain⟨⟨d',h2⟩,h1,rfl,rfl⟩:=hd
  obtain⟨v,w',g1,g2,g3,g4⟩:=vU (P:=P) (t:=type) R (ev it) h1
  exact fm rfl ⟨v,w',l,g1,g2,g3,g4⟩
 | entry it =>
  simp only[U6,MV,keep,MP,true_and] at hd
  obtain⟨d',h1,rfl,rfl⟩:=hd
  exact aU R rfl (tU R (ev it) h1)
 | extract x i =>
  simp only[U6] at hd
  have rx:=ev x
  split at hd
  ·rename_i ds hx
   rw[hx] at rx
   simp only[MV,keep,MP,true_and] at hd
   obtain⟨d',h1,rfl,rfl⟩:=hd
   simp only[Rel] at rx
   obtain⟨vs,hv,r⟩:=rx
   obtain⟨v,h2,h3⟩:=r.get i h1
   refine aU R rfl ⟨v,?_,h3⟩
   rw[NV] at h2
   simp[hv,Instr.extract,h2]
  ·simp at hd
 | call c =>
  obtain⟨callee,args,argTypes⟩:=c
  cases callee with
  | builtin b =>
   simp only[U6] at hd
   obtain⟨v,w',l',h1,h2,h3,h4⟩:=rV (P:=P) (ty:=type) R (fo R ht args.toList) hd
   refine⟨.value v,v,w',l',?_,.inl rfl,h2,h3,h4⟩
   have:(args.toList.map a.eval).toArray=args.map a.eval:=by apply Array.ext';simp
   rw[this] at h1
   have h5:=h1 (args.map fun | .const _=>true|_=>false)
   rw[Rv] at h5
   grind [execOp,resolve,invoke]
  | _=>simp[U6] at hd
 | _=>simp[U6] at hd
end
end Go.Vi
