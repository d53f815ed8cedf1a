/- LedgerArrival: part of the proof: an evaluator of the model's programs on abstract values, and its soundness. No conditions beyond the given statement's own. -/
import Derived.Test.YtbfpdhdcicjihaaGreatDoorV2
import Derived.Laws.StructEq
open Decidable renaming decide → Qd
open Option.some renaming injEq → G0
open Option renaming map_eq_some_iff → Ha, map_some → HD
open Go.Instr renaming sliceBounds → IT, sliceBound → J8, sliceAt → Jg, slice → LM, findNow → Mn, sameNow → Lo, lookup → KU, findKey → KE, sameBits → K9, mapUpdate → LU, range → LN, next → KV, makeInterface → Lk, typeAssert → JN
open Bool renaming and_eq_true → G6, false_eq_true → HO, or_eq_true → JH, eq_iff_iff → LY
open Go.Sem renaming run_bind → Hp, run_pure → HH
open Go.Result renaming andThen_ok → Hk, andThen → IC
open Nat renaming le_refl → Hq, sub_zero → Ko
open Prod.mk renaming injEq → G4
open List renaming length_nil → IP, isEmpty_toArray → M1, map_cons → Il, all_eq_true → Hs
open Array renaming getElem?_eq_some_iff → Ku, getElem?_toList → H0, length_toList → IK, toArray_toList → La
open Go.Utf8 renaming decode → MZ
open Go.Vi.Ext renaming refl → J5
open Go.Value.map renaming injEq → M0
open Go.Question renaming forced → Na
open Go.Op renaming equalIn → KC, eqFields → Nl
open Std.Legacy renaming Range → MD
open Go.Builtin renaming copy_ → KD
namespace Go.Vi
open Go
section
variable {P:Program} {Γ:ae} {O:Nat→Prop} {w:World} {l:Loc} {h:List Blk}
def j5(M:Option Int)(c:Nat):Nat:=match M with|none=>c|some m=>m.toNat
@[simp] theorem lc (c : Nat) : j5 none c = c := rfl
@[simp] theorem cd (m : Int) (c : Nat) : j5 (some m) c = m.toNat := rfl
def gg(w:World)(av:Nat→Prop)(l:Loc)(h:List Blk):Option D→Option Value→Prop
 | none,none=>True
 | some d,some v=>Rel w av l h d v
 | _,_=>False
theorem bound_run{lo:Option D}{v:Option Value}{L:Int}{dflt:Int}(r:gg w (avs O l h) l h lo v)(hb:a9 lo dflt=some L):
  (v=none∧lo=none∧L=dflt)∨∃k,v=some (.int k L):=by
 cases lo with
 | none =>
  cases v with
  | none=>simp only[a9,G0] at hb;exact .inl ⟨rfl,rfl,hb.symm⟩
  | some x=>simp[gg] at r
 | some d =>
  cases v with
  | none=>simp[gg] at r
  | some x =>
   simp only[a9,Ha] at hb
   obtain⟨⟨k,m⟩,h1,h2⟩:=hb
   simp only at h2
   subst h2
   exact .inr ⟨k,by rw[a6 r h1]⟩
theorem dh{b:Bool}{n c:Nat}{lo hi mx:Option D}{vl vh vm:Option Value}{L U:Int}{M:Option Int}
  (rl:gg w (avs O l h) l h lo vl) (rh:gg w (avs O l h) l h hi vh) (rm:gg w (avs O l h) l h mx vm)
  (hl:a9 lo 0=some L) (hu:a9 hi n=some U) (hm:s9 mx=some M) (ok:co L U n=true) (ok2:dQ U n M=true) (ok3:(M.isNone||hi.isSome)=true) (hnc:n≤c) :
  (IT b n c vl vh vm).run P w=.ok (L.toNat,U.toNat,(j5 M c)) w:=by
 simp only[co,G6,decide_eq_true_eq] at ok
 obtain⟨⟨o1,o2⟩,o3⟩:=ok
 have hlow:∀code (y:Nat),U≤y→(match vl with|some v=>J8 v U.toNat code|none=>pure 0:Sem Nat).run P w=.ok L.toNat w:=by
  intro code y _
  rcases bound_run rl hl with ⟨rfl,_,rfl⟩|⟨k,rfl⟩
  ·simp
  ·exact run_sliceBound w k L U.toNat code o1 (by omega)
 cases mx with
 | none =>
  cases vm with
  | some x=>simp[gg] at rm
  | none =>
   simp only[s9,G0] at hm
   subst hm
   rcases bound_run rh hu with ⟨rfl,_,rfl⟩|⟨k,rfl⟩
   ·rcases bound_run rl hl with ⟨rfl,_,rfl⟩|⟨k2,rfl⟩
    ·simp[IT]
    ·simp[IT,run_sliceBound w k2 L n _ o1 (by omega)]
   ·have hU:∀code,(J8 (.int k U) c code).run P w=.ok U.toNat w:=fun code=>run_sliceBound w k U c code (by omega) (by omega)
    rcases bound_run rl hl with ⟨rfl,_,rfl⟩|⟨k2,rfl⟩
    ·simp[IT,hU]
    ·simp[IT,hU,run_sliceBound w k2 L U.toNat _ o1 (by omega)]
 | some m =>
  cases vm with
  | none=>simp[gg] at rm
  | some x =>
   simp only[s9,Ha] at hm
   obtain⟨⟨km,mv⟩,h1,rfl⟩:=hm
   have hx:=a6 rm h1
   subst hx
   simp only[dQ,G6,decide_eq_true_eq] at ok2
   have hM:∀code,(J8 (.int km mv) c code).run P w=.ok mv.toNat w:=fun code=>run_sliceBound w km mv c code (by omega) (by omega)
   rcases bound_run rh hu with ⟨rfl,hi0,_⟩|⟨k,rfl⟩
   ·subst hi0;simp at ok3
   ·have hU:∀code,(J8 (.int k U) mv.toNat code).run P w=.ok U.toNat w:=fun code=>run_sliceBound w k U _ code (by omega) (by omega)
    rcases bound_run rl hl with ⟨rfl,_,rfl⟩|⟨k2,rfl⟩
    ·simp[IT,hM,hU]
    ·simp[IT,hM,hU,run_sliceBound w k2 L U.toNat _ o1 (by omega)]
theorem RelRows.drop{av:Nat→Prop}{blk sz:Nat}:∀{es:List (List Dp)} {off:Nat} (n:Nat),RelRows w av blk sz off es→RelRows w av blk sz (off+n*sz) (es.drop n)
 | [],_,n,_=>by simp[RelRows]
 | e::es,off,0,r=>by simpa using r
 | e::es,off,n+1,r=>by
  simp only[RelRows] at r
  rw[List.drop_succ_cons,show off+(n+1)*sz=off+sz+n*sz by rw[Nat.succ_mul];omega]
  exact RelRows.drop n r.2.2
theorem RelRows.take{av:Nat→Prop}{blk sz:Nat}:∀{es:List (List Dp)} {off:Nat} (n:Nat),RelRows w av blk sz off es→RelRows w av blk sz off (es.take n)
 | [],_,n,_=>by simp[RelRows]
 | e::es,off,0,r=>by simp[RelRows]
 | e::es,off,n+1,r=>by
  simp only[RelRows,List.take_succ_cons] at r ⊢
  exact⟨r.1,r.2.1,RelRows.take n r.2.2⟩
theorem qh{t e:TypeId}{sz n c:Nat}{base:Option Addr}{lo hi mx:Option D}{vl vh vm:Option Value}{L U:Int}{M:Option Int}(ht:P.underlying t=some (.slice e))(hs:szOf P e=some sz)
  (rl:gg w (avs O l h) l h lo vl) (rh:gg w (avs O l h) l h hi vh) (rm:gg w (avs O l h) l h mx vm)
  (hl:a9 lo 0=some L) (hu:a9 hi n=some U) (hm:s9 mx=some M) (ok:co L U n=true) (ok2:dQ U n M=true) (ok3:(M.isNone||hi.isSome)=true) (hnc:n≤c) :
  (Jg t (.slice base n c) vl vh vm).run P w=.ok (.slice (if (j5 M c)=L.toNat then base else base.map (·.add (L.toNat*sz))) (U.toNat - L.toNat) ((j5 M c) - L.toNat)) w:=by
 simp only[Jg,Hp,und_run ht,Hk,LM,dh (P:=P) (b:=true) rl rh rm hl hu hm ok ok2 ok3 hnc,szOf_run hs,HH]
theorem tj{es:List (List Dp)}{blk off sz sz0:Nat}{L U:Nat}(rr:RelRows w (avs O l h) blk sz0 off es)(hall:es.all (fun r=>Qd (r.length=sz))=true)(h1:L≤U)(h2:U≤es.length)(m:Nat)(hm:U≤m):
  Rel w (avs O l h) l h (.p (.sl ((es.drop L).take (U - L)))) (.slice (if m=L then some ⟨blk,off,none⟩ else (some (⟨blk,off,none⟩:Addr)).map (·.add (L*sz))) (U - L) (m - L)) ∧
  (m=U→Rel w (avs O l h) l h (.csl ((es.drop L).take (U - L))) (.slice (if m=L then some ⟨blk,off,none⟩ else (some (⟨blk,off,none⟩:Addr)).map (·.add (L*sz))) (U - L) (m - L))):=by
 have hlen:((es.drop L).take (U - L)).length=U - L:=by simp;omega
 have hrows:es ≠ []→sz0=sz:=by
  intro hne
  cases es with
  | nil=>exact absurd rfl hne
  | cons e0 es0 =>
   simp only[RelRows] at rr
   simp only[List.all_cons,G6,decide_eq_true_eq] at hall
   rw[←rr.1,hall.1]
 by_cases hmL:m=L
 ·have:U=L:=by omega
  subst this
  simp only[hmL,if_true,Nat.sub_self,List.take_zero]
  refine⟨?_,fun _=>?_⟩
  ·simp only[Rel,RelP];exact .inr ⟨blk,off,0,sz,rfl,Hq _,by simp[RelRows]⟩
  ·simp only[Rel];exact .inr ⟨blk,off,sz,rfl,by simp[RelRows]⟩
 ·simp only[hmL,if_false,HD,b7]
  have hr2:RelRows w (avs O l h) blk sz (off+L*sz) ((es.drop L).take (U - L)):=by
   by_cases hne:es=[]
   ·subst hne;simp[RelRows]
   ·have:=hrows hne;subst this
    exact(rr.drop L).take _
  refine⟨?_,fun hmu=>?_⟩
  ·simp only[Rel,RelP]
   exact .inr ⟨blk,off+L*sz,m - L,sz,by rw[hlen],by rw[hlen];omega,hr2⟩
  ·subst hmu
   simp only[Rel]
   exact .inr ⟨blk,off+L*sz,sz,by rw[hlen],hr2⟩
theorem vf{U:Int}{M:Option Int}(hc:bA U M=true):M=some U:=by
 cases M with
 | none=>simp[bA] at hc
 | some m=>simp only[bA,decide_eq_true_eq] at hc;rw[hc]
theorem lf{L U:Int}{n:Nat}(ok:co L U n=true):0≤L∧L≤U∧U≤n∧L.toNat≤U.toNat∧U.toNat≤n:=by
 simp only[co,G6,decide_eq_true_eq] at ok
 omega
theorem kg{av:Nat→Prop}{x:Option Addr}{m:Nat}(cl:Bool)(hcl:cl=true→m=0)(hx:x=none→m=0):
  Rel w av l h (bT cl []) (.slice x 0 m):=by
 cases cl
 ·simp only[bT,HO,if_false,Rel,RelP]
  exact .inl ⟨trivial,x,m,rfl,hx⟩
 ·have:=hcl rfl;subst this
  simp only[bT,if_true,Rel]
  exact .inl ⟨trivial,x,rfl⟩
theorem dE{av:Nat→Prop}{x:Option Addr}{m:Nat}(cl:Bool)(hcl:cl=true→m=0)(hx:x=none→m=0)(_hsp:∀a,x=some a→a.spot=none):
  Rel w av l h (bT cl []) (.slice x 0 m):=kg cl hcl hx
theorem CJ{c:Nat}{M:Option Int}{U:Int}(ok2:dQ U 0 M=true){a:Option Addr}{f:Addr→Addr}(ha:a=none→c=0)(hx:(if j5 M c=0 then a else a.map f)=none):j5 M c=0:=by
 split at hx
 ·assumption
 ·have hn:a=none:=by cases a<;>simp_all
  have:=ha hn
  subst this
  cases M with
  | none=>rfl
  | some m=>simp only[dQ,G6,decide_eq_true_eq] at ok2;simp only[cd];omega
theorem capOf{c U L n:Nat}{M:Option Int}{Ui:Int}(hU:Ui.toNat=U)(ok2:dQ Ui n M=true)(h1:L≤U)(h2:U≤n)(hnc:n≤c):
  L≤(j5 M c)∧U≤(j5 M c)∧(bA Ui M=true→(j5 M c)=U):=by
 cases M with
 | none=>simp[bA];omega
 | some m =>
  simp only[dQ,G6,decide_eq_true_eq] at ok2
  refine⟨by simp only[cd];omega,by simp only[cd];omega,fun hc=>?_⟩
  have:=vf hc
  simp only[G0] at this
  simp only[this,cd,hU]
theorem qi{c c2:Nat}{cl:Option Nat}{L U:Int}{M:Option Int}(hcl:∀k,cl=some k→c=k)(hM:bA U M=true→j5 M c=U.toNat):
  ∀k,tc cl L U M=some k→j5 M c - L.toNat=k:=by
 intro k hk
 unfold tc at hk
 split at hk
 ·rename_i h1
  simp only[G0] at hk
  rw[hM h1,hk]
 ·split at hk
  ·cases hcl':cl with
   | none=>simp[hcl'] at hk
   | some k0 =>
    simp only[hcl',HD,G0] at hk
    have:=hcl _ hcl'
    subst this
    simpa using hk
  ·simp at hk
theorem mO(R:Rep Γ O w l h){t e:TypeId}{x d:D}{y:Value}{sz n:Nat}{L U:Int}{lo hi mx:Option D}{vl vh vm:Option Value}{M:Option Int}(rx:Rel w (avs O l h) l h x y)
  (ht:P.underlying t=some (.slice e)) (hs:szOf P e=some sz) (hn:lenD h x=some n)
  (rl:gg w (avs O l h) l h lo vl) (rh:gg w (avs O l h) l h hi vh) (rm:gg w (avs O l h) l h mx vm)
  (hl:a9 lo 0=some L) (hu:a9 hi n=some U) (hm:s9 mx=some M) (ok:co L U n=true) (ok2:dQ U n M=true) (ok3:(M.isNone||hi.isSome)=true)
  (hd:sliceRow h x sz n L U M=some (true,d)):∃v,(Jg t y vl vh vm).run P w=.ok v w∧Rel w (avs O l h) l h d v:=by
 obtain⟨o1,o2,o3,o4,o5⟩:=lf ok
 have run:∀(base:Option Addr) (c:Nat),n≤c→(Jg t (.slice base n c) vl vh vm).run P w=.ok (.slice (if (j5 M c)=L.toNat then base else base.map (·.add (L.toNat*sz))) (U.toNat - L.toNat) ((j5 M c) - L.toNat)) w :=
  fun base c hnc=>qh ht hs rl rh rm hl hu hm ok ok2 ok3 hnc
 have cap:∀c,n≤c→_:=fun c hnc=>capOf (c:=c) (L:=L.toNat) (n:=n) (M:=M) (Ui:=U) rfl ok2 o4 o5 hnc
 cases x with
 | p dp =>
  cases dp with
  | v x =>
   obtain rfl:=ai rx
   cases y<;>simp[sliceRow] at hd
   case slice a m c =>
    cases a<;>cases m<;>cases c<;>simp at hd
    subst hd
    simp only[lenD,G0] at hn
    subst hn
    obtain⟨c1,c2,c3⟩:=cap 0 (Hq _)
    refine⟨_,run none 0 (Hq _),?_⟩
    have hU:U.toNat=0:=by omega
    have hL:L.toNat=0:=by omega
    have hm0:(j5 M 0)=0:=by
     cases M with
     | none=>rfl
     | some m=>simp only[dQ,G6,decide_eq_true_eq] at ok2;simp only[cd];omega
    rw[hm0,hU,hL]
    exact rel_lit _ _ _ _ _
  | sl es =>
   simp only[sliceRow,G0,G4] at hd
   obtain⟨hall,rfl⟩:=hd
   simp only[lenD,G0] at hn
   subst hn
   simp only[Rel,RelP] at rx
   rcases rx with ⟨rfl,a0,c0,rfl,ha0⟩|⟨blk,off,c,sz0,rfl,hc,rr⟩
   ·obtain⟨c1,c2,c3⟩:=cap c0 (Nat.zero_le _)
    refine⟨_,run a0 c0 (Nat.zero_le _),?_⟩
    have hU:U.toNat=0:=by simp at o5;omega
    have hL:L.toNat=0:=by omega
    simp only[hU,hL,Nat.sub_self,Ko,List.drop_nil,List.take_nil] at c3 ⊢
    exact kg _ (fun hcl=>c3 hcl) (CJ (by simpa using ok2) ha0)
   ·obtain⟨c1,c2,c3⟩:=cap c hc
    refine⟨_,run _ c hc,?_⟩
    obtain⟨p1,p2⟩:=tj (l:=l) (h:=h) (O:=O) rr hall o4 o5 _ c2
    unfold bT
    split
    ·rename_i hcl;exact p2 (c3 hcl)
    ·exact p1
 | csl es =>
  simp only[sliceRow,G0,G4] at hd
  obtain⟨hall,rfl⟩:=hd
  simp only[lenD,G0] at hn
  subst hn
  simp only[Rel] at rx
  rcases rx with ⟨rfl,a0,rfl⟩|⟨blk,off,sz0,rfl,rr⟩
  ·obtain⟨c1,c2,c3⟩:=cap 0 (Hq _)
   refine⟨_,run a0 0 (Hq _),?_⟩
   have hU:U.toNat=0:=by simp at o5;omega
   have hL:L.toNat=0:=by omega
   have hm0:(j5 M 0)=0:=by
    cases M with
    | none=>rfl
    | some m=>simp only[dQ,G6,decide_eq_true_eq,IP] at ok2;simp only[cd];omega
   rw[hm0,hU,hL]
   simp only[List.drop_nil,List.take_nil,if_true]
   exact kg _ (fun _=>rfl) (fun _=>rfl)
  ·obtain⟨c1,c2,c3⟩:=cap es.length (Hq _)
   refine⟨_,run _ es.length (Hq _),?_⟩
   obtain⟨p1,p2⟩:=tj (l:=l) (h:=h) (O:=O) rr hall o4 o5 _ c2
   unfold bT
   split
   ·rename_i hcl
    simp only[JH,G6,Option.isNone_iff_eq_none,decide_eq_true_eq] at hcl
    rcases hcl with hcl|⟨rfl,hcl⟩
    ·exact p2 (c3 hcl)
    ·exact p2 (by simp only[lc];omega)
   ·exact p1
 | ref r =>
  have rx':=rx
  obtain⟨g1,hr⟩:=rx
  cases r with
  | vec b e' =>
   simp only[sliceRow,lenD] at hd hr hn
   cases hb:h[b]? with
   | none=>simp[hb] at hd
   | some bx =>
    cases bx<;>simp only[hb,reduceCtorEq] at hd hr hn
    rename_i es e2 sz'
    split at hd
    case isFalse=>simp at hd
    rename_i he
    obtain⟨rfl,rfl⟩:=he
    simp only[if_true,G0] at hn
    subst hn
    simp only[G0,G4,true_and] at hd
    subst hd
    have hv:=hr.2 rfl
    cases hlb:l b with
    | none =>
     have hok:=R.blk b _ hb
     simp only[hlb,fg,BlkOk] at hv hok
     obtain⟨_,rfl⟩:=hv
     subst hok
     obtain⟨c1,c2,c3⟩:=cap 0 (Hq _)
     refine⟨_,run none 0 (Hq _),?_⟩
     have hU:U.toNat=0:=by simp at o5;omega
     have hL:L.toNat=0:=by omega
     have hm0:(j5 M 0)=0:=by
      cases M with
      | none=>rfl
      | some m=>simp only[dQ,G6,decide_eq_true_eq,IP] at ok2;simp only[cd];omega
     rw[hm0,hU,hL]
     split
     ·exact rx'
     ·rename_i h3
      rw[if_pos ⟨by omega,fun hh=>h3 ⟨by omega,hh.1,hh.2⟩⟩]
      exact dE _ (fun _=>rfl) (fun _=>rfl) (fun a ha=>by simp at ha)
    | some pr =>
     obtain⟨blk,cp0⟩:=pr
     simp only[hlb,fg] at hv
     obtain⟨oo,c,rfl,rfl,hc⟩:=hv
     obtain⟨c1,c2,c3⟩:=cap c hc
     have hcc:j5 M c≤c:=by
      cases M with
      | none=>simp[lc]
      | some m=>simp only[dQ,G6,decide_eq_true_eq] at ok2;simp only[cd];omega
     refine⟨_,run _ c hc,?_⟩
     split
     ·rename_i h3
      obtain⟨rfl,h4,rfl⟩:=h3
      have e1:U.toNat - (0:Int).toNat=es.length:=by omega
      rw[e1]
      simp only[Int.toNat_zero,Nat.zero_mul,b7,HD,Ko,Nat.add_zero,ite_self]
      exact rx'
     ·split
      ·rename_i h4
       have e1:U.toNat - L.toNat=0:=by omega
       rw[e1]
       refine dE _ (fun hcl=>by rw[c3 hcl];omega) (fun hx=>?_) (fun a ha=>?_)
       ·split at hx<;>simp at hx
       ·split at ha<;>simp at ha<;>subst ha<;>rfl
      ·rename_i h4
       simp only[Rel,RefRel,hb]
       refine⟨by split<;>rfl,Hq _,fun _=>⟨by omega,blk,oo,c,j5 M c - L.toNat,hlb,?_,by omega,by omega,qi (c2:=c) (by simp) c3⟩⟩
       by_cases hmL:j5 M c=L.toNat
       ·exact .inr ⟨_,rfl,by omega⟩
       ·simp only[hmL,if_false,HD,b7]
        exact .inl trivial
  | vs b e' i m cl =>
   simp only[sliceRow,lenD] at hd hr hn
   cases hb:h[b]? with
   | none=>simp[hb] at hd
   | some bx =>
    cases bx<;>simp only[hb,reduceCtorEq] at hd hr hn
    rename_i es e2 sz'
    split at hd
    case isFalse=>simp at hd
    rename_i he
    obtain⟨rfl,rfl⟩:=he
    simp only[if_true,G0] at hn
    subst hn
    simp only[G0,G4,true_and] at hd
    subst hd
    obtain⟨hin,blk,oo,cp,c,hlb,hy,hc,hic,hclip⟩:=hr.2 rfl
    clear hr
    obtain⟨c1,c2,c3⟩:=cap c hc
    have hcc:j5 M c≤c:=by
     cases M with
     | none=>simp[lc]
     | some m=>simp only[dQ,G6,decide_eq_true_eq] at ok2;simp only[cd];omega
    have hya:∃a0,y=.slice a0 m c:=by
     rcases hy with hy|⟨a1,hy,_⟩
     ·exact⟨_,hy⟩
     ·exact⟨_,hy⟩
    obtain⟨a0,rfl⟩:=hya
    refine⟨_,run _ c hc,?_⟩
    split
    ·rename_i h4
     have e1:U.toNat - L.toNat=0:=by omega
     rw[e1]
     refine kg _ (fun hcl=>by rw[c3 hcl];omega) (fun hx=>?_)
     rcases hy with hy|⟨a1,hy,h0⟩
     ·cases hy
      split at hx<;>simp at hx
     ·omega
    ·rename_i h4
     simp only[Rel,RefRel,hb]
     refine⟨by split<;>first|exact g1|rfl,Hq _,fun _=>⟨by omega,blk,oo,cp,j5 M c - L.toNat,hlb,?_,by omega,by omega,qi (c2:=c) hclip c3⟩⟩
     ·by_cases hmL:j5 M c=L.toNat
      ·exact .inr ⟨_,rfl,by omega⟩
      ·rcases hy with hy|⟨a1,hy,h0⟩
       ·cases hy
        simp only[hmL,if_false,HD,b7]
        exact .inl (by rw[Nat.add_mul,Nat.add_assoc])
       ·omega
  | av b off m sz' =>
   simp only[sliceRow,lenD] at hd hr hn
   cases hb:h[b]? with
   | none=>simp[hb] at hd
   | some bx =>
    cases bx<;>simp only[hb,reduceCtorEq,G0] at hd hr hn
    subst hn
    split at hd
    case isFalse=>simp at hd
    rename_i he
    subst he
    simp only[G0,G4,true_and] at hd
    subst hd
    obtain⟨blk,cp,c,hlb,rfl,hc⟩:=hr
    obtain⟨c1,c2,c3⟩:=cap c hc
    refine⟨_,run _ c hc,?_⟩
    split
    ·rename_i h4
     have e1:U.toNat - L.toNat=0:=by omega
     rw[e1]
     refine dE _ (fun hcl=>by rw[c3 hcl];omega) (fun hx=>?_) (fun a ha=>?_)
     ·split at hx<;>simp at hx
     ·split at ha<;>simp at ha<;>subst ha<;>rfl
    ·rename_i h4
     have hmL:¬(j5 M c)=L.toNat:=by omega
     simp only[hmL,if_false,HD,b7]
     simp only[Rel,RefRel,hb]
     exact⟨rfl,blk,cp,_,hlb,rfl,by omega⟩
  | _=>simp[sliceRow] at hd
 | _=>simp[sliceRow] at hd
theorem gn{len:Nat}{e:TypeId}{x d:D}{y:Value}{L:Int}{lo hi mx:Option D}{vl vh vm:Option Value}{M:Option Int}(rx:Rel w (avs O l h) l h x y)
  (rl:gg w (avs O l h) l h lo vl) (rh:gg w (avs O l h) l h hi vh) (rm:gg w (avs O l h) l h mx vm) (hl:a9 lo 0=some L) (hm:s9 mx=some M)
  (hd:eu P h len e x L hi M=some (true,d)):∃a:Addr,y=.pointer (some a)∧∃sz lN hN,szOf P e=some sz∧(IT false len len vl vh vm).run P w=.ok (lN,hN,len) w ∧
   Rel w (avs O l h) l h d (.slice (some (if len=lN then a else a.add (lN*sz))) (hN - lN) (len - lN)):=by
 unfold eu at hd
 split at hd
 case h_2=>simp at hd
 rename_i b off
 obtain⟨g1,hr⟩:=rx
 cases hs:szOf P e with
 | none=>simp[hs] at hd
 | some sz =>
  cases hu:a9 hi len with
  | none=>simp[hs,hu] at hd
  | some U =>
   cases hb:h[b]? with
   | none=>simp[hs,hu,hb] at hd
   | some bx =>
    cases bx<;>simp only[hs,hu,hb,reduceCtorEq] at hd hr
    cases M with
    | some m=>simp at hd
    | none =>
     simp only[G0,G4] at hd
     obtain⟨ok,rfl⟩:=hd
     obtain⟨blk,cp,hlb,rfl⟩:=hr
     obtain⟨o1,o2,o3,o4,o5⟩:=lf ok
     refine⟨_,rfl,sz,L.toNat,U.toNat,rfl,dh (P:=P) (b:=false) (M:=none) rl rh rm hl hu hm ok (by simp[dQ]) (by simp) (Hq _),?_⟩
     split
     ·rename_i h4
      have e1:U.toNat - L.toNat=0:=by omega
      rw[e1]
      exact dE (l:=l) (h:=h) false (fun hcl=>by simp at hcl) (fun hx=>by simp at hx) (fun a ha=>by split at ha<;>simp at ha<;>subst ha<;>rfl)
     ·rename_i h4
      have hmL:¬len=L.toNat:=by omega
      simp only[hmL,if_false,b7]
      simp only[Rel,RefRel,hb]
      exact⟨rfl,blk,cp,_,hlb,rfl,by omega⟩
theorem rX{t e:TypeId}{x d:D}{y:Value}{sz:Nat}{lo hi mx:Option D}{vl vh vm:Option Value}(rx:Rel w (avs O l h) l h x y)
  (ht:P.underlying t=some (.slice e)) (hs:szOf P e=some sz)
  (rl:gg w (avs O l h) l h lo vl) (rh:gg w (avs O l h) l h hi vh) (rm:gg w (avs O l h) l h mx vm)
  (hd:oy h x sz lo hi mx=some (true,d)):∃v,(Jg t y vl vh vm).run P w=.ok v w∧Rel w (avs O l h) l h d v:=by
 unfold oy at hd
 split at hd
 case h_2=>simp at hd
 rename_i b e' i n k hdd
 split at hd
 case h_2=>simp at hd
 rename_i kk u hi'
 split at hd
 case h_2=>simp at hd
 rename_i hc
 simp only[decide_eq_true_eq] at hc
 obtain⟨hc1,hc2⟩:=hc
 split at hd
 case h_2=>simp at hd
 rename_i es e2 sz' hb
 split at hd
 case h_2=>simp at hd
 rename_i hc
 simp only[decide_eq_true_eq] at hc
 obtain⟨rfl,rfl⟩:=hc
 simp only[G0,G4,decide_eq_true_eq] at hd
 obtain⟨hlen,rfl⟩:=hd
 obtain⟨g1,hr⟩:=rx
 simp only[hb] at hr
 obtain⟨hin,blk,oo,cp,c,hlb,hy,hnc,hic,hclip⟩:=hr.2 trivial
 have:=hclip k rfl
 subst this
 rcases hy with rfl|⟨a1,hy,h0⟩
 case inr=>omega
 cases vl with
 | some x=>simp[gg] at rl
 | none =>
 cases vm with
 | some x=>simp[gg] at rm
 | none =>
 cases vh with
 | none=>simp[gg] at rh
 | some xv =>
 have hx:=a6 rh hi'
 subst hx
 have hU:∀code,(J8 (.int kk u) c code).run P w=.ok u.toNat w:=fun code=>run_sliceBound w kk u c code (by omega) (by omega)
 refine⟨.slice (some ⟨blk,oo+i*sz',none⟩) u.toNat c,?_,?_⟩
 ·have hc0:¬c=0:=by omega
  simp[Jg,und_run ht,LM,IT,hU,szOf_run hs,hc0,b7]
 ·simp only[Rel,RefRel,hb]
  exact⟨rfl,Hq _,fun _=>⟨hlen,blk,oo,cp,c,hlb,.inl rfl,by omega,hic,fun k hk=>by cases hk;rfl⟩⟩
theorem qj(R:Rep Γ O w l h){t:TypeId}{x d:D}{y:Value}{lo hi mx:Option D}{vl vh vm:Option Value}(rx:Rel w (avs O l h) l h x y)
  (rl:gg w (avs O l h) l h lo vl) (rh:gg w (avs O l h) l h hi vh) (rm:gg w (avs O l h) l h mx vm) (hd:cW P h t x lo hi mx=some (true,d)) :
  ∃v,(Jg t y vl vh vm).run P w=.ok v w∧Rel w (avs O l h) l h d v:=by
 unfold cW at hd
 cases hL:a9 lo 0 with
 | none=>simp[hL] at hd
 | some L =>
  cases hM:s9 mx with
  | none=>simp[hL,hM] at hd
  | some M =>
   simp only[hL,hM] at hd
   cases hu:P.underlying t with
   | none=>simp[hu] at hd
   | some u =>
    cases u<;>simp only[hu,reduceCtorEq] at hd
    case string =>
     unfold tb at hd
     split at hd
     ·rename_i s
      obtain rfl:=ai rx
      cases hU:a9 hi s.size with
      | none=>simp[hU] at hd
      | some U =>
       cases M with
       | some m=>simp[hU] at hd
       | none =>
        simp only[hU,G0,G4] at hd
        obtain⟨ok,rfl⟩:=hd
        cases mx with
        | some m0=>simp only[s9,Ha] at hM;obtain⟨_,_,h2⟩:=hM;simp at h2
        | none =>
         cases vm with
         | some x=>simp[gg] at rm
         | none =>
          refine⟨_,?_,rel_lit _ _ _ _ _⟩
          have:=dh (P:=P) (b:=false) (mx:=none) rl rh rm hL hU rfl ok (by simp[dQ]) (by simp) (Hq _)
          simp[Jg,und_run hu,LM,this]
     ·simp at hd
    case slice e =>
     cases hs:szOf P e with
     | none=>simp[hs] at hd
     | some sz =>
      cases hn:lenD h x with
      | none=>simp[hs,hn] at hd
      | some n =>
       simp only[hs,hn] at hd
       cases hW:oy h x sz lo hi mx with
       | some r =>
        simp only[hW,G0] at hd
        subst hd
        exact rX rx hu hs rl rh rm hW
       | none =>
       simp only[hW] at hd
       cases hU:a9 hi n with
       | none=>simp[hU] at hd
       | some U =>
        simp only[hU,Ha,G4,G6] at hd
        obtain⟨⟨r1,r2⟩,h1,⟨⟨⟨ok,ok2⟩,ok3⟩,h3⟩,h4⟩:=hd
        simp only at h3 h4
        subst h3;subst h4
        exact mO R rx hu hs hn rl rh rm hL hU hM ok ok2 ok3 h1
    case array len e =>
     obtain⟨a,rfl,sz,lN,hN,hs,hb,hr⟩:=gn (P:=P) rx rl rh rm hL hM hd
     refine⟨_,?_,hr⟩
     simp[Jg,und_run hu,Instr.sureAddr,hb,szOf_run hs]
    case pointer arr =>
     cases hu2:P.underlying arr with
     | none=>simp[hu2] at hd
     | some u2 =>
      cases u2<;>simp only[hu2,reduceCtorEq] at hd
      case array len e =>
       obtain⟨a,rfl,sz,lN,hN,hs,hb,hr⟩:=gn (P:=P) rx rl rh rm hL hM hd
       refine⟨_,?_,hr⟩
       simp[Jg,und_run hu,und_run hu2,LM,asAddr,hb,szOf_run hs]
end
section
variable {P:Program} {Γ:ae} {O:Nat→Prop} {w:World} {l:Loc} {h:List Blk}
theorem wJ(a b:ByteArray):(a==b)=eqS a b:=by
 have:(a==b)=(a.data==b.data):=rfl
 rw[this,LY]
 simp only[eqS,beq_iff_eq,Array.toList_inj]
theorem checkKey_run{kt:TypeId}{k:D}{v:Value}(hk:cV P kt k=true)(rk:Rel w (avs O l h) l h k v)(b:Bool)(w':World):(Instr.checkKey b 10000 kt v).run P w'=.ok () w':=by
 rw[show(10000:Nat)=9999+1 from rfl,Instr.checkKey]
 unfold cV at hk
 split at hk<;>first|(rename_i h1;obtain rfl:=ai rk;simp[und_run h1])|simp at hk
theorem jg{kt:TypeId}{k:D}{v:Value}{u:TypeDesc}(hu:P.underlying kt=some u)(hk:cV P kt k=true)(rk:Rel w (avs O l h) l h k v):
  ∀{kvs:List (D×D×Nat)} {es:List MapEntry} (i:Nat) {r:Option (Nat×D)},RelKV w (avs O l h) l h kvs es→b9 k kvs i=some r →
   ∃r',Mn u v es i=some r'∧(match r,r' with
    | none,none=>True
    | some (j,d),some (j',y)=>j'=j∧Rel w (avs O l h) l h d y
    | _,_=>False)
 | [],[],i,r,_,hf=>by simp only[b9,G0] at hf;subst hf;exact⟨none,rfl,trivial⟩
 | (k',d,n)::kvs,e::es,i,r,rel,hf=>by
  simp only[RelKV] at rel
  simp only[b9] at hf
  have hsame:∀b,bC k k'=some b→Lo u v e.key=some b:=by
   intro b hb
   unfold cV at hk
   rw[hu] at hk
   unfold bC at hb
   split at hb
   ·rename_i k1 a k2 c
    obtain rfl:=ai rk
    have h2:=ai rel.1
    cases u<;>simp at hk
    rw[h2];simpa[Lo] using hb
   ·rename_i a c
    obtain rfl:=ai rk
    have h2:=ai rel.1
    cases u<;>simp at hk
    rw[h2];simp only[Lo,wJ];exact hb
   ·rename_i a c
    obtain rfl:=ai rk
    have h2:=ai rel.1
    cases u<;>simp at hk
    rw[h2];simpa[Lo] using hb
   ·simp at hb
  cases hq:bC k k' with
  | none=>simp[hq] at hf
  | some b =>
   have hs:=hsame b hq
   cases b with
   | true =>
    simp only[hq,G0] at hf
    subst hf
    exact⟨some (i,e.val),by simp[Mn,hs],rfl,rel.2.1⟩
   | false =>
    simp only[hq] at hf
    obtain⟨r',h1,h2⟩:=jg hu hk rk (i+1) rel.2.2.2 hf
    exact⟨r',by simp[Mn,hs,h1],h2⟩
 | [],_::_,_,_,rel,_=>by simp[RelKV] at rel
 | _::_,[],_,_,rel,_=>by simp[RelKV] at rel
theorem lg{kt:TypeId}{k:D}(hk:cV P kt k=true):∃u,P.underlying kt=some u:=by
 unfold cV at hk
 cases hu:P.underlying kt with
 | none=>simp[hu] at hk
 | some u=>exact⟨u,rfl⟩
theorem bw{r:Nat}{o:Obj}(ho:w.heap[r]? = some o)(hc:∀c T fr,o ≠ .cells c T fr):(getObj r).run P w=.ok o w:=by
 unfold getObj
 cases o<;>simp[Sem.run,ho]
 exact absurd rfl (hc _ _ _)
theorem oB(R:Rep Γ O w l h){t:TypeId}{x k d:D}{y v:Value}{ok:Bool}(rx:Rel w (avs O l h) l h x y)(rk:Rel w (avs O l h) l h k v)(hd:aX P h t x k ok=some d):
  ∃z,(KU t y v ok).run P w=.ok z w∧Rel w (avs O l h) l h d z:=by
 unfold aX at hd
 cases hu:P.underlying t with
 | none=>simp[hu] at hd
 | some u =>
  cases hm:j4 h x with
  | none=>cases u<;>simp[hu,hm] at hd
  | some kvs =>
   cases u<;>simp only[hu,hm,reduceCtorEq] at hd
   rename_i kt et
   split at hd
   case isFalse=>simp at hd
   rename_i hk
   obtain⟨uk,huk⟩:=lg hk
   have fin:∀(es:List MapEntry),RelKV w (avs O l h) l h kvs es→∃z r',(KE kt v es).run P w=.ok r' w∧(match r' with|some (_,v)=>pure (v,true)|none=>do pure (←zeroValue et,false):Sem (Value×Bool)).run P w=.ok z w ∧
     Rel w (avs O l h) l h d (if ok then .tuple #[z.1,.bool z.2] else z.1):=by
    intro es hrel
    cases hf:b9 k kvs 0 with
    | none=>simp[hf] at hd
    | some r =>
     obtain⟨r',hn,hm2⟩:=jg huk hk rk 0 hrel hf
     have hkey:(KE kt v es).run P w=.ok r' w:=by
      simp only[KE,Hp,und_run huk,Hk,hn,HH]
     cases hz:fd P et with
     | none=>rcases r with _|⟨i,d0⟩<;>simp[hf,hz] at hd
     | some z =>
      rcases r with _|⟨i,d0⟩
      ·simp only[hf,hz,G0] at hd
       rcases r' with _|⟨j,y0⟩
       ·refine⟨(z,false),_,hkey,by simp[zeroV_run hz],?_⟩
        subst hd
        cases ok
        ·exact ja _ _ _ _ z
        ·simp only[if_true,Rel]
         exact⟨_,rfl,ja _ _ _ _ z,rel_lit _ _ _ _ _,trivial⟩
       ·simp at hm2
      ·simp only[hf,hz,G0] at hd
       rcases r' with _|⟨j,y0⟩
       ·simp at hm2
       ·simp only at hm2
        refine⟨(y0,true),_,hkey,by simp,?_⟩
        subst hd
        cases ok
        ·exact hm2.2
        ·simp only[if_true,Rel]
         exact⟨_,rfl,hm2.2,rel_lit _ _ _ _ _,trivial⟩
   unfold j4 at hm
   split at hm
   ·cases hm
    obtain rfl:=ai rx
    obtain⟨z,r',h1,h2,h3⟩:=fin [] (by simp[RelKV])
    refine⟨_,?_,h3⟩
    cases hzr:(zeroValue et).run P w with
    | halt a b=>rcases r' with _|⟨j,y0⟩<;>simp[hzr] at h2<;>subst h2<;>simp only[KU,Hp,und_run hu,Hk,HH,checkKey_run hk rk,h1]
    | ok a b=>rcases r' with _|⟨j,y0⟩<;>simp[hzr] at h2<;>(try obtain⟨rfl,rfl⟩:=h2)<;>(try subst h2)<;>simp only[KU,Hp,und_run hu,Hk,HH,checkKey_run hk rk,h1,hzr]
   ·rename_i b
    cases hb:h[b]? with
    | none=>simp[hb] at hm
    | some bx =>
     obtain⟨_,hr⟩:=rx
     cases bx<;>simp only[hb,reduceCtorEq,G0] at hm hr
     subst hm
     obtain⟨blk,cp,hlb,rfl⟩:=hr
     obtain⟨blk',cp',es,h1,h2,h3⟩:=R.blk b _ hb
     obtain⟨rfl,rfl⟩:blk=blk'∧cp=cp':=by simpa[hlb] using h1
     obtain⟨z,r',g1,g2,g3⟩:=fin es.toList h3
     refine⟨_,?_,g3⟩
     have hgo:=bw (P:=P) (o:=.map es _) h2 (by simp)
     cases hzr:(zeroValue et).run P w with
     | halt a b=>rcases r' with _|⟨j,y0⟩<;>simp[hzr] at g2<;>subst g2<;>simp only[KU,Hp,und_run hu,Hk,hgo,HH,checkKey_run hk rk,g1]
     | ok a b=>rcases r' with _|⟨j,y0⟩<;>simp[hzr] at g2<;>(try obtain⟨rfl,rfl⟩:=g2)<;>(try subst g2)<;>simp only[KU,Hp,und_run hu,Hk,hgo,HH,checkKey_run hk rk,g1,hzr]
   ·simp at hm
theorem bL{r:Nat}{o o':Obj}(ho:w.heap[r]? = some o)(hc:∀c T fr,o ≠ .cells c T fr):(setObj r o').run P w=.ok () {w with heap:=w.heap.setIfInBounds r o' }:=by
 unfold setObj
 cases o<;>simp[Sem.run,ho]
 exact absurd rfl (hc _ _ _)
theorem cY{r:Nat}{o o':Obj}(ho:w.heap[r]? = some o):({w with heap:=w.heap.setIfInBounds r o' }:World).heap[r]? = some o':=by
 have:=(Ku.1 ho).1
 simp[this]
theorem rY{r k:Nat}{o':Obj}(hk:k ≠ r):({w with heap:=w.heap.setIfInBounds r o' }:World).heap[k]? = w.heap[k]?:=by
 simp[Array.getElem?_setIfInBounds_ne (Ne.symm hk)]
theorem kh(R:Rep Γ O w l h){b:Nat}{x x':Blk}(hb:h[b]? = some x)(hx:x ≠ .gone){blk cp:Nat}(hlb:l b=some (blk,cp)){o o':Obj}(_ho:w.heap[blk]? = some o)
  (hle:x.le x') (hok:Ext w l h {w with heap:=w.heap.setIfInBounds blk o' } l (h.set b x')→BlkOk {w with heap:=w.heap.setIfInBounds blk o' } (avs O l (h.set b x')) l (h.set b x') b x') :
  Rep Γ O {w with heap:=w.heap.setIfInBounds blk o' } l (h.set b x')∧Ext w l h {w with heap:=w.heap.setIfInBounds blk o' } l (h.set b x') :=
 R.step b x' (by simp) ⟨rfl,rfl,rfl,(by first|exact Hq _|exact Nat.le_succ _)⟩ (fun i hi=>bj _ _ hi) (aP hb) (fun _ _=>rfl) (fun z hz=>by rw[hb] at hz;cases hz;exact⟨hle,fun _=>rfl⟩)
  (fun k hk hno=>rY (fun e=>hno x cp hb hx (by rw[hlb,e])))
  (fun k c hk=>.inl ⟨x,c,hb,hx,hk⟩) hok
theorem wK{kvs:List (D×D×Nat)}{es:List MapEntry}:∀(i:Nat) {k d:D} {n:Nat} {e:MapEntry},RelKV w (avs O l h) l h kvs es→Rel w (avs O l h) l h k e.key→Rel w (avs O l h) l h d e.val→e.born=n →
  RelKV w (avs O l h) l h (kvs.set i (k,d,n)) (es.set i e):=by
 induction kvs generalizing es with
 | nil=>intro i k d n e r _ _ _;cases es<;>simp_all[RelKV]
 | cons a t ih =>
  intro i k d n e r h1 h2 h3
  obtain⟨k0,d0,n0⟩:=a
  cases es with
  | nil=>simp[RelKV] at r
  | cons e0 es0 =>
   simp only[RelKV] at r
   cases i with
   | zero=>simp only[List.set_cons_zero,RelKV];exact⟨h1,h2,h3,r.2.2.2⟩
   | succ i=>simp only[List.set_cons_succ,RelKV];exact⟨r.1,r.2.1,r.2.2.1,ih i r.2.2.2 h1 h2 h3⟩
theorem vg{kvs:List (D×D×Nat)}{es:List MapEntry}{k d:D}{n:Nat}{e:MapEntry}(r:RelKV w (avs O l h) l h kvs es)(h1:Rel w (avs O l h) l h k e.key)(h2:Rel w (avs O l h) l h d e.val)(h3:e.born=n):
  RelKV w (avs O l h) l h (kvs++[(k,d,n)]) (es++[e]):=by
 induction kvs generalizing es with
 | nil=>cases es<;>simp_all[RelKV]
 | cons a t ih =>
  obtain⟨k0,d0,n0⟩:=a
  cases es with
  | nil=>simp[RelKV] at r
  | cons e0 es0=>simp only[RelKV,List.cons_append] at r ⊢;exact⟨r.1,r.2.1,r.2.2.1,ih r.2.2.2⟩
theorem wL{kvs:List (D×D×Nat)}{es:List MapEntry}(i:Nat)(r:RelKV w (avs O l h) l h kvs es){k d:D}{n:Nat}(hk:kvs[i]? = some (k,d,n)):
  ∃e,es[i]? = some e∧Rel w (avs O l h) l h k e.key∧Rel w (avs O l h) l h d e.val∧e.born=n:=by
 induction kvs generalizing es i with
 | nil=>simp at hk
 | cons a t ih =>
  obtain⟨k0,d0,n0⟩:=a
  cases es with
  | nil=>simp[RelKV] at r
  | cons e0 es0 =>
   simp only[RelKV] at r
   cases i with
   | zero=>simp at hk;obtain⟨rfl,rfl,rfl⟩:=hk;exact⟨e0,by simp,r.1,r.2.1,r.2.2.1⟩
   | succ i=>simpa using ih i r.2.2.2 (by simpa using hk)
theorem nc{k:D}:∀{kvs:List (D×D×Nat)} (i:Nat) {j:Nat} {d:D},b9 k kvs i=some (some (j,d))→∃k' n,i≤j∧kvs[j - i]? = some (k',d,n)∧bC k k'=some true
 | [],_,_,_,hf=>by simp[b9] at hf
 | (k',d',n')::kvs,i,j,d,hf=>by
  simp only[b9] at hf
  cases hq:bC k k' with
  | none=>simp[hq] at hf
  | some b =>
   cases b with
   | true=>simp[hq] at hf;obtain⟨rfl,rfl⟩:=hf;exact⟨k',n',Hq _,by simp,hq⟩
   | false =>
    simp only[hq] at hf
    obtain⟨k2,n2,h1,h2,h3⟩:=nc (i+1) hf
    refine⟨k2,n2,by omega,?_,h3⟩
    rw[show j - i=(j - (i+1))+1 by omega];simpa using h2
theorem rZ{k k':D}{v v':Value}(rk:Rel w (avs O l h) l h k v)(rk':Rel w (avs O l h) l h k' v')(hq:bC k k'=some true)(n:Nat):K9 (n+1) v' v=true:=by
 unfold bC at hq
 split at hq
 ·obtain rfl:=ai rk
  obtain rfl:=ai rk'
  split at hq
  ·rename_i hk;subst hk
   simp only[G0,beq_iff_eq] at hq
   subst hq;simp[K9]
  ·simp at hq
 ·obtain rfl:=ai rk
  obtain rfl:=ai rk'
  simp only[G0] at hq
  rw[←wJ] at hq
  simp only[K9]
  rename_i a b
  have:(a.data==b.data)=true:=hq
  have h2:a.data=b.data:=by simpa using this
  show(b.data==a.data)=true
  simp[h2]
 ·obtain rfl:=ai rk
  obtain rfl:=ai rk'
  simp only[G0,beq_iff_eq] at hq
  subst hq;simp[K9]
 ·simp at hq
theorem eV(R:Rep Γ O w l h){t:TypeId}{x k d:D}{y v z:Value}{h':List Blk}(rx:Rel w (avs O l h) l h x y)(rk:Rel w (avs O l h) l h k v)(rd:Rel w (avs O l h) l h d z)
  (hd:fO P h t x k d=some h'):∃w',(LU t y v z).run P w=.ok () w'∧Rep Γ O w' l h'∧Ext w l h w' l h':=by
 unfold fO at hd
 cases hu:P.underlying t with
 | none=>simp[hu] at hd
 | some u =>
  cases u<;>simp only[hu,reduceCtorEq] at hd
  rename_i kt et
  cases x with
  | ref r =>
   cases r<;>simp only[reduceCtorEq] at hd
   rename_i b
   cases hb:h[b]? with
   | none=>simp[hb] at hd
   | some bx =>
    obtain⟨_,hr⟩:=rx
    cases bx<;>simp only[hb,reduceCtorEq] at hd hr
    rename_i kvs clock
    split at hd
    case isFalse=>simp at hd
    rename_i hk
    obtain⟨uk,huk⟩:=lg hk
    obtain⟨blk,cp,hlb,rfl⟩:=hr
    obtain⟨blk',cp',es,h1,h2,h3⟩:=R.blk b _ hb
    obtain⟨rfl,rfl⟩:blk=blk'∧cp=cp':=by simpa[hlb] using h1
    have hgo:=bw (P:=P) (o:=.map es clock) h2 (by simp)
    cases hf:b9 k kvs 0 with
    | none=>simp[hf] at hd
    | some r =>
     obtain⟨r',hn,hm2⟩:=jg huk hk rk 0 h3 hf
     have hkey:(KE kt v es.toList).run P w=.ok r' w:=by
      simp only[KE,Hp,und_run huk,Hk,hn,HH]
     rcases r with _|⟨i,d0⟩
     ·simp only[hf,G0] at hd
      rcases r' with _|⟨j,y0⟩
      ·subst hd
       have:=kh R (x':=.map (kvs++[(k,d,clock)]) (clock+1)) hb (by simp) hlb (o':=.map (es.push {key:=v,val:=z,born:=clock}) (clock+1)) h2 trivial
        (fun E=>⟨blk,cp,_,hlb,cY h2,by rw[Array.toList_push];exact vg (E.relKV h3) (E.rel rk) (E.rel rd) rfl⟩)
       refine⟨_,?_,this.1,this.2⟩
       simp only[LU,Hp,und_run hu,Hk,hgo,checkKey_run hk rk,hkey,bL h2 (by simp)]
      ·simp at hm2
     ·simp only[hf] at hd
      rcases r' with _|⟨j,y0⟩
      ·simp at hm2
      ·simp only at hm2
       obtain⟨rfl,ry⟩:=hm2
       obtain⟨k',n,_,hkv,hq⟩:=nc 0 hf
       simp only[Ko] at hkv
       simp only[hkv,G0] at hd
       subst hd
       obtain⟨e0,he0,r1,r2,r3⟩:=wL j h3 hkv
       have hsb:=rZ rk r1 hq 9999
       have he0':es[j]? = some e0:=by rw[←H0];exact he0
       have hmod:(es.modify j fun e=>{e with key:=v,val:=z}).toList=es.toList.set j {key:=v,val:=z,born:=e0.born}:=by
        apply List.ext_getElem?
        intro i
        rw[H0,Array.getElem?_modify,List.getElem?_set]
        by_cases hji:j=i
        ·subst hji
         have hlt:=(Ku.1 he0').1
         have h9:es[j]=e0:=(Ku.1 he0').2
         simp[hlt,h9]
        ·simp[hji]
       have:=kh R (x':=.map (kvs.set j (k,d,n)) clock) hb (by simp) hlb (o':=.map (es.modify j fun e=>{e with key:=v,val:=z}) clock) h2 trivial
        (fun E=>⟨blk,cp,_,hlb,cY h2,by rw[hmod];exact wK j (E.relKV h3) (E.rel rk) (E.rel rd) r3⟩)
       refine⟨_,?_,this.1,this.2⟩
       simp only[LU,Hp,und_run hu,Hk,hgo,checkKey_run hk rk,hkey,Instr.keyThatStays,he0',HD,Option.getD_some,hsb,if_true,HH,bL h2 (by simp)]
  | _=>simp at hd
theorem oC(R:Rep Γ O w l h)(t:TypeId):∃v w' l',(Instr.makeMap t none).run P w=.ok v w'∧Rep Γ O w' l' (h++[.map [] 0])∧Ext w l h w' l' (h++[.map [] 0]) ∧
  Rel w' (avs O l' (h++[.map [] 0])) l' (h++[.map [] 0]) (.ref (.mp h.length)) v:=by
 obtain⟨R',E⟩:=b8 R (.map #[] 0) (.map [] 0) 0 (fun _=>⟨w.heap.size,0,#[],by simp,heap_alloc_new w _,by simp[RelKV]⟩)
 refine⟨.map (some w.heap.size),_,_,by simp[Instr.makeMap],R',E,?_⟩
 simp only[Rel,RefRel]
 refine⟨rfl,?_⟩
 simp
end
section
variable {P:Program} {Γ:ae} {O:Nat→Prop} {w:World} {l:Loc} {h:List Blk}
theorem lh(R:Rep Γ O w l h)(o:Obj)(x:Blk)(hx:(∃s p,x=.sit s p)∨(∃m a b c,x=.mit m a b c))
  (hok:Ext w l h (w.alloc o) (l.upd h.length (some (w.heap.size,0))) (h++[x]) →
   BlkOk (w.alloc o) (avs O (l.upd h.length (some (w.heap.size,0))) (h++[x])) (l.upd h.length (some (w.heap.size,0))) (h++[x]) h.length x) :
  ∃l',Rep Γ O (w.alloc o) l' (h++[x])∧Ext w l h (w.alloc o) l' (h++[x])∧Rel (w.alloc o) (avs O l' (h++[x])) l' (h++[x]) (.ref (.it h.length)) (.pointer (some ⟨w.heap.size,0,none⟩)):=by
 obtain⟨R',E⟩:=b8 R o x 0 hok
 refine⟨_,R',E,?_⟩
 simp only[Rel,RefRel]
 refine⟨rfl,?_⟩
 rcases hx with ⟨s,p,rfl⟩|⟨m,a,b,c,rfl⟩<;>simp
theorem qk(R:Rep Γ O w l h){t:TypeId}{x d:D}{y:Value}{h':List Blk}(rx:Rel w (avs O l h) l h x y)(hd:te P h t x=some (d,h')):
  ∃v w' l',(LN t y).run P w=.ok v w'∧Rep Γ O w' l' h'∧Ext w l h w' l' h'∧Rel w' (avs O l' h') l' h' d v:=by
 unfold te at hd
 split at hd
 ·rename_i s hu
  cases hd
  obtain rfl:=ai rx
  obtain⟨l',r1,r2,r3⟩:=lh R (.stringIter s 0) (.sit s 0) (.inl ⟨_,_,rfl⟩) (fun _=>⟨w.heap.size,0,by simp,heap_alloc_new w _⟩)
  exact⟨_,_,l',by simp[LN,und_run hu],r1,r2,r3⟩
 ·rename_i hu
  cases hd
  obtain rfl:=ai rx
  obtain⟨l',r1,r2,r3⟩:=lh R (.mapIter none 0 #[] 0) (.mit none 0 [] 0) (.inr ⟨_,_,_,_,rfl⟩) (fun _=>⟨w.heap.size,0,none,by simp,heap_alloc_new w _,rfl⟩)
  exact⟨_,_,l',by simp[LN,und_run hu],r1,r2,r3⟩
 ·rename_i kt et b hu
  cases hb:h[b]? with
  | none=>simp[hb] at hd
  | some bx =>
   have rx':=rx
   obtain⟨_,hr⟩:=rx
   cases bx<;>simp only[hb,reduceCtorEq,G0,G4] at hd hr
   rename_i kvs clock
   obtain⟨rfl,rfl⟩:=hd
   obtain⟨blk,cp,hlb,rfl⟩:=hr
   obtain⟨blk',cp',es,h1,h2,h3⟩:=R.blk b _ hb
   obtain⟨rfl,rfl⟩:blk=blk'∧cp=cp':=by simpa[hlb] using h1
   have hgo:=bw (P:=P) (o:=.map es clock) h2 (by simp)
   obtain⟨l',r1,r2,r3⟩:=lh R (.mapIter (some blk) clock #[] clock) (.mit (some b) clock [] clock) (.inr ⟨_,_,_,_,rfl⟩)
    (fun E=>⟨w.heap.size,0,some blk,by simp,heap_alloc_new w _,(E.rel rx':Rel _ _ _ _ (.ref (.mp b)) _)⟩)
   exact⟨_,_,l',by simp only[LN,Hp,und_run hu,Hk,hgo,HH,run_newObj,World.alloc_eq],r1,r2,r3⟩
 ·simp at hd
theorem jI{f:Nat→Bool}:∀{kvs:List (D×D×Nat)} {es:List MapEntry},RelKV w (avs O l h) l h kvs es→RelKV w (avs O l h) l h (kvs.filter fun e=>f e.2.2) (es.filter fun e=>f e.born)
 | [],[],_=>by simp[RelKV]
 | (k,d,n)::kvs,e::es,r=>by
  simp only[RelKV] at r
  have ih:=jI (f:=f) r.2.2.2
  simp only[List.filter_cons,r.2.2.1]
  split
  ·simp only[RelKV];exact⟨r.1,r.2.1,r.2.2.1,ih⟩
  ·exact ih
 | [],_::_,r=>by simp[RelKV] at r
 | _::_,[],r=>by simp[RelKV] at r
theorem ql{f:Nat→Bool}:∀{kvs:List (D×D×Nat)} {es:List MapEntry},RelKV w (avs O l h) l h kvs es→(es.any fun e=>f e.born)=(kvs.any fun e=>f e.2.2)
 | [],[],_=>by simp
 | (k,d,n)::kvs,e::es,r=>by simp only[RelKV] at r;simp only[List.any_cons,r.2.2.1,ql r.2.2.2]
 | [],_::_,r=>by simp[RelKV] at r
 | _::_,[],r=>by simp[RelKV] at r
theorem tl(_R:Rep Γ O w l h){b:Nat}{y:Value}{bx:Blk}(rx:Rel w (avs O l h) l h (.ref (.it b)) y)(hb:h[b]? = some bx)(hg:bx ≠ .gone):
  ∃blk cp,l b=some (blk,cp)∧y=.pointer (some ⟨blk,0,none⟩):=by
 obtain⟨_,hr⟩:=rx
 cases bx<;>simp only[hb] at hr<;>first
  | exact absurd rfl hg
  | (obtain⟨blk,cp,h1,h2⟩:=hr;exact⟨blk,cp,h1,h2⟩)
theorem r8(R:Rep Γ O w l h){x d:D}{y:Value}{s:Bool}{t:TypeId}{h':List Blk}(rx:Rel w (avs O l h) l h x y)(hd:zG h s x=some (d,h')):
  ∃v w',(KV y s t).run P w=.ok v w'∧Rep Γ O w' l h'∧Ext w l h w' l h'∧Rel w' (avs O l h') l h' d v:=by
 unfold zG at hd
 split at hd
 case h_2=>simp at hd
 rename_i b
 split at hd
 ·-- a string
  rename_i str pos hb
  obtain⟨blk,cp,hlb,rfl⟩:=tl R rx hb (by simp)
  obtain⟨blk',cp',h1,h2⟩:=R.blk b _ hb
  obtain⟨rfl,rfl⟩:blk=blk'∧cp=cp':=by simpa[hlb] using h1
  have hgo:=bw (P:=P) (o:=.stringIter str pos) h2 (by simp)
  split at hd
  ·rename_i hlt
   simp only[G0,G4] at hd
   obtain⟨rfl,rfl⟩:=hd
   have:=kh R (x':=.sit str (pos+(MZ str pos).2)) hb (by simp) hlb (o':=.stringIter str (pos+(MZ str pos).2)) h2 trivial
    (fun E=>⟨blk,cp,hlb,cY h2⟩)
   refine⟨.tuple #[.bool true,goInt pos,.int .i32 (MZ str pos).1],_,?_,this.1,this.2,?_⟩
   ·simp only[KV,Hp,hgo,Hk,hlt,if_true,bL (P:=P) h2 (by simp),HH]
   ·simp only[Rel];exact⟨_,rfl,rel_lit _ _ _ _ _,rel_lit _ _ _ _ _,rel_lit _ _ _ _ _,trivial⟩
  ·rename_i hlt
   cases hd
   refine⟨.tuple #[.bool false],w,?_,R,J5 _ _ _,?_⟩
   ·simp only[KV,Hp,hgo,Hk,hlt,if_false,HH]
   ·simp only[Rel];exact⟨_,rfl,rel_lit _ _ _ _ _,trivial⟩
 ·-- a nil map
  rename_i a1 a2 a3 hb
  cases hd
  obtain⟨blk,cp,hlb,rfl⟩:=tl R rx hb (by simp)
  obtain⟨blk',cp',mr,h1,h2,h3⟩:=R.blk b _ hb
  obtain⟨rfl,rfl⟩:blk=blk'∧cp=cp':=by simpa[hlb] using h1
  simp only at h3
  subst h3
  have hgo:=bw (P:=P) h2 (by simp)
  refine⟨.tuple #[.bool false],w,?_,R,J5 _ _ _,?_⟩
  ·simp only[KV,Hp,hgo,Hk,HH]
  ·simp only[Rel];exact⟨_,rfl,rel_lit _ _ _ _ _,trivial⟩
 ·-- a map
  rename_i mb since seen st hb
  cases hmb:h[mb]? with
  | none=>simp[hmb] at hd
  | some mx =>
   cases mx<;>simp only[hmb,reduceCtorEq] at hd
   rename_i kvs clock
   obtain⟨blk,cp,hlb,rfl⟩:=tl R rx hb (by simp)
   obtain⟨blk',cp',mr,h1,h2,h3⟩:=R.blk b _ hb
   obtain⟨rfl,rfl⟩:blk=blk'∧cp=cp':=by simpa[hlb] using h1
   have h3':=h3
   obtain⟨_,hr⟩:=h3
   simp only[hmb] at hr
   obtain⟨mblk,mcp,hlm,hmr⟩:=hr
   simp only[M0] at hmr
   subst hmr
   obtain⟨mblk',mcp',es,g1,g2,g3⟩:=R.blk mb _ hmb
   obtain⟨rfl,rfl⟩:mblk=mblk'∧mcp=mcp':=by simpa[hlm] using g1
   have hgo:=bw (P:=P) h2 (by simp)
   have hgm:=bw (P:=P) g2 (by simp)
   have hflt:RelKV w (avs O l h) l h (kvs.filter fun e=>!seen.contains e.2.2) (es.filter fun e=>!seen.toArray.contains e.born).toList:=by
    rw[Array.toList_filter]
    simpa using jI (f:=fun n=>!seen.contains n) g3
   have hlen:=fj _ _ g3
   have hes:es.isEmpty=kvs.isEmpty:=by
    rw[LY];simp only[Array.isEmpty_iff_size_eq_zero,List.isEmpty_iff_length_eq_zero,hlen,IK]
   have hall:(es.all fun e=>Qd (e.born≥st)) = !(kvs.any fun e=>Qd (e.2.2<st)):=by
    rw[←ql (f:=fun n=>Qd (n<st)) g3,←Array.all_toList,List.all_eq_not_any_not]
    congr 1
    congr 1
    funext e
    rw[LY];simp
   split at hd
   ·rename_i hk
    split at hd
    case isFalse=>simp at hd
    rename_i hc
    cases hd
    rw[hk] at hflt
    have he:es.filter (fun e=>!seen.toArray.contains e.born)=#[]:=by
     cases hq:(es.filter (fun e=>!seen.toArray.contains e.born)).toList with
     | nil=>simpa using hq
     | cons a t=>rw[hq] at hflt;simp[RelKV] at hflt
    refine⟨.tuple #[.bool false],w,?_,R,J5 _ _ _,by simp only[Rel];exact⟨_,rfl,rel_lit _ _ _ _ _,trivial⟩⟩
    have hcond:(!seen.toArray.isEmpty&&!es.isEmpty&&es.all (fun e=>Qd (e.born≥st)))=false:=by
     rw[hall,hes,M1]
     cases h1:seen.isEmpty<;>cases h2:kvs.isEmpty<;>simp_all
    simp only[KV,Hp,hgo,hgm,Hk,hcond,he]
    simp[Na]
   ·rename_i k v n hk
    split at hd
    case isFalse=>simp at hd
    rename_i hc
    simp only[G0,G4] at hd
    obtain⟨rfl,rfl⟩:=hd
    simp only[G6,decide_eq_true_eq] at hc
    rw[hk] at hflt
    obtain⟨e,he,rk,rv,hn⟩:∃e:MapEntry,es.filter (fun e=>!seen.toArray.contains e.born)=#[e]∧Rel w (avs O l h) l h k e.key∧Rel w (avs O l h) l h v e.val∧e.born=n:=by
     cases hq:(es.filter (fun e=>!seen.toArray.contains e.born)).toList with
     | nil=>rw[hq] at hflt;simp[RelKV] at hflt
     | cons a t =>
      rw[hq] at hflt
      simp only[RelKV] at hflt
      cases t with
      | nil=>exact⟨a,by apply Array.ext';simpa using hq,hflt.1,hflt.2.1,hflt.2.2.1⟩
      | cons b t=>simp[RelKV] at hflt
    have hcond:(!seen.toArray.isEmpty&&!es.isEmpty&&es.all (fun e=>Qd (e.born≥st)))=false:=by
     rw[hall,M1]
     have hc1:=hc.1
     rw[JH] at hc1
     rcases hc1 with h1|h1
     ·simp[h1]
     ·simp[h1]
    have:=kh R (x':=.mit (some mb) since (seen++[n]) clock) hb (by simp) hlb (o':=.mapIter (some mblk) since (seen.toArray.push e.born) clock) h2 trivial
     (fun E=>⟨blk,cp,some mblk,hlb,by rw[cY h2];simp[hn],(E.rel (O:=O) (d:=.ref (.mp mb)) h3')⟩)
    refine⟨.tuple #[.bool true,e.key,e.val],_,?_,this.1,this.2,?_⟩
    ·have hs:e.born<since:=by rw[hn];exact hc.2
     have hs2:¬since≤e.born:=by omega
     simp only[KV,Hp,hgo,hgm,Hk,hcond,he]
     simp[Na,hs,hs2,bL (P:=P) h2]
    ·simp only[Rel];exact⟨_,rfl,rel_lit _ _ _ _ _,this.2.rel rk,this.2.rel rv,trivial⟩
   ·simp at hd
 ·simp at hd
theorem nd{n:Nat}:∀{kvs:List (D×D×Nat)} {es:List MapEntry},RelKV w (avs O l h) l h kvs es→∀{e:D×D×Nat},kvs.find? (fun e=>e.2.2==n)=some e →
  ∃e',es.find? (fun e=>e.born==n)=some e'∧Rel w (avs O l h) l h e.1 e'.key∧Rel w (avs O l h) l h e.2.1 e'.val
 | [],[],_,_,hf=>by simp at hf
 | (k,d,m)::kvs,e0::es,r,e,hf=>by
  simp only[RelKV] at r
  simp only[List.find?_cons,r.2.2.1] at hf ⊢
  split at hf
  ·cases hf;exact⟨e0,rfl,r.1,r.2.1⟩
  ·exact nd r.2.2.2 hf
 | [],_::_,r,_,_=>by simp[RelKV] at r
 | _::_,[],r,_,_=>by simp[RelKV] at r
theorem qm(R:Rep Γ O w l h){x d:D}{y:Value}(rx:Rel w (avs O l h) l h x y)(hd:m9 h x=some d):
  ∃v,(Instr.entry y).run P w=.ok v w∧Rel w (avs O l h) l h d v:=by
 unfold m9 at hd
 split at hd
 case h_2=>simp at hd
 rename_i b
 split at hd
 case h_2=>simp at hd
 rename_i mb since seen st hb
 cases hmb:h[mb]? with
 | none=>simp[hmb] at hd
 | some mx =>
  cases mx<;>simp only[hmb,reduceCtorEq] at hd
  rename_i kvs clock
  cases hl:seen.getLast? with
  | none=>simp[hl] at hd
  | some n =>
   simp only[hl] at hd
   split at hd
   case isFalse=>simp at hd
   rename_i hcl
   subst hcl
   simp only[Ha] at hd
   obtain⟨e,hf,rfl⟩:=hd
   obtain⟨blk,cp,hlb,rfl⟩:=tl R rx hb (by simp)
   obtain⟨blk',cp',mr,h1,h2,h3⟩:=R.blk b _ hb
   obtain⟨rfl,rfl⟩:blk=blk'∧cp=cp':=by simpa[hlb] using h1
   obtain⟨_,hr⟩:=h3
   simp only[hmb] at hr
   obtain⟨mblk,mcp,hlm,hmr⟩:=hr
   simp only[M0] at hmr
   subst hmr
   obtain⟨mblk',mcp',es,g1,g2,g3⟩:=R.blk mb _ hmb
   obtain⟨rfl,rfl⟩:mblk=mblk'∧mcp=mcp':=by simpa[hlm] using g1
   have hgo:=bw (P:=P) h2 (by simp)
   have hgm:=bw (P:=P) g2 (by simp)
   obtain⟨e',hf',r1,r2⟩:=nd g3 hf
   refine⟨.tuple #[e'.key,e'.val],?_,by simp only[Rel];exact⟨_,rfl,r1,r2,trivial⟩⟩
   have hback:seen.toArray.back? = some n:=by rw[List.back?_toArray];exact hl
   have hff:es.find? (fun e=>e.born==n)=some e':=by rw[←Array.find?_toList];exact hf'
   simp only[Instr.entry,Hp,hgo,hgm,Hk,hback]
   simp[hff]
end
def CK(P:Program)(eq:TypeId→D→D→Option Bool)(xs ys:List D):List Field→Option Bool
 | []=>some true
 | f::fs =>
  if f.name = "_" then CK P eq xs ys fs else
  match cm P f.type (xs.drop f.offset),cm P f.type (ys.drop f.offset) with
  | some a,some b=>match eq f.type a b,CK P eq xs ys fs with
   | some p,some q=>some (p&&q)
   | _,_=>none
  | _,_=>none
def GJ(P:Program)(eq:D→D→Option Bool)(e:TypeId)(sz:Nat)(xs ys:List D):Nat→Nat→Option Bool
 | 0,_=>some true
 | k+1,i =>
  match cm P e (xs.drop (i*sz)),cm P e (ys.drop (i*sz)) with
  | some a,some b=>match eq a b,GJ P eq e sz xs ys k (i+1) with
   | some p,some q=>some (p&&q)
   | _,_=>none
  | _,_=>none
def eqT(P:Program):Nat→TypeId→D→D→Option Bool
 | 0,_,_,_=>none
 | n+1,t,x,y =>
  match P.underlying t with
  | some (.int _)=>match x,y with
   | .p (.v (.int k a)),.p (.v (.int k' b))=>if k=k' then some (a==b) else none
   | _,_=>none
  | some .bool=>match x,y with
   | .p (.v (.bool a)),.p (.v (.bool b))=>some (a==b)
   | _,_=>none
  | some .string=>match x,y with
   | .p (.v (.string a)),.p (.v (.string b))=>some (eqS a b)
   | _,_=>none
  | some (.struct fields)=>match x,y with
   | .agg xs,.agg ys=>if P.stoodInHeld t then none else CK P (eqT P n) xs ys fields.toList
   | _,_=>none
  | some (.array len e)=>match x,y,szOf P e with
   | .agg xs,.agg ys,some sz=>GJ P (eqT P n e) e sz xs ys len 0
   | _,_,_=>none
  | _=>none
def wM(P:Program)(op:BinOp)(t:TypeId)(x y:D):Option D :=
 if P.eqGuardType P.depth t then none else
 match op,x,y with
 | .eql,.agg xs,.agg ys=>(eqT P 12 t (.agg xs) (.agg ys)).map fun b=>lit (.bool b)
 | .neq,.agg xs,.agg ys=>(eqT P 12 t (.agg xs) (.agg ys)).map fun b=>lit (.bool (!b))
 | .eql,.p (.v (.bool a)),.p (.v (.bool b))=>(eqT P 2 t (.p (.v (.bool a))) (.p (.v (.bool b)))).map fun b=>lit (.bool b)
 | .neq,.p (.v (.bool a)),.p (.v (.bool b))=>(eqT P 2 t (.p (.v (.bool a))) (.p (.v (.bool b)))).map fun b=>lit (.bool (!b))
 | _,_,_=>none
section
variable {P:Program} {Γ:ae} {O:Nat→Prop} {w:World} {l:Loc} {h:List Blk}
theorem jh{eq:TypeId→D→D→Option Bool}{d:Nat}(he:∀t x y a b r,Rel w (avs O l h) l h x a→Rel w (avs O l h) l h y b→eq t x y=some r→(KC d t a b).run P w=.ok r w)
  {xs ys:List D} {vs us:Array Value} (rx:RelL w (avs O l h) l h xs vs.toList) (ry:RelL w (avs O l h) l h ys us.toList) :
  ∀{fs:List Field} {r:Bool},CK P eq xs ys fs=some r→(Nl d vs us fs).run P w=.ok r w
 | [],r,hf=>by simp only[CK,G0] at hf;subst hf;simp[Nl]
 | f::fs,r,hf=>by
  simp only[CK] at hf
  simp only[Nl]
  split at hf
  ·rename_i hn
   simp only[hn,ne_eq,not_true_eq_false,if_false]
   exact jh he rx ry hf
  ·rename_i hn
   cases ha:cm P f.type (xs.drop f.offset) with
   | none=>simp[ha] at hf
   | some a =>
    cases hb:cm P f.type (ys.drop f.offset) with
    | none=>simp[ha,hb] at hf
    | some b =>
     simp only[ha,hb] at hf
     cases hp:eq f.type a b with
     | none=>simp[hp] at hf
     | some p =>
      cases hq:CK P eq xs ys fs with
      | none=>simp[hp,hq] at hf
      | some q =>
       simp only[hp,hq,G0] at hf
       obtain⟨va,h1,h2⟩:=db (P:=P) rx ha
       obtain⟨vb,h3,h4⟩:=db (P:=P) ry hb
       have h5:=he _ _ _ _ _ _ h2 h4 hp
       have h6:=jh he rx ry hq
       simp only[ne_eq,hn,not_false_eq_true,if_true,Hp,h1,h3,h5,Hk,Sem.run_ite,HH,h6]
       subst hf
       cases p<;>simp
theorem nf{eq:D→D→Option Bool}{d:Nat}{e:TypeId}{sz:Nat}(he:∀x y a b r,Rel w (avs O l h) l h x a→Rel w (avs O l h) l h y b→eq x y=some r→(KC d e a b).run P w=.ok r w)
  {xs ys:List D} {vs us:Array Value} (rx:RelL w (avs O l h) l h xs vs.toList) (ry:RelL w (avs O l h) l h ys us.toList) :
  ∀(k i:Nat) {r:Bool},GJ P eq e sz xs ys k i=some r →
   (forIn (List.range' i k) ((none,()):Option Bool×Unit) (fun i _=>do
     let a ←part e vs (i*sz)
     let b ←part e us (i*sz)
     let r ←KC d e a b
     if (!r)=true then pure (ForInStep.done (some false,())) else pure (ForInStep.yield (none,())):Nat→Option Bool×Unit→Sem (ForInStep (Option Bool×Unit)))).run P w=.ok (if r then (none,()) else (some false,())) w
 | 0,i,r,hf=>by simp only[GJ,G0] at hf;subst hf;simp
 | k+1,i,r,hf=>by
  simp only[GJ] at hf
  cases ha:cm P e (xs.drop (i*sz)) with
  | none=>simp[ha] at hf
  | some a =>
   cases hb:cm P e (ys.drop (i*sz)) with
   | none=>simp[ha,hb] at hf
   | some b =>
    simp only[ha,hb] at hf
    cases hp:eq a b with
    | none=>simp[hp] at hf
    | some p =>
     cases hq:GJ P eq e sz xs ys k (i+1) with
     | none=>simp[hp,hq] at hf
     | some q =>
      simp only[hp,hq,G0] at hf
      obtain⟨va,h1,h2⟩:=db (P:=P) rx ha
      obtain⟨vb,h3,h4⟩:=db (P:=P) ry hb
      have h5:=he _ _ _ _ _ h2 h4 hp
      have h6:=nf he rx ry k (i+1) hq
      simp only[List.range'_succ,List.forIn_cons,Hp,h1,h3,h5,Hk,Sem.run_ite,HH]
      subst hf
      cases p
      ·simp
      ·simpa using h6
theorem dZ:∀(n d:Nat) (t:TypeId) (x y:D) (a b:Value) (r:Bool),n≤d→Rel w (avs O l h) l h x a→Rel w (avs O l h) l h y b→eqT P n t x y=some r→(KC d t a b).run P w=.ok r w
 | 0,_,_,_,_,_,_,_,_,_,_,hf=>by simp[eqT] at hf
 | n+1,0,_,_,_,_,_,_,hd,_,_,_=>by omega
 | n+1,d+1,t,x,y,a,b,r,hd,rx,ry,hf=>by
  simp only[eqT] at hf
  cases hu:P.underlying t with
  | none=>simp[hu] at hf
  | some u =>
   cases u<;>simp only[hu,reduceCtorEq] at hf
   case int k0 =>
    split at hf
    ·obtain rfl:=ai rx
     obtain rfl:=ai ry
     split at hf
     ·rename_i hk;subst hk
      simp only[G0] at hf;subst hf
      exact run_equalIn_int w d t _ _ _ _ hu
     ·simp at hf
    ·simp at hf
   case bool =>
    split at hf
    ·obtain rfl:=ai rx
     obtain rfl:=ai ry
     simp only[G0] at hf;subst hf
     exact run_equalIn_bool' w d t _ _ hu
    ·simp at hf
   case string =>
    split at hf
    ·obtain rfl:=ai rx
     obtain rfl:=ai ry
     simp only[G0] at hf;subst hf
     rw[run_equalIn_string w d t _ _ hu,eqS_eq]
    ·simp at hf
   case struct fields =>
    split at hf
    ·rename_i xs ys
     split at hf
     ·simp at hf
     ·rename_i hs
      simp only[Rel] at rx ry
      obtain⟨vs,rfl,rx⟩:=rx
      obtain⟨us,rfl,ry⟩:=ry
      have hfo:P.fieldsOf t=fields:=by simp[Program.fieldsOf,hu]
      rw[run_equalIn_struct w d t vs us (by rw[hfo];exact hu) (by simpa using hs),hfo]
      exact jh (fun t x y a b r h1 h2 h3=>dZ n d t x y a b r (by omega) h1 h2 h3) rx ry hf
    ·simp at hf
   case array len e =>
    split at hf
    ·rename_i xs ys sz hs
     simp only[Rel] at rx ry
     obtain⟨vs,rfl,rx⟩:=rx
     obtain⟨us,rfl,ry⟩:=ry
     have:=nf (P:=P) (d:=d) (fun x y a b r h1 h2 h3=>dZ n d e x y a b r (by omega) h1 h2 h3) rx ry len 0 hf
     simp only[KC,Hp,und_run hu,Hk,szOf_run hs,MD.forIn_eq_forIn_range',MD.size,Ko,Nat.add_one_sub_one,Nat.div_one]
     rw[this]
     cases r<;>simp
    ·simp at hf
theorem qn{op:BinOp}{t:TypeId}{xo yo:Operand}{x y d:D}{a b:Value}(rx:Rel w (avs O l h) l h x a)(ry:Rel w (avs O l h) l h y b)(hd:wM P op t x y=some d):
  ∃v,(do eqGuard op t xo yo a b;binOp op t a b:Sem Value).run P w=.ok v w∧Rel w (avs O l h) l h d v:=by
 unfold wM at hd
 split at hd
 ·simp at hd
 ·rename_i hg
  have hm:P.eqGuardType P.depth t=false:=by simpa using hg
  split at hd
  ·rename_i xs ys
   simp only[Ha] at hd
   obtain⟨r,h1,rfl⟩:=hd
   have h2:=dZ (P:=P) 12 10000 t _ _ a b r (by omega) rx ry h1
   simp only[Rel] at rx ry
   obtain⟨vs,rfl,_⟩:=rx
   obtain⟨us,rfl,_⟩:=ry
   exact⟨_,by simp only[Hp,run_eqGuard_agg w .eql t xo yo vs us hm,Hk,run_eql_struct,h2],rel_lit _ _ _ _ _⟩
  ·rename_i xs ys
   simp only[Ha] at hd
   obtain⟨r,h1,rfl⟩:=hd
   have h2:=dZ (P:=P) 12 10000 t _ _ a b r (by omega) rx ry h1
   simp only[Rel] at rx ry
   obtain⟨vs,rfl,_⟩:=rx
   obtain⟨us,rfl,_⟩:=ry
   exact⟨_,by simp only[Hp,run_eqGuard_agg w .neq t xo yo vs us hm,Hk,run_neq_struct,h2],rel_lit _ _ _ _ _⟩
  ·rename_i p q
   simp only[Ha] at hd
   obtain⟨r,h1,rfl⟩:=hd
   have h2:=dZ (P:=P) 2 10000 t _ _ a b r (by omega) rx ry h1
   obtain rfl:=ai rx
   obtain rfl:=ai ry
   refine⟨.bool r,?_,rel_lit _ _ _ _ _⟩
   simp only[eqGuard,binOp,Op.equal,Op.maxDepth]
   simp[h2]
  ·rename_i p q
   simp only[Ha] at hd
   obtain⟨r,h1,rfl⟩:=hd
   have h2:=dZ (P:=P) 2 10000 t _ _ a b r (by omega) rx ry h1
   obtain rfl:=ai rx
   obtain rfl:=ai ry
   refine⟨.bool (!r),?_,rel_lit _ _ _ _ _⟩
   simp only[eqGuard,binOp,Op.equal,Op.maxDepth]
   simp[h2]
  ·simp at hd
end
mutual
def r9:D→Option Value
 | .p (.v v)=>some v
 | .agg cs=>(wN cs).map fun vs=>.agg vs.toArray
 | _=>none
def wN:List D→Option (List Value)
 | []=>some []
 | d::ds=>match r9 d,wN ds with
  | some v,some vs=>some (v::vs)
  | _,_=>none
end
def sa:Value→D
 | .agg cs=>.agg (cs.toList.map lit)
 | v=>lit v
def sc(P:Program)(t:TypeId):Option Bool:=(P.underlying t).map fun d=>match d with
 | .interface _=>true
 | _=>false
def oD(P:Program)(ty:TypeId)(x:D):Option D:=match sc P ty,r9 x with
 | some false,some v=>some (lit (.iface ty v))
 | some false,none=>some (.fn (.yield ty) [] [x])
 | _,_=>none
def sd(P:Program)(T:TypeId)(ok:Bool)(x:D):Option D:=match sc P T,x with
 | some false,.p (.v (.iface t v))=>if t=T then some (if ok then .tup [sa v,lit (.bool true)] else sa v) else if ok then (fd P T).map fun z=>.tup [sa z,lit (.bool false)] else none
 | some false,.p (.v .nilIface)=>if ok then (fd P T).map fun z=>.tup [sa z,lit (.bool false)] else none
 | some false,.fn (.yield t) [] [d]=>if t=T then some (if ok then .tup [d,lit (.bool true)] else d) else if ok then (fd P T).map fun z=>.tup [sa z,lit (.bool false)] else none
 | _,_=>none
def BW:D→Option Bool
 | .fn (.yield _) _ _=>some false
 | .p (.v (.iface _ _))=>some false
 | .p (.v .nilIface)=>some true
 | _=>none
def wO:Operand→Bool
 | .const .nilIface=>true
 | _=>false
def oE(P:Program)(op:BinOp)(ty:TypeId)(y:Operand)(x:D):Option D:=match wO y,sc P ty,BW x with
 | true,some true,some b=>match op with
  | .eql=>some (lit (.bool b))
  | .neq=>some (lit (.bool (!b)))
  | _=>none
 | _,_,_=>none
section
variable {P:Program} {Γ:ae} {O:Nat→Prop} {w:World} {l:Loc} {h:List Blk} {av:Nat→Prop}
mutual
theorem ji:∀{d:D} {v y:Value},r9 d=some v→Rel w av l h d y→y=v
 | .p (.v _),_,_,hv,r=>by
  simp only[r9,G0] at hv
  subst hv
  simpa[Rel,RelP] using r
 | .p (.sl _),_,_,hv,_=>by simp[r9] at hv
 | .agg cs,v,y,hv,r=>by
  simp only[r9,Ha] at hv
  obtain⟨vs,h1,rfl⟩:=hv
  simp only[Rel] at r
  obtain⟨us,rfl,r⟩:=r
  rw[←li h1 r]
 | .any,_,_,hv,_=>by simp[r9] at hv
 | .ref _,_,_,hv,_=>by simp[r9] at hv
 | .ep _,_,_,hv,_=>by simp[r9] at hv
 | .csl _,_,_,hv,_=>by simp[r9] at hv
 | .fn _ _ _,_,_,hv,_=>by simp[r9] at hv
 | .tup _,_,_,hv,_=>by simp[r9] at hv
 | .grd _ _,_,_,hv,_=>by simp[r9] at hv
theorem li:∀{ds:List D} {vs ys:List Value},wN ds=some vs→RelL w av l h ds ys→ys=vs
 | [],vs,ys,hv,r=>by
  simp only[wN,G0] at hv
  subst hv
  cases ys<;>simp_all[RelL]
 | d::ds,vs,ys,hv,r=>by
  simp only[wN] at hv
  split at hv
  ·rename_i v us h1 h2
   simp only[G0] at hv
   subst hv
   cases ys with
   | nil=>simp[RelL] at r
   | cons y ys =>
    simp only[RelL] at r
    rw[ji h1 r.1,li h2 r.2]
  ·simp at hv
end
theorem ng:∀ys:List Value,RelL w av l h (ys.map lit) ys
 | []=>by simp[RelL]
 | y::ys=>by simp only[Il,RelL];exact⟨by simp[Rel,RelP],ng ys⟩
theorem fk(v:Value):Rel w av l h (sa v) v:=by
 unfold sa
 split
 ·simp only[Rel]
  exact⟨_,rfl,ng _⟩
 ·simp[Rel,RelP]
theorem underlying_run{t:TypeId}{d:TypeDesc}(hu:P.underlying t=some d):(underlying t).run P w=.ok d w:=by
 simp[underlying,Hp,program,Sem.run,hu,IC]
theorem di{t:TypeId}(hi:sc P t=some false):∃d,P.underlying t=some d∧∀ms,d ≠ .interface ms:=by
 unfold sc at hi
 cases hu:P.underlying t with
 | none=>simp[hu] at hi
 | some d =>
  refine⟨d,rfl,fun ms he=>?_⟩
  subst he
  simp[hu] at hi
theorem vj{t:TypeId}(hi:sc P t=some true):∃ms,P.underlying t=some (.interface ms):=by
 unfold sc at hi
 cases hu:P.underlying t with
 | none=>simp[hu] at hi
 | some d =>
  simp only[hu,HD,G0] at hi
  cases d<;>simp_all
theorem mP{ty:TypeId}{x d:D}{y:Value}(rx:Rel w av l h x y)(hd:oD P ty x=some d):∃v,(Lk ty y).run P w=.ok v w∧Rel w av l h d v:=by
 unfold oD at hd
 split at hd
 ·rename_i v h1 h2
  cases hd
  obtain⟨td,hu,hn⟩:=di h1
  obtain rfl:=ji h2 rx
  refine⟨.iface ty y,?_,by simp[Rel,RelP]⟩
  simp only[Lk,Hp,underlying_run hu,Hk]
  cases td<;>first|rfl|exact absurd rfl (hn _)
 ·rename_i h1 h2
  cases hd
  obtain⟨td,hu,hn⟩:=di h1
  refine⟨.iface ty y,?_,?_⟩
  ·simp only[Lk,Hp,underlying_run hu,Hk]
   cases td<;>first|rfl|exact absurd rfl (hn _)
  ·simp only[Rel]
   exact⟨#[],#[y],⟨rfl,y,rfl,rfl⟩,by simp[RelL],by simp only[RelL];exact⟨rx,trivial⟩⟩
 ·simp at hd
theorem oG{T xT:TypeId}{ok:Bool}{x d:D}{y:Value}(rx:Rel w av l h x y)(hd:sd P T ok x=some d):∃v,(JN y xT T ok).run P w=.ok v w∧Rel w av l h d v:=by
 unfold sd at hd
 split at hd
 ·rename_i t v h1
  obtain⟨td,hu,hn⟩:=di h1
  simp only[Rel,RelP] at rx
  subst rx
  split at hd
  ·rename_i ht
   subst ht
   refine⟨if ok then .tuple #[v,.bool true] else v,?_,?_⟩
   ·simp only[JN,Hp,underlying_run hu,Hk]
    cases td<;>first|(simp;done)|exact absurd rfl (hn _)
   ·cases ok
    ·simp only[HO,if_false,G0] at hd ⊢
     subst hd
     exact fk v
    ·simp only[if_true,G0] at hd ⊢
     subst hd
     simp only[Rel]
     exact⟨_,rfl,by simp only[RelL];exact⟨fk v,by simp[Rel,RelP],trivial⟩⟩
  ·rename_i ht
   split at hd
   ·rename_i hok
    simp only[Ha] at hd
    obtain⟨z,hz,rfl⟩:=hd
    refine⟨.tuple #[z,.bool false],?_,?_⟩
    ·simp only[JN,Hp,underlying_run hu,Hk]
     cases td<;>first|(simp[ht,hok,zeroV_run hz,IC];done)|exact absurd rfl (hn _)
    ·simp only[Rel]
     exact⟨_,rfl,by simp only[RelL];exact⟨fk z,by simp[Rel,RelP],trivial⟩⟩
   ·simp at hd
 ·rename_i h1
  obtain⟨td,hu,hn⟩:=di h1
  simp only[Rel,RelP] at rx
  subst rx
  split at hd
  ·rename_i hok
   simp only[Ha] at hd
   obtain⟨z,hz,rfl⟩:=hd
   refine⟨.tuple #[z,.bool false],?_,?_⟩
   ·simp only[JN,Hp,underlying_run hu,Hk]
    cases td<;>first|(simp[hok,zeroV_run hz,IC];done)|exact absurd rfl (hn _)
   ·simp only[Rel]
    exact⟨_,rfl,by simp only[RelL];exact⟨fk z,by simp[Rel,RelP],trivial⟩⟩
  ·simp at hd
 ·rename_i t d0 h1
  obtain⟨td,hu,hn⟩:=di h1
  simp only[Rel] at rx
  obtain⟨a,c,⟨rfl,v,rfl,rfl⟩,_,rx⟩:=rx
  simp only[RelL,and_true] at rx
  split at hd
  ·rename_i ht
   subst ht
   refine⟨if ok then .tuple #[v,.bool true] else v,?_,?_⟩
   ·simp only[JN,Hp,underlying_run hu,Hk]
    cases td<;>first|(simp;done)|exact absurd rfl (hn _)
   ·cases ok
    ·simp only[HO,if_false,G0] at hd ⊢
     subst hd
     exact rx
    ·simp only[if_true,G0] at hd ⊢
     subst hd
     simp only[Rel]
     exact⟨_,rfl,by simp only[RelL];exact⟨rx,by simp[Rel,RelP],trivial⟩⟩
  ·rename_i ht
   split at hd
   ·rename_i hok
    simp only[Ha] at hd
    obtain⟨z,hz,rfl⟩:=hd
    refine⟨.tuple #[z,.bool false],?_,?_⟩
    ·simp only[JN,Hp,underlying_run hu,Hk]
     cases td<;>first|(simp[ht,hok,zeroV_run hz,IC];done)|exact absurd rfl (hn _)
    ·simp only[Rel]
     exact⟨_,rfl,by simp only[RelL];exact⟨fk z,by simp[Rel,RelP],trivial⟩⟩
   ·simp at hd
 ·simp at hd
theorem wP{y:Operand}(hy:wO y=true):y=.const .nilIface:=by
 unfold wO at hy
 split at hy
 ·rfl
 ·simp at hy
theorem wQ{t:TypeId}{ms:Array (String×TypeId)}(hu:P.underlying t=some (.interface ms)){x:Value}{b:Bool}(hx:(∃u v,x=.iface u v∧b=false)∨(x=.nilIface∧b=true)):(Op.equal t x .nilIface).run P w=.ok b w:=by
 have key:∀n,(KC (n+1) t x .nilIface).run P w=.ok b w:=by
  intro n
  rcases hx with ⟨u,v,rfl,rfl⟩|⟨rfl,rfl⟩<;>simp only[KC,Hp,underlying_run hu,Hk,HH]
 exact key 9999
theorem oH{op:BinOp}{t:TypeId}{xo yo:Operand}{x d:D}{a:Value}{b:Value}(rx:Rel w av l h x a)(hb:yo=.const .nilIface→b=.nilIface)(hd:oE P op t yo x=some d):
  ∃v,(do eqGuard op t xo yo a b;binOp op t a b:Sem Value).run P w=.ok v w∧Rel w av l h d v:=by
 unfold oE at hd
 split at hd
 ·rename_i b0 h1 h2 h3
  obtain rfl:=wP h1
  obtain rfl:=hb rfl
  obtain⟨ms,hu⟩:=vj h2
  have hx:(∃u v,a=.iface u v∧b0=false)∨(a=.nilIface∧b0=true):=by
   unfold BW at h3
   split at h3
   ·cases h3
    simp only[Rel] at rx
    obtain⟨_,_,⟨_,v,_,rfl⟩,_⟩:=rx
    exact .inl ⟨_,_,rfl,rfl⟩
   ·cases h3
    simp only[Rel,RelP] at rx
    exact .inl ⟨_,_,rx,rfl⟩
   ·cases h3
    simp only[Rel,RelP] at rx
    exact .inr ⟨rx,rfl⟩
   ·simp at h3
  have he:=wQ (w:=w) hu hx
  have hg:(eqGuard op t xo (.const .nilIface) a .nilIface).run P w=.ok () w:=by
   unfold eqGuard
   rcases hx with ⟨u,v,rfl,rfl⟩|⟨rfl,rfl⟩
   ·cases op<;>simp
   ·cases op<;>simp
  split at hd
  ·cases hd
   refine⟨.bool b0,?_,by simp[Rel,RelP]⟩
   rw[Hp,hg,Hk]
   rcases hx with ⟨u,v,rfl,rfl⟩|⟨rfl,rfl⟩<;>simp only[binOp,Hp,he,Hk,HH]
  ·cases hd
   refine⟨.bool (!b0),?_,by simp[Rel,RelP]⟩
   rw[Hp,hg,Hk]
   rcases hx with ⟨u,v,rfl,rfl⟩|⟨rfl,rfl⟩<;>simp only[binOp,Hp,he,Hk,HH]
  ·simp at hd
 ·simp at hd
end
def se(P:Program)(h:List Blk)(t:TypeId)(x s:D):Option (Bool×D×List Blk) :=
 match cn P t,x with
 | some e,.ref (.av b off n sz)=>match szOf P e,rowsD h s,h[b]? with
  | some sz',some rows,some (.var cs)=>match Qd (sz'=sz∧rows.length≤n∧off+rows.length*sz≤cs.length)&&rows.all (rowOk sz) with
   | true=>some (true,lit (.int .i64 rows.length),h.set b (.var (aF cs off rows.flatten)))
   | false=>none
  | _,_,_=>none
 | _,_=>none
section
variable {P:Program} {Γ:ae} {O:Nat→Prop} {w:World} {l:Loc} {h:List Blk}
theorem oI(R:Rep Γ O w l h){t tx ty:TypeId}{ts:List TypeId}{x s d:D}{yx ys:Value}{h':List Blk}(rx:Rel w (avs O l h) l h x yx)(rs:Rel w (avs O l h) l h s ys)
  (hd:se P h t x s=some (true,d,h')) :
  ∃v w' l',(KD (t::tx::ts).toArray ty #[yx,ys]).run P w=.ok v w'∧Rep Γ O w' l' h'∧Ext w l h w' l' h'∧Rel w' (avs O l' h') l' h' d v:=by
 unfold se at hd
 split at hd
 case h_2=>simp at hd
 rename_i e b off n sz he
 split at hd
 case h_2=>simp at hd
 rename_i sz' rows cs hsz hrw hb
 split at hd
 case h_2=>simp at hd
 rename_i hc
 simp only[G6,decide_eq_true_eq] at hc
 obtain⟨⟨rfl,hn,hlen⟩,hall⟩:=hc
 simp only[G0,G4,true_and] at hd
 obtain⟨rfl,rfl⟩:=hd
 obtain⟨g1,hrr⟩:=rx
 simp only[hb] at hrr
 obtain⟨blk,cp,c2,hlb,rfl,hnc⟩:=hrr
 have hro:∀r∈rows,r.length=sz'∧r.all D.one=true:=by
  intro r hr
  have:=Hs.1 hall r hr
  unfold rowOk at this
  simpa using this
 obtain⟨k0,us,k1,k2⟩:=bE (P:=P) (size:=sz') R rs hrw (fun r hr=>(hro r hr).1)
 obtain⟨blk',cp',c,T,h3,h4,h5⟩:=R.blk b _ hb
 obtain⟨rfl,rfl⟩:blk=blk'∧cp=cp':=by simpa[hlb] using h3
 have h1:∀v∈us,v.oneCell'=true:=gw k2 (by
  rw[Hs]
  intro d hd
  obtain⟨r,hr,hdr⟩:=List.mem_flatten.1 hd
  exact Hs.1 (hro r hr).2 d hdr)
 have hul:us.length=rows.length*sz':=by rw[←k2.length,ah (fun r hr=>(hro r hr).1)]
 have hcl:=h5.length
 simp only[IK] at hcl
 obtain⟨w',c',s1,s2,s3,s4,s5,s6⟩:=br (P:=P) (off:=off) us 0 w c h4 (by simp) (by omega) h1
 rw[Nat.add_zero] at s5
 have:=R.step (w':=w') (l':=l) (h':=h.set b (.var (aF cs off rows.flatten))) b (.var (aF cs off rows.flatten)) (by omega) s6 (fun i hi=>bj _ _ hi) (aP hb) (fun _ _=>rfl)
  (fun z hz=>by rw[hb] at hz;cases hz;exact⟨trivial,fun _=>rfl⟩)
  (fun k hk hno=>s3 k (fun e=>hno _ cp hb (by simp) (by rw[hlb,e])))
  (fun k cc hk=>.inl ⟨_,cc,hb,by simp,hk⟩)
  (fun E=>⟨blk,cp,c',T,hlb,s4,by rw[s5];exact(E.relL h5).splice off (E.relL k2)⟩)
 refine⟨goInt rows.length,w',l,?_,this.1,this.2,by simp[goInt,Rel,RelP]⟩
 have hnm:Nat.min rows.length n=rows.length:=Nat.min_eq_left hn
 have s1':(storeCells ⟨blk,off,none⟩ us).run P w=.ok () w':=s1
 simp[KD,und_run (bk he),szOf_run hsz,k0,hnm,k1,s1']
end
def cS(h:List Blk):D→Option D
 | .ref r=>if mJ h r then some (.ref r) else none
 | .ep cs=>some (.ep cs)
 | .fn (.func f) a c=>some (.fn (.func f) a c)
 | .p (.v (.func (.func f) a c))=>some (.p (.v (.func (.func f) a c)))
 | _=>none
def keep(h:List Blk)(d:D):Bool×D×List Blk:=(true,d,h)
def keepB(h:List Blk)(r:Bool×D):Bool×D×List Blk:=(r.1,r.2,h)
def fR(h:List Blk):Bool×D×List Blk:=(true,.any,h)
def eW(h:List Blk)(cs:List D):Bool×D×List Blk:=(true,.ref (.ptr h.length 0),h++[.var cs])
def tm(P:Program)(h:List Blk)(t:TypeId)(x s:D):Option (Bool×D×List Blk):=match zL P h t x s with
 | some r=>some r
 | none=>se P h t x s
def builtinD(P:Program)(h:List Blk)(b:Builtin)(ts:List TypeId)(args:List D):Option (Bool×D×List Blk) :=
 match b,ts,args with
 | .append,[t,tx],[s,x]=>ow P h t tx s x
 | .copy,t::_::_,[x,s]=>tm P h t x s
 | .clear,t::_,[x]=>wG P h t x
 | .len,t::_,[x]=>(jb P h t x).map (keep h)
 | .max,_,x::xs=>(jc true x xs).map (keep h)
 | .min,_,x::xs=>(jc false x xs).map (keep h)
 | _,_,_=>none
def mkFnD(f:Fn)(a c:List D):Option D:=match f with
 | .func k=>some (.fn (.func k) a c)
 | _=>none
def opSem(P:Program)(Γ:ae)(t:List D)(h:List Blk)(o:Op):Option (Bool×D×List Blk) :=
 match o with
 | .move x | .assign x=>some (true,evalD Γ t x,h)
 | .pick c a b=>(pickD (evalD Γ t c) (evalD Γ t a) (evalD Γ t b)).map (keepB h)
 | .alloc e=>(cP P e).map (eW h)
 | .box _ x=>(evalD Γ t x).cells.map (eW h)
 | .build ty ps=>(wy P ty (ps.toList.map fun p=>(p.1,evalD Γ t p.2))).map (keep h)
 | .buildSlice ty n ps=>(dg P h ty n (ps.toList.map fun p=>(p.1,evalD Γ t p.2))).map fun r=>(true,r.1,r.2)
 | .load ty a=>(aD P h ty (evalD Γ t a)).map (keep h)
 | .store ty a x=>(aw P h ty (evalD Γ t a) (evalD Γ t x)).map fR
 | .nilCheck x=>(cS h (evalD Γ t x)).map (keep h)
 | .binOp op ty x y _=>match binD op (evalD Γ t x) (evalD Γ t y) with
  | some r=>some (keepB h r)
  | none=>match oE P op ty y (evalD Γ t x) with
   | some d=>some (keep h d)
   | none=>(wM P op ty (evalD Γ t x) (evalD Γ t y)).map (keep h)
 | .makeInterface ty x=>(oD P ty (evalD Γ t x)).map (keep h)
 | .typeAssert x _ T ok=>(sd P T ok (evalD Γ t x)).map (keep h)
 | .unOp op _ x=>(unD op (evalD Γ t x)).map (keep h)
 | .convert s d x=>(CI P s d (evalD Γ t x)).map (keep h)
 | .makeFunc f a c=>(mkFnD f (a.toList.map (evalD Γ t)) (c.toList.map (evalD Γ t))).map (keep h)
 | .makeMap _ none=>some (true,.ref (.mp h.length),h++[.map [] 0])
 | .makeSlice ty n c=>match zF n c with
  | true=>eo P h ty (evalD Γ t n) (evalD Γ t c)
  | false=>u5 P h ty (evalD Γ t n) (evalD Γ t c)
 | .slice ty x lo hi mx=>(cW P h ty (evalD Γ t x) (lo.map (evalD Γ t)) (hi.map (evalD Γ t)) (mx.map (evalD Γ t))).map (keepB h)
 | .fieldAddr s x f=>(dW P h s f (evalD Γ t x)).map (keep h)
 | .field s x f=>(sZ P s f (evalD Γ t x)).map (keep h)
 | .indexAddr ty x i=>(aJ P h ty (evalD Γ t x) (evalD Γ t i)).map (keepB h)
 | .index ty x i=>(mY P ty (evalD Γ t x) (evalD Γ t i)).map (keepB h)
 | .lookup ty x k ok=>(aX P h ty (evalD Γ t x) (evalD Γ t k) ok).map (keep h)
 | .mapUpdate ty m k x | .insert ty m k x=>(fO P h ty (evalD Γ t m) (evalD Γ t k) (evalD Γ t x)).map fR
 | .range ty x=>(te P h ty (evalD Γ t x)).map fun r=>(true,r.1,r.2)
 | .next it s=>(zG h s (evalD Γ t it)).map fun r=>(true,r.1,r.2)
 | .entry it=>(m9 h (evalD Γ t it)).map (keep h)
 | .extract x i=>match evalD Γ t x with
  | .tup ds=>ds[i]?.map (keep h)
  | _=>none
 | .call {callee:=.builtin b,args,argTypes}=>builtinD P h b argTypes.toList (args.toList.map (evalD Γ t))
 | _=>none
section
variable {P:Program} {Γ:ae} {O:Nat→Prop} {w:World} {l:Loc} {h:List Blk}
def GK(P:Program)(Γ:ae)(O:Nat→Prop)(w:World)(l:Loc)(h:List Blk)(o:Oper)(a:Act)(d:D)(h':List Blk):Prop :=
 ∃nx v w' l',(execOp a.eval o).run P w=.ok nx w'∧(nx=.value v∨(nx=.skip∧v=undef))∧Rep Γ O w' l' h'∧Ext w l h w' l' h'∧Rel w' (avs O l' h') l' h' d v
theorem aB(R:Rep Γ O w l h){o:Oper}{a:Act}{d:D}{s:Sem Value}(he:execOp a.eval o=(do pure (.value (←s))))(hs:∃v,s.run P w=.ok v w∧Rel w (avs O l h) l h d v):GK P Γ O w l h o a d h:=by
 obtain⟨v,h1,h2⟩:=hs
 exact⟨.value v,v,w,l,by rw[he];simp[h1],.inl rfl,R,J5 _ _ _,h2⟩
theorem dF{o:Oper}{a:Act}{d:D}{h':List Blk}{s:Sem Value}(he:execOp a.eval o=(do pure (.value (←s))))
  (hs:∃v w' l',s.run P w=.ok v w'∧Rep Γ O w' l' h'∧Ext w l h w' l' h'∧Rel w' (avs O l' h') l' h' d v):GK P Γ O w l h o a d h':=by
 obtain⟨v,w',l',h1,h2,h3,h4⟩:=hs
 exact⟨.value v,v,w',l',by rw[he];simp[h1],.inl rfl,h2,h3,h4⟩
theorem lj{o:Oper}{a:Act}{h':List Blk}{s:Sem Unit}(he:execOp a.eval o=(do s;pure .skip))
  (hs:∃w',s.run P w=.ok () w'∧Rep Γ O w' l h'∧Ext w l h w' l h'):GK P Γ O w l h o a .any h':=by
 obtain⟨w',h1,h2,h3⟩:=hs
 exact⟨.skip,undef,w',l,by rw[he];simp[h1],.inr ⟨rfl,rfl⟩,h2,h3,by simp[Rel]⟩
theorem nilCheck_sound{x d:D}{y:Value}(rx:Rel w (avs O l h) l h x y)(hd:cS h x=some d):
  (∃p,y=.pointer (some p))∨(∃f a c,y=.func (.func f) a c):=by
 unfold cS at hd
 split at hd
 ·split at hd
  ·rename_i hl
   obtain⟨blk,off,rfl⟩:=s7 rx hl
   exact .inl ⟨_,rfl⟩
  ·simp at hd
 ·simp only[Rel] at rx
  obtain⟨blk,off,rfl,_⟩:=rx
  exact .inl ⟨_,rfl⟩
 ·simp only[Rel] at rx
  obtain⟨a,c,rfl,_⟩:=rx
  exact .inr ⟨_,_,_,rfl⟩
 ·obtain rfl:=ai rx
  exact .inr ⟨_,_,_,rfl⟩
 ·simp at hd
theorem mQ{x d:D}(hd:cS h x=some d):d=x:=by
 unfold cS at hd
 split at hd
 ·split at hd
  ·cases hd;rfl
  ·simp at hd
 ·cases hd;rfl
 ·cases hd;rfl
 ·cases hd;rfl
 ·simp at hd
theorem cH(R:Rep Γ O w l h){t:List D}{a:Act}(ht:RelL w (avs O l h) l h t a.tmps.toList)(xs:List Operand):RelL w (avs O l h) l h (xs.map (evalD Γ t)) (xs.map a.eval):=by
 induction xs with
 | nil=>simp[RelL]
 | cons x xs ih=>simp only[Il,RelL];exact⟨aA R ht x,ih⟩
theorem qo(R:Rep Γ O w l h){t tx ty:TypeId}{ts:List TypeId}{x s d:D}{yx ys:Value}{h':List Blk}(rx:Rel w (avs O l h) l h x yx)(rs:Rel w (avs O l h) l h s ys)
  (hd:tm P h t x s=some (true,d,h')) :
  ∃v w' l',(KD (t::tx::ts).toArray ty #[yx,ys]).run P w=.ok v w'∧Rep Γ O w' l' h'∧Ext w l h w' l' h'∧Rel w' (avs O l' h') l' h' d v:=by
 unfold tm at hd
 split at hd
 ·rename_i r hr
  cases hd
  exact rW R rx rs hr
 ·exact oI R rx rs hd
theorem oJ(R:Rep Γ O w l h){b:Builtin}{ts:List TypeId}{ty:TypeId}{ds:List D}{vs:List Value}{d:D}{h':List Blk}(rl:RelL w (avs O l h) l h ds vs)
  (hd:builtinD P h b ts ds=some (true,d,h')) :
  ∃v w' l',(∀cs,(builtin b ts.toArray ty cs vs.toArray).run P w=.ok (.value v) w')∧Rep Γ O w' l' h'∧Ext w l h w' l' h'∧Rel w' (avs O l' h') l' h' d v:=by
 unfold builtinD at hd
 split at hd
 ·rename_i t tx s x
  match vs,rl with
  | [ys,yx],rl =>
   simp only[RelL] at rl
   obtain⟨v,w',l',h1,h2,h3,h4⟩:=oA (P:=P) (ty:=ty) R rl.1 rl.2.1 hd
   exact⟨v,w',l',fun cs=>by simp[builtin,h1],h2,h3,h4⟩
  | [],rl=>simp[RelL] at rl
  | [_],rl=>simp[RelL] at rl
  | _::_::_::_,rl=>simp[RelL] at rl
 ·rename_i t tx ts' x s
  match vs,rl with
  | [yx,ys],rl =>
   simp only[RelL] at rl
   obtain⟨v,w',l',h1,h2,h3,h4⟩:=qo (P:=P) (ty:=ty) (ts:=ts') (tx:=tx) R rl.1 rl.2.1 hd
   exact⟨v,w',l',fun cs=>by simp[builtin,h1],h2,h3,h4⟩
  | [],rl=>simp[RelL] at rl
  | [_],rl=>simp[RelL] at rl
  | _::_::_::_,rl=>simp[RelL] at rl
 ·rename_i t ts' x
  match vs,rl with
  | [yx],rl =>
   simp only[RelL] at rl
   obtain⟨v,w',l',h1,h2,h3,h4⟩:=qe (P:=P) (ty:=ty) (ts:=ts') R rl.1 hd
   exact⟨v,w',l',fun cs=>by simp[builtin,h1],h2,h3,h4⟩
  | [],rl=>simp[RelL] at rl
  | _::_::_,rl=>simp[RelL] at rl
 ·rename_i t ts' x
  simp only[Ha,keep,G4] at hd
  obtain⟨d',h0,_,rfl,rfl⟩:=hd
  match vs,rl with
  | [y],rl =>
   simp only[RelL] at rl
   obtain⟨v,h1,h2⟩:=rT (P:=P) (ty:=ty) (ts:=ts') R rl.1 h0
   exact⟨v,w,l,fun cs=>by simp[builtin,h1],R,J5 _ _ _,h2⟩
  | [],rl=>simp[RelL] at rl
  | _::_::_,rl=>simp[RelL] at rl
 ·rename_i x xs _
  simp only[Ha,keep,G4] at hd
  obtain⟨d',h0,_,rfl,rfl⟩:=hd
  match vs,rl with
  | y::ys,rl =>
   simp only[RelL] at rl
   obtain⟨v,h1,h2⟩:=ez (P:=P) (mx:=true) (t:=ty) (ts:=ts.toArray) rl.1 rl.2 h0
   simp only[if_true] at h1
   exact⟨v,w,l,fun cs=>by simp[builtin,Builtin.max_,h1],R,J5 _ _ _,h2⟩
  | [],rl=>simp[RelL] at rl
 ·rename_i x xs _
  simp only[Ha,keep,G4] at hd
  obtain⟨d',h0,_,rfl,rfl⟩:=hd
  match vs,rl with
  | y::ys,rl =>
   simp only[RelL] at rl
   obtain⟨v,h1,h2⟩:=ez (P:=P) (mx:=false) (t:=ty) (ts:=ts.toArray) rl.1 rl.2 h0
   simp only[HO,if_false] at h1
   exact⟨v,w,l,fun cs=>by simp[builtin,Builtin.min_,h1],R,J5 _ _ _,h2⟩
  | [],rl=>simp[RelL] at rl
 ·simp at hd
theorem hG(R:Rep Γ O w l h){t:List D}{a:Act}(ht:RelL w (avs O l h) l h t a.tmps.toList)(x:Option Operand):gg w (avs O l h) l h (x.map (evalD Γ t)) (x.map a.eval):=by
 cases x with
 | none=>simp[gg]
 | some x=>simp only[HD,gg];exact aA R ht x
theorem qp(R:Rep Γ O w l h){t:List D}{a:Act}(ht:RelL w (avs O l h) l h t a.tmps.toList)(ps:Array (Nat×Operand)):
  (ps.toList.map fun p=>(p.1,evalD Γ t p.2)).length=(ps.map fun (p:Nat×Operand)=>(p.1,a.eval p.2)).toList.length ∧
  (∀(j:Nat) (p:Nat×D) (q:Nat×Value),(ps.toList.map fun p=>(p.1,evalD Γ t p.2))[j]? = some p→(ps.map fun (p:Nat×Operand)=>(p.1,a.eval p.2)).toList[j]? = some q →
   p.1=q.1∧Rel w (avs O l h) l h p.2 q.2):=by
 refine⟨by simp,fun j p q hp hq=>?_⟩
 simp only[List.getElem?_map,Ha,Array.toList_map] at hp hq
 obtain⟨x,h1,rfl⟩:=hp
 obtain⟨y,h2,rfl⟩:=hq
 rw[h1] at h2
 cases h2
 exact⟨rfl,aA R ht _⟩
theorem gy(R:Rep Γ O w l h){t:List D}{a:Act}(ht:RelL w (avs O l h) l h t a.tmps.toList){o:Oper}{d:D}{h':List Blk}(hd:opSem P Γ t h o.op=some (true,d,h')):
  GK P Γ O w l h o a d h':=by
 have ev:=aA R ht
 obtain⟨dst,op,type,pos,after,guard⟩:=o
 simp only at hd
 cases op with
 | move x =>
  simp only[opSem,G0,G4,true_and] at hd
  obtain⟨rfl,rfl⟩:=hd
  exact⟨.value _,_,w,l,rfl,.inl rfl,R,J5 _ _ _,ev x⟩
 | assign x =>
  simp only[opSem,G0,G4,true_and] at hd
  obtain⟨rfl,rfl⟩:=hd
  exact⟨.value _,_,w,l,rfl,.inl rfl,R,J5 _ _ _,ev x⟩
 | pick c x y =>
  simp only[opSem,Ha,keepB,G4] at hd
  obtain⟨⟨r1,r2⟩,h1,h2,rfl,rfl⟩:=hd
  simp only at h2
  subst h2
  obtain⟨v,h3,h4⟩:=rR (P:=P) (ev c) (ev x) (ev y) h1
  exact⟨.value v,v,w,l,h3,.inl rfl,R,J5 _ _ _,h4⟩
 | alloc e =>
  simp only[opSem,Ha,eW,G4,true_and] at hd
  obtain⟨z,h1,rfl,rfl⟩:=hd
  obtain⟨zv,hz,rfl⟩:=cy h1
  obtain⟨v,w',l',g1,g2,g3,g4⟩:=jH (P:=P) R e (y:=zv) (RelL.lits zv.cells.toList)
  exact⟨.value _,_,w',l',by simp[execOp,Instr.alloc,zeroV_run hz,g1],.inl rfl,g2,g3,g4⟩
 | box e x =>
  simp only[opSem,Ha,eW,G4,true_and] at hd
  obtain⟨cs,h1,rfl,rfl⟩:=hd
  obtain⟨v,w',l',g1,g2,g3,g4⟩:=jH (P:=P) R e (y:=a.eval x) (de (ev x) h1).1
  exact⟨.value _,_,w',l',by simp[execOp,Instr.box,g1],.inl rfl,g2,g3,g4⟩
 | build ty ps =>
  simp only[opSem,Ha,keep,G4,true_and] at hd
  obtain⟨d',h1,rfl,rfl⟩:=hd
  obtain⟨p1,p2⟩:=qp R ht ps
  exact aB R rfl (by have:=qd (P:=P) p1 p2 h1;rwa[La] at this)
 | buildSlice ty n ps =>
  simp only[opSem,Ha,G4,true_and] at hd
  obtain⟨⟨d',h2⟩,h1,rfl,rfl⟩:=hd
  obtain⟨p1,p2⟩:=qp R ht ps
  exact dF rfl (by have:=je (P:=P) R p1 p2 h1;rwa[La] at this)
 | load ty x =>
  simp only[opSem,Ha,keep,G4,true_and] at hd
  obtain⟨d',h1,rfl,rfl⟩:=hd
  exact aB R rfl (kT R (ev x) h1)
 | store ty x y =>
  simp only[opSem,Ha,fR,G4,true_and] at hd
  obtain⟨d',h1,rfl,rfl⟩:=hd
  exact lj rfl (pU R (ev x) (ev y) h1)
 | nilCheck x =>
  simp only[opSem,Ha,keep,G4,true_and] at hd
  obtain⟨d',h1,rfl,rfl⟩:=hd
  obtain rfl:=mQ h1
  refine⟨.value (a.eval x),_,w,l,?_,.inl rfl,R,J5 _ _ _,ev x⟩
  rcases nilCheck_sound (ev x) h1 with ⟨p,hp⟩|⟨f,b,c,hp⟩
  ·simp only[execOp,hp,HH]
  ·simp only[execOp,hp,HH]
 | binOp op ty x y yt =>
  simp only[opSem] at hd
  cases hb:binD op (evalD Γ t x) (evalD Γ t y) with
  | some r =>
   obtain⟨r1,r2⟩:=r
   simp only[hb,keepB,G0,G4] at hd
   obtain⟨rfl,rfl,rfl⟩:=hd
   exact aB R rfl (u9 (P:=P) (ev x) (ev y) hb)
  | none =>
   cases hb2:oE P op ty y (evalD Γ t x) with
   | some d2 =>
    simp only[hb,hb2,keep,G0,G4,true_and] at hd
    obtain⟨rfl,rfl⟩:=hd
    exact aB R rfl (oH (P:=P) (ev x) (fun hy=>by rw[hy];rfl) hb2)
   | none =>
    simp only[hb,hb2,Ha,keep,G4,true_and] at hd
    obtain⟨d',h1,rfl,rfl⟩:=hd
    exact aB R rfl (qn (P:=P) (ev x) (ev y) h1)
 | makeInterface ty x =>
  simp only[opSem,Ha,keep,G4,true_and] at hd
  obtain⟨d',h1,rfl,rfl⟩:=hd
  exact aB R rfl (mP (P:=P) (ev x) h1)
 | typeAssert x xT T ok =>
  simp only[opSem,Ha,keep,G4,true_and] at hd
  obtain⟨d',h1,rfl,rfl⟩:=hd
  exact aB R rfl (oG (P:=P) (ev x) h1)
 | unOp op ty x =>
  simp only[opSem,Ha,keep,G4,true_and] at hd
  obtain⟨d',h1,rfl,rfl⟩:=hd
  exact aB R rfl (wF (ev x) h1)
 | convert s d0 x =>
  simp only[opSem,Ha,keep,G4,true_and] at hd
  obtain⟨d',h1,rfl,rfl⟩:=hd
  exact aB R rfl (rS (ev x) h1)
 | makeFunc f x y =>
  simp only[opSem,Ha,keep,G4,true_and] at hd
  obtain⟨d',h1,rfl,rfl⟩:=hd
  unfold mkFnD at h1
  split at h1
  case h_2=>simp at h1
  cases h1
  refine aB R rfl ⟨_,rfl,?_⟩
  simp only[Rel]
  exact⟨_,_,rfl,by simpa using cH R ht x.toList,by simpa using cH R ht y.toList⟩
 | makeMap ty r =>
  cases r with
  | some r=>simp[opSem] at hd
  | none =>
   simp only[opSem,G0,G4,true_and] at hd
   obtain⟨rfl,rfl⟩:=hd
   exact dF rfl (oC R ty)
 | makeSlice ty n c =>
  simp only[opSem] at hd
  split at hd
  ·exact dF rfl (mM (P:=P) R (ev n) (ev c) hd)
  ·exact dF rfl (rU (P:=P) R (ev n) (ev c) hd)
 | slice ty x lo hi mx =>
  simp only[opSem,Ha,keepB,G4] at hd
  obtain⟨⟨r1,r2⟩,h1,h2,rfl,rfl⟩:=hd
  simp only at h2
  subst h2
  exact aB R rfl (qj R (ev x) (hG R ht lo) (hG R ht hi) (hG R ht mx) h1)
 | fieldAddr s x f =>
  simp only[opSem,Ha,keep,G4,true_and] at hd
  obtain⟨d',h1,rfl,rfl⟩:=hd
  exact aB R rfl (j2 (ev x) h1)
 | field s x f =>
  simp only[opSem,Ha,keep,G4,true_and] at hd
  obtain⟨d',h1,rfl,rfl⟩:=hd
  exact aB R rfl (pV (ev x) h1)
 | indexAddr ty x i =>
  simp only[opSem,Ha,keepB,G4] at hd
  obtain⟨⟨r1,r2⟩,h1,h2,rfl,rfl⟩:=hd
  simp only at h2
  subst h2
  exact aB R rfl (j3 (ev x) (ev i) h1)
 | index ty x i =>
  simp only[opSem,Ha,keepB,G4] at hd
  obtain⟨⟨r1,r2⟩,h1,h2,rfl,rfl⟩:=hd
  simp only at h2
  subst h2
  exact aB R rfl (pW (ev x) (ev i) h1)
 | lookup ty x k ok =>
  simp only[opSem,Ha,keep,G4,true_and] at hd
  obtain⟨d',h1,rfl,rfl⟩:=hd
  exact aB R rfl (oB R (ev x) (ev k) h1)
 | mapUpdate ty m k x =>
  simp only[opSem,Ha,fR,G4,true_and] at hd
  obtain⟨d',h1,rfl,rfl⟩:=hd
  exact lj rfl (eV R (ev m) (ev k) (ev x) h1)
 | insert ty m k x =>
  simp only[opSem,Ha,fR,G4,true_and] at hd
  obtain⟨d',h1,rfl,rfl⟩:=hd
  exact lj rfl (eV R (ev m) (ev k) (ev x) h1)
 | range ty x =>
  simp only[opSem,Ha,G4,true_and] at hd
  obtain⟨⟨d',h2⟩,h1,rfl,rfl⟩:=hd
  exact dF rfl (qk R (ev x) h1)
 | next it s =>
  simp only[opSem,Ha,G4,true_and] at hd
  obtain⟨⟨d',h2⟩,h1,rfl,rfl⟩:=hd
  obtain⟨v,w',g1,g2,g3,g4⟩:=r8 (P:=P) (t:=type) R (ev it) h1
  exact dF rfl ⟨v,w',l,g1,g2,g3,g4⟩
 | entry it =>
  simp only[opSem,Ha,keep,G4,true_and] at hd
  obtain⟨d',h1,rfl,rfl⟩:=hd
  exact aB R rfl (qm R (ev it) h1)
 | extract x i =>
  simp only[opSem] at hd
  have rx:=ev x
  split at hd
  ·rename_i ds hx
   rw[hx] at rx
   simp only[Ha,keep,G4,true_and] at hd
   obtain⟨d',h1,rfl,rfl⟩:=hd
   simp only[Rel] at rx
   obtain⟨vs,hv,r⟩:=rx
   obtain⟨v,h2,h3⟩:=r.get i h1
   refine aB R rfl ⟨v,?_,h3⟩
   rw[H0] at h2
   simp[hv,Instr.extract,h2]
  ·simp at hd
 | call c =>
  obtain⟨callee,args,argTypes⟩:=c
  cases callee with
  | builtin b =>
   simp only[opSem] at hd
   obtain⟨v,w',l',h1,h2,h3,h4⟩:=oJ (P:=P) (ty:=type) R (cH R ht args.toList) hd
   refine⟨.value v,v,w',l',?_,.inl rfl,h2,h3,h4⟩
   have:(args.toList.map a.eval).toArray=args.map a.eval:=by apply Array.ext';simp
   rw[this] at h1
   have h5:=h1 (args.map fun | .const _=>true|_=>false)
   rw[La] at h5
   simp only[execOp,resolve,invoke,pure_bind]
   exact h5
  | _=>simp[opSem] at hd
 | _=>simp[opSem] at hd
end
end Go.Vi
