/- LedgerArrival: part of the proof: contracts of the functions that the law reaches, and the law. No conditions beyond the given statement's own. -/
import Derived.Test.YtbfpdhdcicjihaaGreatDoorW2
import Derived.WalkKit
import Derived.LaidEql
import Derived.Stop.Asserts
import Derived.RowKitTokens
open Decidable renaming decide → Qd
open Go.Proofs.Tryz renaming prog → GV, underlying167 → Ns
open Go renaming method → MV
open Go.Value renaming int → GW, nilFunc → Hw
open Go.IntKind renaming u8 → GZ, i64 → GY, wrap → G1
open Go.Sem renaming run_bind → Hp
open Go.Result renaming andThen → IC
open Nat renaming lt_or_ge → LJ, lt_of_lt_of_le → Ja
open Go.World renaming cell? → Lg, cell?_alloc_lt → IQ, frozen?_alloc_old → JZ
open Array renaming getElem?_eq_none → J3
open List renaming map → GU, getElem?_cons_zero → Hu
open Go.Vi.MeT renaming row → Hm
open Go.Vi.GrT renaming row → Hn
open Go.Vi.BuT renaming row → G7
open ByteArray renaming size → IG, empty → KK
open BitVec renaming ofInt → G5, toNat → GT
open Int renaming fdiv → Jf, toNat → Hh
open Go.Vi.EntT renaming row → Hi
open Go.Vi.D renaming tup → IZ, fn → Hy, agg → Hc
open Bool renaming and_eq_true → G6
open Go.Vi.Ev renaming glob0 → Hx
open Go.Fn renaming func → He
open Go Go.Proofs
namespace Go.Vi.As
open Go.RowKit Go.Extern.Stop Go.Stop Go.Extern
set_option maxRecDepth 100000
theorem as_nil(t:Value)(w:World):Calls GV 107 #[.nilIface,t] w fun e w'=>e=.returned (.bool false)∧w'=w:=by
 go_enter Tryz.func107,Tryz.ntmps107
 go_wp2
 go_ret
 exact⟨rfl,rfl⟩
theorem AP(t:Addr)(w:World):(ReflectliteValue.unpack (.iface 167 (.pointer (some t)))).run GV w
  = .ok (.agg #[.pointer (some ⟨5,167,none⟩),.pointer (some ⟨w.heap.size,0,none⟩),.int .u64 150]) (w.alloc (.cells #[.pointer (some t)] 167)):=by kernel_rfl
theorem typeP (a:Addr) (w:World):(ReflectliteValue.methodAny (ReflectliteValue.valueError "reflectlite.Value.Type" 0) (fun t _ _ _=>ReflectliteType.toType t) #[.agg #[.pointer (some ⟨5,167,none⟩),.pointer (some a),.int .u64 150]]).run GV w
  = .ok (.iface 196 (.agg #[.pointer (some ⟨5,167,none⟩)])) w:=by kernel_rfl
theorem mKind (h:Value) (w:World):(MV 635 196 (.agg #[h]) "Kind").run GV w=.ok (367,h) w:=by kernel_rfl
theorem kindP(w:World):((ReflectliteType.abiMethod fun t=>(fun a:Nat=>GW GZ (a:Int)) <$> Rtype.kind t) #[.pointer (some ⟨5,167,none⟩)]).run GV w=.ok (.int .u8 22) w:=by kernel_rfl
theorem kindE(w:World):((ReflectliteType.abiMethod fun t=>(fun a:Nat=>GW GZ (a:Int)) <$> Rtype.kind t) #[.pointer (some ⟨5,165,none⟩)]).run GV w=.ok (.int .u8 25) w:=by kernel_rfl
theorem rlm(z:Sem Value)(f:TypeId→Addr→Nat→Nat→Sem Value)(v:Value):
  ReflectliteValue.method z f #[v]=(do match ←ReflectliteValue.parts v with|none=>z|some (t,a,fl)=>f t a fl (fl % 32)):=rfl
theorem Ch(a:Addr)(w:World):(ReflectliteValue.parts (.agg #[.pointer (some ⟨5,167,none⟩),.pointer (some a),.int .u64 150])).run GV w=.ok (some (167,a,150)) w:=by kernel_rfl
theorem isNilP(a p:Addr)(W:World)(ha:W.cell? a=some (.pointer (some p))):
  (ReflectliteValue.method (ReflectliteValue.valueError "reflectlite.Value.IsNil" 0) ReflectliteValue.isNil #[.agg #[.pointer (some ⟨5,167,none⟩),.pointer (some a),.int .u64 150]]).run GV W=.ok (.bool false) W:=by
 rw[rlm]
 simp only[Hp,Ch,IC]
 simp[ReflectliteValue.isNil,loadVar,isAgg,underlying,Ns,ha,IC]
theorem mElem (h:Value) (w:World):(MV 635 196 (.agg #[h]) "Elem").run GV w=.ok (377,.agg #[h]) w:=by kernel_rfl
theorem mImpl (h:Value) (w:World):(MV 635 196 (.agg #[h]) "Implements").run GV w=.ok (378,.agg #[h]) w:=by kernel_rfl
theorem EI (h:Value) (w:World):(MV 635 196 (.agg #[h]) "AssignableTo").run GV w=.ok (375,.agg #[h]) w:=by kernel_rfl
theorem elemP(w:World):(ReflectliteType.method ReflectliteType.elem #[.agg #[.pointer (some ⟨5,167,none⟩)]]).run GV w=.ok (.iface 196 (.agg #[.pointer (some ⟨5,165,none⟩)])) w:=by kernel_rfl
theorem implE (w:World):(ReflectliteType.relation "Implements" ReflectliteType.implements_ #[.agg #[.pointer (some ⟨5,165,none⟩)],.iface 196 (.agg #[.pointer (some ⟨5,144,none⟩)])]).run GV w=.ok (.bool true) w:=by kernel_rfl
theorem EJ(v:Value)(w:World):(ReflectliteType.typeOf #[.iface 165 v]).run GV w=.ok (.iface 196 (.agg #[.pointer (some ⟨5,165,none⟩)])) w:=by kernel_rfl
theorem EK (w:World):(ReflectliteType.relation "AssignableTo" ReflectliteType.assignableTo #[.agg #[.pointer (some ⟨5,165,none⟩)],.iface 196 (.agg #[.pointer (some ⟨5,165,none⟩)])]).run GV w=.ok (.bool true) w:=by kernel_rfl
theorem AQ(e:Int)(w:World):(ReflectliteValue.unpack (.iface 165 (.agg #[.int .i64 e]))).run GV w
  = .ok (.agg #[.pointer (some ⟨5,165,none⟩),.pointer (some ⟨w.heap.size,0,none⟩),.int .u64 153]) (w.alloc (.cells #[.int .i64 e] 165)):=by kernel_rfl
theorem EL(w:World):(Rtype.elem? 167).run GV w=.ok (some 165) w:=by kernel_rfl
theorem mkE(p:Addr)(w:World):(ReflectliteValue.mk 165 p ReflectliteValue.flagAddr).run GV w=.ok (.agg #[.pointer (some ⟨5,165,none⟩),.pointer (some p),.int .u64 409]) w:=by kernel_rfl
theorem elemV(a p:Addr)(W:World)(ha:W.cell? a=some (.pointer (some p))):
  (ReflectliteValue.method (ReflectliteValue.valueError "reflectlite.Value.Elem" 0) ReflectliteValue.elem #[.agg #[.pointer (some ⟨5,167,none⟩),.pointer (some a),.int .u64 150]]).run GV W
   = .ok (.agg #[.pointer (some ⟨5,165,none⟩),.pointer (some p),.int .u64 409]) W:=by
 rw[rlm]
 simp only[Hp,Ch,IC]
 simp[ReflectliteValue.elem,loadVar,isAgg,underlying,Ns,ha,IC,EL,mkE]
theorem partsA(a:Addr)(w:World):(ReflectliteValue.parts (.agg #[.pointer (some ⟨5,165,none⟩),.pointer (some a),.int .u64 409])).run GV w=.ok (some (165,a,409)) w:=by kernel_rfl
theorem partsE(a:Addr)(w:World):(ReflectliteValue.parts (.agg #[.pointer (some ⟨5,165,none⟩),.pointer (some a),.int .u64 153])).run GV w=.ok (some (165,a,153)) w:=by kernel_rfl
theorem EM(w:World):(Rtype.directlyAssignable 165 165).run GV w=.ok true w:=by kernel_rfl
theorem sizeE(w:World):(sizeOf 165).run GV w=.ok 1 w:=by kernel_rfl
theorem rls(v x:Value):ReflectliteValue.set #[v,x]=(do
  let (some (dst,a,fl),some (src,b,_)):=(←ReflectliteValue.parts v,←ReflectliteValue.parts x)
   | unsupported (.noEntry "extern/(internal/reflectlite.Value).Set.zeroValue")
  if fl / ReflectliteValue.flagAddr % 2==0 then unsupported (.noEntry "extern/(internal/reflectlite.Value).Set.unaddressable")
  let val ←loadVar src b
  if ←Rtype.directlyAssignable dst src then storeVar dst a val
  else if ←Rtype.implements dst src then
   if (←Rtype.kind src)==20 then
    match val with
    | .nilIface=>unsupported (.noEntry "extern/reflectlite: a nil value of one interface type handed on as a value of another")
    | _=>storeVar dst a val
   else storeVar dst a (.iface src val)
  else panicString ("reflectlite.Set: value of type " ++ (←Rtype.spelt src) ++ " is not assignable to type " ++ (←Rtype.spelt dst))
  pure (.tuple #[])):=rfl
theorem setE(ta b:Addr)(e:Int)(old:Value)(W:World)(hb:W.cell? b=some (.int .i64 e))(ht:W.cell? ta=some old)(hf:W.frozen? ta=false):
  (ReflectliteValue.set #[.agg #[.pointer (some ⟨5,165,none⟩),.pointer (some ta),.int .u64 409],.agg #[.pointer (some ⟨5,165,none⟩),.pointer (some b),.int .u64 153]]).run GV W
   = .ok (.tuple #[]) (W.setCell ta (.int .i64 e)):=by
 rw[rls]
 simp only[Hp,partsA,partsE,IC]
 simp[ReflectliteValue.flagAddr,loadVar,isAgg,underlying,Tryz.underlying165,hb,IC,EM,storeVar,Value.cells,storeCells,Addr.add,loadCells,loadCellsFrom]
 rw[run_store GV W ta _ _ (by rfl)]
 simp[ht,hf]
set_option maxHeartbeats 4000000 in
theorem as_hit(e:Int)(t:Addr)(old:Value)(w:World)(hg:w.cell? ⟨3,0,none⟩=some (.iface 196 (.agg #[.pointer (some ⟨5,144,none⟩)])))(ht0:w.cell? t=some old)(hf0:w.frozen? t=false):
  Calls GV 107 #[.iface 165 (.agg #[.int .i64 e]),.iface 167 (.pointer (some t))] w fun ev w'=>ev=.returned (.bool true)∧w'=((((w.alloc (.cells #[.pointer (some t)] 167)).alloc (.cells #[.pointer (some ⟨5,167,none⟩),.pointer (some ⟨w.heap.size,0,none⟩),.int .u64 150] 181)).alloc (.cells #[.pointer (some ⟨5,167,none⟩),.pointer (some ⟨w.heap.size,0,none⟩),.int .u64 150] 181)).alloc (.cells #[.int .i64 e] 165)).setCell t (.int .i64 e):=by
 have h110:=@run_callFunc_extern GV 112 _ (fun args=>ReflectliteValue.unpack (args.getD 0 (.tuple #[]))) Tryz.func112 (by kernel_rfl) (by kernel_rfl) (by kernel_rfl) (by kernel_rfl)
 have h111:=@run_callFunc_extern GV 113 _ (ReflectliteValue.methodAny (ReflectliteValue.valueError "reflectlite.Value.Type" 0) (fun t _ _ _=>ReflectliteType.toType t)) Tryz.func113 (by kernel_rfl) (by kernel_rfl) (by kernel_rfl) (by kernel_rfl)
 have h112:=@run_callFunc_extern GV 114 _ (ReflectliteValue.method (ReflectliteValue.valueError "reflectlite.Value.IsNil" 0) ReflectliteValue.isNil) Tryz.func114 (by kernel_rfl) (by kernel_rfl) (by kernel_rfl) (by kernel_rfl)
 have h365:=@run_callFunc_extern GV 367 _ (ReflectliteType.abiMethod fun t=>do pure (.int .u8 (←Rtype.kind t))) Tryz.func367 (by kernel_rfl) (by kernel_rfl) (by kernel_rfl) (by kernel_rfl)
 have h375:=@run_callFunc_extern GV 377 _ (ReflectliteType.method ReflectliteType.elem) Tryz.func377 (by kernel_rfl) (by kernel_rfl) (by kernel_rfl) (by kernel_rfl)
 have h376:=@run_callFunc_extern GV 378 _ (ReflectliteType.relation "Implements" ReflectliteType.implements_) Tryz.func378 (by kernel_rfl) (by kernel_rfl) (by kernel_rfl) (by kernel_rfl)
 have h121:=@run_callFunc_extern GV 123 _ ReflectliteType.typeOf Tryz.func123 (by kernel_rfl) (by kernel_rfl) (by kernel_rfl) (by kernel_rfl)
 have h373:=@run_callFunc_extern GV 375 _ (ReflectliteType.relation "AssignableTo" ReflectliteType.assignableTo) Tryz.func375 (by kernel_rfl) (by kernel_rfl) (by kernel_rfl) (by kernel_rfl)
 have h122:=@run_callFunc_extern GV 124 _ (ReflectliteValue.method (ReflectliteValue.valueError "reflectlite.Value.Elem" 0) ReflectliteValue.elem) Tryz.func124 (by kernel_rfl) (by kernel_rfl) (by kernel_rfl) (by kernel_rfl)
 have h123:=@run_callFunc_extern GV 125 _ ReflectliteValue.set Tryz.func125 (by kernel_rfl) (by kernel_rfl) (by kernel_rfl) (by kernel_rfl)
 have tO:=EJ
 have mA:=EI
 have aE:=EK
 have vE:=AQ
 have vP:=AP
 have tP:=typeP
 have mK:=mKind
 have mE:=mElem
 have mI:=mImpl
 have kP:=kindP
 have kE:=kindE
 have eP:=elemP
 have iE:=implE
 have n8:=isNilP ⟨w.heap.size,0,none⟩ t ((w.alloc (.cells #[.pointer (some t)] 167)).alloc (.cells #[.pointer (some ⟨5,167,none⟩),.pointer (some ⟨w.heap.size,0,none⟩),.int .u64 150] 181)) (by simp)
 have hlt:3<w.heap.size:=by
  rcases LJ 3 w.heap.size with h|h
  ·exact h
  ·simp[Lg,J3 h] at hg
 have hg2:((w.alloc (.cells #[.pointer (some t)] 167)).alloc (.cells #[.pointer (some ⟨5,167,none⟩),.pointer (some ⟨w.heap.size,0,none⟩),.int .u64 150] 181)).cell? ⟨3,0,none⟩=some (.iface 196 (.agg #[.pointer (some ⟨5,144,none⟩)])):=by
  rw[IQ _ _ ⟨3,0,none⟩ (by simp;omega),IQ _ _ ⟨3,0,none⟩ hlt];exact hg
 have htl:t.block<w.heap.size:=by
  rcases LJ t.block w.heap.size with h|h
  ·exact h
  ·simp[Lg,J3 h] at ht0
 have el:=elemV ⟨w.heap.size,0,none⟩ t (((w.alloc (.cells #[.pointer (some t)] 167)).alloc (.cells #[.pointer (some ⟨5,167,none⟩),.pointer (some ⟨w.heap.size,0,none⟩),.int .u64 150] 181)).alloc (.cells #[.pointer (some ⟨5,167,none⟩),.pointer (some ⟨w.heap.size,0,none⟩),.int .u64 150] 181)) (by rw[IQ _ _ ⟨w.heap.size,0,none⟩ (by simp;omega)];simp)
 have st:=setE t ⟨w.heap.size+1+1+1,0,none⟩ e old ((((w.alloc (.cells #[.pointer (some t)] 167)).alloc (.cells #[.pointer (some ⟨5,167,none⟩),.pointer (some ⟨w.heap.size,0,none⟩),.int .u64 150] 181)).alloc (.cells #[.pointer (some ⟨5,167,none⟩),.pointer (some ⟨w.heap.size,0,none⟩),.int .u64 150] 181)).alloc (.cells #[.int .i64 e] 165))
  (by rw[World.cell?_alloc_at _ _ _ _ (by simp)];rfl)
  (by rw[IQ _ _ t (by simp;omega),IQ _ _ t (by simp;omega),IQ _ _ t (by simp;omega),IQ _ _ t htl];exact ht0)
  (by rw[JZ _ _ t (by simp;omega),JZ _ _ t (by simp;omega),JZ _ _ t (by simp;omega),JZ _ _ t (Nat.ne_of_lt htl)];exact hf0)
 go_enter Tryz.func107,Tryz.ntmps107
 go_wp2
 refine wp_loop_rounds 1 ?_
 rw[rounds_succ]
 go_wp2
 go_ret
 exact⟨rfl,rfl⟩
end Go.Vi.As
open Go Go.Proofs
namespace Go.Vi
set_option maxRecDepth 100000
set_option maxHeartbeats 4000000
theorem Ext.bump{w w':World}{l:Loc}{h:List Blk}(hs:w.heap.size≤w'.heap.size)(hk:∀k,k<w.heap.size→w'.heap[k]? = w.heap[k]?)(ht:w'.tape=w.tape∧w'.os=w.os∧w'.output=w.output∧w.drawn≤w'.drawn):Ext w l h w' l h :=
 ⟨hs,fun k hk' _=>hk k hk',fun _ ho=>.inl ho,fun _ x hx=>⟨x,hx,x.le_refl,fun _=>rfl⟩,ht⟩
theorem Rep.bump{Γ:ae}{O:Nat→Prop}{w w':World}{l:Loc}{h:List Blk}(R:Rep Γ O w l h)(hs:w.heap.size≤w'.heap.size)(hk:∀k,k<w.heap.size→w'.heap[k]? = w.heap[k]?)(ht:w'.tape=w.tape∧w'.os=w.os∧w'.output=w.output∧w.drawn≤w'.drawn):Rep Γ O w' l h where
 inb k ho:=⟨Ja (R.inb k ho).1 hs,(R.inb k ho).2⟩
 obd k ho:=Ja (R.obd k ho) hs
 inj:=R.inj
 blk b x hx:=by
  by_cases hg:x=.gone
  ·subst hg;trivial
  ·exact BlkOk.ext (Ext.bump hs hk ht) rfl (fun blk cp hl=>hk blk (R.inb blk ⟨b,x,cp,hx,hg,hl⟩).1) (R.blk b x hx)
 glo g cs hg:=by
  have E:=Ext.bump (l:=l) (h:=h) hs hk ht
  have hb:=R.glo g cs hg
  clear hg
  generalize hz:0=o at hb
  clear hz
  induction cs generalizing o with
  | nil=>trivial
  | cons c cs ih =>
   simp only[RelCells] at hb ⊢
   obtain⟨⟨h1,y,h2,h3⟩,h4⟩:=hb
   have hlt:g<w.heap.size:=by
    rcases LJ g w.heap.size with h|h
    ·exact h
    ·simp[Lg,J3 h] at h2
   refine⟨⟨h1,y,?_,E.relP h3⟩,ih _ h4⟩
   rw[←h2]
   simp[Lg,hk g hlt]
theorem jE(w:World)(o:Obj):(w.alloc o).heap.size=w.heap.size+1:=Array.size_push _
theorem ml(w:World)(o:Obj)(k:Nat)(hk:k<w.heap.size):(w.alloc o).heap[k]? = w.heap[k]?:=by
 show(w.heap.push o)[k]? = _
 rw[Array.getElem?_push,if_neg (Nat.ne_of_lt hk)]
namespace As
abbrev Gt:Dp:=.v (.iface 196 (.agg #[.pointer (some ⟨5,144,none⟩)]))
abbrev GP(e:Int):D:=lit (.iface 165 (.agg #[.int .i64 e]))
theorem vN(w:World):Calls GV 92 #[.nilIface] w fun e w'=>e=.returned (.int .i64 0)∧w'=w.alloc (.cells #[.int .i64 0] 165):=by
 go_enter Tryz.func92,Tryz.ntmps92
 go_wp2_with (first|(go_at_call 107;refine(as_nil _ _).mono ?_;rintro e w' ⟨rfl,rfl⟩))
 go_ret
 exact⟨rfl,rfl⟩
set_option maxHeartbeats 4000000 in
theorem vO(e:Int)(w:World)(hg:w.cell? ⟨3,0,none⟩=some (.iface 196 (.agg #[.pointer (some ⟨5,144,none⟩)]))):
  Calls GV 92 #[.iface 165 (.agg #[.int .i64 e])] w fun ev w'=>ev=.returned (.int .i64 e)∧w.heap.size≤w'.heap.size∧(∀k,k<w.heap.size→w'.heap[k]? = w.heap[k]?)∧w'.tape=w.tape∧w'.os=w.os∧w'.output=w.output∧w.drawn≤w'.drawn:=by
 have hlt:3<w.heap.size:=by
  rcases LJ 3 w.heap.size with h|h
  ·exact h
  ·simp[Lg,J3 h] at hg
 have hgA:(w.alloc (.cells #[.int .i64 0] 165)).cell? ⟨3,0,none⟩=some (.iface 196 (.agg #[.pointer (some ⟨5,144,none⟩)])):=by
  rw[IQ _ _ ⟨3,0,none⟩ hlt];exact hg
 have htA:(w.alloc (.cells #[.int .i64 0] 165)).cell? ⟨w.heap.size,0,none⟩=some (.int .i64 0):=by simp
 have hfA:(w.alloc (.cells #[.int .i64 0] 165)).frozen? ⟨w.heap.size,0,none⟩=false:=by simp
 go_enter Tryz.func92,Tryz.ntmps92
 go_wp2_with (first|(go_at_call 107;refine(as_hit e _ _ _ hgA htA hfA).mono ?_;rintro e w' ⟨rfl,rfl⟩))
 go_ret
 refine⟨rfl,?_,fun k hk=>?_,rfl,rfl,rfl,Nat.le_refl _⟩
 ·simp only[jE];omega
 ·iterate 4 rw[ml _ _ k (by simp only[jE];omega)]
  exact ml _ _ k hk
theorem code_hit{Γ:ae}(hΓ:Γ 3=some [Gt])(e:Int)(h:List Blk):Ev GV Γ 92 [GP e] h (int e) h:=by
 intro O w l vs R ra
 obtain⟨y,rfl⟩:∃y,vs=[y]:=by
  match vs,ra with
  | [y],_=>exact⟨y,rfl⟩
  | [],r=>simp[RelL] at r
  | _::_::_,r=>simp[RelL] at r
 have r:=ra.1
 simp only[Rel,RelP] at r
 subst r
 have hg:=(R.glo 3 _ hΓ).1.2
 obtain⟨y,hy,ry⟩:=hg
 simp only[RelP] at ry
 subst ry
 refine callsIn_wide.2 (Calls.mono (vO e w hy) ?_)
 rintro ev w' ⟨rfl,hs,hk,ht⟩
 exact⟨_,int e,h,l,rfl,⟨rfl,rfl⟩,R.bump hs hk ht,Ext.bump hs hk ht,by simp[Rel,RelP]⟩
theorem code_nil{Γ:ae}(h:List Blk):Ev GV Γ 92 [lit .nilIface] h (int 0) h:=by
 intro O w l vs R ra
 obtain⟨y,rfl⟩:∃y,vs=[y]:=by
  match vs,ra with
  | [y],_=>exact⟨y,rfl⟩
  | [],r=>simp[RelL] at r
  | _::_::_,r=>simp[RelL] at r
 have r:=ra.1
 simp only[Rel,RelP] at r
 subst r
 refine callsIn_wide.2 (Calls.mono (vN w) ?_)
 rintro ev w' ⟨rfl,rfl⟩
 have hs:w.heap.size≤(w.alloc (.cells #[.int .i64 0] 165)).heap.size:=by rw[jE];omega
 have hk:∀k,k<w.heap.size→(w.alloc (.cells #[.int .i64 0] 165)).heap[k]? = w.heap[k]?:=fun k hk=>ml _ _ k hk
 have ht:(w.alloc (.cells #[.int .i64 0] 165)).tape=w.tape∧(w.alloc (.cells #[.int .i64 0] 165)).os=w.os∧(w.alloc (.cells #[.int .i64 0] 165)).output=w.output∧w.drawn≤(w.alloc (.cells #[.int .i64 0] 165)).drawn:=⟨rfl,rfl,rfl,Nat.le_refl _⟩
 exact⟨_,int 0,h,l,rfl,⟨rfl,rfl⟩,R.bump hs hk ht,Ext.bump hs hk ht,by simp[Rel,RelP]⟩
end As
end Go.Vi
open Go Go.Proofs
namespace Go.Vi
set_option maxRecDepth 100000
set_option maxHeartbeats 4000000
def catB(e:EntT):Bool:=bi e.frm e.til&&Qd ((e.text.size:Int)≤65536)
abbrev zaD(c:EntT)(d e f g h i j:Int)(k:ByteArray):List D:=[int c.time,int c.campus,int c.no,int d,int e,int f,int g,int h,int i,int j,ad k,int c.sec.id,int c.sec.course,int c.sec.term,int c.sec.campus,int c.sec.seats,aa (GU Hm c.sec.mts),aa (GU Hn c.sec.grs),aa (GU ab c.sec.labs),bool c.sec.lab,int c.req.campus,int c.req.no,int c.req.st,int c.req.kind,int c.req.time,aa (GU G7 c.req.chs),int c.req.gsec,int c.req.glab,int c.req.key,int c.r,int c.s]
abbrev Za(a:EntT)(b:Int):List D:=(zaD a b a.stu a.obj a.term a.val a.frm a.til a.text)
abbrev za1(a:EntT):List Blk:=[.var (Za a a.kind)]
noncomputable abbrev rj(e:EntT):List Blk:=(za1 e)
abbrev WM(a:EntT):D:=(bool (bi a.frm a.til))
abbrev VU(a:EntT):D:=(int (mustR (bi a.frm a.til&&Qd ((↑(IG a.text):Int)≤65536))))
theorem cat_ev{e:EntT}(h:List Blk):(Ev GV Γ0 54 [ag e.row] h (int (mustR (catB e))) h):=by
 exact zD (VU e) [.val (WM e),.val (VU e)] (.c (@gL (e.frm) (e.til) (rj e)) (.c (@eR (bi e.frm e.til&&Qd ((↑(IG e.text):Int)≤65536)) (rj e)) .n)) h (by first|rfl|(simp only[catB,];first|done|rfl))
def and15(n:Int):Int:=GY.wrap ((G5 GY.bits n &&& G5 GY.bits 15).toNat)
def shr4(n:Int):Int:=n.fdiv (2 ^ (min (4:Int).toNat GY.bits))
def yG(e:EntT):Bool:=e.val == -1||Qd (e.val≥0)&&Qd (and15 e.val≤12)&&Qd (shr4 e.val<7)
noncomputable abbrev dK(e:EntT):List Blk:=(za1 e)
abbrev QZ(a:EntT):Bool:=(inS a.stu 0 19999&&inS a.term 0 1023&&inS a.obj 0 4095&&(a.val == -1||Qd (a.val≥0)&&Qd (G1 GY (↑(GT (G5 64 a.val &&& G5 64 15)):Int)≤12)&&Qd (Jf a.val (2 ^ min (Hh 4) 64)<7)))
abbrev V0(a:EntT)(b:Int):D:=bool (inS a.obj 0 b)
theorem yH{e:EntT}(h:List Blk):(Ev GV Γ0 57 [ag e.row] h (int (mustR (inS e.stu 0 19999&&inS e.term 0 1023&&inS e.obj 0 4095&&yG e))) h):=by
 exact zD (int (mustR (QZ e))) [.val (XB e),.val (VZ e),.val (V0 e 4095),.val (int (mustR (QZ e)))] (.c (show(!e.val == -1&&(Qd (e.val≥0)&&Qd (G1 GY (↑(GT (G5 64 e.val &&& G5 64 15)):Int)≤12)))=true→Qd (0≤4)=true from(fun hg=>rfl)) (.c (@l6 e (dK e)) (.c (gd (inS e.stu 0 19999) (@Cd e (dK e))) (.c (gd (inS e.stu 0 19999&&inS e.term 0 1023) (@dJ (e.obj) 0 4095 (dK e))) (.c (@eR (QZ e) (dK e)) .n))))) h (by first|rfl|(simp only[yG,and15,shr4,];first|done|rfl))
def EN(e:EntT):Bool:=inS e.stu 0 19999&&bi e.frm e.til&&inS e.obj 0 7&&(e.val==1||e.val == -1)
noncomputable abbrev dL(e:EntT):List Blk:=(za1 e)
abbrev Vd(a:EntT):D:=(int (mustR (inS a.stu 0 19999&&bi a.frm a.til&&inS a.obj 0 7&&(a.val==1||a.val == -1))))
theorem rn{e:EntT}(h:List Blk):(Ev GV Γ0 58 [ag e.row] h (int (mustR (EN e))) h):=by
 exact zD (Vd e) [.val (XB e),.val (WM e),.val (V0 e 7),.val (Vd e)] (.c (@l6 e (dL e)) (.c (gd (inS e.stu 0 19999) (@gL (e.frm) (e.til) (dL e))) (.c (gd (inS e.stu 0 19999&&bi e.frm e.til) (@dJ (e.obj) 0 7 (dL e))) (.c (@eR (inS e.stu 0 19999&&bi e.frm e.til&&inS e.obj 0 7&&(e.val==1||e.val == -1)) (dL e)) .n)))) h (by first|rfl|(simp only[EN,];first|done|rfl))
noncomputable abbrev sJ(e:EntT):List Blk:=(za1 e)
theorem AR{e:EntT}(h:List Blk):(Ev GV Γ0 67 [ag e.row] h (int (nU ⟨e.val,e.stu,e.obj,e.term⟩)) h):=by
 exact z0 [.val (int (nU {kind:=e.val,st:=e.stu,obj:=e.obj,term:=e.term}))] (.c (@yr ({kind:=e.val,st:=e.stu,obj:=e.obj,term:=e.term}) (sJ e)) .n) h
noncomputable abbrev nV(e:EntT):List Blk:=(za1 e)
theorem EO{e:EntT}(h:List Blk):(Ev GV Γ0 69 [ag e.row] h (int (mustR (inS e.term 0 1023))) h):=by
 exact z0 [.val (VZ e),.val (int (mustR (inS e.term 0 1023)))] (.c (@Cd e (nV e)) (.c (@eR (inS e.term 0 1023) (nV e)) .n)) h
def AU(m:Int)(e:EntT):Bool:=inS e.stu 0 19999&&bi e.frm e.til&&inS e.obj 0 m&&(e.val == -1||inS e.val 1 1099511627776)
abbrev Qr:List (D × D × Nat):=[(int 7,int 4095,0),(int 9,int 4095,1),(int 8,int 3999,2),(int 10,int 0,3)]
abbrev zaK(a:EntT)(b:Int):List Blk:=[.var (Zf a b (GU Hm a.sec.mts) (GU Hn a.sec.grs) (GU ab a.sec.labs) (GU G7 a.req.chs)),.map Qr 4]
noncomputable abbrev ed(e:EntT):List Blk:=(zaK e 7)
abbrev Z8(a:Bool)(b:EntT)(c:Int):D:=int (mustR (a&&inS b.stu 0 19999&&bi b.frm b.til&&inS b.obj 0 c&&(b.val == -1||inS b.val 1 1099511627776)))
abbrev Qc(a:EntT)(b:Int):Bool:=(true&&inS a.stu 0 19999&&bi a.frm a.til&&inS a.obj 0 b&&(a.val == -1||inS a.val 1 1099511627776))
abbrev Ws(a:EntT):D:=(bool (inS a.val 1 1099511627776))
abbrev za3(a:EntT)(b:Int):List Ans:=[.val (XB a),.val (WM a),.val (V0 a b),.val (Ws a),.val (Z8 true a b)]
theorem EP{e:EntT}(h:List Blk):(Ev GV Γ0 60 [ag (Hi {e with term:=7})] h (int (mustR (AU 4095 e))) h):=by
 exact zD (Z8 true e 4095) (za3 e 4095) (.c (gd true (@l6 ({time:=e.time,campus:=e.campus,no:=e.no,kind:=e.kind,stu:=e.stu,obj:=e.obj,term:=7,val:=e.val,frm:=e.frm,til:=e.til,text:=e.text,sec:=e.sec,req:=e.req,r:=e.r,s:=e.s}) (ed e))) (.c (gd (true&&inS e.stu 0 19999) (@gL (e.frm) (e.til) (ed e))) (.c (gd (true&&inS e.stu 0 19999&&bi e.frm e.til) (@dJ (e.obj) 0 4095 (ed e))) (.c (gd (true&&inS e.stu 0 19999&&bi e.frm e.til&&inS e.obj 0 4095&&!e.val == -1) (@dJ (e.val) 1 1099511627776 (ed e))) (.c (@eR (Qc e 4095) (ed e)) .n))))) h (by first|rfl|(simp only[AU,];first|done|rfl))
noncomputable abbrev ef(e:EntT):List Blk:=(zaK e 9)
theorem EQ{e:EntT}(h:List Blk):(Ev GV Γ0 60 [ag (Hi {e with term:=9})] h (int (mustR (AU 4095 e))) h):=by
 exact zD (Z8 true e 4095) (za3 e 4095) (.c (gd true (@l6 ({time:=e.time,campus:=e.campus,no:=e.no,kind:=e.kind,stu:=e.stu,obj:=e.obj,term:=9,val:=e.val,frm:=e.frm,til:=e.til,text:=e.text,sec:=e.sec,req:=e.req,r:=e.r,s:=e.s}) (ef e))) (.c (gd (true&&inS e.stu 0 19999) (@gL (e.frm) (e.til) (ef e))) (.c (gd (true&&inS e.stu 0 19999&&bi e.frm e.til) (@dJ (e.obj) 0 4095 (ef e))) (.c (gd (true&&inS e.stu 0 19999&&bi e.frm e.til&&inS e.obj 0 4095&&!e.val == -1) (@dJ (e.val) 1 1099511627776 (ef e))) (.c (@eR (Qc e 4095) (ef e)) .n))))) h (by first|rfl|(simp only[AU,];first|done|rfl))
noncomputable abbrev eh(e:EntT):List Blk:=(zaK e 8)
theorem ER{e:EntT}(h:List Blk):(Ev GV Γ0 60 [ag (Hi {e with term:=8})] h (int (mustR (AU 3999 e))) h):=by
 exact zD (Z8 true e 3999) (za3 e 3999) (.c (gd true (@l6 ({time:=e.time,campus:=e.campus,no:=e.no,kind:=e.kind,stu:=e.stu,obj:=e.obj,term:=8,val:=e.val,frm:=e.frm,til:=e.til,text:=e.text,sec:=e.sec,req:=e.req,r:=e.r,s:=e.s}) (eh e))) (.c (gd (true&&inS e.stu 0 19999) (@gL (e.frm) (e.til) (eh e))) (.c (gd (true&&inS e.stu 0 19999&&bi e.frm e.til) (@dJ (e.obj) 0 3999 (eh e))) (.c (gd (true&&inS e.stu 0 19999&&bi e.frm e.til&&inS e.obj 0 3999&&!e.val == -1) (@dJ (e.val) 1 1099511627776 (eh e))) (.c (@eR (Qc e 3999) (eh e)) .n))))) h (by first|rfl|(simp only[AU,];first|done|rfl))
noncomputable abbrev dA(e:EntT):List Blk:=(zaK e 10)
theorem AV{e:EntT}(h:List Blk):(Ev GV Γ0 60 [ag (Hi {e with term:=10})] h (int (mustR (AU 0 e))) h):=by
 exact zD (Z8 true e 0) (za3 e 0) (.c (gd true (@l6 ({time:=e.time,campus:=e.campus,no:=e.no,kind:=e.kind,stu:=e.stu,obj:=e.obj,term:=10,val:=e.val,frm:=e.frm,til:=e.til,text:=e.text,sec:=e.sec,req:=e.req,r:=e.r,s:=e.s}) (dA e))) (.c (gd (true&&inS e.stu 0 19999) (@gL (e.frm) (e.til) (dA e))) (.c (gd (true&&inS e.stu 0 19999&&bi e.frm e.til) (@dJ (e.obj) 0 0 (dA e))) (.c (gd (true&&inS e.stu 0 19999&&bi e.frm e.til&&inS e.obj 0 0&&!e.val == -1) (@dJ (e.val) 1 1099511627776 (dA e))) (.c (@eR (true&&inS e.stu 0 19999&&bi e.frm e.til&&inS e.obj 0 0&&(e.val == -1||inS e.val 1 1099511627776)) (dA e)) .n))))) h (by first|rfl|(simp only[AU,];first|done|rfl))
abbrev zae:List D:=[int 0,bool false]
theorem lkP2{k:Int}(h1:¬k=7)(h2:¬k=9)(h3:¬k=8)(h4:¬k=10):Ca GV 141 Qr (int k) true (.tup zae):=by
 have e1:GV.underlying 141=some (.map 3 3):=by kernel_rfl
 have e2:cV GV 3 (int k)=true:=by kernel_rfl
 have e3:fd GV 3=some (.int .i64 0):=by kernel_rfl
 have e4:b9 (int k) Qr 0=some none:=by
  have n1:bC (int k) (int 7)=some false:=by simp[bC,h1]
  have n2:bC (int k) (int 9)=some false:=by simp[bC,h2]
  have n3:bC (int k) (int 8)=some false:=by simp[bC,h3]
  have n4:bC (int k) (int 10)=some false:=by simp[bC,h4]
  simp only[b9,n1,n2,n3,n4]
 unfold Ca aX
 simp only[e1,j4,Hu,e2,if_true,e3,e4]
 rfl
theorem lkP{h:List Blk}{b:Nat}{k:Int}(h1:¬k=7)(h2:¬k=9)(h3:¬k=8)(h4:¬k=10)(hb:h[b]? = some (.map Qr 4)):aX GV h 141 (.ref (.mp b)) (int k) true=some (.tup zae):=by
 have e1:GV.underlying 141=some (.map 3 3):=by kernel_rfl
 have e2:cV GV 3 (int k)=true:=by kernel_rfl
 have e3:fd GV 3=some (.int .i64 0):=by kernel_rfl
 have e4:b9 (int k) Qr 0=some none:=by
  have n1:bC (int k) (int 7)=some false:=by simp[bC,h1]
  have n2:bC (int k) (int 9)=some false:=by simp[bC,h2]
  have n3:bC (int k) (int 8)=some false:=by simp[bC,h3]
  have n4:bC (int k) (int 10)=some false:=by simp[bC,h4]
  simp only[b9,n1,n2,n3,n4]
 unfold aX
 simp only[e1,j4,hb,e2,if_true,e3,e4]
 rfl
noncomputable abbrev ei(e:EntT):List Blk:=[.var (Za e e.kind),.map Qr 4]
theorem petN_a{e:EntT}(h1:¬e.term=7)(h2:¬e.term=9)(h3:¬e.term=8)(h4:¬e.term=10)(h:List Blk):(Ev GV Γ0 60 [ag e.row] h (int 370) h):=by
 exact z0 [.ov 10 (IZ zae),.val (XB e),.val (WM e),.val (V0 e 0),.val (Ws e),.val (Z8 false e 0)] (.c (show @Eq (Option D) (aX GV (ei e) 141 XR (int e.term) true) (some (IZ zae)) from(by first|assumption|rfl|exact lkP h1 h2 h3 h4 rfl|exact lkP2 h1 h2 h3 h4)) (.c (gd false (@l6 e (ei e))) (.c (gd (false&&inS e.stu 0 19999) (@gL (e.frm) (e.til) (ei e))) (.c (gd (false&&inS e.stu 0 19999&&bi e.frm e.til) (@dJ (e.obj) 0 0 (ei e))) (.c (gd (false&&inS e.stu 0 19999&&bi e.frm e.til&&inS e.obj 0 0&&!e.val == -1) (@dJ (e.val) 1 1099511627776 (ei e))) (.c (@eR (false&&inS e.stu 0 19999&&bi e.frm e.til&&inS e.obj 0 0&&(e.val == -1||inS e.val 1 1099511627776)) (ei e)) .n)))))) h
def mostP(t:Int):Option Int:=if t=7 then some 4095 else if t=9 then some 4095 else if t=8 then some 3999 else if t=10 then some 0 else none
def petR(e:EntT):Int:=match mostP e.term with
 | none=>370
 | some m=>mustR (AU m e)
theorem pet_ev{e:EntT}(h:List Blk):Ev GV Γ0 60 [ag e.row] h (int (petR e)) h:=by
 unfold petR mostP
 by_cases h1:e.term=7
 ·have he:e={e with term:=7}:=by cases e;simp at h1;subst h1;rfl
  rw[if_pos h1]
  have:=EP (e:=e) h
  rw[←he] at this
  exact this
 ·rw[if_neg h1]
  by_cases h2:e.term=9
  ·have he:e={e with term:=9}:=by cases e;simp at h2;subst h2;rfl
   rw[if_pos h2]
   have:=EQ (e:=e) h
   rw[←he] at this
   exact this
  ·rw[if_neg h2]
   by_cases h3:e.term=8
   ·have he:e={e with term:=8}:=by cases e;simp at h3;subst h3;rfl
    rw[if_pos h3]
    have:=ER (e:=e) h
    rw[←he] at this
    exact this
   ·rw[if_neg h3]
    by_cases h4:e.term=10
    ·have he:e={e with term:=10}:=by cases e;simp at h4;subst h4;rfl
     rw[if_pos h4]
     have:=AV (e:=e) h
     rw[←he] at this
     exact this
    ·rw[if_neg h4]
     exact petN_a h1 h2 h3 h4 h
def rqHd(k:Int)(r:RqT):Bool:=Qd (r.campus<0)||Qd (r.campus≥7)||Qd (r.no<1)||Qd (r.no>1048576)||Qd (r.st<0)||Qd (r.st≥20000)||Qd (r.time<1)||Qd (r.time>1048576)||Qd (k<1)||Qd (k>5)
def AW(a b:Int)(r:RqT):Bool:=Qd (((r.chs.map G7).length:Int)≥a)&&Qd (((r.chs.map G7).length:Int)≤b)&&AO [] r.chs
def rq2R(r:RqT):Int:=match AW 0 0 r with
 | true=>rqR2 r (buB ⟨r.gsec,r.glab⟩)
 | false=>290
def rq3R(r:RqT):Int:=match AW 1 1 r with
 | true=>rqR3 r (buB ⟨r.gsec,r.glab⟩) (r.chs.headD ⟨0,0⟩)
 | false=>290
def ro(r:RqT):Int:=match rqHd r.kind r with
 | true=>290
 | false=>if r.kind=1 then rqR1 r (AW 1 8 r) else if r.kind=2 then rq2R r else if r.kind=3 then rq3R r else if r.kind=4 then rqR4 r (AW 1 1 r) else rqR5 r (AW 1 1 r)
theorem vQ{r:RqT}(hc:ar r.chs)(h:List Blk):Ev GV Γq 66 [ag r.row] h (int (ro r)) h:=by
 unfold ro
 cases hh:rqHd r.kind r with
 | true=>exact EH hh h
 | false =>
  simp only
  have hgv:∀h,Ev GV Γ0 94 [.agg [int r.gsec,int r.glab]] h (bool (buB ⟨r.gsec,r.glab⟩)) h:=fun h=>iC (b:=⟨r.gsec,r.glab⟩) h
  have hk:r.kind=1∨r.kind=2∨r.kind=3∨r.kind=4∨r.kind=5:=by
   simp[rqHd] at hh
   omega
  have hrow:ag r.row=.agg (rqD r.kind r):=rfl
  rw[hrow]
  rcases hk with hk|hk|hk|hk|hk
  ·rw[hk] at hh ⊢
   rw[if_pos rfl]
   exact rq1_a hh (mj hc _) h
  ·rw[hk] at hh ⊢
   rw[if_neg (by decide),if_pos rfl]
   have hl:=mj (k:=2) (r:=r) (a:=0) (b:=0) (g:=true) (kk:=false) (n:=((r.chs.map G7).length:Int)) hc (Qd (((r.chs.map G7).length:Int)≥0)&&Qd (((r.chs.map G7).length:Int)≤0))
   unfold rq2R
   cases ht:AW 0 0 r with
   | true =>
    have hn:(((r.chs.map G7).length:Int)==0)=true:=by
     simp only[AW,G6,decide_eq_true_eq] at ht
     simp only[beq_iff_eq]
     omega
    exact rq2_t hh (ht▸hl) hgv hn h
   | false=>exact rq2_f hh (ht▸hl) h
  ·rw[hk] at hh ⊢
   rw[if_neg (by decide),if_neg (by decide),if_pos rfl]
   have hl:=mj (k:=3) (r:=r) (a:=1) (b:=1) (g:=true) (kk:=false) (n:=((r.chs.map G7).length:Int)) hc (Qd (((r.chs.map G7).length:Int)≥1)&&Qd (((r.chs.map G7).length:Int)≤1))
   unfold rq3R
   cases ht:AW 1 1 r with
   | true =>
    have hn:((r.chs.map G7).length:Int)≥1:=by
     simp only[AW,G6,decide_eq_true_eq] at ht
     omega
    have hne:(((r.chs.map G7).length:Int)==0)=false:=by
     simp only[beq_eq_false_iff_ne,ne_eq]
     omega
    cases hch:r.chs with
    | nil=>rw[hch] at hn;simp at hn
    | cons c l =>
     have hR:af 0 (r.chs.map G7) c.row 2:=rowAt (n:=0) (by rw[hch];rfl) rfl
     have:=rq3_t hh (ht▸hl) hgv hne hR h
     simpa only [List.headD_cons] using this
   | false=>exact rq3_f hh (ht▸hl) h
  ·rw[hk] at hh ⊢
   rw[if_neg (by decide),if_neg (by decide),if_neg (by decide),if_pos rfl]
   exact rq4_a hh (mj hc _) h
  ·rw[hk] at hh ⊢
   rw[if_neg (by decide),if_neg (by decide),if_neg (by decide),if_neg (by decide)]
   exact rq5_a hh (mj hc _) h
open As (GP)
theorem ES(e:Int)(h:List Blk):Ev GV Γq 92 [GP e] h (int e) h:=As.code_hit rfl e h
theorem AX(h:List Blk):Ev GV Γq 92 [lit .nilIface] h (int 0) h:=As.code_nil h
abbrev Qz(a:SecT):List Blk:=[.var [int a.id,int a.course,int a.term,int a.campus,int a.seats,aa (GU Hm a.mts),aa (GU Hn a.grs),aa (GU ab a.labs),bool a.lab]]
noncomputable abbrev yI(s:SecT):List Blk:=(Qz s)
theorem sk_bad{s:SecT}(hgr:ar s.grs)(hi:ar s.labs)(hb:vJ s=false)(h:List Blk):(Ev GV Γ0 93 [ag s.row] h (GP 230) h):=by
 exact z0 [.val (bool (vJ s)),.b true] (.c (@jC s hgr hi (yI s)) (.c (show(!vJ s)=true from(by rw[hb]<;>rfl)) .n)) h
noncomputable abbrev un(s:SecT):List Blk:=(Qz s)
theorem sk_me{s:SecT}(hgr:ar s.grs)(hi:ar s.labs)(hb:vJ s=true)(hm:(mT s.mts != 0)=true)(h:List Blk):(Ev GV Γ0 93 [ag s.row] h (GP (mT s.mts)) h):=by
 exact z0 [.val (bool (vJ s)),.b false,.val (int (mT s.mts)),.b true] (.c (@jC s hgr hi (un s)) (.c (show(!vJ s)=false from(by rw[hb]<;>rfl)) (.c (@xR (s.mts) (un s)) (.c hm .n)))) h
noncomputable abbrev uo(s:SecT):List Blk:=(Qz s)
theorem sk_ok{s:SecT}(hgr:ar s.grs)(hi:ar s.labs)(hb:vJ s=true)(hm:(mT s.mts != 0)=false)(h:List Blk):(Ev GV Γ0 93 [ag s.row] h (lit .nilIface) h):=by
 exact z0 [.val (bool (vJ s)),.b false,.val (int (mT s.mts)),.b false] (.c (@jC s hgr hi (uo s)) (.c (show(!vJ s)=false from(by rw[hb]<;>rfl)) (.c (@xR (s.mts) (uo s)) (.c hm .n)))) h
noncomputable abbrev yJ(s:SecT):List Blk:=(Qz s)
theorem sc_e{s:SecT}{e:Int}(hk:∀h,Ev GV Γ0 93 [ag s.row] h (GP e) h)(h:List Blk):(Ev GV Γq 63 [ag s.row] h (int e) h):=by
 exact z0 [.val (D.p (Dp.v (Value.iface 165 (Value.agg {toList:=[GW GY e]})))),.val (int e)] (.c (Hx (Γ':=Γq) (@hk (yJ s))) (.c (@ES e (yJ s)) .n)) h
noncomputable abbrev yK(s:SecT):List Blk:=(Qz s)
theorem sc_n{s:SecT}(hk:∀h,Ev GV Γ0 93 [ag s.row] h (lit .nilIface) h)(h:List Blk):(Ev GV Γq 63 [ag s.row] h (int 0) h):=by
 exact z0 [.val (D.p (Dp.v Value.nilIface)),.val (int 0)] (.c (Hx (Γ':=Γq) (@hk (yK s))) (.c (@AX (yK s)) .n)) h
def rp(s:SecT):Int:=match vJ s with
 | false=>230
 | true=>mT s.mts
theorem sK{s:SecT}(hgr:ar s.grs)(hi:ar s.labs)(h:List Blk):Ev GV Γq 63 [ag s.row] h (int (rp s)) h:=by
 unfold rp
 cases hb:vJ s with
 | false=>exact sc_e (fun h=>sk_bad hgr hi hb h) h
 | true =>
  cases hm:(mT s.mts != 0) with
  | true=>exact sc_e (fun h=>sk_me hgr hi hb hm h) h
  | false =>
   have h0:mT s.mts=0:=by simpa using hm
   rw[h0]
   exact sc_n (fun h=>sk_ok hgr hi hb hm h) h
abbrev kfn(k b:Nat):D:=.fn (.func k) [] (zbq b)
abbrev Qu(a b:Nat):List (D × D × Nat):=[(int 1,.agg [fq 53,fq 54],0),(int 2,.agg [kfn 51 a,fq 57],1),(int 3,.agg [kfn 52 a,fq 58],2),(int 4,.agg [kfn 59 b,fq 60],3),(int 5,.agg [kfn 52 a,fq 58],4),(int 6,.agg [fq 61,fq 62],5),(int 7,.agg [fq 64,fq 65],6),(int 8,.agg [kfn 51 a,fq 67],7),(int 9,.agg [fq 68,fq 69],8)]
abbrev ekM:List Blk:=[.var [fq 50],.var [kfn 52 0],.map (Qu 0 1) 9]
abbrev ekMn(n:Nat):List Blk:=[.var [fq 50],.var [kfn 52 n],.map (Qu n (n+1)) 9]
abbrev Ze(a b:Nat):List (D × D × Nat):=[(int 1,Hc [fq 53,fq 54],0),(int 2,Hc [Hy (He 51) [] (zbq a),fq 57],1),(int 3,Hc [Hy (He 52) [] (zbq a),fq 58],2),(int 4,Hc [Hy (He 59) [] (zbq b),fq 60],3),(int 5,Hc [Hy (He 52) [] (zbq a),fq 58],4),(int 6,Hc [fq 61,fq 62],5),(int 7,Hc [fq 64,fq 65],6),(int 8,Hc [Hy (He 51) [] (zbq a),fq 67],7),(int 9,Hc [fq 68,fq 69],8)]
abbrev Qw:List D:=(zbq 0)
theorem ekinds_b:(Ev GV Γ0 34 [] [] (.ref (.mp 2)) ekM):=by
 exact Ev.castH (Ev.of_sym (h':=[.var [fq 50],.var [Hy (He 52) [] Qw],.map (Ze 0 1) 9]) (d:=.ref (.mp 2)) pok [] (by kernel_rfl) .n) (by rfl) (by rfl)
theorem aO(h:List Blk):Ev GV Γ0 34 [] h (.ref (.mp (h.length+2))) (h++ekMn h.length):=ekinds_b.frameN (by kernel_rfl) rfl h
end Go.Vi
open Go Go.Proofs
namespace Go.Vi
set_option maxRecDepth 100000
set_option maxHeartbeats 4000000
abbrev yL:List D:=[int 0,int 0,int 0,int 0,int 0,nq,nq,nq,bool false]
abbrev ET:List D:=[int 0,int 0,int 0,int 0,int 0,nq,int 0,int 0,int 0]
abbrev rq(s:SecT):List D:=s.row.map .p
abbrev nW(k:Int)(e:EntT)(stu obj term val frm til:Int)(text:ByteArray)(sec req:List D):List D:=[int e.time,int e.campus,int e.no,int k,int stu,int obj,int term,int val,int frm,int til,lit (.string text)]++sec++req++[int e.r,int e.s]
abbrev ff(k:Int)(e:EntT):List D:=nW k e 0 0 0 0 0 0 KK yL ET
abbrev YD(a:EntT):List D:=(rqD a.req.kind a.req)
abbrev b5(k:Int)(e:EntT):List D:=nW k e e.stu e.obj e.term e.val e.frm e.til e.text (rq e.sec) (YD e)
def enR(st:Int)(sb:Bool)(r:Int):Int:=match st != 0 with
 | true=>st
 | false=>match !sb with
  | true=>370
  | false=>r
noncomputable abbrev AY(e:EntT):List Blk:=(za1 e)
abbrev ZU(a:EntT):List D:=[int a.time,int a.campus,int a.no]
abbrev XX(a:EntT):List D:=[.agg (b5 a.kind a)]
theorem en_st{e:EntT}{st:Int}(hst:∀h,Ev GV Γ0 33 [.agg (ZU e)] h (int st) h)(hb:(st != 0)=true)(h:List Blk):(Ev GV Γq 15 (XX e) h (int st) h):=by
 exact z0 [.val (int st),.b true] (.c (Hx (Γ':=Γq) (@hst (AY e))) (.c hb .n)) h
noncomputable abbrev vS(e:EntT):List Blk:=(za1 e)
theorem EU{e:EntT}(hgr:ar e.sec.grs)(hi:ar e.sec.labs)(h:List Blk):(Ev GV Γq 62 [ag e.row] h (int (rp e.sec)) h):=by
 exact z0 [.val (int (rp e.sec))] (.c (@sK (e.sec) hgr hi (vS e)) .n) h
noncomputable abbrev vT(e:EntT):List Blk:=(za1 e)
theorem EV{e:EntT}(hc:ar e.req.chs)(h:List Blk):(Ev GV Γq 65 [ag e.row] h (int (ro e.req)) h):=by
 exact z0 [.val (int (ro e.req))] (.c (@vQ (e.req) hc (vT e)) .n) h
abbrev Zn(a:EntT)(b c d f g h i:Int)(j:ByteArray):List D:=(zaD a b c d f g h i j)
abbrev zcG:D:=Hy (He 52) [] Zi
abbrev zas(a:EntT)(b:Int)(c:D)(d:Nat)(f:List D):List Blk:=[.var (Za a b),.var [fq 50],.var [zcG],.map (Ze 1 2) 9,.var [c,fq d],.var f]
noncomputable abbrev po(e:EntT):List Blk:=(zas e 1 (fq 53) 54 (Zn e 1 e.stu e.obj e.term e.val 0 0 {data:=#[]}))
abbrev zaq(a:EntT)(b:Int):List Blk:=[.var (Za a b),.var [fq 50],.var [zcG],.map (Ze 1 2) 9]
noncomputable abbrev uq(e:EntT):List Blk:=(zaq e 1)
noncomputable abbrev kA(e:EntT):List Blk:=[.var (Za e 1)]
abbrev zbE:D:=(.ref (.mp 3))
abbrev YB(a:List Blk)(c:Bool)(d:Int):List Ans:=[.val (int 0),.b false,.late,.call zbE (a),.b false,.inl,.val (bool c),.b false,.val (int d)]
abbrev YT(a:List Blk)(c:Bool):List Ans:=[.val (int 0),.b false,.late,.call zbE (a),.b false,.inl,.val (bool c),.b true]
abbrev XZ(a b:Nat):D:=IZ [Hc [fq a,fq b],bool true]
abbrev V5(a:Bool)(b:Int):D:=(int (enR 0 a b))
abbrev za8(a:Int)(b:EntT)(c d:Int)(f:ByteArray)(g h:List D):List D:=[.agg (nW a b b.stu b.obj b.term b.val c d f g h),.agg (ff a b)]
theorem en1_a{e:EntT}{r:Int}{sb:Bool}(hst:∀h,Ev GV Γ0 33 [.agg [int e.time,int e.campus,int e.no]] h (int 0) h)(hsm:∀h,Ev GV Γ0 9 [.agg (nW 1 e e.stu e.obj e.term e.val 0 0 KK (rq e.sec) (rqD e.req.kind e.req)),.agg (ff 1 e)] h (bool sb) h)(hck:∀h,Ev GV Γ0 54 [.agg (b5 1 e)] h (int r) h)(h:List Blk):(Ev GV Γq 15 [.agg (b5 1 e)] h (int (enR 0 sb r)) h):=by
 cases hc0:!sb
 ·let v0:=IZ [Hc [fq 53,fq 54],bool true]
  exact zD (int r) [.val (int 0),.b false,.late,.call (.ref (.mp 3)) (uq e),.b false,.inl,.val (bool sb),.b false,.val (int r)] (.c (Hx (Γ':=Γq) (@hst (kA e))) (.c (show(0 != 0)=false from rfl) (.c (Hx (Γ':=Γq) (@aO (kA e))) (.e (.ref (.ptr 0 3)) (.e (.ref (.ptr 0 3)) (.e (.ref (.ptr 0 3)) (.c (show @Eq (Option D) (some (int 1)) (some (int 1)) from rfl) (.c (show @Eq (Option D) (some (int 1)) (some (int 1)) from rfl) (.c (show @Eq (Option D) (some (int 1)) (some (int 1)) from rfl) (.c (show @Eq (Option D) (some v0) (some v0) from rfl) (.c (show @Eq (Option D) (some v0) (some v0) from rfl) (.c (show(!true)=false from rfl) (.c (Hx (Γ':=Γq) (@hsm (po e))) (.c hc0 (.c (Hx (Γ':=Γq) (@hck (po e))) .n))))))))))))))) h (by subst v0;first|rfl|(simp only[enR,hc0];first|done|rfl))
 ·let v0:=IZ [Hc [fq 53,fq 54],bool true]
  exact zD (int 370) [.val (int 0),.b false,.late,.call (.ref (.mp 3)) (uq e),.b false,.inl,.val (bool sb),.b true] (.c (Hx (Γ':=Γq) (@hst (kA e))) (.c (show(0 != 0)=false from rfl) (.c (Hx (Γ':=Γq) (@aO (kA e))) (.e (.ref (.ptr 0 3)) (.e (.ref (.ptr 0 3)) (.e (.ref (.ptr 0 3)) (.c (show @Eq (Option D) (some (int 1)) (some (int 1)) from rfl) (.c (show @Eq (Option D) (some (int 1)) (some (int 1)) from rfl) (.c (show @Eq (Option D) (some (int 1)) (some (int 1)) from rfl) (.c (show @Eq (Option D) (some v0) (some v0) from rfl) (.c (show @Eq (Option D) (some v0) (some v0) from rfl) (.c (show(!true)=false from rfl) (.c (Hx (Γ':=Γq) (@hsm (po e))) (.c hc0 .n)))))))))))))) h (by subst v0;first|rfl|(simp only[enR,hc0];first|done|rfl))
noncomputable abbrev pp(e:EntT):List Blk:=(zas e 2 (Hy (He 51) [] Zi) 57 (Zn e 2 0 0 0 0 e.frm e.til e.text))
noncomputable abbrev ur(e:EntT):List Blk:=(zaq e 2)
noncomputable abbrev kB(e:EntT):List Blk:=[.var (Za e 2)]
abbrev QR(a:Int)(b:EntT)(c d f g h i:Int):List D:=(nW a b c d f g h i b.text (rq b.sec) (rqD b.req.kind b.req))
abbrev Yx(a:List Blk)(c:Bool)(d:Int):List Ans:=[.val (int 0),.b false,.late,.call zbE (a),.b false,.inl,.inl,.val (bool c),.b false,.val (int d)]
abbrev YJ(a:List Blk)(c:Bool):List Ans:=[.val (int 0),.b false,.late,.call zbE (a),.b false,.inl,.inl,.val (bool c),.b true]
abbrev za2(a:FuncId)(b:Nat):List D:=[Hc [Hy (He a) [] Zi,fq b],bool true]
theorem en2_a{e:EntT}{r:Int}{sb:Bool}(hst:∀h,Ev GV Γ0 33 [.agg [int e.time,int e.campus,int e.no]] h (int 0) h)(hsm:∀h,Ev GV Γ0 9 [.agg (nW 2 e 0 0 0 0 e.frm e.til e.text (rq e.sec) (rqD e.req.kind e.req)),.agg (ff 2 e)] h (bool sb) h)(hck:∀h,Ev GV Γ0 57 [.agg (b5 2 e)] h (int r) h)(h:List Blk):(Ev GV Γq 15 [.agg (b5 2 e)] h (int (enR 0 sb r)) h):=by
 cases hc0:!sb
 ·let v0:=IZ [Hc [Hy (He 51) [] [.ref (.ptr 1 0)],fq 57],bool true]
  exact zD (int r) [.val (int 0),.b false,.late,.call (.ref (.mp 3)) (ur e),.b false,.inl,.inl,.val (bool sb),.b false,.val (int r)] (.c (Hx (Γ':=Γq) (@hst (kB e))) (.c (show(0 != 0)=false from rfl) (.c (Hx (Γ':=Γq) (@aO (kB e))) (.e (.ref (.ptr 0 3)) (.e (.ref (.ptr 0 3)) (.e (.ref (.ptr 0 3)) (.c (show @Eq (Option D) (some (int 2)) (some (int 2)) from rfl) (.c (show @Eq (Option D) (some (int 2)) (some (int 2)) from rfl) (.c (show @Eq (Option D) (some (int 2)) (some (int 2)) from rfl) (.c (show @Eq (Option D) (some v0) (some v0) from rfl) (.c (show @Eq (Option D) (some v0) (some v0) from rfl) (.c (show(!true)=false from rfl) (.c (Hx (Γ':=Γq) (@hsm (pp e))) (.c hc0 (.c (Hx (Γ':=Γq) (@hck (pp e))) .n))))))))))))))) h (by subst v0;first|rfl|(simp only[enR,hc0];first|done|rfl))
 ·let v0:=IZ [Hc [Hy (He 51) [] [.ref (.ptr 1 0)],fq 57],bool true]
  exact zD (int 370) [.val (int 0),.b false,.late,.call (.ref (.mp 3)) (ur e),.b false,.inl,.inl,.val (bool sb),.b true] (.c (Hx (Γ':=Γq) (@hst (kB e))) (.c (show(0 != 0)=false from rfl) (.c (Hx (Γ':=Γq) (@aO (kB e))) (.e (.ref (.ptr 0 3)) (.e (.ref (.ptr 0 3)) (.e (.ref (.ptr 0 3)) (.c (show @Eq (Option D) (some (int 2)) (some (int 2)) from rfl) (.c (show @Eq (Option D) (some (int 2)) (some (int 2)) from rfl) (.c (show @Eq (Option D) (some (int 2)) (some (int 2)) from rfl) (.c (show @Eq (Option D) (some v0) (some v0) from rfl) (.c (show @Eq (Option D) (some v0) (some v0) from rfl) (.c (show(!true)=false from rfl) (.c (Hx (Γ':=Γq) (@hsm (pp e))) (.c hc0 .n)))))))))))))) h (by subst v0;first|rfl|(simp only[enR,hc0];first|done|rfl))
noncomputable abbrev pq(e:EntT):List Blk:=(zas e 3 (zcG) 58 (Zn e 3 0 0 e.term 0 0 0 e.text))
noncomputable abbrev ut(e:EntT):List Blk:=(zaq e 3)
noncomputable abbrev kC(e:EntT):List Blk:=[.var (Za e 3)]
abbrev zaA:D:=zcG
abbrev zcy:D:=IZ [Hc [zaA,fq 58],bool true]
theorem en3_a{e:EntT}{r:Int}{sb:Bool}(hst:∀h,Ev GV Γ0 33 [.agg [int e.time,int e.campus,int e.no]] h (int 0) h)(hsm:∀h,Ev GV Γ0 9 [.agg (nW 3 e 0 0 e.term 0 0 0 e.text (rq e.sec) (rqD e.req.kind e.req)),.agg (ff 3 e)] h (bool sb) h)(hck:∀h,Ev GV Γ0 58 [.agg (b5 3 e)] h (int r) h)(h:List Blk):(Ev GV Γq 15 [.agg (b5 3 e)] h (int (enR 0 sb r)) h):=by
 cases hc0:!sb
 ·let v0:=IZ [Hc [Hy (He 52) [] [.ref (.ptr 1 0)],fq 58],bool true]
  exact zD (int r) [.val (int 0),.b false,.late,.call (.ref (.mp 3)) (ut e),.b false,.inl,.inl,.val (bool sb),.b false,.val (int r)] (.c (Hx (Γ':=Γq) (@hst (kC e))) (.c (show(0 != 0)=false from rfl) (.c (Hx (Γ':=Γq) (@aO (kC e))) (.e (.ref (.ptr 0 3)) (.e (.ref (.ptr 0 3)) (.e (.ref (.ptr 0 3)) (.c (show @Eq (Option D) (some (int 3)) (some (int 3)) from rfl) (.c (show @Eq (Option D) (some (int 3)) (some (int 3)) from rfl) (.c (show @Eq (Option D) (some (int 3)) (some (int 3)) from rfl) (.c (show @Eq (Option D) (some v0) (some v0) from rfl) (.c (show @Eq (Option D) (some v0) (some v0) from rfl) (.c (show(!true)=false from rfl) (.c (Hx (Γ':=Γq) (@hsm (pq e))) (.c hc0 (.c (Hx (Γ':=Γq) (@hck (pq e))) .n))))))))))))))) h (by subst v0;first|rfl|(simp only[enR,hc0];first|done|rfl))
 ·let v0:=IZ [Hc [Hy (He 52) [] [.ref (.ptr 1 0)],fq 58],bool true]
  exact zD (int 370) [.val (int 0),.b false,.late,.call (.ref (.mp 3)) (ut e),.b false,.inl,.inl,.val (bool sb),.b true] (.c (Hx (Γ':=Γq) (@hst (kC e))) (.c (show(0 != 0)=false from rfl) (.c (Hx (Γ':=Γq) (@aO (kC e))) (.e (.ref (.ptr 0 3)) (.e (.ref (.ptr 0 3)) (.e (.ref (.ptr 0 3)) (.c (show @Eq (Option D) (some (int 3)) (some (int 3)) from rfl) (.c (show @Eq (Option D) (some (int 3)) (some (int 3)) from rfl) (.c (show @Eq (Option D) (some (int 3)) (some (int 3)) from rfl) (.c (show @Eq (Option D) (some v0) (some v0) from rfl) (.c (show @Eq (Option D) (some v0) (some v0) from rfl) (.c (show(!true)=false from rfl) (.c (Hx (Γ':=Γq) (@hsm (pq e))) (.c hc0 .n)))))))))))))) h (by subst v0;first|rfl|(simp only[enR,hc0];first|done|rfl))
abbrev Qa:List D:=(zbq 2)
noncomputable abbrev pt(e:EntT):List Blk:=(zas e 4 (Hy (He 59) [] Qa) 60 (Zn e 4 0 0 0 0 0 0 e.text))
noncomputable abbrev uu(e:EntT):List Blk:=(zaq e 4)
noncomputable abbrev kD(e:EntT):List Blk:=[.var (Za e 4)]
abbrev Z7:D:=Hc [Hy (He 59) [] (zbq 2),fq 60]
theorem en4_a{e:EntT}{r:Int}{sb:Bool}(hst:∀h,Ev GV Γ0 33 [.agg [int e.time,int e.campus,int e.no]] h (int 0) h)(hsm:∀h,Ev GV Γ0 9 [.agg (nW 4 e 0 0 0 0 0 0 e.text (rq e.sec) (rqD e.req.kind e.req)),.agg (ff 4 e)] h (bool sb) h)(hck:∀h,Ev GV Γ0 60 [.agg (b5 4 e)] h (int r) h)(h:List Blk):(Ev GV Γq 15 [.agg (b5 4 e)] h (int (enR 0 sb r)) h):=by
 cases hc0:!sb
 ·let v0:=IZ [Hc [Hy (He 59) [] [.ref (.ptr 2 0)],fq 60],bool true]
  exact zD (int r) [.val (int 0),.b false,.late,.call (.ref (.mp 3)) (uu e),.b false,.inl,.inl,.inl,.val (bool sb),.b false,.val (int r)] (.c (Hx (Γ':=Γq) (@hst (kD e))) (.c (show(0 != 0)=false from rfl) (.c (Hx (Γ':=Γq) (@aO (kD e))) (.e (.ref (.ptr 0 3)) (.e (.ref (.ptr 0 3)) (.e (.ref (.ptr 0 3)) (.c (show @Eq (Option D) (some (int 4)) (some (int 4)) from rfl) (.c (show @Eq (Option D) (some (int 4)) (some (int 4)) from rfl) (.c (show @Eq (Option D) (some (int 4)) (some (int 4)) from rfl) (.c (show @Eq (Option D) (some v0) (some v0) from rfl) (.c (show @Eq (Option D) (some v0) (some v0) from rfl) (.c (show(!true)=false from rfl) (.c (Hx (Γ':=Γq) (@hsm (pt e))) (.c hc0 (.c (Hx (Γ':=Γq) (@hck (pt e))) .n))))))))))))))) h (by subst v0;first|rfl|(simp only[enR,hc0];first|done|rfl))
 ·let v0:=IZ [Hc [Hy (He 59) [] [.ref (.ptr 2 0)],fq 60],bool true]
  exact zD (int 370) [.val (int 0),.b false,.late,.call (.ref (.mp 3)) (uu e),.b false,.inl,.inl,.inl,.val (bool sb),.b true] (.c (Hx (Γ':=Γq) (@hst (kD e))) (.c (show(0 != 0)=false from rfl) (.c (Hx (Γ':=Γq) (@aO (kD e))) (.e (.ref (.ptr 0 3)) (.e (.ref (.ptr 0 3)) (.e (.ref (.ptr 0 3)) (.c (show @Eq (Option D) (some (int 4)) (some (int 4)) from rfl) (.c (show @Eq (Option D) (some (int 4)) (some (int 4)) from rfl) (.c (show @Eq (Option D) (some (int 4)) (some (int 4)) from rfl) (.c (show @Eq (Option D) (some v0) (some v0) from rfl) (.c (show @Eq (Option D) (some v0) (some v0) from rfl) (.c (show(!true)=false from rfl) (.c (Hx (Γ':=Γq) (@hsm (pt e))) (.c hc0 .n)))))))))))))) h (by subst v0;first|rfl|(simp only[enR,hc0];first|done|rfl))
noncomputable abbrev pu(e:EntT):List Blk:=(zas e 5 (zcG) 58 (Zn e 5 0 0 e.term 0 0 0 e.text))
noncomputable abbrev uv(e:EntT):List Blk:=(zaq e 5)
noncomputable abbrev kF(e:EntT):List Blk:=[.var (Za e 5)]
theorem en5_a{e:EntT}{r:Int}{sb:Bool}(hst:∀h,Ev GV Γ0 33 [.agg [int e.time,int e.campus,int e.no]] h (int 0) h)(hsm:∀h,Ev GV Γ0 9 [.agg (nW 5 e 0 0 e.term 0 0 0 e.text (rq e.sec) (rqD e.req.kind e.req)),.agg (ff 5 e)] h (bool sb) h)(hck:∀h,Ev GV Γ0 58 [.agg (b5 5 e)] h (int r) h)(h:List Blk):(Ev GV Γq 15 [.agg (b5 5 e)] h (int (enR 0 sb r)) h):=by
 cases hc0:!sb
 ·let v0:=IZ [Hc [Hy (He 52) [] [.ref (.ptr 1 0)],fq 58],bool true]
  exact zD (int r) [.val (int 0),.b false,.late,.call (.ref (.mp 3)) (uv e),.b false,.inl,.inl,.val (bool sb),.b false,.val (int r)] (.c (Hx (Γ':=Γq) (@hst (kF e))) (.c (show(0 != 0)=false from rfl) (.c (Hx (Γ':=Γq) (@aO (kF e))) (.e (.ref (.ptr 0 3)) (.e (.ref (.ptr 0 3)) (.e (.ref (.ptr 0 3)) (.c (show @Eq (Option D) (some (int 5)) (some (int 5)) from rfl) (.c (show @Eq (Option D) (some (int 5)) (some (int 5)) from rfl) (.c (show @Eq (Option D) (some (int 5)) (some (int 5)) from rfl) (.c (show @Eq (Option D) (some v0) (some v0) from rfl) (.c (show @Eq (Option D) (some v0) (some v0) from rfl) (.c (show(!true)=false from rfl) (.c (Hx (Γ':=Γq) (@hsm (pu e))) (.c hc0 (.c (Hx (Γ':=Γq) (@hck (pu e))) .n))))))))))))))) h (by subst v0;first|rfl|(simp only[enR,hc0];first|done|rfl))
 ·let v0:=IZ [Hc [Hy (He 52) [] [.ref (.ptr 1 0)],fq 58],bool true]
  exact zD (int 370) [.val (int 0),.b false,.late,.call (.ref (.mp 3)) (uv e),.b false,.inl,.inl,.val (bool sb),.b true] (.c (Hx (Γ':=Γq) (@hst (kF e))) (.c (show(0 != 0)=false from rfl) (.c (Hx (Γ':=Γq) (@aO (kF e))) (.e (.ref (.ptr 0 3)) (.e (.ref (.ptr 0 3)) (.e (.ref (.ptr 0 3)) (.c (show @Eq (Option D) (some (int 5)) (some (int 5)) from rfl) (.c (show @Eq (Option D) (some (int 5)) (some (int 5)) from rfl) (.c (show @Eq (Option D) (some (int 5)) (some (int 5)) from rfl) (.c (show @Eq (Option D) (some v0) (some v0) from rfl) (.c (show @Eq (Option D) (some v0) (some v0) from rfl) (.c (show(!true)=false from rfl) (.c (Hx (Γ':=Γq) (@hsm (pu e))) (.c hc0 .n)))))))))))))) h (by subst v0;first|rfl|(simp only[enR,hc0];first|done|rfl))
abbrev Zv(a:EntT):D:=aa (GU G7 a.req.chs)
abbrev ZB(a:EntT):D:=int a.req.campus
abbrev ZV(a:EntT):D:=int a.req.kind
abbrev ZW(a:EntT):D:=int a.req.time
abbrev Z3(a:EntT):D:=int a.req.glab
abbrev Z4(a:EntT):D:=int a.req.gsec
noncomputable abbrev pv(e:EntT):List Blk:=(zas e 6 (fq 61) 62 [int e.time,int e.campus,int e.no,int 6,int e.stu,int e.obj,int e.term,int e.val,int e.frm,int e.til,ad e.text,int 0,int 0,int 0,int 0,int 0,nq,nq,nq,bool false,(ZB e),int e.req.no,int e.req.st,(ZV e),(ZW e),(Zv e),(Z4 e),(Z3 e),int e.req.key,int e.r,int e.s])
noncomputable abbrev uw(e:EntT):List Blk:=(zaq e 6)
noncomputable abbrev kG(e:EntT):List Blk:=[.var (Za e 6)]
abbrev Wg:Option D:=(some (int 6))
theorem en6_a{e:EntT}{r:Int}{sb:Bool}(hst:∀h,Ev GV Γ0 33 [.agg [int e.time,int e.campus,int e.no]] h (int 0) h)(hsm:∀h,Ev GV Γ0 9 [.agg (nW 6 e e.stu e.obj e.term e.val e.frm e.til e.text yL (rqD e.req.kind e.req)),.agg (ff 6 e)] h (bool sb) h)(hck:∀h,Ev GV Γq 62 [.agg (b5 6 e)] h (int r) h)(h:List Blk):(Ev GV Γq 15 [.agg (b5 6 e)] h (int (enR 0 sb r)) h):=by
 cases hc0:!sb
 ·let v0:=IZ [Hc [fq 61,fq 62],bool true]
  exact zD (int r) [.val (int 0),.b false,.late,.call (.ref (.mp 3)) (uw e),.b false,.inl,.val (bool sb),.b false,.val (int r)] (.c (Hx (Γ':=Γq) (@hst (kG e))) (.c (show(0 != 0)=false from rfl) (.c (Hx (Γ':=Γq) (@aO (kG e))) (.e (.ref (.ptr 0 3)) (.e (.ref (.ptr 0 3)) (.e (.ref (.ptr 0 3)) (.c (show @Eq (Option D) (some (int 6)) (some (int 6)) from rfl) (.c (show @Eq (Option D) (some (int 6)) (some (int 6)) from rfl) (.c (show @Eq (Option D) (some (int 6)) (some (int 6)) from rfl) (.c (show @Eq (Option D) (some v0) (some v0) from rfl) (.c (show @Eq (Option D) (some v0) (some v0) from rfl) (.c (show(!true)=false from rfl) (.c (Hx (Γ':=Γq) (@hsm (pv e))) (.c hc0 (.c (@hck (pv e)) .n))))))))))))))) h (by subst v0;first|rfl|(simp only[enR,hc0];first|done|rfl))
 ·let v0:=IZ [Hc [fq 61,fq 62],bool true]
  exact zD (int 370) [.val (int 0),.b false,.late,.call (.ref (.mp 3)) (uw e),.b false,.inl,.val (bool sb),.b true] (.c (Hx (Γ':=Γq) (@hst (kG e))) (.c (show(0 != 0)=false from rfl) (.c (Hx (Γ':=Γq) (@aO (kG e))) (.e (.ref (.ptr 0 3)) (.e (.ref (.ptr 0 3)) (.e (.ref (.ptr 0 3)) (.c (show @Eq (Option D) (some (int 6)) (some (int 6)) from rfl) (.c (show @Eq (Option D) (some (int 6)) (some (int 6)) from rfl) (.c (show @Eq (Option D) (some (int 6)) (some (int 6)) from rfl) (.c (show @Eq (Option D) (some v0) (some v0) from rfl) (.c (show @Eq (Option D) (some v0) (some v0) from rfl) (.c (show(!true)=false from rfl) (.c (Hx (Γ':=Γq) (@hsm (pv e))) (.c hc0 .n)))))))))))))) h (by subst v0;first|rfl|(simp only[enR,hc0];first|done|rfl))
abbrev Zr(a:EntT):List (List Dp):=(GU ab a.sec.labs)
abbrev Zw(a:EntT):D:=aa (GU Hm a.sec.mts)
abbrev Zx(a:EntT):D:=aa (GU Hn a.sec.grs)
abbrev ZG(a:EntT):D:=int a.sec.campus
abbrev ZH(a:EntT):D:=int a.sec.course
abbrev ZN(a:EntT):D:=int a.sec.seats
abbrev ZX(a:EntT):D:=bool a.sec.lab
abbrev ZY(a:EntT):D:=int a.sec.term
noncomputable abbrev pw(e:EntT):List Blk:=[.var (Za e 7),.var [fq 50],.var [zaA],.map (Ze 1 2) 9,.var [fq 64,fq 65],.var [int e.time,int e.campus,int e.no,int 7,int e.stu,int e.obj,int e.term,int e.val,int e.frm,int e.til,ad e.text,int e.sec.id,(ZH e),(ZY e),(ZG e),(ZN e),(Zw e),(Zx e),aa (Zr e),(ZX e),int 0,int 0,int 0,int 0,int 0,nq,int 0,int 0,int 0,int e.r,int e.s]]
noncomputable abbrev ux(e:EntT):List Blk:=(zaq e 7)
noncomputable abbrev kH(e:EntT):List Blk:=[.var (Za e 7)]
abbrev Wh:Option D:=(some (int 7))
theorem en7_a{e:EntT}{r:Int}{sb:Bool}(hst:∀h,Ev GV Γ0 33 [.agg [int e.time,int e.campus,int e.no]] h (int 0) h)(hsm:∀h,Ev GV Γ0 9 [.agg (nW 7 e e.stu e.obj e.term e.val e.frm e.til e.text (rq e.sec) ET),.agg (ff 7 e)] h (bool sb) h)(hck:∀h,Ev GV Γq 65 [.agg (b5 7 e)] h (int r) h)(h:List Blk):(Ev GV Γq 15 [.agg (b5 7 e)] h (int (enR 0 sb r)) h):=by
 cases hc0:!sb
 ·let v0:=IZ [Hc [fq 64,fq 65],bool true]
  exact zD (int r) [.val (int 0),.b false,.late,.call (.ref (.mp 3)) (ux e),.b false,.inl,.val (bool sb),.b false,.val (int r)] (.c (Hx (Γ':=Γq) (@hst (kH e))) (.c (show(0 != 0)=false from rfl) (.c (Hx (Γ':=Γq) (@aO (kH e))) (.e (.ref (.ptr 0 3)) (.e (.ref (.ptr 0 3)) (.e (.ref (.ptr 0 3)) (.c (show @Eq (Option D) (some (int 7)) (some (int 7)) from rfl) (.c (show @Eq (Option D) (some (int 7)) (some (int 7)) from rfl) (.c (show @Eq (Option D) (some (int 7)) (some (int 7)) from rfl) (.c (show @Eq (Option D) (some v0) (some v0) from rfl) (.c (show @Eq (Option D) (some v0) (some v0) from rfl) (.c (show(!true)=false from rfl) (.c (Hx (Γ':=Γq) (@hsm (pw e))) (.c hc0 (.c (@hck (pw e)) .n))))))))))))))) h (by subst v0;first|rfl|(simp only[enR,hc0];first|done|rfl))
 ·let v0:=IZ [Hc [fq 64,fq 65],bool true]
  exact zD (int 370) [.val (int 0),.b false,.late,.call (.ref (.mp 3)) (ux e),.b false,.inl,.val (bool sb),.b true] (.c (Hx (Γ':=Γq) (@hst (kH e))) (.c (show(0 != 0)=false from rfl) (.c (Hx (Γ':=Γq) (@aO (kH e))) (.e (.ref (.ptr 0 3)) (.e (.ref (.ptr 0 3)) (.e (.ref (.ptr 0 3)) (.c (show @Eq (Option D) (some (int 7)) (some (int 7)) from rfl) (.c (show @Eq (Option D) (some (int 7)) (some (int 7)) from rfl) (.c (show @Eq (Option D) (some (int 7)) (some (int 7)) from rfl) (.c (show @Eq (Option D) (some v0) (some v0) from rfl) (.c (show @Eq (Option D) (some v0) (some v0) from rfl) (.c (show(!true)=false from rfl) (.c (Hx (Γ':=Γq) (@hsm (pw e))) (.c hc0 .n)))))))))))))) h (by subst v0;first|rfl|(simp only[enR,hc0];first|done|rfl))
noncomputable abbrev py(e:EntT):List Blk:=(zas e 8 (Hy (He 51) [] Zi) 67 (Zn e 8 0 0 0 0 e.frm e.til e.text))
noncomputable abbrev uy(e:EntT):List Blk:=(zaq e 8)
noncomputable abbrev kI(e:EntT):List Blk:=[.var (Za e 8)]
abbrev Wi:Option D:=(some (int 8))
theorem en8_a{e:EntT}{r:Int}{sb:Bool}(hst:∀h,Ev GV Γ0 33 [.agg [int e.time,int e.campus,int e.no]] h (int 0) h)(hsm:∀h,Ev GV Γ0 9 [.agg (nW 8 e 0 0 0 0 e.frm e.til e.text (rq e.sec) (rqD e.req.kind e.req)),.agg (ff 8 e)] h (bool sb) h)(hck:∀h,Ev GV Γ0 67 [.agg (b5 8 e)] h (int r) h)(h:List Blk):(Ev GV Γq 15 [.agg (b5 8 e)] h (int (enR 0 sb r)) h):=by
 cases hc0:!sb
 ·let v0:=IZ [Hc [Hy (He 51) [] [.ref (.ptr 1 0)],fq 67],bool true]
  exact zD (int r) [.val (int 0),.b false,.late,.call (.ref (.mp 3)) (uy e),.b false,.inl,.inl,.val (bool sb),.b false,.val (int r)] (.c (Hx (Γ':=Γq) (@hst (kI e))) (.c (show(0 != 0)=false from rfl) (.c (Hx (Γ':=Γq) (@aO (kI e))) (.e (.ref (.ptr 0 3)) (.e (.ref (.ptr 0 3)) (.e (.ref (.ptr 0 3)) (.c (show @Eq (Option D) (some (int 8)) (some (int 8)) from rfl) (.c (show @Eq (Option D) (some (int 8)) (some (int 8)) from rfl) (.c (show @Eq (Option D) (some (int 8)) (some (int 8)) from rfl) (.c (show @Eq (Option D) (some v0) (some v0) from rfl) (.c (show @Eq (Option D) (some v0) (some v0) from rfl) (.c (show(!true)=false from rfl) (.c (Hx (Γ':=Γq) (@hsm (py e))) (.c hc0 (.c (Hx (Γ':=Γq) (@hck (py e))) .n))))))))))))))) h (by subst v0;first|rfl|(simp only[enR,hc0];first|done|rfl))
 ·let v0:=IZ [Hc [Hy (He 51) [] [.ref (.ptr 1 0)],fq 67],bool true]
  exact zD (int 370) [.val (int 0),.b false,.late,.call (.ref (.mp 3)) (uy e),.b false,.inl,.inl,.val (bool sb),.b true] (.c (Hx (Γ':=Γq) (@hst (kI e))) (.c (show(0 != 0)=false from rfl) (.c (Hx (Γ':=Γq) (@aO (kI e))) (.e (.ref (.ptr 0 3)) (.e (.ref (.ptr 0 3)) (.e (.ref (.ptr 0 3)) (.c (show @Eq (Option D) (some (int 8)) (some (int 8)) from rfl) (.c (show @Eq (Option D) (some (int 8)) (some (int 8)) from rfl) (.c (show @Eq (Option D) (some (int 8)) (some (int 8)) from rfl) (.c (show @Eq (Option D) (some v0) (some v0) from rfl) (.c (show @Eq (Option D) (some v0) (some v0) from rfl) (.c (show(!true)=false from rfl) (.c (Hx (Γ':=Γq) (@hsm (py e))) (.c hc0 .n)))))))))))))) h (by subst v0;first|rfl|(simp only[enR,hc0];first|done|rfl))
noncomputable abbrev pz(e:EntT):List Blk:=(zas e 9 (fq 68) 69 (Zn e 9 e.stu e.obj 0 e.val e.frm e.til e.text))
noncomputable abbrev uz(e:EntT):List Blk:=(zaq e 9)
noncomputable abbrev kJ(e:EntT):List Blk:=[.var (Za e 9)]
abbrev Wj:Option D:=(some (int 9))
theorem en9_a{e:EntT}{r:Int}{sb:Bool}(hst:∀h,Ev GV Γ0 33 [.agg [int e.time,int e.campus,int e.no]] h (int 0) h)(hsm:∀h,Ev GV Γ0 9 [.agg (nW 9 e e.stu e.obj 0 e.val e.frm e.til e.text (rq e.sec) (rqD e.req.kind e.req)),.agg (ff 9 e)] h (bool sb) h)(hck:∀h,Ev GV Γ0 69 [.agg (b5 9 e)] h (int r) h)(h:List Blk):(Ev GV Γq 15 [.agg (b5 9 e)] h (int (enR 0 sb r)) h):=by
 cases hc0:!sb
 ·let v0:=IZ [Hc [fq 68,fq 69],bool true]
  exact zD (int r) [.val (int 0),.b false,.late,.call (.ref (.mp 3)) (uz e),.b false,.inl,.val (bool sb),.b false,.val (int r)] (.c (Hx (Γ':=Γq) (@hst (kJ e))) (.c (show(0 != 0)=false from rfl) (.c (Hx (Γ':=Γq) (@aO (kJ e))) (.e (.ref (.ptr 0 3)) (.e (.ref (.ptr 0 3)) (.e (.ref (.ptr 0 3)) (.c (show @Eq (Option D) (some (int 9)) (some (int 9)) from rfl) (.c (show @Eq (Option D) (some (int 9)) (some (int 9)) from rfl) (.c (show @Eq (Option D) (some (int 9)) (some (int 9)) from rfl) (.c (show @Eq (Option D) (some v0) (some v0) from rfl) (.c (show @Eq (Option D) (some v0) (some v0) from rfl) (.c (show(!true)=false from rfl) (.c (Hx (Γ':=Γq) (@hsm (pz e))) (.c hc0 (.c (Hx (Γ':=Γq) (@hck (pz e))) .n))))))))))))))) h (by subst v0;first|rfl|(simp only[enR,hc0];first|done|rfl))
 ·let v0:=IZ [Hc [fq 68,fq 69],bool true]
  exact zD (int 370) [.val (int 0),.b false,.late,.call (.ref (.mp 3)) (uz e),.b false,.inl,.val (bool sb),.b true] (.c (Hx (Γ':=Γq) (@hst (kJ e))) (.c (show(0 != 0)=false from rfl) (.c (Hx (Γ':=Γq) (@aO (kJ e))) (.e (.ref (.ptr 0 3)) (.e (.ref (.ptr 0 3)) (.e (.ref (.ptr 0 3)) (.c (show @Eq (Option D) (some (int 9)) (some (int 9)) from rfl) (.c (show @Eq (Option D) (some (int 9)) (some (int 9)) from rfl) (.c (show @Eq (Option D) (some (int 9)) (some (int 9)) from rfl) (.c (show @Eq (Option D) (some v0) (some v0) from rfl) (.c (show @Eq (Option D) (some v0) (some v0) from rfl) (.c (show(!true)=false from rfl) (.c (Hx (Γ':=Γq) (@hsm (pz e))) (.c hc0 .n)))))))))))))) h (by subst v0;first|rfl|(simp only[enR,hc0];first|done|rfl))
abbrev ekKV(n:Nat):List (D×D×Nat):=(Qu n (n+1))
theorem lkE2{k:Int}(hk:¬(1≤k∧k≤9))(n:Nat):Ca GV 81 (ekKV n) (int k) true (.tup (zah (lit .nilFunc))):=by
 have e1:GV.underlying 81=some (.map 3 79):=by kernel_rfl
 have e2:cV GV 3 (int k)=true:=by kernel_rfl
 have e3:fd GV 79=some (.agg #[.nilFunc,.nilFunc]):=by kernel_rfl
 have e4:b9 (int k) (ekKV n) 0=some none:=by
  have nn:∀m:Int,1≤m→m≤9→bC (int k) (int m)=some false:=fun m h1 h2=>by
   have:¬k=m:=by omega
   simp[bC,this]
  simp only[b9,nn 1 (by decide) (by decide),nn 2 (by decide) (by decide),nn 3 (by decide) (by decide),nn 4 (by decide) (by decide),nn 5 (by decide) (by decide),nn 6 (by decide) (by decide),nn 7 (by decide) (by decide),nn 8 (by decide) (by decide),nn 9 (by decide) (by decide)]
 unfold Ca aX
 simp only[e1,j4,Hu,e2,if_true,e3,e4]
 rfl
noncomputable abbrev uA(e:EntT):List Blk:=(zaq e e.kind)
noncomputable abbrev uB(e:EntT):List Blk:=(za1 e)
abbrev Yo(a:EntT):Option D:=(some (int a.kind))
theorem enN_a{e:EntT}(hk:¬(1≤e.kind∧e.kind≤9))(hst:∀h,Ev GV Γ0 33 [.agg (ZU e)] h (int 0) h)(h:List Blk):(Ev GV Γq 15 (XX e) h (int 370) h):=by
 let v0:List Blk:=[.map (Ze 1 2) 0]
 let v1:=IZ [Hc [D.p (Dp.v Hw),D.p (Dp.v Hw)],bool false]
 refine z0 [.val (int 0),.b false,.late,.call zbE (uA e),.ov 17 (IZ [Hc [lit Hw,lit Hw],bool false]),.b true] (.c (Hx (Γ':=Γq) (@hst (uB e))) (.c (show(0 != 0)=false from rfl) (.c (Hx (Γ':=Γq) (@aO (uB e))) (.c (show @Eq (Option D) (aX GV (uA e) 81 zbE (int e.kind) true) (some v1) from ?_) (.e ZC (.e ZC (.e ZC (.c (show @Eq (Option D) (Yo e) (Yo e) from rfl) (.c (show @Eq (Option D) (Yo e) (Yo e) from rfl) (.c (show @Eq (Option D) (Yo e) (Yo e) from rfl) (.c (show @Eq (Option D) (aX GV v0 81 zb9 (int e.kind) true) (some v1) from ?_) (.c (show @Eq (Option D) (aX GV v0 81 zb9 (int e.kind) true) (some v1) from ?_) (.c (show(!false)=true from rfl) .n))))))))))))) h<;>subst v0 v1<;>(first|assumption|rfl|exact lkE2 hk _)
end Go.Vi
