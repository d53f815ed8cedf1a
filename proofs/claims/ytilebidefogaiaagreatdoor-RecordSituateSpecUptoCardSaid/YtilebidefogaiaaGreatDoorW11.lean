/- RecordSituateSpecUpto: part of the proof: contracts of the functions that the law reaches, and the law. No conditions beyond the given statement's own. -/
import Derived.Test.YtilebidefogaiaaGreatDoorW10
import Derived.LaidHandle
open Decidable renaming decide → Zd
open List renaming mem_singleton → Lb, mergeSort_singleton → KR, flatMap_cons → Kt, length_map → Ir, length_append → ID, length_cons → HY, replicate → HX, mapM_cons → MH, map_cons → Il, drop_drop → LC, take_append_drop → MQ
open Go.Proofs.Tryz renaming prog → Hm, underlying30 → LH
open Go.IntKind renaming wrap → Ht, i64 → Hp
open Go.Vi.FactT renaming row → Hv
open Exists renaming intro → Kq
open Go.Vi.Dp renaming v → JB
open Go.Value renaming slice → J4, okWide → Nn
open Go.Vi.D renaming tup → HV, agg → H6
open Go.Vi.Ev renaming castH → H4, frameX → JA, glob0 → H5
open Bool renaming or_eq_false_iff → I6, not_eq_false' → Kf, and_eq_true → Hx, false_eq_true → Ik
open Option renaming bind_eq_bind → MP, bind_eq_some_iff → J3, map_eq_some_iff → Hy
open Option.some renaming injEq → Ho
open Go.DataW renaming trod → KN
open Prod.mk renaming injEq → Hu
open Go.DataW.agg renaming injEq → Na
open Go.Proofs.YtilebidefogaiaaGreatDoor.Rows renaming laid_sizar_rules_kinds → Kv
open Go Go.Proofs
namespace Go.Vi
set_option maxRecDepth 100000
set_option maxHeartbeats 4000000
mutual
def nilP:Dp→Dp
 | .v (.slice none 0 0)=>.sl []
 | .sl es=>.sl (wu es)
 | x=>x
def wu:List (List Dp)→List (List Dp)
 | []=>[]
 | e::es=>nilR e::wu es
def nilR:List Dp→List Dp
 | []=>[]
 | d::ds=>nilP d::nilR ds
end
theorem lJ:∀es:List (List Dp),(wu es).length=es.length
 | []=>rfl
 | e::es=>by simp[wu,lJ es]
theorem uS:∀es:List Dp,(nilR es).length=es.length
 | []=>rfl
 | e::es=>by simp[nilR,uS es]
mutual
theorem uT{w:World}{av:Nat→Prop}:∀(x:Dp) (y:Value),RelP w av x y→RelP w av (nilP x) y
 | .v x,y,r=>by
  unfold nilP
  split
  ·rename_i hx
   cases hx
   simp only[RelP] at r ⊢
   exact .inl ⟨trivial,none,0,r,fun _=>rfl⟩
  ·rename_i hx;cases hx
  ·exact r
 | .sl es,y,r=>by
  simp only[nilP,RelP] at r ⊢
  rcases r with ⟨rfl,h⟩|⟨bV,off,cap,sz,h1,h2,h3⟩
  ·exact .inl ⟨rfl,h⟩
  ·exact .inr ⟨bV,off,cap,sz,by rw[lJ];exact h1,by rw[lJ];exact h2,rj es off h3⟩
theorem rj{w:World}{av:Nat→Prop}{bV sz:Nat}:∀(es:List (List Dp)) (off:Nat),RelRows w av bV sz off es→RelRows w av bV sz off (wu es)
 | [],_,r=>r
 | e::es,off,r=>by
  simp only[RelRows,wu] at r ⊢
  exact⟨by rw[uS];exact r.1,uU e off r.2.1,rj es _ r.2.2⟩
theorem uU{w:World}{av:Nat→Prop}{bV:Nat}:∀(ds:List Dp) (off:Nat),RelCells w av bV off ds→RelCells w av bV off (nilR ds)
 | [],_,r=>r
 | d::ds,off,r=>by
  simp only[RelCells,nilR] at r ⊢
  obtain⟨⟨h1,y,h2,h3⟩,h4⟩:=r
  exact⟨⟨h1,y,h2,uT d y h3⟩,uU ds _ h4⟩
end
mutual
def nilX:D→D
 | .p x=>.p (nilP x)
 | .agg cs=>.agg (yT cs)
 | d=>d
def yT:List D→List D
 | []=>[]
 | d::ds=>nilX d::yT ds
end
mutual
theorem BN{w:World}{av:Nat→Prop}{l:Loc}{h:List Blk}:∀(d:D) (y:Value),Rel w av l h d y→Rel w av l h (nilX d) y
 | .p x,y,r=>by simp only[nilX,Rel] at r ⊢;exact uT x y r
 | .agg cs,y,r=>by
  simp only[nilX,Rel] at r ⊢
  obtain⟨vs,r1,r2⟩:=r
  exact⟨vs,r1,lK cs vs.toList r2⟩
 | .tup _,_,r=>r
 | .any,_,r=>r
 | .ref _,_,r=>r
 | .ep _,_,r=>r
 | .csl _,_,r=>r
 | .fn _ _ _,_,r=>r
 | .grd _ _,_,r=>r
theorem lK{w:World}{av:Nat→Prop}{l:Loc}{h:List Blk}:∀(ds:List D) (ys:List Value),RelL w av l h ds ys→RelL w av l h (yT ds) ys
 | [],[],_=>trivial
 | [],_::_,r=>by simp[RelL] at r
 | _::_,[],r=>by simp[RelL] at r
 | d::ds,y::ys,r=>by
  simp only[RelL,yT] at r ⊢
  exact⟨BN d y r.1,lK ds ys r.2⟩
end
theorem Ev.argX{P:Program}{Γ:aw}{f:FuncId}{args Rb:List D}{h h':List Blk}{d:D}(ha:yT args=Rb)(he:Ev P Γ f Rb h d h'):Ev P Γ f args h d h' :=
 fun O w l vs R ra=>he O w l vs R (ha▸lK _ _ ra)
theorem Ev.frzG{P:Program}{Γ:aw}{f:FuncId}{args Rb:List D}{h h' H:List Blk}{d:D}(b:Nat)(rows:List (List Dp)){e sz:Nat}(hb:h[b]? = some (.vec (rows.map (·.map .p)) e sz))
  (ha:D.mapRL (bD b e rows) args=Rb) (hh:mapH (bD b e rows) b .gone h=H) (he:Ev P Γ f Rb H d h'):Ev P Γ f args h d h':=by
 subst ha;subst hh
 intro O w l vs R ra
 have hf:=fun (r:Ref) (y:Value) (rr:RefRel l h r y)=>xN R hb rr (f:=bD b e rows)
 have R':=R.mapH hb (by simp) hf (by simp[BlkOk]) (fun y hr=>by unfold RefRel at hr;simp[hb] at hr)
 have ra':=bK (fun _ ho=>fX hb (by simp) ho) hf ra
 have E:=Ext.mapH (f:=bD b e rows) (xb:=.gone) (Ext.refl w l h) hb (by simp) (fun x _ _=>⟨by cases x<;>simp[Blk.le],fun h=>by cases x<;>simp[Blk.stays] at h⟩)
 refine CallsIn.mono (he O w l vs R' ra') ?_
 rintro e w' ⟨v,d2,h2,l',rfl,⟨rfl,rfl⟩,R2,E2,rd⟩
 exact⟨v,_,_,l',rfl,⟨rfl,rfl⟩,R2,E.trans E2,rd⟩
abbrev bz:ByteArray:=⟨#[]⟩
abbrev wW:WorldT:=⟨[],[],[],[]⟩
theorem yU:wW.ok:=⟨by simp,by simp,by simp,by simp[af],by simp[af],by simp⟩
abbrev wR(o:Int):RuleT:=.mk o 0 bz 0 0 []
abbrev wC:CourseT:=⟨⟨#[65]⟩,7,4,0,wR 1,wR 2⟩
abbrev wF:List FactT:=[⟨1,7,0,0,0,1024,8,0⟩,⟨12,0,0,1,0,1024,8,1⟩,⟨5,3,7,25,2,3,9,0⟩]
abbrev w1:WorldT:=⟨[wC],[],[],wF⟩
abbrev n0:Dp:=.v (.slice none 0 0)
abbrev wCr:List (List Dp):=[[vs ⟨#[65]⟩,vi 7,vi 4,vi 0,vi 1,vi 0,vs bz,vi 0,vi 0,n0,vi 2,vi 0,vs bz,vi 0,vi 0,n0]]
theorem ET:w1.ok:=by
 refine⟨?_,by simp,by simp,by simp[af],by simp[af],?_⟩
 ·intro x hx
  simp only[Lb] at hx
  subst hx
  exact⟨⟨by unfold I64 af;simp,trivial⟩,⟨by unfold I64 af;simp,trivial⟩⟩
 ·intro f hf
  simp only[List.mem_cons,List.not_mem_nil,or_false] at hf
  rcases hf with rfl|rfl|rfl<;>(constructor<;>simp[I64])
theorem w0_n(k:Int):ad wW.f k=[]:=by simp[ad,cD,forL,nuG]
theorem w0_a(k st t:Int):cH wW k st t=[]:=by
 unfold cH b7
 rw[w0_n]
 simp
theorem w1_n:ad wF 9=[7]:=by
 have:cD (u0 wF 9) wF=[7]:=by kernel_rfl
 rw[ad,this,KR]
theorem w1_3:cH w1 9 3 3=[⟨7,2,9,1,4⟩]:=by
 have hp:aR 5 3 7 0 3 9 wF=[⟨2,25⟩]:=by unfold aR;rw[jy];kernel_rfl
 have:b7 w1 9 3 3=[⟨7,2,9,1,4⟩]:=by
  unfold b7;rw[w1_n]
  simp only[Kt,List.flatMap_nil,eF,hp]
  kernel_rfl
 rw[cH,this,KR]
theorem w1_2:cH w1 9 3 2=[]:=by
 have hp:aR 5 3 7 0 2 9 wF=[]:=by unfold aR;rw[jy];kernel_rfl
 have:b7 w1 9 3 2=[]:=by
  unfold b7;rw[w1_n]
  simp only[Kt,List.flatMap_nil,eF,hp]
  kernel_rfl
 rw[cH,this,List.mergeSort_nil]
theorem w2a_x(h:List Blk):Ev Hm Γk 23 [.agg [ay,ay,ay,ay],int 3,int 5,int 100] h (.tup [.agg [int 3,ab []],ab (rdR (aD wW 100 3 5)),int 0]) h:=Ev.argX rfl (by
 have:=u6 yU (st:=3) (term:=5) (known:=100) h
 rw[show rofR wW 3 5 100=(⟨3,cH wW 100 3 5⟩,aD wW 100 3 5,0) from rfl,w0_a] at this
 exact this)
theorem w2b_ev(h:List Blk):Ev Hm Γk 23 [.agg [ay,ay,ay,ay],int (-1),int 5,int 100] h (.tup [.agg [int 0,ab []],ab [],int 150]) h:=Ev.argX rfl (u6 yU (st := -1) (term:=5) (known:=100) h)
theorem w0_l(k:Int):(ad wW.f k).length≤100:=by rw[w0_n];simp
theorem w2c_ev(h:List Blk):Ev Hm Γk 19 [.agg [ay,ay,ay,ay],int 3,int 1024,int 100,ay] h (.tup [.agg [ay,int 0,int 0,int 0],ay,int 150]) h:=Ev.argX rfl (eK yU (st:=3) (term:=1024) (known:=100) (now:=[]) (by simp) (w0_l _) h)
theorem w2d_ev:Ev Hm Γk 19 [.agg [ay,ay,ay,ay],int 3,int 5,int 100,.ref (.vec 0 0)] [.vec [[int 7],[int 7]] 0 1] (.tup [.agg [ay,int 0,int 0,int 0],ay,int 150]) [.gone] :=
 Ev.frzG 0 [[vi 7],[vi 7]] rfl rfl rfl (Ev.argX rfl (eK yU (st:=3) (term:=5) (known:=100) (now:=[7,7]) (by simp) (w0_l _) _))
theorem yV{w:WorldT}{st term known:Int}{now:List Int}{aa la:List AttT}{sm:SM}{x:SM}{c:Int}(ha:cH w known st term=aa)(hb:(!(Zd (st≥0)&&Zd (st≤19999))||!(Zd (term≥0)&&Zd (term≤1023)))=false)(hs:snR now=.inl (c,sm))(hc:iE aa (cM w known term aa)=(la,0))(hx:sitX la=.inl ())
  (hn:(iD w known term aa (aD w known st term++cY term aa++[rdN]) sm).2=x) {sl:List SeenT} (hl:(smV x).mergeSort leS=sl) {e n d:Int} (he:mnI (bl la).1 10000=e) (hm1:(b8 la).1=n) (Sf:(b8 la).2.1=d) :
  AK w st term known now=AD sl e n d (iD w known term aa (aD w known st term++cY term aa++[rdN]) sm).1:=by
 subst hl he hm1 Sf hn
 have h1:cnA w known st term=(la,0):=by unfold cnA;rw[ha];exact hc
 unfold AK CI
 rw[hb,h1,ha]
 simp only[hs,hx]
 rfl
theorem w2e_x:∃q:List ReadT,∀h,Ev Hm Γk 19 [.agg [ay,ay,ay,ay],int 3,int 5,int 100,ay] h (.tup [.agg [ab [],int 0,int 0,int 1],ab (rdR q),int 0]) h:=by
 refine⟨(iD wW 100 5 [] (aD wW 100 3 5++cY 5 []++[rdN]) []).1,fun h=>Ev.argX rfl ?_⟩
 have:=eK yU (st:=3) (term:=5) (known:=100) (now:=[]) (by simp) (w0_l _) h
 rw[yV (w0_a 100 3 5) rfl (sm:=[]) (c := -1) rfl (la:=[]) rfl rfl (x:=[]) (by unfold iD;rw[w0_n];rfl) (sl:=[]) (by simp[smV]) (e:=0) (n:=0) (d:=1) rfl rfl rfl] at this
 exact this
theorem fc_0{f:FactT}(hf:rS [f]=0){b1 b2:Blk}:Ev Hm Γ0 32 [.ref (.vec 2 0)] [b1,b2,.vec [f.row.map .p] 0 8] (int 0) [b1,b2,.vec [f.row.map .p] 0 8] :=
 Ev.frzArgs (by rfl) rfl (by
  have:=zU (l:=[f]) (by simp[af]) []
  rw[hf] at this
  exact this)
theorem fc1_ev{b1 b2:Blk}:Ev Hm Γ0 32 [.ref (.vec 2 0)] [b1,b2,.vec [[int 5,int 3,int 7,int (-1),int 5,int 6,int 8,int 0]] 0 8] (int 0) [b1,b2,.vec [[int 5,int 3,int 7,int (-1),int 5,int 6,int 8,int 0]] 0 8]:=fc_0 (f:=⟨5,3,7,-1,5,6,8,0⟩) (by kernel_rfl)
theorem fc2_ev{b1 b2:Blk}:Ev Hm Γ0 32 [.ref (.vec 2 0)] [b1,b2,.vec [[int 5,int 3,int 7,int 25,int 2,int 3,int 9,int 0]] 0 8] (int 0) [b1,b2,.vec [[int 5,int 3,int 7,int 25,int 2,int 3,int 9,int 0]] 0 8]:=fc_0 (f:=⟨5,3,7,25,2,3,9,0⟩) (by kernel_rfl)
noncomputable abbrev fI:List Blk:=[.var [int 0,int 0,int 0,int 0,int 0,int 0,int 0,int 0]]
theorem w2f_ev(h:List Blk):(Ev Hm Γ0 27 [int 3,int 7,int 5,int (-1),int 0,int 8,int 0] h (.tup [.agg [int 5,int 3,int 7,int (-1),int 5,int 6,int 8,int 0],int 0]) h):=by
 let v0:List D:=[int 5,int 3,int 7,int (-1),int 5,int (Ht Hp (5+1)),int 8,int 0]
 exact z0 [.val (bool (Zd (3≥0)&&Zd (3≤19999))),.val (bool (Zd (7≥0)&&Zd (7≤4095))),.val (bool (Zd (5≥0)&&Zd (5≤1023))),.val (bool (Zd (-1 ≥ -1)&&Zd (-1≤12))),.val (bool (Zd (0≥0)&&Zd (0≤6))),.b false,.b true,.val (int 0),.b false] (.c (@bp 3 0 19999 fI) (.c (gd (!!(Zd (3≥0)&&Zd (3≤19999))) (@bp 7 0 4095 fI)) (.c (gd (!(!(Zd (3≥0)&&Zd (3≤19999))||!(Zd (7≥0)&&Zd (7≤4095)))) (@bp 5 0 1023 fI)) (.c (gd (!(!(Zd (3≥0)&&Zd (3≤19999))||!(Zd (7≥0)&&Zd (7≤4095))||!(Zd (5≥0)&&Zd (5≤1023)))) (@bp (-1) (-1) 12 fI)) (.c (gd (!(!(Zd (3≥0)&&Zd (3≤19999))||!(Zd (7≥0)&&Zd (7≤4095))||!(Zd (5≥0)&&Zd (5≤1023))||!(Zd (-1 ≥ -1)&&Zd (-1≤12)))) (@bp 0 0 6 fI)) (.c (show(!(Zd (3≥0)&&Zd (3≤19999))||!(Zd (7≥0)&&Zd (7≤4095))||!(Zd (5≥0)&&Zd (5≤1023))||!(Zd (-1 ≥ -1)&&Zd (-1≤12))||!(Zd (0≥0)&&Zd (0≤6)))=false from rfl) (.c (show Zd (-1<0)=true from rfl) (.c (@fc1_ev (.var [int 0,int 0,int 0,int 0,int 0,int 0,int 0,int 0]) (.var v0)) (.c (show(0 != 0)=false from rfl) .n))))))))) h
noncomputable abbrev fJ:List Blk:=[.var [int 0,int 0,int 0,int 0,int 0,int 0,int 0,int 0]]
theorem w2g_ev(h:List Blk):(Ev Hm Γ0 27 [int 3,int 7,int 2,int 9,int 1,int 9,int 0] h (.tup [.agg [int 5,int 3,int 7,int 25,int 2,int 3,int 9,int 0],int 0]) h):=by
 let v0:List D:=[int 5,int 3,int 7,int (Ht Hp (9+Ht Hp (16*1))),int 2,int (Ht Hp (2+1)),int 9,int 0]
 exact z0 [.val (bool (Zd (3≥0)&&Zd (3≤19999))),.val (bool (Zd (7≥0)&&Zd (7≤4095))),.val (bool (Zd (2≥0)&&Zd (2≤1023))),.val (bool (Zd (9 ≥ -1)&&Zd (9≤12))),.val (bool (Zd (1≥0)&&Zd (1≤6))),.b false,.b false,.val (int 0),.b false] (.c (@bp 3 0 19999 fJ) (.c (gd (!!(Zd (3≥0)&&Zd (3≤19999))) (@bp 7 0 4095 fJ)) (.c (gd (!(!(Zd (3≥0)&&Zd (3≤19999))||!(Zd (7≥0)&&Zd (7≤4095)))) (@bp 2 0 1023 fJ)) (.c (gd (!(!(Zd (3≥0)&&Zd (3≤19999))||!(Zd (7≥0)&&Zd (7≤4095))||!(Zd (2≥0)&&Zd (2≤1023)))) (@bp 9 (-1) 12 fJ)) (.c (gd (!(!(Zd (3≥0)&&Zd (3≤19999))||!(Zd (7≥0)&&Zd (7≤4095))||!(Zd (2≥0)&&Zd (2≤1023))||!(Zd (9 ≥ -1)&&Zd (9≤12)))) (@bp 1 0 6 fJ)) (.c (show(!(Zd (3≥0)&&Zd (3≤19999))||!(Zd (7≥0)&&Zd (7≤4095))||!(Zd (2≥0)&&Zd (2≤1023))||!(Zd (9 ≥ -1)&&Zd (9≤12))||!(Zd (1≥0)&&Zd (1≤6)))=false from rfl) (.c (show Zd (9<0)=false from rfl) (.c (@fc2_ev (.var [int 0,int 0,int 0,int 0,int 0,int 0,int 0,int 0]) (.var v0)) (.c (show(0 != 0)=false from rfl) .n))))))))) h
theorem w2h_x(h:List Blk):Ev Hm Γk 23 [.agg [ab wCr,ay,ay,ab (wF.map Hv)],int 3,int 3,int 9] h (.tup [.agg [int 3,ab [[vi 7,vi 2,vi 9,vi 1,vi 4]]],ab (rdR (aD w1 9 3 3)),int 0]) h:=Ev.argX rfl (by
 have:=u6 ET (st:=3) (term:=3) (known:=9) h
 rw[show rofR w1 3 3 9=(⟨3,cH w1 9 3 3⟩,aD w1 9 3 3,0) from rfl,w1_3] at this
 exact this)
theorem w2i_x(h:List Blk):Ev Hm Γk 23 [.agg [ab wCr,ay,ay,ab (wF.map Hv)],int 3,int 2,int 9] h (.tup [.agg [int 3,ab []],ab (rdR (aD w1 9 3 2)),int 0]) h:=Ev.argX rfl (by
 have:=u6 ET (st:=3) (term:=2) (known:=9) h
 rw[show rofR w1 3 2 9=(⟨3,cH w1 9 3 2⟩,aD w1 9 3 2,0) from rfl,w1_2] at this
 exact this)
theorem w1_e:(a7 w1 7 3 9).2=[7]:=by
 have:(cI w1 7 3 9).2=[7]:=by unfold cI;rw[w1_n];kernel_rfl
 have h2:a7 w1 7 3 9=((cI w1 7 3 9).1,xk w1 7 3 9):=rfl
 rw[h2]
 unfold xk
 rw[this,KR]
theorem w2j_x:∃q:List ReadT,Ev Hm Γk 19 [.agg [ab wCr,ay,ay,ab (wF.map Hv)],int 3,int 3,int 9,.ref (.vec 0 0)] [.vec [[int 7]] 0 1] (.tup [.agg [ab [[vi 7,vi 1,vi 9,.v (.bool true)]],int 4,int 9,int 1],ab (rdR q),int 0]) [.gone]:=by
 refine⟨(iD w1 9 3 [⟨7,2,9,1,4⟩] (aD w1 9 3 3++cY 3 [⟨7,2,9,1,4⟩]++[rdN]) [(7,⟨7,0,-1,true⟩)]).1,Ev.frzG 0 [[vi 7]] rfl rfl rfl (Ev.argX rfl ?_)⟩
 have:=eK ET (st:=3) (term:=3) (known:=9) (now:=[7]) (by simp) (by rw[w1_n];simp) [.gone]
 rw[yV w1_3 rfl (sm:=[(7,⟨7,0,-1,true⟩)]) (c:=7) (by kernel_rfl) (la:=[⟨7,2,9,1,4⟩]) (by kernel_rfl) (by kernel_rfl) (x:=[(7,⟨7,1,9,true⟩)]) (by
  unfold iD
  rw[w1_n]
  simp only[List.foldl_cons,List.foldl_nil,nbF,seenOf,w1_e]
  kernel_rfl) (sl:=[⟨7,1,9,true⟩]) (by simp[smV]) (e:=4) (n:=9) (d:=1) (by kernel_rfl) (by kernel_rfl) (by kernel_rfl)] at this
 exact this
theorem w2_q{p:List ReadT→Prop}(h:∃q,p q):p h.choose:=h.choose_spec
noncomputable def qA:List ReadT:=(Kq (p:=fun q=>q=aD wW 100 3 5) _ rfl).choose
noncomputable def qE:List ReadT:=w2e_x.choose
noncomputable def qH:List ReadT:=(Kq (p:=fun q=>q=aD w1 9 3 3) _ rfl).choose
noncomputable def qI:List ReadT:=(Kq (p:=fun q=>q=aD w1 9 3 2) _ rfl).choose
noncomputable def qJ:List ReadT:=w2j_x.choose
theorem w2a_ev(h:List Blk):Ev Hm Γk 23 [.agg [ay,ay,ay,ay],int 3,int 5,int 100] h (.tup [.agg [int 3,ab []],ab (rdR qA),int 0]) h:=by
 have:=(Kq (p:=fun q=>q=aD wW 100 3 5) _ rfl).choose_spec
 unfold qA;rw[this];exact w2a_x h
theorem w2e_ev(h:List Blk):Ev Hm Γk 19 [.agg [ay,ay,ay,ay],int 3,int 5,int 100,ay] h (.tup [.agg [ab [],int 0,int 0,int 1],ab (rdR qE),int 0]) h:=w2e_x.choose_spec h
theorem w2h_ev(h:List Blk):Ev Hm Γk 23 [.agg [ab wCr,ay,ay,ab (wF.map Hv)],int 3,int 3,int 9] h (.tup [.agg [int 3,ab [[vi 7,vi 2,vi 9,vi 1,vi 4]]],ab (rdR qH),int 0]) h:=by
 have:=(Kq (p:=fun q=>q=aD w1 9 3 3) _ rfl).choose_spec
 unfold qH;rw[this];exact w2h_x h
theorem w2i_ev(h:List Blk):Ev Hm Γk 23 [.agg [ab wCr,ay,ay,ab (wF.map Hv)],int 3,int 2,int 9] h (.tup [.agg [int 3,ab []],ab (rdR qI),int 0]) h:=by
 have:=(Kq (p:=fun q=>q=aD w1 9 3 2) _ rfl).choose_spec
 unfold qI;rw[this];exact w2i_x h
theorem w2j_ev:Ev Hm Γk 19 [.agg [ab wCr,ay,ay,ab (wF.map Hv)],int 3,int 3,int 9,.ref (.vec 0 0)] [.vec [[int 7]] 0 1] (.tup [.agg [ab [[vi 7,vi 1,vi 9,.v (.bool true)]],int 4,int 9,int 1],ab (rdR qJ),int 0]) [.gone]:=w2j_x.choose_spec
theorem w2k_ev(h:List Blk):Ev Hm Γ0 21 [.agg [ab [],int 0,int 0,int 1],.agg [ay,int 0,int 0,int 1]] h (bool true) h:=Ev.argX rfl (jx (l:=[]) (by simp[af]) h)
theorem w2l_ev:Ev Hm Γ0 24 [ab [[vi 7,vi 2,vi 9,vi 1,vi 4]],.ref (.vec 0 0)] [.vec [[int 7,int 2,int 9,int 1,int 4]] 0 5] (bool true) [.gone] :=
 Ev.frzG 0 [[vi 7,vi 2,vi 9,vi 1,vi 4]] rfl rfl rfl (AF (l:=[⟨7,2,9,1,4⟩]) rfl (by simp[af]) _)
theorem w2m_ev:Ev Hm Γ0 21 [.agg [ab [[vi 7,vi 1,vi 9,.v (.bool true)]],int 4,int 9,int 1],.agg [.ref (.vec 0 0),int 4,int 9,int 1]] [.vec [[int 7,int 1,int 9,bool true]] 0 4] (bool true) [.gone] :=
 Ev.frzG 0 [[vi 7,vi 1,vi 9,.v (.bool true)]] rfl rfl rfl (jx (l:=[⟨7,1,9,true⟩]) (by simp[af]) _)
noncomputable abbrev rn:List Blk:=[.var [int 3,ab []],.var [int 0,ab []],.var [nq,int 0,int 0,int 0],.gone,.var [nq,int 0,int 0,int 0],.var [ab [],int 0,int 0,int 1],.var [int 5,int 3,int 7,int (-1),int 5,int 6,int 8,int 0],.var [int 5,int 3,int 7,int 25,int 2,int 3,int 9,int 0],.gone,.var [ab [[vs {data:=#[65]},vi 7,vi 4,vi 0,vi 1,vi 0,vs bz,vi 0,vi 0,JB (J4 none 0 0),vi 2,vi 0,vs bz,vi 0,vi 0,JB (J4 none 0 0)]],nq,nq,ab [[vi 1,vi 7,vi 0,vi 0,vi 0,vi 1024,vi 8,vi 0],[vi 12,vi 0,vi 0,vi 1,vi 0,vi 1024,vi 8,vi 1],[vi 5,vi 3,vi 7,vi 25,vi 2,vi 3,vi 9,vi 0]]],.var [int 0,int 1024],.gone,.var [int 3,ab [[vi 7,vi 2,vi 9,vi 1,vi 4]]],.var [int 3,ab []],.gone,.var [ab [[vi 7,vi 1,vi 9,JB (Value.bool true)]],int 4,int 9,int 1],.var [int 7,int 2,int 9,int 1,int 4]]
noncomputable abbrev ro:List Blk:=[.var [int 3,ab []],.var [int 0,ab []],.var [nq,int 0,int 0,int 0],.gone,.var [nq,int 0,int 0,int 0],.var [ab [],int 0,int 0,int 1],.var [int 5,int 3,int 7,int (-1),int 5,int 6,int 8,int 0],.var [int 5,int 3,int 7,int 25,int 2,int 3,int 9,int 0],.gone,.var [ab [[vs {data:=#[65]},vi 7,vi 4,vi 0,vi 1,vi 0,vs bz,vi 0,vi 0,JB (J4 none 0 0),vi 2,vi 0,vs bz,vi 0,vi 0,JB (J4 none 0 0)]],nq,nq,ab [[vi 1,vi 7,vi 0,vi 0,vi 0,vi 1024,vi 8,vi 0],[vi 12,vi 0,vi 0,vi 1,vi 0,vi 1024,vi 8,vi 1],[vi 5,vi 3,vi 7,vi 25,vi 2,vi 3,vi 9,vi 0]]],.var [int 0,int 1024],.gone,.var [int 3,ab [[vi 7,vi 2,vi 9,vi 1,vi 4]]]]
noncomputable abbrev rq:List Blk:=[.var [int 3,ab []],.var [int 0,ab []],.var [nq,int 0,int 0,int 0],.gone,.var [nq,int 0,int 0,int 0],.var [ab [],int 0,int 0,int 1],.var [int 5,int 3,int 7,int (-1),int 5,int 6,int 8,int 0],.var [int 5,int 3,int 7,int 25,int 2,int 3,int 9,int 0],.gone,.var [ab [[vs {data:=#[65]},vi 7,vi 4,vi 0,vi 1,vi 0,vs bz,vi 0,vi 0,JB (J4 none 0 0),vi 2,vi 0,vs bz,vi 0,vi 0,JB (J4 none 0 0)]],nq,nq,ab [[vi 1,vi 7,vi 0,vi 0,vi 0,vi 1024,vi 8,vi 0],[vi 12,vi 0,vi 0,vi 1,vi 0,vi 1024,vi 8,vi 1],[vi 5,vi 3,vi 7,vi 25,vi 2,vi 3,vi 9,vi 0]]],.var [int 0,int 1024],.gone]
noncomputable abbrev ru:List Blk:=[.var [int 3,ab []],.var [int 0,ab []],.var [nq,int 0,int 0,int 0],.gone,.var [nq,int 0,int 0,int 0],.var [ab [],int 0,int 0,int 1],.var [int 5,int 3,int 7,int (-1),int 5,int 6,int 8,int 0]]
noncomputable abbrev rz:List Blk:=[.var [int 3,ab []],.var [int 0,ab []],.var [nq,int 0,int 0,int 0],.gone,.var [nq,int 0,int 0,int 0],.var [ab [],int 0,int 0,int 1]]
noncomputable abbrev rA:List Blk:=[.var [int 3,ab []],.var [int 0,ab []],.var [nq,int 0,int 0,int 0],.gone,.var [nq,int 0,int 0,int 0]]
theorem rB(h:List Blk):(Ev Hm Γk 17 [] h (bool true) h):=by
 let v0:List D:=[ab [[vs {data:=#[65]},vi 7,vi 4,vi 0,vi 1,vi 0,vs bz,vi 0,vi 0,JB (J4 none 0 0),vi 2,vi 0,vs bz,vi 0,vi 0,JB (J4 none 0 0)]],nq,nq,ab [[vi 1,vi 7,vi 0,vi 0,vi 0,vi 1024,vi 8,vi 0],[vi 12,vi 0,vi 0,vi 1,vi 0,vi 1024,vi 8,vi 1],[vi 5,vi 3,vi 7,vi 25,vi 2,vi 3,vi 9,vi 0]]]
 let v1:List D:=[int 5,int 3,int 7,int 25,int 2,int 3,int 9,int 0]
 let v2:List D:=[ab [[vi 7,vi 1,vi 9,JB (Value.bool true)]],int 4,int 9,int 1]
 let v3:List D:=[int 5,int 3,int 7,int (-1),int 5,int 6,int 8,int 0]
 let v4:List D:=[int 3,ab [[vi 7,vi 2,vi 9,vi 1,vi 4]]]
 let v5:=List.length ([]:List (List Dp))
 let v12:List D:=[ab [],int 0,int 0,int 1]
 let v10:List Blk:=[.var [int 3,ab []],.var [int 0,ab []],.var [nq,int 0,int 0,int 0],.gone,.var [nq,int 0,int 0,int 0],.var v12,.var v3,.var v1,.gone,.var v0,.var [int 0,int 1024],.gone,.var v4,.var [int 3,ab []],.vec [[int 7]] 0 1]
 let v11:List Blk:=[.var [int 3,ab []],.var [int 0,ab []],.var [nq,int 0,int 0,int 0],.gone,.var [nq,int 0,int 0,int 0],.var v12,.var v3,.var v1,.gone,.var v0,.var [int 0,int 1024],.gone,.var v4,.var [int 3,ab []],.gone]
 let v13:List D:=[int 12,int 0,int 0,int 1,int 0,int 1024,int 8,int 1]
 let v14:List D:=[int 1,int 7,int 0,int 0,int 0,int 1024,int 8,int 0]
 let v15:List D:=[int 7,int 2,int 9,int 1,int 4]
 let v6:List Blk:=[.var [int 3,ab []],.var [int 0,ab []],.var [nq,int 0,int 0,int 0],.gone,.var [nq,int 0,int 0,int 0],.var v12,.var v3,.var v1,.gone,.var v0,.var [int 0,int 1024],.gone,.var v4,.var [int 3,ab []],.gone,.var v2,.var v15,.gone,.vec [[int 7,int 1,int 9,bool true]] 0 4]
 let v7:List Blk:=[.var [int 3,ab []],.var [int 0,ab []],.var [nq,int 0,int 0,int 0],.gone,.var [nq,int 0,int 0,int 0],.var v12,.var v3,.var v1,.gone,.var v0,.var [int 0,int 1024],.gone,.var v4,.var [int 3,ab []],.gone,.var v2,.var v15,.vec [v15] 0 5]
 let v8:List Blk:=[.var [int 3,ab []],.var [int 0,ab []],.var [nq,int 0,int 0,int 0],.gone,.var [nq,int 0,int 0,int 0],.var v12,.var v3,.var v1,.gone,.var v0,.var [int 0,int 1024],.gone,.var v4,.var [int 3,ab []],.gone,.var v2,.var v15,.gone,.gone]
 let v9:List Blk:=[.var [int 3,ab []],.var [int 0,ab []],.var [nq,int 0,int 0,int 0],.gone,.var [nq,int 0,int 0,int 0],.var v12,.var v3,.var v1,.gone,.var v0,.var [int 0,int 1024],.gone,.var v4,.var [int 3,ab []],.gone,.var v2,.var v15,.gone]
 let v16:=HV [H6 [nq,int 0,int 0,int 0],nq,int 150]
 let v17:List Blk:=[.var [int 3,ab []],.var [int 0,ab []],.var [nq,int 0,int 0,int 0],.vec [[int 7],[int 7]] 0 1]
 let v18:List Blk:=[.var [int 3,ab []],.var [int 0,ab []],.var [nq,int 0,int 0,int 0],.gone]
 let v19:List D:=[ab [[vi 7,vi 2,vi 9,vi 1,vi 4]],.ref (.vec 17 0)]
 refine z0 [.val (HV [H6 [int 3,ab []],ab (rdR qA),int 0]),.val (HV [H6 [int 0,ab []],ab [],int 150]),.val v16,.call v16 v18,.val (HV [H6 v12,ab (rdR qE),int 0]),.val (HV [H6 v3,int 0]),.val (HV [H6 v1,int 0]),.nx 3,.st (.frz 8 wCr),.st (.frz 11 (List.map Hv wF)),.val (HV [H6 v4,ab (rdR qH),int 0]),.val (HV [H6 [int 3,ab []],ab (rdR qI),int 0]),.call (HV [H6 v2,ab (rdR qJ),int 0]) v11,.b false,.g true,.g true,.g true,.g true,.val (bool true),.ov 154 (bool true),.g true,.g true,.g true,.ov 159 (bool (-1 == -1)),.g true,.g true,.g true,.g true,.ov 165 (bool (5==5&&(6==6&&true))),.g true,.g true,.g true,.ov 170 (bool (25==25)),.g true,.g true,.g true,.g true,.g true,.call (bool true) v9,.ov 177 (bool true),.g true,.g true,.g true,.g true,.ov 183 (bool ((↑v5:Int)==0)),.g true,.g true,.g true,.g true,.g true,.g true,.call (bool true) v8,.ov 191 (bool true)] (.c (@w2a_ev ([])) (.c (@w2b_ev ([.var [int 3,ab []]])) (.c (@w2c_ev ([.var [int 3,ab []],.var [int 0,ab []]])) (.c (show Ev Hm Γk 19 [H6 [nq,nq,nq,nq],int 3,int 5,int 100,.ref (.vec 3 0)] v17 v16 v18 from(H4 (JA (args:=[H6 [nq,nq,nq,nq],int 3,int 5,int 100,.ref (.vec 3 0)]) (H:=v17) [3] (@w2d_ev) (by kernel_rfl) (by kernel_rfl) (by kernel_rfl) ⟨(by subst v0 v1 v2 v3 v4 v5 v12 v10 v11 v13 v14 v15 v6 v7 v8 v9 v16 v17 v18 v19;first|rfl|exact ai _ _|first|assumption|rfl|decide|omega|simp_all),trivial⟩ trivial) (by kernel_rfl) (by kernel_rfl))) (.c (@w2e_ev rA) (.c (H5 (Γ':=Γk) (@w2f_ev rz)) (.c (H5 (Γ':=Γk) (@w2g_ev ru)) (.c (show [[au {data:=#[65]},int 7,int 4,int 0,int 1,int 0,au {data:=#[]},int 0,int 0,nq,int 2,int 0,au {data:=#[]},int 0,int 0,nq]]=[[au {data:=#[65]},int 7,int 4,int 0,int 1,int 0,au bz,int 0,int 0,nq,int 2,int 0,au bz,int 0,int 0,nq]] from ?_) (.er [v14,v13,v1] (.er [v14,v13,v1] (.c (@w2h_ev rq) (.c (@w2i_ev ro) (.c (show Ev Hm Γk 19 [H6 v0,int 3,int 3,int 9,.ref (.vec 14 0)] v10 (HV [H6 v2,ab (rdR qJ),int 0]) v11 from(H4 (JA (args:=[H6 v0,int 3,int 3,int 9,.ref (.vec 14 0)]) (H:=v10) [14] (@w2j_ev) (by kernel_rfl) (by kernel_rfl) (by kernel_rfl) ⟨(by subst v0 v1 v2 v3 v4 v5 v12 v10 v11 v13 v14 v15 v6 v7 v8 v9 v16 v17 v18 v19;first|rfl|exact ai _ _|first|assumption|rfl|decide|omega|simp_all),trivial⟩ trivial) (by kernel_rfl) (by kernel_rfl))) (.c (show(0 != 0||150 != 150||150 != 150||150 != 150||0 != 0||0 != 0||0 != 0||0 != 0||0 != 0||0 != 0)=false from rfl) (.c (show(((↑v5:Int)==0)==true)=true from rfl) (.c (show(((↑v5:Int)==0)==true)=true from rfl) (.c (show(((↑v5:Int)==0)==true)=true from rfl) (.c (show(((↑v5:Int)==0)==true)=true from rfl) (.c (H5 (Γ':=Γk) (@w2k_ev rn)) (.c (show cL (bool ((↑v5:Int)==0)) (bool true) (bool false) (bool true) from ?_) (.c (show(true==true)=true from rfl) (.c (show(true==true)=true from rfl) (.c (show(true==true)=true from rfl) (.c (pkt (bool (-1 == -1)) (bool false) rfl) (.c (show((-1 == -1)==true)=true from rfl) (.c (show((-1 == -1)==true)=true from rfl) (.c (show((-1 == -1)==true)=true from rfl) (.c (show((-1 == -1)==true)=true from rfl) (.c (show cL (bool (-1 == -1)) (bool (5==5&&(6==6&&true))) (bool false) (bool (5==5&&(6==6&&true))) from ?_) (.c (show((5==5&&(6==6&&true))==true)=true from rfl) (.c (show((5==5&&(6==6&&true))==true)=true from rfl) (.c (show((5==5&&(6==6&&true))==true)=true from rfl) (.c (show cL (bool (5==5&&(6==6&&true))) (bool (25==25)) (bool false) (bool (25==25)) from ?_) (.c (show((25==25)==true)=true from rfl) (.c (show((25==25)==true)=true from rfl) (.c (show((25==25)==true)=true from rfl) (.c (show((25==25)==true)=true from rfl) (.c (show((25==25)==true)=true from rfl) (.c (show Ev Hm Γk 24 v19 v7 (bool true) v9 from(H4 (JA (args:=v19) (H:=v7) [17] (H5 (@w2l_ev)) (by kernel_rfl) (by kernel_rfl) (by kernel_rfl) ⟨(by subst v0 v1 v2 v3 v4 v5 v12 v10 v11 v13 v14 v15 v6 v7 v8 v9 v16 v17 v18 v19;first|rfl|exact ai _ _|first|assumption|rfl|decide|omega|simp_all),trivial⟩ trivial) (by kernel_rfl) (by kernel_rfl))) (.c (show cL (bool (25==25)) (bool true) (bool false) (bool true) from ?_) (.c (show(true==true)=true from rfl) (.c (show(true==true)=true from rfl) (.c (show(true==true)=true from rfl) (.c (show(true==true)=true from rfl) (.c (pkt (bool ((↑v5:Int)==0)) (bool false) rfl) (.c (show(((↑v5:Int)==0)==true)=true from rfl) (.c (show(((↑v5:Int)==0)==true)=true from rfl) (.c (show(((↑v5:Int)==0)==true)=true from rfl) (.c (show(((↑v5:Int)==0)==true)=true from rfl) (.c (show(((↑v5:Int)==0)==true)=true from rfl) (.c (show(((↑v5:Int)==0)==true)=true from rfl) (.c (show Ev Hm Γk 21 [H6 v2,H6 [.ref (.vec 18 0),int 4,int 9,int 1]] v6 (bool true) v8 from(H4 (JA (args:=[H6 v2,H6 [.ref (.vec 18 0),int 4,int 9,int 1]]) (H:=v6) [18] (H5 (@w2m_ev)) (by kernel_rfl) (by kernel_rfl) (by kernel_rfl) ⟨(by subst v0 v1 v2 v3 v4 v5 v12 v10 v11 v13 v14 v15 v6 v7 v8 v9 v16 v17 v18 v19;first|rfl|exact ai _ _|first|assumption|rfl|decide|omega|simp_all),trivial⟩ trivial) (by kernel_rfl) (by kernel_rfl))) (.c (show cL (bool ((↑v5:Int)==0)) (bool true) (bool false) (bool true) from ?_) .n))))))))))))))))))))))))))))))))))))))))))))))))))))) h<;>subst v0 v1 v2 v3 v4 v5 v12 v10 v11 v13 v14 v15 v6 v7 v8 v9 v16 v17 v18 v19<;>(first|assumption|rfl|decide|omega|simp_all)
theorem BO{w:WorldT}(hw:w.ok){st term known:Int}{now:List Int}(hl:(cH w known st term).length≤80000000)
  (hb:(!(Zd (st≥0)&&Zd (st≤19999))||!(Zd (term≥0)&&Zd (term≤1023)))=false) :
  yM w st term known now ⟨st,cH w known st term⟩ (aD w known st term)=AK w st term known now:=by
 have Pr:=hb
 simp only[I6,Kf,Hx,decide_eq_true_eq] at Pr
 have hg:∀a∈cH w known st term,0≤a.oR:=fun a ha=>by
  have:=(DC hw (recA_perm.mem_iff.1 ha)).1
  simp only[wJ,inB,Hx,decide_eq_true_eq] at this
  omega
 have hrb:mF ⟨st,cH w known st term⟩ term=false:=by
  unfold mF
  rw[w9 hw Pr.1.1 Pr.1.2]
  have:(!(Zd (term≥0)&&Zd (term≤1023)))=false:=by simp;omega
  rw[this];rfl
 unfold yM AK gk
 rw[hrb,hb]
 simp only[BG,CI,rcX]
 rcases nw_sn now (-1) [] with ⟨p,h1,sm,h2⟩|⟨h1,h2⟩
 ·have h2:snR now=.inl (p,sm):=h2
  rw[h1,h2]
  cases he:((iE (cH w known st term) (cM w known term (cH w known st term))).2 != 0)
  ·simp only
   cases he2:(bl (iE (cH w known st term) (cM w known term (cH w known st term))).1).2 != 0
   ·cases he3:(b8 (iE (cH w known st term) (cM w known term (cH w known st term))).1).2.2 != 0
    ·simp only[sitX,he2,he3,Ik,if_false]
     rw[←yS (r:=⟨st,cH w known st term⟩) (s:=(p,sm)) (rs:=aD w known st term++cY term (cH w known st term)++[rdN]) hl hg h2]
     rw[s4 (r:=⟨st,cH w known st term⟩)]
     rfl
    ·simp only[sitX,he2,he3,Ik,if_false,if_true]
     rfl
   ·simp only[sitX,he2,if_true]
    rfl
  ·simp only[he]
 ·have h2:snR now=.inr ():=h2
  rw[h1,h2]
theorem yW{w:WorldT}(hw:w.ok){st term known:Int}{now:List Int}(hn:now.length≤1000)(hN:(ad w.f known).length≤100):
  ∃(l:List SeenT) (e n d:Int) (q:List ReadT) (er:Int),af l∧af q∧(AK w st term known now).nilW=.tup [.agg [ab (l.map SeenT.row),int e,int n,int d],ab (rdR q),int er]:=by
 have err:∀e:Int,∃(l:List SeenT) (e' n d:Int) (q:List ReadT) (er:Int),af l∧af q∧(cN e).nilW=.tup [.agg [ab (l.map SeenT.row),int e',int n,int d],ab (rdR q),int er]:=fun e=>⟨[],0,0,0,[],e,by simp[af],by simp[af],rfl⟩
 unfold AK
 cases hb:(!(Zd (st≥0)&&Zd (st≤19999))||!(Zd (term≥0)&&Zd (term≤1023)))
 ·simp only[CI]
  cases hsn:snR now with
  | inr u=>exact err _
  | inl s =>
   simp only
   cases he:((cnA w known st term).2 != 0)
   ·simp only
    cases hx:sitX (cnA w known st term).1 with
    | inr e=>exact err _
    | inl u =>
     refine⟨_,_,_,_,_,0,?_,?_,rfl⟩
     ·have:=tP (w:=w) (known:=known) (term:=term) (m1:=(triesR (cH w known st term)).1) (m2:=(triesR (cH w known st term)).2) (ns:=ad w.f known) (rs:=aD w known st term++cY term (cH w known st term)++[rdN]) hn (by omega) hsn
      unfold af
      simp only[List.length_mergeSort,smV,Ir]
      unfold iD
      omega
     ·unfold iD
      rw[r9]
      have h1:=po hw (known:=known) (st:=st) (term:=term)
      have h2:=fO hw (known:=known) (st:=st) (term:=term)
      have h3:=ga term (cH w known st term)
      have h4:∀ns:List Int,(ns.flatMap fun n=>(a7 w n term known).1).length≤ns.length*1001001:=by
       intro ns
       induction ns with
       | nil=>simp
       | cons n ns ih =>
        have:=(kq (w:=w) (c:=n) (term:=term) (known:=known) (by omega)).1
        simp only[Kt,ID,HY];omega
      have h5:=h4 (ad w.f known)
      unfold af
      simp only[ID,HY,List.length_nil]
      omega
   ·simp only;exact err _
 ·exact err _
theorem gj{w:WorldT}(hw:w.ok0)(hs:∀x∈w.c,x.small){st term known:Int}{now:List Int}(h:List Blk):Ev Hm Γk 3 [.agg w.l,int st,int term,int known,ab (now.map fun n=>[vi n])] h (bool true) h:=by
 cases ho:(!mG w||Zd (((now.map fun n=>[vi n]).length:Int)>10))
 ·have hr:=ho
  simp only[I6,Kf,decide_eq_false_iff_not,Ir] at hr
  have hk:=hw.few hr.1
  have hnow:now.length≤1000:=by omega
  have hN:=pF hr.1 known
  have hf:=mh hr.1
  have h1:=po hk (known:=known) (st:=st) (term:=term)
  have h2:=fO hk (known:=known) (st:=st) (term:=term)
  have h19:=fun h=>(eK hk (st:=st) (term:=term) (known:=known) hnow (by omega) h).nilW
  have h20:∀h,Ev Hm Γ0 20 [.agg w.l,int st,int term,int known,ab (now.map fun n=>[vi n])] h (AK w st term known now).nilW h:=fun h=>by
   cases hb:(!(Zd (st≥0)&&Zd (st≤19999))||!(Zd (term≥0)&&Zd (term≤1023)))
   ·rw[←BO hk (by omega) hb]
    exact(BL hk hs (by omega) (by unfold af;omega) (by omega) (by omega) (by omega) hb h).nilW
   ·have:AK w st term known now=cN 150:=by unfold AK;rw[hb]
    rw[this]
    exact(yL hb h).nilW
  obtain⟨l,e,n,d,q,er,hl,hq,hE⟩:=yW hk (st:=st) (term:=term) (known:=known) hnow (by omega)
  rw[hE] at h19 h20
  exact rs_ok rB ho hl hq (rdne _) h19 h20 h
 ·exact rs_out rB ho h
open Go.ChangeShapes Go.WideShapes Go.ChangeAt Go.RowKit Go.Proofs.YtilebidefogaiaaGreatDoor
set_option maxRecDepth 100000
def lookF(P:Program)(ks:List Nat)(bs:List UInt8):Option Nat:=ks.find? fun k=>match P.funcs[k]? with
 | some fn=>(fn.name.toUTF8.data.toList==bs)&&(P.funcNamed fn.name==some k)
 | none=>false
theorem BP{s t:String}(h:s.toUTF8.data.toList=t.toUTF8.data.toList):s=t:=by
 have h1:s.toUTF8=t.toUTF8:=by
  cases hs:s.toUTF8;cases ht:t.toUTF8
  rw[hs,ht] at h
  congr 1
  exact Array.toList_inj.1 h
 exact String.toByteArray_inj.1 h1
theorem s6{P:Program}{ks:List Nat}{t:TypeId}{v:Value}{b:UInt8}{r:List UInt8}{k:Nat}(hv:funcToken P (t,v)=b::r)(hk:lookF P ks (b::r)=some k):v=.func (.func k) #[] #[]:=by
 obtain⟨f,fn,rfl,h1,h2,h3⟩:=funcToken_tells hv
 have h4:=List.find?_some hk
 split at h4
 ·rename_i R5 hfn
  simp only[Hx,beq_iff_eq] at h4
  have:fn.name=R5.name:=BP (h3.trans h4.1.symm)
  rw[this,h4.2] at h2
  cases h2
  rfl
 ·simp at h4
def expect(P:Program)(ks:List Nat):Nat→TypeId→DataW (List UInt8)→Option (List Value)
 | 0,_,_=>none
 | n+1,t,d=>match P.underlying t with
  | some .bool=>match d with
   | .lit (.bool b)=>some [.bool b]
   | _=>none
  | some (.func ..)=>match d with
   | .nil=>some [.nilFunc]
   | .held (b::r)=>(lookF P ks (b::r)).map fun k=>[.func (.func k) #[] #[]]
   | _=>none
  | some (.struct fs)=>match d with
   | .agg ds=>if bW P fs.toList 0 (P.cellsOf t) then (zipE (fun f d=>expect P ks n f d) (fs.toList.map (·.type)) ds) else none
   | _=>none
  | some (.array m e)=>match d with
   | .agg ds=>if Zd (P.cellsOf t=m*P.cellsOf e)=true then zipE (fun f d=>expect P ks n f d) (HX m e) ds else none
   | _=>none
  | _=>none
where
 zipE (g:TypeId→DataW (List UInt8)→Option (List Value)):List TypeId→List (DataW (List UInt8))→Option (List Value)
  | [],[]=>some []
  | t::ts,d::ds=>(g t d).bind fun a=>(zipE g ts ds).map fun b=>a++b
  | _,_=>none
theorem rC{P:Program}{g:TypeId→DataW (List UInt8)→Option (List Value)}{tr:TypeId→List Value→Option (DataW (List UInt8)×List MemPlace)}{cs:List Value}
  (hg:∀t d ys,g t d=some ys→∀c p,tr t c=some (d,p)→c=ys):∀(fs:List Field) (acc:Nat) (xs:List (DataW (List UInt8)×List MemPlace)) (ys:List Value),
  (fs.mapM fun f=>tr f.type ((cs.drop f.offset).take (P.cellsOf f.type)))=some xs→bW P fs acc cs.length=true→expect.zipE g (fs.map (·.type)) (xs.map (·.1))=some ys→cs.drop acc=ys
 | [],acc,xs,ys,hm,hc,hz=>by
  simp at hm
  subst hm
  simp[expect.zipE] at hz
  subst hz
  simp[bW] at hc
  simp[hc]
 | f::fs,acc,xs,ys,hm,hc,hz=>by
  simp only[MH,MP,J3,Option.pure_def,Ho] at hm
  obtain⟨x,hx,xs',Se,rfl⟩:=hm
  simp only[bW,Hx,beq_iff_eq] at hc
  simp only[Il,expect.zipE,J3,Hy] at hz
  obtain⟨a,ha,b,hb,rfl⟩:=hz
  have h1:=hg _ _ _ ha _ x.2 (by rw[hx])
  have h2:=rC hg fs _ xs' b Se hc.2 hb
  rw[←h1,←h2,hc.1,←LC,MQ]
theorem uV{e:TypeId}{c:Nat}{g:TypeId→DataW (List UInt8)→Option (List Value)}{tr:TypeId→List Value→Option (DataW (List UInt8)×List MemPlace)}{cs:List Value}
  (hg:∀t d ys,g t d=some ys→∀c p,tr t c=some (d,p)→c=ys):∀(n k:Nat) (xs:List (DataW (List UInt8)×List MemPlace)) (ys:List Value),
  ((List.range' k n).mapM fun i=>tr e ((cs.drop (i*c)).take c))=some xs→cs.length=(k+n)*c→expect.zipE g (HX n e) (xs.map (·.1))=some ys→cs.drop (k*c)=ys
 | 0,k,xs,ys,hm,hc,hz=>by
  simp at hm
  subst hm
  simp[expect.zipE] at hz
  subst hz
  exact List.drop_eq_nil_of_le (by rw[hc];simp)
 | n+1,k,xs,ys,hm,hc,hz=>by
  rw[List.range'_succ] at hm
  simp only[MH,MP,J3,Option.pure_def,Ho] at hm
  obtain⟨x,hx,xs',Se,rfl⟩:=hm
  rw[List.replicate_succ] at hz
  simp only[Il,expect.zipE,J3,Hy] at hz
  obtain⟨a,ha,b,hb,rfl⟩:=hz
  have h1:=hg _ _ _ ha _ x.2 (by rw[hx])
  have h2:=uV hg n (k+1) xs' b Se (by rw[hc];congr 1;omega) hb
  rw[←h1,←h2,Nat.add_mul,Nat.one_mul,←LC,MQ]
theorem lL{P:Program}{ks:List Nat}{w:World}{sp:Nat→Bool}:∀(n:Nat) (t:TypeId) (d:DataW (List UInt8)) (ys:List Value),expect P ks n t d=some ys→∀(fuel:Nat) (cs:List Value) (p:List MemPlace),KN (funcToken P) P w 0 sp true fuel t cs=some (d,p)→cs=ys
 | 0,_,_,_,h=>by simp[expect] at h
 | n+1,t,d,ys,h=>by
  intro fuel cs p ht
  cases fuel with
  | zero=>simp[KN] at ht
  | succ fuel =>
   unfold expect at h
   unfold KN at ht
   cases hu:P.underlying t with
   | none=>rw[hu] at h;simp at h
   | some td =>
    rw[hu] at h ht
    cases td with
    | bool =>
     simp only at h ht
     split at h
     ·split at ht<;>simp_all
     ·simp at h
    | func a b c =>
     simp only at h ht
     split at h
     ·split at ht<;>simp_all
     ·rename_i b r
      obtain⟨k,hk,rfl⟩:=Hy.1 h
      split at ht
      all_goals (try (simp_all;done))
      ·rename_i fn first captured _ _
       simp only[if_true,Ho,Hu,DataW.held.injEq] at ht
       rw[s6 ht.1 hk]
     ·simp at h
    | struct fs =>
     simp only at h ht
     split at h
     ·split at h
      ·rename_i hc
       split at ht
       ·rename_i hl
        obtain⟨xs,Se,he⟩:=Hy.1 ht
        simp only[Hu,Na] at he
        obtain⟨rfl,_⟩:=he
        have:=rC (tr:=fun t c=>KN (funcToken P) P w 0 sp true fuel t c) (fun t d ys hg c p hp=>lL n t d ys hg fuel c p hp) fs.toList 0 xs ys Se (by rw[hl];exact hc) h
        simpa using this
       ·simp at ht
      ·simp at h
     ·simp at h
    | array m e =>
     simp only at h ht
     split at h
     ·split at ht
      ·rename_i hl
       obtain⟨xs,Se,he⟩:=Hy.1 ht
       simp only[Hu,Na] at he
       obtain⟨rfl,_⟩:=he
       split at h
       ·rename_i hc
        rw[List.range_eq_range'] at Se
        have:=uV (tr:=fun t c=>KN (funcToken P) P w 0 sp true fuel t c) (fun t d ys hg c p hp=>lL n t d ys hg fuel c p hp) m 0 xs ys Se (by rw[hl,Nat.zero_add];exact of_decide_eq_true hc) h
        simpa using this
       ·simp at h
      ·simp at ht
     ·simp at h
    | _=>simp at h
end Go.Vi
open Go Go.Proofs
namespace Go.Vi
set_option maxHeartbeats 4000000
open Go.ChangeShapes Go.WideShapes Go.ChangeAt Go.RowKit Go.Proofs.YtilebidefogaiaaGreatDoor
set_option maxRecDepth 100000
def EU:List Nat:=[257,258,259,260,261,262,263,264,265,267,269,270,271,272,273,274,266,275]
def kindsW:DataW Unit:=match (Kv:DataW Unit) with
 | .iface _ d=>d
 | d=>d
theorem lM:Hm.globalNamed "sizar/rules.kinds" = some 0:=by kernel_rfl
noncomputable def Df:TypeId:=((Hm.globals[0]?).map (·.type)).getD 0
theorem wv:(Hm.globals[0]?).map (·.type)=some Df:=by kernel_rfl
theorem rD:expect Hm EU 4 Df kindsW.funcsOut=some kindsCells:=by kernel_rfl
theorem s7 {W:World} (h:laidMetH Hm [("sizar/rules.kinds",Kv)] W):∃cs:Array Value,W.var? Hm "sizar/rules.kinds" = some cs∧cs.toList=kindsCells:=by
 obtain⟨g,t,cs,fuel,p,h1,h2,h3,h4⟩:=laidMetH.funcs h (n:= "sizar/rules.kinds") (d:=kindsW) (Lb.2 rfl)
 rw[lM] at h1
 cases h1
 rw[wv] at h2
 cases h2
 exact⟨cs,h3,lL 4 _ _ _ rD fuel _ _ h4⟩
theorem nv{w:World}{av:Nat→Prop}{bV:Nat}{cs:Array Value}(hb:∀off,w.cell? ⟨bV,off,none⟩=cs[off]?)(Qc:∀k,¬av k):∀(ys:List Value) (off:Nat),cs.toList.drop off=ys→RelCells w av bV off (ys.map .v)
 | [],_,_=>by simp[RelCells]
 | y::ys,off,h=>by
  have h1:cs[off]? = some y:=by
   have:=congrArg List.head? h
   rw[List.head?_drop] at this
   simpa using this
  have h2:cs.toList.drop (off+1)=ys:=by
   rw[←LC,h];rfl
  simp only[Il,RelCells]
  exact⟨⟨Qc bV,y,by rw[hb,h1],by simp[RelP]⟩,nv hb Qc ys (off+1) h2⟩
theorem yX:yz=kindsCells.map .v:=rfl
theorem yY {W:World} (h:laidMetH Hm [("sizar/rules.kinds",Kv)] W):∀g cs,Γk g=some cs→RelCells W (avs (fun _=>False) (fun _=>none) []) g 0 cs:=by
 intro g cs hg
 obtain⟨xs,h1,h2⟩:=s7 h
 have h0:g=0∧cs=yz:=by
  unfold Γk at hg
  split at hg
  ·exact⟨rfl,(Option.some.inj hg).symm⟩
  ·simp at hg
 obtain⟨rfl,rfl⟩:=h0
 rw[yX]
 refine nv (cs:=xs) (fun off=>?_) oV _ 0 (by rw[List.drop_zero,h2])
 rw[World.var?,lM] at h1
 simp only[Option.bind_some] at h1
 unfold World.cell?
 split at h1
 ·rename_i c a b hh
  cases h1
  simp only[hh]
  rfl
 ·simp at h1
end Go.Vi
open Go Go.Proofs
namespace Go.Vi
set_option maxHeartbeats 4000000
open Go.ChangeShapes Go.WideShapes Go.ChangeAt Go.RowKit Go.Proofs.YtilebidefogaiaaGreatDoor
set_option maxRecDepth 100000
theorem EV:qM Hm [3,30]=true:=by kernel_rfl
theorem EW:Hm.bytesOf 3=8:=by kernel_rfl
theorem BQ{n:Nat}{ds:List Dp}(h:Shp Hm n 30 ds):∃l:List Int,ds=[.sl (l.map fun n:Int=>[vi n])]:=by
 cases n with
 | zero=>exact h.elim
 | succ n =>
  simp only[Shp,LH,EW] at h
  obtain⟨es,rfl,hb,he⟩:=h
  obtain⟨l,rfl,_⟩:=io (row:=fun n:Int=>[vi n]) (ok:=fun _=>True) (fun r hr=>by obtain⟨x,e,_⟩:=ba (he r hr);exact⟨x,e,trivial⟩)
  exact⟨l,rfl⟩
theorem BR{H:Type}{enc:TypeId×Value→H}{W:World}{base:Nat}{v:Value}{d:DataW H}{p:List MemPlace}
  (Oa:Nn Hm W .any base 30 v) (h:DataW.Trod enc Hm W 0 (fun _=>true) true 30 v d p) (hw:(d.weights Hm 30).all (· ≤ reachBytes)=true) :
  ∃now:List Int,Rel W (avs (fun _=>False) (fun _=>none) []) (fun _=>none) [] (ab (now.map fun n=>[vi n])) v:=by
 obtain⟨fuel,hf⟩:=h
 unfold Nn at Oa
 rw[LH] at Oa
 have hc:v.cells.toList=[v]:=by
  cases v<;>first|rfl|skip
  unfold Cell.okWide at Oa
  rw[LH] at Oa
  exact Oa.elim
 rw[hc] at hf
 obtain⟨ds,h1,h2⟩:=wl EV oV fuel 30 _ d p (by decide) hf hw
 obtain⟨l,rfl⟩:=BQ h1
 refine⟨l,?_⟩
 simp only[RelPL,and_true] at h2
 simpa[ab,Rel] using h2
end Go.Vi
