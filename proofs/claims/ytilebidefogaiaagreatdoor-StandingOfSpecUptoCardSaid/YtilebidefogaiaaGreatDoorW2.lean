/- StandingOfSpecUpto: part of the proof: contracts of the functions that the law reaches, and the law. No conditions beyond the given statement's own. -/
import Derived.Test.YtilebidefogaiaaGreatDoorW1
open Go.Proofs.Tryz renaming prog → Fp, f86 → GU, f178 → Jd, f226 → F8, f239 → Kq, f215 → Kr, f216 → Ks, f217 → JR
open Go.IntKind renaming i64 → Fs, wrap → Fz
open List renaming length → Fu, getElem?_eq_some_iff → Fy, foldl → Gx, map → Fo, mem_cons → Gd, mem_of_getElem? → FV
open Go.Vi.Ev renaming glob0 → F1, castH → FP, of_sym → Gz
open Bool renaming not_eq_true' → GN, and_assoc → G9, or_eq_false_iff → GZ, not_eq_false' → Ic
open Go.LoopState renaming busy → Hi, ready → F9, exhausted → Gq, done → H1
open Go.Vi.D renaming fn → GX, agg → FU
open Go.Fn renaming func → F4
open Go.Exit renaming normal → FH, exit → Gf, ret → Gw
open Go.Value renaming tuple → Gk
open Go.Vi.FactT renaming row → FC
open Go.Vi.CW renaming each → Ha, rangeFunc → K7
open Go.Vi.Dp renaming sl → Gp
open Go.Code renaming ret → Jg
open Nat renaming le_refl → FT
open Go Go.Proofs
namespace Go.Vi
set_option maxRecDepth 100000
set_option maxHeartbeats 4000000
abbrev kd' (a b c d : Bool) (f g : Value) : List Dp:=[.v (.bool a),.v (.bool b),.v (.bool c),.v (.bool d),.v f,.v g]
abbrev kf' (k : Nat) : Value:=.func (.func k) #[] #[]
def xY : List Dp :=
 kd' false false false false .nilFunc .nilFunc ++ kd' false false false true (kf' 257) (kf' 258) ++ kd' false false false true (kf' 259) (kf' 260) ++ kd' false true false true (kf' 261) (kf' 262) ++
 kd' false false false true (kf' 263) (kf' 264) ++ kd' true true false false (kf' 265) (kf' 267) ++ kd' true true false false (kf' 269) (kf' 270) ++ kd' false true false false (kf' 271) (kf' 272) ++
 kd' false true true false (kf' 273) (kf' 274) ++ kd' true false false false (kf' 266) (kf' 275)
def Γk : ap:=fun g=>match g with | 0=>some xY | _=>none
theorem DT {a b : Int} (ha : I64 a) (hb : I64 b) (h : List Blk) : (Ev Fp Γ0 114 [.agg [int a,int b]] h (bool (bi a b == 0 && decide (a ≥ 0) && decide (a ≤ Fs.wrap (12 * b)))) h):=by
 exact z0 [.val (int (bi a b))] (.c (@dT a b ha hb ([.var [int a,int b]])) .n) h
abbrev ruD (op c : Int) (nm : ByteArray) (n d : Int) (ks : List (List Dp)) : D:=.agg [int op,int c,ak nm,int n,int d,ab ks]
theorem DU {op c : Int} {nm : ByteArray} {n d : Int} {ks : List (List Dp)} (h : List Blk) : (Ev Fp Γ0 257 [ruD op c nm n d ks] h (bool true) h):=by
 exact z0 [] .n h
theorem DV {op c : Int} {nm : ByteArray} {n d : Int} {ks : List (List Dp)} (h : List Blk) : (Ev Fp Γ0 259 [ruD op c nm n d ks] h (bool true) h):=by
 exact z0 [] .n h
theorem DW {op c : Int} {nm : ByteArray} {n d : Int} {ks : List (List Dp)} (h : List Blk) : (Ev Fp Γ0 261 [ruD op c nm n d ks] h (bool (inB n 0 200)) h):=by
 exact z0 [.val (bool (decide (n ≥ 0) && decide (n ≤ 200)))] (.c (@aY n 0 200 ([.var [int op,int c,ak nm,int n,int d,ab ks]])) .n) h
theorem DX {op c : Int} {nm : ByteArray} {n d : Int} {ks : List (List Dp)} (h : List Blk) : (Ev Fp Γ0 263 [ruD op c nm n d ks] h (bool ((ks.length : Int) == 1)) h):=by
 exact z0 [] .n h
theorem sH {op c : Int} {nm : ByteArray} {n d : Int} {ks : List (List Dp)} (h : List Blk) : (Ev Fp Γ0 266 [ruD op c nm n d ks] h (bool (inB c 0 4095)) h):=by
 exact z0 [.val (bool (decide (c ≥ 0) && decide (c ≤ 4095)))] (.c (@aY c 0 4095 ([.var [int op,int c,ak nm,int n,int d,ab ks]])) .n) h
theorem DY {op c : Int} {nm : ByteArray} {n d : Int} {ks : List (List Dp)} (h : List Blk) : (Ev Fp Γ0 265 [ruD op c nm n d ks] h (bool (inB c 0 4095 && inB n 0 12)) h):=by
 exact z0 [.val (bool (inB c 0 4095)),.val (bool (decide (n ≥ 0) && decide (n ≤ 12)))] (.c (@sH op c nm n d ks ([.var [int op,int c,ak nm,int n,int d,ab ks]])) (.c (gd (inB c 0 4095) (@aY n 0 12 ([.var [int op,int c,ak nm,int n,int d,ab ks]]))) .n)) h
theorem DZ {op c : Int} {nm : ByteArray} {n d : Int} {ks : List (List Dp)} (h : List Blk) : (Ev Fp Γ0 269 [ruD op c nm n d ks] h (bool (inB c 0 4095 && inB n 1 100)) h):=by
 exact z0 [.val (bool (inB c 0 4095)),.val (bool (decide (n ≥ 1) && decide (n ≤ 100)))] (.c (@sH op c nm n d ks ([.var [int op,int c,ak nm,int n,int d,ab ks]])) (.c (gd (inB c 0 4095) (@aY n 1 100 ([.var [int op,int c,ak nm,int n,int d,ab ks]]))) .n)) h
theorem D1 {op c : Int} {nm : ByteArray} {n d : Int} {ks : List (List Dp)} (h : List Blk) : (Ev Fp Γ0 271 [ruD op c nm n d ks] h (bool (inB n 0 10000)) h):=by
 exact z0 [.val (bool (decide (n ≥ 0) && decide (n ≤ 10000)))] (.c (@aY n 0 10000 ([.var [int op,int c,ak nm,int n,int d,ab ks]])) .n) h
def fP (a b : Int) : Bool:=bi a b == 0 && decide (a ≥ 0) && decide (a ≤ Fs.wrap (12 * b))
theorem D2 {op c : Int} {nm : ByteArray} {n d : Int} {ks : List (List Dp)} (hn : I64 n) (hd : I64 d) (h : List Blk) : (Ev Fp Γ0 273 [ruD op c nm n d ks] h (bool (fP n d)) h):=by
 exact z0 [.val (bool (bi n d == 0 && decide (n ≥ 0) && decide (n ≤ Fz Fs (12 * d))))] (.c (@DT n d hn hd ([.var [int op,int c,ak nm,int n,int d,ab ks]])) .n) h
def ao (op c n d k : Int) : Bool :=
 if (!(op == 5 || op == 6 || op == 9) && c != 0 || !(op == 3 || op == 5 || op == 6 || op == 7 || op == 8) && n != 0 || op != 8 && d != 0 || (decide (op ≥ 5) && decide (op ≤ 9)) && decide (k > 0)) = true then false
 else if op = 1 then true else if op = 2 then true else if op = 3 then inB n 0 200 else if op = 4 then k == 1 else if op = 5 then inB c 0 4095 && inB n 0 12
 else if op = 6 then inB c 0 4095 && inB n 1 100 else if op = 7 then inB n 0 10000 else if op = 8 then fP n d else if op = 9 then inB c 0 4095 else false
noncomputable abbrev qG (c : Int) (nm : ByteArray) (n : Int) (d : Int) (ks : List (List Dp)) : List Blk:=[.var [int 1,int c,ak nm,int n,int d,ab ks],.var [bool false,bool false,bool false,bool true,fq 257,fq 258]]
theorem xZ {c : Int} {nm : ByteArray} {n d : Int} {ks : List (List Dp)} (h : List Blk) : (Ev Fp Γk 234 [ruD 1 c nm n d ks] h (bool (ao 1 c n d ks.length)) h):=by
 cases hc0 : !false && c != 0 || !false && n != 0 || !false && d != 0 || !true && decide ((↑(Fu ks) : Int) > 0)
 ·exact zD (bool true) [.val (bool (decide (1 ≥ 1) && decide (1 ≤ 9))),.b false,.b false,.val (bool true)] (.c (F1 (Γ':=Γk) (@aY 1 1 9 ([.var [int 1,int c,ak nm,int n,int d,ab ks]]))) (.c (show (!(decide (1 ≥ 1) && decide (1 ≤ 9))) = false from rfl) (.c (show inR 1 10 = true from rfl) (.c hc0 (.c (F1 (Γ':=Γk) (@DU 1 c nm n d ks (qG c nm n d ks))) .n))))) h (by (simp_all [ao]; done))
 ·exact zD (bool false) [.val (bool (decide (1 ≥ 1) && decide (1 ≤ 9))),.b false,.b true] (.c (F1 (Γ':=Γk) (@aY 1 1 9 ([.var [int 1,int c,ak nm,int n,int d,ab ks]]))) (.c (show (!(decide (1 ≥ 1) && decide (1 ≤ 9))) = false from rfl) (.c (show inR 1 10 = true from rfl) (.c hc0 .n)))) h (by (simp_all [ao]; done))
noncomputable abbrev qH (c : Int) (nm : ByteArray) (n : Int) (d : Int) (ks : List (List Dp)) : List Blk:=[.var [int 2,int c,ak nm,int n,int d,ab ks],.var [bool false,bool false,bool false,bool true,fq 259,fq 260]]
theorem x6 {c : Int} {nm : ByteArray} {n d : Int} {ks : List (List Dp)} (h : List Blk) : (Ev Fp Γk 234 [ruD 2 c nm n d ks] h (bool (ao 2 c n d ks.length)) h):=by
 cases hc0 : !false && c != 0 || !false && n != 0 || !false && d != 0 || !true && decide ((↑(Fu ks) : Int) > 0)
 ·exact zD (bool true) [.val (bool (decide (2 ≥ 1) && decide (2 ≤ 9))),.b false,.b false,.val (bool true)] (.c (F1 (Γ':=Γk) (@aY 2 1 9 ([.var [int 2,int c,ak nm,int n,int d,ab ks]]))) (.c (show (!(decide (2 ≥ 1) && decide (2 ≤ 9))) = false from rfl) (.c (show inR 2 10 = true from rfl) (.c hc0 (.c (F1 (Γ':=Γk) (@DV 2 c nm n d ks (qH c nm n d ks))) .n))))) h (by (simp_all [ao]; done))
 ·exact zD (bool false) [.val (bool (decide (2 ≥ 1) && decide (2 ≤ 9))),.b false,.b true] (.c (F1 (Γ':=Γk) (@aY 2 1 9 ([.var [int 2,int c,ak nm,int n,int d,ab ks]]))) (.c (show (!(decide (2 ≥ 1) && decide (2 ≤ 9))) = false from rfl) (.c (show inR 2 10 = true from rfl) (.c hc0 .n)))) h (by (simp_all [ao]; done))
noncomputable abbrev qI (c : Int) (nm : ByteArray) (n : Int) (d : Int) (ks : List (List Dp)) : List Blk:=[.var [int 3,int c,ak nm,int n,int d,ab ks],.var [bool false,bool true,bool false,bool true,fq 261,fq 262]]
theorem x7 {c : Int} {nm : ByteArray} {n d : Int} {ks : List (List Dp)} (h : List Blk) : (Ev Fp Γk 234 [ruD 3 c nm n d ks] h (bool (ao 3 c n d ks.length)) h):=by
 cases hc0 : !false && c != 0 || !true && n != 0 || !false && d != 0 || !true && decide ((↑(Fu ks) : Int) > 0)
 ·exact zD (bool (inB n 0 200)) [.val (bool (decide (3 ≥ 1) && decide (3 ≤ 9))),.b false,.b false,.val (bool (inB n 0 200))] (.c (F1 (Γ':=Γk) (@aY 3 1 9 ([.var [int 3,int c,ak nm,int n,int d,ab ks]]))) (.c (show (!(decide (3 ≥ 1) && decide (3 ≤ 9))) = false from rfl) (.c (show inR 3 10 = true from rfl) (.c hc0 (.c (F1 (Γ':=Γk) (@DW 3 c nm n d ks (qI c nm n d ks))) .n))))) h (by (simp_all [ao]; done))
 ·exact zD (bool false) [.val (bool (decide (3 ≥ 1) && decide (3 ≤ 9))),.b false,.b true] (.c (F1 (Γ':=Γk) (@aY 3 1 9 ([.var [int 3,int c,ak nm,int n,int d,ab ks]]))) (.c (show (!(decide (3 ≥ 1) && decide (3 ≤ 9))) = false from rfl) (.c (show inR 3 10 = true from rfl) (.c hc0 .n)))) h (by (simp_all [ao]; done))
noncomputable abbrev qJ (c : Int) (nm : ByteArray) (n : Int) (d : Int) (ks : List (List Dp)) : List Blk:=[.var [int 4,int c,ak nm,int n,int d,ab ks],.var [bool false,bool false,bool false,bool true,fq 263,fq 264]]
theorem x8 {c : Int} {nm : ByteArray} {n d : Int} {ks : List (List Dp)} (h : List Blk) : (Ev Fp Γk 234 [ruD 4 c nm n d ks] h (bool (ao 4 c n d ks.length)) h):=by
 cases hc0 : !false && c != 0 || !false && n != 0 || !false && d != 0 || !true && decide ((↑(Fu ks) : Int) > 0)
 ·exact zD (bool ((↑(Fu ks) : Int) == 1)) [.val (bool (decide (4 ≥ 1) && decide (4 ≤ 9))),.b false,.b false,.val (bool ((↑(Fu ks) : Int) == 1))] (.c (F1 (Γ':=Γk) (@aY 4 1 9 ([.var [int 4,int c,ak nm,int n,int d,ab ks]]))) (.c (show (!(decide (4 ≥ 1) && decide (4 ≤ 9))) = false from rfl) (.c (show inR 4 10 = true from rfl) (.c hc0 (.c (F1 (Γ':=Γk) (@DX 4 c nm n d ks (qJ c nm n d ks))) .n))))) h (by (simp_all [ao]; done))
 ·exact zD (bool false) [.val (bool (decide (4 ≥ 1) && decide (4 ≤ 9))),.b false,.b true] (.c (F1 (Γ':=Γk) (@aY 4 1 9 ([.var [int 4,int c,ak nm,int n,int d,ab ks]]))) (.c (show (!(decide (4 ≥ 1) && decide (4 ≤ 9))) = false from rfl) (.c (show inR 4 10 = true from rfl) (.c hc0 .n)))) h (by (simp_all [ao]; done))
noncomputable abbrev qK (c : Int) (nm : ByteArray) (n : Int) (d : Int) (ks : List (List Dp)) : List Blk:=[.var [int 5,int c,ak nm,int n,int d,ab ks],.var [bool true,bool true,bool false,bool false,fq 265,fq 267]]
theorem x9 {c : Int} {nm : ByteArray} {n d : Int} {ks : List (List Dp)} (h : List Blk) : (Ev Fp Γk 234 [ruD 5 c nm n d ks] h (bool (ao 5 c n d ks.length)) h):=by
 cases hc0 : !true && c != 0 || !true && n != 0 || !false && d != 0 || !false && decide ((↑(Fu ks) : Int) > 0)
 ·exact zD (bool (inB c 0 4095 && inB n 0 12)) [.val (bool (decide (5 ≥ 1) && decide (5 ≤ 9))),.b false,.b false,.val (bool (inB c 0 4095 && inB n 0 12))] (.c (F1 (Γ':=Γk) (@aY 5 1 9 ([.var [int 5,int c,ak nm,int n,int d,ab ks]]))) (.c (show (!(decide (5 ≥ 1) && decide (5 ≤ 9))) = false from rfl) (.c (show inR 5 10 = true from rfl) (.c hc0 (.c (F1 (Γ':=Γk) (@DY 5 c nm n d ks (qK c nm n d ks))) .n))))) h (by (simp_all [ao]; done))
 ·exact zD (bool false) [.val (bool (decide (5 ≥ 1) && decide (5 ≤ 9))),.b false,.b true] (.c (F1 (Γ':=Γk) (@aY 5 1 9 ([.var [int 5,int c,ak nm,int n,int d,ab ks]]))) (.c (show (!(decide (5 ≥ 1) && decide (5 ≤ 9))) = false from rfl) (.c (show inR 5 10 = true from rfl) (.c hc0 .n)))) h (by (simp_all [ao]; done))
noncomputable abbrev qL (c : Int) (nm : ByteArray) (n : Int) (d : Int) (ks : List (List Dp)) : List Blk:=[.var [int 6,int c,ak nm,int n,int d,ab ks],.var [bool true,bool true,bool false,bool false,fq 269,fq 270]]
theorem yb {c : Int} {nm : ByteArray} {n d : Int} {ks : List (List Dp)} (h : List Blk) : (Ev Fp Γk 234 [ruD 6 c nm n d ks] h (bool (ao 6 c n d ks.length)) h):=by
 cases hc0 : !true && c != 0 || !true && n != 0 || !false && d != 0 || !false && decide ((↑(Fu ks) : Int) > 0)
 ·exact zD (bool (inB c 0 4095 && inB n 1 100)) [.val (bool (decide (6 ≥ 1) && decide (6 ≤ 9))),.b false,.b false,.val (bool (inB c 0 4095 && inB n 1 100))] (.c (F1 (Γ':=Γk) (@aY 6 1 9 ([.var [int 6,int c,ak nm,int n,int d,ab ks]]))) (.c (show (!(decide (6 ≥ 1) && decide (6 ≤ 9))) = false from rfl) (.c (show inR 6 10 = true from rfl) (.c hc0 (.c (F1 (Γ':=Γk) (@DZ 6 c nm n d ks (qL c nm n d ks))) .n))))) h (by (simp_all [ao]; done))
 ·exact zD (bool false) [.val (bool (decide (6 ≥ 1) && decide (6 ≤ 9))),.b false,.b true] (.c (F1 (Γ':=Γk) (@aY 6 1 9 ([.var [int 6,int c,ak nm,int n,int d,ab ks]]))) (.c (show (!(decide (6 ≥ 1) && decide (6 ≤ 9))) = false from rfl) (.c (show inR 6 10 = true from rfl) (.c hc0 .n)))) h (by (simp_all [ao]; done))
noncomputable abbrev qM (c : Int) (nm : ByteArray) (n : Int) (d : Int) (ks : List (List Dp)) : List Blk:=[.var [int 7,int c,ak nm,int n,int d,ab ks],.var [bool false,bool true,bool false,bool false,fq 271,fq 272]]
theorem yc {c : Int} {nm : ByteArray} {n d : Int} {ks : List (List Dp)} (h : List Blk) : (Ev Fp Γk 234 [ruD 7 c nm n d ks] h (bool (ao 7 c n d ks.length)) h):=by
 cases hc0 : !false && c != 0 || !true && n != 0 || !false && d != 0 || !false && decide ((↑(Fu ks) : Int) > 0)
 ·exact zD (bool (inB n 0 10000)) [.val (bool (decide (7 ≥ 1) && decide (7 ≤ 9))),.b false,.b false,.val (bool (inB n 0 10000))] (.c (F1 (Γ':=Γk) (@aY 7 1 9 ([.var [int 7,int c,ak nm,int n,int d,ab ks]]))) (.c (show (!(decide (7 ≥ 1) && decide (7 ≤ 9))) = false from rfl) (.c (show inR 7 10 = true from rfl) (.c hc0 (.c (F1 (Γ':=Γk) (@D1 7 c nm n d ks (qM c nm n d ks))) .n))))) h (by (simp_all [ao]; done))
 ·exact zD (bool false) [.val (bool (decide (7 ≥ 1) && decide (7 ≤ 9))),.b false,.b true] (.c (F1 (Γ':=Γk) (@aY 7 1 9 ([.var [int 7,int c,ak nm,int n,int d,ab ks]]))) (.c (show (!(decide (7 ≥ 1) && decide (7 ≤ 9))) = false from rfl) (.c (show inR 7 10 = true from rfl) (.c hc0 .n)))) h (by (simp_all [ao]; done))
noncomputable abbrev qN (c : Int) (nm : ByteArray) (n : Int) (d : Int) (ks : List (List Dp)) : List Blk:=[.var [int 8,int c,ak nm,int n,int d,ab ks],.var [bool false,bool true,bool true,bool false,fq 273,fq 274]]
theorem yd {c : Int} {nm : ByteArray} {n d : Int} {ks : List (List Dp)} (hn : I64 n) (hd : I64 d) (h : List Blk) : (Ev Fp Γk 234 [ruD 8 c nm n d ks] h (bool (ao 8 c n d ks.length)) h):=by
 cases hc0 : !false && c != 0 || !true && n != 0 || !true && d != 0 || !false && decide ((↑(Fu ks) : Int) > 0)
 ·exact zD (bool (fP n d)) [.val (bool (decide (8 ≥ 1) && decide (8 ≤ 9))),.b false,.b false,.val (bool (fP n d))] (.c (F1 (Γ':=Γk) (@aY 8 1 9 ([.var [int 8,int c,ak nm,int n,int d,ab ks]]))) (.c (show (!(decide (8 ≥ 1) && decide (8 ≤ 9))) = false from rfl) (.c (show inR 8 10 = true from rfl) (.c hc0 (.c (F1 (Γ':=Γk) (@D2 8 c nm n d ks hn hd (qN c nm n d ks))) .n))))) h (by (simp_all [ao]; done))
 ·exact zD (bool false) [.val (bool (decide (8 ≥ 1) && decide (8 ≤ 9))),.b false,.b true] (.c (F1 (Γ':=Γk) (@aY 8 1 9 ([.var [int 8,int c,ak nm,int n,int d,ab ks]]))) (.c (show (!(decide (8 ≥ 1) && decide (8 ≤ 9))) = false from rfl) (.c (show inR 8 10 = true from rfl) (.c hc0 .n)))) h (by (simp_all [ao]; done))
noncomputable abbrev qO (c : Int) (nm : ByteArray) (n : Int) (d : Int) (ks : List (List Dp)) : List Blk:=[.var [int 9,int c,ak nm,int n,int d,ab ks],.var [bool true,bool false,bool false,bool false,fq 266,fq 275]]
theorem ye {c : Int} {nm : ByteArray} {n d : Int} {ks : List (List Dp)} (h : List Blk) : (Ev Fp Γk 234 [ruD 9 c nm n d ks] h (bool (ao 9 c n d ks.length)) h):=by
 cases hc0 : !true && c != 0 || !false && n != 0 || !false && d != 0 || !false && decide ((↑(Fu ks) : Int) > 0)
 ·exact zD (bool (inB c 0 4095)) [.val (bool (decide (9 ≥ 1) && decide (9 ≤ 9))),.b false,.b false,.val (bool (inB c 0 4095))] (.c (F1 (Γ':=Γk) (@aY 9 1 9 ([.var [int 9,int c,ak nm,int n,int d,ab ks]]))) (.c (show (!(decide (9 ≥ 1) && decide (9 ≤ 9))) = false from rfl) (.c (show inR 9 10 = true from rfl) (.c hc0 (.c (F1 (Γ':=Γk) (@sH 9 c nm n d ks (qO c nm n d ks))) .n))))) h (by (simp_all [ao]; done))
 ·exact zD (bool false) [.val (bool (decide (9 ≥ 1) && decide (9 ≤ 9))),.b false,.b true] (.c (F1 (Γ':=Γk) (@aY 9 1 9 ([.var [int 9,int c,ak nm,int n,int d,ab ks]]))) (.c (show (!(decide (9 ≥ 1) && decide (9 ≤ 9))) = false from rfl) (.c (show inR 9 10 = true from rfl) (.c hc0 .n)))) h (by (simp_all [ao]; done))
theorem yf {op c : Int} {nm : ByteArray} {n d : Int} {ks : List (List Dp)} (ho : (!(decide (op ≥ 1) && decide (op ≤ 9))) = true) (h : List Blk) : (Ev Fp Γk 234 [ruD op c nm n d ks] h (bool false) h):=by
 exact z0 [.val (bool (decide (op ≥ 1) && decide (op ≤ 9))),.b true] (.c (F1 (Γ':=Γk) (@aY op 1 9 ([.var [int op,int c,ak nm,int n,int d,ab ks]]))) (.c ho .n)) h
theorem qP {op c : Int} {nm : ByteArray} {n d : Int} {ks : List (List Dp)} (hn : I64 n) (hd : I64 d) (h : List Blk) : Ev Fp Γk 234 [ruD op c nm n d ks] h (bool (ao op c n d ks.length)) h:=by
 by_cases ho : (!(decide (op ≥ 1) && decide (op ≤ 9))) = true
 ·have:=yf (op:=op) (c:=c) (nm:=nm) (n:=n) (d:=d) (ks:=ks) ho h
  have e : ao op c n d ks.length = false:=by
   simp only [GN,Bool.and_eq_false_iff,decide_eq_false_iff_not] at ho
   unfold ao
   split
   ·rfl
   ·repeat' (split; · omega)
    rfl
  rw [e]; exact this
 ·have : op = 1 ∨ op = 2 ∨ op = 3 ∨ op = 4 ∨ op = 5 ∨ op = 6 ∨ op = 7 ∨ op = 8 ∨ op = 9:=by
   simp only [GN,Bool.not_eq_false,Bool.and_eq_true,decide_eq_true_eq] at ho
   omega
  rcases this with rfl | rfl | rfl | rfl | rfl | rfl | rfl | rfl | rfl
  ·exact xZ h
  ·exact x6 h
  ·exact x7 h
  ·exact x8 h
  ·exact x9 h
  ·exact yb h
  ·exact yc h
  ·exact yd hn hd h
  ·exact ye h
abbrev fz : FactT:=⟨0,0,0,0,0,0,0,0⟩
abbrev atT : List D:=mkT 50 0 [(6,.ref (.ptr 1 0)),(10,.ref (.ptr 2 0)),(11,.ref (.ptr 3 0)),(16,.fn (.func 178) [] [.ref (.ptr 4 0),.ref (.ptr 5 0),.ref (.ptr 6 0)])]
noncomputable abbrev atL (st : LoopState) : Blk:=.loop st none 0 atT #[17] (ax (sub GU 0)) (al (sub GU 0))
noncomputable abbrev atH (kk ks ko term known : Int) (fs : List (List Dp)) (best : FactT) (some : Bool) (st : LoopState) (more : List Blk) : List Blk :=
 [.var [int kk,int ks,int ko],.var [int term],.var (best.row.map .p),.var [bool some],.var [ab fs],.var [int kk,int ks,int ko],.var [int known],.defd,atL st] ++ more
abbrev atU : List D:=mkT 50 0 [(6,.ref (.ptr 1 0)),(10,.ref (.ptr 2 0)),(11,.ref (.ptr 3 0)),(12,.ref (.ptr 10 0))]
theorem at_asg {kk ks ko term known : Int} {fs : List (List Dp)} {best f : FactT} {some : Bool} : (CW Fp Γ0 (atH kk ks ko term known fs best some .ready [.var (f.row.map .p)]) true (ax (sub GU 0)) { t:=eD atT [(17,ag f.row)],h:=atH kk ks ko term known fs best some .ready [.var (f.row.map .p)],m:=[] } .normal { t:=atU,h:=atH kk ks ko term known fs best some .ready [.var (f.row.map .p),.var (f.row.map .p)],m:=[] }):=by
 let v0 : List D:=[int f.kind,int f.sub,int f.obj,int f.value,int f.frm,int f.til,int f.known,int f.no]
 exact zx [.st (.mask [6,10,11,12])] [] .n
def yg (term : Int) (best : FactT) (some : Bool) (f : FactT) : Bool:=decide (f.frm ≤ term) && decide (term < f.til) && (!some || decide (orI (aN f.known best.known) (aN f.no best.no) ≥ 0))
def bW (term : Int) (best : FactT) (some : Bool) (f : FactT) : FactT × Bool:=bif yg term best some f then (f,true) else (best,some)
noncomputable abbrev jq (kk : Int) (ks : Int) (ko : Int) (term : Int) (known : Int) (fs : List (List Dp)) (best : FactT) (f : FactT) (some : Bool) : List Blk:=[.var [int kk,int ks,int ko],.var [int term],.var [int best.kind,int best.sub,int best.obj,int best.value,int best.frm,int best.til,int best.known,int best.no],.var [bool some],.var [ab fs],.var [int kk,int ks,int ko],.var [int known],.defd,.loop Hi none 0 (mkT 50 0 [(6,.ref (.ptr 1 0)),(10,.ref (.ptr 2 0)),(11,.ref (.ptr 3 0)),(16,GX (F4 178) [] [.ref (.ptr 4 0),.ref (.ptr 5 0),.ref (.ptr 6 0)])]) { toList:=[17] } (ax (sub GU 0)) (al (sub GU 0)),.var [int f.kind,int f.sub,int f.obj,int f.value,int f.frm,int f.til,int f.known,int f.no],.var [int f.kind,int f.sub,int f.obj,int f.value,int f.frm,int f.til,int f.known,int f.no]]
theorem D3 {kk ks ko term known : Int} {fs : List (List Dp)} {best f : FactT} {some : Bool} : (CW Fp Γ0 (atH kk ks ko term known fs best some .ready [.var (f.row.map .p)]) true (al (sub GU 0)) { t:=atU,h:=atH kk ks ko term known fs best some .busy [.var (f.row.map .p),.var (f.row.map .p)],m:=[] } .normal { t:=mkT 50 0 [],h:=atH kk ks ko term known fs (bW term best some f).1 (bW term best some f).2 .busy [.var (f.row.map .p),.var (f.row.map .p)],m:=[] }):=by
 cases hc0 : decide (f.frm ≤ term) && decide (term < f.til) && (!some || decide (orI (aN f.known best.known) (aN f.no best.no) ≥ 0))
 ·refine zX { t:=mkT 50 0 [],h:=(jq kk ks ko term known fs best f some),m:=[] } FH [.st (.mask [])] [.val (int (orI (aN f.known best.known) (aN f.no best.no))),.b false] (.c (gd (decide (f.frm ≤ term) && decide (term < f.til) && !!some) (@oJ f best (jq kk ks ko term known fs best f some))) (.c hc0 .n)) ?_ ?_ <;> (first | rfl | (have hs : yg term best some f = false:=hc0; simp only [bW,hs,cond_false]; rfl))
 ·let v0 : List D:=[int f.kind,int f.sub,int f.obj,int f.value,int f.frm,int f.til,int f.known,int f.no]
  refine zX { t:=mkT 50 0 [],h:=[.var [int kk,int ks,int ko],.var [int term],.var v0,.var [bool true],.var [ab fs],.var [int kk,int ks,int ko],.var [int known],.defd,.loop Hi none 0 (mkT 50 0 [(6,.ref (.ptr 1 0)),(10,.ref (.ptr 2 0)),(11,.ref (.ptr 3 0)),(16,GX (F4 178) [] [.ref (.ptr 4 0),.ref (.ptr 5 0),.ref (.ptr 6 0)])]) { toList:=[17] } (ax (sub GU 0)) (al (sub GU 0)),.var v0,.var v0],m:=[] } FH [.st (.mask [])] [.val (int (orI (aN f.known best.known) (aN f.no best.no))),.b true] (.c (gd (decide (f.frm ≤ term) && decide (term < f.til) && !!some) (@oJ f best (jq kk ks ko term known fs best f some))) (.c hc0 .n)) ?_ ?_ <;> subst v0 <;> (first | rfl | (have hs : yg term best some f = true:=hc0; simp only [bW,hs,cond_true]; rfl))
theorem D4 {kk ks ko term known : Int} {fs : List (List Dp)} {best f : FactT} {some : Bool} : Iv Fp Γ0 (.ref (.yl 8)) [ag f.row] (atH kk ks ko term known fs best some .ready [.var (f.row.map .p)]) (bool true) (atH kk ks ko term known fs (bW term best some f).1 (bW term best some f).2 .ready [.var (f.row.map .p),.var (f.row.map .p)]) :=
 Iv.round (h1:=atH kk ks ko term known fs best some .ready [.var (f.row.map .p),.var (f.row.map .p)]) rfl rfl at_asg rfl D3 rfl
def keyIs (kk ks ko : Int) (f : FactT) : Bool:=f.kind == kk && (f.sub == ks && (f.obj == ko && true))
def ofIs (kk ks ko known : Int) (f : FactT) : Bool:=keyIs kk ks ko f && decide (f.known ≤ known)
abbrev ofT (fs : List (List Dp)) (i : Int) : List D:=mkT 30 0 [(0,.ref (.yl 8)),(1,.ref (.ptr 4 0)),(2,.ref (.ptr 5 0)),(3,.ref (.ptr 6 0)),(7,ab fs),(8,int fs.length),(9,int i)]
theorem of_body {kk ks ko term known : Int} {fs : List (List Dp)} {best b0 f : FactT} {some s0 : Bool} {i : Nat} (hr : ah (i : Int) fs f.row 8) (hlt : decide ((i : Int) < (fs.length : Int)) = true) (hw : Fs.wrap ((i : Int) + 1) = ((i + 1 : Nat) : Int)) : (CW Fp Γ0 (atH kk ks ko term known fs b0 s0 .ready []) false (sub Jd 0) { t:=ofT fs i,h:=atH kk ks ko term known fs best some .ready [],m:=[] } .normal { t:=ofT fs ((i + 1 : Nat) : Int),h:=atH kk ks ko term known fs (bif ofIs kk ks ko known f then bW term best some f else (best,some)).1 (bif ofIs kk ks ko known f then bW term best some f else (best,some)).2 .ready [],m:=[] }):=by
 cases hc0 : f.kind == kk && (f.sub == ks && (f.obj == ko && true))
 ·refine zX { t:=mkT 30 0 [(0,.ref (.yl 8)),(1,.ref (.ptr 4 0)),(2,.ref (.ptr 5 0)),(3,.ref (.ptr 6 0)),(7,ab fs),(8,int (↑(Fu fs) : Int)),(9,int (Fz Fs ((↑i : Int) + 1)))],h:=[.var [int kk,int ks,int ko],.var [int term],.var [int best.kind,int best.sub,int best.obj,int best.value,int best.frm,int best.til,int best.known,int best.no],.var [bool some],.var [ab fs],.var [int kk,int ks,int ko],.var [int known],.defd,.loop F9 none 0 (mkT 50 0 [(6,.ref (.ptr 1 0)),(10,.ref (.ptr 2 0)),(11,.ref (.ptr 3 0)),(16,GX (F4 178) [] [.ref (.ptr 4 0),.ref (.ptr 5 0),.ref (.ptr 6 0)])]) { toList:=[17] } (ax (sub GU 0)) (al (sub GU 0))],m:=[] } FH [.st (.mask [0,1,2,3,7,8,9]),.st (.trim 9)] [.b true,.row [vi f.kind,vi f.sub,vi f.obj,vi f.value,vi f.frm,vi f.til,vi f.known,vi f.no],.g false,.g false,.g false,.g false,.ov 22 (bool false),.g false,.g false,.g false,.g false,.ov 28 (bool false),.b false] (.c hlt (.c hr (.c (eqb hc0) (.c (eqb hc0) (.c (eqb hc0) (.c (eqb hc0) (.c (pkf (D.p (Dp.v (Gk { toList:=[] }))) (bool false) hc0) (.f (.f (.f (.f (.c (pkf (D.p (Dp.v (Gk { toList:=[] }))) (bool false) rfl) (.er false .n))))))))))))) ?_ ?_ <;> (first | rfl | (simp only [hw,ofIs,keyIs,hc0,Bool.false_and,cond_false]; rfl))
 ·cases hc1 : decide (f.known ≤ known)
  ·refine zX { t:=mkT 30 0 [(0,.ref (.yl 8)),(1,.ref (.ptr 4 0)),(2,.ref (.ptr 5 0)),(3,.ref (.ptr 6 0)),(7,ab fs),(8,int (↑(Fu fs) : Int)),(9,int (Fz Fs ((↑i : Int) + 1)))],h:=[.var [int kk,int ks,int ko],.var [int term],.var [int best.kind,int best.sub,int best.obj,int best.value,int best.frm,int best.til,int best.known,int best.no],.var [bool some],.var [ab fs],.var [int kk,int ks,int ko],.var [int known],.defd,.loop F9 none 0 (mkT 50 0 [(6,.ref (.ptr 1 0)),(10,.ref (.ptr 2 0)),(11,.ref (.ptr 3 0)),(16,GX (F4 178) [] [.ref (.ptr 4 0),.ref (.ptr 5 0),.ref (.ptr 6 0)])]) { toList:=[17] } (ax (sub GU 0)) (al (sub GU 0))],m:=[] } FH [.st (.mask [0,1,2,3,7,8,9]),.st (.trim 9)] [.b true,.row [vi f.kind,vi f.sub,vi f.obj,vi f.value,vi f.frm,vi f.til,vi f.known,vi f.no],.g true,.g true,.g true,.g true,.ov 22 (bool (decide (f.known ≤ known))),.g false,.g false,.g false,.g false,.ov 28 (bool false),.b false] (.c hlt (.c hr (.c (eqa hc0) (.c (eqa hc0) (.c (eqa hc0) (.c (eqa hc0) (.c (pkt (bool (decide (f.known ≤ known))) (bool false) hc0) (.c (eqb hc1) (.c (eqb hc1) (.c (eqb hc1) (.c (eqb hc1) (.c (pkf (D.p (Dp.v (Gk { toList:=[] }))) (bool false) hc1) (.er false .n))))))))))))) ?_ ?_ <;> (first | rfl | (simp only [hw,ofIs,keyIs,hc0,hc1,Bool.and_false,cond_false]; rfl))
  ·let v0 : List D:=[int (bW term best some f).fst.kind,int (bW term best some f).fst.sub,int (bW term best some f).fst.obj,int (bW term best some f).fst.value,int (bW term best some f).fst.frm,int (bW term best some f).fst.til,int (bW term best some f).fst.known,int (bW term best some f).fst.no]
   let v1 : List D:=[int f.kind,int f.sub,int f.obj,int f.value,int f.frm,int f.til,int f.known,int f.no]
   refine zX { t:=mkT 30 0 [(0,.ref (.yl 8)),(1,.ref (.ptr 4 0)),(2,.ref (.ptr 5 0)),(3,.ref (.ptr 6 0)),(7,ab fs),(8,int (↑(Fu fs) : Int)),(9,int (Fz Fs ((↑i : Int) + 1)))],h:=[.var [int kk,int ks,int ko],.var [int term],.var v0,.var [bool (bW term best some f).snd],.var [ab fs],.var [int kk,int ks,int ko],.var [int known],.defd,.loop F9 none 0 (mkT 50 0 [(6,.ref (.ptr 1 0)),(10,.ref (.ptr 2 0)),(11,.ref (.ptr 3 0)),(16,GX (F4 178) [] [.ref (.ptr 4 0),.ref (.ptr 5 0),.ref (.ptr 6 0)])]) { toList:=[17] } (ax (sub GU 0)) (al (sub GU 0))],m:=[] } FH [.st (.mask [0,1,2,3,7,8,9]),.st (.trim 9)] [.b true,.row [vi f.kind,vi f.sub,vi f.obj,vi f.value,vi f.frm,vi f.til,vi f.known,vi f.no],.g true,.g true,.g true,.g true,.ov 22 (bool (decide (f.known ≤ known))),.g true,.g true,.g true,.inv (bool true) [.var [int kk,int ks,int ko],.var [int term],.var v0,.var [bool (bW term best some f).snd],.var [ab fs],.var [int kk,int ks,int ko],.var [int known],.defd,.loop F9 none 0 (mkT 50 0 [(6,.ref (.ptr 1 0)),(10,.ref (.ptr 2 0)),(11,.ref (.ptr 3 0)),(16,GX (F4 178) [] [.ref (.ptr 4 0),.ref (.ptr 5 0),.ref (.ptr 6 0)])]) { toList:=[17] } (ax (sub GU 0)) (al (sub GU 0)),.var v1,.var v1],.g true,.ov 28 (bool !true),.b false] (.c hlt (.c hr (.c (eqa hc0) (.c (eqa hc0) (.c (eqa hc0) (.c (eqa hc0) (.c (pkt (bool (decide (f.known ≤ known))) (bool false) hc0) (.c (eqa hc1) (.c (eqa hc1) (.c (eqa hc1) (.c (@D4 kk ks ko term known fs best f some) (.c (eqa hc1) (.c (pkt (bool !true) (bool false) hc1) (.c (show (!true) = false from rfl) .n)))))))))))))) ?_ ?_ <;> subst v0 v1 <;> (first | rfl | (simp only [hw,ofIs,keyIs,hc0,hc1,Bool.and_self,cond_true]; rfl))
theorem D5 {kk ks ko term known : Int} {fs : List (List Dp)} {best b0 : FactT} {some s0 : Bool} {i : Nat} (hlt : decide ((i : Int) < (fs.length : Int)) = false) : (CW Fp Γ0 (atH kk ks ko term known fs b0 s0 .ready []) false (sub Jd 0) { t:=ofT fs i,h:=atH kk ks ko term known fs best some .ready [],m:=[] } (.exit 0) { t:=mkT 30 0 [],h:=atH kk ks ko term known fs best some .ready [],m:=[] }):=by
 exact zx [.st (.mask [])] [.b false] (.c hlt .n)
def oM (kk ks ko term known : Int) (s : FactT × Bool) (f : FactT) : FactT × Bool:=bif ofIs kk ks ko known f then bW term s.1 s.2 f else s
theorem aK {α σ : Type} (g : σ → α → σ) : ∀ (l : List α) (s : σ),forL (fun a s=>(.inl (g s a) : σ ⊕ Empty)) l s = .inl (l.foldl g s)
 | [],_=>rfl
 | a :: l,s=>aK g l (g s a)
theorem of_cw {kk ks ko term known : Int} {l : List FactT} (hl : ad l) {b0 : FactT} {s0 : Bool} :
  CW Fp Γ0 (atH kk ks ko term known (l.map FC) b0 s0 .ready []) false (.loop (sub Jd 0)) { t:=ofT (l.map FC) 0,h:=atH kk ks ko term known (l.map FC) b0 s0 .ready [],m:=[] } (.exit 0)
   { t:=mkT 30 0 [],h:=atH kk ks ko term known (l.map FC) (l.foldl (oM kk ks ko term known) (b0,s0)).1 (l.foldl (oM kk ks ko term known) (b0,s0)).2 .ready [],m:=[] }:=by
 have:=Ha (P:=Fp) (Γ:=Γ0) (h0:=atH kk ks ko term known (l.map FC) b0 s0 .ready []) (rd:=false) (c:=sub Jd 0) (σ:=FactT × Bool) (ρ:=Empty) l (fun f s=>.inl (oM kk ks ko term known s f))
  (fun i s=>{ t:=ofT (l.map FC) (i : Int),h:=atH kk ks ko term known (l.map FC) s.1 s.2 .ready [],m:=[] }) (.exit 0) (fun s=>{ t:=mkT 30 0 [],h:=atH kk ks ko term known (l.map FC) s.1 s.2 .ready [],m:=[] }) (fun r=>r.elim)
  (fun _ _=>True) (by simp) (fun r=>r.elim) ?_ ?_ (b0,s0) trivial
 ·rw [aK] at this
  exact this
 ·intro i f s hf _
  have hi:=(Fy.1 hf).1
  exact ⟨fun _ _=>trivial,of_body (rowAt hf rfl) (lt_len _ hi) (wrap_succ hi hl)⟩
 ·intro s _
  exact D5 (aC _ l)
theorem A2 {kk ks ko term known : Int} {l : List FactT} (hl : ad l) {b0 : FactT} {s0 : Bool} : (Ev Fp Γ0 178 [.ref (.yl 8),.ref (.ptr 4 0),.ref (.ptr 5 0),.ref (.ptr 6 0)] (atH kk ks ko term known (l.map FC) b0 s0 .ready []) (.tup []) (atH kk ks ko term known (l.map FC) (l.foldl (oM kk ks ko term known) (b0,s0)).1 (l.foldl (oM kk ks ko term known) (b0,s0)).2 .ready [])):=by
 have hl0:=(@of_cw (kk) (ks) (ko) (term) (known) (l) (hl) (b0) (s0))
 let v1:=Gx (oM kk ks ko term known) (b0,s0) l
 let v0 : List Blk:=[.var [int kk,int ks,int ko],.var [int term],.var [int v1.fst.kind,int v1.fst.sub,int v1.fst.obj,int v1.fst.value,int v1.fst.frm,int v1.fst.til,int v1.fst.known,int v1.fst.no],.var [bool v1.snd],.var [ab (Fo FC l)],.var [int kk,int ks,int ko],.var [int known],.defd,.loop F9 none 0 (mkT 50 0 [(6,.ref (.ptr 1 0)),(10,.ref (.ptr 2 0)),(11,.ref (.ptr 3 0)),(16,GX (F4 178) [] [.ref (.ptr 4 0),.ref (.ptr 5 0),.ref (.ptr 6 0)])]) { toList:=[17] } (ax (sub GU 0)) (al (sub GU 0))]
 exact FP (Gz (h':=v0) (d:=D.tup []) pok [.sum [0,1,2,3,7,8,9] (Gf 0) { t:=mkT 30 0 [],h:=v0,m:=[] }] (by kernel_rfl) (.c hl0 .n)) (by rfl) (by rfl)
noncomputable abbrev atH0 (kk ks ko term known : Int) (fs : List (List Dp)) (best : FactT) (some : Bool) : List Blk :=
 [.var [int kk,int ks,int ko],.var [int term],.var (best.row.map .p),.var [bool some],.var [ab fs],.var [int kk,int ks,int ko],.var [int known]]
theorem A3 {kk ks ko term known : Int} {l : List FactT} (hl : ad l) {b0 : FactT} {s0 : Bool} : CW Fp Γ0 [] false (sub GU 0) { t:=atT,h:=atH0 kk ks ko term known (l.map FC) b0 s0,m:=[] } .normal
  { t:=atT,h:=atH kk ks ko term known (l.map FC) (l.foldl (oM kk ks ko term known) (b0,s0)).1 (l.foldl (oM kk ks ko term known) (b0,s0)).2 .exhausted [],m:=[7] }:=by
 exact K7 (f:=178) (fi:=[]) (ca:=[.ref (.ptr 4 0),.ref (.ptr 5 0),.ref (.ptr 6 0)]) pok (s:={ t:=atT,h:=atH0 kk ks ko term known (l.map FC) b0 s0,m:=[] }) (g:=.tmp 16) (ps:=#[17]) (asg:=ax (sub GU 0)) (body:=al (sub GU 0)) rfl (by kernel_rfl) (A2 hl) rfl
def atR (kk ks ko term known : Int) (l : List FactT) : Int × Bool :=
 let r:=l.foldl (oM kk ks ko term known) (fz,false)
 bif !r.2 || decide (r.1.value < 0) then (0,false) else (r.1.value,true)
theorem D6 {kk ks ko term known : Int} {l : List FactT} (hl : ad l) (h : List Blk) : (Ev Fp Γ0 86 [ab (l.map FC),.agg [int kk,int ks,int ko],int term,int known] h (.tup [int (atR kk ks ko term known l).1,bool (atR kk ks ko term known l).2]) h):=by
 have hl0:=(@A3 (kk) (ks) (ko) (term) (known) (l) (hl) ({ kind:=0,sub:=0,obj:=0,value:=0,frm:=0,til:=0,known:=0,no:=0 }) (false))
 cases hc1 : !(Gx (oM kk ks ko term known) ({ kind:=0,sub:=0,obj:=0,value:=0,frm:=0,til:=0,known:=0,no:=0 },false) l).snd || decide ((Gx (oM kk ks ko term known) ({ kind:=0,sub:=0,obj:=0,value:=0,frm:=0,til:=0,known:=0,no:=0 },false) l).fst.value < 0)
 ·let v0:=Gx (oM kk ks ko term known) ({ kind:=0,sub:=0,obj:=0,value:=0,frm:=0,til:=0,known:=0,no:=0 },false) l
  exact zD (D.tup [int v0.fst.value,bool true]) [.inl,.sum [6,10,11,16] (FH) { t:=mkT 50 0 [(6,.ref (.ptr 1 0)),(10,.ref (.ptr 2 0)),(11,.ref (.ptr 3 0)),(16,GX (F4 178) [] [.ref (.ptr 4 0),.ref (.ptr 5 0),.ref (.ptr 6 0)])],h:=[.var [int kk,int ks,int ko],.var [int term],.var [int v0.fst.kind,int v0.fst.sub,int v0.fst.obj,int v0.fst.value,int v0.fst.frm,int v0.fst.til,int v0.fst.known,int v0.fst.no],.var [bool v0.snd],.var [ab (Fo FC l)],.var [int kk,int ks,int ko],.var [int known],.defd,.loop Gq none 0 (mkT 50 0 [(6,.ref (.ptr 1 0)),(10,.ref (.ptr 2 0)),(11,.ref (.ptr 3 0)),(16,GX (F4 178) [] [.ref (.ptr 4 0),.ref (.ptr 5 0),.ref (.ptr 6 0)])]) { toList:=[17] } (ax (sub GU 0)) (al (sub GU 0))],m:=[7] },.b false] (.c hl0 (.c hc1 .n)) h (by subst v0; simp only [atR,hc1,cond_false])
 ·let v0:=Gx (oM kk ks ko term known) ({ kind:=0,sub:=0,obj:=0,value:=0,frm:=0,til:=0,known:=0,no:=0 },false) l
  exact zD (D.tup [int 0,bool false]) [.inl,.sum [6,10,11,16] (FH) { t:=mkT 50 0 [(6,.ref (.ptr 1 0)),(10,.ref (.ptr 2 0)),(11,.ref (.ptr 3 0)),(16,GX (F4 178) [] [.ref (.ptr 4 0),.ref (.ptr 5 0),.ref (.ptr 6 0)])],h:=[.var [int kk,int ks,int ko],.var [int term],.var [int v0.fst.kind,int v0.fst.sub,int v0.fst.obj,int v0.fst.value,int v0.fst.frm,int v0.fst.til,int v0.fst.known,int v0.fst.no],.var [bool v0.snd],.var [ab (Fo FC l)],.var [int kk,int ks,int ko],.var [int known],.defd,.loop Gq none 0 (mkT 50 0 [(6,.ref (.ptr 1 0)),(10,.ref (.ptr 2 0)),(11,.ref (.ptr 3 0)),(16,GX (F4 178) [] [.ref (.ptr 4 0),.ref (.ptr 5 0),.ref (.ptr 6 0)])]) { toList:=[17] } (ax (sub GU 0)) (al (sub GU 0))],m:=[7] },.b true] (.c hl0 (.c hc1 .n)) h (by subst v0; simp only [atR,hc1,cond_true])
inductive RuleT where
 | mk (op course : Int) (name : ByteArray) (n d : Int) (kids : List RuleT)
mutual
def RuleT.row : RuleT → List Dp
 | .mk op c nm n d ks=>[vi op,vi c,vs nm,vi n,vi d,.sl (cS ks)]
def cS : List RuleT → List (List Dp)
 | []=>[]
 | k :: ks=>k.row :: cS ks
end
theorem fb : ∀ ks : List RuleT,cS ks = ks.map RuleT.row
 | []=>rfl
 | k :: ks=>by simp [cS,fb ks]
mutual
def RuleT.ok : RuleT → Prop
 | .mk op c _ n d ks=>(I64 op ∧ I64 c ∧ I64 n ∧ I64 d ∧ ad ks) ∧ lD ks
def lD : List RuleT → Prop
 | []=>True
 | k :: ks=>k.ok ∧ lD ks
end
theorem dK : ∀ {ks : List RuleT},lD ks → ∀ k ∈ ks,k.ok
 | [],_,k,hk=>by simp at hk
 | a :: ks,h,k,hk=>by
  simp only [lD] at h
  rcases Gd.1 hk with rfl | hk
  ·exact h.1
  ·exact dK h.2 k hk
structure RuF where
 op : Int
 c : Int
 nm : ByteArray
 n : Int
 d : Int
 ks : List (List Dp)
def RuF.row (x : RuF) : List Dp:=[vi x.op,vi x.c,vs x.nm,vi x.n,vi x.d,.sl x.ks]
def RuF.l (x : RuF) : List D:=[int x.op,int x.c,ak x.nm,int x.n,int x.d,ab x.ks]
def RuF.formed (x : RuF) : Bool:=ao x.op x.c x.n x.d x.ks.length
def RuF.ok (x : RuF) : Prop:=I64 x.n ∧ I64 x.d
def j6 (n1 dep : Int) (f : Bool) : Bool:=decide (n1 > 200) || decide (dep > 16) || !f
abbrev ckT : List D:=mkT 23 0 [(2,.ref (.ptr 1 0)),(3,.ref (.ptr 2 0)),(7,.fn (.func 240) [] [.ref (.ptr 4 0),.ref (.ptr 3 0)])]
noncomputable abbrev ckH (r : RuF) (e n : Int) (st : LoopState) (pe : Option Code) : List Blk :=
 [.var r.l,.var [int e],.var [int n],.var r.l,.var [.fn (.func 239) [] [.ref (.ptr 4 0)]],.defd,.loop st pe 0 ckT #[8,9] (ax (sub F8 0)) (al (sub F8 0))]
abbrev ckU (dep : Int) : List D:=mkT 23 0 [(2,.ref (.ptr 1 0)),(3,.ref (.ptr 2 0)),(4,int dep),(5,.ref (.ptr 8 0)),(7,.fn (.func 240) [] [.ref (.ptr 4 0),.ref (.ptr 3 0)])]
theorem Cj {r0 : RuF} {m dep : Int} {x : RuF} : (CW Fp Γk (ckH r0 0 m .ready none ++ [.var (x.l)]) true (ax (sub F8 0)) { t:=eD ckT [(8,int dep),(9,.agg x.l)],h:=ckH r0 0 m .ready none ++ [.var (x.l)],m:=[] } .normal { t:=ckU dep,h:=ckH r0 0 m .ready none ++ [.var (x.l),.var (x.l)],m:=[] }):=by
 let v0 : List D:=[int r0.op,int r0.c,ak r0.nm,int r0.n,int r0.d,ab r0.ks]
 let v1 : List D:=[int x.op,int x.c,ak x.nm,int x.n,int x.d,ab x.ks]
 exact zx [.st (.mask [2,3,4,5,7])] [] .n
noncomputable def vB (r0 : RuF) (m1 : Int) (more : List Blk) (b : Bool) : Exit × AS:=match b with
 | true=>(.ret,{ t:=mkT 23 0 [],h:=ckH r0 120 m1 .busy none ++ more,m:=[] })
 | false=>(.normal,{ t:=mkT 23 0 [],h:=ckH r0 0 m1 .busy none ++ more,m:=[] })
noncomputable abbrev jr (r0 : RuF) (m : Int) (x : RuF) : List Blk:=[.var [int r0.op,int r0.c,ak r0.nm,int r0.n,int r0.d,ab r0.ks],.var [int 0],.var [int (Fz Fs (m + 1))],.var [int r0.op,int r0.c,ak r0.nm,int r0.n,int r0.d,ab r0.ks],.var [GX (F4 239) [] [.ref (.ptr 4 0)]],.defd,.loop Hi none 0 (mkT 23 0 [(2,.ref (.ptr 1 0)),(3,.ref (.ptr 2 0)),(7,GX (F4 240) [] [.ref (.ptr 4 0),.ref (.ptr 3 0)])]) { toList:=[8,9] } (ax (sub F8 0)) (al (sub F8 0)),.var [int x.op,int x.c,ak x.nm,int x.n,int x.d,ab x.ks],.var [int x.op,int x.c,ak x.nm,int x.n,int x.d,ab x.ks]]
theorem D7 {r0 : RuF} {m dep : Int} {x : RuF} (hx : x.ok) : (CW Fp Γk (ckH r0 0 m .ready none ++ [.var (x.l)]) true (al (sub F8 0)) { t:=ckU dep,h:=ckH r0 0 m .busy none ++ [.var (x.l),.var (x.l)],m:=[] } (vB r0 (Fs.wrap (m + 1)) [.var (x.l),.var (x.l)] (j6 (Fs.wrap (m + 1)) dep (x.formed))).1 (vB r0 (Fs.wrap (m + 1)) [.var (x.l),.var (x.l)] (j6 (Fs.wrap (m + 1)) dep (x.formed))).2):=by
 cases hc0 : decide (Fz Fs (m + 1) > 200) || decide (dep > 16) || !ao x.op x.c x.n x.d (↑(Fu x.ks) : Int)
 ·refine zX { t:=mkT 23 0 [],h:=(jr r0 m x),m:=[] } FH [.st (.mask [])] [.val (bool (ao x.op x.c x.n x.d (↑(Fu x.ks) : Int))),.b false] (.c (gd (!(decide (Fz Fs (m + 1) > 200) || decide (dep > 16))) (@qP (x.op) (x.c) (x.nm) (x.n) (x.d) (x.ks) (by exact hx.1) (by exact hx.2) (jr r0 m x))) (.c hc0 .n)) ?_ ?_ <;> (have hs : j6 (Fs.wrap (m + 1)) dep (x.formed) = false:=hc0; (first | (simp only [hs,vB]; done) | (simp only [hs,vB]; rfl)))
 ·let v0 : List D:=[int r0.op,int r0.c,ak r0.nm,int r0.n,int r0.d,ab r0.ks]
  let v1 : List D:=[int x.op,int x.c,ak x.nm,int x.n,int x.d,ab x.ks]
  refine zX { t:=mkT 23 0 [],h:=[.var v0,.var [int 120],.var [int (Fz Fs (m + 1))],.var v0,.var [GX (F4 239) [] [.ref (.ptr 4 0)]],.defd,.loop Hi none 0 (mkT 23 0 [(2,.ref (.ptr 1 0)),(3,.ref (.ptr 2 0)),(7,GX (F4 240) [] [.ref (.ptr 4 0),.ref (.ptr 3 0)])]) { toList:=[8,9] } (ax (sub F8 0)) (al (sub F8 0)),.var v1,.var v1],m:=[] } Gw [.st (.mask [])] [.val (bool (ao x.op x.c x.n x.d (↑(Fu x.ks) : Int))),.b true] (.c (gd (!(decide (Fz Fs (m + 1) > 200) || decide (dep > 16))) (@qP (x.op) (x.c) (x.nm) (x.n) (x.d) (x.ks) (by subst v0 v1; exact hx.1) (by subst v0 v1; exact hx.2) (jr r0 m x))) (.c hc0 .n)) ?_ ?_ <;> subst v0 v1 <;> (have hs : j6 (Fs.wrap (m + 1)) dep (x.formed) = true:=hc0; (first | (simp only [hs,vB]; done) | (simp only [hs,vB]; rfl)))
noncomputable def ckSt (r0 : RuF) (m1 : Int) (b : Bool) : List Blk:=match b with
 | true=>ckH r0 120 m1 .done (some .ret)
 | false=>ckH r0 0 m1 .ready none
theorem D8 {r0 : RuF} {m dep : Int} {x : RuF} (hx : x.ok) : Iv Fp Γk (.ref (.yl 6)) [int dep,.agg x.l] (ckH r0 0 m .ready none ++ [.var (x.l)]) (bool (!j6 (Fs.wrap (m + 1)) dep (x.formed)))
  (ckSt r0 (Fs.wrap (m + 1)) (j6 (Fs.wrap (m + 1)) dep (x.formed)) ++ [.var (x.l),.var (x.l)]):=by
 have hb:=D7 (r0:=r0) (m:=m) (dep:=dep) hx
 cases h : j6 (Fs.wrap (m + 1)) dep (x.formed)
 ·rw [h] at hb
  exact Iv.round (h1:=ckH r0 0 m .ready none ++ [.var (x.l),.var (x.l)]) rfl rfl Cj rfl hb rfl
 ·rw [h] at hb
  exact Iv.round (h1:=ckH r0 0 m .ready none ++ [.var (x.l),.var (x.l)]) rfl rfl Cj rfl hb rfl
mutual
def RuleT.walk : RuleT → Int → Int → Int × Bool
 | .mk op c _ n d ks,dep,m=>match j6 (Fs.wrap (m + 1)) dep (ao op c n d ks.length) with
  | true=>(Fs.wrap (m + 1),true)
  | false=>walkL ks (Fs.wrap (dep + 1)) (Fs.wrap (m + 1))
def walkL : List RuleT → Int → Int → Int × Bool
 | [],_,m=>(m,false)
 | k :: ks,dep,m=>match k.walk dep m with
  | (m',true)=>(m',true)
  | (m',false)=>walkL ks dep m'
end
abbrev wkF (dep : Int) (k : RuleT) (m : Int) : Int ⊕ Int:=match k.walk dep m with
 | (m',true)=>.inr m'
 | (m',false)=>.inl m'
theorem nd (dep : Int) : ∀ (ks : List RuleT) (m : Int),forL (wkF dep) ks m = match walkL ks dep m with | (m',true)=>.inr m' | (m',false)=>.inl m'
 | [],m=>by simp [forL,walkL]
 | k :: ks,m=>by
  simp only [forL,walkL,wkF]
  cases h : k.walk dep m with
  | mk m' b=>cases b with
   | true=>rfl
   | false=>exact nd dep ks m'
noncomputable abbrev wkS (x r0 : RuF) (dep m i : Int) : AS:={ t:=mkT 30 0 [(1,int dep),(2,.ref (.yl 6)),(3,.ref (.ptr 4 0)),(7,bool false),(16,ab x.ks),(17,int x.ks.length),(18,int i)],h:=ckH r0 0 m .ready none ++ [.var (x.l)],m:=[] }
theorem A4 {x r0 : RuF} {dep m m0 : Int} {i : Nat} {m' : Int} {y : RuF} (hr : ah (i : Int) x.ks y.row 6) (hlt : decide ((i : Int) < (x.ks.length : Int)) = true) (hw : Fs.wrap ((i : Int) + 1) = ((i + 1 : Nat) : Int))
  (hk : Ev Fp Γk 239 [.agg y.l,int (Fs.wrap (dep + 1)),.ref (.yl 6),.ref (.ptr 4 0)] (ckH r0 0 m .ready none) (bool true) (ckH r0 0 m' .ready none)) : (CW Fp Γk (ckH r0 0 m0 .ready none) false (sub Kq 0) (wkS x r0 dep m i) .normal (wkS x r0 dep m' ((i + 1 : Nat) : Int))):=by
 let v2 : List D:=[int r0.op,int r0.c,ak r0.nm,int r0.n,int r0.d,ab r0.ks]
 let v3 : List D:=[int y.op,int y.c,ak y.nm,int y.n,int y.d,ab y.ks]
 let v4 : List D:=[int x.op,int x.c,ak x.nm,int x.n,int x.d,ab x.ks]
 let v5 : List D:=[.ref (.ptr 4 0),.ref (.ptr 3 0)]
 let v0 : List Blk:=[.var v2,.var [int 0],.var [int m'],.var v2,.var [GX (F4 239) [] [.ref (.ptr 4 0)]],.defd,.loop F9 none 0 (mkT 23 0 [(2,.ref (.ptr 1 0)),(3,.ref (.ptr 2 0)),(7,GX (F4 240) [] v5)]) { toList:=[8,9] } (ax (sub F8 0)) (al (sub F8 0)),.var v4,.var v3]
 let v1 : List Blk:=[.var v2,.var [int 0],.var [int m],.var v2,.var [GX (F4 239) [] [.ref (.ptr 4 0)]],.defd,.loop F9 none 0 (mkT 23 0 [(2,.ref (.ptr 1 0)),(3,.ref (.ptr 2 0)),(7,GX (F4 240) [] v5)]) { toList:=[8,9] } (ax (sub F8 0)) (al (sub F8 0)),.var v4,.var v3]
 refine zX { t:=mkT 30 0 [(1,int dep),(2,.ref (.yl 6)),(3,.ref (.ptr 4 0)),(7,bool false),(16,ab x.ks),(17,int (↑(Fu x.ks) : Int)),(18,int (Fz Fs ((↑i : Int) + 1)))],h:=[.var v2,.var [int 0],.var [int m'],.var v2,.var [GX (F4 239) [] [.ref (.ptr 4 0)]],.defd,.loop F9 none 0 (mkT 23 0 [(2,.ref (.ptr 1 0)),(3,.ref (.ptr 2 0)),(7,GX (F4 240) [] v5)]) { toList:=[8,9] } (ax (sub F8 0)) (al (sub F8 0)),.var v4],m:=[] } FH [.st (.mask [1,2,3,7,16,17,18]),.st (.trim 8)] [.b true,.row [vi y.op,vi y.c,vs y.nm,vi y.n,vi y.d,Gp y.ks],.call (bool true) v0,.b false] (.c hlt (.c hr (.c (show Ev Fp Γk 239 [FU v3,int (Fz Fs (dep + 1)),.ref (.yl 6),.ref (.ptr 4 0)] v1 (bool true) v0 from (FP (Ev.frameX (args:=[FU v3,int (Fz Fs (dep + 1)),.ref (.yl 6),.ref (.ptr 4 0)]) (H:=v1) [0,1,2,3,4,5,6] (@hk) (by kernel_rfl) (by kernel_rfl) (by kernel_rfl) trivial trivial) (by kernel_rfl) (by kernel_rfl))) (.c (show (!true) = false from rfl) .n)))) ?_ ?_ <;> subst v2 v3 v4 v5 v0 v1 <;> (first | rfl | (rw [hw]; rfl))
noncomputable abbrev wkX (x r0 : RuF) (m : Int) : Exit × AS:=(.ret,{ t:=mkT 30 0 [(7,bool false)],h:=ckH r0 120 m .done (some .ret) ++ [.var (x.l)],m:=[] })
theorem A5 {x r0 : RuF} {dep m m0 : Int} {i : Nat} {m' : Int} {y : RuF} (hr : ah (i : Int) x.ks y.row 6) (hlt : decide ((i : Int) < (x.ks.length : Int)) = true)
  (hk : Ev Fp Γk 239 [.agg y.l,int (Fs.wrap (dep + 1)),.ref (.yl 6),.ref (.ptr 4 0)] (ckH r0 0 m .ready none) (bool false) (ckH r0 120 m' .done (some .ret))) : (CW Fp Γk (ckH r0 0 m0 .ready none) false (sub Kq 0) (wkS x r0 dep m i) (wkX x r0 m').1 (wkX x r0 m').2):=by
 let v2 : List D:=[int r0.op,int r0.c,ak r0.nm,int r0.n,int r0.d,ab r0.ks]
 let v3 : List D:=[int y.op,int y.c,ak y.nm,int y.n,int y.d,ab y.ks]
 let v4 : List D:=[int x.op,int x.c,ak x.nm,int x.n,int x.d,ab x.ks]
 let v5 : List D:=[.ref (.ptr 4 0),.ref (.ptr 3 0)]
 let v0 : List Blk:=[.var v2,.var [int 120],.var [int m'],.var v2,.var [GX (F4 239) [] [.ref (.ptr 4 0)]],.defd,.loop H1 (some Jg) 0 (mkT 23 0 [(2,.ref (.ptr 1 0)),(3,.ref (.ptr 2 0)),(7,GX (F4 240) [] v5)]) { toList:=[8,9] } (ax (sub F8 0)) (al (sub F8 0)),.var v4,.var v3]
 let v1 : List Blk:=[.var v2,.var [int 0],.var [int m],.var v2,.var [GX (F4 239) [] [.ref (.ptr 4 0)]],.defd,.loop F9 none 0 (mkT 23 0 [(2,.ref (.ptr 1 0)),(3,.ref (.ptr 2 0)),(7,GX (F4 240) [] v5)]) { toList:=[8,9] } (ax (sub F8 0)) (al (sub F8 0)),.var v4,.var v3]
 exact zx [.st (.mask [7]),.st (.trim 8)] [.b true,.row [vi y.op,vi y.c,vs y.nm,vi y.n,vi y.d,Gp y.ks],.call (bool false) v0,.b true] (.c hlt (.c hr (.c (show Ev Fp Γk 239 [FU v3,int (Fz Fs (dep + 1)),.ref (.yl 6),.ref (.ptr 4 0)] v1 (bool false) v0 from (FP (Ev.frameX (args:=[FU v3,int (Fz Fs (dep + 1)),.ref (.yl 6),.ref (.ptr 4 0)]) (H:=v1) [0,1,2,3,4,5,6] (@hk) (by kernel_rfl) (by kernel_rfl) (by kernel_rfl) trivial trivial) (by kernel_rfl) (by kernel_rfl))) (.c (show (!false) = true from rfl) .n))))
theorem D9 {x r0 : RuF} {dep m m0 : Int} {i : Nat} (hlt : decide ((i : Int) < (x.ks.length : Int)) = false) : (CW Fp Γk (ckH r0 0 m0 .ready none) false (sub Kq 0) (wkS x r0 dep m i) (.exit 0) { t:=mkT 30 0 [(7,bool false)],h:=ckH r0 0 m .ready none ++ [.var (x.l)],m:=[] }):=by
 let v0 : List D:=[int r0.op,int r0.c,ak r0.nm,int r0.n,int r0.d,ab r0.ks]
 exact zx [.st (.mask [7]),.st (.trim 8)] [.b false] (.c hlt .n)
def RuleT.fl : RuleT → RuF
 | .mk op c nm n d ks=>⟨op,c,nm,n,d,cS ks⟩
theorem RuleT.fl_row (r : RuleT) : r.fl.row = r.row:=by cases r; rfl
theorem RuleT.fl_ok {r : RuleT} (h : r.ok) : r.fl.ok:=by cases r; simp only [RuleT.ok] at h; exact ⟨h.1.2.2.1,h.1.2.2.2.1⟩
noncomputable def wkFin (x r0 : RuF) (p : Int ⊕ Int) : Exit × AS:=aV (.exit 0) (fun m'=>{ t:=mkT 30 0 [(7,bool false)],h:=ckH r0 0 m' .ready none ++ [.var x.l],m:=[] }) (fun m'=>wkX x r0 m') p
theorem wk_cw {r0 x : RuF} {ks : List RuleT} (hx : x.ks = ks.map RuleT.row) (hl : ad ks) {dep m m0 : Int} (hk : ∀ k ∈ ks,∀ m,Ev Fp Γk 239 [.agg k.fl.l,int (Fs.wrap (dep + 1)),.ref (.yl 6),.ref (.ptr 4 0)] (ckH r0 0 m .ready none) (bool (!(k.walk (Fs.wrap (dep + 1)) m).2)) (ckSt r0 (k.walk (Fs.wrap (dep + 1)) m).1 (k.walk (Fs.wrap (dep + 1)) m).2)) :
  CW Fp Γk (ckH r0 0 m0 .ready none) false (.loop (sub Kq 0)) (wkS x r0 dep m 0) (wkFin x r0 (forL (wkF (Fs.wrap (dep + 1))) ks m)).1 (wkFin x r0 (forL (wkF (Fs.wrap (dep + 1))) ks m)).2:=by
 refine Ha ks (wkF (Fs.wrap (dep + 1))) (fun i m=>wkS x r0 dep m (i : Int)) (.exit 0) _ (fun m'=>wkX x r0 m') (fun _ _=>True) (by simp) (fun _=>by simp) ?_ ?_ m trivial
 ·intro i k m hki _
  have hi:=(Fy.1 hki).1
  have hr : ah (i : Int) x.ks k.fl.row 6:=by rw [hx,k.fl_row]; exact rowAt hki (by cases k; rfl)
  have hlt : decide ((i : Int) < (x.ks.length : Int)) = true:=by rw [hx]; exact lt_len _ hi
  have hev:=hk k (FV hki) m
  refine ⟨fun _ _=>trivial,?_⟩
  simp only [wkF]
  cases hw : k.walk (Fs.wrap (dep + 1)) m with
  | mk m' b =>
   rw [hw] at hev
   cases b with
   | true=>exact A5 hr hlt hev
   | false=>exact A4 hr hlt (wrap_succ hi hl) hev
 ·intro m _
  exact D9 (by rw [hx]; exact aC _ ks)
theorem walkA {r0 x : RuF} {dep m m' : Int} (hi : Iv Fp Γk (.ref (.yl 6)) [int dep,.agg x.l] (ckH r0 0 m .ready none ++ [.var x.l]) (bool false) (ckH r0 120 m' .done (some .ret) ++ [.var x.l,.var x.l])) : (Ev Fp Γk 239 [.agg x.l,int dep,.ref (.yl 6),.ref (.ptr 4 0)] (ckH r0 0 m .ready none) (bool false) (ckH r0 120 m' .done (some .ret))):=by
 let v0 : List D:=[int r0.op,int r0.c,ak r0.nm,int r0.n,int r0.d,ab r0.ks]
 let v1 : List D:=[int x.op,int x.c,ak x.nm,int x.n,int x.d,ab x.ks]
 exact FP (Ev.symT (h':=[.var v0,.var [int 120],.var [int m'],.var v0,.var [GX (F4 239) [] [.ref (.ptr 4 0)]],.defd,.loop H1 (some Jg) 0 (mkT 23 0 [(2,.ref (.ptr 1 0)),(3,.ref (.ptr 2 0)),(7,GX (F4 240) [] [.ref (.ptr 4 0),.ref (.ptr 3 0)])]) { toList:=[8,9] } (ax (sub F8 0)) (al (sub F8 0))]) (d:=bool false) pok [.inv (bool false) [.var v0,.var [int 120],.var [int m'],.var v0,.var [GX (F4 239) [] [.ref (.ptr 4 0)]],.defd,.loop H1 (some Jg) 0 (mkT 23 0 [(2,.ref (.ptr 1 0)),(3,.ref (.ptr 2 0)),(7,GX (F4 240) [] [.ref (.ptr 4 0),.ref (.ptr 3 0)])]) { toList:=[8,9] } (ax (sub F8 0)) (al (sub F8 0)),.var v1,.var v1],.b true] (by kernel_rfl) (.c (@hi) (.c (show (!false) = true from rfl) .n))) (by rfl) (by rfl)
def A6 : Int ⊕ Int → Int × Bool
 | .inl m=>(m,false)
 | .inr m=>(m,true)
theorem A7 (dep : Int) (ks : List RuleT) (m : Int) : A6 (forL (wkF dep) ks m) = walkL ks dep m:=by
 rw [nd]
 cases walkL ks dep m with
 | mk m' b=>cases b <;> rfl
noncomputable abbrev ur (r0 : RuF) (x : RuF) (m' : Int) : List Blk:=[.var [int r0.op,int r0.c,ak r0.nm,int r0.n,int r0.d,ab r0.ks],.var [int 0],.var [int m'],.var [int r0.op,int r0.c,ak r0.nm,int r0.n,int r0.d,ab r0.ks],.var [GX (F4 239) [] [.ref (.ptr 4 0)]],.defd,.loop F9 none 0 (mkT 23 0 [(2,.ref (.ptr 1 0)),(3,.ref (.ptr 2 0)),(7,GX (F4 240) [] [.ref (.ptr 4 0),.ref (.ptr 3 0)])]) { toList:=[8,9] } (ax (sub F8 0)) (al (sub F8 0)),.var [int x.op,int x.c,ak x.nm,int x.n,int x.d,ab x.ks],.var [int x.op,int x.c,ak x.nm,int x.n,int x.d,ab x.ks]]
theorem walkB {r0 x : RuF} {ks : List RuleT} (hx : x.ks = ks.map RuleT.row) (hl : ad ks) {dep m m' : Int} (hi : Iv Fp Γk (.ref (.yl 6)) [int dep,.agg x.l] (ckH r0 0 m .ready none ++ [.var x.l]) (bool true) (ckH r0 0 m' .ready none ++ [.var x.l,.var x.l]))
  (hk : ∀ k ∈ ks,∀ m,Ev Fp Γk 239 [.agg k.fl.l,int (Fs.wrap (dep + 1)),.ref (.yl 6),.ref (.ptr 4 0)] (ckH r0 0 m .ready none) (bool (!(k.walk (Fs.wrap (dep + 1)) m).2)) (ckSt r0 (k.walk (Fs.wrap (dep + 1)) m).1 (k.walk (Fs.wrap (dep + 1)) m).2)) : (Ev Fp Γk 239 [.agg x.l,int dep,.ref (.yl 6),.ref (.ptr 4 0)] (ckH r0 0 m .ready none) (bool (!(A6 (forL (wkF (Fs.wrap (dep + 1))) ks m')).2)) (ckSt r0 (A6 (forL (wkF (Fs.wrap (dep + 1))) ks m')).1 (A6 (forL (wkF (Fs.wrap (dep + 1))) ks m')).2)):=by
 have hl0:=(@wk_cw (r0) (x) (ks) (hx) (hl) (dep) (m') (m) (hk))
 revert hl0
 cases ho1 : forL (wkF (Fz Fs (dep + 1))) ks m' with
 | inl o1_0_0 =>
  intro hl0
  let v0 : List D:=[int r0.op,int r0.c,ak r0.nm,int r0.n,int r0.d,ab r0.ks]
  refine FP (Ev.symT (h':=[.var v0,.var [int 0],.var [int o1_0_0],.var v0,.var [GX (F4 239) [] [.ref (.ptr 4 0)]],.defd,.loop F9 none 0 (mkT 23 0 [(2,.ref (.ptr 1 0)),(3,.ref (.ptr 2 0)),(7,GX (F4 240) [] [.ref (.ptr 4 0),.ref (.ptr 3 0)])]) { toList:=[8,9] } (ax (sub F8 0)) (al (sub F8 0))]) (d:=bool true) pok [.inv (bool true) (ur r0 x m'),.b false,.st (.trim 8),.sum [1,2,3,7,16,17,18] (Gf 0) { t:=mkT 30 0 [(7,bool false)],h:=[.var v0,.var [int 0],.var [int o1_0_0],.var v0,.var [GX (F4 239) [] [.ref (.ptr 4 0)]],.defd,.loop F9 none 0 (mkT 23 0 [(2,.ref (.ptr 1 0)),(3,.ref (.ptr 2 0)),(7,GX (F4 240) [] [.ref (.ptr 4 0),.ref (.ptr 3 0)])]) { toList:=[8,9] } (ax (sub F8 0)) (al (sub F8 0)),.var [int x.op,int x.c,ak x.nm,int x.n,int x.d,ab x.ks]],m:=[] }] (by kernel_rfl) (.c (@hi) (.c (show (!true) = false from rfl) (.c hl0 .n)))) ?_ ?_ <;> subst v0 <;> (rfl)
 | inr o1_1_0 =>
  intro hl0
  let v0 : List D:=[int r0.op,int r0.c,ak r0.nm,int r0.n,int r0.d,ab r0.ks]
  refine FP (Ev.symT (h':=[.var v0,.var [int 120],.var [int o1_1_0],.var v0,.var [GX (F4 239) [] [.ref (.ptr 4 0)]],.defd,.loop H1 (some Jg) 0 (mkT 23 0 [(2,.ref (.ptr 1 0)),(3,.ref (.ptr 2 0)),(7,GX (F4 240) [] [.ref (.ptr 4 0),.ref (.ptr 3 0)])]) { toList:=[8,9] } (ax (sub F8 0)) (al (sub F8 0))]) (d:=bool false) pok [.inv (bool true) (ur r0 x m'),.b false,.st (.trim 8),.sum [1,2,3,7,16,17,18] (Gw) { t:=mkT 30 0 [(7,bool false)],h:=[.var v0,.var [int 120],.var [int o1_1_0],.var v0,.var [GX (F4 239) [] [.ref (.ptr 4 0)]],.defd,.loop H1 (some Jg) 0 (mkT 23 0 [(2,.ref (.ptr 1 0)),(3,.ref (.ptr 2 0)),(7,GX (F4 240) [] [.ref (.ptr 4 0),.ref (.ptr 3 0)])]) { toList:=[8,9] } (ax (sub F8 0)) (al (sub F8 0)),.var [int x.op,int x.c,ak x.nm,int x.n,int x.d,ab x.ks]],m:=[] }] (by kernel_rfl) (.c (@hi) (.c (show (!true) = false from rfl) (.c hl0 .n)))) ?_ ?_ <;> subst v0 <;> (rfl)
theorem ut (r0 : RuF) : ∀ (r : RuleT),r.ok → ∀ (dep m : Int),Ev Fp Γk 239 [.agg r.fl.l,int dep,.ref (.yl 6),.ref (.ptr 4 0)] (ckH r0 0 m .ready none) (bool (!(r.walk dep m).2)) (ckSt r0 (r.walk dep m).1 (r.walk dep m).2)
 | .mk op c nm n d ks,hr,dep,m=>by
  have hok:=RuleT.fl_ok hr
  simp only [RuleT.ok] at hr
  have hiv:=D8 (r0:=r0) (m:=m) (dep:=dep) hok
  have hlen : ((RuleT.mk op c nm n d ks).fl.ks.length : Int) = ks.length:=by simp [RuleT.fl,fb]
  have hf : (RuleT.mk op c nm n d ks).fl.formed = ao op c n d ks.length:=by
   show ao op c n d ((RuleT.mk op c nm n d ks).fl.ks.length : Int) = _
   rw [hlen]
  rw [hf] at hiv
  simp only [RuleT.walk]
  cases hs : j6 (Fs.wrap (m + 1)) dep (ao op c n d ks.length) with
  | true =>
   rw [hs] at hiv
   exact walkA hiv
  | false =>
   rw [hs] at hiv
   have:=walkB (r0:=r0) (x:=(RuleT.mk op c nm n d ks).fl) (ks:=ks) (fb ks) hr.1.2.2.2.2 (m:=m) (dep:=dep) hiv (fun k hk m=>ut r0 k (dK hr.2 k hk) _ m)
   rw [A7] at this
   exact this
termination_by r=>SizeOf.sizeOf r
decreasing_by
 have:=List.sizeOf_lt_of_mem hk
 simp only [RuleT.mk.sizeOf_spec]
 omega
noncomputable abbrev iA (x : RuF) (m' : Int) : List Blk:=[.var [int x.op,int x.c,ak x.nm,int x.n,int x.d,ab x.ks],.var [int 120],.var [int m'],.var [int x.op,int x.c,ak x.nm,int x.n,int x.d,ab x.ks],.var [GX (F4 239) [] [.ref (.ptr 4 0)]],.defd,.loop H1 (some Jg) 0 (mkT 23 0 [(2,.ref (.ptr 1 0)),(3,.ref (.ptr 2 0)),(7,GX (F4 240) [] [.ref (.ptr 4 0),.ref (.ptr 3 0)])]) { toList:=[8,9] } (ax (sub F8 0)) (al (sub F8 0))]
theorem vC {x : RuF} {m' : Int} (hk : Ev Fp Γk 239 [.agg x.l,int 1,.ref (.yl 6),.ref (.ptr 4 0)] (ckH x 0 0 .ready none) (bool false) (ckH x 120 m' .done (some .ret))) : (Ev Fp Γk 240 [.ref (.yl 6),.ref (.ptr 4 0),.ref (.ptr 3 0)] (ckH x 0 0 .ready none) (.tup []) (ckH x 120 m' .done (some .ret))):=by
 exact FP (Gz (h':=(iA x m')) (d:=D.tup []) pok [.call (bool false) (iA x m')] (by kernel_rfl) (.c (@hk) .n)) (by rfl) (by rfl)
noncomputable abbrev iB (x : RuF) (m' : Int) : List Blk:=[.var [int x.op,int x.c,ak x.nm,int x.n,int x.d,ab x.ks],.var [int 0],.var [int m'],.var [int x.op,int x.c,ak x.nm,int x.n,int x.d,ab x.ks],.var [GX (F4 239) [] [.ref (.ptr 4 0)]],.defd,.loop F9 none 0 (mkT 23 0 [(2,.ref (.ptr 1 0)),(3,.ref (.ptr 2 0)),(7,GX (F4 240) [] [.ref (.ptr 4 0),.ref (.ptr 3 0)])]) { toList:=[8,9] } (ax (sub F8 0)) (al (sub F8 0))]
theorem vD {x : RuF} {m' : Int} (hk : Ev Fp Γk 239 [.agg x.l,int 1,.ref (.yl 6),.ref (.ptr 4 0)] (ckH x 0 0 .ready none) (bool true) (ckH x 0 m' .ready none)) : (Ev Fp Γk 240 [.ref (.yl 6),.ref (.ptr 4 0),.ref (.ptr 3 0)] (ckH x 0 0 .ready none) (.tup []) (ckH x 0 m' .ready none)):=by
 exact FP (Gz (h':=(iB x m')) (d:=D.tup []) pok [.call (bool true) (iB x m')] (by kernel_rfl) (.c (@hk) .n)) (by rfl) (by rfl)
abbrev ckH0 (r : RuF) : List Blk:=[.var r.l,.var [int 0],.var [int 0],.var r.l,.var [.fn (.func 239) [] [.ref (.ptr 4 0)]]]
theorem ckT_rf {x : RuF} {m' : Int} (hk : Ev Fp Γk 239 [.agg x.l,int 1,.ref (.yl 6),.ref (.ptr 4 0)] (ckH x 0 0 .ready none) (bool false) (ckH x 120 m' .done (some .ret))) :
  CW Fp Γk [] false (sub F8 0) { t:=ckT,h:=ckH0 x,m:=[] } .ret { t:=ckT,h:=ckH x 120 m' .exhausted (some .ret),m:=[5] } :=
 K7 (f:=240) (fi:=[]) (ca:=[.ref (.ptr 4 0),.ref (.ptr 3 0)]) pok (s:={ t:=ckT,h:=ckH0 x,m:=[] }) (g:=.tmp 7) (ps:=#[8,9]) (asg:=ax (sub F8 0)) (body:=al (sub F8 0)) rfl (by kernel_rfl) (vC hk) rfl
theorem ckF_rf {x : RuF} {m' : Int} (hk : Ev Fp Γk 239 [.agg x.l,int 1,.ref (.yl 6),.ref (.ptr 4 0)] (ckH x 0 0 .ready none) (bool true) (ckH x 0 m' .ready none)) :
  CW Fp Γk [] false (sub F8 0) { t:=ckT,h:=ckH0 x,m:=[] } .normal { t:=ckT,h:=ckH x 0 m' .exhausted none,m:=[5] } :=
 K7 (f:=240) (fi:=[]) (ca:=[.ref (.ptr 4 0),.ref (.ptr 3 0)]) pok (s:={ t:=ckT,h:=ckH0 x,m:=[] }) (g:=.tmp 7) (ps:=#[8,9]) (asg:=ax (sub F8 0)) (body:=al (sub F8 0)) rfl (by kernel_rfl) (vD hk) rfl
def RuleT.bad (r : RuleT) : Bool:=(r.walk 1 0).2
noncomputable def Ea (x : RuF) (p : Int × Bool) : Exit × AS:=match p.2 with
 | true=>(.ret,{ t:=ckT,h:=ckH x 120 p.1 .exhausted (some .ret),m:=[5] })
 | false=>(.normal,{ t:=ckT,h:=ckH x 0 p.1 .exhausted none,m:=[5] })
theorem A8 {r : RuleT} (hr : r.ok) {x : RuF} (hx : x = r.fl) : CW Fp Γk [] false (sub F8 0) { t:=ckT,h:=ckH0 x,m:=[] } (Ea x (r.walk 1 0)).1 (Ea x (r.walk 1 0)).2:=by
 subst hx
 have hk:=ut r.fl r hr 1 0
 unfold Ea
 cases h : r.walk 1 0 with
 | mk m' b =>
  rw [h] at hk
  cases b with
  | true=>exact ckT_rf hk
  | false=>exact ckF_rf hk
def cq (b : Bool) : Int:=match b with | true=>120 | false=>0
theorem Eb {r : RuleT} (hr : r.ok) {x : RuF} (hx : x = r.fl) (h : List Blk) : (Ev Fp Γk 226 [.agg x.l] h (int (cq r.bad)) h):=by
 have hl0:=(@A8 (r) (hr) (x) (hx))
 revert hl0
 cases ho1 : RuleT.walk r 1 0 with
 | mk o1_0_0 o1_0_1 =>
  intro hl0
  revert hl0
  cases ho2 : o1_0_1 with
  | false =>
   intro hl0
   exact zD (int 0) [.inl,.sum [2,3,7] (FH) { t:=mkT 23 0 [(2,.ref (.ptr 1 0)),(3,.ref (.ptr 2 0)),(7,GX (F4 240) [] [.ref (.ptr 4 0),.ref (.ptr 3 0)])],h:=[.var [int x.op,int x.c,ak x.nm,int x.n,int x.d,ab x.ks],.var [int 0],.var [int o1_0_0],.var [int x.op,int x.c,ak x.nm,int x.n,int x.d,ab x.ks],.var [GX (F4 239) [] [.ref (.ptr 4 0)]],.defd,.loop Gq none 0 (mkT 23 0 [(2,.ref (.ptr 1 0)),(3,.ref (.ptr 2 0)),(7,GX (F4 240) [] [.ref (.ptr 4 0),.ref (.ptr 3 0)])]) { toList:=[8,9] } (ax (sub F8 0)) (al (sub F8 0))],m:=[5] }] (.c hl0 .n) h (by simp [RuleT.bad,cq,ho1,ho2])
  | true =>
   intro hl0
   exact zD (int 120) [.inl,.sum [2,3,7] (Gw) { t:=mkT 23 0 [(2,.ref (.ptr 1 0)),(3,.ref (.ptr 2 0)),(7,GX (F4 240) [] [.ref (.ptr 4 0),.ref (.ptr 3 0)])],h:=[.var [int x.op,int x.c,ak x.nm,int x.n,int x.d,ab x.ks],.var [int 120],.var [int o1_0_0],.var [int x.op,int x.c,ak x.nm,int x.n,int x.d,ab x.ks],.var [GX (F4 239) [] [.ref (.ptr 4 0)]],.defd,.loop Gq (some Jg) 0 (mkT 23 0 [(2,.ref (.ptr 1 0)),(3,.ref (.ptr 2 0)),(7,GX (F4 240) [] [.ref (.ptr 4 0),.ref (.ptr 3 0)])]) { toList:=[8,9] } (ax (sub F8 0)) (al (sub F8 0))],m:=[5] }] (.c hl0 .n) h (by simp [RuleT.bad,cq,ho1,ho2])
theorem iC {r : RuleT} (hr : r.ok) (h : List Blk) : Ev Fp Γk 226 [.agg r.fl.l] h (int (cq r.bad)) h:=by
 exact Eb hr rfl h
def de (n : Int) : Bool:=decide (n ≥ 5) && decide (n ≤ 9)
theorem bM {n : Int} (h : List Blk) : (Ev Fp Γ0 236 [int n] h (bool (de n)) h):=by
 exact z0 [] .n h
def A9 (n : Int) : Bool:=decide (n ≥ 0) && decide (n < 4096)
theorem gK {n : Int} (h : List Blk) : (Ev Fp Γ0 237 [int n] h (bool (A9 n)) h):=by
 exact z0 [] .n h
theorem yh {n d : Int} (hn : I64 n) (hd : I64 d) (h : List Blk) : (Ev Fp Γ0 238 [.agg [int n,int d]] h (bool (fP n d)) h):=by
 exact z0 [.val (int (bi n d))] (.c (@cG n d hn hd ([.var [int n,int d]])) .n) h
theorem sI (c : Int) : A9 c = inB c 0 4095:=by
 unfold A9 inB
 congr 1
 exact decide_eq_decide.2 (by omega)
noncomputable abbrev ar (x : RuF) : List Blk:=[.var [int x.op,int x.c,ak x.nm,int x.n,int x.d,ab x.ks]]
theorem gL {x : RuF} (hx : x.ok) (h : List Blk) : (Ev Fp Γ0 231 [.agg x.l] h (bool x.formed) h):=by
 cases hc0 : !(x.op == 5 || x.op == 6 || x.op == 9) && x.c != 0 || !(x.op == 3 || x.op == 5 || x.op == 6 || x.op == 7 || x.op == 8) && x.n != 0 || x.op != 8 && x.d != 0 || de x.op && decide ((↑(Fu x.ks) : Int) > 0)
 ·cases hc1 : x.op == 1
  ·cases hc2 : x.op == 2
   ·cases hc3 : x.op == 3
    ·cases hc4 : x.op == 4
     ·cases hc5 : x.op == 5
      ·cases hc6 : x.op == 6
       ·cases hc7 : x.op == 7
        ·cases hc8 : x.op == 8
         ·cases hc9 : x.op == 9
          ·exact zD (bool false) [.val (bool (de x.op)),.b false,.b false,.b false,.b false,.b false,.b false,.b false,.b false,.b false,.b false] (.c (gd (!(!(x.op == 5 || x.op == 6 || x.op == 9) && x.c != 0 || !(x.op == 3 || x.op == 5 || x.op == 6 || x.op == 7 || x.op == 8) && x.n != 0 || x.op != 8 && x.d != 0)) (@bM (x.op) (ar x))) (.c hc0 (.c hc1 (.c hc2 (.c hc3 (.c hc4 (.c hc5 (.c hc6 (.c hc7 (.c hc8 (.c hc9 .n))))))))))) h (by (simp_all [RuF.formed,ao,de,G9]))
          ·exact zD (bool (A9 x.c)) [.val (bool (de x.op)),.b false,.b false,.b false,.b false,.b false,.b false,.b false,.b false,.b false,.b true,.val (bool (A9 x.c))] (.c (gd (!(!(x.op == 5 || x.op == 6 || x.op == 9) && x.c != 0 || !(x.op == 3 || x.op == 5 || x.op == 6 || x.op == 7 || x.op == 8) && x.n != 0 || x.op != 8 && x.d != 0)) (@bM (x.op) (ar x))) (.c hc0 (.c hc1 (.c hc2 (.c hc3 (.c hc4 (.c hc5 (.c hc6 (.c hc7 (.c hc8 (.c hc9 (.c (@gK (x.c) (ar x)) .n)))))))))))) h (by (simp_all [RuF.formed,ao,sI,de,inB,G9]))
         ·refine zD (bool (fP x.n x.d)) [.val (bool (de x.op)),.b false,.b false,.b false,.b false,.b false,.b false,.b false,.b false,.b true,.val (bool (fP x.n x.d))] (.c (gd (!(!(x.op == 5 || x.op == 6 || x.op == 9) && x.c != 0 || !(x.op == 3 || x.op == 5 || x.op == 6 || x.op == 7 || x.op == 8) && x.n != 0 || x.op != 8 && x.d != 0)) (@bM (x.op) (ar x))) (.c hc0 (.c hc1 (.c hc2 (.c hc3 (.c hc4 (.c hc5 (.c hc6 (.c hc7 (.c hc8 (.c (@yh (x.n) (x.d) ?_ ?_ (ar x)) .n))))))))))) h (by (simp_all [RuF.formed,ao,de,G9])) <;> (first | exact hx.1 | exact hx.2)
        ·exact zD (bool (decide (x.n ≥ 0) && decide (x.n ≤ 10000))) [.val (bool (de x.op)),.b false,.b false,.b false,.b false,.b false,.b false,.b false,.b true] (.c (gd (!(!(x.op == 5 || x.op == 6 || x.op == 9) && x.c != 0 || !(x.op == 3 || x.op == 5 || x.op == 6 || x.op == 7 || x.op == 8) && x.n != 0 || x.op != 8 && x.d != 0)) (@bM (x.op) (ar x))) (.c hc0 (.c hc1 (.c hc2 (.c hc3 (.c hc4 (.c hc5 (.c hc6 (.c hc7 .n))))))))) h (by (simp_all [RuF.formed,ao,de,inB,G9]))
       ·exact zD (bool (A9 x.c && decide (x.n ≥ 1) && decide (x.n ≤ 100))) [.val (bool (de x.op)),.b false,.b false,.b false,.b false,.b false,.b false,.b true,.val (bool (A9 x.c))] (.c (gd (!(!(x.op == 5 || x.op == 6 || x.op == 9) && x.c != 0 || !(x.op == 3 || x.op == 5 || x.op == 6 || x.op == 7 || x.op == 8) && x.n != 0 || x.op != 8 && x.d != 0)) (@bM (x.op) (ar x))) (.c hc0 (.c hc1 (.c hc2 (.c hc3 (.c hc4 (.c hc5 (.c hc6 (.c (@gK (x.c) (ar x)) .n))))))))) h (by (simp_all [RuF.formed,ao,sI,de,inB,G9]))
      ·exact zD (bool (A9 x.c && decide (x.n ≥ 0) && decide (x.n ≤ 12))) [.val (bool (de x.op)),.b false,.b false,.b false,.b false,.b false,.b true,.val (bool (A9 x.c))] (.c (gd (!(!(x.op == 5 || x.op == 6 || x.op == 9) && x.c != 0 || !(x.op == 3 || x.op == 5 || x.op == 6 || x.op == 7 || x.op == 8) && x.n != 0 || x.op != 8 && x.d != 0)) (@bM (x.op) (ar x))) (.c hc0 (.c hc1 (.c hc2 (.c hc3 (.c hc4 (.c hc5 (.c (@gK (x.c) (ar x)) .n)))))))) h (by (simp_all [RuF.formed,ao,sI,de,inB,G9]))
     ·exact zD (bool ((↑(Fu x.ks) : Int) == 1)) [.val (bool (de x.op)),.b false,.b false,.b false,.b false,.b true] (.c (gd (!(!(x.op == 5 || x.op == 6 || x.op == 9) && x.c != 0 || !(x.op == 3 || x.op == 5 || x.op == 6 || x.op == 7 || x.op == 8) && x.n != 0 || x.op != 8 && x.d != 0)) (@bM (x.op) (ar x))) (.c hc0 (.c hc1 (.c hc2 (.c hc3 (.c hc4 .n)))))) h (by (simp_all [RuF.formed,ao,de,G9]))
    ·exact zD (bool (decide (x.n ≥ 0) && decide (x.n ≤ 200))) [.val (bool (de x.op)),.b false,.b false,.b false,.b true] (.c (gd (!(!(x.op == 5 || x.op == 6 || x.op == 9) && x.c != 0 || !(x.op == 3 || x.op == 5 || x.op == 6 || x.op == 7 || x.op == 8) && x.n != 0 || x.op != 8 && x.d != 0)) (@bM (x.op) (ar x))) (.c hc0 (.c hc1 (.c hc2 (.c hc3 .n))))) h (by (simp_all [RuF.formed,ao,de,inB,G9]))
   ·exact zD (bool true) [.val (bool (de x.op)),.b false,.b false,.b true] (.c (gd (!(!(x.op == 5 || x.op == 6 || x.op == 9) && x.c != 0 || !(x.op == 3 || x.op == 5 || x.op == 6 || x.op == 7 || x.op == 8) && x.n != 0 || x.op != 8 && x.d != 0)) (@bM (x.op) (ar x))) (.c hc0 (.c hc1 (.c hc2 .n)))) h (by (simp_all [RuF.formed,ao,de,G9]))
  ·exact zD (bool true) [.val (bool (de x.op)),.b false,.b true,.b true] (.c (gd (!(!(x.op == 5 || x.op == 6 || x.op == 9) && x.c != 0 || !(x.op == 3 || x.op == 5 || x.op == 6 || x.op == 7 || x.op == 8) && x.n != 0 || x.op != 8 && x.d != 0)) (@bM (x.op) (ar x))) (.c hc0 (.c hc1 (.c hc1 .n)))) h (by (simp_all [RuF.formed,ao,de,G9]))
 ·exact zD (bool false) [.val (bool (de x.op)),.b true] (.c (gd (!(!(x.op == 5 || x.op == 6 || x.op == 9) && x.c != 0 || !(x.op == 3 || x.op == 5 || x.op == 6 || x.op == 7 || x.op == 8) && x.n != 0 || x.op != 8 && x.d != 0)) (@bM (x.op) (ar x))) (.c hc0 .n)) h (by (simp_all [RuF.formed,ao,de,G9]))
mutual
def RuleT.size : RuleT → Nat
 | .mk _ _ _ _ _ ks=>1 + sizeL ks
def sizeL : List RuleT → Nat
 | []=>0
 | k :: ks=>k.size + sizeL ks
end
mutual
def RuleT.dep : RuleT → Nat
 | .mk _ _ _ _ _ ks=>depL ks + 1
def depL : List RuleT → Nat
 | []=>0
 | k :: ks=>max k.dep (depL ks)
end
mutual
def RuleT.allF : RuleT → Bool
 | .mk op c _ n d ks=>bif ao op c n d ks.length then wq ks else false
def wq : List RuleT → Bool
 | []=>true
 | k :: ks=>bif k.allF then wq ks else false
end
mutual
theorem RuleT.dep_size : ∀ r : RuleT,r.dep ≤ r.size
 | .mk _ _ _ _ _ ks=>by simp only [RuleT.dep,RuleT.size]; have:=lE ks; omega
theorem lE : ∀ ks : List RuleT,depL ks ≤ sizeL ks
 | []=>by simp [depL,sizeL]
 | k :: ks=>by simp only [depL,sizeL]; have:=RuleT.dep_size k; have:=lE ks; omega
end
theorem gl : ∀ {ks : List RuleT},∀ k ∈ ks,k.size ≤ sizeL ks
 | a :: ks,k,hk=>by
  simp only [sizeL]
  rcases Gd.1 hk with rfl | hk
  ·omega
  ·have:=gl k hk; omega
abbrev paS (x : RuF) (acc i : Int) : AS:={ t:=mkT 21 0 [(1,.ref (.ptr 0 0)),(3,int acc),(4,int i)],h:=[.var x.l],m:=[] }
abbrev paE (x : RuF) (acc : Int) : AS:={ t:=mkT 21 0 [(3,int acc)],h:=[.var x.l],m:=[] }
noncomputable abbrev ne (x : RuF) : List Blk:=[.var [int x.op,int x.c,ak x.nm,int x.n,int x.d,ab x.ks]]
theorem Ec {x : RuF} {acc p : Int} {i : Nat} {y : RuF} (hr : ah (i : Int) x.ks y.row 6) (hlt : decide ((i : Int) < (x.ks.length : Int)) = true) (hw : Fs.wrap ((i : Int) + 1) = ((i + 1 : Nat) : Int))
  (hk : ∀ h,Ev Fp Γ0 215 [.agg y.l] h (int p) h) : (CW Fp Γ0 [] false (sub Kr 0) (paS x acc i) .normal (paS x (Fs.wrap (acc + p)) ((i + 1 : Nat) : Int))):=by
 refine zX { t:=mkT 21 0 [(1,.ref (.ptr 0 0)),(3,int (Fz Fs (acc + p))),(4,int (Fz Fs ((↑i : Int) + 1)))],h:=(ne x),m:=[] } FH [.st (.mask [1,3,4])] [.b true,.row [vi y.op,vi y.c,vs y.nm,vi y.n,vi y.d,Gp y.ks],.val (int p)] (.c hlt (.c hr (.c (@hk (ne x)) .n))) ?_ ?_ <;> (first | rfl | (rw [hw]; rfl))
theorem Ed {x : RuF} {acc : Int} {i : Nat} (hlt : decide ((i : Int) < (x.ks.length : Int)) = false) : (CW Fp Γ0 [] false (sub Kr 0) (paS x acc i) (.exit 0) (paE x acc)):=by
 exact zx [.st (.mask [3])] [.b false] (.c hlt .n)
abbrev paF (k : RuleT) (a : Int) : Int ⊕ Empty:=.inl (Fs.wrap (a + (k.size : Int)))
theorem yj : ∀ (ks : List RuleT) (a : Nat),a + sizeL ks ≤ 1048576 → forL paF ks (a : Int) = .inl ((a + sizeL ks : Nat) : Int)
 | [],a,_=>by simp [forL,sizeL]
 | k :: ks,a,h=>by
  simp only [sizeL] at h
  simp only [forL]
  have hw : Fs.wrap ((a : Int) + (k.size : Int)) = ((a + k.size : Nat) : Int):=by rw [wrap_i64 (by omega) (by omega)]; omega
  rw [hw,yj ks (a + k.size) (by omega)]
  simp only [sizeL,Nat.add_assoc]
theorem pa_cw {x : RuF} {ks : List RuleT} (hx : x.ks = ks.map RuleT.row) (hl : ad ks) (hs : 1 + sizeL ks ≤ 1048576) (hk : ∀ k ∈ ks,∀ h,Ev Fp Γ0 215 [.agg k.fl.l] h (int k.size) h) :
  CW Fp Γ0 [] false (.loop (sub Kr 0)) (paS x 1 0) (.exit 0) (paE x ((1 + sizeL ks : Nat) : Int)):=by
 have key:=Ha (P:=Fp) (Γ:=Γ0) (h0:=[]) (rd:=false) (c:=sub Kr 0) ks paF (fun i (a : Int)=>paS x a (i : Int)) (.exit 0) (fun a=>paE x a) (fun e : Empty=>e.elim) (fun _ _=>True) (by simp) (fun e=>e.elim) ?_ ?_ 1 trivial
 ·rw [show (1 : Int) = ((1 : Nat) : Int) from rfl,yj ks 1 hs] at key
  exact key
 ·intro i k a hki _
  have hi:=(Fy.1 hki).1
  have hr : ah (i : Int) x.ks k.fl.row 6:=by rw [hx,k.fl_row]; exact rowAt hki (by cases k; rfl)
  have hlt : decide ((i : Int) < (x.ks.length : Int)) = true:=by rw [hx]; exact lt_len _ hi
  exact ⟨fun _ _=>trivial,Ec hr hlt (wrap_succ hi hl) (hk k (FV hki))⟩
 ·intro a _
  exact Ed (by rw [hx]; exact aC _ ks)
theorem Ee {x : RuF} {ks : List RuleT} (hx : x.ks = ks.map RuleT.row) (hl : ad ks) (hs : 1 + sizeL ks ≤ 1048576) (hk : ∀ k ∈ ks,∀ h,Ev Fp Γ0 215 [.agg k.fl.l] h (int k.size) h) (h : List Blk) : (Ev Fp Γ0 215 [.agg x.l] h (int ((1 + sizeL ks : Nat) : Int)) h):=by
 have hl0:=(@pa_cw (x) (ks) (hx) (hl) (hs) (hk))
 exact z0 [.sum [1,3,4] (Gf 0) { t:=mkT 21 0 [(3,int (↑(1 + sizeL ks) : Int))],h:=[.var [int x.op,int x.c,ak x.nm,int x.n,int x.d,ab x.ks]],m:=[] }] (.c hl0 .n) h
abbrev deS (x : RuF) (acc i : Int) : AS:={ t:=mkT 22 0 [(1,.ref (.ptr 0 0)),(3,int acc),(4,int i)],h:=[.var x.l],m:=[] }
abbrev deE (x : RuF) (acc : Int) : AS:={ t:=mkT 22 0 [(3,int acc)],h:=[.var x.l],m:=[] }
noncomputable abbrev nf (x : RuF) : List Blk:=[.var [int x.op,int x.c,ak x.nm,int x.n,int x.d,ab x.ks]]
theorem Ef {x : RuF} {acc p : Int} {i : Nat} {y : RuF} (hr : ah (i : Int) x.ks y.row 6) (hlt : decide ((i : Int) < (x.ks.length : Int)) = true) (hw : Fs.wrap ((i : Int) + 1) = ((i + 1 : Nat) : Int))
  (hk : ∀ h,Ev Fp Γ0 216 [.agg y.l] h (int p) h) : (CW Fp Γ0 [] false (sub Ks 0) (deS x acc i) .normal (deS x (if p > acc then p else acc) ((i + 1 : Nat) : Int))):=by
 refine zX { t:=mkT 22 0 [(1,.ref (.ptr 0 0)),(3,int (if true = true then if p > acc then p else acc else if p < acc then p else acc)),(4,int (Fz Fs ((↑i : Int) + 1)))],h:=(nf x),m:=[] } FH [.st (.mask [1,3,4])] [.b true,.row [vi y.op,vi y.c,vs y.nm,vi y.n,vi y.d,Gp y.ks],.val (int p)] (.c hlt (.c hr (.c (@hk (nf x)) .n))) ?_ ?_ <;> (first | rfl | (rw [hw]; rfl))
theorem Eg {x : RuF} {acc : Int} {i : Nat} (hlt : decide ((i : Int) < (x.ks.length : Int)) = false) : (CW Fp Γ0 [] false (sub Ks 0) (deS x acc i) (.exit 0) (deE x acc)):=by
 exact zx [.st (.mask [3])] [.b false] (.c hlt .n)
abbrev deF (k : RuleT) (a : Int) : Int ⊕ Empty:=.inl (if (k.dep : Int) > a then (k.dep : Int) else a)
theorem yk : ∀ (ks : List RuleT) (a : Nat),forL deF ks (a : Int) = .inl ((max a (depL ks) : Nat) : Int)
 | [],a=>by simp [forL,depL]
 | k :: ks,a=>by
  simp only [forL]
  have hw : (if (k.dep : Int) > (a : Int) then (k.dep : Int) else (a : Int)) = ((max a k.dep : Nat) : Int):=by split <;> omega
  rw [hw,yk ks (max a k.dep)]
  simp only [depL]
  congr 2
  omega
theorem de_cw {x : RuF} {ks : List RuleT} (hx : x.ks = ks.map RuleT.row) (hl : ad ks) (hk : ∀ k ∈ ks,∀ h,Ev Fp Γ0 216 [.agg k.fl.l] h (int k.dep) h) :
  CW Fp Γ0 [] false (.loop (sub Ks 0)) (deS x 0 0) (.exit 0) (deE x ((depL ks : Nat) : Int)):=by
 have key:=Ha (P:=Fp) (Γ:=Γ0) (h0:=[]) (rd:=false) (c:=sub Ks 0) ks deF (fun i (a : Int)=>deS x a (i : Int)) (.exit 0) (fun a=>deE x a) (fun e : Empty=>e.elim) (fun _ _=>True) (by simp) (fun e=>e.elim) ?_ ?_ 0 trivial
 ·rw [show (0 : Int) = ((0 : Nat) : Int) from rfl,yk ks 0,Nat.zero_max] at key
  exact key
 ·intro i k a hki _
  have hi:=(Fy.1 hki).1
  have hr : ah (i : Int) x.ks k.fl.row 6:=by rw [hx,k.fl_row]; exact rowAt hki (by cases k; rfl)
  have hlt : decide ((i : Int) < (x.ks.length : Int)) = true:=by rw [hx]; exact lt_len _ hi
  exact ⟨fun _ _=>trivial,Ef hr hlt (wrap_succ hi hl) (hk k (FV hki))⟩
 ·intro a _
  exact Eg (by rw [hx]; exact aC _ ks)
theorem Eh {x : RuF} {ks : List RuleT} (hx : x.ks = ks.map RuleT.row) (hl : ad ks) (hw : Fs.wrap (((depL ks : Nat) : Int) + 1) = ((depL ks + 1 : Nat) : Int)) (hk : ∀ k ∈ ks,∀ h,Ev Fp Γ0 216 [.agg k.fl.l] h (int k.dep) h) (h : List Blk) : (Ev Fp Γ0 216 [.agg x.l] h (int ((depL ks + 1 : Nat) : Int)) h):=by
 have hl0:=(@de_cw (x) (ks) (hx) (hl) (hk))
 exact zD (int (Fz Fs ((↑(depL ks) : Int) + 1))) [.sum [1,3,4] (Gf 0) { t:=mkT 22 0 [(3,int (↑(depL ks) : Int))],h:=[.var [int x.op,int x.c,ak x.nm,int x.n,int x.d,ab x.ks]],m:=[] }] (.c hl0 .n) h (by (rw [hw]))
abbrev afS (x : RuF) (i : Int) : AS:={ t:=mkT 21 0 [(1,.ref (.ptr 0 0)),(2,bool false),(3,int i)],h:=[.var x.l],m:=[] }
abbrev afE : AS:={ t:=mkT 21 0 [(2,bool false)],h:=[],m:=[] }
abbrev afX : Unit → Exit × AS:=fun _=>(.ret,afE)
def afF (k : RuleT) (_ : Unit) : Unit ⊕ Unit:=bif k.allF then .inl () else .inr ()
noncomputable abbrev ng (x : RuF) : List Blk:=[.var [int x.op,int x.c,ak x.nm,int x.n,int x.d,ab x.ks]]
theorem Ei {x : RuF} {b : Bool} {i : Nat} {y : RuF} (hr : ah (i : Int) x.ks y.row 6) (hlt : decide ((i : Int) < (x.ks.length : Int)) = true) (hw : Fs.wrap ((i : Int) + 1) = ((i + 1 : Nat) : Int))
  (hb : (!b) = false) (hk : ∀ h,Ev Fp Γ0 217 [.agg y.l] h (bool b) h) : (CW Fp Γ0 [] false (sub JR 0) (afS x i) .normal (afS x ((i + 1 : Nat) : Int))):=by
 refine zX { t:=mkT 21 0 [(1,.ref (.ptr 0 0)),(2,bool false),(3,int (Fz Fs ((↑i : Int) + 1)))],h:=(ng x),m:=[] } FH [.st (.mask [1,2,3])] [.b true,.row [vi y.op,vi y.c,vs y.nm,vi y.n,vi y.d,Gp y.ks],.val (bool b),.b false] (.c hlt (.c hr (.c (@hk (ng x)) (.c hb .n)))) ?_ ?_ <;> (first | rfl | (rw [hw]; rfl))
noncomputable abbrev sJ (x : RuF) : List Blk:=[.var [int x.op,int x.c,ak x.nm,int x.n,int x.d,ab x.ks]]
theorem Ba {x : RuF} {b : Bool} {i : Nat} {y : RuF} (hr : ah (i : Int) x.ks y.row 6) (hlt : decide ((i : Int) < (x.ks.length : Int)) = true)
  (hb : (!b) = true) (hk : ∀ h,Ev Fp Γ0 217 [.agg y.l] h (bool b) h) : (CW Fp Γ0 [] false (sub JR 0) (afS x i) .ret afE):=by
 exact zx [.st (.mask [2]),.st (.trim 0)] [.b true,.row [vi y.op,vi y.c,vs y.nm,vi y.n,vi y.d,Gp y.ks],.val (bool b),.b true] (.c hlt (.c hr (.c (@hk (sJ x)) (.c hb .n))))
theorem Ej {x : RuF} {i : Nat} (hlt : decide ((i : Int) < (x.ks.length : Int)) = false) : (CW Fp Γ0 [] false (sub JR 0) (afS x i) (.exit 0) afE):=by
 exact zx [.st (.mask [2]),.st (.trim 0)] [.b false] (.c hlt .n)
theorem sK : ∀ ks : List RuleT,forL afF ks () = bif wq ks then .inl () else .inr ()
 | []=>rfl
 | k :: ks=>by
  simp only [forL,afF,wq]
  cases k.allF
  ·rfl
  ·simp only [cond_true]; exact sK ks
def Ek (ks : List RuleT) : Exit × AS:=aV (.exit 0) (fun _ : Unit=>afE) afX (forL afF ks ())
theorem af_inl {ks : List RuleT} {u : Unit} (h : forL afF ks () = .inl u) : wq ks = true:=by
 rw [sK] at h; cases hb : wq ks <;> rw [hb] at h <;> simp at h ⊢
theorem af_inr {ks : List RuleT} {u : Unit} (h : forL afF ks () = .inr u) : wq ks = false:=by
 rw [sK] at h; cases hb : wq ks <;> rw [hb] at h <;> simp at h ⊢
theorem af_cw {x : RuF} {ks : List RuleT} (hx : x.ks = ks.map RuleT.row) (hl : ad ks) (hk : ∀ k ∈ ks,∀ h,Ev Fp Γ0 217 [.agg k.fl.l] h (bool k.allF) h) :
  CW Fp Γ0 [] false (.loop (sub JR 0)) (afS x 0) (Ek ks).1 (Ek ks).2:=by
 have key:=Ha (P:=Fp) (Γ:=Γ0) (h0:=[]) (rd:=false) (c:=sub JR 0) ks afF (fun i (_ : Unit)=>afS x (i : Int)) (.exit 0) (fun _=>afE) afX (fun _ _=>True) (by simp) (fun _=>by simp []) ?_ ?_ () trivial
 ·exact key
 ·intro i k _ hki _
  have hi:=(Fy.1 hki).1
  have hr : ah (i : Int) x.ks k.fl.row 6:=by rw [hx,k.fl_row]; exact rowAt hki (by cases k; rfl)
  have hlt : decide ((i : Int) < (x.ks.length : Int)) = true:=by rw [hx]; exact lt_len _ hi
  refine ⟨fun _ _=>trivial,?_⟩
  have hk':=hk k (FV hki)
  unfold afF
  cases hb : k.allF
  ·rw [hb] at hk'
   exact Ba hr hlt rfl hk'
  ·rw [hb] at hk'
   exact Ei hr hlt (wrap_succ hi hl) rfl hk'
 ·intro _ _
  exact Ej (by rw [hx]; exact aC _ ks)
noncomputable abbrev allF_a_x0 (x : RuF) : List D:=[FU [int x.op,int x.c,ak x.nm,int x.n,int x.d,ab x.ks]]
noncomputable abbrev lF (x : RuF) : List Blk:=[.var [int x.op,int x.c,ak x.nm,int x.n,int x.d,ab x.ks]]
theorem allF_a {x : RuF} (hok : x.ok) {ks : List RuleT} (hx : x.ks = ks.map RuleT.row) (hl : ad ks) (hk : ∀ k ∈ ks,∀ h,Ev Fp Γ0 217 [.agg k.fl.l] h (bool k.allF) h) (h : List Blk) : (Ev Fp Γ0 217 [.agg x.l] h (bool (bif x.formed then wq ks else false)) h):=by
 cases hc0 : !RuF.formed x
 ·have hl1:=(@af_cw (x) (ks) (hx) (hl) (hk))
  unfold Ek at hl1
  revert hl1
  cases ho2 : forL afF ks () with
  | inl o2_0_0 =>
   intro hl1
   exact zD (bool true) [.val (bool (RuF.formed x)),.b false,.sum [1,2,3] (Gf 0) { t:=mkT 21 0 [(2,bool false)],h:=[],m:=[] }] (.c (@gL x hok (lF x)) (.c hc0 (.c hl1 .n))) h (by (have e:=af_inl (by assumption); simp_all; done))
  | inr o2_1_0 =>
   intro hl1
   exact zD (bool false) [.val (bool (RuF.formed x)),.b false,.sum [1,2,3] (Gw) { t:=mkT 21 0 [(2,bool false)],h:=[],m:=[] }] (.c (@gL x hok (lF x)) (.c hc0 (.c hl1 .n))) h (by (have e:=af_inr (by assumption); simp_all; done))
 ·exact zD (bool false) [.val (bool (RuF.formed x)),.b true] (.c (@gL x hok (lF x)) (.c hc0 .n)) h (by (simp_all; done))
theorem c5 : ∀ ks : List RuleT,cS ks = ks.map RuleT.row
 | []=>rfl
 | k :: ks=>by simp only [cS,List.map_cons,c5 ks]
theorem oO (r : RuleT) : 1 ≤ r.size:=by cases r; simp only [RuleT.size]; omega
theorem ym : ∀ (n : Nat) (r : RuleT),r.size ≤ n → r.ok → r.size ≤ 1048576 → ∀ h,Ev Fp Γ0 215 [.agg r.fl.l] h (int (r.size : Nat)) h
 | 0,r,hn,_,_=>by have:=oO r; omega
 | n + 1,.mk op c nm a d ks,hn,hok,hs=>fun h=>by
  simp only [RuleT.ok] at hok
  simp only [RuleT.size] at hn hs ⊢
  exact Ee (x:=(RuleT.mk op c nm a d ks).fl) (ks:=ks) (c5 ks) hok.1.2.2.2.2 hs (fun k hk=>ym n k (by have:=gl k hk; omega) (dK hok.2 k hk) (by have:=gl k hk; omega)) h
theorem yn : ∀ (n : Nat) (r : RuleT),r.size ≤ n → r.ok → r.size ≤ 1048576 → ∀ h,Ev Fp Γ0 216 [.agg r.fl.l] h (int (r.dep : Nat)) h
 | 0,r,hn,_,_=>by have:=oO r; omega
 | n + 1,.mk op c nm a d ks,hn,hok,hs=>fun h=>by
  simp only [RuleT.ok] at hok
  simp only [RuleT.size] at hn hs
  simp only [RuleT.dep]
  have:=lE ks
  exact Eh (x:=(RuleT.mk op c nm a d ks).fl) (ks:=ks) (c5 ks) hok.1.2.2.2.2 (by rw [wrap_i64 (by omega) (by omega)]; omega) (fun k hk=>yn n k (by have:=gl k hk; omega) (dK hok.2 k hk) (by have:=gl k hk; omega)) h
theorem Bb (ks : List RuleT) : (cS ks).length = ks.length:=by rw [c5,List.length_map]
theorem Ck : ∀ (n : Nat) (r : RuleT),r.size ≤ n → r.ok → ∀ h,Ev Fp Γ0 217 [.agg r.fl.l] h (bool r.allF) h
 | 0,r,hn,_=>by have:=oO r; omega
 | n + 1,.mk op c nm a d ks,hn,hok=>fun h=>by
  have hfl:=RuleT.fl_ok hok
  simp only [RuleT.ok] at hok
  simp only [RuleT.size] at hn
  have:=allF_a (x:=(RuleT.mk op c nm a d ks).fl) hfl (ks:=ks) (c5 ks) hok.1.2.2.2.2 (fun k hk=>Ck n k (by have:=gl k hk; omega) (dK hok.2 k hk)) h
  have e : (RuleT.mk op c nm a d ks).fl.formed = ao op c a d ks.length:=by
   simp only [RuleT.fl,RuF.formed,Bb]
  rw [e] at this
  exact this
def ck12 (p d : Int) (a : Bool) : Bool:=decide (p > 200) || decide (d > 16) || !a
noncomputable abbrev Cl (x : RuF) : List D:=[FU [int x.op,int x.c,ak x.nm,int x.n,int x.d,ab x.ks]]
noncomputable abbrev b6 (x : RuF) : List Blk:=[.var [int x.op,int x.c,ak x.nm,int x.n,int x.d,ab x.ks]]
theorem yp {x : RuF} {p d : Int} {a : Bool} (hp : ∀ h,Ev Fp Γ0 215 [.agg x.l] h (int p) h) (hd : ∀ h,Ev Fp Γ0 216 [.agg x.l] h (int d) h) (ha : ∀ h,Ev Fp Γ0 217 [.agg x.l] h (bool a) h) (h : List Blk) : (Ev Fp Γ0 177 [.agg x.l] h (int (cq (ck12 p d a))) h):=by
 cases hc0 : decide (p > 200) || decide (d > 16) || !a
 ·exact zD (int 0) [.val (int p),.val (int d),.val (bool a),.b false] (.c (@hp (b6 x)) (.c (gd (!decide (p > 200)) (@hd (b6 x))) (.c (gd (!(decide (p > 200) || decide (d > 16))) (@ha (b6 x))) (.c hc0 .n)))) h (by (have hh : ck12 p d a = false:=hc0; rw [hh]; rfl))
 ·exact zD (int 120) [.val (int p),.val (int d),.val (bool a),.b true] (.c (@hp (b6 x)) (.c (gd (!decide (p > 200)) (@hd (b6 x))) (.c (gd (!(decide (p > 200) || decide (d > 16))) (@ha (b6 x))) (.c hc0 .n)))) h (by (have hh : ck12 p d a = true:=hc0; rw [hh]; rfl))
def yq (m dep : Int) (r : RuleT) : Prop:=m + (r.size : Int) ≤ 200 ∧ dep + (r.dep : Int) ≤ 17 ∧ r.allF = true
def vE (m dep : Int) (ks : List RuleT) : Prop:=m + (sizeL ks : Int) ≤ 200 ∧ dep + (depL ks : Int) ≤ 17 ∧ wq ks = true
mutual
theorem qQ : ∀ (r : RuleT) (dep m : Int),0 ≤ m → m + (r.size : Int) ≤ 10000000 → 0 ≤ dep → dep + (r.dep : Int) ≤ 10000001 → (yq m dep r → r.walk dep m = (m + (r.size : Int),false)) ∧ (¬ yq m dep r → (r.walk dep m).2 = true)
 | .mk op c nm a d ks,dep,m,h1,h2,h3,h4=>by
  have e1 : Fs.wrap (m + 1) = m + 1:=wrap_i64 (by omega) (by omega)
  have e2 : Fs.wrap (dep + 1) = dep + 1:=wrap_i64 (by omega) (by omega)
  simp only [RuleT.size,RuleT.dep] at h2 h4
  have ih:=nh ks (dep + 1) (m + 1) (by omega) (by omega) (by omega) (by omega)
  simp only [RuleT.walk,e1,e2]
  unfold yq
  simp only [RuleT.size,RuleT.dep,RuleT.allF]
  cases hst : j6 (m + 1) dep (ao op c a d ks.length) with
  | true =>
   simp only
   refine ⟨fun hg=>?_,fun _=>trivial⟩
   obtain ⟨g1,g2,g3⟩:=hg
   unfold j6 at hst
   cases hf : ao op c a d ks.length
   ·rw [hf] at g3; simp at g3
   ·rw [hf] at hst
    simp at hst
    omega
  | false =>
   simp only
   unfold j6 at hst
   simp only [GZ,decide_eq_false_iff_not,Ic] at hst
   obtain ⟨⟨s1,s2⟩,s3⟩:=hst
   rw [s3]
   simp only [cond_true]
   obtain ⟨i1,i2⟩:=ih (by omega) (by omega)
   unfold vE at i1 i2
   refine ⟨fun hg=>?_,fun hg=>?_⟩
   ·rw [i1 ⟨by omega,by omega,hg.2.2⟩]
    have : m + 1 + (sizeL ks : Int) = m + ((1 + sizeL ks : Nat) : Int):=by omega
    rw [this]
   ·exact i2 fun hl=>hg ⟨by omega,by omega,hl.2.2⟩
theorem nh : ∀ (ks : List RuleT) (dep m : Int),0 ≤ m → m + (sizeL ks : Int) ≤ 10000000 → 0 ≤ dep → dep + (depL ks : Int) ≤ 10000001 → m ≤ 200 → dep ≤ 17 → (vE m dep ks → walkL ks dep m = (m + (sizeL ks : Int),false)) ∧ (¬ vE m dep ks → (walkL ks dep m).2 = true)
 | [],dep,m,h1,h2,h3,h4,h5,h6=>by
  unfold vE
  simp only [sizeL,depL,wq,walkL]
  refine ⟨fun _=>by simp,fun hg=>(hg ⟨by simp; omega,by simp; omega,by trivial⟩).elim⟩
 | k :: ks,dep,m,h1,h2,h3,h4,h5,h6=>by
  simp only [sizeL,depL] at h2 h4
  obtain ⟨a1,a2⟩:=qQ k dep m h1 (by omega) h3 (by omega)
  unfold vE
  simp only [sizeL,depL,wq,walkL]
  by_cases hg : yq m dep k
  ·rw [a1 hg]
   simp only
   obtain ⟨g1,g2,g3⟩:=hg
   obtain ⟨b1,b2⟩:=nh ks dep (m + (k.size : Int)) (by omega) (by omega) h3 (by omega) (by omega) h6
   unfold vE at b1 b2
   rw [g3]
   simp only [cond_true]
   refine ⟨fun hh=>?_,fun hh=>?_⟩
   ·rw [b1 ⟨by omega,by omega,hh.2.2⟩]
    have : m + (k.size : Int) + (sizeL ks : Int) = m + ((k.size + sizeL ks : Nat) : Int):=by omega
    rw [this]
   ·exact b2 fun hl=>hh ⟨by omega,by omega,hl.2.2⟩
  ·have ha:=a2 hg
   cases hw : k.walk dep m with
   | mk m' b =>
    rw [hw] at ha
    simp only at ha
    subst ha
    simp only
    refine ⟨fun hh=>(hg ?_).elim,fun _=>trivial⟩
    obtain ⟨g1,g2,g3⟩:=hh
    cases hk : k.allF
    ·rw [hk] at g3; simp at g3
    ·exact ⟨by omega,by omega,hk⟩
end
theorem Bc {r : RuleT} (hs : r.size ≤ 1048576) : r.bad = ck12 (r.size : Nat) (r.dep : Nat) r.allF:=by
 have hd:=RuleT.dep_size r
 obtain ⟨h1,h2⟩:=qQ r 1 0 (by omega) (by omega) (by omega) (by omega)
 unfold RuleT.bad ck12
 by_cases hg : yq 0 1 r
 ·rw [h1 hg]
  obtain ⟨g1,g2,g3⟩:=hg
  rw [g3]
  have e1 : decide (((r.size : Nat) : Int) > 200) = false:=decide_eq_false (by omega)
  have e2 : decide (((r.dep : Nat) : Int) > 16) = false:=decide_eq_false (by omega)
  rw [e1,e2]; rfl
 ·rw [h2 hg]
  cases hb : (decide (((r.size : Nat) : Int) > 200) || decide (((r.dep : Nat) : Int) > 16) || !r.allF)
  ·simp only [GZ,decide_eq_false_iff_not,Ic] at hb
   exact (hg ⟨by omega,by omega,hb.2⟩).elim
  ·rfl
theorem nj {r : RuleT} (hr : r.ok) (hs : r.size ≤ 1048576) (h : List Blk) : Ev Fp Γ0 177 [.agg r.fl.l] h (int (cq r.bad)) h:=by
 rw [Bc hs]
 exact yp (ym _ r (FT _) hr hs) (yn _ r (FT _) hr hs) (Ck _ r (FT _) hr) h
def befB (a b : FactT) : Bool:=decide (a.known < b.known) || (a.known == b.known && decide (a.no < b.no))
theorem qR {a b : FactT} (h : List Blk) : (Ev Fp Γ0 135 [ag a.row,ag b.row] h (bool (befB a b)) h):=by
 exact z0 [] .n h
end Go.Vi
