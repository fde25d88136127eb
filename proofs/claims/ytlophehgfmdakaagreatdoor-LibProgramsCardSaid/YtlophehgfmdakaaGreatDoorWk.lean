/- PROVED HERE: a part (Wk) of the tied card of LibPrograms (floodgatelaw25): the call returns true and its argument reads as before. CONDITIONS: those of the given row and card alone. -/
import Derived.Test.YtlophehgfmdakaaGreatDoorProg
import Derived.WalkKit
import Derived.Deep.QuietTactic
import Derived.BigQuiet
import Derived.RegionTactic
import Derived.ChangeAlike
import Derived.Handy
namespace Go.Proofs
open Go.RowKit
namespace Lb
theorem cell_lt {w:World} {b o:Nat} {v:Value} (h:w.cell? ⟨b,o,none⟩=some v):b < w.heap.size:=by
 unfold World.cell? at h
 by_cases hb:b < w.heap.size
 · exact hb
 · rw [show w.heap[(⟨b,o,none⟩:Addr).block]? = none from Array.getElem?_eq_none (by show w.heap.size≤b; omega)] at h
   cases h
theorem cell_below {w w':World} {b o n:Nat} {v:Value} (h:w.cell? ⟨b,o,none⟩=some v) (hB:Below n w w') (hn:b < n):w'.cell? ⟨b,o,none⟩=some v:=by
 unfold World.cell? at h ⊢
 rw [show w'.heap[(⟨b,o,none⟩:Addr).block]? = w.heap[(⟨b,o,none⟩:Addr).block]? from hB.block b hn]
 exact h
theorem cell_alloc {w:World} {b o:Nat} {v:Value} (h:w.cell? ⟨b,o,none⟩=some v) (x:Obj):(w.alloc x).cell? ⟨b,o,none⟩=some v :=
 cell_below h ((Below.refl _ _).alloc (Nat.le_refl _) _) (cell_lt h)
theorem place1_c (nm s:ByteArray) (t p r c:Value) (b o:Nat) (w:World) (h:w.cell? ⟨b,o,none⟩=some (.string s)) :
 Calls Tryz.prog 64 #[.agg #[.string nm,t,p,r,c],.pointer (some ⟨b,o,none⟩)] w fun e w'=>e = .returned (.bool (nm.toList==s.toList))∧Below w.heap.size w w':=by
 have h':=cell_alloc h (.cells #[.string nm,t,p,r,c] 90)
 have hB:Below w.heap.size w (w.alloc (.cells #[.string nm,t,p,r,c] 90)):=(Below.refl _ _).alloc (Nat.le_refl _) _
 clear h
 go_enter Tryz.func64,Tryz.ntmps64
 go_wp2
 go_ret
 exact ⟨rfl,hB⟩
end Lb
end Go.Proofs
namespace Go.Proofs
open Go.RowKit
namespace Lb
structure HasD (w:World) (b k n:Nat) (nm:Nat→ByteArray) (tx pa re ca:Nat→Value):Prop where
 c0:∀ i,i < n→w.cell? ⟨b,k+i * 5,none⟩=some (.string (nm i))
 c1:∀ i,i < n→w.cell? ⟨b,k+i * 5+1,none⟩=some (tx i)
 c2:∀ i,i < n→w.cell? ⟨b,k+i * 5+2,none⟩=some (pa i)
 c3:∀ i,i < n→w.cell? ⟨b,k+i * 5+3,none⟩=some (re i)
 c4:∀ i,i < n→w.cell? ⟨b,k+i * 5+4,none⟩=some (ca i)
theorem index_none {w:World} {b k n cap pb po:Nat} {nm:Nat→ByteArray} {tx pa re ca:Nat→Value} {s:ByteArray} (hd:HasD w b k n nm tx pa re ca) (hn:n < 1000) (hs:w.cell? ⟨pb,po,none⟩=some (.string s)) (hne:∀ i,i < n→((nm i).toList==s.toList)=false) :
 Calls Tryz.prog 63 #[.slice (some ⟨b,k,none⟩) n cap,.func (.func 64) #[] #[.pointer (some ⟨pb,po,none⟩)]] w fun e w'=>e = .returned (.int .i64 (-1))∧Below w.heap.size w w':=by
 go_enter Tryz.func63,Tryz.ntmps63
 go_wp2
 go_loopw [8] (fun i wr=>∃ j:Nat,j≤n∧i = .int .i64 j∧Below w.heap.size w wr) (fun i _=>n - (intOf i).toNat)
 case atStart=>exact ⟨0,Nat.zero_le _,rfl,Below.refl _ _⟩
 case round =>
  obtain ⟨j,hj,rfl,hB⟩:=hrel
  have hbw:j < n→b < w.heap.size:=fun h=>cell_lt (hd.c0 j h)
  have hs':wr.cell? ⟨pb,po,none⟩=some (.string s):=cell_below hs hB (cell_lt hs)
  by_cases hjn:j < n
  · have g0:=cell_below (hd.c0 j hjn) hB (hbw hjn)
    have g1:=cell_below (hd.c1 j hjn) hB (hbw hjn)
    have g2:=cell_below (hd.c2 j hjn) hB (hbw hjn)
    have g3:=cell_below (hd.c3 j hjn) hB (hbw hjn)
    have g4:=cell_below (hd.c4 j hjn) hB (hbw hjn)
    have hc:=place1_c (nm j) s (tx j) (pa j) (re j) (ca j) pb po wr hs'
    rw [hne j hjn] at hc
    go_wp2_with (go_at_call 64; refine hc.mono ?_; rintro e w' ⟨rfl,hB2⟩)
    have hB3:Below w.heap.size w w':=hB.trans (hB2.mono hB.size)
    go_roundw
    case rel=>exact ⟨j+1,by omega,by go_num,hB3⟩
    case measure=>simp [intOf]; omega
  · go_wp2
    go_ret
    exact ⟨rfl,hB⟩
end Lb
end Go.Proofs
namespace Go.Proofs
open Go.RowKit
namespace Lb
theorem place_none {w:World} {b k n cap:Nat} {nm:Nat→ByteArray} {tx pa re ca:Nat→Value} {s:ByteArray} (hd:HasD w b k n nm tx pa re ca) (hn:n < 1000) (hne:∀ i,i < n→((nm i).toList==s.toList)=false) :
 Calls Tryz.prog 42 #[.slice (some ⟨b,k,none⟩) n cap,.string s] w fun e w'=>e = .returned (.int .i64 (-1))∧Below w.heap.size w w':=by
 obtain ⟨w1,hw1⟩:∃ w1,w1=w.alloc (.cells #[.string s] 9):=⟨_,rfl⟩
 have hB:Below w.heap.size w w1:=by rw [hw1]; exact (Below.refl _ _).alloc (Nat.le_refl _) _
 have hd1:HasD w1 b k n nm tx pa re ca:=⟨fun i h=>cell_below (hd.c0 i h) hB (cell_lt (hd.c0 i h)),fun i h=>cell_below (hd.c1 i h) hB (cell_lt (hd.c1 i h)),fun i h=>cell_below (hd.c2 i h) hB (cell_lt (hd.c2 i h)),fun i h=>cell_below (hd.c3 i h) hB (cell_lt (hd.c3 i h)),fun i h=>cell_below (hd.c4 i h) hB (cell_lt (hd.c4 i h))⟩
 have hs:w1.cell? ⟨w.heap.size,0,none⟩=some (.string s):=by
  rw [hw1]
  unfold World.cell?
  rw [show (w.alloc (.cells #[.string s] 9)).heap[(⟨w.heap.size,0,none⟩:Addr).block]? = _ from heap_alloc_new w _]; rfl
 have hc:=index_none (cap:=cap) hd1 hn hs hne
 rw [hw1] at hc
 have hw1':Hid (w1=w.alloc (.cells #[.string s] 9)):=hw1
 rw [hw1] at hB
 clear hd1 hs hw1 hd hne
 go_enter Tryz.func42,Tryz.ntmps42
 go_wp2_with (go_at_call 63; refine hc.mono ?_; rintro e w' ⟨rfl,hB2⟩)
 go_ret
 exact ⟨rfl,hB.trans (hB2.mono hB.size)⟩
end Lb
end Go.Proofs
namespace Go.Proofs
open Go.RowKit
namespace Lb
def nms:List ByteArray:=["up", "sum", "len", "join", "rev", "put", "sort", "drop", "sieve", "primes", "gcd", "fib", "nth", "pack", "cell", "product", "atom", "times", "term", "more", "expr", "eval"].map String.toUTF8
def nm (i:Nat):ByteArray:=nms.getD i ByteArray.empty
structure Ctx (I:World→Prop):Prop where
 mono:∀ w w',I w→Below w.heap.size w w'→I w'
 opn:∀ w,I w→Calls Tryz.prog 30 #[] w fun e w'=>∃ b k cap tx pa re ca,e = .returned (.tuple #[.slice (some ⟨b,k,none⟩) 22 cap,.int .i64 0])∧HasD w' b k 22 nm tx pa re ca∧Below w.heap.size w w'∧I w'
 defs:∀ w,I w→Calls Tryz.prog 13 #[] w fun e w'=>∃ b k cap tx pa re ca,e = .returned (.slice (some ⟨b,k,none⟩) 22 cap)∧HasD w' b k 22 nm tx pa re ca∧Below w.heap.size w w'∧I w'
 names:∀ w,I w→Calls Tryz.prog 14 #[] w fun e w'=>∃ b k cap,e = .returned (.slice (some ⟨b,k,none⟩) 22 cap)∧(∀ i,i < 22→w'.cell? ⟨b,k+i,none⟩=some (.string (nm i)))∧Below w.heap.size w w'∧I w'
 awk:∀ w,I w→Calls Tryz.prog 6 #[] w fun e w'=>e = .returned (.bool true)∧I w'
def Unk (s:ByteArray):Prop:=∀ i,i < 22→((nm i).toList==s.toList)=false
theorem HasD.below {w w':World} {b k n:Nat} {nm:Nat→ByteArray} {tx pa re ca:Nat→Value} (hd:HasD w b k n nm tx pa re ca) (hB:Below w.heap.size w w'):HasD w' b k n nm tx pa re ca :=
 ⟨fun i h=>cell_below (hd.c0 i h) hB (cell_lt (hd.c0 i h)),fun i h=>cell_below (hd.c1 i h) hB (cell_lt (hd.c1 i h)),fun i h=>cell_below (hd.c2 i h) hB (cell_lt (hd.c2 i h)),fun i h=>cell_below (hd.c3 i h) hB (cell_lt (hd.c3 i h)),fun i h=>cell_below (hd.c4 i h) hB (cell_lt (hd.c4 i h))⟩
def zeroD:Value:=.agg #[.string ByteArray.empty,.string ByteArray.empty,.slice none 0 0,.slice none 0 0,.slice none 0 0]
theorem cells_new (w:World) (c:Array Value) (t j:Nat):(w.alloc (.cells c t)).cell? ⟨w.heap.size,j,none⟩=c[j]?:=by
 unfold World.cell?
 rw [show (w.alloc (.cells c t)).heap[(⟨w.heap.size,j,none⟩:Addr).block]? = _ from heap_alloc_new w _]
 simp
theorem froz_new (w:World) (c:Array Value) (t j:Nat):(w.alloc (.cells c t)).frozen? ⟨w.heap.size,j,none⟩=false:=by
 unfold World.frozen?
 rw [show (w.alloc (.cells c t)).heap[(⟨w.heap.size,j,none⟩:Addr).block]? = _ from heap_alloc_new w _]
 simp
theorem size_new (w:World) (o:Obj):(w.alloc o).heap.size=w.heap.size+1:=by show (w.heap.push _).size=_; simp
theorem keep {w:World} {a x:Addr} {v u:Value} (h:w.cell? a=some v) (h2:w.cell? x=some u):(w.setCell a v).cell? x=some u:=by
 by_cases he:a=x
 · subst he; rw [h] at h2; cases h2; exact World.cell?_setCell_same _ _ _ h
 · rw [World.cell?_setCell_other _ _ _ _ he]; exact h2
theorem zero_back (w:World) (B:Nat) (v0 v1 v2 v3 v4:Value) (q0:w.cell? ⟨B,0,none⟩=some v0) (q1:w.cell? ⟨B,1,none⟩=some v1) (q2:w.cell? ⟨B,2,none⟩=some v2) (q3:w.cell? ⟨B,3,none⟩=some v3) (q4:w.cell? ⟨B,4,none⟩=some v4) (W:World)
 (hW:W=((((((w.setCell ⟨B,0,none⟩ v0).setCell ⟨B,1,none⟩ v1).setCell ⟨B,2,none⟩ v2).setCell ⟨B,3,none⟩ v3).setCell ⟨B,4,none⟩ v4).drew)) :
 (∀ x u,w.cell? x=some u→W.cell? x=some u)∧∀ w0,Below B w0 w→Below B w0 W:=by
 have s1:=fun x u (h:w.cell? x=some u)=>keep q0 h
 have s2:=fun x u h=>keep (s1 _ _ q1) (s1 x u h)
 have s3:=fun x u h=>keep (s2 _ _ q2) (s2 x u h)
 have s4:=fun x u h=>keep (s3 _ _ q3) (s3 x u h)
 have s5:=fun x u h=>keep (s4 _ _ q4) (s4 x u h)
 refine ⟨fun x u h=>?_,fun w0 h=>?_⟩
 · rw [hW,World.cell?_drew]
   exact s5 x u h
 · rw [hW]
   exact (((((h.setCell (Nat.le_refl _) _).setCell (Nat.le_refl _) _).setCell (Nat.le_refl _) _).setCell (Nat.le_refl _) _).setCell (Nat.le_refl _) _).drew
theorem find_none {I:World→Prop} (hC:Ctx I) {w:World} {s:ByteArray} (hi:I w) (hs:Unk s) :
 Calls Tryz.prog 31 #[.string s] w fun e w'=>e = .returned (.tuple #[.slice none 0 0,zeroD,.int .i64 10])∧Below w.heap.size w w':=by
 obtain ⟨w1,hw1⟩:∃ w1,w1=w.alloc (.cells #[.string ByteArray.empty,.string ByteArray.empty,.slice none 0 0,.slice none 0 0,.slice none 0 0] 90):=⟨_,rfl⟩
 have hB0:Below w.heap.size w w1:=by rw [hw1]; exact (Below.refl _ _).alloc (Nat.le_refl _) _
 have hz:w1.heap.size=w.heap.size+1:=by rw [hw1]; exact size_new w _
 have k0:w1.cell? ⟨w.heap.size,0,none⟩=some (.string ByteArray.empty):=by rw [hw1,cells_new]; rfl
 have k1:w1.cell? ⟨w.heap.size,1,none⟩=some (.string ByteArray.empty):=by rw [hw1,cells_new]; rfl
 have k2:w1.cell? ⟨w.heap.size,2,none⟩=some (.slice none 0 0):=by rw [hw1,cells_new]; rfl
 have k3:w1.cell? ⟨w.heap.size,3,none⟩=some (.slice none 0 0):=by rw [hw1,cells_new]; rfl
 have k4:w1.cell? ⟨w.heap.size,4,none⟩=some (.slice none 0 0):=by rw [hw1,cells_new]; rfl
 have hff:Hid (∀ w',Below w1.heap.size w1 w'→∀ j,w'.frozen? ⟨w.heap.size,j,none⟩=false):=fun w' h j=>by rw [h.frozen (by show w.heap.size < _; omega),hw1]; exact froz_new w _ _ _
 have hc:=hC.opn _ (hC.mono w w1 hi hB0)
 have ha:Hid (∀ w',Below w1.heap.size w1 w'→∀ w'',Below w'.heap.size w' w''→Below w1.heap.size w1 w''):=fun w' h w'' h'=>h.trans (h'.mono h.size)
 have hs':Hid (Unk s):=hs
 have hB0':Hid (Below w.heap.size w w1):=hB0
 have hz':Hid (w1.heap.size=w.heap.size+1):=hz
 have hcc:Hid (∀ w',Below w1.heap.size w1 w'→∀ j v,w1.cell? ⟨w.heap.size,j,none⟩=some v→w'.cell? ⟨w.heap.size,j,none⟩=some v):=fun w' h j v hv=>cell_below hv h (by omega)
 rw [hw1] at hc
 clear hC hi hs hB0 hz
 go_enter Tryz.func31,Tryz.ntmps31
 go_wp2_with (first | (go_at_call 30; refine hc.mono ?_; rintro e w' ⟨b,k,cap,tx,pa,re,ca,rfl,hd,hB,hI⟩; rw [←hw1] at hB) | (go_at_call 42; refine (place_none (by assumption) (by decide) (by assumption)).mono ?_; rintro e w'' ⟨rfl,hB2⟩))
 have hBw:=ha w' hB w'' hB2
 have q0:=hcc w'' hBw 0 _ k0
 have q1:=hcc w'' hBw 1 _ k1
 have q2:=hcc w'' hBw 2 _ k2
 have q3:=hcc w'' hBw 3 _ k3
 have q4:=hcc w'' hBw 4 _ k4
 have f0:=hff w'' hBw 0
 have f1:=hff w'' hBw 1
 have f2:=hff w'' hBw 2
 have f3:=hff w'' hBw 3
 have f4:=hff w'' hBw 4
 clear ha hcc hff k0 k1 k2 k3 k4 hd
 go_region
 have hBz:Hid (Below w.heap.size w w''):=hB0'.out.trans (hBw.mono (by have:=hz'.out; omega))
 obtain ⟨W,hW⟩:∃ W,W=((((((w''.setCell ⟨w.heap.size,0,none⟩ (.string ByteArray.empty)).setCell ⟨w.heap.size,1,none⟩ (.string ByteArray.empty)).setCell ⟨w.heap.size,2,none⟩ (.slice none 0 0)).setCell ⟨w.heap.size,3,none⟩ (.slice none 0 0)).setCell ⟨w.heap.size,4,none⟩ (.slice none 0 0)).drew):=⟨_,rfl⟩
 obtain ⟨hk,hk2⟩:=zero_back w'' w.heap.size _ _ _ _ _ q0 q1 q2 q3 q4 W hW
 have hBW:Below w.heap.size w W:=hk2 w hBz.out
 have z0:=hk _ _ q0
 have z1:=hk _ _ q1
 have z2:=hk _ _ q2
 have z3:=hk _ _ q3
 have z4:=hk _ _ q4
 rw [←hW]
 clear hW hk hk2 q0 q1 q2 q3 q4 f0 f1 f2 f3 f4
 go_wp2
 refine bodyPost_ret (v:=.tuple #[.slice none 0 0,zeroD,.int .i64 10]) (by simp [results,Tryz.results31,go_sem,z0,z1,z2,z3,z4]; try rfl) rfl ?_
 exact ⟨rfl,hBW⟩
end Lb
end Go.Proofs
namespace Go.Proofs
open Go.RowKit
namespace Lb
theorem below_drewN {B n:Nat} {a w:World} (h:Below B a w):Below B a (w.drewN n):=⟨h.os,h.tape,h.output,h.size,h.block⟩
theorem text_none {I:World→Prop} (hC:Ctx I) {w:World} {s:ByteArray} (hi:I w) (hs:Unk s) :
 Calls Tryz.prog 15 #[.string s] w fun e w'=>e = .returned (.tuple #[.string ByteArray.empty,.int .i64 10])∧Below w.heap.size w w':=by
 have hc:=find_none hC hi hs
 unfold zeroD at hc
 clear hC hi hs
 go_enter Tryz.func15,Tryz.ntmps15
 go_wp2_with (go_at_call 31; refine hc.mono ?_; rintro e w' ⟨rfl,hB⟩)
 go_ret2
 exact ⟨rfl,hB.alloc hB.size _⟩
theorem sign_none {I:World→Prop} (hC:Ctx I) {w:World} {s:ByteArray} (hi:I w) (hs:Unk s) :
 Calls Tryz.prog 16 #[.string s] w fun e w'=>e = .returned (.tuple #[.slice none 0 0,.slice none 0 0,.int .i64 10])∧Below w.heap.size w w':=by
 have hc:=find_none hC hi hs
 unfold zeroD at hc
 clear hC hi hs
 go_enter Tryz.func16,Tryz.ntmps16
 go_wp2_with (go_at_call 31; refine hc.mono ?_; rintro e w' ⟨rfl,hB⟩)
 go_quiet (fail)
 go_wp2
 go_ret3
 exact ⟨rfl,below_drewN (hB.alloc hB.size _)⟩
theorem needs_none {I:World→Prop} (hC:Ctx I) {w:World} {s:ByteArray} (hi:I w) (hs:Unk s) :
 Calls Tryz.prog 17 #[.string s] w fun e w'=>e = .returned (.tuple #[.slice none 0 0,.int .i64 10])∧Below w.heap.size w w':=by
 have hc:=find_none hC hi hs
 unfold zeroD at hc
 clear hC hi hs
 go_enter Tryz.func17,Tryz.ntmps17
 go_wp2_with (go_at_call 31; refine hc.mono ?_; rintro e w' ⟨rfl,hB⟩)
 go_ret2
 exact ⟨rfl,hB.alloc hB.size _⟩
end Lb
end Go.Proofs
namespace Go.Proofs
open Go.RowKit
namespace Lb
theorem zero_back' (w:World) (B:Nat) (v0 v1 v2 v3 v4:Value) (q0:w.cell? ⟨B,0,none⟩=some v0) (q1:w.cell? ⟨B,1,none⟩=some v1) (q2:w.cell? ⟨B,2,none⟩=some v2) (q3:w.cell? ⟨B,3,none⟩=some v3) (q4:w.cell? ⟨B,4,none⟩=some v4) (W:World)
 (hW:W=((((((w.setCell ⟨B,0,none⟩ v0).setCell ⟨B,1,none⟩ v1).setCell ⟨B,2,none⟩ v2).setCell ⟨B,3,none⟩ v3).setCell ⟨B,4,none⟩ v4))) :
 (∀ x u,w.cell? x=some u→W.cell? x=some u)∧∀ w0,Below B w0 w→Below B w0 W:=by
 have s1:=fun x u (h:w.cell? x=some u)=>keep q0 h
 have s2:=fun x u h=>keep (s1 _ _ q1) (s1 x u h)
 have s3:=fun x u h=>keep (s2 _ _ q2) (s2 x u h)
 have s4:=fun x u h=>keep (s3 _ _ q3) (s3 x u h)
 have s5:=fun x u h=>keep (s4 _ _ q4) (s4 x u h)
 refine ⟨fun x u h=>?_,fun w0 h=>?_⟩
 · rw [hW]
   exact s5 x u h
 · rw [hW]
   exact (((((h.setCell (Nat.le_refl _) _).setCell (Nat.le_refl _) _).setCell (Nat.le_refl _) _).setCell (Nat.le_refl _) _).setCell (Nat.le_refl _) _)
theorem rfind_none {I:World→Prop} (hC:Ctx I) {w:World} {s:ByteArray} (hi:I w) (hs:Unk s) :
 Calls Tryz.prog 9 #[.string s] w fun e w'=>e = .returned (.tuple #[zeroD,.int .i64 (-1)])∧Below w.heap.size w w':=by
 obtain ⟨w1,hw1⟩:∃ w1,w1=w.alloc (.cells #[.string ByteArray.empty,.string ByteArray.empty,.slice none 0 0,.slice none 0 0,.slice none 0 0] 38):=⟨_,rfl⟩
 have hB0:Below w.heap.size w w1:=by rw [hw1]; exact (Below.refl _ _).alloc (Nat.le_refl _) _
 have hz:w1.heap.size=w.heap.size+1:=by rw [hw1]; exact size_new w _
 have k0:w1.cell? ⟨w.heap.size,0,none⟩=some (.string ByteArray.empty):=by rw [hw1,cells_new]; rfl
 have k1:w1.cell? ⟨w.heap.size,1,none⟩=some (.string ByteArray.empty):=by rw [hw1,cells_new]; rfl
 have k2:w1.cell? ⟨w.heap.size,2,none⟩=some (.slice none 0 0):=by rw [hw1,cells_new]; rfl
 have k3:w1.cell? ⟨w.heap.size,3,none⟩=some (.slice none 0 0):=by rw [hw1,cells_new]; rfl
 have k4:w1.cell? ⟨w.heap.size,4,none⟩=some (.slice none 0 0):=by rw [hw1,cells_new]; rfl
 have hff:Hid (∀ w',Below w1.heap.size w1 w'→∀ j,w'.frozen? ⟨w.heap.size,j,none⟩=false):=fun w' h j=>by rw [h.frozen (by show w.heap.size < _; omega),hw1]; exact froz_new w _ _ _
 have hc:=hC.defs _ (hC.mono w w1 hi hB0)
 have hs':Hid (Unk s):=hs
 have hB0':Hid (Below w.heap.size w w1):=hB0
 have hz':Hid (w1.heap.size=w.heap.size+1):=hz
 have hcc:Hid (∀ w',Below w1.heap.size w1 w'→∀ j v,w1.cell? ⟨w.heap.size,j,none⟩=some v→w'.cell? ⟨w.heap.size,j,none⟩=some v):=fun w' h j v hv=>cell_below hv h (by omega)
 rw [hw1] at hc
 clear hC hi hs hB0 hz
 go_enter Tryz.func9,Tryz.ntmps9
 go_wp2_with (go_at_call 13; refine hc.mono ?_; rintro e w' ⟨b,k,cap,tx,pa,re,ca,rfl,hd,hB,hI⟩; rw [←hw1] at hB)
 go_loopw [5] (fun i wr=>∃ j:Nat,j≤22∧i = .int .i64 j∧Below w'.heap.size w' wr) (fun i _=>22 - (intOf i).toNat)
 case atStart=>exact ⟨0,Nat.zero_le _,rfl,Below.refl _ _⟩
 case round =>
  obtain ⟨j,hj,rfl,hBr⟩:=hrel
  by_cases hjn:j < 22
  · have g0:=cell_below (hd.c0 j hjn) hBr (cell_lt (hd.c0 j hjn))
    have hne:=hs'.out j hjn
    go_wp2
    go_roundw
    case rel=>exact ⟨j+1,by omega,by go_num,hBr⟩
    case measure=>simp [intOf]; omega
  · have hBw:Below w1.heap.size w1 wr:=hB.trans (hBr.mono hB.size)
    have q0:=hcc.out wr hBw 0 _ k0
    have q1:=hcc.out wr hBw 1 _ k1
    have q2:=hcc.out wr hBw 2 _ k2
    have q3:=hcc.out wr hBw 3 _ k3
    have q4:=hcc.out wr hBw 4 _ k4
    have f0:=hff.out wr hBw 0
    have f1:=hff.out wr hBw 1
    have f2:=hff.out wr hBw 2
    have f3:=hff.out wr hBw 3
    have f4:=hff.out wr hBw 4
    have hBz:Hid (Below w.heap.size w wr):=hB0'.out.trans (hBw.mono (by have:=hz'.out; omega))
    clear hd hcc hff k0 k1 k2 k3 k4 hc
    go_wp2
    obtain ⟨W,hW⟩:∃ W,W=(((((wr.setCell ⟨w.heap.size,0,none⟩ (.string ⟨#[]⟩)).setCell ⟨w.heap.size,1,none⟩ (.string ⟨#[]⟩)).setCell ⟨w.heap.size,2,none⟩ (.slice none 0 0)).setCell ⟨w.heap.size,3,none⟩ (.slice none 0 0)).setCell ⟨w.heap.size,4,none⟩ (.slice none 0 0)):=⟨_,rfl⟩
    obtain ⟨hk,hk2⟩:=zero_back' wr w.heap.size (.string ⟨#[]⟩) (.string ⟨#[]⟩) _ _ _ q0 q1 q2 q3 q4 W hW
    have hBW:Below w.heap.size w W:=hk2 w hBz.out
    have z0:=hk _ _ q0
    have z1:=hk _ _ q1
    have z2:=hk _ _ q2
    have z3:=hk _ _ q3
    have z4:=hk _ _ q4
    rw [←hW]
    clear hW hk hk2 q0 q1 q2 q3 q4 f0 f1 f2 f3 f4
    refine bodyPost_ret (v:=.tuple #[zeroD,.int .i64 (-1)]) (by simp [results,Tryz.results9,go_sem,z0,z1,z2,z3,z4]; try rfl) rfl ?_
    exact ⟨rfl,hBW⟩
end Lb
end Go.Proofs
namespace Go.Proofs
open Go.RowKit
namespace Lb
theorem texts_long {I:World→Prop} (hC:Ctx I) {w:World} {s:ByteArray} (hi:I w) (hl:100 < s.size) :
 Calls Tryz.prog 4 #[.string s] w fun e w'=>e = .returned (.bool true)∧I w':=by
 have hc:=hC.awk w hi
 clear hC hi
 go_enter Tryz.func4,Tryz.ntmps4
 go_wp2_with (go_at_call 6; refine hc.mono ?_; rintro e w' ⟨rfl,hI⟩)
 go_ret
 exact ⟨rfl,hI⟩
set_option maxHeartbeats 1000000 in
theorem texts_none {I:World→Prop} (hC:Ctx I) {w:World} {s:ByteArray} (hi:I w) (hs:Unk s) (hl:s.size≤100) :
 Calls Tryz.prog 4 #[.string s] w fun e w'=>e = .returned (.bool true)∧I w':=by
 have cD:=hC.defs
 have cN:=hC.names
 have cA:=hC.awk
 have cT:∀ w,I w→Calls Tryz.prog 15 #[.string s] w fun e w'=>e = .returned (.tuple #[.string ByteArray.empty,.int .i64 10])∧I w':=fun w h=>(text_none hC h hs).mono fun e w' ⟨h1,h2⟩=>⟨h1,hC.mono _ _ h h2⟩
 have cS:∀ w,I w→Calls Tryz.prog 16 #[.string s] w fun e w'=>e = .returned (.tuple #[.slice none 0 0,.slice none 0 0,.int .i64 10])∧I w':=fun w h=>(sign_none hC h hs).mono fun e w' ⟨h1,h2⟩=>⟨h1,hC.mono _ _ h h2⟩
 have cE:∀ w,I w→Calls Tryz.prog 17 #[.string s] w fun e w'=>e = .returned (.tuple #[.slice none 0 0,.int .i64 10])∧I w':=fun w h=>(needs_none hC h hs).mono fun e w' ⟨h1,h2⟩=>⟨h1,hC.mono _ _ h h2⟩
 have cF:∀ w,I w→Calls Tryz.prog 9 #[.string s] w fun e w'=>e = .returned (.tuple #[zeroD,.int .i64 (-1)])∧I w'∧I (w'.alloc (.cells #[.string ByteArray.empty,.string ByteArray.empty,.slice none 0 0,.slice none 0 0,.slice none 0 0] 38)):=fun w h=>(rfind_none hC h hs).mono fun e w' ⟨h1,h2⟩=>⟨h1,hC.mono _ _ h h2,hC.mono _ _ (hC.mono _ _ h h2) ((Below.refl _ _).alloc (Nat.le_refl _) _)⟩
 unfold zeroD at cF
 have hm:Hid (∀ w w',I w→Below w.heap.size w w'→I w'):=hC.mono
 clear hC hs
 go_enter Tryz.func4,Tryz.ntmps4
 go_wp2_with (first | (go_at_call 13; refine (cD _ (by assumption)).mono ?_; rintro e w' ⟨b,k,cap,tx,pa,re,ca,rfl,hd,hB,hI⟩) | (go_at_call 14; refine (cN _ (by assumption)).mono ?_; rintro e w'' ⟨b2,k2,cap2,rfl,hn,hB2,hI2⟩))
 clear cD cN
 have hd2:=HasD.below hd hB2
 go_loopw [5] (fun i wr=>∃ j:Nat,j≤22∧i = .int .i64 j∧Below w''.heap.size w'' wr∧I wr) (fun i _=>22 - (intOf i).toNat)
 case atStart=>exact ⟨0,Nat.zero_le _,rfl,Below.refl _ _,hI2⟩
 case round =>
  obtain ⟨j,hj,rfl,hBr,hIr⟩:=hrel
  by_cases hjn:j < 22
  · have g0:=cell_below (hd2.c0 j hjn) hBr (cell_lt (hd2.c0 j hjn))
    have g1:=cell_below (hn j hjn) hBr (cell_lt (hn j hjn))
    clear cT cS cE cF cA
    go_wp2
    go_quiet (fail)
    go_wp2
    go_roundw
    case rel=>exact ⟨j+1,by omega,by go_num,below_drewN hBr,hm.out _ _ hIr (below_drewN (Below.refl _ _))⟩
    case measure=>simp [intOf]; omega
  · clear hd hd2 hn
    go_wp2_with (first | (go_at_call 15; refine (cT _ (by assumption)).mono ?_; rintro e w3 ⟨rfl,hI3⟩) | (go_at_call 16; refine (cS _ (by assumption)).mono ?_; rintro e w4 ⟨rfl,hI4⟩) | (go_at_call 17; refine (cE _ (by assumption)).mono ?_; rintro e w5 ⟨rfl,hI5⟩) | (go_at_call 9; refine (cF _ (by assumption)).mono ?_; rintro e w6 ⟨rfl,hI6,hI7⟩) | (go_at_call 6; refine (cA _ (by assumption)).mono ?_; rintro e w7 ⟨rfl,hI8⟩))
    go_ret
    exact ⟨rfl,hI8⟩
end Lb
end Go.Proofs
