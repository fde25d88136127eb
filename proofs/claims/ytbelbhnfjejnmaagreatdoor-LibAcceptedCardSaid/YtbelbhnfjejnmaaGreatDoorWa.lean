/- PROVED HERE: a part (Wa) of the tied card of LibAccepted (floodgatelaw25). CONDITIONS: those of the given row and card alone. -/
import Derived.Test.YtbelbhnfjejnmaaGreatDoorProg
import Derived.WalkKit
import Derived.Deep.QuietTactic
import Derived.BigQuiet
import Derived.RegionTactic
import Derived.ChangeAlike
import Derived.Handy
import Derived.Lib.Join
import Derived.Lib.ItoaMem
import Derived.Lib.ItoaLen
namespace Go.Proofs
open Go.RowKit
namespace Lb
theorem cell_lt {w:World} {b o:Nat} {v:Value} (h:w.cell? ⟨b,o,none⟩=some v):b < w.heap.size:=by
 unfold World.cell? at h
 by_cases hb:b < w.heap.size
 · exact hb
 · rw [show w.heap[(⟨b,o,none⟩:Addr).block]? = none from Array.getElem?_eq_none (by show w.heap.size≤b; omega)] at h
   cases h
theorem cell_below {w w':World} {b o n:Nat} {v:Value} (h:w.cell? ⟨b,o,none⟩=some v) (hB:Below n w w') (hn:b < n):w'.cell? ⟨b,o,none⟩=some v:=by
 unfold World.cell? at h ⊢
 rw [show w'.heap[(⟨b,o,none⟩:Addr).block]? = w.heap[(⟨b,o,none⟩:Addr).block]? from hB.block b hn]
 exact h
theorem cell_alloc {w:World} {b o:Nat} {v:Value} (h:w.cell? ⟨b,o,none⟩=some v) (x:Obj):(w.alloc x).cell? ⟨b,o,none⟩=some v :=
 cell_below h ((Below.refl _ _).alloc (Nat.le_refl _) _) (cell_lt h)
theorem place1_c (nm s:ByteArray) (t p r c:Value) (b o:Nat) (w:World) (h:w.cell? ⟨b,o,none⟩=some (.string s)) :
 Calls Tryz.prog 125 #[.agg #[.string nm,t,p,r,c],.pointer (some ⟨b,o,none⟩)] w fun e w'=>e = .returned (.bool (nm.toList==s.toList))∧Below w.heap.size w w':=by
 have h':=cell_alloc h (.cells #[.string nm,t,p,r,c] 110)
 have hB:Below w.heap.size w (w.alloc (.cells #[.string nm,t,p,r,c] 110)):=(Below.refl _ _).alloc (Nat.le_refl _) _
 clear h
 go_enter Tryz.func125,Tryz.ntmps125
 go_wp2
 go_ret
 exact ⟨rfl,hB⟩
end Lb
end Go.Proofs
namespace Go.Proofs
open Go.RowKit
namespace Lb
structure HasD (w:World) (b k n:Nat) (nm:Nat→ByteArray) (tx pa re ca:Nat→Value):Prop where
 c0:∀ i,i < n→w.cell? ⟨b,k+i * 5,none⟩=some (.string (nm i))
 c1:∀ i,i < n→w.cell? ⟨b,k+i * 5+1,none⟩=some (tx i)
 c2:∀ i,i < n→w.cell? ⟨b,k+i * 5+2,none⟩=some (pa i)
 c3:∀ i,i < n→w.cell? ⟨b,k+i * 5+3,none⟩=some (re i)
 c4:∀ i,i < n→w.cell? ⟨b,k+i * 5+4,none⟩=some (ca i)
theorem index_none {w:World} {b k n cap pb po:Nat} {nm:Nat→ByteArray} {tx pa re ca:Nat→Value} {s:ByteArray} (hd:HasD w b k n nm tx pa re ca) (hn:n < 1000) (hs:w.cell? ⟨pb,po,none⟩=some (.string s)) (hne:∀ i,i < n→((nm i).toList==s.toList)=false) :
 Calls Tryz.prog 124 #[.slice (some ⟨b,k,none⟩) n cap,.func (.func 125) #[] #[.pointer (some ⟨pb,po,none⟩)]] w fun e w'=>e = .returned (.int .i64 (-1))∧Below w.heap.size w w':=by
 go_enter Tryz.func124,Tryz.ntmps124
 go_wp2
 go_loopw [8] (fun i wr=>∃ j:Nat,j≤n∧i = .int .i64 j∧Below w.heap.size w wr) (fun i _=>n - (intOf i).toNat)
 case atStart=>exact ⟨0,Nat.zero_le _,rfl,Below.refl _ _⟩
 case round =>
  obtain ⟨j,hj,rfl,hB⟩:=hrel
  have hbw:j < n→b < w.heap.size:=fun h=>cell_lt (hd.c0 j h)
  have hs':wr.cell? ⟨pb,po,none⟩=some (.string s):=cell_below hs hB (cell_lt hs)
  by_cases hjn:j < n
  · have g0:=cell_below (hd.c0 j hjn) hB (hbw hjn)
    have g1:=cell_below (hd.c1 j hjn) hB (hbw hjn)
    have g2:=cell_below (hd.c2 j hjn) hB (hbw hjn)
    have g3:=cell_below (hd.c3 j hjn) hB (hbw hjn)
    have g4:=cell_below (hd.c4 j hjn) hB (hbw hjn)
    have hc:=place1_c (nm j) s (tx j) (pa j) (re j) (ca j) pb po wr hs'
    rw [hne j hjn] at hc
    go_wp2_with (go_at_call 125; refine hc.mono ?_; rintro e w' ⟨rfl,hB2⟩)
    have hB3:Below w.heap.size w w':=hB.trans (hB2.mono hB.size)
    go_roundw
    case rel=>exact ⟨j+1,by omega,by go_num,hB3⟩
    case measure=>simp [intOf]; omega
  · go_wp2
    go_ret
    exact ⟨rfl,hB⟩
end Lb
end Go.Proofs
namespace Go.Proofs
open Go.RowKit
namespace Lb
theorem place_none {w:World} {b k n cap:Nat} {nm:Nat→ByteArray} {tx pa re ca:Nat→Value} {s:ByteArray} (hd:HasD w b k n nm tx pa re ca) (hn:n < 1000) (hne:∀ i,i < n→((nm i).toList==s.toList)=false) :
 Calls Tryz.prog 70 #[.slice (some ⟨b,k,none⟩) n cap,.string s] w fun e w'=>e = .returned (.int .i64 (-1))∧Below w.heap.size w w':=by
 obtain ⟨w1,hw1⟩:∃ w1,w1=w.alloc (.cells #[.string s] 9):=⟨_,rfl⟩
 have hB:Below w.heap.size w w1:=by rw [hw1]; exact (Below.refl _ _).alloc (Nat.le_refl _) _
 have hd1:HasD w1 b k n nm tx pa re ca:=⟨fun i h=>cell_below (hd.c0 i h) hB (cell_lt (hd.c0 i h)),fun i h=>cell_below (hd.c1 i h) hB (cell_lt (hd.c1 i h)),fun i h=>cell_below (hd.c2 i h) hB (cell_lt (hd.c2 i h)),fun i h=>cell_below (hd.c3 i h) hB (cell_lt (hd.c3 i h)),fun i h=>cell_below (hd.c4 i h) hB (cell_lt (hd.c4 i h))⟩
 have hs:w1.cell? ⟨w.heap.size,0,none⟩=some (.string s):=by
  rw [hw1]
  unfold World.cell?
  rw [show (w.alloc (.cells #[.string s] 9)).heap[(⟨w.heap.size,0,none⟩:Addr).block]? = _ from heap_alloc_new w _]; rfl
 have hc:=index_none (cap:=cap) hd1 hn hs hne
 rw [hw1] at hc
 have hw1':Hid (w1=w.alloc (.cells #[.string s] 9)):=hw1
 rw [hw1] at hB
 clear hd1 hs hw1 hd hne
 go_enter Tryz.func70,Tryz.ntmps70
 go_wp2_with (go_at_call 124; refine hc.mono ?_; rintro e w' ⟨rfl,hB2⟩)
 go_ret
 exact ⟨rfl,hB.trans (hB2.mono hB.size)⟩
end Lb
end Go.Proofs
namespace Go.Proofs
open Go.RowKit
namespace Lb
def nms:List ByteArray:=["up", "sum", "len", "join", "rev", "put", "sort", "drop", "sieve", "primes", "gcd", "fib", "nth", "pack", "cell", "product", "atom", "times", "term", "more", "expr", "eval"].map String.toUTF8
def nm (i:Nat):ByteArray:=nms.getD i ByteArray.empty
structure Ctx (I:World→Prop):Prop where
 mono:∀ w w',I w→Below w.heap.size w w'→I w'
 opn:∀ w,I w→Calls Tryz.prog 69 #[] w fun e w'=>∃ b k cap tx pa re ca,e = .returned (.tuple #[.slice (some ⟨b,k,none⟩) 22 cap,.int .i64 0])∧HasD w' b k 22 nm tx pa re ca∧Below w.heap.size w w'∧I w'
 awk:∀ w,I w→Calls Tryz.prog 5 #[] w fun e w'=>e = .returned (.bool true)∧I w'
def Unk (s:ByteArray):Prop:=∀ i,i < 22→((nm i).toList==s.toList)=false
theorem HasD.below {w w':World} {b k n:Nat} {nm:Nat→ByteArray} {tx pa re ca:Nat→Value} (hd:HasD w b k n nm tx pa re ca) (hB:Below w.heap.size w w'):HasD w' b k n nm tx pa re ca :=
 ⟨fun i h=>cell_below (hd.c0 i h) hB (cell_lt (hd.c0 i h)),fun i h=>cell_below (hd.c1 i h) hB (cell_lt (hd.c1 i h)),fun i h=>cell_below (hd.c2 i h) hB (cell_lt (hd.c2 i h)),fun i h=>cell_below (hd.c3 i h) hB (cell_lt (hd.c3 i h)),fun i h=>cell_below (hd.c4 i h) hB (cell_lt (hd.c4 i h))⟩
def zeroD:Value:=.agg #[.string ByteArray.empty,.string ByteArray.empty,.slice none 0 0,.slice none 0 0,.slice none 0 0]
theorem cells_new (w:World) (c:Array Value) (t j:Nat):(w.alloc (.cells c t)).cell? ⟨w.heap.size,j,none⟩=c[j]?:=by
 unfold World.cell?
 rw [show (w.alloc (.cells c t)).heap[(⟨w.heap.size,j,none⟩:Addr).block]? = _ from heap_alloc_new w _]
 simp
theorem froz_new (w:World) (c:Array Value) (t j:Nat):(w.alloc (.cells c t)).frozen? ⟨w.heap.size,j,none⟩=false:=by
 unfold World.frozen?
 rw [show (w.alloc (.cells c t)).heap[(⟨w.heap.size,j,none⟩:Addr).block]? = _ from heap_alloc_new w _]
 simp
theorem size_new (w:World) (o:Obj):(w.alloc o).heap.size=w.heap.size+1:=by show (w.heap.push _).size=_; simp
theorem keep {w:World} {a x:Addr} {v u:Value} (h:w.cell? a=some v) (h2:w.cell? x=some u):(w.setCell a v).cell? x=some u:=by
 by_cases he:a=x
 · subst he; rw [h] at h2; cases h2; exact World.cell?_setCell_same _ _ _ h
 · rw [World.cell?_setCell_other _ _ _ _ he]; exact h2
theorem zero_back (w:World) (B:Nat) (v0 v1 v2 v3 v4:Value) (q0:w.cell? ⟨B,0,none⟩=some v0) (q1:w.cell? ⟨B,1,none⟩=some v1) (q2:w.cell? ⟨B,2,none⟩=some v2) (q3:w.cell? ⟨B,3,none⟩=some v3) (q4:w.cell? ⟨B,4,none⟩=some v4) (W:World)
 (hW:W=((((((w.setCell ⟨B,0,none⟩ v0).setCell ⟨B,1,none⟩ v1).setCell ⟨B,2,none⟩ v2).setCell ⟨B,3,none⟩ v3).setCell ⟨B,4,none⟩ v4).drew)) :
 (∀ x u,w.cell? x=some u→W.cell? x=some u)∧∀ w0,Below B w0 w→Below B w0 W:=by
 have s1:=fun x u (h:w.cell? x=some u)=>keep q0 h
 have s2:=fun x u h=>keep (s1 _ _ q1) (s1 x u h)
 have s3:=fun x u h=>keep (s2 _ _ q2) (s2 x u h)
 have s4:=fun x u h=>keep (s3 _ _ q3) (s3 x u h)
 have s5:=fun x u h=>keep (s4 _ _ q4) (s4 x u h)
 refine ⟨fun x u h=>?_,fun w0 h=>?_⟩
 · rw [hW,World.cell?_drew]
   exact s5 x u h
 · rw [hW]
   exact (((((h.setCell (Nat.le_refl _) _).setCell (Nat.le_refl _) _).setCell (Nat.le_refl _) _).setCell (Nat.le_refl _) _).setCell (Nat.le_refl _) _).drew
theorem find_none {I:World→Prop} (hC:Ctx I) {w:World} {s:ByteArray} (hi:I w) (hs:Unk s) :
 Calls Tryz.prog 33 #[.string s] w fun e w'=>e = .returned (.tuple #[.slice none 0 0,zeroD,.int .i64 10])∧Below w.heap.size w w':=by
 obtain ⟨w1,hw1⟩:∃ w1,w1=w.alloc (.cells #[.string ByteArray.empty,.string ByteArray.empty,.slice none 0 0,.slice none 0 0,.slice none 0 0] 110):=⟨_,rfl⟩
 have hB0:Below w.heap.size w w1:=by rw [hw1]; exact (Below.refl _ _).alloc (Nat.le_refl _) _
 have hz:w1.heap.size=w.heap.size+1:=by rw [hw1]; exact size_new w _
 have k0:w1.cell? ⟨w.heap.size,0,none⟩=some (.string ByteArray.empty):=by rw [hw1,cells_new]; rfl
 have k1:w1.cell? ⟨w.heap.size,1,none⟩=some (.string ByteArray.empty):=by rw [hw1,cells_new]; rfl
 have k2:w1.cell? ⟨w.heap.size,2,none⟩=some (.slice none 0 0):=by rw [hw1,cells_new]; rfl
 have k3:w1.cell? ⟨w.heap.size,3,none⟩=some (.slice none 0 0):=by rw [hw1,cells_new]; rfl
 have k4:w1.cell? ⟨w.heap.size,4,none⟩=some (.slice none 0 0):=by rw [hw1,cells_new]; rfl
 have hff:Hid (∀ w',Below w1.heap.size w1 w'→∀ j,w'.frozen? ⟨w.heap.size,j,none⟩=false):=fun w' h j=>by rw [h.frozen (by show w.heap.size < _; omega),hw1]; exact froz_new w _ _ _
 have hc:=hC.opn _ (hC.mono w w1 hi hB0)
 have ha:Hid (∀ w',Below w1.heap.size w1 w'→∀ w'',Below w'.heap.size w' w''→Below w1.heap.size w1 w''):=fun w' h w'' h'=>h.trans (h'.mono h.size)
 have hs':Hid (Unk s):=hs
 have hB0':Hid (Below w.heap.size w w1):=hB0
 have hz':Hid (w1.heap.size=w.heap.size+1):=hz
 have hcc:Hid (∀ w',Below w1.heap.size w1 w'→∀ j v,w1.cell? ⟨w.heap.size,j,none⟩=some v→w'.cell? ⟨w.heap.size,j,none⟩=some v):=fun w' h j v hv=>cell_below hv h (by omega)
 rw [hw1] at hc
 clear hC hi hs hB0 hz
 go_enter Tryz.func33,Tryz.ntmps33
 go_wp2_with (first | (go_at_call 69; refine hc.mono ?_; rintro e w' ⟨b,k,cap,tx,pa,re,ca,rfl,hd,hB,hI⟩; rw [←hw1] at hB) | (go_at_call 70; refine (place_none (by assumption) (by decide) (by assumption)).mono ?_; rintro e w'' ⟨rfl,hB2⟩))
 have hBw:=ha w' hB w'' hB2
 have q0:=hcc w'' hBw 0 _ k0
 have q1:=hcc w'' hBw 1 _ k1
 have q2:=hcc w'' hBw 2 _ k2
 have q3:=hcc w'' hBw 3 _ k3
 have q4:=hcc w'' hBw 4 _ k4
 have f0:=hff w'' hBw 0
 have f1:=hff w'' hBw 1
 have f2:=hff w'' hBw 2
 have f3:=hff w'' hBw 3
 have f4:=hff w'' hBw 4
 clear ha hcc hff k0 k1 k2 k3 k4 hd
 go_region
 have hBz:Hid (Below w.heap.size w w''):=hB0'.out.trans (hBw.mono (by have:=hz'.out; omega))
 obtain ⟨W,hW⟩:∃ W,W=((((((w''.setCell ⟨w.heap.size,0,none⟩ (.string ByteArray.empty)).setCell ⟨w.heap.size,1,none⟩ (.string ByteArray.empty)).setCell ⟨w.heap.size,2,none⟩ (.slice none 0 0)).setCell ⟨w.heap.size,3,none⟩ (.slice none 0 0)).setCell ⟨w.heap.size,4,none⟩ (.slice none 0 0)).drew):=⟨_,rfl⟩
 obtain ⟨hk,hk2⟩:=zero_back w'' w.heap.size _ _ _ _ _ q0 q1 q2 q3 q4 W hW
 have hBW:Below w.heap.size w W:=hk2 w hBz.out
 have z0:=hk _ _ q0
 have z1:=hk _ _ q1
 have z2:=hk _ _ q2
 have z3:=hk _ _ q3
 have z4:=hk _ _ q4
 rw [←hW]
 clear hW hk hk2 q0 q1 q2 q3 q4 f0 f1 f2 f3 f4
 go_wp2
 refine bodyPost_ret (v:=.tuple #[.slice none 0 0,zeroD,.int .i64 10]) (by simp [results,Tryz.results33,go_sem,z0,z1,z2,z3,z4]; try rfl) rfl ?_
 exact ⟨rfl,hBW⟩
theorem below_drewN {B n:Nat} {a w:World} (h:Below B a w):Below B a (w.drewN n):=⟨h.os,h.tape,h.output,h.size,h.block⟩
end Lb
end Go.Proofs
namespace Go.Proofs
open Go.RowKit
namespace Lb
def isNum (n:Int):Bool:=decide (-1000000000≤n) && decide (n≤1000000000)
theorem isNumber_c (n:Int) (w:World):Calls Tryz.prog 74 #[.int .i64 n] w fun e w'=>e = .returned (.bool (isNum n))∧w'=w:=by
 by_cases h1 : -1000000000≤n
 · by_cases h2:n≤1000000000
   · have hs:Hid (isNum n=true):=by show isNum n=true; unfold isNum; simp [h1,h2]
     go_enter Tryz.func74,Tryz.ntmps74
     go_wp2
     go_ret
     rw [hs.out]; exact ⟨rfl,rfl⟩
   · have hs:Hid (isNum n=false):=by show isNum n=false; unfold isNum; simp [h2]
     go_enter Tryz.func74,Tryz.ntmps74
     go_wp2
     go_ret
     rw [hs.out]; exact ⟨rfl,rfl⟩
 · have hs:Hid (isNum n=false):=by show isNum n=false; unfold isNum; simp [h1]
   go_enter Tryz.func74,Tryz.ntmps74
   go_wp2
   go_ret
   rw [hs.out]; exact ⟨rfl,rfl⟩
theorem notNum_c (n:Int) (w:World):Calls Tryz.prog 76 #[.int .i64 n] w fun e w'=>e = .returned (.bool (!isNum n))∧w'=w:=by
 have hc:=isNumber_c n w
 go_enter Tryz.func76,Tryz.ntmps76
 go_wp2_with (go_at_call 74; refine hc.mono ?_; rintro e w' ⟨rfl,rfl⟩)
 go_ret
 exact ⟨rfl,rfl⟩
end Lb
end Go.Proofs
namespace Go.Proofs
open Go.RowKit
namespace Lb
def HasI (w:World) (v:Value) (l:List Int):Prop :=
 ∃ p c,v = .slice p l.length c∧(l≠[]→∃ b off,p=some ⟨b,off,none⟩∧∀ i,i < l.length→w.cell? ⟨b,off+i,none⟩=some (.int .i64 (l.getD i 0)))
def badNums (l:List Int):Bool:=l.any fun n=>!isNum n
theorem badNums_true {l:List Int} {i:Nat} (hi:i < l.length) (h:isNum (l.getD i 0)=false):badNums l=true:=by
 unfold badNums
 rw [List.any_eq_true]
 refine ⟨l[i],List.getElem_mem hi,?_⟩
 simp only [List.getD_eq_getElem?_getD,List.getElem?_eq_getElem hi,Option.getD_some] at h
 simp [h]
theorem badNums_false {l:List Int} (h:∀ i,i < l.length→isNum (l.getD i 0)=true):badNums l=false:=by
 unfold badNums
 rw [List.any_eq_false]
 intro x hx
 obtain ⟨i,hi,rfl⟩:=List.mem_iff_getElem.1 hx
 have:=h i hi
 simp only [List.getD_eq_getElem?_getD,List.getElem?_eq_getElem hi,Option.getD_some] at this
 simp [this]
theorem indexNum_c (l:List Int) (v:Value) (w:World) (h:HasI w v l) (hl:l.length≤9223372036854775807) :
 Calls Tryz.prog 127 #[v,.func (.func 76) #[] #[]] w fun e w'=>∃ r:Int,e = .returned (.int .i64 r)∧decide (0≤r)=badNums l∧w'=w:=by
 obtain ⟨p,c,rfl,h⟩:=h
 obtain ⟨n,hn⟩:∃ n,n=l.length:=⟨_,rfl⟩
 rw [←hn] at hl ⊢
 by_cases h0:l = []
 · have hb:Hid (badNums l=false):=by show badNums l=false; rw [h0]; rfl
   have hn0:n=0:=by rw [hn,h0]; rfl
   subst hn0
   clear h h0 hn hl
   go_enter Tryz.func127,Tryz.ntmps127
   go_wp2
   go_loop [8] (fun i=>i = .int .i64 0) (fun _=>0)
   case atStart=>rfl
   case round =>
    subst hrel
    go_wp2
    go_ret
    exact ⟨_,rfl,by rw [hb.out]; rfl,rfl⟩
 · obtain ⟨b,o,rfl,hq⟩:=h h0
   have hn':Hid (n=l.length):=hn
   have hq':Hid (∀ i,i < n→w.cell? ⟨b,o+i,none⟩=some (.int .i64 (l.getD i 0))):=by show ∀ i,_; rw [hn]; exact hq
   clear h h0 hn hq
   go_enter Tryz.func127,Tryz.ntmps127
   go_wp2
   go_loop [8] (fun i=>∃ k:Nat,k≤n∧i = .int .i64 k∧∀ j,j < k→isNum (l.getD j 0)=true) (fun i=>n - (intOf i).toNat)
   case atStart=>exact ⟨0,Nat.zero_le _,rfl,fun j h=>absurd h (Nat.not_lt_zero _)⟩
   case round =>
    obtain ⟨k,hk,rfl,hall⟩:=hrel
    by_cases hkn:k < n
    · have g0:=hq'.out k hkn
      have hc:=notNum_c (l.getD k 0) w
      cases hb:isNum (l.getD k 0) with
      | true =>
       rw [hb] at hc
       obtain ⟨x,hx⟩:∃ x,x=l.getD k 0:=⟨_,rfl⟩
       rw [←hx] at g0 hc
       have hx':Hid (isNum (l.getD k 0)=true):=hb
       clear hb hx
       go_wp2_with (go_at_call 76; refine hc.mono ?_; rintro e w' ⟨rfl,rfl⟩)
       go_round
       case rel =>
        refine ⟨k+1,by omega,by go_num,fun j hj=>?_⟩
        by_cases he:j=k
        · subst he; exact hx'.out
        · exact hall j (by omega)
       case measure=>simp [intOf]; omega
      | false =>
       rw [hb] at hc
       have hx':Hid (badNums l=true):=badNums_true (by rw [←hn'.out]; exact hkn) hb
       obtain ⟨x,hx⟩:∃ x,x=l.getD k 0:=⟨_,rfl⟩
       rw [←hx] at g0 hc
       clear hb hx
       go_wp2_with (go_at_call 76; refine hc.mono ?_; rintro e w' ⟨rfl,rfl⟩)
       go_ret
       exact ⟨_,rfl,by rw [hx'.out]; simp,rfl⟩
    · have hx':Hid (badNums l=false):=badNums_false fun i hi=>hall i (by have:=hn'.out; omega)
      clear hall
      go_wp2
      go_ret
      exact ⟨_,rfl,by rw [hx'.out]; rfl,rfl⟩
theorem anyNum_c (l:List Int) (v:Value) (w:World) (h:HasI w v l) (hl:l.length≤9223372036854775807) :
 Calls Tryz.prog 75 #[v,.func (.func 76) #[] #[]] w fun e w'=>e = .returned (.bool (badNums l))∧w'=w:=by
 have hc:=indexNum_c l v w h hl
 clear h hl
 go_enter Tryz.func75,Tryz.ntmps75
 go_wp2_with (go_at_call 127; refine hc.mono ?_; rintro e w' ⟨r,rfl,hr,rfl⟩)
 go_ret
 rw [←hr]
 exact ⟨by simp,rfl⟩
end Lb
end Go.Proofs
namespace Go.Proofs
open Go.RowKit
namespace Lb
theorem HasI.below {w w':World} {v:Value} {l:List Int} (h:HasI w v l) (hB:Below w.heap.size w w'):HasI w' v l:=by
 obtain ⟨p,c,rfl,h⟩:=h
 exact ⟨p,c,rfl,fun h0=>let ⟨b,o,hp,hq⟩:=h h0; ⟨b,o,hp,fun i hi=>cell_below (hq i hi) hB (cell_lt (hq i hi))⟩⟩
theorem badArg_c (il:Bool) (n:Int) (l:List Int) (v:Value) (w:World) (h:HasI w v l) (hl:l.length≤9223372036854775807) :
 Calls Tryz.prog 73 #[.agg #[.bool il,.int .i64 n,v]] w fun e w'=>e = .returned (.bool (!isNum n || badNums l))∧Below w.heap.size w w':=by
 have hB:Below w.heap.size w (w.alloc (.cells #[.bool il,.int .i64 n,v] 49)):=(Below.refl _ _).alloc (Nat.le_refl _) _
 have h1:=h.below hB
 have hc:=anyNum_c l v _ h1 hl
 have hN:=isNumber_c n (w.alloc (.cells #[.bool il,.int .i64 n,v] 49))
 clear h h1 hl
 cases hb:isNum n with
 | true =>
  rw [hb] at hN
  clear hb
  go_enter Tryz.func73,Tryz.ntmps73
  go_wp2_with (first | (go_at_call 74; refine hN.mono ?_; rintro e w' ⟨rfl,rfl⟩) | (go_at_call 75; refine hc.mono ?_; rintro e w' ⟨rfl,rfl⟩))
  go_ret
  exact ⟨rfl,hB⟩
 | false =>
  rw [hb] at hN
  clear hb
  go_enter Tryz.func73,Tryz.ntmps73
  go_wp2_with (first | (go_at_call 74; refine hN.mono ?_; rintro e w' ⟨rfl,rfl⟩) | (go_at_call 75; refine hc.mono ?_; rintro e w' ⟨rfl,rfl⟩))
  go_ret
  exact ⟨rfl,hB⟩
theorem longArg_c (il:Bool) (n:Int) (l:List Int) (v:Value) (w:World) (h:HasI w v l) (hl:l.length≤9223372036854775807) :
 Calls Tryz.prog 77 #[.agg #[.bool il,.int .i64 n,v]] w fun e w'=>e = .returned (.bool (decide (40 < l.length)))∧Below w.heap.size w w':=by
 have hB:Below w.heap.size w (w.alloc (.cells #[.bool il,.int .i64 n,v] 49)):=(Below.refl _ _).alloc (Nat.le_refl _) _
 obtain ⟨p,c,rfl,_⟩:=h
 obtain ⟨m,hm⟩:∃ m,m=l.length:=⟨_,rfl⟩
 rw [←hm] at hl hB ⊢
 clear hm
 go_enter Tryz.func77,Tryz.ntmps77
 go_wp2
 go_ret
 exact ⟨by simp; omega,hB⟩
end Lb
end Go.Proofs
namespace Go.Proofs
open Go.RowKit
namespace Lb
def intB:ByteArray:= "int".toUTF8
def fitsV (il:Bool) (n:Int) (k:Nat) (ty:ByteArray):Bool:=if il then !(ty.toList==intB.toList) && decide (n=0) else (ty.toList==intB.toList) && decide (k=0)
theorem ret_bool {a b:Bool} (h:a=b):Ending.returned (.bool a)=Ending.returned (.bool b):=by rw [h]
theorem int_eq0 (n:Int):(n==0)=decide (n=0):=by by_cases h:n=0 <;> simp [h]
theorem nat_eq0 (k:Nat):(((k:Nat):Int)==0)=decide (k=0):=by by_cases h:k=0 <;> simp [h]
theorem fits_c (il:Bool) (n:Int) (k c:Nat) (p:Option Addr) (ty:ByteArray) (w:World) (_hl:k≤9223372036854775807) :
 Calls Tryz.prog 71 #[.agg #[.bool il,.int .i64 n,.slice p k c],.string ty] w fun e w'=>e = .returned (.bool (fitsV il n k ty))∧Below w.heap.size w w':=by
 have hB:Below w.heap.size w (w.alloc (.cells #[.bool il,.int .i64 n,.slice p k c] 49)):=(Below.refl _ _).alloc (Nat.le_refl _) _
 have hi:intB.toList = [105,110,116]:=by decide +kernel
 cases il with
 | true =>
  cases hb:(ty.toList == [105,110,116]) with
  | true =>
   have hs:Hid (fitsV true n k ty=false):=by show _=_; unfold fitsV; rw [hi,hb]; rfl
   have hb':(!(ty.toList == [105,110,116]))=false:=by rw [hb]; rfl
   go_enter Tryz.func71,Tryz.ntmps71
   go_wp2
   go_ret
   rw [hs.out]; exact ⟨rfl,hB⟩
  | false =>
   have hs:Hid (fitsV true n k ty=decide (n=0)):=by show _=_; unfold fitsV; rw [hi,hb]; rfl
   have hb':(!(ty.toList == [105,110,116]))=true:=by rw [hb]; rfl
   go_enter Tryz.func71,Tryz.ntmps71
   go_wp2
   go_ret
   rw [hs.out]; exact ⟨ret_bool (int_eq0 n),hB⟩
 | false =>
  cases hb:(ty.toList == [105,110,116]) with
  | true =>
   have hs:Hid (fitsV false n k ty=decide (k=0)):=by show _=_; unfold fitsV; rw [hi,hb]; rfl
   go_enter Tryz.func71,Tryz.ntmps71
   go_wp2
   go_ret
   rw [hs.out]; exact ⟨ret_bool (nat_eq0 k),hB⟩
  | false =>
   have hs:Hid (fitsV false n k ty=false):=by show _=_; unfold fitsV; rw [hi,hb]; rfl
   go_enter Tryz.func71,Tryz.ntmps71
   go_wp2
   go_ret
   rw [hs.out]; exact ⟨rfl,hB⟩
end Lb
end Go.Proofs
namespace Go.Proofs
open Go.RowKit
namespace Lb
structure AArg where
 il:Bool
 n:Int
 l:List Int
 deriving Inhabited
def HasA (w:World) (v:Value) (xs:List AArg):Prop :=
 ∃ p c,v = .slice p xs.length c∧(xs≠[]→∃ b off,p=some ⟨b,off,none⟩∧∀ i,i < xs.length→∃ lv,w.cell? ⟨b,off+i * 3,none⟩=some (.bool (xs.getD i default).il)∧w.cell? ⟨b,off+i * 3+1,none⟩=some (.int .i64 (xs.getD i default).n)∧w.cell? ⟨b,off+i * 3+2,none⟩=some lv∧HasI w lv (xs.getD i default).l∧(xs.getD i default).l.length≤9223372036854775807)
theorem any_true {xs:List AArg} {f:AArg→Bool} {i:Nat} (hi:i < xs.length) (h:f (xs.getD i default)=true):xs.any f=true:=by
 rw [List.any_eq_true]
 refine ⟨xs[i],List.getElem_mem hi,?_⟩
 simpa only [List.getD_eq_getElem?_getD,List.getElem?_eq_getElem hi,Option.getD_some] using h
theorem any_false {xs:List AArg} {f:AArg→Bool} (h:∀ i,i < xs.length→f (xs.getD i default)=false):xs.any f=false:=by
 rw [List.any_eq_false]
 intro x hx
 obtain ⟨i,hi,rfl⟩:=List.mem_iff_getElem.1 hx
 have:=h i hi
 simp only [List.getD_eq_getElem?_getD,List.getElem?_eq_getElem hi,Option.getD_some] at this
 simp [this]
theorem index_bad (xs:List AArg) (v:Value) (w:World) (h:HasA w v xs) (hl:xs.length≤9223372036854775807) :
 Calls Tryz.prog 126 #[v,.func (.func 73) #[] #[]] w fun e w'=>∃ r:Int,e = .returned (.int .i64 r)∧decide (0≤r)=xs.any (fun a=>!isNum a.n || badNums a.l)∧Below w.heap.size w w':=by
 obtain ⟨p,c,rfl,h⟩:=h
 obtain ⟨n,hn⟩:∃ n,n=xs.length:=⟨_,rfl⟩
 rw [←hn] at hl ⊢
 by_cases h0:xs = []
 · have hb:Hid (xs.any (fun a=>!isNum a.n || badNums a.l)=false):=by show xs.any (fun a=>!isNum a.n || badNums a.l)=false; rw [h0]; rfl
   have hn0:n=0:=by rw [hn,h0]; rfl
   subst hn0
   clear h h0 hn hl
   go_enter Tryz.func126,Tryz.ntmps126
   go_wp2
   go_loop [8] (fun i=>i = .int .i64 0) (fun _=>0)
   case atStart=>rfl
   case round =>
    subst hrel
    go_wp2
    go_ret
    exact ⟨_,rfl,by rw [hb.out]; rfl,Below.refl _ _⟩
 · obtain ⟨b,o,rfl,hq⟩:=h h0
   have hn':Hid (n=xs.length):=hn
   rw [←hn] at hq
   have hq':Hid _:=hq
   clear h h0 hn hq
   go_enter Tryz.func126,Tryz.ntmps126
   go_wp2
   go_loopw [8] (fun i wr=>∃ k:Nat,k≤n∧i = .int .i64 k∧(∀ j,j < k→(fun a=>!isNum a.n || badNums a.l) (xs.getD j default)=false)∧Below w.heap.size w wr) (fun i _=>n - (intOf i).toNat)
   case atStart=>exact ⟨0,Nat.zero_le _,rfl,fun j h=>absurd h (Nat.not_lt_zero _),Below.refl _ _⟩
   case round =>
    obtain ⟨k,hk,rfl,hall,hB⟩:=hrel
    by_cases hkn:k < n
    · obtain ⟨lv,g0,g1,g2,hI,hL⟩:=hq'.out k hkn
      have g0:=cell_below g0 hB (cell_lt g0)
      have g1:=cell_below g1 hB (cell_lt g1)
      have g2:=cell_below g2 hB (cell_lt g2)
      have hc:=badArg_c (xs.getD k default).il (xs.getD k default).n (xs.getD k default).l lv wr (hI.below hB) hL
      have hfk:Hid (∃ x,x=(fun a=>!isNum a.n || badNums a.l) (xs.getD k default)):=⟨_,rfl⟩
      obtain ⟨x,hx⟩:=hfk.out
      have hc:Calls Tryz.prog 73 #[.agg #[.bool (xs.getD k default).il,.int .i64 (xs.getD k default).n,lv]] wr fun e w'=>e = .returned (.bool x)∧Below wr.heap.size wr w':=by rw [hx]; exact hc
      obtain ⟨il,hil⟩:∃ il,il=(xs.getD k default).il:=⟨_,rfl⟩
      obtain ⟨m,hm⟩:∃ m,m=(xs.getD k default).n:=⟨_,rfl⟩
      rw [←hil] at g0 hc
      rw [←hm] at g1 hc
      have hx':Hid (x=(fun a=>!isNum a.n || badNums a.l) (xs.getD k default)):=hx
      clear hx hil hm hI hL hfk
      cases x with
      | false =>
       go_wp2_with (go_at_call 73; refine hc.mono ?_; rintro e w' ⟨rfl,hB2⟩)
       have hB3:Below w.heap.size w w':=hB.trans (hB2.mono hB.size)
       go_roundw
       case rel =>
        refine ⟨k+1,by omega,by go_num,fun j hj=>?_,hB3⟩
        by_cases he:j=k
        · subst he; exact hx'.out.symm
        · exact hall j (by omega)
       case measure=>simp [intOf]; omega
      | true =>
       go_wp2_with (go_at_call 73; refine hc.mono ?_; rintro e w' ⟨rfl,hB2⟩)
       have hB3:Below w.heap.size w w':=hB.trans (hB2.mono hB.size)
       go_ret
       exact ⟨_,rfl,by rw [any_true (by rw [←hn'.out]; exact hkn) hx'.out.symm]; simp,hB3⟩
    · have hx':Hid (xs.any (fun a=>!isNum a.n || badNums a.l)=false):=any_false fun i hi=>hall i (by have:=hn'.out; omega)
      clear hall
      go_wp2
      go_ret
      exact ⟨_,rfl,by rw [hx'.out]; rfl,hB⟩
theorem any_bad (xs:List AArg) (v:Value) (w:World) (h:HasA w v xs) (hl:xs.length≤9223372036854775807) :
 Calls Tryz.prog 72 #[v,.func (.func 73) #[] #[]] w fun e w'=>e = .returned (.bool (xs.any (fun a=>!isNum a.n || badNums a.l)))∧Below w.heap.size w w':=by
 have hc:=index_bad xs v w h hl
 clear h hl
 go_enter Tryz.func72,Tryz.ntmps72
 go_wp2_with (go_at_call 126; refine hc.mono ?_; rintro e w' ⟨r,rfl,hr,hB⟩)
 go_ret
 rw [←hr]
 exact ⟨by simp,hB⟩
theorem index_long (xs:List AArg) (v:Value) (w:World) (h:HasA w v xs) (hl:xs.length≤9223372036854775807) :
 Calls Tryz.prog 126 #[v,.func (.func 77) #[] #[]] w fun e w'=>∃ r:Int,e = .returned (.int .i64 r)∧decide (0≤r)=xs.any (fun a=>decide (40 < a.l.length))∧Below w.heap.size w w':=by
 obtain ⟨p,c,rfl,h⟩:=h
 obtain ⟨n,hn⟩:∃ n,n=xs.length:=⟨_,rfl⟩
 rw [←hn] at hl ⊢
 by_cases h0:xs = []
 · have hb:Hid (xs.any (fun a=>decide (40 < a.l.length))=false):=by show xs.any (fun a=>decide (40 < a.l.length))=false; rw [h0]; rfl
   have hn0:n=0:=by rw [hn,h0]; rfl
   subst hn0
   clear h h0 hn hl
   go_enter Tryz.func126,Tryz.ntmps126
   go_wp2
   go_loop [8] (fun i=>i = .int .i64 0) (fun _=>0)
   case atStart=>rfl
   case round =>
    subst hrel
    go_wp2
    go_ret
    exact ⟨_,rfl,by rw [hb.out]; rfl,Below.refl _ _⟩
 · obtain ⟨b,o,rfl,hq⟩:=h h0
   have hn':Hid (n=xs.length):=hn
   rw [←hn] at hq
   have hq':Hid _:=hq
   clear h h0 hn hq
   go_enter Tryz.func126,Tryz.ntmps126
   go_wp2
   go_loopw [8] (fun i wr=>∃ k:Nat,k≤n∧i = .int .i64 k∧(∀ j,j < k→(fun a=>decide (40 < a.l.length)) (xs.getD j default)=false)∧Below w.heap.size w wr) (fun i _=>n - (intOf i).toNat)
   case atStart=>exact ⟨0,Nat.zero_le _,rfl,fun j h=>absurd h (Nat.not_lt_zero _),Below.refl _ _⟩
   case round =>
    obtain ⟨k,hk,rfl,hall,hB⟩:=hrel
    by_cases hkn:k < n
    · obtain ⟨lv,g0,g1,g2,hI,hL⟩:=hq'.out k hkn
      have g0:=cell_below g0 hB (cell_lt g0)
      have g1:=cell_below g1 hB (cell_lt g1)
      have g2:=cell_below g2 hB (cell_lt g2)
      have hc:=longArg_c (xs.getD k default).il (xs.getD k default).n (xs.getD k default).l lv wr (hI.below hB) hL
      have hfk:Hid (∃ x,x=(fun a=>decide (40 < a.l.length)) (xs.getD k default)):=⟨_,rfl⟩
      obtain ⟨x,hx⟩:=hfk.out
      have hc:Calls Tryz.prog 77 #[.agg #[.bool (xs.getD k default).il,.int .i64 (xs.getD k default).n,lv]] wr fun e w'=>e = .returned (.bool x)∧Below wr.heap.size wr w':=by rw [hx]; exact hc
      obtain ⟨il,hil⟩:∃ il,il=(xs.getD k default).il:=⟨_,rfl⟩
      obtain ⟨m,hm⟩:∃ m,m=(xs.getD k default).n:=⟨_,rfl⟩
      rw [←hil] at g0 hc
      rw [←hm] at g1 hc
      have hx':Hid (x=(fun a=>decide (40 < a.l.length)) (xs.getD k default)):=hx
      clear hx hil hm hI hL hfk
      cases x with
      | false =>
       go_wp2_with (go_at_call 77; refine hc.mono ?_; rintro e w' ⟨rfl,hB2⟩)
       have hB3:Below w.heap.size w w':=hB.trans (hB2.mono hB.size)
       go_roundw
       case rel =>
        refine ⟨k+1,by omega,by go_num,fun j hj=>?_,hB3⟩
        by_cases he:j=k
        · subst he; exact hx'.out.symm
        · exact hall j (by omega)
       case measure=>simp [intOf]; omega
      | true =>
       go_wp2_with (go_at_call 77; refine hc.mono ?_; rintro e w' ⟨rfl,hB2⟩)
       have hB3:Below w.heap.size w w':=hB.trans (hB2.mono hB.size)
       go_ret
       exact ⟨_,rfl,by rw [any_true (by rw [←hn'.out]; exact hkn) hx'.out.symm]; simp,hB3⟩
    · have hx':Hid (xs.any (fun a=>decide (40 < a.l.length))=false):=any_false fun i hi=>hall i (by have:=hn'.out; omega)
      clear hall
      go_wp2
      go_ret
      exact ⟨_,rfl,by rw [hx'.out]; rfl,hB⟩
theorem any_long (xs:List AArg) (v:Value) (w:World) (h:HasA w v xs) (hl:xs.length≤9223372036854775807) :
 Calls Tryz.prog 72 #[v,.func (.func 77) #[] #[]] w fun e w'=>e = .returned (.bool (xs.any (fun a=>decide (40 < a.l.length))))∧Below w.heap.size w w':=by
 have hc:=index_long xs v w h hl
 clear h hl
 go_enter Tryz.func72,Tryz.ntmps72
 go_wp2_with (go_at_call 126; refine hc.mono ?_; rintro e w' ⟨r,rfl,hr,hB⟩)
 go_ret
 rw [←hr]
 exact ⟨by simp,hB⟩
end Lb
end Go.Proofs
namespace Go.Proofs
open Go.RowKit
namespace Lb
def longLen (m:Nat):Bool:=(decide (12 < m) && decide (m≤40)) || decide (60 < m)
def fatA (a:AArg):Bool:=longLen a.l.length
def thinV (xs:List AArg):Bool:=!xs.any fatA && decide (xs.length≤6)
theorem thin_c (xs:List AArg) (v:Value) (w:World) (h:HasA w v xs) (hl:xs.length≤9223372036854775807) :
 Calls Tryz.prog 4 #[v] w fun e w'=>e = .returned (.bool (thinV xs))∧w'=w:=by
 obtain ⟨p,c,rfl,h⟩:=h
 obtain ⟨n,hn⟩:∃ n,n=xs.length:=⟨_,rfl⟩
 rw [←hn] at hl ⊢
 by_cases h0:xs = []
 · have hb:Hid (thinV xs=true):=by show thinV xs=true; rw [h0]; rfl
   have hn0:n=0:=by rw [hn,h0]; rfl
   subst hn0
   clear h h0 hn hl
   go_enter Tryz.func4,Tryz.ntmps4
   go_wp2
   go_loop [3] (fun i=>i = .int .i64 0) (fun _=>0)
   case atStart=>rfl
   case round =>
    subst hrel
    go_wp2
    go_ret
    exact ⟨by rw [hb.out]; rfl,rfl⟩
 · obtain ⟨b,o,rfl,hq⟩:=h h0
   have hn':Hid (n=xs.length):=hn
   rw [←hn] at hq
   have hq':Hid _:=hq
   clear h h0 hn hq
   go_enter Tryz.func4,Tryz.ntmps4
   go_wp2
   go_loop [3] (fun i=>∃ k:Nat,k≤n∧i = .int .i64 k∧(∀ j,j < k→fatA (xs.getD j default)=false)) (fun i=>n - (intOf i).toNat)
   case atStart=>exact ⟨0,Nat.zero_le _,rfl,fun j h=>absurd h (Nat.not_lt_zero _)⟩
   case round =>
    obtain ⟨k,hk,rfl,hall⟩:=hrel
    by_cases hkn:k < n
    · obtain ⟨lv,_,_,g2,hI,hL⟩:=hq'.out k hkn
      obtain ⟨p2,c2,rfl,_⟩:=hI
      have hf:Hid (∀ x,longLen (xs.getD k default).l.length=x→fatA (xs.getD k default)=x):=fun x h=>h
      obtain ⟨m,hm⟩:∃ m,m=(xs.getD k default).l.length:=⟨_,rfl⟩
      rw [←hm] at g2 hf hL
      clear hm
      have go:∀ (hx:longLen m=false),Hid (fatA (xs.getD k default)=false):=fun hx=>hf.out _ hx
      have go2:∀ (hx:longLen m=true),Hid (thinV xs=false):=fun hx=>by
       show thinV xs=false
       unfold thinV
       rw [any_true (by rw [←hn'.out]; exact hkn) (hf.out _ hx)]; rfl
      by_cases h12:12 < m
      · by_cases h40:m≤40
        · have hs:=go2 (by unfold longLen; simp; omega)
          clear hf go go2 hall
          go_wp2
          go_ret
          exact ⟨by rw [hs.out]; try rfl,rfl⟩
        · by_cases h60:60 < m
          · have hs:=go2 (by unfold longLen; simp; omega)
            clear hf go go2 hall
            go_wp2
            go_ret
            exact ⟨by rw [hs.out]; try rfl,rfl⟩
          · have hs:=go (by unfold longLen; simp; omega)
            clear hf go go2
            go_wp2
            go_round
            case rel =>
             refine ⟨k+1,by omega,by go_num,fun j hj=>?_⟩
             by_cases he:j=k
             · subst he; exact hs.out
             · exact hall j (by omega)
            case measure=>simp [intOf]; omega
      · have hs:=go (by unfold longLen; simp; omega)
        have h60:¬ 60 < m:=by omega
        clear hf go go2
        go_wp2
        go_round
        case rel =>
         refine ⟨k+1,by omega,by go_num,fun j hj=>?_⟩
         by_cases he:j=k
         · subst he; exact hs.out
         · exact hall j (by omega)
        case measure=>simp [intOf]; omega
    · have hx':Hid (thinV xs=decide (n≤6)):=by
       show thinV xs=_
       unfold thinV
       rw [any_false fun i hi=>hall i (by have:=hn'.out; omega),← hn'.out]; rfl
      clear hall
      go_wp2
      go_ret
      exact ⟨by rw [hx'.out]; simp; omega,rfl⟩
end Lb
end Go.Proofs
namespace Go.Proofs
open Go.RowKit
namespace Lb
def HasS (w:World) (v:Value) (l:List ByteArray):Prop :=
 ∃ p c,v = .slice p l.length c∧(l≠[]→∃ b off,p=some ⟨b,off,none⟩∧∀ i,i < l.length→w.cell? ⟨b,off+i,none⟩=some (.string (l.getD i ByteArray.empty)))
theorem HasS.below {w w':World} {v:Value} {l:List ByteArray} (h:HasS w v l) (hB:Below w.heap.size w w'):HasS w' v l:=by
 obtain ⟨p,c,rfl,h⟩:=h
 exact ⟨p,c,rfl,fun h0=>let ⟨b,o,hp,hq⟩:=h h0; ⟨b,o,hp,fun i hi=>cell_below (hq i hi) hB (cell_lt (hq i hi))⟩⟩
theorem hasS_nil (w:World):HasS w (.slice none 0 0) []:=⟨none,0,rfl,fun h=>absurd rfl h⟩
end Lb
end Go.Proofs
namespace Go.Proofs
open Go.RowKit
namespace Lb
def mk (l:List UInt8):ByteArray:=⟨l.toArray⟩
theorem bytes_ext {a b:ByteArray} (h:a.data.toList=b.data.toList):a=b:=by
 cases a; cases b; exact congrArg _ (Array.ext' h)
def joinB (xs:List ByteArray) (sep:ByteArray):ByteArray:=mk (Lib.join (xs.map (·.data.toList)) sep.data.toList)
theorem joinB_nil (sep:ByteArray):joinB [] sep=ByteArray.empty:=rfl
theorem joinB_first {xs:List ByteArray} (sep:ByteArray) (h:0 < xs.length):joinB (xs.take 1) sep=ByteArray.empty++xs.getD 0 ByteArray.empty:=by
 cases xs with
 | nil=>simp at h
 | cons x r =>
  apply bytes_ext
  show Lib.join [x.data.toList] sep.data.toList=_
  rw [Lib.join_one]
  show _=(ByteArray.empty++x).data.toList
  rw [ByteArray.data_append,Array.toList_append]
  rfl
theorem joinB_next {xs:List ByteArray} (sep:ByteArray) {k:Nat} (hk:0 < k) (h:k < xs.length):joinB (xs.take (k+1)) sep=joinB (xs.take k) sep++sep++xs.getD k ByteArray.empty:=by
 cases xs with
 | nil=>simp at h
 | cons x r =>
  obtain ⟨j,rfl⟩:∃ j,k=j+1:=⟨k - 1,by omega⟩
  apply bytes_ext
  simp only [ByteArray.data_append,Array.toList_append]
  show Lib.join _ _=Lib.join _ _++_++_
  simp only [List.take_succ_cons,List.map_cons,Lib.join_cons,List.map_take]
  have hj:j < r.length:=by simpa using h
  rw [Lib.joinTail_take_succ _ _ j (r[j].data.toList) (by simp [hj])]
  simp [List.getD_eq_getElem?_getD,hj]
theorem size_append (a b:ByteArray):(a++b).size=a.size+b.size:=by
 show (a++b).data.size=_
 rw [ByteArray.data_append,Array.size_append]; rfl
end Lb
end Go.Proofs
namespace Go.Proofs
open Go.RowKit
namespace Lb
def mkD (l:List UInt8):ByteArray:=⟨l.toArray⟩
theorem dec_len {u:Nat} (h:u≤9223372036854775807):(Lib.decDigits u).length≤21:=by
 have:=Lib.itoa_length_le (u:Int) (by omega) (by omega)
 rwa [Lib.itoa_nonneg] at this
end Lb
end Go.Proofs
