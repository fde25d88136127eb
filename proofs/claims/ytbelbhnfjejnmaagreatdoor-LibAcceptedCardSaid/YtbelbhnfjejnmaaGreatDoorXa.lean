/- PROVED HERE: a part (Xa) of the tied card of LibAccepted (floodgatelaw25). CONDITIONS: those of the given row and card alone. -/
import Derived.Test.YtbelbhnfjejnmaaGreatDoorProg
import Derived.WalkKit
import Derived.Deep.QuietTactic
import Derived.BigQuiet
import Derived.RegionTactic
import Derived.ChangeAlike
import Derived.Handy
import Derived.Below
import Derived.Deep.Draws
import Derived.Lib.Hide
namespace Go.Proofs
open Go.RowKit
namespace Lx
theorem cell_lt {w:World} {b o:Nat} {v:Value} (h:w.cell? ⟨b,o,none⟩=some v):b < w.heap.size:=by
 unfold World.cell? at h
 cases hb:w.heap[b]? with
 | none=>rw [hb] at h; simp at h
 | some o=>exact (Array.getElem?_eq_some_iff.1 hb).1
theorem cell_below {w w':World} {b o n:Nat} {v:Value} (h:w.cell? ⟨b,o,none⟩=some v) (hB:Below n w w') (hn:b < n):w'.cell? ⟨b,o,none⟩=some v:=(hB.cell (p:=⟨b,o,none⟩) hn).trans h
theorem cell_alloc {w:World} {b o:Nat} {v:Value} (h:w.cell? ⟨b,o,none⟩=some v) (x:Obj):(w.alloc x).cell? ⟨b,o,none⟩=some v :=
 cell_below h ((Below.refl _ _).alloc (Nat.le_refl _) _) (cell_lt h)
theorem below_drewN {B n:Nat} {a w:World} (h:Below B a w):Below B a (w.drewN n):=⟨h.os,h.tape,h.output,h.size,h.block⟩
def digB (b:Int):Bool:=decide (48≤b) && decide (b≤57)
def letB (b:Int):Bool:=decide (97≤b) && decide (b≤122)
def blkB (b:Int):Bool:=decide (b=32) || decide (b=10)
theorem isDigit_c (b:Int) (w:World):Calls Tryz.prog 279 #[.int .u8 b] w fun e w'=>e = .returned (.bool (digB b))∧w'=w:=by
 by_cases h1:48≤b
 · by_cases h2:b≤57
   · have hs:Hid (digB b=true):=by show digB b=true; unfold digB; simp [h1,h2]
     go_enter Tryz.func279,Tryz.ntmps279
     go_wp2
     go_ret
     rw [hs.out]; exact ⟨rfl,rfl⟩
   · have hs:Hid (digB b=false):=by show digB b=false; unfold digB; simp [h2]
     go_enter Tryz.func279,Tryz.ntmps279
     go_wp2
     go_ret
     rw [hs.out]; exact ⟨rfl,rfl⟩
 · have hs:Hid (digB b=false):=by show digB b=false; unfold digB; simp [h1]
   go_enter Tryz.func279,Tryz.ntmps279
   go_wp2
   go_ret
   rw [hs.out]; exact ⟨rfl,rfl⟩
theorem isLetter_c (b:Int) (w:World):Calls Tryz.prog 277 #[.int .u8 b] w fun e w'=>e = .returned (.bool (letB b))∧w'=w:=by
 by_cases h1:97≤b
 · by_cases h2:b≤122
   · have hs:Hid (letB b=true):=by show letB b=true; unfold letB; simp [h1,h2]
     go_enter Tryz.func277,Tryz.ntmps277
     go_wp2
     go_ret
     rw [hs.out]; exact ⟨rfl,rfl⟩
   · have hs:Hid (letB b=false):=by show letB b=false; unfold letB; simp [h2]
     go_enter Tryz.func277,Tryz.ntmps277
     go_wp2
     go_ret
     rw [hs.out]; exact ⟨rfl,rfl⟩
 · have hs:Hid (letB b=false):=by show letB b=false; unfold letB; simp [h1]
   go_enter Tryz.func277,Tryz.ntmps277
   go_wp2
   go_ret
   rw [hs.out]; exact ⟨rfl,rfl⟩
theorem isBlank_c (b:Int) (w:World):Calls Tryz.prog 275 #[.int .u8 b] w fun e w'=>e = .returned (.bool (blkB b))∧w'=w:=by
 by_cases h1:b=32
 · subst h1
   go_enter Tryz.func275,Tryz.ntmps275
   go_wp2
   go_ret
   exact ⟨rfl,rfl⟩
 · by_cases h2:b=10
   · subst h2
     go_enter Tryz.func275,Tryz.ntmps275
     go_wp2
     go_ret
     exact ⟨rfl,rfl⟩
   · have hs:Hid (blkB b=false):=by show blkB b=false; unfold blkB; simp [h1,h2]
     have e1:(b==32)=false:=by simpa using h1
     have e2:(b==10)=false:=by simpa using h2
     clear h1 h2
     go_enter Tryz.func275,Tryz.ntmps275
     go_wp2
     go_ret
     rw [hs.out]; exact ⟨rfl,rfl⟩
theorem isGap_c (b:Int) (hb:b≠126) (w:World):Calls Tryz.prog 274 #[.int .u8 b] w fun e w'=>e = .returned (.bool (blkB b))∧w'=w:=by
 have hc:=isBlank_c b w
 have e1:(b==126)=false:=by simpa using hb
 clear hb
 cases h:blkB b with
 | true =>
  rw [h] at hc
  clear h
  go_enter Tryz.func274,Tryz.ntmps274
  go_wp2_with (go_at_call 275; refine hc.mono ?_; rintro e w' ⟨rfl,rfl⟩)
  go_ret
  exact ⟨rfl,rfl⟩
 | false =>
  rw [h] at hc
  clear h
  go_enter Tryz.func274,Tryz.ntmps274
  go_wp2_with (go_at_call 275; refine hc.mono ?_; rintro e w' ⟨rfl,rfl⟩)
  go_ret
  exact ⟨rfl,rfl⟩
end Lx
end Go.Proofs
namespace Go.Proofs
open Go.RowKit
namespace Lx
def by_ (s:ByteArray) (i:Nat):Int:=((s.data.toList.getD i 0).toNat:Int)
theorem by_get (s:ByteArray) (i:Nat) (h:i < s.size):by_ s i=(s[i].toNat:Int):=by
 unfold by_
 rw [List.getD_eq_getElem?_getD,List.getElem?_eq_getElem (by simpa using h)]; rfl
theorem gap_c (s:ByteArray) (a0 to_:Nat) (h1:a0≤to_) (h2:to_≤s.size) (hs:s.size≤1000000) (hb:∀ i,a0≤i→i < to_→blkB (by_ s i)=true) (he:to_ < s.size→blkB (by_ s to_)=false∧by_ s to_≠126) (w:World) :
 Calls Tryz.prog 203 #[.string s,.int .i64 a0] w fun e w'=>e = .returned (.int .i64 to_)∧w'=w:=by
 have hb':Hid (∀ i,a0≤i→i < to_→blkB (by_ s i)=true):=hb
 have he':Hid (to_ < s.size→blkB (by_ s to_)=false∧by_ s to_≠126):=he
 clear hb he
 go_enter Tryz.func203,Tryz.ntmps203
 go_wp2
 go_loop [1] (fun i=>∃ k:Nat,a0≤k∧k≤to_∧i = .int .i64 k) (fun i=>to_ - (intOf i).toNat)
 case atStart=>exact ⟨a0,Nat.le_refl _,h1,rfl⟩
 case round =>
  obtain ⟨k,hk1,hk2,rfl⟩:=hrel
  by_cases hk:k < to_
  · have hks:k < s.size:=by omega
    have hbk:=hb'.out k hk1 hk
    rw [by_get s k hks] at hbk
    have hne:(s[k].toNat:Int)≠126:=fun e=>by rw [e] at hbk; revert hbk; decide
    have hg:=isGap_c _ hne w
    have hc:=isBlank_c (s[k].toNat:Int) w
    rw [hbk] at hg hc
    clear hbk hne
    go_wp2_with (first | (go_at_call 274; refine hg.mono ?_; rintro e w' ⟨rfl,rfl⟩) | (go_at_call 275; refine hc.mono ?_; rintro e w' ⟨rfl,rfl⟩))
    all_goals
     go_round
     case rel=>exact ⟨k+1,by omega,by omega,by go_num⟩
     case measure=>simp [intOf]; omega
  · obtain rfl:k=to_:=by omega
    by_cases hks:k < s.size
    · obtain ⟨e1,e2⟩:=he'.out hks
      rw [by_get s k hks] at e1 e2
      have hg:=isGap_c _ e2 w
      rw [e1] at hg
      clear e1 e2
      go_wp2_with (go_at_call 274; refine hg.mono ?_; rintro e w' ⟨rfl,rfl⟩)
      go_ret
      exact ⟨rfl,rfl⟩
    · go_wp2
      go_ret
      exact ⟨rfl,rfl⟩
theorem check_c (s:ByteArray) (hs:s.size≤2500) (hb:∀ i,i < s.size→by_ s i=10∨(32≤by_ s i∧by_ s i≤126)) (w:World) :
 Calls Tryz.prog 132 #[.string s] w fun e w'=>e = .returned (.tuple #[.int .i64 0,.int .i64 0])∧w'=w:=by
 have hb':Hid (∀ i,i < s.size→by_ s i=10∨(32≤by_ s i∧by_ s i≤126)):=hb
 clear hb
 go_enter Tryz.func132,Tryz.ntmps132
 go_wp2
 go_loop [11] (fun i=>∃ k:Nat,k≤s.size∧i = .int .i64 k) (fun i=>s.size - (intOf i).toNat)
 case atStart=>exact ⟨0,Nat.zero_le _,rfl⟩
 case round =>
  obtain ⟨k,hk,rfl⟩:=hrel
  by_cases hks:k < s.size
  · have hbk:=hb'.out k hks
    rw [by_get s k hks] at hbk
    by_cases h10:(s[k].toNat:Int)=10
    · have e1:((s[k].toNat:Int)==10)=true:=by simpa using h10
      have e2:((s[k].toNat:Int) != 10)=false:=by rw [bne,e1]; rfl
      clear hbk h10
      go_wp2
      all_goals
       go_round
       case rel=>exact ⟨k+1,by omega,by go_num⟩
       case measure=>simp [intOf]; omega
    · have h32:=(hbk.resolve_left h10).1
      have h126:=(hbk.resolve_left h10).2
      have e1:((s[k].toNat:Int)==10)=false:=by simpa using h10
      have e2:((s[k].toNat:Int) != 10)=true:=by rw [bne,e1]; rfl
      clear hbk h10
      go_wp2
      all_goals
       go_round
       case rel=>exact ⟨k+1,by omega,by go_num⟩
       case measure=>simp [intOf]; omega
  · go_wp2
    go_ret2
    exact ⟨rfl,rfl⟩
end Lx
end Go.Proofs
namespace Go.Proofs
open Go.RowKit
namespace Lx
theorem run1_let {s:ByteArray} {b1 o1 b2 o2 k:Nat} {w:World} (h1:w.cell? ⟨b1,o1,none⟩=some (.string s)) (h2:w.cell? ⟨b2,o2,none⟩=some (.int .i64 k)) (hk:k < s.size) :
 Calls Tryz.prog 367 #[.func (.func 277) #[] #[],.pointer (some ⟨b1,o1,none⟩),.pointer (some ⟨b2,o2,none⟩)] w fun e w'=>e = .returned (.bool (letB (by_ s k)))∧w'=w:=by
 have hc:=isLetter_c (s[k].toNat:Int) w
 rw [by_get s k hk]
 go_enter Tryz.func367,Tryz.ntmps367
 go_wp2_with (go_at_call 277; refine hc.mono ?_; rintro e w' ⟨rfl,rfl⟩)
 go_ret
 exact ⟨rfl,rfl⟩
theorem run1_dig {s:ByteArray} {b1 o1 b2 o2 k:Nat} {w:World} (h1:w.cell? ⟨b1,o1,none⟩=some (.string s)) (h2:w.cell? ⟨b2,o2,none⟩=some (.int .i64 k)) (hk:k < s.size) :
 Calls Tryz.prog 367 #[.func (.func 279) #[] #[],.pointer (some ⟨b1,o1,none⟩),.pointer (some ⟨b2,o2,none⟩)] w fun e w'=>e = .returned (.bool (digB (by_ s k)))∧w'=w:=by
 have hc:=isDigit_c (s[k].toNat:Int) w
 rw [by_get s k hk]
 go_enter Tryz.func367,Tryz.ntmps367
 go_wp2_with (go_at_call 279; refine hc.mono ?_; rintro e w' ⟨rfl,rfl⟩)
 go_ret
 exact ⟨rfl,rfl⟩
end Lx
end Go.Proofs
namespace Go.Proofs
open Go.RowKit
namespace Lx
theorem idx_word {s:ByteArray} {b o b1 o1 b2 o2 k c:Nat} {w:World} (h1:w.cell? ⟨b1,o1,none⟩=some (.string s)) (h2:w.cell? ⟨b2,o2,none⟩=some (.int .i64 k)) (hk:k < s.size)
 (g0:w.cell? ⟨b,o,none⟩=some (.func (.func 277) #[] #[])) (g1:w.cell? ⟨b,o+1,none⟩=some (.func (.func 279) #[] #[])) :
 Calls Tryz.prog 487 #[.slice (some ⟨b,o,none⟩) 2 c,.func (.func 367) #[] #[.pointer (some ⟨b1,o1,none⟩),.pointer (some ⟨b2,o2,none⟩)]] w fun e w'=>∃ r:Int,e = .returned (.int .i64 r)∧decide (0≤r)=(letB (by_ s k) || digB (by_ s k))∧w'=w:=by
 have hl:=run1_let h1 h2 hk
 have hd:=run1_dig h1 h2 hk
 generalize letB (by_ s k)=L at *
 generalize digB (by_ s k)=D at *
 have G0:Hid _:=g0
 have G1:Hid _:=g1
 clear h1 h2 hk g0 g1
 go_enter Tryz.func487,Tryz.ntmps487
 go_wp2
 go_loop [8] (fun i=>∃ q:Nat,q≤2∧i = .int .i64 q∧(1≤q→L=false)∧(2≤q→D=false)) (fun i=>2 - (intOf i).toNat)
 case atStart=>exact ⟨0,Nat.zero_le _,rfl,fun h=>absurd h (by omega),fun h=>absurd h (by omega)⟩
 case round =>
  obtain ⟨q,hq,rfl,hL,hD⟩:=hrel
  rcases (by omega:q=0∨q=1∨q=2) with rfl | rfl | rfl
  · have g0:=G0.out
    have hL':Hid _:=hL
    have hD':Hid _:=hD
    clear hL hD
    cases L with
    | true =>
     go_wp2_with (go_at_call 367; refine hl.mono ?_; rintro e w' ⟨rfl,rfl⟩)
     go_ret
     exact ⟨_,rfl,rfl,rfl⟩
    | false =>
     go_wp2_with (go_at_call 367; refine hl.mono ?_; rintro e w' ⟨rfl,rfl⟩)
     go_round
     case rel=>exact ⟨1,by omega,rfl,fun _=>trivial,fun h=>absurd h (by omega)⟩
     case measure=>simp [intOf]
  · have g1:=G1.out
    have hL2:Hid (L=false):=hL (by omega)
    clear hL hD
    cases D with
    | true =>
     go_wp2_with (go_at_call 367; refine hd.mono ?_; rintro e w' ⟨rfl,rfl⟩)
     go_ret
     exact ⟨_,rfl,by simp,rfl⟩
    | false =>
     go_wp2_with (go_at_call 367; refine hd.mono ?_; rintro e w' ⟨rfl,rfl⟩)
     go_round
     case rel=>exact ⟨2,by omega,rfl,fun _=>hL2.out,fun _=>trivial⟩
     case measure=>simp [intOf]
  · have hL2:Hid (L=false):=hL (by omega)
    have hD2:Hid (D=false):=hD (by omega)
    clear hL hD
    go_wp2
    go_ret
    exact ⟨_,rfl,by rw [hL2.out,hD2.out]; rfl,rfl⟩
theorem idx_dig {s:ByteArray} {b o b1 o1 b2 o2 k c:Nat} {w:World} (h1:w.cell? ⟨b1,o1,none⟩=some (.string s)) (h2:w.cell? ⟨b2,o2,none⟩=some (.int .i64 k)) (hk:k < s.size)
 (g0:w.cell? ⟨b,o,none⟩=some (.func (.func 279) #[] #[])) :
 Calls Tryz.prog 487 #[.slice (some ⟨b,o,none⟩) 1 c,.func (.func 367) #[] #[.pointer (some ⟨b1,o1,none⟩),.pointer (some ⟨b2,o2,none⟩)]] w fun e w'=>∃ r:Int,e = .returned (.int .i64 r)∧decide (0≤r)=digB (by_ s k)∧w'=w:=by
 have hd:=run1_dig h1 h2 hk
 generalize digB (by_ s k)=D at *
 have G0:Hid _:=g0
 clear h1 h2 hk g0
 go_enter Tryz.func487,Tryz.ntmps487
 go_wp2
 go_loop [8] (fun i=>∃ q:Nat,q≤1∧i = .int .i64 q∧(1≤q→D=false)) (fun i=>1 - (intOf i).toNat)
 case atStart=>exact ⟨0,Nat.zero_le _,rfl,fun h=>absurd h (by omega)⟩
 case round =>
  obtain ⟨q,hq,rfl,hD⟩:=hrel
  rcases (by omega:q=0∨q=1) with rfl | rfl
  · have g0:=G0.out
    clear hD
    cases D with
    | true =>
     go_wp2_with (go_at_call 367; refine hd.mono ?_; rintro e w' ⟨rfl,rfl⟩)
     go_ret
     exact ⟨_,rfl,by simp,rfl⟩
    | false =>
     go_wp2_with (go_at_call 367; refine hd.mono ?_; rintro e w' ⟨rfl,rfl⟩)
     go_round
     case rel=>exact ⟨1,by omega,rfl,fun _=>trivial⟩
     case measure=>simp [intOf]
  · have hD2:Hid (D=false):=hD (by omega)
    clear hD
    go_wp2
    go_ret
    exact ⟨_,rfl,by rw [hD2.out]; rfl,rfl⟩
theorem none_of {f:Value} {x:Value} {B:Bool} {w:World} (h:Calls Tryz.prog 487 #[x,f] w fun e w'=>∃ r:Int,e = .returned (.int .i64 r)∧decide (0≤r)=B∧w'=w) :
 Calls Tryz.prog 366 #[x,f] w fun e w'=>e = .returned (.bool (!B))∧w'=w:=by
 have hc:Calls Tryz.prog 439 #[x,f] w fun e w'=>e = .returned (.bool B)∧w'=w:=by
  go_enter Tryz.func439,Tryz.ntmps439
  go_wp2_with (go_at_call 487; refine h.mono ?_; rintro e w' ⟨r,rfl,hr,rfl⟩)
  go_ret
  exact ⟨by rw [←hr]; rfl,rfl⟩
 clear h
 go_enter Tryz.func366,Tryz.ntmps366
 go_wp2_with (go_at_call 439; refine hc.mono ?_; rintro e w' ⟨rfl,rfl⟩)
 go_ret
 exact ⟨rfl,rfl⟩
end Lx
end Go.Proofs
namespace Go.Proofs
open Go.RowKit
namespace Lx
theorem cells_new (w:World) (x:Obj):(w.alloc x).heap[w.heap.size]? = some x:=heap_alloc_new w x
theorem size_new (w:World) (x:Obj):(w.alloc x).heap.size=w.heap.size+1:=World.size_alloc w x
theorem cell_of {w:World} {b i:Nat} {cs:Array Value} {t:TypeId} {fz:Nat × Nat} (h:w.heap[b]? = some (.cells cs t fz)):w.cell? ⟨b,i,none⟩=cs[i]?:=by
 unfold World.cell?
 simp [h]
theorem froz_of {w:World} {b i:Nat} {cs:Array Value} {t:TypeId} (h:w.heap[b]? = some (.cells cs t (0,0))):w.frozen? ⟨b,i,none⟩=false:=by
 unfold World.frozen?
 simp [h]
def RunAt (w0:World) (s:ByteArray) (k:Nat) (w:World):Prop:=Below w0.heap.size w0 w∧w.heap[w0.heap.size]? = some (.cells #[.string s] 9 (0,0))∧w.heap[w0.heap.size+1]? = some (.cells #[.int .i64 k] 3 (0,0))
theorem RunAt.start (w:World) (s:ByteArray) (k:Nat):RunAt w s k ((w.alloc (.cells #[.string s] 9)).alloc (.cells #[.int .i64 k] 3)):=by
 have e:(w.alloc (.cells #[.string s] 9)).heap.size=w.heap.size+1:=size_new _ _
 refine ⟨((Below.refl _ _).alloc (Nat.le_refl _) _).alloc (by rw [e]; omega) _,?_,?_⟩
 · rw [Below.heap_alloc _ _ _ (by rw [e]; omega)]; exact cells_new _ _
 · rw [←e]; exact cells_new _ _
theorem RunAt.next {w0 w:World} {s:ByteArray} {k:Nat} (h:RunAt w0 s k w):RunAt w0 s (k+1) (w.setCell ⟨w0.heap.size+1,0,none⟩ (.int .i64 ((k:Int)+1))):=by
 obtain ⟨h1,h2,h3⟩:=h
 refine ⟨h1.setCell (by show _≤w0.heap.size+1; omega) _,?_,?_⟩
 · rw [Below.heap_setCell _ _ _ _ (by show w0.heap.size≠w0.heap.size+1; omega)]; exact h2
 · rw [heap_setCell_same w _ 0 _ _ _ h3]; rfl
set_option maxRecDepth 100000 in
theorem run_word {s:ByteArray} {a0 to_ b o c:Nat} {w:World} (h1:a0≤to_) (h2:to_≤s.size) (hs:s.size≤1000000) (hb:∀ i,a0≤i→i < to_→(letB (by_ s i) || digB (by_ s i))=true) (he:to_ < s.size→(letB (by_ s to_) || digB (by_ s to_))=false)
 (g0:w.cell? ⟨b,o,none⟩=some (.func (.func 277) #[] #[])) (g1:w.cell? ⟨b,o+1,none⟩=some (.func (.func 279) #[] #[])) :
 Calls Tryz.prog 278 #[.string s,.int .i64 a0,.slice (some ⟨b,o,none⟩) 2 c] w fun e w'=>e = .returned (.int .i64 to_)∧Below w.heap.size w w':=by
 have hb':Hid _:=hb
 have he':Hid _:=he
 have G0:Hid _:=g0
 have G1:Hid _:=g1
 have hst:=RunAt.start w s a0
 clear hb he g0 g1
 go_enter Tryz.func278,Tryz.ntmps278
 go_wp2
 go_loopw [7] (fun _ wr=>∃ k:Nat,a0≤k∧k≤to_∧RunAt w s k wr) (fun _ wr=>to_ - (intOf ((wr.cell? ⟨w.heap.size+1,0,none⟩).getD undef)).toNat)
 case atStart=>exact ⟨a0,Nat.le_refl _,h1,hst⟩
 case round =>
  obtain ⟨k,hk1,hk2,hR⟩:=hrel
  have hR':=hR
  obtain ⟨hB,r1,r2⟩:=hR'
  have x1:=cell_of (i:=0) r1
  have x2:=cell_of (i:=0) r2
  have x1:wr.cell? ⟨w.heap.size,0,none⟩=some (.string s):=x1
  have x2:wr.cell? ⟨w.heap.size+1,0,none⟩=some (.int .i64 k):=x2
  have f2:=froz_of (i:=0) r2
  have q0:=cell_below G0.out hB (cell_lt G0.out)
  have q1:=cell_below G1.out hB (cell_lt G1.out)
  have HR:Hid (RunAt w s k wr):=hR
  have y2:(wr.setCell ⟨w.heap.size+1,0,none⟩ (.int .i64 ((k:Int)+1))).cell? ⟨w.heap.size+1,0,none⟩=some (.int .i64 ((k:Int)+1)):=cell_of (i:=0) (RunAt.next hR).2.2
  have Y2:Hid _:=y2
  have X2:Hid _:=x2
  clear y2
  clear hR r1 r2
  by_cases hks:k < s.size
  · have hi:=none_of (idx_word (c:=c) x1 x2 hks q0 q1)
    clear q0 q1
    by_cases hk:k < to_
    · have e:=hb'.out k hk1 hk
      rw [e] at hi
      clear e
      go_wp2_with (go_at_call 366; refine hi.mono ?_; rintro e w' ⟨rfl,rfl⟩)
      go_roundw
      case rel=>exact ⟨k+1,by omega,by omega,RunAt.next HR.out⟩
      case measure=>rw [Y2.out,X2.out]; simp [intOf]; omega
    · obtain rfl:k=to_:=by omega
      have e:=he'.out hks
      rw [e] at hi
      clear e
      go_wp2_with (go_at_call 366; refine hi.mono ?_; rintro e w' ⟨rfl,rfl⟩)
      go_ret
      exact ⟨rfl,hB⟩
  · obtain rfl:k=to_:=by omega
    clear q0 q1
    go_wp2
    go_ret
    exact ⟨rfl,hB⟩
set_option maxRecDepth 100000 in
theorem run_dig {s:ByteArray} {a0 to_ b o c:Nat} {w:World} (h1:a0≤to_) (h2:to_≤s.size) (hs:s.size≤1000000) (hb:∀ i,a0≤i→i < to_→digB (by_ s i)=true) (he:to_ < s.size→digB (by_ s to_)=false)
 (g0:w.cell? ⟨b,o,none⟩=some (.func (.func 279) #[] #[])) :
 Calls Tryz.prog 278 #[.string s,.int .i64 a0,.slice (some ⟨b,o,none⟩) 1 c] w fun e w'=>e = .returned (.int .i64 to_)∧Below w.heap.size w w':=by
 have hb':Hid _:=hb
 have he':Hid _:=he
 have G0:Hid _:=g0
 have hst:=RunAt.start w s a0
 clear hb he g0
 go_enter Tryz.func278,Tryz.ntmps278
 go_wp2
 go_loopw [7] (fun _ wr=>∃ k:Nat,a0≤k∧k≤to_∧RunAt w s k wr) (fun _ wr=>to_ - (intOf ((wr.cell? ⟨w.heap.size+1,0,none⟩).getD undef)).toNat)
 case atStart=>exact ⟨a0,Nat.le_refl _,h1,hst⟩
 case round =>
  obtain ⟨k,hk1,hk2,hR⟩:=hrel
  have hR':=hR
  obtain ⟨hB,r1,r2⟩:=hR'
  have x1:=cell_of (i:=0) r1
  have x2:=cell_of (i:=0) r2
  have x1:wr.cell? ⟨w.heap.size,0,none⟩=some (.string s):=x1
  have x2:wr.cell? ⟨w.heap.size+1,0,none⟩=some (.int .i64 k):=x2
  have f2:=froz_of (i:=0) r2
  have q0:=cell_below G0.out hB (cell_lt G0.out)
  have HR:Hid (RunAt w s k wr):=hR
  have y2:(wr.setCell ⟨w.heap.size+1,0,none⟩ (.int .i64 ((k:Int)+1))).cell? ⟨w.heap.size+1,0,none⟩=some (.int .i64 ((k:Int)+1)):=cell_of (i:=0) (RunAt.next hR).2.2
  have Y2:Hid _:=y2
  have X2:Hid _:=x2
  clear y2
  clear hR r1 r2
  by_cases hks:k < s.size
  · have hi:=none_of (idx_dig (c:=c) x1 x2 hks q0)
    clear q0
    by_cases hk:k < to_
    · have e:=hb'.out k hk1 hk
      rw [e] at hi
      clear e
      go_wp2_with (go_at_call 366; refine hi.mono ?_; rintro e w' ⟨rfl,rfl⟩)
      go_roundw
      case rel=>exact ⟨k+1,by omega,by omega,RunAt.next HR.out⟩
      case measure=>rw [Y2.out,X2.out]; simp [intOf]; omega
    · obtain rfl:k=to_:=by omega
      have e:=he'.out hks
      rw [e] at hi
      clear e
      go_wp2_with (go_at_call 366; refine hi.mono ?_; rintro e w' ⟨rfl,rfl⟩)
      go_ret
      exact ⟨rfl,hB⟩
  · obtain rfl:k=to_:=by omega
    clear q0
    go_wp2
    go_ret
    exact ⟨rfl,hB⟩
end Lx
end Go.Proofs
