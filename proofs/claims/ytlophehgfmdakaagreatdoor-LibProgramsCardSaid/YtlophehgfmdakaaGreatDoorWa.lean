/- PROVED HERE: a part (Wa) of the tied card of LibPrograms (floodgatelaw25): the call returns true and its argument reads as before. CONDITIONS: those of the given row and card alone. -/
import Derived.Test.YtlophehgfmdakaaGreatDoorWk
import Derived.Lib.ItoaMem
import Derived.Lib.ItoaLen
import Derived.Lib.Join
namespace Go.Proofs
open Go.RowKit
namespace Lb
def isNum (n:Int):Bool:=decide (-1000000000≤n) && decide (n≤1000000000)
theorem isNumber_c (n:Int) (w:World):Calls Tryz.prog 52 #[.int .i64 n] w fun e w'=>e = .returned (.bool (isNum n))∧w'=w:=by
 by_cases h1 : -1000000000≤n
 · by_cases h2:n≤1000000000
   · have hs:Hid (isNum n=true):=by show isNum n=true; unfold isNum; simp [h1,h2]
     go_enter Tryz.func52,Tryz.ntmps52
     go_wp2
     go_ret
     rw [hs.out]; exact ⟨rfl,rfl⟩
   · have hs:Hid (isNum n=false):=by show isNum n=false; unfold isNum; simp [h2]
     go_enter Tryz.func52,Tryz.ntmps52
     go_wp2
     go_ret
     rw [hs.out]; exact ⟨rfl,rfl⟩
 · have hs:Hid (isNum n=false):=by show isNum n=false; unfold isNum; simp [h1]
   go_enter Tryz.func52,Tryz.ntmps52
   go_wp2
   go_ret
   rw [hs.out]; exact ⟨rfl,rfl⟩
theorem notNum_c (n:Int) (w:World):Calls Tryz.prog 54 #[.int .i64 n] w fun e w'=>e = .returned (.bool (!isNum n))∧w'=w:=by
 have hc:=isNumber_c n w
 go_enter Tryz.func54,Tryz.ntmps54
 go_wp2_with (go_at_call 52; refine hc.mono ?_; rintro e w' ⟨rfl,rfl⟩)
 go_ret
 exact ⟨rfl,rfl⟩
end Lb
end Go.Proofs
namespace Go.Proofs
open Go.RowKit
namespace Lb
def HasI (w:World) (v:Value) (l:List Int):Prop :=
 ∃ p c,v = .slice p l.length c∧(l≠[]→∃ b off,p=some ⟨b,off,none⟩∧∀ i,i < l.length→w.cell? ⟨b,off+i,none⟩=some (.int .i64 (l.getD i 0)))
def badNums (l:List Int):Bool:=l.any fun n=>!isNum n
theorem badNums_true {l:List Int} {i:Nat} (hi:i < l.length) (h:isNum (l.getD i 0)=false):badNums l=true:=by
 unfold badNums
 rw [List.any_eq_true]
 refine ⟨l[i],List.getElem_mem hi,?_⟩
 simp only [List.getD_eq_getElem?_getD,List.getElem?_eq_getElem hi,Option.getD_some] at h
 simp [h]
theorem badNums_false {l:List Int} (h:∀ i,i < l.length→isNum (l.getD i 0)=true):badNums l=false:=by
 unfold badNums
 rw [List.any_eq_false]
 intro x hx
 obtain ⟨i,hi,rfl⟩:=List.mem_iff_getElem.1 hx
 have:=h i hi
 simp only [List.getD_eq_getElem?_getD,List.getElem?_eq_getElem hi,Option.getD_some] at this
 simp [this]
theorem indexNum_c (l:List Int) (v:Value) (w:World) (h:HasI w v l) (hl:l.length≤9223372036854775807) :
 Calls Tryz.prog 81 #[v,.func (.func 54) #[] #[]] w fun e w'=>∃ r:Int,e = .returned (.int .i64 r)∧decide (0≤r)=badNums l∧w'=w:=by
 obtain ⟨p,c,rfl,h⟩:=h
 obtain ⟨n,hn⟩:∃ n,n=l.length:=⟨_,rfl⟩
 rw [←hn] at hl ⊢
 by_cases h0:l = []
 · have hb:Hid (badNums l=false):=by show badNums l=false; rw [h0]; rfl
   have hn0:n=0:=by rw [hn,h0]; rfl
   subst hn0
   clear h h0 hn hl
   go_enter Tryz.func81,Tryz.ntmps81
   go_wp2
   go_loop [8] (fun i=>i = .int .i64 0) (fun _=>0)
   case atStart=>rfl
   case round =>
    subst hrel
    go_wp2
    go_ret
    exact ⟨_,rfl,by rw [hb.out]; rfl,rfl⟩
 · obtain ⟨b,o,rfl,hq⟩:=h h0
   have hn':Hid (n=l.length):=hn
   have hq':Hid (∀ i,i < n→w.cell? ⟨b,o+i,none⟩=some (.int .i64 (l.getD i 0))):=by show ∀ i,_; rw [hn]; exact hq
   clear h h0 hn hq
   go_enter Tryz.func81,Tryz.ntmps81
   go_wp2
   go_loop [8] (fun i=>∃ k:Nat,k≤n∧i = .int .i64 k∧∀ j,j < k→isNum (l.getD j 0)=true) (fun i=>n - (intOf i).toNat)
   case atStart=>exact ⟨0,Nat.zero_le _,rfl,fun j h=>absurd h (Nat.not_lt_zero _)⟩
   case round =>
    obtain ⟨k,hk,rfl,hall⟩:=hrel
    by_cases hkn:k < n
    · have g0:=hq'.out k hkn
      have hc:=notNum_c (l.getD k 0) w
      cases hb:isNum (l.getD k 0) with
      | true =>
       rw [hb] at hc
       obtain ⟨x,hx⟩:∃ x,x=l.getD k 0:=⟨_,rfl⟩
       rw [←hx] at g0 hc
       have hx':Hid (isNum (l.getD k 0)=true):=hb
       clear hb hx
       go_wp2_with (go_at_call 54; refine hc.mono ?_; rintro e w' ⟨rfl,rfl⟩)
       go_round
       case rel =>
        refine ⟨k+1,by omega,by go_num,fun j hj=>?_⟩
        by_cases he:j=k
        · subst he; exact hx'.out
        · exact hall j (by omega)
       case measure=>simp [intOf]; omega
      | false =>
       rw [hb] at hc
       have hx':Hid (badNums l=true):=badNums_true (by rw [←hn'.out]; exact hkn) hb
       obtain ⟨x,hx⟩:∃ x,x=l.getD k 0:=⟨_,rfl⟩
       rw [←hx] at g0 hc
       clear hb hx
       go_wp2_with (go_at_call 54; refine hc.mono ?_; rintro e w' ⟨rfl,rfl⟩)
       go_ret
       exact ⟨_,rfl,by rw [hx'.out]; simp,rfl⟩
    · have hx':Hid (badNums l=false):=badNums_false fun i hi=>hall i (by have:=hn'.out; omega)
      clear hall
      go_wp2
      go_ret
      exact ⟨_,rfl,by rw [hx'.out]; rfl,rfl⟩
theorem anyNum_c (l:List Int) (v:Value) (w:World) (h:HasI w v l) (hl:l.length≤9223372036854775807) :
 Calls Tryz.prog 53 #[v,.func (.func 54) #[] #[]] w fun e w'=>e = .returned (.bool (badNums l))∧w'=w:=by
 have hc:=indexNum_c l v w h hl
 clear h hl
 go_enter Tryz.func53,Tryz.ntmps53
 go_wp2_with (go_at_call 81; refine hc.mono ?_; rintro e w' ⟨r,rfl,hr,rfl⟩)
 go_ret
 rw [←hr]
 exact ⟨by simp,rfl⟩
end Lb
end Go.Proofs
namespace Go.Proofs
open Go.RowKit
namespace Lb
theorem HasI.below {w w':World} {v:Value} {l:List Int} (h:HasI w v l) (hB:Below w.heap.size w w'):HasI w' v l:=by
 obtain ⟨p,c,rfl,h⟩:=h
 exact ⟨p,c,rfl,fun h0=>let ⟨b,o,hp,hq⟩:=h h0; ⟨b,o,hp,fun i hi=>cell_below (hq i hi) hB (cell_lt (hq i hi))⟩⟩
theorem badArg_c (il:Bool) (n:Int) (l:List Int) (v:Value) (w:World) (h:HasI w v l) (hl:l.length≤9223372036854775807) :
 Calls Tryz.prog 51 #[.agg #[.bool il,.int .i64 n,v]] w fun e w'=>e = .returned (.bool (!isNum n || badNums l))∧Below w.heap.size w w':=by
 have hB:Below w.heap.size w (w.alloc (.cells #[.bool il,.int .i64 n,v] 60)):=(Below.refl _ _).alloc (Nat.le_refl _) _
 have h1:=h.below hB
 have hc:=anyNum_c l v _ h1 hl
 have hN:=isNumber_c n (w.alloc (.cells #[.bool il,.int .i64 n,v] 60))
 clear h h1 hl
 cases hb:isNum n with
 | true =>
  rw [hb] at hN
  clear hb
  go_enter Tryz.func51,Tryz.ntmps51
  go_wp2_with (first | (go_at_call 52; refine hN.mono ?_; rintro e w' ⟨rfl,rfl⟩) | (go_at_call 53; refine hc.mono ?_; rintro e w' ⟨rfl,rfl⟩))
  go_ret
  exact ⟨rfl,hB⟩
 | false =>
  rw [hb] at hN
  clear hb
  go_enter Tryz.func51,Tryz.ntmps51
  go_wp2_with (first | (go_at_call 52; refine hN.mono ?_; rintro e w' ⟨rfl,rfl⟩) | (go_at_call 53; refine hc.mono ?_; rintro e w' ⟨rfl,rfl⟩))
  go_ret
  exact ⟨rfl,hB⟩
theorem longArg_c (il:Bool) (n:Int) (l:List Int) (v:Value) (w:World) (h:HasI w v l) (hl:l.length≤9223372036854775807) :
 Calls Tryz.prog 55 #[.agg #[.bool il,.int .i64 n,v]] w fun e w'=>e = .returned (.bool (decide (40 < l.length)))∧Below w.heap.size w w':=by
 have hB:Below w.heap.size w (w.alloc (.cells #[.bool il,.int .i64 n,v] 60)):=(Below.refl _ _).alloc (Nat.le_refl _) _
 obtain ⟨p,c,rfl,_⟩:=h
 obtain ⟨m,hm⟩:∃ m,m=l.length:=⟨_,rfl⟩
 rw [←hm] at hl hB ⊢
 clear hm
 go_enter Tryz.func55,Tryz.ntmps55
 go_wp2
 go_ret
 exact ⟨by simp; omega,hB⟩
end Lb
end Go.Proofs
namespace Go.Proofs
open Go.RowKit
namespace Lb
def intB:ByteArray:= "int".toUTF8
def fitsV (il:Bool) (n:Int) (k:Nat) (ty:ByteArray):Bool:=if il then !(ty.toList==intB.toList) && decide (n=0) else (ty.toList==intB.toList) && decide (k=0)
theorem ret_bool {a b:Bool} (h:a=b):Ending.returned (.bool a)=Ending.returned (.bool b):=by rw [h]
theorem int_eq0 (n:Int):(n==0)=decide (n=0):=by by_cases h:n=0 <;> simp [h]
theorem nat_eq0 (k:Nat):(((k:Nat):Int)==0)=decide (k=0):=by by_cases h:k=0 <;> simp [h]
theorem fits_c (il:Bool) (n:Int) (k c:Nat) (p:Option Addr) (ty:ByteArray) (w:World) (_hl:k≤9223372036854775807) :
 Calls Tryz.prog 49 #[.agg #[.bool il,.int .i64 n,.slice p k c],.string ty] w fun e w'=>e = .returned (.bool (fitsV il n k ty))∧Below w.heap.size w w':=by
 have hB:Below w.heap.size w (w.alloc (.cells #[.bool il,.int .i64 n,.slice p k c] 60)):=(Below.refl _ _).alloc (Nat.le_refl _) _
 have hi:intB.toList = [105,110,116]:=by decide +kernel
 cases il with
 | true =>
  cases hb:(ty.toList == [105,110,116]) with
  | true =>
   have hs:Hid (fitsV true n k ty=false):=by show _=_; unfold fitsV; rw [hi,hb]; rfl
   have hb':(!(ty.toList == [105,110,116]))=false:=by rw [hb]; rfl
   go_enter Tryz.func49,Tryz.ntmps49
   go_wp2
   go_ret
   rw [hs.out]; exact ⟨rfl,hB⟩
  | false =>
   have hs:Hid (fitsV true n k ty=decide (n=0)):=by show _=_; unfold fitsV; rw [hi,hb]; rfl
   have hb':(!(ty.toList == [105,110,116]))=true:=by rw [hb]; rfl
   go_enter Tryz.func49,Tryz.ntmps49
   go_wp2
   go_ret
   rw [hs.out]; exact ⟨ret_bool (int_eq0 n),hB⟩
 | false =>
  cases hb:(ty.toList == [105,110,116]) with
  | true =>
   have hs:Hid (fitsV false n k ty=decide (k=0)):=by show _=_; unfold fitsV; rw [hi,hb]; rfl
   go_enter Tryz.func49,Tryz.ntmps49
   go_wp2
   go_ret
   rw [hs.out]; exact ⟨ret_bool (nat_eq0 k),hB⟩
  | false =>
   have hs:Hid (fitsV false n k ty=false):=by show _=_; unfold fitsV; rw [hi,hb]; rfl
   go_enter Tryz.func49,Tryz.ntmps49
   go_wp2
   go_ret
   rw [hs.out]; exact ⟨rfl,hB⟩
end Lb
end Go.Proofs
namespace Go.Proofs
open Go.RowKit
namespace Lb
structure AArg where
 il:Bool
 n:Int
 l:List Int
 deriving Inhabited
def HasA (w:World) (v:Value) (xs:List AArg):Prop :=
 ∃ p c,v = .slice p xs.length c∧(xs≠[]→∃ b off,p=some ⟨b,off,none⟩∧∀ i,i < xs.length→∃ lv,w.cell? ⟨b,off+i * 3,none⟩=some (.bool (xs.getD i default).il)∧w.cell? ⟨b,off+i * 3+1,none⟩=some (.int .i64 (xs.getD i default).n)∧w.cell? ⟨b,off+i * 3+2,none⟩=some lv∧HasI w lv (xs.getD i default).l∧(xs.getD i default).l.length≤9223372036854775807)
theorem any_true {xs:List AArg} {f:AArg→Bool} {i:Nat} (hi:i < xs.length) (h:f (xs.getD i default)=true):xs.any f=true:=by
 rw [List.any_eq_true]
 refine ⟨xs[i],List.getElem_mem hi,?_⟩
 simpa only [List.getD_eq_getElem?_getD,List.getElem?_eq_getElem hi,Option.getD_some] using h
theorem any_false {xs:List AArg} {f:AArg→Bool} (h:∀ i,i < xs.length→f (xs.getD i default)=false):xs.any f=false:=by
 rw [List.any_eq_false]
 intro x hx
 obtain ⟨i,hi,rfl⟩:=List.mem_iff_getElem.1 hx
 have:=h i hi
 simp only [List.getD_eq_getElem?_getD,List.getElem?_eq_getElem hi,Option.getD_some] at this
 simp [this]
theorem index_bad (xs:List AArg) (v:Value) (w:World) (h:HasA w v xs) (hl:xs.length≤9223372036854775807) :
 Calls Tryz.prog 80 #[v,.func (.func 51) #[] #[]] w fun e w'=>∃ r:Int,e = .returned (.int .i64 r)∧decide (0≤r)=xs.any (fun a=>!isNum a.n || badNums a.l)∧Below w.heap.size w w':=by
 obtain ⟨p,c,rfl,h⟩:=h
 obtain ⟨n,hn⟩:∃ n,n=xs.length:=⟨_,rfl⟩
 rw [←hn] at hl ⊢
 by_cases h0:xs = []
 · have hb:Hid (xs.any (fun a=>!isNum a.n || badNums a.l)=false):=by show xs.any (fun a=>!isNum a.n || badNums a.l)=false; rw [h0]; rfl
   have hn0:n=0:=by rw [hn,h0]; rfl
   subst hn0
   clear h h0 hn hl
   go_enter Tryz.func80,Tryz.ntmps80
   go_wp2
   go_loop [8] (fun i=>i = .int .i64 0) (fun _=>0)
   case atStart=>rfl
   case round =>
    subst hrel
    go_wp2
    go_ret
    exact ⟨_,rfl,by rw [hb.out]; rfl,Below.refl _ _⟩
 · obtain ⟨b,o,rfl,hq⟩:=h h0
   have hn':Hid (n=xs.length):=hn
   rw [←hn] at hq
   have hq':Hid _:=hq
   clear h h0 hn hq
   go_enter Tryz.func80,Tryz.ntmps80
   go_wp2
   go_loopw [8] (fun i wr=>∃ k:Nat,k≤n∧i = .int .i64 k∧(∀ j,j < k→(fun a=>!isNum a.n || badNums a.l) (xs.getD j default)=false)∧Below w.heap.size w wr) (fun i _=>n - (intOf i).toNat)
   case atStart=>exact ⟨0,Nat.zero_le _,rfl,fun j h=>absurd h (Nat.not_lt_zero _),Below.refl _ _⟩
   case round =>
    obtain ⟨k,hk,rfl,hall,hB⟩:=hrel
    by_cases hkn:k < n
    · obtain ⟨lv,g0,g1,g2,hI,hL⟩:=hq'.out k hkn
      have g0:=cell_below g0 hB (cell_lt g0)
      have g1:=cell_below g1 hB (cell_lt g1)
      have g2:=cell_below g2 hB (cell_lt g2)
      have hc:=badArg_c (xs.getD k default).il (xs.getD k default).n (xs.getD k default).l lv wr (hI.below hB) hL
      have hfk:Hid (∃ x,x=(fun a=>!isNum a.n || badNums a.l) (xs.getD k default)):=⟨_,rfl⟩
      obtain ⟨x,hx⟩:=hfk.out
      have hc:Calls Tryz.prog 51 #[.agg #[.bool (xs.getD k default).il,.int .i64 (xs.getD k default).n,lv]] wr fun e w'=>e = .returned (.bool x)∧Below wr.heap.size wr w':=by rw [hx]; exact hc
      obtain ⟨il,hil⟩:∃ il,il=(xs.getD k default).il:=⟨_,rfl⟩
      obtain ⟨m,hm⟩:∃ m,m=(xs.getD k default).n:=⟨_,rfl⟩
      rw [←hil] at g0 hc
      rw [←hm] at g1 hc
      have hx':Hid (x=(fun a=>!isNum a.n || badNums a.l) (xs.getD k default)):=hx
      clear hx hil hm hI hL hfk
      cases x with
      | false =>
       go_wp2_with (go_at_call 51; refine hc.mono ?_; rintro e w' ⟨rfl,hB2⟩)
       have hB3:Below w.heap.size w w':=hB.trans (hB2.mono hB.size)
       go_roundw
       case rel =>
        refine ⟨k+1,by omega,by go_num,fun j hj=>?_,hB3⟩
        by_cases he:j=k
        · subst he; exact hx'.out.symm
        · exact hall j (by omega)
       case measure=>simp [intOf]; omega
      | true =>
       go_wp2_with (go_at_call 51; refine hc.mono ?_; rintro e w' ⟨rfl,hB2⟩)
       have hB3:Below w.heap.size w w':=hB.trans (hB2.mono hB.size)
       go_ret
       exact ⟨_,rfl,by rw [any_true (by rw [←hn'.out]; exact hkn) hx'.out.symm]; simp,hB3⟩
    · have hx':Hid (xs.any (fun a=>!isNum a.n || badNums a.l)=false):=any_false fun i hi=>hall i (by have:=hn'.out; omega)
      clear hall
      go_wp2
      go_ret
      exact ⟨_,rfl,by rw [hx'.out]; rfl,hB⟩
theorem any_bad (xs:List AArg) (v:Value) (w:World) (h:HasA w v xs) (hl:xs.length≤9223372036854775807) :
 Calls Tryz.prog 50 #[v,.func (.func 51) #[] #[]] w fun e w'=>e = .returned (.bool (xs.any (fun a=>!isNum a.n || badNums a.l)))∧Below w.heap.size w w':=by
 have hc:=index_bad xs v w h hl
 clear h hl
 go_enter Tryz.func50,Tryz.ntmps50
 go_wp2_with (go_at_call 80; refine hc.mono ?_; rintro e w' ⟨r,rfl,hr,hB⟩)
 go_ret
 rw [←hr]
 exact ⟨by simp,hB⟩
theorem index_long (xs:List AArg) (v:Value) (w:World) (h:HasA w v xs) (hl:xs.length≤9223372036854775807) :
 Calls Tryz.prog 80 #[v,.func (.func 55) #[] #[]] w fun e w'=>∃ r:Int,e = .returned (.int .i64 r)∧decide (0≤r)=xs.any (fun a=>decide (40 < a.l.length))∧Below w.heap.size w w':=by
 obtain ⟨p,c,rfl,h⟩:=h
 obtain ⟨n,hn⟩:∃ n,n=xs.length:=⟨_,rfl⟩
 rw [←hn] at hl ⊢
 by_cases h0:xs = []
 · have hb:Hid (xs.any (fun a=>decide (40 < a.l.length))=false):=by show xs.any (fun a=>decide (40 < a.l.length))=false; rw [h0]; rfl
   have hn0:n=0:=by rw [hn,h0]; rfl
   subst hn0
   clear h h0 hn hl
   go_enter Tryz.func80,Tryz.ntmps80
   go_wp2
   go_loop [8] (fun i=>i = .int .i64 0) (fun _=>0)
   case atStart=>rfl
   case round =>
    subst hrel
    go_wp2
    go_ret
    exact ⟨_,rfl,by rw [hb.out]; rfl,Below.refl _ _⟩
 · obtain ⟨b,o,rfl,hq⟩:=h h0
   have hn':Hid (n=xs.length):=hn
   rw [←hn] at hq
   have hq':Hid _:=hq
   clear h h0 hn hq
   go_enter Tryz.func80,Tryz.ntmps80
   go_wp2
   go_loopw [8] (fun i wr=>∃ k:Nat,k≤n∧i = .int .i64 k∧(∀ j,j < k→(fun a=>decide (40 < a.l.length)) (xs.getD j default)=false)∧Below w.heap.size w wr) (fun i _=>n - (intOf i).toNat)
   case atStart=>exact ⟨0,Nat.zero_le _,rfl,fun j h=>absurd h (Nat.not_lt_zero _),Below.refl _ _⟩
   case round =>
    obtain ⟨k,hk,rfl,hall,hB⟩:=hrel
    by_cases hkn:k < n
    · obtain ⟨lv,g0,g1,g2,hI,hL⟩:=hq'.out k hkn
      have g0:=cell_below g0 hB (cell_lt g0)
      have g1:=cell_below g1 hB (cell_lt g1)
      have g2:=cell_below g2 hB (cell_lt g2)
      have hc:=longArg_c (xs.getD k default).il (xs.getD k default).n (xs.getD k default).l lv wr (hI.below hB) hL
      have hfk:Hid (∃ x,x=(fun a=>decide (40 < a.l.length)) (xs.getD k default)):=⟨_,rfl⟩
      obtain ⟨x,hx⟩:=hfk.out
      have hc:Calls Tryz.prog 55 #[.agg #[.bool (xs.getD k default).il,.int .i64 (xs.getD k default).n,lv]] wr fun e w'=>e = .returned (.bool x)∧Below wr.heap.size wr w':=by rw [hx]; exact hc
      obtain ⟨il,hil⟩:∃ il,il=(xs.getD k default).il:=⟨_,rfl⟩
      obtain ⟨m,hm⟩:∃ m,m=(xs.getD k default).n:=⟨_,rfl⟩
      rw [←hil] at g0 hc
      rw [←hm] at g1 hc
      have hx':Hid (x=(fun a=>decide (40 < a.l.length)) (xs.getD k default)):=hx
      clear hx hil hm hI hL hfk
      cases x with
      | false =>
       go_wp2_with (go_at_call 55; refine hc.mono ?_; rintro e w' ⟨rfl,hB2⟩)
       have hB3:Below w.heap.size w w':=hB.trans (hB2.mono hB.size)
       go_roundw
       case rel =>
        refine ⟨k+1,by omega,by go_num,fun j hj=>?_,hB3⟩
        by_cases he:j=k
        · subst he; exact hx'.out.symm
        · exact hall j (by omega)
       case measure=>simp [intOf]; omega
      | true =>
       go_wp2_with (go_at_call 55; refine hc.mono ?_; rintro e w' ⟨rfl,hB2⟩)
       have hB3:Below w.heap.size w w':=hB.trans (hB2.mono hB.size)
       go_ret
       exact ⟨_,rfl,by rw [any_true (by rw [←hn'.out]; exact hkn) hx'.out.symm]; simp,hB3⟩
    · have hx':Hid (xs.any (fun a=>decide (40 < a.l.length))=false):=any_false fun i hi=>hall i (by have:=hn'.out; omega)
      clear hall
      go_wp2
      go_ret
      exact ⟨_,rfl,by rw [hx'.out]; rfl,hB⟩
theorem any_long (xs:List AArg) (v:Value) (w:World) (h:HasA w v xs) (hl:xs.length≤9223372036854775807) :
 Calls Tryz.prog 50 #[v,.func (.func 55) #[] #[]] w fun e w'=>e = .returned (.bool (xs.any (fun a=>decide (40 < a.l.length))))∧Below w.heap.size w w':=by
 have hc:=index_long xs v w h hl
 clear h hl
 go_enter Tryz.func50,Tryz.ntmps50
 go_wp2_with (go_at_call 80; refine hc.mono ?_; rintro e w' ⟨r,rfl,hr,hB⟩)
 go_ret
 rw [←hr]
 exact ⟨by simp,hB⟩
end Lb
end Go.Proofs
namespace Go.Proofs
open Go.RowKit
namespace Lb
def longLen (m:Nat):Bool:=(decide (12 < m) && decide (m≤40)) || decide (60 < m)
def fatA (a:AArg):Bool:=longLen a.l.length
def thinV (xs:List AArg):Bool:=!xs.any fatA && decide (xs.length≤6)
theorem thin_c (xs:List AArg) (v:Value) (w:World) (h:HasA w v xs) (hl:xs.length≤9223372036854775807) :
 Calls Tryz.prog 5 #[v] w fun e w'=>e = .returned (.bool (thinV xs))∧w'=w:=by
 obtain ⟨p,c,rfl,h⟩:=h
 obtain ⟨n,hn⟩:∃ n,n=xs.length:=⟨_,rfl⟩
 rw [←hn] at hl ⊢
 by_cases h0:xs = []
 · have hb:Hid (thinV xs=true):=by show thinV xs=true; rw [h0]; rfl
   have hn0:n=0:=by rw [hn,h0]; rfl
   subst hn0
   clear h h0 hn hl
   go_enter Tryz.func5,Tryz.ntmps5
   go_wp2
   go_loop [3] (fun i=>i = .int .i64 0) (fun _=>0)
   case atStart=>rfl
   case round =>
    subst hrel
    go_wp2
    go_ret
    exact ⟨by rw [hb.out]; rfl,rfl⟩
 · obtain ⟨b,o,rfl,hq⟩:=h h0
   have hn':Hid (n=xs.length):=hn
   rw [←hn] at hq
   have hq':Hid _:=hq
   clear h h0 hn hq
   go_enter Tryz.func5,Tryz.ntmps5
   go_wp2
   go_loop [3] (fun i=>∃ k:Nat,k≤n∧i = .int .i64 k∧(∀ j,j < k→fatA (xs.getD j default)=false)) (fun i=>n - (intOf i).toNat)
   case atStart=>exact ⟨0,Nat.zero_le _,rfl,fun j h=>absurd h (Nat.not_lt_zero _)⟩
   case round =>
    obtain ⟨k,hk,rfl,hall⟩:=hrel
    by_cases hkn:k < n
    · obtain ⟨lv,_,_,g2,hI,hL⟩:=hq'.out k hkn
      obtain ⟨p2,c2,rfl,_⟩:=hI
      have hf:Hid (∀ x,longLen (xs.getD k default).l.length=x→fatA (xs.getD k default)=x):=fun x h=>h
      obtain ⟨m,hm⟩:∃ m,m=(xs.getD k default).l.length:=⟨_,rfl⟩
      rw [←hm] at g2 hf hL
      clear hm
      have go:∀ (hx:longLen m=false),Hid (fatA (xs.getD k default)=false):=fun hx=>hf.out _ hx
      have go2:∀ (hx:longLen m=true),Hid (thinV xs=false):=fun hx=>by
       show thinV xs=false
       unfold thinV
       rw [any_true (by rw [←hn'.out]; exact hkn) (hf.out _ hx)]; rfl
      by_cases h12:12 < m
      · by_cases h40:m≤40
        · have hs:=go2 (by unfold longLen; simp; omega)
          clear hf go go2 hall
          go_wp2
          go_ret
          exact ⟨by rw [hs.out]; try rfl,rfl⟩
        · by_cases h60:60 < m
          · have hs:=go2 (by unfold longLen; simp; omega)
            clear hf go go2 hall
            go_wp2
            go_ret
            exact ⟨by rw [hs.out]; try rfl,rfl⟩
          · have hs:=go (by unfold longLen; simp; omega)
            clear hf go go2
            go_wp2
            go_round
            case rel =>
             refine ⟨k+1,by omega,by go_num,fun j hj=>?_⟩
             by_cases he:j=k
             · subst he; exact hs.out
             · exact hall j (by omega)
            case measure=>simp [intOf]; omega
      · have hs:=go (by unfold longLen; simp; omega)
        have h60:¬ 60 < m:=by omega
        clear hf go go2
        go_wp2
        go_round
        case rel =>
         refine ⟨k+1,by omega,by go_num,fun j hj=>?_⟩
         by_cases he:j=k
         · subst he; exact hs.out
         · exact hall j (by omega)
        case measure=>simp [intOf]; omega
    · have hx':Hid (thinV xs=decide (n≤6)):=by
       show thinV xs=_
       unfold thinV
       rw [any_false fun i hi=>hall i (by have:=hn'.out; omega),← hn'.out]; rfl
      clear hall
      go_wp2
      go_ret
      exact ⟨by rw [hx'.out]; simp; omega,rfl⟩
end Lb
end Go.Proofs
namespace Go.Proofs
open Go.RowKit
namespace Lb
theorem dec_small (u:Nat) (hu:u < 10) (w:World):Calls Tryz.prog 27 #[.int .i64 (u:Int)] w fun e w'=>e = .returned (.string ⟨(Lib.decDigits u).toArray⟩)∧w'=w:=by
 have hs:Hid (Lib.decDigits u = [UInt8.ofNat (48+u)]):=Lib.decDigits_one hu
 rcases (by omega:u=0∨u=1∨u=2∨u=3∨u=4∨u=5∨u=6∨u=7∨u=8∨u=9) with rfl | rfl | rfl | rfl | rfl | rfl | rfl | rfl | rfl | rfl
 all_goals
  clear hu
  go_enter Tryz.func27,Tryz.ntmps27
  go_wp2
  go_ret
  rw [hs.out]
  exact ⟨rfl,rfl⟩
end Lb
end Go.Proofs
namespace Go.Proofs
open Go.RowKit
namespace Lb
def mkD (l:List UInt8):ByteArray:=⟨l.toArray⟩
theorem dec_len {u:Nat} (h:u≤9223372036854775807):(Lib.decDigits u).length≤21:=by
 have:=Lib.itoa_length_le (u:Int) (by omega) (by omega)
 rwa [Lib.itoa_nonneg] at this
theorem dec_big {u:Nat} (h:¬ u < 10):mkD (Lib.decDigits (u / 10))++mkD (Lib.decDigits (u % 10))=mkD (Lib.decDigits u):=by
 rw [Lib.decDigits_one (show u % 10 < 10 by omega)]
 conv=>rhs; rw [Lib.decDigits,dif_neg h]
 show (⟨_⟩:ByteArray)=⟨_⟩
 congr 1
set_option maxRecDepth 100000 in
theorem dec_pos:∀ (m u:Nat),u≤m→u≤1000000000000→∀ w:World,Calls Tryz.prog 27 #[.int .i64 (u:Int)] w fun e w'=>e = .returned (.string (mkD (Lib.decDigits u)))∧w'=w
 | m,u,hm,hu,w=>by
  by_cases h:u < 10
  · exact dec_small u h w
  · obtain ⟨m,rfl⟩:∃ m',m=m'+1:=⟨m - 1,by omega⟩
    have c1:=dec_pos m (u / 10) (by omega) (by omega)
    have c2:∀ w:World,Calls Tryz.prog 27 #[.int .i64 ((u % 10:Nat):Int)] w fun e w'=>e = .returned (.string (mkD (Lib.decDigits (u % 10))))∧w'=w:=dec_small (u % 10) (by omega)
    have hs:Hid (mkD (Lib.decDigits (u / 10))++mkD (Lib.decDigits (u % 10))=mkD (Lib.decDigits u)):=dec_big h
    have l1:(mkD (Lib.decDigits (u / 10))).size≤21:=dec_len (by omega)
    have l2:(mkD (Lib.decDigits (u % 10))).size≤21:=dec_len (by omega)
    obtain ⟨a,ha⟩:∃ a,a=mkD (Lib.decDigits (u / 10)):=⟨_,rfl⟩
    obtain ⟨b,hb⟩:∃ b,b=mkD (Lib.decDigits (u % 10)):=⟨_,rfl⟩
    rw [←ha] at c1 l1 hs
    rw [←hb] at c2 l2 hs
    have l3:a.size+b.size≤9223372036854775807:=by omega
    have h0:(0:Int)≤(u:Int):=by omega
    have h10:(10:Int)≤(u:Int):=by omega
    have e1:((u:Int) / 10)=((u / 10:Nat):Int):=by omega
    have e2:((u:Int) % 10)=((u % 10:Nat):Int):=by omega
    rw [←e1] at c1
    rw [←e2] at c2
    have hu':(u:Int)≤1000000000000:=by omega
    have e1':Hid _:=e1
    have e2':Hid _:=e2
    clear hm h ha hb e1 e2 hu
    obtain ⟨z,hz⟩:∃ z:Int,z=(u:Int):=⟨_,rfl⟩
    rw [←hz] at h0 h10 hu' c1 c2 ⊢
    clear hz
    go_enter Tryz.func27,Tryz.ntmps27
    go_wp2_with (go_at_call 27; first | (with_reducible refine (c1 _).mono ?_; rintro e w' ⟨rfl,rfl⟩) | (with_reducible refine (c2 _).mono ?_; rintro e w'' ⟨rfl,rfl⟩))
    go_ret
    rw [hs.out]
    exact ⟨rfl,rfl⟩
end Lb
end Go.Proofs
namespace Go.Proofs
open Go.RowKit
namespace Lb
theorem neg_big {u:Nat} (h:¬ u < 10):mkD (45 :: Lib.decDigits (u / 10))++mkD (Lib.decDigits (u % 10))=mkD (45 :: Lib.decDigits u):=by
 rw [Lib.decDigits_one (show u % 10 < 10 by omega)]
 conv=>rhs; rw [Lib.decDigits,dif_neg h]
 show (⟨_⟩:ByteArray)=⟨_⟩
 congr 1
set_option maxRecDepth 100000 in
theorem dec_neg:∀ (m u:Nat),u≤m→1≤u→u≤1000000000000→∀ w:World,Calls Tryz.prog 27 #[.int .i64 (-(u:Int))] w fun e w'=>e = .returned (.string (mkD (45 :: Lib.decDigits u)))∧w'=w
 | m,u,hm,h1,hu,w=>by
  by_cases h:u < 10
  · have c2:∀ w:World,Calls Tryz.prog 27 #[.int .i64 (u:Int)] w fun e w'=>e = .returned (.string (mkD (Lib.decDigits u)))∧w'=w:=dec_small u h
    have l2:(mkD (Lib.decDigits u)).size≤21:=dec_len (by omega)
    have hs:Hid (mkD [45]++mkD (Lib.decDigits u)=mkD (45 :: Lib.decDigits u)):=rfl
    obtain ⟨b,hb⟩:∃ b,b=mkD (Lib.decDigits u):=⟨_,rfl⟩
    rw [←hb] at c2 l2 hs
    have l3:1+b.size≤9223372036854775807:=by omega
    obtain ⟨z,hz⟩:∃ z:Int,z = -(u:Int):=⟨_,rfl⟩
    have e1:(u:Int) = -z:=by omega
    have z0:z < 0:=by omega
    have z1:(-10:Int) < z:=by omega
    rw [e1] at c2
    rw [←hz]
    clear hz hb hm h h1 hu e1
    go_enter Tryz.func27,Tryz.ntmps27
    go_wp2_with (go_at_call 27; (with_reducible refine (c2 _).mono ?_; rintro e w'' ⟨rfl,rfl⟩))
    go_ret
    rw [←hs.out]
    exact ⟨rfl,rfl⟩
  · obtain ⟨m,rfl⟩:∃ m',m=m'+1:=⟨m - 1,by omega⟩
    have c1:=dec_neg m (u / 10) (by omega) (by omega) (by omega)
    have c2:∀ w:World,Calls Tryz.prog 27 #[.int .i64 ((u % 10:Nat):Int)] w fun e w'=>e = .returned (.string (mkD (Lib.decDigits (u % 10))))∧w'=w:=dec_small (u % 10) (by omega)
    have hs:Hid (mkD (45 :: Lib.decDigits (u / 10))++mkD (Lib.decDigits (u % 10))=mkD (45 :: Lib.decDigits u)):=neg_big h
    have l1:(mkD (45 :: Lib.decDigits (u / 10))).size≤22:=Nat.succ_le_succ (dec_len (u:=u / 10) (by omega))
    have l2:(mkD (Lib.decDigits (u % 10))).size≤21:=dec_len (by omega)
    obtain ⟨a,ha⟩:∃ a,a=mkD (45 :: Lib.decDigits (u / 10)):=⟨_,rfl⟩
    obtain ⟨b,hb⟩:∃ b,b=mkD (Lib.decDigits (u % 10)):=⟨_,rfl⟩
    rw [←ha] at c1 l1 hs
    rw [←hb] at c2 l2 hs
    have l3:a.size+b.size≤9223372036854775807:=by omega
    obtain ⟨z,hz⟩:∃ z:Int,z = -(u:Int):=⟨_,rfl⟩
    have e1:z.tdiv 10 = -((u / 10:Nat):Int):=by rw [hz,Int.neg_tdiv]; rfl
    have e2 : -(z.tmod 10)=((u % 10:Nat):Int):=by rw [hz,Int.neg_tmod,Int.neg_neg]; rfl
    have z0:z≤-10:=by omega
    have z1 : -1000000000000≤z:=by omega
    have r0 : -9≤z.tmod 10:=by omega
    have r1:z.tmod 10≤0:=by omega
    have r2 : -1000000000000≤z.tdiv 10:=by omega
    have r3:z.tdiv 10≤0:=by omega
    rw [←e1] at c1
    rw [←e2] at c2
    rw [←hz]
    clear hz hm h ha hb e1 e2 hu h1
    go_enter Tryz.func27,Tryz.ntmps27
    go_wp2_with (go_at_call 27; first | (with_reducible refine (c1 _).mono ?_; rintro e w' ⟨rfl,rfl⟩) | (with_reducible refine (c2 _).mono ?_; rintro e w'' ⟨rfl,rfl⟩))
    go_ret
    rw [hs.out]
    exact ⟨rfl,rfl⟩
theorem decimal_c (n:Int) (h0 : -1000000000000≤n) (h1:n≤1000000000000) (w:World):Calls Tryz.prog 27 #[.int .i64 n] w fun e w'=>e = .returned (.string (mkD (Lib.itoa n)))∧w'=w:=by
 by_cases h:n < 0
 · obtain ⟨u,rfl⟩:∃ u:Nat,n = -(u:Int):=⟨n.natAbs,by omega⟩
   rw [Lib.itoa_neg u (by omega)]
   exact dec_neg u u (Nat.le_refl _) (by omega) (by omega) w
 · obtain ⟨u,rfl⟩:∃ u:Nat,n=(u:Int):=⟨n.toNat,by omega⟩
   rw [Lib.itoa_nonneg u]
   exact dec_pos u u (Nat.le_refl _) (by omega) w
end Lb
end Go.Proofs
namespace Go.Proofs
open Go.RowKit
namespace Lb
def HasS (w:World) (v:Value) (l:List ByteArray):Prop :=
 ∃ p c,v = .slice p l.length c∧(l≠[]→∃ b off,p=some ⟨b,off,none⟩∧∀ i,i < l.length→w.cell? ⟨b,off+i,none⟩=some (.string (l.getD i ByteArray.empty)))
theorem HasS.below {w w':World} {v:Value} {l:List ByteArray} (h:HasS w v l) (hB:Below w.heap.size w w'):HasS w' v l:=by
 obtain ⟨p,c,rfl,h⟩:=h
 exact ⟨p,c,rfl,fun h0=>let ⟨b,o,hp,hq⟩:=h h0; ⟨b,o,hp,fun i hi=>cell_below (hq i hi) hB (cell_lt (hq i hi))⟩⟩
theorem hasS_nil (w:World):HasS w (.slice none 0 0) []:=⟨none,0,rfl,fun h=>absurd rfl h⟩
theorem ints_same (l:List Int) (a b:Value) (w:World) (ha:HasI w a l) (hb:HasI w b l) (hl:l.length≤9223372036854775807) :
 Calls Tryz.prog 12 #[a,b] w fun e w'=>e = .returned (.bool true)∧Below w.heap.size w w':=by
 obtain ⟨p,c,rfl,ha⟩:=ha
 obtain ⟨q,d,rfl,hb⟩:=hb
 obtain ⟨n,hn⟩:∃ n,n=l.length:=⟨_,rfl⟩
 rw [←hn] at hl ⊢
 by_cases h0:l = []
 · have hn0:n=0:=by rw [hn,h0]; rfl
   subst hn0
   clear ha hb h0 hn hl
   go_enter Tryz.func12,Tryz.ntmps12
   go_wp2
   go_loop [5] (fun i=>i = .int .i64 0) (fun _=>0)
   case atStart=>rfl
   case round =>
    subst hrel
    go_wp2
    go_ret
    exact ⟨rfl,Below.refl _ _⟩
 · obtain ⟨b1,o1,rfl,h1⟩:=ha h0
   obtain ⟨b2,o2,rfl,h2⟩:=hb h0
   rw [←hn] at h1 h2
   have h1':Hid _:=h1
   have h2':Hid _:=h2
   clear ha hb h0 hn h1 h2
   go_enter Tryz.func12,Tryz.ntmps12
   go_wp2
   go_loopw [5] (fun i wr=>∃ k:Nat,k≤n∧i = .int .i64 k∧Below w.heap.size w wr) (fun i _=>n - (intOf i).toNat)
   case atStart=>exact ⟨0,Nat.zero_le _,rfl,Below.refl _ _⟩
   case round =>
    obtain ⟨k,hk,rfl,hB⟩:=hrel
    by_cases hkn:k < n
    · have g1:=cell_below (h1'.out k hkn) hB (cell_lt (h1'.out k hkn))
      have g2:=cell_below (h2'.out k hkn) hB (cell_lt (h2'.out k hkn))
      obtain ⟨x,hx⟩:∃ x,x=l.getD k 0:=⟨_,rfl⟩
      rw [←hx] at g1 g2
      clear hx
      go_wp2
      go_quiet (fail)
      go_wp2
      go_roundw
      case rel=>exact ⟨k+1,by omega,by go_num,below_drewN hB⟩
      case measure=>simp [intOf]; omega
    · go_wp2
      go_ret
      exact ⟨rfl,hB⟩
def arrB:ByteArray:= "[int]".toUTF8
theorem isArray_c (s:ByteArray) (w:World):Calls Tryz.prog 28 #[.string s] w fun e w'=>e = .returned (.bool (s.toList==arrB.toList))∧w'=w:=by
 have hi:Hid (arrB.toList = [91,105,110,116,93]):=by show arrB.toList=_; decide +kernel
 go_enter Tryz.func28,Tryz.ntmps28
 go_wp2
 go_ret
 rw [hi.out]
 exact ⟨rfl,rfl⟩
end Lb
end Go.Proofs
namespace Go.Proofs
open Go.RowKit
namespace Lb
def mk (l:List UInt8):ByteArray:=⟨l.toArray⟩
theorem bytes_ext {a b:ByteArray} (h:a.data.toList=b.data.toList):a=b:=by
 cases a; cases b; exact congrArg _ (Array.ext' h)
def joinB (xs:List ByteArray) (sep:ByteArray):ByteArray:=mk (Lib.join (xs.map (·.data.toList)) sep.data.toList)
theorem joinB_nil (sep:ByteArray):joinB [] sep=ByteArray.empty:=rfl
theorem joinB_first {xs:List ByteArray} (sep:ByteArray) (h:0 < xs.length):joinB (xs.take 1) sep=ByteArray.empty++xs.getD 0 ByteArray.empty:=by
 cases xs with
 | nil=>simp at h
 | cons x r =>
  apply bytes_ext
  show Lib.join [x.data.toList] sep.data.toList=_
  rw [Lib.join_one]
  show _=(ByteArray.empty++x).data.toList
  rw [ByteArray.data_append,Array.toList_append]
  rfl
theorem joinB_next {xs:List ByteArray} (sep:ByteArray) {k:Nat} (hk:0 < k) (h:k < xs.length):joinB (xs.take (k+1)) sep=joinB (xs.take k) sep++sep++xs.getD k ByteArray.empty:=by
 cases xs with
 | nil=>simp at h
 | cons x r =>
  obtain ⟨j,rfl⟩:∃ j,k=j+1:=⟨k - 1,by omega⟩
  apply bytes_ext
  simp only [ByteArray.data_append,Array.toList_append]
  show Lib.join _ _=Lib.join _ _++_++_
  simp only [List.take_succ_cons,List.map_cons,Lib.join_cons,List.map_take]
  have hj:j < r.length:=by simpa using h
  rw [Lib.joinTail_take_succ _ _ j (r[j].data.toList) (by simp [hj])]
  simp [List.getD_eq_getElem?_getD,hj]
theorem size_append (a b:ByteArray):(a++b).size=a.size+b.size:=by
 show (a++b).data.size=_
 rw [ByteArray.data_append,Array.size_append]; rfl
theorem joinB_step {xs:List ByteArray} (sep:ByteArray) {k:Nat} (h:k < xs.length):(joinB (xs.take k) sep).size≤(joinB (xs.take (k+1)) sep).size:=by
 by_cases hk:0 < k
 · rw [joinB_next sep hk h,size_append,size_append]; omega
 · obtain rfl:k=0:=by omega
   show ByteArray.empty.size≤_
   exact Nat.zero_le _
theorem joinB_le {xs:List ByteArray} (sep:ByteArray):∀ {m k:Nat},k+m=xs.length→(joinB (xs.take k) sep).size≤(joinB xs sep).size
 | 0,k,h=>by rw [List.take_of_length_le (by omega)]; exact Nat.le_refl _
 | m+1,k,h=>Nat.le_trans (joinB_step sep (by omega)) (joinB_le sep (m:=m) (by omega))
theorem refJoin_c (xs:List ByteArray) (sep:ByteArray) (v:Value) (w:World) (h:HasS w v xs) (hl:xs.length≤9223372036854775807) (hT:(joinB xs sep).size≤140737488355328) :
 Calls Tryz.prog 29 #[v,.string sep] w fun e w'=>e = .returned (.string (joinB xs sep))∧w'=w:=by
 obtain ⟨p,c,rfl,h⟩:=h
 obtain ⟨n,hn⟩:∃ n,n=xs.length:=⟨_,rfl⟩
 rw [←hn] at hl ⊢
 by_cases h0:xs = []
 · have hn0:n=0:=by rw [hn,h0]; rfl
   have hr:Hid (joinB xs sep=ByteArray.empty):=by show _=_; rw [h0]; rfl
   subst hn0
   clear h h0 hn hl hT
   go_enter Tryz.func29,Tryz.ntmps29
   go_wp2
   go_loop [5,6] (fun t i=>t = .string ByteArray.empty∧i = .int .i64 0) (fun _ _=>0)
   case atStart=>exact ⟨rfl,rfl⟩
   case round =>
    obtain ⟨rfl,rfl⟩:=hrel
    go_wp2
    go_ret
    rw [hr.out]; exact ⟨rfl,rfl⟩
 · obtain ⟨b,o,rfl,hq⟩:=h h0
   have hn':Hid (n=xs.length):=hn
   have hT':Hid ((joinB xs sep).size≤140737488355328):=hT
   rw [←hn] at hq
   have hq':Hid _:=hq
   clear h h0 hn hq hT
   go_enter Tryz.func29,Tryz.ntmps29
   go_wp2
   go_loop [5,6] (fun t i=>∃ k:Nat,k≤n∧t = .string (joinB (xs.take k) sep)∧i = .int .i64 k) (fun _ i=>n - (intOf i).toNat)
   case atStart=>exact ⟨0,Nat.zero_le _,rfl,rfl⟩
   case round =>
    obtain ⟨k,hk,rfl,rfl⟩:=hrel
    by_cases hkn:k < n
    · have g:=hq'.out k hkn
      have hs:(joinB (xs.take (k+1)) sep).size≤140737488355328:=Nat.le_trans (joinB_le sep (m:=n - (k+1)) (by have:=hn'.out; omega)) hT'.out
      by_cases hk0:0 < k
      · have hr:=joinB_next sep hk0 (show k < xs.length by rw [←hn'.out]; exact hkn)
        obtain ⟨x,hx⟩:∃ x,x=xs.getD k ByteArray.empty:=⟨_,rfl⟩
        obtain ⟨t,ht⟩:∃ t,t=joinB (xs.take k) sep:=⟨_,rfl⟩
        rw [←hx] at g hr
        rw [←ht] at hr
        rw [hr,size_append,size_append] at hs
        rw [←ht]
        have hr':Hid _:=hr
        have hs1:t.size+sep.size≤9223372036854775807:=by omega
        have hs2:t.size+sep.size+x.size≤9223372036854775807:=by omega
        clear hx ht hr hs
        go_wp2
        go_round
        case rel=>exact ⟨k+1,by omega,by rw [hr'.out],by go_num⟩
        case measure=>simp [intOf]; omega
      · obtain rfl:k=0:=by omega
        simp only [Nat.add_zero] at g
        have hr:=joinB_first sep (show 0 < xs.length by rw [←hn'.out]; exact hkn)
        obtain ⟨x,hx⟩:∃ x,x=xs.getD 0 ByteArray.empty:=⟨_,rfl⟩
        rw [←hx] at g hr
        rw [Nat.zero_add,hr,size_append] at hs
        rw [show joinB (xs.take 0) sep=ByteArray.empty from rfl]
        have hr':Hid _:=hr
        have hs2:x.size≤9223372036854775807:=by omega
        clear hx hr hs
        go_wp2
        go_round
        case rel=>exact ⟨1,by omega,by rw [hr'.out]; rfl,by go_num⟩
        case measure=>simp [intOf]; omega
    · have hr:Hid (joinB (xs.take k) sep=joinB xs sep):=by show _=_; rw [List.take_of_length_le (by have:=hn'.out; omega)]
      go_wp2
      go_ret
      rw [hr.out]; exact ⟨rfl,rfl⟩
end Lb
end Go.Proofs
