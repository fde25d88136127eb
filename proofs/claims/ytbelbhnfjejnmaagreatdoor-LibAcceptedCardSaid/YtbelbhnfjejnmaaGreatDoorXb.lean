/- PROVED HERE: a part (Xb) of the tied card of LibAccepted (floodgatelaw25). CONDITIONS: those of the given row and card alone. -/
import Derived.Lib.AtoiAll
import Derived.Lib.ItoaNum
import Derived.Lib.ItoaMem
import Derived.Test.YtbelbhnfjejnmaaGreatDoorXa
import Derived.Test.YtbelbhnfjejnmaaGreatDoorSh
import Derived.Lib.LaidTab
import Derived.Deep.RegionHeld3
import Derived.StillTailTactics
namespace Go.Proofs.Lx
open Go Go.Lib
theorem parse_app (l2:List UInt8):∀ (l1:List UInt8) (acc v:Nat),parseUint10 acc l1 = .ok v→parseUint10 acc (l1++l2)=parseUint10 v l2
 | [],acc,v,h=>by
  simp only [parseUint10] at h
  injection h with h
  subst h; rfl
 | c :: r,acc,v,h=>by
  rw [List.cons_append]
  simp only [parseUint10] at h ⊢
  split at h
  · rename_i h1
    rw [if_pos h1]
    split at h
    · cases h
    · rename_i h2
      rw [if_neg h2]
      split at h
      · cases h
      · rename_i h3
        rw [if_neg h3]
        exact parse_app l2 r _ v h
  · cases h
theorem dig_toNat {d:Nat} (h:d < 10):(UInt8.ofNat (48+d)).toNat=48+d:=by
 rw [UInt8.toNat_ofNat']
 omega
theorem parse_dec (u:Nat) (hu:u≤1000000000):parseUint10 0 (decDigits u) = .ok u:=by
 induction u using Nat.strongRecOn with
 | _ u ih =>
  rw [decDigits]
  split
  · rename_i h
    simp only [parseUint10]
    rw [dig_toNat h,if_pos (by omega),if_neg (by omega),if_neg (by omega)]
    congr 1; omega
  · rename_i h
    rw [parse_app _ _ _ _ (ih (u / 10) (by omega) (by omega))]
    simp only [parseUint10]
    rw [dig_toNat (by omega),if_pos (by omega),if_neg (by omega),if_neg (by omega)]
    congr 1; omega
theorem dec_ne (u:Nat):decDigits u≠[]:=by
 rw [decDigits]
 split
 · simp
 · simp
theorem dec_dig (u:Nat):∀ c∈decDigits u,48≤c.toNat∧c.toNat≤57:=by
 induction u using Nat.strongRecOn with
 | _ u ih =>
  rw [decDigits]
  split
  · rename_i h
    intro c hc
    have:=List.mem_singleton.1 hc
    subst this
    rw [dig_toNat h]; omega
  · rename_i h
    intro c hc
    rcases List.mem_append.1 hc with hc | hc
    · exact ih (u / 10) (by omega) c hc
    · have:=List.mem_singleton.1 hc
      subst this
      rw [dig_toNat (by omega)]; omega
theorem atoi_dec (u:Nat) (hu:u≤1000000000):atoiAll (decDigits u) = .ok (u:Int):=by
 unfold atoiAll
 have hp:=parse_dec u hu
 have hd:=dec_dig u
 have hne:=dec_ne u
 cases h:decDigits u with
 | nil=>exact absurd h hne
 | cons c r =>
  rw [h] at hp hd
  have hc:=hd c List.mem_cons_self
  simp only
  rw [if_neg (by omega)]
  unfold parseMag
  rw [if_neg (by simp),hp]
  simp only
  rw [if_neg (by omega),if_neg (by omega),if_neg (by omega)]
theorem dec_len (u:Nat) (hu:u≤1000000000):(decDigits u).length≤10:=by
 rw [decDigits]
 split
 · simp
 · rw [List.length_append,decDigits]
   split
   · simp
   · rw [List.length_append,decDigits]
     split
     · simp
     · rw [List.length_append,decDigits]
       split
       · simp
       · rw [List.length_append,decDigits]
         split
         · simp
         · rw [List.length_append,decDigits]
           split
           · simp
           · rw [List.length_append,decDigits]
             split
             · simp
             · rw [List.length_append,decDigits]
               split
               · simp
               · rw [List.length_append,decDigits]
                 split
                 · simp
                 · rw [List.length_append,decDigits,dif_pos (by omega)]
                   simp
end Go.Proofs.Lx
namespace Go.Proofs
open Go.RowKit Go.Shelf Go.Sort
namespace Lx
def dg (u:Nat):ByteArray:=⟨(Lib.decDigits u).toArray⟩
theorem dg_size (u:Nat) (hu:u≤1000000000):(dg u).size≤10:=dec_len u hu
abbrev Tab (w:World):Prop:=Lib.TabIs Tryz.prog w "internal/strconv.uint64pow10" .u64 Lib.pow10Tab
theorem grow_below (w:World) (k:Nat) (os:Array Obj):Below w.heap.size w (grow (w.drewN k) os):=⟨rfl,rfl,rfl,by show w.heap.size≤(w.heap++os).size; simp,fun j hj=>by show (w.heap++os)[j]? = w.heap[j]?; exact Array.getElem?_append_left hj⟩
theorem atoi_c (u:Nat) (hu:u≤1000000000) (w:World):Calls Tryz.prog 369 #[.string (dg u)] w fun e w'=>e = .returned (.tuple #[.int .i64 u,.nilIface])∧Below w.heap.size w w':=by
 refine (Any.strconv_Atoi_ok Tryz.laysAtoi (dg u) (by have:=dg_size u hu; omega) u (atoi_dec u hu) w).mono ?_
 rintro e w' ⟨rfl,rfl | ⟨t,rfl⟩⟩
 · exact ⟨rfl,Below.refl _ _⟩
 · exact ⟨rfl,Lib.bytesWorld_below w _ t⟩
theorem itoa_c (u:Nat) (hu:u≤1000000000) (w:World) (hT:Tab w):Calls Tryz.prog 78 #[.int .i64 u] w fun e w'=>e = .returned (.string (dg u))∧Below w.heap.size w w':=by
 refine (Any.strconv_Itoa Tryz.laysIt u (by omega) (by omega) w hT).mono ?_
 rintro e w' ⟨rfl,k,os,rfl⟩
 refine ⟨?_,grow_below w k os⟩
 rw [Lib.itoa_nonneg]; rfl
theorem isNumber_c (u:Nat) (hu:u≤1000000000) (w:World) (hT:∀ w',Below w.heap.size w w'→Tab w'):Calls Tryz.prog 281 #[.string (dg u)] w fun e w'=>e = .returned (.bool true)∧Below w.heap.size w w':=by
 have ha:=atoi_c u hu w
 have hi:=fun w' (h:Below w.heap.size w w')=>itoa_c u hu w' (hT w' h)
 generalize dg u=D at *
 clear hT
 go_enter Tryz.func281,Tryz.ntmps281
 go_wp2_with (first | (go_at_call 369; refine ha.mono ?_; rintro e w2 ⟨rfl,hB⟩) | (go_at_call 78; refine (hi _ hB).mono ?_; rintro e w3 ⟨rfl,hB3⟩))
 go_ret
 exact ⟨rfl,hB.trans (hB3.mono hB.size)⟩
end Lx
end Go.Proofs
namespace Go.Proofs
open Go.RowKit Go.Shelf Go.Sort
namespace Lx
theorem row3 {w:World} {b:Nat} {x y z u v t:Value} {T:TypeId} (h:w.heap[b]? = some (.cells #[x,y,z] T (0,0))):(((w.setCell ⟨b,0,none⟩ u).setCell ⟨b,1,none⟩ v).setCell ⟨b,2,none⟩ t).heap[b]? = some (.cells #[u,v,t] T (0,0)):=by
 have h1:=heap_setCell_same w b 0 _ _ u h
 have h2:=heap_setCell_same _ b 1 _ _ v h1
 exact heap_setCell_same _ b 2 _ _ t h2
theorem set3_below {w0 w:World} {B b:Nat} {u v t:Value} (h:Below B w0 w) (hb:B≤b):Below B w0 (((w.setCell ⟨b,0,none⟩ u).setCell ⟨b,1,none⟩ v).setCell ⟨b,2,none⟩ t):=((h.setCell hb _).setCell hb _).setCell hb _
set_option maxRecDepth 100000 in
theorem token_num {s:ByteArray} {a0 to_ u:Nat} {w:World} (h1:a0 < to_) (h2:to_≤s.size) (hs:s.size≤1000000) (hb:∀ i,a0≤i→i < to_→digB (by_ s i)=true) (he:to_ < s.size→digB (by_ s to_)=false)
 (hu:u≤1000000000) (hx:s.extract a0 to_=dg u) (hT:∀ w',Below w.heap.size w w'→Tab w') :
 Calls Tryz.prog 204 #[.string s,.int .i64 a0] w fun e w'=>e = .returned (.tuple #[.agg #[.int .u8 3,.string (dg u),.int .i64 a0],.bool true])∧Below w.heap.size w w':=by
 have ha:=hb a0 (Nat.le_refl _) h1
 rw [by_get s a0 (by omega)] at ha
 have hlet:letB (s[a0].toNat:Int)=false:=by
  unfold digB at ha
  unfold letB
  simp at ha ⊢
  omega
 have hl:=fun w=>isLetter_c (s[a0].toNat:Int) w
 have hd:=fun w=>isDigit_c (s[a0].toNat:Int) w
 rw [hlet] at hl
 rw [ha] at hd
 have hb':Hid (∀ i,a0≤i→i < to_→digB (by_ s i)=true):=hb
 have he':Hid (to_ < s.size→digB (by_ s to_)=false):=he
 have hx':Hid (s.extract a0 to_=dg u):=hx
 have hlt:a0 < s.size:=by omega
 clear ha hlet hb he hx
 go_enter Tryz.func204,Tryz.ntmps204
 go_wp2_with (first | (go_at_call 277; refine (hl _).mono ?_; rintro e w2 ⟨rfl,rfl⟩) | (go_at_call 279; refine (hd _).mono ?_; rintro e w2 ⟨rfl,rfl⟩))
 have hr:=fun (W:World) (B:Nat) (g:W.cell? ⟨B,0,none⟩=some (.func (.func 279) #[] #[]))=>run_dig (s:=s) (a0:=a0) (to_:=to_) (b:=B) (o:=0) (c:=1) (w:=W) (by omega) h2 hs hb'.out he'.out g
 have HW:(w.alloc (.cells #[.int .u8 0,.string ⟨#[]⟩,.int .i64 a0] 118)).heap[w.heap.size]? = some (.cells #[.int .u8 0,.string ⟨#[]⟩,.int .i64 a0] 118 (0,0)):=heap_alloc_new w _
 have HS:(w.alloc (.cells #[.int .u8 0,.string ⟨#[]⟩,.int .i64 a0] 118)).heap.size=w.heap.size+1:=size_new w _
 have HB:Below w.heap.size w (w.alloc (.cells #[.int .u8 0,.string ⟨#[]⟩,.int .i64 a0] 118)):=(Below.refl _ _).alloc (Nat.le_refl _) _
 generalize w.alloc (.cells #[.int .u8 0,.string ⟨#[]⟩,.int .i64 a0] 118)=W0 at *
 have HW':Hid _:=HW
 have HS':Hid _:=HS
 have HB':Hid _:=HB
 clear HW HS HB
 have h1':a0≤to_:=by omega
 have after:∀ (o:Obj) (w3:World),Below (W0.drew.alloc o).heap.size (W0.drew.alloc o) w3→w3.heap[w.heap.size]? = some (.cells #[.int .u8 0,.string ⟨#[]⟩,.int .i64 a0] 118 (0,0)):=fun o w3 h=>by
  rw [h.block _ (by rw [size_new]; show w.heap.size < W0.heap.size+1; rw [HS'.out]; omega),Below.heap_alloc _ _ _ (by show w.heap.size < W0.heap.size; rw [HS'.out]; omega)]
  exact HW'.out
 go_region_with (go_at_call 278; refine (hr _ _ (cell_of (heap_alloc_new _ _))).mono ?_; rintro e w3 ⟨rfl,hB3⟩; have z:=after _ _ hB3; have z0:=cell_of (i:=0) z; have z1:=cell_of (i:=1) z; have f0:=froz_of (i:=0) z; have f1:=froz_of (i:=1) z; have Z:Hid _:=z; clear z)
 rw [hx'.out]
 have hz1:(w3.setCell ⟨w.heap.size,0,none⟩ (.int .u8 3)).heap[w.heap.size]? = some (.cells #[.int .u8 3,.string ⟨#[]⟩,.int .i64 a0] 118 (0,0)):=heap_setCell_same w3 w.heap.size 0 _ _ _ Z.out
 have hz2:=heap_setCell_same _ w.heap.size 1 _ _ (.string (dg u)) hz1
 have HB3:Below w.heap.size w ((w3.setCell ⟨w.heap.size,0,none⟩ (.int .u8 3)).setCell ⟨w.heap.size,1,none⟩ (.string (dg u))) :=
  (((((HB'.out).alloc HB'.out.size _).drew).trans (hB3.mono (by show w.heap.size≤(World.alloc _ _).heap.size; rw [size_new,HS'.out]; omega))).setCell (Nat.le_refl _) _).setCell (Nat.le_refl _) _
 clear z0 z1 f0 f1 Z hB3 hz1
 generalize (w3.setCell ⟨w.heap.size,0,none⟩ (.int .u8 3)).setCell ⟨w.heap.size,1,none⟩ (.string (dg u))=W5 at *
 have hz:W5.heap[w.heap.size]? = some (.cells #[.int .u8 3,.string (dg u),.int .i64 a0] 118 (0,0)):=hz2
 have z0:W5.cell? ⟨w.heap.size,0,none⟩=some (.int .u8 3):=cell_of (i:=0) hz
 have z1:W5.cell? ⟨w.heap.size,1,none⟩=some (.string (dg u)):=cell_of (i:=1) hz
 have z2:W5.cell? ⟨w.heap.size,2,none⟩=some (.int .i64 a0):=cell_of (i:=2) hz
 have hn:=fun (w':World) (h:Below w.heap.size w w')=>isNumber_c u hu w' (fun w2 h2=>hT w2 (h.trans (h2.mono h.size)))
 have Hz:Hid _:=hz
 have HB4:Hid _:=HB3
 have l0:=cell_lt z0
 clear hz hz2 HB3
 go_wp2
 have fr:∀ w',Below W5.heap.size W5.drew w'→w'.heap[w.heap.size]? = some (.cells #[.int .u8 3,.string (dg u),.int .i64 a0] 118 (0,0)):=fun w' h=>by rw [h.block _ l0]; exact Hz.out
 go_region_held3 (fun w'=>w'.cell? ⟨w.heap.size,0,none⟩=some (.int .u8 3)∧w'.cell? ⟨w.heap.size,1,none⟩=some (.string (dg u))∧w'.cell? ⟨w.heap.size,2,none⟩=some (.int .i64 a0))
  (first | exact ⟨z0,z1,z2⟩ | exact ⟨cell_of (i:=0) hh.out,cell_of (i:=1) hh.out,cell_of (i:=2) hh.out⟩ | exact ⟨cell_of (i:=0) (row3 hh.out),cell_of (i:=1) (row3 hh.out),cell_of (i:=2) (row3 hh.out)⟩)
  ((go_at_call 281; refine (hn _ (by exact HB4.out.drew)).mono ?_; rintro e w6 ⟨rfl,hB6⟩; have hh:Hid (w6.heap[w.heap.size]? = some (.cells #[.int .u8 3,.string (dg u),.int .i64 a0] 118 (0,0))):=fr _ hB6; have f0:=froz_of (i:=0) hh.out; have f1:=froz_of (i:=1) hh.out; have f2:=froz_of (i:=2) hh.out))
 have h9:=row3 (u:=.int .u8 3) (v:=.string (dg u)) (t:=.int .i64 a0) hh.out
 have b9:Below w.heap.size w (((w6.setCell ⟨w.heap.size,0,none⟩ (.int .u8 3)).setCell ⟨w.heap.size,1,none⟩ (.string (dg u))).setCell ⟨w.heap.size,2,none⟩ (.int .i64 a0)):=set3_below ((HB4.out.drew).trans (hB6.mono HB4.out.size)) (Nat.le_refl _)
 clear f0 f1 f2 z0 z1 z2 hh hB6 fr
 generalize ((w6.setCell ⟨w.heap.size,0,none⟩ (.int .u8 3)).setCell ⟨w.heap.size,1,none⟩ (.string (dg u))).setCell ⟨w.heap.size,2,none⟩ (.int .i64 a0)=W9 at *
 have y0:W9.cell? ⟨w.heap.size,0,none⟩=some (.int .u8 3):=cell_of (i:=0) h9
 have y1:W9.cell? ⟨w.heap.size,1,none⟩=some (.string (dg u)):=cell_of (i:=1) h9
 have y2:W9.cell? ⟨w.heap.size,2,none⟩=some (.int .i64 a0):=cell_of (i:=2) h9
 go_wp2
 exact bodyPost_ret (v:=.tuple #[.agg #[.int .u8 3,.string (dg u),.int .i64 a0],.bool true]) (by simp [results,Tryz.results204,go_sem,y0,y1,y2]) rfl ⟨rfl,b9⟩
end Lx
end Go.Proofs
namespace Go.Proofs
open Go.RowKit Go.Shelf Go.Sort
namespace Lx
def sgL:List ByteArray:=[⟨#[58,58]⟩,⟨#[58,61]⟩,⟨#[45,62]⟩,⟨#[46,46]⟩,⟨#[61,61]⟩,⟨#[33,61]⟩,⟨#[60,61]⟩,⟨#[62,61]⟩,⟨#[60]⟩,⟨#[62]⟩,⟨#[61]⟩,⟨#[43]⟩,⟨#[45]⟩,⟨#[42]⟩,⟨#[47]⟩,⟨#[37]⟩,⟨#[35]⟩,⟨#[40]⟩,⟨#[41]⟩,⟨#[91]⟩,⟨#[93]⟩,⟨#[123]⟩,⟨#[125]⟩,⟨#[44]⟩,⟨#[59]⟩,⟨#[58]⟩]
def sg (j:Nat):ByteArray:=sgL.getD j ByteArray.empty
def sgC:Array Value:=(sgL.map Value.string).toArray
theorem signs_c (w:World):Calls Tryz.prog 282 #[] w fun e w'=>e = .returned (.slice (some ⟨w.heap.size,0,none⟩) 26 26)∧w'=w.alloc (.cells sgC 9):=by
 go_enter Tryz.func282,Tryz.ntmps282
 go_wp2
 go_ret
 exact ⟨rfl,rfl⟩
theorem sg_cell {w:World} {B:Nat} (h:w.heap[B]? = some (.cells sgC 9 (0,0))) {j:Nat} (hj:j < 26):w.cell? ⟨B,j,none⟩=some (.string (sg j)):=by
 rw [cell_of h]
 unfold sgC sg
 rw [List.getElem?_toArray,List.getElem?_map,List.getD_eq_getElem?_getD,List.getElem?_eq_getElem (show j < sgL.length from hj)]
 rfl
theorem sg_size (j:Nat):(sg j).size≤2:=by
 by_cases h:j < 26
 · have:∀ k,k < 26→(sg k).size≤2:=by decide
   exact this j h
 · unfold sg
   rw [List.getD_eq_getElem?_getD,List.getElem?_eq_none (show sgL.length≤j by show 26≤j; omega)]
   decide
def pre (r:ByteArray) (j:Nat):Bool:=Lib.hasPrefix r.data.toList (sg j).data.toList
def best (r:ByteArray):Nat→ByteArray
 | 0=>⟨#[]⟩
 | j+1=>if pre r j=true∧(best r j).size < (sg j).size then sg j else best r j
theorem best_size (r:ByteArray) (j:Nat):(best r j).size≤2:=by
 induction j with
 | zero=>show (ByteArray.mk #[]).size≤2; decide
 | succ j ih=>unfold best; split; exact sg_size j; exact ih
theorem ba_ext {a b:ByteArray} (h:a.toList=b.toList):a=b:=by
 rw [ByteArray.toList_eq,ByteArray.toList_eq] at h
 cases a; cases b; exact congrArg _ (Array.ext' h)
def SgAt (w0:World) (r:ByteArray) (a0 k:Nat) (w:World):Prop:=Below w0.heap.size w0 w∧w.heap[w0.heap.size]? = some (.cells #[.int .u8 4,.string (best r k),.int .i64 a0] 118 (0,0))∧w.heap[w0.heap.size+1]? = some (.cells sgC 9 (0,0))
theorem SgAt.start (w:World) (r:ByteArray) (a0:Nat):SgAt w r a0 0 ((w.alloc (.cells #[.int .u8 4,.string ⟨#[]⟩,.int .i64 a0] 118)).alloc (.cells sgC 9)):=by
 have e:(w.alloc (.cells #[.int .u8 4,.string ⟨#[]⟩,.int .i64 a0] 118)).heap.size=w.heap.size+1:=size_new _ _
 refine ⟨((Below.refl _ _).alloc (Nat.le_refl _) _).alloc (by rw [e]; omega) _,?_,?_⟩
 · rw [Below.heap_alloc _ _ _ (by rw [e]; omega)]; exact heap_alloc_new _ _
 · rw [←e]; exact heap_alloc_new _ _
theorem SgAt.keep {w0 w:World} {r:ByteArray} {a0 k:Nat} (h:SgAt w0 r a0 k w) (hb:best r (k+1)=best r k):SgAt w0 r a0 (k+1) w:=by
 obtain ⟨h1,h2,h3⟩:=h
 exact ⟨h1,by rw [hb]; exact h2,h3⟩
theorem SgAt.put {w0 w:World} {r:ByteArray} {a0 k:Nat} (h:SgAt w0 r a0 k w) (hb:best r (k+1)=sg k):SgAt w0 r a0 (k+1) (w.setCell ⟨w0.heap.size,1,none⟩ (.string (sg k))):=by
 obtain ⟨h1,h2,h3⟩:=h
 refine ⟨h1.setCell (Nat.le_refl _) _,?_,?_⟩
 · rw [hb]; exact heap_setCell_same w _ 1 _ _ _ h2
 · rw [Below.heap_setCell _ _ _ _ (by show w0.heap.size+1≠w0.heap.size; omega)]; exact h3
set_option maxRecDepth 100000 in
theorem token_sign {s t:ByteArray} {a0:Nat} {w:World} (h1:a0 < s.size) (_hs:s.size≤1000000) (hl0:letB (by_ s a0)=false) (hd0:digB (by_ s a0)=false) (ht:best (s.extract a0 s.size) 26=t) (h0:t≠⟨#[]⟩) :
 Calls Tryz.prog 204 #[.string s,.int .i64 a0] w fun e w'=>e = .returned (.tuple #[.agg #[.int .u8 4,.string t,.int .i64 a0],.bool true])∧Below w.heap.size w w':=by
 rw [by_get s a0 h1] at hl0 hd0
 have hl:=fun w=>isLetter_c (s[a0].toNat:Int) w
 have hd:=fun w=>isDigit_c (s[a0].toNat:Int) w
 rw [hl0] at hl
 rw [hd0] at hd
 have ht':Hid (best (s.extract a0 s.size) 26=t):=ht
 have h0':Hid (t≠⟨#[]⟩):=h0
 have hsg:=fun w=>signs_c w
 have HB:Below w.heap.size w (w.alloc (.cells #[.int .u8 0,.string ⟨#[]⟩,.int .i64 a0] 118)):=(Below.refl _ _).alloc (Nat.le_refl _) _
 clear hl0 hd0 ht h0
 go_enter Tryz.func204,Tryz.ntmps204
 go_wp2_with (first | (go_at_call 277; refine (hl _).mono ?_; rintro e w2 ⟨rfl,rfl⟩) | (go_at_call 279; refine (hd _).mono ?_; rintro e w2 ⟨rfl,rfl⟩) | (go_at_call 282; refine (hsg _).mono ?_; rintro e w2 ⟨rfl,rfl⟩))
 have st:=SgAt.start w (s.extract a0 s.size) a0
 have hp:=fun k w=>Any.strings_HasPrefix Tryz.laysHp (s.extract a0 s.size) (sg k) w
 have hp:∀ k w,Calls Tryz.prog 283 #[.string (s.extract a0 s.size),.string (sg k)] w fun e w'=>e = .returned (.bool (pre (s.extract a0 s.size) k))∧w'=w:=hp
 have h1':a0≤s.size:=by omega
 go_loopw [56] (fun i wr=>∃ k:Nat,k≤26∧i = .int .i64 k∧SgAt w (s.extract a0 s.size) a0 k wr) (fun i _=>26 - (intOf i).toNat)
 case atStart=>exact ⟨0,Nat.zero_le _,rfl,st⟩
 case round =>
  obtain ⟨k,hk,rfl,hR⟩:=hrel
  have hR':=hR
  obtain ⟨hB,r1,r2⟩:=hR'
  have y1:wr.cell? ⟨w.heap.size,1,none⟩=some (.string (best (s.extract a0 s.size) k)):=cell_of (i:=1) r1
  have f1:=froz_of (i:=1) r1
  have HR:Hid (SgAt w (s.extract a0 s.size) a0 k wr):=hR
  by_cases hk2:k < 26
  · have g0:=sg_cell r2 hk2
    clear hR r1 r2
    have hpk:=hp k wr
    have hsz1:=best_size (s.extract a0 s.size) k
    have hsz2:=sg_size k
    have hbn:best (s.extract a0 s.size) (k+1)=if pre (s.extract a0 s.size) k=true∧(best (s.extract a0 s.size) k).size < (sg k).size then sg k else best (s.extract a0 s.size) k:=rfl
    cases hpr:pre (s.extract a0 s.size) k with
    | false =>
     have hb2:Hid (best (s.extract a0 s.size) (k+1)=best (s.extract a0 s.size) k):=by
      show best _ (k+1)=_
      rw [hbn,hpr,if_neg (by simp)]
     rw [hpr] at hpk
     have HR2:Hid (SgAt w (s.extract a0 s.size) a0 (k+1) wr):=SgAt.keep HR.out hb2.out
     clear hbn hpr hp hb2 HR
     generalize best (s.extract a0 s.size) k=cur at *
     generalize sg k=g at *
     go_wp2_with (go_at_call 283; refine hpk.mono ?_; rintro e w2 ⟨rfl,rfl⟩)
     go_roundw
     case rel=>exact ⟨k+1,by omega,by go_num,HR2.out⟩
     case measure=>simp [intOf]; omega
    | true =>
     rw [hpr] at hpk hbn
     by_cases hlt:(best (s.extract a0 s.size) k).size < (sg k).size
     · have hb2:best (s.extract a0 s.size) (k+1)=sg k:=by rw [hbn,if_pos ⟨rfl,hlt⟩]
       have HR2:Hid (SgAt w (s.extract a0 s.size) a0 (k+1) (wr.setCell ⟨w.heap.size,1,none⟩ (.string (sg k)))):=SgAt.put HR.out hb2
       clear hbn hpr hp hb2 HR
       generalize best (s.extract a0 s.size) k=cur at *
       generalize sg k=g at *
       go_wp2_with (go_at_call 283; refine hpk.mono ?_; rintro e w2 ⟨rfl,rfl⟩)
       go_roundw
       case rel=>exact ⟨k+1,by omega,by go_num,HR2.out⟩
       case measure=>simp [intOf]; omega
     · have hb2:best (s.extract a0 s.size) (k+1)=best (s.extract a0 s.size) k:=by rw [hbn,if_neg (fun h=>hlt h.2)]
       have HR2:Hid (SgAt w (s.extract a0 s.size) a0 (k+1) wr):=SgAt.keep HR.out hb2
       have hle:(sg k).size≤(best (s.extract a0 s.size) k).size:=by omega
       clear hbn hpr hp hb2 HR hlt
       generalize best (s.extract a0 s.size) k=cur at *
       generalize sg k=g at *
       go_wp2_with (go_at_call 283; refine hpk.mono ?_; rintro e w2 ⟨rfl,rfl⟩)
       go_roundw
       case rel=>exact ⟨k+1,by omega,by go_num,HR2.out⟩
       case measure=>simp [intOf]; omega
  · obtain rfl:k=26:=by omega
    clear hR y1 f1
    have r1':=r1
    rw [ht'.out] at r1'
    have z0:wr.cell? ⟨w.heap.size,0,none⟩=some (.int .u8 4):=cell_of (i:=0) r1'
    have z1:wr.cell? ⟨w.heap.size,1,none⟩=some (.string t):=cell_of (i:=1) r1'
    have z2:wr.cell? ⟨w.heap.size,2,none⟩=some (.int .i64 a0):=cell_of (i:=2) r1'
    have f0:=froz_of (i:=0) r1'
    have f1:=froz_of (i:=1) r1'
    have f2:=froz_of (i:=2) r1'
    have hne:t.toList≠[]:=fun e=>h0'.out (ba_ext (by rw [e,ByteArray.toList_eq]))
    have e1:(t.toList == [])=false:=by simpa using hne
    have e2:(t.toList != [])=true:=by simpa using hne
    have e3:(!t.toList.isEmpty)=true:=by simpa using hne
    have h9:=row3 (u:=.int .u8 4) (v:=.string t) (t:=.int .i64 a0) r1'
    have H9:Hid _:=h9
    have b9:Hid (Below w.heap.size w (((wr.setCell ⟨w.heap.size,0,none⟩ (.int .u8 4)).setCell ⟨w.heap.size,1,none⟩ (.string t)).setCell ⟨w.heap.size,2,none⟩ (.int .i64 a0))):=set3_below hB (Nat.le_refl _)
    clear r1 r2 hp r1' h9 hne
    go_wp2
    have h9:=H9.out
    have b9':=b9.out
    clear H9 b9 z0 z1 z2 f0 f1 f2
    generalize ((wr.setCell ⟨w.heap.size,0,none⟩ (.int .u8 4)).setCell ⟨w.heap.size,1,none⟩ (.string t)).setCell ⟨w.heap.size,2,none⟩ (.int .i64 a0)=W9 at *
    have y0:W9.cell? ⟨w.heap.size,0,none⟩=some (.int .u8 4):=cell_of (i:=0) h9
    have y1:W9.cell? ⟨w.heap.size,1,none⟩=some (.string t):=cell_of (i:=1) h9
    have y2:W9.cell? ⟨w.heap.size,2,none⟩=some (.int .i64 a0):=cell_of (i:=2) h9
    exact bodyPost_ret (v:=.tuple #[.agg #[.int .u8 4,.string t,.int .i64 a0],.bool true]) (by simp [results,Tryz.results204,go_sem,y0,y1,y2]) rfl ⟨rfl,b9'⟩
end Lx
end Go.Proofs
namespace Go.Proofs
open Go.RowKit Go.Shelf Go.Sort
namespace Lx
def Kw (isK:ByteArray→Bool) (w:World) (m:Nat):Prop:=∀ t:ByteArray,t.size≤12→∀ w2:World,w2.heap[m]? = w.heap[m]?→(Instr.lookup 431 (.map (some m)) (.string t) false).run Tryz.prog w2 = .ok (.bool (isK t)) w2
set_option maxRecDepth 100000 in
theorem token_word {isK:ByteArray→Bool} {s t:ByteArray} {a0 to_:Nat} {kd:Int} {w:World} (hkd:kd=if isK t=true then 1 else 2) (h1:a0 < to_) (h2:to_≤s.size) (hs:s.size≤1000000) (hl0:letB (by_ s a0)=true) (hb:∀ i,a0≤i→i < to_→(letB (by_ s i) || digB (by_ s i))=true) (he:to_ < s.size→(letB (by_ s to_) || digB (by_ s to_))=false)
 (hx:s.extract a0 to_=t) (ht:t.size≤12) (hK:∀ w',Below w.heap.size w w'→Calls Tryz.prog 280 #[] w' fun e w2=>∃ m,e = .returned (.map (some m))∧Below w'.heap.size w' w2∧Kw isK w2 m) :
 Calls Tryz.prog 204 #[.string s,.int .i64 a0] w fun e w'=>e = .returned (.tuple #[.agg #[.int .u8 kd,.string t,.int .i64 a0],.bool true])∧Below w.heap.size w w':=by
 have hkd':Hid (kd=if isK t=true then 1 else 2):=hkd
 clear hkd
 rw [by_get s a0 (by omega)] at hl0
 have hl:=fun w=>isLetter_c (s[a0].toNat:Int) w
 rw [hl0] at hl
 have hb':Hid (∀ i,a0≤i→i < to_→(letB (by_ s i) || digB (by_ s i))=true):=hb
 have he':Hid (to_ < s.size→(letB (by_ s to_) || digB (by_ s to_))=false):=he
 have hx':Hid (s.extract a0 to_=t):=hx
 have hlt:a0 < s.size:=by omega
 have h1':a0≤to_:=by omega
 have hr:=fun (W:World) (B:Nat) (g:W.cell? ⟨B,0,none⟩=some (.func (.func 277) #[] #[])) (g1:W.cell? ⟨B,0+1,none⟩=some (.func (.func 279) #[] #[]))=>run_word (s:=s) (a0:=a0) (to_:=to_) (b:=B) (o:=0) (c:=2) (w:=W) (by omega) h2 hs hb'.out he'.out g g1
 clear hl0 hb he hx
 have e1:(w.alloc (.cells #[.int .u8 0,.string ⟨#[]⟩,.int .i64 a0] 118)).heap.size=w.heap.size+1:=size_new _ _
 have G:((w.alloc (.cells #[.int .u8 0,.string ⟨#[]⟩,.int .i64 a0] 118)).alloc (.cells #[.func (.func 277) #[] #[],.func (.func 279) #[] #[]] 200)).heap[w.heap.size+1]? = some (.cells #[.func (.func 277) #[] #[],.func (.func 279) #[] #[]] 200 (0,0)):=by rw [←e1]; exact heap_alloc_new _ _
 have HW:((w.alloc (.cells #[.int .u8 0,.string ⟨#[]⟩,.int .i64 a0] 118)).alloc (.cells #[.func (.func 277) #[] #[],.func (.func 279) #[] #[]] 200)).heap[w.heap.size]? = some (.cells #[.int .u8 0,.string ⟨#[]⟩,.int .i64 a0] 118 (0,0)):=by
  rw [Below.heap_alloc _ _ _ (by rw [e1]; omega)]; exact heap_alloc_new _ _
 have HB:Below w.heap.size w ((w.alloc (.cells #[.int .u8 0,.string ⟨#[]⟩,.int .i64 a0] 118)).alloc (.cells #[.func (.func 277) #[] #[],.func (.func 279) #[] #[]] 200)):=((Below.refl _ _).alloc (Nat.le_refl _) _).alloc (by rw [e1]; omega) _
 have HS:((w.alloc (.cells #[.int .u8 0,.string ⟨#[]⟩,.int .i64 a0] 118)).alloc (.cells #[.func (.func 277) #[] #[],.func (.func 279) #[] #[]] 200)).heap.size=w.heap.size+2:=by rw [size_new,e1]
 have hr2:=hr _ _ (cell_of (i:=0) G) (cell_of (i:=0+1) G)
 have fin:∀ w3,Below ((w.alloc (.cells #[.int .u8 0,.string ⟨#[]⟩,.int .i64 a0] 118)).alloc (.cells #[.func (.func 277) #[] #[],.func (.func 279) #[] #[]] 200)).heap.size ((w.alloc (.cells #[.int .u8 0,.string ⟨#[]⟩,.int .i64 a0] 118)).alloc (.cells #[.func (.func 277) #[] #[],.func (.func 279) #[] #[]] 200)) w3→w3.heap[w.heap.size]? = some (.cells #[.int .u8 0,.string ⟨#[]⟩,.int .i64 a0] 118 (0,0))∧Below w.heap.size w w3:=fun w3 h =>
  ⟨by rw [h.block _ (by rw [HS]; omega)]; exact HW,HB.trans (h.mono HB.size)⟩
 clear hr G HW HB HS e1
 go_enter Tryz.func204,Tryz.ntmps204
 go_wp2_with (first | (go_at_call 277; refine (hl _).mono ?_; rintro e w2 ⟨rfl,rfl⟩) | (go_at_call 278; refine hr2.mono ?_; rintro e w3 ⟨rfl,hB3⟩; obtain ⟨z,hB4⟩:=fin _ hB3; have f1:=froz_of (i:=1) z; have z1:w3.cell? ⟨w.heap.size,1,none⟩=some (.string ⟨#[]⟩):=cell_of (i:=1) z; have Z:Hid _:=z; clear z))
 rw [hx'.out]
 have z3:(w3.setCell ⟨w.heap.size,1,none⟩ (.string t)).heap[w.heap.size]? = some (.cells #[.int .u8 0,.string t,.int .i64 a0] 118 (0,0)):=heap_setCell_same w3 w.heap.size 1 _ _ _ Z.out
 have HB5:Below w.heap.size w (w3.setCell ⟨w.heap.size,1,none⟩ (.string t)):=hB4.setCell (Nat.le_refl _) _
 clear z1 f1 Z hB3 hB4 fin hr2
 generalize w3.setCell ⟨w.heap.size,1,none⟩ (.string t)=W5 at *
 have y1:W5.cell? ⟨w.heap.size,1,none⟩=some (.string t):=cell_of (i:=1) z3
 have l0:=cell_lt y1
 have Z3:Hid _:=z3
 have HB6:Hid _:=HB5
 have hk:=fun (w':World) (h:Below w.heap.size w w')=>hK w' h
 have fr:∀ w',Below W5.heap.size W5.drew w'→w'.heap[w.heap.size]? = some (.cells #[.int .u8 0,.string t,.int .i64 a0] 118 (0,0)):=fun w' h=>by rw [h.block _ l0]; exact Z3.out
 clear z3 HB5 hK
 go_region_held3 (fun w'=>w'.cell? ⟨w.heap.size,1,none⟩=some (.string t))
  (first | exact y1 | exact cell_of (i:=1) hh.out)
  ((go_at_call 280; refine (hk _ (by exact HB6.out.drew)).mono ?_; rintro e w6 ⟨m,rfl,hB6,hkw⟩; have hh:Hid (w6.heap[w.heap.size]? = some (.cells #[.int .u8 0,.string t,.int .i64 a0] 118 (0,0))):=fr _ hB6; have hlk:=hkw t ht w6 rfl))
 have z0:w6.cell? ⟨w.heap.size,0,none⟩=some (.int .u8 0):=cell_of (i:=0) hh.out
 have z1:w6.cell? ⟨w.heap.size,1,none⟩=some (.string t):=cell_of (i:=1) hh.out
 have z2:w6.cell? ⟨w.heap.size,2,none⟩=some (.int .i64 a0):=cell_of (i:=2) hh.out
 have f0:=froz_of (i:=0) hh.out
 have f1:=froz_of (i:=1) hh.out
 have f2:=froz_of (i:=2) hh.out
 have h7:=fun k:Int=>heap_setCell_same w6 w.heap.size 0 _ _ (.int .u8 k) hh.out
 have H7:Hid (∀ k:Int,(w6.setCell ⟨w.heap.size,0,none⟩ (.int .u8 k)).heap[w.heap.size]? = some (.cells #[.int .u8 k,.string t,.int .i64 a0] 118 (0,0))):=h7
 have HB7:Hid (Below w.heap.size w w6):=(HB6.out.drew).trans (hB6.mono HB6.out.size)
 rename_i hHeld
 clear hlk hkw hB6 hk fr hHeld h7 y1 l0 Z3 HB6 hh
 cases hq:isK t with
 | true =>
  have hk1:kd=1:=by rw [hkd'.out,hq]; rfl
  clear hq hkd'
  subst hk1
  go_wp2
  have h9:=row3 (u:=.int .u8 1) (v:=.string t) (t:=.int .i64 a0) (H7.out 1)
  have b9:=set3_below (u:=.int .u8 1) (v:=.string t) (t:=.int .i64 a0) (HB7.out.setCell (p:=⟨w.heap.size,0,none⟩) (Nat.le_refl _) (.int .u8 1)) (Nat.le_refl _)
  clear z0 z1 z2 f0 f1 f2 H7 HB7
  generalize (((w6.setCell ⟨w.heap.size,0,none⟩ (.int .u8 1)).setCell ⟨w.heap.size,0,none⟩ (.int .u8 1)).setCell ⟨w.heap.size,1,none⟩ (.string t)).setCell ⟨w.heap.size,2,none⟩ (.int .i64 a0)=W9 at *
  have y0:W9.cell? ⟨w.heap.size,0,none⟩=some (.int .u8 1):=cell_of (i:=0) h9
  have y1:W9.cell? ⟨w.heap.size,1,none⟩=some (.string t):=cell_of (i:=1) h9
  have y2:W9.cell? ⟨w.heap.size,2,none⟩=some (.int .i64 a0):=cell_of (i:=2) h9
  exact bodyPost_ret (v:=.tuple #[.agg #[.int .u8 1,.string t,.int .i64 a0],.bool true]) (by simp [results,Tryz.results204,go_sem,y0,y1,y2]) rfl ⟨rfl,b9⟩
 | false =>
  have hk1:kd=2:=by rw [hkd'.out,hq]; rfl
  clear hq hkd'
  subst hk1
  go_wp2
  all_goals
   have h9:=row3 (u:=.int .u8 2) (v:=.string t) (t:=.int .i64 a0) (H7.out 2)
   have b9:=set3_below (u:=.int .u8 2) (v:=.string t) (t:=.int .i64 a0) (HB7.out.setCell (p:=⟨w.heap.size,0,none⟩) (Nat.le_refl _) (.int .u8 2)) (Nat.le_refl _)
   clear z0 z1 z2 f0 f1 f2 H7 HB7
   generalize (((w6.setCell ⟨w.heap.size,0,none⟩ (.int .u8 2)).setCell ⟨w.heap.size,0,none⟩ (.int .u8 2)).setCell ⟨w.heap.size,1,none⟩ (.string t)).setCell ⟨w.heap.size,2,none⟩ (.int .i64 a0)=W9 at *
   have y0:W9.cell? ⟨w.heap.size,0,none⟩=some (.int .u8 2):=cell_of (i:=0) h9
   have y1:W9.cell? ⟨w.heap.size,1,none⟩=some (.string t):=cell_of (i:=1) h9
   have y2:W9.cell? ⟨w.heap.size,2,none⟩=some (.int .i64 a0):=cell_of (i:=2) h9
   exact bodyPost_ret (v:=.tuple #[.agg #[.int .u8 2,.string t,.int .i64 a0],.bool true]) (by simp [results,Tryz.results204,go_sem,y0,y1,y2]; try omega) rfl ⟨rfl,b9⟩
end Lx
end Go.Proofs
