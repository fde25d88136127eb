/- PROVED HERE: a part (We) of the tied card of LibAccepted (floodgatelaw25). CONDITIONS: those of the given row and card alone. -/
import Derived.Test.YtbelbhnfjejnmaaGreatDoorWb
import Derived.Test.YtbelbhnfjejnmaaGreatDoorWa
import Derived.Test.YtbelbhnfjejnmaaGreatDoorSh
import Derived.Test.YtbelbhnfjejnmaaGreatDoorEvg
import Derived.Shelf.Strings.BuilderK
namespace Go.Proofs
open Go.RowKit Go.Shelf Go.Sort
namespace Lb
theorem grown_grow (w:World) (k:Nat) (os:Array Obj):w.grownBy (grow (w.drewN k) os) none:=⟨rfl,rfl,rfl,by show w.heap.size≤(w.heap++os).size; simp,fun j hj _=>by show (w.heap++os)[j]? = w.heap[j]?; exact Array.getElem?_append_left hj⟩
theorem itoa_q (n:Int) (h0 : -9223372036854775808≤n) (h1:n≤9223372036854775807) (w:World) (hT:Lib.TabIs Tryz.prog w "internal/strconv.uint64pow10" .u64 Lib.pow10Tab) :
 Calls Tryz.prog 78 #[.int .i64 n] w fun e w'=>e = .returned (.string (mkD (Lib.itoa n)))∧w.grownBy w' none:=by
 refine (Any.strconv_Itoa Tryz.laysIt n h0 h1 w hT).mono ?_
 rintro e w' ⟨rfl,k,os,rfl⟩
 exact ⟨rfl,grown_grow w k os⟩
theorem clone_q (l:List Int) (v:Value) (w:World) (h:HasI w v l) (hl:l.length≤60) :
 Calls Tryz.prog 79 #[v] w fun e w'=>∃ v',e = .returned v'∧w'.ownsRow w.heap.size 3 1 v' l.length (l.map (Value.int .i64))∧w.grownBy w' none:=by
 obtain ⟨p,c,rfl,h⟩:=h
 by_cases h0:l = []
 · subst h0
   cases p with
   | none =>
    refine (Any.slices_Clone_int_nil Tryz.laysCl 0 c w).mono ?_
    rintro e w' ⟨rfl,rfl⟩
    exact ⟨_,rfl,World.ownsRow_nil _ _ _ _,⟨rfl,rfl,rfl,Nat.le_refl _,fun _ _ _=>rfl⟩⟩
   | some a =>
    refine (Any.slices_Clone_int_zero Tryz.laysCl a c w).mono ?_
    rintro e w' ⟨v',rfl,ho,_,hB⟩
    exact ⟨v',rfl,ho,grown_below hB⟩
 · obtain ⟨b,o,rfl,hc⟩:=h h0
   refine (Any.slices_Clone_int Tryz.laysCl b o l.length c l w (Nat.le_refl _) (by omega) hc).mono ?_
   rintro e w' ⟨v',rfl,ho,_,hB⟩
   rw [List.take_length] at ho
   exact ⟨v',rfl,ho,grown_below hB⟩
theorem exJn:Builder.Extra Tryz.prog Tryz.laysJn_ren:={
 sizeBuilder:=by kernel_rfl
 liesBuilder:=by kernel_rfl
 t5:=Tryz.underlying5
 a5:=Tryz.isAgg5
 z5:=Tryz.sizeOf5
 v5:=Tryz.zeroValue5
 infoByte:=by kernel_rfl
 cellsByte:=by kernel_rfl
 sizeByte:=by kernel_rfl
 neB5:=by decide }
theorem join_q (xs:List ByteArray) (sep:ByteArray) (v:Value) (w:World) (h:HasS w v xs) (hl:xs.length≤100) (hs:(joinB xs sep).size≤140737488355328) (hcap:∀ p c,v = .slice p xs.length c→xs.length≤c) :
 Calls Tryz.prog 82 #[v,.string sep] w fun e w'=>e = .returned (.string (joinB xs sep))∧w.grownBy w' none:=by
 obtain ⟨p,c,rfl,h⟩:=h
 match xs,h,hl,hs,hcap with
 | [],_,_,_,_ =>
  refine (Any.strings_Join_none Tryz.laysJn exJn p c sep w).mono ?_
  rintro e w' ⟨rfl,rfl⟩
  exact ⟨rfl,⟨rfl,rfl,rfl,Nat.le_refl _,fun _ _ _=>rfl⟩⟩
 | [x],h,_,_,_ =>
  obtain ⟨b,o,rfl,hc⟩:=h (by simp)
  refine (Any.strings_Join_one Tryz.laysJn exJn b o c x sep w (hc 0 (by simp))).mono ?_
  rintro e w' ⟨rfl,rfl⟩
  refine ⟨?_,⟨rfl,rfl,rfl,Nat.le_refl _,fun _ _ _=>rfl⟩⟩
  rw [show joinB [x] sep=x from bytes_ext (by show Lib.join [x.data.toList] sep.data.toList=_; rw [Lib.join_one])]
 | x :: y :: r,h,hl,hs,hcap =>
  obtain ⟨b,o,rfl,hc⟩:=h (by simp)
  refine (Any.strings_Join_many Tryz.laysJn exJn b o c (x :: y :: r) sep w (fun j z hj=>?_) (cell_lt (hc 0 (by simp))) (by simp) (by omega) (hcap _ _ rfl) hs).mono ?_
  · have hjl:=(List.getElem?_eq_some_iff.1 hj).1
    rw [hc j hjl,List.getD_eq_getElem?_getD,hj]; rfl
  · rintro e w' ⟨rfl,hB⟩
    exact ⟨rfl,grown_below hB⟩
end Lb
end Go.Proofs
namespace Go.Proofs
open Go.RowKit
namespace Lb
def nthB:ByteArray:=⟨#[110,116,104]⟩
def packB:ByteArray:=⟨#[112,97,99,107]⟩
def sepB:ByteArray:=⟨#[44,32]⟩
def nmB (k:Nat):ByteArray:=⟨#[115]⟩++mkD (Lib.itoa (k:Int))
def parB (k:Nat):ByteArray:=nmB k++⟨#[58,32]⟩++⟨#[115,116,114,101,97,109,32,105,110,116]⟩
def pckB (k m:Nat):ByteArray:=⟨#[112,97,99,107,40]⟩++nmB k++⟨#[44,32]⟩++mkD (Lib.itoa (m:Int))++⟨#[41]⟩
def isArr (pr:ByteArray):Bool:=pr.toList == [91,105,110,116,93]
structure St where
 R:List ByteArray
 Pa:List ByteArray
 Gi:List ByteArray
 L:List (List Int)
def stNum (a:AArg) (s:St):St:=⟨s.R,s.Pa,s.Gi ++ [mkD (Lib.itoa a.n)],s.L⟩
def stArr (add:List ByteArray) (a:AArg) (s:St):St:=⟨s.R++add,s.Pa ++ [parB s.Pa.length],s.Gi ++ [pckB s.Pa.length a.l.length],s.L ++ [a.l]⟩
def stStr (a:AArg) (s:St):St:=⟨s.R,s.Pa ++ [parB s.Pa.length],s.Gi ++ [nmB s.Pa.length],s.L ++ [a.l]⟩
def st1 (add:List ByteArray) (pr:ByteArray) (a:AArg) (s:St):St:=if a.il=false then stNum a s else if isArr pr=true then stArr add a s else stStr a s
def stK (add:List ByteArray) (nm0:ByteArray) (prs:List ByteArray) (xs:List AArg):Nat→St
 | 0=>⟨[nm0],[],[],[]⟩
 | k+1=>st1 add (prs.getD k ByteArray.empty) (xs.getD k default) (stK add nm0 prs xs k)
theorem stK_len (add:List ByteArray) (nm0:ByteArray) (prs:List ByteArray) (xs:List AArg):∀ k,(stK add nm0 prs xs k).R.length≤1+k * add.length∧(stK add nm0 prs xs k).Pa.length≤k∧(stK add nm0 prs xs k).Gi.length=k∧(stK add nm0 prs xs k).L.length=(stK add nm0 prs xs k).Pa.length
 | 0=>⟨by simp [stK],by simp [stK],by simp [stK],by simp [stK]⟩
 | k+1=>by
  obtain ⟨h1,h2,h3,h4⟩:=stK_len add nm0 prs xs k
  have e:(k+1) * add.length=k * add.length+add.length:=Nat.succ_mul _ _
  unfold stK st1
  split
  · refine ⟨?_,?_,?_,?_⟩ <;> simp [stNum] <;> omega
  · split
    · refine ⟨?_,?_,?_,?_⟩ <;> simp [stArr] <;> omega
    · refine ⟨?_,?_,?_,?_⟩ <;> simp [stStr] <;> omega
theorem itoa_size (n:Int) (h0 : -9223372036854775808≤n) (h1:n≤9223372036854775807):(mkD (Lib.itoa n)).size≤21:=Lib.itoa_length_le n h0 h1
theorem nmB_size (k:Nat) (h:k≤100):(nmB k).size≤22:=by
 unfold nmB
 rw [size_append]
 have:=itoa_size (k:Int) (by omega) (by omega)
 show 1+_≤22
 omega
end Lb
end Go.Proofs
namespace Go.Proofs
open Go.RowKit
namespace Lb
theorem tabGl:Tryz.prog.globalNamed "internal/strconv.uint64pow10" = some 1:=by kernel_rfl
def Tab (w:World):Prop:=Lib.TabIs Tryz.prog w "internal/strconv.uint64pow10" .u64 Lib.pow10Tab
theorem Tab.below {w w':World} (h:Tab w) (hB:Below w.heap.size w w'):Tab w':=by
 have hs:=Go.Ev.tab_size tabGl h
 unfold Tab Lib.TabIs at *
 rw [Go.Ev.var_of_heap tabGl (hB.block 1 (by omega))]; exact h
def ofW (w:World) (nm0 tx0:ByteArray) (pv rv cv:Value):World :=
 ((w.alloc (.cells #[.string nm0,.string tx0,pv,rv,cv] 110)).alloc (.cells #[.slice none 0 0,.slice none 0 0,.string ⟨#[]⟩] 69)).alloc (.cells #[.string nm0] 9)
theorem ofW_size (w:World) (nm0 tx0:ByteArray) (pv rv cv:Value):(ofW w nm0 tx0 pv rv cv).heap.size=w.heap.size+3:=by unfold ofW; rw [size_new,size_new,size_new]
theorem ofW_below (w:World) (nm0 tx0:ByteArray) (pv rv cv:Value):Below w.heap.size w (ofW w nm0 tx0 pv rv cv):=by
 unfold ofW
 exact (((Below.refl _ _).alloc (Nat.le_refl _) _).alloc (by rw [size_new]; omega) _).alloc (by rw [size_new,size_new]; omega) _
theorem ofW_d (w:World) (nm0 tx0:ByteArray) (pv rv cv:Value):(ofW w nm0 tx0 pv rv cv).heap[w.heap.size]? = some (.cells #[.string nm0,.string tx0,pv,rv,cv] 110 (0,0)):=by
 unfold ofW
 rw [heap_alloc_old _ _ (by rw [size_new,size_new]; omega),heap_alloc_old _ _ (by rw [size_new]; omega)]
 exact heap_alloc_new w _
theorem ofW_start (w:World) (nm0 tx0:ByteArray) (pv rv cv:Value) :
 Of (w.heap.size+2) (w.heap.size+1) 69 [.string ⟨#[]⟩] (ofW w nm0 tx0 pv rv cv) (.slice (some ⟨w.heap.size+1+1,0,none⟩) 1 1) (.slice none 0 0) (.slice none 0 0) (.slice none 0 0) (.slice none 0 0) [nm0] [] [] []:=by
 have s1:=size_new w (.cells #[.string nm0,.string tx0,pv,rv,cv] 110)
 have s2:=size_new (w.alloc (.cells #[.string nm0,.string tx0,pv,rv,cv] 110)) (.cells #[.slice none 0 0,.slice none 0 0,.string ⟨#[]⟩] 69)
 refine ⟨?_,?_,World.ownsRow_nil _ _ _ _,World.ownsRow_nil _ _ _ _,⟨[],World.ownsRow_nil _ _ _ _,fun j h=>absurd h (Nat.not_lt_zero _)⟩,World.ownsRow_nil _ _ _ _,.inr (by simp [Value.ownBlock]),.inr (by simp [Value.ownBlock]),.inl rfl⟩
 · unfold ofW
   rw [heap_alloc_old _ _ (by rw [s2,s1]; omega)]
   have:=heap_alloc_new (w.alloc (.cells #[.string nm0,.string tx0,pv,rv,cv] 110)) (.cells #[.slice none 0 0,.slice none 0 0,.string ⟨#[]⟩] 69)
   rw [s1] at this
   exact this
 · refine ⟨rfl,.inr ⟨w.heap.size+1+1,1,#[.string nm0],rfl,by omega,?_,Nat.le_refl _,by decide,rfl,rfl⟩⟩
   unfold ofW
   have:=heap_alloc_new ((w.alloc (.cells #[.string nm0,.string tx0,pv,rv,cv] 110)).alloc (.cells #[.slice none 0 0,.slice none 0 0,.string ⟨#[]⟩] 69)) (.cells #[.string nm0] 9)
   rw [s2,s1] at this
   exact this
end Lb
end Go.Proofs
namespace Go.Proofs
open Go.RowKit Go.Shelf
namespace Lb
def Bu (D b:Nat) (t:ByteArray) (w:World):Prop :=
 ∃ p v,(p = .pointer none∨p = .pointer (some ⟨b,0,none⟩))∧w.heap[b]? = some (.cells #[p,v] 186 (0,0))∧w.ownsRow D 5 1 v t.size (Lib.strCells t)
structure Kp (D b:Nat) (w w':World):Prop where
 os:w'.os=w.os
 tape:w'.tape=w.tape
 output:w'.output=w.output
 size:w.heap.size≤w'.heap.size
 block:∀ k,k < D→k≠b→w'.heap[k]? = w.heap[k]?
theorem Kp.refl (D b:Nat) (w:World):Kp D b w w:=⟨rfl,rfl,rfl,Nat.le_refl _,fun _ _ _=>rfl⟩
theorem Kp.trans {D b:Nat} {w w' w2:World} (h:Kp D b w w') (k:Kp D b w' w2):Kp D b w w2 :=
 ⟨k.os.trans h.os,k.tape.trans h.tape,k.output.trans h.output,Nat.le_trans h.size k.size,fun i hi hb=>(k.block i hi hb).trans (h.block i hi hb)⟩
theorem strCells_append (s t:ByteArray):Lib.strCells (s++t)=Lib.strCells s++Lib.strCells t:=by
 unfold Lib.strCells
 rw [show (s++t).data=s.data++t.data from ByteArray.data_append]
 simp
theorem infoByte:(Tryz.prog.info? 5).map (fun i=>(i.zero,i.size,i.bytes))=some (some (.int .u8 0),1,1):=by kernel_rfl
set_option maxRecDepth 100000 in
set_option maxHeartbeats 2000000 in
theorem cc_q {D b:Nat} {t:ByteArray} {w:World} (h:Bu D b t w):Calls Tryz.prog 130 #[.pointer (some ⟨b,0,none⟩)] w fun e w'=>e = .returned (.tuple #[])∧(∃ v,w'.heap[b]? = some (.cells #[.pointer (some ⟨b,0,none⟩),v] 186 (0,0))∧w'.ownsRow D 5 1 v t.size (Lib.strCells t))∧Kp D b w w':=by
 obtain ⟨p,v,hp,hb,ho⟩:=h
 have c0:w.cell? ⟨b,0,none⟩=some p:=by rw [Lib.cell_of_heap hb]; rfl
 rcases hp with rfl | rfl
 · have hsh:w.shape? b=some (186,2):=by simp [World.shape?,hb]
   refine (Any.Builder_copyCheck_fresh (L:={ Tryz.laysJn with }) exJn.toX72 b w c0 hsh (Lib.frozen_of_heap hb 0)).mono ?_
   rintro e w' ⟨rfl,rfl⟩
   refine ⟨rfl,⟨v,heap_setCell_same w b 0 _ _ _ hb,ownsRow_setCell_other ho ?_ _⟩,⟨rfl,rfl,rfl,by simp [World.setCell],fun k _ hk=>heap_setCell_other _ _ _ _ hk⟩⟩
   intro e
   rcases ho.2 with ⟨rfl,_⟩ | ⟨g,c,cur,rfl,_,hg,_⟩
   · cases e
   · have e:g=b:=by simpa [Value.ownBlock] using e
     subst e
     rw [hb] at hg; cases hg
 · refine (Any.Builder_copyCheck_used (L:={ Tryz.laysJn with }) exJn.toX72 b w c0).mono ?_
   rintro e w' ⟨rfl,rfl⟩
   exact ⟨rfl,⟨v,hb,ho⟩,Kp.refl _ _ _⟩
set_option maxRecDepth 100000 in
set_option maxHeartbeats 2000000 in
theorem ws_q {D b:Nat} {t:ByteArray} {w:World} (s:ByteArray) (h:Bu D b t w) (hbD:b < D) (hD:D≤w.heap.size) (hl:t.size+s.size≤140737488355328) :
 Calls Tryz.prog 81 #[.pointer (some ⟨b,0,none⟩),.string s] w fun e w'=>e = .returned (.tuple #[.int .i64 s.size,.nilIface])∧Bu D b (t++s) w'∧Kp D b w w':=by
 obtain ⟨i0,hi,hz0,hz1,hz2⟩:=info_parts infoByte
 have hc:=cc_q h
 go_enter Tryz.func81,Tryz.ntmps81
 go_wp2_with (go_at_call 130; refine hc.mono ?_)
 rintro e w1 ⟨rfl,⟨v,hbk,hown⟩,hk1⟩
 have hs1:=hk1.size
 have c0:w1.cell? ⟨b,0,none⟩=some (.pointer (some ⟨b,0,none⟩)):=by rw [Lib.cell_of_heap hbk]; rfl
 have c1:w1.cell? ⟨b,1,none⟩=some v:=by rw [Lib.cell_of_heap hbk]; rfl
 go_wp2_with (at_builtin; refine Lib.wpList_append_own_string _ rfl _ _ 184 9 rfl D 5 i0 Tryz.underlying184 Tryz.underlying9 hi hz0 hz1 hz2 _ _ _ rfl hown s rfl ?c3 ?c4 ?c5 ?_)
 case c3=>unfold maxLen; omega
 case c4=>omega
 case c5=>omega
 intro v' w2 hown' hgrow _
 have hne:some b≠v.ownBlock:=fun e=>by have:=(hown.lt b e.symm).1; omega
 have hb2:=row_keep hbk hgrow hne
 have d0:w2.cell? ⟨b,0,none⟩=some (.pointer (some ⟨b,0,none⟩)):=by rw [Lib.cell_of_heap hb2]; rfl
 have d1:w2.cell? ⟨b,1,none⟩=some v:=by rw [Lib.cell_of_heap hb2]; rfl
 have f1:w2.frozen? ⟨b,1,none⟩=false:=Lib.frozen_of_heap hb2 1
 obtain ⟨ao,n',cap,rfl⟩:∃ ao n' cap,v' = .slice ao n' cap:=by
  rcases hown'.2 with ⟨hv,_⟩ | ⟨g,cap,cur,hv,_⟩
  · exact ⟨_,_,_,hv⟩
  · exact ⟨_,_,_,hv⟩
 go_wp2
 go_ret2
 refine ⟨rfl,⟨_,_,.inr rfl,heap_setCell_same w2 b 1 _ _ _ hb2,?_⟩,?_⟩
 · rw [strCells_append,size_append]
   exact ownsRow_setCell_other hown' (fun e=>by have:=(hown'.lt b e).1; omega) _
 · exact hk1.trans ⟨hgrow.os,hgrow.tape,hgrow.output,by simp [World.setCell]; exact hgrow.size,fun k hk hkb=>(heap_setCell_other _ _ _ _ hkb).trans (hgrow.block k (by omega) (fun e=>by have:=(hown.lt k e.symm).1; omega))⟩
theorem str_q {D b:Nat} {t:ByteArray} {w:World} (h:Bu D b t w) (hbD:b < D) (hb:b≤w.heap.size) :
 Calls Tryz.prog 83 #[.pointer (some ⟨b,0,none⟩)] w fun e w'=>e = .returned (.string t)∧Below b w w':=by
 obtain ⟨p,v,hp,hbk,ho⟩:=h
 have ho':w.ownsRow b 5 1 v (Lib.strCells t).length (Lib.strCells t):=by
  rw [Lib.strCells_length]
  exact ⟨ho.1,ho.2.elim .inl fun ⟨g,c,cur,a,b,r⟩=>.inr ⟨g,c,cur,a,by omega,r⟩⟩
 have hA:∀ p,w.heap[b]? = some (.cells #[p,v] 186 (0,0))→Lib.BuilderAt 186 5 b b p (Lib.strCells t) w:=fun p hb=>⟨Nat.le_refl _,v,hb,ho',fun e=>by have:=(ho.lt b e).1; omega⟩
 have hB:Lib.IsBuilder 186 5 b b (Lib.strCells t) w:=by
  rcases hp with rfl | rfl
  · exact .inl (hA _ hbk)
  · exact .inr (hA _ hbk)
 exact (Any.Builder_String_any (L:={ Tryz.laysJn with }) exJn b b t.data.toList w hB hb).mono fun e w' ⟨h1,h2⟩=>⟨h1,h2⟩
theorem Bu.grown {D b:Nat} {t:ByteArray} {w w':World} (h:Bu D b t w) (g:w.grownBy w' none):Bu D b t w':=by
 obtain ⟨p,v,hp,hb,ho⟩:=h
 exact ⟨p,v,hp,row_keep hb g (by simp),own_none ho g⟩
end Lb
end Go.Proofs
namespace Go.Proofs
open Go.RowKit
namespace Lb
def HasB (w:World) (v:Value) (l:List Bool):Prop :=
 ∃ p c,v = .slice p l.length c∧(l≠[]→∃ b off,p=some ⟨b,off,none⟩∧∀ i,i < l.length→w.cell? ⟨b,off+i,none⟩=some (.bool (l.getD i false)))
def HasT (w:World) (v:Value) (l:List ByteArray):Prop :=
 ∃ p c,v = .slice p l.length c∧(l≠[]→∃ b off,p=some ⟨b,off,none⟩∧∀ i,i < l.length→w.cell? ⟨b,off+i * 5+1,none⟩=some (.string (l.getD i ByteArray.empty)))
def catT (bs:List Bool) (txs:List ByteArray):Nat→ByteArray
 | 0=>ByteArray.empty
 | k+1=>if bs.getD k false=true then catT bs txs k++(txs.getD k ByteArray.empty++⟨#[10]⟩) else catT bs txs k
theorem catT_size (bs:List Bool) (txs:List ByteArray) (M:Nat) (h:∀ i,(txs.getD i ByteArray.empty).size≤M):∀ k,(catT bs txs k).size≤k * (M+1)
 | 0=>Nat.le_of_eq (by simp [catT])
 | k+1=>by
  have h1:=catT_size bs txs M h k
  have h2:=h k
  have e:(k+1) * (M+1)=k * (M+1)+(M+1):=Nat.succ_mul _ _
  unfold catT
  split
  · rw [size_append,size_append,show (⟨#[10]⟩:ByteArray).size=1 from rfl]; omega
  · omega
theorem hasB_ne {w:World} {b b' o t:Nat} {x:Bool} {p v:Value} (h:w.heap[b]? = some (.cells #[p,v] t (0,0))) (hp:p = .pointer none) (hv:v = .slice none 0 0) (hc:w.cell? ⟨b',o,none⟩=some (.bool x)):b'≠b:=by
 intro e
 subst e
 subst hp hv
 rw [Lib.cell_of_heap h] at hc
 match o,hc with
 | 0,hc=>cases hc
 | 1,hc=>cases hc
 | n+2,hc=>simp at hc
theorem own_hasS {w:World} {B:Nat} {v:Value} {l:List ByteArray} (h:w.ownsRow B 9 1 v l.length (l.map Value.string)):HasS w v l∧∀ p c,v = .slice p l.length c→l.length≤c:=by
 rcases h.2 with ⟨rfl,hn⟩ | ⟨g,c,cur,rfl,_,hg,hnc,_,_,ht⟩
 · have:l = []:=List.length_eq_zero_iff.1 hn
   subst this
   exact ⟨hasS_nil w,fun p c e=>by simp⟩
 · refine ⟨⟨_,_,rfl,fun _=>⟨g,0,rfl,fun i hi=>?_⟩⟩,fun p c' e=>by cases e; exact hnc⟩
   have h1:cur.toList[i]? = some (Value.string (l.getD i ByteArray.empty)):=by
    have h2:(l.map Value.string)[i]? = some (Value.string (l.getD i ByteArray.empty)):=by
     rw [List.getElem?_map,List.getElem?_eq_getElem hi,List.getD_eq_getElem?_getD,List.getElem?_eq_getElem hi]; rfl
    rw [←ht,List.getElem?_take_of_lt (by omega)] at h2
    exact h2
   unfold World.cell?
   rw [show w.heap[(⟨g,0+i,none⟩:Addr).block]? = _ from hg]
   simpa using h1
theorem cell_kp {D b:Nat} {w w':World} {a o:Nat} {v:Value} (h:w.cell? ⟨a,o,none⟩=some v) (hk:Kp D b w w') (ha:a < D) (hb:a≠b):w'.cell? ⟨a,o,none⟩=some v:=by
 unfold World.cell? at h ⊢
 rw [show w'.heap[(⟨a,o,none⟩:Addr).block]? = w.heap[(⟨a,o,none⟩:Addr).block]? from hk.block a ha hb]
 exact h
theorem Kp.below {D b n:Nat} {w w':World} (h:Kp D b w w') (hn:n≤D) (hb:n≤b):Below n w w':=⟨h.os,h.tape,h.output,h.size,fun k hk=>h.block k (by omega) (by omega)⟩
end Lb
end Go.Proofs
namespace Go.Proofs
open Go.RowKit
namespace Lb
theorem joinB_size_le {xs:List ByteArray} (sep:ByteArray) (M:Nat) (h:∀ x∈xs,x.size≤M):∀ k,k≤xs.length→(joinB (xs.take k) sep).size≤k * (M+sep.size)
 | 0,_=>by rw [List.take_zero,joinB_nil]; simp
 | k+1,hk=>by
  have h1:=joinB_size_le sep M h k (by omega)
  have h2:(xs.getD k ByteArray.empty).size≤M:=by
   rw [List.getD_eq_getElem?_getD,List.getElem?_eq_getElem (by omega)]
   exact h _ (List.getElem_mem _)
  have e:(k+1) * (M+sep.size)=k * (M+sep.size)+(M+sep.size):=Nat.succ_mul _ _
  by_cases h0:k=0
  · subst h0
    rw [joinB_first sep (by omega),size_append,show (ByteArray.empty).size=0 from rfl]; omega
  · rw [joinB_next sep (by omega) (by omega),size_append,size_append]; omega
theorem joinB_all {xs:List ByteArray} (sep:ByteArray) (M:Nat) (h:∀ x∈xs,x.size≤M):(joinB xs sep).size≤xs.length * (M+sep.size):=by
 have:=joinB_size_le sep M h xs.length (Nat.le_refl _)
 rwa [List.take_length] at this
theorem parB_size (k:Nat) (h:k≤100):(parB k).size≤34:=by
 unfold parB
 rw [size_append,size_append]
 have:=nmB_size k h
 show _+2+10≤34
 omega
theorem pckB_size (k m:Nat) (h:k≤100) (hm:m≤100):(pckB k m).size≤51:=by
 unfold pckB
 rw [size_append,size_append,size_append,size_append]
 have:=nmB_size k h
 have:=itoa_size (m:Int) (by omega) (by omega)
 show 5+_+2+_+1≤51
 omega
theorem stK_size (add:List ByteArray) (nm0:ByteArray) (prs:List ByteArray) (xs:List AArg) (hL:∀ a∈xs,a.l.length≤60) (hN:∀ a∈xs,isNum a.n=true) :
 ∀ k,k≤6→k≤xs.length→(∀ x∈(stK add nm0 prs xs k).Pa,x.size≤34)∧(∀ x∈(stK add nm0 prs xs k).Gi,x.size≤51)
 | 0,_,_=>⟨fun x h=>by simp [stK] at h,fun x h=>by simp [stK] at h⟩
 | k+1,h6,hk=>by
  obtain ⟨h1,h2⟩:=stK_size add nm0 prs xs hL hN k (by omega) (by omega)
  obtain ⟨_,q2,_,_⟩:=stK_len add nm0 prs xs k
  have hm:xs.getD k default∈xs:=by rw [List.getD_eq_getElem?_getD,List.getElem?_eq_getElem (by omega)]; exact List.getElem_mem _
  have hl:=hL _ hm
  have hn:=hN _ hm
  have hn1:(mkD (Lib.itoa (xs.getD k default).n)).size≤51:=by
   unfold isNum at hn
   simp only [decide_eq_true_eq,Bool.and_eq_true] at hn
   have:=itoa_size (xs.getD k default).n (by omega) (by omega)
   omega
  have hp:=parB_size (stK add nm0 prs xs k).Pa.length (by omega)
  have hc:=pckB_size (stK add nm0 prs xs k).Pa.length (xs.getD k default).l.length (by omega) (by omega)
  have hnm:=nmB_size (stK add nm0 prs xs k).Pa.length (by omega)
  have key:∀ (l:List ByteArray) (y:ByteArray) (M:Nat),(∀ x∈l,x.size≤M)→y.size≤M→∀ x∈l ++ [y],x.size≤M:=by
   intro l y M h1 h2 x hx
   rcases List.mem_append.1 hx with h | h
   · exact h1 x h
   · rw [List.mem_singleton.1 h]; exact h2
  unfold stK st1
  split
  · exact ⟨h1,key _ _ _ h2 hn1⟩
  · split
    · exact ⟨key _ _ _ h1 hp,key _ _ _ h2 hc⟩
    · exact ⟨key _ _ _ h1 hp,key _ _ _ h2 (by omega)⟩
end Lb
end Go.Proofs
