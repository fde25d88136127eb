/- PROVED HERE: a part (Xd) of the tied card of LibAccepted (floodgatelaw25). CONDITIONS: those of the given row and card alone. -/
import Derived.Test.YtbelbhnfjejnmaaGreatDoorXc
import Derived.Maps.Own
import Derived.Maps.Views
namespace Go.Proofs
open Go.RowKit Go.Shelf Go.Sort
namespace Lx
def bs (L:List UInt8):ByteArray:=⟨L.toArray⟩
theorem bs_size (L:List UInt8):(bs L).size=L.length:=by simp [bs,ByteArray.size]
theorem bs_ext {L M:List UInt8} (h:bs L=bs M):L=M:=by simpa [bs] using h
theorem by_bs (L:List UInt8) (i:Nat):by_ (bs L) i=((L.getD i 0).toNat:Int):=by simp [by_,bs]
theorem by_app (A R:List UInt8) (j:Nat):by_ (bs (A++R)) (A.length+j)=((R.getD j 0).toNat:Int):=by
 rw [by_bs,List.getD_eq_getElem?_getD,List.getD_eq_getElem?_getD,List.getElem?_append_right (by omega)]
 congr 3
 rw [Nat.add_sub_cancel_left]
theorem bs_extract (A T R:List UInt8):(bs (A++(T++R))).extract A.length (A.length+T.length)=bs T:=by
 apply ByteArray.ext
 rw [ByteArray.data_extract]
 apply Array.ext'
 simp [bs]
theorem bs_rest (A R:List UInt8):(bs (A++R)).extract A.length (bs (A++R)).size=bs R:=by
 have h:=bs_extract A R []
 rw [List.append_nil] at h
 rw [bs_size,List.length_append]
 exact h
def bl (b:UInt8):Bool:=blkB (b.toNat:Int)
def le (b:UInt8):Bool:=letB (b.toNat:Int)
def di (b:UInt8):Bool:=digB (b.toNat:Int)
theorem all_at {p:Int→Bool} {G:List UInt8} (h:∀ b∈G,p (b.toNat:Int)=true) (A R:List UInt8) {i:Nat} (h1:A.length≤i) (h2:i < A.length+G.length):p (by_ (bs (A++(G++R))) i)=true:=by
 obtain ⟨j,rfl⟩:∃ j,i=A.length+j:=⟨i - A.length,by omega⟩
 have hj:j < G.length:=by omega
 rw [by_app,List.getD_eq_getElem?_getD,List.getElem?_append_left hj,List.getElem?_eq_getElem hj]
 exact h _ (List.getElem_mem hj)
theorem head_at {p:Int→Prop} {R:List UInt8} (h:∀ b R',R=b :: R'→p (b.toNat:Int)) (A G:List UInt8) (h2:A.length+G.length < (bs (A++(G++R))).size):p (by_ (bs (A++(G++R))) (A.length+G.length)):=by
 rw [bs_size,List.length_append,List.length_append] at h2
 rw [by_app]
 cases R with
 | nil=>simp at h2
 | cons b R' =>
  rw [List.getD_eq_getElem?_getD,List.getElem?_append_right (Nat.le_refl _),Nat.sub_self]
  exact h b R' rfl
theorem gap_app {G R:List UInt8} (A:List UInt8) (hG:∀ b∈G,bl b=true) (hR:∀ b R',R=b :: R'→bl b=false∧b≠126):GapTo (bs (A++(G++R))) A.length (A.length+G.length):=by
 refine ⟨by omega,by rw [bs_size,List.length_append,List.length_append]; omega,fun i h1 h2=>all_at (p:=blkB) hG A R h1 h2,fun h=>?_⟩
 refine head_at (p:=fun x=>blkB x=false∧x≠126) (fun b R' e=>?_) A G h
 obtain ⟨h1,h2⟩:=hR b R' e
 refine ⟨h1,fun e=>h2 ?_⟩
 have:b.toNat=126:=by omega
 exact UInt8.toNat_inj.1 this
theorem dec_all (u:Nat):∀ b∈Lib.decDigits u,di b=true:=fun b hb=>by
 have h:=dec_dig u b hb
 unfold di digB
 simp
 omega
theorem tok_num {u:Nat} {R:List UInt8} {w:World} (A:List UInt8) (hu:u≤1000000000) (hs:(A++(Lib.decDigits u++R)).length≤1000000) (h0:0 < (Lib.decDigits u).length) (hR:∀ b R',R=b :: R'→di b=false) (hT:∀ w',Below w.heap.size w w'→Tab w'):TokC (bs (A++(Lib.decDigits u++R))) A.length 3 (dg u) w:=fun W hW =>
 token_num (to_:=A.length+(Lib.decDigits u).length) (by omega) (by rw [bs_size,List.length_append,List.length_append]; omega) (by rw [bs_size]; exact hs) (fun i h1 h2=>all_at (p:=digB) (dec_all u) A R h1 h2) (fun h=>head_at (p:=fun x=>digB x=false) hR A _ h) hu (bs_extract A _ R) (fun w' h=>hT w' (hW.trans (h.mono hW.size)))
theorem tok_word {isK:ByteArray→Bool} {T R:List UInt8} {w:World} (A:List UInt8) (hs:(A++(T++R)).length≤1000000) (h0:∃ b T',T=b :: T'∧le b=true) (hl:T.length≤12) (ha:∀ b∈T,(letB (b.toNat:Int) || digB (b.toNat:Int))=true) (hR:∀ b R',R=b :: R'→(letB (b.toNat:Int) || digB (b.toNat:Int))=false)
 (hK:∀ w',Below w.heap.size w w'→Calls Tryz.prog 280 #[] w' fun e w2=>∃ m,e = .returned (.map (some m))∧Below w'.heap.size w' w2∧Kw isK w2 m):TokC (bs (A++(T++R))) A.length (if isK (bs T)=true then 1 else 2) (bs T) w:=fun W hW=>by
 obtain ⟨b,T',rfl,hb⟩:=h0
 refine token_word (isK:=isK) (to_:=A.length+(b :: T').length) rfl (by simp) (by rw [bs_size,List.length_append,List.length_append]; omega) (by rw [bs_size]; exact hs) ?_ (fun i h1 h2=>all_at (p:=fun x=>letB x || digB x) ha A R h1 h2) (fun h=>head_at (p:=fun x=>(letB x || digB x)=false) hR A _ h) (bs_extract A _ R) (by rw [bs_size]; exact hl) (fun w' h=>hK w' (hW.trans (h.mono hW.size)))
 have:=by_app A (b :: T'++R) 0
 rw [Nat.add_zero] at this
 rw [this]; exact hb
theorem tok_sign {T R:List UInt8} {w:World} (A:List UInt8) (hs:(A++(T++R)).length≤1000000) (h0:∃ b T',T=b :: T'∧le b=false∧di b=false) (ht:best (bs (T++R)) 26=bs T):TokC (bs (A++(T++R))) A.length 4 (bs T) w:=fun W hW=>by
 obtain ⟨b,T',rfl,h1,h2⟩:=h0
 have e:=by_app A (b :: T'++R) 0
 rw [Nat.add_zero] at e
 refine token_sign (by rw [bs_size]; simp) (by rw [bs_size]; exact hs) (by rw [e]; exact h1) (by rw [e]; exact h2) (by rw [bs_rest]; exact ht) (fun h=>?_)
 have:=bs_ext (M:=[]) h
 cases this
end Lx
end Go.Proofs
namespace Go.Proofs
open Go.RowKit Go.Shelf Go.Sort
namespace Lx
def enB (n:Nat→Nat) (e:Nat):List UInt8:=if e < 256 then [UInt8.ofNat e] else Lib.decDigits (n (e - 256))
def txB (n:Nat→Nat):List Nat→List UInt8
 | []=>[]
 | e :: R=>enB n e++txB n R
theorem txB_app (n:Nat→Nat) (A R:List Nat):txB n (A++R)=txB n A++txB n R:=by
 induction A with
 | nil=>rfl
 | cons e A ih=>show enB n e++txB n (A++R)=(enB n e++txB n A)++txB n R; rw [ih,List.append_assoc]
def isBl (e:Nat):Bool:=e==32 || e==10
def isLe (e:Nat):Bool:=Nat.ble 97 e && Nat.ble e 122
def isDi (e:Nat):Bool:=Nat.ble 48 e && Nat.ble e 57
def isLD (e:Nat):Bool:=isLe e || isDi e
def headNot (p:Nat→Bool):List Nat→Bool
 | []=>true
 | e :: _=>Nat.blt e 256 && !p e
def headGap:List Nat→Bool
 | []=>true
 | e :: _=>Nat.ble 256 e || (!isBl e && !(e==126))
theorem head_txB {n:Nat→Nat} {e:Nat} {R:List Nat} {b:UInt8} {R':List UInt8} (he:e < 256) (h:txB n (e :: R)=b :: R'):b.toNat=e:=by
 have h:enB n e++txB n R=b :: R':=h
 rw [enB,if_pos he] at h
 injection h with h1 h2
 rw [←h1]
 simp [Nat.mod_eq_of_lt he]
theorem head_dig {n:Nat→Nat} {e:Nat} {R:List Nat} {b:UInt8} {R':List UInt8} (he:256≤e) (h:txB n (e :: R)=b :: R'):di b=true:=by
 have h:enB n e++txB n R=b :: R':=h
 rw [enB,if_neg (by omega)] at h
 have hne:=dec_ne (n (e - 256))
 cases hd:Lib.decDigits (n (e - 256)) with
 | nil=>exact absurd hd hne
 | cons c cs =>
  rw [hd] at h
  injection h with h1 h2
  exact dec_all (n (e - 256)) b (by rw [hd,← h1]; simp)
theorem di_of (b:UInt8):digB (b.toNat:Int)=isDi b.toNat:=by
 unfold digB isDi
 rw [Bool.eq_iff_iff]; simp; omega
theorem le_of (b:UInt8):letB (b.toNat:Int)=isLe b.toNat:=by
 unfold letB isLe
 rw [Bool.eq_iff_iff]; simp; omega
theorem bl_of (b:UInt8):blkB (b.toNat:Int)=isBl b.toNat:=by
 unfold blkB isBl
 rw [Bool.eq_iff_iff]; simp; omega
theorem headNot_txB {p:Nat→Bool} {n:Nat→Nat} {R:List Nat} (h:headNot p R=true):∀ b R',txB n R=b :: R'→p b.toNat=false:=by
 cases R with
 | nil=>intro b R' e; cases e
 | cons e R =>
  intro b R' he
  simp only [headNot,Bool.and_eq_true,Bool.not_eq_true',Nat.blt_eq] at h
  rw [head_txB h.1 he]; exact h.2
theorem headGap_txB {n:Nat→Nat} {R:List Nat} (h:headGap R=true):∀ b R',txB n R=b :: R'→bl b=false∧b≠126:=by
 cases R with
 | nil=>intro b R' e; cases e
 | cons e R =>
  intro b R' he
  by_cases h1:256≤e
  · have hd:=head_dig h1 he
    unfold di digB at hd
    simp at hd
    refine ⟨?_,?_⟩
    · unfold bl blkB; simp; omega
    · rintro rfl; simp at hd
  · have hb:=head_txB (by omega) he
    simp [headGap] at h
    rcases h with h | h
    · omega
    · refine ⟨?_,?_⟩
      · unfold bl; rw [bl_of,hb]; exact h.1
      · rintro rfl; exact h.2 hb.symm
theorem all_txB {p:Nat→Bool} {n:Nat→Nat} {T:List Nat} (hp:∀ e,p e=true→e < 256) (h:∀ e∈T,p e=true):∀ b∈txB n T,p b.toNat=true:=by
 induction T with
 | nil=>intro b hb; cases hb
 | cons e T ih =>
  intro b hb
  have he:=h e (by simp)
  have hl:=hp e he
  have hb:b∈enB n e++txB n T:=hb
  rw [enB,if_pos hl] at hb
  rcases List.mem_append.1 hb with hb | hb
  · have:b=UInt8.ofNat e:=by simpa using hb
    subst this
    have:(UInt8.ofNat e).toNat=e:=by simp [Nat.mod_eq_of_lt hl]
    rw [this]; exact he
  · exact ih (fun e he=>h e (by simp [he])) b hb
theorem isBl_lt (e:Nat) (h:isBl e=true):e < 256:=by unfold isBl at h; simp at h; omega
theorem isLD_lt (e:Nat) (h:isLD e=true):e < 256:=by unfold isLD isLe isDi at h; simp at h; omega
end Lx
end Go.Proofs
namespace Go.Proofs
open Go.RowKit Go.Shelf Go.Sort
namespace Lx
def S2:List (List Nat):=[[58,58],[58,61],[45,62],[46,46],[61,61],[33,61],[60,61],[62,61]]
def S1:List Nat:=[60,62,61,43,45,42,47,37,35,40,41,91,93,123,125,44,59,58]
theorem pre_two (a b:UInt8) (R:List UInt8) (k:Nat):pre (bs (a :: b :: R)) k=pre (bs [a,b]) k:=by
 have h:=sg_size k
 unfold pre
 show Lib.hasPrefix (a :: b :: R) _=Lib.hasPrefix [a,b] _
 have h:(sg k).data.toList.length≤2:=by simpa using h
 generalize (sg k).data.toList=l at *
 match l,h with
 | [],_=>simp [Lib.hasPrefix]
 | [x],_=>rfl
 | [x,y],_=>rfl
 | x :: y :: z :: l,h=>simp at h
theorem best_two (a b:UInt8) (R:List UInt8):∀ k,best (bs (a :: b :: R)) k=best (bs [a,b]) k
 | 0=>rfl
 | k+1=>by unfold best; rw [best_two a b R k,pre_two]
theorem sgn2_t:∀ l∈S2,best (bs (l.map UInt8.ofNat)) 26=bs (l.map UInt8.ofNat):=by decide +kernel
theorem sgn1_t:∀ a∈S1,best (bs [UInt8.ofNat a]) 26=bs [UInt8.ofNat a]:=by decide +kernel
theorem sgn1_b:∀ a∈S1,∀ b,b < 256→S2.contains [a,b]=false→best (bs [UInt8.ofNat a,UInt8.ofNat b]) 26=bs [UInt8.ofNat a]:=by decide +kernel
theorem sgn2 {a b:Nat} (h:S2.contains [a,b]=true) (R:List UInt8):best (bs (UInt8.ofNat a :: UInt8.ofNat b :: R)) 26=bs [UInt8.ofNat a,UInt8.ofNat b]:=by
 rw [best_two]
 exact sgn2_t [a,b] (by simpa using h)
theorem sgn1 {a:Nat} (ha:S1.contains a=true) (R:List UInt8) (h:∀ b R',R=b :: R'→S2.contains [a,b.toNat]=false):best (bs (UInt8.ofNat a :: R)) 26=bs [UInt8.ofNat a]:=by
 have ha:a∈S1:=by simpa using ha
 cases R with
 | nil=>exact sgn1_t a ha
 | cons b R' =>
  rw [best_two]
  have:=sgn1_b a ha b.toNat (UInt8.toNat_lt b) (h b R' rfl)
  rwa [UInt8.ofNat_toNat] at this
theorem S2_dig:∀ a∈S1,∀ b,b < 256→isDi b=true→S2.contains [a,b]=false:=by decide +kernel
def tokE (isK:List Nat→Bool):List Nat→Option (Nat × List Nat × List Nat)
 | []=>none
 | e :: R =>
  if Nat.ble 256 e then (if headNot isDi R then some (3,[e],R) else none)
  else if isLe e then
   (if headNot isLD ((e :: R).dropWhile isLD) && Nat.ble ((e :: R).takeWhile isLD).length 12 then some ((if isK ((e :: R).takeWhile isLD) then 1 else 2),(e :: R).takeWhile isLD,(e :: R).dropWhile isLD) else none)
  else if isDi e then (if headNot isDi R then some (3,[e],R) else none)
  else match R with
   | []=>if S1.contains e then some (4,[e],[]) else none
   | b :: R'=>if S2.contains [e,b] then some (4,[e,b],R') else if S1.contains e then some (4,[e],b :: R') else none
end Lx
end Go.Proofs
namespace Go.Proofs
open Go.RowKit Go.Shelf Go.Sort
namespace Lx
structure Cond (isB:ByteArray→Bool) (isK:List Nat→Bool) (n:Nat→Nat) (w:World):Prop where
 num:∀ i,n i≤1000000000
 tab:∀ w',Below w.heap.size w w'→Tab w'
 key:∀ w',Below w.heap.size w w'→Calls Tryz.prog 280 #[] w' fun e w2=>∃ m,e = .returned (.map (some m))∧Below w'.heap.size w' w2∧Kw isB w2 m
 same:∀ T,(∀ e∈T,isLD e=true)→isB (bs (txB n T))=isK T
theorem enB_byte {n:Nat→Nat} {e:Nat} (h:e < 256):enB n e = [UInt8.ofNat e]:=by rw [enB,if_pos h]
theorem enB_num {n:Nat→Nat} {e:Nat} (h:256≤e):enB n e=Lib.decDigits (n (e - 256)):=by rw [enB,if_neg (by omega)]
theorem dec_pos (u:Nat):0 < (Lib.decDigits u).length:=List.length_pos_iff.2 (dec_ne u)
theorem one_dig:∀ e,e < 256→isDi e=true→Lib.decDigits (e - 48) = [UInt8.ofNat e]:=fun e _ h=>by
 unfold isDi at h
 simp at h
 rw [Lib.decDigits,dif_pos (by omega)]
 congr 1
 apply UInt8.toNat_inj.1
 simp
 omega
theorem tok_case {isB:ByteArray→Bool} {isK:List Nat→Bool} {n:Nat→Nat} {w:World} (C:Cond isB isK n w) {R T R':List Nat} {kd:Nat} (A:List UInt8) (hs:(A++txB n R).length≤1000000) (h:tokE isK R=some (kd,T,R')) :
 R=T++R'∧0 < (txB n T).length∧TokC (bs (A++txB n R)) A.length kd (bs (txB n T)) w:=by
 cases R with
 | nil=>cases h
 | cons e R =>
  simp only [tokE] at h
  by_cases h1:256≤e
  · rw [if_pos (by simpa using h1)] at h
    split at h
    · next hd =>
      obtain ⟨rfl,rfl,rfl⟩:3=kd∧[e]=T∧R=R':=by simpa using h
      have eT:txB n [e]=Lib.decDigits (n (e - 256)):=by show enB n e ++ []=_; rw [enB_num h1,List.append_nil]
      have eR:txB n (e :: R)=Lib.decDigits (n (e - 256))++txB n R:=by show enB n e++_=_; rw [enB_num h1]
      rw [eR] at hs ⊢
      rw [eT]
      exact ⟨rfl,dec_pos _,tok_num A (C.num _) hs (dec_pos _) (fun b R' e=>by unfold di; rw [di_of]; exact headNot_txB hd b R' e) C.tab⟩
    · cases h
  · rw [if_neg (by simp; omega)] at h
    have he:e < 256:=by omega
    by_cases h2:isLe e=true
    · rw [if_pos h2] at h
      split at h
      · next hd =>
        obtain ⟨hd,hl⟩:=Bool.and_eq_true_iff.1 hd
        have hl:((e :: R).takeWhile isLD).length≤12:=by simpa using hl
        obtain ⟨rfl,rfl,rfl⟩:(if isK ((e :: R).takeWhile isLD) then 1 else 2)=kd∧(e :: R).takeWhile isLD=T∧(e :: R).dropWhile isLD=R':=by simpa using h
        have hR:e :: R=(e :: R).takeWhile isLD++(e :: R).dropWhile isLD:=List.takeWhile_append_dropWhile.symm
        have ha:∀ x∈(e :: R).takeWhile isLD,isLD x=true:=fun x hx=>List.all_eq_true.1 (List.all_takeWhile) x hx
        have hh:(e :: R).takeWhile isLD=e :: R.takeWhile isLD:=by
         rw [List.takeWhile_cons,if_pos (by unfold isLD; rw [h2]; rfl)]
        have hk:=C.same _ ha
        refine ⟨hR,?_,?_⟩
        · rw [hh]; show 0 < (enB n e++_).length; rw [enB_byte he]; simp
        · have hlen:∀ T:List Nat,(∀ x∈T,isLD x=true)→(txB n T).length=T.length:=by
           intro T
           induction T with
           | nil=>intro _; rfl
           | cons x T ih=>intro hx; show (enB n x++txB n T).length=_; rw [enB_byte (isLD_lt x (hx x (by simp)))]; simp [ih (fun y hy=>hx y (by simp [hy]))]
          have hw:=tok_word (isK:=isB) (T:=txB n ((e :: R).takeWhile isLD)) (R:=txB n ((e :: R).dropWhile isLD)) (w:=w) A (by rw [←txB_app,← hR]; exact hs)
           ⟨UInt8.ofNat e,txB n (R.takeWhile isLD),by rw [hh]; show enB n e++_=_; rw [enB_byte he]; rfl,by unfold le; rw [le_of]; simpa [Nat.mod_eq_of_lt he] using h2⟩
           (by rw [hlen _ ha]; exact hl) (fun b hb=>by have:=all_txB isLD_lt ha b hb; rw [le_of,di_of]; exact this)
           (fun b R' e=>by have:=headNot_txB hd b R' e; rw [le_of,di_of]; exact this) C.key
          rw [←txB_app,← hR,hk] at hw
          have e9:(((if isK ((e :: R).takeWhile isLD)=true then 1 else 2:Nat)):Int)=if isK ((e :: R).takeWhile isLD)=true then 1 else 2:=by split <;> rfl
          rw [e9]; exact hw
      · cases h
    · rw [if_neg h2] at h
      have b1:∀ (x:Nat) (Y:List Nat),x < 256→txB n (x :: Y)=UInt8.ofNat x :: txB n Y:=fun x Y hx=>by show enB n x++txB n Y=_; rw [enB_byte hx]; rfl
      have tn:(UInt8.ofNat e).toNat=e:=by simp [Nat.mod_eq_of_lt he]
      by_cases h3:isDi e=true
      · rw [if_pos h3] at h
        split at h
        · next hd =>
          obtain ⟨rfl,rfl,rfl⟩:3=kd∧[e]=T∧R=R':=by simpa using h
          have eT:txB n [e]=Lib.decDigits (e - 48):=by rw [b1 e [] he,one_dig e he h3]; rfl
          have eR:txB n (e :: R)=Lib.decDigits (e - 48)++txB n R:=by rw [b1 e R he,one_dig e he h3]; rfl
          rw [eR] at hs ⊢
          rw [eT]
          exact ⟨rfl,dec_pos _,tok_num A (by omega) hs (dec_pos _) (fun b R' e=>by unfold di; rw [di_of]; exact headNot_txB hd b R' e) C.tab⟩
        · cases h
      · rw [if_neg h3] at h
        have hle:le (UInt8.ofNat e)=false:=by unfold le; rw [le_of,tn]; simpa using h2
        have hdi:di (UInt8.ofNat e)=false:=by unfold di; rw [di_of,tn]; simpa using h3
        have one:∀ R2:List Nat,S1.contains e=true→(∀ b R3,txB n R2=b :: R3→S2.contains [e,b.toNat]=false)→(A++txB n (e :: R2)).length≤1000000→TokC (bs (A++txB n (e :: R2))) A.length 4 (bs (txB n [e])) w:=fun R2 hc hb hs=>by
         rw [b1 e R2 he] at hs ⊢
         have ht:txB n [e] = [UInt8.ofNat e]:=b1 e [] he
         rw [ht]
         exact tok_sign (T:=[UInt8.ofNat e]) A hs ⟨_,_,rfl,hle,hdi⟩ (sgn1 hc _ hb)
        have pos1:∀ Y:List Nat,0 < (txB n (e :: Y)).length:=fun Y=>by rw [b1 e Y he]; simp
        cases R with
        | nil =>
         simp only at h
         split at h
         · next hc =>
           obtain ⟨rfl,rfl,rfl⟩:4=kd∧[e]=T∧[]=R':=by simpa using h
           exact ⟨rfl,pos1 [],one [] hc (fun b R3 e=>by cases e) hs⟩
         · cases h
        | cons b R2 =>
         simp only at h
         split at h
         · next hc =>
           obtain ⟨rfl,rfl,rfl⟩:4=kd∧[e,b]=T∧R2=R':=by simpa using h
           have hb:b < 256:=by
            have:∀ l∈S2,∀ x∈l,x < 256:=by decide
            exact this [e,b] (by simpa using hc) b (by simp)
           have ht:txB n [e,b] = [UInt8.ofNat e,UInt8.ofNat b]:=by rw [b1 e _ he,b1 b [] hb]; rfl
           have hr:txB n (e :: b :: R2) = [UInt8.ofNat e,UInt8.ofNat b]++txB n R2:=by rw [b1 e _ he,b1 b R2 hb]; rfl
           refine ⟨rfl,pos1 [b],?_⟩
           rw [hr] at hs ⊢
           rw [ht]
           exact tok_sign (T:=[UInt8.ofNat e,UInt8.ofNat b]) A hs ⟨_,_,rfl,hle,hdi⟩ (sgn2 hc _)
         · next hc =>
           split at h
           · next hc1 =>
             obtain ⟨rfl,rfl,rfl⟩:4=kd∧[e]=T∧b :: R2=R':=by simpa using h
             refine ⟨rfl,pos1 [],one (b :: R2) hc1 (fun c R3 he3=>?_) hs⟩
             by_cases hb:256≤b
             · have hd:=head_dig hb he3
               unfold di at hd
               rw [di_of] at hd
               exact S2_dig e (by simpa using hc1) c.toNat (UInt8.toNat_lt c) hd
             · rw [head_txB (by omega) he3]; simpa using hc
           · cases h
end Lx
end Go.Proofs
namespace Go.Proofs
open Go.RowKit Go.Shelf Go.Sort
namespace Lx
def lexE (isK:List Nat→Bool):Nat→Nat→List Nat→Option (List (Nat × List Nat × Nat))
 | _,_,[]=>some []
 | 0,_,_ :: _=>none
 | f+1,p,e :: R =>
  match tokE isK (e :: R) with
  | none=>none
  | some (kd,T,R1) =>
   if headGap (R1.dropWhile isBl) then (match lexE isK f (p+T.length+(R1.takeWhile isBl).length) (R1.dropWhile isBl) with
    | none=>none
    | some l=>some ((kd,T,p) :: l))
   else none
def evT (n:Nat→Nat) (L:List Nat) (l:List (Nat × List Nat × Nat)):List (Int × ByteArray × Nat):=l.map fun x=>((x.1:Int),bs (txB n x.2.1),(txB n (L.take x.2.2)).length)
theorem lexE_ok {isB:ByteArray→Bool} {isK:List Nat→Bool} {n:Nat→Nat} {w:World} (C:Cond isB isK n w) (L:List Nat) (hs:(txB n L).length≤1000000):∀ (f:Nat) (A R:List Nat) (l:List (Nat × List Nat × Nat)),L=A++R→headGap R=true→lexE isK f A.length R=some l→Toks (bs (txB n L)) w (txB n A).length (evT n L l)
 | f,A,[],l,hL,_,h=>by
  have h:l = []:=by cases f <;> (simp [lexE] at h; exact h.symm ▸ rfl)
  subst h
  rw [List.append_nil] at hL
  subst hL
  have:=Toks.done (s:=bs (txB n L)) (w0:=w)
  rw [bs_size] at this
  exact this
 | 0,A,e :: R,l,_,_,h=>by cases h
 | f+1,A,e :: R,l,hL,_,h=>by
  simp only [lexE] at h
  split at h
  · cases h
  · next kd T R1 ht =>
    split at h
    · next hg =>
      split at h
      · cases h
      · next l' hl =>
        injection h with h
        subst h
        have hA:txB n L=txB n A++txB n (e :: R):=by rw [hL,txB_app]
        obtain ⟨hR,hp,hT⟩:=tok_case C (txB n A) (by rw [←hA]; exact hs) ht
        have hR1:R1=R1.takeWhile isBl++R1.dropWhile isBl:=List.takeWhile_append_dropWhile.symm
        have ih:=lexE_ok C L hs f (A++(T++R1.takeWhile isBl)) (R1.dropWhile isBl) l' (by rw [hL,hR,List.append_assoc,List.append_assoc,← hR1]) hg (by rw [List.length_append,List.length_append,← Nat.add_assoc]; exact hl)
        have hgap:=gap_app (G:=txB n (R1.takeWhile isBl)) (R:=txB n (R1.dropWhile isBl)) (txB n A++txB n T) (fun b hb=>by unfold bl; rw [bl_of]; exact all_txB isBl_lt (fun x hx=>List.all_eq_true.1 List.all_takeWhile x hx) b hb) (headGap_txB hg)
        have eL:(txB n A++txB n T)++(txB n (R1.takeWhile isBl)++txB n (R1.dropWhile isBl))=txB n L:=by
         rw [←txB_app n (R1.takeWhile isBl),← hR1,hA,hR,txB_app,List.append_assoc]
        rw [eL,List.length_append] at hgap
        rw [txB_app,txB_app,List.length_append,List.length_append,← Nat.add_assoc] at ih
        rw [←hA] at hT
        have hlen:(txB n L).length=(txB n A).length+((txB n T).length+(txB n R1).length):=by rw [hA,hR,txB_app,List.length_append,List.length_append]
        have hpl:(txB n (L.take A.length)).length=(txB n A).length:=by rw [hL,List.take_left]
        show Toks _ w _ (((kd:Int),bs (txB n T),(txB n (L.take A.length)).length) :: evT n L l')
        rw [hpl]
        refine Toks.step (by rw [bs_size]; omega) (by rw [bs_size,bs_size]; omega) (by rw [bs_size]; exact hp) hT (k2:=(txB n A).length+(txB n T).length+(txB n (R1.takeWhile isBl)).length) (by rw [bs_size]; exact hgap) ih
    · cases h
theorem Read_entries {isB:ByteArray→Bool} {isK:List Nat→Bool} {n:Nat→Nat} {w:World} (C:Cond isB isK n w) {L:List Nat} {f:Nat} {l:List (Nat × List Nat × Nat)} (hs:(txB n L).length≤2500) (hl:l.length≤900) (hby:∀ b∈txB n L,b.toNat=10∨(32≤b.toNat∧b.toNat≤126)) (hg:headGap (L.dropWhile isBl)=true) (h:lexE isK f (L.takeWhile isBl).length (L.dropWhile isBl)=some l) :
 Calls Tryz.prog 36 #[.string (bs (txB n L))] w fun e w'=>∃ tv,e = .returned (.tuple #[tv,.int .i64 0,.int .i64 0])∧Below w.heap.size w w'∧w'.ownsRow w.heap.size 118 3 tv l.length (tokCells (evT n L l)):=by
 have hL:L=L.takeWhile isBl++L.dropWhile isBl:=List.takeWhile_append_dropWhile.symm
 have hT:=lexE_ok C L (by omega) f _ _ l hL hg h
 have hgap:=gap_app (G:=txB n (L.takeWhile isBl)) (R:=txB n (L.dropWhile isBl)) [] (fun b hb=>by unfold bl; rw [bl_of]; exact all_txB isBl_lt (fun x hx=>List.all_eq_true.1 List.all_takeWhile x hx) b hb) (headGap_txB hg)
 rw [List.nil_append,← txB_app,← hL] at hgap
 have hle:(evT n L l).length=l.length:=by unfold evT; simp
 have:=Read_ok (w:=w) (s:=bs (txB n L)) (k0:=(txB n (L.takeWhile isBl)).length) (l:=evT n L l) (by rw [bs_size]; exact hs) (by rw [hle]; exact hl) (fun i hi=>?_) (by simpa using hgap) hT
 · rw [hle] at this; exact this
 · rw [bs_size] at hi
   rw [by_bs,List.getD_eq_getElem?_getD,List.getElem?_eq_getElem hi]
   have:=hby _ (List.getElem_mem hi)
   simp only [Option.getD_some]
   omega
end Lx
end Go.Proofs
namespace Go.Proofs
open Go.RowKit Go.Shelf Go.Sort
namespace Lx
def keysE:List (List Nat):=[[97,110,100],[97,114,114,97,121],[98,111,111,108],[98,121],[100,101,102],[100,111],[101,108,115,101],[101,109,112,116,121],[102,97,108,115,101],[103,105,118,101],[104,101,97,100],[105,102],[105,110],[105,110,116],[108,111,111,112],[110,101,120,116],[110,105,108],[110,111,116],[111,114],[115,105,122,101],[115,116,114,101,97,109],[116,97,105,108],[116,114,117,101],[119,104,105,108,101]]
def isKE (T:List Nat):Bool:=keysE.contains T
def isBK (t:ByteArray):Bool:=(keysE.map fun K=>(K.map UInt8.ofNat)).contains t.data.toList
theorem txB_map {n:Nat→Nat}:∀ {T:List Nat},(∀ e∈T,e < 256)→txB n T=T.map UInt8.ofNat
 | [],_=>rfl
 | e :: T,h=>by
  show enB n e++txB n T=_
  rw [enB_byte (h e (by simp)),txB_map (fun x hx=>h x (by simp [hx]))]
  rfl
theorem map_inj:∀ {K T:List Nat},(∀ e∈K,e < 256)→(∀ e∈T,e < 256)→K.map UInt8.ofNat=T.map UInt8.ofNat→K=T
 | [],[],_,_,_=>rfl
 | [],_ :: _,_,_,h=>by cases h
 | _ :: _,[],_,_,h=>by cases h
 | a :: K,b :: T,hk,ht,h=>by
  injection h with h1 h2
  have h1:=congrArg UInt8.toNat h1
  have ha:=hk a (by simp)
  have hb:=ht b (by simp)
  simp [Nat.mod_eq_of_lt ha,Nat.mod_eq_of_lt hb] at h1
  rw [h1,map_inj (fun x hx=>hk x (by simp [hx])) (fun x hx=>ht x (by simp [hx])) h2]
theorem keys_lt:∀ K∈keysE,∀ e∈K,e < 256:=by decide
theorem same_KE (n:Nat→Nat) (T:List Nat) (h:∀ e∈T,isLD e=true):isBK (bs (txB n T))=isKE T:=by
 have hT:∀ e∈T,e < 256:=fun e he=>isLD_lt e (h e he)
 rw [txB_map hT,Bool.eq_iff_iff]
 unfold isBK isKE
 rw [List.contains_iff_mem,List.mem_map,List.contains_iff_mem]
 constructor
 · rintro ⟨K,hK,e⟩
   rw [←map_inj (keys_lt K hK) hT (by simpa [bs] using e)]
   exact hK
 · intro hK
   exact ⟨T,hK,by simp [bs]⟩
end Lx
end Go.Proofs
namespace Go.Proofs
open Go.RowKit Go.Shelf Go.Sort
namespace Lx
theorem und431:Tryz.prog.underlying 431=some (.map 9 4):=by kernel_rfl
theorem und9:Tryz.prog.underlying 9=some .string:=by kernel_rfl
theorem und4:Tryz.prog.underlying 4=some .bool:=by kernel_rfl
def kwS (j:Nat):List UInt8:=(keysE.getD j []).map UInt8.ofNat
def kwC:Array Value:=((List.range 24).map fun j=>Value.string (bs (kwS j))).toArray
def kwD:Nat→DataW Nat
 | 0=>.map []
 | j+1=>(kwD j).put (.string (kwS j)) (.lit (.bool true))
structure KwAt (w:World) (j:Nat) (wr:World):Prop where
 bel:Below w.heap.size w wr
 row:wr.heap[w.heap.size+1]? = some (.cells kwC 9 (0,0))
 own:wr.ownsMap Tryz.prog 9 (plainElem Tryz.prog 4) w.heap.size j (kwD j)
theorem kwC_get (j:Nat) (hj:j < 24):kwC[j]? = some (.string (bs (kwS j))):=by
 unfold kwC
 rw [List.getElem?_toArray,List.getElem?_map,List.getElem?_range hj]
 rfl
theorem kwS_size:∀ j,j < 24→(bs (kwS j)).size≤maxLen:=by
 have:∀ j,j < 24→(kwS j).length≤6:=by decide
 intro j hj
 rw [bs_size]
 have:=this j hj
 unfold maxLen; omega
set_option maxRecDepth 100000 in
theorem keys_walk (w:World):Calls Tryz.prog 280 #[] w fun e w2=>e = .returned (.map (some w.heap.size))∧KwAt w 24 w2:=by
 have hmk:(Instr.makeMap 431 none).run Tryz.prog w = .ok (.map (some w.heap.size)) (w.alloc (.map #[] 0)):=run_makeMap 431 w
 have st:Hid (KwAt w 0 ((w.alloc (.map #[] 0)).alloc (.cells kwC 9))):=by
  refine ⟨((Below.refl _ _).alloc (Nat.le_refl _) _).alloc (by rw [size_new]; omega) _,?_,(World.ownsMap_made w _ _ _).alloc _⟩
  rw [←size_new w (.map #[] 0)]; exact heap_alloc_new _ _
 go_enter Tryz.func280,Tryz.ntmps280
 go_wp2
 clear hmk
 simp only [show (#[Value.slice (some ⟨w.heap.size+1,0,none⟩) 24 24,Value.slice (some ⟨w.heap.size+1,0,none⟩) 24 24]:Array Value).getD 0 undef=Value.slice (some ⟨w.heap.size+1,0,none⟩) 24 24 from rfl]
 go_loopw [7] (fun i wr=>∃ j:Nat,j≤24∧i = .int .i64 j∧KwAt w j wr) (fun i _=>24 - (intOf i).toNat)
 case atStart=>exact ⟨0,by omega,rfl,st.out⟩
 case round =>
  obtain ⟨j,hj,rfl,hR⟩:=hrel
  have HR:=hid_ hR
  by_cases hj2:j < 24
  · have g0:wr.cell? ⟨w.heap.size+1,j,none⟩=some (.string (bs (kwS j))):=(cell_of hR.row).trans (kwC_get j hj2)
    have hown:=hR.own
    have hkey:keyOf Tryz.prog 9 (.string (bs (kwS j)))=some (.string (kwS j)):=by
     rw [Go.WideMaps.keyOf_string_mk und9 (kwS_size j hj2)]; simp [bs]
    clear hR
    go_wp2_with (first | (at_mapUpdate; refine wpList_mapUpdate_own _ rfl _ _ _ 431 rfl 9 4 (Go.Maps.string_keyed und9) und431 _ w.heap.size j _ rfl hown (by unfold maxLen; omega) _ _ _ rfl rfl hkey _ [] (plainElem_bool und4 true) ?_; intro w1 hown1 hgrow1) | go_in)
    have hnext:KwAt w (j+1) w1:=⟨HR.out.bel.grown hgrow1 HR.out.bel.size (fun k e=>by cases e; exact Nat.le_refl _),(hgrow1.block _ (row_lt HR.out.row) (fun e=>by injection e with e; omega)).trans HR.out.row,hown1⟩
    go_roundw
    case rel=>exact ⟨j+1,by omega,by go_num,hnext⟩
    case measure=>simp [intOf]; omega
  · obtain rfl:j=24:=by omega
    clear hR
    go_wp2
    go_ret
    exact ⟨rfl,HR.out⟩
end Lx
end Go.Proofs
namespace Go.Proofs
open Go.RowKit Go.Shelf Go.Sort
namespace Lx
theorem kwD_map:∀ j,Go.Maps.IsMap (kwD j)
 | 0=>⟨[],rfl⟩
 | j+1=>by
  obtain ⟨es,h⟩:=kwD_map j
  show Go.Maps.IsMap ((kwD j).put _ _)
  rw [h]
  exact ⟨_,rfl⟩
theorem kwD_at (t:List UInt8) (z:DataW Nat):∀ j,(∃ i,i < j∧kwS i=t)→(kwD j).atKey (.string t) z = .lit (.bool true)
 | 0,⟨i,h,_⟩=>by omega
 | j+1,⟨i,h,e⟩=>by
  show ((kwD j).put (.string (kwS j)) (.lit (.bool true))).atKey _ _=_
  by_cases hj:kwS j=t
  · subst hj
    exact Go.Maps.atKey_put_same (kwD_map j) (by simp [WideAt.IsKeyLit]) _ _
  · rw [Go.Maps.atKey_put_other (by simpa using fun e=>hj e.symm)]
    exact kwD_at t z j ⟨i,by have:i≠j:=fun e2=>hj (e2 ▸ e); omega,e⟩
theorem kwD_none (t:List UInt8) (z:DataW Nat):∀ j,(∀ i,i < j→kwS i≠t)→(kwD j).atKey (.string t) z=z
 | 0,_=>rfl
 | j+1,h=>by
  show ((kwD j).put (.string (kwS j)) (.lit (.bool true))).atKey _ _=_
  rw [Go.Maps.atKey_put_other (by simpa using fun e=>h j (by omega) e.symm)]
  exact kwD_none t z j fun i hi=>h i (by omega)
theorem isBK_iff (t:ByteArray):isBK t=true↔∃ i,i < 24∧kwS i=t.data.toList:=by
 unfold isBK kwS
 rw [List.contains_iff_mem,List.mem_map]
 have hl:keysE.length=24:=rfl
 constructor
 · rintro ⟨K,hK,e⟩
   obtain ⟨i,hi,rfl⟩:=List.getElem_of_mem hK
   exact ⟨i,by omega,by rw [List.getD_eq_getElem?_getD,List.getElem?_eq_getElem hi]; exact e⟩
 · rintro ⟨i,hi,e⟩
   rw [List.getD_eq_getElem?_getD,List.getElem?_eq_getElem (by omega)] at e
   exact ⟨_,List.getElem_mem _,e⟩
theorem plainElem_bool_inv {v:Value} {x:Bool} {ps:List MemPlace} (h:plainElem (H:=Nat) Tryz.prog 4 v=some (.lit (.bool x),ps)):v = .bool x:=by
 unfold plainElem at h
 rw [und4] at h
 cases v <;> simp at h
 rw [h.1]
set_option maxRecDepth 100000 in
theorem keys_c (w:World):Calls Tryz.prog 280 #[] w fun e w2=>∃ m,e = .returned (.map (some m))∧Below w.heap.size w w2∧Kw isBK w2 m:=by
 refine (keys_walk w).mono ?_
 rintro e w2 ⟨rfl,hK⟩
 refine ⟨_,rfl,hK.bel,fun t ht w3 h3=>?_⟩
 obtain ⟨es,clock,hb,F,hs,hD⟩:=hK.own
 have own3:w3.ownsMap Tryz.prog 9 (plainElem Tryz.prog 4) w.heap.size 24 (kwD 24):=⟨es,clock,h3.trans hb,F,hs,hD⟩
 obtain ⟨v,ps,hrun,hv⟩:=own3.lookup (Go.Maps.string_keyed und9) und431 (z:=.bool false) (by rfl) (plainElem_bool und4 false) (Go.WideMaps.keyOf_string_mk und9 (s:=t) (by unfold maxLen; omega))
 rw [hrun]
 cases hB:isBK t with
 | true =>
  rw [kwD_at _ _ 24 ((isBK_iff t).1 hB)] at hv
  rw [plainElem_bool_inv hv]
 | false =>
  rw [kwD_none _ _ 24 (fun i hi e=>by rw [(isBK_iff t).2 ⟨i,hi,e⟩] at hB; cases hB)] at hv
  rw [plainElem_bool_inv hv]
end Lx
end Go.Proofs
namespace Go.Proofs
open Go.RowKit Go.Shelf Go.Sort
namespace Lx
theorem cond_ok {n:Nat→Nat} {w:World} (hn:∀ i,n i≤1000000000) (hT:∀ w',Below w.heap.size w w'→Tab w'):Cond isBK isKE n w:=⟨hn,hT,fun w' _=>keys_c w',same_KE n⟩
theorem Read_text {n:Nat→Nat} {w:World} (hn:∀ i,n i≤1000000000) (hT:∀ w',Below w.heap.size w w'→Tab w') {L:List Nat} {f:Nat} {l:List (Nat × List Nat × Nat)} (hs:(txB n L).length≤2500) (hl:l.length≤900) (hby:∀ b∈txB n L,b.toNat=10∨(32≤b.toNat∧b.toNat≤126)) (hg:headGap (L.dropWhile isBl)=true) (h:lexE isKE f (L.takeWhile isBl).length (L.dropWhile isBl)=some l) :
 Calls Tryz.prog 36 #[.string (bs (txB n L))] w fun e w'=>∃ tv,e = .returned (.tuple #[tv,.int .i64 0,.int .i64 0])∧Below w.heap.size w w'∧w'.ownsRow w.heap.size 118 3 tv l.length (tokCells (evT n L l)) :=
 Read_entries (cond_ok hn hT) hs hl hby hg h
end Lx
end Go.Proofs
#print axioms Go.Proofs.Lx.Read_text
