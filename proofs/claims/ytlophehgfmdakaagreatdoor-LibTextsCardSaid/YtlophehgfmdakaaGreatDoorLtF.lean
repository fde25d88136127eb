/- PROVED HERE: the tied card of LibTexts (floodgatelaw25): the call returns true, and its argument reads as before, for every text that its given row takes in. CONDITIONS: those of the given row and card, none beside them. HOW: an evaluator of Go calls is proved sound (parts Eva to Evf), the closed runs are reckoned with it by the kernel (parts Lt), a name that is none of the library's is walked by the kit's tactics (part Wk), the row and the card stand in Cf and Cp. Part LtF. -/
import Derived.Test.YtlophehgfmdakaaGreatDoorLtC
import Derived.Test.YtlophehgfmdakaaGreatDoorLtlK
import Derived.Test.YtlophehgfmdakaaGreatDoorLtlD0
import Derived.Test.YtlophehgfmdakaaGreatDoorLtlD1
import Derived.Test.YtlophehgfmdakaaGreatDoorLtlD2
import Derived.Test.YtlophehgfmdakaaGreatDoorLtlD3
import Derived.Test.YtlophehgfmdakaaGreatDoorLtlD4
import Derived.Test.YtlophehgfmdakaaGreatDoorLtlO
import Derived.Test.YtlophehgfmdakaaGreatDoorLtlP
import Derived.Test.YtlophehgfmdakaaGreatDoorLtlR
import Derived.Test.YtlophehgfmdakaaGreatDoorLtlI
import Derived.Test.YtlophehgfmdakaaGreatDoorLtlL
import Derived.Test.YtlophehgfmdakaaGreatDoorLtlC0
import Derived.Test.YtlophehgfmdakaaGreatDoorLtlC1
import Derived.Test.YtlophehgfmdakaaGreatDoorLtlC2
import Derived.Test.YtlophehgfmdakaaGreatDoorLtlA
import Derived.Test.YtlophehgfmdakaaGreatDoorLtlS
import Derived.Test.YtlophehgfmdakaaGreatDoorLtlM
import Derived.Test.YtlophehgfmdakaaGreatDoorLtlT
import Derived.Test.YtlophehgfmdakaaGreatDoorWk
import Derived.Test.YtlophehgfmdakaaGreatDoorEvg
import Derived.KernelRfl
open Go Go.Ev Go.Proofs
namespace Go.Ev
theorem memApp {a b : List Ent} (ha : ∀ e ∈ a, KnownV PE e.1 e.2.1 e.2.2) (hb : ∀ e ∈ b, KnownV PE e.1 e.2.1 e.2.2) : ∀ e ∈ a ++ b, KnownV PE e.1 e.2.1 e.2.2 := fun e h => (List.mem_append.1 h).elim (ha e) (hb e)
theorem kOf {d l : List Ent} (hd : ∀ e ∈ d, KnownV PE e.1 e.2.1 e.2.2) (t : byValL (runL d) l = .yes) : ∀ e ∈ l, KnownV PE e.1 e.2.1 e.2.2 := knownVs hmP hnameP (orcBoth_ok oR_ok (orcL_ok hd)) t
theorem k_lK : ∀ e ∈ lK, KnownV PE e.1 e.2.1 e.2.2 := kOf (fun _ h => by cases h) t_lK
theorem k_lD0 : ∀ e ∈ lD0, KnownV PE e.1 e.2.1 e.2.2 := kOf k_lK t_lD0
theorem k_lD1 : ∀ e ∈ lD1, KnownV PE e.1 e.2.1 e.2.2 := kOf k_lK t_lD1
theorem k_lD2 : ∀ e ∈ lD2, KnownV PE e.1 e.2.1 e.2.2 := kOf k_lK t_lD2
theorem k_lD3 : ∀ e ∈ lD3, KnownV PE e.1 e.2.1 e.2.2 := kOf k_lK t_lD3
theorem k_lD4 : ∀ e ∈ lD4, KnownV PE e.1 e.2.1 e.2.2 := kOf k_lK t_lD4
theorem k_lO : ∀ e ∈ lO, KnownV PE e.1 e.2.1 e.2.2 := kOf (memApp (memApp (memApp (memApp k_lD0 k_lD1) k_lD2) k_lD3) k_lD4) t_lO
theorem k_lP : ∀ e ∈ lP, KnownV PE e.1 e.2.1 e.2.2 := kOf k_lK t_lP
theorem k_lR : ∀ e ∈ lR, KnownV PE e.1 e.2.1 e.2.2 := kOf (fun _ h => by cases h) t_lR
theorem k_lI : ∀ e ∈ lI, KnownV PE e.1 e.2.1 e.2.2 := kOf k_lR t_lI
theorem k_lL : ∀ e ∈ lL, KnownV PE e.1 e.2.1 e.2.2 := kOf (memApp k_lR k_lI) t_lL
theorem k_lC0 : ∀ e ∈ lC0, KnownV PE e.1 e.2.1 e.2.2 := kOf (fun _ h => by cases h) t_lC0
theorem k_lC1 : ∀ e ∈ lC1, KnownV PE e.1 e.2.1 e.2.2 := kOf (fun _ h => by cases h) t_lC1
theorem k_lC2 : ∀ e ∈ lC2, KnownV PE e.1 e.2.1 e.2.2 := kOf (fun _ h => by cases h) t_lC2
theorem k_lA : ∀ e ∈ lA, KnownV PE e.1 e.2.1 e.2.2 := kOf (memApp (memApp (memApp (memApp (memApp k_lO k_lP) k_lL) k_lC0) k_lC1) k_lC2) t_lA
theorem k_lS : ∀ e ∈ lS, KnownV PE e.1 e.2.1 e.2.2 := kOf (fun _ h => by cases h) t_lS
theorem k_lM : ∀ e ∈ lM, KnownV PE e.1 e.2.1 e.2.2 := kOf k_lO t_lM
theorem k_lT : ∀ e ∈ lT, KnownV PE e.1 e.2.1 e.2.2 := kOf (memApp (memApp (memApp k_lO k_lS) k_lM) k_lA) t_lT
end Go.Ev


namespace Go.Proofs
open Go.RowKit Go.Ev
namespace Lb
theorem hasD_of {w : World} {cap : Option Nat} {x : AV} {xs : List AV} {c : Value} {n : Nat} {nm : Nat → ByteArray} (h : Frz w (.lst cap (x :: xs)) c) (hn : xs.length + 1 = n)
    (h0 : ∀ i, i < n → (cellsOf (x :: xs))[i * 5]? = some (.str (bytesOf (nm i)))) (h1 : ∀ i, i < n → ∀ j, j < 5 → ((cellsOf (x :: xs))[i * 5 + j]?).isSome = true) :
    ∃ b k capc tx pa re ca, c = .slice (some ⟨b, k, none⟩) n capc ∧ HasD w b k n nm tx pa re ca := by
  obtain ⟨b, k, capc, rfl, hc, hv⟩ := h.lst
  rw [hn]
  have hx : ∀ i, i < n → ∀ j, j < 5 → w.cell? ⟨b, k + i * 5 + j, none⟩ = some ((w.cell? ⟨b, k + i * 5 + j, none⟩).getD undef) := by
    intro i hi j hj
    obtain ⟨v, hv2⟩ := Option.isSome_iff_exists.1 (h1 i hi j hj)
    obtain ⟨cv, h3, _⟩ := hv _ _ hv2
    rw [show k + i * 5 + j = k + (i * 5 + j) by omega, h3]
    rfl
  refine ⟨b, k, capc, fun i => (w.cell? ⟨b, k + i * 5 + 1, none⟩).getD undef, fun i => (w.cell? ⟨b, k + i * 5 + 2, none⟩).getD undef, fun i => (w.cell? ⟨b, k + i * 5 + 3, none⟩).getD undef, fun i => (w.cell? ⟨b, k + i * 5 + 4, none⟩).getD undef, rfl, ⟨fun i hi => ?_, fun i hi => hx i hi 1 (by omega), fun i hi => hx i hi 2 (by omega), fun i hi => hx i hi 3 (by omega), fun i hi => hx i hi 4 (by omega)⟩⟩
  obtain ⟨cv, h3, h4⟩ := hv _ _ (h0 i hi)
  obtain ⟨sb, rfl, hs⟩ := h4.str
  rw [h3]
  rw [bytesOf_inj.1 hs]
theorem names_of {w : World} {cap : Option Nat} {x : AV} {xs : List AV} {c : Value} {n : Nat} {nm : Nat → ByteArray} (h : Frz w (.lst cap (x :: xs)) c) (hn : xs.length + 1 = n)
    (h0 : ∀ i, i < n → (cellsOf (x :: xs))[i]? = some (.str (bytesOf (nm i)))) :
    ∃ b k capc, c = .slice (some ⟨b, k, none⟩) n capc ∧ ∀ i, i < n → w.cell? ⟨b, k + i, none⟩ = some (.string (nm i)) := by
  obtain ⟨b, k, capc, rfl, hc, hv⟩ := h.lst
  rw [hn]
  refine ⟨b, k, capc, rfl, fun i hi => ?_⟩
  obtain ⟨cv, h3, h4⟩ := hv _ _ (h0 i hi)
  obtain ⟨sb, rfl, hs⟩ := h4.str
  rw [h3]
  rw [bytesOf_inj.1 hs]
/-- the values of the closed calls: a slice of the definitions, as the entries have it -/
def okD (l : List AV) : Bool := (List.range 22).all fun i => (match (cellsOf l)[i * 5]? with | some (.str s) => decide (s = bytesOf (Lb.nm i)) | _ => false) && (List.range 5).all fun j => ((cellsOf l)[i * 5 + j]?).isSome
def okN (l : List AV) : Bool := (List.range 22).all fun i => match (cellsOf l)[i]? with | some (.str s) => decide (s = bytesOf (Lb.nm i)) | _ => false
theorem okD_0 {l : List AV} (h : okD l = true) : ∀ i, i < 22 → (cellsOf l)[i * 5]? = some (.str (bytesOf (Lb.nm i))) := by
  intro i hi
  have := List.all_eq_true.1 h i (List.mem_range.2 hi)
  rw [Bool.and_eq_true] at this
  have h1 := this.1
  split at h1
  · rename_i s hs
    rw [hs, of_decide_eq_true h1]
  · cases h1
theorem okD_1 {l : List AV} (h : okD l = true) : ∀ i, i < 22 → ∀ j, j < 5 → ((cellsOf l)[i * 5 + j]?).isSome = true := by
  intro i hi j hj
  have := List.all_eq_true.1 h i (List.mem_range.2 hi)
  rw [Bool.and_eq_true] at this
  exact List.all_eq_true.1 this.2 j (List.mem_range.2 hj)
theorem okN_0 {l : List AV} (h : okN l = true) : ∀ i, i < 22 → (cellsOf l)[i]? = some (.str (bytesOf (Lb.nm i))) := by
  intro i hi
  have h1 := List.all_eq_true.1 h i (List.mem_range.2 hi)
  split at h1
  · rename_i s hs
    rw [hs, of_decide_eq_true h1]
  · cases h1
theorem vrs_nil {j : Inj} : VRs j [] (#[] : Array Value).toList := .nil
variable {P : Env}
theorem ctx_of (hP : P.toProgram = Tryz.prog) {capO capD capN : Option Nat} {x y z : AV} {xs ys zs : List AV}
    (kO : KnownV P 30 [] (.tup [.lst capO (x :: xs), .int .i64 0])) (kD : KnownV P 13 [] (.lst capD (y :: ys))) (kN : KnownV P 14 [] (.lst capN (z :: zs))) (kA : KnownV P 6 [] (.bool true))
    (lO : xs.length + 1 = 22) (lD : ys.length + 1 = 22) (lN : zs.length + 1 = 22) (oO : okD (x :: xs) = true) (oD : okD (y :: ys) = true) (oN : okN (z :: zs) = true)
    (B0 : World) : Ctx fun w => (P.inv w ∧ P.n0 ≤ w.heap.size) ∧ Below B0.heap.size B0 w := {
  mono := fun w w' ⟨⟨h1, h2⟩, h3⟩ hB => ⟨⟨P.stable w w' (fun b hb => hB.block b (by omega)) h1, Nat.le_trans h2 hB.size⟩, h3.trans (hB.mono h3.size)⟩,
  opn := fun w ⟨⟨h1, h2⟩, h3⟩ => by
    rw [← hP]
    refine (calls_of_known kO vrs_nil h1 h2).2.mono ?_
    rintro e w' ⟨cv, rfl, hf, hB, hI⟩
    obtain ⟨cs, rfl, hz, hc⟩ := hf.tup
    obtain ⟨c0, e0, f0⟩ := hc 0 _ rfl
    obtain ⟨c1, e1, f1⟩ := hc 1 _ rfl
    obtain ⟨b, k, capc, tx, pa, re, ca, rfl, hd⟩ := hasD_of f0 lO (okD_0 oO) (okD_1 oO)
    have := f1.int
    subst this
    have hcs : cs = #[.slice (some ⟨b, k, none⟩) 22 capc, .int .i64 0] := by
      apply Array.ext'
      have hz : cs.toList.length = 2 := hz
      rw [← Array.getElem?_toList] at e0 e1
      match hl : cs.toList, hz with
      | [p, q], _ =>
        rw [hl] at e0 e1
        cases e0; cases e1; rfl
    exact ⟨b, k, capc, tx, pa, re, ca, by rw [hcs], hd, hB, ⟨hI, Nat.le_trans h2 hB.size⟩, h3.trans (hB.mono h3.size)⟩,
  defs := fun w ⟨⟨h1, h2⟩, h3⟩ => by
    rw [← hP]
    refine (calls_of_known kD vrs_nil h1 h2).2.mono ?_
    rintro e w' ⟨cv, rfl, hf, hB, hI⟩
    obtain ⟨b, k, capc, tx, pa, re, ca, rfl, hd⟩ := hasD_of hf lD (okD_0 oD) (okD_1 oD)
    exact ⟨b, k, capc, tx, pa, re, ca, rfl, hd, hB, ⟨hI, Nat.le_trans h2 hB.size⟩, h3.trans (hB.mono h3.size)⟩,
  names := fun w ⟨⟨h1, h2⟩, h3⟩ => by
    rw [← hP]
    refine (calls_of_known kN vrs_nil h1 h2).2.mono ?_
    rintro e w' ⟨cv, rfl, hf, hB, hI⟩
    obtain ⟨b, k, capc, rfl, hd⟩ := names_of hf lN (okN_0 oN)
    exact ⟨b, k, capc, rfl, hd, hB, ⟨hI, Nat.le_trans h2 hB.size⟩, h3.trans (hB.mono h3.size)⟩,
  awk := fun w ⟨⟨h1, h2⟩, h3⟩ => by
    rw [← hP]
    refine (calls_of_known kA vrs_nil h1 h2).2.mono ?_
    rintro e w' ⟨cv, rfl, hf, hB, hI⟩
    rw [hf.bool]
    exact ⟨rfl, ⟨hI, Nat.le_trans h2 hB.size⟩, h3.trans (hB.mono h3.size)⟩ }
end Lb
end Go.Proofs


namespace Go.Proofs
open Go.RowKit Go.Ev
namespace Lb
variable {P : Env}
theorem eq_of_toList {a b : ByteArray} (h : (a.toList == b.toList) = true) : a = b := by
  have h : a.toList = b.toList := by simpa using h
  rw [ByteArray.toList_eq, ByteArray.toList_eq] at h
  cases a; cases b; exact congrArg _ (Array.ext' h)
theorem texts_all (hP : P.toProgram = Tryz.prog) (hC : ∀ B0 : World, Ctx fun w => (P.inv w ∧ P.n0 ≤ w.heap.size) ∧ Below B0.heap.size B0 w) (kT : ∀ i, i < 22 → KnownV P 4 [.str (bytesOf (nm i))] (.bool true)) (s : ByteArray) {w : World} (hi : P.inv w) (hn : P.n0 ≤ w.heap.size) :
    Calls Tryz.prog 4 #[.string s] w fun e w' => e = .returned (.bool true) ∧ Below w.heap.size w w' := by
  by_cases hl : 100 < s.size
  · exact (texts_long (hC w) ⟨⟨hi, hn⟩, Below.refl _ _⟩ hl).mono fun e w' h => ⟨h.1, h.2.2⟩
  · by_cases hu : Unk s
    · exact (texts_none (hC w) ⟨⟨hi, hn⟩, Below.refl _ _⟩ hu (by omega)).mono fun e w' h => ⟨h.1, h.2.2⟩
    · unfold Unk at hu
      simp only [Classical.not_forall] at hu
      obtain ⟨i, hi2, h⟩ := hu
      have hs : nm i = s := eq_of_toList (by simpa using h)
      subst hs
      rw [← hP]
      refine (calls_of_known (kT i hi2) (vs := #[.string (nm i)]) (.cons _ _ _ _ (.str _) .nil) hi hn).2.mono ?_
      rintro e w' ⟨cv, rfl, hf, hB, hI⟩
      rw [hf.bool]
      exact ⟨rfl, hB⟩
end Lb
end Go.Proofs


open Go Go.Ev Go.Proofs
namespace Go.Ev
set_option maxRecDepth 1000000
theorem kT0 : KnownV PE 4 [.str (bytesOf (Lb.nm 0))] (.bool true) := by
  have h : KnownV PE 4 [.str [117, 112]] (.bool true) := k_lT (4, [.str [117, 112]], .bool true) (List.mem_of_getElem? (i := 4) rfl)
  rw [show bytesOf (Lb.nm 0) = [117, 112] by decide +kernel]
  exact h
theorem kT1 : KnownV PE 4 [.str (bytesOf (Lb.nm 1))] (.bool true) := by
  have h : KnownV PE 4 [.str [115, 117, 109]] (.bool true) := k_lT (4, [.str [115, 117, 109]], .bool true) (List.mem_of_getElem? (i := 0) rfl)
  rw [show bytesOf (Lb.nm 1) = [115, 117, 109] by decide +kernel]
  exact h
theorem kT2 : KnownV PE 4 [.str (bytesOf (Lb.nm 2))] (.bool true) := by
  have h : KnownV PE 4 [.str [108, 101, 110]] (.bool true) := k_lT (4, [.str [108, 101, 110]], .bool true) (List.mem_of_getElem? (i := 1) rfl)
  rw [show bytesOf (Lb.nm 2) = [108, 101, 110] by decide +kernel]
  exact h
theorem kT3 : KnownV PE 4 [.str (bytesOf (Lb.nm 3))] (.bool true) := by
  have h : KnownV PE 4 [.str [106, 111, 105, 110]] (.bool true) := k_lT (4, [.str [106, 111, 105, 110]], .bool true) (List.mem_of_getElem? (i := 3) rfl)
  rw [show bytesOf (Lb.nm 3) = [106, 111, 105, 110] by decide +kernel]
  exact h
theorem kT4 : KnownV PE 4 [.str (bytesOf (Lb.nm 4))] (.bool true) := by
  have h : KnownV PE 4 [.str [114, 101, 118]] (.bool true) := k_lT (4, [.str [114, 101, 118]], .bool true) (List.mem_of_getElem? (i := 2) rfl)
  rw [show bytesOf (Lb.nm 4) = [114, 101, 118] by decide +kernel]
  exact h
theorem kT5 : KnownV PE 4 [.str (bytesOf (Lb.nm 5))] (.bool true) := by
  have h : KnownV PE 4 [.str [112, 117, 116]] (.bool true) := k_lT (4, [.str [112, 117, 116]], .bool true) (List.mem_of_getElem? (i := 5) rfl)
  rw [show bytesOf (Lb.nm 5) = [112, 117, 116] by decide +kernel]
  exact h
theorem kT6 : KnownV PE 4 [.str (bytesOf (Lb.nm 6))] (.bool true) := by
  have h : KnownV PE 4 [.str [115, 111, 114, 116]] (.bool true) := k_lT (4, [.str [115, 111, 114, 116]], .bool true) (List.mem_of_getElem? (i := 11) rfl)
  rw [show bytesOf (Lb.nm 6) = [115, 111, 114, 116] by decide +kernel]
  exact h
theorem kT7 : KnownV PE 4 [.str (bytesOf (Lb.nm 7))] (.bool true) := by
  have h : KnownV PE 4 [.str [100, 114, 111, 112]] (.bool true) := k_lT (4, [.str [100, 114, 111, 112]], .bool true) (List.mem_of_getElem? (i := 6) rfl)
  rw [show bytesOf (Lb.nm 7) = [100, 114, 111, 112] by decide +kernel]
  exact h
theorem kT8 : KnownV PE 4 [.str (bytesOf (Lb.nm 8))] (.bool true) := by
  have h : KnownV PE 4 [.str [115, 105, 101, 118, 101]] (.bool true) := k_lT (4, [.str [115, 105, 101, 118, 101]], .bool true) (List.mem_of_getElem? (i := 13) rfl)
  rw [show bytesOf (Lb.nm 8) = [115, 105, 101, 118, 101] by decide +kernel]
  exact h
theorem kT9 : KnownV PE 4 [.str (bytesOf (Lb.nm 9))] (.bool true) := by
  have h : KnownV PE 4 [.str [112, 114, 105, 109, 101, 115]] (.bool true) := k_lT (4, [.str [112, 114, 105, 109, 101, 115]], .bool true) (List.mem_of_getElem? (i := 15) rfl)
  rw [show bytesOf (Lb.nm 9) = [112, 114, 105, 109, 101, 115] by decide +kernel]
  exact h
theorem kT10 : KnownV PE 4 [.str (bytesOf (Lb.nm 10))] (.bool true) := by
  have h : KnownV PE 4 [.str [103, 99, 100]] (.bool true) := k_lT (4, [.str [103, 99, 100]], .bool true) (List.mem_of_getElem? (i := 7) rfl)
  rw [show bytesOf (Lb.nm 10) = [103, 99, 100] by decide +kernel]
  exact h
theorem kT11 : KnownV PE 4 [.str (bytesOf (Lb.nm 11))] (.bool true) := by
  have h : KnownV PE 4 [.str [102, 105, 98]] (.bool true) := k_lT (4, [.str [102, 105, 98]], .bool true) (List.mem_of_getElem? (i := 8) rfl)
  rw [show bytesOf (Lb.nm 11) = [102, 105, 98] by decide +kernel]
  exact h
theorem kT12 : KnownV PE 4 [.str (bytesOf (Lb.nm 12))] (.bool true) := by
  have h : KnownV PE 4 [.str [110, 116, 104]] (.bool true) := k_lT (4, [.str [110, 116, 104]], .bool true) (List.mem_of_getElem? (i := 9) rfl)
  rw [show bytesOf (Lb.nm 12) = [110, 116, 104] by decide +kernel]
  exact h
theorem kT13 : KnownV PE 4 [.str (bytesOf (Lb.nm 13))] (.bool true) := by
  have h : KnownV PE 4 [.str [112, 97, 99, 107]] (.bool true) := k_lT (4, [.str [112, 97, 99, 107]], .bool true) (List.mem_of_getElem? (i := 12) rfl)
  rw [show bytesOf (Lb.nm 13) = [112, 97, 99, 107] by decide +kernel]
  exact h
theorem kT14 : KnownV PE 4 [.str (bytesOf (Lb.nm 14))] (.bool true) := by
  have h : KnownV PE 4 [.str [99, 101, 108, 108]] (.bool true) := k_lT (4, [.str [99, 101, 108, 108]], .bool true) (List.mem_of_getElem? (i := 10) rfl)
  rw [show bytesOf (Lb.nm 14) = [99, 101, 108, 108] by decide +kernel]
  exact h
theorem kT15 : KnownV PE 4 [.str (bytesOf (Lb.nm 15))] (.bool true) := by
  have h : KnownV PE 4 [.str [112, 114, 111, 100, 117, 99, 116]] (.bool true) := k_lT (4, [.str [112, 114, 111, 100, 117, 99, 116]], .bool true) (List.mem_of_getElem? (i := 14) rfl)
  rw [show bytesOf (Lb.nm 15) = [112, 114, 111, 100, 117, 99, 116] by decide +kernel]
  exact h
theorem kT16 : KnownV PE 4 [.str (bytesOf (Lb.nm 16))] (.bool true) := by
  have h : KnownV PE 4 [.str [97, 116, 111, 109]] (.bool true) := k_lT (4, [.str [97, 116, 111, 109]], .bool true) (List.mem_of_getElem? (i := 19) rfl)
  rw [show bytesOf (Lb.nm 16) = [97, 116, 111, 109] by decide +kernel]
  exact h
theorem kT17 : KnownV PE 4 [.str (bytesOf (Lb.nm 17))] (.bool true) := by
  have h : KnownV PE 4 [.str [116, 105, 109, 101, 115]] (.bool true) := k_lT (4, [.str [116, 105, 109, 101, 115]], .bool true) (List.mem_of_getElem? (i := 16) rfl)
  rw [show bytesOf (Lb.nm 17) = [116, 105, 109, 101, 115] by decide +kernel]
  exact h
theorem kT18 : KnownV PE 4 [.str (bytesOf (Lb.nm 18))] (.bool true) := by
  have h : KnownV PE 4 [.str [116, 101, 114, 109]] (.bool true) := k_lT (4, [.str [116, 101, 114, 109]], .bool true) (List.mem_of_getElem? (i := 17) rfl)
  rw [show bytesOf (Lb.nm 18) = [116, 101, 114, 109] by decide +kernel]
  exact h
theorem kT19 : KnownV PE 4 [.str (bytesOf (Lb.nm 19))] (.bool true) := by
  have h : KnownV PE 4 [.str [109, 111, 114, 101]] (.bool true) := k_lT (4, [.str [109, 111, 114, 101]], .bool true) (List.mem_of_getElem? (i := 20) rfl)
  rw [show bytesOf (Lb.nm 19) = [109, 111, 114, 101] by decide +kernel]
  exact h
theorem kT20 : KnownV PE 4 [.str (bytesOf (Lb.nm 20))] (.bool true) := by
  have h : KnownV PE 4 [.str [101, 120, 112, 114]] (.bool true) := k_lT (4, [.str [101, 120, 112, 114]], .bool true) (List.mem_of_getElem? (i := 18) rfl)
  rw [show bytesOf (Lb.nm 20) = [101, 120, 112, 114] by decide +kernel]
  exact h
theorem kT21 : KnownV PE 4 [.str (bytesOf (Lb.nm 21))] (.bool true) := by
  have h : KnownV PE 4 [.str [101, 118, 97, 108]] (.bool true) := k_lT (4, [.str [101, 118, 97, 108]], .bool true) (List.mem_of_getElem? (i := 21) rfl)
  rw [show bytesOf (Lb.nm 21) = [101, 118, 97, 108] by decide +kernel]
  exact h
theorem kTs : ∀ i, i < 22 → KnownV PE 4 [.str (bytesOf (Lb.nm i))] (.bool true)
  | 0, _ => kT0
  | 1, _ => kT1
  | 2, _ => kT2
  | 3, _ => kT3
  | 4, _ => kT4
  | 5, _ => kT5
  | 6, _ => kT6
  | 7, _ => kT7
  | 8, _ => kT8
  | 9, _ => kT9
  | 10, _ => kT10
  | 11, _ => kT11
  | 12, _ => kT12
  | 13, _ => kT13
  | 14, _ => kT14
  | 15, _ => kT15
  | 16, _ => kT16
  | 17, _ => kT17
  | 18, _ => kT18
  | 19, _ => kT19
  | 20, _ => kT20
  | 21, _ => kT21
  | n + 22, h => absurd h (by omega)
end Go.Ev


open Go Go.Ev Go.Proofs Go.RowKit
namespace Go.Ev
set_option maxRecDepth 1000000
/-- LibTexts answers true to every text -/
theorem texts_final (s : ByteArray) {w : World} (hi : Lib.TabIs Tryz.prog w "internal/strconv.uint64pow10" .u64 Lib.pow10Tab) :
    Calls Tryz.prog 4 #[.string s] w fun e w' => e = .returned (.bool true) ∧ Below w.heap.size w w' :=
  Lb.texts_all (P := PE) rfl (fun B0 => Lb.ctx_of rfl (k_lO _ List.mem_cons_self) (k_lS _ List.mem_cons_self) (k_lM _ List.mem_cons_self) (k_lA _ List.mem_cons_self) rfl rfl rfl (by decide +kernel) (by decide +kernel) (by decide +kernel) B0) kTs s hi (tab_size hg hi)
end Go.Ev

