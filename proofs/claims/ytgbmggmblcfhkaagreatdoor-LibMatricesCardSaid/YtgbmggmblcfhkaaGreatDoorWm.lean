/- PROVED HERE: a part (Wm) of the tied card of LibMatrices (floodgatelaw25): the call returns true and its arguments read as before. CONDITIONS: those of the given row and card alone. HOW: an evaluator of Go calls with unknown integers is proved sound (Eva to Evg), functions of the closure are walked and answered by readers of the heap (Wk, Wv, Oa, Ob), the runs are reckoned by the kernel (Lt), the statement itself is walked (Wm), the row and the card stand in Cf and Cp. -/
import Derived.Test.YtgbmggmblcfhkaaGreatDoorProg
import Derived.WalkKit
import Derived.OwnWalk
import Derived.Below
import Derived.Handy
import Derived.Lib.Hide
import Derived.KernelRfl
import Derived.Deep.Draws
import Derived.Deep.AppendLies
import Derived.Laws.AppendOwnNone
import Derived.Deep.QuietTactic
import Derived.BigQuiet
import Derived.Test.YtgbmggmblcfhkaaGreatDoorEvg
import Derived.ChangeSlices
import Derived.ProofKit
namespace Go.Proofs
open Go.RowKit
namespace Lm
theorem cell_lt {w : World} {b o : Nat} {v : Value} (h : w.cell? ⟨b, o, none⟩ = some v) : b < w.heap.size := by
  unfold World.cell? at h
  cases hb : w.heap[b]? with
  | none => rw [hb] at h; simp at h
  | some o => exact (Array.getElem?_eq_some_iff.1 hb).1
theorem cell_below {w w' : World} {b o n : Nat} {v : Value} (h : w.cell? ⟨b, o, none⟩ = some v) (hB : Below n w w') (hn : b < n) : w'.cell? ⟨b, o, none⟩ = some v := (hB.cell (p := ⟨b, o, none⟩) hn).trans h
theorem below_drewN {B n : Nat} {a w : World} (h : Below B a w) : Below B a (w.drewN n) := ⟨h.os, h.tape, h.output, h.size, h.block⟩
theorem info3 : (Tryz.prog.info? 3).map (fun i => (i.zero, i.size, i.bytes)) = some (some (.int .i64 0), 1, 8) := by kernel_rfl
/-- a slice of integers of 8 bits, as it lies in a world -/
def Has8 (w : World) (v : Value) (l : List Int) : Prop :=
  ∃ p c, v = .slice p l.length c ∧ (l ≠ [] → ∃ b off, p = some ⟨b, off, none⟩ ∧ ∀ i, i < l.length → w.cell? ⟨b, off + i, none⟩ = some (.int .i8 (l.getD i 0)))
theorem Has8.below {w w' : World} {v : Value} {l : List Int} (h : Has8 w v l) (hB : Below w.heap.size w w') : Has8 w' v l := by
  obtain ⟨p, c, rfl, h⟩ := h
  exact ⟨p, c, rfl, fun h0 => let ⟨b, o, hp, hq⟩ := h h0; ⟨b, o, hp, fun i hi => cell_below (hq i hi) hB (cell_lt (hq i hi))⟩⟩
/-- the first m integers behind j rounds -/
def mid (l : List Int) (m j : Nat) : List Value := (List.range m).map fun i => .int .i64 (if i < j then l.getD i 0 else 0)
theorem mid_set (l : List Int) (m j : Nat) : (mid l m j).set j (.int .i64 (l.getD j 0)) = mid l m (j + 1) := by
  apply List.ext_getElem?
  intro i
  unfold mid
  by_cases h : i = j
  · subst h
    by_cases hi : i < m
    · rw [List.getElem?_set_self (by simpa using hi)]
      simp [hi]
    · rw [List.getElem?_eq_none (by simpa using hi), List.getElem?_eq_none (by simpa using hi)]
  · rw [List.getElem?_set_ne (fun e => h e.symm)]
    by_cases hi : i < m
    · simp only [List.getElem?_map, List.getElem?_range hi, Option.map_some]
      by_cases h2 : i < j
      · rw [if_pos h2, if_pos (by omega)]
      · rw [if_neg h2, if_neg (by omega)]
    · rw [List.getElem?_eq_none (by simpa using hi), List.getElem?_eq_none (by simpa using hi)]
def sq (l : List Int) (m : Nat) : List Int := (List.range m).map fun i => l.getD i 0
theorem mid_end (l : List Int) (m j : Nat) (h : m ≤ j ∨ l.length ≤ j) : mid l m j = (sq l m).map (Value.int .i64) := by
  unfold mid sq
  rw [List.map_map]
  apply List.map_congr_left
  intro i hi
  have hi := List.mem_range.1 hi
  by_cases h2 : i < j
  · rw [if_pos h2]; rfl
  · rw [if_neg h2]
    have : l.getD i 0 = 0 := by rw [List.getD_eq_getElem?_getD, List.getElem?_eq_none (by omega)]; rfl
    show Value.int .i64 0 = .int .i64 (l.getD i 0)
    rw [this]
theorem mid_zero (l : List Int) (m : Nat) : (madeCells #[.int .i64 0] m).toList = mid l m 0 := by
  unfold mid
  rw [toList_madeCells_one]
  apply List.ext_getElem?
  intro i
  by_cases hi : i < m
  · simp [hi]
  · simp [hi]
set_option maxRecDepth 100000 in
theorem square_c (n : Int) (m : Nat) (hnm : (n = 0 ∧ m = 0) ∨ (n = 1 ∧ m = 1) ∨ (n = 2 ∧ m = 4) ∨ (n = 3 ∧ m = 9)) (l : List Int) (v : Value) (w : World) (h : Has8 w v l) (hr : ∀ i, -128 ≤ l.getD i 0 ∧ l.getD i 0 ≤ 127) (_hl : l.length ≤ 9223372036854775807) :
    Calls Tryz.prog 4 #[v, .int .i64 n] w fun e w' => e = .returned (.slice (some ⟨w.heap.size, 0, none⟩) m m) ∧ w'.ownsRow w.heap.size 3 1 (.slice (some ⟨w.heap.size, 0, none⟩) m m) m ((sq l m).map (Value.int .i64)) ∧ Below w.heap.size w w' := by
  obtain ⟨p, c, rfl, h⟩ := h
  obtain ⟨i0, hi, hz0, hz1, hz2⟩ := info_parts info3
  obtain ⟨len, hlen⟩ : ∃ len, len = l.length := ⟨_, rfl⟩
  have H := Lib.hid h
  have HR := Lib.hid hr
  have HL := Lib.hid hlen
  rw [← hlen] at _hl ⊢
  clear h hr hlen
  generalize hM : w.heap.size = M
  have HM := Lib.hid hM
  clear hM
  rcases hnm with ⟨rfl, rfl⟩ | ⟨rfl, rfl⟩ | ⟨rfl, rfl⟩ | ⟨rfl, rfl⟩
  · go_enter Tryz.func4, Tryz.ntmps4
    go_wp2_with (at_make; refine wpList_make_full w rfl _ _ 23 rfl w.heap.size 3 i0 (.int .i64 0) 1 Tryz.underlying23 hi hz0 hz1 _ _ _ _ 0 rfl rfl (by decide) (by decide) (by rw [hz2]; omega) (by unfold maxLen; omega) (Nat.le_refl _) ?_)
    intro w1 ho0 hg1
    have hB1 : Below w.heap.size w w1 := (Below.refl _ _).grown hg1 (Nat.le_refl _) (by simp)
    have ho1 : w1.ownsRow w.heap.size 3 1 (.slice (some ⟨w.heap.size, 0, none⟩) 0 0) 0 (mid l 0 0) := by rw [← mid_zero l]; exact ho0
    clear ho0 hg1
    have e := HM.out
    rw [e] at ho1 hB1
    rw [e]
    clear e
    go_wp2
    go_loopw [6] (fun i wr => ∃ j : Nat, j ≤ 0 ∧ i = .int .i64 j ∧ wr.ownsRow M 3 1 (.slice (some ⟨M, 0, none⟩) 0 0) 0 (mid l 0 j) ∧ Below M w wr) (fun i _ => 0 - (intOf i).toNat)
    case atStart => exact ⟨0, by omega, rfl, ho1, hB1⟩
    case round =>
      obtain ⟨j, hj, rfl, ho, hB⟩ := hrel
      by_cases hjm : j < 0
      · exact absurd hjm (Nat.not_lt_zero _)
      · have he : mid l 0 j = (sq l 0).map (Value.int .i64) := mid_end l 0 j (.inl (by omega))
        rw [he] at ho
        clear he
        go_wp2
        go_ret
        exact ⟨rfl, ho, hB⟩
  · go_enter Tryz.func4, Tryz.ntmps4
    go_wp2_with (at_make; refine wpList_make_full w rfl _ _ 23 rfl w.heap.size 3 i0 (.int .i64 0) 1 Tryz.underlying23 hi hz0 hz1 _ _ _ _ 1 rfl rfl (by decide) (by decide) (by rw [hz2]; omega) (by unfold maxLen; omega) (Nat.le_refl _) ?_)
    intro w1 ho0 hg1
    have hB1 : Below w.heap.size w w1 := (Below.refl _ _).grown hg1 (Nat.le_refl _) (by simp)
    have ho1 : w1.ownsRow w.heap.size 3 1 (.slice (some ⟨w.heap.size, 0, none⟩) 1 1) 1 (mid l 1 0) := by rw [← mid_zero l]; exact ho0
    clear ho0 hg1
    have e := HM.out
    rw [e] at ho1 hB1
    rw [e]
    clear e
    go_wp2
    go_loopw [6] (fun i wr => ∃ j : Nat, j ≤ 1 ∧ i = .int .i64 j ∧ wr.ownsRow M 3 1 (.slice (some ⟨M, 0, none⟩) 1 1) 1 (mid l 1 j) ∧ Below M w wr) (fun i _ => 1 - (intOf i).toNat)
    case atStart => exact ⟨0, by omega, rfl, ho1, hB1⟩
    case round =>
      obtain ⟨j, hj, rfl, ho, hB⟩ := hrel
      by_cases hjm : j < 1
      · by_cases hjl : j < len
        · obtain ⟨b, o, rfl, hq⟩ := H.out (fun e => by rw [HL.out, e] at hjl; exact absurd hjl (Nat.not_lt_zero _))
          have g0 := hq j (by rw [← HL.out]; exact hjl)
          have g1 := cell_below g0 hB (by rw [← HM.out]; exact cell_lt g0)
          obtain ⟨x, hx⟩ : ∃ x, x = l.getD j 0 := ⟨_, rfl⟩
          have hx1 := (HR.out j).1
          have hx2 := (HR.out j).2
          have ho2 := ho.stored j (.int .i64 x)
          rw [hx, mid_set, ← hx] at ho2
          rw [← hx] at g1 hx1 hx2
          have hc := ho.cellAt j (by omega)
          have hc2 : wr.cell? ⟨M, j, none⟩ = some (.int .i64 0) := by rw [hc]; unfold mid; rw [List.getElem?_map, List.getElem?_range hjm]; simp
          have hf := ho.frozenAt j
          clear hc g0 hq
          have HX := Lib.hid hx
          have HO := Lib.hid ho2
          clear hx ho2
          go_wp2
          go_roundw
          case rel => exact ⟨j + 1, by omega, by go_num, HO.out.1, hB.grown HO.out.2 (by rw [← HM.out]; exact hB.size) (fun k hk => by cases hk; exact Nat.le_refl _)⟩
          case measure => simp [intOf]; omega
        · have he : mid l 1 j = (sq l 1).map (Value.int .i64) := mid_end l 1 j (.inr (by rw [← HL.out]; omega))
          rw [he] at ho
          clear he
          go_wp2
          go_ret
          exact ⟨rfl, ho, hB⟩
      · have he : mid l 1 j = (sq l 1).map (Value.int .i64) := mid_end l 1 j (.inl (by omega))
        rw [he] at ho
        clear he
        go_wp2
        go_ret
        exact ⟨rfl, ho, hB⟩
  · go_enter Tryz.func4, Tryz.ntmps4
    go_wp2_with (at_make; refine wpList_make_full w rfl _ _ 23 rfl w.heap.size 3 i0 (.int .i64 0) 1 Tryz.underlying23 hi hz0 hz1 _ _ _ _ 4 rfl rfl (by decide) (by decide) (by rw [hz2]; omega) (by unfold maxLen; omega) (Nat.le_refl _) ?_)
    intro w1 ho0 hg1
    have hB1 : Below w.heap.size w w1 := (Below.refl _ _).grown hg1 (Nat.le_refl _) (by simp)
    have ho1 : w1.ownsRow w.heap.size 3 1 (.slice (some ⟨w.heap.size, 0, none⟩) 4 4) 4 (mid l 4 0) := by rw [← mid_zero l]; exact ho0
    clear ho0 hg1
    have e := HM.out
    rw [e] at ho1 hB1
    rw [e]
    clear e
    go_wp2
    go_loopw [6] (fun i wr => ∃ j : Nat, j ≤ 4 ∧ i = .int .i64 j ∧ wr.ownsRow M 3 1 (.slice (some ⟨M, 0, none⟩) 4 4) 4 (mid l 4 j) ∧ Below M w wr) (fun i _ => 4 - (intOf i).toNat)
    case atStart => exact ⟨0, by omega, rfl, ho1, hB1⟩
    case round =>
      obtain ⟨j, hj, rfl, ho, hB⟩ := hrel
      by_cases hjm : j < 4
      · by_cases hjl : j < len
        · obtain ⟨b, o, rfl, hq⟩ := H.out (fun e => by rw [HL.out, e] at hjl; exact absurd hjl (Nat.not_lt_zero _))
          have g0 := hq j (by rw [← HL.out]; exact hjl)
          have g1 := cell_below g0 hB (by rw [← HM.out]; exact cell_lt g0)
          obtain ⟨x, hx⟩ : ∃ x, x = l.getD j 0 := ⟨_, rfl⟩
          have hx1 := (HR.out j).1
          have hx2 := (HR.out j).2
          have ho2 := ho.stored j (.int .i64 x)
          rw [hx, mid_set, ← hx] at ho2
          rw [← hx] at g1 hx1 hx2
          have hc := ho.cellAt j (by omega)
          have hc2 : wr.cell? ⟨M, j, none⟩ = some (.int .i64 0) := by rw [hc]; unfold mid; rw [List.getElem?_map, List.getElem?_range hjm]; simp
          have hf := ho.frozenAt j
          clear hc g0 hq
          have HX := Lib.hid hx
          have HO := Lib.hid ho2
          clear hx ho2
          go_wp2
          go_roundw
          case rel => exact ⟨j + 1, by omega, by go_num, HO.out.1, hB.grown HO.out.2 (by rw [← HM.out]; exact hB.size) (fun k hk => by cases hk; exact Nat.le_refl _)⟩
          case measure => simp [intOf]; omega
        · have he : mid l 4 j = (sq l 4).map (Value.int .i64) := mid_end l 4 j (.inr (by rw [← HL.out]; omega))
          rw [he] at ho
          clear he
          go_wp2
          go_ret
          exact ⟨rfl, ho, hB⟩
      · have he : mid l 4 j = (sq l 4).map (Value.int .i64) := mid_end l 4 j (.inl (by omega))
        rw [he] at ho
        clear he
        go_wp2
        go_ret
        exact ⟨rfl, ho, hB⟩
  · go_enter Tryz.func4, Tryz.ntmps4
    go_wp2_with (at_make; refine wpList_make_full w rfl _ _ 23 rfl w.heap.size 3 i0 (.int .i64 0) 1 Tryz.underlying23 hi hz0 hz1 _ _ _ _ 9 rfl rfl (by decide) (by decide) (by rw [hz2]; omega) (by unfold maxLen; omega) (Nat.le_refl _) ?_)
    intro w1 ho0 hg1
    have hB1 : Below w.heap.size w w1 := (Below.refl _ _).grown hg1 (Nat.le_refl _) (by simp)
    have ho1 : w1.ownsRow w.heap.size 3 1 (.slice (some ⟨w.heap.size, 0, none⟩) 9 9) 9 (mid l 9 0) := by rw [← mid_zero l]; exact ho0
    clear ho0 hg1
    have e := HM.out
    rw [e] at ho1 hB1
    rw [e]
    clear e
    go_wp2
    go_loopw [6] (fun i wr => ∃ j : Nat, j ≤ 9 ∧ i = .int .i64 j ∧ wr.ownsRow M 3 1 (.slice (some ⟨M, 0, none⟩) 9 9) 9 (mid l 9 j) ∧ Below M w wr) (fun i _ => 9 - (intOf i).toNat)
    case atStart => exact ⟨0, by omega, rfl, ho1, hB1⟩
    case round =>
      obtain ⟨j, hj, rfl, ho, hB⟩ := hrel
      by_cases hjm : j < 9
      · by_cases hjl : j < len
        · obtain ⟨b, o, rfl, hq⟩ := H.out (fun e => by rw [HL.out, e] at hjl; exact absurd hjl (Nat.not_lt_zero _))
          have g0 := hq j (by rw [← HL.out]; exact hjl)
          have g1 := cell_below g0 hB (by rw [← HM.out]; exact cell_lt g0)
          obtain ⟨x, hx⟩ : ∃ x, x = l.getD j 0 := ⟨_, rfl⟩
          have hx1 := (HR.out j).1
          have hx2 := (HR.out j).2
          have ho2 := ho.stored j (.int .i64 x)
          rw [hx, mid_set, ← hx] at ho2
          rw [← hx] at g1 hx1 hx2
          have hc := ho.cellAt j (by omega)
          have hc2 : wr.cell? ⟨M, j, none⟩ = some (.int .i64 0) := by rw [hc]; unfold mid; rw [List.getElem?_map, List.getElem?_range hjm]; simp
          have hf := ho.frozenAt j
          clear hc g0 hq
          have HX := Lib.hid hx
          have HO := Lib.hid ho2
          clear hx ho2
          go_wp2
          go_roundw
          case rel => exact ⟨j + 1, by omega, by go_num, HO.out.1, hB.grown HO.out.2 (by rw [← HM.out]; exact hB.size) (fun k hk => by cases hk; exact Nat.le_refl _)⟩
          case measure => simp [intOf]; omega
        · have he : mid l 9 j = (sq l 9).map (Value.int .i64) := mid_end l 9 j (.inr (by rw [← HL.out]; omega))
          rw [he] at ho
          clear he
          go_wp2
          go_ret
          exact ⟨rfl, ho, hB⟩
      · have he : mid l 9 j = (sq l 9).map (Value.int .i64) := mid_end l 9 j (.inl (by omega))
        rw [he] at ho
        clear he
        go_wp2
        go_ret
        exact ⟨rfl, ho, hB⟩
end Lm
end Go.Proofs
namespace Go.Proofs
open Go.RowKit
namespace Lm
/-- a row of m integers, as it lies in a world: the i-th is f i -/
def Row (w : World) (v : Value) (m : Nat) (f : Nat → Int) : Prop :=
  ∃ p c, v = .slice p m c ∧ m ≤ c ∧ (m = 0 → c = 0) ∧ (0 < m → ∃ b off cur e fz, p = some ⟨b, off, none⟩ ∧ w.heap[b]? = some (.cells cur e fz) ∧ ∀ i, i < m → cur[off + i]? = some (.int .i64 (f i)))
theorem Row.below {w w' : World} {v : Value} {m : Nat} {f : Nat → Int} (h : Row w v m f) (hB : Below w.heap.size w w') : Row w' v m f := by
  obtain ⟨p, c, rfl, hc, h0, h⟩ := h
  refine ⟨p, c, rfl, hc, h0, fun hm => ?_⟩
  obtain ⟨b, off, cur, e, fz, rfl, hb, hv⟩ := h hm
  exact ⟨b, off, cur, e, fz, rfl, by rw [hB.block b (Array.getElem?_eq_some_iff.1 hb).1]; exact hb, hv⟩
theorem Row.congr {w : World} {v : Value} {m : Nat} {f g : Nat → Int} (h : Row w v m f) (hfg : ∀ i, i < m → f i = g i) : Row w v m g := by
  obtain ⟨p, c, rfl, hc, h0, h⟩ := h
  refine ⟨p, c, rfl, hc, h0, fun hm => ?_⟩
  obtain ⟨b, off, cur, e, fz, rfl, hb, hv⟩ := h hm
  exact ⟨b, off, cur, e, fz, rfl, hb, fun i hi => by rw [hv i hi, hfg i hi]⟩
theorem Row.nil (w : World) (f : Nat → Int) : Row w (.slice none 0 0) 0 f := ⟨none, 0, rfl, Nat.le_refl _, fun _ => rfl, fun h => absurd h (Nat.lt_irrefl _)⟩
theorem Row.cell {w : World} {p : Option Addr} {m c : Nat} {f : Nat → Int} (h : Row w (.slice p m c) m f) (hm : 0 < m) : ∃ b off, p = some ⟨b, off, none⟩ ∧ ∀ i, i < m → w.cell? ⟨b, off + i, none⟩ = some (.int .i64 (f i)) := by
  obtain ⟨p, c, e, _, _, h⟩ := h
  cases e
  obtain ⟨b, off, cur, e, fz, rfl, hb, hv⟩ := h hm
  refine ⟨b, off, rfl, fun i hi => ?_⟩
  have := hv i hi
  unfold World.cell?
  simp only [hb]
  simpa using this
theorem Row.of_own {w : World} {base m cap : Nat} {b : Nat} {f : Nat → Int} {xs : List Value} (h : w.ownsRow base 3 1 (.slice (some ⟨b, 0, none⟩) m cap) m xs) (h0 : m = 0 → cap = 0) (hx : ∀ i, i < m → xs[i]? = some (.int .i64 (f i))) : Row w (.slice (some ⟨b, 0, none⟩) m cap) m f := by
  rcases h.2 with ⟨e, _⟩ | ⟨g, c, cur, e, _, hg, hmc, _, _, ht⟩
  · cases e
  · cases e
    refine ⟨_, _, rfl, hmc, h0, fun hm => ⟨b, 0, cur, 3, (0, 0), rfl, hg, fun i hi => ?_⟩⟩
    have := hx i hi
    rw [← ht, List.getElem?_take, if_pos (by omega)] at this
    simpa using this
/-- append([]int(nil), l...) -/
theorem wpList_copy_row {w : World} {ops : Array Oper} {rest : List Oper} {o : Oper} {a : Act} {Q : Exit → Act → World → Prop} (hgd : o.guard = none) (s x : Operand)
    (ho : o.op = .call { callee := .builtin .append, args := #[s, x], argTypes := #[23, 23] }) (hs : a.eval s = .slice none 0 0) (v : Value) (m : Nat) (f : Nat → Int) (hx : a.eval x = v) (hr : Row w v m f) (hm : m ≤ 100)
    (h : ∀ v' w', Row w' v' m f → Below w.heap.size w w' → wpList Tryz.prog ops Q rest (a.put o.dst v') w') : wpList Tryz.prog ops Q (o :: rest) a w := by
  obtain ⟨i0, hi, hz0, hz1, hz2⟩ := info_parts info3
  have hr' := hr
  obtain ⟨p, c, rfl, hmc, h0, hc⟩ := hr
  by_cases hm0 : m = 0
  · subst hm0
    obtain rfl := h0 rfl
    cases p with
    | none =>
      refine wpList_append_own_none hgd s x 23 ho w.heap.size 3 i0 1 Tryz.underlying23 hi (.slice none 0 0) 0 [] hs (World.ownsRow_nil _ _ _ _) hx ?_
      exact h _ _ (Row.nil _ _) (Below.refl _ _)
    | some ad =>
      refine wpList_append_own w hgd s x 23 ho w.heap.size 3 i0 (.int .i64 0) 1 8 Tryz.underlying23 hi hz0 hz1 hz2 rfl (by decide) (.slice none 0 0) 0 [] hs (World.ownsRow_nil _ _ _ _) ad 0 0 [] hx rfl (fun j u e => by cases e) (fun u hu => by cases hu) (by decide) (by decide) (Nat.le_refl _) ?_
      intro v' w' ho' hg hn
      obtain rfl := hn.2 ⟨rfl, rfl⟩
      exact h _ _ (Row.nil _ _) ((Below.refl _ _).grown hg (Nat.le_refl _) (by simp [Value.ownBlock]))
  · have hm1 : 0 < m := by omega
    obtain ⟨b, off, cur, e, fz, rfl, hb, hv⟩ := hc hm1
    obtain ⟨b', off', e', hcell⟩ := hr'.cell hm1
    cases e'
    refine wpList_append_lies w hgd s x 23 ho w.heap.size 3 i0 (.int .i64 0) 1 8 Tryz.underlying23 hi hz0 hz1 hz2 rfl (by decide) (.slice none 0 0) 0 [] hs (World.ownsRow_nil _ _ _ _) ⟨b, off, none⟩ m c ((List.range m).map fun i => .int .i64 (f i)) hx (by simp) ?_ ?_ hm1 (by unfold maxLen; omega) (by omega) (Nat.le_refl _) _ rfl ?_
    · intro j u hu
      have hj : j < m := by
        rcases Nat.lt_or_ge j m with h | h
        · exact h
        · rw [List.getElem?_eq_none (by simpa using h)] at hu; cases hu
      rw [List.getElem?_map, List.getElem?_range hj] at hu
      cases hu
      have e : (⟨b, off, none⟩ : Addr).add j = ⟨b, off + j, none⟩ := by unfold Addr.add; split <;> simp_all
      rw [e]; exact hcell j hj
    · intro u hu
      obtain ⟨i, _, rfl⟩ := List.mem_map.1 hu
      rfl
    · intro g cap w' ho' hg _ _
      refine h _ _ ?_ ((Below.refl _ _).grown hg (Nat.le_refl _) (by simp [Value.ownBlock]))
      rw [Nat.zero_add, List.nil_append] at ho'
      rw [Nat.zero_add]
      exact Row.of_own ho' (fun e => absurd e hm0) (fun i hi => by rw [List.getElem?_map, List.getElem?_range hi]; rfl)
set_option maxRecDepth 100000 in
theorem ints_c (m : Nat) (f : Nat → Int) (va vb : Value) (w : World) (ha : Row w va m f) (hb : Row w vb m f) (hm : m ≤ 100) :
    Calls Tryz.prog 6 #[va, vb] w fun e w' => e = .returned (.bool true) ∧ Below w.heap.size w w' := by
  have ha' := ha
  have hb' := hb
  obtain ⟨p, c, rfl, _, _, _⟩ := ha
  obtain ⟨q, d, rfl, _, _, _⟩ := hb
  by_cases h0 : m = 0
  · subst h0
    clear ha' hb'
    go_enter Tryz.func6, Tryz.ntmps6
    go_wp2
    go_loop [5] (fun i => i = .int .i64 0) (fun _ => 0)
    case atStart => rfl
    case round =>
      subst hrel
      go_wp2
      go_ret
      exact ⟨rfl, Below.refl _ _⟩
  · obtain ⟨b1, o1, rfl, h1⟩ := ha'.cell (by omega)
    obtain ⟨b2, o2, rfl, h2⟩ := hb'.cell (by omega)
    have H1 := Lib.hid h1
    have H2 := Lib.hid h2
    clear h0 h1 h2 ha' hb'
    go_enter Tryz.func6, Tryz.ntmps6
    go_wp2
    go_loopw [5] (fun i wr => ∃ k : Nat, k ≤ m ∧ i = .int .i64 k ∧ Below w.heap.size w wr) (fun i _ => m - (intOf i).toNat)
    case atStart => exact ⟨0, Nat.zero_le _, rfl, Below.refl _ _⟩
    case round =>
      obtain ⟨k, hk, rfl, hB⟩ := hrel
      by_cases hkn : k < m
      · have g1 := cell_below (H1.out k hkn) hB (cell_lt (H1.out k hkn))
        have g2 := cell_below (H2.out k hkn) hB (cell_lt (H2.out k hkn))
        obtain ⟨x, hx⟩ : ∃ x, x = f k := ⟨_, rfl⟩
        rw [← hx] at g1 g2
        clear hx
        go_wp2
        go_quiet (fail)
        go_wp2
        go_roundw
        case rel => exact ⟨k + 1, by omega, by go_num, below_drewN hB⟩
        case measure => simp [intOf]; omega
      · go_wp2
        go_ret
        exact ⟨rfl, hB⟩
end Lm
end Go.Proofs
namespace Go.Proofs
open Go.RowKit
namespace Lm
structure Ok (a b : Nat → Int) : Prop where
  ha : ∀ i, -6291456 ≤ a i ∧ a i ≤ 6291456
  hb : ∀ i, -6291456 ≤ b i ∧ b i ≤ 6291456
  hab : ∀ i j, -6291456 ≤ a i * b j ∧ a i * b j ≤ 6291456
/-- the product of two matrices of n rows -/
def mmF (n : Nat) (a b : Nat → Int) (q : Nat) : Int := ((List.range n).map fun j => a (q / n * n + j) * b (j * n + q % n)).sum
theorem mul_abs {x y : Int} {p q : Nat} (h1 : x.natAbs ≤ p) (h2 : y.natAbs ≤ q) : (x * y).natAbs ≤ p * q := by
  rw [Int.natAbs_mul]; exact Nat.mul_le_mul h1 h2
theorem mmF_abs {n : Nat} (hn : n ≤ 3) {a b : Nat → Int} (h1 : ∀ i, (a i).natAbs ≤ 128) (h2 : ∀ i, (b i).natAbs ≤ 128) (q : Nat) : (mmF n a b q).natAbs ≤ 49152 := by
  unfold mmF
  have h := fun j => mul_abs (h1 (q / n * n + j)) (h2 (j * n + q % n))
  have h0 := h 0
  have h1 := h 1
  have h2 := h 2
  rcases (by omega : n = 0 ∨ n = 1 ∨ n = 2 ∨ n = 3) with rfl | rfl | rfl | rfl <;> simp [List.range_succ] at * <;> omega
theorem ok_of {a b : Nat → Int} {p q : Nat} (h1 : ∀ i, (a i).natAbs ≤ p) (h2 : ∀ i, (b i).natAbs ≤ q) (hp : p ≤ 6291456) (hq : q ≤ 6291456) (hpq : p * q ≤ 6291456) : Ok a b :=
  ⟨fun i => by have := h1 i; omega, fun i => by have := h2 i; omega, fun i j => by have := mul_abs (h1 i) (h2 j); omega⟩
theorem mm_assoc {n : Nat} (hn : n ≤ 3) (a b : Nat → Int) (q : Nat) (hq : q < n * n) : mmF n (mmF n a b) b q = mmF n a (mmF n b b) q := by
  rcases (by omega : n = 0 ∨ n = 1 ∨ n = 2 ∨ n = 3) with rfl | rfl | rfl | rfl
  · exact absurd hq (Nat.not_lt_zero _)
  · obtain rfl : q = 0 := by omega
    simp [mmF, List.range_succ, Int.mul_assoc]
  · rcases (by omega : q = 0 ∨ q = 1 ∨ q = 2 ∨ q = 3) with rfl | rfl | rfl | rfl <;> simp [mmF, List.range_succ, Int.add_mul, Int.mul_add, Int.mul_assoc] <;> omega
  · rcases (by omega : q = 0 ∨ q = 1 ∨ q = 2 ∨ q = 3 ∨ q = 4 ∨ q = 5 ∨ q = 6 ∨ q = 7 ∨ q = 8) with rfl | rfl | rfl | rfl | rfl | rfl | rfl | rfl | rfl <;> simp [mmF, List.range_succ, Int.add_mul, Int.mul_add, Int.mul_assoc] <;> omega
/-- what the calls of the statement answer -/
structure Ctx (I : World → Prop) : Prop where
  stay : ∀ w w', I w → Below w.heap.size w w' → I w'
  prod : ∀ (n : Nat), n ≤ 3 → ∀ (a b : Nat → Int), Ok a b → ∀ va vb w, I w → Row w va (n * n) a → Row w vb (n * n) b → Calls Tryz.prog 5 #[va, vb, .int .i64 n] w fun e w' => ∃ v, e = .returned (.tuple #[v, .int .i64 0]) ∧ Row w' v (n * n) (mmF n a b) ∧ Below w.heap.size w w'
  times : ∀ (n : Nat), n ≤ 3 → ∀ (a b : Nat → Int), Ok a b → ∀ va vb w, I w → Row w va (n * n) a → Row w vb (n * n) b → Calls Tryz.prog 7 #[va, vb, .int .i64 n] w fun e w' => ∃ v, e = .returned v ∧ Row w' v (n * n) (mmF n a b) ∧ Below w.heap.size w w'
  awake : ∀ w, I w → Calls Tryz.prog 8 #[] w fun e w' => e = .returned (.bool true) ∧ Below w.heap.size w w'
theorem square_row (n : Nat) (hn : n ≤ 3) (l : List Int) (v : Value) (w : World) (h : Has8 w v l) (hr : ∀ i, -128 ≤ l.getD i 0 ∧ l.getD i 0 ≤ 127) (hl : l.length ≤ 9223372036854775807) :
    Calls Tryz.prog 4 #[v, .int .i64 n] w fun e w' => ∃ v', e = .returned v' ∧ Row w' v' (n * n) (fun i => l.getD i 0) ∧ Below w.heap.size w w' := by
  refine (square_c n (n * n) (by rcases (by omega : n = 0 ∨ n = 1 ∨ n = 2 ∨ n = 3) with rfl | rfl | rfl | rfl <;> decide) l v w h hr hl).mono ?_
  rintro e w' ⟨rfl, ho, hB⟩
  refine ⟨_, rfl, Row.of_own ho (fun e => e) (fun i hi => ?_), hB⟩
  unfold sq
  rw [List.map_map, List.getElem?_map, List.getElem?_range hi]; rfl
end Lm
end Go.Proofs
namespace Go.Proofs
open Go.RowKit
namespace Lm
theorem bstep {w w1 w2 : World} (h : Below w.heap.size w w1) (h2 : Below w1.heap.size w1 w2) : Below w.heap.size w w2 := h.trans (h2.mono h.size)
set_option maxRecDepth 100000 in
set_option maxHeartbeats 4000000 in
theorem mat_c {I : World → Prop} (hC : Ctx I) (n : Nat) (x : Int) (hx0 : 0 ≤ x) (hx1 : x ≤ 255) (hn : n ≤ 3) (hxn : x % 4 = n) (la lb : List Int) (ra : ∀ i, -128 ≤ la.getD i 0 ∧ la.getD i 0 ≤ 127) (rb : ∀ i, -128 ≤ lb.getD i 0 ∧ lb.getD i 0 ≤ 127) (hla : la.length ≤ 9223372036854775807) (hlb : lb.length ≤ 9223372036854775807)
    (va vb : Value) (w : World) (hI : I w) (ha : Has8 w va la) (hb : Has8 w vb lb) : Calls Tryz.prog 3 #[va, vb, .int .u8 x] w fun e w' => e = .returned (.bool true) ∧ Below w.heap.size w w' := by
  have aa : ∀ i, (la.getD i 0).natAbs ≤ 128 := fun i => by have := ra i; omega
  have ab : ∀ i, (lb.getD i 0).natAbs ≤ 128 := fun i => by have := rb i; omega
  have okAB : Ok (fun i => la.getD i 0) (fun i => lb.getD i 0) := ok_of aa ab (by decide) (by decide) (by decide)
  have okBB : Ok (fun i => lb.getD i 0) (fun i => lb.getD i 0) := ok_of ab ab (by decide) (by decide) (by decide)
  have okLB : Ok (mmF n (fun i => la.getD i 0) (fun i => lb.getD i 0)) (fun i => lb.getD i 0) := ok_of (mmF_abs hn aa ab) ab (by decide) (by decide) (by decide)
  have okAT : Ok (fun i => la.getD i 0) (mmF n (fun i => lb.getD i 0) (fun i => lb.getD i 0)) := ok_of aa (mmF_abs hn ab ab) (by decide) (by decide) (by decide)
  have sA : Hid (∀ w', Below w.heap.size w w' → Calls Tryz.prog 4 #[va, .int .i64 n] w' fun e w2 => ∃ v', e = .returned v' ∧ Row w2 v' (n * n) (fun i => la.getD i 0) ∧ Below w'.heap.size w' w2) := fun w' h => square_row n hn la va w' (ha.below h) ra hla
  have sB : Hid (∀ w', Below w.heap.size w w' → Calls Tryz.prog 4 #[vb, .int .i64 n] w' fun e w2 => ∃ v', e = .returned v' ∧ Row w2 v' (n * n) (fun i => lb.getD i 0) ∧ Below w'.heap.size w' w2) := fun w' h => square_row n hn lb vb w' (hb.below h) rb hlb
  have st : Hid (∀ w', Below w.heap.size w w' → I w') := fun w' h => hC.stay w w' hI h
  have hass : Hid (∀ q, q < n * n → mmF n (mmF n (fun i => la.getD i 0) (fun i => lb.getD i 0)) (fun i => lb.getD i 0) q = mmF n (fun i => la.getD i 0) (mmF n (fun i => lb.getD i 0) (fun i => lb.getD i 0)) q) := fun q hq => mm_assoc hn _ _ q hq
  have hm : n * n ≤ 100 := by have := Nat.mul_le_mul hn hn; omega
  generalize (fun i => la.getD i 0) = A at *
  generalize (fun i => lb.getD i 0) = B at *
  clear ha hb ra rb aa ab hla hlb hI
  have b0 := Below.refl w.heap.size w
  go_enter Tryz.func3, Tryz.ntmps3
  go_wp2_with fail
  refine (sA.out _ b0).mono ?_
  rintro e w1 ⟨v1, rfl, r1, d1⟩
  have b1 := bstep b0 d1
  go_wp2_with fail
  refine (sB.out _ b1).mono ?_
  rintro e w2 ⟨v2, rfl, r2, d2⟩
  have b2 := bstep b1 d2
  have r1 := r1.below d2
  go_wp2_with fail
  refine (sA.out _ b2).mono ?_
  rintro e w3 ⟨v3, rfl, r3, d3⟩
  have b3 := bstep b2 d3
  have r1 := r1.below d3
  have r2 := r2.below d3
  go_wp2_with fail
  refine (sB.out _ b3).mono ?_
  rintro e w4 ⟨v4, rfl, r4, d4⟩
  have b4 := bstep b3 d4
  have r1 := r1.below d4
  have r2 := r2.below d4
  have r3 := r3.below d4
  go_wp2_with fail
  refine (hC.prod n hn A B okAB v3 v4 _ (st.out _ b4) r3 r4).mono ?_
  rintro e w5 ⟨v5, rfl, r5, d5⟩
  have b5 := bstep b4 d5
  have r1 := r1.below d5
  have r2 := r2.below d5
  clear r3 r4
  go_wp2_with fail
  refine (hC.times n hn A B okAB v1 v2 _ (st.out _ b5) r1 r2).mono ?_
  rintro e w6 ⟨v6, rfl, r6, d6⟩
  have b6 := bstep b5 d6
  have r5 := r5.below d6
  go_wp2_with fail
  refine (ints_c _ _ v5 v6 _ r5 r6 hm).mono ?_
  rintro e w7 ⟨rfl, d7⟩
  have b7 := bstep b6 d7
  have r5 := r5.below d7
  clear r1 r2 r6
  go_wp2_with (at_builtin; refine wpList_copy_row rfl _ _ rfl rfl v5 _ _ rfl r5 hm ?_; intro v8 w8 r8 d8)
  have b8 := bstep b7 d8
  refine (sB.out _ b8).mono ?_
  rintro e w9 ⟨v9, rfl, r9, d9⟩
  have b9 := bstep b8 d9
  have r8 := r8.below d9
  clear r5
  go_wp2_with fail
  refine (hC.prod n hn _ B okLB v8 v9 _ (st.out _ b9) r8 r9).mono ?_
  rintro e w10 ⟨v10, rfl, r10, d10⟩
  have b10 := bstep b9 d10
  clear r8 r9
  go_wp2_with fail
  refine (sB.out _ b10).mono ?_
  rintro e w11 ⟨v11, rfl, r11, d11⟩
  have b11 := bstep b10 d11
  have r10 := r10.below d11
  go_wp2_with fail
  refine (sB.out _ b11).mono ?_
  rintro e w12 ⟨v12, rfl, r12, d12⟩
  have b12 := bstep b11 d12
  have r10 := r10.below d12
  have r11 := r11.below d12
  go_wp2_with fail
  refine (hC.prod n hn B B okBB v11 v12 _ (st.out _ b12) r11 r12).mono ?_
  rintro e w13 ⟨v13, rfl, r13, d13⟩
  have b13 := bstep b12 d13
  have r10 := r10.below d13
  clear r11 r12
  go_wp2_with fail
  refine (sA.out _ b13).mono ?_
  rintro e w14 ⟨v14, rfl, r14, d14⟩
  have b14 := bstep b13 d14
  have r10 := r10.below d14
  have r13 := r13.below d14
  go_wp2_with fail
  refine (hC.prod n hn A _ okAT v14 v13 _ (st.out _ b14) r14 r13).mono ?_
  rintro e w15 ⟨v15, rfl, r15, d15⟩
  have b15 := bstep b14 d15
  have r10 := (r10.below d15).congr hass.out
  clear r13 r14
  go_wp2_with fail
  refine (ints_c _ _ v10 v15 _ r10 r15 hm).mono ?_
  rintro e w16 ⟨rfl, d16⟩
  have b16 := bstep b15 d16
  clear r10 r15
  go_wp2_with fail
  refine (hC.awake _ (st.out _ b16)).mono ?_
  rintro e w17 ⟨rfl, d17⟩
  have b17 := bstep b16 d17
  go_wp2_with fail
  go_ret
  exact ⟨rfl, b17⟩
end Lm
end Go.Proofs
namespace Go.Proofs
open Go.RowKit Go.Ev
namespace Lm
theorem cellsOf_syms (l : List Nat) : cellsOf (l.map fun c => AV.sym c) = l.map fun c => AV.sym c := by
  unfold cellsOf
  rw [List.flatMap_map]
  induction l with
  | nil => rfl
  | cons x xs ih => simp only [List.flatMap_cons, List.map_cons, ih]; rfl
theorem row_vr {s : Sy} {w : World} {v : Value} {m : Nat} {f : Nat → Int} (l : List Nat) (hl : l.length = m) (hm : 0 < m) (h : Row w v m f) (hf : ∀ i, i < m → s.f (l.getD i 0) = f i) : VR (froS s w) (.lst none (l.map fun c => .sym c)) v := by
  obtain ⟨p, c, rfl, hc, _, h⟩ := h
  obtain ⟨b, off, cur, e, fz, rfl, hb, hv⟩ := h hm
  subst hl
  exact vr_syms l hb hc (fun e => by subst e; exact absurd hm (Nat.lt_irrefl _)) (fun i hi => by rw [hv i hi, hf i hi])
theorem row_vr0 {s : Sy} {w : World} {v : Value} {f : Nat → Int} (h : Row w v 0 f) : VR (froS s w) (.lst (some 0) []) v := by
  obtain ⟨p, c, rfl, hc, h0, _⟩ := h
  obtain rfl := h0 rfl
  exact .lstE (some 0) p 0 (fun c h => by cases h; rfl) (fun _ => rfl)
theorem frs_row {s : Sy} {w : World} {v : Value} {m : Nat} {f : Nat → Int} (l : List Nat) (hl : l.length = m) (hm : 0 < m) (h : FrsS s w (.lst none (l.map fun c => .sym c)) v) (hf : ∀ i, i < m → s.f (l.getD i 0) = f i) : Row w v m f := by
  cases l with
  | nil => subst hl; exact absurd hm (Nat.lt_irrefl _)
  | cons x xs =>
    have hl' : (xs.map fun c => AV.sym c).length + 1 = m := by rw [List.length_map]; exact hl
    obtain ⟨b, k, capc, rfl, hcap, ⟨o, hb, ho⟩, hv⟩ := FrsS.lst (x := .sym x) (xs := xs.map fun c => .sym c) h
    rw [hl'] at hcap ⊢
    have hcell : ∀ i, i < m → w.cell? ⟨b, k + i, none⟩ = some (.int .i64 (f i)) := by
      intro i hi
      have e : (cellsOf (AV.sym x :: xs.map fun c => .sym c))[i]? = some (.sym ((x :: xs).getD i 0)) := by
        have := cellsOf_syms (x :: xs)
        rw [List.map_cons] at this
        rw [this, ← List.map_cons (f := fun c => AV.sym c), List.getElem?_map, List.getD_eq_getElem?_getD, List.getElem?_eq_getElem (by rw [hl]; exact hi)]; rfl
      obtain ⟨cv, h1, h2⟩ := hv i _ e
      rw [h1, h2.sym, hf i hi]
    refine ⟨_, _, rfl, hcap, fun e => by omega, fun _ => ?_⟩
    rcases ho with ⟨cs, e, fz, rfl⟩ | ⟨ces, n, rfl⟩
    · refine ⟨b, k, cs, e, fz, rfl, hb, fun i hi => ?_⟩
      have := hcell i hi
      unfold World.cell? at this
      simp only [hb] at this
      simpa using this
    · have := hcell 0 hm
      unfold World.cell? at this
      simp [hb] at this
theorem frs_row0 {s : Sy} {w : World} {v : Value} {f : Nat → Int} (h : FrsS s w (.lst (some 0) []) v) : Row w v 0 f := by
  obtain ⟨j, _, h, _⟩ := h
  cases h with
  | lstE _ p c hex _ =>
    obtain rfl := hex 0 rfl
    exact ⟨p, 0, rfl, Nat.le_refl _, fun _ => rfl, fun h => absurd h (Nat.lt_irrefl _)⟩
  | lst _ _ b k capc sz cs e fz hfr hcap hex =>
    obtain rfl := hex 0 rfl
    exact ⟨_, 0, rfl, Nat.le_refl _, fun _ => rfl, fun h => absurd h (Nat.lt_irrefl _)⟩
/-- the sum of what a code's bits stand for -/
theorem symF_list (a b : Nat → Int) (c : Nat) (l : List Nat) (h : (List.range 99).filter (fun i => c.testBit i) = l) : symF a b c = (l.map (symA a b)).sum := by
  subst h
  unfold symF
  generalize List.range 99 = r
  induction r with
  | nil => rfl
  | cons x xs ih =>
    rw [List.map_cons, List.sum_cons, ih]
    cases hx : c.testBit x with
    | true => rw [List.filter_cons_of_pos hx]; simp
    | false => rw [List.filter_cons_of_neg (by rw [hx]; decide)]; simp
end Lm
end Go.Proofs
namespace Go.Proofs
open Go.RowKit Go.Ev
namespace Lm
theorem sf1 (a b : Nat → Int) : symF a b 1 = a 0 := (symF_list a b 1 [0] (by decide +kernel)).trans (by simp [symA])
theorem sf512 (a b : Nat → Int) : symF a b 512 = b 0 := (symF_list a b 512 [9] (by decide +kernel)).trans (by simp [symA])
theorem sf262144 (a b : Nat → Int) : symF a b 262144 = a 0 * b 0 := (symF_list a b 262144 [18] (by decide +kernel)).trans (by simp [symA])
theorem sf2 (a b : Nat → Int) : symF a b 2 = a 1 := (symF_list a b 2 [1] (by decide +kernel)).trans (by simp [symA])
theorem sf4 (a b : Nat → Int) : symF a b 4 = a 2 := (symF_list a b 4 [2] (by decide +kernel)).trans (by simp [symA])
theorem sf8 (a b : Nat → Int) : symF a b 8 = a 3 := (symF_list a b 8 [3] (by decide +kernel)).trans (by simp [symA])
theorem sf1024 (a b : Nat → Int) : symF a b 1024 = b 1 := (symF_list a b 1024 [10] (by decide +kernel)).trans (by simp [symA])
theorem sf2048 (a b : Nat → Int) : symF a b 2048 = b 2 := (symF_list a b 2048 [11] (by decide +kernel)).trans (by simp [symA])
theorem sf4096 (a b : Nat → Int) : symF a b 4096 = b 3 := (symF_list a b 4096 [12] (by decide +kernel)).trans (by simp [symA])
theorem sf537133056 (a b : Nat → Int) : symF a b 537133056 = a 0 * b 0 + a 1 * b 2 := (symF_list a b 537133056 [18, 29] (by decide +kernel)).trans (by simp [symA])
theorem sf1074266112 (a b : Nat → Int) : symF a b 1074266112 = a 0 * b 1 + a 1 * b 3 := (symF_list a b 1074266112 [19, 30] (by decide +kernel)).trans (by simp [symA])
theorem sf140806207832064 (a b : Nat → Int) : symF a b 140806207832064 = a 2 * b 0 + a 3 * b 2 := (symF_list a b 140806207832064 [36, 47] (by decide +kernel)).trans (by simp [symA])
theorem sf281612415664128 (a b : Nat → Int) : symF a b 281612415664128 = a 2 * b 1 + a 3 * b 3 := (symF_list a b 281612415664128 [37, 48] (by decide +kernel)).trans (by simp [symA])
theorem sf16 (a b : Nat → Int) : symF a b 16 = a 4 := (symF_list a b 16 [4] (by decide +kernel)).trans (by simp [symA])
theorem sf32 (a b : Nat → Int) : symF a b 32 = a 5 := (symF_list a b 32 [5] (by decide +kernel)).trans (by simp [symA])
theorem sf64 (a b : Nat → Int) : symF a b 64 = a 6 := (symF_list a b 64 [6] (by decide +kernel)).trans (by simp [symA])
theorem sf128 (a b : Nat → Int) : symF a b 128 = a 7 := (symF_list a b 128 [7] (by decide +kernel)).trans (by simp [symA])
theorem sf256 (a b : Nat → Int) : symF a b 256 = a 8 := (symF_list a b 256 [8] (by decide +kernel)).trans (by simp [symA])
theorem sf8192 (a b : Nat → Int) : symF a b 8192 = b 4 := (symF_list a b 8192 [13] (by decide +kernel)).trans (by simp [symA])
theorem sf16384 (a b : Nat → Int) : symF a b 16384 = b 5 := (symF_list a b 16384 [14] (by decide +kernel)).trans (by simp [symA])
theorem sf32768 (a b : Nat → Int) : symF a b 32768 = b 6 := (symF_list a b 32768 [15] (by decide +kernel)).trans (by simp [symA])
theorem sf65536 (a b : Nat → Int) : symF a b 65536 = b 7 := (symF_list a b 65536 [16] (by decide +kernel)).trans (by simp [symA])
theorem sf131072 (a b : Nat → Int) : symF a b 131072 = b 8 := (symF_list a b 131072 [17] (by decide +kernel)).trans (by simp [symA])
theorem sf4399120515072 (a b : Nat → Int) : symF a b 4399120515072 = a 0 * b 0 + (a 1 * b 3 + a 2 * b 6) := (symF_list a b 4399120515072 [18, 30, 42] (by decide +kernel)).trans (by simp [symA])
theorem sf8798241030144 (a b : Nat → Int) : symF a b 8798241030144 = a 0 * b 1 + (a 1 * b 4 + a 2 * b 7) := (symF_list a b 8798241030144 [19, 31, 43] (by decide +kernel)).trans (by simp [symA])
theorem sf17596482060288 (a b : Nat → Int) : symF a b 17596482060288 = a 0 * b 2 + (a 1 * b 5 + a 2 * b 8) := (symF_list a b 17596482060288 [20, 32, 44] (by decide +kernel)).trans (by simp [symA])
theorem sf590439960731153596416 (a b : Nat → Int) : symF a b 590439960731153596416 = a 3 * b 0 + (a 4 * b 3 + a 5 * b 6) := (symF_list a b 590439960731153596416 [45, 57, 69] (by decide +kernel)).trans (by simp [symA])
theorem sf1180879921462307192832 (a b : Nat → Int) : symF a b 1180879921462307192832 = a 3 * b 1 + (a 4 * b 4 + a 5 * b 7) := (symF_list a b 1180879921462307192832 [46, 58, 70] (by decide +kernel)).trans (by simp [symA])
theorem sf2361759842924614385664 (a b : Nat → Int) : symF a b 2361759842924614385664 = a 3 * b 2 + (a 4 * b 5 + a 5 * b 8) := (symF_list a b 2361759842924614385664 [47, 59, 71] (by decide +kernel)).trans (by simp [symA])
theorem sf79247510049744654529984462848 (a b : Nat → Int) : symF a b 79247510049744654529984462848 = a 6 * b 0 + (a 7 * b 3 + a 8 * b 6) := (symF_list a b 79247510049744654529984462848 [72, 84, 96] (by decide +kernel)).trans (by simp [symA])
theorem sf158495020099489309059968925696 (a b : Nat → Int) : symF a b 158495020099489309059968925696 = a 6 * b 1 + (a 7 * b 4 + a 8 * b 7) := (symF_list a b 158495020099489309059968925696 [73, 85, 97] (by decide +kernel)).trans (by simp [symA])
theorem sf316990040198978618119937851392 (a b : Nat → Int) : symF a b 316990040198978618119937851392 = a 6 * b 2 + (a 7 * b 5 + a 8 * b 8) := (symF_list a b 316990040198978618119937851392 [74, 86, 98] (by decide +kernel)).trans (by simp [symA])
variable {P : Env}
/-- a call with two rows of symbols and a number -/
theorem sym_args {n m : Nat} (_hn : n = 0 ∨ 0 < m) {f : FuncId} {V : AV} (ca cb : List Nat) (hca : ca.length = m) (hcb : cb.length = m) (hm : 0 < m)
    (hK : KnownV P f [.lst none (ca.map fun c => .sym c), .lst none (cb.map fun c => .sym c), .int .i64 (.ofNat n)] V) {a b : Nat → Int} (s : Sy) (ha : s.a = a) (hb : s.b = b) (hA : ∀ i, i < m → symF a b (ca.getD i 0) = a i) (hB : ∀ i, i < m → symF a b (cb.getD i 0) = b i)
    {va vb : Value} {w : World} (hi : P.inv w) (hs : P.n0 ≤ w.heap.size) (ra : Row w va m a) (rb : Row w vb m b) :
    Calls P.toProgram f #[va, vb, .int .i64 n] w fun e w' => ∃ cv, e = .returned cv ∧ FrsS s w' V cv ∧ Below w.heap.size w w' ∧ P.inv w' := by
  subst ha hb
  exact (calls_of_sym s hK (vs := #[va, vb, .int .i64 n]) (.cons _ _ _ _ (row_vr ca hca hm ra hA) (.cons _ _ _ _ (row_vr cb hcb hm rb hB) (.cons _ _ _ _ (VR.int _ _) .nil))) hi hs).2
theorem sym_args0 {f : FuncId} {V : AV} (hK : KnownV P f [.lst (some 0) [], .lst (some 0) [], .int .i64 (.ofNat 0)] V) {a b : Nat → Int} (s : Sy)
    {va vb : Value} {w : World} (hi : P.inv w) (hs : P.n0 ≤ w.heap.size) (ra : Row w va 0 a) (rb : Row w vb 0 b) :
    Calls P.toProgram f #[va, vb, .int .i64 ((0 : Nat) : Int)] w fun e w' => ∃ cv, e = .returned cv ∧ FrsS s w' V cv ∧ Below w.heap.size w w' ∧ P.inv w' :=
  (calls_of_sym s hK (vs := #[va, vb, .int .i64 ((0 : Nat) : Int)]) (.cons _ _ _ _ (row_vr0 ra) (.cons _ _ _ _ (row_vr0 rb) (.cons _ _ _ _ (VR.int _ _) .nil))) hi hs).2
theorem tup2 {s : Sy} {w : World} {v : AV} {c : Value} (h : FrsS s w (.tup [v, .int .i64 (.ofNat 0)]) c) : ∃ cv, c = .tuple #[cv, .int .i64 0] ∧ FrsS s w v cv := by
  obtain ⟨cs, rfl, hsz, hv⟩ := h.tup
  obtain ⟨x, hx, h1⟩ := hv 0 _ rfl
  obtain ⟨y, hy, h2⟩ := hv 1 _ rfl
  have := h2.int
  subst this
  refine ⟨x, ?_, h1⟩
  congr 1
  apply Array.ext'
  apply List.ext_getElem?
  intro i
  have hl : cs.toList.length = 2 := by simpa using hsz
  rcases i with _ | _ | i
  · simpa using hx
  · simpa using hy
  · rw [List.getElem?_eq_none (by omega), List.getElem?_eq_none (by simp)]
def sy (a b : Nat → Int) (h : Ok a b) : Sy := ⟨a, b, ⟨h.ha, h.hb, h.hab⟩⟩
/-- the calls that are known -/
structure Kn (P : Env) : Prop where
  hP : P.toProgram = Tryz.prog
  p0 : KnownV P 5 [(.lst (some 0) []), (.lst (some 0) []), .int .i64 (.ofNat 0)] (.tup [(.lst (some 0) []), .int .i64 (.ofNat 0)])
  t0 : KnownV P 7 [(.lst (some 0) []), (.lst (some 0) []), .int .i64 (.ofNat 0)] (.lst (some 0) [])
  p1 : KnownV P 5 [(.lst none [.sym 1]), (.lst none [.sym 512]), .int .i64 (.ofNat 1)] (.tup [(.lst none [.sym 262144]), .int .i64 (.ofNat 0)])
  t1 : KnownV P 7 [(.lst none [.sym 1]), (.lst none [.sym 512]), .int .i64 (.ofNat 1)] (.lst none [.sym 262144])
  p2 : KnownV P 5 [(.lst none [.sym 1, .sym 2, .sym 4, .sym 8]), (.lst none [.sym 512, .sym 1024, .sym 2048, .sym 4096]), .int .i64 (.ofNat 2)] (.tup [(.lst none [.sym 537133056, .sym 1074266112, .sym 140806207832064, .sym 281612415664128]), .int .i64 (.ofNat 0)])
  t2 : KnownV P 7 [(.lst none [.sym 1, .sym 2, .sym 4, .sym 8]), (.lst none [.sym 512, .sym 1024, .sym 2048, .sym 4096]), .int .i64 (.ofNat 2)] (.lst none [.sym 537133056, .sym 1074266112, .sym 140806207832064, .sym 281612415664128])
  p3 : KnownV P 5 [(.lst none [.sym 1, .sym 2, .sym 4, .sym 8, .sym 16, .sym 32, .sym 64, .sym 128, .sym 256]), (.lst none [.sym 512, .sym 1024, .sym 2048, .sym 4096, .sym 8192, .sym 16384, .sym 32768, .sym 65536, .sym 131072]), .int .i64 (.ofNat 3)] (.tup [(.lst none [.sym 4399120515072, .sym 8798241030144, .sym 17596482060288, .sym 590439960731153596416, .sym 1180879921462307192832, .sym 2361759842924614385664, .sym 79247510049744654529984462848, .sym 158495020099489309059968925696, .sym 316990040198978618119937851392]), .int .i64 (.ofNat 0)])
  t3 : KnownV P 7 [(.lst none [.sym 1, .sym 2, .sym 4, .sym 8, .sym 16, .sym 32, .sym 64, .sym 128, .sym 256]), (.lst none [.sym 512, .sym 1024, .sym 2048, .sym 4096, .sym 8192, .sym 16384, .sym 32768, .sym 65536, .sym 131072]), .int .i64 (.ofNat 3)] (.lst none [.sym 4399120515072, .sym 8798241030144, .sym 17596482060288, .sym 590439960731153596416, .sym 1180879921462307192832, .sym 2361759842924614385664, .sym 79247510049744654529984462848, .sym 158495020099489309059968925696, .sym 316990040198978618119937851392])
  aw : KnownV P 8 [] (.bool true)
theorem hA1 (a b : Nat → Int) : ∀ i, i < 1 → symF a b ([1].getD i 0) = a i := by
  intro i hi
  obtain rfl : i = 0 := by omega
  · exact (sf1 a b)
theorem hB1 (a b : Nat → Int) : ∀ i, i < 1 → symF a b ([512].getD i 0) = b i := by
  intro i hi
  obtain rfl : i = 0 := by omega
  · exact (sf512 a b)
theorem hR1 (a b : Nat → Int) : ∀ i, i < 1 → symF a b ([262144].getD i 0) = mmF 1 a b i := by
  intro i hi
  obtain rfl : i = 0 := by omega
  · exact (sf262144 a b).trans (by simp [mmF, List.range_succ])
theorem hA2 (a b : Nat → Int) : ∀ i, i < 4 → symF a b ([1, 2, 4, 8].getD i 0) = a i := by
  intro i hi
  rcases (by omega : i = 0 ∨ i = 1 ∨ i = 2 ∨ i = 3) with rfl | rfl | rfl | rfl
  · exact (sf1 a b)
  · exact (sf2 a b)
  · exact (sf4 a b)
  · exact (sf8 a b)
theorem hB2 (a b : Nat → Int) : ∀ i, i < 4 → symF a b ([512, 1024, 2048, 4096].getD i 0) = b i := by
  intro i hi
  rcases (by omega : i = 0 ∨ i = 1 ∨ i = 2 ∨ i = 3) with rfl | rfl | rfl | rfl
  · exact (sf512 a b)
  · exact (sf1024 a b)
  · exact (sf2048 a b)
  · exact (sf4096 a b)
theorem hR2 (a b : Nat → Int) : ∀ i, i < 4 → symF a b ([537133056, 1074266112, 140806207832064, 281612415664128].getD i 0) = mmF 2 a b i := by
  intro i hi
  rcases (by omega : i = 0 ∨ i = 1 ∨ i = 2 ∨ i = 3) with rfl | rfl | rfl | rfl
  · exact (sf537133056 a b).trans (by simp [mmF, List.range_succ])
  · exact (sf1074266112 a b).trans (by simp [mmF, List.range_succ])
  · exact (sf140806207832064 a b).trans (by simp [mmF, List.range_succ])
  · exact (sf281612415664128 a b).trans (by simp [mmF, List.range_succ])
theorem hA3 (a b : Nat → Int) : ∀ i, i < 9 → symF a b ([1, 2, 4, 8, 16, 32, 64, 128, 256].getD i 0) = a i := by
  intro i hi
  rcases (by omega : i = 0 ∨ i = 1 ∨ i = 2 ∨ i = 3 ∨ i = 4 ∨ i = 5 ∨ i = 6 ∨ i = 7 ∨ i = 8) with rfl | rfl | rfl | rfl | rfl | rfl | rfl | rfl | rfl
  · exact (sf1 a b)
  · exact (sf2 a b)
  · exact (sf4 a b)
  · exact (sf8 a b)
  · exact (sf16 a b)
  · exact (sf32 a b)
  · exact (sf64 a b)
  · exact (sf128 a b)
  · exact (sf256 a b)
theorem hB3 (a b : Nat → Int) : ∀ i, i < 9 → symF a b ([512, 1024, 2048, 4096, 8192, 16384, 32768, 65536, 131072].getD i 0) = b i := by
  intro i hi
  rcases (by omega : i = 0 ∨ i = 1 ∨ i = 2 ∨ i = 3 ∨ i = 4 ∨ i = 5 ∨ i = 6 ∨ i = 7 ∨ i = 8) with rfl | rfl | rfl | rfl | rfl | rfl | rfl | rfl | rfl
  · exact (sf512 a b)
  · exact (sf1024 a b)
  · exact (sf2048 a b)
  · exact (sf4096 a b)
  · exact (sf8192 a b)
  · exact (sf16384 a b)
  · exact (sf32768 a b)
  · exact (sf65536 a b)
  · exact (sf131072 a b)
theorem hR3 (a b : Nat → Int) : ∀ i, i < 9 → symF a b ([4399120515072, 8798241030144, 17596482060288, 590439960731153596416, 1180879921462307192832, 2361759842924614385664, 79247510049744654529984462848, 158495020099489309059968925696, 316990040198978618119937851392].getD i 0) = mmF 3 a b i := by
  intro i hi
  rcases (by omega : i = 0 ∨ i = 1 ∨ i = 2 ∨ i = 3 ∨ i = 4 ∨ i = 5 ∨ i = 6 ∨ i = 7 ∨ i = 8) with rfl | rfl | rfl | rfl | rfl | rfl | rfl | rfl | rfl
  · exact (sf4399120515072 a b).trans (by simp [mmF, List.range_succ])
  · exact (sf8798241030144 a b).trans (by simp [mmF, List.range_succ])
  · exact (sf17596482060288 a b).trans (by simp [mmF, List.range_succ])
  · exact (sf590439960731153596416 a b).trans (by simp [mmF, List.range_succ])
  · exact (sf1180879921462307192832 a b).trans (by simp [mmF, List.range_succ])
  · exact (sf2361759842924614385664 a b).trans (by simp [mmF, List.range_succ])
  · exact (sf79247510049744654529984462848 a b).trans (by simp [mmF, List.range_succ])
  · exact (sf158495020099489309059968925696 a b).trans (by simp [mmF, List.range_succ])
  · exact (sf316990040198978618119937851392 a b).trans (by simp [mmF, List.range_succ])
theorem ctx_of (k : Kn P) : Ctx fun w => P.inv w ∧ P.n0 ≤ w.heap.size := by
  have hP := k.hP
  refine ⟨fun w w' h hB => ⟨P.stable w w' (fun b hb => hB.block b (Nat.lt_of_lt_of_le hb h.2)) h.1, Nat.le_trans h.2 hB.size⟩, ?_, ?_, ?_⟩
  · intro n hn a b hok va vb w hI ra rb
    rw [← hP]
    rcases (by omega : n = 0 ∨ n = 1 ∨ n = 2 ∨ n = 3) with rfl | rfl | rfl | rfl
    · refine (sym_args0 k.p0 (sy a b hok) hI.1 hI.2 ra rb).mono ?_
      rintro e w' ⟨cv, rfl, h, hB, _⟩
      obtain ⟨v, rfl, h2⟩ := tup2 h
      exact ⟨v, rfl, (frs_row0 (f := mmF 0 a b) h2), hB⟩
    · refine (sym_args (.inr (by decide)) (n := 1) [1] [512] rfl rfl (by decide) k.p1 (sy a b hok) rfl rfl (hA1 a b) (hB1 a b) hI.1 hI.2 ra rb).mono ?_
      rintro e w' ⟨cv, rfl, h, hB, _⟩
      obtain ⟨v, rfl, h2⟩ := tup2 h
      exact ⟨v, rfl, frs_row (s := sy a b hok) (m := 1) [262144] rfl (by decide) h2 (hR1 a b), hB⟩
    · refine (sym_args (.inr (by decide)) (n := 2) [1, 2, 4, 8] [512, 1024, 2048, 4096] rfl rfl (by decide) k.p2 (sy a b hok) rfl rfl (hA2 a b) (hB2 a b) hI.1 hI.2 ra rb).mono ?_
      rintro e w' ⟨cv, rfl, h, hB, _⟩
      obtain ⟨v, rfl, h2⟩ := tup2 h
      exact ⟨v, rfl, frs_row (s := sy a b hok) (m := 4) [537133056, 1074266112, 140806207832064, 281612415664128] rfl (by decide) h2 (hR2 a b), hB⟩
    · refine (sym_args (.inr (by decide)) (n := 3) [1, 2, 4, 8, 16, 32, 64, 128, 256] [512, 1024, 2048, 4096, 8192, 16384, 32768, 65536, 131072] rfl rfl (by decide) k.p3 (sy a b hok) rfl rfl (hA3 a b) (hB3 a b) hI.1 hI.2 ra rb).mono ?_
      rintro e w' ⟨cv, rfl, h, hB, _⟩
      obtain ⟨v, rfl, h2⟩ := tup2 h
      exact ⟨v, rfl, frs_row (s := sy a b hok) (m := 9) [4399120515072, 8798241030144, 17596482060288, 590439960731153596416, 1180879921462307192832, 2361759842924614385664, 79247510049744654529984462848, 158495020099489309059968925696, 316990040198978618119937851392] rfl (by decide) h2 (hR3 a b), hB⟩
  · intro n hn a b hok va vb w hI ra rb
    rw [← hP]
    rcases (by omega : n = 0 ∨ n = 1 ∨ n = 2 ∨ n = 3) with rfl | rfl | rfl | rfl
    · refine (sym_args0 k.t0 (sy a b hok) hI.1 hI.2 ra rb).mono ?_
      rintro e w' ⟨cv, rfl, h, hB, _⟩
      exact ⟨cv, rfl, (frs_row0 (f := mmF 0 a b) h), hB⟩
    · refine (sym_args (.inr (by decide)) (n := 1) [1] [512] rfl rfl (by decide) k.t1 (sy a b hok) rfl rfl (hA1 a b) (hB1 a b) hI.1 hI.2 ra rb).mono ?_
      rintro e w' ⟨cv, rfl, h, hB, _⟩
      exact ⟨cv, rfl, frs_row (s := sy a b hok) (m := 1) [262144] rfl (by decide) h (hR1 a b), hB⟩
    · refine (sym_args (.inr (by decide)) (n := 2) [1, 2, 4, 8] [512, 1024, 2048, 4096] rfl rfl (by decide) k.t2 (sy a b hok) rfl rfl (hA2 a b) (hB2 a b) hI.1 hI.2 ra rb).mono ?_
      rintro e w' ⟨cv, rfl, h, hB, _⟩
      exact ⟨cv, rfl, frs_row (s := sy a b hok) (m := 4) [537133056, 1074266112, 140806207832064, 281612415664128] rfl (by decide) h (hR2 a b), hB⟩
    · refine (sym_args (.inr (by decide)) (n := 3) [1, 2, 4, 8, 16, 32, 64, 128, 256] [512, 1024, 2048, 4096, 8192, 16384, 32768, 65536, 131072] rfl rfl (by decide) k.t3 (sy a b hok) rfl rfl (hA3 a b) (hB3 a b) hI.1 hI.2 ra rb).mono ?_
      rintro e w' ⟨cv, rfl, h, hB, _⟩
      exact ⟨cv, rfl, frs_row (s := sy a b hok) (m := 9) [4399120515072, 8798241030144, 17596482060288, 590439960731153596416, 1180879921462307192832, 2361759842924614385664, 79247510049744654529984462848, 158495020099489309059968925696, 316990040198978618119937851392] rfl (by decide) h (hR3 a b), hB⟩
  · intro w hI
    rw [← hP]
    refine (calls_of_known k.aw (vs := #[]) .nil hI.1 hI.2).2.mono ?_
    rintro e w' ⟨cv, rfl, h, hB, _⟩
    rw [h.bool]
    exact ⟨rfl, hB⟩
/-- LibMatrices answers true -/
theorem mat_all (k : Kn P) (x : Int) (hx0 : 0 ≤ x) (hx1 : x ≤ 255) (la lb : List Int) (ra : ∀ i, -128 ≤ la.getD i 0 ∧ la.getD i 0 ≤ 127) (rb : ∀ i, -128 ≤ lb.getD i 0 ∧ lb.getD i 0 ≤ 127) (hla : la.length ≤ 9223372036854775807) (hlb : lb.length ≤ 9223372036854775807)
    (va vb : Value) (w : World) (hi : P.inv w) (hs : P.n0 ≤ w.heap.size) (ha : Has8 w va la) (hb : Has8 w vb lb) : Calls Tryz.prog 3 #[va, vb, .int .u8 x] w fun e w' => e = .returned (.bool true) ∧ Below w.heap.size w w' := by
  obtain ⟨n, hn⟩ : ∃ n : Nat, x % 4 = n := ⟨(x % 4).toNat, by omega⟩
  exact mat_c (ctx_of k) n x hx0 hx1 (by omega) hn la lb ra rb hla hlb va vb w ⟨hi, hs⟩ ha hb
end Lm
end Go.Proofs
namespace Go.Proofs
open Go.RowKit Go.ChangeShapes
namespace Lm
theorem cells32 : Tryz.prog.cellsOf 32 = 1 := by kernel_rfl
section
variable {H : Type} {enc : TypeId × Value → H} {w : World} {base : Nat} {spare : Nat → Bool} {held : Bool}
theorem spot_none {a : Addr} {v : Value} (h : w.cell? a = some v) : a = ⟨a.block, a.off, none⟩ := by
  obtain ⟨b, o, s⟩ := a
  unfold World.cell? at h
  split at h
  · cases s with
    | none => rfl
    | some x => simp at h
  · cases h
theorem add_none (b o i : Nat) : (⟨b, o, none⟩ : Addr).add i = ⟨b, o + i, none⟩ := by
  unfold Addr.add
  split
  · rename_i h; rw [h]; rfl
  · rfl
theorem wf8 {n : Int} (h : (Lit.int .i8 n).wf = true) : -128 ≤ n ∧ n ≤ 127 := by
  simp [Lit.wf] at h
  have h1 : IntKind.i8.min = -128 := by decide
  have h2 : IntKind.i8.max = 127 := by decide
  omega
theorem has8_of {fuel : Nat} {c : Value} {x : DataW H × List MemPlace} (h : DataW.trod enc Tryz.prog w base spare held fuel 22 [c] = some x) : ∃ l : List Int, Has8 w c l ∧ (∀ i, -128 ≤ l.getD i 0 ∧ l.getD i 0 ≤ 127) ∧ l.length ≤ maxLen := by
  rcases open_ints Tryz.underlying22 Tryz.underlying32 cells32 h with ⟨hc, _⟩ | ⟨a, len, cap, zs, hc, _, hl, hm, hz, _, hcell, hwf⟩
  · cases hc
    exact ⟨[], ⟨none, 0, rfl, fun h => absurd rfl h⟩, fun i => by simp, Nat.zero_le _⟩
  · cases hc
    have hlz : len ≤ zs.length := by rw [hz]; split <;> omega
    have hl2 : (zs.take len).length = len := by rw [List.length_take]; omega
    refine ⟨zs.take len, ⟨some a, cap, by rw [hl2], fun h0 => ?_⟩, fun i => ?_, by rw [hl2]; omega⟩
    · have hpos : 0 < len := by
        rcases Nat.eq_zero_or_pos len with h | h
        · subst h; exact absurd rfl h0
        · exact h
      have hz0 := hcell 0 (by omega)
      rw [show a.add 0 = a from rfl] at hz0
      have ha := spot_none hz0
      refine ⟨a.block, a.off, by rw [← ha], fun i hi => ?_⟩
      rw [hl2] at hi
      have := hcell i (by omega)
      rw [ha, add_none] at this
      rw [this, List.getD_eq_getElem?_getD, List.getD_eq_getElem?_getD, List.getElem?_take, if_pos hi]
    · rw [List.getD_eq_getElem?_getD]
      cases hg : (zs.take len)[i]? with
      | none => simp
      | some y => exact wf8 (hwf y (List.mem_of_mem_take (List.mem_of_getElem? hg)))
set_option maxRecDepth 100000 in
theorem has8_trod {r : Reach} {b0 : Nat} {v0 : Value} {d : DataW H} {ps : List MemPlace} (hval : Value.okWide Tryz.prog w r b0 22 v0) (h : DataW.Trod enc Tryz.prog w base spare held 22 v0 d ps) : ∃ l : List Int, Has8 w v0 l ∧ (∀ i, -128 ≤ l.getD i 0 ∧ l.getD i 0 ≤ 127) ∧ l.length ≤ maxLen := by
  obtain ⟨p, n, c, rfl⟩ := Go.WideShapes.okWide_slice Tryz.underlying22 hval
  obtain ⟨fuel, h⟩ := h
  exact has8_of (c := .slice p n c) h
theorem wfU8 {n : Int} (h : (Lit.int .u8 n).wf = true) : 0 ≤ n ∧ n ≤ 255 := by
  simp [Lit.wf] at h
  have h1 : IntKind.u8.min = 0 := by decide
  have h2 : IntKind.u8.max = 255 := by decide
  omega
end
end Lm
end Go.Proofs
