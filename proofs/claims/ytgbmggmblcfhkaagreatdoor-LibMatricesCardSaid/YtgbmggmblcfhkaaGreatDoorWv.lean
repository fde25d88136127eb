/- PROVED HERE: a part (Wv) of the tied card of LibMatrices (floodgatelaw25): the call returns true and its arguments read as before. CONDITIONS: those of the given row and card alone. HOW: an evaluator of Go calls with unknown integers is proved sound (Eva to Evg), functions of the closure are walked and answered by readers of the heap (Wk, Wv, Oa, Ob), the runs are reckoned by the kernel (Lt), the statement itself is walked (Wm), the row and the card stand in Cf and Cp. -/
import Derived.Test.YtgbmggmblcfhkaaGreatDoorWk
namespace Go.Proofs
open Go.RowKit
namespace Cl
theorem within_t {n a b : Int} (h1 : a ≤ n) (h2 : n ≤ b) (w : World) : Calls Tryz.prog 46 #[.int .i64 n, .int .i64 a, .int .i64 b] w fun e w' => e = .returned (.bool true) ∧ w' = w := by
  go_enter Tryz.func46, Tryz.ntmps46
  go_wp2
  go_ret
  exact ⟨rfl, rfl⟩
/-- a value of the language, with so many structures -/
def OkV (k n st : Int) : Prop := (k = 0 ∧ n = 0) ∨ (k = 3 ∧ n = 0) ∨ (k = 1 ∧ -1000000000 ≤ n ∧ n ≤ 1000000000) ∨ (k = 2 ∧ 0 ≤ n ∧ n ≤ 1) ∨ (k = 4 ∧ 0 ≤ n ∧ n ≤ st - 1) ∨ (k = 5 ∧ 1 ≤ n ∧ n ≤ 5)
theorem isValue_t {k n st : Int} (h : OkV k n st) (h1 : 0 ≤ st) (h2 : st ≤ 1000000) (w : World) : Calls Tryz.prog 103 #[.agg #[.int .u8 k, .int .i64 n], .int .i64 st] w fun e w' => e = .returned (.bool true) ∧ Below w.heap.size w w' := by
  have hB : ∀ k n, Below w.heap.size w (w.alloc (.cells #[.int .u8 k, .int .i64 n] 57)) := fun k n => (Below.refl _ _).alloc (Nat.le_refl _) _
  have hw := fun n a b (h1 : a ≤ n) (h2 : n ≤ b) w => within_t (n := n) (a := a) (b := b) h1 h2 w
  rcases h with ⟨rfl, rfl⟩ | ⟨rfl, rfl⟩ | ⟨rfl, g1, g2⟩ | ⟨rfl, g1, g2⟩ | ⟨rfl, g1, g2⟩ | ⟨rfl, g1, g2⟩
  · go_enter Tryz.func103, Tryz.ntmps103
    go_wp2
    go_ret
    exact ⟨rfl, hB _ _⟩
  · go_enter Tryz.func103, Tryz.ntmps103
    go_wp2
    go_ret
    exact ⟨rfl, hB _ _⟩
  · have hc := hw _ _ _ g1 g2
    go_enter Tryz.func103, Tryz.ntmps103
    go_wp2_with (go_at_call 46; refine (hc _).mono ?_; rintro e w2 ⟨rfl, rfl⟩)
    go_ret
    exact ⟨rfl, hB _ _⟩
  · have hc := hw _ _ _ g1 g2
    go_enter Tryz.func103, Tryz.ntmps103
    go_wp2_with (go_at_call 46; refine (hc _).mono ?_; rintro e w2 ⟨rfl, rfl⟩)
    go_ret
    exact ⟨rfl, hB _ _⟩
  · have hc := hw _ _ _ g1 g2
    go_enter Tryz.func103, Tryz.ntmps103
    go_wp2_with (go_at_call 46; refine (hc _).mono ?_; rintro e w2 ⟨rfl, rfl⟩)
    go_ret
    exact ⟨rfl, hB _ _⟩
  · have hc := hw _ _ _ g1 g2
    go_enter Tryz.func103, Tryz.ntmps103
    go_wp2_with (go_at_call 46; refine (hc _).mono ?_; rintro e w2 ⟨rfl, rfl⟩)
    go_ret
    exact ⟨rfl, hB _ _⟩
end Cl
end Go.Proofs
namespace Go.Proofs
open Go.RowKit
namespace Cl
theorem sv1_c {k n st : Int} (h : OkV k n st) (h1 : 0 ≤ st) (h2 : st ≤ 1000000) {xb xo : Nat} {w : World} (hx : w.cell? ⟨xb, xo, none⟩ = some (.int .i64 st)) :
    Calls Tryz.prog 232 #[.agg #[.int .u8 k, .int .i64 n], .pointer (some ⟨xb, xo, none⟩)] w fun e w' => e = .returned (.bool false) ∧ Below w.heap.size w w' := by
  have hv := fun w => isValue_t h h1 h2 w
  have hB : Below w.heap.size w (w.alloc (.cells #[.int .u8 k, .int .i64 n] 57)) := (Below.refl _ _).alloc (Nat.le_refl _) _
  have hx1 := cell_alloc hx (.cells #[.int .u8 k, .int .i64 n] 57)
  clear h hx
  go_enter Tryz.func232, Tryz.ntmps232
  go_wp2_with (go_at_call 103; refine (hv _).mono ?_; rintro e w2 ⟨rfl, hB2⟩)
  go_ret
  exact ⟨rfl, hB.trans (hB2.mono hB.size)⟩
/-- values, as they lie in a slice -/
def HasV (w : World) (v : Value) (l : List (Int × Int)) : Prop :=
  ∃ p c, v = .slice p l.length c ∧ (l ≠ [] → ∃ b o, p = some ⟨b, o, none⟩ ∧ ∀ i, i < l.length → VAt w b (o + i * 2) (l.getD i (0, 0)).1 (l.getD i (0, 0)).2)
theorem HasV.below {w w' : World} {v : Value} {l : List (Int × Int)} (h : HasV w v l) (hB : Below w.heap.size w w') : HasV w' v l := by
  obtain ⟨p, c, rfl, h⟩ := h
  exact ⟨p, c, rfl, fun h0 => let ⟨b, o, hp, hq⟩ := h h0; ⟨b, o, hp, fun i hi => (hq i hi).below hB⟩⟩
theorem indexV_c (l : List (Int × Int)) {st : Int} (h1 : 0 ≤ st) (h2 : st ≤ 1000000) {xb xo : Nat} (v : Value) (w : World) (h : HasV w v l) (hl : l.length ≤ 9223372036854775807) (hi : ∀ i, i < l.length → OkV (l.getD i (0, 0)).1 (l.getD i (0, 0)).2 st) (hx : w.cell? ⟨xb, xo, none⟩ = some (.int .i64 st)) :
    Calls Tryz.prog 159 #[v, .func (.func 232) #[] #[.pointer (some ⟨xb, xo, none⟩)]] w fun e w' => e = .returned (.int .i64 (-1)) ∧ Below w.heap.size w w' := by
  obtain ⟨p, c, rfl, h⟩ := h
  obtain ⟨n, hn⟩ : ∃ n, n = l.length := ⟨_, rfl⟩
  rw [← hn] at hl hi ⊢
  have hn' : Hid (n = l.length) := hn
  have h' : Hid _ := h
  have hi' : Hid _ := hi
  have hx' : Hid (w.cell? ⟨xb, xo, none⟩ = some (.int .i64 st)) := hx
  clear h hi hx hn
  go_enter Tryz.func159, Tryz.ntmps159
  go_wp2
  go_loopw [8] (fun i wr => ∃ k : Nat, k ≤ n ∧ i = .int .i64 k ∧ Below w.heap.size w wr) (fun i _ => n - (intOf i).toNat)
  case atStart => exact ⟨0, Nat.zero_le _, rfl, Below.refl _ _⟩
  case round =>
    obtain ⟨k, hk, rfl, hB⟩ := hrel
    by_cases hkn : k < n
    · obtain ⟨b, o, rfl, hq⟩ := h'.out (fun e => by have := hn'.out; rw [e] at this; simp at this; omega)
      obtain ⟨g0, g1⟩ := (hq k (by rw [← hn'.out]; exact hkn)).below hB
      have hc := sv1_c (hi'.out k hkn) h1 h2 (cell_below hx'.out hB (cell_lt hx'.out))
      clear hq
      generalize (l.getD k (0, 0)).1 = kk at *
      generalize (l.getD k (0, 0)).2 = nk at *
      go_wp2_with (go_at_call 232; refine hc.mono ?_; rintro e w' ⟨rfl, hB2⟩)
      have hB3 : Below w.heap.size w w' := hB.trans (hB2.mono hB.size)
      go_roundw
      case rel => exact ⟨k + 1, by omega, by go_num, hB3⟩
      case measure => simp [intOf]; omega
    · go_wp2
      go_ret
      exact ⟨rfl, hB⟩
theorem anyV_c (l : List (Int × Int)) {st : Int} (h1 : 0 ≤ st) (h2 : st ≤ 1000000) {xb xo : Nat} (v : Value) (w : World) (h : HasV w v l) (hl : l.length ≤ 9223372036854775807) (hi : ∀ i, i < l.length → OkV (l.getD i (0, 0)).1 (l.getD i (0, 0)).2 st) (hx : w.cell? ⟨xb, xo, none⟩ = some (.int .i64 st)) :
    Calls Tryz.prog 101 #[v, .func (.func 232) #[] #[.pointer (some ⟨xb, xo, none⟩)]] w fun e w' => e = .returned (.bool false) ∧ Below w.heap.size w w' := by
  have hc := indexV_c l h1 h2 v w h hl hi hx
  clear h hl hi hx
  go_enter Tryz.func101, Tryz.ntmps101
  go_wp2_with (go_at_call 159; refine hc.mono ?_; rintro e w' ⟨rfl, hB⟩)
  go_ret
  exact ⟨rfl, hB⟩
theorem isHole_c (n : Int) (w : World) : Calls Tryz.prog 235 #[.agg #[.int .u8 0, .int .i64 n]] w fun e w' => e = .returned (.bool true) ∧ Below w.heap.size w w' := by
  have hB : Below w.heap.size w (w.alloc (.cells #[.int .u8 0, .int .i64 n] 57)) := (Below.refl _ _).alloc (Nat.le_refl _) _
  go_enter Tryz.func235, Tryz.ntmps235
  go_wp2
  go_ret
  exact ⟨rfl, hB⟩
theorem sv2_c {q m cb co cc : Nat} {rd n0 : Int} {xb xo : Nat} {w : World} (hx : w.cell? ⟨xb, xo, none⟩ = some (.slice (some ⟨cb, co, none⟩) m cc)) (hq : q < m) (hm : m ≤ 1000) (hv : VAt w cb (co + q * 2) 0 n0) :
    Calls Tryz.prog 234 #[.agg #[.int .i64 q, .int .i64 rd], .pointer (some ⟨xb, xo, none⟩)] w fun e w' => e = .returned (.bool false) ∧ Below w.heap.size w w' := by
  have hB : Below w.heap.size w (w.alloc (.cells #[.int .i64 q, .int .i64 rd] 292)) := (Below.refl _ _).alloc (Nat.le_refl _) _
  have hx1 := cell_alloc hx (.cells #[.int .i64 q, .int .i64 rd] 292)
  obtain ⟨g0, g1⟩ := hv.below hB
  have hw := fun w => within_t (n := (q : Int)) (a := 0) (b := (m : Int) - 1) (by omega) (by omega) w
  have hh := fun w => isHole_c n0 w
  clear hx hv
  go_enter Tryz.func234, Tryz.ntmps234
  go_wp2_with (first | (go_at_call 46; refine (hw _).mono ?_; rintro e w2 ⟨rfl, rfl⟩) | (go_at_call 235; refine (hh _).mono ?_; rintro e w3 ⟨rfl, hB3⟩))
  go_ret
  exact ⟨rfl, hB.trans (hB3.mono hB.size)⟩
end Cl
end Go.Proofs
namespace Go.Proofs
open Go.RowKit
namespace Cl
/-- reads that wait, as they lie in a slice -/
def HasW (w : World) (v : Value) (l : List (Nat × Int)) : Prop :=
  ∃ p c, v = .slice p l.length c ∧ (l ≠ [] → ∃ b o, p = some ⟨b, o, none⟩ ∧ ∀ i, i < l.length → w.cell? ⟨b, o + i * 2, none⟩ = some (.int .i64 (l.getD i (0, 0)).1) ∧ w.cell? ⟨b, o + i * 2 + 1, none⟩ = some (.int .i64 (l.getD i (0, 0)).2))
theorem HasW.below {w w' : World} {v : Value} {l : List (Nat × Int)} (h : HasW w v l) (hB : Below w.heap.size w w') : HasW w' v l := by
  obtain ⟨p, c, rfl, h⟩ := h
  exact ⟨p, c, rfl, fun h0 => let ⟨b, o, hp, hq⟩ := h h0; ⟨b, o, hp, fun i hi => ⟨cell_below (hq i hi).1 hB (cell_lt (hq i hi).1), cell_below (hq i hi).2 hB (cell_lt (hq i hi).2)⟩⟩⟩
theorem indexR_c (l : List (Nat × Int)) {m cc cb co : Nat} {xb xo : Nat} (v : Value) (w : World) (h : HasW w v l) (hl : l.length ≤ 9223372036854775807) (hx : w.cell? ⟨xb, xo, none⟩ = some (.slice (some ⟨cb, co, none⟩) m cc)) (hm : m ≤ 1000) (hi : ∀ i, i < l.length → (l.getD i (0, 0)).1 < m ∧ ∃ n0, VAt w cb (co + (l.getD i (0, 0)).1 * 2) 0 n0) :
    Calls Tryz.prog 296 #[v, .func (.func 234) #[] #[.pointer (some ⟨xb, xo, none⟩)]] w fun e w' => e = .returned (.int .i64 (-1)) ∧ Below w.heap.size w w' := by
  obtain ⟨p, c, rfl, h⟩ := h
  obtain ⟨n, hn⟩ : ∃ n, n = l.length := ⟨_, rfl⟩
  rw [← hn] at hl hi ⊢
  have hn' : Hid (n = l.length) := hn
  have h' : Hid _ := h
  have hi' : Hid _ := hi
  have hx' : Hid (w.cell? ⟨xb, xo, none⟩ = some (.slice (some ⟨cb, co, none⟩) m cc)) := hx
  clear h hi hx hn
  go_enter Tryz.func296, Tryz.ntmps296
  go_wp2
  go_loopw [8] (fun i wr => ∃ k : Nat, k ≤ n ∧ i = .int .i64 k ∧ Below w.heap.size w wr) (fun i _ => n - (intOf i).toNat)
  case atStart => exact ⟨0, Nat.zero_le _, rfl, Below.refl _ _⟩
  case round =>
    obtain ⟨k, hk, rfl, hB⟩ := hrel
    by_cases hkn : k < n
    · obtain ⟨b, o, rfl, hq⟩ := h'.out (fun e => by have := hn'.out; rw [e] at this; simp at this; omega)
      obtain ⟨g0, g1⟩ := hq k (by rw [← hn'.out]; exact hkn)
      have g0 := cell_below g0 hB (cell_lt g0)
      have g1 := cell_below g1 hB (cell_lt g1)
      obtain ⟨hlt, n0, hv⟩ := hi'.out k hkn
      have hc := sv2_c (rd := (l.getD k (0, 0)).2) (cell_below hx'.out hB (cell_lt hx'.out)) hlt hm (hv.below hB)
      clear hq hlt hv
      generalize (l.getD k (0, 0)).1 = kk at *
      generalize (l.getD k (0, 0)).2 = nk at *
      go_wp2_with (go_at_call 234; refine hc.mono ?_; rintro e w' ⟨rfl, hB2⟩)
      have hB3 : Below w.heap.size w w' := hB.trans (hB2.mono hB.size)
      go_roundw
      case rel => exact ⟨k + 1, by omega, by go_num, hB3⟩
      case measure => simp [intOf]; omega
    · go_wp2
      go_ret
      exact ⟨rfl, hB⟩
theorem anyR_c (l : List (Nat × Int)) {m cc cb co : Nat} {xb xo : Nat} (v : Value) (w : World) (h : HasW w v l) (hl : l.length ≤ 9223372036854775807) (hx : w.cell? ⟨xb, xo, none⟩ = some (.slice (some ⟨cb, co, none⟩) m cc)) (hm : m ≤ 1000) (hi : ∀ i, i < l.length → (l.getD i (0, 0)).1 < m ∧ ∃ n0, VAt w cb (co + (l.getD i (0, 0)).1 * 2) 0 n0) :
    Calls Tryz.prog 233 #[v, .func (.func 234) #[] #[.pointer (some ⟨xb, xo, none⟩)]] w fun e w' => e = .returned (.bool false) ∧ Below w.heap.size w w' := by
  have hc := indexR_c l v w h hl hx hm hi
  clear h hl hi hx
  go_enter Tryz.func233, Tryz.ntmps233
  go_wp2_with (go_at_call 296; refine hc.mono ?_; rintro e w' ⟨rfl, hB⟩)
  go_ret
  exact ⟨rfl, hB⟩
theorem anyR_nil {v : Value} {c : Nat} {p : Option Addr} (w : World) (hv : v = .slice p 0 c) {f : Value} : Calls Tryz.prog 233 #[v, f] w fun e w' => e = .returned (.bool false) ∧ Below w.heap.size w w' := by
  subst hv
  have hc : Calls Tryz.prog 296 #[.slice p 0 c, f] w fun e w' => e = .returned (.int .i64 (-1)) ∧ Below w.heap.size w w' := by
    go_enter Tryz.func296, Tryz.ntmps296
    go_wp2
    go_loop [8] (fun i => i = .int .i64 0) (fun _ => 0)
    case atStart => rfl
    case round =>
      subst hrel
      go_wp2
      go_ret
      exact ⟨rfl, Below.refl _ _⟩
  go_enter Tryz.func233, Tryz.ntmps233
  go_wp2_with (go_at_call 296; refine hc.mono ?_; rintro e w' ⟨rfl, hB⟩)
  go_ret
  exact ⟨rfl, hB⟩
/-- a structure that is one: its cells are values, and what waits, waits for holes -/
theorem isStruct_t {st : Int} (h1 : 0 ≤ st) (h2 : st ≤ 1000000) {cp wp : Option Addr} {cc wc : Nat} {l : List (Int × Int)} {r : List (Nat × Int)} {w : World} (hV : HasV w (.slice cp l.length cc) l) (hl : l.length ≤ 100) (hi : ∀ i, i < l.length → OkV (l.getD i (0, 0)).1 (l.getD i (0, 0)).2 st)
    (hW : HasW w (.slice wp r.length wc) r) (hr : r.length ≤ 1000) (hj : ∀ i, i < r.length → ∃ cb co, cp = some ⟨cb, co, none⟩ ∧ (r.getD i (0, 0)).1 < l.length ∧ ∃ n0, VAt w cb (co + (r.getD i (0, 0)).1 * 2) 0 n0) :
    Calls Tryz.prog 157 #[.agg #[.slice cp l.length cc, .slice wp r.length wc], .int .i64 st] w fun e w' => e = .returned (.bool true) ∧ Below w.heap.size w w' := by
  obtain ⟨w1, hw1⟩ : ∃ w1, w1 = (w.alloc (.cells #[.slice cp l.length cc, .slice wp r.length wc] 240)).alloc (.cells #[.int .i64 st] 3) := ⟨_, rfl⟩
  have hB : Below w.heap.size w w1 := by rw [hw1]; exact ((Below.refl _ _).alloc (Nat.le_refl _) _).alloc (by rw [size_new]; omega) _
  have e1 : (w.alloc (.cells #[.slice cp l.length cc, .slice wp r.length wc] 240)).heap.size = w.heap.size + 1 := size_new _ _
  have x0 : w1.cell? ⟨w.heap.size, 0, none⟩ = some (.slice cp l.length cc) := by rw [hw1]; exact cell_alloc (by rw [cells_new]; rfl) _
  have x1 : w1.cell? ⟨w.heap.size, 1, none⟩ = some (.slice wp r.length wc) := by rw [hw1]; exact cell_alloc (by rw [cells_new]; rfl) _
  have x2 : w1.cell? ⟨w.heap.size + 1, 0, none⟩ = some (.int .i64 st) := by rw [hw1, ← e1, cells_new]; rfl
  have hc1 := anyV_c l h1 h2 _ w1 (hV.below hB) (by omega) hi x2
  have hc2 : ∀ w2, Below w1.heap.size w1 w2 → Calls Tryz.prog 233 #[.slice wp r.length wc, .func (.func 234) #[] #[.pointer (some ⟨w.heap.size, 0, none⟩)]] w2 fun e w' => e = .returned (.bool false) ∧ Below w2.heap.size w2 w' := by
    intro w2 hB2
    by_cases h0 : r = []
    · subst h0; exact anyR_nil w2 rfl
    · obtain ⟨cb, co, rfl, _⟩ := hj 0 (List.length_pos_iff.2 h0)
      refine anyR_c r _ w2 ((hW.below hB).below hB2) (by omega) (cell_below x0 hB2 (cell_lt x0)) (by omega) (fun i hi => ?_)
      obtain ⟨cb2, co2, he, g1, n0, g2⟩ := hj i hi
      cases he
      exact ⟨g1, n0, (g2.below hB).below hB2⟩
  rw [hw1] at x0 x1 x2 hc1 hc2 hB
  have hB' : Hid _ := hB
  have hc2' : Hid _ := hc2
  clear hV hi hW hj hw1 hB hc2
  go_enter Tryz.func157, Tryz.ntmps157
  generalize hm : l.length = m at *
  generalize r.length = rl at *
  go_wp2_with (first
    | (go_at_call 101; refine hc1.mono ?_; rintro e w2 ⟨rfl, hB2⟩; have z1 := cell_below x1 hB2 (cell_lt x1))
    | (go_at_call 233; refine (hc2'.out _ hB2).mono ?_; rintro e w3 ⟨rfl, hB3⟩))
  go_ret
  exact ⟨rfl, hB'.out.trans ((hB2.trans (hB3.mono hB2.size)).mono hB'.out.size)⟩
end Cl
end Go.Proofs
namespace Go.Proofs
open Go.RowKit
namespace Cl
theorem prim1_t {n : Int} (h1 : -1000000000 ≤ n) (h2 : n ≤ 1000000000) (w : World) : Calls Tryz.prog 294 #[.agg #[.int .u8 1, .int .i64 n]] w fun e w' => e = .returned (.bool false) ∧ Below w.heap.size w w' := by
  have hv := fun w => isValue_t (k := 1) (n := n) (st := 0) (.inr (.inr (.inl ⟨rfl, h1, h2⟩))) (by omega) (by omega) w
  have hB : Below w.heap.size w (w.alloc (.cells #[.int .u8 1, .int .i64 n] 57)) := (Below.refl _ _).alloc (Nat.le_refl _) _
  have x0 : (w.alloc (.cells #[.int .u8 1, .int .i64 n] 57)).cell? ⟨w.heap.size, 0, none⟩ = some (.int .u8 1) := by rw [cells_new]; rfl
  have x1 : (w.alloc (.cells #[.int .u8 1, .int .i64 n] 57)).cell? ⟨w.heap.size, 1, none⟩ = some (.int .i64 n) := by rw [cells_new]; rfl
  by_cases hn : n < 0
  · go_enter Tryz.func294, Tryz.ntmps294
    go_wp2_with (go_at_call 103; refine (hv _).mono ?_; rintro e w2 ⟨rfl, hB2⟩; have z0 := cell_below x0 hB2 (cell_lt x0); have z1 := cell_below x1 hB2 (cell_lt x1))
    go_ret
    exact ⟨rfl, hB.trans (hB2.mono hB.size)⟩
  · go_enter Tryz.func294, Tryz.ntmps294
    go_wp2_with (go_at_call 103; refine (hv _).mono ?_; rintro e w2 ⟨rfl, hB2⟩; have z0 := cell_below x0 hB2 (cell_lt x0); have z1 := cell_below x1 hB2 (cell_lt x1))
    go_ret
    exact ⟨rfl, hB.trans (hB2.mono hB.size)⟩
end Cl
end Go.Proofs
