/- PROVED HERE: a part (Wk) of the tied card of LibMatrices (floodgatelaw25): the call returns true and its arguments read as before. CONDITIONS: those of the given row and card alone. HOW: an evaluator of Go calls with unknown integers is proved sound (Eva to Evg), functions of the closure are walked and answered by readers of the heap (Wk, Wv, Oa, Ob), the runs are reckoned by the kernel (Lt), the statement itself is walked (Wm), the row and the card stand in Cf and Cp. -/
import Derived.Test.YtgbmggmblcfhkaaGreatDoorProg
import Derived.WalkKit
import Derived.Deep.QuietTactic
import Derived.BigQuiet
import Derived.RegionTactic
import Derived.ChangeAlike
import Derived.Handy
import Derived.StillTailTactics
import Derived.Deep.RegionHeld3
import Derived.Deep.AppendLies
import Derived.OwnWalk
namespace Go.Proofs
open Go.RowKit
namespace Cl
theorem cell_lt {w : World} {b o : Nat} {v : Value} (h : w.cell? ⟨b, o, none⟩ = some v) : b < w.heap.size := by
  unfold World.cell? at h
  by_cases hb : b < w.heap.size
  · exact hb
  · rw [show w.heap[(⟨b, o, none⟩ : Addr).block]? = none from Array.getElem?_eq_none (by show w.heap.size ≤ b; omega)] at h
    cases h
theorem cell_below {w w' : World} {b o n : Nat} {v : Value} (h : w.cell? ⟨b, o, none⟩ = some v) (hB : Below n w w') (hn : b < n) : w'.cell? ⟨b, o, none⟩ = some v := by
  unfold World.cell? at h ⊢
  rw [show w'.heap[(⟨b, o, none⟩ : Addr).block]? = w.heap[(⟨b, o, none⟩ : Addr).block]? from hB.block b hn]
  exact h
theorem cell_alloc {w : World} {b o : Nat} {v : Value} (h : w.cell? ⟨b, o, none⟩ = some v) (x : Obj) : (w.alloc x).cell? ⟨b, o, none⟩ = some v :=
  cell_below h ((Below.refl _ _).alloc (Nat.le_refl _) _) (cell_lt h)
/-- where a value comes from: a parameter, or an output of a node -/
inductive Fr where
  | par (q : Nat)
  | out (a q : Nat)
/-- its two cells -/
def Fr.a : Fr → Value
  | .par _ => .int .i64 (-1)
  | .out a _ => .int .i64 a
def Fr.q : Fr → Value
  | .par q => .int .i64 q
  | .out _ q => .int .i64 q
/-- a value of the language lies there -/
structure VAt (w : World) (b o : Nat) (k n : Int) : Prop where
  c0 : w.cell? ⟨b, o, none⟩ = some (.int .u8 k)
  c1 : w.cell? ⟨b, o + 1, none⟩ = some (.int .i64 n)
/-- what an output of a context has been given -/
def Is (w : World) (cb co : Nat) : Fr → Int → Int → Prop
  | .par q, k, n => ∃ b o m c, w.cell? ⟨cb, co + 4, none⟩ = some (.slice (some ⟨b, o, none⟩) m c) ∧ q < m ∧ VAt w b (o + q * 2) k n
  | .out a q, k, n => ∃ b o m c b2 o2 m2 c2, w.cell? ⟨cb, co + 5, none⟩ = some (.slice (some ⟨b, o, none⟩) m c) ∧ a < m ∧ w.cell? ⟨b, o + a, none⟩ = some (.slice (some ⟨b2, o2, none⟩) m2 c2) ∧ q < m2 ∧ VAt w b2 (o2 + q * 2) k n
theorem isThere_c (k n : Int) (w : World) : Calls Tryz.prog 106 #[.agg #[.int .u8 k, .int .i64 n]] w fun e w' => e = .returned (.bool (k != 0)) ∧ Below w.heap.size w w' := by
  have hB : Below w.heap.size w (w.alloc (.cells #[.int .u8 k, .int .i64 n] 57)) := (Below.refl _ _).alloc (Nat.le_refl _) _
  go_enter Tryz.func106, Tryz.ntmps106
  go_wp2
  go_ret
  exact ⟨rfl, hB⟩
theorem cells_new (w : World) (c : Array Value) (t j : Nat) : (w.alloc (.cells c t)).cell? ⟨w.heap.size, j, none⟩ = c[j]? := by
  unfold World.cell?
  rw [show (w.alloc (.cells c t)).heap[(⟨w.heap.size, j, none⟩ : Addr).block]? = _ from heap_alloc_new w _]
  simp
theorem froz_new (w : World) (c : Array Value) (t j : Nat) : (w.alloc (.cells c t)).frozen? ⟨w.heap.size, j, none⟩ = false := by
  unfold World.frozen?
  rw [show (w.alloc (.cells c t)).heap[(⟨w.heap.size, j, none⟩ : Addr).block]? = _ from heap_alloc_new w _]
  simp
theorem size_new (w : World) (o : Obj) : (w.alloc o).heap.size = w.heap.size + 1 := by show (w.heap.push _).size = _; simp
set_option maxRecDepth 100000 in
theorem value_c (f : Fr) (cb co : Nat) (k n : Int) (w : World) (h : Is w cb co f k n) : Calls Tryz.prog 105 #[.pointer (some ⟨cb, co, none⟩), .agg #[f.a, f.q]] w fun e w' => e = .returned (.agg #[.int .u8 k, .int .i64 n]) ∧ Below w.heap.size w w' := by
  cases f with
  | par q =>
    obtain ⟨b, o, m, c, h1, h2, h3⟩ := h
    show Calls Tryz.prog 105 #[.pointer (some ⟨cb, co, none⟩), .agg #[.int .i64 (-1), .int .i64 q]] w _
    go_enter Tryz.func105, Tryz.ntmps105
    go_wp2
    have hB : ∀ x y, Below w.heap.size w ((w.alloc x).alloc y) := fun x y => ((Below.refl _ _).alloc (Nat.le_refl _) _).alloc (by rw [size_new]; omega) _
    have n1 : b < w.heap.size := cell_lt h3.c0
    have n2 : cb < w.heap.size := cell_lt h1
    go_region_held3 (fun w' => w'.cell? ⟨cb, co + 4, none⟩ = some (.slice (some ⟨b, o, none⟩) m c) ∧ w'.cell? ⟨w.heap.size, 1, none⟩ = some (.int .i64 q) ∧ w'.cell? ⟨b, o + q * 2, none⟩ = some (.int .u8 k) ∧ w'.cell? ⟨b, o + q * 2 + 1, none⟩ = some (.int .i64 n))
      (exact ⟨cell_alloc (cell_alloc h1 _) _, cell_alloc (by rw [cells_new]; rfl) _, cell_alloc (cell_alloc h3.c0 _) _, cell_alloc (cell_alloc h3.c1 _) _⟩) (fail)
    go_wp2
    have hB := hB (.cells #[.int .i64 (-1), .int .i64 q] 222) (.cells #[.int .u8 k, .int .i64 n] 57)
    have r0 : ((w.alloc (.cells #[.int .i64 (-1), .int .i64 q] 222)).alloc (.cells #[.int .u8 k, .int .i64 n] 57)).drew.cell? ⟨w.heap.size + 1, 0, none⟩ = some (.int .u8 k) := by rw [World.cell?_drew, ← size_new w (.cells #[.int .i64 (-1), .int .i64 q] 222), cells_new]; rfl
    have r1 : ((w.alloc (.cells #[.int .i64 (-1), .int .i64 q] 222)).alloc (.cells #[.int .u8 k, .int .i64 n] 57)).drew.cell? ⟨w.heap.size + 1, 1, none⟩ = some (.int .i64 n) := by rw [World.cell?_drew, ← size_new w (.cells #[.int .i64 (-1), .int .i64 q] 222), cells_new]; rfl
    generalize ((w.alloc (.cells #[.int .i64 (-1), .int .i64 q] 222)).alloc (.cells #[.int .u8 k, .int .i64 n] 57)) = W at *
    refine bodyPost_ret (v := .agg #[.int .u8 k, .int .i64 n]) (by simp [results, Tryz.results105, go_sem, r0, r1]) rfl ?_
    exact ⟨rfl, hB.drew⟩
  | out a q =>
    obtain ⟨b, o, m, c, b2, o2, m2, c2, h1, h2, h3, h4, h5⟩ := h
    show Calls Tryz.prog 105 #[.pointer (some ⟨cb, co, none⟩), .agg #[.int .i64 a, .int .i64 q]] w _
    go_enter Tryz.func105, Tryz.ntmps105
    go_wp2
    have hB : ∀ x y, Below w.heap.size w ((w.alloc x).alloc y) := fun x y => ((Below.refl _ _).alloc (Nat.le_refl _) _).alloc (by rw [size_new]; omega) _
    go_region_held3 (fun w' => w'.cell? ⟨cb, co + 5, none⟩ = some (.slice (some ⟨b, o, none⟩) m c) ∧ w'.cell? ⟨w.heap.size, 0, none⟩ = some (.int .i64 a) ∧ w'.cell? ⟨w.heap.size, 1, none⟩ = some (.int .i64 q) ∧ w'.cell? ⟨b, o + a, none⟩ = some (.slice (some ⟨b2, o2, none⟩) m2 c2) ∧ w'.cell? ⟨b2, o2 + q * 2, none⟩ = some (.int .u8 k) ∧ w'.cell? ⟨b2, o2 + q * 2 + 1, none⟩ = some (.int .i64 n))
      (exact ⟨cell_alloc (cell_alloc h1 _) _, cell_alloc (by rw [cells_new]; rfl) _, cell_alloc (by rw [cells_new]; rfl) _, cell_alloc (cell_alloc h3 _) _, cell_alloc (cell_alloc h5.c0 _) _, cell_alloc (cell_alloc h5.c1 _) _⟩) (fail)
    go_wp2
    have hB := hB (.cells #[.int .i64 a, .int .i64 q] 222) (.cells #[.int .u8 k, .int .i64 n] 57)
    have r0 : ((w.alloc (.cells #[.int .i64 a, .int .i64 q] 222)).alloc (.cells #[.int .u8 k, .int .i64 n] 57)).drew.cell? ⟨w.heap.size + 1, 0, none⟩ = some (.int .u8 k) := by rw [World.cell?_drew, ← size_new w (.cells #[.int .i64 a, .int .i64 q] 222), cells_new]; rfl
    have r1 : ((w.alloc (.cells #[.int .i64 a, .int .i64 q] 222)).alloc (.cells #[.int .u8 k, .int .i64 n] 57)).drew.cell? ⟨w.heap.size + 1, 1, none⟩ = some (.int .i64 n) := by rw [World.cell?_drew, ← size_new w (.cells #[.int .i64 a, .int .i64 q] 222), cells_new]; rfl
    generalize ((w.alloc (.cells #[.int .i64 a, .int .i64 q] 222)).alloc (.cells #[.int .u8 k, .int .i64 n] 57)) = W at *
    refine bodyPost_ret (v := .agg #[.int .u8 k, .int .i64 n]) (by simp [results, Tryz.results105, go_sem, r0, r1]) rfl ?_
    exact ⟨rfl, hB.drew⟩

end Cl
end Go.Proofs
namespace Go.Proofs
open Go.RowKit
namespace Cl
theorem VAt.below {w w' : World} {b o : Nat} {k n : Int} (h : VAt w b o k n) (hB : Below w.heap.size w w') : VAt w' b o k n :=
  ⟨cell_below h.c0 hB (cell_lt h.c0), cell_below h.c1 hB (cell_lt h.c1)⟩
theorem Is.below {w w' : World} {cb co : Nat} {f : Fr} {k n : Int} (h : Is w cb co f k n) (hB : Below w.heap.size w w') : Is w' cb co f k n := by
  cases f with
  | par q =>
    obtain ⟨b, o, m, c, h1, h2, h3⟩ := h
    exact ⟨b, o, m, c, cell_below h1 hB (cell_lt h1), h2, h3.below hB⟩
  | out a q =>
    obtain ⟨b, o, m, c, b2, o2, m2, c2, h1, h2, h3, h4, h5⟩ := h
    exact ⟨b, o, m, c, b2, o2, m2, c2, cell_below h1 hB (cell_lt h1), h2, cell_below h3 hB (cell_lt h3), h4, h5.below hB⟩
theorem rdy1_c (f : Fr) (cb co xb xo : Nat) (k n : Int) (w : World) (h : Is w cb co f k n) (hx : w.cell? ⟨xb, xo, none⟩ = some (.pointer (some ⟨cb, co, none⟩))) :
    Calls Tryz.prog 223 #[.agg #[f.a, f.q], .pointer (some ⟨xb, xo, none⟩)] w fun e w' => e = .returned (.bool (k != 0)) ∧ Below w.heap.size w w' := by
  have hB : Below w.heap.size w (w.alloc (.cells #[f.a, f.q] 222)) := (Below.refl _ _).alloc (Nat.le_refl _) _
  have hv := value_c f cb co k n _ (h.below hB)
  have hx1 := cell_alloc hx (.cells #[f.a, f.q] 222)
  have hi := fun w => isThere_c k n w
  clear hx
  generalize f.a = fa at *
  generalize f.q = fq at *
  go_enter Tryz.func223, Tryz.ntmps223
  go_wp2_with (first | (go_at_call 105; refine hv.mono ?_; rintro e w1 ⟨rfl, hB1⟩) | (go_at_call 106; refine (hi _).mono ?_; rintro e w2 ⟨rfl, hB2⟩))
  go_ret
  exact ⟨rfl, hB.trans ((hB1.trans (hB2.mono hB1.size)).mono hB.size)⟩
theorem rdy2_c (f : Fr) (cb co xb xo : Nat) (k n : Int) (w : World) (h : Is w cb co f k n) (hx : w.cell? ⟨xb, xo, none⟩ = some (.pointer (some ⟨cb, co, none⟩))) :
    Calls Tryz.prog 224 #[.agg #[f.a, f.q], .pointer (some ⟨xb, xo, none⟩)] w fun e w' => e = .returned (.bool (!(k != 0))) ∧ Below w.heap.size w w' := by
  have hB : Below w.heap.size w (w.alloc (.cells #[f.a, f.q] 222)) := (Below.refl _ _).alloc (Nat.le_refl _) _
  have hv := value_c f cb co k n _ (h.below hB)
  have hx1 := cell_alloc hx (.cells #[f.a, f.q] 222)
  have hi := fun w => isThere_c k n w
  clear hx
  generalize f.a = fa at *
  generalize f.q = fq at *
  go_enter Tryz.func224, Tryz.ntmps224
  go_wp2_with (first | (go_at_call 105; refine hv.mono ?_; rintro e w1 ⟨rfl, hB1⟩) | (go_at_call 106; refine (hi _).mono ?_; rintro e w2 ⟨rfl, hB2⟩))
  go_ret
  exact ⟨rfl, hB.trans ((hB1.trans (hB2.mono hB1.size)).mono hB.size)⟩
/-- a slice of places, as it lies in a world -/
def HasF (w : World) (v : Value) (fs : List Fr) : Prop :=
  ∃ p c, v = .slice p fs.length c ∧ (fs ≠ [] → ∃ b o, p = some ⟨b, o, none⟩ ∧ ∀ i, i < fs.length → w.cell? ⟨b, o + i * 2, none⟩ = some (fs.getD i (.par 0)).a ∧ w.cell? ⟨b, o + i * 2 + 1, none⟩ = some (fs.getD i (.par 0)).q)
theorem HasF.below {w w' : World} {v : Value} {l : List Fr} (h : HasF w v l) (hB : Below w.heap.size w w') : HasF w' v l := by
  obtain ⟨p, c, rfl, h⟩ := h
  exact ⟨p, c, rfl, fun h0 => let ⟨b, o, hp, hq⟩ := h h0; ⟨b, o, hp, fun i hi => ⟨cell_below (hq i hi).1 hB (cell_lt (hq i hi).1), cell_below (hq i hi).2 hB (cell_lt (hq i hi).2)⟩⟩⟩
end Cl
end Go.Proofs
namespace Go.Proofs
open Go.RowKit
namespace Cl
theorem index1_c (fs : List Fr) (cb co xb xo : Nat) (v : Value) (w : World) (ks : Nat → Int) (ns : Nat → Int) (h : HasF w v fs) (hl : fs.length ≤ 9223372036854775807)
    (hi : ∀ i, i < fs.length → Is w cb co (fs.getD i (.par 0)) (ks i) (ns i)) (hx : w.cell? ⟨xb, xo, none⟩ = some (.pointer (some ⟨cb, co, none⟩))) :
    Calls Tryz.prog 290 #[v, .func (.func 223) #[] #[.pointer (some ⟨xb, xo, none⟩)]] w fun e w' => ∃ r : Int, e = .returned (.int .i64 r) ∧ decide (0 ≤ r) = ((List.range fs.length).any fun i => (ks i != 0)) ∧ Below w.heap.size w w' := by
  obtain ⟨p, c, rfl, h⟩ := h
  obtain ⟨n, hn⟩ : ∃ n, n = fs.length := ⟨_, rfl⟩
  rw [← hn] at hl hi ⊢
  by_cases h0 : fs = []
  · have hn0 : n = 0 := by rw [hn, h0]; rfl
    subst hn0
    clear h h0 hn hl hi
    go_enter Tryz.func290, Tryz.ntmps290
    go_wp2
    go_loop [8] (fun i => i = .int .i64 0) (fun _ => 0)
    case atStart => rfl
    case round =>
      subst hrel
      go_wp2
      go_ret
      exact ⟨_, rfl, by simp, Below.refl _ _⟩
  · obtain ⟨b, o, rfl, hq⟩ := h h0
    rw [← hn] at hq
    have hq' : Hid (∀ i, i < n → w.cell? ⟨b, o + i * 2, none⟩ = some (fs.getD i (.par 0)).a ∧ w.cell? ⟨b, o + i * 2 + 1, none⟩ = some (fs.getD i (.par 0)).q) := hq
    have hi' : Hid (∀ i, i < n → Is w cb co (fs.getD i (.par 0)) (ks i) (ns i)) := hi
    have hx' : Hid (w.cell? ⟨xb, xo, none⟩ = some (.pointer (some ⟨cb, co, none⟩))) := hx
    clear h h0 hn hq hi hx
    go_enter Tryz.func290, Tryz.ntmps290
    go_wp2
    go_loopw [8] (fun i wr => ∃ k : Nat, k ≤ n ∧ i = .int .i64 k ∧ (∀ i, i < k → (ks i != 0) = false) ∧ Below w.heap.size w wr) (fun i _ => n - (intOf i).toNat)
    case atStart => exact ⟨0, Nat.zero_le _, rfl, fun j h => absurd h (Nat.not_lt_zero _), Below.refl _ _⟩
    case round =>
      obtain ⟨k, hk, rfl, hall, hB⟩ := hrel
      by_cases hkn : k < n
      · have g0 := cell_below (hq'.out k hkn).1 hB (cell_lt (hq'.out k hkn).1)
        have g1 := cell_below (hq'.out k hkn).2 hB (cell_lt (hq'.out k hkn).2)
        have hc := rdy1_c (fs.getD k (.par 0)) cb co xb xo (ks k) (ns k) wr ((hi'.out k hkn).below hB) (cell_below hx'.out hB (cell_lt hx'.out))
        generalize (fs.getD k (.par 0)).a = fa at *
        generalize (fs.getD k (.par 0)).q = fq at *
        cases hb : (ks k != 0) with
        | false =>
          rw [hb] at hc
          have hb' : Hid ((ks k != 0) = false) := hb
          clear hb
          go_wp2_with (go_at_call 223; refine hc.mono ?_; rintro e w' ⟨rfl, hB2⟩)
          have hB3 : Below w.heap.size w w' := hB.trans (hB2.mono hB.size)
          go_roundw
          case rel =>
            refine ⟨k + 1, by omega, by go_num, fun j hj => ?_, hB3⟩
            by_cases he : j = k
            · subst he; exact hb'.out
            · exact hall j (by omega)
          case measure => simp [intOf]; omega
        | true =>
          rw [hb] at hc
          have hr : Hid (((List.range n).any fun i => (ks i != 0)) = true) := by
            show ((List.range n).any fun i => (ks i != 0)) = true
            rw [List.any_eq_true]; exact ⟨k, List.mem_range.2 hkn, hb⟩
          clear hb
          go_wp2_with (go_at_call 223; refine hc.mono ?_; rintro e w' ⟨rfl, hB2⟩)
          go_ret
          exact ⟨_, rfl, by rw [hr.out]; simp, hB.trans (hB2.mono hB.size)⟩
      · have hr : Hid (((List.range n).any fun i => (ks i != 0)) = false) := by
          show ((List.range n).any fun i => (ks i != 0)) = false
          rw [List.any_eq_false]
          intro x hx
          have := hall x (by have := List.mem_range.1 hx; omega)
          simp only [this]; decide
        clear hall
        go_wp2
        go_ret
        exact ⟨_, rfl, by rw [hr.out]; rfl, hB⟩
theorem any1_c (fs : List Fr) (cb co xb xo : Nat) (v : Value) (w : World) (ks : Nat → Int) (ns : Nat → Int) (h : HasF w v fs) (hl : fs.length ≤ 9223372036854775807)
    (hi : ∀ i, i < fs.length → Is w cb co (fs.getD i (.par 0)) (ks i) (ns i)) (hx : w.cell? ⟨xb, xo, none⟩ = some (.pointer (some ⟨cb, co, none⟩))) :
    Calls Tryz.prog 222 #[v, .func (.func 223) #[] #[.pointer (some ⟨xb, xo, none⟩)]] w fun e w' => e = .returned (.bool ((List.range fs.length).any fun i => (ks i != 0))) ∧ Below w.heap.size w w' := by
  have hc := index1_c fs cb co xb xo v w ks ns h hl hi hx
  clear h hl hi hx
  go_enter Tryz.func222, Tryz.ntmps222
  go_wp2_with (go_at_call 290; refine hc.mono ?_; rintro e w' ⟨r, rfl, hr, hB⟩)
  go_ret
  rw [← hr]
  exact ⟨by simp, hB⟩
theorem index2_c (fs : List Fr) (cb co xb xo : Nat) (v : Value) (w : World) (ks : Nat → Int) (ns : Nat → Int) (h : HasF w v fs) (hl : fs.length ≤ 9223372036854775807)
    (hi : ∀ i, i < fs.length → Is w cb co (fs.getD i (.par 0)) (ks i) (ns i)) (hx : w.cell? ⟨xb, xo, none⟩ = some (.pointer (some ⟨cb, co, none⟩))) :
    Calls Tryz.prog 290 #[v, .func (.func 224) #[] #[.pointer (some ⟨xb, xo, none⟩)]] w fun e w' => ∃ r : Int, e = .returned (.int .i64 r) ∧ decide (0 ≤ r) = ((List.range fs.length).any fun i => (!(ks i != 0))) ∧ Below w.heap.size w w' := by
  obtain ⟨p, c, rfl, h⟩ := h
  obtain ⟨n, hn⟩ : ∃ n, n = fs.length := ⟨_, rfl⟩
  rw [← hn] at hl hi ⊢
  by_cases h0 : fs = []
  · have hn0 : n = 0 := by rw [hn, h0]; rfl
    subst hn0
    clear h h0 hn hl hi
    go_enter Tryz.func290, Tryz.ntmps290
    go_wp2
    go_loop [8] (fun i => i = .int .i64 0) (fun _ => 0)
    case atStart => rfl
    case round =>
      subst hrel
      go_wp2
      go_ret
      exact ⟨_, rfl, by simp, Below.refl _ _⟩
  · obtain ⟨b, o, rfl, hq⟩ := h h0
    rw [← hn] at hq
    have hq' : Hid (∀ i, i < n → w.cell? ⟨b, o + i * 2, none⟩ = some (fs.getD i (.par 0)).a ∧ w.cell? ⟨b, o + i * 2 + 1, none⟩ = some (fs.getD i (.par 0)).q) := hq
    have hi' : Hid (∀ i, i < n → Is w cb co (fs.getD i (.par 0)) (ks i) (ns i)) := hi
    have hx' : Hid (w.cell? ⟨xb, xo, none⟩ = some (.pointer (some ⟨cb, co, none⟩))) := hx
    clear h h0 hn hq hi hx
    go_enter Tryz.func290, Tryz.ntmps290
    go_wp2
    go_loopw [8] (fun i wr => ∃ k : Nat, k ≤ n ∧ i = .int .i64 k ∧ (∀ i, i < k → (!(ks i != 0)) = false) ∧ Below w.heap.size w wr) (fun i _ => n - (intOf i).toNat)
    case atStart => exact ⟨0, Nat.zero_le _, rfl, fun j h => absurd h (Nat.not_lt_zero _), Below.refl _ _⟩
    case round =>
      obtain ⟨k, hk, rfl, hall, hB⟩ := hrel
      by_cases hkn : k < n
      · have g0 := cell_below (hq'.out k hkn).1 hB (cell_lt (hq'.out k hkn).1)
        have g1 := cell_below (hq'.out k hkn).2 hB (cell_lt (hq'.out k hkn).2)
        have hc := rdy2_c (fs.getD k (.par 0)) cb co xb xo (ks k) (ns k) wr ((hi'.out k hkn).below hB) (cell_below hx'.out hB (cell_lt hx'.out))
        generalize (fs.getD k (.par 0)).a = fa at *
        generalize (fs.getD k (.par 0)).q = fq at *
        cases hb : (!(ks k != 0)) with
        | false =>
          rw [hb] at hc
          have hb' : Hid ((!(ks k != 0)) = false) := hb
          clear hb
          go_wp2_with (go_at_call 224; refine hc.mono ?_; rintro e w' ⟨rfl, hB2⟩)
          have hB3 : Below w.heap.size w w' := hB.trans (hB2.mono hB.size)
          go_roundw
          case rel =>
            refine ⟨k + 1, by omega, by go_num, fun j hj => ?_, hB3⟩
            by_cases he : j = k
            · subst he; exact hb'.out
            · exact hall j (by omega)
          case measure => simp [intOf]; omega
        | true =>
          rw [hb] at hc
          have hr : Hid (((List.range n).any fun i => (!(ks i != 0))) = true) := by
            show ((List.range n).any fun i => (!(ks i != 0))) = true
            rw [List.any_eq_true]; exact ⟨k, List.mem_range.2 hkn, hb⟩
          clear hb
          go_wp2_with (go_at_call 224; refine hc.mono ?_; rintro e w' ⟨rfl, hB2⟩)
          go_ret
          exact ⟨_, rfl, by rw [hr.out]; simp, hB.trans (hB2.mono hB.size)⟩
      · have hr : Hid (((List.range n).any fun i => (!(ks i != 0))) = false) := by
          show ((List.range n).any fun i => (!(ks i != 0))) = false
          rw [List.any_eq_false]
          intro x hx
          have := hall x (by have := List.mem_range.1 hx; omega)
          simp only [this]; decide
        clear hall
        go_wp2
        go_ret
        exact ⟨_, rfl, by rw [hr.out]; rfl, hB⟩
theorem any2_c (fs : List Fr) (cb co xb xo : Nat) (v : Value) (w : World) (ks : Nat → Int) (ns : Nat → Int) (h : HasF w v fs) (hl : fs.length ≤ 9223372036854775807)
    (hi : ∀ i, i < fs.length → Is w cb co (fs.getD i (.par 0)) (ks i) (ns i)) (hx : w.cell? ⟨xb, xo, none⟩ = some (.pointer (some ⟨cb, co, none⟩))) :
    Calls Tryz.prog 222 #[v, .func (.func 224) #[] #[.pointer (some ⟨xb, xo, none⟩)]] w fun e w' => e = .returned (.bool ((List.range fs.length).any fun i => (!(ks i != 0)))) ∧ Below w.heap.size w w' := by
  have hc := index2_c fs cb co xb xo v w ks ns h hl hi hx
  clear h hl hi hx
  go_enter Tryz.func222, Tryz.ntmps222
  go_wp2_with (go_at_call 290; refine hc.mono ?_; rintro e w' ⟨r, rfl, hr, hB⟩)
  go_ret
  rw [← hr]
  exact ⟨by simp, hB⟩
end Cl
end Go.Proofs
namespace Go.Proofs
open Go.RowKit
namespace Cl
/-- a node of a context's block, as it lies in a world -/
structure NodeV (w : World) (xb xo cb co node : Nat) (op : Int) (ip : Option Addr) (il ic : Nat) : Prop where
  h : ∃ (bi bb bo nbk cbk nb no nn cn : Nat) (nm : ByteArray) (N : Int), w.cell? ⟨cb, co, none⟩ = some (.int .i64 bi) ∧ w.cell? ⟨xb, xo, none⟩ = some (.slice (some ⟨bb, bo, none⟩) nbk cbk) ∧ bi < nbk ∧
    w.cell? ⟨bb, bo + bi * 5 + 2, none⟩ = some (.slice (some ⟨nb, no, none⟩) nn cn) ∧ node < nn ∧
    w.cell? ⟨nb, no + node * 4, none⟩ = some (.int .u8 op) ∧ w.cell? ⟨nb, no + node * 4 + 1, none⟩ = some (.string nm) ∧ w.cell? ⟨nb, no + node * 4 + 2, none⟩ = some (.int .i64 N) ∧ w.cell? ⟨nb, no + node * 4 + 3, none⟩ = some (.slice ip il ic)
theorem NodeV.below {w w' : World} {xb xo cb co node : Nat} {op : Int} {ip : Option Addr} {il ic : Nat} (h : NodeV w xb xo cb co node op ip il ic) (hB : Below w.heap.size w w') : NodeV w' xb xo cb co node op ip il ic := by
  obtain ⟨bi, bb, bo, nbk, cbk, nb, no, nn, cn, nm, N, h1, h2, h3, h4, h5, h6, h7, h8, h9⟩ := h.h
  exact ⟨bi, bb, bo, nbk, cbk, nb, no, nn, cn, nm, N, cell_below h1 hB (cell_lt h1), cell_below h2 hB (cell_lt h2), h3, cell_below h4 hB (cell_lt h4), h5, cell_below h6 hB (cell_lt h6), cell_below h7 hB (cell_lt h7), cell_below h8 hB (cell_lt h8), cell_below h9 hB (cell_lt h9)⟩
/-- a node's round -/
def FirV (w : World) (cb co node : Nat) (r : Int) : Prop := ∃ fb fo nf cf : Nat, w.cell? ⟨cb, co + 6, none⟩ = some (.slice (some ⟨fb, fo, none⟩) nf cf) ∧ node < nf ∧ w.cell? ⟨fb, fo + node, none⟩ = some (.int .i64 r)
theorem FirV.below {w w' : World} {cb co node : Nat} {r : Int} (h : FirV w cb co node r) (hB : Below w.heap.size w w') : FirV w' cb co node r := by
  obtain ⟨fb, fo, nf, cf, h1, h2, h3⟩ := h
  exact ⟨fb, fo, nf, cf, cell_below h1 hB (cell_lt h1), h2, cell_below h3 hB (cell_lt h3)⟩
set_option maxRecDepth 100000 in
theorem ready_fired {w : World} {xb xo cb co node : Nat} {op r : Int} {ip : Option Addr} {il ic : Nat} (h : NodeV w xb xo cb co node op ip il ic) (hf : FirV w cb co node r) (hr : 0 < r) :
    Calls Tryz.prog 152 #[.pointer (some ⟨xb, xo, none⟩), .pointer (some ⟨cb, co, none⟩), .int .i64 node] w fun e w' => e = .returned (.bool false) ∧ Below w.heap.size w w' := by
  obtain ⟨bi, bb, bo, nbk, cbk, nb, no, nn, cn, nm, N, h1, h2, h3, h4, h5, h6, h7, h8, h9⟩ := (h.below ((Below.refl _ _).alloc (Nat.le_refl _) (.cells #[.pointer (some ⟨cb, co, none⟩)] 130))).h
  obtain ⟨fb, fo, nf, cf, f1, f2, f3⟩ := hf.below ((Below.refl _ _).alloc (Nat.le_refl _) (.cells #[.pointer (some ⟨cb, co, none⟩)] 130))
  have x0 : (w.alloc (.cells #[.pointer (some ⟨cb, co, none⟩)] 130)).cell? ⟨w.heap.size, 0, none⟩ = some (.pointer (some ⟨cb, co, none⟩)) := by rw [cells_new]; rfl
  go_enter Tryz.func152, Tryz.ntmps152
  go_wp2
  go_region_held3 (fun w' => w'.cell? ⟨w.heap.size, 0, none⟩ = some (.pointer (some ⟨cb, co, none⟩)) ∧ w'.cell? ⟨cb, co, none⟩ = some (.int .i64 bi) ∧ w'.cell? ⟨xb, xo, none⟩ = some (.slice (some ⟨bb, bo, none⟩) nbk cbk) ∧
    w'.cell? ⟨bb, bo + bi * 5 + 2, none⟩ = some (.slice (some ⟨nb, no, none⟩) nn cn) ∧
    w'.cell? ⟨nb, no + node * 4, none⟩ = some (.int .u8 op) ∧ w'.cell? ⟨nb, no + node * 4 + 1, none⟩ = some (.string nm) ∧ w'.cell? ⟨nb, no + node * 4 + 2, none⟩ = some (.int .i64 N) ∧ w'.cell? ⟨nb, no + node * 4 + 3, none⟩ = some (.slice ip il ic) ∧
    w'.cell? ⟨cb, co + 6, none⟩ = some (.slice (some ⟨fb, fo, none⟩) nf cf) ∧ w'.cell? ⟨fb, fo + node, none⟩ = some (.int .i64 r))
    (first | exact ⟨x0, h1, h2, h4, h6, h7, h8, h9, f1, f3⟩ | exact ⟨cell_alloc x0 _, cell_alloc h1 _, cell_alloc h2 _, cell_alloc h4 _, cell_alloc h6 _, cell_alloc h7 _, cell_alloc h8 _, cell_alloc h9 _, cell_alloc f1 _, cell_alloc f3 _⟩) (fail)
  rename_i hS
  have hB : Below w.heap.size w ((w.alloc (.cells #[.pointer (some ⟨cb, co, none⟩)] 130)).alloc (.cells #[.int .u8 op, .string nm, .int .i64 N, .slice ip il ic] 225)).drew := (((Below.refl _ _).alloc (Nat.le_refl _) _).alloc (by rw [size_new]; omega) _).drew
  have n0 : ((w.alloc (.cells #[.pointer (some ⟨cb, co, none⟩)] 130)).alloc (.cells #[.int .u8 op, .string nm, .int .i64 N, .slice ip il ic] 225)).drew.cell? ⟨w.heap.size + 1, 0, none⟩ = some (.int .u8 op) := by rw [World.cell?_drew, ← size_new w (.cells #[.pointer (some ⟨cb, co, none⟩)] 130), cells_new]; rfl
  have n3 : ((w.alloc (.cells #[.pointer (some ⟨cb, co, none⟩)] 130)).alloc (.cells #[.int .u8 op, .string nm, .int .i64 N, .slice ip il ic] 225)).drew.cell? ⟨w.heap.size + 1, 3, none⟩ = some (.slice ip il ic) := by rw [World.cell?_drew, ← size_new w (.cells #[.pointer (some ⟨cb, co, none⟩)] 130), cells_new]; rfl
  have hz : ((w.alloc (.cells #[.pointer (some ⟨cb, co, none⟩)] 130)).alloc (.cells #[.int .u8 op, .string nm, .int .i64 N, .slice ip il ic] 225)).drew.heap.size = w.heap.size + 2 := by show ((w.alloc _).alloc _).heap.size = _; rw [size_new, size_new]
  clear h1 h2 h4 h6 h7 h8 h9 f1 f3 x0
  generalize ((w.alloc (.cells #[.pointer (some ⟨cb, co, none⟩)] 130)).alloc (.cells #[.int .u8 op, .string nm, .int .i64 N, .slice ip il ic] 225)).drew = W at *
  obtain ⟨x0, h1, h2, h4, h6, h7, h8, h9, f1, f3⟩ := hS
  go_wp2
  go_ret
  exact ⟨rfl, hB⟩
end Cl
end Go.Proofs
namespace Go.Proofs
open Go.RowKit
namespace Cl
theorem cell_belowD {w w' : World} {b o n : Nat} {v : Value} (h : w.cell? ⟨b, o, none⟩ = some v) (hB : Below n w.drew w') (hn : b < n) : w'.cell? ⟨b, o, none⟩ = some v := cell_below (w := w.drew) h hB hn
theorem below_drewN {B n : Nat} {a w : World} (h : Below B a w) : Below B a (w.drewN n) := ⟨h.os, h.tape, h.output, h.size, h.block⟩
set_option maxRecDepth 100000 in
theorem ready_call8 {w : World} {xb xo cb co node : Nat} {r : Int} {ip : Option Addr} {il ic : Nat} {fs : List Fr} {ks ns : Nat → Int} (h : NodeV w xb xo cb co node 8 ip il ic) (hf : FirV w cb co node r) (hr : ¬ 0 < r)
    (hF : HasF w (.slice ip il ic) fs) (_hl : fs.length ≤ 9223372036854775807) (hi : ∀ i, i < fs.length → Is w cb co (fs.getD i (.par 0)) (ks i) (ns i)) (h0 : fs ≠ []) :
    Calls Tryz.prog 152 #[.pointer (some ⟨xb, xo, none⟩), .pointer (some ⟨cb, co, none⟩), .int .i64 node] w fun e w' => e = .returned (.bool (ks 0 != 0)) ∧ Below w.heap.size w w' := by
  have hF' : Hid (HasF w (.slice ip il ic) fs) := hF
  have hi' : Hid (∀ i, i < fs.length → Is w cb co (fs.getD i (.par 0)) (ks i) (ns i)) := hi
  have h0' : Hid (fs ≠ []) := h0
  clear hF _hl hi h0

  obtain ⟨bi, bb, bo, nbk, cbk, nb, no, nn, cn, nm, N, h1, h2, h3, h4, h5, h6, h7, h8, h9⟩ := (h.below ((Below.refl _ _).alloc (Nat.le_refl _) (.cells #[.pointer (some ⟨cb, co, none⟩)] 130))).h
  obtain ⟨fb, fo, nf, cf, f1, f2, f3⟩ := hf.below ((Below.refl _ _).alloc (Nat.le_refl _) (.cells #[.pointer (some ⟨cb, co, none⟩)] 130))
  have x0 : (w.alloc (.cells #[.pointer (some ⟨cb, co, none⟩)] 130)).cell? ⟨w.heap.size, 0, none⟩ = some (.pointer (some ⟨cb, co, none⟩)) := by rw [cells_new]; rfl
  go_enter Tryz.func152, Tryz.ntmps152
  go_wp2
  go_region_held3 (fun w' => w'.cell? ⟨w.heap.size, 0, none⟩ = some (.pointer (some ⟨cb, co, none⟩)) ∧ w'.cell? ⟨cb, co, none⟩ = some (.int .i64 bi) ∧ w'.cell? ⟨xb, xo, none⟩ = some (.slice (some ⟨bb, bo, none⟩) nbk cbk) ∧
    w'.cell? ⟨bb, bo + bi * 5 + 2, none⟩ = some (.slice (some ⟨nb, no, none⟩) nn cn) ∧
    w'.cell? ⟨nb, no + node * 4, none⟩ = some (.int .u8 8) ∧ w'.cell? ⟨nb, no + node * 4 + 1, none⟩ = some (.string nm) ∧ w'.cell? ⟨nb, no + node * 4 + 2, none⟩ = some (.int .i64 N) ∧ w'.cell? ⟨nb, no + node * 4 + 3, none⟩ = some (.slice ip il ic) ∧
    w'.cell? ⟨cb, co + 6, none⟩ = some (.slice (some ⟨fb, fo, none⟩) nf cf) ∧ w'.cell? ⟨fb, fo + node, none⟩ = some (.int .i64 r))
    (first | exact ⟨x0, h1, h2, h4, h6, h7, h8, h9, f1, f3⟩ | exact ⟨cell_alloc x0 _, cell_alloc h1 _, cell_alloc h2 _, cell_alloc h4 _, cell_alloc h6 _, cell_alloc h7 _, cell_alloc h8 _, cell_alloc h9 _, cell_alloc f1 _, cell_alloc f3 _⟩) (fail)
  rename_i hS
  have hB : Below w.heap.size w ((w.alloc (.cells #[.pointer (some ⟨cb, co, none⟩)] 130)).alloc (.cells #[.int .u8 8, .string nm, .int .i64 N, .slice ip il ic] 225)).drew := (((Below.refl _ _).alloc (Nat.le_refl _) _).alloc (by rw [size_new]; omega) _).drew
  have n0 : ((w.alloc (.cells #[.pointer (some ⟨cb, co, none⟩)] 130)).alloc (.cells #[.int .u8 8, .string nm, .int .i64 N, .slice ip il ic] 225)).drew.cell? ⟨w.heap.size + 1, 0, none⟩ = some (.int .u8 8) := by rw [World.cell?_drew, ← size_new w (.cells #[.pointer (some ⟨cb, co, none⟩)] 130), cells_new]; rfl
  have n3 : ((w.alloc (.cells #[.pointer (some ⟨cb, co, none⟩)] 130)).alloc (.cells #[.int .u8 8, .string nm, .int .i64 N, .slice ip il ic] 225)).drew.cell? ⟨w.heap.size + 1, 3, none⟩ = some (.slice ip il ic) := by rw [World.cell?_drew, ← size_new w (.cells #[.pointer (some ⟨cb, co, none⟩)] 130), cells_new]; rfl
  have hz : ((w.alloc (.cells #[.pointer (some ⟨cb, co, none⟩)] 130)).alloc (.cells #[.int .u8 8, .string nm, .int .i64 N, .slice ip il ic] 225)).drew.heap.size = w.heap.size + 2 := by show ((w.alloc _).alloc _).heap.size = _; rw [size_new, size_new]
  clear h1 h2 h4 h6 h7 h8 h9 f1 f3 x0
  generalize ((w.alloc (.cells #[.pointer (some ⟨cb, co, none⟩)] 130)).alloc (.cells #[.int .u8 8, .string nm, .int .i64 N, .slice ip il ic] 225)).drew = W at *
  obtain ⟨x0, h1, h2, h4, h6, h7, h8, h9, f1, f3⟩ := hS
  obtain ⟨p, c, hq, hF⟩ := (hF'.out.below hB)
  have hlen : 0 < fs.length := List.length_pos_iff.2 h0'.out
  cases hq
  obtain ⟨b, o, rfl, hq⟩ := hF h0'.out
  obtain ⟨g0, g1⟩ := hq 0 hlen
  simp only [Nat.zero_mul, Nat.add_zero] at g0 g1
  have hv := fun w1 (hw : Below W.heap.size W w1) => value_c (fs.getD 0 (.par 0)) cb co (ks 0) (ns 0) w1 (((hi'.out 0 hlen).below hB).below hw)
  have hi := fun w => isThere_c (ks 0) (ns 0) w
  clear hF hq
  generalize (fs.getD 0 (.par 0)).a = fa at *
  generalize (fs.getD 0 (.par 0)).q = fq at *
  have hv' : Hid _ := hv
  have hi2 : Hid _ := hi
  clear hv hi
  generalize hk : ks 0 = k at *
  generalize fs.length = fl at *
  have hx : w.heap.size < W.heap.size := by omega
  have hn : w.heap.size + 1 < W.heap.size := by omega
  have hb : b < W.heap.size := cell_lt g0
  go_wp2
  go_region_held3 (fun w' => w'.cell? ⟨w.heap.size, 0, none⟩ = some (.pointer (some ⟨cb, co, none⟩)) ∧ w'.cell? ⟨w.heap.size + 1, 3, none⟩ = some (.slice (some ⟨b, o, none⟩) fl ic) ∧ w'.cell? ⟨b, o, none⟩ = some fa ∧ w'.cell? ⟨b, o + 1, none⟩ = some fq)
    (first | exact ⟨x0, n3, g0, g1⟩ | exact ⟨cell_belowD x0 hB1 hx, cell_belowD n3 hB1 hn, cell_belowD g0 hB1 hb, cell_belowD g1 hB1 hb⟩ | exact ⟨cell_below (cell_belowD x0 hB1 hx) hB2 (Nat.lt_of_lt_of_le hx hB1.size), cell_below (cell_belowD n3 hB1 hn) hB2 (Nat.lt_of_lt_of_le hn hB1.size), cell_below (cell_belowD g0 hB1 hb) hB2 (Nat.lt_of_lt_of_le hb hB1.size), cell_below (cell_belowD g1 hB1 hb) hB2 (Nat.lt_of_lt_of_le hb hB1.size)⟩)
    (first | (go_at_call 105; refine (hv'.out _ (by first | exact Below.refl _ _ | exact below_drewN (n := 1) (Below.refl _ _))).mono ?_; rintro e w1 ⟨rfl, hB1⟩) | (go_at_call 106; refine (hi2.out _).mono ?_; rintro e w2 ⟨rfl, hB2⟩))
  go_wp2
  go_ret
  exact ⟨by rw [hk]; rfl, hB.trans ((((below_drewN (n := 1) (Below.refl _ _)).trans (hB1.trans (hB2.mono hB1.size))).mono hB.size))⟩
set_option maxRecDepth 100000 in
theorem ready_call9 {w : World} {xb xo cb co node : Nat} {r : Int} {ip : Option Addr} {il ic : Nat} {fs : List Fr} {ks ns : Nat → Int} (h : NodeV w xb xo cb co node 9 ip il ic) (hf : FirV w cb co node r) (hr : ¬ 0 < r)
    (hF : HasF w (.slice ip il ic) fs) (_hl : fs.length ≤ 9223372036854775807) (hi : ∀ i, i < fs.length → Is w cb co (fs.getD i (.par 0)) (ks i) (ns i)) (h0 : fs ≠ []) :
    Calls Tryz.prog 152 #[.pointer (some ⟨xb, xo, none⟩), .pointer (some ⟨cb, co, none⟩), .int .i64 node] w fun e w' => e = .returned (.bool (ks 0 != 0)) ∧ Below w.heap.size w w' := by
  have hF' : Hid (HasF w (.slice ip il ic) fs) := hF
  have hi' : Hid (∀ i, i < fs.length → Is w cb co (fs.getD i (.par 0)) (ks i) (ns i)) := hi
  have h0' : Hid (fs ≠ []) := h0
  clear hF _hl hi h0

  obtain ⟨bi, bb, bo, nbk, cbk, nb, no, nn, cn, nm, N, h1, h2, h3, h4, h5, h6, h7, h8, h9⟩ := (h.below ((Below.refl _ _).alloc (Nat.le_refl _) (.cells #[.pointer (some ⟨cb, co, none⟩)] 130))).h
  obtain ⟨fb, fo, nf, cf, f1, f2, f3⟩ := hf.below ((Below.refl _ _).alloc (Nat.le_refl _) (.cells #[.pointer (some ⟨cb, co, none⟩)] 130))
  have x0 : (w.alloc (.cells #[.pointer (some ⟨cb, co, none⟩)] 130)).cell? ⟨w.heap.size, 0, none⟩ = some (.pointer (some ⟨cb, co, none⟩)) := by rw [cells_new]; rfl
  go_enter Tryz.func152, Tryz.ntmps152
  go_wp2
  go_region_held3 (fun w' => w'.cell? ⟨w.heap.size, 0, none⟩ = some (.pointer (some ⟨cb, co, none⟩)) ∧ w'.cell? ⟨cb, co, none⟩ = some (.int .i64 bi) ∧ w'.cell? ⟨xb, xo, none⟩ = some (.slice (some ⟨bb, bo, none⟩) nbk cbk) ∧
    w'.cell? ⟨bb, bo + bi * 5 + 2, none⟩ = some (.slice (some ⟨nb, no, none⟩) nn cn) ∧
    w'.cell? ⟨nb, no + node * 4, none⟩ = some (.int .u8 9) ∧ w'.cell? ⟨nb, no + node * 4 + 1, none⟩ = some (.string nm) ∧ w'.cell? ⟨nb, no + node * 4 + 2, none⟩ = some (.int .i64 N) ∧ w'.cell? ⟨nb, no + node * 4 + 3, none⟩ = some (.slice ip il ic) ∧
    w'.cell? ⟨cb, co + 6, none⟩ = some (.slice (some ⟨fb, fo, none⟩) nf cf) ∧ w'.cell? ⟨fb, fo + node, none⟩ = some (.int .i64 r))
    (first | exact ⟨x0, h1, h2, h4, h6, h7, h8, h9, f1, f3⟩ | exact ⟨cell_alloc x0 _, cell_alloc h1 _, cell_alloc h2 _, cell_alloc h4 _, cell_alloc h6 _, cell_alloc h7 _, cell_alloc h8 _, cell_alloc h9 _, cell_alloc f1 _, cell_alloc f3 _⟩) (fail)
  rename_i hS
  have hB : Below w.heap.size w ((w.alloc (.cells #[.pointer (some ⟨cb, co, none⟩)] 130)).alloc (.cells #[.int .u8 9, .string nm, .int .i64 N, .slice ip il ic] 225)).drew := (((Below.refl _ _).alloc (Nat.le_refl _) _).alloc (by rw [size_new]; omega) _).drew
  have n0 : ((w.alloc (.cells #[.pointer (some ⟨cb, co, none⟩)] 130)).alloc (.cells #[.int .u8 9, .string nm, .int .i64 N, .slice ip il ic] 225)).drew.cell? ⟨w.heap.size + 1, 0, none⟩ = some (.int .u8 9) := by rw [World.cell?_drew, ← size_new w (.cells #[.pointer (some ⟨cb, co, none⟩)] 130), cells_new]; rfl
  have n3 : ((w.alloc (.cells #[.pointer (some ⟨cb, co, none⟩)] 130)).alloc (.cells #[.int .u8 9, .string nm, .int .i64 N, .slice ip il ic] 225)).drew.cell? ⟨w.heap.size + 1, 3, none⟩ = some (.slice ip il ic) := by rw [World.cell?_drew, ← size_new w (.cells #[.pointer (some ⟨cb, co, none⟩)] 130), cells_new]; rfl
  have hz : ((w.alloc (.cells #[.pointer (some ⟨cb, co, none⟩)] 130)).alloc (.cells #[.int .u8 9, .string nm, .int .i64 N, .slice ip il ic] 225)).drew.heap.size = w.heap.size + 2 := by show ((w.alloc _).alloc _).heap.size = _; rw [size_new, size_new]
  clear h1 h2 h4 h6 h7 h8 h9 f1 f3 x0
  generalize ((w.alloc (.cells #[.pointer (some ⟨cb, co, none⟩)] 130)).alloc (.cells #[.int .u8 9, .string nm, .int .i64 N, .slice ip il ic] 225)).drew = W at *
  obtain ⟨x0, h1, h2, h4, h6, h7, h8, h9, f1, f3⟩ := hS
  obtain ⟨p, c, hq, hF⟩ := (hF'.out.below hB)
  have hlen : 0 < fs.length := List.length_pos_iff.2 h0'.out
  cases hq
  obtain ⟨b, o, rfl, hq⟩ := hF h0'.out
  obtain ⟨g0, g1⟩ := hq 0 hlen
  simp only [Nat.zero_mul, Nat.add_zero] at g0 g1
  have hv := fun w1 (hw : Below W.heap.size W w1) => value_c (fs.getD 0 (.par 0)) cb co (ks 0) (ns 0) w1 (((hi'.out 0 hlen).below hB).below hw)
  have hi := fun w => isThere_c (ks 0) (ns 0) w
  clear hF hq
  generalize (fs.getD 0 (.par 0)).a = fa at *
  generalize (fs.getD 0 (.par 0)).q = fq at *
  have hv' : Hid _ := hv
  have hi2 : Hid _ := hi
  clear hv hi
  generalize hk : ks 0 = k at *
  generalize fs.length = fl at *
  have hx : w.heap.size < W.heap.size := by omega
  have hn : w.heap.size + 1 < W.heap.size := by omega
  have hb : b < W.heap.size := cell_lt g0
  go_wp2
  go_region_held3 (fun w' => w'.cell? ⟨w.heap.size, 0, none⟩ = some (.pointer (some ⟨cb, co, none⟩)) ∧ w'.cell? ⟨w.heap.size + 1, 3, none⟩ = some (.slice (some ⟨b, o, none⟩) fl ic) ∧ w'.cell? ⟨b, o, none⟩ = some fa ∧ w'.cell? ⟨b, o + 1, none⟩ = some fq)
    (first | exact ⟨x0, n3, g0, g1⟩ | exact ⟨cell_belowD x0 hB1 hx, cell_belowD n3 hB1 hn, cell_belowD g0 hB1 hb, cell_belowD g1 hB1 hb⟩ | exact ⟨cell_below (cell_belowD x0 hB1 hx) hB2 (Nat.lt_of_lt_of_le hx hB1.size), cell_below (cell_belowD n3 hB1 hn) hB2 (Nat.lt_of_lt_of_le hn hB1.size), cell_below (cell_belowD g0 hB1 hb) hB2 (Nat.lt_of_lt_of_le hb hB1.size), cell_below (cell_belowD g1 hB1 hb) hB2 (Nat.lt_of_lt_of_le hb hB1.size)⟩)
    (first | (go_at_call 105; refine (hv'.out _ (by first | exact Below.refl _ _ | exact below_drewN (n := 1) (Below.refl _ _))).mono ?_; rintro e w1 ⟨rfl, hB1⟩) | (go_at_call 106; refine (hi2.out _).mono ?_; rintro e w2 ⟨rfl, hB2⟩))
  go_wp2
  go_ret
  exact ⟨by rw [hk]; rfl, hB.trans ((((below_drewN (n := 1) (Below.refl _ _)).trans (hB1.trans (hB2.mono hB1.size))).mono hB.size))⟩
end Cl
end Go.Proofs
namespace Go.Proofs
open Go.RowKit
namespace Cl
set_option maxRecDepth 100000 in
theorem ready_merge {w : World} {xb xo cb co node : Nat} {r : Int} {ip : Option Addr} {il ic : Nat} {fs : List Fr} {ks ns : Nat → Int} (h : NodeV w xb xo cb co node 6 ip il ic) (hf : FirV w cb co node r) (hr : ¬ 0 < r)
    (hF : HasF w (.slice ip il ic) fs) (hl : fs.length ≤ 9223372036854775807) (hi : ∀ i, i < fs.length → Is w cb co (fs.getD i (.par 0)) (ks i) (ns i)) :
    Calls Tryz.prog 152 #[.pointer (some ⟨xb, xo, none⟩), .pointer (some ⟨cb, co, none⟩), .int .i64 node] w fun e w' => e = .returned (.bool ((List.range fs.length).any fun i => (ks i != 0))) ∧ Below w.heap.size w w' := by
  have hF' : Hid (HasF w (.slice ip il ic) fs) := hF
  have hi' : Hid (∀ i, i < fs.length → Is w cb co (fs.getD i (.par 0)) (ks i) (ns i)) := hi
  clear hF hi

  obtain ⟨bi, bb, bo, nbk, cbk, nb, no, nn, cn, nm, N, h1, h2, h3, h4, h5, h6, h7, h8, h9⟩ := (h.below ((Below.refl _ _).alloc (Nat.le_refl _) (.cells #[.pointer (some ⟨cb, co, none⟩)] 130))).h
  obtain ⟨fb, fo, nf, cf, f1, f2, f3⟩ := hf.below ((Below.refl _ _).alloc (Nat.le_refl _) (.cells #[.pointer (some ⟨cb, co, none⟩)] 130))
  have x0 : (w.alloc (.cells #[.pointer (some ⟨cb, co, none⟩)] 130)).cell? ⟨w.heap.size, 0, none⟩ = some (.pointer (some ⟨cb, co, none⟩)) := by rw [cells_new]; rfl
  go_enter Tryz.func152, Tryz.ntmps152
  go_wp2
  go_region_held3 (fun w' => w'.cell? ⟨w.heap.size, 0, none⟩ = some (.pointer (some ⟨cb, co, none⟩)) ∧ w'.cell? ⟨cb, co, none⟩ = some (.int .i64 bi) ∧ w'.cell? ⟨xb, xo, none⟩ = some (.slice (some ⟨bb, bo, none⟩) nbk cbk) ∧
    w'.cell? ⟨bb, bo + bi * 5 + 2, none⟩ = some (.slice (some ⟨nb, no, none⟩) nn cn) ∧
    w'.cell? ⟨nb, no + node * 4, none⟩ = some (.int .u8 6) ∧ w'.cell? ⟨nb, no + node * 4 + 1, none⟩ = some (.string nm) ∧ w'.cell? ⟨nb, no + node * 4 + 2, none⟩ = some (.int .i64 N) ∧ w'.cell? ⟨nb, no + node * 4 + 3, none⟩ = some (.slice ip il ic) ∧
    w'.cell? ⟨cb, co + 6, none⟩ = some (.slice (some ⟨fb, fo, none⟩) nf cf) ∧ w'.cell? ⟨fb, fo + node, none⟩ = some (.int .i64 r))
    (first | exact ⟨x0, h1, h2, h4, h6, h7, h8, h9, f1, f3⟩ | exact ⟨cell_alloc x0 _, cell_alloc h1 _, cell_alloc h2 _, cell_alloc h4 _, cell_alloc h6 _, cell_alloc h7 _, cell_alloc h8 _, cell_alloc h9 _, cell_alloc f1 _, cell_alloc f3 _⟩) (fail)
  rename_i hS
  have hB : Below w.heap.size w ((w.alloc (.cells #[.pointer (some ⟨cb, co, none⟩)] 130)).alloc (.cells #[.int .u8 6, .string nm, .int .i64 N, .slice ip il ic] 225)).drew := (((Below.refl _ _).alloc (Nat.le_refl _) _).alloc (by rw [size_new]; omega) _).drew
  have n0 : ((w.alloc (.cells #[.pointer (some ⟨cb, co, none⟩)] 130)).alloc (.cells #[.int .u8 6, .string nm, .int .i64 N, .slice ip il ic] 225)).drew.cell? ⟨w.heap.size + 1, 0, none⟩ = some (.int .u8 6) := by rw [World.cell?_drew, ← size_new w (.cells #[.pointer (some ⟨cb, co, none⟩)] 130), cells_new]; rfl
  have n3 : ((w.alloc (.cells #[.pointer (some ⟨cb, co, none⟩)] 130)).alloc (.cells #[.int .u8 6, .string nm, .int .i64 N, .slice ip il ic] 225)).drew.cell? ⟨w.heap.size + 1, 3, none⟩ = some (.slice ip il ic) := by rw [World.cell?_drew, ← size_new w (.cells #[.pointer (some ⟨cb, co, none⟩)] 130), cells_new]; rfl
  have hz : ((w.alloc (.cells #[.pointer (some ⟨cb, co, none⟩)] 130)).alloc (.cells #[.int .u8 6, .string nm, .int .i64 N, .slice ip il ic] 225)).drew.heap.size = w.heap.size + 2 := by show ((w.alloc _).alloc _).heap.size = _; rw [size_new, size_new]
  clear h1 h2 h4 h6 h7 h8 h9 f1 f3 x0
  generalize ((w.alloc (.cells #[.pointer (some ⟨cb, co, none⟩)] 130)).alloc (.cells #[.int .u8 6, .string nm, .int .i64 N, .slice ip il ic] 225)).drew = W at *
  obtain ⟨x0, h1, h2, h4, h6, h7, h8, h9, f1, f3⟩ := hS
  have hc := any1_c fs cb co w.heap.size 0 (.slice ip il ic) W ks ns (hF'.out.below hB) hl (fun i h => (hi'.out i h).below hB) x0
  clear hl
  go_wp2_with (go_at_call 222; refine hc.mono ?_; rintro e w1 ⟨rfl, hB1⟩)
  go_ret
  exact ⟨rfl, hB.trans (hB1.mono hB.size)⟩
set_option maxRecDepth 100000 in
theorem ready_other {w : World} {xb xo cb co node : Nat} {op r : Int} {ip : Option Addr} {il ic : Nat} {fs : List Fr} {ks ns : Nat → Int} (h : NodeV w xb xo cb co node op ip il ic) (hf : FirV w cb co node r) (hr : ¬ 0 < r)
    (hF : HasF w (.slice ip il ic) fs) (hl : fs.length ≤ 9223372036854775807) (hi : ∀ i, i < fs.length → Is w cb co (fs.getD i (.par 0)) (ks i) (ns i)) (h6 : op ≠ 6) (h8 : op ≠ 8) (h9 : op ≠ 9) :
    Calls Tryz.prog 152 #[.pointer (some ⟨xb, xo, none⟩), .pointer (some ⟨cb, co, none⟩), .int .i64 node] w fun e w' => e = .returned (.bool (!((List.range fs.length).any fun i => (!(ks i != 0))))) ∧ Below w.heap.size w w' := by
  have hF' : Hid (HasF w (.slice ip il ic) fs) := hF
  have hi' : Hid (∀ i, i < fs.length → Is w cb co (fs.getD i (.par 0)) (ks i) (ns i)) := hi
  clear hF hi

  obtain ⟨bi, bb, bo, nbk, cbk, nb, no, nn, cn, nm, N, h1, h2, h3, h4, h5, h6', h7, h8', h9'⟩ := (h.below ((Below.refl _ _).alloc (Nat.le_refl _) (.cells #[.pointer (some ⟨cb, co, none⟩)] 130))).h
  obtain ⟨fb, fo, nf, cf, f1, f2, f3⟩ := hf.below ((Below.refl _ _).alloc (Nat.le_refl _) (.cells #[.pointer (some ⟨cb, co, none⟩)] 130))
  have x0 : (w.alloc (.cells #[.pointer (some ⟨cb, co, none⟩)] 130)).cell? ⟨w.heap.size, 0, none⟩ = some (.pointer (some ⟨cb, co, none⟩)) := by rw [cells_new]; rfl
  go_enter Tryz.func152, Tryz.ntmps152
  go_wp2
  go_region_held3 (fun w' => w'.cell? ⟨w.heap.size, 0, none⟩ = some (.pointer (some ⟨cb, co, none⟩)) ∧ w'.cell? ⟨cb, co, none⟩ = some (.int .i64 bi) ∧ w'.cell? ⟨xb, xo, none⟩ = some (.slice (some ⟨bb, bo, none⟩) nbk cbk) ∧
    w'.cell? ⟨bb, bo + bi * 5 + 2, none⟩ = some (.slice (some ⟨nb, no, none⟩) nn cn) ∧
    w'.cell? ⟨nb, no + node * 4, none⟩ = some (.int .u8 op) ∧ w'.cell? ⟨nb, no + node * 4 + 1, none⟩ = some (.string nm) ∧ w'.cell? ⟨nb, no + node * 4 + 2, none⟩ = some (.int .i64 N) ∧ w'.cell? ⟨nb, no + node * 4 + 3, none⟩ = some (.slice ip il ic) ∧
    w'.cell? ⟨cb, co + 6, none⟩ = some (.slice (some ⟨fb, fo, none⟩) nf cf) ∧ w'.cell? ⟨fb, fo + node, none⟩ = some (.int .i64 r))
    (first | exact ⟨x0, h1, h2, h4, h6', h7, h8', h9', f1, f3⟩ | exact ⟨cell_alloc x0 _, cell_alloc h1 _, cell_alloc h2 _, cell_alloc h4 _, cell_alloc h6' _, cell_alloc h7 _, cell_alloc h8' _, cell_alloc h9' _, cell_alloc f1 _, cell_alloc f3 _⟩) (fail)
  rename_i hS
  have hB : Below w.heap.size w ((w.alloc (.cells #[.pointer (some ⟨cb, co, none⟩)] 130)).alloc (.cells #[.int .u8 op, .string nm, .int .i64 N, .slice ip il ic] 225)).drew := (((Below.refl _ _).alloc (Nat.le_refl _) _).alloc (by rw [size_new]; omega) _).drew
  have n0 : ((w.alloc (.cells #[.pointer (some ⟨cb, co, none⟩)] 130)).alloc (.cells #[.int .u8 op, .string nm, .int .i64 N, .slice ip il ic] 225)).drew.cell? ⟨w.heap.size + 1, 0, none⟩ = some (.int .u8 op) := by rw [World.cell?_drew, ← size_new w (.cells #[.pointer (some ⟨cb, co, none⟩)] 130), cells_new]; rfl
  have n3 : ((w.alloc (.cells #[.pointer (some ⟨cb, co, none⟩)] 130)).alloc (.cells #[.int .u8 op, .string nm, .int .i64 N, .slice ip il ic] 225)).drew.cell? ⟨w.heap.size + 1, 3, none⟩ = some (.slice ip il ic) := by rw [World.cell?_drew, ← size_new w (.cells #[.pointer (some ⟨cb, co, none⟩)] 130), cells_new]; rfl
  have hz : ((w.alloc (.cells #[.pointer (some ⟨cb, co, none⟩)] 130)).alloc (.cells #[.int .u8 op, .string nm, .int .i64 N, .slice ip il ic] 225)).drew.heap.size = w.heap.size + 2 := by show ((w.alloc _).alloc _).heap.size = _; rw [size_new, size_new]
  clear h1 h2 h4 h6' h7 h8' h9' f1 f3 x0
  generalize ((w.alloc (.cells #[.pointer (some ⟨cb, co, none⟩)] 130)).alloc (.cells #[.int .u8 op, .string nm, .int .i64 N, .slice ip il ic] 225)).drew = W at *
  obtain ⟨x0, h1, h2, h4, h6', h7, h8', h9', f1, f3⟩ := hS
  have hc := any2_c fs cb co w.heap.size 0 (.slice ip il ic) W ks ns (hF'.out.below hB) hl (fun i h => (hi'.out i h).below hB) x0
  clear hl
  go_wp2_with (go_at_call 222; refine hc.mono ?_; rintro e w1 ⟨rfl, hB1⟩)
  go_ret
  exact ⟨rfl, hB.trans (hB1.mono hB.size)⟩
end Cl
end Go.Proofs
namespace Go.Proofs
open Go.RowKit
namespace Cl
theorem info_parts {P : Program} {t : TypeId} {z : Value} {s b : Nat} (h : (P.info? t).map (fun i => (i.zero, i.size, i.bytes)) = some (some z, s, b)) : ∃ i, P.info? t = some i ∧ i.zero = some z ∧ i.size = s ∧ i.bytes = b := by
  cases hi : P.info? t with
  | none => rw [hi] at h; cases h
  | some i =>
    rw [hi] at h
    simp only [Option.map_some, Option.some.injEq, Prod.mk.injEq] at h
    exact ⟨i, rfl, h.1, h.2.1, h.2.2⟩
theorem infoSpot : (Tryz.prog.info? 209).map (fun i => (i.zero, i.size, i.bytes)) = some (some (.agg #[.int .i64 0, .int .i64 0]), 2, 16) := by kernel_rfl
/-- the nodes of a context that can fire, of the first m ones -/
def rdI (rd : Nat → Nat → Bool) (i m : Nat) : List (Nat × Nat) := ((List.range m).filter (rd i)).map fun n => (i, n)
/-- the nodes that can fire, of the first k contexts -/
def rdL (rd : Nat → Nat → Bool) (nf : Nat → Nat) (k : Nat) : List (Nat × Nat) := (List.range k).flatMap fun i => rdI rd i (nf i)
def spots (l : List (Nat × Nat)) : List Value := l.flatMap fun p => [.int .i64 p.1, .int .i64 p.2]
theorem rdI_len (rd : Nat → Nat → Bool) (i m : Nat) : (rdI rd i m).length ≤ m := by
  unfold rdI; rw [List.length_map]; exact Nat.le_trans (List.length_filter_le _ _) (by simp)
theorem rdI_succ (rd : Nat → Nat → Bool) (i m : Nat) : rdI rd i (m + 1) = rdI rd i m ++ (if rd i m = true then [(i, m)] else []) := by
  unfold rdI
  rw [List.range_succ, List.filter_append, List.map_append]
  congr 1
  by_cases h : rd i m = true <;> simp [h]
theorem rdL_succ (rd : Nat → Nat → Bool) (nf : Nat → Nat) (k : Nat) : rdL rd nf (k + 1) = rdL rd nf k ++ rdI rd k (nf k) := by
  unfold rdL; rw [List.range_succ, List.flatMap_append]; simp
theorem rdL_len (rd : Nat → Nat → Bool) (nf : Nat → Nat) (h : ∀ i, nf i ≤ 400) : ∀ k, (rdL rd nf k).length ≤ 400 * k := by
  intro k
  induction k with
  | zero => simp [rdL]
  | succ k ih => rw [rdL_succ, List.length_append]; have := rdI_len rd k (nf k); have := h k; omega
theorem spots_len (l : List (Nat × Nat)) : (spots l).length = l.length * 2 := by
  induction l with
  | nil => rfl
  | cons a l ih => show (_ :: _ :: spots l).length = _; simp [ih]; omega
theorem spots_app (l m : List (Nat × Nat)) : spots (l ++ m) = spots l ++ spots m := by unfold spots; simp
theorem grown_below {w w' : World} (h : Below w.heap.size w w') : w.grownBy w' none := ⟨h.os, h.tape, h.output, h.size, fun b hb _ => h.block b hb⟩
theorem own_below {w w' : World} {b s n : Nat} {e : TypeId} {v : Value} {x : List Value} (h : w.ownsRow b e s v n x) (hB : Below w.heap.size w w') : w'.ownsRow b e s v n x :=
  h.kept (grown_below hB) (by cases v.ownBlock <;> simp)
set_option maxRecDepth 100000 in
theorem ready_c {w : World} {xb xo cb0 co0 n cap : Nat} (cs : Nat → Nat × Nat) (nf : Nat → Nat) (rd : Nat → Nat → Bool)
    (h0 : w.cell? ⟨xb, xo + 2, none⟩ = some (.slice (some ⟨cb0, co0, none⟩) n cap)) (hc : ∀ i, i < n → w.cell? ⟨cb0, co0 + i, none⟩ = some (.pointer (some ⟨(cs i).1, (cs i).2, none⟩)))
    (hf : ∀ i, i < n → ∃ p c, w.cell? ⟨(cs i).1, (cs i).2 + 6, none⟩ = some (.slice p (nf i) c)) (hn : n ≤ 400) (hnf : ∀ i, nf i ≤ 400)
    (hr : ∀ i, i < n → ∀ m, m < nf i → ∀ w', Below w.heap.size w w' → Calls Tryz.prog 152 #[.pointer (some ⟨xb, xo, none⟩), .pointer (some ⟨(cs i).1, (cs i).2, none⟩), .int .i64 m] w' fun e w'' => e = .returned (.bool (rd i m)) ∧ Below w'.heap.size w' w'') :
    Calls Tryz.prog 98 #[.pointer (some ⟨xb, xo, none⟩)] w fun e w' => ∃ v, e = .returned v ∧ w'.ownsRow w.heap.size 209 2 v (rdL rd nf n).length (spots (rdL rd nf n)) ∧ Below w.heap.size w w' := by
  obtain ⟨i1, hi1, hy0, hy1, hy2⟩ := info_parts infoSpot
  have hc' : Hid _ := hc
  have hf' : Hid _ := hf
  have hr' : Hid _ := hr
  have hnf' : Hid _ := hnf
  clear hc hf hr hnf
  go_enter Tryz.func98, Tryz.ntmps98
  go_wp2
  go_loopw [2, 11] (fun v i wr => ∃ k : Nat, k ≤ n ∧ i = .int .i64 k ∧ wr.ownsRow w.heap.size 209 2 v (rdL rd nf k).length (spots (rdL rd nf k)) ∧ Below w.heap.size w wr) (fun _ i _ => n - (intOf i).toNat)
  case atStart => exact ⟨0, Nat.zero_le _, rfl, World.ownsRow_nil _ _ _ _, Below.refl _ _⟩
  case round =>
    obtain ⟨k, hk, rfl, hown, hB⟩ := hrel
    by_cases hkn : k < n
    · have g0 := cell_below (hc'.out k hkn) hB (cell_lt (hc'.out k hkn))
      obtain ⟨fp, fc, g1⟩ := hf'.out k hkn
      have g1 := cell_below g1 hB (cell_lt g1)
      have hr2 : Hid (∀ m, m < nf k → ∀ w', Below w.heap.size w w' → Calls Tryz.prog 152 #[.pointer (some ⟨xb, xo, none⟩), .pointer (some ⟨(cs k).1, (cs k).2, none⟩), .int .i64 m] w' fun e w'' => e = .returned (.bool (rd k m)) ∧ Below w'.heap.size w' w'') := hr'.out k hkn
      have hm4 : nf k ≤ 400 := hnf'.out k
      generalize (cs k).1 = cb at *
      generalize (cs k).2 = co at *
      go_wp2
      clear g0 g1
      go_loopw [2, 22] (fun v i wr => ∃ m : Nat, m ≤ nf k ∧ i = .int .i64 m ∧ wr.ownsRow w.heap.size 209 2 v (rdL rd nf k ++ rdI rd k m).length (spots (rdL rd nf k ++ rdI rd k m)) ∧ Below w.heap.size w wr) (fun _ i _ => nf k - (intOf i).toNat)
      case atStart => exact ⟨0, Nat.zero_le _, rfl, by rw [show rdI rd k 0 = [] from rfl, List.append_nil]; exact hown, hB⟩
      case round =>
        obtain ⟨m, hm, rfl, hown, hB⟩ := hrel
        by_cases hmn : m < nf k
        · have hcl := hr2.out m hmn wr hB
          have hS := rdI_succ rd k m
          have hz := hB.size
          have hl1 := rdL_len rd nf hnf'.out k
          have hl2 := rdI_len rd k m
          have hl3 : (rdL rd nf k ++ rdI rd k m).length ≤ 160400 := by rw [List.length_append]; omega
          cases hb : rd k m with
          | false =>
            rw [hb] at hcl hS
            have hS' : Hid (rdI rd k (m + 1) = rdI rd k m) := by show _ = _; rw [hS]; simp
            clear hb hS
            go_wp2_with (go_at_call 152; refine hcl.mono ?_; rintro e w1 ⟨rfl, hB1⟩)
            go_roundw
            case rel => exact ⟨m + 1, by omega, by go_num, by rw [hS'.out]; exact own_below hown hB1, hB.trans (hB1.mono hB.size)⟩
            case measure => simp [intOf]; omega
          | true =>
            rw [hb] at hcl hS
            have hS' : Hid (rdI rd k (m + 1) = rdI rd k m ++ [(k, m)]) := by show _ = _; rw [hS]; simp
            clear hb hS
            go_wp2_with (first | (go_at_call 152; refine hcl.mono ?_; rintro e w1 ⟨rfl, hB1⟩) | (at_builtin; refine wpList_append_lies _ rfl _ _ _ rfl w.heap.size 209 i1 _ 2 16 Tryz.underlying206 hi1 hy0 hy1 hy2 rfl (by omega) _ _ _ (by rfl) ((own_below hown hB1).alloc _) ⟨w1.heap.size, 0, none⟩ 1 1 [.int .i64 k, .int .i64 m] (by rfl) (by rfl) (World.news_of_block (cs := #[.int .i64 k, .int .i64 m]) (t := 209) (fr := (0, 0)) (heap_alloc_new w1 _)) (by simp [Value.oneCell']) (by omega) (by unfold maxLen; omega) (by omega) (by have := hB1.size; simp; omega) (w1.heap.size + 1) (by simp) ?_; intro g3 cap3 w3 hown3 hgrow3 hat3 hlt3))
            have e : (rdL rd nf k ++ rdI rd k (m + 1)).length = (rdL rd nf k ++ rdI rd k m).length + 1 := by rw [hS'.out, ← List.append_assoc, List.length_append]; rfl
            have e2 : spots (rdL rd nf k ++ rdI rd k (m + 1)) = spots (rdL rd nf k ++ rdI rd k m) ++ [.int .i64 k, .int .i64 m] := by rw [hS'.out, ← List.append_assoc, spots_app]; rfl
            have h1 := hB1.size
            refine ⟨⟨m + 1, by omega, by go_num, by rw [e, e2, ← List.length_append]; exact hown3, (((hB.trans (hB1.mono hB.size)).alloc (by omega) _).grown hgrow3 (by simp; omega) (fun k h => (hown.lt k h).1))⟩, by simp [intOf]; omega⟩
        · obtain rfl : m = nf k := by omega
          go_wp2
          refine ⟨⟨k + 1, by omega, by go_num, by rw [rdL_succ]; exact hown, hB⟩, by simp [intOf]; omega⟩
    · obtain rfl : k = n := by omega
      go_wp2
      go_ret
      exact ⟨_, rfl, hown, hB⟩
end Cl
end Go.Proofs
namespace Go.Proofs
open Go.RowKit
namespace Cl
/-- the nodes of a context's block -/
structure BlkV (w : World) (xb xo cb co nb no nn : Nat) : Prop where
  h : ∃ bi bb bo nbk cbk cn : Nat, w.cell? ⟨cb, co, none⟩ = some (.int .i64 bi) ∧ w.cell? ⟨xb, xo, none⟩ = some (.slice (some ⟨bb, bo, none⟩) nbk cbk) ∧ bi < nbk ∧ w.cell? ⟨bb, bo + bi * 5 + 2, none⟩ = some (.slice (some ⟨nb, no, none⟩) nn cn)
/-- one of them -/
structure ElV (w : World) (nb no i : Nat) (op : Int) (ip : Option Addr) (il ic : Nat) : Prop where
  h : ∃ (nm : ByteArray) (N : Int), w.cell? ⟨nb, no + i * 4, none⟩ = some (.int .u8 op) ∧ w.cell? ⟨nb, no + i * 4 + 1, none⟩ = some (.string nm) ∧ w.cell? ⟨nb, no + i * 4 + 2, none⟩ = some (.int .i64 N) ∧ w.cell? ⟨nb, no + i * 4 + 3, none⟩ = some (.slice ip il ic)
theorem BlkV.below {w w' : World} {xb xo cb co nb no nn : Nat} (h : BlkV w xb xo cb co nb no nn) (hB : Below w.heap.size w w') : BlkV w' xb xo cb co nb no nn := by
  obtain ⟨bi, bb, bo, nbk, cbk, cn, h1, h2, h3, h4⟩ := h.h
  exact ⟨bi, bb, bo, nbk, cbk, cn, cell_below h1 hB (cell_lt h1), cell_below h2 hB (cell_lt h2), h3, cell_below h4 hB (cell_lt h4)⟩
theorem ElV.below {w w' : World} {nb no i : Nat} {op : Int} {ip : Option Addr} {il ic : Nat} (h : ElV w nb no i op ip il ic) (hB : Below w.heap.size w w') : ElV w' nb no i op ip il ic := by
  obtain ⟨nm, N, h1, h2, h3, h4⟩ := h.h
  exact ⟨nm, N, cell_below h1 hB (cell_lt h1), cell_below h2 hB (cell_lt h2), cell_below h3 hB (cell_lt h3), cell_below h4 hB (cell_lt h4)⟩
theorem NodeV.of {w : World} {xb xo cb co nb no nn i : Nat} {op : Int} {ip : Option Addr} {il ic : Nat} (h : BlkV w xb xo cb co nb no nn) (h' : ElV w nb no i op ip il ic) (hi : i < nn) : NodeV w xb xo cb co i op ip il ic := by
  obtain ⟨bi, bb, bo, nbk, cbk, cn, h1, h2, h3, h4⟩ := h.h
  obtain ⟨nm, N, h5, h6, h7, h8⟩ := h'.h
  exact ⟨bi, bb, bo, nbk, cbk, nb, no, nn, cn, nm, N, h1, h2, h3, h4, hi, h5, h6, h7, h8⟩
/-- a merge of which at most one input has come -/
structure One (w : World) (cb co : Nat) (ip : Option Addr) (il ic : Nat) (f0 f1 : Fr) (k0 n0 k1 n1 : Int) : Prop where
  h : ∃ b o, ip = some ⟨b, o, none⟩ ∧ 2 ≤ il ∧ w.cell? ⟨b, o, none⟩ = some f0.a ∧ w.cell? ⟨b, o + 1, none⟩ = some f0.q ∧ w.cell? ⟨b, o + 2, none⟩ = some f1.a ∧ w.cell? ⟨b, o + 2 + 1, none⟩ = some f1.q
  i0 : Is w cb co f0 k0 n0
  i1 : Is w cb co f1 k1 n1
  one : k0 = 0 ∨ k1 = 0
theorem One.below {w w' : World} {cb co : Nat} {ip : Option Addr} {il ic : Nat} {f0 f1 : Fr} {k0 n0 k1 n1 : Int} (h : One w cb co ip il ic f0 f1 k0 n0 k1 n1) (hB : Below w.heap.size w w') : One w' cb co ip il ic f0 f1 k0 n0 k1 n1 := by
  obtain ⟨b, o, e, h0, h1, h2, h3, h4⟩ := h.h
  exact ⟨⟨b, o, e, h0, cell_below h1 hB (cell_lt h1), cell_below h2 hB (cell_lt h2), cell_below h3 hB (cell_lt h3), cell_below h4 hB (cell_lt h4)⟩, h.i0.below hB, h.i1.below hB, h.one⟩
/-- the nodes of a context's block, which may be none -/
structure BlkP (w : World) (xb xo cb co : Nat) (p : Option Addr) (nn : Nat) : Prop where
  h : ∃ bi bb bo nbk cbk cn : Nat, w.cell? ⟨cb, co, none⟩ = some (.int .i64 bi) ∧ w.cell? ⟨xb, xo, none⟩ = some (.slice (some ⟨bb, bo, none⟩) nbk cbk) ∧ bi < nbk ∧ w.cell? ⟨bb, bo + bi * 5 + 2, none⟩ = some (.slice p nn cn)
theorem BlkP.below {w w' : World} {xb xo cb co nn : Nat} {p : Option Addr} (h : BlkP w xb xo cb co p nn) (hB : Below w.heap.size w w') : BlkP w' xb xo cb co p nn := by
  obtain ⟨bi, bb, bo, nbk, cbk, cn, h1, h2, h3, h4⟩ := h.h
  exact ⟨bi, bb, bo, nbk, cbk, cn, cell_below h1 hB (cell_lt h1), cell_below h2 hB (cell_lt h2), h3, cell_below h4 hB (cell_lt h4)⟩
set_option maxRecDepth 100000 in
theorem merges_c {w : World} {xb xo cb0 co0 n cap : Nat} (cs : Nat → Nat × Nat) (np : Nat → Option Addr) (nn : Nat → Nat)
    (h0 : w.cell? ⟨xb, xo + 2, none⟩ = some (.slice (some ⟨cb0, co0, none⟩) n cap)) (hc : ∀ i, i < n → w.cell? ⟨cb0, co0 + i, none⟩ = some (.pointer (some ⟨(cs i).1, (cs i).2, none⟩)))
    (hb : ∀ i, i < n → BlkP w xb xo (cs i).1 (cs i).2 (np i) (nn i)) (hn : n ≤ 400) (hnf : ∀ i, nn i ≤ 400)
    (he : ∀ i, i < n → ∀ m, m < nn i → ∃ nb no op ip il ic, np i = some ⟨nb, no, none⟩ ∧ ElV w nb no m op ip il ic ∧ (op = 6 → ∃ f0 f1 k0 n0 k1 n1, One w (cs i).1 (cs i).2 ip il ic f0 f1 k0 n0 k1 n1)) :
    Calls Tryz.prog 151 #[.pointer (some ⟨xb, xo, none⟩)] w fun e w' => e = .returned (.int .i64 0) ∧ Below w.heap.size w w' := by
  have hc' : Hid _ := hc
  have hb' : Hid _ := hb
  have he' : Hid _ := he
  have hnf' : Hid _ := hnf
  clear hc hb he hnf
  go_enter Tryz.func151, Tryz.ntmps151
  go_wp2
  go_loopw [12] (fun i wr => ∃ k : Nat, k ≤ n ∧ i = .int .i64 k ∧ Below w.heap.size w wr) (fun i _ => n - (intOf i).toNat)
  case atStart => exact ⟨0, Nat.zero_le _, rfl, Below.refl _ _⟩
  case round =>
    obtain ⟨k, hk, rfl, hB⟩ := hrel
    by_cases hkn : k < n
    · have g0 := cell_below (hc'.out k hkn) hB (cell_lt (hc'.out k hkn))
      have gx := cell_below h0 hB (cell_lt h0)
      have he2 : Hid (∀ m, m < nn k → ∃ nb no op ip il ic, np k = some ⟨nb, no, none⟩ ∧ ElV w nb no m op ip il ic ∧ (op = 6 → ∃ f0 f1 k0 n0 k1 n1, One w (cs k).1 (cs k).2 ip il ic f0 f1 k0 n0 k1 n1)) := he'.out k hkn
      have hm4 : nn k ≤ 400 := hnf'.out k
      obtain ⟨bi, bb, bo, nbk, cbk, cn, h1, h2, h3, h4⟩ := ((hb'.out k hkn).below hB).h
      generalize (cs k).1 = cb at *
      generalize (cs k).2 = co at *
      generalize np k = np at *
      generalize nn k = nn at *
      go_wp2
      go_quiet (fail)
      go_wp2
      have hB0 : Below w.heap.size w (wr.drewN nq) := below_drewN hB
      generalize wr.drewN nq = w1 at *
      clear g0 gx h1 h2 h3 h4 hB
      go_loopw [29] (fun i wr => ∃ m : Nat, m ≤ nn ∧ i = .int .i64 m ∧ Below w.heap.size w wr) (fun i _ => nn - (intOf i).toNat)
      case atStart => exact ⟨0, Nat.zero_le _, rfl, hB0⟩
      case round =>
        obtain ⟨m, hm, rfl, hB⟩ := hrel
        by_cases hmn : m < nn
        · obtain ⟨nb, no, op, ip, il, ic, rfl, hel, hsix⟩ := he2.out m hmn
          obtain ⟨nm, N, e0, e1, e2, e3⟩ := (hel.below hB).h
          by_cases h6 : op = 6
          · subst h6
            obtain ⟨f0, f1, k0, n0, k1, n1, ho⟩ := hsix rfl
            have ho := ho.below hB
            have hs := hB.size
            have hBa : Below w.heap.size w (wr.alloc (.cells #[.int .u8 6, .string nm, .int .i64 N, .slice ip il ic] 225)) := hB.alloc hB.size _
            obtain ⟨⟨b, o, rfl, hl, q0, q1, q2, q3⟩, i0, i1, hone⟩ := ho.below ((Below.refl _ _).alloc (Nat.le_refl _) (.cells #[.int .u8 6, .string nm, .int .i64 N, .slice ip il ic] 225))
            have hv0 := value_c f0 cb co k0 n0 _ i0
            have ht := fun k n w => isThere_c k n w
            have hv1 := fun w2 h => value_c f1 cb co k1 n1 w2 (Is.below i1 h)
            clear i0 i1 ho hel
            have hone' : Hid (k0 = 0 ∨ k1 = 0) := hone
            clear hone hsix
            generalize f0.a = fa0 at *
            generalize f0.q = fq0 at *
            generalize f1.a = fa1 at *
            generalize f1.q = fq1 at *
            by_cases hk0 : k0 = 0
            · go_wp2_with (first | (go_at_call 105; refine hv0.mono ?_; rintro e w2 ⟨rfl, hB2⟩) | (go_at_call 106; refine (ht _ _ _).mono ?_; rintro e w3 ⟨rfl, hB3⟩))
              have hb3 := hBa.trans ((hB2.trans (hB3.mono hB2.size)).mono hBa.size)
              refine ⟨⟨m + 1, by omega, by go_num, hb3⟩, by simp [intOf]; omega⟩
            · have hk1 : k1 = 0 := hone'.out.resolve_left hk0
              subst hk1
              have v3 : (wr.alloc (.cells #[.int .u8 6, .string nm, .int .i64 N, .slice (some ⟨b, o, none⟩) il ic] 225)).cell? ⟨wr.heap.size, 3, none⟩ = some (.slice (some ⟨b, o, none⟩) il ic) := by rw [cells_new]; rfl
              go_wp2_with (first
                | (go_at_call 105; have hb4 := hb3; refine (hv1 _ hb3).mono ?_; rintro e w4 ⟨rfl, hB4⟩)
                | (go_at_call 106; have hb5 := hB4; refine (ht _ _ _).mono ?_; rintro e w5 ⟨rfl, hB5⟩)
                | (go_at_call 105; refine hv0.mono ?_; rintro e w2 ⟨rfl, hB2⟩)
                | (go_at_call 106; refine (ht _ _ _).mono ?_; rintro e w3 ⟨rfl, hB3⟩
                   have hb3 := hB2.trans (hB3.mono hB2.size)
                   have z3 := cell_below v3 hb3 (cell_lt v3)
                   have z4 := cell_below q2 hb3 (cell_lt q2)
                   have z5 := cell_below q3 hb3 (cell_lt q3)))
              have hb6 := hBa.trans ((hb3.trans ((hB4.trans (hB5.mono hB4.size)).mono hb3.size)).mono hBa.size)
              refine ⟨⟨m + 1, by omega, by go_num, hb6⟩, by simp [intOf]; omega⟩
          · have hB1 := hB.alloc hB.size (.cells #[.int .u8 op, .string nm, .int .i64 N, .slice ip il ic] 225)
            go_wp2
            go_roundw
            case rel => exact ⟨m + 1, by omega, by go_num, hB1⟩
            case measure => simp [intOf]; omega
        · obtain rfl : m = nn := by omega
          go_wp2
          refine ⟨⟨k + 1, by omega, by go_num, hB⟩, by simp [intOf]; omega⟩
    · obtain rfl : k = n := by omega
      go_wp2
      go_ret
      exact ⟨rfl, hB⟩
end Cl
end Go.Proofs
namespace Go.Proofs
open Go.RowKit
namespace Cl
theorem there_c {k n : Int} (hk : k ≠ 0) (w : World) : Calls Tryz.prog 106 #[.agg #[.int .u8 k, .int .i64 n]] w fun e w' => e = .returned (.bool true) ∧ Below w.heap.size w w' :=
  (isThere_c k n w).mono fun e w' h => ⟨by rw [h.1]; simp [hk], h.2⟩
theorem give_hole {w : World} {cb co q : Nat} {n : Int} : Calls Tryz.prog 287 #[.pointer (some ⟨cb, co, none⟩), .int .i64 q, .agg #[.int .u8 0, .int .i64 n]] w fun e w' => e = .returned (.bool false) ∧ Below w.heap.size w w' := by
  have ht := fun k n w => isThere_c k n w
  have hB : Below w.heap.size w (w.alloc (.cells #[.int .u8 0, .int .i64 n] 57)) := (Below.refl _ _).alloc (Nat.le_refl _) _
  go_enter Tryz.func287, Tryz.ntmps287
  go_wp2_with (go_at_call 106; refine (ht _ _ _).mono ?_; rintro e w3 ⟨rfl, hB3⟩)
  go_ret
  exact ⟨rfl, hB.trans (hB3.mono hB.size)⟩
theorem give_there {w : World} {cb co q : Nat} {k n k2 n2 : Int} (h : Is w cb co (.par q) k2 n2) (h2 : k2 ≠ 0) (hk : k ≠ 0) : Calls Tryz.prog 287 #[.pointer (some ⟨cb, co, none⟩), .int .i64 q, .agg #[.int .u8 k, .int .i64 n]] w fun e w' => e = .returned (.bool false) ∧ Below w.heap.size w w' := by
  have ht1 := fun w => there_c (k := k) (n := n) hk w
  have ht2 := fun w => there_c (k := k2) (n := n2) h2 w
  have hB : Below w.heap.size w (w.alloc (.cells #[.int .u8 k, .int .i64 n] 57)) := (Below.refl _ _).alloc (Nat.le_refl _) _
  obtain ⟨b, o, m, c, h1, h3, h4⟩ := h.below hB
  have g0 := h4.c0
  have g1 := h4.c1
  go_enter Tryz.func287, Tryz.ntmps287
  go_wp2_with (first
   | (go_at_call 106; have hb4 := hB3; refine (ht2 _).mono ?_; rintro e w4 ⟨rfl, hB4⟩)
   | (go_at_call 106; refine (ht1 _).mono ?_; rintro e w3 ⟨rfl, hB3⟩; have z1 := cell_below h1 hB3 (cell_lt h1); have z2 := cell_below g0 hB3 (cell_lt g0); have z3 := cell_below g1 hB3 (cell_lt g1)))
  go_ret
  exact ⟨rfl, hB.trans ((hB3.trans (hB4.mono hB3.size)).mono hB.size)⟩
/-- nothing is given there: there is nothing, or the parameter has a value -/
def Still (w : World) (cb co q : Nat) (k : Int) : Prop := k = 0 ∨ ∃ k2 n2, Is w cb co (.par q) k2 n2 ∧ k2 ≠ 0
theorem Still.below {w w' : World} {cb co q : Nat} {k : Int} (h : Still w cb co q k) (hB : Below w.heap.size w w') : Still w' cb co q k := by
  rcases h with h | ⟨k2, n2, h, h2⟩
  · exact .inl h
  · exact .inr ⟨k2, n2, h.below hB, h2⟩
theorem give_c {w : World} {cb co q : Nat} {k n : Int} (h : Still w cb co q k) : Calls Tryz.prog 287 #[.pointer (some ⟨cb, co, none⟩), .int .i64 q, .agg #[.int .u8 k, .int .i64 n]] w fun e w' => e = .returned (.bool false) ∧ Below w.heap.size w w' := by
  by_cases hk : k = 0
  · subst hk; exact give_hole
  · obtain ⟨k2, n2, h, h2⟩ := h.resolve_left hk
    exact give_there h h2 hk
end Cl
end Go.Proofs
namespace Go.Proofs
open Go.RowKit
namespace Cl
theorem args_turn {w : World} {xb xo cb co : Nat} {t : Int} (h : w.cell? ⟨cb, co + 3, none⟩ = some (.int .i64 t)) (ht : 0 < t) :
    Calls Tryz.prog 219 #[.pointer (some ⟨xb, xo, none⟩), .pointer (some ⟨cb, co, none⟩)] w fun e w' => e = .returned (.bool false) ∧ Below w.heap.size w w' := by
  go_enter Tryz.func219, Tryz.ntmps219
  go_wp2
  go_ret
  exact ⟨rfl, Below.refl _ _⟩
theorem Fr.a_int (f : Fr) : ∃ z, f.a = .int .i64 z := by cases f <;> exact ⟨_, rfl⟩
theorem Fr.q_int (f : Fr) : ∃ z, f.q = .int .i64 z := by cases f <;> exact ⟨_, rfl⟩
set_option maxRecDepth 100000 in
theorem args_c {w : World} {xb xo cb co ab ao pa nd cb0 co0 n cap nb no nn il ic : Nat} {t op : Int} {ip : Option Addr} {fs : List Fr} {ks ns : Nat → Int}
    (h3 : w.cell? ⟨cb, co + 3, none⟩ = some (.int .i64 t)) (ht : ¬ 0 < t) (h1 : w.cell? ⟨cb, co + 1, none⟩ = some (.int .i64 pa)) (h2 : w.cell? ⟨cb, co + 2, none⟩ = some (.int .i64 nd))
    (h0 : w.cell? ⟨xb, xo + 2, none⟩ = some (.slice (some ⟨cb0, co0, none⟩) n cap)) (hp : pa < n) (ha : w.cell? ⟨cb0, co0 + pa, none⟩ = some (.pointer (some ⟨ab, ao, none⟩)))
    (hb : BlkV w xb xo ab ao nb no nn) (hnd : nd < nn) (hel : ElV w nb no nd op ip il ic) (hF : HasF w (.slice ip il ic) fs) (hl : fs.length ≤ 9223372036854775807)
    (hi : ∀ i, i < fs.length → Is w ab ao (fs.getD i (.par 0)) (ks i) (ns i) ∧ Still w cb co i (ks i)) :
    Calls Tryz.prog 219 #[.pointer (some ⟨xb, xo, none⟩), .pointer (some ⟨cb, co, none⟩)] w fun e w' => e = .returned (.bool false) ∧ Below w.heap.size w w' := by
  obtain ⟨bi, bb, bo, nbk, cbk, cn, b1, b2, b3, b4⟩ := hb.h
  obtain ⟨nm, N, e0, e1, e2, e3⟩ := hel.h
  obtain ⟨p, c, hq, hF⟩ := hF
  cases hq
  have hi' : Hid _ := hi
  have hF' : Hid _ := hF
  clear hi hF hb hel
  generalize hfl : fs.length = fl at *
  go_enter Tryz.func219, Tryz.ntmps219
  go_wp2
  go_quiet (fail)
  go_wp2
  go_quiet (fail)
  go_wp2
  have hB0 : ∀ a b, Below w.heap.size w ((w.drewN a).drewN b) := fun _ _ => below_drewN (below_drewN (Below.refl _ _))
  clear h0 h1 h2 h3 b1 b2 b3 b4 e0 e1 e2 e3 ha
  go_loopw [4, 46] (fun ch i wr => ∃ k : Nat, k ≤ fl ∧ ch = .bool false ∧ i = .int .i64 k ∧ Below w.heap.size w wr) (fun _ i _ => fl - (intOf i).toNat)
  case atStart => exact ⟨0, Nat.zero_le _, rfl, rfl, hB0 _ _⟩
  case round =>
    obtain ⟨k, hk, rfl, rfl, hB⟩ := hrel
    by_cases hkn : k < fl
    · obtain ⟨b, o, rfl, hq⟩ := hF'.out (fun e => by rw [e] at hfl; simp at hfl; omega)
      obtain ⟨q0, q1⟩ := hq k hkn
      have q0 := cell_below q0 hB (cell_lt q0)
      have q1 := cell_below q1 hB (cell_lt q1)
      obtain ⟨hv, hs⟩ := hi'.out k hkn
      have hBa := hB.alloc hB.size (.cells #[(fs.getD k (.par 0)).a, (fs.getD k (.par 0)).q] 222)
      have hv := value_c (fs.getD k (.par 0)) ab ao (ks k) (ns k) _ (hv.below hBa)
      have hg := fun w2 (h : Below w.heap.size w w2) => give_c (n := ns k) (hs.below h)
      clear hq hs
      obtain ⟨fa, ea⟩ := Fr.a_int (fs.getD k (.par 0))
      obtain ⟨fq, eq⟩ := Fr.q_int (fs.getD k (.par 0))
      rw [ea, eq] at hv hBa
      rw [ea] at q0
      rw [eq] at q1
      clear ea eq
      generalize ks k = kk at *
      generalize ns k = nk at *
      go_wp2_with (first
        | (go_at_call 105; refine hv.mono ?_; rintro e w2 ⟨rfl, hB2⟩; have hb2 := hBa.trans (hB2.mono hBa.size))
        | (go_at_call 287; refine (hg _ hb2).mono ?_; rintro e w3 ⟨rfl, hB3⟩))
      go_roundw
      case rel => exact ⟨k + 1, by omega, rfl, by go_num, hb2.trans (hB3.mono hb2.size)⟩
      case measure => simp [intOf]; omega
    · go_wp2
      go_ret
      exact ⟨rfl, hB⟩
end Cl
end Go.Proofs
namespace Go.Proofs
open Go.RowKit
namespace Cl
/-- an output of a node was given by this turn, by an exit or not -/
def GivenV (w : World) (ab ao nd q : Nat) (t : Int) (nx : Bool) : Prop := ∃ b o m c b2 o2 m2 c2 : Nat, w.cell? ⟨ab, ao + 8, none⟩ = some (.slice (some ⟨b, o, none⟩) m c) ∧ nd < m ∧ w.cell? ⟨b, o + nd, none⟩ = some (.slice (some ⟨b2, o2, none⟩) m2 c2) ∧ q < m2 ∧
  w.cell? ⟨b2, o2 + q * 3, none⟩ = some (.int .i64 t) ∧ w.cell? ⟨b2, o2 + q * 3 + 1, none⟩ = some (.bool nx) ∧ w.cell? ⟨b2, o2 + q * 3 + 2, none⟩ = some (.bool true)
theorem GivenV.below {w w' : World} {ab ao nd q : Nat} {t : Int} {nx : Bool} (h : GivenV w ab ao nd q t nx) (hB : Below w.heap.size w w') : GivenV w' ab ao nd q t nx := by
  obtain ⟨b, o, m, c, b2, o2, m2, c2, h1, h2, h3, h4, h5, h6, h7⟩ := h
  exact ⟨b, o, m, c, b2, o2, m2, c2, cell_below h1 hB (cell_lt h1), h2, cell_below h3 hB (cell_lt h3), h4, cell_below h5 hB (cell_lt h5), cell_below h6 hB (cell_lt h6), cell_below h7 hB (cell_lt h7)⟩
/-- who a context was begun by -/
structure AboveV (w : World) (xb xo cb co ab ao nd : Nat) : Prop where
  h : ∃ pa b o n c : Nat, w.cell? ⟨cb, co + 1, none⟩ = some (.int .i64 pa) ∧ w.cell? ⟨cb, co + 2, none⟩ = some (.int .i64 nd) ∧ w.cell? ⟨xb, xo + 2, none⟩ = some (.slice (some ⟨b, o, none⟩) n c) ∧ pa < n ∧ w.cell? ⟨b, o + pa, none⟩ = some (.pointer (some ⟨ab, ao, none⟩))
theorem AboveV.below {w w' : World} {xb xo cb co ab ao nd : Nat} (h : AboveV w xb xo cb co ab ao nd) (hB : Below w.heap.size w w') : AboveV w' xb xo cb co ab ao nd := by
  obtain ⟨pa, b, o, n, c, h1, h2, h3, h4, h5⟩ := h.h
  exact ⟨pa, b, o, n, c, cell_below h1 hB (cell_lt h1), cell_below h2 hB (cell_lt h2), cell_below h3 hB (cell_lt h3), h4, cell_below h5 hB (cell_lt h5)⟩
set_option maxRecDepth 100000 in
theorem back_c {w : World} {xb xo cb co ab ao nd q : Nat} {t k n : Int} (h : AboveV w xb xo cb co ab ao nd) (hg : GivenV w ab ao nd q t false) :
    Calls Tryz.prog 288 #[.pointer (some ⟨xb, xo, none⟩), .pointer (some ⟨cb, co, none⟩), .int .i64 q, .agg #[.int .u8 k, .int .i64 n], .agg #[.int .i64 t, .bool false, .bool true]] w fun e w' => e = .returned (.tuple #[.bool false, .int .i64 0]) ∧ Below w.heap.size w w' := by
  have hB : Below w.heap.size w ((w.alloc (.cells #[.int .u8 k, .int .i64 n] 57)).alloc (.cells #[.int .i64 t, .bool false, .bool true] 435)) := ((Below.refl _ _).alloc (Nat.le_refl _) _).alloc (by rw [size_new]; omega) _
  obtain ⟨pa, cb0, co0, nc, cc, h1, h2, h3, h4, h5⟩ := (h.below hB).h
  obtain ⟨b, o, m, c, b2, o2, m2, c2, g1, g2, g3, g4, g5, g6, g7⟩ := hg.below hB
  have e1 : (w.alloc (.cells #[.int .u8 k, .int .i64 n] 57)).heap.size = w.heap.size + 1 := size_new _ _
  have y0 : ((w.alloc (.cells #[.int .u8 k, .int .i64 n] 57)).alloc (.cells #[.int .i64 t, .bool false, .bool true] 435)).cell? ⟨w.heap.size + 1, 0, none⟩ = some (.int .i64 t) := by rw [← e1, cells_new]; rfl
  have y1 : ((w.alloc (.cells #[.int .u8 k, .int .i64 n] 57)).alloc (.cells #[.int .i64 t, .bool false, .bool true] 435)).cell? ⟨w.heap.size + 1, 1, none⟩ = some (.bool false) := by rw [← e1, cells_new]; rfl
  have y2 : ((w.alloc (.cells #[.int .u8 k, .int .i64 n] 57)).alloc (.cells #[.int .i64 t, .bool false, .bool true] 435)).cell? ⟨w.heap.size + 1, 2, none⟩ = some (.bool true) := by rw [← e1, cells_new]; rfl
  go_enter Tryz.func288, Tryz.ntmps288
  go_wp2
  go_quiet (fail)
  go_wp2
  go_quiet (fail)
  go_wp2
  go_quiet (fail)
  go_wp2
  go_ret2
  exact ⟨rfl, by first | exact below_drewN hB | exact below_drewN (below_drewN hB) | exact below_drewN (below_drewN (below_drewN hB))⟩
end Cl
end Go.Proofs
namespace Go.Proofs
open Go.RowKit
namespace Cl
/-- a slice of places of a context's block: its nexts (3), its exits (4) -/
structure BlkF (w : World) (xb xo cb co f : Nat) (p : Option Addr) (n c : Nat) : Prop where
  h : ∃ bi bb bo nbk cbk : Nat, w.cell? ⟨cb, co, none⟩ = some (.int .i64 bi) ∧ w.cell? ⟨xb, xo, none⟩ = some (.slice (some ⟨bb, bo, none⟩) nbk cbk) ∧ bi < nbk ∧ w.cell? ⟨bb, bo + bi * 5 + f, none⟩ = some (.slice p n c)
theorem BlkF.below {w w' : World} {xb xo cb co f : Nat} {p : Option Addr} {n c : Nat} (h : BlkF w xb xo cb co f p n c) (hB : Below w.heap.size w w') : BlkF w' xb xo cb co f p n c := by
  obtain ⟨bi, bb, bo, nbk, cbk, h1, h2, h3, h4⟩ := h.h
  exact ⟨bi, bb, bo, nbk, cbk, cell_below h1 hB (cell_lt h1), cell_below h2 hB (cell_lt h2), h3, cell_below h4 hB (cell_lt h4)⟩
set_option maxRecDepth 100000 in
theorem exits_c {w : World} {xb xo cb co ab ao nd il ic : Nat} {t : Int} {ip : Option Addr} {fs : List Fr} {ks ns : Nat → Int}
    (h3 : w.cell? ⟨cb, co + 3, none⟩ = some (.int .i64 t)) (ha : AboveV w xb xo cb co ab ao nd) (hb : BlkF w xb xo cb co 4 ip il ic) (hF : HasF w (.slice ip il ic) fs) (hl : fs.length ≤ 9223372036854775807)
    (hi : ∀ i, i < fs.length → Is w cb co (fs.getD i (.par 0)) (ks i) (ns i) ∧ (ks i = 0 ∨ GivenV w ab ao nd i t false)) :
    Calls Tryz.prog 220 #[.pointer (some ⟨xb, xo, none⟩), .pointer (some ⟨cb, co, none⟩)] w fun e w' => e = .returned (.tuple #[.bool false, .int .i64 0]) ∧ Below w.heap.size w w' := by
  obtain ⟨bi, bb, bo, nbk, cbk, b1, b2, b3, b4⟩ := hb.h
  obtain ⟨p, c, hq, hF⟩ := hF
  cases hq
  have hi' : Hid _ := hi
  have hF' : Hid _ := hF
  have h3' : Hid _ := h3
  clear hi hF hb h3
  generalize hfl : fs.length = fl at *
  go_enter Tryz.func220, Tryz.ntmps220
  go_wp2
  go_quiet (fail)
  go_wp2
  have hB0 : ∀ a, Below w.heap.size w (w.drewN a) := fun _ => below_drewN (Below.refl _ _)
  clear b1 b2 b3 b4
  go_loopw [4, 24] (fun ch i wr => ∃ k : Nat, k ≤ fl ∧ ch = .bool false ∧ i = .int .i64 k ∧ Below w.heap.size w wr) (fun _ i _ => fl - (intOf i).toNat)
  case atStart => exact ⟨0, Nat.zero_le _, rfl, rfl, hB0 _⟩
  case round =>
    obtain ⟨k, hk, rfl, rfl, hB⟩ := hrel
    by_cases hkn : k < fl
    · obtain ⟨b, o, rfl, hq⟩ := hF'.out (fun e => by rw [e] at hfl; simp at hfl; omega)
      obtain ⟨q0, q1⟩ := hq k hkn
      have q0 := cell_below q0 hB (cell_lt q0)
      have q1 := cell_below q1 hB (cell_lt q1)
      obtain ⟨hv, hs⟩ := hi'.out k hkn
      have hBa := hB.alloc hB.size (.cells #[(fs.getD k (.par 0)).a, (fs.getD k (.par 0)).q] 222)
      have hv := value_c (fs.getD k (.par 0)) cb co (ks k) (ns k) _ (hv.below hBa)
      clear hq
      obtain ⟨fa, ea⟩ := Fr.a_int (fs.getD k (.par 0))
      obtain ⟨fq, eq⟩ := Fr.q_int (fs.getD k (.par 0))
      rw [ea, eq] at hv hBa
      rw [ea] at q0
      rw [eq] at q1
      clear ea eq
      have ht0 := fun n w => isThere_c 0 n w
      by_cases hk0 : ks k = 0
      · rw [hk0] at hv
        go_wp2_with (first
          | (go_at_call 105; refine hv.mono ?_; rintro e w2 ⟨rfl, hB2⟩; have hb2 := hBa.trans (hB2.mono hBa.size); have hb3 := hb2.alloc hb2.size (.cells #[.int .u8 0, .int .i64 (ns k)] 57))
          | (go_at_call 106; refine (ht0 _ _).mono ?_; rintro e w3 ⟨rfl, hB3⟩))
        go_roundw
        case rel => exact ⟨k + 1, by omega, rfl, by go_num, hb3.trans (hB3.mono hb3.size)⟩
        case measure => simp [intOf]; omega
      · have hg := hs.resolve_left hk0
        have ht1 := fun n w => there_c (n := n) hk0 w
        have hbk := fun n w2 (h : Below w.heap.size w w2) => back_c (k := ks k) (n := n) (ha.below h) (hg.below h)
        generalize ks k = kk at *
        generalize ns k = nk at *
        go_wp2_with (first
          | (go_at_call 105; refine hv.mono ?_; rintro e w2 ⟨rfl, hB2⟩; have hb2 := hBa.trans (hB2.mono hBa.size); have hb3 := hb2.alloc hb2.size (.cells #[.int .u8 kk, .int .i64 nk] 57)
             have v0 : (w2.alloc (.cells #[.int .u8 kk, .int .i64 nk] 57)).cell? ⟨w2.heap.size, 0, none⟩ = some (.int .u8 kk) := by rw [cells_new]; rfl
             have v1 : (w2.alloc (.cells #[.int .u8 kk, .int .i64 nk] 57)).cell? ⟨w2.heap.size, 1, none⟩ = some (.int .i64 nk) := by rw [cells_new]; rfl)
          | (go_at_call 106; refine (ht1 _ _).mono ?_; rintro e w4 ⟨rfl, hB4⟩
             have hb4 := hb3.trans (hB4.mono hb3.size)
             have v0 := cell_below v0 hB4 (cell_lt v0)
             have v1 := cell_below v1 hB4 (cell_lt v1)
             have tt := cell_below h3'.out hb4 (cell_lt h3'.out)))
        have l0 := cell_lt v0
        have l1 := cell_lt v1
        have lt := cell_lt tt
        go_region_held3 (fun w' => w'.cell? ⟨w2.heap.size, 0, none⟩ = some (.int .u8 kk) ∧ w'.cell? ⟨w2.heap.size, 1, none⟩ = some (.int .i64 nk) ∧ w'.cell? ⟨cb, co + 3, none⟩ = some (.int .i64 t))
          (first | exact ⟨v0, v1, tt⟩ | exact ⟨cell_belowD v0 hB5 l0, cell_belowD v1 hB5 l1, cell_belowD tt hB5 lt⟩)
          ((go_at_call 288; refine (hbk nk _ (by exact below_drewN (n := 1) hb4)).mono ?_; rintro e w5 ⟨rfl, hB5⟩))
        go_wp2
        go_roundw
        case rel => exact ⟨k + 1, by omega, rfl, by go_num, (below_drewN (n := 1) hb4).trans (hB5.mono hb4.size)⟩
        case measure => simp [intOf]; omega
    · go_wp2
      go_ret2
      exact ⟨rfl, hB⟩
end Cl
end Go.Proofs
namespace Go.Proofs
open Go.RowKit
namespace Cl
/-- a context's block, whole -/
structure BlkW (w : World) (xb xo cb co : Nat) (p3 : Option Addr) (n3 c3 : Nat) : Prop where
  h : ∃ (bi bb bo nbk cbk : Nat) (nm : ByteArray) (pr : Int) (p2 : Option Addr) (n2 c2 : Nat) (p4 : Option Addr) (n4 c4 : Nat), w.cell? ⟨cb, co, none⟩ = some (.int .i64 bi) ∧ w.cell? ⟨xb, xo, none⟩ = some (.slice (some ⟨bb, bo, none⟩) nbk cbk) ∧ bi < nbk ∧
    w.cell? ⟨bb, bo + bi * 5, none⟩ = some (.string nm) ∧ w.cell? ⟨bb, bo + bi * 5 + 1, none⟩ = some (.int .i64 pr) ∧ w.cell? ⟨bb, bo + bi * 5 + 2, none⟩ = some (.slice p2 n2 c2) ∧ w.cell? ⟨bb, bo + bi * 5 + 3, none⟩ = some (.slice p3 n3 c3) ∧ w.cell? ⟨bb, bo + bi * 5 + 4, none⟩ = some (.slice p4 n4 c4)
theorem isBad_c (k n : Int) (w : World) : Calls Tryz.prog 225 #[.agg #[.int .u8 k, .int .i64 n]] w fun e w' => e = .returned (.bool (k == 5)) ∧ Below w.heap.size w w' := by
  have hB : Below w.heap.size w (w.alloc (.cells #[.int .u8 k, .int .i64 n] 57)) := (Below.refl _ _).alloc (Nat.le_refl _) _
  go_enter Tryz.func225, Tryz.ntmps225
  go_wp2
  go_ret
  exact ⟨rfl, hB⟩
set_option maxRecDepth 100000 in
theorem nexts_hole {w : World} {xb xo cb co il ic : Nat} {ip : Option Addr} {fs : List Fr} {n0 : Int}
    (hb : BlkW w xb xo cb co ip il ic) (hF : HasF w (.slice ip il ic) fs) (h0 : fs ≠ []) (hi : Is w cb co (fs.getD 0 (.par 0)) 0 n0) :
    Calls Tryz.prog 221 #[.pointer (some ⟨xb, xo, none⟩), .pointer (some ⟨cb, co, none⟩)] w fun e w' => e = .returned (.tuple #[.bool false, .int .i64 0]) ∧ Below w.heap.size w w' := by
  obtain ⟨bi, bb, bo, nbk, cbk, nm, pr, p2, n2, c2, p4, n4, c4, b1, b2, b3, b4, b5, b6, b7, b8⟩ := hb.h
  obtain ⟨p, c, hq, hF⟩ := hF
  cases hq
  have hlen : 0 < fs.length := List.length_pos_iff.2 h0
  obtain ⟨b, o, rfl, hq⟩ := hF h0
  obtain ⟨q0, q1⟩ := hq 0 hlen
  simp only [Nat.zero_mul, Nat.add_zero] at q0 q1
  clear hq hF hb
  generalize fs.length = fl at *
  go_enter Tryz.func221, Tryz.ntmps221
  go_wp2
  go_region_held3 (fun w' => w'.cell? ⟨cb, co, none⟩ = some (.int .i64 bi) ∧ w'.cell? ⟨xb, xo, none⟩ = some (.slice (some ⟨bb, bo, none⟩) nbk cbk) ∧ w'.cell? ⟨bb, bo + bi * 5, none⟩ = some (.string nm) ∧ w'.cell? ⟨bb, bo + bi * 5 + 1, none⟩ = some (.int .i64 pr) ∧
    w'.cell? ⟨bb, bo + bi * 5 + 2, none⟩ = some (.slice p2 n2 c2) ∧ w'.cell? ⟨bb, bo + bi * 5 + 3, none⟩ = some (.slice (some ⟨b, o, none⟩) fl ic) ∧ w'.cell? ⟨bb, bo + bi * 5 + 4, none⟩ = some (.slice p4 n4 c4))
    (first | exact ⟨b1, b2, b4, b5, b6, b7, b8⟩ | exact ⟨cell_alloc b1 _, cell_alloc b2 _, cell_alloc b4 _, cell_alloc b5 _, cell_alloc b6 _, cell_alloc b7 _, cell_alloc b8 _⟩) (fail)
  have hB : Below w.heap.size w (w.alloc (.cells #[.string nm, .int .i64 pr, .slice p2 n2 c2, .slice (some ⟨b, o, none⟩) fl ic, .slice p4 n4 c4] 144)).drew := ((Below.refl _ _).alloc (Nat.le_refl _) _).drew
  have y3 : (w.alloc (.cells #[.string nm, .int .i64 pr, .slice p2 n2 c2, .slice (some ⟨b, o, none⟩) fl ic, .slice p4 n4 c4] 144)).drew.cell? ⟨w.heap.size, 3, none⟩ = some (.slice (some ⟨b, o, none⟩) fl ic) := by rw [World.cell?_drew, cells_new]; rfl
  rename_i hS
  clear hS b1 b2 b4 b5 b6 b7 b8
  generalize (w.alloc (.cells #[.string nm, .int .i64 pr, .slice p2 n2 c2, .slice (some ⟨b, o, none⟩) fl ic, .slice p4 n4 c4] 144)).drew = W at *
  have hv := value_c _ cb co 0 n0 _ (hi.below hB)
  have q0 := cell_below q0 hB (cell_lt q0)
  have q1 := cell_below q1 hB (cell_lt q1)
  clear hi
  generalize (fs.getD 0 (.par 0)).a = fa at *
  generalize (fs.getD 0 (.par 0)).q = fq at *
  have ht0 := fun n w => isThere_c 0 n w
  go_wp2_with (first
    | (go_at_call 105; refine hv.mono ?_; rintro e w2 ⟨rfl, hB2⟩; have hb2 := hB.trans (hB2.mono hB.size); have hb3 := hb2.alloc hb2.size (.cells #[.int .u8 0, .int .i64 n0] 57))
    | (go_at_call 106; refine (ht0 _ _).mono ?_; rintro e w3 ⟨rfl, hB3⟩))
  go_ret2
  exact ⟨rfl, hb3.trans (hB3.mono hb3.size)⟩
end Cl
end Go.Proofs
namespace Go.Proofs
open Go.RowKit
namespace Cl
set_option maxRecDepth 100000 in
theorem hand_root {w : World} {xb xo cb co cb0 co0 n cap i : Nat} {il ic : Nat} {ip : Option Addr}
    (h0 : w.cell? ⟨xb, xo + 2, none⟩ = some (.slice (some ⟨cb0, co0, none⟩) n cap)) (hi : i < n) (hc : w.cell? ⟨cb0, co0 + i, none⟩ = some (.pointer (some ⟨cb, co, none⟩))) (h1 : w.cell? ⟨cb, co + 1, none⟩ = some (.int .i64 (-1))) (hb : BlkF w xb xo cb co 3 ip il ic) :
    Calls Tryz.prog 150 #[.pointer (some ⟨xb, xo, none⟩), .int .i64 i] w fun e w' => e = .returned (.tuple #[.bool false, .int .i64 0]) ∧ Below w.heap.size w w' := by
  obtain ⟨bi, bb, bo, nbk, cbk, b1, b2, b3, b4⟩ := hb.h
  clear hb
  by_cases hil : il = 0
  · subst hil
    go_enter Tryz.func150, Tryz.ntmps150
    go_wp2
    go_quiet (fail)
    go_wp2
    go_ret2
    exact ⟨rfl, below_drewN (Below.refl _ _)⟩
  · go_enter Tryz.func150, Tryz.ntmps150
    go_wp2
    go_quiet (fail)
    go_wp2
    go_ret2
    exact ⟨rfl, below_drewN (Below.refl _ _)⟩
set_option maxRecDepth 100000 in
theorem hand_plain {w : World} {xb xo cb co cb0 co0 n cap i pa : Nat} {ic : Nat} {ip : Option Addr}
    (h0 : w.cell? ⟨xb, xo + 2, none⟩ = some (.slice (some ⟨cb0, co0, none⟩) n cap)) (hi : i < n) (hc : w.cell? ⟨cb0, co0 + i, none⟩ = some (.pointer (some ⟨cb, co, none⟩))) (h1 : w.cell? ⟨cb, co + 1, none⟩ = some (.int .i64 pa)) (hb : BlkF w xb xo cb co 3 ip 0 ic)
    (hA : ∀ w', Below w.heap.size w w' → Calls Tryz.prog 219 #[.pointer (some ⟨xb, xo, none⟩), .pointer (some ⟨cb, co, none⟩)] w' fun e w'' => e = .returned (.bool false) ∧ Below w'.heap.size w' w'')
    (hE : ∀ w', Below w.heap.size w w' → Calls Tryz.prog 220 #[.pointer (some ⟨xb, xo, none⟩), .pointer (some ⟨cb, co, none⟩)] w' fun e w'' => e = .returned (.tuple #[.bool false, .int .i64 0]) ∧ Below w'.heap.size w' w'') :
    Calls Tryz.prog 150 #[.pointer (some ⟨xb, xo, none⟩), .int .i64 i] w fun e w' => e = .returned (.tuple #[.bool false, .int .i64 0]) ∧ Below w.heap.size w w' := by
  have hA' : Hid _ := hA
  have hE' : Hid _ := hE
  have hb' : Hid _ := hb
  have h1' : Hid _ := h1
  clear hA hE hb
  go_enter Tryz.func150, Tryz.ntmps150
  go_wp2_with (first
    | (go_at_call 219; refine (hA'.out _ (Below.refl _ _)).mono ?_; rintro e w2 ⟨rfl, hB2⟩)
    | (go_at_call 220; refine (hE'.out _ hB2).mono ?_; rintro e w3 ⟨rfl, hB3⟩; have hb3 := hB2.trans (hB3.mono hB2.size)
       obtain ⟨bi, bb, bo, nbk, cbk, b1, b2, b3, b4⟩ := (hb'.out.below hb3).h
       have z1 := cell_below h1'.out hb3 (cell_lt h1'.out)))
  go_quiet (fail)
  go_wp2
  go_ret2
  exact ⟨rfl, below_drewN hb3⟩
set_option maxRecDepth 100000 in
theorem hand_loop {w : World} {xb xo cb co cb0 co0 n cap i pa : Nat} {il ic : Nat} {ip : Option Addr}
    (h0 : w.cell? ⟨xb, xo + 2, none⟩ = some (.slice (some ⟨cb0, co0, none⟩) n cap)) (hi : i < n) (hc : w.cell? ⟨cb0, co0 + i, none⟩ = some (.pointer (some ⟨cb, co, none⟩))) (h1 : w.cell? ⟨cb, co + 1, none⟩ = some (.int .i64 pa)) (hb : BlkF w xb xo cb co 3 ip il ic) (hil : il ≠ 0)
    (hA : ∀ w', Below w.heap.size w w' → Calls Tryz.prog 219 #[.pointer (some ⟨xb, xo, none⟩), .pointer (some ⟨cb, co, none⟩)] w' fun e w'' => e = .returned (.bool false) ∧ Below w'.heap.size w' w'')
    (hE : ∀ w', Below w.heap.size w w' → Calls Tryz.prog 220 #[.pointer (some ⟨xb, xo, none⟩), .pointer (some ⟨cb, co, none⟩)] w' fun e w'' => e = .returned (.tuple #[.bool false, .int .i64 0]) ∧ Below w'.heap.size w' w'')
    (hN : ∀ w', Below w.heap.size w w' → Calls Tryz.prog 221 #[.pointer (some ⟨xb, xo, none⟩), .pointer (some ⟨cb, co, none⟩)] w' fun e w'' => e = .returned (.tuple #[.bool false, .int .i64 0]) ∧ Below w'.heap.size w' w'') :
    Calls Tryz.prog 150 #[.pointer (some ⟨xb, xo, none⟩), .int .i64 i] w fun e w' => e = .returned (.tuple #[.bool false, .int .i64 0]) ∧ Below w.heap.size w w' := by
  have hA' : Hid _ := hA
  have hE' : Hid _ := hE
  have hN' : Hid _ := hN
  have hb' : Hid _ := hb
  have h1' : Hid _ := h1
  clear hA hE hN hb
  go_enter Tryz.func150, Tryz.ntmps150
  go_wp2_with (first
    | (go_at_call 219; refine (hA'.out _ (Below.refl _ _)).mono ?_; rintro e w2 ⟨rfl, hB2⟩)
    | (go_at_call 220; refine (hE'.out _ hB2).mono ?_; rintro e w3 ⟨rfl, hB3⟩; have hb3 := hB2.trans (hB3.mono hB2.size)
       obtain ⟨bi, bb, bo, nbk, cbk, b1, b2, b3, b4⟩ := (hb'.out.below hb3).h
       have z1 := cell_below h1'.out hb3 (cell_lt h1'.out)))
  go_quiet (fail)
  have hb4 := below_drewN (n := nq) hb3
  generalize w3.drewN nq = W at *
  go_wp2_with (go_at_call 221; refine (hN'.out _ hb4).mono ?_; rintro e w5 ⟨rfl, hB5⟩)
  all_goals (go_ret2; first | exact ⟨rfl, hb4.trans (hB5.mono hb4.size)⟩ | exact ⟨rfl, hb4⟩)
end Cl
end Go.Proofs
namespace Go.Proofs
open Go.RowKit
namespace Cl
set_option maxRecDepth 100000 in
theorem nexts_there {w : World} {xb xo cb co il ic cb0 co0 nc cc nx tb to : Nat} {ip : Option Addr} {fs : List Fr} {ks ns : Nat → Int} {k0 n0 : Int}
    (hb : BlkW w xb xo cb co ip il ic) (hF : HasF w (.slice ip il ic) fs) (h0 : fs ≠ []) (hl : fs.length ≤ 9223372036854775807) (hi : Is w cb co (fs.getD 0 (.par 0)) k0 n0) (hk0 : k0 ≠ 0) (hk5 : k0 ≠ 5)
    (hx : w.cell? ⟨xb, xo + 2, none⟩ = some (.slice (some ⟨cb0, co0, none⟩) nc cc)) (hnx : w.cell? ⟨cb, co + 7, none⟩ = some (.int .i64 nx)) (hlt : nx < nc) (hp : w.cell? ⟨cb0, co0 + nx, none⟩ = some (.pointer (some ⟨tb, to, none⟩)))
    (hs : ∀ i, i < fs.length → Is w cb co (fs.getD i (.par 0)) (ks i) (ns i) ∧ Still w tb to i (ks i)) :
    Calls Tryz.prog 221 #[.pointer (some ⟨xb, xo, none⟩), .pointer (some ⟨cb, co, none⟩)] w fun e w' => e = .returned (.tuple #[.bool false, .int .i64 0]) ∧ Below w.heap.size w w' := by
  obtain ⟨bi, bb, bo, nbk, cbk, nm, pr, p2, n2, c2, p4, n4, c4, b1, b2, b3, b4, b5, b6, b7, b8⟩ := hb.h
  have hF' := hF
  obtain ⟨p, c, hq, hF⟩ := hF
  cases hq
  have hlen : 0 < fs.length := List.length_pos_iff.2 h0
  obtain ⟨b, o, rfl, hq⟩ := hF h0
  obtain ⟨q0, q1⟩ := hq 0 hlen
  have hq' : Hid _ := hq
  have hs' : Hid _ := hs
  have hx' : Hid _ := hx
  have hnx' : Hid _ := hnx
  have hp' : Hid _ := hp
  simp only [Nat.zero_mul, Nat.add_zero] at q0 q1
  clear hq hF hF' hb hs hx hnx hp
  generalize hfl : fs.length = fl at *
  go_enter Tryz.func221, Tryz.ntmps221
  go_wp2
  go_region_held3 (fun w' => w'.cell? ⟨cb, co, none⟩ = some (.int .i64 bi) ∧ w'.cell? ⟨xb, xo, none⟩ = some (.slice (some ⟨bb, bo, none⟩) nbk cbk) ∧ w'.cell? ⟨bb, bo + bi * 5, none⟩ = some (.string nm) ∧ w'.cell? ⟨bb, bo + bi * 5 + 1, none⟩ = some (.int .i64 pr) ∧
    w'.cell? ⟨bb, bo + bi * 5 + 2, none⟩ = some (.slice p2 n2 c2) ∧ w'.cell? ⟨bb, bo + bi * 5 + 3, none⟩ = some (.slice (some ⟨b, o, none⟩) fl ic) ∧ w'.cell? ⟨bb, bo + bi * 5 + 4, none⟩ = some (.slice p4 n4 c4))
    (first | exact ⟨b1, b2, b4, b5, b6, b7, b8⟩ | exact ⟨cell_alloc b1 _, cell_alloc b2 _, cell_alloc b4 _, cell_alloc b5 _, cell_alloc b6 _, cell_alloc b7 _, cell_alloc b8 _⟩) (fail)
  have hB : Below w.heap.size w (w.alloc (.cells #[.string nm, .int .i64 pr, .slice p2 n2 c2, .slice (some ⟨b, o, none⟩) fl ic, .slice p4 n4 c4] 144)).drew := ((Below.refl _ _).alloc (Nat.le_refl _) _).drew
  have hsz : w.heap.size < (w.alloc (.cells #[.string nm, .int .i64 pr, .slice p2 n2 c2, .slice (some ⟨b, o, none⟩) fl ic, .slice p4 n4 c4] 144)).drew.heap.size := by show _ < (World.alloc _ _).heap.size; rw [size_new]; omega
  have y3 : (w.alloc (.cells #[.string nm, .int .i64 pr, .slice p2 n2 c2, .slice (some ⟨b, o, none⟩) fl ic, .slice p4 n4 c4] 144)).drew.cell? ⟨w.heap.size, 3, none⟩ = some (.slice (some ⟨b, o, none⟩) fl ic) := by rw [World.cell?_drew, cells_new]; rfl
  rename_i hS
  clear hS b1 b2 b4 b5 b6 b7 b8
  generalize (w.alloc (.cells #[.string nm, .int .i64 pr, .slice p2 n2 c2, .slice (some ⟨b, o, none⟩) fl ic, .slice p4 n4 c4] 144)).drew = W at *
  have hv := value_c _ cb co k0 n0 _ (hi.below hB)
  have q0 := cell_below q0 hB (cell_lt q0)
  have q1 := cell_below q1 hB (cell_lt q1)
  clear hi
  generalize (fs.getD 0 (.par 0)).a = fa at *
  generalize (fs.getD 0 (.par 0)).q = fq at *
  have ht0 := fun n w => there_c (n := n) hk0 w
  have hbad := fun n w => (isBad_c k0 n w).mono fun e w' (h : _ ∧ _) => (show e = .returned (.bool false) ∧ Below w.heap.size w w' from ⟨by rw [h.1]; simp [hk5], h.2⟩)
  go_wp2_with (first
    | (go_at_call 105; refine hv.mono ?_; rintro e w2 ⟨rfl, hB2⟩; have hb2 := hB.trans (hB2.mono hB.size); have hb3 := hb2.alloc hb2.size (.cells #[.int .u8 k0, .int .i64 n0] 57); have y3 := cell_alloc (cell_below y3 hB2 (cell_lt y3)) (.cells #[.int .u8 k0, .int .i64 n0] 57); have y0 : (w2.alloc (.cells #[.int .u8 k0, .int .i64 n0] 57)).cell? ⟨w2.heap.size, 0, none⟩ = some (.int .u8 k0) := by rw [cells_new]; rfl
       have y1 : (w2.alloc (.cells #[.int .u8 k0, .int .i64 n0] 57)).cell? ⟨w2.heap.size, 1, none⟩ = some (.int .i64 n0) := by rw [cells_new]; rfl)
    | (go_at_call 106; refine (ht0 _ _).mono ?_; rintro e w3 ⟨rfl, hB3⟩; have hb4 := hb3.trans (hB3.mono hb3.size); have y0 := cell_below y0 hB3 (cell_lt y0); have y1 := cell_below y1 hB3 (cell_lt y1); have y3 := cell_below y3 hB3 (cell_lt y3))
    | (go_at_call 225; refine (hbad _ _).mono ?_; rintro e w4 ⟨rfl, hB4⟩; have hb5 := hb4.trans (hB4.mono hb4.size); have nx1 := cell_below hnx'.out hb5 (cell_lt hnx'.out); have y0 := cell_below y0 hB4 (cell_lt y0); have y1 := cell_below y1 hB4 (cell_lt y1); have y3 := cell_below y3 hB4 (cell_lt y3)))
  clear y0 y1 y3 nx1 q0 q1 hv ht0 hbad
  go_loopw [4, 86] (fun ch i wr => ∃ k : Nat, k ≤ fl ∧ ch = .bool false ∧ i = .int .i64 k ∧ Below w.heap.size w wr) (fun _ i _ => fl - (intOf i).toNat)
  case atStart => exact ⟨0, Nat.zero_le _, rfl, rfl, hb5⟩
  case round =>
    obtain ⟨k, hk, rfl, rfl, hBr⟩ := hrel
    by_cases hkn : k < fl
    · obtain ⟨q0, q1⟩ := hq'.out k hkn
      have q0 := cell_below q0 hBr (cell_lt q0)
      have q1 := cell_below q1 hBr (cell_lt q1)
      obtain ⟨hv, hst⟩ := hs'.out k hkn
      have hBa := hBr.alloc hBr.size (.cells #[(fs.getD k (.par 0)).a, (fs.getD k (.par 0)).q] 222)
      have hv := fun w2 (h : Below w.heap.size w w2) => value_c (fs.getD k (.par 0)) cb co (ks k) (ns k) _ (hv.below h)
      have hg := fun w2 (h : Below w.heap.size w w2) => give_c (n := ns k) (hst.below h)
      obtain ⟨ga, ea⟩ := Fr.a_int (fs.getD k (.par 0))
      obtain ⟨gq, eq⟩ := Fr.q_int (fs.getD k (.par 0))
      rw [ea, eq] at hBa hv
      rw [ea] at q0
      rw [eq] at q1
      clear ea eq
      generalize ks k = kk at *
      generalize ns k = nk at *
      have z0 := cell_below hx'.out hBa (cell_lt hx'.out)
      have z1 := cell_below hnx'.out hBa (cell_lt hnx'.out)
      have z2 := cell_below hp'.out hBa (cell_lt hp'.out)
      have x0 : (wr.alloc (.cells #[.int .i64 ga, .int .i64 gq] 222)).cell? ⟨wr.heap.size, 0, none⟩ = some (.int .i64 ga) := by rw [cells_new]; rfl
      have x1 : (wr.alloc (.cells #[.int .i64 ga, .int .i64 gq] 222)).cell? ⟨wr.heap.size, 1, none⟩ = some (.int .i64 gq) := by rw [cells_new]; rfl
      have l0 := cell_lt z0
      have l1 := cell_lt z1
      have l2 := cell_lt z2
      have m0 := cell_lt x0
      have m1 := cell_lt x1
      go_wp2
      go_region_held3 (fun w' => w'.cell? ⟨xb, xo + 2, none⟩ = some (.slice (some ⟨cb0, co0, none⟩) nc cc) ∧ w'.cell? ⟨cb, co + 7, none⟩ = some (.int .i64 nx) ∧ w'.cell? ⟨cb0, co0 + nx, none⟩ = some (.pointer (some ⟨tb, to, none⟩)) ∧ w'.cell? ⟨wr.heap.size, 0, none⟩ = some (.int .i64 ga) ∧ w'.cell? ⟨wr.heap.size, 1, none⟩ = some (.int .i64 gq))
        (first | exact ⟨z0, z1, z2, x0, x1⟩ | exact ⟨cell_belowD z0 hB6 l0, cell_belowD z1 hB6 l1, cell_belowD z2 hB6 l2, cell_belowD x0 hB6 m0, cell_belowD x1 hB6 m1⟩ | exact ⟨cell_below (cell_belowD z0 hB6 l0) hB7 (cell_lt (cell_belowD z0 hB6 l0)), cell_below (cell_belowD z1 hB6 l1) hB7 (cell_lt (cell_belowD z1 hB6 l1)), cell_below (cell_belowD z2 hB6 l2) hB7 (cell_lt (cell_belowD z2 hB6 l2)), cell_below (cell_belowD x0 hB6 m0) hB7 (cell_lt (cell_belowD x0 hB6 m0)), cell_below (cell_belowD x1 hB6 m1) hB7 (cell_lt (cell_belowD x1 hB6 m1))⟩)
        (first | (go_at_call 105; refine (hv _ (by exact below_drewN (n := 1) hBa)).mono ?_; rintro e w6 ⟨rfl, hB6⟩; have hb6 := (below_drewN (n := 1) hBa).trans (hB6.mono hBa.size)) | (go_at_call 287; refine (hg _ hb6).mono ?_; rintro e w7 ⟨rfl, hB7⟩))
      go_wp2
      go_roundw
      case rel => ((repeat apply Exists.intro); exact ⟨⟨k + 1, by omega, rfl, by go_num, hb6.trans (hB7.mono hb6.size)⟩, rfl⟩)
      case measure => simp [intOf]; omega
    · go_wp2
      go_ret2
      exact ⟨rfl, hBr⟩
end Cl
end Go.Proofs
