/- PROVED HERE: a part (Xc) of the tied card of LibAccepted (floodgatelaw25). CONDITIONS: those of the given row and card alone. -/
import Derived.Test.YtbelbhnfjejnmaaGreatDoorXb
import Derived.Deep.RegionLaw
import Derived.Deep.AppendLies
import Derived.OwnWalk
import Derived.Deep.Onto
namespace Go.Proofs
open Go.RowKit Go.Shelf Go.Sort
namespace Lx
theorem info118 : (Tryz.prog.info? 118).map (fun i => (i.zero, i.size, i.bytes)) = some (some (.agg #[.int .u8 0, .string ⟨#[]⟩, .int .i64 0]), 3, 32) := by kernel_rfl
theorem info342 : (Tryz.prog.info? 342).map (fun i => (i.zero, i.size, i.bytes)) = some (some (.agg #[.int .i64 0, .int .i64 0]), 2, 16) := by kernel_rfl
/-- a reader: at place k, with tokens and gaps -/
structure Rd (w0 : World) (B : Nat) (s : ByteArray) (k : Nat) (tv gv : Value) (nt ng : Nat) (ts gs : List Value) (w : World) : Prop where
  bel : Below w0.heap.size w0 w
  hB : w0.heap.size ≤ B
  row : w.heap[B]? = some (.cells #[tv, gv, .string s, .int .i64 k] 261 (0, 0))
  own1 : w.ownsRow w0.heap.size 118 3 tv nt ts
  own2 : w.ownsRow w0.heap.size 342 2 gv ng gs
theorem Rd.drewN {w0 w : World} {B k nt ng : Nat} {s : ByteArray} {tv gv : Value} {ts gs : List Value} (h : Rd w0 B s k tv gv nt ng ts gs w) (n : Nat) : Rd w0 B s k tv gv nt ng ts gs (w.drewN n) := ⟨below_drewN h.bel, h.hB, h.row, h.own1, h.own2⟩
/-- a row of one's own lies in another world too, if its block is the same there -/
theorem own_at {w w' : World} {base : Nat} {e : TypeId} {size : Nat} {v : Value} {n : Nat} {xs : List Value} (h : w.ownsRow base e size v n xs) (hk : ∀ g cs, v.ownBlock = some g → w.heap[g]? = some (.cells cs e (0, 0)) → w'.heap[g]? = w.heap[g]?) : w'.ownsRow base e size v n xs := by
  refine ⟨h.1, ?_⟩
  rcases h.2 with hn | ⟨g, cap, cur, hv, hb, hg, rest⟩
  · exact .inl hn
  · exact .inr ⟨g, cap, cur, hv, hb, by rw [hk g cur (by rw [hv]; rfl) hg]; exact hg, rest⟩
/-- the block of a row of one's own is no block of another type -/
theorem own_ne {w : World} {base : Nat} {e t : TypeId} {size : Nat} {v : Value} {n : Nat} {xs : List Value} {B : Nat} {cs : Array Value} (h : w.ownsRow base e size v n xs) (row : w.heap[B]? = some (.cells cs t (0, 0))) (he : e ≠ t) : v.ownBlock ≠ some B := by
  rcases h.2 with ⟨rfl, _⟩ | ⟨g, cap, cur, rfl, _, hgg, _⟩
  · simp [Value.ownBlock]
  · intro e1
    have e1 : g = B := by simpa [Value.ownBlock] using e1
    subst e1
    rw [row] at hgg
    simp only [Option.some.injEq, Obj.cells.injEq] at hgg
    exact he hgg.2.1.symm
theorem own_base {w : World} {base : Nat} {e : TypeId} {size : Nat} {v : Value} {n : Nat} {xs : List Value} (h : w.ownsRow base e size v n xs) {g : Nat} (hg : v.ownBlock = some g) : base ≤ g := by
  rcases h.2 with ⟨rfl, _⟩ | ⟨g', cap, cur, rfl, hb, _⟩
  · cases hg
  · have e1 : g' = g := by simpa [Value.ownBlock] using hg
    omega
theorem own_lt {w : World} {base : Nat} {e : TypeId} {size : Nat} {v : Value} {n : Nat} {xs : List Value} (h : w.ownsRow base e size v n xs) {g : Nat} (hg : v.ownBlock = some g) : ∃ cs, w.heap[g]? = some (.cells cs e (0, 0)) := by
  rcases h.2 with ⟨rfl, _⟩ | ⟨g', cap, cur, rfl, hb, hh, _⟩
  · cases hg
  · have e1 : g' = g := by simpa [Value.ownBlock] using hg
    subst e1; exact ⟨_, hh⟩
theorem row_lt {w : World} {B : Nat} {o : Obj} (h : w.heap[B]? = some o) : B < w.heap.size := (Array.getElem?_eq_some_iff.1 h).1
theorem Rd.gapped {w0 W w3 : World} {B k to_ nt ng ng' : Nat} {s : ByteArray} {tv gv gv3 : Value} {ts gs gs' : List Value} {o : Obj} (hB : w0.heap.size ≤ B) (hbl : Below w0.heap.size w0 W) (own1 : W.ownsRow w0.heap.size 118 3 tv nt ts) (own2 : W.ownsRow w0.heap.size 342 2 gv ng gs)
    (row : W.heap[B]? = some (.cells #[tv, gv, .string s, .int .i64 k] 261 (0, 0))) (hg : ((W.alloc o).drew).grownBy w3 gv.ownBlock) (hown : w3.ownsRow w0.heap.size 342 2 gv3 ng' gs') (zz : w3.heap[B]? = some (.cells #[tv, gv, .string s, .int .i64 k] 261 (0, 0))) :
    Rd w0 B s to_ tv gv3 nt ng' ts gs' ((w3.setCell ⟨B, 1, none⟩ gv3).setCell ⟨B, 3, none⟩ (.int .i64 to_)) := by
  have h1 : (w3.setCell ⟨B, 1, none⟩ gv3).heap[B]? = some (.cells #[tv, gv3, .string s, .int .i64 k] 261 (0, 0)) := heap_setCell_same _ B 1 _ _ _ zz
  refine ⟨?_, hB, ?_, ?_, ?_⟩
  · exact (((hbl.alloc hbl.size o).drew.grown hg (by show _ ≤ (W.alloc o).heap.size; rw [size_new]; have := hbl.size; omega) (fun g e => own_base own2 e)).setCell hB _).setCell hB _
  · exact heap_setCell_same _ B 3 _ _ _ h1
  · refine own_at own1 fun g cs e1 e2 => ?_
    have n1 : g ≠ B := fun e => own_ne own1 row (by decide) (e ▸ e1)
    have n2 : some g ≠ gv.ownBlock := fun e => own_ne own2 e2 (by decide) e.symm
    have lt := row_lt e2
    rw [Below.heap_setCell _ _ _ _ n1, Below.heap_setCell _ _ _ _ n1, hg.block g (by show g < (W.alloc o).heap.size; rw [size_new]; omega) n2]
    exact Below.heap_alloc _ _ _ lt
  · refine own_at hown fun g cs e1 e2 => ?_
    have n1 : g ≠ B := fun e => own_ne hown zz (by decide) (e ▸ e1)
    rw [Below.heap_setCell _ _ _ _ n1, Below.heap_setCell _ _ _ _ n1]
set_option maxRecDepth 100000 in
theorem skip_same {w0 w : World} {B k nt ng : Nat} {s : ByteArray} {tv gv : Value} {ts gs : List Value} (h : Rd w0 B s k tv gv nt ng ts gs w) (h2 : k ≤ s.size) (hs : s.size ≤ 1000000) (he : k < s.size → blkB (by_ s k) = false ∧ by_ s k ≠ 126) :
    Calls Tryz.prog 133 #[.pointer (some ⟨B, 0, none⟩)] w fun e w' => e = .returned (.tuple #[]) ∧ ∃ n, w' = w.drewN n := by
  have z2 : w.cell? ⟨B, 2, none⟩ = some (.string s) := cell_of (i := 2) h.row
  have z3 : w.cell? ⟨B, 3, none⟩ = some (.int .i64 k) := cell_of (i := 3) h.row
  have hg := fun w => gap_c s k k (Nat.le_refl _) h2 hs (fun i h1 h3 => absurd h3 (by omega)) he w
  clear he h
  go_enter Tryz.func133, Tryz.ntmps133
  go_wp2
  go_quiet ((go_at_call 203; exact Calls.quiet_of_same (hg _)))
  go_wp2
  exact bodyPost_end (v := .tuple #[]) (by simp [results, Tryz.results133, go_sem]) rfl ⟨rfl, _, rfl⟩
set_option maxRecDepth 100000 in
theorem skip_more {w0 w : World} {B k to_ nt ng : Nat} {s : ByteArray} {tv gv : Value} {ts gs : List Value} (h : Rd w0 B s k tv gv nt ng ts gs w) (h1 : k < to_) (h2 : to_ ≤ s.size) (hs : s.size ≤ 1000000) (hng : ng ≤ 1000000) (hb : ∀ i, k ≤ i → i < to_ → blkB (by_ s i) = true) (he : to_ < s.size → blkB (by_ s to_) = false ∧ by_ s to_ ≠ 126) :
    Calls Tryz.prog 133 #[.pointer (some ⟨B, 0, none⟩)] w fun e w' => e = .returned (.tuple #[]) ∧ ∃ gv2, Rd w0 B s to_ tv gv2 nt (ng + 1) ts (gs ++ [.int .i64 k, .int .i64 to_]) w' := by
  have hh := h
  obtain ⟨_, _, row0, _, _⟩ := hh
  obtain ⟨i1, hi1, hy0, hy1, hy2⟩ := info_parts info342
  have hg := fun w => gap_c s k to_ (by omega) h2 hs hb he w
  have hd : Hid (∀ n, Rd w0 B s k tv gv nt ng ts gs (w.drewN n)) := fun n => h.drewN n
  have y2 : w.cell? ⟨B, 2, none⟩ = some (.string s) := cell_of (i := 2) row0
  have y3 : w.cell? ⟨B, 3, none⟩ = some (.int .i64 k) := cell_of (i := 3) row0
  clear hb he h row0
  go_enter Tryz.func133, Tryz.ntmps133
  go_wp2
  go_quiet ((go_at_call 203; exact Calls.quiet_of_same (hg _)))
  go_wp2
  have hR := hd.out nq
  clear hd y2 y3 hg
  generalize w.drewN nq = W at *
  obtain ⟨hBl, hB, row, own1, own2⟩ := hR
  have row' : Hid (W.heap[B]? = some (.cells #[tv, gv, .string s, .int .i64 k] 261 (0, 0))) := row
  have hBl' : Hid (Below w0.heap.size w0 W) := hBl
  have z1 : W.cell? ⟨B, 1, none⟩ = some gv := cell_of (i := 1) row
  have z3 : W.cell? ⟨B, 3, none⟩ = some (.int .i64 k) := cell_of (i := 3) row
  have lB := cell_lt z3
  have hsz := hBl.size
  have z1a := cell_alloc (w := W.drew) z1 (.cells #[.int .i64 k, .int .i64 to_] 342)
  have z3a := cell_alloc (w := W.drew) z3 (.cells #[.int .i64 k, .int .i64 to_] 342)
  have hne : gv.ownBlock ≠ some B := by
    rcases own2.2 with ⟨rfl, _⟩ | ⟨g, cap, cur, rfl, _, hgg, _⟩
    · simp [Value.ownBlock]
    · intro e
      have e : g = B := by simpa [Value.ownBlock] using e
      subst e
      rw [row] at hgg; cases hgg
  have after : Hid (∀ w3, (W.drew.alloc (.cells #[.int .i64 k, .int .i64 to_] 342)).grownBy w3 gv.ownBlock → w3.heap[B]? = some (.cells #[tv, gv, .string s, .int .i64 k] 261 (0, 0))) := fun w3 hg => by
    rw [hg.block B (by rw [size_new]; show B < W.heap.size + 1; omega) (Ne.symm hne), Below.heap_alloc _ _ _ (by show B < W.heap.size; omega)]
    exact row
  clear row hBl
  go_region_law
    ((refine step_append_lies _ (by rfl) _ _ _ (by rfl) w0.heap.size 342 i1 _ 2 16 Tryz.underlying194 hi1 hy0 hy1 hy2 rfl (by omega) gv ng gs (by rfl) ((World.ownsRow.drew own2).alloc _) ⟨W.heap.size, 0, none⟩ 1 1 [.int .i64 k, .int .i64 to_] (by rfl) (by rfl) (World.news_of_block (cs := #[.int .i64 k, .int .i64 to_]) (t := 342) (fr := (0, 0)) (heap_alloc_new W.drew _)) (by simp [Value.oneCell']) (by omega) (by unfold maxLen; omega) (by omega) (by simp; omega) (W.heap.size + 1) (by simp) ?_; intro g3 cap3 w3 hown3 hgrow3 hat3 hlt3; have zz : Hid (w3.heap[B]? = some (.cells #[tv, gv, .string s, .int .i64 k] 261 (0, 0))) := after.out w3 hgrow3; have z1b : w3.cell? ⟨B, 1, none⟩ = some gv := cell_of (i := 1) zz.out; have f1 := froz_of (i := 1) zz.out))
  all_goals
    have hrow : Hid ((w3.setCell ⟨B, 1, none⟩ (Value.slice (some ⟨g3, 0, none⟩) (ng + 1) cap3)).heap[B]? = some (.cells #[tv, (Value.slice (some ⟨g3, 0, none⟩) (ng + 1) cap3), .string s, .int .i64 k] 261 (0, 0))) := heap_setCell_same _ B 1 _ _ _ zz.out
    have f3c := froz_of (i := 3) hrow.out
    have c3c := cell_of (i := 3) hrow.out
    have hE := Rd.gapped (to_ := to_) hB hBl'.out own1 own2 row'.out hgrow3 hown3 zz.out
    have hE : Hid (Rd w0 B s to_ tv (Value.slice (some ⟨g3, 0, none⟩) (ng + 1) cap3) nt (ng + 1) ts (gs ++ [.int .i64 k, .int .i64 to_]) _) := hE
    go_wp2
    exact bodyPost_end (v := .tuple #[]) (by simp [results, Tryz.results133, go_sem]) rfl ⟨rfl, _, hE.out⟩
end Lx
end Go.Proofs
namespace Go.Proofs
open Go.RowKit Go.Shelf Go.Sort
namespace Lx
/-- the token at a place, from a world on -/
def TokC (s : ByteArray) (k : Nat) (kd : Int) (t : ByteArray) (w : World) : Prop := ∀ W, Below w.heap.size w W → Calls Tryz.prog 204 #[.string s, .int .i64 k] W fun e w' => e = .returned (.tuple #[.agg #[.int .u8 kd, .string t, .int .i64 k], .bool true]) ∧ Below W.heap.size W w'
theorem wrap_sum {k n : Nat} (h : k + n ≤ 1000000) : IntKind.i64.wrap ((k : Int) + (n : Int)) = ((k + n : Nat) : Int) := by
  simp [IntKind.wrap, IntKind.bits, IntKind.signed]
  omega
theorem hid_ {p : Prop} (h : p) : Hid p := h
theorem own_slice {w : World} {base : Nat} {e : TypeId} {size : Nat} {v : Value} {n : Nat} {xs : List Value} (h : w.ownsRow base e size v n xs) : ∃ p c, v = .slice p n c := by
  rcases h.2 with ⟨rfl, rfl⟩ | ⟨g, cap, cur, rfl, _⟩
  · exact ⟨_, _, rfl⟩
  · exact ⟨_, _, rfl⟩
theorem set3_other {w : World} {b B : Nat} {r : Option Obj} {u v t : Value} (h : B ≠ b) (hr : w.heap[B]? = r) : (((w.setCell ⟨b, 0, none⟩ u).setCell ⟨b, 1, none⟩ v).setCell ⟨b, 2, none⟩ t).heap[B]? = r := by
  rw [Below.heap_setCell _ _ _ _ h, Below.heap_setCell _ _ _ _ h, Below.heap_setCell _ _ _ _ h, hr]
theorem alloc_other {w : World} {B : Nat} {r : Obj} {o : Obj} (hr : w.heap[B]? = some r) : (w.alloc o).heap[B]? = some r := by
  rw [Below.heap_alloc _ _ _ (row_lt hr)]; exact hr
theorem rc2 {w : World} {B k : Nat} {s : ByteArray} {tv gv : Value} (hr : w.heap[B]? = some (.cells #[tv, gv, .string s, .int .i64 k] 261 (0, 0))) : w.cell? ⟨B, 2, none⟩ = some (.string s) := cell_of (i := 2) hr
theorem rc3 {w : World} {B k : Nat} {s : ByteArray} {tv gv : Value} (hr : w.heap[B]? = some (.cells #[tv, gv, .string s, .int .i64 k] 261 (0, 0))) : w.cell? ⟨B, 3, none⟩ = some (.int .i64 k) := cell_of (i := 3) hr
theorem rc0 {w : World} {B k : Nat} {s : ByteArray} {tv gv : Value} (hr : w.heap[B]? = some (.cells #[tv, gv, .string s, .int .i64 k] 261 (0, 0))) : w.cell? ⟨B, 0, none⟩ = some tv := cell_of (i := 0) hr
theorem lc0 {w : World} {b : Nat} {u v t : Value} (hr : w.heap[b]? = some (.cells #[u, v, t] 118 (0, 0))) : w.cell? ⟨b, 0, none⟩ = some u := cell_of (i := 0) hr
theorem lc1 {w : World} {b : Nat} {u v t : Value} (hr : w.heap[b]? = some (.cells #[u, v, t] 118 (0, 0))) : w.cell? ⟨b, 1, none⟩ = some v := cell_of (i := 1) hr
theorem lc2 {w : World} {b : Nat} {u v t : Value} (hr : w.heap[b]? = some (.cells #[u, v, t] 118 (0, 0))) : w.cell? ⟨b, 2, none⟩ = some t := cell_of (i := 2) hr
theorem alloc_cells {w : World} {B k : Nat} {s : ByteArray} {tv gv : Value} (hr : w.heap[B]? = some (.cells #[tv, gv, .string s, .int .i64 k] 261 (0, 0))) (o : Obj) : (w.alloc o).cell? ⟨B, 2, none⟩ = some (.string s) ∧ (w.alloc o).cell? ⟨B, 3, none⟩ = some (.int .i64 k) := ⟨rc2 (alloc_other hr), rc3 (alloc_other hr)⟩
theorem set3_cells {w : World} {b B k : Nat} {s : ByteArray} {tv gv : Value} (h : B ≠ b) (hr : w.heap[B]? = some (.cells #[tv, gv, .string s, .int .i64 k] 261 (0, 0))) (u v t : Value) : (((w.setCell ⟨b, 0, none⟩ u).setCell ⟨b, 1, none⟩ v).setCell ⟨b, 2, none⟩ t).cell? ⟨B, 2, none⟩ = some (.string s) ∧ (((w.setCell ⟨b, 0, none⟩ u).setCell ⟨b, 1, none⟩ v).setCell ⟨b, 2, none⟩ t).cell? ⟨B, 3, none⟩ = some (.int .i64 k) :=
  ⟨cell_of (i := 2) (set3_other h hr), cell_of (i := 3) (set3_other h hr)⟩
theorem Rd.keep {w0 w w' : World} {B k nt ng : Nat} {s : ByteArray} {tv gv : Value} {ts gs : List Value} (h : Rd w0 B s k tv gv nt ng ts gs w) (hb : Below w0.heap.size w0 w') (hk : ∀ (b : Nat) (o : Obj), w.heap[b]? = some o → w'.heap[b]? = some o) : Rd w0 B s k tv gv nt ng ts gs w' :=
  ⟨hb, h.hB, hk _ _ h.row, own_at h.own1 fun _ _ _ e => (hk _ _ e).trans e.symm, own_at h.own2 fun _ _ _ e => (hk _ _ e).trans e.symm⟩
theorem Rd.toked {w0 W w3 : World} {B k to_ nt nt' ng : Nat} {s : ByteArray} {tv tv3 gv : Value} {ts ts' gs : List Value} {o : Obj} (hR : Rd w0 B s k tv gv nt ng ts gs W) (hg : ((W.alloc o).drew).grownBy w3 tv.ownBlock) (hown : w3.ownsRow w0.heap.size 118 3 tv3 nt' ts') (zz : w3.heap[B]? = some (.cells #[tv, gv, .string s, .int .i64 k] 261 (0, 0))) :
    Rd w0 B s to_ tv3 gv nt' ng ts' gs ((w3.setCell ⟨B, 0, none⟩ tv3).setCell ⟨B, 3, none⟩ (.int .i64 to_)) := by
  obtain ⟨hbl, hB, row, own1, own2⟩ := hR
  have h1 : (w3.setCell ⟨B, 0, none⟩ tv3).heap[B]? = some (.cells #[tv3, gv, .string s, .int .i64 k] 261 (0, 0)) := heap_setCell_same _ B 0 _ _ _ zz
  refine ⟨?_, hB, ?_, ?_, ?_⟩
  · exact (((hbl.alloc hbl.size o).drew.grown hg (by show _ ≤ (W.alloc o).heap.size; rw [size_new]; have := hbl.size; omega) (fun g e => own_base own1 e)).setCell hB _).setCell hB _
  · exact heap_setCell_same _ B 3 _ _ _ h1
  · refine own_at hown fun g cs e1 e2 => ?_
    have n1 : g ≠ B := fun e => own_ne hown zz (by decide) (e ▸ e1)
    rw [Below.heap_setCell _ _ _ _ n1, Below.heap_setCell _ _ _ _ n1]
  · refine own_at own2 fun g cs e1 e2 => ?_
    have n1 : g ≠ B := fun e => own_ne own2 row (by decide) (e ▸ e1)
    have n2 : some g ≠ tv.ownBlock := fun e => own_ne own1 e2 (by decide) e.symm
    have lt := row_lt e2
    rw [Below.heap_setCell _ _ _ _ n1, Below.heap_setCell _ _ _ _ n1, hg.block g (by show g < (W.alloc o).heap.size; rw [size_new]; omega) n2]
    exact Below.heap_alloc _ _ _ lt
theorem own_old {w : World} {base : Nat} {e : TypeId} {size : Nat} {v : Value} {n : Nat} {xs : List Value} (h : w.ownsRow base e size v n xs) {b : Nat} (hb : w.heap.size ≤ b) : some b ≠ v.ownBlock := fun e1 => by
  obtain ⟨cs, h2⟩ := own_lt h e1.symm
  have := row_lt h2
  omega
/-- behind the append: the reader's row and the token's block -/
theorem toked_after {w0 W : World} {B b k nt ng : Nat} {kd : Int} {t s : ByteArray} {tv gv : Value} {ts gs : List Value} {o : Obj} (hR : Rd w0 B s k tv gv nt ng ts gs W) (hz : W.heap[b]? = some (.cells #[.int .u8 kd, .string t, .int .i64 k] 118 (0, 0))) (hn : some b ≠ tv.ownBlock) {w3 : World} (hg : ((W.alloc o).drew).grownBy w3 tv.ownBlock) :
    w3.heap[B]? = some (.cells #[tv, gv, .string s, .int .i64 k] 261 (0, 0)) ∧ w3.heap[b]? = some (.cells #[.int .u8 kd, .string t, .int .i64 k] 118 (0, 0)) := by
  refine ⟨?_, ?_⟩
  · rw [hg.block B (by show B < (W.alloc o).heap.size; rw [size_new]; have := row_lt hR.row; omega) (Ne.symm (own_ne hR.own1 hR.row (by decide)))]
    exact alloc_other (w := W) hR.row
  · rw [hg.block b (by show b < (W.alloc o).heap.size; rw [size_new]; have := row_lt hz; omega) hn]
    exact alloc_other (w := W) hz
theorem set1_cells {w : World} {b B : Nat} {x y z : Value} (h : b ≠ B) (hr : w.heap[b]? = some (.cells #[x, y, z] 118 (0, 0))) (i : Nat) (u : Value) : (w.setCell ⟨B, i, none⟩ u).cell? ⟨b, 0, none⟩ = some x ∧ (w.setCell ⟨B, i, none⟩ u).cell? ⟨b, 1, none⟩ = some y ∧ (w.setCell ⟨B, i, none⟩ u).cell? ⟨b, 2, none⟩ = some z := by
  have zs := (Below.heap_setCell w ⟨B, i, none⟩ u b h).trans hr
  exact ⟨lc0 zs, lc1 zs, lc2 zs⟩
theorem rows_ne {W : World} {B b : Nat} {cs ds : Array Value} (h1 : W.heap[B]? = some (.cells cs 261 (0, 0))) (h2 : W.heap[b]? = some (.cells ds 118 (0, 0))) : b ≠ B := fun e => by
  subst e
  rw [h1] at h2
  simp at h2
set_option maxRecDepth 100000 in
set_option maxHeartbeats 2000000 in
theorem next_ok {w0 w : World} {B k nt ng : Nat} {kd : Int} {t s : ByteArray} {tv gv : Value} {ts gs : List Value} (h : Rd w0 B s k tv gv nt ng ts gs w) (h2 : k + t.size ≤ s.size) (hs : s.size ≤ 1000000) (hnt : nt < 900) (hT : TokC s k kd t w0) :
    Calls Tryz.prog 134 #[.pointer (some ⟨B, 0, none⟩)] w fun e w' => e = .returned (.int .i64 0) ∧ ∃ tv2, Rd w0 B s (k + t.size) tv2 gv (nt + 1) ng (ts ++ [.int .u8 kd, .string t, .int .i64 k]) gs w' := by
  obtain ⟨i1, hi1, hy0, hy1, hy2⟩ := info_parts info118
  have hh := h
  obtain ⟨bel, hB, row, own1, own2⟩ := hh
  obtain ⟨tp, tc, htv⟩ := own_slice own1
  have htv : Hid (tv = .slice tp nt tc) := htv
  have hn9 : (nt : Int) ≠ 900 := by omega
  have hwr := hid_ (wrap_sum (k := k) (n := t.size) (by omega))
  have z0 : w.cell? ⟨B, 0, none⟩ = some tv := cell_of (i := 0) row
  have z2 : w.cell? ⟨B, 2, none⟩ = some (.string s) := cell_of (i := 2) row
  have z3 : w.cell? ⟨B, 3, none⟩ = some (.int .i64 k) := cell_of (i := 3) row
  have HT : Hid (TokC s k kd t w0) := hT
  have HR : Hid (Rd w0 B s k tv gv nt ng ts gs w) := h
  have lB := row_lt row
  have z2a := cell_alloc (w := w.drew) z2 (.cells #[.int .u8 0, .string ⟨#[]⟩, .int .i64 0] 118)
  have z3a := cell_alloc (w := w.drew) z3 (.cells #[.int .u8 0, .string ⟨#[]⟩, .int .i64 0] 118)
  have fa : Hid (∀ w3, Below (w.drew.alloc (.cells #[.int .u8 0, .string ⟨#[]⟩, .int .i64 0] 118)).heap.size (w.drew.alloc (.cells #[.int .u8 0, .string ⟨#[]⟩, .int .i64 0] 118)) w3 → w3.heap[B]? = some (.cells #[tv, gv, .string s, .int .i64 k] 261 (0, 0)) ∧ w3.heap[w.heap.size]? = some (.cells #[.int .u8 0, .string ⟨#[]⟩, .int .i64 0] 118 (0, 0))) := fun w3 hb => by
    refine ⟨?_, ?_⟩
    · rw [hb.block B (by rw [size_new]; show B < w.heap.size + 1; omega), Below.heap_alloc _ _ _ (by show B < w.heap.size; omega)]; exact row
    · rw [hb.block _ (by rw [size_new]; show w.heap.size < w.heap.size + 1; omega)]; exact heap_alloc_new w.drew _
  have fb : Hid (∀ w3, Below w.drew.heap.size w.drew w3 → w3.heap[B]? = some (.cells #[tv, gv, .string s, .int .i64 k] 261 (0, 0))) := fun w3 hb => by
    rw [hb.block B lB]; exact row
  have tb : Hid (Below w0.heap.size w0 w.drew) := bel.drew
  have ta : Hid (Below w0.heap.size w0 (w.drew.alloc (.cells #[.int .u8 0, .string ⟨#[]⟩, .int .i64 0] 118))) := bel.drew.alloc bel.size _
  have zd : Hid (w.drew.cell? ⟨B, 2, none⟩ = some (.string s) ∧ w.drew.cell? ⟨B, 3, none⟩ = some (.int .i64 k)) := ⟨z2, z3⟩
  have za : Hid ((w.alloc (.cells #[.int .u8 0, .string ⟨#[]⟩, .int .i64 0] 118)).drew.cell? ⟨B, 2, none⟩ = some (.string s) ∧ (w.alloc (.cells #[.int .u8 0, .string ⟨#[]⟩, .int .i64 0] 118)).drew.cell? ⟨B, 3, none⟩ = some (.int .i64 k)) := ⟨z2a, z3a⟩
  have nb : Hid (B ≠ w.heap.size) := Nat.ne_of_lt lB
  clear row bel hT h own1 own2
  go_enter Tryz.func134, Tryz.ntmps134
  go_wp2
  go_region_held3 (fun w' => w'.cell? ⟨B, 2, none⟩ = some (.string s) ∧ w'.cell? ⟨B, 3, none⟩ = some (.int .i64 k))
    (first | with_reducible exact zd.out | with_reducible exact za.out | with_reducible exact ⟨z2, z3⟩ | with_reducible exact ⟨z2a, z3a⟩ | with_reducible exact ⟨y2, y3⟩ | with_reducible exact ⟨y2a, y3a⟩ | with_reducible exact wb.out _ | with_reducible exact wa.out _ _ _ | fail)
    ((go_at_call 204; first
      | (refine (HT.out _ ta.out).mono ?_; rintro e w3 ⟨rfl, hB3⟩; have yy : Hid _ := (fa.out _ hB3); have wa := hid_ (set3_cells nb.out yy.out.1); have y2 := rc2 yy.out.1; have y3 := rc3 yy.out.1; have x0 := lc0 yy.out.2; have x1 := lc1 yy.out.2; have x2 := lc2 yy.out.2; have f0 := froz_of (i := 0) yy.out.2; have f1 := froz_of (i := 1) yy.out.2; have f2 := froz_of (i := 2) yy.out.2)
      | (refine (HT.out _ tb.out).mono ?_; rintro e w3 ⟨rfl, hB3⟩; have yy : Hid _ := (fb.out _ hB3); have wb := hid_ (alloc_cells yy.out); have y2 := rc2 yy.out; have y3 := rc3 yy.out; have y2a := rc2 (w := World.alloc _ (.cells #[.int .u8 0, .string ⟨#[]⟩, .int .i64 0] 118)) (alloc_other yy.out); have y3a := rc3 (w := World.alloc _ (.cells #[.int .u8 0, .string ⟨#[]⟩, .int .i64 0] 118)) (alloc_other yy.out))))
  all_goals first
    | (skip
       have hbn : Hid (some w3.heap.size ≠ tv.ownBlock) := own_old HR.out.own1 hB3.size
       have hz : Hid ((w3.alloc (.cells #[.int .u8 kd, .string t, .int .i64 k] 118)).heap[w3.heap.size]? = some (.cells #[.int .u8 kd, .string t, .int .i64 k] 118 (0, 0))) := heap_alloc_new w3 _
       have hR2 : Hid (Rd w0 B s k tv gv nt ng ts gs (w3.alloc (.cells #[.int .u8 kd, .string t, .int .i64 k] 118))) := HR.out.keep ((tb.out.trans (hB3.mono tb.out.size)).alloc (Nat.le_trans tb.out.size hB3.size) _) fun b o e => alloc_other ((hB3.block b (row_lt e)).trans e)
       clear y2 y3 y2a y3a yy wb hB3 fa fb tb ta HR lB nb z2a z3a z0 z2 z3
       generalize w3.alloc (.cells #[.int .u8 kd, .string t, .int .i64 k] 118) = W at *
       generalize w3.heap.size = b at *)
    | (skip
       have hbn : Hid (some w.heap.size ≠ tv.ownBlock) := own_old HR.out.own1 (Nat.le_refl _)
       have hz : Hid ((((w3.setCell ⟨w.heap.size, 0, none⟩ (.int .u8 kd)).setCell ⟨w.heap.size, 1, none⟩ (.string t)).setCell ⟨w.heap.size, 2, none⟩ (.int .i64 k)).heap[w.heap.size]? = some (.cells #[.int .u8 kd, .string t, .int .i64 k] 118 (0, 0))) := row3 yy.out.2
       have hR2 : Hid (Rd w0 B s k tv gv nt ng ts gs (((w3.setCell ⟨w.heap.size, 0, none⟩ (.int .u8 kd)).setCell ⟨w.heap.size, 1, none⟩ (.string t)).setCell ⟨w.heap.size, 2, none⟩ (.int .i64 k))) := HR.out.keep (set3_below (ta.out.trans (hB3.mono ta.out.size)) HR.out.bel.size) fun b o e => set3_other (Nat.ne_of_lt (row_lt e)) (by rw [hB3.block b (Nat.lt_trans (row_lt e) (by rw [size_new]; exact Nat.lt_succ_self _))]; exact alloc_other (w := w.drew) e)
       clear y2 y3 x0 x1 x2 f0 f1 f2 yy wa hB3 fa fb tb ta HR lB nb z2a z3a z0 z2 z3
       generalize ((w3.setCell ⟨w.heap.size, 0, none⟩ (.int .u8 kd)).setCell ⟨w.heap.size, 1, none⟩ (.string t)).setCell ⟨w.heap.size, 2, none⟩ (.int .i64 k) = W at *
       generalize w.heap.size = b at *)
  all_goals
    have hW := hR2.out.row
    have own1 := hR2.out.own1
    have own2 := hR2.out.own2
    rw [htv.out] at hW own1
    have z0 := rc0 hW
    have z2 := rc2 hW
    have z3 := rc3 hW
    have x0 := lc0 hz.out
    have x1 := lc1 hz.out
    have x2 := lc2 hz.out
    have hW : Hid _ := hW
    have own1 : Hid _ := own1
    have own2 : Hid _ := own2
    go_wp2
  all_goals
    have hR3 := hR2.out
    have hsz := hR3.bel.size
    have hbn3 := hbn.out
    rw [htv.out] at hR3 hbn3
    have z0a := cell_alloc (w := W.drew) z0 (.cells #[.int .u8 kd, .string t, .int .i64 k] 118)
    have x0a := cell_alloc (w := W.drew) x0 (.cells #[.int .u8 kd, .string t, .int .i64 k] 118)
    have x1a := cell_alloc (w := W.drew) x1 (.cells #[.int .u8 kd, .string t, .int .i64 k] 118)
    have x2a := cell_alloc (w := W.drew) x2 (.cells #[.int .u8 kd, .string t, .int .i64 k] 118)
    have z0b' := cell_alloc (w := W) z0 (.cells #[.int .u8 kd, .string t, .int .i64 k] 118)
    have z0c' : (W.alloc (.cells #[.int .u8 kd, .string t, .int .i64 k] 118)).drew.cell? ⟨B, 0, none⟩ = some (.slice tp nt tc) := z0b'
    have after := hid_ fun w3 => toked_after (w3 := w3) (o := .cells #[.int .u8 kd, .string t, .int .i64 k] 118) hR3 hz.out hbn3
    have hne := hid_ (rows_ne hW.out hz.out)
    have hR3 : Hid _ := hR3
    clear hbn3
    have xa : Hid ((W.alloc (.cells #[.int .u8 kd, .string t, .int .i64 k] 118)).drew.cell? ⟨b, 0, none⟩ = some (.int .u8 kd) ∧ (W.alloc (.cells #[.int .u8 kd, .string t, .int .i64 k] 118)).drew.cell? ⟨b, 1, none⟩ = some (.string t) ∧ (W.alloc (.cells #[.int .u8 kd, .string t, .int .i64 k] 118)).drew.cell? ⟨b, 2, none⟩ = some (.int .i64 k)) := ⟨x0a, x1a, x2a⟩
    have xd : Hid (W.drew.cell? ⟨b, 0, none⟩ = some (.int .u8 kd) ∧ W.drew.cell? ⟨b, 1, none⟩ = some (.string t) ∧ W.drew.cell? ⟨b, 2, none⟩ = some (.int .i64 k)) := ⟨x0, x1, x2⟩
    go_region_law
      ((refine step_append_lies _ (by rfl) _ _ _ (by rfl) w0.heap.size 118 i1 _ 3 32 Tryz.underlying76 hi1 hy0 hy1 hy2 rfl (by omega) (.slice tp nt tc) nt ts (by rfl) ((World.ownsRow.drew own1.out).alloc _) ⟨W.heap.size, 0, none⟩ 1 1 [.int .u8 kd, .string t, .int .i64 k] (by rfl) (by rfl) (World.news_of_block (cs := #[.int .u8 kd, .string t, .int .i64 k]) (t := 118) (fr := (0, 0)) (heap_alloc_new W.drew _)) (by simp [Value.oneCell']) (by omega) (by unfold maxLen; omega) (by omega) (by simp; omega) (W.heap.size + 1) (by simp) ?_; intro g3 cap3 w3 hown3 hgrow3 hat3 hlt3; have zz : Hid _ := after.out w3 hgrow3; have wc := hid_ (set1_cells hne.out zz.out.2); have z0b := rc0 zz.out.1; have f0 := froz_of (i := 0) zz.out.1; have v0 := lc0 zz.out.2; have v1 := lc1 zz.out.2; have v2 := lc2 zz.out.2))
  all_goals
    have hrow : Hid ((w3.setCell ⟨B, 0, none⟩ (Value.slice (some ⟨g3, 0, none⟩) (nt + 1) cap3)).heap[B]? = some (.cells #[(Value.slice (some ⟨g3, 0, none⟩) (nt + 1) cap3), gv, .string s, .int .i64 k] 261 (0, 0))) := heap_setCell_same _ B 0 _ _ _ zz.out.1
    have c3 := rc3 hrow.out
    have f3c := froz_of (i := 3) hrow.out
    have wc1 := (wc.out 0 (Value.slice (some ⟨g3, 0, none⟩) (nt + 1) cap3)).2.1
    have hE := hid_ (Rd.toked (to_ := k + t.size) hR3.out hgrow3 hown3 zz.out.1)
    have wd := hid_ (set1_cells (w := w3.setCell ⟨B, 0, none⟩ (Value.slice (some ⟨g3, 0, none⟩) (nt + 1) cap3)) hne.out ((Below.heap_setCell w3 ⟨B, 0, none⟩ _ b hne.out).trans zz.out.2))
    clear z0 z2 z3 x0 x1 x2 z0a x0a x1a x2a z0b' z0c' v0 v1 v2 z0b f0 hrow wc zz hown3 hgrow3 hat3 hlt3
    generalize w3.setCell ⟨B, 0, none⟩ (Value.slice (some ⟨g3, 0, none⟩) (nt + 1) cap3) = W7 at *
    have wd2 : Hid (∀ u, (W7.setCell ⟨B, 3, none⟩ u).drew.cell? ⟨b, 1, none⟩ = some (.string t)) := fun u => (wd.out 3 u).2.1
    have wc2 : Hid (W7.drew.cell? ⟨b, 1, none⟩ = some (.string t)) := wc1
    go_wp2
    go_region
    go_wp2
    try rw [hwr.out]
    exact bodyPost_ret (v := .int .i64 0) (by simp [results, Tryz.results134, go_sem]) rfl ⟨rfl, _, hE.out.drewN 1⟩
end Lx
end Go.Proofs
namespace Go.Proofs
open Go.RowKit Go.Shelf Go.Sort
namespace Lx
/-- a gap, maybe an empty one, up to a place that begins none -/
structure GapTo (s : ByteArray) (k to_ : Nat) : Prop where
  le : k ≤ to_
  hi : to_ ≤ s.size
  blk : ∀ i, k ≤ i → i < to_ → blkB (by_ s i) = true
  stop : to_ < s.size → blkB (by_ s to_) = false ∧ by_ s to_ ≠ 126
theorem skip_any {w0 w : World} {B k to_ nt ng : Nat} {s : ByteArray} {tv gv : Value} {ts gs : List Value} (h : Rd w0 B s k tv gv nt ng ts gs w) (hG : GapTo s k to_) (hs : s.size ≤ 1000000) (hng : ng ≤ 1000000) :
    Calls Tryz.prog 133 #[.pointer (some ⟨B, 0, none⟩)] w fun e w' => e = .returned (.tuple #[]) ∧ ∃ gv2 ng2 gs2, ng2 ≤ ng + 1 ∧ Rd w0 B s to_ tv gv2 nt ng2 ts gs2 w' := by
  by_cases he : k = to_
  · subst he
    refine (skip_same h hG.hi hs hG.stop).mono ?_
    rintro e w' ⟨rfl, n, rfl⟩
    exact ⟨rfl, gv, ng, gs, by omega, h.drewN n⟩
  · refine (skip_more h (by have := hG.le; omega) hG.hi hs hng hG.blk hG.stop).mono ?_
    rintro e w' ⟨rfl, gv2, h2⟩
    exact ⟨rfl, gv2, _, _, Nat.le_refl _, h2⟩
/-- the tokens of a text from a place on -/
inductive Toks (s : ByteArray) (w0 : World) : Nat → List (Int × ByteArray × Nat) → Prop
  | done : Toks s w0 s.size []
  | step {k k2 : Nat} {kd : Int} {t : ByteArray} {l : List (Int × ByteArray × Nat)} (h1 : k < s.size) (h2 : k + t.size ≤ s.size) (h3 : 0 < t.size) (ht : TokC s k kd t w0) (hg : GapTo s (k + t.size) k2) (hr : Toks s w0 k2 l) : Toks s w0 k ((kd, t, k) :: l)
def tokCells : List (Int × ByteArray × Nat) → List Value
  | [] => []
  | (kd, t, k) :: l => .int .u8 kd :: .string t :: .int .i64 k :: tokCells l
theorem TokC.mono {s : ByteArray} {k : Nat} {kd : Int} {t : ByteArray} {w w2 : World} (h : TokC s k kd t w) (hb : Below w.heap.size w w2) : TokC s k kd t w2 := fun W hW => h W (hb.trans (hW.mono hb.size))
theorem Toks.mono {s : ByteArray} {w w2 : World} {k : Nat} {l : List (Int × ByteArray × Nat)} (h : Toks s w k l) (hb : Below w.heap.size w w2) : Toks s w2 k l := by
  induction h with
  | done => exact .done
  | step h1 h2 h3 ht hg _ ih => exact .step h1 h2 h3 (ht.mono hb) hg ih
/-- where the loop over the tokens is -/
structure RdAt (w0 : World) (B : Nat) (s : ByteArray) (l : List (Int × ByteArray × Nat)) (k : Nat) (wr : World) : Prop where
  at_ : ∃ tv gv nt ng ts gs rest, Rd w0 B s k tv gv nt ng ts gs wr ∧ Toks s w0 k rest ∧ ts ++ tokCells rest = tokCells l ∧ nt + rest.length = l.length ∧ ng ≤ nt + 1
set_option maxRecDepth 100000 in
theorem read_ok {w : World} {s : ByteArray} {k0 : Nat} {l : List (Int × ByteArray × Nat)} (hs : s.size ≤ 2500) (hl : l.length ≤ 900) (hby : ∀ i, i < s.size → by_ s i = 10 ∨ (32 ≤ by_ s i ∧ by_ s i ≤ 126)) (hG : GapTo s 0 k0) (hT : Toks s w k0 l) :
    Calls Tryz.prog 84 #[.string s] w fun e w' => ∃ tp tc gp ng gc, e = .returned (.tuple #[.agg #[.slice tp l.length tc, .slice gp ng gc], .int .i64 0, .int .i64 0]) ∧ Below w.heap.size w w' ∧ w'.ownsRow w.heap.size 118 3 (.slice tp l.length tc) l.length (tokCells l) := by
  have hc := fun w => check_c s hs hby w
  have hG : Hid (GapTo s 0 k0) := hG
  have hT : Hid (Toks s w k0 l) := hT
  clear hby
  go_enter Tryz.func84, Tryz.ntmps84
  go_wp2_with (first | (go_at_call 132; refine (hc _).mono ?_; rintro e w2 ⟨rfl, rfl⟩))
  have hb0 : Below w.heap.size w (w.alloc (.cells #[.slice none 0 0, .slice none 0 0] 196)) := (Below.refl _ _).alloc (Nat.le_refl _) _
  have sz0 : (w.alloc (.cells #[.slice none 0 0, .slice none 0 0] 196)).heap.size = w.heap.size + 1 := size_new _ _
  have hp0 : (w.alloc (.cells #[.slice none 0 0, .slice none 0 0] 196)).heap[w.heap.size]? = some (.cells #[.slice none 0 0, .slice none 0 0] 196 (0, 0)) := heap_alloc_new _ _
  have hT0 := hid_ (hT.out.mono hb0)
  generalize w.alloc (.cells #[.slice none 0 0, .slice none 0 0] 196) = w0 at *
  generalize hBB : w.heap.size + 1 = B0 at *
  have hBB := hid_ hBB
  have sz0 := hid_ sz0
  have hR0 : Rd w0 B0 s 0 (.slice none 0 0) (.slice none 0 0) 0 0 [] [] (w0.alloc (.cells #[.slice none 0 0, .slice none 0 0, .string s, .int .i64 0] 261)) := ⟨(Below.refl _ _).alloc (Nat.le_refl _) _, Nat.le_of_eq sz0.out, (by rw [← sz0.out]; exact heap_alloc_new _ _), World.ownsRow_nil _ _ _ _, World.ownsRow_nil _ _ _ _⟩
  generalize w0.alloc (.cells #[.slice none 0 0, .slice none 0 0, .string s, .int .i64 0] 261) = w1 at *
  have hk := skip_any (to_ := k0) hR0 hG.out (by omega) (by omega)
  refine hk.mono ?_
  rintro e w2 ⟨rfl, gv2, ng2, gs2, hng2, hR2⟩
  have hst : Hid (RdAt w0 B0 s l k0 w2) := ⟨_, _, _, _, _, _, l, hR2, hT0.out, rfl, by omega, by omega⟩
  have hp : Hid (w0.heap[w.heap.size]? = some (.cells #[.slice none 0 0, .slice none 0 0] 196 (0, 0))) := hp0
  clear hk hR0 hR2 hc hp0
  go_wp2
  go_loopw [8] (fun _ wr => ∃ k : Nat, RdAt w0 B0 s l k wr) (fun _ wr => s.size - (intOf ((wr.cell? ⟨B0, 3, none⟩).getD undef)).toNat)
  case atStart => exact ⟨k0, hst.out⟩
  case round =>
    obtain ⟨k, tv, gv, nt, ng, ts, gs, rest, hR, hTk, hts, hln, hng⟩ := hrel
    have x3 := rc3 hR.row
    have hRo := hid_ hR
    have hts := hid_ hts
    have X3 := hid_ x3
    cases hTk with
    | done =>
      have e0 : nt = l.length := hln
      subst e0
      obtain ⟨tp, tc, rfl⟩ := own_slice hR.own1
      obtain ⟨gp, gc, rfl⟩ := own_slice hR.own2
      have x0 := rc0 hR.row
      have x1 : wr.cell? ⟨B0, 1, none⟩ = some (.slice gp ng gc) := cell_of (i := 1) hR.row
      have hpw := hid_ ((hR.bel.block w.heap.size (by rw [sz0.out, ← hBB.out]; exact Nat.lt_succ_self _)).trans hp.out)
      have pc0 : wr.cell? ⟨w.heap.size, 0, none⟩ = some (.slice none 0 0) := cell_of (i := 0) hpw.out
      have pc1 : wr.cell? ⟨w.heap.size, 1, none⟩ = some (.slice none 0 0) := cell_of (i := 1) hpw.out
      have fp0 := froz_of (i := 0) hpw.out
      have fp1 := froz_of (i := 1) hpw.out
      have q1 : (wr.setCell ⟨w.heap.size, 0, none⟩ (Value.slice tp l.length tc)).heap[w.heap.size]? = some (.cells #[Value.slice tp l.length tc, .slice none 0 0] 196 (0, 0)) := heap_setCell_same _ w.heap.size 0 _ _ _ hpw.out
      have q2 : ((wr.setCell ⟨w.heap.size, 0, none⟩ (Value.slice tp l.length tc)).setCell ⟨w.heap.size, 1, none⟩ (Value.slice gp ng gc)).heap[w.heap.size]? = some (.cells #[Value.slice tp l.length tc, Value.slice gp ng gc] 196 (0, 0)) := heap_setCell_same _ w.heap.size 1 _ _ _ q1
      have q2 := hid_ q2
      have hbE := hid_ ((((hb0.trans (hR.bel.mono hb0.size)).setCell (p := ⟨w.heap.size, 0, none⟩) (Nat.le_refl _) (Value.slice tp l.length tc))).setCell (p := ⟨w.heap.size, 1, none⟩) (Nat.le_refl _) (Value.slice gp ng gc))
      have hoE : Hid (((wr.setCell ⟨w.heap.size, 0, none⟩ (Value.slice tp l.length tc)).setCell ⟨w.heap.size, 1, none⟩ (Value.slice gp ng gc)).ownsRow w.heap.size 118 3 (Value.slice tp l.length tc) l.length (tokCells l)) := by
        have e2 : ts = tokCells l := by rw [← hts.out]; simp [tokCells]
        rw [← e2]
        refine World.ownsRow.mono (base := w0.heap.size) (own_at hR.own1 fun g cs e1 e2 => ?_) hb0.size
        have n1 : g ≠ w.heap.size := by
          have := own_base hR.own1 e1
          have h5 := sz0.out
          have h6 := hBB.out
          omega
        rw [Below.heap_setCell _ _ _ _ n1, Below.heap_setCell _ _ _ _ n1]
      clear hR q1 hb0
      go_wp2
      generalize (wr.setCell ⟨w.heap.size, 0, none⟩ (Value.slice tp l.length tc)).setCell ⟨w.heap.size, 1, none⟩ (Value.slice gp ng gc) = WE at *
      have y0 : WE.cell? ⟨w.heap.size, 0, none⟩ = some (.slice tp l.length tc) := cell_of (i := 0) q2.out
      have y1 : WE.cell? ⟨w.heap.size, 1, none⟩ = some (.slice gp ng gc) := cell_of (i := 1) q2.out
      exact bodyPost_ret (v := .tuple #[.agg #[.slice tp l.length tc, .slice gp ng gc], .int .i64 0, .int .i64 0]) (by simp [results, Tryz.results84, go_sem, y0, y1]) rfl ⟨_, _, _, _, _, rfl, hbE.out, hoE.out⟩
    | @step k k2 kd t l' h1 h2 h3 ht hg hr =>
      have hr := hid_ hr
      have hg := hid_ hg
      have hln : nt + (l'.length + 1) = l.length := hln
      have hn := next_ok hR h2 (by omega) (by omega) ht
      clear hR ht
      go_wp2_with (first | (go_at_call 134; refine hn.mono ?_; rintro e w3 ⟨rfl, tv2, hR3⟩; have hR3 := hid_ hR3; clear x3) | (go_at_call 133; refine (skip_any hR3.out hg.out (by omega) (by omega)).mono ?_; rintro e w4 ⟨rfl, gv4, ng4, gs4, hng4, hR4⟩; have hR4 := hid_ hR4))
      have hk2 := hg.out.le
      have hk3 := hg.out.hi
      have e4 := rc3 hR4.out.row
      refine ⟨⟨k2, ⟨_, _, _, _, _, _, l', hR4.out, hr.out, ?_, by omega, by omega⟩⟩, ?_⟩
      · rw [← hts.out]; simp [tokCells]
      · rw [e4, X3.out]; simp [intOf]; omega
end Lx
end Go.Proofs
namespace Go.Proofs
open Go.RowKit Go.Shelf Go.Sort
namespace Lx
set_option maxRecDepth 100000 in
theorem Read_ok {w:World} {s:ByteArray} {k0:Nat} {l:List (Int × ByteArray × Nat)} (hs:s.size≤2500) (hl:l.length≤900) (hby:∀ i,i < s.size→by_ s i=10∨(32≤by_ s i∧by_ s i≤126)) (hG:GapTo s 0 k0) (hT:Toks s w k0 l) :
 Calls Tryz.prog 36 #[.string s] w fun e w'=>∃ tv,e = .returned (.tuple #[tv,.int .i64 0,.int .i64 0])∧Below w.heap.size w w'∧w'.ownsRow w.heap.size 118 3 tv l.length (tokCells l):=by
 have hr:=hid_ (read_ok hs hl hby hG hT)
 clear hby hG hT
 go_enter Tryz.func36,Tryz.ntmps36
 go_wp2_with (go_at_call 84; refine hr.out.mono ?_; rintro e w2 ⟨tp,tc,gp,ng,gc,rfl,hb,ho⟩; have hb:=hid_ hb; have ho:=hid_ ho)
 exact bodyPost_ret (v:=.tuple #[.slice tp l.length tc,.int .i64 0,.int .i64 0]) (by simp [results,Tryz.results36,go_sem]) rfl ⟨_,rfl,hb.out.alloc hb.out.size _,World.ownsRow.alloc ho.out _⟩
end Lx
end Go.Proofs
