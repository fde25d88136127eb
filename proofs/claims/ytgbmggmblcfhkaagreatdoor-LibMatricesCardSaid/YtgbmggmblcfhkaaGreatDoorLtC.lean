/- PROVED HERE: a part (LtC) of the tied card of LibMatrices (floodgatelaw25): the call returns true and its arguments read as before. CONDITIONS: those of the given row and card alone. HOW: an evaluator of Go calls with unknown integers is proved sound (Eva to Evg), functions of the closure are walked and answered by readers of the heap (Wk, Wv, Oa, Ob), the runs are reckoned by the kernel (Lt), the statement itself is walked (Wm), the row and the card stand in Cf and Cp. -/
import Derived.Test.YtgbmggmblcfhkaaGreatDoorLtV
import Derived.Test.YtgbmggmblcfhkaaGreatDoorEvg
import Derived.Test.YtgbmggmblcfhkaaGreatDoorLtN
import Derived.KernelRfl
import Derived.Test.YtgbmggmblcfhkaaGreatDoorSh
import Derived.Test.YtgbmggmblcfhkaaGreatDoorOb
open Go Go.Ev Go.Proofs Go.RowKit
namespace Go.Ev
set_option maxRecDepth 1000000
theorem hg : Tryz.prog.globalNamed "internal/strconv.uint64pow10" = some ((Tryz.prog.globalNamed "internal/strconv.uint64pow10").getD 0) := by kernel_rfl
noncomputable def PE : Env := Env.tab Tryz.prog "internal/strconv.uint64pow10" _ hg .u64 Lib.pow10Tab
theorem hmP : PE.follows .mixedOrders = true := by
  show Tryz.prog.follows .mixedOrders = true
  kernel_rfl
theorem hn0 : Tryz.prog.funcs.all (fun fn => !(fn.name == "runtime.NumGoroutine")) = true := by kernel_rfl
theorem hnameP : ∀ (f : FuncId) (fn : Func), PE.funcs[f]? = some fn → fn.name ≠ "runtime.NumGoroutine" := by
  intro f fn h hn
  have h1 := Array.all_eq_true.1 hn0
  have h2 : Tryz.prog.funcs[f]? = some fn := h
  obtain ⟨hl, h3⟩ := Array.getElem?_eq_some_iff.1 h2
  have := h1 f hl
  rw [h3, hn] at this
  simp at this
end Go.Ev
open Go Go.Ev Go.Proofs Go.RowKit Go.Shelf Go.Sort
namespace Go.Ev
theorem eRep : ∀ args w, (callFunc 421 args).run PE.toProgram w = .ok (.enter 421 args) w := enters_of Tryz.func421 (by kernel_rfl) rfl
theorem eIt : ∀ args w, (callFunc 39 args).run PE.toProgram w = .ok (.enter 39 args) w := enters_of Tryz.func39 (by kernel_rfl) rfl
theorem exRep : Builder.Extra Tryz.prog Tryz.laysRep_ren := {
  sizeBuilder := by kernel_rfl
  liesBuilder := by kernel_rfl
  t5 := Tryz.underlying5
  a5 := Tryz.isAgg5
  z5 := Tryz.sizeOf5
  v5 := Tryz.zeroValue5
  infoByte := by kernel_rfl
  cellsByte := by kernel_rfl
  sizeByte := by kernel_rfl
  neB5 := by decide }
theorem cRep : ∀ (s : ByteArray) (c : Nat) (w : World), c ≤ 9223372036854775807 → s.size * c ≤ 140737488355328 → Calls PE.toProgram 421 #[.string s, .int .i64 c] w fun e w' => e = .returned (.string ⟨(Lib.repeatL s.data.toList c).toArray⟩) ∧ Below w.heap.size w w' :=
  fun s c w h1 h2 => Any.strings_Repeat Tryz.laysRep exRep s c w h1 h2
theorem cItoa (w : World) (h : Lib.TabIs Tryz.prog w "internal/strconv.uint64pow10" .u64 Lib.pow10Tab) : Calls Tryz.prog 39 #[.int .i64 (-2)] w fun e w' => e = .returned (.string ⟨(Lib.itoa (-2)).toArray⟩) ∧ ∃ k os, w' = grow (w.drewN k) os :=
  Any.strconv_Itoa Tryz.laysIt (-2) (by decide) (by decide) w h
theorem itoa2 : bytesOf ⟨(Lib.itoa (-2)).toArray⟩ = [45, 50] := by decide +kernel
theorem none_ok : KnownV PE 67 [.lst (some 0) []] (.lst (some 0) []) := knownV_runNil hmP hnameP orcN_ok t_N
theorem none_okI : KnownV PE 40 [.lst (some 0) []] (.lst (some 0) []) := knownV_runNil hmP hnameP orcN_ok t_M
theorem grow_below (w : World) (k : Nat) (os : Array Obj) : Below w.heap.size w (grow (w.drewN k) os) := ⟨rfl, rfl, rfl, by show w.heap.size ≤ (w.heap ++ os).size; simp, fun j hj => by show (w.heap ++ os)[j]? = w.heap[j]?; exact Array.getElem?_append_left hj⟩
theorem oR_ok : OrcOk PE oR := by
  refine orcBoth_ok (orcRep_ok eRep cRep) (orcBoth_ok (orcIt_ok eIt ?_) (orcBoth_ok (orcNil_ok none_ok) (orcNil_ok none_okI)))
  intro n s h w hi _
  have h : (n, s) = (.negSucc 1, [45, 50]) := by simpa using h
  cases h
  refine ⟨⟨(Lib.itoa (-2)).toArray⟩, itoa2, (cItoa w hi).mono ?_⟩
  rintro e w' ⟨rfl, k, os, rfl⟩
  exact ⟨rfl, grow_below w k os⟩
theorem e98 : ∀ vs w, (callFunc 98 vs).run PE.toProgram w = .ok (.enter 98 vs) w := enters_of Tryz.func98 (by kernel_rfl) rfl
theorem e151 : ∀ vs w, (callFunc 151 vs).run PE.toProgram w = .ok (.enter 151 vs) w := enters_of Tryz.func151 (by kernel_rfl) rfl
theorem e150 : ∀ vs w, (callFunc 150 vs).run PE.toProgram w = .ok (.enter 150 vs) w := enters_of Tryz.func150 (by kernel_rfl) rfl
theorem e157 : ∀ vs w, (callFunc 157 vs).run PE.toProgram w = .ok (.enter 157 vs) w := enters_of Tryz.func157 (by kernel_rfl) rfl
theorem e294 : ∀ vs w, (callFunc 294 vs).run PE.toProgram w = .ok (.enter 294 vs) w := enters_of Tryz.func294 (by kernel_rfl) rfl
theorem orcS_ok : OrcOk PE (orcBoth orcP (orcBoth orcC orcT)) := orcBoth_ok (orcP_ok rfl e294) (orcBoth_ok (orcC_ok rfl e98 e151 e150) (orcT_ok rfl e157))
end Go.Ev
