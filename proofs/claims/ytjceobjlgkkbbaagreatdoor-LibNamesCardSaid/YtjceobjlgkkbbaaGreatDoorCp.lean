/- PROVED HERE: a part (Cp) of the tied card of LibNames (floodgatelaw25): the call returns true. CONDITIONS: those of the given row and card alone. HOW: an evaluator of Go calls is proved sound (Eva to Evg), four of the closure's functions are walked and answered by readers of the heap (Wk, Wv, Oa, Ob), the closed runs are reckoned by the kernel (Lt), the row and the card stand in Cf and Cp. -/
import Derived.Test.YtjceobjlgkkbbaaGreatDoorRows
import Derived.Test.YtjceobjlgkkbbaaGreatDoorCards
import Derived.ProofKit
import Derived.Lay
import Derived.LaidOnce
import Derived.SevenTiedAt
import Derived.MakeChecks
import Derived.Test.YtjceobjlgkkbbaaGreatDoorLtF
import Derived.Test.YtjceobjlgkkbbaaGreatDoorTc
import Derived.Test.YtjceobjlgkkbbaaGreatDoorCfg
import Derived.Test.YtjceobjlgkkbbaaGreatDoorCfl
namespace Go.Proofs.YtjceobjlgkkbbaaGreatDoor
open Go.ChangeShapes Go.WideShapes Go.ChangeAt Go.RowKit Go.Ev

theorem own : ownKnob Tryz.prog.godebug = none := by kernel_rfl

theorem tabN : Tryz.prog.globalNamed "internal/strconv.uint64pow10" = some 0 := by kernel_rfl
theorem tabY : (Tryz.prog.globals[0]?).map (·.type) = some 598 := by kernel_rfl
theorem tabU : Tryz.prog.underlying 598 = some (.array 20 488) := by kernel_rfl
theorem tabK : Tryz.prog.underlying 488 = some (.int .u64) := by kernel_rfl
theorem tabC1 : Tryz.prog.cellsOf 488 = 1 := by kernel_rfl
theorem tabC2 : Tryz.prog.cellsOf 598 = 20 := by kernel_rfl
theorem keptBut_of_keep {w w' : World} {may : MemPlace → Prop} (h1 : w'.os = w.os) (h2 : w'.output = w.output) (h3 : ∀ b, b < w.heap.size → w'.heap[b]? = w.heap[b]?) : w.keptBut w' may := by
  refine ⟨h1, h2, fun i hi => ?_⟩
  rw [h3 i hi]
  cases w.heap[i]? with
  | none => rfl
  | some o => cases o <;> simp

set_option maxRecDepth 100000 in
set_option maxHeartbeats 10000000 in
theorem lifted (os : Os) (started : os.Started) (H : Type) (enc : TypeId × Value → H) :
    ReturnsInHanded {} Tryz.checked os 3 .any (fun w args => (Rows.libNamesSpec.pre enc Tryz.prog Tryz.f3 [] false w args ∧ laidMetH Tryz.prog Rows.libNamesRow.laid w) ∧ sizedMet enc Tryz.prog Tryz.f3 (OpenSpec.ofChange Rows.libNamesSpec) false w args)
      (Rows.libNamesSpec.post enc Tryz.prog Tryz.f3 false true false false) := by
  refine returnsInHanded_of_change_and (C := Tryz.checked) (X := fun w _ => laidMetH Tryz.prog Rows.libNamesRow.laid w) (fun _ _ _ hh h => h.of_heap hh) own started (by as_aux_lemma => kernel_rfl) Tryz.func3
    (ChangeSpec.witness_shaped (enc := enc) (C := Tryz.checked) (os := os) (X := fun w _ => laidMetH Tryz.prog Rows.libNamesRow.laid w) false (World.laidAll Tryz.prog os Rows.libNamesRow.laid) #[] 8 (World.laidAll_os _ _ _)
      (World.shaped_of_ZipB (wf1 os) (wf2 os)) (by as_aux_lemma => kernel_rfl) (by as_aux_lemma => kernel_rfl) (by as_aux_lemma => kernel_rfl)
      (by rw [MakeChecks.laidMetH_plain _ _ _ (by as_aux_lemma => kernel_rfl)]; exact laidMet_laidAll _ (wf3 os) (wf4 os))) ?_
  intro W base args ds gs before hval0 hW _ _ hL _
  have hW' := hW
  obtain ⟨p, q, hA0, hV, rfl, _, _⟩ := hW
  have hA : DataW.TrodAll enc Tryz.prog W 0 (fun _ => true) true Tryz.f3.params.toList args.toList ds p := hA0
  rw [Tryz.params3] at hA
  obtain ⟨ha, rfl, rfl⟩ := trodAll_nil hA
  obtain ⟨rfl, rfl⟩ := trodVars_none hV
  obtain rfl : args = #[] := Array.ext' ha
  refine (names_final (tab_of_laid tabN tabY tabU tabK tabC1 tabC2 hL (List.mem_of_getElem? (i := 2) rfl) rfl)).mono fun e W' ⟨he, hB⟩ => ?_
  subst he
  exact ⟨_, rfl, _, _, _, [], [], [], hW', trodAll_mk1 (shut_bool Tryz.underlying4 _), trodAll_mk0, rfl, keptBut_of_keep hB.os hB.output hB.block, fun h => by cases h⟩

set_option maxHeartbeats 10000000 in
theorem holds : Rows.LibNamesSaid :=
  OpenClaim.holds_of_wide 3 Tryz.f3 rfl rfl rfl rfl rfl rfl rfl ⟨rfl, rfl, rfl, rfl, rfl⟩ rfl rfl rfl rfl rfl named_func Tryz.func3 facts3
    (of_decide_eq_true (by as_aux_lemma => kernel_rfl)) (by unfold Func.isWrapper; first | (rw [if_pos (by as_aux_lemma => decide +kernel)]; as_aux_lemma => kernel_rfl) | (rw [if_neg (by as_aux_lemma => decide +kernel)]; exact ⟨rfl, rfl⟩))
    (fun os started H enc _ => lifted os started H enc)

theorem wf_card : Rows.libNamesRow.wfByText (OpenSpec.ofChange Rows.libNamesSpec) = true := by kernel_rfl
theorem main_card : Tryz.prog.mainIs = some (true, "795fcfb61a1a131fce1760a1199a54ebe12cd252d2da46df3895a0bcc6dabd37".toList) := by kernel_rfl
theorem looks_card : true = Tryz.prog.looks [] := by kernel_rfl
theorem card_holds : Rows.LibNamesCardSaid :=
  Claim7.holds_tied_plain_at .later [] [.sentinel, .sentinel, .data, .data, .data, .pinned, .data] true (true, "795fcfb61a1a131fce1760a1199a54ebe12cd252d2da46df3895a0bcc6dabd37") true holds (fun _ h => by cases h) wf_card (fun _ h => by cases h) libNames_row_tie rfl ⟨rfl, rfl⟩ main_card rfl
    (fun f fn hf hfn => by
      obtain rfl : f = 3 := Option.some.inj (named_func.symm.trans hf) |>.symm
      obtain rfl : fn = Tryz.f3 := (Option.some.inj (Tryz.func3.symm.trans hfn)).symm
      exact ⟨looks_card, fun j t ht => by
        rw [Tryz.params3] at ht
        simp at ht⟩)
    goes3
end Go.Proofs.YtjceobjlgkkbbaaGreatDoor
