/- PROVED HERE: the tied card of DebugNames (floodgatelaw24): the call returns true, for every input that its given row takes in (it has no arguments). CONDITIONS: those of the given row and card, none beside them. HOW: an evaluator of Go calls is proved sound (parts Eva to Evd), the closed run is reckoned with it by the kernel in pieces (Da to Dl), the row's closed facts stand in Cf and Cg, the row and the card in Cp. Part Cp. -/
import Derived.Test.YtlclikemcipniaaGreatDoorRows
import Derived.Test.YtlclikemcipniaaGreatDoorTie
import Derived.Test.YtlclikemcipniaaGreatDoorCards
import Derived.ProofKit
import Derived.Lay
import Derived.LaidOnce
import Derived.SevenTiedAt
import Derived.MakeChecks
import Derived.Test.YtlclikemcipniaaGreatDoorDl
import Derived.Test.YtlclikemcipniaaGreatDoorCg
namespace Go.Proofs.YtlclikemcipniaaGreatDoor
open Go.ChangeShapes Go.WideShapes Go.ChangeAt Go.RowKit

theorem own : ownKnob Tryz.prog.godebug = none := by kernel_rfl

theorem keptBut_of_keep {w w' : World} {may : MemPlace → Prop} (h1 : w'.os = w.os) (h2 : w'.output = w.output) (h3 : ∀ b, b < w.heap.size → w'.heap[b]? = w.heap[b]?) : w.keptBut w' may := by
  refine ⟨h1, h2, fun i hi => ?_⟩
  rw [h3 i hi]
  cases w.heap[i]? with
  | none => rfl
  | some o => cases o <;> simp

set_option maxRecDepth 100000 in
set_option maxHeartbeats 10000000 in
theorem lifted (os : Os) (started : os.Started) (H : Type) (enc : TypeId × Value → H) :
    ReturnsInHanded {} Tryz.checked os 3 .any (fun w args => (Rows.debugNamesSpec.pre enc Tryz.prog Tryz.f3 [] false w args ∧ laidMetH Tryz.prog Rows.debugNamesRow.laid w) ∧ sizedMet enc Tryz.prog Tryz.f3 (OpenSpec.ofChange Rows.debugNamesSpec) false w args)
      (Rows.debugNamesSpec.post enc Tryz.prog Tryz.f3 false true false false) := by
  refine returnsInHanded_of_change_and (C := Tryz.checked) (X := fun w _ => laidMetH Tryz.prog Rows.debugNamesRow.laid w) (fun _ _ _ hh h => h.of_heap hh) own started (by kernel_rfl) Tryz.func3
    (ChangeSpec.witness_shaped (enc := enc) (C := Tryz.checked) (os := os) (X := fun w _ => laidMetH Tryz.prog Rows.debugNamesRow.laid w) false (World.laidAll Tryz.prog os Rows.debugNamesRow.laid) #[] 8 (World.laidAll_os _ _ _)
      (World.shaped_of_ZipB (by kernel_rfl) (by kernel_rfl)) (by kernel_rfl) (by kernel_rfl) (by kernel_rfl)
      (by rw [MakeChecks.laidMetH_plain _ _ _ (by kernel_rfl)]; exact laidMet_laidAll _ (by kernel_rfl) (by kernel_rfl))) ?_
  intro W base args ds gs before hval0 hW _ _ hL _
  have hW' := hW
  obtain ⟨p, q, hA0, hV, rfl, _, _⟩ := hW
  have hA : DataW.TrodAll enc Tryz.prog W 0 (fun _ => true) true Tryz.f3.params.toList args.toList ds p := hA0
  rw [Tryz.params3] at hA
  obtain ⟨ha, rfl, rfl⟩ := trodAll_nil hA
  obtain ⟨rfl, rfl⟩ := trodVars_none hV
  obtain rfl : args = #[] := Array.ext' ha
  obtain ⟨_, h2⟩ := Go.Ev.Db.names_closed W
  refine (callsIn_wide.1 (h2 0)).mono fun e W' ⟨cv, he, g1, g2, g3, g4, g5, _⟩ => ?_
  have hcv : cv = .bool true := by cases g1 (fun _ => none); rfl
  subst hcv; subst he
  exact ⟨_, rfl, _, _, _, [], [], [], hW', trodAll_mk1 (shut_bool Tryz.underlying4 _), trodAll_mk0, rfl, keptBut_of_keep g4 g5 g3, fun h => by cases h⟩

set_option maxHeartbeats 10000000 in
theorem holds : Rows.DebugNamesSaid :=
  OpenClaim.holds_of_wide 3 Tryz.f3 rfl rfl rfl rfl rfl rfl rfl ⟨rfl, rfl, rfl, rfl, rfl⟩ rfl rfl rfl rfl rfl named_func Tryz.func3 facts3
    (of_decide_eq_true (by as_aux_lemma => kernel_rfl)) (by unfold Func.isWrapper; first | (rw [if_pos (by as_aux_lemma => decide +kernel)]; as_aux_lemma => kernel_rfl) | (rw [if_neg (by as_aux_lemma => decide +kernel)]; exact ⟨rfl, rfl⟩))
    (fun os started H enc _ => lifted os started H enc)

theorem wf_card : Rows.debugNamesRow.wfByText (OpenSpec.ofChange Rows.debugNamesSpec) = true := by kernel_rfl
theorem main_card : Tryz.prog.mainIs = some (true, "9bdd8a9c622cb5f586cf9058b0545babfd5e7d85b04a956ad64546f54b4e699c".toList) := by kernel_rfl
theorem looks_card : false = Tryz.prog.looks [] := by kernel_rfl
theorem card_holds : Rows.DebugNamesCardSaid :=
  Claim7.holds_tied_plain_at .later [] [.data, .data, .data, .pinned] true (true, "9bdd8a9c622cb5f586cf9058b0545babfd5e7d85b04a956ad64546f54b4e699c") false holds (fun _ h => by cases h) wf_card (fun _ h => by cases h) debugNames_row_tie rfl ⟨rfl, rfl⟩ main_card rfl
    (fun f fn hf hfn => by
      obtain rfl : f = 3 := Option.some.inj (named_func.symm.trans hf) |>.symm
      obtain rfl : fn = Tryz.f3 := (Option.some.inj (Tryz.func3.symm.trans hfn)).symm
      exact ⟨looks_card, fun j t ht => by
        rw [Tryz.params3] at ht
        simp at ht⟩)
    goes3
#print axioms card_holds
end Go.Proofs.YtlclikemcipniaaGreatDoor

