/- PROVED HERE: the tied card of LibTexts (floodgatelaw25): the call returns true, and its argument reads as before, for every text that its given row takes in. CONDITIONS: those of the given row and card, none beside them. HOW: an evaluator of Go calls is proved sound (parts Eva to Evf), the closed runs are reckoned with it by the kernel (parts Lt), a name that is none of the library's is walked by the kit's tactics (part Wk), the row and the card stand in Cf and Cp. Part Cp. -/
import Derived.Test.YtlophehgfmdakaaGreatDoorRows
import Derived.Test.YtlophehgfmdakaaGreatDoorCards
import Derived.ProofKit
import Derived.Lay
import Derived.LaidOnce
import Derived.SevenTiedAt
import Derived.MakeChecks
import Derived.Test.YtlophehgfmdakaaGreatDoorLtF
import Derived.Test.YtlophehgfmdakaaGreatDoorTc
import Derived.Test.YtlophehgfmdakaaGreatDoorCfg
namespace Go.Proofs.YtlophehgfmdakaaGreatDoor
open Go.ChangeShapes Go.WideShapes Go.ChangeAt Go.RowKit Go.Ev
open Go.ChangeMaps (open_string shut_string)

theorem own : ownKnob Tryz.prog.godebug = none := by kernel_rfl

theorem tabN : Tryz.prog.globalNamed "internal/strconv.uint64pow10" = some 0 := by kernel_rfl
theorem tabY : (Tryz.prog.globals[0]?).map (·.type) = some 418 := by kernel_rfl
theorem tabU : Tryz.prog.underlying 418 = some (.array 20 339) := by kernel_rfl
theorem tabK : Tryz.prog.underlying 339 = some (.int .u64) := by kernel_rfl
theorem tabC1 : Tryz.prog.cellsOf 339 = 1 := by kernel_rfl
theorem tabC2 : Tryz.prog.cellsOf 418 = 20 := by kernel_rfl
theorem keptBut_of_keep {w w' : World} {may : MemPlace → Prop} (h1 : w'.os = w.os) (h2 : w'.output = w.output) (h3 : ∀ b, b < w.heap.size → w'.heap[b]? = w.heap[b]?) : w.keptBut w' may := by
  refine ⟨h1, h2, fun i hi => ?_⟩
  rw [h3 i hi]
  cases w.heap[i]? with
  | none => rfl
  | some o => cases o <;> simp

set_option maxRecDepth 100000 in
set_option maxHeartbeats 10000000 in
theorem lifted (os : Os) (started : os.Started) (H : Type) (enc : TypeId × Value → H) :
    ReturnsInHanded {} Tryz.checked os 4 .any (fun w args => (Rows.libTextsSpec.pre enc Tryz.prog Tryz.f4 [] false w args ∧ laidMetH Tryz.prog Rows.libTextsRow.laid w) ∧ sizedMet enc Tryz.prog Tryz.f4 (OpenSpec.ofChange Rows.libTextsSpec) false w args)
      (Rows.libTextsSpec.post enc Tryz.prog Tryz.f4 false true false false) := by
  refine returnsInHanded_of_change_and (C := Tryz.checked) (X := fun w _ => laidMetH Tryz.prog Rows.libTextsRow.laid w) (fun _ _ _ hh h => h.of_heap hh) own started (by kernel_rfl) Tryz.func4
    (ChangeSpec.witness_shaped (enc := enc) (C := Tryz.checked) (os := os) (X := fun w _ => laidMetH Tryz.prog Rows.libTextsRow.laid w) false (World.laidAll Tryz.prog os Rows.libTextsRow.laid) #[.string ⟨#[]⟩] 8 (World.laidAll_os _ _ _)
      (World.shaped_of_ZipB (by kernel_rfl) (by kernel_rfl)) (by kernel_rfl) (by kernel_rfl) (by kernel_rfl)
      (by rw [MakeChecks.laidMetH_plain _ _ _ (by kernel_rfl)]; exact laidMet_laidAll _ (by kernel_rfl) (by kernel_rfl))) ?_
  intro W base args ds gs before hval0 hW _ _ hL _
  have hval : ∀ (j : Nat) t v, Tryz.f4.params[j]? = some t → args[j]? = some v → Value.okWide Tryz.prog W .any base t v := hval0
  have hW' := hW
  obtain ⟨p, q, hA0, hV, rfl, _, _⟩ := hW
  have hA : DataW.TrodAll enc Tryz.prog W 0 (fun _ => true) true Tryz.f4.params.toList args.toList ds p := hA0
  rw [Tryz.params4] at hA hval
  obtain ⟨v0, d0, rfl, rfl, h0⟩ := trodAll_one hA
  obtain ⟨rfl, rfl⟩ := trodVars_none hV
  obtain ⟨s, rfl, rfl, rfl, wa⟩ := open_string Tryz.underlying9 (hval 0 9 v0 rfl rfl) h0
  clear hA0 hval0
  refine (texts_final s (tab_of_laid tabN tabY tabU tabK tabC1 tabC2 hL (List.mem_of_getElem? (i := 2) rfl) rfl)).mono fun e W' ⟨he, hB⟩ => ?_
  subst he
  exact ⟨_, rfl, _, _, _, [], [], [], hW', trodAll_mk1 (shut_bool Tryz.underlying4 _), trodAll_mk1 (shut_string Tryz.underlying9 wa), rfl, keptBut_of_keep hB.os hB.output hB.block, fun h => by cases h⟩

set_option maxHeartbeats 10000000 in
theorem holds : Rows.LibTextsSaid :=
  OpenClaim.holds_of_wide 4 Tryz.f4 rfl rfl rfl rfl rfl rfl rfl ⟨rfl, rfl, rfl, rfl, rfl⟩ rfl rfl rfl rfl rfl named_func Tryz.func4 facts3
    (of_decide_eq_true (by as_aux_lemma => kernel_rfl)) (by unfold Func.isWrapper; first | (rw [if_pos (by as_aux_lemma => decide +kernel)]; as_aux_lemma => kernel_rfl) | (rw [if_neg (by as_aux_lemma => decide +kernel)]; exact ⟨rfl, rfl⟩))
    (fun os started H enc _ => lifted os started H enc)

theorem wf_card : Rows.libTextsRow.wfByText (OpenSpec.ofChange Rows.libTextsSpec) = true := by kernel_rfl
theorem main_card : Tryz.prog.mainIs = some (true, "e8d36137d4f1b1917694407783dbb559664cb36ee74f941d4dea4e22cfd71bee".toList) := by kernel_rfl
theorem looks_card : true = Tryz.prog.looks [] := by kernel_rfl
theorem standIn9 : Tryz.prog.wantsStandIn 9 = false := by kernel_rfl
theorem card_holds : Rows.LibTextsCardSaid :=
  Claim7.holds_tied_plain_at .later [] [.sentinel, .sentinel, .data, .data, .data] true (true, "e8d36137d4f1b1917694407783dbb559664cb36ee74f941d4dea4e22cfd71bee") true holds (fun _ h => by cases h) wf_card (fun _ h => by cases h) textsTie rfl ⟨rfl, rfl⟩ main_card rfl
    (fun f fn hf hfn => by
      obtain rfl : f = 4 := Option.some.inj (named_func.symm.trans hf) |>.symm
      obtain rfl : fn = Tryz.f4 := (Option.some.inj (Tryz.func4.symm.trans hfn)).symm
      exact ⟨looks_card, fun j t ht => by
        rw [Tryz.params4] at ht
        rcases j with _ | j
        · obtain rfl : t = 9 := by simpa using ht.symm
          exact standIn9
        · simp at ht⟩)
    goes3
end Go.Proofs.YtlophehgfmdakaaGreatDoor

