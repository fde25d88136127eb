/- PROVED HERE: a part (Cp) of the tied card of LibMatrices (floodgatelaw25): the call returns true and its arguments read as before. CONDITIONS: those of the given row and card alone. HOW: an evaluator of Go calls with unknown integers is proved sound (Eva to Evg), functions of the closure are walked and answered by readers of the heap (Wk, Wv, Oa, Ob), the runs are reckoned by the kernel (Lt), the statement itself is walked (Wm), the row and the card stand in Cf and Cp. -/
import Derived.Test.YtgbmggmblcfhkaaGreatDoorRows
import Derived.Test.YtgbmggmblcfhkaaGreatDoorCards
import Derived.ProofKit
import Derived.Lay
import Derived.LaidOnce
import Derived.SevenTiedAt
import Derived.MakeChecks
import Derived.Carry
import Derived.Test.YtgbmggmblcfhkaaGreatDoorLtF
import Derived.Test.YtgbmggmblcfhkaaGreatDoorTc
import Derived.Test.YtgbmggmblcfhkaaGreatDoorCfg
namespace Go.Proofs.YtgbmggmblcfhkaaGreatDoor
open Go.ChangeShapes Go.WideShapes Go.ChangeAt Go.RowKit Go.Ev

theorem own : ownKnob Tryz.prog.godebug = none := by kernel_rfl

theorem tabN : Tryz.prog.globalNamed "internal/strconv.uint64pow10" = some 0 := by kernel_rfl
theorem tabY : (Tryz.prog.globals[0]?).map (·.type) = some 395 := by kernel_rfl
theorem tabU : Tryz.prog.underlying 395 = some (.array 20 314) := by kernel_rfl
theorem tabK : Tryz.prog.underlying 314 = some (.int .u64) := by kernel_rfl
theorem tabC1 : Tryz.prog.cellsOf 314 = 1 := by kernel_rfl
theorem tabC2 : Tryz.prog.cellsOf 395 = 20 := by kernel_rfl
theorem keptBut_of_keep {w w' : World} {may : MemPlace → Prop} (h1 : w'.os = w.os) (h2 : w'.output = w.output) (h3 : ∀ b, b < w.heap.size → w'.heap[b]? = w.heap[b]?) : w.keptBut w' may := by
  refine ⟨h1, h2, fun i hi => ?_⟩
  rw [h3 i hi]
  cases w.heap[i]? with
  | none => rfl
  | some o => cases o <;> simp

set_option maxRecDepth 100000 in
set_option maxHeartbeats 10000000 in
theorem lifted (os : Os) (started : os.Started) (H : Type) (enc : TypeId × Value → H) :
    ReturnsInHanded {} Tryz.checked os 3 .any (fun w args => (Rows.libMatricesSpec.pre enc Tryz.prog Tryz.f3 [] false w args ∧ laidMetH Tryz.prog Rows.libMatricesRow.laid w) ∧ sizedMet enc Tryz.prog Tryz.f3 (OpenSpec.ofChange Rows.libMatricesSpec) false w args)
      (Rows.libMatricesSpec.post enc Tryz.prog Tryz.f3 false true false false) := by
  refine returnsInHanded_of_change_and (C := Tryz.checked) (X := fun w _ => laidMetH Tryz.prog Rows.libMatricesRow.laid w) (fun _ _ _ hh h => h.of_heap hh) own started (by kernel_rfl) Tryz.func3
    (ChangeSpec.witness_shaped (enc := enc) (C := Tryz.checked) (os := os) (X := fun w _ => laidMetH Tryz.prog Rows.libMatricesRow.laid w) false (World.laidAll Tryz.prog os Rows.libMatricesRow.laid) #[.slice none 0 0, .slice none 0 0, .int .u8 0] 8 (World.laidAll_os _ _ _)
      (World.shaped_of_ZipB (by kernel_rfl) (by kernel_rfl)) (by kernel_rfl) (by kernel_rfl) (by kernel_rfl)
      (by rw [MakeChecks.laidMetH_plain _ _ _ (by kernel_rfl)]; exact laidMet_laidAll _ (by kernel_rfl) (by kernel_rfl))) ?_
  intro W base args ds gs before hval0 hW _ _ hL _
  have hval : ∀ (j : Nat) t v, Tryz.f3.params[j]? = some t → args[j]? = some v → Value.okWide Tryz.prog W .any base t v := hval0
  have hW' := hW
  obtain ⟨p, q, hA0, hV, rfl, _, _⟩ := hW
  have hA : DataW.TrodAll enc Tryz.prog W 0 (fun _ => true) true Tryz.f3.params.toList args.toList ds p := hA0
  rw [Tryz.params3] at hA hval
  obtain ⟨v0, v1, v2, d0, d1, d2, p0, p1, p2, rfl, rfl, rfl, h0, h1, h2⟩ := trodAll_three hA
  obtain ⟨rfl, rfl⟩ := trodVars_none hV
  obtain ⟨x, rfl, rfl, rfl, hx⟩ := open_int Tryz.underlying5 (hval 2 5 v2 rfl rfl) h2
  have h0k := h0
  have h1k := h1
  obtain ⟨la, ha, ra, hla⟩ := Lm.has8_trod (hval 0 22 v0 rfl rfl) h0
  obtain ⟨lb, hb, rb, hlb⟩ := Lm.has8_trod (hval 1 22 v1 rfl rfl) h1
  clear hA0 hval0
  have hlt0 : ∀ x ∈ p0, x.block < W.heap.size := fun x hx => by simpa using hW'.lt x (by simp [hx])
  have hlt1 : ∀ x ∈ p1, x.block < W.heap.size := fun x hx => by simpa using hW'.lt x (by simp [hx])
  refine (mats_final (tab_of_laid tabN tabY tabU tabK tabC1 tabC2 hL (List.mem_of_getElem? (i := 2) rfl) rfl) (Lm.wfU8 hx).1 (Lm.wfU8 hx).2 ra rb (by unfold maxLen at hla; omega) (by unfold maxLen at hlb; omega) ha hb).mono fun e W' ⟨he, hB⟩ => ?_
  subst he
  have hT := trodAll_mk3 (Below.trod laidOut3 (by kernel_rfl) (of_decide_eq_true (by kernel_rfl)) h0k hB hlt0) (Below.trod laidOut3 (by kernel_rfl) (of_decide_eq_true (by kernel_rfl)) h1k hB hlt1) (shut_int (enc := enc) (base := 0) (spare := fun b => decide (b < W.heap.size)) (held := true) (w := W') Tryz.underlying5 hx)
  rw [← List.append_assoc] at hT
  exact ⟨_, rfl, _, _, _, [], p0 ++ p1 ++ [], [], hW', trodAll_mk1 (shut_bool Tryz.underlying4 _), hT, rfl, keptBut_of_keep hB.os hB.output hB.block, fun h => by cases h⟩

set_option maxHeartbeats 10000000 in
theorem holds : Rows.LibMatricesSaid :=
  OpenClaim.holds_of_wide 3 Tryz.f3 rfl rfl rfl rfl rfl rfl rfl ⟨rfl, rfl, rfl, rfl, rfl⟩ rfl rfl rfl rfl rfl named_func Tryz.func3 facts3
    (of_decide_eq_true (by as_aux_lemma => kernel_rfl)) (by unfold Func.isWrapper; first | (rw [if_pos (by as_aux_lemma => decide +kernel)]; as_aux_lemma => kernel_rfl) | (rw [if_neg (by as_aux_lemma => decide +kernel)]; exact ⟨rfl, rfl⟩))
    (fun os started H enc _ => lifted os started H enc)

theorem wf_card : Rows.libMatricesRow.wfByText (OpenSpec.ofChange Rows.libMatricesSpec) = true := by kernel_rfl
theorem main_card : Tryz.prog.mainIs = some (true, "f3a6214fd7410cf3ff73eb36317e479850ffba5f4012bc4deb4d0cf1b9928bb0".toList) := by kernel_rfl
theorem looks_card : true = Tryz.prog.looks [] := by kernel_rfl
theorem standIn22 : Tryz.prog.wantsStandIn 22 = false := by kernel_rfl
theorem standIn5 : Tryz.prog.wantsStandIn 5 = false := by kernel_rfl
theorem card_holds : Rows.LibMatricesCardSaid :=
  Claim7.holds_tied_plain_at .later [] [.sentinel, .sentinel, .data, .data, .data] true (true, "f3a6214fd7410cf3ff73eb36317e479850ffba5f4012bc4deb4d0cf1b9928bb0") true holds (fun _ h => by cases h) wf_card (fun _ h => by cases h) libMatrices_row_tie rfl ⟨rfl, rfl⟩ main_card rfl
    (fun f fn hf hfn => by
      obtain rfl : f = 3 := Option.some.inj (named_func.symm.trans hf) |>.symm
      obtain rfl : fn = Tryz.f3 := (Option.some.inj (Tryz.func3.symm.trans hfn)).symm
      exact ⟨looks_card, fun j t ht => by
        rw [Tryz.params3] at ht
        rcases j with _ | _ | _ | j
        · obtain rfl : t = 22 := by simpa using ht.symm
          exact standIn22
        · obtain rfl : t = 22 := by simpa using ht.symm
          exact standIn22
        · obtain rfl : t = 5 := by simpa using ht.symm
          exact standIn5
        · simp at ht⟩)
    goes3
end Go.Proofs.YtgbmggmblcfhkaaGreatDoor
