/- PROVED HERE: a part (LtF) of the tied card of LibNames (floodgatelaw25): the call returns true. CONDITIONS: those of the given row and card alone. HOW: an evaluator of Go calls is proved sound (Eva to Evg), four of the closure's functions are walked and answered by readers of the heap (Wk, Wv, Oa, Ob), the closed runs are reckoned by the kernel (Lt), the row and the card stand in Cf and Cp. -/
import Derived.Test.YtjceobjlgkkbbaaGreatDoorLtC
import Derived.Test.YtjceobjlgkkbbaaGreatDoorLtlB
import Derived.Test.YtjceobjlgkkbbaaGreatDoorLtlS0
import Derived.Test.YtjceobjlgkkbbaaGreatDoorLtlS1
import Derived.Test.YtjceobjlgkkbbaaGreatDoorLtlS2
import Derived.Test.YtjceobjlgkkbbaaGreatDoorLtlS3
import Derived.Test.YtjceobjlgkkbbaaGreatDoorLtlS4
import Derived.Test.YtjceobjlgkkbbaaGreatDoorLtlK
import Derived.Test.YtjceobjlgkkbbaaGreatDoorLtlD0
import Derived.Test.YtjceobjlgkkbbaaGreatDoorLtlD1
import Derived.Test.YtjceobjlgkkbbaaGreatDoorLtlD2
import Derived.Test.YtjceobjlgkkbbaaGreatDoorLtlD3
import Derived.Test.YtjceobjlgkkbbaaGreatDoorLtlP
import Derived.Test.YtjceobjlgkkbbaaGreatDoorLtlR
import Derived.Test.YtjceobjlgkkbbaaGreatDoorLtlI
import Derived.Test.YtjceobjlgkkbbaaGreatDoorLtlL0
import Derived.Test.YtjceobjlgkkbbaaGreatDoorLtlL2
import Derived.Test.YtjceobjlgkkbbaaGreatDoorLtlL3
import Derived.Test.YtjceobjlgkkbbaaGreatDoorLtlC0
import Derived.Test.YtjceobjlgkkbbaaGreatDoorLtlC2
import Derived.Test.YtjceobjlgkkbbaaGreatDoorLtlC4
import Derived.Test.YtjceobjlgkkbbaaGreatDoorLtlC5
import Derived.Test.YtjceobjlgkkbbaaGreatDoorLtlC6
import Derived.Test.YtjceobjlgkkbbaaGreatDoorLtlA
import Derived.Test.YtjceobjlgkkbbaaGreatDoorLtlZ
open Go Go.Ev Go.Proofs
namespace Go.Ev
theorem memApp {a b : List Ent} (ha : ∀ e ∈ a, KnownV PE e.1 e.2.1 e.2.2) (hb : ∀ e ∈ b, KnownV PE e.1 e.2.1 e.2.2) : ∀ e ∈ a ++ b, KnownV PE e.1 e.2.1 e.2.2 := fun e h => (List.mem_append.1 h).elim (ha e) (hb e)
theorem kOf {d l : List Ent} (hd : ∀ e ∈ d, KnownV PE e.1 e.2.1 e.2.2) (t : byValL (runL d) l = .yes) : ∀ e ∈ l, KnownV PE e.1 e.2.1 e.2.2 := knownVsC hmP hnameP okV_rel orcCTP_ok (orcBoth_ok oR_ok (orcL_ok hd)) t
theorem k_lB0 : ∀ e ∈ lB0, KnownV PE e.1 e.2.1 e.2.2 := kOf (fun _ h => by cases h) t_lB0
theorem k_lB1 : ∀ e ∈ lB1, KnownV PE e.1 e.2.1 e.2.2 := kOf (fun _ h => by cases h) t_lB1
theorem k_lB2 : ∀ e ∈ lB2, KnownV PE e.1 e.2.1 e.2.2 := kOf (fun _ h => by cases h) t_lB2
theorem k_lB3 : ∀ e ∈ lB3, KnownV PE e.1 e.2.1 e.2.2 := kOf (fun _ h => by cases h) t_lB3
theorem k_lB4 : ∀ e ∈ lB4, KnownV PE e.1 e.2.1 e.2.2 := kOf (fun _ h => by cases h) t_lB4
theorem k_lB5 : ∀ e ∈ lB5, KnownV PE e.1 e.2.1 e.2.2 := kOf (fun _ h => by cases h) t_lB5
theorem k_lB6 : ∀ e ∈ lB6, KnownV PE e.1 e.2.1 e.2.2 := kOf (fun _ h => by cases h) t_lB6
theorem k_lB7 : ∀ e ∈ lB7, KnownV PE e.1 e.2.1 e.2.2 := kOf (fun _ h => by cases h) t_lB7
theorem k_lS0 : ∀ e ∈ lS0, KnownV PE e.1 e.2.1 e.2.2 := kOf (fun _ h => by cases h) t_lS0
theorem k_lS1 : ∀ e ∈ lS1, KnownV PE e.1 e.2.1 e.2.2 := kOf (fun _ h => by cases h) t_lS1
theorem k_lS2 : ∀ e ∈ lS2, KnownV PE e.1 e.2.1 e.2.2 := kOf (fun _ h => by cases h) t_lS2
theorem k_lS3 : ∀ e ∈ lS3, KnownV PE e.1 e.2.1 e.2.2 := kOf (fun _ h => by cases h) t_lS3
theorem k_lS4 : ∀ e ∈ lS4, KnownV PE e.1 e.2.1 e.2.2 := kOf (fun _ h => by cases h) t_lS4
theorem k_lS5 : ∀ e ∈ lS5, KnownV PE e.1 e.2.1 e.2.2 := kOf (fun _ h => by cases h) t_lS5
theorem k_lK : ∀ e ∈ lK, KnownV PE e.1 e.2.1 e.2.2 := kOf (fun _ h => by cases h) t_lK
theorem k_lD0 : ∀ e ∈ lD0, KnownV PE e.1 e.2.1 e.2.2 := kOf k_lK t_lD0
theorem k_lD1 : ∀ e ∈ lD1, KnownV PE e.1 e.2.1 e.2.2 := kOf k_lK t_lD1
theorem k_lD2 : ∀ e ∈ lD2, KnownV PE e.1 e.2.1 e.2.2 := kOf k_lK t_lD2
theorem k_lD3 : ∀ e ∈ lD3, KnownV PE e.1 e.2.1 e.2.2 := kOf k_lK t_lD3
theorem k_lD4 : ∀ e ∈ lD4, KnownV PE e.1 e.2.1 e.2.2 := kOf k_lK t_lD4
theorem k_lO : ∀ e ∈ lO, KnownV PE e.1 e.2.1 e.2.2 := kOf (memApp (memApp (memApp (memApp k_lD0 k_lD1) k_lD2) k_lD3) k_lD4) t_lO
theorem k_lP : ∀ e ∈ lP, KnownV PE e.1 e.2.1 e.2.2 := kOf k_lK t_lP
theorem k_lR : ∀ e ∈ lR, KnownV PE e.1 e.2.1 e.2.2 := kOf (fun _ h => by cases h) t_lR
theorem k_lI : ∀ e ∈ lI, KnownV PE e.1 e.2.1 e.2.2 := kOf k_lR t_lI
theorem k_lL0 : ∀ e ∈ lL0, KnownV PE e.1 e.2.1 e.2.2 := kOf (memApp (memApp (memApp (memApp (memApp (memApp (memApp k_lR k_lI) k_lS0) k_lS1) k_lS2) k_lS3) k_lS4) k_lS5) t_lL0
theorem k_lL1 : ∀ e ∈ lL1, KnownV PE e.1 e.2.1 e.2.2 := kOf (memApp (memApp (memApp (memApp (memApp (memApp (memApp k_lR k_lI) k_lS0) k_lS1) k_lS2) k_lS3) k_lS4) k_lS5) t_lL1
theorem k_lL2 : ∀ e ∈ lL2, KnownV PE e.1 e.2.1 e.2.2 := kOf (memApp (memApp (memApp (memApp (memApp (memApp (memApp k_lR k_lI) k_lS0) k_lS1) k_lS2) k_lS3) k_lS4) k_lS5) t_lL2
theorem k_lL3 : ∀ e ∈ lL3, KnownV PE e.1 e.2.1 e.2.2 := kOf (memApp (memApp (memApp (memApp (memApp (memApp (memApp k_lR k_lI) k_lS0) k_lS1) k_lS2) k_lS3) k_lS4) k_lS5) t_lL3
theorem k_lC0 : ∀ e ∈ lC0, KnownV PE e.1 e.2.1 e.2.2 := kOf k_lB3 t_lC0
theorem k_lC1 : ∀ e ∈ lC1, KnownV PE e.1 e.2.1 e.2.2 := kOf k_lB1 t_lC1
theorem k_lC2 : ∀ e ∈ lC2, KnownV PE e.1 e.2.1 e.2.2 := kOf k_lB7 t_lC2
theorem k_lC3 : ∀ e ∈ lC3, KnownV PE e.1 e.2.1 e.2.2 := kOf k_lB0 t_lC3
theorem k_lC4 : ∀ e ∈ lC4, KnownV PE e.1 e.2.1 e.2.2 := kOf k_lB5 t_lC4
theorem k_lC5 : ∀ e ∈ lC5, KnownV PE e.1 e.2.1 e.2.2 := kOf k_lB6 t_lC5
theorem k_lC6 : ∀ e ∈ lC6, KnownV PE e.1 e.2.1 e.2.2 := kOf k_lB4 t_lC6
theorem k_lA : ∀ e ∈ lA, KnownV PE e.1 e.2.1 e.2.2 := kOf (memApp (memApp (memApp (memApp (memApp (memApp (memApp (memApp (memApp (memApp (memApp (memApp k_lO k_lP) k_lL0) k_lL1) k_lL2) k_lL3) k_lC0) k_lC1) k_lC2) k_lC3) k_lC4) k_lC5) k_lC6) t_lA
theorem k_lM : ∀ e ∈ lM, KnownV PE e.1 e.2.1 e.2.2 := kOf k_lO t_lM
theorem k_lZ : ∀ e ∈ lZ, KnownV PE e.1 e.2.1 e.2.2 := kOf (memApp (memApp (memApp (memApp (memApp (memApp (memApp (memApp (memApp (memApp (memApp (memApp (memApp (memApp k_lO k_lM) k_lA) k_lP) k_lL0) k_lL1) k_lL2) k_lL3) k_lC0) k_lC1) k_lC2) k_lC3) k_lC4) k_lC5) k_lC6) t_lZ
end Go.Ev
open Go Go.Ev Go.Proofs Go.RowKit
namespace Go.Ev
/-- LibNames answers true -/
theorem names_final {W : World} (hi : Lib.TabIs Tryz.prog W "internal/strconv.uint64pow10" .u64 Lib.pow10Tab) : Calls Tryz.prog 3 #[] W fun e W' => e = .returned (.bool true) ∧ Below W.heap.size W W' :=
  ((calls_of_known (P := PE) (k_lZ _ List.mem_cons_self) (vs := #[]) .nil hi (tab_size hg hi)).2).mono fun e W' ⟨cv, h1, h2, h3, _⟩ => ⟨by rw [h1, h2.bool], h3⟩
end Go.Ev
