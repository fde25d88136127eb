/- PROVED HERE: a part (LtF) of the tied card of LibMatrices (floodgatelaw25): the call returns true and its arguments read as before. CONDITIONS: those of the given row and card alone. HOW: an evaluator of Go calls with unknown integers is proved sound (Eva to Evg), functions of the closure are walked and answered by readers of the heap (Wk, Wv, Oa, Ob), the runs are reckoned by the kernel (Lt), the statement itself is walked (Wm), the row and the card stand in Cf and Cp. -/
import Derived.Test.YtgbmggmblcfhkaaGreatDoorLtC
import Derived.Test.YtgbmggmblcfhkaaGreatDoorLtlB
import Derived.Test.YtgbmggmblcfhkaaGreatDoorLtlS0
import Derived.Test.YtgbmggmblcfhkaaGreatDoorLtlS1
import Derived.Test.YtgbmggmblcfhkaaGreatDoorLtlS2
import Derived.Test.YtgbmggmblcfhkaaGreatDoorLtlK
import Derived.Test.YtgbmggmblcfhkaaGreatDoorLtlD0
import Derived.Test.YtgbmggmblcfhkaaGreatDoorLtlD1
import Derived.Test.YtgbmggmblcfhkaaGreatDoorLtlD2
import Derived.Test.YtgbmggmblcfhkaaGreatDoorLtlD3
import Derived.Test.YtgbmggmblcfhkaaGreatDoorLtlP
import Derived.Test.YtgbmggmblcfhkaaGreatDoorLtlR
import Derived.Test.YtgbmggmblcfhkaaGreatDoorLtlI
import Derived.Test.YtgbmggmblcfhkaaGreatDoorLtlL0
import Derived.Test.YtgbmggmblcfhkaaGreatDoorLtlL2
import Derived.Test.YtgbmggmblcfhkaaGreatDoorLtlC0
import Derived.Test.YtgbmggmblcfhkaaGreatDoorLtlC2
import Derived.Test.YtgbmggmblcfhkaaGreatDoorLtlC4
import Derived.Test.YtgbmggmblcfhkaaGreatDoorLtlC5
import Derived.Test.YtgbmggmblcfhkaaGreatDoorLtlC6
import Derived.Test.YtgbmggmblcfhkaaGreatDoorLtlA
import Derived.Test.YtgbmggmblcfhkaaGreatDoorWm
open Go Go.Ev Go.Proofs
namespace Go.Ev
theorem memApp {a b : List Ent} (ha : ∀ e ∈ a, KnownV PE e.1 e.2.1 e.2.2) (hb : ∀ e ∈ b, KnownV PE e.1 e.2.1 e.2.2) : ∀ e ∈ a ++ b, KnownV PE e.1 e.2.1 e.2.2 := fun e h => (List.mem_append.1 h).elim (ha e) (hb e)
theorem kOf {d l : List Ent} (hd : ∀ e ∈ d, KnownV PE e.1 e.2.1 e.2.2) (t : byValL (runL d) l = .yes) : ∀ e ∈ l, KnownV PE e.1 e.2.1 e.2.2 := knownVsC hmP hnameP okS_rel orcS_ok (orcBoth_ok oR_ok (orcL_ok hd)) t
theorem k_lB0 : ∀ e ∈ lB0, KnownV PE e.1 e.2.1 e.2.2 := kOf (fun _ h => by cases h) t_lB0
theorem k_lB1 : ∀ e ∈ lB1, KnownV PE e.1 e.2.1 e.2.2 := kOf (fun _ h => by cases h) t_lB1
theorem k_lB2 : ∀ e ∈ lB2, KnownV PE e.1 e.2.1 e.2.2 := kOf (fun _ h => by cases h) t_lB2
theorem k_lB3 : ∀ e ∈ lB3, KnownV PE e.1 e.2.1 e.2.2 := kOf (fun _ h => by cases h) t_lB3
theorem k_lB4 : ∀ e ∈ lB4, KnownV PE e.1 e.2.1 e.2.2 := kOf (fun _ h => by cases h) t_lB4
theorem k_lB5 : ∀ e ∈ lB5, KnownV PE e.1 e.2.1 e.2.2 := kOf (fun _ h => by cases h) t_lB5
theorem k_lB6 : ∀ e ∈ lB6, KnownV PE e.1 e.2.1 e.2.2 := kOf (fun _ h => by cases h) t_lB6
theorem k_lS0 : ∀ e ∈ lS0, KnownV PE e.1 e.2.1 e.2.2 := kOf (fun _ h => by cases h) t_lS0
theorem k_lS1 : ∀ e ∈ lS1, KnownV PE e.1 e.2.1 e.2.2 := kOf (fun _ h => by cases h) t_lS1
theorem k_lS2 : ∀ e ∈ lS2, KnownV PE e.1 e.2.1 e.2.2 := kOf (fun _ h => by cases h) t_lS2
theorem k_lK : ∀ e ∈ lK, KnownV PE e.1 e.2.1 e.2.2 := kOf (fun _ h => by cases h) t_lK
theorem k_lD0 : ∀ e ∈ lD0, KnownV PE e.1 e.2.1 e.2.2 := kOf k_lK t_lD0
theorem k_lD1 : ∀ e ∈ lD1, KnownV PE e.1 e.2.1 e.2.2 := kOf k_lK t_lD1
theorem k_lD2 : ∀ e ∈ lD2, KnownV PE e.1 e.2.1 e.2.2 := kOf k_lK t_lD2
theorem k_lD3 : ∀ e ∈ lD3, KnownV PE e.1 e.2.1 e.2.2 := kOf k_lK t_lD3
theorem k_lD4 : ∀ e ∈ lD4, KnownV PE e.1 e.2.1 e.2.2 := kOf k_lK t_lD4
theorem k_lO : ∀ e ∈ lO, KnownV PE e.1 e.2.1 e.2.2 := kOf (memApp (memApp (memApp (memApp k_lD0 k_lD1) k_lD2) k_lD3) k_lD4) t_lO
theorem k_lP : ∀ e ∈ lP, KnownV PE e.1 e.2.1 e.2.2 := kOf k_lK t_lP
theorem k_lR : ∀ e ∈ lR, KnownV PE e.1 e.2.1 e.2.2 := kOf (fun _ h => by cases h) t_lR
theorem k_lI : ∀ e ∈ lI, KnownV PE e.1 e.2.1 e.2.2 := kOf k_lR t_lI
theorem k_lL0 : ∀ e ∈ lL0, KnownV PE e.1 e.2.1 e.2.2 := kOf (memApp (memApp (memApp (memApp k_lR k_lI) k_lS0) k_lS1) k_lS2) t_lL0
theorem k_lL1 : ∀ e ∈ lL1, KnownV PE e.1 e.2.1 e.2.2 := kOf (memApp (memApp (memApp (memApp k_lR k_lI) k_lS0) k_lS1) k_lS2) t_lL1
theorem k_lL2 : ∀ e ∈ lL2, KnownV PE e.1 e.2.1 e.2.2 := kOf (memApp (memApp (memApp (memApp k_lR k_lI) k_lS0) k_lS1) k_lS2) t_lL2
theorem k_lC0 : ∀ e ∈ lC0, KnownV PE e.1 e.2.1 e.2.2 := kOf k_lB0 t_lC0
theorem k_lC1 : ∀ e ∈ lC1, KnownV PE e.1 e.2.1 e.2.2 := kOf k_lB4 t_lC1
theorem k_lC2 : ∀ e ∈ lC2, KnownV PE e.1 e.2.1 e.2.2 := kOf k_lB5 t_lC2
theorem k_lC3 : ∀ e ∈ lC3, KnownV PE e.1 e.2.1 e.2.2 := kOf k_lB1 t_lC3
theorem k_lC4 : ∀ e ∈ lC4, KnownV PE e.1 e.2.1 e.2.2 := kOf k_lB2 t_lC4
theorem k_lC5 : ∀ e ∈ lC5, KnownV PE e.1 e.2.1 e.2.2 := kOf k_lB3 t_lC5
theorem k_lC6 : ∀ e ∈ lC6, KnownV PE e.1 e.2.1 e.2.2 := kOf k_lB6 t_lC6
theorem k_lA : ∀ e ∈ lA, KnownV PE e.1 e.2.1 e.2.2 := kOf (memApp (memApp (memApp (memApp (memApp (memApp (memApp (memApp (memApp (memApp (memApp k_lO k_lP) k_lL0) k_lL1) k_lL2) k_lC0) k_lC1) k_lC2) k_lC3) k_lC4) k_lC5) k_lC6) t_lA
theorem k_lT : ∀ e ∈ lT, KnownV PE e.1 e.2.1 e.2.2 := kOf (fun _ h => by cases h) t_lT
theorem k_lZ : ∀ e ∈ lZ, KnownV PE e.1 e.2.1 e.2.2 := kOf (memApp (memApp (memApp (memApp (memApp (memApp (memApp (memApp (memApp (memApp (memApp k_lO k_lP) k_lL0) k_lL1) k_lL2) k_lC0) k_lC1) k_lC2) k_lC3) k_lC4) k_lC5) k_lC6) t_lZ
end Go.Ev
open Go Go.Ev Go.Proofs Go.RowKit
namespace Go.Ev
theorem kn_mat : Lm.Kn PE := {
  hP := rfl
  p0 := k_lZ _ (.tail _ (.head _))
  p1 := k_lZ _ (.head _)
  p2 := k_lZ _ (.tail _ (.tail _ (.head _)))
  p3 := k_lZ _ (.tail _ (.tail _ (.tail _ (.head _))))
  t0 := k_lT _ (.tail _ (.tail _ (.head _)))
  t1 := k_lT _ (.head _)
  t2 := k_lT _ (.tail _ (.head _))
  t3 := k_lT _ (.tail _ (.tail _ (.tail _ (.head _))))
  aw := k_lA _ (.head _) }
/-- LibMatrices answers true -/
theorem mats_final {W : World} (hi : Lib.TabIs Tryz.prog W "internal/strconv.uint64pow10" .u64 Lib.pow10Tab) {x : Int} (hx0 : 0 ≤ x) (hx1 : x ≤ 255) {la lb : List Int} (ra : ∀ i, -128 ≤ la.getD i 0 ∧ la.getD i 0 ≤ 127) (rb : ∀ i, -128 ≤ lb.getD i 0 ∧ lb.getD i 0 ≤ 127) (hla : la.length ≤ 9223372036854775807) (hlb : lb.length ≤ 9223372036854775807)
    {va vb : Value} (ha : Lm.Has8 W va la) (hb : Lm.Has8 W vb lb) : Calls Tryz.prog 3 #[va, vb, .int .u8 x] W fun e W' => e = .returned (.bool true) ∧ Below W.heap.size W W' :=
  Lm.mat_all kn_mat x hx0 hx1 la lb ra rb hla hlb va vb W hi (tab_size hg hi) ha hb
end Go.Ev
