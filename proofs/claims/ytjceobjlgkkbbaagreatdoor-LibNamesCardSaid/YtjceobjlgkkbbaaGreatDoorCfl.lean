/- PROVED HERE: a part (Cfl) of the tied card of LibNames (floodgatelaw25): the facts of the witness, in parts: the two sentinels' type is found by parts of the types' list. CONDITIONS: those of the given row and card alone. -/
import Derived.Test.YtjceobjlgkkbbaaGreatDoorRows
import Derived.Lay
import Derived.ProofKit
namespace Go.Proofs.YtjceobjlgkkbbaaGreatDoor
set_option maxRecDepth 100000
set_option maxHeartbeats 10000000
theorem tsz : Tryz.prog.types.size = 765 := by kernel_rfl
theorem nm0 : (List.range' 0 93).all (fun u => !(Tryz.prog.typeName? 3 u == some "*errors.errorString")) = true := by kernel_rfl
theorem nm1 : (List.range' 93 93).all (fun u => !(Tryz.prog.typeName? 3 u == some "*errors.errorString")) = true := by kernel_rfl
theorem nm2 : (List.range' 186 93).all (fun u => !(Tryz.prog.typeName? 3 u == some "*errors.errorString")) = true := by kernel_rfl
theorem nm3 : (List.range' 279 93).all (fun u => !(Tryz.prog.typeName? 3 u == some "*errors.errorString")) = true := by kernel_rfl
theorem nm4 : (List.range' 372 93).all (fun u => !(Tryz.prog.typeName? 3 u == some "*errors.errorString")) = true := by kernel_rfl
theorem nm5 : (List.range' 465 93).all (fun u => !(Tryz.prog.typeName? 3 u == some "*errors.errorString")) = true := by kernel_rfl
theorem nm6 : (List.range' 558 93).all (fun u => !(Tryz.prog.typeName? 3 u == some "*errors.errorString")) = true := by kernel_rfl
theorem nm7 : (List.range' 651 92).all (fun u => !(Tryz.prog.typeName? 3 u == some "*errors.errorString")) = true := by kernel_rfl
theorem nmHit : (Tryz.prog.typeName? 3 743 == some "*errors.errorString") = true := by kernel_rfl
theorem nmCut : List.range 765 = List.range' 0 93 ++ (List.range' 93 93 ++ (List.range' 186 93 ++ (List.range' 279 93 ++ (List.range' 372 93 ++ (List.range' 465 93 ++ (List.range' 558 93 ++ (List.range' 651 92 ++ (743 :: List.range' 744 21)))))))) := by decide +kernel
theorem find_skip {p : Nat → Bool} {a b : List Nat} (h : a.all (fun u => !p u) = true) : (a ++ b).find? p = b.find? p := by
  rw [List.find?_append, List.find?_eq_none.2, Option.none_or]
  intro x hx
  have := List.all_eq_true.1 h x hx
  simpa using this
theorem nmFind : (List.range Tryz.prog.types.size).find? (fun u => Tryz.prog.typeName? 3 u == some "*errors.errorString") = some 743 := by
  rw [tsz, nmCut, find_skip nm0, find_skip nm1, find_skip nm2, find_skip nm3, find_skip nm4, find_skip nm5, find_skip nm6, find_skip nm7]
  exact List.find?_cons_of_pos nmHit
theorem lay_sent {P : Program} {t n u : Nat} {name : String} {d : DataW Unit} {ts : _} {v : Value} {o : List Obj} (ht : P.underlying t = some (.interface ts)) (hf : (List.range P.types.size).find? (fun u => P.typeName? 3 u == some name) = some u)
    (hd : d.lay P u n = some ([v], o)) (hp : Lay.pack P u [v] = some v) : (DataW.iface name d).lay P t n = some ([.iface u v], o) := by
  rw [DataW.lay, ht, hf]
  simp only [hd, hp]
theorem layList_cons {P : Program} {n g t : Nat} {name : String} {d : DataW Unit} {r : List (String × DataW Unit)} {y z} (hg : P.globalNamed name = some g) (hgl : (P.globals[g]?).map (·.type) = some t) (hy : d.lay P t n = some y) (hz : Lay.layList P (n + y.2.length) r = some z) :
    Lay.layList P n ((name, d) :: r) = some ((g, y.1) :: z.1, y.2 ++ z.2) := by
  rw [Lay.layList]
  cases h : P.globals[g]? with
  | none => rw [h] at hgl; cases hgl
  | some gl => rw [h] at hgl; cases hgl; simp only [hg, h, hy, hz]
theorem getD_some {α : Type} {o : Option α} {d : α} (h : o.isSome = true) : o = some (o.getD d) := by cases o with | none => cases h | some x => rfl
noncomputable def laidRest : List (Nat × List Value) × List Obj := (Lay.layList Tryz.prog 15 (Rows.libNamesRow.laid.drop 2)).getD ([], [])
noncomputable def yAll : List (Nat × List Value) × List Obj := ((6, [.iface 743 (.pointer (some ⟨13, 0, none⟩))]) :: (7, [.iface 743 (.pointer (some ⟨14, 0, none⟩))]) :: laidRest.1, [.cells #[.string ⟨#[105, 110, 118, 97, 108, 105, 100, 32, 115, 121, 110, 116, 97, 120]⟩] 745] ++ ([.cells #[.string ⟨#[118, 97, 108, 117, 101, 32, 111, 117, 116, 32, 111, 102, 32, 114, 97, 110, 103, 101]⟩] 745] ++ laidRest.2))
theorem restSome : (Lay.layList Tryz.prog 15 (Rows.libNamesRow.laid.drop 2)).isSome = true := by kernel_rfl
theorem sent0 : (Rows.laid_strconv_ErrSyntax : DataW Unit).lay Tryz.prog 157 13 = some ([.iface 743 (.pointer (some ⟨13, 0, none⟩))], [.cells #[.string ⟨#[105, 110, 118, 97, 108, 105, 100, 32, 115, 121, 110, 116, 97, 120]⟩] 745]) :=
  lay_sent Tryz.underlying157 nmFind (by kernel_rfl) (by kernel_rfl)
theorem sent1 : (Rows.laid_strconv_ErrRange : DataW Unit).lay Tryz.prog 157 14 = some ([.iface 743 (.pointer (some ⟨14, 0, none⟩))], [.cells #[.string ⟨#[118, 97, 108, 117, 101, 32, 111, 117, 116, 32, 111, 102, 32, 114, 97, 110, 103, 101]⟩] 745]) :=
  lay_sent Tryz.underlying157 nmFind (by kernel_rfl) (by kernel_rfl)
theorem gn0 : Tryz.prog.globalNamed "strconv.ErrSyntax" = some 6 := by kernel_rfl
theorem gn1 : Tryz.prog.globalNamed "strconv.ErrRange" = some 7 := by kernel_rfl
theorem gt0 : (Tryz.prog.globals[6]?).map (·.type) = some 157 := by kernel_rfl
theorem gt1 : (Tryz.prog.globals[7]?).map (·.type) = some 157 := by kernel_rfl
theorem layAll3 : Lay.layList Tryz.prog 13 Rows.libNamesRow.laid = some yAll :=
  layList_cons (r := ("strconv.ErrRange", Rows.laid_strconv_ErrRange) :: Rows.libNamesRow.laid.drop 2) gn0 gt0 sent0 (layList_cons gn1 gt1 sent1 (getD_some restSome))
theorem hsz (os : Os) : (World.holding Tryz.prog os ⟨#[], #[], []⟩).heap.size = 13 := by kernel_rfl
theorem fits_of {P : Program} {w : World} {l : List (String × DataW Unit)} {n : Nat} {y} (hn : w.heap.size = n) (hy : Lay.layList P n l = some y) (h : (decide (y.1.map (·.1)).Nodup && (y.1.all fun r => Lay.isRow w.heap.toList[r.1]? && !([] : List Nat).contains r.1)) = true) : w.layFits P l [] = true := by
  subst hn
  unfold World.layFits
  rw [hy]
  simpa using h
theorem ifaces_of {P : Program} {w w' : World} {l : List (String × DataW Unit)} {n : Nat} {y} (hn : w.heap.size = n) (hy : Lay.layList P n l = some y) (h : ((y.1.all fun r => r.2.all (Lay.okV P w')) && y.2.all (Lay.okO P w')) = true) : w.layIfaces P l w' = true := by
  subst hn
  unfold World.layIfaces
  rw [hy]
  exact h
theorem vars_of {P : Program} {w : World} {l : List (String × DataW Unit)} {n : Nat} {y} (hn : w.heap.size = n) (hy : Lay.layList P n l = some y) : w.layVars P l = { w with heap := ⟨Lay.setRows w.heap.toList y.1 ++ y.2⟩ } := by
  subst hn
  unfold World.layVars
  rw [hy]
theorem laidAll_eq (os : Os) : World.laidAll Tryz.prog os Rows.libNamesRow.laid = { World.holding Tryz.prog os ⟨#[], #[], []⟩ with heap := ⟨Lay.setRows (World.holding Tryz.prog os ⟨#[], #[], []⟩).heap.toList yAll.1 ++ yAll.2⟩ } := vars_of (hsz os) layAll3
theorem wf1 (os : Os) : (World.laidAll Tryz.prog os Rows.libNamesRow.laid).variablesZipB Tryz.prog = true := by
  rw [laidAll_eq]
  kernel_rfl
theorem wf2 (os : Os) : ((World.laidAll Tryz.prog os Rows.libNamesRow.laid).heap.toList.drop Tryz.prog.globals.size).take ((begin Tryz.prog (fun _ _ => 0) default).world.heap.size - Tryz.prog.globals.size) = (begin Tryz.prog (fun _ _ => 0) default).world.heap.toList.drop Tryz.prog.globals.size := by
  rw [laidAll_eq]
  kernel_rfl
theorem wf3 (os : Os) : (World.holding Tryz.prog os ⟨#[], #[], []⟩).layFits Tryz.prog Rows.libNamesRow.laid [] = true :=
  fits_of (hsz os) layAll3 (by kernel_rfl)
theorem wf4 (os : Os) : (World.holding Tryz.prog os ⟨#[], #[], []⟩).layIfaces Tryz.prog Rows.libNamesRow.laid (World.laidAll Tryz.prog os Rows.libNamesRow.laid) = true := by
  rw [laidAll_eq]
  exact ifaces_of (hsz os) layAll3 (by kernel_rfl)
end Go.Proofs.YtjceobjlgkkbbaaGreatDoor
