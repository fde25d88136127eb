/- PROVED HERE: the tied card of DebugNames (floodgatelaw24): the call returns true, for every input that its given row takes in (it has no arguments). CONDITIONS: those of the given row and card, none beside them. HOW: an evaluator of Go calls is proved sound (parts Eva to Evd), the closed run is reckoned with it by the kernel in pieces (Da to Dl), the row's closed facts stand in Cf and Cg, the row and the card in Cp. Part Evd. -/
import Derived.Test.YtlclikemcipniaaGreatDoorEvc
namespace Go.Ev
variable {P : Program}

/-! ## Closed calls -/

def H.zero : H := { next := .h, m := .nil }

/-- a call without arguments that gives this value, whatever the world is, and leaves the world's blocks alone -/
def Closed (P : Program) (g : FuncId) (v : AV) : Prop :=
  ∀ w : World, (callFunc g #[]).run P w = .ok (.enter g #[]) w ∧ ∀ n, CallsIn Fence.wide n P g #[] w fun e w' => ∃ cv, e = .returned cv ∧ (∀ j, VR j v cv) ∧ w.heap.size ≤ w'.heap.size ∧
    (∀ b, b < w.heap.size → w'.heap[b]? = w.heap[b]?) ∧ w'.os = w.os ∧ w'.output = w.output ∧ w'.tape = w.tape

/-- a value without places -/
def AV.flat : AV → Bool
  | .bool _ | .int _ _ | .str _ => true
  | _ => false

theorem VR.flat {j j' : Inj} {v : AV} {c : Value} (h : VR j v c) (hv : v.flat = true) : VR j' v c := by
  cases h <;> first | (cases hv; done) | constructor

theorem closed_of_run {call : CallF} (hcall : CallsOk P call) {g : FuncId} {v : AV} {h' : H} (hv : v.flat = true) (hr : call (.fn g) [] H.zero = .ok v h') : Closed P g v := by
  intro w
  have hblk : ∀ f, H.zero.blk f = none := fun f => T.get_nil f
  have hR : RB P (fun _ => none) H.zero.blk H.zero.next.toN w := ⟨(fun f l h => by cases h), (fun f b h => by rw [hblk] at h; cases h), (fun f g lf lg ⟨b, h, _⟩ => by rw [hblk] at h; cases h)⟩
  obtain ⟨h1, h2⟩ := hcall _ _ _ _ _ hr w _ hR #[] .nil
  refine ⟨h1, fun n => CallsIn.mono (h2 n) fun e w' ⟨_, cv, he, j', g1, _, g3⟩ => ⟨cv, he, fun j => g1.flat hv, g3.size, fun b hb => g3.keep b hb fun f l hl _ => ?_, g3.os, g3.output, g3.tape⟩⟩
  obtain ⟨b', hb', _⟩ := hl
  rw [hblk] at hb'; cases hb'

/-! ## Calls whose values are known -/

noncomputable def patchK (call : CallF) (f : Callee) (args : List AV) (h : H) : Option AV → RC
  | some v => match args with
    | [] => .ok v h
    | _ => call f args h
  | none => call f args h
noncomputable def patch (tab : FuncId → Option AV) (call : CallF) : CallF := fun f args h =>
  Callee.rec (motive := fun _ => RC) (fun g => patchK call f args h (tab g)) (fun _ => call f args h) f

theorem patch_ok {call : CallF} (hcall : CallsOk P call) {tab : FuncId → Option AV} (htab : ∀ g v, tab g = some v → Closed P g v) : CallsOk P (patch tab call) := by
  intro f args h v h' hr w j hR
  cases f with
  | yld l => exact hcall (.yld l) args h v h' hr w j hR
  | fn g =>
    have hr : patchK call (.fn g) args h (tab g) = .ok v h' := hr
    cases ht : tab g with
    | none => rw [ht] at hr; exact hcall (.fn g) args h v h' hr w j hR
    | some u =>
      rw [ht] at hr
      unfold patchK at hr
      simp only at hr
      split at hr
      · cases hr
        intro vs hvs
        have : vs = #[] := by
          generalize hl : vs.toList = l at hvs
          cases hvs
          exact Array.ext' hl
        subst this
        obtain ⟨h1, h2⟩ := htab g _ ht w
        refine ⟨h1, fun n => CallsIn.mono (h2 n) fun e w' ⟨cv, he, g1, g2, g3, g4, g5, g6⟩ => ⟨Nat.le_refl _, cv, he, j, g1 j, ?_, ?_⟩⟩
        · exact hR.other g2 fun f l ⟨b, k1, k2⟩ hj => by
            obtain ⟨l', q1, q2, _⟩ := hR.blk f b k1
            rw [hj] at q1; cases q1
            exact g3 _ (q2 k2)
        · exact ⟨Inj.le_refl j, g2, fun b hb _ => g3 b hb, fun f l hl hj => .inr ⟨f, l, hl, hj, rfl⟩, g4, g5, g6, fun _ h _ => h, fun _ h => h⟩
      · exact hcall (.fn g) args h v h' hr w j hR

/-- the evaluator, with some calls known -/
noncomputable def runP (fs : FuncId → Option CF) (tab : FuncId → Option AV) (n : Nat) : CallF :=
  Nat.rec (motive := fun _ => CallF) (fun _ _ _ => .fail) (fun n ih => patch tab (stepF fs (runCC ih n))) n

theorem runP_ok (hm : P.follows .mixedOrders = true) (hname : ∀ (f : FuncId) (fn : Func), P.funcs[f]? = some fn → fn.name ≠ "runtime.NumGoroutine") {tab : FuncId → Option AV} (htab : ∀ g v, tab g = some v → Closed P g v) : ∀ m, CallsOk P (runP (cF P) tab m) := by
  intro m
  induction m with
  | zero => intro f args h v h' hr; cases hr
  | succ m ih =>
    show CallsOk P (patch tab (stepF (cF P) (runCC (runP (cF P) tab m) m)))
    refine patch_ok ?_ htab
    intro f args h v h' hr w j hR
    cases f with
    | fn f => exact enter_sound (fun nt => code_ok hm ih m) hname hr w j hR
    | yld l => exact yield_sound (fun nt => code_ok hm ih m) hr w j hR

/-- is the answer this boolean? -/
noncomputable def isB (b : Bool) : RC → Bool
  | .ok (.bool x) _ => boolEq x b
  | _ => false
theorem isB_ok {b : Bool} {r : RC} (h : isB b r = true) : ∃ h', r = .ok (.bool b) h' := by
  unfold isB at h
  split at h
  · rename_i x h'
    rw [boolEq_eq h]; exact ⟨h', rfl⟩
  · cases h

theorem closed_bool (hm : P.follows .mixedOrders = true) (hname : ∀ (f : FuncId) (fn : Func), P.funcs[f]? = some fn → fn.name ≠ "runtime.NumGoroutine") {tab : FuncId → Option AV} (htab : ∀ g v, tab g = some v → Closed P g v) {m : Nat} {g : FuncId} {b : Bool}
    (hr : isB b (runP (cF P) tab m (.fn g) [] H.zero) = true) : Closed P g (.bool b) := by
  obtain ⟨h', hr⟩ := isB_ok hr
  exact closed_of_run (runP_ok hm hname htab m) rfl hr
end Go.Ev


namespace Go.Ev
variable {P : Program}

/-! ## A closed call in pieces: states between the pieces are literal, and may say less than what was reckoned -/

/-- what is kept of 'Ext' where a heap is weakened -/
structure ExtW (j : Inj) (bl : Bl) (w : World) (j' : Inj) (bl' : Bl) (w' : World) : Prop where
  le : j.le j'
  size : w.heap.size ≤ w'.heap.size
  keep : ∀ b, b < w.heap.size → (∀ f l, Live bl f → j f = some l → l.blk ≠ b) → w'.heap[b]? = w.heap[b]?
  img : ∀ f l, Live bl' f → j' f = some l → w.heap.size ≤ l.blk ∨ ∃ g lg, Live bl g ∧ j g = some lg ∧ lg.blk = l.blk
  os : w'.os = w.os
  output : w'.output = w.output
  tape : w'.tape = w.tape

theorem Ext.w {j j' : Inj} {bl bl' : Bl} {w w' : World} (h : Ext j bl w j' bl' w') : ExtW j bl w j' bl' w' := ⟨h.le, h.size, h.keep, h.img, h.os, h.output, h.tape⟩

theorem ExtW.sub {j j' : Inj} {bl bl' bl2 : Bl} {w w' : World} (h : ExtW j bl w j' bl' w') (hs : ∀ f b, bl2 f = some b → bl' f = some b) : ExtW j bl w j' bl2 w' :=
  ⟨h.le, h.size, h.keep, fun f l ⟨b, h1, h2⟩ hj => h.img f l ⟨b, hs f b h1, h2⟩ hj, h.os, h.output, h.tape⟩

theorem ExtW.trans {j j' j'' : Inj} {bl bl' bl'' : Bl} {w w' w'' : World} (h : ExtW j bl w j' bl' w') (k : ExtW j' bl' w' j'' bl'' w'') : ExtW j bl w j'' bl'' w'' := by
  refine ⟨Inj.le_trans h.le k.le, Nat.le_trans h.size k.size, fun b hb hf => ?_, fun f l hl hj => ?_, k.os.trans h.os, k.output.trans h.output, k.tape.trans h.tape⟩
  · rw [k.keep b (Nat.lt_of_lt_of_le hb h.size), h.keep b hb hf]
    intro f l hl hj e
    rcases h.img f l hl hj with h1 | ⟨g, lg, h1, h2, h3⟩
    · omega
    · exact hf g lg h1 h2 (h3.trans e)
  · rcases k.img f l hl hj with h1 | ⟨g, lg, h1, h2, h3⟩
    · exact .inl (Nat.le_trans h.size h1)
    · rcases h.img g lg h1 h2 with h4 | ⟨g', lg', h4, h5, h6⟩
      · exact .inl (by omega)
      · exact .inr ⟨g', lg', h4, h5, h6.trans h3⟩

/-- a piece of code leads from one state to another -/
def Piece (P : Program) (nt : Nat) (c : Code) (tm : Tm) (h : H) (e : Ex) (tm' : Tm) (h' : H) : Prop :=
  ∀ (n b0 : Nat) (a : Act) (w : World) (j : Inj) (Q : Exit → Act → World → Prop), SR P j nt tm h b0 a w →
    (∀ j' a' w', SR P j' nt tm' h' b0 a' w' → ExtW j h.blk w j' h'.blk w' → Q (exOf e) a' w') → c.wpIn Fence.wide n P Q a w

theorem Piece.of_run {call : CallF} {nt m : Nat} (hc : CodeOk P call nt m) {c : Code} {tm tm' : Tm} {h h' : H} {e : Ex} (hr : runCC call m (cC P nt true c) tm h = .ok e tm' h') : Piece P nt c tm h e tm' h' :=
  fun n b0 a w j Q s hQ => hc c true tm h e tm' h' hr Fence.wide n b0 a w j Q (.inl rfl) (fun _ => rfl) s fun j' a' w' _ s' x' => hQ j' a' w' s' x'.w

/-- a state says no more than another one -/
structure Less (tm2 : Tm) (h2 : H) (tm : Tm) (h : H) : Prop where
  tm : ∀ p v, T.get p tm2 = some v → T.get p tm = some v
  blk : ∀ f b, h2.blk f = some b → h.blk f = some b
  next : h.next.toN ≤ h2.next.toN

theorem SR.less {j : Inj} {nt : Nat} {tm tm2 : Tm} {h h2 : H} {b0 : Nat} {a : Act} {w : World} (s : SR P j nt tm h b0 a w) (l : Less tm2 h2 tm h) : SR P j nt tm2 h2 b0 a w := by
  refine ⟨⟨s.tm.1, fun t v ht => s.tm.2 t v (l.tm _ v ht)⟩, s.rb.sub l.blk l.next, ?_, s.b0⟩
  obtain ⟨Ds, d1, d2, d3⟩ := s.df
  exact ⟨Ds, d1, d2, fun D hD => ⟨(d3 D hD).1, (d3 D hD).2.1, fun f lc ⟨b, h1, h2⟩ hj => (d3 D hD).2.2 f lc ⟨b, l.blk f b h1, h2⟩ hj⟩⟩

theorem Piece.seq {nt : Nat} {x y : Code} {tm tm1 tm2 tm3 : Tm} {h h1 h2 h3 : H} {e : Ex} (hx : Piece P nt x tm h .norm tm1 h1) (hl : Less tm2 h2 tm1 h1) (hy : Piece P nt y tm2 h2 e tm3 h3) : Piece P nt (.seq x y) tm h e tm3 h3 := by
  intro n b0 a w j Q s hQ
  refine wpIn_seq (hx n b0 a w j _ s fun j1 a1 w1 s1 x1 => ?_)
  exact hy n b0 a1 w1 j1 Q (s1.less hl) fun j2 a2 w2 s2 x2 => hQ j2 a2 w2 s2 ((x1.sub hl.blk).trans x2)

/-- a function without arguments, from its body's piece -/
theorem closed_of_piece {g : FuncId} {fn : Func} {b : Code} {rs : List (Pos × Option Nat)} {tm' : Tm} {h' : H} {e : Ex} {v : AV} (hf : P.funcs[g]? = some fn) (hb : fn.body = some b) (hname : fn.name ≠ "runtime.NumGoroutine")
    (hrs : mapO (resF P) fn.results.toList = some rs) (hp : Piece P fn.ntmps b .nil H.zero e tm' h') (he : e = .norm ∨ e = .ret) (hro : resOf tm' h' rs = some [v]) (hv : v.flat = true) : Closed P g v := by
  intro w
  have hblk : ∀ f, H.zero.blk f = none := fun f => T.get_nil f
  have hR : RB P (fun _ => none) H.zero.blk H.zero.next.toN w := ⟨(fun f l h => by cases h), (fun f b h => by rw [hblk] at h; cases h), (fun f g lf lg ⟨b, h, _⟩ => by rw [hblk] at h; cases h)⟩
  refine ⟨by simp [callFunc, program, Sem.run, hf, hname, hb], fun n => callsIn_of_wp_marks hf hb trivial ?_⟩
  have hT : TmR (fun _ => none) fn.ntmps .nil ((#[] : Array Value) ++ Array.replicate (fn.ntmps - (#[] : Array Value).size) undef) := args_spec (vs := []) (cs := #[]) .nil fn.ntmps
  refine hp n w.heap.size _ w _ _ ⟨hT, hR, ⟨[], rfl, List.nodup_nil, fun D hD => by cases hD⟩, Nat.le_refl _⟩ fun j2 a2 w2 s2 x2 => ?_
  have hpost : LeavesInM Fence.wide n P fn a2.tmps (fun e w' => ∃ cv, e = .returned cv ∧ (∀ j, VR j v cv) ∧ w.heap.size ≤ w'.heap.size ∧ (∀ b, b < w.heap.size → w'.heap[b]? = w.heap[b]?) ∧ w'.os = w.os ∧ w'.output = w.output ∧ w'.tape = w.tape) a2.defers .returning w2 := by
    obtain ⟨Ds, d1, d2, d3⟩ := s2.df
    rw [d1]
    refine leaves_marks (b0 := w.heap.size) (w := w2) Ds w2 s2.rb rfl rfl rfl rfl d2 d3 (fun _ _ => rfl) fun w3 r1 r2 r3 r4 r5 r6 => ?_
    obtain ⟨cs, g1, g2⟩ := res_spec (w := w3) s2.tm r1 fn.results.toList rs hrs [v] hro
    have hval := resVal_spec g2
    refine ⟨_, resultsRun g1, _, rfl, fun j => hval.flat hv, by rw [r2]; exact x2.size, fun k hk => ?_, r3.trans x2.os, r4.trans x2.output, r5.trans x2.tape⟩
    rw [r6 k hk]
    exact x2.keep k hk fun f l ⟨b', h1, _⟩ _ => by rw [hblk] at h1; cases h1
  rcases he with rfl | rfl
  · exact hpost
  · exact hpost
end Go.Ev


namespace Go.Ev
variable {P : Program}

/-! ## Literal states, and how a state is held against one -/

noncomputable def listB {α : Type} (eq : α → α → Bool) : List α → List α → Bool
  | [], [] => true
  | x :: xs, y :: ys => and (eq x y) (listB eq xs ys)
  | _, _ => false
theorem listB_eq {α : Type} {eq : α → α → Bool} (he : ∀ x y, eq x y = true → x = y) : ∀ {xs ys : List α}, listB eq xs ys = true → xs = ys := by
  intro xs
  induction xs with
  | nil => intro ys h; cases ys with | nil => rfl | cons => cases h
  | cons x xs ih =>
    intro ys h
    cases ys with
    | nil => cases h
    | cons y ys =>
      obtain ⟨h1, h2⟩ := and_true (show and (eq x y) (listB eq xs ys) = true from h)
      rw [he _ _ h1, ih h2]

noncomputable def avLeaf : AV → AV → Bool
  | .junk, .junk => true
  | .yld l, .yld l' => posEq l l'
  | x, y => flatSame x y
theorem avLeaf_eq {x y : AV} (h : avLeaf x y = true) : x = y := by
  unfold avLeaf at h
  split at h
  · rfl
  · rw [posEq_eq h]
  · exact flatSame_eq h

noncomputable def avDeep (rec : AV → AV → Bool) : AV → AV → Bool
  | .agg xs, .agg ys => listB rec xs ys
  | .tup xs, .tup ys => listB rec xs ys
  | .ifc t v, .ifc t' v' => and (Nat.beq t t') (rec v v')
  | .fn f a b, .fn g c d => and (Nat.beq f g) (and (listB rec a c) (listB rec b d))
  | x, y => avLeaf x y
theorem avDeep_eq {rec : AV → AV → Bool} (hr : ∀ x y, rec x y = true → x = y) {x y : AV} (h : avDeep rec x y = true) : x = y := by
  unfold avDeep at h
  split at h
  · rw [listB_eq hr h]
  · rw [listB_eq hr h]
  · obtain ⟨h1, h2⟩ := and_true h
    rw [Nat.eq_of_beq_eq_true h1, hr _ _ h2]
  · obtain ⟨h1, h2⟩ := and_true h
    obtain ⟨h2, h3⟩ := and_true h2
    rw [Nat.eq_of_beq_eq_true h1, listB_eq hr h2, listB_eq hr h3]
  · exact avLeaf_eq h
noncomputable def avE : AV → AV → Bool := avDeep (avDeep (avDeep avLeaf))
theorem avE_eq (x y : AV) (h : avE x y = true) : x = y :=
  avDeep_eq (fun _ _ h => avDeep_eq (fun _ _ h => avDeep_eq (fun _ _ h => avLeaf_eq h) h) h) h

noncomputable def optB {α : Type} (eq : α → α → Bool) : Option α → Option α → Bool
  | none, none => true
  | some x, some y => eq x y
  | _, _ => false
theorem optB_eq {α : Type} {eq : α → α → Bool} (he : ∀ x y, eq x y = true → x = y) {x y : Option α} (h : optB eq x y = true) : x = y := by
  unfold optB at h
  split at h
  · rfl
  · rw [he _ _ h]
  · cases h
/-- what the literal says is so -/
noncomputable def optL {α : Type} (eq : α → α → Bool) : Option α → Option α → Bool
  | none, _ => true
  | some x, some y => eq x y
  | some _, none => false

noncomputable def tB {α : Type} (eq : α → α → Bool) : T α → T α → Bool
  | .nil, .nil => true
  | .node l r v, .node l' r' v' => and (optB eq v v') (and (tB eq l l') (tB eq r r'))
  | _, _ => false
theorem tB_eq {α : Type} {eq : α → α → Bool} (he : ∀ x y, eq x y = true → x = y) : ∀ {x y : T α}, tB eq x y = true → x = y := by
  intro x
  induction x with
  | nil => intro y h; cases y with | nil => rfl | node => cases h
  | node l r v ihl ihr =>
    intro y h
    cases y with
    | nil => cases h
    | node l' r' v' =>
      obtain ⟨h1, h2⟩ := and_true (show and (optB eq v v') (and (tB eq l l') (tB eq r r')) = true from h)
      obtain ⟨h2, h3⟩ := and_true h2
      rw [optB_eq he h1, ihl h2, ihr h3]
noncomputable def tL {α : Type} (eq : α → α → Bool) : T α → T α → Bool
  | .nil, _ => true
  | .node l r v, .node l' r' v' => and (optL eq v v') (and (tL eq l l') (tL eq r r'))
  | .node _ _ _, .nil => false
theorem tL_spec {α : Type} {eq : α → α → Bool} (he : ∀ x y, eq x y = true → x = y) : ∀ {x y : T α}, tL eq x y = true → ∀ p v, T.get p x = some v → T.get p y = some v := by
  intro x
  induction x with
  | nil => intro y h p v hp; rw [T.get_nil] at hp; cases hp
  | node l r u ihl ihr =>
    intro y h p v hp
    cases y with
    | nil => cases h
    | node l' r' u' =>
      obtain ⟨h1, h2⟩ := and_true (show and (optL eq u u') (and (tL eq l l') (tL eq r r')) = true from h)
      obtain ⟨h2, h3⟩ := and_true h2
      cases p with
      | h =>
        rw [T.get_h] at hp ⊢
        subst hp
        cases u' with
        | none => cases h1
        | some y => rw [he _ _ h1]
      | o p => rw [T.get_o] at hp ⊢; exact ihl h2 p v hp
      | i p => rw [T.get_i] at hp ⊢; exact ihr h3 p v hp

noncomputable def pairB (x y : AV × AV) : Bool := and (avE x.1 y.1) (avE x.2 y.2)
theorem pairB_eq (x y : AV × AV) (h : pairB x y = true) : x = y := by
  obtain ⟨h1, h2⟩ := and_true h
  exact Prod.ext (avE_eq _ _ h1) (avE_eq _ _ h2)
noncomputable def blkB : Blk → Blk → Bool
  | .cells c lo hi, .cells c' lo' hi' => and (tB avE c c') (and (Nat.beq lo lo') (Nat.beq hi hi'))
  | .map es, .map es' => listB pairB es es'
  | .siter s pos, .siter s' pos' => and (strEq s s') (Nat.beq pos pos')
  | .miter m n pos, .miter m' n' pos' => and (optB posEq m m') (and (Nat.beq n n') (Nat.beq pos pos'))
  | .dead, .dead => true
  | _, _ => false
theorem strEq_eq' : ∀ {a b : List Nat}, strEq a b = true → a = b := by
  intro a
  induction a with
  | nil => intro b h; cases b with | nil => rfl | cons => cases h
  | cons x xs ih =>
    intro b h
    cases b with
    | nil => cases h
    | cons y ys =>
      have h : (Bool.rec (motive := fun _ => Bool) false (strEq xs ys) (Nat.beq x y)) = true := h
      cases hb : Nat.beq x y with
      | false => rw [hb] at h; cases h
      | true => rw [hb] at h; rw [Nat.eq_of_beq_eq_true hb, ih h]
theorem blkB_eq (x y : Blk) (h : blkB x y = true) : x = y := by
  unfold blkB at h
  split at h
  · obtain ⟨h1, h2⟩ := and_true h
    obtain ⟨h2, h3⟩ := and_true h2
    rw [tB_eq avE_eq h1, Nat.eq_of_beq_eq_true h2, Nat.eq_of_beq_eq_true h3]
  · rw [listB_eq pairB_eq h]
  · obtain ⟨h1, h2⟩ := and_true h
    rw [strEq_eq' h1, Nat.eq_of_beq_eq_true h2]
  · obtain ⟨h1, h2⟩ := and_true h
    obtain ⟨h2, h3⟩ := and_true h2
    rw [optB_eq (fun _ _ h => posEq_eq h) h1, Nat.eq_of_beq_eq_true h2, Nat.eq_of_beq_eq_true h3]
  · rfl
  · cases h

noncomputable def hL (h2 h : H) : Bool := and (tL blkB h2.m h.m) (posEq h2.next h.next)

/-- is the answer this literal state? -/
noncomputable def isSt (tm2 : Tm) (h2 : H) : R → Bool
  | .ok .norm tm h => and (tL avE tm2 tm) (hL h2 h)
  | _ => false
theorem isSt_ok {tm2 : Tm} {h2 : H} {r : R} (hr : isSt tm2 h2 r = true) : ∃ tm h, r = .ok .norm tm h ∧ Less tm2 h2 tm h := by
  unfold isSt at hr
  split at hr
  · rename_i tm h
    obtain ⟨h1, hr⟩ := and_true hr
    obtain ⟨h2', h3⟩ := and_true (show and (tL blkB h2.m h.m) (posEq h2.next h.next) = true from hr)
    exact ⟨tm, h, rfl, fun p v hp => tL_spec avE_eq h1 p v hp, fun f b hf => tL_spec blkB_eq h2' f b hf, by rw [posEq_eq h3]; exact Nat.le_refl _⟩
  · cases hr

/-! ## Codes one behind the other -/

def seqs : List Code → Code → Code
  | [], y => y
  | c :: cs, y => .seq c (seqs cs y)
def unseqL : Nat → Code → List Code
  | 0, _ => []
  | n + 1, .seq a b => a :: unseqL n b
  | _ + 1, _ => []
def unseqR : Nat → Code → Code
  | 0, c => c
  | n + 1, .seq _ b => unseqR n b
  | _ + 1, c => c
theorem seqs_unseq : ∀ (n : Nat) (c : Code), seqs (unseqL n c) (unseqR n c) = c := by
  intro n
  induction n with
  | zero => intro c; rfl
  | succ n ih =>
    intro c
    cases c
    case seq a b => show Code.seq a (seqs (unseqL n b) (unseqR n b)) = _; rw [ih]
    all_goals rfl

noncomputable def thenR (k : Tm → H → R) : R → R
  | .ok .norm tm h => k tm h
  | _ => .fail
noncomputable def runCs (call : CallF) (m : Nat) (l : List CC) : Tm → H → R :=
  List.rec (motive := fun _ => Tm → H → R) (fun tm h => .ok .norm tm h) (fun c _ ih tm h => thenR ih (runCC call m c tm h)) l

theorem Piece.less {nt : Nat} {c : Code} {tm tm2 tm3 : Tm} {h h2 h3 : H} {e : Ex} (hl : Less tm2 h2 tm h) (hp : Piece P nt c tm2 h2 e tm3 h3) : Piece P nt c tm h e tm3 h3 := by
  intro n b0 a w j Q s hQ
  exact hp n b0 a w j Q (s.less hl) fun j2 a2 w2 s2 x2 => hQ j2 a2 w2 s2 ⟨x2.le, x2.size, fun b hb hf => x2.keep b hb fun f l ⟨bb, k1, k2⟩ hj => hf f l ⟨bb, hl.blk f bb k1, k2⟩ hj,
    fun f l hl' hj => (x2.img f l hl' hj).imp id fun ⟨g, lg, ⟨bb, k1, k2⟩, k3, k4⟩ => ⟨g, lg, ⟨bb, hl.blk g bb k1, k2⟩, k3, k4⟩, x2.os, x2.output, x2.tape⟩

theorem Less.refl (tm : Tm) (h : H) : Less tm h tm h := ⟨fun _ _ h => h, fun _ _ h => h, Nat.le_refl _⟩

theorem Piece.seqs {call : CallF} {nt m : Nat} (hc : CodeOk P call nt m) {y : Code} {tm2 tm3 : Tm} {h2 h3 : H} {e : Ex} (hy : Piece P nt y tm2 h2 e tm3 h3) :
    ∀ (l : List Code) {tm tm1 : Tm} {h h1 : H}, runCs call m (l.map (cC P nt true)) tm h = .ok .norm tm1 h1 → Less tm2 h2 tm1 h1 → Piece P nt (seqs l y) tm h e tm3 h3 := by
  intro l
  induction l with
  | nil => intro tm tm1 h h1 hr hl; cases hr; exact hy.less hl
  | cons c l ih =>
    intro tm tm1 h h1 hr hl
    have hr : thenR (runCs call m (l.map (cC P nt true))) (runCC call m (cC P nt true c) tm h) = .ok .norm tm1 h1 := hr
    cases hx : runCC call m (cC P nt true c) tm h with
    | fail => rw [hx] at hr; cases hr
    | ok e' tm' h' =>
      rw [hx] at hr
      cases e' with
      | norm => exact Piece.seq (Piece.of_run hc hx) (Less.refl _ _) (ih hr hl)
      | exit => cases hr
      | ret => cases hr

/-- this code ends with this result -/
def Ends (P : Program) (nt : Nat) (c : Code) (tm : Tm) (h : H) (rs : List (Pos × Option Nat)) (v : AV) : Prop :=
  ∃ e tm' h', (e = .norm ∨ e = .ret) ∧ resOf tm' h' rs = some [v] ∧ Piece P nt c tm h e tm' h'

theorem Ends.step {call : CallF} {nt m : Nat} (hc : CodeOk P call nt m) (k : Nat) {c : Code} {tm tm2 : Tm} {h h2 : H} {rs : List (Pos × Option Nat)} {v : AV}
    (hr : isSt tm2 h2 (runCs call m ((unseqL k c).map (cC P nt true)) tm h) = true) (hy : Ends P nt (unseqR k c) tm2 h2 rs v) : Ends P nt c tm h rs v := by
  obtain ⟨e, tm', h', he, hv, hp⟩ := hy
  obtain ⟨tm1, h1, h3, h4⟩ := isSt_ok hr
  have := Piece.seqs hc hp _ h3 h4
  rw [seqs_unseq] at this
  exact ⟨e, tm', h', he, hv, this⟩

noncomputable def isEnd (b : Bool) (rs : List (Pos × Option Nat)) : R → Bool
  | .ok .norm tm h => match resOf tm h rs with
    | some [.bool x] => boolEq x b
    | _ => false
  | .ok .ret tm h => match resOf tm h rs with
    | some [.bool x] => boolEq x b
    | _ => false
  | _ => false
theorem isEnd_ok {b : Bool} {rs : List (Pos × Option Nat)} {r : R} (hr : isEnd b rs r = true) : ∃ e tm h, r = .ok e tm h ∧ (e = .norm ∨ e = .ret) ∧ resOf tm h rs = some [.bool b] := by
  unfold isEnd at hr
  split at hr
  · rename_i tm h
    split at hr
    · rename_i x hx; rw [boolEq_eq hr] at hx; exact ⟨_, tm, h, rfl, .inl rfl, hx⟩
    · cases hr
  · rename_i tm h
    split at hr
    · rename_i x hx; rw [boolEq_eq hr] at hx; exact ⟨_, tm, h, rfl, .inr rfl, hx⟩
    · cases hr
  · cases hr

theorem Ends.last {call : CallF} {nt m : Nat} (hc : CodeOk P call nt m) {c : Code} {tm : Tm} {h : H} {rs : List (Pos × Option Nat)} {b : Bool}
    (hr : isEnd b rs (runCC call m (cC P nt true c) tm h) = true) : Ends P nt c tm h rs (.bool b) := by
  obtain ⟨e, tm', h', h1, h2, h3⟩ := isEnd_ok hr
  exact ⟨e, tm', h', h2, h3, Piece.of_run hc h1⟩

theorem codeP_ok (hm : P.follows .mixedOrders = true) (hname : ∀ (f : FuncId) (fn : Func), P.funcs[f]? = some fn → fn.name ≠ "runtime.NumGoroutine") {tab : FuncId → Option AV} (htab : ∀ g v, tab g = some v → Closed P g v) (m nt : Nat) :
    CodeOk P (runP (cF P) tab m) nt m := code_ok hm (runP_ok hm hname htab m) m

theorem closed_of_ends {g : FuncId} {fn : Func} {b : Code} {rs : List (Pos × Option Nat)} {v : AV} (hf : P.funcs[g]? = some fn) (hb : fn.body = some b) (hname : fn.name ≠ "runtime.NumGoroutine")
    (hrs : mapO (resF P) fn.results.toList = some rs) (he : Ends P fn.ntmps b .nil H.zero rs v) (hv : v.flat = true) : Closed P g v := by
  obtain ⟨e, tm', h', h1, h2, h3⟩ := he
  exact closed_of_piece hf hb hname hrs h3 h1 h2 hv
end Go.Ev


namespace Go.Ev
variable {P : Program}

/-! ## Known calls: a call from a literal heap to a literal heap, used inside of larger runs -/

def Known (P : Program) (f : FuncId) (args : List AV) (h : H) (v : AV) (h' : H) : Prop :=
  ∀ w j, RB P j h.blk h.next.toN w → ∀ vs : Array Value, VRs j args vs.toList →
    (callFunc f vs).run P w = .ok (.enter f vs) w ∧ ∀ n, CallsIn Fence.wide n P f vs w (RetPost P j h w v h')

structure Entry where
  args : List AV
  h : H
  v : AV
  h' : H

noncomputable def optOver {α : Type} : Option α → Option α → Option α
  | some x, _ => some x
  | none, y => y
noncomputable def tOver {α : Type} : T α → T α → T α
  | .nil, y => y
  | .node l r v, .nil => .node l r v
  | .node l r v, .node l' r' v' => .node (tOver l l') (tOver r r') (optOver v v')
theorem tOver_get {α : Type} : ∀ {x y : T α} (p : Pos), T.get p (tOver x y) = optOver (T.get p x) (T.get p y) := by
  intro x
  induction x with
  | nil => intro y p; rw [T.get_nil]; cases y <;> rfl
  | node l r v ihl ihr =>
    intro y p
    cases y with
    | nil =>
      rw [T.get_nil]
      show T.get p (.node l r v) = _
      cases T.get p (.node l r v) <;> rfl
    | node l' r' v' =>
      cases p with
      | h => rfl
      | o p => rw [T.get_o, T.get_o]; exact ihl p
      | i p => rw [T.get_i, T.get_i]; exact ihr p

noncomputable def useK (args : List AV) (h : H) (rest : RC) : List Entry → RC
  | [] => rest
  | e :: es => match and (listB avE e.args args) (hL e.h h) with
    | true => .ok e.v { next := e.h'.next, m := tOver e.h'.m h.m }
    | false => useK args h rest es
noncomputable def patchE (tab : FuncId → List Entry) (call : CallF) : CallF := fun f args h =>
  Callee.rec (motive := fun _ => RC) (fun g => useK args h (call f args h) (tab g)) (fun _ => call f args h) f

theorem blk_over {a b : H} {n : Pos} : (({ next := n, m := tOver a.m b.m } : H)).blk = Bl.over a.blk b.blk := by
  funext f
  show T.get f (tOver a.m b.m) = _
  rw [tOver_get]
  show optOver (a.blk f) (b.blk f) = Bl.over a.blk b.blk f
  unfold Bl.over
  cases a.blk f <;> rfl

theorem Known.use {g : FuncId} {e : Entry} (hk : Known P g e.args e.h e.v e.h') {h : H} (hl : hL e.h h = true) : Known P g e.args h e.v { next := e.h'.next, m := tOver e.h'.m h.m } := by
  obtain ⟨h1, h2⟩ := and_true (show and (tL blkB e.h.m h.m) (posEq e.h.next h.next) = true from hl)
  have hsub : ∀ f b, e.h.blk f = some b → h.blk f = some b := fun f b hf => tL_spec blkB_eq h1 f b hf
  have hn := posEq_eq h2
  intro w j hR vs hvs
  have hR0 : RB P j e.h.blk e.h.next.toN w := hR.sub hsub (by rw [hn]; exact Nat.le_refl _)
  obtain ⟨k1, k2⟩ := hk w j hR0 vs hvs
  refine ⟨k1, fun n => CallsIn.mono (k2 n) fun en w' ⟨g1, cv, g2, j', g3, g4, g5⟩ => ⟨by rw [← hn]; exact g1, cv, g2, j', g3, ?_⟩⟩
  obtain ⟨r1, r2⟩ := RB.frame hR hsub g4 g5
  rw [blk_over]
  exact ⟨r1, r2⟩

theorem patchE_ok {call : CallF} (hcall : CallsOk P call) {tab : FuncId → List Entry} (htab : ∀ g, ∀ e ∈ tab g, Known P g e.args e.h e.v e.h') : CallsOk P (patchE tab call) := by
  intro f args h v h' hr w j hR
  cases f with
  | yld l => exact hcall (.yld l) args h v h' hr w j hR
  | fn g =>
    have hr : useK args h (call (.fn g) args h) (tab g) = .ok v h' := hr
    have key : ∀ es : List Entry, (∀ e ∈ es, Known P g e.args e.h e.v e.h') → useK args h (call (.fn g) args h) es = .ok v h' →
        ∀ vs : Array Value, VRs j args vs.toList → (callFunc g vs).run P w = .ok (.enter g vs) w ∧ ∀ n, CallsIn Fence.wide n P g vs w (RetPost P j h w v h') := by
      intro es
      induction es with
      | nil => intro _ hq; exact hcall (.fn g) args h v h' hq w j hR
      | cons e es ih =>
        intro hes hq
        unfold useK at hq
        split at hq
        · rename_i hc
          obtain ⟨c1, c2⟩ := and_true hc
          have ha := listB_eq avE_eq c1
          cases hq
          rw [← ha]
          exact fun vs hvs => (hes e (by simp)).use c2 w j hR vs hvs
        · exact ih (fun e he => hes e (by simp [he])) hq
    exact key (tab g) (htab g) hr

/-- the evaluator, with some calls known -/
noncomputable def runE (fs : FuncId → Option CF) (tab : FuncId → List Entry) (n : Nat) : CallF :=
  Nat.rec (motive := fun _ => CallF) (fun _ _ _ => .fail) (fun n ih => patchE tab (stepF fs (runCC ih n))) n

theorem runE_ok (hm : P.follows .mixedOrders = true) (hname : ∀ (f : FuncId) (fn : Func), P.funcs[f]? = some fn → fn.name ≠ "runtime.NumGoroutine") {tab : FuncId → List Entry} (htab : ∀ g, ∀ e ∈ tab g, Known P g e.args e.h e.v e.h') : ∀ m, CallsOk P (runE (cF P) tab m) := by
  intro m
  induction m with
  | zero => intro f args h v h' hr; cases hr
  | succ m ih =>
    show CallsOk P (patchE tab (stepF (cF P) (runCC (runE (cF P) tab m) m)))
    refine patchE_ok ?_ htab
    intro f args h v h' hr w j hR
    cases f with
    | fn f => exact enter_sound (fun nt => code_ok hm ih m) hname hr w j hR
    | yld l => exact yield_sound (fun nt => code_ok hm ih m) hr w j hR

/-! ### which families values speak of -/

noncomputable def allB {α : Type} (q : α → Bool) : List α → Bool
  | [] => true
  | x :: xs => and (q x) (allB q xs)
noncomputable def inLeaf (dm : Pos → Bool) : AV → Bool
  | .ptr f _ => dm f
  | .sl f _ _ _ _ _ => dm f
  | .map f => dm f
  | .yld f => dm f
  | .agg xs => match xs with | [] => true | _ => false
  | .tup xs => match xs with | [] => true | _ => false
  | .fn _ a b => match a, b with | [], [] => true | _, _ => false
  | .ifc _ _ => false
  | _ => true
noncomputable def inDeep (dm : Pos → Bool) (rec : AV → Bool) : AV → Bool
  | .agg xs => allB rec xs
  | .tup xs => allB rec xs
  | .ifc _ v => rec v
  | .fn _ a b => and (allB rec a) (allB rec b)
  | x => inLeaf dm x
noncomputable def inE (dm : Pos → Bool) : AV → Bool := inDeep dm (inDeep dm (inDeep dm (inLeaf dm)))

def KeepsIn (j j' : Inj) (v : AV) : Prop := ∀ c, VR j v c → VR j' v c

theorem keepsAll {j j' : Inj} {q : AV → Bool} (hq : ∀ v, q v = true → KeepsIn j j' v) : ∀ {xs : List AV}, allB q xs = true → ∀ {cs : List Value}, VRs j xs cs → VRs j' xs cs := by
  intro xs
  induction xs with
  | nil => intro _ cs h; cases h; exact .nil
  | cons x xs ih =>
    intro ha cs h
    obtain ⟨h1, h2⟩ := and_true (show and (q x) (allB q xs) = true from ha)
    cases h with
    | cons _ _ c cs h hs => exact .cons _ _ _ _ (hq x h1 c h) (ih h2 hs)

theorem VRs.nil_any {j j' : Inj} {cs : List Value} (h : VRs j [] cs) : VRs j' [] cs := by cases h; exact .nil

theorem keepsLeaf {j j' : Inj} {dm : Pos → Bool} (hd : ∀ f, dm f = true → j' f = j f) (v : AV) (hv : inLeaf dm v = true) : KeepsIn j j' v := by
  intro c h
  cases h with
  | junk => exact .junk _
  | bool => exact .bool _
  | int => exact .int _ _
  | str => exact .str _
  | nilp => exact .nilp
  | ptr f o l h hb => exact .ptr f o l (by rw [hd f hv]; exact h) hb
  | nils => exact .nils
  | sl f o len cap ex sz l a capc h h1 h2 h3 h4 => exact .sl f o len cap ex sz l a capc (by rw [hd f hv]; exact h) h1 h2 h3 h4
  | nilm => exact .nilm
  | map f l h => exact .map f l (by rw [hd f hv]; exact h)
  | nilf => exact .nilf
  | fn f a b va vb h1 h2 =>
    cases a with
    | cons => cases hv
    | nil => cases b with
      | cons => cases hv
      | nil => exact .fn _ _ _ _ _ h1.nil_any h2.nil_any
  | yld f l h => exact .yld f l (by rw [hd f hv]; exact h)
  | nili => exact .nili
  | ifc => cases hv
  | agg cs vs h =>
    cases cs with
    | cons => cases hv
    | nil => exact .agg _ _ h.nil_any
  | tup cs vs h =>
    cases cs with
    | cons => cases hv
    | nil => exact .tup _ _ h.nil_any

theorem keepsDeep {j j' : Inj} {dm : Pos → Bool} (hd : ∀ f, dm f = true → j' f = j f) {rec : AV → Bool} (hr : ∀ v, rec v = true → KeepsIn j j' v) (v : AV) (hv : inDeep dm rec v = true) : KeepsIn j j' v := by
  cases v
  case agg xs => intro c h; cases h with | agg _ vs h => exact .agg _ _ (keepsAll hr hv h)
  case tup xs => intro c h; cases h with | tup _ vs h => exact .tup _ _ (keepsAll hr hv h)
  case ifc t v => intro c h; cases h with | ifc _ _ cv h => exact .ifc _ _ _ (hr v hv cv h)
  case fn f a b =>
    intro c h
    obtain ⟨h1, h2⟩ := and_true (show and (allB rec a) (allB rec b) = true from hv)
    cases h with | fn _ _ _ va vb g1 g2 => exact .fn _ _ _ _ _ (keepsAll hr h1 g1) (keepsAll hr h2 g2)
  all_goals exact keepsLeaf hd _ hv

theorem keepsE {j j' : Inj} {dm : Pos → Bool} (hd : ∀ f, dm f = true → j' f = j f) (v : AV) (hv : inE dm v = true) : KeepsIn j j' v :=
  keepsDeep hd (fun v hv => keepsDeep hd (fun v hv => keepsDeep hd (fun v hv => keepsLeaf hd v hv) v hv) v hv) v hv

noncomputable def optAll {α : Type} (q : α → Bool) : Option α → Bool
  | none => true
  | some x => q x
noncomputable def tAll {α : Type} (q : α → Bool) : T α → Bool
  | .nil => true
  | .node l r v => and (optAll q v) (and (tAll q l) (tAll q r))
theorem tAll_get {α : Type} {q : α → Bool} : ∀ {t : T α}, tAll q t = true → ∀ p v, T.get p t = some v → q v = true := by
  intro t
  induction t with
  | nil => intro _ p v h; rw [T.get_nil] at h; cases h
  | node l r u ihl ihr =>
    intro ha p v h
    obtain ⟨h1, h2⟩ := and_true (show and (optAll q u) (and (tAll q l) (tAll q r)) = true from ha)
    obtain ⟨h2, h3⟩ := and_true h2
    cases p with
    | h => rw [T.get_h] at h; subst h; exact h1
    | o p => rw [T.get_o] at h; exact ihl h2 p v h
    | i p => rw [T.get_i] at h; exact ihr h3 p v h

noncomputable def inBlk (dm : Pos → Bool) : Blk → Bool
  | .cells c _ _ => tAll (inE dm) c
  | .map es => allB (fun e => and (inE dm e.1) (inE dm e.2)) es
  | .siter _ _ => true
  | .miter none _ _ => true
  | .miter (some m) _ _ => dm m
  | .loop _ => false
  | .dead => true

theorem keepsEs {j j' : Inj} {dm : Pos → Bool} (hd : ∀ f, dm f = true → j' f = j f) {es : List (AV × AV)} {ces : List MapEntry} (h : EsR j es ces) (ha : allB (fun e => and (inE dm e.1) (inE dm e.2)) es = true) : EsR j' es ces := by
  induction h with
  | nil => exact .nil
  | cons k v es e ces hk hv _ ih =>
    obtain ⟨h1, h2⟩ := and_true (show and (and (inE dm k) (inE dm v)) (allB (fun e => and (inE dm e.1) (inE dm e.2)) es) = true from ha)
    obtain ⟨h3, h4⟩ := and_true h1
    exact .cons _ _ _ _ _ (keepsE hd k h3 _ hk) (keepsE hd v h4 _ hv) (ih h2)

theorem keepsBlk {j j' : Inj} {dm : Pos → Bool} (hd : ∀ f, dm f = true → j' f = j f) {b : Blk} {l : Loc} {w : World} (h : BlkR P j b l w) (hb : inBlk dm b = true) : BlkR P j' b l w := by
  cases b with
  | cells c lo hi =>
    obtain ⟨cs, e, fz, h1, h2, h3, h4, h5, h6⟩ := h
    exact ⟨cs, e, fz, h1, h2, h3, h4, h5, fun i v a b hc => let ⟨cv, d, g⟩ := h6 i v a b hc; ⟨cv, d, keepsE hd v (tAll_get hb _ _ hc) _ g⟩⟩
  | map es =>
    obtain ⟨h0, ces, h1, h2, h3⟩ := h
    exact ⟨h0, ces, h1, keepsEs hd h2 hb, h3⟩
  | siter s pos => exact h
  | miter m n pos =>
    cases m with
    | none => exact h
    | some m =>
      obtain ⟨h0, lm, seen, h1, h2, h3⟩ := h
      exact ⟨h0, lm, seen, by rw [hd m hb]; exact h1, h2, h3⟩
  | loop st => cases hb
  | dead => trivial

/-! ### a known call, from a run -/

noncomputable def blkD : Blk → Blk → Bool
  | .dead, _ => true
  | x, y => blkB x y
theorem blkD_spec {x y : Blk} (h : blkD x y = true) : x = .dead ∨ x = y := by
  unfold blkD at h
  split at h
  · exact .inl rfl
  · exact .inr (blkB_eq _ _ h)
theorem tL_rel {α : Type} {eq : α → α → Bool} {r : α → α → Prop} (he : ∀ x y, eq x y = true → r x y) : ∀ {x y : T α}, tL eq x y = true → ∀ p v, T.get p x = some v → ∃ u, T.get p y = some u ∧ r v u := by
  intro x
  induction x with
  | nil => intro y h p v hp; rw [T.get_nil] at hp; cases hp
  | node l r u ihl ihr =>
    intro y h p v hp
    cases y with
    | nil => cases h
    | node l' r' u' =>
      obtain ⟨h1, h2⟩ := and_true (show and (optL eq u u') (and (tL eq l l') (tL eq r r')) = true from h)
      obtain ⟨h2, h3⟩ := and_true h2
      cases p with
      | h =>
        rw [T.get_h] at hp ⊢
        subst hp
        cases u' with
        | none => cases h1
        | some y => exact ⟨y, rfl, he _ _ h1⟩
      | o p => rw [T.get_o] at hp ⊢; exact ihl h2 p v hp
      | i p => rw [T.get_i] at hp ⊢; exact ihr h3 p v hp

noncomputable def isS {α : Type} : Option α → Bool
  | some _ => true
  | none => false
noncomputable def hDom (h : H) (f : Pos) : Bool := isS (T.get f h.m)

noncomputable def isCall (h0 : H) (v2 : AV) (h2 : H) : RC → Bool
  | .ok v h => and (avE v2 v) (and (and (tL blkD h2.m h.m) (posEq h2.next h.next)) (and (tL (fun _ _ => true) h0.m h2.m) (and (inE (hDom h2) v2) (tAll (inBlk (hDom h2)) h2.m))))
  | .fail => false

noncomputable def Inj.only (j j' : Inj) (dm : Pos → Bool) : Inj := fun f => match dm f, j f with
  | true, _ => j' f
  | false, some _ => j' f
  | false, none => none
theorem Inj.only_in {j j' : Inj} {dm : Pos → Bool} {f : Pos} (h : dm f = true) : Inj.only j j' dm f = j' f := by unfold Inj.only; rw [h]
theorem Inj.only_old {j j' : Inj} {dm : Pos → Bool} {f : Pos} {l : Loc} (h : j f = some l) : Inj.only j j' dm f = j' f := by unfold Inj.only; rw [h]; cases dm f <;> rfl
theorem Inj.only_none {j j' : Inj} {dm : Pos → Bool} {f : Pos} (h : j f = none) (hd : dm f = false) : Inj.only j j' dm f = none := by unfold Inj.only; rw [h, hd]
theorem Inj.only_some {j j' : Inj} {dm : Pos → Bool} {f : Pos} {l : Loc} (h : Inj.only j j' dm f = some l) : j' f = some l := by
  unfold Inj.only at h
  split at h
  · exact h
  · exact h
  · cases h

theorem Known.of_run {call : CallF} (hcall : CallsOk P call) {f : FuncId} {args : List AV} {h0 h2 : H} {v2 : AV} (hr : isCall h0 v2 h2 (call (.fn f) args h0) = true) : Known P f args h0 v2 h2 := by
  cases hc : call (.fn f) args h0 with
  | fail => rw [hc] at hr; cases hr
  | ok v h =>
    rw [hc] at hr
    obtain ⟨h1, hr⟩ := and_true (show and (avE v2 v) (and (and (tL blkD h2.m h.m) (posEq h2.next h.next)) (and (tL (fun _ _ => true) h0.m h2.m) (and (inE (hDom h2) v2) (tAll (inBlk (hDom h2)) h2.m)))) = true from hr)
    obtain ⟨h3, hr⟩ := and_true hr
    obtain ⟨h3, h4⟩ := and_true h3
    obtain ⟨h5, hr⟩ := and_true hr
    obtain ⟨h6, h7⟩ := and_true hr
    have e1 := avE_eq _ _ h1; subst e1
    have e4 := posEq_eq h4
    have hrel : ∀ f b, h2.blk f = some b → ∃ u, h.blk f = some u ∧ (b = .dead ∨ b = u) := fun f b hb => tL_rel (r := fun b u => b = Blk.dead ∨ b = u) (fun x y hxy => blkD_spec hxy) h3 f b hb
    have hdm : ∀ f b, h2.blk f = some b → hDom h2 f = true := fun f b hb => by unfold hDom; rw [show T.get f h2.m = some b from hb]; rfl
    have hdn : ∀ f, h2.blk f = none → hDom h2 f = false := fun f hb => by unfold hDom; rw [show T.get f h2.m = none from hb]; rfl
    have hlive : ∀ f, Live h2.blk f → Live h.blk f := fun f ⟨b, hb, hl⟩ => by
      obtain ⟨u, hu, hbu⟩ := hrel f b hb
      rcases hbu with rfl | rfl
      · exact hl.elim
      · exact ⟨b, hu, hl⟩
    intro w j hR vs hvs
    obtain ⟨k1, k2⟩ := hcall (.fn f) args h0 v2 h hc w j hR vs hvs
    refine ⟨k1, fun n => CallsIn.mono (k2 n) fun en w' ⟨g1, cv, g2, j', g3, g4, g5⟩ => ?_⟩
    have hin : ∀ f, hDom h2 f = true → Inj.only j j' (hDom h2) f = j' f := fun f hf => Inj.only_in hf
    refine ⟨by rw [e4]; exact g1, cv, g2, Inj.only j j' (hDom h2), keepsE hin v2 h6 cv g3, ?_, ?_⟩
    · refine ⟨fun f l hf => by rw [e4]; exact g4.fresh f l (Inj.only_some hf), fun f b hb => ?_, fun f g lf lg hf hg hjf hjg => g4.apart f g lf lg (hlive f hf) (hlive g hg) (Inj.only_some hjf) (Inj.only_some hjg)⟩
      obtain ⟨u, hu, hbu⟩ := hrel f b hb
      obtain ⟨l, q1, q2, q3⟩ := g4.blk f u hu
      refine ⟨l, by rw [hin f (hdm f b hb)]; exact q1, ?_⟩
      rcases hbu with rfl | rfl
      · exact ⟨fun hl => hl.elim, trivial⟩
      · exact ⟨q2, keepsBlk hin q3 (tAll_get h7 f b hb)⟩
    · refine ⟨fun f l hf => by rw [Inj.only_old hf]; exact g5.le f l hf, g5.size, g5.keep, fun f l hl hf => g5.img f l (hlive f hl) (Inj.only_some hf), g5.os, g5.output, g5.tape, fun f hf hb => Inj.only_none hf (hdn f hb), fun f hb => ?_⟩
      cases hb0 : h0.blk f with
      | none => rfl
      | some b =>
        obtain ⟨u, hu, _⟩ := tL_rel (r := fun _ _ => True) (fun _ _ _ => trivial) h5 f b hb0
        rw [show h2.blk f = some u from hu] at hb; cases hb

/-- a closed call of a boolean, with known calls -/
theorem closed_boolE (hm : P.follows .mixedOrders = true) (hname : ∀ (f : FuncId) (fn : Func), P.funcs[f]? = some fn → fn.name ≠ "runtime.NumGoroutine") {tab : FuncId → List Entry} (htab : ∀ g, ∀ e ∈ tab g, Known P g e.args e.h e.v e.h') {m : Nat} {g : FuncId} {b : Bool}
    (hr : isB b (runE (cF P) tab m (.fn g) [] H.zero) = true) : Closed P g (.bool b) := by
  obtain ⟨h', hr⟩ := isB_ok hr
  exact closed_of_run (runE_ok hm hname htab m) rfl hr

/-- a closed call is a known one -/
theorem Closed.known {g : FuncId} {v : AV} (hc : Closed P g v) (h : H) : Known P g [] h v h := by
  intro w j hR vs hvs
  have : vs = #[] := by
    generalize hl : vs.toList = l at hvs
    cases hvs
    exact Array.ext' hl
  subst this
  obtain ⟨h1, h2⟩ := hc w
  refine ⟨h1, fun n => CallsIn.mono (h2 n) fun e w' ⟨cv, he, g1, g2, g3, g4, g5, g6⟩ => ⟨Nat.le_refl _, cv, he, j, g1 j, ?_, ?_⟩⟩
  · exact hR.other g2 fun f l ⟨b, k1, k2⟩ hj => by
      obtain ⟨l', q1, q2, _⟩ := hR.blk f b k1
      rw [hj] at q1; cases q1
      exact g3 _ (q2 k2)
  · exact ⟨Inj.le_refl j, g2, fun b hb _ => g3 b hb, fun f l hl hj => .inr ⟨f, l, hl, hj, rfl⟩, g4, g5, g6, fun _ h _ => h, fun _ h => h⟩
end Go.Ev


namespace Go.Ev.Lit
/-! ## Literals in short -/
noncomputable def q (n : Nat) : Pos := Pos.ofNat n
def i (n : Nat) : AV := .int .i64 (.ofNat n)
noncomputable def cl (k : Nat) (vs : List AV) (lo hi : Nat) : Blk := .cells (setFrom vs .nil k) lo hi
noncomputable def setL : List (Nat × AV) → T AV → T AV
  | [], t => t
  | (k, v) :: l, t => setL l (T.set v (Pos.ofNat k) t)
noncomputable def ck (l : List (Nat × AV)) (lo hi : Nat) : Blk := .cells (setL l .nil) lo hi
noncomputable def setB : List (Nat × Blk) → T Blk → T Blk
  | [], t => t
  | (k, b) :: l, t => setB l (T.set b (Pos.ofNat k) t)
noncomputable def hp (n : Nat) (l : List (Nat × Blk)) : H := { next := q n, m := setB l .nil }
end Go.Ev.Lit
namespace Go.Ev
/-- no function bears this name -/
def namesOk (P : Program) : Bool := P.funcs.toList.all fun fn => !(fn.name == "runtime.NumGoroutine")
theorem names_ok {P : Program} (h : namesOk P = true) (f : FuncId) (fn : Func) (hf : P.funcs[f]? = some fn) : fn.name ≠ "runtime.NumGoroutine" := by
  have hm : fn ∈ P.funcs.toList := by
    have := Array.mem_of_getElem? hf
    simpa using this
  have := List.all_eq_true.1 h fn hm
  simpa using this
theorem tab_ok {P : Program} {tab : FuncId → List Entry} (l : List FuncId) (h1 : ∀ g ∈ l, ∀ e ∈ tab g, Known P g e.args e.h e.v e.h') (h2 : ∀ g, g ∉ l → tab g = []) : ∀ g, ∀ e ∈ tab g, Known P g e.args e.h e.v e.h' := by
  intro g e he
  by_cases hg : g ∈ l
  · exact h1 g hg e he
  · rw [h2 g hg] at he; cases he
noncomputable def tabOf (l : List (FuncId × List Entry)) (g : FuncId) : List Entry := match l with
  | [] => []
  | (f, es) :: l => match Nat.beq g f with
    | true => es
    | false => tabOf l g
theorem tabOf_nil {P : Program} : ∀ g, ∀ e ∈ tabOf [] g, Known P g e.args e.h e.v e.h' := by intro g e he; cases he
theorem tabOf_cons {P : Program} {f : FuncId} {es : List Entry} {l : List (FuncId × List Entry)} (h1 : ∀ e ∈ es, Known P f e.args e.h e.v e.h') (h2 : ∀ g, ∀ e ∈ tabOf l g, Known P g e.args e.h e.v e.h') : ∀ g, ∀ e ∈ tabOf ((f, es) :: l) g, Known P g e.args e.h e.v e.h' := by
  intro g e he
  unfold tabOf at he
  split at he
  · rename_i hb
    rw [Nat.eq_of_beq_eq_true hb]
    exact h1 e he
  · exact h2 g e he
end Go.Ev


namespace Go.Ev
variable {P : Program}
theorem allK_nil {f : FuncId} : ∀ e ∈ ([] : List Entry), Known P f e.args e.h e.v e.h' := by intro e he; cases he
theorem allK_cons {f : FuncId} {e0 : Entry} {es : List Entry} (h : Known P f e0.args e0.h e0.v e0.h') (hs : ∀ e ∈ es, Known P f e.args e.h e.v e.h') : ∀ e ∈ e0 :: es, Known P f e.args e.h e.v e.h' := by
  intro e he
  rcases List.mem_cons.1 he with rfl | he
  · exact h
  · exact hs e he
end Go.Ev

