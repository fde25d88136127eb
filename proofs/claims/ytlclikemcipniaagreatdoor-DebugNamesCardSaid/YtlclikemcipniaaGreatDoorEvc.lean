/- PROVED HERE: the tied card of DebugNames (floodgatelaw24): the call returns true, for every input that its given row takes in (it has no arguments). CONDITIONS: those of the given row and card, none beside them. HOW: an evaluator of Go calls is proved sound (parts Eva to Evd), the closed run is reckoned with it by the kernel in pieces (Da to Dl), the row's closed facts stand in Cf and Cg, the row and the card in Cp. Part Evc. -/
import Derived.Test.YtlclikemcipniaaGreatDoorEvb
import Derived.RangeFuncRecord
namespace Go.Ev
variable {P : Program}

/-! ## Fences that let everything in -/

def Fw (F : Fence) : Prop := F = Fence.wide ∨ ∃ l, F = Fence.wide.inRound l
theorem Fw.fn {F : Fence} (h : Fw F) (f : FuncId) : F.fn f := by rcases h with rfl | ⟨l, rfl⟩ <;> trivial
theorem Fw.depth {F : Fence} (h : Fw F) : F.depth = none := by rcases h with rfl | ⟨l, rfl⟩ <;> rfl
theorem Fw.need {F : Fence} (h : Fw F) (n : Nat) : F.depth.isSome = true → 1 ≤ n := by rw [h.depth]; intro h; cases h
theorem Fw.calls {F : Fence} (h : Fw F) {n : Nat} {f : FuncId} {args : Array Value} {w : World} {R : Ending → World → Prop} (hc : CallsIn Fence.wide n P f args w R) : CallsIn F n P f args w R := by
  rcases h with rfl | ⟨l, rfl⟩ <;> exact hc
theorem Fw.rounds {F : Fence} (h : Fw F) {n l : Nat} {f : FuncId} {tmps : Array Value} {a b : Code} {w : World} {R : Ending → World → Prop} (hc : RoundIn Fence.wide n P l f tmps a b w R) : RoundIn F n P l f tmps a b w R := by
  rcases h with rfl | ⟨l, rfl⟩ <;> exact hc

/-! ## The state of an activation -/

def mkMark (D : Nat) : Deferred := { target := .collected D, args := #[] }

/-- the marks among an activation's deferred calls -/
def Df (b0 : Nat) (j : Inj) (bl : Bl) (ds : List Deferred) (w : World) : Prop :=
  ∃ Ds : List Nat, ds = Ds.map mkMark ∧ Ds.Nodup ∧ ∀ D ∈ Ds, b0 ≤ D ∧ w.heap[D]? = some (.deferred (some [])) ∧ ∀ f l, Live bl f → j f = some l → l.blk ≠ D

theorem getElem?_lt {α : Type} {a : Array α} {i : Nat} {x : α} (h : a[i]? = some x) : i < a.size := (Array.getElem?_eq_some_iff.1 h).1

theorem Df.ext {b0 : Nat} {j j' : Inj} {bl bl' : Bl} {ds : List Deferred} {w w' : World} (h : Df b0 j bl ds w) (hx : Ext j bl w j' bl' w') : Df b0 j' bl' ds w' := by
  obtain ⟨Ds, h1, h2, h3⟩ := h
  refine ⟨Ds, h1, h2, fun D hD => ?_⟩
  obtain ⟨g1, g2, g3⟩ := h3 D hD
  have hlt := getElem?_lt g2
  refine ⟨g1, by rw [hx.keep D hlt g3]; exact g2, fun f l hl hj e => ?_⟩
  rcases hx.img f l hl hj with k1 | ⟨g, lg, k1, k2, k3⟩
  · omega
  · exact g3 g lg k1 k2 (k3.trans e)

structure SR (P : Program) (j : Inj) (nt : Nat) (tm : Tm) (h : H) (b0 : Nat) (a : Act) (w : World) : Prop where
  tm : TmR j nt tm a.tmps
  rb : RB P j h.blk h.next.toN w
  df : Df b0 j h.blk a.defers w
  b0 : b0 ≤ w.heap.size

theorem SR.free {j : Inj} {nt : Nat} {tm : Tm} {h : H} {b0 : Nat} {a : Act} {w : World} (s : SR P j nt tm h b0 a w) : j h.next = none := s.rb.jnone (Nat.le_refl _)

/-- a result is put into its temporary -/
theorem SR.put {j j' : Inj} {nt : Nat} {tm : Tm} {h h' : H} {b0 : Nat} {a : Act} {w w' : World} (s : SR P j nt tm h b0 a w) {d : Option Tmp} (hd : dstOk nt d = true) {v : AV} {cv : Value} (hv : VR j' v cv)
    (hR : RB P j' h'.blk h'.next.toN w') (hx : Ext j h.blk w j' h'.blk w') : SR P j' nt (setDst (d.map Pos.ofNat) v tm) h' b0 (a.put d cv) w' := by
  refine ⟨?_, hR, ?_, Nat.le_trans s.b0 hx.size⟩
  · cases d with
    | none => exact s.tm.mono hx.le
    | some d => exact (s.tm.mono hx.le).put (Nat.le_of_ble_eq_true hd) hv
  · cases d with
    | none => exact s.df.ext hx
    | some d => exact s.df.ext hx

/-! ## Calls -/

def RetPost (P : Program) (j : Inj) (h : H) (w : World) (v : AV) (h' : H) : Ending → World → Prop :=
  fun e w' => h.next.toN ≤ h'.next.toN ∧ ∃ cv, e = .returned cv ∧ ∃ j', VR j' v cv ∧ RB P j' h'.blk h'.next.toN w' ∧ Ext j h.blk w j' h'.blk w'

def CallsOk (P : Program) (call : CallF) : Prop :=
  ∀ f args h v h', call f args h = .ok v h' → ∀ w j, RB P j h.blk h.next.toN w →
    match f with
    | .fn f => ∀ vs : Array Value, VRs j args vs.toList → (callFunc f vs).run P w = .ok (.enter f vs) w ∧ ∀ n, CallsIn Fence.wide n P f vs w (RetPost P j h w v h')
    | .yld l => ∀ lc (vs : Array Value), j l = some lc → VRs j args vs.toList → ∃ f tmps assign body, (Instr.yield lc.blk vs).run P w = .ok (.round lc.blk f tmps assign body) w ∧
        ∀ n, RoundIn Fence.wide n P lc.blk f tmps assign body w (RetPost P j h w v h')

/-! ## Regions that do not draw -/

section
variable {F : Fence} {n nt b0 : Nat} {ops : Array Oper} {call : CallF} {j : Inj} {tm : Tm} {h : H} {a : Act} {w : World}

theorem co_defer {o : Oper} {c : Call} (h : o.op = .defer c) : co P o = .bad := by simp [co, h]

theorem wanted_spec (hT : TmR j nt tm a.tmps) {o : Oper} (hg : guardOk ops o.guard = true) {b : Bool} (hw : wantedA tm (o.guard.map fun g => (((ops[g.1]?).bind (·.dst)).elim .h Pos.ofNat, g.2)) = some b) :
    Region.wanted o (yielded ops a.tmps) = b := by
  unfold Region.wanted
  cases hgd : o.guard with
  | none => rw [hgd] at hw; cases hw; rfl
  | some g =>
    obtain ⟨i, want⟩ := g
    rw [hgd] at hw hg
    simp only [Option.map_some] at hw
    have hsome : ((ops[i]?).bind (·.dst)).isSome = true := hg
    obtain ⟨d, hd⟩ := Option.isSome_iff_exists.1 hsome
    rw [hd] at hw
    simp only [Option.elim_some] at hw
    unfold wantedA at hw
    simp only at hw ⊢
    cases ht : T.get (Pos.ofNat d) tm with
    | none => rw [ht] at hw; cases hw
    | some v =>
      rw [ht] at hw
      obtain ⟨c, hc, hv⟩ := hT.2 d v ht
      cases v <;> simp only at hw <;> first | (cases hw; done) | skip
      · cases hv
        rename_i b'
        have hy : yielded ops a.tmps i = some b' := by simp [yielded, hd, hc]
        rw [hy]
        cases want <;> cases b' <;> cases hw <;> rfl
      · cases hv
        rename_i cs vs hvs
        have hy : yielded ops a.tmps i = none := by simp [yielded, hd, hc]
        rw [hy]
        cases hw
        cases want <;> rfl

/-- one operation that is wanted -/
theorem oper_sound (hF : Fw F) (hcall : CallsOk P call) {o : Oper} {k : Tm → H → R} {e : Ex} {tm' : Tm} {h' : H} (hd : dstOk nt o.dst = true)
    (hr : outK call (o.dst.map Pos.ofNat) tm h k ((co P o).run tm h) = .ok e tm' h') (s : SR P j nt tm h b0 a w) {next : Act → World → Prop} {Q : Exit → Act → World → Prop}
    (hnext : ∀ v h1 j1 cv w1, k (setDst (o.dst.map Pos.ofNat) v tm) h1 = .ok e tm' h' → h.next.toN ≤ h1.next.toN → SR P j1 nt (setDst (o.dst.map Pos.ofNat) v tm) h1 b0 (a.put o.dst cv) w1 → Ext j h.blk w j1 h1.blk w1 → next (a.put o.dst cv) w1) :
    o.wpIn F n P a w next Q := by
  refine ⟨fun f _ => hF.fn f, ?_⟩
  have hnd : ∀ v h1, (co P o).run tm h = .val v h1 → ∀ c, o.op ≠ .defer c := fun v h1 hv c hc => by rw [co_defer hc] at hv; exact bad_val hv
  cases ho : (co P o).run tm h with
  | fail => rw [ho] at hr; cases hr
  | val v h1 =>
    rw [ho] at hr
    have hr : k (setDst (o.dst.map Pos.ofNat) v tm) h1 = .ok e tm' h' := hr
    have hmono := run_mono ho
    obtain ⟨cv, w1, nx, g1, g2, j1, g3, g4, g5⟩ := op_val (N := h1.next.toN) s.tm s.rb s.free hmono ho (Nat.le_refl _)
    rw [Oper.semAt_eq _ _ _ (hnd v h1 ho), g1]
    have hs := s.put hd g3 g4 g5
    rcases g2 with rfl | ⟨rfl, rfl⟩
    · exact hnext v h1 j1 cv w1 hr hmono hs g5
    · exact hnext v h1 j1 undef w1 hr hmono hs g5
  | call f args =>
    rw [ho] at hr
    have hr : backK (o.dst.map Pos.ofNat) tm k (call f args h) = .ok e tm' h' := hr
    have hnd : ∀ c, o.op ≠ .defer c := fun c hc => by
      rw [co_defer hc] at ho
      cases (show Out.fail = .call f args from ho)
    rw [Oper.semAt_eq _ _ _ hnd]
    have hat := op_call (w := w) s.tm ho
    cases hc : call f args h with
    | fail => rw [hc] at hr; cases hr
    | ok v h1 =>
      rw [hc] at hr
      have hr : k (setDst (o.dst.map Pos.ofNat) v tm) h1 = .ok e tm' h' := hr
      have hsound := hcall f args h v h1 hc w j s.rb
      have hpost : ∀ en w1, RetPost P j h w v h1 en w1 → ∃ cv, en = .returned cv ∧ next (a.put o.dst cv) w1 := fun en w1 ⟨hmono, cv, e1, j1, g3, g4, g5⟩ =>
        ⟨cv, e1, hnext v h1 j1 cv w1 hr hmono (s.put hd g3 g4 g5) g5⟩
      cases f with
      | fn f =>
        obtain ⟨vs, q1, q2⟩ := hat
        obtain ⟨q3, q4⟩ := hsound vs q2
        rw [q1, q3, Oper.uponIn_enter]
        refine ⟨hF.need n, CallsIn.mono (hF.calls (q4 _)) fun en w1 hp => ?_⟩
        obtain ⟨cv, rfl, hn⟩ := hpost en w1 hp
        exact hn
      | yld l =>
        obtain ⟨lc, vs, q0, q1, q2⟩ := hat
        obtain ⟨f, tmps, asg, body, q3, q4⟩ := hsound lc vs q0 q2
        rw [q1, q3, Oper.uponIn_round]
        refine ⟨hF.need n, RoundIn.mono (hF.rounds (q4 _)) fun en w1 hp => ?_⟩
        obtain ⟨cv, rfl, hn⟩ := hpost en w1 hp
        exact hn

theorem cOper_eq (o : Oper) : (dstOk nt o.dst = true ∧ guardOk ops o.guard = true ∧ cOper P nt ops o = { dst := o.dst.map Pos.ofNat, op := co P o, guard := o.guard.map fun g => (((ops[g.1]?).bind (·.dst)).elim .h Pos.ofNat, g.2) }) ∨
    cOper P nt ops o = { dst := none, op := .bad, guard := none } := by
  unfold cOper
  split
  · rename_i hc; obtain ⟨h1, h2⟩ := and_true hc; exact .inl ⟨h1, h2, rfl⟩
  · exact .inr rfl

theorem ops_sound (hF : Fw F) (hcall : CallsOk P call) {Q : Exit → Act → World → Prop} {e : Ex} {tm' : Tm} {h' : H} : ∀ (os : List Oper) (k : Nat), (∀ i, i < os.length → ops[k + i]? = os[i]?) → ∀ (tm : Tm) (h : H) (j : Inj) (a : Act) (w : World),
    runOps call (os.map (cOper P nt ops)) tm h = .ok e tm' h' → SR P j nt tm h b0 a w → (e = .norm → ∀ j' a' w', h.next.toN ≤ h'.next.toN → SR P j' nt tm' h' b0 a' w' → Ext j h.blk w j' h'.blk w' → Q .normal a' w') →
    wpOpsIn F n P ops Q (List.range' k os.length) a w := by
  intro os
  induction os with
  | nil =>
    intro k hk tm h j a w hr s hQ
    cases hr
    exact hQ rfl j a w (Nat.le_refl _) s (Ext.refl _ _ _)
  | cons o os ih =>
    intro k hk tm h j a w hr s hQ
    have h0 : ops[k]? = some o := by have := hk 0 (by simp); simpa using this
    have hk' : ∀ i, i < os.length → ops[k + 1 + i]? = os[i]? := fun i hi => by
      have := hk (i + 1) (by simp; omega)
      rw [show k + 1 + i = k + (i + 1) by omega]
      simpa using this
    have hr : stepO call (cOper P nt ops o) (runOps call (os.map (cOper P nt ops))) tm h = .ok e tm' h' := hr
    rw [List.length_cons, List.range'_succ]
    simp only [wpOpsIn, h0]
    rcases cOper_eq (P := P) (nt := nt) (ops := ops) o with ⟨hd, hg, hc⟩ | hc
    · rw [hc] at hr
      have hr : wantK call (o.dst.map Pos.ofNat) (co P o) tm h (runOps call (os.map (cOper P nt ops))) (wantedA tm (o.guard.map fun g => (((ops[g.1]?).bind (·.dst)).elim .h Pos.ofNat, g.2))) = .ok e tm' h' := hr
      cases hw : wantedA tm (o.guard.map fun g => (((ops[g.1]?).bind (·.dst)).elim .h Pos.ofNat, g.2)) with
      | none => rw [hw] at hr; cases hr
      | some b =>
        have hwant := wanted_spec s.tm hg hw
        rw [hw] at hr
        rw [hwant]
        cases b with
        | true =>
          have hr : outK call (o.dst.map Pos.ofNat) tm h (runOps call (os.map (cOper P nt ops))) ((co P o).run tm h) = .ok e tm' h' := hr
          simp only [if_true]
          refine oper_sound hF hcall hd hr s fun v h1 j1 cv w1 hk1 hmono hs hx => ?_
          exact ih (k + 1) hk' _ _ _ _ _ hk1 hs fun he j2 a2 w2 hm2 hs2 hx2 => hQ he j2 a2 w2 (Nat.le_trans hmono hm2) hs2 (hx.trans hx2)
        | false =>
          have hr : runOps call (os.map (cOper P nt ops)) (setDst (o.dst.map Pos.ofNat) (.tup []) tm) h = .ok e tm' h' := hr
          simp only [Bool.false_eq_true, if_false]
          refine ⟨fun f _ => hF.fn f, ?_⟩
          exact ih (k + 1) hk' _ _ _ _ _ hr (s.put hd VRs.undef s.rb (Ext.refl _ _ _)) hQ
    · rw [hc] at hr
      exact absurd hr (by intro h; cases h)
end
end Go.Ev


namespace Go.Ev
variable {P : Program}

section
variable {o : CO} {tm tm' : Tm} {h h' : H} {v : AV}

theorem pure_run (ho : isPure o = true) (hr : o.run tm h = .val v h') (g : H) : o.run tm g = .val v g := by
  cases o <;> first | (cases ho; done) | skip
  all_goals simp only [CO.run, r_mv, r_pick, r_build, r_nilchk, r_bin, r_eqp, r_un, r_cvi, r_cvs, r_mkif, r_mkfn, r_slstr, r_slsl, r_fa, r_ia, r_iarr, r_fld, r_ixs, r_ixa, r_ext, r_len, r_lens, r_lenc, r_cap, r_mx, slK, outV] at hr ⊢
  all_goals repeat' split at hr
  all_goals first
    | (cases hr; done)
    | (cases hr; simp only [*]; done)
    | (cases hr; rfl)
    | skip

theorem load_run (ho : isLoad o = true) (hr : o.run tm h = .val v h') : h' = h := by
  cases o <;> first | (cases ho; done) | skip
  all_goals simp only [CO.run, r_ld1, r_ldn, r_cvbs, r_lkp, r_lenm, r_slarr, slK, outV] at hr
  all_goals repeat' split at hr
  all_goals first
    | (cases hr; done)
    | (cases hr; rfl)

theorem alloc_run (ho : isAlloc o = true) (hr : o.run tm h = .val v h') : ∃ b, h' = h.add b := by
  cases o <;> first | (cases ho; done) | skip
  all_goals simp only [CO.run, r_alloc, r_box, r_bslice, r_mksl, r_mkmap, r_cvsb] at hr
  all_goals repeat' split at hr
  all_goals first
    | (cases hr; done)
    | (cases hr; exact ⟨_, rfl⟩)

theorem evs_congr {xs : List CA} (he : ∀ x ∈ xs, x.ev tm = x.ev tm') : CA.evs tm xs = CA.evs tm' xs := by
  induction xs with
  | nil => rfl
  | cons x xs ih =>
    show x.ev tm :: CA.evs tm xs = x.ev tm' :: CA.evs tm' xs
    rw [he x (by simp), ih (fun y hy => he y (by simp [hy]))]

theorem fillA_congr {ps : List (Nat × Nat × CA)} (he : ∀ x ∈ ps.map (·.2.2), x.ev tm = x.ev tm') : ∀ zs, fillA (fun x => x.ev tm) zs ps = fillA (fun x => x.ev tm') zs ps := by
  induction ps with
  | nil => intro zs; cases zs <;> rfl
  | cons p ps ih =>
    obtain ⟨off, n, x⟩ := p
    intro zs
    have hx := he x (by simp)
    have ih' := ih (fun y hy => he y (by simp at hy ⊢; exact .inr hy))
    simp only [fillA, hx, ih']

theorem bound_congr {x : Option CA} (he : ∀ y ∈ optReads x, y.ev tm = y.ev tm') (y d : Nat) : boundA tm y d x = boundA tm' y d x := by
  cases x with
  | none => rfl
  | some x => simp only [boundA, he x (by simp [optReads])]

theorem slK_congr {lo hi m3 : Option CA} (he : ∀ y ∈ optReads lo ++ (optReads hi ++ optReads m3), y.ev tm = y.ev tm') (f : Pos) (k len cap : Nat) (ex : Bool) (sz : Nat) : slK tm h f k len cap ex sz lo hi m3 = slK tm' h f k len cap ex sz lo hi m3 := by
  have h1 : ∀ y d, boundA tm y d lo = boundA tm' y d lo := bound_congr fun y hy => he y (by simp [hy])
  have h2 : ∀ y d, boundA tm y d hi = boundA tm' y d hi := bound_congr fun y hy => he y (by simp [hy])
  have h3 : ∀ y d, boundA tm y d m3 = boundA tm' y d m3 := bound_congr fun y hy => he y (by simp [hy])
  simp only [slK, h1, h2, h3]

theorem reads_congr (he : ∀ x ∈ o.reads, x.ev tm = x.ev tm') : o.run tm h = o.run tm' h := by
  cases o
  case build zs ps => show r_build zs ps tm h = r_build zs ps tm' h; simp only [r_build, fillA_congr (by simpa [CO.reads] using he)]
  case bslice sz n zs ps => show r_bslice sz n zs ps tm h = r_bslice sz n zs ps tm' h; simp only [r_bslice, fillA_congr (by simpa [CO.reads] using he)]
  case mkfn f a b =>
    show r_mkfn f a b tm h = r_mkfn f a b tm' h
    simp only [r_mkfn, evs_congr (xs := a) (fun x hx => he x (by simp [CO.reads, hx])), evs_congr (xs := b) (fun x hx => he x (by simp [CO.reads, hx]))]
  case mx m xs => show r_mx m xs tm h = r_mx m xs tm' h; simp only [r_mx, evs_congr (xs := xs) he]
  case call f as => show r_call f as tm h = r_call f as tm' h; simp only [r_call, evs_congr (xs := as) he]
  case callv f as => show r_callv f as tm h = r_callv f as tm' h; simp only [r_callv, he f (by simp [CO.reads]), evs_congr (xs := as) (fun x hx => he x (by simp [CO.reads, hx]))]
  case slstr x lo hi =>
    show r_slstr x lo hi tm h = r_slstr x lo hi tm' h
    have h1 : ∀ y d, boundA tm y d lo = boundA tm' y d lo := bound_congr fun y hy => he y (by simp [CO.reads, hy])
    have h2 : ∀ y d, boundA tm y d hi = boundA tm' y d hi := bound_congr fun y hy => he y (by simp [CO.reads, hy])
    simp only [r_slstr, he x (by simp [CO.reads]), h1, h2]
  case slsl sz x lo hi m3 =>
    show r_slsl sz x lo hi m3 tm h = r_slsl sz x lo hi m3 tm' h
    have h1 : ∀ y d, boundA tm y d lo = boundA tm' y d lo := bound_congr fun y hy => he y (by simp [CO.reads, hy])
    have h2 : ∀ y d, boundA tm y d hi = boundA tm' y d hi := bound_congr fun y hy => he y (by simp [CO.reads, hy])
    have h3 : ∀ y d, boundA tm y d m3 = boundA tm' y d m3 := bound_congr fun y hy => he y (by simp [CO.reads, hy])
    simp only [r_slsl, he x (by simp [CO.reads]), h1, h2, h3, slK_congr (lo := lo) (hi := hi) (m3 := m3) (fun y hy => he y (by simp [CO.reads]; simp at hy; exact .inr hy))]
  case slarr n sz x lo hi m3 =>
    show r_slarr n sz x lo hi m3 tm h = r_slarr n sz x lo hi m3 tm' h
    simp only [r_slarr, he x (by simp [CO.reads]), slK_congr (lo := lo) (hi := hi) (m3 := m3) (fun y hy => he y (by simp [CO.reads]; simp at hy; exact .inr hy))]
  all_goals simp only [CO.reads, List.mem_cons, List.not_mem_nil, or_false, forall_eq_or_imp, forall_eq] at he
  all_goals simp only [CO.run, r_bad, r_mv, r_pick, r_box, r_alloc, r_ld1, r_ldn, r_st, r_nilchk, r_bin, r_eqp, r_un, r_cvi, r_cvs, r_cvbs, r_cvsb, r_mkif, r_mkmap, r_mksl,
    r_fa, r_ia, r_iarr, r_fld, r_ixs, r_ixa, r_lkp, r_mupd, r_rngs, r_nxts, r_rngm, r_nxtm, r_ext, r_len, r_lens, r_lenm, r_lenc, r_cap, r_app, r_appz, r_cpy, r_clr, he]

/-! ## Values that are held to be the same, are -/

theorem boolEq_eq {a b : Bool} (h : boolEq a b = true) : a = b := by cases a <;> cases b <;> first | rfl | cases h
theorem posEq_eq : ∀ {p q : Pos}, posEq p q = true → p = q := by
  intro p
  induction p with
  | h => intro q h; cases q <;> first | rfl | cases h
  | o p ih => intro q h; cases q <;> first | (rw [ih h]) | cases h
  | i p ih => intro q h; cases q <;> first | (rw [ih h]) | cases h

theorem flatSame_eq {x y : AV} (hs : flatSame x y = true) : x = y := by
  unfold flatSame at hs
  split at hs
  · rw [boolEq_eq hs]
  · obtain ⟨h1, h2⟩ := and_true hs
    rw [ibeq_eq] at h2
    rw [(kindEq_iff _ _).1 h1, eq_of_beq h2]
  · rw [strEq_iff] at hs; rw [of_decide_eq_true hs]
  · rfl
  · obtain ⟨h1, h2⟩ := and_true hs
    rw [posEq_eq h1, Nat.eq_of_beq_eq_true h2]
  · rfl
  · obtain ⟨h1, h2⟩ := and_true hs
    obtain ⟨h3, h4⟩ := and_true h2
    obtain ⟨h5, h6⟩ := and_true h4
    obtain ⟨h7, h8⟩ := and_true h6
    obtain ⟨h9, h10⟩ := and_true h8
    rw [posEq_eq h1, Nat.eq_of_beq_eq_true h3, Nat.eq_of_beq_eq_true h5, Nat.eq_of_beq_eq_true h7, boolEq_eq h9, Nat.eq_of_beq_eq_true h10]
  · rfl
  · rw [posEq_eq hs]
  · rfl
  · rw [Nat.eq_of_beq_eq_true hs]
  · rfl
  · cases hs

theorem flatsSame_eq : ∀ {xs ys : List AV}, flatsSame xs ys = true → xs = ys := by
  intro xs
  induction xs with
  | nil => intro ys h; cases ys <;> first | rfl | cases h
  | cons x xs ih =>
    intro ys h
    cases ys with
    | nil => cases h
    | cons y ys =>
      obtain ⟨h1, h2⟩ := and_true (show and (flatSame x y) (flatsSame xs ys) = true from h)
      rw [flatSame_eq h1, ih h2]

theorem avSame_eq {x y : AV} (hs : avSame x y = true) : x = y := by
  unfold avSame at hs
  split at hs
  · rw [flatsSame_eq hs]
  · rw [flatsSame_eq hs]
  · exact flatSame_eq hs
end
end Go.Ev


namespace Go.Ev
variable {P : Program}

section
variable {j j' : Inj} {bl bl1 bl1' : Bl} {n N : Nat} {w w' : World}

/-- what a step left, over what it did not know -/
def Bl.over (bl1 bl : Bl) : Bl := fun f => match bl1 f with
  | some b => some b
  | none => bl f

theorem Bl.over_some {f : Pos} {b : Blk} (h : bl1 f = some b) : bl1.over bl f = some b := by simp [Bl.over, h]
theorem Bl.over_none {f : Pos} (h : bl1 f = none) : bl1.over bl f = bl f := by simp [Bl.over, h]
theorem Bl.over_sub (h : ∀ f b, bl1 f = some b → bl f = some b) : bl1.over bl = bl := by
  funext f
  cases hb : bl1 f with
  | none => exact Bl.over_none hb
  | some b => rw [Bl.over_some hb, h f b hb]

/-- **The frame**: a step that is sound on some of the families leaves the others as they are. -/
theorem RB.frame (hR : RB P j bl n w) (hsub : ∀ f b, bl1 f = some b → bl f = some b) (hR' : RB P j' bl1' N w') (hx : Ext j bl1 w j' bl1' w') :
    RB P j' (bl1'.over bl) N w' ∧ Ext j bl w j' (bl1'.over bl) w' := by
  have liveSub : ∀ f, Live bl1 f → Live bl f := fun f ⟨b, h1, h2⟩ => ⟨b, hsub f b h1, h2⟩
  -- a live family that the step did not know
  have other : ∀ f, bl1' f = none → ∀ b, bl f = some b → b.live → ∃ l, j f = some l ∧ l.blk < w.heap.size ∧ (∀ g lg, Live bl1 g → j g = some lg → lg.blk ≠ l.blk) ∧ BlkR P j b l w := by
    intro f hf b hb hlive
    obtain ⟨l, h1, h2, h3⟩ := hR.blk f b hb
    refine ⟨l, h1, h2 hlive, fun g lg hg hj e => ?_, h3⟩
    have := hR.apart g f lg l (liveSub g hg) ⟨b, hb, hlive⟩ hj h1 e
    subst this
    obtain ⟨b1, hb1, _⟩ := hg
    rw [hx.mono g hf] at hb1; cases hb1
  have cases' : ∀ f, Live (bl1'.over bl) f → (Live bl1' f) ∨ (bl1' f = none ∧ ∃ b, bl f = some b ∧ b.live) := by
    intro f ⟨b, h1, h2⟩
    cases hb : bl1' f with
    | some b' => rw [Bl.over_some hb] at h1; cases h1; exact .inl ⟨_, hb, h2⟩
    | none => rw [Bl.over_none hb] at h1; exact .inr ⟨rfl, b, h1, h2⟩
  -- a family that the step knew, and one that it did not, lie apart
  have mixed : ∀ f g lf lg, Live bl1' f → j' f = some lf → bl1' g = none → (∃ b, bl g = some b ∧ b.live) → j' g = some lg → lf.blk ≠ lg.blk := by
    intro f g lf lg hf jf hg ⟨b, hb, hbl⟩ jg e
    obtain ⟨l, h1, h2, h3, _⟩ := other g hg b hb hbl
    rw [hx.le g l h1] at jg; cases jg
    rcases hx.img f lf hf jf with k1 | ⟨g0, lg0, k1, k2, k3⟩
    · omega
    · exact h3 g0 lg0 k1 k2 (k3.trans e)
  refine ⟨⟨hR'.fresh, fun f b hb => ?_, fun f g lf lg hf hg jf jg e => ?_⟩, ⟨hx.le, hx.size, fun k hk hk' => hx.keep k hk fun f l hl hj => hk' f l (liveSub f hl) hj, fun f l hf hj => ?_, hx.os, hx.output, hx.tape, fun f h1 h2 => ?_, fun f h1 => ?_⟩⟩
  · cases hb1 : bl1' f with
    | some b' => rw [Bl.over_some hb1] at hb; cases hb; exact hR'.blk f _ hb1
    | none =>
      rw [Bl.over_none hb1] at hb
      obtain ⟨l, h1, h2, h3⟩ := hR.blk f b hb
      refine ⟨l, hx.le f l h1, fun hl => Nat.lt_of_lt_of_le (h2 hl) hx.size, ?_⟩
      cases b with
      | dead => trivial
      | _ =>
        obtain ⟨l2, g1, g2, g3, _⟩ := other f hb1 _ hb trivial
        rw [h1] at g1; cases g1
        exact h3.keep hx.le (hx.keep _ g2 g3)
  · rcases cases' f hf with hf | ⟨hf, hf'⟩
    · rcases cases' g hg with hg | ⟨hg, hg'⟩
      · exact hR'.apart f g lf lg hf hg jf jg e
      · exact absurd e (mixed f g lf lg hf jf hg hg' jg)
    · rcases cases' g hg with hg | ⟨hg, hg'⟩
      · exact absurd e.symm (mixed g f lg lf hg jg hf hf' jf)
      · obtain ⟨b, hb, hbl⟩ := hf'
        obtain ⟨b2, hb2, hbl2⟩ := hg'
        obtain ⟨l1, h1, _⟩ := other f hf b hb hbl
        obtain ⟨l2, h2, _⟩ := other g hg b2 hb2 hbl2
        have h1' := hx.le _ _ h1
        have h2' := hx.le _ _ h2
        rw [jf] at h1'; cases h1'
        rw [jg] at h2'; cases h2'
        exact hR.apart f g lf lg ⟨b, hb, hbl⟩ ⟨b2, hb2, hbl2⟩ h1 h2 e
  · rcases cases' f hf with hf | ⟨hf, b, hb, hbl⟩
    · rcases hx.img f l hf hj with h | ⟨g, lg, h1, h2, h3⟩
      · exact .inl h
      · exact .inr ⟨g, lg, liveSub g h1, h2, h3⟩
    · obtain ⟨l1, h1, _⟩ := other f hf b hb hbl
      have h1' := hx.le _ _ h1
      rw [hj] at h1'; cases h1'
      exact .inr ⟨f, l, ⟨b, hb, hbl⟩, h1, rfl⟩
  · cases hb1 : bl1' f with
    | some b' => rw [Bl.over_some hb1] at h2; cases h2
    | none => exact hx.dom f h1 hb1
  · cases hb1 : bl1' f with
    | some b' => rw [Bl.over_some hb1] at h1; cases h1
    | none => rwa [Bl.over_none hb1] at h1
end
end Go.Ev


namespace Go.Ev
variable {P : Program}

/-! ## Sets of indices as numbers -/

theorem bit_eq (m i : Nat) : bit m i = m.testBit i := by
  unfold bit
  have h : Nat.testBit m i = ((m >>> i) &&& 1 != 0) := by rw [Nat.testBit]; rw [Nat.and_comm]
  rw [h]
  have h2 : Nat.land (Nat.shiftRight m i) 1 = (m >>> i) &&& 1 := rfl
  rw [h2, Nat.and_one_is_mod]
  have : (m >>> i) % 2 = 0 ∨ (m >>> i) % 2 = 1 := by omega
  rcases this with e | e <;> rw [e] <;> rfl

theorem bit_withBit (m i w : Nat) : bit (withBit m i) w = true ↔ bit m w = true ∨ w = i := by
  rw [bit_eq, bit_eq]
  show Nat.testBit (m ||| (1 <<< i)) w = true ↔ _
  rw [Nat.testBit_or, Nat.one_shiftLeft, Nat.testBit_two_pow, Bool.or_eq_true, decide_eq_true_iff]
  exact ⟨fun h => h.imp id Eq.symm, fun h => h.imp id Eq.symm⟩

theorem bit_lor (a b w : Nat) : bit (Nat.lor a b) w = true ↔ bit a w = true ∨ bit b w = true := by
  rw [bit_eq, bit_eq, bit_eq]
  show Nat.testBit (a ||| b) w = true ↔ _
  rw [Nat.testBit_or]; simp

theorem bit_zero (w : Nat) : bit 0 w = false := by rw [bit_eq]; simp

theorem subMask_spec {a b : Nat} (h : subMask a b = true) {w : Nat} (hw : bit a w = true) : bit b w = true := by
  have h' : a &&& b = a := Nat.eq_of_beq_eq_true h
  rw [bit_eq] at hw ⊢
  have : (a &&& b).testBit w = true := by rw [h']; exact hw
  rw [Nat.testBit_and] at this
  simp at this
  exact this.2

theorem bit_full (n i : Nat) : bit (Nat.sub (Nat.shiftLeft 1 n) 1) i = true ↔ i < n := by
  rw [bit_eq]
  show Nat.testBit ((1 <<< n) - 1) i = true ↔ _
  rw [Nat.one_shiftLeft, Nat.testBit_two_pow_sub_one]; simp

/-! ## Ancestors -/

theorem edgeMask_spec (acc : T Nat) : ∀ (es : List Edge) (m w : Nat), bit (edgeMask acc es m) w = true → bit m w = true ∨ ∃ e ∈ es, Region.binds .any e = true ∧ (w = e.on ∨ bit (mkAt acc e.on) w = true) := by
  intro es
  induction es with
  | nil => intro m w h; exact .inl h
  | cons e es ih =>
    intro m w h
    unfold edgeMask at h
    split at h
    · rename_i hb
      rcases ih _ _ h with h1 | ⟨e', h1, h2, h3⟩
      · rcases (bit_withBit _ _ _).1 h1 with h2 | h2
        · rcases (bit_lor _ _ _).1 h2 with h3 | h3
          · exact .inl h3
          · exact .inr ⟨e, by simp, hb, .inr h3⟩
        · exact .inr ⟨e, by simp, hb, .inl h2⟩
      · exact .inr ⟨e', by simp [h1], h2, h3⟩
    · rcases ih _ _ h with h1 | ⟨e', h1, h2, h3⟩
      · exact .inl h1
      · exact .inr ⟨e', by simp [h1], h2, h3⟩

theorem edgeMask_mono (acc : T Nat) : ∀ (es : List Edge) (m w : Nat), bit m w = true → bit (edgeMask acc es m) w = true := by
  intro es
  induction es with
  | nil => intro m w h; exact h
  | cons e es ih =>
    intro m w h
    unfold edgeMask
    split
    · exact ih _ _ ((bit_withBit _ _ _).2 (.inl ((bit_lor _ _ _).2 (.inl h))))
    · exact ih _ _ h

/-- what binds is an ancestor -/
theorem edgeMask_on (acc : T Nat) : ∀ (es : List Edge) (m : Nat) (e : Edge), e ∈ es → Region.binds .any e = true → bit (edgeMask acc es m) e.on = true := by
  intro es
  induction es with
  | nil => intro m e he; cases he
  | cons e' es ih =>
    intro m e he hb
    unfold edgeMask
    rcases List.mem_cons.1 he with rfl | he
    · rw [hb]
      exact edgeMask_mono _ _ _ _ ((bit_withBit _ _ _).2 (.inr rfl))
    · split <;> exact ih _ e he hb

theorem mkAt_set {acc : T Nat} {i m k : Nat} : mkAt (T.set m (Pos.ofNat i) acc) k = if k = i then m else mkAt acc k := by
  unfold mkAt
  rw [T.get_set_if]
  by_cases h : i = k
  · subst h; simp
  · rw [if_neg (fun e => h (Pos.ofNat_inj e)), if_neg (Ne.symm h)]

theorem masksOf_other : ∀ (os : List Oper) (i : Nat) (acc : T Nat) (k : Nat), k < i → mkAt (masksOf os i acc) k = mkAt acc k := by
  intro os
  induction os with
  | nil => intro i acc k _; rfl
  | cons o os ih =>
    intro i acc k hk
    show mkAt (masksOf os (i + 1) _) k = _
    rw [ih (i + 1) _ k (by omega), mkAt_set, if_neg (by omega)]

/-- the ancestors of an operation: those that bind it, and theirs -/
theorem masksOf_spec : ∀ (os : List Oper) (i : Nat) (acc : T Nat), (∀ k, i ≤ k → mkAt acc k = 0) → ∀ (k : Nat) (o : Oper), os[k]? = some o →
    (∀ e ∈ o.after, Region.binds .any e = true → bit (mkAt (masksOf os i acc) (i + k)) e.on = true) ∧
    (∀ w, bit (mkAt (masksOf os i acc) (i + k)) w = true → ∃ e ∈ o.after, Region.binds .any e = true ∧ (w = e.on ∨ (e.on < i + k ∧ bit (mkAt (masksOf os i acc) e.on) w = true))) := by
  intro os
  induction os with
  | nil => intro i acc _ k o h; simp at h
  | cons o' os ih =>
    intro i acc hacc k o hk
    show (∀ e ∈ o.after, _ → bit (mkAt (masksOf os (i + 1) (T.set (edgeMask acc o'.after.toList 0) (Pos.ofNat i) acc)) (i + k)) e.on = true) ∧ (∀ w, bit (mkAt (masksOf os (i + 1) (T.set (edgeMask acc o'.after.toList 0) (Pos.ofNat i) acc)) (i + k)) w = true → ∃ e ∈ o.after, Region.binds .any e = true ∧ (w = e.on ∨ (e.on < i + k ∧ bit (mkAt (masksOf os (i + 1) (T.set (edgeMask acc o'.after.toList 0) (Pos.ofNat i) acc)) e.on) w = true)))
    cases k with
    | zero =>
      simp at hk
      subst hk
      have hm : mkAt (masksOf os (i + 1) (T.set (edgeMask acc o'.after.toList 0) (Pos.ofNat i) acc)) (i + 0) = edgeMask acc o'.after.toList 0 := by
        rw [masksOf_other _ _ _ _ (by omega), mkAt_set]; simp
      rw [hm]
      refine ⟨fun e he hb => edgeMask_on acc _ _ e (by simpa using he) hb, fun w hw => ?_⟩
      rcases edgeMask_spec acc _ _ _ hw with h | ⟨e, h1, h2, h3⟩
      · rw [bit_zero] at h; cases h
      · refine ⟨e, by simpa using h1, h2, ?_⟩
        rcases h3 with h3 | h3
        · exact .inl h3
        · by_cases hlt : e.on < i
          · refine .inr ⟨by omega, ?_⟩
            rw [masksOf_other _ _ _ _ (by omega), mkAt_set, if_neg (by omega)]
            exact h3
          · rw [hacc e.on (by omega), bit_zero] at h3; cases h3
    | succ k =>
      have h0 : ∀ k, i + 1 ≤ k → mkAt (T.set (edgeMask acc o'.after.toList 0) (Pos.ofNat i) acc) k = 0 := fun k hk => by
        rw [mkAt_set, if_neg (by omega)]; exact hacc k (by omega)
      obtain ⟨h1, h2⟩ := ih (i + 1) _ h0 k o (by simpa using hk)
      rw [show i + 1 + k = i + (k + 1) by omega] at h1 h2
      exact ⟨h1, h2⟩

/-! ## Writers of temporaries -/

theorem writersOf_spec : ∀ (os : List Oper) (i : Nat) (acc wr : T Nat), writersOf os i acc = some wr →
    (∀ p k, T.get p acc = some k → T.get p wr = some k) ∧ (∀ (k : Nat) (o : Oper) (d : Nat), os[k]? = some o → o.dst = some d → T.get (Pos.ofNat d) wr = some (i + k)) := by
  intro os
  induction os with
  | nil => intro i acc wr h; cases h; exact ⟨fun _ _ h => h, fun k o d h => by simp at h⟩
  | cons o os ih =>
    intro i acc wr h
    unfold writersOf at h
    split at h
    · rename_i hd
      obtain ⟨h1, h2⟩ := ih _ _ _ h
      refine ⟨h1, fun k o' d hk ho => ?_⟩
      cases k with
      | zero => simp at hk; subst hk; rw [hd] at ho; cases ho
      | succ k => have := h2 k o' d (by simpa using hk) ho; rw [this]; congr 1; show i + 1 + k = i + (k + 1); omega
    · rename_i d0 hd
      split at h
      · cases h
      · rename_i hnone
        obtain ⟨h1, h2⟩ := ih _ _ _ h
        refine ⟨fun p k hp => h1 p k ?_, fun k o' d hk ho => ?_⟩
        · rw [T.get_set_if, if_neg ?_]
          · exact hp
          · intro e; rw [e, hp] at hnone; cases hnone
        · cases k with
          | zero =>
            simp at hk; subst hk
            rw [hd] at ho; cases ho
            exact h1 _ _ (T.get_set _ _ _)
          | succ k => have := h2 k o' d (by simpa using hk) ho; rw [this]; congr 1; show i + 1 + k = i + (k + 1); omega

end Go.Ev


namespace Go.Ev
variable {P : Program}

/-! ## What the check of a plan says -/

def isWr (d : DOp) : Bool := match d.kind with
  | .write => true
  | _ => false
def nWr : List DOp → Nat
  | [] => 0
  | d :: ds => match isWr d with
    | true => nWr ds + 1
    | false => nWr ds

theorem nWr_append (a b : List DOp) : nWr (a ++ b) = nWr a + nWr b := by
  induction a with
  | nil => simp [nWr]
  | cons d a ih =>
    simp only [List.cons_append, nWr]
    cases isWr d <;> simp [ih] <;> omega
theorem nWr_one (d : DOp) : nWr [d] = if isWr d = true then 1 else 0 := by
  simp only [nWr]; cases isWr d <;> simp
theorem countA_append (a b : List DOp) : countA (a ++ b) = countA a + countA b := by
  induction a with
  | nil => simp [countA]
  | cons d a ih =>
    simp only [List.cons_append, countA]
    cases d.kind <;> simp [ih] <;> omega

def PairFact (masks : T Nat) (i w : Nat) : Prop := w ≠ i ∧ (bit (mkAt masks i) w = true ∨ bit (mkAt masks w) i = true)

structure DFact (masks wr : T Nat) (n : Nat) (pre : List DOp) (d : DOp) : Prop where
  lt : d.ix < n
  new : ∀ d' ∈ pre, d'.ix ≠ d.ix
  anc : ∀ w, bit (mkAt masks d.ix) w = true → ∃ d' ∈ pre, d'.ix = w
  reads : ∀ p, CA.t p ∈ d.c.op.reads → ∀ w, T.get p wr = some w → PairFact masks d.ix w
  guard : ∀ g, d.c.guard = some g → ∀ w, T.get g.1 wr = some w → PairFact masks d.ix w
  kind : match d.kind with
    | .pure => isPure d.c.op = true
    | .load s c as => isLoad d.c.op = true ∧ s = nWr pre ∧ 1 ≤ c ∧ c ≤ s + 1 ∧ (∀ p1 d' p2, pre = p1 ++ d' :: p2 → isWr d' = true → nWr p1 + c = s → bit (mkAt masks d.ix) d'.ix = true) ∧
        (∀ x ∈ as, ∃ p1 d' p2, pre = p1 ++ d' :: p2 ∧ d'.kind = .alloc x.1 ∧ x.2.1 = nWr p1 ∧ bit (mkAt masks d.ix) d'.ix = true)
    | .alloc q => isAlloc d.c.op = true ∧ q = countA pre
    | .write => ∀ d' ∈ pre, bit (mkAt masks d.ix) d'.ix = true

structure Acc (pre : List DOp) (done : Nat) (ws : List Nat) (al : List (Nat × Nat × Nat)) : Prop where
  done : ∀ i, bit done i = true ↔ ∃ d ∈ pre, d.ix = i
  wlen : ws.length = nWr pre
  ws : ∀ p1 d p2, pre = p1 ++ d :: p2 → isWr d = true → ws[ws.length - 1 - nWr p1]? = some d.ix
  alen : al.length = countA pre
  al : ∀ x ∈ al, ∃ p1 d p2, pre = p1 ++ d :: p2 ∧ d.kind = .alloc x.1 ∧ d.ix = x.2.2 ∧ x.2.1 = nWr p1

theorem caOk_spec {masks wr : T Nat} {i : Nat} {p : Pos} (h : caOk masks wr i (.t p) = true) : ∀ w, T.get p wr = some w → PairFact masks i w := by
  intro w hw
  have h : (match T.get p wr with | some w => and (not (Nat.beq w i)) (or (bit (mkAt masks i) w) (bit (mkAt masks w) i)) | none => true) = true := h
  rw [hw] at h
  obtain ⟨h1, h2⟩ := and_true h
  refine ⟨fun e => by subst e; simp at h1, ?_⟩
  cases hb : bit (mkAt masks i) w with
  | true => exact .inl rfl
  | false => rw [hb] at h2; exact .inr (by simpa using h2)

theorem casOk_spec {masks wr : T Nat} {i : Nat} : ∀ {xs : List CA}, casOk masks wr i xs = true → ∀ x ∈ xs, caOk masks wr i x = true := by
  intro xs
  induction xs with
  | nil => intro _ x hx; cases hx
  | cons y ys ih =>
    intro h x hx
    obtain ⟨h1, h2⟩ := and_true (show and (caOk masks wr i y) (casOk masks wr i ys) = true from h)
    rcases List.mem_cons.1 hx with rfl | hx
    · exact h1
    · exact ih h2 x hx

theorem triIn_spec {x : Nat × Nat × Nat} : ∀ {l : List (Nat × Nat × Nat)}, triIn x l = true → x ∈ l := by
  intro l
  induction l with
  | nil => intro h; cases h
  | cons y ys ih =>
    intro h
    have h : or (triEq x y) (triIn x ys) = true := h
    cases he : triEq x y with
    | true =>
      obtain ⟨h1, h2⟩ := and_true (show and (Nat.beq x.1 y.1) (and (Nat.beq x.2.1 y.2.1) (Nat.beq x.2.2 y.2.2)) = true from he)
      obtain ⟨h3, h4⟩ := and_true h2
      have : x = y := Prod.ext (Nat.eq_of_beq_eq_true h1) (Prod.ext (Nat.eq_of_beq_eq_true h3) (Nat.eq_of_beq_eq_true h4))
      rw [this]; simp
    | false => rw [he] at h; exact List.mem_cons_of_mem _ (ih (by simpa using h))

theorem asOk_spec {m : Nat} {al : List (Nat × Nat × Nat)} : ∀ {as : List (Nat × Nat × Nat)}, asOk m al as = true → ∀ x ∈ as, x ∈ al ∧ bit m x.2.2 = true := by
  intro as
  induction as with
  | nil => intro _ x hx; cases hx
  | cons y ys ih =>
    intro h x hx
    obtain ⟨h1, h2⟩ := and_true (show and (and (triIn y al) (bit m y.2.2)) (asOk m al ys) = true from h)
    obtain ⟨h3, h4⟩ := and_true h1
    rcases List.mem_cons.1 hx with rfl | hx
    · exact ⟨triIn_spec h3, h4⟩
    · exact ih h2 x hx

/-- the pieces of a list with one more at its end -/
theorem snoc_split {α : Type} {pre p1 p2 : List α} {d d' : α} (h : pre ++ [d] = p1 ++ d' :: p2) : (p1 = pre ∧ d' = d ∧ p2 = []) ∨ ∃ p2', p2 = p2' ++ [d] ∧ pre = p1 ++ d' :: p2' := by
  rcases List.eq_nil_or_concat p2 with rfl | ⟨p2', x, rfl⟩
  · have h1 := List.append_inj' h rfl
    simp at h1
    exact .inl ⟨h1.1.symm, h1.2.symm, rfl⟩
  · have h' : pre ++ [d] = (p1 ++ d' :: p2') ++ [x] := by simpa [List.append_assoc] using h
    have h1 := List.append_inj' h' rfl
    simp at h1
    exact .inr ⟨p2', by rw [h1.2]; simp, h1.1⟩

theorem Acc.snoc {pre : List DOp} {done : Nat} {ws : List Nat} {al : List (Nat × Nat × Nat)} (h : Acc pre done ws al) (d : DOp) : Acc (pre ++ [d]) (withBit done d.ix) (nextWs d.ix ws d.kind) (nextAl d.ix ws al d.kind) := by
  have hwl : (nextWs d.ix ws d.kind).length = nWr (pre ++ [d]) := by
    rw [nWr_append, nWr_one]
    unfold nextWs isWr
    cases d.kind <;> simp [h.wlen]
  refine ⟨fun i => ?_, hwl, fun p1 d' p2 he hw => ?_, ?_, fun x hx => ?_⟩
  · rw [bit_withBit, h.done]
    simp only [List.mem_append, List.mem_singleton]
    constructor
    · rintro (⟨d', h1, h2⟩ | rfl)
      · exact ⟨d', .inl h1, h2⟩
      · exact ⟨d, .inr rfl, rfl⟩
    · rintro ⟨d', h1 | rfl, h2⟩
      · exact .inl ⟨d', h1, h2⟩
      · exact .inr h2.symm
  · rcases snoc_split he with ⟨rfl, rfl, rfl⟩ | ⟨p2', rfl, hpre⟩
    · have hk : d'.kind = .write := by unfold isWr at hw; split at hw <;> first | assumption | cases hw
      rw [hk]
      simp [nextWs, h.wlen]
    · have old := h.ws p1 d' p2' hpre hw
      have hlt : nWr p1 < ws.length := by rw [h.wlen, hpre, nWr_append]; simp [nWr, hw]
      unfold nextWs
      split
      · rw [List.length_cons, show ws.length + 1 - 1 - nWr p1 = (ws.length - 1 - nWr p1) + 1 by omega]
        simpa using old
      · exact old
  · rw [countA_append]
    unfold nextAl
    cases hk : d.kind <;> simp [countA, hk, h.alen]
  · have : x ∈ al ∨ (∃ q, d.kind = .alloc q ∧ x = (q, ws.length, d.ix)) := by
      unfold nextAl at hx
      split at hx
      · rename_i q hk
        rcases List.mem_cons.1 hx with rfl | hx
        · exact .inr ⟨q, hk, rfl⟩
        · exact .inl hx
      · exact .inl hx
    rcases this with hx | ⟨q, hk, rfl⟩
    · obtain ⟨p1, d', p2, h1, h2⟩ := h.al x hx
      exact ⟨p1, d', p2 ++ [d], by rw [h1]; simp, h2⟩
    · exact ⟨pre, d, [], rfl, hk, rfl, h.wlen⟩

theorem chk_spec {masks wr : T Nat} {n nA : Nat} : ∀ (l : List DOp) (pre : List DOp) (done : Nat) (ws : List Nat) (al : List (Nat × Nat × Nat)), chk masks wr n l done ws al nA = true → Acc pre done ws al →
    (∀ p1 d p2, l = p1 ++ d :: p2 → DFact masks wr n (pre ++ p1) d) ∧ (∀ i, i < n → ∃ d ∈ pre ++ l, d.ix = i) := by
  intro l
  induction l with
  | nil =>
    intro pre done ws al h hA
    refine ⟨fun p1 d p2 he => by simp at he, fun i hi => ?_⟩
    have h : Nat.beq done (Nat.sub (Nat.shiftLeft 1 n) 1) = true := h
    have := Nat.eq_of_beq_eq_true h
    rw [List.append_nil]
    exact (hA.done i).1 (by rw [this]; exact (bit_full n i).2 hi)
  | cons d l ih =>
    intro pre done ws al h hA
    obtain ⟨h1, h2⟩ := and_true (show and _ (chk masks wr n l (withBit done d.ix) (nextWs d.ix ws d.kind) (nextAl d.ix ws al d.kind) nA) = true from h)
    obtain ⟨c1, h1⟩ := and_true h1
    obtain ⟨c2, h1⟩ := and_true h1
    obtain ⟨c3, h1⟩ := and_true h1
    obtain ⟨c4, h1⟩ := and_true h1
    obtain ⟨c5, c6⟩ := and_true h1
    obtain ⟨r1, r2⟩ := ih (pre ++ [d]) _ _ _ h2 (hA.snoc d)
    refine ⟨fun p1 d' p2 he => ?_, fun i hi => by have := r2 i hi; simpa using this⟩
    cases p1 with
    | cons x p1 =>
      simp at he
      obtain ⟨rfl, he⟩ := he
      have := r1 p1 d' p2 he
      simpa using this
    | nil =>
      simp at he
      obtain ⟨rfl, _⟩ := he
      rw [List.append_nil]
      refine ⟨Nat.le_of_ble_eq_true c1, fun d' hd' e => ?_, fun w hw => (hA.done w).1 (subMask_spec c3 hw), fun p hp w hw => caOk_spec (casOk_spec c4 _ hp) w hw, fun g hg w hw => ?_, ?_⟩
      · have := (hA.done d.ix).2 ⟨d', hd', e⟩
        rw [this] at c2; cases c2
      · have c5 : gOk masks wr d.ix d.c.guard = true := c5
        rw [hg] at c5
        exact caOk_spec c5 w hw
      · cases hk : d.kind with
        | pure => rw [hk] at c6; exact c6
        | load s c as =>
          rw [hk] at c6
          have c6 : and (isLoad d.c.op) (and (Nat.beq s ws.length) (and (Nat.ble 1 c) (and (Nat.ble c (Nat.succ s)) (and (headIn (mkAt masks d.ix) (ws.drop (Nat.pred c))) (asOk (mkAt masks d.ix) al as))))) = true := c6
          obtain ⟨k1, c6⟩ := and_true c6
          obtain ⟨k2, c6⟩ := and_true c6
          obtain ⟨k3, c6⟩ := and_true c6
          obtain ⟨k4, c6⟩ := and_true c6
          obtain ⟨k5, k6⟩ := and_true c6
          have hs : s = ws.length := Nat.eq_of_beq_eq_true k2
          have hc1 : 1 ≤ c := Nat.le_of_ble_eq_true k3
          refine ⟨k1, by rw [hs, hA.wlen], hc1, Nat.le_of_ble_eq_true k4, fun p1 d' p2 he hw hn => ?_, fun x hx => ?_⟩
          · have hat := hA.ws p1 d' p2 he hw
            have hidx : ws.length - 1 - nWr p1 = c - 1 := by omega
            rw [hidx] at hat
            have hdrop : ∃ r, ws.drop (c - 1) = d'.ix :: r := by
              have hlt := (List.getElem?_eq_some_iff.1 hat).1
              refine ⟨ws.drop (c - 1 + 1), ?_⟩
              rw [List.drop_eq_getElem_cons hlt]
              congr 1
              exact (List.getElem?_eq_some_iff.1 hat).2
            obtain ⟨r, hr⟩ := hdrop
            have k5 : headIn (mkAt masks d.ix) (ws.drop (c - 1)) = true := k5
            rw [hr] at k5
            exact k5
          · obtain ⟨g1, g2⟩ := asOk_spec k6 x hx
            obtain ⟨p1, d', p2, g3, g4, g5, g6⟩ := hA.al x g1
            exact ⟨p1, d', p2, g3, g4, g6, by rw [g5]; exact g2⟩
        | alloc q =>
          rw [hk] at c6
          obtain ⟨k1, k2⟩ := and_true (show and (isAlloc d.c.op) (Nat.beq q al.length) = true from c6)
          exact ⟨k1, by rw [Nat.eq_of_beq_eq_true k2, hA.alen]⟩
        | write =>
          rw [hk] at c6
          exact fun d' hd' => subMask_spec (show subMask done (mkAt masks d.ix) = true from c6) ((hA.done d'.ix).2 ⟨d', hd', rfl⟩)

theorem Acc.nil : Acc [] 0 [] [] :=
  ⟨fun i => by rw [bit_zero]; simp, rfl, fun p1 d p2 h => by simp at h, rfl, fun x hx => by cases hx⟩

/-! ## What the plan's operations are -/

theorem tOf_spec {α : Type} : ∀ (l : List α) (i : Nat) (t : T α) (k : Nat), T.get (Pos.ofNat k) (tOf l i t) = if i ≤ k ∧ k < i + l.length then l[k - i]? else T.get (Pos.ofNat k) t := by
  intro l
  induction l with
  | nil => intro i t k; rw [if_neg (by simp)]; rfl
  | cons x l ih =>
    intro i t k
    show T.get (Pos.ofNat k) (tOf l (i + 1) (T.set x (Pos.ofNat i) t)) = _
    rw [ih]
    by_cases h : i + 1 ≤ k ∧ k < i + 1 + l.length
    · rw [if_pos h, if_pos (by simp; omega), show k - i = (k - (i + 1)) + 1 by omega, List.getElem?_cons_succ]
    · rw [if_neg h, T.get_set_if]
      by_cases e : i = k
      · subst e; simp
      · rw [if_neg (fun e' => e (Pos.ofNat_inj e')), if_neg (by simp; omega)]

theorem planGo_spec {masks : T Nat} {cs : T COper} : ∀ (is ws : List Nat) (as : List (Nat × Nat × Nat)) (plan : List DOp), planGo masks cs is ws as = some plan → ∀ d ∈ plan, T.get (Pos.ofNat d.ix) cs = some d.c := by
  intro is
  induction is with
  | nil => intro ws as plan h; cases h; intro d hd; cases hd
  | cons i is ih =>
    intro ws as plan h
    unfold planGo at h
    split at h
    · cases h
    · rename_i c hc
      have fin : ∀ k ws' as', (planGo masks cs is ws' as').map (⟨i, c, k⟩ :: ·) = some plan → ∀ d ∈ plan, T.get (Pos.ofNat d.ix) cs = some d.c := by
        intro k ws' as' h
        cases hp : planGo masks cs is ws' as' with
        | none => rw [hp] at h; cases h
        | some pl =>
          rw [hp] at h; cases h
          intro d hd
          rcases List.mem_cons.1 hd with rfl | hd
          · exact hc
          · exact ih _ _ _ hp d hd
      split at h <;> exact fin _ _ _ h

structure PlanOk (P : Program) (nt : Nat) (ops : Array Oper) (masks wr : T Nat) (plan : List DOp) : Prop where
  fact : ∀ p1 d p2, plan = p1 ++ d :: p2 → DFact masks wr ops.size p1 d
  all : ∀ i, i < ops.size → ∃ d ∈ plan, d.ix = i
  op : ∀ d ∈ plan, ∃ o, ops[d.ix]? = some o ∧ d.c = cOper P nt ops o
  mask : ∀ (i : Nat) (o : Oper), ops[i]? = some o → (∀ e ∈ o.after, Region.binds .any e = true → bit (mkAt masks i) e.on = true) ∧
    (∀ w, bit (mkAt masks i) w = true → ∃ e ∈ o.after, Region.binds .any e = true ∧ (w = e.on ∨ (e.on < i ∧ bit (mkAt masks e.on) w = true)))
  wr : ∀ (i : Nat) (o : Oper) (d : Nat), ops[i]? = some o → o.dst = some d → T.get (Pos.ofNat d) wr = some i

theorem cDraw_spec {nt : Nat} {ops : Array Oper} : cDraw P nt ops = .bad ∨ ∃ masks wr plan, cDraw P nt ops = .dops (countA plan) plan ∧ PlanOk P nt ops masks wr plan := by
  unfold cDraw
  split
  · rename_i wr hwr
    unfold dplan
    split
    · rename_i plan hplan
      split
      · rename_i hchk
        obtain ⟨h1, h2⟩ := chk_spec plan [] 0 [] [] hchk Acc.nil
        refine .inr ⟨masksOf ops.toList 0 .nil, wr, plan, rfl, ?_, ?_, ?_, ?_, ?_⟩
        · intro p1 d p2 he; simpa using h1 p1 d p2 he
        · intro i hi; simpa using h2 i hi
        · intro d hd
          have hg := planGo_spec _ _ _ _ hplan d hd
          rw [tOf_spec] at hg
          split at hg
          · simp only [Nat.sub_zero, List.getElem?_map] at hg
            cases ho : ops.toList[d.ix]? with
            | none => rw [ho] at hg; cases hg
            | some o => rw [ho] at hg; exact ⟨o, by simpa using ho, (Option.some.inj hg).symm⟩
          · rw [T.get_nil] at hg; cases hg
        · intro i o ho
          have := masksOf_spec ops.toList 0 .nil (fun k _ => by unfold mkAt; rw [T.get_nil]) i o (by simpa using ho)
          simpa using this
        · intro i o d ho hd
          have := (writersOf_spec _ _ _ _ hwr).2 i o d (by simpa using ho) hd
          simpa using this
      · exact .inl rfl
    · exact .inl rfl
  · exact .inl rfl
end Go.Ev


namespace Go.Ev
variable {P : Program}

section
variable {call : CallF} {base : Pos}

/-! ## The canonical run, taken apart -/

theorem runD_cons (d : DOp) (l : List DOp) (st : DSt) : runD call base (d :: l) st = thenD (runD call base l) (stepD call base d st) := rfl
theorem runD_append (l1 l2 : List DOp) : ∀ st, runD call base (l1 ++ l2) st = thenD (runD call base l2) (runD call base l1 st) := by
  induction l1 with
  | nil => intro st; rfl
  | cons d l1 ih =>
    intro st
    rw [List.cons_append, runD_cons, runD_cons]
    cases stepD call base d st with
    | none => rfl
    | some st' => exact ih st'
theorem runD_split {l1 l2 : List DOp} {st stE : DSt} (h : runD call base (l1 ++ l2) st = some stE) : ∃ st1, runD call base l1 st = some st1 ∧ runD call base l2 st1 = some stE := by
  rw [runD_append] at h
  cases h1 : runD call base l1 st with
  | none => rw [h1] at h; cases h
  | some st1 => rw [h1] at h; exact ⟨st1, rfl, h⟩
theorem runD_step {d : DOp} {l : List DOp} {st stE : DSt} (h : runD call base (d :: l) st = some stE) : ∃ st1, stepD call base d st = some st1 ∧ runD call base l st1 = some stE := by
  rw [runD_cons] at h
  cases h1 : stepD call base d st with
  | none => rw [h1] at h; cases h
  | some st1 => rw [h1] at h; exact ⟨st1, rfl, h⟩
theorem runD_join {l1 l2 : List DOp} {st st1 : DSt} (h : runD call base l1 st = some st1) : runD call base (l1 ++ l2) st = runD call base l2 st1 := by rw [runD_append, h]; rfl

/-- one step -/
inductive StepD (call : CallF) (base : Pos) (d : DOp) (st : DSt) : DSt → Prop
  | skip (hw : wantedA st.tm d.c.guard = some false) : StepD call base d st (d_skip d.c.dst st d.kind)
  | pure (v : AV) (h' : H) (hw : wantedA st.tm d.c.guard = some true) (hk : d.kind = .pure) (hr : d.c.op.run st.tm st.cur = .val v h') : StepD call base d st { st with tm := setDst d.c.dst v st.tm }
  | load (s c : Nat) (as : List (Nat × Nat × Nat)) (h : H) (hs : List H) (v : AV) (h' : H) (hw : wantedA st.tm d.c.guard = some true) (hk : d.kind = .load s c as) (hh : st.hist = h :: hs)
      (hr : d.c.op.run st.tm (putAs base st.ab s h as) = .val v h') (hsame : ldSame d.c.op st.tm base st.ab as v (Nat.pred c) (Nat.pred s) hs = true) : StepD call base d st { st with tm := setDst d.c.dst v st.tm }
  | alloc (q : Nat) (v : AV) (h' : H) (b : Blk) (hw : wantedA st.tm d.c.guard = some true) (hk : d.kind = .alloc q) (hr : d.c.op.run st.tm (H.emp (addPos base q)) = .val v h') (hb : T.get (addPos base q) h'.m = some b)
      (hn : noneAll (addPos base q) st.hist = true) : StepD call base d st { tm := setDst d.c.dst v st.tm, hist := st.hist, cur := st.cur.put (addPos base q) b, ab := T.set b (addPos base q) st.ab }
  | wval (v : AV) (h' : H) (hw : wantedA st.tm d.c.guard = some true) (hk : d.kind = .write) (hr : d.c.op.run st.tm st.cur = .val v h') : StepD call base d st { tm := setDst d.c.dst v st.tm, hist := h' :: st.hist, cur := h', ab := st.ab }
  | wcall (f : Callee) (args : List AV) (v : AV) (h' : H) (hw : wantedA st.tm d.c.guard = some true) (hk : d.kind = .write) (hr : d.c.op.run st.tm st.cur = .call f args) (hc : call f args st.cur = .ok v h') :
      StepD call base d st { tm := setDst d.c.dst v st.tm, hist := h' :: st.hist, cur := h', ab := st.ab }

theorem stepD_inv {d : DOp} {st st' : DSt} (h : stepD call base d st = some st') : StepD call base d st st' := by
  have h : d_want call base d.c.dst d.c.op d.kind st (wantedA st.tm d.c.guard) = some st' := h
  cases hw : wantedA st.tm d.c.guard with
  | none => rw [hw] at h; cases h
  | some b =>
    rw [hw] at h
    cases b with
    | false => cases h; exact .skip hw
    | true =>
      have h : d_go call base d.c.dst d.c.op st d.kind = some st' := h
      cases hk : d.kind with
      | pure =>
        rw [hk] at h
        have h : d_pure d.c.op st d.c.dst = some st' := h
        unfold d_pure at h
        split at h
        · rename_i v h' hr; cases h; exact .pure v h' hw hk hr
        · cases h
      | load s c as =>
        rw [hk] at h
        have h : d_load d.c.op base st d.c.dst s c as st.hist = some st' := h
        cases hh : st.hist with
        | nil => rw [hh] at h; cases h
        | cons h0 hs =>
          rw [hh] at h
          unfold d_load at h
          simp only at h
          split at h
          · rename_i v h' hr
            split at h
            · rename_i hsame; cases h; exact .load s c as h0 hs v h' hw hk hh hr hsame
            · cases h
          · cases h
      | alloc q =>
        rw [hk] at h
        have h : d_alloc d.c.op st d.c.dst (addPos base q) = some st' := h
        unfold d_alloc at h
        split at h
        · rename_i v h' hr
          cases hb : T.get (addPos base q) h'.m with
          | none => rw [hb] at h; cases h
          | some b =>
            rw [hb] at h
            unfold d_put at h
            simp only at h
            split at h
            · rename_i hn; cases h; exact .alloc q v h' b hw hk hr hb hn
            · cases h
        · cases h
      | write =>
        rw [hk] at h
        have h : d_write call d.c.op st d.c.dst = some st' := h
        unfold d_write at h
        split at h
        · rename_i v h' hr; cases h; exact .wval v h' hw hk hr
        · rename_i f args hr
          cases hc : call f args st.cur with
          | fail => rw [hc] at h; cases h
          | ok v h' => rw [hc] at h; cases h; exact .wcall f args v h' hw hk hr hc
        · cases h

theorem isWr_iff {d : DOp} : isWr d = true ↔ d.kind = .write := by
  unfold isWr
  cases d.kind <;> simp

theorem StepD.tm {d : DOp} {st st' : DSt} (h : StepD call base d st st') : ∃ v, st'.tm = setDst d.c.dst v st.tm := by
  cases h with
  | skip hw => exact ⟨.tup [], by cases hk : d.kind <;> simp [d_skip]⟩
  | pure v => exact ⟨v, rfl⟩
  | load s c as h hs v => exact ⟨v, rfl⟩
  | alloc q v => exact ⟨v, rfl⟩
  | wval v => exact ⟨v, rfl⟩
  | wcall f args v => exact ⟨v, rfl⟩

theorem StepD.hist {d : DOp} {st st' : DSt} (h : StepD call base d st st') : (isWr d = true → st'.hist = st'.cur :: st.hist) ∧ (isWr d = false → st'.hist = st.hist ∧ st'.cur.next = st.cur.next) := by
  cases h with
  | skip hw => cases hk : d.kind <;> simp [d_skip, isWr, hk]
  | pure v h' hw hk => simp [isWr, hk]
  | load s c as h hs v h' hw hk => simp [isWr, hk]
  | alloc q v h' b hw hk => simp [isWr, hk, H.next_put]
  | wval v h' hw hk => simp [isWr, hk]
  | wcall f args v h' hw hk => simp [isWr, hk]

theorem setDst_get {d : Option Pos} {v : AV} {tm : Tm} {p : Pos} (h : d ≠ some p) : T.get p (setDst d v tm) = T.get p tm := by
  cases d with
  | none => rfl
  | some q => exact T.get_set_ne v (fun e => h (by rw [e])) tm

theorem tm_keep : ∀ (l : List DOp) {st st' : DSt}, runD call base l st = some st' → ∀ p, (∀ d ∈ l, d.c.dst ≠ some p) → T.get p st'.tm = T.get p st.tm := by
  intro l
  induction l with
  | nil => intro st st' h p _; cases h; rfl
  | cons d l ih =>
    intro st st' h p hp
    obtain ⟨st1, h1, h2⟩ := runD_step h
    rw [ih h2 p (fun d hd => hp d (by simp [hd]))]
    obtain ⟨v, hv⟩ := (stepD_inv h1).tm
    rw [hv]
    exact setDst_get (hp d (by simp))

theorem hist_len : ∀ (l : List DOp) {st st' : DSt}, runD call base l st = some st' → ∃ k, st'.hist = k ++ st.hist ∧ k.length = nWr l := by
  intro l
  induction l with
  | nil => intro st st' h; cases h; exact ⟨[], rfl, rfl⟩
  | cons d l ih =>
    intro st st' h
    obtain ⟨st1, h1, h2⟩ := runD_step h
    obtain ⟨k, hk1, hk2⟩ := ih h2
    have hs := (stepD_inv h1).hist
    cases hw : isWr d with
    | true =>
      refine ⟨k ++ [st1.cur], by rw [hk1, hs.1 hw]; simp, by simp [nWr, hw, hk2]⟩
    | false =>
      refine ⟨k, by rw [hk1, (hs.2 hw).1], by simp [nWr, hw, hk2]⟩

theorem next_keep : ∀ (l : List DOp) {st st' : DSt}, runD call base l st = some st' → (∀ d ∈ l, isWr d = false) → st'.cur.next = st.cur.next := by
  intro l
  induction l with
  | nil => intro st st' h _; cases h; rfl
  | cons d l ih =>
    intro st st' h hw
    obtain ⟨st1, h1, h2⟩ := runD_step h
    rw [ih h2 (fun d hd => hw d (by simp [hd]))]
    exact ((stepD_inv h1).hist.2 (hw d (by simp))).2

theorem nWr_find : ∀ (l : List DOp) (k : Nat), k < nWr l → ∃ p1 d p2, l = p1 ++ d :: p2 ∧ isWr d = true ∧ nWr p1 = k := by
  intro l
  induction l with
  | nil => intro k h; simp [nWr] at h
  | cons d l ih =>
    intro k h
    cases hw : isWr d with
    | true =>
      cases k with
      | zero => exact ⟨[], d, l, rfl, hw, rfl⟩
      | succ k =>
        simp [nWr, hw] at h
        obtain ⟨p1, d', p2, h1, h2, h3⟩ := ih k h
        exact ⟨d :: p1, d', p2, by rw [h1]; rfl, h2, by simp [nWr, hw, h3]⟩
    | false =>
      simp [nWr, hw] at h
      obtain ⟨p1, d', p2, h1, h2, h3⟩ := ih k h
      exact ⟨d :: p1, d', p2, by rw [h1]; rfl, h2, by simp [nWr, hw, h3]⟩

theorem addPos_toN (p : Pos) (q : Nat) : (addPos p q).toN = p.toN + q := by
  induction q with
  | zero => rfl
  | succ q ih =>
    show (addPos p q).succ.toN = _
    rw [Pos.toN_succ, ih]; omega
theorem addPos_inj {p : Pos} {q q' : Nat} (h : addPos p q = addPos p q') : q = q' := by
  have := congrArg Pos.toN h
  rw [addPos_toN, addPos_toN] at this
  omega

theorem noneAll_spec {f : Pos} : ∀ {l : List H}, noneAll f l = true → ∀ h ∈ l, h.blk f = none := by
  intro l
  induction l with
  | nil => intro _ h hh; cases hh
  | cons g l ih =>
    intro hn h hh
    unfold noneAll at hn
    split at hn
    · cases hn
    · rename_i hg
      rcases List.mem_cons.1 hh with rfl | hh
      · exact hg
      · exact ih hn h hh

theorem ldSame_spec {op : CO} {tm : Tm} {ab : T Blk} {as : List (Nat × Nat × Nat)} {v : AV} : ∀ (c k : Nat) (hs : List H), ldSame op tm base ab as v c k hs = true → ∀ m, m < c → ∃ h h', hs[m]? = some h ∧ op.run tm (putAs base ab (k - m) h as) = .val v h' := by
  intro c
  induction c with
  | zero => intro k hs _ m hm; omega
  | succ c ih =>
    intro k hs h m hm
    cases hs with
    | nil => cases h
    | cons h0 hs =>
      unfold ldSame at h
      split at h
      · rename_i v' h' hr
        obtain ⟨h1, h2⟩ := and_true h
        cases m with
        | zero => exact ⟨h0, h', rfl, by rw [Nat.sub_zero, hr, avSame_eq h1]⟩
        | succ m =>
          obtain ⟨g, g', g1, g2⟩ := ih (Nat.pred k) hs h2 m (by omega)
          refine ⟨g, g', by simpa using g1, ?_⟩
          rw [show k - (m + 1) = Nat.pred k - m by simp [Nat.pred_eq_sub_one]; omega]
          exact g2
      · cases h

theorem putAs_spec {ab : T Blk} {k : Nat} : ∀ (as : List (Nat × Nat × Nat)) (h : H), (putAs base ab k h as).next = h.next ∧
    ∀ f b, (putAs base ab k h as).blk f = some b → h.blk f = some b ∨ ∃ x ∈ as, k ≤ x.2.1 ∧ f = addPos base x.1 ∧ T.get f ab = some b := by
  intro as
  induction as with
  | nil => intro h; exact ⟨rfl, fun f b hb => .inl hb⟩
  | cons x as ih =>
    obtain ⟨q, sA, i⟩ := x
    intro h
    unfold putAs
    split
    · rename_i hle
      split
      · rename_i b0 hb0
        obtain ⟨h1, h2⟩ := ih (h.put (addPos base q) b0)
        refine ⟨by rw [h1, H.next_put], fun f b hb => ?_⟩
        rcases h2 f b hb with h3 | ⟨x, h3, h4⟩
        · rw [H.blk_put] at h3
          by_cases e : addPos base q = f
          · subst e
            rw [Bl.upd_same] at h3; cases h3
            exact .inr ⟨(q, sA, i), by simp, Nat.le_of_ble_eq_true hle, rfl, hb0⟩
          · rw [Bl.upd_ne _ _ e] at h3
            exact .inl h3
        · exact .inr ⟨x, by simp [h3], h4⟩
      · obtain ⟨h1, h2⟩ := ih h
        refine ⟨h1, fun f b hb => ?_⟩
        rcases h2 f b hb with h3 | ⟨x, h3, h4⟩
        · exact .inl h3
        · exact .inr ⟨x, by simp [h3], h4⟩
    · obtain ⟨h1, h2⟩ := ih h
      refine ⟨h1, fun f b hb => ?_⟩
      rcases h2 f b hb with h3 | ⟨x, h3, h4⟩
      · exact .inl h3
      · exact .inr ⟨x, by simp [h3], h4⟩

/-- two places in one list -/
theorem split_cmp {α : Type} : ∀ {p1 p2 q1 q2 : List α} {d d' : α}, p1 ++ d :: p2 = q1 ++ d' :: q2 → (p1 = q1 ∧ d = d' ∧ p2 = q2) ∨ (∃ r, q1 = p1 ++ d :: r ∧ p2 = r ++ d' :: q2) ∨ (∃ r, p1 = q1 ++ d' :: r ∧ q2 = r ++ d :: p2) := by
  intro p1
  induction p1 with
  | nil =>
    intro p2 q1 q2 d d' h
    cases q1 with
    | nil => simp at h; exact .inl ⟨rfl, h.1, h.2⟩
    | cons x q1 => simp at h; exact .inr (.inl ⟨q1, by rw [h.1]; rfl, h.2⟩)
  | cons x p1 ih =>
    intro p2 q1 q2 d d' h
    cases q1 with
    | nil => simp at h; exact .inr (.inr ⟨p1, by rw [← h.1]; rfl, h.2.symm⟩)
    | cons y q1 =>
      simp at h
      obtain ⟨rfl, h⟩ := h
      rcases ih h with ⟨rfl, h2, h3⟩ | ⟨r, h2, h3⟩ | ⟨r, h2, h3⟩
      · exact .inl ⟨rfl, h2, h3⟩
      · exact .inr (.inl ⟨r, by rw [h2]; rfl, h3⟩)
      · exact .inr (.inr ⟨r, by rw [h2]; rfl, h3⟩)
end
end Go.Ev


namespace Go.Ev
variable {P : Program}

section
variable {call : CallF} {base : Pos} {nt b0 : Nat} {ops : Array Oper} {masks wr : T Nat} {plan : List DOp} {st0 stE : DSt}

/-! ## Places of a plan -/

theorem PlanOk.same (hp : PlanOk P nt ops masks wr plan) {p1 p2 q1 q2 : List DOp} {d d' : DOp} (h : plan = p1 ++ d :: p2) (h' : plan = q1 ++ d' :: q2) (e : d.ix = d'.ix) : p1 = q1 ∧ d = d' ∧ p2 = q2 := by
  rcases split_cmp (h.symm.trans h') with h1 | ⟨r, h1, h2⟩ | ⟨r, h1, h2⟩
  · exact h1
  · exact absurd e ((hp.fact q1 d' q2 h').new d (by rw [h1]; simp))
  · exact absurd e.symm ((hp.fact p1 d p2 h).new d' (by rw [h1]; simp))

theorem PlanOk.eq_of_ix (hp : PlanOk P nt ops masks wr plan) {d d' : DOp} (h : d ∈ plan) (h' : d' ∈ plan) (e : d.ix = d'.ix) : d = d' := by
  obtain ⟨p1, p2, h1⟩ := List.append_of_mem h
  obtain ⟨q1, q2, h2⟩ := List.append_of_mem h'
  exact (hp.same h1 h2 e).2.1

/-- who writes a temporary -/
theorem PlanOk.writer (hp : PlanOk P nt ops masks wr plan) {d : DOp} (hd : d ∈ plan) {p : Pos} (h : d.c.dst = some p) : T.get p wr = some d.ix := by
  obtain ⟨o, ho, hc⟩ := hp.op d hd
  rcases cOper_eq (P := P) (nt := nt) (ops := ops) o with ⟨_, _, he⟩ | he
  · rw [hc, he] at h
    cases hdst : o.dst with
    | none => rw [hdst] at h; cases h
    | some t => rw [hdst] at h; cases h; exact hp.wr d.ix o t ho hdst
  · rw [hc, he] at h; cases h

def At (call : CallF) (base : Pos) (st0 : DSt) (p : List DOp) (st : DSt) : Prop := runD call base p st0 = some st

theorem At.step {p : List DOp} {d : DOp} {r : List DOp} (hrun : runD call base plan st0 = some stE) (h : plan = p ++ d :: r) : ∃ st st', At call base st0 p st ∧ stepD call base d st = some st' ∧ At call base st0 (p ++ [d]) st' := by
  rw [h] at hrun
  obtain ⟨st, h1, h2⟩ := runD_split hrun
  obtain ⟨st', h3, _⟩ := runD_step h2
  refine ⟨st, st', h1, h3, ?_⟩
  show runD call base (p ++ [d]) st0 = some st'
  rw [runD_join h1, runD_cons, h3]; rfl

theorem At.det {p : List DOp} {st st' : DSt} (h : At call base st0 p st) (h' : At call base st0 p st') : st = st' := Option.some.inj (h.symm.trans h')

theorem At.tm0 {p : List DOp} {st : DSt} (h : At call base st0 p st) {q : Pos} (hq : ∀ d ∈ p, d.c.dst ≠ some q) : T.get q st.tm = T.get q st0.tm := tm_keep p h q hq

theorem At.tmE (hp : PlanOk P nt ops masks wr plan) (hrun : runD call base plan st0 = some stE) {p r : List DOp} (hsp : plan = p ++ r) {st : DSt} (h : At call base st0 p st) {d : DOp} (hd : d ∈ p) {q : Pos} (hq : d.c.dst = some q) :
    T.get q st.tm = T.get q stE.tm := by
  rw [hsp, runD_join h] at hrun
  refine (tm_keep r hrun q fun d' hd' e => ?_).symm
  have h1 := hp.writer (d := d) (by rw [hsp]; simp [hd]) hq
  have h2 := hp.writer (d := d') (by rw [hsp]; simp [hd']) e
  rw [h1] at h2
  have hix : d.ix = d'.ix := Option.some.inj h2
  obtain ⟨r1, r2, hr⟩ := List.append_of_mem hd'
  exact (hp.fact (p ++ r1) d' r2 (by rw [hsp, hr]; simp)).new d (by simp [hd]) hix

/-! ## New blocks -/

/-- at its place in the canonical order, this operation makes this block -/
def EntA (call : CallF) (base : Pos) (st0 : DSt) (p : List DOp) (d : DOp) (f : Pos) (b : Blk) : Prop :=
  ∃ st v h' q, At call base st0 p st ∧ d.kind = .alloc q ∧ f = addPos base q ∧ wantedA st.tm d.c.guard = some true ∧ d.c.op.run st.tm (H.emp f) = .val v h' ∧ T.get f h'.m = some b ∧ noneAll f st.hist = true

theorem EntA.det {p : List DOp} {d : DOp} {f f' : Pos} {b b' : Blk} (h : EntA call base st0 p d f b) (h' : EntA call base st0 p d f' b') : f = f' ∧ b = b' := by
  obtain ⟨st, v, h1, q, a1, a2, a3, a4, a5, a6, a7⟩ := h
  obtain ⟨st2, v2, h2, q2, c1, c2, c3, c4, c5, c6, c7⟩ := h'
  have := a1.det c1
  subst this
  rw [a2] at c2; cases c2
  subst a3 c3
  rw [a5] at c5; cases c5
  rw [a6] at c6; cases c6
  exact ⟨rfl, rfl⟩

theorem EntA.place (hp : PlanOk P nt ops masks wr plan) {p1 p2 q1 q2 : List DOp} {d d' : DOp} {f : Pos} {b b' : Blk} (h : plan = p1 ++ d :: p2) (h' : plan = q1 ++ d' :: q2) (he : EntA call base st0 p1 d f b) (he' : EntA call base st0 q1 d' f b') :
    p1 = q1 ∧ d = d' ∧ p2 = q2 := by
  obtain ⟨st, v, h1, q, a1, a2, a3, _⟩ := he
  obtain ⟨st2, v2, h2, q', c1, c2, c3, _⟩ := he'
  have hq : q = q' := addPos_inj (a3.symm.trans c3)
  have k1 := (hp.fact p1 d p2 h).kind
  have k2 := (hp.fact q1 d' q2 h').kind
  rw [a2] at k1
  rw [c2] at k2
  have e1 : q = countA p1 := k1.2
  have e2 : q' = countA q1 := k2.2
  rcases split_cmp (h.symm.trans h') with h1 | ⟨r, h1, h2⟩ | ⟨r, h1, h2⟩
  · exact h1
  · exfalso
    rw [h1, countA_append] at e2
    simp [countA, a2] at e2
    omega
  · exfalso
    rw [h1, countA_append] at e1
    simp [countA, c2] at e1
    omega

theorem EntA.lt (hp : PlanOk P nt ops masks wr plan) {p1 p2 : List DOp} {d : DOp} {f : Pos} {b : Blk} (h : plan = p1 ++ d :: p2) (he : EntA call base st0 p1 d f b) : f.toN < base.toN + countA plan := by
  obtain ⟨st, v, h1, q, a1, a2, a3, _⟩ := he
  have k1 := (hp.fact p1 d p2 h).kind
  rw [a2] at k1
  have e1 : q = countA p1 := k1.2
  rw [a3, addPos_toN, e1, h, countA_append]
  simp [countA, a2]

/-- a block noted is one made -/
theorem ab_spec (hab : st0.ab = .nil) : ∀ (r p : List DOp) (st : DSt), p = r.reverse → At call base st0 p st → ∀ f b, T.get f st.ab = some b → ∃ p1 d p2, p = p1 ++ d :: p2 ∧ EntA call base st0 p1 d f b := by
  intro r
  induction r with
  | nil =>
    intro p st hp h f b hb
    simp at hp
    subst hp
    cases h
    rw [hab, T.get_nil] at hb; cases hb
  | cons d r ih =>
    intro p st hp h f b hb
    have hp' : p = r.reverse ++ [d] := by rw [hp]; simp
    rw [hp'] at h
    obtain ⟨st1, h1, h2⟩ := runD_split h
    obtain ⟨st2, h3, h4⟩ := runD_step h2
    cases h4
    have old : T.get f st1.ab = some b → ∃ p1 d' p2, p = p1 ++ d' :: p2 ∧ EntA call base st0 p1 d' f b := fun hb' => by
      obtain ⟨p1, d', p2, k1, k2⟩ := ih _ st1 rfl h1 f b hb'
      exact ⟨p1, d', p2 ++ [d], by rw [hp', k1]; simp, k2⟩
    cases stepD_inv h3 with
    | skip hw => exact old (by cases hk : d.kind <;> simpa [d_skip, hk] using hb)
    | pure v h' hw hk hr => exact old hb
    | load s c as h hs v h' hw hk hh hr hsame => exact old hb
    | wval v h' hw hk hr => exact old hb
    | wcall f args v h' hw hk hr hc => exact old hb
    | alloc q v h' b1 hw hk hr hb1 hn =>
      have hb : T.get f (T.set b1 (addPos base q) st1.ab) = some b := hb
      rw [T.get_set_if] at hb
      by_cases e : addPos base q = f
      · rw [if_pos e] at hb; cases hb
        subst e
        exact ⟨r.reverse, d, [], hp', st1, v, h', q, h1, hk, rfl, hw, hr, hb1, hn⟩
      · rw [if_neg e] at hb
        exact old hb

/-! ## Behind a frontier, without a write -/

section front
variable {Fr : List DOp} {stF : DSt}

/-- the blocks behind a frontier: those made since, and those that were there -/
theorem cur_spec (hF : At call base st0 Fr stF) : ∀ (r R1 : List DOp) (st : DSt), R1 = r.reverse → At call base st0 (Fr ++ R1) st → (∀ d ∈ R1, isWr d = false) →
    (∀ a d c f b, R1 = a ++ d :: c → EntA call base st0 (Fr ++ a) d f b → (∀ a' d' c' b', R1 = a' ++ d' :: c' → EntA call base st0 (Fr ++ a') d' f b' → a' = a ∧ d' = d) → st.cur.blk f = some b) ∧
    (∀ f, (∀ a d c b, R1 = a ++ d :: c → ¬ EntA call base st0 (Fr ++ a) d f b) → st.cur.blk f = stF.cur.blk f) := by
  intro r
  induction r with
  | nil =>
    intro R1 st hR h _
    simp at hR
    subst hR
    rw [List.append_nil] at h
    have := hF.det h
    subst this
    exact ⟨fun a d c f b he => by simp at he, fun f _ => rfl⟩
  | cons d r ih =>
    intro R1 st hR h hw
    have hR' : R1 = r.reverse ++ [d] := by rw [hR]; simp
    generalize hR0 : r.reverse = R0 at hR' ih
    rw [hR', ← List.append_assoc] at h
    obtain ⟨st1, h1, h2⟩ := runD_split h
    obtain ⟨st2, h3, h4⟩ := runD_step h2
    cases h4
    obtain ⟨i1, i2⟩ := ih R0 st1 rfl h1 (fun d' hd' => hw d' (by rw [hR']; simp [hd']))
    have hwd : isWr d = false := hw d (by rw [hR']; simp)
    -- what this step does to the blocks
    have hcur : (∃ f b, EntA call base st0 (Fr ++ R0) d f b ∧ st.cur.blk = Bl.upd st1.cur.blk f b) ∨ ((∀ f b, ¬ EntA call base st0 (Fr ++ R0) d f b) ∧ st.cur = st1.cur) := by
      cases stepD_inv h3 with
      | skip hws =>
        refine .inr ⟨fun f b ⟨s, v, h', q, a1, a2, a3, a4, _⟩ => ?_, ?_⟩
        · have := h1.symm.trans a1
          cases this
          rw [hws] at a4; cases a4
        · cases hk : d.kind with
          | write => rw [isWr_iff.2 hk] at hwd; cases hwd
          | pure => rfl
          | load s c as => rfl
          | alloc q => rfl
      | pure v h' hws hk hr => exact .inr ⟨(fun f b ⟨s, v, h', q, a1, a2, _⟩ => by rw [hk] at a2; cases a2), rfl⟩
      | load s c as h hs v h' hws hk hh hr hsame => exact .inr ⟨(fun f b ⟨s, v, h', q, a1, a2, _⟩ => by rw [hk] at a2; cases a2), rfl⟩
      | wval v h' hws hk hr => rw [isWr_iff.2 hk] at hwd; cases hwd
      | wcall f args v h' hws hk hr hc => rw [isWr_iff.2 hk] at hwd; cases hwd
      | alloc q v h' b1 hws hk hr hb1 hn =>
        exact .inl ⟨addPos base q, b1, ⟨st1, v, h', q, h1, hk, rfl, hws, hr, hb1, hn⟩, H.blk_put _ _ _⟩
    refine ⟨fun a d' c f b he hent hun => ?_, fun f hno => ?_⟩
    · rcases snoc_split (hR' ▸ he : R0 ++ [d] = a ++ d' :: c) with ⟨rfl, rfl, rfl⟩ | ⟨c', rfl, hR0'⟩
      · rcases hcur with ⟨f1, b1, e1, e2⟩ | ⟨e1, _⟩
        · obtain ⟨rfl, rfl⟩ := e1.det hent
          rw [e2, Bl.upd_same]
        · exact absurd hent (e1 f b)
      · have hold := i1 a d' c' f b hR0' hent fun a2 d2 c2 b2 he2 hent2 => hun a2 d2 (c2 ++ [d]) b2 (by rw [hR', he2]; simp) hent2
        rcases hcur with ⟨f1, b1, e1, e2⟩ | ⟨_, e2⟩
        · rw [e2, Bl.upd_ne _ _ ?_]
          · exact hold
          · intro e
            subst e
            have := hun R0 d [] b1 hR' e1
            have h1 := congrArg List.length this.1
            rw [hR0'] at h1
            simp at h1
        · rw [e2]; exact hold
    · have hold := i2 f fun a d' c b he => hno a d' (c ++ [d]) b (by rw [hR', he]; simp)
      rcases hcur with ⟨f1, b1, e1, e2⟩ | ⟨_, e2⟩
      · rw [e2, Bl.upd_ne _ _ ?_]
        · exact hold
        · intro e
          subst e
          exact hno R0 d [] b1 hR' e1
      · rw [e2]; exact hold
end front
end
end Go.Ev


namespace Go.Ev
variable {P : Program}

section
variable {call : CallF} {base : Pos} {nt b0 : Nat} {ops : Array Oper} {masks wr : T Nat} {plan : List DOp} {st0 stE : DSt} {j0 : Inj} {bl0 : Bl} {w0 : World}

/-- The state of a region that draws, when just the operations of X have been executed. Fr: all up to the last write that has been; R: the rest. -/
structure Inv (P : Program) (call : CallF) (base : Pos) (nt b0 : Nat) (ops : Array Oper) (plan : List DOp) (st0 stE : DSt) (j0 : Inj) (bl0 : Bl) (w0 : World) (X : Nat → Prop) (Fr R : List DOp) (stF : DSt) (a : Act) (w : World) (j : Inj) (bl : Bl) (tmX : Tm) : Prop where
  split : plan = Fr ++ R
  at_ : At call base st0 Fr stF
  front : Fr = [] ∨ ∃ F' d, Fr = F' ++ [d] ∧ isWr d = true
  doneF : ∀ d ∈ Fr, X d.ix
  wr : ∀ d ∈ R, X d.ix → isWr d = false
  closed : ∀ (i : Nat) (o : Oper), X i → ops[i]? = some o → ∀ e ∈ o.after, Region.binds .any e = true → X e.on
  range : ∀ i, X i → i < ops.size
  tm : TmR j nt tmX a.tmps
  tx1 : ∀ p d, d ∈ plan → X d.ix → d.c.dst = some p → T.get p tmX = T.get p stE.tm
  tx2 : ∀ p, (∀ d ∈ plan, X d.ix → d.c.dst ≠ some p) → T.get p tmX = T.get p st0.tm
  rb : RB P j bl stF.cur.next.toN w
  ent : ∀ R1 d R2 f b, R = R1 ++ d :: R2 → X d.ix → EntA call base st0 (Fr ++ R1) d f b → bl f = some b
  rest : ∀ f, (∀ R1 d R2 b, R = R1 ++ d :: R2 → X d.ix → ¬ EntA call base st0 (Fr ++ R1) d f b) → bl f = stF.cur.blk f
  free : ∀ R1 d R2 f b, R = R1 ++ d :: R2 → ¬ X d.ix → EntA call base st0 (Fr ++ R1) d f b → j f = none
  ext : Ext j0 bl0 w0 j bl w
  df : Df b0 j bl a.defers w
  sz : b0 ≤ w.heap.size
  next : st0.cur.next.toN ≤ stF.cur.next.toN

section inv
variable {X : Nat → Prop} {Fr R : List DOp} {stF : DSt} {a : Act} {w : World} {j : Inj} {bl : Bl} {tmX : Tm}

theorem Inv.headF (hrun : runD call base plan st0 = some stE) (h0 : st0.hist = [st0.cur]) (I : Inv P call base nt b0 ops plan st0 stE j0 bl0 w0 X Fr R stF a w j bl tmX) : ∃ hs, stF.hist = stF.cur :: hs := by
  rcases I.front with hf | ⟨F', d, hf, hw⟩
  · have h := I.at_
    rw [hf] at h
    cases h
    exact ⟨[], h0⟩
  · obtain ⟨st, st', h1, h2, h3⟩ := At.step (p := F') (d := d) (r := R) hrun (by rw [I.split, hf]; simp)
    have h := I.at_
    rw [hf] at h
    have := h.det h3
    subst this
    exact ⟨_, (stepD_inv h2).hist.1 hw⟩

/-- a block to come is not there yet -/
theorem Inv.fresh (hrun : runD call base plan st0 = some stE) (h0 : st0.hist = [st0.cur]) (I : Inv P call base nt b0 ops plan st0 stE j0 bl0 w0 X Fr R stF a w j bl tmX) {R1 R2 : List DOp} {d : DOp} {f : Pos} {b : Blk} (_ : R = R1 ++ d :: R2)
    (he : EntA call base st0 (Fr ++ R1) d f b) : stF.cur.blk f = none := by
  obtain ⟨st, v, h1, q, a1, a2, a3, a4, a5, a6, a7⟩ := he
  obtain ⟨hs, hh⟩ := I.headF hrun h0
  have hst : runD call base R1 stF = some st := by rw [← runD_join I.at_]; exact a1
  obtain ⟨k, k1, _⟩ := hist_len R1 hst
  refine noneAll_spec a7 stF.cur ?_
  rw [k1, hh]; simp

theorem Inv.closure (hp : PlanOk P nt ops masks wr plan) (I : Inv P call base nt b0 ops plan st0 stE j0 bl0 w0 X Fr R stF a w j bl tmX) : ∀ (i : Nat) (o : Oper), ops[i]? = some o → (∀ e ∈ o.after, Region.binds .any e = true → X e.on) → ∀ w, bit (mkAt masks i) w = true → X w := by
  intro i
  induction i using Nat.strongRecOn with
  | _ i ih =>
    intro o ho he w hw
    obtain ⟨e, h1, h2, h3⟩ := (hp.mask i o ho).2 w hw
    have hX := he e h1 h2
    rcases h3 with rfl | ⟨h4, h5⟩
    · exact hX
    · have hlt := I.range _ hX
      exact ih e.on h4 ops[e.on] (Array.getElem?_eq_getElem hlt) (I.closed e.on _ hX (Array.getElem?_eq_getElem hlt)) w h5

/-- what a ready operation reads is what it reads at its place in the canonical order -/
theorem Inv.agree (hp : PlanOk P nt ops masks wr plan) (hrun : runD call base plan st0 = some stE) (I : Inv P call base nt b0 ops plan st0 stE j0 bl0 w0 X Fr R stF a w j bl tmX) {p1 p2 : List DOp} {d : DOp} (hsp : plan = p1 ++ d :: p2) {st : DSt} (hat : At call base st0 p1 st)
    (hX : ¬ X d.ix) (hanc : ∀ w, bit (mkAt masks d.ix) w = true → X w) {p : Pos} (hpair : ∀ w, T.get p wr = some w → PairFact masks d.ix w) : T.get p tmX = T.get p st.tm := by
  by_cases hex : ∃ d0, d0 ∈ plan ∧ d0.c.dst = some p
  · obtain ⟨d0, hd0, hdst⟩ := hex
    have hw0 := hp.writer hd0 hdst
    obtain ⟨hne, hord⟩ := hpair _ hw0
    rcases hord with hord | hord
    · -- it is written ahead
      have hX0 := hanc _ hord
      obtain ⟨d1, hd1, e1⟩ := (hp.fact p1 d p2 hsp).anc _ hord
      have : d1 = d0 := hp.eq_of_ix (by rw [hsp]; simp [hd1]) hd0 e1
      subst this
      rw [I.tx1 p d1 hd0 hX0 hdst]
      exact (At.tmE hp hrun (r := d :: p2) hsp hat hd1 hdst).symm
    · -- it is written later
      have hno : ∀ d1, d1 ∈ plan → d1.c.dst = some p → d1 = d0 := fun d1 h1 h2 => by
        have := hp.writer h1 h2
        rw [hw0] at this
        exact hp.eq_of_ix h1 hd0 (Option.some.inj this).symm
      have hX0 : ¬ X d0.ix := fun hX0 => by
        obtain ⟨o, ho, _⟩ := hp.op d0 hd0
        exact hX (I.closure hp d0.ix o ho (I.closed _ _ hX0 ho) _ hord)
      rw [I.tx2 p fun d1 h1 h2 h3 => by rw [hno d1 h1 h3] at h2; exact hX0 h2]
      refine (hat.tm0 fun d1 h1 h2 => ?_).symm
      have he := hno d1 (by rw [hsp]; simp [h1]) h2
      subst he
      obtain ⟨a1, c1, hac⟩ := List.append_of_mem h1
      have hsp' : plan = a1 ++ d1 :: (c1 ++ d :: p2) := by rw [hsp, hac]; simp
      obtain ⟨d2, hd2, e2⟩ := (hp.fact a1 d1 _ hsp').anc _ hord
      exact (hp.fact p1 d p2 hsp).new d2 (by rw [hac]; simp [hd2]) e2
  · rw [I.tx2 p fun d1 h1 _ h3 => hex ⟨d1, h1, h3⟩]
    exact (hat.tm0 fun d1 h1 h2 => hex ⟨d1, by rw [hsp]; simp [h1], h2⟩).symm

/-- the frontier's blocks are there -/
theorem Inv.subF (hrun : runD call base plan st0 = some stE) (h0 : st0.hist = [st0.cur]) (I : Inv P call base nt b0 ops plan st0 stE j0 bl0 w0 X Fr R stF a w j bl tmX) : ∀ f b, stF.cur.blk f = some b → bl f = some b := fun f b hb => by
  rw [I.rest f fun R1 d R2 b' he _ hent => by rw [I.fresh hrun h0 he hent] at hb; cases hb]
  exact hb

/-- an operation that is no write has been executed -/
theorem Inv.step (hp : PlanOk P nt ops masks wr plan) (hrun : runD call base plan st0 = some stE) (h0 : st0.hist = [st0.cur]) (I : Inv P call base nt b0 ops plan st0 stE j0 bl0 w0 X Fr R stF a w j bl tmX) {R1 R2 : List DOp} {d : DOp} (hR : R = R1 ++ d :: R2) (hwd : isWr d = false) (hX : ¬ X d.ix)
    (hedge : ∀ o, ops[d.ix]? = some o → ∀ e ∈ o.after, Region.binds .any e = true → X e.on) {a' : Act} {w' : World} {j' : Inj} {bl' : Bl} {v : AV} (htm : TmR j' nt (setDst d.c.dst v tmX) a'.tmps) (hdef : a'.defers = a.defers)
    (hv : ∀ p, d.c.dst = some p → T.get p stE.tm = some v) (hrb : RB P j' bl' stF.cur.next.toN w') (hx : Ext j bl w j' bl' w')
    (hbl : (bl' = bl ∧ ∀ f b, ¬ EntA call base st0 (Fr ++ R1) d f b) ∨ ∃ f b, EntA call base st0 (Fr ++ R1) d f b ∧ bl' = Bl.upd bl f b) :
    Inv P call base nt b0 ops plan st0 stE j0 bl0 w0 (fun i => X i ∨ i = d.ix) Fr R stF a' w' j' bl' (setDst d.c.dst v tmX) := by
  have hd : d ∈ plan := by rw [I.split, hR]; simp
  have hsp : plan = (Fr ++ R1) ++ d :: R2 := by rw [I.split, hR]; simp
  have spl : ∀ {a1 c1 : List DOp} {d1 : DOp}, R = a1 ++ d1 :: c1 → plan = (Fr ++ a1) ++ d1 :: c1 := fun he => by rw [I.split, he]; simp
  have other : ∀ {a1 c1 : List DOp} {d1 : DOp} {f : Pos} {b b1 : Blk}, R = a1 ++ d1 :: c1 → d1.ix ≠ d.ix → EntA call base st0 (Fr ++ a1) d1 f b1 → EntA call base st0 (Fr ++ R1) d f b → False := fun he hne h1 h2 => by
    have := EntA.place hp (spl he) hsp h1 h2
    exact hne (by rw [this.2.1])
  have same : ∀ {a1 c1 : List DOp} {d1 : DOp}, R = a1 ++ d1 :: c1 → d1.ix = d.ix → a1 = R1 ∧ d1 = d := fun he e => by
    have := hp.same (spl he) hsp e
    exact ⟨List.append_cancel_left this.1, this.2.1⟩
  refine ⟨I.split, I.at_, I.front, fun d' hd' => .inl (I.doneF d' hd'), fun d' hd' hX' => ?_, fun i o hi ho e he hb => ?_, fun i hi => ?_, htm, fun p d' hd' hX' hdst => ?_, fun p hno => ?_, hrb, fun a1 d1 c1 f b he hX' hent => ?_, fun f hno => ?_, fun a1 d1 c1 f b he hX' hent => ?_, I.ext.trans hx, by rw [hdef]; exact I.df.ext hx, Nat.le_trans I.sz hx.size, I.next⟩
  · rcases hX' with h | h
    · exact I.wr d' hd' h
    · have := hp.eq_of_ix (by rw [I.split]; simp [hd']) hd h
      rw [this]; exact hwd
  · rcases hi with hi | rfl
    · exact .inl (I.closed i o hi ho e he hb)
    · exact .inl (hedge o ho e he hb)
  · rcases hi with hi | rfl
    · exact I.range i hi
    · exact (hp.fact _ d _ hsp).lt
  · by_cases hdd : d.c.dst = some p
    · rw [hdd]
      show T.get p (T.set v p tmX) = _
      rw [T.get_set, hv p hdd]
    · rw [setDst_get hdd]
      rcases hX' with h | h
      · exact I.tx1 p d' hd' h hdst
      · have := hp.eq_of_ix hd' hd h
        subst this
        exact absurd hdst hdd
  · rw [setDst_get (hno d hd (.inr rfl))]
    exact I.tx2 p fun d' hd' hX' => hno d' hd' (.inl hX')
  · by_cases e : d1.ix = d.ix
    · obtain ⟨rfl, rfl⟩ := same he e
      rcases hbl with ⟨_, hn⟩ | ⟨f1, b1, h1, rfl⟩
      · exact absurd hent (hn f b)
      · obtain ⟨rfl, rfl⟩ := h1.det hent
        exact Bl.upd_same _ _ _
    · have hX1 : X d1.ix := hX'.resolve_right e
      have hold := I.ent a1 d1 c1 f b he hX1 hent
      rcases hbl with ⟨rfl, _⟩ | ⟨f1, b1, h1, rfl⟩
      · exact hold
      · rw [Bl.upd_ne _ _ fun e' => by subst e'; exact other he e hent h1]
        exact hold
  · have hold := I.rest f fun a1 d1 c1 b he hX1 => hno a1 d1 c1 b he (.inl hX1)
    rcases hbl with ⟨rfl, _⟩ | ⟨f1, b1, h1, rfl⟩
    · exact hold
    · rw [Bl.upd_ne _ _ fun e' => by subst e'; exact hno R1 d R2 b1 hR (.inr rfl) h1]
      exact hold
  · have hX1 : ¬ X d1.ix := fun h => hX' (.inl h)
    have hne : d1.ix ≠ d.ix := fun h => hX' (.inr h)
    refine hx.dom f (I.free a1 d1 c1 f b he hX1 hent) ?_
    have hold : bl f = none := by
      rw [I.rest f fun a2 d2 c2 b2 he2 hX2 hent2 => by
        have := EntA.place hp (spl he2) (spl he) hent2 hent
        rw [this.2.1] at hX2
        exact hX1 hX2]
      exact I.fresh hrun h0 he hent
    rcases hbl with ⟨rfl, _⟩ | ⟨f1, b1, h1, rfl⟩
    · exact hold
    · rw [Bl.upd_ne _ _ fun e' => by subst e'; exact other he hne hent h1]
      exact hold
end inv
end
end Go.Ev


namespace Go.Ev
variable {P : Program}

section
variable {call : CallF} {base : Pos} {nt b0 : Nat} {ops : Array Oper} {masks wr : T Nat} {plan : List DOp} {st0 stE : DSt} {j0 : Inj} {bl0 : Bl} {w0 : World}
variable {X : Nat → Prop} {Fr R : List DOp} {stF : DSt} {a : Act} {w : World} {j : Inj} {bl : Bl} {tmX : Tm}

theorem Inv.spl (I : Inv P call base nt b0 ops plan st0 stE j0 bl0 w0 X Fr R stF a w j bl tmX) {a1 c1 : List DOp} {d1 : DOp} (he : R = a1 ++ d1 :: c1) : plan = (Fr ++ a1) ++ d1 :: c1 := by rw [I.split, he]; simp

/-- behind the frontier, what has been made is there -/
theorem Inv.subR (hp : PlanOk P nt ops masks wr plan) (hrun : runD call base plan st0 = some stE) (h0 : st0.hist = [st0.cur]) (I : Inv P call base nt b0 ops plan st0 stE j0 bl0 w0 X Fr R stF a w j bl tmX) {R1 R2 : List DOp} (hR : R = R1 ++ R2) (hall : ∀ d ∈ R1, X d.ix)
    {st : DSt} (hat : At call base st0 (Fr ++ R1) st) : (∀ f b, st.cur.blk f = some b → bl f = some b) ∧ st.cur.next = stF.cur.next ∧ (∀ a1 d1 c1 f b, R1 = a1 ++ d1 :: c1 → EntA call base st0 (Fr ++ a1) d1 f b → st.cur.blk f = some b) ∧
      (∀ f, (∀ a1 d1 c1 b, R1 = a1 ++ d1 :: c1 → ¬ EntA call base st0 (Fr ++ a1) d1 f b) → st.cur.blk f = stF.cur.blk f) := by
  have hw : ∀ d ∈ R1, isWr d = false := fun d hd => I.wr d (by rw [hR]; simp [hd]) (hall d hd)
  obtain ⟨c1, c2⟩ := cur_spec I.at_ R1.reverse R1 st (by simp) hat hw
  have spl1 : ∀ {a1 c1 : List DOp} {d1 : DOp}, R1 = a1 ++ d1 :: c1 → plan = (Fr ++ a1) ++ d1 :: (c1 ++ R2) := fun he => by rw [I.split, hR, he]; simp
  have hent : ∀ a1 d1 c1 f b, R1 = a1 ++ d1 :: c1 → EntA call base st0 (Fr ++ a1) d1 f b → st.cur.blk f = some b := fun a1 d1 cc f b he h1 => by
    refine c1 a1 d1 cc f b he h1 fun a2 d2 c2 b2 he2 h2 => ?_
    have := EntA.place hp (spl1 he2) (spl1 he) h2 h1
    exact ⟨List.append_cancel_left this.1, this.2.1⟩
  refine ⟨fun f b hb => ?_, ?_, hent, c2⟩
  · by_cases hex : ∃ a1 d1 cc b1, R1 = a1 ++ d1 :: cc ∧ EntA call base st0 (Fr ++ a1) d1 f b1
    · obtain ⟨a1, d1, cc, b1, he, h1⟩ := hex
      have := hent a1 d1 cc f b1 he h1
      rw [hb] at this
      cases this
      exact I.ent a1 d1 (cc ++ R2) f b (by rw [hR, he]; simp) (hall d1 (by rw [he]; simp)) h1
    · rw [c2 f fun a1 d1 cc b1 he h1 => hex ⟨a1, d1, cc, b1, he, h1⟩] at hb
      exact I.subF hrun h0 f b hb
  · have hst : runD call base R1 stF = some st := by rw [← runD_join I.at_]; exact hat
    exact next_keep R1 hst hw

/-- a write has been executed -/
theorem Inv.write (hp : PlanOk P nt ops masks wr plan) (hrun : runD call base plan st0 = some stE) (h0 : st0.hist = [st0.cur]) (I : Inv P call base nt b0 ops plan st0 stE j0 bl0 w0 X Fr R stF a w j bl tmX) {R1 R2 : List DOp} {d : DOp} (hR : R = R1 ++ d :: R2) (hwd : isWr d = true)
    (hall : ∀ d' ∈ R1, X d'.ix) (hedge : ∀ o, ops[d.ix]? = some o → ∀ e ∈ o.after, Region.binds .any e = true → X e.on) {st st' : DSt} (hat : At call base st0 (Fr ++ R1) st) (hat' : At call base st0 (Fr ++ R1 ++ [d]) st') (hX : ¬ X d.ix)
    {a' : Act} {w' : World} {j' : Inj} {v : AV} (htm : TmR j' nt (setDst d.c.dst v tmX) a'.tmps) (hdef : a'.defers = a.defers) (hv : ∀ p, d.c.dst = some p → T.get p stE.tm = some v)
    (hrb : RB P j' (Bl.over st'.cur.blk bl) st'.cur.next.toN w') (hx : Ext j bl w j' (Bl.over st'.cur.blk bl) w') (hmono : ∀ f, st'.cur.blk f = none → st.cur.blk f = none) (hnext : st.cur.next.toN ≤ st'.cur.next.toN) :
    Inv P call base nt b0 ops plan st0 stE j0 bl0 w0 (fun i => X i ∨ i = d.ix) (Fr ++ R1 ++ [d]) R2 st' a' w' j' (Bl.over st'.cur.blk bl) (setDst d.c.dst v tmX) := by
  have hd : d ∈ plan := by rw [I.split, hR]; simp
  have hsp : plan = (Fr ++ R1) ++ d :: R2 := I.spl hR
  have hsp' : plan = (Fr ++ R1 ++ [d]) ++ R2 := by rw [hsp]; simp
  obtain ⟨s1, s2, s3, s4⟩ := I.subR hp hrun h0 hR hall hat
  obtain ⟨st1, st2, k1, k2, k3⟩ := At.step hrun hsp
  have e1 := k1.det hat
  have e2 := k3.det hat'
  subst e1 e2
  -- the frontier moves
  have spl2 : ∀ {a1 c1 : List DOp} {d1 : DOp}, R2 = a1 ++ d1 :: c1 → R = (R1 ++ d :: a1) ++ d1 :: c1 := fun he => by rw [hR, he]; simp
  have pre2 : ∀ (a1 : List DOp), (Fr ++ R1 ++ [d]) ++ a1 = Fr ++ (R1 ++ d :: a1) := fun a1 => by simp
  have fresh2 : ∀ {a1 c1 : List DOp} {d1 : DOp} {f : Pos} {b : Blk}, R2 = a1 ++ d1 :: c1 → EntA call base st0 (Fr ++ R1 ++ [d] ++ a1) d1 f b → st2.cur.blk f = none := fun {a1 c1 d1 f b} _ hent => by
    obtain ⟨st, v, h1, q, a1', a2, a3, a4, a5, a6, a7⟩ := hent
    have hst : runD call base a1 st2 = some st := by rw [← runD_join k3]; exact a1'
    obtain ⟨k, q1, _⟩ := hist_len a1 hst
    refine noneAll_spec a7 st2.cur ?_
    rw [q1, (stepD_inv k2).hist.1 hwd]; simp
  have restF : ∀ f, (∀ a1 d1 c1 b, R2 = a1 ++ d1 :: c1 → X d1.ix → ¬ EntA call base st0 (Fr ++ R1 ++ [d] ++ a1) d1 f b) → st2.cur.blk f = none → bl f = none := fun f hno hf => by
    have hf1 := hmono f hf
    rw [I.rest f fun a1 d1 c1 b he hX1 hent => ?_]
    · rw [← s4 f fun a1 d1 c1 b he hent => ?_]
      · exact hf1
      · rw [s3 a1 d1 c1 f b he hent] at hf1; cases hf1
    · rcases split_cmp (hR.symm.trans he) with ⟨_, h2, _⟩ | ⟨r, h1, h2⟩ | ⟨r, h1, h2⟩
      · subst h2; exact hX hX1
      · exact hno r d1 c1 b h2 hX1 (by rw [pre2, ← h1]; exact hent)
      · rw [s3 a1 d1 r f b h1 hent] at hf1; cases hf1
  refine ⟨hsp', k3, .inr ⟨Fr ++ R1, d, rfl, hwd⟩, fun d' hd' => ?_, fun d' hd' hX' => ?_, fun i o hi ho e he hb => ?_, fun i hi => ?_, htm, fun p d' hd' hX' hdst => ?_, fun p hno => ?_, hrb, fun a1 d1 c1 f b he hX' hent => ?_, fun f hno => ?_, fun a1 d1 c1 f b he hX' hent => ?_, I.ext.trans hx, by rw [hdef]; exact I.df.ext hx, Nat.le_trans I.sz hx.size, ?_⟩
  · simp only [List.mem_append, List.mem_singleton] at hd'
    rcases hd' with (h | h) | rfl
    · exact .inl (I.doneF d' h)
    · exact .inl (hall d' h)
    · exact .inr rfl
  · rcases hX' with h | h
    · exact I.wr d' (by rw [hR]; simp [hd']) h
    · exfalso
      obtain ⟨r1, r2, hr⟩ := List.append_of_mem hd'
      exact (hp.fact ((Fr ++ R1 ++ [d]) ++ r1) d' r2 (by rw [hsp', hr]; simp)).new d (by simp) h.symm
  · rcases hi with hi | rfl
    · exact .inl (I.closed i o hi ho e he hb)
    · exact .inl (hedge o ho e he hb)
  · rcases hi with hi | rfl
    · exact I.range i hi
    · exact (hp.fact _ d _ hsp).lt
  · by_cases hdd : d.c.dst = some p
    · rw [hdd]
      show T.get p (T.set v p tmX) = _
      rw [T.get_set, hv p hdd]
    · rw [setDst_get hdd]
      rcases hX' with h | h
      · exact I.tx1 p d' hd' h hdst
      · have := hp.eq_of_ix hd' hd h
        subst this
        exact absurd hdst hdd
  · rw [setDst_get (hno d hd (.inr rfl))]
    exact I.tx2 p fun d' hd' hX' => hno d' hd' (.inl hX')
  · have hne : d1.ix ≠ d.ix := fun e => (hp.fact ((Fr ++ R1 ++ [d]) ++ a1) d1 c1 (by rw [hsp', he]; simp)).new d (by simp) e.symm
    rw [Bl.over_none (fresh2 he hent)]
    exact I.ent (R1 ++ d :: a1) d1 c1 f b (spl2 he) (hX'.resolve_right hne) (by rw [← pre2]; exact hent)
  · cases hf : st2.cur.blk f with
    | some b => exact Bl.over_some hf
    | none =>
      rw [Bl.over_none hf]
      exact restF f (fun a1 d1 c1 b he hX1 => hno a1 d1 c1 b he (.inl hX1)) hf
  · have hX1 : ¬ X d1.ix := fun h => hX' (.inl h)
    refine hx.dom f (I.free (R1 ++ d :: a1) d1 c1 f b (spl2 he) hX1 (by rw [← pre2]; exact hent)) ?_
    rw [Bl.over_none (fresh2 he hent)]
    refine restF f (fun a2 d2 c2 b2 he2 hX2 hent2 => ?_) (fresh2 he hent)
    have := EntA.place hp (p1 := Fr ++ R1 ++ [d] ++ a2) (p2 := c2) (q1 := Fr ++ R1 ++ [d] ++ a1) (q2 := c1) (by rw [hsp', he2]; simp) (by rw [hsp', he]; simp) hent2 hent
    rw [this.2.1] at hX2
    exact hX1 hX2
  · have h1 := I.next
    rw [s2] at hnext
    omega
end
end Go.Ev


namespace Go.Ev
variable {P : Program}

section
variable {F : Fence} {n n' N nt : Nat} {call : CallF} {j : Inj} {tm : Tm} {h h' : H} {a : Act} {w : World} {o : Oper} {v : AV} {next : Act → World → Prop} {Q : Exit → Act → World → Prop}

theorem val_wp (hF : Fw F) (hT : TmR j nt tm a.tmps) (hR : RB P j h.blk n w) (hf : j h.next = none) (hN : n ≤ N) (hrun : (co P o).run tm h = .val v h') (hN' : h'.next.toN ≤ N)
    (hnext : ∀ j' cv w', VR j' v cv → RB P j' h'.blk N w' → Ext j h.blk w j' h'.blk w' → next (a.put o.dst cv) w') : o.wpIn F n' P a w next Q := by
  refine ⟨fun f _ => hF.fn f, ?_⟩
  have hnd : ∀ c, o.op ≠ .defer c := fun c hc => by rw [co_defer hc] at hrun; exact bad_val hrun
  obtain ⟨cv, w1, nx, g1, g2, j1, g3, g4, g5⟩ := op_val hT hR hf hN hrun hN'
  rw [Oper.semAt_eq _ _ _ hnd, g1]
  rcases g2 with rfl | ⟨rfl, rfl⟩
  · exact hnext j1 cv w1 g3 g4 g5
  · exact hnext j1 undef w1 g3 g4 g5

theorem call_wp (hF : Fw F) (hcall : CallsOk P call) (hT : TmR j nt tm a.tmps) (hR : RB P j h.blk h.next.toN w) {f : Callee} {args : List AV} (hrun : (co P o).run tm h = .call f args) (hc : call f args h = .ok v h')
    (hnext : ∀ j' cv w', h.next.toN ≤ h'.next.toN → VR j' v cv → RB P j' h'.blk h'.next.toN w' → Ext j h.blk w j' h'.blk w' → next (a.put o.dst cv) w') : o.wpIn F n' P a w next Q := by
  refine ⟨fun f _ => hF.fn f, ?_⟩
  have hnd : ∀ c, o.op ≠ .defer c := fun c hc => by
    rw [co_defer hc] at hrun
    cases (show Out.fail = .call f args from hrun)
  rw [Oper.semAt_eq _ _ _ hnd]
  have hat := op_call (w := w) hT hrun
  have hsound := hcall f args h v h' hc w j hR
  have hpost : ∀ en w1, RetPost P j h w v h' en w1 → ∃ cv, en = .returned cv ∧ next (a.put o.dst cv) w1 := fun en w1 ⟨hmono, cv, e1, j1, g3, g4, g5⟩ => ⟨cv, e1, hnext j1 cv w1 hmono g3 g4 g5⟩
  cases f with
  | fn f =>
    obtain ⟨vs, q1, q2⟩ := hat
    obtain ⟨q3, q4⟩ := hsound vs q2
    rw [q1, q3, Oper.uponIn_enter]
    refine ⟨hF.need n', CallsIn.mono (hF.calls (q4 _)) fun en w1 hp => ?_⟩
    obtain ⟨cv, rfl, hn⟩ := hpost en w1 hp
    exact hn
  | yld l =>
    obtain ⟨lc, vs, q0, q1, q2⟩ := hat
    obtain ⟨f, tmps, asg, body, q3, q4⟩ := hsound lc vs q0 q2
    rw [q1, q3, Oper.uponIn_round]
    refine ⟨hF.need n', RoundIn.mono (hF.rounds (q4 _)) fun en w1 hp => ?_⟩
    obtain ⟨cv, rfl, hn⟩ := hpost en w1 hp
    exact hn

theorem put_tm {d : Option Tmp} (hd : dstOk nt d = true) {j' : Inj} (hT : TmR j nt tm a.tmps) (hle : j.le j') {cv : Value} (hv : VR j' v cv) : TmR j' nt (setDst (d.map Pos.ofNat) v tm) (a.put d cv).tmps := by
  cases d with
  | none => exact hT.mono hle
  | some d => exact (hT.mono hle).put (Nat.le_of_ble_eq_true hd) hv
theorem put_defers (d : Option Tmp) (cv : Value) : (a.put d cv).defers = a.defers := by cases d <;> rfl
end

section
variable {F : Fence} {n : Nat} {call : CallF} {base : Pos} {nt b0 : Nat} {ops : Array Oper} {masks wr : T Nat} {plan : List DOp} {st0 stE : DSt} {j0 : Inj} {bl0 : Bl} {w0 : World} {Q : Exit → Act → World → Prop}
variable {X : Nat → Prop} {Fr R : List DOp} {stF : DSt} {a : Act} {w : World} {j : Inj} {bl : Bl} {tmX : Tm}

/-- **One operation that may be next is sound.** -/
theorem Inv.ready (hF : Fw F) (hcall : CallsOk P call) (hp : PlanOk P nt ops masks wr plan) (hrun : runD call base plan st0 = some stE) (h0 : st0.hist = [st0.cur]) (hab : st0.ab = .nil) (hbase : base.toN + countA plan ≤ st0.cur.next.toN)
    (I : Inv P call base nt b0 ops plan st0 stE j0 bl0 w0 X Fr R stF a w j bl tmX) {i : Nat} (hX : ¬ X i) {o : Oper} (ho : ops[i]? = some o) (hedge : ∀ e ∈ o.after, Region.binds .any e = true → X e.on) {K : Act → World → Prop}
    (hK : ∀ Fr' R' stF' a' w' j' bl' tm', Inv P call base nt b0 ops plan st0 stE j0 bl0 w0 (fun k => X k ∨ k = i) Fr' R' stF' a' w' j' bl' tm' → K a' w') : wpOpIn F n P ops Q i K a w := by
  have hlt := getElem?_lt ho
  obtain ⟨d, hd, rfl⟩ := hp.all i hlt
  have hdR : d ∈ R := by
    rw [I.split] at hd
    rcases List.mem_append.1 hd with h | h
    · exact absurd (I.doneF d h) hX
    · exact h
  obtain ⟨R1, R2, hR⟩ := List.append_of_mem hdR
  have hsp := I.spl hR
  obtain ⟨st, st', hat, hstep, hat'⟩ := At.step hrun hsp
  have fact := hp.fact _ d R2 hsp
  have hanc : ∀ w, bit (mkAt masks d.ix) w = true → X w := I.closure hp d.ix o ho hedge
  have hedge' : ∀ o', ops[d.ix]? = some o' → ∀ e ∈ o'.after, Region.binds .any e = true → X e.on := fun o' ho' => by rw [ho] at ho'; cases ho'; exact hedge
  obtain ⟨o', ho', hc⟩ := hp.op d hd
  rw [ho] at ho'; cases ho'
  have hguard : wantedA tmX d.c.guard = wantedA st.tm d.c.guard := by
    cases hg : d.c.guard with
    | none => rfl
    | some g => simp only [wantedA, I.agree hp hrun hsp hat hX hanc (fact.guard g hg)]
  have hreads : ∀ h, d.c.op.run tmX h = d.c.op.run st.tm h := fun h => reads_congr fun x hx => by
    cases x with
    | c v => rfl
    | t p => show orJunk (T.get p tmX) = orJunk (T.get p st.tm); rw [I.agree hp hrun hsp hat hX hanc (fact.reads p hx)]
  have hval : ∀ v, st'.tm = setDst d.c.dst v st.tm → ∀ p, d.c.dst = some p → T.get p stE.tm = some v := fun v hv p hdp => by
    rw [← At.tmE hp hrun (p := Fr ++ R1 ++ [d]) (r := R2) (by rw [hsp]; simp) hat' (d := d) (by simp) hdp, hv, hdp]
    exact T.get_set _ _ _
  rcases cOper_eq (P := P) (nt := nt) (ops := ops) o with ⟨hdst, hgo, he⟩ | he
  · rw [← hc] at he
    have e1 : d.c.dst = o.dst.map Pos.ofNat := by rw [he]
    have e2 : d.c.op = co P o := by rw [he]
    have e3 : d.c.guard = o.guard.map fun g => (((ops[g.1]?).bind (·.dst)).elim .h Pos.ofNat, g.2) := by rw [he]
    have hwant : ∀ b, wantedA st.tm d.c.guard = some b → Region.wanted o (yielded ops a.tmps) = b := fun b hb => by
      rw [← hguard, e3] at hb
      exact wanted_spec I.tm hgo hb
    unfold wpOpIn
    rw [ho]
    simp only
    have subF := I.subF hrun h0
    have hnF : stF.cur.next.toN ≤ stF.cur.next.toN := Nat.le_refl _
    have hjF : j stF.cur.next = none := I.rb.jnone (Nat.le_refl _)
    -- an operation that leaves the blocks as they are, run on some of them
    have keep : isWr d = false → (∀ f b, ¬ EntA call base st0 (Fr ++ R1) d f b) → ∀ (v : AV) (g : H), (∀ f b, g.blk f = some b → bl f = some b) → g.next = stF.cur.next → (co P o).run tmX g = .val v g → st'.tm = setDst d.c.dst v st.tm → o.wpIn F n P a w K Q := by
      intro hwd hno v g hsub hgn hrung htm
      refine val_wp (h := g) (N := stF.cur.next.toN) hF I.tm (I.rb.sub hsub (Nat.le_refl _)) (by rw [hgn]; exact hjF) (Nat.le_refl _) hrung (by rw [hgn]; exact Nat.le_refl _) fun j' cv w' g1 g2 g3 => ?_
      obtain ⟨f1, f2⟩ := I.rb.frame hsub g2 g3
      rw [Bl.over_sub hsub] at f1 f2
      exact hK _ _ _ _ _ _ _ _ (I.step hp hrun h0 hR hwd hX hedge' (v := v) (by rw [e1]; exact put_tm hdst I.tm f2.le g1) (put_defers _ _) (hval v htm) f1 f2 (.inl ⟨rfl, hno⟩))
    -- a write
    have wrote : isWr d = true → (∀ d' ∈ R1, X d'.ix) ∧ (∀ f b, st.cur.blk f = some b → bl f = some b) ∧ st.cur.next = stF.cur.next := fun hwd => by
      have hk := fact.kind
      rw [isWr_iff.1 hwd] at hk
      have hall : ∀ d' ∈ R1, X d'.ix := fun d' hd' => hanc _ (hk d' (by simp [hd']))
      obtain ⟨s1, s2, _, _⟩ := I.subR hp hrun h0 hR hall hat
      exact ⟨hall, s1, s2⟩
    cases stepD_inv hstep with
    | skip hw =>
      rw [hwant false hw]
      simp only [Bool.false_eq_true, if_false]
      refine ⟨fun f _ => hF.fn f, ?_⟩
      have htm : (d_skip d.c.dst st d.kind).tm = setDst d.c.dst (.tup []) st.tm := by cases d.kind <;> rfl
      cases hwd : isWr d with
      | false =>
        refine hK _ _ _ _ _ _ _ _ (I.step hp hrun h0 hR hwd hX hedge' (v := .tup []) (bl' := bl) (by rw [e1]; exact put_tm hdst I.tm (Inj.le_refl j) VRs.undef) (put_defers _ _) (hval _ htm) I.rb (Ext.refl _ _ _) (.inl ⟨rfl, fun f b ⟨s, v, h', q, a1, a2, a3, a4, _⟩ => ?_⟩))
        have := hat.det a1
        subst this
        rw [hw] at a4; cases a4
      | true =>
        obtain ⟨hall, s1, s2⟩ := wrote hwd
        have hcur : (d_skip d.c.dst st d.kind).cur = st.cur := by cases d.kind <;> rfl
        have hov : Bl.over (d_skip d.c.dst st d.kind).cur.blk bl = bl := by rw [hcur]; exact Bl.over_sub s1
        refine hK _ _ _ _ _ _ _ _ (I.write hp hrun h0 hR hwd hall hedge' hat hat' hX (v := .tup []) (w' := w) (j' := j) (by rw [e1]; exact put_tm hdst I.tm (Inj.le_refl j) VRs.undef) (put_defers _ _) (hval _ htm) (by rw [hov, hcur, s2]; exact I.rb) (by rw [hov]; exact Ext.refl _ _ _) (by rw [hcur]; exact fun f h => h) (by rw [hcur]; exact Nat.le_refl _))
    | pure v h' hw hk hr =>
      rw [hwant true hw]
      simp only [if_true]
      have hkind := fact.kind
      rw [hk] at hkind
      have hr2 := pure_run hkind hr stF.cur
      rw [← hreads, e2] at hr2
      exact keep (by simp [isWr, hk]) (fun f b ⟨s, v, h', q, a1, a2, _⟩ => by rw [hk] at a2; cases a2) v stF.cur subF rfl hr2 rfl
    | load s c as h1 hs v h' hw hk hh hr hsame =>
      rw [hwant true hw]
      simp only [if_true]
      have hkind := fact.kind
      rw [hk] at hkind
      obtain ⟨k1, k2, k3, k4, k5, k6⟩ := hkind
      -- the stage at which it is done
      obtain ⟨hsF, hhF⟩ := I.headF hrun h0
      have hst : runD call base R1 stF = some st := by rw [← runD_join I.at_]; exact hat
      obtain ⟨k, q1, q2⟩ := hist_len R1 hst
      have hsn : s = nWr Fr + nWr R1 := by rw [k2, nWr_append]
      have hm : nWr R1 < c := by
        rcases Nat.lt_or_ge (nWr R1) c with h | h
        · exact h
        · exfalso
          obtain ⟨p1, d', p2, w1, w2, w3⟩ := nWr_find R1 (nWr R1 - c) (by omega)
          have hb := k5 (Fr ++ p1) d' p2 (by rw [w1]; simp) w2 (by rw [nWr_append, w3, hsn]; omega)
          have := I.wr d' (by rw [hR, w1]; simp) (hanc _ hb)
          rw [w2] at this; cases this
      have hat1 : ∃ g', d.c.op.run st.tm (putAs base st.ab (s - nWr R1) stF.cur as) = .val v g' := by
        rw [q1, hhF] at hh
        cases hk0 : k with
        | nil =>
          rw [hk0] at hh q2
          simp at hh q2
          rw [← q2, Nat.sub_zero, hh.1]
          exact ⟨h', hr⟩
        | cons x k =>
          rw [hk0] at hh q2
          simp at hh q2
          obtain ⟨g, g', r1, r2⟩ := ldSame_spec (Nat.pred c) (Nat.pred s) hs hsame k.length (by simp [Nat.pred_eq_sub_one]; omega)
          rw [← hh.2] at r1
          simp at r1
          subst r1
          rw [show s - nWr R1 = Nat.pred s - k.length by simp [Nat.pred_eq_sub_one]; omega]
          exact ⟨g', r2⟩
      obtain ⟨g', hg'⟩ := hat1
      have hgg := load_run k1 hg'
      subst hgg
      obtain ⟨pn, ps⟩ := putAs_spec (base := base) (ab := st.ab) (k := s - nWr R1) as stF.cur
      rw [← hreads, e2] at hg'
      refine keep (by simp [isWr, hk]) (fun f b ⟨s, v, h', q, a1, a2, _⟩ => by rw [hk] at a2; cases a2) v _ (fun f b hb => ?_) pn hg' rfl
      rcases ps f b hb with h2 | ⟨x, x1, x2, x3, x4⟩
      · exact subF f b h2
      · obtain ⟨p1, d', p2, y1, y2, y3, y4⟩ := k6 x x1
        have hX' : X d'.ix := hanc _ y4
        obtain ⟨r1, d2, r2, z1, z2⟩ := ab_spec hab (Fr ++ R1).reverse (Fr ++ R1) st (by simp) hat f b x4
        -- it is the same operation
        have hpl : plan = p1 ++ d' :: (p2 ++ d :: R2) := by rw [hsp, y1]; simp
        have hpl2 : plan = r1 ++ d2 :: (r2 ++ d :: R2) := by rw [hsp, z1]; simp
        have hk1 := (hp.fact p1 d' _ hpl).kind
        rw [y2] at hk1
        obtain ⟨s2, v2, h2, qq, u1, u2, u3, _⟩ := id z2
        have hk2 := (hp.fact r1 d2 _ hpl2).kind
        rw [u2] at hk2
        have hq : qq = x.1 := addPos_inj (u3.symm.trans x3)
        have hsame2 : p1 = r1 ∧ d' = d2 := by
          have c1 : x.1 = countA p1 := hk1.2
          have c2 : qq = countA r1 := hk2.2
          rcases split_cmp (hpl.symm.trans hpl2) with ⟨h1, h2, _⟩ | ⟨r, h1, _⟩ | ⟨r, h1, _⟩
          · exact ⟨h1, h2⟩
          · exfalso
            rw [h1, countA_append] at c2
            simp [countA, y2] at c2
            omega
          · exfalso
            rw [h1, countA_append] at c1
            simp [countA, u2] at c1
            omega
        obtain ⟨rfl, rfl⟩ := hsame2
        -- it lies behind the frontier
        have hstage : nWr Fr ≤ nWr p1 := by rw [← y3]; omega
        have hin : ∃ a1, p1 = Fr ++ a1 ∧ R1 = a1 ++ d' :: p2 := by
          rcases List.append_eq_append_iff.1 y1 with ⟨a1, h1, h2⟩ | ⟨c1, h1, h2⟩
          · exact ⟨a1, h1, h2⟩
          · cases c1 with
            | nil => exact ⟨[], by simpa using h1.symm, by simpa using h2.symm⟩
            | cons y c1 =>
              simp at h2
              obtain ⟨rfl, h2⟩ := h2
              exfalso
              rcases I.front with hf | ⟨F', dw, hf, hww⟩
              · rw [hf] at h1; simp at h1
              · rcases List.eq_nil_or_concat c1 with rfl | ⟨c2, z, rfl⟩
                · have h3 : F' ++ [dw] = p1 ++ [d'] := hf.symm.trans h1
                  have h4 := List.append_inj' h3 rfl
                  simp at h4
                  rw [h4.2] at hww
                  rw [isWr_iff.1 hww] at y2; cases y2
                · have h3 : F' ++ [dw] = (p1 ++ d' :: c2) ++ [z] := by rw [← hf, h1]; simp
                  have h4 := List.append_inj' h3 rfl
                  simp at h4
                  have h6 : nWr (d' :: c2.concat z) = nWr (d' :: c2) + nWr [z] := by rw [← nWr_append]; simp
                  rw [h1, nWr_append, h6, nWr_one, ← h4.2, if_pos hww] at hstage
                  omega
        obtain ⟨a1, rfl, hR1⟩ := hin
        exact I.ent a1 d' (p2 ++ d :: R2) f b (by rw [hR, hR1]; simp) hX' z2
    | alloc q v h' b hw hk hr hb hn =>
      rw [hwant true hw]
      simp only [if_true]
      have hkind := fact.kind
      rw [hk] at hkind
      obtain ⟨k1, k2⟩ := hkind
      obtain ⟨b1, rfl⟩ := alloc_run k1 hr
      have hent : EntA call base st0 (Fr ++ R1) d (addPos base q) b := ⟨st, v, _, q, hat, hk, rfl, hw, hr, hb, hn⟩
      have hfree := I.free R1 d R2 _ _ hR hX hent
      have hblk : ((H.emp (addPos base q)).add b1).blk = Bl.upd (H.emp (addPos base q)).blk (addPos base q) b1 := H.blk_add _ _
      have hbb : b1 = b := by
        have : ((H.emp (addPos base q)).add b1).blk (addPos base q) = some b := hb
        rw [hblk, Bl.upd_same] at this
        exact Option.some.inj this
      subst hbb
      have hemp : ∀ f, (H.emp (addPos base q)).blk f = none := fun f => T.get_nil f
      have hsub : ∀ f b', (H.emp (addPos base q)).blk f = some b' → bl f = some b' := fun f b' hb' => by rw [hemp] at hb'; cases hb'
      have hlt2 := hent.lt hp hsp
      rw [← hreads, e2] at hr
      refine val_wp (h := H.emp (addPos base q)) (N := stF.cur.next.toN) hF I.tm (I.rb.sub hsub (Nat.le_refl _)) hfree (Nat.le_refl _) hr (by
        rw [H.next_add, Pos.toN_succ]
        show (addPos base q).toN + 1 ≤ _
        have := I.next
        omega) fun j' cv w' g1 g2 g3 => ?_
      obtain ⟨f1, f2⟩ := I.rb.frame hsub g2 g3
      have hov : Bl.over ((H.emp (addPos base q)).add b1).blk bl = Bl.upd bl (addPos base q) b1 := by
        funext f
        by_cases e : addPos base q = f
        · subst e
          rw [Bl.upd_same]
          exact Bl.over_some (by rw [hblk, Bl.upd_same])
        · rw [Bl.upd_ne _ _ e]
          exact Bl.over_none (by rw [hblk, Bl.upd_ne _ _ e, hemp])
      rw [hov] at f1 f2
      exact hK _ _ _ _ _ _ _ _ (I.step hp hrun h0 hR (by simp [isWr, hk]) hX hedge' (v := v) (by rw [e1]; exact put_tm hdst I.tm f2.le g1) (put_defers _ _) (hval v rfl) f1 f2 (.inr ⟨_, _, hent, rfl⟩))
    | wval v h' hw hk hr =>
      rw [hwant true hw]
      simp only [if_true]
      obtain ⟨hall, s1, s2⟩ := wrote (isWr_iff.2 hk)
      have hmn := run_mono hr
      rw [← hreads, e2] at hr
      refine val_wp (h := st.cur) (N := h'.next.toN) hF I.tm (I.rb.sub s1 (Nat.le_refl _)) (by rw [s2]; exact hjF) (by rw [← s2]; exact hmn) hr (Nat.le_refl _) fun j' cv w' g1 g2 g3 => ?_
      obtain ⟨f1, f2⟩ := I.rb.frame s1 g2 g3
      exact hK _ _ _ _ _ _ _ _ (I.write hp hrun h0 hR (isWr_iff.2 hk) hall hedge' hat hat' hX (v := v) (by rw [e1]; exact put_tm hdst I.tm f2.le g1) (put_defers _ _) (hval v rfl) f1 f2 g3.mono hmn)
    | wcall f args v h' hw hk hr hcl =>
      rw [hwant true hw]
      simp only [if_true]
      obtain ⟨hall, s1, s2⟩ := wrote (isWr_iff.2 hk)
      rw [← hreads, e2] at hr
      refine call_wp hF hcall I.tm (by rw [s2]; exact I.rb.sub s1 (Nat.le_refl _)) hr hcl fun j' cv w' hmn g1 g2 g3 => ?_
      obtain ⟨f1, f2⟩ := I.rb.frame s1 g2 g3
      exact hK _ _ _ _ _ _ _ _ (I.write hp hrun h0 hR (isWr_iff.2 hk) hall hedge' hat hat' hX (v := v) (by rw [e1]; exact put_tm hdst I.tm f2.le g1) (put_defers _ _) (hval v rfl) f1 f2 g3.mono hmn)
  · -- an operation that is not compiled does not run
    exfalso
    rw [← hc] at he
    have e2 : d.c.op = .bad := by rw [he]
    have e3 : d.c.guard = none := by rw [he]
    cases stepD_inv hstep with
    | skip hw => rw [e3] at hw; cases hw
    | pure v h' hw hk hr => rw [e2] at hr; cases hr
    | load s c as h1 hs v h' hw hk hh hr hsame => rw [e2] at hr; cases hr
    | alloc q v h' b hw hk hr hb hn => rw [e2] at hr; cases hr
    | wval v h' hw hk hr => rw [e2] at hr; cases hr
    | wcall f args v h' hw hk hr hcl => rw [e2] at hr; cases hr
end
end Go.Ev


namespace Go.Ev
variable {P : Program}

section
variable {F : Fence} {n : Nat} {call : CallF} {base : Pos} {nt b0 : Nat} {ops : Array Oper} {masks wr : T Nat} {plan : List DOp} {st0 stE : DSt} {j0 : Inj} {bl0 : Bl} {w0 : World} {Q : Exit → Act → World → Prop}

theorem filter_lt {α : Type} {p q : α → Bool} (hpq : ∀ x, q x = true → p x = true) {i : α} : ∀ {l : List α}, i ∈ l → p i = true → q i = false → (l.filter q).length < (l.filter p).length := by
  intro l
  have le : ∀ l : List α, (l.filter q).length ≤ (l.filter p).length := by
    intro l
    induction l with
    | nil => exact Nat.le_refl _
    | cons x l ih =>
      by_cases h1 : q x = true
      · rw [List.filter_cons_of_pos h1, List.filter_cons_of_pos (hpq x h1)]
        simpa using ih
      · rw [List.filter_cons_of_neg h1]
        by_cases h2 : p x = true
        · rw [List.filter_cons_of_pos h2]; simp; omega
        · rw [List.filter_cons_of_neg h2]; exact ih
  induction l with
  | nil => intro h; cases h
  | cons x l ih =>
    intro hi hp hq
    rcases List.mem_cons.1 hi with rfl | hi
    · rw [List.filter_cons_of_pos hp, List.filter_cons_of_neg (by rw [hq]; simp)]
      have := le l
      simp; omega
    · have := ih hi hp hq
      by_cases h1 : q x = true
      · rw [List.filter_cons_of_pos h1, List.filter_cons_of_pos (hpq x h1)]
        simpa using this
      · rw [List.filter_cons_of_neg h1]
        by_cases h2 : p x = true
        · rw [List.filter_cons_of_pos h2]; simp; omega
        · rw [List.filter_cons_of_neg h2]; exact this

/-- how many have not been executed -/
def left (n : Nat) (listed : Array Bool) : Nat := ((List.range n).filter fun i => !(listed.getD i false)).length

theorem listed_set {listed : Array Bool} {i : Nat} (hi : i < listed.size) (k : Nat) : (listed.setIfInBounds i true).getD k false = true ↔ listed.getD k false = true ∨ k = i := by
  by_cases e : i = k
  · subst e; simp [Array.getD, hi]
  · have : (listed.setIfInBounds i true)[k]? = listed[k]? := Array.getElem?_setIfInBounds_ne e
    simp only [Array.getD_eq_getD_getElem?, this]
    constructor
    · exact .inl
    · rintro (h | h)
      · exact h
      · exact absurd h.symm e

/-- whatever order: the region comes to the canonical end -/
theorem any_sound (hF : Fw F) (hcall : CallsOk P call) (hp : PlanOk P nt ops masks wr plan) (hrun : runD call base plan st0 = some stE) (h0 : st0.hist = [st0.cur]) (hab : st0.ab = .nil) (hbase : base.toN + countA plan ≤ st0.cur.next.toN)
    (hQ : ∀ Fr R stF a w j bl tmX, Inv P call base nt b0 ops plan st0 stE j0 bl0 w0 (fun i => i < ops.size) Fr R stF a w j bl tmX → Q .normal a w) :
    ∀ (fuel : Nat) (listed : Array Bool) (Fr R : List DOp) (stF : DSt) (a : Act) (w : World) (j : Inj) (bl : Bl) (tmX : Tm), listed.size = ops.size → left ops.size listed ≤ fuel →
      Inv P call base nt b0 ops plan st0 stE j0 bl0 w0 (fun i => listed.getD i false = true) Fr R stF a w j bl tmX → wpAnyIn F n P .any ops Q fuel listed a w := by
  intro fuel
  induction fuel with
  | zero =>
    intro listed Fr R stF a w j bl tmX hsz hle I
    have hall : ∀ i, i < ops.size → listed.getD i false = true := fun i hi => by
      cases h : listed.getD i false with
      | true => rfl
      | false =>
        exfalso
        have hm : i ∈ (List.range ops.size).filter fun i => !(listed.getD i false) := List.mem_filter.2 ⟨List.mem_range.2 hi, by rw [h]; rfl⟩
        have := List.length_pos_of_mem hm
        unfold left at hle
        omega
    have heq : (fun i => listed.getD i false = true) = fun i => i < ops.size := funext fun i => propext ⟨I.range i, hall i⟩
    refine ⟨?_, hQ Fr R stF a w j bl tmX (heq ▸ I)⟩
    cases hr : Region.ready .any ops listed with
    | nil => rfl
    | cons i is =>
      exfalso
      obtain ⟨h1, o, h2, _⟩ := mem_ready.1 (show i ∈ Region.ready .any ops listed by rw [hr]; simp)
      have h3 := hall i (getElem?_lt h2)
      have hlt : i < listed.size := by rw [hsz]; exact getElem?_lt h2
      simp [Array.getD, hlt] at h1 h3
      rw [h1] at h3; cases h3
  | succ fuel ih =>
    intro listed Fr R stF a w j bl tmX hsz hle I
    refine ⟨fun hready => ?_, fun i hi => ?_⟩
    · -- nothing is ready: all have been executed
      have hall : ∀ i, i < ops.size → listed.getD i false = true := by
        intro i
        have key : ∀ (p1 p2 : List DOp), plan = p1 ++ p2 → ∀ d ∈ p1, listed.getD d.ix false = true := by
          intro p1
          generalize hr1 : p1.reverse = r
          induction r generalizing p1 with
          | nil => intro p2 _ d hd; simp at hr1; subst hr1; cases hd
          | cons x r ihr =>
            intro p2 hsp d hd
            have hp1 : p1 = r.reverse ++ [x] := by rw [← List.reverse_reverse p1, hr1]; simp
            have hold := ihr r.reverse (by simp) (x :: p2) (by rw [hsp, hp1]; simp)
            rw [hp1] at hd
            rcases List.mem_append.1 hd with hd | hd
            · exact hold d hd
            · simp at hd; subst hd
              cases hx : listed.getD d.ix false with
              | true => rfl
              | false =>
                exfalso
                have fact := hp.fact r.reverse d p2 (by rw [hsp, hp1]; simp)
                have hlt : d.ix < listed.size := by rw [hsz]; exact fact.lt
                have hin : d.ix ∈ Region.ready .any ops listed := by
                  refine mem_ready.2 ⟨by simpa [Array.getD, hlt] using hx, ops[d.ix]'fact.lt, Array.getElem?_eq_getElem fact.lt, fun e he hb => ?_⟩
                  obtain ⟨d', hd', e'⟩ := fact.anc e.on ((hp.mask d.ix _ (Array.getElem?_eq_getElem fact.lt)).1 e he hb)
                  rw [← e']
                  exact hold d' hd'
                rw [hready] at hin; cases hin
        intro hi
        obtain ⟨d, hd, rfl⟩ := hp.all i hi
        exact key plan [] (by simp) d hd
      have heq : (fun i => listed.getD i false = true) = fun i => i < ops.size := funext fun i => propext ⟨I.range i, hall i⟩
      exact hQ Fr R stF a w j bl tmX (heq ▸ I)
    · obtain ⟨h1, o, h2, h3⟩ := mem_ready.1 hi
      have hlt := getElem?_lt h2
      have hlt' : i < listed.size := by rw [hsz]; exact hlt
      have hfalse : listed.getD i false = false := by simpa [Array.getD, hlt'] using h1
      refine I.ready hF hcall hp hrun h0 hab hbase (i := i) (by rw [hfalse]; intro h; cases h) h2 h3 fun Fr' R' stF' a' w' j' bl' tm' I' => ?_
      refine ih (listed.setIfInBounds i true) Fr' R' stF' a' w' j' bl' tm' (by simpa using hsz) ?_ ?_
      · have : left ops.size (listed.setIfInBounds i true) < left ops.size listed := by
          refine filter_lt (fun x hx => ?_) (i := i) (List.mem_range.2 hlt) (by rw [hfalse]; rfl) ?_
          · cases hg : listed.getD x false with
            | false => rfl
            | true =>
              have := (listed_set hlt' x).2 (.inl hg)
              rw [this] at hx; cases hx
          · have := (listed_set hlt' i).2 (.inr rfl)
            rw [this]; rfl
        omega
      · have heq : (fun k => (listed.setIfInBounds i true).getD k false = true) = fun k => listed.getD k false = true ∨ k = i := funext fun k => propext (listed_set hlt' k)
        rw [heq]; exact I'

/-- **A region that draws its order is sound.** -/
theorem draw_sound (hF : Fw F) (hcall : CallsOk P call) (hm : P.follows .mixedOrders = true) (hp : PlanOk P nt ops masks wr plan) {tm : Tm} {h : H} {e : Ex} {tm' : Tm} {h' : H} (hr : c_dops call (countA plan) plan tm h = .ok e tm' h')
    {a : Act} {w : World} {j : Inj} {id : Nat} (s : SR P j nt tm h b0 a w) (hQ : e = .norm → ∀ j' a' w', h.next.toN ≤ h'.next.toN → SR P j' nt tm' h' b0 a' w' → Ext j h.blk w j' h'.blk w' → Q .normal a' w') : (Code.region id ops true).wpIn F n P Q a w := by
  have hr : endD (runD call h.next plan (startD (countA plan) tm h)) = .ok e tm' h' := hr
  cases hrun : runD call h.next plan (startD (countA plan) tm h) with
  | none => rw [hrun] at hr; cases hr
  | some stE =>
    rw [hrun] at hr
    cases hr
    have hbase : h.next.toN + countA plan ≤ (startD (countA plan) tm h).cur.next.toN := by
      show _ ≤ (addPos h.next (countA plan)).toN
      rw [addPos_toN]; exact Nat.le_refl _
    refine wpIn_region_any hm ?_
    refine any_sound (base := h.next) (st0 := startD (countA plan) tm h) (stE := stE) (j0 := j) (bl0 := h.blk) (w0 := w) (b0 := b0) hF hcall hp hrun rfl rfl hbase ?_ ops.size (Array.replicate ops.size false) [] plan (startD (countA plan) tm h) a _ j h.blk tm (by simp) ?_ ?_
    · intro Fr R stF a' w' j' bl tmX I
      have hall : ∀ d ∈ R, d.ix < ops.size := fun d hd => by
        obtain ⟨r1, r2, hr⟩ := List.append_of_mem hd
        exact (hp.fact _ d r2 (I.spl hr)).lt
      have hatE : At call h.next (startD (countA plan) tm h) (Fr ++ R) stE := by rw [← I.split]; exact hrun
      obtain ⟨s1, s2, s3, s4⟩ := I.subR hp hrun rfl (R1 := R) (R2 := []) (by simp) hall hatE
      have hblk : stE.cur.blk = bl := by
        funext f
        cases hf : stE.cur.blk f with
        | some b => exact (s1 f b hf).symm
        | none =>
          refine (I.rest f fun a1 d1 c1 b he _ hent => ?_) ▸ ?_
          · rw [s3 a1 d1 c1 f b he hent] at hf; cases hf
          · rw [← s4 f fun a1 d1 c1 b he hent => by rw [s3 a1 d1 c1 f b he hent] at hf; cases hf]
            exact hf.symm
      have htm : TmR j' nt stE.tm a'.tmps := by
        refine ⟨I.tm.1, fun t v ht => I.tm.2 t v ?_⟩
        by_cases hex : ∃ d ∈ plan, d.c.dst = some (Pos.ofNat t)
        · obtain ⟨d, hd, hdst⟩ := hex
          obtain ⟨r1, r2, hr⟩ := List.append_of_mem hd
          rw [I.tx1 _ d hd (hp.fact r1 d r2 hr).lt hdst]
          exact ht
        · rw [I.tx2 _ fun d hd _ h => hex ⟨d, hd, h⟩, ← At.tm0 (p := plan) hrun fun d hd h => hex ⟨d, hd, h⟩]
          exact ht
      refine hQ rfl j' a' w' ?_ ⟨htm, ?_, ?_, I.sz⟩ ?_
      · rw [s2]
        have := I.next
        omega
      · rw [hblk, s2]; exact I.rb
      · rw [hblk]; exact I.df
      · rw [hblk]; exact I.ext
    · have := List.length_filter_le (fun i => !((Array.replicate ops.size false).getD i false)) (List.range ops.size)
      simpa [left] using this
    · have hfalse : ∀ i, (Array.replicate ops.size false).getD i false = false := fun i => by
        simp [Array.getD]
      refine ⟨rfl, rfl, .inl rfl, fun d hd => (by cases hd), fun d _ hX => ?_, fun i o hi => ?_, fun i hi => ?_, s.tm, fun p d _ hX => ?_, fun p _ => rfl, ?_, fun R1 d R2 f b _ hX => ?_, fun f _ => rfl, fun R1 d R2 f b he _ hent => ?_, ?_, ?_, s.b0, Nat.le_refl _⟩
      · rw [hfalse] at hX; cases hX
      · rw [hfalse] at hi; cases hi
      · rw [hfalse] at hi; cases hi
      · rw [hfalse] at hX; cases hX
      · exact (s.rb.drawn (w.drawn + 1)).sub (fun _ _ h => h) (by omega)
      · rw [hfalse] at hX; cases hX
      · have hge : h.next.toN ≤ f.toN := by
          obtain ⟨st, v, h1, q, a1, a2, a3, _⟩ := hent
          rw [a3, addPos_toN]; omega
        exact s.rb.jnone hge
      · exact Ext.drawn _
      · exact s.df.ext (Ext.drawn _)
end
end Go.Ev


namespace Go.Ev
variable {P : Program}

def exOf : Ex → Exit
  | .norm => .normal
  | .exit id => .exit id
  | .ret => .ret

section
variable {F : Fence} {n nt b0 : Nat} {call : CallF} {j : Inj} {tm : Tm} {h : H} {a : Act} {w : World} {Q : Exit → Act → World → Prop}

/-- a loop whose rounds use up a number -/
theorem wpIn_loop_fuel {c : Code} (S : Nat → Act → World → Prop) {m : Nat} (h₀ : S m a w)
    (round : ∀ m a w, S m a w → c.wpIn F n P (Exit.then (fun a' w' => ∃ m', m' < m ∧ S m' a' w') Q) a w) : (Code.loop c).wpIn F n P Q a w := by
  intro b k cs hro hb hr
  have key : ∀ m a w, S m a w →
      ∃ e a' w', Q e a' w' ∧ ArrivesIn (Machine.fenced P F) P (lone (b.atR a (.code c :: .inLoop c :: k)) cs w) b k cs e a' w' := by
    intro m
    induction m using Nat.strongRecOn with
    | _ m ih =>
      intro a w hI
      obtain ⟨e, a₁, w₁, hq, harr⟩ := round m a w hI b (.inLoop c :: k) cs hro hb hr
      cases e with
      | normal =>
        obtain ⟨m', hlt, hI₁⟩ := hq
        obtain ⟨e₂, a₂, w₂, hq₂, harr₂⟩ := ih m' hlt a₁ w₁ hI₁
        exact ⟨e₂, a₂, w₂, hq₂, .of_steps (StepsIn.trans harr (.one (fenced_calm hb hr rfl) stepR_inLoop)) harr₂⟩
      | exit id => exact ⟨_, a₁, w₁, hq, .pass (x := .inLoop c) rfl (fun _ _ => .inl (by simp)) harr⟩
      | goto l => exact ⟨_, a₁, w₁, hq, .pass (x := .inLoop c) rfl (fun _ _ => .inl (by simp)) harr⟩
      | ret => exact ⟨_, a₁, w₁, hq, .pass (x := .inLoop c) rfl (fun _ _ => .inl (by simp)) harr⟩
      | panic ch => exact ⟨_, a₁, w₁, hq, .pass (x := .inLoop c) rfl (fun _ _ => .inl (by simp)) harr⟩
      | outgrown => exact ⟨_, a₁, w₁, hq, .pass (x := .inLoop c) rfl (fun _ _ => .inl (by simp)) harr⟩
  obtain ⟨e, a', w', hq, harr⟩ := key m a w h₀
  exact ⟨e, a', w', hq, .of_steps (.one (fenced_calm hb hr rfl) stepR_loop) harr⟩

/-- what is asked behind a piece of code -/
def Post (P : Program) (nt b0 : Nat) (j : Inj) (h : H) (w : World) (e : Ex) (tm' : Tm) (h' : H) (Q : Exit → Act → World → Prop) : Prop :=
  ∀ j' a' w', h.next.toN ≤ h'.next.toN → SR P j' nt tm' h' b0 a' w' → Ext j h.blk w j' h'.blk w' → Q (exOf e) a' w'

def CodeOk (P : Program) (call : CallF) (nt m : Nat) : Prop :=
  ∀ (c : Code) (top : Bool) (tm : Tm) (h : H) (e : Ex) (tm' : Tm) (h' : H), runCC call m (cC P nt top c) tm h = .ok e tm' h' →
    ∀ (F : Fence) (n b0 : Nat) (a : Act) (w : World) (j : Inj) (Q : Exit → Act → World → Prop), Fw F → (top = true → F = Fence.wide) → SR P j nt tm h b0 a w → Post P nt b0 j h w e tm' h' Q → c.wpIn F n P Q a w

theorem runCC_succ (call : CallF) (m : Nat) (c : CC) : runCC call (m + 1) c = stepC call (runCC call m) c := rfl

theorem seqK_ok {run : CC → Tm → H → R} {b : CC} {r : R} {e : Ex} {tm' : Tm} {h' : H} (hr : seqK run b r = .ok e tm' h') :
    (∃ tm1 h1, r = .ok .norm tm1 h1 ∧ run b tm1 h1 = .ok e tm' h') ∨ (r = .ok e tm' h' ∧ e ≠ .norm) := by
  cases r with
  | fail => cases hr
  | ok e1 tm1 h1 =>
    cases e1 with
    | norm => exact .inl ⟨tm1, h1, rfl, hr⟩
    | exit id => cases hr; exact .inr ⟨rfl, by intro h; cases h⟩
    | ret => cases hr; exact .inr ⟨rfl, by intro h; cases h⟩

theorem then_of {K : Act → World → Prop} {e : Ex} (he : e ≠ .norm) {a : Act} {w : World} (h : Q (exOf e) a w) : Exit.then K Q (exOf e) a w := by
  cases e <;> first | exact absurd rfl he | exact h

theorem code_sound (hm : P.follows .mixedOrders = true) (hcall : CallsOk P call) (hrange : ∀ m g ps x y, CodeOk P call nt m → ∀ (tm : Tm) (h : H) (e : Ex) (tm' : Tm) (h' : H), c_range call (cA g) (ps.toList.map Pos.ofNat) (cC P nt false x) (cC P nt false y) tm h = .ok e tm' h' → psOk nt ps.toList = true →
      ∀ (n b0 : Nat) (a : Act) (w : World) (j : Inj) (Q : Exit → Act → World → Prop), SR P j nt tm h b0 a w → Post P nt b0 j h w e tm' h' Q → (Code.rangeFunc g ps x y).wpIn Fence.wide n P Q a w) : ∀ m, CodeOk P call nt m := by
  intro m
  induction m using Nat.strongRecOn with
  | _ m0 ih0 =>
    intro c top tm h e tm' h' hr F n b0 a w j Q hF htop s hQ
    obtain _ | m := m0
    · cases hr
    have ih := ih0 m (Nat.lt_succ_self m)
    rw [runCC_succ] at hr
    cases c with
    | skip =>
      cases hr
      exact wpIn_skip (hQ j a w (Nat.le_refl _) s (Ext.refl _ _ _))
    | label l =>
      cases hr
      exact wpIn_label (hQ j a w (Nat.le_refl _) s (Ext.refl _ _ _))
    | exit id =>
      cases hr
      exact wpIn_exit (hQ j a w (Nat.le_refl _) s (Ext.refl _ _ _))
    | ret =>
      cases hr
      exact wpIn_ret (hQ j a w (Nat.le_refl _) s (Ext.refl _ _ _))
    | region id ops draw =>
      cases draw with
      | false =>
        have hr : runOps call (ops.toList.map (cOper P nt ops)) tm h = .ok e tm' h' := by
          have : cC P nt top (.region id ops false) = .ops (ops.toList.map (cOper P nt ops)) := by cases top <;> rfl
          rw [this] at hr; exact hr
        refine wpIn_region ?_
        rw [List.range_eq_range', show ops.size = ops.toList.length by simp]
        have hnorm : e = .norm := by
          have : ∀ (l : List COper) tm h, runOps call l tm h = .ok e tm' h' → e = .norm := by
            intro l
            induction l with
            | nil => intro tm h hr; cases hr; rfl
            | cons o l ihl =>
              intro tm h hr
              have hr : stepO call o (runOps call l) tm h = .ok e tm' h' := hr
              obtain ⟨dst, op, g⟩ := o
              have hr : wantK call dst op tm h (runOps call l) (wantedA tm g) = .ok e tm' h' := hr
              cases hw : wantedA tm g with
              | none => rw [hw] at hr; cases hr
              | some b =>
                rw [hw] at hr
                cases b with
                | false => exact ihl _ _ hr
                | true =>
                  have hr : outK call dst tm h (runOps call l) (op.run tm h) = .ok e tm' h' := hr
                  cases ho : op.run tm h with
                  | fail => rw [ho] at hr; cases hr
                  | val v h1 => rw [ho] at hr; exact ihl _ _ hr
                  | call f args =>
                    rw [ho] at hr
                    have hr : backK dst tm (runOps call l) (call f args h) = .ok e tm' h' := hr
                    cases hc : call f args h with
                    | fail => rw [hc] at hr; cases hr
                    | ok v h1 => rw [hc] at hr; exact ihl _ _ hr
          exact this _ _ _ hr
        subst hnorm
        exact ops_sound hF hcall ops.toList 0 (fun i hi => by simp) tm h j a w hr s fun _ j' a' w' h1 h2 h3 => hQ j' a' w' h1 h2 h3
      | true =>
        have hc : cC P nt top (.region id ops true) = cDraw P nt ops := by cases top <;> rfl
        rw [hc] at hr
        rcases cDraw_spec (P := P) (nt := nt) (ops := ops) with hb | ⟨masks, wr, plan, he, hp⟩
        · rw [hb] at hr; cases hr
        · rw [he] at hr
          have hr : c_dops call (countA plan) plan tm h = .ok e tm' h' := hr
          exact draw_sound hF hcall hm hp hr s fun he j' a' w' h1 h2 h3 => by subst he; exact hQ j' a' w' h1 h2 h3
    | seq x y =>
      have : cC P nt top (.seq x y) = .seq (cC P nt top x) (cC P nt top y) := by cases top <;> rfl
      rw [this] at hr
      have hr : seqK (runCC call m) (cC P nt top y) (runCC call m (cC P nt top x) tm h) = .ok e tm' h' := hr
      refine wpIn_seq ?_
      rcases seqK_ok hr with ⟨tm1, h1, hx, hy⟩ | ⟨hx, hne⟩
      · refine ih x top tm h .norm tm1 h1 hx F n b0 a w j _ hF htop s fun j1 a1 w1 m1 s1 x1 => ?_
        exact ih y top tm1 h1 e tm' h' hy F n b0 a1 w1 j1 Q hF htop s1 fun j2 a2 w2 m2 s2 x2 => hQ j2 a2 w2 (Nat.le_trans m1 m2) s2 (x1.trans x2)
      · exact ih x top tm h e tm' h' hx F n b0 a w j _ hF htop s fun j1 a1 w1 m1 s1 x1 => then_of hne (hQ j1 a1 w1 m1 s1 x1)
    | cond c x y =>
      have : cC P nt top (.cond c x y) = .cond (cA c) (cC P nt top x) (cC P nt top y) := by cases top <;> rfl
      rw [this] at hr
      have hr : condK (runCC call m) (cC P nt top x) (cC P nt top y) tm h ((cA c).ev tm) = .ok e tm' h' := hr
      have hc := evA s.tm c
      unfold condK at hr
      split at hr
      · rename_i hv
        rw [hv] at hc
        generalize hq : a.eval c = q at hc
        cases hc
        exact wpIn_cond_true hq (ih x top tm h e tm' h' hr F n b0 a w j Q hF htop s hQ)
      · rename_i hv
        rw [hv] at hc
        generalize hq : a.eval c = q at hc
        cases hc
        exact wpIn_cond_false hq (ih y top tm h e tm' h' hr F n b0 a w j Q hF htop s hQ)
      · cases hr
    | block id x =>
      have : cC P nt top (.block id x) = .block id (cC P nt top x) := by cases top <;> rfl
      rw [this] at hr
      have hr : blockK id (runCC call m (cC P nt top x) tm h) = .ok e tm' h' := hr
      refine wpIn_block ?_
      cases hx : runCC call m (cC P nt top x) tm h with
      | fail => rw [hx] at hr; cases hr
      | ok e1 tm1 h1 =>
        rw [hx] at hr
        cases e1 with
        | norm =>
          cases hr
          exact ih x top tm h .norm tm' h' hx F n b0 a w j _ hF htop s hQ
        | ret =>
          cases hr
          exact ih x top tm h .ret tm' h' hx F n b0 a w j _ hF htop s hQ
        | exit id' =>
          have hr : (Bool.rec (.ok (.exit id') tm1 h1) (.ok .norm tm1 h1) (Nat.beq id' id) : R) = .ok e tm' h' := hr
          cases hid : Nat.beq id' id with
          | true =>
            rw [hid] at hr
            cases hr
            have := Nat.eq_of_beq_eq_true hid
            subst this
            refine ih x top tm h (.exit id') tm' h' hx F n b0 a w j _ hF htop s fun j1 a1 w1 m1 s1 x1 => ?_
            show Exit.inBlock id' Q (.exit id') a1 w1
            simp only [Exit.inBlock, if_true]
            exact hQ j1 a1 w1 m1 s1 x1
          | false =>
            rw [hid] at hr
            cases hr
            have hne : id' ≠ id := fun e => by subst e; simp at hid
            refine ih x top tm h (.exit id') tm' h' hx F n b0 a w j _ hF htop s fun j1 a1 w1 m1 s1 x1 => ?_
            show Exit.inBlock id Q (.exit id') a1 w1
            simp only [Exit.inBlock, if_neg hne]
            exact hQ j1 a1 w1 m1 s1 x1
    | loop x =>
      have hcl : cC P nt top (.loop x) = .loop (cC P nt top x) := by cases top <;> rfl
      rw [hcl] at hr
      refine wpIn_loop_fuel (fun m1 a1 w1 => m1 ≤ m + 1 ∧ ∃ tm1 h1 j1, runCC call m1 (.loop (cC P nt top x)) tm1 h1 = .ok e tm' h' ∧ SR P j1 nt tm1 h1 b0 a1 w1 ∧ Ext j h.blk w j1 h1.blk w1 ∧ h.next.toN ≤ h1.next.toN)
        (m := m + 1) ⟨Nat.le_refl _, tm, h, j, hr, s, Ext.refl _ _ _, Nat.le_refl _⟩ ?_
      intro m1 a1 w1 ⟨hm1, tm1, h1, j1, hr1, s1, x1, n1⟩
      cases m1 with
      | zero => cases hr1
      | succ m1 =>
        have ih1 := ih0 m1 (by omega)
        have hr1 : seqK (runCC call m1) (.loop (cC P nt top x)) (runCC call m1 (cC P nt top x) tm1 h1) = .ok e tm' h' := hr1
        rcases seqK_ok hr1 with ⟨tm2, h2, hx, hy⟩ | ⟨hx, hne⟩
        · refine ih1 x top tm1 h1 .norm tm2 h2 hx F n b0 a1 w1 j1 _ hF htop s1 fun j2 a2 w2 n2 s2 x2 => ?_
          exact ⟨m1, Nat.lt_succ_self m1, by omega, tm2, h2, j2, hy, s2, x1.trans x2, Nat.le_trans n1 n2⟩
        · exact ih1 x top tm1 h1 e tm' h' hx F n b0 a1 w1 j1 _ hF htop s1 fun j2 a2 w2 n2 s2 x2 => then_of hne (hQ j2 a2 w2 (Nat.le_trans n1 n2) s2 (x1.trans x2))
    | scope x =>
      have : cC P nt top (.scope x) = .bad := by cases top <;> rfl
      rw [this] at hr; cases hr
    | goto l =>
      have : cC P nt top (.goto l) = .bad := by cases top <;> rfl
      rw [this] at hr; cases hr
    | refuse r =>
      have : cC P nt top (.refuse r) = .bad := by cases top <;> rfl
      rw [this] at hr; cases hr
    | rangeFunc g ps x y =>
      cases top with
      | false => cases hr
      | true =>
        have hcl : cC P nt true (.rangeFunc g ps x y) = match psOk nt ps.toList with | true => .rangeF (cA g) (ps.toList.map Pos.ofNat) (cC P nt false x) (cC P nt false y) | false => .bad := rfl
        rw [hcl] at hr
        cases hps : psOk nt ps.toList with
        | false => rw [hps] at hr; cases hr
        | true =>
          rw [hps] at hr
          have := htop rfl
          subst this
          exact hrange m g ps x y ih tm h e tm' h' hr hps n b0 a w j Q s hQ
end
end Go.Ev


namespace Go.Ev
variable {P : Program}

section
variable {n nt b0 : Nat} {call : CallF} {j : Inj} {tm : Tm} {h : H} {a : Act} {w : World} {bl : Bl}

/-! ## Blocks that are no family's -/

theorem RB.other {w' : World} (hR : RB P j bl n w) (hs : w.heap.size ≤ w'.heap.size) (hk : ∀ f l, Live bl f → j f = some l → w'.heap[l.blk]? = w.heap[l.blk]?) : RB P j bl n w' := by
  refine ⟨hR.fresh, fun f b hf => ?_, hR.apart⟩
  obtain ⟨l, h1, h2, h3⟩ := hR.blk f b hf
  refine ⟨l, h1, fun hb => Nat.lt_of_lt_of_le (h2 hb) hs, ?_⟩
  cases b with
  | dead => trivial
  | _ => exact h3.keep (Inj.le_refl j) (hk f l ⟨_, hf, trivial⟩ h1)

theorem RB.push (hR : RB P j bl n w) (ob : Obj) : RB P j bl n (w.alloc ob) ∧ Ext j bl w j bl (w.alloc ob) := by
  have hold : ∀ k, k < w.heap.size → (w.heap.push ob)[k]? = w.heap[k]? := fun k hk => by rw [Array.getElem?_push, if_neg (by omega)]
  refine ⟨hR.other (by rw [World.size_alloc]; omega) fun f l ⟨b, h1, h2⟩ hj => ?_, ⟨Inj.le_refl j, by rw [World.size_alloc]; omega, fun k hk _ => hold k hk, fun f l hl hj => .inr ⟨f, l, hl, hj, rfl⟩, rfl, rfl, rfl, fun _ h _ => h, fun _ h => h⟩⟩
  obtain ⟨l', g1, g2, _⟩ := hR.blk f b h1
  rw [hj] at g1; cases g1
  exact hold _ (g2 h2)

theorem RB.putOther (hR : RB P j bl n w) {D : Nat} (ob : Obj) (hD : ∀ f l, Live bl f → j f = some l → l.blk ≠ D) : RB P j bl n (w.putObj D ob) :=
  hR.other (by simp) fun f l hl hj => World.putObj_heap_other (hD f l hl hj)

/-! ## The statement 'range over a function' -/

theorem psOk_spec {n : Nat} : ∀ {ps : List Nat}, psOk n ps = true → ∀ p ∈ ps, p < n := by
  intro ps
  induction ps with
  | nil => intro _ p hp; cases hp
  | cons q ps ih =>
    intro h p hp
    obtain ⟨h1, h2⟩ := and_true (show and (Nat.ble (Nat.succ q) n) (psOk n ps) = true from h)
    rcases List.mem_cons.1 hp with rfl | hp
    · exact Nat.le_of_ble_eq_true h1
    · exact ih h2 p hp

theorem range_sound (hcall : CallsOk P call) (g : Operand) (ps : Array Tmp) (x y : Code) {e : Ex} {tm' : Tm} {h' : H}
    (hr : c_range call (cA g) (ps.toList.map Pos.ofNat) (cC P nt false x) (cC P nt false y) tm h = .ok e tm' h') (hps : psOk nt ps.toList = true) {Q : Exit → Act → World → Prop}
    (s : SR P j nt tm h b0 a w) (hQ : Post P nt b0 j h w e tm' h' Q) : (Code.rangeFunc g ps x y).wpIn Fence.wide n P Q a w := by
  have hr : rangeK call (ps.toList.map Pos.ofNat) (cC P nt false x) (cC P nt false y) tm h ((cA g).ev tm) = .ok e tm' h' := hr
  have hg := evA s.tm g
  unfold rangeK at hr
  split at hr
  · rename_i f first cap he
    rw [he] at hg
    generalize hq : a.eval g = q at hg
    cases hg with
    | fn _ _ _ vf vc hv1 hv2 =>
    refine wpIn_rangeFunc fun fn _ => ?_
    generalize hst : ({ tm := tm, ps := ps.toList.map Pos.ofNat, asg := cC P nt false x, body := cC P nt false y, busy := false, pend := none } : LoopSt) = st at hr
    generalize hh1 : h.add (.loop st) = h1 at hr
    have hblk1 : h1.blk = Bl.upd h.blk h.next (.loop st) := by rw [← hh1, H.blk_add]
    have hnext1 : h1.next.toN = h.next.toN + 1 := by rw [← hh1, H.next_add, Pos.toN_succ]
    -- the two blocks
    obtain ⟨hR0, hx0⟩ := s.rb.push (.deferred (some []))
    generalize hw0 : w.alloc (.deferred (some [])) = w0 at hR0 hx0
    have hsz0 : w0.heap.size = w.heap.size + 1 := by rw [← hw0, World.size_alloc]
    let L : Loop := { state := .ready, pending := none, fn, tmps := a.tmps, params := ps, assign := x, body := y, defers := w.heap.size }
    have hle1 := Inj.le_upd (j := j) (f := h.next) ⟨w0.heap.size, 0, 0⟩ s.free
    have hblkR : BlkR P (j.upd h.next ⟨w0.heap.size, 0, 0⟩) (.loop st) ⟨w0.heap.size, 0, 0⟩ { w0 with heap := w0.heap.push (.loop L) } := by
      refine ⟨L, heap_push_new _ _, ?_, ?_⟩
      · refine ⟨nt, ?_, ?_, ?_, ?_, psOk_spec hps⟩
        · rw [← hst]; exact s.tm.mono hle1
        · rw [← hst]
        · rw [← hst]
        · rw [← hst]
      · rw [← hst]; exact ⟨rfl, rfl⟩
    obtain ⟨hR1, hx1⟩ := RB.alloc hR0 h.next s.free h1.next.toN (by omega) (by omega) (.loop L) (.loop st) 0 0 hblkR
    generalize hw1 : ({ w0 with heap := w0.heap.push (.loop L) } : World) = w1 at hR1 hx1
    have hw1' : w0.alloc (.loop L) = w1 := hw1
    rw [← hblk1] at hR1 hx1
    generalize hj1 : j.upd h.next ⟨w0.heap.size, 0, 0⟩ = j1 at hR1 hx1 hle1
    have hj1n : j1 h.next = some ⟨w0.heap.size, 0, 0⟩ := by rw [← hj1]; exact Inj.upd_same _ _ _
    -- the mark
    have hdf0 : Df b0 j h.blk (mkMark w.heap.size :: a.defers) w0 := by
      obtain ⟨Ds, d1, d2, d3⟩ := s.df.ext hx0
      obtain ⟨Ds', e1, _, e3⟩ := s.df
      refine ⟨w.heap.size :: Ds, by simp [d1], List.nodup_cons.2 ⟨fun hm => ?_, d2⟩, fun D hD => ?_⟩
      · have heq : Ds = Ds' := by
          have hmap : Ds.map mkMark = Ds'.map mkMark := d1.symm.trans e1
          have hinj : ∀ {l l' : List Nat}, l.map mkMark = l'.map mkMark → l = l' := by
            intro l
            induction l with
            | nil => intro l' h; cases l' with | nil => rfl | cons => cases h
            | cons p l ih => intro l' h; cases l' with
              | nil => cases h
              | cons p' l' =>
                simp only [List.map_cons, List.cons.injEq] at h
                have hp : p = p' := by have := h.1; simp [mkMark] at this; exact this
                rw [hp, ih h.2]
          exact hinj hmap
        rw [heq] at hm
        have := getElem?_lt (e3 _ hm).2.1
        omega
      · rcases List.mem_cons.1 hD with rfl | hD
        · refine ⟨s.b0, by rw [← hw0]; exact World.alloc_heap_new _ _, fun f l ⟨b, k1, k2⟩ hj e => ?_⟩
          obtain ⟨l', g1, g2, _⟩ := s.rb.blk f b k1
          rw [hj] at g1; cases g1
          have := g2 k2
          omega
        · exact d3 D hD
    have hdf1 := hdf0.ext hx1
    -- the call
    cases hc : call (.fn f) (first ++ .yld h.next :: cap) h1 with
    | fail =>
      have hr : rangeBack h.next tm (call (.fn f) (first ++ .yld h.next :: cap) h1) = .ok e tm' h' := hr
      rw [hc] at hr; cases hr
    | ok v h2 =>
      have hr : rangeBack h.next tm (call (.fn f) (first ++ .yld h.next :: cap) h1) = .ok e tm' h' := hr
      rw [hc] at hr
      have hr : pendK h.next tm h2 (h2.blk h.next) = .ok e tm' h' := hr
      have hsound := hcall _ _ _ _ _ hc w1 j1 hR1 (vf ++ #[.func (.yield w0.heap.size) #[] #[]] ++ vc) (by
        rw [Array.toList_append, Array.toList_append, List.append_assoc]
        exact (hv1.mono hle1).append (.cons _ _ _ _ (.yld _ _ hj1n) (hv2.mono hle1)))
      obtain ⟨q3, q4⟩ := hsound
      refine ⟨w0.heap.size, [mkMark w.heap.size], w1, { target := .fn (.func f) vc, args := vf ++ #[.func (.yield w0.heap.size) #[] #[]] }, w1, f, vf ++ #[.func (.yield w0.heap.size) #[] #[]] ++ vc, w1, ?_, ?_, ?_, ?_, ?_, ?_⟩
      · have := run_enterLoop_outer (P := P) (w := w) fn a.tmps ps x y
        rw [hw0] at this
        rw [show Fence.wide.round = none from rfl, this, hsz0]
        have hL : w0.alloc (.loop { state := .ready, pending := none, fn, tmps := a.tmps, params := ps, assign := x, body := y, defers := w.heap.size }) = w1 := hw1'
        rw [hL]
        rfl
      · simp only [resolve, hq, Deferred.ofValue, Sem.run_pure, List.map_toArray, List.map_cons, List.map_nil]
        rfl
      · intro f' _; trivial
      · simp only [invoke]; exact q3
      · intro h; cases h
      · refine CallsIn.mono (q4 _) fun en w2 hp => ?_
        obtain ⟨hmono, cv, rfl, j2, g3, g4, g5⟩ := hp
        -- the record
        have hj2n := g5.le _ _ hj1n
        have hdf2 := hdf1.ext g5
        have htm2 : TmR j2 nt tm a.tmps := (s.tm.mono hle1).mono g5.le
        unfold pendK at hr
        split at hr
        · rename_i st2 hb2
          obtain ⟨l', k1, k2, L2, k3, k4⟩ := g4.blk h.next _ hb2
          rw [hj2n] at k1; cases k1
          have k2 := k2 trivial
          have hstate := k4.state
          have hput : ∀ ob, RB P j2 (h2.put h.next .dead).blk h2.next.toN (w2.putObj w0.heap.size ob) ∧ Ext j2 h2.blk w2 j2 (h2.put h.next .dead).blk (w2.putObj w0.heap.size ob) := fun ob => by
            rw [H.blk_put]
            exact RB.update g4 h.next ⟨_, hb2, trivial⟩ hj2n .dead (by simp) (fun k hk => World.putObj_heap_other hk) rfl rfl rfl trivial
          have hfin : ∀ ob, SR P j2 nt tm (h2.put h.next .dead) b0 { a with defers := [mkMark w.heap.size] ++ a.defers } (w2.putObj w0.heap.size ob) ∧ Ext j h.blk w j2 (h2.put h.next .dead).blk (w2.putObj w0.heap.size ob) := fun ob => by
            obtain ⟨r1, r2⟩ := hput ob
            have hx := ((hx0.trans hx1).trans g5).trans r2
            exact ⟨⟨htm2, by rw [H.next_put]; exact r1, hdf2.ext r2, Nat.le_trans s.b0 hx.size⟩, hx⟩
          cases hbusy : st2.busy with
          | true => rw [hbusy] at hr; cases hr
          | false =>
            rw [hbusy] at hr hstate
            simp only at hr
            cases hpend : st2.pend with
            | none =>
              rw [hpend] at hr hstate
              simp only at hr hstate
              cases hr
              have hend := run_endLoop (P := P) (w := w2) k3 (by rw [hstate.1]; intro h; cases h)
              refine ⟨none, _, hend.trans (congrArg (fun p => Result.ok p _) hstate.2), ?_⟩
              obtain ⟨r1, r2⟩ := hfin (.loop { L2 with state := .exhausted })
              exact hQ j2 _ _ (by rw [H.next_put]; omega) r1 r2
            | some e2 =>
              rw [hpend] at hr hstate
              simp only at hr hstate
              cases hr
              obtain ⟨hs1, hs2, hs3⟩ := hstate
              have hend := run_endLoop (P := P) (w := w2) k3 (by rw [hs1]; intro h; cases h)
              obtain ⟨r1, r2⟩ := hfin (.loop { L2 with state := .exhausted })
              have hfinal := hQ j2 _ _ (by rw [H.next_put]; omega) r1 r2
              cases e with
              | norm => exact absurd rfl hs3
              | exit id =>
                exact ⟨some (.exit id), _, hend.trans (congrArg (fun p => Result.ok p _) hs2), wpIn_exit hfinal⟩
              | ret =>
                exact ⟨some .ret, _, hend.trans (congrArg (fun p => Result.ok p _) hs2), wpIn_ret hfinal⟩
        · cases hr
  · cases hr

/-- all code is sound, if calls are -/
theorem code_ok (hm : P.follows .mixedOrders = true) (hcall : CallsOk P call) (m : Nat) : CodeOk P call nt m :=
  code_sound hm hcall (fun _ g ps x y _ _ _ _ _ _ hr hps _ _ _ _ _ _ s hQ => range_sound hcall g ps x y hr hps s hQ) m
end
end Go.Ev


namespace Go.Ev
variable {P : Program}

section
variable {n nt b0 : Nat} {call : CallF} {j : Inj} {tm : Tm} {h : H} {a : Act} {w : World} {bl : Bl}

/-! ## A round -/

theorem bind_spec : ∀ (ts : List Tmp) {vs : List AV} {cs : List Value} {tm tm1 : Tm} {tmps : Array Value}, VRs j vs cs → bindPs (ts.map Pos.ofNat) vs tm = some tm1 → (∀ p ∈ ts, p < n) → TmR j n tm tmps →
    cs.length = ts.length ∧ TmR j n tm1 ((ts.zip cs).foldl (fun tmps (p : Tmp × Value) => tmps.setIfInBounds p.1 p.2) tmps) := by
  intro ts
  induction ts with
  | nil =>
    intro vs cs tm tm1 tmps hv hb _ ht
    cases hv with
    | nil => cases hb; exact ⟨rfl, ht⟩
    | cons => cases hb
  | cons t ts ih =>
    intro vs cs tm tm1 tmps hv hb hp ht
    cases hv with
    | nil => cases hb
    | cons v vs c cs hv hvs =>
      have hb : bindPs (ts.map Pos.ofNat) vs (T.set v (Pos.ofNat t) tm) = some tm1 := hb
      obtain ⟨h1, h2⟩ := ih hvs hb (fun p hp' => hp p (by simp [hp'])) (ht.put (hp t (by simp)) hv)
      exact ⟨by simp [h1], h2⟩

theorem endK_ok {l : Pos} {e : Ex} {v : AV} {h' : H} {b : Option Blk} (hr : endK l h e b = .ok v h') :
    ∃ st st', b = some (.loop st) ∧ h' = h.put l (.loop st') ∧ st'.tm = st.tm ∧ st'.asg = st.asg ∧ st'.body = st.body ∧ st'.ps = st.ps ∧ st'.busy = false ∧
      ((e = .norm ∧ st'.pend = none ∧ v = .bool true) ∨ (e ≠ .norm ∧ st'.pend = some e ∧ v = .bool false)) := by
  unfold endK at hr
  split at hr
  · rename_i st
    split at hr
    · cases hr
      exact ⟨st, _, rfl, rfl, rfl, rfl, rfl, rfl, rfl, .inl ⟨rfl, rfl, rfl⟩⟩
    · rename_i hne
      cases hr
      exact ⟨st, _, rfl, rfl, rfl, rfl, rfl, rfl, rfl, .inr ⟨fun e => hne e, rfl, rfl⟩⟩
  · cases hr

theorem yield_sound {m : Nat} (hcode : ∀ nt, CodeOk P call nt m) {l : Pos} {args : List AV} {v : AV} {h' : H} (hr : yieldF (runCC call m) l args h (h.blk l) = .ok v h') :
    ∀ w j, RB P j h.blk h.next.toN w → ∀ lc (vs : Array Value), j l = some lc → VRs j args vs.toList → ∃ f tmps assign body, (Instr.yield lc.blk vs).run P w = .ok (.round lc.blk f tmps assign body) w ∧
        ∀ n, RoundIn Fence.wide n P lc.blk f tmps assign body w (RetPost P j h w v h') := by
  intro w j hR lc vs hj hvs
  unfold yieldF at hr
  split at hr
  · rename_i st hb
    split at hr
    · rename_i hbusy hpend
      obtain ⟨l', k1, k2, L, k3, k4⟩ := hR.blk l _ hb
      rw [hj] at k1; cases k1
      obtain ⟨nt, t1, t2, t3, t4, t5⟩ := k4.tm
      cases hbd : bindPs st.ps args st.tm with
      | none => rw [hbd] at hr; cases hr
      | some tm1 =>
        rw [hbd] at hr
        rw [t4] at hbd
        obtain ⟨b1, b2⟩ := bind_spec L.params.toList hvs hbd t5 t1
        have hsize : vs.size = L.params.size := by simpa using b1
        refine ⟨_, _, _, _, run_yield k3 hsize, fun n => roundIn_of_wpIn trivial ?_⟩
        have hr : asgBack (runCC call m) l st.body (runCC call m st.asg tm1 h) = .ok v h' := hr
        have htm : TmR j nt tm1 ((L.params.zip vs).foldl (fun tmps (t, a) => tmps.setIfInBounds t a) L.tmps) := by
          rw [← Array.foldl_toList, Array.toList_zip]
          exact b2
        cases hasg : runCC call m st.asg tm1 h with
        | fail => rw [hasg] at hr; cases hr
        | ok e1 tm2 h2 =>
          rw [hasg] at hr
          cases e1 with
          | exit id => cases hr
          | ret => cases hr
          | norm =>
            have hr : busyK (runCC call m) l st.body tm2 h2 (h2.blk l) = .ok v h' := hr
            rw [← t2] at hasg
            refine hcode nt L.assign false tm1 h .norm tm2 h2 hasg (Fence.wide.inRound lc.blk) n 0 _ w j _ (.inr ⟨_, rfl⟩) (fun e => by cases e) ⟨htm, hR, ⟨[], rfl, List.nodup_nil, fun D hD => by cases hD⟩, Nat.zero_le _⟩ fun j2 a2 w2 m2 s2 x2 => ?_
            show ∃ w₂, (Instr.beginRound lc.blk).run P w2 = .ok () w₂ ∧ L.body.wpIn (Fence.wide.inRound lc.blk) n P (roundPost P lc.blk _) a2 w₂
            unfold busyK at hr
            split at hr
            · rename_i st2 hb2
              split at hr
              · rename_i hbusy2 hpend2
                have hj2 := x2.le _ _ hj
                obtain ⟨l', p1, p2, L2, p3, p4⟩ := s2.rb.blk l _ hb2
                rw [hj2] at p1; cases p1
                have hst2 := p4.state
                rw [hbusy2, hpend2] at hst2
                obtain ⟨nt2, u1, u2, u3, u4, u5⟩ := p4.tm
                refine ⟨_, run_beginRound p3 hst2.1, ?_⟩
                -- the record is busy
                obtain ⟨r1, r2⟩ := RB.update s2.rb l ⟨_, hb2, trivial⟩ hj2 (.loop { st2 with busy := true }) (w' := w2.putObj lc.blk (.loop { L2 with state := .busy })) (by simp) (fun k hk => World.putObj_heap_other hk) rfl rfl rfl
                  ⟨_, World.putObj_heap_same (p2 trivial), ⟨⟨nt2, u1, u2, u3, u4, u5⟩, by simp [hpend2]⟩⟩
                generalize hh3 : h2.put l (.loop { st2 with busy := true }) = h3 at hr
                have hblk3 : h3.blk = Bl.upd h2.blk l (.loop { st2 with busy := true }) := by rw [← hh3, H.blk_put]
                have hnext3 : h3.next = h2.next := by rw [← hh3, H.next_put]
                rw [← hblk3] at r1 r2
                have s3 : SR P j2 nt tm2 h3 0 a2 (w2.putObj lc.blk (.loop { L2 with state := .busy })) := ⟨s2.tm, by rw [hnext3]; exact r1, s2.df.ext r2, Nat.zero_le _⟩
                have hr : bodyBack l (runCC call m st.body tm2 h3) = .ok v h' := hr
                cases hbody : runCC call m st.body tm2 h3 with
                | fail => rw [hbody] at hr; cases hr
                | ok e4 tm4 h4 =>
                  rw [hbody] at hr
                  have hr : endK l h4 e4 (h4.blk l) = .ok v h' := hr
                  obtain ⟨st4, st5, c1, rfl, c3, c4, c5, c6, c7, c8⟩ := endK_ok hr
                  rw [← t3] at hbody
                  refine hcode nt L.body false tm2 h3 e4 tm4 h4 hbody (Fence.wide.inRound lc.blk) n 0 a2 _ j2 _ (.inr ⟨_, rfl⟩) (fun e => by cases e) s3 fun j4 a4 w4 m4 s4 x4 => ?_
                  have hj4 := x4.le _ _ hj2
                  obtain ⟨l', q1, q2, L4, q3, q4⟩ := s4.rb.blk l _ c1
                  rw [hj4] at q1; cases q1
                  obtain ⟨nt4, v1, v2, v3, v4, v5⟩ := q4.tm
                  have hxall := (x2.trans r2).trans x4
                  have hmon : h.next.toN ≤ (h4.put l (.loop st5)).next.toN := by rw [H.next_put]; rw [hnext3] at m4; omega
                  have fin : ∀ (jump : Option Code) (b : Bool), v = .bool b → jump.isNone = b →
                      (match st5.busy, st5.pend with | true, none => (if jump.isNone then LoopState.ready else .done) = .busy | false, none => (if jump.isNone then LoopState.ready else .done) = .ready ∧ jump = none | false, some e => (if jump.isNone then LoopState.ready else .done) = .done ∧ jump = pendCode e ∧ e ≠ .norm | true, some _ => False) →
                      ∃ v' w', (Instr.endRound lc.blk jump).run P w4 = .ok v' w' ∧ RetPost P j h w v (h4.put l (.loop st5)) (.returned v') w' := fun jump b hv hb hst => by
                    refine ⟨_, _, run_endRound jump q3, hmon, .bool jump.isNone, rfl, j4, ?_, ?_⟩
                    · rw [hv, hb]; exact .bool b
                    · obtain ⟨g1, g2⟩ := RB.update s4.rb l ⟨_, c1, trivial⟩ hj4 (.loop st5) (w' := w4.putObj lc.blk (.loop { L4 with state := if jump.isNone then .ready else .done, pending := jump })) (by simp) (fun k hk => World.putObj_heap_other hk) rfl rfl rfl
                        ⟨_, World.putObj_heap_same (q2 trivial), ⟨⟨nt4, by rw [c3]; exact v1, by rw [c4]; exact v2, by rw [c5]; exact v3, by rw [c6]; exact v4, v5⟩, hst⟩⟩
                      rw [H.blk_put, H.next_put]
                      exact ⟨g1, hxall.trans g2⟩
                  rcases c8 with ⟨rfl, d1, d2⟩ | ⟨d0, d1, d2⟩
                  · exact fin none true d2 rfl (by rw [c7, d1]; exact ⟨rfl, rfl⟩)
                  · cases e4 with
                    | norm => exact absurd rfl d0
                    | exit id => exact fin (some (.exit id)) false d2 rfl (by rw [c7, d1]; exact ⟨rfl, rfl, by intro h; cases h⟩)
                    | ret => exact fin (some .ret) false d2 rfl (by rw [c7, d1]; exact ⟨rfl, rfl, by intro h; cases h⟩)
              · cases hr
            · cases hr
    · cases hr
  · cases hr

/-! ## A call of a function -/

theorem argsTm_eq (vs : List AV) : ∀ (i : Nat) (tm : Tm), argsTm vs i tm = setFrom vs tm i := by
  induction vs with
  | nil => intro i tm; rfl
  | cons v vs ih => intro i tm; exact ih (i + 1) (T.set v (Pos.ofNat i) tm)

theorem args_spec {vs : List AV} {cs : Array Value} (hv : VRs j vs cs.toList) (m : Nat) : TmR j m (argsTm vs 0 .nil) (cs ++ Array.replicate (m - cs.size) undef) := by
  have hl := hv.length
  refine ⟨by simp; omega, fun t v ht => ?_⟩
  rw [argsTm_eq, setFrom_get] at ht
  split at ht
  · rename_i hc
    obtain ⟨c, h1, h2⟩ := hv.get ht
    refine ⟨c, ?_, h2⟩
    have h1 : cs[t]? = some c := by simpa using h1
    have := getElem?_lt h1
    rw [Array.getElem?_append_left this]
    exact h1
  · rw [T.get_nil] at ht; cases ht

/-- where a result lies -/
def ResAt (P : Program) (tm : Tm) (h : H) (v : AV) : ResultVar → Prop
  | .tmp t => T.get (Pos.ofNat t) tm = some v
  | .cell p t => ∃ f o, T.get (Pos.ofNat p) tm = some (.ptr f o) ∧ ((isAgg? P t = some false ∧ blkLd1 o (h.blk f) = some v) ∨ ∃ m cs, isAgg? P t = some true ∧ sizeOf? P t = some m ∧ blkLdn o m (h.blk f) = some cs ∧ v = .agg cs)

def resSem (a : Act) (r : ResultVar) : Sem Value := match r with
  | .tmp t => pure (a.tmps.getD t undef)
  | .cell p t => do loadVar t (← asAddr (a.tmps.getD p undef))

theorem resAt_spec (hT : TmR j nt tm a.tmps) (hR : RB P j h.blk n w) {r : ResultVar} {v : AV} (hv : ResAt P tm h v r) : ∃ c, (resSem a r).run P w = .ok c w ∧ VR j v c := by
  cases r with
  | tmp t =>
    obtain ⟨c, g1, g2⟩ := hT.2 t v hv
    exact ⟨c, by simp [resSem, g1], g2⟩
  | cell p t =>
    obtain ⟨f, o, g1, g2⟩ := hv
    obtain ⟨c, g3, g4⟩ := hT.2 p _ g1
    have hgd : a.tmps.getD p undef = c := by simp [g3]
    rcases g2 with ⟨k1, k2⟩ | ⟨m, cs, k1, k2, k3, rfl⟩
    · obtain ⟨b, k, cv, rfl, q1, q2⟩ := ld1_spec hR k2 g4
      exact ⟨cv, by simp only [resSem, hgd, asAddr, Sem.run_bind, Sem.run_pure, Result.andThen_ok, loadVar, q_isAgg k1]; simpa using q1, q2⟩
    · cases g4 with
      | ptr _ _ l hj hb =>
      obtain ⟨_, _, cc, q1, q2⟩ := ldn_spec hR k3 hj
      exact ⟨.agg cc, by simp only [resSem, hgd, asAddr, Sem.run_bind, Sem.run_pure, Result.andThen_ok, loadVar, q_isAgg k1]; simp [q_sizeOf k2, q1], .agg _ _ q2⟩

theorem cF_some {f : FuncId} {cf : CF} (h : cF P f = some cf) : ∃ fn b rs, P.funcs[f]? = some fn ∧ fn.body = some b ∧ mapO (resF P) fn.results.toList = some rs ∧ cf = { body := cC P fn.ntmps true b, res := rs } := by
  unfold cF at h
  split at h
  · rename_i fn hf
    split at h
    · rename_i b hb
      change (mapO (resF P) fn.results.toList).map _ = some cf at h
      cases hm : mapO (resF P) fn.results.toList with
      | none => rw [hm] at h; cases h
      | some rs => rw [hm] at h; cases h; exact ⟨fn, b, rs, hf, hb, hm, rfl⟩
    · cases h
  · cases h

theorem res_spec (hT : TmR j nt tm a.tmps) (hR : RB P j h.blk n w) : ∀ (rl : List ResultVar) (rs : List (Pos × Option Nat)), mapO (resF P) rl = some rs → ∀ vs, resOf tm h rs = some vs →
    ∃ cs : List Value, (rl.mapM (resSem a)).run P w = .ok cs w ∧ VRs j vs cs := by
  intro rl
  induction rl with
  | nil => intro rs h1 vs h2; cases h1; cases h2; exact ⟨[], rfl, .nil⟩
  | cons r rl ih =>
    intro rs h1 vs h2
    unfold mapO at h1
    split at h1
    · rename_i y hy
      cases hm : mapO (resF P) rl with
      | none => rw [hm] at h1; cases h1
      | some ys =>
        rw [hm] at h1; cases h1
        have fin : ∀ v us, vs = v :: us → resOf tm h ys = some us → ResAt P tm h v r → ∃ cs : List Value, ((r :: rl).mapM (resSem a)).run P w = .ok cs w ∧ VRs j vs cs := by
          intro v us hvs hus hv
          obtain ⟨c, g1, g2⟩ := resAt_spec hT hR hv
          obtain ⟨cs, g3, g4⟩ := ih ys hm us hus
          refine ⟨c :: cs, ?_, by rw [hvs]; exact .cons _ _ _ _ g2 g4⟩
          simp only [List.mapM_cons, Sem.run_bind, g1, Result.andThen_ok, g3, Sem.run_pure]
        cases r with
        | tmp t =>
          cases hy
          unfold resOf at h2
          split at h2
          · rename_i v us hv hus; cases h2; exact fin v us rfl hus hv
          · cases h2
        | cell p t =>
          unfold resF at hy
          simp only at hy
          split at hy
          · rename_i m hag hsz
            cases hy
            unfold resOf at h2
            split at h2
            · rename_i f o hp
              split at h2
              · rename_i cs us hl hus
                cases h2
                exact fin _ us rfl hus ⟨f, o, hp, .inr ⟨_, cs, hag, hsz, hl, rfl⟩⟩
              · cases h2
            · cases h2
          · rename_i hag
            cases hy
            unfold resOf at h2
            split at h2
            · rename_i f o hp
              split at h2
              · rename_i v us hl hus
                cases h2
                exact fin v us rfl hus ⟨f, o, hp, .inl ⟨hag, hl⟩⟩
              · cases h2
            · cases h2
          · cases hy
    · cases h1

theorem resVal_spec {vs : List AV} {cs : List Value} (hv : VRs j vs cs) : VR j (resVal vs) (if h : cs.toArray.size = 1 then cs.toArray[0] else .tuple cs.toArray) := by
  cases hv with
  | nil => exact .tup _ _ .nil
  | cons v vs c cs hv hvs =>
    cases hvs with
    | nil => exact hv
    | cons v' vs c' cs hv' hvs =>
      rw [dif_neg (by simp)]
      exact .tup _ _ (.cons _ _ _ _ hv (.cons _ _ _ _ hv' hvs))

theorem resultsRun {fn : Func} {cs : List Value} (hm : (fn.results.toList.mapM (resSem a)).run P w = .ok cs w) : (results fn a.tmps).run P w = .ok (if h : cs.toArray.size = 1 then cs.toArray[0] else .tuple cs.toArray) w := by
  have : results fn a.tmps = (do
    let vs ← fn.results.mapM (resSem a)
    pure (if h : vs.size = 1 then vs[0] else .tuple vs)) := rfl
  rw [this, Array.mapM_eq_mapM_toList]
  simp only [Sem.run_bind, Sem.run_map, hm, Result.andThen_ok, Sem.run_pure]

/-- the marks are come to, one after the other -/
theorem leaves_marks {fn : Func} {R : Ending → World → Prop} : ∀ (Ds : List Nat) (w' : World), RB P j bl n w' → w'.heap.size = w.heap.size → w'.os = w.os → w'.output = w.output → w'.tape = w.tape → Ds.Nodup → (∀ D ∈ Ds, b0 ≤ D ∧ w'.heap[D]? = some (.deferred (some [])) ∧ ∀ f l, Live bl f → j f = some l → l.blk ≠ D) →
    (∀ k, k < b0 ∨ (∃ f l, Live bl f ∧ j f = some l ∧ l.blk = k) → w'.heap[k]? = w.heap[k]?) →
    (∀ w'', RB P j bl n w'' → w''.heap.size = w.heap.size → w''.os = w.os → w''.output = w.output → w''.tape = w.tape → (∀ k, k < b0 → w''.heap[k]? = w.heap[k]?) → ∃ v, (results fn a.tmps).run P w'' = .ok v w'' ∧ R (.returned v) w'') →
    LeavesInM Fence.wide nt P fn a.tmps R (Ds.map mkMark) .returning w' := by
  intro Ds
  induction Ds with
  | nil =>
    intro w' hR hs ho hout ht _ _ hk hfin
    exact hfin w' hR hs ho hout ht fun k hlt => hk k (.inl hlt)
  | cons D Ds ih =>
    intro w' hR hs ho hout ht hnd hD hk hfin
    obtain ⟨d1, d2, d3⟩ := hD D (by simp)
    refine ⟨(fun h => by cases h), .inl ⟨D, w'.putObj D (.deferred none), rfl, run_takeDeferred d2, ?_⟩⟩
    obtain ⟨n1, n2⟩ := List.nodup_cons.1 hnd
    refine ih _ (hR.putOther _ d3) (by simpa using hs) ho hout ht n2 (fun D' hD' => ?_) (fun k hk' => ?_) hfin
    · obtain ⟨e1, e2, e3⟩ := hD D' (by simp [hD'])
      exact ⟨e1, by rw [World.putObj_heap_other (r := D) (k := D') (fun e => n1 (by rw [← e]; exact hD'))]; exact e2, e3⟩
    · rw [World.putObj_heap_other ?_]
      · exact hk k hk'
      · intro e
        subst e
        rcases hk' with h | ⟨f, l, h1, h2, h3⟩
        · omega
        · exact d3 f l h1 h2 h3

theorem enter_sound {m : Nat} (hcode : ∀ nt, CodeOk P call nt m) (hname : ∀ (f : FuncId) (fn : Func), P.funcs[f]? = some fn → fn.name ≠ "runtime.NumGoroutine") {f : FuncId} {args : List AV} {v : AV} {h' : H}
    (hr : enterF (runCC call m) args h (cF P f) = .ok v h') : ∀ w j, RB P j h.blk h.next.toN w → ∀ vs : Array Value, VRs j args vs.toList →
      (callFunc f vs).run P w = .ok (.enter f vs) w ∧ ∀ n, CallsIn Fence.wide n P f vs w (RetPost P j h w v h') := by
  intro w j hR vs hvs
  cases hcf : cF P f with
  | none => rw [hcf] at hr; cases hr
  | some cf =>
    rw [hcf] at hr
    obtain ⟨fn, b, rs, hf, hb, hrs, rfl⟩ := cF_some hcf
    have hr : endF rs (runCC call m (cC P fn.ntmps true b) (argsTm args 0 .nil) h) = .ok v h' := hr
    refine ⟨?_, fun n => ?_⟩
    · simp [callFunc, program, Sem.run, hf, hname f fn hf, hb]
    · refine callsIn_of_wp_marks hf hb trivial ?_
      cases hbody : runCC call m (cC P fn.ntmps true b) (argsTm args 0 .nil) h with
      | fail => rw [hbody] at hr; cases hr
      | ok e tm2 h2 =>
        rw [hbody] at hr
        have hend : resK h2 (resOf tm2 h2 rs) = .ok v h' ∧ (e = .norm ∨ e = .ret) := by
          cases e with
          | norm => exact ⟨hr, .inl rfl⟩
          | exit id => cases hr
          | ret => exact ⟨hr, .inr rfl⟩
        obtain ⟨hres, he⟩ := hend
        refine hcode fn.ntmps b true _ h e tm2 h2 hbody Fence.wide n w.heap.size _ w j _ (.inl rfl) (fun _ => rfl) ⟨args_spec hvs fn.ntmps, hR, ⟨[], rfl, List.nodup_nil, fun D hD => by cases hD⟩, Nat.le_refl _⟩ fun j2 a2 w2 m2 s2 x2 => ?_
        cases hro : resOf tm2 h2 rs with
        | none => rw [hro] at hres; cases hres
        | some us =>
          rw [hro] at hres
          cases hres
          have hpost : LeavesInM Fence.wide n P fn a2.tmps (RetPost P j h w (resVal us) h') a2.defers .returning w2 := by
            obtain ⟨Ds, d1, d2, d3⟩ := s2.df
            rw [d1]
            refine leaves_marks (b0 := w.heap.size) (w := w2) Ds w2 s2.rb rfl rfl rfl rfl d2 d3 (fun _ _ => rfl) fun w3 r1 r2 r3 r4 r5 r6 => ?_
            obtain ⟨cs, g1, g2⟩ := res_spec (w := w3) s2.tm r1 fn.results.toList rs hrs us hro
            refine ⟨_, resultsRun g1, m2, _, rfl, j2, resVal_spec g2, r1, ⟨x2.le, by rw [r2]; exact x2.size, fun k hk hk' => ?_, x2.img, r3.trans x2.os, r4.trans x2.output, r5.trans x2.tape, x2.dom, x2.mono⟩⟩
            rw [r6 k hk]
            exact x2.keep k hk hk'
          rcases he with rfl | rfl
          · exact hpost
          · exact hpost

/-- **Calls are sound.** -/
theorem calls_ok (hm : P.follows .mixedOrders = true) (hname : ∀ (f : FuncId) (fn : Func), P.funcs[f]? = some fn → fn.name ≠ "runtime.NumGoroutine") : ∀ m, CallsOk P (runF (cF P) m) := by
  intro m
  induction m with
  | zero => intro f args h v h' hr; cases hr
  | succ m ih =>
    intro f args h v h' hr w j hR
    have hr : stepF (cF P) (runCC (runF (cF P) m) m) f args h = .ok v h' := hr
    cases f with
    | fn f => exact enter_sound (fun nt => code_ok hm ih m) hname hr w j hR
    | yld l => exact yield_sound (fun nt => code_ok hm ih m) hr w j hR
end
end Go.Ev

