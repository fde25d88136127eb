/- PROVED HERE: a part (Oa) of the tied card of LibMatrices (floodgatelaw25): the call returns true and its arguments read as before. CONDITIONS: those of the given row and card alone. HOW: an evaluator of Go calls with unknown integers is proved sound (Eva to Evg), functions of the closure are walked and answered by readers of the heap (Wk, Wv, Oa, Ob), the runs are reckoned by the kernel (Lt), the statement itself is walked (Wm), the row and the card stand in Cf and Cp. -/
import Derived.Test.YtgbmggmblcfhkaaGreatDoorEvg
import Derived.Test.YtgbmggmblcfhkaaGreatDoorWk
namespace Go.Ev
open Go.RowKit
variable {P : Env}

/-! # Oracles that read the heap: cells behind pointers, elements of slices, in continuation style -/

noncomputable def oNth (i : Nat) : List AV → (AV → Ans) → Ans :=
  Nat.rec (motive := fun _ => List AV → (AV → Ans) → Ans) (fun xs k => List.rec (motive := fun _ => Ans) .no (fun x _ _ => k x) xs) (fun _ ih xs k => List.rec (motive := fun _ => Ans) .no (fun _ t _ => ih t k) xs) i
theorem oNth_ok {i : Nat} : ∀ {xs : List AV} {k : AV → Ans}, oNth i xs k = .yes → ∃ x, xs[i]? = some x ∧ k x = .yes := by
  induction i with
  | zero =>
    intro xs k h
    cases xs with
    | nil => cases h
    | cons x t => exact ⟨x, rfl, h⟩
  | succ i ih =>
    intro xs k h
    cases xs with
    | nil => cases h
    | cons x t => obtain ⟨y, h1, h2⟩ := ih (xs := t) h; exact ⟨y, by simpa using h1, h2⟩
/-- cell i behind a pointer -/
noncomputable def oRd (h : H) (p : AV) (i : Nat) (k : AV → Ans) : Ans :=
  VP.rec (motive := fun _ => Ans) .no (fun f o => (fun (o : Nat) => H.rec (motive := fun _ => Ans) (fun _ m => WK.rec (motive := fun _ => Ans) (fun get _ _ => get m (fun b => VK.rec (motive := fun _ => Ans) .no (fun c lo hi _ _ => Bool.rec (motive := fun _ => Ans) .no (Bool.rec (motive := fun _ => Ans) .no (WK.rec (motive := fun _ => Ans) (fun get _ _ => get c k) (wayKv o : WK AV (L10 AV))) (Nat.ble (Nat.succ o) hi)) (Nat.ble lo o)) b.vK)) (ackb10 f : WK Blk (L10 Blk))) h) (Nat.add o i)) (fun cs => Nat.rec (motive := fun _ => List AV → Ans) (fun xs => List.rec (motive := fun _ => Ans) .no (fun x _ _ => k x) xs) (fun _ ih xs => List.rec (motive := fun _ => Ans) .no (fun _ t _ => ih t) xs) i cs) p.vP
theorem oNthB_eq (i : Nat) (k : AV → Ans) : ∀ xs : List AV, Nat.rec (motive := fun _ => List AV → Ans) (fun xs => List.rec (motive := fun _ => Ans) .no (fun x _ _ => k x) xs) (fun _ ih xs => List.rec (motive := fun _ => Ans) .no (fun _ t _ => ih t) xs) i xs = oNth i xs k := by
  induction i with
  | zero => intro xs; rfl
  | succ i ih => intro xs; cases xs with
    | nil => rfl
    | cons x t => exact ih t
theorem oRd_eq (h : H) (p : AV) (i : Nat) (k : AV → Ans) : oRd h p i k = VP.rec (motive := fun _ => Ans) .no (fun f o => ld1K h f (Nat.add o i) k) (fun cs => oNth i cs k) p.vP := by
  unfold oRd
  rw [ackb_eq, wayKv_eq']
  cases p.vP with
  | no => rfl
  | ptr f o => rfl
  | lp cs => exact oNthB_eq i k cs
theorem vP_ptr {p : AV} {f : Pos} {o : Nat} (h : p.vP = .ptr f o) : p = .ptr f o := by cases p <;> first | (cases h; rfl) | cases h
theorem vP_lp {p : AV} {cs : List AV} (h : p.vP = .lp cs) : p = .lp cs := by cases p <;> first | (cases h; rfl) | cases h
theorem cell_of {w : World} {b o : Nat} {cs : Array Value} {e : TypeId} {fz : Nat × Nat} {cv : Value} (h : w.heap[b]? = some (.cells cs e fz)) (h2 : cs[o]? = some cv) : w.cell? ⟨b, o, none⟩ = some cv := by
  unfold World.cell?
  simp only [h]
  simpa using h2
theorem oRd_ok {j : Inj} {h : H} {n : Nat} {w : World} (hR : RB P j h.blk n w) {p : AV} {b o i : Nat} (hp : VR j p (.pointer (some ⟨b, o, none⟩))) {k : AV → Ans} (hk : oRd h p i k = .yes) :
    ∃ v cv, w.cell? ⟨b, o + i, none⟩ = some cv ∧ VR j v cv ∧ k v = .yes := by
  rw [oRd_eq] at hk
  cases hv : p.vP with
  | no => rw [hv] at hk; cases hk
  | ptr f o' =>
    rw [hv] at hk
    obtain rfl := vP_ptr hv
    have hk : ld1K h f (o' + i) k = .yes := hk
    rw [ld1K_eq, ld1F_eq] at hk
    cases hb : blkLd1 (o' + i) (h.blk f) with
    | none => rw [hb] at hk; cases hk
    | some v =>
      rw [hb] at hk
      obtain ⟨ct, lo, hi, h1, h2, h3, h4⟩ := blkLd1_some hb
      obtain ⟨l, cs, e, fz, h5, h7, h9⟩ := hR.rd h1
      cases hp with
      | ptr _ _ l' hj hbs =>
        rw [h5] at hj; cases hj
        obtain ⟨cv, h10, h11⟩ := h9.at_ (o' + i) v h2 h3 h4
        refine ⟨v, cv, cell_of h7 ?_, h11, hk⟩
        rw [show o' - l.base + i = o' + i - l.base by omega]; exact h10
  | lp us =>
    rw [hv] at hk
    obtain rfl := vP_lp hv
    obtain ⟨x, h1, h2⟩ := oNth_ok (show oNth i us k = .yes from hk)
    cases hp with
    | lp _ _ _ cs e fz hfr hkk hvs =>
      obtain ⟨cv, h3, h4⟩ := hvs.get h1
      have hlt := (List.getElem?_eq_some_iff.1 h1).1
      refine ⟨x, cv, cell_of (hR.ice _ _ hfr).1 ?_, h4, h2⟩
      rw [Array.getElem?_toList, Array.getElem?_extract] at h3
      split at h3
      · exact h3
      · cases h3
theorem vX_sl {s : AV} {f : Pos} {o len sz : Nat} (h : s.vX = .sl f o len sz) : ∃ cap ex, s = .sl f o len cap ex sz := by cases s <;> first | (cases h; exact ⟨_, _, rfl⟩) | cases h
theorem vX_lst {s : AV} {xs : List AV} (h : s.vX = .lst xs) : ∃ cap, s = .lst cap xs := by cases s <;> first | (cases h; exact ⟨_, rfl⟩) | cases h
/-- a pointer to element i of a slice, whose elements have so many cells -/
noncomputable def oEl (s : AV) (i sz : Nat) (k : AV → Ans) : Ans :=
  VX.rec (motive := fun _ => Ans) .no (fun f o len sz' => Bool.rec (motive := fun _ => Ans) .no (Bool.rec (motive := fun _ => Ans) .no (k (.ptr f (Nat.add o (Nat.mul i sz)))) (Nat.ble (Nat.succ i) len)) (Nat.beq sz sz'))
    (fun xs => oNth i xs (fun x => VC.rec (motive := fun _ => Ans) .no .no (Bool.rec (motive := fun _ => Ans) .no (k (.lp [x])) (Nat.beq sz (nat_lit 1))) (fun cs => Bool.rec (motive := fun _ => Ans) .no (k (.lp cs)) (Nat.beq (lenF cs) sz)) x.vC)) s.vX
/-- how many elements -/
noncomputable def oLn (s : AV) (k : Nat → Ans) : Ans := VX.rec (motive := fun _ => Ans) .no (fun _ _ len _ => k len) (fun xs => k (lenF xs)) s.vX
theorem oLn_ok {j : Inj} {s : AV} {sv : Value} (hs : VR j s sv) {k : Nat → Ans} (hk : oLn s k = .yes) : ∃ p n c, sv = .slice p n c ∧ k n = .yes := by
  unfold oLn at hk
  cases hv : s.vX with
  | no => rw [hv] at hk; cases hk
  | sl f o len sz =>
    rw [hv] at hk
    obtain ⟨cap, ex, rfl⟩ := vX_sl hv
    cases hs with
    | sl => exact ⟨_, _, _, rfl, hk⟩
  | lst xs =>
    rw [hv] at hk
    obtain ⟨cap, rfl⟩ := vX_lst hv
    have hk : k (lenF xs) = .yes := hk
    rw [lenF_eq] at hk
    cases hs with
    | lstE => exact ⟨_, _, _, rfl, hk⟩
    | lst => exact ⟨_, _, _, rfl, hk⟩
theorem vC_one {x : AV} (h : x.vC = .one) : x.cells = [x] := by cases x <;> first | rfl | cases h
theorem vC_agg {x : AV} {cs : List AV} (h : x.vC = .agg cs) : x.cells = cs := by
  cases x with
  | agg ds => cases h; rfl
  | _ => cases h
theorem cellsOf_get {sz : Nat} {x : AV} : ∀ {xs : List AV} {i : Nat}, (∀ y ∈ xs, y.cells.length = sz) → xs[i]? = some x → ∀ t, t < sz → (cellsOf xs)[i * sz + t]? = x.cells[t]? := by
  intro xs
  induction xs with
  | nil => intro i _ h; simp at h
  | cons y ys ih =>
    intro i hs hi t ht
    have hy := hs y List.mem_cons_self
    show (y.cells ++ cellsOf ys)[i * sz + t]? = _
    cases i with
    | zero =>
      simp only [List.getElem?_cons_zero, Option.some.injEq] at hi
      subst hi
      rw [Nat.zero_mul, Nat.zero_add, List.getElem?_append_left (by omega)]
    | succ i =>
      simp only [List.getElem?_cons_succ] at hi
      have h2 : (i + 1) * sz = i * sz + sz := Nat.succ_mul i sz
      rw [List.getElem?_append_right (by omega), show (i + 1) * sz + t - y.cells.length = i * sz + t by omega]
      exact ih (fun z hz => hs z (List.mem_cons_of_mem _ hz)) hi t ht
theorem VRs.sub {j : Inj} {us vs : List AV} {cs : List Value} (h : VRs j vs cs) (m : Nat) (hu : ∀ t, t < us.length → vs[m + t]? = us[t]?) : VRs j us ((cs.drop m).take us.length) := by
  induction us generalizing m with
  | nil => simp; exact .nil
  | cons u us ih =>
    have h0 := hu 0 (by simp)
    simp only [Nat.add_zero, List.getElem?_cons_zero] at h0
    obtain ⟨c, h1, h2⟩ := h.get h0
    have hm : m < cs.length := (List.getElem?_eq_some_iff.1 h1).1
    rw [List.drop_eq_getElem_cons hm]
    simp only [List.length_cons, List.take_succ_cons]
    have hc : cs[m] = c := (List.getElem?_eq_some_iff.1 h1).2
    rw [hc]
    refine .cons _ _ _ _ h2 (ih (m + 1) fun t ht => ?_)
    have := hu (t + 1) (by simp; omega)
    simp only [List.getElem?_cons_succ] at this
    rw [show m + 1 + t = m + (t + 1) by omega]; exact this
theorem oEl_ok {j : Inj} {s : AV} {sv : Value} (hs : VR j s sv) {i sz : Nat} (hsz : 0 < sz) {k : AV → Ans} (hk : oEl s i sz k = .yes) :
    ∃ b o m c p, sv = .slice (some ⟨b, o, none⟩) m c ∧ i < m ∧ VR j p (.pointer (some ⟨b, o + i * sz, none⟩)) ∧ k p = .yes := by
  unfold oEl at hk
  cases hv : s.vX with
  | no => rw [hv] at hk; cases hk
  | sl f o len sz' =>
    rw [hv] at hk
    obtain ⟨cap, ex, rfl⟩ := vX_sl hv
    have hk2 : Bool.rec (motive := fun _ => Ans) .no (Bool.rec (motive := fun _ => Ans) .no (k (.ptr f (o + i * sz))) (Nat.ble (i + 1) len)) (Nat.beq sz sz') = .yes := hk
    clear hk
    cases hb : Nat.beq sz sz' with
    | false => rw [hb] at hk2; cases hk2
    | true =>
      cases hl : Nat.ble (i + 1) len with
      | false => rw [hb, hl] at hk2; cases hk2
      | true =>
        rw [hb, hl] at hk2
        have hl := Nat.le_of_ble_eq_true hl
        obtain rfl := Nat.eq_of_beq_eq_true hb
        cases hs with
        | sl _ _ _ _ _ _ l a capc hj hcap hex hlen hloc =>
          rcases hloc with h0 | ⟨h1, rfl, h2⟩
          · omega
          · refine ⟨_, _, _, _, _, rfl, by omega, ?_, hk2⟩
            have := VR.ptr f (o + i * sz) l hj (by omega)
            rwa [show o + i * sz - l.base = o - l.base + i * sz by omega] at this
  | lst xs =>
    rw [hv] at hk
    obtain ⟨cap, rfl⟩ := vX_lst hv
    obtain ⟨x, hx, hk⟩ := oNth_ok (show oNth i xs _ = .yes from hk)
    have hi := (List.getElem?_eq_some_iff.1 hx).1
    have key : ∃ cs, x.cells = cs ∧ cs.length = sz ∧ k (.lp cs) = .yes := by
      cases hc : x.vC with
      | no => rw [hc] at hk; cases hk
      | tup => rw [hc] at hk; cases hk
      | one =>
        rw [hc] at hk
        have hk : Bool.rec (motive := fun _ => Ans) .no (k (.lp [x])) (Nat.beq sz 1) = .yes := hk
        cases hb : Nat.beq sz 1 with
        | false => rw [hb] at hk; cases hk
        | true => rw [hb] at hk; exact ⟨[x], vC_one hc, (Nat.eq_of_beq_eq_true hb).symm, hk⟩
      | agg cs =>
        rw [hc] at hk
        have hk : Bool.rec (motive := fun _ => Ans) .no (k (.lp cs)) (Nat.beq (lenF cs) sz) = .yes := hk
        cases hb : Nat.beq (lenF cs) sz with
        | false => rw [hb] at hk; cases hk
        | true => rw [hb] at hk; exact ⟨cs, vC_agg hc, by rw [← lenF_eq]; exact Nat.eq_of_beq_eq_true hb, hk⟩
    obtain ⟨cs, h1, h2, h3⟩ := key
    cases hs with
    | lstE => simp at hi
    | lst _ _ b k0 capc sz' cv e fz hfr hcap hex hszx hkk hvs =>
      have hsz' : sz' = sz := by rw [← hszx x (List.mem_of_getElem? hx), h1, h2]
      subst hsz'
      refine ⟨_, _, _, _, _, rfl, hi, ?_, h3⟩
      have hle : i * sz' + sz' ≤ xs.length * sz' := by
        have : (i + 1) * sz' ≤ xs.length * sz' := Nat.mul_le_mul_right _ hi
        rw [Nat.succ_mul] at this; exact this
      refine VR.lp cs b (k0 + i * sz') cv e fz hfr (by omega) ?_
      have hsub := VRs.sub (us := cs) hvs (i * sz') (fun t ht => by rw [cellsOf_get hszx hx t (by omega), h1])
      have he : (((cv.extract k0 (k0 + xs.length * sz')).toList.drop (i * sz')).take cs.length) = (cv.extract (k0 + i * sz') (k0 + i * sz' + cs.length)).toList := by
        rw [Array.toList_extract, Array.toList_extract, List.extract_eq_take_drop, List.extract_eq_take_drop, List.drop_take, List.drop_drop, List.take_take]
        congr 1
        omega
      rw [he] at hsub
      exact hsub
end Go.Ev
namespace Go.Ev
open Go.RowKit Go.Proofs.Cl
variable {P : Env}

/-! # What a context's outputs are, read by an oracle -/

/-- an integer of a kind (i64: true, u8: false) -/
noncomputable def oInt (v : AV) (k : Int → Ans) : Ans := VI.rec (motive := fun _ => Ans) .no (fun kd n => IntKind.rec (motive := fun _ => Ans) .no .no .no (k n) .no .no .no .no kd) v.vI
noncomputable def oU8 (v : AV) (k : Int → Ans) : Ans := VI.rec (motive := fun _ => Ans) .no (fun kd n => IntKind.rec (motive := fun _ => Ans) .no .no .no .no (k n) .no .no .no kd) v.vI
theorem oInt_ok {j : Inj} {v : AV} {cv : Value} (hv : VR j v cv) {k : Int → Ans} (h : oInt v k = .yes) : ∃ n, cv = .int .i64 n ∧ v = .int .i64 n ∧ k n = .yes := by
  cases v with
  | int kd n => cases kd <;> first | (cases h; done) | (cases hv; exact ⟨n, rfl, rfl, h⟩)
  | _ => cases h
theorem oU8_ok {j : Inj} {v : AV} {cv : Value} (hv : VR j v cv) {k : Int → Ans} (h : oU8 v k = .yes) : ∃ n, cv = .int .u8 n ∧ v = .int .u8 n ∧ k n = .yes := by
  cases v with
  | int kd n => cases kd <;> first | (cases h; done) | (cases hv; exact ⟨n, rfl, rfl, h⟩)
  | _ => cases h
noncomputable def oNat (v : AV) (k : Nat → Ans) : Ans := oInt v (fun n => Int.rec (motive := fun _ => Ans) k (fun _ => .no) n)
theorem oNat_ok {j : Inj} {v : AV} {cv : Value} (hv : VR j v cv) {k : Nat → Ans} (h : oNat v k = .yes) : ∃ n : Nat, cv = .int .i64 n ∧ v = .int .i64 n ∧ k n = .yes := by
  obtain ⟨n, h1, h2, h3⟩ := oInt_ok hv h
  cases n with
  | ofNat m => exact ⟨m, h1, h2, h3⟩
  | negSucc m => cases h3
/-- an integer that is known, or one that is not -/
inductive VZ where | no | int (n : Int) | sym (c : Nat)
noncomputable def vZ (v : AV) : VZ :=
  AV.rec (motive_1 := fun _ => VZ) (motive_2 := fun _ => PUnit) .no (fun _ => .no) (fun kd n => IntKind.rec (motive := fun _ => VZ) .no .no .no (.int n) .no .no .no .no kd) (fun _ => .no) .no (fun _ _ => .no) .no (fun _ _ _ _ _ _ => .no) .no (fun _ => .no) .no (fun _ _ _ _ _ => .no) (fun _ => .no) .no (fun _ _ _ => .no) (fun _ _ => .no) (fun _ _ => .no) (fun _ _ _ => .no) (fun _ _ => .no) (fun _ _ _ _ => .no) .no (fun c => .sym c) ⟨⟩ (fun _ _ _ _ => ⟨⟩) v
noncomputable def oZ (v : AV) (k : Ans) : Ans := VZ.rec (motive := fun _ => Ans) .no (fun _ => k) (fun _ => k) (vZ v)
theorem oZ_ok {j : Inj} {v : AV} {cv : Value} (hv : VR j v cv) {k : Ans} (h : oZ v k = .yes) : ∃ n, cv = .int .i64 n ∧ k = .yes := by
  cases v with
  | int kd n => cases kd <;> first | (cases h; done) | (cases hv; exact ⟨n, rfl, h⟩)
  | sym c => cases hv; exact ⟨_, rfl, h⟩
  | _ => cases h
/-- a place: its two cells -/
def frA : Fr → List AV
  | .par q => [.int .i64 (-1), .int .i64 q]
  | .out a q => [.int .i64 a, .int .i64 q]
noncomputable def oFr (cs : List AV) (kp : Nat → Ans) (ko : Nat → Nat → Ans) : Ans :=
  List.rec (motive := fun _ => Ans) .no (fun a t _ => List.rec (motive := fun _ => Ans) .no (fun b t2 _ => List.rec (motive := fun _ => Ans) (oInt a (fun a => oNat b (fun q => Int.rec (motive := fun _ => Ans) (fun a => ko a q) (fun a => Bool.rec (motive := fun _ => Ans) .no (kp q) (Nat.beq a (nat_lit 0))) a))) (fun _ _ _ => .no) t2) t) cs
theorem oInt_av {v : AV} {k : Int → Ans} (h : oInt v k = .yes) : ∃ n, v = .int .i64 n ∧ k n = .yes := by
  cases v with
  | int kd n => cases kd <;> first | (cases h; done) | exact ⟨n, rfl, h⟩
  | _ => cases h
theorem oNat_av {v : AV} {k : Nat → Ans} (h : oNat v k = .yes) : ∃ n : Nat, v = .int .i64 n ∧ k n = .yes := by
  obtain ⟨n, h1, h2⟩ := oInt_av h
  cases n with
  | ofNat m => exact ⟨m, h1, h2⟩
  | negSucc m => cases h2
theorem oFr_ok {cs : List AV} {kp : Nat → Ans} {ko : Nat → Nat → Ans} (h : oFr cs kp ko = .yes) : (∃ q, cs = frA (.par q) ∧ kp q = .yes) ∨ ∃ a q, cs = frA (.out a q) ∧ ko a q = .yes := by
  cases cs with
  | nil => cases h
  | cons a t =>
    cases t with
    | nil => cases h
    | cons b t =>
      cases t with
      | cons c t => cases h
      | nil =>
        obtain ⟨n, rfl, h⟩ := oInt_av (show oInt a _ = .yes from h)
        obtain ⟨q, rfl, h⟩ := oNat_av (show oNat b _ = .yes from h)
        cases n with
        | ofNat m => exact .inr ⟨m, q, rfl, h⟩
        | negSucc m =>
          cases m with
          | zero => exact .inl ⟨q, rfl, h⟩
          | succ m => cases h
/-- a value of the language: its kind -/
noncomputable def oKind (h : H) (e : AV) (k : Int → Ans) : Ans := oRd h e (nat_lit 0) (fun kd => oU8 kd (fun kd => oRd h e (nat_lit 1) (fun n => oZ n (k kd))))
theorem oKind_ok {j : Inj} {h : H} {n : Nat} {w : World} (hR : RB P j h.blk n w) {p : AV} {b o : Nat} (hp : VR j p (.pointer (some ⟨b, o, none⟩))) {k : Int → Ans} (hk : oKind h p k = .yes) :
    ∃ kd nn, VAt w b o kd nn ∧ k kd = .yes := by
  obtain ⟨v, cv, h1, h2, h3⟩ := oRd_ok hR hp (show oRd h p 0 _ = .yes from hk)
  obtain ⟨kd, rfl, _, h3⟩ := oU8_ok h2 h3
  obtain ⟨v2, cv2, h4, h5, h6⟩ := oRd_ok hR hp (show oRd h p 1 _ = .yes from h3)
  obtain ⟨nn, rfl, h6⟩ := oZ_ok h5 h6
  exact ⟨kd, nn, ⟨h1, h4⟩, h6⟩
noncomputable def oPar (h : H) (c : AV) (q : Nat) (k : Int → Ans) : Ans := oRd h c (nat_lit 4) (fun s => oEl s q (nat_lit 2) (fun e => oKind h e k))
noncomputable def oOut (h : H) (c : AV) (a q : Nat) (k : Int → Ans) : Ans := oRd h c (nat_lit 5) (fun s => oEl s a (nat_lit 1) (fun p => oRd h p (nat_lit 0) (fun s => oEl s q (nat_lit 2) (fun e => oKind h e k))))
theorem oPar_ok {j : Inj} {h : H} {n : Nat} {w : World} (hR : RB P j h.blk n w) {c : AV} {cb co q : Nat} (hp : VR j c (.pointer (some ⟨cb, co, none⟩))) {k : Int → Ans} (hk : oPar h c q k = .yes) :
    ∃ kd nn, Is w cb co (.par q) kd nn ∧ k kd = .yes := by
  obtain ⟨s, sv, h1, h2, h3⟩ := oRd_ok hR hp (show oRd h c 4 _ = .yes from hk)
  obtain ⟨b, o, m, cc, p, rfl, h4, h5, h6⟩ := oEl_ok h2 (by omega) (show oEl s q 2 _ = .yes from h3)
  obtain ⟨kd, nn, h7, h8⟩ := oKind_ok hR h5 h6
  exact ⟨kd, nn, ⟨b, o, m, cc, h1, h4, h7⟩, h8⟩
theorem oOut_ok {j : Inj} {h : H} {n : Nat} {w : World} (hR : RB P j h.blk n w) {c : AV} {cb co a q : Nat} (hp : VR j c (.pointer (some ⟨cb, co, none⟩))) {k : Int → Ans} (hk : oOut h c a q k = .yes) :
    ∃ kd nn, Is w cb co (.out a q) kd nn ∧ k kd = .yes := by
  obtain ⟨s, sv, h1, h2, h3⟩ := oRd_ok hR hp (show oRd h c 5 _ = .yes from hk)
  obtain ⟨b, o, m, cc, p, rfl, h4, h5, h6⟩ := oEl_ok h2 (by omega) (show oEl s a 1 _ = .yes from h3)
  rw [Nat.mul_one] at h5
  obtain ⟨s2, sv2, g1, g2, g3⟩ := oRd_ok hR h5 (show oRd h p 0 _ = .yes from h6)
  obtain ⟨b2, o2, m2, c2, p2, rfl, g4, g5, g6⟩ := oEl_ok g2 (by omega) (show oEl s2 q 2 _ = .yes from g3)
  obtain ⟨kd, nn, h7, h8⟩ := oKind_ok hR g5 g6
  exact ⟨kd, nn, ⟨b, o, m, cc, b2, o2, m2, c2, h1, h4, g1, g4, h7⟩, h8⟩
/-- is it no hole? -/
noncomputable def isT (n : Int) : Bool := Int.rec (motive := fun _ => Bool) (fun m => Nat.rec (motive := fun _ => Bool) false (fun _ _ => true) m) (fun _ => true) n
theorem isT_eq (n : Int) : isT n = (n != 0) := by
  cases n with
  | ofNat m => cases m <;> rfl
  | negSucc m => rfl
/-- which of the places have a value -/
noncomputable def oThere (h : H) (c : AV) (xs : List AV) : (List Bool → Ans) → Ans :=
  List.rec (motive := fun _ => (List Bool → Ans) → Ans) (fun k => k []) (fun x _ ih k => VC.rec (motive := fun _ => Ans) .no .no .no (fun cs => oFr cs (fun q => oPar h c q (fun kd => ih (fun l => k (isT kd :: l)))) (fun a q => oOut h c a q (fun kd => ih (fun l => k (isT kd :: l))))) x.vC) xs
theorem oThere_ok {j : Inj} {h : H} {n : Nat} {w : World} (hR : RB P j h.blk n w) {c : AV} {cb co : Nat} (hp : VR j c (.pointer (some ⟨cb, co, none⟩))) : ∀ {xs : List AV} {k : List Bool → Ans}, oThere h c xs k = .yes →
    ∃ (fs : List Fr) (ks ns : Nat → Int), xs.map AV.cells = fs.map frA ∧ (∀ i, i < fs.length → Is w cb co (fs.getD i (.par 0)) (ks i) (ns i)) ∧ k ((List.range fs.length).map fun i => ks i != 0) = .yes := by
  intro xs
  induction xs with
  | nil => intro k hk; exact ⟨[], fun _ => 0, fun _ => 0, rfl, fun i hi => absurd hi (Nat.not_lt_zero _), hk⟩
  | cons x xs ih =>
    intro k hk
    have hk : VC.rec (motive := fun _ => Ans) .no .no .no (fun cs => oFr cs (fun q => oPar h c q (fun kd => oThere h c xs (fun l => k (isT kd :: l)))) (fun a q => oOut h c a q (fun kd => oThere h c xs (fun l => k (isT kd :: l))))) x.vC = .yes := hk
    cases hc : x.vC with
    | agg cs =>
      rw [hc] at hk
      have hcx := vC_agg hc
      have fin : ∀ (f : Fr) (kd nn : Int), cs = frA f → Is w cb co f kd nn → oThere h c xs (fun l => k (isT kd :: l)) = .yes →
          ∃ (fs : List Fr) (ks ns : Nat → Int), (x :: xs).map AV.cells = fs.map frA ∧ (∀ i, i < fs.length → Is w cb co (fs.getD i (.par 0)) (ks i) (ns i)) ∧ k ((List.range fs.length).map fun i => ks i != 0) = .yes := by
        intro f kd nn h1 h2 h3
        obtain ⟨fs, ks, ns, g1, g2, g3⟩ := ih h3
        refine ⟨f :: fs, fun i => Nat.casesOn i kd ks, fun i => Nat.casesOn i nn ns, ?_, ?_, ?_⟩
        · show x.cells :: xs.map AV.cells = frA f :: fs.map frA
          rw [hcx, h1, g1]
        · intro i hi
          cases i with
          | zero => exact h2
          | succ i => exact g2 i (by simpa using hi)
        · rw [isT_eq] at g3
          have : (List.range (f :: fs).length).map (fun i => (Nat.casesOn i kd ks : Int) != 0) = (kd != 0) :: (List.range fs.length).map (fun i => ks i != 0) := by
            rw [List.length_cons, List.range_succ_eq_map, List.map_cons, List.map_map]; rfl
          rw [this]; exact g3
      rcases oFr_ok (show oFr cs _ _ = .yes from hk) with ⟨q, h1, h2⟩ | ⟨a, q, h1, h2⟩
      · obtain ⟨kd, nn, h3, h4⟩ := oPar_ok hR hp h2
        exact fin _ kd nn h1 h3 h4
      · obtain ⟨kd, nn, h3, h4⟩ := oOut_ok hR hp h2
        exact fin _ kd nn h1 h3 h4
    | _ => rw [hc] at hk; cases hk
end Go.Ev
namespace Go.Ev
open Go.RowKit Go.Proofs.Cl Go.Proofs
variable {P : Env}
theorem VR.lst_ex {j : Inj} {cap : Option Nat} {xs : List AV} {sv : Value} (h : VR j (.lst cap xs) sv) : ∃ p c, sv = .slice p xs.length c ∧ xs.length ≤ c ∨ ∃ p c, sv = .slice p xs.length c := by
  cases h with
  | lstE => exact ⟨none, 0, .inr ⟨_, _, rfl⟩⟩
  | lst => exact ⟨none, 0, .inr ⟨_, _, rfl⟩⟩
/-- the cells of an element of a frozen slice -/
theorem lst_at {j : Inj} {h : H} {n : Nat} {w : World} (hR : RB P j h.blk n w) {cap : Option Nat} {xs : List AV} {sv : Value} (hs : VR j (.lst cap xs) sv) {sz : Nat} (hne : xs ≠ []) :
    ∃ b o c, sv = .slice (some ⟨b, o, none⟩) xs.length c ∧ ∀ i x, xs[i]? = some x → x.cells.length = sz → ∀ t v, x.cells[t]? = some v → ∃ cv, w.cell? ⟨b, o + i * sz + t, none⟩ = some cv ∧ VR j v cv := by
  cases hs with
  | lstE => exact absurd rfl hne
  | lst _ _ b k0 capc sz' cv e fz hfr hcap hex hszx hkk hvs =>
    refine ⟨b, k0, capc, rfl, fun i x hx hl t v ht => ?_⟩
    have hsz' : sz' = sz := by rw [← hszx x (List.mem_of_getElem? hx), hl]
    subst hsz'
    have htl : t < sz' := by rw [← hl]; exact (List.getElem?_eq_some_iff.1 ht).1
    have hg := cellsOf_get hszx hx t htl
    rw [ht] at hg
    obtain ⟨c, h1, h2⟩ := hvs.get hg
    refine ⟨c, cell_of (hR.ice _ _ hfr).1 ?_, h2⟩
    rw [Array.getElem?_toList, Array.getElem?_extract] at h1
    split at h1
    · rw [show k0 + i * sz' + t = k0 + (i * sz' + t) by omega]; exact h1
    · cases h1
theorem frA_len (f : Fr) : (frA f).length = 2 := by cases f <;> rfl
theorem frA_0 {j : Inj} {f : Fr} {cv : Value} : ∀ {v : AV}, (frA f)[0]? = some v → VR j v cv → cv = f.a := by
  intro v h1 h2
  cases f <;> (simp only [frA, List.getElem?_cons_zero, Option.some.injEq] at h1; subst h1; cases h2; rfl)
theorem frA_1 {j : Inj} {f : Fr} {cv : Value} : ∀ {v : AV}, (frA f)[1]? = some v → VR j v cv → cv = f.q := by
  intro v h1 h2
  cases f <;> (simp only [frA, List.getElem?_cons_succ, List.getElem?_cons_zero, Option.some.injEq] at h1; subst h1; cases h2; rfl)
/-- a frozen slice of places -/
theorem hasF_of {j : Inj} {h : H} {n : Nat} {w : World} (hR : RB P j h.blk n w) {cap : Option Nat} {xs : List AV} {sv : Value} (hs : VR j (.lst cap xs) sv) {fs : List Fr} (hf : xs.map AV.cells = fs.map frA) : HasF w sv fs := by
  have hlen : xs.length = fs.length := by have := congrArg List.length hf; simpa using this
  by_cases h0 : xs = []
  · subst h0
    have : fs = [] := List.eq_nil_of_length_eq_zero (by simpa using hlen.symm)
    subst this
    cases hs with
    | lstE => exact ⟨_, _, rfl, fun h => absurd rfl h⟩
    | lst => exact ⟨_, _, rfl, fun h => absurd rfl h⟩
  · obtain ⟨b, o, c, rfl, hq⟩ := lst_at (sz := 2) hR hs h0
    refine ⟨_, c, by rw [hlen], fun _ => ⟨b, o, rfl, fun i hi => ?_⟩⟩
    have hx : xs[i]? = some xs[i] := List.getElem?_eq_getElem (by omega)
    have hc : xs[i].cells = frA (fs.getD i (.par 0)) := by
      have := congrArg (fun l => l[i]?) hf
      simp only [List.getElem?_map, hx, Option.map_some, List.getElem?_eq_getElem hi, Option.some.injEq] at this
      rw [this, List.getD_eq_getElem?_getD, List.getElem?_eq_getElem hi]; rfl
    have h2 := hq i _ hx (by rw [hc, frA_len])
    have hl := frA_len (fs.getD i (.par 0))
    obtain ⟨c0, g0, g1⟩ := h2 0 (frA (fs.getD i (.par 0)))[0] (by rw [hc]; exact List.getElem?_eq_getElem (by omega))
    obtain ⟨c1, g2, g3⟩ := h2 1 (frA (fs.getD i (.par 0)))[1] (by rw [hc]; exact List.getElem?_eq_getElem (by omega))
    rw [frA_0 (List.getElem?_eq_getElem (by omega)) g1] at g0
    rw [frA_1 (List.getElem?_eq_getElem (by omega)) g3] at g2
    exact ⟨g0, g2⟩
/-- a node: its operation, its inputs -/
noncomputable def oNode (x : AV) (k : Int → List AV → Ans) : Ans :=
  VC.rec (motive := fun _ => Ans) .no .no .no (fun cs => List.rec (motive := fun _ => Ans) .no (fun a t _ => List.rec (motive := fun _ => Ans) .no (fun b t _ => List.rec (motive := fun _ => Ans) .no (fun c t _ => List.rec (motive := fun _ => Ans) .no (fun d t _ => List.rec (motive := fun _ => Ans)
    (oU8 a (fun op => VS.rec (motive := fun _ => Ans) .no (fun _ => oInt c (fun _ => VX.rec (motive := fun _ => Ans) .no (fun _ _ _ _ => .no) (fun fs => k op fs) d.vX)) b.vS)) (fun _ _ _ => .no) t) t) t) t) cs) x.vC
theorem oU8_av {v : AV} {k : Int → Ans} (h : oU8 v k = .yes) : ∃ n, v = .int .u8 n ∧ k n = .yes := by
  cases v with
  | int kd n => cases kd <;> first | (cases h; done) | exact ⟨n, rfl, h⟩
  | _ => cases h
theorem oNode_ok {x : AV} {k : Int → List AV → Ans} (h : oNode x k = .yes) : ∃ op s N cap fs, x.cells = [.int .u8 op, .str s, .int .i64 N, .lst cap fs] ∧ k op fs = .yes := by
  unfold oNode at h
  cases hc : x.vC with
  | agg cs =>
    rw [hc] at h
    rw [vC_agg hc]
    clear hc
    cases cs with
    | nil => cases h
    | cons a t => cases t with
      | nil => cases h
      | cons b t => cases t with
        | nil => cases h
        | cons c t => cases t with
          | nil => cases h
          | cons d t => cases t with
            | cons e t => cases h
            | nil =>
              obtain ⟨op, rfl, h⟩ := oU8_av (show oU8 a _ = .yes from h)
              cases b with
              | str s =>
                obtain ⟨N, rfl, h⟩ := oInt_av (show oInt c _ = .yes from h)
                cases d with
                | lst cap fs => exact ⟨op, s, N, cap, fs, rfl, h⟩
                | _ => cases h
              | _ => cases h
  | _ => rw [hc] at h; cases h
/-- a node of a frozen slice, as it lies in the world -/
theorem elV_of {j : Inj} {h : H} {n : Nat} {w : World} (hR : RB P j h.blk n w) {cap : Option Nat} {xs : List AV} {nb no c : Nat} (hs : VR j (.lst cap xs) (.slice (some ⟨nb, no, none⟩) xs.length c)) {i : Nat} {x : AV} (hx : xs[i]? = some x)
    {op N : Int} {s : List Nat} {cap2 : Option Nat} {fs : List AV} (hc : x.cells = [.int .u8 op, .str s, .int .i64 N, .lst cap2 fs]) : ∃ ip ic, ElV w nb no i op ip fs.length ic ∧ VR j (.lst cap2 fs) (.slice ip fs.length ic) := by
  have hne : xs ≠ [] := fun e => by rw [e] at hx; simp at hx
  obtain ⟨b, o, c2, he, hq⟩ := lst_at (sz := 4) hR hs hne
  cases he
  have h4 := hq i x hx (by rw [hc]; rfl)
  rw [hc] at h4
  obtain ⟨c0, g0, k0⟩ := h4 0 _ rfl
  obtain ⟨c1, g1, k1⟩ := h4 1 _ rfl
  obtain ⟨c2', g2, k2⟩ := h4 2 _ rfl
  obtain ⟨c3, g3, k3⟩ := h4 3 _ rfl
  cases k0
  cases k2
  obtain ⟨sb, rfl⟩ : ∃ sb, c1 = .string sb := by cases k1; exact ⟨_, rfl⟩
  obtain ⟨ip, ic, rfl⟩ : ∃ ip ic, c3 = .slice ip fs.length ic := by cases k3 <;> exact ⟨_, _, rfl⟩
  exact ⟨ip, ic, ⟨sb, N, g0, g1, g2, g3⟩, k3⟩
/-- a block: its nodes, its nexts, its exits -/
noncomputable def oBlk (x : AV) (k : List AV → AV → AV → Ans) : Ans :=
  VC.rec (motive := fun _ => Ans) .no .no .no (fun cs => List.rec (motive := fun _ => Ans) .no (fun a t _ => List.rec (motive := fun _ => Ans) .no (fun b t _ => List.rec (motive := fun _ => Ans) .no (fun c t _ => List.rec (motive := fun _ => Ans) .no (fun d t _ => List.rec (motive := fun _ => Ans) .no (fun e t _ => List.rec (motive := fun _ => Ans)
    (VS.rec (motive := fun _ => Ans) .no (fun _ => oInt b (fun _ => VX.rec (motive := fun _ => Ans) .no (fun _ _ _ _ => .no) (fun ns => k ns d e) c.vX)) a.vS) (fun _ _ _ => .no) t) t) t) t) t) cs) x.vC
theorem oBlk_ok {x : AV} {k : List AV → AV → AV → Ans} (h : oBlk x k = .yes) : ∃ s N cap ns d e, x.cells = [.str s, .int .i64 N, .lst cap ns, d, e] ∧ k ns d e = .yes := by
  unfold oBlk at h
  cases hc : x.vC with
  | agg cs =>
    rw [hc] at h
    rw [vC_agg hc]
    clear hc
    cases cs with
    | nil => cases h
    | cons a t => cases t with
      | nil => cases h
      | cons b t => cases t with
        | nil => cases h
        | cons c t => cases t with
          | nil => cases h
          | cons d t => cases t with
            | nil => cases h
            | cons e t => cases t with
              | cons f t => cases h
              | nil =>
                cases a with
                | str s =>
                  obtain ⟨N, rfl, h⟩ := oInt_av (show oInt b _ = .yes from h)
                  cases c with
                  | lst cap ns => exact ⟨s, N, cap, ns, d, e, rfl, h⟩
                  | _ => cases h
                | _ => cases h
  | _ => rw [hc] at h; cases h
end Go.Ev
namespace Go.Ev
open Go.RowKit Go.Proofs.Cl Go.Proofs
variable {P : Env}
noncomputable def anyB (l : List Bool) : Bool := List.rec (motive := fun _ => Bool) false (fun b _ ih => Bool.rec (motive := fun _ => Bool) ih true b) l
noncomputable def allB (l : List Bool) : Bool := List.rec (motive := fun _ => Bool) true (fun b _ ih => Bool.rec (motive := fun _ => Bool) false ih b) l
theorem anyB_eq (l : List Bool) : anyB l = l.any id := by
  induction l with
  | nil => rfl
  | cons b l ih => show Bool.rec (anyB l) true b = (id b || l.any id); rw [ih]; cases b <;> rfl
theorem allB_eq (l : List Bool) : allB l = !(l.any fun b => !b) := by
  induction l with
  | nil => rfl
  | cons b l ih => show Bool.rec false (allB l) b = !(!b || l.any fun b => !b); rw [ih]; cases b <;> simp
noncomputable def oRdy1 (op : Int) (l : List Bool) (k : Bool → Ans) : Ans :=
  Bool.rec (motive := fun _ => Ans) .no (Int.rec (motive := fun _ => Ans) (fun m => Bool.rec (motive := fun _ => Ans) (Bool.rec (motive := fun _ => Ans) (Bool.rec (motive := fun _ => Ans) (k (allB l)) (k (anyB l)) (Nat.beq m (nat_lit 6))) (List.rec (motive := fun _ => Ans) .no (fun b _ _ => k b) l) (Nat.beq m (nat_lit 9))) (List.rec (motive := fun _ => Ans) .no (fun b _ _ => k b) l) (Nat.beq m (nat_lit 8))) (fun _ => .no) op) (Nat.ble (lenF l) (nat_lit 1000))
/-- what a call of isReady answers, in every world that has grown -/
def RdyC (w : World) (xb xo cb co m : Nat) (b : Bool) : Prop := ∀ w', Below w.heap.size w w' → Calls Tryz.prog 152 #[.pointer (some ⟨xb, xo, none⟩), .pointer (some ⟨cb, co, none⟩), .int .i64 m] w' fun e w'' => e = .returned (.bool b) ∧ Below w'.heap.size w' w''
theorem oRdy1_ok {w : World} {xb xo cb co node : Nat} {op r : Int} {ip : Option Addr} {il ic : Nat} {fs : List Fr} {ks ns : Nat → Int} (h : NodeV w xb xo cb co node op ip il ic) (hf : FirV w cb co node r) (hr : ¬ 0 < r)
    (hF : HasF w (.slice ip il ic) fs) (hi : ∀ i, i < fs.length → Is w cb co (fs.getD i (.par 0)) (ks i) (ns i)) {k : Bool → Ans} (hk : oRdy1 op ((List.range fs.length).map fun i => ks i != 0) k = .yes) : ∃ b, RdyC w xb xo cb co node b ∧ k b = .yes := by
  unfold oRdy1 at hk
  cases hle : Nat.ble (lenF ((List.range fs.length).map fun i => ks i != 0)) 1000 with
  | false => rw [show Nat.ble (lenF ((List.range fs.length).map fun i => ks i != 0)) (nat_lit 1000) = false from hle] at hk; cases hk
  | true =>
    rw [show Nat.ble (lenF ((List.range fs.length).map fun i => ks i != 0)) (nat_lit 1000) = true from hle] at hk
    have hlen := Nat.le_of_ble_eq_true hle
    rw [lenF_eq] at hlen
    have hl : fs.length ≤ 9223372036854775807 := by simp at hlen; omega
    cases op with
    | negSucc m => cases hk
    | ofNat m =>
      have hk : Bool.rec (motive := fun _ => Ans) (Bool.rec (motive := fun _ => Ans) (Bool.rec (motive := fun _ => Ans) (k (allB ((List.range fs.length).map fun i => ks i != 0))) (k (anyB ((List.range fs.length).map fun i => ks i != 0))) (Nat.beq m 6)) (List.rec (motive := fun _ => Ans) .no (fun b _ _ => k b) ((List.range fs.length).map fun i => ks i != 0)) (Nat.beq m 9)) (List.rec (motive := fun _ => Ans) .no (fun b _ _ => k b) ((List.range fs.length).map fun i => ks i != 0)) (Nat.beq m 8) = .yes := hk
      have head : List.rec (motive := fun _ => Ans) .no (fun b _ _ => k b) ((List.range fs.length).map fun i => ks i != 0) = .yes → fs ≠ [] ∧ k (ks 0 != 0) = .yes := by
        intro h2
        cases fs with
        | nil => cases h2
        | cons f fs =>
          rw [List.length_cons, List.range_succ_eq_map, List.map_cons] at h2
          exact ⟨by simp, h2⟩
      cases h8 : Nat.beq m 8 with
      | true =>
        rw [h8] at hk
        obtain rfl := Nat.eq_of_beq_eq_true h8
        obtain ⟨h0, hk⟩ := head hk
        exact ⟨_, fun w' hB => ready_call8 (h.below hB) (hf.below hB) hr (hF.below hB) hl (fun i hi2 => (hi i hi2).below hB) h0, hk⟩
      | false =>
        rw [h8] at hk
        cases h9 : Nat.beq m 9 with
        | true =>
          rw [h9] at hk
          obtain rfl := Nat.eq_of_beq_eq_true h9
          obtain ⟨h0, hk⟩ := head hk
          exact ⟨_, fun w' hB => ready_call9 (h.below hB) (hf.below hB) hr (hF.below hB) hl (fun i hi2 => (hi i hi2).below hB) h0, hk⟩
        | false =>
          rw [h9] at hk
          cases h6 : Nat.beq m 6 with
          | true =>
            rw [h6] at hk
            obtain rfl := Nat.eq_of_beq_eq_true h6
            refine ⟨_, fun w' hB => ready_merge (h.below hB) (hf.below hB) hr (hF.below hB) hl (fun i hi2 => (hi i hi2).below hB), ?_⟩
            have hk : k (anyB ((List.range fs.length).map fun i => ks i != 0)) = .yes := hk
            rw [anyB_eq, List.any_map] at hk
            exact hk
          | false =>
            rw [h6] at hk
            have e8 : (Int.ofNat m) ≠ 8 := fun e => by cases e; cases h8
            have e9 : (Int.ofNat m) ≠ 9 := fun e => by cases e; cases h9
            have e6 : (Int.ofNat m) ≠ 6 := fun e => by cases e; cases h6
            refine ⟨_, fun w' hB => ready_other (h.below hB) (hf.below hB) hr (hF.below hB) hl (fun i hi2 => (hi i hi2).below hB) e6 e8 e9, ?_⟩
            have hk : k (allB ((List.range fs.length).map fun i => ks i != 0)) = .yes := hk
            rw [allB_eq, List.any_map] at hk
            exact hk
noncomputable def posB (r : Int) : Bool := Int.rec (motive := fun _ => Bool) (fun m => Nat.rec (motive := fun _ => Bool) false (fun _ _ => true) m) (fun _ => false) r
theorem posB_true {r : Int} (h : posB r = true) : 0 < r := by
  cases r with
  | ofNat m => cases m with
    | zero => cases h
    | succ m => exact Int.ofNat_lt.2 (Nat.succ_pos m)
  | negSucc m => cases h
theorem posB_false {r : Int} (h : posB r = false) : ¬ 0 < r := by
  cases r with
  | ofNat m => cases m with
    | zero => simp
    | succ m => cases h
  | negSucc m => simp
noncomputable def spotA (i m : Nat) : AV := .agg [.int .i64 (.ofNat i), .int .i64 (.ofNat m)]
noncomputable def oNodes (h : H) (c fired : AV) (i : Nat) (xs : List AV) : Nat → (List AV → Ans) → Ans :=
  List.rec (motive := fun _ => Nat → (List AV → Ans) → Ans) (fun _ k => k []) (fun x _ ih m k => oNode x (fun op fs => oEl fired m (nat_lit 1) (fun p => oRd h p (nat_lit 0) (fun r => oInt r (fun r =>
    Bool.rec (motive := fun _ => Ans) (oThere h c fs (fun l => oRdy1 op l (fun b => Bool.rec (motive := fun _ => Ans) (ih (Nat.succ m) k) (ih (Nat.succ m) (fun l => k (spotA i m :: l))) b))) (ih (Nat.succ m) k) (posB r)))))) xs
/-- the spots of a context, from node m on -/
noncomputable def spotsA (i m n : Nat) (rd : Nat → Bool) : List AV := ((List.range n).filter fun t => rd (m + t)).map fun t => spotA i (m + t)
theorem spotsA_succ (i m n : Nat) (rd : Nat → Bool) : spotsA i m (n + 1) rd = (if rd m = true then [spotA i m] else []) ++ spotsA i (m + 1) n rd := by
  unfold spotsA
  rw [List.range_succ_eq_map, List.filter_cons, List.filter_map, Nat.add_zero]
  have e : (fun t => rd (m + t)) ∘ Nat.succ = fun t => rd (m + 1 + t) := by funext t; show rd (m + (t + 1)) = _; rw [show m + (t + 1) = m + 1 + t by omega]
  rw [e]
  have e2 : ((List.range n).filter fun t => rd (m + 1 + t)).map (fun t => spotA i (m + Nat.succ t)) = ((List.range n).filter fun t => rd (m + 1 + t)).map fun t => spotA i (m + 1 + t) := by
    congr 1; funext t; rw [show m + Nat.succ t = m + 1 + t by omega]
  by_cases hr : rd m = true
  · simp only [hr, if_true, List.map_cons, List.map_map]
    show spotA i (m + 0) :: List.map (fun t => spotA i (m + Nat.succ t)) _ = _
    rw [e2]; rfl
  · have hr' : rd m = false := by simpa using hr
    simp only [hr', Bool.false_eq_true, if_false, List.map_map]
    show List.map (fun t => spotA i (m + Nat.succ t)) _ = _
    rw [e2]; rfl
theorem oNodes_ok {j : Inj} {h : H} {n : Nat} {w : World} (hR : RB P j h.blk n w) {c fired : AV} {xb xo cb co nb no cn fn fc : Nat} {fp : Option Addr} (hp : VR j c (.pointer (some ⟨cb, co, none⟩))) (h6 : w.cell? ⟨cb, co + 6, none⟩ = some (.slice fp fn fc)) (hfr : VR j fired (.slice fp fn fc))
    {cap : Option Nat} {xs0 : List AV} (hs : VR j (.lst cap xs0) (.slice (some ⟨nb, no, none⟩) xs0.length cn)) (hb : BlkV w xb xo cb co nb no xs0.length) {i : Nat} :
    ∀ {xs : List AV} {m : Nat} {k : List AV → Ans}, (∀ t x, xs[t]? = some x → xs0[m + t]? = some x) → oNodes h c fired i xs m k = .yes → ∃ rd : Nat → Bool, (∀ t, t < xs.length → RdyC w xb xo cb co (m + t) (rd (m + t))) ∧ k (spotsA i m xs.length rd) = .yes := by
  intro xs
  induction xs with
  | nil => intro m k _ hk; exact ⟨fun _ => false, fun t ht => absurd ht (Nat.not_lt_zero _), hk⟩
  | cons x xs ih =>
    intro m k hsub hk
    obtain ⟨op, s, N, cap2, fs0, hc, hk⟩ := oNode_ok (show oNode x _ = .yes from hk)
    have hx := hsub 0 x rfl
    rw [Nat.add_zero] at hx
    obtain ⟨ip, ic, hel, hins⟩ := elV_of hR hs hx hc
    have hm : m < xs0.length := (List.getElem?_eq_some_iff.1 hx).1
    obtain ⟨b, o, mm, cc, p, he, h1, h2, hk⟩ := oEl_ok hfr (by omega) (show oEl fired m 1 _ = .yes from hk)
    rw [Nat.mul_one] at h2
    cases he
    obtain ⟨v, cv, h3, h4, hk⟩ := oRd_ok hR h2 (show oRd h p 0 _ = .yes from hk)
    obtain ⟨r, rfl, _, hk⟩ := oInt_ok h4 hk
    have hnode := NodeV.of hb hel hm
    have hfir : FirV w cb co m r := ⟨b, o, _, _, h6, h1, h3⟩
    have sub2 : ∀ t x, xs[t]? = some x → xs0[m + 1 + t]? = some x := fun t y hy => by
      have := hsub (t + 1) y (by simpa using hy)
      rw [show m + 1 + t = m + (t + 1) by omega]; exact this
    have fin : ∀ b : Bool, RdyC w xb xo cb co m b → Bool.rec (motive := fun _ => Ans) (oNodes h c fired i xs (m + 1) k) (oNodes h c fired i xs (m + 1) (fun l => k (spotA i m :: l))) b = .yes →
        ∃ rd : Nat → Bool, (∀ t, t < (x :: xs).length → RdyC w xb xo cb co (m + t) (rd (m + t))) ∧ k (spotsA i m (x :: xs).length rd) = .yes := by
      intro b hb1 hb2
      have aux : ∀ rd : Nat → Bool, (∀ t, t < xs.length → RdyC w xb xo cb co (m + 1 + t) (rd (m + 1 + t))) →
          (∀ t, t < (x :: xs).length → RdyC w xb xo cb co (m + t) ((fun y => if y = m then b else rd y) (m + t))) ∧ spotsA i (m + 1) xs.length (fun y => if y = m then b else rd y) = spotsA i (m + 1) xs.length rd := by
        intro rd hrd
        constructor
        · intro t ht
          cases t with
          | zero => simp only [Nat.add_zero, if_true]; exact hb1
          | succ t =>
            have := hrd t (by simpa using ht)
            rw [show m + 1 + t = m + (t + 1) by omega] at this
            simp only [show ¬ m + (t + 1) = m by omega, if_false]
            exact this
        · unfold spotsA
          congr 1
          apply List.filter_congr
          intro t _
          simp only [show ¬ m + 1 + t = m by omega, if_false]
      cases b with
      | false =>
        obtain ⟨rd, g1, g2⟩ := ih sub2 hb2
        obtain ⟨a1, a2⟩ := aux rd g1
        refine ⟨fun y => if y = m then false else rd y, a1, ?_⟩
        rw [List.length_cons, spotsA_succ, a2]
        simp only [if_true, Bool.false_eq_true, if_false, List.nil_append]
        exact g2
      | true =>
        obtain ⟨rd, g1, g2⟩ := ih sub2 hb2
        obtain ⟨a1, a2⟩ := aux rd g1
        refine ⟨fun y => if y = m then true else rd y, a1, ?_⟩
        rw [List.length_cons, spotsA_succ, a2]
        simp only [if_true]
        exact g2
    cases hpos : posB r with
    | true =>
      rw [hpos] at hk
      exact fin false (fun w' hB => ready_fired (hnode.below hB) (hfir.below hB) (posB_true hpos)) hk
    | false =>
      rw [hpos] at hk
      obtain ⟨fs, ks, ns, q1, q2, q3⟩ := oThere_ok hR hp (show oThere h c fs0 _ = .yes from hk)
      have hF := hasF_of hR hins q1
      obtain ⟨b, g1, g2⟩ := oRdy1_ok hnode hfir (posB_false hpos) hF q2 q3
      exact fin b g1 g2
end Go.Ev
namespace Go.Ev
open Go.RowKit Go.Proofs.Cl Go.Proofs
variable {P : Env}
theorem oRd_ptr {j : Inj} {h : H} {c : AV} {cv : Value} (hv : VR j c cv) {i : Nat} {k : AV → Ans} (hk : oRd h c i k = .yes) : ∃ b o, cv = .pointer (some ⟨b, o, none⟩) := by
  rw [oRd_eq] at hk
  cases hp : c.vP with
  | no => rw [hp] at hk; cases hk
  | ptr f o => obtain rfl := vP_ptr hp; cases hv; exact ⟨_, _, rfl⟩
  | lp us => obtain rfl := vP_lp hp; cases hv; exact ⟨_, _, rfl⟩
noncomputable def oCtxs (h : H) (cs bl : AV) (n : Nat) : Nat → (List AV → Ans) → Ans :=
  Nat.rec (motive := fun _ => Nat → (List AV → Ans) → Ans) (fun _ k => k []) (fun _ ih i k => oEl cs i (nat_lit 1) (fun p => oRd h p (nat_lit 0) (fun c => oRd h c (nat_lit 0) (fun b => oNat b (fun bi => oEl bl bi (nat_lit 5) (fun q => oRd h q (nat_lit 2) (fun nodes =>
    VX.rec (motive := fun _ => Ans) .no (fun _ _ _ _ => .no) (fun xs => oRd h c (nat_lit 6) (fun fired => oLn fired (fun nf => Bool.rec (motive := fun _ => Ans) .no (Bool.rec (motive := fun _ => Ans) .no
      (oNodes h c fired i xs (nat_lit 0) (fun l => ih (Nat.succ i) (fun l2 => k (appF l l2)))) (Nat.ble nf (nat_lit 400))) (Nat.beq nf (lenF xs))))) nodes.vX))))))) n
theorem oCtxs_succ (h : H) (cs bl : AV) (n i : Nat) (k : List AV → Ans) : oCtxs h cs bl (n + 1) i k = oEl cs i (nat_lit 1) (fun p => oRd h p (nat_lit 0) (fun c => oRd h c (nat_lit 0) (fun b => oNat b (fun bi => oEl bl bi (nat_lit 5) (fun q => oRd h q (nat_lit 2) (fun nodes =>
    VX.rec (motive := fun _ => Ans) .no (fun _ _ _ _ => .no) (fun xs => oRd h c (nat_lit 6) (fun fired => oLn fired (fun nf => Bool.rec (motive := fun _ => Ans) .no (Bool.rec (motive := fun _ => Ans) .no
      (oNodes h c fired i xs (nat_lit 0) (fun l => oCtxs h cs bl n (Nat.succ i) (fun l2 => k (appF l l2)))) (Nat.ble nf (nat_lit 400))) (Nat.beq nf (lenF xs))))) nodes.vX)))))) := rfl
/-- what is known of a context -/
structure CtxF (w : World) (xb xo cb0 co0 i : Nat) (a : Nat × Nat) (nf : Nat) (rd : Nat → Bool) : Prop where
  ptr : w.cell? ⟨cb0, co0 + i, none⟩ = some (.pointer (some ⟨a.1, a.2, none⟩))
  fir : ∃ p c, w.cell? ⟨a.1, a.2 + 6, none⟩ = some (.slice p nf c)
  le : nf ≤ 400
  rdy : ∀ m, m < nf → RdyC w xb xo a.1 a.2 m (rd m)
theorem oCtxs_ok {j : Inj} {h : H} {nn : Nat} {w : World} (hR : RB P j h.blk nn w) {cs bl : AV} {xb xo cb0 co0 bb bo nc cc nbk cbk : Nat} (hcs : VR j cs (.slice (some ⟨cb0, co0, none⟩) nc cc)) (hx0 : w.cell? ⟨xb, xo, none⟩ = some (.slice (some ⟨bb, bo, none⟩) nbk cbk)) (hbl : VR j bl (.slice (some ⟨bb, bo, none⟩) nbk cbk)) :
    ∀ {n i : Nat} {k : List AV → Ans}, oCtxs h cs bl n i k = .yes → ∃ (a : Nat → Nat × Nat) (nf : Nat → Nat) (rd : Nat → Nat → Bool), (∀ t, t < n → CtxF w xb xo cb0 co0 (i + t) (a (i + t)) (nf (i + t)) (rd (i + t))) ∧ k ((List.range n).flatMap fun t => spotsA (i + t) 0 (nf (i + t)) (rd (i + t))) = .yes := by
  intro n
  induction n with
  | zero => intro i k hk; exact ⟨fun _ => (0, 0), fun _ => 0, fun _ _ => false, fun t ht => absurd ht (Nat.not_lt_zero _), hk⟩
  | succ n ih =>
    intro i k hk
    rw [oCtxs_succ] at hk
    obtain ⟨b, o, m, c, p, he, h1, h2, hk⟩ := oEl_ok (sz := 1) hcs Nat.one_pos hk
    cases he
    rw [Nat.mul_one] at h2
    obtain ⟨cav, cv, h3, h4, hk⟩ := oRd_ok hR h2 hk
    obtain ⟨cb, co, rfl⟩ := oRd_ptr h4 hk
    obtain ⟨bav, bcv, g1, g2, hk⟩ := oRd_ok hR h4 hk
    obtain ⟨bi, rfl, _, hk⟩ := oNat_ok g2 hk
    obtain ⟨b2, o2, m2, c2, q, he2, g3, g4, hk⟩ := oEl_ok (sz := 5) hbl (by decide) hk
    cases he2
    obtain ⟨nav, ncv, g5, g6, hk⟩ := oRd_ok hR g4 hk
    cases hX : nav.vX with
    | no => rw [hX] at hk; cases hk
    | sl => rw [hX] at hk; cases hk
    | lst xs =>
      rw [hX] at hk
      obtain ⟨cap, rfl⟩ := vX_lst hX
      obtain ⟨fav, fcv, f1, f2, hk⟩ := oRd_ok hR h4 (show oRd h cav 6 _ = .yes from hk)
      obtain ⟨fp, nfv, fc, rfl, hk⟩ := oLn_ok f2 (show oLn fav _ = .yes from hk)
      cases hb1 : Nat.beq nfv (lenF xs) with
      | false => rw [hb1] at hk; cases hk
      | true =>
        cases hb2 : Nat.ble nfv 400 with
        | false => rw [hb1, show Nat.ble nfv (nat_lit 400) = false from hb2] at hk; cases hk
        | true =>
          rw [hb1, show Nat.ble nfv (nat_lit 400) = true from hb2] at hk
          have hk : oNodes h cav fav i xs 0 (fun l => oCtxs h cs bl n (i + 1) (fun l2 => k (appF l l2))) = .yes := hk
          have hnf : nfv = xs.length := by rw [← lenF_eq]; exact Nat.eq_of_beq_eq_true hb1
          have hle := Nat.le_of_ble_eq_true hb2
          have key : ∃ rd : Nat → Bool, (∀ t, t < nfv → RdyC w xb xo cb co t (rd t)) ∧ oCtxs h cs bl n (i + 1) (fun l2 => k (appF (spotsA i 0 nfv rd) l2)) = .yes := by
            by_cases hx : xs = []
            · subst hx
              rw [hnf]
              exact ⟨fun _ => false, fun t ht => absurd ht (Nat.not_lt_zero _), hk⟩
            · obtain ⟨nb, no, cn, he3, _⟩ := lst_at (sz := 4) hR g6 hx
              subst he3
              have hb : BlkV w xb xo cb co nb no xs.length := ⟨bi, _, _, _, _, cn, g1, hx0, g3, g5⟩
              obtain ⟨rd, q1, q2⟩ := oNodes_ok hR h4 f1 f2 g6 hb (fun t x hx => by simpa using hx) hk
              refine ⟨rd, fun t ht => ?_, by rw [hnf]; exact q2⟩
              have := q1 t (by omega)
              rwa [Nat.zero_add] at this
          obtain ⟨rd, r1, r2⟩ := key
          obtain ⟨a, nf, rd2, s1, s2⟩ := ih r2
          refine ⟨fun y => if y = i then (cb, co) else a y, fun y => if y = i then nfv else nf y, fun y => if y = i then rd else rd2 y, ?_, ?_⟩
          · intro t ht
            cases t with
            | zero =>
              simp only [Nat.add_zero, if_true]
              exact ⟨h3, ⟨fp, fc, f1⟩, hle, r1⟩
            | succ t =>
              have := s1 t (by omega)
              rw [show i + 1 + t = i + (t + 1) by omega] at this
              simp only [show ¬ i + (t + 1) = i by omega, if_false]
              exact this
          · rw [List.range_succ_eq_map, List.flatMap_cons, List.flatMap_map]
            simp only [Nat.add_zero, if_true]
            rw [appF_eq] at s2
            have e : ((List.range n).flatMap fun t => spotsA (i + Nat.succ t) 0 (if i + Nat.succ t = i then nfv else nf (i + Nat.succ t)) (if i + Nat.succ t = i then rd else rd2 (i + Nat.succ t))) = (List.range n).flatMap fun t => spotsA (i + 1 + t) 0 (nf (i + 1 + t)) (rd2 (i + 1 + t)) := by
              congr 1; funext t
              rw [show i + Nat.succ t = i + 1 + t by omega]
              simp only [show ¬ i + 1 + t = i by omega, if_false]
            rw [e]; exact s2
theorem flatMap_same {α β : Type} {f g : α → List β} : ∀ {l : List α}, (∀ a ∈ l, f a = g a) → l.flatMap f = l.flatMap g := by
  intro l
  induction l with
  | nil => intro _; rfl
  | cons a l ih => intro h; rw [List.flatMap_cons, List.flatMap_cons, h a List.mem_cons_self, ih fun b hb => h b (List.mem_cons_of_mem _ hb)]
noncomputable def oReady (h : H) (x : AV) (k : AV → H → Ans) : Ans :=
  oRd h x (nat_lit 2) (fun cs => oRd h x (nat_lit 0) (fun bl => oEl cs (nat_lit 0) (nat_lit 1) (fun _ => oEl bl (nat_lit 0) (nat_lit 5) (fun _ => oLn cs (fun n => Bool.rec (motive := fun _ => Ans) .no (oCtxs h cs bl n (nat_lit 0) (fun l => k (.lst none l) h)) (Nat.ble n (nat_lit 400)))))))
theorem oReady_ok {j : Inj} {h : H} {nn : Nat} {w : World} (hR : RB P j h.blk nn w) {x : AV} {xv : Value} (hx : VR j x xv) {k : AV → H → Ans} (hk : oReady h x k = .yes) :
    ∃ (l : List (Nat × Nat)), (Calls Tryz.prog 98 #[xv] w fun e w' => ∃ v, e = .returned v ∧ w'.ownsRow w.heap.size 209 2 v l.length (spots l) ∧ Below w.heap.size w w') ∧ k (.lst none (l.map fun p => spotA p.1 p.2)) h = .yes := by
  obtain ⟨xb, xo, rfl⟩ := oRd_ptr hx hk
  obtain ⟨cs, csv, h1, h2, hk⟩ := oRd_ok hR hx (show oRd h x 2 _ = .yes from hk)
  obtain ⟨bl, blv, h3, h4, hk⟩ := oRd_ok hR hx (show oRd h x 0 _ = .yes from hk)
  obtain ⟨cb0, co0, nc, cc, _, rfl, _, _, hk⟩ := oEl_ok h2 (by omega) (show oEl cs 0 1 _ = .yes from hk)
  obtain ⟨bb, bo, nbk, cbk, _, rfl, _, _, hk⟩ := oEl_ok h4 (by omega) (show oEl bl 0 5 _ = .yes from hk)
  obtain ⟨p, n, c, he, hk⟩ := oLn_ok h2 (show oLn cs _ = .yes from hk)
  cases he
  cases hb : Nat.ble nc 400 with
  | false => rw [show Nat.ble nc (nat_lit 400) = false from hb] at hk; cases hk
  | true =>
    rw [show Nat.ble nc (nat_lit 400) = true from hb] at hk
    obtain ⟨a, nf, rd, s1, s2⟩ := oCtxs_ok (xb := xb) (xo := xo) hR h2 h3 h4 (show oCtxs h cs bl nc 0 _ = .yes from hk)
    have hle := Nat.le_of_ble_eq_true hb
    simp only [Nat.zero_add] at s1 s2
    refine ⟨rdL rd (fun i => min (nf i) 400) nc, ?_, ?_⟩
    · refine ready_c a (fun i => min (nf i) 400) rd h1 (fun i hi => (s1 i hi).ptr) (fun i hi => ?_) hle (fun i => Nat.min_le_right _ _) (fun i hi m hm => (s1 i hi).rdy m (Nat.lt_of_lt_of_le hm (Nat.min_le_left _ _)))
      obtain ⟨p, c, hf⟩ := (s1 i hi).fir
      exact ⟨p, c, by rw [hf, Nat.min_eq_left (s1 i hi).le]⟩
    · have e : (rdL rd (fun i => min (nf i) 400) nc).map (fun p => spotA p.1 p.2) = (List.range nc).flatMap fun t => spotsA t 0 (nf t) (rd t) := by
        unfold rdL
        rw [List.map_flatMap]
        apply flatMap_same
        intro t ht
        have ht := List.mem_range.1 ht
        show (rdI rd t (min (nf t) 400)).map (fun p => spotA p.1 p.2) = _
        rw [Nat.min_eq_left (s1 t ht).le]
        unfold rdI spotsA
        rw [List.map_map]
        simp only [Nat.zero_add]
        rfl
      rw [e]; exact s2
end Go.Ev
namespace Go.Ev
open Go.RowKit Go.Proofs.Cl Go.Proofs
variable {P : Env}
noncomputable def not2 (l : List Bool) (a : Ans) : Ans := List.rec (motive := fun _ => Ans) .no (fun b0 t _ => List.rec (motive := fun _ => Ans) .no (fun b1 _ _ => Bool.rec (motive := fun _ => Ans) a (Bool.rec (motive := fun _ => Ans) a .no b1) b0) t) l
theorem not2_ok {l : List Bool} {a : Ans} (h : not2 l a = .yes) : (∃ b0 b1 t, l = b0 :: b1 :: t ∧ (b0 = false ∨ b1 = false)) ∧ a = .yes := by
  cases l with
  | nil => cases h
  | cons b0 t => cases t with
    | nil => cases h
    | cons b1 t =>
      cases b0 with
      | false => exact ⟨⟨_, _, _, rfl, .inl rfl⟩, h⟩
      | true => cases b1 with
        | false => exact ⟨⟨_, _, _, rfl, .inr rfl⟩, h⟩
        | true => cases h
noncomputable def oMnodes (h : H) (c : AV) (xs : List AV) (k : Ans) : Ans :=
  List.rec (motive := fun _ => Ans) k (fun x _ ih => oNode x (fun op fs => Int.rec (motive := fun _ => Ans) (fun m => Bool.rec (motive := fun _ => Ans) ih (oThere h c fs (fun l => not2 l ih)) (Nat.beq m (nat_lit 6))) (fun _ => ih) op)) xs
theorem oMnodes_ok {j : Inj} {h : H} {n : Nat} {w : World} (hR : RB P j h.blk n w) {c : AV} {cb co nb no cn : Nat} (hp : VR j c (.pointer (some ⟨cb, co, none⟩)))
    {cap : Option Nat} {xs0 : List AV} (hs : VR j (.lst cap xs0) (.slice (some ⟨nb, no, none⟩) xs0.length cn)) :
    ∀ {xs : List AV} {m : Nat} {k : Ans}, (∀ t x, xs[t]? = some x → xs0[m + t]? = some x) → oMnodes h c xs k = .yes →
      (∀ t, t < xs.length → ∃ op ip il ic, ElV w nb no (m + t) op ip il ic ∧ (op = 6 → ∃ f0 f1 k0 n0 k1 n1, One w cb co ip il ic f0 f1 k0 n0 k1 n1)) ∧ k = .yes := by
  intro xs
  induction xs with
  | nil => intro m k _ hk; exact ⟨fun t ht => absurd ht (Nat.not_lt_zero _), hk⟩
  | cons x xs ih =>
    intro m k hsub hk
    obtain ⟨op, s, N, cap2, fs0, hc, hk⟩ := oNode_ok (show oNode x _ = .yes from hk)
    have hx := hsub 0 x rfl
    rw [Nat.add_zero] at hx
    obtain ⟨ip, ic, hel, hins⟩ := elV_of hR hs hx hc
    have sub2 : ∀ t x, xs[t]? = some x → xs0[m + 1 + t]? = some x := fun t y hy => by
      have := hsub (t + 1) y (by simpa using hy)
      rw [show m + 1 + t = m + (t + 1) by omega]; exact this
    have fin : (op = 6 → ∃ f0 f1 k0 n0 k1 n1, One w cb co ip fs0.length ic f0 f1 k0 n0 k1 n1) → oMnodes h c xs k = .yes →
        (∀ t, t < (x :: xs).length → ∃ op ip il ic, ElV w nb no (m + t) op ip il ic ∧ (op = 6 → ∃ f0 f1 k0 n0 k1 n1, One w cb co ip il ic f0 f1 k0 n0 k1 n1)) ∧ k = .yes := by
      intro h1 h2
      obtain ⟨g1, g2⟩ := ih sub2 h2
      refine ⟨fun t ht => ?_, g2⟩
      cases t with
      | zero => exact ⟨op, ip, _, ic, hel, h1⟩
      | succ t => have := g1 t (by simpa using ht); rwa [show m + 1 + t = m + (t + 1) by omega] at this
    cases op with
    | negSucc a => exact fin (fun e => by cases e) hk
    | ofNat a =>
      have hk : Bool.rec (motive := fun _ => Ans) (oMnodes h c xs k) (oThere h c fs0 (fun l => not2 l (oMnodes h c xs k))) (Nat.beq a 6) = .yes := hk
      cases h6 : Nat.beq a 6 with
      | false => rw [h6] at hk; exact fin (fun e => by cases e; cases h6) hk
      | true =>
        rw [h6] at hk
        obtain ⟨fs, ks, ns, q1, q2, q3⟩ := oThere_ok hR hp (show oThere h c fs0 _ = .yes from hk)
        obtain ⟨⟨b0, b1, t, e, hone⟩, hk2⟩ := not2_ok q3
        refine fin (fun _ => ?_) hk2
        have hF := hasF_of hR hins q1
        obtain ⟨p, cc, he, hF⟩ := hF
        have hlen : fs0.length = fs.length := by have := congrArg List.length q1; simpa using this
        cases hfs : fs with
        | nil => rw [hfs] at e; cases e
        | cons f0 r => cases hr : r with
          | nil => rw [hfs, hr] at e; cases e
          | cons f1 r2 =>
            subst hr
            have hne : fs ≠ [] := by rw [hfs]; simp
            have hl2 : 2 ≤ fs.length := by rw [hfs]; simp
            obtain ⟨b, o, hp2, hq⟩ := hF hne
            have a0 := hq 0 (by omega)
            have a1 := hq 1 (by omega)
            have i0 := q2 0 (by omega)
            have i1 := q2 1 (by omega)
            rw [hfs] at a0 a1 i0 i1
            rw [hfs] at e
            simp only [List.length_cons, List.range_succ_eq_map, List.map_cons, List.cons.injEq] at e
            simp only [Value.slice.injEq] at he
            refine ⟨f0, f1, ks 0, ns 0, ks 1, ns 1, ⟨⟨b, o, he.1.trans hp2, by omega, ?_, ?_, ?_, ?_⟩, i0, i1, ?_⟩⟩
            · simpa using a0.1
            · simpa using a0.2
            · simpa using a1.1
            · simpa using a1.2
            · obtain ⟨e0, e1, _⟩ := e
              rcases hone with hh | hh
              · left; rw [hh] at e0; simpa using e0
              · right; rw [hh] at e1; simpa using e1
noncomputable def oMctx (h : H) (cs bl : AV) (n : Nat) : Nat → Ans → Ans :=
  Nat.rec (motive := fun _ => Nat → Ans → Ans) (fun _ k => k) (fun _ ih i k => oEl cs i (nat_lit 1) (fun p => oRd h p (nat_lit 0) (fun c => oRd h c (nat_lit 0) (fun b => oNat b (fun bi => oEl bl bi (nat_lit 5) (fun q => oRd h q (nat_lit 2) (fun nodes =>
    VX.rec (motive := fun _ => Ans) .no (fun _ _ _ _ => .no) (fun xs => Bool.rec (motive := fun _ => Ans) .no (oMnodes h c xs (ih (Nat.succ i) k)) (Nat.ble (lenF xs) (nat_lit 400))) nodes.vX))))))) n
theorem oMctx_succ (h : H) (cs bl : AV) (n i : Nat) (k : Ans) : oMctx h cs bl (n + 1) i k = oEl cs i (nat_lit 1) (fun p => oRd h p (nat_lit 0) (fun c => oRd h c (nat_lit 0) (fun b => oNat b (fun bi => oEl bl bi (nat_lit 5) (fun q => oRd h q (nat_lit 2) (fun nodes =>
    VX.rec (motive := fun _ => Ans) .no (fun _ _ _ _ => .no) (fun xs => Bool.rec (motive := fun _ => Ans) .no (oMnodes h c xs (oMctx h cs bl n (Nat.succ i) k)) (Nat.ble (lenF xs) (nat_lit 400))) nodes.vX)))))) := rfl
structure MrgF (w : World) (xb xo cb0 co0 i : Nat) (a : Nat × Nat) (np : Option Addr) (nn : Nat) : Prop where
  ptr : w.cell? ⟨cb0, co0 + i, none⟩ = some (.pointer (some ⟨a.1, a.2, none⟩))
  blk : BlkP w xb xo a.1 a.2 np nn
  le : nn ≤ 400
  one : ∀ m, m < nn → ∃ nb no op ip il ic, np = some ⟨nb, no, none⟩ ∧ ElV w nb no m op ip il ic ∧ (op = 6 → ∃ f0 f1 k0 n0 k1 n1, One w a.1 a.2 ip il ic f0 f1 k0 n0 k1 n1)
theorem oMctx_ok {j : Inj} {h : H} {nn : Nat} {w : World} (hR : RB P j h.blk nn w) {cs bl : AV} {xb xo cb0 co0 bb bo nc cc nbk cbk : Nat} (hcs : VR j cs (.slice (some ⟨cb0, co0, none⟩) nc cc)) (hx0 : w.cell? ⟨xb, xo, none⟩ = some (.slice (some ⟨bb, bo, none⟩) nbk cbk)) (hbl : VR j bl (.slice (some ⟨bb, bo, none⟩) nbk cbk)) :
    ∀ {n i : Nat} {k : Ans}, oMctx h cs bl n i k = .yes → ∃ (a : Nat → Nat × Nat) (np : Nat → Option Addr) (nd : Nat → Nat), (∀ t, t < n → MrgF w xb xo cb0 co0 (i + t) (a (i + t)) (np (i + t)) (nd (i + t))) ∧ k = .yes := by
  intro n
  induction n with
  | zero => intro i k hk; exact ⟨fun _ => (0, 0), fun _ => none, fun _ => 0, fun t ht => absurd ht (Nat.not_lt_zero _), hk⟩
  | succ n ih =>
    intro i k hk
    rw [oMctx_succ] at hk
    obtain ⟨b, o, m, c, p, he, h1, h2, hk⟩ := oEl_ok (sz := 1) hcs Nat.one_pos hk
    cases he
    rw [Nat.mul_one] at h2
    obtain ⟨cav, cv, h3, h4, hk⟩ := oRd_ok hR h2 hk
    obtain ⟨cb, co, rfl⟩ := oRd_ptr h4 hk
    obtain ⟨bav, bcv, g1, g2, hk⟩ := oRd_ok hR h4 hk
    obtain ⟨bi, rfl, _, hk⟩ := oNat_ok g2 hk
    obtain ⟨b2, o2, m2, c2, q, he2, g3, g4, hk⟩ := oEl_ok (sz := 5) hbl (by decide) hk
    cases he2
    obtain ⟨nav, ncv, g5, g6, hk⟩ := oRd_ok hR g4 hk
    cases hX : nav.vX with
    | no => rw [hX] at hk; cases hk
    | sl => rw [hX] at hk; cases hk
    | lst xs =>
      rw [hX] at hk
      obtain ⟨cap, rfl⟩ := vX_lst hX
      have hk : Bool.rec (motive := fun _ => Ans) .no (oMnodes h cav xs (oMctx h cs bl n (i + 1) k)) (Nat.ble (lenF xs) 400) = .yes := hk
      cases hb2 : Nat.ble (lenF xs) 400 with
      | false => rw [hb2] at hk; cases hk
      | true =>
        rw [hb2] at hk
        have hk : oMnodes h cav xs (oMctx h cs bl n (i + 1) k) = .yes := hk
        have hle : xs.length ≤ 400 := by rw [← lenF_eq]; exact Nat.le_of_ble_eq_true hb2
        have key : ∃ np : Option Addr, BlkP w xb xo cb co np xs.length ∧ (∀ m, m < xs.length → ∃ nb no op ip il ic, np = some ⟨nb, no, none⟩ ∧ ElV w nb no m op ip il ic ∧ (op = 6 → ∃ f0 f1 k0 n0 k1 n1, One w cb co ip il ic f0 f1 k0 n0 k1 n1)) ∧ oMctx h cs bl n (i + 1) k = .yes := by
          by_cases hx : xs = []
          · subst hx
            obtain ⟨np, cn, rfl⟩ : ∃ np cn, ncv = .slice np 0 cn := by cases g6 <;> exact ⟨_, _, rfl⟩
            exact ⟨np, ⟨bi, _, _, _, _, cn, g1, hx0, g3, g5⟩, fun m hm => absurd hm (Nat.not_lt_zero _), hk⟩
          · obtain ⟨nb, no, cn, he3, _⟩ := lst_at (sz := 4) hR g6 hx
            subst he3
            obtain ⟨q1, q2⟩ := oMnodes_ok hR h4 g6 (m := 0) (fun t x hx => by simpa using hx) hk
            refine ⟨_, ⟨bi, _, _, _, _, cn, g1, hx0, g3, g5⟩, fun m hm => ?_, q2⟩
            obtain ⟨op, ip, il, ic, r1, r2⟩ := q1 m hm
            rw [Nat.zero_add] at r1
            exact ⟨nb, no, op, ip, il, ic, rfl, r1, r2⟩
        obtain ⟨np, r1, r2, r3⟩ := key
        obtain ⟨a, np2, nd, s1, s2⟩ := ih r3
        refine ⟨fun y => if y = i then (cb, co) else a y, fun y => if y = i then np else np2 y, fun y => if y = i then xs.length else nd y, ?_, s2⟩
        intro t ht
        cases t with
        | zero =>
          simp only [Nat.add_zero, if_true]
          exact ⟨h3, r1, hle, r2⟩
        | succ t =>
          have := s1 t (by omega)
          rw [show i + 1 + t = i + (t + 1) by omega] at this
          simp only [show ¬ i + (t + 1) = i by omega, if_false]
          exact this
noncomputable def oMerge (h : H) (x : AV) (k : AV → H → Ans) : Ans :=
  oRd h x (nat_lit 2) (fun cs => oRd h x (nat_lit 0) (fun bl => oEl cs (nat_lit 0) (nat_lit 1) (fun _ => oEl bl (nat_lit 0) (nat_lit 5) (fun _ => oLn cs (fun n => Bool.rec (motive := fun _ => Ans) .no (oMctx h cs bl n (nat_lit 0) (k (.int .i64 (.ofNat (nat_lit 0))) h)) (Nat.ble n (nat_lit 400)))))))
theorem oMerge_ok {j : Inj} {h : H} {nn : Nat} {w : World} (hR : RB P j h.blk nn w) {x : AV} {xv : Value} (hx : VR j x xv) {k : AV → H → Ans} (hk : oMerge h x k = .yes) :
    (Calls Tryz.prog 151 #[xv] w fun e w' => e = .returned (.int .i64 0) ∧ Below w.heap.size w w') ∧ k (.int .i64 0) h = .yes := by
  obtain ⟨xb, xo, rfl⟩ := oRd_ptr hx hk
  obtain ⟨cs, csv, h1, h2, hk⟩ := oRd_ok hR hx hk
  obtain ⟨bl, blv, h3, h4, hk⟩ := oRd_ok hR hx hk
  obtain ⟨cb0, co0, nc, cc, _, rfl, _, _, hk⟩ := oEl_ok (sz := 1) h2 Nat.one_pos hk
  obtain ⟨bb, bo, nbk, cbk, _, rfl, _, _, hk⟩ := oEl_ok (sz := 5) h4 (by decide) hk
  obtain ⟨p, n, c, he, hk⟩ := oLn_ok h2 hk
  cases he
  cases hb : Nat.ble nc 400 with
  | false => rw [show Nat.ble nc (nat_lit 400) = false from hb] at hk; cases hk
  | true =>
    rw [show Nat.ble nc (nat_lit 400) = true from hb] at hk
    obtain ⟨a, np, nd, s1, s2⟩ := oMctx_ok (xb := xb) (xo := xo) hR h2 h3 h4 (show oMctx h cs bl nc 0 _ = .yes from hk)
    have hle := Nat.le_of_ble_eq_true hb
    simp only [Nat.zero_add] at s1
    refine ⟨merges_c a np (fun i => min (nd i) 400) h1 (fun i hi => (s1 i hi).ptr) (fun i hi => ?_) hle (fun i => Nat.min_le_right _ _) (fun i hi m hm => (s1 i hi).one m (Nat.lt_of_lt_of_le hm (Nat.min_le_left _ _))), s2⟩
    rw [Nat.min_eq_left (s1 i hi).le]; exact (s1 i hi).blk
end Go.Ev
namespace Go.Ev
open Go.RowKit Go.Proofs.Cl Go.Proofs
variable {P : Env}
/-- the kind of what comes from a place of a context -/
noncomputable def oKd (h : H) (c x : AV) (k : Int → Ans) : Ans := VC.rec (motive := fun _ => Ans) .no .no .no (fun cs => oFr cs (fun q => oPar h c q k) (fun a q => oOut h c a q k)) x.vC
theorem oKd_ok {j : Inj} {h : H} {n : Nat} {w : World} (hR : RB P j h.blk n w) {c x : AV} {cb co : Nat} (hp : VR j c (.pointer (some ⟨cb, co, none⟩))) {k : Int → Ans} (hk : oKd h c x k = .yes) :
    ∃ f kd nn, x.cells = frA f ∧ Is w cb co f kd nn ∧ k kd = .yes := by
  unfold oKd at hk
  cases hc : x.vC with
  | agg cs =>
    rw [hc] at hk
    rw [vC_agg hc]
    rcases oFr_ok (show oFr cs _ _ = .yes from hk) with ⟨q, h1, h2⟩ | ⟨a, q, h1, h2⟩
    · obtain ⟨kd, nn, h3, h4⟩ := oPar_ok hR hp h2
      exact ⟨_, kd, nn, h1, h3, h4⟩
    · obtain ⟨kd, nn, h3, h4⟩ := oOut_ok hR hp h2
      exact ⟨_, kd, nn, h1, h3, h4⟩
  | _ => rw [hc] at hk; cases hk
/-- nothing is given to the parameters from idx on -/
noncomputable def oGive (h : H) (ab c : AV) (xs : List AV) (k kf : Ans) : Nat → Ans :=
  List.rec (motive := fun _ => Nat → Ans) (fun _ => k) (fun x _ ih i => oKd h ab x (fun kd => Bool.rec (motive := fun _ => Ans) (ih (Nat.succ i)) (oPar h c i (fun k2 => Bool.rec (motive := fun _ => Ans) kf (ih (Nat.succ i)) (isT k2))) (isT kd))) xs
theorem isT_false {n : Int} (h : isT n = false) : n = 0 := by rw [isT_eq] at h; simpa using h
theorem isT_true {n : Int} (h : isT n = true) : n ≠ 0 := by rw [isT_eq] at h; simpa using h
/-- a list of facts on places -/
theorem fs_cons {x : AV} {xs : List AV} {f : Fr} {Q : Nat → Fr → Int → Int → Prop} {kd nn : Int} (hx : x.cells = frA f) (h0 : Q 0 f kd nn) {fs : List Fr} {ks ns : Nat → Int} (h1 : xs.map AV.cells = fs.map frA) (h2 : ∀ i, i < fs.length → Q (i + 1) (fs.getD i (.par 0)) (ks i) (ns i)) :
    ∃ (fs : List Fr) (ks ns : Nat → Int), (x :: xs).map AV.cells = fs.map frA ∧ ∀ i, i < fs.length → Q i (fs.getD i (.par 0)) (ks i) (ns i) := by
  refine ⟨f :: fs, fun i => Nat.casesOn i kd ks, fun i => Nat.casesOn i nn ns, ?_, ?_⟩
  · show x.cells :: xs.map AV.cells = frA f :: fs.map frA
    rw [hx, h1]
  · intro i hi
    cases i with
    | zero => exact h0
    | succ i => exact h2 i (by simpa using hi)
theorem oGive_ok {j : Inj} {h : H} {n : Nat} {w : World} (hR : RB P j h.blk n w) {ab c : AV} {cb co abb ao : Nat} (hp : VR j c (.pointer (some ⟨cb, co, none⟩))) (ha : VR j ab (.pointer (some ⟨abb, ao, none⟩))) {k kf : Ans} :
    ∀ {xs : List AV} {i : Nat}, oGive h ab c xs k kf i = .yes → kf = .yes ∨ (∃ (fs : List Fr) (ks ns : Nat → Int), xs.map AV.cells = fs.map frA ∧ ∀ t, t < fs.length → Is w abb ao (fs.getD t (.par 0)) (ks t) (ns t) ∧ Still w cb co (i + t) (ks t)) ∧ k = .yes := by
  intro xs
  induction xs with
  | nil => intro i hk; exact .inr ⟨⟨[], fun _ => 0, fun _ => 0, rfl, fun t ht => absurd ht (Nat.not_lt_zero _)⟩, hk⟩
  | cons x xs ih =>
    intro i hk
    obtain ⟨f, kd, nn, h1, h2, hk⟩ := oKd_ok hR ha (show oKd h ab x _ = .yes from hk)
    have fin : Still w cb co i kd → oGive h ab c xs k kf (i + 1) = .yes → kf = .yes ∨ (∃ (fs : List Fr) (ks ns : Nat → Int), (x :: xs).map AV.cells = fs.map frA ∧ ∀ t, t < fs.length → Is w abb ao (fs.getD t (.par 0)) (ks t) (ns t) ∧ Still w cb co (i + t) (ks t)) ∧ k = .yes := by
      intro hs h3
      rcases ih h3 with h4 | ⟨⟨fs, ks, ns, g1, g2⟩, g3⟩
      · exact .inl h4
      · exact .inr ⟨fs_cons (Q := fun t f kd nn => Is w abb ao f kd nn ∧ Still w cb co (i + t) kd) h1 ⟨h2, hs⟩ g1 (fun t ht => by have := g2 t ht; rwa [show i + 1 + t = i + (t + 1) by omega] at this), g3⟩
    cases hT : isT kd with
    | false => rw [hT] at hk; exact fin (.inl (isT_false hT)) hk
    | true =>
      rw [hT] at hk
      obtain ⟨k2, n2, h3, hk⟩ := oPar_ok hR hp (show oPar h c i _ = .yes from hk)
      cases hT2 : isT k2 with
      | false => rw [hT2] at hk; exact .inl hk
      | true => rw [hT2] at hk; exact fin (.inr ⟨k2, n2, h3, isT_true hT2⟩) hk
/-- an output was given by an exit of this turn -/
noncomputable def oGiven (h : H) (ab : AV) (nd i : Nat) (t : Int) (k kf : Ans) : Ans :=
  oRd h ab (nat_lit 8) (fun s => oEl s nd (nat_lit 1) (fun p => oRd h p (nat_lit 0) (fun s => oEl s i (nat_lit 3) (fun e => oRd h e (nat_lit 0) (fun t2 => oInt t2 (fun t2 => oRd h e (nat_lit 1) (fun nx => oRd h e (nat_lit 2) (fun is =>
    VB.rec (motive := fun _ => Ans) .no (fun nx => VB.rec (motive := fun _ => Ans) .no (fun is => Bool.rec (motive := fun _ => Ans) (Bool.rec (motive := fun _ => Ans) kf (Bool.rec (motive := fun _ => Ans) kf k (ibeq t2 t)) is) kf nx) is.vB) nx.vB))))))))
theorem vB_is {v : AV} {b : Bool} (h : v.vB = .is b) : v = .bool b := by cases v <;> first | (cases h; rfl) | cases h
theorem oGiven_ok {j : Inj} {h : H} {n : Nat} {w : World} (hR : RB P j h.blk n w) {ab : AV} {abb ao : Nat} (ha : VR j ab (.pointer (some ⟨abb, ao, none⟩))) {nd i : Nat} {t : Int} {k kf : Ans} (hk : oGiven h ab nd i t k kf = .yes) : kf = .yes ∨ GivenV w abb ao nd i t false ∧ k = .yes := by
  obtain ⟨s, sv, h1, h2, hk⟩ := oRd_ok hR ha (show oRd h ab 8 _ = .yes from hk)
  obtain ⟨b, o, m, c, p, rfl, h3, h4, hk⟩ := oEl_ok (sz := 1) h2 Nat.one_pos hk
  rw [Nat.mul_one] at h4
  obtain ⟨s2, sv2, h5, h6, hk⟩ := oRd_ok hR h4 hk
  obtain ⟨b2, o2, m2, c2, e, rfl, h7, h8, hk⟩ := oEl_ok (sz := 3) h6 (by decide) hk
  obtain ⟨v0, c0, g0, r0, hk⟩ := oRd_ok hR h8 hk
  obtain ⟨t2, rfl, _, hk⟩ := oInt_ok r0 hk
  obtain ⟨v1, c1, g1, r1, hk⟩ := oRd_ok hR h8 hk
  obtain ⟨v2, c3, g2, r2, hz⟩ := oRd_ok hR h8 hk
  clear hk
  cases e1 : v1.vB with
  | no => rw [e1] at hz; cases hz
  | is nx =>
    rw [e1] at hz
    obtain rfl := vB_is e1
    cases e2 : v2.vB with
    | no => rw [e2] at hz; cases hz
    | is is2 =>
      rw [e2] at hz
      obtain rfl := vB_is e2
      cases r1
      cases r2
      cases nx with
      | true => exact .inl hz
      | false => cases is2 with
        | false => exact .inl hz
        | true =>
          have hy : Bool.rec (motive := fun _ => Ans) kf k (ibeq t2 t) = .yes := hz
          clear hz
          cases hb : ibeq t2 t with
          | false => rw [hb] at hy; exact .inl hy
          | true =>
            rw [hb] at hy
            rw [ibeq_eq] at hb
            have := eq_of_beq hb
            subst this
            exact .inr ⟨⟨b, o, m, c, b2, o2, m2, c2, h1, h3, h5, h7, g0, g1, g2⟩, hy⟩
noncomputable def oExits (h : H) (ab c : AV) (nd : Nat) (t : Int) (xs : List AV) (k kf : Ans) : Nat → Ans :=
  List.rec (motive := fun _ => Nat → Ans) (fun _ => k) (fun x _ ih i => oKd h c x (fun kd => Bool.rec (motive := fun _ => Ans) (ih (Nat.succ i)) (oGiven h ab nd i t (ih (Nat.succ i)) kf) (isT kd))) xs
theorem oExits_ok {j : Inj} {h : H} {n : Nat} {w : World} (hR : RB P j h.blk n w) {ab c : AV} {cb co abb ao nd : Nat} {t : Int} (hp : VR j c (.pointer (some ⟨cb, co, none⟩))) (ha : VR j ab (.pointer (some ⟨abb, ao, none⟩))) {k kf : Ans} :
    ∀ {xs : List AV} {i : Nat}, oExits h ab c nd t xs k kf i = .yes → kf = .yes ∨ (∃ (fs : List Fr) (ks ns : Nat → Int), xs.map AV.cells = fs.map frA ∧ ∀ q, q < fs.length → Is w cb co (fs.getD q (.par 0)) (ks q) (ns q) ∧ (ks q = 0 ∨ GivenV w abb ao nd (i + q) t false)) ∧ k = .yes := by
  intro xs
  induction xs with
  | nil => intro i hk; exact .inr ⟨⟨[], fun _ => 0, fun _ => 0, rfl, fun t ht => absurd ht (Nat.not_lt_zero _)⟩, hk⟩
  | cons x xs ih =>
    intro i hk
    obtain ⟨f, kd, nn, h1, h2, hk⟩ := oKd_ok hR hp (show oKd h c x _ = .yes from hk)
    have fin : (kd = 0 ∨ GivenV w abb ao nd i t false) → oExits h ab c nd t xs k kf (i + 1) = .yes → kf = .yes ∨ (∃ (fs : List Fr) (ks ns : Nat → Int), (x :: xs).map AV.cells = fs.map frA ∧ ∀ q, q < fs.length → Is w cb co (fs.getD q (.par 0)) (ks q) (ns q) ∧ (ks q = 0 ∨ GivenV w abb ao nd (i + q) t false)) ∧ k = .yes := by
      intro hs h3
      rcases ih h3 with h4 | ⟨⟨fs, ks, ns, g1, g2⟩, g3⟩
      · exact .inl h4
      · exact .inr ⟨fs_cons (Q := fun q f kd nn => Is w cb co f kd nn ∧ (kd = 0 ∨ GivenV w abb ao nd (i + q) t false)) h1 ⟨h2, hs⟩ g1 (fun q hq => by have := g2 q hq; rwa [show i + 1 + q = i + (q + 1) by omega] at this), g3⟩
    cases hT : isT kd with
    | false => rw [hT] at hk; exact fin (.inl (isT_false hT)) hk
    | true =>
      rw [hT] at hk
      rcases oGiven_ok hR ha (show oGiven h ab nd i t _ kf = .yes from hk) with h3 | ⟨h3, h4⟩
      · exact .inl h3
      · exact fin (.inr h3) h4
end Go.Ev
namespace Go.Ev
open Go.RowKit Go.Proofs.Cl Go.Proofs
variable {P : Env}
/-- the list of a frozen slice, of at most 1000 elements -/
noncomputable def oLst (s : AV) (k : List AV → Ans) : Ans := VX.rec (motive := fun _ => Ans) .no (fun _ _ _ _ => .no) (fun xs => Bool.rec (motive := fun _ => Ans) .no (k xs) (Nat.ble (lenF xs) (nat_lit 1000))) s.vX
theorem oLst_ok {s : AV} {k : List AV → Ans} (hk : oLst s k = .yes) : ∃ cap xs, s = .lst cap xs ∧ xs.length ≤ 1000 ∧ k xs = .yes := by
  unfold oLst at hk
  cases hX : s.vX with
  | no => rw [hX] at hk; cases hk
  | sl => rw [hX] at hk; cases hk
  | lst xs =>
    rw [hX] at hk
    obtain ⟨cap, rfl⟩ := vX_lst hX
    have hk2 : Bool.rec (motive := fun _ => Ans) .no (k xs) (Nat.ble (lenF xs) 1000) = .yes := hk
    cases hb : Nat.ble (lenF xs) 1000 with
    | false => rw [hb] at hk2; cases hk2
    | true => rw [hb] at hk2; exact ⟨cap, xs, rfl, by rw [← lenF_eq]; exact Nat.le_of_ble_eq_true hb, hk2⟩
theorem VR.lst_sl {j : Inj} {cap : Option Nat} {xs : List AV} {sv : Value} (h : VR j (.lst cap xs) sv) : ∃ p c, sv = .slice p xs.length c := by
  cases h <;> exact ⟨_, _, rfl⟩
noncomputable def oStr (s : AV) (k : Ans) : Ans := VS.rec (motive := fun _ => Ans) .no (fun _ => k) s.vS
theorem oStr_ok {j : Inj} {s : AV} {sv : Value} (h : VR j s sv) {k : Ans} (hk : oStr s k = .yes) : ∃ b, sv = .string b ∧ k = .yes := by
  cases s with
  | str s => cases h; exact ⟨_, rfl, hk⟩
  | _ => cases hk
theorem frA_inj {f g : Fr} (h : frA f = frA g) : f = g := by
  cases f <;> cases g <;> simp [frA] at h ⊢ <;> omega
/-- the next turn was begun: it gets nothing new -/
noncomputable def oTurn (h : H) (cs c : AV) (nxs : List AV) (x0 : AV) (kq kf : Ans) : Ans :=
  oKd h c x0 (fun kd => Bool.rec (motive := fun _ => Ans) kf (Bool.rec (motive := fun _ => Ans) (oRd h c (nat_lit 7) (fun nv => oInt nv (fun nv => Int.rec (motive := fun _ => Ans) (fun t => oEl cs t (nat_lit 1) (fun p => oRd h p (nat_lit 0) (fun tc => oRd h tc (nat_lit 0) (fun _ => oGive h c tc nxs kq kf (nat_lit 0))))) (fun _ => kf) nv))) kf (ibeq kd (.ofNat (nat_lit 5)))) (isT kd))
theorem oTurn_ok {j : Inj} {h : H} {n : Nat} {w : World} (hR : RB P j h.blk n w) {cs c x0 : AV} {nxs : List AV} {cb co cb0 co0 nc cc : Nat} (hp : VR j c (.pointer (some ⟨cb, co, none⟩))) (hcs : VR j cs (.slice (some ⟨cb0, co0, none⟩) nc cc)) {kq kf : Ans} (hk : oTurn h cs c nxs x0 kq kf = .yes) :
    kf = .yes ∨ (∃ (f0 : Fr) (k0 n0 : Int) (nx tb tbo : Nat) (fs : List Fr) (ks ns : Nat → Int), x0.cells = frA f0 ∧ Is w cb co f0 k0 n0 ∧ k0 ≠ 0 ∧ k0 ≠ 5 ∧ w.cell? ⟨cb, co + 7, none⟩ = some (.int .i64 nx) ∧ nx < nc ∧ w.cell? ⟨cb0, co0 + nx, none⟩ = some (.pointer (some ⟨tb, tbo, none⟩)) ∧
      nxs.map AV.cells = fs.map frA ∧ ∀ i, i < fs.length → Is w cb co (fs.getD i (.par 0)) (ks i) (ns i) ∧ Still w tb tbo i (ks i)) ∧ kq = .yes := by
  obtain ⟨f0, k0, n0, e0, i0, hk⟩ := oKd_ok hR hp (show oKd h c x0 _ = .yes from hk)
  cases hT : isT k0 with
  | false => rw [hT] at hk; exact .inl hk
  | true =>
    rw [hT] at hk
    have hk : Bool.rec (motive := fun _ => Ans) (oRd h c 7 (fun nv => oInt nv (fun nv => Int.rec (motive := fun _ => Ans) (fun t => oEl cs t 1 (fun p => oRd h p 0 (fun tc => oRd h tc 0 (fun _ => oGive h c tc nxs kq kf 0)))) (fun _ => kf) nv))) kf (ibeq k0 (.ofNat 5)) = .yes := hk
    cases hb : ibeq k0 (.ofNat 5) with
    | true => rw [hb] at hk; exact .inl hk
    | false =>
      rw [hb] at hk
      have h5 : k0 ≠ 5 := fun e => by rw [ibeq_eq, e] at hb; simp at hb
      obtain ⟨nv, nvc, e7, r1, hk⟩ := oRd_ok hR hp (show oRd h c 7 _ = .yes from hk)
      obtain ⟨nx, rfl, _, hk⟩ := oInt_ok r1 hk
      cases nx with
      | negSucc m => exact .inl hk
      | ofNat nx =>
        obtain ⟨b', o', m', c', p, he, hlt, r2, hk⟩ := oEl_ok (sz := 1) hcs Nat.one_pos (show oEl cs nx 1 _ = .yes from hk)
        cases he
        rw [Nat.mul_one] at r2
        obtain ⟨tc, tcv, e8, r3, hk⟩ := oRd_ok hR r2 hk
        obtain ⟨tb, tbo, rfl⟩ := oRd_ptr r3 hk
        obtain ⟨_, _, _, _, hk⟩ := oRd_ok hR r3 hk
        rcases oGive_ok hR r3 hp (show oGive h c tc nxs kq kf 0 = .yes from hk) with h9 | ⟨⟨fs, ks, ns, q1, q2⟩, hq⟩
        · exact .inl h9
        · exact .inr ⟨⟨f0, k0, n0, nx, tb, tbo, fs, ks, ns, e0, i0, isT_true hT, h5, e7, hlt, e8, q1, fun i hi => by have := q2 i hi; rwa [Nat.zero_add] at this⟩, hq⟩
/-- the end of handOn: no nexts, or nothing has come for the next turn -/
noncomputable def oNext (h : H) (cs c q nx : AV) (kq kf : Ans) : Ans :=
  oLst nx (fun nxs => List.rec (motive := fun _ => Ans) kq (fun x0 _ _ => oRd h q (nat_lit 0) (fun nm => oStr nm (oRd h q (nat_lit 1) (fun pr => oInt pr (fun _ => oRd h q (nat_lit 2) (fun ns => oLst ns (fun _ => oThere h c nxs (fun l => List.rec (motive := fun _ => Ans) .no (fun b _ _ => Bool.rec (motive := fun _ => Ans) kq (oTurn h cs c nxs x0 kq kf) b) l)))))))) nxs)
noncomputable def oArgs (h : H) (bl ab c : AV) (nd : Nat) (t : Int) (k kf : Ans) : Ans :=
  Bool.rec (motive := fun _ => Ans) (oRd h ab (nat_lit 0) (fun b2 => oNat b2 (fun bi2 => oEl bl bi2 (nat_lit 5) (fun q2 => oRd h q2 (nat_lit 2) (fun nodes => oLst nodes (fun ns => oNth nd ns (fun x => oNode x (fun _ fs => Bool.rec (motive := fun _ => Ans) .no (oGive h ab c fs k kf (nat_lit 0)) (Nat.ble (lenF fs) (nat_lit 1000)))))))))) k (posB t)
noncomputable def oHandIn (h : H) (cs bl c q nx : AV) (pa : Nat) (kq kf : Ans) : Ans :=
  oEl cs pa (nat_lit 1) (fun p2 => oRd h p2 (nat_lit 0) (fun ab => oRd h ab (nat_lit 0) (fun _ => oRd h c (nat_lit 2) (fun nd => oNat nd (fun nd => oRd h c (nat_lit 3) (fun tt => oInt tt (fun t => oRd h q (nat_lit 4) (fun ex => oLst ex (fun exs =>
    oExits h ab c nd t exs (oArgs h bl ab c nd t (oNext h cs c q nx kq kf) kf) kf (nat_lit 0))))))))))
noncomputable def oHandOn (h : H) (x i : AV) (kq kf : Ans) : Ans :=
  oRd h x (nat_lit 2) (fun cs => oRd h x (nat_lit 0) (fun bl => oNat i (fun i => oEl cs i (nat_lit 1) (fun p => oRd h p (nat_lit 0) (fun c => oRd h c (nat_lit 1) (fun par => oInt par (fun par => oRd h c (nat_lit 0) (fun b => oNat b (fun bi => oEl bl bi (nat_lit 5) (fun q => oRd h q (nat_lit 3) (fun nx =>
    Int.rec (motive := fun _ => Ans) (fun pa => oHandIn h cs bl c q nx pa kq kf) (fun a => Bool.rec (motive := fun _ => Ans) .no (oLst nx (fun _ => kq)) (Nat.beq a (nat_lit 0))) par)))))))))))
theorem oArgs_ok {j : Inj} {h : H} {n : Nat} {w : World} (hR : RB P j h.blk n w) {bl ab c : AV} {xb xo cb co abb ao nd pa cb0 co0 nc cc bb bo nbk cbk : Nat} {t : Int} (hp : VR j c (.pointer (some ⟨cb, co, none⟩))) (ha : VR j ab (.pointer (some ⟨abb, ao, none⟩)))
    (hx0 : w.cell? ⟨xb, xo, none⟩ = some (.slice (some ⟨bb, bo, none⟩) nbk cbk)) (hbl : VR j bl (.slice (some ⟨bb, bo, none⟩) nbk cbk)) (h3 : w.cell? ⟨cb, co + 3, none⟩ = some (.int .i64 t)) (h1 : w.cell? ⟨cb, co + 1, none⟩ = some (.int .i64 pa)) (h2 : w.cell? ⟨cb, co + 2, none⟩ = some (.int .i64 nd))
    (h0 : w.cell? ⟨xb, xo + 2, none⟩ = some (.slice (some ⟨cb0, co0, none⟩) nc cc)) (hpa : pa < nc) (hab : w.cell? ⟨cb0, co0 + pa, none⟩ = some (.pointer (some ⟨abb, ao, none⟩))) {k kf : Ans} (hk : oArgs h bl ab c nd t k kf = .yes) :
    kf = .yes ∨ (∀ w', Below w.heap.size w w' → Calls Tryz.prog 219 #[.pointer (some ⟨xb, xo, none⟩), .pointer (some ⟨cb, co, none⟩)] w' fun e w'' => e = .returned (.bool false) ∧ Below w'.heap.size w' w'') ∧ k = .yes := by
  unfold oArgs at hk
  cases hpos : posB t with
  | true =>
    rw [hpos] at hk
    exact .inr ⟨fun w' hB => args_turn (cell_below h3 hB (cell_lt h3)) (posB_true hpos), hk⟩
  | false =>
    rw [hpos] at hk
    obtain ⟨b2, bv, g1, g2, hk⟩ := oRd_ok hR ha (show oRd h ab 0 _ = .yes from hk)
    obtain ⟨bi2, rfl, _, hk⟩ := oNat_ok g2 hk
    obtain ⟨b3, o3, m3, c3, q2, he, g3, g4, hk⟩ := oEl_ok (sz := 5) hbl (by decide) hk
    cases he
    obtain ⟨nav, ncv, g5, g6, hk⟩ := oRd_ok hR g4 hk
    obtain ⟨cap, ns, rfl, _, hk⟩ := oLst_ok hk
    obtain ⟨x, hx, hk⟩ := oNth_ok hk
    obtain ⟨op, s, N, cap2, fs0, hc, hk⟩ := oNode_ok hk
    have hne : ns ≠ [] := fun e => by rw [e] at hx; simp at hx
    obtain ⟨nb, no, cn, he3, _⟩ := lst_at (sz := 4) hR g6 hne
    subst he3
    obtain ⟨ip, ic, hel, hins⟩ := elV_of hR g6 hx hc
    have hk2 : Bool.rec (motive := fun _ => Ans) .no (oGive h ab c fs0 k kf 0) (Nat.ble (lenF fs0) 1000) = .yes := hk
    clear hk
    cases hb : Nat.ble (lenF fs0) 1000 with
    | false => rw [hb] at hk2; cases hk2
    | true =>
      rw [hb] at hk2
      have hlen := Nat.le_of_ble_eq_true hb
      rw [lenF_eq] at hlen
      rcases oGive_ok hR hp ha (show oGive h ab c fs0 k kf 0 = .yes from hk2) with h4 | ⟨⟨fs, ks, nss, q1, q2⟩, h5⟩
      · exact .inl h4
      · have hl : fs.length ≤ 9223372036854775807 := by have := congrArg List.length q1; simp at this; omega
        have hF := hasF_of hR hins q1
        have hbk : BlkV w xb xo abb ao nb no ns.length := ⟨bi2, _, _, _, _, cn, g1, hx0, g3, g5⟩
        refine .inr ⟨fun w' hB => ?_, h5⟩
        refine args_c (ks := ks) (ns := nss) (cell_below h3 hB (cell_lt h3)) (posB_false hpos) (cell_below h1 hB (cell_lt h1)) (cell_below h2 hB (cell_lt h2)) (cell_below h0 hB (cell_lt h0)) hpa (cell_below hab hB (cell_lt hab)) (hbk.below hB) (List.getElem?_eq_some_iff.1 hx).1 (hel.below hB) (hF.below hB) hl (fun i hi => ?_)
        have := q2 i hi
        rw [Nat.zero_add] at this
        exact ⟨this.1.below hB, this.2.below hB⟩
theorem BlkW.below {w w' : World} {xb xo cb co n3 c3 : Nat} {p3 : Option Addr} (h : BlkW w xb xo cb co p3 n3 c3) (hB : Below w.heap.size w w') : BlkW w' xb xo cb co p3 n3 c3 := by
  obtain ⟨bi, bb, bo, nbk, cbk, nm, pr, p2, n2, c2, p4, n4, c4, b1, b2, b3, b4, b5, b6, b7, b8⟩ := h.h
  exact ⟨bi, bb, bo, nbk, cbk, nm, pr, p2, n2, c2, p4, n4, c4, cell_below b1 hB (cell_lt b1), cell_below b2 hB (cell_lt b2), b3, cell_below b4 hB (cell_lt b4), cell_below b5 hB (cell_lt b5), cell_below b6 hB (cell_lt b6), cell_below b7 hB (cell_lt b7), cell_below b8 hB (cell_lt b8)⟩
theorem oHandOn_ok {j : Inj} {h : H} {nn : Nat} {w : World} (hR : RB P j h.blk nn w) {x i : AV} {xv iv : Value} (hx : VR j x xv) (hi : VR j i iv) {kq kf : Ans} (hk : oHandOn h x i kq kf = .yes) :
    kf = .yes ∨ (Calls Tryz.prog 150 #[xv, iv] w fun e w' => e = .returned (.tuple #[.bool false, .int .i64 0]) ∧ Below w.heap.size w w') ∧ kq = .yes := by
  obtain ⟨xb, xo, rfl⟩ := oRd_ptr hx hk
  obtain ⟨cs, csv, h0, r0, hk⟩ := oRd_ok hR hx hk
  obtain ⟨bl, blv, hx0, hbl, hk⟩ := oRd_ok hR hx hk
  obtain ⟨i, rfl, _, hk⟩ := oNat_ok hi hk
  obtain ⟨cb0, co0, nc, cc, p, rfl, hin, r1, hk⟩ := oEl_ok (sz := 1) r0 Nat.one_pos hk
  rw [Nat.mul_one] at r1
  obtain ⟨c, cv, hc, rc, hk⟩ := oRd_ok hR r1 hk
  obtain ⟨cb, co, rfl⟩ := oRd_ptr rc hk
  obtain ⟨pav, pcv, h1, r2, hk⟩ := oRd_ok hR rc hk
  obtain ⟨par, rfl, _, hk⟩ := oInt_ok r2 hk
  obtain ⟨bav, bcv, b1, r3, hk⟩ := oRd_ok hR rc hk
  obtain ⟨bi, rfl, _, hk⟩ := oNat_ok r3 hk
  obtain ⟨bb, bo, nbk, cbk, q, rfl, b3, rq, hk⟩ := oEl_ok (sz := 5) hbl (by decide) hk
  obtain ⟨nx, nxv, b7, r4, hk⟩ := oRd_ok hR rq hk
  cases par with
  | negSucc a =>
    have hk2 : Bool.rec (motive := fun _ => Ans) .no (oLst nx (fun _ => kq)) (Nat.beq a 0) = .yes := hk
    clear hk
    cases hb : Nat.beq a 0 with
    | false => rw [hb] at hk2; cases hk2
    | true =>
      rw [hb] at hk2
      obtain rfl := Nat.eq_of_beq_eq_true hb
      obtain ⟨cap, xs, rfl, _, hk3⟩ := oLst_ok (show oLst nx _ = .yes from hk2)
      obtain ⟨ip, ic, rfl⟩ := r4.lst_sl
      exact .inr ⟨hand_root h0 hin hc h1 ⟨bi, _, _, _, _, b1, hx0, b3, b7⟩, hk3⟩
  | ofNat pa =>
    obtain ⟨b', o', m', c', p2, he, hpa, r5, hk⟩ := oEl_ok (sz := 1) r0 Nat.one_pos (show oHandIn h cs bl c q nx pa kq kf = .yes from hk)
    cases he
    rw [Nat.mul_one] at r5
    obtain ⟨ab, abv, hab, ra, hk⟩ := oRd_ok hR r5 hk
    obtain ⟨abb, ao, rfl⟩ := oRd_ptr ra hk
    obtain ⟨_, _, _, _, hk⟩ := oRd_ok hR ra hk
    obtain ⟨ndv, ndc, h2, r6, hk⟩ := oRd_ok hR rc hk
    obtain ⟨nd, rfl, _, hk⟩ := oNat_ok r6 hk
    obtain ⟨tv, tc, h3, r7, hk⟩ := oRd_ok hR rc hk
    obtain ⟨t, rfl, _, hk⟩ := oInt_ok r7 hk
    obtain ⟨ex, exv, b8, r8, hk⟩ := oRd_ok hR rq hk
    obtain ⟨cap, exs, rfl, hel, hk⟩ := oLst_ok hk
    obtain ⟨eip, eic, rfl⟩ := r8.lst_sl
    rcases oExits_ok hR rc ra hk with h9 | ⟨⟨fs, ks, nss, q1, q2⟩, hk⟩
    · exact .inl h9
    have hl : fs.length ≤ 9223372036854775807 := by have := congrArg List.length q1; simp at this; omega
    have hF := hasF_of hR r8 q1
    have hAb : AboveV w xb xo cb co abb ao nd := ⟨pa, _, _, _, _, h1, h2, h0, hpa, hab⟩
    have hE : ∀ w', Below w.heap.size w w' → Calls Tryz.prog 220 #[.pointer (some ⟨xb, xo, none⟩), .pointer (some ⟨cb, co, none⟩)] w' fun e w'' => e = .returned (.tuple #[.bool false, .int .i64 0]) ∧ Below w'.heap.size w' w'' := fun w' hB => by
      refine exits_c (ks := ks) (ns := nss) (cell_below h3 hB (cell_lt h3)) (hAb.below hB) (BlkF.below ⟨bi, _, _, _, _, b1, hx0, b3, b8⟩ hB) (hF.below hB) hl (fun i hi => ?_)
      have := q2 i hi
      rw [Nat.zero_add] at this
      exact ⟨this.1.below hB, this.2.imp id (fun h => h.below hB)⟩
    rcases oArgs_ok hR rc ra hx0 hbl h3 h1 h2 h0 hpa hab hk with h9 | ⟨hA, hk⟩
    · exact .inl h9
    have hk2 := hk
    unfold oNext at hk2
    obtain ⟨cap2, nxs, rfl, hnl, hk2⟩ := oLst_ok hk2
    obtain ⟨nip, nic, rfl⟩ := r4.lst_sl
    cases nxs with
    | nil => exact .inr ⟨hand_plain h0 hin hc h1 ⟨bi, _, _, _, _, b1, hx0, b3, b7⟩ hA hE, hk2⟩
    | cons x0 xs0 =>
      obtain ⟨nm, nmc, b4, r9, hk3⟩ := oRd_ok hR rq (show oRd h q 0 _ = .yes from hk2)
      obtain ⟨nmb, rfl, hk3⟩ := oStr_ok r9 hk3
      obtain ⟨pr, prc, b5, r10, hk3⟩ := oRd_ok hR rq hk3
      obtain ⟨prn, rfl, _, hk3⟩ := oInt_ok r10 hk3
      obtain ⟨nsv, nsc, b6, r11, hk3⟩ := oRd_ok hR rq hk3
      obtain ⟨cap3, nsl, rfl, _, hk3⟩ := oLst_ok hk3
      obtain ⟨nsp, nsn, rfl⟩ := r11.lst_sl
      obtain ⟨gs, ks2, ns2, q3, q4, hk3⟩ := oThere_ok hR rc hk3
      have hG := hasF_of hR r4 q3
      cases hgs : gs with
      | nil => rw [hgs] at q3; cases q3
      | cons g gs2 =>
        have hne : gs ≠ [] := by rw [hgs]; simp
        have h00 := q4 0 (List.length_pos_iff.2 hne)
        rw [hgs, List.length_cons, List.range_succ_eq_map, List.map_cons] at hk3
        have hk4 : Bool.rec (motive := fun _ => Ans) kq (oTurn h cs c (x0 :: xs0) x0 kq kf) (ks2 0 != 0) = .yes := hk3
        cases hz : (ks2 0 != 0) with
        | true =>
          rw [hz] at hk4
          rcases oTurn_ok hR rc r0 (show oTurn h cs c (x0 :: xs0) x0 kq kf = .yes from hk4) with h9 | ⟨⟨f0, k0, n0, nx2, tb, tbo, fs2, ks3, ns3, e0, i0, k00, k05, e7, hlt, hp2, q5, q6⟩, hk5⟩
          · exact .inl h9
          · refine .inr ⟨hand_loop h0 hin hc h1 ⟨bi, _, _, _, _, b1, hx0, b3, b7⟩ (by simp) hA hE (fun w' hB => ?_), hk5⟩
            have hF2 := hasF_of hR r4 q5
            cases hfs : fs2 with
            | nil => rw [hfs] at q5; cases q5
            | cons f1 fs3 =>
              have hne2 : fs2 ≠ [] := by rw [hfs]; simp
              have e00 : fs2.getD 0 (.par 0) = f0 := by
                rw [hfs] at q5 ⊢
                rw [List.map_cons, List.map_cons, List.cons.injEq] at q5
                exact frA_inj (q5.1.symm.trans e0)
              have hl2 : fs2.length ≤ 9223372036854775807 := by have := congrArg List.length q5; simp at this hnl; omega
              rw [← hfs] at *
              exact nexts_there (BlkW.below ⟨bi, _, _, _, _, nmb, prn, _, _, _, _, _, _, b1, hx0, b3, b4, b5, b6, b7, b8⟩ hB) (hF2.below hB) hne2 hl2 (by rw [e00]; exact i0.below hB) k00 k05 (cell_below h0 hB (cell_lt h0)) (cell_below e7 hB (cell_lt e7)) hlt (cell_below hp2 hB (cell_lt hp2)) (fun i hi => ⟨(q6 i hi).1.below hB, (q6 i hi).2.below hB⟩)
        | false =>
          rw [hz] at hk4
          have hz0 : ks2 0 = 0 := by simpa using hz
          rw [hz0] at h00
          refine .inr ⟨hand_loop h0 hin hc h1 ⟨bi, _, _, _, _, b1, hx0, b3, b7⟩ (by simp) hA hE (fun w' hB => ?_), hk4⟩
          exact nexts_hole (BlkW.below ⟨bi, _, _, _, _, nmb, prn, _, _, _, _, _, _, b1, hx0, b3, b4, b5, b6, b7, b8⟩ hB) (hG.below hB) hne (h00.below hB)
end Go.Ev
