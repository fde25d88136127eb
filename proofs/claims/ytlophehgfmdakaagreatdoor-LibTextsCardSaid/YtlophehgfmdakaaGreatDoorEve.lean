/- PROVED HERE: the tied card of LibTexts (floodgatelaw25): the call returns true, and its argument reads as before, for every text that its given row takes in. CONDITIONS: those of the given row and card, none beside them. HOW: an evaluator of Go calls is proved sound (parts Eva to Evf), the closed runs are reckoned with it by the kernel (parts Lt), a name that is none of the library's is walked by the kit's tactics (part Wk), the row and the card stand in Cf and Cp. Part Eve. -/
import Derived.Test.YtlophehgfmdakaaGreatDoorEvd
namespace Go.Ev

/-! # Code over registers -/

inductive RQ where
  | ok (x : Ex) (g : RG) (h : H)
  | fail
structure BR where
  f : CallF → Nat → E → RG → H → RQ
/-- what follows in the code -/
inductive K where
  | done
  | more (f : Cx → BR)
noncomputable def BR.bad : BR := ⟨fun _ _ _ _ _ => .fail⟩
noncomputable def kE (k : K) (cx : Cx) : BR := K.rec (motive := fun _ => BR) ⟨fun _ _ _ g h => .ok .norm g h⟩ (fun f => f cx) k

/-! ## Operations in order -/

structure NX where
  f : CallF → Nat → E → RG → AV → H → RQ
section
variable (base : T Nat)
noncomputable def nextQ (dst : Option Pos) (kont : Cx → BR) (cx : Cx) : NX :=
  Option.rec (motive := fun _ => NX) ⟨fun call n e g _ h => (kont cx).f call n e g h⟩
    (fun d => Fd.rec (motive := fun _ => NX) ⟨fun call n e g v h => (kont (cx.put d)).f call n (.c v e) g h⟩
      (fun i => ⟨fun call n e g v h => (kont (cx.put d)).f call n (.c v e) ((rgS i).f v g) h⟩) (T.fd d base)) dst
noncomputable def doQ (dst : Option Pos) (op : CO) (kont : Cx → BR) (cx : Cx) : BR :=
  ⟨fun call n e g h => (qop RQ.fail base cx op).f e g h (fun v h' => (nextQ base dst kont cx).f call n e g v h') (fun f args => RC.rec (motive := fun _ => RQ) (fun v h' => (nextQ base dst kont cx).f call n e g v h') .fail (call f args h))⟩
noncomputable def guardQ (dst : Option Pos) (op : CO) (p : Pos) (w : Bool) (kont : Cx → BR) (cx : Cx) : BR :=
  Bool.rec (motive := fun _ => BR) .bad (Bool.rec (motive := fun _ => BR)
    ⟨fun call n e g h => AV.cG ((rdD base cx (.t p)).f e g) .fail ((nextQ base dst kont cx).f call n e g (.tup []) h) (fun z => Bool.rec ((doQ base dst op kont cx).f call n e g h) ((nextQ base dst kont cx).f call n e g (.tup []) h) z)⟩
    ⟨fun call n e g h => AV.cG ((rdD base cx (.t p)).f e g) .fail ((nextQ base dst kont cx).f call n e g (.tup []) h) (fun z => Bool.rec ((nextQ base dst kont cx).f call n e g (.tup []) h) ((doQ base dst op kont cx).f call n e g h) z)⟩ w) (isOk base cx (.t p))
inductive LO where | no | is (lc : Lc)
noncomputable def lcOf (cx : Cx) (x : CA) : LO := CA.rec (motive := fun _ => LO) (fun p => Fd.rec (motive := fun _ => LO) .no (fun lc => .is lc) (T.fd p cx.m)) (fun v => .is (.con v)) x
noncomputable def mvQ (d : Pos) (x : CA) (kont : Cx → BR) (cx : Cx) : BR :=
  LO.rec (motive := fun _ => BR) (doQ base (some d) (.mv x) kont cx) (fun lc => Fd.rec (motive := fun _ => BR) (kont (cx.ali d lc))
    (fun i => ⟨fun call n e g h => (kont (cx.ali d lc)).f call n e ((rgS i).f ((rdD base cx x).f e g) g) h⟩) (T.fd d base)) (lcOf cx x)
inductive MO where | no | is (x : CA)
noncomputable def mvOf : CO → MO
  | .mv x => .is x
  | _ => .no
noncomputable def stepQ1 (o : COper) (kont : Cx → BR) (cx : Cx) : BR :=
  COper.rec (motive := fun _ => BR) (fun dst op guard => Bool.rec (motive := fun _ => BR) .bad
    (Option.rec (motive := fun _ => BR) (Option.rec (motive := fun _ => BR) (doQ base none op kont cx) (fun d => MO.rec (motive := fun _ => BR) (doQ base (some d) op kont cx) (fun x => mvQ base d x kont cx) (mvOf op)) dst)
      (fun g => Prod.rec (motive := fun _ => BR) (fun p w => guardQ base dst op p w kont cx) g) guard) (okAll base cx op.reads)) o
noncomputable def opsQ (l : List COper) (kont : Cx → BR) : Cx → BR := List.rec (motive := fun _ => Cx → BR) kont (fun o _ ih cx => stepQ1 base o ih cx) l
end

variable {base : T Nat} {cx : Cx} {e : E} {g g' : RG} {tm : Tm} {h h' : H} {x : Ex} {call : CallF} {n : Nat}
theorem wrD_is {d : Pos} {i : Nat} (hd : T.fd d base = .is i) : wrD base d = rgS i := by unfold wrD; rw [hd]
theorem wrD_no {d : Pos} (hd : T.fd d base = .no) : wrD base d = ⟨fun _ g => g⟩ := by unfold wrD; rw [hd]
theorem nextQ_spec (hb : BaseOk base) (hR : Rel base cx e g tm) (dst : Option Pos) (v : AV) (kont : Cx → BR) :
    ∃ cx1 e1 g1, Rel base cx1 e1 g1 (setDst dst v tm) ∧ ∀ call n h, (nextQ base dst kont cx).f call n e g v h = (kont cx1).f call n e1 g1 h := by
  cases dst with
  | none => exact ⟨cx, e, g, hR, fun _ _ _ => rfl⟩
  | some d =>
    refine ⟨cx.put d, .c v e, (wrD base d).f v g, hR.put hb d v, fun call n h => ?_⟩
    unfold nextQ
    cases hd : T.fd d base with
    | no => rw [wrD_no hd]; simp only [hd]
    | is i => rw [wrD_is hd]; simp only [hd]
/-- one operation, and what follows -/
def StepTo (base : T Nat) (call : CallF) (n : Nat) (kont : Cx → BR) (_tm : Tm) (_h : H) (x : Ex) (g' : RG) (h' : H) (s : (Tm → H → R) → R) : Prop :=
  ∃ tm1 h1 cx1 e1 g1, (∀ k, s k = k tm1 h1) ∧ Rel base cx1 e1 g1 tm1 ∧ (kont cx1).f call n e1 g1 h1 = .ok x g' h'
theorem doQ_spec (hb : BaseOk base) (hR : Rel base cx e g tm) {dst : Option Pos} {op : CO} (ho : okAll base cx op.reads = true) {kont : Cx → BR} (hr : (doQ base dst op kont cx).f call n e g h = .ok x g' h') :
    StepTo base call n kont tm h x g' h' (fun k => outK call dst tm h k (op.run tm h)) := by
  have hr : (qop RQ.fail base cx op).f e g h (fun v h' => (nextQ base dst kont cx).f call n e g v h') (fun f args => RC.rec (motive := fun _ => RQ) (fun v h' => (nextQ base dst kont cx).f call n e g v h') .fail (call f args h)) = .ok x g' h' := hr
  rw [qop_spec hR ho] at hr
  cases ho : op.run tm h with
  | fail => rw [ho] at hr; cases hr
  | val v h1 =>
    rw [ho] at hr
    obtain ⟨cx1, e1, g1, h2, h3⟩ := nextQ_spec hb hR dst v kont
    exact ⟨setDst dst v tm, h1, cx1, e1, g1, fun k => rfl, h2, by rw [← h3]; exact hr⟩
  | call f args =>
    rw [ho] at hr
    have hr : RC.rec (motive := fun _ => RQ) (fun v h' => (nextQ base dst kont cx).f call n e g v h') .fail (call f args h) = .ok x g' h' := hr
    cases hc : call f args h with
    | fail => rw [hc] at hr; cases hr
    | ok v h1 =>
      rw [hc] at hr
      obtain ⟨cx1, e1, g1, h2, h3⟩ := nextQ_spec hb hR dst v kont
      refine ⟨setDst dst v tm, h1, cx1, e1, g1, fun k => ?_, h2, by rw [← h3]; exact hr⟩
      show backK dst tm k (call f args h) = _
      rw [hc]; rfl
theorem skipQ_spec (hb : BaseOk base) (hR : Rel base cx e g tm) {dst : Option Pos} {kont : Cx → BR} (hr : (nextQ base dst kont cx).f call n e g (.tup []) h = .ok x g' h') :
    StepTo base call n kont tm h x g' h' (fun k => k (setDst dst (.tup []) tm) h) := by
  obtain ⟨cx1, e1, g1, h2, h3⟩ := nextQ_spec hb hR dst (.tup []) kont
  exact ⟨_, _, cx1, e1, g1, fun k => rfl, h2, by rw [← h3]; exact hr⟩
theorem wanted_bool {p : Pos} {w b : Bool} (hp : (CA.t p).ev tm = .bool b) : wantedA tm (some (p, w)) = some (match w with | true => b | false => not b) := by
  rw [CA.ev_t] at hp
  unfold wantedA
  cases hq : T.get p tm with
  | none => rw [hq] at hp; cases hp
  | some u => rw [hq] at hp; have hp : u = .bool b := hp; subst hp; simp only [hq]; cases w <;> rfl
theorem wanted_tup {p : Pos} {w : Bool} {vs : List AV} (hp : (CA.t p).ev tm = .tup vs) : wantedA tm (some (p, w)) = some false := by
  rw [CA.ev_t] at hp
  unfold wantedA
  cases hq : T.get p tm with
  | none => rw [hq] at hp; cases hp
  | some u => rw [hq] at hp; have hp : u = .tup vs := hp; subst hp; simp only [hq]
theorem cG_cases {ρ : Type} {v : AV} {z t : ρ} {a : Bool → ρ} : (v.cG z t a = z) ∨ ((∃ vs, v = .tup vs) ∧ v.cG z t a = t) ∨ ∃ b, v = .bool b ∧ v.cG z t a = a b := by
  cases v <;> first | exact .inl rfl | exact .inr (.inl ⟨⟨_, rfl⟩, rfl⟩) | exact .inr (.inr ⟨_, rfl, rfl⟩)
theorem guardQ_spec (hb : BaseOk base) (hR : Rel base cx e g tm) {dst : Option Pos} {op : CO} {p : Pos} {w : Bool} (ho : okAll base cx op.reads = true) {kont : Cx → BR} (hr : (guardQ base dst op p w kont cx).f call n e g h = .ok x g' h') :
    StepTo base call n kont tm h x g' h' (fun k => wantK call dst op tm h k (wantedA tm (some (p, w)))) := by
  unfold guardQ at hr
  cases hp : isOk base cx (.t p) with
  | false => rw [hp] at hr; cases hr
  | true =>
    rw [hp] at hr
    have hv := rdD_spec hR hp
    cases w with
    | false =>
      have hr : AV.cG ((rdD base cx (.t p)).f e g) .fail ((nextQ base dst kont cx).f call n e g (.tup []) h) (fun z => Bool.rec ((doQ base dst op kont cx).f call n e g h) ((nextQ base dst kont cx).f call n e g (.tup []) h) z) = .ok x g' h' := hr
      rw [hv] at hr
      rcases cG_cases (v := (CA.t p).ev tm) (z := RQ.fail) (t := (nextQ base dst kont cx).f call n e g (.tup []) h) (a := fun z => Bool.rec ((doQ base dst op kont cx).f call n e g h) ((nextQ base dst kont cx).f call n e g (.tup []) h) z) with h1 | ⟨⟨vs, h1⟩, h2⟩ | ⟨b, h1, h2⟩
      · rw [h1] at hr; cases hr
      · rw [h2] at hr; rw [wanted_tup h1]; exact skipQ_spec hb hR hr
      · rw [h2] at hr; rw [wanted_bool h1]
        cases b with
        | false => exact doQ_spec hb hR ho hr
        | true => exact skipQ_spec hb hR hr
    | true =>
      have hr : AV.cG ((rdD base cx (.t p)).f e g) .fail ((nextQ base dst kont cx).f call n e g (.tup []) h) (fun z => Bool.rec ((nextQ base dst kont cx).f call n e g (.tup []) h) ((doQ base dst op kont cx).f call n e g h) z) = .ok x g' h' := hr
      rw [hv] at hr
      rcases cG_cases (v := (CA.t p).ev tm) (z := RQ.fail) (t := (nextQ base dst kont cx).f call n e g (.tup []) h) (a := fun z => Bool.rec ((nextQ base dst kont cx).f call n e g (.tup []) h) ((doQ base dst op kont cx).f call n e g h) z) with h1 | ⟨⟨vs, h1⟩, h2⟩ | ⟨b, h1, h2⟩
      · rw [h1] at hr; cases hr
      · rw [h2] at hr; rw [wanted_tup h1]; exact skipQ_spec hb hR hr
      · rw [h2] at hr; rw [wanted_bool h1]
        cases b with
        | true => exact doQ_spec hb hR ho hr
        | false => exact skipQ_spec hb hR hr
/-- an alias of what is in the list, or of a constant -/
theorem ali_spec (hb : BaseOk base) (hR : Rel base cx e g tm) {v : CA} {lc : Lc} (hl : lcOf cx v = .is lc) (d : Pos) :
    Rel base (cx.ali d lc) e ((wrD base d).f (v.ev tm) g) (T.set (v.ev tm) d tm) := by
  refine hR.ali hb d ?_
  cases v with
  | c u => cases hl; rfl
  | t p =>
    have hl : Fd.rec (motive := fun _ => LO) .no (fun lc => .is lc) (T.fd p cx.m) = .is lc := hl
    cases hq : T.fd p cx.m with
    | no => rw [hq] at hl; cases hl
    | is lc' =>
      rw [hq] at hl; cases hl
      rw [CA.ev_t]
      cases lc with
      | env l => exact hR.env p l (by rw [fd_get, hq]; rfl)
      | con u => exact hR.con p u (by rw [fd_get, hq]; rfl)
theorem mvQ_spec (hb : BaseOk base) (hR : Rel base cx e g tm) {d : Pos} {v : CA} (ho : okAll base cx (CO.mv v).reads = true) {kont : Cx → BR} (hr : (mvQ base d v kont cx).f call n e g h = .ok x g' h') :
    StepTo base call n kont tm h x g' h' (fun k => outK call (some d) tm h k ((CO.mv v).run tm h)) := by
  unfold mvQ at hr
  cases hl : lcOf cx v with
  | no => rw [hl] at hr; exact doQ_spec hb hR ho hr
  | is lc =>
    rw [hl] at hr
    have hev := rdD_spec hR (okAll_mem ho v (by simp [CO.reads]))
    have hal := ali_spec hb hR hl d
    refine ⟨T.set (v.ev tm) d tm, h, cx.ali d lc, e, _, fun k => rfl, hal, ?_⟩
    cases hd : T.fd d base with
    | no => rw [wrD_no hd]; simp only [hd] at hr; exact hr
    | is i => rw [wrD_is hd]; simp only [hd] at hr; rw [← hev]; exact hr
theorem mvOf_is {op : CO} {v : CA} (h : mvOf op = .is v) : op = .mv v := by
  unfold mvOf at h
  split at h
  · cases h; rfl
  · cases h
theorem stepQ1_spec (hb : BaseOk base) (hR : Rel base cx e g tm) {o : COper} {kont : Cx → BR} (hr : (stepQ1 base o kont cx).f call n e g h = .ok x g' h') :
    StepTo base call n kont tm h x g' h' (fun k => stepO call o k tm h) := by
  obtain ⟨dst, op, gd⟩ := o
  unfold stepQ1 at hr
  simp only at hr
  cases ho : okAll base cx op.reads with
  | false => rw [ho] at hr; cases hr
  | true =>
    rw [ho] at hr
    simp only at hr
    cases gd with
    | some pw =>
      obtain ⟨p, w⟩ := pw
      exact guardQ_spec hb hR ho hr
    | none =>
      cases dst with
      | none => exact doQ_spec hb hR ho hr
      | some d =>
        simp only at hr
        cases hm : mvOf op with
        | no => rw [hm] at hr; exact doQ_spec hb hR ho hr
        | is v =>
          rw [hm] at hr
          have := mvOf_is hm
          subst this
          exact mvQ_spec hb hR ho hr
theorem opsQ_spec (hb : BaseOk base) {kont : Cx → BR} (l : List COper) : ∀ {cx : Cx} {e : E} {g : RG} {tm : Tm} {h : H}, Rel base cx e g tm → (opsQ base l kont cx).f call n e g h = .ok x g' h' →
    ∃ tm1 h1 cx1 e1 g1, runOps call l tm h = .ok .norm tm1 h1 ∧ Rel base cx1 e1 g1 tm1 ∧ (kont cx1).f call n e1 g1 h1 = .ok x g' h' := by
  induction l with
  | nil => intro cx e g tm h hR hr; exact ⟨tm, h, cx, e, g, rfl, hR, hr⟩
  | cons o l ih =>
    intro cx e g tm h hR hr
    obtain ⟨tm1, h1, cx1, e1, g1, k1, k2, k3⟩ := stepQ1_spec hb hR (kont := opsQ base l kont) hr
    obtain ⟨tm2, h2, cx2, e2, g2, q1, q2, q3⟩ := ih k2 k3
    exact ⟨tm2, h2, cx2, e2, g2, (k1 _).trans q1, q2, q3⟩
end Go.Ev


namespace Go.Ev

/-! # Regions that draw, over registers -/

structure DB where
  f : CallF → Nat → Pos → E → RG → List H → H → T Blk → RQ
structure DN where
  f : CallF → Nat → Pos → E → RG → AV → List H → H → T Blk → RQ
noncomputable def DB.bad : DB := ⟨fun _ _ _ _ _ _ _ _ => .fail⟩
section
variable (base : T Nat)
noncomputable def nextD (dst : Option Pos) (kont : Cx → DB) (cx : Cx) : DN :=
  Option.rec (motive := fun _ => DN) ⟨fun call n b e g _ hist cur ab => (kont cx).f call n b e g hist cur ab⟩
    (fun d => Fd.rec (motive := fun _ => DN) ⟨fun call n b e g v hist cur ab => (kont (cx.put d)).f call n b (.c v e) g hist cur ab⟩
      (fun i => ⟨fun call n b e g v hist cur ab => (kont (cx.put d)).f call n b (.c v e) ((rgS i).f v g) hist cur ab⟩) (T.fd d base)) dst
noncomputable def goDQ (dst : Option Pos) (op : CO) (kont : Cx → DB) (cx : Cx) (kd : DK) : DB :=
  DK.rec (motive := fun _ => DB)
    ⟨fun call n b e g hist cur ab => (qop RQ.fail base cx op).f e g cur (fun v _ => (nextD base dst kont cx).f call n b e g v hist cur ab) (fun _ _ => .fail)⟩
    (fun s c as => Nat.rec (motive := fun _ => DB)
      ⟨fun call n b e g hist cur ab => List.rec (motive := fun _ => RQ) .fail (fun h _ _ => (qop RQ.fail base cx op).f e g (putAsF b ab s as h) (fun v _ => (nextD base dst kont cx).f call n b e g v hist cur ab) (fun _ _ => .fail)) hist⟩
      (fun c' _ => ⟨fun call n b e g hist cur ab => List.rec (motive := fun _ => RQ) .fail (fun h hs _ => (qop RQ.fail base cx op).f e g (putAsF b ab s as h)
        (fun v _ => Bool.rec .fail ((nextD base dst kont cx).f call n b e g v hist cur ab) (ldSame op ((miniQ base cx op.reads).f e g) b ab as v (Nat.succ c') (Nat.pred s) hs)) (fun _ _ => .fail)) hist⟩) (Nat.pred c))
    (fun q => ⟨fun call n b e g hist cur ab => (qop RQ.fail base cx op).f e g (H.emp (addPos b q)) (fun v h' => Fd.rec (motive := fun _ => RQ) .fail (fun bk => Bool.rec .fail
      ((nextD base dst kont cx).f call n b e g v hist (cur.put (addPos b q) bk) (T.set bk (addPos b q) ab)) (noneAllF (addPos b q) hist)) (T.fd (addPos b q) h'.m)) (fun _ _ => .fail)⟩)
    ⟨fun call n b e g hist cur ab => (qop RQ.fail base cx op).f e g cur (fun v h' => (nextD base dst kont cx).f call n b e g v (h' :: hist) h' ab)
      (fun f args => RC.rec (motive := fun _ => RQ) (fun v h' => (nextD base dst kont cx).f call n b e g v (h' :: hist) h' ab) .fail (call f args cur))⟩ kd
/-- an operation that is not wanted -/
noncomputable def skipDQ (dst : Option Pos) (kont : Cx → DB) (cx : Cx) (kd : DK) : DB :=
  DK.rec (motive := fun _ => DB)
    ⟨fun call n b e g hist cur ab => (nextD base dst kont cx).f call n b e g (.tup []) hist cur ab⟩
    (fun _ _ _ => ⟨fun call n b e g hist cur ab => (nextD base dst kont cx).f call n b e g (.tup []) hist cur ab⟩)
    (fun _ => ⟨fun call n b e g hist cur ab => (nextD base dst kont cx).f call n b e g (.tup []) hist cur ab⟩)
    ⟨fun call n b e g hist cur ab => (nextD base dst kont cx).f call n b e g (.tup []) (cur :: hist) cur ab⟩ kd
noncomputable def guardDQ (dst : Option Pos) (op : CO) (p : Pos) (w : Bool) (kont : Cx → DB) (cx : Cx) (kd : DK) : DB :=
  Bool.rec (motive := fun _ => DB) .bad (Bool.rec (motive := fun _ => DB)
    ⟨fun call n b e g hist cur ab => AV.cG ((rdD base cx (.t p)).f e g) .fail ((skipDQ base dst kont cx kd).f call n b e g hist cur ab) (fun z => Bool.rec ((goDQ base dst op kont cx kd).f call n b e g hist cur ab) ((skipDQ base dst kont cx kd).f call n b e g hist cur ab) z)⟩
    ⟨fun call n b e g hist cur ab => AV.cG ((rdD base cx (.t p)).f e g) .fail ((skipDQ base dst kont cx kd).f call n b e g hist cur ab) (fun z => Bool.rec ((skipDQ base dst kont cx kd).f call n b e g hist cur ab) ((goDQ base dst op kont cx kd).f call n b e g hist cur ab) z)⟩ w) (isOk base cx (.t p))
noncomputable def mvDQ (d : Pos) (x : CA) (kont : Cx → DB) (cx : Cx) : DB :=
  LO.rec (motive := fun _ => DB) (goDQ base (some d) (.mv x) kont cx .pure) (fun lc => Fd.rec (motive := fun _ => DB) (kont (cx.ali d lc))
    (fun i => ⟨fun call n b e g hist cur ab => (kont (cx.ali d lc)).f call n b e ((rgS i).f ((rdD base cx x).f e g) g) hist cur ab⟩) (T.fd d base)) (lcOf cx x)
noncomputable def plainDQ (dst : Option Pos) (op : CO) (kont : Cx → DB) (cx : Cx) (kd : DK) : DB :=
  Option.rec (motive := fun _ => DB) (goDQ base none op kont cx kd) (fun d => MO.rec (motive := fun _ => DB) (goDQ base (some d) op kont cx kd)
    (fun x => DK.rec (motive := fun _ => DB) (mvDQ base d x kont cx) (fun s c as => goDQ base (some d) op kont cx (.load s c as)) (fun q => goDQ base (some d) op kont cx (.alloc q)) (goDQ base (some d) op kont cx .write) kd) (mvOf op)) dst
noncomputable def stepDQ (d : DOp) (kont : Cx → DB) (cx : Cx) : DB :=
  DOp.rec (motive := fun _ => DB) (fun _ c kd => COper.rec (motive := fun _ => DB) (fun dst op guard => Bool.rec (motive := fun _ => DB) .bad
    (Option.rec (motive := fun _ => DB) (plainDQ base dst op kont cx kd) (fun g => Prod.rec (motive := fun _ => DB) (fun p w => guardDQ base dst op p w kont cx kd) g) guard) (okAll base cx op.reads)) c) d
noncomputable def dopsQ (l : List DOp) (kont : Cx → DB) : Cx → DB := List.rec (motive := fun _ => Cx → DB) kont (fun d _ ih cx => stepDQ base d ih cx) l
noncomputable def endDQ (kont : Cx → BR) (cx : Cx) : DB := ⟨fun call n _ e g _ cur _ => (kont cx).f call n e g cur⟩
end

variable {base : T Nat} {cx : Cx} {e : E} {g g' : RG} {tm : Tm} {h h' : H} {x : Ex} {call : CallF} {n : Nat} {b : Pos} {hist : List H} {cur : H} {ab : T Blk}
theorem nextD_spec (hb : BaseOk base) (hR : Rel base cx e g tm) (dst : Option Pos) (v : AV) (kont : Cx → DB) :
    ∃ cx1 e1 g1, Rel base cx1 e1 g1 (setDst dst v tm) ∧ ∀ call n b hist cur ab, (nextD base dst kont cx).f call n b e g v hist cur ab = (kont cx1).f call n b e1 g1 hist cur ab := by
  cases dst with
  | none => exact ⟨cx, e, g, hR, fun _ _ _ _ _ _ => rfl⟩
  | some d =>
    refine ⟨cx.put d, .c v e, (wrD base d).f v g, hR.put hb d v, fun call n b hist cur ab => ?_⟩
    unfold nextD
    cases hd : T.fd d base with
    | no => rw [wrD_no hd]; simp only [hd]
    | is i => rw [wrD_is hd]; simp only [hd]
def StepDTo (base : T Nat) (call : CallF) (n : Nat) (b : Pos) (kont : Cx → DB) (x : Ex) (g' : RG) (h' : H) (s : Option DSt) : Prop :=
  ∃ st, s = some st ∧ ∃ cx1 e1 g1, Rel base cx1 e1 g1 st.tm ∧ (kont cx1).f call n b e1 g1 st.hist st.cur st.ab = .ok x g' h'
theorem ldSame_congr {op : CO} {tm tm' : Tm} (he : ∀ x ∈ op.reads, x.ev tm = x.ev tm') (b : Pos) (ab : T Blk) (as : List (Nat × Nat × Nat)) (v : AV) : ∀ (c k : Nat) (hs : List H), ldSame op tm b ab as v c k hs = ldSame op tm' b ab as v c k hs := by
  intro c
  induction c with
  | zero => intro k hs; cases hs <;> rfl
  | succ c ih =>
    intro k hs
    cases hs with
    | nil => rfl
    | cons h hs =>
      unfold ldSame
      rw [reads_congr he]
      cases op.run tm' (putAs b ab k h as) with
      | val v' h' => simp only; rw [ih]
      | call => rfl
      | fail => rfl
theorem goDQ_spec (hb : BaseOk base) (hR : Rel base cx e g tm) {dst : Option Pos} {op : CO} (ho : okAll base cx op.reads = true) {kont : Cx → DB} {kd : DK} (hr : (goDQ base dst op kont cx kd).f call n b e g hist cur ab = .ok x g' h') :
    StepDTo base call n b kont x g' h' (d_go call b dst op ⟨tm, hist, cur, ab⟩ kd) := by
  cases kd with
  | pure =>
    have hr : (qop RQ.fail base cx op).f e g cur (fun v _ => (nextD base dst kont cx).f call n b e g v hist cur ab) (fun _ _ => .fail) = .ok x g' h' := hr
    rw [qop_spec hR ho] at hr
    show StepDTo base call n b kont x g' h' (d_pure op ⟨tm, hist, cur, ab⟩ dst)
    unfold d_pure; simp only
    cases hq : op.run tm cur with
    | fail => rw [hq] at hr; cases hr
    | call f args => rw [hq] at hr; cases hr
    | val v h1 =>
      rw [hq] at hr
      obtain ⟨cx1, e1, g1, h2, h3⟩ := nextD_spec hb hR dst v kont
      exact ⟨_, rfl, cx1, e1, g1, h2, by rw [← h3]; exact hr⟩
  | load s c as =>
    show StepDTo base call n b kont x g' h' (d_load op b ⟨tm, hist, cur, ab⟩ dst s c as hist)
    cases hist with
    | nil => cases hc : Nat.pred c <;> (unfold goDQ at hr; simp only [hc] at hr; cases hr)
    | cons hh hs =>
      unfold d_load; simp only
      cases hc : Nat.pred c with
      | zero =>
        have hr : (qop RQ.fail base cx op).f e g (putAsF b ab s as hh) (fun v _ => (nextD base dst kont cx).f call n b e g v (hh :: hs) cur ab) (fun _ _ => .fail) = .ok x g' h' := by
          unfold goDQ at hr; simp only [hc] at hr; exact hr
        rw [qop_spec hR ho, putAsF_eq] at hr
        cases hq : op.run tm (putAs b ab s hh as) with
        | fail => rw [hq] at hr; cases hr
        | call f args => rw [hq] at hr; cases hr
        | val v h1 =>
          rw [hq] at hr
          have hz : ldSame op tm b ab as v 0 (Nat.pred s) hs = true := by unfold ldSame; rfl
          simp only [hz]
          obtain ⟨cx1, e1, g1, h2, h3⟩ := nextD_spec hb hR dst v kont
          exact ⟨_, rfl, cx1, e1, g1, h2, by rw [← h3]; exact hr⟩
      | succ c' =>
        have hr : (qop RQ.fail base cx op).f e g (putAsF b ab s as hh) (fun v _ => Bool.rec .fail ((nextD base dst kont cx).f call n b e g v (hh :: hs) cur ab) (ldSame op ((miniQ base cx op.reads).f e g) b ab as v (Nat.succ c') (Nat.pred s) hs)) (fun _ _ => .fail) = .ok x g' h' := by
          unfold goDQ at hr; simp only [hc] at hr; exact hr
        rw [qop_spec hR ho, putAsF_eq] at hr
        cases hq : op.run tm (putAs b ab s hh as) with
        | fail => rw [hq] at hr; cases hr
        | call f args => rw [hq] at hr; cases hr
        | val v h1 =>
          rw [hq] at hr
          have hr : Bool.rec (motive := fun _ => RQ) .fail ((nextD base dst kont cx).f call n b e g v (hh :: hs) cur ab) (ldSame op ((miniQ base cx op.reads).f e g) b ab as v (Nat.succ c') (Nat.pred s) hs) = .ok x g' h' := hr
          rw [ldSame_congr (miniQ_ev hR (okAll_mem ho))] at hr
          simp only
          cases hl : ldSame op tm b ab as v (Nat.succ c') (Nat.pred s) hs with
          | false => rw [hl] at hr; cases hr
          | true =>
            rw [hl] at hr
            have hl' : ldSame op tm b ab as v (c' + 1) (Nat.pred s) hs = true := hl
            simp only
            obtain ⟨cx1, e1, g1, h2, h3⟩ := nextD_spec hb hR dst v kont
            exact ⟨_, rfl, cx1, e1, g1, h2, by rw [← h3]; exact hr⟩
  | alloc q =>
    have hr : (qop RQ.fail base cx op).f e g (H.emp (addPos b q)) (fun v h' => Fd.rec (motive := fun _ => RQ) .fail (fun bk => Bool.rec .fail
      ((nextD base dst kont cx).f call n b e g v hist (cur.put (addPos b q) bk) (T.set bk (addPos b q) ab)) (noneAllF (addPos b q) hist)) (T.fd (addPos b q) h'.m)) (fun _ _ => .fail) = .ok x g' h' := hr
    rw [qop_spec hR ho] at hr
    show StepDTo base call n b kont x g' h' (d_alloc op ⟨tm, hist, cur, ab⟩ dst (addPos b q))
    unfold d_alloc; simp only
    cases hq : op.run tm (H.emp (addPos b q)) with
    | fail => rw [hq] at hr; cases hr
    | call f args => rw [hq] at hr; cases hr
    | val v h1 =>
      rw [hq] at hr
      have hr : Fd.rec (motive := fun _ => RQ) .fail (fun bk => Bool.rec .fail
        ((nextD base dst kont cx).f call n b e g v hist (cur.put (addPos b q) bk) (T.set bk (addPos b q) ab)) (noneAllF (addPos b q) hist)) (T.fd (addPos b q) h1.m) = .ok x g' h' := hr
      show StepDTo base call n b kont x g' h' (d_put ⟨tm, hist, cur, ab⟩ dst (addPos b q) v (T.fd (addPos b q) h1.m).o)
      cases hf : T.fd (addPos b q) h1.m with
      | no => rw [hf] at hr; cases hr
      | is bk =>
        rw [hf] at hr
        have hr : Bool.rec (motive := fun _ => RQ) .fail ((nextD base dst kont cx).f call n b e g v hist (cur.put (addPos b q) bk) (T.set bk (addPos b q) ab)) (noneAllF (addPos b q) hist) = .ok x g' h' := hr
        rw [noneAllF_eq] at hr
        show StepDTo base call n b kont x g' h' (d_put ⟨tm, hist, cur, ab⟩ dst (addPos b q) v (some bk))
        unfold d_put; simp only
        cases hn : noneAll (addPos b q) hist with
        | false => rw [hn] at hr; cases hr
        | true =>
          rw [hn] at hr
          obtain ⟨cx1, e1, g1, h2, h3⟩ := nextD_spec hb hR dst v kont
          exact ⟨_, rfl, cx1, e1, g1, h2, by rw [← h3]; exact hr⟩
  | write =>
    have hr : (qop RQ.fail base cx op).f e g cur (fun v h' => (nextD base dst kont cx).f call n b e g v (h' :: hist) h' ab)
      (fun f args => RC.rec (motive := fun _ => RQ) (fun v h' => (nextD base dst kont cx).f call n b e g v (h' :: hist) h' ab) .fail (call f args cur)) = .ok x g' h' := hr
    rw [qop_spec hR ho] at hr
    show StepDTo base call n b kont x g' h' (d_write call op ⟨tm, hist, cur, ab⟩ dst)
    unfold d_write; simp only
    cases hq : op.run tm cur with
    | fail => rw [hq] at hr; cases hr
    | val v h1 =>
      rw [hq] at hr
      obtain ⟨cx1, e1, g1, h2, h3⟩ := nextD_spec hb hR dst v kont
      exact ⟨_, rfl, cx1, e1, g1, h2, by rw [← h3]; exact hr⟩
    | call f args =>
      rw [hq] at hr
      have hr : RC.rec (motive := fun _ => RQ) (fun v h' => (nextD base dst kont cx).f call n b e g v (h' :: hist) h' ab) .fail (call f args cur) = .ok x g' h' := hr
      simp only
      cases hc : call f args cur with
      | fail => rw [hc] at hr; cases hr
      | ok v h1 =>
        rw [hc] at hr
        obtain ⟨cx1, e1, g1, h2, h3⟩ := nextD_spec hb hR dst v kont
        exact ⟨_, rfl, cx1, e1, g1, h2, by rw [← h3]; exact hr⟩
theorem skipDQ_spec (hb : BaseOk base) (hR : Rel base cx e g tm) {dst : Option Pos} {kont : Cx → DB} {kd : DK} (hr : (skipDQ base dst kont cx kd).f call n b e g hist cur ab = .ok x g' h') :
    StepDTo base call n b kont x g' h' (some (d_skip dst ⟨tm, hist, cur, ab⟩ kd)) := by
  obtain ⟨cx1, e1, g1, h2, h3⟩ := nextD_spec hb hR dst (.tup []) kont
  cases kd with
  | write => exact ⟨_, rfl, cx1, e1, g1, h2, by rw [← h3]; exact hr⟩
  | pure => exact ⟨_, rfl, cx1, e1, g1, h2, by rw [← h3]; exact hr⟩
  | load s c as => exact ⟨_, rfl, cx1, e1, g1, h2, by rw [← h3]; exact hr⟩
  | alloc q => exact ⟨_, rfl, cx1, e1, g1, h2, by rw [← h3]; exact hr⟩
theorem guardDQ_spec (hb : BaseOk base) (hR : Rel base cx e g tm) {dst : Option Pos} {op : CO} {p : Pos} {w : Bool} (ho : okAll base cx op.reads = true) {kont : Cx → DB} {kd : DK} (hr : (guardDQ base dst op p w kont cx kd).f call n b e g hist cur ab = .ok x g' h') :
    StepDTo base call n b kont x g' h' (d_want call b dst op kd ⟨tm, hist, cur, ab⟩ (wantedA tm (some (p, w)))) := by
  unfold guardDQ at hr
  cases hp : isOk base cx (.t p) with
  | false => rw [hp] at hr; cases hr
  | true =>
    rw [hp] at hr
    have hv := rdD_spec hR hp
    cases w with
    | false =>
      have hr : AV.cG ((rdD base cx (.t p)).f e g) .fail ((skipDQ base dst kont cx kd).f call n b e g hist cur ab) (fun z => Bool.rec ((goDQ base dst op kont cx kd).f call n b e g hist cur ab) ((skipDQ base dst kont cx kd).f call n b e g hist cur ab) z) = .ok x g' h' := hr
      rw [hv] at hr
      rcases cG_cases (v := (CA.t p).ev tm) (z := RQ.fail) (t := (skipDQ base dst kont cx kd).f call n b e g hist cur ab) (a := fun z => Bool.rec ((goDQ base dst op kont cx kd).f call n b e g hist cur ab) ((skipDQ base dst kont cx kd).f call n b e g hist cur ab) z) with h1 | ⟨⟨vs, h1⟩, h2⟩ | ⟨b, h1, h2⟩
      · rw [h1] at hr; cases hr
      · rw [h2] at hr; rw [wanted_tup h1]; exact skipDQ_spec hb hR hr
      · rw [h2] at hr; rw [wanted_bool h1]
        cases b with
        | false => exact goDQ_spec hb hR ho hr
        | true => exact skipDQ_spec hb hR hr
    | true =>
      have hr : AV.cG ((rdD base cx (.t p)).f e g) .fail ((skipDQ base dst kont cx kd).f call n b e g hist cur ab) (fun z => Bool.rec ((skipDQ base dst kont cx kd).f call n b e g hist cur ab) ((goDQ base dst op kont cx kd).f call n b e g hist cur ab) z) = .ok x g' h' := hr
      rw [hv] at hr
      rcases cG_cases (v := (CA.t p).ev tm) (z := RQ.fail) (t := (skipDQ base dst kont cx kd).f call n b e g hist cur ab) (a := fun z => Bool.rec ((skipDQ base dst kont cx kd).f call n b e g hist cur ab) ((goDQ base dst op kont cx kd).f call n b e g hist cur ab) z) with h1 | ⟨⟨vs, h1⟩, h2⟩ | ⟨b, h1, h2⟩
      · rw [h1] at hr; cases hr
      · rw [h2] at hr; rw [wanted_tup h1]; exact skipDQ_spec hb hR hr
      · rw [h2] at hr; rw [wanted_bool h1]
        cases b with
        | true => exact goDQ_spec hb hR ho hr
        | false => exact skipDQ_spec hb hR hr
theorem mvDQ_spec (hb : BaseOk base) (hR : Rel base cx e g tm) {d : Pos} {v : CA} (ho : okAll base cx (CO.mv v).reads = true) {kont : Cx → DB} (hr : (mvDQ base d v kont cx).f call n b e g hist cur ab = .ok x g' h') :
    StepDTo base call n b kont x g' h' (d_go call b (some d) (.mv v) ⟨tm, hist, cur, ab⟩ .pure) := by
  unfold mvDQ at hr
  cases hl : lcOf cx v with
  | no => rw [hl] at hr; exact goDQ_spec hb hR ho hr
  | is lc =>
    rw [hl] at hr
    have hev := rdD_spec hR (okAll_mem ho v (by simp [CO.reads]))
    have hal := ali_spec hb hR hl d
    refine ⟨_, rfl, cx.ali d lc, e, _, hal, ?_⟩
    cases hd : T.fd d base with
    | no => rw [wrD_no hd]; simp only [hd] at hr; exact hr
    | is i => rw [wrD_is hd]; simp only [hd] at hr; rw [← hev]; exact hr
theorem plainDQ_spec (hb : BaseOk base) (hR : Rel base cx e g tm) {dst : Option Pos} {op : CO} (ho : okAll base cx op.reads = true) {kont : Cx → DB} {kd : DK} (hr : (plainDQ base dst op kont cx kd).f call n b e g hist cur ab = .ok x g' h') :
    StepDTo base call n b kont x g' h' (d_go call b dst op ⟨tm, hist, cur, ab⟩ kd) := by
  unfold plainDQ at hr
  cases dst with
  | none => exact goDQ_spec hb hR ho hr
  | some d =>
    simp only at hr
    cases hm : mvOf op with
    | no => rw [hm] at hr; exact goDQ_spec hb hR ho hr
    | is v =>
      rw [hm] at hr
      have := mvOf_is hm
      subst this
      cases kd with
      | pure => exact mvDQ_spec hb hR ho hr
      | load s c as => exact goDQ_spec hb hR ho hr
      | alloc q => exact goDQ_spec hb hR ho hr
      | write => exact goDQ_spec hb hR ho hr
theorem stepDQ_spec (hb : BaseOk base) (hR : Rel base cx e g tm) {d : DOp} {kont : Cx → DB} (hr : (stepDQ base d kont cx).f call n b e g hist cur ab = .ok x g' h') :
    StepDTo base call n b kont x g' h' (stepD call b d ⟨tm, hist, cur, ab⟩) := by
  obtain ⟨ix, ⟨dst, op, gd⟩, kd⟩ := d
  unfold stepDQ at hr
  simp only at hr
  cases ho : okAll base cx op.reads with
  | false => rw [ho] at hr; cases hr
  | true =>
    rw [ho] at hr
    simp only at hr
    cases gd with
    | some pw =>
      obtain ⟨p, w⟩ := pw
      exact guardDQ_spec hb hR ho hr
    | none => exact plainDQ_spec hb hR ho hr
theorem dopsQ_spec (hb : BaseOk base) {kont : Cx → DB} (l : List DOp) : ∀ {cx : Cx} {e : E} {g : RG} {st : DSt}, Rel base cx e g st.tm → (dopsQ base l kont cx).f call n b e g st.hist st.cur st.ab = .ok x g' h' →
    StepDTo base call n b kont x g' h' (runD call b l st) := by
  induction l with
  | nil => intro cx e g st hR hr; exact ⟨st, rfl, cx, e, g, hR, hr⟩
  | cons d l ih =>
    intro cx e g st hR hr
    obtain ⟨tm, hist, cur, ab⟩ := st
    obtain ⟨st1, k1, cx1, e1, g1, k2, k3⟩ := stepDQ_spec hb hR (kont := dopsQ base l kont) hr
    show StepDTo base call n b kont x g' h' (thenD (runD call b l) (stepD call b d ⟨tm, hist, cur, ab⟩))
    rw [k1]
    exact ih k2 k3
end Go.Ev


namespace Go.Ev

/-! # Code and calls, over registers -/

noncomputable def seqQ (k : K) (call : CallF) (n : Nat) (r : RQ) : RQ :=
  K.rec (motive := fun _ => RQ) r (fun f => RQ.rec (motive := fun _ => RQ) (fun x g h => Ex.rec (motive := fun _ => RQ) ((f cx0).f call n .nil g h) (fun id => .ok (.exit id) g h) (.ok .ret g h) x) .fail r) k
noncomputable def blockQ (id : Nat) (r : RQ) : RQ :=
  RQ.rec (motive := fun _ => RQ) (fun x g h => Ex.rec (motive := fun _ => RQ) (.ok .norm g h) (fun j => Bool.rec (.ok (.exit j) g h) (.ok .norm g h) (Nat.beq j id)) (.ok .ret g h) x) .fail r
noncomputable def loopQ (body : RG → H → RQ) (n : Nat) : RG → H → RQ :=
  Nat.rec (motive := fun _ => RG → H → RQ) (fun _ _ => .fail) (fun _ ih g h => RQ.rec (motive := fun _ => RQ) (fun x g h => Ex.rec (motive := fun _ => RQ) (ih g h) (fun id => .ok (.exit id) g h) (.ok .ret g h) x) .fail (body g h)) n
noncomputable def isSkip (c : CC) : Bool := CC.rec (motive := fun _ => Bool) false true (fun _ => false) (fun _ _ _ _ => false) (fun _ _ _ _ _ => false) (fun _ _ _ => false) (fun _ _ => false) (fun _ => false) false (fun _ _ _ _ _ _ => false) (fun _ _ => false) c
/-- a branch -/
noncomputable def brQ (c : CC) (ih : K → Cx → BR) (k : K) (cx : Cx) : BR :=
  Bool.rec (motive := fun _ => BR) ⟨fun call n e g h => seqQ k call n ((ih .done cx).f call n e g h)⟩ (kE k cx) (isSkip c)
noncomputable def qC (base : T Nat) (c : CC) : K → Cx → BR :=
  CC.rec (motive := fun _ => K → Cx → BR) (fun _ _ => .bad) (fun k cx => kE k cx) (fun l k cx => opsQ base l (kE k) cx) (fun _ _ iha ihb k cx => iha (.more (ihb k)) cx)
    (fun c a b iha ihb k cx => Bool.rec (motive := fun _ => BR) .bad ⟨fun call n e g h => AV.cB ((rdD base cx c).f e g) .fail (fun z => Bool.rec ((brQ b ihb k cx).f call n e g h) ((brQ a iha k cx).f call n e g h) z)⟩ (isOk base cx c))
    (fun id _ ihb k cx => ⟨fun call n e g h => seqQ k call n (blockQ id ((ihb .done cx).f call n e g h))⟩)
    (fun _ ihb k _ => ⟨fun call n _ g h => seqQ k call n (loopQ (fun g h => (ihb .done cx0).f call n .nil g h) n g h)⟩)
    (fun id _ _ => ⟨fun _ _ _ g h => .ok (.exit id) g h⟩) (fun _ _ => ⟨fun _ _ _ g h => .ok .ret g h⟩) (fun _ _ _ _ _ _ _ _ => .bad)
    (fun nA l k cx => ⟨fun call n e g h => (dopsQ base l (endDQ (kE k)) cx).f call n h.next e g [⟨addPos h.next nA, h.m⟩] ⟨addPos h.next nA, h.m⟩ .nil⟩) c

/-! ## More fuel does no harm -/

theorem runCC_mono {call : CallF} : ∀ {m : Nat} {c : CC} {tm : Tm} {h : H} {x : Ex} {tm' : Tm} {h' : H}, runCC call m c tm h = .ok x tm' h' → ∀ {m' : Nat}, m ≤ m' → runCC call m' c tm h = .ok x tm' h' := by
  intro m
  induction m with
  | zero => intro c tm h x tm' h' hr; cases hr
  | succ m ih =>
    intro c tm h x tm' h' hr m' hm
    obtain _ | m' := m'
    · omega
    have hm : m ≤ m' := by omega
    rw [runCC_succ] at hr ⊢
    cases c with
    | seq a b =>
      have hr : seqK (runCC call m) b (runCC call m a tm h) = .ok x tm' h' := hr
      show seqK (runCC call m') b (runCC call m' a tm h) = .ok x tm' h'
      rcases seqK_ok hr with ⟨tm1, h1, ha, hb⟩ | ⟨ha, hne⟩
      · rw [ih ha hm]; exact ih hb hm
      · rw [ih ha hm]; cases x <;> first | exact absurd rfl hne | rfl
    | cond c a b =>
      have hr : condK (runCC call m) a b tm h (c.ev tm) = .ok x tm' h' := hr
      show condK (runCC call m') a b tm h (c.ev tm) = .ok x tm' h'
      generalize c.ev tm = v at hr ⊢
      cases v <;> first | (cases hr; done) | skip
      rename_i z
      cases z
      · exact ih hr hm
      · exact ih hr hm
    | block id b =>
      have hr : blockK id (runCC call m b tm h) = .ok x tm' h' := hr
      show blockK id (runCC call m' b tm h) = .ok x tm' h'
      cases hx : runCC call m b tm h with
      | fail => rw [hx] at hr; cases hr
      | ok e1 tm1 h1 => rw [ih hx hm, ← hx]; exact hr
    | loop b =>
      have hr : seqK (runCC call m) (.loop b) (runCC call m b tm h) = .ok x tm' h' := hr
      show seqK (runCC call m') (.loop b) (runCC call m' b tm h) = .ok x tm' h'
      rcases seqK_ok hr with ⟨tm1, h1, ha, hb⟩ | ⟨ha, hne⟩
      · rw [ih ha hm]; exact ih hb hm
      · rw [ih ha hm]; cases x <;> first | exact absurd rfl hne | rfl
    | _ => exact hr

/-! ## It is what the evaluator does -/

variable {base : T Nat}
/-- code has been run, and what follows too; or it ended otherwise -/
def Ran (base : T Nat) (call : CallF) (n : Nat) (k : K) (c : CC) (tm : Tm) (h : H) (x : Ex) (g' : RG) (h' : H) : Prop :=
  (∃ m tm1 h1 cx1 e1 g1, runCC call m c tm h = .ok .norm tm1 h1 ∧ Rel base cx1 e1 g1 tm1 ∧ (kE k cx1).f call n e1 g1 h1 = .ok x g' h') ∨
  (x ≠ .norm ∧ ∃ m tm1, runCC call m c tm h = .ok x tm1 h' ∧ RelB base g' tm1)
/-- the end of code that nothing follows -/
theorem Ran.done {call : CallF} {n : Nat} {c : CC} {tm : Tm} {h : H} {x : Ex} {g' : RG} {h' : H} (hr : Ran base call n .done c tm h x g' h') : ∃ m tm1, runCC call m c tm h = .ok x tm1 h' ∧ RelB base g' tm1 := by
  rcases hr with ⟨m, tm1, h1, cx1, e1, g1, k1, k2, k3⟩ | ⟨_, hr⟩
  · have k3 : RQ.ok .norm g1 h1 = .ok x g' h' := k3
    cases k3
    exact ⟨m, tm1, k1, k2.reg⟩
  · exact hr
theorem seqQ_ok {k : K} {call : CallF} {n : Nat} {r : RQ} {x : Ex} {g' : RG} {h' : H} (hr : seqQ k call n r = .ok x g' h') :
    (∃ g1 h1, r = .ok .norm g1 h1 ∧ (kE k cx0).f call n .nil g1 h1 = .ok x g' h') ∨ (x ≠ .norm ∧ r = .ok x g' h') := by
  cases k with
  | done =>
    have hr : r = .ok x g' h' := hr
    cases x with
    | norm => exact .inl ⟨g', h', hr, rfl⟩
    | exit id => exact .inr ⟨(fun h => by cases h), hr⟩
    | ret => exact .inr ⟨(fun h => by cases h), hr⟩
  | more f =>
    cases r with
    | fail => cases hr
    | ok x1 g1 h1 =>
      cases x1 with
      | norm => exact .inl ⟨g1, h1, rfl, hr⟩
      | exit id => cases hr; exact .inr ⟨(fun h => by cases h), rfl⟩
      | ret => cases hr; exact .inr ⟨(fun h => by cases h), rfl⟩
/-- from a piece that was run by itself -/
theorem Ran.of_seq {k : K} {call : CallF} {n : Nat} {c : CC} {tm : Tm} {h : H} {r : RQ} {x : Ex} {g' : RG} {h' : H} (hr : seqQ k call n r = .ok x g' h')
    (hc : ∀ x1 g1 h1, r = .ok x1 g1 h1 → ∃ m tm1, runCC call m c tm h = .ok x1 tm1 h1 ∧ RelB base g1 tm1) : Ran base call n k c tm h x g' h' := by
  rcases seqQ_ok hr with ⟨g1, h1, q1, q2⟩ | ⟨hne, q1⟩
  · obtain ⟨m, tm1, k1, k2⟩ := hc _ _ _ q1
    exact .inl ⟨m, tm1, h1, cx0, .nil, g1, k1, Rel.zero k2, q2⟩
  · exact .inr ⟨hne, hc _ _ _ q1⟩
theorem cB_cases {ρ : Type} {v : AV} {z : ρ} {a : Bool → ρ} : (v.cB z a = z) ∨ ∃ b, v = .bool b ∧ v.cB z a = a b := by
  cases v <;> first | exact .inl rfl | exact .inr ⟨_, rfl, rfl⟩
theorem isSkip_eq {c : CC} (h : isSkip c = true) : c = .skip := by cases c <;> first | rfl | cases h

def QcOk (base : T Nat) (c : CC) : Prop :=
  ∀ (k : K) (cx : Cx) (e : E) (g : RG) (tm : Tm) (h : H) (call : CallF) (n : Nat) (x : Ex) (g' : RG) (h' : H), Rel base cx e g tm → (qC base c k cx).f call n e g h = .ok x g' h' → Ran base call n k c tm h x g' h'
theorem brQ_ok {c : CC} (ih : QcOk base c) {k : K} {cx : Cx} {e : E} {g : RG} {tm : Tm} {h : H} {call : CallF} {n : Nat} {x : Ex} {g' : RG} {h' : H} (hR : Rel base cx e g tm)
    (hr : (brQ c (qC base c) k cx).f call n e g h = .ok x g' h') : Ran base call n k c tm h x g' h' := by
  unfold brQ at hr
  cases hs : isSkip c with
  | false =>
    rw [hs] at hr
    exact Ran.of_seq hr fun x1 g1 h1 hq => (ih .done cx e g tm h call n x1 g1 h1 hR hq).done
  | true =>
    rw [hs] at hr
    have := isSkip_eq hs
    subst this
    exact .inl ⟨1, tm, h, cx, e, g, rfl, hR, hr⟩
theorem loopQ_ok {b : CC} (ih : QcOk base b) {call : CallF} {n : Nat} : ∀ (m : Nat) {g : RG} {tm : Tm} {h : H} {x : Ex} {g' : RG} {h' : H}, RelB base g tm → loopQ (fun g h => (qC base b .done cx0).f call n .nil g h) m g h = .ok x g' h' →
    ∃ m1 tm1, runCC call m1 (.loop b) tm h = .ok x tm1 h' ∧ RelB base g' tm1 := by
  intro m
  induction m with
  | zero => intro g tm h x g' h' _ hr; cases hr
  | succ m ihm =>
    intro g tm h x g' h' hR hr
    have hr : RQ.rec (motive := fun _ => RQ) (fun x g h => Ex.rec (motive := fun _ => RQ) (loopQ (fun g h => (qC base b .done cx0).f call n .nil g h) m g h) (fun id => .ok (.exit id) g h) (.ok .ret g h) x) .fail ((qC base b .done cx0).f call n .nil g h) = .ok x g' h' := hr
    cases hq : (qC base b .done cx0).f call n .nil g h with
    | fail => rw [hq] at hr; cases hr
    | ok x1 g1 h1 =>
      rw [hq] at hr
      obtain ⟨m1, tm1, k1, k2⟩ := (ih .done cx0 .nil g tm h call n x1 g1 h1 (Rel.zero hR) hq).done
      cases x1 with
      | norm =>
        obtain ⟨m2, tm2, k3, k4⟩ := ihm k2 hr
        refine ⟨max m1 m2 + 1, tm2, ?_, k4⟩
        rw [runCC_succ]
        show seqK (runCC call (max m1 m2)) (.loop b) (runCC call (max m1 m2) b tm h) = _
        rw [runCC_mono k1 (Nat.le_max_left _ _)]
        exact runCC_mono k3 (Nat.le_max_right _ _)
      | exit id =>
        cases hr
        refine ⟨m1 + 1, tm1, ?_, k2⟩
        rw [runCC_succ]
        show seqK (runCC call m1) (.loop b) (runCC call m1 b tm h) = _
        rw [k1]; rfl
      | ret =>
        cases hr
        refine ⟨m1 + 1, tm1, ?_, k2⟩
        rw [runCC_succ]
        show seqK (runCC call m1) (.loop b) (runCC call m1 b tm h) = _
        rw [k1]; rfl
theorem qC_ok (hb : BaseOk base) (c : CC) : QcOk base c := by
  induction c with
  | bad => intro k cx e g tm h call n x g' h' hR hr; cases hr
  | skip => intro k cx e g tm h call n x g' h' hR hr; exact .inl ⟨1, tm, h, cx, e, g, rfl, hR, hr⟩
  | ops l =>
    intro k cx e g tm h call n x g' h' hR hr
    obtain ⟨tm1, h1, cx1, e1, g1, k1, k2, k3⟩ := opsQ_spec hb (kont := kE k) l hR hr
    exact .inl ⟨1, tm1, h1, cx1, e1, g1, k1, k2, k3⟩
  | seq a b iha ihb =>
    intro k cx e g tm h call n x g' h' hR hr
    rcases iha (.more (qC base b k)) cx e g tm h call n x g' h' hR hr with ⟨m1, tm1, h1, cx1, e1, g1, k1, k2, k3⟩ | ⟨hne, m1, tm1, k1, k2⟩
    · rcases ihb k cx1 e1 g1 tm1 h1 call n x g' h' k2 k3 with ⟨m2, tm2, h2, cx2, e2, g2, q1, q2, q3⟩ | ⟨hne, m2, tm2, q1, q2⟩
      · refine .inl ⟨max m1 m2 + 1, tm2, h2, cx2, e2, g2, ?_, q2, q3⟩
        rw [runCC_succ]
        show seqK (runCC call (max m1 m2)) b (runCC call (max m1 m2) a tm h) = _
        rw [runCC_mono k1 (Nat.le_max_left _ _)]
        exact runCC_mono q1 (Nat.le_max_right _ _)
      · refine .inr ⟨hne, max m1 m2 + 1, tm2, ?_, q2⟩
        rw [runCC_succ]
        show seqK (runCC call (max m1 m2)) b (runCC call (max m1 m2) a tm h) = _
        rw [runCC_mono k1 (Nat.le_max_left _ _)]
        exact runCC_mono q1 (Nat.le_max_right _ _)
    · refine .inr ⟨hne, m1 + 1, tm1, ?_, k2⟩
      rw [runCC_succ]
      show seqK (runCC call m1) b (runCC call m1 a tm h) = _
      rw [k1]
      cases x <;> first | exact absurd rfl hne | rfl
  | cond c a b iha ihb =>
    intro k cx e g tm h call n x g' h' hR hr
    have hr : (Bool.rec (motive := fun _ => BR) .bad ⟨fun call n e g h => AV.cB (ρ := RQ) ((rdD base cx c).f e g) .fail (fun z => Bool.rec ((brQ b (qC base b) k cx).f call n e g h) ((brQ a (qC base a) k cx).f call n e g h) z)⟩ (isOk base cx c)).f call n e g h = .ok x g' h' := hr
    cases hc : isOk base cx c with
    | false => rw [hc] at hr; cases hr
    | true =>
      rw [hc] at hr
      have hv := rdD_spec hR hc
      have hr : AV.cB (ρ := RQ) ((rdD base cx c).f e g) .fail (fun z => Bool.rec ((brQ b (qC base b) k cx).f call n e g h) ((brQ a (qC base a) k cx).f call n e g h) z) = .ok x g' h' := hr
      rw [hv] at hr
      have up : ∀ d : CC, (∀ m, runCC call (m + 1) (.cond c a b) tm h = runCC call m d tm h) → Ran base call n k d tm h x g' h' → Ran base call n k (.cond c a b) tm h x g' h' := by
        intro d hd hran
        rcases hran with ⟨m1, tm1, h1, cx1, e1, g1, k1, k2, k3⟩ | ⟨hne, m1, tm1, k1, k2⟩
        · exact .inl ⟨m1 + 1, tm1, h1, cx1, e1, g1, (hd m1).trans k1, k2, k3⟩
        · exact .inr ⟨hne, m1 + 1, tm1, (hd m1).trans k1, k2⟩
      rcases cB_cases (v := c.ev tm) (z := RQ.fail) (a := fun z => Bool.rec ((brQ b (qC base b) k cx).f call n e g h) ((brQ a (qC base a) k cx).f call n e g h) z) with h1 | ⟨z, h1, h2⟩
      · rw [h1] at hr; cases hr
      · rw [h2] at hr
        cases z with
        | false => exact up b (fun m => by rw [runCC_succ]; show condK (runCC call m) a b tm h (c.ev tm) = _; rw [h1]; rfl) (brQ_ok ihb hR hr)
        | true => exact up a (fun m => by rw [runCC_succ]; show condK (runCC call m) a b tm h (c.ev tm) = _; rw [h1]; rfl) (brQ_ok iha hR hr)
  | block id b ihb =>
    intro k cx e g tm h call n x g' h' hR hr
    refine Ran.of_seq hr fun x1 g1 h1 hq => ?_
    have hq : blockQ id ((qC base b .done cx).f call n e g h) = .ok x1 g1 h1 := hq
    cases hb : (qC base b .done cx).f call n e g h with
    | fail => rw [hb] at hq; cases hq
    | ok x2 g2 h2 =>
      rw [hb] at hq
      obtain ⟨m, tm1, k1, k2⟩ := (ihb .done cx e g tm h call n x2 g2 h2 hR hb).done
      refine ⟨m + 1, tm1, ?_, ?_⟩
      · rw [runCC_succ]
        show blockK id (runCC call m b tm h) = _
        rw [k1]
        cases x2 with
        | norm => cases hq; rfl
        | ret => cases hq; rfl
        | exit j =>
          have hq : Bool.rec (motive := fun _ => RQ) (.ok (.exit j) g2 h2) (.ok .norm g2 h2) (Nat.beq j id) = .ok x1 g1 h1 := hq
          show Bool.rec (motive := fun _ => R) (.ok (.exit j) tm1 h2) (.ok .norm tm1 h2) (Nat.beq j id) = _
          cases hj : Nat.beq j id <;> (rw [hj] at hq; cases hq; rfl)
      · cases x2 with
        | norm => cases hq; exact k2
        | ret => cases hq; exact k2
        | exit j =>
          have hq : Bool.rec (motive := fun _ => RQ) (.ok (.exit j) g2 h2) (.ok .norm g2 h2) (Nat.beq j id) = .ok x1 g1 h1 := hq
          cases hj : Nat.beq j id <;> (rw [hj] at hq; cases hq; exact k2)
  | loop b ihb =>
    intro k cx e g tm h call n x g' h' hR hr
    exact Ran.of_seq hr fun x1 g1 h1 hq => loopQ_ok ihb n hR.reg hq
  | exit id => intro k cx e g tm h call n x g' h' hR hr; cases hr; exact .inr ⟨(fun h => by cases h), 1, tm, rfl, hR.reg⟩
  | ret => intro k cx e g tm h call n x g' h' hR hr; cases hr; exact .inr ⟨(fun h => by cases h), 1, tm, rfl, hR.reg⟩
  | rangeF g ps a b _ _ => intro k cx e g tm h call n x g' h' hR hr; cases hr
  | dops nA l =>
    intro k cx e g tm h call n x g' h' hR hr
    obtain ⟨st, k1, cx1, e1, g1, k2, k3⟩ := dopsQ_spec hb (kont := endDQ (kE k)) l (st := startD nA tm h) hR hr
    refine .inl ⟨1, st.tm, st.cur, cx1, e1, g1, ?_, k2, k3⟩
    show endD (runD call h.next l (startD nA tm h)) = _
    rw [k1]; rfl
end Go.Ev


namespace Go.Ev

/-! # Calls, over registers -/

/-- how many parameters a function has, and which of its temporaries live in registers -/
structure Hint where
  np : Nat
  lv : List Pos
structure PQ where
  f : List AV → E → RG → (E → RG → RC) → RC
/-- parameters -/
noncomputable def parW (base : T Nat) (np : Nat) : Nat → PQ :=
  Nat.rec (motive := fun _ => Nat → PQ) (fun _ => ⟨fun args e g k => List.rec (motive := fun _ => RC) (k e g) (fun _ _ _ => .fail) args⟩)
    (fun _ ih i => Fd.rec (motive := fun _ => PQ) ⟨fun args e g k => List.rec (motive := fun _ => RC) .fail (fun v vs _ => (ih (Nat.succ i)).f vs (.c v e) g k) args⟩
      (fun r => ⟨fun args e g k => List.rec (motive := fun _ => RC) .fail (fun v vs _ => (ih (Nat.succ i)).f vs (.c v e) ((rgS r).f v g) k) args⟩) (T.fd (Pos.ofNat i) base)) np
noncomputable def cxN (np : Nat) : Nat → Cx → Cx := Nat.rec (motive := fun _ => Nat → Cx → Cx) (fun _ cx => cx) (fun _ ih i cx => ih (Nat.succ i) (cx.put (Pos.ofNat i))) np
structure RsF where
  f : RG → H → VL
noncomputable def resQ (base : T Nat) (l : List (Pos × Option Nat)) : RsF :=
  List.rec (motive := fun _ => RsF) ⟨fun _ _ => .is []⟩ (fun pr _ ih => Prod.rec (motive := fun _ => RsF) (fun p o => RdR.rec (motive := fun _ => RsF) ⟨fun _ _ => .no⟩ (fun r => Option.rec (motive := fun _ => RsF)
    ⟨fun g h => AV.cJ (r.f .nil g) .no (VL.rec (motive := fun _ => VL) .no (fun vs => .is (r.f .nil g :: vs)) (ih.f g h))⟩
    (fun n => Nat.rec (motive := fun _ => RsF)
      ⟨fun g h => AV.cP (r.f .nil g) .no (fun f o => Fd.rec (motive := fun _ => VL) .no (fun v => VL.rec (motive := fun _ => VL) .no (fun vs => .is (v :: vs)) (ih.f g h)) (ld1F h f o)) (fun _ => .no)⟩
      (fun n _ => ⟨fun g h => AV.cP (r.f .nil g) .no (fun f o => VL.rec (motive := fun _ => VL) .no (fun cs => VL.rec (motive := fun _ => VL) .no (fun vs => .is (.agg cs :: vs)) (ih.f g h)) (ldnF h f o (Nat.succ n))) (fun _ => .no)⟩) n) o) (rd base cx0 (.t p))) pr) l
noncomputable def endQ (base : T Nat) (res : List (Pos × Option Nat)) (r : RQ) : RC :=
  RQ.rec (motive := fun _ => RC) (fun x g h => Ex.rec (motive := fun _ => RC) (VL.rec (motive := fun _ => RC) .fail (fun vs => .ok (valF vs) h) ((resQ base res).f g h)) (fun _ => .fail) (VL.rec (motive := fun _ => RC) .fail (fun vs => .ok (valF vs) h) ((resQ base res).f g h)) x) .fail r
structure NQ where
  f : CallF → Nat → List AV → H → RC
noncomputable def enterQ (hi : Hint) (body : CC) (res : List (Pos × Option Nat)) : NQ :=
  ⟨fun call n args h => (parW (baseOf hi.lv) hi.np (nat_lit 0)).f args .nil rgZ (fun e g => endQ (baseOf hi.lv) res ((qC (baseOf hi.lv) body .done (cxN hi.np (nat_lit 0) cx0)).f call n e g h))⟩
structure SQ where
  f : (FuncId → Option CF) → CallF → Nat → List AV → H → RC
noncomputable def selQ (o : Option CF) (hi : Option Hint) : SQ :=
  Option.rec (motive := fun _ => SQ) ⟨fun fs call n args h => (enterW o).f (runCCF call n) fs args h⟩ (fun hi => Option.rec (motive := fun _ => SQ) ⟨fun _ _ _ _ _ => .fail⟩
    (fun cf => CF.rec (motive := fun _ => SQ) (fun body res dfr => Option.rec (motive := fun _ => SQ) ⟨fun _ call n args h => (enterQ hi body res).f call n args h⟩ (fun _ => ⟨fun fs call n args h => (enterW o).f (runCCF call n) fs args h⟩) dfr) cf) o) hi
noncomputable def stepFQ (hint : FuncId → Option Hint) (fs : FuncId → Option CF) (call : CallF) (n : Nat) : CallF := fun c args h =>
  Callee.rec (motive := fun _ => RC) (fun f => (selQ (fs f) (hint f)).f fs call n args h) (fun l => yieldF (runCCF call n) l args h (h.blk l)) c
noncomputable def runQ (hint : FuncId → Option Hint) (fs : FuncId → Option CF) (orc : Orc) (md : FuncId → Bool) (n : Nat) : CallF :=
  Nat.rec (motive := fun _ => CallF) (fun _ _ _ => .fail) (fun n ih => patchV md (patchO orc (stepFQ hint fs ih n))) n
noncomputable def runQJ (hint : FuncId → Option Hint) (fs : FuncId → Option CF) (orc : Orc) (md : FuncId → Bool) (n : Nat) : CallF := stepFQ hint fs (runQ hint fs orc md n) n

/-! ## They are what the evaluator does -/

variable {base : T Nat}
theorem rgZ_junk (i : Nat) : (rgW i).f .nil rgZ = .junk := by
  match i with
  | 0 | 1 | 2 | 3 | 4 | 5 | 6 | 7 | 8 | 9 | 10 | 11 | 12 | 13 | 14 | 15 => rfl
  | n + 16 => rfl
theorem RelB.zero (hb : BaseOk base) : RelB base rgZ .nil := fun p i hp => ⟨hb.lt p i hp, by rw [T.get_nil]; exact rgZ_junk i⟩
theorem parW_ok (hb : BaseOk base) {k : E → RG → RC} {v : AV} {h' : H} (np : Nat) : ∀ {i : Nat} {args : List AV} {cx : Cx} {e : E} {g : RG} {tm : Tm}, Rel base cx e g tm → (parW base np i).f args e g k = .ok v h' →
    ∃ e1 g1, Rel base (cxN np i cx) e1 g1 (argsTm args i tm) ∧ k e1 g1 = .ok v h' := by
  induction np with
  | zero =>
    intro i args cx e g tm hR hr
    cases args with
    | nil => exact ⟨e, g, hR, hr⟩
    | cons a l => cases hr
  | succ np ih =>
    intro i args cx e g tm hR hr
    have hp := fun v => hR.put hb (Pos.ofNat i) v
    have hr : (Fd.rec (motive := fun _ => PQ) ⟨fun args e g k => List.rec (motive := fun _ => RC) .fail (fun v vs _ => (parW base np (Nat.succ i)).f vs (.c v e) g k) args⟩
      (fun r => ⟨fun args e g k => List.rec (motive := fun _ => RC) .fail (fun v vs _ => (parW base np (Nat.succ i)).f vs (.c v e) ((rgS r).f v g) k) args⟩) (T.fd (Pos.ofNat i) base)).f args e g k = .ok v h' := hr
    cases args with
    | nil => cases hd : T.fd (Pos.ofNat i) base <;> (rw [hd] at hr; cases hr)
    | cons a l =>
      have hp := hp a
      cases hd : T.fd (Pos.ofNat i) base with
      | no => rw [hd] at hr; rw [wrD_no hd] at hp; exact ih hp hr
      | is r => rw [hd] at hr; rw [wrD_is hd] at hp; exact ih hp hr
theorem cJ_ok {ρ : Type} {v : AV} {z a : ρ} : v.cJ z a = z ∨ (v ≠ .junk ∧ v.cJ z a = a) := by
  cases v <;> first | exact .inl rfl | exact .inr ⟨(fun h => by cases h), rfl⟩
theorem cP_ok {ρ : Type} {v : AV} {z : ρ} {a : Pos → Nat → ρ} : v.cP z a (fun _ => z) = z ∨ ∃ f o, v = .ptr f o ∧ v.cP z a (fun _ => z) = a f o := by
  cases v <;> first | exact .inl rfl | exact .inr ⟨_, _, rfl, rfl⟩
theorem get_of_ev {p : Pos} {tm : Tm} {v : AV} (h : (CA.t p).ev tm = v) (hv : v ≠ .junk) : T.get p tm = some v := by
  rw [CA.ev_t] at h
  cases hq : T.get p tm with
  | none => rw [hq] at h; exact absurd h.symm hv
  | some u => rw [hq] at h; have h : u = v := h; rw [h]
theorem vl_is {_β : Type} {x : VL} {f : List AV → VL} {vs : List AV} (h : VL.rec (motive := fun _ => VL) .no f x = .is vs) : ∃ l, x = .is l ∧ f l = .is vs := by
  cases x with
  | no => cases h
  | is l => exact ⟨l, rfl, h⟩
theorem resQ_ok {g : RG} {tm : Tm} (hR : RelB base g tm) (h : H) (l : List (Pos × Option Nat)) : ∀ {vs : List AV}, (resQ base l).f g h = .is vs → resOf tm h l = some vs := by
  induction l with
  | nil => intro vs hr; cases hr; rfl
  | cons pr l ih =>
    intro vs hr
    obtain ⟨p, o⟩ := pr
    have hr : (RdR.rec (motive := fun _ => RsF) ⟨fun _ _ => .no⟩ (fun r => Option.rec (motive := fun _ => RsF)
      ⟨fun g h => AV.cJ (r.f .nil g) .no (VL.rec (motive := fun _ => VL) .no (fun vs => .is (r.f .nil g :: vs)) ((resQ base l).f g h))⟩
      (fun n => Nat.rec (motive := fun _ => RsF)
        ⟨fun g h => AV.cP (r.f .nil g) .no (fun f o => Fd.rec (motive := fun _ => VL) .no (fun v => VL.rec (motive := fun _ => VL) .no (fun vs => .is (v :: vs)) ((resQ base l).f g h)) (ld1F h f o)) (fun _ => .no)⟩
        (fun n _ => ⟨fun g h => AV.cP (r.f .nil g) .no (fun f o => VL.rec (motive := fun _ => VL) .no (fun cs => VL.rec (motive := fun _ => VL) .no (fun vs => .is (.agg cs :: vs)) ((resQ base l).f g h)) (ldnF h f o (Nat.succ n))) (fun _ => .no)⟩) n) o) (rd base cx0 (.t p))).f g h = .is vs := hr
    cases hd : rd base cx0 (.t p) with
    | no => rw [hd] at hr; cases hr
    | is r =>
      rw [hd] at hr
      have hv := rd_spec (Rel.zero hR) hd
      cases o with
      | none =>
        have hr : AV.cJ (r.f .nil g) .no (VL.rec (motive := fun _ => VL) .no (fun vs => .is (r.f .nil g :: vs)) ((resQ base l).f g h)) = .is vs := hr
        rw [hv] at hr
        rcases cJ_ok (v := (CA.t p).ev tm) (z := VL.no) (a := VL.rec (motive := fun _ => VL) .no (fun vs => .is ((CA.t p).ev tm :: vs)) ((resQ base l).f g h)) with h1 | ⟨h1, h2⟩
        · rw [h1] at hr; cases hr
        · rw [h2] at hr
          cases hx : (resQ base l).f g h with
          | no => rw [hx] at hr; cases hr
          | is us =>
            rw [hx] at hr
            cases hr
            unfold resOf
            rw [get_of_ev rfl h1, ih hx]
      | some k =>
        cases k with
        | zero =>
          have hr : AV.cP (r.f .nil g) .no (fun f o => Fd.rec (motive := fun _ => VL) .no (fun v => VL.rec (motive := fun _ => VL) .no (fun vs => .is (v :: vs)) ((resQ base l).f g h)) (ld1F h f o)) (fun _ => .no) = .is vs := hr
          rw [hv] at hr
          rcases cP_ok (v := (CA.t p).ev tm) (z := VL.no) (a := fun f o => Fd.rec (motive := fun _ => VL) .no (fun v => VL.rec (motive := fun _ => VL) .no (fun vs => .is (v :: vs)) ((resQ base l).f g h)) (ld1F h f o)) with h1 | ⟨f, o, h1, h2⟩
          · rw [h1] at hr; cases hr
          · rw [h2, ld1F_eq] at hr
            unfold resOf
            rw [get_of_ev h1 (fun h => by cases h)]
            simp only
            cases hb : blkLd1 o (h.blk f) with
            | none => rw [hb] at hr; cases hr
            | some v =>
              rw [hb] at hr
              have hr : VL.rec (motive := fun _ => VL) .no (fun vs => .is (v :: vs)) ((resQ base l).f g h) = .is vs := hr
              cases hx : (resQ base l).f g h with
              | no => rw [hx] at hr; cases hr
              | is us => rw [hx] at hr; cases hr; rw [ih hx]
        | succ k =>
          have hr : AV.cP (r.f .nil g) .no (fun f o => VL.rec (motive := fun _ => VL) .no (fun cs => VL.rec (motive := fun _ => VL) .no (fun vs => .is (.agg cs :: vs)) ((resQ base l).f g h)) (ldnF h f o (Nat.succ k))) (fun _ => .no) = .is vs := hr
          rw [hv] at hr
          rcases cP_ok (v := (CA.t p).ev tm) (z := VL.no) (a := fun f o => VL.rec (motive := fun _ => VL) .no (fun cs => VL.rec (motive := fun _ => VL) .no (fun vs => .is (.agg cs :: vs)) ((resQ base l).f g h)) (ldnF h f o (Nat.succ k))) with h1 | ⟨f, o, h1, h2⟩
          · rw [h1] at hr; cases hr
          · rw [h2, ldnF_eq] at hr
            unfold resOf
            rw [get_of_ev h1 (fun h => by cases h)]
            simp only
            cases hb : blkLdn o (Nat.succ k) (h.blk f) with
            | none => rw [hb] at hr; cases hr
            | some cs =>
              rw [hb] at hr
              have hr : VL.rec (motive := fun _ => VL) .no (fun vs => .is (.agg cs :: vs)) ((resQ base l).f g h) = .is vs := hr
              cases hx : (resQ base l).f g h with
              | no => rw [hx] at hr; cases hr
              | is us => rw [hx] at hr; cases hr; rw [ih hx]
theorem endQ_ok {res : List (Pos × Option Nat)} {x : Ex} {g : RG} {h : H} {tm : Tm} {v : AV} {h' : H} (hR : RelB base g tm) (hr : endQ base res (.ok x g h) = .ok v h') : endF res (.ok x tm h) = .ok v h' := by
  have key : VL.rec (motive := fun _ => RC) .fail (fun vs => .ok (valF vs) h) ((resQ base res).f g h) = .ok v h' → resK h (resOf tm h res) = .ok v h' := by
    intro hr
    cases hx : (resQ base res).f g h with
    | no => rw [hx] at hr; cases hr
    | is vs =>
      rw [hx] at hr
      rw [resQ_ok hR h res hx]
      have hr : RC.ok (valF vs) h = .ok v h' := hr
      rw [valF_eq] at hr
      exact hr
  cases x with
  | norm => exact key hr
  | exit i => cases hr
  | ret => exact key hr
theorem enterQ_ok {hi : Hint} {body : CC} {res : List (Pos × Option Nat)} {call : CallF} {n : Nat} {args : List AV} {h : H} {v : AV} {h' : H} (hr : (enterQ hi body res).f call n args h = .ok v h') :
    ∃ m, endF res (runCC call m body (argsTm args 0 .nil) h) = .ok v h' := by
  have hb := baseOf_ok hi.lv
  obtain ⟨e1, g1, hR, hr⟩ := parW_ok hb hi.np (Rel.zero (RelB.zero hb)) hr
  cases hq : (qC (baseOf hi.lv) body .done (cxN hi.np 0 cx0)).f call n e1 g1 h with
  | fail => rw [show endQ _ res _ = _ from congrArg (endQ (baseOf hi.lv) res) hq] at hr; cases hr
  | ok x g2 h2 =>
    rw [show endQ _ res _ = _ from congrArg (endQ (baseOf hi.lv) res) hq] at hr
    obtain ⟨m, tm1, k1, k2⟩ := (qC_ok hb body .done _ e1 g1 _ h call n x g2 h2 hR hq).done
    exact ⟨m, by rw [k1]; exact endQ_ok k2 hr⟩
theorem stepFQ_ok {hint : FuncId → Option Hint} {fs : FuncId → Option CF} {call : CallF} {n : Nat} {c : Callee} {args : List AV} {h : H} {v : AV} {h' : H} (hr : stepFQ hint fs call n c args h = .ok v h') :
    ∃ m, stepF fs (runCC call m) c args h = .ok v h' := by
  cases c with
  | yld l =>
    have hr : yieldF (runCCF call n) l args h (h.blk l) = .ok v h' := hr
    rw [runCCF_eq] at hr
    exact ⟨n, hr⟩
  | fn f =>
    have hr : (selQ (fs f) (hint f)).f fs call n args h = .ok v h' := hr
    have old : (enterW (fs f)).f (runCCF call n) fs args h = .ok v h' → ∃ m, stepF fs (runCC call m) (.fn f) args h = .ok v h' := by
      intro hr
      rw [enterW_eq, runCCF_eq] at hr
      exact ⟨n, hr⟩
    unfold selQ at hr
    cases hh : hint f with
    | none => rw [hh] at hr; exact old hr
    | some hi =>
      rw [hh] at hr
      cases hf : fs f with
      | none => rw [hf] at hr; cases hr
      | some cf =>
        obtain ⟨body, res, dfr⟩ := cf
        cases dfr with
        | some d => rw [hf] at hr old; exact old hr
        | none =>
          rw [hf] at hr
          obtain ⟨m, hm⟩ := enterQ_ok hr
          refine ⟨m, ?_⟩
          show enterF (runCC call m) fs args h (fs f) = _
          rw [hf]; exact hm
variable {P : Env}
theorem runQJ_ok' (hm : P.follows .mixedOrders = true) (hname : ∀ (f : FuncId) (fn : Func), P.funcs[f]? = some fn → fn.name ≠ "runtime.NumGoroutine") {call : CallF} (hcall : CallsOk P call) (hint : FuncId → Option Hint) (n : Nat) : CallsOk P (stepFQ hint (cF P) call n) := by
  intro f args h v h' hr w j hR
  obtain ⟨m, hr⟩ := stepFQ_ok hr
  exact runJ_ok' hm hname hcall m f args h v h' hr w j hR
theorem runQ_ok (hm : P.follows .mixedOrders = true) (hname : ∀ (f : FuncId) (fn : Func), P.funcs[f]? = some fn → fn.name ≠ "runtime.NumGoroutine") {orc : Orc} (ho : OrcOk P orc) {md : FuncId → Bool} (hint : FuncId → Option Hint) : ∀ m, CallsOk P (runQ hint (cF P) orc md m) := by
  intro m
  induction m with
  | zero => intro f args h v h' hr; cases hr
  | succ m ih => exact patchV_ok (patchO_ok (runQJ_ok' hm hname ih hint m) ho)
theorem runQJ_ok (hm : P.follows .mixedOrders = true) (hname : ∀ (f : FuncId) (fn : Func), P.funcs[f]? = some fn → fn.name ≠ "runtime.NumGoroutine") {orc : Orc} (ho : OrcOk P orc) {md : FuncId → Bool} (hint : FuncId → Option Hint) (m : Nat) : CallsOk P (runQJ hint (cF P) orc md m) :=
  runQJ_ok' hm hname (runQ_ok hm hname ho hint m) hint m
/-- a table of hints -/
noncomputable def hintF (l : List (Nat × Nat × List Nat)) : T Hint :=
  List.rec (motive := fun _ => T Hint) .nil (fun x _ ih => Prod.rec (motive := fun _ => T Hint) (fun f r => Prod.rec (motive := fun _ => T Hint) (fun np lv => T.set ⟨np, List.rec (motive := fun _ => List Pos) [] (fun i _ ih => Pos.ofNat i :: ih) lv⟩ (Pos.ofNat f) ih) r) x) l
noncomputable def hintOf (l : T Hint) (f : FuncId) : Option Hint := T.get (Pos.ofNat f) l
end Go.Ev


namespace Go.Ev

/-! # The evaluator again, what follows being handed in everywhere: one long chain of steps, none of which the kernel keeps -/

inductive Ans where
  | yes
  | no

/-! ## Tries -/

structure WK (α β : Type) where
  get : β → (α → Ans) → Ans
  set : α → β → (β → Ans) → Ans
  abs : β → Ans → Ans
noncomputable def ack0 {α : Type} (p : Pos) : WK α (T0 α) := ⟨fun t k => Fd.rec (motive := fun _ => Ans) .no k (fdO (T0.get p t)), fun x t k => k (T0.set x p t), fun t k => Fd.rec (motive := fun _ => Ans) k (fun _ => .no) (fdO (T0.get p t))⟩
structure WKOk {α β : Type} (W : Way α β) (K : WK α β) : Prop where
  get : ∀ t k, K.get t k = Fd.rec (motive := fun _ => Ans) .no k (W.get t)
  set : ∀ x t k, K.set x t k = k (W.set x t)
  abs : ∀ t k, K.abs t k = Fd.rec (motive := fun _ => Ans) k (fun _ => .no) (W.get t)
theorem ack0_ok {α : Type} (p : Pos) : WKOk (acc0 p : Way α (T0 α)) (ack0 p) := ⟨fun _ _ => rfl, fun _ _ _ => rfl, fun _ _ => rfl⟩
noncomputable def ack1 {α : Type} (p : Pos) : WK α (L1 α) :=
  Pos.rec (motive := fun _ => WK α (L1 α)) ⟨fun t k => Nd.rec (motive := fun _ => Ans) (fun a _ _ _ _ _ _ => Fd.rec (motive := fun _ => Ans) .no k a) t, fun x t k => Nd.rec (motive := fun _ => Ans) (fun _ b c d e f g => k (.mk (.is x) b c d e f g)) t, fun t k => Nd.rec (motive := fun _ => Ans) (fun a _ _ _ _ _ _ => Fd.rec (motive := fun _ => Ans) k (fun _ => .no) a) t⟩
    (fun p _ => Pos.rec (motive := fun _ => WK α (L1 α)) ⟨fun t k => Nd.rec (motive := fun _ => Ans) (fun _ b _ _ _ _ _ => Fd.rec (motive := fun _ => Ans) .no k b) t, fun x t k => Nd.rec (motive := fun _ => Ans) (fun a _ c d e f g => k (.mk a (.is x) c d e f g)) t, fun t k => Nd.rec (motive := fun _ => Ans) (fun _ b _ _ _ _ _ => Fd.rec (motive := fun _ => Ans) k (fun _ => .no) b) t⟩
      (fun q _ => ⟨fun t k => Nd.rec (motive := fun _ => Ans) (fun _ _ _ d _ _ _ => WK.rec (motive := fun _ => Ans) (fun get _ _ => get d k) (ack0 q)) t, fun x t k => Nd.rec (motive := fun _ => Ans) (fun a b c d e f g => WK.rec (motive := fun _ => Ans) (fun _ set _ => set x d (fun y => k (.mk a b c y e f g))) (ack0 q)) t, fun t k => Nd.rec (motive := fun _ => Ans) (fun _ _ _ d _ _ _ => WK.rec (motive := fun _ => Ans) (fun _ _ abs => abs d k) (ack0 q)) t⟩)
      (fun q _ => ⟨fun t k => Nd.rec (motive := fun _ => Ans) (fun _ _ _ _ e _ _ => WK.rec (motive := fun _ => Ans) (fun get _ _ => get e k) (ack0 q)) t, fun x t k => Nd.rec (motive := fun _ => Ans) (fun a b c d e f g => WK.rec (motive := fun _ => Ans) (fun _ set _ => set x e (fun y => k (.mk a b c d y f g))) (ack0 q)) t, fun t k => Nd.rec (motive := fun _ => Ans) (fun _ _ _ _ e _ _ => WK.rec (motive := fun _ => Ans) (fun _ _ abs => abs e k) (ack0 q)) t⟩) p)
    (fun p _ => Pos.rec (motive := fun _ => WK α (L1 α)) ⟨fun t k => Nd.rec (motive := fun _ => Ans) (fun _ _ c _ _ _ _ => Fd.rec (motive := fun _ => Ans) .no k c) t, fun x t k => Nd.rec (motive := fun _ => Ans) (fun a b _ d e f g => k (.mk a b (.is x) d e f g)) t, fun t k => Nd.rec (motive := fun _ => Ans) (fun _ _ c _ _ _ _ => Fd.rec (motive := fun _ => Ans) k (fun _ => .no) c) t⟩
      (fun q _ => ⟨fun t k => Nd.rec (motive := fun _ => Ans) (fun _ _ _ _ _ f _ => WK.rec (motive := fun _ => Ans) (fun get _ _ => get f k) (ack0 q)) t, fun x t k => Nd.rec (motive := fun _ => Ans) (fun a b c d e f g => WK.rec (motive := fun _ => Ans) (fun _ set _ => set x f (fun y => k (.mk a b c d e y g))) (ack0 q)) t, fun t k => Nd.rec (motive := fun _ => Ans) (fun _ _ _ _ _ f _ => WK.rec (motive := fun _ => Ans) (fun _ _ abs => abs f k) (ack0 q)) t⟩)
      (fun q _ => ⟨fun t k => Nd.rec (motive := fun _ => Ans) (fun _ _ _ _ _ _ g => WK.rec (motive := fun _ => Ans) (fun get _ _ => get g k) (ack0 q)) t, fun x t k => Nd.rec (motive := fun _ => Ans) (fun a b c d e f g => WK.rec (motive := fun _ => Ans) (fun _ set _ => set x g (fun y => k (.mk a b c d e f y))) (ack0 q)) t, fun t k => Nd.rec (motive := fun _ => Ans) (fun _ _ _ _ _ _ g => WK.rec (motive := fun _ => Ans) (fun _ _ abs => abs g k) (ack0 q)) t⟩) p) p
theorem ack1_ok {α : Type} (p : Pos) : WKOk (acc1 p : Way α (L1 α)) (ack1 p) := by
  have step : ∀ q (d : L0 α) (k : α → Ans), WK.rec (motive := fun _ => Ans) (fun get _ _ => get d k) (ack0 q) = Fd.rec (motive := fun _ => Ans) .no k ((acc0 q).get d) := fun q d k => (ack0_ok q).get d k
  have step2 : ∀ q (x : α) (d : L0 α) (k : L0 α → Ans), WK.rec (motive := fun _ => Ans) (fun _ set _ => set x d k) (ack0 q) = k ((acc0 q).set x d) := fun q x d k => (ack0_ok q).set x d k
  have step3 : ∀ q (d : L0 α) (k : Ans), WK.rec (motive := fun _ => Ans) (fun _ _ abs => abs d k) (ack0 q) = Fd.rec (motive := fun _ => Ans) k (fun _ => .no) ((acc0 q).get d) := fun q d k => (ack0_ok q).abs d k
  cases p with
  | h => exact ⟨fun t k => by cases t; rfl, fun x t k => by cases t; rfl, fun t k => by cases t; rfl⟩
  | o p => cases p with
    | h => exact ⟨fun t k => by cases t; rfl, fun x t k => by cases t; rfl, fun t k => by cases t; rfl⟩
    | o q => exact ⟨fun t k => by cases t; exact step q _ k, fun x t k => by cases t with | mk a b c d e f g => exact step2 q x d (fun y => k (.mk a b c y e f g)), fun t k => by cases t; exact step3 q _ k⟩
    | i q => exact ⟨fun t k => by cases t; exact step q _ k, fun x t k => by cases t with | mk a b c d e f g => exact step2 q x e (fun y => k (.mk a b c d y f g)), fun t k => by cases t; exact step3 q _ k⟩
  | i p => cases p with
    | h => exact ⟨fun t k => by cases t; rfl, fun x t k => by cases t; rfl, fun t k => by cases t; rfl⟩
    | o q => exact ⟨fun t k => by cases t; exact step q _ k, fun x t k => by cases t with | mk a b c d e f g => exact step2 q x f (fun y => k (.mk a b c d e y g)), fun t k => by cases t; exact step3 q _ k⟩
    | i q => exact ⟨fun t k => by cases t; exact step q _ k, fun x t k => by cases t with | mk a b c d e f g => exact step2 q x g (fun y => k (.mk a b c d e f y)), fun t k => by cases t; exact step3 q _ k⟩
noncomputable def ack2 {α : Type} (p : Pos) : WK α (L2 α) :=
  Pos.rec (motive := fun _ => WK α (L2 α)) ⟨fun t k => Nd.rec (motive := fun _ => Ans) (fun a _ _ _ _ _ _ => Fd.rec (motive := fun _ => Ans) .no k a) t, fun x t k => Nd.rec (motive := fun _ => Ans) (fun _ b c d e f g => k (.mk (.is x) b c d e f g)) t, fun t k => Nd.rec (motive := fun _ => Ans) (fun a _ _ _ _ _ _ => Fd.rec (motive := fun _ => Ans) k (fun _ => .no) a) t⟩
    (fun p _ => Pos.rec (motive := fun _ => WK α (L2 α)) ⟨fun t k => Nd.rec (motive := fun _ => Ans) (fun _ b _ _ _ _ _ => Fd.rec (motive := fun _ => Ans) .no k b) t, fun x t k => Nd.rec (motive := fun _ => Ans) (fun a _ c d e f g => k (.mk a (.is x) c d e f g)) t, fun t k => Nd.rec (motive := fun _ => Ans) (fun _ b _ _ _ _ _ => Fd.rec (motive := fun _ => Ans) k (fun _ => .no) b) t⟩
      (fun q _ => ⟨fun t k => Nd.rec (motive := fun _ => Ans) (fun _ _ _ d _ _ _ => WK.rec (motive := fun _ => Ans) (fun get _ _ => get d k) (ack1 q)) t, fun x t k => Nd.rec (motive := fun _ => Ans) (fun a b c d e f g => WK.rec (motive := fun _ => Ans) (fun _ set _ => set x d (fun y => k (.mk a b c y e f g))) (ack1 q)) t, fun t k => Nd.rec (motive := fun _ => Ans) (fun _ _ _ d _ _ _ => WK.rec (motive := fun _ => Ans) (fun _ _ abs => abs d k) (ack1 q)) t⟩)
      (fun q _ => ⟨fun t k => Nd.rec (motive := fun _ => Ans) (fun _ _ _ _ e _ _ => WK.rec (motive := fun _ => Ans) (fun get _ _ => get e k) (ack1 q)) t, fun x t k => Nd.rec (motive := fun _ => Ans) (fun a b c d e f g => WK.rec (motive := fun _ => Ans) (fun _ set _ => set x e (fun y => k (.mk a b c d y f g))) (ack1 q)) t, fun t k => Nd.rec (motive := fun _ => Ans) (fun _ _ _ _ e _ _ => WK.rec (motive := fun _ => Ans) (fun _ _ abs => abs e k) (ack1 q)) t⟩) p)
    (fun p _ => Pos.rec (motive := fun _ => WK α (L2 α)) ⟨fun t k => Nd.rec (motive := fun _ => Ans) (fun _ _ c _ _ _ _ => Fd.rec (motive := fun _ => Ans) .no k c) t, fun x t k => Nd.rec (motive := fun _ => Ans) (fun a b _ d e f g => k (.mk a b (.is x) d e f g)) t, fun t k => Nd.rec (motive := fun _ => Ans) (fun _ _ c _ _ _ _ => Fd.rec (motive := fun _ => Ans) k (fun _ => .no) c) t⟩
      (fun q _ => ⟨fun t k => Nd.rec (motive := fun _ => Ans) (fun _ _ _ _ _ f _ => WK.rec (motive := fun _ => Ans) (fun get _ _ => get f k) (ack1 q)) t, fun x t k => Nd.rec (motive := fun _ => Ans) (fun a b c d e f g => WK.rec (motive := fun _ => Ans) (fun _ set _ => set x f (fun y => k (.mk a b c d e y g))) (ack1 q)) t, fun t k => Nd.rec (motive := fun _ => Ans) (fun _ _ _ _ _ f _ => WK.rec (motive := fun _ => Ans) (fun _ _ abs => abs f k) (ack1 q)) t⟩)
      (fun q _ => ⟨fun t k => Nd.rec (motive := fun _ => Ans) (fun _ _ _ _ _ _ g => WK.rec (motive := fun _ => Ans) (fun get _ _ => get g k) (ack1 q)) t, fun x t k => Nd.rec (motive := fun _ => Ans) (fun a b c d e f g => WK.rec (motive := fun _ => Ans) (fun _ set _ => set x g (fun y => k (.mk a b c d e f y))) (ack1 q)) t, fun t k => Nd.rec (motive := fun _ => Ans) (fun _ _ _ _ _ _ g => WK.rec (motive := fun _ => Ans) (fun _ _ abs => abs g k) (ack1 q)) t⟩) p) p
theorem ack2_ok {α : Type} (p : Pos) : WKOk (acc2 p : Way α (L2 α)) (ack2 p) := by
  have step : ∀ q (d : L1 α) (k : α → Ans), WK.rec (motive := fun _ => Ans) (fun get _ _ => get d k) (ack1 q) = Fd.rec (motive := fun _ => Ans) .no k ((acc1 q).get d) := fun q d k => (ack1_ok q).get d k
  have step2 : ∀ q (x : α) (d : L1 α) (k : L1 α → Ans), WK.rec (motive := fun _ => Ans) (fun _ set _ => set x d k) (ack1 q) = k ((acc1 q).set x d) := fun q x d k => (ack1_ok q).set x d k
  have step3 : ∀ q (d : L1 α) (k : Ans), WK.rec (motive := fun _ => Ans) (fun _ _ abs => abs d k) (ack1 q) = Fd.rec (motive := fun _ => Ans) k (fun _ => .no) ((acc1 q).get d) := fun q d k => (ack1_ok q).abs d k
  cases p with
  | h => exact ⟨fun t k => by cases t; rfl, fun x t k => by cases t; rfl, fun t k => by cases t; rfl⟩
  | o p => cases p with
    | h => exact ⟨fun t k => by cases t; rfl, fun x t k => by cases t; rfl, fun t k => by cases t; rfl⟩
    | o q => exact ⟨fun t k => by cases t; exact step q _ k, fun x t k => by cases t with | mk a b c d e f g => exact step2 q x d (fun y => k (.mk a b c y e f g)), fun t k => by cases t; exact step3 q _ k⟩
    | i q => exact ⟨fun t k => by cases t; exact step q _ k, fun x t k => by cases t with | mk a b c d e f g => exact step2 q x e (fun y => k (.mk a b c d y f g)), fun t k => by cases t; exact step3 q _ k⟩
  | i p => cases p with
    | h => exact ⟨fun t k => by cases t; rfl, fun x t k => by cases t; rfl, fun t k => by cases t; rfl⟩
    | o q => exact ⟨fun t k => by cases t; exact step q _ k, fun x t k => by cases t with | mk a b c d e f g => exact step2 q x f (fun y => k (.mk a b c d e y g)), fun t k => by cases t; exact step3 q _ k⟩
    | i q => exact ⟨fun t k => by cases t; exact step q _ k, fun x t k => by cases t with | mk a b c d e f g => exact step2 q x g (fun y => k (.mk a b c d e f y)), fun t k => by cases t; exact step3 q _ k⟩
noncomputable def ack3 {α : Type} (p : Pos) : WK α (L3 α) :=
  Pos.rec (motive := fun _ => WK α (L3 α)) ⟨fun t k => Nd.rec (motive := fun _ => Ans) (fun a _ _ _ _ _ _ => Fd.rec (motive := fun _ => Ans) .no k a) t, fun x t k => Nd.rec (motive := fun _ => Ans) (fun _ b c d e f g => k (.mk (.is x) b c d e f g)) t, fun t k => Nd.rec (motive := fun _ => Ans) (fun a _ _ _ _ _ _ => Fd.rec (motive := fun _ => Ans) k (fun _ => .no) a) t⟩
    (fun p _ => Pos.rec (motive := fun _ => WK α (L3 α)) ⟨fun t k => Nd.rec (motive := fun _ => Ans) (fun _ b _ _ _ _ _ => Fd.rec (motive := fun _ => Ans) .no k b) t, fun x t k => Nd.rec (motive := fun _ => Ans) (fun a _ c d e f g => k (.mk a (.is x) c d e f g)) t, fun t k => Nd.rec (motive := fun _ => Ans) (fun _ b _ _ _ _ _ => Fd.rec (motive := fun _ => Ans) k (fun _ => .no) b) t⟩
      (fun q _ => ⟨fun t k => Nd.rec (motive := fun _ => Ans) (fun _ _ _ d _ _ _ => WK.rec (motive := fun _ => Ans) (fun get _ _ => get d k) (ack2 q)) t, fun x t k => Nd.rec (motive := fun _ => Ans) (fun a b c d e f g => WK.rec (motive := fun _ => Ans) (fun _ set _ => set x d (fun y => k (.mk a b c y e f g))) (ack2 q)) t, fun t k => Nd.rec (motive := fun _ => Ans) (fun _ _ _ d _ _ _ => WK.rec (motive := fun _ => Ans) (fun _ _ abs => abs d k) (ack2 q)) t⟩)
      (fun q _ => ⟨fun t k => Nd.rec (motive := fun _ => Ans) (fun _ _ _ _ e _ _ => WK.rec (motive := fun _ => Ans) (fun get _ _ => get e k) (ack2 q)) t, fun x t k => Nd.rec (motive := fun _ => Ans) (fun a b c d e f g => WK.rec (motive := fun _ => Ans) (fun _ set _ => set x e (fun y => k (.mk a b c d y f g))) (ack2 q)) t, fun t k => Nd.rec (motive := fun _ => Ans) (fun _ _ _ _ e _ _ => WK.rec (motive := fun _ => Ans) (fun _ _ abs => abs e k) (ack2 q)) t⟩) p)
    (fun p _ => Pos.rec (motive := fun _ => WK α (L3 α)) ⟨fun t k => Nd.rec (motive := fun _ => Ans) (fun _ _ c _ _ _ _ => Fd.rec (motive := fun _ => Ans) .no k c) t, fun x t k => Nd.rec (motive := fun _ => Ans) (fun a b _ d e f g => k (.mk a b (.is x) d e f g)) t, fun t k => Nd.rec (motive := fun _ => Ans) (fun _ _ c _ _ _ _ => Fd.rec (motive := fun _ => Ans) k (fun _ => .no) c) t⟩
      (fun q _ => ⟨fun t k => Nd.rec (motive := fun _ => Ans) (fun _ _ _ _ _ f _ => WK.rec (motive := fun _ => Ans) (fun get _ _ => get f k) (ack2 q)) t, fun x t k => Nd.rec (motive := fun _ => Ans) (fun a b c d e f g => WK.rec (motive := fun _ => Ans) (fun _ set _ => set x f (fun y => k (.mk a b c d e y g))) (ack2 q)) t, fun t k => Nd.rec (motive := fun _ => Ans) (fun _ _ _ _ _ f _ => WK.rec (motive := fun _ => Ans) (fun _ _ abs => abs f k) (ack2 q)) t⟩)
      (fun q _ => ⟨fun t k => Nd.rec (motive := fun _ => Ans) (fun _ _ _ _ _ _ g => WK.rec (motive := fun _ => Ans) (fun get _ _ => get g k) (ack2 q)) t, fun x t k => Nd.rec (motive := fun _ => Ans) (fun a b c d e f g => WK.rec (motive := fun _ => Ans) (fun _ set _ => set x g (fun y => k (.mk a b c d e f y))) (ack2 q)) t, fun t k => Nd.rec (motive := fun _ => Ans) (fun _ _ _ _ _ _ g => WK.rec (motive := fun _ => Ans) (fun _ _ abs => abs g k) (ack2 q)) t⟩) p) p
theorem ack3_ok {α : Type} (p : Pos) : WKOk (acc3 p : Way α (L3 α)) (ack3 p) := by
  have step : ∀ q (d : L2 α) (k : α → Ans), WK.rec (motive := fun _ => Ans) (fun get _ _ => get d k) (ack2 q) = Fd.rec (motive := fun _ => Ans) .no k ((acc2 q).get d) := fun q d k => (ack2_ok q).get d k
  have step2 : ∀ q (x : α) (d : L2 α) (k : L2 α → Ans), WK.rec (motive := fun _ => Ans) (fun _ set _ => set x d k) (ack2 q) = k ((acc2 q).set x d) := fun q x d k => (ack2_ok q).set x d k
  have step3 : ∀ q (d : L2 α) (k : Ans), WK.rec (motive := fun _ => Ans) (fun _ _ abs => abs d k) (ack2 q) = Fd.rec (motive := fun _ => Ans) k (fun _ => .no) ((acc2 q).get d) := fun q d k => (ack2_ok q).abs d k
  cases p with
  | h => exact ⟨fun t k => by cases t; rfl, fun x t k => by cases t; rfl, fun t k => by cases t; rfl⟩
  | o p => cases p with
    | h => exact ⟨fun t k => by cases t; rfl, fun x t k => by cases t; rfl, fun t k => by cases t; rfl⟩
    | o q => exact ⟨fun t k => by cases t; exact step q _ k, fun x t k => by cases t with | mk a b c d e f g => exact step2 q x d (fun y => k (.mk a b c y e f g)), fun t k => by cases t; exact step3 q _ k⟩
    | i q => exact ⟨fun t k => by cases t; exact step q _ k, fun x t k => by cases t with | mk a b c d e f g => exact step2 q x e (fun y => k (.mk a b c d y f g)), fun t k => by cases t; exact step3 q _ k⟩
  | i p => cases p with
    | h => exact ⟨fun t k => by cases t; rfl, fun x t k => by cases t; rfl, fun t k => by cases t; rfl⟩
    | o q => exact ⟨fun t k => by cases t; exact step q _ k, fun x t k => by cases t with | mk a b c d e f g => exact step2 q x f (fun y => k (.mk a b c d e y g)), fun t k => by cases t; exact step3 q _ k⟩
    | i q => exact ⟨fun t k => by cases t; exact step q _ k, fun x t k => by cases t with | mk a b c d e f g => exact step2 q x g (fun y => k (.mk a b c d e f y)), fun t k => by cases t; exact step3 q _ k⟩
noncomputable def ack4 {α : Type} (p : Pos) : WK α (L4 α) :=
  Pos.rec (motive := fun _ => WK α (L4 α)) ⟨fun t k => Nd.rec (motive := fun _ => Ans) (fun a _ _ _ _ _ _ => Fd.rec (motive := fun _ => Ans) .no k a) t, fun x t k => Nd.rec (motive := fun _ => Ans) (fun _ b c d e f g => k (.mk (.is x) b c d e f g)) t, fun t k => Nd.rec (motive := fun _ => Ans) (fun a _ _ _ _ _ _ => Fd.rec (motive := fun _ => Ans) k (fun _ => .no) a) t⟩
    (fun p _ => Pos.rec (motive := fun _ => WK α (L4 α)) ⟨fun t k => Nd.rec (motive := fun _ => Ans) (fun _ b _ _ _ _ _ => Fd.rec (motive := fun _ => Ans) .no k b) t, fun x t k => Nd.rec (motive := fun _ => Ans) (fun a _ c d e f g => k (.mk a (.is x) c d e f g)) t, fun t k => Nd.rec (motive := fun _ => Ans) (fun _ b _ _ _ _ _ => Fd.rec (motive := fun _ => Ans) k (fun _ => .no) b) t⟩
      (fun q _ => ⟨fun t k => Nd.rec (motive := fun _ => Ans) (fun _ _ _ d _ _ _ => WK.rec (motive := fun _ => Ans) (fun get _ _ => get d k) (ack3 q)) t, fun x t k => Nd.rec (motive := fun _ => Ans) (fun a b c d e f g => WK.rec (motive := fun _ => Ans) (fun _ set _ => set x d (fun y => k (.mk a b c y e f g))) (ack3 q)) t, fun t k => Nd.rec (motive := fun _ => Ans) (fun _ _ _ d _ _ _ => WK.rec (motive := fun _ => Ans) (fun _ _ abs => abs d k) (ack3 q)) t⟩)
      (fun q _ => ⟨fun t k => Nd.rec (motive := fun _ => Ans) (fun _ _ _ _ e _ _ => WK.rec (motive := fun _ => Ans) (fun get _ _ => get e k) (ack3 q)) t, fun x t k => Nd.rec (motive := fun _ => Ans) (fun a b c d e f g => WK.rec (motive := fun _ => Ans) (fun _ set _ => set x e (fun y => k (.mk a b c d y f g))) (ack3 q)) t, fun t k => Nd.rec (motive := fun _ => Ans) (fun _ _ _ _ e _ _ => WK.rec (motive := fun _ => Ans) (fun _ _ abs => abs e k) (ack3 q)) t⟩) p)
    (fun p _ => Pos.rec (motive := fun _ => WK α (L4 α)) ⟨fun t k => Nd.rec (motive := fun _ => Ans) (fun _ _ c _ _ _ _ => Fd.rec (motive := fun _ => Ans) .no k c) t, fun x t k => Nd.rec (motive := fun _ => Ans) (fun a b _ d e f g => k (.mk a b (.is x) d e f g)) t, fun t k => Nd.rec (motive := fun _ => Ans) (fun _ _ c _ _ _ _ => Fd.rec (motive := fun _ => Ans) k (fun _ => .no) c) t⟩
      (fun q _ => ⟨fun t k => Nd.rec (motive := fun _ => Ans) (fun _ _ _ _ _ f _ => WK.rec (motive := fun _ => Ans) (fun get _ _ => get f k) (ack3 q)) t, fun x t k => Nd.rec (motive := fun _ => Ans) (fun a b c d e f g => WK.rec (motive := fun _ => Ans) (fun _ set _ => set x f (fun y => k (.mk a b c d e y g))) (ack3 q)) t, fun t k => Nd.rec (motive := fun _ => Ans) (fun _ _ _ _ _ f _ => WK.rec (motive := fun _ => Ans) (fun _ _ abs => abs f k) (ack3 q)) t⟩)
      (fun q _ => ⟨fun t k => Nd.rec (motive := fun _ => Ans) (fun _ _ _ _ _ _ g => WK.rec (motive := fun _ => Ans) (fun get _ _ => get g k) (ack3 q)) t, fun x t k => Nd.rec (motive := fun _ => Ans) (fun a b c d e f g => WK.rec (motive := fun _ => Ans) (fun _ set _ => set x g (fun y => k (.mk a b c d e f y))) (ack3 q)) t, fun t k => Nd.rec (motive := fun _ => Ans) (fun _ _ _ _ _ _ g => WK.rec (motive := fun _ => Ans) (fun _ _ abs => abs g k) (ack3 q)) t⟩) p) p
theorem ack4_ok {α : Type} (p : Pos) : WKOk (acc4 p : Way α (L4 α)) (ack4 p) := by
  have step : ∀ q (d : L3 α) (k : α → Ans), WK.rec (motive := fun _ => Ans) (fun get _ _ => get d k) (ack3 q) = Fd.rec (motive := fun _ => Ans) .no k ((acc3 q).get d) := fun q d k => (ack3_ok q).get d k
  have step2 : ∀ q (x : α) (d : L3 α) (k : L3 α → Ans), WK.rec (motive := fun _ => Ans) (fun _ set _ => set x d k) (ack3 q) = k ((acc3 q).set x d) := fun q x d k => (ack3_ok q).set x d k
  have step3 : ∀ q (d : L3 α) (k : Ans), WK.rec (motive := fun _ => Ans) (fun _ _ abs => abs d k) (ack3 q) = Fd.rec (motive := fun _ => Ans) k (fun _ => .no) ((acc3 q).get d) := fun q d k => (ack3_ok q).abs d k
  cases p with
  | h => exact ⟨fun t k => by cases t; rfl, fun x t k => by cases t; rfl, fun t k => by cases t; rfl⟩
  | o p => cases p with
    | h => exact ⟨fun t k => by cases t; rfl, fun x t k => by cases t; rfl, fun t k => by cases t; rfl⟩
    | o q => exact ⟨fun t k => by cases t; exact step q _ k, fun x t k => by cases t with | mk a b c d e f g => exact step2 q x d (fun y => k (.mk a b c y e f g)), fun t k => by cases t; exact step3 q _ k⟩
    | i q => exact ⟨fun t k => by cases t; exact step q _ k, fun x t k => by cases t with | mk a b c d e f g => exact step2 q x e (fun y => k (.mk a b c d y f g)), fun t k => by cases t; exact step3 q _ k⟩
  | i p => cases p with
    | h => exact ⟨fun t k => by cases t; rfl, fun x t k => by cases t; rfl, fun t k => by cases t; rfl⟩
    | o q => exact ⟨fun t k => by cases t; exact step q _ k, fun x t k => by cases t with | mk a b c d e f g => exact step2 q x f (fun y => k (.mk a b c d e y g)), fun t k => by cases t; exact step3 q _ k⟩
    | i q => exact ⟨fun t k => by cases t; exact step q _ k, fun x t k => by cases t with | mk a b c d e f g => exact step2 q x g (fun y => k (.mk a b c d e f y)), fun t k => by cases t; exact step3 q _ k⟩
noncomputable def ack5 {α : Type} (p : Pos) : WK α (L5 α) :=
  Pos.rec (motive := fun _ => WK α (L5 α)) ⟨fun t k => Nd.rec (motive := fun _ => Ans) (fun a _ _ _ _ _ _ => Fd.rec (motive := fun _ => Ans) .no k a) t, fun x t k => Nd.rec (motive := fun _ => Ans) (fun _ b c d e f g => k (.mk (.is x) b c d e f g)) t, fun t k => Nd.rec (motive := fun _ => Ans) (fun a _ _ _ _ _ _ => Fd.rec (motive := fun _ => Ans) k (fun _ => .no) a) t⟩
    (fun p _ => Pos.rec (motive := fun _ => WK α (L5 α)) ⟨fun t k => Nd.rec (motive := fun _ => Ans) (fun _ b _ _ _ _ _ => Fd.rec (motive := fun _ => Ans) .no k b) t, fun x t k => Nd.rec (motive := fun _ => Ans) (fun a _ c d e f g => k (.mk a (.is x) c d e f g)) t, fun t k => Nd.rec (motive := fun _ => Ans) (fun _ b _ _ _ _ _ => Fd.rec (motive := fun _ => Ans) k (fun _ => .no) b) t⟩
      (fun q _ => ⟨fun t k => Nd.rec (motive := fun _ => Ans) (fun _ _ _ d _ _ _ => WK.rec (motive := fun _ => Ans) (fun get _ _ => get d k) (ack4 q)) t, fun x t k => Nd.rec (motive := fun _ => Ans) (fun a b c d e f g => WK.rec (motive := fun _ => Ans) (fun _ set _ => set x d (fun y => k (.mk a b c y e f g))) (ack4 q)) t, fun t k => Nd.rec (motive := fun _ => Ans) (fun _ _ _ d _ _ _ => WK.rec (motive := fun _ => Ans) (fun _ _ abs => abs d k) (ack4 q)) t⟩)
      (fun q _ => ⟨fun t k => Nd.rec (motive := fun _ => Ans) (fun _ _ _ _ e _ _ => WK.rec (motive := fun _ => Ans) (fun get _ _ => get e k) (ack4 q)) t, fun x t k => Nd.rec (motive := fun _ => Ans) (fun a b c d e f g => WK.rec (motive := fun _ => Ans) (fun _ set _ => set x e (fun y => k (.mk a b c d y f g))) (ack4 q)) t, fun t k => Nd.rec (motive := fun _ => Ans) (fun _ _ _ _ e _ _ => WK.rec (motive := fun _ => Ans) (fun _ _ abs => abs e k) (ack4 q)) t⟩) p)
    (fun p _ => Pos.rec (motive := fun _ => WK α (L5 α)) ⟨fun t k => Nd.rec (motive := fun _ => Ans) (fun _ _ c _ _ _ _ => Fd.rec (motive := fun _ => Ans) .no k c) t, fun x t k => Nd.rec (motive := fun _ => Ans) (fun a b _ d e f g => k (.mk a b (.is x) d e f g)) t, fun t k => Nd.rec (motive := fun _ => Ans) (fun _ _ c _ _ _ _ => Fd.rec (motive := fun _ => Ans) k (fun _ => .no) c) t⟩
      (fun q _ => ⟨fun t k => Nd.rec (motive := fun _ => Ans) (fun _ _ _ _ _ f _ => WK.rec (motive := fun _ => Ans) (fun get _ _ => get f k) (ack4 q)) t, fun x t k => Nd.rec (motive := fun _ => Ans) (fun a b c d e f g => WK.rec (motive := fun _ => Ans) (fun _ set _ => set x f (fun y => k (.mk a b c d e y g))) (ack4 q)) t, fun t k => Nd.rec (motive := fun _ => Ans) (fun _ _ _ _ _ f _ => WK.rec (motive := fun _ => Ans) (fun _ _ abs => abs f k) (ack4 q)) t⟩)
      (fun q _ => ⟨fun t k => Nd.rec (motive := fun _ => Ans) (fun _ _ _ _ _ _ g => WK.rec (motive := fun _ => Ans) (fun get _ _ => get g k) (ack4 q)) t, fun x t k => Nd.rec (motive := fun _ => Ans) (fun a b c d e f g => WK.rec (motive := fun _ => Ans) (fun _ set _ => set x g (fun y => k (.mk a b c d e f y))) (ack4 q)) t, fun t k => Nd.rec (motive := fun _ => Ans) (fun _ _ _ _ _ _ g => WK.rec (motive := fun _ => Ans) (fun _ _ abs => abs g k) (ack4 q)) t⟩) p) p
theorem ack5_ok {α : Type} (p : Pos) : WKOk (acc5 p : Way α (L5 α)) (ack5 p) := by
  have step : ∀ q (d : L4 α) (k : α → Ans), WK.rec (motive := fun _ => Ans) (fun get _ _ => get d k) (ack4 q) = Fd.rec (motive := fun _ => Ans) .no k ((acc4 q).get d) := fun q d k => (ack4_ok q).get d k
  have step2 : ∀ q (x : α) (d : L4 α) (k : L4 α → Ans), WK.rec (motive := fun _ => Ans) (fun _ set _ => set x d k) (ack4 q) = k ((acc4 q).set x d) := fun q x d k => (ack4_ok q).set x d k
  have step3 : ∀ q (d : L4 α) (k : Ans), WK.rec (motive := fun _ => Ans) (fun _ _ abs => abs d k) (ack4 q) = Fd.rec (motive := fun _ => Ans) k (fun _ => .no) ((acc4 q).get d) := fun q d k => (ack4_ok q).abs d k
  cases p with
  | h => exact ⟨fun t k => by cases t; rfl, fun x t k => by cases t; rfl, fun t k => by cases t; rfl⟩
  | o p => cases p with
    | h => exact ⟨fun t k => by cases t; rfl, fun x t k => by cases t; rfl, fun t k => by cases t; rfl⟩
    | o q => exact ⟨fun t k => by cases t; exact step q _ k, fun x t k => by cases t with | mk a b c d e f g => exact step2 q x d (fun y => k (.mk a b c y e f g)), fun t k => by cases t; exact step3 q _ k⟩
    | i q => exact ⟨fun t k => by cases t; exact step q _ k, fun x t k => by cases t with | mk a b c d e f g => exact step2 q x e (fun y => k (.mk a b c d y f g)), fun t k => by cases t; exact step3 q _ k⟩
  | i p => cases p with
    | h => exact ⟨fun t k => by cases t; rfl, fun x t k => by cases t; rfl, fun t k => by cases t; rfl⟩
    | o q => exact ⟨fun t k => by cases t; exact step q _ k, fun x t k => by cases t with | mk a b c d e f g => exact step2 q x f (fun y => k (.mk a b c d e y g)), fun t k => by cases t; exact step3 q _ k⟩
    | i q => exact ⟨fun t k => by cases t; exact step q _ k, fun x t k => by cases t with | mk a b c d e f g => exact step2 q x g (fun y => k (.mk a b c d e f y)), fun t k => by cases t; exact step3 q _ k⟩
noncomputable def ack6 {α : Type} (p : Pos) : WK α (L6 α) :=
  Pos.rec (motive := fun _ => WK α (L6 α)) ⟨fun t k => Nd.rec (motive := fun _ => Ans) (fun a _ _ _ _ _ _ => Fd.rec (motive := fun _ => Ans) .no k a) t, fun x t k => Nd.rec (motive := fun _ => Ans) (fun _ b c d e f g => k (.mk (.is x) b c d e f g)) t, fun t k => Nd.rec (motive := fun _ => Ans) (fun a _ _ _ _ _ _ => Fd.rec (motive := fun _ => Ans) k (fun _ => .no) a) t⟩
    (fun p _ => Pos.rec (motive := fun _ => WK α (L6 α)) ⟨fun t k => Nd.rec (motive := fun _ => Ans) (fun _ b _ _ _ _ _ => Fd.rec (motive := fun _ => Ans) .no k b) t, fun x t k => Nd.rec (motive := fun _ => Ans) (fun a _ c d e f g => k (.mk a (.is x) c d e f g)) t, fun t k => Nd.rec (motive := fun _ => Ans) (fun _ b _ _ _ _ _ => Fd.rec (motive := fun _ => Ans) k (fun _ => .no) b) t⟩
      (fun q _ => ⟨fun t k => Nd.rec (motive := fun _ => Ans) (fun _ _ _ d _ _ _ => WK.rec (motive := fun _ => Ans) (fun get _ _ => get d k) (ack5 q)) t, fun x t k => Nd.rec (motive := fun _ => Ans) (fun a b c d e f g => WK.rec (motive := fun _ => Ans) (fun _ set _ => set x d (fun y => k (.mk a b c y e f g))) (ack5 q)) t, fun t k => Nd.rec (motive := fun _ => Ans) (fun _ _ _ d _ _ _ => WK.rec (motive := fun _ => Ans) (fun _ _ abs => abs d k) (ack5 q)) t⟩)
      (fun q _ => ⟨fun t k => Nd.rec (motive := fun _ => Ans) (fun _ _ _ _ e _ _ => WK.rec (motive := fun _ => Ans) (fun get _ _ => get e k) (ack5 q)) t, fun x t k => Nd.rec (motive := fun _ => Ans) (fun a b c d e f g => WK.rec (motive := fun _ => Ans) (fun _ set _ => set x e (fun y => k (.mk a b c d y f g))) (ack5 q)) t, fun t k => Nd.rec (motive := fun _ => Ans) (fun _ _ _ _ e _ _ => WK.rec (motive := fun _ => Ans) (fun _ _ abs => abs e k) (ack5 q)) t⟩) p)
    (fun p _ => Pos.rec (motive := fun _ => WK α (L6 α)) ⟨fun t k => Nd.rec (motive := fun _ => Ans) (fun _ _ c _ _ _ _ => Fd.rec (motive := fun _ => Ans) .no k c) t, fun x t k => Nd.rec (motive := fun _ => Ans) (fun a b _ d e f g => k (.mk a b (.is x) d e f g)) t, fun t k => Nd.rec (motive := fun _ => Ans) (fun _ _ c _ _ _ _ => Fd.rec (motive := fun _ => Ans) k (fun _ => .no) c) t⟩
      (fun q _ => ⟨fun t k => Nd.rec (motive := fun _ => Ans) (fun _ _ _ _ _ f _ => WK.rec (motive := fun _ => Ans) (fun get _ _ => get f k) (ack5 q)) t, fun x t k => Nd.rec (motive := fun _ => Ans) (fun a b c d e f g => WK.rec (motive := fun _ => Ans) (fun _ set _ => set x f (fun y => k (.mk a b c d e y g))) (ack5 q)) t, fun t k => Nd.rec (motive := fun _ => Ans) (fun _ _ _ _ _ f _ => WK.rec (motive := fun _ => Ans) (fun _ _ abs => abs f k) (ack5 q)) t⟩)
      (fun q _ => ⟨fun t k => Nd.rec (motive := fun _ => Ans) (fun _ _ _ _ _ _ g => WK.rec (motive := fun _ => Ans) (fun get _ _ => get g k) (ack5 q)) t, fun x t k => Nd.rec (motive := fun _ => Ans) (fun a b c d e f g => WK.rec (motive := fun _ => Ans) (fun _ set _ => set x g (fun y => k (.mk a b c d e f y))) (ack5 q)) t, fun t k => Nd.rec (motive := fun _ => Ans) (fun _ _ _ _ _ _ g => WK.rec (motive := fun _ => Ans) (fun _ _ abs => abs g k) (ack5 q)) t⟩) p) p
theorem ack6_ok {α : Type} (p : Pos) : WKOk (acc6 p : Way α (L6 α)) (ack6 p) := by
  have step : ∀ q (d : L5 α) (k : α → Ans), WK.rec (motive := fun _ => Ans) (fun get _ _ => get d k) (ack5 q) = Fd.rec (motive := fun _ => Ans) .no k ((acc5 q).get d) := fun q d k => (ack5_ok q).get d k
  have step2 : ∀ q (x : α) (d : L5 α) (k : L5 α → Ans), WK.rec (motive := fun _ => Ans) (fun _ set _ => set x d k) (ack5 q) = k ((acc5 q).set x d) := fun q x d k => (ack5_ok q).set x d k
  have step3 : ∀ q (d : L5 α) (k : Ans), WK.rec (motive := fun _ => Ans) (fun _ _ abs => abs d k) (ack5 q) = Fd.rec (motive := fun _ => Ans) k (fun _ => .no) ((acc5 q).get d) := fun q d k => (ack5_ok q).abs d k
  cases p with
  | h => exact ⟨fun t k => by cases t; rfl, fun x t k => by cases t; rfl, fun t k => by cases t; rfl⟩
  | o p => cases p with
    | h => exact ⟨fun t k => by cases t; rfl, fun x t k => by cases t; rfl, fun t k => by cases t; rfl⟩
    | o q => exact ⟨fun t k => by cases t; exact step q _ k, fun x t k => by cases t with | mk a b c d e f g => exact step2 q x d (fun y => k (.mk a b c y e f g)), fun t k => by cases t; exact step3 q _ k⟩
    | i q => exact ⟨fun t k => by cases t; exact step q _ k, fun x t k => by cases t with | mk a b c d e f g => exact step2 q x e (fun y => k (.mk a b c d y f g)), fun t k => by cases t; exact step3 q _ k⟩
  | i p => cases p with
    | h => exact ⟨fun t k => by cases t; rfl, fun x t k => by cases t; rfl, fun t k => by cases t; rfl⟩
    | o q => exact ⟨fun t k => by cases t; exact step q _ k, fun x t k => by cases t with | mk a b c d e f g => exact step2 q x f (fun y => k (.mk a b c d e y g)), fun t k => by cases t; exact step3 q _ k⟩
    | i q => exact ⟨fun t k => by cases t; exact step q _ k, fun x t k => by cases t with | mk a b c d e f g => exact step2 q x g (fun y => k (.mk a b c d e f y)), fun t k => by cases t; exact step3 q _ k⟩
noncomputable def ack7 {α : Type} (p : Pos) : WK α (L7 α) :=
  Pos.rec (motive := fun _ => WK α (L7 α)) ⟨fun t k => Nd.rec (motive := fun _ => Ans) (fun a _ _ _ _ _ _ => Fd.rec (motive := fun _ => Ans) .no k a) t, fun x t k => Nd.rec (motive := fun _ => Ans) (fun _ b c d e f g => k (.mk (.is x) b c d e f g)) t, fun t k => Nd.rec (motive := fun _ => Ans) (fun a _ _ _ _ _ _ => Fd.rec (motive := fun _ => Ans) k (fun _ => .no) a) t⟩
    (fun p _ => Pos.rec (motive := fun _ => WK α (L7 α)) ⟨fun t k => Nd.rec (motive := fun _ => Ans) (fun _ b _ _ _ _ _ => Fd.rec (motive := fun _ => Ans) .no k b) t, fun x t k => Nd.rec (motive := fun _ => Ans) (fun a _ c d e f g => k (.mk a (.is x) c d e f g)) t, fun t k => Nd.rec (motive := fun _ => Ans) (fun _ b _ _ _ _ _ => Fd.rec (motive := fun _ => Ans) k (fun _ => .no) b) t⟩
      (fun q _ => ⟨fun t k => Nd.rec (motive := fun _ => Ans) (fun _ _ _ d _ _ _ => WK.rec (motive := fun _ => Ans) (fun get _ _ => get d k) (ack6 q)) t, fun x t k => Nd.rec (motive := fun _ => Ans) (fun a b c d e f g => WK.rec (motive := fun _ => Ans) (fun _ set _ => set x d (fun y => k (.mk a b c y e f g))) (ack6 q)) t, fun t k => Nd.rec (motive := fun _ => Ans) (fun _ _ _ d _ _ _ => WK.rec (motive := fun _ => Ans) (fun _ _ abs => abs d k) (ack6 q)) t⟩)
      (fun q _ => ⟨fun t k => Nd.rec (motive := fun _ => Ans) (fun _ _ _ _ e _ _ => WK.rec (motive := fun _ => Ans) (fun get _ _ => get e k) (ack6 q)) t, fun x t k => Nd.rec (motive := fun _ => Ans) (fun a b c d e f g => WK.rec (motive := fun _ => Ans) (fun _ set _ => set x e (fun y => k (.mk a b c d y f g))) (ack6 q)) t, fun t k => Nd.rec (motive := fun _ => Ans) (fun _ _ _ _ e _ _ => WK.rec (motive := fun _ => Ans) (fun _ _ abs => abs e k) (ack6 q)) t⟩) p)
    (fun p _ => Pos.rec (motive := fun _ => WK α (L7 α)) ⟨fun t k => Nd.rec (motive := fun _ => Ans) (fun _ _ c _ _ _ _ => Fd.rec (motive := fun _ => Ans) .no k c) t, fun x t k => Nd.rec (motive := fun _ => Ans) (fun a b _ d e f g => k (.mk a b (.is x) d e f g)) t, fun t k => Nd.rec (motive := fun _ => Ans) (fun _ _ c _ _ _ _ => Fd.rec (motive := fun _ => Ans) k (fun _ => .no) c) t⟩
      (fun q _ => ⟨fun t k => Nd.rec (motive := fun _ => Ans) (fun _ _ _ _ _ f _ => WK.rec (motive := fun _ => Ans) (fun get _ _ => get f k) (ack6 q)) t, fun x t k => Nd.rec (motive := fun _ => Ans) (fun a b c d e f g => WK.rec (motive := fun _ => Ans) (fun _ set _ => set x f (fun y => k (.mk a b c d e y g))) (ack6 q)) t, fun t k => Nd.rec (motive := fun _ => Ans) (fun _ _ _ _ _ f _ => WK.rec (motive := fun _ => Ans) (fun _ _ abs => abs f k) (ack6 q)) t⟩)
      (fun q _ => ⟨fun t k => Nd.rec (motive := fun _ => Ans) (fun _ _ _ _ _ _ g => WK.rec (motive := fun _ => Ans) (fun get _ _ => get g k) (ack6 q)) t, fun x t k => Nd.rec (motive := fun _ => Ans) (fun a b c d e f g => WK.rec (motive := fun _ => Ans) (fun _ set _ => set x g (fun y => k (.mk a b c d e f y))) (ack6 q)) t, fun t k => Nd.rec (motive := fun _ => Ans) (fun _ _ _ _ _ _ g => WK.rec (motive := fun _ => Ans) (fun _ _ abs => abs g k) (ack6 q)) t⟩) p) p
theorem ack7_ok {α : Type} (p : Pos) : WKOk (acc7 p : Way α (L7 α)) (ack7 p) := by
  have step : ∀ q (d : L6 α) (k : α → Ans), WK.rec (motive := fun _ => Ans) (fun get _ _ => get d k) (ack6 q) = Fd.rec (motive := fun _ => Ans) .no k ((acc6 q).get d) := fun q d k => (ack6_ok q).get d k
  have step2 : ∀ q (x : α) (d : L6 α) (k : L6 α → Ans), WK.rec (motive := fun _ => Ans) (fun _ set _ => set x d k) (ack6 q) = k ((acc6 q).set x d) := fun q x d k => (ack6_ok q).set x d k
  have step3 : ∀ q (d : L6 α) (k : Ans), WK.rec (motive := fun _ => Ans) (fun _ _ abs => abs d k) (ack6 q) = Fd.rec (motive := fun _ => Ans) k (fun _ => .no) ((acc6 q).get d) := fun q d k => (ack6_ok q).abs d k
  cases p with
  | h => exact ⟨fun t k => by cases t; rfl, fun x t k => by cases t; rfl, fun t k => by cases t; rfl⟩
  | o p => cases p with
    | h => exact ⟨fun t k => by cases t; rfl, fun x t k => by cases t; rfl, fun t k => by cases t; rfl⟩
    | o q => exact ⟨fun t k => by cases t; exact step q _ k, fun x t k => by cases t with | mk a b c d e f g => exact step2 q x d (fun y => k (.mk a b c y e f g)), fun t k => by cases t; exact step3 q _ k⟩
    | i q => exact ⟨fun t k => by cases t; exact step q _ k, fun x t k => by cases t with | mk a b c d e f g => exact step2 q x e (fun y => k (.mk a b c d y f g)), fun t k => by cases t; exact step3 q _ k⟩
  | i p => cases p with
    | h => exact ⟨fun t k => by cases t; rfl, fun x t k => by cases t; rfl, fun t k => by cases t; rfl⟩
    | o q => exact ⟨fun t k => by cases t; exact step q _ k, fun x t k => by cases t with | mk a b c d e f g => exact step2 q x f (fun y => k (.mk a b c d e y g)), fun t k => by cases t; exact step3 q _ k⟩
    | i q => exact ⟨fun t k => by cases t; exact step q _ k, fun x t k => by cases t with | mk a b c d e f g => exact step2 q x g (fun y => k (.mk a b c d e f y)), fun t k => by cases t; exact step3 q _ k⟩
noncomputable def ack8 {α : Type} (p : Pos) : WK α (L8 α) :=
  Pos.rec (motive := fun _ => WK α (L8 α)) ⟨fun t k => Nd.rec (motive := fun _ => Ans) (fun a _ _ _ _ _ _ => Fd.rec (motive := fun _ => Ans) .no k a) t, fun x t k => Nd.rec (motive := fun _ => Ans) (fun _ b c d e f g => k (.mk (.is x) b c d e f g)) t, fun t k => Nd.rec (motive := fun _ => Ans) (fun a _ _ _ _ _ _ => Fd.rec (motive := fun _ => Ans) k (fun _ => .no) a) t⟩
    (fun p _ => Pos.rec (motive := fun _ => WK α (L8 α)) ⟨fun t k => Nd.rec (motive := fun _ => Ans) (fun _ b _ _ _ _ _ => Fd.rec (motive := fun _ => Ans) .no k b) t, fun x t k => Nd.rec (motive := fun _ => Ans) (fun a _ c d e f g => k (.mk a (.is x) c d e f g)) t, fun t k => Nd.rec (motive := fun _ => Ans) (fun _ b _ _ _ _ _ => Fd.rec (motive := fun _ => Ans) k (fun _ => .no) b) t⟩
      (fun q _ => ⟨fun t k => Nd.rec (motive := fun _ => Ans) (fun _ _ _ d _ _ _ => WK.rec (motive := fun _ => Ans) (fun get _ _ => get d k) (ack7 q)) t, fun x t k => Nd.rec (motive := fun _ => Ans) (fun a b c d e f g => WK.rec (motive := fun _ => Ans) (fun _ set _ => set x d (fun y => k (.mk a b c y e f g))) (ack7 q)) t, fun t k => Nd.rec (motive := fun _ => Ans) (fun _ _ _ d _ _ _ => WK.rec (motive := fun _ => Ans) (fun _ _ abs => abs d k) (ack7 q)) t⟩)
      (fun q _ => ⟨fun t k => Nd.rec (motive := fun _ => Ans) (fun _ _ _ _ e _ _ => WK.rec (motive := fun _ => Ans) (fun get _ _ => get e k) (ack7 q)) t, fun x t k => Nd.rec (motive := fun _ => Ans) (fun a b c d e f g => WK.rec (motive := fun _ => Ans) (fun _ set _ => set x e (fun y => k (.mk a b c d y f g))) (ack7 q)) t, fun t k => Nd.rec (motive := fun _ => Ans) (fun _ _ _ _ e _ _ => WK.rec (motive := fun _ => Ans) (fun _ _ abs => abs e k) (ack7 q)) t⟩) p)
    (fun p _ => Pos.rec (motive := fun _ => WK α (L8 α)) ⟨fun t k => Nd.rec (motive := fun _ => Ans) (fun _ _ c _ _ _ _ => Fd.rec (motive := fun _ => Ans) .no k c) t, fun x t k => Nd.rec (motive := fun _ => Ans) (fun a b _ d e f g => k (.mk a b (.is x) d e f g)) t, fun t k => Nd.rec (motive := fun _ => Ans) (fun _ _ c _ _ _ _ => Fd.rec (motive := fun _ => Ans) k (fun _ => .no) c) t⟩
      (fun q _ => ⟨fun t k => Nd.rec (motive := fun _ => Ans) (fun _ _ _ _ _ f _ => WK.rec (motive := fun _ => Ans) (fun get _ _ => get f k) (ack7 q)) t, fun x t k => Nd.rec (motive := fun _ => Ans) (fun a b c d e f g => WK.rec (motive := fun _ => Ans) (fun _ set _ => set x f (fun y => k (.mk a b c d e y g))) (ack7 q)) t, fun t k => Nd.rec (motive := fun _ => Ans) (fun _ _ _ _ _ f _ => WK.rec (motive := fun _ => Ans) (fun _ _ abs => abs f k) (ack7 q)) t⟩)
      (fun q _ => ⟨fun t k => Nd.rec (motive := fun _ => Ans) (fun _ _ _ _ _ _ g => WK.rec (motive := fun _ => Ans) (fun get _ _ => get g k) (ack7 q)) t, fun x t k => Nd.rec (motive := fun _ => Ans) (fun a b c d e f g => WK.rec (motive := fun _ => Ans) (fun _ set _ => set x g (fun y => k (.mk a b c d e f y))) (ack7 q)) t, fun t k => Nd.rec (motive := fun _ => Ans) (fun _ _ _ _ _ _ g => WK.rec (motive := fun _ => Ans) (fun _ _ abs => abs g k) (ack7 q)) t⟩) p) p
theorem ack8_ok {α : Type} (p : Pos) : WKOk (acc8 p : Way α (L8 α)) (ack8 p) := by
  have step : ∀ q (d : L7 α) (k : α → Ans), WK.rec (motive := fun _ => Ans) (fun get _ _ => get d k) (ack7 q) = Fd.rec (motive := fun _ => Ans) .no k ((acc7 q).get d) := fun q d k => (ack7_ok q).get d k
  have step2 : ∀ q (x : α) (d : L7 α) (k : L7 α → Ans), WK.rec (motive := fun _ => Ans) (fun _ set _ => set x d k) (ack7 q) = k ((acc7 q).set x d) := fun q x d k => (ack7_ok q).set x d k
  have step3 : ∀ q (d : L7 α) (k : Ans), WK.rec (motive := fun _ => Ans) (fun _ _ abs => abs d k) (ack7 q) = Fd.rec (motive := fun _ => Ans) k (fun _ => .no) ((acc7 q).get d) := fun q d k => (ack7_ok q).abs d k
  cases p with
  | h => exact ⟨fun t k => by cases t; rfl, fun x t k => by cases t; rfl, fun t k => by cases t; rfl⟩
  | o p => cases p with
    | h => exact ⟨fun t k => by cases t; rfl, fun x t k => by cases t; rfl, fun t k => by cases t; rfl⟩
    | o q => exact ⟨fun t k => by cases t; exact step q _ k, fun x t k => by cases t with | mk a b c d e f g => exact step2 q x d (fun y => k (.mk a b c y e f g)), fun t k => by cases t; exact step3 q _ k⟩
    | i q => exact ⟨fun t k => by cases t; exact step q _ k, fun x t k => by cases t with | mk a b c d e f g => exact step2 q x e (fun y => k (.mk a b c d y f g)), fun t k => by cases t; exact step3 q _ k⟩
  | i p => cases p with
    | h => exact ⟨fun t k => by cases t; rfl, fun x t k => by cases t; rfl, fun t k => by cases t; rfl⟩
    | o q => exact ⟨fun t k => by cases t; exact step q _ k, fun x t k => by cases t with | mk a b c d e f g => exact step2 q x f (fun y => k (.mk a b c d e y g)), fun t k => by cases t; exact step3 q _ k⟩
    | i q => exact ⟨fun t k => by cases t; exact step q _ k, fun x t k => by cases t with | mk a b c d e f g => exact step2 q x g (fun y => k (.mk a b c d e f y)), fun t k => by cases t; exact step3 q _ k⟩
noncomputable def ack9 {α : Type} (p : Pos) : WK α (L9 α) :=
  Pos.rec (motive := fun _ => WK α (L9 α)) ⟨fun t k => Nd.rec (motive := fun _ => Ans) (fun a _ _ _ _ _ _ => Fd.rec (motive := fun _ => Ans) .no k a) t, fun x t k => Nd.rec (motive := fun _ => Ans) (fun _ b c d e f g => k (.mk (.is x) b c d e f g)) t, fun t k => Nd.rec (motive := fun _ => Ans) (fun a _ _ _ _ _ _ => Fd.rec (motive := fun _ => Ans) k (fun _ => .no) a) t⟩
    (fun p _ => Pos.rec (motive := fun _ => WK α (L9 α)) ⟨fun t k => Nd.rec (motive := fun _ => Ans) (fun _ b _ _ _ _ _ => Fd.rec (motive := fun _ => Ans) .no k b) t, fun x t k => Nd.rec (motive := fun _ => Ans) (fun a _ c d e f g => k (.mk a (.is x) c d e f g)) t, fun t k => Nd.rec (motive := fun _ => Ans) (fun _ b _ _ _ _ _ => Fd.rec (motive := fun _ => Ans) k (fun _ => .no) b) t⟩
      (fun q _ => ⟨fun t k => Nd.rec (motive := fun _ => Ans) (fun _ _ _ d _ _ _ => WK.rec (motive := fun _ => Ans) (fun get _ _ => get d k) (ack8 q)) t, fun x t k => Nd.rec (motive := fun _ => Ans) (fun a b c d e f g => WK.rec (motive := fun _ => Ans) (fun _ set _ => set x d (fun y => k (.mk a b c y e f g))) (ack8 q)) t, fun t k => Nd.rec (motive := fun _ => Ans) (fun _ _ _ d _ _ _ => WK.rec (motive := fun _ => Ans) (fun _ _ abs => abs d k) (ack8 q)) t⟩)
      (fun q _ => ⟨fun t k => Nd.rec (motive := fun _ => Ans) (fun _ _ _ _ e _ _ => WK.rec (motive := fun _ => Ans) (fun get _ _ => get e k) (ack8 q)) t, fun x t k => Nd.rec (motive := fun _ => Ans) (fun a b c d e f g => WK.rec (motive := fun _ => Ans) (fun _ set _ => set x e (fun y => k (.mk a b c d y f g))) (ack8 q)) t, fun t k => Nd.rec (motive := fun _ => Ans) (fun _ _ _ _ e _ _ => WK.rec (motive := fun _ => Ans) (fun _ _ abs => abs e k) (ack8 q)) t⟩) p)
    (fun p _ => Pos.rec (motive := fun _ => WK α (L9 α)) ⟨fun t k => Nd.rec (motive := fun _ => Ans) (fun _ _ c _ _ _ _ => Fd.rec (motive := fun _ => Ans) .no k c) t, fun x t k => Nd.rec (motive := fun _ => Ans) (fun a b _ d e f g => k (.mk a b (.is x) d e f g)) t, fun t k => Nd.rec (motive := fun _ => Ans) (fun _ _ c _ _ _ _ => Fd.rec (motive := fun _ => Ans) k (fun _ => .no) c) t⟩
      (fun q _ => ⟨fun t k => Nd.rec (motive := fun _ => Ans) (fun _ _ _ _ _ f _ => WK.rec (motive := fun _ => Ans) (fun get _ _ => get f k) (ack8 q)) t, fun x t k => Nd.rec (motive := fun _ => Ans) (fun a b c d e f g => WK.rec (motive := fun _ => Ans) (fun _ set _ => set x f (fun y => k (.mk a b c d e y g))) (ack8 q)) t, fun t k => Nd.rec (motive := fun _ => Ans) (fun _ _ _ _ _ f _ => WK.rec (motive := fun _ => Ans) (fun _ _ abs => abs f k) (ack8 q)) t⟩)
      (fun q _ => ⟨fun t k => Nd.rec (motive := fun _ => Ans) (fun _ _ _ _ _ _ g => WK.rec (motive := fun _ => Ans) (fun get _ _ => get g k) (ack8 q)) t, fun x t k => Nd.rec (motive := fun _ => Ans) (fun a b c d e f g => WK.rec (motive := fun _ => Ans) (fun _ set _ => set x g (fun y => k (.mk a b c d e f y))) (ack8 q)) t, fun t k => Nd.rec (motive := fun _ => Ans) (fun _ _ _ _ _ _ g => WK.rec (motive := fun _ => Ans) (fun _ _ abs => abs g k) (ack8 q)) t⟩) p) p
theorem ack9_ok {α : Type} (p : Pos) : WKOk (acc9 p : Way α (L9 α)) (ack9 p) := by
  have step : ∀ q (d : L8 α) (k : α → Ans), WK.rec (motive := fun _ => Ans) (fun get _ _ => get d k) (ack8 q) = Fd.rec (motive := fun _ => Ans) .no k ((acc8 q).get d) := fun q d k => (ack8_ok q).get d k
  have step2 : ∀ q (x : α) (d : L8 α) (k : L8 α → Ans), WK.rec (motive := fun _ => Ans) (fun _ set _ => set x d k) (ack8 q) = k ((acc8 q).set x d) := fun q x d k => (ack8_ok q).set x d k
  have step3 : ∀ q (d : L8 α) (k : Ans), WK.rec (motive := fun _ => Ans) (fun _ _ abs => abs d k) (ack8 q) = Fd.rec (motive := fun _ => Ans) k (fun _ => .no) ((acc8 q).get d) := fun q d k => (ack8_ok q).abs d k
  cases p with
  | h => exact ⟨fun t k => by cases t; rfl, fun x t k => by cases t; rfl, fun t k => by cases t; rfl⟩
  | o p => cases p with
    | h => exact ⟨fun t k => by cases t; rfl, fun x t k => by cases t; rfl, fun t k => by cases t; rfl⟩
    | o q => exact ⟨fun t k => by cases t; exact step q _ k, fun x t k => by cases t with | mk a b c d e f g => exact step2 q x d (fun y => k (.mk a b c y e f g)), fun t k => by cases t; exact step3 q _ k⟩
    | i q => exact ⟨fun t k => by cases t; exact step q _ k, fun x t k => by cases t with | mk a b c d e f g => exact step2 q x e (fun y => k (.mk a b c d y f g)), fun t k => by cases t; exact step3 q _ k⟩
  | i p => cases p with
    | h => exact ⟨fun t k => by cases t; rfl, fun x t k => by cases t; rfl, fun t k => by cases t; rfl⟩
    | o q => exact ⟨fun t k => by cases t; exact step q _ k, fun x t k => by cases t with | mk a b c d e f g => exact step2 q x f (fun y => k (.mk a b c d e y g)), fun t k => by cases t; exact step3 q _ k⟩
    | i q => exact ⟨fun t k => by cases t; exact step q _ k, fun x t k => by cases t with | mk a b c d e f g => exact step2 q x g (fun y => k (.mk a b c d e f y)), fun t k => by cases t; exact step3 q _ k⟩
noncomputable def ack10 {α : Type} (p : Pos) : WK α (L10 α) :=
  Pos.rec (motive := fun _ => WK α (L10 α)) ⟨fun t k => Nd.rec (motive := fun _ => Ans) (fun a _ _ _ _ _ _ => Fd.rec (motive := fun _ => Ans) .no k a) t, fun x t k => Nd.rec (motive := fun _ => Ans) (fun _ b c d e f g => k (.mk (.is x) b c d e f g)) t, fun t k => Nd.rec (motive := fun _ => Ans) (fun a _ _ _ _ _ _ => Fd.rec (motive := fun _ => Ans) k (fun _ => .no) a) t⟩
    (fun p _ => Pos.rec (motive := fun _ => WK α (L10 α)) ⟨fun t k => Nd.rec (motive := fun _ => Ans) (fun _ b _ _ _ _ _ => Fd.rec (motive := fun _ => Ans) .no k b) t, fun x t k => Nd.rec (motive := fun _ => Ans) (fun a _ c d e f g => k (.mk a (.is x) c d e f g)) t, fun t k => Nd.rec (motive := fun _ => Ans) (fun _ b _ _ _ _ _ => Fd.rec (motive := fun _ => Ans) k (fun _ => .no) b) t⟩
      (fun q _ => ⟨fun t k => Nd.rec (motive := fun _ => Ans) (fun _ _ _ d _ _ _ => WK.rec (motive := fun _ => Ans) (fun get _ _ => get d k) (ack9 q)) t, fun x t k => Nd.rec (motive := fun _ => Ans) (fun a b c d e f g => WK.rec (motive := fun _ => Ans) (fun _ set _ => set x d (fun y => k (.mk a b c y e f g))) (ack9 q)) t, fun t k => Nd.rec (motive := fun _ => Ans) (fun _ _ _ d _ _ _ => WK.rec (motive := fun _ => Ans) (fun _ _ abs => abs d k) (ack9 q)) t⟩)
      (fun q _ => ⟨fun t k => Nd.rec (motive := fun _ => Ans) (fun _ _ _ _ e _ _ => WK.rec (motive := fun _ => Ans) (fun get _ _ => get e k) (ack9 q)) t, fun x t k => Nd.rec (motive := fun _ => Ans) (fun a b c d e f g => WK.rec (motive := fun _ => Ans) (fun _ set _ => set x e (fun y => k (.mk a b c d y f g))) (ack9 q)) t, fun t k => Nd.rec (motive := fun _ => Ans) (fun _ _ _ _ e _ _ => WK.rec (motive := fun _ => Ans) (fun _ _ abs => abs e k) (ack9 q)) t⟩) p)
    (fun p _ => Pos.rec (motive := fun _ => WK α (L10 α)) ⟨fun t k => Nd.rec (motive := fun _ => Ans) (fun _ _ c _ _ _ _ => Fd.rec (motive := fun _ => Ans) .no k c) t, fun x t k => Nd.rec (motive := fun _ => Ans) (fun a b _ d e f g => k (.mk a b (.is x) d e f g)) t, fun t k => Nd.rec (motive := fun _ => Ans) (fun _ _ c _ _ _ _ => Fd.rec (motive := fun _ => Ans) k (fun _ => .no) c) t⟩
      (fun q _ => ⟨fun t k => Nd.rec (motive := fun _ => Ans) (fun _ _ _ _ _ f _ => WK.rec (motive := fun _ => Ans) (fun get _ _ => get f k) (ack9 q)) t, fun x t k => Nd.rec (motive := fun _ => Ans) (fun a b c d e f g => WK.rec (motive := fun _ => Ans) (fun _ set _ => set x f (fun y => k (.mk a b c d e y g))) (ack9 q)) t, fun t k => Nd.rec (motive := fun _ => Ans) (fun _ _ _ _ _ f _ => WK.rec (motive := fun _ => Ans) (fun _ _ abs => abs f k) (ack9 q)) t⟩)
      (fun q _ => ⟨fun t k => Nd.rec (motive := fun _ => Ans) (fun _ _ _ _ _ _ g => WK.rec (motive := fun _ => Ans) (fun get _ _ => get g k) (ack9 q)) t, fun x t k => Nd.rec (motive := fun _ => Ans) (fun a b c d e f g => WK.rec (motive := fun _ => Ans) (fun _ set _ => set x g (fun y => k (.mk a b c d e f y))) (ack9 q)) t, fun t k => Nd.rec (motive := fun _ => Ans) (fun _ _ _ _ _ _ g => WK.rec (motive := fun _ => Ans) (fun _ _ abs => abs g k) (ack9 q)) t⟩) p) p
theorem ack10_ok {α : Type} (p : Pos) : WKOk (acc10 p : Way α (L10 α)) (ack10 p) := by
  have step : ∀ q (d : L9 α) (k : α → Ans), WK.rec (motive := fun _ => Ans) (fun get _ _ => get d k) (ack9 q) = Fd.rec (motive := fun _ => Ans) .no k ((acc9 q).get d) := fun q d k => (ack9_ok q).get d k
  have step2 : ∀ q (x : α) (d : L9 α) (k : L9 α → Ans), WK.rec (motive := fun _ => Ans) (fun _ set _ => set x d k) (ack9 q) = k ((acc9 q).set x d) := fun q x d k => (ack9_ok q).set x d k
  have step3 : ∀ q (d : L9 α) (k : Ans), WK.rec (motive := fun _ => Ans) (fun _ _ abs => abs d k) (ack9 q) = Fd.rec (motive := fun _ => Ans) k (fun _ => .no) ((acc9 q).get d) := fun q d k => (ack9_ok q).abs d k
  cases p with
  | h => exact ⟨fun t k => by cases t; rfl, fun x t k => by cases t; rfl, fun t k => by cases t; rfl⟩
  | o p => cases p with
    | h => exact ⟨fun t k => by cases t; rfl, fun x t k => by cases t; rfl, fun t k => by cases t; rfl⟩
    | o q => exact ⟨fun t k => by cases t; exact step q _ k, fun x t k => by cases t with | mk a b c d e f g => exact step2 q x d (fun y => k (.mk a b c y e f g)), fun t k => by cases t; exact step3 q _ k⟩
    | i q => exact ⟨fun t k => by cases t; exact step q _ k, fun x t k => by cases t with | mk a b c d e f g => exact step2 q x e (fun y => k (.mk a b c d y f g)), fun t k => by cases t; exact step3 q _ k⟩
  | i p => cases p with
    | h => exact ⟨fun t k => by cases t; rfl, fun x t k => by cases t; rfl, fun t k => by cases t; rfl⟩
    | o q => exact ⟨fun t k => by cases t; exact step q _ k, fun x t k => by cases t with | mk a b c d e f g => exact step2 q x f (fun y => k (.mk a b c d e y g)), fun t k => by cases t; exact step3 q _ k⟩
    | i q => exact ⟨fun t k => by cases t; exact step q _ k, fun x t k => by cases t with | mk a b c d e f g => exact step2 q x g (fun y => k (.mk a b c d e f y)), fun t k => by cases t; exact step3 q _ k⟩
noncomputable def ackv0 (p : Pos) : WK AV (T0 AV) := ⟨fun t k => Fd.rec (motive := fun _ => Ans) .no k (fdO (T0.get p t)), fun x t k => k (T0.set x p t), fun t k => Fd.rec (motive := fun _ => Ans) k (fun _ => .no) (fdO (T0.get p t))⟩
theorem ackv0_eq (p : Pos) : ackv0 p = ack0 p := rfl
noncomputable def ackv1 (p : Pos) : WK AV (L1 AV) :=
  Pos.rec (motive := fun _ => WK AV (L1 AV)) ⟨fun t k => Nd.rec (motive := fun _ => Ans) (fun a _ _ _ _ _ _ => Fd.rec (motive := fun _ => Ans) .no k a) t, fun x t k => Nd.rec (motive := fun _ => Ans) (fun _ b c d e f g => k (.mk (.is x) b c d e f g)) t, fun t k => Nd.rec (motive := fun _ => Ans) (fun a _ _ _ _ _ _ => Fd.rec (motive := fun _ => Ans) k (fun _ => .no) a) t⟩
    (fun p _ => Pos.rec (motive := fun _ => WK AV (L1 AV)) ⟨fun t k => Nd.rec (motive := fun _ => Ans) (fun _ b _ _ _ _ _ => Fd.rec (motive := fun _ => Ans) .no k b) t, fun x t k => Nd.rec (motive := fun _ => Ans) (fun a _ c d e f g => k (.mk a (.is x) c d e f g)) t, fun t k => Nd.rec (motive := fun _ => Ans) (fun _ b _ _ _ _ _ => Fd.rec (motive := fun _ => Ans) k (fun _ => .no) b) t⟩
      (fun q _ => ⟨fun t k => Nd.rec (motive := fun _ => Ans) (fun _ _ _ d _ _ _ => WK.rec (motive := fun _ => Ans) (fun get _ _ => get d k) (ackv0 q)) t, fun x t k => Nd.rec (motive := fun _ => Ans) (fun a b c d e f g => WK.rec (motive := fun _ => Ans) (fun _ set _ => set x d (fun y => k (.mk a b c y e f g))) (ackv0 q)) t, fun t k => Nd.rec (motive := fun _ => Ans) (fun _ _ _ d _ _ _ => WK.rec (motive := fun _ => Ans) (fun _ _ abs => abs d k) (ackv0 q)) t⟩)
      (fun q _ => ⟨fun t k => Nd.rec (motive := fun _ => Ans) (fun _ _ _ _ e _ _ => WK.rec (motive := fun _ => Ans) (fun get _ _ => get e k) (ackv0 q)) t, fun x t k => Nd.rec (motive := fun _ => Ans) (fun a b c d e f g => WK.rec (motive := fun _ => Ans) (fun _ set _ => set x e (fun y => k (.mk a b c d y f g))) (ackv0 q)) t, fun t k => Nd.rec (motive := fun _ => Ans) (fun _ _ _ _ e _ _ => WK.rec (motive := fun _ => Ans) (fun _ _ abs => abs e k) (ackv0 q)) t⟩) p)
    (fun p _ => Pos.rec (motive := fun _ => WK AV (L1 AV)) ⟨fun t k => Nd.rec (motive := fun _ => Ans) (fun _ _ c _ _ _ _ => Fd.rec (motive := fun _ => Ans) .no k c) t, fun x t k => Nd.rec (motive := fun _ => Ans) (fun a b _ d e f g => k (.mk a b (.is x) d e f g)) t, fun t k => Nd.rec (motive := fun _ => Ans) (fun _ _ c _ _ _ _ => Fd.rec (motive := fun _ => Ans) k (fun _ => .no) c) t⟩
      (fun q _ => ⟨fun t k => Nd.rec (motive := fun _ => Ans) (fun _ _ _ _ _ f _ => WK.rec (motive := fun _ => Ans) (fun get _ _ => get f k) (ackv0 q)) t, fun x t k => Nd.rec (motive := fun _ => Ans) (fun a b c d e f g => WK.rec (motive := fun _ => Ans) (fun _ set _ => set x f (fun y => k (.mk a b c d e y g))) (ackv0 q)) t, fun t k => Nd.rec (motive := fun _ => Ans) (fun _ _ _ _ _ f _ => WK.rec (motive := fun _ => Ans) (fun _ _ abs => abs f k) (ackv0 q)) t⟩)
      (fun q _ => ⟨fun t k => Nd.rec (motive := fun _ => Ans) (fun _ _ _ _ _ _ g => WK.rec (motive := fun _ => Ans) (fun get _ _ => get g k) (ackv0 q)) t, fun x t k => Nd.rec (motive := fun _ => Ans) (fun a b c d e f g => WK.rec (motive := fun _ => Ans) (fun _ set _ => set x g (fun y => k (.mk a b c d e f y))) (ackv0 q)) t, fun t k => Nd.rec (motive := fun _ => Ans) (fun _ _ _ _ _ _ g => WK.rec (motive := fun _ => Ans) (fun _ _ abs => abs g k) (ackv0 q)) t⟩) p) p
theorem ackv1_eq (p : Pos) : ackv1 p = ack1 p := by
  cases p with
  | h => rfl
  | o p => cases p with
    | h => rfl
    | o q => unfold ackv1 ack1; simp only [ackv0_eq]
    | i q => unfold ackv1 ack1; simp only [ackv0_eq]
  | i p => cases p with
    | h => rfl
    | o q => unfold ackv1 ack1; simp only [ackv0_eq]
    | i q => unfold ackv1 ack1; simp only [ackv0_eq]
noncomputable def ackv2 (p : Pos) : WK AV (L2 AV) :=
  Pos.rec (motive := fun _ => WK AV (L2 AV)) ⟨fun t k => Nd.rec (motive := fun _ => Ans) (fun a _ _ _ _ _ _ => Fd.rec (motive := fun _ => Ans) .no k a) t, fun x t k => Nd.rec (motive := fun _ => Ans) (fun _ b c d e f g => k (.mk (.is x) b c d e f g)) t, fun t k => Nd.rec (motive := fun _ => Ans) (fun a _ _ _ _ _ _ => Fd.rec (motive := fun _ => Ans) k (fun _ => .no) a) t⟩
    (fun p _ => Pos.rec (motive := fun _ => WK AV (L2 AV)) ⟨fun t k => Nd.rec (motive := fun _ => Ans) (fun _ b _ _ _ _ _ => Fd.rec (motive := fun _ => Ans) .no k b) t, fun x t k => Nd.rec (motive := fun _ => Ans) (fun a _ c d e f g => k (.mk a (.is x) c d e f g)) t, fun t k => Nd.rec (motive := fun _ => Ans) (fun _ b _ _ _ _ _ => Fd.rec (motive := fun _ => Ans) k (fun _ => .no) b) t⟩
      (fun q _ => ⟨fun t k => Nd.rec (motive := fun _ => Ans) (fun _ _ _ d _ _ _ => WK.rec (motive := fun _ => Ans) (fun get _ _ => get d k) (ackv1 q)) t, fun x t k => Nd.rec (motive := fun _ => Ans) (fun a b c d e f g => WK.rec (motive := fun _ => Ans) (fun _ set _ => set x d (fun y => k (.mk a b c y e f g))) (ackv1 q)) t, fun t k => Nd.rec (motive := fun _ => Ans) (fun _ _ _ d _ _ _ => WK.rec (motive := fun _ => Ans) (fun _ _ abs => abs d k) (ackv1 q)) t⟩)
      (fun q _ => ⟨fun t k => Nd.rec (motive := fun _ => Ans) (fun _ _ _ _ e _ _ => WK.rec (motive := fun _ => Ans) (fun get _ _ => get e k) (ackv1 q)) t, fun x t k => Nd.rec (motive := fun _ => Ans) (fun a b c d e f g => WK.rec (motive := fun _ => Ans) (fun _ set _ => set x e (fun y => k (.mk a b c d y f g))) (ackv1 q)) t, fun t k => Nd.rec (motive := fun _ => Ans) (fun _ _ _ _ e _ _ => WK.rec (motive := fun _ => Ans) (fun _ _ abs => abs e k) (ackv1 q)) t⟩) p)
    (fun p _ => Pos.rec (motive := fun _ => WK AV (L2 AV)) ⟨fun t k => Nd.rec (motive := fun _ => Ans) (fun _ _ c _ _ _ _ => Fd.rec (motive := fun _ => Ans) .no k c) t, fun x t k => Nd.rec (motive := fun _ => Ans) (fun a b _ d e f g => k (.mk a b (.is x) d e f g)) t, fun t k => Nd.rec (motive := fun _ => Ans) (fun _ _ c _ _ _ _ => Fd.rec (motive := fun _ => Ans) k (fun _ => .no) c) t⟩
      (fun q _ => ⟨fun t k => Nd.rec (motive := fun _ => Ans) (fun _ _ _ _ _ f _ => WK.rec (motive := fun _ => Ans) (fun get _ _ => get f k) (ackv1 q)) t, fun x t k => Nd.rec (motive := fun _ => Ans) (fun a b c d e f g => WK.rec (motive := fun _ => Ans) (fun _ set _ => set x f (fun y => k (.mk a b c d e y g))) (ackv1 q)) t, fun t k => Nd.rec (motive := fun _ => Ans) (fun _ _ _ _ _ f _ => WK.rec (motive := fun _ => Ans) (fun _ _ abs => abs f k) (ackv1 q)) t⟩)
      (fun q _ => ⟨fun t k => Nd.rec (motive := fun _ => Ans) (fun _ _ _ _ _ _ g => WK.rec (motive := fun _ => Ans) (fun get _ _ => get g k) (ackv1 q)) t, fun x t k => Nd.rec (motive := fun _ => Ans) (fun a b c d e f g => WK.rec (motive := fun _ => Ans) (fun _ set _ => set x g (fun y => k (.mk a b c d e f y))) (ackv1 q)) t, fun t k => Nd.rec (motive := fun _ => Ans) (fun _ _ _ _ _ _ g => WK.rec (motive := fun _ => Ans) (fun _ _ abs => abs g k) (ackv1 q)) t⟩) p) p
theorem ackv2_eq (p : Pos) : ackv2 p = ack2 p := by
  cases p with
  | h => rfl
  | o p => cases p with
    | h => rfl
    | o q => unfold ackv2 ack2; simp only [ackv1_eq]
    | i q => unfold ackv2 ack2; simp only [ackv1_eq]
  | i p => cases p with
    | h => rfl
    | o q => unfold ackv2 ack2; simp only [ackv1_eq]
    | i q => unfold ackv2 ack2; simp only [ackv1_eq]
noncomputable def ackv3 (p : Pos) : WK AV (L3 AV) :=
  Pos.rec (motive := fun _ => WK AV (L3 AV)) ⟨fun t k => Nd.rec (motive := fun _ => Ans) (fun a _ _ _ _ _ _ => Fd.rec (motive := fun _ => Ans) .no k a) t, fun x t k => Nd.rec (motive := fun _ => Ans) (fun _ b c d e f g => k (.mk (.is x) b c d e f g)) t, fun t k => Nd.rec (motive := fun _ => Ans) (fun a _ _ _ _ _ _ => Fd.rec (motive := fun _ => Ans) k (fun _ => .no) a) t⟩
    (fun p _ => Pos.rec (motive := fun _ => WK AV (L3 AV)) ⟨fun t k => Nd.rec (motive := fun _ => Ans) (fun _ b _ _ _ _ _ => Fd.rec (motive := fun _ => Ans) .no k b) t, fun x t k => Nd.rec (motive := fun _ => Ans) (fun a _ c d e f g => k (.mk a (.is x) c d e f g)) t, fun t k => Nd.rec (motive := fun _ => Ans) (fun _ b _ _ _ _ _ => Fd.rec (motive := fun _ => Ans) k (fun _ => .no) b) t⟩
      (fun q _ => ⟨fun t k => Nd.rec (motive := fun _ => Ans) (fun _ _ _ d _ _ _ => WK.rec (motive := fun _ => Ans) (fun get _ _ => get d k) (ackv2 q)) t, fun x t k => Nd.rec (motive := fun _ => Ans) (fun a b c d e f g => WK.rec (motive := fun _ => Ans) (fun _ set _ => set x d (fun y => k (.mk a b c y e f g))) (ackv2 q)) t, fun t k => Nd.rec (motive := fun _ => Ans) (fun _ _ _ d _ _ _ => WK.rec (motive := fun _ => Ans) (fun _ _ abs => abs d k) (ackv2 q)) t⟩)
      (fun q _ => ⟨fun t k => Nd.rec (motive := fun _ => Ans) (fun _ _ _ _ e _ _ => WK.rec (motive := fun _ => Ans) (fun get _ _ => get e k) (ackv2 q)) t, fun x t k => Nd.rec (motive := fun _ => Ans) (fun a b c d e f g => WK.rec (motive := fun _ => Ans) (fun _ set _ => set x e (fun y => k (.mk a b c d y f g))) (ackv2 q)) t, fun t k => Nd.rec (motive := fun _ => Ans) (fun _ _ _ _ e _ _ => WK.rec (motive := fun _ => Ans) (fun _ _ abs => abs e k) (ackv2 q)) t⟩) p)
    (fun p _ => Pos.rec (motive := fun _ => WK AV (L3 AV)) ⟨fun t k => Nd.rec (motive := fun _ => Ans) (fun _ _ c _ _ _ _ => Fd.rec (motive := fun _ => Ans) .no k c) t, fun x t k => Nd.rec (motive := fun _ => Ans) (fun a b _ d e f g => k (.mk a b (.is x) d e f g)) t, fun t k => Nd.rec (motive := fun _ => Ans) (fun _ _ c _ _ _ _ => Fd.rec (motive := fun _ => Ans) k (fun _ => .no) c) t⟩
      (fun q _ => ⟨fun t k => Nd.rec (motive := fun _ => Ans) (fun _ _ _ _ _ f _ => WK.rec (motive := fun _ => Ans) (fun get _ _ => get f k) (ackv2 q)) t, fun x t k => Nd.rec (motive := fun _ => Ans) (fun a b c d e f g => WK.rec (motive := fun _ => Ans) (fun _ set _ => set x f (fun y => k (.mk a b c d e y g))) (ackv2 q)) t, fun t k => Nd.rec (motive := fun _ => Ans) (fun _ _ _ _ _ f _ => WK.rec (motive := fun _ => Ans) (fun _ _ abs => abs f k) (ackv2 q)) t⟩)
      (fun q _ => ⟨fun t k => Nd.rec (motive := fun _ => Ans) (fun _ _ _ _ _ _ g => WK.rec (motive := fun _ => Ans) (fun get _ _ => get g k) (ackv2 q)) t, fun x t k => Nd.rec (motive := fun _ => Ans) (fun a b c d e f g => WK.rec (motive := fun _ => Ans) (fun _ set _ => set x g (fun y => k (.mk a b c d e f y))) (ackv2 q)) t, fun t k => Nd.rec (motive := fun _ => Ans) (fun _ _ _ _ _ _ g => WK.rec (motive := fun _ => Ans) (fun _ _ abs => abs g k) (ackv2 q)) t⟩) p) p
theorem ackv3_eq (p : Pos) : ackv3 p = ack3 p := by
  cases p with
  | h => rfl
  | o p => cases p with
    | h => rfl
    | o q => unfold ackv3 ack3; simp only [ackv2_eq]
    | i q => unfold ackv3 ack3; simp only [ackv2_eq]
  | i p => cases p with
    | h => rfl
    | o q => unfold ackv3 ack3; simp only [ackv2_eq]
    | i q => unfold ackv3 ack3; simp only [ackv2_eq]
noncomputable def ackv4 (p : Pos) : WK AV (L4 AV) :=
  Pos.rec (motive := fun _ => WK AV (L4 AV)) ⟨fun t k => Nd.rec (motive := fun _ => Ans) (fun a _ _ _ _ _ _ => Fd.rec (motive := fun _ => Ans) .no k a) t, fun x t k => Nd.rec (motive := fun _ => Ans) (fun _ b c d e f g => k (.mk (.is x) b c d e f g)) t, fun t k => Nd.rec (motive := fun _ => Ans) (fun a _ _ _ _ _ _ => Fd.rec (motive := fun _ => Ans) k (fun _ => .no) a) t⟩
    (fun p _ => Pos.rec (motive := fun _ => WK AV (L4 AV)) ⟨fun t k => Nd.rec (motive := fun _ => Ans) (fun _ b _ _ _ _ _ => Fd.rec (motive := fun _ => Ans) .no k b) t, fun x t k => Nd.rec (motive := fun _ => Ans) (fun a _ c d e f g => k (.mk a (.is x) c d e f g)) t, fun t k => Nd.rec (motive := fun _ => Ans) (fun _ b _ _ _ _ _ => Fd.rec (motive := fun _ => Ans) k (fun _ => .no) b) t⟩
      (fun q _ => ⟨fun t k => Nd.rec (motive := fun _ => Ans) (fun _ _ _ d _ _ _ => WK.rec (motive := fun _ => Ans) (fun get _ _ => get d k) (ackv3 q)) t, fun x t k => Nd.rec (motive := fun _ => Ans) (fun a b c d e f g => WK.rec (motive := fun _ => Ans) (fun _ set _ => set x d (fun y => k (.mk a b c y e f g))) (ackv3 q)) t, fun t k => Nd.rec (motive := fun _ => Ans) (fun _ _ _ d _ _ _ => WK.rec (motive := fun _ => Ans) (fun _ _ abs => abs d k) (ackv3 q)) t⟩)
      (fun q _ => ⟨fun t k => Nd.rec (motive := fun _ => Ans) (fun _ _ _ _ e _ _ => WK.rec (motive := fun _ => Ans) (fun get _ _ => get e k) (ackv3 q)) t, fun x t k => Nd.rec (motive := fun _ => Ans) (fun a b c d e f g => WK.rec (motive := fun _ => Ans) (fun _ set _ => set x e (fun y => k (.mk a b c d y f g))) (ackv3 q)) t, fun t k => Nd.rec (motive := fun _ => Ans) (fun _ _ _ _ e _ _ => WK.rec (motive := fun _ => Ans) (fun _ _ abs => abs e k) (ackv3 q)) t⟩) p)
    (fun p _ => Pos.rec (motive := fun _ => WK AV (L4 AV)) ⟨fun t k => Nd.rec (motive := fun _ => Ans) (fun _ _ c _ _ _ _ => Fd.rec (motive := fun _ => Ans) .no k c) t, fun x t k => Nd.rec (motive := fun _ => Ans) (fun a b _ d e f g => k (.mk a b (.is x) d e f g)) t, fun t k => Nd.rec (motive := fun _ => Ans) (fun _ _ c _ _ _ _ => Fd.rec (motive := fun _ => Ans) k (fun _ => .no) c) t⟩
      (fun q _ => ⟨fun t k => Nd.rec (motive := fun _ => Ans) (fun _ _ _ _ _ f _ => WK.rec (motive := fun _ => Ans) (fun get _ _ => get f k) (ackv3 q)) t, fun x t k => Nd.rec (motive := fun _ => Ans) (fun a b c d e f g => WK.rec (motive := fun _ => Ans) (fun _ set _ => set x f (fun y => k (.mk a b c d e y g))) (ackv3 q)) t, fun t k => Nd.rec (motive := fun _ => Ans) (fun _ _ _ _ _ f _ => WK.rec (motive := fun _ => Ans) (fun _ _ abs => abs f k) (ackv3 q)) t⟩)
      (fun q _ => ⟨fun t k => Nd.rec (motive := fun _ => Ans) (fun _ _ _ _ _ _ g => WK.rec (motive := fun _ => Ans) (fun get _ _ => get g k) (ackv3 q)) t, fun x t k => Nd.rec (motive := fun _ => Ans) (fun a b c d e f g => WK.rec (motive := fun _ => Ans) (fun _ set _ => set x g (fun y => k (.mk a b c d e f y))) (ackv3 q)) t, fun t k => Nd.rec (motive := fun _ => Ans) (fun _ _ _ _ _ _ g => WK.rec (motive := fun _ => Ans) (fun _ _ abs => abs g k) (ackv3 q)) t⟩) p) p
theorem ackv4_eq (p : Pos) : ackv4 p = ack4 p := by
  cases p with
  | h => rfl
  | o p => cases p with
    | h => rfl
    | o q => unfold ackv4 ack4; simp only [ackv3_eq]
    | i q => unfold ackv4 ack4; simp only [ackv3_eq]
  | i p => cases p with
    | h => rfl
    | o q => unfold ackv4 ack4; simp only [ackv3_eq]
    | i q => unfold ackv4 ack4; simp only [ackv3_eq]
noncomputable def ackv5 (p : Pos) : WK AV (L5 AV) :=
  Pos.rec (motive := fun _ => WK AV (L5 AV)) ⟨fun t k => Nd.rec (motive := fun _ => Ans) (fun a _ _ _ _ _ _ => Fd.rec (motive := fun _ => Ans) .no k a) t, fun x t k => Nd.rec (motive := fun _ => Ans) (fun _ b c d e f g => k (.mk (.is x) b c d e f g)) t, fun t k => Nd.rec (motive := fun _ => Ans) (fun a _ _ _ _ _ _ => Fd.rec (motive := fun _ => Ans) k (fun _ => .no) a) t⟩
    (fun p _ => Pos.rec (motive := fun _ => WK AV (L5 AV)) ⟨fun t k => Nd.rec (motive := fun _ => Ans) (fun _ b _ _ _ _ _ => Fd.rec (motive := fun _ => Ans) .no k b) t, fun x t k => Nd.rec (motive := fun _ => Ans) (fun a _ c d e f g => k (.mk a (.is x) c d e f g)) t, fun t k => Nd.rec (motive := fun _ => Ans) (fun _ b _ _ _ _ _ => Fd.rec (motive := fun _ => Ans) k (fun _ => .no) b) t⟩
      (fun q _ => ⟨fun t k => Nd.rec (motive := fun _ => Ans) (fun _ _ _ d _ _ _ => WK.rec (motive := fun _ => Ans) (fun get _ _ => get d k) (ackv4 q)) t, fun x t k => Nd.rec (motive := fun _ => Ans) (fun a b c d e f g => WK.rec (motive := fun _ => Ans) (fun _ set _ => set x d (fun y => k (.mk a b c y e f g))) (ackv4 q)) t, fun t k => Nd.rec (motive := fun _ => Ans) (fun _ _ _ d _ _ _ => WK.rec (motive := fun _ => Ans) (fun _ _ abs => abs d k) (ackv4 q)) t⟩)
      (fun q _ => ⟨fun t k => Nd.rec (motive := fun _ => Ans) (fun _ _ _ _ e _ _ => WK.rec (motive := fun _ => Ans) (fun get _ _ => get e k) (ackv4 q)) t, fun x t k => Nd.rec (motive := fun _ => Ans) (fun a b c d e f g => WK.rec (motive := fun _ => Ans) (fun _ set _ => set x e (fun y => k (.mk a b c d y f g))) (ackv4 q)) t, fun t k => Nd.rec (motive := fun _ => Ans) (fun _ _ _ _ e _ _ => WK.rec (motive := fun _ => Ans) (fun _ _ abs => abs e k) (ackv4 q)) t⟩) p)
    (fun p _ => Pos.rec (motive := fun _ => WK AV (L5 AV)) ⟨fun t k => Nd.rec (motive := fun _ => Ans) (fun _ _ c _ _ _ _ => Fd.rec (motive := fun _ => Ans) .no k c) t, fun x t k => Nd.rec (motive := fun _ => Ans) (fun a b _ d e f g => k (.mk a b (.is x) d e f g)) t, fun t k => Nd.rec (motive := fun _ => Ans) (fun _ _ c _ _ _ _ => Fd.rec (motive := fun _ => Ans) k (fun _ => .no) c) t⟩
      (fun q _ => ⟨fun t k => Nd.rec (motive := fun _ => Ans) (fun _ _ _ _ _ f _ => WK.rec (motive := fun _ => Ans) (fun get _ _ => get f k) (ackv4 q)) t, fun x t k => Nd.rec (motive := fun _ => Ans) (fun a b c d e f g => WK.rec (motive := fun _ => Ans) (fun _ set _ => set x f (fun y => k (.mk a b c d e y g))) (ackv4 q)) t, fun t k => Nd.rec (motive := fun _ => Ans) (fun _ _ _ _ _ f _ => WK.rec (motive := fun _ => Ans) (fun _ _ abs => abs f k) (ackv4 q)) t⟩)
      (fun q _ => ⟨fun t k => Nd.rec (motive := fun _ => Ans) (fun _ _ _ _ _ _ g => WK.rec (motive := fun _ => Ans) (fun get _ _ => get g k) (ackv4 q)) t, fun x t k => Nd.rec (motive := fun _ => Ans) (fun a b c d e f g => WK.rec (motive := fun _ => Ans) (fun _ set _ => set x g (fun y => k (.mk a b c d e f y))) (ackv4 q)) t, fun t k => Nd.rec (motive := fun _ => Ans) (fun _ _ _ _ _ _ g => WK.rec (motive := fun _ => Ans) (fun _ _ abs => abs g k) (ackv4 q)) t⟩) p) p
theorem ackv5_eq (p : Pos) : ackv5 p = ack5 p := by
  cases p with
  | h => rfl
  | o p => cases p with
    | h => rfl
    | o q => unfold ackv5 ack5; simp only [ackv4_eq]
    | i q => unfold ackv5 ack5; simp only [ackv4_eq]
  | i p => cases p with
    | h => rfl
    | o q => unfold ackv5 ack5; simp only [ackv4_eq]
    | i q => unfold ackv5 ack5; simp only [ackv4_eq]
noncomputable def ackv6 (p : Pos) : WK AV (L6 AV) :=
  Pos.rec (motive := fun _ => WK AV (L6 AV)) ⟨fun t k => Nd.rec (motive := fun _ => Ans) (fun a _ _ _ _ _ _ => Fd.rec (motive := fun _ => Ans) .no k a) t, fun x t k => Nd.rec (motive := fun _ => Ans) (fun _ b c d e f g => k (.mk (.is x) b c d e f g)) t, fun t k => Nd.rec (motive := fun _ => Ans) (fun a _ _ _ _ _ _ => Fd.rec (motive := fun _ => Ans) k (fun _ => .no) a) t⟩
    (fun p _ => Pos.rec (motive := fun _ => WK AV (L6 AV)) ⟨fun t k => Nd.rec (motive := fun _ => Ans) (fun _ b _ _ _ _ _ => Fd.rec (motive := fun _ => Ans) .no k b) t, fun x t k => Nd.rec (motive := fun _ => Ans) (fun a _ c d e f g => k (.mk a (.is x) c d e f g)) t, fun t k => Nd.rec (motive := fun _ => Ans) (fun _ b _ _ _ _ _ => Fd.rec (motive := fun _ => Ans) k (fun _ => .no) b) t⟩
      (fun q _ => ⟨fun t k => Nd.rec (motive := fun _ => Ans) (fun _ _ _ d _ _ _ => WK.rec (motive := fun _ => Ans) (fun get _ _ => get d k) (ackv5 q)) t, fun x t k => Nd.rec (motive := fun _ => Ans) (fun a b c d e f g => WK.rec (motive := fun _ => Ans) (fun _ set _ => set x d (fun y => k (.mk a b c y e f g))) (ackv5 q)) t, fun t k => Nd.rec (motive := fun _ => Ans) (fun _ _ _ d _ _ _ => WK.rec (motive := fun _ => Ans) (fun _ _ abs => abs d k) (ackv5 q)) t⟩)
      (fun q _ => ⟨fun t k => Nd.rec (motive := fun _ => Ans) (fun _ _ _ _ e _ _ => WK.rec (motive := fun _ => Ans) (fun get _ _ => get e k) (ackv5 q)) t, fun x t k => Nd.rec (motive := fun _ => Ans) (fun a b c d e f g => WK.rec (motive := fun _ => Ans) (fun _ set _ => set x e (fun y => k (.mk a b c d y f g))) (ackv5 q)) t, fun t k => Nd.rec (motive := fun _ => Ans) (fun _ _ _ _ e _ _ => WK.rec (motive := fun _ => Ans) (fun _ _ abs => abs e k) (ackv5 q)) t⟩) p)
    (fun p _ => Pos.rec (motive := fun _ => WK AV (L6 AV)) ⟨fun t k => Nd.rec (motive := fun _ => Ans) (fun _ _ c _ _ _ _ => Fd.rec (motive := fun _ => Ans) .no k c) t, fun x t k => Nd.rec (motive := fun _ => Ans) (fun a b _ d e f g => k (.mk a b (.is x) d e f g)) t, fun t k => Nd.rec (motive := fun _ => Ans) (fun _ _ c _ _ _ _ => Fd.rec (motive := fun _ => Ans) k (fun _ => .no) c) t⟩
      (fun q _ => ⟨fun t k => Nd.rec (motive := fun _ => Ans) (fun _ _ _ _ _ f _ => WK.rec (motive := fun _ => Ans) (fun get _ _ => get f k) (ackv5 q)) t, fun x t k => Nd.rec (motive := fun _ => Ans) (fun a b c d e f g => WK.rec (motive := fun _ => Ans) (fun _ set _ => set x f (fun y => k (.mk a b c d e y g))) (ackv5 q)) t, fun t k => Nd.rec (motive := fun _ => Ans) (fun _ _ _ _ _ f _ => WK.rec (motive := fun _ => Ans) (fun _ _ abs => abs f k) (ackv5 q)) t⟩)
      (fun q _ => ⟨fun t k => Nd.rec (motive := fun _ => Ans) (fun _ _ _ _ _ _ g => WK.rec (motive := fun _ => Ans) (fun get _ _ => get g k) (ackv5 q)) t, fun x t k => Nd.rec (motive := fun _ => Ans) (fun a b c d e f g => WK.rec (motive := fun _ => Ans) (fun _ set _ => set x g (fun y => k (.mk a b c d e f y))) (ackv5 q)) t, fun t k => Nd.rec (motive := fun _ => Ans) (fun _ _ _ _ _ _ g => WK.rec (motive := fun _ => Ans) (fun _ _ abs => abs g k) (ackv5 q)) t⟩) p) p
theorem ackv6_eq (p : Pos) : ackv6 p = ack6 p := by
  cases p with
  | h => rfl
  | o p => cases p with
    | h => rfl
    | o q => unfold ackv6 ack6; simp only [ackv5_eq]
    | i q => unfold ackv6 ack6; simp only [ackv5_eq]
  | i p => cases p with
    | h => rfl
    | o q => unfold ackv6 ack6; simp only [ackv5_eq]
    | i q => unfold ackv6 ack6; simp only [ackv5_eq]
noncomputable def ackv7 (p : Pos) : WK AV (L7 AV) :=
  Pos.rec (motive := fun _ => WK AV (L7 AV)) ⟨fun t k => Nd.rec (motive := fun _ => Ans) (fun a _ _ _ _ _ _ => Fd.rec (motive := fun _ => Ans) .no k a) t, fun x t k => Nd.rec (motive := fun _ => Ans) (fun _ b c d e f g => k (.mk (.is x) b c d e f g)) t, fun t k => Nd.rec (motive := fun _ => Ans) (fun a _ _ _ _ _ _ => Fd.rec (motive := fun _ => Ans) k (fun _ => .no) a) t⟩
    (fun p _ => Pos.rec (motive := fun _ => WK AV (L7 AV)) ⟨fun t k => Nd.rec (motive := fun _ => Ans) (fun _ b _ _ _ _ _ => Fd.rec (motive := fun _ => Ans) .no k b) t, fun x t k => Nd.rec (motive := fun _ => Ans) (fun a _ c d e f g => k (.mk a (.is x) c d e f g)) t, fun t k => Nd.rec (motive := fun _ => Ans) (fun _ b _ _ _ _ _ => Fd.rec (motive := fun _ => Ans) k (fun _ => .no) b) t⟩
      (fun q _ => ⟨fun t k => Nd.rec (motive := fun _ => Ans) (fun _ _ _ d _ _ _ => WK.rec (motive := fun _ => Ans) (fun get _ _ => get d k) (ackv6 q)) t, fun x t k => Nd.rec (motive := fun _ => Ans) (fun a b c d e f g => WK.rec (motive := fun _ => Ans) (fun _ set _ => set x d (fun y => k (.mk a b c y e f g))) (ackv6 q)) t, fun t k => Nd.rec (motive := fun _ => Ans) (fun _ _ _ d _ _ _ => WK.rec (motive := fun _ => Ans) (fun _ _ abs => abs d k) (ackv6 q)) t⟩)
      (fun q _ => ⟨fun t k => Nd.rec (motive := fun _ => Ans) (fun _ _ _ _ e _ _ => WK.rec (motive := fun _ => Ans) (fun get _ _ => get e k) (ackv6 q)) t, fun x t k => Nd.rec (motive := fun _ => Ans) (fun a b c d e f g => WK.rec (motive := fun _ => Ans) (fun _ set _ => set x e (fun y => k (.mk a b c d y f g))) (ackv6 q)) t, fun t k => Nd.rec (motive := fun _ => Ans) (fun _ _ _ _ e _ _ => WK.rec (motive := fun _ => Ans) (fun _ _ abs => abs e k) (ackv6 q)) t⟩) p)
    (fun p _ => Pos.rec (motive := fun _ => WK AV (L7 AV)) ⟨fun t k => Nd.rec (motive := fun _ => Ans) (fun _ _ c _ _ _ _ => Fd.rec (motive := fun _ => Ans) .no k c) t, fun x t k => Nd.rec (motive := fun _ => Ans) (fun a b _ d e f g => k (.mk a b (.is x) d e f g)) t, fun t k => Nd.rec (motive := fun _ => Ans) (fun _ _ c _ _ _ _ => Fd.rec (motive := fun _ => Ans) k (fun _ => .no) c) t⟩
      (fun q _ => ⟨fun t k => Nd.rec (motive := fun _ => Ans) (fun _ _ _ _ _ f _ => WK.rec (motive := fun _ => Ans) (fun get _ _ => get f k) (ackv6 q)) t, fun x t k => Nd.rec (motive := fun _ => Ans) (fun a b c d e f g => WK.rec (motive := fun _ => Ans) (fun _ set _ => set x f (fun y => k (.mk a b c d e y g))) (ackv6 q)) t, fun t k => Nd.rec (motive := fun _ => Ans) (fun _ _ _ _ _ f _ => WK.rec (motive := fun _ => Ans) (fun _ _ abs => abs f k) (ackv6 q)) t⟩)
      (fun q _ => ⟨fun t k => Nd.rec (motive := fun _ => Ans) (fun _ _ _ _ _ _ g => WK.rec (motive := fun _ => Ans) (fun get _ _ => get g k) (ackv6 q)) t, fun x t k => Nd.rec (motive := fun _ => Ans) (fun a b c d e f g => WK.rec (motive := fun _ => Ans) (fun _ set _ => set x g (fun y => k (.mk a b c d e f y))) (ackv6 q)) t, fun t k => Nd.rec (motive := fun _ => Ans) (fun _ _ _ _ _ _ g => WK.rec (motive := fun _ => Ans) (fun _ _ abs => abs g k) (ackv6 q)) t⟩) p) p
theorem ackv7_eq (p : Pos) : ackv7 p = ack7 p := by
  cases p with
  | h => rfl
  | o p => cases p with
    | h => rfl
    | o q => unfold ackv7 ack7; simp only [ackv6_eq]
    | i q => unfold ackv7 ack7; simp only [ackv6_eq]
  | i p => cases p with
    | h => rfl
    | o q => unfold ackv7 ack7; simp only [ackv6_eq]
    | i q => unfold ackv7 ack7; simp only [ackv6_eq]
noncomputable def ackv8 (p : Pos) : WK AV (L8 AV) :=
  Pos.rec (motive := fun _ => WK AV (L8 AV)) ⟨fun t k => Nd.rec (motive := fun _ => Ans) (fun a _ _ _ _ _ _ => Fd.rec (motive := fun _ => Ans) .no k a) t, fun x t k => Nd.rec (motive := fun _ => Ans) (fun _ b c d e f g => k (.mk (.is x) b c d e f g)) t, fun t k => Nd.rec (motive := fun _ => Ans) (fun a _ _ _ _ _ _ => Fd.rec (motive := fun _ => Ans) k (fun _ => .no) a) t⟩
    (fun p _ => Pos.rec (motive := fun _ => WK AV (L8 AV)) ⟨fun t k => Nd.rec (motive := fun _ => Ans) (fun _ b _ _ _ _ _ => Fd.rec (motive := fun _ => Ans) .no k b) t, fun x t k => Nd.rec (motive := fun _ => Ans) (fun a _ c d e f g => k (.mk a (.is x) c d e f g)) t, fun t k => Nd.rec (motive := fun _ => Ans) (fun _ b _ _ _ _ _ => Fd.rec (motive := fun _ => Ans) k (fun _ => .no) b) t⟩
      (fun q _ => ⟨fun t k => Nd.rec (motive := fun _ => Ans) (fun _ _ _ d _ _ _ => WK.rec (motive := fun _ => Ans) (fun get _ _ => get d k) (ackv7 q)) t, fun x t k => Nd.rec (motive := fun _ => Ans) (fun a b c d e f g => WK.rec (motive := fun _ => Ans) (fun _ set _ => set x d (fun y => k (.mk a b c y e f g))) (ackv7 q)) t, fun t k => Nd.rec (motive := fun _ => Ans) (fun _ _ _ d _ _ _ => WK.rec (motive := fun _ => Ans) (fun _ _ abs => abs d k) (ackv7 q)) t⟩)
      (fun q _ => ⟨fun t k => Nd.rec (motive := fun _ => Ans) (fun _ _ _ _ e _ _ => WK.rec (motive := fun _ => Ans) (fun get _ _ => get e k) (ackv7 q)) t, fun x t k => Nd.rec (motive := fun _ => Ans) (fun a b c d e f g => WK.rec (motive := fun _ => Ans) (fun _ set _ => set x e (fun y => k (.mk a b c d y f g))) (ackv7 q)) t, fun t k => Nd.rec (motive := fun _ => Ans) (fun _ _ _ _ e _ _ => WK.rec (motive := fun _ => Ans) (fun _ _ abs => abs e k) (ackv7 q)) t⟩) p)
    (fun p _ => Pos.rec (motive := fun _ => WK AV (L8 AV)) ⟨fun t k => Nd.rec (motive := fun _ => Ans) (fun _ _ c _ _ _ _ => Fd.rec (motive := fun _ => Ans) .no k c) t, fun x t k => Nd.rec (motive := fun _ => Ans) (fun a b _ d e f g => k (.mk a b (.is x) d e f g)) t, fun t k => Nd.rec (motive := fun _ => Ans) (fun _ _ c _ _ _ _ => Fd.rec (motive := fun _ => Ans) k (fun _ => .no) c) t⟩
      (fun q _ => ⟨fun t k => Nd.rec (motive := fun _ => Ans) (fun _ _ _ _ _ f _ => WK.rec (motive := fun _ => Ans) (fun get _ _ => get f k) (ackv7 q)) t, fun x t k => Nd.rec (motive := fun _ => Ans) (fun a b c d e f g => WK.rec (motive := fun _ => Ans) (fun _ set _ => set x f (fun y => k (.mk a b c d e y g))) (ackv7 q)) t, fun t k => Nd.rec (motive := fun _ => Ans) (fun _ _ _ _ _ f _ => WK.rec (motive := fun _ => Ans) (fun _ _ abs => abs f k) (ackv7 q)) t⟩)
      (fun q _ => ⟨fun t k => Nd.rec (motive := fun _ => Ans) (fun _ _ _ _ _ _ g => WK.rec (motive := fun _ => Ans) (fun get _ _ => get g k) (ackv7 q)) t, fun x t k => Nd.rec (motive := fun _ => Ans) (fun a b c d e f g => WK.rec (motive := fun _ => Ans) (fun _ set _ => set x g (fun y => k (.mk a b c d e f y))) (ackv7 q)) t, fun t k => Nd.rec (motive := fun _ => Ans) (fun _ _ _ _ _ _ g => WK.rec (motive := fun _ => Ans) (fun _ _ abs => abs g k) (ackv7 q)) t⟩) p) p
theorem ackv8_eq (p : Pos) : ackv8 p = ack8 p := by
  cases p with
  | h => rfl
  | o p => cases p with
    | h => rfl
    | o q => unfold ackv8 ack8; simp only [ackv7_eq]
    | i q => unfold ackv8 ack8; simp only [ackv7_eq]
  | i p => cases p with
    | h => rfl
    | o q => unfold ackv8 ack8; simp only [ackv7_eq]
    | i q => unfold ackv8 ack8; simp only [ackv7_eq]
noncomputable def ackv9 (p : Pos) : WK AV (L9 AV) :=
  Pos.rec (motive := fun _ => WK AV (L9 AV)) ⟨fun t k => Nd.rec (motive := fun _ => Ans) (fun a _ _ _ _ _ _ => Fd.rec (motive := fun _ => Ans) .no k a) t, fun x t k => Nd.rec (motive := fun _ => Ans) (fun _ b c d e f g => k (.mk (.is x) b c d e f g)) t, fun t k => Nd.rec (motive := fun _ => Ans) (fun a _ _ _ _ _ _ => Fd.rec (motive := fun _ => Ans) k (fun _ => .no) a) t⟩
    (fun p _ => Pos.rec (motive := fun _ => WK AV (L9 AV)) ⟨fun t k => Nd.rec (motive := fun _ => Ans) (fun _ b _ _ _ _ _ => Fd.rec (motive := fun _ => Ans) .no k b) t, fun x t k => Nd.rec (motive := fun _ => Ans) (fun a _ c d e f g => k (.mk a (.is x) c d e f g)) t, fun t k => Nd.rec (motive := fun _ => Ans) (fun _ b _ _ _ _ _ => Fd.rec (motive := fun _ => Ans) k (fun _ => .no) b) t⟩
      (fun q _ => ⟨fun t k => Nd.rec (motive := fun _ => Ans) (fun _ _ _ d _ _ _ => WK.rec (motive := fun _ => Ans) (fun get _ _ => get d k) (ackv8 q)) t, fun x t k => Nd.rec (motive := fun _ => Ans) (fun a b c d e f g => WK.rec (motive := fun _ => Ans) (fun _ set _ => set x d (fun y => k (.mk a b c y e f g))) (ackv8 q)) t, fun t k => Nd.rec (motive := fun _ => Ans) (fun _ _ _ d _ _ _ => WK.rec (motive := fun _ => Ans) (fun _ _ abs => abs d k) (ackv8 q)) t⟩)
      (fun q _ => ⟨fun t k => Nd.rec (motive := fun _ => Ans) (fun _ _ _ _ e _ _ => WK.rec (motive := fun _ => Ans) (fun get _ _ => get e k) (ackv8 q)) t, fun x t k => Nd.rec (motive := fun _ => Ans) (fun a b c d e f g => WK.rec (motive := fun _ => Ans) (fun _ set _ => set x e (fun y => k (.mk a b c d y f g))) (ackv8 q)) t, fun t k => Nd.rec (motive := fun _ => Ans) (fun _ _ _ _ e _ _ => WK.rec (motive := fun _ => Ans) (fun _ _ abs => abs e k) (ackv8 q)) t⟩) p)
    (fun p _ => Pos.rec (motive := fun _ => WK AV (L9 AV)) ⟨fun t k => Nd.rec (motive := fun _ => Ans) (fun _ _ c _ _ _ _ => Fd.rec (motive := fun _ => Ans) .no k c) t, fun x t k => Nd.rec (motive := fun _ => Ans) (fun a b _ d e f g => k (.mk a b (.is x) d e f g)) t, fun t k => Nd.rec (motive := fun _ => Ans) (fun _ _ c _ _ _ _ => Fd.rec (motive := fun _ => Ans) k (fun _ => .no) c) t⟩
      (fun q _ => ⟨fun t k => Nd.rec (motive := fun _ => Ans) (fun _ _ _ _ _ f _ => WK.rec (motive := fun _ => Ans) (fun get _ _ => get f k) (ackv8 q)) t, fun x t k => Nd.rec (motive := fun _ => Ans) (fun a b c d e f g => WK.rec (motive := fun _ => Ans) (fun _ set _ => set x f (fun y => k (.mk a b c d e y g))) (ackv8 q)) t, fun t k => Nd.rec (motive := fun _ => Ans) (fun _ _ _ _ _ f _ => WK.rec (motive := fun _ => Ans) (fun _ _ abs => abs f k) (ackv8 q)) t⟩)
      (fun q _ => ⟨fun t k => Nd.rec (motive := fun _ => Ans) (fun _ _ _ _ _ _ g => WK.rec (motive := fun _ => Ans) (fun get _ _ => get g k) (ackv8 q)) t, fun x t k => Nd.rec (motive := fun _ => Ans) (fun a b c d e f g => WK.rec (motive := fun _ => Ans) (fun _ set _ => set x g (fun y => k (.mk a b c d e f y))) (ackv8 q)) t, fun t k => Nd.rec (motive := fun _ => Ans) (fun _ _ _ _ _ _ g => WK.rec (motive := fun _ => Ans) (fun _ _ abs => abs g k) (ackv8 q)) t⟩) p) p
theorem ackv9_eq (p : Pos) : ackv9 p = ack9 p := by
  cases p with
  | h => rfl
  | o p => cases p with
    | h => rfl
    | o q => unfold ackv9 ack9; simp only [ackv8_eq]
    | i q => unfold ackv9 ack9; simp only [ackv8_eq]
  | i p => cases p with
    | h => rfl
    | o q => unfold ackv9 ack9; simp only [ackv8_eq]
    | i q => unfold ackv9 ack9; simp only [ackv8_eq]
noncomputable def ackv10 (p : Pos) : WK AV (L10 AV) :=
  Pos.rec (motive := fun _ => WK AV (L10 AV)) ⟨fun t k => Nd.rec (motive := fun _ => Ans) (fun a _ _ _ _ _ _ => Fd.rec (motive := fun _ => Ans) .no k a) t, fun x t k => Nd.rec (motive := fun _ => Ans) (fun _ b c d e f g => k (.mk (.is x) b c d e f g)) t, fun t k => Nd.rec (motive := fun _ => Ans) (fun a _ _ _ _ _ _ => Fd.rec (motive := fun _ => Ans) k (fun _ => .no) a) t⟩
    (fun p _ => Pos.rec (motive := fun _ => WK AV (L10 AV)) ⟨fun t k => Nd.rec (motive := fun _ => Ans) (fun _ b _ _ _ _ _ => Fd.rec (motive := fun _ => Ans) .no k b) t, fun x t k => Nd.rec (motive := fun _ => Ans) (fun a _ c d e f g => k (.mk a (.is x) c d e f g)) t, fun t k => Nd.rec (motive := fun _ => Ans) (fun _ b _ _ _ _ _ => Fd.rec (motive := fun _ => Ans) k (fun _ => .no) b) t⟩
      (fun q _ => ⟨fun t k => Nd.rec (motive := fun _ => Ans) (fun _ _ _ d _ _ _ => WK.rec (motive := fun _ => Ans) (fun get _ _ => get d k) (ackv9 q)) t, fun x t k => Nd.rec (motive := fun _ => Ans) (fun a b c d e f g => WK.rec (motive := fun _ => Ans) (fun _ set _ => set x d (fun y => k (.mk a b c y e f g))) (ackv9 q)) t, fun t k => Nd.rec (motive := fun _ => Ans) (fun _ _ _ d _ _ _ => WK.rec (motive := fun _ => Ans) (fun _ _ abs => abs d k) (ackv9 q)) t⟩)
      (fun q _ => ⟨fun t k => Nd.rec (motive := fun _ => Ans) (fun _ _ _ _ e _ _ => WK.rec (motive := fun _ => Ans) (fun get _ _ => get e k) (ackv9 q)) t, fun x t k => Nd.rec (motive := fun _ => Ans) (fun a b c d e f g => WK.rec (motive := fun _ => Ans) (fun _ set _ => set x e (fun y => k (.mk a b c d y f g))) (ackv9 q)) t, fun t k => Nd.rec (motive := fun _ => Ans) (fun _ _ _ _ e _ _ => WK.rec (motive := fun _ => Ans) (fun _ _ abs => abs e k) (ackv9 q)) t⟩) p)
    (fun p _ => Pos.rec (motive := fun _ => WK AV (L10 AV)) ⟨fun t k => Nd.rec (motive := fun _ => Ans) (fun _ _ c _ _ _ _ => Fd.rec (motive := fun _ => Ans) .no k c) t, fun x t k => Nd.rec (motive := fun _ => Ans) (fun a b _ d e f g => k (.mk a b (.is x) d e f g)) t, fun t k => Nd.rec (motive := fun _ => Ans) (fun _ _ c _ _ _ _ => Fd.rec (motive := fun _ => Ans) k (fun _ => .no) c) t⟩
      (fun q _ => ⟨fun t k => Nd.rec (motive := fun _ => Ans) (fun _ _ _ _ _ f _ => WK.rec (motive := fun _ => Ans) (fun get _ _ => get f k) (ackv9 q)) t, fun x t k => Nd.rec (motive := fun _ => Ans) (fun a b c d e f g => WK.rec (motive := fun _ => Ans) (fun _ set _ => set x f (fun y => k (.mk a b c d e y g))) (ackv9 q)) t, fun t k => Nd.rec (motive := fun _ => Ans) (fun _ _ _ _ _ f _ => WK.rec (motive := fun _ => Ans) (fun _ _ abs => abs f k) (ackv9 q)) t⟩)
      (fun q _ => ⟨fun t k => Nd.rec (motive := fun _ => Ans) (fun _ _ _ _ _ _ g => WK.rec (motive := fun _ => Ans) (fun get _ _ => get g k) (ackv9 q)) t, fun x t k => Nd.rec (motive := fun _ => Ans) (fun a b c d e f g => WK.rec (motive := fun _ => Ans) (fun _ set _ => set x g (fun y => k (.mk a b c d e f y))) (ackv9 q)) t, fun t k => Nd.rec (motive := fun _ => Ans) (fun _ _ _ _ _ _ g => WK.rec (motive := fun _ => Ans) (fun _ _ abs => abs g k) (ackv9 q)) t⟩) p) p
theorem ackv10_eq (p : Pos) : ackv10 p = ack10 p := by
  cases p with
  | h => rfl
  | o p => cases p with
    | h => rfl
    | o q => unfold ackv10 ack10; simp only [ackv9_eq]
    | i q => unfold ackv10 ack10; simp only [ackv9_eq]
  | i p => cases p with
    | h => rfl
    | o q => unfold ackv10 ack10; simp only [ackv9_eq]
    | i q => unfold ackv10 ack10; simp only [ackv9_eq]
noncomputable def ackb0 (p : Pos) : WK Blk (T0 Blk) := ⟨fun t k => Fd.rec (motive := fun _ => Ans) .no k (fdO (T0.get p t)), fun x t k => k (T0.set x p t), fun t k => Fd.rec (motive := fun _ => Ans) k (fun _ => .no) (fdO (T0.get p t))⟩
theorem ackb0_eq (p : Pos) : ackb0 p = ack0 p := rfl
noncomputable def ackb1 (p : Pos) : WK Blk (L1 Blk) :=
  Pos.rec (motive := fun _ => WK Blk (L1 Blk)) ⟨fun t k => Nd.rec (motive := fun _ => Ans) (fun a _ _ _ _ _ _ => Fd.rec (motive := fun _ => Ans) .no k a) t, fun x t k => Nd.rec (motive := fun _ => Ans) (fun _ b c d e f g => k (.mk (.is x) b c d e f g)) t, fun t k => Nd.rec (motive := fun _ => Ans) (fun a _ _ _ _ _ _ => Fd.rec (motive := fun _ => Ans) k (fun _ => .no) a) t⟩
    (fun p _ => Pos.rec (motive := fun _ => WK Blk (L1 Blk)) ⟨fun t k => Nd.rec (motive := fun _ => Ans) (fun _ b _ _ _ _ _ => Fd.rec (motive := fun _ => Ans) .no k b) t, fun x t k => Nd.rec (motive := fun _ => Ans) (fun a _ c d e f g => k (.mk a (.is x) c d e f g)) t, fun t k => Nd.rec (motive := fun _ => Ans) (fun _ b _ _ _ _ _ => Fd.rec (motive := fun _ => Ans) k (fun _ => .no) b) t⟩
      (fun q _ => ⟨fun t k => Nd.rec (motive := fun _ => Ans) (fun _ _ _ d _ _ _ => WK.rec (motive := fun _ => Ans) (fun get _ _ => get d k) (ackb0 q)) t, fun x t k => Nd.rec (motive := fun _ => Ans) (fun a b c d e f g => WK.rec (motive := fun _ => Ans) (fun _ set _ => set x d (fun y => k (.mk a b c y e f g))) (ackb0 q)) t, fun t k => Nd.rec (motive := fun _ => Ans) (fun _ _ _ d _ _ _ => WK.rec (motive := fun _ => Ans) (fun _ _ abs => abs d k) (ackb0 q)) t⟩)
      (fun q _ => ⟨fun t k => Nd.rec (motive := fun _ => Ans) (fun _ _ _ _ e _ _ => WK.rec (motive := fun _ => Ans) (fun get _ _ => get e k) (ackb0 q)) t, fun x t k => Nd.rec (motive := fun _ => Ans) (fun a b c d e f g => WK.rec (motive := fun _ => Ans) (fun _ set _ => set x e (fun y => k (.mk a b c d y f g))) (ackb0 q)) t, fun t k => Nd.rec (motive := fun _ => Ans) (fun _ _ _ _ e _ _ => WK.rec (motive := fun _ => Ans) (fun _ _ abs => abs e k) (ackb0 q)) t⟩) p)
    (fun p _ => Pos.rec (motive := fun _ => WK Blk (L1 Blk)) ⟨fun t k => Nd.rec (motive := fun _ => Ans) (fun _ _ c _ _ _ _ => Fd.rec (motive := fun _ => Ans) .no k c) t, fun x t k => Nd.rec (motive := fun _ => Ans) (fun a b _ d e f g => k (.mk a b (.is x) d e f g)) t, fun t k => Nd.rec (motive := fun _ => Ans) (fun _ _ c _ _ _ _ => Fd.rec (motive := fun _ => Ans) k (fun _ => .no) c) t⟩
      (fun q _ => ⟨fun t k => Nd.rec (motive := fun _ => Ans) (fun _ _ _ _ _ f _ => WK.rec (motive := fun _ => Ans) (fun get _ _ => get f k) (ackb0 q)) t, fun x t k => Nd.rec (motive := fun _ => Ans) (fun a b c d e f g => WK.rec (motive := fun _ => Ans) (fun _ set _ => set x f (fun y => k (.mk a b c d e y g))) (ackb0 q)) t, fun t k => Nd.rec (motive := fun _ => Ans) (fun _ _ _ _ _ f _ => WK.rec (motive := fun _ => Ans) (fun _ _ abs => abs f k) (ackb0 q)) t⟩)
      (fun q _ => ⟨fun t k => Nd.rec (motive := fun _ => Ans) (fun _ _ _ _ _ _ g => WK.rec (motive := fun _ => Ans) (fun get _ _ => get g k) (ackb0 q)) t, fun x t k => Nd.rec (motive := fun _ => Ans) (fun a b c d e f g => WK.rec (motive := fun _ => Ans) (fun _ set _ => set x g (fun y => k (.mk a b c d e f y))) (ackb0 q)) t, fun t k => Nd.rec (motive := fun _ => Ans) (fun _ _ _ _ _ _ g => WK.rec (motive := fun _ => Ans) (fun _ _ abs => abs g k) (ackb0 q)) t⟩) p) p
theorem ackb1_eq (p : Pos) : ackb1 p = ack1 p := by
  cases p with
  | h => rfl
  | o p => cases p with
    | h => rfl
    | o q => unfold ackb1 ack1; simp only [ackb0_eq]
    | i q => unfold ackb1 ack1; simp only [ackb0_eq]
  | i p => cases p with
    | h => rfl
    | o q => unfold ackb1 ack1; simp only [ackb0_eq]
    | i q => unfold ackb1 ack1; simp only [ackb0_eq]
noncomputable def ackb2 (p : Pos) : WK Blk (L2 Blk) :=
  Pos.rec (motive := fun _ => WK Blk (L2 Blk)) ⟨fun t k => Nd.rec (motive := fun _ => Ans) (fun a _ _ _ _ _ _ => Fd.rec (motive := fun _ => Ans) .no k a) t, fun x t k => Nd.rec (motive := fun _ => Ans) (fun _ b c d e f g => k (.mk (.is x) b c d e f g)) t, fun t k => Nd.rec (motive := fun _ => Ans) (fun a _ _ _ _ _ _ => Fd.rec (motive := fun _ => Ans) k (fun _ => .no) a) t⟩
    (fun p _ => Pos.rec (motive := fun _ => WK Blk (L2 Blk)) ⟨fun t k => Nd.rec (motive := fun _ => Ans) (fun _ b _ _ _ _ _ => Fd.rec (motive := fun _ => Ans) .no k b) t, fun x t k => Nd.rec (motive := fun _ => Ans) (fun a _ c d e f g => k (.mk a (.is x) c d e f g)) t, fun t k => Nd.rec (motive := fun _ => Ans) (fun _ b _ _ _ _ _ => Fd.rec (motive := fun _ => Ans) k (fun _ => .no) b) t⟩
      (fun q _ => ⟨fun t k => Nd.rec (motive := fun _ => Ans) (fun _ _ _ d _ _ _ => WK.rec (motive := fun _ => Ans) (fun get _ _ => get d k) (ackb1 q)) t, fun x t k => Nd.rec (motive := fun _ => Ans) (fun a b c d e f g => WK.rec (motive := fun _ => Ans) (fun _ set _ => set x d (fun y => k (.mk a b c y e f g))) (ackb1 q)) t, fun t k => Nd.rec (motive := fun _ => Ans) (fun _ _ _ d _ _ _ => WK.rec (motive := fun _ => Ans) (fun _ _ abs => abs d k) (ackb1 q)) t⟩)
      (fun q _ => ⟨fun t k => Nd.rec (motive := fun _ => Ans) (fun _ _ _ _ e _ _ => WK.rec (motive := fun _ => Ans) (fun get _ _ => get e k) (ackb1 q)) t, fun x t k => Nd.rec (motive := fun _ => Ans) (fun a b c d e f g => WK.rec (motive := fun _ => Ans) (fun _ set _ => set x e (fun y => k (.mk a b c d y f g))) (ackb1 q)) t, fun t k => Nd.rec (motive := fun _ => Ans) (fun _ _ _ _ e _ _ => WK.rec (motive := fun _ => Ans) (fun _ _ abs => abs e k) (ackb1 q)) t⟩) p)
    (fun p _ => Pos.rec (motive := fun _ => WK Blk (L2 Blk)) ⟨fun t k => Nd.rec (motive := fun _ => Ans) (fun _ _ c _ _ _ _ => Fd.rec (motive := fun _ => Ans) .no k c) t, fun x t k => Nd.rec (motive := fun _ => Ans) (fun a b _ d e f g => k (.mk a b (.is x) d e f g)) t, fun t k => Nd.rec (motive := fun _ => Ans) (fun _ _ c _ _ _ _ => Fd.rec (motive := fun _ => Ans) k (fun _ => .no) c) t⟩
      (fun q _ => ⟨fun t k => Nd.rec (motive := fun _ => Ans) (fun _ _ _ _ _ f _ => WK.rec (motive := fun _ => Ans) (fun get _ _ => get f k) (ackb1 q)) t, fun x t k => Nd.rec (motive := fun _ => Ans) (fun a b c d e f g => WK.rec (motive := fun _ => Ans) (fun _ set _ => set x f (fun y => k (.mk a b c d e y g))) (ackb1 q)) t, fun t k => Nd.rec (motive := fun _ => Ans) (fun _ _ _ _ _ f _ => WK.rec (motive := fun _ => Ans) (fun _ _ abs => abs f k) (ackb1 q)) t⟩)
      (fun q _ => ⟨fun t k => Nd.rec (motive := fun _ => Ans) (fun _ _ _ _ _ _ g => WK.rec (motive := fun _ => Ans) (fun get _ _ => get g k) (ackb1 q)) t, fun x t k => Nd.rec (motive := fun _ => Ans) (fun a b c d e f g => WK.rec (motive := fun _ => Ans) (fun _ set _ => set x g (fun y => k (.mk a b c d e f y))) (ackb1 q)) t, fun t k => Nd.rec (motive := fun _ => Ans) (fun _ _ _ _ _ _ g => WK.rec (motive := fun _ => Ans) (fun _ _ abs => abs g k) (ackb1 q)) t⟩) p) p
theorem ackb2_eq (p : Pos) : ackb2 p = ack2 p := by
  cases p with
  | h => rfl
  | o p => cases p with
    | h => rfl
    | o q => unfold ackb2 ack2; simp only [ackb1_eq]
    | i q => unfold ackb2 ack2; simp only [ackb1_eq]
  | i p => cases p with
    | h => rfl
    | o q => unfold ackb2 ack2; simp only [ackb1_eq]
    | i q => unfold ackb2 ack2; simp only [ackb1_eq]
noncomputable def ackb3 (p : Pos) : WK Blk (L3 Blk) :=
  Pos.rec (motive := fun _ => WK Blk (L3 Blk)) ⟨fun t k => Nd.rec (motive := fun _ => Ans) (fun a _ _ _ _ _ _ => Fd.rec (motive := fun _ => Ans) .no k a) t, fun x t k => Nd.rec (motive := fun _ => Ans) (fun _ b c d e f g => k (.mk (.is x) b c d e f g)) t, fun t k => Nd.rec (motive := fun _ => Ans) (fun a _ _ _ _ _ _ => Fd.rec (motive := fun _ => Ans) k (fun _ => .no) a) t⟩
    (fun p _ => Pos.rec (motive := fun _ => WK Blk (L3 Blk)) ⟨fun t k => Nd.rec (motive := fun _ => Ans) (fun _ b _ _ _ _ _ => Fd.rec (motive := fun _ => Ans) .no k b) t, fun x t k => Nd.rec (motive := fun _ => Ans) (fun a _ c d e f g => k (.mk a (.is x) c d e f g)) t, fun t k => Nd.rec (motive := fun _ => Ans) (fun _ b _ _ _ _ _ => Fd.rec (motive := fun _ => Ans) k (fun _ => .no) b) t⟩
      (fun q _ => ⟨fun t k => Nd.rec (motive := fun _ => Ans) (fun _ _ _ d _ _ _ => WK.rec (motive := fun _ => Ans) (fun get _ _ => get d k) (ackb2 q)) t, fun x t k => Nd.rec (motive := fun _ => Ans) (fun a b c d e f g => WK.rec (motive := fun _ => Ans) (fun _ set _ => set x d (fun y => k (.mk a b c y e f g))) (ackb2 q)) t, fun t k => Nd.rec (motive := fun _ => Ans) (fun _ _ _ d _ _ _ => WK.rec (motive := fun _ => Ans) (fun _ _ abs => abs d k) (ackb2 q)) t⟩)
      (fun q _ => ⟨fun t k => Nd.rec (motive := fun _ => Ans) (fun _ _ _ _ e _ _ => WK.rec (motive := fun _ => Ans) (fun get _ _ => get e k) (ackb2 q)) t, fun x t k => Nd.rec (motive := fun _ => Ans) (fun a b c d e f g => WK.rec (motive := fun _ => Ans) (fun _ set _ => set x e (fun y => k (.mk a b c d y f g))) (ackb2 q)) t, fun t k => Nd.rec (motive := fun _ => Ans) (fun _ _ _ _ e _ _ => WK.rec (motive := fun _ => Ans) (fun _ _ abs => abs e k) (ackb2 q)) t⟩) p)
    (fun p _ => Pos.rec (motive := fun _ => WK Blk (L3 Blk)) ⟨fun t k => Nd.rec (motive := fun _ => Ans) (fun _ _ c _ _ _ _ => Fd.rec (motive := fun _ => Ans) .no k c) t, fun x t k => Nd.rec (motive := fun _ => Ans) (fun a b _ d e f g => k (.mk a b (.is x) d e f g)) t, fun t k => Nd.rec (motive := fun _ => Ans) (fun _ _ c _ _ _ _ => Fd.rec (motive := fun _ => Ans) k (fun _ => .no) c) t⟩
      (fun q _ => ⟨fun t k => Nd.rec (motive := fun _ => Ans) (fun _ _ _ _ _ f _ => WK.rec (motive := fun _ => Ans) (fun get _ _ => get f k) (ackb2 q)) t, fun x t k => Nd.rec (motive := fun _ => Ans) (fun a b c d e f g => WK.rec (motive := fun _ => Ans) (fun _ set _ => set x f (fun y => k (.mk a b c d e y g))) (ackb2 q)) t, fun t k => Nd.rec (motive := fun _ => Ans) (fun _ _ _ _ _ f _ => WK.rec (motive := fun _ => Ans) (fun _ _ abs => abs f k) (ackb2 q)) t⟩)
      (fun q _ => ⟨fun t k => Nd.rec (motive := fun _ => Ans) (fun _ _ _ _ _ _ g => WK.rec (motive := fun _ => Ans) (fun get _ _ => get g k) (ackb2 q)) t, fun x t k => Nd.rec (motive := fun _ => Ans) (fun a b c d e f g => WK.rec (motive := fun _ => Ans) (fun _ set _ => set x g (fun y => k (.mk a b c d e f y))) (ackb2 q)) t, fun t k => Nd.rec (motive := fun _ => Ans) (fun _ _ _ _ _ _ g => WK.rec (motive := fun _ => Ans) (fun _ _ abs => abs g k) (ackb2 q)) t⟩) p) p
theorem ackb3_eq (p : Pos) : ackb3 p = ack3 p := by
  cases p with
  | h => rfl
  | o p => cases p with
    | h => rfl
    | o q => unfold ackb3 ack3; simp only [ackb2_eq]
    | i q => unfold ackb3 ack3; simp only [ackb2_eq]
  | i p => cases p with
    | h => rfl
    | o q => unfold ackb3 ack3; simp only [ackb2_eq]
    | i q => unfold ackb3 ack3; simp only [ackb2_eq]
noncomputable def ackb4 (p : Pos) : WK Blk (L4 Blk) :=
  Pos.rec (motive := fun _ => WK Blk (L4 Blk)) ⟨fun t k => Nd.rec (motive := fun _ => Ans) (fun a _ _ _ _ _ _ => Fd.rec (motive := fun _ => Ans) .no k a) t, fun x t k => Nd.rec (motive := fun _ => Ans) (fun _ b c d e f g => k (.mk (.is x) b c d e f g)) t, fun t k => Nd.rec (motive := fun _ => Ans) (fun a _ _ _ _ _ _ => Fd.rec (motive := fun _ => Ans) k (fun _ => .no) a) t⟩
    (fun p _ => Pos.rec (motive := fun _ => WK Blk (L4 Blk)) ⟨fun t k => Nd.rec (motive := fun _ => Ans) (fun _ b _ _ _ _ _ => Fd.rec (motive := fun _ => Ans) .no k b) t, fun x t k => Nd.rec (motive := fun _ => Ans) (fun a _ c d e f g => k (.mk a (.is x) c d e f g)) t, fun t k => Nd.rec (motive := fun _ => Ans) (fun _ b _ _ _ _ _ => Fd.rec (motive := fun _ => Ans) k (fun _ => .no) b) t⟩
      (fun q _ => ⟨fun t k => Nd.rec (motive := fun _ => Ans) (fun _ _ _ d _ _ _ => WK.rec (motive := fun _ => Ans) (fun get _ _ => get d k) (ackb3 q)) t, fun x t k => Nd.rec (motive := fun _ => Ans) (fun a b c d e f g => WK.rec (motive := fun _ => Ans) (fun _ set _ => set x d (fun y => k (.mk a b c y e f g))) (ackb3 q)) t, fun t k => Nd.rec (motive := fun _ => Ans) (fun _ _ _ d _ _ _ => WK.rec (motive := fun _ => Ans) (fun _ _ abs => abs d k) (ackb3 q)) t⟩)
      (fun q _ => ⟨fun t k => Nd.rec (motive := fun _ => Ans) (fun _ _ _ _ e _ _ => WK.rec (motive := fun _ => Ans) (fun get _ _ => get e k) (ackb3 q)) t, fun x t k => Nd.rec (motive := fun _ => Ans) (fun a b c d e f g => WK.rec (motive := fun _ => Ans) (fun _ set _ => set x e (fun y => k (.mk a b c d y f g))) (ackb3 q)) t, fun t k => Nd.rec (motive := fun _ => Ans) (fun _ _ _ _ e _ _ => WK.rec (motive := fun _ => Ans) (fun _ _ abs => abs e k) (ackb3 q)) t⟩) p)
    (fun p _ => Pos.rec (motive := fun _ => WK Blk (L4 Blk)) ⟨fun t k => Nd.rec (motive := fun _ => Ans) (fun _ _ c _ _ _ _ => Fd.rec (motive := fun _ => Ans) .no k c) t, fun x t k => Nd.rec (motive := fun _ => Ans) (fun a b _ d e f g => k (.mk a b (.is x) d e f g)) t, fun t k => Nd.rec (motive := fun _ => Ans) (fun _ _ c _ _ _ _ => Fd.rec (motive := fun _ => Ans) k (fun _ => .no) c) t⟩
      (fun q _ => ⟨fun t k => Nd.rec (motive := fun _ => Ans) (fun _ _ _ _ _ f _ => WK.rec (motive := fun _ => Ans) (fun get _ _ => get f k) (ackb3 q)) t, fun x t k => Nd.rec (motive := fun _ => Ans) (fun a b c d e f g => WK.rec (motive := fun _ => Ans) (fun _ set _ => set x f (fun y => k (.mk a b c d e y g))) (ackb3 q)) t, fun t k => Nd.rec (motive := fun _ => Ans) (fun _ _ _ _ _ f _ => WK.rec (motive := fun _ => Ans) (fun _ _ abs => abs f k) (ackb3 q)) t⟩)
      (fun q _ => ⟨fun t k => Nd.rec (motive := fun _ => Ans) (fun _ _ _ _ _ _ g => WK.rec (motive := fun _ => Ans) (fun get _ _ => get g k) (ackb3 q)) t, fun x t k => Nd.rec (motive := fun _ => Ans) (fun a b c d e f g => WK.rec (motive := fun _ => Ans) (fun _ set _ => set x g (fun y => k (.mk a b c d e f y))) (ackb3 q)) t, fun t k => Nd.rec (motive := fun _ => Ans) (fun _ _ _ _ _ _ g => WK.rec (motive := fun _ => Ans) (fun _ _ abs => abs g k) (ackb3 q)) t⟩) p) p
theorem ackb4_eq (p : Pos) : ackb4 p = ack4 p := by
  cases p with
  | h => rfl
  | o p => cases p with
    | h => rfl
    | o q => unfold ackb4 ack4; simp only [ackb3_eq]
    | i q => unfold ackb4 ack4; simp only [ackb3_eq]
  | i p => cases p with
    | h => rfl
    | o q => unfold ackb4 ack4; simp only [ackb3_eq]
    | i q => unfold ackb4 ack4; simp only [ackb3_eq]
noncomputable def ackb5 (p : Pos) : WK Blk (L5 Blk) :=
  Pos.rec (motive := fun _ => WK Blk (L5 Blk)) ⟨fun t k => Nd.rec (motive := fun _ => Ans) (fun a _ _ _ _ _ _ => Fd.rec (motive := fun _ => Ans) .no k a) t, fun x t k => Nd.rec (motive := fun _ => Ans) (fun _ b c d e f g => k (.mk (.is x) b c d e f g)) t, fun t k => Nd.rec (motive := fun _ => Ans) (fun a _ _ _ _ _ _ => Fd.rec (motive := fun _ => Ans) k (fun _ => .no) a) t⟩
    (fun p _ => Pos.rec (motive := fun _ => WK Blk (L5 Blk)) ⟨fun t k => Nd.rec (motive := fun _ => Ans) (fun _ b _ _ _ _ _ => Fd.rec (motive := fun _ => Ans) .no k b) t, fun x t k => Nd.rec (motive := fun _ => Ans) (fun a _ c d e f g => k (.mk a (.is x) c d e f g)) t, fun t k => Nd.rec (motive := fun _ => Ans) (fun _ b _ _ _ _ _ => Fd.rec (motive := fun _ => Ans) k (fun _ => .no) b) t⟩
      (fun q _ => ⟨fun t k => Nd.rec (motive := fun _ => Ans) (fun _ _ _ d _ _ _ => WK.rec (motive := fun _ => Ans) (fun get _ _ => get d k) (ackb4 q)) t, fun x t k => Nd.rec (motive := fun _ => Ans) (fun a b c d e f g => WK.rec (motive := fun _ => Ans) (fun _ set _ => set x d (fun y => k (.mk a b c y e f g))) (ackb4 q)) t, fun t k => Nd.rec (motive := fun _ => Ans) (fun _ _ _ d _ _ _ => WK.rec (motive := fun _ => Ans) (fun _ _ abs => abs d k) (ackb4 q)) t⟩)
      (fun q _ => ⟨fun t k => Nd.rec (motive := fun _ => Ans) (fun _ _ _ _ e _ _ => WK.rec (motive := fun _ => Ans) (fun get _ _ => get e k) (ackb4 q)) t, fun x t k => Nd.rec (motive := fun _ => Ans) (fun a b c d e f g => WK.rec (motive := fun _ => Ans) (fun _ set _ => set x e (fun y => k (.mk a b c d y f g))) (ackb4 q)) t, fun t k => Nd.rec (motive := fun _ => Ans) (fun _ _ _ _ e _ _ => WK.rec (motive := fun _ => Ans) (fun _ _ abs => abs e k) (ackb4 q)) t⟩) p)
    (fun p _ => Pos.rec (motive := fun _ => WK Blk (L5 Blk)) ⟨fun t k => Nd.rec (motive := fun _ => Ans) (fun _ _ c _ _ _ _ => Fd.rec (motive := fun _ => Ans) .no k c) t, fun x t k => Nd.rec (motive := fun _ => Ans) (fun a b _ d e f g => k (.mk a b (.is x) d e f g)) t, fun t k => Nd.rec (motive := fun _ => Ans) (fun _ _ c _ _ _ _ => Fd.rec (motive := fun _ => Ans) k (fun _ => .no) c) t⟩
      (fun q _ => ⟨fun t k => Nd.rec (motive := fun _ => Ans) (fun _ _ _ _ _ f _ => WK.rec (motive := fun _ => Ans) (fun get _ _ => get f k) (ackb4 q)) t, fun x t k => Nd.rec (motive := fun _ => Ans) (fun a b c d e f g => WK.rec (motive := fun _ => Ans) (fun _ set _ => set x f (fun y => k (.mk a b c d e y g))) (ackb4 q)) t, fun t k => Nd.rec (motive := fun _ => Ans) (fun _ _ _ _ _ f _ => WK.rec (motive := fun _ => Ans) (fun _ _ abs => abs f k) (ackb4 q)) t⟩)
      (fun q _ => ⟨fun t k => Nd.rec (motive := fun _ => Ans) (fun _ _ _ _ _ _ g => WK.rec (motive := fun _ => Ans) (fun get _ _ => get g k) (ackb4 q)) t, fun x t k => Nd.rec (motive := fun _ => Ans) (fun a b c d e f g => WK.rec (motive := fun _ => Ans) (fun _ set _ => set x g (fun y => k (.mk a b c d e f y))) (ackb4 q)) t, fun t k => Nd.rec (motive := fun _ => Ans) (fun _ _ _ _ _ _ g => WK.rec (motive := fun _ => Ans) (fun _ _ abs => abs g k) (ackb4 q)) t⟩) p) p
theorem ackb5_eq (p : Pos) : ackb5 p = ack5 p := by
  cases p with
  | h => rfl
  | o p => cases p with
    | h => rfl
    | o q => unfold ackb5 ack5; simp only [ackb4_eq]
    | i q => unfold ackb5 ack5; simp only [ackb4_eq]
  | i p => cases p with
    | h => rfl
    | o q => unfold ackb5 ack5; simp only [ackb4_eq]
    | i q => unfold ackb5 ack5; simp only [ackb4_eq]
noncomputable def ackb6 (p : Pos) : WK Blk (L6 Blk) :=
  Pos.rec (motive := fun _ => WK Blk (L6 Blk)) ⟨fun t k => Nd.rec (motive := fun _ => Ans) (fun a _ _ _ _ _ _ => Fd.rec (motive := fun _ => Ans) .no k a) t, fun x t k => Nd.rec (motive := fun _ => Ans) (fun _ b c d e f g => k (.mk (.is x) b c d e f g)) t, fun t k => Nd.rec (motive := fun _ => Ans) (fun a _ _ _ _ _ _ => Fd.rec (motive := fun _ => Ans) k (fun _ => .no) a) t⟩
    (fun p _ => Pos.rec (motive := fun _ => WK Blk (L6 Blk)) ⟨fun t k => Nd.rec (motive := fun _ => Ans) (fun _ b _ _ _ _ _ => Fd.rec (motive := fun _ => Ans) .no k b) t, fun x t k => Nd.rec (motive := fun _ => Ans) (fun a _ c d e f g => k (.mk a (.is x) c d e f g)) t, fun t k => Nd.rec (motive := fun _ => Ans) (fun _ b _ _ _ _ _ => Fd.rec (motive := fun _ => Ans) k (fun _ => .no) b) t⟩
      (fun q _ => ⟨fun t k => Nd.rec (motive := fun _ => Ans) (fun _ _ _ d _ _ _ => WK.rec (motive := fun _ => Ans) (fun get _ _ => get d k) (ackb5 q)) t, fun x t k => Nd.rec (motive := fun _ => Ans) (fun a b c d e f g => WK.rec (motive := fun _ => Ans) (fun _ set _ => set x d (fun y => k (.mk a b c y e f g))) (ackb5 q)) t, fun t k => Nd.rec (motive := fun _ => Ans) (fun _ _ _ d _ _ _ => WK.rec (motive := fun _ => Ans) (fun _ _ abs => abs d k) (ackb5 q)) t⟩)
      (fun q _ => ⟨fun t k => Nd.rec (motive := fun _ => Ans) (fun _ _ _ _ e _ _ => WK.rec (motive := fun _ => Ans) (fun get _ _ => get e k) (ackb5 q)) t, fun x t k => Nd.rec (motive := fun _ => Ans) (fun a b c d e f g => WK.rec (motive := fun _ => Ans) (fun _ set _ => set x e (fun y => k (.mk a b c d y f g))) (ackb5 q)) t, fun t k => Nd.rec (motive := fun _ => Ans) (fun _ _ _ _ e _ _ => WK.rec (motive := fun _ => Ans) (fun _ _ abs => abs e k) (ackb5 q)) t⟩) p)
    (fun p _ => Pos.rec (motive := fun _ => WK Blk (L6 Blk)) ⟨fun t k => Nd.rec (motive := fun _ => Ans) (fun _ _ c _ _ _ _ => Fd.rec (motive := fun _ => Ans) .no k c) t, fun x t k => Nd.rec (motive := fun _ => Ans) (fun a b _ d e f g => k (.mk a b (.is x) d e f g)) t, fun t k => Nd.rec (motive := fun _ => Ans) (fun _ _ c _ _ _ _ => Fd.rec (motive := fun _ => Ans) k (fun _ => .no) c) t⟩
      (fun q _ => ⟨fun t k => Nd.rec (motive := fun _ => Ans) (fun _ _ _ _ _ f _ => WK.rec (motive := fun _ => Ans) (fun get _ _ => get f k) (ackb5 q)) t, fun x t k => Nd.rec (motive := fun _ => Ans) (fun a b c d e f g => WK.rec (motive := fun _ => Ans) (fun _ set _ => set x f (fun y => k (.mk a b c d e y g))) (ackb5 q)) t, fun t k => Nd.rec (motive := fun _ => Ans) (fun _ _ _ _ _ f _ => WK.rec (motive := fun _ => Ans) (fun _ _ abs => abs f k) (ackb5 q)) t⟩)
      (fun q _ => ⟨fun t k => Nd.rec (motive := fun _ => Ans) (fun _ _ _ _ _ _ g => WK.rec (motive := fun _ => Ans) (fun get _ _ => get g k) (ackb5 q)) t, fun x t k => Nd.rec (motive := fun _ => Ans) (fun a b c d e f g => WK.rec (motive := fun _ => Ans) (fun _ set _ => set x g (fun y => k (.mk a b c d e f y))) (ackb5 q)) t, fun t k => Nd.rec (motive := fun _ => Ans) (fun _ _ _ _ _ _ g => WK.rec (motive := fun _ => Ans) (fun _ _ abs => abs g k) (ackb5 q)) t⟩) p) p
theorem ackb6_eq (p : Pos) : ackb6 p = ack6 p := by
  cases p with
  | h => rfl
  | o p => cases p with
    | h => rfl
    | o q => unfold ackb6 ack6; simp only [ackb5_eq]
    | i q => unfold ackb6 ack6; simp only [ackb5_eq]
  | i p => cases p with
    | h => rfl
    | o q => unfold ackb6 ack6; simp only [ackb5_eq]
    | i q => unfold ackb6 ack6; simp only [ackb5_eq]
noncomputable def ackb7 (p : Pos) : WK Blk (L7 Blk) :=
  Pos.rec (motive := fun _ => WK Blk (L7 Blk)) ⟨fun t k => Nd.rec (motive := fun _ => Ans) (fun a _ _ _ _ _ _ => Fd.rec (motive := fun _ => Ans) .no k a) t, fun x t k => Nd.rec (motive := fun _ => Ans) (fun _ b c d e f g => k (.mk (.is x) b c d e f g)) t, fun t k => Nd.rec (motive := fun _ => Ans) (fun a _ _ _ _ _ _ => Fd.rec (motive := fun _ => Ans) k (fun _ => .no) a) t⟩
    (fun p _ => Pos.rec (motive := fun _ => WK Blk (L7 Blk)) ⟨fun t k => Nd.rec (motive := fun _ => Ans) (fun _ b _ _ _ _ _ => Fd.rec (motive := fun _ => Ans) .no k b) t, fun x t k => Nd.rec (motive := fun _ => Ans) (fun a _ c d e f g => k (.mk a (.is x) c d e f g)) t, fun t k => Nd.rec (motive := fun _ => Ans) (fun _ b _ _ _ _ _ => Fd.rec (motive := fun _ => Ans) k (fun _ => .no) b) t⟩
      (fun q _ => ⟨fun t k => Nd.rec (motive := fun _ => Ans) (fun _ _ _ d _ _ _ => WK.rec (motive := fun _ => Ans) (fun get _ _ => get d k) (ackb6 q)) t, fun x t k => Nd.rec (motive := fun _ => Ans) (fun a b c d e f g => WK.rec (motive := fun _ => Ans) (fun _ set _ => set x d (fun y => k (.mk a b c y e f g))) (ackb6 q)) t, fun t k => Nd.rec (motive := fun _ => Ans) (fun _ _ _ d _ _ _ => WK.rec (motive := fun _ => Ans) (fun _ _ abs => abs d k) (ackb6 q)) t⟩)
      (fun q _ => ⟨fun t k => Nd.rec (motive := fun _ => Ans) (fun _ _ _ _ e _ _ => WK.rec (motive := fun _ => Ans) (fun get _ _ => get e k) (ackb6 q)) t, fun x t k => Nd.rec (motive := fun _ => Ans) (fun a b c d e f g => WK.rec (motive := fun _ => Ans) (fun _ set _ => set x e (fun y => k (.mk a b c d y f g))) (ackb6 q)) t, fun t k => Nd.rec (motive := fun _ => Ans) (fun _ _ _ _ e _ _ => WK.rec (motive := fun _ => Ans) (fun _ _ abs => abs e k) (ackb6 q)) t⟩) p)
    (fun p _ => Pos.rec (motive := fun _ => WK Blk (L7 Blk)) ⟨fun t k => Nd.rec (motive := fun _ => Ans) (fun _ _ c _ _ _ _ => Fd.rec (motive := fun _ => Ans) .no k c) t, fun x t k => Nd.rec (motive := fun _ => Ans) (fun a b _ d e f g => k (.mk a b (.is x) d e f g)) t, fun t k => Nd.rec (motive := fun _ => Ans) (fun _ _ c _ _ _ _ => Fd.rec (motive := fun _ => Ans) k (fun _ => .no) c) t⟩
      (fun q _ => ⟨fun t k => Nd.rec (motive := fun _ => Ans) (fun _ _ _ _ _ f _ => WK.rec (motive := fun _ => Ans) (fun get _ _ => get f k) (ackb6 q)) t, fun x t k => Nd.rec (motive := fun _ => Ans) (fun a b c d e f g => WK.rec (motive := fun _ => Ans) (fun _ set _ => set x f (fun y => k (.mk a b c d e y g))) (ackb6 q)) t, fun t k => Nd.rec (motive := fun _ => Ans) (fun _ _ _ _ _ f _ => WK.rec (motive := fun _ => Ans) (fun _ _ abs => abs f k) (ackb6 q)) t⟩)
      (fun q _ => ⟨fun t k => Nd.rec (motive := fun _ => Ans) (fun _ _ _ _ _ _ g => WK.rec (motive := fun _ => Ans) (fun get _ _ => get g k) (ackb6 q)) t, fun x t k => Nd.rec (motive := fun _ => Ans) (fun a b c d e f g => WK.rec (motive := fun _ => Ans) (fun _ set _ => set x g (fun y => k (.mk a b c d e f y))) (ackb6 q)) t, fun t k => Nd.rec (motive := fun _ => Ans) (fun _ _ _ _ _ _ g => WK.rec (motive := fun _ => Ans) (fun _ _ abs => abs g k) (ackb6 q)) t⟩) p) p
theorem ackb7_eq (p : Pos) : ackb7 p = ack7 p := by
  cases p with
  | h => rfl
  | o p => cases p with
    | h => rfl
    | o q => unfold ackb7 ack7; simp only [ackb6_eq]
    | i q => unfold ackb7 ack7; simp only [ackb6_eq]
  | i p => cases p with
    | h => rfl
    | o q => unfold ackb7 ack7; simp only [ackb6_eq]
    | i q => unfold ackb7 ack7; simp only [ackb6_eq]
noncomputable def ackb8 (p : Pos) : WK Blk (L8 Blk) :=
  Pos.rec (motive := fun _ => WK Blk (L8 Blk)) ⟨fun t k => Nd.rec (motive := fun _ => Ans) (fun a _ _ _ _ _ _ => Fd.rec (motive := fun _ => Ans) .no k a) t, fun x t k => Nd.rec (motive := fun _ => Ans) (fun _ b c d e f g => k (.mk (.is x) b c d e f g)) t, fun t k => Nd.rec (motive := fun _ => Ans) (fun a _ _ _ _ _ _ => Fd.rec (motive := fun _ => Ans) k (fun _ => .no) a) t⟩
    (fun p _ => Pos.rec (motive := fun _ => WK Blk (L8 Blk)) ⟨fun t k => Nd.rec (motive := fun _ => Ans) (fun _ b _ _ _ _ _ => Fd.rec (motive := fun _ => Ans) .no k b) t, fun x t k => Nd.rec (motive := fun _ => Ans) (fun a _ c d e f g => k (.mk a (.is x) c d e f g)) t, fun t k => Nd.rec (motive := fun _ => Ans) (fun _ b _ _ _ _ _ => Fd.rec (motive := fun _ => Ans) k (fun _ => .no) b) t⟩
      (fun q _ => ⟨fun t k => Nd.rec (motive := fun _ => Ans) (fun _ _ _ d _ _ _ => WK.rec (motive := fun _ => Ans) (fun get _ _ => get d k) (ackb7 q)) t, fun x t k => Nd.rec (motive := fun _ => Ans) (fun a b c d e f g => WK.rec (motive := fun _ => Ans) (fun _ set _ => set x d (fun y => k (.mk a b c y e f g))) (ackb7 q)) t, fun t k => Nd.rec (motive := fun _ => Ans) (fun _ _ _ d _ _ _ => WK.rec (motive := fun _ => Ans) (fun _ _ abs => abs d k) (ackb7 q)) t⟩)
      (fun q _ => ⟨fun t k => Nd.rec (motive := fun _ => Ans) (fun _ _ _ _ e _ _ => WK.rec (motive := fun _ => Ans) (fun get _ _ => get e k) (ackb7 q)) t, fun x t k => Nd.rec (motive := fun _ => Ans) (fun a b c d e f g => WK.rec (motive := fun _ => Ans) (fun _ set _ => set x e (fun y => k (.mk a b c d y f g))) (ackb7 q)) t, fun t k => Nd.rec (motive := fun _ => Ans) (fun _ _ _ _ e _ _ => WK.rec (motive := fun _ => Ans) (fun _ _ abs => abs e k) (ackb7 q)) t⟩) p)
    (fun p _ => Pos.rec (motive := fun _ => WK Blk (L8 Blk)) ⟨fun t k => Nd.rec (motive := fun _ => Ans) (fun _ _ c _ _ _ _ => Fd.rec (motive := fun _ => Ans) .no k c) t, fun x t k => Nd.rec (motive := fun _ => Ans) (fun a b _ d e f g => k (.mk a b (.is x) d e f g)) t, fun t k => Nd.rec (motive := fun _ => Ans) (fun _ _ c _ _ _ _ => Fd.rec (motive := fun _ => Ans) k (fun _ => .no) c) t⟩
      (fun q _ => ⟨fun t k => Nd.rec (motive := fun _ => Ans) (fun _ _ _ _ _ f _ => WK.rec (motive := fun _ => Ans) (fun get _ _ => get f k) (ackb7 q)) t, fun x t k => Nd.rec (motive := fun _ => Ans) (fun a b c d e f g => WK.rec (motive := fun _ => Ans) (fun _ set _ => set x f (fun y => k (.mk a b c d e y g))) (ackb7 q)) t, fun t k => Nd.rec (motive := fun _ => Ans) (fun _ _ _ _ _ f _ => WK.rec (motive := fun _ => Ans) (fun _ _ abs => abs f k) (ackb7 q)) t⟩)
      (fun q _ => ⟨fun t k => Nd.rec (motive := fun _ => Ans) (fun _ _ _ _ _ _ g => WK.rec (motive := fun _ => Ans) (fun get _ _ => get g k) (ackb7 q)) t, fun x t k => Nd.rec (motive := fun _ => Ans) (fun a b c d e f g => WK.rec (motive := fun _ => Ans) (fun _ set _ => set x g (fun y => k (.mk a b c d e f y))) (ackb7 q)) t, fun t k => Nd.rec (motive := fun _ => Ans) (fun _ _ _ _ _ _ g => WK.rec (motive := fun _ => Ans) (fun _ _ abs => abs g k) (ackb7 q)) t⟩) p) p
theorem ackb8_eq (p : Pos) : ackb8 p = ack8 p := by
  cases p with
  | h => rfl
  | o p => cases p with
    | h => rfl
    | o q => unfold ackb8 ack8; simp only [ackb7_eq]
    | i q => unfold ackb8 ack8; simp only [ackb7_eq]
  | i p => cases p with
    | h => rfl
    | o q => unfold ackb8 ack8; simp only [ackb7_eq]
    | i q => unfold ackb8 ack8; simp only [ackb7_eq]
noncomputable def ackb9 (p : Pos) : WK Blk (L9 Blk) :=
  Pos.rec (motive := fun _ => WK Blk (L9 Blk)) ⟨fun t k => Nd.rec (motive := fun _ => Ans) (fun a _ _ _ _ _ _ => Fd.rec (motive := fun _ => Ans) .no k a) t, fun x t k => Nd.rec (motive := fun _ => Ans) (fun _ b c d e f g => k (.mk (.is x) b c d e f g)) t, fun t k => Nd.rec (motive := fun _ => Ans) (fun a _ _ _ _ _ _ => Fd.rec (motive := fun _ => Ans) k (fun _ => .no) a) t⟩
    (fun p _ => Pos.rec (motive := fun _ => WK Blk (L9 Blk)) ⟨fun t k => Nd.rec (motive := fun _ => Ans) (fun _ b _ _ _ _ _ => Fd.rec (motive := fun _ => Ans) .no k b) t, fun x t k => Nd.rec (motive := fun _ => Ans) (fun a _ c d e f g => k (.mk a (.is x) c d e f g)) t, fun t k => Nd.rec (motive := fun _ => Ans) (fun _ b _ _ _ _ _ => Fd.rec (motive := fun _ => Ans) k (fun _ => .no) b) t⟩
      (fun q _ => ⟨fun t k => Nd.rec (motive := fun _ => Ans) (fun _ _ _ d _ _ _ => WK.rec (motive := fun _ => Ans) (fun get _ _ => get d k) (ackb8 q)) t, fun x t k => Nd.rec (motive := fun _ => Ans) (fun a b c d e f g => WK.rec (motive := fun _ => Ans) (fun _ set _ => set x d (fun y => k (.mk a b c y e f g))) (ackb8 q)) t, fun t k => Nd.rec (motive := fun _ => Ans) (fun _ _ _ d _ _ _ => WK.rec (motive := fun _ => Ans) (fun _ _ abs => abs d k) (ackb8 q)) t⟩)
      (fun q _ => ⟨fun t k => Nd.rec (motive := fun _ => Ans) (fun _ _ _ _ e _ _ => WK.rec (motive := fun _ => Ans) (fun get _ _ => get e k) (ackb8 q)) t, fun x t k => Nd.rec (motive := fun _ => Ans) (fun a b c d e f g => WK.rec (motive := fun _ => Ans) (fun _ set _ => set x e (fun y => k (.mk a b c d y f g))) (ackb8 q)) t, fun t k => Nd.rec (motive := fun _ => Ans) (fun _ _ _ _ e _ _ => WK.rec (motive := fun _ => Ans) (fun _ _ abs => abs e k) (ackb8 q)) t⟩) p)
    (fun p _ => Pos.rec (motive := fun _ => WK Blk (L9 Blk)) ⟨fun t k => Nd.rec (motive := fun _ => Ans) (fun _ _ c _ _ _ _ => Fd.rec (motive := fun _ => Ans) .no k c) t, fun x t k => Nd.rec (motive := fun _ => Ans) (fun a b _ d e f g => k (.mk a b (.is x) d e f g)) t, fun t k => Nd.rec (motive := fun _ => Ans) (fun _ _ c _ _ _ _ => Fd.rec (motive := fun _ => Ans) k (fun _ => .no) c) t⟩
      (fun q _ => ⟨fun t k => Nd.rec (motive := fun _ => Ans) (fun _ _ _ _ _ f _ => WK.rec (motive := fun _ => Ans) (fun get _ _ => get f k) (ackb8 q)) t, fun x t k => Nd.rec (motive := fun _ => Ans) (fun a b c d e f g => WK.rec (motive := fun _ => Ans) (fun _ set _ => set x f (fun y => k (.mk a b c d e y g))) (ackb8 q)) t, fun t k => Nd.rec (motive := fun _ => Ans) (fun _ _ _ _ _ f _ => WK.rec (motive := fun _ => Ans) (fun _ _ abs => abs f k) (ackb8 q)) t⟩)
      (fun q _ => ⟨fun t k => Nd.rec (motive := fun _ => Ans) (fun _ _ _ _ _ _ g => WK.rec (motive := fun _ => Ans) (fun get _ _ => get g k) (ackb8 q)) t, fun x t k => Nd.rec (motive := fun _ => Ans) (fun a b c d e f g => WK.rec (motive := fun _ => Ans) (fun _ set _ => set x g (fun y => k (.mk a b c d e f y))) (ackb8 q)) t, fun t k => Nd.rec (motive := fun _ => Ans) (fun _ _ _ _ _ _ g => WK.rec (motive := fun _ => Ans) (fun _ _ abs => abs g k) (ackb8 q)) t⟩) p) p
theorem ackb9_eq (p : Pos) : ackb9 p = ack9 p := by
  cases p with
  | h => rfl
  | o p => cases p with
    | h => rfl
    | o q => unfold ackb9 ack9; simp only [ackb8_eq]
    | i q => unfold ackb9 ack9; simp only [ackb8_eq]
  | i p => cases p with
    | h => rfl
    | o q => unfold ackb9 ack9; simp only [ackb8_eq]
    | i q => unfold ackb9 ack9; simp only [ackb8_eq]
noncomputable def ackb10 (p : Pos) : WK Blk (L10 Blk) :=
  Pos.rec (motive := fun _ => WK Blk (L10 Blk)) ⟨fun t k => Nd.rec (motive := fun _ => Ans) (fun a _ _ _ _ _ _ => Fd.rec (motive := fun _ => Ans) .no k a) t, fun x t k => Nd.rec (motive := fun _ => Ans) (fun _ b c d e f g => k (.mk (.is x) b c d e f g)) t, fun t k => Nd.rec (motive := fun _ => Ans) (fun a _ _ _ _ _ _ => Fd.rec (motive := fun _ => Ans) k (fun _ => .no) a) t⟩
    (fun p _ => Pos.rec (motive := fun _ => WK Blk (L10 Blk)) ⟨fun t k => Nd.rec (motive := fun _ => Ans) (fun _ b _ _ _ _ _ => Fd.rec (motive := fun _ => Ans) .no k b) t, fun x t k => Nd.rec (motive := fun _ => Ans) (fun a _ c d e f g => k (.mk a (.is x) c d e f g)) t, fun t k => Nd.rec (motive := fun _ => Ans) (fun _ b _ _ _ _ _ => Fd.rec (motive := fun _ => Ans) k (fun _ => .no) b) t⟩
      (fun q _ => ⟨fun t k => Nd.rec (motive := fun _ => Ans) (fun _ _ _ d _ _ _ => WK.rec (motive := fun _ => Ans) (fun get _ _ => get d k) (ackb9 q)) t, fun x t k => Nd.rec (motive := fun _ => Ans) (fun a b c d e f g => WK.rec (motive := fun _ => Ans) (fun _ set _ => set x d (fun y => k (.mk a b c y e f g))) (ackb9 q)) t, fun t k => Nd.rec (motive := fun _ => Ans) (fun _ _ _ d _ _ _ => WK.rec (motive := fun _ => Ans) (fun _ _ abs => abs d k) (ackb9 q)) t⟩)
      (fun q _ => ⟨fun t k => Nd.rec (motive := fun _ => Ans) (fun _ _ _ _ e _ _ => WK.rec (motive := fun _ => Ans) (fun get _ _ => get e k) (ackb9 q)) t, fun x t k => Nd.rec (motive := fun _ => Ans) (fun a b c d e f g => WK.rec (motive := fun _ => Ans) (fun _ set _ => set x e (fun y => k (.mk a b c d y f g))) (ackb9 q)) t, fun t k => Nd.rec (motive := fun _ => Ans) (fun _ _ _ _ e _ _ => WK.rec (motive := fun _ => Ans) (fun _ _ abs => abs e k) (ackb9 q)) t⟩) p)
    (fun p _ => Pos.rec (motive := fun _ => WK Blk (L10 Blk)) ⟨fun t k => Nd.rec (motive := fun _ => Ans) (fun _ _ c _ _ _ _ => Fd.rec (motive := fun _ => Ans) .no k c) t, fun x t k => Nd.rec (motive := fun _ => Ans) (fun a b _ d e f g => k (.mk a b (.is x) d e f g)) t, fun t k => Nd.rec (motive := fun _ => Ans) (fun _ _ c _ _ _ _ => Fd.rec (motive := fun _ => Ans) k (fun _ => .no) c) t⟩
      (fun q _ => ⟨fun t k => Nd.rec (motive := fun _ => Ans) (fun _ _ _ _ _ f _ => WK.rec (motive := fun _ => Ans) (fun get _ _ => get f k) (ackb9 q)) t, fun x t k => Nd.rec (motive := fun _ => Ans) (fun a b c d e f g => WK.rec (motive := fun _ => Ans) (fun _ set _ => set x f (fun y => k (.mk a b c d e y g))) (ackb9 q)) t, fun t k => Nd.rec (motive := fun _ => Ans) (fun _ _ _ _ _ f _ => WK.rec (motive := fun _ => Ans) (fun _ _ abs => abs f k) (ackb9 q)) t⟩)
      (fun q _ => ⟨fun t k => Nd.rec (motive := fun _ => Ans) (fun _ _ _ _ _ _ g => WK.rec (motive := fun _ => Ans) (fun get _ _ => get g k) (ackb9 q)) t, fun x t k => Nd.rec (motive := fun _ => Ans) (fun a b c d e f g => WK.rec (motive := fun _ => Ans) (fun _ set _ => set x g (fun y => k (.mk a b c d e f y))) (ackb9 q)) t, fun t k => Nd.rec (motive := fun _ => Ans) (fun _ _ _ _ _ _ g => WK.rec (motive := fun _ => Ans) (fun _ _ abs => abs g k) (ackb9 q)) t⟩) p) p
theorem ackb10_eq (p : Pos) : ackb10 p = ack10 p := by
  cases p with
  | h => rfl
  | o p => cases p with
    | h => rfl
    | o q => unfold ackb10 ack10; simp only [ackb9_eq]
    | i q => unfold ackb10 ack10; simp only [ackb9_eq]
  | i p => cases p with
    | h => rfl
    | o q => unfold ackb10 ack10; simp only [ackb9_eq]
    | i q => unfold ackb10 ack10; simp only [ackb9_eq]
noncomputable def wayKv (o : Nat) : WK AV (L10 AV) := Nat.rec (motive := fun _ => WK AV (L10 AV)) (ackv10 .h) (fun m _ => ackv10 (Pos.ofNat (Nat.succ m))) o
noncomputable def getK {α : Type} (p : Pos) (t : T α) (k : α → Ans) : Ans := WK.rec (motive := fun _ => Ans) (fun get _ _ => get t k) (ack10 p : WK α (L10 α))
noncomputable def setK {α : Type} (x : α) (p : Pos) (t : T α) (k : T α → Ans) : Ans := WK.rec (motive := fun _ => Ans) (fun _ set _ => set x t k) (ack10 p : WK α (L10 α))
noncomputable def absK {α : Type} (p : Pos) (t : T α) (k : Ans) : Ans := WK.rec (motive := fun _ => Ans) (fun _ _ abs => abs t k) (ack10 p : WK α (L10 α))
theorem absK_eq {α : Type} (p : Pos) (t : T α) (k : Ans) : absK p t k = Fd.rec (motive := fun _ => Ans) k (fun _ => .no) (T.fd p t) := (ack10_ok p).abs t k
theorem getK_eq {α : Type} (p : Pos) (t : T α) (k : α → Ans) : getK p t k = Fd.rec (motive := fun _ => Ans) .no k (T.fd p t) := (ack10_ok p).get t k
theorem setK_eq {α : Type} (x : α) (p : Pos) (t : T α) (k : T α → Ans) : setK x p t k = k (T.set x p t) := (ack10_ok p).set x t k
/-- the way to a number's place -/
noncomputable def wayK {α : Type} (o : Nat) : WK α (L10 α) := Nat.rec (motive := fun _ => WK α (L10 α)) (ack10 .h) (fun m _ => ack10 (Pos.ofNat (Nat.succ m))) o
theorem wayKv_eq (o : Nat) : wayKv o = wayK o := by
  cases o with
  | zero => exact ackv10_eq .h
  | succ m => exact ackv10_eq (Pos.ofNat (m + 1))
theorem wayK_eq {α : Type} (o : Nat) : (wayK o : WK α (L10 α)) = ack10 (Pos.ofNat o) := by cases o <;> rfl
noncomputable def getN {α : Type} (o : Nat) (t : T α) (k : α → Ans) : Ans := WK.rec (motive := fun _ => Ans) (fun get _ _ => get t k) (wayK o : WK α (L10 α))
noncomputable def setNK {α : Type} (x : α) (o : Nat) (t : T α) (k : T α → Ans) : Ans := WK.rec (motive := fun _ => Ans) (fun _ set _ => set x t k) (wayK o : WK α (L10 α))
theorem getN_eq {α : Type} (o : Nat) (t : T α) (k : α → Ans) : getN o t k = Fd.rec (motive := fun _ => Ans) .no k (fdN o t) := by
  unfold getN; rw [wayK_eq, fdN_eq]; exact getK_eq (Pos.ofNat o) t k
theorem setNK_eq {α : Type} (x : α) (o : Nat) (t : T α) (k : T α → Ans) : setNK x o t k = k (setN x o t) := by
  unfold setNK; rw [wayK_eq, setN_eq]; exact setK_eq x (Pos.ofNat o) t k
noncomputable def setFromK (vs : List AV) : T AV → Nat → (T AV → Ans) → Ans :=
  List.rec (motive := fun _ => T AV → Nat → (T AV → Ans) → Ans) (fun c _ k => k c) (fun v _ ih c o k => setNK v o c (fun c' => ih c' (Nat.succ o) k)) vs
theorem setFromK_eq (vs : List AV) : ∀ c o k, setFromK vs c o k = k (setFromF vs c o) := by
  induction vs with
  | nil => intro c o k; rfl
  | cons v vs ih => intro c o k; show setNK v o c (fun c' => setFromK vs c' (Nat.succ o) k) = k (setFromF vs (setN v o c) (Nat.succ o)); rw [setNK_eq, ih]
/-- cells, one after the other -/
noncomputable def ldFromK (c : T AV) (n : Nat) : Nat → (List AV → Ans) → Ans :=
  Nat.rec (motive := fun _ => Nat → (List AV → Ans) → Ans) (fun _ k => k []) (fun _ ih o k => getN o c (fun v => ih (Nat.succ o) (fun vs => k (v :: vs)))) n
theorem ldFromK_eq (c : T AV) (n : Nat) : ∀ o k, ldFromK c n o k = VL.rec (motive := fun _ => Ans) .no k (ldFromF c n o) := by
  induction n with
  | zero => intro o k; rfl
  | succ n ih =>
    intro o k
    show getN o c (fun v => ldFromK c n (Nat.succ o) (fun vs => k (v :: vs))) = VL.rec (motive := fun _ => Ans) .no k (Fd.rec (motive := fun _ => VL) .no (fun v => VL.rec (motive := fun _ => VL) .no (fun vs => .is (v :: vs)) (ldFromF c n (Nat.succ o))) (fdN o c))
    rw [getN_eq]
    cases fdN o c with
    | no => rfl
    | is v =>
      simp only [ih]
      cases ldFromF c n (Nat.succ o) <;> rfl
/-- a number, reckoned -/
noncomputable def forceK (n : Nat) (k : Nat → Ans) : Ans := Nat.rec (motive := fun _ => Ans) (k (nat_lit 0)) (fun m _ => k (Nat.succ m)) n
theorem forceK_eq (n : Nat) (k : Nat → Ans) : forceK n k = k n := by cases n <;> rfl
noncomputable def forceI (n : Int) (k : Int → Ans) : Ans := Int.rec (motive := fun _ => Ans) (fun m => Nat.rec (motive := fun _ => Ans) (k (.ofNat (nat_lit 0))) (fun m _ => k (.ofNat (Nat.succ m))) m) (fun m => Nat.rec (motive := fun _ => Ans) (k (.negSucc (nat_lit 0))) (fun m _ => k (.negSucc (Nat.succ m))) m) n
theorem forceI_eq (n : Int) (k : Int → Ans) : forceI n k = k n := by cases n with | ofNat m => cases m <;> rfl | negSucc m => cases m <;> rfl
noncomputable def forceB (b : Bool) (k : Bool → Ans) : Ans := Bool.rec (k false) (k true) b
theorem forceB_eq (b : Bool) (k : Bool → Ans) : forceB b k = k b := by cases b <;> rfl
noncomputable def forceP (p : Pos) (k : Pos → Ans) : Ans := Pos.rec (motive := fun _ => Ans) (k .h) (fun p _ => k (.o p)) (fun p _ => k (.i p)) p
theorem forceP_eq (p : Pos) (k : Pos → Ans) : forceP p k = k p := by cases p <;> rfl

/-! ## Temporaries -/

structure EK where
  f : E → RG → (AV → Ans) → Ans
/-- the way to a temporary in the list: 10 at once -/
noncomputable def envKs (ih : Nat → EK) (i : Nat) : EK := Nat.rec (motive := fun _ => EK) ⟨fun e _ k => E.rec (motive := fun _ => Ans) .no (fun v _ _ => k v) e⟩ (fun i _ => Nat.rec (motive := fun _ => EK) ⟨fun e _ k => E.rec (motive := fun _ => Ans) .no (fun _ t _ => E.rec (motive := fun _ => Ans) .no (fun v _ _ => k v) t) e⟩ (fun i _ => Nat.rec (motive := fun _ => EK) ⟨fun e _ k => E.rec (motive := fun _ => Ans) .no (fun _ t _ => E.rec (motive := fun _ => Ans) .no (fun _ t _ => E.rec (motive := fun _ => Ans) .no (fun v _ _ => k v) t) t) e⟩ (fun i _ => Nat.rec (motive := fun _ => EK) ⟨fun e _ k => E.rec (motive := fun _ => Ans) .no (fun _ t _ => E.rec (motive := fun _ => Ans) .no (fun _ t _ => E.rec (motive := fun _ => Ans) .no (fun _ t _ => E.rec (motive := fun _ => Ans) .no (fun v _ _ => k v) t) t) t) e⟩ (fun i _ => Nat.rec (motive := fun _ => EK) ⟨fun e _ k => E.rec (motive := fun _ => Ans) .no (fun _ t _ => E.rec (motive := fun _ => Ans) .no (fun _ t _ => E.rec (motive := fun _ => Ans) .no (fun _ t _ => E.rec (motive := fun _ => Ans) .no (fun _ t _ => E.rec (motive := fun _ => Ans) .no (fun v _ _ => k v) t) t) t) t) e⟩ (fun i _ => Nat.rec (motive := fun _ => EK) ⟨fun e _ k => E.rec (motive := fun _ => Ans) .no (fun _ t _ => E.rec (motive := fun _ => Ans) .no (fun _ t _ => E.rec (motive := fun _ => Ans) .no (fun _ t _ => E.rec (motive := fun _ => Ans) .no (fun _ t _ => E.rec (motive := fun _ => Ans) .no (fun _ t _ => E.rec (motive := fun _ => Ans) .no (fun v _ _ => k v) t) t) t) t) t) e⟩ (fun i _ => Nat.rec (motive := fun _ => EK) ⟨fun e _ k => E.rec (motive := fun _ => Ans) .no (fun _ t _ => E.rec (motive := fun _ => Ans) .no (fun _ t _ => E.rec (motive := fun _ => Ans) .no (fun _ t _ => E.rec (motive := fun _ => Ans) .no (fun _ t _ => E.rec (motive := fun _ => Ans) .no (fun _ t _ => E.rec (motive := fun _ => Ans) .no (fun _ t _ => E.rec (motive := fun _ => Ans) .no (fun v _ _ => k v) t) t) t) t) t) t) e⟩ (fun i _ => Nat.rec (motive := fun _ => EK) ⟨fun e _ k => E.rec (motive := fun _ => Ans) .no (fun _ t _ => E.rec (motive := fun _ => Ans) .no (fun _ t _ => E.rec (motive := fun _ => Ans) .no (fun _ t _ => E.rec (motive := fun _ => Ans) .no (fun _ t _ => E.rec (motive := fun _ => Ans) .no (fun _ t _ => E.rec (motive := fun _ => Ans) .no (fun _ t _ => E.rec (motive := fun _ => Ans) .no (fun _ t _ => E.rec (motive := fun _ => Ans) .no (fun v _ _ => k v) t) t) t) t) t) t) t) e⟩ (fun i _ => Nat.rec (motive := fun _ => EK) ⟨fun e _ k => E.rec (motive := fun _ => Ans) .no (fun _ t _ => E.rec (motive := fun _ => Ans) .no (fun _ t _ => E.rec (motive := fun _ => Ans) .no (fun _ t _ => E.rec (motive := fun _ => Ans) .no (fun _ t _ => E.rec (motive := fun _ => Ans) .no (fun _ t _ => E.rec (motive := fun _ => Ans) .no (fun _ t _ => E.rec (motive := fun _ => Ans) .no (fun _ t _ => E.rec (motive := fun _ => Ans) .no (fun _ t _ => E.rec (motive := fun _ => Ans) .no (fun v _ _ => k v) t) t) t) t) t) t) t) t) e⟩ (fun i _ => Nat.rec (motive := fun _ => EK) ⟨fun e _ k => E.rec (motive := fun _ => Ans) .no (fun _ t _ => E.rec (motive := fun _ => Ans) .no (fun _ t _ => E.rec (motive := fun _ => Ans) .no (fun _ t _ => E.rec (motive := fun _ => Ans) .no (fun _ t _ => E.rec (motive := fun _ => Ans) .no (fun _ t _ => E.rec (motive := fun _ => Ans) .no (fun _ t _ => E.rec (motive := fun _ => Ans) .no (fun _ t _ => E.rec (motive := fun _ => Ans) .no (fun _ t _ => E.rec (motive := fun _ => Ans) .no (fun _ t _ => E.rec (motive := fun _ => Ans) .no (fun v _ _ => k v) t) t) t) t) t) t) t) t) t) e⟩ (fun i _ => ⟨fun e g k => E.rec (motive := fun _ => Ans) .no (fun _ t _ => E.rec (motive := fun _ => Ans) .no (fun _ t _ => E.rec (motive := fun _ => Ans) .no (fun _ t _ => E.rec (motive := fun _ => Ans) .no (fun _ t _ => E.rec (motive := fun _ => Ans) .no (fun _ t _ => E.rec (motive := fun _ => Ans) .no (fun _ t _ => E.rec (motive := fun _ => Ans) .no (fun _ t _ => E.rec (motive := fun _ => Ans) .no (fun _ t _ => E.rec (motive := fun _ => Ans) .no (fun _ t _ => E.rec (motive := fun _ => Ans) .no (fun _ t _ => EK.rec (motive := fun _ => Ans) (fun f => f t g k) (ih i)) t) t) t) t) t) t) t) t) t) e⟩) i) i) i) i) i) i) i) i) i) i
noncomputable def envKf (n : Nat) : Nat → EK := Nat.rec (motive := fun _ => Nat → EK) (fun _ => ⟨fun _ _ _ => .no⟩) (fun _ ih i => envKs ih i) n
noncomputable def envK (i : Nat) : EK := envKf (nat_lit 40) i
noncomputable def rgK (i : Nat) : EK := Nat.rec (motive := fun _ => EK) ⟨fun _ g k => RG.rec (motive := fun _ => Ans) (fun v _ _ _ _ _ _ _ _ _ _ _ _ _ _ _ => k v) g⟩ (fun i _ => Nat.rec (motive := fun _ => EK) ⟨fun _ g k => RG.rec (motive := fun _ => Ans) (fun _ v _ _ _ _ _ _ _ _ _ _ _ _ _ _ => k v) g⟩ (fun i _ => Nat.rec (motive := fun _ => EK) ⟨fun _ g k => RG.rec (motive := fun _ => Ans) (fun _ _ v _ _ _ _ _ _ _ _ _ _ _ _ _ => k v) g⟩ (fun i _ => Nat.rec (motive := fun _ => EK) ⟨fun _ g k => RG.rec (motive := fun _ => Ans) (fun _ _ _ v _ _ _ _ _ _ _ _ _ _ _ _ => k v) g⟩ (fun i _ => Nat.rec (motive := fun _ => EK) ⟨fun _ g k => RG.rec (motive := fun _ => Ans) (fun _ _ _ _ v _ _ _ _ _ _ _ _ _ _ _ => k v) g⟩ (fun i _ => Nat.rec (motive := fun _ => EK) ⟨fun _ g k => RG.rec (motive := fun _ => Ans) (fun _ _ _ _ _ v _ _ _ _ _ _ _ _ _ _ => k v) g⟩ (fun i _ => Nat.rec (motive := fun _ => EK) ⟨fun _ g k => RG.rec (motive := fun _ => Ans) (fun _ _ _ _ _ _ v _ _ _ _ _ _ _ _ _ => k v) g⟩ (fun i _ => Nat.rec (motive := fun _ => EK) ⟨fun _ g k => RG.rec (motive := fun _ => Ans) (fun _ _ _ _ _ _ _ v _ _ _ _ _ _ _ _ => k v) g⟩ (fun i _ => Nat.rec (motive := fun _ => EK) ⟨fun _ g k => RG.rec (motive := fun _ => Ans) (fun _ _ _ _ _ _ _ _ v _ _ _ _ _ _ _ => k v) g⟩ (fun i _ => Nat.rec (motive := fun _ => EK) ⟨fun _ g k => RG.rec (motive := fun _ => Ans) (fun _ _ _ _ _ _ _ _ _ v _ _ _ _ _ _ => k v) g⟩ (fun i _ => Nat.rec (motive := fun _ => EK) ⟨fun _ g k => RG.rec (motive := fun _ => Ans) (fun _ _ _ _ _ _ _ _ _ _ v _ _ _ _ _ => k v) g⟩ (fun i _ => Nat.rec (motive := fun _ => EK) ⟨fun _ g k => RG.rec (motive := fun _ => Ans) (fun _ _ _ _ _ _ _ _ _ _ _ v _ _ _ _ => k v) g⟩ (fun i _ => Nat.rec (motive := fun _ => EK) ⟨fun _ g k => RG.rec (motive := fun _ => Ans) (fun _ _ _ _ _ _ _ _ _ _ _ _ v _ _ _ => k v) g⟩ (fun i _ => Nat.rec (motive := fun _ => EK) ⟨fun _ g k => RG.rec (motive := fun _ => Ans) (fun _ _ _ _ _ _ _ _ _ _ _ _ _ v _ _ => k v) g⟩ (fun i _ => Nat.rec (motive := fun _ => EK) ⟨fun _ g k => RG.rec (motive := fun _ => Ans) (fun _ _ _ _ _ _ _ _ _ _ _ _ _ _ v _ => k v) g⟩ (fun i _ => Nat.rec (motive := fun _ => EK) ⟨fun _ g k => RG.rec (motive := fun _ => Ans) (fun _ _ _ _ _ _ _ _ _ _ _ _ _ _ _ v => k v) g⟩ (fun _i _ => ⟨fun _ _ _ => .no⟩) i) i) i) i) i) i) i) i) i) i) i) i) i) i) i) i
theorem rgK_eq {i : Nat} (hi : i < 16) (e : E) (g : RG) (k : AV → Ans) : (rgK i).f e g k = k ((rgW i).f e g) := by
  obtain ⟨a0, a1, a2, a3, a4, a5, a6, a7, a8, a9, a10, a11, a12, a13, a14, a15⟩ := g
  match i, hi with
  | 0, _ => rfl
  | 1, _ => rfl
  | 2, _ => rfl
  | 3, _ => rfl
  | 4, _ => rfl
  | 5, _ => rfl
  | 6, _ => rfl
  | 7, _ => rfl
  | 8, _ => rfl
  | 9, _ => rfl
  | 10, _ => rfl
  | 11, _ => rfl
  | 12, _ => rfl
  | 13, _ => rfl
  | 14, _ => rfl
  | 15, _ => rfl
  | n + 16, h => omega
theorem envKs_eq {ih : Nat → EK} (h : ∀ i e g k, (ih i).f e g k = .yes → k ((envW i).f e g) = .yes) (i : Nat) (e : E) (g : RG) (k : AV → Ans) (hr : (envKs ih i).f e g k = .yes) : k ((envW i).f e g) = .yes := by
  cases i with
  | zero => cases e with
    | nil => cases hr
    | c v t => exact hr
  | succ i => cases e with
    | nil => exact (by (iterate 12 (all_goals first | (cases hr; done) | cases i | (rename_i i; cases i))))
    | c v e =>
      cases i with
      | zero => cases e with
        | nil => cases hr
        | c v t => exact hr
      | succ i => cases e with
        | nil => exact (by (iterate 12 (all_goals first | (cases hr; done) | cases i | (rename_i i; cases i))))
        | c v e =>
          cases i with
          | zero => cases e with
            | nil => cases hr
            | c v t => exact hr
          | succ i => cases e with
            | nil => exact (by (iterate 12 (all_goals first | (cases hr; done) | cases i | (rename_i i; cases i))))
            | c v e =>
              cases i with
              | zero => cases e with
                | nil => cases hr
                | c v t => exact hr
              | succ i => cases e with
                | nil => exact (by (iterate 12 (all_goals first | (cases hr; done) | cases i | (rename_i i; cases i))))
                | c v e =>
                  cases i with
                  | zero => cases e with
                    | nil => cases hr
                    | c v t => exact hr
                  | succ i => cases e with
                    | nil => exact (by (iterate 12 (all_goals first | (cases hr; done) | cases i | (rename_i i; cases i))))
                    | c v e =>
                      cases i with
                      | zero => cases e with
                        | nil => cases hr
                        | c v t => exact hr
                      | succ i => cases e with
                        | nil => exact (by (iterate 12 (all_goals first | (cases hr; done) | cases i | (rename_i i; cases i))))
                        | c v e =>
                          cases i with
                          | zero => cases e with
                            | nil => cases hr
                            | c v t => exact hr
                          | succ i => cases e with
                            | nil => exact (by (iterate 12 (all_goals first | (cases hr; done) | cases i | (rename_i i; cases i))))
                            | c v e =>
                              cases i with
                              | zero => cases e with
                                | nil => cases hr
                                | c v t => exact hr
                              | succ i => cases e with
                                | nil => exact (by (iterate 12 (all_goals first | (cases hr; done) | cases i | (rename_i i; cases i))))
                                | c v e =>
                                  cases i with
                                  | zero => cases e with
                                    | nil => cases hr
                                    | c v t => exact hr
                                  | succ i => cases e with
                                    | nil => exact (by (iterate 12 (all_goals first | (cases hr; done) | cases i | (rename_i i; cases i))))
                                    | c v e =>
                                      cases i with
                                      | zero => cases e with
                                        | nil => cases hr
                                        | c v t => exact hr
                                      | succ i => cases e with
                                        | nil => exact (by (iterate 12 (all_goals first | (cases hr; done) | cases i | (rename_i i; cases i))))
                                        | c v e =>
                                          exact h i e g k hr
theorem envKf_eq (n : Nat) : ∀ (i : Nat) (e : E) (g : RG) (k : AV → Ans), (envKf n i).f e g k = .yes → k ((envW i).f e g) = .yes := by
  induction n with
  | zero => intro i e g k hr; cases hr
  | succ n ih => intro i e g k hr; exact envKs_eq ih i e g k hr
theorem envK_eq {i : Nat} {e : E} {g : RG} {k : AV → Ans} (hr : (envK i).f e g k = .yes) : k ((envW i).f e g) = .yes := envKf_eq 40 i e g k hr
end Go.Ev

